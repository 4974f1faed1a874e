/- CollideRivals: the machine's small steps. -/
import Derived.Test.YtimdfdmdogeiaaaCP2
set_option linter.all false
set_option linter.unusedSimpArgs false
set_option linter.unusedVariables false
namespace Go.V
open Go Go.Proofs

def linkedV (f : Fs) : Bool := decide (3 ≤ f.state) && decide (f.state ≤ 5)

theorem pc46 (f : Fs) : PC Try.prog 46 [.agg f.cs] (tab []) (vb (linkedV f)) (tab []) := by
  refine F46.pc0 (by simp) ?_
  unfold c46
  by_cases h : 3 ≤ f.state
  · repeat (first
      | refine w_seq ?_
      | refine w_region ?_
      | refine w_draw0 ?_
      | refine w_nil ?_
      | refine q_then ?_
      | refine w_skip ?_
      | refine w_ret ?_
      | refine w_block ?_
      | refine w_scope ?_
      | refine w_label ?_
      | refine q_thenR ?_
      | refine q_blockR ?_
      | refine q_blockN ?_
      | refine w_exit ?_
      | refine q_thenE ?_
      | refine q_blockE ?_
      | refine q_blockO rfl ?_
      | (apply w_op rfl
         · simp [h]
           first | rfl | exact ⟨‹_›, rfl⟩)
      | (refine w_condT ?_ ?_
         · simp [h]
           done)
      | (refine w_condF ?_ ?_
         · simp [h]
           done)
      | (apply w_opT rfl
         · simp [h]
           done
         · simp [h]
           rfl)
      | (refine w_opF ?_ ?_
         · simp [h]
           done))
    simp [Fin, h, linkedV]
  · repeat (first
      | refine w_seq ?_
      | refine w_region ?_
      | refine w_draw0 ?_
      | refine w_nil ?_
      | refine q_then ?_
      | refine w_skip ?_
      | refine w_ret ?_
      | refine w_block ?_
      | refine w_scope ?_
      | refine w_label ?_
      | refine q_thenR ?_
      | refine q_blockR ?_
      | refine q_blockN ?_
      | refine w_exit ?_
      | refine q_thenE ?_
      | refine q_blockE ?_
      | refine q_blockO rfl ?_
      | (apply w_op rfl
         · simp [h]
           first | rfl | exact ⟨‹_›, rfl⟩)
      | (refine w_condT ?_ ?_
         · simp [h]
           done)
      | (refine w_condF ?_ ?_
         · simp [h]
           done)
      | (apply w_opT rfl
         · simp [h]
           done
         · simp [h]
           rfl)
      | (refine w_opF ?_ ?_
         · simp [h]
           done))
    simp [Fin, h, linkedV]

structure Msg where
  typ : Int
  opn : Opn
  code : Int
  sub : Int
  data : List (List D)

abbrev Msg.ds (m : Msg) : List D := [.v (.int .i64 m.typ), .v (.int .u32 m.opn.asn), .v (.int .i64 m.opn.hold), .v (.int .u32 m.opn.id), .v (.bool m.opn.four), .sl [], .v (.int .i64 0), .v (.int .i64 0), .sl [], .v (.int .u32 0), .v (.int .u32 0), .v (.int .u32 0), .v (.int .u32 0), .v (.int .u32 0), .sl [], .sl [], .v (.int .i64 m.code), .v (.int .i64 m.sub), .sl m.data]
abbrev Msg.cs (m : Msg) : List C := [cI m.typ, cU m.opn.asn, cI m.opn.hold, cU m.opn.id, cB m.opn.four, .d (.sl []), cI 0, cI 0, .d (.sl []), cU 0, cU 0, cU 0, cU 0, cU 0, .d (.sl []), .d (.sl []), cI m.code, cI m.sub, .d (.sl m.data)]

def noOpn : Opn := ⟨0, 0, 0, false⟩

def helloV (s : Sd) : Msg := ⟨1, ⟨s.asn, s.hold, s.id, true⟩, 0, 0, []⟩

theorem pc52 (s : Sd) : PC Try.prog 52 [.agg s.cs] (tab []) (.agg (helloV s).cs) (tab []) := by
  refine F52.pc0 (by simp) ?_
  unfold c52
  repeat (first
    | refine w_seq ?_
    | refine w_region ?_
    | refine w_draw0 ?_
    | refine w_nil ?_
    | refine q_then ?_
    | refine w_skip ?_
    | refine w_ret ?_
    | refine w_block ?_
    | refine w_scope ?_
    | refine w_label ?_
    | refine q_thenR ?_
    | refine q_blockR ?_
    | refine q_blockN ?_
    | refine w_exit ?_
    | refine q_thenE ?_
    | refine q_blockE ?_
    | refine q_blockO rfl ?_
    | (apply w_op rfl
       · simp 
         first | rfl | exact ⟨‹_›, rfl⟩)
    | (refine w_condT ?_ ?_
       · simp 
         done)
    | (refine w_condF ?_ ?_
       · simp 
         done)
    | (apply w_opT rfl
       · simp 
         done
       · simp 
         rfl)
    | (refine w_opF ?_ ?_
       · simp 
         done))
  simp [Fin, helloV]

/-- The machine's cells. -/
abbrev mcs (s : Sd) (f : Fs) (send : C) (cn cl up lost : Bool) : List C :=
  [cU s.asn, cU s.id, cU s.peer, cI s.hold, cI s.retry, cB s.passive, cI f.state, cI f.hold, cI f.holdLeft, cI f.keepLeft, cI f.retryLeft, cU f.peer.asn, cI f.peer.hold, cU f.peer.id, cB f.peer.four, send, cB cn, cB cl, cB up, cB lost]

abbrev mp : SV := .c (.ptr 0 0 0)

theorem pc51 (s : Sd) (f : Fs) (cn cl up lost : Bool) (m : Msg) : PC Try.prog 51 [mp, .agg m.cs] (tab [mcs s f .nilsl cn cl up lost]) (.tup []) (tab [mcs s f (.osl 59 19 [m.ds]) cn cl up lost]) := by
  refine F51.pc (css := [_]) (pre := [_]) (new := []) (by simp) rfl none ?_
  unfold c51
  repeat (first
    | refine w_seq ?_
    | refine w_region ?_
    | refine w_draw0 ?_
    | refine w_nil ?_
    | refine q_then ?_
    | refine w_skip ?_
    | refine w_ret ?_
    | refine w_block ?_
    | refine w_scope ?_
    | refine w_label ?_
    | refine q_thenR ?_
    | refine q_blockR ?_
    | refine q_blockN ?_
    | refine w_exit ?_
    | refine q_thenE ?_
    | refine q_blockE ?_
    | refine q_blockO rfl ?_
    | (apply w_op rfl
       · simp 
         first | rfl | exact ⟨‹_›, rfl⟩)
    | (refine w_condT ?_ ?_
       · simp 
         done)
    | (refine w_condF ?_ ?_
       · simp 
         done)
    | (apply w_opT rfl
       · simp 
         done
       · simp 
         rfl)
    | (refine w_opF ?_ ?_
       · simp 
         done))
  refine w_draw ?_
  repeat (first
    | refine w_dnil ?_
    | (apply d_op rfl
       · simp 
         first | rfl | exact ⟨‹_›, rfl⟩)
    | (apply d_opT rfl
       · simp 
         done
       · simp 
         rfl)
    | (refine d_opF ?_ ?_
       · simp 
         done))
  refine ⟨by simp, ?_⟩
  simp [Fin]

end Go.V

