/- CollideRivals: what a step gives. -/
import Derived.Test.YtimdfdmdogeiaaaCP6
set_option linter.all false
set_option linter.unusedSimpArgs false
set_option linter.unusedVariables false
namespace Go.V
open Go Go.Proofs

def noMsg : Msg := ⟨0, noOpn, 0, 0, []⟩

abbrev evC (k : Int) (m : Msg) (code sub : Int) (data : List (List D)) : List C :=
  [cI k, cI m.typ, cU m.opn.asn, cI m.opn.hold, cU m.opn.id, cB m.opn.four, .d (.sl []), cI 0, cI 0, .d (.sl []), cU 0, cU 0, cU 0, cU 0, cU 0, .d (.sl []), .d (.sl []), cI m.code, cI m.sub, .d (.sl m.data), cI code, cI sub, .d (.sl data)]

abbrev otC (xs : List (List D)) (cn cl up lost : Bool) : List C := [.d (.sl xs), cB cn, cB cl, cB up, cB lost]

theorem pc47n (s : Sd) (f : Fs) (hf : f.state = 3) (o : Opn) (hj : (judgeV o s.peer s.id).1 = 0) (cn cl up lost : Bool) : PC Try.prog 47 [mp, .agg (⟨1, o, 0, 0, []⟩ : Msg).cs] (tab [mcs s f .nilsl cn cl up lost]) (.tup []) (tab [mcs s (openF s o) (.osl 59 19 [keepM.ds]) cn cl up lost]) := by
  refine F47.pc (css := [_]) (pre := [_]) (new := []) (by simp) rfl none ?_
  unfold c47
  repeat (first
    | refine w_seq ?_
    | refine w_region ?_
    | refine w_draw0 ?_
    | refine w_nil ?_
    | refine q_then ?_
    | refine w_skip ?_
    | refine w_ret ?_
    | refine w_block ?_
    | refine w_scope ?_
    | refine w_label ?_
    | refine q_thenR ?_
    | refine q_blockR ?_
    | refine q_blockN ?_
    | refine w_exit ?_
    | refine q_thenE ?_
    | refine q_blockE ?_
    | refine q_blockO rfl ?_
    | (apply w_op rfl
       · simp 
         first | rfl | exact ⟨‹_›, rfl⟩)
    | (refine w_condT ?_ ?_
       · simp 
         done)
    | (refine w_condF ?_ ?_
       · simp 
         done)
    | (apply w_opT rfl
       · simp 
         done
       · simp 
         rfl)
    | (refine w_opF ?_ ?_
       · simp 
         done))
  apply w_call [0] (hc := by kernel_rfl) (pc := pc56n s f hf o hj cn cl up lost)
  · decide
  · decide
  · simp 
  · simp 
  · simp 
  · simp 
  · simp 
  · (simp ; rfl)
  repeat (first
    | refine w_seq ?_
    | refine w_region ?_
    | refine w_draw0 ?_
    | refine w_nil ?_
    | refine q_then ?_
    | refine w_skip ?_
    | refine w_ret ?_
    | refine w_block ?_
    | refine w_scope ?_
    | refine w_label ?_
    | refine q_thenR ?_
    | refine q_blockR ?_
    | refine q_blockN ?_
    | refine w_exit ?_
    | refine q_thenE ?_
    | refine q_blockE ?_
    | refine q_blockO rfl ?_
    | (apply w_op rfl
       · simp 
         first | rfl | exact ⟨‹_›, rfl⟩)
    | (refine w_condT ?_ ?_
       · simp 
         done)
    | (refine w_condF ?_ ?_
       · simp 
         done)
    | (apply w_opT rfl
       · simp 
         done
       · simp 
         rfl)
    | (refine w_opF ?_ ?_
       · simp 
         done))
  simp [Fin]

theorem pc47f (s : Sd) (f : Fs) (hf : f.state = 3) (o : Opn) (hj : (judgeV o s.peer s.id).1 ≠ 0) (cn cl up lost : Bool) : PC Try.prog 47 [mp, .agg (⟨1, o, 0, 0, []⟩ : Msg).cs] (tab [mcs s f .nilsl cn cl up lost]) (.tup []) (tab [mcs s (idleF s) (.osl 59 19 [(badM o s).ds]) cn true up false]) := by
  refine F47.pc (css := [_]) (pre := [_]) (new := []) (by simp) rfl none ?_
  unfold c47
  repeat (first
    | refine w_seq ?_
    | refine w_region ?_
    | refine w_draw0 ?_
    | refine w_nil ?_
    | refine q_then ?_
    | refine w_skip ?_
    | refine w_ret ?_
    | refine w_block ?_
    | refine w_scope ?_
    | refine w_label ?_
    | refine q_thenR ?_
    | refine q_blockR ?_
    | refine q_blockN ?_
    | refine w_exit ?_
    | refine q_thenE ?_
    | refine q_blockE ?_
    | refine q_blockO rfl ?_
    | (apply w_op rfl
       · simp 
         first | rfl | exact ⟨‹_›, rfl⟩)
    | (refine w_condT ?_ ?_
       · simp 
         done)
    | (refine w_condF ?_ ?_
       · simp 
         done)
    | (apply w_opT rfl
       · simp 
         done
       · simp 
         rfl)
    | (refine w_opF ?_ ?_
       · simp 
         done))
  apply w_call [0] (hc := by kernel_rfl) (pc := pc56f s f hf o hj cn cl up lost)
  · decide
  · decide
  · simp 
  · simp 
  · simp 
  · simp 
  · simp 
  · (simp ; rfl)
  repeat (first
    | refine w_seq ?_
    | refine w_region ?_
    | refine w_draw0 ?_
    | refine w_nil ?_
    | refine q_then ?_
    | refine w_skip ?_
    | refine w_ret ?_
    | refine w_block ?_
    | refine w_scope ?_
    | refine w_label ?_
    | refine q_thenR ?_
    | refine q_blockR ?_
    | refine q_blockN ?_
    | refine w_exit ?_
    | refine q_thenE ?_
    | refine q_blockE ?_
    | refine q_blockO rfl ?_
    | (apply w_op rfl
       · simp 
         first | rfl | exact ⟨‹_›, rfl⟩)
    | (refine w_condT ?_ ?_
       · simp 
         done)
    | (refine w_condF ?_ ?_
       · simp 
         done)
    | (apply w_opT rfl
       · simp 
         done
       · simp 
         rfl)
    | (refine w_opF ?_ ?_
       · simp 
         done))
  simp [Fin]

/-- closed, in a state that is idle -/
theorem pc37i (s : Sd) (f : Fs) (hf : f.state = 0) (code sub : Int) (data : List (List D)) : PC Try.prog 37 [mp, .agg (evC 8 noMsg code sub data)] (tab [mcs s f .nilsl false false false false]) (.tup []) (tab [mcs s f .nilsl false false false false]) := by
  refine F37.pc (css := [_]) (pre := [_]) (new := []) (by simp) rfl none ?_
  unfold c37
  repeat (first
    | refine w_seq ?_
    | refine w_region ?_
    | refine w_draw0 ?_
    | refine w_nil ?_
    | refine q_then ?_
    | refine w_skip ?_
    | refine w_ret ?_
    | refine w_block ?_
    | refine w_scope ?_
    | refine w_label ?_
    | refine q_thenR ?_
    | refine q_blockR ?_
    | refine q_blockN ?_
    | refine w_exit ?_
    | refine q_thenE ?_
    | refine q_blockE ?_
    | refine q_blockO rfl ?_
    | (apply w_op rfl
       · simp [hf]
         first | rfl | exact ⟨‹_›, rfl⟩)
    | (refine w_condT ?_ ?_
       · simp [hf]
         done)
    | (refine w_condF ?_ ?_
       · simp [hf]
         done)
    | (apply w_opT rfl
       · simp [hf]
         done
       · simp [hf]
         rfl)
    | (refine w_opF ?_ ?_
       · simp [hf]
         done))
  simp [Fin, hf]

set_option maxRecDepth 8000 in
/-- closed, in another, with a link -/
theorem pc37c1 (s : Sd) (f : Fs) (hf : f.state ≠ 0) (hl : linkedV f = true) (code sub : Int) (hc : code ≠ 0) (data : List (List D)) (h1 : ∀ x ∈ data, x.length = 1) (h2 : data.length ≤ 140737488355328) : PC Try.prog 37 [mp, .agg (evC 8 noMsg code sub data)] (tab [mcs s f .nilsl false false false false]) (.tup [])
    (tab [mcs s ⟨0, 0, 0, 0, s.retry, noOpn⟩ (.osl 59 19 [(⟨3, noOpn, code, sub, data⟩ : Msg).ds]) false true false (f.state == 5)]) := by
  have hpc := pc48 s f false false false false code sub data h1 h2
  simp only [hl, hc, ne_eq, not_false_eq_true, and_self, if_true, Bool.true_or] at hpc
  refine F37.pc (css := [_]) (pre := [_]) (new := []) (by simp) rfl none ?_
  unfold c37
  repeat (first
    | refine w_seq ?_
    | refine w_region ?_
    | refine w_draw0 ?_
    | refine w_nil ?_
    | refine q_then ?_
    | refine w_skip ?_
    | refine w_ret ?_
    | refine w_block ?_
    | refine w_scope ?_
    | refine w_label ?_
    | refine q_thenR ?_
    | refine q_blockR ?_
    | refine q_blockN ?_
    | refine w_exit ?_
    | refine q_thenE ?_
    | refine q_blockE ?_
    | refine q_blockO rfl ?_
    | (apply w_op rfl
       · simp [hf]
         first | rfl | exact ⟨‹_›, rfl⟩)
    | (refine w_condT ?_ ?_
       · simp [hf]
         done)
    | (refine w_condF ?_ ?_
       · simp [hf]
         done)
    | (apply w_opT rfl
       · simp [hf]
         done
       · simp [hf]
         rfl)
    | (refine w_opF ?_ ?_
       · simp [hf]
         done))
  apply w_call [0] (hc := by kernel_rfl) (pc := hpc)
  · decide
  · decide
  · simp 
  · simp 
  · simp 
  · simp 
  · simp 
  · (simp ; rfl)
  repeat (first
    | refine w_seq ?_
    | refine w_region ?_
    | refine w_draw0 ?_
    | refine w_nil ?_
    | refine q_then ?_
    | refine w_skip ?_
    | refine w_ret ?_
    | refine w_block ?_
    | refine w_scope ?_
    | refine w_label ?_
    | refine q_thenR ?_
    | refine q_blockR ?_
    | refine q_blockN ?_
    | refine w_exit ?_
    | refine q_thenE ?_
    | refine q_blockE ?_
    | refine q_blockO rfl ?_
    | (apply w_op rfl
       · simp 
         first | rfl | exact ⟨‹_›, rfl⟩)
    | (refine w_condT ?_ ?_
       · simp 
         done)
    | (refine w_condF ?_ ?_
       · simp 
         done)
    | (apply w_opT rfl
       · simp 
         done
       · simp 
         rfl)
    | (refine w_opF ?_ ?_
       · simp 
         done))
  simp [Fin]

set_option maxRecDepth 8000 in
/-- closed, in another, without a link -/
theorem pc37c0 (s : Sd) (f : Fs) (hf : f.state ≠ 0) (hl : linkedV f = false) (code sub : Int) (data : List (List D)) (h1 : ∀ x ∈ data, x.length = 1) (h2 : data.length ≤ 140737488355328) : PC Try.prog 37 [mp, .agg (evC 8 noMsg code sub data)] (tab [mcs s f .nilsl false false false false]) (.tup [])
    (tab [mcs s ⟨0, 0, 0, 0, s.retry, noOpn⟩ .nilsl false (f.state == 1) false (f.state == 5)]) := by
  have hpc := pc48 s f false false false false code sub data h1 h2
  simp only [hl, Bool.false_eq_true, false_and, if_false, Bool.false_or] at hpc
  refine F37.pc (css := [_]) (pre := [_]) (new := []) (by simp) rfl none ?_
  unfold c37
  repeat (first
    | refine w_seq ?_
    | refine w_region ?_
    | refine w_draw0 ?_
    | refine w_nil ?_
    | refine q_then ?_
    | refine w_skip ?_
    | refine w_ret ?_
    | refine w_block ?_
    | refine w_scope ?_
    | refine w_label ?_
    | refine q_thenR ?_
    | refine q_blockR ?_
    | refine q_blockN ?_
    | refine w_exit ?_
    | refine q_thenE ?_
    | refine q_blockE ?_
    | refine q_blockO rfl ?_
    | (apply w_op rfl
       · simp [hf]
         first | rfl | exact ⟨‹_›, rfl⟩)
    | (refine w_condT ?_ ?_
       · simp [hf]
         done)
    | (refine w_condF ?_ ?_
       · simp [hf]
         done)
    | (apply w_opT rfl
       · simp [hf]
         done
       · simp [hf]
         rfl)
    | (refine w_opF ?_ ?_
       · simp [hf]
         done))
  apply w_call [0] (hc := by kernel_rfl) (pc := hpc)
  · decide
  · decide
  · simp 
  · simp 
  · simp 
  · simp 
  · simp 
  · (simp ; rfl)
  repeat (first
    | refine w_seq ?_
    | refine w_region ?_
    | refine w_draw0 ?_
    | refine w_nil ?_
    | refine q_then ?_
    | refine w_skip ?_
    | refine w_ret ?_
    | refine w_block ?_
    | refine w_scope ?_
    | refine w_label ?_
    | refine q_thenR ?_
    | refine q_blockR ?_
    | refine q_blockN ?_
    | refine w_exit ?_
    | refine q_thenE ?_
    | refine q_blockE ?_
    | refine q_blockO rfl ?_
    | (apply w_op rfl
       · simp 
         first | rfl | exact ⟨‹_›, rfl⟩)
    | (refine w_condT ?_ ?_
       · simp 
         done)
    | (refine w_condF ?_ ?_
       · simp 
         done)
    | (apply w_opT rfl
       · simp 
         done
       · simp 
         rfl)
    | (refine w_opF ?_ ?_
       · simp 
         done))
  simp [Fin]

/-- the link is there -/
theorem pc37u (s : Sd) (f : Fs) (hf : f.state = 2) : PC Try.prog 37 [mp, .agg (evC 3 noMsg 0 0 [])] (tab [mcs s f .nilsl false false false false]) (.tup []) (tab [mcs s upF (.osl 59 19 [(helloV s).ds]) false false false false]) := by
  refine F37.pc (css := [_]) (pre := [_]) (new := []) (by simp) rfl none ?_
  unfold c37
  repeat (first
    | refine w_seq ?_
    | refine w_region ?_
    | refine w_draw0 ?_
    | refine w_nil ?_
    | refine q_then ?_
    | refine w_skip ?_
    | refine w_ret ?_
    | refine w_block ?_
    | refine w_scope ?_
    | refine w_label ?_
    | refine q_thenR ?_
    | refine q_blockR ?_
    | refine q_blockN ?_
    | refine w_exit ?_
    | refine q_thenE ?_
    | refine q_blockE ?_
    | refine q_blockO rfl ?_
    | (apply w_op rfl
       · simp [hf]
         first | rfl | exact ⟨‹_›, rfl⟩)
    | (refine w_condT ?_ ?_
       · simp [hf]
         done)
    | (refine w_condF ?_ ?_
       · simp [hf]
         done)
    | (apply w_opT rfl
       · simp [hf]
         done
       · simp [hf]
         rfl)
    | (refine w_opF ?_ ?_
       · simp [hf]
         done))
  apply w_call [0] (hc := by kernel_rfl) (pc := pc43 s f false false false false)
  · decide
  · decide
  · simp [hf]
  · simp [hf]
  · simp [hf]
  · simp [hf]
  · simp [hf]
  · (simp [hf]; rfl)
  repeat (first
    | refine w_seq ?_
    | refine w_region ?_
    | refine w_draw0 ?_
    | refine w_nil ?_
    | refine q_then ?_
    | refine w_skip ?_
    | refine w_ret ?_
    | refine w_block ?_
    | refine w_scope ?_
    | refine w_label ?_
    | refine q_thenR ?_
    | refine q_blockR ?_
    | refine q_blockN ?_
    | refine w_exit ?_
    | refine q_thenE ?_
    | refine q_blockE ?_
    | refine q_blockO rfl ?_
    | (apply w_op rfl
       · simp 
         first | rfl | exact ⟨‹_›, rfl⟩)
    | (refine w_condT ?_ ?_
       · simp 
         done)
    | (refine w_condF ?_ ?_
       · simp 
         done)
    | (apply w_opT rfl
       · simp 
         done
       · simp 
         rfl)
    | (refine w_opF ?_ ?_
       · simp 
         done))
  simp [Fin]

/-- an Open came -/
theorem pc37n (s : Sd) (f : Fs) (hf : f.state = 3) (o : Opn) (hj : (judgeV o s.peer s.id).1 = 0) : PC Try.prog 37 [mp, .agg (evC 6 ⟨1, o, 0, 0, []⟩ 0 0 [])] (tab [mcs s f .nilsl false false false false]) (.tup []) (tab [mcs s (openF s o) (.osl 59 19 [keepM.ds]) false false false false]) := by
  have hl : linkedV f = true := by simp [linkedV, hf]
  have hl' := pc46 f
  rw [hl] at hl'
  refine F37.pc (css := [_]) (pre := [_]) (new := []) (by simp) rfl none ?_
  unfold c37
  repeat (first
    | refine w_seq ?_
    | refine w_region ?_
    | refine w_draw0 ?_
    | refine w_nil ?_
    | refine q_then ?_
    | refine w_skip ?_
    | refine w_ret ?_
    | refine w_block ?_
    | refine w_scope ?_
    | refine w_label ?_
    | refine q_thenR ?_
    | refine q_blockR ?_
    | refine q_blockN ?_
    | refine w_exit ?_
    | refine q_thenE ?_
    | refine q_blockE ?_
    | refine q_blockO rfl ?_
    | (apply w_op rfl
       · simp [hf]
         first | rfl | exact ⟨‹_›, rfl⟩)
    | (refine w_condT ?_ ?_
       · simp [hf]
         done)
    | (refine w_condF ?_ ?_
       · simp [hf]
         done)
    | (apply w_opT rfl
       · simp [hf]
         done
       · simp [hf]
         rfl)
    | (refine w_opF ?_ ?_
       · simp [hf]
         done))
  apply w_call0T (hc := by kernel_rfl) (pc := hl')
  · simp [hf]
  · simp [hf]
  · (simp [hf]; rfl)
  repeat (first
    | refine w_seq ?_
    | refine w_region ?_
    | refine w_draw0 ?_
    | refine w_nil ?_
    | refine q_then ?_
    | refine w_skip ?_
    | refine w_ret ?_
    | refine w_block ?_
    | refine w_scope ?_
    | refine w_label ?_
    | refine q_thenR ?_
    | refine q_blockR ?_
    | refine q_blockN ?_
    | refine w_exit ?_
    | refine q_thenE ?_
    | refine q_blockE ?_
    | refine q_blockO rfl ?_
    | (apply w_op rfl
       · simp [hf]
         first | rfl | exact ⟨‹_›, rfl⟩)
    | (refine w_condT ?_ ?_
       · simp [hf]
         done)
    | (refine w_condF ?_ ?_
       · simp [hf]
         done)
    | (apply w_opT rfl
       · simp [hf]
         done
       · simp [hf]
         rfl)
    | (refine w_opF ?_ ?_
       · simp [hf]
         done))
  apply w_call [0] (hc := by kernel_rfl) (pc := pc47n s f hf o hj false false false false)
  · decide
  · decide
  · simp [hf]
  · simp [hf]
  · simp [hf]
  · simp [hf]
  · simp [hf]
  · (simp [hf]; rfl)
  repeat (first
    | refine w_seq ?_
    | refine w_region ?_
    | refine w_draw0 ?_
    | refine w_nil ?_
    | refine q_then ?_
    | refine w_skip ?_
    | refine w_ret ?_
    | refine w_block ?_
    | refine w_scope ?_
    | refine w_label ?_
    | refine q_thenR ?_
    | refine q_blockR ?_
    | refine q_blockN ?_
    | refine w_exit ?_
    | refine q_thenE ?_
    | refine q_blockE ?_
    | refine q_blockO rfl ?_
    | (apply w_op rfl
       · simp 
         first | rfl | exact ⟨‹_›, rfl⟩)
    | (refine w_condT ?_ ?_
       · simp 
         done)
    | (refine w_condF ?_ ?_
       · simp 
         done)
    | (apply w_opT rfl
       · simp 
         done
       · simp 
         rfl)
    | (refine w_opF ?_ ?_
       · simp 
         done))
  simp [Fin]

theorem pc37f (s : Sd) (f : Fs) (hf : f.state = 3) (o : Opn) (hj : (judgeV o s.peer s.id).1 ≠ 0) : PC Try.prog 37 [mp, .agg (evC 6 ⟨1, o, 0, 0, []⟩ 0 0 [])] (tab [mcs s f .nilsl false false false false]) (.tup []) (tab [mcs s (idleF s) (.osl 59 19 [(badM o s).ds]) false true false false]) := by
  have hl : linkedV f = true := by simp [linkedV, hf]
  have hl' := pc46 f
  rw [hl] at hl'
  refine F37.pc (css := [_]) (pre := [_]) (new := []) (by simp) rfl none ?_
  unfold c37
  repeat (first
    | refine w_seq ?_
    | refine w_region ?_
    | refine w_draw0 ?_
    | refine w_nil ?_
    | refine q_then ?_
    | refine w_skip ?_
    | refine w_ret ?_
    | refine w_block ?_
    | refine w_scope ?_
    | refine w_label ?_
    | refine q_thenR ?_
    | refine q_blockR ?_
    | refine q_blockN ?_
    | refine w_exit ?_
    | refine q_thenE ?_
    | refine q_blockE ?_
    | refine q_blockO rfl ?_
    | (apply w_op rfl
       · simp [hf]
         first | rfl | exact ⟨‹_›, rfl⟩)
    | (refine w_condT ?_ ?_
       · simp [hf]
         done)
    | (refine w_condF ?_ ?_
       · simp [hf]
         done)
    | (apply w_opT rfl
       · simp [hf]
         done
       · simp [hf]
         rfl)
    | (refine w_opF ?_ ?_
       · simp [hf]
         done))
  apply w_call0T (hc := by kernel_rfl) (pc := hl')
  · simp [hf]
  · simp [hf]
  · (simp [hf]; rfl)
  repeat (first
    | refine w_seq ?_
    | refine w_region ?_
    | refine w_draw0 ?_
    | refine w_nil ?_
    | refine q_then ?_
    | refine w_skip ?_
    | refine w_ret ?_
    | refine w_block ?_
    | refine w_scope ?_
    | refine w_label ?_
    | refine q_thenR ?_
    | refine q_blockR ?_
    | refine q_blockN ?_
    | refine w_exit ?_
    | refine q_thenE ?_
    | refine q_blockE ?_
    | refine q_blockO rfl ?_
    | (apply w_op rfl
       · simp [hf]
         first | rfl | exact ⟨‹_›, rfl⟩)
    | (refine w_condT ?_ ?_
       · simp [hf]
         done)
    | (refine w_condF ?_ ?_
       · simp [hf]
         done)
    | (apply w_opT rfl
       · simp [hf]
         done
       · simp [hf]
         rfl)
    | (refine w_opF ?_ ?_
       · simp [hf]
         done))
  apply w_call [0] (hc := by kernel_rfl) (pc := pc47f s f hf o hj false false false false)
  · decide
  · decide
  · simp [hf]
  · simp [hf]
  · simp [hf]
  · simp [hf]
  · simp [hf]
  · (simp [hf]; rfl)
  repeat (first
    | refine w_seq ?_
    | refine w_region ?_
    | refine w_draw0 ?_
    | refine w_nil ?_
    | refine q_then ?_
    | refine w_skip ?_
    | refine w_ret ?_
    | refine w_block ?_
    | refine w_scope ?_
    | refine w_label ?_
    | refine q_thenR ?_
    | refine q_blockR ?_
    | refine q_blockN ?_
    | refine w_exit ?_
    | refine q_thenE ?_
    | refine q_blockE ?_
    | refine q_blockO rfl ?_
    | (apply w_op rfl
       · simp 
         first | rfl | exact ⟨‹_›, rfl⟩)
    | (refine w_condT ?_ ?_
       · simp 
         done)
    | (refine w_condF ?_ ?_
       · simp 
         done)
    | (apply w_opT rfl
       · simp 
         done
       · simp 
         rfl)
    | (refine w_opF ?_ ?_
       · simp 
         done))
  simp [Fin]

end Go.V

