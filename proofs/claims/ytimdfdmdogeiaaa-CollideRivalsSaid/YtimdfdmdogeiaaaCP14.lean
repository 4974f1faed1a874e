/- CollideRivals: messages that are the same. -/
import Derived.Test.YtimdfdmdogeiaaaCP13
set_option linter.all false
set_option linter.unusedSimpArgs false
set_option linter.unusedVariables false
namespace Go.V
open Go Go.Proofs

def OkMsg (m : Msg) : Prop := ((m.typ = 1 ∧ m.code = 0 ∧ m.sub = 0 ∧ m.data = []) ∨ (m.typ = 3 ∧ m.opn = noOpn) ∨ m = keepM) ∧ ∃ l, numsOf m.data = some l

theorem pc19 (m : Msg) (hm : OkMsg m) : PC Try.prog 19 [.agg m.cs] (tab []) (.agg m.cs) (tab []) := by
  obtain ⟨typ, opn, code, sub, data⟩ := m
  refine F19.pc0 (by simp) ?_
  unfold c19
  rcases hm.1 with ⟨h1, h2, h3, h4⟩ | ⟨h1, h2⟩ | h1
  · simp only at h1 h2 h3 h4
    subst h1 h2 h3 h4
    repeat (first
      | refine w_seq ?_
      | refine w_region ?_
      | refine w_draw0 ?_
      | refine w_nil ?_
      | refine q_then ?_
      | refine w_skip ?_
      | refine w_ret ?_
      | refine w_block ?_
      | refine w_scope ?_
      | refine w_label ?_
      | refine q_thenR ?_
      | refine q_blockR ?_
      | refine q_blockN ?_
      | refine w_exit ?_
      | refine q_thenE ?_
      | refine q_blockE ?_
      | refine q_blockO rfl ?_
      | (apply w_op rfl
         · simp 
           first | rfl | exact ⟨‹_›, rfl⟩)
      | (refine w_condT ?_ ?_
         · simp 
           done)
      | (refine w_condF ?_ ?_
         · simp 
           done)
      | (apply w_opT rfl
         · simp 
           done
         · simp 
           rfl)
      | (refine w_opF ?_ ?_
         · simp 
           done))
    simp [Fin]
  · simp only at h1 h2
    subst h1 h2
    repeat (first
      | refine w_seq ?_
      | refine w_region ?_
      | refine w_draw0 ?_
      | refine w_nil ?_
      | refine q_then ?_
      | refine w_skip ?_
      | refine w_ret ?_
      | refine w_block ?_
      | refine w_scope ?_
      | refine w_label ?_
      | refine q_thenR ?_
      | refine q_blockR ?_
      | refine q_blockN ?_
      | refine w_exit ?_
      | refine q_thenE ?_
      | refine q_blockE ?_
      | refine q_blockO rfl ?_
      | (apply w_op rfl
         · simp 
           first | rfl | exact ⟨‹_›, rfl⟩)
      | (refine w_condT ?_ ?_
         · simp 
           done)
      | (refine w_condF ?_ ?_
         · simp 
           done)
      | (apply w_opT rfl
         · simp 
           done
         · simp 
           rfl)
      | (refine w_opF ?_ ?_
         · simp 
           done))
    simp [Fin, noOpn]
  · simp only [keepM, Msg.mk.injEq] at h1
    obtain ⟨rfl, rfl, rfl, rfl, rfl⟩ := h1
    repeat (first
      | refine w_seq ?_
      | refine w_region ?_
      | refine w_draw0 ?_
      | refine w_nil ?_
      | refine q_then ?_
      | refine w_skip ?_
      | refine w_ret ?_
      | refine w_block ?_
      | refine w_scope ?_
      | refine w_label ?_
      | refine q_thenR ?_
      | refine q_blockR ?_
      | refine q_blockN ?_
      | refine w_exit ?_
      | refine q_thenE ?_
      | refine q_blockE ?_
      | refine q_blockO rfl ?_
      | (apply w_op rfl
         · simp 
           first | rfl | exact ⟨‹_›, rfl⟩)
      | (refine w_condT ?_ ?_
         · simp 
           done)
      | (refine w_condF ?_ ?_
         · simp 
           done)
      | (apply w_opT rfl
         · simp 
           done
         · simp 
           rfl)
      | (refine w_opF ?_ ?_
         · simp 
           done))
    simp [Fin, noOpn]

theorem pc18 (m : Msg) (hm : OkMsg m) : PC Try.prog 18 [.agg m.cs, .agg m.cs] (tab []) (vb true) (tab []) := by
  obtain ⟨l, hl⟩ := hm.2
  refine F18.pc0 (by simp) ?_
  unfold c18
  repeat (first
    | refine w_seq ?_
    | refine w_region ?_
    | refine w_draw0 ?_
    | refine w_nil ?_
    | refine q_then ?_
    | refine w_skip ?_
    | refine w_ret ?_
    | refine w_block ?_
    | refine w_scope ?_
    | refine w_label ?_
    | refine q_thenR ?_
    | refine q_blockR ?_
    | refine q_blockN ?_
    | refine w_exit ?_
    | refine q_thenE ?_
    | refine q_blockE ?_
    | refine q_blockO rfl ?_
    | (apply w_op rfl
       · simp 
         first | rfl | exact ⟨‹_›, rfl⟩)
    | (refine w_condT ?_ ?_
       · simp 
         done)
    | (refine w_condF ?_ ?_
       · simp 
         done)
    | (apply w_opT rfl
       · simp 
         done
       · simp 
         rfl)
    | (refine w_opF ?_ ?_
       · simp 
         done))
  apply w_call0T (hc := by kernel_rfl) (pc := pc28e)
  · simp 
  · simp 
  · (simp ; rfl)
  repeat (first
    | refine w_seq ?_
    | refine w_region ?_
    | refine w_draw0 ?_
    | refine w_nil ?_
    | refine q_then ?_
    | refine w_skip ?_
    | refine w_ret ?_
    | refine w_block ?_
    | refine w_scope ?_
    | refine w_label ?_
    | refine q_thenR ?_
    | refine q_blockR ?_
    | refine q_blockN ?_
    | refine w_exit ?_
    | refine q_thenE ?_
    | refine q_blockE ?_
    | refine q_blockO rfl ?_
    | (apply w_op rfl
       · simp 
         first | rfl | exact ⟨‹_›, rfl⟩)
    | (refine w_condT ?_ ?_
       · simp 
         done)
    | (refine w_condF ?_ ?_
       · simp 
         done)
    | (apply w_opT rfl
       · simp 
         done
       · simp 
         rfl)
    | (refine w_opF ?_ ?_
       · simp 
         done))
  apply w_call0T (hc := by kernel_rfl) (pc := pc8s m.code m.sub m.data l hl)
  · simp 
  · simp 
  · (simp ; rfl)
  repeat (first
    | refine w_seq ?_
    | refine w_region ?_
    | refine w_draw0 ?_
    | refine w_nil ?_
    | refine q_then ?_
    | refine w_skip ?_
    | refine w_ret ?_
    | refine w_block ?_
    | refine w_scope ?_
    | refine w_label ?_
    | refine q_thenR ?_
    | refine q_blockR ?_
    | refine q_blockN ?_
    | refine w_exit ?_
    | refine q_thenE ?_
    | refine q_blockE ?_
    | refine q_blockO rfl ?_
    | (apply w_op rfl
       · simp 
         first | rfl | exact ⟨‹_›, rfl⟩)
    | (refine w_condT ?_ ?_
       · simp 
         done)
    | (refine w_condF ?_ ?_
       · simp 
         done)
    | (apply w_opT rfl
       · simp 
         done
       · simp 
         rfl)
    | (refine w_opF ?_ ?_
       · simp 
         done))
  simp [Fin]

end Go.V

