/- CollideRivals: which link stays. -/
import Derived.Test.YtimdfdmdogeiaaaCD
set_option linter.all false
set_option linter.unusedSimpArgs false
set_option linter.unusedVariables false
namespace Go.V
open Go Go.Proofs

def keepsV (own other : Int) (ours : Bool) : Bool := own == other || ours == decide (own > other)

theorem pc20 (own other : Int) (ours : Bool) : PC Try.prog 20 [vu32 own, vu32 other, vb ours] (tab []) (vb (keepsV own other ours)) (tab []) := by
  refine F20.pc0 (by simp) ?_
  unfold c20
  cases h : (own == other)
  · repeat (first
      | refine w_seq ?_
      | refine w_region ?_
      | refine w_draw0 ?_
      | refine w_nil ?_
      | refine q_then ?_
      | refine w_skip ?_
      | refine w_ret ?_
      | refine w_block ?_
      | refine w_scope ?_
      | refine w_label ?_
      | refine q_thenR ?_
      | refine q_blockR ?_
      | refine q_blockN ?_
      | refine w_exit ?_
      | refine q_thenE ?_
      | refine q_blockE ?_
      | refine q_blockO rfl ?_
      | (apply w_op rfl
         · simp [h]
           first | rfl | exact ⟨‹_›, rfl⟩)
      | (refine w_condT ?_ ?_
         · simp [h]
           done)
      | (refine w_condF ?_ ?_
         · simp [h]
           done)
      | (apply w_opT rfl
         · simp [h]
           done
         · simp [h]
           rfl)
      | (refine w_opF ?_ ?_
         · simp [h]
           done))
    simp [Fin, h, keepsV]
  · repeat (first
      | refine w_seq ?_
      | refine w_region ?_
      | refine w_draw0 ?_
      | refine w_nil ?_
      | refine q_then ?_
      | refine w_skip ?_
      | refine w_ret ?_
      | refine w_block ?_
      | refine w_scope ?_
      | refine w_label ?_
      | refine q_thenR ?_
      | refine q_blockR ?_
      | refine q_blockN ?_
      | refine w_exit ?_
      | refine q_thenE ?_
      | refine q_blockE ?_
      | refine q_blockO rfl ?_
      | (apply w_op rfl
         · simp [h]
           first | rfl | exact ⟨‹_›, rfl⟩)
      | (refine w_condT ?_ ?_
         · simp [h]
           done)
      | (refine w_condF ?_ ?_
         · simp [h]
           done)
      | (apply w_opT rfl
         · simp [h]
           done
         · simp [h]
           rfl)
      | (refine w_opF ?_ ?_
         · simp [h]
           done))
    simp [Fin, h, keepsV]

theorem pc13 (own other : Int) (ours : Bool) : PC Try.prog 13 [vu32 own, vu32 other, vb ours] (tab []) (vb (keepsV own other ours)) (tab []) := by
  refine F13.pc0 (by simp) ?_
  unfold c13
  repeat (first
    | refine w_seq ?_
    | refine w_region ?_
    | refine w_draw0 ?_
    | refine w_nil ?_
    | refine q_then ?_
    | refine w_skip ?_
    | refine w_ret ?_
    | refine w_block ?_
    | refine w_scope ?_
    | refine w_label ?_
    | refine q_thenR ?_
    | refine q_blockR ?_
    | refine q_blockN ?_
    | refine w_exit ?_
    | refine q_thenE ?_
    | refine q_blockE ?_
    | refine q_blockO rfl ?_
    | (apply w_op rfl
       · simp 
         first | rfl | exact ⟨‹_›, rfl⟩)
    | (refine w_condT ?_ ?_
       · simp 
         done)
    | (refine w_condF ?_ ?_
       · simp 
         done)
    | (apply w_opT rfl
       · simp 
         done
       · simp 
         rfl)
    | (refine w_opF ?_ ?_
       · simp 
         done))
  apply w_call0 (hc := by kernel_rfl) (pc := pc20 own other ours)
  · simp 
  · (simp ; rfl)
  repeat (first
    | refine w_seq ?_
    | refine w_region ?_
    | refine w_draw0 ?_
    | refine w_nil ?_
    | refine q_then ?_
    | refine w_skip ?_
    | refine w_ret ?_
    | refine w_block ?_
    | refine w_scope ?_
    | refine w_label ?_
    | refine q_thenR ?_
    | refine q_blockR ?_
    | refine q_blockN ?_
    | refine w_exit ?_
    | refine q_thenE ?_
    | refine q_blockE ?_
    | refine q_blockO rfl ?_
    | (apply w_op rfl
       · simp 
         first | rfl | exact ⟨‹_›, rfl⟩)
    | (refine w_condT ?_ ?_
       · simp 
         done)
    | (refine w_condF ?_ ?_
       · simp 
         done)
    | (apply w_opT rfl
       · simp 
         done
       · simp 
         rfl)
    | (refine w_opF ?_ ?_
       · simp 
         done))
  simp [Fin]

theorem pc15 (own other : Int) (ours : Bool) : PC Try.prog 15 [vu32 own, vu32 other, vb ours] (tab []) (vb (keepsV own other ours)) (tab []) := by
  refine F15.pc0 (by simp) ?_
  unfold c15
  cases h : (own == other)
  · cases ours
    · repeat (first
        | refine w_seq ?_
        | refine w_region ?_
        | refine w_draw0 ?_
        | refine w_nil ?_
        | refine q_then ?_
        | refine w_skip ?_
        | refine w_ret ?_
        | refine w_block ?_
        | refine w_scope ?_
        | refine w_label ?_
        | refine q_thenR ?_
        | refine q_blockR ?_
        | refine q_blockN ?_
        | refine w_exit ?_
        | refine q_thenE ?_
        | refine q_blockE ?_
        | refine q_blockO rfl ?_
        | (apply w_op rfl
           · simp [h]
             first | rfl | exact ⟨‹_›, rfl⟩)
        | (refine w_condT ?_ ?_
           · simp [h]
             done)
        | (refine w_condF ?_ ?_
           · simp [h]
             done)
        | (apply w_opT rfl
           · simp [h]
             done
           · simp [h]
             rfl)
        | (refine w_opF ?_ ?_
           · simp [h]
             done))
      simp at h
      rcases Int.lt_trichotomy own other with h2 | h2 | h2
      · simp [Fin, h, keepsV, h2, show ¬ other < own by omega]
      · exact absurd h2 h
      · simp [Fin, h, keepsV, h2, show ¬ own < other by omega]
    · repeat (first
        | refine w_seq ?_
        | refine w_region ?_
        | refine w_draw0 ?_
        | refine w_nil ?_
        | refine q_then ?_
        | refine w_skip ?_
        | refine w_ret ?_
        | refine w_block ?_
        | refine w_scope ?_
        | refine w_label ?_
        | refine q_thenR ?_
        | refine q_blockR ?_
        | refine q_blockN ?_
        | refine w_exit ?_
        | refine q_thenE ?_
        | refine q_blockE ?_
        | refine q_blockO rfl ?_
        | (apply w_op rfl
           · simp [h]
             first | rfl | exact ⟨‹_›, rfl⟩)
        | (refine w_condT ?_ ?_
           · simp [h]
             done)
        | (refine w_condF ?_ ?_
           · simp [h]
             done)
        | (apply w_opT rfl
           · simp [h]
             done
           · simp [h]
             rfl)
        | (refine w_opF ?_ ?_
           · simp [h]
             done))
      simp at h
      simp [Fin, h, keepsV]
  · repeat (first
      | refine w_seq ?_
      | refine w_region ?_
      | refine w_draw0 ?_
      | refine w_nil ?_
      | refine q_then ?_
      | refine w_skip ?_
      | refine w_ret ?_
      | refine w_block ?_
      | refine w_scope ?_
      | refine w_label ?_
      | refine q_thenR ?_
      | refine q_blockR ?_
      | refine q_blockN ?_
      | refine w_exit ?_
      | refine q_thenE ?_
      | refine q_blockE ?_
      | refine q_blockO rfl ?_
      | (apply w_op rfl
         · simp [h]
           first | rfl | exact ⟨‹_›, rfl⟩)
      | (refine w_condT ?_ ?_
         · simp [h]
           done)
      | (refine w_condF ?_ ?_
         · simp [h]
           done)
      | (apply w_opT rfl
         · simp [h]
           done
         · simp [h]
           rfl)
      | (refine w_opF ?_ ?_
         · simp [h]
           done))
    simp [Fin, h, keepsV]

end Go.V

