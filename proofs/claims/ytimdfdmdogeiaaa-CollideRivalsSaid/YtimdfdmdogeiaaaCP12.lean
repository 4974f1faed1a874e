/- CollideRivals: what is the same. -/
import Derived.Test.YtimdfdmdogeiaaaCP11
set_option linter.all false
set_option linter.unusedSimpArgs false
set_option linter.unusedVariables false
namespace Go.V
open Go Go.Proofs

theorem pc8a (c1 s1 c2 s2 : Int) : PC Try.prog 8 [.agg [cI c1, cI s1, .d (.sl [])], .agg [cI c2, cI s2, .d (.sl [])]] (tab []) (vb (c1 == c2 && s1 == s2)) (tab []) := by
  refine F8.pc0 (by simp) ?_
  unfold c8
  cases h1 : (c1 == c2) with
  | false =>
    repeat (first
      | refine w_seq ?_
      | refine w_region ?_
      | refine w_draw0 ?_
      | refine w_nil ?_
      | refine q_then ?_
      | refine w_skip ?_
      | refine w_ret ?_
      | refine w_block ?_
      | refine w_scope ?_
      | refine w_label ?_
      | refine q_thenR ?_
      | refine q_blockR ?_
      | refine q_blockN ?_
      | refine w_exit ?_
      | refine q_thenE ?_
      | refine q_blockE ?_
      | refine q_blockO rfl ?_
      | (apply w_op rfl
         · simp [h1]
           first | rfl | exact ⟨‹_›, rfl⟩)
      | (refine w_condT ?_ ?_
         · simp [h1]
           done)
      | (refine w_condF ?_ ?_
         · simp [h1]
           done)
      | (apply w_opT rfl
         · simp [h1]
           done
         · simp [h1]
           rfl)
      | (refine w_opF ?_ ?_
         · simp [h1]
           done))
    simp [Fin, h1]
  | true =>
    cases h2 : (s1 == s2) with
    | false =>
      repeat (first
        | refine w_seq ?_
        | refine w_region ?_
        | refine w_draw0 ?_
        | refine w_nil ?_
        | refine q_then ?_
        | refine w_skip ?_
        | refine w_ret ?_
        | refine w_block ?_
        | refine w_scope ?_
        | refine w_label ?_
        | refine q_thenR ?_
        | refine q_blockR ?_
        | refine q_blockN ?_
        | refine w_exit ?_
        | refine q_thenE ?_
        | refine q_blockE ?_
        | refine q_blockO rfl ?_
        | (apply w_op rfl
           · simp [h1, h2]
             first | rfl | exact ⟨‹_›, rfl⟩)
        | (refine w_condT ?_ ?_
           · simp [h1, h2]
             done)
        | (refine w_condF ?_ ?_
           · simp [h1, h2]
             done)
        | (apply w_opT rfl
           · simp [h1, h2]
             done
           · simp [h1, h2]
             rfl)
        | (refine w_opF ?_ ?_
           · simp [h1, h2]
             done))
      simp [Fin, h1, h2]
    | true =>
      repeat (first
        | refine w_seq ?_
        | refine w_region ?_
        | refine w_draw0 ?_
        | refine w_nil ?_
        | refine q_then ?_
        | refine w_skip ?_
        | refine w_ret ?_
        | refine w_block ?_
        | refine w_scope ?_
        | refine w_label ?_
        | refine q_thenR ?_
        | refine q_blockR ?_
        | refine q_blockN ?_
        | refine w_exit ?_
        | refine q_thenE ?_
        | refine q_blockE ?_
        | refine q_blockO rfl ?_
        | (apply w_op rfl
           · simp [h1, h2, numsOf]
             first | rfl | exact ⟨‹_›, rfl⟩)
        | (refine w_condT ?_ ?_
           · simp [h1, h2, numsOf]
             done)
        | (refine w_condF ?_ ?_
           · simp [h1, h2, numsOf]
             done)
        | (apply w_opT rfl
           · simp [h1, h2, numsOf]
             done
           · simp [h1, h2, numsOf]
             rfl)
        | (refine w_opF ?_ ?_
           · simp [h1, h2, numsOf]
             done))
      simp [Fin, h1, h2]

theorem pc8s (c s : Int) (data : List (List D)) (l : List Int) (hl : numsOf data = some l) : PC Try.prog 8 [.agg [cI c, cI s, .d (.sl data)], .agg [cI c, cI s, .d (.sl data)]] (tab []) (vb true) (tab []) := by
  refine F8.pc0 (by simp) ?_
  unfold c8
  repeat (first
    | refine w_seq ?_
    | refine w_region ?_
    | refine w_draw0 ?_
    | refine w_nil ?_
    | refine q_then ?_
    | refine w_skip ?_
    | refine w_ret ?_
    | refine w_block ?_
    | refine w_scope ?_
    | refine w_label ?_
    | refine q_thenR ?_
    | refine q_blockR ?_
    | refine q_blockN ?_
    | refine w_exit ?_
    | refine q_thenE ?_
    | refine q_blockE ?_
    | refine q_blockO rfl ?_
    | (apply w_op rfl
       · simp [hl]
         first | rfl | exact ⟨‹_›, rfl⟩)
    | (refine w_condT ?_ ?_
       · simp [hl]
         done)
    | (refine w_condF ?_ ?_
       · simp [hl]
         done)
    | (apply w_opT rfl
       · simp [hl]
         done
       · simp [hl]
         rfl)
    | (refine w_opF ?_ ?_
       · simp [hl]
         done))
  simp [Fin]

end Go.V

