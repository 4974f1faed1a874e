/- CollideRivals: the machine falls, comes up, keeps. -/
import Derived.Test.YtimdfdmdogeiaaaCP3
set_option linter.all false
set_option linter.unusedSimpArgs false
set_option linter.unusedVariables false
namespace Go.V
open Go Go.Proofs

def keepM : Msg := ⟨4, noOpn, 0, 0, []⟩

theorem pc54 (s : Sd) (f : Fs) (cn cl up lost : Bool) : PC Try.prog 54 [mp] (tab [mcs s f .nilsl cn cl up lost]) (.tup []) (tab [mcs s f (.osl 59 19 [keepM.ds]) cn cl up lost]) := by
  refine F54.pc (css := [_]) (pre := [_]) (new := []) (by simp) rfl none ?_
  unfold c54
  repeat (first
    | refine w_seq ?_
    | refine w_region ?_
    | refine w_draw0 ?_
    | refine w_nil ?_
    | refine q_then ?_
    | refine w_skip ?_
    | refine w_ret ?_
    | refine w_block ?_
    | refine w_scope ?_
    | refine w_label ?_
    | refine q_thenR ?_
    | refine q_blockR ?_
    | refine q_blockN ?_
    | refine w_exit ?_
    | refine q_thenE ?_
    | refine q_blockE ?_
    | refine q_blockO rfl ?_
    | (apply w_op rfl
       · simp 
         first | rfl | exact ⟨‹_›, rfl⟩)
    | (refine w_condT ?_ ?_
       · simp 
         done)
    | (refine w_condF ?_ ?_
       · simp 
         done)
    | (apply w_opT rfl
       · simp 
         done
       · simp 
         rfl)
    | (refine w_opF ?_ ?_
       · simp 
         done))
  apply w_call [0] (hc := by kernel_rfl) (pc := pc51 s f cn cl up lost keepM)
  · decide
  · decide
  · simp [keepM, noOpn]
  · simp [keepM, noOpn]
  · simp [keepM, noOpn]
  · simp [keepM, noOpn]
  · simp [keepM, noOpn]
  · (simp [keepM, noOpn]; rfl)
  repeat (first
    | refine w_seq ?_
    | refine w_region ?_
    | refine w_draw0 ?_
    | refine w_nil ?_
    | refine q_then ?_
    | refine w_skip ?_
    | refine w_ret ?_
    | refine w_block ?_
    | refine w_scope ?_
    | refine w_label ?_
    | refine q_thenR ?_
    | refine q_blockR ?_
    | refine q_blockN ?_
    | refine w_exit ?_
    | refine q_thenE ?_
    | refine q_blockE ?_
    | refine q_blockO rfl ?_
    | (apply w_op rfl
       · simp 
         first | rfl | exact ⟨‹_›, rfl⟩)
    | (refine w_condT ?_ ?_
       · simp 
         done)
    | (refine w_condF ?_ ?_
       · simp 
         done)
    | (apply w_opT rfl
       · simp 
         done
       · simp 
         rfl)
    | (refine w_opF ?_ ?_
       · simp 
         done))
  simp [Fin]

def upF : Fs := ⟨3, 0, 240, 0, 0, noOpn⟩

theorem pc43 (s : Sd) (f : Fs) (cn cl up lost : Bool) : PC Try.prog 43 [mp] (tab [mcs s f .nilsl cn cl up lost]) (.tup []) (tab [mcs s upF (.osl 59 19 [(helloV s).ds]) cn cl up lost]) := by
  refine F43.pc (css := [_]) (pre := [_]) (new := []) (by simp) rfl none ?_
  unfold c43
  repeat (first
    | refine w_seq ?_
    | refine w_region ?_
    | refine w_draw0 ?_
    | refine w_nil ?_
    | refine q_then ?_
    | refine w_skip ?_
    | refine w_ret ?_
    | refine w_block ?_
    | refine w_scope ?_
    | refine w_label ?_
    | refine q_thenR ?_
    | refine q_blockR ?_
    | refine q_blockN ?_
    | refine w_exit ?_
    | refine q_thenE ?_
    | refine q_blockE ?_
    | refine q_blockO rfl ?_
    | (apply w_op rfl
       · simp 
         first | rfl | exact ⟨‹_›, rfl⟩)
    | (refine w_condT ?_ ?_
       · simp 
         done)
    | (refine w_condF ?_ ?_
       · simp 
         done)
    | (apply w_opT rfl
       · simp 
         done
       · simp 
         rfl)
    | (refine w_opF ?_ ?_
       · simp 
         done))
  apply w_call0 (hc := by kernel_rfl) (pc := pc52 s)
  · simp 
  · (simp ; rfl)
  repeat (first
    | refine w_seq ?_
    | refine w_region ?_
    | refine w_draw0 ?_
    | refine w_nil ?_
    | refine q_then ?_
    | refine w_skip ?_
    | refine w_ret ?_
    | refine w_block ?_
    | refine w_scope ?_
    | refine w_label ?_
    | refine q_thenR ?_
    | refine q_blockR ?_
    | refine q_blockN ?_
    | refine w_exit ?_
    | refine q_thenE ?_
    | refine q_blockE ?_
    | refine q_blockO rfl ?_
    | (apply w_op rfl
       · simp 
         first | rfl | exact ⟨‹_›, rfl⟩)
    | (refine w_condT ?_ ?_
       · simp 
         done)
    | (refine w_condF ?_ ?_
       · simp 
         done)
    | (apply w_opT rfl
       · simp 
         done
       · simp 
         rfl)
    | (refine w_opF ?_ ?_
       · simp 
         done))
  apply w_call [0] (hc := by kernel_rfl) (pc := pc51 s f cn cl up lost (helloV s))
  · decide
  · decide
  · simp 
  · simp 
  · simp 
  · simp 
  · simp 
  · (simp ; rfl)
  repeat (first
    | refine w_seq ?_
    | refine w_region ?_
    | refine w_draw0 ?_
    | refine w_nil ?_
    | refine q_then ?_
    | refine w_skip ?_
    | refine w_ret ?_
    | refine w_block ?_
    | refine w_scope ?_
    | refine w_label ?_
    | refine q_thenR ?_
    | refine q_blockR ?_
    | refine q_blockN ?_
    | refine w_exit ?_
    | refine q_thenE ?_
    | refine q_blockE ?_
    | refine q_blockO rfl ?_
    | (apply w_op rfl
       · simp 
         first | rfl | exact ⟨‹_›, rfl⟩)
    | (refine w_condT ?_ ?_
       · simp 
         done)
    | (refine w_condF ?_ ?_
       · simp 
         done)
    | (apply w_opT rfl
       · simp 
         done
       · simp 
         rfl)
    | (refine w_opF ?_ ?_
       · simp 
         done))
  simp [Fin, upF, noOpn]

theorem pc59 (xs : List (List D)) (h1 : ∀ x ∈ xs, x.length = 1) (h2 : xs.length ≤ 140737488355328) : PC Try.prog 59 [vsl xs] (tab []) (vsl xs) (tab []) := by
  refine F59.pc0 (by simp) ?_
  unfold c59
  repeat (first
    | refine w_seq ?_
    | refine w_region ?_
    | refine w_draw0 ?_
    | refine w_nil ?_
    | refine q_then ?_
    | refine w_skip ?_
    | refine w_ret ?_
    | refine w_block ?_
    | refine w_scope ?_
    | refine w_label ?_
    | refine q_thenR ?_
    | refine q_blockR ?_
    | refine q_blockN ?_
    | refine w_exit ?_
    | refine q_thenE ?_
    | refine q_blockE ?_
    | refine q_blockO rfl ?_
    | (apply w_op rfl
       · simp 
         first | rfl | exact ⟨‹_›, rfl⟩)
    | (refine w_condT ?_ ?_
       · simp 
         done)
    | (refine w_condF ?_ ?_
       · simp 
         done)
    | (apply w_opT rfl
       · simp 
         done
       · simp 
         rfl)
    | (refine w_opF ?_ ?_
       · simp 
         done))
  refine w_nilq ?_
  repeat (first
    | refine w_seq ?_
    | refine w_region ?_
    | refine w_draw0 ?_
    | refine w_nil ?_
    | refine q_then ?_
    | refine w_skip ?_
    | refine w_ret ?_
    | refine w_block ?_
    | refine w_scope ?_
    | refine w_label ?_
    | refine q_thenR ?_
    | refine q_blockR ?_
    | refine q_blockN ?_
    | refine w_exit ?_
    | refine q_thenE ?_
    | refine q_blockE ?_
    | refine q_blockO rfl ?_
    | (apply w_op rfl
       · simp 
         first | rfl | exact ⟨‹_›, rfl⟩)
    | (refine w_condT ?_ ?_
       · simp 
         done)
    | (refine w_condF ?_ ?_
       · simp 
         done)
    | (apply w_opT rfl
       · simp 
         done
       · simp 
         rfl)
    | (refine w_opF ?_ ?_
       · simp 
         done))
  refine ⟨xs, by simp, fun b hb => ?_⟩
  repeat (first
    | refine w_seq ?_
    | refine w_region ?_
    | refine w_draw0 ?_
    | refine w_nil ?_
    | refine q_then ?_
    | refine w_skip ?_
    | refine w_ret ?_
    | refine w_block ?_
    | refine w_scope ?_
    | refine w_label ?_
    | refine q_thenR ?_
    | refine q_blockR ?_
    | refine q_blockN ?_
    | refine w_exit ?_
    | refine q_thenE ?_
    | refine q_blockE ?_
    | refine q_blockO rfl ?_
    | (apply w_op rfl
       · simp 
         first | rfl | exact ⟨‹_›, rfl⟩)
    | (refine w_condT ?_ ?_
       · simp 
         done)
    | (refine w_condF ?_ ?_
       · simp 
         done)
    | (apply w_opT rfl
       · simp 
         done
       · simp 
         rfl)
    | (refine w_opF ?_ ?_
       · simp 
         done))
  cases b with
  | true =>
    have := hb rfl
    subst this
    repeat (first
      | refine w_seq ?_
      | refine w_region ?_
      | refine w_draw0 ?_
      | refine w_nil ?_
      | refine q_then ?_
      | refine w_skip ?_
      | refine w_ret ?_
      | refine w_block ?_
      | refine w_scope ?_
      | refine w_label ?_
      | refine q_thenR ?_
      | refine q_blockR ?_
      | refine q_blockN ?_
      | refine w_exit ?_
      | refine q_thenE ?_
      | refine q_blockE ?_
      | refine q_blockO rfl ?_
      | (apply w_op rfl
         · simp 
           first | rfl | exact ⟨‹_›, rfl⟩)
      | (refine w_condT ?_ ?_
         · simp 
           done)
      | (refine w_condF ?_ ?_
         · simp 
           done)
      | (apply w_opT rfl
         · simp 
           done
         · simp 
           rfl)
      | (refine w_opF ?_ ?_
         · simp 
           done))
    simp [Fin]
  | false =>
    have h3 : (∀ y, y ∈ xs → y.length = 1) ∧ xs.length ≤ 140737488355328 := ⟨h1, h2⟩
    repeat (first
      | refine w_seq ?_
      | refine w_region ?_
      | refine w_draw0 ?_
      | refine w_nil ?_
      | refine q_then ?_
      | refine w_skip ?_
      | refine w_ret ?_
      | refine w_block ?_
      | refine w_scope ?_
      | refine w_label ?_
      | refine q_thenR ?_
      | refine q_blockR ?_
      | refine q_blockN ?_
      | refine w_exit ?_
      | refine q_thenE ?_
      | refine q_blockE ?_
      | refine q_blockO rfl ?_
      | (apply w_op rfl
         · simp 
           first | rfl | exact ⟨‹_›, rfl⟩)
      | (refine w_condT ?_ ?_
         · simp 
           done)
      | (refine w_condF ?_ ?_
         · simp 
           done)
      | (apply w_opT rfl
         · simp 
           done
         · simp 
           rfl)
      | (refine w_opF ?_ ?_
         · simp 
           done))
    simp [Fin]

theorem pc48 (s : Sd) (f : Fs) (cn cl up lost : Bool) (code sub : Int) (data : List (List D)) (h1 : ∀ x ∈ data, x.length = 1) (h2 : data.length ≤ 140737488355328) :
    PC Try.prog 48 [mp, .agg [cI code, cI sub, .d (.sl data)]] (tab [mcs s f .nilsl cn cl up lost]) (.tup [])
      (tab [mcs s ⟨0, 0, 0, 0, s.retry, noOpn⟩ (if linkedV f ∧ code ≠ 0 then .osl 59 19 [(⟨3, noOpn, code, sub, data⟩ : Msg).ds] else .nilsl) cn (linkedV f || f.state == 1) up (f.state == 5)]) := by
  refine F48.pc (css := [_]) (pre := [_]) (new := []) (by simp) rfl none ?_
  unfold c48
  repeat (first
    | refine w_seq ?_
    | refine w_region ?_
    | refine w_draw0 ?_
    | refine w_nil ?_
    | refine q_then ?_
    | refine w_skip ?_
    | refine w_ret ?_
    | refine w_block ?_
    | refine w_scope ?_
    | refine w_label ?_
    | refine q_thenR ?_
    | refine q_blockR ?_
    | refine q_blockN ?_
    | refine w_exit ?_
    | refine q_thenE ?_
    | refine q_blockE ?_
    | refine q_blockO rfl ?_
    | (apply w_op rfl
       · simp 
         first | rfl | exact ⟨‹_›, rfl⟩)
    | (refine w_condT ?_ ?_
       · simp 
         done)
    | (refine w_condF ?_ ?_
       · simp 
         done)
    | (apply w_opT rfl
       · simp 
         done
       · simp 
         rfl)
    | (refine w_opF ?_ ?_
       · simp 
         done))
  apply w_call0 (hc := by kernel_rfl) (pc := pc46 f)
  · simp 
  · (simp ; rfl)
  cases hl : linkedV f with
  | false =>
    repeat (first
      | refine w_seq ?_
      | refine w_region ?_
      | refine w_draw0 ?_
      | refine w_nil ?_
      | refine q_then ?_
      | refine w_skip ?_
      | refine w_ret ?_
      | refine w_block ?_
      | refine w_scope ?_
      | refine w_label ?_
      | refine q_thenR ?_
      | refine q_blockR ?_
      | refine q_blockN ?_
      | refine w_exit ?_
      | refine q_thenE ?_
      | refine q_blockE ?_
      | refine q_blockO rfl ?_
      | (apply w_op rfl
         · simp [hl]
           first | rfl | exact ⟨‹_›, rfl⟩)
      | (refine w_condT ?_ ?_
         · simp [hl]
           done)
      | (refine w_condF ?_ ?_
         · simp [hl]
           done)
      | (apply w_opT rfl
         · simp [hl]
           done
         · simp [hl]
           rfl)
      | (refine w_opF ?_ ?_
         · simp [hl]
           done))
    apply w_call0 (hc := by kernel_rfl) (pc := pc46 f)
    · simp [hl]
    · (simp [hl]; rfl)
    repeat (first
      | refine w_seq ?_
      | refine w_region ?_
      | refine w_draw0 ?_
      | refine w_nil ?_
      | refine q_then ?_
      | refine w_skip ?_
      | refine w_ret ?_
      | refine w_block ?_
      | refine w_scope ?_
      | refine w_label ?_
      | refine q_thenR ?_
      | refine q_blockR ?_
      | refine q_blockN ?_
      | refine w_exit ?_
      | refine q_thenE ?_
      | refine q_blockE ?_
      | refine q_blockO rfl ?_
      | (apply w_op rfl
         · simp [hl]
           first | rfl | exact ⟨‹_›, rfl⟩)
      | (refine w_condT ?_ ?_
         · simp [hl]
           done)
      | (refine w_condF ?_ ?_
         · simp [hl]
           done)
      | (apply w_opT rfl
         · simp [hl]
           done
         · simp [hl]
           rfl)
      | (refine w_opF ?_ ?_
         · simp [hl]
           done))
    simp [Fin, hl, noOpn]
  | true =>
    by_cases hc : code = 0
    · repeat (first
        | refine w_seq ?_
        | refine w_region ?_
        | refine w_draw0 ?_
        | refine w_nil ?_
        | refine q_then ?_
        | refine w_skip ?_
        | refine w_ret ?_
        | refine w_block ?_
        | refine w_scope ?_
        | refine w_label ?_
        | refine q_thenR ?_
        | refine q_blockR ?_
        | refine q_blockN ?_
        | refine w_exit ?_
        | refine q_thenE ?_
        | refine q_blockE ?_
        | refine q_blockO rfl ?_
        | (apply w_op rfl
           · simp [hl, hc]
             first | rfl | exact ⟨‹_›, rfl⟩)
        | (refine w_condT ?_ ?_
           · simp [hl, hc]
             done)
        | (refine w_condF ?_ ?_
           · simp [hl, hc]
             done)
        | (apply w_opT rfl
           · simp [hl, hc]
             done
           · simp [hl, hc]
             rfl)
        | (refine w_opF ?_ ?_
           · simp [hl, hc]
             done))
      apply w_call0 (hc := by kernel_rfl) (pc := pc46 f)
      · simp [hl]
      · (simp [hl]; rfl)
      repeat (first
        | refine w_seq ?_
        | refine w_region ?_
        | refine w_draw0 ?_
        | refine w_nil ?_
        | refine q_then ?_
        | refine w_skip ?_
        | refine w_ret ?_
        | refine w_block ?_
        | refine w_scope ?_
        | refine w_label ?_
        | refine q_thenR ?_
        | refine q_blockR ?_
        | refine q_blockN ?_
        | refine w_exit ?_
        | refine q_thenE ?_
        | refine q_blockE ?_
        | refine q_blockO rfl ?_
        | (apply w_op rfl
           · simp [hl]
             first | rfl | exact ⟨‹_›, rfl⟩)
        | (refine w_condT ?_ ?_
           · simp [hl]
             done)
        | (refine w_condF ?_ ?_
           · simp [hl]
             done)
        | (apply w_opT rfl
           · simp [hl]
             done
           · simp [hl]
             rfl)
        | (refine w_opF ?_ ?_
           · simp [hl]
             done))
      simp [Fin, hl, hc, noOpn]
    · repeat (first
        | refine w_seq ?_
        | refine w_region ?_
        | refine w_draw0 ?_
        | refine w_nil ?_
        | refine q_then ?_
        | refine w_skip ?_
        | refine w_ret ?_
        | refine w_block ?_
        | refine w_scope ?_
        | refine w_label ?_
        | refine q_thenR ?_
        | refine q_blockR ?_
        | refine q_blockN ?_
        | refine w_exit ?_
        | refine q_thenE ?_
        | refine q_blockE ?_
        | refine q_blockO rfl ?_
        | (apply w_op rfl
           · simp [hl, hc]
             first | rfl | exact ⟨‹_›, rfl⟩)
        | (refine w_condT ?_ ?_
           · simp [hl, hc]
             done)
        | (refine w_condF ?_ ?_
           · simp [hl, hc]
             done)
        | (apply w_opT rfl
           · simp [hl, hc]
             done
           · simp [hl, hc]
             rfl)
        | (refine w_opF ?_ ?_
           · simp [hl, hc]
             done))
      apply w_call0 (hc := by kernel_rfl) (pc := pc59 data h1 h2)
      · simp [hl]
      · (simp [hl]; rfl)
      repeat (first
        | refine w_seq ?_
        | refine w_region ?_
        | refine w_draw0 ?_
        | refine w_nil ?_
        | refine q_then ?_
        | refine w_skip ?_
        | refine w_ret ?_
        | refine w_block ?_
        | refine w_scope ?_
        | refine w_label ?_
        | refine q_thenR ?_
        | refine q_blockR ?_
        | refine q_blockN ?_
        | refine w_exit ?_
        | refine q_thenE ?_
        | refine q_blockE ?_
        | refine q_blockO rfl ?_
        | (apply w_op rfl
           · simp [hl]
             first | rfl | exact ⟨‹_›, rfl⟩)
        | (refine w_condT ?_ ?_
           · simp [hl]
             done)
        | (refine w_condF ?_ ?_
           · simp [hl]
             done)
        | (apply w_opT rfl
           · simp [hl]
             done
           · simp [hl]
             rfl)
        | (refine w_opF ?_ ?_
           · simp [hl]
             done))
      apply w_call [0] (hc := by kernel_rfl) (pc := pc51 s f cn cl up lost ⟨3, noOpn, code, sub, data⟩)
      · decide
      · decide
      · simp [hl, noOpn]
      · simp [hl, noOpn]
      · simp [hl, noOpn]
      · simp [hl, noOpn]
      · simp [hl, noOpn]
      · (simp [hl, noOpn]; rfl)
      repeat (first
        | refine w_seq ?_
        | refine w_region ?_
        | refine w_draw0 ?_
        | refine w_nil ?_
        | refine q_then ?_
        | refine w_skip ?_
        | refine w_ret ?_
        | refine w_block ?_
        | refine w_scope ?_
        | refine w_label ?_
        | refine q_thenR ?_
        | refine q_blockR ?_
        | refine q_blockN ?_
        | refine w_exit ?_
        | refine q_thenE ?_
        | refine q_blockE ?_
        | refine q_blockO rfl ?_
        | (apply w_op rfl
           · simp [hl]
             first | rfl | exact ⟨‹_›, rfl⟩)
        | (refine w_condT ?_ ?_
           · simp [hl]
             done)
        | (refine w_condF ?_ ?_
           · simp [hl]
             done)
        | (apply w_opT rfl
           · simp [hl]
             done
           · simp [hl]
             rfl)
        | (refine w_opF ?_ ?_
           · simp [hl]
             done))
      apply w_call0 (hc := by kernel_rfl) (pc := pc46 f)
      · simp [hl]
      · (simp [hl]; rfl)
      repeat (first
        | refine w_seq ?_
        | refine w_region ?_
        | refine w_draw0 ?_
        | refine w_nil ?_
        | refine q_then ?_
        | refine w_skip ?_
        | refine w_ret ?_
        | refine w_block ?_
        | refine w_scope ?_
        | refine w_label ?_
        | refine q_thenR ?_
        | refine q_blockR ?_
        | refine q_blockN ?_
        | refine w_exit ?_
        | refine q_thenE ?_
        | refine q_blockE ?_
        | refine q_blockO rfl ?_
        | (apply w_op rfl
           · simp [hl]
             first | rfl | exact ⟨‹_›, rfl⟩)
        | (refine w_condT ?_ ?_
           · simp [hl]
             done)
        | (refine w_condF ?_ ?_
           · simp [hl]
             done)
        | (apply w_opT rfl
           · simp [hl]
             done
           · simp [hl]
             rfl)
        | (refine w_opF ?_ ?_
           · simp [hl]
             done))
      simp [Fin, hl, hc, noOpn]

end Go.V

