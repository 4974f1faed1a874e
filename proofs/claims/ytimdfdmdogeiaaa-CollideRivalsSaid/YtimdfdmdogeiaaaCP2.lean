/- CollideRivals: who drops which link. -/
import Derived.Test.YtimdfdmdogeiaaaCP1
set_option linter.all false
set_option linter.unusedSimpArgs false
set_option linter.unusedVariables false
namespace Go.V
open Go Go.Proofs

abbrev ntC (code sub : Int) : List C := [cI code, cI sub, .nilsl]

theorem pc21 (sub : Int) : PC Try.prog 21 [vi64 sub] (tab []) (.agg (ntC 6 sub)) (tab []) := by
  refine F21.pc0 (by simp) ?_
  unfold c21
  repeat (first
    | refine w_seq ?_
    | refine w_region ?_
    | refine w_draw0 ?_
    | refine w_nil ?_
    | refine q_then ?_
    | refine w_skip ?_
    | refine w_ret ?_
    | refine w_block ?_
    | refine w_scope ?_
    | refine w_label ?_
    | refine q_thenR ?_
    | refine q_blockR ?_
    | refine q_blockN ?_
    | refine w_exit ?_
    | refine q_thenE ?_
    | refine q_blockE ?_
    | refine q_blockO rfl ?_
    | (apply w_op rfl
       · simp 
         first | rfl | exact ⟨‹_›, rfl⟩)
    | (refine w_condT ?_ ?_
       · simp 
         done)
    | (refine w_condF ?_ ?_
       · simp 
         done)
    | (apply w_opT rfl
       · simp 
         done
       · simp 
         rfl)
    | (refine w_opF ?_ ?_
       · simp 
         done))
  simp [Fin]

def rivalV (s : Sd) (f : Fs) (ours : Bool) (o : Opn) : Bool × Int × Int :=
  if f.state = 5 then (false, 6, 7)
  else if f.state = 3 ∨ f.state = 4 then (!keepsV s.id o.id ours, 6, 7)
  else (true, 0, 0)

theorem pc14 (s : Sd) (f : Fs) (ours : Bool) (o : Opn) : PC Try.prog 14 [.agg s.cs, .agg f.cs, vb ours, .agg o.cs] (tab []) (.tup [vb (rivalV s f ours o).1, .agg (ntC (rivalV s f ours o).2.1 (rivalV s f ours o).2.2)]) (tab []) := by
  refine F14.pc0 (by simp) ?_
  unfold c14
  by_cases h5 : f.state = 5
  · repeat (first
      | refine w_seq ?_
      | refine w_region ?_
      | refine w_draw0 ?_
      | refine w_nil ?_
      | refine q_then ?_
      | refine w_skip ?_
      | refine w_ret ?_
      | refine w_block ?_
      | refine w_scope ?_
      | refine w_label ?_
      | refine q_thenR ?_
      | refine q_blockR ?_
      | refine q_blockN ?_
      | refine w_exit ?_
      | refine q_thenE ?_
      | refine q_blockE ?_
      | refine q_blockO rfl ?_
      | (apply w_op rfl
         · simp [h5]
           first | rfl | exact ⟨‹_›, rfl⟩)
      | (refine w_condT ?_ ?_
         · simp [h5]
           done)
      | (refine w_condF ?_ ?_
         · simp [h5]
           done)
      | (apply w_opT rfl
         · simp [h5]
           done
         · simp [h5]
           rfl)
      | (refine w_opF ?_ ?_
         · simp [h5]
           done))
    apply w_call0 (hc := by kernel_rfl) (pc := pc21 7)
    · simp 
    · (simp ; rfl)
    repeat (first
      | refine w_seq ?_
      | refine w_region ?_
      | refine w_draw0 ?_
      | refine w_nil ?_
      | refine q_then ?_
      | refine w_skip ?_
      | refine w_ret ?_
      | refine w_block ?_
      | refine w_scope ?_
      | refine w_label ?_
      | refine q_thenR ?_
      | refine q_blockR ?_
      | refine q_blockN ?_
      | refine w_exit ?_
      | refine q_thenE ?_
      | refine q_blockE ?_
      | refine q_blockO rfl ?_
      | (apply w_op rfl
         · simp [h5]
           first | rfl | exact ⟨‹_›, rfl⟩)
      | (refine w_condT ?_ ?_
         · simp [h5]
           done)
      | (refine w_condF ?_ ?_
         · simp [h5]
           done)
      | (apply w_opT rfl
         · simp [h5]
           done
         · simp [h5]
           rfl)
      | (refine w_opF ?_ ?_
         · simp [h5]
           done))
    simp [Fin, rivalV, h5]
  · by_cases h3 : f.state = 3
    · repeat (first
        | refine w_seq ?_
        | refine w_region ?_
        | refine w_draw0 ?_
        | refine w_nil ?_
        | refine q_then ?_
        | refine w_skip ?_
        | refine w_ret ?_
        | refine w_block ?_
        | refine w_scope ?_
        | refine w_label ?_
        | refine q_thenR ?_
        | refine q_blockR ?_
        | refine q_blockN ?_
        | refine w_exit ?_
        | refine q_thenE ?_
        | refine q_blockE ?_
        | refine q_blockO rfl ?_
        | (apply w_op rfl
           · simp [h3]
             first | rfl | exact ⟨‹_›, rfl⟩)
        | (refine w_condT ?_ ?_
           · simp [h3]
             done)
        | (refine w_condF ?_ ?_
           · simp [h3]
             done)
        | (apply w_opT rfl
           · simp [h3]
             done
           · simp [h3]
             rfl)
        | (refine w_opF ?_ ?_
           · simp [h3]
             done))
      apply w_call0 (hc := by kernel_rfl) (pc := pc20 s.id o.id ours)
      · simp 
      · (simp ; rfl)
      repeat (first
        | refine w_seq ?_
        | refine w_region ?_
        | refine w_draw0 ?_
        | refine w_nil ?_
        | refine q_then ?_
        | refine w_skip ?_
        | refine w_ret ?_
        | refine w_block ?_
        | refine w_scope ?_
        | refine w_label ?_
        | refine q_thenR ?_
        | refine q_blockR ?_
        | refine q_blockN ?_
        | refine w_exit ?_
        | refine q_thenE ?_
        | refine q_blockE ?_
        | refine q_blockO rfl ?_
        | (apply w_op rfl
           · simp [h3]
             first | rfl | exact ⟨‹_›, rfl⟩)
        | (refine w_condT ?_ ?_
           · simp [h3]
             done)
        | (refine w_condF ?_ ?_
           · simp [h3]
             done)
        | (apply w_opT rfl
           · simp [h3]
             done
           · simp [h3]
             rfl)
        | (refine w_opF ?_ ?_
           · simp [h3]
             done))
      apply w_call0 (hc := by kernel_rfl) (pc := pc21 7)
      · simp 
      · (simp ; rfl)
      repeat (first
        | refine w_seq ?_
        | refine w_region ?_
        | refine w_draw0 ?_
        | refine w_nil ?_
        | refine q_then ?_
        | refine w_skip ?_
        | refine w_ret ?_
        | refine w_block ?_
        | refine w_scope ?_
        | refine w_label ?_
        | refine q_thenR ?_
        | refine q_blockR ?_
        | refine q_blockN ?_
        | refine w_exit ?_
        | refine q_thenE ?_
        | refine q_blockE ?_
        | refine q_blockO rfl ?_
        | (apply w_op rfl
           · simp [h3]
             first | rfl | exact ⟨‹_›, rfl⟩)
        | (refine w_condT ?_ ?_
           · simp [h3]
             done)
        | (refine w_condF ?_ ?_
           · simp [h3]
             done)
        | (apply w_opT rfl
           · simp [h3]
             done
           · simp [h3]
             rfl)
        | (refine w_opF ?_ ?_
           · simp [h3]
             done))
      simp [Fin, rivalV, h3]
    · by_cases h4 : f.state = 4
      · repeat (first
          | refine w_seq ?_
          | refine w_region ?_
          | refine w_draw0 ?_
          | refine w_nil ?_
          | refine q_then ?_
          | refine w_skip ?_
          | refine w_ret ?_
          | refine w_block ?_
          | refine w_scope ?_
          | refine w_label ?_
          | refine q_thenR ?_
          | refine q_blockR ?_
          | refine q_blockN ?_
          | refine w_exit ?_
          | refine q_thenE ?_
          | refine q_blockE ?_
          | refine q_blockO rfl ?_
          | (apply w_op rfl
             · simp [h4]
               first | rfl | exact ⟨‹_›, rfl⟩)
          | (refine w_condT ?_ ?_
             · simp [h4]
               done)
          | (refine w_condF ?_ ?_
             · simp [h4]
               done)
          | (apply w_opT rfl
             · simp [h4]
               done
             · simp [h4]
               rfl)
          | (refine w_opF ?_ ?_
             · simp [h4]
               done))
        apply w_call0 (hc := by kernel_rfl) (pc := pc20 s.id o.id ours)
        · simp 
        · (simp ; rfl)
        repeat (first
          | refine w_seq ?_
          | refine w_region ?_
          | refine w_draw0 ?_
          | refine w_nil ?_
          | refine q_then ?_
          | refine w_skip ?_
          | refine w_ret ?_
          | refine w_block ?_
          | refine w_scope ?_
          | refine w_label ?_
          | refine q_thenR ?_
          | refine q_blockR ?_
          | refine q_blockN ?_
          | refine w_exit ?_
          | refine q_thenE ?_
          | refine q_blockE ?_
          | refine q_blockO rfl ?_
          | (apply w_op rfl
             · simp [h4]
               first | rfl | exact ⟨‹_›, rfl⟩)
          | (refine w_condT ?_ ?_
             · simp [h4]
               done)
          | (refine w_condF ?_ ?_
             · simp [h4]
               done)
          | (apply w_opT rfl
             · simp [h4]
               done
             · simp [h4]
               rfl)
          | (refine w_opF ?_ ?_
             · simp [h4]
               done))
        apply w_call0 (hc := by kernel_rfl) (pc := pc21 7)
        · simp 
        · (simp ; rfl)
        repeat (first
          | refine w_seq ?_
          | refine w_region ?_
          | refine w_draw0 ?_
          | refine w_nil ?_
          | refine q_then ?_
          | refine w_skip ?_
          | refine w_ret ?_
          | refine w_block ?_
          | refine w_scope ?_
          | refine w_label ?_
          | refine q_thenR ?_
          | refine q_blockR ?_
          | refine q_blockN ?_
          | refine w_exit ?_
          | refine q_thenE ?_
          | refine q_blockE ?_
          | refine q_blockO rfl ?_
          | (apply w_op rfl
             · simp [h4]
               first | rfl | exact ⟨‹_›, rfl⟩)
          | (refine w_condT ?_ ?_
             · simp [h4]
               done)
          | (refine w_condF ?_ ?_
             · simp [h4]
               done)
          | (apply w_opT rfl
             · simp [h4]
               done
             · simp [h4]
               rfl)
          | (refine w_opF ?_ ?_
             · simp [h4]
               done))
        simp [Fin, rivalV, h4]
      · repeat (first
          | refine w_seq ?_
          | refine w_region ?_
          | refine w_draw0 ?_
          | refine w_nil ?_
          | refine q_then ?_
          | refine w_skip ?_
          | refine w_ret ?_
          | refine w_block ?_
          | refine w_scope ?_
          | refine w_label ?_
          | refine q_thenR ?_
          | refine q_blockR ?_
          | refine q_blockN ?_
          | refine w_exit ?_
          | refine q_thenE ?_
          | refine q_blockE ?_
          | refine q_blockO rfl ?_
          | (apply w_op rfl
             · simp [h3, h4, h5]
               first | rfl | exact ⟨‹_›, rfl⟩)
          | (refine w_condT ?_ ?_
             · simp [h3, h4, h5]
               done)
          | (refine w_condF ?_ ?_
             · simp [h3, h4, h5]
               done)
          | (apply w_opT rfl
             · simp [h3, h4, h5]
               done
             · simp [h3, h4, h5]
               rfl)
          | (refine w_opF ?_ ?_
             · simp [h3, h4, h5]
               done))
        simp [Fin, rivalV, h3, h4, h5]

theorem pc5 (s : Sd) (f : Fs) (ours : Bool) (o : Opn) : PC Try.prog 5 [.agg s.cs, .agg f.cs, vb ours, .agg o.cs] (tab []) (.tup [vb (rivalV s f ours o).1, .agg (ntC (rivalV s f ours o).2.1 (rivalV s f ours o).2.2)]) (tab []) := by
  refine F5.pc0 (by simp) ?_
  unfold c5
  repeat (first
    | refine w_seq ?_
    | refine w_region ?_
    | refine w_draw0 ?_
    | refine w_nil ?_
    | refine q_then ?_
    | refine w_skip ?_
    | refine w_ret ?_
    | refine w_block ?_
    | refine w_scope ?_
    | refine w_label ?_
    | refine q_thenR ?_
    | refine q_blockR ?_
    | refine q_blockN ?_
    | refine w_exit ?_
    | refine q_thenE ?_
    | refine q_blockE ?_
    | refine q_blockO rfl ?_
    | (apply w_op rfl
       · simp 
         first | rfl | exact ⟨‹_›, rfl⟩)
    | (refine w_condT ?_ ?_
       · simp 
         done)
    | (refine w_condF ?_ ?_
       · simp 
         done)
    | (apply w_opT rfl
       · simp 
         done
       · simp 
         rfl)
    | (refine w_opF ?_ ?_
       · simp 
         done))
  apply w_call0 (hc := by kernel_rfl) (pc := pc14 s f ours o)
  · simp 
  · (simp ; rfl)
  repeat (first
    | refine w_seq ?_
    | refine w_region ?_
    | refine w_draw0 ?_
    | refine w_nil ?_
    | refine q_then ?_
    | refine w_skip ?_
    | refine w_ret ?_
    | refine w_block ?_
    | refine w_scope ?_
    | refine w_label ?_
    | refine q_thenR ?_
    | refine q_blockR ?_
    | refine q_blockN ?_
    | refine w_exit ?_
    | refine q_thenE ?_
    | refine q_blockE ?_
    | refine q_blockO rfl ?_
    | (apply w_op rfl
       · simp 
         first | rfl | exact ⟨‹_›, rfl⟩)
    | (refine w_condT ?_ ?_
       · simp 
         done)
    | (refine w_condF ?_ ?_
       · simp 
         done)
    | (apply w_opT rfl
       · simp 
         done
       · simp 
         rfl)
    | (refine w_opF ?_ ?_
       · simp 
         done))
  simp [Fin]

theorem pc7 (s : Sd) (f : Fs) (ours : Bool) (o : Opn) : PC Try.prog 7 [.agg s.cs, .agg f.cs, vb ours, .agg o.cs] (tab []) (vb (rivalV s f ours o).1) (tab []) := by
  refine F7.pc0 (by simp) ?_
  unfold c7
  by_cases h5 : f.state = 5
  · repeat (first
      | refine w_seq ?_
      | refine w_region ?_
      | refine w_draw0 ?_
      | refine w_nil ?_
      | refine q_then ?_
      | refine w_skip ?_
      | refine w_ret ?_
      | refine w_block ?_
      | refine w_scope ?_
      | refine w_label ?_
      | refine q_thenR ?_
      | refine q_blockR ?_
      | refine q_blockN ?_
      | refine w_exit ?_
      | refine q_thenE ?_
      | refine q_blockE ?_
      | refine q_blockO rfl ?_
      | (apply w_op rfl
         · simp [h5]
           first | rfl | exact ⟨‹_›, rfl⟩)
      | (refine w_condT ?_ ?_
         · simp [h5]
           done)
      | (refine w_condF ?_ ?_
         · simp [h5]
           done)
      | (apply w_opT rfl
         · simp [h5]
           done
         · simp [h5]
           rfl)
      | (refine w_opF ?_ ?_
         · simp [h5]
           done))
    simp [Fin, rivalV, h5]
  · by_cases h3 : f.state = 3
    · repeat (first
        | refine w_seq ?_
        | refine w_region ?_
        | refine w_draw0 ?_
        | refine w_nil ?_
        | refine q_then ?_
        | refine w_skip ?_
        | refine w_ret ?_
        | refine w_block ?_
        | refine w_scope ?_
        | refine w_label ?_
        | refine q_thenR ?_
        | refine q_blockR ?_
        | refine q_blockN ?_
        | refine w_exit ?_
        | refine q_thenE ?_
        | refine q_blockE ?_
        | refine q_blockO rfl ?_
        | (apply w_op rfl
           · simp [h3]
             first | rfl | exact ⟨‹_›, rfl⟩)
        | (refine w_condT ?_ ?_
           · simp [h3]
             done)
        | (refine w_condF ?_ ?_
           · simp [h3]
             done)
        | (apply w_opT rfl
           · simp [h3]
             done
           · simp [h3]
             rfl)
        | (refine w_opF ?_ ?_
           · simp [h3]
             done))
      apply w_call0 (hc := by kernel_rfl) (pc := pc15 s.id o.id ours)
      · simp 
      · (simp ; rfl)
      repeat (first
        | refine w_seq ?_
        | refine w_region ?_
        | refine w_draw0 ?_
        | refine w_nil ?_
        | refine q_then ?_
        | refine w_skip ?_
        | refine w_ret ?_
        | refine w_block ?_
        | refine w_scope ?_
        | refine w_label ?_
        | refine q_thenR ?_
        | refine q_blockR ?_
        | refine q_blockN ?_
        | refine w_exit ?_
        | refine q_thenE ?_
        | refine q_blockE ?_
        | refine q_blockO rfl ?_
        | (apply w_op rfl
           · simp [h3]
             first | rfl | exact ⟨‹_›, rfl⟩)
        | (refine w_condT ?_ ?_
           · simp [h3]
             done)
        | (refine w_condF ?_ ?_
           · simp [h3]
             done)
        | (apply w_opT rfl
           · simp [h3]
             done
           · simp [h3]
             rfl)
        | (refine w_opF ?_ ?_
           · simp [h3]
             done))
      simp [Fin, rivalV, h3]
    · by_cases h4 : f.state = 4
      · repeat (first
          | refine w_seq ?_
          | refine w_region ?_
          | refine w_draw0 ?_
          | refine w_nil ?_
          | refine q_then ?_
          | refine w_skip ?_
          | refine w_ret ?_
          | refine w_block ?_
          | refine w_scope ?_
          | refine w_label ?_
          | refine q_thenR ?_
          | refine q_blockR ?_
          | refine q_blockN ?_
          | refine w_exit ?_
          | refine q_thenE ?_
          | refine q_blockE ?_
          | refine q_blockO rfl ?_
          | (apply w_op rfl
             · simp [h4]
               first | rfl | exact ⟨‹_›, rfl⟩)
          | (refine w_condT ?_ ?_
             · simp [h4]
               done)
          | (refine w_condF ?_ ?_
             · simp [h4]
               done)
          | (apply w_opT rfl
             · simp [h4]
               done
             · simp [h4]
               rfl)
          | (refine w_opF ?_ ?_
             · simp [h4]
               done))
        apply w_call0 (hc := by kernel_rfl) (pc := pc15 s.id o.id ours)
        · simp 
        · (simp ; rfl)
        repeat (first
          | refine w_seq ?_
          | refine w_region ?_
          | refine w_draw0 ?_
          | refine w_nil ?_
          | refine q_then ?_
          | refine w_skip ?_
          | refine w_ret ?_
          | refine w_block ?_
          | refine w_scope ?_
          | refine w_label ?_
          | refine q_thenR ?_
          | refine q_blockR ?_
          | refine q_blockN ?_
          | refine w_exit ?_
          | refine q_thenE ?_
          | refine q_blockE ?_
          | refine q_blockO rfl ?_
          | (apply w_op rfl
             · simp [h4]
               first | rfl | exact ⟨‹_›, rfl⟩)
          | (refine w_condT ?_ ?_
             · simp [h4]
               done)
          | (refine w_condF ?_ ?_
             · simp [h4]
               done)
          | (apply w_opT rfl
             · simp [h4]
               done
             · simp [h4]
               rfl)
          | (refine w_opF ?_ ?_
             · simp [h4]
               done))
        simp [Fin, rivalV, h4]
      · repeat (first
          | refine w_seq ?_
          | refine w_region ?_
          | refine w_draw0 ?_
          | refine w_nil ?_
          | refine q_then ?_
          | refine w_skip ?_
          | refine w_ret ?_
          | refine w_block ?_
          | refine w_scope ?_
          | refine w_label ?_
          | refine q_thenR ?_
          | refine q_blockR ?_
          | refine q_blockN ?_
          | refine w_exit ?_
          | refine q_thenE ?_
          | refine q_blockE ?_
          | refine q_blockO rfl ?_
          | (apply w_op rfl
             · simp [h3, h4, h5]
               first | rfl | exact ⟨‹_›, rfl⟩)
          | (refine w_condT ?_ ?_
             · simp [h3, h4, h5]
               done)
          | (refine w_condF ?_ ?_
             · simp [h3, h4, h5]
               done)
          | (apply w_opT rfl
             · simp [h3, h4, h5]
               done
             · simp [h3, h4, h5]
               rfl)
          | (refine w_opF ?_ ?_
             · simp [h3, h4, h5]
               done))
        simp [Fin, rivalV, h3, h4, h5]

end Go.V

