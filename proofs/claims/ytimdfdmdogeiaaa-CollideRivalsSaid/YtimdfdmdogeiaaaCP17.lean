/- CollideRivals: Turn; the law's own small parts. -/
import Derived.Test.YtimdfdmdogeiaaaCP16
set_option linter.all false
set_option linter.unusedSimpArgs false
set_option linter.unusedVariables false
namespace Go.V
open Go Go.Proofs

theorem pc4 : PC Try.prog 4 [] (tab []) (vb true) (tab []) := by
  refine F4.pc0 (by simp) ?_
  unfold c4
  have h1 := pc13 5 3 true
  have h2 := pc13 3 5 true
  rw [show keepsV 5 3 true = true from by decide] at h1
  rw [show keepsV 3 5 true = false from by decide] at h2
  repeat (first
    | refine w_seq ?_
    | refine w_region ?_
    | refine w_draw0 ?_
    | refine w_nil ?_
    | refine q_then ?_
    | refine w_skip ?_
    | refine w_ret ?_
    | refine w_block ?_
    | refine w_scope ?_
    | refine w_label ?_
    | refine q_thenR ?_
    | refine q_blockR ?_
    | refine q_blockN ?_
    | refine w_exit ?_
    | refine q_thenE ?_
    | refine q_blockE ?_
    | refine q_blockO rfl ?_
    | (apply w_op rfl
       · simp 
         first | rfl | exact ⟨‹_›, rfl⟩)
    | (refine w_condT ?_ ?_
       · simp 
         done)
    | (refine w_condF ?_ ?_
       · simp 
         done)
    | (apply w_opT rfl
       · simp 
         done
       · simp 
         rfl)
    | (refine w_opF ?_ ?_
       · simp 
         done))
  apply w_call0 (hc := by kernel_rfl) (pc := h1)
  · simp 
  · (simp ; rfl)
  repeat (first
    | refine w_seq ?_
    | refine w_region ?_
    | refine w_draw0 ?_
    | refine w_nil ?_
    | refine q_then ?_
    | refine w_skip ?_
    | refine w_ret ?_
    | refine w_block ?_
    | refine w_scope ?_
    | refine w_label ?_
    | refine q_thenR ?_
    | refine q_blockR ?_
    | refine q_blockN ?_
    | refine w_exit ?_
    | refine q_thenE ?_
    | refine q_blockE ?_
    | refine q_blockO rfl ?_
    | (apply w_op rfl
       · simp 
         first | rfl | exact ⟨‹_›, rfl⟩)
    | (refine w_condT ?_ ?_
       · simp 
         done)
    | (refine w_condF ?_ ?_
       · simp 
         done)
    | (apply w_opT rfl
       · simp 
         done
       · simp 
         rfl)
    | (refine w_opF ?_ ?_
       · simp 
         done))
  apply w_call0T (hc := by kernel_rfl) (pc := h2)
  · simp 
  · simp 
  · (simp ; rfl)
  repeat (first
    | refine w_seq ?_
    | refine w_region ?_
    | refine w_draw0 ?_
    | refine w_nil ?_
    | refine q_then ?_
    | refine w_skip ?_
    | refine w_ret ?_
    | refine w_block ?_
    | refine w_scope ?_
    | refine w_label ?_
    | refine q_thenR ?_
    | refine q_blockR ?_
    | refine q_blockN ?_
    | refine w_exit ?_
    | refine q_thenE ?_
    | refine q_blockE ?_
    | refine q_blockO rfl ?_
    | (apply w_op rfl
       · simp 
         first | rfl | exact ⟨‹_›, rfl⟩)
    | (refine w_condT ?_ ?_
       · simp 
         done)
    | (refine w_condF ?_ ?_
       · simp 
         done)
    | (apply w_opT rfl
       · simp 
         done
       · simp 
         rfl)
    | (refine w_opF ?_ ?_
       · simp 
         done))
  simp [Fin]

theorem pc9 (s : Sd) (f f3 : Fs) (o : Opn) (xs : List (List D)) (cn cl up lost : Bool) (h : PC Try.prog 16 [.agg s.cs, .agg f.cs, .agg o.cs] (tab []) (.tup [.agg f3.cs, .agg (otC xs cn cl up lost)]) (tab [])) :
    PC Try.prog 9 [.agg s.cs, .agg f.cs, .agg o.cs] (tab []) (.tup [.agg f3.cs, .agg (otC xs cn cl up lost)]) (tab []) := by
  refine F9.pc0 (by simp) ?_
  unfold c9
  repeat (first
    | refine w_seq ?_
    | refine w_region ?_
    | refine w_draw0 ?_
    | refine w_nil ?_
    | refine q_then ?_
    | refine w_skip ?_
    | refine w_ret ?_
    | refine w_block ?_
    | refine w_scope ?_
    | refine w_label ?_
    | refine q_thenR ?_
    | refine q_blockR ?_
    | refine q_blockN ?_
    | refine w_exit ?_
    | refine q_thenE ?_
    | refine q_blockE ?_
    | refine q_blockO rfl ?_
    | (apply w_op rfl
       · simp 
         first | rfl | exact ⟨‹_›, rfl⟩)
    | (refine w_condT ?_ ?_
       · simp 
         done)
    | (refine w_condF ?_ ?_
       · simp 
         done)
    | (apply w_opT rfl
       · simp 
         done
       · simp 
         rfl)
    | (refine w_opF ?_ ?_
       · simp 
         done))
  apply w_call0 (hc := by kernel_rfl) (pc := h)
  · simp 
  · (simp ; rfl)
  repeat (first
    | refine w_seq ?_
    | refine w_region ?_
    | refine w_draw0 ?_
    | refine w_nil ?_
    | refine q_then ?_
    | refine w_skip ?_
    | refine w_ret ?_
    | refine w_block ?_
    | refine w_scope ?_
    | refine w_label ?_
    | refine q_thenR ?_
    | refine q_blockR ?_
    | refine q_blockN ?_
    | refine w_exit ?_
    | refine q_thenE ?_
    | refine q_blockE ?_
    | refine q_blockO rfl ?_
    | (apply w_op rfl
       · simp 
         first | rfl | exact ⟨‹_›, rfl⟩)
    | (refine w_condT ?_ ?_
       · simp 
         done)
    | (refine w_condF ?_ ?_
       · simp 
         done)
    | (apply w_opT rfl
       · simp 
         done
       · simp 
         rfl)
    | (refine w_opF ?_ ?_
       · simp 
         done))
  simp [Fin]

theorem pc12d (s : Sd) (f f3 : Fs) (ours : Bool) (o : Opn) (xs : List (List D)) (cn cl up lost : Bool) (hd : (rivalV s f ours o).1 = true) (h : PC Try.prog 16 [.agg s.cs, .agg f.cs, .agg o.cs] (tab []) (.tup [.agg f3.cs, .agg (otC xs cn cl up lost)]) (tab [])) :
    PC Try.prog 12 [.agg s.cs, .agg f.cs, vb ours, .agg o.cs] (tab []) (.tup [.agg f3.cs, .agg (otC xs cn cl up lost), vb true]) (tab []) := by
  refine F12.pc0 (by simp) ?_
  unfold c12
  repeat (first
    | refine w_seq ?_
    | refine w_region ?_
    | refine w_draw0 ?_
    | refine w_nil ?_
    | refine q_then ?_
    | refine w_skip ?_
    | refine w_ret ?_
    | refine w_block ?_
    | refine w_scope ?_
    | refine w_label ?_
    | refine q_thenR ?_
    | refine q_blockR ?_
    | refine q_blockN ?_
    | refine w_exit ?_
    | refine q_thenE ?_
    | refine q_blockE ?_
    | refine q_blockO rfl ?_
    | (apply w_op rfl
       · simp 
         first | rfl | exact ⟨‹_›, rfl⟩)
    | (refine w_condT ?_ ?_
       · simp 
         done)
    | (refine w_condF ?_ ?_
       · simp 
         done)
    | (apply w_opT rfl
       · simp 
         done
       · simp 
         rfl)
    | (refine w_opF ?_ ?_
       · simp 
         done))
  apply w_call0 (hc := by kernel_rfl) (pc := pc14 s f ours o)
  · simp 
  · (simp ; rfl)
  repeat (first
    | refine w_seq ?_
    | refine w_region ?_
    | refine w_draw0 ?_
    | refine w_nil ?_
    | refine q_then ?_
    | refine w_skip ?_
    | refine w_ret ?_
    | refine w_block ?_
    | refine w_scope ?_
    | refine w_label ?_
    | refine q_thenR ?_
    | refine q_blockR ?_
    | refine q_blockN ?_
    | refine w_exit ?_
    | refine q_thenE ?_
    | refine q_blockE ?_
    | refine q_blockO rfl ?_
    | (apply w_op rfl
       · simp [hd]
         first | rfl | exact ⟨‹_›, rfl⟩)
    | (refine w_condT ?_ ?_
       · simp [hd]
         done)
    | (refine w_condF ?_ ?_
       · simp [hd]
         done)
    | (apply w_opT rfl
       · simp [hd]
         done
       · simp [hd]
         rfl)
    | (refine w_opF ?_ ?_
       · simp [hd]
         done))
  apply w_call0 (hc := by kernel_rfl) (pc := h)
  · simp 
  · (simp ; rfl)
  repeat (first
    | refine w_seq ?_
    | refine w_region ?_
    | refine w_draw0 ?_
    | refine w_nil ?_
    | refine q_then ?_
    | refine w_skip ?_
    | refine w_ret ?_
    | refine w_block ?_
    | refine w_scope ?_
    | refine w_label ?_
    | refine q_thenR ?_
    | refine q_blockR ?_
    | refine q_blockN ?_
    | refine w_exit ?_
    | refine q_thenE ?_
    | refine q_blockE ?_
    | refine q_blockO rfl ?_
    | (apply w_op rfl
       · simp 
         first | rfl | exact ⟨‹_›, rfl⟩)
    | (refine w_condT ?_ ?_
       · simp 
         done)
    | (refine w_condF ?_ ?_
       · simp 
         done)
    | (apply w_opT rfl
       · simp 
         done
       · simp 
         rfl)
    | (refine w_opF ?_ ?_
       · simp 
         done))
  refine w_draw ?_
  repeat (first
    | refine w_dnil ?_
    | (apply d_op rfl
       · simp 
         first | rfl | exact ⟨‹_›, rfl⟩)
    | (apply d_opT rfl
       · simp 
         done
       · simp 
         rfl)
    | (refine d_opF ?_ ?_
       · simp 
         done))
  refine ⟨by simp, ?_⟩
  repeat (first
    | refine w_seq ?_
    | refine w_region ?_
    | refine w_draw0 ?_
    | refine w_nil ?_
    | refine q_then ?_
    | refine w_skip ?_
    | refine w_ret ?_
    | refine w_block ?_
    | refine w_scope ?_
    | refine w_label ?_
    | refine q_thenR ?_
    | refine q_blockR ?_
    | refine q_blockN ?_
    | refine w_exit ?_
    | refine q_thenE ?_
    | refine q_blockE ?_
    | refine q_blockO rfl ?_
    | (apply w_op rfl
       · simp 
         first | rfl | exact ⟨‹_›, rfl⟩)
    | (refine w_condT ?_ ?_
       · simp 
         done)
    | (refine w_condF ?_ ?_
       · simp 
         done)
    | (apply w_opT rfl
       · simp 
         done
       · simp 
         rfl)
    | (refine w_opF ?_ ?_
       · simp 
         done))
  simp [Fin]

theorem pc12k (s : Sd) (f : Fs) (ours : Bool) (o : Opn) (hd : (rivalV s f ours o).1 = false) :
    PC Try.prog 12 [.agg s.cs, .agg f.cs, vb ours, .agg o.cs] (tab []) (.tup [.agg f.cs, .agg (otC [] false false false false), vb false]) (tab []) := by
  refine F12.pc0 (by simp) ?_
  unfold c12
  repeat (first
    | refine w_seq ?_
    | refine w_region ?_
    | refine w_draw0 ?_
    | refine w_nil ?_
    | refine q_then ?_
    | refine w_skip ?_
    | refine w_ret ?_
    | refine w_block ?_
    | refine w_scope ?_
    | refine w_label ?_
    | refine q_thenR ?_
    | refine q_blockR ?_
    | refine q_blockN ?_
    | refine w_exit ?_
    | refine q_thenE ?_
    | refine q_blockE ?_
    | refine q_blockO rfl ?_
    | (apply w_op rfl
       · simp 
         first | rfl | exact ⟨‹_›, rfl⟩)
    | (refine w_condT ?_ ?_
       · simp 
         done)
    | (refine w_condF ?_ ?_
       · simp 
         done)
    | (apply w_opT rfl
       · simp 
         done
       · simp 
         rfl)
    | (refine w_opF ?_ ?_
       · simp 
         done))
  apply w_call0 (hc := by kernel_rfl) (pc := pc14 s f ours o)
  · simp 
  · (simp ; rfl)
  repeat (first
    | refine w_seq ?_
    | refine w_region ?_
    | refine w_draw0 ?_
    | refine w_nil ?_
    | refine q_then ?_
    | refine w_skip ?_
    | refine w_ret ?_
    | refine w_block ?_
    | refine w_scope ?_
    | refine w_label ?_
    | refine q_thenR ?_
    | refine q_blockR ?_
    | refine q_blockN ?_
    | refine w_exit ?_
    | refine q_thenE ?_
    | refine q_blockE ?_
    | refine q_blockO rfl ?_
    | (apply w_op rfl
       · simp [hd]
         first | rfl | exact ⟨‹_›, rfl⟩)
    | (refine w_condT ?_ ?_
       · simp [hd]
         done)
    | (refine w_condF ?_ ?_
       · simp [hd]
         done)
    | (apply w_opT rfl
       · simp [hd]
         done
       · simp [hd]
         rfl)
    | (refine w_opF ?_ ?_
       · simp [hd]
         done))
  simp [Fin]

end Go.V

