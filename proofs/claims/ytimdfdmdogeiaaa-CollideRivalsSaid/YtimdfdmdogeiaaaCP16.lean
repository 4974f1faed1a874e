/- CollideRivals: Swap. -/
import Derived.Test.YtimdfdmdogeiaaaCP15
set_option linter.all false
set_option linter.unusedSimpArgs false
set_option linter.unusedVariables false
namespace Go.V
open Go Go.Proofs

/-- slices.Concat, of three lists of messages -/
def Cat3 : Prop := ∀ xs ys zs : List (List D), (∀ x ∈ xs, x.length = 19) → (∀ x ∈ ys, x.length = 19) → (∀ x ∈ zs, x.length = 19) → xs.length ≤ 1 → ys.length = 1 → zs.length ≤ 1 →
  PC Try.prog 23 [vsl [[.sl xs], [.sl ys], [.sl zs]]] (tab []) (vsl (xs ++ ys ++ zs)) (tab [])

theorem pc16 (hcat : Cat3) (s : Sd) (f f1 f3 : Fs) (o : Opn) (xs1 xs3 : List (List D)) (cn1 cl1 up1 lost1 cn3 cl3 up3 lost3 : Bool) (l1 : ∀ x ∈ xs1, x.length = 19) (l3 : ∀ x ∈ xs3, x.length = 19) (n1 : xs1.length ≤ 1) (n3 : xs3.length ≤ 1)
    (h1 : PC Try.prog 22 [.agg s.cs, .agg f.cs, .agg (evC 8 noMsg 6 7 [])] (tab []) (.tup [.agg f1.cs, .agg (otC xs1 cn1 cl1 up1 lost1)]) (tab []))
    (h2 : PC Try.prog 22 [.agg s.cs, .agg actF.cs, .agg (evC 3 noMsg 0 0 [])] (tab []) (.tup [.agg upF.cs, .agg (otC [(helloV s).ds] false false false false)]) (tab []))
    (h3 : PC Try.prog 22 [.agg s.cs, .agg upF.cs, .agg (evC 6 ⟨1, o, 0, 0, []⟩ 0 0 [])] (tab []) (.tup [.agg f3.cs, .agg (otC xs3 cn3 cl3 up3 lost3)]) (tab [])) :
    PC Try.prog 16 [.agg s.cs, .agg f.cs, .agg o.cs] (tab []) (.tup [.agg f3.cs, .agg (otC (xs1 ++ [(helloV s).ds] ++ xs3) false cl1 false lost1)]) (tab []) := by
  have hc := hcat xs1 [(helloV s).ds] xs3 l1 (by simp) l3 n1 (by simp) n3
  refine F16.pc0 (by simp) ?_
  unfold c16
  repeat (first
    | refine w_seq ?_
    | refine w_region ?_
    | refine w_draw0 ?_
    | refine w_nil ?_
    | refine q_then ?_
    | refine w_skip ?_
    | refine w_ret ?_
    | refine w_block ?_
    | refine w_scope ?_
    | refine w_label ?_
    | refine q_thenR ?_
    | refine q_blockR ?_
    | refine q_blockN ?_
    | refine w_exit ?_
    | refine q_thenE ?_
    | refine q_blockE ?_
    | refine q_blockO rfl ?_
    | (apply w_op rfl
       · simp 
         first | rfl | exact ⟨‹_›, rfl⟩)
    | (refine w_condT ?_ ?_
       · simp 
         done)
    | (refine w_condF ?_ ?_
       · simp 
         done)
    | (apply w_opT rfl
       · simp 
         done
       · simp 
         rfl)
    | (refine w_opF ?_ ?_
       · simp 
         done))
  refine w_draw ?_
  repeat (first
    | refine w_dnil ?_
    | (apply d_op rfl
       · simp 
         first | rfl | exact ⟨‹_›, rfl⟩)
    | (apply d_opT rfl
       · simp 
         done
       · simp 
         rfl)
    | (refine d_opF ?_ ?_
       · simp 
         done))
  apply d_call0 (hc := by kernel_rfl) (pc := pc21 7)
  · simp 
  · (simp ; rfl)
  repeat (first
    | refine w_dnil ?_
    | (apply d_op rfl
       · simp 
         first | rfl | exact ⟨‹_›, rfl⟩)
    | (apply d_opT rfl
       · simp 
         done
       · simp 
         rfl)
    | (refine d_opF ?_ ?_
       · simp 
         done))
  apply d_call0 (hc := by kernel_rfl) (pc := h1)
  · simp [noMsg, noOpn]
  · (simp [noMsg, noOpn]; rfl)
  repeat (first
    | refine w_dnil ?_
    | (apply d_op rfl
       · simp 
         first | rfl | exact ⟨‹_›, rfl⟩)
    | (apply d_opT rfl
       · simp 
         done
       · simp 
         rfl)
    | (refine d_opF ?_ ?_
       · simp 
         done))
  refine ⟨by simp, ?_⟩
  repeat (first
    | refine w_seq ?_
    | refine w_region ?_
    | refine w_draw0 ?_
    | refine w_nil ?_
    | refine q_then ?_
    | refine w_skip ?_
    | refine w_ret ?_
    | refine w_block ?_
    | refine w_scope ?_
    | refine w_label ?_
    | refine q_thenR ?_
    | refine q_blockR ?_
    | refine q_blockN ?_
    | refine w_exit ?_
    | refine q_thenE ?_
    | refine q_blockE ?_
    | refine q_blockO rfl ?_
    | (apply w_op rfl
       · simp 
         first | rfl | exact ⟨‹_›, rfl⟩)
    | (refine w_condT ?_ ?_
       · simp 
         done)
    | (refine w_condF ?_ ?_
       · simp 
         done)
    | (apply w_opT rfl
       · simp 
         done
       · simp 
         rfl)
    | (refine w_opF ?_ ?_
       · simp 
         done))
  apply w_call0 (hc := by kernel_rfl) (pc := h2)
  · simp [noMsg, noOpn]
  · (simp [noMsg, noOpn]; rfl)
  repeat (first
    | refine w_seq ?_
    | refine w_region ?_
    | refine w_draw0 ?_
    | refine w_nil ?_
    | refine q_then ?_
    | refine w_skip ?_
    | refine w_ret ?_
    | refine w_block ?_
    | refine w_scope ?_
    | refine w_label ?_
    | refine q_thenR ?_
    | refine q_blockR ?_
    | refine q_blockN ?_
    | refine w_exit ?_
    | refine q_thenE ?_
    | refine q_blockE ?_
    | refine q_blockO rfl ?_
    | (apply w_op rfl
       · simp 
         first | rfl | exact ⟨‹_›, rfl⟩)
    | (refine w_condT ?_ ?_
       · simp 
         done)
    | (refine w_condF ?_ ?_
       · simp 
         done)
    | (apply w_opT rfl
       · simp 
         done
       · simp 
         rfl)
    | (refine w_opF ?_ ?_
       · simp 
         done))
  apply w_call0 (hc := by kernel_rfl) (pc := h3)
  · simp 
  · (simp ; rfl)
  repeat (first
    | refine w_seq ?_
    | refine w_region ?_
    | refine w_draw0 ?_
    | refine w_nil ?_
    | refine q_then ?_
    | refine w_skip ?_
    | refine w_ret ?_
    | refine w_block ?_
    | refine w_scope ?_
    | refine w_label ?_
    | refine q_thenR ?_
    | refine q_blockR ?_
    | refine q_blockN ?_
    | refine w_exit ?_
    | refine q_thenE ?_
    | refine q_blockE ?_
    | refine q_blockO rfl ?_
    | (apply w_op rfl
       · simp 
         first | rfl | exact ⟨‹_›, rfl⟩)
    | (refine w_condT ?_ ?_
       · simp 
         done)
    | (refine w_condF ?_ ?_
       · simp 
         done)
    | (apply w_opT rfl
       · simp 
         done
       · simp 
         rfl)
    | (refine w_opF ?_ ?_
       · simp 
         done))
  apply w_call0 (hc := by kernel_rfl) (pc := hc)
  · simp 
  · (simp ; rfl)
  repeat (first
    | refine w_seq ?_
    | refine w_region ?_
    | refine w_draw0 ?_
    | refine w_nil ?_
    | refine q_then ?_
    | refine w_skip ?_
    | refine w_ret ?_
    | refine w_block ?_
    | refine w_scope ?_
    | refine w_label ?_
    | refine q_thenR ?_
    | refine q_blockR ?_
    | refine q_blockN ?_
    | refine w_exit ?_
    | refine q_thenE ?_
    | refine q_blockE ?_
    | refine q_blockO rfl ?_
    | (apply w_op rfl
       · simp 
         first | rfl | exact ⟨‹_›, rfl⟩)
    | (refine w_condT ?_ ?_
       · simp 
         done)
    | (refine w_condF ?_ ?_
       · simp 
         done)
    | (apply w_opT rfl
       · simp 
         done
       · simp 
         rfl)
    | (refine w_opF ?_ ?_
       · simp 
         done))
  refine w_draw ?_
  repeat (first
    | refine w_dnil ?_
    | (apply d_op rfl
       · simp 
         first | rfl | exact ⟨‹_›, rfl⟩)
    | (apply d_opT rfl
       · simp 
         done
       · simp 
         rfl)
    | (refine d_opF ?_ ?_
       · simp 
         done))
  refine ⟨by simp, ?_⟩
  repeat (first
    | refine w_seq ?_
    | refine w_region ?_
    | refine w_draw0 ?_
    | refine w_nil ?_
    | refine q_then ?_
    | refine w_skip ?_
    | refine w_ret ?_
    | refine w_block ?_
    | refine w_scope ?_
    | refine w_label ?_
    | refine q_thenR ?_
    | refine q_blockR ?_
    | refine q_blockN ?_
    | refine w_exit ?_
    | refine q_thenE ?_
    | refine q_blockE ?_
    | refine q_blockO rfl ?_
    | (apply w_op rfl
       · simp 
         first | rfl | exact ⟨‹_›, rfl⟩)
    | (refine w_condT ?_ ?_
       · simp 
         done)
    | (refine w_condF ?_ ?_
       · simp 
         done)
    | (apply w_opT rfl
       · simp 
         done
       · simp 
         rfl)
    | (refine w_opF ?_ ?_
       · simp 
         done))
  refine w_draw ?_
  repeat (first
    | refine w_dnil ?_
    | (apply d_op rfl
       · simp 
         first | rfl | exact ⟨‹_›, rfl⟩)
    | (apply d_opT rfl
       · simp 
         done
       · simp 
         rfl)
    | (refine d_opF ?_ ?_
       · simp 
         done))
  refine ⟨by simp, ?_⟩
  repeat (first
    | refine w_seq ?_
    | refine w_region ?_
    | refine w_draw0 ?_
    | refine w_nil ?_
    | refine q_then ?_
    | refine w_skip ?_
    | refine w_ret ?_
    | refine w_block ?_
    | refine w_scope ?_
    | refine w_label ?_
    | refine q_thenR ?_
    | refine q_blockR ?_
    | refine q_blockN ?_
    | refine w_exit ?_
    | refine q_thenE ?_
    | refine q_blockE ?_
    | refine q_blockO rfl ?_
    | (apply w_op rfl
       · simp 
         first | rfl | exact ⟨‹_›, rfl⟩)
    | (refine w_condT ?_ ?_
       · simp 
         done)
    | (refine w_condF ?_ ?_
       · simp 
         done)
    | (apply w_opT rfl
       · simp 
         done
       · simp 
         rfl)
    | (refine w_opF ?_ ?_
       · simp 
         done))
  simp [Fin]

end Go.V

