/- CollideRivals: the same is done. -/
import Derived.Test.YtimdfdmdogeiaaaCP14
set_option linter.all false
set_option linter.unusedSimpArgs false
set_option linter.unusedVariables false
namespace Go.V
open Go Go.Proofs

theorem pc11 (ms : List Msg) (hms : ∀ m ∈ ms, OkMsg m) (hn : ms.length ≤ 1000) (cn cl up lost : Bool) : PC Try.prog 11 [.agg (otC (ms.map Msg.ds) cn cl up lost), .agg (otC (ms.map Msg.ds) cn cl up lost)] (tab []) (vb true) (tab []) := by
  refine F11.pc0 (by simp) ?_
  unfold c11
  repeat (first
    | refine w_seq ?_
    | refine w_region ?_
    | refine w_draw0 ?_
    | refine w_nil ?_
    | refine q_then ?_
    | refine w_skip ?_
    | refine w_ret ?_
    | refine w_block ?_
    | refine w_scope ?_
    | refine w_label ?_
    | refine q_thenR ?_
    | refine q_blockR ?_
    | refine q_blockN ?_
    | refine w_exit ?_
    | refine q_thenE ?_
    | refine q_blockE ?_
    | refine q_blockO rfl ?_
    | (apply w_op rfl
       · simp 
         first | rfl | exact ⟨‹_›, rfl⟩)
    | (refine w_condT ?_ ?_
       · simp 
         done)
    | (refine w_condF ?_ ?_
       · simp 
         done)
    | (apply w_opT rfl
       · simp 
         done
       · simp 
         rfl)
    | (refine w_opF ?_ ?_
       · simp 
         done))
  refine w_loop (fun k st => ∃ i : Nat, i ≤ ms.length ∧ k = ms.length - i ∧ st.env 2 = .c (.ptr 5 1 0) ∧ st.env 3 = .c (.ptr 7 1 0) ∧ st.env 5 = vi64 i ∧ st.box 5 = (1, some (otC (ms.map Msg.ds) cn cl up lost)) ∧ st.box 7 = (1, some (otC (ms.map Msg.ds) cn cl up lost))) ms.length ⟨0, by simp⟩ ?_
  rintro k st ⟨i, hi, hk, e2, e3, e5, b5, b7⟩
  by_cases hlt : i < ms.length
  · have hok := hms _ (List.getElem_mem hlt)
    repeat (first
      | refine w_seq ?_
      | refine w_region ?_
      | refine w_draw0 ?_
      | refine w_nil ?_
      | refine q_then ?_
      | refine w_skip ?_
      | refine w_ret ?_
      | refine w_block ?_
      | refine w_scope ?_
      | refine w_label ?_
      | refine q_thenR ?_
      | refine q_blockR ?_
      | refine q_blockN ?_
      | refine w_exit ?_
      | refine q_thenE ?_
      | refine q_blockE ?_
      | refine q_blockO rfl ?_
      | (apply w_op rfl
         · simp [e2, e3, e5, b5, b7, hlt]
           first | rfl | exact ⟨‹_›, rfl⟩)
      | (refine w_condT ?_ ?_
         · simp [e2, e3, e5, b5, b7, hlt]
           done)
      | (refine w_condF ?_ ?_
         · simp [e2, e3, e5, b5, b7, hlt]
           done)
      | (apply w_opT rfl
         · simp [e2, e3, e5, b5, b7, hlt]
           done
         · simp [e2, e3, e5, b5, b7, hlt]
           rfl)
      | (refine w_opF ?_ ?_
         · simp [e2, e3, e5, b5, b7, hlt]
           done))
    refine w_draw ?_
    repeat (first
      | refine w_dnil ?_
      | (apply d_op rfl
         · simp [e2, e3, e5, b5, b7, hlt]
           first | rfl | exact ⟨‹_›, rfl⟩)
      | (apply d_opT rfl
         · simp [e2, e3, e5, b5, b7, hlt]
           done
         · simp [e2, e3, e5, b5, b7, hlt]
           rfl)
      | (refine d_opF ?_ ?_
         · simp [e2, e3, e5, b5, b7, hlt]
           done))
    apply d_call0 (hc := by kernel_rfl) (pc := pc19 ms[i] hok)
    · simp [e2, e3, e5, b5, b7, hlt]
    · (simp [e2, e3, e5, b5, b7, hlt]; rfl)
    repeat (first
      | refine w_dnil ?_
      | (apply d_op rfl
         · simp [e2, e3, e5, b5, b7, hlt]
           first | rfl | exact ⟨‹_›, rfl⟩)
      | (apply d_opT rfl
         · simp [e2, e3, e5, b5, b7, hlt]
           done
         · simp [e2, e3, e5, b5, b7, hlt]
           rfl)
      | (refine d_opF ?_ ?_
         · simp [e2, e3, e5, b5, b7, hlt]
           done))
    apply d_call0 (hc := by kernel_rfl) (pc := pc19 ms[i] hok)
    · simp [e2, e3, e5, b5, b7, hlt]
    · (simp [e2, e3, e5, b5, b7, hlt]; rfl)
    repeat (first
      | refine w_dnil ?_
      | (apply d_op rfl
         · simp [e2, e3, e5, b5, b7, hlt]
           first | rfl | exact ⟨‹_›, rfl⟩)
      | (apply d_opT rfl
         · simp [e2, e3, e5, b5, b7, hlt]
           done
         · simp [e2, e3, e5, b5, b7, hlt]
           rfl)
      | (refine d_opF ?_ ?_
         · simp [e2, e3, e5, b5, b7, hlt]
           done))
    apply d_call0 (hc := by kernel_rfl) (pc := pc18 ms[i] hok)
    · simp [e2, e3, e5, b5, b7, hlt]
    · (simp [e2, e3, e5, b5, b7, hlt]; rfl)
    repeat (first
      | refine w_dnil ?_
      | (apply d_op rfl
         · simp [e2, e3, e5, b5, b7, hlt]
           first | rfl | exact ⟨‹_›, rfl⟩)
      | (apply d_opT rfl
         · simp [e2, e3, e5, b5, b7, hlt]
           done
         · simp [e2, e3, e5, b5, b7, hlt]
           rfl)
      | (refine d_opF ?_ ?_
         · simp [e2, e3, e5, b5, b7, hlt]
           done))
    refine ⟨by simp, ?_⟩
    repeat (first
      | refine w_seq ?_
      | refine w_region ?_
      | refine w_draw0 ?_
      | refine w_nil ?_
      | refine q_then ?_
      | refine w_skip ?_
      | refine w_ret ?_
      | refine w_block ?_
      | refine w_scope ?_
      | refine w_label ?_
      | refine q_thenR ?_
      | refine q_blockR ?_
      | refine q_blockN ?_
      | refine w_exit ?_
      | refine q_thenE ?_
      | refine q_blockE ?_
      | refine q_blockO rfl ?_
      | (apply w_op rfl
         · simp [e2, e3, e5, b5, b7, hlt]
           first | rfl | exact ⟨‹_›, rfl⟩)
      | (refine w_condT ?_ ?_
         · simp [e2, e3, e5, b5, b7, hlt]
           done)
      | (refine w_condF ?_ ?_
         · simp [e2, e3, e5, b5, b7, hlt]
           done)
      | (apply w_opT rfl
         · simp [e2, e3, e5, b5, b7, hlt]
           done
         · simp [e2, e3, e5, b5, b7, hlt]
           rfl)
      | (refine w_opF ?_ ?_
         · simp [e2, e3, e5, b5, b7, hlt]
           done))
    refine ⟨ms.length - (i + 1), by omega, i + 1, by omega, rfl, ?_⟩
    simp [e2, e3, e5, b5, b7]
    exact wrap64 (by omega) (by omega)
  · have hie : i = ms.length := by omega
    subst hie
    repeat (first
      | refine w_seq ?_
      | refine w_region ?_
      | refine w_draw0 ?_
      | refine w_nil ?_
      | refine q_then ?_
      | refine w_skip ?_
      | refine w_ret ?_
      | refine w_block ?_
      | refine w_scope ?_
      | refine w_label ?_
      | refine q_thenR ?_
      | refine q_blockR ?_
      | refine q_blockN ?_
      | refine w_exit ?_
      | refine q_thenE ?_
      | refine q_blockE ?_
      | refine q_blockO rfl ?_
      | (apply w_op rfl
         · simp [e2, e3, e5, b5, b7]
           first | rfl | exact ⟨‹_›, rfl⟩)
      | (refine w_condT ?_ ?_
         · simp [e2, e3, e5, b5, b7]
           done)
      | (refine w_condF ?_ ?_
         · simp [e2, e3, e5, b5, b7]
           done)
      | (apply w_opT rfl
         · simp [e2, e3, e5, b5, b7]
           done
         · simp [e2, e3, e5, b5, b7]
           rfl)
      | (refine w_opF ?_ ?_
         · simp [e2, e3, e5, b5, b7]
           done))
    simp [Fin]

end Go.V

