/- Attributes that are an origin alone: their bytes. -/
import Derived.Test.YtglmbheeplndpaaAT2
set_option linter.all false
set_option linter.unusedSimpArgs false
set_option linter.unusedVariables false
namespace Go.V
open Go Go.Proofs

set_option maxHeartbeats 4000000 in
set_option maxRecDepth 100000 in
theorem pc_encoded : PC Try.prog 36 [.agg (A2cs 0)] (tab []) (vsl (u8s [64, 1, 1, 0])) (tab []) := by
  have hv : PC Try.prog 66 [.agg (A2cs 0), vi64 1] (tab []) (vsl (u8s [0])) (tab []) := pc_value1 0
  have hf : PC Try.prog 52 [vi64 1] (tab []) (vi64 64) (tab []) := pc_aflags 1
  have hw : PC Try.prog 45 [vp 0 0, vi64 64] (tab [[.nilsl]]) (vp 0 0) (tab [[.osl 5 1 (u8s [64])]]) := pc_wU8 .nilsl [] 64 (.inl ⟨rfl, rfl⟩) (by simp)
  have hw2 : PC Try.prog 45 [vp 0 0, vi64 1] (tab [[.osl 5 1 (u8s [64])]]) (vp 0 0) (tab [[.osl 5 1 (u8s [64, 1])]]) := pc_wU8 _ [64] 1 (.inr rfl) (by simp)
  have hz : PC Try.prog 68 [vp 0 0, vsl (u8s [0])] (tab [[.osl 5 1 (u8s [64, 1])]]) (vb true) (tab [[.osl 5 1 (u8s [64, 1, 1, 0])]]) := pc_Sized_ok _ [64, 1] [0] (.inr rfl) (by simp) (by simp)
  have hB := pc_Bytes (.osl 5 1 (u8s [64, 1, 1, 0])) [64, 1, 1, 0] (.inr rfl) (by simp)
  have hh1 : PC Try.prog 56 [.agg (A2cs 0), vi64 1] (tab []) (vb true) (tab []) := pc_hasA 0 1 (by omega)
  refine F_attr_encoded.pc0 (by simp) ?_
  unfold c_attr_encoded
  repeat (first
    | refine w_seq ?_
    | refine w_region ?_
    | refine w_draw0 ?_
    | refine w_nil ?_
    | refine q_then ?_
    | refine w_skip ?_
    | refine w_ret ?_
    | refine w_block ?_
    | refine w_scope ?_
    | refine w_label ?_
    | refine q_thenR ?_
    | refine q_blockR ?_
    | refine q_blockN ?_
    | refine w_exit ?_
    | refine q_thenE ?_
    | refine q_blockE ?_
    | refine w_scope1 ?_
    | refine w_goto ?_
    | refine q_thenG ?_
    | refine q_blockG ?_
    | refine q_ngN ?_
    | refine q_ngR ?_
    | refine q_ngE ?_
    | refine q_jumpN ?_
    | refine q_jumpR ?_
    | refine q_jumpE ?_
    | refine q_jumpG ?_
    | refine q_blockO rfl ?_
    | (apply w_op rfl
       · simp 
         first | rfl | exact ⟨‹_›, rfl⟩)
    | (refine w_condT ?_ ?_
       · simp 
         done)
    | (refine w_condF ?_ ?_
       · simp 
         done)
    | (apply w_opT rfl
       · simp 
         done
       · simp 
         rfl)
    | (refine w_opF ?_ ?_
       · simp 
         done))
  refine w_loop (fun x st => ∃ k : Nat, x = 9 - k ∧ 1 ≤ k ∧ k ≤ 9 ∧ st.env 1 = .c (.ptr 3 1 0) ∧ st.box 3 = (1, some (A2cs 0)) ∧ st.env 3 = .c (.ptr 15 1 0) ∧ st.env 4 = vi64 k ∧ ((k = 1 ∧ st.box 15 = (1, some [.nilsl])) ∨ (2 ≤ k ∧ st.box 15 = (1, some [.osl 5 1 (u8s [64, 1, 1, 0])])))) 8 ?_ ?_
  · exact ⟨1, by simp⟩
  rintro _ st ⟨k, rfl, hk1, hk9, e1, b3, e3, e4, hb⟩
  rcases hb with ⟨rfl, b15⟩ | ⟨hk2, b15⟩
  · repeat (first
      | refine w_seq ?_
      | refine w_region ?_
      | refine w_draw0 ?_
      | refine w_nil ?_
      | refine q_then ?_
      | refine w_skip ?_
      | refine w_ret ?_
      | refine w_block ?_
      | refine w_scope ?_
      | refine w_label ?_
      | refine q_thenR ?_
      | refine q_blockR ?_
      | refine q_blockN ?_
      | refine w_exit ?_
      | refine q_thenE ?_
      | refine q_blockE ?_
      | refine w_scope1 ?_
      | refine w_goto ?_
      | refine q_thenG ?_
      | refine q_blockG ?_
      | refine q_ngN ?_
      | refine q_ngR ?_
      | refine q_ngE ?_
      | refine q_jumpN ?_
      | refine q_jumpR ?_
      | refine q_jumpE ?_
      | refine q_jumpG ?_
      | refine q_blockO rfl ?_
      | (apply w_op rfl
         · simp [e1, b3, e3, e4, b15]
           first | rfl | exact ⟨‹_›, rfl⟩)
      | (refine w_condT ?_ ?_
         · simp [e1, b3, e3, e4, b15]
           done)
      | (refine w_condF ?_ ?_
         · simp [e1, b3, e3, e4, b15]
           done)
      | (apply w_opT rfl
         · simp [e1, b3, e3, e4, b15]
           done
         · simp [e1, b3, e3, e4, b15]
           rfl)
      | (refine w_opF ?_ ?_
         · simp [e1, b3, e3, e4, b15]
           done))
    apply w_call0 (hc := by kernel_rfl) (pc := hh1)
    · simp [e1, b3, e3, e4, b15]
    · (simp [e1, b3, e3, e4, b15]; rfl)
    repeat (first
      | refine w_seq ?_
      | refine w_region ?_
      | refine w_draw0 ?_
      | refine w_nil ?_
      | refine q_then ?_
      | refine w_skip ?_
      | refine w_ret ?_
      | refine w_block ?_
      | refine w_scope ?_
      | refine w_label ?_
      | refine q_thenR ?_
      | refine q_blockR ?_
      | refine q_blockN ?_
      | refine w_exit ?_
      | refine q_thenE ?_
      | refine q_blockE ?_
      | refine w_scope1 ?_
      | refine w_goto ?_
      | refine q_thenG ?_
      | refine q_blockG ?_
      | refine q_ngN ?_
      | refine q_ngR ?_
      | refine q_ngE ?_
      | refine q_jumpN ?_
      | refine q_jumpR ?_
      | refine q_jumpE ?_
      | refine q_jumpG ?_
      | refine q_blockO rfl ?_
      | (apply w_op rfl
         · simp [e1, b3, e3, e4, b15]
           first | rfl | exact ⟨‹_›, rfl⟩)
      | (refine w_condT ?_ ?_
         · simp [e1, b3, e3, e4, b15]
           done)
      | (refine w_condF ?_ ?_
         · simp [e1, b3, e3, e4, b15]
           done)
      | (apply w_opT rfl
         · simp [e1, b3, e3, e4, b15]
           done
         · simp [e1, b3, e3, e4, b15]
           rfl)
      | (refine w_opF ?_ ?_
         · simp [e1, b3, e3, e4, b15]
           done))
    apply w_call0 (hc := by kernel_rfl) (pc := hv)
    · simp [e1, b3, e3, e4, b15]
    · (simp [e1, b3, e3, e4, b15]; rfl)
    repeat (first
      | refine w_seq ?_
      | refine w_region ?_
      | refine w_draw0 ?_
      | refine w_nil ?_
      | refine q_then ?_
      | refine w_skip ?_
      | refine w_ret ?_
      | refine w_block ?_
      | refine w_scope ?_
      | refine w_label ?_
      | refine q_thenR ?_
      | refine q_blockR ?_
      | refine q_blockN ?_
      | refine w_exit ?_
      | refine q_thenE ?_
      | refine q_blockE ?_
      | refine w_scope1 ?_
      | refine w_goto ?_
      | refine q_thenG ?_
      | refine q_blockG ?_
      | refine q_ngN ?_
      | refine q_ngR ?_
      | refine q_ngE ?_
      | refine q_jumpN ?_
      | refine q_jumpR ?_
      | refine q_jumpE ?_
      | refine q_jumpG ?_
      | refine q_blockO rfl ?_
      | (apply w_op rfl
         · simp [e1, b3, e3, e4, b15]
           first | rfl | exact ⟨‹_›, rfl⟩)
      | (refine w_condT ?_ ?_
         · simp [e1, b3, e3, e4, b15]
           done)
      | (refine w_condF ?_ ?_
         · simp [e1, b3, e3, e4, b15]
           done)
      | (apply w_opT rfl
         · simp [e1, b3, e3, e4, b15]
           done
         · simp [e1, b3, e3, e4, b15]
           rfl)
      | (refine w_opF ?_ ?_
         · simp [e1, b3, e3, e4, b15]
           done))
    apply w_call0 (hc := by kernel_rfl) (pc := hf)
    · simp [e1, b3, e3, e4, b15]
    · (simp [e1, b3, e3, e4, b15]; rfl)
    repeat (first
      | refine w_seq ?_
      | refine w_region ?_
      | refine w_draw0 ?_
      | refine w_nil ?_
      | refine q_then ?_
      | refine w_skip ?_
      | refine w_ret ?_
      | refine w_block ?_
      | refine w_scope ?_
      | refine w_label ?_
      | refine q_thenR ?_
      | refine q_blockR ?_
      | refine q_blockN ?_
      | refine w_exit ?_
      | refine q_thenE ?_
      | refine q_blockE ?_
      | refine w_scope1 ?_
      | refine w_goto ?_
      | refine q_thenG ?_
      | refine q_blockG ?_
      | refine q_ngN ?_
      | refine q_ngR ?_
      | refine q_ngE ?_
      | refine q_jumpN ?_
      | refine q_jumpR ?_
      | refine q_jumpE ?_
      | refine q_jumpG ?_
      | refine q_blockO rfl ?_
      | (apply w_op rfl
         · simp [e1, b3, e3, e4, b15]
           first | rfl | exact ⟨‹_›, rfl⟩)
      | (refine w_condT ?_ ?_
         · simp [e1, b3, e3, e4, b15]
           done)
      | (refine w_condF ?_ ?_
         · simp [e1, b3, e3, e4, b15]
           done)
      | (apply w_opT rfl
         · simp [e1, b3, e3, e4, b15]
           done
         · simp [e1, b3, e3, e4, b15]
           rfl)
      | (refine w_opF ?_ ?_
         · simp [e1, b3, e3, e4, b15]
           done))
    apply w_call [15] (hc := by kernel_rfl) (pc := hw)
    · decide
    · decide
    · simp [e1, b3, e3, e4, b15]
    · simp [e1, b3, e3, e4, b15]
    · simp [e1, b3, e3, e4, b15]
    · simp [e1, b3, e3, e4, b15]
    · simp [e1, b3, e3, e4, b15]
    · (simp [e1, b3, e3, e4, b15]; rfl)
    repeat (first
      | refine w_seq ?_
      | refine w_region ?_
      | refine w_draw0 ?_
      | refine w_nil ?_
      | refine q_then ?_
      | refine w_skip ?_
      | refine w_ret ?_
      | refine w_block ?_
      | refine w_scope ?_
      | refine w_label ?_
      | refine q_thenR ?_
      | refine q_blockR ?_
      | refine q_blockN ?_
      | refine w_exit ?_
      | refine q_thenE ?_
      | refine q_blockE ?_
      | refine w_scope1 ?_
      | refine w_goto ?_
      | refine q_thenG ?_
      | refine q_blockG ?_
      | refine q_ngN ?_
      | refine q_ngR ?_
      | refine q_ngE ?_
      | refine q_jumpN ?_
      | refine q_jumpR ?_
      | refine q_jumpE ?_
      | refine q_jumpG ?_
      | refine q_blockO rfl ?_
      | (apply w_op rfl
         · simp [e1, b3, e3, e4, b15]
           first | rfl | exact ⟨‹_›, rfl⟩)
      | (refine w_condT ?_ ?_
         · simp [e1, b3, e3, e4, b15]
           done)
      | (refine w_condF ?_ ?_
         · simp [e1, b3, e3, e4, b15]
           done)
      | (apply w_opT rfl
         · simp [e1, b3, e3, e4, b15]
           done
         · simp [e1, b3, e3, e4, b15]
           rfl)
      | (refine w_opF ?_ ?_
         · simp [e1, b3, e3, e4, b15]
           done))
    apply w_call [15] (hc := by kernel_rfl) (pc := hw2)
    · decide
    · decide
    · simp [e1, b3, e3, e4, b15]
    · simp [e1, b3, e3, e4, b15]
    · simp [e1, b3, e3, e4, b15]
    · simp [e1, b3, e3, e4, b15]
    · simp [e1, b3, e3, e4, b15]
    · (simp [e1, b3, e3, e4, b15]; rfl)
    repeat (first
      | refine w_seq ?_
      | refine w_region ?_
      | refine w_draw0 ?_
      | refine w_nil ?_
      | refine q_then ?_
      | refine w_skip ?_
      | refine w_ret ?_
      | refine w_block ?_
      | refine w_scope ?_
      | refine w_label ?_
      | refine q_thenR ?_
      | refine q_blockR ?_
      | refine q_blockN ?_
      | refine w_exit ?_
      | refine q_thenE ?_
      | refine q_blockE ?_
      | refine w_scope1 ?_
      | refine w_goto ?_
      | refine q_thenG ?_
      | refine q_blockG ?_
      | refine q_ngN ?_
      | refine q_ngR ?_
      | refine q_ngE ?_
      | refine q_jumpN ?_
      | refine q_jumpR ?_
      | refine q_jumpE ?_
      | refine q_jumpG ?_
      | refine q_blockO rfl ?_
      | (apply w_op rfl
         · simp [e1, b3, e3, e4, b15]
           first | rfl | exact ⟨‹_›, rfl⟩)
      | (refine w_condT ?_ ?_
         · simp [e1, b3, e3, e4, b15]
           done)
      | (refine w_condF ?_ ?_
         · simp [e1, b3, e3, e4, b15]
           done)
      | (apply w_opT rfl
         · simp [e1, b3, e3, e4, b15]
           done
         · simp [e1, b3, e3, e4, b15]
           rfl)
      | (refine w_opF ?_ ?_
         · simp [e1, b3, e3, e4, b15]
           done))
    apply w_call [15] (hc := by kernel_rfl) (pc := hz)
    · decide
    · decide
    · simp [e1, b3, e3, e4, b15]
    · simp [e1, b3, e3, e4, b15]
    · simp [e1, b3, e3, e4, b15]
    · simp [e1, b3, e3, e4, b15]
    · simp [e1, b3, e3, e4, b15]
    · (simp [e1, b3, e3, e4, b15]; rfl)
    have hw3 : IntKind.i64.wrap 2 = 2 := by decide
    repeat (first
      | refine w_seq ?_
      | refine w_region ?_
      | refine w_draw0 ?_
      | refine w_nil ?_
      | refine q_then ?_
      | refine w_skip ?_
      | refine w_ret ?_
      | refine w_block ?_
      | refine w_scope ?_
      | refine w_label ?_
      | refine q_thenR ?_
      | refine q_blockR ?_
      | refine q_blockN ?_
      | refine w_exit ?_
      | refine q_thenE ?_
      | refine q_blockE ?_
      | refine w_scope1 ?_
      | refine w_goto ?_
      | refine q_thenG ?_
      | refine q_blockG ?_
      | refine q_ngN ?_
      | refine q_ngR ?_
      | refine q_ngE ?_
      | refine q_jumpN ?_
      | refine q_jumpR ?_
      | refine q_jumpE ?_
      | refine q_jumpG ?_
      | refine q_blockO rfl ?_
      | (apply w_op rfl
         · simp [e1, b3, e3, e4, b15, hw3]
           first | rfl | exact ⟨‹_›, rfl⟩)
      | (refine w_condT ?_ ?_
         · simp [e1, b3, e3, e4, b15, hw3]
           done)
      | (refine w_condF ?_ ?_
         · simp [e1, b3, e3, e4, b15, hw3]
           done)
      | (apply w_opT rfl
         · simp [e1, b3, e3, e4, b15, hw3]
           done
         · simp [e1, b3, e3, e4, b15, hw3]
           rfl)
      | (refine w_opF ?_ ?_
         · simp [e1, b3, e3, e4, b15, hw3]
           done))
    exact ⟨7, by omega, 2, by simp [e1, b3, e3, e4, b15, hw3]⟩
  · by_cases h8 : k = 9
    · subst h8
      repeat (first
        | refine w_seq ?_
        | refine w_region ?_
        | refine w_draw0 ?_
        | refine w_nil ?_
        | refine q_then ?_
        | refine w_skip ?_
        | refine w_ret ?_
        | refine w_block ?_
        | refine w_scope ?_
        | refine w_label ?_
        | refine q_thenR ?_
        | refine q_blockR ?_
        | refine q_blockN ?_
        | refine w_exit ?_
        | refine q_thenE ?_
        | refine q_blockE ?_
        | refine w_scope1 ?_
        | refine w_goto ?_
        | refine q_thenG ?_
        | refine q_blockG ?_
        | refine q_ngN ?_
        | refine q_ngR ?_
        | refine q_ngE ?_
        | refine q_jumpN ?_
        | refine q_jumpR ?_
        | refine q_jumpE ?_
        | refine q_jumpG ?_
        | refine q_blockO rfl ?_
        | (apply w_op rfl
           · simp [e1, b3, e3, e4, b15]
             first | rfl | exact ⟨‹_›, rfl⟩)
        | (refine w_condT ?_ ?_
           · simp [e1, b3, e3, e4, b15]
             done)
        | (refine w_condF ?_ ?_
           · simp [e1, b3, e3, e4, b15]
             done)
        | (apply w_opT rfl
           · simp [e1, b3, e3, e4, b15]
             done
           · simp [e1, b3, e3, e4, b15]
             rfl)
        | (refine w_opF ?_ ?_
           · simp [e1, b3, e3, e4, b15]
             done))
      apply w_call [15] (hc := by kernel_rfl) (pc := hB)
      · decide
      · decide
      · simp [e1, b3, e3, e4, b15]
      · simp [e1, b3, e3, e4, b15]
      · simp [e1, b3, e3, e4, b15]
      · simp [e1, b3, e3, e4, b15]
      · simp [e1, b3, e3, e4, b15]
      · (simp [e1, b3, e3, e4, b15]; rfl)
      repeat (first
        | refine w_seq ?_
        | refine w_region ?_
        | refine w_draw0 ?_
        | refine w_nil ?_
        | refine q_then ?_
        | refine w_skip ?_
        | refine w_ret ?_
        | refine w_block ?_
        | refine w_scope ?_
        | refine w_label ?_
        | refine q_thenR ?_
        | refine q_blockR ?_
        | refine q_blockN ?_
        | refine w_exit ?_
        | refine q_thenE ?_
        | refine q_blockE ?_
        | refine w_scope1 ?_
        | refine w_goto ?_
        | refine q_thenG ?_
        | refine q_blockG ?_
        | refine q_ngN ?_
        | refine q_ngR ?_
        | refine q_ngE ?_
        | refine q_jumpN ?_
        | refine q_jumpR ?_
        | refine q_jumpE ?_
        | refine q_jumpG ?_
        | refine q_blockO rfl ?_
        | (apply w_op rfl
           · simp [e1, b3, e3, e4, b15]
             first | rfl | exact ⟨‹_›, rfl⟩)
        | (refine w_condT ?_ ?_
           · simp [e1, b3, e3, e4, b15]
             done)
        | (refine w_condF ?_ ?_
           · simp [e1, b3, e3, e4, b15]
             done)
        | (apply w_opT rfl
           · simp [e1, b3, e3, e4, b15]
             done
           · simp [e1, b3, e3, e4, b15]
             rfl)
        | (refine w_opF ?_ ?_
           · simp [e1, b3, e3, e4, b15]
             done))
      simp [Fin]
    · have hw3 : IntKind.i64.wrap ((k : Int) + 1) = k + 1 := wrap64 (by omega) (by omega)
      have hh : PC Try.prog 56 [.agg (A2cs 0), vi64 k] (tab []) (vb false) (tab []) := by
        have h := pc_hasA 0 k (by omega)
        rw [decide_eq_false (show ¬ k = 1 by omega)] at h
        exact h
      have h8' : (k : Int) ≤ 8 := by omega
      repeat (first
        | refine w_seq ?_
        | refine w_region ?_
        | refine w_draw0 ?_
        | refine w_nil ?_
        | refine q_then ?_
        | refine w_skip ?_
        | refine w_ret ?_
        | refine w_block ?_
        | refine w_scope ?_
        | refine w_label ?_
        | refine q_thenR ?_
        | refine q_blockR ?_
        | refine q_blockN ?_
        | refine w_exit ?_
        | refine q_thenE ?_
        | refine q_blockE ?_
        | refine w_scope1 ?_
        | refine w_goto ?_
        | refine q_thenG ?_
        | refine q_blockG ?_
        | refine q_ngN ?_
        | refine q_ngR ?_
        | refine q_ngE ?_
        | refine q_jumpN ?_
        | refine q_jumpR ?_
        | refine q_jumpE ?_
        | refine q_jumpG ?_
        | refine q_blockO rfl ?_
        | (apply w_op rfl
           · simp [e1, b3, e3, e4, b15, h8']
             first | rfl | exact ⟨‹_›, rfl⟩)
        | (refine w_condT ?_ ?_
           · simp [e1, b3, e3, e4, b15, h8']
             done)
        | (refine w_condF ?_ ?_
           · simp [e1, b3, e3, e4, b15, h8']
             done)
        | (apply w_opT rfl
           · simp [e1, b3, e3, e4, b15, h8']
             done
           · simp [e1, b3, e3, e4, b15, h8']
             rfl)
        | (refine w_opF ?_ ?_
           · simp [e1, b3, e3, e4, b15, h8']
             done))
      apply w_call0 (hc := by kernel_rfl) (pc := hh)
      · simp [e1, b3, e3, e4, b15, h8']
      · (simp [e1, b3, e3, e4, b15, h8']; rfl)
      repeat (first
        | refine w_seq ?_
        | refine w_region ?_
        | refine w_draw0 ?_
        | refine w_nil ?_
        | refine q_then ?_
        | refine w_skip ?_
        | refine w_ret ?_
        | refine w_block ?_
        | refine w_scope ?_
        | refine w_label ?_
        | refine q_thenR ?_
        | refine q_blockR ?_
        | refine q_blockN ?_
        | refine w_exit ?_
        | refine q_thenE ?_
        | refine q_blockE ?_
        | refine w_scope1 ?_
        | refine w_goto ?_
        | refine q_thenG ?_
        | refine q_blockG ?_
        | refine q_ngN ?_
        | refine q_ngR ?_
        | refine q_ngE ?_
        | refine q_jumpN ?_
        | refine q_jumpR ?_
        | refine q_jumpE ?_
        | refine q_jumpG ?_
        | refine q_blockO rfl ?_
        | (apply w_op rfl
           · simp [e1, b3, e3, e4, b15, hw3]
             first | rfl | exact ⟨‹_›, rfl⟩)
        | (refine w_condT ?_ ?_
           · simp [e1, b3, e3, e4, b15, hw3]
             done)
        | (refine w_condF ?_ ?_
           · simp [e1, b3, e3, e4, b15, hw3]
             done)
        | (apply w_opT rfl
           · simp [e1, b3, e3, e4, b15, hw3]
             done
           · simp [e1, b3, e3, e4, b15, hw3]
             rfl)
        | (refine w_opF ?_ ?_
           · simp [e1, b3, e3, e4, b15, hw3]
             done))
      exact ⟨9 - (k + 1), by omega, k + 1, by simp [e1, b3, e3, e4, b15, hw3]; omega⟩

theorem pc_Encode : PC Try.prog 16 [.agg (A2cs 0)] (tab []) (.tup [vsl (u8s [64, 1, 1, 0]), vi64 0]) (tab []) := by
  have hg := pc_agood
  have he := pc_encoded
  refine F_attr_Encode.pc0 (by simp) ?_
  unfold c_attr_Encode
  repeat (first
    | refine w_seq ?_
    | refine w_region ?_
    | refine w_draw0 ?_
    | refine w_nil ?_
    | refine q_then ?_
    | refine w_skip ?_
    | refine w_ret ?_
    | refine w_block ?_
    | refine w_scope ?_
    | refine w_label ?_
    | refine q_thenR ?_
    | refine q_blockR ?_
    | refine q_blockN ?_
    | refine w_exit ?_
    | refine q_thenE ?_
    | refine q_blockE ?_
    | refine w_scope1 ?_
    | refine w_goto ?_
    | refine q_thenG ?_
    | refine q_blockG ?_
    | refine q_ngN ?_
    | refine q_ngR ?_
    | refine q_ngE ?_
    | refine q_jumpN ?_
    | refine q_jumpR ?_
    | refine q_jumpE ?_
    | refine q_jumpG ?_
    | refine q_blockO rfl ?_
    | (apply w_op rfl
       · simp 
         first | rfl | exact ⟨‹_›, rfl⟩)
    | (refine w_condT ?_ ?_
       · simp 
         done)
    | (refine w_condF ?_ ?_
       · simp 
         done)
    | (apply w_opT rfl
       · simp 
         done
       · simp 
         rfl)
    | (refine w_opF ?_ ?_
       · simp 
         done))
  apply w_call0 (hc := by kernel_rfl) (pc := hg)
  · simp 
  · (simp ; rfl)
  repeat (first
    | refine w_seq ?_
    | refine w_region ?_
    | refine w_draw0 ?_
    | refine w_nil ?_
    | refine q_then ?_
    | refine w_skip ?_
    | refine w_ret ?_
    | refine w_block ?_
    | refine w_scope ?_
    | refine w_label ?_
    | refine q_thenR ?_
    | refine q_blockR ?_
    | refine q_blockN ?_
    | refine w_exit ?_
    | refine q_thenE ?_
    | refine q_blockE ?_
    | refine w_scope1 ?_
    | refine w_goto ?_
    | refine q_thenG ?_
    | refine q_blockG ?_
    | refine q_ngN ?_
    | refine q_ngR ?_
    | refine q_ngE ?_
    | refine q_jumpN ?_
    | refine q_jumpR ?_
    | refine q_jumpE ?_
    | refine q_jumpG ?_
    | refine q_blockO rfl ?_
    | (apply w_op rfl
       · simp 
         first | rfl | exact ⟨‹_›, rfl⟩)
    | (refine w_condT ?_ ?_
       · simp 
         done)
    | (refine w_condF ?_ ?_
       · simp 
         done)
    | (apply w_opT rfl
       · simp 
         done
       · simp 
         rfl)
    | (refine w_opF ?_ ?_
       · simp 
         done))
  apply w_call0 (hc := by kernel_rfl) (pc := he)
  · simp 
  · (simp ; rfl)
  repeat (first
    | refine w_seq ?_
    | refine w_region ?_
    | refine w_draw0 ?_
    | refine w_nil ?_
    | refine q_then ?_
    | refine w_skip ?_
    | refine w_ret ?_
    | refine w_block ?_
    | refine w_scope ?_
    | refine w_label ?_
    | refine q_thenR ?_
    | refine q_blockR ?_
    | refine q_blockN ?_
    | refine w_exit ?_
    | refine q_thenE ?_
    | refine q_blockE ?_
    | refine w_scope1 ?_
    | refine w_goto ?_
    | refine q_thenG ?_
    | refine q_blockG ?_
    | refine q_ngN ?_
    | refine q_ngR ?_
    | refine q_ngE ?_
    | refine q_jumpN ?_
    | refine q_jumpR ?_
    | refine q_jumpE ?_
    | refine q_jumpG ?_
    | refine q_blockO rfl ?_
    | (apply w_op rfl
       · simp 
         first | rfl | exact ⟨‹_›, rfl⟩)
    | (refine w_condT ?_ ?_
       · simp 
         done)
    | (refine w_condF ?_ ?_
       · simp 
         done)
    | (apply w_opT rfl
       · simp 
         done
       · simp 
         rfl)
    | (refine w_opF ?_ ?_
       · simp 
         done))
  simp [Fin]

end Go.V

