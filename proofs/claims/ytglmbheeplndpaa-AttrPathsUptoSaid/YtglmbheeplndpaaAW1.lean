/- Paths: are two the same? -/
import Derived.Test.YtglmbheeplndpaaAP6
import Derived.Test.YtglmbheeplndpaaV28
set_option linter.all false
set_option linter.unusedSimpArgs false
set_option linter.unusedVariables false
namespace Go.V
open Go Go.Proofs

theorem pc_Equal (xs ys : List Int) (hb : xs.length ≤ 140737488355328) : PC Try.prog 80 [vsl (u32s xs), vsl (u32s ys)] (tab []) (vb (decide (xs = ys))) (tab []) := by
  refine F_slices_Equal_uint32_uint32.pc0 (by simp) ?_
  unfold c_slices_Equal_uint32_uint32
  by_cases hl : xs.length = ys.length
  · have hl2 : ((xs.length : Int) != ys.length) = false := by simp [hl]
    repeat (first
      | refine w_seq ?_
      | refine w_region ?_
      | refine w_draw0 ?_
      | refine w_nil ?_
      | refine q_then ?_
      | refine w_skip ?_
      | refine w_ret ?_
      | refine w_block ?_
      | refine w_scope ?_
      | refine w_label ?_
      | refine q_thenR ?_
      | refine q_blockR ?_
      | refine q_blockN ?_
      | refine w_exit ?_
      | refine q_thenE ?_
      | refine q_blockE ?_
      | refine w_scope1 ?_
      | refine w_goto ?_
      | refine q_thenG ?_
      | refine q_blockG ?_
      | refine q_ngN ?_
      | refine q_ngR ?_
      | refine q_ngE ?_
      | refine q_jumpN ?_
      | refine q_jumpR ?_
      | refine q_jumpE ?_
      | refine q_jumpG ?_
      | refine q_blockO rfl ?_
      | (apply w_op rfl
         · simp [hl2, hl]
           first | rfl | exact ⟨‹_›, rfl⟩)
      | (refine w_condT ?_ ?_
         · simp [hl2, hl]
           done)
      | (refine w_condF ?_ ?_
         · simp [hl2, hl]
           done)
      | (apply w_opT rfl
         · simp [hl2, hl]
           done
         · simp [hl2, hl]
           rfl)
      | (refine w_opF ?_ ?_
         · simp [hl2, hl]
           done))
    refine w_loop (fun k st => ∃ i : Nat, i ≤ xs.length ∧ k = xs.length - i ∧ st.env 0 = vsl (u32s xs) ∧ st.env 1 = vsl (u32s ys) ∧ st.env 12 = vi64 xs.length ∧ st.env 13 = vi64 i ∧ xs.take i = ys.take i) xs.length ?_ ?_
    · exact ⟨0, by simp [hl]⟩
    rintro k st ⟨i, hi, rfl, e0, e1, e12, e13, hp⟩
    by_cases hlt : i < xs.length
    · have hlt2 : i < ys.length := by omega
      have hw : IntKind.i64.wrap (i + 1 : Int) = i + 1 := wrap64 (by omega) (by omega)
      cases he : (xs[i] != ys[i]) with
      | true =>
        have hne : ¬ xs = ys := by
          rintro rfl
          simp at he
        repeat (first
          | refine w_seq ?_
          | refine w_region ?_
          | refine w_draw0 ?_
          | refine w_nil ?_
          | refine q_then ?_
          | refine w_skip ?_
          | refine w_ret ?_
          | refine w_block ?_
          | refine w_scope ?_
          | refine w_label ?_
          | refine q_thenR ?_
          | refine q_blockR ?_
          | refine q_blockN ?_
          | refine w_exit ?_
          | refine q_thenE ?_
          | refine q_blockE ?_
          | refine w_scope1 ?_
          | refine w_goto ?_
          | refine q_thenG ?_
          | refine q_blockG ?_
          | refine q_ngN ?_
          | refine q_ngR ?_
          | refine q_ngE ?_
          | refine q_jumpN ?_
          | refine q_jumpR ?_
          | refine q_jumpE ?_
          | refine q_jumpG ?_
          | refine q_blockO rfl ?_
          | (apply w_op rfl
             · simp [e0, e1, e12, e13, hlt, hlt2, hw, he]
               first | rfl | exact ⟨‹_›, rfl⟩)
          | (refine w_condT ?_ ?_
             · simp [e0, e1, e12, e13, hlt, hlt2, hw, he]
               done)
          | (refine w_condF ?_ ?_
             · simp [e0, e1, e12, e13, hlt, hlt2, hw, he]
               done)
          | (apply w_opT rfl
             · simp [e0, e1, e12, e13, hlt, hlt2, hw, he]
               done
             · simp [e0, e1, e12, e13, hlt, hlt2, hw, he]
               rfl)
          | (refine w_opF ?_ ?_
             · simp [e0, e1, e12, e13, hlt, hlt2, hw, he]
               done))
        simp [Fin, hne]
      | false =>
        have heq : xs[i] = ys[i] := by simpa using he
        have hp2 : xs.take (i + 1) = ys.take (i + 1) := by
          rw [← List.take_append_getElem hlt, ← List.take_append_getElem hlt2, hp, heq]
        repeat (first
          | refine w_seq ?_
          | refine w_region ?_
          | refine w_draw0 ?_
          | refine w_nil ?_
          | refine q_then ?_
          | refine w_skip ?_
          | refine w_ret ?_
          | refine w_block ?_
          | refine w_scope ?_
          | refine w_label ?_
          | refine q_thenR ?_
          | refine q_blockR ?_
          | refine q_blockN ?_
          | refine w_exit ?_
          | refine q_thenE ?_
          | refine q_blockE ?_
          | refine w_scope1 ?_
          | refine w_goto ?_
          | refine q_thenG ?_
          | refine q_blockG ?_
          | refine q_ngN ?_
          | refine q_ngR ?_
          | refine q_ngE ?_
          | refine q_jumpN ?_
          | refine q_jumpR ?_
          | refine q_jumpE ?_
          | refine q_jumpG ?_
          | refine q_blockO rfl ?_
          | (apply w_op rfl
             · simp [e0, e1, e12, e13, hlt, hlt2, hw, he]
               first | rfl | exact ⟨‹_›, rfl⟩)
          | (refine w_condT ?_ ?_
             · simp [e0, e1, e12, e13, hlt, hlt2, hw, he]
               done)
          | (refine w_condF ?_ ?_
             · simp [e0, e1, e12, e13, hlt, hlt2, hw, he]
               done)
          | (apply w_opT rfl
             · simp [e0, e1, e12, e13, hlt, hlt2, hw, he]
               done
             · simp [e0, e1, e12, e13, hlt, hlt2, hw, he]
               rfl)
          | (refine w_opF ?_ ?_
             · simp [e0, e1, e12, e13, hlt, hlt2, hw, he]
               done))
        refine ⟨_, ?_, i + 1, by omega, rfl, ?_⟩
        · omega
        · simp [e0, e1, e12, e13, hw, hp2]
    · have hie : i = xs.length := by omega
      subst hie
      have heq : xs = ys := by
        rw [List.take_length] at hp
        rw [hp, hl, List.take_length]
      repeat (first
        | refine w_seq ?_
        | refine w_region ?_
        | refine w_draw0 ?_
        | refine w_nil ?_
        | refine q_then ?_
        | refine w_skip ?_
        | refine w_ret ?_
        | refine w_block ?_
        | refine w_scope ?_
        | refine w_label ?_
        | refine q_thenR ?_
        | refine q_blockR ?_
        | refine q_blockN ?_
        | refine w_exit ?_
        | refine q_thenE ?_
        | refine q_blockE ?_
        | refine w_scope1 ?_
        | refine w_goto ?_
        | refine q_thenG ?_
        | refine q_blockG ?_
        | refine q_ngN ?_
        | refine q_ngR ?_
        | refine q_ngE ?_
        | refine q_jumpN ?_
        | refine q_jumpR ?_
        | refine q_jumpE ?_
        | refine q_jumpG ?_
        | refine q_blockO rfl ?_
        | (apply w_op rfl
           · simp [e0, e1, e12, e13]
             first | rfl | exact ⟨‹_›, rfl⟩)
        | (refine w_condT ?_ ?_
           · simp [e0, e1, e12, e13]
             done)
        | (refine w_condF ?_ ?_
           · simp [e0, e1, e12, e13]
             done)
        | (apply w_opT rfl
           · simp [e0, e1, e12, e13]
             done
           · simp [e0, e1, e12, e13]
             rfl)
        | (refine w_opF ?_ ?_
           · simp [e0, e1, e12, e13]
             done))
      simp [Fin, heq]
  · have hl2 : ((xs.length : Int) != ys.length) = true := by simp; omega
    have hne : ¬ xs = ys := by rintro rfl; exact hl rfl
    repeat (first
      | refine w_seq ?_
      | refine w_region ?_
      | refine w_draw0 ?_
      | refine w_nil ?_
      | refine q_then ?_
      | refine w_skip ?_
      | refine w_ret ?_
      | refine w_block ?_
      | refine w_scope ?_
      | refine w_label ?_
      | refine q_thenR ?_
      | refine q_blockR ?_
      | refine q_blockN ?_
      | refine w_exit ?_
      | refine q_thenE ?_
      | refine q_blockE ?_
      | refine w_scope1 ?_
      | refine w_goto ?_
      | refine q_thenG ?_
      | refine q_blockG ?_
      | refine q_ngN ?_
      | refine q_ngR ?_
      | refine q_ngE ?_
      | refine q_jumpN ?_
      | refine q_jumpR ?_
      | refine q_jumpE ?_
      | refine q_jumpG ?_
      | refine q_blockO rfl ?_
      | (apply w_op rfl
         · simp [hl2]
           first | rfl | exact ⟨‹_›, rfl⟩)
      | (refine w_condT ?_ ?_
         · simp [hl2]
           done)
      | (refine w_condF ?_ ?_
         · simp [hl2]
           done)
      | (apply w_opT rfl
         · simp [hl2]
           done
         · simp [hl2]
           rfl)
      | (refine w_opF ?_ ?_
         · simp [hl2]
           done))
    simp [Fin, hne]

theorem pc_same1 (a b : Seg) (hb : a.nums.length ≤ 140737488355328) : PC Try.prog 103 [.agg [cI a.kind, cS (u32s a.nums)], .agg [cI b.kind, cS (u32s b.nums)]] (tab []) (vb (decide (a = b))) (tab []) := by
  have hc := pc_Equal a.nums b.nums hb
  refine F_path_same_S1.pc0 (by simp) ?_
  unfold c_path_same_S1
  cases hk : (a.kind == b.kind) with
  | true =>
    have hk2 : a.kind = b.kind := by simpa using hk
    have e : decide (a = b) = decide (a.nums = b.nums) := by
      cases a; cases b
      simp only at hk2
      subst hk2
      simp
    repeat (first
      | refine w_seq ?_
      | refine w_region ?_
      | refine w_draw0 ?_
      | refine w_nil ?_
      | refine q_then ?_
      | refine w_skip ?_
      | refine w_ret ?_
      | refine w_block ?_
      | refine w_scope ?_
      | refine w_label ?_
      | refine q_thenR ?_
      | refine q_blockR ?_
      | refine q_blockN ?_
      | refine w_exit ?_
      | refine q_thenE ?_
      | refine q_blockE ?_
      | refine w_scope1 ?_
      | refine w_goto ?_
      | refine q_thenG ?_
      | refine q_blockG ?_
      | refine q_ngN ?_
      | refine q_ngR ?_
      | refine q_ngE ?_
      | refine q_jumpN ?_
      | refine q_jumpR ?_
      | refine q_jumpE ?_
      | refine q_jumpG ?_
      | refine q_blockO rfl ?_
      | (apply w_op rfl
         · simp [hk]
           first | rfl | exact ⟨‹_›, rfl⟩)
      | (refine w_condT ?_ ?_
         · simp [hk]
           done)
      | (refine w_condF ?_ ?_
         · simp [hk]
           done)
      | (apply w_opT rfl
         · simp [hk]
           done
         · simp [hk]
           rfl)
      | (refine w_opF ?_ ?_
         · simp [hk]
           done))
    apply w_call0T (hc := by kernel_rfl) (pc := hc)
    · simp [hk]
    · simp [hk]
    · (simp [hk]; rfl)
    repeat (first
      | refine w_seq ?_
      | refine w_region ?_
      | refine w_draw0 ?_
      | refine w_nil ?_
      | refine q_then ?_
      | refine w_skip ?_
      | refine w_ret ?_
      | refine w_block ?_
      | refine w_scope ?_
      | refine w_label ?_
      | refine q_thenR ?_
      | refine q_blockR ?_
      | refine q_blockN ?_
      | refine w_exit ?_
      | refine q_thenE ?_
      | refine q_blockE ?_
      | refine w_scope1 ?_
      | refine w_goto ?_
      | refine q_thenG ?_
      | refine q_blockG ?_
      | refine q_ngN ?_
      | refine q_ngR ?_
      | refine q_ngE ?_
      | refine q_jumpN ?_
      | refine q_jumpR ?_
      | refine q_jumpE ?_
      | refine q_jumpG ?_
      | refine q_blockO rfl ?_
      | (apply w_op rfl
         · simp [hk]
           first | rfl | exact ⟨‹_›, rfl⟩)
      | (refine w_condT ?_ ?_
         · simp [hk]
           done)
      | (refine w_condF ?_ ?_
         · simp [hk]
           done)
      | (apply w_opT rfl
         · simp [hk]
           done
         · simp [hk]
           rfl)
      | (refine w_opF ?_ ?_
         · simp [hk]
           done))
    simp [Fin, e]
  | false =>
    have hne : ¬ a = b := by
      rintro rfl
      simp at hk
    repeat (first
      | refine w_seq ?_
      | refine w_region ?_
      | refine w_draw0 ?_
      | refine w_nil ?_
      | refine q_then ?_
      | refine w_skip ?_
      | refine w_ret ?_
      | refine w_block ?_
      | refine w_scope ?_
      | refine w_label ?_
      | refine q_thenR ?_
      | refine q_blockR ?_
      | refine q_blockN ?_
      | refine w_exit ?_
      | refine q_thenE ?_
      | refine q_blockE ?_
      | refine w_scope1 ?_
      | refine w_goto ?_
      | refine q_thenG ?_
      | refine q_blockG ?_
      | refine q_ngN ?_
      | refine q_ngR ?_
      | refine q_ngE ?_
      | refine q_jumpN ?_
      | refine q_jumpR ?_
      | refine q_jumpE ?_
      | refine q_jumpG ?_
      | refine q_blockO rfl ?_
      | (apply w_op rfl
         · simp [hk]
           first | rfl | exact ⟨‹_›, rfl⟩)
      | (refine w_condT ?_ ?_
         · simp [hk]
           done)
      | (refine w_condF ?_ ?_
         · simp [hk]
           done)
      | (apply w_opT rfl
         · simp [hk]
           done
         · simp [hk]
           rfl)
      | (refine w_opF ?_ ?_
         · simp [hk]
           done))
    simp [Fin, hne]

theorem pc_EqualFunc (xs ys : List Seg) (hb : xs.length ≤ 140737488355328) (hs : ∀ s ∈ xs, s.nums.length ≤ 140737488355328) : PC Try.prog 102 [vsl (segs xs), vsl (segs ys), .c (.d (.v (.func (.func 103) #[] #[])))] (tab []) (vb (decide (xs = ys))) (tab []) := by
  refine F_slices_EqualFunc_api_Seg_api_Seg_api_Seg_api_Seg.pc0 (by simp) ?_
  unfold c_slices_EqualFunc_api_Seg_api_Seg_api_Seg_api_Seg
  by_cases hl : xs.length = ys.length
  · have hl2 : ((xs.length : Int) != ys.length) = false := by simp [hl]
    repeat (first
      | refine w_seq ?_
      | refine w_region ?_
      | refine w_draw0 ?_
      | refine w_nil ?_
      | refine q_then ?_
      | refine w_skip ?_
      | refine w_ret ?_
      | refine w_block ?_
      | refine w_scope ?_
      | refine w_label ?_
      | refine q_thenR ?_
      | refine q_blockR ?_
      | refine q_blockN ?_
      | refine w_exit ?_
      | refine q_thenE ?_
      | refine q_blockE ?_
      | refine w_scope1 ?_
      | refine w_goto ?_
      | refine q_thenG ?_
      | refine q_blockG ?_
      | refine q_ngN ?_
      | refine q_ngR ?_
      | refine q_ngE ?_
      | refine q_jumpN ?_
      | refine q_jumpR ?_
      | refine q_jumpE ?_
      | refine q_jumpG ?_
      | refine q_blockO rfl ?_
      | (apply w_op rfl
         · simp [hl2, hl]
           first | rfl | exact ⟨‹_›, rfl⟩)
      | (refine w_condT ?_ ?_
         · simp [hl2, hl]
           done)
      | (refine w_condF ?_ ?_
         · simp [hl2, hl]
           done)
      | (apply w_opT rfl
         · simp [hl2, hl]
           done
         · simp [hl2, hl]
           rfl)
      | (refine w_opF ?_ ?_
         · simp [hl2, hl]
           done))
    refine w_loop (fun k st => ∃ i : Nat, i ≤ xs.length ∧ k = xs.length - i ∧ st.env 1 = vsl (segs ys) ∧ st.env 2 = .c (.d (.v (.func (.func 103) #[] #[]))) ∧ st.env 15 = vsl (segs xs) ∧ st.env 16 = vi64 xs.length ∧ st.env 17 = vi64 i ∧ xs.take i = ys.take i) xs.length ?_ ?_
    · exact ⟨0, by simp [hl]⟩
    rintro k st ⟨i, hi, rfl, e1, e2, e15, e16, e17, hp⟩
    by_cases hlt : i < xs.length
    · have hlt2 : i < ys.length := by omega
      have hw : IntKind.i64.wrap (i + 1 : Int) = i + 1 := wrap64 (by omega) (by omega)
      have hc := pc_same1 xs[i] ys[i] (hs _ (List.getElem_mem hlt))
      by_cases he : xs[i] = ys[i]
      · have hp2 : xs.take (i + 1) = ys.take (i + 1) := by
          rw [← List.take_append_getElem hlt, ← List.take_append_getElem hlt2, hp, he]
        repeat (first
          | refine w_seq ?_
          | refine w_region ?_
          | refine w_draw0 ?_
          | refine w_nil ?_
          | refine q_then ?_
          | refine w_skip ?_
          | refine w_ret ?_
          | refine w_block ?_
          | refine w_scope ?_
          | refine w_label ?_
          | refine q_thenR ?_
          | refine q_blockR ?_
          | refine q_blockN ?_
          | refine w_exit ?_
          | refine q_thenE ?_
          | refine q_blockE ?_
          | refine w_scope1 ?_
          | refine w_goto ?_
          | refine q_thenG ?_
          | refine q_blockG ?_
          | refine q_ngN ?_
          | refine q_ngR ?_
          | refine q_ngE ?_
          | refine q_jumpN ?_
          | refine q_jumpR ?_
          | refine q_jumpE ?_
          | refine q_jumpG ?_
          | refine q_blockO rfl ?_
          | (apply w_op rfl
             · simp [e1, e2, e15, e16, e17, hlt, hlt2, hw]
               first | rfl | exact ⟨‹_›, rfl⟩)
          | (refine w_condT ?_ ?_
             · simp [e1, e2, e15, e16, e17, hlt, hlt2, hw]
               done)
          | (refine w_condF ?_ ?_
             · simp [e1, e2, e15, e16, e17, hlt, hlt2, hw]
               done)
          | (apply w_opT rfl
             · simp [e1, e2, e15, e16, e17, hlt, hlt2, hw]
               done
             · simp [e1, e2, e15, e16, e17, hlt, hlt2, hw]
               rfl)
          | (refine w_opF ?_ ?_
             · simp [e1, e2, e15, e16, e17, hlt, hlt2, hw]
               done))
        apply w_callV0 (hc := by kernel_rfl) (pc := hc)
        · simp [SV.fn?, e1, e2, e15, e16, e17, hlt, hlt2, hw]
        · simp [e1, e2, e15, e16, e17, hlt, hlt2, hw]
        · (simp [e1, e2, e15, e16, e17, hlt, hlt2, hw]; rfl)
        repeat (first
          | refine w_seq ?_
          | refine w_region ?_
          | refine w_draw0 ?_
          | refine w_nil ?_
          | refine q_then ?_
          | refine w_skip ?_
          | refine w_ret ?_
          | refine w_block ?_
          | refine w_scope ?_
          | refine w_label ?_
          | refine q_thenR ?_
          | refine q_blockR ?_
          | refine q_blockN ?_
          | refine w_exit ?_
          | refine q_thenE ?_
          | refine q_blockE ?_
          | refine w_scope1 ?_
          | refine w_goto ?_
          | refine q_thenG ?_
          | refine q_blockG ?_
          | refine q_ngN ?_
          | refine q_ngR ?_
          | refine q_ngE ?_
          | refine q_jumpN ?_
          | refine q_jumpR ?_
          | refine q_jumpE ?_
          | refine q_jumpG ?_
          | refine q_blockO rfl ?_
          | (apply w_op rfl
             · simp [e1, e2, e15, e16, e17, hlt, hlt2, hw, he]
               first | rfl | exact ⟨‹_›, rfl⟩)
          | (refine w_condT ?_ ?_
             · simp [e1, e2, e15, e16, e17, hlt, hlt2, hw, he]
               done)
          | (refine w_condF ?_ ?_
             · simp [e1, e2, e15, e16, e17, hlt, hlt2, hw, he]
               done)
          | (apply w_opT rfl
             · simp [e1, e2, e15, e16, e17, hlt, hlt2, hw, he]
               done
             · simp [e1, e2, e15, e16, e17, hlt, hlt2, hw, he]
               rfl)
          | (refine w_opF ?_ ?_
             · simp [e1, e2, e15, e16, e17, hlt, hlt2, hw, he]
               done))
        refine ⟨_, ?_, i + 1, by omega, rfl, ?_⟩
        · omega
        · simp [e1, e2, e15, e16, e17, hw, hp2]
      · have hne : ¬ xs = ys := by
          rintro rfl
          exact he rfl
        repeat (first
          | refine w_seq ?_
          | refine w_region ?_
          | refine w_draw0 ?_
          | refine w_nil ?_
          | refine q_then ?_
          | refine w_skip ?_
          | refine w_ret ?_
          | refine w_block ?_
          | refine w_scope ?_
          | refine w_label ?_
          | refine q_thenR ?_
          | refine q_blockR ?_
          | refine q_blockN ?_
          | refine w_exit ?_
          | refine q_thenE ?_
          | refine q_blockE ?_
          | refine w_scope1 ?_
          | refine w_goto ?_
          | refine q_thenG ?_
          | refine q_blockG ?_
          | refine q_ngN ?_
          | refine q_ngR ?_
          | refine q_ngE ?_
          | refine q_jumpN ?_
          | refine q_jumpR ?_
          | refine q_jumpE ?_
          | refine q_jumpG ?_
          | refine q_blockO rfl ?_
          | (apply w_op rfl
             · simp [e1, e2, e15, e16, e17, hlt, hlt2, hw]
               first | rfl | exact ⟨‹_›, rfl⟩)
          | (refine w_condT ?_ ?_
             · simp [e1, e2, e15, e16, e17, hlt, hlt2, hw]
               done)
          | (refine w_condF ?_ ?_
             · simp [e1, e2, e15, e16, e17, hlt, hlt2, hw]
               done)
          | (apply w_opT rfl
             · simp [e1, e2, e15, e16, e17, hlt, hlt2, hw]
               done
             · simp [e1, e2, e15, e16, e17, hlt, hlt2, hw]
               rfl)
          | (refine w_opF ?_ ?_
             · simp [e1, e2, e15, e16, e17, hlt, hlt2, hw]
               done))
        apply w_callV0 (hc := by kernel_rfl) (pc := hc)
        · simp [SV.fn?, e1, e2, e15, e16, e17, hlt, hlt2, hw]
        · simp [e1, e2, e15, e16, e17, hlt, hlt2, hw]
        · (simp [e1, e2, e15, e16, e17, hlt, hlt2, hw]; rfl)
        repeat (first
          | refine w_seq ?_
          | refine w_region ?_
          | refine w_draw0 ?_
          | refine w_nil ?_
          | refine q_then ?_
          | refine w_skip ?_
          | refine w_ret ?_
          | refine w_block ?_
          | refine w_scope ?_
          | refine w_label ?_
          | refine q_thenR ?_
          | refine q_blockR ?_
          | refine q_blockN ?_
          | refine w_exit ?_
          | refine q_thenE ?_
          | refine q_blockE ?_
          | refine w_scope1 ?_
          | refine w_goto ?_
          | refine q_thenG ?_
          | refine q_blockG ?_
          | refine q_ngN ?_
          | refine q_ngR ?_
          | refine q_ngE ?_
          | refine q_jumpN ?_
          | refine q_jumpR ?_
          | refine q_jumpE ?_
          | refine q_jumpG ?_
          | refine q_blockO rfl ?_
          | (apply w_op rfl
             · simp [e1, e2, e15, e16, e17, hlt, hlt2, hw, he]
               first | rfl | exact ⟨‹_›, rfl⟩)
          | (refine w_condT ?_ ?_
             · simp [e1, e2, e15, e16, e17, hlt, hlt2, hw, he]
               done)
          | (refine w_condF ?_ ?_
             · simp [e1, e2, e15, e16, e17, hlt, hlt2, hw, he]
               done)
          | (apply w_opT rfl
             · simp [e1, e2, e15, e16, e17, hlt, hlt2, hw, he]
               done
             · simp [e1, e2, e15, e16, e17, hlt, hlt2, hw, he]
               rfl)
          | (refine w_opF ?_ ?_
             · simp [e1, e2, e15, e16, e17, hlt, hlt2, hw, he]
               done))
        simp [Fin, hne]
    · have hie : i = xs.length := by omega
      subst hie
      have heq : xs = ys := by
        rw [List.take_length] at hp
        rw [hp, hl, List.take_length]
      repeat (first
        | refine w_seq ?_
        | refine w_region ?_
        | refine w_draw0 ?_
        | refine w_nil ?_
        | refine q_then ?_
        | refine w_skip ?_
        | refine w_ret ?_
        | refine w_block ?_
        | refine w_scope ?_
        | refine w_label ?_
        | refine q_thenR ?_
        | refine q_blockR ?_
        | refine q_blockN ?_
        | refine w_exit ?_
        | refine q_thenE ?_
        | refine q_blockE ?_
        | refine w_scope1 ?_
        | refine w_goto ?_
        | refine q_thenG ?_
        | refine q_blockG ?_
        | refine q_ngN ?_
        | refine q_ngR ?_
        | refine q_ngE ?_
        | refine q_jumpN ?_
        | refine q_jumpR ?_
        | refine q_jumpE ?_
        | refine q_jumpG ?_
        | refine q_blockO rfl ?_
        | (apply w_op rfl
           · simp [e1, e2, e15, e16, e17]
             first | rfl | exact ⟨‹_›, rfl⟩)
        | (refine w_condT ?_ ?_
           · simp [e1, e2, e15, e16, e17]
             done)
        | (refine w_condF ?_ ?_
           · simp [e1, e2, e15, e16, e17]
             done)
        | (apply w_opT rfl
           · simp [e1, e2, e15, e16, e17]
             done
           · simp [e1, e2, e15, e16, e17]
             rfl)
        | (refine w_opF ?_ ?_
           · simp [e1, e2, e15, e16, e17]
             done))
      simp [Fin, heq]
  · have hl2 : ((xs.length : Int) != ys.length) = true := by simp; omega
    have hne : ¬ xs = ys := by rintro rfl; exact hl rfl
    repeat (first
      | refine w_seq ?_
      | refine w_region ?_
      | refine w_draw0 ?_
      | refine w_nil ?_
      | refine q_then ?_
      | refine w_skip ?_
      | refine w_ret ?_
      | refine w_block ?_
      | refine w_scope ?_
      | refine w_label ?_
      | refine q_thenR ?_
      | refine q_blockR ?_
      | refine q_blockN ?_
      | refine w_exit ?_
      | refine q_thenE ?_
      | refine q_blockE ?_
      | refine w_scope1 ?_
      | refine w_goto ?_
      | refine q_thenG ?_
      | refine q_blockG ?_
      | refine q_ngN ?_
      | refine q_ngR ?_
      | refine q_ngE ?_
      | refine q_jumpN ?_
      | refine q_jumpR ?_
      | refine q_jumpE ?_
      | refine q_jumpG ?_
      | refine q_blockO rfl ?_
      | (apply w_op rfl
         · simp [hl2]
           first | rfl | exact ⟨‹_›, rfl⟩)
      | (refine w_condT ?_ ?_
         · simp [hl2]
           done)
      | (refine w_condF ?_ ?_
         · simp [hl2]
           done)
      | (apply w_opT rfl
         · simp [hl2]
           done
         · simp [hl2]
           rfl)
      | (refine w_opF ?_ ?_
         · simp [hl2]
           done))
    simp [Fin, hne]

theorem pc_psame (xs ys : List Seg) (hb : xs.length ≤ 140737488355328) (hs : ∀ s ∈ xs, s.nums.length ≤ 140737488355328) : PC Try.prog 88 [vsl (segs xs), vsl (segs ys)] (tab []) (vb (decide (xs = ys))) (tab []) := by
  have hc := pc_EqualFunc xs ys hb hs
  refine F_path_same.pc0 (by simp) ?_
  unfold c_path_same
  repeat (first
    | refine w_seq ?_
    | refine w_region ?_
    | refine w_draw0 ?_
    | refine w_nil ?_
    | refine q_then ?_
    | refine w_skip ?_
    | refine w_ret ?_
    | refine w_block ?_
    | refine w_scope ?_
    | refine w_label ?_
    | refine q_thenR ?_
    | refine q_blockR ?_
    | refine q_blockN ?_
    | refine w_exit ?_
    | refine q_thenE ?_
    | refine q_blockE ?_
    | refine w_scope1 ?_
    | refine w_goto ?_
    | refine q_thenG ?_
    | refine q_blockG ?_
    | refine q_ngN ?_
    | refine q_ngR ?_
    | refine q_ngE ?_
    | refine q_jumpN ?_
    | refine q_jumpR ?_
    | refine q_jumpE ?_
    | refine q_jumpG ?_
    | refine q_blockO rfl ?_
    | (apply w_op rfl
       · simp 
         first | rfl | exact ⟨‹_›, rfl⟩)
    | (refine w_condT ?_ ?_
       · simp 
         done)
    | (refine w_condF ?_ ?_
       · simp 
         done)
    | (apply w_opT rfl
       · simp 
         done
       · simp 
         rfl)
    | (refine w_opF ?_ ?_
       · simp 
         done))
  apply w_call0 (hc := by kernel_rfl) (pc := hc)
  · simp 
  · (simp ; rfl)
  repeat (first
    | refine w_seq ?_
    | refine w_region ?_
    | refine w_draw0 ?_
    | refine w_nil ?_
    | refine q_then ?_
    | refine w_skip ?_
    | refine w_ret ?_
    | refine w_block ?_
    | refine w_scope ?_
    | refine w_label ?_
    | refine q_thenR ?_
    | refine q_blockR ?_
    | refine q_blockN ?_
    | refine w_exit ?_
    | refine q_thenE ?_
    | refine q_blockE ?_
    | refine w_scope1 ?_
    | refine w_goto ?_
    | refine q_thenG ?_
    | refine q_blockG ?_
    | refine q_ngN ?_
    | refine q_ngR ?_
    | refine q_ngE ?_
    | refine q_jumpN ?_
    | refine q_jumpR ?_
    | refine q_jumpE ?_
    | refine q_jumpG ?_
    | refine q_blockO rfl ?_
    | (apply w_op rfl
       · simp 
         first | rfl | exact ⟨‹_›, rfl⟩)
    | (refine w_condT ?_ ?_
       · simp 
         done)
    | (refine w_condF ?_ ?_
       · simp 
         done)
    | (apply w_opT rfl
       · simp 
         done
       · simp 
         rfl)
    | (refine w_opF ?_ ?_
       · simp 
         done))
  simp [Fin]

theorem pc_pSame (xs ys : List Seg) (hb : xs.length ≤ 140737488355328) (hs : ∀ s ∈ xs, s.nums.length ≤ 140737488355328) : PC Try.prog 79 [vsl (segs xs), vsl (segs ys)] (tab []) (vb (decide (xs = ys))) (tab []) := by
  have hc := pc_psame xs ys hb hs
  refine F_path_Same.pc0 (by simp) ?_
  unfold c_path_Same
  repeat (first
    | refine w_seq ?_
    | refine w_region ?_
    | refine w_draw0 ?_
    | refine w_nil ?_
    | refine q_then ?_
    | refine w_skip ?_
    | refine w_ret ?_
    | refine w_block ?_
    | refine w_scope ?_
    | refine w_label ?_
    | refine q_thenR ?_
    | refine q_blockR ?_
    | refine q_blockN ?_
    | refine w_exit ?_
    | refine q_thenE ?_
    | refine q_blockE ?_
    | refine w_scope1 ?_
    | refine w_goto ?_
    | refine q_thenG ?_
    | refine q_blockG ?_
    | refine q_ngN ?_
    | refine q_ngR ?_
    | refine q_ngE ?_
    | refine q_jumpN ?_
    | refine q_jumpR ?_
    | refine q_jumpE ?_
    | refine q_jumpG ?_
    | refine q_blockO rfl ?_
    | (apply w_op rfl
       · simp 
         first | rfl | exact ⟨‹_›, rfl⟩)
    | (refine w_condT ?_ ?_
       · simp 
         done)
    | (refine w_condF ?_ ?_
       · simp 
         done)
    | (apply w_opT rfl
       · simp 
         done
       · simp 
         rfl)
    | (refine w_opF ?_ ?_
       · simp 
         done))
  apply w_call0 (hc := by kernel_rfl) (pc := hc)
  · simp 
  · (simp ; rfl)
  repeat (first
    | refine w_seq ?_
    | refine w_region ?_
    | refine w_draw0 ?_
    | refine w_nil ?_
    | refine q_then ?_
    | refine w_skip ?_
    | refine w_ret ?_
    | refine w_block ?_
    | refine w_scope ?_
    | refine w_label ?_
    | refine q_thenR ?_
    | refine q_blockR ?_
    | refine q_blockN ?_
    | refine w_exit ?_
    | refine q_thenE ?_
    | refine q_blockE ?_
    | refine w_scope1 ?_
    | refine w_goto ?_
    | refine q_thenG ?_
    | refine q_blockG ?_
    | refine q_ngN ?_
    | refine q_ngR ?_
    | refine q_ngE ?_
    | refine q_jumpN ?_
    | refine q_jumpR ?_
    | refine q_jumpE ?_
    | refine q_jumpG ?_
    | refine q_blockO rfl ?_
    | (apply w_op rfl
       · simp 
         first | rfl | exact ⟨‹_›, rfl⟩)
    | (refine w_condT ?_ ?_
       · simp 
         done)
    | (refine w_condF ?_ ?_
       · simp 
         done)
    | (apply w_opT rfl
       · simp 
         done
       · simp 
         rfl)
    | (refine w_opF ?_ ?_
       · simp 
         done))
  simp [Fin]

end Go.V

