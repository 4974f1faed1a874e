/- Cuts; numbers of bytes; sets of numbers, as the document has them. -/
import Derived.Test.YtglmbheeplndpaaAP1
set_option linter.all false
set_option linter.unusedSimpArgs false
set_option linter.unusedVariables false
namespace Go.V
open Go Go.Proofs

theorem pc_Num (xs : List Int) (hb : xs.length ≤ 140737488355328) (hx : okB xs) : PC Try.prog 26 [vsl (u8s xs)] (tab []) (vu32 (num32 0 xs)) (tab []) := by
  refine F_r06_Num.pc0 (by simp) ?_
  unfold c_r06_Num
  repeat (first
    | refine w_seq ?_
    | refine w_region ?_
    | refine w_draw0 ?_
    | refine w_nil ?_
    | refine q_then ?_
    | refine w_skip ?_
    | refine w_ret ?_
    | refine w_block ?_
    | refine w_scope ?_
    | refine w_label ?_
    | refine q_thenR ?_
    | refine q_blockR ?_
    | refine q_blockN ?_
    | refine w_exit ?_
    | refine q_thenE ?_
    | refine q_blockE ?_
    | refine w_scope1 ?_
    | refine w_goto ?_
    | refine q_thenG ?_
    | refine q_blockG ?_
    | refine q_ngN ?_
    | refine q_ngR ?_
    | refine q_ngE ?_
    | refine q_jumpN ?_
    | refine q_jumpR ?_
    | refine q_jumpE ?_
    | refine q_jumpG ?_
    | refine q_blockO rfl ?_
    | (apply w_op rfl
       · simp 
         first | rfl | exact ⟨‹_›, rfl⟩)
    | (refine w_condT ?_ ?_
       · simp 
         done)
    | (refine w_condF ?_ ?_
       · simp 
         done)
    | (apply w_opT rfl
       · simp 
         done
       · simp 
         rfl)
    | (refine w_opF ?_ ?_
       · simp 
         done))
  refine w_loop (fun k st => ∃ i : Nat, i ≤ xs.length ∧ k = xs.length - i ∧ st.env 0 = vsl (u8s xs) ∧ st.env 3 = vu32 (num32 0 (xs.take i)) ∧ st.env 4 = vi64 i) xs.length ?_ ?_
  · exact ⟨0, by simp [num32]⟩
  rintro k st ⟨i, hi, rfl, e0, e3, e4⟩
  by_cases hlt : i < xs.length
  · have hw : IntKind.i64.wrap (i + 1 : Int) = i + 1 := wrap64 (by omega) (by omega)
    obtain ⟨r1, r2⟩ := num32_range (xs.take i) (fun m hm => hx m (List.mem_of_mem_take hm)) 0 (by omega) (by omega)
    have hbi := hx _ (List.getElem_mem hlt)
    have hn := num32_take xs 0 i hlt
    have hwb : IntKind.u32.wrap xs[i] = xs[i] := by rw [wrapU32]; omega
    have hws : IntKind.u32.wrap (IntKind.u32.wrap (num32 0 (xs.take i) * 256) + xs[i]) = (num32 0 (xs.take i) * 256 + xs[i]) % 4294967296 := by simp only [wrapU32]; omega
    repeat (first
      | refine w_seq ?_
      | refine w_region ?_
      | refine w_draw0 ?_
      | refine w_nil ?_
      | refine q_then ?_
      | refine w_skip ?_
      | refine w_ret ?_
      | refine w_block ?_
      | refine w_scope ?_
      | refine w_label ?_
      | refine q_thenR ?_
      | refine q_blockR ?_
      | refine q_blockN ?_
      | refine w_exit ?_
      | refine q_thenE ?_
      | refine q_blockE ?_
      | refine w_scope1 ?_
      | refine w_goto ?_
      | refine q_thenG ?_
      | refine q_blockG ?_
      | refine q_ngN ?_
      | refine q_ngR ?_
      | refine q_ngE ?_
      | refine q_jumpN ?_
      | refine q_jumpR ?_
      | refine q_jumpE ?_
      | refine q_jumpG ?_
      | refine q_blockO rfl ?_
      | (apply w_op rfl
         · simp [e0, e3, e4, hlt, hw, hwb]
           first | rfl | exact ⟨‹_›, rfl⟩)
      | (refine w_condT ?_ ?_
         · simp [e0, e3, e4, hlt, hw, hwb]
           done)
      | (refine w_condF ?_ ?_
         · simp [e0, e3, e4, hlt, hw, hwb]
           done)
      | (apply w_opT rfl
         · simp [e0, e3, e4, hlt, hw, hwb]
           done
         · simp [e0, e3, e4, hlt, hw, hwb]
           rfl)
      | (refine w_opF ?_ ?_
         · simp [e0, e3, e4, hlt, hw, hwb]
           done))
    refine ⟨_, ?_, i + 1, by omega, rfl, ?_⟩
    · omega
    · simp [e0, e3, e4, hn, hw, hws]
  · have hie : i = xs.length := by omega
    subst hie
    repeat (first
      | refine w_seq ?_
      | refine w_region ?_
      | refine w_draw0 ?_
      | refine w_nil ?_
      | refine q_then ?_
      | refine w_skip ?_
      | refine w_ret ?_
      | refine w_block ?_
      | refine w_scope ?_
      | refine w_label ?_
      | refine q_thenR ?_
      | refine q_blockR ?_
      | refine q_blockN ?_
      | refine w_exit ?_
      | refine q_thenE ?_
      | refine q_blockE ?_
      | refine w_scope1 ?_
      | refine w_goto ?_
      | refine q_thenG ?_
      | refine q_blockG ?_
      | refine q_ngN ?_
      | refine q_ngR ?_
      | refine q_ngE ?_
      | refine q_jumpN ?_
      | refine q_jumpR ?_
      | refine q_jumpE ?_
      | refine q_jumpG ?_
      | refine q_blockO rfl ?_
      | (apply w_op rfl
         · simp [e0, e3, e4]
           first | rfl | exact ⟨‹_›, rfl⟩)
      | (refine w_condT ?_ ?_
         · simp [e0, e3, e4]
           done)
      | (refine w_condF ?_ ?_
         · simp [e0, e3, e4]
           done)
      | (apply w_opT rfl
         · simp [e0, e3, e4]
           done
         · simp [e0, e3, e4]
           rfl)
      | (refine w_opF ?_ ?_
         · simp [e0, e3, e4]
           done))
    simp [Fin, e3]

/-- A number's lowest bytes, so many, the highest first. -/
def beN : Nat → Int → List Int
  | 0, _ => []
  | i + 1, n => (n / 256 ^ i % 256) :: beN i n

theorem beN_len (i : Nat) (n : Int) : (beN i n).length = i := by
  induction i with
  | zero => rfl
  | succ i ih => simp [beN, ih]

theorem be32_beN (n : Int) : beN 4 n = be32 n := by simp [beN, be32]

theorem pc_Big (n : Int) (many : Nat) (hm : many ≤ 100) (h0 : 0 ≤ n) (h1 : n < 18446744073709551616) : PC Try.prog 41 [.c (.d (.v (.int .u64 n))), vi64 many] (tab []) (.c (.osl 5 1 (u8s (beN many n)))) (tab []) := by
  refine F_r06_Big.pc0 (by simp) ?_
  unfold c_r06_Big
  repeat (first
    | refine w_seq ?_
    | refine w_region ?_
    | refine w_draw0 ?_
    | refine w_nil ?_
    | refine q_then ?_
    | refine w_skip ?_
    | refine w_ret ?_
    | refine w_block ?_
    | refine w_scope ?_
    | refine w_label ?_
    | refine q_thenR ?_
    | refine q_blockR ?_
    | refine q_blockN ?_
    | refine w_exit ?_
    | refine q_thenE ?_
    | refine q_blockE ?_
    | refine w_scope1 ?_
    | refine w_goto ?_
    | refine q_thenG ?_
    | refine q_blockG ?_
    | refine q_ngN ?_
    | refine q_ngR ?_
    | refine q_ngE ?_
    | refine q_jumpN ?_
    | refine q_jumpR ?_
    | refine q_jumpE ?_
    | refine q_jumpG ?_
    | refine q_blockO rfl ?_
    | (apply w_op rfl
       · simp 
         first | rfl | exact ⟨‹_›, rfl⟩)
    | (refine w_condT ?_ ?_
       · simp 
         done)
    | (refine w_condF ?_ ?_
       · simp 
         done)
    | (apply w_opT rfl
       · simp 
         done
       · simp 
         rfl)
    | (refine w_opF ?_ ?_
       · simp 
         done))
  refine w_loop (fun k st => ∃ i : Nat, i ≤ many ∧ k = many - i ∧ st.env 0 = .c (.d (.v (.int .u64 (n / 256 ^ i)))) ∧ st.env 1 = vi64 many ∧ st.env 5 = .c (.osl 5 1 (u8s (beN i n))) ∧ st.env 6 = vi64 i) many ?_ ?_
  · exact ⟨0, by simp [beN]⟩
  rintro k st ⟨i, hi, rfl, e0, e1, e5, e6⟩
  by_cases hlt : i < many
  · have hw : IntKind.i64.wrap (i + 1 : Int) = i + 1 := wrap64 (by omega) (by omega)
    have hm0 : 0 ≤ n / 256 ^ i := Int.ediv_nonneg h0 (Int.le_of_lt (Int.pow_pos (by omega)))
    have hm1 : n / 256 ^ i ≤ n := Int.ediv_le_self _ h0
    have hd : n / 256 ^ (i + 1) = n / 256 ^ i / 256 := by rw [Int.pow_succ, Int.ediv_ediv_of_nonneg (Int.le_of_lt (Int.pow_pos (by omega)))]
    have hl : (beN i n).length ≤ 200 := by rw [beN_len]; omega
    have hbe : beN (i + 1) n = (n / 256 ^ i % 256) :: beN i n := rfl
    generalize n / 256 ^ i = m at e0 hm0 hm1 hd hbe
    have ht : m.tmod 256 = m % 256 := Int.tmod_eq_emod_of_nonneg hm0
    have hq : IntKind.u64.wrap (m.tdiv 256) = m / 256 := by
      rw [Int.tdiv_eq_ediv_of_nonneg hm0]
      simp only [IntKind.wrap, IntKind.bits, IntKind.signed]
      simp
      omega
    have hw8 : IntKind.u8.wrap (m % 256) = m % 256 := by rw [wrapU8]; omega
    have hlb : 1 + (beN i n).length ≤ 140737488355328 := by omega
    repeat (first
      | refine w_seq ?_
      | refine w_region ?_
      | refine w_draw0 ?_
      | refine w_nil ?_
      | refine q_then ?_
      | refine w_skip ?_
      | refine w_ret ?_
      | refine w_block ?_
      | refine w_scope ?_
      | refine w_label ?_
      | refine q_thenR ?_
      | refine q_blockR ?_
      | refine q_blockN ?_
      | refine w_exit ?_
      | refine q_thenE ?_
      | refine q_blockE ?_
      | refine w_scope1 ?_
      | refine w_goto ?_
      | refine q_thenG ?_
      | refine q_blockG ?_
      | refine q_ngN ?_
      | refine q_ngR ?_
      | refine q_ngE ?_
      | refine q_jumpN ?_
      | refine q_jumpR ?_
      | refine q_jumpE ?_
      | refine q_jumpG ?_
      | refine q_blockO rfl ?_
      | (apply w_op rfl
         · simp [e0, e1, e5, e6, hlt, hw, ht, hq, hw8, hlb]
           first | rfl | exact ⟨‹_›, rfl⟩)
      | (refine w_condT ?_ ?_
         · simp [e0, e1, e5, e6, hlt, hw, ht, hq, hw8, hlb]
           done)
      | (refine w_condF ?_ ?_
         · simp [e0, e1, e5, e6, hlt, hw, ht, hq, hw8, hlb]
           done)
      | (apply w_opT rfl
         · simp [e0, e1, e5, e6, hlt, hw, ht, hq, hw8, hlb]
           done
         · simp [e0, e1, e5, e6, hlt, hw, ht, hq, hw8, hlb]
           rfl)
      | (refine w_opF ?_ ?_
         · simp [e0, e1, e5, e6, hlt, hw, ht, hq, hw8, hlb]
           done))
    refine ⟨_, ?_, i + 1, by omega, rfl, ?_⟩
    · omega
    · simp [e0, e1, e5, e6, hw, hd, hbe, u8s]
  · have hie : i = many := by omega
    subst hie
    repeat (first
      | refine w_seq ?_
      | refine w_region ?_
      | refine w_draw0 ?_
      | refine w_nil ?_
      | refine q_then ?_
      | refine w_skip ?_
      | refine w_ret ?_
      | refine w_block ?_
      | refine w_scope ?_
      | refine w_label ?_
      | refine q_thenR ?_
      | refine q_blockR ?_
      | refine q_blockN ?_
      | refine w_exit ?_
      | refine q_thenE ?_
      | refine q_blockE ?_
      | refine w_scope1 ?_
      | refine w_goto ?_
      | refine q_thenG ?_
      | refine q_blockG ?_
      | refine q_ngN ?_
      | refine q_ngR ?_
      | refine q_ngE ?_
      | refine q_jumpN ?_
      | refine q_jumpR ?_
      | refine q_jumpE ?_
      | refine q_jumpG ?_
      | refine q_blockO rfl ?_
      | (apply w_op rfl
         · simp [e0, e1, e5, e6]
           first | rfl | exact ⟨‹_›, rfl⟩)
      | (refine w_condT ?_ ?_
         · simp [e0, e1, e5, e6]
           done)
      | (refine w_condF ?_ ?_
         · simp [e0, e1, e5, e6]
           done)
      | (apply w_opT rfl
         · simp [e0, e1, e5, e6]
           done
         · simp [e0, e1, e5, e6]
           rfl)
      | (refine w_opF ?_ ?_
         · simp [e0, e1, e5, e6]
           done))
    simp [Fin, e5]

theorem pc_Bytes6 (xs : List Int) (most : Nat) (hb : xs.length ≤ 140737488355328) : PC Try.prog 6 [vsl (u8s xs), vi64 most] (tab []) (.c (.osl 5 1 (u8s (xs.take most)))) (tab []) := by
  refine F_l06_Bytes.pc0 (by simp) ?_
  unfold c_l06_Bytes
  by_cases h : most < xs.length
  · have h2 : (most : Int) < xs.length := by omega
    have h3 : most ≤ 140737488355328 := by omega
    have h4 : most ≤ xs.length := by omega
    repeat (first
      | refine w_seq ?_
      | refine w_region ?_
      | refine w_draw0 ?_
      | refine w_nil ?_
      | refine q_then ?_
      | refine w_skip ?_
      | refine w_ret ?_
      | refine w_block ?_
      | refine w_scope ?_
      | refine w_label ?_
      | refine q_thenR ?_
      | refine q_blockR ?_
      | refine q_blockN ?_
      | refine w_exit ?_
      | refine q_thenE ?_
      | refine q_blockE ?_
      | refine w_scope1 ?_
      | refine w_goto ?_
      | refine q_thenG ?_
      | refine q_blockG ?_
      | refine q_ngN ?_
      | refine q_ngR ?_
      | refine q_ngE ?_
      | refine q_jumpN ?_
      | refine q_jumpR ?_
      | refine q_jumpE ?_
      | refine q_jumpG ?_
      | refine q_blockO rfl ?_
      | (apply w_op rfl
         · simp [h2, h3, h4, h, u8s_take]
           first | rfl | exact ⟨‹_›, rfl⟩)
      | (refine w_condT ?_ ?_
         · simp [h2, h3, h4, h, u8s_take]
           done)
      | (refine w_condF ?_ ?_
         · simp [h2, h3, h4, h, u8s_take]
           done)
      | (apply w_opT rfl
         · simp [h2, h3, h4, h, u8s_take]
           done
         · simp [h2, h3, h4, h, u8s_take]
           rfl)
      | (refine w_opF ?_ ?_
         · simp [h2, h3, h4, h, u8s_take]
           done))
    simp [Fin]
  · have h2 : ¬ ((most : Int) < xs.length) := by omega
    have h3 : xs.take most = xs := List.take_of_length_le (by omega)
    repeat (first
      | refine w_seq ?_
      | refine w_region ?_
      | refine w_draw0 ?_
      | refine w_nil ?_
      | refine q_then ?_
      | refine w_skip ?_
      | refine w_ret ?_
      | refine w_block ?_
      | refine w_scope ?_
      | refine w_label ?_
      | refine q_thenR ?_
      | refine q_blockR ?_
      | refine q_blockN ?_
      | refine w_exit ?_
      | refine q_thenE ?_
      | refine q_blockE ?_
      | refine w_scope1 ?_
      | refine w_goto ?_
      | refine q_thenG ?_
      | refine q_blockG ?_
      | refine q_ngN ?_
      | refine q_ngR ?_
      | refine q_ngE ?_
      | refine q_jumpN ?_
      | refine q_jumpR ?_
      | refine q_jumpE ?_
      | refine q_jumpG ?_
      | refine q_blockO rfl ?_
      | (apply w_op rfl
         · simp [h2, hb, h3, h]
           first | rfl | exact ⟨‹_›, rfl⟩)
      | (refine w_condT ?_ ?_
         · simp [h2, hb, h3, h]
           done)
      | (refine w_condF ?_ ?_
         · simp [h2, hb, h3, h]
           done)
      | (apply w_opT rfl
         · simp [h2, hb, h3, h]
           done
         · simp [h2, hb, h3, h]
           rfl)
      | (refine w_opF ?_ ?_
         · simp [h2, hb, h3, h]
           done))
    simp [Fin, h3]

theorem pc_Few2 (xs : List Int) (most : Nat) (hb : xs.length ≤ 35184372088832) : PC Try.prog 34 [vsl (u32s xs), vi64 most] (tab []) (.c (.osl 25 1 (u32s (xs.take most)))) (tab []) := by
  refine F_l02_Few.pc0 (by simp) ?_
  unfold c_l02_Few
  by_cases h : most < xs.length
  · have h2 : (most : Int) < xs.length := by omega
    have h3 : most * 4 ≤ 140737488355328 := by omega
    have h4 : most ≤ xs.length := by omega
    repeat (first
      | refine w_seq ?_
      | refine w_region ?_
      | refine w_draw0 ?_
      | refine w_nil ?_
      | refine q_then ?_
      | refine w_skip ?_
      | refine w_ret ?_
      | refine w_block ?_
      | refine w_scope ?_
      | refine w_label ?_
      | refine q_thenR ?_
      | refine q_blockR ?_
      | refine q_blockN ?_
      | refine w_exit ?_
      | refine q_thenE ?_
      | refine q_blockE ?_
      | refine w_scope1 ?_
      | refine w_goto ?_
      | refine q_thenG ?_
      | refine q_blockG ?_
      | refine q_ngN ?_
      | refine q_ngR ?_
      | refine q_ngE ?_
      | refine q_jumpN ?_
      | refine q_jumpR ?_
      | refine q_jumpE ?_
      | refine q_jumpG ?_
      | refine q_blockO rfl ?_
      | (apply w_op rfl
         · simp [h2, h3, h4, h, u32s_take]
           first | rfl | exact ⟨‹_›, rfl⟩)
      | (refine w_condT ?_ ?_
         · simp [h2, h3, h4, h, u32s_take]
           done)
      | (refine w_condF ?_ ?_
         · simp [h2, h3, h4, h, u32s_take]
           done)
      | (apply w_opT rfl
         · simp [h2, h3, h4, h, u32s_take]
           done
         · simp [h2, h3, h4, h, u32s_take]
           rfl)
      | (refine w_opF ?_ ?_
         · simp [h2, h3, h4, h, u32s_take]
           done))
    simp [Fin]
  · have h2 : ¬ ((most : Int) < xs.length) := by omega
    have h3 : xs.take most = xs := List.take_of_length_le (by omega)
    have h4 : xs.length * 4 ≤ 140737488355328 := by omega
    repeat (first
      | refine w_seq ?_
      | refine w_region ?_
      | refine w_draw0 ?_
      | refine w_nil ?_
      | refine q_then ?_
      | refine w_skip ?_
      | refine w_ret ?_
      | refine w_block ?_
      | refine w_scope ?_
      | refine w_label ?_
      | refine q_thenR ?_
      | refine q_blockR ?_
      | refine q_blockN ?_
      | refine w_exit ?_
      | refine q_thenE ?_
      | refine q_blockE ?_
      | refine w_scope1 ?_
      | refine w_goto ?_
      | refine q_thenG ?_
      | refine q_blockG ?_
      | refine q_ngN ?_
      | refine q_ngR ?_
      | refine q_ngE ?_
      | refine q_jumpN ?_
      | refine q_jumpR ?_
      | refine q_jumpE ?_
      | refine q_jumpG ?_
      | refine q_blockO rfl ?_
      | (apply w_op rfl
         · simp [h2, h4, h3, h]
           first | rfl | exact ⟨‹_›, rfl⟩)
      | (refine w_condT ?_ ?_
         · simp [h2, h4, h3, h]
           done)
      | (refine w_condF ?_ ?_
         · simp [h2, h4, h3, h]
           done)
      | (apply w_opT rfl
         · simp [h2, h4, h3, h]
           done
         · simp [h2, h4, h3, h]
           rfl)
      | (refine w_opF ?_ ?_
         · simp [h2, h4, h3, h]
           done))
    simp [Fin, h3]

theorem pc_Same2 (xs ys : List Int) (hb : xs.length ≤ 140737488355328) : PC Try.prog 31 [vsl (u32s xs), vsl (u32s ys)] (tab []) (vb (decide (xs = ys))) (tab []) := by
  refine F_r02_Same.pc0 (by simp) ?_
  unfold c_r02_Same
  by_cases hl : xs.length = ys.length
  · have hl2 : ((xs.length : Int) != ys.length) = false := by simp [hl]
    repeat (first
      | refine w_seq ?_
      | refine w_region ?_
      | refine w_draw0 ?_
      | refine w_nil ?_
      | refine q_then ?_
      | refine w_skip ?_
      | refine w_ret ?_
      | refine w_block ?_
      | refine w_scope ?_
      | refine w_label ?_
      | refine q_thenR ?_
      | refine q_blockR ?_
      | refine q_blockN ?_
      | refine w_exit ?_
      | refine q_thenE ?_
      | refine q_blockE ?_
      | refine w_scope1 ?_
      | refine w_goto ?_
      | refine q_thenG ?_
      | refine q_blockG ?_
      | refine q_ngN ?_
      | refine q_ngR ?_
      | refine q_ngE ?_
      | refine q_jumpN ?_
      | refine q_jumpR ?_
      | refine q_jumpE ?_
      | refine q_jumpG ?_
      | refine q_blockO rfl ?_
      | (apply w_op rfl
         · simp [hl2, hl]
           first | rfl | exact ⟨‹_›, rfl⟩)
      | (refine w_condT ?_ ?_
         · simp [hl2, hl]
           done)
      | (refine w_condF ?_ ?_
         · simp [hl2, hl]
           done)
      | (apply w_opT rfl
         · simp [hl2, hl]
           done
         · simp [hl2, hl]
           rfl)
      | (refine w_opF ?_ ?_
         · simp [hl2, hl]
           done))
    refine w_loop (fun k st => ∃ i : Nat, i ≤ xs.length ∧ k = xs.length - i ∧ st.env 0 = vsl (u32s xs) ∧ st.env 1 = vsl (u32s ys) ∧ st.env 5 = vi64 i ∧ xs.take i = ys.take i) xs.length ?_ ?_
    · exact ⟨0, by simp⟩
    rintro k st ⟨i, hi, rfl, e0, e1, e5, hp⟩
    by_cases hlt : i < xs.length
    · have hlt2 : i < ys.length := by omega
      have hw : IntKind.i64.wrap (i + 1 : Int) = i + 1 := wrap64 (by omega) (by omega)
      cases he : (xs[i] != ys[i]) with
      | true =>
        have hne : ¬ xs = ys := by
          rintro rfl
          simp at he
        repeat (first
          | refine w_seq ?_
          | refine w_region ?_
          | refine w_draw0 ?_
          | refine w_nil ?_
          | refine q_then ?_
          | refine w_skip ?_
          | refine w_ret ?_
          | refine w_block ?_
          | refine w_scope ?_
          | refine w_label ?_
          | refine q_thenR ?_
          | refine q_blockR ?_
          | refine q_blockN ?_
          | refine w_exit ?_
          | refine q_thenE ?_
          | refine q_blockE ?_
          | refine w_scope1 ?_
          | refine w_goto ?_
          | refine q_thenG ?_
          | refine q_blockG ?_
          | refine q_ngN ?_
          | refine q_ngR ?_
          | refine q_ngE ?_
          | refine q_jumpN ?_
          | refine q_jumpR ?_
          | refine q_jumpE ?_
          | refine q_jumpG ?_
          | refine q_blockO rfl ?_
          | (apply w_op rfl
             · simp [e0, e1, e5, hlt, hlt2, hw, he]
               first | rfl | exact ⟨‹_›, rfl⟩)
          | (refine w_condT ?_ ?_
             · simp [e0, e1, e5, hlt, hlt2, hw, he]
               done)
          | (refine w_condF ?_ ?_
             · simp [e0, e1, e5, hlt, hlt2, hw, he]
               done)
          | (apply w_opT rfl
             · simp [e0, e1, e5, hlt, hlt2, hw, he]
               done
             · simp [e0, e1, e5, hlt, hlt2, hw, he]
               rfl)
          | (refine w_opF ?_ ?_
             · simp [e0, e1, e5, hlt, hlt2, hw, he]
               done))
        simp [Fin, hne]
      | false =>
        have heq : xs[i] = ys[i] := by simpa using he
        have hp2 : xs.take (i + 1) = ys.take (i + 1) := by
          rw [← List.take_append_getElem hlt, ← List.take_append_getElem hlt2, hp, heq]
        repeat (first
          | refine w_seq ?_
          | refine w_region ?_
          | refine w_draw0 ?_
          | refine w_nil ?_
          | refine q_then ?_
          | refine w_skip ?_
          | refine w_ret ?_
          | refine w_block ?_
          | refine w_scope ?_
          | refine w_label ?_
          | refine q_thenR ?_
          | refine q_blockR ?_
          | refine q_blockN ?_
          | refine w_exit ?_
          | refine q_thenE ?_
          | refine q_blockE ?_
          | refine w_scope1 ?_
          | refine w_goto ?_
          | refine q_thenG ?_
          | refine q_blockG ?_
          | refine q_ngN ?_
          | refine q_ngR ?_
          | refine q_ngE ?_
          | refine q_jumpN ?_
          | refine q_jumpR ?_
          | refine q_jumpE ?_
          | refine q_jumpG ?_
          | refine q_blockO rfl ?_
          | (apply w_op rfl
             · simp [e0, e1, e5, hlt, hlt2, hw, he]
               first | rfl | exact ⟨‹_›, rfl⟩)
          | (refine w_condT ?_ ?_
             · simp [e0, e1, e5, hlt, hlt2, hw, he]
               done)
          | (refine w_condF ?_ ?_
             · simp [e0, e1, e5, hlt, hlt2, hw, he]
               done)
          | (apply w_opT rfl
             · simp [e0, e1, e5, hlt, hlt2, hw, he]
               done
             · simp [e0, e1, e5, hlt, hlt2, hw, he]
               rfl)
          | (refine w_opF ?_ ?_
             · simp [e0, e1, e5, hlt, hlt2, hw, he]
               done))
        refine ⟨_, ?_, i + 1, by omega, rfl, ?_⟩
        · omega
        · simp [e0, e1, e5, hw, hp2]
    · have hie : i = xs.length := by omega
      subst hie
      have heq : xs = ys := by
        rw [List.take_length] at hp
        rw [hp, hl, List.take_length]
      repeat (first
        | refine w_seq ?_
        | refine w_region ?_
        | refine w_draw0 ?_
        | refine w_nil ?_
        | refine q_then ?_
        | refine w_skip ?_
        | refine w_ret ?_
        | refine w_block ?_
        | refine w_scope ?_
        | refine w_label ?_
        | refine q_thenR ?_
        | refine q_blockR ?_
        | refine q_blockN ?_
        | refine w_exit ?_
        | refine q_thenE ?_
        | refine q_blockE ?_
        | refine w_scope1 ?_
        | refine w_goto ?_
        | refine q_thenG ?_
        | refine q_blockG ?_
        | refine q_ngN ?_
        | refine q_ngR ?_
        | refine q_ngE ?_
        | refine q_jumpN ?_
        | refine q_jumpR ?_
        | refine q_jumpE ?_
        | refine q_jumpG ?_
        | refine q_blockO rfl ?_
        | (apply w_op rfl
           · simp [e0, e1, e5]
             first | rfl | exact ⟨‹_›, rfl⟩)
        | (refine w_condT ?_ ?_
           · simp [e0, e1, e5]
             done)
        | (refine w_condF ?_ ?_
           · simp [e0, e1, e5]
             done)
        | (apply w_opT rfl
           · simp [e0, e1, e5]
             done
           · simp [e0, e1, e5]
             rfl)
        | (refine w_opF ?_ ?_
           · simp [e0, e1, e5]
             done))
      simp [Fin, heq]
  · have hl2 : ((xs.length : Int) != ys.length) = true := by simp; omega
    have hne : ¬ xs = ys := by rintro rfl; exact hl rfl
    repeat (first
      | refine w_seq ?_
      | refine w_region ?_
      | refine w_draw0 ?_
      | refine w_nil ?_
      | refine q_then ?_
      | refine w_skip ?_
      | refine w_ret ?_
      | refine w_block ?_
      | refine w_scope ?_
      | refine w_label ?_
      | refine q_thenR ?_
      | refine q_blockR ?_
      | refine q_blockN ?_
      | refine w_exit ?_
      | refine q_thenE ?_
      | refine q_blockE ?_
      | refine w_scope1 ?_
      | refine w_goto ?_
      | refine q_thenG ?_
      | refine q_blockG ?_
      | refine q_ngN ?_
      | refine q_ngR ?_
      | refine q_ngE ?_
      | refine q_jumpN ?_
      | refine q_jumpR ?_
      | refine q_jumpE ?_
      | refine q_jumpG ?_
      | refine q_blockO rfl ?_
      | (apply w_op rfl
         · simp [hl2]
           first | rfl | exact ⟨‹_›, rfl⟩)
      | (refine w_condT ?_ ?_
         · simp [hl2]
           done)
      | (refine w_condF ?_ ?_
         · simp [hl2]
           done)
      | (apply w_opT rfl
         · simp [hl2]
           done
         · simp [hl2]
           rfl)
      | (refine w_opF ?_ ?_
         · simp [hl2]
           done))
    simp [Fin, hne]

theorem pc_Has2 (xs : List Int) (n : Int) (hb : xs.length ≤ 140737488355328) : PC Try.prog 87 [vsl (u32s xs), vu32 n] (tab []) (vb (xs.contains n)) (tab []) := by
  refine F_r02_Has.pc0 (by simp) ?_
  unfold c_r02_Has
  repeat (first
    | refine w_seq ?_
    | refine w_region ?_
    | refine w_draw0 ?_
    | refine w_nil ?_
    | refine q_then ?_
    | refine w_skip ?_
    | refine w_ret ?_
    | refine w_block ?_
    | refine w_scope ?_
    | refine w_label ?_
    | refine q_thenR ?_
    | refine q_blockR ?_
    | refine q_blockN ?_
    | refine w_exit ?_
    | refine q_thenE ?_
    | refine q_blockE ?_
    | refine w_scope1 ?_
    | refine w_goto ?_
    | refine q_thenG ?_
    | refine q_blockG ?_
    | refine q_ngN ?_
    | refine q_ngR ?_
    | refine q_ngE ?_
    | refine q_jumpN ?_
    | refine q_jumpR ?_
    | refine q_jumpE ?_
    | refine q_jumpG ?_
    | refine q_blockO rfl ?_
    | (apply w_op rfl
       · simp 
         first | rfl | exact ⟨‹_›, rfl⟩)
    | (refine w_condT ?_ ?_
       · simp 
         done)
    | (refine w_condF ?_ ?_
       · simp 
         done)
    | (apply w_opT rfl
       · simp 
         done
       · simp 
         rfl)
    | (refine w_opF ?_ ?_
       · simp 
         done))
  refine w_loop (fun k st => ∃ i : Nat, i ≤ xs.length ∧ k = xs.length - i ∧ st.env 0 = vsl (u32s xs) ∧ st.env 1 = vu32 n ∧ st.env 5 = vi64 i ∧ n ∉ xs.take i) xs.length ?_ ?_
  · exact ⟨0, by simp⟩
  rintro k st ⟨i, hi, rfl, e0, e1, e5, hp⟩
  by_cases hlt : i < xs.length
  · have hw : IntKind.i64.wrap (i + 1 : Int) = i + 1 := wrap64 (by omega) (by omega)
    cases he : (xs[i] == n) with
    | true =>
      have hin : n ∈ xs := by rw [← (beq_iff_eq.1 he)]; exact List.getElem_mem hlt
      repeat (first
        | refine w_seq ?_
        | refine w_region ?_
        | refine w_draw0 ?_
        | refine w_nil ?_
        | refine q_then ?_
        | refine w_skip ?_
        | refine w_ret ?_
        | refine w_block ?_
        | refine w_scope ?_
        | refine w_label ?_
        | refine q_thenR ?_
        | refine q_blockR ?_
        | refine q_blockN ?_
        | refine w_exit ?_
        | refine q_thenE ?_
        | refine q_blockE ?_
        | refine w_scope1 ?_
        | refine w_goto ?_
        | refine q_thenG ?_
        | refine q_blockG ?_
        | refine q_ngN ?_
        | refine q_ngR ?_
        | refine q_ngE ?_
        | refine q_jumpN ?_
        | refine q_jumpR ?_
        | refine q_jumpE ?_
        | refine q_jumpG ?_
        | refine q_blockO rfl ?_
        | (apply w_op rfl
           · simp [e0, e1, e5, hlt, hw, he]
             first | rfl | exact ⟨‹_›, rfl⟩)
        | (refine w_condT ?_ ?_
           · simp [e0, e1, e5, hlt, hw, he]
             done)
        | (refine w_condF ?_ ?_
           · simp [e0, e1, e5, hlt, hw, he]
             done)
        | (apply w_opT rfl
           · simp [e0, e1, e5, hlt, hw, he]
             done
           · simp [e0, e1, e5, hlt, hw, he]
             rfl)
        | (refine w_opF ?_ ?_
           · simp [e0, e1, e5, hlt, hw, he]
             done))
      simp [Fin, hin]
    | false =>
      have hp2 : n ∉ xs.take (i + 1) := by
        rw [← List.take_append_getElem hlt]
        simp only [List.mem_append, List.mem_singleton, not_or]
        exact ⟨hp, fun e => by rw [← e] at he; simp at he⟩
      repeat (first
        | refine w_seq ?_
        | refine w_region ?_
        | refine w_draw0 ?_
        | refine w_nil ?_
        | refine q_then ?_
        | refine w_skip ?_
        | refine w_ret ?_
        | refine w_block ?_
        | refine w_scope ?_
        | refine w_label ?_
        | refine q_thenR ?_
        | refine q_blockR ?_
        | refine q_blockN ?_
        | refine w_exit ?_
        | refine q_thenE ?_
        | refine q_blockE ?_
        | refine w_scope1 ?_
        | refine w_goto ?_
        | refine q_thenG ?_
        | refine q_blockG ?_
        | refine q_ngN ?_
        | refine q_ngR ?_
        | refine q_ngE ?_
        | refine q_jumpN ?_
        | refine q_jumpR ?_
        | refine q_jumpE ?_
        | refine q_jumpG ?_
        | refine q_blockO rfl ?_
        | (apply w_op rfl
           · simp [e0, e1, e5, hlt, hw, he]
             first | rfl | exact ⟨‹_›, rfl⟩)
        | (refine w_condT ?_ ?_
           · simp [e0, e1, e5, hlt, hw, he]
             done)
        | (refine w_condF ?_ ?_
           · simp [e0, e1, e5, hlt, hw, he]
             done)
        | (apply w_opT rfl
           · simp [e0, e1, e5, hlt, hw, he]
             done
           · simp [e0, e1, e5, hlt, hw, he]
             rfl)
        | (refine w_opF ?_ ?_
           · simp [e0, e1, e5, hlt, hw, he]
             done))
      refine ⟨_, ?_, i + 1, by omega, rfl, ?_⟩
      · omega
      · simp [e0, e1, e5, hw, hp2]
  · have hie : i = xs.length := by omega
    subst hie
    rw [List.take_length] at hp
    repeat (first
      | refine w_seq ?_
      | refine w_region ?_
      | refine w_draw0 ?_
      | refine w_nil ?_
      | refine q_then ?_
      | refine w_skip ?_
      | refine w_ret ?_
      | refine w_block ?_
      | refine w_scope ?_
      | refine w_label ?_
      | refine q_thenR ?_
      | refine q_blockR ?_
      | refine q_blockN ?_
      | refine w_exit ?_
      | refine q_thenE ?_
      | refine q_blockE ?_
      | refine w_scope1 ?_
      | refine w_goto ?_
      | refine q_thenG ?_
      | refine q_blockG ?_
      | refine q_ngN ?_
      | refine q_ngR ?_
      | refine q_ngE ?_
      | refine q_jumpN ?_
      | refine q_jumpR ?_
      | refine q_jumpE ?_
      | refine q_jumpG ?_
      | refine q_blockO rfl ?_
      | (apply w_op rfl
         · simp [e0, e1, e5]
           first | rfl | exact ⟨‹_›, rfl⟩)
      | (refine w_condT ?_ ?_
         · simp [e0, e1, e5]
           done)
      | (refine w_condF ?_ ?_
         · simp [e0, e1, e5]
           done)
      | (apply w_opT rfl
         · simp [e0, e1, e5]
           done
         · simp [e0, e1, e5]
           rfl)
      | (refine w_opF ?_ ?_
         · simp [e0, e1, e5]
           done))
    simp [Fin, hp]

/-- The document's set with a number. -/
def putS (l : List Int) (n : Int) : List Int := if l.contains n then l else l.takeWhile (· < n) ++ n :: l.dropWhile (· < n)

def setS (l : List Int) : List Int := l.foldl putS []

end Go.V

