/- CollideRivals: the other side's small steps. -/
import Derived.Test.YtimdfdmdogeiaaaCP6
set_option linter.all false
set_option linter.unusedSimpArgs false
set_option linter.unusedVariables false
namespace Go.V
open Go Go.Proofs

theorem pc6 (f : Fs) : PC Try.prog 6 [.agg f.cs] (tab []) (vb (linkedV f)) (tab []) := by
  refine F6.pc0 (by simp) ?_
  unfold c6
  cases h3 : (f.state == 3) with
  | true =>
    repeat (first
      | refine w_seq ?_
      | refine w_region ?_
      | refine w_draw0 ?_
      | refine w_nil ?_
      | refine q_then ?_
      | refine w_skip ?_
      | refine w_ret ?_
      | refine w_block ?_
      | refine w_scope ?_
      | refine w_label ?_
      | refine q_thenR ?_
      | refine q_blockR ?_
      | refine q_blockN ?_
      | refine w_exit ?_
      | refine q_thenE ?_
      | refine q_blockE ?_
      | refine q_blockO rfl ?_
      | (apply w_op rfl
         · simp [h3]
           first | rfl | exact ⟨‹_›, rfl⟩)
      | (refine w_condT ?_ ?_
         · simp [h3]
           done)
      | (refine w_condF ?_ ?_
         · simp [h3]
           done)
      | (apply w_opT rfl
         · simp [h3]
           done
         · simp [h3]
           rfl)
      | (refine w_opF ?_ ?_
         · simp [h3]
           done))
    simp at h3
    simp [Fin, linkedV, h3]
  | false =>
    cases h4 : (f.state == 4) with
    | true =>
      repeat (first
        | refine w_seq ?_
        | refine w_region ?_
        | refine w_draw0 ?_
        | refine w_nil ?_
        | refine q_then ?_
        | refine w_skip ?_
        | refine w_ret ?_
        | refine w_block ?_
        | refine w_scope ?_
        | refine w_label ?_
        | refine q_thenR ?_
        | refine q_blockR ?_
        | refine q_blockN ?_
        | refine w_exit ?_
        | refine q_thenE ?_
        | refine q_blockE ?_
        | refine q_blockO rfl ?_
        | (apply w_op rfl
           · simp [h3, h4]
             first | rfl | exact ⟨‹_›, rfl⟩)
        | (refine w_condT ?_ ?_
           · simp [h3, h4]
             done)
        | (refine w_condF ?_ ?_
           · simp [h3, h4]
             done)
        | (apply w_opT rfl
           · simp [h3, h4]
             done
           · simp [h3, h4]
             rfl)
        | (refine w_opF ?_ ?_
           · simp [h3, h4]
             done))
      simp at h4
      simp [Fin, linkedV, h4]
    | false =>
      cases h5 : (f.state == 5) with
      | true =>
        repeat (first
          | refine w_seq ?_
          | refine w_region ?_
          | refine w_draw0 ?_
          | refine w_nil ?_
          | refine q_then ?_
          | refine w_skip ?_
          | refine w_ret ?_
          | refine w_block ?_
          | refine w_scope ?_
          | refine w_label ?_
          | refine q_thenR ?_
          | refine q_blockR ?_
          | refine q_blockN ?_
          | refine w_exit ?_
          | refine q_thenE ?_
          | refine q_blockE ?_
          | refine q_blockO rfl ?_
          | (apply w_op rfl
             · simp [h3, h4, h5]
               first | rfl | exact ⟨‹_›, rfl⟩)
          | (refine w_condT ?_ ?_
             · simp [h3, h4, h5]
               done)
          | (refine w_condF ?_ ?_
             · simp [h3, h4, h5]
               done)
          | (apply w_opT rfl
             · simp [h3, h4, h5]
               done
             · simp [h3, h4, h5]
               rfl)
          | (refine w_opF ?_ ?_
             · simp [h3, h4, h5]
               done))
        simp at h5
        simp [Fin, linkedV, h5]
      | false =>
        repeat (first
          | refine w_seq ?_
          | refine w_region ?_
          | refine w_draw0 ?_
          | refine w_nil ?_
          | refine q_then ?_
          | refine w_skip ?_
          | refine w_ret ?_
          | refine w_block ?_
          | refine w_scope ?_
          | refine w_label ?_
          | refine q_thenR ?_
          | refine q_blockR ?_
          | refine q_blockN ?_
          | refine w_exit ?_
          | refine q_thenE ?_
          | refine q_blockE ?_
          | refine q_blockO rfl ?_
          | (apply w_op rfl
             · simp [h3, h4, h5]
               first | rfl | exact ⟨‹_›, rfl⟩)
          | (refine w_condT ?_ ?_
             · simp [h3, h4, h5]
               done)
          | (refine w_condF ?_ ?_
             · simp [h3, h4, h5]
               done)
          | (apply w_opT rfl
             · simp [h3, h4, h5]
               done
             · simp [h3, h4, h5]
               rfl)
          | (refine w_opF ?_ ?_
             · simp [h3, h4, h5]
               done))
        simp at h3 h4 h5
        simp [Fin, linkedV]
        omega

theorem pc31 : PC Try.prog 31 [] (tab []) (.agg keepM.cs) (tab []) := by
  refine F31.pc0 (by simp) ?_
  unfold c31
  repeat (first
    | refine w_seq ?_
    | refine w_region ?_
    | refine w_draw0 ?_
    | refine w_nil ?_
    | refine q_then ?_
    | refine w_skip ?_
    | refine w_ret ?_
    | refine w_block ?_
    | refine w_scope ?_
    | refine w_label ?_
    | refine q_thenR ?_
    | refine q_blockR ?_
    | refine q_blockN ?_
    | refine w_exit ?_
    | refine q_thenE ?_
    | refine q_blockE ?_
    | refine q_blockO rfl ?_
    | (apply w_op rfl
       · simp 
         first | rfl | exact ⟨‹_›, rfl⟩)
    | (refine w_condT ?_ ?_
       · simp 
         done)
    | (refine w_condF ?_ ?_
       · simp 
         done)
    | (apply w_opT rfl
       · simp 
         done
       · simp 
         rfl)
    | (refine w_opF ?_ ?_
       · simp 
         done))
  simp [Fin, keepM, noOpn]

theorem pc32 (h : Int) : PC Try.prog 32 [vi64 h] (tab []) (vi64 (keepV h)) (tab []) := by
  refine F32.pc0 (by simp) ?_
  unfold c32
  by_cases h3 : h < 3
  · repeat (first
      | refine w_seq ?_
      | refine w_region ?_
      | refine w_draw0 ?_
      | refine w_nil ?_
      | refine q_then ?_
      | refine w_skip ?_
      | refine w_ret ?_
      | refine w_block ?_
      | refine w_scope ?_
      | refine w_label ?_
      | refine q_thenR ?_
      | refine q_blockR ?_
      | refine q_blockN ?_
      | refine w_exit ?_
      | refine q_thenE ?_
      | refine q_blockE ?_
      | refine q_blockO rfl ?_
      | (apply w_op rfl
         · simp [h3]
           first | rfl | exact ⟨‹_›, rfl⟩)
      | (refine w_condT ?_ ?_
         · simp [h3]
           done)
      | (refine w_condF ?_ ?_
         · simp [h3]
           done)
      | (apply w_opT rfl
         · simp [h3]
           done
         · simp [h3]
           rfl)
      | (refine w_opF ?_ ?_
         · simp [h3]
           done))
    simp [Fin, keepV, h3]
  · repeat (first
      | refine w_seq ?_
      | refine w_region ?_
      | refine w_draw0 ?_
      | refine w_nil ?_
      | refine q_then ?_
      | refine w_skip ?_
      | refine w_ret ?_
      | refine w_block ?_
      | refine w_scope ?_
      | refine w_label ?_
      | refine q_thenR ?_
      | refine q_blockR ?_
      | refine q_blockN ?_
      | refine w_exit ?_
      | refine q_thenE ?_
      | refine q_blockE ?_
      | refine q_blockO rfl ?_
      | (apply w_op rfl
         · simp [h3]
           first | rfl | exact ⟨‹_›, rfl⟩)
      | (refine w_condT ?_ ?_
         · simp [h3]
           done)
      | (refine w_condF ?_ ?_
         · simp [h3]
           done)
      | (apply w_opT rfl
         · simp [h3]
           done
         · simp [h3]
           rfl)
      | (refine w_opF ?_ ?_
         · simp [h3]
           done))
    simp [Fin, keepV, h3]

theorem pc34 (a b : Int) : PC Try.prog 34 [vi64 a, vi64 b] (tab []) (vi64 (holdV a b)) (tab []) := by
  refine F34.pc0 (by simp) ?_
  unfold c34
  by_cases h1 : a < 1
  · repeat (first
      | refine w_seq ?_
      | refine w_region ?_
      | refine w_draw0 ?_
      | refine w_nil ?_
      | refine q_then ?_
      | refine w_skip ?_
      | refine w_ret ?_
      | refine w_block ?_
      | refine w_scope ?_
      | refine w_label ?_
      | refine q_thenR ?_
      | refine q_blockR ?_
      | refine q_blockN ?_
      | refine w_exit ?_
      | refine q_thenE ?_
      | refine q_blockE ?_
      | refine q_blockO rfl ?_
      | (apply w_op rfl
         · simp [h1]
           first | rfl | exact ⟨‹_›, rfl⟩)
      | (refine w_condT ?_ ?_
         · simp [h1]
           done)
      | (refine w_condF ?_ ?_
         · simp [h1]
           done)
      | (apply w_opT rfl
         · simp [h1]
           done
         · simp [h1]
           rfl)
      | (refine w_opF ?_ ?_
         · simp [h1]
           done))
    simp [Fin, holdV]
    all_goals (first | omega | (split <;> omega) | (split <;> split <;> omega))
  · by_cases h2 : b < 1
    · repeat (first
        | refine w_seq ?_
        | refine w_region ?_
        | refine w_draw0 ?_
        | refine w_nil ?_
        | refine q_then ?_
        | refine w_skip ?_
        | refine w_ret ?_
        | refine w_block ?_
        | refine w_scope ?_
        | refine w_label ?_
        | refine q_thenR ?_
        | refine q_blockR ?_
        | refine q_blockN ?_
        | refine w_exit ?_
        | refine q_thenE ?_
        | refine q_blockE ?_
        | refine q_blockO rfl ?_
        | (apply w_op rfl
           · simp [h1, h2]
             first | rfl | exact ⟨‹_›, rfl⟩)
        | (refine w_condT ?_ ?_
           · simp [h1, h2]
             done)
        | (refine w_condF ?_ ?_
           · simp [h1, h2]
             done)
        | (apply w_opT rfl
           · simp [h1, h2]
             done
           · simp [h1, h2]
             rfl)
        | (refine w_opF ?_ ?_
           · simp [h1, h2]
             done))
      simp [Fin, holdV]
      all_goals (first | omega | (split <;> omega) | (split <;> split <;> omega))
    · by_cases h3 : a < b
      · repeat (first
          | refine w_seq ?_
          | refine w_region ?_
          | refine w_draw0 ?_
          | refine w_nil ?_
          | refine q_then ?_
          | refine w_skip ?_
          | refine w_ret ?_
          | refine w_block ?_
          | refine w_scope ?_
          | refine w_label ?_
          | refine q_thenR ?_
          | refine q_blockR ?_
          | refine q_blockN ?_
          | refine w_exit ?_
          | refine q_thenE ?_
          | refine q_blockE ?_
          | refine q_blockO rfl ?_
          | (apply w_op rfl
             · simp [h1, h2, h3]
               first | rfl | exact ⟨‹_›, rfl⟩)
          | (refine w_condT ?_ ?_
             · simp [h1, h2, h3]
               done)
          | (refine w_condF ?_ ?_
             · simp [h1, h2, h3]
               done)
          | (apply w_opT rfl
             · simp [h1, h2, h3]
               done
             · simp [h1, h2, h3]
               rfl)
          | (refine w_opF ?_ ?_
             · simp [h1, h2, h3]
               done))
        simp [Fin, holdV]
        all_goals (first | omega | (split <;> omega) | (split <;> split <;> omega))
      · repeat (first
          | refine w_seq ?_
          | refine w_region ?_
          | refine w_draw0 ?_
          | refine w_nil ?_
          | refine q_then ?_
          | refine w_skip ?_
          | refine w_ret ?_
          | refine w_block ?_
          | refine w_scope ?_
          | refine w_label ?_
          | refine q_thenR ?_
          | refine q_blockR ?_
          | refine q_blockN ?_
          | refine w_exit ?_
          | refine q_thenE ?_
          | refine q_blockE ?_
          | refine q_blockO rfl ?_
          | (apply w_op rfl
             · simp [h1, h2, h3]
               first | rfl | exact ⟨‹_›, rfl⟩)
          | (refine w_condT ?_ ?_
             · simp [h1, h2, h3]
               done)
          | (refine w_condF ?_ ?_
             · simp [h1, h2, h3]
               done)
          | (apply w_opT rfl
             · simp [h1, h2, h3]
               done
             · simp [h1, h2, h3]
               rfl)
          | (refine w_opF ?_ ?_
             · simp [h1, h2, h3]
               done))
        simp [Fin, holdV]
        all_goals (first | omega | (split <;> omega) | (split <;> split <;> omega))

def nthV (n : Int) : Nat → Int
  | 0 => n
  | i + 1 => IntKind.u64.wrap ((nthV n i).tdiv 256)

def bigL (n : Int) : Nat → List (List D)
  | 0 => []
  | i + 1 => [.v (.int .u8 (IntKind.u8.wrap ((nthV n i).tmod 256)))] :: bigL n i

theorem bigL_one (n : Int) : ∀ i, ∀ x ∈ bigL n i, x.length = 1
  | 0 => by simp [bigL]
  | i + 1 => by
    intro x hx
    simp only [bigL, List.mem_cons] at hx
    rcases hx with rfl | hx
    · rfl
    · exact bigL_one n i x hx

theorem bigL_len (n : Int) : ∀ i, (bigL n i).length = i
  | 0 => rfl
  | i + 1 => by simp [bigL, bigL_len n i]

theorem pc38 (n : Int) : PC Try.prog 38 [.c (.d (.v (.int .u64 n))), vi64 4] (tab []) (vsl (bigL n 4)) (tab []) := by
  refine F38.pc0 (by simp) ?_
  unfold c38
  repeat (first
    | refine w_seq ?_
    | refine w_region ?_
    | refine w_draw0 ?_
    | refine w_nil ?_
    | refine q_then ?_
    | refine w_skip ?_
    | refine w_ret ?_
    | refine w_block ?_
    | refine w_scope ?_
    | refine w_label ?_
    | refine q_thenR ?_
    | refine q_blockR ?_
    | refine q_blockN ?_
    | refine w_exit ?_
    | refine q_thenE ?_
    | refine q_blockE ?_
    | refine q_blockO rfl ?_
    | (apply w_op rfl
       · simp 
         first | rfl | exact ⟨‹_›, rfl⟩)
    | (refine w_condT ?_ ?_
       · simp 
         done)
    | (refine w_condF ?_ ?_
       · simp 
         done)
    | (apply w_opT rfl
       · simp 
         done
       · simp 
         rfl)
    | (refine w_opF ?_ ?_
       · simp 
         done))
  refine w_loop (fun k st => ∃ i : Nat, k + i = 4 ∧ st.env 0 = .c (.d (.v (.int .u64 (nthV n i)))) ∧ st.env 1 = vi64 4 ∧ st.env 6 = vi64 i ∧ st.env 5 = .c (.osl 5 1 (bigL n i))) 4 ⟨0, by simp [nthV, bigL]⟩ ?_
  rintro k st ⟨i, hk, e0, e1, e6, e5⟩
  have h3 : (∀ y, y ∈ bigL n i → y.length = 1) ∧ 1 + (bigL n i).length ≤ 140737488355328 := ⟨bigL_one n i, by rw [bigL_len]; omega⟩
  by_cases hi : i = 4
  · subst hi
    repeat (first
      | refine w_seq ?_
      | refine w_region ?_
      | refine w_draw0 ?_
      | refine w_nil ?_
      | refine q_then ?_
      | refine w_skip ?_
      | refine w_ret ?_
      | refine w_block ?_
      | refine w_scope ?_
      | refine w_label ?_
      | refine q_thenR ?_
      | refine q_blockR ?_
      | refine q_blockN ?_
      | refine w_exit ?_
      | refine q_thenE ?_
      | refine q_blockE ?_
      | refine q_blockO rfl ?_
      | (apply w_op rfl
         · simp [e0, e1, e6, e5]
           first | rfl | exact ⟨‹_›, rfl⟩)
      | (refine w_condT ?_ ?_
         · simp [e0, e1, e6, e5]
           done)
      | (refine w_condF ?_ ?_
         · simp [e0, e1, e6, e5]
           done)
      | (apply w_opT rfl
         · simp [e0, e1, e6, e5]
           done
         · simp [e0, e1, e6, e5]
           rfl)
      | (refine w_opF ?_ ?_
         · simp [e0, e1, e6, e5]
           done))
    simp [Fin]
  · have h4 : (i : Int) < 4 := by omega
    repeat (first
      | refine w_seq ?_
      | refine w_region ?_
      | refine w_draw0 ?_
      | refine w_nil ?_
      | refine q_then ?_
      | refine w_skip ?_
      | refine w_ret ?_
      | refine w_block ?_
      | refine w_scope ?_
      | refine w_label ?_
      | refine q_thenR ?_
      | refine q_blockR ?_
      | refine q_blockN ?_
      | refine w_exit ?_
      | refine q_thenE ?_
      | refine q_blockE ?_
      | refine q_blockO rfl ?_
      | (apply w_op rfl
         · simp [e0, e1, e6, e5, h4]
           first | rfl | exact ⟨‹_›, rfl⟩)
      | (refine w_condT ?_ ?_
         · simp [e0, e1, e6, e5, h4]
           done)
      | (refine w_condF ?_ ?_
         · simp [e0, e1, e6, e5, h4]
           done)
      | (apply w_opT rfl
         · simp [e0, e1, e6, e5, h4]
           done
         · simp [e0, e1, e6, e5, h4]
           rfl)
      | (refine w_opF ?_ ?_
         · simp [e0, e1, e6, e5, h4]
           done))
    refine ⟨k - 1, by omega, i + 1, by omega, ?_⟩
    simp [e0, e1, e6, e5, nthV, bigL]
    exact wrap64 (by omega) (by omega)

theorem u64w {a : Int} (h0 : 0 ≤ a) (h1 : a < 18446744073709551616) : IntKind.u64.wrap a = a := by
  rw [IntKind.wrap_u64]
  omega

theorem nthV_succ {n : Int} {i : Nat} {x : Int} (h : nthV n i = x) (h0 : 0 ≤ x) (h1 : x < 18446744073709551616) : nthV n (i + 1) = x / 256 := by
  simp only [nthV, h, Int.tdiv_eq_ediv_of_nonneg h0]
  exact u64w (by omega) (by omega)

theorem four_big {a : Int} (h0 : 0 ≤ a) (h1 : a < 4294967296) : bigL (IntKind.u64.wrap a) 4 = fourV a := by
  rw [u64w h0 (by omega)]
  have n0 : nthV a 0 = a := rfl
  have n1 := nthV_succ n0 h0 (by omega)
  have n2 := nthV_succ n1 (by omega) (by omega)
  have n3 := nthV_succ n2 (by omega) (by omega)
  have f : ∀ b : Int, 0 ≤ b → a.fdiv b = a / b := fun b hb => Int.fdiv_eq_ediv_of_nonneg a hb
  simp only [bigL, fourV, n0, n1, n2, n3, f _ (show (0 : Int) ≤ 2 ^ 24 by decide), f _ (show (0 : Int) ≤ 2 ^ 16 by decide), f _ (show (0 : Int) ≤ 2 ^ 8 by decide), IntKind.wrap_u8,
    Int.tmod_eq_emod_of_nonneg h0, Int.tmod_eq_emod_of_nonneg (show 0 ≤ a / 256 by omega), Int.tmod_eq_emod_of_nonneg (show 0 ≤ a / 256 / 256 by omega), Int.tmod_eq_emod_of_nonneg (show 0 ≤ a / 256 / 256 / 256 by omega)]
  have e1 : a / 256 / 256 / 256 % 256 % 256 = a / 2 ^ 24 % 256 := by omega
  have e2 : a / 256 / 256 % 256 % 256 = a / 2 ^ 16 % 256 := by omega
  have e3 : a / 256 % 256 % 256 = a / 2 ^ 8 % 256 := by omega
  have e4 : a % 256 % 256 = a % 256 := by omega
  rw [e1, e2, e3, e4]

theorem pc33 (o : Opn) (a own : Int) (h0 : 0 ≤ a) (h1 : a < 4294967296) : PC Try.prog 33 [.agg o.cs, vu32 a, vu32 own] (tab []) (.agg [cI (judgeV o a own).1, cI (judgeV o a own).2.1, .d (.sl (judgeV o a own).2.2)]) (tab []) := by
  refine F33.pc0 (by simp) ?_
  unfold c33
  cases h1 : (o.asn != a) with
  | true =>
    repeat (first
      | refine w_seq ?_
      | refine w_region ?_
      | refine w_draw0 ?_
      | refine w_nil ?_
      | refine q_then ?_
      | refine w_skip ?_
      | refine w_ret ?_
      | refine w_block ?_
      | refine w_scope ?_
      | refine w_label ?_
      | refine q_thenR ?_
      | refine q_blockR ?_
      | refine q_blockN ?_
      | refine w_exit ?_
      | refine q_thenE ?_
      | refine q_blockE ?_
      | refine q_blockO rfl ?_
      | (apply w_op rfl
         · simp [h1]
           first | rfl | exact ⟨‹_›, rfl⟩)
      | (refine w_condT ?_ ?_
         · simp [h1]
           done)
      | (refine w_condF ?_ ?_
         · simp [h1]
           done)
      | (apply w_opT rfl
         · simp [h1]
           done
         · simp [h1]
           rfl)
      | (refine w_opF ?_ ?_
         · simp [h1]
           done))
    simp at h1
    simp [Fin, judgeV, h1]
  | false =>
    cases h2 : (o.id == own) with
    | true =>
      repeat (first
        | refine w_seq ?_
        | refine w_region ?_
        | refine w_draw0 ?_
        | refine w_nil ?_
        | refine q_then ?_
        | refine w_skip ?_
        | refine w_ret ?_
        | refine w_block ?_
        | refine w_scope ?_
        | refine w_label ?_
        | refine q_thenR ?_
        | refine q_blockR ?_
        | refine q_blockN ?_
        | refine w_exit ?_
        | refine q_thenE ?_
        | refine q_blockE ?_
        | refine q_blockO rfl ?_
        | (apply w_op rfl
           · simp [h1, h2]
             first | rfl | exact ⟨‹_›, rfl⟩)
        | (refine w_condT ?_ ?_
           · simp [h1, h2]
             done)
        | (refine w_condF ?_ ?_
           · simp [h1, h2]
             done)
        | (apply w_opT rfl
           · simp [h1, h2]
             done
           · simp [h1, h2]
             rfl)
        | (refine w_opF ?_ ?_
           · simp [h1, h2]
             done))
      simp at h1 h2
      simp [Fin, judgeV, h1, h2]
    | false =>
      cases h3 : o.four with
      | false =>
        repeat (first
          | refine w_seq ?_
          | refine w_region ?_
          | refine w_draw0 ?_
          | refine w_nil ?_
          | refine q_then ?_
          | refine w_skip ?_
          | refine w_ret ?_
          | refine w_block ?_
          | refine w_scope ?_
          | refine w_label ?_
          | refine q_thenR ?_
          | refine q_blockR ?_
          | refine q_blockN ?_
          | refine w_exit ?_
          | refine q_thenE ?_
          | refine q_blockE ?_
          | refine q_blockO rfl ?_
          | (apply w_op rfl
             · simp [h1, h2, h3]
               first | rfl | exact ⟨‹_›, rfl⟩)
          | (refine w_condT ?_ ?_
             · simp [h1, h2, h3]
               done)
          | (refine w_condF ?_ ?_
             · simp [h1, h2, h3]
               done)
          | (apply w_opT rfl
             · simp [h1, h2, h3]
               done
             · simp [h1, h2, h3]
               rfl)
          | (refine w_opF ?_ ?_
             · simp [h1, h2, h3]
               done))
        have h4 : (∀ y, y ∈ bigL (IntKind.u64.wrap a) 4 → y.length = 1) ∧ 2 + (bigL (IntKind.u64.wrap a) 4).length ≤ 140737488355328 := ⟨bigL_one _ 4, by rw [bigL_len]; omega⟩
        apply w_call0 (hc := by kernel_rfl) (pc := pc38 (IntKind.u64.wrap a))
        · simp [h1, h2, h3]
        · (simp [h1, h2, h3]; rfl)
        repeat (first
          | refine w_seq ?_
          | refine w_region ?_
          | refine w_draw0 ?_
          | refine w_nil ?_
          | refine q_then ?_
          | refine w_skip ?_
          | refine w_ret ?_
          | refine w_block ?_
          | refine w_scope ?_
          | refine w_label ?_
          | refine q_thenR ?_
          | refine q_blockR ?_
          | refine q_blockN ?_
          | refine w_exit ?_
          | refine q_thenE ?_
          | refine q_blockE ?_
          | refine q_blockO rfl ?_
          | (apply w_op rfl
             · simp [h1, h2, h3]
               first | rfl | exact ⟨‹_›, rfl⟩)
          | (refine w_condT ?_ ?_
             · simp [h1, h2, h3]
               done)
          | (refine w_condF ?_ ?_
             · simp [h1, h2, h3]
               done)
          | (apply w_opT rfl
             · simp [h1, h2, h3]
               done
             · simp [h1, h2, h3]
               rfl)
          | (refine w_opF ?_ ?_
             · simp [h1, h2, h3]
               done))
        simp at h1 h2
        rw [four_big h0 (by assumption)]
        simp [Fin, judgeV, h1, h2, h3, IntKind.wrap_u8]
      | true =>
        repeat (first
          | refine w_seq ?_
          | refine w_region ?_
          | refine w_draw0 ?_
          | refine w_nil ?_
          | refine q_then ?_
          | refine w_skip ?_
          | refine w_ret ?_
          | refine w_block ?_
          | refine w_scope ?_
          | refine w_label ?_
          | refine q_thenR ?_
          | refine q_blockR ?_
          | refine q_blockN ?_
          | refine w_exit ?_
          | refine q_thenE ?_
          | refine q_blockE ?_
          | refine q_blockO rfl ?_
          | (apply w_op rfl
             · simp [h1, h2, h3]
               first | rfl | exact ⟨‹_›, rfl⟩)
          | (refine w_condT ?_ ?_
             · simp [h1, h2, h3]
               done)
          | (refine w_condF ?_ ?_
             · simp [h1, h2, h3]
               done)
          | (apply w_opT rfl
             · simp [h1, h2, h3]
               done
             · simp [h1, h2, h3]
               rfl)
          | (refine w_opF ?_ ?_
             · simp [h1, h2, h3]
               done))
        simp at h1 h2
        simp [Fin, judgeV, h1, h2, h3]

end Go.V

