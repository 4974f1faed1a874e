/- Paths in their own form, as the document has them. -/
import Derived.Test.YtglmbheeplndpaaAP4
set_option linter.all false
set_option linter.unusedSimpArgs false
set_option linter.unusedVariables false
namespace Go.V
open Go Go.Proofs

theorem putR_len (l : List Seg) (n : Int) : (putR l n).length ≤ l.length + 1 := by
  unfold putR
  split
  · split
    · simp only [List.length_append, List.length_dropLast, List.length_singleton]; omega
    · simp
  · simp

theorem putR_small (l : List Seg) (n : Int) (m : Nat) (hm : 255 ≤ m) (h : ∀ s ∈ l, s.nums.length ≤ m) : ∀ s ∈ putR l n, s.nums.length ≤ m := by
  intro s hs
  unfold putR at hs
  split at hs
  · rename_i t ht
    split at hs
    · rename_i hc
      simp only [Bool.and_eq_true, decide_eq_true_eq] at hc
      simp only [List.mem_append, List.mem_singleton] at hs
      rcases hs with hs | rfl
      · exact h s (List.dropLast_subset _ hs)
      · simp; omega
    · simp only [List.mem_append, List.mem_singleton] at hs
      rcases hs with hs | rfl
      · exact h s hs
      · simp; omega
  · simp only [List.mem_singleton] at hs
    subst hs
    simp; omega

theorem foldR_small (ns : List Int) (m : Nat) (hm : 255 ≤ m) : ∀ l : List Seg, (∀ s ∈ l, s.nums.length ≤ m) → (ns.foldl putR l).length ≤ l.length + ns.length ∧ ∀ s ∈ ns.foldl putR l, s.nums.length ≤ m := by
  induction ns with
  | nil => intro l h; exact ⟨by simp, h⟩
  | cons n r ih =>
    intro l h
    obtain ⟨a, b⟩ := ih (putR l n) (putR_small l n m hm h)
    have := putR_len l n
    exact ⟨by simp only [List.foldl_cons, List.length_cons]; omega, b⟩

def normStep (out : List Seg) (s : Seg) : List Seg :=
  let o := if s.kind = 2 then s.nums.foldl putR out else out
  if s.kind = 1 ∧ s.nums ≠ [] then o ++ [⟨1, setS s.nums⟩] else o

def normR (l : List Seg) : List Seg := l.foldl normStep []

theorem normStep_small (l : List Seg) (s : Seg) (m : Nat) (hm : 255 ≤ m) (hs : s.nums.length ≤ m) (h : ∀ s ∈ l, s.nums.length ≤ m) : (normStep l s).length ≤ l.length + m + 1 ∧ ∀ t ∈ normStep l s, t.nums.length ≤ m := by
  have key : (if s.kind = 2 then s.nums.foldl putR l else l).length ≤ l.length + m ∧ ∀ t ∈ (if s.kind = 2 then s.nums.foldl putR l else l), t.nums.length ≤ m := by
    split
    · obtain ⟨a, b⟩ := foldR_small s.nums m hm l h
      exact ⟨by omega, b⟩
    · exact ⟨by omega, h⟩
  by_cases hc : s.kind = 1 ∧ s.nums ≠ []
  · have e : normStep l s = (if s.kind = 2 then s.nums.foldl putR l else l) ++ [⟨1, setS s.nums⟩] := by unfold normStep; rw [if_pos hc]
    rw [e]
    refine ⟨by simp only [List.length_append, List.length_singleton]; omega, fun t ht => ?_⟩
    simp only [List.mem_append, List.mem_singleton] at ht
    rcases ht with ht | rfl
    · exact key.2 t ht
    · have := setS_len s.nums
      simp only
      omega
  · have e : normStep l s = (if s.kind = 2 then s.nums.foldl putR l else l) := by unfold normStep; rw [if_neg hc]
    rw [e]
    exact ⟨by omega, key.2⟩

theorem fold_small (m : Nat) (hm : 255 ≤ m) : ∀ (l acc : List Seg), (∀ s ∈ l, s.nums.length ≤ m) → (∀ s ∈ acc, s.nums.length ≤ m) → (l.foldl normStep acc).length ≤ acc.length + l.length * (m + 1) ∧ ∀ s ∈ l.foldl normStep acc, s.nums.length ≤ m
  | [], acc, _, h => ⟨by simp, h⟩
  | s :: r, acc, hl, h => by
    obtain ⟨a, b⟩ := normStep_small acc s m hm (hl s (by simp)) h
    obtain ⟨c, d⟩ := fold_small m hm r (normStep acc s) (fun t ht => hl t (by simp [ht])) b
    refine ⟨?_, d⟩
    simp only [List.foldl_cons, List.length_cons, Nat.add_mul]
    omega

set_option maxHeartbeats 1000000 in
theorem pc_Norm4 (l : List Seg) (hl : l.length ≤ 900) (hs : ∀ s ∈ l, s.nums.length ≤ 1000) : PC Try.prog 60 [vsl (segs l)] (tab []) (.c (.osl 65 2 (segs (normR l)))) (tab []) := by
  refine F_r04_Norm.pc0 (by simp) ?_
  unfold c_r04_Norm
  repeat (first
    | refine w_seq ?_
    | refine w_region ?_
    | refine w_draw0 ?_
    | refine w_nil ?_
    | refine q_then ?_
    | refine w_skip ?_
    | refine w_ret ?_
    | refine w_block ?_
    | refine w_scope ?_
    | refine w_label ?_
    | refine q_thenR ?_
    | refine q_blockR ?_
    | refine q_blockN ?_
    | refine w_exit ?_
    | refine q_thenE ?_
    | refine q_blockE ?_
    | refine w_scope1 ?_
    | refine w_goto ?_
    | refine q_thenG ?_
    | refine q_blockG ?_
    | refine q_ngN ?_
    | refine q_ngR ?_
    | refine q_ngE ?_
    | refine q_jumpN ?_
    | refine q_jumpR ?_
    | refine q_jumpE ?_
    | refine q_jumpG ?_
    | refine q_blockO rfl ?_
    | (apply w_op rfl
       · simp 
         first | rfl | exact ⟨‹_›, rfl⟩)
    | (refine w_condT ?_ ?_
       · simp 
         done)
    | (refine w_condF ?_ ?_
       · simp 
         done)
    | (apply w_opT rfl
       · simp 
         done
       · simp 
         rfl)
    | (refine w_opF ?_ ?_
       · simp 
         done))
  refine w_loop (fun k st => ∃ i : Nat, i ≤ l.length ∧ k = l.length - i ∧ st.env 0 = vsl (segs l) ∧ st.env 3 = .c (.osl 65 2 (segs (normR (l.take i)))) ∧ st.env 4 = vi64 i) l.length ?_ ?_
  · exact ⟨0, by simp [normR]⟩
  rintro k st ⟨i, hi, rfl, e0, e3, e4⟩
  by_cases hlt : i < l.length
  · have hw : IntKind.i64.wrap (i + 1 : Int) = i + 1 := wrap64 (by omega) (by omega)
    have hsi := hs _ (List.getElem_mem hlt)
    have hn : normR (l.take (i + 1)) = normStep (normR (l.take i)) l[i] := foldl_take normStep [] l i hlt
    obtain ⟨hA, hB⟩ := fold_small 1000 (by omega) (l.take i) [] (fun s hs' => hs s (List.mem_of_mem_take hs')) (by simp)
    have hA2 : (normR (l.take i)).length ≤ 900900 := by
      have : (l.take i).length ≤ 900 := by simp; omega
      have h2 : (l.take i).length * 1001 ≤ 900 * 1001 := Nat.mul_le_mul_right _ this
      simp only [List.length_nil, Nat.zero_add] at hA
      exact Nat.le_trans hA h2
    change ∀ s ∈ normR (l.take i), s.nums.length ≤ 1000 at hB
    generalize normR (l.take i) = acc at e3 hn hA2 hB
    by_cases hk2 : l[i].kind = 2
    · have hn2 : normR (l.take (i + 1)) = l[i].nums.foldl putR acc := by rw [hn]; simp [normStep, hk2]
      have hk1 : ¬ (l[i].kind = 1) := by omega
      repeat (first
        | refine w_seq ?_
        | refine w_region ?_
        | refine w_draw0 ?_
        | refine w_nil ?_
        | refine q_then ?_
        | refine w_skip ?_
        | refine w_ret ?_
        | refine w_block ?_
        | refine w_scope ?_
        | refine w_label ?_
        | refine q_thenR ?_
        | refine q_blockR ?_
        | refine q_blockN ?_
        | refine w_exit ?_
        | refine q_thenE ?_
        | refine q_blockE ?_
        | refine w_scope1 ?_
        | refine w_goto ?_
        | refine q_thenG ?_
        | refine q_blockG ?_
        | refine q_ngN ?_
        | refine q_ngR ?_
        | refine q_ngE ?_
        | refine q_jumpN ?_
        | refine q_jumpR ?_
        | refine q_jumpE ?_
        | refine q_jumpG ?_
        | refine q_blockO rfl ?_
        | (apply w_op rfl
           · simp [e0, e3, e4, hlt, hk2]
             first | rfl | exact ⟨‹_›, rfl⟩)
        | (refine w_condT ?_ ?_
           · simp [e0, e3, e4, hlt, hk2]
             done)
        | (refine w_condF ?_ ?_
           · simp [e0, e3, e4, hlt, hk2]
             done)
        | (apply w_opT rfl
           · simp [e0, e3, e4, hlt, hk2]
             done
           · simp [e0, e3, e4, hlt, hk2]
             rfl)
        | (refine w_opF ?_ ?_
           · simp [e0, e3, e4, hlt, hk2]
             done))
      refine w_loop (fun k st => ∃ j : Nat, j ≤ l[i].nums.length ∧ k = l[i].nums.length - j ∧ st.env 0 = vsl (segs l) ∧ st.env 3 = .c (.osl 65 2 (segs ((l[i].nums.take j).foldl putR acc))) ∧ st.env 4 = vi64 i ∧ st.env 5 = vi64 j) l[i].nums.length ?_ ?_
      · exact ⟨0, by simp [e0, e3, e4]⟩
      rintro k st ⟨j, hj, rfl, e0, e3, e4, e5⟩
      by_cases hjt : j < l[i].nums.length
      · have hwj : IntKind.i64.wrap (j + 1 : Int) = j + 1 := wrap64 (by omega) (by omega)
        obtain ⟨hC, hD⟩ := foldR_small (l[i].nums.take j) 1000 (by omega) acc hB
        have hp := pc_put4 ((l[i].nums.take j).foldl putR acc) l[i].nums[j] (by simp at hC; omega) (fun s hs' => by have := hD s hs'; omega)
        have hf := foldl_take putR acc l[i].nums j hjt
        repeat (first
          | refine w_seq ?_
          | refine w_region ?_
          | refine w_draw0 ?_
          | refine w_nil ?_
          | refine q_then ?_
          | refine w_skip ?_
          | refine w_ret ?_
          | refine w_block ?_
          | refine w_scope ?_
          | refine w_label ?_
          | refine q_thenR ?_
          | refine q_blockR ?_
          | refine q_blockN ?_
          | refine w_exit ?_
          | refine q_thenE ?_
          | refine q_blockE ?_
          | refine w_scope1 ?_
          | refine w_goto ?_
          | refine q_thenG ?_
          | refine q_blockG ?_
          | refine q_ngN ?_
          | refine q_ngR ?_
          | refine q_ngE ?_
          | refine q_jumpN ?_
          | refine q_jumpR ?_
          | refine q_jumpE ?_
          | refine q_jumpG ?_
          | refine q_blockO rfl ?_
          | (apply w_op rfl
             · simp [e0, e3, e4, e5, hlt, hjt, hwj]
               first | rfl | exact ⟨‹_›, rfl⟩)
          | (refine w_condT ?_ ?_
             · simp [e0, e3, e4, e5, hlt, hjt, hwj]
               done)
          | (refine w_condF ?_ ?_
             · simp [e0, e3, e4, e5, hlt, hjt, hwj]
               done)
          | (apply w_opT rfl
             · simp [e0, e3, e4, e5, hlt, hjt, hwj]
               done
             · simp [e0, e3, e4, e5, hlt, hjt, hwj]
               rfl)
          | (refine w_opF ?_ ?_
             · simp [e0, e3, e4, e5, hlt, hjt, hwj]
               done))
        apply w_call0 (hc := by kernel_rfl) (pc := hp)
        · simp [e0, e3, e4, e5]
        · (simp [e0, e3, e4, e5]; rfl)
        repeat (first
          | refine w_seq ?_
          | refine w_region ?_
          | refine w_draw0 ?_
          | refine w_nil ?_
          | refine q_then ?_
          | refine w_skip ?_
          | refine w_ret ?_
          | refine w_block ?_
          | refine w_scope ?_
          | refine w_label ?_
          | refine q_thenR ?_
          | refine q_blockR ?_
          | refine q_blockN ?_
          | refine w_exit ?_
          | refine q_thenE ?_
          | refine q_blockE ?_
          | refine w_scope1 ?_
          | refine w_goto ?_
          | refine q_thenG ?_
          | refine q_blockG ?_
          | refine q_ngN ?_
          | refine q_ngR ?_
          | refine q_ngE ?_
          | refine q_jumpN ?_
          | refine q_jumpR ?_
          | refine q_jumpE ?_
          | refine q_jumpG ?_
          | refine q_blockO rfl ?_
          | (apply w_op rfl
             · simp [e0, e3, e4, e5, hwj]
               first | rfl | exact ⟨‹_›, rfl⟩)
          | (refine w_condT ?_ ?_
             · simp [e0, e3, e4, e5, hwj]
               done)
          | (refine w_condF ?_ ?_
             · simp [e0, e3, e4, e5, hwj]
               done)
          | (apply w_opT rfl
             · simp [e0, e3, e4, e5, hwj]
               done
             · simp [e0, e3, e4, e5, hwj]
               rfl)
          | (refine w_opF ?_ ?_
             · simp [e0, e3, e4, e5, hwj]
               done))
        refine ⟨_, ?_, j + 1, by omega, rfl, ?_⟩
        · omega
        · simp [e0, e3, e4, e5, hwj, hf]
      · have hje : j = l[i].nums.length := by omega
        rw [hje, List.take_length, ← hn2] at e3
        repeat (first
          | refine w_seq ?_
          | refine w_region ?_
          | refine w_draw0 ?_
          | refine w_nil ?_
          | refine q_then ?_
          | refine w_skip ?_
          | refine w_ret ?_
          | refine w_block ?_
          | refine w_scope ?_
          | refine w_label ?_
          | refine q_thenR ?_
          | refine q_blockR ?_
          | refine q_blockN ?_
          | refine w_exit ?_
          | refine q_thenE ?_
          | refine q_blockE ?_
          | refine w_scope1 ?_
          | refine w_goto ?_
          | refine q_thenG ?_
          | refine q_blockG ?_
          | refine q_ngN ?_
          | refine q_ngR ?_
          | refine q_ngE ?_
          | refine q_jumpN ?_
          | refine q_jumpR ?_
          | refine q_jumpE ?_
          | refine q_jumpG ?_
          | refine q_blockO rfl ?_
          | (apply w_op rfl
             · simp [e0, e3, e4, e5, hlt, hjt, hw, hk2]
               first | rfl | exact ⟨‹_›, rfl⟩)
          | (refine w_condT ?_ ?_
             · simp [e0, e3, e4, e5, hlt, hjt, hw, hk2]
               done)
          | (refine w_condF ?_ ?_
             · simp [e0, e3, e4, e5, hlt, hjt, hw, hk2]
               done)
          | (apply w_opT rfl
             · simp [e0, e3, e4, e5, hlt, hjt, hw, hk2]
               done
             · simp [e0, e3, e4, e5, hlt, hjt, hw, hk2]
               rfl)
          | (refine w_opF ?_ ?_
             · simp [e0, e3, e4, e5, hlt, hjt, hw, hk2]
               done))
        refine ⟨_, ?_, i + 1, by omega, rfl, ?_⟩
        · omega
        · simp [e0, e3, e4, hw]
    · by_cases hk1 : l[i].kind = 1
      · by_cases hne : l[i].nums = []
        · have hn2 : normR (l.take (i + 1)) = acc := by rw [hn]; simp [normStep, hk2, hne]
          repeat (first
            | refine w_seq ?_
            | refine w_region ?_
            | refine w_draw0 ?_
            | refine w_nil ?_
            | refine q_then ?_
            | refine w_skip ?_
            | refine w_ret ?_
            | refine w_block ?_
            | refine w_scope ?_
            | refine w_label ?_
            | refine q_thenR ?_
            | refine q_blockR ?_
            | refine q_blockN ?_
            | refine w_exit ?_
            | refine q_thenE ?_
            | refine q_blockE ?_
            | refine w_scope1 ?_
            | refine w_goto ?_
            | refine q_thenG ?_
            | refine q_blockG ?_
            | refine q_ngN ?_
            | refine q_ngR ?_
            | refine q_ngE ?_
            | refine q_jumpN ?_
            | refine q_jumpR ?_
            | refine q_jumpE ?_
            | refine q_jumpG ?_
            | refine q_blockO rfl ?_
            | (apply w_op rfl
               · simp [e0, e3, e4, hlt, hk2, hk1, hne, hw]
                 first | rfl | exact ⟨‹_›, rfl⟩)
            | (refine w_condT ?_ ?_
               · simp [e0, e3, e4, hlt, hk2, hk1, hne, hw]
                 done)
            | (refine w_condF ?_ ?_
               · simp [e0, e3, e4, hlt, hk2, hk1, hne, hw]
                 done)
            | (apply w_opT rfl
               · simp [e0, e3, e4, hlt, hk2, hk1, hne, hw]
                 done
               · simp [e0, e3, e4, hlt, hk2, hk1, hne, hw]
                 rfl)
            | (refine w_opF ?_ ?_
               · simp [e0, e3, e4, hlt, hk2, hk1, hne, hw]
                 done))
          refine ⟨_, ?_, i + 1, by omega, rfl, ?_⟩
          · omega
          · simp [e0, e3, e4, hw, hn2]
        · have hn2 : normR (l.take (i + 1)) = acc ++ [⟨1, setS l[i].nums⟩] := by rw [hn]; simp [normStep, hk1, hne]
          have hpos : 0 < l[i].nums.length := List.length_pos_iff.2 hne
          have hst := pc_Set2 l[i].nums (by omega)
          have hb : (acc.length + 1) * 32 ≤ 140737488355328 := by omega
          repeat (first
            | refine w_seq ?_
            | refine w_region ?_
            | refine w_draw0 ?_
            | refine w_nil ?_
            | refine q_then ?_
            | refine w_skip ?_
            | refine w_ret ?_
            | refine w_block ?_
            | refine w_scope ?_
            | refine w_label ?_
            | refine q_thenR ?_
            | refine q_blockR ?_
            | refine q_blockN ?_
            | refine w_exit ?_
            | refine q_thenE ?_
            | refine q_blockE ?_
            | refine w_scope1 ?_
            | refine w_goto ?_
            | refine q_thenG ?_
            | refine q_blockG ?_
            | refine q_ngN ?_
            | refine q_ngR ?_
            | refine q_ngE ?_
            | refine q_jumpN ?_
            | refine q_jumpR ?_
            | refine q_jumpE ?_
            | refine q_jumpG ?_
            | refine q_blockO rfl ?_
            | (apply w_op rfl
               · simp [e0, e3, e4, hlt, hk2, hk1, hpos, hw]
                 first | rfl | exact ⟨‹_›, rfl⟩)
            | (refine w_condT ?_ ?_
               · simp [e0, e3, e4, hlt, hk2, hk1, hpos, hw]
                 done)
            | (refine w_condF ?_ ?_
               · simp [e0, e3, e4, hlt, hk2, hk1, hpos, hw]
                 done)
            | (apply w_opT rfl
               · simp [e0, e3, e4, hlt, hk2, hk1, hpos, hw]
                 done
               · simp [e0, e3, e4, hlt, hk2, hk1, hpos, hw]
                 rfl)
            | (refine w_opF ?_ ?_
               · simp [e0, e3, e4, hlt, hk2, hk1, hpos, hw]
                 done))
          apply w_call0 (hc := by kernel_rfl) (pc := hst)
          · simp [e0, e3, e4]
          · (simp [e0, e3, e4]; rfl)
          repeat (first
            | refine w_seq ?_
            | refine w_region ?_
            | refine w_draw0 ?_
            | refine w_nil ?_
            | refine q_then ?_
            | refine w_skip ?_
            | refine w_ret ?_
            | refine w_block ?_
            | refine w_scope ?_
            | refine w_label ?_
            | refine q_thenR ?_
            | refine q_blockR ?_
            | refine q_blockN ?_
            | refine w_exit ?_
            | refine q_thenE ?_
            | refine q_blockE ?_
            | refine w_scope1 ?_
            | refine w_goto ?_
            | refine q_thenG ?_
            | refine q_blockG ?_
            | refine q_ngN ?_
            | refine q_ngR ?_
            | refine q_ngE ?_
            | refine q_jumpN ?_
            | refine q_jumpR ?_
            | refine q_jumpE ?_
            | refine q_jumpG ?_
            | refine q_blockO rfl ?_
            | (apply w_op rfl
               · simp [e0, e3, e4, hlt, hk2, hk1, hpos, hw, hb]
                 first | rfl | exact ⟨‹_›, rfl⟩)
            | (refine w_condT ?_ ?_
               · simp [e0, e3, e4, hlt, hk2, hk1, hpos, hw, hb]
                 done)
            | (refine w_condF ?_ ?_
               · simp [e0, e3, e4, hlt, hk2, hk1, hpos, hw, hb]
                 done)
            | (apply w_opT rfl
               · simp [e0, e3, e4, hlt, hk2, hk1, hpos, hw, hb]
                 done
               · simp [e0, e3, e4, hlt, hk2, hk1, hpos, hw, hb]
                 rfl)
            | (refine w_opF ?_ ?_
               · simp [e0, e3, e4, hlt, hk2, hk1, hpos, hw, hb]
                 done))
          refine ⟨_, ?_, i + 1, by omega, rfl, ?_⟩
          · omega
          · simp [e0, e3, e4, hw, hn2, segs_append]
            simp [segs]
      · have hn2 : normR (l.take (i + 1)) = acc := by rw [hn]; simp [normStep, hk2, hk1]
        repeat (first
          | refine w_seq ?_
          | refine w_region ?_
          | refine w_draw0 ?_
          | refine w_nil ?_
          | refine q_then ?_
          | refine w_skip ?_
          | refine w_ret ?_
          | refine w_block ?_
          | refine w_scope ?_
          | refine w_label ?_
          | refine q_thenR ?_
          | refine q_blockR ?_
          | refine q_blockN ?_
          | refine w_exit ?_
          | refine q_thenE ?_
          | refine q_blockE ?_
          | refine w_scope1 ?_
          | refine w_goto ?_
          | refine q_thenG ?_
          | refine q_blockG ?_
          | refine q_ngN ?_
          | refine q_ngR ?_
          | refine q_ngE ?_
          | refine q_jumpN ?_
          | refine q_jumpR ?_
          | refine q_jumpE ?_
          | refine q_jumpG ?_
          | refine q_blockO rfl ?_
          | (apply w_op rfl
             · simp [e0, e3, e4, hlt, hk2, hk1, hw]
               first | rfl | exact ⟨‹_›, rfl⟩)
          | (refine w_condT ?_ ?_
             · simp [e0, e3, e4, hlt, hk2, hk1, hw]
               done)
          | (refine w_condF ?_ ?_
             · simp [e0, e3, e4, hlt, hk2, hk1, hw]
               done)
          | (apply w_opT rfl
             · simp [e0, e3, e4, hlt, hk2, hk1, hw]
               done
             · simp [e0, e3, e4, hlt, hk2, hk1, hw]
               rfl)
          | (refine w_opF ?_ ?_
             · simp [e0, e3, e4, hlt, hk2, hk1, hw]
               done))
        refine ⟨_, ?_, i + 1, by omega, rfl, ?_⟩
        · omega
        · simp [e0, e3, e4, hw, hn2]
  · have hie : i = l.length := by omega
    subst hie
    rw [List.take_length] at e3
    repeat (first
      | refine w_seq ?_
      | refine w_region ?_
      | refine w_draw0 ?_
      | refine w_nil ?_
      | refine q_then ?_
      | refine w_skip ?_
      | refine w_ret ?_
      | refine w_block ?_
      | refine w_scope ?_
      | refine w_label ?_
      | refine q_thenR ?_
      | refine q_blockR ?_
      | refine q_blockN ?_
      | refine w_exit ?_
      | refine q_thenE ?_
      | refine q_blockE ?_
      | refine w_scope1 ?_
      | refine w_goto ?_
      | refine q_thenG ?_
      | refine q_blockG ?_
      | refine q_ngN ?_
      | refine q_ngR ?_
      | refine q_ngE ?_
      | refine q_jumpN ?_
      | refine q_jumpR ?_
      | refine q_jumpE ?_
      | refine q_jumpG ?_
      | refine q_blockO rfl ?_
      | (apply w_op rfl
         · simp [e0, e3, e4]
           first | rfl | exact ⟨‹_›, rfl⟩)
      | (refine w_condT ?_ ?_
         · simp [e0, e3, e4]
           done)
      | (refine w_condF ?_ ?_
         · simp [e0, e3, e4]
           done)
      | (apply w_opT rfl
         · simp [e0, e3, e4]
           done
         · simp [e0, e3, e4]
           rfl)
      | (refine w_opF ?_ ?_
         · simp [e0, e3, e4]
           done))
    simp [Fin, e3]

end Go.V

