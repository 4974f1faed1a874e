/- Paths, as the document has them. -/
import Derived.Test.YtglmbheeplndpaaAP3
set_option linter.all false
set_option linter.unusedSimpArgs false
set_option linter.unusedVariables false
namespace Go.V
open Go Go.Proofs

structure Seg where
  kind : Int
  nums : List Int
  deriving DecidableEq

abbrev Seg.ds (s : Seg) : List D := [.v (.int .i64 s.kind), .sl (u32s s.nums)]
def segs (l : List Seg) : List (List D) := l.map Seg.ds

@[simp] theorem segs_len (l : List Seg) : (segs l).length = l.length := by simp [segs]
@[simp] theorem segs_get (l : List Seg) (i : Nat) (h : i < (segs l).length) : (segs l)[i] = (l[i]'(by simpa using h)).ds := by simp [segs]
@[simp] theorem segs_nil : segs [] = [] := rfl
theorem segs_append (a b : List Seg) : segs (a ++ b) = segs a ++ segs b := by simp [segs]
theorem segs_take (a : List Seg) (n : Nat) : (segs a).take n = segs (a.take n) := by simp [segs]
theorem segs_drop (a : List Seg) (n : Nat) : (segs a).drop n = segs (a.drop n) := by simp [segs]
theorem segs_mem (l : List Seg) : ∀ x ∈ segs l, x.length = 2 := by
  intro x hx
  obtain ⟨n, _, rfl⟩ := List.mem_map.1 hx
  rfl
@[simp] theorem segs_all (l : List Seg) : (∀ x, x ∈ segs l → x.length = 2) ↔ True := ⟨fun _ => trivial, fun _ => segs_mem l⟩

/-- How long a list of pieces, and each of them, may be. -/
def small (l : List Seg) (n m : Nat) : Prop := l.length ≤ n ∧ ∀ s ∈ l, s.nums.length ≤ m

theorem pc_Few4 (l : List Seg) (hl : l.length ≤ 140737488355328) (hs : ∀ s ∈ l, s.nums.length ≤ 35184372088832) :
    PC Try.prog 33 [vsl (segs l)] (tab []) (.c (.osl 65 2 (segs ((l.take 12).map fun s => ⟨s.kind, s.nums.take 300⟩)))) (tab []) := by
  refine F_l04_Few.pc0 (by simp) ?_
  unfold c_l04_Few
  repeat (first
    | refine w_seq ?_
    | refine w_region ?_
    | refine w_draw0 ?_
    | refine w_nil ?_
    | refine q_then ?_
    | refine w_skip ?_
    | refine w_ret ?_
    | refine w_block ?_
    | refine w_scope ?_
    | refine w_label ?_
    | refine q_thenR ?_
    | refine q_blockR ?_
    | refine q_blockN ?_
    | refine w_exit ?_
    | refine q_thenE ?_
    | refine q_blockE ?_
    | refine w_scope1 ?_
    | refine w_goto ?_
    | refine q_thenG ?_
    | refine q_blockG ?_
    | refine q_ngN ?_
    | refine q_ngR ?_
    | refine q_ngE ?_
    | refine q_jumpN ?_
    | refine q_jumpR ?_
    | refine q_jumpE ?_
    | refine q_jumpG ?_
    | refine q_blockO rfl ?_
    | (apply w_op rfl
       · simp 
         first | rfl | exact ⟨‹_›, rfl⟩)
    | (refine w_condT ?_ ?_
       · simp 
         done)
    | (refine w_condF ?_ ?_
       · simp 
         done)
    | (apply w_opT rfl
       · simp 
         done
       · simp 
         rfl)
    | (refine w_opF ?_ ?_
       · simp 
         done))
  refine w_loop (fun k st => ∃ i : Nat, i ≤ l.length ∧ i ≤ 12 ∧ k = 12 - i ∧ st.env 0 = vsl (segs l) ∧ st.env 3 = .c (.osl 65 2 (segs ((l.take i).map fun s => ⟨s.kind, s.nums.take 300⟩))) ∧ st.env 4 = vi64 i) 12 ?_ ?_
  · exact ⟨0, by simp⟩
  rintro k st ⟨i, hi, hi12, rfl, e0, e3, e4⟩
  by_cases hlt : i < l.length
  · by_cases h12 : i < 12
    · have hw : IntKind.i64.wrap (i + 1 : Int) = i + 1 := wrap64 (by omega) (by omega)
      have hf := pc_Few2 l[i].nums 300 (hs _ (List.getElem_mem hlt))
      have hn : (l.take (i + 1)).map (fun s : Seg => (⟨s.kind, s.nums.take 300⟩ : Seg)) = (l.take i).map (fun s => ⟨s.kind, s.nums.take 300⟩) ++ [⟨l[i].kind, l[i].nums.take 300⟩] := by
        rw [← List.take_append_getElem hlt, List.map_append]
        rfl
      have hlen : ((l.take i).map (fun s : Seg => (⟨s.kind, s.nums.take 300⟩ : Seg))).length = i := by simp; omega
      generalize (l.take i).map (fun s : Seg => (⟨s.kind, s.nums.take 300⟩ : Seg)) = acc at e3 hn hlen
      have hb : (acc.length + 1) * 32 ≤ 140737488355328 := by omega
      have hi64 : (i : Int) < 12 := by omega
      repeat (first
        | refine w_seq ?_
        | refine w_region ?_
        | refine w_draw0 ?_
        | refine w_nil ?_
        | refine q_then ?_
        | refine w_skip ?_
        | refine w_ret ?_
        | refine w_block ?_
        | refine w_scope ?_
        | refine w_label ?_
        | refine q_thenR ?_
        | refine q_blockR ?_
        | refine q_blockN ?_
        | refine w_exit ?_
        | refine q_thenE ?_
        | refine q_blockE ?_
        | refine w_scope1 ?_
        | refine w_goto ?_
        | refine q_thenG ?_
        | refine q_blockG ?_
        | refine q_ngN ?_
        | refine q_ngR ?_
        | refine q_ngE ?_
        | refine q_jumpN ?_
        | refine q_jumpR ?_
        | refine q_jumpE ?_
        | refine q_jumpG ?_
        | refine q_blockO rfl ?_
        | (apply w_op rfl
           · simp [e0, e3, e4, hlt, h12, hi64]
             first | rfl | exact ⟨‹_›, rfl⟩)
        | (refine w_condT ?_ ?_
           · simp [e0, e3, e4, hlt, h12, hi64]
             done)
        | (refine w_condF ?_ ?_
           · simp [e0, e3, e4, hlt, h12, hi64]
             done)
        | (apply w_opT rfl
           · simp [e0, e3, e4, hlt, h12, hi64]
             done
           · simp [e0, e3, e4, hlt, h12, hi64]
             rfl)
        | (refine w_opF ?_ ?_
           · simp [e0, e3, e4, hlt, h12, hi64]
             done))
      refine w_draw ?_
      repeat (first
        | refine w_dnil ?_
        | (apply d_op rfl
           · simp [e0, e3, e4, hlt, h12]
             first | rfl | exact ⟨‹_›, rfl⟩)
        | (apply d_opT rfl
           · simp [e0, e3, e4, hlt, h12]
             done
           · simp [e0, e3, e4, hlt, h12]
             rfl)
        | (refine d_opF ?_ ?_
           · simp [e0, e3, e4, hlt, h12]
             done))
      apply d_call0 (hc := by kernel_rfl) (pc := hf)
      · simp [e0, e3, e4, hlt]
      · (simp [e0, e3, e4, hlt]; rfl)
      repeat (first
        | refine w_dnil ?_
        | (apply d_op rfl
           · simp [e0, e3, e4, hlt, h12, hb]
             first | rfl | exact ⟨‹_›, rfl⟩)
        | (apply d_opT rfl
           · simp [e0, e3, e4, hlt, h12, hb]
             done
           · simp [e0, e3, e4, hlt, h12, hb]
             rfl)
        | (refine d_opF ?_ ?_
           · simp [e0, e3, e4, hlt, h12, hb]
             done))
      refine ⟨by simp, ?_⟩
      repeat (first
        | refine w_seq ?_
        | refine w_region ?_
        | refine w_draw0 ?_
        | refine w_nil ?_
        | refine q_then ?_
        | refine w_skip ?_
        | refine w_ret ?_
        | refine w_block ?_
        | refine w_scope ?_
        | refine w_label ?_
        | refine q_thenR ?_
        | refine q_blockR ?_
        | refine q_blockN ?_
        | refine w_exit ?_
        | refine q_thenE ?_
        | refine q_blockE ?_
        | refine w_scope1 ?_
        | refine w_goto ?_
        | refine q_thenG ?_
        | refine q_blockG ?_
        | refine q_ngN ?_
        | refine q_ngR ?_
        | refine q_ngE ?_
        | refine q_jumpN ?_
        | refine q_jumpR ?_
        | refine q_jumpE ?_
        | refine q_jumpG ?_
        | refine q_blockO rfl ?_
        | (apply w_op rfl
           · simp [e0, e3, e4, hlt, hw]
             first | rfl | exact ⟨‹_›, rfl⟩)
        | (refine w_condT ?_ ?_
           · simp [e0, e3, e4, hlt, hw]
             done)
        | (refine w_condF ?_ ?_
           · simp [e0, e3, e4, hlt, hw]
             done)
        | (apply w_opT rfl
           · simp [e0, e3, e4, hlt, hw]
             done
           · simp [e0, e3, e4, hlt, hw]
             rfl)
        | (refine w_opF ?_ ?_
           · simp [e0, e3, e4, hlt, hw]
             done))
      refine ⟨_, ?_, i + 1, by omega, by omega, rfl, ?_⟩
      · omega
      · simp [e0, e3, e4, hw, hn, segs_append]
        simp [segs]
    · have hi64 : ¬ (i : Int) < 12 := by omega
      have hie : l.take i = l.take 12 := by rw [show i = 12 by omega]
      rw [hie] at e3
      repeat (first
        | refine w_seq ?_
        | refine w_region ?_
        | refine w_draw0 ?_
        | refine w_nil ?_
        | refine q_then ?_
        | refine w_skip ?_
        | refine w_ret ?_
        | refine w_block ?_
        | refine w_scope ?_
        | refine w_label ?_
        | refine q_thenR ?_
        | refine q_blockR ?_
        | refine q_blockN ?_
        | refine w_exit ?_
        | refine q_thenE ?_
        | refine q_blockE ?_
        | refine w_scope1 ?_
        | refine w_goto ?_
        | refine q_thenG ?_
        | refine q_blockG ?_
        | refine q_ngN ?_
        | refine q_ngR ?_
        | refine q_ngE ?_
        | refine q_jumpN ?_
        | refine q_jumpR ?_
        | refine q_jumpE ?_
        | refine q_jumpG ?_
        | refine q_blockO rfl ?_
        | (apply w_op rfl
           · simp [e0, e3, e4, hlt, hi64]
             first | rfl | exact ⟨‹_›, rfl⟩)
        | (refine w_condT ?_ ?_
           · simp [e0, e3, e4, hlt, hi64]
             done)
        | (refine w_condF ?_ ?_
           · simp [e0, e3, e4, hlt, hi64]
             done)
        | (apply w_opT rfl
           · simp [e0, e3, e4, hlt, hi64]
             done
           · simp [e0, e3, e4, hlt, hi64]
             rfl)
        | (refine w_opF ?_ ?_
           · simp [e0, e3, e4, hlt, hi64]
             done))
      simp [Fin, e3]
  · have hie : i = l.length := by omega
    have h12 : l.take 12 = l := List.take_of_length_le (by omega)
    subst hie
    rw [List.take_length] at e3
    repeat (first
      | refine w_seq ?_
      | refine w_region ?_
      | refine w_draw0 ?_
      | refine w_nil ?_
      | refine q_then ?_
      | refine w_skip ?_
      | refine w_ret ?_
      | refine w_block ?_
      | refine w_scope ?_
      | refine w_label ?_
      | refine q_thenR ?_
      | refine q_blockR ?_
      | refine q_blockN ?_
      | refine w_exit ?_
      | refine q_thenE ?_
      | refine q_blockE ?_
      | refine w_scope1 ?_
      | refine w_goto ?_
      | refine q_thenG ?_
      | refine q_blockG ?_
      | refine q_ngN ?_
      | refine q_ngR ?_
      | refine q_ngE ?_
      | refine q_jumpN ?_
      | refine q_jumpR ?_
      | refine q_jumpE ?_
      | refine q_jumpG ?_
      | refine q_blockO rfl ?_
      | (apply w_op rfl
         · simp [e0, e3, e4]
           first | rfl | exact ⟨‹_›, rfl⟩)
      | (refine w_condT ?_ ?_
         · simp [e0, e3, e4]
           done)
      | (refine w_condF ?_ ?_
         · simp [e0, e3, e4]
           done)
      | (apply w_opT rfl
         · simp [e0, e3, e4]
           done
         · simp [e0, e3, e4]
           rfl)
      | (refine w_opF ?_ ?_
         · simp [e0, e3, e4]
           done))
    simp [Fin, e3, h12]

theorem pc_Same4 (xs ys : List Seg) (hb : xs.length ≤ 140737488355328) (hs : ∀ s ∈ xs, s.nums.length ≤ 140737488355328) : PC Try.prog 14 [vsl (segs xs), vsl (segs ys)] (tab []) (vb (decide (xs = ys))) (tab []) := by
  refine F_r04_Same.pc0 (by simp) ?_
  unfold c_r04_Same
  by_cases hl : xs.length = ys.length
  · have hl2 : ((xs.length : Int) != ys.length) = false := by simp [hl]
    repeat (first
      | refine w_seq ?_
      | refine w_region ?_
      | refine w_draw0 ?_
      | refine w_nil ?_
      | refine q_then ?_
      | refine w_skip ?_
      | refine w_ret ?_
      | refine w_block ?_
      | refine w_scope ?_
      | refine w_label ?_
      | refine q_thenR ?_
      | refine q_blockR ?_
      | refine q_blockN ?_
      | refine w_exit ?_
      | refine q_thenE ?_
      | refine q_blockE ?_
      | refine w_scope1 ?_
      | refine w_goto ?_
      | refine q_thenG ?_
      | refine q_blockG ?_
      | refine q_ngN ?_
      | refine q_ngR ?_
      | refine q_ngE ?_
      | refine q_jumpN ?_
      | refine q_jumpR ?_
      | refine q_jumpE ?_
      | refine q_jumpG ?_
      | refine q_blockO rfl ?_
      | (apply w_op rfl
         · simp [hl2, hl]
           first | rfl | exact ⟨‹_›, rfl⟩)
      | (refine w_condT ?_ ?_
         · simp [hl2, hl]
           done)
      | (refine w_condF ?_ ?_
         · simp [hl2, hl]
           done)
      | (apply w_opT rfl
         · simp [hl2, hl]
           done
         · simp [hl2, hl]
           rfl)
      | (refine w_opF ?_ ?_
         · simp [hl2, hl]
           done))
    refine w_loop (fun k st => ∃ i : Nat, i ≤ xs.length ∧ k = xs.length - i ∧ st.env 0 = vsl (segs xs) ∧ st.env 1 = vsl (segs ys) ∧ st.env 5 = vi64 i ∧ xs.take i = ys.take i) xs.length ?_ ?_
    · exact ⟨0, by simp⟩
    rintro k st ⟨i, hi, rfl, e0, e1, e5, hp⟩
    by_cases hlt : i < xs.length
    · have hlt2 : i < ys.length := by omega
      have hw : IntKind.i64.wrap (i + 1 : Int) = i + 1 := wrap64 (by omega) (by omega)
      have hc := pc_Same2 xs[i].nums ys[i].nums (hs _ (List.getElem_mem hlt))
      cases he : (xs[i].kind != ys[i].kind) with
      | true =>
        have hne : ¬ xs = ys := by
          rintro rfl
          simp at he
        repeat (first
          | refine w_seq ?_
          | refine w_region ?_
          | refine w_draw0 ?_
          | refine w_nil ?_
          | refine q_then ?_
          | refine w_skip ?_
          | refine w_ret ?_
          | refine w_block ?_
          | refine w_scope ?_
          | refine w_label ?_
          | refine q_thenR ?_
          | refine q_blockR ?_
          | refine q_blockN ?_
          | refine w_exit ?_
          | refine q_thenE ?_
          | refine q_blockE ?_
          | refine w_scope1 ?_
          | refine w_goto ?_
          | refine q_thenG ?_
          | refine q_blockG ?_
          | refine q_ngN ?_
          | refine q_ngR ?_
          | refine q_ngE ?_
          | refine q_jumpN ?_
          | refine q_jumpR ?_
          | refine q_jumpE ?_
          | refine q_jumpG ?_
          | refine q_blockO rfl ?_
          | (apply w_op rfl
             · simp [e0, e1, e5, hlt, hlt2, hw, he]
               first | rfl | exact ⟨‹_›, rfl⟩)
          | (refine w_condT ?_ ?_
             · simp [e0, e1, e5, hlt, hlt2, hw, he]
               done)
          | (refine w_condF ?_ ?_
             · simp [e0, e1, e5, hlt, hlt2, hw, he]
               done)
          | (apply w_opT rfl
             · simp [e0, e1, e5, hlt, hlt2, hw, he]
               done
             · simp [e0, e1, e5, hlt, hlt2, hw, he]
               rfl)
          | (refine w_opF ?_ ?_
             · simp [e0, e1, e5, hlt, hlt2, hw, he]
               done))
        simp [Fin, hne]
      | false =>
        have hk : xs[i].kind = ys[i].kind := by simpa using he
        by_cases ha : xs[i].nums = ys[i].nums
        · have heq : xs[i] = ys[i] := by
            cases hx : xs[i]; cases hy : ys[i]
            rw [hx, hy] at hk ha
            simp only at hk ha
            rw [hk, ha]
          have hp2 : xs.take (i + 1) = ys.take (i + 1) := by
            rw [← List.take_append_getElem hlt, ← List.take_append_getElem hlt2, hp, heq]
          repeat (first
            | refine w_seq ?_
            | refine w_region ?_
            | refine w_draw0 ?_
            | refine w_nil ?_
            | refine q_then ?_
            | refine w_skip ?_
            | refine w_ret ?_
            | refine w_block ?_
            | refine w_scope ?_
            | refine w_label ?_
            | refine q_thenR ?_
            | refine q_blockR ?_
            | refine q_blockN ?_
            | refine w_exit ?_
            | refine q_thenE ?_
            | refine q_blockE ?_
            | refine w_scope1 ?_
            | refine w_goto ?_
            | refine q_thenG ?_
            | refine q_blockG ?_
            | refine q_ngN ?_
            | refine q_ngR ?_
            | refine q_ngE ?_
            | refine q_jumpN ?_
            | refine q_jumpR ?_
            | refine q_jumpE ?_
            | refine q_jumpG ?_
            | refine q_blockO rfl ?_
            | (apply w_op rfl
               · simp [e0, e1, e5, hlt, hlt2, hw, he]
                 first | rfl | exact ⟨‹_›, rfl⟩)
            | (refine w_condT ?_ ?_
               · simp [e0, e1, e5, hlt, hlt2, hw, he]
                 done)
            | (refine w_condF ?_ ?_
               · simp [e0, e1, e5, hlt, hlt2, hw, he]
                 done)
            | (apply w_opT rfl
               · simp [e0, e1, e5, hlt, hlt2, hw, he]
                 done
               · simp [e0, e1, e5, hlt, hlt2, hw, he]
                 rfl)
            | (refine w_opF ?_ ?_
               · simp [e0, e1, e5, hlt, hlt2, hw, he]
                 done))
          apply w_call0T (hc := by kernel_rfl) (pc := hc)
          · simp [e0, e1, e5, hlt, hlt2, hw, he]
          · simp [e0, e1, e5, hlt, hlt2, hw, he]
          · (simp [e0, e1, e5, hlt, hlt2, hw, he]; rfl)
          repeat (first
            | refine w_seq ?_
            | refine w_region ?_
            | refine w_draw0 ?_
            | refine w_nil ?_
            | refine q_then ?_
            | refine w_skip ?_
            | refine w_ret ?_
            | refine w_block ?_
            | refine w_scope ?_
            | refine w_label ?_
            | refine q_thenR ?_
            | refine q_blockR ?_
            | refine q_blockN ?_
            | refine w_exit ?_
            | refine q_thenE ?_
            | refine q_blockE ?_
            | refine w_scope1 ?_
            | refine w_goto ?_
            | refine q_thenG ?_
            | refine q_blockG ?_
            | refine q_ngN ?_
            | refine q_ngR ?_
            | refine q_ngE ?_
            | refine q_jumpN ?_
            | refine q_jumpR ?_
            | refine q_jumpE ?_
            | refine q_jumpG ?_
            | refine q_blockO rfl ?_
            | (apply w_op rfl
               · simp [e0, e1, e5, hlt, hlt2, hw, he, ha]
                 first | rfl | exact ⟨‹_›, rfl⟩)
            | (refine w_condT ?_ ?_
               · simp [e0, e1, e5, hlt, hlt2, hw, he, ha]
                 done)
            | (refine w_condF ?_ ?_
               · simp [e0, e1, e5, hlt, hlt2, hw, he, ha]
                 done)
            | (apply w_opT rfl
               · simp [e0, e1, e5, hlt, hlt2, hw, he, ha]
                 done
               · simp [e0, e1, e5, hlt, hlt2, hw, he, ha]
                 rfl)
            | (refine w_opF ?_ ?_
               · simp [e0, e1, e5, hlt, hlt2, hw, he, ha]
                 done))
          refine ⟨_, ?_, i + 1, by omega, rfl, ?_⟩
          · omega
          · simp [e0, e1, e5, hw, hp2]
        · have hne : ¬ xs = ys := by
            rintro rfl
            exact ha rfl
          repeat (first
            | refine w_seq ?_
            | refine w_region ?_
            | refine w_draw0 ?_
            | refine w_nil ?_
            | refine q_then ?_
            | refine w_skip ?_
            | refine w_ret ?_
            | refine w_block ?_
            | refine w_scope ?_
            | refine w_label ?_
            | refine q_thenR ?_
            | refine q_blockR ?_
            | refine q_blockN ?_
            | refine w_exit ?_
            | refine q_thenE ?_
            | refine q_blockE ?_
            | refine w_scope1 ?_
            | refine w_goto ?_
            | refine q_thenG ?_
            | refine q_blockG ?_
            | refine q_ngN ?_
            | refine q_ngR ?_
            | refine q_ngE ?_
            | refine q_jumpN ?_
            | refine q_jumpR ?_
            | refine q_jumpE ?_
            | refine q_jumpG ?_
            | refine q_blockO rfl ?_
            | (apply w_op rfl
               · simp [e0, e1, e5, hlt, hlt2, hw, he]
                 first | rfl | exact ⟨‹_›, rfl⟩)
            | (refine w_condT ?_ ?_
               · simp [e0, e1, e5, hlt, hlt2, hw, he]
                 done)
            | (refine w_condF ?_ ?_
               · simp [e0, e1, e5, hlt, hlt2, hw, he]
                 done)
            | (apply w_opT rfl
               · simp [e0, e1, e5, hlt, hlt2, hw, he]
                 done
               · simp [e0, e1, e5, hlt, hlt2, hw, he]
                 rfl)
            | (refine w_opF ?_ ?_
               · simp [e0, e1, e5, hlt, hlt2, hw, he]
                 done))
          apply w_call0T (hc := by kernel_rfl) (pc := hc)
          · simp [e0, e1, e5, hlt, hlt2, hw, he]
          · simp [e0, e1, e5, hlt, hlt2, hw, he]
          · (simp [e0, e1, e5, hlt, hlt2, hw, he]; rfl)
          repeat (first
            | refine w_seq ?_
            | refine w_region ?_
            | refine w_draw0 ?_
            | refine w_nil ?_
            | refine q_then ?_
            | refine w_skip ?_
            | refine w_ret ?_
            | refine w_block ?_
            | refine w_scope ?_
            | refine w_label ?_
            | refine q_thenR ?_
            | refine q_blockR ?_
            | refine q_blockN ?_
            | refine w_exit ?_
            | refine q_thenE ?_
            | refine q_blockE ?_
            | refine w_scope1 ?_
            | refine w_goto ?_
            | refine q_thenG ?_
            | refine q_blockG ?_
            | refine q_ngN ?_
            | refine q_ngR ?_
            | refine q_ngE ?_
            | refine q_jumpN ?_
            | refine q_jumpR ?_
            | refine q_jumpE ?_
            | refine q_jumpG ?_
            | refine q_blockO rfl ?_
            | (apply w_op rfl
               · simp [e0, e1, e5, hlt, hlt2, hw, he, ha]
                 first | rfl | exact ⟨‹_›, rfl⟩)
            | (refine w_condT ?_ ?_
               · simp [e0, e1, e5, hlt, hlt2, hw, he, ha]
                 done)
            | (refine w_condF ?_ ?_
               · simp [e0, e1, e5, hlt, hlt2, hw, he, ha]
                 done)
            | (apply w_opT rfl
               · simp [e0, e1, e5, hlt, hlt2, hw, he, ha]
                 done
               · simp [e0, e1, e5, hlt, hlt2, hw, he, ha]
                 rfl)
            | (refine w_opF ?_ ?_
               · simp [e0, e1, e5, hlt, hlt2, hw, he, ha]
                 done))
          simp [Fin, hne]
    · have hie : i = xs.length := by omega
      subst hie
      have heq : xs = ys := by
        rw [List.take_length] at hp
        rw [hp, hl, List.take_length]
      repeat (first
        | refine w_seq ?_
        | refine w_region ?_
        | refine w_draw0 ?_
        | refine w_nil ?_
        | refine q_then ?_
        | refine w_skip ?_
        | refine w_ret ?_
        | refine w_block ?_
        | refine w_scope ?_
        | refine w_label ?_
        | refine q_thenR ?_
        | refine q_blockR ?_
        | refine q_blockN ?_
        | refine w_exit ?_
        | refine q_thenE ?_
        | refine q_blockE ?_
        | refine w_scope1 ?_
        | refine w_goto ?_
        | refine q_thenG ?_
        | refine q_blockG ?_
        | refine q_ngN ?_
        | refine q_ngR ?_
        | refine q_ngE ?_
        | refine q_jumpN ?_
        | refine q_jumpR ?_
        | refine q_jumpE ?_
        | refine q_jumpG ?_
        | refine q_blockO rfl ?_
        | (apply w_op rfl
           · simp [e0, e1, e5]
             first | rfl | exact ⟨‹_›, rfl⟩)
        | (refine w_condT ?_ ?_
           · simp [e0, e1, e5]
             done)
        | (refine w_condF ?_ ?_
           · simp [e0, e1, e5]
             done)
        | (apply w_opT rfl
           · simp [e0, e1, e5]
             done
           · simp [e0, e1, e5]
             rfl)
        | (refine w_opF ?_ ?_
           · simp [e0, e1, e5]
             done))
      simp [Fin, heq]
  · have hl2 : ((xs.length : Int) != ys.length) = true := by simp; omega
    have hne : ¬ xs = ys := by rintro rfl; exact hl rfl
    repeat (first
      | refine w_seq ?_
      | refine w_region ?_
      | refine w_draw0 ?_
      | refine w_nil ?_
      | refine q_then ?_
      | refine w_skip ?_
      | refine w_ret ?_
      | refine w_block ?_
      | refine w_scope ?_
      | refine w_label ?_
      | refine q_thenR ?_
      | refine q_blockR ?_
      | refine q_blockN ?_
      | refine w_exit ?_
      | refine q_thenE ?_
      | refine q_blockE ?_
      | refine w_scope1 ?_
      | refine w_goto ?_
      | refine q_thenG ?_
      | refine q_blockG ?_
      | refine q_ngN ?_
      | refine q_ngR ?_
      | refine q_ngE ?_
      | refine q_jumpN ?_
      | refine q_jumpR ?_
      | refine q_jumpE ?_
      | refine q_jumpG ?_
      | refine q_blockO rfl ?_
      | (apply w_op rfl
         · simp [hl2]
           first | rfl | exact ⟨‹_›, rfl⟩)
      | (refine w_condT ?_ ?_
         · simp [hl2]
           done)
      | (refine w_condF ?_ ?_
         · simp [hl2]
           done)
      | (apply w_opT rfl
         · simp [hl2]
           done
         · simp [hl2]
           rfl)
      | (refine w_opF ?_ ?_
         · simp [hl2]
           done))
    simp [Fin, hne]

/-- The document's way to put a number behind a path. -/
def putR (l : List Seg) (n : Int) : List Seg :=
  match l.getLast? with
  | some s => if s.kind == 2 && decide (s.nums.length < 255) then l.dropLast ++ [⟨2, s.nums ++ [n]⟩] else l ++ [⟨2, [n]⟩]
  | none => [⟨2, [n]⟩]

theorem pc_put4 (l : List Seg) (n : Int) (hl : l.length ≤ 1000000) (hs : ∀ s ∈ l, s.nums.length ≤ 1000000) : PC Try.prog 77 [vsl (segs l), vu32 n] (tab []) (.c (.osl 65 2 (segs (putR l n)))) (tab []) := by
  refine F_r04_put.pc0 (by simp) ?_
  unfold c_r04_put
  have hw : IntKind.i64.wrap ((l.length : Int) - 1) = (l.length : Int) - 1 := wrap64 (by omega) (by omega)
  have h32 : l.length * 32 ≤ 140737488355328 := by omega
  have h32b : (l.length + 1) * 32 ≤ 140737488355328 := by omega
  by_cases h0 : l = []
  · subst h0
    have hw0 : IntKind.i64.wrap (-1) = -1 := by decide
    repeat (first
      | refine w_seq ?_
      | refine w_region ?_
      | refine w_draw0 ?_
      | refine w_nil ?_
      | refine q_then ?_
      | refine w_skip ?_
      | refine w_ret ?_
      | refine w_block ?_
      | refine w_scope ?_
      | refine w_label ?_
      | refine q_thenR ?_
      | refine q_blockR ?_
      | refine q_blockN ?_
      | refine w_exit ?_
      | refine q_thenE ?_
      | refine q_blockE ?_
      | refine w_scope1 ?_
      | refine w_goto ?_
      | refine q_thenG ?_
      | refine q_blockG ?_
      | refine q_ngN ?_
      | refine q_ngR ?_
      | refine q_ngE ?_
      | refine q_jumpN ?_
      | refine q_jumpR ?_
      | refine q_jumpE ?_
      | refine q_jumpG ?_
      | refine q_blockO rfl ?_
      | (apply w_op rfl
         · simp [hw0]
           first | rfl | exact ⟨‹_›, rfl⟩)
      | (refine w_condT ?_ ?_
         · simp [hw0]
           done)
      | (refine w_condF ?_ ?_
         · simp [hw0]
           done)
      | (apply w_opT rfl
         · simp [hw0]
           done
         · simp [hw0]
           rfl)
      | (refine w_opF ?_ ?_
         · simp [hw0]
           done))
    simp [Fin, putR, segs, u32s]
  · have hpos : 0 < l.length := List.length_pos_iff.2 h0
    obtain ⟨k, hk⟩ : ∃ k, l.length = k + 1 := ⟨l.length - 1, by omega⟩
    have hlast : l.getLast? = some (l[k]'(by omega)) := by rw [List.getLast?_eq_getElem?, show l.length - 1 = k by omega]; exact List.getElem?_eq_getElem (by omega)
    have hdrop : l.dropLast = l.take k := by rw [List.dropLast_eq_take, hk]; rfl
    have hklt : k < l.length := by omega
    have hkc : (l.length : Int) - 1 = (k : Int) := by omega
    have hk0 : (0 : Int) ≤ k := by omega
    have hsk := hs _ (List.getElem_mem hklt)
    rw [hkc] at hw
    by_cases hkind : l[k].kind = 2
    · by_cases hlen : l[k].nums.length < 255
      · have e : putR l n = l.take k ++ [⟨2, l[k].nums ++ [n]⟩] := by simp [putR, hlast, hdrop, hkind, hlen]
        have hlen2 : (l[k].nums.length : Int) < 255 := by omega
        have h4 : l[k].nums.length * 4 ≤ 140737488355328 := by omega
        have h5 : (l[k].nums.length + 1) * 4 ≤ 140737488355328 := by omega
        have h6 : k * 32 ≤ 140737488355328 := by omega
        have h7 : (k + 1) * 32 ≤ 140737488355328 := by omega
        have hkl : k ≤ l.length := by omega
        repeat (first
          | refine w_seq ?_
          | refine w_region ?_
          | refine w_draw0 ?_
          | refine w_nil ?_
          | refine q_then ?_
          | refine w_skip ?_
          | refine w_ret ?_
          | refine w_block ?_
          | refine w_scope ?_
          | refine w_label ?_
          | refine q_thenR ?_
          | refine q_blockR ?_
          | refine q_blockN ?_
          | refine w_exit ?_
          | refine q_thenE ?_
          | refine q_blockE ?_
          | refine w_scope1 ?_
          | refine w_goto ?_
          | refine q_thenG ?_
          | refine q_blockG ?_
          | refine q_ngN ?_
          | refine q_ngR ?_
          | refine q_ngE ?_
          | refine q_jumpN ?_
          | refine q_jumpR ?_
          | refine q_jumpE ?_
          | refine q_jumpG ?_
          | refine q_blockO rfl ?_
          | (apply w_op rfl
             · simp [hkc, hw, hk0, hklt, hkind, hlen2, h4, h5, h6, h7, hkl, segs_take]
               first | rfl | exact ⟨‹_›, rfl⟩)
          | (refine w_condT ?_ ?_
             · simp [hkc, hw, hk0, hklt, hkind, hlen2, h4, h5, h6, h7, hkl, segs_take]
               done)
          | (refine w_condF ?_ ?_
             · simp [hkc, hw, hk0, hklt, hkind, hlen2, h4, h5, h6, h7, hkl, segs_take]
               done)
          | (apply w_opT rfl
             · simp [hkc, hw, hk0, hklt, hkind, hlen2, h4, h5, h6, h7, hkl, segs_take]
               done
             · simp [hkc, hw, hk0, hklt, hkind, hlen2, h4, h5, h6, h7, hkl, segs_take]
               rfl)
          | (refine w_opF ?_ ?_
             · simp [hkc, hw, hk0, hklt, hkind, hlen2, h4, h5, h6, h7, hkl, segs_take]
               done))
        simp [Fin, e, segs_append]
        simp [segs, u32s]
      · have e : putR l n = l ++ [⟨2, [n]⟩] := by simp [putR, hlast, hkind, hlen]
        have hlen2 : ¬ (l[k].nums.length : Int) < 255 := by omega
        repeat (first
          | refine w_seq ?_
          | refine w_region ?_
          | refine w_draw0 ?_
          | refine w_nil ?_
          | refine q_then ?_
          | refine w_skip ?_
          | refine w_ret ?_
          | refine w_block ?_
          | refine w_scope ?_
          | refine w_label ?_
          | refine q_thenR ?_
          | refine q_blockR ?_
          | refine q_blockN ?_
          | refine w_exit ?_
          | refine q_thenE ?_
          | refine q_blockE ?_
          | refine w_scope1 ?_
          | refine w_goto ?_
          | refine q_thenG ?_
          | refine q_blockG ?_
          | refine q_ngN ?_
          | refine q_ngR ?_
          | refine q_ngE ?_
          | refine q_jumpN ?_
          | refine q_jumpR ?_
          | refine q_jumpE ?_
          | refine q_jumpG ?_
          | refine q_blockO rfl ?_
          | (apply w_op rfl
             · simp [hkc, hw, hk0, hklt, hkind, hlen2, h32, h32b]
               first | rfl | exact ⟨‹_›, rfl⟩)
          | (refine w_condT ?_ ?_
             · simp [hkc, hw, hk0, hklt, hkind, hlen2, h32, h32b]
               done)
          | (refine w_condF ?_ ?_
             · simp [hkc, hw, hk0, hklt, hkind, hlen2, h32, h32b]
               done)
          | (apply w_opT rfl
             · simp [hkc, hw, hk0, hklt, hkind, hlen2, h32, h32b]
               done
             · simp [hkc, hw, hk0, hklt, hkind, hlen2, h32, h32b]
               rfl)
          | (refine w_opF ?_ ?_
             · simp [hkc, hw, hk0, hklt, hkind, hlen2, h32, h32b]
               done))
        simp [Fin, e, segs_append]
        simp [segs, u32s]
    · have e : putR l n = l ++ [⟨2, [n]⟩] := by simp [putR, hlast, hkind]
      repeat (first
        | refine w_seq ?_
        | refine w_region ?_
        | refine w_draw0 ?_
        | refine w_nil ?_
        | refine q_then ?_
        | refine w_skip ?_
        | refine w_ret ?_
        | refine w_block ?_
        | refine w_scope ?_
        | refine w_label ?_
        | refine q_thenR ?_
        | refine q_blockR ?_
        | refine q_blockN ?_
        | refine w_exit ?_
        | refine q_thenE ?_
        | refine q_blockE ?_
        | refine w_scope1 ?_
        | refine w_goto ?_
        | refine q_thenG ?_
        | refine q_blockG ?_
        | refine q_ngN ?_
        | refine q_ngR ?_
        | refine q_ngE ?_
        | refine q_jumpN ?_
        | refine q_jumpR ?_
        | refine q_jumpE ?_
        | refine q_jumpG ?_
        | refine q_blockO rfl ?_
        | (apply w_op rfl
           · simp [hkc, hw, hk0, hklt, hkind, h32, h32b]
             first | rfl | exact ⟨‹_›, rfl⟩)
        | (refine w_condT ?_ ?_
           · simp [hkc, hw, hk0, hklt, hkind, h32, h32b]
             done)
        | (refine w_condF ?_ ?_
           · simp [hkc, hw, hk0, hklt, hkind, h32, h32b]
             done)
        | (apply w_opT rfl
           · simp [hkc, hw, hk0, hklt, hkind, h32, h32b]
             done
           · simp [hkc, hw, hk0, hklt, hkind, h32, h32b]
             rfl)
        | (refine w_opF ?_ ?_
           · simp [hkc, hw, hk0, hklt, hkind, h32, h32b]
             done))
      simp [Fin, e, segs_append]
      simp [segs, u32s]

end Go.V

