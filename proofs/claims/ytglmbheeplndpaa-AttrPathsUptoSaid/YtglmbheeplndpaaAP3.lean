/- Sets of numbers and paths, as the document has them. -/
import Derived.Test.YtglmbheeplndpaaAP2
set_option linter.all false
set_option linter.unusedSimpArgs false
set_option linter.unusedVariables false
namespace Go.V
open Go Go.Proofs

theorem takeWhile_at {l : List Int} {p : Int → Bool} {i : Nat} (hi : i ≤ l.length) (h : ∀ x ∈ l.take i, p x = true) (he : ∀ (hl : i < l.length), p l[i] = false) : l.takeWhile p = l.take i ∧ l.dropWhile p = l.drop i := by
  induction l generalizing i with
  | nil => simp
  | cons x r ih =>
    cases i with
    | zero =>
      have := he (by simp)
      simp only [List.getElem_cons_zero] at this
      simp [this]
    | succ i =>
      have hx : p x = true := h x (by simp)
      have := @ih i (by simpa using hi) (fun y hy => h y (by simp [hy])) (fun hl => by have := he (by simpa using hl); rwa [List.getElem_cons_succ] at this)
      simp [hx, this.1, this.2]

theorem pc_Put2 (xs : List Int) (n : Int) (hb : xs.length ≤ 1000000) : PC Try.prog 78 [vsl (u32s xs), vu32 n] (tab []) (vsl (u32s (putS xs n))) (tab []) := by
  have hh := pc_Has2 xs n (by omega)
  refine F_r02_Put.pc0 (by simp) ?_
  unfold c_r02_Put
  cases hc : xs.contains n with
  | true =>
    have e : putS xs n = xs := by simp only [putS, hc, if_true]
    rw [hc] at hh
    repeat (first
      | refine w_seq ?_
      | refine w_region ?_
      | refine w_draw0 ?_
      | refine w_nil ?_
      | refine q_then ?_
      | refine w_skip ?_
      | refine w_ret ?_
      | refine w_block ?_
      | refine w_scope ?_
      | refine w_label ?_
      | refine q_thenR ?_
      | refine q_blockR ?_
      | refine q_blockN ?_
      | refine w_exit ?_
      | refine q_thenE ?_
      | refine q_blockE ?_
      | refine w_scope1 ?_
      | refine w_goto ?_
      | refine q_thenG ?_
      | refine q_blockG ?_
      | refine q_ngN ?_
      | refine q_ngR ?_
      | refine q_ngE ?_
      | refine q_jumpN ?_
      | refine q_jumpR ?_
      | refine q_jumpE ?_
      | refine q_jumpG ?_
      | refine q_blockO rfl ?_
      | (apply w_op rfl
         · simp 
           first | rfl | exact ⟨‹_›, rfl⟩)
      | (refine w_condT ?_ ?_
         · simp 
           done)
      | (refine w_condF ?_ ?_
         · simp 
           done)
      | (apply w_opT rfl
         · simp 
           done
         · simp 
           rfl)
      | (refine w_opF ?_ ?_
         · simp 
           done))
    apply w_call0 (hc := by kernel_rfl) (pc := hh)
    · simp 
    · (simp ; rfl)
    repeat (first
      | refine w_seq ?_
      | refine w_region ?_
      | refine w_draw0 ?_
      | refine w_nil ?_
      | refine q_then ?_
      | refine w_skip ?_
      | refine w_ret ?_
      | refine w_block ?_
      | refine w_scope ?_
      | refine w_label ?_
      | refine q_thenR ?_
      | refine q_blockR ?_
      | refine q_blockN ?_
      | refine w_exit ?_
      | refine q_thenE ?_
      | refine q_blockE ?_
      | refine w_scope1 ?_
      | refine w_goto ?_
      | refine q_thenG ?_
      | refine q_blockG ?_
      | refine q_ngN ?_
      | refine q_ngR ?_
      | refine q_ngE ?_
      | refine q_jumpN ?_
      | refine q_jumpR ?_
      | refine q_jumpE ?_
      | refine q_jumpG ?_
      | refine q_blockO rfl ?_
      | (apply w_op rfl
         · simp 
           first | rfl | exact ⟨‹_›, rfl⟩)
      | (refine w_condT ?_ ?_
         · simp 
           done)
      | (refine w_condF ?_ ?_
         · simp 
           done)
      | (apply w_opT rfl
         · simp 
           done
         · simp 
           rfl)
      | (refine w_opF ?_ ?_
         · simp 
           done))
    simp [Fin, e]
  | false =>
    rw [hc] at hh
    repeat (first
      | refine w_seq ?_
      | refine w_region ?_
      | refine w_draw0 ?_
      | refine w_nil ?_
      | refine q_then ?_
      | refine w_skip ?_
      | refine w_ret ?_
      | refine w_block ?_
      | refine w_scope ?_
      | refine w_label ?_
      | refine q_thenR ?_
      | refine q_blockR ?_
      | refine q_blockN ?_
      | refine w_exit ?_
      | refine q_thenE ?_
      | refine q_blockE ?_
      | refine w_scope1 ?_
      | refine w_goto ?_
      | refine q_thenG ?_
      | refine q_blockG ?_
      | refine q_ngN ?_
      | refine q_ngR ?_
      | refine q_ngE ?_
      | refine q_jumpN ?_
      | refine q_jumpR ?_
      | refine q_jumpE ?_
      | refine q_jumpG ?_
      | refine q_blockO rfl ?_
      | (apply w_op rfl
         · simp 
           first | rfl | exact ⟨‹_›, rfl⟩)
      | (refine w_condT ?_ ?_
         · simp 
           done)
      | (refine w_condF ?_ ?_
         · simp 
           done)
      | (apply w_opT rfl
         · simp 
           done
         · simp 
           rfl)
      | (refine w_opF ?_ ?_
         · simp 
           done))
    apply w_call0 (hc := by kernel_rfl) (pc := hh)
    · simp 
    · (simp ; rfl)
    repeat (first
      | refine w_seq ?_
      | refine w_region ?_
      | refine w_draw0 ?_
      | refine w_nil ?_
      | refine q_then ?_
      | refine w_skip ?_
      | refine w_ret ?_
      | refine w_block ?_
      | refine w_scope ?_
      | refine w_label ?_
      | refine q_thenR ?_
      | refine q_blockR ?_
      | refine q_blockN ?_
      | refine w_exit ?_
      | refine q_thenE ?_
      | refine q_blockE ?_
      | refine w_scope1 ?_
      | refine w_goto ?_
      | refine q_thenG ?_
      | refine q_blockG ?_
      | refine q_ngN ?_
      | refine q_ngR ?_
      | refine q_ngE ?_
      | refine q_jumpN ?_
      | refine q_jumpR ?_
      | refine q_jumpE ?_
      | refine q_jumpG ?_
      | refine q_blockO rfl ?_
      | (apply w_op rfl
         · simp 
           first | rfl | exact ⟨‹_›, rfl⟩)
      | (refine w_condT ?_ ?_
         · simp 
           done)
      | (refine w_condF ?_ ?_
         · simp 
           done)
      | (apply w_opT rfl
         · simp 
           done
         · simp 
           rfl)
      | (refine w_opF ?_ ?_
         · simp 
           done))
    refine w_loop (fun k st => ∃ i : Nat, i ≤ xs.length ∧ k = xs.length - i ∧ st.env 0 = vsl (u32s xs) ∧ st.env 1 = vu32 n ∧ st.env 5 = vi64 i ∧ ∀ x ∈ xs.take i, x < n) xs.length ?_ ?_
    · exact ⟨0, by simp⟩
    rintro k st ⟨i, hi, rfl, e0, e1, e5, hp⟩
    have fin : (∀ (hl : i < xs.length), ¬ xs[i] < n) → putS xs n = xs.take i ++ n :: xs.drop i := by
      intro he
      obtain ⟨t1, t2⟩ := takeWhile_at (p := fun x => decide (x < n)) hi (fun x hx => by simpa using hp x hx) (fun hl => by simpa using he hl)
      simp only [putS, hc, t1, t2]
      simp
    by_cases hlt : i < xs.length
    · have hw : IntKind.i64.wrap (i + 1 : Int) = i + 1 := wrap64 (by omega) (by omega)
      by_cases hx : xs[i] < n
      · have hp2 : ∀ x ∈ xs.take (i + 1), x < n := by
          intro x hxm
          rw [← List.take_append_getElem hlt] at hxm
          rcases List.mem_append.1 hxm with h | h
          · exact hp x h
          · simp only [List.mem_singleton] at h; rw [h]; exact hx
        repeat (first
          | refine w_seq ?_
          | refine w_region ?_
          | refine w_draw0 ?_
          | refine w_nil ?_
          | refine q_then ?_
          | refine w_skip ?_
          | refine w_ret ?_
          | refine w_block ?_
          | refine w_scope ?_
          | refine w_label ?_
          | refine q_thenR ?_
          | refine q_blockR ?_
          | refine q_blockN ?_
          | refine w_exit ?_
          | refine q_thenE ?_
          | refine q_blockE ?_
          | refine w_scope1 ?_
          | refine w_goto ?_
          | refine q_thenG ?_
          | refine q_blockG ?_
          | refine q_ngN ?_
          | refine q_ngR ?_
          | refine q_ngE ?_
          | refine q_jumpN ?_
          | refine q_jumpR ?_
          | refine q_jumpE ?_
          | refine q_jumpG ?_
          | refine q_blockO rfl ?_
          | (apply w_op rfl
             · simp [e0, e1, e5, hlt, hx, hw]
               first | rfl | exact ⟨‹_›, rfl⟩)
          | (refine w_condT ?_ ?_
             · simp [e0, e1, e5, hlt, hx, hw]
               done)
          | (refine w_condF ?_ ?_
             · simp [e0, e1, e5, hlt, hx, hw]
               done)
          | (apply w_opT rfl
             · simp [e0, e1, e5, hlt, hx, hw]
               done
             · simp [e0, e1, e5, hlt, hx, hw]
               rfl)
          | (refine w_opF ?_ ?_
             · simp [e0, e1, e5, hlt, hx, hw]
               done))
        refine ⟨_, ?_, i + 1, by omega, rfl, ?_⟩
        · omega
        · simp only [app_env]
          simp [e0, e1, e5, hw]
          exact hp2
      · have h1 : (i : Nat) * 4 ≤ 140737488355328 := by omega
        have h2 : (i + 1) * 4 ≤ 140737488355328 := by omega
        have h3 : (i + 1 + (xs.length - i)) * 4 ≤ 140737488355328 := by omega
        have h4 : i ≤ xs.length := hi
        repeat (first
          | refine w_seq ?_
          | refine w_region ?_
          | refine w_draw0 ?_
          | refine w_nil ?_
          | refine q_then ?_
          | refine w_skip ?_
          | refine w_ret ?_
          | refine w_block ?_
          | refine w_scope ?_
          | refine w_label ?_
          | refine q_thenR ?_
          | refine q_blockR ?_
          | refine q_blockN ?_
          | refine w_exit ?_
          | refine q_thenE ?_
          | refine q_blockE ?_
          | refine w_scope1 ?_
          | refine w_goto ?_
          | refine q_thenG ?_
          | refine q_blockG ?_
          | refine q_ngN ?_
          | refine q_ngR ?_
          | refine q_ngE ?_
          | refine q_jumpN ?_
          | refine q_jumpR ?_
          | refine q_jumpE ?_
          | refine q_jumpG ?_
          | refine q_blockO rfl ?_
          | (apply w_op rfl
             · simp [e0, e1, e5, hlt, hx, hw, h1, h2, h3, h4, u32s_take, u32s_drop]
               first | rfl | exact ⟨‹_›, rfl⟩)
          | (refine w_condT ?_ ?_
             · simp [e0, e1, e5, hlt, hx, hw, h1, h2, h3, h4, u32s_take, u32s_drop]
               done)
          | (refine w_condF ?_ ?_
             · simp [e0, e1, e5, hlt, hx, hw, h1, h2, h3, h4, u32s_take, u32s_drop]
               done)
          | (apply w_opT rfl
             · simp [e0, e1, e5, hlt, hx, hw, h1, h2, h3, h4, u32s_take, u32s_drop]
               done
             · simp [e0, e1, e5, hlt, hx, hw, h1, h2, h3, h4, u32s_take, u32s_drop]
               rfl)
          | (refine w_opF ?_ ?_
             · simp [e0, e1, e5, hlt, hx, hw, h1, h2, h3, h4, u32s_take, u32s_drop]
               done))
        simp [Fin, fin (fun _ => hx), u32s]
    · have hie : i = xs.length := by omega
      have hf := fin (fun h => absurd h hlt)
      subst hie
      have h1 : xs.length * 4 ≤ 140737488355328 := by omega
      have h2 : (xs.length + 1) * 4 ≤ 140737488355328 := by omega
      repeat (first
        | refine w_seq ?_
        | refine w_region ?_
        | refine w_draw0 ?_
        | refine w_nil ?_
        | refine q_then ?_
        | refine w_skip ?_
        | refine w_ret ?_
        | refine w_block ?_
        | refine w_scope ?_
        | refine w_label ?_
        | refine q_thenR ?_
        | refine q_blockR ?_
        | refine q_blockN ?_
        | refine w_exit ?_
        | refine q_thenE ?_
        | refine q_blockE ?_
        | refine w_scope1 ?_
        | refine w_goto ?_
        | refine q_thenG ?_
        | refine q_blockG ?_
        | refine q_ngN ?_
        | refine q_ngR ?_
        | refine q_ngE ?_
        | refine q_jumpN ?_
        | refine q_jumpR ?_
        | refine q_jumpE ?_
        | refine q_jumpG ?_
        | refine q_blockO rfl ?_
        | (apply w_op rfl
           · simp [e0, e1, e5, h1, h2, u32s_take, u32s_drop]
             first | rfl | exact ⟨‹_›, rfl⟩)
        | (refine w_condT ?_ ?_
           · simp [e0, e1, e5, h1, h2, u32s_take, u32s_drop]
             done)
        | (refine w_condF ?_ ?_
           · simp [e0, e1, e5, h1, h2, u32s_take, u32s_drop]
             done)
        | (apply w_opT rfl
           · simp [e0, e1, e5, h1, h2, u32s_take, u32s_drop]
             done
           · simp [e0, e1, e5, h1, h2, u32s_take, u32s_drop]
             rfl)
        | (refine w_opF ?_ ?_
           · simp [e0, e1, e5, h1, h2, u32s_take, u32s_drop]
             done))
      simp [Fin, hf, u32s]

theorem putS_len (l : List Int) (n : Int) : (putS l n).length ≤ l.length + 1 := by
  unfold putS
  split
  · omega
  · have := congrArg List.length (List.takeWhile_append_dropWhile (p := fun x => decide (x < n)) (l := l))
    simp only [List.length_append, List.length_cons] at this ⊢
    omega

theorem setS_len (l : List Int) : (setS l).length ≤ l.length := by
  have key : ∀ (l acc : List Int), (l.foldl putS acc).length ≤ acc.length + l.length := by
    intro l
    induction l with
    | nil => intro acc; simp
    | cons x r ih =>
      intro acc
      have h1 := ih (putS acc x)
      have h2 := putS_len acc x
      simp only [List.foldl_cons, List.length_cons]
      omega
  simpa [setS] using key l []

theorem foldl_take {α β : Type} (f : β → α → β) (b : β) (l : List α) (i : Nat) (h : i < l.length) : (l.take (i + 1)).foldl f b = f ((l.take i).foldl f b) l[i] := by
  rw [← List.take_append_getElem h, List.foldl_append]
  rfl

theorem pc_Set2 (xs : List Int) (hb : xs.length ≤ 900000) : PC Try.prog 61 [vsl (u32s xs)] (tab []) (vsl (u32s (setS xs))) (tab []) := by
  refine F_r02_Set.pc0 (by simp) ?_
  unfold c_r02_Set
  repeat (first
    | refine w_seq ?_
    | refine w_region ?_
    | refine w_draw0 ?_
    | refine w_nil ?_
    | refine q_then ?_
    | refine w_skip ?_
    | refine w_ret ?_
    | refine w_block ?_
    | refine w_scope ?_
    | refine w_label ?_
    | refine q_thenR ?_
    | refine q_blockR ?_
    | refine q_blockN ?_
    | refine w_exit ?_
    | refine q_thenE ?_
    | refine q_blockE ?_
    | refine w_scope1 ?_
    | refine w_goto ?_
    | refine q_thenG ?_
    | refine q_blockG ?_
    | refine q_ngN ?_
    | refine q_ngR ?_
    | refine q_ngE ?_
    | refine q_jumpN ?_
    | refine q_jumpR ?_
    | refine q_jumpE ?_
    | refine q_jumpG ?_
    | refine q_blockO rfl ?_
    | (apply w_op rfl
       · simp 
         first | rfl | exact ⟨‹_›, rfl⟩)
    | (refine w_condT ?_ ?_
       · simp 
         done)
    | (refine w_condF ?_ ?_
       · simp 
         done)
    | (apply w_opT rfl
       · simp 
         done
       · simp 
         rfl)
    | (refine w_opF ?_ ?_
       · simp 
         done))
  refine w_loop (fun k st => ∃ i : Nat, i ≤ xs.length ∧ k = xs.length - i ∧ st.env 0 = vsl (u32s xs) ∧ (st.env 3 = vsl (u32s (setS (xs.take i))) ∨ st.env 3 = .c (.osl 25 1 (u32s (setS (xs.take i))))) ∧ st.env 4 = vi64 i) xs.length ?_ ?_
  · exact ⟨0, by simp [setS]⟩
  rintro k st ⟨i, hi, rfl, e0, e3, e4⟩
  by_cases hlt : i < xs.length
  · have hw : IntKind.i64.wrap (i + 1 : Int) = i + 1 := wrap64 (by omega) (by omega)
    have hl := setS_len (xs.take i)
    have hp := pc_Put2 (setS (xs.take i)) xs[i] (by simp at hl; omega)
    have hs : setS (xs.take (i + 1)) = putS (setS (xs.take i)) xs[i] := foldl_take putS [] xs i hlt
    rcases e3 with e3 | e3
    · repeat (first
        | refine w_seq ?_
        | refine w_region ?_
        | refine w_draw0 ?_
        | refine w_nil ?_
        | refine q_then ?_
        | refine w_skip ?_
        | refine w_ret ?_
        | refine w_block ?_
        | refine w_scope ?_
        | refine w_label ?_
        | refine q_thenR ?_
        | refine q_blockR ?_
        | refine q_blockN ?_
        | refine w_exit ?_
        | refine q_thenE ?_
        | refine q_blockE ?_
        | refine w_scope1 ?_
        | refine w_goto ?_
        | refine q_thenG ?_
        | refine q_blockG ?_
        | refine q_ngN ?_
        | refine q_ngR ?_
        | refine q_ngE ?_
        | refine q_jumpN ?_
        | refine q_jumpR ?_
        | refine q_jumpE ?_
        | refine q_jumpG ?_
        | refine q_blockO rfl ?_
        | (apply w_op rfl
           · simp [e0, e3, e4, hlt, hw]
             first | rfl | exact ⟨‹_›, rfl⟩)
        | (refine w_condT ?_ ?_
           · simp [e0, e3, e4, hlt, hw]
             done)
        | (refine w_condF ?_ ?_
           · simp [e0, e3, e4, hlt, hw]
             done)
        | (apply w_opT rfl
           · simp [e0, e3, e4, hlt, hw]
             done
           · simp [e0, e3, e4, hlt, hw]
             rfl)
        | (refine w_opF ?_ ?_
           · simp [e0, e3, e4, hlt, hw]
             done))
      apply w_call0 (hc := by kernel_rfl) (pc := hp)
      · simp [e0, e3, e4, hlt, hw]
      · (simp [e0, e3, e4, hlt, hw]; rfl)
      repeat (first
        | refine w_seq ?_
        | refine w_region ?_
        | refine w_draw0 ?_
        | refine w_nil ?_
        | refine q_then ?_
        | refine w_skip ?_
        | refine w_ret ?_
        | refine w_block ?_
        | refine w_scope ?_
        | refine w_label ?_
        | refine q_thenR ?_
        | refine q_blockR ?_
        | refine q_blockN ?_
        | refine w_exit ?_
        | refine q_thenE ?_
        | refine q_blockE ?_
        | refine w_scope1 ?_
        | refine w_goto ?_
        | refine q_thenG ?_
        | refine q_blockG ?_
        | refine q_ngN ?_
        | refine q_ngR ?_
        | refine q_ngE ?_
        | refine q_jumpN ?_
        | refine q_jumpR ?_
        | refine q_jumpE ?_
        | refine q_jumpG ?_
        | refine q_blockO rfl ?_
        | (apply w_op rfl
           · simp [e0, e3, e4, hlt, hw]
             first | rfl | exact ⟨‹_›, rfl⟩)
        | (refine w_condT ?_ ?_
           · simp [e0, e3, e4, hlt, hw]
             done)
        | (refine w_condF ?_ ?_
           · simp [e0, e3, e4, hlt, hw]
             done)
        | (apply w_opT rfl
           · simp [e0, e3, e4, hlt, hw]
             done
           · simp [e0, e3, e4, hlt, hw]
             rfl)
        | (refine w_opF ?_ ?_
           · simp [e0, e3, e4, hlt, hw]
             done))
      refine ⟨_, ?_, i + 1, by omega, rfl, ?_⟩
      · omega
      · simp [e0, e3, e4, hw, hs]
    · repeat (first
        | refine w_seq ?_
        | refine w_region ?_
        | refine w_draw0 ?_
        | refine w_nil ?_
        | refine q_then ?_
        | refine w_skip ?_
        | refine w_ret ?_
        | refine w_block ?_
        | refine w_scope ?_
        | refine w_label ?_
        | refine q_thenR ?_
        | refine q_blockR ?_
        | refine q_blockN ?_
        | refine w_exit ?_
        | refine q_thenE ?_
        | refine q_blockE ?_
        | refine w_scope1 ?_
        | refine w_goto ?_
        | refine q_thenG ?_
        | refine q_blockG ?_
        | refine q_ngN ?_
        | refine q_ngR ?_
        | refine q_ngE ?_
        | refine q_jumpN ?_
        | refine q_jumpR ?_
        | refine q_jumpE ?_
        | refine q_jumpG ?_
        | refine q_blockO rfl ?_
        | (apply w_op rfl
           · simp [e0, e3, e4, hlt, hw]
             first | rfl | exact ⟨‹_›, rfl⟩)
        | (refine w_condT ?_ ?_
           · simp [e0, e3, e4, hlt, hw]
             done)
        | (refine w_condF ?_ ?_
           · simp [e0, e3, e4, hlt, hw]
             done)
        | (apply w_opT rfl
           · simp [e0, e3, e4, hlt, hw]
             done
           · simp [e0, e3, e4, hlt, hw]
             rfl)
        | (refine w_opF ?_ ?_
           · simp [e0, e3, e4, hlt, hw]
             done))
      apply w_call0 (hc := by kernel_rfl) (pc := hp)
      · simp [e0, e3, e4, hlt, hw]
      · (simp [e0, e3, e4, hlt, hw]; rfl)
      repeat (first
        | refine w_seq ?_
        | refine w_region ?_
        | refine w_draw0 ?_
        | refine w_nil ?_
        | refine q_then ?_
        | refine w_skip ?_
        | refine w_ret ?_
        | refine w_block ?_
        | refine w_scope ?_
        | refine w_label ?_
        | refine q_thenR ?_
        | refine q_blockR ?_
        | refine q_blockN ?_
        | refine w_exit ?_
        | refine q_thenE ?_
        | refine q_blockE ?_
        | refine w_scope1 ?_
        | refine w_goto ?_
        | refine q_thenG ?_
        | refine q_blockG ?_
        | refine q_ngN ?_
        | refine q_ngR ?_
        | refine q_ngE ?_
        | refine q_jumpN ?_
        | refine q_jumpR ?_
        | refine q_jumpE ?_
        | refine q_jumpG ?_
        | refine q_blockO rfl ?_
        | (apply w_op rfl
           · simp [e0, e3, e4, hlt, hw]
             first | rfl | exact ⟨‹_›, rfl⟩)
        | (refine w_condT ?_ ?_
           · simp [e0, e3, e4, hlt, hw]
             done)
        | (refine w_condF ?_ ?_
           · simp [e0, e3, e4, hlt, hw]
             done)
        | (apply w_opT rfl
           · simp [e0, e3, e4, hlt, hw]
             done
           · simp [e0, e3, e4, hlt, hw]
             rfl)
        | (refine w_opF ?_ ?_
           · simp [e0, e3, e4, hlt, hw]
             done))
      refine ⟨_, ?_, i + 1, by omega, rfl, ?_⟩
      · omega
      · simp [e0, e3, e4, hw, hs]
  · have hie : i = xs.length := by omega
    subst hie
    rw [List.take_length] at e3
    rcases e3 with e3 | e3
    · repeat (first
        | refine w_seq ?_
        | refine w_region ?_
        | refine w_draw0 ?_
        | refine w_nil ?_
        | refine q_then ?_
        | refine w_skip ?_
        | refine w_ret ?_
        | refine w_block ?_
        | refine w_scope ?_
        | refine w_label ?_
        | refine q_thenR ?_
        | refine q_blockR ?_
        | refine q_blockN ?_
        | refine w_exit ?_
        | refine q_thenE ?_
        | refine q_blockE ?_
        | refine w_scope1 ?_
        | refine w_goto ?_
        | refine q_thenG ?_
        | refine q_blockG ?_
        | refine q_ngN ?_
        | refine q_ngR ?_
        | refine q_ngE ?_
        | refine q_jumpN ?_
        | refine q_jumpR ?_
        | refine q_jumpE ?_
        | refine q_jumpG ?_
        | refine q_blockO rfl ?_
        | (apply w_op rfl
           · simp [e0, e3, e4]
             first | rfl | exact ⟨‹_›, rfl⟩)
        | (refine w_condT ?_ ?_
           · simp [e0, e3, e4]
             done)
        | (refine w_condF ?_ ?_
           · simp [e0, e3, e4]
             done)
        | (apply w_opT rfl
           · simp [e0, e3, e4]
             done
           · simp [e0, e3, e4]
             rfl)
        | (refine w_opF ?_ ?_
           · simp [e0, e3, e4]
             done))
      simp [Fin, e3]
    · repeat (first
        | refine w_seq ?_
        | refine w_region ?_
        | refine w_draw0 ?_
        | refine w_nil ?_
        | refine q_then ?_
        | refine w_skip ?_
        | refine w_ret ?_
        | refine w_block ?_
        | refine w_scope ?_
        | refine w_label ?_
        | refine q_thenR ?_
        | refine q_blockR ?_
        | refine q_blockN ?_
        | refine w_exit ?_
        | refine q_thenE ?_
        | refine q_blockE ?_
        | refine w_scope1 ?_
        | refine w_goto ?_
        | refine q_thenG ?_
        | refine q_blockG ?_
        | refine q_ngN ?_
        | refine q_ngR ?_
        | refine q_ngE ?_
        | refine q_jumpN ?_
        | refine q_jumpR ?_
        | refine q_jumpE ?_
        | refine q_jumpG ?_
        | refine q_blockO rfl ?_
        | (apply w_op rfl
           · simp [e0, e3, e4]
             first | rfl | exact ⟨‹_›, rfl⟩)
        | (refine w_condT ?_ ?_
           · simp [e0, e3, e4]
             done)
        | (refine w_condF ?_ ?_
           · simp [e0, e3, e4]
             done)
        | (apply w_opT rfl
           · simp [e0, e3, e4]
             done
           · simp [e0, e3, e4]
             rfl)
        | (refine w_opF ?_ ?_
           · simp [e0, e3, e4]
             done))
      simp [Fin, e3]

end Go.V

