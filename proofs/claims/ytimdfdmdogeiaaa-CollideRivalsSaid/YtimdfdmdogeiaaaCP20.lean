/- CollideRivals: slices.Concat of lists of messages. -/
import Derived.Test.YtimdfdmdogeiaaaCG
import Derived.Test.YtimdfdmdogeiaaaCB
import Derived.Test.YtimdfdmdogeiaaaCP19
set_option linter.all false
set_option linter.unusedSimpArgs false
set_option linter.unusedVariables false
namespace Go.V
open Go Go.Proofs

def catLen (ls : List (List (List D))) (i : Nat) : Nat := (ls.take i).flatten.length

theorem catLen_succ (ls : List (List (List D))) (i : Nat) (h : i < ls.length) : catLen ls (i + 1) = catLen ls i + (ls[i]).length := by
  have e := List.take_append_getElem (l := ls) (i := i) h
  unfold catLen
  rw [← e, List.flatten_append, List.length_append]
  simp

theorem catTake_succ (ls : List (List (List D))) (i : Nat) (h : i < ls.length) : (ls.take (i + 1)).flatten = (ls.take i).flatten ++ ls[i] := by
  have e := List.take_append_getElem (l := ls) (i := i) h
  rw [← e, List.flatten_append]
  simp

theorem catLen_le (ls : List (List (List D))) (i : Nat) : catLen ls i ≤ ls.flatten.length := by
  have e : ls.flatten = (ls.take i).flatten ++ (ls.drop i).flatten := by rw [← List.flatten_append, List.take_append_drop]
  rw [e, List.length_append]
  exact Nat.le_add_right _ _

theorem pc23 (ls : List (List (List D))) (hl : ls.length ≤ 1000) (h19 : ∀ l ∈ ls, ∀ x ∈ l, x.length = 19) (h0 : 0 < ls.flatten.length) (h1 : ls.flatten.length ≤ 1000) :
    PC Try.prog 23 [vsl (ls.map fun l => [.sl l])] (tab []) (vsl ls.flatten) (tab []) := by
  refine F23.pc0 (by simp) ?_
  unfold c23
  repeat (first
    | refine w_seq ?_
    | refine w_region ?_
    | refine w_draw0 ?_
    | refine w_nil ?_
    | refine q_then ?_
    | refine w_skip ?_
    | refine w_ret ?_
    | refine w_block ?_
    | refine w_scope ?_
    | refine w_label ?_
    | refine q_thenR ?_
    | refine q_blockR ?_
    | refine q_blockN ?_
    | refine w_exit ?_
    | refine q_thenE ?_
    | refine q_blockE ?_
    | refine q_blockO rfl ?_
    | (apply w_op rfl
       · simp 
         first | rfl | exact ⟨‹_›, rfl⟩)
    | (refine w_condT ?_ ?_
       · simp 
         done)
    | (refine w_condF ?_ ?_
       · simp 
         done)
    | (apply w_opT rfl
       · simp 
         done
       · simp 
         rfl)
    | (refine w_opF ?_ ?_
       · simp 
         done))
  refine w_loop (fun n st => ∃ i : Nat, i ≤ ls.length ∧ n = ls.length - i ∧ st.env 0 = vsl (ls.map fun l => [.sl l]) ∧ st.env 9 = vsl (ls.map fun l => [.sl l]) ∧ st.env 10 = vi64 ls.length ∧ st.env 11 = vi64 i ∧ st.env 3 = vi64 (catLen ls i) ∧ ∀ k, st.box k = (0, none)) ls.length ?_ ?_
  · exact ⟨0, by simp [catLen]⟩
  rintro n st ⟨i, hi, rfl, e0, e9, e10, e11, e3, eb⟩
  by_cases hlt : i < ls.length
  · have hw : IntKind.i64.wrap (i + 1 : Int) = i + 1 := wrap64 (by omega) (by omega)
    have hc := catLen_succ ls i hlt
    have hcl := catLen_le ls (i + 1)
    have hw2 : IntKind.i64.wrap ((catLen ls i : Int) + ((ls[i]).length : Int)) = (catLen ls i : Int) + ((ls[i]).length : Int) := wrap64 (by omega) (by omega)
    have hnn : ¬ ((catLen ls i : Int) + ((ls[i]).length : Int) < 0) := by omega
    repeat (first
      | refine w_seq ?_
      | refine w_region ?_
      | refine w_draw0 ?_
      | refine w_nil ?_
      | refine q_then ?_
      | refine w_skip ?_
      | refine w_ret ?_
      | refine w_block ?_
      | refine w_scope ?_
      | refine w_label ?_
      | refine q_thenR ?_
      | refine q_blockR ?_
      | refine q_blockN ?_
      | refine w_exit ?_
      | refine q_thenE ?_
      | refine q_blockE ?_
      | refine q_blockO rfl ?_
      | (apply w_op rfl
         · simp [e0, e9, e10, e11, e3, eb, hlt, hw, hw2, hnn]
           first | rfl | exact ⟨‹_›, rfl⟩)
      | (refine w_condT ?_ ?_
         · simp [e0, e9, e10, e11, e3, eb, hlt, hw, hw2, hnn]
           done)
      | (refine w_condF ?_ ?_
         · simp [e0, e9, e10, e11, e3, eb, hlt, hw, hw2, hnn]
           done)
      | (apply w_opT rfl
         · simp [e0, e9, e10, e11, e3, eb, hlt, hw, hw2, hnn]
           done
         · simp [e0, e9, e10, e11, e3, eb, hlt, hw, hw2, hnn]
           rfl)
      | (refine w_opF ?_ ?_
         · simp [e0, e9, e10, e11, e3, eb, hlt, hw, hw2, hnn]
           done))
    refine ⟨_, ?_, i + 1, by omega, rfl, ?_⟩
    · omega
    · simp [e0, e9, e10, e11, e3, eb, hlt, hw, hw2, hc]
  · have hie : i = ls.length := by omega
    subst hie
    have hcl : catLen ls ls.length = ls.flatten.length := by simp [catLen]
    rw [hcl] at e3
    have h30 := pc30 ls.flatten.length h0 h1
    have hL : ∃ L, L = ls.flatten.length := ⟨_, rfl⟩
    obtain ⟨L, hL⟩ := hL
    rw [← hL] at e3 h30
    repeat (first
      | refine w_seq ?_
      | refine w_region ?_
      | refine w_draw0 ?_
      | refine w_nil ?_
      | refine q_then ?_
      | refine w_skip ?_
      | refine w_ret ?_
      | refine w_block ?_
      | refine w_scope ?_
      | refine w_label ?_
      | refine q_thenR ?_
      | refine q_blockR ?_
      | refine q_blockN ?_
      | refine w_exit ?_
      | refine q_thenE ?_
      | refine q_blockE ?_
      | refine q_blockO rfl ?_
      | (apply w_op rfl
         · simp [e0, e9, e10, e11, e3, eb]
           first | rfl | exact ⟨‹_›, rfl⟩)
      | (refine w_condT ?_ ?_
         · simp [e0, e9, e10, e11, e3, eb]
           done)
      | (refine w_condF ?_ ?_
         · simp [e0, e9, e10, e11, e3, eb]
           done)
      | (apply w_opT rfl
         · simp [e0, e9, e10, e11, e3, eb]
           done
         · simp [e0, e9, e10, e11, e3, eb]
           rfl)
      | (refine w_opF ?_ ?_
         · simp [e0, e9, e10, e11, e3, eb]
           done))
    apply w_call0K (hc := by kernel_rfl) (pc := h30)
    · simp [e0, e9, e10, e11, e3, eb]
    · (simp; rfl)
    repeat (first
      | refine w_seq ?_
      | refine w_region ?_
      | refine w_draw0 ?_
      | refine w_nil ?_
      | refine q_then ?_
      | refine w_skip ?_
      | refine w_ret ?_
      | refine w_block ?_
      | refine w_scope ?_
      | refine w_label ?_
      | refine q_thenR ?_
      | refine q_blockR ?_
      | refine q_blockN ?_
      | refine w_exit ?_
      | refine q_thenE ?_
      | refine q_blockE ?_
      | refine q_blockO rfl ?_
      | (apply w_op rfl
         · simp [e0, e9, e10, e11, e3, eb]
           first | rfl | exact ⟨‹_›, rfl⟩)
      | (refine w_condT ?_ ?_
         · simp [e0, e9, e10, e11, e3, eb]
           done)
      | (refine w_condF ?_ ?_
         · simp [e0, e9, e10, e11, e3, eb]
           done)
      | (apply w_opT rfl
         · simp [e0, e9, e10, e11, e3, eb]
           done
         · simp [e0, e9, e10, e11, e3, eb]
           rfl)
      | (refine w_opF ?_ ?_
         · simp [e0, e9, e10, e11, e3, eb]
           done))
    refine w_loop (fun n st => ∃ i : Nat, i ≤ ls.length ∧ n = ls.length - i ∧ st.env 25 = vsl (ls.map fun l => [.sl l]) ∧ st.env 26 = vi64 ls.length ∧ st.env 27 = vi64 i ∧ st.env 6 = .c (.osl 59 19 (ls.take i).flatten) ∧ ∀ k, st.box k = (0, none)) ls.length ?_ ?_
    · exact ⟨0, by simp [e0, eb]⟩
    rintro n st ⟨i, hi, rfl, e25, e26, e27, e6, eb⟩
    by_cases hlt : i < ls.length
    · have hw : IntKind.i64.wrap (i + 1 : Int) = i + 1 := wrap64 (by omega) (by omega)
      have hc := catTake_succ ls i hlt
      have hcn := catLen_succ ls i hlt
      have hcl := catLen_le ls (i + 1)
      simp only [catLen] at hcn hcl
      have hx : ∀ x ∈ ls[i], x.length = 19 := h19 _ (List.getElem_mem hlt)
      have hbd : ((ls.take i).flatten.length + (ls[i]).length) * 208 ≤ 140737488355328 := by omega
      generalize (ls.take i).flatten = acc at e6 hc hbd
      repeat (first
        | refine w_seq ?_
        | refine w_region ?_
        | refine w_draw0 ?_
        | refine w_nil ?_
        | refine q_then ?_
        | refine w_skip ?_
        | refine w_ret ?_
        | refine w_block ?_
        | refine w_scope ?_
        | refine w_label ?_
        | refine q_thenR ?_
        | refine q_blockR ?_
        | refine q_blockN ?_
        | refine w_exit ?_
        | refine q_thenE ?_
        | refine q_blockE ?_
        | refine q_blockO rfl ?_
        | (apply w_op rfl
           · simp [e25, e26, e27, e6, eb, hlt, hw, hx, hbd]
             first | rfl | exact ⟨‹_›, rfl⟩)
        | (refine w_condT ?_ ?_
           · simp [e25, e26, e27, e6, eb, hlt, hw, hx, hbd]
             done)
        | (refine w_condF ?_ ?_
           · simp [e25, e26, e27, e6, eb, hlt, hw, hx, hbd]
             done)
        | (apply w_opT rfl
           · simp [e25, e26, e27, e6, eb, hlt, hw, hx, hbd]
             done
           · simp [e25, e26, e27, e6, eb, hlt, hw, hx, hbd]
             rfl)
        | (refine w_opF ?_ ?_
           · simp [e25, e26, e27, e6, eb, hlt, hw, hx, hbd]
             done))
      refine ⟨_, ?_, i + 1, by omega, rfl, ?_⟩
      · omega
      · simp [e25, e26, e27, e6, eb, hlt, hw, hc]
    · have hie : i = ls.length := by omega
      subst hie
      repeat (first
        | refine w_seq ?_
        | refine w_region ?_
        | refine w_draw0 ?_
        | refine w_nil ?_
        | refine q_then ?_
        | refine w_skip ?_
        | refine w_ret ?_
        | refine w_block ?_
        | refine w_scope ?_
        | refine w_label ?_
        | refine q_thenR ?_
        | refine q_blockR ?_
        | refine q_blockN ?_
        | refine w_exit ?_
        | refine q_thenE ?_
        | refine q_blockE ?_
        | refine q_blockO rfl ?_
        | (apply w_op rfl
           · simp [e25, e26, e27, e6, eb]
             first | rfl | exact ⟨‹_›, rfl⟩)
        | (refine w_condT ?_ ?_
           · simp [e25, e26, e27, e6, eb]
             done)
        | (refine w_condF ?_ ?_
           · simp [e25, e26, e27, e6, eb]
             done)
        | (apply w_opT rfl
           · simp [e25, e26, e27, e6, eb]
             done
           · simp [e25, e26, e27, e6, eb]
             rfl)
        | (refine w_opF ?_ ?_
           · simp [e25, e26, e27, e6, eb]
             done))
      simp [Fin, e6, eb]

theorem cat3 : Cat3 := by
  intro xs ys zs hx hy hz lx ly lz
  have := pc23 [xs, ys, zs] (by simp) (by simp; exact ⟨hx, hy, hz⟩) (by simp; omega) (by simp; omega)
  simpa using this

end Go.V

