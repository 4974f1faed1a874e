/- CollideRivals: what is told of an Open that is not awaited. -/
import Derived.Test.YtimdfdmdogeiaaaCP4
set_option linter.all false
set_option linter.unusedSimpArgs false
set_option linter.unusedVariables false
namespace Go.V
open Go Go.Proofs

theorem pc67 (xs : List (List D)) (h1 : ∀ x ∈ xs, x.length = 1) (h2 : xs.length ≤ 140737488355328) : PC Try.prog 67 [vsl xs] (tab []) (vsl xs) (tab []) := by
  refine F67.pc0 (by simp) ?_
  unfold c67
  repeat (first
    | refine w_seq ?_
    | refine w_region ?_
    | refine w_draw0 ?_
    | refine w_nil ?_
    | refine q_then ?_
    | refine w_skip ?_
    | refine w_ret ?_
    | refine w_block ?_
    | refine w_scope ?_
    | refine w_label ?_
    | refine q_thenR ?_
    | refine q_blockR ?_
    | refine q_blockN ?_
    | refine w_exit ?_
    | refine q_thenE ?_
    | refine q_blockE ?_
    | refine q_blockO rfl ?_
    | (apply w_op rfl
       · simp 
         first | rfl | exact ⟨‹_›, rfl⟩)
    | (refine w_condT ?_ ?_
       · simp 
         done)
    | (refine w_condF ?_ ?_
       · simp 
         done)
    | (apply w_opT rfl
       · simp 
         done
       · simp 
         rfl)
    | (refine w_opF ?_ ?_
       · simp 
         done))
  refine w_nilq ?_
  repeat (first
    | refine w_seq ?_
    | refine w_region ?_
    | refine w_draw0 ?_
    | refine w_nil ?_
    | refine q_then ?_
    | refine w_skip ?_
    | refine w_ret ?_
    | refine w_block ?_
    | refine w_scope ?_
    | refine w_label ?_
    | refine q_thenR ?_
    | refine q_blockR ?_
    | refine q_blockN ?_
    | refine w_exit ?_
    | refine q_thenE ?_
    | refine q_blockE ?_
    | refine q_blockO rfl ?_
    | (apply w_op rfl
       · simp 
         first | rfl | exact ⟨‹_›, rfl⟩)
    | (refine w_condT ?_ ?_
       · simp 
         done)
    | (refine w_condF ?_ ?_
       · simp 
         done)
    | (apply w_opT rfl
       · simp 
         done
       · simp 
         rfl)
    | (refine w_opF ?_ ?_
       · simp 
         done))
  refine ⟨xs, by simp, fun b hb => ?_⟩
  repeat (first
    | refine w_seq ?_
    | refine w_region ?_
    | refine w_draw0 ?_
    | refine w_nil ?_
    | refine q_then ?_
    | refine w_skip ?_
    | refine w_ret ?_
    | refine w_block ?_
    | refine w_scope ?_
    | refine w_label ?_
    | refine q_thenR ?_
    | refine q_blockR ?_
    | refine q_blockN ?_
    | refine w_exit ?_
    | refine q_thenE ?_
    | refine q_blockE ?_
    | refine q_blockO rfl ?_
    | (apply w_op rfl
       · simp 
         first | rfl | exact ⟨‹_›, rfl⟩)
    | (refine w_condT ?_ ?_
       · simp 
         done)
    | (refine w_condF ?_ ?_
       · simp 
         done)
    | (apply w_opT rfl
       · simp 
         done
       · simp 
         rfl)
    | (refine w_opF ?_ ?_
       · simp 
         done))
  cases b with
  | true =>
    have := hb rfl
    subst this
    repeat (first
      | refine w_seq ?_
      | refine w_region ?_
      | refine w_draw0 ?_
      | refine w_nil ?_
      | refine q_then ?_
      | refine w_skip ?_
      | refine w_ret ?_
      | refine w_block ?_
      | refine w_scope ?_
      | refine w_label ?_
      | refine q_thenR ?_
      | refine q_blockR ?_
      | refine q_blockN ?_
      | refine w_exit ?_
      | refine q_thenE ?_
      | refine q_blockE ?_
      | refine q_blockO rfl ?_
      | (apply w_op rfl
         · simp 
           first | rfl | exact ⟨‹_›, rfl⟩)
      | (refine w_condT ?_ ?_
         · simp 
           done)
      | (refine w_condF ?_ ?_
         · simp 
           done)
      | (apply w_opT rfl
         · simp 
           done
         · simp 
           rfl)
      | (refine w_opF ?_ ?_
         · simp 
           done))
    simp [Fin]
  | false =>
    have h3 : (∀ y, y ∈ xs → y.length = 1) ∧ xs.length ≤ 140737488355328 := ⟨h1, h2⟩
    repeat (first
      | refine w_seq ?_
      | refine w_region ?_
      | refine w_draw0 ?_
      | refine w_nil ?_
      | refine q_then ?_
      | refine w_skip ?_
      | refine w_ret ?_
      | refine w_block ?_
      | refine w_scope ?_
      | refine w_label ?_
      | refine q_thenR ?_
      | refine q_blockR ?_
      | refine q_blockN ?_
      | refine w_exit ?_
      | refine q_thenE ?_
      | refine q_blockE ?_
      | refine q_blockO rfl ?_
      | (apply w_op rfl
         · simp 
           first | rfl | exact ⟨‹_›, rfl⟩)
      | (refine w_condT ?_ ?_
         · simp 
           done)
      | (refine w_condF ?_ ?_
         · simp 
           done)
      | (apply w_opT rfl
         · simp 
           done
         · simp 
           rfl)
      | (refine w_opF ?_ ?_
         · simp 
           done))
    simp [Fin]

theorem pc66a (ys : List (List D)) (h1 : ∀ x ∈ ys, x.length = 1) (h2 : ys.length ≤ 140737488355328) : PC Try.prog 66 [mp, vsl ys] (tab [[.nilsl]]) mp (tab [[.osl 5 1 ys]]) := by
  refine F66.pc (css := [_]) (pre := [_]) (new := []) (by simp) rfl none ?_
  unfold c66
  have h3 : (∀ y, y ∈ ys → y.length = 1) ∧ ys.length ≤ 140737488355328 := ⟨h1, h2⟩
  repeat (first
    | refine w_seq ?_
    | refine w_region ?_
    | refine w_draw0 ?_
    | refine w_nil ?_
    | refine q_then ?_
    | refine w_skip ?_
    | refine w_ret ?_
    | refine w_block ?_
    | refine w_scope ?_
    | refine w_label ?_
    | refine q_thenR ?_
    | refine q_blockR ?_
    | refine q_blockN ?_
    | refine w_exit ?_
    | refine q_thenE ?_
    | refine q_blockE ?_
    | refine q_blockO rfl ?_
    | (apply w_op rfl
       · simp 
         first | rfl | exact ⟨‹_›, rfl⟩)
    | (refine w_condT ?_ ?_
       · simp 
         done)
    | (refine w_condF ?_ ?_
       · simp 
         done)
    | (apply w_opT rfl
       · simp 
         done
       · simp 
         rfl)
    | (refine w_opF ?_ ?_
       · simp 
         done))
  simp [Fin]

theorem pc66b (xs ys : List (List D)) (h1 : ∀ x ∈ ys, x.length = 1) (h2 : (xs.length : Nat) + ys.length ≤ 140737488355328) : PC Try.prog 66 [mp, vsl ys] (tab [[.osl 5 1 xs]]) mp (tab [[.osl 5 1 (xs ++ ys)]]) := by
  refine F66.pc (css := [_]) (pre := [_]) (new := []) (by simp) rfl none ?_
  unfold c66
  have h3 : (∀ y, y ∈ ys → y.length = 1) ∧ xs.length + ys.length ≤ 140737488355328 := ⟨h1, h2⟩
  repeat (first
    | refine w_seq ?_
    | refine w_region ?_
    | refine w_draw0 ?_
    | refine w_nil ?_
    | refine q_then ?_
    | refine w_skip ?_
    | refine w_ret ?_
    | refine w_block ?_
    | refine w_scope ?_
    | refine w_label ?_
    | refine q_thenR ?_
    | refine q_blockR ?_
    | refine q_blockN ?_
    | refine w_exit ?_
    | refine q_thenE ?_
    | refine q_blockE ?_
    | refine q_blockO rfl ?_
    | (apply w_op rfl
       · simp 
         first | rfl | exact ⟨‹_›, rfl⟩)
    | (refine w_condT ?_ ?_
       · simp 
         done)
    | (refine w_condF ?_ ?_
       · simp 
         done)
    | (apply w_opT rfl
       · simp 
         done
       · simp 
         rfl)
    | (refine w_opF ?_ ?_
       · simp 
         done))
  simp [Fin]

theorem pc63a (n : Int) : PC Try.prog 63 [mp, vi64 n] (tab [[.nilsl]]) mp (tab [[.osl 5 1 [[.v (.int .u8 (IntKind.u8.wrap n))]]]]) := by
  refine F63.pc (css := [_]) (pre := [_]) (new := []) (by simp) rfl none ?_
  unfold c63
  repeat (first
    | refine w_seq ?_
    | refine w_region ?_
    | refine w_draw0 ?_
    | refine w_nil ?_
    | refine q_then ?_
    | refine w_skip ?_
    | refine w_ret ?_
    | refine w_block ?_
    | refine w_scope ?_
    | refine w_label ?_
    | refine q_thenR ?_
    | refine q_blockR ?_
    | refine q_blockN ?_
    | refine w_exit ?_
    | refine q_thenE ?_
    | refine q_blockE ?_
    | refine q_blockO rfl ?_
    | (apply w_op rfl
       · simp 
         first | rfl | exact ⟨‹_›, rfl⟩)
    | (refine w_condT ?_ ?_
       · simp 
         done)
    | (refine w_condF ?_ ?_
       · simp 
         done)
    | (apply w_opT rfl
       · simp 
         done
       · simp 
         rfl)
    | (refine w_opF ?_ ?_
       · simp 
         done))
  apply w_call [0] (hc := by kernel_rfl) (pc := pc66a [[.v (.int .u8 (IntKind.u8.wrap n))]] (by simp) (by simp))
  · decide
  · decide
  · simp 
  · simp 
  · simp 
  · simp 
  · simp 
  · (simp ; rfl)
  repeat (first
    | refine w_seq ?_
    | refine w_region ?_
    | refine w_draw0 ?_
    | refine w_nil ?_
    | refine q_then ?_
    | refine w_skip ?_
    | refine w_ret ?_
    | refine w_block ?_
    | refine w_scope ?_
    | refine w_label ?_
    | refine q_thenR ?_
    | refine q_blockR ?_
    | refine q_blockN ?_
    | refine w_exit ?_
    | refine q_thenE ?_
    | refine q_blockE ?_
    | refine q_blockO rfl ?_
    | (apply w_op rfl
       · simp 
         first | rfl | exact ⟨‹_›, rfl⟩)
    | (refine w_condT ?_ ?_
       · simp 
         done)
    | (refine w_condF ?_ ?_
       · simp 
         done)
    | (apply w_opT rfl
       · simp 
         done
       · simp 
         rfl)
    | (refine w_opF ?_ ?_
       · simp 
         done))
  simp [Fin]

theorem pc63b (xs : List (List D)) (n : Int) (h : xs.length ≤ 1000) : PC Try.prog 63 [mp, vi64 n] (tab [[.osl 5 1 xs]]) mp (tab [[.osl 5 1 (xs ++ [[.v (.int .u8 (IntKind.u8.wrap n))]])]]) := by
  refine F63.pc (css := [_]) (pre := [_]) (new := []) (by simp) rfl none ?_
  unfold c63
  repeat (first
    | refine w_seq ?_
    | refine w_region ?_
    | refine w_draw0 ?_
    | refine w_nil ?_
    | refine q_then ?_
    | refine w_skip ?_
    | refine w_ret ?_
    | refine w_block ?_
    | refine w_scope ?_
    | refine w_label ?_
    | refine q_thenR ?_
    | refine q_blockR ?_
    | refine q_blockN ?_
    | refine w_exit ?_
    | refine q_thenE ?_
    | refine q_blockE ?_
    | refine q_blockO rfl ?_
    | (apply w_op rfl
       · simp 
         first | rfl | exact ⟨‹_›, rfl⟩)
    | (refine w_condT ?_ ?_
       · simp 
         done)
    | (refine w_condF ?_ ?_
       · simp 
         done)
    | (apply w_opT rfl
       · simp 
         done
       · simp 
         rfl)
    | (refine w_opF ?_ ?_
       · simp 
         done))
  apply w_call [0] (hc := by kernel_rfl) (pc := pc66b xs [[.v (.int .u8 (IntKind.u8.wrap n))]] (by simp) (by simp; omega))
  · decide
  · decide
  · simp 
  · simp 
  · simp 
  · simp 
  · simp 
  · (simp ; rfl)
  repeat (first
    | refine w_seq ?_
    | refine w_region ?_
    | refine w_draw0 ?_
    | refine w_nil ?_
    | refine q_then ?_
    | refine w_skip ?_
    | refine w_ret ?_
    | refine w_block ?_
    | refine w_scope ?_
    | refine w_label ?_
    | refine q_thenR ?_
    | refine q_blockR ?_
    | refine q_blockN ?_
    | refine w_exit ?_
    | refine q_thenE ?_
    | refine q_blockE ?_
    | refine q_blockO rfl ?_
    | (apply w_op rfl
       · simp 
         first | rfl | exact ⟨‹_›, rfl⟩)
    | (refine w_condT ?_ ?_
       · simp 
         done)
    | (refine w_condF ?_ ?_
       · simp 
         done)
    | (apply w_opT rfl
       · simp 
         done
       · simp 
         rfl)
    | (refine w_opF ?_ ?_
       · simp 
         done))
  simp [Fin]

/-- A number's four bytes. -/
def fourV (n : Int) : List (List D) := [[.v (.int .u8 (IntKind.u8.wrap (n.fdiv (2 ^ 24))))], [.v (.int .u8 (IntKind.u8.wrap (n.fdiv (2 ^ 16))))], [.v (.int .u8 (IntKind.u8.wrap (n.fdiv (2 ^ 8))))], [.v (.int .u8 (IntKind.u8.wrap n))]]

theorem pc64b (xs : List (List D)) (n : Int) (h : xs.length ≤ 1000) : PC Try.prog 64 [mp, vu32 n] (tab [[.osl 5 1 xs]]) mp (tab [[.osl 5 1 (xs ++ fourV n)]]) := by
  refine F64.pc (css := [_]) (pre := [_]) (new := []) (by simp) rfl none ?_
  unfold c64
  repeat (first
    | refine w_seq ?_
    | refine w_region ?_
    | refine w_draw0 ?_
    | refine w_nil ?_
    | refine q_then ?_
    | refine w_skip ?_
    | refine w_ret ?_
    | refine w_block ?_
    | refine w_scope ?_
    | refine w_label ?_
    | refine q_thenR ?_
    | refine q_blockR ?_
    | refine q_blockN ?_
    | refine w_exit ?_
    | refine q_thenE ?_
    | refine q_blockE ?_
    | refine q_blockO rfl ?_
    | (apply w_op rfl
       · simp 
         first | rfl | exact ⟨‹_›, rfl⟩)
    | (refine w_condT ?_ ?_
       · simp 
         done)
    | (refine w_condF ?_ ?_
       · simp 
         done)
    | (apply w_opT rfl
       · simp 
         done
       · simp 
         rfl)
    | (refine w_opF ?_ ?_
       · simp 
         done))
  apply w_call [0] (hc := by kernel_rfl) (pc := pc66b xs (fourV n) (by simp [fourV]) (by simp [fourV]; omega))
  · decide
  · decide
  · simp [fourV, IntKind.bits]
  · simp [fourV, IntKind.bits]
  · simp [fourV, IntKind.bits]
  · simp [fourV, IntKind.bits]
  · simp [fourV, IntKind.bits]
  · (simp [fourV, IntKind.bits]; rfl)
  repeat (first
    | refine w_seq ?_
    | refine w_region ?_
    | refine w_draw0 ?_
    | refine w_nil ?_
    | refine q_then ?_
    | refine w_skip ?_
    | refine w_ret ?_
    | refine w_block ?_
    | refine w_scope ?_
    | refine w_label ?_
    | refine q_thenR ?_
    | refine q_blockR ?_
    | refine q_blockN ?_
    | refine w_exit ?_
    | refine q_thenE ?_
    | refine q_blockE ?_
    | refine q_blockO rfl ?_
    | (apply w_op rfl
       · simp 
         first | rfl | exact ⟨‹_›, rfl⟩)
    | (refine w_condT ?_ ?_
       · simp 
         done)
    | (refine w_condF ?_ ?_
       · simp 
         done)
    | (apply w_opT rfl
       · simp 
         done
       · simp 
         rfl)
    | (refine w_opF ?_ ?_
       · simp 
         done))
  simp [Fin]

theorem pc65 (xs : List (List D)) (h1 : ∀ x ∈ xs, x.length = 1) (h2 : xs.length ≤ 140737488355328) : PC Try.prog 65 [mp] (tab [[.osl 5 1 xs]]) (vsl xs) (tab [[.osl 5 1 xs]]) := by
  refine F65.pc (css := [_]) (pre := [_]) (new := []) (by simp) rfl none ?_
  unfold c65
  repeat (first
    | refine w_seq ?_
    | refine w_region ?_
    | refine w_draw0 ?_
    | refine w_nil ?_
    | refine q_then ?_
    | refine w_skip ?_
    | refine w_ret ?_
    | refine w_block ?_
    | refine w_scope ?_
    | refine w_label ?_
    | refine q_thenR ?_
    | refine q_blockR ?_
    | refine q_blockN ?_
    | refine w_exit ?_
    | refine q_thenE ?_
    | refine q_blockE ?_
    | refine q_blockO rfl ?_
    | (apply w_op rfl
       · simp 
         first | rfl | exact ⟨‹_›, rfl⟩)
    | (refine w_condT ?_ ?_
       · simp 
         done)
    | (refine w_condF ?_ ?_
       · simp 
         done)
    | (apply w_opT rfl
       · simp 
         done
       · simp 
         rfl)
    | (refine w_opF ?_ ?_
       · simp 
         done))
  apply w_call0 (hc := by kernel_rfl) (pc := pc67 xs h1 h2)
  · simp 
  · (simp ; rfl)
  repeat (first
    | refine w_seq ?_
    | refine w_region ?_
    | refine w_draw0 ?_
    | refine w_nil ?_
    | refine q_then ?_
    | refine w_skip ?_
    | refine w_ret ?_
    | refine w_block ?_
    | refine w_scope ?_
    | refine w_label ?_
    | refine q_thenR ?_
    | refine q_blockR ?_
    | refine q_blockN ?_
    | refine w_exit ?_
    | refine q_thenE ?_
    | refine q_blockE ?_
    | refine q_blockO rfl ?_
    | (apply w_op rfl
       · simp 
         first | rfl | exact ⟨‹_›, rfl⟩)
    | (refine w_condT ?_ ?_
       · simp 
         done)
    | (refine w_condF ?_ ?_
       · simp 
         done)
    | (apply w_opT rfl
       · simp 
         done
       · simp 
         rfl)
    | (refine w_opF ?_ ?_
       · simp 
         done))
  simp [Fin]

theorem pc62 (sub : Int) (data : List (List D)) : PC Try.prog 62 [vi64 sub, vsl data] (tab []) (.agg [cI 2, cI sub, .d (.sl data)]) (tab []) := by
  refine F62.pc0 (by simp) ?_
  unfold c62
  repeat (first
    | refine w_seq ?_
    | refine w_region ?_
    | refine w_draw0 ?_
    | refine w_nil ?_
    | refine q_then ?_
    | refine w_skip ?_
    | refine w_ret ?_
    | refine w_block ?_
    | refine w_scope ?_
    | refine w_label ?_
    | refine q_thenR ?_
    | refine q_blockR ?_
    | refine q_blockN ?_
    | refine w_exit ?_
    | refine q_thenE ?_
    | refine q_blockE ?_
    | refine q_blockO rfl ?_
    | (apply w_op rfl
       · simp 
         first | rfl | exact ⟨‹_›, rfl⟩)
    | (refine w_condT ?_ ?_
       · simp 
         done)
    | (refine w_condF ?_ ?_
       · simp 
         done)
    | (apply w_opT rfl
       · simp 
         done
       · simp 
         rfl)
    | (refine w_opF ?_ ?_
       · simp 
         done))
  simp [Fin]

abbrev jb1 : List (List D) := [[.v (.int .u8 (IntKind.u8.wrap 65))]]
abbrev jb2 : List (List D) := [[.v (.int .u8 (IntKind.u8.wrap 65))], [.v (.int .u8 (IntKind.u8.wrap 4))]]

/-- What is told. -/
def judgeV (o : Opn) (a own : Int) : Int × Int × List (List D) :=
  if o.asn ≠ a then (2, 2, [])
  else if o.id = own then (2, 3, [])
  else if o.four = false then (2, 7, jb2 ++ fourV a)
  else (0, 0, [])

theorem pc60 (o : Opn) (a own : Int) : PC Try.prog 60 [.agg o.cs, vu32 a, vu32 own] (tab []) (.agg [cI (judgeV o a own).1, cI (judgeV o a own).2.1, .d (.sl (judgeV o a own).2.2)]) (tab []) := by
  refine F60.pc0 (by simp) ?_
  unfold c60
  cases h1 : (o.asn != a) with
  | true =>
    repeat (first
      | refine w_seq ?_
      | refine w_region ?_
      | refine w_draw0 ?_
      | refine w_nil ?_
      | refine q_then ?_
      | refine w_skip ?_
      | refine w_ret ?_
      | refine w_block ?_
      | refine w_scope ?_
      | refine w_label ?_
      | refine q_thenR ?_
      | refine q_blockR ?_
      | refine q_blockN ?_
      | refine w_exit ?_
      | refine q_thenE ?_
      | refine q_blockE ?_
      | refine q_blockO rfl ?_
      | (apply w_op rfl
         · simp [h1]
           first | rfl | exact ⟨‹_›, rfl⟩)
      | (refine w_condT ?_ ?_
         · simp [h1]
           done)
      | (refine w_condF ?_ ?_
         · simp [h1]
           done)
      | (apply w_opT rfl
         · simp [h1]
           done
         · simp [h1]
           rfl)
      | (refine w_opF ?_ ?_
         · simp [h1]
           done))
    apply w_call0 (hc := by kernel_rfl) (pc := pc62 2 [])
    · simp [h1]
    · (simp [h1]; rfl)
    repeat (first
      | refine w_seq ?_
      | refine w_region ?_
      | refine w_draw0 ?_
      | refine w_nil ?_
      | refine q_then ?_
      | refine w_skip ?_
      | refine w_ret ?_
      | refine w_block ?_
      | refine w_scope ?_
      | refine w_label ?_
      | refine q_thenR ?_
      | refine q_blockR ?_
      | refine q_blockN ?_
      | refine w_exit ?_
      | refine q_thenE ?_
      | refine q_blockE ?_
      | refine q_blockO rfl ?_
      | (apply w_op rfl
         · simp [h1]
           first | rfl | exact ⟨‹_›, rfl⟩)
      | (refine w_condT ?_ ?_
         · simp [h1]
           done)
      | (refine w_condF ?_ ?_
         · simp [h1]
           done)
      | (apply w_opT rfl
         · simp [h1]
           done
         · simp [h1]
           rfl)
      | (refine w_opF ?_ ?_
         · simp [h1]
           done))
    simp at h1
    simp [Fin, judgeV, h1]
  | false =>
    cases h2 : (o.id == own) with
    | true =>
      repeat (first
        | refine w_seq ?_
        | refine w_region ?_
        | refine w_draw0 ?_
        | refine w_nil ?_
        | refine q_then ?_
        | refine w_skip ?_
        | refine w_ret ?_
        | refine w_block ?_
        | refine w_scope ?_
        | refine w_label ?_
        | refine q_thenR ?_
        | refine q_blockR ?_
        | refine q_blockN ?_
        | refine w_exit ?_
        | refine q_thenE ?_
        | refine q_blockE ?_
        | refine q_blockO rfl ?_
        | (apply w_op rfl
           · simp [h1, h2]
             first | rfl | exact ⟨‹_›, rfl⟩)
        | (refine w_condT ?_ ?_
           · simp [h1, h2]
             done)
        | (refine w_condF ?_ ?_
           · simp [h1, h2]
             done)
        | (apply w_opT rfl
           · simp [h1, h2]
             done
           · simp [h1, h2]
             rfl)
        | (refine w_opF ?_ ?_
           · simp [h1, h2]
             done))
      apply w_call0 (hc := by kernel_rfl) (pc := pc62 3 [])
      · simp [h1, h2]
      · (simp [h1, h2]; rfl)
      repeat (first
        | refine w_seq ?_
        | refine w_region ?_
        | refine w_draw0 ?_
        | refine w_nil ?_
        | refine q_then ?_
        | refine w_skip ?_
        | refine w_ret ?_
        | refine w_block ?_
        | refine w_scope ?_
        | refine w_label ?_
        | refine q_thenR ?_
        | refine q_blockR ?_
        | refine q_blockN ?_
        | refine w_exit ?_
        | refine q_thenE ?_
        | refine q_blockE ?_
        | refine q_blockO rfl ?_
        | (apply w_op rfl
           · simp [h1, h2]
             first | rfl | exact ⟨‹_›, rfl⟩)
        | (refine w_condT ?_ ?_
           · simp [h1, h2]
             done)
        | (refine w_condF ?_ ?_
           · simp [h1, h2]
             done)
        | (apply w_opT rfl
           · simp [h1, h2]
             done
           · simp [h1, h2]
             rfl)
        | (refine w_opF ?_ ?_
           · simp [h1, h2]
             done))
      simp at h1 h2
      simp [Fin, judgeV, h1, h2]
    | false =>
      cases h3 : o.four with
      | false =>
        repeat (first
          | refine w_seq ?_
          | refine w_region ?_
          | refine w_draw0 ?_
          | refine w_nil ?_
          | refine q_then ?_
          | refine w_skip ?_
          | refine w_ret ?_
          | refine w_block ?_
          | refine w_scope ?_
          | refine w_label ?_
          | refine q_thenR ?_
          | refine q_blockR ?_
          | refine q_blockN ?_
          | refine w_exit ?_
          | refine q_thenE ?_
          | refine q_blockE ?_
          | refine q_blockO rfl ?_
          | (apply w_op rfl
             · simp [h1, h2, h3]
               first | rfl | exact ⟨‹_›, rfl⟩)
          | (refine w_condT ?_ ?_
             · simp [h1, h2, h3]
               done)
          | (refine w_condF ?_ ?_
             · simp [h1, h2, h3]
               done)
          | (apply w_opT rfl
             · simp [h1, h2, h3]
               done
             · simp [h1, h2, h3]
               rfl)
          | (refine w_opF ?_ ?_
             · simp [h1, h2, h3]
               done))
        apply w_call [49] (hc := by kernel_rfl) (pc := pc63a 65)
        · decide
        · decide
        · simp [h1, h2, h3]
        · simp [h1, h2, h3]
        · simp [h1, h2, h3]
        · simp [h1, h2, h3]
        · simp [h1, h2, h3]
        · (simp [h1, h2, h3]; rfl)
        repeat (first
          | refine w_seq ?_
          | refine w_region ?_
          | refine w_draw0 ?_
          | refine w_nil ?_
          | refine q_then ?_
          | refine w_skip ?_
          | refine w_ret ?_
          | refine w_block ?_
          | refine w_scope ?_
          | refine w_label ?_
          | refine q_thenR ?_
          | refine q_blockR ?_
          | refine q_blockN ?_
          | refine w_exit ?_
          | refine q_thenE ?_
          | refine q_blockE ?_
          | refine q_blockO rfl ?_
          | (apply w_op rfl
             · simp [h1, h2, h3]
               first | rfl | exact ⟨‹_›, rfl⟩)
          | (refine w_condT ?_ ?_
             · simp [h1, h2, h3]
               done)
          | (refine w_condF ?_ ?_
             · simp [h1, h2, h3]
               done)
          | (apply w_opT rfl
             · simp [h1, h2, h3]
               done
             · simp [h1, h2, h3]
               rfl)
          | (refine w_opF ?_ ?_
             · simp [h1, h2, h3]
               done))
        apply w_call [49] (hc := by kernel_rfl) (pc := pc63b jb1 4 (by simp))
        · decide
        · decide
        · simp [h1, h2, h3]
        · simp [h1, h2, h3]
        · simp [h1, h2, h3]
        · simp [h1, h2, h3]
        · simp [h1, h2, h3]
        · (simp [h1, h2, h3]; rfl)
        repeat (first
          | refine w_seq ?_
          | refine w_region ?_
          | refine w_draw0 ?_
          | refine w_nil ?_
          | refine q_then ?_
          | refine w_skip ?_
          | refine w_ret ?_
          | refine w_block ?_
          | refine w_scope ?_
          | refine w_label ?_
          | refine q_thenR ?_
          | refine q_blockR ?_
          | refine q_blockN ?_
          | refine w_exit ?_
          | refine q_thenE ?_
          | refine q_blockE ?_
          | refine q_blockO rfl ?_
          | (apply w_op rfl
             · simp [h1, h2, h3]
               first | rfl | exact ⟨‹_›, rfl⟩)
          | (refine w_condT ?_ ?_
             · simp [h1, h2, h3]
               done)
          | (refine w_condF ?_ ?_
             · simp [h1, h2, h3]
               done)
          | (apply w_opT rfl
             · simp [h1, h2, h3]
               done
             · simp [h1, h2, h3]
               rfl)
          | (refine w_opF ?_ ?_
             · simp [h1, h2, h3]
               done))
        apply w_call [49] (hc := by kernel_rfl) (pc := pc64b jb2 a (by simp))
        · decide
        · decide
        · simp [h1, h2, h3]
        · simp [h1, h2, h3]
        · simp [h1, h2, h3]
        · simp [h1, h2, h3]
        · simp [h1, h2, h3]
        · (simp [h1, h2, h3]; rfl)
        repeat (first
          | refine w_seq ?_
          | refine w_region ?_
          | refine w_draw0 ?_
          | refine w_nil ?_
          | refine q_then ?_
          | refine w_skip ?_
          | refine w_ret ?_
          | refine w_block ?_
          | refine w_scope ?_
          | refine w_label ?_
          | refine q_thenR ?_
          | refine q_blockR ?_
          | refine q_blockN ?_
          | refine w_exit ?_
          | refine q_thenE ?_
          | refine q_blockE ?_
          | refine q_blockO rfl ?_
          | (apply w_op rfl
             · simp [h1, h2, h3]
               first | rfl | exact ⟨‹_›, rfl⟩)
          | (refine w_condT ?_ ?_
             · simp [h1, h2, h3]
               done)
          | (refine w_condF ?_ ?_
             · simp [h1, h2, h3]
               done)
          | (apply w_opT rfl
             · simp [h1, h2, h3]
               done
             · simp [h1, h2, h3]
               rfl)
          | (refine w_opF ?_ ?_
             · simp [h1, h2, h3]
               done))
        apply w_call [49] (hc := by kernel_rfl) (pc := pc65 (jb2 ++ fourV a) (by simp [fourV]) (by simp [fourV]))
        · decide
        · decide
        · simp [h1, h2, h3]
        · simp [h1, h2, h3]
        · simp [h1, h2, h3]
        · simp [h1, h2, h3]
        · simp [h1, h2, h3]
        · (simp [h1, h2, h3]; rfl)
        repeat (first
          | refine w_seq ?_
          | refine w_region ?_
          | refine w_draw0 ?_
          | refine w_nil ?_
          | refine q_then ?_
          | refine w_skip ?_
          | refine w_ret ?_
          | refine w_block ?_
          | refine w_scope ?_
          | refine w_label ?_
          | refine q_thenR ?_
          | refine q_blockR ?_
          | refine q_blockN ?_
          | refine w_exit ?_
          | refine q_thenE ?_
          | refine q_blockE ?_
          | refine q_blockO rfl ?_
          | (apply w_op rfl
             · simp [h1, h2, h3]
               first | rfl | exact ⟨‹_›, rfl⟩)
          | (refine w_condT ?_ ?_
             · simp [h1, h2, h3]
               done)
          | (refine w_condF ?_ ?_
             · simp [h1, h2, h3]
               done)
          | (apply w_opT rfl
             · simp [h1, h2, h3]
               done
             · simp [h1, h2, h3]
               rfl)
          | (refine w_opF ?_ ?_
             · simp [h1, h2, h3]
               done))
        apply w_call0 (hc := by kernel_rfl) (pc := pc62 7 (jb2 ++ fourV a))
        · simp [h1, h2, h3]
        · (simp [h1, h2, h3]; rfl)
        repeat (first
          | refine w_seq ?_
          | refine w_region ?_
          | refine w_draw0 ?_
          | refine w_nil ?_
          | refine q_then ?_
          | refine w_skip ?_
          | refine w_ret ?_
          | refine w_block ?_
          | refine w_scope ?_
          | refine w_label ?_
          | refine q_thenR ?_
          | refine q_blockR ?_
          | refine q_blockN ?_
          | refine w_exit ?_
          | refine q_thenE ?_
          | refine q_blockE ?_
          | refine q_blockO rfl ?_
          | (apply w_op rfl
             · simp [h1, h2, h3]
               first | rfl | exact ⟨‹_›, rfl⟩)
          | (refine w_condT ?_ ?_
             · simp [h1, h2, h3]
               done)
          | (refine w_condF ?_ ?_
             · simp [h1, h2, h3]
               done)
          | (apply w_opT rfl
             · simp [h1, h2, h3]
               done
             · simp [h1, h2, h3]
               rfl)
          | (refine w_opF ?_ ?_
             · simp [h1, h2, h3]
               done))
        simp at h1 h2
        simp [Fin, judgeV, h1, h2, h3]
      | true =>
        repeat (first
          | refine w_seq ?_
          | refine w_region ?_
          | refine w_draw0 ?_
          | refine w_nil ?_
          | refine q_then ?_
          | refine w_skip ?_
          | refine w_ret ?_
          | refine w_block ?_
          | refine w_scope ?_
          | refine w_label ?_
          | refine q_thenR ?_
          | refine q_blockR ?_
          | refine q_blockN ?_
          | refine w_exit ?_
          | refine q_thenE ?_
          | refine q_blockE ?_
          | refine q_blockO rfl ?_
          | (apply w_op rfl
             · simp [h1, h2, h3]
               first | rfl | exact ⟨‹_›, rfl⟩)
          | (refine w_condT ?_ ?_
             · simp [h1, h2, h3]
               done)
          | (refine w_condF ?_ ?_
             · simp [h1, h2, h3]
               done)
          | (apply w_opT rfl
             · simp [h1, h2, h3]
               done
             · simp [h1, h2, h3]
               rfl)
          | (refine w_opF ?_ ?_
             · simp [h1, h2, h3]
               done))
        simp at h1 h2
        simp [Fin, judgeV, h1, h2, h3]

end Go.V

