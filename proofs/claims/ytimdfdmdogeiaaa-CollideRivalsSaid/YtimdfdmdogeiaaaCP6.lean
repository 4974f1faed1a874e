/- CollideRivals: the machine is opened. -/
import Derived.Test.YtimdfdmdogeiaaaCP5
set_option linter.all false
set_option linter.unusedSimpArgs false
set_option linter.unusedVariables false
namespace Go.V
open Go Go.Proofs

def holdV (a b : Int) : Int := if (if b < a then b else a) < 0 then 0 else (if b < a then b else a)
def keepV (h : Int) : Int := if h < 3 then 0 else IntKind.i64.wrap (h.tdiv 3)

theorem pc61 (a b : Int) : PC Try.prog 61 [vi64 a, vi64 b] (tab []) (vi64 (holdV a b)) (tab []) := by
  refine F61.pc0 (by simp) ?_
  unfold c61
  repeat (first
    | refine w_seq ?_
    | refine w_region ?_
    | refine w_draw0 ?_
    | refine w_nil ?_
    | refine q_then ?_
    | refine w_skip ?_
    | refine w_ret ?_
    | refine w_block ?_
    | refine w_scope ?_
    | refine w_label ?_
    | refine q_thenR ?_
    | refine q_blockR ?_
    | refine q_blockN ?_
    | refine w_exit ?_
    | refine q_thenE ?_
    | refine q_blockE ?_
    | refine q_blockO rfl ?_
    | (apply w_op rfl
       · simp 
         first | rfl | exact ⟨‹_›, rfl⟩)
    | (refine w_condT ?_ ?_
       · simp 
         done)
    | (refine w_condF ?_ ?_
       · simp 
         done)
    | (apply w_opT rfl
       · simp 
         done
       · simp 
         rfl)
    | (refine w_opF ?_ ?_
       · simp 
         done))
  simp [Fin, holdV]

theorem pc55 (h : Int) : PC Try.prog 55 [vi64 h] (tab []) (vi64 (keepV h)) (tab []) := by
  refine F55.pc0 (by simp) ?_
  unfold c55
  by_cases h3 : h < 3
  · repeat (first
      | refine w_seq ?_
      | refine w_region ?_
      | refine w_draw0 ?_
      | refine w_nil ?_
      | refine q_then ?_
      | refine w_skip ?_
      | refine w_ret ?_
      | refine w_block ?_
      | refine w_scope ?_
      | refine w_label ?_
      | refine q_thenR ?_
      | refine q_blockR ?_
      | refine q_blockN ?_
      | refine w_exit ?_
      | refine q_thenE ?_
      | refine q_blockE ?_
      | refine q_blockO rfl ?_
      | (apply w_op rfl
         · simp [h3]
           first | rfl | exact ⟨‹_›, rfl⟩)
      | (refine w_condT ?_ ?_
         · simp [h3]
           done)
      | (refine w_condF ?_ ?_
         · simp [h3]
           done)
      | (apply w_opT rfl
         · simp [h3]
           done
         · simp [h3]
           rfl)
      | (refine w_opF ?_ ?_
         · simp [h3]
           done))
    simp [Fin, keepV, h3]
  · repeat (first
      | refine w_seq ?_
      | refine w_region ?_
      | refine w_draw0 ?_
      | refine w_nil ?_
      | refine q_then ?_
      | refine w_skip ?_
      | refine w_ret ?_
      | refine w_block ?_
      | refine w_scope ?_
      | refine w_label ?_
      | refine q_thenR ?_
      | refine q_blockR ?_
      | refine q_blockN ?_
      | refine w_exit ?_
      | refine q_thenE ?_
      | refine q_blockE ?_
      | refine q_blockO rfl ?_
      | (apply w_op rfl
         · simp [h3]
           first | rfl | exact ⟨‹_›, rfl⟩)
      | (refine w_condT ?_ ?_
         · simp [h3]
           done)
      | (refine w_condF ?_ ?_
         · simp [h3]
           done)
      | (apply w_opT rfl
         · simp [h3]
           done
         · simp [h3]
           rfl)
      | (refine w_opF ?_ ?_
         · simp [h3]
           done))
    simp [Fin, keepV, h3]

theorem judge_one (o : Opn) (a own : Int) : ∀ x ∈ (judgeV o a own).2.2, x.length = 1 := by
  unfold judgeV
  split
  · simp
  · split
    · simp
    · split
      · simp [jb2, fourV]
      · simp

theorem judge_len (o : Opn) (a own : Int) : (judgeV o a own).2.2.length ≤ 6 := by
  unfold judgeV
  split
  · simp
  · split
    · simp
    · split
      · simp [jb2, fourV]
      · simp

def openF (s : Sd) (o : Opn) : Fs := ⟨4, holdV s.hold o.hold, holdV s.hold o.hold, keepV (holdV s.hold o.hold), 0, o⟩
def idleF (s : Sd) : Fs := ⟨0, 0, 0, 0, s.retry, noOpn⟩
def badM (o : Opn) (s : Sd) : Msg := ⟨3, noOpn, (judgeV o s.peer s.id).1, (judgeV o s.peer s.id).2.1, (judgeV o s.peer s.id).2.2⟩

theorem pc56n (s : Sd) (f : Fs) (hf : f.state = 3) (o : Opn) (hj : (judgeV o s.peer s.id).1 = 0) (cn cl up lost : Bool) : PC Try.prog 56 [mp, .agg o.cs] (tab [mcs s f .nilsl cn cl up lost]) (.tup []) (tab [mcs s (openF s o) (.osl 59 19 [keepM.ds]) cn cl up lost]) := by
  refine F56.pc (css := [_]) (pre := [_]) (new := []) (by simp) rfl none ?_
  unfold c56
  repeat (first
    | refine w_seq ?_
    | refine w_region ?_
    | refine w_draw0 ?_
    | refine w_nil ?_
    | refine q_then ?_
    | refine w_skip ?_
    | refine w_ret ?_
    | refine w_block ?_
    | refine w_scope ?_
    | refine w_label ?_
    | refine q_thenR ?_
    | refine q_blockR ?_
    | refine q_blockN ?_
    | refine w_exit ?_
    | refine q_thenE ?_
    | refine q_blockE ?_
    | refine q_blockO rfl ?_
    | (apply w_op rfl
       · simp [hf]
         first | rfl | exact ⟨‹_›, rfl⟩)
    | (refine w_condT ?_ ?_
       · simp [hf]
         done)
    | (refine w_condF ?_ ?_
       · simp [hf]
         done)
    | (apply w_opT rfl
       · simp [hf]
         done
       · simp [hf]
         rfl)
    | (refine w_opF ?_ ?_
       · simp [hf]
         done))
  refine w_draw ?_
  repeat (first
    | refine w_dnil ?_
    | (apply d_op rfl
       · simp 
         first | rfl | exact ⟨‹_›, rfl⟩)
    | (apply d_opT rfl
       · simp 
         done
       · simp 
         rfl)
    | (refine d_opF ?_ ?_
       · simp 
         done))
  apply d_call0 (hc := by kernel_rfl) (pc := pc60 o s.peer s.id)
  · simp 
  · (simp ; rfl)
  repeat (first
    | refine w_dnil ?_
    | (apply d_op rfl
       · simp 
         first | rfl | exact ⟨‹_›, rfl⟩)
    | (apply d_opT rfl
       · simp 
         done
       · simp 
         rfl)
    | (refine d_opF ?_ ?_
       · simp 
         done))
  refine ⟨by simp, ?_⟩
  repeat (first
    | refine w_seq ?_
    | refine w_region ?_
    | refine w_draw0 ?_
    | refine w_nil ?_
    | refine q_then ?_
    | refine w_skip ?_
    | refine w_ret ?_
    | refine w_block ?_
    | refine w_scope ?_
    | refine w_label ?_
    | refine q_thenR ?_
    | refine q_blockR ?_
    | refine q_blockN ?_
    | refine w_exit ?_
    | refine q_thenE ?_
    | refine q_blockE ?_
    | refine q_blockO rfl ?_
    | (apply w_op rfl
       · simp [hj]
         first | rfl | exact ⟨‹_›, rfl⟩)
    | (refine w_condT ?_ ?_
       · simp [hj]
         done)
    | (refine w_condF ?_ ?_
       · simp [hj]
         done)
    | (apply w_opT rfl
       · simp [hj]
         done
       · simp [hj]
         rfl)
    | (refine w_opF ?_ ?_
       · simp [hj]
         done))
  apply w_call0 (hc := by kernel_rfl) (pc := pc61 s.hold o.hold)
  · simp 
  · (simp ; rfl)
  repeat (first
    | refine w_seq ?_
    | refine w_region ?_
    | refine w_draw0 ?_
    | refine w_nil ?_
    | refine q_then ?_
    | refine w_skip ?_
    | refine w_ret ?_
    | refine w_block ?_
    | refine w_scope ?_
    | refine w_label ?_
    | refine q_thenR ?_
    | refine q_blockR ?_
    | refine q_blockN ?_
    | refine w_exit ?_
    | refine q_thenE ?_
    | refine q_blockE ?_
    | refine q_blockO rfl ?_
    | (apply w_op rfl
       · simp [hj]
         first | rfl | exact ⟨‹_›, rfl⟩)
    | (refine w_condT ?_ ?_
       · simp [hj]
         done)
    | (refine w_condF ?_ ?_
       · simp [hj]
         done)
    | (apply w_opT rfl
       · simp [hj]
         done
       · simp [hj]
         rfl)
    | (refine w_opF ?_ ?_
       · simp [hj]
         done))
  refine w_draw ?_
  repeat (first
    | refine w_dnil ?_
    | (apply d_op rfl
       · simp 
         first | rfl | exact ⟨‹_›, rfl⟩)
    | (apply d_opT rfl
       · simp 
         done
       · simp 
         rfl)
    | (refine d_opF ?_ ?_
       · simp 
         done))
  apply d_call0 (hc := by kernel_rfl) (pc := pc55 (holdV s.hold o.hold))
  · simp 
  · (simp ; rfl)
  repeat (first
    | refine w_dnil ?_
    | (apply d_op rfl
       · simp 
         first | rfl | exact ⟨‹_›, rfl⟩)
    | (apply d_opT rfl
       · simp 
         done
       · simp 
         rfl)
    | (refine d_opF ?_ ?_
       · simp 
         done))
  refine ⟨by simp, ?_⟩
  repeat (first
    | refine w_seq ?_
    | refine w_region ?_
    | refine w_draw0 ?_
    | refine w_nil ?_
    | refine q_then ?_
    | refine w_skip ?_
    | refine w_ret ?_
    | refine w_block ?_
    | refine w_scope ?_
    | refine w_label ?_
    | refine q_thenR ?_
    | refine q_blockR ?_
    | refine q_blockN ?_
    | refine w_exit ?_
    | refine q_thenE ?_
    | refine q_blockE ?_
    | refine q_blockO rfl ?_
    | (apply w_op rfl
       · simp 
         first | rfl | exact ⟨‹_›, rfl⟩)
    | (refine w_condT ?_ ?_
       · simp 
         done)
    | (refine w_condF ?_ ?_
       · simp 
         done)
    | (apply w_opT rfl
       · simp 
         done
       · simp 
         rfl)
    | (refine w_opF ?_ ?_
       · simp 
         done))
  apply w_call [0] (hc := by kernel_rfl) (pc := pc54 s (openF s o) cn cl up lost)
  · decide
  · decide
  · simp [openF]
  · simp [openF]
  · simp [openF]
  · simp [openF]
  · simp [openF]
  · (simp [openF]; rfl)
  repeat (first
    | refine w_seq ?_
    | refine w_region ?_
    | refine w_draw0 ?_
    | refine w_nil ?_
    | refine q_then ?_
    | refine w_skip ?_
    | refine w_ret ?_
    | refine w_block ?_
    | refine w_scope ?_
    | refine w_label ?_
    | refine q_thenR ?_
    | refine q_blockR ?_
    | refine q_blockN ?_
    | refine w_exit ?_
    | refine q_thenE ?_
    | refine q_blockE ?_
    | refine q_blockO rfl ?_
    | (apply w_op rfl
       · simp 
         first | rfl | exact ⟨‹_›, rfl⟩)
    | (refine w_condT ?_ ?_
       · simp 
         done)
    | (refine w_condF ?_ ?_
       · simp 
         done)
    | (apply w_opT rfl
       · simp 
         done
       · simp 
         rfl)
    | (refine w_opF ?_ ?_
       · simp 
         done))
  simp [Fin, openF]

theorem pc56f (s : Sd) (f : Fs) (hf : f.state = 3) (o : Opn) (hj : (judgeV o s.peer s.id).1 ≠ 0) (cn cl up lost : Bool) : PC Try.prog 56 [mp, .agg o.cs] (tab [mcs s f .nilsl cn cl up lost]) (.tup []) (tab [mcs s (idleF s) (.osl 59 19 [(badM o s).ds]) cn true up false]) := by
  refine F56.pc (css := [_]) (pre := [_]) (new := []) (by simp) rfl none ?_
  unfold c56
  repeat (first
    | refine w_seq ?_
    | refine w_region ?_
    | refine w_draw0 ?_
    | refine w_nil ?_
    | refine q_then ?_
    | refine w_skip ?_
    | refine w_ret ?_
    | refine w_block ?_
    | refine w_scope ?_
    | refine w_label ?_
    | refine q_thenR ?_
    | refine q_blockR ?_
    | refine q_blockN ?_
    | refine w_exit ?_
    | refine q_thenE ?_
    | refine q_blockE ?_
    | refine q_blockO rfl ?_
    | (apply w_op rfl
       · simp [hf]
         first | rfl | exact ⟨‹_›, rfl⟩)
    | (refine w_condT ?_ ?_
       · simp [hf]
         done)
    | (refine w_condF ?_ ?_
       · simp [hf]
         done)
    | (apply w_opT rfl
       · simp [hf]
         done
       · simp [hf]
         rfl)
    | (refine w_opF ?_ ?_
       · simp [hf]
         done))
  refine w_draw ?_
  repeat (first
    | refine w_dnil ?_
    | (apply d_op rfl
       · simp 
         first | rfl | exact ⟨‹_›, rfl⟩)
    | (apply d_opT rfl
       · simp 
         done
       · simp 
         rfl)
    | (refine d_opF ?_ ?_
       · simp 
         done))
  apply d_call0 (hc := by kernel_rfl) (pc := pc60 o s.peer s.id)
  · simp 
  · (simp ; rfl)
  repeat (first
    | refine w_dnil ?_
    | (apply d_op rfl
       · simp 
         first | rfl | exact ⟨‹_›, rfl⟩)
    | (apply d_opT rfl
       · simp 
         done
       · simp 
         rfl)
    | (refine d_opF ?_ ?_
       · simp 
         done))
  refine ⟨by simp, ?_⟩
  repeat (first
    | refine w_seq ?_
    | refine w_region ?_
    | refine w_draw0 ?_
    | refine w_nil ?_
    | refine q_then ?_
    | refine w_skip ?_
    | refine w_ret ?_
    | refine w_block ?_
    | refine w_scope ?_
    | refine w_label ?_
    | refine q_thenR ?_
    | refine q_blockR ?_
    | refine q_blockN ?_
    | refine w_exit ?_
    | refine q_thenE ?_
    | refine q_blockE ?_
    | refine q_blockO rfl ?_
    | (apply w_op rfl
       · simp [hj]
         first | rfl | exact ⟨‹_›, rfl⟩)
    | (refine w_condT ?_ ?_
       · simp [hj]
         done)
    | (refine w_condF ?_ ?_
       · simp [hj]
         done)
    | (apply w_opT rfl
       · simp [hj]
         done
       · simp [hj]
         rfl)
    | (refine w_opF ?_ ?_
       · simp [hj]
         done))
  have h2 : (judgeV o s.peer s.id).2.2.length ≤ 140737488355328 := Nat.le_trans (judge_len _ _ _) (by decide)
  have hl : linkedV f = true := by simp [linkedV, hf]
  have hpc := pc48 s f cn cl up lost (judgeV o s.peer s.id).1 (judgeV o s.peer s.id).2.1 (judgeV o s.peer s.id).2.2 (judge_one _ _ _) h2
  simp only [hl, hf, hj, ne_eq, not_false_eq_true, and_self, if_true] at hpc
  apply w_call [0] (hc := by kernel_rfl) (pc := hpc)
  · decide
  · decide
  · simp [hf]
  · simp [hf]
  · simp [hf]
  · simp [hf]
  · simp [hf]
  · (simp [hf]; rfl)
  repeat (first
    | refine w_seq ?_
    | refine w_region ?_
    | refine w_draw0 ?_
    | refine w_nil ?_
    | refine q_then ?_
    | refine w_skip ?_
    | refine w_ret ?_
    | refine w_block ?_
    | refine w_scope ?_
    | refine w_label ?_
    | refine q_thenR ?_
    | refine q_blockR ?_
    | refine q_blockN ?_
    | refine w_exit ?_
    | refine q_thenE ?_
    | refine q_blockE ?_
    | refine q_blockO rfl ?_
    | (apply w_op rfl
       · simp 
         first | rfl | exact ⟨‹_›, rfl⟩)
    | (refine w_condT ?_ ?_
       · simp 
         done)
    | (refine w_condF ?_ ?_
       · simp 
         done)
    | (apply w_opT rfl
       · simp 
         done
       · simp 
         rfl)
    | (refine w_opF ?_ ?_
       · simp 
         done))
  simp [Fin, idleF, badM]

end Go.V

