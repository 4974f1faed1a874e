/- CollideRivals: the other side's Step. -/
import Derived.Test.YtimdfdmdogeiaaaCP10
set_option linter.all false
set_option linter.unusedSimpArgs false
set_option linter.unusedVariables false
namespace Go.V
open Go Go.Proofs

theorem pc17i (s : Sd) (f : Fs) (hf : f.state = 0) (code sub : Int) (data : List (List D)) : PC Try.prog 17 [.agg s.cs, .agg f.cs, .agg (evC 8 noMsg code sub data)] (tab []) (.tup [.agg f.cs, .agg (otC [] false false false false)]) (tab []) := by
  refine F17.pc0 (by simp) ?_
  unfold c17
  cases hp : s.passive with
  | true =>
    repeat (first
      | refine w_seq ?_
      | refine w_region ?_
      | refine w_draw0 ?_
      | refine w_nil ?_
      | refine q_then ?_
      | refine w_skip ?_
      | refine w_ret ?_
      | refine w_block ?_
      | refine w_scope ?_
      | refine w_label ?_
      | refine q_thenR ?_
      | refine q_blockR ?_
      | refine q_blockN ?_
      | refine w_exit ?_
      | refine q_thenE ?_
      | refine q_blockE ?_
      | refine q_blockO rfl ?_
      | (apply w_op rfl
         · simp [hp, hf]
           first | rfl | exact ⟨‹_›, rfl⟩)
      | (refine w_condT ?_ ?_
         · simp [hp, hf]
           done)
      | (refine w_condF ?_ ?_
         · simp [hp, hf]
           done)
      | (apply w_opT rfl
         · simp [hp, hf]
           done
         · simp [hp, hf]
           rfl)
      | (refine w_opF ?_ ?_
         · simp [hp, hf]
           done))
    simp [Fin, hp, hf]
  | false =>
    repeat (first
      | refine w_seq ?_
      | refine w_region ?_
      | refine w_draw0 ?_
      | refine w_nil ?_
      | refine q_then ?_
      | refine w_skip ?_
      | refine w_ret ?_
      | refine w_block ?_
      | refine w_scope ?_
      | refine w_label ?_
      | refine q_thenR ?_
      | refine q_blockR ?_
      | refine q_blockN ?_
      | refine w_exit ?_
      | refine q_thenE ?_
      | refine q_blockE ?_
      | refine q_blockO rfl ?_
      | (apply w_op rfl
         · simp [hp, hf]
           first | rfl | exact ⟨‹_›, rfl⟩)
      | (refine w_condT ?_ ?_
         · simp [hp, hf]
           done)
      | (refine w_condF ?_ ?_
         · simp [hp, hf]
           done)
      | (apply w_opT rfl
         · simp [hp, hf]
           done
         · simp [hp, hf]
           rfl)
      | (refine w_opF ?_ ?_
         · simp [hp, hf]
           done))
    simp [Fin, hp, hf]

theorem pc17c1 (s : Sd) (f : Fs) (hf : f.state ≠ 0) (hl : linkedV f = true) (code sub : Int) (hc : code ≠ 0) (data : List (List D)) : PC Try.prog 17 [.agg s.cs, .agg f.cs, .agg (evC 8 noMsg code sub data)] (tab [])
    (.tup [.agg (idleF s).cs, .agg (otC [(⟨3, noOpn, code, sub, data⟩ : Msg).ds] false true false (f.state == 5))]) (tab []) := by
  refine F17.pc0 (by simp) ?_
  unfold c17
  cases hp : s.passive with
  | true =>
    repeat (first
      | refine w_seq ?_
      | refine w_region ?_
      | refine w_draw0 ?_
      | refine w_nil ?_
      | refine q_then ?_
      | refine w_skip ?_
      | refine w_ret ?_
      | refine w_block ?_
      | refine w_scope ?_
      | refine w_label ?_
      | refine q_thenR ?_
      | refine q_blockR ?_
      | refine q_blockN ?_
      | refine w_exit ?_
      | refine q_thenE ?_
      | refine q_blockE ?_
      | refine q_blockO rfl ?_
      | (apply w_op rfl
         · simp [hp, hf]
           first | rfl | exact ⟨‹_›, rfl⟩)
      | (refine w_condT ?_ ?_
         · simp [hp, hf]
           done)
      | (refine w_condF ?_ ?_
         · simp [hp, hf]
           done)
      | (apply w_opT rfl
         · simp [hp, hf]
           done
         · simp [hp, hf]
           rfl)
      | (refine w_opF ?_ ?_
         · simp [hp, hf]
           done))
    apply w_call0 (hc := by kernel_rfl) (pc := pc25c1 s f hl code sub hc data)
    · simp [hp]
    · (simp [hp]; rfl)
    repeat (first
      | refine w_seq ?_
      | refine w_region ?_
      | refine w_draw0 ?_
      | refine w_nil ?_
      | refine q_then ?_
      | refine w_skip ?_
      | refine w_ret ?_
      | refine w_block ?_
      | refine w_scope ?_
      | refine w_label ?_
      | refine q_thenR ?_
      | refine q_blockR ?_
      | refine q_blockN ?_
      | refine w_exit ?_
      | refine q_thenE ?_
      | refine q_blockE ?_
      | refine q_blockO rfl ?_
      | (apply w_op rfl
         · simp 
           first | rfl | exact ⟨‹_›, rfl⟩)
      | (refine w_condT ?_ ?_
         · simp 
           done)
      | (refine w_condF ?_ ?_
         · simp 
           done)
      | (apply w_opT rfl
         · simp 
           done
         · simp 
           rfl)
      | (refine w_opF ?_ ?_
         · simp 
           done))
    simp [Fin, hp]
  | false =>
    repeat (first
      | refine w_seq ?_
      | refine w_region ?_
      | refine w_draw0 ?_
      | refine w_nil ?_
      | refine q_then ?_
      | refine w_skip ?_
      | refine w_ret ?_
      | refine w_block ?_
      | refine w_scope ?_
      | refine w_label ?_
      | refine q_thenR ?_
      | refine q_blockR ?_
      | refine q_blockN ?_
      | refine w_exit ?_
      | refine q_thenE ?_
      | refine q_blockE ?_
      | refine q_blockO rfl ?_
      | (apply w_op rfl
         · simp [hp, hf]
           first | rfl | exact ⟨‹_›, rfl⟩)
      | (refine w_condT ?_ ?_
         · simp [hp, hf]
           done)
      | (refine w_condF ?_ ?_
         · simp [hp, hf]
           done)
      | (apply w_opT rfl
         · simp [hp, hf]
           done
         · simp [hp, hf]
           rfl)
      | (refine w_opF ?_ ?_
         · simp [hp, hf]
           done))
    apply w_call0 (hc := by kernel_rfl) (pc := pc25c1 s f hl code sub hc data)
    · simp [hp]
    · (simp [hp]; rfl)
    repeat (first
      | refine w_seq ?_
      | refine w_region ?_
      | refine w_draw0 ?_
      | refine w_nil ?_
      | refine q_then ?_
      | refine w_skip ?_
      | refine w_ret ?_
      | refine w_block ?_
      | refine w_scope ?_
      | refine w_label ?_
      | refine q_thenR ?_
      | refine q_blockR ?_
      | refine q_blockN ?_
      | refine w_exit ?_
      | refine q_thenE ?_
      | refine q_blockE ?_
      | refine q_blockO rfl ?_
      | (apply w_op rfl
         · simp 
           first | rfl | exact ⟨‹_›, rfl⟩)
      | (refine w_condT ?_ ?_
         · simp 
           done)
      | (refine w_condF ?_ ?_
         · simp 
           done)
      | (apply w_opT rfl
         · simp 
           done
         · simp 
           rfl)
      | (refine w_opF ?_ ?_
         · simp 
           done))
    simp [Fin, hp]

theorem pc17c0 (s : Sd) (f : Fs) (hf : f.state ≠ 0) (hl : linkedV f = false) (code sub : Int) (data : List (List D)) : PC Try.prog 17 [.agg s.cs, .agg f.cs, .agg (evC 8 noMsg code sub data)] (tab [])
    (.tup [.agg (idleF s).cs, .agg (otC [] false (f.state == 1) false (f.state == 5))]) (tab []) := by
  refine F17.pc0 (by simp) ?_
  unfold c17
  cases hp : s.passive with
  | true =>
    repeat (first
      | refine w_seq ?_
      | refine w_region ?_
      | refine w_draw0 ?_
      | refine w_nil ?_
      | refine q_then ?_
      | refine w_skip ?_
      | refine w_ret ?_
      | refine w_block ?_
      | refine w_scope ?_
      | refine w_label ?_
      | refine q_thenR ?_
      | refine q_blockR ?_
      | refine q_blockN ?_
      | refine w_exit ?_
      | refine q_thenE ?_
      | refine q_blockE ?_
      | refine q_blockO rfl ?_
      | (apply w_op rfl
         · simp [hp, hf]
           first | rfl | exact ⟨‹_›, rfl⟩)
      | (refine w_condT ?_ ?_
         · simp [hp, hf]
           done)
      | (refine w_condF ?_ ?_
         · simp [hp, hf]
           done)
      | (apply w_opT rfl
         · simp [hp, hf]
           done
         · simp [hp, hf]
           rfl)
      | (refine w_opF ?_ ?_
         · simp [hp, hf]
           done))
    apply w_call0 (hc := by kernel_rfl) (pc := pc25c0 s f hl code sub data)
    · simp [hp]
    · (simp [hp]; rfl)
    repeat (first
      | refine w_seq ?_
      | refine w_region ?_
      | refine w_draw0 ?_
      | refine w_nil ?_
      | refine q_then ?_
      | refine w_skip ?_
      | refine w_ret ?_
      | refine w_block ?_
      | refine w_scope ?_
      | refine w_label ?_
      | refine q_thenR ?_
      | refine q_blockR ?_
      | refine q_blockN ?_
      | refine w_exit ?_
      | refine q_thenE ?_
      | refine q_blockE ?_
      | refine q_blockO rfl ?_
      | (apply w_op rfl
         · simp 
           first | rfl | exact ⟨‹_›, rfl⟩)
      | (refine w_condT ?_ ?_
         · simp 
           done)
      | (refine w_condF ?_ ?_
         · simp 
           done)
      | (apply w_opT rfl
         · simp 
           done
         · simp 
           rfl)
      | (refine w_opF ?_ ?_
         · simp 
           done))
    simp [Fin, hp]
  | false =>
    repeat (first
      | refine w_seq ?_
      | refine w_region ?_
      | refine w_draw0 ?_
      | refine w_nil ?_
      | refine q_then ?_
      | refine w_skip ?_
      | refine w_ret ?_
      | refine w_block ?_
      | refine w_scope ?_
      | refine w_label ?_
      | refine q_thenR ?_
      | refine q_blockR ?_
      | refine q_blockN ?_
      | refine w_exit ?_
      | refine q_thenE ?_
      | refine q_blockE ?_
      | refine q_blockO rfl ?_
      | (apply w_op rfl
         · simp [hp, hf]
           first | rfl | exact ⟨‹_›, rfl⟩)
      | (refine w_condT ?_ ?_
         · simp [hp, hf]
           done)
      | (refine w_condF ?_ ?_
         · simp [hp, hf]
           done)
      | (apply w_opT rfl
         · simp [hp, hf]
           done
         · simp [hp, hf]
           rfl)
      | (refine w_opF ?_ ?_
         · simp [hp, hf]
           done))
    apply w_call0 (hc := by kernel_rfl) (pc := pc25c0 s f hl code sub data)
    · simp [hp]
    · (simp [hp]; rfl)
    repeat (first
      | refine w_seq ?_
      | refine w_region ?_
      | refine w_draw0 ?_
      | refine w_nil ?_
      | refine q_then ?_
      | refine w_skip ?_
      | refine w_ret ?_
      | refine w_block ?_
      | refine w_scope ?_
      | refine w_label ?_
      | refine q_thenR ?_
      | refine q_blockR ?_
      | refine q_blockN ?_
      | refine w_exit ?_
      | refine q_thenE ?_
      | refine q_blockE ?_
      | refine q_blockO rfl ?_
      | (apply w_op rfl
         · simp 
           first | rfl | exact ⟨‹_›, rfl⟩)
      | (refine w_condT ?_ ?_
         · simp 
           done)
      | (refine w_condF ?_ ?_
         · simp 
           done)
      | (apply w_opT rfl
         · simp 
           done
         · simp 
           rfl)
      | (refine w_opF ?_ ?_
         · simp 
           done))
    simp [Fin, hp]

theorem pc17u (s : Sd) (f : Fs) (hf : f.state = 2) : PC Try.prog 17 [.agg s.cs, .agg f.cs, .agg (evC 3 noMsg 0 0 [])] (tab []) (.tup [.agg upF.cs, .agg (otC [(helloV s).ds] false false false false)]) (tab []) := by
  refine F17.pc0 (by simp) ?_
  unfold c17
  cases hp : s.passive with
  | true =>
    repeat (first
      | refine w_seq ?_
      | refine w_region ?_
      | refine w_draw0 ?_
      | refine w_nil ?_
      | refine q_then ?_
      | refine w_skip ?_
      | refine w_ret ?_
      | refine w_block ?_
      | refine w_scope ?_
      | refine w_label ?_
      | refine q_thenR ?_
      | refine q_blockR ?_
      | refine q_blockN ?_
      | refine w_exit ?_
      | refine q_thenE ?_
      | refine q_blockE ?_
      | refine q_blockO rfl ?_
      | (apply w_op rfl
         · simp [hp, hf]
           first | rfl | exact ⟨‹_›, rfl⟩)
      | (refine w_condT ?_ ?_
         · simp [hp, hf]
           done)
      | (refine w_condF ?_ ?_
         · simp [hp, hf]
           done)
      | (apply w_opT rfl
         · simp [hp, hf]
           done
         · simp [hp, hf]
           rfl)
      | (refine w_opF ?_ ?_
         · simp [hp, hf]
           done))
    refine w_draw ?_
    repeat (first
      | refine w_dnil ?_
      | (apply d_op rfl
         · simp [hp]
           first | rfl | exact ⟨‹_›, rfl⟩)
      | (apply d_opT rfl
         · simp [hp]
           done
         · simp [hp]
           rfl)
      | (refine d_opF ?_ ?_
         · simp [hp]
           done))
    refine ⟨by simp, ?_⟩
    repeat (first
      | refine w_seq ?_
      | refine w_region ?_
      | refine w_draw0 ?_
      | refine w_nil ?_
      | refine q_then ?_
      | refine w_skip ?_
      | refine w_ret ?_
      | refine w_block ?_
      | refine w_scope ?_
      | refine w_label ?_
      | refine q_thenR ?_
      | refine q_blockR ?_
      | refine q_blockN ?_
      | refine w_exit ?_
      | refine q_thenE ?_
      | refine q_blockE ?_
      | refine q_blockO rfl ?_
      | (apply w_op rfl
         · simp 
           first | rfl | exact ⟨‹_›, rfl⟩)
      | (refine w_condT ?_ ?_
         · simp 
           done)
      | (refine w_condF ?_ ?_
         · simp 
           done)
      | (apply w_opT rfl
         · simp 
           done
         · simp 
           rfl)
      | (refine w_opF ?_ ?_
         · simp 
           done))
    simp [Fin, helloV, upF, noOpn]
  | false =>
    repeat (first
      | refine w_seq ?_
      | refine w_region ?_
      | refine w_draw0 ?_
      | refine w_nil ?_
      | refine q_then ?_
      | refine w_skip ?_
      | refine w_ret ?_
      | refine w_block ?_
      | refine w_scope ?_
      | refine w_label ?_
      | refine q_thenR ?_
      | refine q_blockR ?_
      | refine q_blockN ?_
      | refine w_exit ?_
      | refine q_thenE ?_
      | refine q_blockE ?_
      | refine q_blockO rfl ?_
      | (apply w_op rfl
         · simp [hp, hf]
           first | rfl | exact ⟨‹_›, rfl⟩)
      | (refine w_condT ?_ ?_
         · simp [hp, hf]
           done)
      | (refine w_condF ?_ ?_
         · simp [hp, hf]
           done)
      | (apply w_opT rfl
         · simp [hp, hf]
           done
         · simp [hp, hf]
           rfl)
      | (refine w_opF ?_ ?_
         · simp [hp, hf]
           done))
    refine w_draw ?_
    repeat (first
      | refine w_dnil ?_
      | (apply d_op rfl
         · simp [hp]
           first | rfl | exact ⟨‹_›, rfl⟩)
      | (apply d_opT rfl
         · simp [hp]
           done
         · simp [hp]
           rfl)
      | (refine d_opF ?_ ?_
         · simp [hp]
           done))
    refine ⟨by simp, ?_⟩
    repeat (first
      | refine w_seq ?_
      | refine w_region ?_
      | refine w_draw0 ?_
      | refine w_nil ?_
      | refine q_then ?_
      | refine w_skip ?_
      | refine w_ret ?_
      | refine w_block ?_
      | refine w_scope ?_
      | refine w_label ?_
      | refine q_thenR ?_
      | refine q_blockR ?_
      | refine q_blockN ?_
      | refine w_exit ?_
      | refine q_thenE ?_
      | refine q_blockE ?_
      | refine q_blockO rfl ?_
      | (apply w_op rfl
         · simp 
           first | rfl | exact ⟨‹_›, rfl⟩)
      | (refine w_condT ?_ ?_
         · simp 
           done)
      | (refine w_condF ?_ ?_
         · simp 
           done)
      | (apply w_opT rfl
         · simp 
           done
         · simp 
           rfl)
      | (refine w_opF ?_ ?_
         · simp 
           done))
    simp [Fin, helloV, upF, noOpn]

theorem pc17m (s : Sd) (f f' : Fs) (hf : f.state = 3) (o : Opn) (xs : List (List D)) (cn cl up lost : Bool)
    (h : PC Try.prog 27 [.agg s.cs, .agg f.cs, .agg (⟨1, o, 0, 0, []⟩ : Msg).cs] (tab []) (.tup [.agg f'.cs, .agg (otC xs cn cl up lost)]) (tab [])) : PC Try.prog 17 [.agg s.cs, .agg f.cs, .agg (evC 6 ⟨1, o, 0, 0, []⟩ 0 0 [])] (tab [])
    (.tup [.agg f'.cs, .agg (otC xs cn cl up lost)]) (tab []) := by
  have hl : linkedV f = true := by simp [linkedV, hf]
  have h6 := pc6 f
  rw [hl] at h6
  refine F17.pc0 (by simp) ?_
  unfold c17
  cases hp : s.passive with
  | true =>
    repeat (first
      | refine w_seq ?_
      | refine w_region ?_
      | refine w_draw0 ?_
      | refine w_nil ?_
      | refine q_then ?_
      | refine w_skip ?_
      | refine w_ret ?_
      | refine w_block ?_
      | refine w_scope ?_
      | refine w_label ?_
      | refine q_thenR ?_
      | refine q_blockR ?_
      | refine q_blockN ?_
      | refine w_exit ?_
      | refine q_thenE ?_
      | refine q_blockE ?_
      | refine q_blockO rfl ?_
      | (apply w_op rfl
         · simp [hp, hf]
           first | rfl | exact ⟨‹_›, rfl⟩)
      | (refine w_condT ?_ ?_
         · simp [hp, hf]
           done)
      | (refine w_condF ?_ ?_
         · simp [hp, hf]
           done)
      | (apply w_opT rfl
         · simp [hp, hf]
           done
         · simp [hp, hf]
           rfl)
      | (refine w_opF ?_ ?_
         · simp [hp, hf]
           done))
    apply w_call0 (hc := by kernel_rfl) (pc := h6)
    · simp [hp, hf]
    · (simp [hp, hf]; rfl)
    repeat (first
      | refine w_seq ?_
      | refine w_region ?_
      | refine w_draw0 ?_
      | refine w_nil ?_
      | refine q_then ?_
      | refine w_skip ?_
      | refine w_ret ?_
      | refine w_block ?_
      | refine w_scope ?_
      | refine w_label ?_
      | refine q_thenR ?_
      | refine q_blockR ?_
      | refine q_blockN ?_
      | refine w_exit ?_
      | refine q_thenE ?_
      | refine q_blockE ?_
      | refine q_blockO rfl ?_
      | (apply w_op rfl
         · simp [hp, hf]
           first | rfl | exact ⟨‹_›, rfl⟩)
      | (refine w_condT ?_ ?_
         · simp [hp, hf]
           done)
      | (refine w_condF ?_ ?_
         · simp [hp, hf]
           done)
      | (apply w_opT rfl
         · simp [hp, hf]
           done
         · simp [hp, hf]
           rfl)
      | (refine w_opF ?_ ?_
         · simp [hp, hf]
           done))
    apply w_call0 (hc := by kernel_rfl) (pc := h)
    · simp [hp, hf]
    · (simp [hp, hf]; rfl)
    repeat (first
      | refine w_seq ?_
      | refine w_region ?_
      | refine w_draw0 ?_
      | refine w_nil ?_
      | refine q_then ?_
      | refine w_skip ?_
      | refine w_ret ?_
      | refine w_block ?_
      | refine w_scope ?_
      | refine w_label ?_
      | refine q_thenR ?_
      | refine q_blockR ?_
      | refine q_blockN ?_
      | refine w_exit ?_
      | refine q_thenE ?_
      | refine q_blockE ?_
      | refine q_blockO rfl ?_
      | (apply w_op rfl
         · simp 
           first | rfl | exact ⟨‹_›, rfl⟩)
      | (refine w_condT ?_ ?_
         · simp 
           done)
      | (refine w_condF ?_ ?_
         · simp 
           done)
      | (apply w_opT rfl
         · simp 
           done
         · simp 
           rfl)
      | (refine w_opF ?_ ?_
         · simp 
           done))
    simp [Fin]
  | false =>
    repeat (first
      | refine w_seq ?_
      | refine w_region ?_
      | refine w_draw0 ?_
      | refine w_nil ?_
      | refine q_then ?_
      | refine w_skip ?_
      | refine w_ret ?_
      | refine w_block ?_
      | refine w_scope ?_
      | refine w_label ?_
      | refine q_thenR ?_
      | refine q_blockR ?_
      | refine q_blockN ?_
      | refine w_exit ?_
      | refine q_thenE ?_
      | refine q_blockE ?_
      | refine q_blockO rfl ?_
      | (apply w_op rfl
         · simp [hp, hf]
           first | rfl | exact ⟨‹_›, rfl⟩)
      | (refine w_condT ?_ ?_
         · simp [hp, hf]
           done)
      | (refine w_condF ?_ ?_
         · simp [hp, hf]
           done)
      | (apply w_opT rfl
         · simp [hp, hf]
           done
         · simp [hp, hf]
           rfl)
      | (refine w_opF ?_ ?_
         · simp [hp, hf]
           done))
    apply w_call0 (hc := by kernel_rfl) (pc := h6)
    · simp [hp, hf]
    · (simp [hp, hf]; rfl)
    repeat (first
      | refine w_seq ?_
      | refine w_region ?_
      | refine w_draw0 ?_
      | refine w_nil ?_
      | refine q_then ?_
      | refine w_skip ?_
      | refine w_ret ?_
      | refine w_block ?_
      | refine w_scope ?_
      | refine w_label ?_
      | refine q_thenR ?_
      | refine q_blockR ?_
      | refine q_blockN ?_
      | refine w_exit ?_
      | refine q_thenE ?_
      | refine q_blockE ?_
      | refine q_blockO rfl ?_
      | (apply w_op rfl
         · simp [hp, hf]
           first | rfl | exact ⟨‹_›, rfl⟩)
      | (refine w_condT ?_ ?_
         · simp [hp, hf]
           done)
      | (refine w_condF ?_ ?_
         · simp [hp, hf]
           done)
      | (apply w_opT rfl
         · simp [hp, hf]
           done
         · simp [hp, hf]
           rfl)
      | (refine w_opF ?_ ?_
         · simp [hp, hf]
           done))
    apply w_call0 (hc := by kernel_rfl) (pc := h)
    · simp [hp, hf]
    · (simp [hp, hf]; rfl)
    repeat (first
      | refine w_seq ?_
      | refine w_region ?_
      | refine w_draw0 ?_
      | refine w_nil ?_
      | refine q_then ?_
      | refine w_skip ?_
      | refine w_ret ?_
      | refine w_block ?_
      | refine w_scope ?_
      | refine w_label ?_
      | refine q_thenR ?_
      | refine q_blockR ?_
      | refine q_blockN ?_
      | refine w_exit ?_
      | refine q_thenE ?_
      | refine q_blockE ?_
      | refine q_blockO rfl ?_
      | (apply w_op rfl
         · simp 
           first | rfl | exact ⟨‹_›, rfl⟩)
      | (refine w_condT ?_ ?_
         · simp 
           done)
      | (refine w_condF ?_ ?_
         · simp 
           done)
      | (apply w_opT rfl
         · simp 
           done
         · simp 
           rfl)
      | (refine w_opF ?_ ?_
         · simp 
           done))
    simp [Fin]

abbrev actF : Fs := ⟨2, 0, 0, 0, 0, noOpn⟩

theorem pc10 (s : Sd) (f f1 f3 : Fs) (o : Opn) (xs1 xs3 : List (List D)) (cn1 cl1 up1 lost1 cn3 cl3 up3 lost3 : Bool) (l1 : ∀ x ∈ xs1, x.length = 19) (l3 : ∀ x ∈ xs3, x.length = 19) (n1 : xs1.length ≤ 1) (n3 : xs3.length ≤ 1)
    (h1 : PC Try.prog 17 [.agg s.cs, .agg f.cs, .agg (evC 8 noMsg 6 7 [])] (tab []) (.tup [.agg f1.cs, .agg (otC xs1 cn1 cl1 up1 lost1)]) (tab []))
    (h3 : PC Try.prog 17 [.agg s.cs, .agg upF.cs, .agg (evC 6 ⟨1, o, 0, 0, []⟩ 0 0 [])] (tab []) (.tup [.agg f3.cs, .agg (otC xs3 cn3 cl3 up3 lost3)]) (tab [])) :
    PC Try.prog 10 [.agg s.cs, .agg f.cs, .agg o.cs] (tab []) (.tup [.agg f3.cs, .agg (otC (xs1 ++ [(helloV s).ds] ++ xs3) false cl1 false lost1)]) (tab []) := by
  have h2 := pc17u s actF rfl
  refine F10.pc0 (by simp) ?_
  unfold c10
  repeat (first
    | refine w_seq ?_
    | refine w_region ?_
    | refine w_draw0 ?_
    | refine w_nil ?_
    | refine q_then ?_
    | refine w_skip ?_
    | refine w_ret ?_
    | refine w_block ?_
    | refine w_scope ?_
    | refine w_label ?_
    | refine q_thenR ?_
    | refine q_blockR ?_
    | refine q_blockN ?_
    | refine w_exit ?_
    | refine q_thenE ?_
    | refine q_blockE ?_
    | refine q_blockO rfl ?_
    | (apply w_op rfl
       · simp 
         first | rfl | exact ⟨‹_›, rfl⟩)
    | (refine w_condT ?_ ?_
       · simp 
         done)
    | (refine w_condF ?_ ?_
       · simp 
         done)
    | (apply w_opT rfl
       · simp 
         done
       · simp 
         rfl)
    | (refine w_opF ?_ ?_
       · simp 
         done))
  apply w_call0 (hc := by kernel_rfl) (pc := h1)
  · simp [noMsg, noOpn]
  · (simp [noMsg, noOpn]; rfl)
  repeat (first
    | refine w_seq ?_
    | refine w_region ?_
    | refine w_draw0 ?_
    | refine w_nil ?_
    | refine q_then ?_
    | refine w_skip ?_
    | refine w_ret ?_
    | refine w_block ?_
    | refine w_scope ?_
    | refine w_label ?_
    | refine q_thenR ?_
    | refine q_blockR ?_
    | refine q_blockN ?_
    | refine w_exit ?_
    | refine q_thenE ?_
    | refine q_blockE ?_
    | refine q_blockO rfl ?_
    | (apply w_op rfl
       · simp 
         first | rfl | exact ⟨‹_›, rfl⟩)
    | (refine w_condT ?_ ?_
       · simp 
         done)
    | (refine w_condF ?_ ?_
       · simp 
         done)
    | (apply w_opT rfl
       · simp 
         done
       · simp 
         rfl)
    | (refine w_opF ?_ ?_
       · simp 
         done))
  apply w_call0 (hc := by kernel_rfl) (pc := h2)
  · simp [noMsg, noOpn]
  · (simp [noMsg, noOpn]; rfl)
  repeat (first
    | refine w_seq ?_
    | refine w_region ?_
    | refine w_draw0 ?_
    | refine w_nil ?_
    | refine q_then ?_
    | refine w_skip ?_
    | refine w_ret ?_
    | refine w_block ?_
    | refine w_scope ?_
    | refine w_label ?_
    | refine q_thenR ?_
    | refine q_blockR ?_
    | refine q_blockN ?_
    | refine w_exit ?_
    | refine q_thenE ?_
    | refine q_blockE ?_
    | refine q_blockO rfl ?_
    | (apply w_op rfl
       · simp 
         first | rfl | exact ⟨‹_›, rfl⟩)
    | (refine w_condT ?_ ?_
       · simp 
         done)
    | (refine w_condF ?_ ?_
       · simp 
         done)
    | (apply w_opT rfl
       · simp 
         done
       · simp 
         rfl)
    | (refine w_opF ?_ ?_
       · simp 
         done))
  apply w_call0 (hc := by kernel_rfl) (pc := h3)
  · simp 
  · (simp ; rfl)
  repeat (first
    | refine w_seq ?_
    | refine w_region ?_
    | refine w_draw0 ?_
    | refine w_nil ?_
    | refine q_then ?_
    | refine w_skip ?_
    | refine w_ret ?_
    | refine w_block ?_
    | refine w_scope ?_
    | refine w_label ?_
    | refine q_thenR ?_
    | refine q_blockR ?_
    | refine q_blockN ?_
    | refine w_exit ?_
    | refine q_thenE ?_
    | refine q_blockE ?_
    | refine q_blockO rfl ?_
    | (apply w_op rfl
       · simp 
         first | rfl | exact ⟨‹_›, rfl⟩)
    | (refine w_condT ?_ ?_
       · simp 
         done)
    | (refine w_condF ?_ ?_
       · simp 
         done)
    | (apply w_opT rfl
       · simp 
         done
       · simp 
         rfl)
    | (refine w_opF ?_ ?_
       · simp 
         done))
  have a1 : (∀ y, y ∈ xs1 → y.length = 19) ∧ xs1.length * 208 ≤ 140737488355328 := ⟨l1, by omega⟩
  repeat (first
    | refine w_seq ?_
    | refine w_region ?_
    | refine w_draw0 ?_
    | refine w_nil ?_
    | refine q_then ?_
    | refine w_skip ?_
    | refine w_ret ?_
    | refine w_block ?_
    | refine w_scope ?_
    | refine w_label ?_
    | refine q_thenR ?_
    | refine q_blockR ?_
    | refine q_blockN ?_
    | refine w_exit ?_
    | refine q_thenE ?_
    | refine q_blockE ?_
    | refine q_blockO rfl ?_
    | (apply w_op rfl
       · simp 
         first | rfl | exact ⟨‹_›, rfl⟩)
    | (refine w_condT ?_ ?_
       · simp 
         done)
    | (refine w_condF ?_ ?_
       · simp 
         done)
    | (apply w_opT rfl
       · simp 
         done
       · simp 
         rfl)
    | (refine w_opF ?_ ?_
       · simp 
         done))
  have a3 : (∀ y, y ∈ xs3 → y.length = 19) ∧ (xs1.length + 1 + xs3.length) * 208 ≤ 140737488355328 := ⟨l3, by omega⟩
  have a2 : (xs1.length + 1) * 208 ≤ 140737488355328 := by omega
  repeat (first
    | refine w_seq ?_
    | refine w_region ?_
    | refine w_draw0 ?_
    | refine w_nil ?_
    | refine q_then ?_
    | refine w_skip ?_
    | refine w_ret ?_
    | refine w_block ?_
    | refine w_scope ?_
    | refine w_label ?_
    | refine q_thenR ?_
    | refine q_blockR ?_
    | refine q_blockN ?_
    | refine w_exit ?_
    | refine q_thenE ?_
    | refine q_blockE ?_
    | refine q_blockO rfl ?_
    | (apply w_op rfl
       · simp 
         first | rfl | exact ⟨‹_›, rfl⟩)
    | (refine w_condT ?_ ?_
       · simp 
         done)
    | (refine w_condF ?_ ?_
       · simp 
         done)
    | (apply w_opT rfl
       · simp 
         done
       · simp 
         rfl)
    | (refine w_opF ?_ ?_
       · simp 
         done))
  refine w_draw ?_
  repeat (first
    | refine w_dnil ?_
    | (apply d_op rfl
       · simp 
         first | rfl | exact ⟨‹_›, rfl⟩)
    | (apply d_opT rfl
       · simp 
         done
       · simp 
         rfl)
    | (refine d_opF ?_ ?_
       · simp 
         done))
  refine ⟨by simp, ?_⟩
  repeat (first
    | refine w_seq ?_
    | refine w_region ?_
    | refine w_draw0 ?_
    | refine w_nil ?_
    | refine q_then ?_
    | refine w_skip ?_
    | refine w_ret ?_
    | refine w_block ?_
    | refine w_scope ?_
    | refine w_label ?_
    | refine q_thenR ?_
    | refine q_blockR ?_
    | refine q_blockN ?_
    | refine w_exit ?_
    | refine q_thenE ?_
    | refine q_blockE ?_
    | refine q_blockO rfl ?_
    | (apply w_op rfl
       · simp 
         first | rfl | exact ⟨‹_›, rfl⟩)
    | (refine w_condT ?_ ?_
       · simp 
         done)
    | (refine w_condF ?_ ?_
       · simp 
         done)
    | (apply w_opT rfl
       · simp 
         done
       · simp 
         rfl)
    | (refine w_opF ?_ ?_
       · simp 
         done))
  simp [Fin]

end Go.V

