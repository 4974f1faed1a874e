/- CollideRivals: the law, given Swap on both sides. -/
import Derived.Test.YtimdfdmdogeiaaaCP17
set_option linter.all false
set_option linter.unusedSimpArgs false
set_option linter.unusedVariables false
namespace Go.V
open Go Go.Proofs

theorem rival_link (s : Sd) (f : Fs) (ours : Bool) (o : Opn) (hl : linkedV f = true) : (rivalV s f ours o).2 = (6, 7) := by
  simp only [linkedV, Bool.and_eq_true, decide_eq_true_eq] at hl
  unfold rivalV
  split
  · rfl
  · split
    · rfl
    · omega

theorem rival_free (s : Sd) (f : Fs) (ours : Bool) (o : Opn) (hl : linkedV f = false) : (rivalV s f ours o).2 = (0, 0) := by
  have h : ¬ (3 ≤ f.state ∧ f.state ≤ 5) := by
    intro h
    simp [linkedV, h.1, h.2] at hl
  unfold rivalV
  split
  · omega
  · split
    · omega
    · rfl

abbrev otherC (ours : Bool) (o : Opn) : List C := [cB ours, cU o.asn, cI o.hold, cU o.id, cB o.four]

set_option maxHeartbeats 4000000 in
set_option maxRecDepth 8000 in
theorem pc3 (s : Sd) (f f3 : Fs) (ours : Bool) (o : Opn) (ms : List Msg) (hms : ∀ m ∈ ms, OkMsg m) (hn : ms.length ≤ 1000) (cl lost : Bool)
    (h16 : PC Try.prog 16 [.agg s.cs, .agg f.cs, .agg o.cs] (tab []) (.tup [.agg f3.cs, .agg (otC (ms.map Msg.ds) false cl false lost)]) (tab []))
    (h10 : PC Try.prog 10 [.agg s.cs, .agg f.cs, .agg o.cs] (tab []) (.tup [.agg f3.cs, .agg (otC (ms.map Msg.ds) false cl false lost)]) (tab [])) :
    PC Try.prog 3 [.agg s.cs, .agg f.cs, .agg (otherC ours o)] (tab []) (vb true) (tab []) := by
  have h9 := pc9 s f f3 o _ _ _ _ _ h16
  have h11 := pc11 ms hms hn false cl false lost
  have h11e := pc11 [] (by simp) (by simp) false false false false
  simp only [List.map_nil] at h11e
  have h5 := pc5 s f ours o
  have h7 := pc7 s f ours o
  refine F3.pc0 (by simp) ?_
  unfold c3
  by_cases a1 : f.holdLeft < 0
  · repeat (first
      | refine w_seq ?_
      | refine w_region ?_
      | refine w_draw0 ?_
      | refine w_nil ?_
      | refine q_then ?_
      | refine w_skip ?_
      | refine w_ret ?_
      | refine w_block ?_
      | refine w_scope ?_
      | refine w_label ?_
      | refine q_thenR ?_
      | refine q_blockR ?_
      | refine q_blockN ?_
      | refine w_exit ?_
      | refine q_thenE ?_
      | refine q_blockE ?_
      | refine q_blockO rfl ?_
      | (apply w_op rfl
         · simp [a1]
           first | rfl | exact ⟨‹_›, rfl⟩)
      | (refine w_condT ?_ ?_
         · simp [a1]
           done)
      | (refine w_condF ?_ ?_
         · simp [a1]
           done)
      | (apply w_opT rfl
         · simp [a1]
           done
         · simp [a1]
           rfl)
      | (refine w_opF ?_ ?_
         · simp [a1]
           done))
    apply w_call0 (hc := by kernel_rfl) (pc := pc4)
    · simp 
    · (simp ; rfl)
    repeat (first
      | refine w_seq ?_
      | refine w_region ?_
      | refine w_draw0 ?_
      | refine w_nil ?_
      | refine q_then ?_
      | refine w_skip ?_
      | refine w_ret ?_
      | refine w_block ?_
      | refine w_scope ?_
      | refine w_label ?_
      | refine q_thenR ?_
      | refine q_blockR ?_
      | refine q_blockN ?_
      | refine w_exit ?_
      | refine q_thenE ?_
      | refine q_blockE ?_
      | refine q_blockO rfl ?_
      | (apply w_op rfl
         · simp 
           first | rfl | exact ⟨‹_›, rfl⟩)
      | (refine w_condT ?_ ?_
         · simp 
           done)
      | (refine w_condF ?_ ?_
         · simp 
           done)
      | (apply w_opT rfl
         · simp 
           done
         · simp 
           rfl)
      | (refine w_opF ?_ ?_
         · simp 
           done))
    simp [Fin]
  by_cases a2 : f.keepLeft < 0
  · repeat (first
      | refine w_seq ?_
      | refine w_region ?_
      | refine w_draw0 ?_
      | refine w_nil ?_
      | refine q_then ?_
      | refine w_skip ?_
      | refine w_ret ?_
      | refine w_block ?_
      | refine w_scope ?_
      | refine w_label ?_
      | refine q_thenR ?_
      | refine q_blockR ?_
      | refine q_blockN ?_
      | refine w_exit ?_
      | refine q_thenE ?_
      | refine q_blockE ?_
      | refine q_blockO rfl ?_
      | (apply w_op rfl
         · simp [a1, a2]
           first | rfl | exact ⟨‹_›, rfl⟩)
      | (refine w_condT ?_ ?_
         · simp [a1, a2]
           done)
      | (refine w_condF ?_ ?_
         · simp [a1, a2]
           done)
      | (apply w_opT rfl
         · simp [a1, a2]
           done
         · simp [a1, a2]
           rfl)
      | (refine w_opF ?_ ?_
         · simp [a1, a2]
           done))
    apply w_call0 (hc := by kernel_rfl) (pc := pc4)
    · simp 
    · (simp ; rfl)
    repeat (first
      | refine w_seq ?_
      | refine w_region ?_
      | refine w_draw0 ?_
      | refine w_nil ?_
      | refine q_then ?_
      | refine w_skip ?_
      | refine w_ret ?_
      | refine w_block ?_
      | refine w_scope ?_
      | refine w_label ?_
      | refine q_thenR ?_
      | refine q_blockR ?_
      | refine q_blockN ?_
      | refine w_exit ?_
      | refine q_thenE ?_
      | refine q_blockE ?_
      | refine q_blockO rfl ?_
      | (apply w_op rfl
         · simp 
           first | rfl | exact ⟨‹_›, rfl⟩)
      | (refine w_condT ?_ ?_
         · simp 
           done)
      | (refine w_condF ?_ ?_
         · simp 
           done)
      | (apply w_opT rfl
         · simp 
           done
         · simp 
           rfl)
      | (refine w_opF ?_ ?_
         · simp 
           done))
    simp [Fin]
  by_cases a3 : f.retryLeft < 0
  · repeat (first
      | refine w_seq ?_
      | refine w_region ?_
      | refine w_draw0 ?_
      | refine w_nil ?_
      | refine q_then ?_
      | refine w_skip ?_
      | refine w_ret ?_
      | refine w_block ?_
      | refine w_scope ?_
      | refine w_label ?_
      | refine q_thenR ?_
      | refine q_blockR ?_
      | refine q_blockN ?_
      | refine w_exit ?_
      | refine q_thenE ?_
      | refine q_blockE ?_
      | refine q_blockO rfl ?_
      | (apply w_op rfl
         · simp [a1, a2, a3]
           first | rfl | exact ⟨‹_›, rfl⟩)
      | (refine w_condT ?_ ?_
         · simp [a1, a2, a3]
           done)
      | (refine w_condF ?_ ?_
         · simp [a1, a2, a3]
           done)
      | (apply w_opT rfl
         · simp [a1, a2, a3]
           done
         · simp [a1, a2, a3]
           rfl)
      | (refine w_opF ?_ ?_
         · simp [a1, a2, a3]
           done))
    apply w_call0 (hc := by kernel_rfl) (pc := pc4)
    · simp 
    · (simp ; rfl)
    repeat (first
      | refine w_seq ?_
      | refine w_region ?_
      | refine w_draw0 ?_
      | refine w_nil ?_
      | refine q_then ?_
      | refine w_skip ?_
      | refine w_ret ?_
      | refine w_block ?_
      | refine w_scope ?_
      | refine w_label ?_
      | refine q_thenR ?_
      | refine q_blockR ?_
      | refine q_blockN ?_
      | refine w_exit ?_
      | refine q_thenE ?_
      | refine q_blockE ?_
      | refine q_blockO rfl ?_
      | (apply w_op rfl
         · simp 
           first | rfl | exact ⟨‹_›, rfl⟩)
      | (refine w_condT ?_ ?_
         · simp 
           done)
      | (refine w_condF ?_ ?_
         · simp 
           done)
      | (apply w_opT rfl
         · simp 
           done
         · simp 
           rfl)
      | (refine w_opF ?_ ?_
         · simp 
           done))
    simp [Fin]
  cases hl : linkedV f with
  | true =>
    rw [rival_link s f ours o hl] at h5
    have h6 := pc6 f
    rw [hl] at h6
    generalize hd : (rivalV s f ours o).1 = d at h5 h7
    repeat (first
      | refine w_seq ?_
      | refine w_region ?_
      | refine w_draw0 ?_
      | refine w_nil ?_
      | refine q_then ?_
      | refine w_skip ?_
      | refine w_ret ?_
      | refine w_block ?_
      | refine w_scope ?_
      | refine w_label ?_
      | refine q_thenR ?_
      | refine q_blockR ?_
      | refine q_blockN ?_
      | refine w_exit ?_
      | refine q_thenE ?_
      | refine q_blockE ?_
      | refine q_blockO rfl ?_
      | (apply w_op rfl
         · simp [a1, a2, a3]
           first | rfl | exact ⟨‹_›, rfl⟩)
      | (refine w_condT ?_ ?_
         · simp [a1, a2, a3]
           done)
      | (refine w_condF ?_ ?_
         · simp [a1, a2, a3]
           done)
      | (apply w_opT rfl
         · simp [a1, a2, a3]
           done
         · simp [a1, a2, a3]
           rfl)
      | (refine w_opF ?_ ?_
         · simp [a1, a2, a3]
           done))
    apply w_call0 (hc := by kernel_rfl) (pc := h5)
    · simp [a1]
    · (simp [a1]; rfl)
    repeat (first
      | refine w_seq ?_
      | refine w_region ?_
      | refine w_draw0 ?_
      | refine w_nil ?_
      | refine q_then ?_
      | refine w_skip ?_
      | refine w_ret ?_
      | refine w_block ?_
      | refine w_scope ?_
      | refine w_label ?_
      | refine q_thenR ?_
      | refine q_blockR ?_
      | refine q_blockN ?_
      | refine w_exit ?_
      | refine q_thenE ?_
      | refine q_blockE ?_
      | refine q_blockO rfl ?_
      | (apply w_op rfl
         · simp 
           first | rfl | exact ⟨‹_›, rfl⟩)
      | (refine w_condT ?_ ?_
         · simp 
           done)
      | (refine w_condF ?_ ?_
         · simp 
           done)
      | (apply w_opT rfl
         · simp 
           done
         · simp 
           rfl)
      | (refine w_opF ?_ ?_
         · simp 
           done))
    apply w_call0 (hc := by kernel_rfl) (pc := h6)
    · simp 
    · (simp ; rfl)
    repeat (first
      | refine w_seq ?_
      | refine w_region ?_
      | refine w_draw0 ?_
      | refine w_nil ?_
      | refine q_then ?_
      | refine w_skip ?_
      | refine w_ret ?_
      | refine w_block ?_
      | refine w_scope ?_
      | refine w_label ?_
      | refine q_thenR ?_
      | refine q_blockR ?_
      | refine q_blockN ?_
      | refine w_exit ?_
      | refine q_thenE ?_
      | refine q_blockE ?_
      | refine q_blockO rfl ?_
      | (apply w_op rfl
         · simp 
           first | rfl | exact ⟨‹_›, rfl⟩)
      | (refine w_condT ?_ ?_
         · simp 
           done)
      | (refine w_condF ?_ ?_
         · simp 
           done)
      | (apply w_opT rfl
         · simp 
           done
         · simp 
           rfl)
      | (refine w_opF ?_ ?_
         · simp 
           done))
    apply w_call0 (hc := by kernel_rfl) (pc := h7)
    · simp 
    · (simp ; rfl)
    repeat (first
      | refine w_seq ?_
      | refine w_region ?_
      | refine w_draw0 ?_
      | refine w_nil ?_
      | refine q_then ?_
      | refine w_skip ?_
      | refine w_ret ?_
      | refine w_block ?_
      | refine w_scope ?_
      | refine w_label ?_
      | refine q_thenR ?_
      | refine q_blockR ?_
      | refine q_blockN ?_
      | refine w_exit ?_
      | refine q_thenE ?_
      | refine q_blockE ?_
      | refine q_blockO rfl ?_
      | (apply w_op rfl
         · simp 
           first | rfl | exact ⟨‹_›, rfl⟩)
      | (refine w_condT ?_ ?_
         · simp 
           done)
      | (refine w_condF ?_ ?_
         · simp 
           done)
      | (apply w_opT rfl
         · simp 
           done
         · simp 
           rfl)
      | (refine w_opF ?_ ?_
         · simp 
           done))
    apply w_call0T (hc := by kernel_rfl) (pc := pc8a 6 7 6 7)
    · simp 
    · simp 
    · (simp ; rfl)
    repeat (first
      | refine w_seq ?_
      | refine w_region ?_
      | refine w_draw0 ?_
      | refine w_nil ?_
      | refine q_then ?_
      | refine w_skip ?_
      | refine w_ret ?_
      | refine w_block ?_
      | refine w_scope ?_
      | refine w_label ?_
      | refine q_thenR ?_
      | refine q_blockR ?_
      | refine q_blockN ?_
      | refine w_exit ?_
      | refine q_thenE ?_
      | refine q_blockE ?_
      | refine q_blockO rfl ?_
      | (apply w_op rfl
         · simp 
           first | rfl | exact ⟨‹_›, rfl⟩)
      | (refine w_condT ?_ ?_
         · simp 
           done)
      | (refine w_condF ?_ ?_
         · simp 
           done)
      | (apply w_opT rfl
         · simp 
           done
         · simp 
           rfl)
      | (refine w_opF ?_ ?_
         · simp 
           done))
    apply w_call0 (hc := by kernel_rfl) (pc := h9)
    · simp 
    · (simp ; rfl)
    repeat (first
      | refine w_seq ?_
      | refine w_region ?_
      | refine w_draw0 ?_
      | refine w_nil ?_
      | refine q_then ?_
      | refine w_skip ?_
      | refine w_ret ?_
      | refine w_block ?_
      | refine w_scope ?_
      | refine w_label ?_
      | refine q_thenR ?_
      | refine q_blockR ?_
      | refine q_blockN ?_
      | refine w_exit ?_
      | refine q_thenE ?_
      | refine q_blockE ?_
      | refine q_blockO rfl ?_
      | (apply w_op rfl
         · simp 
           first | rfl | exact ⟨‹_›, rfl⟩)
      | (refine w_condT ?_ ?_
         · simp 
           done)
      | (refine w_condF ?_ ?_
         · simp 
           done)
      | (apply w_opT rfl
         · simp 
           done
         · simp 
           rfl)
      | (refine w_opF ?_ ?_
         · simp 
           done))
    apply w_call0 (hc := by kernel_rfl) (pc := h10)
    · simp 
    · (simp ; rfl)
    repeat (first
      | refine w_seq ?_
      | refine w_region ?_
      | refine w_draw0 ?_
      | refine w_nil ?_
      | refine q_then ?_
      | refine w_skip ?_
      | refine w_ret ?_
      | refine w_block ?_
      | refine w_scope ?_
      | refine w_label ?_
      | refine q_thenR ?_
      | refine q_blockR ?_
      | refine q_blockN ?_
      | refine w_exit ?_
      | refine q_thenE ?_
      | refine q_blockE ?_
      | refine q_blockO rfl ?_
      | (apply w_op rfl
         · simp 
           first | rfl | exact ⟨‹_›, rfl⟩)
      | (refine w_condT ?_ ?_
         · simp 
           done)
      | (refine w_condF ?_ ?_
         · simp 
           done)
      | (apply w_opT rfl
         · simp 
           done
         · simp 
           rfl)
      | (refine w_opF ?_ ?_
         · simp 
           done))
    apply w_call0T (hc := by kernel_rfl) (pc := h11)
    · simp 
    · simp 
    · (simp ; rfl)
    repeat (first
      | refine w_seq ?_
      | refine w_region ?_
      | refine w_draw0 ?_
      | refine w_nil ?_
      | refine q_then ?_
      | refine w_skip ?_
      | refine w_ret ?_
      | refine w_block ?_
      | refine w_scope ?_
      | refine w_label ?_
      | refine q_thenR ?_
      | refine q_blockR ?_
      | refine q_blockN ?_
      | refine w_exit ?_
      | refine q_thenE ?_
      | refine q_blockE ?_
      | refine q_blockO rfl ?_
      | (apply w_op rfl
         · simp 
           first | rfl | exact ⟨‹_›, rfl⟩)
      | (refine w_condT ?_ ?_
         · simp 
           done)
      | (refine w_condF ?_ ?_
         · simp 
           done)
      | (apply w_opT rfl
         · simp 
           done
         · simp 
           rfl)
      | (refine w_opF ?_ ?_
         · simp 
           done))
    cases d with
    | true =>
      apply w_call0 (hc := by kernel_rfl) (pc := pc12d s f f3 ours o (ms.map Msg.ds) false cl false lost hd h16)
      · simp 
      · (simp ; rfl)
      repeat (first
        | refine w_seq ?_
        | refine w_region ?_
        | refine w_draw0 ?_
        | refine w_nil ?_
        | refine q_then ?_
        | refine w_skip ?_
        | refine w_ret ?_
        | refine w_block ?_
        | refine w_scope ?_
        | refine w_label ?_
        | refine q_thenR ?_
        | refine q_blockR ?_
        | refine q_blockN ?_
        | refine w_exit ?_
        | refine q_thenE ?_
        | refine q_blockE ?_
        | refine q_blockO rfl ?_
        | (apply w_op rfl
           · simp 
             first | rfl | exact ⟨‹_›, rfl⟩)
        | (refine w_condT ?_ ?_
           · simp 
             done)
        | (refine w_condF ?_ ?_
           · simp 
             done)
        | (apply w_opT rfl
           · simp 
             done
           · simp 
             rfl)
        | (refine w_opF ?_ ?_
           · simp 
             done))
      apply w_call0T (hc := by kernel_rfl) (pc := h11)
      · simp 
      · simp 
      · (simp ; rfl)
      repeat (first
        | refine w_seq ?_
        | refine w_region ?_
        | refine w_draw0 ?_
        | refine w_nil ?_
        | refine q_then ?_
        | refine w_skip ?_
        | refine w_ret ?_
        | refine w_block ?_
        | refine w_scope ?_
        | refine w_label ?_
        | refine q_thenR ?_
        | refine q_blockR ?_
        | refine q_blockN ?_
        | refine w_exit ?_
        | refine q_thenE ?_
        | refine q_blockE ?_
        | refine q_blockO rfl ?_
        | (apply w_op rfl
           · simp 
             first | rfl | exact ⟨‹_›, rfl⟩)
        | (refine w_condT ?_ ?_
           · simp 
             done)
        | (refine w_condF ?_ ?_
           · simp 
             done)
        | (apply w_opT rfl
           · simp 
             done
           · simp 
             rfl)
        | (refine w_opF ?_ ?_
           · simp 
             done))
      apply w_call0T (hc := by kernel_rfl) (pc := pc4)
      · simp 
      · simp 
      · (simp ; rfl)
      repeat (first
        | refine w_seq ?_
        | refine w_region ?_
        | refine w_draw0 ?_
        | refine w_nil ?_
        | refine q_then ?_
        | refine w_skip ?_
        | refine w_ret ?_
        | refine w_block ?_
        | refine w_scope ?_
        | refine w_label ?_
        | refine q_thenR ?_
        | refine q_blockR ?_
        | refine q_blockN ?_
        | refine w_exit ?_
        | refine q_thenE ?_
        | refine q_blockE ?_
        | refine q_blockO rfl ?_
        | (apply w_op rfl
           · simp 
             first | rfl | exact ⟨‹_›, rfl⟩)
        | (refine w_condT ?_ ?_
           · simp 
             done)
        | (refine w_condF ?_ ?_
           · simp 
             done)
        | (apply w_opT rfl
           · simp 
             done
           · simp 
             rfl)
        | (refine w_opF ?_ ?_
           · simp 
             done))
      simp [Fin]
    | false =>
      apply w_call0 (hc := by kernel_rfl) (pc := pc12k s f ours o hd)
      · simp 
      · (simp ; rfl)
      repeat (first
        | refine w_seq ?_
        | refine w_region ?_
        | refine w_draw0 ?_
        | refine w_nil ?_
        | refine q_then ?_
        | refine w_skip ?_
        | refine w_ret ?_
        | refine w_block ?_
        | refine w_scope ?_
        | refine w_label ?_
        | refine q_thenR ?_
        | refine q_blockR ?_
        | refine q_blockN ?_
        | refine w_exit ?_
        | refine q_thenE ?_
        | refine q_blockE ?_
        | refine q_blockO rfl ?_
        | (apply w_op rfl
           · simp 
             first | rfl | exact ⟨‹_›, rfl⟩)
        | (refine w_condT ?_ ?_
           · simp 
             done)
        | (refine w_condF ?_ ?_
           · simp 
             done)
        | (apply w_opT rfl
           · simp 
             done
           · simp 
             rfl)
        | (refine w_opF ?_ ?_
           · simp 
             done))
      apply w_call0T (hc := by kernel_rfl) (pc := h11e)
      · simp 
      · simp 
      · (simp ; rfl)
      repeat (first
        | refine w_seq ?_
        | refine w_region ?_
        | refine w_draw0 ?_
        | refine w_nil ?_
        | refine q_then ?_
        | refine w_skip ?_
        | refine w_ret ?_
        | refine w_block ?_
        | refine w_scope ?_
        | refine w_label ?_
        | refine q_thenR ?_
        | refine q_blockR ?_
        | refine q_blockN ?_
        | refine w_exit ?_
        | refine q_thenE ?_
        | refine q_blockE ?_
        | refine q_blockO rfl ?_
        | (apply w_op rfl
           · simp 
             first | rfl | exact ⟨‹_›, rfl⟩)
        | (refine w_condT ?_ ?_
           · simp 
             done)
        | (refine w_condF ?_ ?_
           · simp 
             done)
        | (apply w_opT rfl
           · simp 
             done
           · simp 
             rfl)
        | (refine w_opF ?_ ?_
           · simp 
             done))
      apply w_call0T (hc := by kernel_rfl) (pc := pc4)
      · simp 
      · simp 
      · (simp ; rfl)
      repeat (first
        | refine w_seq ?_
        | refine w_region ?_
        | refine w_draw0 ?_
        | refine w_nil ?_
        | refine q_then ?_
        | refine w_skip ?_
        | refine w_ret ?_
        | refine w_block ?_
        | refine w_scope ?_
        | refine w_label ?_
        | refine q_thenR ?_
        | refine q_blockR ?_
        | refine q_blockN ?_
        | refine w_exit ?_
        | refine q_thenE ?_
        | refine q_blockE ?_
        | refine q_blockO rfl ?_
        | (apply w_op rfl
           · simp 
             first | rfl | exact ⟨‹_›, rfl⟩)
        | (refine w_condT ?_ ?_
           · simp 
             done)
        | (refine w_condF ?_ ?_
           · simp 
             done)
        | (apply w_opT rfl
           · simp 
             done
           · simp 
             rfl)
        | (refine w_opF ?_ ?_
           · simp 
             done))
      simp [Fin]
  | false =>
    rw [rival_free s f ours o hl] at h5
    have h6 := pc6 f
    rw [hl] at h6
    generalize hd : (rivalV s f ours o).1 = d at h5 h7
    repeat (first
      | refine w_seq ?_
      | refine w_region ?_
      | refine w_draw0 ?_
      | refine w_nil ?_
      | refine q_then ?_
      | refine w_skip ?_
      | refine w_ret ?_
      | refine w_block ?_
      | refine w_scope ?_
      | refine w_label ?_
      | refine q_thenR ?_
      | refine q_blockR ?_
      | refine q_blockN ?_
      | refine w_exit ?_
      | refine q_thenE ?_
      | refine q_blockE ?_
      | refine q_blockO rfl ?_
      | (apply w_op rfl
         · simp [a1, a2, a3]
           first | rfl | exact ⟨‹_›, rfl⟩)
      | (refine w_condT ?_ ?_
         · simp [a1, a2, a3]
           done)
      | (refine w_condF ?_ ?_
         · simp [a1, a2, a3]
           done)
      | (apply w_opT rfl
         · simp [a1, a2, a3]
           done
         · simp [a1, a2, a3]
           rfl)
      | (refine w_opF ?_ ?_
         · simp [a1, a2, a3]
           done))
    apply w_call0 (hc := by kernel_rfl) (pc := h5)
    · simp [a1]
    · (simp [a1]; rfl)
    repeat (first
      | refine w_seq ?_
      | refine w_region ?_
      | refine w_draw0 ?_
      | refine w_nil ?_
      | refine q_then ?_
      | refine w_skip ?_
      | refine w_ret ?_
      | refine w_block ?_
      | refine w_scope ?_
      | refine w_label ?_
      | refine q_thenR ?_
      | refine q_blockR ?_
      | refine q_blockN ?_
      | refine w_exit ?_
      | refine q_thenE ?_
      | refine q_blockE ?_
      | refine q_blockO rfl ?_
      | (apply w_op rfl
         · simp 
           first | rfl | exact ⟨‹_›, rfl⟩)
      | (refine w_condT ?_ ?_
         · simp 
           done)
      | (refine w_condF ?_ ?_
         · simp 
           done)
      | (apply w_opT rfl
         · simp 
           done
         · simp 
           rfl)
      | (refine w_opF ?_ ?_
         · simp 
           done))
    apply w_call0 (hc := by kernel_rfl) (pc := h6)
    · simp 
    · (simp ; rfl)
    repeat (first
      | refine w_seq ?_
      | refine w_region ?_
      | refine w_draw0 ?_
      | refine w_nil ?_
      | refine q_then ?_
      | refine w_skip ?_
      | refine w_ret ?_
      | refine w_block ?_
      | refine w_scope ?_
      | refine w_label ?_
      | refine q_thenR ?_
      | refine q_blockR ?_
      | refine q_blockN ?_
      | refine w_exit ?_
      | refine q_thenE ?_
      | refine q_blockE ?_
      | refine q_blockO rfl ?_
      | (apply w_op rfl
         · simp 
           first | rfl | exact ⟨‹_›, rfl⟩)
      | (refine w_condT ?_ ?_
         · simp 
           done)
      | (refine w_condF ?_ ?_
         · simp 
           done)
      | (apply w_opT rfl
         · simp 
           done
         · simp 
           rfl)
      | (refine w_opF ?_ ?_
         · simp 
           done))
    apply w_call0 (hc := by kernel_rfl) (pc := h7)
    · simp 
    · (simp ; rfl)
    repeat (first
      | refine w_seq ?_
      | refine w_region ?_
      | refine w_draw0 ?_
      | refine w_nil ?_
      | refine q_then ?_
      | refine w_skip ?_
      | refine w_ret ?_
      | refine w_block ?_
      | refine w_scope ?_
      | refine w_label ?_
      | refine q_thenR ?_
      | refine q_blockR ?_
      | refine q_blockN ?_
      | refine w_exit ?_
      | refine q_thenE ?_
      | refine q_blockE ?_
      | refine q_blockO rfl ?_
      | (apply w_op rfl
         · simp 
           first | rfl | exact ⟨‹_›, rfl⟩)
      | (refine w_condT ?_ ?_
         · simp 
           done)
      | (refine w_condF ?_ ?_
         · simp 
           done)
      | (apply w_opT rfl
         · simp 
           done
         · simp 
           rfl)
      | (refine w_opF ?_ ?_
         · simp 
           done))
    apply w_call0T (hc := by kernel_rfl) (pc := pc8a 0 0 0 0)
    · simp 
    · simp 
    · (simp ; rfl)
    repeat (first
      | refine w_seq ?_
      | refine w_region ?_
      | refine w_draw0 ?_
      | refine w_nil ?_
      | refine q_then ?_
      | refine w_skip ?_
      | refine w_ret ?_
      | refine w_block ?_
      | refine w_scope ?_
      | refine w_label ?_
      | refine q_thenR ?_
      | refine q_blockR ?_
      | refine q_blockN ?_
      | refine w_exit ?_
      | refine q_thenE ?_
      | refine q_blockE ?_
      | refine q_blockO rfl ?_
      | (apply w_op rfl
         · simp 
           first | rfl | exact ⟨‹_›, rfl⟩)
      | (refine w_condT ?_ ?_
         · simp 
           done)
      | (refine w_condF ?_ ?_
         · simp 
           done)
      | (apply w_opT rfl
         · simp 
           done
         · simp 
           rfl)
      | (refine w_opF ?_ ?_
         · simp 
           done))
    apply w_call0 (hc := by kernel_rfl) (pc := h9)
    · simp 
    · (simp ; rfl)
    repeat (first
      | refine w_seq ?_
      | refine w_region ?_
      | refine w_draw0 ?_
      | refine w_nil ?_
      | refine q_then ?_
      | refine w_skip ?_
      | refine w_ret ?_
      | refine w_block ?_
      | refine w_scope ?_
      | refine w_label ?_
      | refine q_thenR ?_
      | refine q_blockR ?_
      | refine q_blockN ?_
      | refine w_exit ?_
      | refine q_thenE ?_
      | refine q_blockE ?_
      | refine q_blockO rfl ?_
      | (apply w_op rfl
         · simp 
           first | rfl | exact ⟨‹_›, rfl⟩)
      | (refine w_condT ?_ ?_
         · simp 
           done)
      | (refine w_condF ?_ ?_
         · simp 
           done)
      | (apply w_opT rfl
         · simp 
           done
         · simp 
           rfl)
      | (refine w_opF ?_ ?_
         · simp 
           done))
    apply w_call0 (hc := by kernel_rfl) (pc := h10)
    · simp 
    · (simp ; rfl)
    repeat (first
      | refine w_seq ?_
      | refine w_region ?_
      | refine w_draw0 ?_
      | refine w_nil ?_
      | refine q_then ?_
      | refine w_skip ?_
      | refine w_ret ?_
      | refine w_block ?_
      | refine w_scope ?_
      | refine w_label ?_
      | refine q_thenR ?_
      | refine q_blockR ?_
      | refine q_blockN ?_
      | refine w_exit ?_
      | refine q_thenE ?_
      | refine q_blockE ?_
      | refine q_blockO rfl ?_
      | (apply w_op rfl
         · simp 
           first | rfl | exact ⟨‹_›, rfl⟩)
      | (refine w_condT ?_ ?_
         · simp 
           done)
      | (refine w_condF ?_ ?_
         · simp 
           done)
      | (apply w_opT rfl
         · simp 
           done
         · simp 
           rfl)
      | (refine w_opF ?_ ?_
         · simp 
           done))
    apply w_call0T (hc := by kernel_rfl) (pc := h11)
    · simp 
    · simp 
    · (simp ; rfl)
    repeat (first
      | refine w_seq ?_
      | refine w_region ?_
      | refine w_draw0 ?_
      | refine w_nil ?_
      | refine q_then ?_
      | refine w_skip ?_
      | refine w_ret ?_
      | refine w_block ?_
      | refine w_scope ?_
      | refine w_label ?_
      | refine q_thenR ?_
      | refine q_blockR ?_
      | refine q_blockN ?_
      | refine w_exit ?_
      | refine q_thenE ?_
      | refine q_blockE ?_
      | refine q_blockO rfl ?_
      | (apply w_op rfl
         · simp 
           first | rfl | exact ⟨‹_›, rfl⟩)
      | (refine w_condT ?_ ?_
         · simp 
           done)
      | (refine w_condF ?_ ?_
         · simp 
           done)
      | (apply w_opT rfl
         · simp 
           done
         · simp 
           rfl)
      | (refine w_opF ?_ ?_
         · simp 
           done))
    cases d with
    | true =>
      apply w_call0 (hc := by kernel_rfl) (pc := pc12d s f f3 ours o (ms.map Msg.ds) false cl false lost hd h16)
      · simp 
      · (simp ; rfl)
      repeat (first
        | refine w_seq ?_
        | refine w_region ?_
        | refine w_draw0 ?_
        | refine w_nil ?_
        | refine q_then ?_
        | refine w_skip ?_
        | refine w_ret ?_
        | refine w_block ?_
        | refine w_scope ?_
        | refine w_label ?_
        | refine q_thenR ?_
        | refine q_blockR ?_
        | refine q_blockN ?_
        | refine w_exit ?_
        | refine q_thenE ?_
        | refine q_blockE ?_
        | refine q_blockO rfl ?_
        | (apply w_op rfl
           · simp 
             first | rfl | exact ⟨‹_›, rfl⟩)
        | (refine w_condT ?_ ?_
           · simp 
             done)
        | (refine w_condF ?_ ?_
           · simp 
             done)
        | (apply w_opT rfl
           · simp 
             done
           · simp 
             rfl)
        | (refine w_opF ?_ ?_
           · simp 
             done))
      apply w_call0T (hc := by kernel_rfl) (pc := h11)
      · simp 
      · simp 
      · (simp ; rfl)
      repeat (first
        | refine w_seq ?_
        | refine w_region ?_
        | refine w_draw0 ?_
        | refine w_nil ?_
        | refine q_then ?_
        | refine w_skip ?_
        | refine w_ret ?_
        | refine w_block ?_
        | refine w_scope ?_
        | refine w_label ?_
        | refine q_thenR ?_
        | refine q_blockR ?_
        | refine q_blockN ?_
        | refine w_exit ?_
        | refine q_thenE ?_
        | refine q_blockE ?_
        | refine q_blockO rfl ?_
        | (apply w_op rfl
           · simp 
             first | rfl | exact ⟨‹_›, rfl⟩)
        | (refine w_condT ?_ ?_
           · simp 
             done)
        | (refine w_condF ?_ ?_
           · simp 
             done)
        | (apply w_opT rfl
           · simp 
             done
           · simp 
             rfl)
        | (refine w_opF ?_ ?_
           · simp 
             done))
      apply w_call0T (hc := by kernel_rfl) (pc := pc4)
      · simp 
      · simp 
      · (simp ; rfl)
      repeat (first
        | refine w_seq ?_
        | refine w_region ?_
        | refine w_draw0 ?_
        | refine w_nil ?_
        | refine q_then ?_
        | refine w_skip ?_
        | refine w_ret ?_
        | refine w_block ?_
        | refine w_scope ?_
        | refine w_label ?_
        | refine q_thenR ?_
        | refine q_blockR ?_
        | refine q_blockN ?_
        | refine w_exit ?_
        | refine q_thenE ?_
        | refine q_blockE ?_
        | refine q_blockO rfl ?_
        | (apply w_op rfl
           · simp 
             first | rfl | exact ⟨‹_›, rfl⟩)
        | (refine w_condT ?_ ?_
           · simp 
             done)
        | (refine w_condF ?_ ?_
           · simp 
             done)
        | (apply w_opT rfl
           · simp 
             done
           · simp 
             rfl)
        | (refine w_opF ?_ ?_
           · simp 
             done))
      simp [Fin]
    | false =>
      apply w_call0 (hc := by kernel_rfl) (pc := pc12k s f ours o hd)
      · simp 
      · (simp ; rfl)
      repeat (first
        | refine w_seq ?_
        | refine w_region ?_
        | refine w_draw0 ?_
        | refine w_nil ?_
        | refine q_then ?_
        | refine w_skip ?_
        | refine w_ret ?_
        | refine w_block ?_
        | refine w_scope ?_
        | refine w_label ?_
        | refine q_thenR ?_
        | refine q_blockR ?_
        | refine q_blockN ?_
        | refine w_exit ?_
        | refine q_thenE ?_
        | refine q_blockE ?_
        | refine q_blockO rfl ?_
        | (apply w_op rfl
           · simp 
             first | rfl | exact ⟨‹_›, rfl⟩)
        | (refine w_condT ?_ ?_
           · simp 
             done)
        | (refine w_condF ?_ ?_
           · simp 
             done)
        | (apply w_opT rfl
           · simp 
             done
           · simp 
             rfl)
        | (refine w_opF ?_ ?_
           · simp 
             done))
      apply w_call0T (hc := by kernel_rfl) (pc := h11e)
      · simp 
      · simp 
      · (simp ; rfl)
      repeat (first
        | refine w_seq ?_
        | refine w_region ?_
        | refine w_draw0 ?_
        | refine w_nil ?_
        | refine q_then ?_
        | refine w_skip ?_
        | refine w_ret ?_
        | refine w_block ?_
        | refine w_scope ?_
        | refine w_label ?_
        | refine q_thenR ?_
        | refine q_blockR ?_
        | refine q_blockN ?_
        | refine w_exit ?_
        | refine q_thenE ?_
        | refine q_blockE ?_
        | refine q_blockO rfl ?_
        | (apply w_op rfl
           · simp 
             first | rfl | exact ⟨‹_›, rfl⟩)
        | (refine w_condT ?_ ?_
           · simp 
             done)
        | (refine w_condF ?_ ?_
           · simp 
             done)
        | (apply w_opT rfl
           · simp 
             done
           · simp 
             rfl)
        | (refine w_opF ?_ ?_
           · simp 
             done))
      apply w_call0T (hc := by kernel_rfl) (pc := pc4)
      · simp 
      · simp 
      · (simp ; rfl)
      repeat (first
        | refine w_seq ?_
        | refine w_region ?_
        | refine w_draw0 ?_
        | refine w_nil ?_
        | refine q_then ?_
        | refine w_skip ?_
        | refine w_ret ?_
        | refine w_block ?_
        | refine w_scope ?_
        | refine w_label ?_
        | refine q_thenR ?_
        | refine q_blockR ?_
        | refine q_blockN ?_
        | refine w_exit ?_
        | refine q_thenE ?_
        | refine q_blockE ?_
        | refine q_blockO rfl ?_
        | (apply w_op rfl
           · simp 
             first | rfl | exact ⟨‹_›, rfl⟩)
        | (refine w_condT ?_ ?_
           · simp 
             done)
        | (refine w_condF ?_ ?_
           · simp 
             done)
        | (apply w_opT rfl
           · simp 
             done
           · simp 
             rfl)
        | (refine w_opF ?_ ?_
           · simp 
             done))
      simp [Fin]

end Go.V

