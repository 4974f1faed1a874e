/- An origin's bytes, read. -/
import Derived.Test.YtglmbheeplndpaaAT3
set_option linter.all false
set_option linter.unusedSimpArgs false
set_option linter.unusedVariables false
namespace Go.V
open Go Go.Proofs

set_option maxHeartbeats 4000000 in
set_option maxRecDepth 100000 in
theorem pc_next1 : PC Try.prog 22 [vp 0 0] (tab [[cS (u8s [64, 1, 1, 2]), cB false]]) (.tup [.agg [cI 64, cI 1, cS (u8s [2]), cS (u8s [64, 1, 1, 2])], vb true]) (tab [[cS (u8s []), cB false]]) := by
  have hu1 : PC Try.prog 44 [vp 0 0] (tab [[cS (u8s [64, 1, 1, 2]), cB false]]) (vi64 64) (tab [[cS (u8s [1, 1, 2]), cB false]]) := pc_U8_ok 64 [1, 1, 2] (by simp) (by intro n hn; simp at hn; omega)
  have hu2 : PC Try.prog 44 [vp 0 0] (tab [[cS (u8s [1, 1, 2]), cB false]]) (vi64 1) (tab [[cS (u8s [1, 2]), cB false]]) := pc_U8_ok 1 [1, 2] (by simp) (by intro n hn; simp at hn; omega)
  have hu3 : PC Try.prog 44 [vp 0 0] (tab [[cS (u8s [1, 2]), cB false]]) (vi64 1) (tab [[cS (u8s [2]), cB false]]) := pc_U8_ok 1 [2] (by simp) (by intro n hn; simp at hn; omega)
  have hT : PC Try.prog 48 [vp 0 0, vi64 1] (tab [[cS (u8s [2]), cB false]]) (vsl (u8s [2])) (tab [[cS (u8s []), cB false]]) := pc_Take_ok [2] 1 (by simp) (by simp)
  have hw : PC Try.prog 45 [vp 0 0, vi64 64] (tab [[.nilsl]]) (vp 0 0) (tab [[.osl 5 1 (u8s [64])]]) := pc_wU8 .nilsl [] 64 (.inl ⟨rfl, rfl⟩) (by simp)
  have hw2 : PC Try.prog 45 [vp 0 0, vi64 1] (tab [[.osl 5 1 (u8s [64])]]) (vp 0 0) (tab [[.osl 5 1 (u8s [64, 1])]]) := pc_wU8 _ [64] 1 (.inr rfl) (by simp)
  have hw3 : PC Try.prog 45 [vp 0 0, vi64 1] (tab [[.osl 5 1 (u8s [64, 1])]]) (vp 0 0) (tab [[.osl 5 1 (u8s [64, 1, 1])]]) := pc_wU8 _ [64, 1] 1 (.inr rfl) (by simp)
  have hp : PC Try.prog 49 [vp 0 0, vsl (u8s [2])] (tab [[.osl 5 1 (u8s [64, 1, 1])]]) (vp 0 0) (tab [[.osl 5 1 (u8s [64, 1, 1, 2])]]) := pc_wPut _ [64, 1, 1] [2] (.inr rfl) (by simp)
  have hB := pc_Bytes (.osl 5 1 (u8s [64, 1, 1, 2])) [64, 1, 1, 2] (.inr rfl) (by simp)
  have hbad := pc_Bad [] false
  have hb : IntKind.i64.wrap ((64 % 2 ^ IntKind.i64.bits &&& 16 % 2 ^ IntKind.i64.bits : Nat) : Int) = 0 := by decide
  refine F_attr_next.pc (css := [_]) (pre := [_]) (new := []) (by simp) rfl none ?_
  unfold c_attr_next
  repeat (first
    | refine w_seq ?_
    | refine w_region ?_
    | refine w_draw0 ?_
    | refine w_nil ?_
    | refine q_then ?_
    | refine w_skip ?_
    | refine w_ret ?_
    | refine w_block ?_
    | refine w_scope ?_
    | refine w_label ?_
    | refine q_thenR ?_
    | refine q_blockR ?_
    | refine q_blockN ?_
    | refine w_exit ?_
    | refine q_thenE ?_
    | refine q_blockE ?_
    | refine w_scope1 ?_
    | refine w_goto ?_
    | refine q_thenG ?_
    | refine q_blockG ?_
    | refine q_ngN ?_
    | refine q_ngR ?_
    | refine q_ngE ?_
    | refine q_jumpN ?_
    | refine q_jumpR ?_
    | refine q_jumpE ?_
    | refine q_jumpG ?_
    | refine q_blockO rfl ?_
    | (apply w_op rfl
       · simp 
         first | rfl | exact ⟨‹_›, rfl⟩)
    | (refine w_condT ?_ ?_
       · simp 
         done)
    | (refine w_condF ?_ ?_
       · simp 
         done)
    | (apply w_opT rfl
       · simp 
         done
       · simp 
         rfl)
    | (refine w_opF ?_ ?_
       · simp 
         done))
  apply w_call [0] (hc := by kernel_rfl) (pc := hu1)
  · decide
  · decide
  · simp 
  · simp 
  · simp 
  · simp 
  · simp 
  · (simp ; rfl)
  repeat (first
    | refine w_seq ?_
    | refine w_region ?_
    | refine w_draw0 ?_
    | refine w_nil ?_
    | refine q_then ?_
    | refine w_skip ?_
    | refine w_ret ?_
    | refine w_block ?_
    | refine w_scope ?_
    | refine w_label ?_
    | refine q_thenR ?_
    | refine q_blockR ?_
    | refine q_blockN ?_
    | refine w_exit ?_
    | refine q_thenE ?_
    | refine q_blockE ?_
    | refine w_scope1 ?_
    | refine w_goto ?_
    | refine q_thenG ?_
    | refine q_blockG ?_
    | refine q_ngN ?_
    | refine q_ngR ?_
    | refine q_ngE ?_
    | refine q_jumpN ?_
    | refine q_jumpR ?_
    | refine q_jumpE ?_
    | refine q_jumpG ?_
    | refine q_blockO rfl ?_
    | (apply w_op rfl
       · simp 
         first | rfl | exact ⟨‹_›, rfl⟩)
    | (refine w_condT ?_ ?_
       · simp 
         done)
    | (refine w_condF ?_ ?_
       · simp 
         done)
    | (apply w_opT rfl
       · simp 
         done
       · simp 
         rfl)
    | (refine w_opF ?_ ?_
       · simp 
         done))
  apply w_call [0] (hc := by kernel_rfl) (pc := hu2)
  · decide
  · decide
  · simp 
  · simp 
  · simp 
  · simp 
  · simp 
  · (simp ; rfl)
  repeat (first
    | refine w_seq ?_
    | refine w_region ?_
    | refine w_draw0 ?_
    | refine w_nil ?_
    | refine q_then ?_
    | refine w_skip ?_
    | refine w_ret ?_
    | refine w_block ?_
    | refine w_scope ?_
    | refine w_label ?_
    | refine q_thenR ?_
    | refine q_blockR ?_
    | refine q_blockN ?_
    | refine w_exit ?_
    | refine q_thenE ?_
    | refine q_blockE ?_
    | refine w_scope1 ?_
    | refine w_goto ?_
    | refine q_thenG ?_
    | refine q_blockG ?_
    | refine q_ngN ?_
    | refine q_ngR ?_
    | refine q_ngE ?_
    | refine q_jumpN ?_
    | refine q_jumpR ?_
    | refine q_jumpE ?_
    | refine q_jumpG ?_
    | refine q_blockO rfl ?_
    | (apply w_op rfl
       · simp 
         first | rfl | exact ⟨‹_›, rfl⟩)
    | (refine w_condT ?_ ?_
       · simp 
         done)
    | (refine w_condF ?_ ?_
       · simp 
         done)
    | (apply w_opT rfl
       · simp 
         done
       · simp 
         rfl)
    | (refine w_opF ?_ ?_
       · simp 
         done))
  refine w_draw ?_
  repeat (first
    | refine w_dnil ?_
    | (apply d_op rfl
       · simp 
         first | rfl | exact ⟨‹_›, rfl⟩)
    | (apply d_opT rfl
       · simp 
         done
       · simp 
         rfl)
    | (refine d_opF ?_ ?_
       · simp 
         done))
  apply d_call [17] (hc := by kernel_rfl) (pc := hw)
  · decide
  · decide
  · simp 
  · simp 
  · simp 
  · simp 
  · simp 
  · (simp ; rfl)
  repeat (first
    | refine w_dnil ?_
    | (apply d_op rfl
       · simp 
         first | rfl | exact ⟨‹_›, rfl⟩)
    | (apply d_opT rfl
       · simp 
         done
       · simp 
         rfl)
    | (refine d_opF ?_ ?_
       · simp 
         done))
  apply d_call [17] (hc := by kernel_rfl) (pc := hw2)
  · decide
  · decide
  · simp 
  · simp 
  · simp 
  · simp 
  · simp 
  · (simp ; rfl)
  repeat (first
    | refine w_dnil ?_
    | (apply d_op rfl
       · simp 
         first | rfl | exact ⟨‹_›, rfl⟩)
    | (apply d_opT rfl
       · simp 
         done
       · simp 
         rfl)
    | (refine d_opF ?_ ?_
       · simp 
         done))
  refine ⟨by simp, ?_⟩
  repeat (first
    | refine w_seq ?_
    | refine w_region ?_
    | refine w_draw0 ?_
    | refine w_nil ?_
    | refine q_then ?_
    | refine w_skip ?_
    | refine w_ret ?_
    | refine w_block ?_
    | refine w_scope ?_
    | refine w_label ?_
    | refine q_thenR ?_
    | refine q_blockR ?_
    | refine q_blockN ?_
    | refine w_exit ?_
    | refine q_thenE ?_
    | refine q_blockE ?_
    | refine w_scope1 ?_
    | refine w_goto ?_
    | refine q_thenG ?_
    | refine q_blockG ?_
    | refine q_ngN ?_
    | refine q_ngR ?_
    | refine q_ngE ?_
    | refine q_jumpN ?_
    | refine q_jumpR ?_
    | refine q_jumpE ?_
    | refine q_jumpG ?_
    | refine q_blockO rfl ?_
    | (apply w_op rfl
       · simp [hb]
         first | rfl | exact ⟨‹_›, rfl⟩)
    | (refine w_condT ?_ ?_
       · simp [hb]
         done)
    | (refine w_condF ?_ ?_
       · simp [hb]
         done)
    | (apply w_opT rfl
       · simp [hb]
         done
       · simp [hb]
         rfl)
    | (refine w_opF ?_ ?_
       · simp [hb]
         done))
  apply w_call [0] (hc := by kernel_rfl) (pc := hu3)
  · decide
  · decide
  · simp 
  · simp 
  · simp 
  · simp 
  · simp 
  · (simp ; rfl)
  repeat (first
    | refine w_seq ?_
    | refine w_region ?_
    | refine w_draw0 ?_
    | refine w_nil ?_
    | refine q_then ?_
    | refine w_skip ?_
    | refine w_ret ?_
    | refine w_block ?_
    | refine w_scope ?_
    | refine w_label ?_
    | refine q_thenR ?_
    | refine q_blockR ?_
    | refine q_blockN ?_
    | refine w_exit ?_
    | refine q_thenE ?_
    | refine q_blockE ?_
    | refine w_scope1 ?_
    | refine w_goto ?_
    | refine q_thenG ?_
    | refine q_blockG ?_
    | refine q_ngN ?_
    | refine q_ngR ?_
    | refine q_ngE ?_
    | refine q_jumpN ?_
    | refine q_jumpR ?_
    | refine q_jumpE ?_
    | refine q_jumpG ?_
    | refine q_blockO rfl ?_
    | (apply w_op rfl
       · simp 
         first | rfl | exact ⟨‹_›, rfl⟩)
    | (refine w_condT ?_ ?_
       · simp 
         done)
    | (refine w_condF ?_ ?_
       · simp 
         done)
    | (apply w_opT rfl
       · simp 
         done
       · simp 
         rfl)
    | (refine w_opF ?_ ?_
       · simp 
         done))
  apply w_call [17] (hc := by kernel_rfl) (pc := hw3)
  · decide
  · decide
  · simp 
  · simp 
  · simp 
  · simp 
  · simp 
  · (simp ; rfl)
  repeat (first
    | refine w_seq ?_
    | refine w_region ?_
    | refine w_draw0 ?_
    | refine w_nil ?_
    | refine q_then ?_
    | refine w_skip ?_
    | refine w_ret ?_
    | refine w_block ?_
    | refine w_scope ?_
    | refine w_label ?_
    | refine q_thenR ?_
    | refine q_blockR ?_
    | refine q_blockN ?_
    | refine w_exit ?_
    | refine q_thenE ?_
    | refine q_blockE ?_
    | refine w_scope1 ?_
    | refine w_goto ?_
    | refine q_thenG ?_
    | refine q_blockG ?_
    | refine q_ngN ?_
    | refine q_ngR ?_
    | refine q_ngE ?_
    | refine q_jumpN ?_
    | refine q_jumpR ?_
    | refine q_jumpE ?_
    | refine q_jumpG ?_
    | refine q_blockO rfl ?_
    | (apply w_op rfl
       · simp 
         first | rfl | exact ⟨‹_›, rfl⟩)
    | (refine w_condT ?_ ?_
       · simp 
         done)
    | (refine w_condF ?_ ?_
       · simp 
         done)
    | (apply w_opT rfl
       · simp 
         done
       · simp 
         rfl)
    | (refine w_opF ?_ ?_
       · simp 
         done))
  apply w_call [0] (hc := by kernel_rfl) (pc := hT)
  · decide
  · decide
  · simp 
  · simp 
  · simp 
  · simp 
  · simp 
  · (simp ; rfl)
  repeat (first
    | refine w_seq ?_
    | refine w_region ?_
    | refine w_draw0 ?_
    | refine w_nil ?_
    | refine q_then ?_
    | refine w_skip ?_
    | refine w_ret ?_
    | refine w_block ?_
    | refine w_scope ?_
    | refine w_label ?_
    | refine q_thenR ?_
    | refine q_blockR ?_
    | refine q_blockN ?_
    | refine w_exit ?_
    | refine q_thenE ?_
    | refine q_blockE ?_
    | refine w_scope1 ?_
    | refine w_goto ?_
    | refine q_thenG ?_
    | refine q_blockG ?_
    | refine q_ngN ?_
    | refine q_ngR ?_
    | refine q_ngE ?_
    | refine q_jumpN ?_
    | refine q_jumpR ?_
    | refine q_jumpE ?_
    | refine q_jumpG ?_
    | refine q_blockO rfl ?_
    | (apply w_op rfl
       · simp 
         first | rfl | exact ⟨‹_›, rfl⟩)
    | (refine w_condT ?_ ?_
       · simp 
         done)
    | (refine w_condF ?_ ?_
       · simp 
         done)
    | (apply w_opT rfl
       · simp 
         done
       · simp 
         rfl)
    | (refine w_opF ?_ ?_
       · simp 
         done))
  apply w_call [17] (hc := by kernel_rfl) (pc := hp)
  · decide
  · decide
  · simp 
  · simp 
  · simp 
  · simp 
  · simp 
  · (simp ; rfl)
  repeat (first
    | refine w_seq ?_
    | refine w_region ?_
    | refine w_draw0 ?_
    | refine w_nil ?_
    | refine q_then ?_
    | refine w_skip ?_
    | refine w_ret ?_
    | refine w_block ?_
    | refine w_scope ?_
    | refine w_label ?_
    | refine q_thenR ?_
    | refine q_blockR ?_
    | refine q_blockN ?_
    | refine w_exit ?_
    | refine q_thenE ?_
    | refine q_blockE ?_
    | refine w_scope1 ?_
    | refine w_goto ?_
    | refine q_thenG ?_
    | refine q_blockG ?_
    | refine q_ngN ?_
    | refine q_ngR ?_
    | refine q_ngE ?_
    | refine q_jumpN ?_
    | refine q_jumpR ?_
    | refine q_jumpE ?_
    | refine q_jumpG ?_
    | refine q_blockO rfl ?_
    | (apply w_op rfl
       · simp 
         first | rfl | exact ⟨‹_›, rfl⟩)
    | (refine w_condT ?_ ?_
       · simp 
         done)
    | (refine w_condF ?_ ?_
       · simp 
         done)
    | (apply w_opT rfl
       · simp 
         done
       · simp 
         rfl)
    | (refine w_opF ?_ ?_
       · simp 
         done))
  apply w_call [17] (hc := by kernel_rfl) (pc := hB)
  · decide
  · decide
  · simp 
  · simp 
  · simp 
  · simp 
  · simp 
  · (simp ; rfl)
  repeat (first
    | refine w_seq ?_
    | refine w_region ?_
    | refine w_draw0 ?_
    | refine w_nil ?_
    | refine q_then ?_
    | refine w_skip ?_
    | refine w_ret ?_
    | refine w_block ?_
    | refine w_scope ?_
    | refine w_label ?_
    | refine q_thenR ?_
    | refine q_blockR ?_
    | refine q_blockN ?_
    | refine w_exit ?_
    | refine q_thenE ?_
    | refine q_blockE ?_
    | refine w_scope1 ?_
    | refine w_goto ?_
    | refine q_thenG ?_
    | refine q_blockG ?_
    | refine q_ngN ?_
    | refine q_ngR ?_
    | refine q_ngE ?_
    | refine q_jumpN ?_
    | refine q_jumpR ?_
    | refine q_jumpE ?_
    | refine q_jumpG ?_
    | refine q_blockO rfl ?_
    | (apply w_op rfl
       · simp 
         first | rfl | exact ⟨‹_›, rfl⟩)
    | (refine w_condT ?_ ?_
       · simp 
         done)
    | (refine w_condF ?_ ?_
       · simp 
         done)
    | (apply w_opT rfl
       · simp 
         done
       · simp 
         rfl)
    | (refine w_opF ?_ ?_
       · simp 
         done))
  refine w_draw ?_
  repeat (first
    | refine w_dnil ?_
    | (apply d_op rfl
       · simp 
         first | rfl | exact ⟨‹_›, rfl⟩)
    | (apply d_opT rfl
       · simp 
         done
       · simp 
         rfl)
    | (refine d_opF ?_ ?_
       · simp 
         done))
  apply d_call [0] (hc := by kernel_rfl) (pc := hbad)
  · decide
  · decide
  · simp 
  · simp 
  · simp 
  · simp 
  · simp 
  · (simp ; rfl)
  repeat (first
    | refine w_dnil ?_
    | (apply d_op rfl
       · simp 
         first | rfl | exact ⟨‹_›, rfl⟩)
    | (apply d_opT rfl
       · simp 
         done
       · simp 
         rfl)
    | (refine d_opF ?_ ?_
       · simp 
         done))
  refine ⟨by simp, ?_⟩
  repeat (first
    | refine w_seq ?_
    | refine w_region ?_
    | refine w_draw0 ?_
    | refine w_nil ?_
    | refine q_then ?_
    | refine w_skip ?_
    | refine w_ret ?_
    | refine w_block ?_
    | refine w_scope ?_
    | refine w_label ?_
    | refine q_thenR ?_
    | refine q_blockR ?_
    | refine q_blockN ?_
    | refine w_exit ?_
    | refine q_thenE ?_
    | refine q_blockE ?_
    | refine w_scope1 ?_
    | refine w_goto ?_
    | refine q_thenG ?_
    | refine q_blockG ?_
    | refine q_ngN ?_
    | refine q_ngR ?_
    | refine q_ngE ?_
    | refine q_jumpN ?_
    | refine q_jumpR ?_
    | refine q_jumpE ?_
    | refine q_jumpG ?_
    | refine q_blockO rfl ?_
    | (apply w_op rfl
       · simp 
         first | rfl | exact ⟨‹_›, rfl⟩)
    | (refine w_condT ?_ ?_
       · simp 
         done)
    | (refine w_condF ?_ ?_
       · simp 
         done)
    | (apply w_opT rfl
       · simp 
         done
       · simp 
         rfl)
    | (refine w_opF ?_ ?_
       · simp 
         done))
  simp [Fin]

abbrev x1 : SV := .agg [cI 64, cI 1, cS (u8s [2]), cS (u8s [64, 1, 1, 2])]
abbrev Ans (h o : Int) : List C := [cI h, cI o, .nilsl, cU 0, cU 0, cU 0, cU 0, cU 0, .nilsl]

theorem pc_flagged1 : PC Try.prog 53 [x1] (tab []) (vb true) (tab []) := by
  have hf : PC Try.prog 52 [vi64 1] (tab []) (vi64 64) (tab []) := pc_aflags 1
  refine F_attr_one_flagged.pc0 (by simp) ?_
  unfold c_attr_one_flagged
  repeat (first
    | refine w_seq ?_
    | refine w_region ?_
    | refine w_draw0 ?_
    | refine w_nil ?_
    | refine q_then ?_
    | refine w_skip ?_
    | refine w_ret ?_
    | refine w_block ?_
    | refine w_scope ?_
    | refine w_label ?_
    | refine q_thenR ?_
    | refine q_blockR ?_
    | refine q_blockN ?_
    | refine w_exit ?_
    | refine q_thenE ?_
    | refine q_blockE ?_
    | refine w_scope1 ?_
    | refine w_goto ?_
    | refine q_thenG ?_
    | refine q_blockG ?_
    | refine q_ngN ?_
    | refine q_ngR ?_
    | refine q_ngE ?_
    | refine q_jumpN ?_
    | refine q_jumpR ?_
    | refine q_jumpE ?_
    | refine q_jumpG ?_
    | refine q_blockO rfl ?_
    | (apply w_op rfl
       · simp 
         first | rfl | exact ⟨‹_›, rfl⟩)
    | (refine w_condT ?_ ?_
       · simp 
         done)
    | (refine w_condF ?_ ?_
       · simp 
         done)
    | (apply w_opT rfl
       · simp 
         done
       · simp 
         rfl)
    | (refine w_opF ?_ ?_
       · simp 
         done))
  apply w_call0 (hc := by kernel_rfl) (pc := hf)
  · simp 
  · (simp ; rfl)
  repeat (first
    | refine w_seq ?_
    | refine w_region ?_
    | refine w_draw0 ?_
    | refine w_nil ?_
    | refine q_then ?_
    | refine w_skip ?_
    | refine w_ret ?_
    | refine w_block ?_
    | refine w_scope ?_
    | refine w_label ?_
    | refine q_thenR ?_
    | refine q_blockR ?_
    | refine q_blockN ?_
    | refine w_exit ?_
    | refine q_thenE ?_
    | refine q_blockE ?_
    | refine w_scope1 ?_
    | refine w_goto ?_
    | refine q_thenG ?_
    | refine q_blockG ?_
    | refine q_ngN ?_
    | refine q_ngR ?_
    | refine q_ngE ?_
    | refine q_jumpN ?_
    | refine q_jumpR ?_
    | refine q_jumpE ?_
    | refine q_jumpG ?_
    | refine q_blockO rfl ?_
    | (apply w_op rfl
       · simp 
         first | rfl | exact ⟨‹_›, rfl⟩)
    | (refine w_condT ?_ ?_
       · simp 
         done)
    | (refine w_condF ?_ ?_
       · simp 
         done)
    | (apply w_opT rfl
       · simp 
         done
       · simp 
         rfl)
    | (refine w_opF ?_ ?_
       · simp 
         done))
  simp [Fin]
  decide

theorem pc_long1 : PC Try.prog 54 [x1] (tab []) (vb true) (tab []) := by
  refine F_attr_one_long.pc0 (by simp) ?_
  unfold c_attr_one_long
  repeat (first
    | refine w_seq ?_
    | refine w_region ?_
    | refine w_draw0 ?_
    | refine w_nil ?_
    | refine q_then ?_
    | refine w_skip ?_
    | refine w_ret ?_
    | refine w_block ?_
    | refine w_scope ?_
    | refine w_label ?_
    | refine q_thenR ?_
    | refine q_blockR ?_
    | refine q_blockN ?_
    | refine w_exit ?_
    | refine q_thenE ?_
    | refine q_blockE ?_
    | refine w_scope1 ?_
    | refine w_goto ?_
    | refine q_thenG ?_
    | refine q_blockG ?_
    | refine q_ngN ?_
    | refine q_ngR ?_
    | refine q_ngE ?_
    | refine q_jumpN ?_
    | refine q_jumpR ?_
    | refine q_jumpE ?_
    | refine q_jumpG ?_
    | refine q_blockO rfl ?_
    | (apply w_op rfl
       · simp 
         first | rfl | exact ⟨‹_›, rfl⟩)
    | (refine w_condT ?_ ?_
       · simp 
         done)
    | (refine w_condF ?_ ?_
       · simp 
         done)
    | (apply w_opT rfl
       · simp 
         done
       · simp 
         rfl)
    | (refine w_opF ?_ ?_
       · simp 
         done))
  simp [Fin]

theorem pc_lay1 : PC Try.prog 55 [x1, vp 0 0] (tab [Ans 0 0]) (vi64 0) (tab [Ans 0 2]) := by
  have hn := pc_New [2] (by simp)
  have hu : PC Try.prog 44 [vp 0 0] (tab [[cS (u8s [2]), cB false]]) (vi64 2) (tab [[cS (u8s []), cB false]]) := pc_U8_ok 2 [] (by simp) (by intro n hn; simp at hn; omega)
  refine F_attr_one_lay.pc (css := [_]) (pre := [_]) (new := []) (by simp) rfl none ?_
  unfold c_attr_one_lay
  repeat (first
    | refine w_seq ?_
    | refine w_region ?_
    | refine w_draw0 ?_
    | refine w_nil ?_
    | refine q_then ?_
    | refine w_skip ?_
    | refine w_ret ?_
    | refine w_block ?_
    | refine w_scope ?_
    | refine w_label ?_
    | refine q_thenR ?_
    | refine q_blockR ?_
    | refine q_blockN ?_
    | refine w_exit ?_
    | refine q_thenE ?_
    | refine q_blockE ?_
    | refine w_scope1 ?_
    | refine w_goto ?_
    | refine q_thenG ?_
    | refine q_blockG ?_
    | refine q_ngN ?_
    | refine q_ngR ?_
    | refine q_ngE ?_
    | refine q_jumpN ?_
    | refine q_jumpR ?_
    | refine q_jumpE ?_
    | refine q_jumpG ?_
    | refine q_blockO rfl ?_
    | (apply w_op rfl
       · simp 
         first | rfl | exact ⟨‹_›, rfl⟩)
    | (refine w_condT ?_ ?_
       · simp 
         done)
    | (refine w_condF ?_ ?_
       · simp 
         done)
    | (apply w_opT rfl
       · simp 
         done
       · simp 
         rfl)
    | (refine w_opF ?_ ?_
       · simp 
         done))
  apply w_callN0 (hc := by kernel_rfl) (pc := hn)
  · simp 
  · simp 
  · (simp ; rfl)
  repeat (first
    | refine w_seq ?_
    | refine w_region ?_
    | refine w_draw0 ?_
    | refine w_nil ?_
    | refine q_then ?_
    | refine w_skip ?_
    | refine w_ret ?_
    | refine w_block ?_
    | refine w_scope ?_
    | refine w_label ?_
    | refine q_thenR ?_
    | refine q_blockR ?_
    | refine q_blockN ?_
    | refine w_exit ?_
    | refine q_thenE ?_
    | refine q_blockE ?_
    | refine w_scope1 ?_
    | refine w_goto ?_
    | refine q_thenG ?_
    | refine q_blockG ?_
    | refine q_ngN ?_
    | refine q_ngR ?_
    | refine q_ngE ?_
    | refine q_jumpN ?_
    | refine q_jumpR ?_
    | refine q_jumpE ?_
    | refine q_jumpG ?_
    | refine q_blockO rfl ?_
    | (apply w_op rfl
       · simp 
         first | rfl | exact ⟨‹_›, rfl⟩)
    | (refine w_condT ?_ ?_
       · simp 
         done)
    | (refine w_condF ?_ ?_
       · simp 
         done)
    | (apply w_opT rfl
       · simp 
         done
       · simp 
         rfl)
    | (refine w_opF ?_ ?_
       · simp 
         done))
  apply w_call [21] (hc := by kernel_rfl) (pc := hu)
  · decide
  · decide
  · simp 
  · simp 
  · simp 
  · simp 
  · simp 
  · (simp ; rfl)
  repeat (first
    | refine w_seq ?_
    | refine w_region ?_
    | refine w_draw0 ?_
    | refine w_nil ?_
    | refine q_then ?_
    | refine w_skip ?_
    | refine w_ret ?_
    | refine w_block ?_
    | refine w_scope ?_
    | refine w_label ?_
    | refine q_thenR ?_
    | refine q_blockR ?_
    | refine q_blockN ?_
    | refine w_exit ?_
    | refine q_thenE ?_
    | refine q_blockE ?_
    | refine w_scope1 ?_
    | refine w_goto ?_
    | refine q_thenG ?_
    | refine q_blockG ?_
    | refine q_ngN ?_
    | refine q_ngR ?_
    | refine q_ngE ?_
    | refine q_jumpN ?_
    | refine q_jumpR ?_
    | refine q_jumpE ?_
    | refine q_jumpG ?_
    | refine q_blockO rfl ?_
    | (apply w_op rfl
       · simp 
         first | rfl | exact ⟨‹_›, rfl⟩)
    | (refine w_condT ?_ ?_
       · simp 
         done)
    | (refine w_condF ?_ ?_
       · simp 
         done)
    | (apply w_opT rfl
       · simp 
         done
       · simp 
         rfl)
    | (refine w_opF ?_ ?_
       · simp 
         done))
  simp [Fin]

theorem pc_wrong1 : PC Try.prog 24 [x1, vp 0 0] (tab [Ans 0 0]) (vi64 0) (tab [Ans 2 2]) := by
  have hf : PC Try.prog 52 [vi64 1] (tab []) (vi64 64) (tab []) := pc_aflags 1
  have hfl := pc_flagged1
  have hlo := pc_long1
  have hla := pc_lay1
  refine F_attr_wrong.pc (css := [_]) (pre := [_]) (new := []) (by simp) rfl none ?_
  unfold c_attr_wrong
  repeat (first
    | refine w_seq ?_
    | refine w_region ?_
    | refine w_draw0 ?_
    | refine w_nil ?_
    | refine q_then ?_
    | refine w_skip ?_
    | refine w_ret ?_
    | refine w_block ?_
    | refine w_scope ?_
    | refine w_label ?_
    | refine q_thenR ?_
    | refine q_blockR ?_
    | refine q_blockN ?_
    | refine w_exit ?_
    | refine q_thenE ?_
    | refine q_blockE ?_
    | refine w_scope1 ?_
    | refine w_goto ?_
    | refine q_thenG ?_
    | refine q_blockG ?_
    | refine q_ngN ?_
    | refine q_ngR ?_
    | refine q_ngE ?_
    | refine q_jumpN ?_
    | refine q_jumpR ?_
    | refine q_jumpE ?_
    | refine q_jumpG ?_
    | refine q_blockO rfl ?_
    | (apply w_op rfl
       · simp 
         first | rfl | exact ⟨‹_›, rfl⟩)
    | (refine w_condT ?_ ?_
       · simp 
         done)
    | (refine w_condF ?_ ?_
       · simp 
         done)
    | (apply w_opT rfl
       · simp 
         done
       · simp 
         rfl)
    | (refine w_opF ?_ ?_
       · simp 
         done))
  apply w_call0 (hc := by kernel_rfl) (pc := hf)
  · simp 
  · (simp ; rfl)
  repeat (first
    | refine w_seq ?_
    | refine w_region ?_
    | refine w_draw0 ?_
    | refine w_nil ?_
    | refine q_then ?_
    | refine w_skip ?_
    | refine w_ret ?_
    | refine w_block ?_
    | refine w_scope ?_
    | refine w_label ?_
    | refine q_thenR ?_
    | refine q_blockR ?_
    | refine q_blockN ?_
    | refine w_exit ?_
    | refine q_thenE ?_
    | refine q_blockE ?_
    | refine w_scope1 ?_
    | refine w_goto ?_
    | refine q_thenG ?_
    | refine q_blockG ?_
    | refine q_ngN ?_
    | refine q_ngR ?_
    | refine q_ngE ?_
    | refine q_jumpN ?_
    | refine q_jumpR ?_
    | refine q_jumpE ?_
    | refine q_jumpG ?_
    | refine q_blockO rfl ?_
    | (apply w_op rfl
       · simp 
         first | rfl | exact ⟨‹_›, rfl⟩)
    | (refine w_condT ?_ ?_
       · simp 
         done)
    | (refine w_condF ?_ ?_
       · simp 
         done)
    | (apply w_opT rfl
       · simp 
         done
       · simp 
         rfl)
    | (refine w_opF ?_ ?_
       · simp 
         done))
  apply w_call0 (hc := by kernel_rfl) (pc := hfl)
  · simp 
  · (simp ; rfl)
  repeat (first
    | refine w_seq ?_
    | refine w_region ?_
    | refine w_draw0 ?_
    | refine w_nil ?_
    | refine q_then ?_
    | refine w_skip ?_
    | refine w_ret ?_
    | refine w_block ?_
    | refine w_scope ?_
    | refine w_label ?_
    | refine q_thenR ?_
    | refine q_blockR ?_
    | refine q_blockN ?_
    | refine w_exit ?_
    | refine q_thenE ?_
    | refine q_blockE ?_
    | refine w_scope1 ?_
    | refine w_goto ?_
    | refine q_thenG ?_
    | refine q_blockG ?_
    | refine q_ngN ?_
    | refine q_ngR ?_
    | refine q_ngE ?_
    | refine q_jumpN ?_
    | refine q_jumpR ?_
    | refine q_jumpE ?_
    | refine q_jumpG ?_
    | refine q_blockO rfl ?_
    | (apply w_op rfl
       · simp 
         first | rfl | exact ⟨‹_›, rfl⟩)
    | (refine w_condT ?_ ?_
       · simp 
         done)
    | (refine w_condF ?_ ?_
       · simp 
         done)
    | (apply w_opT rfl
       · simp 
         done
       · simp 
         rfl)
    | (refine w_opF ?_ ?_
       · simp 
         done))
  apply w_call0 (hc := by kernel_rfl) (pc := hlo)
  · simp 
  · (simp ; rfl)
  repeat (first
    | refine w_seq ?_
    | refine w_region ?_
    | refine w_draw0 ?_
    | refine w_nil ?_
    | refine q_then ?_
    | refine w_skip ?_
    | refine w_ret ?_
    | refine w_block ?_
    | refine w_scope ?_
    | refine w_label ?_
    | refine q_thenR ?_
    | refine q_blockR ?_
    | refine q_blockN ?_
    | refine w_exit ?_
    | refine q_thenE ?_
    | refine q_blockE ?_
    | refine w_scope1 ?_
    | refine w_goto ?_
    | refine q_thenG ?_
    | refine q_blockG ?_
    | refine q_ngN ?_
    | refine q_ngR ?_
    | refine q_ngE ?_
    | refine q_jumpN ?_
    | refine q_jumpR ?_
    | refine q_jumpE ?_
    | refine q_jumpG ?_
    | refine q_blockO rfl ?_
    | (apply w_op rfl
       · simp 
         first | rfl | exact ⟨‹_›, rfl⟩)
    | (refine w_condT ?_ ?_
       · simp 
         done)
    | (refine w_condF ?_ ?_
       · simp 
         done)
    | (apply w_opT rfl
       · simp 
         done
       · simp 
         rfl)
    | (refine w_opF ?_ ?_
       · simp 
         done))
  apply w_call [0] (hc := by kernel_rfl) (pc := hla)
  · decide
  · decide
  · simp 
  · simp 
  · simp 
  · simp 
  · simp 
  · (simp ; rfl)
  repeat (first
    | refine w_seq ?_
    | refine w_region ?_
    | refine w_draw0 ?_
    | refine w_nil ?_
    | refine q_then ?_
    | refine w_skip ?_
    | refine w_ret ?_
    | refine w_block ?_
    | refine w_scope ?_
    | refine w_label ?_
    | refine q_thenR ?_
    | refine q_blockR ?_
    | refine q_blockN ?_
    | refine w_exit ?_
    | refine q_thenE ?_
    | refine q_blockE ?_
    | refine w_scope1 ?_
    | refine w_goto ?_
    | refine q_thenG ?_
    | refine q_blockG ?_
    | refine q_ngN ?_
    | refine q_ngR ?_
    | refine q_ngE ?_
    | refine q_jumpN ?_
    | refine q_jumpR ?_
    | refine q_jumpE ?_
    | refine q_jumpG ?_
    | refine q_blockO rfl ?_
    | (apply w_op rfl
       · simp 
         first | rfl | exact ⟨‹_›, rfl⟩)
    | (refine w_condT ?_ ?_
       · simp 
         done)
    | (refine w_condF ?_ ?_
       · simp 
         done)
    | (apply w_opT rfl
       · simp 
         done
       · simp 
         rfl)
    | (refine w_opF ?_ ?_
       · simp 
         done))
  simp [Fin]
  decide

abbrev noNotice : List C := [cI 0, cI 0, cS []]

set_option maxHeartbeats 8000000 in
set_option maxRecDepth 100000 in
theorem pc_Decode1 : PC Try.prog 7 [vsl (u8s [64, 1, 1, 2])] (tab []) (.tup [.agg (A2cs 2), .agg noNotice]) (tab []) := by
  have hN := pc_New [64, 1, 1, 2] (by simp)
  have hL := pc_Left [64, 1, 1, 2] false
  have hL0 := pc_Left [] false
  have hx := pc_next1
  have hw := pc_wrong1
  have hn := pc_anorm 2
  refine F_attr_Decode.pc0 (by simp) ?_
  unfold c_attr_Decode
  repeat (first
    | refine w_seq ?_
    | refine w_region ?_
    | refine w_draw0 ?_
    | refine w_nil ?_
    | refine q_then ?_
    | refine w_skip ?_
    | refine w_ret ?_
    | refine w_block ?_
    | refine w_scope ?_
    | refine w_label ?_
    | refine q_thenR ?_
    | refine q_blockR ?_
    | refine q_blockN ?_
    | refine w_exit ?_
    | refine q_thenE ?_
    | refine q_blockE ?_
    | refine w_scope1 ?_
    | refine w_goto ?_
    | refine q_thenG ?_
    | refine q_blockG ?_
    | refine q_ngN ?_
    | refine q_ngR ?_
    | refine q_ngE ?_
    | refine q_jumpN ?_
    | refine q_jumpR ?_
    | refine q_jumpE ?_
    | refine q_jumpG ?_
    | refine q_blockO rfl ?_
    | (apply w_op rfl
       · simp 
         first | rfl | exact ⟨‹_›, rfl⟩)
    | (refine w_condT ?_ ?_
       · simp 
         done)
    | (refine w_condF ?_ ?_
       · simp 
         done)
    | (apply w_opT rfl
       · simp 
         done
       · simp 
         rfl)
    | (refine w_opF ?_ ?_
       · simp 
         done))
  apply w_callN0 (hc := by kernel_rfl) (pc := hN)
  · simp 
  · simp 
  · (simp ; rfl)
  repeat (first
    | refine w_seq ?_
    | refine w_region ?_
    | refine w_draw0 ?_
    | refine w_nil ?_
    | refine q_then ?_
    | refine w_skip ?_
    | refine w_ret ?_
    | refine w_block ?_
    | refine w_scope ?_
    | refine w_label ?_
    | refine q_thenR ?_
    | refine q_blockR ?_
    | refine q_blockN ?_
    | refine w_exit ?_
    | refine q_thenE ?_
    | refine q_blockE ?_
    | refine w_scope1 ?_
    | refine w_goto ?_
    | refine q_thenG ?_
    | refine q_blockG ?_
    | refine q_ngN ?_
    | refine q_ngR ?_
    | refine q_ngE ?_
    | refine q_jumpN ?_
    | refine q_jumpR ?_
    | refine q_jumpE ?_
    | refine q_jumpG ?_
    | refine q_blockO rfl ?_
    | (apply w_op rfl
       · simp 
         first | rfl | exact ⟨‹_›, rfl⟩)
    | (refine w_condT ?_ ?_
       · simp 
         done)
    | (refine w_condF ?_ ?_
       · simp 
         done)
    | (apply w_opT rfl
       · simp 
         done
       · simp 
         rfl)
    | (refine w_opF ?_ ?_
       · simp 
         done))
  refine w_loop (fun n st => ∃ seen, st.env 2 = .c (.ptr 5 1 0) ∧ st.box 5 = (1, some (Ans 0 0)) ∧ st.env 3 = .c (.ptr 7 1 0) ∧ st.box 7 = (1, some [cI 0, cI 0, .nilsl]) ∧ st.env 4 = .c (.ptr 9 1 0) ∧ st.env 5 = .c (.ptr 25 1 0) ∧ st.env 6 = .c (.ptr 13 1 0) ∧ st.box 13 = (1, some seen) ∧ ((n = 1 ∧ seen = List.replicate 256 (cB false) ∧ st.box 9 = (1, some (Ans 0 0)) ∧ st.box 25 = (1, some [cS (u8s [64, 1, 1, 2]), cB false])) ∨ (n = 0 ∧ st.box 9 = (1, some (Ans 2 2)) ∧ st.box 25 = (1, some [cS (u8s []), cB false])))) 1 ?_ ?_
  · refine ⟨List.replicate 256 (cB false), ?_⟩
    simp
  rintro n st ⟨seen, e2, b5, e3, b7, e4, e5, e6, b13, h⟩
  rcases h with ⟨rfl, rfl, b9, b25⟩ | ⟨rfl, b9, b25⟩
  · repeat (first
      | refine w_seq ?_
      | refine w_region ?_
      | refine w_draw0 ?_
      | refine w_nil ?_
      | refine q_then ?_
      | refine w_skip ?_
      | refine w_ret ?_
      | refine w_block ?_
      | refine w_scope ?_
      | refine w_label ?_
      | refine q_thenR ?_
      | refine q_blockR ?_
      | refine q_blockN ?_
      | refine w_exit ?_
      | refine q_thenE ?_
      | refine q_blockE ?_
      | refine w_scope1 ?_
      | refine w_goto ?_
      | refine q_thenG ?_
      | refine q_blockG ?_
      | refine q_ngN ?_
      | refine q_ngR ?_
      | refine q_ngE ?_
      | refine q_jumpN ?_
      | refine q_jumpR ?_
      | refine q_jumpE ?_
      | refine q_jumpG ?_
      | refine q_blockO rfl ?_
      | (apply w_op rfl
         · simp [e2, b5, e3, b7, e4, e5, e6, b13, b9, b25]
           first | rfl | exact ⟨‹_›, rfl⟩)
      | (refine w_condT ?_ ?_
         · simp [e2, b5, e3, b7, e4, e5, e6, b13, b9, b25]
           done)
      | (refine w_condF ?_ ?_
         · simp [e2, b5, e3, b7, e4, e5, e6, b13, b9, b25]
           done)
      | (apply w_opT rfl
         · simp [e2, b5, e3, b7, e4, e5, e6, b13, b9, b25]
           done
         · simp [e2, b5, e3, b7, e4, e5, e6, b13, b9, b25]
           rfl)
      | (refine w_opF ?_ ?_
         · simp [e2, b5, e3, b7, e4, e5, e6, b13, b9, b25]
           done))
    apply w_call [25] (hc := by kernel_rfl) (pc := hL)
    · decide
    · decide
    · simp [e2, b5, e3, b7, e4, e5, e6, b13, b9, b25]
    · simp [e2, b5, e3, b7, e4, e5, e6, b13, b9, b25]
    · simp [e2, b5, e3, b7, e4, e5, e6, b13, b9, b25]
    · simp [e2, b5, e3, b7, e4, e5, e6, b13, b9, b25]
    · simp [e2, b5, e3, b7, e4, e5, e6, b13, b9, b25]
    · (simp [e2, b5, e3, b7, e4, e5, e6, b13, b9, b25]; rfl)
    repeat (first
      | refine w_seq ?_
      | refine w_region ?_
      | refine w_draw0 ?_
      | refine w_nil ?_
      | refine q_then ?_
      | refine w_skip ?_
      | refine w_ret ?_
      | refine w_block ?_
      | refine w_scope ?_
      | refine w_label ?_
      | refine q_thenR ?_
      | refine q_blockR ?_
      | refine q_blockN ?_
      | refine w_exit ?_
      | refine q_thenE ?_
      | refine q_blockE ?_
      | refine w_scope1 ?_
      | refine w_goto ?_
      | refine q_thenG ?_
      | refine q_blockG ?_
      | refine q_ngN ?_
      | refine q_ngR ?_
      | refine q_ngE ?_
      | refine q_jumpN ?_
      | refine q_jumpR ?_
      | refine q_jumpE ?_
      | refine q_jumpG ?_
      | refine q_blockO rfl ?_
      | (apply w_op rfl
         · simp [e2, b5, e3, b7, e4, e5, e6, b13, b9, b25]
           first | rfl | exact ⟨‹_›, rfl⟩)
      | (refine w_condT ?_ ?_
         · simp [e2, b5, e3, b7, e4, e5, e6, b13, b9, b25]
           done)
      | (refine w_condF ?_ ?_
         · simp [e2, b5, e3, b7, e4, e5, e6, b13, b9, b25]
           done)
      | (apply w_opT rfl
         · simp [e2, b5, e3, b7, e4, e5, e6, b13, b9, b25]
           done
         · simp [e2, b5, e3, b7, e4, e5, e6, b13, b9, b25]
           rfl)
      | (refine w_opF ?_ ?_
         · simp [e2, b5, e3, b7, e4, e5, e6, b13, b9, b25]
           done))
    apply w_call [25] (hc := by kernel_rfl) (pc := hx)
    · decide
    · decide
    · simp [e2, b5, e3, b7, e4, e5, e6, b13, b9, b25]
    · simp [e2, b5, e3, b7, e4, e5, e6, b13, b9, b25]
    · simp [e2, b5, e3, b7, e4, e5, e6, b13, b9, b25]
    · simp [e2, b5, e3, b7, e4, e5, e6, b13, b9, b25]
    · simp [e2, b5, e3, b7, e4, e5, e6, b13, b9, b25]
    · (simp [e2, b5, e3, b7, e4, e5, e6, b13, b9, b25]; rfl)
    repeat (first
      | refine w_seq ?_
      | refine w_region ?_
      | refine w_draw0 ?_
      | refine w_nil ?_
      | refine q_then ?_
      | refine w_skip ?_
      | refine w_ret ?_
      | refine w_block ?_
      | refine w_scope ?_
      | refine w_label ?_
      | refine q_thenR ?_
      | refine q_blockR ?_
      | refine q_blockN ?_
      | refine w_exit ?_
      | refine q_thenE ?_
      | refine q_blockE ?_
      | refine w_scope1 ?_
      | refine w_goto ?_
      | refine q_thenG ?_
      | refine q_blockG ?_
      | refine q_ngN ?_
      | refine q_ngR ?_
      | refine q_ngE ?_
      | refine q_jumpN ?_
      | refine q_jumpR ?_
      | refine q_jumpE ?_
      | refine q_jumpG ?_
      | refine q_blockO rfl ?_
      | (apply w_op rfl
         · simp [e2, b5, e3, b7, e4, e5, e6, b13, b9, b25]
           first | rfl | exact ⟨‹_›, rfl⟩)
      | (refine w_condT ?_ ?_
         · simp [e2, b5, e3, b7, e4, e5, e6, b13, b9, b25]
           done)
      | (refine w_condF ?_ ?_
         · simp [e2, b5, e3, b7, e4, e5, e6, b13, b9, b25]
           done)
      | (apply w_opT rfl
         · simp [e2, b5, e3, b7, e4, e5, e6, b13, b9, b25]
           done
         · simp [e2, b5, e3, b7, e4, e5, e6, b13, b9, b25]
           rfl)
      | (refine w_opF ?_ ?_
         · simp [e2, b5, e3, b7, e4, e5, e6, b13, b9, b25]
           done))
    apply w_call [9] (hc := by kernel_rfl) (pc := hw)
    · decide
    · decide
    · simp [e2, b5, e3, b7, e4, e5, e6, b13, b9, b25]
    · simp [e2, b5, e3, b7, e4, e5, e6, b13, b9, b25]
    · simp [e2, b5, e3, b7, e4, e5, e6, b13, b9, b25]
    · simp [e2, b5, e3, b7, e4, e5, e6, b13, b9, b25]
    · simp [e2, b5, e3, b7, e4, e5, e6, b13, b9, b25]
    · (simp [e2, b5, e3, b7, e4, e5, e6, b13, b9, b25]; rfl)
    repeat (first
      | refine w_seq ?_
      | refine w_region ?_
      | refine w_draw0 ?_
      | refine w_nil ?_
      | refine q_then ?_
      | refine w_skip ?_
      | refine w_ret ?_
      | refine w_block ?_
      | refine w_scope ?_
      | refine w_label ?_
      | refine q_thenR ?_
      | refine q_blockR ?_
      | refine q_blockN ?_
      | refine w_exit ?_
      | refine q_thenE ?_
      | refine q_blockE ?_
      | refine w_scope1 ?_
      | refine w_goto ?_
      | refine q_thenG ?_
      | refine q_blockG ?_
      | refine q_ngN ?_
      | refine q_ngR ?_
      | refine q_ngE ?_
      | refine q_jumpN ?_
      | refine q_jumpR ?_
      | refine q_jumpE ?_
      | refine q_jumpG ?_
      | refine q_blockO rfl ?_
      | (apply w_op rfl
         · simp [e2, b5, e3, b7, e4, e5, e6, b13, b9, b25]
           first | rfl | exact ⟨‹_›, rfl⟩)
      | (refine w_condT ?_ ?_
         · simp [e2, b5, e3, b7, e4, e5, e6, b13, b9, b25]
           done)
      | (refine w_condF ?_ ?_
         · simp [e2, b5, e3, b7, e4, e5, e6, b13, b9, b25]
           done)
      | (apply w_opT rfl
         · simp [e2, b5, e3, b7, e4, e5, e6, b13, b9, b25]
           done
         · simp [e2, b5, e3, b7, e4, e5, e6, b13, b9, b25]
           rfl)
      | (refine w_opF ?_ ?_
         · simp [e2, b5, e3, b7, e4, e5, e6, b13, b9, b25]
           done))
    exact ⟨0, by omega, _, by simp [e2, b5, e3, b7, e4, e5, e6, b13, b9, b25]; rfl⟩
  · repeat (first
      | refine w_seq ?_
      | refine w_region ?_
      | refine w_draw0 ?_
      | refine w_nil ?_
      | refine q_then ?_
      | refine w_skip ?_
      | refine w_ret ?_
      | refine w_block ?_
      | refine w_scope ?_
      | refine w_label ?_
      | refine q_thenR ?_
      | refine q_blockR ?_
      | refine q_blockN ?_
      | refine w_exit ?_
      | refine q_thenE ?_
      | refine q_blockE ?_
      | refine w_scope1 ?_
      | refine w_goto ?_
      | refine q_thenG ?_
      | refine q_blockG ?_
      | refine q_ngN ?_
      | refine q_ngR ?_
      | refine q_ngE ?_
      | refine q_jumpN ?_
      | refine q_jumpR ?_
      | refine q_jumpE ?_
      | refine q_jumpG ?_
      | refine q_blockO rfl ?_
      | (apply w_op rfl
         · simp [e2, b5, e3, b7, e4, e5, e6, b13, b9, b25]
           first | rfl | exact ⟨‹_›, rfl⟩)
      | (refine w_condT ?_ ?_
         · simp [e2, b5, e3, b7, e4, e5, e6, b13, b9, b25]
           done)
      | (refine w_condF ?_ ?_
         · simp [e2, b5, e3, b7, e4, e5, e6, b13, b9, b25]
           done)
      | (apply w_opT rfl
         · simp [e2, b5, e3, b7, e4, e5, e6, b13, b9, b25]
           done
         · simp [e2, b5, e3, b7, e4, e5, e6, b13, b9, b25]
           rfl)
      | (refine w_opF ?_ ?_
         · simp [e2, b5, e3, b7, e4, e5, e6, b13, b9, b25]
           done))
    apply w_call [25] (hc := by kernel_rfl) (pc := hL0)
    · decide
    · decide
    · simp [e2, b5, e3, b7, e4, e5, e6, b13, b9, b25]
    · simp [e2, b5, e3, b7, e4, e5, e6, b13, b9, b25]
    · simp [e2, b5, e3, b7, e4, e5, e6, b13, b9, b25]
    · simp [e2, b5, e3, b7, e4, e5, e6, b13, b9, b25]
    · simp [e2, b5, e3, b7, e4, e5, e6, b13, b9, b25]
    · (simp [e2, b5, e3, b7, e4, e5, e6, b13, b9, b25]; rfl)
    repeat (first
      | refine w_seq ?_
      | refine w_region ?_
      | refine w_draw0 ?_
      | refine w_nil ?_
      | refine q_then ?_
      | refine w_skip ?_
      | refine w_ret ?_
      | refine w_block ?_
      | refine w_scope ?_
      | refine w_label ?_
      | refine q_thenR ?_
      | refine q_blockR ?_
      | refine q_blockN ?_
      | refine w_exit ?_
      | refine q_thenE ?_
      | refine q_blockE ?_
      | refine w_scope1 ?_
      | refine w_goto ?_
      | refine q_thenG ?_
      | refine q_blockG ?_
      | refine q_ngN ?_
      | refine q_ngR ?_
      | refine q_ngE ?_
      | refine q_jumpN ?_
      | refine q_jumpR ?_
      | refine q_jumpE ?_
      | refine q_jumpG ?_
      | refine q_blockO rfl ?_
      | (apply w_op rfl
         · simp [e2, b5, e3, b7, e4, e5, e6, b13, b9, b25]
           first | rfl | exact ⟨‹_›, rfl⟩)
      | (refine w_condT ?_ ?_
         · simp [e2, b5, e3, b7, e4, e5, e6, b13, b9, b25]
           done)
      | (refine w_condF ?_ ?_
         · simp [e2, b5, e3, b7, e4, e5, e6, b13, b9, b25]
           done)
      | (apply w_opT rfl
         · simp [e2, b5, e3, b7, e4, e5, e6, b13, b9, b25]
           done
         · simp [e2, b5, e3, b7, e4, e5, e6, b13, b9, b25]
           rfl)
      | (refine w_opF ?_ ?_
         · simp [e2, b5, e3, b7, e4, e5, e6, b13, b9, b25]
           done))
    apply w_call0 (hc := by kernel_rfl) (pc := hn)
    · simp [e2, b5, e3, b7, e4, e5, e6, b13, b9, b25]
    · (simp [e2, b5, e3, b7, e4, e5, e6, b13, b9, b25]; rfl)
    repeat (first
      | refine w_seq ?_
      | refine w_region ?_
      | refine w_draw0 ?_
      | refine w_nil ?_
      | refine q_then ?_
      | refine w_skip ?_
      | refine w_ret ?_
      | refine w_block ?_
      | refine w_scope ?_
      | refine w_label ?_
      | refine q_thenR ?_
      | refine q_blockR ?_
      | refine q_blockN ?_
      | refine w_exit ?_
      | refine q_thenE ?_
      | refine q_blockE ?_
      | refine w_scope1 ?_
      | refine w_goto ?_
      | refine q_thenG ?_
      | refine q_blockG ?_
      | refine q_ngN ?_
      | refine q_ngR ?_
      | refine q_ngE ?_
      | refine q_jumpN ?_
      | refine q_jumpR ?_
      | refine q_jumpE ?_
      | refine q_jumpG ?_
      | refine q_blockO rfl ?_
      | (apply w_op rfl
         · simp [e2, b5, e3, b7, e4, e5, e6, b13, b9, b25]
           first | rfl | exact ⟨‹_›, rfl⟩)
      | (refine w_condT ?_ ?_
         · simp [e2, b5, e3, b7, e4, e5, e6, b13, b9, b25]
           done)
      | (refine w_condF ?_ ?_
         · simp [e2, b5, e3, b7, e4, e5, e6, b13, b9, b25]
           done)
      | (apply w_opT rfl
         · simp [e2, b5, e3, b7, e4, e5, e6, b13, b9, b25]
           done
         · simp [e2, b5, e3, b7, e4, e5, e6, b13, b9, b25]
           rfl)
      | (refine w_opF ?_ ?_
         · simp [e2, b5, e3, b7, e4, e5, e6, b13, b9, b25]
           done))
    simp [Fin, e2, b5, e3, b7]

end Go.V

