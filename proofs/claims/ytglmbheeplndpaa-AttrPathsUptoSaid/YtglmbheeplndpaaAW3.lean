/- The pieces of a path's bytes: the document. -/
import Derived.Test.YtglmbheeplndpaaAW2
set_option linter.all false
set_option linter.unusedSimpArgs false
set_option linter.unusedVariables false
namespace Go.V
open Go Go.Proofs

theorem pc_refPath (b : List Int) (hb : b.length ≤ 1000000) (hx : okB b) : PC Try.prog 13 [vsl (u8s b)] (tab []) (.tup [vsl (segs (pathV b).1), vb (pathV b).2]) (tab []) := by
  refine F_r08_Path.pc0 (by simp) ?_
  unfold c_r08_Path
  repeat (first
    | refine w_seq ?_
    | refine w_region ?_
    | refine w_draw0 ?_
    | refine w_nil ?_
    | refine q_then ?_
    | refine w_skip ?_
    | refine w_ret ?_
    | refine w_block ?_
    | refine w_scope ?_
    | refine w_label ?_
    | refine q_thenR ?_
    | refine q_blockR ?_
    | refine q_blockN ?_
    | refine w_exit ?_
    | refine q_thenE ?_
    | refine q_blockE ?_
    | refine w_scope1 ?_
    | refine w_goto ?_
    | refine q_thenG ?_
    | refine q_blockG ?_
    | refine q_ngN ?_
    | refine q_ngR ?_
    | refine q_ngE ?_
    | refine q_jumpN ?_
    | refine q_jumpR ?_
    | refine q_jumpE ?_
    | refine q_jumpG ?_
    | refine q_blockO rfl ?_
    | (apply w_op rfl
       · simp 
         first | rfl | exact ⟨‹_›, rfl⟩)
    | (refine w_condT ?_ ?_
       · simp 
         done)
    | (refine w_condF ?_ ?_
       · simp 
         done)
    | (apply w_opT rfl
       · simp 
         done
       · simp 
         rfl)
    | (refine w_opF ?_ ?_
       · simp 
         done))
  refine w_loop (fun x st => ∃ (a : Nat) (acc : List Seg), x = b.length - a ∧ a ≤ b.length ∧ acc.length ≤ a ∧ pathR b = (pathR (b.drop a)).map (acc ++ ·) ∧ st.env 0 = vsl (u8s b) ∧ st.env 5 = vi64 a ∧ st.env 4 = .c (.osl 65 2 (segs acc))) b.length ?_ ?_
  · exact ⟨0, [], by simp⟩
  rintro _ st ⟨a, acc, rfl, ha, hacc, hp, e0, e5, e4⟩
  obtain ⟨a1, ha1⟩ : ∃ a1 : Nat, a1 = a + 1 := ⟨_, rfl⟩
  obtain ⟨a2, ha2⟩ : ∃ a2 : Nat, a2 = a + 2 := ⟨_, rfl⟩
  have c1 : (a : Int) + 1 = a1 := by omega
  have c2 : (a : Int) + 2 = a2 := by omega
  have w1 : IntKind.i64.wrap (a1 : Int) = a1 := wrap64 (by omega) (by omega)
  have w2 : IntKind.i64.wrap (a2 : Int) = a2 := wrap64 (by omega) (by omega)
  cases hd : b.drop a with
  | nil =>
    have hv : pathV b = (acc, true) := by unfold pathV; rw [hp, hd, pathR]; simp
    have hal : ¬ a < b.length := by
      have := congrArg List.length hd
      rw [List.length_drop] at this
      simp at this
      omega
    repeat (first
      | refine w_seq ?_
      | refine w_region ?_
      | refine w_draw0 ?_
      | refine w_nil ?_
      | refine q_then ?_
      | refine w_skip ?_
      | refine w_ret ?_
      | refine w_block ?_
      | refine w_scope ?_
      | refine w_label ?_
      | refine q_thenR ?_
      | refine q_blockR ?_
      | refine q_blockN ?_
      | refine w_exit ?_
      | refine q_thenE ?_
      | refine q_blockE ?_
      | refine w_scope1 ?_
      | refine w_goto ?_
      | refine q_thenG ?_
      | refine q_blockG ?_
      | refine q_ngN ?_
      | refine q_ngR ?_
      | refine q_ngE ?_
      | refine q_jumpN ?_
      | refine q_jumpR ?_
      | refine q_jumpE ?_
      | refine q_jumpG ?_
      | refine q_blockO rfl ?_
      | (apply w_op rfl
         · simp [e0, e5, e4, hal]
           first | rfl | exact ⟨‹_›, rfl⟩)
      | (refine w_condT ?_ ?_
         · simp [e0, e5, e4, hal]
           done)
      | (refine w_condF ?_ ?_
         · simp [e0, e5, e4, hal]
           done)
      | (apply w_opT rfl
         · simp [e0, e5, e4, hal]
           done
         · simp [e0, e5, e4, hal]
           rfl)
      | (refine w_opF ?_ ?_
         · simp [e0, e5, e4, hal]
           done))
    simp [Fin, hv]
  | cons k t =>
    have hlen := congrArg List.length hd
    rw [List.length_drop] at hlen
    simp only [List.length_cons] at hlen
    have hal : a < b.length := by omega
    have hk : b[a] = k := by
      have h := List.getElem?_drop (xs := b) (i := a) (j := 0)
      rw [hd] at h
      simpa [List.getElem?_eq_getElem hal] using h.symm
    have hkx := hx k (by rw [← hk]; exact List.getElem_mem hal)
    cases t with
    | nil =>
      have hv : pathV b = ([], false) := by unfold pathV; rw [hp, hd, pathR]; rfl
      have h17 : (b.length : Int) < a2 := by simp only [List.length_nil] at hlen; omega
      repeat (first
        | refine w_seq ?_
        | refine w_region ?_
        | refine w_draw0 ?_
        | refine w_nil ?_
        | refine q_then ?_
        | refine w_skip ?_
        | refine w_ret ?_
        | refine w_block ?_
        | refine w_scope ?_
        | refine w_label ?_
        | refine q_thenR ?_
        | refine q_blockR ?_
        | refine q_blockN ?_
        | refine w_exit ?_
        | refine q_thenE ?_
        | refine q_blockE ?_
        | refine w_scope1 ?_
        | refine w_goto ?_
        | refine q_thenG ?_
        | refine q_blockG ?_
        | refine q_ngN ?_
        | refine q_ngR ?_
        | refine q_ngE ?_
        | refine q_jumpN ?_
        | refine q_jumpR ?_
        | refine q_jumpE ?_
        | refine q_jumpG ?_
        | refine q_blockO rfl ?_
        | (apply w_op rfl
           · simp [e0, e5, e4, hal, c1, c2, w1, w2, h17]
             first | rfl | exact ⟨‹_›, rfl⟩)
        | (refine w_condT ?_ ?_
           · simp [e0, e5, e4, hal, c1, c2, w1, w2, h17]
             done)
        | (refine w_condF ?_ ?_
           · simp [e0, e5, e4, hal, c1, c2, w1, w2, h17]
             done)
        | (apply w_opT rfl
           · simp [e0, e5, e4, hal, c1, c2, w1, w2, h17]
             done
           · simp [e0, e5, e4, hal, c1, c2, w1, w2, h17]
             rfl)
        | (refine w_opF ?_ ?_
           · simp [e0, e5, e4, hal, c1, c2, w1, w2, h17]
             done))
      simp [Fin, hv]
    | cons n r =>
      simp only [List.length_cons] at hlen
      have hal1 : a1 < b.length := by omega
      have hn : b[a1] = n := by
        have h := List.getElem?_drop (xs := b) (i := a) (j := 1)
        rw [hd, ← ha1] at h
        simpa [List.getElem?_eq_getElem hal1] using h.symm
      have hnx := hx n (by rw [← hn]; exact List.getElem_mem hal1)
      obtain ⟨m, rfl⟩ : ∃ m : Nat, n = m := ⟨n.toNat, by omega⟩
      have h17 : ¬ (b.length : Int) < a2 := by omega
      have hr : b.drop a2 = r := by
        rw [ha2, ← List.drop_drop, hd]
        rfl
      obtain ⟨q, hq⟩ : ∃ q : Nat, q = 4 * m := ⟨_, rfl⟩
      have cq : (4 : Int) * m = q := by omega
      have wq : IntKind.i64.wrap (q : Int) = q := wrap64 (by omega) (by omega)
      obtain ⟨z, hz⟩ : ∃ z : Nat, z = a2 + q := ⟨_, rfl⟩
      have cz : (a2 : Int) + q = z := by omega
      have wz : IntKind.i64.wrap (z : Int) = z := wrap64 (by omega) (by omega)
      have wm : IntKind.i64.wrap (m : Int) = m := wrap64 (by omega) (by omega)
      have wk : IntKind.i64.wrap k = k := wrap64 (by omega) (by omega)
      by_cases hgood : (k = 1 ∨ k = 2) ∧ (m : Int) ≠ 0 ∧ 4 * (m : Int).toNat ≤ r.length
      · obtain ⟨hk12, hm0, hmr⟩ := hgood
        have hpr : pathR b = (pathR (b.drop z)).map ((acc ++ [⟨k, nums4 m r⟩]) ++ ·) := by
          rw [hp, hd, pathR, if_pos ⟨hk12, hm0, hmr⟩, Int.toNat_natCast, ← hr, List.drop_drop, ← hq, ← hz]
          cases pathR (b.drop z) <;> simp
        have k1 : ¬ k < 1 := by omega
        have k2 : ¬ 2 < k := by omega
        have hm1 : ¬ m = 0 := by omega
        have h53 : ¬ (b.length : Int) < z := by simp only [Int.toNat_natCast] at hmr; omega
        repeat (first
          | refine w_seq ?_
          | refine w_region ?_
          | refine w_draw0 ?_
          | refine w_nil ?_
          | refine q_then ?_
          | refine w_skip ?_
          | refine w_ret ?_
          | refine w_block ?_
          | refine w_scope ?_
          | refine w_label ?_
          | refine q_thenR ?_
          | refine q_blockR ?_
          | refine q_blockN ?_
          | refine w_exit ?_
          | refine q_thenE ?_
          | refine q_blockE ?_
          | refine w_scope1 ?_
          | refine w_goto ?_
          | refine q_thenG ?_
          | refine q_blockG ?_
          | refine q_ngN ?_
          | refine q_ngR ?_
          | refine q_ngE ?_
          | refine q_jumpN ?_
          | refine q_jumpR ?_
          | refine q_jumpE ?_
          | refine q_jumpG ?_
          | refine q_blockO rfl ?_
          | (apply w_op rfl
             · simp [e0, e5, e4, hal, hal1, c1, c2, w1, w2, h17, hk, hn, k1, k2, hm1, wm, wk, cq, wq, cz, wz, h53]
               first | rfl | exact ⟨‹_›, rfl⟩)
          | (refine w_condT ?_ ?_
             · simp [e0, e5, e4, hal, hal1, c1, c2, w1, w2, h17, hk, hn, k1, k2, hm1, wm, wk, cq, wq, cz, wz, h53]
               done)
          | (refine w_condF ?_ ?_
             · simp [e0, e5, e4, hal, hal1, c1, c2, w1, w2, h17, hk, hn, k1, k2, hm1, wm, wk, cq, wq, cz, wz, h53]
               done)
          | (apply w_opT rfl
             · simp [e0, e5, e4, hal, hal1, c1, c2, w1, w2, h17, hk, hn, k1, k2, hm1, wm, wk, cq, wq, cz, wz, h53]
               done
             · simp [e0, e5, e4, hal, hal1, c1, c2, w1, w2, h17, hk, hn, k1, k2, hm1, wm, wk, cq, wq, cz, wz, h53]
               rfl)
          | (refine w_opF ?_ ?_
             · simp [e0, e5, e4, hal, hal1, c1, c2, w1, w2, h17, hk, hn, k1, k2, hm1, wm, wk, cq, wq, cz, wz, h53]
               done))
        refine w_loop (fun x st' => ∃ i v cc, i ≤ m ∧ x = m - i ∧ st'.env 0 = vsl (u8s b) ∧ st'.env 4 = .c (.osl 65 2 (segs acc)) ∧ st'.env 5 = vi64 a ∧ st'.env 6 = .c (.ptr 13 v 0) ∧ st'.box 13 = (v, some [cI k, cc]) ∧ acN cc (nums4 i r) ∧ st'.env 7 = vi64 i) m ?_ ?_
        · exact ⟨0, (st.box 13).1 + 1, .nilsl, by simp [acN, nums4, e0, e4, e5]⟩
        rintro _ st' ⟨i, v, cc, him, rfl, e0', e4', e5', e6, b13, hcc, e7⟩
        have hmr' : q ≤ r.length := by simp only [Int.toNat_natCast] at hmr; omega
        have hl4 := nums4_len i r
        by_cases hlt : i < m
        · obtain ⟨p, hpp⟩ : ∃ p : Nat, p = 4 * i := ⟨_, rfl⟩
          have cp : (4 : Int) * i = p := by omega
          have wp : IntKind.i64.wrap (p : Int) = p := wrap64 (by omega) (by omega)
          obtain ⟨x, hxx⟩ : ∃ x : Nat, x = a2 + p := ⟨_, rfl⟩
          have cx : (a2 : Int) + p = x := by omega
          have wx : IntKind.i64.wrap (x : Int) = x := wrap64 (by omega) (by omega)
          obtain ⟨a6, ha6⟩ : ∃ a6 : Nat, a6 = a + 6 := ⟨_, rfl⟩
          have c6 : (a : Int) + 6 = a6 := by omega
          have w6 : IntKind.i64.wrap (a6 : Int) = a6 := wrap64 (by omega) (by omega)
          obtain ⟨y, hyy⟩ : ∃ y : Nat, y = a6 + p := ⟨_, rfl⟩
          have cy : (a6 : Int) + p = y := by omega
          have wy : IntKind.i64.wrap (y : Int) = y := wrap64 (by omega) (by omega)
          have hxy : x ≤ y := by omega
          have hyl : y ≤ b.length := by omega
          have hs : (List.take y (u8s b)).drop x = u8s ((r.drop (4 * i)).take 4) := by
            rw [u8s_take, u8s_drop, ← hr, List.drop_drop, List.drop_take, ← hpp, ← hxx, show y - x = 4 by omega]
          have hw : IntKind.i64.wrap (i + 1 : Int) = i + 1 := wrap64 (by omega) (by omega)
          have hN := pc_Num ((r.drop (4 * i)).take 4) (by simp; omega) (fun n hn => hx n (by
            rw [← hr] at hn
            exact List.drop_subset _ _ (List.drop_subset _ _ (List.take_subset _ _ hn))))
          have hsn := nums4_snoc i r
          have h5 : (i + 1) * 4 ≤ 140737488355328 := by omega
          have hi64 : (i : Int) < m := by omega
          rcases hcc with ⟨rfl, h0⟩ | rfl
          · rw [h0] at hsn
            repeat (first
              | refine w_seq ?_
              | refine w_region ?_
              | refine w_draw0 ?_
              | refine w_nil ?_
              | refine q_then ?_
              | refine w_skip ?_
              | refine w_ret ?_
              | refine w_block ?_
              | refine w_scope ?_
              | refine w_label ?_
              | refine q_thenR ?_
              | refine q_blockR ?_
              | refine q_blockN ?_
              | refine w_exit ?_
              | refine q_thenE ?_
              | refine q_blockE ?_
              | refine w_scope1 ?_
              | refine w_goto ?_
              | refine q_thenG ?_
              | refine q_blockG ?_
              | refine q_ngN ?_
              | refine q_ngR ?_
              | refine q_ngE ?_
              | refine q_jumpN ?_
              | refine q_jumpR ?_
              | refine q_jumpE ?_
              | refine q_jumpG ?_
              | refine q_blockO rfl ?_
              | (apply w_op rfl
                 · simp [e0', e5', e6, b13, e7, hlt, hal, hal1, c1, w1, hn, wm, hi64]
                   first | rfl | exact ⟨‹_›, rfl⟩)
              | (refine w_condT ?_ ?_
                 · simp [e0', e5', e6, b13, e7, hlt, hal, hal1, c1, w1, hn, wm, hi64]
                   done)
              | (refine w_condF ?_ ?_
                 · simp [e0', e5', e6, b13, e7, hlt, hal, hal1, c1, w1, hn, wm, hi64]
                   done)
              | (apply w_opT rfl
                 · simp [e0', e5', e6, b13, e7, hlt, hal, hal1, c1, w1, hn, wm, hi64]
                   done
                 · simp [e0', e5', e6, b13, e7, hlt, hal, hal1, c1, w1, hn, wm, hi64]
                   rfl)
              | (refine w_opF ?_ ?_
                 · simp [e0', e5', e6, b13, e7, hlt, hal, hal1, c1, w1, hn, wm, hi64]
                   done))
            refine w_draw ?_
            repeat (first
              | refine w_dnil ?_
              | (apply d_op rfl
                 · simp [e0', e5', e6, b13, e7, c2, w2, cp, wp, cx, wx, c6, w6, cy, wy, hxy, hyl, hs]
                   first | rfl | exact ⟨‹_›, rfl⟩)
              | (apply d_opT rfl
                 · simp [e0', e5', e6, b13, e7, c2, w2, cp, wp, cx, wx, c6, w6, cy, wy, hxy, hyl, hs]
                   done
                 · simp [e0', e5', e6, b13, e7, c2, w2, cp, wp, cx, wx, c6, w6, cy, wy, hxy, hyl, hs]
                   rfl)
              | (refine d_opF ?_ ?_
                 · simp [e0', e5', e6, b13, e7, c2, w2, cp, wp, cx, wx, c6, w6, cy, wy, hxy, hyl, hs]
                   done))
            apply d_call0 (hc := by kernel_rfl) (pc := hN)
            · simp [e0', e5', e6, b13, e7]
            · (simp [e0', e5', e6, b13, e7]; rfl)
            repeat (first
              | refine w_dnil ?_
              | (apply d_op rfl
                 · simp [e0', e5', e6, b13, e7]
                   first | rfl | exact ⟨‹_›, rfl⟩)
              | (apply d_opT rfl
                 · simp [e0', e5', e6, b13, e7]
                   done
                 · simp [e0', e5', e6, b13, e7]
                   rfl)
              | (refine d_opF ?_ ?_
                 · simp [e0', e5', e6, b13, e7]
                   done))
            refine ⟨by simp, ?_⟩
            repeat (first
              | refine w_seq ?_
              | refine w_region ?_
              | refine w_draw0 ?_
              | refine w_nil ?_
              | refine q_then ?_
              | refine w_skip ?_
              | refine w_ret ?_
              | refine w_block ?_
              | refine w_scope ?_
              | refine w_label ?_
              | refine q_thenR ?_
              | refine q_blockR ?_
              | refine q_blockN ?_
              | refine w_exit ?_
              | refine q_thenE ?_
              | refine q_blockE ?_
              | refine w_scope1 ?_
              | refine w_goto ?_
              | refine q_thenG ?_
              | refine q_blockG ?_
              | refine q_ngN ?_
              | refine q_ngR ?_
              | refine q_ngE ?_
              | refine q_jumpN ?_
              | refine q_jumpR ?_
              | refine q_jumpE ?_
              | refine q_jumpG ?_
              | refine q_blockO rfl ?_
              | (apply w_op rfl
                 · simp [e0', e5', e6, b13, e7, hw]
                   first | rfl | exact ⟨‹_›, rfl⟩)
              | (refine w_condT ?_ ?_
                 · simp [e0', e5', e6, b13, e7, hw]
                   done)
              | (refine w_condF ?_ ?_
                 · simp [e0', e5', e6, b13, e7, hw]
                   done)
              | (apply w_opT rfl
                 · simp [e0', e5', e6, b13, e7, hw]
                   done
                 · simp [e0', e5', e6, b13, e7, hw]
                   rfl)
              | (refine w_opF ?_ ?_
                 · simp [e0', e5', e6, b13, e7, hw]
                   done))
            refine ⟨_, ?_, i + 1, v, .osl 25 1 (u32s (nums4 (i + 1) r)), by omega, rfl, ?_⟩
            · omega
            · simp [e0', e4', e5', e6, b13, e7, hw]
              exact ⟨by rw [hsn]; rfl, .inr rfl⟩
          · repeat (first
              | refine w_seq ?_
              | refine w_region ?_
              | refine w_draw0 ?_
              | refine w_nil ?_
              | refine q_then ?_
              | refine w_skip ?_
              | refine w_ret ?_
              | refine w_block ?_
              | refine w_scope ?_
              | refine w_label ?_
              | refine q_thenR ?_
              | refine q_blockR ?_
              | refine q_blockN ?_
              | refine w_exit ?_
              | refine q_thenE ?_
              | refine q_blockE ?_
              | refine w_scope1 ?_
              | refine w_goto ?_
              | refine q_thenG ?_
              | refine q_blockG ?_
              | refine q_ngN ?_
              | refine q_ngR ?_
              | refine q_ngE ?_
              | refine q_jumpN ?_
              | refine q_jumpR ?_
              | refine q_jumpE ?_
              | refine q_jumpG ?_
              | refine q_blockO rfl ?_
              | (apply w_op rfl
                 · simp [e0', e5', e6, b13, e7, hlt, hal, hal1, c1, w1, hn, wm, hi64]
                   first | rfl | exact ⟨‹_›, rfl⟩)
              | (refine w_condT ?_ ?_
                 · simp [e0', e5', e6, b13, e7, hlt, hal, hal1, c1, w1, hn, wm, hi64]
                   done)
              | (refine w_condF ?_ ?_
                 · simp [e0', e5', e6, b13, e7, hlt, hal, hal1, c1, w1, hn, wm, hi64]
                   done)
              | (apply w_opT rfl
                 · simp [e0', e5', e6, b13, e7, hlt, hal, hal1, c1, w1, hn, wm, hi64]
                   done
                 · simp [e0', e5', e6, b13, e7, hlt, hal, hal1, c1, w1, hn, wm, hi64]
                   rfl)
              | (refine w_opF ?_ ?_
                 · simp [e0', e5', e6, b13, e7, hlt, hal, hal1, c1, w1, hn, wm, hi64]
                   done))
            refine w_draw ?_
            repeat (first
              | refine w_dnil ?_
              | (apply d_op rfl
                 · simp [e0', e5', e6, b13, e7, c2, w2, cp, wp, cx, wx, c6, w6, cy, wy, hxy, hyl, hs]
                   first | rfl | exact ⟨‹_›, rfl⟩)
              | (apply d_opT rfl
                 · simp [e0', e5', e6, b13, e7, c2, w2, cp, wp, cx, wx, c6, w6, cy, wy, hxy, hyl, hs]
                   done
                 · simp [e0', e5', e6, b13, e7, c2, w2, cp, wp, cx, wx, c6, w6, cy, wy, hxy, hyl, hs]
                   rfl)
              | (refine d_opF ?_ ?_
                 · simp [e0', e5', e6, b13, e7, c2, w2, cp, wp, cx, wx, c6, w6, cy, wy, hxy, hyl, hs]
                   done))
            apply d_call0 (hc := by kernel_rfl) (pc := hN)
            · simp [e0', e5', e6, b13, e7]
            · (simp [e0', e5', e6, b13, e7]; rfl)
            repeat (first
              | refine w_dnil ?_
              | (apply d_op rfl
                 · simp [e0', e5', e6, b13, e7, hl4, h5]
                   first | rfl | exact ⟨‹_›, rfl⟩)
              | (apply d_opT rfl
                 · simp [e0', e5', e6, b13, e7, hl4, h5]
                   done
                 · simp [e0', e5', e6, b13, e7, hl4, h5]
                   rfl)
              | (refine d_opF ?_ ?_
                 · simp [e0', e5', e6, b13, e7, hl4, h5]
                   done))
            refine ⟨by simp, ?_⟩
            repeat (first
              | refine w_seq ?_
              | refine w_region ?_
              | refine w_draw0 ?_
              | refine w_nil ?_
              | refine q_then ?_
              | refine w_skip ?_
              | refine w_ret ?_
              | refine w_block ?_
              | refine w_scope ?_
              | refine w_label ?_
              | refine q_thenR ?_
              | refine q_blockR ?_
              | refine q_blockN ?_
              | refine w_exit ?_
              | refine q_thenE ?_
              | refine q_blockE ?_
              | refine w_scope1 ?_
              | refine w_goto ?_
              | refine q_thenG ?_
              | refine q_blockG ?_
              | refine q_ngN ?_
              | refine q_ngR ?_
              | refine q_ngE ?_
              | refine q_jumpN ?_
              | refine q_jumpR ?_
              | refine q_jumpE ?_
              | refine q_jumpG ?_
              | refine q_blockO rfl ?_
              | (apply w_op rfl
                 · simp [e0', e5', e6, b13, e7, hw]
                   first | rfl | exact ⟨‹_›, rfl⟩)
              | (refine w_condT ?_ ?_
                 · simp [e0', e5', e6, b13, e7, hw]
                   done)
              | (refine w_condF ?_ ?_
                 · simp [e0', e5', e6, b13, e7, hw]
                   done)
              | (apply w_opT rfl
                 · simp [e0', e5', e6, b13, e7, hw]
                   done
                 · simp [e0', e5', e6, b13, e7, hw]
                   rfl)
              | (refine w_opF ?_ ?_
                 · simp [e0', e5', e6, b13, e7, hw]
                   done))
            refine ⟨_, ?_, i + 1, v, .osl 25 1 (u32s (nums4 (i + 1) r)), by omega, rfl, ?_⟩
            · omega
            · simp [e0', e4', e5', e6, b13, e7, hw]
              exact ⟨by rw [hsn, u32s_append]; rfl, .inr rfl⟩
        · have hie : i = m := by omega
          subst hie
          have hcc' : cc = .osl 25 1 (u32s (nums4 i r)) := by
            rcases hcc with ⟨_, h⟩ | h
            · rw [h] at hl4
              simp at hl4
              omega
            · exact h
          subst hcc'
          have hbd : (acc.length + 1) * 32 ≤ 140737488355328 := by omega
          repeat (first
            | refine w_seq ?_
            | refine w_region ?_
            | refine w_draw0 ?_
            | refine w_nil ?_
            | refine q_then ?_
            | refine w_skip ?_
            | refine w_ret ?_
            | refine w_block ?_
            | refine w_scope ?_
            | refine w_label ?_
            | refine q_thenR ?_
            | refine q_blockR ?_
            | refine q_blockN ?_
            | refine w_exit ?_
            | refine q_thenE ?_
            | refine q_blockE ?_
            | refine w_scope1 ?_
            | refine w_goto ?_
            | refine q_thenG ?_
            | refine q_blockG ?_
            | refine q_ngN ?_
            | refine q_ngR ?_
            | refine q_ngE ?_
            | refine q_jumpN ?_
            | refine q_jumpR ?_
            | refine q_jumpE ?_
            | refine q_jumpG ?_
            | refine q_blockO rfl ?_
            | (apply w_op rfl
               · simp [e0', e4', e5', e6, b13, e7, hal, hal1, c1, c2, w1, w2, hn, wm, cq, wq, cz, wz, hbd]
                 first | rfl | exact ⟨‹_›, rfl⟩)
            | (refine w_condT ?_ ?_
               · simp [e0', e4', e5', e6, b13, e7, hal, hal1, c1, c2, w1, w2, hn, wm, cq, wq, cz, wz, hbd]
                 done)
            | (refine w_condF ?_ ?_
               · simp [e0', e4', e5', e6, b13, e7, hal, hal1, c1, c2, w1, w2, hn, wm, cq, wq, cz, wz, hbd]
                 done)
            | (apply w_opT rfl
               · simp [e0', e4', e5', e6, b13, e7, hal, hal1, c1, c2, w1, w2, hn, wm, cq, wq, cz, wz, hbd]
                 done
               · simp [e0', e4', e5', e6, b13, e7, hal, hal1, c1, c2, w1, w2, hn, wm, cq, wq, cz, wz, hbd]
                 rfl)
            | (refine w_opF ?_ ?_
               · simp [e0', e4', e5', e6, b13, e7, hal, hal1, c1, c2, w1, w2, hn, wm, cq, wq, cz, wz, hbd]
                 done))
          refine ⟨_, ?_, z, acc ++ [⟨k, nums4 i r⟩], rfl, ?_, ?_, hpr, ?_⟩
          · omega
          · omega
          · simp only [List.length_append, List.length_singleton]; omega
          · simp [e0', e4', e5', hal, hal1, c1, c2, w1, w2, hn, wm, cq, wq, cz, wz, segs_append]
            rfl
      · have hv : pathV b = ([], false) := by unfold pathV; rw [hp, hd, pathR, if_neg hgood]; rfl
        by_cases k1 : k < 1
        · repeat (first
            | refine w_seq ?_
            | refine w_region ?_
            | refine w_draw0 ?_
            | refine w_nil ?_
            | refine q_then ?_
            | refine w_skip ?_
            | refine w_ret ?_
            | refine w_block ?_
            | refine w_scope ?_
            | refine w_label ?_
            | refine q_thenR ?_
            | refine q_blockR ?_
            | refine q_blockN ?_
            | refine w_exit ?_
            | refine q_thenE ?_
            | refine q_blockE ?_
            | refine w_scope1 ?_
            | refine w_goto ?_
            | refine q_thenG ?_
            | refine q_blockG ?_
            | refine q_ngN ?_
            | refine q_ngR ?_
            | refine q_ngE ?_
            | refine q_jumpN ?_
            | refine q_jumpR ?_
            | refine q_jumpE ?_
            | refine q_jumpG ?_
            | refine q_blockO rfl ?_
            | (apply w_op rfl
               · simp [e0, e5, e4, hal, hal1, c1, c2, w1, w2, h17, hk, hn, k1]
                 first | rfl | exact ⟨‹_›, rfl⟩)
            | (refine w_condT ?_ ?_
               · simp [e0, e5, e4, hal, hal1, c1, c2, w1, w2, h17, hk, hn, k1]
                 done)
            | (refine w_condF ?_ ?_
               · simp [e0, e5, e4, hal, hal1, c1, c2, w1, w2, h17, hk, hn, k1]
                 done)
            | (apply w_opT rfl
               · simp [e0, e5, e4, hal, hal1, c1, c2, w1, w2, h17, hk, hn, k1]
                 done
               · simp [e0, e5, e4, hal, hal1, c1, c2, w1, w2, h17, hk, hn, k1]
                 rfl)
            | (refine w_opF ?_ ?_
               · simp [e0, e5, e4, hal, hal1, c1, c2, w1, w2, h17, hk, hn, k1]
                 done))
          simp [Fin, hv]
        by_cases k2 : 2 < k
        · repeat (first
            | refine w_seq ?_
            | refine w_region ?_
            | refine w_draw0 ?_
            | refine w_nil ?_
            | refine q_then ?_
            | refine w_skip ?_
            | refine w_ret ?_
            | refine w_block ?_
            | refine w_scope ?_
            | refine w_label ?_
            | refine q_thenR ?_
            | refine q_blockR ?_
            | refine q_blockN ?_
            | refine w_exit ?_
            | refine q_thenE ?_
            | refine q_blockE ?_
            | refine w_scope1 ?_
            | refine w_goto ?_
            | refine q_thenG ?_
            | refine q_blockG ?_
            | refine q_ngN ?_
            | refine q_ngR ?_
            | refine q_ngE ?_
            | refine q_jumpN ?_
            | refine q_jumpR ?_
            | refine q_jumpE ?_
            | refine q_jumpG ?_
            | refine q_blockO rfl ?_
            | (apply w_op rfl
               · simp [e0, e5, e4, hal, hal1, c1, c2, w1, w2, h17, hk, hn, k1, k2]
                 first | rfl | exact ⟨‹_›, rfl⟩)
            | (refine w_condT ?_ ?_
               · simp [e0, e5, e4, hal, hal1, c1, c2, w1, w2, h17, hk, hn, k1, k2]
                 done)
            | (refine w_condF ?_ ?_
               · simp [e0, e5, e4, hal, hal1, c1, c2, w1, w2, h17, hk, hn, k1, k2]
                 done)
            | (apply w_opT rfl
               · simp [e0, e5, e4, hal, hal1, c1, c2, w1, w2, h17, hk, hn, k1, k2]
                 done
               · simp [e0, e5, e4, hal, hal1, c1, c2, w1, w2, h17, hk, hn, k1, k2]
                 rfl)
            | (refine w_opF ?_ ?_
               · simp [e0, e5, e4, hal, hal1, c1, c2, w1, w2, h17, hk, hn, k1, k2]
                 done))
          simp [Fin, hv]
        by_cases hm1 : m = 0
        · subst hm1
          repeat (first
            | refine w_seq ?_
            | refine w_region ?_
            | refine w_draw0 ?_
            | refine w_nil ?_
            | refine q_then ?_
            | refine w_skip ?_
            | refine w_ret ?_
            | refine w_block ?_
            | refine w_scope ?_
            | refine w_label ?_
            | refine q_thenR ?_
            | refine q_blockR ?_
            | refine q_blockN ?_
            | refine w_exit ?_
            | refine q_thenE ?_
            | refine q_blockE ?_
            | refine w_scope1 ?_
            | refine w_goto ?_
            | refine q_thenG ?_
            | refine q_blockG ?_
            | refine q_ngN ?_
            | refine q_ngR ?_
            | refine q_ngE ?_
            | refine q_jumpN ?_
            | refine q_jumpR ?_
            | refine q_jumpE ?_
            | refine q_jumpG ?_
            | refine q_blockO rfl ?_
            | (apply w_op rfl
               · simp [e0, e5, e4, hal, hal1, c1, c2, w1, w2, h17, hk, hn, k1, k2]
                 first | rfl | exact ⟨‹_›, rfl⟩)
            | (refine w_condT ?_ ?_
               · simp [e0, e5, e4, hal, hal1, c1, c2, w1, w2, h17, hk, hn, k1, k2]
                 done)
            | (refine w_condF ?_ ?_
               · simp [e0, e5, e4, hal, hal1, c1, c2, w1, w2, h17, hk, hn, k1, k2]
                 done)
            | (apply w_opT rfl
               · simp [e0, e5, e4, hal, hal1, c1, c2, w1, w2, h17, hk, hn, k1, k2]
                 done
               · simp [e0, e5, e4, hal, hal1, c1, c2, w1, w2, h17, hk, hn, k1, k2]
                 rfl)
            | (refine w_opF ?_ ?_
               · simp [e0, e5, e4, hal, hal1, c1, c2, w1, w2, h17, hk, hn, k1, k2]
                 done))
          simp [Fin, hv]
        · have h53 : (b.length : Int) < z := by
            have hk12 : k = 1 ∨ k = 2 := by omega
            have hm0 : (m : Int) ≠ 0 := by omega
            have : ¬ 4 * (m : Int).toNat ≤ r.length := fun h => hgood ⟨hk12, hm0, h⟩
            simp only [Int.toNat_natCast] at this
            omega
          repeat (first
            | refine w_seq ?_
            | refine w_region ?_
            | refine w_draw0 ?_
            | refine w_nil ?_
            | refine q_then ?_
            | refine w_skip ?_
            | refine w_ret ?_
            | refine w_block ?_
            | refine w_scope ?_
            | refine w_label ?_
            | refine q_thenR ?_
            | refine q_blockR ?_
            | refine q_blockN ?_
            | refine w_exit ?_
            | refine q_thenE ?_
            | refine q_blockE ?_
            | refine w_scope1 ?_
            | refine w_goto ?_
            | refine q_thenG ?_
            | refine q_blockG ?_
            | refine q_ngN ?_
            | refine q_ngR ?_
            | refine q_ngE ?_
            | refine q_jumpN ?_
            | refine q_jumpR ?_
            | refine q_jumpE ?_
            | refine q_jumpG ?_
            | refine q_blockO rfl ?_
            | (apply w_op rfl
               · simp [e0, e5, e4, hal, hal1, c1, c2, w1, w2, h17, hk, hn, k1, k2, hm1, wm, cq, wq, cz, wz, h53]
                 first | rfl | exact ⟨‹_›, rfl⟩)
            | (refine w_condT ?_ ?_
               · simp [e0, e5, e4, hal, hal1, c1, c2, w1, w2, h17, hk, hn, k1, k2, hm1, wm, cq, wq, cz, wz, h53]
                 done)
            | (refine w_condF ?_ ?_
               · simp [e0, e5, e4, hal, hal1, c1, c2, w1, w2, h17, hk, hn, k1, k2, hm1, wm, cq, wq, cz, wz, h53]
                 done)
            | (apply w_opT rfl
               · simp [e0, e5, e4, hal, hal1, c1, c2, w1, w2, h17, hk, hn, k1, k2, hm1, wm, cq, wq, cz, wz, h53]
                 done
               · simp [e0, e5, e4, hal, hal1, c1, c2, w1, w2, h17, hk, hn, k1, k2, hm1, wm, cq, wq, cz, wz, h53]
                 rfl)
            | (refine w_opF ?_ ?_
               · simp [e0, e5, e4, hal, hal1, c1, c2, w1, w2, h17, hk, hn, k1, k2, hm1, wm, cq, wq, cz, wz, h53]
                 done))
          simp [Fin, hv]

end Go.V

