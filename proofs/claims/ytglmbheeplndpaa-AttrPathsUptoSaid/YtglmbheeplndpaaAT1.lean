/- Attributes: the small functions. -/
import Derived.Test.YtglmbheeplndpaaAW3
set_option linter.all false
set_option linter.unusedSimpArgs false
set_option linter.unusedVariables false
namespace Go.V
open Go Go.Proofs

structure Attrs where
  has : Int
  origin : Int
  path : List Seg
  hop : Int
  med : Int
  pref : Int
  aggAS : Int
  aggID : Int
  comms : List Int
  deriving DecidableEq

abbrev Attrs.cs (a : Attrs) : List C := [cI a.has, cI a.origin, cS (segs a.path), cU a.hop, cU a.med, cU a.pref, cU a.aggAS, cU a.aggID, cS (u32s a.comms)]

theorem and_pow (n k : Nat) : n &&& 2 ^ k = (n.testBit k).toNat * 2 ^ k := by
  apply Nat.eq_of_testBit_eq
  intro i
  rw [Nat.testBit_and, Nat.testBit_two_pow]
  by_cases h : k = i
  · subst h
    cases hb : n.testBit k <;> simp [Nat.testBit_two_pow]
  · cases hb : n.testBit k <;> simp [h, Nat.testBit_two_pow]

theorem has_raw (h : Int) (k : Nat) (hk : k < 63) : (IntKind.i64.wrap ↑((h % 2 ^ IntKind.i64.bits).toNat &&& (IntKind.i64.wrap (2 ^ min k IntKind.i64.bits) % 2 ^ IntKind.i64.bits).toNat) != 0) = ((h % 18446744073709551616).toNat).testBit k := by
  have e0 : IntKind.i64.bits = 64 := rfl
  have e1 : min k 64 = k := by omega
  have hp : (2 : Nat) ^ k ≤ 2 ^ 62 := Nat.pow_le_pow_right (by omega) (by omega)
  have hq : 0 < (2 : Nat) ^ k := Nat.pow_pos (by omega)
  rw [e0, e1]
  obtain ⟨p, hpe⟩ : ∃ p : Nat, p = 2 ^ k := ⟨_, rfl⟩
  have hpi : (2 : Int) ^ k = (p : Int) := by rw [hpe]; norm_cast
  have wp : IntKind.i64.wrap (p : Int) = p := wrap64 (by omega) (by omega)
  rw [hpi, wp]
  have e2 : ((p : Int) % 2 ^ 64).toNat = p := by omega
  have e3 : (h % (2 : Int) ^ 64) = h % 18446744073709551616 := rfl
  rw [e2, e3, hpe, and_pow]
  cases ((h % 18446744073709551616).toNat).testBit k with
  | false => simp; decide
  | true =>
    rw [Bool.toNat_true, Nat.one_mul, ← hpe, wp]
    simp
    omega

/-- Is there an attribute of that type? -/
def Attrs.hasB (a : Attrs) (k : Nat) : Bool := ((a.has % 18446744073709551616).toNat).testBit k

theorem pc_has (a : Attrs) (k : Nat) (hk : k < 63) : PC Try.prog 56 [.agg a.cs, vi64 k] (tab []) (vb (a.hasB k)) (tab []) := by
  refine F_attr_has.pc0 (by simp) ?_
  unfold c_attr_has
  repeat (first
    | refine w_seq ?_
    | refine w_region ?_
    | refine w_draw0 ?_
    | refine w_nil ?_
    | refine q_then ?_
    | refine w_skip ?_
    | refine w_ret ?_
    | refine w_block ?_
    | refine w_scope ?_
    | refine w_label ?_
    | refine q_thenR ?_
    | refine q_blockR ?_
    | refine q_blockN ?_
    | refine w_exit ?_
    | refine q_thenE ?_
    | refine q_blockE ?_
    | refine w_scope1 ?_
    | refine w_goto ?_
    | refine q_thenG ?_
    | refine q_blockG ?_
    | refine q_ngN ?_
    | refine q_ngR ?_
    | refine q_ngE ?_
    | refine q_jumpN ?_
    | refine q_jumpR ?_
    | refine q_jumpE ?_
    | refine q_jumpG ?_
    | refine q_blockO rfl ?_
    | (apply w_op rfl
       · simp 
         first | rfl | exact ⟨‹_›, rfl⟩)
    | (refine w_condT ?_ ?_
       · simp 
         done)
    | (refine w_condF ?_ ?_
       · simp 
         done)
    | (apply w_opT rfl
       · simp 
         done
       · simp 
         rfl)
    | (refine w_opF ?_ ?_
       · simp 
         done))
  simp [Fin, Attrs.hasB, has_raw a.has k hk]

set_option maxHeartbeats 4000000 in
set_option maxRecDepth 100000 in
theorem pc_asame (a b : Attrs) (hb : a.path.length ≤ 140737488355328) (hs : ∀ s ∈ a.path, s.nums.length ≤ 140737488355328) (hc : a.comms.length ≤ 140737488355328) : PC Try.prog 63 [.agg a.cs, .agg b.cs] (tab []) (vb (decide (a = b))) (tab []) := by
  have hp := pc_pSame a.path b.path hb hs
  have hq := pc_Equal a.comms b.comms hc
  refine F_attr_same.pc0 (by simp) ?_
  unfold c_attr_same
  cases h1 : (a.has == b.has) with
  | false =>
    have hne : ¬ a = b := by rintro rfl; simp at h1
    repeat (first
      | refine w_seq ?_
      | refine w_region ?_
      | refine w_draw0 ?_
      | refine w_nil ?_
      | refine q_then ?_
      | refine w_skip ?_
      | refine w_ret ?_
      | refine w_block ?_
      | refine w_scope ?_
      | refine w_label ?_
      | refine q_thenR ?_
      | refine q_blockR ?_
      | refine q_blockN ?_
      | refine w_exit ?_
      | refine q_thenE ?_
      | refine q_blockE ?_
      | refine w_scope1 ?_
      | refine w_goto ?_
      | refine q_thenG ?_
      | refine q_blockG ?_
      | refine q_ngN ?_
      | refine q_ngR ?_
      | refine q_ngE ?_
      | refine q_jumpN ?_
      | refine q_jumpR ?_
      | refine q_jumpE ?_
      | refine q_jumpG ?_
      | refine q_blockO rfl ?_
      | (apply w_op rfl
         · simp [h1]
           first | rfl | exact ⟨‹_›, rfl⟩)
      | (refine w_condT ?_ ?_
         · simp [h1]
           done)
      | (refine w_condF ?_ ?_
         · simp [h1]
           done)
      | (apply w_opT rfl
         · simp [h1]
           done
         · simp [h1]
           rfl)
      | (refine w_opF ?_ ?_
         · simp [h1]
           done))
    simp [Fin, hne]
  | true =>
  cases h2 : (a.origin == b.origin) with
  | false =>
    have hne : ¬ a = b := by rintro rfl; simp at h2
    repeat (first
      | refine w_seq ?_
      | refine w_region ?_
      | refine w_draw0 ?_
      | refine w_nil ?_
      | refine q_then ?_
      | refine w_skip ?_
      | refine w_ret ?_
      | refine w_block ?_
      | refine w_scope ?_
      | refine w_label ?_
      | refine q_thenR ?_
      | refine q_blockR ?_
      | refine q_blockN ?_
      | refine w_exit ?_
      | refine q_thenE ?_
      | refine q_blockE ?_
      | refine w_scope1 ?_
      | refine w_goto ?_
      | refine q_thenG ?_
      | refine q_blockG ?_
      | refine q_ngN ?_
      | refine q_ngR ?_
      | refine q_ngE ?_
      | refine q_jumpN ?_
      | refine q_jumpR ?_
      | refine q_jumpE ?_
      | refine q_jumpG ?_
      | refine q_blockO rfl ?_
      | (apply w_op rfl
         · simp [h1, h2]
           first | rfl | exact ⟨‹_›, rfl⟩)
      | (refine w_condT ?_ ?_
         · simp [h1, h2]
           done)
      | (refine w_condF ?_ ?_
         · simp [h1, h2]
           done)
      | (apply w_opT rfl
         · simp [h1, h2]
           done
         · simp [h1, h2]
           rfl)
      | (refine w_opF ?_ ?_
         · simp [h1, h2]
           done))
    simp [Fin, hne]
  | true =>
  cases h3 : (a.hop == b.hop) with
  | false =>
    have hne : ¬ a = b := by rintro rfl; simp at h3
    repeat (first
      | refine w_seq ?_
      | refine w_region ?_
      | refine w_draw0 ?_
      | refine w_nil ?_
      | refine q_then ?_
      | refine w_skip ?_
      | refine w_ret ?_
      | refine w_block ?_
      | refine w_scope ?_
      | refine w_label ?_
      | refine q_thenR ?_
      | refine q_blockR ?_
      | refine q_blockN ?_
      | refine w_exit ?_
      | refine q_thenE ?_
      | refine q_blockE ?_
      | refine w_scope1 ?_
      | refine w_goto ?_
      | refine q_thenG ?_
      | refine q_blockG ?_
      | refine q_ngN ?_
      | refine q_ngR ?_
      | refine q_ngE ?_
      | refine q_jumpN ?_
      | refine q_jumpR ?_
      | refine q_jumpE ?_
      | refine q_jumpG ?_
      | refine q_blockO rfl ?_
      | (apply w_op rfl
         · simp [h1, h2, h3]
           first | rfl | exact ⟨‹_›, rfl⟩)
      | (refine w_condT ?_ ?_
         · simp [h1, h2, h3]
           done)
      | (refine w_condF ?_ ?_
         · simp [h1, h2, h3]
           done)
      | (apply w_opT rfl
         · simp [h1, h2, h3]
           done
         · simp [h1, h2, h3]
           rfl)
      | (refine w_opF ?_ ?_
         · simp [h1, h2, h3]
           done))
    simp [Fin, hne]
  | true =>
  cases h4 : (a.med == b.med) with
  | false =>
    have hne : ¬ a = b := by rintro rfl; simp at h4
    repeat (first
      | refine w_seq ?_
      | refine w_region ?_
      | refine w_draw0 ?_
      | refine w_nil ?_
      | refine q_then ?_
      | refine w_skip ?_
      | refine w_ret ?_
      | refine w_block ?_
      | refine w_scope ?_
      | refine w_label ?_
      | refine q_thenR ?_
      | refine q_blockR ?_
      | refine q_blockN ?_
      | refine w_exit ?_
      | refine q_thenE ?_
      | refine q_blockE ?_
      | refine w_scope1 ?_
      | refine w_goto ?_
      | refine q_thenG ?_
      | refine q_blockG ?_
      | refine q_ngN ?_
      | refine q_ngR ?_
      | refine q_ngE ?_
      | refine q_jumpN ?_
      | refine q_jumpR ?_
      | refine q_jumpE ?_
      | refine q_jumpG ?_
      | refine q_blockO rfl ?_
      | (apply w_op rfl
         · simp [h1, h2, h3, h4]
           first | rfl | exact ⟨‹_›, rfl⟩)
      | (refine w_condT ?_ ?_
         · simp [h1, h2, h3, h4]
           done)
      | (refine w_condF ?_ ?_
         · simp [h1, h2, h3, h4]
           done)
      | (apply w_opT rfl
         · simp [h1, h2, h3, h4]
           done
         · simp [h1, h2, h3, h4]
           rfl)
      | (refine w_opF ?_ ?_
         · simp [h1, h2, h3, h4]
           done))
    simp [Fin, hne]
  | true =>
  cases h5 : (a.pref == b.pref) with
  | false =>
    have hne : ¬ a = b := by rintro rfl; simp at h5
    repeat (first
      | refine w_seq ?_
      | refine w_region ?_
      | refine w_draw0 ?_
      | refine w_nil ?_
      | refine q_then ?_
      | refine w_skip ?_
      | refine w_ret ?_
      | refine w_block ?_
      | refine w_scope ?_
      | refine w_label ?_
      | refine q_thenR ?_
      | refine q_blockR ?_
      | refine q_blockN ?_
      | refine w_exit ?_
      | refine q_thenE ?_
      | refine q_blockE ?_
      | refine w_scope1 ?_
      | refine w_goto ?_
      | refine q_thenG ?_
      | refine q_blockG ?_
      | refine q_ngN ?_
      | refine q_ngR ?_
      | refine q_ngE ?_
      | refine q_jumpN ?_
      | refine q_jumpR ?_
      | refine q_jumpE ?_
      | refine q_jumpG ?_
      | refine q_blockO rfl ?_
      | (apply w_op rfl
         · simp [h1, h2, h3, h4, h5]
           first | rfl | exact ⟨‹_›, rfl⟩)
      | (refine w_condT ?_ ?_
         · simp [h1, h2, h3, h4, h5]
           done)
      | (refine w_condF ?_ ?_
         · simp [h1, h2, h3, h4, h5]
           done)
      | (apply w_opT rfl
         · simp [h1, h2, h3, h4, h5]
           done
         · simp [h1, h2, h3, h4, h5]
           rfl)
      | (refine w_opF ?_ ?_
         · simp [h1, h2, h3, h4, h5]
           done))
    simp [Fin, hne]
  | true =>
  cases h6 : (a.aggAS == b.aggAS) with
  | false =>
    have hne : ¬ a = b := by rintro rfl; simp at h6
    repeat (first
      | refine w_seq ?_
      | refine w_region ?_
      | refine w_draw0 ?_
      | refine w_nil ?_
      | refine q_then ?_
      | refine w_skip ?_
      | refine w_ret ?_
      | refine w_block ?_
      | refine w_scope ?_
      | refine w_label ?_
      | refine q_thenR ?_
      | refine q_blockR ?_
      | refine q_blockN ?_
      | refine w_exit ?_
      | refine q_thenE ?_
      | refine q_blockE ?_
      | refine w_scope1 ?_
      | refine w_goto ?_
      | refine q_thenG ?_
      | refine q_blockG ?_
      | refine q_ngN ?_
      | refine q_ngR ?_
      | refine q_ngE ?_
      | refine q_jumpN ?_
      | refine q_jumpR ?_
      | refine q_jumpE ?_
      | refine q_jumpG ?_
      | refine q_blockO rfl ?_
      | (apply w_op rfl
         · simp [h1, h2, h3, h4, h5, h6]
           first | rfl | exact ⟨‹_›, rfl⟩)
      | (refine w_condT ?_ ?_
         · simp [h1, h2, h3, h4, h5, h6]
           done)
      | (refine w_condF ?_ ?_
         · simp [h1, h2, h3, h4, h5, h6]
           done)
      | (apply w_opT rfl
         · simp [h1, h2, h3, h4, h5, h6]
           done
         · simp [h1, h2, h3, h4, h5, h6]
           rfl)
      | (refine w_opF ?_ ?_
         · simp [h1, h2, h3, h4, h5, h6]
           done))
    simp [Fin, hne]
  | true =>
  cases h7 : (a.aggID == b.aggID) with
  | false =>
    have hne : ¬ a = b := by rintro rfl; simp at h7
    repeat (first
      | refine w_seq ?_
      | refine w_region ?_
      | refine w_draw0 ?_
      | refine w_nil ?_
      | refine q_then ?_
      | refine w_skip ?_
      | refine w_ret ?_
      | refine w_block ?_
      | refine w_scope ?_
      | refine w_label ?_
      | refine q_thenR ?_
      | refine q_blockR ?_
      | refine q_blockN ?_
      | refine w_exit ?_
      | refine q_thenE ?_
      | refine q_blockE ?_
      | refine w_scope1 ?_
      | refine w_goto ?_
      | refine q_thenG ?_
      | refine q_blockG ?_
      | refine q_ngN ?_
      | refine q_ngR ?_
      | refine q_ngE ?_
      | refine q_jumpN ?_
      | refine q_jumpR ?_
      | refine q_jumpE ?_
      | refine q_jumpG ?_
      | refine q_blockO rfl ?_
      | (apply w_op rfl
         · simp [h1, h2, h3, h4, h5, h6, h7]
           first | rfl | exact ⟨‹_›, rfl⟩)
      | (refine w_condT ?_ ?_
         · simp [h1, h2, h3, h4, h5, h6, h7]
           done)
      | (refine w_condF ?_ ?_
         · simp [h1, h2, h3, h4, h5, h6, h7]
           done)
      | (apply w_opT rfl
         · simp [h1, h2, h3, h4, h5, h6, h7]
           done
         · simp [h1, h2, h3, h4, h5, h6, h7]
           rfl)
      | (refine w_opF ?_ ?_
         · simp [h1, h2, h3, h4, h5, h6, h7]
           done))
    simp [Fin, hne]
  | true =>
  repeat (first
    | refine w_seq ?_
    | refine w_region ?_
    | refine w_draw0 ?_
    | refine w_nil ?_
    | refine q_then ?_
    | refine w_skip ?_
    | refine w_ret ?_
    | refine w_block ?_
    | refine w_scope ?_
    | refine w_label ?_
    | refine q_thenR ?_
    | refine q_blockR ?_
    | refine q_blockN ?_
    | refine w_exit ?_
    | refine q_thenE ?_
    | refine q_blockE ?_
    | refine w_scope1 ?_
    | refine w_goto ?_
    | refine q_thenG ?_
    | refine q_blockG ?_
    | refine q_ngN ?_
    | refine q_ngR ?_
    | refine q_ngE ?_
    | refine q_jumpN ?_
    | refine q_jumpR ?_
    | refine q_jumpE ?_
    | refine q_jumpG ?_
    | refine q_blockO rfl ?_
    | (apply w_op rfl
       · simp [h1, h2, h3, h4, h5, h6, h7]
         first | rfl | exact ⟨‹_›, rfl⟩)
    | (refine w_condT ?_ ?_
       · simp [h1, h2, h3, h4, h5, h6, h7]
         done)
    | (refine w_condF ?_ ?_
       · simp [h1, h2, h3, h4, h5, h6, h7]
         done)
    | (apply w_opT rfl
       · simp [h1, h2, h3, h4, h5, h6, h7]
         done
       · simp [h1, h2, h3, h4, h5, h6, h7]
         rfl)
    | (refine w_opF ?_ ?_
       · simp [h1, h2, h3, h4, h5, h6, h7]
         done))
  refine w_genI (fun st => st.env 2 = .c (.ptr 5 1 0) ∧ st.env 3 = .c (.ptr 7 1 0) ∧ st.env 54 = vb true ∧ st.env 56 = vsl (segs a.path) ∧ st.env 58 = vsl (segs b.path) ∧ st.box 5 = (1, some a.cs) ∧ st.box 7 = (1, some b.cs)) (by simp) (fun st ⟨e2, e3, e54, e56, e58, b5, b7⟩ => ?_)
  apply w_call0T (hc := by kernel_rfl) (pc := hp)
  · simp [e2, e3, e54, e56, e58, b5, b7]
  · simp [e2, e3, e54, e56, e58, b5, b7]
  · (simp [e2, e3, e54, e56, e58, b5, b7]; rfl)
  by_cases h8 : a.path = b.path
  · repeat (first
      | refine w_seq ?_
      | refine w_region ?_
      | refine w_draw0 ?_
      | refine w_nil ?_
      | refine q_then ?_
      | refine w_skip ?_
      | refine w_ret ?_
      | refine w_block ?_
      | refine w_scope ?_
      | refine w_label ?_
      | refine q_thenR ?_
      | refine q_blockR ?_
      | refine q_blockN ?_
      | refine w_exit ?_
      | refine q_thenE ?_
      | refine q_blockE ?_
      | refine w_scope1 ?_
      | refine w_goto ?_
      | refine q_thenG ?_
      | refine q_blockG ?_
      | refine q_ngN ?_
      | refine q_ngR ?_
      | refine q_ngE ?_
      | refine q_jumpN ?_
      | refine q_jumpR ?_
      | refine q_jumpE ?_
      | refine q_jumpG ?_
      | refine q_blockO rfl ?_
      | (apply w_op rfl
         · simp [h8, e2, e3, e54, e56, e58, b5, b7]
           first | rfl | exact ⟨‹_›, rfl⟩)
      | (refine w_condT ?_ ?_
         · simp [h8, e2, e3, e54, e56, e58, b5, b7]
           done)
      | (refine w_condF ?_ ?_
         · simp [h8, e2, e3, e54, e56, e58, b5, b7]
           done)
      | (apply w_opT rfl
         · simp [h8, e2, e3, e54, e56, e58, b5, b7]
           done
         · simp [h8, e2, e3, e54, e56, e58, b5, b7]
           rfl)
      | (refine w_opF ?_ ?_
         · simp [h8, e2, e3, e54, e56, e58, b5, b7]
           done))
    apply w_call0T (hc := by kernel_rfl) (pc := hq)
    · simp [h8, e2, e3, e54, e56, e58, b5, b7]
    · simp [h8, e2, e3, e54, e56, e58, b5, b7]
    · (simp [h8, e2, e3, e54, e56, e58, b5, b7]; rfl)
    repeat (first
      | refine w_seq ?_
      | refine w_region ?_
      | refine w_draw0 ?_
      | refine w_nil ?_
      | refine q_then ?_
      | refine w_skip ?_
      | refine w_ret ?_
      | refine w_block ?_
      | refine w_scope ?_
      | refine w_label ?_
      | refine q_thenR ?_
      | refine q_blockR ?_
      | refine q_blockN ?_
      | refine w_exit ?_
      | refine q_thenE ?_
      | refine q_blockE ?_
      | refine w_scope1 ?_
      | refine w_goto ?_
      | refine q_thenG ?_
      | refine q_blockG ?_
      | refine q_ngN ?_
      | refine q_ngR ?_
      | refine q_ngE ?_
      | refine q_jumpN ?_
      | refine q_jumpR ?_
      | refine q_jumpE ?_
      | refine q_jumpG ?_
      | refine q_blockO rfl ?_
      | (apply w_op rfl
         · simp [e2, e3, e54, e56, e58, b5, b7]
           first | rfl | exact ⟨‹_›, rfl⟩)
      | (refine w_condT ?_ ?_
         · simp [e2, e3, e54, e56, e58, b5, b7]
           done)
      | (refine w_condF ?_ ?_
         · simp [e2, e3, e54, e56, e58, b5, b7]
           done)
      | (apply w_opT rfl
         · simp [e2, e3, e54, e56, e58, b5, b7]
           done
         · simp [e2, e3, e54, e56, e58, b5, b7]
           rfl)
      | (refine w_opF ?_ ?_
         · simp [e2, e3, e54, e56, e58, b5, b7]
           done))
    have e : (a = b) ↔ a.comms = b.comms := by
      cases a; cases b
      simp only [beq_iff_eq] at h1 h2 h3 h4 h5 h6 h7
      simp only at h8
      simp [h1, h2, h3, h4, h5, h6, h7, h8]
    simp [Fin, e]
  · have hne : ¬ a = b := by rintro rfl; exact h8 rfl
    repeat (first
      | refine w_seq ?_
      | refine w_region ?_
      | refine w_draw0 ?_
      | refine w_nil ?_
      | refine q_then ?_
      | refine w_skip ?_
      | refine w_ret ?_
      | refine w_block ?_
      | refine w_scope ?_
      | refine w_label ?_
      | refine q_thenR ?_
      | refine q_blockR ?_
      | refine q_blockN ?_
      | refine w_exit ?_
      | refine q_thenE ?_
      | refine q_blockE ?_
      | refine w_scope1 ?_
      | refine w_goto ?_
      | refine q_thenG ?_
      | refine q_blockG ?_
      | refine q_ngN ?_
      | refine q_ngR ?_
      | refine q_ngE ?_
      | refine q_jumpN ?_
      | refine q_jumpR ?_
      | refine q_jumpE ?_
      | refine q_jumpG ?_
      | refine q_blockO rfl ?_
      | (apply w_op rfl
         · simp [h8, e2, e3, e54, e56, e58, b5, b7]
           first | rfl | exact ⟨‹_›, rfl⟩)
      | (refine w_condT ?_ ?_
         · simp [h8, e2, e3, e54, e56, e58, b5, b7]
           done)
      | (refine w_condF ?_ ?_
         · simp [h8, e2, e3, e54, e56, e58, b5, b7]
           done)
      | (apply w_opT rfl
         · simp [h8, e2, e3, e54, e56, e58, b5, b7]
           done
         · simp [h8, e2, e3, e54, e56, e58, b5, b7]
           rfl)
      | (refine w_opF ?_ ?_
         · simp [h8, e2, e3, e54, e56, e58, b5, b7]
           done))
    simp [Fin, hne]

/-- May a next hop be? -/
def hopB (n : Int) : Bool := n != 0 && n != 4294967295 && n / 268435456 != 14

theorem pc_hop (n : Int) (h0 : 0 ≤ n) (h1 : n < 4294967296) : PC Try.prog 64 [vu32 n] (tab []) (vb (hopB n)) (tab []) := by
  refine F_attr_hop.pc0 (by simp) ?_
  unfold c_attr_hop
  cases e0 : (n != 0) with
  | false =>
    repeat (first
      | refine w_seq ?_
      | refine w_region ?_
      | refine w_draw0 ?_
      | refine w_nil ?_
      | refine q_then ?_
      | refine w_skip ?_
      | refine w_ret ?_
      | refine w_block ?_
      | refine w_scope ?_
      | refine w_label ?_
      | refine q_thenR ?_
      | refine q_blockR ?_
      | refine q_blockN ?_
      | refine w_exit ?_
      | refine q_thenE ?_
      | refine q_blockE ?_
      | refine w_scope1 ?_
      | refine w_goto ?_
      | refine q_thenG ?_
      | refine q_blockG ?_
      | refine q_ngN ?_
      | refine q_ngR ?_
      | refine q_ngE ?_
      | refine q_jumpN ?_
      | refine q_jumpR ?_
      | refine q_jumpE ?_
      | refine q_jumpG ?_
      | refine q_blockO rfl ?_
      | (apply w_op rfl
         · simp [e0]
           first | rfl | exact ⟨‹_›, rfl⟩)
      | (refine w_condT ?_ ?_
         · simp [e0]
           done)
      | (refine w_condF ?_ ?_
         · simp [e0]
           done)
      | (apply w_opT rfl
         · simp [e0]
           done
         · simp [e0]
           rfl)
      | (refine w_opF ?_ ?_
         · simp [e0]
           done))
    simp [Fin, hopB, e0]
  | true =>
    cases e1 : (n != 4294967295) with
    | false =>
      repeat (first
        | refine w_seq ?_
        | refine w_region ?_
        | refine w_draw0 ?_
        | refine w_nil ?_
        | refine q_then ?_
        | refine w_skip ?_
        | refine w_ret ?_
        | refine w_block ?_
        | refine w_scope ?_
        | refine w_label ?_
        | refine q_thenR ?_
        | refine q_blockR ?_
        | refine q_blockN ?_
        | refine w_exit ?_
        | refine q_thenE ?_
        | refine q_blockE ?_
        | refine w_scope1 ?_
        | refine w_goto ?_
        | refine q_thenG ?_
        | refine q_blockG ?_
        | refine q_ngN ?_
        | refine q_ngR ?_
        | refine q_ngE ?_
        | refine q_jumpN ?_
        | refine q_jumpR ?_
        | refine q_jumpE ?_
        | refine q_jumpG ?_
        | refine q_blockO rfl ?_
        | (apply w_op rfl
           · simp [e0, e1]
             first | rfl | exact ⟨‹_›, rfl⟩)
        | (refine w_condT ?_ ?_
           · simp [e0, e1]
             done)
        | (refine w_condF ?_ ?_
           · simp [e0, e1]
             done)
        | (apply w_opT rfl
           · simp [e0, e1]
             done
           · simp [e0, e1]
             rfl)
        | (refine w_opF ?_ ?_
           · simp [e0, e1]
             done))
      simp [Fin, hopB, e0, e1]
    | true =>
      repeat (first
        | refine w_seq ?_
        | refine w_region ?_
        | refine w_draw0 ?_
        | refine w_nil ?_
        | refine q_then ?_
        | refine w_skip ?_
        | refine w_ret ?_
        | refine w_block ?_
        | refine w_scope ?_
        | refine w_label ?_
        | refine q_thenR ?_
        | refine q_blockR ?_
        | refine q_blockN ?_
        | refine w_exit ?_
        | refine q_thenE ?_
        | refine q_blockE ?_
        | refine w_scope1 ?_
        | refine w_goto ?_
        | refine q_thenG ?_
        | refine q_blockG ?_
        | refine q_ngN ?_
        | refine q_ngR ?_
        | refine q_ngE ?_
        | refine q_jumpN ?_
        | refine q_jumpR ?_
        | refine q_jumpE ?_
        | refine q_jumpG ?_
        | refine q_blockO rfl ?_
        | (apply w_op rfl
           · simp [e0, e1]
             first | rfl | exact ⟨‹_›, rfl⟩)
        | (refine w_condT ?_ ?_
           · simp [e0, e1]
             done)
        | (refine w_condF ?_ ?_
           · simp [e0, e1]
             done)
        | (apply w_opT rfl
           · simp [e0, e1]
             done
           · simp [e0, e1]
             rfl)
        | (refine w_opF ?_ ?_
           · simp [e0, e1]
             done))
      have e2 : (2 : Int) ^ min 28 IntKind.u32.bits = 268435456 := by decide
      have e3 : n.fdiv 268435456 = n / 268435456 := Int.fdiv_eq_ediv_of_nonneg n (by decide)
      simp [Fin, hopB, e0, e1, e2, e3]

def aflags (k : Int) : Int := if k = 1 ∨ k = 2 ∨ k = 3 ∨ k = 5 ∨ k = 6 then 64 else if k = 4 then 128 else if k = 7 ∨ k = 8 then 192 else 0

theorem pc_aflags (k : Int) : PC Try.prog 52 [vi64 k] (tab []) (vi64 (aflags k)) (tab []) := by
  refine F_attr_flags.pc0 (by simp) ?_
  unfold c_attr_flags
  by_cases h1 : k = 1
  · subst h1
    repeat (first
      | refine w_seq ?_
      | refine w_region ?_
      | refine w_draw0 ?_
      | refine w_nil ?_
      | refine q_then ?_
      | refine w_skip ?_
      | refine w_ret ?_
      | refine w_block ?_
      | refine w_scope ?_
      | refine w_label ?_
      | refine q_thenR ?_
      | refine q_blockR ?_
      | refine q_blockN ?_
      | refine w_exit ?_
      | refine q_thenE ?_
      | refine q_blockE ?_
      | refine w_scope1 ?_
      | refine w_goto ?_
      | refine q_thenG ?_
      | refine q_blockG ?_
      | refine q_ngN ?_
      | refine q_ngR ?_
      | refine q_ngE ?_
      | refine q_jumpN ?_
      | refine q_jumpR ?_
      | refine q_jumpE ?_
      | refine q_jumpG ?_
      | refine q_blockO rfl ?_
      | (apply w_op rfl
         · simp 
           first | rfl | exact ⟨‹_›, rfl⟩)
      | (refine w_condT ?_ ?_
         · simp 
           done)
      | (refine w_condF ?_ ?_
         · simp 
           done)
      | (apply w_opT rfl
         · simp 
           done
         · simp 
           rfl)
      | (refine w_opF ?_ ?_
         · simp 
           done))
    simp [Fin, aflags]
  by_cases h2 : k = 2
  · subst h2
    repeat (first
      | refine w_seq ?_
      | refine w_region ?_
      | refine w_draw0 ?_
      | refine w_nil ?_
      | refine q_then ?_
      | refine w_skip ?_
      | refine w_ret ?_
      | refine w_block ?_
      | refine w_scope ?_
      | refine w_label ?_
      | refine q_thenR ?_
      | refine q_blockR ?_
      | refine q_blockN ?_
      | refine w_exit ?_
      | refine q_thenE ?_
      | refine q_blockE ?_
      | refine w_scope1 ?_
      | refine w_goto ?_
      | refine q_thenG ?_
      | refine q_blockG ?_
      | refine q_ngN ?_
      | refine q_ngR ?_
      | refine q_ngE ?_
      | refine q_jumpN ?_
      | refine q_jumpR ?_
      | refine q_jumpE ?_
      | refine q_jumpG ?_
      | refine q_blockO rfl ?_
      | (apply w_op rfl
         · simp 
           first | rfl | exact ⟨‹_›, rfl⟩)
      | (refine w_condT ?_ ?_
         · simp 
           done)
      | (refine w_condF ?_ ?_
         · simp 
           done)
      | (apply w_opT rfl
         · simp 
           done
         · simp 
           rfl)
      | (refine w_opF ?_ ?_
         · simp 
           done))
    simp [Fin, aflags]
  by_cases h3 : k = 3
  · subst h3
    repeat (first
      | refine w_seq ?_
      | refine w_region ?_
      | refine w_draw0 ?_
      | refine w_nil ?_
      | refine q_then ?_
      | refine w_skip ?_
      | refine w_ret ?_
      | refine w_block ?_
      | refine w_scope ?_
      | refine w_label ?_
      | refine q_thenR ?_
      | refine q_blockR ?_
      | refine q_blockN ?_
      | refine w_exit ?_
      | refine q_thenE ?_
      | refine q_blockE ?_
      | refine w_scope1 ?_
      | refine w_goto ?_
      | refine q_thenG ?_
      | refine q_blockG ?_
      | refine q_ngN ?_
      | refine q_ngR ?_
      | refine q_ngE ?_
      | refine q_jumpN ?_
      | refine q_jumpR ?_
      | refine q_jumpE ?_
      | refine q_jumpG ?_
      | refine q_blockO rfl ?_
      | (apply w_op rfl
         · simp 
           first | rfl | exact ⟨‹_›, rfl⟩)
      | (refine w_condT ?_ ?_
         · simp 
           done)
      | (refine w_condF ?_ ?_
         · simp 
           done)
      | (apply w_opT rfl
         · simp 
           done
         · simp 
           rfl)
      | (refine w_opF ?_ ?_
         · simp 
           done))
    simp [Fin, aflags]
  by_cases h4 : k = 4
  · subst h4
    repeat (first
      | refine w_seq ?_
      | refine w_region ?_
      | refine w_draw0 ?_
      | refine w_nil ?_
      | refine q_then ?_
      | refine w_skip ?_
      | refine w_ret ?_
      | refine w_block ?_
      | refine w_scope ?_
      | refine w_label ?_
      | refine q_thenR ?_
      | refine q_blockR ?_
      | refine q_blockN ?_
      | refine w_exit ?_
      | refine q_thenE ?_
      | refine q_blockE ?_
      | refine w_scope1 ?_
      | refine w_goto ?_
      | refine q_thenG ?_
      | refine q_blockG ?_
      | refine q_ngN ?_
      | refine q_ngR ?_
      | refine q_ngE ?_
      | refine q_jumpN ?_
      | refine q_jumpR ?_
      | refine q_jumpE ?_
      | refine q_jumpG ?_
      | refine q_blockO rfl ?_
      | (apply w_op rfl
         · simp 
           first | rfl | exact ⟨‹_›, rfl⟩)
      | (refine w_condT ?_ ?_
         · simp 
           done)
      | (refine w_condF ?_ ?_
         · simp 
           done)
      | (apply w_opT rfl
         · simp 
           done
         · simp 
           rfl)
      | (refine w_opF ?_ ?_
         · simp 
           done))
    simp [Fin, aflags]
  by_cases h5 : k = 5
  · subst h5
    repeat (first
      | refine w_seq ?_
      | refine w_region ?_
      | refine w_draw0 ?_
      | refine w_nil ?_
      | refine q_then ?_
      | refine w_skip ?_
      | refine w_ret ?_
      | refine w_block ?_
      | refine w_scope ?_
      | refine w_label ?_
      | refine q_thenR ?_
      | refine q_blockR ?_
      | refine q_blockN ?_
      | refine w_exit ?_
      | refine q_thenE ?_
      | refine q_blockE ?_
      | refine w_scope1 ?_
      | refine w_goto ?_
      | refine q_thenG ?_
      | refine q_blockG ?_
      | refine q_ngN ?_
      | refine q_ngR ?_
      | refine q_ngE ?_
      | refine q_jumpN ?_
      | refine q_jumpR ?_
      | refine q_jumpE ?_
      | refine q_jumpG ?_
      | refine q_blockO rfl ?_
      | (apply w_op rfl
         · simp 
           first | rfl | exact ⟨‹_›, rfl⟩)
      | (refine w_condT ?_ ?_
         · simp 
           done)
      | (refine w_condF ?_ ?_
         · simp 
           done)
      | (apply w_opT rfl
         · simp 
           done
         · simp 
           rfl)
      | (refine w_opF ?_ ?_
         · simp 
           done))
    simp [Fin, aflags]
  by_cases h6 : k = 6
  · subst h6
    repeat (first
      | refine w_seq ?_
      | refine w_region ?_
      | refine w_draw0 ?_
      | refine w_nil ?_
      | refine q_then ?_
      | refine w_skip ?_
      | refine w_ret ?_
      | refine w_block ?_
      | refine w_scope ?_
      | refine w_label ?_
      | refine q_thenR ?_
      | refine q_blockR ?_
      | refine q_blockN ?_
      | refine w_exit ?_
      | refine q_thenE ?_
      | refine q_blockE ?_
      | refine w_scope1 ?_
      | refine w_goto ?_
      | refine q_thenG ?_
      | refine q_blockG ?_
      | refine q_ngN ?_
      | refine q_ngR ?_
      | refine q_ngE ?_
      | refine q_jumpN ?_
      | refine q_jumpR ?_
      | refine q_jumpE ?_
      | refine q_jumpG ?_
      | refine q_blockO rfl ?_
      | (apply w_op rfl
         · simp 
           first | rfl | exact ⟨‹_›, rfl⟩)
      | (refine w_condT ?_ ?_
         · simp 
           done)
      | (refine w_condF ?_ ?_
         · simp 
           done)
      | (apply w_opT rfl
         · simp 
           done
         · simp 
           rfl)
      | (refine w_opF ?_ ?_
         · simp 
           done))
    simp [Fin, aflags]
  by_cases h7 : k = 7
  · subst h7
    repeat (first
      | refine w_seq ?_
      | refine w_region ?_
      | refine w_draw0 ?_
      | refine w_nil ?_
      | refine q_then ?_
      | refine w_skip ?_
      | refine w_ret ?_
      | refine w_block ?_
      | refine w_scope ?_
      | refine w_label ?_
      | refine q_thenR ?_
      | refine q_blockR ?_
      | refine q_blockN ?_
      | refine w_exit ?_
      | refine q_thenE ?_
      | refine q_blockE ?_
      | refine w_scope1 ?_
      | refine w_goto ?_
      | refine q_thenG ?_
      | refine q_blockG ?_
      | refine q_ngN ?_
      | refine q_ngR ?_
      | refine q_ngE ?_
      | refine q_jumpN ?_
      | refine q_jumpR ?_
      | refine q_jumpE ?_
      | refine q_jumpG ?_
      | refine q_blockO rfl ?_
      | (apply w_op rfl
         · simp 
           first | rfl | exact ⟨‹_›, rfl⟩)
      | (refine w_condT ?_ ?_
         · simp 
           done)
      | (refine w_condF ?_ ?_
         · simp 
           done)
      | (apply w_opT rfl
         · simp 
           done
         · simp 
           rfl)
      | (refine w_opF ?_ ?_
         · simp 
           done))
    simp [Fin, aflags]
  by_cases h8 : k = 8
  · subst h8
    repeat (first
      | refine w_seq ?_
      | refine w_region ?_
      | refine w_draw0 ?_
      | refine w_nil ?_
      | refine q_then ?_
      | refine w_skip ?_
      | refine w_ret ?_
      | refine w_block ?_
      | refine w_scope ?_
      | refine w_label ?_
      | refine q_thenR ?_
      | refine q_blockR ?_
      | refine q_blockN ?_
      | refine w_exit ?_
      | refine q_thenE ?_
      | refine q_blockE ?_
      | refine w_scope1 ?_
      | refine w_goto ?_
      | refine q_thenG ?_
      | refine q_blockG ?_
      | refine q_ngN ?_
      | refine q_ngR ?_
      | refine q_ngE ?_
      | refine q_jumpN ?_
      | refine q_jumpR ?_
      | refine q_jumpE ?_
      | refine q_jumpG ?_
      | refine q_blockO rfl ?_
      | (apply w_op rfl
         · simp 
           first | rfl | exact ⟨‹_›, rfl⟩)
      | (refine w_condT ?_ ?_
         · simp 
           done)
      | (refine w_condF ?_ ?_
         · simp 
           done)
      | (apply w_opT rfl
         · simp 
           done
         · simp 
           rfl)
      | (refine w_opF ?_ ?_
         · simp 
           done))
    simp [Fin, aflags]
  have e1 : (k == 1) = false := by simpa using h1
  have e2 : (k == 2) = false := by simpa using h2
  have e3 : (k == 3) = false := by simpa using h3
  have e4 : (k == 4) = false := by simpa using h4
  have e5 : (k == 5) = false := by simpa using h5
  have e6 : (k == 6) = false := by simpa using h6
  have e7 : (k == 7) = false := by simpa using h7
  have e8 : (k == 8) = false := by simpa using h8
  repeat (first
    | refine w_seq ?_
    | refine w_region ?_
    | refine w_draw0 ?_
    | refine w_nil ?_
    | refine q_then ?_
    | refine w_skip ?_
    | refine w_ret ?_
    | refine w_block ?_
    | refine w_scope ?_
    | refine w_label ?_
    | refine q_thenR ?_
    | refine q_blockR ?_
    | refine q_blockN ?_
    | refine w_exit ?_
    | refine q_thenE ?_
    | refine q_blockE ?_
    | refine w_scope1 ?_
    | refine w_goto ?_
    | refine q_thenG ?_
    | refine q_blockG ?_
    | refine q_ngN ?_
    | refine q_ngR ?_
    | refine q_ngE ?_
    | refine q_jumpN ?_
    | refine q_jumpR ?_
    | refine q_jumpE ?_
    | refine q_jumpG ?_
    | refine q_blockO rfl ?_
    | (apply w_op rfl
       · simp [e1, e2, e3, e4, e5, e6, e7, e8]
         first | rfl | exact ⟨‹_›, rfl⟩)
    | (refine w_condT ?_ ?_
       · simp [e1, e2, e3, e4, e5, e6, e7, e8]
         done)
    | (refine w_condF ?_ ?_
       · simp [e1, e2, e3, e4, e5, e6, e7, e8]
         done)
    | (apply w_opT rfl
       · simp [e1, e2, e3, e4, e5, e6, e7, e8]
         done
       · simp [e1, e2, e3, e4, e5, e6, e7, e8]
         rfl)
    | (refine w_opF ?_ ?_
       · simp [e1, e2, e3, e4, e5, e6, e7, e8]
         done))
  simp [Fin, aflags, h1, h2, h3, h4, h5, h6, h7, h8]

end Go.V

