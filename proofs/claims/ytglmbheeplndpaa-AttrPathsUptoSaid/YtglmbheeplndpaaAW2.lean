/- The pieces of a path's bytes: the program. -/
import Derived.Test.YtglmbheeplndpaaAW1
set_option linter.all false
set_option linter.unusedSimpArgs false
set_option linter.unusedVariables false
namespace Go.V
open Go Go.Proofs

def nums4 : Nat → List Int → List Int
  | 0, _ => []
  | n + 1, b => num32 0 (b.take 4) :: nums4 n (b.drop 4)

theorem nums4_len : ∀ (n : Nat) (b : List Int), (nums4 n b).length = n
  | 0, _ => rfl
  | n + 1, b => by simp [nums4, nums4_len n]

theorem nums4_snoc : ∀ (n : Nat) (b : List Int), nums4 (n + 1) b = nums4 n b ++ [num32 0 ((b.drop (4 * n)).take 4)]
  | 0, b => by simp [nums4]
  | n + 1, b => by
    rw [nums4, nums4_snoc n (b.drop 4), nums4, List.drop_drop, show 4 + 4 * n = 4 * (n + 1) by omega]
    rfl

/-- The pieces that bytes are. -/
def pathR : List Int → Option (List Seg)
  | [] => some []
  | [_] => none
  | k :: n :: r => if (k = 1 ∨ k = 2) ∧ n ≠ 0 ∧ 4 * n.toNat ≤ r.length then (pathR (r.drop (4 * n.toNat))).map (⟨k, nums4 n.toNat r⟩ :: ·) else none
termination_by b => b.length
decreasing_by simp; omega

def pathV (b : List Int) : List Seg × Bool := match pathR b with | some l => (l, true) | none => ([], false)

theorem pathR_len (b : List Int) : ∀ l, pathR b = some l → l.length ≤ b.length ∧ ∀ s ∈ l, s.nums.length ≤ b.length := by
  induction b using pathR.induct with
  | case1 => intro l h; rw [pathR] at h; cases h; simp
  | case2 => intro l h; rw [pathR] at h; cases h
  | case3 k n r h ih =>
    intro l hl
    rw [pathR, if_pos h] at hl
    cases hp : pathR (r.drop (4 * n.toNat)) with
    | none => rw [hp] at hl; cases hl
    | some l' =>
      rw [hp] at hl
      cases hl
      obtain ⟨a, b⟩ := ih l' hp
      rw [List.length_drop] at a b
      refine ⟨by simp only [List.length_cons]; omega, fun s hs => ?_⟩
      rcases List.mem_cons.1 hs with rfl | hs
      · simp only [nums4_len, List.length_cons]; omega
      · have := b s hs
        simp only [List.length_cons]; omega
  | case4 k n r h =>
    intro l hl
    rw [pathR, if_neg h] at hl
    cases hl

theorem okB_drop {l : List Int} (h : okB l) (n : Nat) : okB (l.drop n) := fun x hx => h x (List.drop_subset _ _ hx)

def acS (c : C) (l : List Seg) : Prop := (c = .nilsl ∧ l = []) ∨ c = .osl 65 2 (segs l)
def acN (c : C) (l : List Int) : Prop := (c = .nilsl ∧ l = []) ∨ c = .osl 25 1 (u32s l)

theorem pc_attrPieces (b : List Int) (hb : b.length ≤ 1000000) (hx : okB b) : PC Try.prog 32 [vsl (u8s b)] (tab []) (.tup [vsl (segs (pathV b).1), vb (pathV b).2]) (tab []) := by
  have hn := pc_New b (by omega)
  refine F_attr_pieces.pc0 (by simp) ?_
  unfold c_attr_pieces
  repeat (first
    | refine w_seq ?_
    | refine w_region ?_
    | refine w_draw0 ?_
    | refine w_nil ?_
    | refine q_then ?_
    | refine w_skip ?_
    | refine w_ret ?_
    | refine w_block ?_
    | refine w_scope ?_
    | refine w_label ?_
    | refine q_thenR ?_
    | refine q_blockR ?_
    | refine q_blockN ?_
    | refine w_exit ?_
    | refine q_thenE ?_
    | refine q_blockE ?_
    | refine w_scope1 ?_
    | refine w_goto ?_
    | refine q_thenG ?_
    | refine q_blockG ?_
    | refine q_ngN ?_
    | refine q_ngR ?_
    | refine q_ngE ?_
    | refine q_jumpN ?_
    | refine q_jumpR ?_
    | refine q_jumpE ?_
    | refine q_jumpG ?_
    | refine q_blockO rfl ?_
    | (apply w_op rfl
       · simp 
         first | rfl | exact ⟨‹_›, rfl⟩)
    | (refine w_condT ?_ ?_
       · simp 
         done)
    | (refine w_condF ?_ ?_
       · simp 
         done)
    | (apply w_opT rfl
       · simp 
         done
       · simp 
         rfl)
    | (refine w_opF ?_ ?_
       · simp 
         done))
  apply w_callN0 (hc := by kernel_rfl) (pc := hn)
  · simp 
  · simp 
  · (simp ; rfl)
  repeat (first
    | refine w_seq ?_
    | refine w_region ?_
    | refine w_draw0 ?_
    | refine w_nil ?_
    | refine q_then ?_
    | refine w_skip ?_
    | refine w_ret ?_
    | refine w_block ?_
    | refine w_scope ?_
    | refine w_label ?_
    | refine q_thenR ?_
    | refine q_blockR ?_
    | refine q_blockN ?_
    | refine w_exit ?_
    | refine q_thenE ?_
    | refine q_blockE ?_
    | refine w_scope1 ?_
    | refine w_goto ?_
    | refine q_thenG ?_
    | refine q_blockG ?_
    | refine q_ngN ?_
    | refine q_ngR ?_
    | refine q_ngE ?_
    | refine q_jumpN ?_
    | refine q_jumpR ?_
    | refine q_jumpE ?_
    | refine q_jumpG ?_
    | refine q_blockO rfl ?_
    | (apply w_op rfl
       · simp 
         first | rfl | exact ⟨‹_›, rfl⟩)
    | (refine w_condT ?_ ?_
       · simp 
         done)
    | (refine w_condF ?_ ?_
       · simp 
         done)
    | (apply w_opT rfl
       · simp 
         done
       · simp 
         rfl)
    | (refine w_opF ?_ ?_
       · simp 
         done))
  refine w_loop (fun k st => ∃ rest acc c, k = rest.length ∧ rest.length ≤ b.length ∧ acc.length + rest.length ≤ b.length ∧ okB rest ∧ pathR b = (pathR rest).map (acc ++ ·) ∧ st.env 5 = .c (.ptr 17 1 0) ∧ st.box 17 = (1, some [cS (u8s rest), cB false]) ∧ st.env 4 = .c c ∧ acS c acc) b.length ?_ ?_
  · exact ⟨b, [], .nilsl, by simp [hx, acS]⟩
  rintro k st ⟨rest, acc, c, rfl, hr, hacc, hrx, hp, e5, b17, e4, hac⟩
  have hL := pc_Left rest false
  repeat (first
    | refine w_seq ?_
    | refine w_region ?_
    | refine w_draw0 ?_
    | refine w_nil ?_
    | refine q_then ?_
    | refine w_skip ?_
    | refine w_ret ?_
    | refine w_block ?_
    | refine w_scope ?_
    | refine w_label ?_
    | refine q_thenR ?_
    | refine q_blockR ?_
    | refine q_blockN ?_
    | refine w_exit ?_
    | refine q_thenE ?_
    | refine q_blockE ?_
    | refine w_scope1 ?_
    | refine w_goto ?_
    | refine q_thenG ?_
    | refine q_blockG ?_
    | refine q_ngN ?_
    | refine q_ngR ?_
    | refine q_ngE ?_
    | refine q_jumpN ?_
    | refine q_jumpR ?_
    | refine q_jumpE ?_
    | refine q_jumpG ?_
    | refine q_blockO rfl ?_
    | (apply w_op rfl
       · simp [e5]
         first | rfl | exact ⟨‹_›, rfl⟩)
    | (refine w_condT ?_ ?_
       · simp [e5]
         done)
    | (refine w_condF ?_ ?_
       · simp [e5]
         done)
    | (apply w_opT rfl
       · simp [e5]
         done
       · simp [e5]
         rfl)
    | (refine w_opF ?_ ?_
       · simp [e5]
         done))
  apply w_call [17] (hc := by kernel_rfl) (pc := hL)
  · decide
  · decide
  · simp [e5, b17]
  · simp [e5, b17]
  · simp [e5, b17]
  · simp [e5, b17]
  · simp [e5, b17]
  · (simp [e5, b17]; rfl)
  match rest, hr, hacc, hrx, hp, b17 with
  | [], hr, hacc, hrx, hp, b17 =>
    have hv : pathV b = (acc, true) := by simp [pathV, hp, pathR]
    repeat (first
      | refine w_seq ?_
      | refine w_region ?_
      | refine w_draw0 ?_
      | refine w_nil ?_
      | refine q_then ?_
      | refine w_skip ?_
      | refine w_ret ?_
      | refine w_block ?_
      | refine w_scope ?_
      | refine w_label ?_
      | refine q_thenR ?_
      | refine q_blockR ?_
      | refine q_blockN ?_
      | refine w_exit ?_
      | refine q_thenE ?_
      | refine q_blockE ?_
      | refine w_scope1 ?_
      | refine w_goto ?_
      | refine q_thenG ?_
      | refine q_blockG ?_
      | refine q_ngN ?_
      | refine q_ngR ?_
      | refine q_ngE ?_
      | refine q_jumpN ?_
      | refine q_jumpR ?_
      | refine q_jumpE ?_
      | refine q_jumpG ?_
      | refine q_blockO rfl ?_
      | (apply w_op rfl
         · simp [e5, b17]
           first | rfl | exact ⟨‹_›, rfl⟩)
      | (refine w_condT ?_ ?_
         · simp [e5, b17]
           done)
      | (refine w_condF ?_ ?_
         · simp [e5, b17]
           done)
      | (apply w_opT rfl
         · simp [e5, b17]
           done
         · simp [e5, b17]
           rfl)
      | (refine w_opF ?_ ?_
         · simp [e5, b17]
           done))
    rcases hac with ⟨rfl, rfl⟩ | rfl
    · repeat (first
        | refine w_seq ?_
        | refine w_region ?_
        | refine w_draw0 ?_
        | refine w_nil ?_
        | refine q_then ?_
        | refine w_skip ?_
        | refine w_ret ?_
        | refine w_block ?_
        | refine w_scope ?_
        | refine w_label ?_
        | refine q_thenR ?_
        | refine q_blockR ?_
        | refine q_blockN ?_
        | refine w_exit ?_
        | refine q_thenE ?_
        | refine q_blockE ?_
        | refine w_scope1 ?_
        | refine w_goto ?_
        | refine q_thenG ?_
        | refine q_blockG ?_
        | refine q_ngN ?_
        | refine q_ngR ?_
        | refine q_ngE ?_
        | refine q_jumpN ?_
        | refine q_jumpR ?_
        | refine q_jumpE ?_
        | refine q_jumpG ?_
        | refine q_blockO rfl ?_
        | (apply w_op rfl
           · simp [e5, b17, e4]
             first | rfl | exact ⟨‹_›, rfl⟩)
        | (refine w_condT ?_ ?_
           · simp [e5, b17, e4]
             done)
        | (refine w_condF ?_ ?_
           · simp [e5, b17, e4]
             done)
        | (apply w_opT rfl
           · simp [e5, b17, e4]
             done
           · simp [e5, b17, e4]
             rfl)
        | (refine w_opF ?_ ?_
           · simp [e5, b17, e4]
             done))
      simp [Fin, hv]
    · repeat (first
        | refine w_seq ?_
        | refine w_region ?_
        | refine w_draw0 ?_
        | refine w_nil ?_
        | refine q_then ?_
        | refine w_skip ?_
        | refine w_ret ?_
        | refine w_block ?_
        | refine w_scope ?_
        | refine w_label ?_
        | refine q_thenR ?_
        | refine q_blockR ?_
        | refine q_blockN ?_
        | refine w_exit ?_
        | refine q_thenE ?_
        | refine q_blockE ?_
        | refine w_scope1 ?_
        | refine w_goto ?_
        | refine q_thenG ?_
        | refine q_blockG ?_
        | refine q_ngN ?_
        | refine q_ngR ?_
        | refine q_ngE ?_
        | refine q_jumpN ?_
        | refine q_jumpR ?_
        | refine q_jumpE ?_
        | refine q_jumpG ?_
        | refine q_blockO rfl ?_
        | (apply w_op rfl
           · simp [e5, b17, e4]
             first | rfl | exact ⟨‹_›, rfl⟩)
        | (refine w_condT ?_ ?_
           · simp [e5, b17, e4]
             done)
        | (refine w_condF ?_ ?_
           · simp [e5, b17, e4]
             done)
        | (apply w_opT rfl
           · simp [e5, b17, e4]
             done
           · simp [e5, b17, e4]
             rfl)
        | (refine w_opF ?_ ?_
           · simp [e5, b17, e4]
             done))
      simp [Fin, hv]
  | [k], hr, hacc, hrx, hp, b17 =>
    have hv : pathV b = ([], false) := by simp [pathV, hp, pathR]
    have hu := pc_U8_ok k [] (by simp) hrx
    have hu2 := pc_U8_bad [] false (.inr rfl)
    repeat (first
      | refine w_seq ?_
      | refine w_region ?_
      | refine w_draw0 ?_
      | refine w_nil ?_
      | refine q_then ?_
      | refine w_skip ?_
      | refine w_ret ?_
      | refine w_block ?_
      | refine w_scope ?_
      | refine w_label ?_
      | refine q_thenR ?_
      | refine q_blockR ?_
      | refine q_blockN ?_
      | refine w_exit ?_
      | refine q_thenE ?_
      | refine q_blockE ?_
      | refine w_scope1 ?_
      | refine w_goto ?_
      | refine q_thenG ?_
      | refine q_blockG ?_
      | refine q_ngN ?_
      | refine q_ngR ?_
      | refine q_ngE ?_
      | refine q_jumpN ?_
      | refine q_jumpR ?_
      | refine q_jumpE ?_
      | refine q_jumpG ?_
      | refine q_blockO rfl ?_
      | (apply w_op rfl
         · simp [e5, b17]
           first | rfl | exact ⟨‹_›, rfl⟩)
      | (refine w_condT ?_ ?_
         · simp [e5, b17]
           done)
      | (refine w_condF ?_ ?_
         · simp [e5, b17]
           done)
      | (apply w_opT rfl
         · simp [e5, b17]
           done
         · simp [e5, b17]
           rfl)
      | (refine w_opF ?_ ?_
         · simp [e5, b17]
           done))
    apply w_call [17] (hc := by kernel_rfl) (pc := hu)
    · decide
    · decide
    · simp [e5, b17]
    · simp [e5, b17]
    · simp [e5, b17]
    · simp [e5, b17]
    · simp [e5, b17]
    · (simp [e5, b17]; rfl)
    repeat (first
      | refine w_seq ?_
      | refine w_region ?_
      | refine w_draw0 ?_
      | refine w_nil ?_
      | refine q_then ?_
      | refine w_skip ?_
      | refine w_ret ?_
      | refine w_block ?_
      | refine w_scope ?_
      | refine w_label ?_
      | refine q_thenR ?_
      | refine q_blockR ?_
      | refine q_blockN ?_
      | refine w_exit ?_
      | refine q_thenE ?_
      | refine q_blockE ?_
      | refine w_scope1 ?_
      | refine w_goto ?_
      | refine q_thenG ?_
      | refine q_blockG ?_
      | refine q_ngN ?_
      | refine q_ngR ?_
      | refine q_ngE ?_
      | refine q_jumpN ?_
      | refine q_jumpR ?_
      | refine q_jumpE ?_
      | refine q_jumpG ?_
      | refine q_blockO rfl ?_
      | (apply w_op rfl
         · simp [e5, b17]
           first | rfl | exact ⟨‹_›, rfl⟩)
      | (refine w_condT ?_ ?_
         · simp [e5, b17]
           done)
      | (refine w_condF ?_ ?_
         · simp [e5, b17]
           done)
      | (apply w_opT rfl
         · simp [e5, b17]
           done
         · simp [e5, b17]
           rfl)
      | (refine w_opF ?_ ?_
         · simp [e5, b17]
           done))
    apply w_call [17] (hc := by kernel_rfl) (pc := hu2)
    · decide
    · decide
    · simp [e5, b17]
    · simp [e5, b17]
    · simp [e5, b17]
    · simp [e5, b17]
    · simp [e5, b17]
    · (simp [e5, b17]; rfl)
    repeat (first
      | refine w_seq ?_
      | refine w_region ?_
      | refine w_draw0 ?_
      | refine w_nil ?_
      | refine q_then ?_
      | refine w_skip ?_
      | refine w_ret ?_
      | refine w_block ?_
      | refine w_scope ?_
      | refine w_label ?_
      | refine q_thenR ?_
      | refine q_blockR ?_
      | refine q_blockN ?_
      | refine w_exit ?_
      | refine q_thenE ?_
      | refine q_blockE ?_
      | refine w_scope1 ?_
      | refine w_goto ?_
      | refine q_thenG ?_
      | refine q_blockG ?_
      | refine q_ngN ?_
      | refine q_ngR ?_
      | refine q_ngE ?_
      | refine q_jumpN ?_
      | refine q_jumpR ?_
      | refine q_jumpE ?_
      | refine q_jumpG ?_
      | refine q_blockO rfl ?_
      | (apply w_op rfl
         · simp [e5, b17]
           first | rfl | exact ⟨‹_›, rfl⟩)
      | (refine w_condT ?_ ?_
         · simp [e5, b17]
           done)
      | (refine w_condF ?_ ?_
         · simp [e5, b17]
           done)
      | (apply w_opT rfl
         · simp [e5, b17]
           done
         · simp [e5, b17]
           rfl)
      | (refine w_opF ?_ ?_
         · simp [e5, b17]
           done))
    refine w_loop (fun _ st' => ∃ v, st'.env 6 = .c (.ptr 13 v 0) ∧ st'.box 13 = (v, some [cI k, .nilsl]) ∧ st'.env 16 = vi64 0 ∧ st'.env 17 = vi64 0) 0 ?_ ?_
    · exact ⟨_, by simp; rfl⟩
    rintro _ st' ⟨v, e6, b13, e16, e17⟩
    repeat (first
      | refine w_seq ?_
      | refine w_region ?_
      | refine w_draw0 ?_
      | refine w_nil ?_
      | refine q_then ?_
      | refine w_skip ?_
      | refine w_ret ?_
      | refine w_block ?_
      | refine w_scope ?_
      | refine w_label ?_
      | refine q_thenR ?_
      | refine q_blockR ?_
      | refine q_blockN ?_
      | refine w_exit ?_
      | refine q_thenE ?_
      | refine q_blockE ?_
      | refine w_scope1 ?_
      | refine w_goto ?_
      | refine q_thenG ?_
      | refine q_blockG ?_
      | refine q_ngN ?_
      | refine q_ngR ?_
      | refine q_ngE ?_
      | refine q_jumpN ?_
      | refine q_jumpR ?_
      | refine q_jumpE ?_
      | refine q_jumpG ?_
      | refine q_blockO rfl ?_
      | (apply w_op rfl
         · simp [e6, b13, e16, e17]
           first | rfl | exact ⟨‹_›, rfl⟩)
      | (refine w_condT ?_ ?_
         · simp [e6, b13, e16, e17]
           done)
      | (refine w_condF ?_ ?_
         · simp [e6, b13, e16, e17]
           done)
      | (apply w_opT rfl
         · simp [e6, b13, e16, e17]
           done
         · simp [e6, b13, e16, e17]
           rfl)
      | (refine w_opF ?_ ?_
         · simp [e6, b13, e16, e17]
           done))
    simp [Fin, hv]
  | k :: n :: r, hr, hacc, hrx, hp, b17 =>
    obtain ⟨m, rfl⟩ : ∃ m : Nat, n = m := ⟨n.toNat, by have := hrx n (by simp); omega⟩
    have hm := hrx m (by simp)
    have hrx2 : okB ((m : Int) :: r) := fun x hx => hrx x (by simp [hx])
    have hrx3 : okB r := fun x hx => hrx x (by simp [hx])
    simp only [List.length_cons] at hr hacc
    have hu := pc_U8_ok k (m :: r) (by simp only [List.length_cons]; omega) hrx
    have hu2 := pc_U8_ok m r (by omega) hrx2
    have h02 : (0 : Int) < (r.length : Int) + 1 + 1 := by omega
    repeat (first
      | refine w_seq ?_
      | refine w_region ?_
      | refine w_draw0 ?_
      | refine w_nil ?_
      | refine q_then ?_
      | refine w_skip ?_
      | refine w_ret ?_
      | refine w_block ?_
      | refine w_scope ?_
      | refine w_label ?_
      | refine q_thenR ?_
      | refine q_blockR ?_
      | refine q_blockN ?_
      | refine w_exit ?_
      | refine q_thenE ?_
      | refine q_blockE ?_
      | refine w_scope1 ?_
      | refine w_goto ?_
      | refine q_thenG ?_
      | refine q_blockG ?_
      | refine q_ngN ?_
      | refine q_ngR ?_
      | refine q_ngE ?_
      | refine q_jumpN ?_
      | refine q_jumpR ?_
      | refine q_jumpE ?_
      | refine q_jumpG ?_
      | refine q_blockO rfl ?_
      | (apply w_op rfl
         · simp [e5, b17, h02]
           first | rfl | exact ⟨‹_›, rfl⟩)
      | (refine w_condT ?_ ?_
         · simp [e5, b17, h02]
           done)
      | (refine w_condF ?_ ?_
         · simp [e5, b17, h02]
           done)
      | (apply w_opT rfl
         · simp [e5, b17, h02]
           done
         · simp [e5, b17, h02]
           rfl)
      | (refine w_opF ?_ ?_
         · simp [e5, b17, h02]
           done))
    apply w_call [17] (hc := by kernel_rfl) (pc := hu)
    · decide
    · decide
    · simp [e5, b17]
    · simp [e5, b17]
    · simp [e5, b17]
    · simp [e5, b17]
    · simp [e5, b17]
    · (simp [e5, b17]; rfl)
    repeat (first
      | refine w_seq ?_
      | refine w_region ?_
      | refine w_draw0 ?_
      | refine w_nil ?_
      | refine q_then ?_
      | refine w_skip ?_
      | refine w_ret ?_
      | refine w_block ?_
      | refine w_scope ?_
      | refine w_label ?_
      | refine q_thenR ?_
      | refine q_blockR ?_
      | refine q_blockN ?_
      | refine w_exit ?_
      | refine q_thenE ?_
      | refine q_blockE ?_
      | refine w_scope1 ?_
      | refine w_goto ?_
      | refine q_thenG ?_
      | refine q_blockG ?_
      | refine q_ngN ?_
      | refine q_ngR ?_
      | refine q_ngE ?_
      | refine q_jumpN ?_
      | refine q_jumpR ?_
      | refine q_jumpE ?_
      | refine q_jumpG ?_
      | refine q_blockO rfl ?_
      | (apply w_op rfl
         · simp [e5, b17]
           first | rfl | exact ⟨‹_›, rfl⟩)
      | (refine w_condT ?_ ?_
         · simp [e5, b17]
           done)
      | (refine w_condF ?_ ?_
         · simp [e5, b17]
           done)
      | (apply w_opT rfl
         · simp [e5, b17]
           done
         · simp [e5, b17]
           rfl)
      | (refine w_opF ?_ ?_
         · simp [e5, b17]
           done))
    apply w_call [17] (hc := by kernel_rfl) (pc := hu2)
    · decide
    · decide
    · simp [e5, b17]
    · simp [e5, b17]
    · simp [e5, b17]
    · simp [e5, b17]
    · simp [e5, b17]
    · (simp [e5, b17]; rfl)
    repeat (first
      | refine w_seq ?_
      | refine w_region ?_
      | refine w_draw0 ?_
      | refine w_nil ?_
      | refine q_then ?_
      | refine w_skip ?_
      | refine w_ret ?_
      | refine w_block ?_
      | refine w_scope ?_
      | refine w_label ?_
      | refine q_thenR ?_
      | refine q_blockR ?_
      | refine q_blockN ?_
      | refine w_exit ?_
      | refine q_thenE ?_
      | refine q_blockE ?_
      | refine w_scope1 ?_
      | refine w_goto ?_
      | refine q_thenG ?_
      | refine q_blockG ?_
      | refine q_ngN ?_
      | refine q_ngR ?_
      | refine q_ngE ?_
      | refine q_jumpN ?_
      | refine q_jumpR ?_
      | refine q_jumpE ?_
      | refine q_jumpG ?_
      | refine q_blockO rfl ?_
      | (apply w_op rfl
         · simp [e5, b17]
           first | rfl | exact ⟨‹_›, rfl⟩)
      | (refine w_condT ?_ ?_
         · simp [e5, b17]
           done)
      | (refine w_condF ?_ ?_
         · simp [e5, b17]
           done)
      | (apply w_opT rfl
         · simp [e5, b17]
           done
         · simp [e5, b17]
           rfl)
      | (refine w_opF ?_ ?_
         · simp [e5, b17]
           done))
    refine w_loop (fun x st' => ∃ i v c2, i ≤ m ∧ 4 * i ≤ r.length ∧ x = m - i ∧ st'.env 4 = .c c ∧ st'.env 5 = .c (.ptr 17 1 0) ∧ st'.box 17 = (1, some [cS (u8s (r.drop (4 * i))), cB false]) ∧ st'.env 6 = .c (.ptr 13 v 0) ∧ st'.box 13 = (v, some [cI k, c2]) ∧ acN c2 (nums4 i r) ∧ st'.env 16 = vi64 m ∧ st'.env 17 = vi64 i) m ?_ ?_
    · exact ⟨0, (st.box 13).1 + 1, .nilsl, by simp [acN, nums4, e4, e5, b17]⟩
    rintro _ st' ⟨i, v, c2, him, hir, rfl, e4', e5', b17', e6, b13, hc2, e16, e17⟩
    by_cases hlt : i < m
    · by_cases hok : 4 * (i + 1) ≤ r.length
      · have hw : IntKind.i64.wrap (i + 1 : Int) = i + 1 := wrap64 (by omega) (by omega)
        have hu4 := pc_U32_ok (r.drop (4 * i)) (by rw [List.length_drop]; omega) (by rw [List.length_drop]; omega) (okB_drop hrx3 _)
        rw [List.drop_drop, show 4 * i + 4 = 4 * (i + 1) by omega] at hu4
        have hB := pc_Bad (r.drop (4 * (i + 1))) false
        have hsn := nums4_snoc i r
        have hl4 := nums4_len i r
        have h5 : (i + 1) * 4 ≤ 140737488355328 := by omega
        rcases hc2 with ⟨rfl, h0⟩ | rfl
        · rw [h0] at hsn
          repeat (first
            | refine w_seq ?_
            | refine w_region ?_
            | refine w_draw0 ?_
            | refine w_nil ?_
            | refine q_then ?_
            | refine w_skip ?_
            | refine w_ret ?_
            | refine w_block ?_
            | refine w_scope ?_
            | refine w_label ?_
            | refine q_thenR ?_
            | refine q_blockR ?_
            | refine q_blockN ?_
            | refine w_exit ?_
            | refine q_thenE ?_
            | refine q_blockE ?_
            | refine w_scope1 ?_
            | refine w_goto ?_
            | refine q_thenG ?_
            | refine q_blockG ?_
            | refine q_ngN ?_
            | refine q_ngR ?_
            | refine q_ngE ?_
            | refine q_jumpN ?_
            | refine q_jumpR ?_
            | refine q_jumpE ?_
            | refine q_jumpG ?_
            | refine q_blockO rfl ?_
            | (apply w_op rfl
               · simp [e5', e6, b13, b17', e16, e17, hlt]
                 first | rfl | exact ⟨‹_›, rfl⟩)
            | (refine w_condT ?_ ?_
               · simp [e5', e6, b13, b17', e16, e17, hlt]
                 done)
            | (refine w_condF ?_ ?_
               · simp [e5', e6, b13, b17', e16, e17, hlt]
                 done)
            | (apply w_opT rfl
               · simp [e5', e6, b13, b17', e16, e17, hlt]
                 done
               · simp [e5', e6, b13, b17', e16, e17, hlt]
                 rfl)
            | (refine w_opF ?_ ?_
               · simp [e5', e6, b13, b17', e16, e17, hlt]
                 done))
          refine w_draw ?_
          repeat (first
            | refine w_dnil ?_
            | (apply d_op rfl
               · simp [e5', e6, b13, b17', e16, e17, hlt]
                 first | rfl | exact ⟨‹_›, rfl⟩)
            | (apply d_opT rfl
               · simp [e5', e6, b13, b17', e16, e17, hlt]
                 done
               · simp [e5', e6, b13, b17', e16, e17, hlt]
                 rfl)
            | (refine d_opF ?_ ?_
               · simp [e5', e6, b13, b17', e16, e17, hlt]
                 done))
          apply d_call [17] (hc := by kernel_rfl) (pc := hu4)
          · decide
          · decide
          · simp [e5', e6, b13, b17', e16, e17, hlt]
          · simp [e5', e6, b13, b17', e16, e17, hlt]
          · simp [e5', e6, b13, b17', e16, e17, hlt]
          · simp [e5', e6, b13, b17', e16, e17, hlt]
          · simp [e5', e6, b13, b17', e16, e17, hlt]
          · (simp [e5', e6, b13, b17', e16, e17, hlt]; rfl)
          repeat (first
            | refine w_dnil ?_
            | (apply d_op rfl
               · simp [e5', e6, b13, b17', e16, e17, hlt]
                 first | rfl | exact ⟨‹_›, rfl⟩)
            | (apply d_opT rfl
               · simp [e5', e6, b13, b17', e16, e17, hlt]
                 done
               · simp [e5', e6, b13, b17', e16, e17, hlt]
                 rfl)
            | (refine d_opF ?_ ?_
               · simp [e5', e6, b13, b17', e16, e17, hlt]
                 done))
          refine ⟨by simp, ?_⟩
          repeat (first
            | refine w_seq ?_
            | refine w_region ?_
            | refine w_draw0 ?_
            | refine w_nil ?_
            | refine q_then ?_
            | refine w_skip ?_
            | refine w_ret ?_
            | refine w_block ?_
            | refine w_scope ?_
            | refine w_label ?_
            | refine q_thenR ?_
            | refine q_blockR ?_
            | refine q_blockN ?_
            | refine w_exit ?_
            | refine q_thenE ?_
            | refine q_blockE ?_
            | refine w_scope1 ?_
            | refine w_goto ?_
            | refine q_thenG ?_
            | refine q_blockG ?_
            | refine q_ngN ?_
            | refine q_ngR ?_
            | refine q_ngE ?_
            | refine q_jumpN ?_
            | refine q_jumpR ?_
            | refine q_jumpE ?_
            | refine q_jumpG ?_
            | refine q_blockO rfl ?_
            | (apply w_op rfl
               · simp [e5', e6, b13, b17', e16, e17, hlt]
                 first | rfl | exact ⟨‹_›, rfl⟩)
            | (refine w_condT ?_ ?_
               · simp [e5', e6, b13, b17', e16, e17, hlt]
                 done)
            | (refine w_condF ?_ ?_
               · simp [e5', e6, b13, b17', e16, e17, hlt]
                 done)
            | (apply w_opT rfl
               · simp [e5', e6, b13, b17', e16, e17, hlt]
                 done
               · simp [e5', e6, b13, b17', e16, e17, hlt]
                 rfl)
            | (refine w_opF ?_ ?_
               · simp [e5', e6, b13, b17', e16, e17, hlt]
                 done))
          apply w_call [17] (hc := by kernel_rfl) (pc := hB)
          · decide
          · decide
          · simp [e5', e6, b13, b17', e16, e17, hlt]
          · simp [e5', e6, b13, b17', e16, e17, hlt]
          · simp [e5', e6, b13, b17', e16, e17, hlt]
          · simp [e5', e6, b13, b17', e16, e17, hlt]
          · simp [e5', e6, b13, b17', e16, e17, hlt]
          · (simp [e5', e6, b13, b17', e16, e17, hlt]; rfl)
          repeat (first
            | refine w_seq ?_
            | refine w_region ?_
            | refine w_draw0 ?_
            | refine w_nil ?_
            | refine q_then ?_
            | refine w_skip ?_
            | refine w_ret ?_
            | refine w_block ?_
            | refine w_scope ?_
            | refine w_label ?_
            | refine q_thenR ?_
            | refine q_blockR ?_
            | refine q_blockN ?_
            | refine w_exit ?_
            | refine q_thenE ?_
            | refine q_blockE ?_
            | refine w_scope1 ?_
            | refine w_goto ?_
            | refine q_thenG ?_
            | refine q_blockG ?_
            | refine q_ngN ?_
            | refine q_ngR ?_
            | refine q_ngE ?_
            | refine q_jumpN ?_
            | refine q_jumpR ?_
            | refine q_jumpE ?_
            | refine q_jumpG ?_
            | refine q_blockO rfl ?_
            | (apply w_op rfl
               · simp [e5', e6, b13, b17', e16, e17, hlt, hw]
                 first | rfl | exact ⟨‹_›, rfl⟩)
            | (refine w_condT ?_ ?_
               · simp [e5', e6, b13, b17', e16, e17, hlt, hw]
                 done)
            | (refine w_condF ?_ ?_
               · simp [e5', e6, b13, b17', e16, e17, hlt, hw]
                 done)
            | (apply w_opT rfl
               · simp [e5', e6, b13, b17', e16, e17, hlt, hw]
                 done
               · simp [e5', e6, b13, b17', e16, e17, hlt, hw]
                 rfl)
            | (refine w_opF ?_ ?_
               · simp [e5', e6, b13, b17', e16, e17, hlt, hw]
                 done))
          refine ⟨_, ?_, i + 1, v, .osl 25 1 (u32s (nums4 (i + 1) r)), by omega, by omega, rfl, ?_⟩
          · omega
          · simp [e4', e5', e6, b13, b17', e16, e17, hw]
            exact ⟨by rw [hsn]; rfl, .inr rfl⟩
        · have hbd : (nums4 i r).length * 4 + 4 ≤ 140737488355328 := by rw [hl4]; omega
          repeat (first
            | refine w_seq ?_
            | refine w_region ?_
            | refine w_draw0 ?_
            | refine w_nil ?_
            | refine q_then ?_
            | refine w_skip ?_
            | refine w_ret ?_
            | refine w_block ?_
            | refine w_scope ?_
            | refine w_label ?_
            | refine q_thenR ?_
            | refine q_blockR ?_
            | refine q_blockN ?_
            | refine w_exit ?_
            | refine q_thenE ?_
            | refine q_blockE ?_
            | refine w_scope1 ?_
            | refine w_goto ?_
            | refine q_thenG ?_
            | refine q_blockG ?_
            | refine q_ngN ?_
            | refine q_ngR ?_
            | refine q_ngE ?_
            | refine q_jumpN ?_
            | refine q_jumpR ?_
            | refine q_jumpE ?_
            | refine q_jumpG ?_
            | refine q_blockO rfl ?_
            | (apply w_op rfl
               · simp [e5', e6, b13, b17', e16, e17, hlt]
                 first | rfl | exact ⟨‹_›, rfl⟩)
            | (refine w_condT ?_ ?_
               · simp [e5', e6, b13, b17', e16, e17, hlt]
                 done)
            | (refine w_condF ?_ ?_
               · simp [e5', e6, b13, b17', e16, e17, hlt]
                 done)
            | (apply w_opT rfl
               · simp [e5', e6, b13, b17', e16, e17, hlt]
                 done
               · simp [e5', e6, b13, b17', e16, e17, hlt]
                 rfl)
            | (refine w_opF ?_ ?_
               · simp [e5', e6, b13, b17', e16, e17, hlt]
                 done))
          refine w_draw ?_
          repeat (first
            | refine w_dnil ?_
            | (apply d_op rfl
               · simp [e5', e6, b13, b17', e16, e17, hlt]
                 first | rfl | exact ⟨‹_›, rfl⟩)
            | (apply d_opT rfl
               · simp [e5', e6, b13, b17', e16, e17, hlt]
                 done
               · simp [e5', e6, b13, b17', e16, e17, hlt]
                 rfl)
            | (refine d_opF ?_ ?_
               · simp [e5', e6, b13, b17', e16, e17, hlt]
                 done))
          apply d_call [17] (hc := by kernel_rfl) (pc := hu4)
          · decide
          · decide
          · simp [e5', e6, b13, b17', e16, e17, hlt]
          · simp [e5', e6, b13, b17', e16, e17, hlt]
          · simp [e5', e6, b13, b17', e16, e17, hlt]
          · simp [e5', e6, b13, b17', e16, e17, hlt]
          · simp [e5', e6, b13, b17', e16, e17, hlt]
          · (simp [e5', e6, b13, b17', e16, e17, hlt]; rfl)
          repeat (first
            | refine w_dnil ?_
            | (apply d_op rfl
               · simp [e5', e6, b13, b17', e16, e17, hlt, hbd, hl4, h5]
                 first | rfl | exact ⟨‹_›, rfl⟩)
            | (apply d_opT rfl
               · simp [e5', e6, b13, b17', e16, e17, hlt, hbd, hl4, h5]
                 done
               · simp [e5', e6, b13, b17', e16, e17, hlt, hbd, hl4, h5]
                 rfl)
            | (refine d_opF ?_ ?_
               · simp [e5', e6, b13, b17', e16, e17, hlt, hbd, hl4, h5]
                 done))
          refine ⟨by simp, ?_⟩
          repeat (first
            | refine w_seq ?_
            | refine w_region ?_
            | refine w_draw0 ?_
            | refine w_nil ?_
            | refine q_then ?_
            | refine w_skip ?_
            | refine w_ret ?_
            | refine w_block ?_
            | refine w_scope ?_
            | refine w_label ?_
            | refine q_thenR ?_
            | refine q_blockR ?_
            | refine q_blockN ?_
            | refine w_exit ?_
            | refine q_thenE ?_
            | refine q_blockE ?_
            | refine w_scope1 ?_
            | refine w_goto ?_
            | refine q_thenG ?_
            | refine q_blockG ?_
            | refine q_ngN ?_
            | refine q_ngR ?_
            | refine q_ngE ?_
            | refine q_jumpN ?_
            | refine q_jumpR ?_
            | refine q_jumpE ?_
            | refine q_jumpG ?_
            | refine q_blockO rfl ?_
            | (apply w_op rfl
               · simp [e5', e6, b13, b17', e16, e17, hlt]
                 first | rfl | exact ⟨‹_›, rfl⟩)
            | (refine w_condT ?_ ?_
               · simp [e5', e6, b13, b17', e16, e17, hlt]
                 done)
            | (refine w_condF ?_ ?_
               · simp [e5', e6, b13, b17', e16, e17, hlt]
                 done)
            | (apply w_opT rfl
               · simp [e5', e6, b13, b17', e16, e17, hlt]
                 done
               · simp [e5', e6, b13, b17', e16, e17, hlt]
                 rfl)
            | (refine w_opF ?_ ?_
               · simp [e5', e6, b13, b17', e16, e17, hlt]
                 done))
          apply w_call [17] (hc := by kernel_rfl) (pc := hB)
          · decide
          · decide
          · simp [e5', e6, b13, b17', e16, e17, hlt]
          · simp [e5', e6, b13, b17', e16, e17, hlt]
          · simp [e5', e6, b13, b17', e16, e17, hlt]
          · simp [e5', e6, b13, b17', e16, e17, hlt]
          · simp [e5', e6, b13, b17', e16, e17, hlt]
          · (simp [e5', e6, b13, b17', e16, e17, hlt]; rfl)
          repeat (first
            | refine w_seq ?_
            | refine w_region ?_
            | refine w_draw0 ?_
            | refine w_nil ?_
            | refine q_then ?_
            | refine w_skip ?_
            | refine w_ret ?_
            | refine w_block ?_
            | refine w_scope ?_
            | refine w_label ?_
            | refine q_thenR ?_
            | refine q_blockR ?_
            | refine q_blockN ?_
            | refine w_exit ?_
            | refine q_thenE ?_
            | refine q_blockE ?_
            | refine w_scope1 ?_
            | refine w_goto ?_
            | refine q_thenG ?_
            | refine q_blockG ?_
            | refine q_ngN ?_
            | refine q_ngR ?_
            | refine q_ngE ?_
            | refine q_jumpN ?_
            | refine q_jumpR ?_
            | refine q_jumpE ?_
            | refine q_jumpG ?_
            | refine q_blockO rfl ?_
            | (apply w_op rfl
               · simp [e5', e6, b13, b17', e16, e17, hlt, hw, hbd]
                 first | rfl | exact ⟨‹_›, rfl⟩)
            | (refine w_condT ?_ ?_
               · simp [e5', e6, b13, b17', e16, e17, hlt, hw, hbd]
                 done)
            | (refine w_condF ?_ ?_
               · simp [e5', e6, b13, b17', e16, e17, hlt, hw, hbd]
                 done)
            | (apply w_opT rfl
               · simp [e5', e6, b13, b17', e16, e17, hlt, hw, hbd]
                 done
               · simp [e5', e6, b13, b17', e16, e17, hlt, hw, hbd]
                 rfl)
            | (refine w_opF ?_ ?_
               · simp [e5', e6, b13, b17', e16, e17, hlt, hw, hbd]
                 done))
          refine ⟨_, ?_, i + 1, v, .osl 25 1 (u32s (nums4 (i + 1) r)), by omega, by omega, rfl, ?_⟩
          · omega
          · simp [e4', e5', e6, b13, b17', e16, e17, hw]
            exact ⟨by rw [hsn, u32s_append]; rfl, .inr rfl⟩
      · have hv : pathV b = ([], false) := by
          have : pathR (k :: (m : Int) :: r) = none := by
            rw [pathR, if_neg]
            rintro ⟨_, _, h⟩
            simp only [Int.toNat_natCast] at h
            omega
          unfold pathV; rw [hp, this]; rfl
        have hu4 := pc_U32_bad (r.drop (4 * i)) false (.inr (by rw [List.length_drop]; omega))
        have hB := pc_Bad [] true
        rcases hc2 with ⟨rfl, h0⟩ | rfl
        · repeat (first
            | refine w_seq ?_
            | refine w_region ?_
            | refine w_draw0 ?_
            | refine w_nil ?_
            | refine q_then ?_
            | refine w_skip ?_
            | refine w_ret ?_
            | refine w_block ?_
            | refine w_scope ?_
            | refine w_label ?_
            | refine q_thenR ?_
            | refine q_blockR ?_
            | refine q_blockN ?_
            | refine w_exit ?_
            | refine q_thenE ?_
            | refine q_blockE ?_
            | refine w_scope1 ?_
            | refine w_goto ?_
            | refine q_thenG ?_
            | refine q_blockG ?_
            | refine q_ngN ?_
            | refine q_ngR ?_
            | refine q_ngE ?_
            | refine q_jumpN ?_
            | refine q_jumpR ?_
            | refine q_jumpE ?_
            | refine q_jumpG ?_
            | refine q_blockO rfl ?_
            | (apply w_op rfl
               · simp [e5', e6, b13, b17', e16, e17, hlt]
                 first | rfl | exact ⟨‹_›, rfl⟩)
            | (refine w_condT ?_ ?_
               · simp [e5', e6, b13, b17', e16, e17, hlt]
                 done)
            | (refine w_condF ?_ ?_
               · simp [e5', e6, b13, b17', e16, e17, hlt]
                 done)
            | (apply w_opT rfl
               · simp [e5', e6, b13, b17', e16, e17, hlt]
                 done
               · simp [e5', e6, b13, b17', e16, e17, hlt]
                 rfl)
            | (refine w_opF ?_ ?_
               · simp [e5', e6, b13, b17', e16, e17, hlt]
                 done))
          refine w_draw ?_
          repeat (first
            | refine w_dnil ?_
            | (apply d_op rfl
               · simp [e5', e6, b13, b17', e16, e17, hlt]
                 first | rfl | exact ⟨‹_›, rfl⟩)
            | (apply d_opT rfl
               · simp [e5', e6, b13, b17', e16, e17, hlt]
                 done
               · simp [e5', e6, b13, b17', e16, e17, hlt]
                 rfl)
            | (refine d_opF ?_ ?_
               · simp [e5', e6, b13, b17', e16, e17, hlt]
                 done))
          apply d_call [17] (hc := by kernel_rfl) (pc := hu4)
          · decide
          · decide
          · simp [e5', e6, b13, b17', e16, e17, hlt]
          · simp [e5', e6, b13, b17', e16, e17, hlt]
          · simp [e5', e6, b13, b17', e16, e17, hlt]
          · simp [e5', e6, b13, b17', e16, e17, hlt]
          · simp [e5', e6, b13, b17', e16, e17, hlt]
          · (simp [e5', e6, b13, b17', e16, e17, hlt]; rfl)
          repeat (first
            | refine w_dnil ?_
            | (apply d_op rfl
               · simp [e5', e6, b13, b17', e16, e17, hlt]
                 first | rfl | exact ⟨‹_›, rfl⟩)
            | (apply d_opT rfl
               · simp [e5', e6, b13, b17', e16, e17, hlt]
                 done
               · simp [e5', e6, b13, b17', e16, e17, hlt]
                 rfl)
            | (refine d_opF ?_ ?_
               · simp [e5', e6, b13, b17', e16, e17, hlt]
                 done))
          refine ⟨by simp, ?_⟩
          repeat (first
            | refine w_seq ?_
            | refine w_region ?_
            | refine w_draw0 ?_
            | refine w_nil ?_
            | refine q_then ?_
            | refine w_skip ?_
            | refine w_ret ?_
            | refine w_block ?_
            | refine w_scope ?_
            | refine w_label ?_
            | refine q_thenR ?_
            | refine q_blockR ?_
            | refine q_blockN ?_
            | refine w_exit ?_
            | refine q_thenE ?_
            | refine q_blockE ?_
            | refine w_scope1 ?_
            | refine w_goto ?_
            | refine q_thenG ?_
            | refine q_blockG ?_
            | refine q_ngN ?_
            | refine q_ngR ?_
            | refine q_ngE ?_
            | refine q_jumpN ?_
            | refine q_jumpR ?_
            | refine q_jumpE ?_
            | refine q_jumpG ?_
            | refine q_blockO rfl ?_
            | (apply w_op rfl
               · simp [e5', e6, b13, b17', e16, e17, hlt]
                 first | rfl | exact ⟨‹_›, rfl⟩)
            | (refine w_condT ?_ ?_
               · simp [e5', e6, b13, b17', e16, e17, hlt]
                 done)
            | (refine w_condF ?_ ?_
               · simp [e5', e6, b13, b17', e16, e17, hlt]
                 done)
            | (apply w_opT rfl
               · simp [e5', e6, b13, b17', e16, e17, hlt]
                 done
               · simp [e5', e6, b13, b17', e16, e17, hlt]
                 rfl)
            | (refine w_opF ?_ ?_
               · simp [e5', e6, b13, b17', e16, e17, hlt]
                 done))
          apply w_call [17] (hc := by kernel_rfl) (pc := hB)
          · decide
          · decide
          · simp [e5', e6, b13, b17', e16, e17, hlt]
          · simp [e5', e6, b13, b17', e16, e17, hlt]
          · simp [e5', e6, b13, b17', e16, e17, hlt]
          · simp [e5', e6, b13, b17', e16, e17, hlt]
          · simp [e5', e6, b13, b17', e16, e17, hlt]
          · (simp [e5', e6, b13, b17', e16, e17, hlt]; rfl)
          repeat (first
            | refine w_seq ?_
            | refine w_region ?_
            | refine w_draw0 ?_
            | refine w_nil ?_
            | refine q_then ?_
            | refine w_skip ?_
            | refine w_ret ?_
            | refine w_block ?_
            | refine w_scope ?_
            | refine w_label ?_
            | refine q_thenR ?_
            | refine q_blockR ?_
            | refine q_blockN ?_
            | refine w_exit ?_
            | refine q_thenE ?_
            | refine q_blockE ?_
            | refine w_scope1 ?_
            | refine w_goto ?_
            | refine q_thenG ?_
            | refine q_blockG ?_
            | refine q_ngN ?_
            | refine q_ngR ?_
            | refine q_ngE ?_
            | refine q_jumpN ?_
            | refine q_jumpR ?_
            | refine q_jumpE ?_
            | refine q_jumpG ?_
            | refine q_blockO rfl ?_
            | (apply w_op rfl
               · simp [e5', e6, b13, b17', e16, e17, hlt]
                 first | rfl | exact ⟨‹_›, rfl⟩)
            | (refine w_condT ?_ ?_
               · simp [e5', e6, b13, b17', e16, e17, hlt]
                 done)
            | (refine w_condF ?_ ?_
               · simp [e5', e6, b13, b17', e16, e17, hlt]
                 done)
            | (apply w_opT rfl
               · simp [e5', e6, b13, b17', e16, e17, hlt]
                 done
               · simp [e5', e6, b13, b17', e16, e17, hlt]
                 rfl)
            | (refine w_opF ?_ ?_
               · simp [e5', e6, b13, b17', e16, e17, hlt]
                 done))
          simp [Fin, hv]
        · have hl4 := nums4_len i r
          have h5 : (i + 1) * 4 ≤ 140737488355328 := by omega
          repeat (first
            | refine w_seq ?_
            | refine w_region ?_
            | refine w_draw0 ?_
            | refine w_nil ?_
            | refine q_then ?_
            | refine w_skip ?_
            | refine w_ret ?_
            | refine w_block ?_
            | refine w_scope ?_
            | refine w_label ?_
            | refine q_thenR ?_
            | refine q_blockR ?_
            | refine q_blockN ?_
            | refine w_exit ?_
            | refine q_thenE ?_
            | refine q_blockE ?_
            | refine w_scope1 ?_
            | refine w_goto ?_
            | refine q_thenG ?_
            | refine q_blockG ?_
            | refine q_ngN ?_
            | refine q_ngR ?_
            | refine q_ngE ?_
            | refine q_jumpN ?_
            | refine q_jumpR ?_
            | refine q_jumpE ?_
            | refine q_jumpG ?_
            | refine q_blockO rfl ?_
            | (apply w_op rfl
               · simp [e5', e6, b13, b17', e16, e17, hlt]
                 first | rfl | exact ⟨‹_›, rfl⟩)
            | (refine w_condT ?_ ?_
               · simp [e5', e6, b13, b17', e16, e17, hlt]
                 done)
            | (refine w_condF ?_ ?_
               · simp [e5', e6, b13, b17', e16, e17, hlt]
                 done)
            | (apply w_opT rfl
               · simp [e5', e6, b13, b17', e16, e17, hlt]
                 done
               · simp [e5', e6, b13, b17', e16, e17, hlt]
                 rfl)
            | (refine w_opF ?_ ?_
               · simp [e5', e6, b13, b17', e16, e17, hlt]
                 done))
          refine w_draw ?_
          repeat (first
            | refine w_dnil ?_
            | (apply d_op rfl
               · simp [e5', e6, b13, b17', e16, e17, hlt]
                 first | rfl | exact ⟨‹_›, rfl⟩)
            | (apply d_opT rfl
               · simp [e5', e6, b13, b17', e16, e17, hlt]
                 done
               · simp [e5', e6, b13, b17', e16, e17, hlt]
                 rfl)
            | (refine d_opF ?_ ?_
               · simp [e5', e6, b13, b17', e16, e17, hlt]
                 done))
          apply d_call [17] (hc := by kernel_rfl) (pc := hu4)
          · decide
          · decide
          · simp [e5', e6, b13, b17', e16, e17, hlt]
          · simp [e5', e6, b13, b17', e16, e17, hlt]
          · simp [e5', e6, b13, b17', e16, e17, hlt]
          · simp [e5', e6, b13, b17', e16, e17, hlt]
          · simp [e5', e6, b13, b17', e16, e17, hlt]
          · (simp [e5', e6, b13, b17', e16, e17, hlt]; rfl)
          repeat (first
            | refine w_dnil ?_
            | (apply d_op rfl
               · simp [e5', e6, b13, b17', e16, e17, hlt, hl4, h5]
                 first | rfl | exact ⟨‹_›, rfl⟩)
            | (apply d_opT rfl
               · simp [e5', e6, b13, b17', e16, e17, hlt, hl4, h5]
                 done
               · simp [e5', e6, b13, b17', e16, e17, hlt, hl4, h5]
                 rfl)
            | (refine d_opF ?_ ?_
               · simp [e5', e6, b13, b17', e16, e17, hlt, hl4, h5]
                 done))
          refine ⟨by simp, ?_⟩
          repeat (first
            | refine w_seq ?_
            | refine w_region ?_
            | refine w_draw0 ?_
            | refine w_nil ?_
            | refine q_then ?_
            | refine w_skip ?_
            | refine w_ret ?_
            | refine w_block ?_
            | refine w_scope ?_
            | refine w_label ?_
            | refine q_thenR ?_
            | refine q_blockR ?_
            | refine q_blockN ?_
            | refine w_exit ?_
            | refine q_thenE ?_
            | refine q_blockE ?_
            | refine w_scope1 ?_
            | refine w_goto ?_
            | refine q_thenG ?_
            | refine q_blockG ?_
            | refine q_ngN ?_
            | refine q_ngR ?_
            | refine q_ngE ?_
            | refine q_jumpN ?_
            | refine q_jumpR ?_
            | refine q_jumpE ?_
            | refine q_jumpG ?_
            | refine q_blockO rfl ?_
            | (apply w_op rfl
               · simp [e5', e6, b13, b17', e16, e17, hlt]
                 first | rfl | exact ⟨‹_›, rfl⟩)
            | (refine w_condT ?_ ?_
               · simp [e5', e6, b13, b17', e16, e17, hlt]
                 done)
            | (refine w_condF ?_ ?_
               · simp [e5', e6, b13, b17', e16, e17, hlt]
                 done)
            | (apply w_opT rfl
               · simp [e5', e6, b13, b17', e16, e17, hlt]
                 done
               · simp [e5', e6, b13, b17', e16, e17, hlt]
                 rfl)
            | (refine w_opF ?_ ?_
               · simp [e5', e6, b13, b17', e16, e17, hlt]
                 done))
          apply w_call [17] (hc := by kernel_rfl) (pc := hB)
          · decide
          · decide
          · simp [e5', e6, b13, b17', e16, e17, hlt]
          · simp [e5', e6, b13, b17', e16, e17, hlt]
          · simp [e5', e6, b13, b17', e16, e17, hlt]
          · simp [e5', e6, b13, b17', e16, e17, hlt]
          · simp [e5', e6, b13, b17', e16, e17, hlt]
          · (simp [e5', e6, b13, b17', e16, e17, hlt]; rfl)
          repeat (first
            | refine w_seq ?_
            | refine w_region ?_
            | refine w_draw0 ?_
            | refine w_nil ?_
            | refine q_then ?_
            | refine w_skip ?_
            | refine w_ret ?_
            | refine w_block ?_
            | refine w_scope ?_
            | refine w_label ?_
            | refine q_thenR ?_
            | refine q_blockR ?_
            | refine q_blockN ?_
            | refine w_exit ?_
            | refine q_thenE ?_
            | refine q_blockE ?_
            | refine w_scope1 ?_
            | refine w_goto ?_
            | refine q_thenG ?_
            | refine q_blockG ?_
            | refine q_ngN ?_
            | refine q_ngR ?_
            | refine q_ngE ?_
            | refine q_jumpN ?_
            | refine q_jumpR ?_
            | refine q_jumpE ?_
            | refine q_jumpG ?_
            | refine q_blockO rfl ?_
            | (apply w_op rfl
               · simp [e5', e6, b13, b17', e16, e17, hlt]
                 first | rfl | exact ⟨‹_›, rfl⟩)
            | (refine w_condT ?_ ?_
               · simp [e5', e6, b13, b17', e16, e17, hlt]
                 done)
            | (refine w_condF ?_ ?_
               · simp [e5', e6, b13, b17', e16, e17, hlt]
                 done)
            | (apply w_opT rfl
               · simp [e5', e6, b13, b17', e16, e17, hlt]
                 done
               · simp [e5', e6, b13, b17', e16, e17, hlt]
                 rfl)
            | (refine w_opF ?_ ?_
               · simp [e5', e6, b13, b17', e16, e17, hlt]
                 done))
          simp [Fin, hv]
    · have hie : i = m := by omega
      subst hie
      have hl4 := nums4_len i r
      by_cases h0 : i = 0
      · subst h0
        have hv : pathV b = ([], false) := by
          have : pathR (k :: ((0 : Nat) : Int) :: r) = none := by
            rw [pathR, if_neg]
            rintro ⟨_, h, _⟩
            exact h rfl
          unfold pathV; rw [hp, this]; rfl
        rcases hc2 with ⟨rfl, h0⟩ | rfl
        · repeat (first
            | refine w_seq ?_
            | refine w_region ?_
            | refine w_draw0 ?_
            | refine w_nil ?_
            | refine q_then ?_
            | refine w_skip ?_
            | refine w_ret ?_
            | refine w_block ?_
            | refine w_scope ?_
            | refine w_label ?_
            | refine q_thenR ?_
            | refine q_blockR ?_
            | refine q_blockN ?_
            | refine w_exit ?_
            | refine q_thenE ?_
            | refine q_blockE ?_
            | refine w_scope1 ?_
            | refine w_goto ?_
            | refine q_thenG ?_
            | refine q_blockG ?_
            | refine q_ngN ?_
            | refine q_ngR ?_
            | refine q_ngE ?_
            | refine q_jumpN ?_
            | refine q_jumpR ?_
            | refine q_jumpE ?_
            | refine q_jumpG ?_
            | refine q_blockO rfl ?_
            | (apply w_op rfl
               · simp [e5', e6, b13, b17', e16, e17]
                 first | rfl | exact ⟨‹_›, rfl⟩)
            | (refine w_condT ?_ ?_
               · simp [e5', e6, b13, b17', e16, e17]
                 done)
            | (refine w_condF ?_ ?_
               · simp [e5', e6, b13, b17', e16, e17]
                 done)
            | (apply w_opT rfl
               · simp [e5', e6, b13, b17', e16, e17]
                 done
               · simp [e5', e6, b13, b17', e16, e17]
                 rfl)
            | (refine w_opF ?_ ?_
               · simp [e5', e6, b13, b17', e16, e17]
                 done))
          simp [Fin, hv]
        · repeat (first
            | refine w_seq ?_
            | refine w_region ?_
            | refine w_draw0 ?_
            | refine w_nil ?_
            | refine q_then ?_
            | refine w_skip ?_
            | refine w_ret ?_
            | refine w_block ?_
            | refine w_scope ?_
            | refine w_label ?_
            | refine q_thenR ?_
            | refine q_blockR ?_
            | refine q_blockN ?_
            | refine w_exit ?_
            | refine q_thenE ?_
            | refine q_blockE ?_
            | refine w_scope1 ?_
            | refine w_goto ?_
            | refine q_thenG ?_
            | refine q_blockG ?_
            | refine q_ngN ?_
            | refine q_ngR ?_
            | refine q_ngE ?_
            | refine q_jumpN ?_
            | refine q_jumpR ?_
            | refine q_jumpE ?_
            | refine q_jumpG ?_
            | refine q_blockO rfl ?_
            | (apply w_op rfl
               · simp [e5', e6, b13, b17', e16, e17, nums4]
                 first | rfl | exact ⟨‹_›, rfl⟩)
            | (refine w_condT ?_ ?_
               · simp [e5', e6, b13, b17', e16, e17, nums4]
                 done)
            | (refine w_condF ?_ ?_
               · simp [e5', e6, b13, b17', e16, e17, nums4]
                 done)
            | (apply w_opT rfl
               · simp [e5', e6, b13, b17', e16, e17, nums4]
                 done
               · simp [e5', e6, b13, b17', e16, e17, nums4]
                 rfl)
            | (refine w_opF ?_ ?_
               · simp [e5', e6, b13, b17', e16, e17, nums4]
                 done))
          simp [Fin, hv]
      · have hc2' : c2 = .osl 25 1 (u32s (nums4 i r)) := by
          rcases hc2 with ⟨_, h⟩ | h
          · rw [h] at hl4
            simp at hl4
            omega
          · exact h
        subst hc2'
        by_cases hk : k = 1 ∨ k = 2
        · have hkk : pathR (k :: (i : Int) :: r) = (pathR (r.drop (4 * i))).map (⟨k, nums4 i r⟩ :: ·) := by
            rw [pathR, if_pos (by simp only [Int.toNat_natCast]; exact ⟨hk, by omega, hir⟩), Int.toNat_natCast]
          have hp' : pathR b = (pathR (r.drop (4 * i))).map ((acc ++ [⟨k, nums4 i r⟩]) ++ ·) := by
            rw [hp, hkk]
            cases pathR (r.drop (4 * i)) <;> simp
          have hi0 : ¬ (i : Int) = 0 := by omega
          have hbd : acc.length * 32 + 32 ≤ 140737488355328 := by omega
          have hbd2 : (acc.length + 1) * 32 ≤ 140737488355328 := by omega
          have hk1 : k = 1 ∨ ¬ k = 1 ∧ k = 2 := by omega
          rcases hk1 with hk1 | ⟨hk1, hk2⟩
          · subst hk1
            rcases hac with ⟨rfl, rfl⟩ | rfl
            · repeat (first
                | refine w_seq ?_
                | refine w_region ?_
                | refine w_draw0 ?_
                | refine w_nil ?_
                | refine q_then ?_
                | refine w_skip ?_
                | refine w_ret ?_
                | refine w_block ?_
                | refine w_scope ?_
                | refine w_label ?_
                | refine q_thenR ?_
                | refine q_blockR ?_
                | refine q_blockN ?_
                | refine w_exit ?_
                | refine q_thenE ?_
                | refine q_blockE ?_
                | refine w_scope1 ?_
                | refine w_goto ?_
                | refine q_thenG ?_
                | refine q_blockG ?_
                | refine q_ngN ?_
                | refine q_ngR ?_
                | refine q_ngE ?_
                | refine q_jumpN ?_
                | refine q_jumpR ?_
                | refine q_jumpE ?_
                | refine q_jumpG ?_
                | refine q_blockO rfl ?_
                | (apply w_op rfl
                   · simp [e4', e5', e6, b13, b17', e16, e17, hl4, hi0, h0]
                     first | rfl | exact ⟨‹_›, rfl⟩)
                | (refine w_condT ?_ ?_
                   · simp [e4', e5', e6, b13, b17', e16, e17, hl4, hi0, h0]
                     done)
                | (refine w_condF ?_ ?_
                   · simp [e4', e5', e6, b13, b17', e16, e17, hl4, hi0, h0]
                     done)
                | (apply w_opT rfl
                   · simp [e4', e5', e6, b13, b17', e16, e17, hl4, hi0, h0]
                     done
                   · simp [e4', e5', e6, b13, b17', e16, e17, hl4, hi0, h0]
                     rfl)
                | (refine w_opF ?_ ?_
                   · simp [e4', e5', e6, b13, b17', e16, e17, hl4, hi0, h0]
                     done))
              refine ⟨_, ?_, r.drop (4 * i), _, .osl 65 2 (segs ([] ++ [⟨1, nums4 i r⟩])), rfl, ?_, ?_, okB_drop hrx3 _, hp', ?_⟩
              · simp only [List.length_drop, List.length_cons]; omega
              · rw [List.length_drop]; omega
              · rw [List.length_drop]; simp only [List.length_append, List.length_singleton]; omega
              · simp [e5', b17']
                exact ⟨rfl, .inr rfl⟩
            · repeat (first
                | refine w_seq ?_
                | refine w_region ?_
                | refine w_draw0 ?_
                | refine w_nil ?_
                | refine q_then ?_
                | refine w_skip ?_
                | refine w_ret ?_
                | refine w_block ?_
                | refine w_scope ?_
                | refine w_label ?_
                | refine q_thenR ?_
                | refine q_blockR ?_
                | refine q_blockN ?_
                | refine w_exit ?_
                | refine q_thenE ?_
                | refine q_blockE ?_
                | refine w_scope1 ?_
                | refine w_goto ?_
                | refine q_thenG ?_
                | refine q_blockG ?_
                | refine q_ngN ?_
                | refine q_ngR ?_
                | refine q_ngE ?_
                | refine q_jumpN ?_
                | refine q_jumpR ?_
                | refine q_jumpE ?_
                | refine q_jumpG ?_
                | refine q_blockO rfl ?_
                | (apply w_op rfl
                   · simp [e4', e5', e6, b13, b17', e16, e17, hl4, hi0, h0, hbd, hbd2]
                     first | rfl | exact ⟨‹_›, rfl⟩)
                | (refine w_condT ?_ ?_
                   · simp [e4', e5', e6, b13, b17', e16, e17, hl4, hi0, h0, hbd, hbd2]
                     done)
                | (refine w_condF ?_ ?_
                   · simp [e4', e5', e6, b13, b17', e16, e17, hl4, hi0, h0, hbd, hbd2]
                     done)
                | (apply w_opT rfl
                   · simp [e4', e5', e6, b13, b17', e16, e17, hl4, hi0, h0, hbd, hbd2]
                     done
                   · simp [e4', e5', e6, b13, b17', e16, e17, hl4, hi0, h0, hbd, hbd2]
                     rfl)
                | (refine w_opF ?_ ?_
                   · simp [e4', e5', e6, b13, b17', e16, e17, hl4, hi0, h0, hbd, hbd2]
                     done))
              refine ⟨_, ?_, r.drop (4 * i), _, .osl 65 2 (segs (acc ++ [⟨1, nums4 i r⟩])), rfl, ?_, ?_, okB_drop hrx3 _, hp', ?_⟩
              · simp only [List.length_drop, List.length_cons]; omega
              · rw [List.length_drop]; omega
              · rw [List.length_drop]; simp only [List.length_append, List.length_singleton]; omega
              · simp [e5', b17']
                exact ⟨by rw [segs_append]; rfl, .inr rfl⟩
          · subst hk2
            rcases hac with ⟨rfl, rfl⟩ | rfl
            · repeat (first
                | refine w_seq ?_
                | refine w_region ?_
                | refine w_draw0 ?_
                | refine w_nil ?_
                | refine q_then ?_
                | refine w_skip ?_
                | refine w_ret ?_
                | refine w_block ?_
                | refine w_scope ?_
                | refine w_label ?_
                | refine q_thenR ?_
                | refine q_blockR ?_
                | refine q_blockN ?_
                | refine w_exit ?_
                | refine q_thenE ?_
                | refine q_blockE ?_
                | refine w_scope1 ?_
                | refine w_goto ?_
                | refine q_thenG ?_
                | refine q_blockG ?_
                | refine q_ngN ?_
                | refine q_ngR ?_
                | refine q_ngE ?_
                | refine q_jumpN ?_
                | refine q_jumpR ?_
                | refine q_jumpE ?_
                | refine q_jumpG ?_
                | refine q_blockO rfl ?_
                | (apply w_op rfl
                   · simp [e4', e5', e6, b13, b17', e16, e17, hl4, hi0, h0]
                     first | rfl | exact ⟨‹_›, rfl⟩)
                | (refine w_condT ?_ ?_
                   · simp [e4', e5', e6, b13, b17', e16, e17, hl4, hi0, h0]
                     done)
                | (refine w_condF ?_ ?_
                   · simp [e4', e5', e6, b13, b17', e16, e17, hl4, hi0, h0]
                     done)
                | (apply w_opT rfl
                   · simp [e4', e5', e6, b13, b17', e16, e17, hl4, hi0, h0]
                     done
                   · simp [e4', e5', e6, b13, b17', e16, e17, hl4, hi0, h0]
                     rfl)
                | (refine w_opF ?_ ?_
                   · simp [e4', e5', e6, b13, b17', e16, e17, hl4, hi0, h0]
                     done))
              refine ⟨_, ?_, r.drop (4 * i), _, .osl 65 2 (segs ([] ++ [⟨2, nums4 i r⟩])), rfl, ?_, ?_, okB_drop hrx3 _, hp', ?_⟩
              · simp only [List.length_drop, List.length_cons]; omega
              · rw [List.length_drop]; omega
              · rw [List.length_drop]; simp only [List.length_append, List.length_singleton]; omega
              · simp [e5', b17']
                exact ⟨rfl, .inr rfl⟩
            · repeat (first
                | refine w_seq ?_
                | refine w_region ?_
                | refine w_draw0 ?_
                | refine w_nil ?_
                | refine q_then ?_
                | refine w_skip ?_
                | refine w_ret ?_
                | refine w_block ?_
                | refine w_scope ?_
                | refine w_label ?_
                | refine q_thenR ?_
                | refine q_blockR ?_
                | refine q_blockN ?_
                | refine w_exit ?_
                | refine q_thenE ?_
                | refine q_blockE ?_
                | refine w_scope1 ?_
                | refine w_goto ?_
                | refine q_thenG ?_
                | refine q_blockG ?_
                | refine q_ngN ?_
                | refine q_ngR ?_
                | refine q_ngE ?_
                | refine q_jumpN ?_
                | refine q_jumpR ?_
                | refine q_jumpE ?_
                | refine q_jumpG ?_
                | refine q_blockO rfl ?_
                | (apply w_op rfl
                   · simp [e4', e5', e6, b13, b17', e16, e17, hl4, hi0, h0, hbd, hbd2]
                     first | rfl | exact ⟨‹_›, rfl⟩)
                | (refine w_condT ?_ ?_
                   · simp [e4', e5', e6, b13, b17', e16, e17, hl4, hi0, h0, hbd, hbd2]
                     done)
                | (refine w_condF ?_ ?_
                   · simp [e4', e5', e6, b13, b17', e16, e17, hl4, hi0, h0, hbd, hbd2]
                     done)
                | (apply w_opT rfl
                   · simp [e4', e5', e6, b13, b17', e16, e17, hl4, hi0, h0, hbd, hbd2]
                     done
                   · simp [e4', e5', e6, b13, b17', e16, e17, hl4, hi0, h0, hbd, hbd2]
                     rfl)
                | (refine w_opF ?_ ?_
                   · simp [e4', e5', e6, b13, b17', e16, e17, hl4, hi0, h0, hbd, hbd2]
                     done))
              refine ⟨_, ?_, r.drop (4 * i), _, .osl 65 2 (segs (acc ++ [⟨2, nums4 i r⟩])), rfl, ?_, ?_, okB_drop hrx3 _, hp', ?_⟩
              · simp only [List.length_drop, List.length_cons]; omega
              · rw [List.length_drop]; omega
              · rw [List.length_drop]; simp only [List.length_append, List.length_singleton]; omega
              · simp [e5', b17']
                exact ⟨by rw [segs_append]; rfl, .inr rfl⟩
        · have hv : pathV b = ([], false) := by
            have : pathR (k :: (i : Int) :: r) = none := by
              rw [pathR, if_neg]
              rintro ⟨h, _⟩
              exact hk h
            unfold pathV; rw [hp, this]; rfl
          have hk1 : ¬ k = 1 := fun h => hk (.inl h)
          have hk2 : ¬ k = 2 := fun h => hk (.inr h)
          have hi0 : ¬ (i : Int) = 0 := by omega
          have hi1 : ¬ i = 0 := h0
          repeat (first
            | refine w_seq ?_
            | refine w_region ?_
            | refine w_draw0 ?_
            | refine w_nil ?_
            | refine q_then ?_
            | refine w_skip ?_
            | refine w_ret ?_
            | refine w_block ?_
            | refine w_scope ?_
            | refine w_label ?_
            | refine q_thenR ?_
            | refine q_blockR ?_
            | refine q_blockN ?_
            | refine w_exit ?_
            | refine q_thenE ?_
            | refine q_blockE ?_
            | refine w_scope1 ?_
            | refine w_goto ?_
            | refine q_thenG ?_
            | refine q_blockG ?_
            | refine q_ngN ?_
            | refine q_ngR ?_
            | refine q_ngE ?_
            | refine q_jumpN ?_
            | refine q_jumpR ?_
            | refine q_jumpE ?_
            | refine q_jumpG ?_
            | refine q_blockO rfl ?_
            | (apply w_op rfl
               · simp [e5', e6, b13, b17', e16, e17, hl4, hi0, hk1, hk2, hi1]
                 first | rfl | exact ⟨‹_›, rfl⟩)
            | (refine w_condT ?_ ?_
               · simp [e5', e6, b13, b17', e16, e17, hl4, hi0, hk1, hk2, hi1]
                 done)
            | (refine w_condF ?_ ?_
               · simp [e5', e6, b13, b17', e16, e17, hl4, hi0, hk1, hk2, hi1]
                 done)
            | (apply w_opT rfl
               · simp [e5', e6, b13, b17', e16, e17, hl4, hi0, hk1, hk2, hi1]
                 done
               · simp [e5', e6, b13, b17', e16, e17, hl4, hi0, hk1, hk2, hi1]
                 rfl)
            | (refine w_opF ?_ ?_
               · simp [e5', e6, b13, b17', e16, e17, hl4, hi0, hk1, hk2, hi1]
                 done))
          simp [Fin, hv]

end Go.V

