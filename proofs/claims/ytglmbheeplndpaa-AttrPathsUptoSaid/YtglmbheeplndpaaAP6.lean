/- Which paths are good, as the document has it. -/
import Derived.Test.YtglmbheeplndpaaAP5
set_option linter.all false
set_option linter.unusedSimpArgs false
set_option linter.unusedVariables false
namespace Go.V
open Go Go.Proofs

/-- What is wrong of a piece behind another one. -/
def badAt (prev : Option Seg) (s : Seg) : Bool :=
  decide (s.nums.length < 1) || decide (255 < s.nums.length) || (decide (s.kind ≠ 1) && decide (s.kind ≠ 2)) || (decide (s.kind = 1) && !decide (setS s.nums = s.nums)) ||
    (decide (s.kind = 2) && (match prev with | some p => decide (p.kind = 2) && decide (p.nums.length < 255) | none => false))

def goodGo : Option Seg → List Seg → Bool
  | _, [] => true
  | p, s :: r => !badAt p s && goodGo (some s) r

def goodR (l : List Seg) : Bool := decide (l.length ≤ 100) && goodGo none l

def prevOf (l : List Seg) : Nat → Option Seg
  | 0 => none
  | i + 1 => l[i]?

theorem goodGo_drop (l : List Seg) (i : Nat) (h : i < l.length) : goodGo (prevOf l i) (l.drop i) = (!badAt (prevOf l i) l[i] && goodGo (prevOf l (i + 1)) (l.drop (i + 1))) := by
  rw [List.drop_eq_getElem_cons h]
  simp only [goodGo, prevOf, List.getElem?_eq_getElem h]

set_option maxHeartbeats 1000000 in
set_option maxRecDepth 10000 in
theorem pc_Good4 (l : List Seg) (hl : l.length ≤ 1000000) (hs : ∀ s ∈ l, s.nums.length ≤ 800000) : PC Try.prog 69 [vsl (segs l)] (tab []) (vb (goodR l)) (tab []) := by
  refine F_r04_Good.pc0 (by simp) ?_
  unfold c_r04_Good
  by_cases h100 : l.length ≤ 100
  · have h100i : ¬ ((100 : Int) < l.length) := by omega
    have hg : goodR l = goodGo none l := by simp [goodR, h100]
    repeat (first
      | refine w_seq ?_
      | refine w_region ?_
      | refine w_draw0 ?_
      | refine w_nil ?_
      | refine q_then ?_
      | refine w_skip ?_
      | refine w_ret ?_
      | refine w_block ?_
      | refine w_scope ?_
      | refine w_label ?_
      | refine q_thenR ?_
      | refine q_blockR ?_
      | refine q_blockN ?_
      | refine w_exit ?_
      | refine q_thenE ?_
      | refine q_blockE ?_
      | refine w_scope1 ?_
      | refine w_goto ?_
      | refine q_thenG ?_
      | refine q_blockG ?_
      | refine q_ngN ?_
      | refine q_ngR ?_
      | refine q_ngE ?_
      | refine q_jumpN ?_
      | refine q_jumpR ?_
      | refine q_jumpE ?_
      | refine q_jumpG ?_
      | refine q_blockO rfl ?_
      | (apply w_op rfl
         · simp [h100i]
           first | rfl | exact ⟨‹_›, rfl⟩)
      | (refine w_condT ?_ ?_
         · simp [h100i]
           done)
      | (refine w_condF ?_ ?_
         · simp [h100i]
           done)
      | (apply w_opT rfl
         · simp [h100i]
           done
         · simp [h100i]
           rfl)
      | (refine w_opF ?_ ?_
         · simp [h100i]
           done))
    refine w_loop (fun k st => ∃ i : Nat, i ≤ l.length ∧ k = l.length - i ∧ st.env 0 = vsl (segs l) ∧ st.env 3 = vi64 i ∧ goodGo none l = goodGo (prevOf l i) (l.drop i)) l.length ?_ ?_
    · exact ⟨0, by simp [prevOf]⟩
    rintro k st ⟨i, hi, rfl, e0, e3, hinv⟩
    by_cases hlt : i < l.length
    · have hw : IntKind.i64.wrap (i + 1 : Int) = i + 1 := wrap64 (by omega) (by omega)
      have hd := goodGo_drop l i hlt
      have hsi := hs _ (List.getElem_mem hlt)
      by_cases c1 : l[i].nums.length < 1
      · have c1i : (l[i].nums.length : Int) < 1 := by omega
        have hf : goodR l = false := by rw [hg, hinv, hd]; simp [badAt, c1]
        repeat (first
          | refine w_seq ?_
          | refine w_region ?_
          | refine w_draw0 ?_
          | refine w_nil ?_
          | refine q_then ?_
          | refine w_skip ?_
          | refine w_ret ?_
          | refine w_block ?_
          | refine w_scope ?_
          | refine w_label ?_
          | refine q_thenR ?_
          | refine q_blockR ?_
          | refine q_blockN ?_
          | refine w_exit ?_
          | refine q_thenE ?_
          | refine q_blockE ?_
          | refine w_scope1 ?_
          | refine w_goto ?_
          | refine q_thenG ?_
          | refine q_blockG ?_
          | refine q_ngN ?_
          | refine q_ngR ?_
          | refine q_ngE ?_
          | refine q_jumpN ?_
          | refine q_jumpR ?_
          | refine q_jumpE ?_
          | refine q_jumpG ?_
          | refine q_blockO rfl ?_
          | (apply w_op rfl
             · simp [e0, e3, hlt, c1i]
               first | rfl | exact ⟨‹_›, rfl⟩)
          | (refine w_condT ?_ ?_
             · simp [e0, e3, hlt, c1i]
               done)
          | (refine w_condF ?_ ?_
             · simp [e0, e3, hlt, c1i]
               done)
          | (apply w_opT rfl
             · simp [e0, e3, hlt, c1i]
               done
             · simp [e0, e3, hlt, c1i]
               rfl)
          | (refine w_opF ?_ ?_
             · simp [e0, e3, hlt, c1i]
               done))
        simp [Fin, hf]
      · have c1i : ¬ (l[i].nums.length : Int) < 1 := by omega
        by_cases c2 : 255 < l[i].nums.length
        · have c2i : (255 : Int) < l[i].nums.length := by omega
          have hf : goodR l = false := by rw [hg, hinv, hd]; simp [badAt, c2]
          repeat (first
            | refine w_seq ?_
            | refine w_region ?_
            | refine w_draw0 ?_
            | refine w_nil ?_
            | refine q_then ?_
            | refine w_skip ?_
            | refine w_ret ?_
            | refine w_block ?_
            | refine w_scope ?_
            | refine w_label ?_
            | refine q_thenR ?_
            | refine q_blockR ?_
            | refine q_blockN ?_
            | refine w_exit ?_
            | refine q_thenE ?_
            | refine q_blockE ?_
            | refine w_scope1 ?_
            | refine w_goto ?_
            | refine q_thenG ?_
            | refine q_blockG ?_
            | refine q_ngN ?_
            | refine q_ngR ?_
            | refine q_ngE ?_
            | refine q_jumpN ?_
            | refine q_jumpR ?_
            | refine q_jumpE ?_
            | refine q_jumpG ?_
            | refine q_blockO rfl ?_
            | (apply w_op rfl
               · simp [e0, e3, hlt, c1i, c2i]
                 first | rfl | exact ⟨‹_›, rfl⟩)
            | (refine w_condT ?_ ?_
               · simp [e0, e3, hlt, c1i, c2i]
                 done)
            | (refine w_condF ?_ ?_
               · simp [e0, e3, hlt, c1i, c2i]
                 done)
            | (apply w_opT rfl
               · simp [e0, e3, hlt, c1i, c2i]
                 done
               · simp [e0, e3, hlt, c1i, c2i]
                 rfl)
            | (refine w_opF ?_ ?_
               · simp [e0, e3, hlt, c1i, c2i]
                 done))
          simp [Fin, hf]
        · have c2i : ¬ (255 : Int) < l[i].nums.length := by omega
          by_cases k1 : l[i].kind = 1
          · have hset := pc_Set2 l[i].nums (by omega)
            have hsame := pc_Same2 (setS l[i].nums) l[i].nums (by have := setS_len l[i].nums; omega)
            by_cases hh : setS l[i].nums = l[i].nums
            · have hf : goodGo none l = goodGo (prevOf l (i + 1)) (l.drop (i + 1)) := by rw [hinv, hd]; simp [badAt, c1, c2, k1, hh]; all_goals omega
              repeat (first
                | refine w_seq ?_
                | refine w_region ?_
                | refine w_draw0 ?_
                | refine w_nil ?_
                | refine q_then ?_
                | refine w_skip ?_
                | refine w_ret ?_
                | refine w_block ?_
                | refine w_scope ?_
                | refine w_label ?_
                | refine q_thenR ?_
                | refine q_blockR ?_
                | refine q_blockN ?_
                | refine w_exit ?_
                | refine q_thenE ?_
                | refine q_blockE ?_
                | refine w_scope1 ?_
                | refine w_goto ?_
                | refine q_thenG ?_
                | refine q_blockG ?_
                | refine q_ngN ?_
                | refine q_ngR ?_
                | refine q_ngE ?_
                | refine q_jumpN ?_
                | refine q_jumpR ?_
                | refine q_jumpE ?_
                | refine q_jumpG ?_
                | refine q_blockO rfl ?_
                | (apply w_op rfl
                   · simp [e0, e3, hlt, c1i, c2i, k1]
                     first | rfl | exact ⟨‹_›, rfl⟩)
                | (refine w_condT ?_ ?_
                   · simp [e0, e3, hlt, c1i, c2i, k1]
                     done)
                | (refine w_condF ?_ ?_
                   · simp [e0, e3, hlt, c1i, c2i, k1]
                     done)
                | (apply w_opT rfl
                   · simp [e0, e3, hlt, c1i, c2i, k1]
                     done
                   · simp [e0, e3, hlt, c1i, c2i, k1]
                     rfl)
                | (refine w_opF ?_ ?_
                   · simp [e0, e3, hlt, c1i, c2i, k1]
                     done))
              refine w_draw ?_
              repeat (first
                | refine w_dnil ?_
                | (apply d_op rfl
                   · simp [e0, e3, hlt, c1i, c2i, k1]
                     first | rfl | exact ⟨‹_›, rfl⟩)
                | (apply d_opT rfl
                   · simp [e0, e3, hlt, c1i, c2i, k1]
                     done
                   · simp [e0, e3, hlt, c1i, c2i, k1]
                     rfl)
                | (refine d_opF ?_ ?_
                   · simp [e0, e3, hlt, c1i, c2i, k1]
                     done))
              apply d_call0T (hc := by kernel_rfl) (pc := hset)
              · simp [e0, e3, hlt, k1]
              · simp [e0, e3, hlt, k1]
              · (simp [e0, e3, hlt, k1]; rfl)
              repeat (first
                | refine w_dnil ?_
                | (apply d_op rfl
                   · simp [e0, e3, hlt, c1i, c2i, k1]
                     first | rfl | exact ⟨‹_›, rfl⟩)
                | (apply d_opT rfl
                   · simp [e0, e3, hlt, c1i, c2i, k1]
                     done
                   · simp [e0, e3, hlt, c1i, c2i, k1]
                     rfl)
                | (refine d_opF ?_ ?_
                   · simp [e0, e3, hlt, c1i, c2i, k1]
                     done))
              apply d_call0T (hc := by kernel_rfl) (pc := hsame)
              · simp [e0, e3, hlt, k1]
              · simp [e0, e3, hlt, k1]
              · (simp [e0, e3, hlt, k1]; rfl)
              repeat (first
                | refine w_dnil ?_
                | (apply d_op rfl
                   · simp [e0, e3, hlt, c1i, c2i, k1, hh]
                     first | rfl | exact ⟨‹_›, rfl⟩)
                | (apply d_opT rfl
                   · simp [e0, e3, hlt, c1i, c2i, k1, hh]
                     done
                   · simp [e0, e3, hlt, c1i, c2i, k1, hh]
                     rfl)
                | (refine d_opF ?_ ?_
                   · simp [e0, e3, hlt, c1i, c2i, k1, hh]
                     done))
              refine ⟨by simp, ?_⟩
              repeat (first
                | refine w_seq ?_
                | refine w_region ?_
                | refine w_draw0 ?_
                | refine w_nil ?_
                | refine q_then ?_
                | refine w_skip ?_
                | refine w_ret ?_
                | refine w_block ?_
                | refine w_scope ?_
                | refine w_label ?_
                | refine q_thenR ?_
                | refine q_blockR ?_
                | refine q_blockN ?_
                | refine w_exit ?_
                | refine q_thenE ?_
                | refine q_blockE ?_
                | refine w_scope1 ?_
                | refine w_goto ?_
                | refine q_thenG ?_
                | refine q_blockG ?_
                | refine q_ngN ?_
                | refine q_ngR ?_
                | refine q_ngE ?_
                | refine q_jumpN ?_
                | refine q_jumpR ?_
                | refine q_jumpE ?_
                | refine q_jumpG ?_
                | refine q_blockO rfl ?_
                | (apply w_op rfl
                   · simp [e0, e3, hlt, hw]
                     first | rfl | exact ⟨‹_›, rfl⟩)
                | (refine w_condT ?_ ?_
                   · simp [e0, e3, hlt, hw]
                     done)
                | (refine w_condF ?_ ?_
                   · simp [e0, e3, hlt, hw]
                     done)
                | (apply w_opT rfl
                   · simp [e0, e3, hlt, hw]
                     done
                   · simp [e0, e3, hlt, hw]
                     rfl)
                | (refine w_opF ?_ ?_
                   · simp [e0, e3, hlt, hw]
                     done))
              refine ⟨_, ?_, i + 1, by omega, rfl, ?_⟩
              · omega
              · simp [e0, e3, hw]
                exact hf
            · have hf : goodR l = false := by rw [hg, hinv, hd]; simp [badAt, k1, hh]
              repeat (first
                | refine w_seq ?_
                | refine w_region ?_
                | refine w_draw0 ?_
                | refine w_nil ?_
                | refine q_then ?_
                | refine w_skip ?_
                | refine w_ret ?_
                | refine w_block ?_
                | refine w_scope ?_
                | refine w_label ?_
                | refine q_thenR ?_
                | refine q_blockR ?_
                | refine q_blockN ?_
                | refine w_exit ?_
                | refine q_thenE ?_
                | refine q_blockE ?_
                | refine w_scope1 ?_
                | refine w_goto ?_
                | refine q_thenG ?_
                | refine q_blockG ?_
                | refine q_ngN ?_
                | refine q_ngR ?_
                | refine q_ngE ?_
                | refine q_jumpN ?_
                | refine q_jumpR ?_
                | refine q_jumpE ?_
                | refine q_jumpG ?_
                | refine q_blockO rfl ?_
                | (apply w_op rfl
                   · simp [e0, e3, hlt, c1i, c2i, k1]
                     first | rfl | exact ⟨‹_›, rfl⟩)
                | (refine w_condT ?_ ?_
                   · simp [e0, e3, hlt, c1i, c2i, k1]
                     done)
                | (refine w_condF ?_ ?_
                   · simp [e0, e3, hlt, c1i, c2i, k1]
                     done)
                | (apply w_opT rfl
                   · simp [e0, e3, hlt, c1i, c2i, k1]
                     done
                   · simp [e0, e3, hlt, c1i, c2i, k1]
                     rfl)
                | (refine w_opF ?_ ?_
                   · simp [e0, e3, hlt, c1i, c2i, k1]
                     done))
              refine w_draw ?_
              repeat (first
                | refine w_dnil ?_
                | (apply d_op rfl
                   · simp [e0, e3, hlt, c1i, c2i, k1]
                     first | rfl | exact ⟨‹_›, rfl⟩)
                | (apply d_opT rfl
                   · simp [e0, e3, hlt, c1i, c2i, k1]
                     done
                   · simp [e0, e3, hlt, c1i, c2i, k1]
                     rfl)
                | (refine d_opF ?_ ?_
                   · simp [e0, e3, hlt, c1i, c2i, k1]
                     done))
              apply d_call0T (hc := by kernel_rfl) (pc := hset)
              · simp [e0, e3, hlt, k1]
              · simp [e0, e3, hlt, k1]
              · (simp [e0, e3, hlt, k1]; rfl)
              repeat (first
                | refine w_dnil ?_
                | (apply d_op rfl
                   · simp [e0, e3, hlt, c1i, c2i, k1]
                     first | rfl | exact ⟨‹_›, rfl⟩)
                | (apply d_opT rfl
                   · simp [e0, e3, hlt, c1i, c2i, k1]
                     done
                   · simp [e0, e3, hlt, c1i, c2i, k1]
                     rfl)
                | (refine d_opF ?_ ?_
                   · simp [e0, e3, hlt, c1i, c2i, k1]
                     done))
              apply d_call0T (hc := by kernel_rfl) (pc := hsame)
              · simp [e0, e3, hlt, k1]
              · simp [e0, e3, hlt, k1]
              · (simp [e0, e3, hlt, k1]; rfl)
              repeat (first
                | refine w_dnil ?_
                | (apply d_op rfl
                   · simp [e0, e3, hlt, c1i, c2i, k1, hh]
                     first | rfl | exact ⟨‹_›, rfl⟩)
                | (apply d_opT rfl
                   · simp [e0, e3, hlt, c1i, c2i, k1, hh]
                     done
                   · simp [e0, e3, hlt, c1i, c2i, k1, hh]
                     rfl)
                | (refine d_opF ?_ ?_
                   · simp [e0, e3, hlt, c1i, c2i, k1, hh]
                     done))
              refine ⟨by simp, ?_⟩
              repeat (first
                | refine w_seq ?_
                | refine w_region ?_
                | refine w_draw0 ?_
                | refine w_nil ?_
                | refine q_then ?_
                | refine w_skip ?_
                | refine w_ret ?_
                | refine w_block ?_
                | refine w_scope ?_
                | refine w_label ?_
                | refine q_thenR ?_
                | refine q_blockR ?_
                | refine q_blockN ?_
                | refine w_exit ?_
                | refine q_thenE ?_
                | refine q_blockE ?_
                | refine w_scope1 ?_
                | refine w_goto ?_
                | refine q_thenG ?_
                | refine q_blockG ?_
                | refine q_ngN ?_
                | refine q_ngR ?_
                | refine q_ngE ?_
                | refine q_jumpN ?_
                | refine q_jumpR ?_
                | refine q_jumpE ?_
                | refine q_jumpG ?_
                | refine q_blockO rfl ?_
                | (apply w_op rfl
                   · simp [e0, e3, hlt, hw]
                     first | rfl | exact ⟨‹_›, rfl⟩)
                | (refine w_condT ?_ ?_
                   · simp [e0, e3, hlt, hw]
                     done)
                | (refine w_condF ?_ ?_
                   · simp [e0, e3, hlt, hw]
                     done)
                | (apply w_opT rfl
                   · simp [e0, e3, hlt, hw]
                     done
                   · simp [e0, e3, hlt, hw]
                     rfl)
                | (refine w_opF ?_ ?_
                   · simp [e0, e3, hlt, hw]
                     done))
              simp [Fin, hf]
          · by_cases k2 : l[i].kind = 2
            · by_cases hi0 : i = 0
              · have hpv : prevOf l i = none := by rw [hi0]; rfl
                have hii : ¬ (0 : Int) < i := by omega
                have hf : goodGo none l = goodGo (prevOf l (i + 1)) (l.drop (i + 1)) := by rw [hinv, hd, hpv]; simp [badAt, c1, c2, k1, k2]; all_goals omega
                have hii2 : decide (0 < i) = false := by simp [hi0]
                repeat (first
                  | refine w_seq ?_
                  | refine w_region ?_
                  | refine w_draw0 ?_
                  | refine w_nil ?_
                  | refine q_then ?_
                  | refine w_skip ?_
                  | refine w_ret ?_
                  | refine w_block ?_
                  | refine w_scope ?_
                  | refine w_label ?_
                  | refine q_thenR ?_
                  | refine q_blockR ?_
                  | refine q_blockN ?_
                  | refine w_exit ?_
                  | refine q_thenE ?_
                  | refine q_blockE ?_
                  | refine w_scope1 ?_
                  | refine w_goto ?_
                  | refine q_thenG ?_
                  | refine q_blockG ?_
                  | refine q_ngN ?_
                  | refine q_ngR ?_
                  | refine q_ngE ?_
                  | refine q_jumpN ?_
                  | refine q_jumpR ?_
                  | refine q_jumpE ?_
                  | refine q_jumpG ?_
                  | refine q_blockO rfl ?_
                  | (apply w_op rfl
                     · simp [e0, e3, hlt, c1i, c2i, k1, k2]
                       first | rfl | exact ⟨‹_›, rfl⟩)
                  | (refine w_condT ?_ ?_
                     · simp [e0, e3, hlt, c1i, c2i, k1, k2]
                       done)
                  | (refine w_condF ?_ ?_
                     · simp [e0, e3, hlt, c1i, c2i, k1, k2]
                       done)
                  | (apply w_opT rfl
                     · simp [e0, e3, hlt, c1i, c2i, k1, k2]
                       done
                     · simp [e0, e3, hlt, c1i, c2i, k1, k2]
                       rfl)
                  | (refine w_opF ?_ ?_
                     · simp [e0, e3, hlt, c1i, c2i, k1, k2]
                       done))
                refine w_draw ?_
                repeat (first
                  | refine w_dnil ?_
                  | (apply d_op rfl
                     · simp [e0, e3, hlt, c1i, c2i, k1, k2, hii2]
                       first | rfl | exact ⟨‹_›, rfl⟩)
                  | (apply d_opT rfl
                     · simp [e0, e3, hlt, c1i, c2i, k1, k2, hii2]
                       done
                     · simp [e0, e3, hlt, c1i, c2i, k1, k2, hii2]
                       rfl)
                  | (refine d_opF ?_ ?_
                     · simp [e0, e3, hlt, c1i, c2i, k1, k2, hii2]
                       done))
                refine ⟨by simp, ?_⟩
                repeat (first
                  | refine w_seq ?_
                  | refine w_region ?_
                  | refine w_draw0 ?_
                  | refine w_nil ?_
                  | refine q_then ?_
                  | refine w_skip ?_
                  | refine w_ret ?_
                  | refine w_block ?_
                  | refine w_scope ?_
                  | refine w_label ?_
                  | refine q_thenR ?_
                  | refine q_blockR ?_
                  | refine q_blockN ?_
                  | refine w_exit ?_
                  | refine q_thenE ?_
                  | refine q_blockE ?_
                  | refine w_scope1 ?_
                  | refine w_goto ?_
                  | refine q_thenG ?_
                  | refine q_blockG ?_
                  | refine q_ngN ?_
                  | refine q_ngR ?_
                  | refine q_ngE ?_
                  | refine q_jumpN ?_
                  | refine q_jumpR ?_
                  | refine q_jumpE ?_
                  | refine q_jumpG ?_
                  | refine q_blockO rfl ?_
                  | (apply w_op rfl
                     · simp [e0, e3, hlt, hw]
                       first | rfl | exact ⟨‹_›, rfl⟩)
                  | (refine w_condT ?_ ?_
                     · simp [e0, e3, hlt, hw]
                       done)
                  | (refine w_condF ?_ ?_
                     · simp [e0, e3, hlt, hw]
                       done)
                  | (apply w_opT rfl
                     · simp [e0, e3, hlt, hw]
                       done
                     · simp [e0, e3, hlt, hw]
                       rfl)
                  | (refine w_opF ?_ ?_
                     · simp [e0, e3, hlt, hw]
                       done))
                refine ⟨_, ?_, i + 1, by omega, rfl, ?_⟩
                · omega
                · simp [e0, e3, hw]
                  exact hf
              · obtain ⟨j, hij⟩ : ∃ j, i = j + 1 := ⟨i - 1, by omega⟩
                have hj : j < l.length := by omega
                have hpv : prevOf l i = some l[j] := by rw [hij]; simp [prevOf, hj]
                have hwj : IntKind.i64.wrap ((i : Int) - 1) = j := by rw [show (i : Int) - 1 = j by omega]; exact wrap64 (by omega) (by omega)
                have hii : (0 : Int) < (i : Int) := by omega
                have hi00 : 0 < i := by omega
                by_cases p2 : l[j].kind = 2
                · by_cases p3 : l[j].nums.length < 255
                  · have p3i : (l[j].nums.length : Int) < 255 := by omega
                    have hf : goodR l = false := by rw [hg, hinv, hd, hpv]; simp [badAt, k2, p2, p3]
                    repeat (first
                      | refine w_seq ?_
                      | refine w_region ?_
                      | refine w_draw0 ?_
                      | refine w_nil ?_
                      | refine q_then ?_
                      | refine w_skip ?_
                      | refine w_ret ?_
                      | refine w_block ?_
                      | refine w_scope ?_
                      | refine w_label ?_
                      | refine q_thenR ?_
                      | refine q_blockR ?_
                      | refine q_blockN ?_
                      | refine w_exit ?_
                      | refine q_thenE ?_
                      | refine q_blockE ?_
                      | refine w_scope1 ?_
                      | refine w_goto ?_
                      | refine q_thenG ?_
                      | refine q_blockG ?_
                      | refine q_ngN ?_
                      | refine q_ngR ?_
                      | refine q_ngE ?_
                      | refine q_jumpN ?_
                      | refine q_jumpR ?_
                      | refine q_jumpE ?_
                      | refine q_jumpG ?_
                      | refine q_blockO rfl ?_
                      | (apply w_op rfl
                         · simp [e0, e3, hlt, c1i, c2i, k1, k2]
                           first | rfl | exact ⟨‹_›, rfl⟩)
                      | (refine w_condT ?_ ?_
                         · simp [e0, e3, hlt, c1i, c2i, k1, k2]
                           done)
                      | (refine w_condF ?_ ?_
                         · simp [e0, e3, hlt, c1i, c2i, k1, k2]
                           done)
                      | (apply w_opT rfl
                         · simp [e0, e3, hlt, c1i, c2i, k1, k2]
                           done
                         · simp [e0, e3, hlt, c1i, c2i, k1, k2]
                           rfl)
                      | (refine w_opF ?_ ?_
                         · simp [e0, e3, hlt, c1i, c2i, k1, k2]
                           done))
                    refine w_draw ?_
                    repeat (first
                      | refine w_dnil ?_
                      | (apply d_op rfl
                         · simp [e0, e3, hlt, c1i, c2i, k1, k2, hwj, hj, hi00, p2, p3i]
                           first | rfl | exact ⟨‹_›, rfl⟩)
                      | (apply d_opT rfl
                         · simp [e0, e3, hlt, c1i, c2i, k1, k2, hwj, hj, hi00, p2, p3i]
                           done
                         · simp [e0, e3, hlt, c1i, c2i, k1, k2, hwj, hj, hi00, p2, p3i]
                           rfl)
                      | (refine d_opF ?_ ?_
                         · simp [e0, e3, hlt, c1i, c2i, k1, k2, hwj, hj, hi00, p2, p3i]
                           done))
                    refine ⟨by simp, ?_⟩
                    repeat (first
                      | refine w_seq ?_
                      | refine w_region ?_
                      | refine w_draw0 ?_
                      | refine w_nil ?_
                      | refine q_then ?_
                      | refine w_skip ?_
                      | refine w_ret ?_
                      | refine w_block ?_
                      | refine w_scope ?_
                      | refine w_label ?_
                      | refine q_thenR ?_
                      | refine q_blockR ?_
                      | refine q_blockN ?_
                      | refine w_exit ?_
                      | refine q_thenE ?_
                      | refine q_blockE ?_
                      | refine w_scope1 ?_
                      | refine w_goto ?_
                      | refine q_thenG ?_
                      | refine q_blockG ?_
                      | refine q_ngN ?_
                      | refine q_ngR ?_
                      | refine q_ngE ?_
                      | refine q_jumpN ?_
                      | refine q_jumpR ?_
                      | refine q_jumpE ?_
                      | refine q_jumpG ?_
                      | refine q_blockO rfl ?_
                      | (apply w_op rfl
                         · simp [e0, e3, hlt, hw]
                           first | rfl | exact ⟨‹_›, rfl⟩)
                      | (refine w_condT ?_ ?_
                         · simp [e0, e3, hlt, hw]
                           done)
                      | (refine w_condF ?_ ?_
                         · simp [e0, e3, hlt, hw]
                           done)
                      | (apply w_opT rfl
                         · simp [e0, e3, hlt, hw]
                           done
                         · simp [e0, e3, hlt, hw]
                           rfl)
                      | (refine w_opF ?_ ?_
                         · simp [e0, e3, hlt, hw]
                           done))
                    simp [Fin, hf]
                  · have p3i : ¬ (l[j].nums.length : Int) < 255 := by omega
                    have hf : goodGo none l = goodGo (prevOf l (i + 1)) (l.drop (i + 1)) := by rw [hinv, hd, hpv]; simp [badAt, c1, c2, k1, k2, p2, p3]; all_goals omega
                    repeat (first
                      | refine w_seq ?_
                      | refine w_region ?_
                      | refine w_draw0 ?_
                      | refine w_nil ?_
                      | refine q_then ?_
                      | refine w_skip ?_
                      | refine w_ret ?_
                      | refine w_block ?_
                      | refine w_scope ?_
                      | refine w_label ?_
                      | refine q_thenR ?_
                      | refine q_blockR ?_
                      | refine q_blockN ?_
                      | refine w_exit ?_
                      | refine q_thenE ?_
                      | refine q_blockE ?_
                      | refine w_scope1 ?_
                      | refine w_goto ?_
                      | refine q_thenG ?_
                      | refine q_blockG ?_
                      | refine q_ngN ?_
                      | refine q_ngR ?_
                      | refine q_ngE ?_
                      | refine q_jumpN ?_
                      | refine q_jumpR ?_
                      | refine q_jumpE ?_
                      | refine q_jumpG ?_
                      | refine q_blockO rfl ?_
                      | (apply w_op rfl
                         · simp [e0, e3, hlt, c1i, c2i, k1, k2]
                           first | rfl | exact ⟨‹_›, rfl⟩)
                      | (refine w_condT ?_ ?_
                         · simp [e0, e3, hlt, c1i, c2i, k1, k2]
                           done)
                      | (refine w_condF ?_ ?_
                         · simp [e0, e3, hlt, c1i, c2i, k1, k2]
                           done)
                      | (apply w_opT rfl
                         · simp [e0, e3, hlt, c1i, c2i, k1, k2]
                           done
                         · simp [e0, e3, hlt, c1i, c2i, k1, k2]
                           rfl)
                      | (refine w_opF ?_ ?_
                         · simp [e0, e3, hlt, c1i, c2i, k1, k2]
                           done))
                    refine w_draw ?_
                    repeat (first
                      | refine w_dnil ?_
                      | (apply d_op rfl
                         · simp [e0, e3, hlt, c1i, c2i, k1, k2, hwj, hj, hi00, p2, p3i]
                           first | rfl | exact ⟨‹_›, rfl⟩)
                      | (apply d_opT rfl
                         · simp [e0, e3, hlt, c1i, c2i, k1, k2, hwj, hj, hi00, p2, p3i]
                           done
                         · simp [e0, e3, hlt, c1i, c2i, k1, k2, hwj, hj, hi00, p2, p3i]
                           rfl)
                      | (refine d_opF ?_ ?_
                         · simp [e0, e3, hlt, c1i, c2i, k1, k2, hwj, hj, hi00, p2, p3i]
                           done))
                    refine ⟨by simp, ?_⟩
                    repeat (first
                      | refine w_seq ?_
                      | refine w_region ?_
                      | refine w_draw0 ?_
                      | refine w_nil ?_
                      | refine q_then ?_
                      | refine w_skip ?_
                      | refine w_ret ?_
                      | refine w_block ?_
                      | refine w_scope ?_
                      | refine w_label ?_
                      | refine q_thenR ?_
                      | refine q_blockR ?_
                      | refine q_blockN ?_
                      | refine w_exit ?_
                      | refine q_thenE ?_
                      | refine q_blockE ?_
                      | refine w_scope1 ?_
                      | refine w_goto ?_
                      | refine q_thenG ?_
                      | refine q_blockG ?_
                      | refine q_ngN ?_
                      | refine q_ngR ?_
                      | refine q_ngE ?_
                      | refine q_jumpN ?_
                      | refine q_jumpR ?_
                      | refine q_jumpE ?_
                      | refine q_jumpG ?_
                      | refine q_blockO rfl ?_
                      | (apply w_op rfl
                         · simp [e0, e3, hlt, hw]
                           first | rfl | exact ⟨‹_›, rfl⟩)
                      | (refine w_condT ?_ ?_
                         · simp [e0, e3, hlt, hw]
                           done)
                      | (refine w_condF ?_ ?_
                         · simp [e0, e3, hlt, hw]
                           done)
                      | (apply w_opT rfl
                         · simp [e0, e3, hlt, hw]
                           done
                         · simp [e0, e3, hlt, hw]
                           rfl)
                      | (refine w_opF ?_ ?_
                         · simp [e0, e3, hlt, hw]
                           done))
                    refine ⟨_, ?_, i + 1, by omega, rfl, ?_⟩
                    · omega
                    · simp [e0, e3, hw]
                      exact hf
                · have hf : goodGo none l = goodGo (prevOf l (i + 1)) (l.drop (i + 1)) := by rw [hinv, hd, hpv]; simp [badAt, c1, c2, k1, k2, p2]; all_goals omega
                  repeat (first
                    | refine w_seq ?_
                    | refine w_region ?_
                    | refine w_draw0 ?_
                    | refine w_nil ?_
                    | refine q_then ?_
                    | refine w_skip ?_
                    | refine w_ret ?_
                    | refine w_block ?_
                    | refine w_scope ?_
                    | refine w_label ?_
                    | refine q_thenR ?_
                    | refine q_blockR ?_
                    | refine q_blockN ?_
                    | refine w_exit ?_
                    | refine q_thenE ?_
                    | refine q_blockE ?_
                    | refine w_scope1 ?_
                    | refine w_goto ?_
                    | refine q_thenG ?_
                    | refine q_blockG ?_
                    | refine q_ngN ?_
                    | refine q_ngR ?_
                    | refine q_ngE ?_
                    | refine q_jumpN ?_
                    | refine q_jumpR ?_
                    | refine q_jumpE ?_
                    | refine q_jumpG ?_
                    | refine q_blockO rfl ?_
                    | (apply w_op rfl
                       · simp [e0, e3, hlt, c1i, c2i, k1, k2]
                         first | rfl | exact ⟨‹_›, rfl⟩)
                    | (refine w_condT ?_ ?_
                       · simp [e0, e3, hlt, c1i, c2i, k1, k2]
                         done)
                    | (refine w_condF ?_ ?_
                       · simp [e0, e3, hlt, c1i, c2i, k1, k2]
                         done)
                    | (apply w_opT rfl
                       · simp [e0, e3, hlt, c1i, c2i, k1, k2]
                         done
                       · simp [e0, e3, hlt, c1i, c2i, k1, k2]
                         rfl)
                    | (refine w_opF ?_ ?_
                       · simp [e0, e3, hlt, c1i, c2i, k1, k2]
                         done))
                  refine w_draw ?_
                  repeat (first
                    | refine w_dnil ?_
                    | (apply d_op rfl
                       · simp [e0, e3, hlt, c1i, c2i, k1, k2, hwj, hj, hi00, p2]
                         first | rfl | exact ⟨‹_›, rfl⟩)
                    | (apply d_opT rfl
                       · simp [e0, e3, hlt, c1i, c2i, k1, k2, hwj, hj, hi00, p2]
                         done
                       · simp [e0, e3, hlt, c1i, c2i, k1, k2, hwj, hj, hi00, p2]
                         rfl)
                    | (refine d_opF ?_ ?_
                       · simp [e0, e3, hlt, c1i, c2i, k1, k2, hwj, hj, hi00, p2]
                         done))
                  refine ⟨by simp, ?_⟩
                  repeat (first
                    | refine w_seq ?_
                    | refine w_region ?_
                    | refine w_draw0 ?_
                    | refine w_nil ?_
                    | refine q_then ?_
                    | refine w_skip ?_
                    | refine w_ret ?_
                    | refine w_block ?_
                    | refine w_scope ?_
                    | refine w_label ?_
                    | refine q_thenR ?_
                    | refine q_blockR ?_
                    | refine q_blockN ?_
                    | refine w_exit ?_
                    | refine q_thenE ?_
                    | refine q_blockE ?_
                    | refine w_scope1 ?_
                    | refine w_goto ?_
                    | refine q_thenG ?_
                    | refine q_blockG ?_
                    | refine q_ngN ?_
                    | refine q_ngR ?_
                    | refine q_ngE ?_
                    | refine q_jumpN ?_
                    | refine q_jumpR ?_
                    | refine q_jumpE ?_
                    | refine q_jumpG ?_
                    | refine q_blockO rfl ?_
                    | (apply w_op rfl
                       · simp [e0, e3, hlt, hw]
                         first | rfl | exact ⟨‹_›, rfl⟩)
                    | (refine w_condT ?_ ?_
                       · simp [e0, e3, hlt, hw]
                         done)
                    | (refine w_condF ?_ ?_
                       · simp [e0, e3, hlt, hw]
                         done)
                    | (apply w_opT rfl
                       · simp [e0, e3, hlt, hw]
                         done
                       · simp [e0, e3, hlt, hw]
                         rfl)
                    | (refine w_opF ?_ ?_
                       · simp [e0, e3, hlt, hw]
                         done))
                  refine ⟨_, ?_, i + 1, by omega, rfl, ?_⟩
                  · omega
                  · simp [e0, e3, hw]
                    exact hf
            · have hf : goodR l = false := by rw [hg, hinv, hd]; simp [badAt, k1, k2]
              repeat (first
                | refine w_seq ?_
                | refine w_region ?_
                | refine w_draw0 ?_
                | refine w_nil ?_
                | refine q_then ?_
                | refine w_skip ?_
                | refine w_ret ?_
                | refine w_block ?_
                | refine w_scope ?_
                | refine w_label ?_
                | refine q_thenR ?_
                | refine q_blockR ?_
                | refine q_blockN ?_
                | refine w_exit ?_
                | refine q_thenE ?_
                | refine q_blockE ?_
                | refine w_scope1 ?_
                | refine w_goto ?_
                | refine q_thenG ?_
                | refine q_blockG ?_
                | refine q_ngN ?_
                | refine q_ngR ?_
                | refine q_ngE ?_
                | refine q_jumpN ?_
                | refine q_jumpR ?_
                | refine q_jumpE ?_
                | refine q_jumpG ?_
                | refine q_blockO rfl ?_
                | (apply w_op rfl
                   · simp [e0, e3, hlt, c1i, c2i, k1, k2]
                     first | rfl | exact ⟨‹_›, rfl⟩)
                | (refine w_condT ?_ ?_
                   · simp [e0, e3, hlt, c1i, c2i, k1, k2]
                     done)
                | (refine w_condF ?_ ?_
                   · simp [e0, e3, hlt, c1i, c2i, k1, k2]
                     done)
                | (apply w_opT rfl
                   · simp [e0, e3, hlt, c1i, c2i, k1, k2]
                     done
                   · simp [e0, e3, hlt, c1i, c2i, k1, k2]
                     rfl)
                | (refine w_opF ?_ ?_
                   · simp [e0, e3, hlt, c1i, c2i, k1, k2]
                     done))
              simp [Fin, hf]
    · have hie : i = l.length := by omega
      subst hie
      have hf : goodR l = true := by rw [hg, hinv]; simp [goodGo]
      repeat (first
        | refine w_seq ?_
        | refine w_region ?_
        | refine w_draw0 ?_
        | refine w_nil ?_
        | refine q_then ?_
        | refine w_skip ?_
        | refine w_ret ?_
        | refine w_block ?_
        | refine w_scope ?_
        | refine w_label ?_
        | refine q_thenR ?_
        | refine q_blockR ?_
        | refine q_blockN ?_
        | refine w_exit ?_
        | refine q_thenE ?_
        | refine q_blockE ?_
        | refine w_scope1 ?_
        | refine w_goto ?_
        | refine q_thenG ?_
        | refine q_blockG ?_
        | refine q_ngN ?_
        | refine q_ngR ?_
        | refine q_ngE ?_
        | refine q_jumpN ?_
        | refine q_jumpR ?_
        | refine q_jumpE ?_
        | refine q_jumpG ?_
        | refine q_blockO rfl ?_
        | (apply w_op rfl
           · simp [e0, e3]
             first | rfl | exact ⟨‹_›, rfl⟩)
        | (refine w_condT ?_ ?_
           · simp [e0, e3]
             done)
        | (refine w_condF ?_ ?_
           · simp [e0, e3]
             done)
        | (apply w_opT rfl
           · simp [e0, e3]
             done
           · simp [e0, e3]
             rfl)
        | (refine w_opF ?_ ?_
           · simp [e0, e3]
             done))
      simp [Fin, hf]
  · have h100i : (100 : Int) < l.length := by omega
    have hf : goodR l = false := by simp [goodR, h100]
    repeat (first
      | refine w_seq ?_
      | refine w_region ?_
      | refine w_draw0 ?_
      | refine w_nil ?_
      | refine q_then ?_
      | refine w_skip ?_
      | refine w_ret ?_
      | refine w_block ?_
      | refine w_scope ?_
      | refine w_label ?_
      | refine q_thenR ?_
      | refine q_blockR ?_
      | refine q_blockN ?_
      | refine w_exit ?_
      | refine q_thenE ?_
      | refine q_blockE ?_
      | refine w_scope1 ?_
      | refine w_goto ?_
      | refine q_thenG ?_
      | refine q_blockG ?_
      | refine q_ngN ?_
      | refine q_ngR ?_
      | refine q_ngE ?_
      | refine q_jumpN ?_
      | refine q_jumpR ?_
      | refine q_jumpE ?_
      | refine q_jumpG ?_
      | refine q_blockO rfl ?_
      | (apply w_op rfl
         · simp [h100i]
           first | rfl | exact ⟨‹_›, rfl⟩)
      | (refine w_condT ?_ ?_
         · simp [h100i]
           done)
      | (refine w_condF ?_ ?_
         · simp [h100i]
           done)
      | (apply w_opT rfl
         · simp [h100i]
           done
         · simp [h100i]
           rfl)
      | (refine w_opF ?_ ?_
         · simp [h100i]
           done))
    simp [Fin, hf]

end Go.V

