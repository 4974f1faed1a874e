/- The value machine, part 13: stores. -/
import Derived.Test.YtglmbheeplndpaaV12
set_option linter.all false
set_option linter.unusedSimpArgs false
set_option linter.unusedVariables false
namespace Go.V
open Go

section
variable {P : Program} {S : Stab} {loc : Nat → Nat} {ow : Nat → Option Pl} {w : World} {N : Nat} {st : VSt} {vals : Nat → Value}

theorem upd_ver {box : Tab} {k : Nat} {cs : Option (List C)} (k' : Nat) : (upd box k ((box k).1, cs) k').1 = (box k').1 := by
  simp only [upd]
  split
  · rename_i e; subst e; rfl
  · rfl

/-- a store; an own slice goes over into the box, its slot keeps a copy -/
theorem does_store (h : HH S loc ow w N st.env vals st.box) {i j : Nat} {p x : SV} {v u : Value} (hv : RepV S loc st.box ow w i p v) {k off : Nat} (hp : place st.box p = some (.box k off)) {cs : List C} (hk : (st.box k).2 = some cs)
    {t : TypeId} {agg : Bool} {n : Nat} (ht : tyInfo P t = some (agg, n)) {ys : List C} (hu : RepV S loc st.box ow w j x u) (hys : x.stored = some ys) (hle : off + n ≤ cs.length) (hyl : ys.length = n)
    {slots : List (Nat × SV)} (hsl : (slots = [] ∧ ∀ e sz xs, x ≠ .c (.osl e sz xs)) ∨ ∃ e sz xs, j < N ∧ x = .c (.osl e sz xs) ∧ st.env j = x ∧ u = vals j ∧ slots = [(j, .c (C.osl e sz xs).copy)])
    {s : Sem Next} (hs : s = do Instr.storeAt t v u; pure .skip) :
    Does P s N st vals S loc ow w none { val := .undef, slots := slots, boxes := [(k, ((st.box k).1, some (spliceC cs off ys)))] } := by
  rw [hv.ptr hp] at hs
  obtain ⟨ty, vs, ho, hh, hS, hsz, hr⟩ := h.boxAt hk
  have hsize := (run_tyInfo ht w).2
  -- what is stored
  have hcells : u.cells.size = ys.length ∧ ∀ (m : Nat) (c : C), ys[m]? = some c → ∃ a, u.cells[m]? = some a ∧ RepC S loc st.box ow w (.slot j 0) c a := by
    cases x with
    | c c =>
      cases hys
      exact hu.cellsRep rfl
    | agg xs =>
      cases hys
      obtain ⟨h1, h2⟩ := hu.cellsRep (cs := xs) rfl
      refine ⟨by simp [h1], fun m c hc => ?_⟩
      rw [List.getElem?_map] at hc
      obtain ⟨c0, h0, rfl⟩ := Option.map_eq_some_iff.1 hc
      obtain ⟨a, ha, hra⟩ := h2 m c0 h0
      exact ⟨a, ha, hra.copy _⟩
    | tup xs => cases hys
  have hone : ∀ a ∈ u.cells.toList, a.oneCell' = true := by
    intro a ha
    obtain ⟨m, hm, rfl⟩ := List.getElem_of_mem ha
    have hm' : m < u.cells.size := by simpa using hm
    obtain ⟨a', ha', hra⟩ := hcells.2 m _ (List.getElem?_eq_getElem (by omega))
    rw [Array.getElem?_eq_getElem hm'] at ha'
    simp only [Option.some.injEq] at ha'
    simp only [Array.getElem_toList]
    rw [ha']
    exact hra.oneCell
  have hst := run_storeCells_at P (loc k) off ty u.cells.toList 0 vs w hh (by simp; omega) hone
  simp only [Nat.add_zero] at hst
  generalize hnewc : (vs.toList.take off ++ u.cells.toList ++ vs.toList.drop (off + u.cells.toList.length)).toArray = newc at hst
  have hrun : s.run P w = .ok .skip (w.setRow (loc k) newc) := by
    subst hs
    have : (Instr.storeAt t (.pointer (some ⟨loc k, off, none⟩)) u).run P w = .ok () (w.setRow (loc k) newc) := by
      simp only [Instr.storeAt, Instr.sureAddr, storeVar, Sem.run_bind, Sem.run_pure, Result.andThen_ok, hsize]
      rw [if_neg (by simp only [ne_eq, Decidable.not_not]; omega)]
      exact hst
    simp only [Sem.run_bind, this, Result.andThen_ok, Sem.run_pure]
  have hnew : (w.setRow (loc k) newc).heap[loc k]? = some (.cells newc ty (0, 0)) := setRow_heap w (loc k) vs newc ty (0, 0) hh
  have hgs : loc k < w.heap.size := (Array.getElem?_eq_some_iff.1 hh).1
  have hcell : ∀ b o, S b o → (w.setRow (loc k) newc).cell? ⟨b, o, none⟩ = w.cell? ⟨b, o, none⟩ := fun b o hs =>
    cell_setRow_other w (loc k) newc ⟨b, o, none⟩ (by rintro rfl; exact hS o hs)
  have hst' : ∀ b o, S b o → S b o ∧ (w.setRow (loc k) newc).cell? ⟨b, o, none⟩ = w.cell? ⟨b, o, none⟩ := fun b o hs => ⟨hs, hcell b o hs⟩
  have hnl : (spliceC cs off ys).length ≤ newc.size := by
    rw [← hnewc]
    simp only [List.size_toArray, List.length_append, List.length_take, List.length_drop, Array.length_toList (xs := vs), Array.length_toList (xs := u.cells), spliceC, hcells.1]
    omega
  -- the cells of the box behind the store
  have hget : ∀ (m : Nat) (c : C), (spliceC cs off ys)[m]? = some c → (∃ a, ys[m - off]? = some c ∧ off ≤ m ∧ m < off + n ∧ newc[m]? = some a ∧ RepC S loc st.box ow w (.slot j 0) c a) ∨
      (∃ a, newc[m]? = some a ∧ ¬ (off ≤ m ∧ m < off + n) ∧ RepC S loc st.box ow w (.bcell k m) c a) := by
    intro m c hc
    simp only [spliceC, List.append_assoc, List.getElem?_append, List.length_take, List.getElem?_take, List.getElem?_drop] at hc
    have e1 : min off cs.length = off := by omega
    rw [e1] at hc
    rw [← hnewc]
    simp only [List.getElem?_toArray, List.append_assoc, List.getElem?_append, List.length_take, List.getElem?_take, List.getElem?_drop, Array.length_toList (xs := vs), Array.length_toList (xs := u.cells)]
    have e2 : min off vs.size = off := by omega
    rw [e2, hcells.1]
    split at hc
    · rename_i hm
      right
      simp only [hm, if_true] at hc ⊢
      obtain ⟨a, ha, hra⟩ := hr m c hc
      exact ⟨a, by simpa using ha, by omega, hra⟩
    · rename_i hm
      rw [if_neg hm]
      split at hc
      · rename_i hm2
        left
        rw [if_pos hm2]
        obtain ⟨a, ha, hra⟩ := hcells.2 _ c hc
        exact ⟨a, hc, by omega, by omega, by simpa using ha, hra⟩
      · rename_i hm2
        right
        rw [if_neg hm2]
        have e3 : off + ys.length + (m - off - ys.length) = m := by omega
        rw [e3] at hc ⊢
        obtain ⟨a, ha, hra⟩ := hr m c hc
        exact ⟨a, by simpa using ha, by omega, hra⟩
  rcases hsl with ⟨rfl, hno⟩ | ⟨e, sz, xs, hj, hxe, hje, hue, rfl⟩
  · -- nothing goes over
    have hnoy : ∀ (m : Nat) (c : C), ys[m]? = some c → isOsl c = false := by
      intro m c hc
      cases x with
      | c c' =>
        cases hys
        cases m with
        | zero =>
          cases hc
          cases c with
          | osl e sz xs => exact absurd rfl (hno e sz xs)
          | _ => rfl
        | succ m => simp at hc
      | agg xs =>
        cases hys
        rw [List.getElem?_map] at hc
        obtain ⟨c0, h0, rfl⟩ := Option.map_eq_some_iff.1 hc
        exact isOsl_copy c0
      | tup xs => cases hys
    have hE : Ext (fun q => q = .box k ∨ ∃ m, q = .bcell k m ∧ off ≤ m ∧ m < off + n) S loc st.box ow w S loc (upd st.box k ((st.box k).1, some (spliceC cs off ys))) ow (w.setRow (loc k) newc) := by
      refine ⟨hst', fun b r hb hr' => ⟨hb, setRow_other w (loc k) b newc ?_, fun _ => Iff.rfl⟩, fun k' => by rw [upd_ver]; exact Nat.le_refl _, fun _ _ => rfl⟩
      rintro rfl
      rw [ho] at hb
      cases hb
      exact hr' (.inl rfl)
    refine ⟨undef, _, S, loc, ow, .inr ⟨hrun, rfl⟩, ⟨rfl, rfl, rfl, by simp, fun b hb hob => ⟨setRow_other w (loc k) b newc (by rintro rfl; rw [ho] at hob; cases hob), hob, fun _ => Iff.rfl⟩, hst'⟩, fun k' => ⟨Nat.le_of_eq (upd_ver k').symm, fun _ => rfl⟩, fun vals' hv' => ?_⟩
    refine h.step hE (fun b o hs => by rw [setRow_size]; exact h.sS b o hs) (fun b r hb => by rw [setRow_size]; exact h.so b r hb) (fun i' hi => .inl ⟨rfl, by rw [hv' i' hi, if_neg (by simp)], by simp⟩) (fun k' cs' hk' => ?_)
    simp only [VSt.app, updAll] at hk' ⊢
    by_cases hkk : k' = k
    · right
      subst hkk
      simp only [upd, if_true, Option.some.injEq] at hk'
      subst hk'
      refine ⟨ty, newc, ho, hnew, hS, hnl, fun m c hc => ?_⟩
      rcases hget m c hc with ⟨a, h1, h2, h3, h4, h5⟩ | ⟨a, h4, h3, h5⟩
      · exact ⟨a, h4, (RepC.ext hE (.inl (hnoy _ c h1)) h5).place (hnoy _ c h1)⟩
      · refine ⟨a, h4, RepC.ext hE (.inr ?_) h5⟩
        simp only [not_or, not_exists]
        exact ⟨by simp, fun m' e => h3 (by simp only [Pl.bcell.injEq, true_and] at e; obtain ⟨rfl, e2⟩ := e; exact e2)⟩
    · left
      simp only [upd] at hk' ⊢
      rw [if_neg hkk] at hk' ⊢
      refine ⟨rfl, ?_, fun m => ?_⟩
      · simp only [Pl.box.injEq, not_or, not_exists]
        exact ⟨hkk, by simp⟩
      · simp only [not_or, not_exists]
        exact ⟨by simp, fun m' e => by simp only [Pl.bcell.injEq] at e; exact hkk e.1.1⟩
  · -- an own slice goes over
    subst hxe
    cases hys
    have hn : n = 1 := by simpa using hyl.symm
    subst hn
    have hrj : RepC S loc st.box ow w (.slot j 0) (.osl e sz xs) u := hu.cinv
    have hE : Ext (fun q => q = .box k ∨ q = .bcell k off ∨ q = .slot j 0) S loc st.box ow w S loc (upd st.box k ((st.box k).1, some (spliceC cs off [.osl e sz xs]))) (mvOw ow (.slot j 0) (.bcell k off)) (w.setRow (loc k) newc) := by
      refine ⟨hst', fun b r hb hr' => ⟨?_, setRow_other w (loc k) b newc ?_, fun _ => Iff.rfl⟩, fun k' => by rw [upd_ver]; exact Nat.le_refl _, fun _ _ => rfl⟩
      · simp only [mvOw]
        rw [if_neg (by rw [hb]; intro e; cases e; exact hr' (.inr (.inr rfl)))]
        exact hb
      · rintro rfl
        rw [ho] at hb
        cases hb
        exact hr' (.inl rfl)
    have hneg : ∀ g, ow g = some (.slot j 0) → g ≠ loc k := by
      rintro g h1 rfl
      rw [ho] at h1
      cases h1
    refine ⟨undef, _, S, loc, mvOw ow (.slot j 0) (.bcell k off), .inr ⟨hrun, rfl⟩, ⟨rfl, rfl, rfl, by simp, fun b hb hob => ⟨setRow_other w (loc k) b newc (by rintro rfl; rw [ho] at hob; cases hob), by simp [mvOw, hob], fun _ => Iff.rfl⟩, hst'⟩, fun k' => ⟨Nat.le_of_eq (upd_ver k').symm, fun _ => rfl⟩, fun vals' hv' => ?_⟩
    refine h.step hE (fun b o hs => by rw [setRow_size]; exact h.sS b o hs) (fun b r hb => by rw [setRow_size]; exact mvOw_lt h.so b r hb) (fun i' hi => ?_) (fun k' cs' hk' => ?_)
    · by_cases hij : j = i'
      · right
        subst hij
        rw [hv' j hi, if_neg (by simp)]
        simp only [VSt.app, updDst, updAll, upd, if_true]
        rw [← hue]
        exact (RepD.mono hst' hrj.1 : RepD S (w.setRow (loc k) newc) (.sl xs) u)
      · left
        refine ⟨?_, by rw [hv' i' hi, if_neg (by simp)], fun m => ?_⟩
        · simp only [VSt.app, updDst, updAll, upd]
          rw [if_neg (fun e => hij e.symm)]
        · simp only [Pl.slot.injEq, not_or]
          exact ⟨by simp, by simp, fun e => hij e.1.symm⟩
    · simp only [VSt.app, updAll] at hk' ⊢
      by_cases hkk : k' = k
      · right
        subst hkk
        simp only [upd, if_true, Option.some.injEq] at hk'
        subst hk'
        refine ⟨ty, newc, by simp only [mvOw]; rw [if_neg (by rw [ho]; simp)]; exact ho, hnew, hS, hnl, fun m c hc => ?_⟩
        rcases hget m c hc with ⟨a, h1, h2, h3, h4, h5⟩ | ⟨a, h4, h3, h5⟩
        · have hm : m = off := by omega
          subst hm
          rw [Nat.sub_self] at h1
          cases h1
          refine ⟨a, h4, ?_⟩
          obtain ⟨q1, q2, q3⟩ := (show RepC S loc st.box ow w (.slot j 0) (.osl e sz xs) a from h5)
          refine ⟨RepD.mono hst' q1, q2, ?_⟩
          rcases q3 with q3 | ⟨g, c, cur, r1, r2, r3, r4, r5, r6, r7⟩
          · exact .inl q3
          · exact .inr ⟨g, c, cur, r1, by simp [mvOw, r2], by rw [setRow_other w (loc k') g newc (hneg g r2)]; exact r3, r4, r5, r6, r7⟩
        · refine ⟨a, h4, RepC.ext hE (.inr ?_) h5⟩
          simp only [Pl.bcell.injEq, not_or]
          exact ⟨by simp, fun e => h3 (by omega), by simp⟩
      · left
        simp only [upd] at hk' ⊢
        rw [if_neg hkk] at hk' ⊢
        refine ⟨rfl, ?_, fun m => ?_⟩
        · simp only [Pl.box.injEq, not_or]
          exact ⟨hkk, by simp, by simp⟩
        · simp only [Pl.bcell.injEq, not_or]
          exact ⟨by simp, fun e => hkk e.1, by simp⟩


/-- cells of a box are written over, by values that own nothing -/
theorem does_fill (h : HH S loc ow w N st.env vals st.box) {k off : Nat} {cs : List C} (hk : (st.box k).2 = some cs) {ys : List C} {us : List Value} (hlen : us.length = ys.length)
    (hys : ∀ (m : Nat) (c : C), ys[m]? = some c → isOsl c = false ∧ ∃ a, us[m]? = some a ∧ RepC S loc st.box ow w (.slot 0 0) c a) (hle : off + ys.length ≤ cs.length)
    {s : Sem Next} (hs : ∀ ty vs, w.heap[loc k]? = some (.cells vs ty (0, 0)) → cs.length ≤ vs.size → ∃ v, s.run P w = .ok (.value v) (w.setRow (loc k) (vs.toList.take off ++ us ++ vs.toList.drop (off + us.length)).toArray)) :
    Does P s N st vals S loc ow w none { val := .undef, boxes := [(k, ((st.box k).1, some (spliceC cs off ys)))] } := by
  obtain ⟨ty, vs, ho, hh, hS, hsz, hr⟩ := h.boxAt hk
  obtain ⟨v, hrun⟩ := hs ty vs hh hsz
  generalize hnewc : (vs.toList.take off ++ us ++ vs.toList.drop (off + us.length)).toArray = newc at hrun
  have hnew : (w.setRow (loc k) newc).heap[loc k]? = some (.cells newc ty (0, 0)) := setRow_heap w (loc k) vs newc ty (0, 0) hh
  have hcell : ∀ b o, S b o → (w.setRow (loc k) newc).cell? ⟨b, o, none⟩ = w.cell? ⟨b, o, none⟩ := fun b o hs =>
    cell_setRow_other w (loc k) newc ⟨b, o, none⟩ (by rintro rfl; exact hS o hs)
  have hst' : ∀ b o, S b o → S b o ∧ (w.setRow (loc k) newc).cell? ⟨b, o, none⟩ = w.cell? ⟨b, o, none⟩ := fun b o hs => ⟨hs, hcell b o hs⟩
  have hnl : (spliceC cs off ys).length ≤ newc.size := by
    rw [← hnewc]
    simp only [List.size_toArray, List.length_append, List.length_take, List.length_drop, Array.length_toList (xs := vs), spliceC, hlen]
    omega
  have hget : ∀ (m : Nat) (c : C), (spliceC cs off ys)[m]? = some c → (∃ a, ys[m - off]? = some c ∧ off ≤ m ∧ m < off + ys.length ∧ newc[m]? = some a ∧ isOsl c = false ∧ RepC S loc st.box ow w (.slot 0 0) c a) ∨
      (∃ a, newc[m]? = some a ∧ ¬ (off ≤ m ∧ m < off + ys.length) ∧ RepC S loc st.box ow w (.bcell k m) c a) := by
    intro m c hc
    simp only [spliceC, List.append_assoc, List.getElem?_append, List.length_take, List.getElem?_take, List.getElem?_drop] at hc
    have e1 : min off cs.length = off := by omega
    rw [e1] at hc
    rw [← hnewc]
    simp only [List.getElem?_toArray, List.append_assoc, List.getElem?_append, List.length_take, List.getElem?_take, List.getElem?_drop, Array.length_toList (xs := vs)]
    have e2 : min off vs.size = off := by omega
    rw [e2, hlen]
    split at hc
    · rename_i hm
      right
      simp only [hm, if_true] at hc ⊢
      obtain ⟨a, ha, hra⟩ := hr m c hc
      exact ⟨a, by simpa using ha, by omega, hra⟩
    · rename_i hm
      rw [if_neg hm]
      split at hc
      · rename_i hm2
        left
        rw [if_pos hm2]
        obtain ⟨hno, a, ha, hra⟩ := hys _ c hc
        exact ⟨a, hc, by omega, by omega, ha, hno, hra⟩
      · rename_i hm2
        right
        rw [if_neg hm2]
        have e3 : off + ys.length + (m - off - ys.length) = m := by omega
        rw [e3] at hc ⊢
        obtain ⟨a, ha, hra⟩ := hr m c hc
        exact ⟨a, by simpa using ha, by omega, hra⟩
  have hE : Ext (fun q => q = .box k ∨ ∃ m, q = .bcell k m ∧ off ≤ m ∧ m < off + ys.length) S loc st.box ow w S loc (upd st.box k ((st.box k).1, some (spliceC cs off ys))) ow (w.setRow (loc k) newc) := by
    refine ⟨hst', fun b r hb hr' => ⟨hb, setRow_other w (loc k) b newc ?_, fun _ => Iff.rfl⟩, fun k' => by rw [upd_ver]; exact Nat.le_refl _, fun _ _ => rfl⟩
    rintro rfl
    rw [ho] at hb
    cases hb
    exact hr' (.inl rfl)
  refine ⟨v, _, S, loc, ow, .inl hrun, ⟨rfl, rfl, rfl, by simp, fun b hb hob => ⟨setRow_other w (loc k) b newc (by rintro rfl; rw [ho] at hob; cases hob), hob, fun _ => Iff.rfl⟩, hst'⟩, fun k' => ⟨Nat.le_of_eq (upd_ver k').symm, fun _ => rfl⟩, fun vals' hv' => ?_⟩
  refine h.step hE (fun b o hs => by rw [setRow_size]; exact h.sS b o hs) (fun b r hb => by rw [setRow_size]; exact h.so b r hb) (fun i' hi => .inl ⟨rfl, by rw [hv' i' hi, if_neg (by simp)], by simp⟩) (fun k' cs' hk' => ?_)
  simp only [VSt.app, updAll] at hk' ⊢
  by_cases hkk : k' = k
  · right
    subst hkk
    simp only [upd, if_true, Option.some.injEq] at hk'
    subst hk'
    refine ⟨ty, newc, ho, hnew, hS, hnl, fun m c hc => ?_⟩
    rcases hget m c hc with ⟨a, h1, h2, h3, h4, hno, h5⟩ | ⟨a, h4, h3, h5⟩
    · exact ⟨a, h4, (RepC.ext hE (.inl hno) h5).place hno⟩
    · refine ⟨a, h4, RepC.ext hE (.inr ?_) h5⟩
      simp only [not_or, not_exists]
      exact ⟨by simp, fun m' e => h3 (by simp only [Pl.bcell.injEq, true_and] at e; obtain ⟨rfl, e2⟩ := e; exact e2)⟩
  · left
    simp only [upd] at hk' ⊢
    rw [if_neg hkk] at hk' ⊢
    refine ⟨rfl, ?_, fun m => ?_⟩
    · simp only [Pl.box.injEq, not_or, not_exists]
      exact ⟨hkk, by simp⟩
    · simp only [not_or, not_exists]
      exact ⟨by simp, fun m' e => by simp only [Pl.bcell.injEq] at e; exact hkk e.1.1⟩

end
end Go.V

