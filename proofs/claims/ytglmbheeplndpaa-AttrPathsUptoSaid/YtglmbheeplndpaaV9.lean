/- The value machine, part 9: own slices go over; boxes are made, read and written. -/
import Derived.Test.YtglmbheeplndpaaV8
set_option linter.all false
set_option linter.unusedSimpArgs false
set_option linter.unusedVariables false
namespace Go.V
open Go

section
variable {P : Program} {S : Stab} {loc : Nat → Nat} {ow : Nat → Option Pl} {w : World} {N : Nat} {st : VSt} {vals : Nat → Value}

theorem RepV.of1 {i j : Nat} {x : SV} {v : Value} (h : RepV1 S loc st.box ow w i j x v) (ho : ∀ e sz xs, x ≠ .c (.osl e sz xs)) (d : Nat) : RepV S loc st.box ow w d x v := by
  cases x with
  | c c =>
    refine RepC.place (p := .slot i j) ?_ h
    cases c with
    | osl e sz xs => exact absurd rfl (ho e sz xs)
    | _ => rfl
  | agg xs =>
    obtain ⟨vs, rfl, hs, hm⟩ := h
    exact ⟨vs, rfl, hs, fun m c hc => by
      obtain ⟨h1, u, hu, hr⟩ := hm m c hc
      exact ⟨h1, u, hu, hr.place h1⟩⟩
  | tup xs =>
    obtain ⟨rfl, rfl⟩ := h
    exact ⟨#[], rfl, rfl, fun m x hx => by simp at hx⟩

/-- an own slice goes from slot to slot (a copy is left) -/
theorem does_take (h : HH S loc ow w N st.env vals st.box) {n d : Nat} {e sz : Nat} {xs : List (List D)} (hn : n < N) (hx : st.env n = .c (.osl e sz xs)) {sem : Sem Next} (hs : sem.run P w = .ok (.value (vals n)) w) :
    Does P sem N st vals S loc ow w (some d) { val := .c (.osl e sz xs), slots := [(n, .c (C.osl e sz xs).copy)] } := by
  refine ⟨vals n, w, S, loc, mvOw ow (.slot n 0) (.slot d 0), .inl hs, Kept.mv, fun _ => ⟨Nat.le_refl _, fun _ => rfl⟩, fun vals' hv => ?_⟩
  have hr : RepC S loc st.box ow w (.slot n 0) (.osl e sz xs) (vals n) := by
    have := h.env n hn
    rw [hx] at this
    exact this.cinv
  refine h.step (X := fun p => p = .slot n 0 ∨ ∃ j, p = .slot d j) (Ext.mv _ _ (.inl rfl)) h.sS (mvOw_lt h.so) (fun i hi => ?_) (fun k cs _ => .inl ⟨rfl, by simp, by simp⟩)
  by_cases hd : d = i
  · right
    subst hd
    rw [hv d hi]
    simp only [VSt.app, updDst, upd, if_true]
    exact RepC.mv hr
  · by_cases hni : n = i
    · right
      subst hni
      rw [hv n hi, if_neg (by simpa using hd)]
      simp only [VSt.app, updDst, updAll, upd, if_true]
      rw [if_neg (fun e => hd e.symm)]
      exact RepD.mono (S := S) (w := w) (fun _ _ hs => ⟨hs, rfl⟩) hr.1
    · left
      refine ⟨?_, by rw [hv i hi, if_neg (by simpa using hd)], fun j => ?_⟩
      · simp only [VSt.app, updDst, updAll, upd]
        rw [if_neg (fun e => hd e.symm), if_neg (fun e => hni e.symm)]
      · simp only [Pl.slot.injEq, not_or, not_exists]
        exact ⟨fun e => hni e.1.symm, fun _ e => hd e.1.symm⟩

/-- and out of a tuple -/
theorem does_takeTup (h : HH S loc ow w N st.env vals st.box) {n d m : Nat} {e sz : Nat} {ts : List SV} {xs : List (List D)} (hn : n < N) (hx : st.env n = .tup ts) (hm : ts[m]? = some (.c (.osl e sz xs))) {sem : Sem Next}
    (hs : ∀ vs u, vals n = .tuple vs → vs[m]? = some u → sem.run P w = .ok (.value u) w) :
    Does P sem N st vals S loc ow w (some d) { val := .c (.osl e sz xs), slots := [(n, .tup (ts.set m (.c (C.osl e sz xs).copy)))] } := by
  have henv := h.env n hn
  rw [hx] at henv
  obtain ⟨vs, hvs, hsz, hall⟩ := (show ∃ vs : Array Value, vals n = .tuple vs ∧ vs.size = ts.length ∧ ∀ (m : Nat) (x : SV), ts[m]? = some x → ∃ u, vs[m]? = some u ∧ RepV1 S loc st.box ow w n m x u from henv)
  obtain ⟨u, hu, hr⟩ := hall m _ hm
  have hr' : RepC S loc st.box ow w (.slot n m) (.osl e sz xs) u := hr
  have hE : Ext (fun p => p = .slot n m ∨ ∃ j, p = .slot d j) S loc st.box ow w S loc st.box (mvOw ow (.slot n m) (.slot d 0)) w := Ext.mv _ _ (.inl rfl)
  refine ⟨u, w, S, loc, mvOw ow (.slot n m) (.slot d 0), .inl (hs vs u hvs hu), Kept.mv, fun _ => ⟨Nat.le_refl _, fun _ => rfl⟩, fun vals' hv => ?_⟩
  refine h.step (X := fun p => p = .slot n m ∨ ∃ j, p = .slot d j) hE h.sS (mvOw_lt h.so) (fun i hi => ?_) (fun k cs _ => .inl ⟨rfl, by simp, by simp⟩)
  by_cases hd : d = i
  · right
    subst hd
    rw [hv d hi]
    simp only [VSt.app, updDst, upd, if_true]
    exact RepC.mv hr'
  · by_cases hni : n = i
    · right
      subst hni
      rw [hv n hi, if_neg (by simpa using hd)]
      simp only [VSt.app, updDst, updAll, upd, if_true]
      rw [if_neg (fun e => hd e.symm)]
      refine ⟨vs, hvs, by simp [hsz], fun m' x hx' => ?_⟩
      rw [List.getElem?_set] at hx'
      split at hx'
      · rename_i hmm
        subst hmm
        split at hx'
        · cases hx'
          exact ⟨u, hu, RepD.mono (S := S) (w := w) (fun _ _ hs => ⟨hs, rfl⟩) hr'.1⟩
        · cases hx'
      · rename_i hmm
        obtain ⟨u', hu', hr2⟩ := hall m' x hx'
        exact ⟨u', hu', RepV1.ext hE (by
          simp only [Pl.slot.injEq, true_and, not_or, not_exists]
          exact ⟨fun e => hmm e.symm, fun _ e => hd e.1.symm⟩) hr2⟩
    · left
      refine ⟨?_, by rw [hv i hi, if_neg (by simpa using hd)], fun j => ?_⟩
      · simp only [VSt.app, updDst, updAll, upd]
        rw [if_neg (fun e => hd e.symm), if_neg (fun e => hni e.symm)]
      · simp only [Pl.slot.injEq, not_or, not_exists]
        exact ⟨fun e => hni e.1.symm, fun _ e => hd e.1.symm⟩

/-- What a box's key owned is let go. -/
def dropBox (ow : Nat → Option Pl) (key : Nat) : Nat → Option Pl := fun b =>
  match ow b with
  | some (.box k) => if k = key then none else some (.box k)
  | some (.bcell k j) => if k = key then none else some (.bcell k j)
  | x => x

theorem dropBox_some {key b : Nat} {p : Pl} (h : dropBox ow key b = some p) : ow b = some p := by
  unfold dropBox at h
  split at h
  · split at h
    · cases h
    · rw [← h]; assumption
  · split at h
    · cases h
    · rw [← h]; assumption
  · exact h

theorem dropBox_keep {key b : Nat} {p : Pl} (h : ow b = some p) (h1 : p ≠ .box key) (h2 : ∀ j, p ≠ .bcell key j) : dropBox ow key b = some p := by
  unfold dropBox
  rw [h]
  cases p with
  | slot i j => rfl
  | box k => simp only; rw [if_neg (fun e => h1 (by rw [e]))]
  | bcell k j => simp only; rw [if_neg (fun e => h2 j (by rw [e]))]

/-- a new box -/
theorem does_new (h : HH S loc ow w N st.env vals st.box) {key d : Nat} {elem : TypeId} {cells : Array Value} {cs : List C} (hl : ListRep S loc st.box ow w cs cells) {sem : Sem Next}
    (hs : sem.run P w = .ok (.value (.pointer (some ⟨w.heap.size, 0, none⟩))) (w.alloc (.cells cells elem))) :
    Does P sem N st vals S loc ow w (some d) { val := .c (.ptr key ((st.box key).1 + 1) 0), boxes := [(key, ((st.box key).1 + 1, some cs))] } := by
  refine ⟨.pointer (some ⟨w.heap.size, 0, none⟩), w.alloc (.cells cells elem), S, upd loc key w.heap.size, upd (dropBox ow key) w.heap.size (some (.box key)), .inl hs, ?_, fun k => ?_, fun vals' hv => ?_⟩
  · refine ⟨rfl, rfl, rfl, by simp, fun b hb ho => ⟨Go.heap_alloc_old w _ hb, ?_, fun _ => Iff.rfl⟩, fun b o hs => ⟨hs, ?_⟩⟩
    · simp only [upd]
      rw [if_neg (by omega)]
      simp [dropBox, ho]
    · exact World.cell?_alloc_lt _ _ _ (by have := h.sS b o hs; simpa using this)
  · simp only [VSt.app, updAll, upd]
    split
    · rename_i e; subst e; simp
    · simp
  · have hE : Ext (fun p => p = .box key ∨ (∃ j, p = .bcell key j) ∨ ∃ j, p = .slot d j) S loc st.box ow w S (upd loc key w.heap.size) (upd st.box key ((st.box key).1 + 1, some cs)) (upd (dropBox ow key) w.heap.size (some (.box key))) (w.alloc (.cells cells elem)) := by
      refine ⟨fun b o hs => ⟨hs, World.cell?_alloc_lt _ _ _ (by have := h.sS b o hs; simpa using this)⟩, fun b p hb hp => ?_, fun k => ?_, fun k hk => ?_⟩
      · have hlt := h.so b p hb
        simp only [not_or, not_exists] at hp
        refine ⟨?_, Go.heap_alloc_old w _ hlt, fun _ => Iff.rfl⟩
        simp only [upd]
        rw [if_neg (by omega)]
        exact dropBox_keep hb hp.1 hp.2.1
      · simp only [upd]
        split
        · rename_i e; subst e; simp
        · exact Nat.le_refl _
      · simp only [upd] at hk ⊢
        split
        · rename_i e; subst e; simp at hk
        · rfl
    refine h.step hE (fun b o hs => by have := h.sS b o hs; simp; omega) (fun b p hb => ?_) (fun i hi => ?_) (fun k cs' hk => ?_)
    · simp only [upd] at hb
      split at hb
      · rename_i e; subst e; simp
      · have := h.so b p (dropBox_some hb); simp; omega
    · by_cases hd : d = i
      · right
        subst hd
        rw [hv d hi]
        simp only [VSt.app, updDst, updAll, upd, if_true]
        refine ⟨_, rfl, ?_, fun _ => ?_⟩
        · simp [upd]
        · simp [upd]
      · left
        refine ⟨?_, by rw [hv i hi, if_neg (by simpa using hd)], fun j => ?_⟩
        · simp only [VSt.app, updDst, updAll, upd]
          rw [if_neg (fun e => hd e.symm)]
        · simp only [not_or, not_exists]
          exact ⟨by simp, by simp, fun _ e => by simp only [Pl.slot.injEq] at e; exact hd e.1.symm⟩
    · simp only [VSt.app, updAll, upd] at hk ⊢
      by_cases hkk : k = key
      · right
        subst hkk
        simp only [if_true, Option.some.injEq] at hk
        subst hk
        refine ⟨elem, cells, by simp [upd], by simp only [upd, if_true]; exact heap_alloc_new w _, fun o hso => ?_, Nat.le_of_eq hl.1.symm, fun j c hc => ?_⟩
        · simp only [upd, if_true] at hso
          have := h.sS _ _ hso
          omega
        · obtain ⟨ho, u, hu, hr⟩ := hl.2 j c hc
          exact ⟨u, hu, (RepC.ext hE (.inl ho) hr).place ho⟩
      · left
        rw [if_neg hkk] at hk ⊢
        refine ⟨rfl, ?_, fun j => ?_⟩
        · simp only [Pl.box.injEq, not_or, not_exists]
          exact ⟨hkk, by simp, by simp⟩
        · simp only [Pl.bcell.injEq, not_or, not_exists]
          exact ⟨by simp, fun _ e => hkk e.1, by simp⟩

/-- a read out of a box by which an own slice goes over into the slot -/
theorem does_loadTake (h : HH S loc ow w N st.env vals st.box) {i d : Nat} {p : SV} {v : Value} (hv : RepV S loc st.box ow w i p v) {k off : Nat} (hp : place st.box p = some (.box k off)) {cs : List C} (hk : (st.box k).2 = some cs) {t : TypeId}
    (ht : tyInfo P t = some (false, 1)) {x : C} (hx : cs[off]? = some x) {s : Sem Next} (hs : s = do pure (.value (← Instr.loadAt t v))) :
    Does P s N st vals S loc ow w (some d) { val := .c x, boxes := [(k, ((st.box k).1, some (cs.set off x.copy)))] } := by
  rw [hv.ptr hp] at hs
  obtain ⟨ty, vs, ho, hh, hS, hsz, hr⟩ := h.boxAt hk
  obtain ⟨u, hu, hru⟩ := hr off x hx
  have hrun : s.run P w = .ok (.value u) w := by
    subst hs
    have := run_loadVar (P := P) (w := w) (g := loc k) (o := off) ht (fun _ => rfl) [u] rfl (fun j u' hj => by
      cases j with
      | zero =>
        simp only [List.getElem?_cons_zero, Option.some.injEq] at hj
        subst hj
        rw [cell_of_row w (loc k) (off + 0) vs ty (0, 0) hh]
        exact hu
      | succ j => simp at hj)
    simp only [Instr.loadAt, Instr.sureAddr, Sem.run_bind, Sem.run_pure, Result.andThen_ok, this, Bool.false_eq_true, if_false, List.headD_cons]
  have hboxver : ∀ k', (upd st.box k ((st.box k).1, some (cs.set off x.copy)) k').1 = (st.box k').1 := by
    intro k'
    simp only [upd]
    split
    · rename_i e; subst e; rfl
    · rfl
  have hE : Ext (fun q => q = .bcell k off ∨ ∃ j, q = .slot d j) S loc st.box ow w S loc (upd st.box k ((st.box k).1, some (cs.set off x.copy))) (mvOw ow (.bcell k off) (.slot d 0)) w := by
    refine ⟨fun _ _ h => ⟨h, rfl⟩, fun b r hb hr => ?_, fun k' => by rw [hboxver k']; exact Nat.le_refl _, fun _ _ => rfl⟩
    simp only [not_or, not_exists] at hr
    refine ⟨?_, rfl, fun _ => Iff.rfl⟩
    simp only [mvOw]
    rw [if_neg (by rw [hb]; intro e; cases e; exact hr.1 rfl)]
    exact hb
  refine ⟨u, w, S, loc, mvOw ow (.bcell k off) (.slot d 0), .inl hrun, Kept.mv, fun k' => ⟨Nat.le_of_eq (hboxver k').symm, fun _ => rfl⟩, fun vals' hv' => ?_⟩
  refine h.step hE h.sS (mvOw_lt h.so) (fun i' hi => ?_) (fun k' cs' hk' => ?_)
  · by_cases hd : d = i'
    · right
      subst hd
      rw [hv' d hi]
      simp only [VSt.app, updDst, updAll, upd, if_true]
      have := RepC.mv (q := .slot d 0) hru
      cases x with
      | ptr k' ver off' =>
        obtain ⟨a0, r1, r2, r3⟩ := hru
        exact ⟨a0, r1, (hboxver k').symm ▸ r2, fun e => r3 ((hboxver k').symm.trans e)⟩
      | msl k' ver off' len' =>
        obtain ⟨a0, c0, r1, r2, r3, r4, r5⟩ := hru
        exact ⟨a0, c0, r1, r2, r3, (hboxver k').symm ▸ r4, fun h0 => by
          obtain ⟨b, hb, hb2⟩ := r5 h0
          exact ⟨b, hb, fun e => hb2 ((hboxver k').symm.trans e)⟩⟩
      | fn f caps => exact RepC.ext (p := .slot d 0) (X := fun q => q = .bcell k off ∨ ∃ j, q = .slot d j) hE (.inl rfl) (RepC.place (q := .slot d 0) rfl hru)
      | _ => exact this
    · left
      refine ⟨?_, by rw [hv' i' hi, if_neg (by simpa using hd)], fun j => ?_⟩
      · simp only [VSt.app, updDst, updAll, upd]
        rw [if_neg (fun e => hd e.symm)]
      · simp only [not_or, not_exists]
        exact ⟨by simp, fun _ e => by simp only [Pl.slot.injEq] at e; exact hd e.1.symm⟩
  · simp only [VSt.app, updAll] at hk' ⊢
    by_cases hkk : k' = k
    · right
      subst hkk
      simp only [upd, if_true, Option.some.injEq] at hk'
      subst hk'
      obtain ⟨c1, c2, c3⟩ := hE.own _ _ ho (by simp)
      refine ⟨ty, vs, c1, hh, hS, by simp [hsz], fun j c hc => ?_⟩
      rw [List.getElem?_set] at hc
      split at hc
      · rename_i hj
        subst hj
        split at hc
        · cases hc
          refine ⟨u, hu, RepC.ext (p := .bcell k' off) hE (.inl (isOsl_copy x)) (RepC.copy _ hru)⟩
        · cases hc
      · rename_i hj
        obtain ⟨u', hu', hr'⟩ := hr j c hc
        exact ⟨u', hu', RepC.ext hE (.inr (by simp only [Pl.bcell.injEq, true_and, not_or, not_exists]; exact ⟨fun e => hj e.symm, by simp⟩)) hr'⟩
    · left
      simp only [upd] at hk' ⊢
      rw [if_neg hkk] at hk' ⊢
      exact ⟨rfl, by simp, fun j => by simp only [Pl.bcell.injEq, not_or, not_exists]; exact ⟨fun e => hkk e.1, by simp⟩⟩

end
end Go.V

