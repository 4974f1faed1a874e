/- The value machine, part 11: append, slices written out, stores. -/
import Derived.Test.YtglmbheeplndpaaV10
set_option linter.all false
set_option linter.unusedSimpArgs false
set_option linter.unusedVariables false
namespace Go.V
open Go

section
variable {P : Program} {S : Stab} {loc : Nat → Nat} {ow : Nat → Option Pl} {w : World} {N : Nat} {st : VSt} {vals : Nat → Value}

/-- What is left in a slot whose own slice is used up: a copy. -/
theorem RepC.left {X : Pl → Prop} {S' : Stab} {loc' : Nat → Nat} {box box' : Tab} {ow' : Nat → Option Pl} {w' : World} (E : Ext X S loc box ow w S' loc' box' ow' w') {p q : Pl} {c : C} {v : Value} (h : RepC S loc box ow w p c v) : RepC S' loc' box' ow' w' q c.copy v :=
  (RepC.ext E (.inl (isOsl_copy c)) (h.copy p)).place (isOsl_copy c)

/-- A step that puts an own slice into slot d; the slot n, if there is one, keeps a copy. -/
theorem does_own (h : HH S loc ow w N st.env vals st.box) {d : Nat} {e sz : Nat} {zs : List (List D)} {v' : Value} {w' : World} {S' : Stab} {ow' : Nat → Option Pl} {sem : Sem Next} (hrun : sem.run P w = .ok (.value v') w')
    (hO : Own S' ow' w' (.slot d 0) e sz zs.length v') (hR : RepD S' w' (.sl zs) v') (hz : ∀ x ∈ zs, x.length = sz) (hK : Kept w S ow w' S' ow') {p : Pl} (hE : Ext (fun r => r = p ∨ r = .slot d 0) S loc st.box ow w S' loc st.box ow' w')
    (hS : ∀ b o, S' b o → b < w'.heap.size) (hso : ∀ b r, ow' b = some r → b < w'.heap.size) {slots : List (Nat × SV)}
    (hp : (slots = [] ∧ p = .slot d 0) ∨ ∃ n c, slots = [(n, .c (C.copy c))] ∧ p = .slot n 0 ∧ n < N ∧ st.env n = .c c) :
    Does P sem N st vals S loc ow w (some d) { val := .c (.osl e sz zs), slots := slots } := by
  refine ⟨v', w', S', loc, ow', .inl hrun, hK, fun _ => ⟨Nat.le_refl _, fun _ => rfl⟩, fun vals' hv => ?_⟩
  have hE' : Ext (fun r => r = p ∨ ∃ j, r = .slot d j) S loc st.box ow w S' loc st.box ow' w' := ⟨hE.st, fun b r hb hr => hE.own b r hb (fun e => hr (e.elim .inl (fun e => .inr ⟨0, e⟩))), hE.ver, hE.loc⟩
  have hbp : ∀ k, p ≠ .box k := by rcases hp with ⟨_, rfl⟩ | ⟨n, c, _, rfl, _⟩ <;> intro k e <;> cases e
  have hcp : ∀ k j, p ≠ .bcell k j := by rcases hp with ⟨_, rfl⟩ | ⟨n, c, _, rfl, _⟩ <;> intro k j e <;> cases e
  refine h.step hE' hS hso (fun i hi => ?_) (fun k cs _ => .inl ⟨rfl, by simp only [not_or, not_exists]; exact ⟨fun e => hbp k e.symm, by simp⟩, fun j => by simp only [not_or, not_exists]; exact ⟨fun e => hcp k j e.symm, by simp⟩⟩)
  by_cases hd : d = i
  · right
    subst hd
    rw [hv d hi]
    simp only [VSt.app, updDst, upd, if_true]
    exact (⟨hR, hz, hO⟩ : RepC S' loc st.box ow' w' (.slot d 0) (.osl e sz zs) v')
  · rcases hp with ⟨rfl, rfl⟩ | ⟨n, c, rfl, rfl, hn, hc⟩
    · left
      refine ⟨?_, by rw [hv i hi, if_neg (by simpa using hd)], fun j => ?_⟩
      · simp only [VSt.app, updDst, updAll, upd]
        rw [if_neg (fun e => hd e.symm)]
      · simp only [Pl.slot.injEq, not_or, not_exists]
        exact ⟨fun e => hd e.1.symm, fun _ e => hd e.1.symm⟩
    · by_cases hni : n = i
      · right
        subst hni
        rw [hv n hi, if_neg (by simpa using hd)]
        simp only [VSt.app, updDst, updAll, upd, if_true]
        rw [if_neg (fun e => hd e.symm)]
        have hr : RepC S loc st.box ow w (.slot n 0) c (vals n) := by
          have := h.env n hn
          rw [hc] at this
          exact this.cinv
        exact (RepC.left (q := .slot n 0) hE' hr)
      · left
        refine ⟨?_, by rw [hv i hi, if_neg (by simpa using hd)], fun j => ?_⟩
        · simp only [VSt.app, updDst, updAll, upd]
          rw [if_neg (fun e => hd e.symm), if_neg (fun e => hni e.symm)]
        · simp only [Pl.slot.injEq, not_or, not_exists]
          exact ⟨fun e => hni e.1.symm, fun _ e => hd e.1.symm⟩

theorem does_append (h : HH S loc ow w N st.env vals st.box) {t t2 ty e sz bytes : Nat} {z : Value} (ht : P.underlying t = some (.slice e)) (hi : elemInfo P e = some (sz, bytes, z)) (hzs : z.cells.size = sz) (hby : 0 < bytes)
    {d dy : Nat} {x : VX} {y : SV} {v u : Value} (hxn : ∀ n, x = .slot n → n < N ∧ v = vals n) {dx : Nat} (hv : RepV S loc st.box ow w dx (x.get st.env) v) (hu : RepV S loc st.box ow w dy y u) {out : Out}
    (str : Bool) (ho : vexec (.append str e sz bytes x (.lit y)) st = some out) {yt : TypeDesc} (hyt : P.underlying t2 = some yt) (hy : yt = if str then .string else .slice e) {sem : Sem Next}
    (hs : sem = do pure (.value (← Builtin.append_ #[t, t2] ty #[v, u]))) : Does P sem N st vals S loc ow w (some d) out := by
  subst hs
  have src : ∀ ys, y.news str = some ys → (∀ y ∈ ys, y.length = sz) → ∃ nv, SrcRep P S w e sz t2 u ys nv := by
    intro ys hn hsz
    cases str with
    | false =>
      subst hy
      exact src_slice hu hn hsz hyt
    | true =>
      subst hy
      simp only [SV.news, SV.strNews] at hn
      split at hn
      · cases hn
        exact src_string hu hsz hyt
      · cases hn
  simp only [vexec] at ho
  have hyl : VX.get st.env (.lit y) = y := rfl
  rw [hyl] at ho
  split at ho
  · rename_i ys hx hn
    split at ho
    · rename_i hc
      cases ho
      obtain ⟨nv, hsrc⟩ := src ys hn hc.1
      rw [hx] at hv
      have hvn : v = .slice none 0 0 := hv.cinv
      obtain ⟨v', w', S', ow', r1, r2, r3, r4, r5, r6, r7⟩ := append_core (loc := loc) (p := .slot d 0) (q := .slot d 0) h.sS h.so ht hi hzs hby (xs := []) (ys := ys) (ty := ty) (v := v) (u := u) (.inl ⟨⟨none, hvn⟩, rfl⟩) (by rw [hvn]; exact RepD.nil none 0) (by simp) hsrc hc.1 (by simpa using hc.2) st.box
      refine does_own h (by simp only [Sem.run_bind, r1, Result.andThen_ok]; rfl) (by simpa using r2) (by simpa using r3) hc.1 r4 (p := .slot d 0) r5 r6 r7 (.inl ⟨rfl, rfl⟩)
    · cases ho
  · rename_i e' sz' xs ys hx hn
    split at ho
    · rename_i n
      split at ho
      · rename_i hc
        obtain ⟨rfl, rfl, hc1, hc2⟩ := hc
        cases ho
        obtain ⟨nv, hsrc⟩ := src ys hn hc1
        obtain ⟨hn1, rfl⟩ := hxn n rfl
        have hx' : st.env n = .c (.osl e' sz' xs) := hx
        have hr : RepC S loc st.box ow w (.slot n 0) (.osl e' sz' xs) (vals n) := by
          have := h.env n hn1
          rw [hx'] at this
          exact this.cinv
        obtain ⟨q1, q2, q3⟩ := hr
        obtain ⟨v', w', S', ow', r1, r2, r3, r4, r5, r6, r7⟩ := append_core (loc := loc) (p := .slot n 0) (q := .slot d 0) h.sS h.so ht hi hzs hby (ty := ty) q3 q1 q2 hsrc hc1 hc2 st.box
        refine does_own h (by simp only [Sem.run_bind, r1, Result.andThen_ok]; rfl) r2 r3 (fun x hx => ?_) r4 (p := .slot n 0) r5 r6 r7 (.inr ⟨n, _, rfl, rfl, hn1, hx'⟩)
        rcases List.mem_append.1 hx with h | h
        · exact q2 x h
        · exact hc1 x h
      · cases ho
    · cases ho
  · cases ho

end
end Go.V

