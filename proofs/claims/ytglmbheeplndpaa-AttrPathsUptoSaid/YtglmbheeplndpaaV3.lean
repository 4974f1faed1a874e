/- The value machine, part 3: one step of the memory, seen from above. -/
import Derived.Test.YtglmbheeplndpaaV2
set_option linter.all false
set_option linter.unusedSimpArgs false
set_option linter.unusedVariables false
namespace Go.V
open Go

section
variable {X : Pl → Prop} {S S' : Stab} {loc loc' : Nat → Nat} {box box' : Tab} {ow ow' : Nat → Option Pl} {w w' : World} {N : Nat} {env env' : Nat → SV} {vals vals' : Nat → Value}

/-- What a box must be. -/
def BoxAt (S : Stab) (loc : Nat → Nat) (box : Tab) (ow : Nat → Option Pl) (w : World) (k : Nat) (cs : List C) : Prop :=
  ∃ t vs, ow (loc k) = some (.box k) ∧ w.heap[loc k]? = some (.cells vs t (0, 0)) ∧ (∀ o, ¬ S (loc k) o) ∧ cs.length ≤ vs.size ∧
    ∀ (j : Nat) (c : C), cs[j]? = some c → ∃ u, vs[j]? = some u ∧ RepC S loc box ow w (.bcell k j) c u

theorem HH.step (h : HH S loc ow w N env vals box) (E : Ext X S loc box ow w S' loc' box' ow' w')
    (hs : ∀ b o, S' b o → b < w'.heap.size) (ho : ∀ b p, ow' b = some p → b < w'.heap.size)
    (henv : ∀ i, i < N → (env' i = env i ∧ vals' i = vals i ∧ ∀ j, ¬ X (.slot i j)) ∨ RepV S' loc' box' ow' w' i (env' i) (vals' i))
    (hbx : ∀ k cs, (box' k).2 = some cs → (box' k = box k ∧ ¬ X (.box k) ∧ ∀ j, ¬ X (.bcell k j)) ∨ BoxAt S' loc' box' ow' w' k cs) :
    HH S' loc' ow' w' N env' vals' box' where
  sS := hs
  so := ho
  env i hi := by
    rcases henv i hi with ⟨h1, h2, h3⟩ | h1
    · rw [h1, h2]
      exact RepV.ext E h3 (h.env i hi)
    · exact h1
  bx k cs hk := by
    rcases hbx k cs hk with ⟨h1, h2, h3⟩ | h1
    · rw [h1] at hk
      obtain ⟨t, vs, b1, b2, b3, b4, b5⟩ := h.bx k cs hk
      have hl : loc' k = loc k := E.loc k (by rw [h1])
      obtain ⟨c1, c2, c3⟩ := E.own _ _ b1 h2
      rw [hl]
      refine ⟨t, vs, c1, c2.trans b2, fun o => fun hc => b3 o ((c3 o).1 hc), b4, fun j c hc => ?_⟩
      obtain ⟨u, hu, hr⟩ := b5 j c hc
      exact ⟨u, hu, RepC.ext E (.inr (h3 j)) hr⟩
    · exact h1

theorem HH.boxAt (h : HH S loc ow w N env vals box) {k : Nat} {cs : List C} (hk : (box k).2 = some cs) : BoxAt S loc box ow w k cs := h.bx k cs hk

theorem Ext.same (X : Pl → Prop) (S : Stab) (loc : Nat → Nat) (box : Tab) (ow : Nat → Option Pl) (w : World) : Ext X S loc box ow w S loc box ow w :=
  ⟨fun _ _ h => ⟨h, rfl⟩, fun _ _ h _ => ⟨h, rfl, fun _ => Iff.rfl⟩, fun _ => Nat.le_refl _, fun _ _ => rfl⟩

/-- A draw turns nothing. -/
theorem Ext.drewN (h : Ext X S loc box ow w S' loc' box' ow' w') : Ext X S loc box ow w S' loc' box' ow' w'.drew :=
  ⟨h.st, h.own, h.ver, h.loc⟩

theorem RepD.drew {x : D} {v : Value} (h : RepD S w x v) : RepD S w.drew x v := RepD.mono (w := w) (w' := w.drew) (S := S) (S' := S) (fun _ _ hs => ⟨hs, rfl⟩) h

theorem HH.drew (h : HH S loc ow w N env vals box) : HH S loc ow w.drew N env vals box :=
  h.step (X := fun _ => False) ⟨fun _ _ hs => ⟨hs, rfl⟩, fun _ _ h _ => ⟨h, rfl, fun _ => Iff.rfl⟩, fun _ => Nat.le_refl _, fun _ _ => rfl⟩ h.sS h.so
    (fun _ _ => .inl ⟨rfl, rfl, fun _ hx => hx⟩) (fun _ _ _ => .inl ⟨rfl, fun hx => hx, fun _ hx => hx⟩)

theorem Kept.drew (w : World) (S : Stab) (ow : Nat → Option Pl) : Kept w S ow w.drew S ow := ⟨rfl, rfl, rfl, Nat.le_refl _, fun _ _ h => ⟨rfl, h, fun _ => Iff.rfl⟩, fun _ _ h => ⟨h, rfl⟩⟩

/-- (A) A value that owns nothing goes into a slot; the memory is as it was. -/
theorem HH.put (h : HH S loc ow w N env vals box) (dst : Option Nat) (x : SV) (v : Value) (hr : ∀ d, dst = some d → RepV S loc box ow w d x v)
    (vals' : Nat → Value) (hv : ∀ i, i < N → vals' i = if dst = some i then v else vals i) : HH S loc ow w N (updDst env dst x) vals' box := by
  refine h.step (X := fun p => ∃ d j, dst = some d ∧ p = .slot d j) (Ext.same _ _ _ _ _ _) h.sS h.so (fun i hi => ?_) (fun k cs _ => .inl ⟨rfl, (by rintro ⟨_, _, _, hx⟩; cases hx), (by rintro _ ⟨_, _, _, hx⟩; cases hx)⟩)
  by_cases hd : dst = some i
  · right
    rw [hv i hi, if_pos hd]
    subst hd
    simp only [updDst, upd, if_true]
    exact hr i rfl
  · left
    refine ⟨?_, by rw [hv i hi, if_neg hd], ?_⟩
    · cases dst with
      | none => rfl
      | some d => simp only [updDst, upd]; rw [if_neg (by rintro rfl; exact hd rfl)]
    · rintro j ⟨d, j', rfl, hx⟩
      cases hx
      exact hd rfl

/-- (B) What one slot's part owns goes over to another slot. -/
def mvOw (ow : Nat → Option Pl) (p q : Pl) : Nat → Option Pl := fun b => if ow b = some p then some q else ow b

theorem RepC.mv {p q : Pl} {c : C} {v : Value} (h : RepC S loc box ow w p c v) : RepC S loc box (mvOw ow p q) w q c v := by
  cases c with
  | osl e sz xs =>
    refine ⟨h.1, h.2.1, ?_⟩
    rcases h.2.2 with ho | ⟨g, c, cur, rfl, hg, hh, h1, h2, h3, h4⟩
    · exact .inl ho
    · exact .inr ⟨g, c, cur, rfl, by simp [mvOw, hg], hh, h1, h2, h3, h4⟩
  | _ => exact h

theorem Ext.mv (p q : Pl) (hX : X p) : Ext X S loc box ow w S loc box (mvOw ow p q) w :=
  ⟨fun _ _ h => ⟨h, rfl⟩, fun b r h hr => ⟨by simp only [mvOw]; rw [if_neg (by rw [h]; intro e; cases e; exact hr hX)]; exact h, rfl, fun _ => Iff.rfl⟩, fun _ => Nat.le_refl _, fun _ _ => rfl⟩

theorem mvOw_lt {p q : Pl} (h : ∀ b p, ow b = some p → b < w.heap.size) : ∀ b r, mvOw ow p q b = some r → b < w.heap.size := by
  intro b r hb
  simp only [mvOw] at hb
  split at hb
  · exact h b p ‹_›
  · exact h b r hb

theorem Kept.mv {p q : Pl} : Kept w S ow w S (mvOw ow p q) :=
  ⟨rfl, rfl, rfl, Nat.le_refl _, fun b _ h => ⟨rfl, by simp [mvOw, h], fun _ => Iff.rfl⟩, fun _ _ h => ⟨h, rfl⟩⟩

end

theorem updDst_eq {α : Type} (f : Nat → α) (dst : Option Nat) (x : α) (i : Nat) : updDst f dst x i = if dst = some i then x else f i := by
  cases dst with
  | none => simp [updDst]
  | some d =>
    simp only [updDst, upd, Option.some.injEq]
    by_cases h : i = d
    · simp [h]
    · rw [if_neg h, if_neg (fun e => h e.symm)]

end Go.V

