/- The value machine, part 2: what the memory must hold for a value to stand for data. -/
import Derived.Test.YtglmbheeplndpaaV1
set_option linter.all false
set_option linter.unusedSimpArgs false
set_option linter.unusedVariables false
namespace Go.V
open Go

/-- The cells that never change again. -/
abbrev Stab := Nat → Nat → Prop

/-- Data as it lies in memory: all its cells are among those that never change again. -/
inductive RepD (S : Stab) (w : World) : D → Value → Prop where
  | v (x : Value) (h1 : x.oneCell' = true) : RepD S w (.v x) x
  | sl (xs : List (List D)) (a : Option Addr) (c sz : Nat) (val : Nat → Value)
      (hc : xs.length ≤ c) (hm : xs.length ≤ 281474976710656) (hz : ∀ x ∈ xs, x.length = sz)
      (ha : xs ≠ [] → ∃ g o, a = some ⟨g, o, none⟩ ∧ ∀ j, j < xs.length * sz → S g (o + j) ∧ w.cell? ⟨g, o + j, none⟩ = some (val j))
      (hr : ∀ j x, xs.flatten[j]? = some x → RepD S w x (val j)) : RepD S w (.sl xs) (.slice a xs.length c)

theorem RepD.mono {S S' : Stab} {w w' : World} (h : ∀ b o, S b o → S' b o ∧ w'.cell? ⟨b, o, none⟩ = w.cell? ⟨b, o, none⟩) {x : D} {v : Value} (hr : RepD S w x v) : RepD S' w' x v := by
  induction hr with
  | v x h1 => exact .v x h1
  | sl xs a c sz val hc hm hz ha hr ih =>
    refine .sl xs a c sz val hc hm hz (fun hx => ?_) ih
    obtain ⟨g, o, rfl, hcells⟩ := ha hx
    exact ⟨g, o, rfl, fun j hj => ⟨(h _ _ (hcells j hj).1).1, (h _ _ (hcells j hj).1).2.trans (hcells j hj).2⟩⟩

theorem RepD.v_inv {S : Stab} {w : World} {x v : Value} (h : RepD S w (.v x) v) : v = x := by cases h; rfl

theorem RepD.oneCell {S : Stab} {w : World} {x : D} {v : Value} (h : RepD S w x v) : v.oneCell' = true := by
  cases h with
  | v x h1 => exact h1
  | sl => rfl

theorem length_flatten_const {α : Type} (sz : Nat) : ∀ (xs : List (List α)), (∀ x ∈ xs, x.length = sz) → xs.flatten.length = xs.length * sz
  | [], _ => by simp
  | x :: xs, h => by
    simp only [List.flatten_cons, List.length_append, List.length_cons]
    rw [h x (by simp), length_flatten_const sz xs (fun y hy => h y (by simp [hy])), Nat.add_mul]
    omega

theorem flatten_get {α : Type} (sz : Nat) : ∀ (xs : List (List α)) (_ : ∀ x ∈ xs, x.length = sz) (i j : Nat) (hi : i < xs.length) (_ : j < sz), xs.flatten[i * sz + j]? = (xs[i]'hi)[j]?
  | [], _, _, _, hi, _ => by simp at hi
  | x :: xs, h, 0, j, _, hj => by
    have hx : x.length = sz := h x (by simp)
    simp [List.getElem?_append, hx, hj]
  | x :: xs, h, i + 1, j, hi, hj => by
    have hx : x.length = sz := h x (by simp)
    have := flatten_get sz xs (fun y hy => h y (by simp [hy])) i j (by simpa using hi) hj
    simp only [List.flatten_cons, List.getElem_cons_succ]
    rw [List.getElem?_append_right (by rw [hx, Nat.add_mul]; omega), ← this]
    congr 1
    rw [hx, Nat.add_mul]
    omega

/-- The cells from an address on stand for the list of data. -/
def RowD (S : Stab) (w : World) (g o : Nat) (xs : List D) : Prop :=
  ∀ j x, xs[j]? = some x → S g (o + j) ∧ ∃ u, w.cell? ⟨g, o + j, none⟩ = some u ∧ RepD S w x u

theorem RowD.mono {S S' : Stab} {w w' : World} (h : ∀ b o, S b o → S' b o ∧ w'.cell? ⟨b, o, none⟩ = w.cell? ⟨b, o, none⟩) {g o : Nat} {xs : List D} (hr : RowD S w g o xs) : RowD S' w' g o xs := by
  intro j x hx
  obtain ⟨hs, u, hu, hd⟩ := hr j x hx
  exact ⟨(h _ _ hs).1, u, (h _ _ hs).2.trans hu, hd.mono h⟩

theorem RowD.drop {S : Stab} {w : World} {g o : Nat} {xs : List D} (hr : RowD S w g o xs) (n : Nat) : RowD S w g (o + n) (xs.drop n) := by
  intro j x hx
  rw [List.getElem?_drop] at hx
  have := hr (n + j) x hx
  rw [Nat.add_assoc]
  exact this

theorem RowD.take {S : Stab} {w : World} {g o : Nat} {xs : List D} (hr : RowD S w g o xs) (n : Nat) : RowD S w g o (xs.take n) := by
  intro j x hx
  rw [List.getElem?_take] at hx
  split at hx
  · exact hr j x hx
  · cases hx

/-- An element of a slice. -/
theorem RepD.elem {S : Stab} {w : World} {xs : List (List D)} {v : Value} (h : RepD S w (.sl xs) v) (i : Nat) (hi : i < xs.length) :
    ∃ g o c sz, v = .slice (some ⟨g, o, none⟩) xs.length c ∧ (xs[i]'hi).length = sz ∧ RowD S w g (o + i * sz) (xs[i]'hi) := by
  cases h with
  | sl _ a c sz val hc hm hz ha hr =>
    obtain ⟨g, o, rfl, hcells⟩ := ha (by intro e; simp [e] at hi)
    refine ⟨g, o, c, sz, rfl, hz _ (List.getElem_mem hi), fun j x hx => ?_⟩
    have hlen : (xs[i]'hi).length = sz := hz _ (List.getElem_mem hi)
    have hj : j < sz := by
      have := (List.getElem?_eq_some_iff.1 hx).1
      omega
    have hf := flatten_get sz xs hz i j hi hj
    have hlt : i * sz + j < xs.length * sz := by
      have : (i + 1) * sz ≤ xs.length * sz := Nat.mul_le_mul_right _ hi
      rw [Nat.add_mul] at this
      omega
    have := hcells _ hlt
    rw [← Nat.add_assoc] at this
    exact ⟨this.1, _, this.2, hr _ _ (hf.trans hx)⟩

theorem RepD.sl_inv {S : Stab} {w : World} {xs : List (List D)} {v : Value} (h : RepD S w (.sl xs) v) : ∃ a c, v = .slice a xs.length c ∧ xs.length ≤ c ∧ xs.length ≤ 281474976710656 := by
  cases h with
  | sl _ a c sz val hc hm hz ha hr => exact ⟨a, c, rfl, hc, hm⟩

theorem RepD.sz {S : Stab} {w : World} {xs : List (List D)} {v : Value} (h : RepD S w (.sl xs) v) : ∃ sz, ∀ x ∈ xs, x.length = sz := by
  cases h with
  | sl _ a c sz val hc hm hz ha hr => exact ⟨sz, hz⟩

/-- A slice's cells, one behind the other. -/
theorem RepD.flat {S : Stab} {w : World} {xs : List (List D)} {g o n c : Nat} (h : RepD S w (.sl xs) (.slice (some ⟨g, o, none⟩) n c)) : RowD S w g o xs.flatten := by
  cases h with
  | sl _ a c sz val hc hm hz ha hr =>
    intro j x hx
    have hj := (List.getElem?_eq_some_iff.1 hx).1
    rw [length_flatten_const sz xs hz] at hj
    obtain ⟨g', o', he, hcells⟩ := ha (by intro e; simp [e] at hj)
    cases he
    exact ⟨(hcells j hj).1, _, (hcells j hj).2, hr j x hx⟩

/-- The other way: cells that stand for the elements. -/
theorem RepD.mk {S : Stab} {w : World} {xs : List (List D)} {g o c sz : Nat} (hc : xs.length ≤ c) (hm : xs.length ≤ 281474976710656) (hz : ∀ x ∈ xs, x.length = sz)
    (h : RowD S w g o xs.flatten) : RepD S w (.sl xs) (.slice (some ⟨g, o, none⟩) xs.length c) := by
  have hl := length_flatten_const sz xs hz
  refine .sl xs (some ⟨g, o, none⟩) c sz (fun j => (w.cell? ⟨g, o + j, none⟩).getD default) hc hm hz (fun _ => ⟨g, o, rfl, fun j hj => ?_⟩) (fun j x hx => ?_)
  · obtain ⟨hs, u, hu, _⟩ := h j (xs.flatten[j]'(by omega)) (List.getElem?_eq_getElem (by omega))
    exact ⟨hs, by simp [hu]⟩
  · obtain ⟨hs, u, hu, hd⟩ := h j x hx
    simpa [hu] using hd

theorem RepD.nil {S : Stab} {w : World} (a : Option Addr) (c : Nat) : RepD S w (.sl []) (.slice a 0 c) :=
  .sl [] a c 0 (fun _ => default) (by simp) (by simp) (by simp) (fun h => absurd rfl h) (fun j x hx => by simp at hx)

/-! ### who owns a block -/
inductive Pl where
  | slot (i j : Nat)
  | box (k : Nat)
  | bcell (k j : Nat)
  deriving DecidableEq

/-- An own slice: nil, or a whole block of which the holder's place is the owner; what lies within the length never changes, what lies behind it nobody reads. -/
def Own (S : Stab) (ow : Nat → Option Pl) (w : World) (p : Pl) (e sz n : Nat) (v : Value) : Prop :=
  ((∃ a, v = .slice a 0 0) ∧ n = 0) ∨
  ∃ g c cur, v = .slice (some ⟨g, 0, none⟩) n c ∧ ow g = some p ∧ w.heap[g]? = some (.cells cur e (0, 0)) ∧ n ≤ c ∧ c ≤ maxLen ∧ cur.size = c * sz ∧ ∀ o, S g o ↔ o < n * sz

/-- What a closure has captured, as it lies in memory. -/
def RepK (S : Stab) (loc : Nat → Nat) (box : Tab) (w : World) : KC → Value → Prop
  | .d x, v => RepD S w x v
  | .ptr k ver off, v => ∃ a : Addr, v = .pointer (some a) ∧ ver ≤ (box k).1 ∧ ((box k).1 = ver → a = ⟨loc k, off, none⟩)

def RepC (S : Stab) (loc : Nat → Nat) (box : Tab) (ow : Nat → Option Pl) (w : World) (p : Pl) : C → Value → Prop
  | .d x, v => RepD S w x v
  | .nilsl, v => v = .slice none 0 0
  | .osl e sz xs, v => RepD S w (.sl xs) v ∧ (∀ x ∈ xs, x.length = sz) ∧ Own S ow w p e sz xs.length v
  | .ptr k ver off, v => ∃ a : Addr, v = .pointer (some a) ∧ ver ≤ (box k).1 ∧ ((box k).1 = ver → a = ⟨loc k, off, none⟩)
  | .cptr xs, v => ∃ g o, v = .pointer (some ⟨g, o, none⟩) ∧ RowD S w g o xs
  | .msl k ver off len, v => ∃ (a : Option Addr) (c : Nat), v = .slice a len c ∧ len ≤ c ∧ len ≤ 281474976710656 ∧ ver ≤ (box k).1 ∧ (0 < len → ∃ b, a = some b ∧ ((box k).1 = ver → b = ⟨loc k, off, none⟩))
  | .fn f caps, v => ∃ vs : Array Value, v = .func (.func f) #[] vs ∧ vs.size = caps.length ∧ ∀ (j : Nat) k, caps[j]? = some k → ∃ u, vs[j]? = some u ∧ RepK S loc box w k u

def RepV1 (S : Stab) (loc : Nat → Nat) (box : Tab) (ow : Nat → Option Pl) (w : World) (i j : Nat) : SV → Value → Prop
  | .c x, v => RepC S loc box ow w (.slot i j) x v
  | .agg xs, v => ∃ vs : Array Value, v = .agg vs ∧ vs.size = xs.length ∧ ∀ (m : Nat) (c : C), xs[m]? = some c → isOsl c = false ∧ ∃ u, vs[m]? = some u ∧ RepC S loc box ow w (.slot i j) c u
  | .tup xs, v => xs = [] ∧ v = undef

def RepV (S : Stab) (loc : Nat → Nat) (box : Tab) (ow : Nat → Option Pl) (w : World) (i : Nat) : SV → Value → Prop
  | .tup xs, v => ∃ vs : Array Value, v = .tuple vs ∧ vs.size = xs.length ∧ ∀ (m : Nat) (x : SV), xs[m]? = some x → ∃ u, vs[m]? = some u ∧ RepV1 S loc box ow w i m x u
  | x, v => RepV1 S loc box ow w i 0 x v

/-- What is not owned does not hang on the place. -/
theorem RepC.place {S : Stab} {loc : Nat → Nat} {box : Tab} {ow : Nat → Option Pl} {w : World} {p q : Pl} {c : C} {v : Value} (ho : isOsl c = false) (h : RepC S loc box ow w p c v) : RepC S loc box ow w q c v := by
  cases c with
  | osl e sz xs => simp [isOsl] at ho
  | _ => exact h

theorem isOsl_copy (c : C) : isOsl c.copy = false := by cases c <;> rfl

theorem RepC.copy {S : Stab} {loc : Nat → Nat} {box : Tab} {ow : Nat → Option Pl} {w : World} {p : Pl} {c : C} {v : Value} (q : Pl) (h : RepC S loc box ow w p c v) : RepC S loc box ow w q c.copy v := by
  cases c with
  | osl e sz xs => exact h.1
  | _ => exact h

theorem RepC.toD {S : Stab} {loc : Nat → Nat} {box : Tab} {ow : Nat → Option Pl} {w : World} {p : Pl} {c : C} {v : Value} {x : D} (h : RepC S loc box ow w p c v) (hx : c.toD = some x) : RepD S w x v := by
  cases c with
  | d y => simp only [C.toD, Option.some.injEq] at hx; subst hx; exact h
  | nilsl =>
    simp only [C.toD, Option.some.injEq] at hx; subst hx
    rw [show v = .slice none 0 0 from h]
    exact RepD.nil none 0
  | osl e sz xs => simp only [C.toD, Option.some.injEq] at hx; subst hx; exact h.1
  | ptr k ver off => simp [C.toD] at hx
  | cptr xs => simp [C.toD] at hx
  | msl k ver off len => simp [C.toD] at hx
  | fn f caps => simp [C.toD] at hx

theorem C.elems_toD {c : C} {xs : List (List D)} (h : c.elems = some xs) : c.toD = some (.sl xs) := by
  cases c with
  | d x =>
    cases x with
    | v _ => simp [C.elems] at h
    | sl ys => simp only [C.elems, Option.some.injEq] at h; subst h; rfl
  | nilsl => simp only [C.elems, Option.some.injEq] at h; subst h; rfl
  | osl e sz ys => simp only [C.elems, Option.some.injEq] at h; subst h; rfl
  | ptr k ver off => simp [C.elems] at h
  | cptr xs => simp [C.elems] at h
  | msl k ver off len => simp [C.elems] at h
  | fn f caps => simp [C.elems] at h

/-- How a step may turn the memory: what stood for something still does, but for the places X. -/
structure Ext (X : Pl → Prop) (S : Stab) (loc : Nat → Nat) (box : Tab) (ow : Nat → Option Pl) (w : World) (S' : Stab) (loc' : Nat → Nat) (box' : Tab) (ow' : Nat → Option Pl) (w' : World) : Prop where
  st : ∀ b o, S b o → S' b o ∧ w'.cell? ⟨b, o, none⟩ = w.cell? ⟨b, o, none⟩
  own : ∀ b p, ow b = some p → ¬ X p → ow' b = some p ∧ w'.heap[b]? = w.heap[b]? ∧ ∀ o, S' b o ↔ S b o
  ver : ∀ k, (box k).1 ≤ (box' k).1
  loc : ∀ k, (box' k).1 = (box k).1 → loc' k = loc k

theorem Own.ext {X : Pl → Prop} {S S' : Stab} {loc loc' : Nat → Nat} {box box' : Tab} {ow ow' : Nat → Option Pl} {w w' : World} (h : Ext X S loc box ow w S' loc' box' ow' w') {p : Pl} (hp : ¬ X p) {e sz n : Nat} {v : Value}
    (ho : Own S ow w p e sz n v) : Own S' ow' w' p e sz n v := by
  rcases ho with ho | ⟨g, c, cur, rfl, hg, hh, h1, h2, h3, h4⟩
  · exact .inl ho
  · obtain ⟨ho', hb, hS⟩ := h.own g p hg hp
    exact .inr ⟨g, c, cur, rfl, ho', hb.trans hh, h1, h2, h3, fun o => (hS o).trans (h4 o)⟩

theorem RepK.ext {X : Pl → Prop} {S S' : Stab} {loc loc' : Nat → Nat} {box box' : Tab} {ow ow' : Nat → Option Pl} {w w' : World} (h : Ext X S loc box ow w S' loc' box' ow' w') {k : KC} {v : Value} (hr : RepK S loc box w k v) : RepK S' loc' box' w' k v := by
  cases k with
  | d x => exact RepD.mono h.st hr
  | ptr k ver off =>
    obtain ⟨a, r1, r2, r3⟩ := hr
    refine ⟨a, r1, Nat.le_trans r2 (h.ver k), fun hv => ?_⟩
    have hold : (box k).1 = ver := Nat.le_antisymm (hv ▸ h.ver k) r2
    rw [h.loc k (by omega)]
    exact r3 hold

theorem RepC.ext {X : Pl → Prop} {S S' : Stab} {loc loc' : Nat → Nat} {box box' : Tab} {ow ow' : Nat → Option Pl} {w w' : World} (h : Ext X S loc box ow w S' loc' box' ow' w') {p : Pl} {c : C} {v : Value} (hp : isOsl c = false ∨ ¬ X p)
    (hr : RepC S loc box ow w p c v) : RepC S' loc' box' ow' w' p c v := by
  cases c with
  | d x => exact RepD.mono h.st hr
  | nilsl => exact hr
  | osl e sz xs =>
    rcases hp with hp | hp
    · simp [isOsl] at hp
    · exact ⟨RepD.mono h.st hr.1, hr.2.1, Own.ext h hp hr.2.2⟩
  | ptr k ver off =>
    obtain ⟨a, r1, r2, r3⟩ := hr
    refine ⟨a, r1, Nat.le_trans r2 (h.ver k), fun hv => ?_⟩
    have hold : (box k).1 = ver := Nat.le_antisymm (hv ▸ h.ver k) r2
    rw [h.loc k (by omega)]
    exact r3 hold
  | cptr xs =>
    obtain ⟨g, o, rfl, hrow⟩ := hr
    exact ⟨g, o, rfl, hrow.mono h.st⟩
  | msl k ver off len =>
    obtain ⟨a, c, r1, r2, r3, r4, r5⟩ := hr
    refine ⟨a, c, r1, r2, r3, Nat.le_trans r4 (h.ver k), fun h0 => ?_⟩
    obtain ⟨b, hb, hb2⟩ := r5 h0
    refine ⟨b, hb, fun hv => ?_⟩
    have hold : (box k).1 = ver := Nat.le_antisymm (hv ▸ h.ver k) r4
    rw [h.loc k (by omega)]
    exact hb2 hold
  | fn f caps =>
    obtain ⟨vs, r1, r2, r3⟩ := hr
    exact ⟨vs, r1, r2, fun j k hk => by
      obtain ⟨u, hu, hru⟩ := r3 j k hk
      exact ⟨u, hu, hru.ext h⟩⟩

theorem RepV1.ext {X : Pl → Prop} {S S' : Stab} {loc loc' : Nat → Nat} {box box' : Tab} {ow ow' : Nat → Option Pl} {w w' : World} (h : Ext X S loc box ow w S' loc' box' ow' w') {i j : Nat} {c : SV} {v : Value} (hp : ¬ X (.slot i j))
    (hr : RepV1 S loc box ow w i j c v) : RepV1 S' loc' box' ow' w' i j c v := by
  cases c with
  | c x => exact RepC.ext h (.inr hp) hr
  | agg xs =>
    obtain ⟨vs, rfl, hs, hm⟩ := hr
    exact ⟨vs, rfl, hs, fun m c hc => by
      obtain ⟨ho, u, hu, hc'⟩ := hm m c hc
      exact ⟨ho, u, hu, RepC.ext h (.inl ho) hc'⟩⟩
  | tup xs => exact hr

theorem RepV.ext {X : Pl → Prop} {S S' : Stab} {loc loc' : Nat → Nat} {box box' : Tab} {ow ow' : Nat → Option Pl} {w w' : World} (h : Ext X S loc box ow w S' loc' box' ow' w') {i : Nat} {c : SV} {v : Value} (hp : ∀ j, ¬ X (.slot i j))
    (hr : RepV S loc box ow w i c v) : RepV S' loc' box' ow' w' i c v := by
  cases c with
  | c x =>
    have hr' : RepV1 S loc box ow w i 0 (.c x) v := hr
    have : RepV1 S' loc' box' ow' w' i 0 (.c x) v := RepV1.ext h (hp 0) hr'
    exact this
  | agg xs =>
    have hr' : RepV1 S loc box ow w i 0 (.agg xs) v := hr
    have : RepV1 S' loc' box' ow' w' i 0 (.agg xs) v := RepV1.ext h (hp 0) hr'
    exact this
  | tup xs =>
    obtain ⟨vs, rfl, hs, hm⟩ := hr
    exact ⟨vs, rfl, hs, fun m x hx => by
      obtain ⟨u, hu, hx'⟩ := hm m x hx
      exact ⟨u, hu, RepV1.ext h (hp m) hx'⟩⟩

/-- All that slots and boxes hold, as it lies in memory. -/
structure HH (S : Stab) (loc : Nat → Nat) (ow : Nat → Option Pl) (w : World) (N : Nat) (env : Nat → SV) (vals : Nat → Value) (box : Tab) : Prop where
  sS : ∀ b o, S b o → b < w.heap.size
  so : ∀ b p, ow b = some p → b < w.heap.size
  env : ∀ i, i < N → RepV S loc box ow w i (env i) (vals i)
  bx : ∀ k cs, (box k).2 = some cs → ∃ t vs, ow (loc k) = some (.box k) ∧ w.heap[loc k]? = some (.cells vs t (0, 0)) ∧ (∀ o, ¬ S (loc k) o) ∧ cs.length ≤ vs.size ∧
    ∀ j c, cs[j]? = some c → ∃ u, vs[j]? = some u ∧ RepC S loc box ow w (.bcell k j) c u

/-- What of the memory has stayed since a call began: all that its caller did not lend. -/
structure Kept (w : World) (S : Stab) (ow : Nat → Option Pl) (w' : World) (S' : Stab) (ow' : Nat → Option Pl) : Prop where
  os : w'.os = w.os
  tape : w'.tape = w.tape
  output : w'.output = w.output
  size : w.heap.size ≤ w'.heap.size
  keep : ∀ b, b < w.heap.size → ow b = none → w'.heap[b]? = w.heap[b]? ∧ ow' b = none ∧ ∀ o, S' b o ↔ S b o
  stab : ∀ b o, S b o → S' b o ∧ w'.cell? ⟨b, o, none⟩ = w.cell? ⟨b, o, none⟩

theorem Kept.refl (w : World) (S : Stab) (ow : Nat → Option Pl) : Kept w S ow w S ow := ⟨rfl, rfl, rfl, Nat.le_refl _, fun _ _ h => ⟨rfl, h, fun _ => Iff.rfl⟩, fun _ _ h => ⟨h, rfl⟩⟩

theorem Kept.trans {w1 w2 w3 : World} {S1 S2 S3 : Stab} {o1 o2 o3 : Nat → Option Pl} (h : Kept w1 S1 o1 w2 S2 o2) (k : Kept w2 S2 o2 w3 S3 o3) : Kept w1 S1 o1 w3 S3 o3 where
  os := k.os.trans h.os
  tape := k.tape.trans h.tape
  output := k.output.trans h.output
  size := Nat.le_trans h.size k.size
  keep b hb ho := by
    obtain ⟨a1, a2, a3⟩ := h.keep b hb ho
    obtain ⟨b1, b2, b3⟩ := k.keep b (Nat.lt_of_lt_of_le hb h.size) a2
    exact ⟨b1.trans a1, b2, fun o => (b3 o).trans (a3 o)⟩
  stab b o hs := by
    obtain ⟨a1, a2⟩ := h.stab b o hs
    obtain ⟨b1, b2⟩ := k.stab b o a1
    exact ⟨b1, b2.trans a2⟩

end Go.V

