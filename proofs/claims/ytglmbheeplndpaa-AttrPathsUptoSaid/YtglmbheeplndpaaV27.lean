/- The value machine, part 27: contracts weakened: what boxes hold, as data. -/
import Derived.Test.YtglmbheeplndpaaV25
set_option linter.all false
set_option linter.unusedSimpArgs false
set_option linter.unusedVariables false
namespace Go.V
open Go

def wkLL : List (List C) → List (List C) → Prop
  | [], [] => True
  | a :: as, b :: bs => wkL a b ∧ wkLL as bs
  | _, _ => False

theorem wkLL.get : ∀ {xs ys : List (List C)}, wkLL xs ys → xs.length = ys.length ∧ ∀ (i : Nat) y, ys[i]? = some y → ∃ x, xs[i]? = some x ∧ wkL x y
  | [], [], _ => ⟨rfl, fun i y hy => by simp at hy⟩
  | x :: xs, y :: ys, h => by
    obtain ⟨h1, h2⟩ := wkLL.get h.2
    refine ⟨by simp [h1], fun i z hz => ?_⟩
    cases i with
    | zero => cases hz; exact ⟨x, rfl, h.1⟩
    | succ i => exact h2 i z (by simpa using hz)
  | [], _ :: _, h => by cases h
  | _ :: _, [], h => by cases h

theorem RepC.tabs {S : Stab} {loc : Nat → Nat} {ow : Nat → Option Pl} {w : World} {css css' : List (List C)} {p : Pl} {c : C} {v : Value} (h : RepC S loc (tab css) ow w p c v) : RepC S loc (tab css') ow w p c v := by
  cases c with
  | fn f caps =>
    obtain ⟨vs, r1, r2, r3⟩ := h
    refine ⟨vs, r1, r2, fun j k hk => ?_⟩
    obtain ⟨u, hu, hr⟩ := r3 j k hk
    refine ⟨u, hu, ?_⟩
    cases k with
    | d x => exact hr
    | ptr k ver off => exact hr
  | _ => exact h

theorem RepV1.tabs {S : Stab} {loc : Nat → Nat} {ow : Nat → Option Pl} {w : World} {css css' : List (List C)} {i j : Nat} {x : SV} {v : Value} (h : RepV1 S loc (tab css) ow w i j x v) : RepV1 S loc (tab css') ow w i j x v := by
  cases x with
  | c c => exact RepC.tabs h
  | agg xs =>
    obtain ⟨vs, r1, r2, r3⟩ := h
    exact ⟨vs, r1, r2, fun m c hc => by
      obtain ⟨h1, u, hu, hr⟩ := r3 m c hc
      exact ⟨h1, u, hu, hr.tabs⟩⟩
  | tup xs => exact h

theorem RepV.tabs {S : Stab} {loc : Nat → Nat} {ow : Nat → Option Pl} {w : World} {css css' : List (List C)} {i : Nat} {x : SV} {v : Value} (h : RepV S loc (tab css) ow w i x v) : RepV S loc (tab css') ow w i x v := by
  cases x with
  | c c => exact RepC.tabs (p := .slot i 0) h
  | agg xs => exact RepV1.tabs (i := i) (j := 0) (x := .agg xs) h
  | tup xs =>
    obtain ⟨vs, r1, r2, r3⟩ := h
    exact ⟨vs, r1, r2, fun m c hc => by
      obtain ⟨u, hu, hr⟩ := r3 m c hc
      exact ⟨u, hu, hr.tabs⟩⟩

/-- What comes back may be said to be less: data. -/
theorem PC.wk {P : Program} {f : FuncId} {args : List SV} {bx : Tab} {res res' : SV} {css css' : List (List C)} (h : PC P f args bx res (tab css)) (hc : wkLL css css') (hr : wkV res res') : PC P f args bx res' (tab css') := by
  intro w S loc ow vals hvs hH
  refine (h w S loc ow vals hvs hH).mono ?_
  rintro e w' ⟨S', loc', ow', v, rfl, hK, hR, hl⟩
  obtain ⟨h1, h2⟩ := hc.get
  refine ⟨S', loc', ow', v, rfl, hK, ⟨hR.sS, hR.so, fun i hi => ?_, fun k cs hk => ?_⟩, hl⟩
  · exact (hr.rep (hR.env i hi)).tabs
  · obtain ⟨x, hx, hw⟩ := h2 k cs hk
    obtain ⟨t, vs, b1, b2, b3, b4, b5⟩ := hR.bx k x hx
    obtain ⟨l1, l2⟩ := hw.get
    refine ⟨t, vs, b1, b2, b3, by omega, fun j c hj => ?_⟩
    obtain ⟨x0, hx0, hw0⟩ := l2 j c hj
    obtain ⟨u, hu, hru⟩ := b5 j x0 hx0
    exact ⟨u, hu, (hw0.rep hru).tabs⟩

/-- The result alone. -/
theorem PC.wkR {P : Program} {f : FuncId} {args : List SV} {bx bx' : Tab} {res res' : SV} (h : PC P f args bx res bx') (hr : wkV res res') : PC P f args bx res' bx' := by
  intro w S loc ow vals hvs hH
  refine (h w S loc ow vals hvs hH).mono ?_
  rintro e w' ⟨S', loc', ow', v, rfl, hK, hR, hl⟩
  exact ⟨S', loc', ow', v, rfl, hK, ⟨hR.sS, hR.so, fun i hi => hr.rep (hR.env i hi), hR.bx⟩, hl⟩

attribute [simp] wkLL List.idxOf_cons

abbrev cI (n : Int) : C := .d (.v (.int .i64 n))
abbrev cU (n : Int) : C := .d (.v (.int .u32 n))
abbrev cB (b : Bool) : C := .d (.v (.bool b))
abbrev cS (xs : List (List D)) : C := .d (.sl xs)
abbrev vp (k off : Nat) : SV := .c (.ptr k 0 off)

def u32s (l : List Int) : List (List D) := l.map fun n => [.v (.int .u32 n)]
def u8s (l : List Int) : List (List D) := l.map fun n => [.v (.int .u8 n)]

@[simp] theorem u32s_len (l : List Int) : (u32s l).length = l.length := by simp [u32s]
@[simp] theorem u32s_get (l : List Int) (i : Nat) (h : i < (u32s l).length) : (u32s l)[i] = [.v (.int .u32 (l[i]'(by simpa using h)))] := by simp [u32s]
@[simp] theorem u8s_len (l : List Int) : (u8s l).length = l.length := by simp [u8s]
@[simp] theorem u8s_get (l : List Int) (i : Nat) (h : i < (u8s l).length) : (u8s l)[i] = [.v (.int .u8 (l[i]'(by simpa using h)))] := by simp [u8s]
@[simp] theorem u8s_nil : u8s [] = [] := rfl
@[simp] theorem u32s_nil : u32s [] = [] := rfl
theorem u8s_append (a b : List Int) : u8s (a ++ b) = u8s a ++ u8s b := by simp [u8s]
theorem u32s_append (a b : List Int) : u32s (a ++ b) = u32s a ++ u32s b := by simp [u32s]
theorem u8s_take (a : List Int) (n : Nat) : (u8s a).take n = u8s (a.take n) := by simp [u8s]
theorem u8s_drop (a : List Int) (n : Nat) : (u8s a).drop n = u8s (a.drop n) := by simp [u8s]
theorem u32s_take (a : List Int) (n : Nat) : (u32s a).take n = u32s (a.take n) := by simp [u32s]
theorem u32s_drop (a : List Int) (n : Nat) : (u32s a).drop n = u32s (a.drop n) := by simp [u32s]
theorem u8s_mem (l : List Int) : ∀ x ∈ u8s l, x.length = 1 := by
  intro x hx
  obtain ⟨n, _, rfl⟩ := List.mem_map.1 hx
  rfl
theorem u32s_mem (l : List Int) : ∀ x ∈ u32s l, x.length = 1 := by
  intro x hx
  obtain ⟨n, _, rfl⟩ := List.mem_map.1 hx
  rfl

@[simp] theorem u8s_all (l : List Int) : (∀ x, x ∈ u8s l → x.length = 1) ↔ True := ⟨fun _ => trivial, fun _ => u8s_mem l⟩
@[simp] theorem u32s_all (l : List Int) : (∀ x, x ∈ u32s l → x.length = 1) ↔ True := ⟨fun _ => trivial, fun _ => u32s_mem l⟩

end Go.V

