/- The value machine, part 23: from a function's code to its contract. -/
import Derived.Test.YtglmbheeplndpaaV22
import Derived.Laws.Sem
set_option linter.all false
set_option linter.unusedSimpArgs false
set_option linter.unusedVariables false
namespace Go.V
open Go

/-- The boxes 0, 1, .. of a contract. -/
def tab (css : List (List C)) : Tab := fun i => (0, css[i]?)

def backL (st : VSt) : Nat → List (List C) → Prop
  | _, [] => True
  | i, cs :: r => st.box i = (0, some cs) ∧ cs.all noPtr = true ∧ backL st (i + 1) r

def newL (st : VSt) (m : Nat) : Option Nat → List (List C) → Prop
  | none, [] => True
  | some k, [cs] => m ≤ k ∧ (st.box k).2 = some cs ∧ cs.all noPtr = true
  | _, _ => False

/-- A key of the function's as its caller is to see it. -/
def ren (m : Nat) (nk : Option Nat) (k : Nat) : Option Nat := if k < m then some k else if nk = some k then some m else none

def renC (m : Nat) (nk : Option Nat) (st : VSt) : C → Option C
  | .ptr k ver off => if (st.box k).1 = ver then (ren m nk k).map fun i => .ptr i 0 off else none
  | .msl k ver off n => if (st.box k).1 = ver then (ren m nk k).map fun i => .msl i 0 off n else none
  | .fn f caps => if caps.all KC.isD then some (.fn f caps) else none
  | c => some c

def renV1 (m : Nat) (nk : Option Nat) (st : VSt) : SV → Option SV
  | .c c => (renC m nk st c).map .c
  | .agg xs => if xs.all noPtr then some (.agg xs) else none
  | .tup [] => some (.tup [])
  | .tup _ => none

/-- A result variable: a slot, or cells of a box. -/
inductive RV where
  | t (n : Nat)
  | cell (a : Nat) (agg : Bool) (n : Nat)
  deriving DecidableEq

def crs (P : Program) (N : Nat) : List ResultVar → Option (List RV)
  | [] => some []
  | .tmp t :: r => if t < N then (crs P N r).map (.t t :: ·) else none
  | .cell a t :: r =>
    if a < N then
      match tyInfo P t with
      | some (agg, n) => if agg = false ∧ n ≠ 1 then none else (crs P N r).map (.cell a agg n :: ·)
      | none => none
    else none

def rvGet (st : VSt) : RV → Option SV
  | .t n => some (st.env n)
  | .cell a agg n =>
    match place st.box (st.env a) with
    | some (.box k off) => match (st.box k).2 with | some cs => if off + n ≤ cs.length then part agg n ((cs.drop off).take n) else none | none => none
    | _ => none

def renVs (m : Nat) (nk : Option Nat) (st : VSt) : List RV → Option (List SV)
  | [] => some []
  | t :: r => match (rvGet st t).bind (renV1 m nk st), renVs m nk st r with | some y, some ys => some (y :: ys) | _, _ => none

/-- What the result variables hold. -/
def resOf (m : Nat) (nk : Option Nat) (st : VSt) : List RV → Option SV
  | [t] => (rvGet st t).bind (renV1 m nk st)
  | ts => (renVs m nk st ts).map .tup

def owR (ts : List RV) (m : Nat) (nk : Option Nat) (ow : Nat → Option Pl) : Nat → Option Pl := fun b =>
  match ow b with
  | some (.slot t 0) => if .t t ∈ ts then some (.slot 0 (ts.idxOf (.t t))) else none
  | some (.slot _ _) => none
  | some (.box k) => (ren m nk k).map .box
  | some (.bcell k j) => (ren m nk k).map fun i => .bcell i j
  | none => none

def locRen (m : Nat) (nk : Option Nat) (loc : Nat → Nat) (i : Nat) : Nat := if i < m then loc i else match nk with | some k => loc k | none => loc i

def resVal : List Value → Value
  | [u] => u
  | us => .tuple us.toArray

/-- One result variable's reading. -/
def rvRun (tmps : Array Value) : ResultVar → Sem Value
  | .tmp t => pure (tmps.getD t undef)
  | .cell a t => do loadVar t (← asAddr (tmps.getD a undef))

theorem run_mapM {P : Program} {w : World} {g : ResultVar → Sem Value} : ∀ (l : List ResultVar) (us : List Value), l.length = us.length → (∀ (i : Nat) r u, l[i]? = some r → us[i]? = some u → (g r).run P w = .ok u w) → (l.mapM g).run P w = .ok us w
  | [], [], _, _ => rfl
  | r :: l, u :: us, hl, h => by
    have h0 := h 0 r u rfl rfl
    have ih := run_mapM l us (by simpa using hl) (fun i r' u' h1 h2 => h (i + 1) r' u' (by simpa using h1) (by simpa using h2))
    simp only [List.mapM_cons, Sem.run_bind, h0, ih, Result.andThen_ok, Sem.run_pure]
  | [], _ :: _, hl, _ => by simp at hl
  | _ :: _, [], hl, _ => by simp at hl

theorem run_results {P : Program} {fn : Func} (tmps : Array Value) (w : World) (us : List Value) (hl : fn.results.toList.length = us.length)
    (h : ∀ (i : Nat) r u, fn.results.toList[i]? = some r → us[i]? = some u → (rvRun tmps r).run P w = .ok u w) :
    (results fn tmps).run P w = .ok (resVal us) w := by
  have key : ∀ (g : ResultVar → Sem Value), (∀ r, g r = rvRun tmps r) → (fn.results.mapM g).run P w = .ok us.toArray w := by
    intro g hg
    have hgg : g = rvRun tmps := funext hg
    subst hgg
    have hr : fn.results = fn.results.toList.toArray := by simp
    rw [hr, List.mapM_toArray]
    have := run_mapM (P := P) (w := w) (g := rvRun tmps) fn.results.toList us hl h
    simp only [map_eq_pure_bind, Sem.run_bind, this, Result.andThen_ok, Sem.run_pure]
  unfold results
  rw [Sem.run_bind, key _ (fun r => by cases r <;> rfl), Result.andThen_ok, Sem.run_pure]
  congr 1
  match us with
  | [] => rfl
  | [t] => rfl
  | t :: u :: r => simp [resVal]

/-- What a cell's value may be weakened to: data. -/
def wkC (c c' : C) : Prop := c = c' ∨ ∃ d, c.toD = some d ∧ c' = .d d

def wkL : List C → List C → Prop
  | [], [] => True
  | c :: cs, c' :: cs' => wkC c c' ∧ wkL cs cs'
  | _, _ => False

def wk1 : SV → SV → Prop
  | .c c, .c c' => wkC c c'
  | .agg xs, .agg ys => wkL xs ys
  | .tup [], .tup [] => True
  | _, _ => False

def wkS : List SV → List SV → Prop
  | [], [] => True
  | x :: xs, y :: ys => wk1 x y ∧ wkS xs ys
  | _, _ => False

def wkV : SV → SV → Prop
  | .tup xs, .tup ys => wkS xs ys
  | x, y => wk1 x y

theorem wkC.rep {S : Stab} {loc : Nat → Nat} {box : Tab} {ow : Nat → Option Pl} {w : World} {p : Pl} {c c' : C} {v : Value} (h : wkC c c') (hr : RepC S loc box ow w p c v) : RepC S loc box ow w p c' v := by
  rcases h with rfl | ⟨d, hd, rfl⟩
  · exact hr
  · exact hr.toD hd

theorem wkL.get : ∀ {xs ys : List C}, wkL xs ys → xs.length = ys.length ∧ ∀ (i : Nat) y, ys[i]? = some y → ∃ x, xs[i]? = some x ∧ wkC x y
  | [], [], _ => ⟨rfl, fun i y hy => by simp at hy⟩
  | x :: xs, y :: ys, h => by
    obtain ⟨h1, h2⟩ := wkL.get h.2
    refine ⟨by simp [h1], fun i z hz => ?_⟩
    cases i with
    | zero => cases hz; exact ⟨x, rfl, h.1⟩
    | succ i => exact h2 i z (by simpa using hz)
  | [], _ :: _, h => by cases h
  | _ :: _, [], h => by cases h

theorem wk1.rep {S : Stab} {loc : Nat → Nat} {box : Tab} {ow : Nat → Option Pl} {w : World} {i j : Nat} {x y : SV} {v : Value} (h : wk1 x y) (hr : RepV1 S loc box ow w i j x v) : RepV1 S loc box ow w i j y v := by
  cases x with
  | c c =>
    cases y with
    | c c' => exact wkC.rep h hr
    | _ => cases h
  | agg xs =>
    cases y with
    | agg ys =>
      obtain ⟨h1, h2⟩ := wkL.get h
      obtain ⟨vs, rfl, hs, hm⟩ := hr
      refine ⟨vs, rfl, by omega, fun m c hc => ?_⟩
      obtain ⟨x, hx, hw⟩ := h2 m c hc
      obtain ⟨h3, u, hu, hru⟩ := hm m x hx
      refine ⟨?_, u, hu, hw.rep hru⟩
      rcases hw with rfl | ⟨d, _, rfl⟩
      · exact h3
      · rfl
    | _ => cases h
  | tup xs =>
    cases xs with
    | nil =>
      cases y with
      | tup ys =>
        cases ys with
        | nil => exact hr
        | cons _ _ => cases h
      | _ => cases h
    | cons _ _ => cases y <;> cases h

theorem wkS.get : ∀ {xs ys : List SV}, wkS xs ys → xs.length = ys.length ∧ ∀ (i : Nat) y, ys[i]? = some y → ∃ x, xs[i]? = some x ∧ wk1 x y
  | [], [], _ => ⟨rfl, fun i y hy => by simp at hy⟩
  | x :: xs, y :: ys, h => by
    obtain ⟨h1, h2⟩ := wkS.get h.2
    refine ⟨by simp [h1], fun i z hz => ?_⟩
    cases i with
    | zero => cases hz; exact ⟨x, rfl, h.1⟩
    | succ i => exact h2 i z (by simpa using hz)
  | [], _ :: _, h => by cases h
  | _ :: _, [], h => by cases h

theorem wkV.rep {S : Stab} {loc : Nat → Nat} {box : Tab} {ow : Nat → Option Pl} {w : World} {i : Nat} {x y : SV} {v : Value} (h : wkV x y) (hr : RepV S loc box ow w i x v) : RepV S loc box ow w i y v := by
  cases x with
  | c c =>
    cases y with
    | c c' => exact (wk1.rep (x := .c c) (y := .c c') (i := i) (j := 0) h hr : RepV1 S loc box ow w i 0 (.c c') v)
    | agg _ => cases h
    | tup _ => cases h
  | agg xs =>
    cases y with
    | agg ys => exact (wk1.rep (x := .agg xs) (y := .agg ys) (i := i) (j := 0) h hr : RepV1 S loc box ow w i 0 (.agg ys) v)
    | c _ => cases h
    | tup _ => cases h
  | tup xs =>
    cases y with
    | tup ys =>
      obtain ⟨h1, h2⟩ := wkS.get h
      obtain ⟨vs, rfl, hs, hm⟩ := hr
      refine ⟨vs, rfl, by omega, fun m z hz => ?_⟩
      obtain ⟨x, hx, hw⟩ := h2 m z hz
      obtain ⟨u, hu, hru⟩ := hm m x hx
      exact ⟨u, hu, hw.rep hru⟩
    | c _ => cases xs <;> cases h
    | agg _ => cases xs <;> cases h

section
variable {P : Program}

theorem renVs_get {m : Nat} {nk : Option Nat} {st : VSt} : ∀ {ts : List RV} {ys : List SV}, renVs m nk st ts = some ys → ys.length = ts.length ∧ ∀ (i : Nat) y, ys[i]? = some y → ∃ t, ts[i]? = some t ∧ (rvGet st t).bind (renV1 m nk st) = some y
  | [], ys, h => by cases h; exact ⟨rfl, fun i y hy => by simp at hy⟩
  | t :: r, ys, h => by
    simp only [renVs] at h
    split at h
    · rename_i y ys' h1 h2
      cases h
      obtain ⟨a, b⟩ := renVs_get h2
      refine ⟨by simp [a], fun i z hz => ?_⟩
      cases i with
      | zero => cases hz; exact ⟨t, rfl, h1⟩
      | succ i => exact b i z (by simpa using hz)
    · cases h

theorem backL_get {st : VSt} : ∀ {l : List (List C)} {i : Nat}, backL st i l → ∀ j cs, l[j]? = some cs → st.box (i + j) = (0, some cs) ∧ cs.all noPtr = true
  | [], _, _, j, cs, hc => by simp at hc
  | c :: r, i, h, 0, cs, hc => by cases hc; exact ⟨h.1, h.2.1⟩
  | c :: r, i, h, j + 1, cs, hc => by
    have := backL_get h.2.2 j cs (by simpa using hc)
    rwa [show i + 1 + j = i + (j + 1) by omega] at this

theorem RepC.trNo {S' : Stab} {loc' locN : Nat → Nat} {bx' boxN : Tab} {ow' owN : Nat → Option Pl} {w' : World} {p q : Pl} {c : C} {v : Value} (hn : noPtr c = true) (ho : isOsl c = false) (h : RepC S' loc' bx' ow' w' p c v) : RepC S' locN boxN owN w' q c v := by
  cases c with
  | osl e sz xs => simp [isOsl] at ho
  | ptr k ver off => simp [noPtr] at hn
  | msl k ver off n => simp [noPtr] at hn
  | fn f caps => exact RepC.tr (ow' := fun _ => none) (p := p) hn (fun b hb => by cases hb) h
  | _ => exact h

theorem crs_get {N : Nat} : ∀ {l : List ResultVar} {ts : List RV}, crs P N l = some ts → ts.length = l.length ∧ ∀ (i : Nat) r, l[i]? = some r → ∃ t, ts[i]? = some t ∧
    ((∃ n, r = .tmp n ∧ t = .t n ∧ n < N) ∨ ∃ a ty agg n, r = .cell a ty ∧ t = .cell a agg n ∧ a < N ∧ tyInfo P ty = some (agg, n) ∧ (agg = false → n = 1))
  | [], ts, h => by cases h; exact ⟨rfl, fun i r hr => by simp at hr⟩
  | .tmp n :: l, ts, h => by
    simp only [crs] at h
    split at h
    · rename_i hn
      obtain ⟨ts', h', rfl⟩ := Option.map_eq_some_iff.1 h
      obtain ⟨h1, h2⟩ := crs_get h'
      refine ⟨by simp [h1], fun i r hr => ?_⟩
      cases i with
      | zero => cases hr; exact ⟨_, rfl, .inl ⟨n, rfl, rfl, hn⟩⟩
      | succ i => exact h2 i r (by simpa using hr)
    · cases h
  | .cell a ty :: l, ts, h => by
    simp only [crs] at h
    split at h
    · rename_i hn
      split at h
      · rename_i agg n hty
        split at h
        · cases h
        · rename_i hone
          obtain ⟨ts', h', rfl⟩ := Option.map_eq_some_iff.1 h
          obtain ⟨h1, h2⟩ := crs_get h'
          refine ⟨by simp [h1], fun i r hr => ?_⟩
          cases i with
          | zero => cases hr; exact ⟨_, rfl, .inr ⟨a, ty, agg, n, rfl, rfl, hn, hty, fun e => Decidable.byContradiction fun e' => hone ⟨e, e'⟩⟩⟩
          | succ i => exact h2 i r (by simpa using hr)
      · cases h
    · cases h

/-- From the code to the contract. -/
theorem pc_intro (hm : P.follows .mixedOrders = true) {f : FuncId} {fn : Func} (hf : P.funcs[f]? = some fn) {c : Code} (hb : fn.body = some c) (takes : List Nat) {v : VC} (hc : cc P fn.ntmps takes c = v) {ts : List RV} (hts : crs P fn.ntmps fn.results.toList = some ts)
    (hnd : ts.Nodup) {args : List SV} (hN : args.length ≤ fn.ntmps) {css pre new : List (List C)} {res : SV} (hlen : pre.length = css.length) (nk : Option Nat)
    (h : wpV P v (fun e st => (match e with | .normal | .ret => True | _ => False) ∧ backL st 0 pre ∧ newL st css.length nk new ∧ ∃ r, resOf css.length nk st ts = some r ∧ wkV r res) ⟨fun i => args.getD i .undef, tab css⟩) :
    PC P f args (tab css) res (tab (pre ++ new)) := by
  subst hc
  intro w S loc ow vals hvs hH
  refine calls_of_wp hf hb ?_
  have hR : R w S ow (tab css) loc fn.ntmps ⟨fun i => args.getD i .undef, tab css⟩ { tmps := vals ++ Array.replicate (fn.ntmps - vals.size) undef, defers := [] } w := by
    refine ⟨S, loc, ow, ⟨hH.sS, hH.so, fun i hi => ?_, hH.bx⟩, Kept.refl w S ow, by simp; omega, rfl, fun k => ⟨Nat.le_refl _, fun _ => rfl⟩⟩
    by_cases hia : i < args.length
    · have := hH.env i hia
      have hv : valsOf { tmps := vals ++ Array.replicate (fn.ntmps - vals.size) undef, defers := [] } i = vals.getD i undef := by
        simp only [valsOf, Array.getD_eq_getD_getElem?]
        rw [Array.getElem?_append_left (by omega)]
      rw [hv]
      exact this
    · have he : args.getD i .undef = .undef := by simp [List.getD, List.getElem?_eq_none (show args.length ≤ i by omega)]
      have hv : valsOf { tmps := vals ++ Array.replicate (fn.ntmps - vals.size) undef, defers := [] } i = undef := by
        simp only [valsOf, Array.getD_eq_getD_getElem?]
        rw [Array.getElem?_append_right (by omega)]
        by_cases h2 : i - vals.size < fn.ntmps - vals.size
        · simp [h2]
        · simp [h2]
      simp only [he, hv]
      exact ⟨#[], rfl, rfl, fun m x hx => by simp at hx⟩
  refine (wpIn_wide (n := 0)).1 (wpV_sound (rd := none) hm h hR ?_)
  rintro e st a w' ⟨he, hpre, hnew, res0, hres, hwk⟩ ⟨S', loc', ow', hh, hK, hsz, hdf, hL⟩
  -- the new sight
  let m := css.length
  let locR : Nat → Nat := locRen m nk loc'
  have hren : ∀ k i, ren m nk k = some i → locR i = loc' k ∧ (tab (pre ++ new) i).2 = (st.box k).2 ∧ (k < m → i = k) := by
    intro k i hk
    unfold ren at hk
    split at hk
    · rename_i hkm
      cases hk
      refine ⟨by simp only [locR, locRen]; rw [if_pos hkm], ?_, fun _ => rfl⟩
      have hkp : k < pre.length := by omega
      have := (backL_get hpre k _ (List.getElem?_eq_getElem hkp)).1
      rw [Nat.zero_add] at this
      simp only [tab, List.getElem?_append_left hkp, this, List.getElem?_eq_getElem hkp]
    · rename_i hkm
      split at hk
      · rename_i hnk
        cases hk
        refine ⟨by simp only [locR, locRen, hnk]; rw [if_neg (Nat.lt_irrefl _)], ?_, fun h => absurd h hkm⟩
        subst hnk
        match new, hnew with
        | [cs], ⟨_, h2, _⟩ =>
          simp only [tab]
          rw [h2, List.getElem?_append_right (by omega)]
          simp [show m - pre.length = 0 by omega]
      · cases hk
  have hcell : ∀ {p q : Pl} {c : C} {u : Value}, noPtr c = true → (∀ b, ow' b = some p → owR ts m nk ow' b = some q) → RepC S' loc' st.box ow' w' p c u → RepC S' locR (tab (pre ++ new)) (owR ts m nk ow') w' q c u := fun hn hq hr => hr.tr hn hq
  have hslot : ∀ (t j : Nat), ts[j]? = some (.t t) → ∀ b, ow' b = some (.slot t 0) → owR ts m nk ow' b = some (.slot 0 j) := by
    intro t j htj b hb
    have hjl := (List.getElem?_eq_some_iff.1 htj).1
    have hte : ts[j] = .t t := (List.getElem?_eq_some_iff.1 htj).2
    have hix : ts.idxOf (.t t) = j := by rw [← hte]; exact List.Nodup.idxOf_getElem hnd j hjl
    simp only [owR, hb]
    rw [if_pos (List.mem_of_getElem? htj), hix]
  -- a value that owns nothing, or what it owns lies in the slot of the result
  have hV1 : ∀ (j i : Nat) (x y : SV) (u : Value), ((∀ b, ow' b = some (.slot i 0) → owR ts m nk ow' b = some (.slot 0 j)) ∨ ∀ e sz zs, x ≠ .c (.osl e sz zs)) → RepV S' loc' st.box ow' w' i x u → renV1 m nk st x = some y → RepV1 S' locR (tab (pre ++ new)) (owR ts m nk ow') w' 0 j y u := by
    intro j i x y u hown hr hy
    cases x with
    | c c =>
      obtain ⟨c', hc', rfl⟩ := Option.map_eq_some_iff.1 hy
      have hr' : RepC S' loc' st.box ow' w' (.slot i 0) c u := hr
      have hrest : noPtr c = true → c' = c → RepV1 S' locR (tab (pre ++ new)) (owR ts m nk ow') w' 0 j (.c c') u := by
        rintro hno rfl
        rcases hown with hown | hown
        · exact hcell (p := .slot i 0) hno hown hr'
        · have ho : isOsl c' = false := by
            cases c' with
            | osl e sz zs => exact absurd rfl (hown e sz zs)
            | _ => rfl
          exact RepC.trNo hno ho hr'
      cases c with
      | ptr k ver off =>
        simp only [renC] at hc'
        split at hc'
        · rename_i hver
          obtain ⟨i', hi, rfl⟩ := Option.map_eq_some_iff.1 hc'
          obtain ⟨ad, r1, r2, r3⟩ := hr'
          refine ⟨ad, r1, Nat.zero_le _, fun _ => ?_⟩
          rw [r3 hver, (hren k i' hi).1]
        · cases hc'
      | msl k ver off n =>
        simp only [renC] at hc'
        split at hc'
        · rename_i hver
          obtain ⟨i', hi, rfl⟩ := Option.map_eq_some_iff.1 hc'
          obtain ⟨ad, cp, r1, r2, r3, r4, r5⟩ := hr'
          refine ⟨ad, cp, r1, r2, r3, Nat.zero_le _, fun h0 => ?_⟩
          obtain ⟨b, hb, hb2⟩ := r5 h0
          exact ⟨b, hb, fun _ => by rw [hb2 hver, (hren k i' hi).1]⟩
        · cases hc'
      | fn f caps =>
        simp only [renC] at hc'
        split at hc'
        · rename_i hall
          cases hc'
          exact hrest hall rfl
        · cases hc'
      | d x => cases hc'; exact hrest rfl rfl
      | nilsl => cases hc'; exact hrest rfl rfl
      | osl e sz xs => cases hc'; exact hrest rfl rfl
      | cptr xs => cases hc'; exact hrest rfl rfl
    | agg xs =>
      simp only [renV1] at hy
      split at hy
      · rename_i hall
        cases hy
        obtain ⟨vs, hvs, hs, hmm⟩ := (show RepV1 S' loc' st.box ow' w' i 0 (.agg xs) u from hr)
        exact ⟨vs, hvs, hs, fun i' c hc => by
          obtain ⟨h1, u', hu, hru⟩ := hmm i' c hc
          exact ⟨h1, u', hu, (RepC.trNo (List.all_eq_true.1 hall c (List.mem_of_getElem? hc)) h1 hru)⟩⟩
      · cases hy
    | tup xs =>
      cases xs with
      | nil =>
        cases hy
        obtain ⟨vs, hvs, hs, _⟩ := (show ∃ vs : Array Value, u = .tuple vs ∧ vs.size = 0 ∧ _ from hr)
        refine ⟨rfl, ?_⟩
        rw [hvs, Array.eq_empty_of_size_eq_zero hs]
        rfl
      | cons _ _ => cases hy
  have hboxes : ∀ i cs, (tab (pre ++ new) i).2 = some cs → ∃ k, ren m nk k = some i ∧ (st.box k).2 = some cs ∧ cs.all noPtr = true := by
    intro i cs hi
    simp only [tab] at hi
    by_cases hip : i < pre.length
    · rw [List.getElem?_append_left hip] at hi
      have := backL_get hpre i cs hi
      rw [Nat.zero_add] at this
      refine ⟨i, ?_, by rw [this.1], this.2⟩
      simp only [ren]
      rw [if_pos (show i < m by simp only [m]; omega)]
    · rw [List.getElem?_append_right (by omega)] at hi
      match nk, new, hnew with
      | none, [], _ => simp at hi
      | some k, [cs'], ⟨h1, h2, h3⟩ =>
        have hie : i - pre.length = 0 := by
          have := (List.getElem?_eq_some_iff.1 hi).1
          simp at this
          omega
        rw [hie] at hi
        cases hi
        refine ⟨k, ?_, h2, h3⟩
        simp only [ren]
        rw [if_neg (show ¬ k < m by simp only [m]; omega), if_pos trivial]
        simp only [m, Option.some.injEq]
        omega
  have hHR : ∀ v, RepV S' locR (tab (pre ++ new)) (owR ts m nk ow') w' 0 res v → HH S' locR (owR ts m nk ow') w' 1 (fun _ => res) (fun _ => v) (tab (pre ++ new)) := by
    intro v hv
    refine ⟨hh.sS, fun b p hb => ?_, fun i hi => ?_, fun i cs hi => ?_⟩
    · unfold owR at hb
      split at hb <;> first | exact hh.so b _ ‹_› | cases hb
    · have : i = 0 := by omega
      subst this
      exact hv
    · obtain ⟨k, hk, hkc, hall⟩ := hboxes i cs hi
      obtain ⟨t, vs, b1, b2, b3, b4, b5⟩ := hh.boxAt hkc
      rw [(hren k i hk).1]
      refine ⟨t, vs, by simp only [owR, b1, hk, Option.map_some], b2, b3, b4, fun j c hc => ?_⟩
      obtain ⟨u, hu, hr⟩ := b5 j c hc
      exact ⟨u, hu, hcell (p := .bcell k j) (List.all_eq_true.1 hall c (List.mem_of_getElem? hc)) (fun b hb => by simp only [owR, hb, hk, Option.map_some]) hr⟩
  have hlocs : ∀ k, (tab css k).2.isSome = true → locR k = loc k := by
    intro k hk
    have hkm : k < m := by
      simp only [tab] at hk
      rw [Option.isSome_iff_exists] at hk
      obtain ⟨cs, hcs⟩ := hk
      exact (List.getElem?_eq_some_iff.1 hcs).1
    simp only [locR, locRen]
    rw [if_pos hkm]
    refine (hL k).2 ?_
    have hkp : k < pre.length := by omega
    have := (backL_get hpre k _ (List.getElem?_eq_getElem hkp)).1
    rw [Nat.zero_add] at this
    rw [this]
    rfl
  have hKR : Kept w S ow w' S' (owR ts m nk ow') := by
    refine ⟨hK.os, hK.tape, hK.output, hK.size, fun b hb ho => ?_, hK.stab⟩
    obtain ⟨k1, k2, k3⟩ := hK.keep b hb ho
    exact ⟨k1, by simp only [owR, k2], k3⟩
  obtain ⟨cl, cg⟩ := crs_get hts
  -- each result variable's value, and what it stands for
  have hone : ∀ (i : Nat) r t y, fn.results.toList[i]? = some r → ts[i]? = some t → (rvGet st t).bind (renV1 m nk st) = some y → ∃ u, (rvRun a.tmps r).run P w' = .ok u w' ∧ RepV1 S' locR (tab (pre ++ new)) (owR ts m nk ow') w' 0 i y u := by
    intro i r t y hr ht hy
    obtain ⟨t', ht', hcase⟩ := cg i r hr
    rw [ht] at ht'
    cases ht'
    obtain ⟨x, hx, hxy⟩ := Option.bind_eq_some_iff.1 hy
    rcases hcase with ⟨n, rfl, rfl, hn⟩ | ⟨ad, ty, agg, n, rfl, rfl, hn, hty, h1⟩
    · cases hx
      exact ⟨_, rfl, hV1 i n _ y _ (.inl (hslot n i ht)) (hh.env n hn) hxy⟩
    · simp only [rvGet] at hx
      split at hx
      · rename_i k off hpl
        split at hx
        · rename_i cs hcs
          split at hx
          · rename_i hle
            have hpv := RepV.ptr (st := st) (hh.env ad hn) hpl
            obtain ⟨ty', vs, _, hrow, _, hvsz, hrr⟩ := hh.boxAt hcs
            have hlen : ((vs.toList.drop off).take n).length = n := by simp; omega
            have hrd := run_loadVar (P := P) (w := w') (g := loc' k) (o := off) hty h1 ((vs.toList.drop off).take n) hlen (fun j u hu => by
              rw [cell_of_row w' (loc' k) (off + j) vs ty' (0, 0) hrow]
              rw [List.getElem?_take, List.getElem?_drop] at hu
              split at hu
              · simpa using hu
              · cases hu)
            have hrep : ∀ d, RepV S' loc' st.box ow' w' d x (if agg then .agg ((vs.toList.drop off).take n).toArray else ((vs.toList.drop off).take n).headD undef) := part_rep hx _ (by simp; omega) (fun j c hc' => by
              rw [List.getElem?_take, List.getElem?_drop] at hc'
              split at hc'
              · obtain ⟨u, hu, hd⟩ := hrr _ c hc'
                refine ⟨u, _, ?_, hd⟩
                rw [List.getElem?_take, if_pos ‹_›, List.getElem?_drop]
                simpa using hu
              · cases hc')
            refine ⟨_, ?_, hV1 i 0 x y _ (.inr (fun e sz zs hz => ?_)) (hrep 0) hxy⟩
            · have e1 : a.tmps.getD ad undef = valsOf a ad := rfl
              simp only [rvRun, e1, hpv, Sem.run_bind]
              exact hrd
            · subst hz
              unfold part at hx
              split at hx
              · cases hx
              · split at hx
                · split at hx
                  · simp only [Option.some.injEq, SV.c.injEq] at hx
                    have := isOsl_copy ‹C›
                    rw [hx] at this
                    simp [isOsl] at this
                  · cases hx
                · cases hx
          · cases hx
        · cases hx
      · cases hx
  have hfin : ∃ v, (results fn a.tmps).run P w' = .ok v w' ∧ RepV S' locR (tab (pre ++ new)) (owR ts m nk ow') w' 0 res0 v := by
    have hrl : fn.results.toList.length = ts.length := cl.symm
    by_cases h1 : ∃ t, ts = [t]
    · obtain ⟨t, ht⟩ := h1
      rw [ht] at hrl hres
      obtain ⟨r, hr⟩ : ∃ r, fn.results.toList = [r] := List.length_eq_one_iff.1 hrl
      obtain ⟨u, hu1, hu2⟩ := hone 0 r t res0 (by rw [hr]; rfl) (by rw [ht]; rfl) hres
      refine ⟨u, ?_, ?_⟩
      · rw [run_results a.tmps w' [u] (by rw [hr]; rfl) (fun i r' u' h1 h2 => ?_)]
        · rfl
        · rw [hr] at h1
          cases i with
          | zero => cases h1; cases h2; exact hu1
          | succ i => simp at h1
      · cases res0 with
        | c c => exact hu2
        | agg xs => exact hu2
        | tup xs =>
          obtain ⟨rfl, hu⟩ := hu2
          exact ⟨#[], hu, rfl, fun i x hx => by simp at hx⟩
    · have hres' : (renVs m nk st ts).map .tup = some res0 := by
        match ts, h1, hres with
        | [], _, hres => exact hres
        | [t], h1, _ => exact absurd ⟨t, rfl⟩ h1
        | t :: u :: r, _, hres => exact hres
      obtain ⟨ys, hys, rfl⟩ := Option.map_eq_some_iff.1 hres'
      obtain ⟨l1, l2⟩ := renVs_get hys
      have hall : ∀ i : Nat, ∃ u, ∀ r y, fn.results.toList[i]? = some r → ys[i]? = some y → (rvRun a.tmps r).run P w' = .ok u w' ∧ RepV1 S' locR (tab (pre ++ new)) (owR ts m nk ow') w' 0 i y u := by
        intro i
        by_cases hi : i < ys.length
        · obtain ⟨t, ht, hy⟩ := l2 i _ (List.getElem?_eq_getElem hi)
          have hir : i < fn.results.toList.length := by omega
          obtain ⟨u, hu1, hu2⟩ := hone i _ t _ (List.getElem?_eq_getElem hir) ht hy
          refine ⟨u, fun r y hr hy => ?_⟩
          rw [List.getElem?_eq_getElem hir] at hr
          rw [List.getElem?_eq_getElem hi] at hy
          cases hr
          cases hy
          exact ⟨hu1, hu2⟩
        · exact ⟨undef, fun r y _ hy => by rw [List.getElem?_eq_none (by omega)] at hy; cases hy⟩
      let g : Nat → Value := fun i => Classical.choose (hall i)
      have hg : ∀ i r y, fn.results.toList[i]? = some r → ys[i]? = some y → (rvRun a.tmps r).run P w' = .ok (g i) w' ∧ RepV1 S' locR (tab (pre ++ new)) (owR ts m nk ow') w' 0 i y (g i) := fun i => Classical.choose_spec (hall i)
      have hus : ((List.range ys.length).map g).length = ys.length := by simp
      refine ⟨_, run_results a.tmps w' ((List.range ys.length).map g) (by rw [hus, l1, hrl]) (fun i r u hr hu => ?_), ?_⟩
      · rw [List.getElem?_map] at hu
        obtain ⟨i', hi', rfl⟩ := Option.map_eq_some_iff.1 hu
        have hil := (List.getElem?_eq_some_iff.1 hi').1
        simp only [List.length_range] at hil
        rw [List.getElem?_range hil] at hi'
        cases hi'
        exact (hg i r _ hr (List.getElem?_eq_getElem hil)).1
      · have hne : resVal ((List.range ys.length).map g) = .tuple ((List.range ys.length).map g).toArray := by
          match hy : ((List.range ys.length).map g) with
          | [] => rfl
          | [u] =>
            exfalso
            have hl1 : ts.length = 1 := by
              have := congrArg List.length hy
              simp at this
              omega
            obtain ⟨t, ht⟩ := List.length_eq_one_iff.1 hl1
            exact h1 ⟨t, ht⟩
          | _ :: _ :: _ => rfl
        rw [hne]
        refine ⟨_, rfl, by simp, fun i y hy => ?_⟩
        have hil := (List.getElem?_eq_some_iff.1 hy).1
        have hir : i < fn.results.toList.length := by omega
        refine ⟨g i, ?_, (hg i _ y (List.getElem?_eq_getElem hir) hy).2⟩
        simp [List.getElem?_range hil]
  obtain ⟨v, hv1, hv2⟩ := hfin
  replace hv2 := hwk.rep hv2
  have hpost : a.defers = [] ∧ ∃ v, (results fn a.tmps).run P w' = .ok v w' ∧ ∃ S'' loc'' ow'' v', Ending.returned v = .returned v' ∧ Kept w S ow w' S'' ow'' ∧ HH S'' loc'' ow'' w' 1 (fun _ => res) (fun _ => v') (tab (pre ++ new)) ∧ ∀ k, (tab css k).2.isSome = true → loc'' k = loc k :=
    ⟨hdf, v, hv1, S', locR, _, v, rfl, hKR, hHR v hv2, hlocs⟩
  cases e with
  | normal => exact hpost
  | ret => exact hpost
  | exit id => exact he.elim
  | goto l => exact he.elim

end
end Go.V

