/- The value machine, part 17: a region's instructions, in the order of the text or in whatever order the model draws. -/
import Derived.Test.YtglmbheeplndpaaV16
import Derived.Orders
import Derived.OrdersIn
import Derived.CallsIn
set_option linter.all false
set_option linter.unusedSimpArgs false
set_option linter.unusedVariables false
namespace Go.V
open Go

def callable (P : Program) (f : FuncId) : Bool :=
  match P.funcs[f]? with
  | some fn => fn.body.isSome && !(fn.name == "runtime.NumGoroutine")
  | none => false

/-- A call by contract. -/
def CallStep (P : Program) (f : FuncId) (xs : List SV) (st : VSt) (d : Nat) (out : Out) : Prop :=
  callable P f = true ∧ ∃ ks as res bx' val, ks.Nodup ∧ (∀ k ∈ ks, lentOk st.box k = true) ∧ ArgsTo ks st.box xs as ∧ PC P f as (lent ks st.box) res bx' ∧ (2 * d + 1) ∉ ks ∧
    resV ks st.box (2 * d + 1) bx' res = some val ∧ (∀ i, i ≤ ks.length → backOk bx' i = true) ∧ out = callOut ks st.box (2 * d + 1) val bx'

/-- The function that a value is, and what it has captured. -/
def SV.fn? : SV → Option (FuncId × List SV)
  | .c (.d (.v (.func (.func f) first cap))) => if first.size = 0 ∧ cap.size = 0 then some (f, []) else none
  | .c (.fn f caps) => some (f, caps.map fun k => .c k.c)
  | _ => none

def VStep (P : Program) (i : VI) (st : VSt) (out : Out) : Prop :=
  match i.op, i.dst with
  | .call f args, some d => CallStep P f (args.map (·.get st.env)) st d out
  | .callV fn args, some d => ∃ f caps, (fn.get st.env).fn? = some (f, caps) ∧ CallStep P f (args.map (·.get st.env) ++ caps) st d out
  | op, _ => vexec op st = some out

/-- Is the operation done at all? -/
def gtest (env : Nat → SV) : Option (Nat × Bool) → Option Bool
  | none => some true
  | some (t, want) =>
    match env t with
    | .c (.d (.v (.bool b))) => some (b == want)
    | .tup [] => some false
    | _ => none

def VEff (P : Program) (i : VI) (st : VSt) (out : Out) : Prop :=
  (gtest st.env i.guard = some true ∧ VStep P i st out) ∨ (gtest st.env i.guard = some false ∧ out = { val := .undef })

/-- An operation with its guard. -/
def cinstr (P : Program) (N : Nat) (takes : List Nat) (ops : Array Oper) (o : Oper) : Option VI :=
  match (match callOf N o with
    | some op => some op
    | none => match cop P N (match o.dst with | some d => takes.contains d | none => false) o with | some op => if isCall op then none else some op | none => none) with
  | some op =>
    match o.guard with
    | none => some { dst := o.dst, guard := none, op := op }
    | some (j, want) =>
      match (ops[j]?).bind (·.dst) with
      | some t => if t < N then some { dst := o.dst, guard := some (t, want), op := op } else none
      | none => none
  | none => none

section
variable (P : Program) (w0 : World) (S0 : Stab) (ow0 : Nat → Option Pl) (bx0 : Tab) (loc0 : Nat → Nat) (N : Nat)

/-- The slots, the boxes and the memory stand for the state; what was not lent has stayed. -/
def R (st : VSt) (a : Act) (w : World) : Prop :=
  ∃ S loc ow, HH S loc ow w N st.env (valsOf a) st.box ∧ Kept w0 S0 ow0 w S ow ∧ a.tmps.size = N ∧ a.defers = [] ∧ ∀ k, (bx0 k).1 ≤ (st.box k).1 ∧ ((st.box k).1 = (bx0 k).1 → loc k = loc0 k)
end

section
variable {P : Program} {w0 : World} {S0 : Stab} {ow0 : Nat → Option Pl} {bx0 : Tab} {loc0 : Nat → Nat} {N : Nat}

/-- The fence that lets all in; it says alone in which round of a range over a function the code stands. -/
def FW (r : Option Nat) : Fence := { Fence.wide with round := r }

theorem callsIn_FW {r : Option Nat} {n : Nat} {P : Program} {f : FuncId} {args : Array Value} {w : World} {Q : Ending → World → Prop} (h : Calls P f args w Q) : CallsIn (FW r) n P f args w Q :=
  (callsIn_wide (n := n)).2 h

theorem calls_FW {r : Option Nat} {n : Nat} {P : Program} {f : FuncId} {args : Array Value} {w : World} {Q : Ending → World → Prop} (h : CallsIn (FW r) n P f args w Q) : Calls P f args w Q :=
  (callsIn_wide (n := n)).1 h

variable {rd : Option Nat} {nn : Nat}

theorem valsOf_put (a : Act) (dst : Option Nat) (v : Value) (i : Nat) (hi : i < a.tmps.size) : valsOf (a.put dst v) i = if dst = some i then v else valsOf a i := by
  cases dst with
  | none => simp [valsOf, Act.put]
  | some d =>
    simp only [valsOf, Act.put, Array.getD_eq_getD_getElem?, Option.some.injEq]
    rw [Array.getElem?_setIfInBounds]
    split
    · rename_i h
      subst h
      simp [hi]
    · rfl

theorem put_size (a : Act) (dst : Option Nat) (v : Value) : (a.put dst v).tmps.size = a.tmps.size := by cases dst <;> simp [Act.put]
theorem put_defers (a : Act) (dst : Option Nat) (v : Value) : (a.put dst v).defers = a.defers := by cases dst <;> rfl

theorem R.drew {st : VSt} {a : Act} {w : World} (h : R w0 S0 ow0 bx0 loc0 N st a w) : R w0 S0 ow0 bx0 loc0 N st a w.drew := by
  obtain ⟨S, loc, ow, h1, h2, h3, h4⟩ := h
  exact ⟨S, loc, ow, h1.drew, h2.trans (Kept.drew w S ow), h3, h4⟩

/-- A value without memory goes into a slot. -/
theorem R.skip {st : VSt} {a : Act} {w : World} (h : R w0 S0 ow0 bx0 loc0 N st a w) (dst : Option Nat) : R w0 S0 ow0 bx0 loc0 N (st.app dst { val := .undef }) (a.put dst undef) w := by
  obtain ⟨S, loc, ow, h1, h2, h3, h4, h5⟩ := h
  refine ⟨S, loc, ow, ?_, h2, by rw [put_size]; exact h3, by rw [put_defers]; exact h4, h5⟩
  exact h1.put dst .undef undef (fun d _ => ⟨#[], rfl, rfl, fun m x hx => by simp at hx⟩) _ (fun i hi => valsOf_put a dst undef i (by omega))

theorem locTrans {box box' : Tab} {loc loc' : Nat → Nat} (h : ∀ k, (bx0 k).1 ≤ (box k).1 ∧ ((box k).1 = (bx0 k).1 → loc k = loc0 k)) (h' : ∀ k, (box k).1 ≤ (box' k).1 ∧ ((box' k).1 = (box k).1 → loc' k = loc k)) :
    ∀ k, (bx0 k).1 ≤ (box' k).1 ∧ ((box' k).1 = (bx0 k).1 → loc' k = loc0 k) := by
  intro k
  obtain ⟨a1, a2⟩ := h k
  obtain ⟨b1, b2⟩ := h' k
  exact ⟨by omega, fun e => (b2 (by omega)).trans (a2 (by omega))⟩

theorem does_R {o : Oper} {st : VSt} {a : Act} {w : World} {out : Out} {S : Stab} {ow : Nat → Option Pl} {loc : Nat → Nat} (hK : Kept w0 S0 ow0 w S ow) (hsz : a.tmps.size = N) (hdf : a.defers = []) (hL : ∀ k, (bx0 k).1 ≤ (st.box k).1 ∧ ((st.box k).1 = (bx0 k).1 → loc k = loc0 k)) {dst : Option Nat} (hdst : o.dst = dst)
    (hnd : ∀ c, o.op ≠ .defer c) (hd : Does P (execOp a.eval o) N st (valsOf a) S loc ow w dst out) {K : Act → World → Prop} {Q : Exit → Act → World → Prop} (hk : ∀ a' w', R w0 S0 ow0 bx0 loc0 N (st.app dst out) a' w' → K a' w') : o.wpIn (FW rd) nn P a w K Q := by
  subst hdst
  obtain ⟨v, w', S', loc', ow', hrun, hkept, hloc, hh⟩ := hd
  have hR : R w0 S0 ow0 bx0 loc0 N (st.app o.dst out) (a.put o.dst v) w' :=
    ⟨S', loc', ow', hh _ (fun i hi => valsOf_put a o.dst v i (by omega)), hK.trans hkept, by rw [put_size]; exact hsz, by rw [put_defers]; exact hdf, locTrans hL hloc⟩
  refine ⟨fun _ _ => trivial, ?_⟩
  rw [Oper.semAt_eq _ _ _ hnd]
  rcases hrun with hrun | ⟨hrun, rfl⟩
  · rw [hrun]
    exact hk _ _ hR
  · rw [hrun]
    exact hk _ _ hR

theorem run_callFunc {f : FuncId} (hc : callable P f = true) (args : Array Value) (w : World) : (callFunc f args).run P w = .ok (.enter f args) w := by
  unfold callable at hc
  split at hc
  · rename_i fn hf
    simp only [Bool.and_eq_true, Bool.not_eq_true'] at hc
    have hb : fn.body.isNone = false := by
      have := hc.1
      cases hfb : fn.body with
      | none => rw [hfb] at this; cases this
      | some _ => rfl
    simp only [callFunc, Sem.run_bind, run_program, Result.andThen_ok, hf, hc.2, hb, Bool.false_eq_true, if_false]
    rfl
  · cases hc

theorem cxs_rep {a : Act} {S : Stab} {loc : Nat → Nat} {ow : Nat → Option Pl} {w : World} {st : VSt} (h : HH S loc ow w N st.env (valsOf a) st.box) : ∀ {xs : List Operand} {ys : List VX}, cxs N xs = some ys →
    xs.length = ys.length ∧ ∀ (i : Nat) x, (ys.map (·.get st.env))[i]? = some x → ∃ j o, xs[i]? = some o ∧ RepV S loc st.box ow w j x (a.eval o)
  | [], ys, hc => by cases hc; exact ⟨rfl, fun i x hx => by simp at hx⟩
  | x :: xs, ys, hc => by
    simp only [cxs] at hc
    split at hc
    · rename_i y ys' hy hys
      cases hc
      obtain ⟨h1, h2⟩ := cxs_rep h hys
      refine ⟨by simp [h1], fun i z hz => ?_⟩
      cases i with
      | zero => cases hz; exact ⟨_, x, rfl, (cx_rep h hy).1⟩
      | succ i => exact h2 i z (by simpa using hz)
    · cases hc

theorem callStep_R {o : Oper} {st : VSt} {a : Act} {w : World} {out : Out} {f : FuncId} {c : Call} (hop : o.op = .call c) {d : Nat} (hd : o.dst = some d) {args : List VX} (hargs : cxs N c.args.toList = some args) {fv : Operand} (hfv : c.callee = .value fv) {caps : List SV}
    (hval : ∀ S loc ow, HH S loc ow w N st.env (valsOf a) st.box → ∃ cap, a.eval fv = .func (.func f) #[] cap ∧ cap.size = caps.length ∧ ∀ (j : Nat) x, caps[j]? = some x → ∃ i, RepV S loc st.box ow w i x (cap.getD j undef))
    (hR : R w0 S0 ow0 bx0 loc0 N st a w) (hs : CallStep P f (args.map (·.get st.env) ++ caps) st d out)
    {K : Act → World → Prop} {Q : Exit → Act → World → Prop} (hk : ∀ a' w', R w0 S0 ow0 bx0 loc0 N (st.app (some d) out) a' w' → K a' w') : o.wpIn (FW rd) nn P a w K Q := by
  obtain ⟨S, loc, ow, hh, hK, hsz, hdf, hL⟩ := hR
  obtain ⟨hcall, ks, as, res, bx', val, h1, h2, h3, h4, h5, h6, h7, rfl⟩ := hs
  obtain ⟨cap, hcv, hcs, hcr⟩ := hval S loc ow hh
  have hex := exec_func (ρ := a.eval) hop hfv hcv
  obtain ⟨l1, l2⟩ := cxs_rep hh hargs
  have hlen : args.length = c.args.size := by rw [← l1, Array.length_toList (xs := c.args)]
  have hus : (c.args.map a.eval ++ cap).size = (args.map (·.get st.env) ++ caps).length := by
    simp only [Array.size_append, Array.size_map, List.length_append, List.length_map, hlen, hcs]
  have hcs := call_sound hh (us := c.args.map a.eval ++ cap) h1 h2 hus (fun i x hx => by
    by_cases hi : i < (args.map (·.get st.env)).length
    · rw [List.getElem?_append_left hi] at hx
      obtain ⟨j, o', ho', hr⟩ := l2 i x hx
      refine ⟨j, ?_⟩
      have : (c.args.map a.eval ++ cap).getD i undef = a.eval o' := by
        have ho2 : c.args[i]? = some o' := by simpa using ho'
        have hi2 : i < c.args.size := (Array.getElem?_eq_some_iff.1 ho2).1
        rw [Array.getD_eq_getD_getElem?, Array.getElem?_append_left (by simpa using hi2)]
        simp [ho2]
      rw [this]
      exact hr
    · rw [List.getElem?_append_right (by omega)] at hx
      simp only [List.length_map, Nat.not_lt] at hi hx
      obtain ⟨j, hr⟩ := hcr _ x hx
      refine ⟨j, ?_⟩
      have : (c.args.map a.eval ++ cap).getD i undef = cap.getD (i - args.length) undef := by
        rw [Array.getD_eq_getD_getElem?, Array.getD_eq_getD_getElem?, Array.getElem?_append_right (by simp; omega)]
        simp [hlen]
      rw [this]
      exact hr) h3 h4 h5 h6 h7 (d := d)
  refine ⟨fun _ _ => trivial, ?_⟩
  rw [Oper.semAt_eq _ _ _ (fun c' h => by rw [hop] at h; cases h), hex, run_callFunc hcall]
  rw [Oper.uponIn_enter]
  refine ⟨fun h => (by cases h), callsIn_FW ?_⟩
  refine hcs.mono ?_
  rintro e w' ⟨v, S', loc', ow', rfl, hk2, hl2, hh2⟩
  rw [hd]
  exact hk _ _ ⟨S', loc', ow', hh2 _ (fun i hi => valsOf_put a (some d) v i (by omega)), hK.trans hk2, by rw [put_size]; exact hsz, by rw [put_defers]; exact hdf, locTrans hL hl2⟩

theorem yielded_at {ops : Array Oper} {tmps : Array Value} {j t : Nat} (hj : (ops[j]?).bind (·.dst) = some t) : yielded ops tmps j = match tmps[t]? with | some (.bool b) => some b | _ => none := by
  unfold yielded
  rw [hj]
  rfl

theorem guard_wanted {ops : Array Oper} {o : Oper} {st : VSt} {a : Act} {w : World} (hR : R w0 S0 ow0 bx0 loc0 N st a w) {takes : List Nat} {i : VI} (hc : cinstr P N takes ops o = some i) {b : Bool} (hg : gtest st.env i.guard = some b) :
    Region.wanted o (yielded ops a.tmps) = b := by
  unfold cinstr at hc
  split at hc
  · split at hc
    · rename_i hog
      cases hc
      cases hg
      simp [Region.wanted, hog]
    · rename_i j want hog
      split at hc
      · rename_i t ht
        split at hc
        · rename_i htN
          cases hc
          simp only [Region.wanted, hog, yielded_at ht]
          obtain ⟨S, loc, ow, hh, _, hsz, _⟩ := hR
          have hv := hh.env t htN
          have hget : a.tmps[t]? = some (valsOf a t) := by
            have : t < a.tmps.size := by rw [hsz]; exact htN
            simp [valsOf, Array.getD_eq_getD_getElem?, Array.getElem?_eq_getElem this]
          simp only [gtest] at hg
          split at hg
          · rename_i b' hb'
            cases hg
            rw [hb'] at hv
            rw [hget, hv.atom]
            cases b' <;> cases want <;> rfl
          · rename_i hu
            cases hg
            rw [hu] at hv
            obtain ⟨vs, hvs, _, _⟩ := hv
            rw [hget, hvs]
            rfl
          · cases hg
        · cases hc
      · cases hc
  · cases hc

theorem cinstr_op {takes : List Nat} {ops : Array Oper} {o : Oper} {i : VI} (hc : cinstr P N takes ops o = some i) : i.dst = o.dst ∧ (callOf N o = some i.op ∨ (isCall i.op = false ∧ ∃ tk, cop P N tk o = some i.op)) := by
  unfold cinstr at hc
  split at hc
  · rename_i op hop
    have key : callOf N o = some op ∨ (isCall op = false ∧ ∃ tk, cop P N tk o = some op) := by
      split at hop
      · rename_i op' h'
        cases hop
        exact .inl h'
      · split at hop
        · rename_i op' h'
          split at hop
          · cases hop
          · rename_i hn
            cases hop
            exact .inr ⟨by simpa using hn, _, h'⟩
        · cases hop
    split at hc
    · cases hc
      exact ⟨rfl, key⟩
    · split at hc
      · split at hc
        · cases hc
          exact ⟨rfl, key⟩
        · cases hc
      · cases hc
  · cases hc

theorem fn_rep {S : Stab} {loc : Nat → Nat} {box : Tab} {ow : Nat → Option Pl} {w : World} {j : Nat} {x : SV} {v : Value} {f : FuncId} {caps : List SV} (hr : RepV S loc box ow w j x v) (hf : x.fn? = some (f, caps)) :
    ∃ cap, v = .func (.func f) #[] cap ∧ cap.size = caps.length ∧ ∀ (j : Nat) x, caps[j]? = some x → ∃ i, RepV S loc box ow w i x (cap.getD j Go.undef) := by
  unfold SV.fn? at hf
  split at hf
  · rename_i f' first cap
    split at hf
    · rename_i hc
      cases hf
      refine ⟨#[], ?_, rfl, fun j x hx => by simp at hx⟩
      rw [hr.atom, Array.eq_empty_of_size_eq_zero hc.1, Array.eq_empty_of_size_eq_zero hc.2]
    · cases hf
  · rename_i f' ks
    cases hf
    obtain ⟨vs, r1, r2, r3⟩ := hr.cinv
    refine ⟨vs, r1, by simpa using r2, fun j x hx => ?_⟩
    rw [List.getElem?_map] at hx
    obtain ⟨k, hk, rfl⟩ := Option.map_eq_some_iff.1 hx
    obtain ⟨u, hu, hru⟩ := r3 j k hk
    refine ⟨0, ?_⟩
    have e : vs.getD j Go.undef = u := by simp [Array.getD_eq_getD_getElem?, hu]
    rw [e]
    cases k with
    | d x => exact hru
    | ptr k ver off => exact hru
  · cases hf

theorem callOf_nd {o : Oper} {op : VOp} (h : callOf N o = some op) (c : Call) : o.op ≠ .defer c := by
  intro he
  unfold callOf at h
  rw [he] at h
  cases h

theorem cop_nd {tk : Bool} {o : Oper} {op : VOp} (h : cop P N tk o = some op) (c : Call) : o.op ≠ .defer c := by
  intro he
  unfold cop at h
  rw [he] at h
  cases h

theorem instr_sound {takes : List Nat} {ops : Array Oper} {n : Nat} {o : Oper} (ho : ops[n]? = some o) {i : VI} (hc : cinstr P N takes ops o = some i) {st : VSt} {a : Act} {w : World} (hR : R w0 S0 ow0 bx0 loc0 N st a w) {out : Out} (he : VEff P i st out)
    {K : Act → World → Prop} {Q : Exit → Act → World → Prop} (hk : ∀ a' w', R w0 S0 ow0 bx0 loc0 N (st.app i.dst out) a' w' → K a' w') : wpOpIn (FW rd) nn P ops Q n K a w := by
  obtain ⟨hdst, hop⟩ := cinstr_op hc
  unfold wpOpIn
  rw [ho]
  simp only
  rcases he with ⟨hg, hs⟩ | ⟨hg, rfl⟩
  · rw [guard_wanted hR hc hg]
    simp only [if_true]
    rcases hop with hop | ⟨hnc, tk, hop⟩
    · -- a call
      unfold callOf at hop
      split at hop
      · rename_i c d hoc hod
        split at hop
        · rename_i f hcal
          obtain ⟨args, hargs, hiop⟩ := Option.map_eq_some_iff.1 hop
          unfold VStep at hs
          rw [← hiop, hdst, hod] at hs
          rw [hdst, hod] at hk
          exact callStep_R hoc hod hargs hcal (caps := []) (fun _ _ _ _ => ⟨#[], rfl, rfl, fun j x hx => by simp at hx⟩) hR (by simpa using hs) hk
        · rename_i x hnf hcal
          split at hop
          · rename_i y args hy hargs
            simp only [Option.some.injEq] at hop
            unfold VStep at hs
            rw [← hop, hdst, hod] at hs
            rw [hdst, hod] at hk
            obtain ⟨f, caps, hf, hs⟩ := hs
            exact callStep_R hoc hod hargs hcal (fun S loc ow hh => fn_rep (cx_rep hh hy).1 hf) hR hs hk
          · cases hop
        · cases hop
      · cases hop
    · have hv : vexec i.op st = some out := by
        unfold VStep at hs
        split at hs
        · rename_i h _; rw [h] at hnc; cases hnc
        · rename_i h _; rw [h] at hnc; cases hnc
        · exact hs
      obtain ⟨S, loc, ow, hh, hK, hsz, hdf, hL⟩ := hR
      exact does_R hK hsz hdf hL hdst.symm (cop_nd hop) (hdst ▸ step_sound hh hop hv) hk
  · rw [guard_wanted hR hc hg]
    simp only [Bool.false_eq_true, if_false]
    rw [← hdst]
    exact ⟨fun _ _ => trivial, hk _ _ (hR.skip i.dst)⟩

/-- A list of instructions, one behind the other. -/
def Runs (P : Program) : List VI → VSt → List Out → Prop
  | [], _, [] => True
  | i :: is, st, o :: os => VEff P i st o ∧ Runs P is (st.app i.dst o) os
  | _, _, _ => False

def finalOf : List VI → List Out → VSt → VSt
  | i :: is, o :: os, st => finalOf is os (st.app i.dst o)
  | _, _, st => st

/-- The operations and their instructions. -/
def Instrs (P : Program) (N : Nat) (takes : List Nat) (ops : Array Oper) : List Oper → List VI → Prop
  | [], [] => True
  | o :: r, i :: is => cinstr P N takes ops o = some i ∧ Instrs P N takes ops r is
  | _, _ => False

def cinstrs (P : Program) (N : Nat) (takes : List Nat) (ops : Array Oper) : List Oper → Option (List VI)
  | [] => some []
  | o :: r => match cinstr P N takes ops o, cinstrs P N takes ops r with | some i, some is => some (i :: is) | _, _ => none

theorem cinstrs_spec {takes : List Nat} {ops : Array Oper} : ∀ {l : List Oper} {is : List VI}, cinstrs P N takes ops l = some is → Instrs P N takes ops l is
  | [], is, h => by cases h; trivial
  | o :: r, is, h => by
    simp only [cinstrs] at h
    split at h
    · rename_i i is' h1 h2
      cases h
      exact ⟨h1, cinstrs_spec h2⟩
    · cases h

/-- In the order of the text. -/
theorem ops_sound {takes : List Nat} {ops : Array Oper} {Q : Exit → Act → World → Prop} : ∀ (l : List Oper) (is : List VI) (k : Nat) (st : VSt) (os : List Out) (a : Act) (w : World), (∀ j, l[j]? = ops[k + j]?) → Instrs P N takes ops l is → Runs P is st os →
    R w0 S0 ow0 bx0 loc0 N st a w → (∀ a' w', R w0 S0 ow0 bx0 loc0 N (finalOf is os st) a' w' → Q .normal a' w') → wpOpsIn (FW rd) nn P ops Q (List.range' k l.length) a w
  | [], [], k, st, [], a, w, _, _, _, hR, hq => by
    simp only [List.length_nil, List.range'_zero, wpOpsIn]
    exact hq a w hR
  | o :: r, i :: is, k, st, ou :: os, a, w, hl, hi, hr, hR, hq => by
    simp only [List.length_cons, List.range'_succ]
    rw [wpOpsIn_cons]
    have h0 : ops[k]? = some o := by simpa using (hl 0).symm
    refine instr_sound h0 hi.1 hR hr.1 (fun a' w' hR' => ?_)
    exact ops_sound r is (k + 1) _ os a' w' (fun j => by have := hl (j + 1); simpa [Nat.add_assoc, Nat.add_comm 1 j] using this) hi.2 hr.2 hR' hq
  | [], _ :: _, _, _, _, _, _, _, hi, _, _, _ => by cases hi
  | _ :: _, [], _, _, _, _, _, _, hi, _, _, _ => by cases hi
  | [], [], _, _, _ :: _, _, _, _, _, hr, _, _ => by cases hr
  | _ :: _, _ :: _, _, _, [], _, _, _, _, hr, _, _ => by cases hr

theorem region_sound {takes : List Nat} {id : Nat} {ops : Array Oper} {is : List VI} (hc : cinstrs P N takes ops ops.toList = some is) {st : VSt} {os : List Out} (hr : Runs P is st os) {a : Act} {w : World} (hR : R w0 S0 ow0 bx0 loc0 N st a w) {Q : Exit → Act → World → Prop}
    (hq : ∀ a' w', R w0 S0 ow0 bx0 loc0 N (finalOf is os st) a' w' → Q .normal a' w') : (Code.region id ops false).wpIn (FW rd) nn P Q a w := by
  refine wpIn_region ?_
  rw [List.range_eq_range', ← Array.length_toList]
  exact ops_sound ops.toList is 0 st os a w (fun j => by simp) (cinstrs_spec hc) hr hR hq

end
end Go.V

