/- The value machine, part 24: what a walk over printed code uses. -/
import Derived.Test.YtglmbheeplndpaaV23
set_option linter.all false
set_option linter.unusedSimpArgs false
set_option linter.unusedVariables false
namespace Go.V
open Go

def bodyOf (fn : Func) : Code := match fn.body with | some c => c | none => .skip

/-- What a function's code comes to, as a walk wants it. -/
def Fin (m : Nat) (nk : Option Nat) (pre new : List (List C)) (ts : List RV) (res : SV) : VQ
  | .normal, st => backL st 0 pre ∧ newL st m nk new ∧ ∃ r, resOf m nk st ts = some r ∧ wkV r res
  | .ret, st => backL st 0 pre ∧ newL st m nk new ∧ ∃ r, resOf m nk st ts = some r ∧ wkV r res
  | _, _ => False

/-- The facts of a function that its contract needs. -/
structure Fn (P : Program) (f : FuncId) (fn : Func) (n : Nat) (takes : List Nat) (ts : List RV) (v : VC) : Prop where
  hm : P.follows .mixedOrders = true
  hf : P.funcs[f]? = some fn
  hb : fn.body.isSome = true
  hc : cc P fn.ntmps takes (bodyOf fn) = v
  hts : crs P fn.ntmps fn.results.toList = some ts
  hnd : ts.Nodup
  hn : n ≤ fn.ntmps

theorem Fn.pc {P : Program} {f : FuncId} {fn : Func} {n : Nat} {takes : List Nat} {ts : List RV} {v : VC} (F : Fn P f fn n takes ts v) {args : List SV} (hN : args.length ≤ n) {css pre new : List (List C)} {res : SV} (hlen : pre.length = css.length) (nk : Option Nat)
    (h : wpV P v (Fin css.length nk pre new ts res) ⟨fun i => args.getD i .undef, tab css⟩) : PC P f args (tab css) res (tab (pre ++ new)) := by
  have hb : fn.body = some (bodyOf fn) := by
    have := F.hb
    unfold bodyOf
    cases h : fn.body with
    | some c => rfl
    | none => rw [h] at this; cases this
  refine pc_intro F.hm F.hf hb takes F.hc F.hts F.hnd (Nat.le_trans hN F.hn) hlen nk (wpV_mono (fun e st he => ?_) h)
  cases e with
  | normal => exact ⟨trivial, he⟩
  | ret => exact ⟨trivial, he⟩
  | exit id => exact he.elim
  | goto l => exact he.elim

/-- A function that has no boxes to do with. -/
theorem Fn.pc0 {P : Program} {f : FuncId} {fn : Func} {n : Nat} {takes : List Nat} {ts : List RV} {v : VC} (F : Fn P f fn n takes ts v) {args : List SV} (hN : args.length ≤ n) {res : SV}
    (h : wpV P v (Fin 0 none [] [] ts res) ⟨fun i => args.getD i .undef, tab []⟩) : PC P f args (tab []) res (tab []) := F.pc (css := []) (pre := []) (new := []) hN rfl none h

end Go.V

