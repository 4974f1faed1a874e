/- The value machine, part 4: what the model's operations come to. -/
import Derived.Test.YtglmbheeplndpaaV3
set_option linter.all false
set_option linter.unusedSimpArgs false
set_option linter.unusedVariables false
namespace Go.V
open Go

theorem add_none (g o n : Nat) : (⟨g, o, none⟩ : Addr).add n = ⟨g, o + n, none⟩ := Addr.add_lit g o n

section
variable {P : Program} {S : Stab} {loc : Nat → Nat} {box : Tab} {ow : Nat → Option Pl} {w : World} {i : Nat}

theorem RepV.atom {x v : Value} (h : RepV S loc box ow w i (.c (.d (.v x))) v) : v = x := by
  have h' : RepD S w (.v x) v := h
  exact h'.v_inv

theorem RepV.cinv {c : C} {v : Value} (h : RepV S loc box ow w i (.c c) v) : RepC S loc box ow w (.slot i 0) c v := h

theorem RepV.elems {x : SV} {xs : List (List D)} {v : Value} (h : RepV S loc box ow w i x v) (hx : x.elems = some xs) : RepD S w (.sl xs) v := by
  cases x with
  | c c => exact RepC.toD h.cinv (C.elems_toD hx)
  | agg _ => simp [SV.elems] at hx
  | tup _ => simp [SV.elems] at hx

theorem RepV.int {x : SV} {n : Int} {v : Value} (h : RepV S loc box ow w i x v) (hx : x.int? = some n) : ∃ k, v = .int k n := by
  unfold SV.int? at hx
  split at hx
  · rename_i k m
    simp only [Option.some.injEq] at hx
    subst hx
    exact ⟨k, h.atom⟩
  · cases hx

theorem RepV.bool {x : SV} {b : Bool} {v : Value} (h : RepV S loc box ow w i x v) (hx : x.bool? = some b) : v = .bool b := by
  unfold SV.bool? at hx
  split at hx
  · simp only [Option.some.injEq] at hx
    subst hx
    exact h.atom
  · cases hx

/-! ### arithmetic -/
theorem run_vint (op : BinOp) (k : IntKind) (a : Int) (k' : IntKind) (b : Int) (r : Value) (h : vint op k a k' b = some r) (t : TypeId) :
    (binOp op t (.int k a) (.int k' b)).run P w = .ok r w ∧ r.oneCell' = true := by
  cases op <;> simp only [vint] at h <;> (try (split at h <;> try (cases h))) <;> (try (split at h <;> try (cases h))) <;>
    simp_all [binOp, Op.shift, Op.intArith, Op.intDiv, Op.intBits, Op.intCmp, Value.oneCell'] <;> (try (subst h; simp)) <;> (try omega)

theorem run_vstr (op : BinOp) (a b : ByteArray) (r : Value) (h : vstr op a b = some r) (t : TypeId) : (binOp op t (.string a) (.string b)).run P w = .ok r w ∧ r.oneCell' = true := by
  cases op <;> simp only [vstr] at h <;> (try (cases h; done))
  case add =>
    split at h
    · cases h
      refine ⟨?_, rfl⟩
      simp only [binOp, Op.stringOp]
      have hmax : IntKind.i64.max = 9223372036854775807 := by decide
      rw [if_neg (by rw [hmax]; omega)]
      rfl
    · cases h
  case eql => cases h; exact ⟨rfl, rfl⟩
  case neq => cases h; exact ⟨rfl, rfl⟩

theorem run_equalIn_bool (n : Nat) (a b : Bool) (t : TypeId) (ht : P.underlying t = some .bool) : (Op.equalIn (n + 1) t (.bool a) (.bool b)).run P w = .ok (a == b) w := by
  simp only [Op.equalIn, Sem.run_bind, run_underlying ht, Result.andThen_ok]
  rfl

theorem run_equal_bool (a b : Bool) (t : TypeId) (ht : P.underlying t = some .bool) : (Op.equal t (.bool a) (.bool b)).run P w = .ok (a == b) w :=
  run_equalIn_bool 9999 a b t ht

theorem run_vbool (op : BinOp) (a b : Bool) (r : Value) (h : vbool op a b = some r) (t : TypeId) (ht : P.underlying t = some .bool) : (binOp op t (.bool a) (.bool b)).run P w = .ok r w ∧ r.oneCell' = true := by
  cases op <;> simp only [vbool] at h <;> (try (cases h; done))
  case eql =>
    cases h
    refine ⟨?_, rfl⟩
    show (do pure (.bool (← Op.equal t (.bool a) (.bool b))) : Sem Value).run P w = _
    simp only [Sem.run_bind, run_equal_bool a b t ht, Result.andThen_ok]
    rfl
  case neq =>
    cases h
    refine ⟨?_, rfl⟩
    show (do pure (.bool (!(← Op.equal t (.bool a) (.bool b)))) : Sem Value).run P w = _
    simp only [Sem.run_bind, run_equal_bool a b t ht, Result.andThen_ok]
    rfl

theorem run_eqGuard_int (op : BinOp) (t : TypeId) (x y : Operand) (k k' : IntKind) (a b : Int) : (eqGuard op t x y (.int k a) (.int k' b)).run P w = .ok () w := by unfold eqGuard; split <;> rfl
theorem run_eqGuard_string (op : BinOp) (t : TypeId) (x y : Operand) (a b : ByteArray) : (eqGuard op t x y (.string a) (.string b)).run P w = .ok () w := by unfold eqGuard; split <;> rfl
theorem run_eqGuard_bool (op : BinOp) (t : TypeId) (x y : Operand) (a b : Bool) : (eqGuard op t x y (.bool a) (.bool b)).run P w = .ok () w := by unfold eqGuard; split <;> rfl

/-- (A) The eight operations with two operands, but for those on structs. -/
theorem run_vbin (b : Bool) (op : BinOp) (X Y : SV) (r : Value) (h : vbin b op X Y = some r) (t : TypeId) (x y : Operand) (u v : Value) {i j : Nat} (hx : RepV S loc box ow w i X u) (hy : RepV S loc box ow w j Y v)
    (ht : b = true → P.underlying t = some .bool) :
    (do eqGuard op t x y u v; binOp op t u v : Sem Value).run P w = .ok r w ∧ r.oneCell' = true := by
  unfold vbin at h
  split at h
  · rw [hx.atom, hy.atom]
    have := run_vint (P := P) (w := w) op _ _ _ _ r h t
    refine ⟨?_, this.2⟩
    simp only [Sem.run_bind, run_eqGuard_int, Result.andThen_ok]
    exact this.1
  · rw [hx.atom, hy.atom]
    have := run_vstr (P := P) (w := w) op _ _ r h t
    refine ⟨?_, this.2⟩
    simp only [Sem.run_bind, run_eqGuard_string, Result.andThen_ok]
    exact this.1
  · split at h
    · rw [hx.atom, hy.atom]
      have := run_vbool (P := P) (w := w) op _ _ r h t (ht ‹_›)
      refine ⟨?_, this.2⟩
      simp only [Sem.run_bind, run_eqGuard_bool, Result.andThen_ok]
      exact this.1
    · cases h
  · cases h

theorem run_vun (op : UnOp) (X : SV) (r : Value) (h : vun op X = some r) (u : Value) (hx : RepV S loc box ow w i X u) : (Op.unary op u).run P w = .ok r w ∧ r.oneCell' = true := by
  unfold vun at h
  split at h
  · rw [hx.atom]
    cases op <;> simp only at h <;> (try (cases h; done))
    cases h; exact ⟨rfl, rfl⟩
  · rw [hx.atom]
    cases op <;> simp only at h <;> (try (cases h; done))
    · cases h; exact ⟨rfl, rfl⟩
    · cases h; exact ⟨rfl, rfl⟩
  · cases h

theorem run_vconv (k : IntKind) (X : SV) (r : Value) (h : vconv k X = some r) (u : Value) (hx : RepV S loc box ow w i X u) (src dst : TypeId) (d : TypeDesc) (hs : P.underlying src = some d) (hd : P.underlying dst = some (.int k)) :
    (convert src dst u).run P w = .ok r w ∧ r.oneCell' = true := by
  unfold vconv at h
  split at h
  · rw [hx.atom]
    cases h
    refine ⟨?_, rfl⟩
    simp only [convert, Sem.run_bind, run_underlying hs, run_underlying hd, Result.andThen_ok]
    rfl
  · cases h

theorem run_mm (isMax : Bool) (k : IntKind) (a b : Int) (ts : Array TypeId) (t : TypeId) :
    ((if isMax then Builtin.max_ else Builtin.min_) ts t #[.int k a, .int k b]).run P w = .ok (.int k (if isMax then (if b > a then b else a) else (if b < a then b else a))) w := by
  cases isMax <;> simp [Builtin.max_, Builtin.min_, Builtin.max2, Builtin.min2]

end
end Go.V

