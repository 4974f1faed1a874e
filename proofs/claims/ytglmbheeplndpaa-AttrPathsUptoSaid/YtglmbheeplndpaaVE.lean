/- The value machine: the model's operations, one equation each. -/
import Derived.Test.YtglmbheeplndpaaV13
set_option linter.all false
set_option linter.unusedSimpArgs false
set_option linter.unusedVariables false
namespace Go.V
open Go

theorem exec_move {ρ : Operand → Value} {o : Oper} {x : Operand} (h : o.op = .move x) : execOp ρ o = pure (.value (ρ x)) := by
  unfold execOp
  rw [h]

theorem exec_assign {ρ : Operand → Value} {o : Oper} {x : Operand} (h : o.op = .assign x) : execOp ρ o = pure (.value (ρ x)) := by
  unfold execOp
  rw [h]

theorem exec_pick {ρ : Operand → Value} {o : Oper} {c a b : Operand} (h : o.op = .pick c a b) : execOp ρ o = (do pure (.value (if ← asBool (ρ c) then ρ a else ρ b))) := by
  unfold execOp
  rw [h]

theorem exec_alloc {ρ : Operand → Value} {o : Oper} {e : TypeId} (h : o.op = .alloc e) : execOp ρ o = (do pure (.value (← Instr.alloc e true (.tuple #[])))) := by
  unfold execOp
  rw [h]

theorem exec_box {ρ : Operand → Value} {o : Oper} {e : TypeId} {x : Operand} (h : o.op = .box e x) : execOp ρ o = (do pure (.value (← Instr.box e (ρ x)))) := by
  unfold execOp
  rw [h]

theorem exec_build {ρ : Operand → Value} {o : Oper} {t : TypeId} {ps : Array (Nat × Operand)} (h : o.op = .build t ps) : execOp ρ o = (do pure (.value (← Instr.build t (ps.map fun (i, x) => (i, ρ x))))) := by
  unfold execOp
  rw [h]

theorem exec_buildSlice {ρ : Operand → Value} {o : Oper} {t len : Nat} {ps : Array (Nat × Operand)} (h : o.op = .buildSlice t len ps) : execOp ρ o = (do pure (.value (← Instr.buildSlice t len (ps.map fun (i, x) => (i, ρ x))))) := by
  unfold execOp
  rw [h]

theorem exec_load {ρ : Operand → Value} {o : Oper} {t : TypeId} {x : Operand} (h : o.op = .load t x) : execOp ρ o = (do pure (.value (← Instr.loadAt t (ρ x)))) := by
  unfold execOp
  rw [h]

theorem exec_store {ρ : Operand → Value} {o : Oper} {t : TypeId} {x y : Operand} (h : o.op = .store t x y) : execOp ρ o = (do Instr.storeAt t (ρ x) (ρ y); pure .skip) := by
  unfold execOp
  rw [h]

theorem exec_binOp {ρ : Operand → Value} {o : Oper} {op : BinOp} {t t2 : TypeId} {x y : Operand} (h : o.op = .binOp op t x y t2) : execOp ρ o = (do pure (.value (← (do eqGuard op t x y (ρ x) (ρ y); binOp op t (ρ x) (ρ y) : Sem Value)))) := by
  unfold execOp
  rw [h]

theorem exec_unOp {ρ : Operand → Value} {o : Oper} {op : UnOp} {t : TypeId} {x : Operand} (h : o.op = .unOp op t x) : execOp ρ o = (do pure (.value (← Op.unary op (ρ x)))) := by
  unfold execOp
  rw [h]

theorem exec_convert {ρ : Operand → Value} {o : Oper} {s d : TypeId} {x : Operand} (h : o.op = .convert s d x) : execOp ρ o = (do pure (.value (← convert s d (ρ x)))) := by
  unfold execOp
  rw [h]

theorem exec_slice {ρ : Operand → Value} {o : Oper} {t : TypeId} {x : Operand} {lo hi mx : Option Operand} (h : o.op = .slice t x lo hi mx) : execOp ρ o = (do pure (.value (← Instr.sliceAt t (ρ x) (lo.map ρ) (hi.map ρ) (mx.map ρ)))) := by
  unfold execOp
  rw [h]

theorem exec_makeFunc {ρ : Operand → Value} {o : Oper} {f : Fn} {first captured : Array Operand} (h : o.op = .makeFunc f first captured) : execOp ρ o = (do pure (.value (← Instr.makeFunc f (first.map ρ) (captured.map ρ)))) := by
  unfold execOp
  rw [h]

theorem exec_fieldAddr {ρ : Operand → Value} {o : Oper} {s : TypeId} {x : Operand} {f : Nat} (h : o.op = .fieldAddr s x f) : execOp ρ o = (do pure (.value (← Instr.fieldAt s (ρ x) f))) := by
  unfold execOp
  rw [h]

theorem exec_field {ρ : Operand → Value} {o : Oper} {s : TypeId} {x : Operand} {f : Nat} (h : o.op = .field s x f) : execOp ρ o = (do pure (.value (← Instr.field s (ρ x) f))) := by
  unfold execOp
  rw [h]

theorem exec_indexAddr {ρ : Operand → Value} {o : Oper} {t : TypeId} {x y : Operand} (h : o.op = .indexAddr t x y) : execOp ρ o = (do pure (.value (← Instr.indexAt t (ρ x) (ρ y)))) := by
  unfold execOp
  rw [h]

theorem exec_index {ρ : Operand → Value} {o : Oper} {t : TypeId} {x y : Operand} (h : o.op = .index t x y) : execOp ρ o = (do pure (.value (← Instr.index t (ρ x) (ρ y)))) := by
  unfold execOp
  rw [h]

theorem exec_extract {ρ : Operand → Value} {o : Oper} {x : Operand} {i : Nat} (h : o.op = .extract x i) : execOp ρ o = (do pure (.value (← Instr.extract (ρ x) i))) := by
  unfold execOp
  rw [h]

theorem exec_call {ρ : Operand → Value} {o : Oper} {c : Call} (h : o.op = .call c) : execOp ρ o = (do let d ← resolve ρ c o.type; invoke d.target d.args) := by
  unfold execOp
  rw [h]

theorem exec_builtin {ρ : Operand → Value} {o : Oper} {c : Call} (h : o.op = .call c) {b : Builtin} (hb : c.callee = .builtin b) : execOp ρ o = builtin b c.argTypes o.type (c.args.map fun | .const _ => true | _ => false) (c.args.map ρ) := by
  rw [exec_call h]
  simp only [resolve, hb]
  rfl

theorem exec_func {ρ : Operand → Value} {o : Oper} {c : Call} (h : o.op = .call c) {f : Operand} (hf : c.callee = .value f) {fn : FuncId} {cap : Array Value} (hv : ρ f = .func (.func fn) #[] cap) : execOp ρ o = callFunc fn (c.args.map ρ ++ cap) := by
  rw [exec_call h]
  simp only [resolve, hf, Deferred.ofValue, hv]
  show invoke (.fn (.func fn) cap) (#[] ++ c.args.map ρ) = _
  simp only [invoke, Array.empty_append]

end Go.V

