/- The value machine, part 14: the model's operations turned into instructions, one by one. -/
import Derived.Test.YtglmbheeplndpaaVE
set_option linter.all false
set_option linter.unusedSimpArgs false
set_option linter.unusedVariables false
namespace Go.V
open Go

def ofCell : Value → C
  | .slice none 0 0 => .nilsl
  | v => .d (.v v)

def ofVal : Value → Option SV
  | .agg cs => if cs.all (·.oneCell') then some (.agg (cs.toList.map ofCell)) else none
  | .tuple _ => none
  | v => some (.c (ofCell v))

def cx (N : Nat) : Operand → Option VX
  | .tmp t => if t < N then some (.slot t) else none
  | .const v => (ofVal v).map .lit
  | .func f => some (.lit (.c (.d (.v (.func (.func f) #[] #[])))))
  | .global _ => none

def VX.pl : VX → Nat
  | .slot n => n
  | .lit _ => 0

section
variable {P : Program} {S : Stab} {loc : Nat → Nat} {ow : Nat → Option Pl} {w : World} {N : Nat} {st : VSt} {vals : Nat → Value} {box : Tab}

theorem ofCell_rep {v : Value} (h1 : v.oneCell' = true) (p : Pl) : RepC S loc box ow w p (ofCell v) v ∧ isOsl (ofCell v) = false := by
  unfold ofCell
  split
  · exact ⟨rfl, rfl⟩
  · exact ⟨RepD.v v h1, rfl⟩

theorem ofVal_rep {v : Value} {x : SV} (h : ofVal v = some x) (i : Nat) : RepV S loc box ow w i x v := by
  unfold ofVal at h
  split at h
  · split at h
    · rename_i cs ha
      cases h
      refine ⟨cs, rfl, by simp, fun m c hc => ?_⟩
      rw [List.getElem?_map] at hc
      obtain ⟨u, hu, rfl⟩ := Option.map_eq_some_iff.1 hc
      have hu' : cs[m]? = some u := by simpa using hu
      have h1 : u.oneCell' = true := by
        have := Array.all_eq_true_iff_forall_mem.1 ha u (Array.mem_of_getElem? hu')
        exact this
      exact ⟨(ofCell_rep (S := S) (loc := loc) (box := box) (ow := ow) (w := w) h1 (.slot i 0)).2, u, hu', (ofCell_rep h1 _).1⟩
    · cases h
  · cases h
  · rename_i h1 h2
    cases h
    refine (ofCell_rep (by cases v <;> first | rfl | exact absurd rfl (h1 _) | exact absurd rfl (h2 _)) (.slot i 0)).1

/-- The slots' values, as an activation holds them. -/
def valsOf (a : Act) : Nat → Value := fun i => a.tmps.getD i undef

theorem cx_rep {a : Act} (h : HH S loc ow w N st.env (valsOf a) st.box) {x : Operand} {y : VX} (hc : cx N x = some y) :
    RepV S loc st.box ow w y.pl (y.get st.env) (a.eval x) ∧ ∀ n, y = .slot n → n < N ∧ a.eval x = valsOf a n := by
  cases x with
  | tmp t =>
    simp only [cx] at hc
    split at hc
    · cases hc
      exact ⟨h.env t ‹_›, fun n e => by cases e; exact ⟨‹_›, rfl⟩⟩
    · cases hc
  | const v =>
    simp only [cx] at hc
    obtain ⟨x, hx, rfl⟩ := Option.map_eq_some_iff.1 hc
    exact ⟨ofVal_rep hx 0, fun n e => by cases e⟩
  | func f =>
    cases hc
    exact ⟨RepD.v _ rfl, fun n e => by cases e⟩
  | global g => cases hc

end

def cxs (N : Nat) : List Operand → Option (List VX)
  | [] => some []
  | x :: r => match cx N x, cxs N r with | some y, some ys => some (y :: ys) | _, _ => none

def cxo (N : Nat) : Option Operand → Option (Option VX)
  | none => some none
  | some x => match cx N x with | some y => some (some y) | none => none

/-- The cells of a type's zero value. -/
def zeroOf (P : Program) (t : TypeId) : Option (List C) :=
  match P.info? t with
  | some i => match i.zero with | some z => if z.cells.all (·.oneCell') then some (z.cells.toList.map ofCell) else none | none => none
  | none => none

def ofCellD (v : Value) : D := match v with | .slice none 0 0 => .sl [] | v => .v v

/-- Where the fields of a struct lie. -/
def fieldPlaces (P : Program) (fields : List Field) : Option (List (Nat × Nat)) := fields.mapM fun f => (P.info? f.type).map fun i => (f.offset, i.size)

def cparts (N : Nat) (pl : Nat → Option (Nat × Nat)) : List (Nat × Operand) → Option (List (Nat × Nat × VX))
  | [] => some []
  | (i, x) :: r =>
    match pl i, cx N x, cparts N pl r with
    | some (off, n), some y, some ys => some ((off, n, y) :: ys)
    | _, _, _ => none

def cpartsS (N : Nat) : List (Nat × Operand) → Option (List (Nat × VX))
  | [] => some []
  | (i, x) :: r =>
    match cx N x, cpartsS N r with
    | some y, some ys => some ((i, y) :: ys)
    | _, _ => none

/-- A struct of numbers, bools and texts alone, one behind the other: which? -/
def layF (f : TypeId → Option (List Nat)) : Nat → List Field → Option (List Nat)
  | _, [] => some []
  | off, x :: r =>
    if x.name = "_" ∨ x.offset ≠ off then none
    else match f x.type with
      | some ks => (layF f (off + ks.length) r).map fun ks' => ks ++ ks'
      | none => none

def layT (P : Program) : Nat → TypeId → Option (List Nat)
  | 0, _ => none
  | d + 1, t =>
    match P.underlying t with
    | some .bool => if tyInfo P t = some (false, 1) then some [0] else none
    | some (.int _) => if tyInfo P t = some (false, 1) then some [1] else none
    | some .string => if tyInfo P t = some (false, 1) then some [2] else none
    | some (.struct fs) =>
      if P.stoodInHeld t then none
      else match layF (layT P d) 0 fs.toList with | some ks => if tyInfo P t = some (true, ks.length) then some ks else none | none => none
    | _ => none

/-- Is a slice cut to nothing, with no room? -/
def emptyCut : Option Operand → Option Operand → Option Operand → Bool
  | none, some (.const (.int _ 0)), some (.const (.int _ 0)) => true
  | _, _, _ => false

/-- One operation. 'take': is the own slice that is read to go over? -/
def cop (P : Program) (N : Nat) (take : Bool) (o : Oper) : Option VOp :=
  match o.op, o.dst with
  | .move x, some _ => (cx N x).map fun x => .move x take
  | .assign x, some _ => (cx N x).map fun x => .move x true
  | .pick c a b, some _ => match cx N c, cx N a, cx N b with | some c, some a, some b => some (.pick c a b) | _, _, _ => none
  | .box elem x, some d => match tyInfo P elem, cx N x with | some (_, n), some x => some (.box (2 * d + 1) n x) | _, _ => none
  | .alloc elem, some d => (zeroOf P elem).map fun z => .alloc (2 * d + 1) z
  | .load t a, some _ => match tyInfo P t, cx N a with | some (agg, n), some a => if agg = false ∧ n ≠ 1 then none else some (.load a agg n (take && !agg)) | _, _ => none
  | .store t a x, none => match tyInfo P t, cx N a, cx N x with | some (_, n), some a, some x => some (.store a x n) | _, _, _ => none
  | .nilCheck x, some _ => (cx N x).map .nilCheck
  | .fieldAddr s x f, some _ => match cfield P s f, cx N x with | some off, some x => some (.fieldAddr x off) | _, _ => none
  | .field s x f, some _ => match cfieldV P s f, cx N x with | some (agg, off, n), some x => some (.field x agg off n) | _, _ => none
  | .unOp op _ x, some _ => (cx N x).map (.un op)
  | .binOp op t x y _, some _ =>
    match cx N x, cx N y with
    | some x', some y' =>
      match P.underlying t with
      | some .bool => some (.bin true op x' y')
      | some (.int _) | some .string => some (.bin false op x' y')
      | some (.pointer _) =>
        match op, y with
        | .eql, .const (.pointer none) => some (.isNil false x')
        | .neq, .const (.pointer none) => some (.isNil true x')
        | _, _ => none
      | some (.struct _) =>
        match op, layT P 8 t with
        | .eql, some n => if P.eqGuardType P.depth t then none else some (.eqAgg false n x' y')
        | .neq, some n => if P.eqGuardType P.depth t then none else some (.eqAgg true n x' y')
        | _, _ => none
      | _ => none
    | _, _ => none
  | .convert s d x, some _ =>
    match cx N x, P.underlying s, P.underlying d with
    | some x, some (.int _), some (.int k) => some (.conv k x)
    | some x, some (.slice e), some .string => match P.underlying e with | some (.int .u8) => some (.toStr x) | _ => none
    | _, _, _ => none
  | .indexAddr t x i, some _ =>
    match cx N x, cx N i, P.underlying t with
    | some x, some i, some (.slice e) => match tyInfo P e with | some (_, sz) => some (.indexAddr x i sz) | none => none
    | some x, some i, some (.array n e) => match tyInfo P e with | some (_, sz) => some (.indexArr x i n sz) | none => none
    | _, _, _ => none
  | .index t x i, some _ =>
    match cx N x, cx N i, P.underlying t with
    | some x, some i, some .string => some (.indexStr x i)
    | _, _, _ => none
  | .slice t x lo hi mx, some _ =>
    match cx N x, cxo N lo, cxo N hi, cxo N mx with
    | some x, some lo', some hi', some mx' =>
      match P.underlying t with
      | some (.slice e) => match tyInfo P e with | some (_, sz) => if mx.isSome && !hi.isSome then none else if emptyCut lo hi mx then some (.empty e sz x) else some (.slice sz x lo' hi' mx') | none => none
      | some (.array n e) => match tyInfo P e with | some (_, sz) => if mx.isSome || decide (281474976710656 < n) then none else some (.sliceArr n sz x lo' hi') | none => none
      | some .string => if mx.isSome then none else some (.sliceStr x lo' hi')
      | _ => none
    | _, _, _, _ => none
  | .build t parts, some _ =>
    match P.underlying t, zeroOf P t with
    | some (.struct fields), some zero =>
      match fieldPlaces P fields.toList with
      | some places => (cparts N (places.toArray[·]?) parts.toList).map fun ps => .build zero ps
      | none => none
    | some (.array _ e), some zero =>
      match P.info? e with
      | some ie => (cparts N (fun i => some (i * ie.size, ie.size)) parts.toList).map fun ps => .build zero ps
      | none => none
    | _, _ => none
  | .buildSlice t len parts, some _ =>
    match P.underlying t with
    | some (.slice e) =>
      match elemInfo P e with
      | some (sz, _, z) =>
        if z.cells.size = sz ∧ z.cells.all (·.oneCell') = true ∧ len * sz ≤ 16777216 ∧ len ≤ 16777216 then
          (cpartsS N parts.toList).map fun ps => .buildSlice e sz len (z.cells.toList.map ofCellD) ps
        else none
      | none => none
    | _ => none
  | .extract x i, some _ => (cx N x).map fun x => .extract x i take
  | .makeFunc (.func f) first captured, some _ => if first.size = 0 then (cxs N captured.toList).map (.mkFn f) else none
  | .call c, none =>
    match c.callee with
    | .builtin .clear =>
      match c.args.toList, c.argTypes[0]? with
      | [x], some t =>
        match cx N x, P.underlying t with
        | some x, some (.slice e) => match P.info? e, zeroOf P e with | some i, some z => if i.size = z.length then some (.clear x z) else none | _, _ => none
        | _, _ => none
      | _, _ => none
    | _ => none
  | .call c, some _ =>
    match c.callee with
    | .builtin .len =>
      match c.args.toList, c.argTypes[0]? with
      | [x], some t => (match P.underlying t with | some (.slice _) => (cx N x).map .len | some .string => (cx N x).map .lenStr | _ => none)
      | _, _ => none
    | .builtin .append =>
      match c.args.toList, c.argTypes.toList with
      | [x, y], [t, t2] =>
        match cx N x, cx N y, P.underlying t with
        | some x, some y, some (.slice e) =>
          match elemInfo P e with
          | some (sz, bytes, z) =>
            if z.cells.size = sz ∧ 0 < bytes then
              match P.underlying t2 with
              | some (.slice e') => if e' = e then some (.append false e sz bytes x y) else none
              | some .string => some (.append true e sz bytes x y)
              | _ => none
            else none
          | none => none
        | _, _, _ => none
      | _, _ => none
    | .builtin .max => (match c.args.toList with | [x, y] => (match cx N x, cx N y with | some x, some y => some (.mm true x y) | _, _ => none) | _ => none)
    | .builtin .min => (match c.args.toList with | [x, y] => (match cx N x, cx N y with | some x, some y => some (.mm false x y) | _, _ => none) | _ => none)
    | _ => none
  | _, _ => none

/-- A call of a Go function, by its name or by a value. -/
def callOf (N : Nat) (o : Oper) : Option VOp :=
  match o.op, o.dst with
  | .call c, some _ =>
    match c.callee with
    | .value (.func f) => (cxs N c.args.toList).map (.call f)
    | .value x => match cx N x, cxs N c.args.toList with | some x, some xs => some (.callV x xs) | _, _ => none
    | _ => none
  | _, _ => none

def isCall : VOp → Bool
  | .call .. | .callV .. => true
  | _ => false

end Go.V

