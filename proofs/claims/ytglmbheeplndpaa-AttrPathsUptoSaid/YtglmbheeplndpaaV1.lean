/- The value machine, part 1: data, cells, slot values, the instructions, and what each does to a state. -/
import Derived.WalkKit
set_option linter.all false
set_option linter.unusedSimpArgs false
set_option linter.unusedVariables false
namespace Go.V
open Go

/-- Data: an atom (any value of one cell that holds no memory of its own), or a slice as the list of its elements (each the list of its cells). -/
inductive D where
  | v (x : Value)
  | sl (xs : List (List D))
  deriving Inhabited

/-- What a closure has captured: data, or a pointer into a box. -/
inductive KC where
  | d (x : D)
  | ptr (k ver off : Nat)
  deriving Inhabited

/-- What one cell holds: data; the nil slice; a slice whose block is the holder's own (element type, cells an element); a pointer into a box (its key, its version, the offset); a pointer to cells that do not change; a slice over a box's cells; a closure. -/
inductive C where
  | d (x : D)
  | nilsl
  | osl (e sz : Nat) (xs : List (List D))
  | ptr (k ver off : Nat)
  | cptr (xs : List D)
  | msl (k ver off len : Nat)
  | fn (f : FuncId) (caps : List KC)
  deriving Inhabited

/-- What a slot holds. -/
inductive SV where
  | c (x : C)
  | agg (xs : List C)
  | tup (xs : List SV)
  deriving Inhabited

def C.copy : C → C
  | .osl _ _ xs => .d (.sl xs)
  | x => x

def C.toD : C → Option D
  | .d x => some x
  | .nilsl => some (.sl [])
  | .osl _ _ xs => some (.sl xs)
  | _ => none

def SV.copy : SV → SV
  | .c x => .c x.copy
  | .agg xs => .agg (xs.map C.copy)
  | .tup xs => .tup (xs.map fun | .c x => .c x.copy | .agg xs => .agg (xs.map C.copy) | x => x)

def SV.cells : SV → Option (List C)
  | .c x => some [x]
  | .agg xs => some xs
  | .tup _ => none

def toDs : List C → Option (List D)
  | [] => some []
  | c :: cs =>
    match c.toD, toDs cs with
    | some x, some xs => some (x :: xs)
    | _, _ => none

def SV.undef : SV := .tup []

/-- A box's table: key to version and cells. -/
abbrev Tab := Nat → Nat × Option (List C)

structure VSt where
  env : Nat → SV
  box : Tab

inductive VX where
  | slot (n : Nat)
  | lit (x : SV)
  deriving Inhabited

def VX.get (env : Nat → SV) : VX → SV
  | .slot n => env n
  | .lit x => x

def VX.slots : VX → List Nat
  | .slot n => [n]
  | .lit _ => []

def upd {α : Type} (f : Nat → α) (k : Nat) (x : α) : Nat → α := fun i => if i = k then x else f i

def updAll {α : Type} (f : Nat → α) : List (Nat × α) → Nat → α
  | [] => f
  | (k, x) :: r => updAll (upd f k x) r

/-- What an instruction gives: the value of its slot, what becomes of other slots, and of boxes. -/
structure Out where
  val : SV
  slots : List (Nat × SV) := []
  boxes : List (Nat × (Nat × Option (List C))) := []

def updDst {α : Type} (f : Nat → α) (dst : Option Nat) (x : α) : Nat → α :=
  match dst with
  | some d => upd f d x
  | none => f

def VSt.app (st : VSt) (dst : Option Nat) (o : Out) : VSt :=
  { env := updDst (updAll st.env o.slots) dst o.val, box := updAll st.box o.boxes }

inductive VOp where
  | move (x : VX) (take : Bool)
  | pick (c a b : VX)
  | box (key n : Nat) (x : VX)
  | alloc (key : Nat) (zero : List C)
  | load (p : VX) (agg : Bool) (n : Nat) (take : Bool)
  | store (p : VX) (x : VX) (n : Nat)
  | nilCheck (x : VX)
  | fieldAddr (p : VX) (off : Nat)
  | field (x : VX) (agg : Bool) (off n : Nat)
  | build (zero : List C) (parts : List (Nat × Nat × VX))
  | buildSlice (e sz len : Nat) (zero : List D) (parts : List (Nat × VX))
  | bin (b : Bool) (op : BinOp) (x y : VX)
  | un (op : UnOp) (x : VX)
  | conv (k : IntKind) (x : VX)
  | indexAddr (x i : VX) (sz : Nat)
  | indexArr (p i : VX) (len sz : Nat)
  | indexStr (x i : VX)
  | slice (sz : Nat) (x : VX) (lo hi mx : Option VX)
  | sliceArr (len sz : Nat) (x : VX) (lo hi : Option VX)
  | empty (e sz : Nat) (x : VX)
  | mkFn (f : FuncId) (caps : List VX)
  | clear (x : VX) (zero : List C)
  | sliceStr (x : VX) (lo hi : Option VX)
  | len (x : VX)
  | lenStr (x : VX)
  | append (str : Bool) (e sz bytes : Nat) (x y : VX)
  | extract (x : VX) (i : Nat) (take : Bool)
  | eqAgg (neg : Bool) (ks : List Nat) (x y : VX)
  | toStr (x : VX)
  | mm (isMax : Bool) (x y : VX)
  | isNil (neg : Bool) (x : VX)
  | call (f : FuncId) (args : List VX)
  | callV (fn : VX) (args : List VX)
  deriving Inhabited

structure VI where
  dst : Option Nat
  guard : Option (Nat × Bool)
  op : VOp
  deriving Inhabited

/-! ### arithmetic -/
def vint (op : BinOp) (k : IntKind) (a : Int) (k' : IntKind) (b : Int) : Option Value :=
  match op with
  | .shl => if 0 ≤ b then some (.int k (k.wrap (a * 2 ^ (min b.toNat k.bits)))) else none
  | .shr => if 0 ≤ b then some (.int k (a.fdiv (2 ^ (min b.toNat k.bits)))) else none
  | .add => if k = k' then some (.int k (k.wrap (a + b))) else none
  | .sub => if k = k' then some (.int k (k.wrap (a - b))) else none
  | .mul => if k = k' then some (.int k (k.wrap (a * b))) else none
  | .quo => if k = k' then (if b = 0 then none else some (.int k (k.wrap (a.tdiv b)))) else none
  | .rem => if k = k' then (if b = 0 then none else some (.int k (a.tmod b))) else none
  | .and => if k = k' then some (.int k (k.wrap (BitVec.ofInt k.bits a &&& BitVec.ofInt k.bits b).toNat)) else none
  | .or => if k = k' then some (.int k (k.wrap (BitVec.ofInt k.bits a ||| BitVec.ofInt k.bits b).toNat)) else none
  | .xor => if k = k' then some (.int k (k.wrap (BitVec.ofInt k.bits a ^^^ BitVec.ofInt k.bits b).toNat)) else none
  | .andNot => if k = k' then some (.int k (k.wrap (BitVec.ofInt k.bits a &&& ~~~ (BitVec.ofInt k.bits b)).toNat)) else none
  | .eql => if k = k' then some (.bool (a == b)) else none
  | .neq => if k = k' then some (.bool (a != b)) else none
  | .lss => if k = k' then some (.bool (decide (a < b))) else none
  | .leq => if k = k' then some (.bool (decide (a ≤ b))) else none
  | .gtr => if k = k' then some (.bool (decide (a > b))) else none
  | .geq => if k = k' then some (.bool (decide (a ≥ b))) else none

def vstr (op : BinOp) (a b : ByteArray) : Option Value :=
  match op with
  | .add => if a.size + b.size ≤ 281474976710656 then some (.string (a ++ b)) else none
  | .eql => some (.bool (a.toList == b.toList))
  | .neq => some (.bool (!(a.toList == b.toList)))
  | _ => none

def vbool (op : BinOp) (a b : Bool) : Option Value :=
  match op with
  | .eql => some (.bool (a == b))
  | .neq => some (.bool (!(a == b)))
  | _ => none

def vbin (b : Bool) (op : BinOp) : SV → SV → Option Value
  | .c (.d (.v (.int k a))), .c (.d (.v (.int k' b))) => vint op k a k' b
  | .c (.d (.v (.string a))), .c (.d (.v (.string b))) => vstr op a b
  | .c (.d (.v (.bool x))), .c (.d (.v (.bool y))) => if b then vbool op x y else none
  | _, _ => none

def vun (op : UnOp) : SV → Option Value
  | .c (.d (.v (.bool a))) => match op with | .not => some (.bool (!a)) | _ => none
  | .c (.d (.v (.int k a))) =>
    match op with
    | .neg => some (.int k (k.wrap (0 - a)))
    | .xor => some (.int k (k.wrap (BitVec.ofInt k.bits (if k.signed then -1 else k.max) ^^^ BitVec.ofInt k.bits a).toNat))
    | _ => none
  | _ => none

def vconv (k : IntKind) : SV → Option Value
  | .c (.d (.v (.int _ a))) => some (.int k (k.wrap a))
  | _ => none

def vatomEq : D → D → Option Bool
  | .v (.int k a), .v (.int k' b) => if k = k' then some (a == b) else none
  | .v (.bool a), .v (.bool b) => some (a == b)
  | .v (.string a), .v (.string b) => some (a == b)
  | _, _ => none

/-- Which kind of atom: a bool, a number, a text. -/
def kindC : C → Nat
  | .d (.v (.bool _)) => 0
  | .d (.v (.int ..)) => 1
  | .d (.v (.string _)) => 2
  | _ => 3

def vcellsEq : List C → List C → Option Bool
  | [], [] => some true
  | .d x :: xs, .d y :: ys =>
    match vatomEq x y, vcellsEq xs ys with
    | some a, some b => some (a && b)
    | _, _ => none
  | _, _ => none

/-- The elements of a slice. -/
def C.elems : C → Option (List (List D))
  | .d (.sl xs) => some xs
  | .nilsl => some []
  | .osl _ _ xs => some xs
  | _ => none

def SV.elems : SV → Option (List (List D))
  | .c x => x.elems
  | _ => none

def SV.int? : SV → Option Int
  | .c (.d (.v (.int _ n))) => some n
  | _ => none

def SV.bool? : SV → Option Bool
  | .c (.d (.v (.bool b))) => some b
  | _ => none

def byteCell (b : UInt8) : List D := [.v (.int .u8 b.toNat)]

/-- What is behind 'append': a slice's elements, or a text's bytes. -/
def SV.strNews : SV → Option (List (List D))
  | .c (.d (.v (.string s))) => some (s.data.toList.map byteCell)
  | _ => none

def SV.news (str : Bool) (x : SV) : Option (List (List D)) := match str with | true => x.strNews | false => x.elems

def numsOf : List (List D) → Option (List Int)
  | [] => some []
  | [.v (.int .u8 n)] :: r => (numsOf r).map (n :: ·)
  | _ => none

def bound (env : Nat → SV) : Option VX → Option (Option Int)
  | none => some none
  | some x => match (x.get env).int? with | some n => some (some n) | none => none

def spliceC (cs : List C) (off : Nat) (new : List C) : List C := cs.take off ++ new ++ cs.drop (off + new.length)

def buildParts (env : Nat → SV) : List C → List (Nat × Nat × VX) → Option (List C)
  | cs, [] => some cs
  | cs, (off, n, x) :: r =>
    match (x.get env).cells with
    | some ys => if ys.length = n ∧ off + n ≤ cs.length then buildParts env (spliceC cs off (ys.map C.copy)) r else none
    | none => none

def sliceParts (env : Nat → SV) (sz : Nat) : List (List D) → List (Nat × VX) → Option (List (List D))
  | es, [] => some es
  | es, (i, x) :: r =>
    match (x.get env).cells with
    | some ys =>
      match toDs ys with
      | some ds => if ds.length = sz ∧ i < es.length then sliceParts env sz (es.set i ds) r else none
      | none => none
    | none => none

/-- How many elements a slice has. -/
def SV.len? : SV → Option Nat
  | .c (.msl _ _ _ n) => some n
  | x => match x.elems with | some xs => some xs.length | none => none

/-- A slice of a slice over a box. -/
def resl (sz k ver off len : Nat) (l h m : Option Int) : Option SV :=
  if 0 ≤ l.getD 0 ∧ l.getD 0 ≤ h.getD len ∧ h.getD len ≤ m.getD len ∧ m.getD len ≤ len then
    some (.c (.msl k ver (off + (l.getD 0).toNat * sz) ((h.getD len).toNat - (l.getD 0).toNat))) else none

def C.kc : C → Option KC
  | .d x => some (.d x)
  | .nilsl => some (.d (.sl []))
  | .osl _ _ xs => some (.d (.sl xs))
  | .ptr k ver off => some (.ptr k ver off)
  | _ => none

def KC.c : KC → C
  | .d x => .d x
  | .ptr k ver off => .ptr k ver off

def kcsOf (env : Nat → SV) : List VX → Option (List KC)
  | [] => some []
  | x :: r =>
    match x.get env with
    | .c c => match c.kc, kcsOf env r with | some k, some ks => some (k :: ks) | _, _ => none
    | _ => none

/-- The load's result: one cell, or an aggregate. -/
def part (agg : Bool) (n : Nat) (cs : List C) : Option SV :=
  if agg then some (.agg (cs.map C.copy)) else match cs with | [x] => if n = 1 then some (.c x.copy) else none | _ => none

def isOsl : C → Bool
  | .osl .. => true
  | _ => false

/-- A slot from which an own slice is taken away keeps a copy. -/
def takeOf (env : Nat → SV) : VX → List (Nat × SV)
  | .slot n => match env n with | .c (.osl e sz xs) => [(n, .c (C.osl e sz xs).copy)] | _ => []
  | .lit _ => []

/-- The cells that go into a box: one cell as it is (an own slice moves), an aggregate's as copies. -/
def SV.stored : SV → Option (List C)
  | .c x => some [x]
  | .agg xs => some (xs.map C.copy)
  | .tup _ => none

/-- Where a pointer leads: a box and an offset, or cells that do not change. -/
inductive Place where
  | box (k off : Nat)
  | row (xs : List D)

def place (box : Tab) : SV → Option Place
  | .c (.ptr k ver off) => if (box k).1 = ver then some (.box k off) else none
  | .c (.cptr xs) => some (.row xs)
  | _ => none

def fieldAddrV (off : Nat) : SV → Option Out
  | .c (.ptr k ver o) => some { val := .c (.ptr k ver (o + off)) }
  | .c (.cptr xs) => if off < xs.length then some { val := .c (.cptr (xs.drop off)) } else none
  | _ => none

def vexec (op : VOp) (st : VSt) : Option Out :=
  match op with
  | .move x take =>
    match x.get st.env, take with
    | .c c, true => some { val := .c c, slots := takeOf st.env x }
    | y, _ => some { val := y.copy }
  | .pick c a b =>
    match (c.get st.env).bool? with
    | some t => some { val := if t then (a.get st.env).copy else (b.get st.env).copy }
    | none => none
  | .box key n x =>
    match (x.get st.env).cells with
    | some ys =>
      if ys.length = n then some { val := .c (.ptr key ((st.box key).1 + 1) 0), boxes := [(key, ((st.box key).1 + 1, some (ys.map C.copy)))] } else none
    | none => none
  | .alloc key zero => some { val := .c (.ptr key ((st.box key).1 + 1) 0), boxes := [(key, ((st.box key).1 + 1, some zero))] }
  | .load p agg n take =>
    match place st.box (p.get st.env) with
    | some (.row xs) => if n ≤ xs.length then (part agg n ((xs.take n).map .d)).map fun v => { val := v } else none
    | some (.box k off) =>
      match (st.box k).2 with
      | some cs =>
        if off + n ≤ cs.length then
          if take then
            match cs[off]? with
            | some x => if n = 1 ∧ agg = false then some { val := .c x, boxes := [(k, ((st.box k).1, some (cs.set off x.copy)))] } else none
            | none => none
          else (part agg n ((cs.drop off).take n)).map fun v => { val := v }
        else none
      | none => none
    | none => none
  | .store p x n =>
    match place st.box (p.get st.env) with
    | some (.box k off) =>
      match (st.box k).2 with
      | some cs =>
        match (x.get st.env).stored with
        | some ys =>
          if off + n ≤ cs.length ∧ ys.length = n then
            some { val := .undef, slots := takeOf st.env x, boxes := [(k, ((st.box k).1, some (spliceC cs off ys)))] }
          else none
        | none => none
      | none => none
    | _ => none
  | .nilCheck x =>
    match x.get st.env with
    | .c (.ptr k ver o) => some { val := .c (.ptr k ver o) }
    | .c (.cptr xs) => some { val := .c (.cptr xs) }
    | _ => none
  | .fieldAddr p off =>
    fieldAddrV off (p.get st.env)
  | .field x agg off n =>
    match x.get st.env with
    | .agg xs => if off + n ≤ xs.length then (part agg n ((xs.drop off).take n)).map fun v => { val := v } else none
    | _ => none
  | .build zero parts => (buildParts st.env zero parts).map fun cs => { val := .agg cs }
  | .buildSlice e sz len zero parts => (sliceParts st.env sz (List.replicate len zero) parts).map fun es => { val := .c (.osl e sz es) }
  | .bin b op x y => (vbin b op (x.get st.env) (y.get st.env)).map fun v => { val := .c (.d (.v v)) }
  | .un op x => (vun op (x.get st.env)).map fun v => { val := .c (.d (.v v)) }
  | .conv k x => (vconv k (x.get st.env)).map fun v => { val := .c (.d (.v v)) }
  | .indexAddr x i sz =>
    match x.get st.env, (i.get st.env).int? with
    | .c (.msl k ver off len), some n => if 0 ≤ n ∧ n.toNat < len then some { val := .c (.ptr k ver (off + n.toNat * sz)) } else none
    | y, some n =>
      match y.elems with
      | some xs =>
        if h : 0 ≤ n ∧ n.toNat < xs.length then (if (xs[n.toNat]'h.2).length = sz then some { val := .c (.cptr (xs[n.toNat]'h.2)) } else none) else none
      | none => none
    | _, _ => none
  | .indexArr p i len sz =>
    match (i.get st.env).int? with
    | some n => if 0 ≤ n ∧ n < len then fieldAddrV (n.toNat * sz) (p.get st.env) else none
    | none => none
  | .indexStr x i =>
    match x.get st.env, (i.get st.env).int? with
    | .c (.d (.v (.string s))), some n => if h : 0 ≤ n ∧ n.toNat < s.size then some { val := .c (.d (.v (.int .u8 (s[n.toNat]'h.2).toNat))) } else none
    | _, _ => none
  | .slice sz x lo hi mx =>
    match x.get st.env, bound st.env lo, bound st.env hi, bound st.env mx with
    | .c (.msl k ver off len), some l, some h, some m => (resl sz k ver off len l h m).map fun v => { val := v }
    | y, some l, some h, some m =>
      match y.elems with
      | some xs =>
      if 0 ≤ l.getD 0 ∧ l.getD 0 ≤ h.getD xs.length ∧ h.getD xs.length ≤ m.getD xs.length ∧ m.getD xs.length ≤ xs.length ∧ (l.getD 0 = 0 ∨ ∀ x ∈ xs, x.length = sz) then
        some { val := .c (.d (.sl ((xs.take (h.getD xs.length).toNat).drop (l.getD 0).toNat))) } else none
      | none => none
    | _, _, _, _ => none
  | .sliceArr len sz x lo hi =>
    match x.get st.env, bound st.env lo, bound st.env hi with
    | .c (.ptr k ver off), some l, some h => (resl sz k ver off len l h none).map fun v => { val := v }
    | _, _, _ => none
  | .empty e sz x =>
    match (x.get st.env).elems with
    | some _ => some { val := .c (.osl e sz []) }
    | none => none
  | .clear x zero =>
    match x.get st.env with
    | .c (.msl k ver off len) =>
      if (st.box k).1 = ver then
        match (st.box k).2 with
        | some cs => if off + (List.replicate len zero).flatten.length ≤ cs.length then some { val := .undef, boxes := [(k, ((st.box k).1, some (spliceC cs off (List.replicate len zero).flatten)))] } else none
        | none => none
      else none
    | _ => none
  | .mkFn f caps => (kcsOf st.env caps).map fun ks => { val := .c (.fn f ks) }
  | .sliceStr x lo hi =>
    match (x.get st.env), bound st.env lo, bound st.env hi with
    | .c (.d (.v (.string s))), some l, some h =>
      if 0 ≤ l.getD 0 ∧ l.getD 0 ≤ h.getD s.size ∧ h.getD s.size ≤ s.size then
        some { val := .c (.d (.v (.string (s.extract (l.getD 0).toNat (h.getD s.size).toNat)))) } else none
    | _, _, _ => none
  | .len x => match (x.get st.env).len? with | some n => some { val := .c (.d (.v (.int .i64 n))) } | none => none
  | .lenStr x => match x.get st.env with | .c (.d (.v (.string s))) => some { val := .c (.d (.v (.int .i64 s.size))) } | _ => none
  | .append str e sz bytes x y =>
    match x.get st.env, (y.get st.env).news str with
    | .c .nilsl, some ys => if (∀ y ∈ ys, y.length = sz) ∧ ys.length * bytes ≤ 140737488355328 then some { val := .c (.osl e sz ys) } else none
    | .c (.osl e' sz' xs), some ys =>
      match x with
      | .slot n =>
        if e' = e ∧ sz' = sz ∧ (∀ y ∈ ys, y.length = sz) ∧ (xs.length + ys.length) * bytes ≤ 140737488355328 then
          some { val := .c (.osl e sz (xs ++ ys)), slots := [(n, .c (.d (.sl xs)))] } else none
      | .lit _ => none
    | _, _ => none
  | .extract x i take =>
    match x.get st.env with
    | .tup xs =>
      match xs[i]? with
      | some v => if take = false then some { val := v.copy } else some { val := v, slots := match x, v with | .slot n, .c (.osl e sz ys) => [(n, .tup (xs.set i (.c (C.osl e sz ys).copy)))] | _, _ => [] }
      | none => none
    | _ => none
  | .eqAgg neg ks x y =>
    match x.get st.env, y.get st.env with
    | .agg xs, .agg ys => if xs.map kindC = ks then (vcellsEq xs ys).map fun b => { val := .c (.d (.v (.bool (if neg then !b else b)))) } else none
    | _, _ => none
  | .toStr x => match (x.get st.env).elems with | some xs => (numsOf xs).map fun l => { val := .c (.d (.v (.string (strOfNums l)))) } | none => none
  | .mm isMax x y =>
    match x.get st.env, y.get st.env with
    | .c (.d (.v (.int k a))), .c (.d (.v (.int k' b))) =>
      if k = k' then some { val := .c (.d (.v (.int k (if isMax then (if b > a then b else a) else (if b < a then b else a))))) } else none
    | _, _ => none
  | .isNil neg x =>
    match x.get st.env with
    | .c (.d (.v (.pointer none))) => some { val := .c (.d (.v (.bool (!neg)))) }
    | .c (.ptr ..) => some { val := .c (.d (.v (.bool neg))) }
    | .c (.cptr ..) => some { val := .c (.d (.v (.bool neg))) }
    | _ => none
  | .call _ _ => none
  | .callV _ _ => none

end Go.V

