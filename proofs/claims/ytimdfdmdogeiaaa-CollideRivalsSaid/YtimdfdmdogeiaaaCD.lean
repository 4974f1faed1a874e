/- CollideRivals: the data. -/
import Derived.Test.YtimdfdmdogeiaaaCA
import Derived.Test.YtimdfdmdogeiaaaCB
set_option linter.all false
set_option linter.unusedSimpArgs false
set_option linter.unusedVariables false
namespace Go.V
open Go Go.Proofs

abbrev cI (n : Int) : C := .d (.v (.int .i64 n))
abbrev cU (n : Int) : C := .d (.v (.int .u32 n))
abbrev cB (b : Bool) : C := .d (.v (.bool b))

structure Opn where
  asn : Int
  hold : Int
  id : Int
  four : Bool
  deriving DecidableEq

abbrev Opn.cs (o : Opn) : List C := [cU o.asn, cI o.hold, cU o.id, cB o.four]

structure Fs where
  state : Int
  hold : Int
  holdLeft : Int
  keepLeft : Int
  retryLeft : Int
  peer : Opn
  deriving DecidableEq

abbrev Fs.cs (f : Fs) : List C := [cI f.state, cI f.hold, cI f.holdLeft, cI f.keepLeft, cI f.retryLeft, cU f.peer.asn, cI f.peer.hold, cU f.peer.id, cB f.peer.four]

structure Sd where
  asn : Int
  id : Int
  peer : Int
  hold : Int
  retry : Int
  passive : Bool

abbrev Sd.cs (s : Sd) : List C := [cU s.asn, cU s.id, cU s.peer, cI s.hold, cI s.retry, cB s.passive]

def u32s (l : List Int) : List (List D) := l.map fun n => [.v (.int .u32 n)]
def u8s (l : List Int) : List (List D) := l.map fun n => [.v (.int .u8 n)]

@[simp] theorem u32s_len (l : List Int) : (u32s l).length = l.length := by simp [u32s]
@[simp] theorem u32s_get (l : List Int) (i : Nat) (h : i < (u32s l).length) : (u32s l)[i] = [.v (.int .u32 (l[i]'(by simpa using h)))] := by simp [u32s]
@[simp] theorem u8s_len (l : List Int) : (u8s l).length = l.length := by simp [u8s]
@[simp] theorem u8s_get (l : List Int) (i : Nat) (h : i < (u8s l).length) : (u8s l)[i] = [.v (.int .u8 (l[i]'(by simpa using h)))] := by simp [u8s]

end Go.V

