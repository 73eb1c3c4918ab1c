/- Functions that are told by a law of their own. -/
import Derived.Test.YtfihinodhhhllaaGreatIvLim
set_option linter.unusedVariables false
set_option linter.unusedSimpArgs false
namespace Go.Proofs.YtfihinodhhhllaaGreat
open Go
/-- A row's copy. -/
def cloneA (sz bytes : Nat) (args : List AV) (h : Heap) : Option (AV × Heap) :=
  match args with
  | [.sl _ z els] => if z = sz ∧ els.length * bytes ≤ roomMax ∧ els.length ≤ roomMax ∧ AV.bndL els = 0 then some (.sl true sz els, h) else none
  | _ => none
/-- An empty row's copy. -/
def cloneE (sz : Nat) (args : List AV) (h : Heap) : Option (AV × Heap) :=
  match args with
  | [.sl _ z []] => if z = sz then some (.sl true sz [], h) else none
  | _ => none
/-- Where a byte stands first in a text. -/
def ixFrom (c : UInt8) : List UInt8 → Int → Int
  | [], _ => -1
  | b :: l, i => if b == c then i else ixFrom c l (i + 1)
def indexA (args : List AV) (h : Heap) : Option (AV × Heap) :=
  match args with
  | [.str l, .int .u8 c] => some (.int .i64 (ixFrom (UInt8.ofNat c.toNat) l 0), h)
  | _ => none
def compareA (args : List AV) (h : Heap) : Option (AV × Heap) :=
  match args with
  | [.str a, .str b] => some (.int .i64 (if a == b then 0 else if Op.bytesLess a b then -1 else 1), h)
  | _ => none
end Go.Proofs.YtfihinodhhhllaaGreat
