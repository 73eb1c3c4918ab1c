/- Functions that are told by a law of their own, as plain functions. -/
import Derived.Test.YtfihinodhhhllaaGreatIaL
import Derived.Test.YtfihinodhhhllaaGreatIaY
set_option linter.unusedVariables false
set_option linter.unusedSimpArgs false
namespace Go.Proofs.YtfihinodhhhllaaGreat
open Go
def F_internal_bytealg_IndexByteString (s : List UInt8) (c : UInt8) : Option Int := some (ixFrom c s 0)
theorem call_F_internal_bytealg_IndexByteString {s : List UInt8} {c : UInt8} {p : Int} (hx : F_internal_bytealg_IndexByteString s c = some p) {h : Heap} : callA (Run T0 N_internal_bytealg_IndexByteString) [.str s, .int .u8 (c.toNat : Int)] h = some (.int .i64 p, h) := by
  cases hx
  exact callA_pure rfl fun H => by rw [Run_spec at_internal_bytealg_IndexByteString]; simp [specA, indexA]
def cmpS (a b : List UInt8) : Int := if a == b then 0 else if Op.bytesLess a b then -1 else 1
def F_internal_bytealg_abigen_runtime_cmpstring (a b : List UInt8) : Option Int := some (cmpS a b)
theorem call_F_internal_bytealg_abigen_runtime_cmpstring {a b : List UInt8} {p : Int} (hx : F_internal_bytealg_abigen_runtime_cmpstring a b = some p) {h : Heap} : callA (Run T0 N_internal_bytealg_abigen_runtime_cmpstring) [.str a, .str b] h = some (.int .i64 p, h) := by
  cases hx
  exact callA_pure rfl fun H => by rw [Run_spec at_internal_bytealg_abigen_runtime_cmpstring]; simp [specA, compareA, cmpS]
/-- The closed part: the kernel runs it. -/
def F_law19_begun : Option Bool := some true
set_option maxRecDepth 100000 in
theorem begun_run : (match runN' T0 300 N_law19_begun [] [] with | some (.bool true, []) => true | _ => false) = true := by decide +kernel
theorem call_F_law19_begun {p : Bool} (hx : F_law19_begun = some p) {h : Heap} (hh : h = []) : callA (Run T0 N_law19_begun) [] h = some (.bool p, h) := by
  cases hx
  subst hh
  have h1 := begun_run
  have h2 : runN' T0 300 N_law19_begun [] [] = some (.bool true, []) := by
    revert h1
    generalize runN' T0 300 N_law19_begun [] [] = x
    intro h1
    split at h1
    · rfl
    · cases h1
  unfold callA
  simp [AV.bndL, Run_of h2]
end Go.Proofs.YtfihinodhhhllaaGreat
