/- Functions that are told by a law of their own, as plain functions. -/
import Derived.Test.YtfihinodhhhllaaGreatIbL
import Derived.Test.YtfihinodhhhllaaGreatIbY
set_option linter.unusedVariables false
set_option linter.unusedSimpArgs false
namespace Go.Proofs.YtfihinodhhhllaaGreat
open Go
def F_internal_bytealg_IndexByteString (s : List UInt8) (c : UInt8) : Option Int := some (ixFrom c s 0)
theorem call_F_internal_bytealg_IndexByteString {s : List UInt8} {c : UInt8} {p : Int} (hx : F_internal_bytealg_IndexByteString s c = some p) {h : Heap} : callA (Run T0 N_internal_bytealg_IndexByteString) [.str s, .int .u8 (c.toNat : Int)] h = some (.int .i64 p, h) := by
  cases hx
  exact callA_pure rfl fun H => by rw [Run_spec at_internal_bytealg_IndexByteString]; simp [specA, indexA]
def cmpS (a b : List UInt8) : Int := if a == b then 0 else if Op.bytesLess a b then -1 else 1
def F_internal_bytealg_abigen_runtime_cmpstring (a b : List UInt8) : Option Int := some (cmpS a b)
theorem call_F_internal_bytealg_abigen_runtime_cmpstring {a b : List UInt8} {p : Int} (hx : F_internal_bytealg_abigen_runtime_cmpstring a b = some p) {h : Heap} : callA (Run T0 N_internal_bytealg_abigen_runtime_cmpstring) [.str a, .str b] h = some (.int .i64 p, h) := by
  cases hx
  exact callA_pure rfl fun H => by rw [Run_spec at_internal_bytealg_abigen_runtime_cmpstring]; simp [specA, compareA, cmpS]
def clonel {α : Type} (bytes : Nat) (l : List α) : Option (List α) := if l.length * bytes ≤ roomMax ∧ l.length ≤ roomMax then some l else none
theorem call_clone {f sz bytes : Nat} (hf : T0.lookup f = some (.spec (cloneA sz bytes))) {α : Type} {enc : α → AV} (he : ∀ l : List α, AV.bndL (l.map enc) = 0) {l p : List α} (hx : clonel bytes l = some p) {h : Heap} {o : Bool} : callA (Run T0 f) [.sl o sz (l.map enc)] h = some (.sl true sz (p.map enc), h) := by
  unfold clonel at hx
  split at hx
  · rename_i hc
    cases hx
    exact callA_pure (by simp [AV.bndL, AV.bnd, he]) fun H => by rw [Run_spec hf]; simp [specA, cloneA, hc, he]
  · cases hx
def F_slices_Clone_int_int (l : List Int) : Option (List Int) := clonel 8 l
theorem call_F_slices_Clone_int_int {l p : List Int} (hx : F_slices_Clone_int_int l = some p) {h : Heap} : callA (Run T0 N_slices_Clone_int_int) [.sl false 1 (l.map (.int .i64))] h = some (.sl true 1 (p.map (.int .i64)), h) := call_clone at_slices_Clone_int_int (bndL_ints _) hx
def F_slices_Clone_byte_byte (l : List UInt8) : Option (List UInt8) := clonel 1 l
theorem call_F_slices_Clone_byte_byte {l p : List UInt8} (hx : F_slices_Clone_byte_byte l = some p) {h : Heap} : callA (Run T0 N_slices_Clone_byte_byte) [.sl false 1 (l.map e8)] h = some (.sl true 1 (p.map e8), h) := call_clone at_slices_Clone_byte_byte bndL_e8 hx
/-- The closed part: the kernel runs it. -/
def F_law20_begun : Option Bool := some true
set_option maxRecDepth 100000 in
theorem begun_run : (match runN' T0 300 N_law20_begun [] [] with | some (.bool true, []) => true | _ => false) = true := by decide +kernel
theorem call_F_law20_begun {p : Bool} (hx : F_law20_begun = some p) {h : Heap} (hh : h = []) : callA (Run T0 N_law20_begun) [] h = some (.bool p, h) := by
  cases hx
  subst hh
  have h1 := begun_run
  have h2 : runN' T0 300 N_law20_begun [] [] = some (.bool true, []) := by
    revert h1
    generalize runN' T0 300 N_law20_begun [] [] = x
    intro h1
    split at h1
    · rfl
    · cases h1
  unfold callA
  simp [AV.bndL, Run_of h2]
end Go.Proofs.YtfihinodhhhllaaGreat
