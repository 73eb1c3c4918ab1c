/- The functions that are told by a law of their own. -/
import Derived.Test.YtfihinodhhhllaaGreatIvClone
import Derived.Test.YtfihinodhhhllaaGreatProg
import Derived.WalkKit
import Derived.WalkSpells
import Derived.ProofKit
import Derived.WalkLawsBesides
set_option linter.unusedVariables false
set_option linter.unusedSimpArgs false
namespace Go.Proofs.YtfihinodhhhllaaGreat
open Go Go.RowKit Go.Proofs
theorem mixed : Tryz.prog.follows .mixedOrders = true := by kernel_rfl
@[local go_sem] theorem nil22 (w : World) (a : Option Addr) (n c n' c' : Nat) : (binOp .eql 22 (.slice a n c) (.slice none n' c')).run Tryz.prog w = .ok (.bool a.isNone) w := Lib.run_eql_slice_nil w 22 5 a n c n' c' Tryz.underlying22
set_option maxRecDepth 100000 in
set_option maxHeartbeats 800000 in
theorem clone_nil195 (c : Nat) (w : World) : Calls Tryz.prog 195 #[.slice none 0 c] w fun e w' => e = .returned (.slice none 0 0) ∧ w' = w := by
  go_enter Tryz.func195, Tryz.ntmps195
  go_wp2
  go_ret
  exact ⟨rfl, rfl⟩
set_option maxRecDepth 100000 in
set_option maxHeartbeats 800000 in
theorem clone_empty195 (a : Addr) (c : Nat) (w : World) : Calls Tryz.prog 195 #[.slice (some a) 0 c] w fun r w' => r = .returned (.slice (some { block := w.heap.size, off := 0 }) 0 0) ∧ w' = w.alloc (Obj.cells #[] 5) := by
  go_enter Tryz.func195, Tryz.ntmps195
  go_wp2
  go_ret
  exact ⟨rfl, rfl⟩
theorem spec_slices_Clone_byte_byte : SpecOK Tryz.prog 195 (cloneA 1 1) := spec_clone Tryz.func195 rfl (by decide) mixed (by decide +kernel) clone_nil195 clone_empty195 (by decide)
@[local go_sem] theorem nil36 (w : World) (a : Option Addr) (n c n' c' : Nat) : (binOp .eql 36 (.slice a n c) (.slice none n' c')).run Tryz.prog w = .ok (.bool a.isNone) w := Lib.run_eql_slice_nil w 36 3 a n c n' c' Tryz.underlying36
set_option maxRecDepth 100000 in
set_option maxHeartbeats 800000 in
theorem clone_nil167 (c : Nat) (w : World) : Calls Tryz.prog 167 #[.slice none 0 c] w fun e w' => e = .returned (.slice none 0 0) ∧ w' = w := by
  go_enter Tryz.func167, Tryz.ntmps167
  go_wp2
  go_ret
  exact ⟨rfl, rfl⟩
set_option maxRecDepth 100000 in
set_option maxHeartbeats 800000 in
theorem clone_empty167 (a : Addr) (c : Nat) (w : World) : Calls Tryz.prog 167 #[.slice (some a) 0 c] w fun r w' => r = .returned (.slice (some { block := w.heap.size, off := 0 }) 0 0) ∧ w' = w.alloc (Obj.cells #[] 3) := by
  go_enter Tryz.func167, Tryz.ntmps167
  go_wp2
  go_ret
  exact ⟨rfl, rfl⟩
theorem spec_slices_Clone_int_int : SpecOK Tryz.prog 167 (cloneA 1 8) := spec_clone Tryz.func167 rfl (by decide) mixed (by decide +kernel) clone_nil167 clone_empty167 (by decide)
theorem spec_internal_bytealg_IndexByteString : SpecOK Tryz.prog 201 indexA := spec_index Tryz.func201 (by kernel_rfl) (by kernel_rfl) (by kernel_rfl) (by kernel_rfl)
theorem spec_internal_bytealg_abigen_runtime_cmpstring : SpecOK Tryz.prog 216 compareA := spec_compare Tryz.func216 (by kernel_rfl) (by kernel_rfl) (by kernel_rfl) (by kernel_rfl)
end Go.Proofs.YtfihinodhhhllaaGreat
