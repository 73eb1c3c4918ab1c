/- TcompSizes: whatever the number and however many, the law returns true, and its arguments read as they did. No condition. -/
import Derived.Test.YtfihinodhhhllaaGreatRows
import Derived.ProofKit
import Derived.Test.YtfihinodhhhllaaGreatIbC
import Derived.Test.YtfihinodhhhllaaGreatIyTcompSizes
set_option linter.unusedVariables false
set_option linter.unusedSimpArgs false
namespace Go.Proofs.YtfihinodhhhllaaGreat
open Go Go.ChangeShapes Go.WideShapes Go.ChangeAt Go.RowKit Go.Proofs Go.Proofs.YtfihinodhhhllaaGreat

theorem Tryz_own : ownKnob Tryz.prog.godebug = none := by kernel_rfl
theorem TcompSizes_calls (n : Int) (hn : -2147483648 ≤ n ∧ n < 2147483648) (m : Int) (hm : 0 ≤ m ∧ m < 256) (w : World) :
    Calls Tryz.prog 6 #[.int .i32 n, .int .u8 m] w fun e w' => e = .returned (.bool true) ∧ Go.RowKit.Below w.heap.size w w' := by
  obtain ⟨c, rfl⟩ : ∃ c : UInt8, m = (c.toNat : Int) := ⟨UInt8.ofNat m.toNat, by simp; omega⟩
  have h1 := t_F_law20_TcompSizes n c true (TcompSizes_true hn c) [] rfl
  obtain ⟨k, hk⟩ := Run_some h1
  refine law_walk (vals := [.int .i32 n, .int .u8 (c.toNat : Int)]) tab_ok hk Tryz.func6 (by rfl) w (fun _ _ => rfl) ?_ rfl
  exact .cons (.int _ _) (.cons (.int _ _) .nil)
set_option maxRecDepth 100000 in
theorem tcompSizes_lifted (os : Os) (started : os.Started) (H : Type) (enc : TypeId × Value → H) :
    ReturnsInHanded {} Tryz.checked os 6 .any (Rows.tcompSizesSpec.pre6 enc Tryz.prog Tryz.f6 Rows.tcompSizesRow.domain false) (Rows.tcompSizesSpec.post enc Tryz.prog Tryz.f6 false true false false) := by
  refine returnsInHanded_of_change (C := Tryz.checked) Tryz_own started (by kernel_rfl) Tryz.func6
    (ChangeSpec.witness6 (enc := enc) (C := Tryz.checked) false ⟨#[], #[.int .i32 0, .int .u8 0], []⟩ 8 (by kernel_rfl) (by kernel_rfl) (by kernel_rfl) (by kernel_rfl)) ?_
  intro W base args ds gs before hval0 hW hcnd _
  have hval : ∀ (j : Nat) t v, Tryz.f6.params[j]? = some t → args[j]? = some v → Value.okWide Tryz.prog W .any base t v := hval0
  have hW' := hW
  obtain ⟨p, q, hA0, hV, rfl, hfz, hnd⟩ := hW
  have hA : DataW.TrodAll enc Tryz.prog W 0 (fun _ => true) true Tryz.f6.params.toList args.toList ds p := hA0
  rw [Tryz.params6] at hA hval
  obtain ⟨v0, v1, d0, d1, p0, p1, rfl, rfl, rfl, h0, h1⟩ := trodAll_two hA
  obtain ⟨rfl, rfl⟩ := trodVars_none hV
  obtain ⟨a, rfl, rfl, rfl, wa⟩ := open_int Tryz.underlying21 (hval 0 21 v0 rfl rfl) h0
  obtain ⟨b, rfl, rfl, rfl, wb⟩ := open_int Tryz.underlying5 (hval 1 5 v1 rfl rfl) h1
  clear hA0 hval0
  simp only [List.append_nil] at hW'
  have ra : -2147483648 ≤ a ∧ a < 2147483648 := by
    have e1 : IntKind.i32.min = -2147483648 := rfl
    have e2 : IntKind.i32.max = 2147483647 := rfl
    have h := wa
    simp [Lit.wf, e1, e2] at h
    omega
  have rb : 0 ≤ b ∧ b < 256 := by
    have e1 : IntKind.u8.min = 0 := rfl
    have e2 : IntKind.u8.max = 255 := rfl
    have h := wb
    simp [Lit.wf, e1, e2] at h
    omega
  refine (TcompSizes_calls a ra b rb W).mono fun e W' ⟨he, hw⟩ => ?_
  subst he
  exact ⟨_, rfl, _, _, _, [], [], [], hW', trodAll_mk1 (shut_bool Tryz.underlying4 true), trodAll_mk2 (shut_int Tryz.underlying21 wa) (shut_int Tryz.underlying5 wb), rfl, hw.frame _, fun h => by cases h⟩
theorem TcompSizes_holds : Rows.TcompSizesSaid :=
  OpenClaim.holds_of_wide 6 Tryz.f6 rfl rfl rfl rfl rfl rfl rfl ⟨rfl, rfl, rfl, rfl, rfl⟩ rfl rfl rfl rfl rfl (by kernel_rfl) Tryz.func6 (by kernel_rfl)
    (of_decide_eq_true (by kernel_rfl)) (by unfold Func.isWrapper; first | (rw [if_pos (by decide +kernel)]; kernel_rfl) | (rw [if_neg (by decide +kernel)]; exact ⟨rfl, rfl⟩))
    (fun os started H enc _ => tcompSizes_lifted os started H enc)
end Go.Proofs.YtfihinodhhhllaaGreat
