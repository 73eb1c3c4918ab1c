/- TbinSizes, as a plain statement. -/
import Derived.Test.YtfihinodhhhllaaGreatIyNum
set_option linter.unusedVariables false
set_option linter.unusedSimpArgs false
namespace Go.Proofs.YtfihinodhhhllaaGreat
open Go
def S0 : YSchema := ⟨[], [], []⟩
def lim0 : YLimit := ⟨5, 5000⟩
theorem Encode_num {w : List UInt8} {k : Int} (h : (w, k) ∈ Ty.bases) (hk : isNum k) (n : Int) (hn : -9223372036854775808 ≤ n ∧ n < 9223372036854775808) :
    F_tbin_Encode S0 w (numV k n) lim0 = some (if fitB k n = true then (be (numS k) (IntKind.u64.wrap n), 0) else ([], 1)) := by
  have h8 := (num_wire hk).2.2.1
  have hkn : F_tbin_known S0 w = some true := known_plain (base_fine h) rfl S0
  unfold F_tbin_Encode
  simp only [hkn, num_check h hk S0 n hn, Option.bind_eq_bind, Option.bind_some, Bool.not_true, Bool.false_eq_true, if_false]
  cases hf : fitB k n
  · simp
  · have h1 : decide ((0 : Int) > lim0.depth) = false := by decide
    have h2 : decide (((be (numS k) (IntKind.u64.wrap n)).length : Int) > lim0.bytes) = false := by rw [be_len]; simp [lim0]; omega
    simp only [Bool.not_true, Bool.false_eq_true, if_false, if_true, F_tbin_Encode_12, F_tbin_writer_done, num_write h hk ⟨S0, []⟩ n (by simp), Option.bind_eq_bind, Option.bind_some, num_depth hk, h1, List.nil_append, h2]
theorem Encode_list {w : List UInt8} {k : Int} (h : (w, k) ∈ Ty.bases) (hk : isNum k) (n : Int) (hn : -9223372036854775808 ≤ n ∧ n < 9223372036854775808) (hf : fitB k n = true) (m : Nat) (hm : m < 256) :
    ∃ b, F_tbin_Encode S0 (Ty.list (Ty.base w k)).text ⟨15, 0, [], List.replicate m (numV k n), []⟩ lim0 = some (b, 0) ∧ b.length = 5 + m * numS k := by
  obtain ⟨b, q1, q2⟩ := list_write h hk ⟨S0, []⟩ n m (by omega) (by simp)
  have h8 := (num_wire hk).2.2.1
  have hmul : m * numS k ≤ 255 * 8 := Nat.mul_le_mul (by omega) h8
  have hkn : F_tbin_known S0 (Ty.list (Ty.base w k)).text = some true := known_plain (list_fine h) rfl S0
  have h1 : decide ((1 : Int) > lim0.depth) = false := by decide
  simp only [List.length_nil, Nat.zero_add] at q2
  have h2 : decide ((b.length : Int) > lim0.bytes) = false := by rw [q2]; simp [lim0]; omega
  refine ⟨b, ?_, q2⟩
  unfold F_tbin_Encode
  simp only [hkn, list_check h hk S0 n hn hf m (by omega), Option.bind_eq_bind, Option.bind_some, Bool.not_true, Bool.false_eq_true, if_false, F_tbin_Encode_12, F_tbin_writer_done, q1, list_depth hk n m (by omega), h1, h2]
def types0 : List (List UInt8) := [[98, 111, 111, 108], [105, 56], [105, 49, 54], [105, 51, 50], [105, 54, 52], [100, 111, 117, 98, 108, 101]]
def kinds0 : List Int := [2, 3, 6, 8, 10, 4]
def sizes0 : List Int := [1, 1, 2, 4, 8, 8]
theorem fill_loop (n : Int) (many : UInt8) (i : Nat) (b : List UInt8) (e k : Int) : ∀ (j c : Nat), many.toNat - c = j → c ≤ many.toNat →
    F_law19_TbinSizes_35 (n, many, types0, kinds0, sizes0, (i : Int), b, e, (c : Int), lim0, numV k n, ⟨15, 0, [], List.replicate c (numV k n), []⟩) = F_law19_TbinSizes_35 (n, many, types0, kinds0, sizes0, (i : Int), b, e, (many.toNat : Int), lim0, numV k n, ⟨15, 0, [], List.replicate many.toNat (numV k n), []⟩) := by
  intro j
  induction j with
  | zero => intro c hj hc; rw [show c = many.toNat by omega]
  | succ j ih =>
    intro c hj hc
    have hm : many.toNat < 256 := UInt8.toNat_lt many
    have hw : IntKind.i64.wrap (many.toNat : Int) = (many.toNat : Int) := wrap64_id (by omega) (by omega)
    have h1 : decide ((c : Int) < (many.toNat : Int)) = true := by simp; omega
    have h2 : appl 80 (List.replicate c (numV k n)) [numV k n] = some (List.replicate (c + 1) (numV k n)) := by
      rw [appl_one (by decide) (by simp; omega), List.replicate_succ']
    have h3 : iadd .i64 (c : Int) 1 = ((c + 1 : Nat) : Int) := iadd_one (by omega)
    rw [F_law19_TbinSizes_35_eq]
    simp only [hw, h1, if_true, h2, h3, Option.bind_eq_bind, Option.bind_some]
    exact ih (c + 1) (by omega) (by omega)
theorem sizes_step (n : Int) (hn : -9223372036854775808 ≤ n ∧ n < 9223372036854775808) (many : UInt8) {i : Nat} (hi : i < 6) {w : List UInt8} {k : Int} (h : (w, k) ∈ Ty.bases) (hk : isNum k) (ht : types0[i]? = some w) (hkk : kinds0[i]? = some k) (hs : sizes0[i]? = some (numS k : Int)) :
    F_law19_TbinSizes_55 (n, many, types0, kinds0, sizes0, (i : Int), lim0) = F_law19_TbinSizes_55 (n, many, types0, kinds0, sizes0, ((i + 1 : Nat) : Int), lim0) := by
  have hm : many.toNat < 256 := UInt8.toNat_lt many
  have hw : IntKind.i64.wrap (many.toNat : Int) = (many.toNat : Int) := wrap64_id (by omega) (by omega)
  have h1 : decide ((i : Int) < (types0.length : Int)) = true := by simp [types0]; omega
  have h3 : iadd .i64 (i : Int) 1 = ((i + 1 : Nat) : Int) := iadd_one (by omega)
  have hE := Encode_num h hk n hn
  have h8 := (num_wire hk).2.2.1
  have hmul : many.toNat * numS k ≤ 255 * 8 := Nat.mul_le_mul (by omega) h8
  rw [F_law19_TbinSizes_55_eq]
  simp only [h1, if_true, lidx_nat, ht, hkk, Option.bind_eq_bind, Option.bind_some, F_Fits hk]
  rw [show F_tbin_Encode ⟨[], [], []⟩ w ⟨k, n, [], [], []⟩ lim0 = _ from hE]
  simp only [Option.bind_some]
  cases hf : fitB k n
  · have e1 : ((1 : Int) != (1 : Int)) = false := by decide
    simp only [Bool.not_false, if_true, Bool.false_eq_true, if_false, e1, h3]
  · simp only [Bool.not_true, Bool.false_eq_true, if_false, if_true]
    have hfill := fill_loop n many i (be (numS k) (IntKind.u64.wrap n)) 0 k _ 0 rfl (by omega)
    have z : ((0 : Nat) : Int) = 0 := rfl
    simp only [List.replicate_zero, z] at hfill
    rw [show F_law19_TbinSizes_35 (n, many, types0, kinds0, sizes0, (i : Int), be (numS k) (IntKind.u64.wrap n), 0, 0, lim0, ⟨k, n, [], [], []⟩, ⟨15, 0, [], [], []⟩) = _ from hfill]
    obtain ⟨b, q1, q2⟩ := Encode_list h hk n hn hf many.toNat hm
    have h4 : decide ((many.toNat : Int) < (many.toNat : Int)) = false := by simp
    have hl := base_len h
    have c1 : cats [108, 105, 115, 116, 60] w = some ([108, 105, 115, 116, 60] ++ w) := cats_ok (by simp only [List.length_cons, List.length_nil]; exact Nat.le_trans (by omega) (show 11 ≤ strMax by decide))
    have c2 : cats ([108, 105, 115, 116, 60] ++ w) [62] = some (Ty.list (Ty.base w k)).text := by
      rw [cats_ok (by simp only [List.length_append, List.length_cons, List.length_nil]; exact Nat.le_trans (by omega) (show 12 ≤ strMax by decide))]
      simp [Ty.text]
    have e0 : ((0 : Int) != (0 : Int)) = false := by decide
    have e2 : (((be (numS k) (IntKind.u64.wrap n)).length : Int) != (numS k : Int)) = false := by rw [be_len]; simp
    have m1 : imul .i64 (many.toNat : Int) (numS k : Int) = ((many.toNat * numS k : Nat) : Int) := by rw [imul_id (by rw [← Int.natCast_mul]; omega) (by rw [← Int.natCast_mul]; omega), Int.natCast_mul]
    have m2 : iadd .i64 5 ((many.toNat * numS k : Nat) : Int) = ((5 + many.toNat * numS k : Nat) : Int) := iadd_nat (p := 5) (by omega)
    have e3 : ((b.length : Int) != ((5 + many.toNat * numS k : Nat) : Int)) = false := by rw [q2]; simp
    rw [F_law19_TbinSizes_35_eq]
    simp only [hw, h4, Bool.false_eq_true, if_false, lidx_nat, ht, hs, Option.bind_eq_bind, Option.bind_some, c1, c2, e0, e2]
    rw [show F_tbin_Encode ⟨[], [], []⟩ (Ty.list (Ty.base w k)).text ⟨15, 0, [], List.replicate many.toNat (numV k n), []⟩ lim0 = _ from q1]
    simp only [Option.bind_some, e0, Bool.false_eq_true, if_false, m1, m2, e3, h3]
theorem TbinSizes_true (n : Int) (hn : -9223372036854775808 ≤ n ∧ n < 9223372036854775808) (many : UInt8) : F_law19_TbinSizes n many = some true := by
  have hb : F_law19_begun = some true := rfl
  have z : ((0 : Nat) : Int) = 0 := rfl
  unfold F_law19_TbinSizes
  simp only [hb, Option.bind_eq_bind, Option.bind_some, Bool.not_true, Bool.false_eq_true, if_false]
  show F_law19_TbinSizes_55 (n, many, types0, kinds0, sizes0, ((0 : Nat) : Int), lim0) = some true
  rw [sizes_step n hn many (by decide) (w := [98, 111, 111, 108]) (k := 2) (by simp [Ty.bases]) (.inl rfl) rfl rfl rfl]
  rw [sizes_step n hn many (by decide) (w := [105, 56]) (k := 3) (by simp [Ty.bases]) (.inr (.inl rfl)) rfl rfl rfl]
  rw [sizes_step n hn many (by decide) (w := [105, 49, 54]) (k := 6) (by simp [Ty.bases]) (.inr (.inr (.inr (.inl rfl)))) rfl rfl rfl]
  rw [sizes_step n hn many (by decide) (w := [105, 51, 50]) (k := 8) (by simp [Ty.bases]) (.inr (.inr (.inr (.inr (.inl rfl))))) rfl rfl rfl]
  rw [sizes_step n hn many (by decide) (w := [105, 54, 52]) (k := 10) (by simp [Ty.bases]) (.inr (.inr (.inr (.inr (.inr rfl))))) rfl rfl rfl]
  rw [sizes_step n hn many (by decide) (w := [100, 111, 117, 98, 108, 101]) (k := 4) (by simp [Ty.bases]) (.inr (.inr (.inl rfl))) rfl rfl rfl]
  rw [F_law19_TbinSizes_55_eq]
  rfl
end Go.Proofs.YtfihinodhhhllaaGreat
