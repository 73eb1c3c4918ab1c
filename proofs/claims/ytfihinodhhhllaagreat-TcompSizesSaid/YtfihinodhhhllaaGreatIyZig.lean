/- Numbers and lists of them, in zigzag bytes. -/
import Derived.Test.YtfihinodhhhllaaGreatIyVal
set_option linter.unusedVariables false
set_option linter.unusedSimpArgs false
namespace Go.Proofs.YtfihinodhhhllaaGreat
open Go
theorem known_zig {t : Ty} (h : t.Fine) (hn : t.names = []) (s : YSchema) : F_tcomp_known s t.text = some true := by
  unfold F_tcomp_known
  simp only [F_May h, F_Names h, hn, Option.bind_eq_bind, Option.bind_some, if_true]
  rw [ContainsFunc_string (g := fun _ => false) (by simp) (by simp)]
  rfl
theorem ishr7 (v : Int) : ishr .u64 v 7 = some (v.fdiv 128) := by
  unfold ishr
  rw [if_neg (by decide)]
  rfl
/-- A number's bytes: k+1 of them where it has so many times seven bits. -/
theorem zig_loop : ∀ (k : Nat) (v : Int) (b : List UInt8), 0 ≤ v → v < 128 ^ (k + 1) → (k = 0 ∨ 128 ^ k ≤ v) → b.length + k + 1 ≤ 2 ^ 26 → ∃ r, F_zig_Put_10 (v, b) = some (b ++ r) ∧ r.length = k + 1 := by
  intro k
  induction k with
  | zero =>
    intro v b h0 h1 _ hb
    have hc : decide (v > (127 : Int)) = false := by simp at h1; simp; omega
    refine ⟨[u8w v], ?_, rfl⟩
    rw [F_zig_Put_10_eq]
    simp only [hc, Bool.false_eq_true, if_false, appl_one (bytes := 1) (l := b) (ys := [u8w v]) (by decide) (by simpa using hb), Option.bind_eq_bind, Option.bind_some]
  | succ k ih =>
    intro v b h0 h1 h2 hb
    have h2 : (128 : Int) ^ (k + 1) ≤ v := by
      rcases h2 with h2 | h2
      · omega
      · exact h2
    have hp : (0 : Int) < 128 ^ k := Int.pow_pos (by decide)
    have e1 : (128 : Int) ^ (k + 1) = 128 ^ k * 128 := Int.pow_succ ..
    have e2 : (128 : Int) ^ (k + 1 + 1) = 128 ^ k * 128 * 128 := by rw [Int.pow_succ, e1]
    have hc : decide (v > (127 : Int)) = true := by simp; omega
    have hd : v.fdiv 128 = v / 128 := Int.fdiv_eq_ediv_of_nonneg _ (by decide)
    obtain ⟨r, q1, q2⟩ := ih (v / 128) (b ++ [u8w (bvor ((u8w v).toNat : Int) 128)]) (by omega) (by omega) (.inr (by omega)) (by simp only [List.length_append, List.length_cons, List.length_nil]; omega)
    refine ⟨u8w (bvor ((u8w v).toNat : Int) 128) :: r, ?_, by simp [q2]⟩
    rw [F_zig_Put_10_eq]
    simp only [hc, if_true, appl_one (bytes := 1) (l := b) (ys := [u8w (bvor ((u8w v).toNat : Int) 128)]) (by decide) (by simp only [List.length_cons, List.length_nil]; omega), ishr7, hd, Option.bind_eq_bind, Option.bind_some, q1]
    simp
theorem zig_put {k : Nat} {v : Int} {b : List UInt8} (h0 : 0 ≤ v) (h1 : v < 128 ^ (k + 1)) (h2 : k = 0 ∨ 128 ^ k ≤ v) (hb : b.length + k + 1 ≤ 2 ^ 26) : ∃ r, F_zig_Put b v = some (b ++ r) ∧ r.length = k + 1 := by
  obtain ⟨r, q1, q2⟩ := zig_loop k v b h0 h1 h2 hb
  have hr : roomMax = 70368744177664 := by decide
  have hc : F_slices_Clone_byte_byte b = some b := by
    unfold F_slices_Clone_byte_byte clonel
    rw [if_pos ⟨by rw [hr]; omega, by rw [hr]; omega⟩]
  refine ⟨r, ?_, q2⟩
  unfold F_zig_Put
  simp only [hc, q1, Option.bind_eq_bind, Option.bind_some]
theorem zig_num {k : Nat} {v : Int} {W : Ytcomp_writer} (h0 : 0 ≤ v) (h1 : v < 128 ^ (k + 1)) (h2 : k = 0 ∨ 128 ^ k ≤ v) (hb : W.b_.length + k + 1 ≤ 2 ^ 26) : ∃ r, F_tcomp_writer_num W v = some ⟨W.s, W.b_ ++ r⟩ ∧ r.length = k + 1 := by
  obtain ⟨r, q1, q2⟩ := zig_put (b := W.b_) h0 h1 h2 hb
  refine ⟨r, ?_, q2⟩
  unfold F_tcomp_writer_num
  simp only [q1, Option.bind_eq_bind, Option.bind_some]
theorem zig_byte {v : Int} {W : Ytcomp_writer} (hb : W.b_.length + 1 ≤ 2 ^ 26) : F_tcomp_writer_byte W v = some ⟨W.s, W.b_ ++ [u8w v]⟩ := by
  unfold F_tcomp_writer_byte
  simp only [appl_one (bytes := 1) (l := W.b_) (ys := [u8w v]) (by decide) hb, Option.bind_eq_bind, Option.bind_some]
/-- The zigzag number. -/
def zz (n : Int) : Int := if 0 ≤ n then 2 * n else -2 * n - 1
theorem wrapU32 (x : Int) : IntKind.u32.wrap x = x % 4294967296 := by simp [IntKind.wrap, IntKind.bits, IntKind.signed]
theorem zig32 {n : Int} (h : -2147483648 ≤ n ∧ n < 2147483648) : F_zig_Zig32 n = some (zz n) := by
  have h1 : ishl .u32 (IntKind.u32.wrap n) 1 = some (2 * n % 4294967296) := by
    unfold ishl
    rw [if_neg (by decide)]
    have : min (1 : Int).toNat IntKind.u32.bits = 1 := by decide
    rw [this, wrapU32, wrapU32]
    congr 1; omega
  have h2 : ishr .i32 n 31 = some (if 0 ≤ n then 0 else -1) := by
    unfold ishr
    rw [if_neg (by decide)]
    have : min (31 : Int).toNat IntKind.i32.bits = 31 := by decide
    rw [this, Int.fdiv_eq_ediv_of_nonneg _ (by decide)]
    split <;> (congr 1; omega)
  unfold F_zig_Zig32
  simp only [h1, h2, Option.bind_eq_bind, Option.bind_some]
  unfold ixor zz
  congr 1
  by_cases hn : 0 ≤ n
  · simp only [hn, if_true]
    have e : BitVec.ofInt IntKind.u32.bits (IntKind.u32.wrap 0) = (0#32 : BitVec IntKind.u32.bits) := rfl
    rw [e]
    show IntKind.u32.wrap ((BitVec.ofInt 32 (2 * n % 4294967296) ^^^ 0#32).toNat : Int) = _
    rw [BitVec.xor_zero, wrapU32, BitVec.toNat_ofInt]
    omega
  · simp only [hn, if_false]
    have e : BitVec.ofInt IntKind.u32.bits (IntKind.u32.wrap (-1)) = (BitVec.allOnes 32 : BitVec IntKind.u32.bits) := rfl
    rw [e]
    show IntKind.u32.wrap ((BitVec.ofInt 32 (2 * n % 4294967296) ^^^ BitVec.allOnes 32).toNat : Int) = _
    rw [BitVec.xor_allOnes, wrapU32, BitVec.toNat_not, BitVec.toNat_ofInt]
    omega
/-- How many bytes a number has, less one. -/
def zs (n : Int) : Nat := if -64 ≤ n ∧ n ≤ 63 then 0 else if -8192 ≤ n ∧ n ≤ 8191 then 1 else if -1048576 ≤ n ∧ n ≤ 1048575 then 2 else if -134217728 ≤ n ∧ n ≤ 134217727 then 3 else 4
theorem zs_le (n : Int) : zs n ≤ 4 := by
  unfold zs
  split
  · decide
  · split
    · decide
    · split
      · decide
      · split <;> decide
theorem zs_fit {n : Int} (h : -2147483648 ≤ n ∧ n < 2147483648) : 0 ≤ zz n ∧ zz n < 128 ^ (zs n + 1) ∧ (zs n = 0 ∨ 128 ^ zs n ≤ zz n) ∧ zz n < 4294967296 := by
  have hz : 0 ≤ zz n ∧ (0 ≤ n → zz n = 2 * n) ∧ (n < 0 → zz n = -2 * n - 1) := by
    unfold zz
    by_cases h0 : 0 ≤ n
    · rw [if_pos h0]; omega
    · rw [if_neg h0]; omega
  generalize zz n = z at hz
  unfold zs
  by_cases h1 : -64 ≤ n ∧ n ≤ 63
  · rw [if_pos h1]; refine ⟨by omega, ?_, .inl rfl, by omega⟩; show z < 128; omega
  rw [if_neg h1]
  by_cases h2 : -8192 ≤ n ∧ n ≤ 8191
  · rw [if_pos h2]; refine ⟨by omega, ?_, .inr ?_, by omega⟩; · show z < 16384; omega
    show 128 ≤ z; omega
  rw [if_neg h2]
  by_cases h3 : -1048576 ≤ n ∧ n ≤ 1048575
  · rw [if_pos h3]; refine ⟨by omega, ?_, .inr ?_, by omega⟩; · show z < 2097152; omega
    show 16384 ≤ z; omega
  rw [if_neg h3]
  by_cases h4 : -134217728 ≤ n ∧ n ≤ 134217727
  · rw [if_pos h4]; refine ⟨by omega, ?_, .inr ?_, by omega⟩; · show z < 268435456; omega
    show 2097152 ≤ z; omega
  rw [if_neg h4]; refine ⟨by omega, ?_, .inr ?_, by omega⟩
  · show z < 34359738368; omega
  · show 268435456 ≤ z; omega
def i32T : List UInt8 := [105, 51, 50]
theorem i32_base : (i32T, (8 : Int)) ∈ Ty.bases := by simp [Ty.bases, i32T]
theorem zig_write {n : Int} (h : -2147483648 ≤ n ∧ n < 2147483648) {W : Ytcomp_writer} (hW : W.b_.length ≤ 2 ^ 20) : ∃ r, F_tcomp_writer_value (W, i32T, numV 8 n) = some ⟨W.s, W.b_ ++ r⟩ ∧ r.length = zs n + 1 := by
  obtain ⟨f1, f2, f3, f4⟩ := zs_fit h
  have hs := zs_le n
  obtain ⟨r, q1, q2⟩ := zig_num (W := W) f1 f2 f3 (by omega)
  have hw : IntKind.i32.wrap n = n := by simp [IntKind.wrap, IntKind.bits, IntKind.signed, Int.bmod_def]; omega
  have hu : IntKind.u64.wrap (zz n) = zz n := wrapU64_id f1 (by omega)
  refine ⟨r, ?_, q2⟩
  rw [F_tcomp_writer_value_eq]
  simp only [Head_base (base_fine i32_base), Kind_base i32_base, show ((8 : Int) == 2) = false by decide, show ((8 : Int) == 3) = false by decide, show ((8 : Int) == 6) = false by decide, beq_self_eq_true, Bool.false_eq_true, if_false, if_true, Option.bind_eq_bind, Option.bind_some]
  rw [F_tcomp_writer_value_64_eq]
  simp only [if_true, numV, hw, zig32 h, hu, q1, Option.bind_eq_bind, Option.bind_some]
theorem zig_items {n : Int} (h : -2147483648 ≤ n ∧ n < 2147483648) (m : Nat) (hm : m < 256) : ∀ (j i : Nat) (W : Ytcomp_writer), m - i = j → i ≤ m → W.b_.length ≤ 10 + 5 * i →
    ∃ r, F_tcomp_writer_list_18 (i32T, List.replicate m (numV 8 n), (m : Int), (i : Int), W) = some ⟨W.s, W.b_ ++ r⟩ ∧ r.length = j * (zs n + 1) := by
  intro j
  have hs := zs_le n
  induction j with
  | zero =>
    intro i W hj hi hW
    have h1 : decide ((i : Int) < (m : Int)) = false := by simp; omega
    refine ⟨[], ?_, by simp⟩
    rw [F_tcomp_writer_list_18_eq]
    simp only [h1, Bool.false_eq_true, if_false, List.append_nil]
  | succ j ih =>
    intro i W hj hi hW
    have h1 : decide ((i : Int) < (m : Int)) = true := by simp; omega
    have h2 : (List.replicate m (numV 8 n))[i]? = some (numV 8 n) := by rw [List.getElem?_replicate, if_pos (by omega)]
    have h3 : iadd .i64 (i : Int) 1 = ((i + 1 : Nat) : Int) := iadd_one (by omega)
    obtain ⟨r, q1, q2⟩ := zig_write h (W := W) (by omega)
    obtain ⟨r', p1, p2⟩ := ih (i + 1) ⟨W.s, W.b_ ++ r⟩ (by omega) (by omega) (by simp only [List.length_append]; omega)
    refine ⟨r ++ r', ?_, ?_⟩
    · rw [F_tcomp_writer_list_18_eq]
      simp only [h1, if_true, lidx_nat, h2, h3, Option.bind_eq_bind, Option.bind_some, q1, p1, List.append_assoc]
    · rw [List.length_append, q2, p2, Nat.succ_mul]; omega
theorem short_i32 (W : Ytcomp_writer) : F_tcomp_writer_short W i32T = some 5 := by
  have h : F_tcomp_Short 8 = some 5 := rfl
  unfold F_tcomp_writer_short
  simp only [Kind_base i32_base, h, Option.bind_eq_bind, Option.bind_some]
/-- A list's head: one byte, and one or two more where it is long. -/
def headS (m : Nat) : Nat := if m < 15 then 1 else if m < 128 then 2 else 3
theorem zig_list {n : Int} (h : -2147483648 ≤ n ∧ n < 2147483648) (m : Nat) (hm : m < 256) (s : YSchema) : ∃ r, F_tcomp_writer_list (⟨s, []⟩, i32T, List.replicate m (numV 8 n)) = some ⟨s, r⟩ ∧ r.length = headS m + m * (zs n + 1) := by
  have hlen : ((List.replicate m (numV 8 n)).length : Int) = (m : Int) := by simp
  have z : ((0 : Nat) : Int) = 0 := rfl
  rw [F_tcomp_writer_list_eq]
  by_cases hc : m < 15
  · have h1 : decide ((m : Int) < 15) = true := by simp; omega
    obtain ⟨x, hx⟩ : ∃ x, ishl .i64 (m : Int) 4 = some x := ⟨_, by unfold ishl; rw [if_neg (by decide)]⟩
    obtain ⟨r, q1, q2⟩ := zig_items h m hm m 0 ⟨s, [u8w (ior .i64 x 5)]⟩ rfl (by omega) (by simp)
    rw [z] at q1
    refine ⟨[u8w (ior .i64 x 5)] ++ r, ?_, ?_⟩
    · simp only [hlen, h1, if_true, hx, short_i32, Option.bind_eq_bind, Option.bind_some, zig_byte (W := ⟨s, []⟩) (show ([] : List UInt8).length + 1 ≤ 2 ^ 26 by simp), List.nil_append]
      rw [F_tcomp_writer_list_22_eq, hlen]
      exact q1
    · simp only [List.length_append, List.length_cons, List.length_nil, q2, headS, hc, if_true]
  · have h1 : decide ((m : Int) < 15) = false := by simp; omega
    have hk : ∃ k, (m : Int) < 128 ^ (k + 1) ∧ (k = 0 ∨ 128 ^ k ≤ (m : Int)) ∧ k ≤ 1 ∧ headS m = k + 2 := by
      by_cases hc2 : m < 128
      · exact ⟨0, by simp; omega, .inl rfl, by omega, by simp [headS, hc, hc2]⟩
      · exact ⟨1, by simp; omega, .inr (by simp; omega), by omega, by simp [headS, hc, hc2]⟩
    obtain ⟨k, k1, k2, k3, k4⟩ := hk
    have hu : IntKind.u64.wrap (m : Int) = (m : Int) := wrapU64_id (by omega) (by omega)
    obtain ⟨r0, p1, p2⟩ := zig_num (W := ⟨s, [u8w (ior .i64 240 5)]⟩) (by omega) k1 k2 (by simp only [List.length_cons, List.length_nil]; omega)
    obtain ⟨r, q1, q2⟩ := zig_items h m hm m 0 ⟨s, [u8w (ior .i64 240 5)] ++ r0⟩ rfl (by omega) (by simp only [List.length_append, List.length_cons, List.length_nil]; omega)
    rw [z] at q1
    refine ⟨[u8w (ior .i64 240 5)] ++ r0 ++ r, ?_, ?_⟩
    · simp only [hlen, h1, Bool.false_eq_true, if_false, short_i32, Option.bind_eq_bind, Option.bind_some, zig_byte (W := ⟨s, []⟩) (show ([] : List UInt8).length + 1 ≤ 2 ^ 26 by simp), List.nil_append, hu, p1]
      rw [F_tcomp_writer_list_22_eq, hlen]
      exact q1
    · simp only [List.length_append, List.length_cons, List.length_nil, q2, p2, k4]; omega
theorem zig_list_value {n : Int} (h : -2147483648 ≤ n ∧ n < 2147483648) (m : Nat) (hm : m < 256) (s : YSchema) : ∃ r, F_tcomp_writer_value (⟨s, []⟩, (Ty.list (Ty.base i32T 8)).text, ⟨15, 0, [], List.replicate m (numV 8 n), []⟩) = some ⟨s, r⟩ ∧ r.length = headS m + m * (zs n + 1) := by
  obtain ⟨r, q1, q2⟩ := zig_list h m hm s
  refine ⟨r, ?_, q2⟩
  rw [F_tcomp_writer_value_eq]
  simp only [Head_list (list_fine i32_base), Kind_list (list_fine i32_base), show ((15 : Int) == 2) = false by decide, show ((15 : Int) == 3) = false by decide, show ((15 : Int) == 6) = false by decide, show ((15 : Int) == 8) = false by decide, show ((15 : Int) == 17) = false by decide, Bool.false_eq_true, if_false, Option.bind_eq_bind, Option.bind_some]
  rw [F_tcomp_writer_value_64_eq]
  simp only [show ((15 : Int) == 10) = false by decide, show ((15 : Int) == 4) = false by decide, show ((15 : Int) == 11) = false by decide, show ((15 : Int) == 16) = false by decide, Bool.false_eq_true, if_false]
  rw [F_tcomp_writer_value_57_eq]
  simp only [beq_self_eq_true, Bool.false_eq_true, if_false, if_true]
  rw [F_tcomp_writer_value_54_eq]
  simp only [if_true, Ty.text, q1, Option.bind_eq_bind, Option.bind_some]
end Go.Proofs.YtfihinodhhhllaaGreat
