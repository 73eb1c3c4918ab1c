/- TcompSizes, as a plain statement. -/
import Derived.Test.YtfihinodhhhllaaGreatIyZig
set_option linter.unusedVariables false
set_option linter.unusedSimpArgs false
namespace Go.Proofs.YtfihinodhhhllaaGreat
open Go
def S0 : YSchema := ⟨[], [], []⟩
def lim0 : YLimit := ⟨5, 5000⟩
theorem fit32 {n : Int} (h : -2147483648 ≤ n ∧ n < 2147483648) : fitB 8 n = true := by
  simp [fitB]; omega
theorem is8 : isNum 8 := .inr (.inr (.inr (.inr (.inl rfl))))
theorem Encode_num {n : Int} (h : -2147483648 ≤ n ∧ n < 2147483648) : ∃ r, F_tcomp_Encode S0 i32T (numV 8 n) lim0 = some (r, 0) ∧ r.length = zs n + 1 := by
  obtain ⟨r, q1, q2⟩ := zig_write h (W := ⟨S0, []⟩) (by simp)
  have hs := zs_le n
  have hkn : F_tcomp_known S0 i32T = some true := known_zig (base_fine i32_base) rfl S0
  have h1 : decide ((0 : Int) > lim0.depth) = false := by decide
  have h2 : decide ((r.length : Int) > lim0.bytes) = false := by rw [q2]; simp [lim0]; omega
  refine ⟨r, ?_, q2⟩
  unfold F_tcomp_Encode
  simp only [hkn, num_check i32_base is8 S0 n (by omega), fit32 h, Option.bind_eq_bind, Option.bind_some, Bool.not_true, Bool.false_eq_true, if_false, F_tcomp_Encode_12, F_tcomp_writer_done, q1, num_depth is8, h1, h2, List.nil_append]
theorem Encode_list {n : Int} (h : -2147483648 ≤ n ∧ n < 2147483648) (m : Nat) (hm : m < 256) : ∃ r, F_tcomp_Encode S0 (Ty.list (Ty.base i32T 8)).text ⟨15, 0, [], List.replicate m (numV 8 n), []⟩ lim0 = some (r, 0) ∧ r.length = headS m + m * (zs n + 1) := by
  obtain ⟨r, q1, q2⟩ := zig_list_value h m hm S0
  have hs := zs_le n
  have hmul : m * (zs n + 1) ≤ 255 * 5 := Nat.mul_le_mul (by omega) (by omega)
  have hh : headS m ≤ 3 := by unfold headS; repeat' split
                              all_goals omega
  have hkn : F_tcomp_known S0 (Ty.list (Ty.base i32T 8)).text = some true := known_zig (list_fine i32_base) rfl S0
  have h1 : decide ((1 : Int) > lim0.depth) = false := by decide
  have h2 : decide ((r.length : Int) > lim0.bytes) = false := by
    have hl : r.length ≤ 2000 := by omega
    clear q1 q2
    simp [lim0]; omega
  refine ⟨r, ?_, q2⟩
  unfold F_tcomp_Encode
  simp only [hkn, list_check i32_base is8 S0 n (by omega) (fit32 h) m (by omega), Option.bind_eq_bind, Option.bind_some, Bool.not_true, Bool.false_eq_true, if_false, F_tcomp_Encode_12, F_tcomp_writer_done, q1, list_depth is8 n m (by omega), h1, h2]
def mapTy : Ty := .map (.base i32T 8) (.base i32T 8)
theorem map_fine : mapTy.Fine := ⟨⟨i32_base, i32_base⟩, by simp [mapTy, Ty.text, i32T], by simp [mapTy, Ty.nest], by simp [mapTy, Ty.names]⟩
theorem Kind_map0 (s : YSchema) : F_value_Kind s mapTy.text = some 13 := by
  have hk : ((13 : Int) != (0 : Int)) = true := by decide
  have hz : ((0 : Int) != (0 : Int)) = false := by decide
  have hh : F_kind_Head mapTy.text = _ := Head_map map_fine
  unfold F_value_Kind
  simp only [hh, Option.bind_eq_bind, Option.bind_some, hz, hk, Bool.false_eq_true, if_false, if_true]
def map0 : YValue := ⟨13, 0, [], [], []⟩
theorem each0 (w : List UInt8) (i j : Int) (hi : 0 ≤ i) (s : YSchema) : F_value_each (s, w, [], i, j) = some true := by
  have h1 : decide (i < (([] : List YValue).length : Int)) = false := by simp; omega
  rw [F_value_each_eq, F_value_each_14_eq]
  simp only [h1, Bool.false_eq_true, if_false]
theorem map_check (s : YSchema) : F_value_Check (s, mapTy.text, map0) = some true := by
  have hh : F_kind_Head mapTy.text = _ := Head_map map_fine
  have hr : F_value_rise [] 2 = some true := by
    unfold F_value_rise
    rw [F_value_rise_14_eq]
    rfl
  have hm : irem .i64 (([] : List YValue).length : Int) 2 = some 0 := rfl
  rw [F_value_Check_eq]
  simp only [Kind_map0, hh, map0, show ((13 : Int) == 0) = false by decide, show ((13 : Int) != 13) = false by decide, Bool.false_eq_true, if_false, Option.bind_eq_bind, Option.bind_some]
  rw [F_value_Check_68_eq]
  simp only [show ((13 : Int) == 2) = false by decide, show ((13 : Int) == 3) = false by decide, show ((13 : Int) == 6) = false by decide, show ((13 : Int) == 8) = false by decide, show ((13 : Int) == 10) = false by decide, Bool.false_eq_true, if_false]
  rw [F_value_Check_59_eq]
  simp only [show ((13 : Int) == 11) = false by decide, show ((13 : Int) == 15) = false by decide, show ((13 : Int) == 14) = false by decide, Bool.false_eq_true, if_false, beq_self_eq_true, if_true, Option.bind_eq_bind, Option.bind_some, hm, each0 _ 0 2 (by decide), each0 _ 1 2 (by decide), hr]
theorem Encode_map : ∃ r, F_tcomp_Encode S0 mapTy.text map0 lim0 = some (r, 0) ∧ r.length = 1 := by
  have hkn : F_tcomp_known S0 mapTy.text = some true := known_zig map_fine rfl S0
  have hh : F_kind_Head mapTy.text = _ := Head_map map_fine
  obtain ⟨r, q1, q2⟩ := zig_num (k := 0) (v := 0) (W := ⟨S0, []⟩) (by decide) (by decide) (.inl rfl) (by simp)
  have hq : iquo .i64 (([] : List YValue).length : Int) 2 = some 0 := rfl
  have hu : IntKind.u64.wrap 0 = 0 := rfl
  have hl : ((([] : List YValue).length : Int) == 0) = true := rfl
  have hp : F_tcomp_writer_pairs (⟨S0, []⟩, i32T, i32T, []) = some ⟨S0, r⟩ := by
    rw [F_tcomp_writer_pairs_eq]
    simp only [hq, hu, q1, hl, if_true, Option.bind_eq_bind, Option.bind_some, List.nil_append]
  have hw : F_tcomp_writer_value (⟨S0, []⟩, mapTy.text, map0) = some ⟨S0, r⟩ := by
    rw [F_tcomp_writer_value_eq]
    simp only [hh, Kind_map0, show ((13 : Int) == 2) = false by decide, show ((13 : Int) == 3) = false by decide, show ((13 : Int) == 6) = false by decide, show ((13 : Int) == 8) = false by decide, show ((13 : Int) == 17) = false by decide, Bool.false_eq_true, if_false, Option.bind_eq_bind, Option.bind_some]
    rw [F_tcomp_writer_value_64_eq]
    simp only [show ((13 : Int) == 10) = false by decide, show ((13 : Int) == 4) = false by decide, show ((13 : Int) == 11) = false by decide, show ((13 : Int) == 16) = false by decide, Bool.false_eq_true, if_false]
    rw [F_tcomp_writer_value_57_eq]
    simp only [show ((13 : Int) == 15) = false by decide, show ((13 : Int) == 14) = false by decide, Bool.false_eq_true, if_false]
    rw [F_tcomp_writer_value_54_eq]
    simp only [beq_self_eq_true, Bool.false_eq_true, if_false, if_true, Ty.text, map0, hp, Option.bind_eq_bind, Option.bind_some]
  have hd : F_measure_Depth map0 = some 1 := by
    have h1 : F_measure_holds map0 = some true := rfl
    rw [F_measure_Depth_eq]
    simp only [h1, Option.bind_eq_bind, Option.bind_some, Bool.not_true, Bool.false_eq_true, if_false]
    rw [F_measure_Depth_18_eq]
    rfl
  have h1 : decide ((1 : Int) > lim0.depth) = false := by decide
  have h2 : decide ((r.length : Int) > lim0.bytes) = false := by rw [q2]; simp [lim0]
  refine ⟨r, ?_, by simpa using q2⟩
  unfold F_tcomp_Encode
  simp only [hkn, map_check, Option.bind_eq_bind, Option.bind_some, Bool.not_true, Bool.false_eq_true, if_false, F_tcomp_Encode_12, F_tcomp_writer_done, hw, hd, h1, h2]
theorem fill_loop (n : Int) (many : UInt8) (size : Int) (b : List UInt8) (e : Int) : ∀ (j c : Nat), many.toNat - c = j → c ≤ many.toNat →
    F_law20_TcompSizes_33 (many, size, b, e, (c : Int), lim0, numV 8 n, ⟨15, 0, [], List.replicate c (numV 8 n), []⟩) = F_law20_TcompSizes_33 (many, size, b, e, (many.toNat : Int), lim0, numV 8 n, ⟨15, 0, [], List.replicate many.toNat (numV 8 n), []⟩) := by
  intro j
  induction j with
  | zero => intro c hj hc; rw [show c = many.toNat by omega]
  | succ j ih =>
    intro c hj hc
    have hm : many.toNat < 256 := UInt8.toNat_lt many
    have hw : IntKind.i64.wrap (many.toNat : Int) = (many.toNat : Int) := wrap64_id (by omega) (by omega)
    have h1 : decide ((c : Int) < (many.toNat : Int)) = true := by simp; omega
    have h2 : appl 80 (List.replicate c (numV 8 n)) [numV 8 n] = some (List.replicate (c + 1) (numV 8 n)) := by
      rw [appl_one (by decide) (by simp; omega), List.replicate_succ']
    have h3 : iadd .i64 (c : Int) 1 = ((c + 1 : Nat) : Int) := iadd_one (by omega)
    rw [F_law20_TcompSizes_33_eq]
    simp only [hw, h1, if_true, h2, h3, Option.bind_eq_bind, Option.bind_some]
    exact ih (c + 1) (by omega) (by omega)
theorem law_end (many : UInt8) {k : Nat} (hk : k ≤ 4) {b c : List UInt8} (hb : b.length = k + 1) {head : Nat} (hh : head ≤ 3) (hc : c.length = head + many.toNat * (k + 1)) : F_law20_TcompSizes_51 many ((k + 1 : Nat) : Int) b 0 c 0 (head : Int) lim0 = some true := by
  obtain ⟨r, q1, q2⟩ := Encode_map
  have hm : many.toNat < 256 := UInt8.toNat_lt many
  have hw : IntKind.i64.wrap (many.toNat : Int) = (many.toNat : Int) := wrap64_id (by omega) (by omega)
  have hmul : many.toNat * (k + 1) ≤ 255 * 5 := Nat.mul_le_mul (by omega) (by omega)
  have m1 : imul .i64 (many.toNat : Int) ((k + 1 : Nat) : Int) = ((many.toNat * (k + 1) : Nat) : Int) := by rw [imul_id (by rw [← Int.natCast_mul]; omega) (by rw [← Int.natCast_mul]; omega), Int.natCast_mul]
  have m2 : iadd .i64 (head : Int) ((many.toNat * (k + 1) : Nat) : Int) = ((head + many.toNat * (k + 1) : Nat) : Int) := iadd_nat (by omega)
  unfold F_law20_TcompSizes_51
  rw [show F_tcomp_Encode ⟨[], [], []⟩ [109, 97, 112, 60, 105, 51, 50, 44, 105, 51, 50, 62] ⟨13, 0, [], [], []⟩ lim0 = _ from q1]
  simp only [Option.bind_eq_bind, Option.bind_some, hb, hw, m1, m2, hc, q2, beq_self_eq_true, if_true]
  rfl
theorem law_size {n : Int} (h : -2147483648 ≤ n ∧ n < 2147483648) (many : UInt8) : F_law20_TcompSizes_61 n many ((zs n + 1 : Nat) : Int) lim0 = some true := by
  obtain ⟨b, p1, p2⟩ := Encode_num h
  have hm : many.toNat < 256 := UInt8.toNat_lt many
  obtain ⟨c, q1, q2⟩ := Encode_list h many.toNat hm
  have hw : IntKind.i64.wrap n = n := wrap64_id (by omega) (by omega)
  have hw2 : IntKind.i64.wrap (many.toNat : Int) = (many.toNat : Int) := wrap64_id (by omega) (by omega)
  have hs := zs_le n
  have h4 : decide ((many.toNat : Int) < (many.toNat : Int)) = false := by simp
  have z : ((0 : Nat) : Int) = 0 := rfl
  have hfill := fill_loop n many ((zs n + 1 : Nat) : Int) b 0 _ 0 rfl (by omega)
  simp only [List.replicate_zero, z] at hfill
  unfold F_law20_TcompSizes_61
  simp only [hw]
  rw [show F_tcomp_Encode ⟨[], [], []⟩ [105, 51, 50] ⟨8, n, [], [], []⟩ lim0 = _ from p1]
  simp only [Option.bind_eq_bind, Option.bind_some]
  rw [show F_law20_TcompSizes_33 (many, ((zs n + 1 : Nat) : Int), b, 0, 0, lim0, ⟨8, n, [], [], []⟩, ⟨15, 0, [], [], []⟩) = _ from hfill]
  rw [F_law20_TcompSizes_33_eq]
  simp only [hw2, h4, Bool.false_eq_true, if_false]
  rw [show F_tcomp_Encode ⟨[], [], []⟩ [108, 105, 115, 116, 60, 105, 51, 50, 62] ⟨15, 0, [], List.replicate many.toNat (numV 8 n), []⟩ lim0 = _ from q1]
  simp only [Option.bind_eq_bind, Option.bind_some]
  unfold headS at q2
  by_cases h15 : many.toNat < 15
  · have e1 : decide ((many.toNat : Int) ≥ 15) = false := by simp; omega
    have e2 : decide ((many.toNat : Int) ≥ 128) = false := by simp; omega
    rw [if_pos h15] at q2
    simp only [e1, F_law20_TcompSizes_53, e2, Bool.false_eq_true, if_false]
    exact law_end many (head := 1) hs p2 (by omega) q2
  · have e1 : decide ((many.toNat : Int) ≥ 15) = true := by simp; omega
    rw [if_neg h15] at q2
    by_cases h128 : many.toNat < 128
    · have e2 : decide ((many.toNat : Int) ≥ 128) = false := by simp; omega
      rw [if_pos h128] at q2
      simp only [e1, F_law20_TcompSizes_53, e2, Bool.false_eq_true, if_false, if_true]
      exact law_end many (head := 2) hs p2 (by omega) q2
    · have e2 : decide ((many.toNat : Int) ≥ 128) = true := by simp; omega
      rw [if_neg h128] at q2
      simp only [e1, F_law20_TcompSizes_53, e2, if_true]
      exact law_end many (head := 3) hs p2 (by omega) q2
theorem size_step {n : Int} (h : -2147483648 ≤ n ∧ n < 2147483648) (many : UInt8) {s lo hi s' lo' hi' : Int} (hs : s < 5) (hn : n < lo ∨ hi < n) (e1 : iadd .i64 s 1 = s') (e2 : imul .i64 lo 128 = lo') (e3 : iadd .i64 (imul .i64 hi 128) 127 = hi') :
    F_law20_TcompSizes_17 (n, many, s, lo, hi, lim0) = F_law20_TcompSizes_17 (n, many, s', lo', hi', lim0) := by
  have hw : IntKind.i64.wrap n = n := wrap64_id (by omega) (by omega)
  have h1 : decide (s < 5) = true := by simpa using hs
  rw [F_law20_TcompSizes_17_eq]
  simp only [h1, if_true, hw, e1, e2, e3]
  by_cases hl : n < lo
  · have h2 : decide (n < lo) = true := by simpa using hl
    simp only [h2, if_true]
  · have h2 : decide (n < lo) = false := by simpa using hl
    have h3 : decide (n > hi) = true := by simp; omega
    simp only [h2, h3, if_true, Bool.false_eq_true, if_false]
theorem size_stop {n : Int} (h : -2147483648 ≤ n ∧ n < 2147483648) (many : UInt8) {s lo hi : Int} (hn : 5 ≤ s ∨ (lo ≤ n ∧ n ≤ hi)) : F_law20_TcompSizes_17 (n, many, s, lo, hi, lim0) = F_law20_TcompSizes_61 n many s lim0 := by
  have hw : IntKind.i64.wrap n = n := wrap64_id (by omega) (by omega)
  rw [F_law20_TcompSizes_17_eq]
  by_cases hs : s < 5
  · have h1 : decide (s < 5) = true := by simpa using hs
    have h2 : decide (n < lo) = false := by simp; omega
    have h3 : decide (n > hi) = false := by simp; omega
    simp only [h1, h2, h3, hw, if_true, Bool.false_eq_true, if_false]
  · have h1 : decide (s < 5) = false := by simpa using hs
    simp only [h1, Bool.false_eq_true, if_false]
theorem TcompSizes_true {n : Int} (h : -2147483648 ≤ n ∧ n < 2147483648) (many : UInt8) : F_law20_TcompSizes n many = some true := by
  have hb : F_law20_begun = some true := rfl
  have hz := law_size h many
  unfold F_law20_TcompSizes
  simp only [hb, Option.bind_eq_bind, Option.bind_some, Bool.not_true, Bool.false_eq_true, if_false]
  show F_law20_TcompSizes_17 (n, many, 1, -64, 63, lim0) = some true
  unfold zs at hz
  by_cases h1 : -64 ≤ n ∧ n ≤ 63
  · rw [if_pos h1] at hz
    rw [size_stop h many (.inr h1)]; exact hz
  rw [if_neg h1] at hz
  rw [size_step h many (s' := 2) (lo' := -8192) (hi' := 8191) (by decide) (by omega) (by decide) (by decide) (by decide)]
  by_cases h2 : -8192 ≤ n ∧ n ≤ 8191
  · rw [if_pos h2] at hz
    rw [size_stop h many (.inr h2)]; exact hz
  rw [if_neg h2] at hz
  rw [size_step h many (s' := 3) (lo' := -1048576) (hi' := 1048575) (by decide) (by omega) (by decide) (by decide) (by decide)]
  by_cases h3 : -1048576 ≤ n ∧ n ≤ 1048575
  · rw [if_pos h3] at hz
    rw [size_stop h many (.inr h3)]; exact hz
  rw [if_neg h3] at hz
  rw [size_step h many (s' := 4) (lo' := -134217728) (hi' := 134217727) (by decide) (by omega) (by decide) (by decide) (by decide)]
  by_cases h4 : -134217728 ≤ n ∧ n ≤ 134217727
  · rw [if_pos h4] at hz
    rw [size_stop h many (.inr h4)]; exact hz
  rw [if_neg h4] at hz
  rw [size_step h many (s' := 5) (lo' := -17179869184) (hi' := 17179869183) (by decide) (by omega) (by decide) (by decide) (by decide)]
  rw [size_stop h many (.inl (by decide))]; exact hz
end Go.Proofs.YtfihinodhhhllaaGreat
