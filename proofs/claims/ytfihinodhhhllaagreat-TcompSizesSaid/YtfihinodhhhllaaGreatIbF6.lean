/- The functions as plain functions, and that the runs come to their answers; printed by lift.py. -/
import Derived.Test.YtfihinodhhhllaaGreatIbH
import Derived.Test.YtfihinodhhhllaaGreatIbF5
set_option linter.unusedVariables false
set_option linter.unusedSimpArgs false
namespace Go.Proofs.YtfihinodhhhllaaGreat
open Go
def F_value_Fields_42 (v : List YSField × Int × Int × YSStruct × YValue) : Option (Bool) :=
  if (decide (v.2.2.1 < v.2.1)) = true then (
    lidx v.1 v.2.2.1 >>= fun x17 =>
    if (x17.req == (1 : Int)) = true then (
      F_slices_Contains_int_int v.2.2.2.2.iDs x17.iD >>= fun r19 =>
      if (!r19) = true then (
        some false
      ) else
      F_value_Fields_42 (v.1, v.2.1, (iadd .i64 v.2.2.1 1), v.2.2.2.1, v.2.2.2.2)
    ) else
    F_value_Fields_42 (v.1, v.2.1, (iadd .i64 v.2.2.1 1), v.2.2.2.1, v.2.2.2.2)
  ) else
  if (v.2.2.2.1.kind == (5 : Int)) = true then (
    some ((v.2.2.2.2.iDs.length : Int) == (1 : Int))
  ) else
  if (v.2.2.2.1.kind == (8 : Int)) = true then (
    some (decide ((v.2.2.2.2.iDs.length : Int) ≤ (1 : Int)))
  ) else
  some true
  partial_fixpoint
theorem F_value_Fields_42_eq (t69 : List YSField) (t70 : Int) (t71 : Int) (bx1 : YSStruct) (bx2 : YValue) : F_value_Fields_42 (t69, t70, t71, bx1, bx2) =
  if (decide (t71 < t70)) = true then (
    lidx t69 t71 >>= fun x17 =>
    if (x17.req == (1 : Int)) = true then (
      F_slices_Contains_int_int bx2.iDs x17.iD >>= fun r19 =>
      if (!r19) = true then (
        some false
      ) else
      F_value_Fields_42 (t69, t70, (iadd .i64 t71 1), bx1, bx2)
    ) else
    F_value_Fields_42 (t69, t70, (iadd .i64 t71 1), bx1, bx2)
  ) else
  if (bx1.kind == (5 : Int)) = true then (
    some ((bx2.iDs.length : Int) == (1 : Int))
  ) else
  if (bx1.kind == (8 : Int)) = true then (
    some (decide ((bx2.iDs.length : Int) ≤ (1 : Int)))
  ) else
  some true := F_value_Fields_42.eq_1 (t69, t70, t71, bx1, bx2)
def M_F_value_Fields_42 (v : List YSField × Int × Int × YSStruct × YValue) (p : Bool) : Prop := ∀ (h : Heap) (z0 : Box), Does T0 C72_42 (aft T0 (EndQ false [.tmp 6] h.length (.bool p) (h)) [.gc (h.length + 3), .lp C72_43, .blk 2, .seq C72_62]) .mk .mk [(4, .ptr (h.length + 1) 0), (5, .ptr (h.length + 2) 0), (69, .sl false 10 (List.map YSField.av v.1)), (70, .int .i64 v.2.1), (71, .int .i64 v.2.2.1)] (h ++ [z0, .row [.int .i64 v.2.2.2.1.kind, .str v.2.2.2.1.name, .sl false 10 (List.map YSField.av v.2.2.2.1.fields)], .row [.int .i64 v.2.2.2.2.kind, .int .i64 v.2.2.2.2.n_, .str v.2.2.2.2.s, .sl false 5 (List.map YValue.av v.2.2.2.2.l), .sl false 1 (List.map (AV.int .i64) v.2.2.2.2.iDs)]])
set_option maxHeartbeats 4000000 in
theorem st_F_value_Fields_42 (f_F_value_Fields_42 : (List YSField × Int × Int × YSStruct × YValue) → Option (Bool)) (ih_F_value_Fields_42 : ∀ v p, f_F_value_Fields_42 v = some p → M_F_value_Fields_42 v p) (v : List YSField × Int × Int × YSStruct × YValue) (p : Bool) (hF : (
  if (decide (v.2.2.1 < v.2.1)) = true then (
    lidx v.1 v.2.2.1 >>= fun x17 =>
    if (x17.req == (1 : Int)) = true then (
      F_slices_Contains_int_int v.2.2.2.2.iDs x17.iD >>= fun r19 =>
      if (!r19) = true then (
        some false
      ) else
      f_F_value_Fields_42 (v.1, v.2.1, (iadd .i64 v.2.2.1 1), v.2.2.2.1, v.2.2.2.2)
    ) else
    f_F_value_Fields_42 (v.1, v.2.1, (iadd .i64 v.2.2.1 1), v.2.2.2.1, v.2.2.2.2)
  ) else
  if (v.2.2.2.1.kind == (5 : Int)) = true then (
    some ((v.2.2.2.2.iDs.length : Int) == (1 : Int))
  ) else
  if (v.2.2.2.1.kind == (8 : Int)) = true then (
    some (decide ((v.2.2.2.2.iDs.length : Int) ≤ (1 : Int)))
  ) else
  some true) = some p) : M_F_value_Fields_42 v p := by
  intro h z0
  unfold C72_42
  simp only [go_sem, reduceIte, Nat.reduceEqDiff, Nat.reduceAdd, Nat.reduceLeDiff, Nat.reduceLT, Nat.reduceSub, Nat.reduceBEq, ne_eq, not_false_eq_true]
  rcases iteE hF with ⟨hc16, hF⟩ | ⟨hc16, hF⟩
  · simp only [go_sem, reduceIte, Nat.reduceEqDiff, Nat.reduceAdd, Nat.reduceLeDiff, Nat.reduceLT, Nat.reduceSub, Nat.reduceBEq, ne_eq, not_false_eq_true, hc16]
    obtain ⟨x17, hx17, hF⟩ := bindE hF
    refine DoesO_m (lidx_map YSField.av hx17) ?_
    simp only [go_sem, reduceIte, Nat.reduceEqDiff, Nat.reduceAdd, Nat.reduceLeDiff, Nat.reduceLT, Nat.reduceSub, Nat.reduceBEq, ne_eq, not_false_eq_true, hc16]
    rcases iteE hF with ⟨hc18, hF⟩ | ⟨hc18, hF⟩
    · simp only [go_sem, reduceIte, Nat.reduceEqDiff, Nat.reduceAdd, Nat.reduceLeDiff, Nat.reduceLT, Nat.reduceSub, Nat.reduceBEq, ne_eq, not_false_eq_true, hc16, hc18]
      obtain ⟨r19, hr19, hF⟩ := bindE hF
      refine DoesR_m (call_F_slices_Contains_int_int hr19) ?_
      simp only [go_sem, reduceIte, Nat.reduceEqDiff, Nat.reduceAdd, Nat.reduceLeDiff, Nat.reduceLT, Nat.reduceSub, Nat.reduceBEq, ne_eq, not_false_eq_true, hc16, hc18]
      rcases iteE hF with ⟨hc20, hF⟩ | ⟨hc20, hF⟩
      · simp only [go_sem, reduceIte, Nat.reduceEqDiff, Nat.reduceAdd, Nat.reduceLeDiff, Nat.reduceLT, Nat.reduceSub, Nat.reduceBEq, ne_eq, not_false_eq_true, hc16, hc18, hc20]
        refine aft_gc_drop (by simp only [go_sem, reduceIte, Nat.reduceEqDiff, Nat.reduceAdd, Nat.reduceLeDiff, Nat.reduceLT, Nat.reduceSub, Nat.reduceBEq, ne_eq, not_false_eq_true, hc16, hc18, hc20] <;> omega) ?_
        simp only [go_sem, reduceIte, Nat.reduceEqDiff, Nat.reduceAdd, Nat.reduceLeDiff, Nat.reduceLT, Nat.reduceSub, Nat.reduceBEq, ne_eq, not_false_eq_true, hc16, hc18, hc20]
        all_goals (cases hF; rfl)
      · simp only [go_sem, reduceIte, Nat.reduceEqDiff, Nat.reduceAdd, Nat.reduceLeDiff, Nat.reduceLT, Nat.reduceSub, Nat.reduceBEq, ne_eq, not_false_eq_true, hc16, hc18, hc20]
        refine aft_gc_drop (by simp only [go_sem, reduceIte, Nat.reduceEqDiff, Nat.reduceAdd, Nat.reduceLeDiff, Nat.reduceLT, Nat.reduceSub, Nat.reduceBEq, ne_eq, not_false_eq_true, hc16, hc18, hc20] <;> omega) ?_
        simp only [go_sem, reduceIte, Nat.reduceEqDiff, Nat.reduceAdd, Nat.reduceLeDiff, Nat.reduceLT, Nat.reduceSub, Nat.reduceBEq, ne_eq, not_false_eq_true, hc16, hc18, hc20]
        exact ih_F_value_Fields_42 _ _ hF _ _
    · simp only [go_sem, reduceIte, Nat.reduceEqDiff, Nat.reduceAdd, Nat.reduceLeDiff, Nat.reduceLT, Nat.reduceSub, Nat.reduceBEq, ne_eq, not_false_eq_true, hc16, hc18]
      refine aft_gc_drop (by simp only [go_sem, reduceIte, Nat.reduceEqDiff, Nat.reduceAdd, Nat.reduceLeDiff, Nat.reduceLT, Nat.reduceSub, Nat.reduceBEq, ne_eq, not_false_eq_true, hc16, hc18] <;> omega) ?_
      simp only [go_sem, reduceIte, Nat.reduceEqDiff, Nat.reduceAdd, Nat.reduceLeDiff, Nat.reduceLT, Nat.reduceSub, Nat.reduceBEq, ne_eq, not_false_eq_true, hc16, hc18]
      exact ih_F_value_Fields_42 _ _ hF _ _
  · simp only [go_sem, reduceIte, Nat.reduceEqDiff, Nat.reduceAdd, Nat.reduceLeDiff, Nat.reduceLT, Nat.reduceSub, Nat.reduceBEq, ne_eq, not_false_eq_true, hc16]
    rcases iteE hF with ⟨hc21, hF⟩ | ⟨hc21, hF⟩
    · simp only [go_sem, reduceIte, Nat.reduceEqDiff, Nat.reduceAdd, Nat.reduceLeDiff, Nat.reduceLT, Nat.reduceSub, Nat.reduceBEq, ne_eq, not_false_eq_true, hc16, hc21]
      all_goals (cases hF; rfl)
    · simp only [go_sem, reduceIte, Nat.reduceEqDiff, Nat.reduceAdd, Nat.reduceLeDiff, Nat.reduceLT, Nat.reduceSub, Nat.reduceBEq, ne_eq, not_false_eq_true, hc16, hc21]
      rcases iteE hF with ⟨hc22, hF⟩ | ⟨hc22, hF⟩
      · simp only [go_sem, reduceIte, Nat.reduceEqDiff, Nat.reduceAdd, Nat.reduceLeDiff, Nat.reduceLT, Nat.reduceSub, Nat.reduceBEq, ne_eq, not_false_eq_true, hc16, hc21, hc22]
        all_goals (cases hF; rfl)
      · simp only [go_sem, reduceIte, Nat.reduceEqDiff, Nat.reduceAdd, Nat.reduceLeDiff, Nat.reduceLT, Nat.reduceSub, Nat.reduceBEq, ne_eq, not_false_eq_true, hc16, hc21, hc22]
        all_goals (cases hF; rfl)
theorem t_F_value_Fields_42 : ∀ v p, F_value_Fields_42 v = some p → M_F_value_Fields_42 v p := F_value_Fields_42.partial_correctness M_F_value_Fields_42 (fun f0 i0 v p hF => st_F_value_Fields_42 f0 i0 v p hF)
def F_value_size_42 (v : List UInt8 × Int × Int × Int × Int) : Option (Int) :=
  if (decide (v.2.2.2.2 < v.2.1)) = true then (
    lidx v.1 v.2.2.2.2 >>= fun x9 =>
    ishr .u8 (x9.toNat : Int) 6 >>= fun x10 =>
    if (x10 != (2 : Int)) = true then (
      some 0
    ) else
    ishl .i32 v.2.2.2.1 6 >>= fun x12 =>
    lidx v.1 v.2.2.2.2 >>= fun x13 =>
    F_value_size_42 (v.1, v.2.1, v.2.2.1, (ior .i32 x12 (IntKind.i32.wrap ((u8w (bvand (x13.toNat : Int) 63)).toNat : Int))), (iadd .i64 v.2.2.2.2 1))
  ) else
  if (decide (v.2.2.2.1 < v.2.2.1)) = true then (
    some 0
  ) else
  if (decide (v.2.2.2.1 > (1114111 : Int))) = true then (
    some 0
  ) else
  if (decide (v.2.2.2.1 ≥ (55296 : Int))) = true then (
    if (decide (v.2.2.2.1 ≤ (57343 : Int))) = true then (
      some 0
    ) else
    some v.2.1
  ) else
  some v.2.1
  partial_fixpoint
theorem F_value_size_42_eq (s : List UInt8) (n_ : Int) (least : Int) (r : Int) (i : Int) : F_value_size_42 (s, n_, least, r, i) =
  if (decide (i < n_)) = true then (
    lidx s i >>= fun x9 =>
    ishr .u8 (x9.toNat : Int) 6 >>= fun x10 =>
    if (x10 != (2 : Int)) = true then (
      some 0
    ) else
    ishl .i32 r 6 >>= fun x12 =>
    lidx s i >>= fun x13 =>
    F_value_size_42 (s, n_, least, (ior .i32 x12 (IntKind.i32.wrap ((u8w (bvand (x13.toNat : Int) 63)).toNat : Int))), (iadd .i64 i 1))
  ) else
  if (decide (r < least)) = true then (
    some 0
  ) else
  if (decide (r > (1114111 : Int))) = true then (
    some 0
  ) else
  if (decide (r ≥ (55296 : Int))) = true then (
    if (decide (r ≤ (57343 : Int))) = true then (
      some 0
    ) else
    some n_
  ) else
  some n_ := F_value_size_42.eq_1 (s, n_, least, r, i)
def M_F_value_size_42 (v : List UInt8 × Int × Int × Int × Int) (p : Int) : Prop := ∀ (h : Heap), Does T0 C137_42 (aft T0 (EndQ false [.tmp 2] h.length (.int .i64 p) (h)) [.gc h.length, .lp C137_43, .blk 1, .seq C137_54]) .mk .mk [(0, .str v.1), (4, .int .i64 v.2.1), (5, .int .i32 v.2.2.1), (6, .int .i32 v.2.2.2.1), (7, .int .i64 v.2.2.2.2)] h
set_option maxHeartbeats 4000000 in
theorem st_F_value_size_42 (f_F_value_size_42 : (List UInt8 × Int × Int × Int × Int) → Option (Int)) (ih_F_value_size_42 : ∀ v p, f_F_value_size_42 v = some p → M_F_value_size_42 v p) (v : List UInt8 × Int × Int × Int × Int) (p : Int) (hF : (
  if (decide (v.2.2.2.2 < v.2.1)) = true then (
    lidx v.1 v.2.2.2.2 >>= fun x9 =>
    ishr .u8 (x9.toNat : Int) 6 >>= fun x10 =>
    if (x10 != (2 : Int)) = true then (
      some 0
    ) else
    ishl .i32 v.2.2.2.1 6 >>= fun x12 =>
    lidx v.1 v.2.2.2.2 >>= fun x13 =>
    f_F_value_size_42 (v.1, v.2.1, v.2.2.1, (ior .i32 x12 (IntKind.i32.wrap ((u8w (bvand (x13.toNat : Int) 63)).toNat : Int))), (iadd .i64 v.2.2.2.2 1))
  ) else
  if (decide (v.2.2.2.1 < v.2.2.1)) = true then (
    some 0
  ) else
  if (decide (v.2.2.2.1 > (1114111 : Int))) = true then (
    some 0
  ) else
  if (decide (v.2.2.2.1 ≥ (55296 : Int))) = true then (
    if (decide (v.2.2.2.1 ≤ (57343 : Int))) = true then (
      some 0
    ) else
    some v.2.1
  ) else
  some v.2.1) = some p) : M_F_value_size_42 v p := by
  intro h
  unfold C137_42
  simp only [go_sem, reduceIte, Nat.reduceEqDiff, Nat.reduceAdd, Nat.reduceLeDiff, Nat.reduceLT, Nat.reduceSub, Nat.reduceBEq, ne_eq, not_false_eq_true]
  rcases iteE hF with ⟨hc8, hF⟩ | ⟨hc8, hF⟩
  · simp only [go_sem, reduceIte, Nat.reduceEqDiff, Nat.reduceAdd, Nat.reduceLeDiff, Nat.reduceLT, Nat.reduceSub, Nat.reduceBEq, ne_eq, not_false_eq_true, hc8]
    obtain ⟨x9, hx9, hF⟩ := bindE hF
    refine DoesO_m (hx9) ?_
    simp only [go_sem, reduceIte, Nat.reduceEqDiff, Nat.reduceAdd, Nat.reduceLeDiff, Nat.reduceLT, Nat.reduceSub, Nat.reduceBEq, ne_eq, not_false_eq_true, hc8]
    obtain ⟨x10, hx10, hF⟩ := bindE hF
    refine DoesO_m (hx10) ?_
    simp only [go_sem, reduceIte, Nat.reduceEqDiff, Nat.reduceAdd, Nat.reduceLeDiff, Nat.reduceLT, Nat.reduceSub, Nat.reduceBEq, ne_eq, not_false_eq_true, hc8]
    rcases iteE hF with ⟨hc11, hF⟩ | ⟨hc11, hF⟩
    · simp only [go_sem, reduceIte, Nat.reduceEqDiff, Nat.reduceAdd, Nat.reduceLeDiff, Nat.reduceLT, Nat.reduceSub, Nat.reduceBEq, ne_eq, not_false_eq_true, hc8, hc11]
      all_goals (cases hF; rfl)
    · simp only [go_sem, reduceIte, Nat.reduceEqDiff, Nat.reduceAdd, Nat.reduceLeDiff, Nat.reduceLT, Nat.reduceSub, Nat.reduceBEq, ne_eq, not_false_eq_true, hc8, hc11]
      obtain ⟨x12, hx12, hF⟩ := bindE hF
      refine DoesO_m (hx12) ?_
      simp only [go_sem, reduceIte, Nat.reduceEqDiff, Nat.reduceAdd, Nat.reduceLeDiff, Nat.reduceLT, Nat.reduceSub, Nat.reduceBEq, ne_eq, not_false_eq_true, hc8, hc11]
      obtain ⟨x13, hx13, hF⟩ := bindE hF
      refine DoesO_m (hx13) ?_
      simp only [go_sem, reduceIte, Nat.reduceEqDiff, Nat.reduceAdd, Nat.reduceLeDiff, Nat.reduceLT, Nat.reduceSub, Nat.reduceBEq, ne_eq, not_false_eq_true, hc8, hc11]
      exact ih_F_value_size_42 _ _ hF _
  · simp only [go_sem, reduceIte, Nat.reduceEqDiff, Nat.reduceAdd, Nat.reduceLeDiff, Nat.reduceLT, Nat.reduceSub, Nat.reduceBEq, ne_eq, not_false_eq_true, hc8]
    rcases iteE hF with ⟨hc14, hF⟩ | ⟨hc14, hF⟩
    · simp only [go_sem, reduceIte, Nat.reduceEqDiff, Nat.reduceAdd, Nat.reduceLeDiff, Nat.reduceLT, Nat.reduceSub, Nat.reduceBEq, ne_eq, not_false_eq_true, hc8, hc14]
      all_goals (cases hF; rfl)
    · simp only [go_sem, reduceIte, Nat.reduceEqDiff, Nat.reduceAdd, Nat.reduceLeDiff, Nat.reduceLT, Nat.reduceSub, Nat.reduceBEq, ne_eq, not_false_eq_true, hc8, hc14]
      rcases iteE hF with ⟨hc15, hF⟩ | ⟨hc15, hF⟩
      · simp only [go_sem, reduceIte, Nat.reduceEqDiff, Nat.reduceAdd, Nat.reduceLeDiff, Nat.reduceLT, Nat.reduceSub, Nat.reduceBEq, ne_eq, not_false_eq_true, hc8, hc14, hc15]
        all_goals (cases hF; rfl)
      · simp only [go_sem, reduceIte, Nat.reduceEqDiff, Nat.reduceAdd, Nat.reduceLeDiff, Nat.reduceLT, Nat.reduceSub, Nat.reduceBEq, ne_eq, not_false_eq_true, hc8, hc14, hc15]
        rcases iteE hF with ⟨hc16, hF⟩ | ⟨hc16, hF⟩
        · simp only [go_sem, reduceIte, Nat.reduceEqDiff, Nat.reduceAdd, Nat.reduceLeDiff, Nat.reduceLT, Nat.reduceSub, Nat.reduceBEq, ne_eq, not_false_eq_true, hc8, hc14, hc15, hc16]
          rcases iteE hF with ⟨hc17, hF⟩ | ⟨hc17, hF⟩
          · simp only [go_sem, reduceIte, Nat.reduceEqDiff, Nat.reduceAdd, Nat.reduceLeDiff, Nat.reduceLT, Nat.reduceSub, Nat.reduceBEq, ne_eq, not_false_eq_true, hc8, hc14, hc15, hc16, hc17]
            all_goals (cases hF; rfl)
          · simp only [go_sem, reduceIte, Nat.reduceEqDiff, Nat.reduceAdd, Nat.reduceLeDiff, Nat.reduceLT, Nat.reduceSub, Nat.reduceBEq, ne_eq, not_false_eq_true, hc8, hc14, hc15, hc16, hc17]
            all_goals (cases hF; rfl)
        · simp only [go_sem, reduceIte, Nat.reduceEqDiff, Nat.reduceAdd, Nat.reduceLeDiff, Nat.reduceLT, Nat.reduceSub, Nat.reduceBEq, ne_eq, not_false_eq_true, hc8, hc14, hc15, hc16]
          all_goals (cases hF; rfl)
theorem t_F_value_size_42 : ∀ v p, F_value_size_42 v = some p → M_F_value_size_42 v p := F_value_size_42.partial_correctness M_F_value_size_42 (fun f0 i0 v p hF => st_F_value_size_42 f0 i0 v p hF)
def F_value_size_56 (s : List UInt8) (c : UInt8) (n_ : Int) (least : Int) : Option (Int) :=
  ishr .i32 127 n_ >>= fun x7 =>
  F_value_size_42 (s, n_, least, (iand .i32 (IntKind.i32.wrap (c.toNat : Int)) x7), 1)
set_option maxHeartbeats 4000000 in
theorem t_F_value_size_56 : ∀ (s : List UInt8) (c : UInt8) (n_ : Int) (least : Int) (p : Int), F_value_size_56 s c n_ least = some p → ∀ (h : Heap), Does T0 C137_56 (aft T0 (EndQ false [.tmp 2] h.length (.int .i64 p) (h)) []) .mk .mk [(0, .str s), (3, .int .u8 (c.toNat : Int)), (4, .int .i64 n_), (5, .int .i32 least)] h := by
  intro s c n_ least p hF
  unfold F_value_size_56 at hF
  intro h
  unfold C137_56
  simp only [go_sem, reduceIte, Nat.reduceEqDiff, Nat.reduceAdd, Nat.reduceLeDiff, Nat.reduceLT, Nat.reduceSub, Nat.reduceBEq, ne_eq, not_false_eq_true]
  obtain ⟨x7, hx7, hF⟩ := bindE hF
  refine DoesO_m (hx7) ?_
  simp only [go_sem, reduceIte, Nat.reduceEqDiff, Nat.reduceAdd, Nat.reduceLeDiff, Nat.reduceLT, Nat.reduceSub, Nat.reduceBEq, ne_eq, not_false_eq_true]
  exact t_F_value_size_42 _ _ hF _
def F_value_size_58 (s : List UInt8) (c : UInt8) (n_ : Int) (least : Int) : Option (Int) :=
  if (n_ == (0 : Int)) = true then (
    some 0
  ) else
  if (decide ((s.length : Int) < n_)) = true then (
    some 0
  ) else
  F_value_size_56 s c n_ least
set_option maxHeartbeats 4000000 in
theorem t_F_value_size_58 : ∀ (s : List UInt8) (c : UInt8) (n_ : Int) (least : Int) (p : Int), F_value_size_58 s c n_ least = some p → ∀ (h : Heap), Does T0 C137_58 (aft T0 (EndQ false [.tmp 2] h.length (.int .i64 p) (h)) []) .mk .mk [(0, .str s), (3, .int .u8 (c.toNat : Int)), (4, .int .i64 n_), (5, .int .i32 least)] h := by
  intro s c n_ least p hF
  unfold F_value_size_58 at hF
  intro h
  unfold C137_58
  simp only [go_sem, reduceIte, Nat.reduceEqDiff, Nat.reduceAdd, Nat.reduceLeDiff, Nat.reduceLT, Nat.reduceSub, Nat.reduceBEq, ne_eq, not_false_eq_true]
  rcases iteE hF with ⟨hc5, hF⟩ | ⟨hc5, hF⟩
  · simp only [go_sem, reduceIte, Nat.reduceEqDiff, Nat.reduceAdd, Nat.reduceLeDiff, Nat.reduceLT, Nat.reduceSub, Nat.reduceBEq, ne_eq, not_false_eq_true, hc5]
    all_goals (cases hF; rfl)
  · simp only [go_sem, reduceIte, Nat.reduceEqDiff, Nat.reduceAdd, Nat.reduceLeDiff, Nat.reduceLT, Nat.reduceSub, Nat.reduceBEq, ne_eq, not_false_eq_true, hc5]
    rcases iteE hF with ⟨hc6, hF⟩ | ⟨hc6, hF⟩
    · simp only [go_sem, reduceIte, Nat.reduceEqDiff, Nat.reduceAdd, Nat.reduceLeDiff, Nat.reduceLT, Nat.reduceSub, Nat.reduceBEq, ne_eq, not_false_eq_true, hc5, hc6]
      all_goals (cases hF; rfl)
    · simp only [go_sem, reduceIte, Nat.reduceEqDiff, Nat.reduceAdd, Nat.reduceLeDiff, Nat.reduceLT, Nat.reduceSub, Nat.reduceBEq, ne_eq, not_false_eq_true, hc5, hc6]
      exact t_F_value_size_56 _ _ _ _ _ hF _
def F_value_size (s : List UInt8) : Option (Int) :=
  lidx s 0 >>= fun x1 =>
  if (decide ((x1.toNat : Int) < (128 : Int))) = true then (
    some 1
  ) else
  ishr .u8 (x1.toNat : Int) 5 >>= fun x3 =>
  if (x3 == (6 : Int)) = true then (
    F_value_size_58 s x1 2 128
  ) else
  ishr .u8 (x1.toNat : Int) 4 >>= fun x18 =>
  if (x18 == (14 : Int)) = true then (
    F_value_size_58 s x1 3 2048
  ) else
  ishr .u8 (x1.toNat : Int) 3 >>= fun x20 =>
  if (x20 == (30 : Int)) = true then (
    F_value_size_58 s x1 4 65536
  ) else
  F_value_size_58 s x1 0 0
set_option maxHeartbeats 4000000 in
theorem t_F_value_size : ∀ (s : List UInt8) (p : Int), F_value_size s = some p → ∀ (h : Heap), Run T0 N_value_size [.str s] h = some ((.int .i64 p), h) := by
  intro s p hF
  unfold F_value_size at hF
  intro h
  refine run_ofK at_value_size (n := h.length) rfl ?_
  simp only [go_sem, reduceIte, Nat.reduceEqDiff, Nat.reduceAdd, Nat.reduceLeDiff, Nat.reduceLT, Nat.reduceSub, Nat.reduceBEq, ne_eq, not_false_eq_true]
  obtain ⟨x1, hx1, hF⟩ := bindE hF
  refine DoesO_m (hx1) ?_
  simp only [go_sem, reduceIte, Nat.reduceEqDiff, Nat.reduceAdd, Nat.reduceLeDiff, Nat.reduceLT, Nat.reduceSub, Nat.reduceBEq, ne_eq, not_false_eq_true]
  rcases iteE hF with ⟨hc2, hF⟩ | ⟨hc2, hF⟩
  · simp only [go_sem, reduceIte, Nat.reduceEqDiff, Nat.reduceAdd, Nat.reduceLeDiff, Nat.reduceLT, Nat.reduceSub, Nat.reduceBEq, ne_eq, not_false_eq_true, hc2]
    all_goals (cases hF; rfl)
  · simp only [go_sem, reduceIte, Nat.reduceEqDiff, Nat.reduceAdd, Nat.reduceLeDiff, Nat.reduceLT, Nat.reduceSub, Nat.reduceBEq, ne_eq, not_false_eq_true, hc2]
    obtain ⟨x3, hx3, hF⟩ := bindE hF
    refine DoesO_m (hx3) ?_
    simp only [go_sem, reduceIte, Nat.reduceEqDiff, Nat.reduceAdd, Nat.reduceLeDiff, Nat.reduceLT, Nat.reduceSub, Nat.reduceBEq, ne_eq, not_false_eq_true, hc2]
    rcases iteE hF with ⟨hc4, hF⟩ | ⟨hc4, hF⟩
    · simp only [go_sem, reduceIte, Nat.reduceEqDiff, Nat.reduceAdd, Nat.reduceLeDiff, Nat.reduceLT, Nat.reduceSub, Nat.reduceBEq, ne_eq, not_false_eq_true, hc2, hc4]
      exact t_F_value_size_58 _ _ _ _ _ hF _
    · simp only [go_sem, reduceIte, Nat.reduceEqDiff, Nat.reduceAdd, Nat.reduceLeDiff, Nat.reduceLT, Nat.reduceSub, Nat.reduceBEq, ne_eq, not_false_eq_true, hc2, hc4]
      obtain ⟨x18, hx18, hF⟩ := bindE hF
      refine DoesO_m (hx18) ?_
      simp only [go_sem, reduceIte, Nat.reduceEqDiff, Nat.reduceAdd, Nat.reduceLeDiff, Nat.reduceLT, Nat.reduceSub, Nat.reduceBEq, ne_eq, not_false_eq_true, hc2, hc4]
      rcases iteE hF with ⟨hc19, hF⟩ | ⟨hc19, hF⟩
      · simp only [go_sem, reduceIte, Nat.reduceEqDiff, Nat.reduceAdd, Nat.reduceLeDiff, Nat.reduceLT, Nat.reduceSub, Nat.reduceBEq, ne_eq, not_false_eq_true, hc2, hc4, hc19]
        exact t_F_value_size_58 _ _ _ _ _ hF _
      · simp only [go_sem, reduceIte, Nat.reduceEqDiff, Nat.reduceAdd, Nat.reduceLeDiff, Nat.reduceLT, Nat.reduceSub, Nat.reduceBEq, ne_eq, not_false_eq_true, hc2, hc4, hc19]
        obtain ⟨x20, hx20, hF⟩ := bindE hF
        refine DoesO_m (hx20) ?_
        simp only [go_sem, reduceIte, Nat.reduceEqDiff, Nat.reduceAdd, Nat.reduceLeDiff, Nat.reduceLT, Nat.reduceSub, Nat.reduceBEq, ne_eq, not_false_eq_true, hc2, hc4, hc19]
        rcases iteE hF with ⟨hc21, hF⟩ | ⟨hc21, hF⟩
        · simp only [go_sem, reduceIte, Nat.reduceEqDiff, Nat.reduceAdd, Nat.reduceLeDiff, Nat.reduceLT, Nat.reduceSub, Nat.reduceBEq, ne_eq, not_false_eq_true, hc2, hc4, hc19, hc21]
          exact t_F_value_size_58 _ _ _ _ _ hF _
        · simp only [go_sem, reduceIte, Nat.reduceEqDiff, Nat.reduceAdd, Nat.reduceLeDiff, Nat.reduceLT, Nat.reduceSub, Nat.reduceBEq, ne_eq, not_false_eq_true, hc2, hc4, hc19, hc21]
          exact t_F_value_size_58 _ _ _ _ _ hF _
theorem call_F_value_size {s : List UInt8} {p : Int} (hx : F_value_size s = some p) {h : Heap} : callA (Run T0 N_value_size) [.str s] h = some ((.int .i64 p), h) :=
  callA_pure (by simp only [go_sem]) (fun H => t_F_value_size _ _ hx H)
def F_value_Valid_15 (v : List UInt8) : Option (Bool) :=
  if (!(v == [])) = true then (
    F_value_size v >>= fun r2 =>
    if (r2 == (0 : Int)) = true then (
      some false
    ) else
    subl v r2 (v.length : Int) >>= fun x4 =>
    F_value_Valid_15 x4
  ) else
  some true
  partial_fixpoint
theorem F_value_Valid_15_eq (s : List UInt8) : F_value_Valid_15 s =
  if (!(s == [])) = true then (
    F_value_size s >>= fun r2 =>
    if (r2 == (0 : Int)) = true then (
      some false
    ) else
    subl s r2 (s.length : Int) >>= fun x4 =>
    F_value_Valid_15 x4
  ) else
  some true := F_value_Valid_15.eq_1 (s)
def M_F_value_Valid_15 (v : List UInt8) (p : Bool) : Prop := ∀ (h : Heap), Does T0 C78_15 (aft T0 (EndQ false [.tmp 2] h.length (.bool p) (h)) [.gc h.length, .lp C78_16, .blk 0, .seq C78_20]) .mk .mk [(0, .str v)] h
set_option maxHeartbeats 4000000 in
theorem st_F_value_Valid_15 (f_F_value_Valid_15 : (List UInt8) → Option (Bool)) (ih_F_value_Valid_15 : ∀ v p, f_F_value_Valid_15 v = some p → M_F_value_Valid_15 v p) (v : List UInt8) (p : Bool) (hF : (
  if (!(v == [])) = true then (
    F_value_size v >>= fun r2 =>
    if (r2 == (0 : Int)) = true then (
      some false
    ) else
    subl v r2 (v.length : Int) >>= fun x4 =>
    f_F_value_Valid_15 x4
  ) else
  some true) = some p) : M_F_value_Valid_15 v p := by
  intro h
  unfold C78_15
  simp only [go_sem, reduceIte, Nat.reduceEqDiff, Nat.reduceAdd, Nat.reduceLeDiff, Nat.reduceLT, Nat.reduceSub, Nat.reduceBEq, ne_eq, not_false_eq_true]
  rcases iteE hF with ⟨hc1, hF⟩ | ⟨hc1, hF⟩
  · simp only [go_sem, reduceIte, Nat.reduceEqDiff, Nat.reduceAdd, Nat.reduceLeDiff, Nat.reduceLT, Nat.reduceSub, Nat.reduceBEq, ne_eq, not_false_eq_true, hc1]
    obtain ⟨r2, hr2, hF⟩ := bindE hF
    refine DoesR_m (call_F_value_size hr2) ?_
    simp only [go_sem, reduceIte, Nat.reduceEqDiff, Nat.reduceAdd, Nat.reduceLeDiff, Nat.reduceLT, Nat.reduceSub, Nat.reduceBEq, ne_eq, not_false_eq_true, hc1]
    rcases iteE hF with ⟨hc3, hF⟩ | ⟨hc3, hF⟩
    · simp only [go_sem, reduceIte, Nat.reduceEqDiff, Nat.reduceAdd, Nat.reduceLeDiff, Nat.reduceLT, Nat.reduceSub, Nat.reduceBEq, ne_eq, not_false_eq_true, hc1, hc3]
      all_goals (cases hF; rfl)
    · simp only [go_sem, reduceIte, Nat.reduceEqDiff, Nat.reduceAdd, Nat.reduceLeDiff, Nat.reduceLT, Nat.reduceSub, Nat.reduceBEq, ne_eq, not_false_eq_true, hc1, hc3]
      obtain ⟨x4, hx4, hF⟩ := bindE hF
      refine DoesO_m (hx4) ?_
      simp only [go_sem, reduceIte, Nat.reduceEqDiff, Nat.reduceAdd, Nat.reduceLeDiff, Nat.reduceLT, Nat.reduceSub, Nat.reduceBEq, ne_eq, not_false_eq_true, hc1, hc3]
      exact ih_F_value_Valid_15 _ _ hF _
  · simp only [go_sem, reduceIte, Nat.reduceEqDiff, Nat.reduceAdd, Nat.reduceLeDiff, Nat.reduceLT, Nat.reduceSub, Nat.reduceBEq, ne_eq, not_false_eq_true, hc1]
    all_goals (cases hF; rfl)
theorem t_F_value_Valid_15 : ∀ v p, F_value_Valid_15 v = some p → M_F_value_Valid_15 v p := F_value_Valid_15.partial_correctness M_F_value_Valid_15 (fun f0 i0 v p hF => st_F_value_Valid_15 f0 i0 v p hF)
def F_value_Valid (s : List UInt8) : Option (Bool) :=
  F_value_Valid_15 s
set_option maxHeartbeats 4000000 in
theorem t_F_value_Valid : ∀ (s : List UInt8) (p : Bool), F_value_Valid s = some p → ∀ (h : Heap), Run T0 N_value_Valid [.str s] h = some ((.bool p), h) := by
  intro s p hF
  unfold F_value_Valid at hF
  intro h
  refine run_ofK at_value_Valid (n := h.length) rfl ?_
  simp only [go_sem, reduceIte, Nat.reduceEqDiff, Nat.reduceAdd, Nat.reduceLeDiff, Nat.reduceLT, Nat.reduceSub, Nat.reduceBEq, ne_eq, not_false_eq_true]
  exact t_F_value_Valid_15 _ _ hF _
theorem call_F_value_Valid {s : List UInt8} {p : Bool} (hx : F_value_Valid s = some p) {h : Heap} : callA (Run T0 N_value_Valid) [.str s] h = some ((.bool p), h) :=
  callA_pure (by simp only [go_sem]) (fun H => t_F_value_Valid _ _ hx H)
def F_value_fits (k : Int) (n_ : Int) : Option (Bool) :=
  if (k == (3 : Int)) = true then (
    some (n_ == (IntKind.i64.wrap (IntKind.i8.wrap n_)))
  ) else
  if (k == (6 : Int)) = true then (
    some (n_ == (IntKind.i64.wrap (IntKind.i16.wrap n_)))
  ) else
  if (k == (8 : Int)) = true then (
    some (n_ == (IntKind.i64.wrap (IntKind.i32.wrap n_)))
  ) else
  some true
set_option maxHeartbeats 4000000 in
theorem t_F_value_fits : ∀ (k : Int) (n_ : Int) (p : Bool), F_value_fits k n_ = some p → ∀ (h : Heap), Run T0 N_value_fits [.int .i64 k, .int .i64 n_] h = some ((.bool p), h) := by
  intro k n_ p hF
  unfold F_value_fits at hF
  intro h
  refine run_ofK at_value_fits (n := h.length) rfl ?_
  simp only [go_sem, reduceIte, Nat.reduceEqDiff, Nat.reduceAdd, Nat.reduceLeDiff, Nat.reduceLT, Nat.reduceSub, Nat.reduceBEq, ne_eq, not_false_eq_true]
  rcases iteE hF with ⟨hc1, hF⟩ | ⟨hc1, hF⟩
  · simp only [go_sem, reduceIte, Nat.reduceEqDiff, Nat.reduceAdd, Nat.reduceLeDiff, Nat.reduceLT, Nat.reduceSub, Nat.reduceBEq, ne_eq, not_false_eq_true, hc1]
    all_goals (cases hF; rfl)
  · simp only [go_sem, reduceIte, Nat.reduceEqDiff, Nat.reduceAdd, Nat.reduceLeDiff, Nat.reduceLT, Nat.reduceSub, Nat.reduceBEq, ne_eq, not_false_eq_true, hc1]
    rcases iteE hF with ⟨hc2, hF⟩ | ⟨hc2, hF⟩
    · simp only [go_sem, reduceIte, Nat.reduceEqDiff, Nat.reduceAdd, Nat.reduceLeDiff, Nat.reduceLT, Nat.reduceSub, Nat.reduceBEq, ne_eq, not_false_eq_true, hc1, hc2]
      all_goals (cases hF; rfl)
    · simp only [go_sem, reduceIte, Nat.reduceEqDiff, Nat.reduceAdd, Nat.reduceLeDiff, Nat.reduceLT, Nat.reduceSub, Nat.reduceBEq, ne_eq, not_false_eq_true, hc1, hc2]
      rcases iteE hF with ⟨hc3, hF⟩ | ⟨hc3, hF⟩
      · simp only [go_sem, reduceIte, Nat.reduceEqDiff, Nat.reduceAdd, Nat.reduceLeDiff, Nat.reduceLT, Nat.reduceSub, Nat.reduceBEq, ne_eq, not_false_eq_true, hc1, hc2, hc3]
        all_goals (cases hF; rfl)
      · simp only [go_sem, reduceIte, Nat.reduceEqDiff, Nat.reduceAdd, Nat.reduceLeDiff, Nat.reduceLT, Nat.reduceSub, Nat.reduceBEq, ne_eq, not_false_eq_true, hc1, hc2, hc3]
        all_goals (cases hF; rfl)
theorem call_F_value_fits {k : Int} {n_ : Int} {p : Bool} (hx : F_value_fits k n_ = some p) {h : Heap} : callA (Run T0 N_value_fits) [.int .i64 k, .int .i64 n_] h = some ((.bool p), h) :=
  callA_pure (by simp only [go_sem]) (fun H => t_F_value_fits _ _ _ hx H)
def F_cmp_isNaN_int (x : Int) : Option (Bool) :=
  some (x != x)
set_option maxHeartbeats 4000000 in
theorem t_F_cmp_isNaN_int : ∀ (x : Int) (p : Bool), F_cmp_isNaN_int x = some p → ∀ (h : Heap), Run T0 N_cmp_isNaN_int [.int .i64 x] h = some ((.bool p), h) := by
  intro x p hF
  unfold F_cmp_isNaN_int at hF
  intro h
  refine run_ofK at_cmp_isNaN_int (n := h.length) rfl ?_
  simp only [go_sem, reduceIte, Nat.reduceEqDiff, Nat.reduceAdd, Nat.reduceLeDiff, Nat.reduceLT, Nat.reduceSub, Nat.reduceBEq, ne_eq, not_false_eq_true]
  all_goals (cases hF; rfl)
theorem call_F_cmp_isNaN_int {x : Int} {p : Bool} (hx : F_cmp_isNaN_int x = some p) {h : Heap} : callA (Run T0 N_cmp_isNaN_int) [.int .i64 x] h = some ((.bool p), h) :=
  callA_pure (by simp only [go_sem]) (fun H => t_F_cmp_isNaN_int _ _ hx H)
def F_cmp_Compare_int (x : Int) (y : Int) : Option (Int) :=
  F_cmp_isNaN_int x >>= fun r1 =>
  F_cmp_isNaN_int y >>= fun r2 =>
  if r1 = true then (
    if r2 = true then (
      some 0
    ) else
    some (-1)
  ) else
  if r2 = true then (
    some 1
  ) else
  if (decide (x < y)) = true then (
    some (-1)
  ) else
  if (decide (x > y)) = true then (
    some 1
  ) else
  some 0
set_option maxHeartbeats 4000000 in
theorem t_F_cmp_Compare_int : ∀ (x : Int) (y : Int) (p : Int), F_cmp_Compare_int x y = some p → ∀ (h : Heap), Run T0 N_cmp_Compare_int [.int .i64 x, .int .i64 y] h = some ((.int .i64 p), h) := by
  intro x y p hF
  unfold F_cmp_Compare_int at hF
  intro h
  refine run_ofK at_cmp_Compare_int (n := h.length) rfl ?_
  simp only [go_sem, reduceIte, Nat.reduceEqDiff, Nat.reduceAdd, Nat.reduceLeDiff, Nat.reduceLT, Nat.reduceSub, Nat.reduceBEq, ne_eq, not_false_eq_true]
  obtain ⟨r1, hr1, hF⟩ := bindE hF
  refine DoesR_m (call_F_cmp_isNaN_int hr1) ?_
  simp only [go_sem, reduceIte, Nat.reduceEqDiff, Nat.reduceAdd, Nat.reduceLeDiff, Nat.reduceLT, Nat.reduceSub, Nat.reduceBEq, ne_eq, not_false_eq_true]
  obtain ⟨r2, hr2, hF⟩ := bindE hF
  refine DoesR_m (call_F_cmp_isNaN_int hr2) ?_
  simp only [go_sem, reduceIte, Nat.reduceEqDiff, Nat.reduceAdd, Nat.reduceLeDiff, Nat.reduceLT, Nat.reduceSub, Nat.reduceBEq, ne_eq, not_false_eq_true]
  rcases iteE hF with ⟨hc3, hF⟩ | ⟨hc3, hF⟩
  · simp only [go_sem, reduceIte, Nat.reduceEqDiff, Nat.reduceAdd, Nat.reduceLeDiff, Nat.reduceLT, Nat.reduceSub, Nat.reduceBEq, ne_eq, not_false_eq_true, hc3]
    rcases iteE hF with ⟨hc4, hF⟩ | ⟨hc4, hF⟩
    · simp only [go_sem, reduceIte, Nat.reduceEqDiff, Nat.reduceAdd, Nat.reduceLeDiff, Nat.reduceLT, Nat.reduceSub, Nat.reduceBEq, ne_eq, not_false_eq_true, hc3, hc4]
      all_goals (cases hF; rfl)
    · simp only [go_sem, reduceIte, Nat.reduceEqDiff, Nat.reduceAdd, Nat.reduceLeDiff, Nat.reduceLT, Nat.reduceSub, Nat.reduceBEq, ne_eq, not_false_eq_true, hc3, hc4]
      all_goals (cases hF; rfl)
  · simp only [go_sem, reduceIte, Nat.reduceEqDiff, Nat.reduceAdd, Nat.reduceLeDiff, Nat.reduceLT, Nat.reduceSub, Nat.reduceBEq, ne_eq, not_false_eq_true, hc3]
    rcases iteE hF with ⟨hc5, hF⟩ | ⟨hc5, hF⟩
    · simp only [go_sem, reduceIte, Nat.reduceEqDiff, Nat.reduceAdd, Nat.reduceLeDiff, Nat.reduceLT, Nat.reduceSub, Nat.reduceBEq, ne_eq, not_false_eq_true, hc3, hc5]
      all_goals (cases hF; rfl)
    · simp only [go_sem, reduceIte, Nat.reduceEqDiff, Nat.reduceAdd, Nat.reduceLeDiff, Nat.reduceLT, Nat.reduceSub, Nat.reduceBEq, ne_eq, not_false_eq_true, hc3, hc5]
      rcases iteE hF with ⟨hc6, hF⟩ | ⟨hc6, hF⟩
      · simp only [go_sem, reduceIte, Nat.reduceEqDiff, Nat.reduceAdd, Nat.reduceLeDiff, Nat.reduceLT, Nat.reduceSub, Nat.reduceBEq, ne_eq, not_false_eq_true, hc3, hc5, hc6]
        all_goals (cases hF; rfl)
      · simp only [go_sem, reduceIte, Nat.reduceEqDiff, Nat.reduceAdd, Nat.reduceLeDiff, Nat.reduceLT, Nat.reduceSub, Nat.reduceBEq, ne_eq, not_false_eq_true, hc3, hc5, hc6]
        rcases iteE hF with ⟨hc7, hF⟩ | ⟨hc7, hF⟩
        · simp only [go_sem, reduceIte, Nat.reduceEqDiff, Nat.reduceAdd, Nat.reduceLeDiff, Nat.reduceLT, Nat.reduceSub, Nat.reduceBEq, ne_eq, not_false_eq_true, hc3, hc5, hc6, hc7]
          all_goals (cases hF; rfl)
        · simp only [go_sem, reduceIte, Nat.reduceEqDiff, Nat.reduceAdd, Nat.reduceLeDiff, Nat.reduceLT, Nat.reduceSub, Nat.reduceBEq, ne_eq, not_false_eq_true, hc3, hc5, hc6, hc7]
          all_goals (cases hF; rfl)
theorem call_F_cmp_Compare_int {x : Int} {y : Int} {p : Int} (hx : F_cmp_Compare_int x y = some p) {h : Heap} : callA (Run T0 N_cmp_Compare_int) [.int .i64 x, .int .i64 y] h = some ((.int .i64 p), h) :=
  callA_pure (by simp only [go_sem]) (fun H => t_F_cmp_Compare_int _ _ _ hx H)
def F_cmp_isNaN_int64 (x : Int) : Option (Bool) :=
  some (x != x)
set_option maxHeartbeats 4000000 in
theorem t_F_cmp_isNaN_int64 : ∀ (x : Int) (p : Bool), F_cmp_isNaN_int64 x = some p → ∀ (h : Heap), Run T0 N_cmp_isNaN_int64 [.int .i64 x] h = some ((.bool p), h) := by
  intro x p hF
  unfold F_cmp_isNaN_int64 at hF
  intro h
  refine run_ofK at_cmp_isNaN_int64 (n := h.length) rfl ?_
  simp only [go_sem, reduceIte, Nat.reduceEqDiff, Nat.reduceAdd, Nat.reduceLeDiff, Nat.reduceLT, Nat.reduceSub, Nat.reduceBEq, ne_eq, not_false_eq_true]
  all_goals (cases hF; rfl)
theorem call_F_cmp_isNaN_int64 {x : Int} {p : Bool} (hx : F_cmp_isNaN_int64 x = some p) {h : Heap} : callA (Run T0 N_cmp_isNaN_int64) [.int .i64 x] h = some ((.bool p), h) :=
  callA_pure (by simp only [go_sem]) (fun H => t_F_cmp_isNaN_int64 _ _ hx H)
def F_cmp_Compare_int64 (x : Int) (y : Int) : Option (Int) :=
  F_cmp_isNaN_int64 x >>= fun r1 =>
  F_cmp_isNaN_int64 y >>= fun r2 =>
  if r1 = true then (
    if r2 = true then (
      some 0
    ) else
    some (-1)
  ) else
  if r2 = true then (
    some 1
  ) else
  if (decide (x < y)) = true then (
    some (-1)
  ) else
  if (decide (x > y)) = true then (
    some 1
  ) else
  some 0
set_option maxHeartbeats 4000000 in
theorem t_F_cmp_Compare_int64 : ∀ (x : Int) (y : Int) (p : Int), F_cmp_Compare_int64 x y = some p → ∀ (h : Heap), Run T0 N_cmp_Compare_int64 [.int .i64 x, .int .i64 y] h = some ((.int .i64 p), h) := by
  intro x y p hF
  unfold F_cmp_Compare_int64 at hF
  intro h
  refine run_ofK at_cmp_Compare_int64 (n := h.length) rfl ?_
  simp only [go_sem, reduceIte, Nat.reduceEqDiff, Nat.reduceAdd, Nat.reduceLeDiff, Nat.reduceLT, Nat.reduceSub, Nat.reduceBEq, ne_eq, not_false_eq_true]
  obtain ⟨r1, hr1, hF⟩ := bindE hF
  refine DoesR_m (call_F_cmp_isNaN_int64 hr1) ?_
  simp only [go_sem, reduceIte, Nat.reduceEqDiff, Nat.reduceAdd, Nat.reduceLeDiff, Nat.reduceLT, Nat.reduceSub, Nat.reduceBEq, ne_eq, not_false_eq_true]
  obtain ⟨r2, hr2, hF⟩ := bindE hF
  refine DoesR_m (call_F_cmp_isNaN_int64 hr2) ?_
  simp only [go_sem, reduceIte, Nat.reduceEqDiff, Nat.reduceAdd, Nat.reduceLeDiff, Nat.reduceLT, Nat.reduceSub, Nat.reduceBEq, ne_eq, not_false_eq_true]
  rcases iteE hF with ⟨hc3, hF⟩ | ⟨hc3, hF⟩
  · simp only [go_sem, reduceIte, Nat.reduceEqDiff, Nat.reduceAdd, Nat.reduceLeDiff, Nat.reduceLT, Nat.reduceSub, Nat.reduceBEq, ne_eq, not_false_eq_true, hc3]
    rcases iteE hF with ⟨hc4, hF⟩ | ⟨hc4, hF⟩
    · simp only [go_sem, reduceIte, Nat.reduceEqDiff, Nat.reduceAdd, Nat.reduceLeDiff, Nat.reduceLT, Nat.reduceSub, Nat.reduceBEq, ne_eq, not_false_eq_true, hc3, hc4]
      all_goals (cases hF; rfl)
    · simp only [go_sem, reduceIte, Nat.reduceEqDiff, Nat.reduceAdd, Nat.reduceLeDiff, Nat.reduceLT, Nat.reduceSub, Nat.reduceBEq, ne_eq, not_false_eq_true, hc3, hc4]
      all_goals (cases hF; rfl)
  · simp only [go_sem, reduceIte, Nat.reduceEqDiff, Nat.reduceAdd, Nat.reduceLeDiff, Nat.reduceLT, Nat.reduceSub, Nat.reduceBEq, ne_eq, not_false_eq_true, hc3]
    rcases iteE hF with ⟨hc5, hF⟩ | ⟨hc5, hF⟩
    · simp only [go_sem, reduceIte, Nat.reduceEqDiff, Nat.reduceAdd, Nat.reduceLeDiff, Nat.reduceLT, Nat.reduceSub, Nat.reduceBEq, ne_eq, not_false_eq_true, hc3, hc5]
      all_goals (cases hF; rfl)
    · simp only [go_sem, reduceIte, Nat.reduceEqDiff, Nat.reduceAdd, Nat.reduceLeDiff, Nat.reduceLT, Nat.reduceSub, Nat.reduceBEq, ne_eq, not_false_eq_true, hc3, hc5]
      rcases iteE hF with ⟨hc6, hF⟩ | ⟨hc6, hF⟩
      · simp only [go_sem, reduceIte, Nat.reduceEqDiff, Nat.reduceAdd, Nat.reduceLeDiff, Nat.reduceLT, Nat.reduceSub, Nat.reduceBEq, ne_eq, not_false_eq_true, hc3, hc5, hc6]
        all_goals (cases hF; rfl)
      · simp only [go_sem, reduceIte, Nat.reduceEqDiff, Nat.reduceAdd, Nat.reduceLeDiff, Nat.reduceLT, Nat.reduceSub, Nat.reduceBEq, ne_eq, not_false_eq_true, hc3, hc5, hc6]
        rcases iteE hF with ⟨hc7, hF⟩ | ⟨hc7, hF⟩
        · simp only [go_sem, reduceIte, Nat.reduceEqDiff, Nat.reduceAdd, Nat.reduceLeDiff, Nat.reduceLT, Nat.reduceSub, Nat.reduceBEq, ne_eq, not_false_eq_true, hc3, hc5, hc6, hc7]
          all_goals (cases hF; rfl)
        · simp only [go_sem, reduceIte, Nat.reduceEqDiff, Nat.reduceAdd, Nat.reduceLeDiff, Nat.reduceLT, Nat.reduceSub, Nat.reduceBEq, ne_eq, not_false_eq_true, hc3, hc5, hc6, hc7]
          all_goals (cases hF; rfl)
theorem call_F_cmp_Compare_int64 {x : Int} {y : Int} {p : Int} (hx : F_cmp_Compare_int64 x y = some p) {h : Heap} : callA (Run T0 N_cmp_Compare_int64) [.int .i64 x, .int .i64 y] h = some ((.int .i64 p), h) :=
  callA_pure (by simp only [go_sem]) (fun H => t_F_cmp_Compare_int64 _ _ _ hx H)
def F_cmp_isNaN_uint64 (x : Int) : Option (Bool) :=
  some (x != x)
set_option maxHeartbeats 4000000 in
theorem t_F_cmp_isNaN_uint64 : ∀ (x : Int) (p : Bool), F_cmp_isNaN_uint64 x = some p → ∀ (h : Heap), Run T0 N_cmp_isNaN_uint64 [.int .u64 x] h = some ((.bool p), h) := by
  intro x p hF
  unfold F_cmp_isNaN_uint64 at hF
  intro h
  refine run_ofK at_cmp_isNaN_uint64 (n := h.length) rfl ?_
  simp only [go_sem, reduceIte, Nat.reduceEqDiff, Nat.reduceAdd, Nat.reduceLeDiff, Nat.reduceLT, Nat.reduceSub, Nat.reduceBEq, ne_eq, not_false_eq_true]
  all_goals (cases hF; rfl)
theorem call_F_cmp_isNaN_uint64 {x : Int} {p : Bool} (hx : F_cmp_isNaN_uint64 x = some p) {h : Heap} : callA (Run T0 N_cmp_isNaN_uint64) [.int .u64 x] h = some ((.bool p), h) :=
  callA_pure (by simp only [go_sem]) (fun H => t_F_cmp_isNaN_uint64 _ _ hx H)
end Go.Proofs.YtfihinodhhhllaaGreat
