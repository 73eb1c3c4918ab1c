/- The functions as plain functions, and that the runs come to their answers; printed by lift.py. -/
import Derived.Test.YtfihinodhhhllaaGreatIbH
import Derived.Test.YtfihinodhhhllaaGreatIbF6
import Derived.Test.YtfihinodhhhllaaGreatIbF7
set_option linter.unusedVariables false
set_option linter.unusedSimpArgs false
namespace Go.Proofs.YtfihinodhhhllaaGreat
open Go
mutual
def F_order_Cmp (v : YValue × YValue) : Option (Int) :=
  F_cmp_Compare_int v.1.kind v.2.kind >>= fun r1 =>
  if (r1 != (0 : Int)) = true then (
    some r1
  ) else
  if (v.1.kind == (2 : Int)) = true then (
    F_order_Cmp_59 (v.1.kind, true, v.1, v.2)
  ) else
  if (v.1.kind == (3 : Int)) = true then (
    F_order_Cmp_59 (v.1.kind, true, v.1, v.2)
  ) else
  if (v.1.kind == (6 : Int)) = true then (
    F_order_Cmp_59 (v.1.kind, true, v.1, v.2)
  ) else
  if (v.1.kind == (8 : Int)) = true then (
    F_order_Cmp_59 (v.1.kind, true, v.1, v.2)
  ) else
  if (v.1.kind == (10 : Int)) = true then (
    F_order_Cmp_59 (v.1.kind, true, v.1, v.2)
  ) else
  F_order_Cmp_59 (v.1.kind, (v.1.kind == (17 : Int)), v.1, v.2)
  partial_fixpoint
def F_order_Cmp_59 (v : Int × Bool × YValue × YValue) : Option (Int) :=
  if v.2.1 = true then (
    F_cmp_Compare_int64 v.2.2.1.n_ v.2.2.2.n_ >>= fun r5 =>
    some r5
  ) else
  if (v.1 == (4 : Int)) = true then (
    F_cmp_Compare_uint64 (IntKind.u64.wrap v.2.2.1.n_) (IntKind.u64.wrap v.2.2.2.n_) >>= fun r7 =>
    some r7
  ) else
  if (v.1 == (11 : Int)) = true then (
    F_order_Cmp_54 (v.1, true, v.2.2.1, v.2.2.2)
  ) else
  F_order_Cmp_54 (v.1, (v.1 == (16 : Int)), v.2.2.1, v.2.2.2)
  partial_fixpoint
def F_order_Cmp_54 (v : Int × Bool × YValue × YValue) : Option (Int) :=
  if v.2.1 = true then (
    F_strings_Compare v.2.2.1.s v.2.2.2.s >>= fun r10 =>
    some r10
  ) else
  if (v.1 == (15 : Int)) = true then (
    F_order_Cmp_51 (v.1, true, v.2.2.1, v.2.2.2)
  ) else
  if (v.1 == (14 : Int)) = true then (
    F_order_Cmp_51 (v.1, true, v.2.2.1, v.2.2.2)
  ) else
  F_order_Cmp_51 (v.1, (v.1 == (13 : Int)), v.2.2.1, v.2.2.2)
  partial_fixpoint
def F_order_Cmp_51 (v : Int × Bool × YValue × YValue) : Option (Int) :=
  if v.2.1 = true then (
    F_order_places (v.2.2.1.l, v.2.2.2.l) >>= fun r13 =>
    some r13
  ) else
  if (v.1 == (12 : Int)) = true then (
    F_order_structs (v.2.2.1, v.2.2.2) >>= fun r15 =>
    some r15
  ) else
  some 0
  partial_fixpoint
def F_order_structs (v : YValue × YValue) : Option (Int) :=
  F_order_structs_27 ((imin (imin (v.1.iDs.length : Int) (v.1.l.length : Int)) (imin (v.2.iDs.length : Int) (v.2.l.length : Int))), 0, v.1, v.2)
  partial_fixpoint
def F_order_structs_27 (v : Int × Int × YValue × YValue) : Option (Int) :=
  if (decide (v.2.1 < v.1)) = true then (
    lidx v.2.2.1.iDs v.2.1 >>= fun x2 =>
    lidx v.2.2.2.iDs v.2.1 >>= fun x3 =>
    F_cmp_Compare_int x2 x3 >>= fun r4 =>
    if (r4 != (0 : Int)) = true then (
      some r4
    ) else
    lidx v.2.2.1.l v.2.1 >>= fun x6 =>
    lidx v.2.2.2.l v.2.1 >>= fun x7 =>
    F_order_Cmp (x6, x7) >>= fun r8 =>
    if (r8 != (0 : Int)) = true then (
      some r8
    ) else
    F_order_structs_27 (v.1, (iadd .i64 v.2.1 1), v.2.2.1, v.2.2.2)
  ) else
  F_cmp_Compare_int (v.2.2.1.l.length : Int) (v.2.2.2.l.length : Int) >>= fun r10 =>
  some r10
  partial_fixpoint
def F_order_places (v : List YValue × List YValue) : Option (Int) :=
  F_slices_CompareFunc_api_Value_api_Value_api_Value_api_Value__order_Cmp (v.1, v.2) >>= fun r1 =>
  some r1
  partial_fixpoint
def F_slices_CompareFunc_api_Value_api_Value_api_Value_api_Value__order_Cmp (v : List YValue × List YValue) : Option (Int) :=
  F_slices_CompareFunc_api_Value_api_Value_api_Value_api_Value__order_Cmp_26 (v.1, v.2, v.1, (v.1.length : Int), 0)
  partial_fixpoint
def F_slices_CompareFunc_api_Value_api_Value_api_Value_api_Value__order_Cmp_26 (v : List YValue × List YValue × List YValue × Int × Int) : Option (Int) :=
  if (decide (v.2.2.2.2 < v.2.2.2.1)) = true then (
    lidx v.2.2.1 v.2.2.2.2 >>= fun x2 =>
    if (decide (v.2.2.2.2 ≥ (v.2.1.length : Int))) = true then (
      some 1
    ) else
    lidx v.2.1 v.2.2.2.2 >>= fun x4 =>
    F_order_Cmp (x2, x4) >>= fun r5 =>
    if (r5 != (0 : Int)) = true then (
      some r5
    ) else
    F_slices_CompareFunc_api_Value_api_Value_api_Value_api_Value__order_Cmp_26 (v.1, v.2.1, v.2.2.1, v.2.2.2.1, (iadd .i64 v.2.2.2.2 1))
  ) else
  if (decide ((v.1.length : Int) < (v.2.1.length : Int))) = true then (
    some (-1)
  ) else
  some 0
  partial_fixpoint
end
theorem F_order_Cmp_eq (a : YValue) (b_ : YValue) : F_order_Cmp (a, b_) =
  F_cmp_Compare_int a.kind b_.kind >>= fun r1 =>
  if (r1 != (0 : Int)) = true then (
    some r1
  ) else
  if (a.kind == (2 : Int)) = true then (
    F_order_Cmp_59 (a.kind, true, a, b_)
  ) else
  if (a.kind == (3 : Int)) = true then (
    F_order_Cmp_59 (a.kind, true, a, b_)
  ) else
  if (a.kind == (6 : Int)) = true then (
    F_order_Cmp_59 (a.kind, true, a, b_)
  ) else
  if (a.kind == (8 : Int)) = true then (
    F_order_Cmp_59 (a.kind, true, a, b_)
  ) else
  if (a.kind == (10 : Int)) = true then (
    F_order_Cmp_59 (a.kind, true, a, b_)
  ) else
  F_order_Cmp_59 (a.kind, (a.kind == (17 : Int)), a, b_) := F_order_Cmp.eq_1 (a, b_)
theorem F_order_Cmp_59_eq (t15 : Int) (t16 : Bool) (bx0 : YValue) (bx1 : YValue) : F_order_Cmp_59 (t15, t16, bx0, bx1) =
  if t16 = true then (
    F_cmp_Compare_int64 bx0.n_ bx1.n_ >>= fun r5 =>
    some r5
  ) else
  if (t15 == (4 : Int)) = true then (
    F_cmp_Compare_uint64 (IntKind.u64.wrap bx0.n_) (IntKind.u64.wrap bx1.n_) >>= fun r7 =>
    some r7
  ) else
  if (t15 == (11 : Int)) = true then (
    F_order_Cmp_54 (t15, true, bx0, bx1)
  ) else
  F_order_Cmp_54 (t15, (t15 == (16 : Int)), bx0, bx1) := F_order_Cmp_59.eq_1 (t15, t16, bx0, bx1)
theorem F_order_Cmp_54_eq (t15 : Int) (t37 : Bool) (bx0 : YValue) (bx1 : YValue) : F_order_Cmp_54 (t15, t37, bx0, bx1) =
  if t37 = true then (
    F_strings_Compare bx0.s bx1.s >>= fun r10 =>
    some r10
  ) else
  if (t15 == (15 : Int)) = true then (
    F_order_Cmp_51 (t15, true, bx0, bx1)
  ) else
  if (t15 == (14 : Int)) = true then (
    F_order_Cmp_51 (t15, true, bx0, bx1)
  ) else
  F_order_Cmp_51 (t15, (t15 == (13 : Int)), bx0, bx1) := F_order_Cmp_54.eq_1 (t15, t37, bx0, bx1)
theorem F_order_Cmp_51_eq (t15 : Int) (t45 : Bool) (bx0 : YValue) (bx1 : YValue) : F_order_Cmp_51 (t15, t45, bx0, bx1) =
  if t45 = true then (
    F_order_places (bx0.l, bx1.l) >>= fun r13 =>
    some r13
  ) else
  if (t15 == (12 : Int)) = true then (
    F_order_structs (bx0, bx1) >>= fun r15 =>
    some r15
  ) else
  some 0 := F_order_Cmp_51.eq_1 (t15, t45, bx0, bx1)
theorem F_order_structs_eq (a : YValue) (b_ : YValue) : F_order_structs (a, b_) =
  F_order_structs_27 ((imin (imin (a.iDs.length : Int) (a.l.length : Int)) (imin (b_.iDs.length : Int) (b_.l.length : Int))), 0, a, b_) := F_order_structs.eq_1 (a, b_)
theorem F_order_structs_27_eq (t26 : Int) (t27 : Int) (bx0 : YValue) (bx1 : YValue) : F_order_structs_27 (t26, t27, bx0, bx1) =
  if (decide (t27 < t26)) = true then (
    lidx bx0.iDs t27 >>= fun x2 =>
    lidx bx1.iDs t27 >>= fun x3 =>
    F_cmp_Compare_int x2 x3 >>= fun r4 =>
    if (r4 != (0 : Int)) = true then (
      some r4
    ) else
    lidx bx0.l t27 >>= fun x6 =>
    lidx bx1.l t27 >>= fun x7 =>
    F_order_Cmp (x6, x7) >>= fun r8 =>
    if (r8 != (0 : Int)) = true then (
      some r8
    ) else
    F_order_structs_27 (t26, (iadd .i64 t27 1), bx0, bx1)
  ) else
  F_cmp_Compare_int (bx0.l.length : Int) (bx1.l.length : Int) >>= fun r10 =>
  some r10 := F_order_structs_27.eq_1 (t26, t27, bx0, bx1)
theorem F_order_places_eq (a : List YValue) (b_ : List YValue) : F_order_places (a, b_) =
  F_slices_CompareFunc_api_Value_api_Value_api_Value_api_Value__order_Cmp (a, b_) >>= fun r1 =>
  some r1 := F_order_places.eq_1 (a, b_)
theorem F_slices_CompareFunc_api_Value_api_Value_api_Value_api_Value__order_Cmp_eq (s1 : List YValue) (s2 : List YValue) : F_slices_CompareFunc_api_Value_api_Value_api_Value_api_Value__order_Cmp (s1, s2) =
  F_slices_CompareFunc_api_Value_api_Value_api_Value_api_Value__order_Cmp_26 (s1, s2, s1, (s1.length : Int), 0) := F_slices_CompareFunc_api_Value_api_Value_api_Value_api_Value__order_Cmp.eq_1 (s1, s2)
theorem F_slices_CompareFunc_api_Value_api_Value_api_Value_api_Value__order_Cmp_26_eq (s1 : List YValue) (s2 : List YValue) (t11 : List YValue) (t12 : Int) (t13 : Int) : F_slices_CompareFunc_api_Value_api_Value_api_Value_api_Value__order_Cmp_26 (s1, s2, t11, t12, t13) =
  if (decide (t13 < t12)) = true then (
    lidx t11 t13 >>= fun x2 =>
    if (decide (t13 ≥ (s2.length : Int))) = true then (
      some 1
    ) else
    lidx s2 t13 >>= fun x4 =>
    F_order_Cmp (x2, x4) >>= fun r5 =>
    if (r5 != (0 : Int)) = true then (
      some r5
    ) else
    F_slices_CompareFunc_api_Value_api_Value_api_Value_api_Value__order_Cmp_26 (s1, s2, t11, t12, (iadd .i64 t13 1))
  ) else
  if (decide ((s1.length : Int) < (s2.length : Int))) = true then (
    some (-1)
  ) else
  some 0 := F_slices_CompareFunc_api_Value_api_Value_api_Value_api_Value__order_Cmp_26.eq_1 (s1, s2, t11, t12, t13)
def M_F_order_Cmp (v : YValue × YValue) (p : Int) : Prop := ∀ (h : Heap), Run T0 N_order_Cmp [.agg [.int .i64 v.1.kind, .int .i64 v.1.n_, .str v.1.s, .sl false 5 (List.map YValue.av v.1.l), .sl false 1 (List.map (AV.int .i64) v.1.iDs)], .agg [.int .i64 v.2.kind, .int .i64 v.2.n_, .str v.2.s, .sl false 5 (List.map YValue.av v.2.l), .sl false 1 (List.map (AV.int .i64) v.2.iDs)]] h = some ((.int .i64 p), h)
def M_F_order_Cmp_59 (v : Int × Bool × YValue × YValue) (p : Int) : Prop := ∀ (h : Heap), Does T0 C138_59 (aft T0 (EndQ false [.tmp 4] h.length (.int .i64 p) (h)) [.blk 0, .seq C138_65]) .mk .mk [(2, .ptr h.length 0), (3, .ptr (h.length + 1) 0), (15, .int .i64 v.1), (16, .bool v.2.1)] (h ++ [.row [.int .i64 v.2.2.1.kind, .int .i64 v.2.2.1.n_, .str v.2.2.1.s, .sl false 5 (List.map YValue.av v.2.2.1.l), .sl false 1 (List.map (AV.int .i64) v.2.2.1.iDs)], .row [.int .i64 v.2.2.2.kind, .int .i64 v.2.2.2.n_, .str v.2.2.2.s, .sl false 5 (List.map YValue.av v.2.2.2.l), .sl false 1 (List.map (AV.int .i64) v.2.2.2.iDs)]])
def M_F_order_Cmp_54 (v : Int × Bool × YValue × YValue) (p : Int) : Prop := ∀ (h : Heap), Does T0 C138_54 (aft T0 (EndQ false [.tmp 4] h.length (.int .i64 p) (h)) [.blk 0, .seq C138_65]) .mk .mk [(2, .ptr h.length 0), (3, .ptr (h.length + 1) 0), (15, .int .i64 v.1), (37, .bool v.2.1)] (h ++ [.row [.int .i64 v.2.2.1.kind, .int .i64 v.2.2.1.n_, .str v.2.2.1.s, .sl false 5 (List.map YValue.av v.2.2.1.l), .sl false 1 (List.map (AV.int .i64) v.2.2.1.iDs)], .row [.int .i64 v.2.2.2.kind, .int .i64 v.2.2.2.n_, .str v.2.2.2.s, .sl false 5 (List.map YValue.av v.2.2.2.l), .sl false 1 (List.map (AV.int .i64) v.2.2.2.iDs)]])
def M_F_order_Cmp_51 (v : Int × Bool × YValue × YValue) (p : Int) : Prop := ∀ (h : Heap), Does T0 C138_51 (aft T0 (EndQ false [.tmp 4] h.length (.int .i64 p) (h)) [.blk 0, .seq C138_65]) .mk .mk [(2, .ptr h.length 0), (3, .ptr (h.length + 1) 0), (15, .int .i64 v.1), (45, .bool v.2.1)] (h ++ [.row [.int .i64 v.2.2.1.kind, .int .i64 v.2.2.1.n_, .str v.2.2.1.s, .sl false 5 (List.map YValue.av v.2.2.1.l), .sl false 1 (List.map (AV.int .i64) v.2.2.1.iDs)], .row [.int .i64 v.2.2.2.kind, .int .i64 v.2.2.2.n_, .str v.2.2.2.s, .sl false 5 (List.map YValue.av v.2.2.2.l), .sl false 1 (List.map (AV.int .i64) v.2.2.2.iDs)]])
def M_F_order_structs (v : YValue × YValue) (p : Int) : Prop := ∀ (h : Heap), Run T0 N_order_structs [.agg [.int .i64 v.1.kind, .int .i64 v.1.n_, .str v.1.s, .sl false 5 (List.map YValue.av v.1.l), .sl false 1 (List.map (AV.int .i64) v.1.iDs)], .agg [.int .i64 v.2.kind, .int .i64 v.2.n_, .str v.2.s, .sl false 5 (List.map YValue.av v.2.l), .sl false 1 (List.map (AV.int .i64) v.2.iDs)]] h = some ((.int .i64 p), h)
def M_F_order_structs_27 (v : Int × Int × YValue × YValue) (p : Int) : Prop := ∀ (h : Heap), Does T0 C189_27 (aft T0 (EndQ false [.tmp 4] h.length (.int .i64 p) (h)) [.gc (h.length + 2), .lp C189_28, .blk 0, .seq C189_33]) .mk .mk [(2, .ptr h.length 0), (3, .ptr (h.length + 1) 0), (26, .int .i64 v.1), (27, .int .i64 v.2.1)] (h ++ [.row [.int .i64 v.2.2.1.kind, .int .i64 v.2.2.1.n_, .str v.2.2.1.s, .sl false 5 (List.map YValue.av v.2.2.1.l), .sl false 1 (List.map (AV.int .i64) v.2.2.1.iDs)], .row [.int .i64 v.2.2.2.kind, .int .i64 v.2.2.2.n_, .str v.2.2.2.s, .sl false 5 (List.map YValue.av v.2.2.2.l), .sl false 1 (List.map (AV.int .i64) v.2.2.2.iDs)]])
def M_F_order_places (v : List YValue × List YValue) (p : Int) : Prop := ∀ (h : Heap), Run T0 N_order_places [.sl false 5 (List.map YValue.av v.1), .sl false 5 (List.map YValue.av v.2)] h = some ((.int .i64 p), h)
def M_F_slices_CompareFunc_api_Value_api_Value_api_Value_api_Value__order_Cmp (v : List YValue × List YValue) (p : Int) : Prop := ∀ (h : Heap), Run T0 N_slices_CompareFunc_api_Value_api_Value_api_Value_api_Value [.sl false 5 (List.map YValue.av v.1), .sl false 5 (List.map YValue.av v.2), .fn N_order_Cmp []] h = some ((.int .i64 p), h)
def M_F_slices_CompareFunc_api_Value_api_Value_api_Value_api_Value__order_Cmp_26 (v : List YValue × List YValue × List YValue × Int × Int) (p : Int) : Prop := ∀ (h : Heap), Does T0 C206_26 (aft T0 (EndQ false [.tmp 6] h.length (.int .i64 p) (h)) [.gc h.length, .lp C206_27, .blk 0, .seq C206_38]) .mk .mk [(0, .sl false 5 (List.map YValue.av v.1)), (1, .sl false 5 (List.map YValue.av v.2.1)), (2, .fn N_order_Cmp []), (11, .sl false 5 (List.map YValue.av v.2.2.1)), (12, .int .i64 v.2.2.2.1), (13, .int .i64 v.2.2.2.2)] h
set_option maxHeartbeats 4000000 in
theorem st_F_order_Cmp (f_F_order_Cmp_59 : (Int × Bool × YValue × YValue) → Option (Int)) (ih_F_order_Cmp_59 : ∀ v p, f_F_order_Cmp_59 v = some p → M_F_order_Cmp_59 v p) (v : YValue × YValue) (p : Int) (hF : (
  F_cmp_Compare_int v.1.kind v.2.kind >>= fun r1 =>
  if (r1 != (0 : Int)) = true then (
    some r1
  ) else
  if (v.1.kind == (2 : Int)) = true then (
    f_F_order_Cmp_59 (v.1.kind, true, v.1, v.2)
  ) else
  if (v.1.kind == (3 : Int)) = true then (
    f_F_order_Cmp_59 (v.1.kind, true, v.1, v.2)
  ) else
  if (v.1.kind == (6 : Int)) = true then (
    f_F_order_Cmp_59 (v.1.kind, true, v.1, v.2)
  ) else
  if (v.1.kind == (8 : Int)) = true then (
    f_F_order_Cmp_59 (v.1.kind, true, v.1, v.2)
  ) else
  if (v.1.kind == (10 : Int)) = true then (
    f_F_order_Cmp_59 (v.1.kind, true, v.1, v.2)
  ) else
  f_F_order_Cmp_59 (v.1.kind, (v.1.kind == (17 : Int)), v.1, v.2)) = some p) : M_F_order_Cmp v p := by
  intro h
  refine run_ofK at_order_Cmp (n := h.length) rfl ?_
  simp only [go_sem, reduceIte, Nat.reduceEqDiff, Nat.reduceAdd, Nat.reduceLeDiff, Nat.reduceLT, Nat.reduceSub, Nat.reduceBEq, ne_eq, not_false_eq_true]
  obtain ⟨r1, hr1, hF⟩ := bindE hF
  refine DoesR_m (call_F_cmp_Compare_int hr1) ?_
  simp only [go_sem, reduceIte, Nat.reduceEqDiff, Nat.reduceAdd, Nat.reduceLeDiff, Nat.reduceLT, Nat.reduceSub, Nat.reduceBEq, ne_eq, not_false_eq_true]
  rcases iteE hF with ⟨hc2, hF⟩ | ⟨hc2, hF⟩
  · simp only [go_sem, reduceIte, Nat.reduceEqDiff, Nat.reduceAdd, Nat.reduceLeDiff, Nat.reduceLT, Nat.reduceSub, Nat.reduceBEq, ne_eq, not_false_eq_true, hc2]
    all_goals (cases hF; rfl)
  · simp only [go_sem, reduceIte, Nat.reduceEqDiff, Nat.reduceAdd, Nat.reduceLeDiff, Nat.reduceLT, Nat.reduceSub, Nat.reduceBEq, ne_eq, not_false_eq_true, hc2]
    rcases iteE hF with ⟨hc3, hF⟩ | ⟨hc3, hF⟩
    · simp only [go_sem, reduceIte, Nat.reduceEqDiff, Nat.reduceAdd, Nat.reduceLeDiff, Nat.reduceLT, Nat.reduceSub, Nat.reduceBEq, ne_eq, not_false_eq_true, hc2, hc3]
      exact ih_F_order_Cmp_59 _ _ hF _
    · simp only [go_sem, reduceIte, Nat.reduceEqDiff, Nat.reduceAdd, Nat.reduceLeDiff, Nat.reduceLT, Nat.reduceSub, Nat.reduceBEq, ne_eq, not_false_eq_true, hc2, hc3]
      rcases iteE hF with ⟨hc17, hF⟩ | ⟨hc17, hF⟩
      · simp only [go_sem, reduceIte, Nat.reduceEqDiff, Nat.reduceAdd, Nat.reduceLeDiff, Nat.reduceLT, Nat.reduceSub, Nat.reduceBEq, ne_eq, not_false_eq_true, hc2, hc3, hc17]
        exact ih_F_order_Cmp_59 _ _ hF _
      · simp only [go_sem, reduceIte, Nat.reduceEqDiff, Nat.reduceAdd, Nat.reduceLeDiff, Nat.reduceLT, Nat.reduceSub, Nat.reduceBEq, ne_eq, not_false_eq_true, hc2, hc3, hc17]
        rcases iteE hF with ⟨hc18, hF⟩ | ⟨hc18, hF⟩
        · simp only [go_sem, reduceIte, Nat.reduceEqDiff, Nat.reduceAdd, Nat.reduceLeDiff, Nat.reduceLT, Nat.reduceSub, Nat.reduceBEq, ne_eq, not_false_eq_true, hc2, hc3, hc17, hc18]
          exact ih_F_order_Cmp_59 _ _ hF _
        · simp only [go_sem, reduceIte, Nat.reduceEqDiff, Nat.reduceAdd, Nat.reduceLeDiff, Nat.reduceLT, Nat.reduceSub, Nat.reduceBEq, ne_eq, not_false_eq_true, hc2, hc3, hc17, hc18]
          rcases iteE hF with ⟨hc19, hF⟩ | ⟨hc19, hF⟩
          · simp only [go_sem, reduceIte, Nat.reduceEqDiff, Nat.reduceAdd, Nat.reduceLeDiff, Nat.reduceLT, Nat.reduceSub, Nat.reduceBEq, ne_eq, not_false_eq_true, hc2, hc3, hc17, hc18, hc19]
            exact ih_F_order_Cmp_59 _ _ hF _
          · simp only [go_sem, reduceIte, Nat.reduceEqDiff, Nat.reduceAdd, Nat.reduceLeDiff, Nat.reduceLT, Nat.reduceSub, Nat.reduceBEq, ne_eq, not_false_eq_true, hc2, hc3, hc17, hc18, hc19]
            rcases iteE hF with ⟨hc20, hF⟩ | ⟨hc20, hF⟩
            · simp only [go_sem, reduceIte, Nat.reduceEqDiff, Nat.reduceAdd, Nat.reduceLeDiff, Nat.reduceLT, Nat.reduceSub, Nat.reduceBEq, ne_eq, not_false_eq_true, hc2, hc3, hc17, hc18, hc19, hc20]
              exact ih_F_order_Cmp_59 _ _ hF _
            · simp only [go_sem, reduceIte, Nat.reduceEqDiff, Nat.reduceAdd, Nat.reduceLeDiff, Nat.reduceLT, Nat.reduceSub, Nat.reduceBEq, ne_eq, not_false_eq_true, hc2, hc3, hc17, hc18, hc19, hc20]
              exact ih_F_order_Cmp_59 _ _ hF _
set_option maxHeartbeats 4000000 in
theorem st_F_order_Cmp_59 (f_F_order_Cmp_54 : (Int × Bool × YValue × YValue) → Option (Int)) (ih_F_order_Cmp_54 : ∀ v p, f_F_order_Cmp_54 v = some p → M_F_order_Cmp_54 v p) (v : Int × Bool × YValue × YValue) (p : Int) (hF : (
  if v.2.1 = true then (
    F_cmp_Compare_int64 v.2.2.1.n_ v.2.2.2.n_ >>= fun r5 =>
    some r5
  ) else
  if (v.1 == (4 : Int)) = true then (
    F_cmp_Compare_uint64 (IntKind.u64.wrap v.2.2.1.n_) (IntKind.u64.wrap v.2.2.2.n_) >>= fun r7 =>
    some r7
  ) else
  if (v.1 == (11 : Int)) = true then (
    f_F_order_Cmp_54 (v.1, true, v.2.2.1, v.2.2.2)
  ) else
  f_F_order_Cmp_54 (v.1, (v.1 == (16 : Int)), v.2.2.1, v.2.2.2)) = some p) : M_F_order_Cmp_59 v p := by
  intro h
  unfold C138_59
  simp only [go_sem, reduceIte, Nat.reduceEqDiff, Nat.reduceAdd, Nat.reduceLeDiff, Nat.reduceLT, Nat.reduceSub, Nat.reduceBEq, ne_eq, not_false_eq_true]
  rcases iteE hF with ⟨hc4, hF⟩ | ⟨hc4, hF⟩
  · simp only [go_sem, reduceIte, Nat.reduceEqDiff, Nat.reduceAdd, Nat.reduceLeDiff, Nat.reduceLT, Nat.reduceSub, Nat.reduceBEq, ne_eq, not_false_eq_true, hc4]
    obtain ⟨r5, hr5, hF⟩ := bindE hF
    refine DoesR_m (call_F_cmp_Compare_int64 hr5) ?_
    simp only [go_sem, reduceIte, Nat.reduceEqDiff, Nat.reduceAdd, Nat.reduceLeDiff, Nat.reduceLT, Nat.reduceSub, Nat.reduceBEq, ne_eq, not_false_eq_true, hc4]
    all_goals (cases hF; rfl)
  · simp only [go_sem, reduceIte, Nat.reduceEqDiff, Nat.reduceAdd, Nat.reduceLeDiff, Nat.reduceLT, Nat.reduceSub, Nat.reduceBEq, ne_eq, not_false_eq_true, hc4]
    rcases iteE hF with ⟨hc6, hF⟩ | ⟨hc6, hF⟩
    · simp only [go_sem, reduceIte, Nat.reduceEqDiff, Nat.reduceAdd, Nat.reduceLeDiff, Nat.reduceLT, Nat.reduceSub, Nat.reduceBEq, ne_eq, not_false_eq_true, hc4, hc6]
      obtain ⟨r7, hr7, hF⟩ := bindE hF
      refine DoesR_m (call_F_cmp_Compare_uint64 hr7) ?_
      simp only [go_sem, reduceIte, Nat.reduceEqDiff, Nat.reduceAdd, Nat.reduceLeDiff, Nat.reduceLT, Nat.reduceSub, Nat.reduceBEq, ne_eq, not_false_eq_true, hc4, hc6]
      all_goals (cases hF; rfl)
    · simp only [go_sem, reduceIte, Nat.reduceEqDiff, Nat.reduceAdd, Nat.reduceLeDiff, Nat.reduceLT, Nat.reduceSub, Nat.reduceBEq, ne_eq, not_false_eq_true, hc4, hc6]
      rcases iteE hF with ⟨hc8, hF⟩ | ⟨hc8, hF⟩
      · simp only [go_sem, reduceIte, Nat.reduceEqDiff, Nat.reduceAdd, Nat.reduceLeDiff, Nat.reduceLT, Nat.reduceSub, Nat.reduceBEq, ne_eq, not_false_eq_true, hc4, hc6, hc8]
        exact ih_F_order_Cmp_54 _ _ hF _
      · simp only [go_sem, reduceIte, Nat.reduceEqDiff, Nat.reduceAdd, Nat.reduceLeDiff, Nat.reduceLT, Nat.reduceSub, Nat.reduceBEq, ne_eq, not_false_eq_true, hc4, hc6, hc8]
        exact ih_F_order_Cmp_54 _ _ hF _
set_option maxHeartbeats 4000000 in
theorem st_F_order_Cmp_54 (f_F_order_Cmp_51 : (Int × Bool × YValue × YValue) → Option (Int)) (ih_F_order_Cmp_51 : ∀ v p, f_F_order_Cmp_51 v = some p → M_F_order_Cmp_51 v p) (v : Int × Bool × YValue × YValue) (p : Int) (hF : (
  if v.2.1 = true then (
    F_strings_Compare v.2.2.1.s v.2.2.2.s >>= fun r10 =>
    some r10
  ) else
  if (v.1 == (15 : Int)) = true then (
    f_F_order_Cmp_51 (v.1, true, v.2.2.1, v.2.2.2)
  ) else
  if (v.1 == (14 : Int)) = true then (
    f_F_order_Cmp_51 (v.1, true, v.2.2.1, v.2.2.2)
  ) else
  f_F_order_Cmp_51 (v.1, (v.1 == (13 : Int)), v.2.2.1, v.2.2.2)) = some p) : M_F_order_Cmp_54 v p := by
  intro h
  unfold C138_54
  simp only [go_sem, reduceIte, Nat.reduceEqDiff, Nat.reduceAdd, Nat.reduceLeDiff, Nat.reduceLT, Nat.reduceSub, Nat.reduceBEq, ne_eq, not_false_eq_true]
  rcases iteE hF with ⟨hc9, hF⟩ | ⟨hc9, hF⟩
  · simp only [go_sem, reduceIte, Nat.reduceEqDiff, Nat.reduceAdd, Nat.reduceLeDiff, Nat.reduceLT, Nat.reduceSub, Nat.reduceBEq, ne_eq, not_false_eq_true, hc9]
    obtain ⟨r10, hr10, hF⟩ := bindE hF
    refine DoesR_m (call_F_strings_Compare hr10) ?_
    simp only [go_sem, reduceIte, Nat.reduceEqDiff, Nat.reduceAdd, Nat.reduceLeDiff, Nat.reduceLT, Nat.reduceSub, Nat.reduceBEq, ne_eq, not_false_eq_true, hc9]
    all_goals (cases hF; rfl)
  · simp only [go_sem, reduceIte, Nat.reduceEqDiff, Nat.reduceAdd, Nat.reduceLeDiff, Nat.reduceLT, Nat.reduceSub, Nat.reduceBEq, ne_eq, not_false_eq_true, hc9]
    rcases iteE hF with ⟨hc11, hF⟩ | ⟨hc11, hF⟩
    · simp only [go_sem, reduceIte, Nat.reduceEqDiff, Nat.reduceAdd, Nat.reduceLeDiff, Nat.reduceLT, Nat.reduceSub, Nat.reduceBEq, ne_eq, not_false_eq_true, hc9, hc11]
      exact ih_F_order_Cmp_51 _ _ hF _
    · simp only [go_sem, reduceIte, Nat.reduceEqDiff, Nat.reduceAdd, Nat.reduceLeDiff, Nat.reduceLT, Nat.reduceSub, Nat.reduceBEq, ne_eq, not_false_eq_true, hc9, hc11]
      rcases iteE hF with ⟨hc16, hF⟩ | ⟨hc16, hF⟩
      · simp only [go_sem, reduceIte, Nat.reduceEqDiff, Nat.reduceAdd, Nat.reduceLeDiff, Nat.reduceLT, Nat.reduceSub, Nat.reduceBEq, ne_eq, not_false_eq_true, hc9, hc11, hc16]
        exact ih_F_order_Cmp_51 _ _ hF _
      · simp only [go_sem, reduceIte, Nat.reduceEqDiff, Nat.reduceAdd, Nat.reduceLeDiff, Nat.reduceLT, Nat.reduceSub, Nat.reduceBEq, ne_eq, not_false_eq_true, hc9, hc11, hc16]
        exact ih_F_order_Cmp_51 _ _ hF _
set_option maxHeartbeats 4000000 in
theorem st_F_order_Cmp_51 (f_F_order_structs : (YValue × YValue) → Option (Int)) (ih_F_order_structs : ∀ v p, f_F_order_structs v = some p → M_F_order_structs v p) (f_F_order_places : (List YValue × List YValue) → Option (Int)) (ih_F_order_places : ∀ v p, f_F_order_places v = some p → M_F_order_places v p) (v : Int × Bool × YValue × YValue) (p : Int) (hF : (
  if v.2.1 = true then (
    f_F_order_places (v.2.2.1.l, v.2.2.2.l) >>= fun r13 =>
    some r13
  ) else
  if (v.1 == (12 : Int)) = true then (
    f_F_order_structs (v.2.2.1, v.2.2.2) >>= fun r15 =>
    some r15
  ) else
  some 0) = some p) : M_F_order_Cmp_51 v p := by
  intro h
  unfold C138_51
  simp only [go_sem, reduceIte, Nat.reduceEqDiff, Nat.reduceAdd, Nat.reduceLeDiff, Nat.reduceLT, Nat.reduceSub, Nat.reduceBEq, ne_eq, not_false_eq_true]
  rcases iteE hF with ⟨hc12, hF⟩ | ⟨hc12, hF⟩
  · simp only [go_sem, reduceIte, Nat.reduceEqDiff, Nat.reduceAdd, Nat.reduceLeDiff, Nat.reduceLT, Nat.reduceSub, Nat.reduceBEq, ne_eq, not_false_eq_true, hc12]
    obtain ⟨r13, hr13, hF⟩ := bindE hF
    refine DoesR_m (callA_pure (by simp only [go_sem]) (fun H => ih_F_order_places _ _ hr13 H)) ?_
    simp only [go_sem, reduceIte, Nat.reduceEqDiff, Nat.reduceAdd, Nat.reduceLeDiff, Nat.reduceLT, Nat.reduceSub, Nat.reduceBEq, ne_eq, not_false_eq_true, hc12]
    all_goals (cases hF; rfl)
  · simp only [go_sem, reduceIte, Nat.reduceEqDiff, Nat.reduceAdd, Nat.reduceLeDiff, Nat.reduceLT, Nat.reduceSub, Nat.reduceBEq, ne_eq, not_false_eq_true, hc12]
    rcases iteE hF with ⟨hc14, hF⟩ | ⟨hc14, hF⟩
    · simp only [go_sem, reduceIte, Nat.reduceEqDiff, Nat.reduceAdd, Nat.reduceLeDiff, Nat.reduceLT, Nat.reduceSub, Nat.reduceBEq, ne_eq, not_false_eq_true, hc12, hc14]
      obtain ⟨r15, hr15, hF⟩ := bindE hF
      refine DoesR_m (callA_pure (by simp only [go_sem]) (fun H => ih_F_order_structs _ _ hr15 H)) ?_
      simp only [go_sem, reduceIte, Nat.reduceEqDiff, Nat.reduceAdd, Nat.reduceLeDiff, Nat.reduceLT, Nat.reduceSub, Nat.reduceBEq, ne_eq, not_false_eq_true, hc12, hc14]
      all_goals (cases hF; rfl)
    · simp only [go_sem, reduceIte, Nat.reduceEqDiff, Nat.reduceAdd, Nat.reduceLeDiff, Nat.reduceLT, Nat.reduceSub, Nat.reduceBEq, ne_eq, not_false_eq_true, hc12, hc14]
      all_goals (cases hF; rfl)
set_option maxHeartbeats 4000000 in
theorem st_F_order_structs (f_F_order_structs_27 : (Int × Int × YValue × YValue) → Option (Int)) (ih_F_order_structs_27 : ∀ v p, f_F_order_structs_27 v = some p → M_F_order_structs_27 v p) (v : YValue × YValue) (p : Int) (hF : (
  f_F_order_structs_27 ((imin (imin (v.1.iDs.length : Int) (v.1.l.length : Int)) (imin (v.2.iDs.length : Int) (v.2.l.length : Int))), 0, v.1, v.2)) = some p) : M_F_order_structs v p := by
  intro h
  refine run_ofK at_order_structs (n := h.length) rfl ?_
  simp only [go_sem, reduceIte, Nat.reduceEqDiff, Nat.reduceAdd, Nat.reduceLeDiff, Nat.reduceLT, Nat.reduceSub, Nat.reduceBEq, ne_eq, not_false_eq_true]
  exact ih_F_order_structs_27 _ _ hF _
set_option maxHeartbeats 4000000 in
theorem st_F_order_structs_27 (f_F_order_Cmp : (YValue × YValue) → Option (Int)) (ih_F_order_Cmp : ∀ v p, f_F_order_Cmp v = some p → M_F_order_Cmp v p) (f_F_order_structs_27 : (Int × Int × YValue × YValue) → Option (Int)) (ih_F_order_structs_27 : ∀ v p, f_F_order_structs_27 v = some p → M_F_order_structs_27 v p) (v : Int × Int × YValue × YValue) (p : Int) (hF : (
  if (decide (v.2.1 < v.1)) = true then (
    lidx v.2.2.1.iDs v.2.1 >>= fun x2 =>
    lidx v.2.2.2.iDs v.2.1 >>= fun x3 =>
    F_cmp_Compare_int x2 x3 >>= fun r4 =>
    if (r4 != (0 : Int)) = true then (
      some r4
    ) else
    lidx v.2.2.1.l v.2.1 >>= fun x6 =>
    lidx v.2.2.2.l v.2.1 >>= fun x7 =>
    f_F_order_Cmp (x6, x7) >>= fun r8 =>
    if (r8 != (0 : Int)) = true then (
      some r8
    ) else
    f_F_order_structs_27 (v.1, (iadd .i64 v.2.1 1), v.2.2.1, v.2.2.2)
  ) else
  F_cmp_Compare_int (v.2.2.1.l.length : Int) (v.2.2.2.l.length : Int) >>= fun r10 =>
  some r10) = some p) : M_F_order_structs_27 v p := by
  intro h
  unfold C189_27
  simp only [go_sem, reduceIte, Nat.reduceEqDiff, Nat.reduceAdd, Nat.reduceLeDiff, Nat.reduceLT, Nat.reduceSub, Nat.reduceBEq, ne_eq, not_false_eq_true]
  rcases iteE hF with ⟨hc1, hF⟩ | ⟨hc1, hF⟩
  · simp only [go_sem, reduceIte, Nat.reduceEqDiff, Nat.reduceAdd, Nat.reduceLeDiff, Nat.reduceLT, Nat.reduceSub, Nat.reduceBEq, ne_eq, not_false_eq_true, hc1]
    obtain ⟨x2, hx2, hF⟩ := bindE hF
    refine DoesO_m (lidx_map (AV.int .i64) hx2) ?_
    simp only [go_sem, reduceIte, Nat.reduceEqDiff, Nat.reduceAdd, Nat.reduceLeDiff, Nat.reduceLT, Nat.reduceSub, Nat.reduceBEq, ne_eq, not_false_eq_true, hc1]
    obtain ⟨x3, hx3, hF⟩ := bindE hF
    refine DoesO_m (lidx_map (AV.int .i64) hx3) ?_
    simp only [go_sem, reduceIte, Nat.reduceEqDiff, Nat.reduceAdd, Nat.reduceLeDiff, Nat.reduceLT, Nat.reduceSub, Nat.reduceBEq, ne_eq, not_false_eq_true, hc1]
    obtain ⟨r4, hr4, hF⟩ := bindE hF
    refine DoesR_m (call_F_cmp_Compare_int hr4) ?_
    simp only [go_sem, reduceIte, Nat.reduceEqDiff, Nat.reduceAdd, Nat.reduceLeDiff, Nat.reduceLT, Nat.reduceSub, Nat.reduceBEq, ne_eq, not_false_eq_true, hc1]
    rcases iteE hF with ⟨hc5, hF⟩ | ⟨hc5, hF⟩
    · simp only [go_sem, reduceIte, Nat.reduceEqDiff, Nat.reduceAdd, Nat.reduceLeDiff, Nat.reduceLT, Nat.reduceSub, Nat.reduceBEq, ne_eq, not_false_eq_true, hc1, hc5]
      all_goals (cases hF; rfl)
    · simp only [go_sem, reduceIte, Nat.reduceEqDiff, Nat.reduceAdd, Nat.reduceLeDiff, Nat.reduceLT, Nat.reduceSub, Nat.reduceBEq, ne_eq, not_false_eq_true, hc1, hc5]
      obtain ⟨x6, hx6, hF⟩ := bindE hF
      refine DoesO_m (lidx_map YValue.av hx6) ?_
      simp only [go_sem, reduceIte, Nat.reduceEqDiff, Nat.reduceAdd, Nat.reduceLeDiff, Nat.reduceLT, Nat.reduceSub, Nat.reduceBEq, ne_eq, not_false_eq_true, hc1, hc5]
      obtain ⟨x7, hx7, hF⟩ := bindE hF
      refine DoesO_m (lidx_map YValue.av hx7) ?_
      simp only [go_sem, reduceIte, Nat.reduceEqDiff, Nat.reduceAdd, Nat.reduceLeDiff, Nat.reduceLT, Nat.reduceSub, Nat.reduceBEq, ne_eq, not_false_eq_true, hc1, hc5]
      obtain ⟨r8, hr8, hF⟩ := bindE hF
      refine DoesR_m (callA_pure (by simp only [go_sem]) (fun H => ih_F_order_Cmp _ _ hr8 H)) ?_
      simp only [go_sem, reduceIte, Nat.reduceEqDiff, Nat.reduceAdd, Nat.reduceLeDiff, Nat.reduceLT, Nat.reduceSub, Nat.reduceBEq, ne_eq, not_false_eq_true, hc1, hc5]
      rcases iteE hF with ⟨hc9, hF⟩ | ⟨hc9, hF⟩
      · simp only [go_sem, reduceIte, Nat.reduceEqDiff, Nat.reduceAdd, Nat.reduceLeDiff, Nat.reduceLT, Nat.reduceSub, Nat.reduceBEq, ne_eq, not_false_eq_true, hc1, hc5, hc9]
        all_goals (cases hF; rfl)
      · simp only [go_sem, reduceIte, Nat.reduceEqDiff, Nat.reduceAdd, Nat.reduceLeDiff, Nat.reduceLT, Nat.reduceSub, Nat.reduceBEq, ne_eq, not_false_eq_true, hc1, hc5, hc9]
        exact ih_F_order_structs_27 _ _ hF _
  · simp only [go_sem, reduceIte, Nat.reduceEqDiff, Nat.reduceAdd, Nat.reduceLeDiff, Nat.reduceLT, Nat.reduceSub, Nat.reduceBEq, ne_eq, not_false_eq_true, hc1]
    obtain ⟨r10, hr10, hF⟩ := bindE hF
    refine DoesR_m (call_F_cmp_Compare_int hr10) ?_
    simp only [go_sem, reduceIte, Nat.reduceEqDiff, Nat.reduceAdd, Nat.reduceLeDiff, Nat.reduceLT, Nat.reduceSub, Nat.reduceBEq, ne_eq, not_false_eq_true, hc1]
    all_goals (cases hF; rfl)
set_option maxHeartbeats 4000000 in
theorem st_F_order_places (f_F_slices_CompareFunc_api_Value_api_Value_api_Value_api_Value__order_Cmp : (List YValue × List YValue) → Option (Int)) (ih_F_slices_CompareFunc_api_Value_api_Value_api_Value_api_Value__order_Cmp : ∀ v p, f_F_slices_CompareFunc_api_Value_api_Value_api_Value_api_Value__order_Cmp v = some p → M_F_slices_CompareFunc_api_Value_api_Value_api_Value_api_Value__order_Cmp v p) (v : List YValue × List YValue) (p : Int) (hF : (
  f_F_slices_CompareFunc_api_Value_api_Value_api_Value_api_Value__order_Cmp (v.1, v.2) >>= fun r1 =>
  some r1) = some p) : M_F_order_places v p := by
  intro h
  refine run_ofK at_order_places (n := h.length) rfl ?_
  simp only [go_sem, reduceIte, Nat.reduceEqDiff, Nat.reduceAdd, Nat.reduceLeDiff, Nat.reduceLT, Nat.reduceSub, Nat.reduceBEq, ne_eq, not_false_eq_true]
  obtain ⟨r1, hr1, hF⟩ := bindE hF
  refine DoesR_m (callA_pure (by simp only [go_sem]) (fun H => ih_F_slices_CompareFunc_api_Value_api_Value_api_Value_api_Value__order_Cmp _ _ hr1 H)) ?_
  simp only [go_sem, reduceIte, Nat.reduceEqDiff, Nat.reduceAdd, Nat.reduceLeDiff, Nat.reduceLT, Nat.reduceSub, Nat.reduceBEq, ne_eq, not_false_eq_true]
  all_goals (cases hF; rfl)
set_option maxHeartbeats 4000000 in
theorem st_F_slices_CompareFunc_api_Value_api_Value_api_Value_api_Value__order_Cmp (f_F_slices_CompareFunc_api_Value_api_Value_api_Value_api_Value__order_Cmp_26 : (List YValue × List YValue × List YValue × Int × Int) → Option (Int)) (ih_F_slices_CompareFunc_api_Value_api_Value_api_Value_api_Value__order_Cmp_26 : ∀ v p, f_F_slices_CompareFunc_api_Value_api_Value_api_Value_api_Value__order_Cmp_26 v = some p → M_F_slices_CompareFunc_api_Value_api_Value_api_Value_api_Value__order_Cmp_26 v p) (v : List YValue × List YValue) (p : Int) (hF : (
  f_F_slices_CompareFunc_api_Value_api_Value_api_Value_api_Value__order_Cmp_26 (v.1, v.2, v.1, (v.1.length : Int), 0)) = some p) : M_F_slices_CompareFunc_api_Value_api_Value_api_Value_api_Value__order_Cmp v p := by
  intro h
  refine run_ofK at_slices_CompareFunc_api_Value_api_Value_api_Value_api_Value (n := h.length) rfl ?_
  simp only [go_sem, reduceIte, Nat.reduceEqDiff, Nat.reduceAdd, Nat.reduceLeDiff, Nat.reduceLT, Nat.reduceSub, Nat.reduceBEq, ne_eq, not_false_eq_true]
  exact ih_F_slices_CompareFunc_api_Value_api_Value_api_Value_api_Value__order_Cmp_26 _ _ hF _
set_option maxHeartbeats 4000000 in
theorem st_F_slices_CompareFunc_api_Value_api_Value_api_Value_api_Value__order_Cmp_26 (f_F_order_Cmp : (YValue × YValue) → Option (Int)) (ih_F_order_Cmp : ∀ v p, f_F_order_Cmp v = some p → M_F_order_Cmp v p) (f_F_slices_CompareFunc_api_Value_api_Value_api_Value_api_Value__order_Cmp_26 : (List YValue × List YValue × List YValue × Int × Int) → Option (Int)) (ih_F_slices_CompareFunc_api_Value_api_Value_api_Value_api_Value__order_Cmp_26 : ∀ v p, f_F_slices_CompareFunc_api_Value_api_Value_api_Value_api_Value__order_Cmp_26 v = some p → M_F_slices_CompareFunc_api_Value_api_Value_api_Value_api_Value__order_Cmp_26 v p) (v : List YValue × List YValue × List YValue × Int × Int) (p : Int) (hF : (
  if (decide (v.2.2.2.2 < v.2.2.2.1)) = true then (
    lidx v.2.2.1 v.2.2.2.2 >>= fun x2 =>
    if (decide (v.2.2.2.2 ≥ (v.2.1.length : Int))) = true then (
      some 1
    ) else
    lidx v.2.1 v.2.2.2.2 >>= fun x4 =>
    f_F_order_Cmp (x2, x4) >>= fun r5 =>
    if (r5 != (0 : Int)) = true then (
      some r5
    ) else
    f_F_slices_CompareFunc_api_Value_api_Value_api_Value_api_Value__order_Cmp_26 (v.1, v.2.1, v.2.2.1, v.2.2.2.1, (iadd .i64 v.2.2.2.2 1))
  ) else
  if (decide ((v.1.length : Int) < (v.2.1.length : Int))) = true then (
    some (-1)
  ) else
  some 0) = some p) : M_F_slices_CompareFunc_api_Value_api_Value_api_Value_api_Value__order_Cmp_26 v p := by
  intro h
  unfold C206_26
  simp only [go_sem, reduceIte, Nat.reduceEqDiff, Nat.reduceAdd, Nat.reduceLeDiff, Nat.reduceLT, Nat.reduceSub, Nat.reduceBEq, ne_eq, not_false_eq_true]
  rcases iteE hF with ⟨hc1, hF⟩ | ⟨hc1, hF⟩
  · simp only [go_sem, reduceIte, Nat.reduceEqDiff, Nat.reduceAdd, Nat.reduceLeDiff, Nat.reduceLT, Nat.reduceSub, Nat.reduceBEq, ne_eq, not_false_eq_true, hc1]
    obtain ⟨x2, hx2, hF⟩ := bindE hF
    refine DoesO_m (lidx_map YValue.av hx2) ?_
    simp only [go_sem, reduceIte, Nat.reduceEqDiff, Nat.reduceAdd, Nat.reduceLeDiff, Nat.reduceLT, Nat.reduceSub, Nat.reduceBEq, ne_eq, not_false_eq_true, hc1]
    rcases iteE hF with ⟨hc3, hF⟩ | ⟨hc3, hF⟩
    · simp only [go_sem, reduceIte, Nat.reduceEqDiff, Nat.reduceAdd, Nat.reduceLeDiff, Nat.reduceLT, Nat.reduceSub, Nat.reduceBEq, ne_eq, not_false_eq_true, hc1, hc3]
      refine aft_gc_drop (by simp only [go_sem, reduceIte, Nat.reduceEqDiff, Nat.reduceAdd, Nat.reduceLeDiff, Nat.reduceLT, Nat.reduceSub, Nat.reduceBEq, ne_eq, not_false_eq_true, hc1, hc3] <;> omega) ?_
      simp only [go_sem, reduceIte, Nat.reduceEqDiff, Nat.reduceAdd, Nat.reduceLeDiff, Nat.reduceLT, Nat.reduceSub, Nat.reduceBEq, ne_eq, not_false_eq_true, hc1, hc3]
      all_goals (cases hF; rfl)
    · simp only [go_sem, reduceIte, Nat.reduceEqDiff, Nat.reduceAdd, Nat.reduceLeDiff, Nat.reduceLT, Nat.reduceSub, Nat.reduceBEq, ne_eq, not_false_eq_true, hc1, hc3]
      obtain ⟨x4, hx4, hF⟩ := bindE hF
      refine DoesO_m (lidx_map YValue.av hx4) ?_
      simp only [go_sem, reduceIte, Nat.reduceEqDiff, Nat.reduceAdd, Nat.reduceLeDiff, Nat.reduceLT, Nat.reduceSub, Nat.reduceBEq, ne_eq, not_false_eq_true, hc1, hc3]
      obtain ⟨r5, hr5, hF⟩ := bindE hF
      refine DoesR_m (callA_pure (by simp only [go_sem]) (fun H => ih_F_order_Cmp _ _ hr5 H)) ?_
      simp only [go_sem, reduceIte, Nat.reduceEqDiff, Nat.reduceAdd, Nat.reduceLeDiff, Nat.reduceLT, Nat.reduceSub, Nat.reduceBEq, ne_eq, not_false_eq_true, hc1, hc3]
      rcases iteE hF with ⟨hc6, hF⟩ | ⟨hc6, hF⟩
      · simp only [go_sem, reduceIte, Nat.reduceEqDiff, Nat.reduceAdd, Nat.reduceLeDiff, Nat.reduceLT, Nat.reduceSub, Nat.reduceBEq, ne_eq, not_false_eq_true, hc1, hc3, hc6]
        refine aft_gc_drop (by simp only [go_sem, reduceIte, Nat.reduceEqDiff, Nat.reduceAdd, Nat.reduceLeDiff, Nat.reduceLT, Nat.reduceSub, Nat.reduceBEq, ne_eq, not_false_eq_true, hc1, hc3, hc6] <;> omega) ?_
        simp only [go_sem, reduceIte, Nat.reduceEqDiff, Nat.reduceAdd, Nat.reduceLeDiff, Nat.reduceLT, Nat.reduceSub, Nat.reduceBEq, ne_eq, not_false_eq_true, hc1, hc3, hc6]
        all_goals (cases hF; rfl)
      · simp only [go_sem, reduceIte, Nat.reduceEqDiff, Nat.reduceAdd, Nat.reduceLeDiff, Nat.reduceLT, Nat.reduceSub, Nat.reduceBEq, ne_eq, not_false_eq_true, hc1, hc3, hc6]
        refine aft_gc_drop (by simp only [go_sem, reduceIte, Nat.reduceEqDiff, Nat.reduceAdd, Nat.reduceLeDiff, Nat.reduceLT, Nat.reduceSub, Nat.reduceBEq, ne_eq, not_false_eq_true, hc1, hc3, hc6] <;> omega) ?_
        simp only [go_sem, reduceIte, Nat.reduceEqDiff, Nat.reduceAdd, Nat.reduceLeDiff, Nat.reduceLT, Nat.reduceSub, Nat.reduceBEq, ne_eq, not_false_eq_true, hc1, hc3, hc6]
        exact ih_F_slices_CompareFunc_api_Value_api_Value_api_Value_api_Value__order_Cmp_26 _ _ hF _
  · simp only [go_sem, reduceIte, Nat.reduceEqDiff, Nat.reduceAdd, Nat.reduceLeDiff, Nat.reduceLT, Nat.reduceSub, Nat.reduceBEq, ne_eq, not_false_eq_true, hc1]
    rcases iteE hF with ⟨hc7, hF⟩ | ⟨hc7, hF⟩
    · simp only [go_sem, reduceIte, Nat.reduceEqDiff, Nat.reduceAdd, Nat.reduceLeDiff, Nat.reduceLT, Nat.reduceSub, Nat.reduceBEq, ne_eq, not_false_eq_true, hc1, hc7]
      all_goals (cases hF; rfl)
    · simp only [go_sem, reduceIte, Nat.reduceEqDiff, Nat.reduceAdd, Nat.reduceLeDiff, Nat.reduceLT, Nat.reduceSub, Nat.reduceBEq, ne_eq, not_false_eq_true, hc1, hc7]
      all_goals (cases hF; rfl)
theorem s_F_order_Cmp : (∀ v p, F_order_Cmp v = some p → M_F_order_Cmp v p) ∧ (∀ v p, F_order_Cmp_59 v = some p → M_F_order_Cmp_59 v p) ∧ (∀ v p, F_order_Cmp_54 v = some p → M_F_order_Cmp_54 v p) ∧ (∀ v p, F_order_Cmp_51 v = some p → M_F_order_Cmp_51 v p) ∧ (∀ v p, F_order_structs v = some p → M_F_order_structs v p) ∧ (∀ v p, F_order_structs_27 v = some p → M_F_order_structs_27 v p) ∧ (∀ v p, F_order_places v = some p → M_F_order_places v p) ∧ (∀ v p, F_slices_CompareFunc_api_Value_api_Value_api_Value_api_Value__order_Cmp v = some p → M_F_slices_CompareFunc_api_Value_api_Value_api_Value_api_Value__order_Cmp v p) ∧ (∀ v p, F_slices_CompareFunc_api_Value_api_Value_api_Value_api_Value__order_Cmp_26 v = some p → M_F_slices_CompareFunc_api_Value_api_Value_api_Value_api_Value__order_Cmp_26 v p) := F_order_Cmp.mutual_partial_correctness M_F_order_Cmp M_F_order_Cmp_59 M_F_order_Cmp_54 M_F_order_Cmp_51 M_F_order_structs M_F_order_structs_27 M_F_order_places M_F_slices_CompareFunc_api_Value_api_Value_api_Value_api_Value__order_Cmp M_F_slices_CompareFunc_api_Value_api_Value_api_Value_api_Value__order_Cmp_26 (fun f0 i0 v p hF => st_F_order_Cmp f0 i0 v p hF) (fun f0 i0 v p hF => st_F_order_Cmp_59 f0 i0 v p hF) (fun f0 i0 v p hF => st_F_order_Cmp_54 f0 i0 v p hF) (fun f0 f1 i0 i1 v p hF => st_F_order_Cmp_51 f0 i0 f1 i1 v p hF) (fun f0 i0 v p hF => st_F_order_structs f0 i0 v p hF) (fun f0 f1 i0 i1 v p hF => st_F_order_structs_27 f0 i0 f1 i1 v p hF) (fun f0 i0 v p hF => st_F_order_places f0 i0 v p hF) (fun f0 i0 v p hF => st_F_slices_CompareFunc_api_Value_api_Value_api_Value_api_Value__order_Cmp f0 i0 v p hF) (fun f0 f1 i0 i1 v p hF => st_F_slices_CompareFunc_api_Value_api_Value_api_Value_api_Value__order_Cmp_26 f0 i0 f1 i1 v p hF)
theorem t_F_order_Cmp : ∀ v p, F_order_Cmp v = some p → M_F_order_Cmp v p := s_F_order_Cmp.1
theorem t_F_order_Cmp_59 : ∀ v p, F_order_Cmp_59 v = some p → M_F_order_Cmp_59 v p := s_F_order_Cmp.2.1
theorem t_F_order_Cmp_54 : ∀ v p, F_order_Cmp_54 v = some p → M_F_order_Cmp_54 v p := s_F_order_Cmp.2.2.1
theorem t_F_order_Cmp_51 : ∀ v p, F_order_Cmp_51 v = some p → M_F_order_Cmp_51 v p := s_F_order_Cmp.2.2.2.1
theorem t_F_order_structs : ∀ v p, F_order_structs v = some p → M_F_order_structs v p := s_F_order_Cmp.2.2.2.2.1
theorem t_F_order_structs_27 : ∀ v p, F_order_structs_27 v = some p → M_F_order_structs_27 v p := s_F_order_Cmp.2.2.2.2.2.1
theorem t_F_order_places : ∀ v p, F_order_places v = some p → M_F_order_places v p := s_F_order_Cmp.2.2.2.2.2.2.1
theorem t_F_slices_CompareFunc_api_Value_api_Value_api_Value_api_Value__order_Cmp : ∀ v p, F_slices_CompareFunc_api_Value_api_Value_api_Value_api_Value__order_Cmp v = some p → M_F_slices_CompareFunc_api_Value_api_Value_api_Value_api_Value__order_Cmp v p := s_F_order_Cmp.2.2.2.2.2.2.2.1
theorem t_F_slices_CompareFunc_api_Value_api_Value_api_Value_api_Value__order_Cmp_26 : ∀ v p, F_slices_CompareFunc_api_Value_api_Value_api_Value_api_Value__order_Cmp_26 v = some p → M_F_slices_CompareFunc_api_Value_api_Value_api_Value_api_Value__order_Cmp_26 v p := s_F_order_Cmp.2.2.2.2.2.2.2.2
theorem call_F_order_Cmp {a : YValue} {b_ : YValue} {p : Int} (hx : F_order_Cmp (a, b_) = some p) {h : Heap} : callA (Run T0 N_order_Cmp) [.agg [.int .i64 a.kind, .int .i64 a.n_, .str a.s, .sl false 5 (List.map YValue.av a.l), .sl false 1 (List.map (AV.int .i64) a.iDs)], .agg [.int .i64 b_.kind, .int .i64 b_.n_, .str b_.s, .sl false 5 (List.map YValue.av b_.l), .sl false 1 (List.map (AV.int .i64) b_.iDs)]] h = some ((.int .i64 p), h) :=
  callA_pure (by simp only [go_sem]) (fun H => t_F_order_Cmp _ _ hx H)
theorem call_F_order_structs {a : YValue} {b_ : YValue} {p : Int} (hx : F_order_structs (a, b_) = some p) {h : Heap} : callA (Run T0 N_order_structs) [.agg [.int .i64 a.kind, .int .i64 a.n_, .str a.s, .sl false 5 (List.map YValue.av a.l), .sl false 1 (List.map (AV.int .i64) a.iDs)], .agg [.int .i64 b_.kind, .int .i64 b_.n_, .str b_.s, .sl false 5 (List.map YValue.av b_.l), .sl false 1 (List.map (AV.int .i64) b_.iDs)]] h = some ((.int .i64 p), h) :=
  callA_pure (by simp only [go_sem]) (fun H => t_F_order_structs _ _ hx H)
theorem call_F_order_places {a : List YValue} {b_ : List YValue} {p : Int} (hx : F_order_places (a, b_) = some p) {h : Heap} : callA (Run T0 N_order_places) [.sl false 5 (List.map YValue.av a), .sl false 5 (List.map YValue.av b_)] h = some ((.int .i64 p), h) :=
  callA_pure (by simp only [go_sem]) (fun H => t_F_order_places _ _ hx H)
theorem call_F_slices_CompareFunc_api_Value_api_Value_api_Value_api_Value__order_Cmp {s1 : List YValue} {s2 : List YValue} {p : Int} (hx : F_slices_CompareFunc_api_Value_api_Value_api_Value_api_Value__order_Cmp (s1, s2) = some p) {h : Heap} : callA (Run T0 N_slices_CompareFunc_api_Value_api_Value_api_Value_api_Value) [.sl false 5 (List.map YValue.av s1), .sl false 5 (List.map YValue.av s2), .fn N_order_Cmp []] h = some ((.int .i64 p), h) :=
  callA_pure (by simp only [go_sem]) (fun H => t_F_slices_CompareFunc_api_Value_api_Value_api_Value_api_Value__order_Cmp _ _ hx H)
end Go.Proofs.YtfihinodhhhllaaGreat
