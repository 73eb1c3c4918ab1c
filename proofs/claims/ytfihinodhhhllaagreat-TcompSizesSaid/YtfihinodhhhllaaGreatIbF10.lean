/- The functions as plain functions, and that the runs come to their answers; printed by lift.py. -/
import Derived.Test.YtfihinodhhhllaaGreatIbH
import Derived.Test.YtfihinodhhhllaaGreatIbF2
import Derived.Test.YtfihinodhhhllaaGreatIbF3
import Derived.Test.YtfihinodhhhllaaGreatIbF5
import Derived.Test.YtfihinodhhhllaaGreatIbF6
import Derived.Test.YtfihinodhhhllaaGreatIbF9
set_option linter.unusedVariables false
set_option linter.unusedSimpArgs false
namespace Go.Proofs.YtfihinodhhhllaaGreat
open Go
mutual
def F_value_Check (v : YSchema × List UInt8 × YValue) : Option (Bool) :=
  F_value_Kind v.1 v.2.1 >>= fun r1 =>
  F_kind_Head v.2.1 >>= fun r2 =>
  if (r1 == (0 : Int)) = true then (
    some false
  ) else
  if (v.2.2.kind != r1) = true then (
    some false
  ) else
  F_value_Check_68 (r1, r2.2.1, r2.2.2.1, r2.2.2.2.1, v.1, v.2.2)
  partial_fixpoint
def F_value_Check_68 (v : Int × List UInt8 × List UInt8 × List UInt8 × YSchema × YValue) : Option (Bool) :=
  if (v.1 == (2 : Int)) = true then (
    if (v.2.2.2.2.2.n_ == (0 : Int)) = true then (
      some true
    ) else
    some (v.2.2.2.2.2.n_ == (1 : Int))
  ) else
  if (v.1 == (3 : Int)) = true then (
    F_value_Check_59 (v.1, v.2.1, v.2.2.1, v.2.2.2.1, v.1, true, v.2.2.2.2.1, v.2.2.2.2.2)
  ) else
  if (v.1 == (6 : Int)) = true then (
    F_value_Check_59 (v.1, v.2.1, v.2.2.1, v.2.2.2.1, v.1, true, v.2.2.2.2.1, v.2.2.2.2.2)
  ) else
  if (v.1 == (8 : Int)) = true then (
    F_value_Check_59 (v.1, v.2.1, v.2.2.1, v.2.2.2.1, v.1, true, v.2.2.2.2.1, v.2.2.2.2.2)
  ) else
  F_value_Check_59 (v.1, v.2.1, v.2.2.1, v.2.2.2.1, v.1, (v.1 == (10 : Int)), v.2.2.2.2.1, v.2.2.2.2.2)
  partial_fixpoint
def F_value_Check_59 (v : Int × List UInt8 × List UInt8 × List UInt8 × Int × Bool × YSchema × YValue) : Option (Bool) :=
  if v.2.2.2.2.2.1 = true then (
    F_value_fits v.1 v.2.2.2.2.2.2.2.n_ >>= fun r9 =>
    some r9
  ) else
  if (v.2.2.2.2.1 == (11 : Int)) = true then (
    F_value_Valid v.2.2.2.2.2.2.2.s >>= fun r11 =>
    some r11
  ) else
  if (v.2.2.2.2.1 == (15 : Int)) = true then (
    F_value_each (v.2.2.2.2.2.2.1, v.2.2.1, v.2.2.2.2.2.2.2.l, 0, 1) >>= fun r13 =>
    some r13
  ) else
  if (v.2.2.2.2.1 == (14 : Int)) = true then (
    F_value_each (v.2.2.2.2.2.2.1, v.2.2.1, v.2.2.2.2.2.2.2.l, 0, 1) >>= fun r15 =>
    if r15 = true then (
      F_value_rise v.2.2.2.2.2.2.2.l 1 >>= fun r17 =>
      some r17
    ) else
    some false
  ) else
  if (v.2.2.2.2.1 == (13 : Int)) = true then (
    irem .i64 (v.2.2.2.2.2.2.2.l.length : Int) 2 >>= fun x19 =>
    if (x19 == (0 : Int)) = true then (
      F_value_each (v.2.2.2.2.2.2.1, v.2.2.1, v.2.2.2.2.2.2.2.l, 0, 2) >>= fun r21 =>
      if r21 = true then (
        F_value_each (v.2.2.2.2.2.2.1, v.2.2.2.1, v.2.2.2.2.2.2.2.l, 1, 2) >>= fun r23 =>
        if r23 = true then (
          F_value_rise v.2.2.2.2.2.2.2.l 2 >>= fun r25 =>
          some r25
        ) else
        some false
      ) else
      some false
    ) else
    some false
  ) else
  if (v.2.2.2.2.1 == (17 : Int)) = true then (
    F_value_Enum v.2.2.2.2.2.2.1 v.2.1 >>= fun r27 =>
    F_slices_ContainsFunc_api_Member_api_Member r27.1.members (fun y0 => F_value_Check_1 y0 v.2.2.2.2.2.2.2) >>= fun r28 =>
    some r28
  ) else
  if (v.2.2.2.2.1 == (12 : Int)) = true then (
    F_value_Struct v.2.2.2.2.2.2.1 v.2.1 >>= fun r30 =>
    F_value_Fields (v.2.2.2.2.2.2.1, r30.1, v.2.2.2.2.2.2.2) >>= fun r31 =>
    some r31
  ) else
  some true
  partial_fixpoint
def F_value_Fields (v : YSchema × YSStruct × YValue) : Option (Bool) :=
  if (v.2.2.kind != (12 : Int)) = true then (
    some false
  ) else
  if ((v.2.2.iDs.length : Int) != (v.2.2.l.length : Int)) = true then (
    some false
  ) else
  F_value_Fields_64 (v.1, v.2.1, v.2.2)
  partial_fixpoint
def F_value_Fields_64 (v : YSchema × YSStruct × YValue) : Option (Bool) :=
  F_value_Fields_23 (v.2.2.iDs, (v.2.2.iDs.length : Int), 0, v.1, v.2.1, v.2.2)
  partial_fixpoint
def F_value_Fields_23 (v : List Int × Int × Int × YSchema × YSStruct × YValue) : Option (Bool) :=
  if (decide (v.2.2.1 < v.2.1)) = true then (
    lidx v.1 v.2.2.1 >>= fun x4 =>
    F_value_Field v.2.2.2.2.1 x4 >>= fun r5 =>
    if (!r5.2) = true then (
      some false
    ) else
    if (decide (v.2.2.1 > (0 : Int))) = true then (
      lidx v.2.2.2.2.2.iDs (isub .i64 v.2.2.1 1) >>= fun x8 =>
      if (decide (x8 ≥ x4)) = true then (
        some false
      ) else
      lidx v.2.2.2.2.2.l v.2.2.1 >>= fun x10 =>
      F_value_Check (v.2.2.2.1, r5.1.type_, x10) >>= fun r11 =>
      if (!r11) = true then (
        some false
      ) else
      F_value_Fields_23 (v.1, v.2.1, (iadd .i64 v.2.2.1 1), v.2.2.2.1, v.2.2.2.2.1, v.2.2.2.2.2)
    ) else
    lidx v.2.2.2.2.2.l v.2.2.1 >>= fun x13 =>
    F_value_Check (v.2.2.2.1, r5.1.type_, x13) >>= fun r14 =>
    if (!r14) = true then (
      some false
    ) else
    F_value_Fields_23 (v.1, v.2.1, (iadd .i64 v.2.2.1 1), v.2.2.2.1, v.2.2.2.2.1, v.2.2.2.2.2)
  ) else
  F_value_Fields_42 (v.2.2.2.2.1.fields, (v.2.2.2.2.1.fields.length : Int), 0, v.2.2.2.2.1, v.2.2.2.2.2)
  partial_fixpoint
def F_value_each (v : YSchema × List UInt8 × List YValue × Int × Int) : Option (Bool) :=
  F_value_each_14 (v.2.1, v.2.2.1, v.2.2.2.2, v.2.2.2.1, v.1)
  partial_fixpoint
def F_value_each_14 (v : List UInt8 × List YValue × Int × Int × YSchema) : Option (Bool) :=
  if (decide (v.2.2.2.1 < (v.2.1.length : Int))) = true then (
    lidx v.2.1 v.2.2.2.1 >>= fun x2 =>
    F_value_Check (v.2.2.2.2, v.1, x2) >>= fun r3 =>
    if (!r3) = true then (
      some false
    ) else
    F_value_each_14 (v.1, v.2.1, v.2.2.1, (iadd .i64 v.2.2.2.1 v.2.2.1), v.2.2.2.2)
  ) else
  some true
  partial_fixpoint
end
theorem F_value_Check_eq (s : YSchema) (t : List UInt8) (v_ : YValue) : F_value_Check (s, t, v_) =
  F_value_Kind s t >>= fun r1 =>
  F_kind_Head t >>= fun r2 =>
  if (r1 == (0 : Int)) = true then (
    some false
  ) else
  if (v_.kind != r1) = true then (
    some false
  ) else
  F_value_Check_68 (r1, r2.2.1, r2.2.2.1, r2.2.2.2.1, s, v_) := F_value_Check.eq_1 (s, t, v_)
theorem F_value_Check_68_eq (k : Int) (name : List UInt8) (a : List UInt8) (b_ : List UInt8) (bx0 : YSchema) (bx1 : YValue) : F_value_Check_68 (k, name, a, b_, bx0, bx1) =
  if (k == (2 : Int)) = true then (
    if (bx1.n_ == (0 : Int)) = true then (
      some true
    ) else
    some (bx1.n_ == (1 : Int))
  ) else
  if (k == (3 : Int)) = true then (
    F_value_Check_59 (k, name, a, b_, k, true, bx0, bx1)
  ) else
  if (k == (6 : Int)) = true then (
    F_value_Check_59 (k, name, a, b_, k, true, bx0, bx1)
  ) else
  if (k == (8 : Int)) = true then (
    F_value_Check_59 (k, name, a, b_, k, true, bx0, bx1)
  ) else
  F_value_Check_59 (k, name, a, b_, k, (k == (10 : Int)), bx0, bx1) := F_value_Check_68.eq_1 (k, name, a, b_, bx0, bx1)
theorem F_value_Check_59_eq (k : Int) (name : List UInt8) (a : List UInt8) (b_ : List UInt8) (t36 : Int) (t47 : Bool) (bx0 : YSchema) (bx1 : YValue) : F_value_Check_59 (k, name, a, b_, t36, t47, bx0, bx1) =
  if t47 = true then (
    F_value_fits k bx1.n_ >>= fun r9 =>
    some r9
  ) else
  if (t36 == (11 : Int)) = true then (
    F_value_Valid bx1.s >>= fun r11 =>
    some r11
  ) else
  if (t36 == (15 : Int)) = true then (
    F_value_each (bx0, a, bx1.l, 0, 1) >>= fun r13 =>
    some r13
  ) else
  if (t36 == (14 : Int)) = true then (
    F_value_each (bx0, a, bx1.l, 0, 1) >>= fun r15 =>
    if r15 = true then (
      F_value_rise bx1.l 1 >>= fun r17 =>
      some r17
    ) else
    some false
  ) else
  if (t36 == (13 : Int)) = true then (
    irem .i64 (bx1.l.length : Int) 2 >>= fun x19 =>
    if (x19 == (0 : Int)) = true then (
      F_value_each (bx0, a, bx1.l, 0, 2) >>= fun r21 =>
      if r21 = true then (
        F_value_each (bx0, b_, bx1.l, 1, 2) >>= fun r23 =>
        if r23 = true then (
          F_value_rise bx1.l 2 >>= fun r25 =>
          some r25
        ) else
        some false
      ) else
      some false
    ) else
    some false
  ) else
  if (t36 == (17 : Int)) = true then (
    F_value_Enum bx0 name >>= fun r27 =>
    F_slices_ContainsFunc_api_Member_api_Member r27.1.members (fun y0 => F_value_Check_1 y0 bx1) >>= fun r28 =>
    some r28
  ) else
  if (t36 == (12 : Int)) = true then (
    F_value_Struct bx0 name >>= fun r30 =>
    F_value_Fields (bx0, r30.1, bx1) >>= fun r31 =>
    some r31
  ) else
  some true := F_value_Check_59.eq_1 (k, name, a, b_, t36, t47, bx0, bx1)
theorem F_value_Fields_eq (s : YSchema) (x : YSStruct) (v_ : YValue) : F_value_Fields (s, x, v_) =
  if (v_.kind != (12 : Int)) = true then (
    some false
  ) else
  if ((v_.iDs.length : Int) != (v_.l.length : Int)) = true then (
    some false
  ) else
  F_value_Fields_64 (s, x, v_) := F_value_Fields.eq_1 (s, x, v_)
theorem F_value_Fields_64_eq (bx0 : YSchema) (bx1 : YSStruct) (bx2 : YValue) : F_value_Fields_64 (bx0, bx1, bx2) =
  F_value_Fields_23 (bx2.iDs, (bx2.iDs.length : Int), 0, bx0, bx1, bx2) := F_value_Fields_64.eq_1 (bx0, bx1, bx2)
theorem F_value_Fields_23_eq (t26 : List Int) (t27 : Int) (t28 : Int) (bx0 : YSchema) (bx1 : YSStruct) (bx2 : YValue) : F_value_Fields_23 (t26, t27, t28, bx0, bx1, bx2) =
  if (decide (t28 < t27)) = true then (
    lidx t26 t28 >>= fun x4 =>
    F_value_Field bx1 x4 >>= fun r5 =>
    if (!r5.2) = true then (
      some false
    ) else
    if (decide (t28 > (0 : Int))) = true then (
      lidx bx2.iDs (isub .i64 t28 1) >>= fun x8 =>
      if (decide (x8 ≥ x4)) = true then (
        some false
      ) else
      lidx bx2.l t28 >>= fun x10 =>
      F_value_Check (bx0, r5.1.type_, x10) >>= fun r11 =>
      if (!r11) = true then (
        some false
      ) else
      F_value_Fields_23 (t26, t27, (iadd .i64 t28 1), bx0, bx1, bx2)
    ) else
    lidx bx2.l t28 >>= fun x13 =>
    F_value_Check (bx0, r5.1.type_, x13) >>= fun r14 =>
    if (!r14) = true then (
      some false
    ) else
    F_value_Fields_23 (t26, t27, (iadd .i64 t28 1), bx0, bx1, bx2)
  ) else
  F_value_Fields_42 (bx1.fields, (bx1.fields.length : Int), 0, bx1, bx2) := F_value_Fields_23.eq_1 (t26, t27, t28, bx0, bx1, bx2)
theorem F_value_each_eq (s : YSchema) (t : List UInt8) (l : List YValue) (from_ : Int) (step : Int) : F_value_each (s, t, l, from_, step) =
  F_value_each_14 (t, l, step, from_, s) := F_value_each.eq_1 (s, t, l, from_, step)
theorem F_value_each_14_eq (t : List UInt8) (l : List YValue) (step : Int) (i : Int) (bx0 : YSchema) : F_value_each_14 (t, l, step, i, bx0) =
  if (decide (i < (l.length : Int))) = true then (
    lidx l i >>= fun x2 =>
    F_value_Check (bx0, t, x2) >>= fun r3 =>
    if (!r3) = true then (
      some false
    ) else
    F_value_each_14 (t, l, step, (iadd .i64 i step), bx0)
  ) else
  some true := F_value_each_14.eq_1 (t, l, step, i, bx0)
def M_F_value_Check (v : YSchema × List UInt8 × YValue) (p : Bool) : Prop := ∀ (h : Heap), Run T0 N_value_Check [.agg [.sl false 3 (List.map YSStruct.av v.1.structs), .sl false 2 (List.map YSEnum.av v.1.enums), .sl false 2 (List.map YSService.av v.1.services)], .str v.2.1, .agg [.int .i64 v.2.2.kind, .int .i64 v.2.2.n_, .str v.2.2.s, .sl false 5 (List.map YValue.av v.2.2.l), .sl false 1 (List.map (AV.int .i64) v.2.2.iDs)]] h = some ((.bool p), h)
def M_F_value_Check_68 (v : Int × List UInt8 × List UInt8 × List UInt8 × YSchema × YValue) (p : Bool) : Prop := ∀ (h : Heap), Does T0 C29_68 (aft T0 (EndQ false [.tmp 6] h.length (.bool p) (h)) []) .mk .mk [(3, .ptr h.length 0), (5, .ptr (h.length + 1) 0), (7, .int .i64 v.1), (9, .str v.2.1), (10, .str v.2.2.1), (11, .str v.2.2.2.1)] (h ++ [.row [.sl false 3 (List.map YSStruct.av v.2.2.2.2.1.structs), .sl false 2 (List.map YSEnum.av v.2.2.2.2.1.enums), .sl false 2 (List.map YSService.av v.2.2.2.2.1.services)], .row [.int .i64 v.2.2.2.2.2.kind, .int .i64 v.2.2.2.2.2.n_, .str v.2.2.2.2.2.s, .sl false 5 (List.map YValue.av v.2.2.2.2.2.l), .sl false 1 (List.map (AV.int .i64) v.2.2.2.2.2.iDs)]])
def M_F_value_Check_59 (v : Int × List UInt8 × List UInt8 × List UInt8 × Int × Bool × YSchema × YValue) (p : Bool) : Prop := ∀ (h : Heap), Does T0 C29_59 (aft T0 (EndQ false [.tmp 6] h.length (.bool p) (h)) [.blk 0, .seq C29_67]) .mk .mk [(3, .ptr h.length 0), (5, .ptr (h.length + 1) 0), (7, .int .i64 v.1), (9, .str v.2.1), (10, .str v.2.2.1), (11, .str v.2.2.2.1), (36, .int .i64 v.2.2.2.2.1), (47, .bool v.2.2.2.2.2.1)] (h ++ [.row [.sl false 3 (List.map YSStruct.av v.2.2.2.2.2.2.1.structs), .sl false 2 (List.map YSEnum.av v.2.2.2.2.2.2.1.enums), .sl false 2 (List.map YSService.av v.2.2.2.2.2.2.1.services)], .row [.int .i64 v.2.2.2.2.2.2.2.kind, .int .i64 v.2.2.2.2.2.2.2.n_, .str v.2.2.2.2.2.2.2.s, .sl false 5 (List.map YValue.av v.2.2.2.2.2.2.2.l), .sl false 1 (List.map (AV.int .i64) v.2.2.2.2.2.2.2.iDs)]])
def M_F_value_Fields (v : YSchema × YSStruct × YValue) (p : Bool) : Prop := ∀ (h : Heap), Run T0 N_value_Fields [.agg [.sl false 3 (List.map YSStruct.av v.1.structs), .sl false 2 (List.map YSEnum.av v.1.enums), .sl false 2 (List.map YSService.av v.1.services)], .agg [.int .i64 v.2.1.kind, .str v.2.1.name, .sl false 10 (List.map YSField.av v.2.1.fields)], .agg [.int .i64 v.2.2.kind, .int .i64 v.2.2.n_, .str v.2.2.s, .sl false 5 (List.map YValue.av v.2.2.l), .sl false 1 (List.map (AV.int .i64) v.2.2.iDs)]] h = some ((.bool p), h)
def M_F_value_Fields_64 (v : YSchema × YSStruct × YValue) (p : Bool) : Prop := ∀ (h : Heap), Does T0 C72_64 (aft T0 (EndQ false [.tmp 6] h.length (.bool p) (h)) []) .mk .mk [(3, .ptr h.length 0), (4, .ptr (h.length + 1) 0), (5, .ptr (h.length + 2) 0)] (h ++ [.row [.sl false 3 (List.map YSStruct.av v.1.structs), .sl false 2 (List.map YSEnum.av v.1.enums), .sl false 2 (List.map YSService.av v.1.services)], .row [.int .i64 v.2.1.kind, .str v.2.1.name, .sl false 10 (List.map YSField.av v.2.1.fields)], .row [.int .i64 v.2.2.kind, .int .i64 v.2.2.n_, .str v.2.2.s, .sl false 5 (List.map YValue.av v.2.2.l), .sl false 1 (List.map (AV.int .i64) v.2.2.iDs)]])
def M_F_value_Fields_23 (v : List Int × Int × Int × YSchema × YSStruct × YValue) (p : Bool) : Prop := ∀ (h : Heap), Does T0 C72_23 (aft T0 (EndQ false [.tmp 6] h.length (.bool p) (h)) [.gc (h.length + 3), .lp C72_24, .blk 0, .seq C72_63]) .mk .mk [(3, .ptr h.length 0), (4, .ptr (h.length + 1) 0), (5, .ptr (h.length + 2) 0), (26, .sl false 1 (List.map (AV.int .i64) v.1)), (27, .int .i64 v.2.1), (28, .int .i64 v.2.2.1)] (h ++ [.row [.sl false 3 (List.map YSStruct.av v.2.2.2.1.structs), .sl false 2 (List.map YSEnum.av v.2.2.2.1.enums), .sl false 2 (List.map YSService.av v.2.2.2.1.services)], .row [.int .i64 v.2.2.2.2.1.kind, .str v.2.2.2.2.1.name, .sl false 10 (List.map YSField.av v.2.2.2.2.1.fields)], .row [.int .i64 v.2.2.2.2.2.kind, .int .i64 v.2.2.2.2.2.n_, .str v.2.2.2.2.2.s, .sl false 5 (List.map YValue.av v.2.2.2.2.2.l), .sl false 1 (List.map (AV.int .i64) v.2.2.2.2.2.iDs)]])
def M_F_value_each (v : YSchema × List UInt8 × List YValue × Int × Int) (p : Bool) : Prop := ∀ (h : Heap), Run T0 N_value_each [.agg [.sl false 3 (List.map YSStruct.av v.1.structs), .sl false 2 (List.map YSEnum.av v.1.enums), .sl false 2 (List.map YSService.av v.1.services)], .str v.2.1, .sl false 5 (List.map YValue.av v.2.2.1), .int .i64 v.2.2.2.1, .int .i64 v.2.2.2.2] h = some ((.bool p), h)
def M_F_value_each_14 (v : List UInt8 × List YValue × Int × Int × YSchema) (p : Bool) : Prop := ∀ (h : Heap), Does T0 C79_14 (aft T0 (EndQ false [.tmp 10] h.length (.bool p) (h)) [.gc (h.length + 1), .lp C79_15, .blk 0, .seq C79_20]) .mk .mk [(1, .str v.1), (2, .sl false 5 (List.map YValue.av v.2.1)), (4, .int .i64 v.2.2.1), (5, .ptr h.length 0), (11, .int .i64 v.2.2.2.1)] (h ++ [.row [.sl false 3 (List.map YSStruct.av v.2.2.2.2.structs), .sl false 2 (List.map YSEnum.av v.2.2.2.2.enums), .sl false 2 (List.map YSService.av v.2.2.2.2.services)]])
set_option maxHeartbeats 4000000 in
theorem st_F_value_Check (f_F_value_Check_68 : (Int × List UInt8 × List UInt8 × List UInt8 × YSchema × YValue) → Option (Bool)) (ih_F_value_Check_68 : ∀ v p, f_F_value_Check_68 v = some p → M_F_value_Check_68 v p) (v : YSchema × List UInt8 × YValue) (p : Bool) (hF : (
  F_value_Kind v.1 v.2.1 >>= fun r1 =>
  F_kind_Head v.2.1 >>= fun r2 =>
  if (r1 == (0 : Int)) = true then (
    some false
  ) else
  if (v.2.2.kind != r1) = true then (
    some false
  ) else
  f_F_value_Check_68 (r1, r2.2.1, r2.2.2.1, r2.2.2.2.1, v.1, v.2.2)) = some p) : M_F_value_Check v p := by
  intro h
  refine run_ofK at_value_Check (n := h.length) rfl ?_
  simp only [go_sem, reduceIte, Nat.reduceEqDiff, Nat.reduceAdd, Nat.reduceLeDiff, Nat.reduceLT, Nat.reduceSub, Nat.reduceBEq, ne_eq, not_false_eq_true]
  obtain ⟨r1, hr1, hF⟩ := bindE hF
  refine DoesR_m (call_F_value_Kind hr1) ?_
  simp only [go_sem, reduceIte, Nat.reduceEqDiff, Nat.reduceAdd, Nat.reduceLeDiff, Nat.reduceLT, Nat.reduceSub, Nat.reduceBEq, ne_eq, not_false_eq_true]
  obtain ⟨r2, hr2, hF⟩ := bindE hF
  refine DoesR_m (call_F_kind_Head hr2) ?_
  simp only [go_sem, reduceIte, Nat.reduceEqDiff, Nat.reduceAdd, Nat.reduceLeDiff, Nat.reduceLT, Nat.reduceSub, Nat.reduceBEq, ne_eq, not_false_eq_true]
  rcases iteE hF with ⟨hc3, hF⟩ | ⟨hc3, hF⟩
  · simp only [go_sem, reduceIte, Nat.reduceEqDiff, Nat.reduceAdd, Nat.reduceLeDiff, Nat.reduceLT, Nat.reduceSub, Nat.reduceBEq, ne_eq, not_false_eq_true, hc3]
    all_goals (cases hF; rfl)
  · simp only [go_sem, reduceIte, Nat.reduceEqDiff, Nat.reduceAdd, Nat.reduceLeDiff, Nat.reduceLT, Nat.reduceSub, Nat.reduceBEq, ne_eq, not_false_eq_true, hc3]
    rcases iteE hF with ⟨hc4, hF⟩ | ⟨hc4, hF⟩
    · simp only [go_sem, reduceIte, Nat.reduceEqDiff, Nat.reduceAdd, Nat.reduceLeDiff, Nat.reduceLT, Nat.reduceSub, Nat.reduceBEq, ne_eq, not_false_eq_true, hc3, hc4]
      all_goals (cases hF; rfl)
    · simp only [go_sem, reduceIte, Nat.reduceEqDiff, Nat.reduceAdd, Nat.reduceLeDiff, Nat.reduceLT, Nat.reduceSub, Nat.reduceBEq, ne_eq, not_false_eq_true, hc3, hc4]
      exact ih_F_value_Check_68 _ _ hF _
set_option maxHeartbeats 4000000 in
theorem st_F_value_Check_68 (f_F_value_Check_59 : (Int × List UInt8 × List UInt8 × List UInt8 × Int × Bool × YSchema × YValue) → Option (Bool)) (ih_F_value_Check_59 : ∀ v p, f_F_value_Check_59 v = some p → M_F_value_Check_59 v p) (v : Int × List UInt8 × List UInt8 × List UInt8 × YSchema × YValue) (p : Bool) (hF : (
  if (v.1 == (2 : Int)) = true then (
    if (v.2.2.2.2.2.n_ == (0 : Int)) = true then (
      some true
    ) else
    some (v.2.2.2.2.2.n_ == (1 : Int))
  ) else
  if (v.1 == (3 : Int)) = true then (
    f_F_value_Check_59 (v.1, v.2.1, v.2.2.1, v.2.2.2.1, v.1, true, v.2.2.2.2.1, v.2.2.2.2.2)
  ) else
  if (v.1 == (6 : Int)) = true then (
    f_F_value_Check_59 (v.1, v.2.1, v.2.2.1, v.2.2.2.1, v.1, true, v.2.2.2.2.1, v.2.2.2.2.2)
  ) else
  if (v.1 == (8 : Int)) = true then (
    f_F_value_Check_59 (v.1, v.2.1, v.2.2.1, v.2.2.2.1, v.1, true, v.2.2.2.2.1, v.2.2.2.2.2)
  ) else
  f_F_value_Check_59 (v.1, v.2.1, v.2.2.1, v.2.2.2.1, v.1, (v.1 == (10 : Int)), v.2.2.2.2.1, v.2.2.2.2.2)) = some p) : M_F_value_Check_68 v p := by
  intro h
  unfold C29_68
  simp only [go_sem, reduceIte, Nat.reduceEqDiff, Nat.reduceAdd, Nat.reduceLeDiff, Nat.reduceLT, Nat.reduceSub, Nat.reduceBEq, ne_eq, not_false_eq_true]
  rcases iteE hF with ⟨hc5, hF⟩ | ⟨hc5, hF⟩
  · simp only [go_sem, reduceIte, Nat.reduceEqDiff, Nat.reduceAdd, Nat.reduceLeDiff, Nat.reduceLT, Nat.reduceSub, Nat.reduceBEq, ne_eq, not_false_eq_true, hc5]
    rcases iteE hF with ⟨hc6, hF⟩ | ⟨hc6, hF⟩
    · simp only [go_sem, reduceIte, Nat.reduceEqDiff, Nat.reduceAdd, Nat.reduceLeDiff, Nat.reduceLT, Nat.reduceSub, Nat.reduceBEq, ne_eq, not_false_eq_true, hc5, hc6]
      all_goals (cases hF; rfl)
    · simp only [go_sem, reduceIte, Nat.reduceEqDiff, Nat.reduceAdd, Nat.reduceLeDiff, Nat.reduceLT, Nat.reduceSub, Nat.reduceBEq, ne_eq, not_false_eq_true, hc5, hc6]
      all_goals (cases hF; rfl)
  · simp only [go_sem, reduceIte, Nat.reduceEqDiff, Nat.reduceAdd, Nat.reduceLeDiff, Nat.reduceLT, Nat.reduceSub, Nat.reduceBEq, ne_eq, not_false_eq_true, hc5]
    rcases iteE hF with ⟨hc7, hF⟩ | ⟨hc7, hF⟩
    · simp only [go_sem, reduceIte, Nat.reduceEqDiff, Nat.reduceAdd, Nat.reduceLeDiff, Nat.reduceLT, Nat.reduceSub, Nat.reduceBEq, ne_eq, not_false_eq_true, hc5, hc7]
      exact ih_F_value_Check_59 _ _ hF _
    · simp only [go_sem, reduceIte, Nat.reduceEqDiff, Nat.reduceAdd, Nat.reduceLeDiff, Nat.reduceLT, Nat.reduceSub, Nat.reduceBEq, ne_eq, not_false_eq_true, hc5, hc7]
      rcases iteE hF with ⟨hc32, hF⟩ | ⟨hc32, hF⟩
      · simp only [go_sem, reduceIte, Nat.reduceEqDiff, Nat.reduceAdd, Nat.reduceLeDiff, Nat.reduceLT, Nat.reduceSub, Nat.reduceBEq, ne_eq, not_false_eq_true, hc5, hc7, hc32]
        exact ih_F_value_Check_59 _ _ hF _
      · simp only [go_sem, reduceIte, Nat.reduceEqDiff, Nat.reduceAdd, Nat.reduceLeDiff, Nat.reduceLT, Nat.reduceSub, Nat.reduceBEq, ne_eq, not_false_eq_true, hc5, hc7, hc32]
        rcases iteE hF with ⟨hc33, hF⟩ | ⟨hc33, hF⟩
        · simp only [go_sem, reduceIte, Nat.reduceEqDiff, Nat.reduceAdd, Nat.reduceLeDiff, Nat.reduceLT, Nat.reduceSub, Nat.reduceBEq, ne_eq, not_false_eq_true, hc5, hc7, hc32, hc33]
          exact ih_F_value_Check_59 _ _ hF _
        · simp only [go_sem, reduceIte, Nat.reduceEqDiff, Nat.reduceAdd, Nat.reduceLeDiff, Nat.reduceLT, Nat.reduceSub, Nat.reduceBEq, ne_eq, not_false_eq_true, hc5, hc7, hc32, hc33]
          exact ih_F_value_Check_59 _ _ hF _
set_option maxHeartbeats 4000000 in
theorem st_F_value_Check_59 (f_F_value_Fields : (YSchema × YSStruct × YValue) → Option (Bool)) (ih_F_value_Fields : ∀ v p, f_F_value_Fields v = some p → M_F_value_Fields v p) (f_F_value_each : (YSchema × List UInt8 × List YValue × Int × Int) → Option (Bool)) (ih_F_value_each : ∀ v p, f_F_value_each v = some p → M_F_value_each v p) (v : Int × List UInt8 × List UInt8 × List UInt8 × Int × Bool × YSchema × YValue) (p : Bool) (hF : (
  if v.2.2.2.2.2.1 = true then (
    F_value_fits v.1 v.2.2.2.2.2.2.2.n_ >>= fun r9 =>
    some r9
  ) else
  if (v.2.2.2.2.1 == (11 : Int)) = true then (
    F_value_Valid v.2.2.2.2.2.2.2.s >>= fun r11 =>
    some r11
  ) else
  if (v.2.2.2.2.1 == (15 : Int)) = true then (
    f_F_value_each (v.2.2.2.2.2.2.1, v.2.2.1, v.2.2.2.2.2.2.2.l, 0, 1) >>= fun r13 =>
    some r13
  ) else
  if (v.2.2.2.2.1 == (14 : Int)) = true then (
    f_F_value_each (v.2.2.2.2.2.2.1, v.2.2.1, v.2.2.2.2.2.2.2.l, 0, 1) >>= fun r15 =>
    if r15 = true then (
      F_value_rise v.2.2.2.2.2.2.2.l 1 >>= fun r17 =>
      some r17
    ) else
    some false
  ) else
  if (v.2.2.2.2.1 == (13 : Int)) = true then (
    irem .i64 (v.2.2.2.2.2.2.2.l.length : Int) 2 >>= fun x19 =>
    if (x19 == (0 : Int)) = true then (
      f_F_value_each (v.2.2.2.2.2.2.1, v.2.2.1, v.2.2.2.2.2.2.2.l, 0, 2) >>= fun r21 =>
      if r21 = true then (
        f_F_value_each (v.2.2.2.2.2.2.1, v.2.2.2.1, v.2.2.2.2.2.2.2.l, 1, 2) >>= fun r23 =>
        if r23 = true then (
          F_value_rise v.2.2.2.2.2.2.2.l 2 >>= fun r25 =>
          some r25
        ) else
        some false
      ) else
      some false
    ) else
    some false
  ) else
  if (v.2.2.2.2.1 == (17 : Int)) = true then (
    F_value_Enum v.2.2.2.2.2.2.1 v.2.1 >>= fun r27 =>
    F_slices_ContainsFunc_api_Member_api_Member r27.1.members (fun y0 => F_value_Check_1 y0 v.2.2.2.2.2.2.2) >>= fun r28 =>
    some r28
  ) else
  if (v.2.2.2.2.1 == (12 : Int)) = true then (
    F_value_Struct v.2.2.2.2.2.2.1 v.2.1 >>= fun r30 =>
    f_F_value_Fields (v.2.2.2.2.2.2.1, r30.1, v.2.2.2.2.2.2.2) >>= fun r31 =>
    some r31
  ) else
  some true) = some p) : M_F_value_Check_59 v p := by
  intro h
  unfold C29_59
  simp only [go_sem, reduceIte, Nat.reduceEqDiff, Nat.reduceAdd, Nat.reduceLeDiff, Nat.reduceLT, Nat.reduceSub, Nat.reduceBEq, ne_eq, not_false_eq_true]
  rcases iteE hF with ⟨hc8, hF⟩ | ⟨hc8, hF⟩
  · simp only [go_sem, reduceIte, Nat.reduceEqDiff, Nat.reduceAdd, Nat.reduceLeDiff, Nat.reduceLT, Nat.reduceSub, Nat.reduceBEq, ne_eq, not_false_eq_true, hc8]
    obtain ⟨r9, hr9, hF⟩ := bindE hF
    refine DoesR_m (call_F_value_fits hr9) ?_
    simp only [go_sem, reduceIte, Nat.reduceEqDiff, Nat.reduceAdd, Nat.reduceLeDiff, Nat.reduceLT, Nat.reduceSub, Nat.reduceBEq, ne_eq, not_false_eq_true, hc8]
    all_goals (cases hF; rfl)
  · simp only [go_sem, reduceIte, Nat.reduceEqDiff, Nat.reduceAdd, Nat.reduceLeDiff, Nat.reduceLT, Nat.reduceSub, Nat.reduceBEq, ne_eq, not_false_eq_true, hc8]
    rcases iteE hF with ⟨hc10, hF⟩ | ⟨hc10, hF⟩
    · simp only [go_sem, reduceIte, Nat.reduceEqDiff, Nat.reduceAdd, Nat.reduceLeDiff, Nat.reduceLT, Nat.reduceSub, Nat.reduceBEq, ne_eq, not_false_eq_true, hc8, hc10]
      obtain ⟨r11, hr11, hF⟩ := bindE hF
      refine DoesR_m (call_F_value_Valid hr11) ?_
      simp only [go_sem, reduceIte, Nat.reduceEqDiff, Nat.reduceAdd, Nat.reduceLeDiff, Nat.reduceLT, Nat.reduceSub, Nat.reduceBEq, ne_eq, not_false_eq_true, hc8, hc10]
      all_goals (cases hF; rfl)
    · simp only [go_sem, reduceIte, Nat.reduceEqDiff, Nat.reduceAdd, Nat.reduceLeDiff, Nat.reduceLT, Nat.reduceSub, Nat.reduceBEq, ne_eq, not_false_eq_true, hc8, hc10]
      rcases iteE hF with ⟨hc12, hF⟩ | ⟨hc12, hF⟩
      · simp only [go_sem, reduceIte, Nat.reduceEqDiff, Nat.reduceAdd, Nat.reduceLeDiff, Nat.reduceLT, Nat.reduceSub, Nat.reduceBEq, ne_eq, not_false_eq_true, hc8, hc10, hc12]
        obtain ⟨r13, hr13, hF⟩ := bindE hF
        refine DoesR_m (callA_pure (by simp only [go_sem]) (fun H => ih_F_value_each _ _ hr13 H)) ?_
        simp only [go_sem, reduceIte, Nat.reduceEqDiff, Nat.reduceAdd, Nat.reduceLeDiff, Nat.reduceLT, Nat.reduceSub, Nat.reduceBEq, ne_eq, not_false_eq_true, hc8, hc10, hc12]
        all_goals (cases hF; rfl)
      · simp only [go_sem, reduceIte, Nat.reduceEqDiff, Nat.reduceAdd, Nat.reduceLeDiff, Nat.reduceLT, Nat.reduceSub, Nat.reduceBEq, ne_eq, not_false_eq_true, hc8, hc10, hc12]
        rcases iteE hF with ⟨hc14, hF⟩ | ⟨hc14, hF⟩
        · simp only [go_sem, reduceIte, Nat.reduceEqDiff, Nat.reduceAdd, Nat.reduceLeDiff, Nat.reduceLT, Nat.reduceSub, Nat.reduceBEq, ne_eq, not_false_eq_true, hc8, hc10, hc12, hc14]
          obtain ⟨r15, hr15, hF⟩ := bindE hF
          refine DoesR_m (callA_pure (by simp only [go_sem]) (fun H => ih_F_value_each _ _ hr15 H)) ?_
          simp only [go_sem, reduceIte, Nat.reduceEqDiff, Nat.reduceAdd, Nat.reduceLeDiff, Nat.reduceLT, Nat.reduceSub, Nat.reduceBEq, ne_eq, not_false_eq_true, hc8, hc10, hc12, hc14]
          rcases iteE hF with ⟨hc16, hF⟩ | ⟨hc16, hF⟩
          · simp only [go_sem, reduceIte, Nat.reduceEqDiff, Nat.reduceAdd, Nat.reduceLeDiff, Nat.reduceLT, Nat.reduceSub, Nat.reduceBEq, ne_eq, not_false_eq_true, hc8, hc10, hc12, hc14, hc16]
            obtain ⟨r17, hr17, hF⟩ := bindE hF
            refine DoesR_m (call_F_value_rise hr17) ?_
            simp only [go_sem, reduceIte, Nat.reduceEqDiff, Nat.reduceAdd, Nat.reduceLeDiff, Nat.reduceLT, Nat.reduceSub, Nat.reduceBEq, ne_eq, not_false_eq_true, hc8, hc10, hc12, hc14, hc16]
            all_goals (cases hF; rfl)
          · simp only [go_sem, reduceIte, Nat.reduceEqDiff, Nat.reduceAdd, Nat.reduceLeDiff, Nat.reduceLT, Nat.reduceSub, Nat.reduceBEq, ne_eq, not_false_eq_true, hc8, hc10, hc12, hc14, hc16]
            all_goals (cases hF; rfl)
        · simp only [go_sem, reduceIte, Nat.reduceEqDiff, Nat.reduceAdd, Nat.reduceLeDiff, Nat.reduceLT, Nat.reduceSub, Nat.reduceBEq, ne_eq, not_false_eq_true, hc8, hc10, hc12, hc14]
          rcases iteE hF with ⟨hc18, hF⟩ | ⟨hc18, hF⟩
          · simp only [go_sem, reduceIte, Nat.reduceEqDiff, Nat.reduceAdd, Nat.reduceLeDiff, Nat.reduceLT, Nat.reduceSub, Nat.reduceBEq, ne_eq, not_false_eq_true, hc8, hc10, hc12, hc14, hc18]
            obtain ⟨x19, hx19, hF⟩ := bindE hF
            refine DoesO_m (hx19) ?_
            simp only [go_sem, reduceIte, Nat.reduceEqDiff, Nat.reduceAdd, Nat.reduceLeDiff, Nat.reduceLT, Nat.reduceSub, Nat.reduceBEq, ne_eq, not_false_eq_true, hc8, hc10, hc12, hc14, hc18]
            rcases iteE hF with ⟨hc20, hF⟩ | ⟨hc20, hF⟩
            · simp only [go_sem, reduceIte, Nat.reduceEqDiff, Nat.reduceAdd, Nat.reduceLeDiff, Nat.reduceLT, Nat.reduceSub, Nat.reduceBEq, ne_eq, not_false_eq_true, hc8, hc10, hc12, hc14, hc18, hc20]
              obtain ⟨r21, hr21, hF⟩ := bindE hF
              refine DoesR_m (callA_pure (by simp only [go_sem]) (fun H => ih_F_value_each _ _ hr21 H)) ?_
              simp only [go_sem, reduceIte, Nat.reduceEqDiff, Nat.reduceAdd, Nat.reduceLeDiff, Nat.reduceLT, Nat.reduceSub, Nat.reduceBEq, ne_eq, not_false_eq_true, hc8, hc10, hc12, hc14, hc18, hc20]
              rcases iteE hF with ⟨hc22, hF⟩ | ⟨hc22, hF⟩
              · simp only [go_sem, reduceIte, Nat.reduceEqDiff, Nat.reduceAdd, Nat.reduceLeDiff, Nat.reduceLT, Nat.reduceSub, Nat.reduceBEq, ne_eq, not_false_eq_true, hc8, hc10, hc12, hc14, hc18, hc20, hc22]
                obtain ⟨r23, hr23, hF⟩ := bindE hF
                refine DoesR_m (callA_pure (by simp only [go_sem]) (fun H => ih_F_value_each _ _ hr23 H)) ?_
                simp only [go_sem, reduceIte, Nat.reduceEqDiff, Nat.reduceAdd, Nat.reduceLeDiff, Nat.reduceLT, Nat.reduceSub, Nat.reduceBEq, ne_eq, not_false_eq_true, hc8, hc10, hc12, hc14, hc18, hc20, hc22]
                rcases iteE hF with ⟨hc24, hF⟩ | ⟨hc24, hF⟩
                · simp only [go_sem, reduceIte, Nat.reduceEqDiff, Nat.reduceAdd, Nat.reduceLeDiff, Nat.reduceLT, Nat.reduceSub, Nat.reduceBEq, ne_eq, not_false_eq_true, hc8, hc10, hc12, hc14, hc18, hc20, hc22, hc24]
                  obtain ⟨r25, hr25, hF⟩ := bindE hF
                  refine DoesR_m (call_F_value_rise hr25) ?_
                  simp only [go_sem, reduceIte, Nat.reduceEqDiff, Nat.reduceAdd, Nat.reduceLeDiff, Nat.reduceLT, Nat.reduceSub, Nat.reduceBEq, ne_eq, not_false_eq_true, hc8, hc10, hc12, hc14, hc18, hc20, hc22, hc24]
                  all_goals (cases hF; rfl)
                · simp only [go_sem, reduceIte, Nat.reduceEqDiff, Nat.reduceAdd, Nat.reduceLeDiff, Nat.reduceLT, Nat.reduceSub, Nat.reduceBEq, ne_eq, not_false_eq_true, hc8, hc10, hc12, hc14, hc18, hc20, hc22, hc24]
                  all_goals (cases hF; rfl)
              · simp only [go_sem, reduceIte, Nat.reduceEqDiff, Nat.reduceAdd, Nat.reduceLeDiff, Nat.reduceLT, Nat.reduceSub, Nat.reduceBEq, ne_eq, not_false_eq_true, hc8, hc10, hc12, hc14, hc18, hc20, hc22]
                all_goals (cases hF; rfl)
            · simp only [go_sem, reduceIte, Nat.reduceEqDiff, Nat.reduceAdd, Nat.reduceLeDiff, Nat.reduceLT, Nat.reduceSub, Nat.reduceBEq, ne_eq, not_false_eq_true, hc8, hc10, hc12, hc14, hc18, hc20]
              all_goals (cases hF; rfl)
          · simp only [go_sem, reduceIte, Nat.reduceEqDiff, Nat.reduceAdd, Nat.reduceLeDiff, Nat.reduceLT, Nat.reduceSub, Nat.reduceBEq, ne_eq, not_false_eq_true, hc8, hc10, hc12, hc14, hc18]
            rcases iteE hF with ⟨hc26, hF⟩ | ⟨hc26, hF⟩
            · simp only [go_sem, reduceIte, Nat.reduceEqDiff, Nat.reduceAdd, Nat.reduceLeDiff, Nat.reduceLT, Nat.reduceSub, Nat.reduceBEq, ne_eq, not_false_eq_true, hc8, hc10, hc12, hc14, hc18, hc26]
              obtain ⟨r27, hr27, hF⟩ := bindE hF
              refine DoesR_m (call_F_value_Enum hr27) ?_
              simp only [go_sem, reduceIte, Nat.reduceEqDiff, Nat.reduceAdd, Nat.reduceLeDiff, Nat.reduceLT, Nat.reduceSub, Nat.reduceBEq, ne_eq, not_false_eq_true, hc8, hc10, hc12, hc14, hc18, hc26]
              obtain ⟨r28, hr28, hF⟩ := bindE hF
              refine DoesR_m (call_F_slices_ContainsFunc_api_Member_api_Member hr28 (fun l _ r hy => call_F_value_Check_1 hy (app_get (lb_get rfl rfl)))) ?_
              simp only [go_sem, reduceIte, Nat.reduceEqDiff, Nat.reduceAdd, Nat.reduceLeDiff, Nat.reduceLT, Nat.reduceSub, Nat.reduceBEq, ne_eq, not_false_eq_true, hc8, hc10, hc12, hc14, hc18, hc26]
              all_goals (cases hF; rfl)
            · simp only [go_sem, reduceIte, Nat.reduceEqDiff, Nat.reduceAdd, Nat.reduceLeDiff, Nat.reduceLT, Nat.reduceSub, Nat.reduceBEq, ne_eq, not_false_eq_true, hc8, hc10, hc12, hc14, hc18, hc26]
              rcases iteE hF with ⟨hc29, hF⟩ | ⟨hc29, hF⟩
              · simp only [go_sem, reduceIte, Nat.reduceEqDiff, Nat.reduceAdd, Nat.reduceLeDiff, Nat.reduceLT, Nat.reduceSub, Nat.reduceBEq, ne_eq, not_false_eq_true, hc8, hc10, hc12, hc14, hc18, hc26, hc29]
                obtain ⟨r30, hr30, hF⟩ := bindE hF
                refine DoesR_m (call_F_value_Struct hr30) ?_
                simp only [go_sem, reduceIte, Nat.reduceEqDiff, Nat.reduceAdd, Nat.reduceLeDiff, Nat.reduceLT, Nat.reduceSub, Nat.reduceBEq, ne_eq, not_false_eq_true, hc8, hc10, hc12, hc14, hc18, hc26, hc29]
                obtain ⟨r31, hr31, hF⟩ := bindE hF
                refine DoesR_m (callA_pure (by simp only [go_sem]) (fun H => ih_F_value_Fields _ _ hr31 H)) ?_
                simp only [go_sem, reduceIte, Nat.reduceEqDiff, Nat.reduceAdd, Nat.reduceLeDiff, Nat.reduceLT, Nat.reduceSub, Nat.reduceBEq, ne_eq, not_false_eq_true, hc8, hc10, hc12, hc14, hc18, hc26, hc29]
                all_goals (cases hF; rfl)
              · simp only [go_sem, reduceIte, Nat.reduceEqDiff, Nat.reduceAdd, Nat.reduceLeDiff, Nat.reduceLT, Nat.reduceSub, Nat.reduceBEq, ne_eq, not_false_eq_true, hc8, hc10, hc12, hc14, hc18, hc26, hc29]
                all_goals (cases hF; rfl)
set_option maxHeartbeats 4000000 in
theorem st_F_value_Fields (f_F_value_Fields_64 : (YSchema × YSStruct × YValue) → Option (Bool)) (ih_F_value_Fields_64 : ∀ v p, f_F_value_Fields_64 v = some p → M_F_value_Fields_64 v p) (v : YSchema × YSStruct × YValue) (p : Bool) (hF : (
  if (v.2.2.kind != (12 : Int)) = true then (
    some false
  ) else
  if ((v.2.2.iDs.length : Int) != (v.2.2.l.length : Int)) = true then (
    some false
  ) else
  f_F_value_Fields_64 (v.1, v.2.1, v.2.2)) = some p) : M_F_value_Fields v p := by
  intro h
  refine run_ofK at_value_Fields (n := h.length) rfl ?_
  simp only [go_sem, reduceIte, Nat.reduceEqDiff, Nat.reduceAdd, Nat.reduceLeDiff, Nat.reduceLT, Nat.reduceSub, Nat.reduceBEq, ne_eq, not_false_eq_true]
  rcases iteE hF with ⟨hc1, hF⟩ | ⟨hc1, hF⟩
  · simp only [go_sem, reduceIte, Nat.reduceEqDiff, Nat.reduceAdd, Nat.reduceLeDiff, Nat.reduceLT, Nat.reduceSub, Nat.reduceBEq, ne_eq, not_false_eq_true, hc1]
    all_goals (cases hF; rfl)
  · simp only [go_sem, reduceIte, Nat.reduceEqDiff, Nat.reduceAdd, Nat.reduceLeDiff, Nat.reduceLT, Nat.reduceSub, Nat.reduceBEq, ne_eq, not_false_eq_true, hc1]
    rcases iteE hF with ⟨hc2, hF⟩ | ⟨hc2, hF⟩
    · simp only [go_sem, reduceIte, Nat.reduceEqDiff, Nat.reduceAdd, Nat.reduceLeDiff, Nat.reduceLT, Nat.reduceSub, Nat.reduceBEq, ne_eq, not_false_eq_true, hc1, hc2]
      all_goals (cases hF; rfl)
    · simp only [go_sem, reduceIte, Nat.reduceEqDiff, Nat.reduceAdd, Nat.reduceLeDiff, Nat.reduceLT, Nat.reduceSub, Nat.reduceBEq, ne_eq, not_false_eq_true, hc1, hc2]
      exact ih_F_value_Fields_64 _ _ hF _
set_option maxHeartbeats 4000000 in
theorem st_F_value_Fields_64 (f_F_value_Fields_23 : (List Int × Int × Int × YSchema × YSStruct × YValue) → Option (Bool)) (ih_F_value_Fields_23 : ∀ v p, f_F_value_Fields_23 v = some p → M_F_value_Fields_23 v p) (v : YSchema × YSStruct × YValue) (p : Bool) (hF : (
  f_F_value_Fields_23 (v.2.2.iDs, (v.2.2.iDs.length : Int), 0, v.1, v.2.1, v.2.2)) = some p) : M_F_value_Fields_64 v p := by
  intro h
  unfold C72_64
  simp only [go_sem, reduceIte, Nat.reduceEqDiff, Nat.reduceAdd, Nat.reduceLeDiff, Nat.reduceLT, Nat.reduceSub, Nat.reduceBEq, ne_eq, not_false_eq_true]
  exact ih_F_value_Fields_23 _ _ hF _
set_option maxHeartbeats 4000000 in
theorem st_F_value_Fields_23 (f_F_value_Check : (YSchema × List UInt8 × YValue) → Option (Bool)) (ih_F_value_Check : ∀ v p, f_F_value_Check v = some p → M_F_value_Check v p) (f_F_value_Fields_23 : (List Int × Int × Int × YSchema × YSStruct × YValue) → Option (Bool)) (ih_F_value_Fields_23 : ∀ v p, f_F_value_Fields_23 v = some p → M_F_value_Fields_23 v p) (v : List Int × Int × Int × YSchema × YSStruct × YValue) (p : Bool) (hF : (
  if (decide (v.2.2.1 < v.2.1)) = true then (
    lidx v.1 v.2.2.1 >>= fun x4 =>
    F_value_Field v.2.2.2.2.1 x4 >>= fun r5 =>
    if (!r5.2) = true then (
      some false
    ) else
    if (decide (v.2.2.1 > (0 : Int))) = true then (
      lidx v.2.2.2.2.2.iDs (isub .i64 v.2.2.1 1) >>= fun x8 =>
      if (decide (x8 ≥ x4)) = true then (
        some false
      ) else
      lidx v.2.2.2.2.2.l v.2.2.1 >>= fun x10 =>
      f_F_value_Check (v.2.2.2.1, r5.1.type_, x10) >>= fun r11 =>
      if (!r11) = true then (
        some false
      ) else
      f_F_value_Fields_23 (v.1, v.2.1, (iadd .i64 v.2.2.1 1), v.2.2.2.1, v.2.2.2.2.1, v.2.2.2.2.2)
    ) else
    lidx v.2.2.2.2.2.l v.2.2.1 >>= fun x13 =>
    f_F_value_Check (v.2.2.2.1, r5.1.type_, x13) >>= fun r14 =>
    if (!r14) = true then (
      some false
    ) else
    f_F_value_Fields_23 (v.1, v.2.1, (iadd .i64 v.2.2.1 1), v.2.2.2.1, v.2.2.2.2.1, v.2.2.2.2.2)
  ) else
  F_value_Fields_42 (v.2.2.2.2.1.fields, (v.2.2.2.2.1.fields.length : Int), 0, v.2.2.2.2.1, v.2.2.2.2.2)) = some p) : M_F_value_Fields_23 v p := by
  intro h
  unfold C72_23
  simp only [go_sem, reduceIte, Nat.reduceEqDiff, Nat.reduceAdd, Nat.reduceLeDiff, Nat.reduceLT, Nat.reduceSub, Nat.reduceBEq, ne_eq, not_false_eq_true]
  rcases iteE hF with ⟨hc3, hF⟩ | ⟨hc3, hF⟩
  · simp only [go_sem, reduceIte, Nat.reduceEqDiff, Nat.reduceAdd, Nat.reduceLeDiff, Nat.reduceLT, Nat.reduceSub, Nat.reduceBEq, ne_eq, not_false_eq_true, hc3]
    obtain ⟨x4, hx4, hF⟩ := bindE hF
    refine DoesO_m (lidx_map (AV.int .i64) hx4) ?_
    simp only [go_sem, reduceIte, Nat.reduceEqDiff, Nat.reduceAdd, Nat.reduceLeDiff, Nat.reduceLT, Nat.reduceSub, Nat.reduceBEq, ne_eq, not_false_eq_true, hc3]
    obtain ⟨r5, hr5, hF⟩ := bindE hF
    refine DoesR_m (call_F_value_Field hr5) ?_
    simp only [go_sem, reduceIte, Nat.reduceEqDiff, Nat.reduceAdd, Nat.reduceLeDiff, Nat.reduceLT, Nat.reduceSub, Nat.reduceBEq, ne_eq, not_false_eq_true, hc3]
    rcases iteE hF with ⟨hc6, hF⟩ | ⟨hc6, hF⟩
    · simp only [go_sem, reduceIte, Nat.reduceEqDiff, Nat.reduceAdd, Nat.reduceLeDiff, Nat.reduceLT, Nat.reduceSub, Nat.reduceBEq, ne_eq, not_false_eq_true, hc3, hc6]
      refine aft_gc_drop (by simp only [go_sem, reduceIte, Nat.reduceEqDiff, Nat.reduceAdd, Nat.reduceLeDiff, Nat.reduceLT, Nat.reduceSub, Nat.reduceBEq, ne_eq, not_false_eq_true, hc3, hc6] <;> omega) ?_
      simp only [go_sem, reduceIte, Nat.reduceEqDiff, Nat.reduceAdd, Nat.reduceLeDiff, Nat.reduceLT, Nat.reduceSub, Nat.reduceBEq, ne_eq, not_false_eq_true, hc3, hc6]
      all_goals (cases hF; rfl)
    · simp only [go_sem, reduceIte, Nat.reduceEqDiff, Nat.reduceAdd, Nat.reduceLeDiff, Nat.reduceLT, Nat.reduceSub, Nat.reduceBEq, ne_eq, not_false_eq_true, hc3, hc6]
      rcases iteE hF with ⟨hc7, hF⟩ | ⟨hc7, hF⟩
      · simp only [go_sem, reduceIte, Nat.reduceEqDiff, Nat.reduceAdd, Nat.reduceLeDiff, Nat.reduceLT, Nat.reduceSub, Nat.reduceBEq, ne_eq, not_false_eq_true, hc3, hc6, hc7]
        obtain ⟨x8, hx8, hF⟩ := bindE hF
        refine DoesO_m (lidx_map (AV.int .i64) hx8) ?_
        simp only [go_sem, reduceIte, Nat.reduceEqDiff, Nat.reduceAdd, Nat.reduceLeDiff, Nat.reduceLT, Nat.reduceSub, Nat.reduceBEq, ne_eq, not_false_eq_true, hc3, hc6, hc7]
        rcases iteE hF with ⟨hc9, hF⟩ | ⟨hc9, hF⟩
        · simp only [go_sem, reduceIte, Nat.reduceEqDiff, Nat.reduceAdd, Nat.reduceLeDiff, Nat.reduceLT, Nat.reduceSub, Nat.reduceBEq, ne_eq, not_false_eq_true, hc3, hc6, hc7, hc9]
          refine aft_gc_drop (by simp only [go_sem, reduceIte, Nat.reduceEqDiff, Nat.reduceAdd, Nat.reduceLeDiff, Nat.reduceLT, Nat.reduceSub, Nat.reduceBEq, ne_eq, not_false_eq_true, hc3, hc6, hc7, hc9] <;> omega) ?_
          simp only [go_sem, reduceIte, Nat.reduceEqDiff, Nat.reduceAdd, Nat.reduceLeDiff, Nat.reduceLT, Nat.reduceSub, Nat.reduceBEq, ne_eq, not_false_eq_true, hc3, hc6, hc7, hc9]
          all_goals (cases hF; rfl)
        · simp only [go_sem, reduceIte, Nat.reduceEqDiff, Nat.reduceAdd, Nat.reduceLeDiff, Nat.reduceLT, Nat.reduceSub, Nat.reduceBEq, ne_eq, not_false_eq_true, hc3, hc6, hc7, hc9]
          obtain ⟨x10, hx10, hF⟩ := bindE hF
          refine DoesO_m (lidx_map YValue.av hx10) ?_
          simp only [go_sem, reduceIte, Nat.reduceEqDiff, Nat.reduceAdd, Nat.reduceLeDiff, Nat.reduceLT, Nat.reduceSub, Nat.reduceBEq, ne_eq, not_false_eq_true, hc3, hc6, hc7, hc9]
          obtain ⟨r11, hr11, hF⟩ := bindE hF
          refine DoesR_m (callA_pure (by simp only [go_sem]) (fun H => ih_F_value_Check _ _ hr11 H)) ?_
          simp only [go_sem, reduceIte, Nat.reduceEqDiff, Nat.reduceAdd, Nat.reduceLeDiff, Nat.reduceLT, Nat.reduceSub, Nat.reduceBEq, ne_eq, not_false_eq_true, hc3, hc6, hc7, hc9]
          rcases iteE hF with ⟨hc12, hF⟩ | ⟨hc12, hF⟩
          · simp only [go_sem, reduceIte, Nat.reduceEqDiff, Nat.reduceAdd, Nat.reduceLeDiff, Nat.reduceLT, Nat.reduceSub, Nat.reduceBEq, ne_eq, not_false_eq_true, hc3, hc6, hc7, hc9, hc12]
            refine aft_gc_drop (by simp only [go_sem, reduceIte, Nat.reduceEqDiff, Nat.reduceAdd, Nat.reduceLeDiff, Nat.reduceLT, Nat.reduceSub, Nat.reduceBEq, ne_eq, not_false_eq_true, hc3, hc6, hc7, hc9, hc12] <;> omega) ?_
            simp only [go_sem, reduceIte, Nat.reduceEqDiff, Nat.reduceAdd, Nat.reduceLeDiff, Nat.reduceLT, Nat.reduceSub, Nat.reduceBEq, ne_eq, not_false_eq_true, hc3, hc6, hc7, hc9, hc12]
            all_goals (cases hF; rfl)
          · simp only [go_sem, reduceIte, Nat.reduceEqDiff, Nat.reduceAdd, Nat.reduceLeDiff, Nat.reduceLT, Nat.reduceSub, Nat.reduceBEq, ne_eq, not_false_eq_true, hc3, hc6, hc7, hc9, hc12]
            refine aft_gc_drop (by simp only [go_sem, reduceIte, Nat.reduceEqDiff, Nat.reduceAdd, Nat.reduceLeDiff, Nat.reduceLT, Nat.reduceSub, Nat.reduceBEq, ne_eq, not_false_eq_true, hc3, hc6, hc7, hc9, hc12] <;> omega) ?_
            simp only [go_sem, reduceIte, Nat.reduceEqDiff, Nat.reduceAdd, Nat.reduceLeDiff, Nat.reduceLT, Nat.reduceSub, Nat.reduceBEq, ne_eq, not_false_eq_true, hc3, hc6, hc7, hc9, hc12]
            exact ih_F_value_Fields_23 _ _ hF _
      · simp only [go_sem, reduceIte, Nat.reduceEqDiff, Nat.reduceAdd, Nat.reduceLeDiff, Nat.reduceLT, Nat.reduceSub, Nat.reduceBEq, ne_eq, not_false_eq_true, hc3, hc6, hc7]
        obtain ⟨x13, hx13, hF⟩ := bindE hF
        refine DoesO_m (lidx_map YValue.av hx13) ?_
        simp only [go_sem, reduceIte, Nat.reduceEqDiff, Nat.reduceAdd, Nat.reduceLeDiff, Nat.reduceLT, Nat.reduceSub, Nat.reduceBEq, ne_eq, not_false_eq_true, hc3, hc6, hc7]
        obtain ⟨r14, hr14, hF⟩ := bindE hF
        refine DoesR_m (callA_pure (by simp only [go_sem]) (fun H => ih_F_value_Check _ _ hr14 H)) ?_
        simp only [go_sem, reduceIte, Nat.reduceEqDiff, Nat.reduceAdd, Nat.reduceLeDiff, Nat.reduceLT, Nat.reduceSub, Nat.reduceBEq, ne_eq, not_false_eq_true, hc3, hc6, hc7]
        rcases iteE hF with ⟨hc15, hF⟩ | ⟨hc15, hF⟩
        · simp only [go_sem, reduceIte, Nat.reduceEqDiff, Nat.reduceAdd, Nat.reduceLeDiff, Nat.reduceLT, Nat.reduceSub, Nat.reduceBEq, ne_eq, not_false_eq_true, hc3, hc6, hc7, hc15]
          refine aft_gc_drop (by simp only [go_sem, reduceIte, Nat.reduceEqDiff, Nat.reduceAdd, Nat.reduceLeDiff, Nat.reduceLT, Nat.reduceSub, Nat.reduceBEq, ne_eq, not_false_eq_true, hc3, hc6, hc7, hc15] <;> omega) ?_
          simp only [go_sem, reduceIte, Nat.reduceEqDiff, Nat.reduceAdd, Nat.reduceLeDiff, Nat.reduceLT, Nat.reduceSub, Nat.reduceBEq, ne_eq, not_false_eq_true, hc3, hc6, hc7, hc15]
          all_goals (cases hF; rfl)
        · simp only [go_sem, reduceIte, Nat.reduceEqDiff, Nat.reduceAdd, Nat.reduceLeDiff, Nat.reduceLT, Nat.reduceSub, Nat.reduceBEq, ne_eq, not_false_eq_true, hc3, hc6, hc7, hc15]
          refine aft_gc_drop (by simp only [go_sem, reduceIte, Nat.reduceEqDiff, Nat.reduceAdd, Nat.reduceLeDiff, Nat.reduceLT, Nat.reduceSub, Nat.reduceBEq, ne_eq, not_false_eq_true, hc3, hc6, hc7, hc15] <;> omega) ?_
          simp only [go_sem, reduceIte, Nat.reduceEqDiff, Nat.reduceAdd, Nat.reduceLeDiff, Nat.reduceLT, Nat.reduceSub, Nat.reduceBEq, ne_eq, not_false_eq_true, hc3, hc6, hc7, hc15]
          exact ih_F_value_Fields_23 _ _ hF _
  · simp only [go_sem, reduceIte, Nat.reduceEqDiff, Nat.reduceAdd, Nat.reduceLeDiff, Nat.reduceLT, Nat.reduceSub, Nat.reduceBEq, ne_eq, not_false_eq_true, hc3]
    exact t_F_value_Fields_42 _ _ hF _ _
set_option maxHeartbeats 4000000 in
theorem st_F_value_each (f_F_value_each_14 : (List UInt8 × List YValue × Int × Int × YSchema) → Option (Bool)) (ih_F_value_each_14 : ∀ v p, f_F_value_each_14 v = some p → M_F_value_each_14 v p) (v : YSchema × List UInt8 × List YValue × Int × Int) (p : Bool) (hF : (
  f_F_value_each_14 (v.2.1, v.2.2.1, v.2.2.2.2, v.2.2.2.1, v.1)) = some p) : M_F_value_each v p := by
  intro h
  refine run_ofK at_value_each (n := h.length) rfl ?_
  simp only [go_sem, reduceIte, Nat.reduceEqDiff, Nat.reduceAdd, Nat.reduceLeDiff, Nat.reduceLT, Nat.reduceSub, Nat.reduceBEq, ne_eq, not_false_eq_true]
  exact ih_F_value_each_14 _ _ hF _
set_option maxHeartbeats 4000000 in
theorem st_F_value_each_14 (f_F_value_Check : (YSchema × List UInt8 × YValue) → Option (Bool)) (ih_F_value_Check : ∀ v p, f_F_value_Check v = some p → M_F_value_Check v p) (f_F_value_each_14 : (List UInt8 × List YValue × Int × Int × YSchema) → Option (Bool)) (ih_F_value_each_14 : ∀ v p, f_F_value_each_14 v = some p → M_F_value_each_14 v p) (v : List UInt8 × List YValue × Int × Int × YSchema) (p : Bool) (hF : (
  if (decide (v.2.2.2.1 < (v.2.1.length : Int))) = true then (
    lidx v.2.1 v.2.2.2.1 >>= fun x2 =>
    f_F_value_Check (v.2.2.2.2, v.1, x2) >>= fun r3 =>
    if (!r3) = true then (
      some false
    ) else
    f_F_value_each_14 (v.1, v.2.1, v.2.2.1, (iadd .i64 v.2.2.2.1 v.2.2.1), v.2.2.2.2)
  ) else
  some true) = some p) : M_F_value_each_14 v p := by
  intro h
  unfold C79_14
  simp only [go_sem, reduceIte, Nat.reduceEqDiff, Nat.reduceAdd, Nat.reduceLeDiff, Nat.reduceLT, Nat.reduceSub, Nat.reduceBEq, ne_eq, not_false_eq_true]
  rcases iteE hF with ⟨hc1, hF⟩ | ⟨hc1, hF⟩
  · simp only [go_sem, reduceIte, Nat.reduceEqDiff, Nat.reduceAdd, Nat.reduceLeDiff, Nat.reduceLT, Nat.reduceSub, Nat.reduceBEq, ne_eq, not_false_eq_true, hc1]
    obtain ⟨x2, hx2, hF⟩ := bindE hF
    refine DoesO_m (lidx_map YValue.av hx2) ?_
    simp only [go_sem, reduceIte, Nat.reduceEqDiff, Nat.reduceAdd, Nat.reduceLeDiff, Nat.reduceLT, Nat.reduceSub, Nat.reduceBEq, ne_eq, not_false_eq_true, hc1]
    obtain ⟨r3, hr3, hF⟩ := bindE hF
    refine DoesR_m (callA_pure (by simp only [go_sem]) (fun H => ih_F_value_Check _ _ hr3 H)) ?_
    simp only [go_sem, reduceIte, Nat.reduceEqDiff, Nat.reduceAdd, Nat.reduceLeDiff, Nat.reduceLT, Nat.reduceSub, Nat.reduceBEq, ne_eq, not_false_eq_true, hc1]
    rcases iteE hF with ⟨hc4, hF⟩ | ⟨hc4, hF⟩
    · simp only [go_sem, reduceIte, Nat.reduceEqDiff, Nat.reduceAdd, Nat.reduceLeDiff, Nat.reduceLT, Nat.reduceSub, Nat.reduceBEq, ne_eq, not_false_eq_true, hc1, hc4]
      all_goals (cases hF; rfl)
    · simp only [go_sem, reduceIte, Nat.reduceEqDiff, Nat.reduceAdd, Nat.reduceLeDiff, Nat.reduceLT, Nat.reduceSub, Nat.reduceBEq, ne_eq, not_false_eq_true, hc1, hc4]
      exact ih_F_value_each_14 _ _ hF _
  · simp only [go_sem, reduceIte, Nat.reduceEqDiff, Nat.reduceAdd, Nat.reduceLeDiff, Nat.reduceLT, Nat.reduceSub, Nat.reduceBEq, ne_eq, not_false_eq_true, hc1]
    all_goals (cases hF; rfl)
theorem s_F_value_Check : (∀ v p, F_value_Check v = some p → M_F_value_Check v p) ∧ (∀ v p, F_value_Check_68 v = some p → M_F_value_Check_68 v p) ∧ (∀ v p, F_value_Check_59 v = some p → M_F_value_Check_59 v p) ∧ (∀ v p, F_value_Fields v = some p → M_F_value_Fields v p) ∧ (∀ v p, F_value_Fields_64 v = some p → M_F_value_Fields_64 v p) ∧ (∀ v p, F_value_Fields_23 v = some p → M_F_value_Fields_23 v p) ∧ (∀ v p, F_value_each v = some p → M_F_value_each v p) ∧ (∀ v p, F_value_each_14 v = some p → M_F_value_each_14 v p) := F_value_Check.mutual_partial_correctness M_F_value_Check M_F_value_Check_68 M_F_value_Check_59 M_F_value_Fields M_F_value_Fields_64 M_F_value_Fields_23 M_F_value_each M_F_value_each_14 (fun f0 i0 v p hF => st_F_value_Check f0 i0 v p hF) (fun f0 i0 v p hF => st_F_value_Check_68 f0 i0 v p hF) (fun f0 f1 i0 i1 v p hF => st_F_value_Check_59 f0 i0 f1 i1 v p hF) (fun f0 i0 v p hF => st_F_value_Fields f0 i0 v p hF) (fun f0 i0 v p hF => st_F_value_Fields_64 f0 i0 v p hF) (fun f0 f1 i0 i1 v p hF => st_F_value_Fields_23 f0 i0 f1 i1 v p hF) (fun f0 i0 v p hF => st_F_value_each f0 i0 v p hF) (fun f0 f1 i0 i1 v p hF => st_F_value_each_14 f0 i0 f1 i1 v p hF)
theorem t_F_value_Check : ∀ v p, F_value_Check v = some p → M_F_value_Check v p := s_F_value_Check.1
theorem t_F_value_Check_68 : ∀ v p, F_value_Check_68 v = some p → M_F_value_Check_68 v p := s_F_value_Check.2.1
theorem t_F_value_Check_59 : ∀ v p, F_value_Check_59 v = some p → M_F_value_Check_59 v p := s_F_value_Check.2.2.1
theorem t_F_value_Fields : ∀ v p, F_value_Fields v = some p → M_F_value_Fields v p := s_F_value_Check.2.2.2.1
theorem t_F_value_Fields_64 : ∀ v p, F_value_Fields_64 v = some p → M_F_value_Fields_64 v p := s_F_value_Check.2.2.2.2.1
theorem t_F_value_Fields_23 : ∀ v p, F_value_Fields_23 v = some p → M_F_value_Fields_23 v p := s_F_value_Check.2.2.2.2.2.1
theorem t_F_value_each : ∀ v p, F_value_each v = some p → M_F_value_each v p := s_F_value_Check.2.2.2.2.2.2.1
theorem t_F_value_each_14 : ∀ v p, F_value_each_14 v = some p → M_F_value_each_14 v p := s_F_value_Check.2.2.2.2.2.2.2
theorem call_F_value_Check {s : YSchema} {t : List UInt8} {v_ : YValue} {p : Bool} (hx : F_value_Check (s, t, v_) = some p) {h : Heap} : callA (Run T0 N_value_Check) [.agg [.sl false 3 (List.map YSStruct.av s.structs), .sl false 2 (List.map YSEnum.av s.enums), .sl false 2 (List.map YSService.av s.services)], .str t, .agg [.int .i64 v_.kind, .int .i64 v_.n_, .str v_.s, .sl false 5 (List.map YValue.av v_.l), .sl false 1 (List.map (AV.int .i64) v_.iDs)]] h = some ((.bool p), h) :=
  callA_pure (by simp only [go_sem]) (fun H => t_F_value_Check _ _ hx H)
theorem call_F_value_Fields {s : YSchema} {x : YSStruct} {v_ : YValue} {p : Bool} (hx : F_value_Fields (s, x, v_) = some p) {h : Heap} : callA (Run T0 N_value_Fields) [.agg [.sl false 3 (List.map YSStruct.av s.structs), .sl false 2 (List.map YSEnum.av s.enums), .sl false 2 (List.map YSService.av s.services)], .agg [.int .i64 x.kind, .str x.name, .sl false 10 (List.map YSField.av x.fields)], .agg [.int .i64 v_.kind, .int .i64 v_.n_, .str v_.s, .sl false 5 (List.map YValue.av v_.l), .sl false 1 (List.map (AV.int .i64) v_.iDs)]] h = some ((.bool p), h) :=
  callA_pure (by simp only [go_sem]) (fun H => t_F_value_Fields _ _ hx H)
theorem call_F_value_each {s : YSchema} {t : List UInt8} {l : List YValue} {from_ : Int} {step : Int} {p : Bool} (hx : F_value_each (s, t, l, from_, step) = some p) {h : Heap} : callA (Run T0 N_value_each) [.agg [.sl false 3 (List.map YSStruct.av s.structs), .sl false 2 (List.map YSEnum.av s.enums), .sl false 2 (List.map YSService.av s.services)], .str t, .sl false 5 (List.map YValue.av l), .int .i64 from_, .int .i64 step] h = some ((.bool p), h) :=
  callA_pure (by simp only [go_sem]) (fun H => t_F_value_each _ _ hx H)
end Go.Proofs.YtfihinodhhhllaaGreat
