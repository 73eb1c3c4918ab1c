/- The functions as plain functions, and that the runs come to their answers; printed by lift.py. -/
import Derived.Test.YtfihinodhhhllaaGreatIbH
import Derived.Test.YtfihinodhhhllaaGreatIbF2
import Derived.Test.YtfihinodhhhllaaGreatIbF3
set_option linter.unusedVariables false
set_option linter.unusedSimpArgs false
namespace Go.Proofs.YtfihinodhhhllaaGreat
open Go
set_option maxHeartbeats 4000000 in
mutual
def F_tcomp_writer_fields (v : Ytcomp_writer × YSStruct × YValue) : Option (Ytcomp_writer) :=
  F_tcomp_writer_fields_42 (0, v.2.2.iDs, (v.2.2.iDs.length : Int), 0, v.1, v.2.1, v.2.2)
  partial_fixpoint
def F_tcomp_writer_fields_42 (v : Int × List Int × Int × Int × Ytcomp_writer × YSStruct × YValue) : Option (Ytcomp_writer) :=
  if (decide (v.2.2.2.1 < v.2.2.1)) = true then (
    lidx v.2.1 v.2.2.2.1 >>= fun x2 =>
    F_value_Field v.2.2.2.2.2.1 x2 >>= fun r3 =>
    F_value_Kind v.2.2.2.2.1.s r3.1.type_ >>= fun r4 =>
    F_tcomp_Short r4 >>= fun r5 =>
    if (r4 == (2 : Int)) = true then (
      lidx v.2.2.2.2.2.2.l v.2.2.2.1 >>= fun x7 =>
      F_tcomp_writer_fields_31 (v.1, v.2.2.2.1, x2, r4, (isub .i64 2 x7.n_), v.2.1, v.2.2.1, v.2.2.2.1, v.2.2.2.2.1, v.2.2.2.2.2.1, v.2.2.2.2.2.2, r3.1)
    ) else
    F_tcomp_writer_fields_31 (v.1, v.2.2.2.1, x2, r4, r5, v.2.1, v.2.2.1, v.2.2.2.1, v.2.2.2.2.1, v.2.2.2.2.2.1, v.2.2.2.2.2.2, r3.1)
  ) else
  F_tcomp_writer_byte v.2.2.2.2.1 0 >>= fun r18 =>
  some r18
  partial_fixpoint
def F_tcomp_writer_fields_31 (v : Int × Int × Int × Int × Int × List Int × Int × Int × Ytcomp_writer × YSStruct × YValue × YSField) : Option (Ytcomp_writer) :=
  if (decide ((isub .i64 v.2.2.1 v.1) ≥ (1 : Int))) = true then (
    F_tcomp_writer_fields_20 (v.2.1, v.2.2.1, v.2.2.2.1, v.2.2.2.2.1, (isub .i64 v.2.2.1 v.1), v.2.2.2.2.2.1, v.2.2.2.2.2.2.1, v.2.2.2.2.2.2.2.1, (decide ((isub .i64 v.2.2.1 v.1) ≤ (15 : Int))), v.2.2.2.2.2.2.2.2.1, v.2.2.2.2.2.2.2.2.2.1, v.2.2.2.2.2.2.2.2.2.2.1, v.2.2.2.2.2.2.2.2.2.2.2)
  ) else
  F_tcomp_writer_fields_20 (v.2.1, v.2.2.1, v.2.2.2.1, v.2.2.2.2.1, (isub .i64 v.2.2.1 v.1), v.2.2.2.2.2.1, v.2.2.2.2.2.2.1, v.2.2.2.2.2.2.2.1, false, v.2.2.2.2.2.2.2.2.1, v.2.2.2.2.2.2.2.2.2.1, v.2.2.2.2.2.2.2.2.2.2.1, v.2.2.2.2.2.2.2.2.2.2.2)
  partial_fixpoint
def F_tcomp_writer_fields_20 (v : Int × Int × Int × Int × Int × List Int × Int × Int × Bool × Ytcomp_writer × YSStruct × YValue × YSField) : Option (Ytcomp_writer) :=
  if v.2.2.2.2.2.2.2.2.1 = true then (
    ishl .i64 v.2.2.2.2.1 4 >>= fun x10 =>
    F_tcomp_writer_byte v.2.2.2.2.2.2.2.2.2.1 (ior .i64 x10 v.2.2.2.1) >>= fun r11 =>
    F_tcomp_writer_fields_29 (v.1, v.2.1, v.2.2.1, v.2.2.2.2.2.1, v.2.2.2.2.2.2.1, v.2.2.2.2.2.2.2.1, r11, v.2.2.2.2.2.2.2.2.2.2.1, v.2.2.2.2.2.2.2.2.2.2.2.1, v.2.2.2.2.2.2.2.2.2.2.2.2)
  ) else
  F_tcomp_writer_byte v.2.2.2.2.2.2.2.2.2.1 v.2.2.2.1 >>= fun r15 =>
  F_zig_Zig32 (IntKind.i32.wrap v.2.1) >>= fun r16 =>
  F_tcomp_writer_num r15 (IntKind.u64.wrap r16) >>= fun r17 =>
  F_tcomp_writer_fields_29 (v.1, v.2.1, v.2.2.1, v.2.2.2.2.2.1, v.2.2.2.2.2.2.1, v.2.2.2.2.2.2.2.1, r17, v.2.2.2.2.2.2.2.2.2.2.1, v.2.2.2.2.2.2.2.2.2.2.2.1, v.2.2.2.2.2.2.2.2.2.2.2.2)
  partial_fixpoint
def F_tcomp_writer_fields_29 (v : Int × Int × Int × List Int × Int × Int × Ytcomp_writer × YSStruct × YValue × YSField) : Option (Ytcomp_writer) :=
  if (v.2.2.1 != (2 : Int)) = true then (
    lidx v.2.2.2.2.2.2.2.2.1.l v.1 >>= fun x13 =>
    F_tcomp_writer_value (v.2.2.2.2.2.2.1, v.2.2.2.2.2.2.2.2.2.type_, x13) >>= fun r14 =>
    F_tcomp_writer_fields_42 (v.2.1, v.2.2.2.1, v.2.2.2.2.1, (iadd .i64 v.2.2.2.2.2.1 1), r14, v.2.2.2.2.2.2.2.1, v.2.2.2.2.2.2.2.2.1)
  ) else
  F_tcomp_writer_fields_42 (v.2.1, v.2.2.2.1, v.2.2.2.2.1, (iadd .i64 v.2.2.2.2.2.1 1), v.2.2.2.2.2.2.1, v.2.2.2.2.2.2.2.1, v.2.2.2.2.2.2.2.2.1)
  partial_fixpoint
def F_tcomp_writer_value (v : Ytcomp_writer × List UInt8 × YValue) : Option (Ytcomp_writer) :=
  F_kind_Head v.2.1 >>= fun r1 =>
  F_value_Kind v.1.s v.2.1 >>= fun r2 =>
  if (r2 == (2 : Int)) = true then (
    F_tcomp_writer_byte v.1 (isub .i64 2 v.2.2.n_) >>= fun r4 =>
    some r4
  ) else
  if (r2 == (3 : Int)) = true then (
    F_tcomp_writer_byte v.1 v.2.2.n_ >>= fun r6 =>
    some r6
  ) else
  if (r2 == (6 : Int)) = true then (
    F_tcomp_writer_value_64 (r1.2.1, r1.2.2.1, r1.2.2.2.1, r2, true, v.1, v.2.2)
  ) else
  if (r2 == (8 : Int)) = true then (
    F_tcomp_writer_value_64 (r1.2.1, r1.2.2.1, r1.2.2.2.1, r2, true, v.1, v.2.2)
  ) else
  F_tcomp_writer_value_64 (r1.2.1, r1.2.2.1, r1.2.2.2.1, r2, (r2 == (17 : Int)), v.1, v.2.2)
  partial_fixpoint
def F_tcomp_writer_value_64 (v : List UInt8 × List UInt8 × List UInt8 × Int × Bool × Ytcomp_writer × YValue) : Option (Ytcomp_writer) :=
  if v.2.2.2.2.1 = true then (
    F_zig_Zig32 (IntKind.i32.wrap v.2.2.2.2.2.2.n_) >>= fun r9 =>
    F_tcomp_writer_num v.2.2.2.2.2.1 (IntKind.u64.wrap r9) >>= fun r10 =>
    some r10
  ) else
  if (v.2.2.2.1 == (10 : Int)) = true then (
    F_zig_Zig64 v.2.2.2.2.2.2.n_ >>= fun r12 =>
    F_tcomp_writer_num v.2.2.2.2.2.1 r12 >>= fun r13 =>
    some r13
  ) else
  if (v.2.2.2.1 == (4 : Int)) = true then (
    F_tcomp_writer_value_30 (0, v.2.2.2.2.2.1, v.2.2.2.2.2.2)
  ) else
  if (v.2.2.2.1 == (11 : Int)) = true then (
    F_tcomp_writer_value_57 (v.1, v.2.1, v.2.2.1, v.2.2.2.1, true, v.2.2.2.2.2.1, v.2.2.2.2.2.2)
  ) else
  F_tcomp_writer_value_57 (v.1, v.2.1, v.2.2.1, v.2.2.2.1, (v.2.2.2.1 == (16 : Int)), v.2.2.2.2.2.1, v.2.2.2.2.2.2)
  partial_fixpoint
def F_tcomp_writer_value_57 (v : List UInt8 × List UInt8 × List UInt8 × Int × Bool × Ytcomp_writer × YValue) : Option (Ytcomp_writer) :=
  if v.2.2.2.2.1 = true then (
    F_tcomp_writer_num v.2.2.2.2.2.1 (IntKind.u64.wrap (v.2.2.2.2.2.2.s.length : Int)) >>= fun r20 =>
    appl 1 r20.b_ v.2.2.2.2.2.2.s >>= fun x21 =>
    some (⟨r20.s, x21⟩ : Ytcomp_writer)
  ) else
  if (v.2.2.2.1 == (15 : Int)) = true then (
    F_tcomp_writer_value_54 (v.1, v.2.1, v.2.2.1, v.2.2.2.1, true, v.2.2.2.2.2.1, v.2.2.2.2.2.2)
  ) else
  F_tcomp_writer_value_54 (v.1, v.2.1, v.2.2.1, v.2.2.2.1, (v.2.2.2.1 == (14 : Int)), v.2.2.2.2.2.1, v.2.2.2.2.2.2)
  partial_fixpoint
def F_tcomp_writer_value_54 (v : List UInt8 × List UInt8 × List UInt8 × Int × Bool × Ytcomp_writer × YValue) : Option (Ytcomp_writer) :=
  if v.2.2.2.2.1 = true then (
    F_tcomp_writer_list (v.2.2.2.2.2.1, v.2.1, v.2.2.2.2.2.2.l) >>= fun r24 =>
    some r24
  ) else
  if (v.2.2.2.1 == (13 : Int)) = true then (
    F_tcomp_writer_pairs (v.2.2.2.2.2.1, v.2.1, v.2.2.1, v.2.2.2.2.2.2.l) >>= fun r26 =>
    some r26
  ) else
  F_value_Struct v.2.2.2.2.2.1.s v.1 >>= fun r27 =>
  F_tcomp_writer_fields (v.2.2.2.2.2.1, r27.1, v.2.2.2.2.2.2) >>= fun r28 =>
  some r28
  partial_fixpoint
def F_tcomp_writer_pairs (v : Ytcomp_writer × List UInt8 × List UInt8 × List YValue) : Option (Ytcomp_writer) :=
  iquo .i64 (v.2.2.2.length : Int) 2 >>= fun x1 =>
  F_tcomp_writer_num v.1 (IntKind.u64.wrap x1) >>= fun r2 =>
  if ((v.2.2.2.length : Int) == (0 : Int)) = true then (
    some r2
  ) else
  F_tcomp_writer_short r2 v.2.1 >>= fun r4 =>
  ishl .i64 r4 4 >>= fun x5 =>
  F_tcomp_writer_short r2 v.2.2.1 >>= fun r6 =>
  F_tcomp_writer_byte r2 (ior .i64 x5 r6) >>= fun r7 =>
  F_tcomp_writer_pairs_16 (v.2.1, v.2.2.1, v.2.2.2, (v.2.2.2.length : Int), 0, r7)
  partial_fixpoint
def F_tcomp_writer_pairs_16 (v : List UInt8 × List UInt8 × List YValue × Int × Int × Ytcomp_writer) : Option (Ytcomp_writer) :=
  if (decide (v.2.2.2.2.1 < v.2.2.2.1)) = true then (
    lidx v.2.2.1 v.2.2.2.2.1 >>= fun x9 =>
    irem .i64 v.2.2.2.2.1 2 >>= fun x10 =>
    lidx [v.1, v.2.1] x10 >>= fun x11 =>
    F_tcomp_writer_value (v.2.2.2.2.2, x11, x9) >>= fun r12 =>
    F_tcomp_writer_pairs_16 (v.1, v.2.1, v.2.2.1, v.2.2.2.1, (iadd .i64 v.2.2.2.2.1 1), r12)
  ) else
  some v.2.2.2.2.2
  partial_fixpoint
def F_tcomp_writer_list (v : Ytcomp_writer × List UInt8 × List YValue) : Option (Ytcomp_writer) :=
  if (decide ((v.2.2.length : Int) < (15 : Int))) = true then (
    ishl .i64 (v.2.2.length : Int) 4 >>= fun x2 =>
    F_tcomp_writer_short v.1 v.2.1 >>= fun r3 =>
    F_tcomp_writer_byte v.1 (ior .i64 x2 r3) >>= fun r4 =>
    F_tcomp_writer_list_22 (v.2.1, v.2.2, r4)
  ) else
  F_tcomp_writer_short v.1 v.2.1 >>= fun r8 =>
  F_tcomp_writer_byte v.1 (ior .i64 240 r8) >>= fun r9 =>
  F_tcomp_writer_num r9 (IntKind.u64.wrap (v.2.2.length : Int)) >>= fun r10 =>
  F_tcomp_writer_list_22 (v.2.1, v.2.2, r10)
  partial_fixpoint
def F_tcomp_writer_list_22 (v : List UInt8 × List YValue × Ytcomp_writer) : Option (Ytcomp_writer) :=
  F_tcomp_writer_list_18 (v.1, v.2.1, (v.2.1.length : Int), 0, v.2.2)
  partial_fixpoint
def F_tcomp_writer_list_18 (v : List UInt8 × List YValue × Int × Int × Ytcomp_writer) : Option (Ytcomp_writer) :=
  if (decide (v.2.2.2.1 < v.2.2.1)) = true then (
    lidx v.2.1 v.2.2.2.1 >>= fun x6 =>
    F_tcomp_writer_value (v.2.2.2.2, v.1, x6) >>= fun r7 =>
    F_tcomp_writer_list_18 (v.1, v.2.1, v.2.2.1, (iadd .i64 v.2.2.2.1 1), r7)
  ) else
  some v.2.2.2.2
  partial_fixpoint
end
set_option maxHeartbeats 4000000 in
theorem F_tcomp_writer_fields_eq (w : Ytcomp_writer) (x : YSStruct) (v_ : YValue) : F_tcomp_writer_fields (w, x, v_) =
  F_tcomp_writer_fields_42 (0, v_.iDs, (v_.iDs.length : Int), 0, w, x, v_) := F_tcomp_writer_fields.eq_1 (w, x, v_)
set_option maxHeartbeats 4000000 in
theorem F_tcomp_writer_fields_42_eq (was : Int) (t15 : List Int) (t16 : Int) (t17 : Int) (w : Ytcomp_writer) (bx0 : YSStruct) (bx1 : YValue) : F_tcomp_writer_fields_42 (was, t15, t16, t17, w, bx0, bx1) =
  if (decide (t17 < t16)) = true then (
    lidx t15 t17 >>= fun x2 =>
    F_value_Field bx0 x2 >>= fun r3 =>
    F_value_Kind w.s r3.1.type_ >>= fun r4 =>
    F_tcomp_Short r4 >>= fun r5 =>
    if (r4 == (2 : Int)) = true then (
      lidx bx1.l t17 >>= fun x7 =>
      F_tcomp_writer_fields_31 (was, t17, x2, r4, (isub .i64 2 x7.n_), t15, t16, t17, w, bx0, bx1, r3.1)
    ) else
    F_tcomp_writer_fields_31 (was, t17, x2, r4, r5, t15, t16, t17, w, bx0, bx1, r3.1)
  ) else
  F_tcomp_writer_byte w 0 >>= fun r18 =>
  some r18 := F_tcomp_writer_fields_42.eq_1 (was, t15, t16, t17, w, bx0, bx1)
set_option maxHeartbeats 4000000 in
theorem F_tcomp_writer_fields_31_eq (was : Int) (i : Int) (id : Int) (k : Int) (short : Int) (t15 : List Int) (t16 : Int) (t17 : Int) (w : Ytcomp_writer) (bx0 : YSStruct) (bx1 : YValue) (bx2 : YSField) : F_tcomp_writer_fields_31 (was, i, id, k, short, t15, t16, t17, w, bx0, bx1, bx2) =
  if (decide ((isub .i64 id was) ≥ (1 : Int))) = true then (
    F_tcomp_writer_fields_20 (i, id, k, short, (isub .i64 id was), t15, t16, t17, (decide ((isub .i64 id was) ≤ (15 : Int))), w, bx0, bx1, bx2)
  ) else
  F_tcomp_writer_fields_20 (i, id, k, short, (isub .i64 id was), t15, t16, t17, false, w, bx0, bx1, bx2) := F_tcomp_writer_fields_31.eq_1 (was, i, id, k, short, t15, t16, t17, w, bx0, bx1, bx2)
set_option maxHeartbeats 4000000 in
theorem F_tcomp_writer_fields_20_eq (i : Int) (id : Int) (k : Int) (short : Int) (d : Int) (t15 : List Int) (t16 : Int) (t17 : Int) (t54 : Bool) (w : Ytcomp_writer) (bx0 : YSStruct) (bx1 : YValue) (bx2 : YSField) : F_tcomp_writer_fields_20 (i, id, k, short, d, t15, t16, t17, t54, w, bx0, bx1, bx2) =
  if t54 = true then (
    ishl .i64 d 4 >>= fun x10 =>
    F_tcomp_writer_byte w (ior .i64 x10 short) >>= fun r11 =>
    F_tcomp_writer_fields_29 (i, id, k, t15, t16, t17, r11, bx0, bx1, bx2)
  ) else
  F_tcomp_writer_byte w short >>= fun r15 =>
  F_zig_Zig32 (IntKind.i32.wrap id) >>= fun r16 =>
  F_tcomp_writer_num r15 (IntKind.u64.wrap r16) >>= fun r17 =>
  F_tcomp_writer_fields_29 (i, id, k, t15, t16, t17, r17, bx0, bx1, bx2) := F_tcomp_writer_fields_20.eq_1 (i, id, k, short, d, t15, t16, t17, t54, w, bx0, bx1, bx2)
set_option maxHeartbeats 4000000 in
theorem F_tcomp_writer_fields_29_eq (i : Int) (id : Int) (k : Int) (t15 : List Int) (t16 : Int) (t17 : Int) (w : Ytcomp_writer) (bx0 : YSStruct) (bx1 : YValue) (bx2 : YSField) : F_tcomp_writer_fields_29 (i, id, k, t15, t16, t17, w, bx0, bx1, bx2) =
  if (k != (2 : Int)) = true then (
    lidx bx1.l i >>= fun x13 =>
    F_tcomp_writer_value (w, bx2.type_, x13) >>= fun r14 =>
    F_tcomp_writer_fields_42 (id, t15, t16, (iadd .i64 t17 1), r14, bx0, bx1)
  ) else
  F_tcomp_writer_fields_42 (id, t15, t16, (iadd .i64 t17 1), w, bx0, bx1) := F_tcomp_writer_fields_29.eq_1 (i, id, k, t15, t16, t17, w, bx0, bx1, bx2)
set_option maxHeartbeats 4000000 in
theorem F_tcomp_writer_value_eq (w : Ytcomp_writer) (t : List UInt8) (v_ : YValue) : F_tcomp_writer_value (w, t, v_) =
  F_kind_Head t >>= fun r1 =>
  F_value_Kind w.s t >>= fun r2 =>
  if (r2 == (2 : Int)) = true then (
    F_tcomp_writer_byte w (isub .i64 2 v_.n_) >>= fun r4 =>
    some r4
  ) else
  if (r2 == (3 : Int)) = true then (
    F_tcomp_writer_byte w v_.n_ >>= fun r6 =>
    some r6
  ) else
  if (r2 == (6 : Int)) = true then (
    F_tcomp_writer_value_64 (r1.2.1, r1.2.2.1, r1.2.2.2.1, r2, true, w, v_)
  ) else
  if (r2 == (8 : Int)) = true then (
    F_tcomp_writer_value_64 (r1.2.1, r1.2.2.1, r1.2.2.2.1, r2, true, w, v_)
  ) else
  F_tcomp_writer_value_64 (r1.2.1, r1.2.2.1, r1.2.2.2.1, r2, (r2 == (17 : Int)), w, v_) := F_tcomp_writer_value.eq_1 (w, t, v_)
set_option maxHeartbeats 4000000 in
theorem F_tcomp_writer_value_64_eq (name : List UInt8) (a : List UInt8) (b_ : List UInt8) (t29 : Int) (t56 : Bool) (w : Ytcomp_writer) (bx0 : YValue) : F_tcomp_writer_value_64 (name, a, b_, t29, t56, w, bx0) =
  if t56 = true then (
    F_zig_Zig32 (IntKind.i32.wrap bx0.n_) >>= fun r9 =>
    F_tcomp_writer_num w (IntKind.u64.wrap r9) >>= fun r10 =>
    some r10
  ) else
  if (t29 == (10 : Int)) = true then (
    F_zig_Zig64 bx0.n_ >>= fun r12 =>
    F_tcomp_writer_num w r12 >>= fun r13 =>
    some r13
  ) else
  if (t29 == (4 : Int)) = true then (
    F_tcomp_writer_value_30 (0, w, bx0)
  ) else
  if (t29 == (11 : Int)) = true then (
    F_tcomp_writer_value_57 (name, a, b_, t29, true, w, bx0)
  ) else
  F_tcomp_writer_value_57 (name, a, b_, t29, (t29 == (16 : Int)), w, bx0) := F_tcomp_writer_value_64.eq_1 (name, a, b_, t29, t56, w, bx0)
set_option maxHeartbeats 4000000 in
theorem F_tcomp_writer_value_57_eq (name : List UInt8) (a : List UInt8) (b_ : List UInt8) (t29 : Int) (t90 : Bool) (w : Ytcomp_writer) (bx0 : YValue) : F_tcomp_writer_value_57 (name, a, b_, t29, t90, w, bx0) =
  if t90 = true then (
    F_tcomp_writer_num w (IntKind.u64.wrap (bx0.s.length : Int)) >>= fun r20 =>
    appl 1 r20.b_ bx0.s >>= fun x21 =>
    some (⟨r20.s, x21⟩ : Ytcomp_writer)
  ) else
  if (t29 == (15 : Int)) = true then (
    F_tcomp_writer_value_54 (name, a, b_, t29, true, w, bx0)
  ) else
  F_tcomp_writer_value_54 (name, a, b_, t29, (t29 == (14 : Int)), w, bx0) := F_tcomp_writer_value_57.eq_1 (name, a, b_, t29, t90, w, bx0)
set_option maxHeartbeats 4000000 in
theorem F_tcomp_writer_value_54_eq (name : List UInt8) (a : List UInt8) (b_ : List UInt8) (t29 : Int) (t109 : Bool) (w : Ytcomp_writer) (bx0 : YValue) : F_tcomp_writer_value_54 (name, a, b_, t29, t109, w, bx0) =
  if t109 = true then (
    F_tcomp_writer_list (w, a, bx0.l) >>= fun r24 =>
    some r24
  ) else
  if (t29 == (13 : Int)) = true then (
    F_tcomp_writer_pairs (w, a, b_, bx0.l) >>= fun r26 =>
    some r26
  ) else
  F_value_Struct w.s name >>= fun r27 =>
  F_tcomp_writer_fields (w, r27.1, bx0) >>= fun r28 =>
  some r28 := F_tcomp_writer_value_54.eq_1 (name, a, b_, t29, t109, w, bx0)
set_option maxHeartbeats 4000000 in
theorem F_tcomp_writer_pairs_eq (w : Ytcomp_writer) (a : List UInt8) (b_ : List UInt8) (l : List YValue) : F_tcomp_writer_pairs (w, a, b_, l) =
  iquo .i64 (l.length : Int) 2 >>= fun x1 =>
  F_tcomp_writer_num w (IntKind.u64.wrap x1) >>= fun r2 =>
  if ((l.length : Int) == (0 : Int)) = true then (
    some r2
  ) else
  F_tcomp_writer_short r2 a >>= fun r4 =>
  ishl .i64 r4 4 >>= fun x5 =>
  F_tcomp_writer_short r2 b_ >>= fun r6 =>
  F_tcomp_writer_byte r2 (ior .i64 x5 r6) >>= fun r7 =>
  F_tcomp_writer_pairs_16 (a, b_, l, (l.length : Int), 0, r7) := F_tcomp_writer_pairs.eq_1 (w, a, b_, l)
set_option maxHeartbeats 4000000 in
theorem F_tcomp_writer_pairs_16_eq (a : List UInt8) (b_ : List UInt8) (t29 : List YValue) (t30 : Int) (t31 : Int) (w : Ytcomp_writer) : F_tcomp_writer_pairs_16 (a, b_, t29, t30, t31, w) =
  if (decide (t31 < t30)) = true then (
    lidx t29 t31 >>= fun x9 =>
    irem .i64 t31 2 >>= fun x10 =>
    lidx [a, b_] x10 >>= fun x11 =>
    F_tcomp_writer_value (w, x11, x9) >>= fun r12 =>
    F_tcomp_writer_pairs_16 (a, b_, t29, t30, (iadd .i64 t31 1), r12)
  ) else
  some w := F_tcomp_writer_pairs_16.eq_1 (a, b_, t29, t30, t31, w)
set_option maxHeartbeats 4000000 in
theorem F_tcomp_writer_list_eq (w : Ytcomp_writer) (t : List UInt8) (l : List YValue) : F_tcomp_writer_list (w, t, l) =
  if (decide ((l.length : Int) < (15 : Int))) = true then (
    ishl .i64 (l.length : Int) 4 >>= fun x2 =>
    F_tcomp_writer_short w t >>= fun r3 =>
    F_tcomp_writer_byte w (ior .i64 x2 r3) >>= fun r4 =>
    F_tcomp_writer_list_22 (t, l, r4)
  ) else
  F_tcomp_writer_short w t >>= fun r8 =>
  F_tcomp_writer_byte w (ior .i64 240 r8) >>= fun r9 =>
  F_tcomp_writer_num r9 (IntKind.u64.wrap (l.length : Int)) >>= fun r10 =>
  F_tcomp_writer_list_22 (t, l, r10) := F_tcomp_writer_list.eq_1 (w, t, l)
set_option maxHeartbeats 4000000 in
theorem F_tcomp_writer_list_22_eq (t : List UInt8) (l : List YValue) (w : Ytcomp_writer) : F_tcomp_writer_list_22 (t, l, w) =
  F_tcomp_writer_list_18 (t, l, (l.length : Int), 0, w) := F_tcomp_writer_list_22.eq_1 (t, l, w)
set_option maxHeartbeats 4000000 in
theorem F_tcomp_writer_list_18_eq (t : List UInt8) (t31 : List YValue) (t32 : Int) (t33 : Int) (w : Ytcomp_writer) : F_tcomp_writer_list_18 (t, t31, t32, t33, w) =
  if (decide (t33 < t32)) = true then (
    lidx t31 t33 >>= fun x6 =>
    F_tcomp_writer_value (w, t, x6) >>= fun r7 =>
    F_tcomp_writer_list_18 (t, t31, t32, (iadd .i64 t33 1), r7)
  ) else
  some w := F_tcomp_writer_list_18.eq_1 (t, t31, t32, t33, w)
def M_F_tcomp_writer_fields (v : Ytcomp_writer × YSStruct × YValue) (p : Ytcomp_writer) : Prop := ∀ (h : Heap) (b : Nat) (rest : List AV) (o0 : Bool) (o1 : Bool) (o2 : Bool) (hlt : b < h.length), Run T0 N_tcomp_writer_fields [.ptr b 0, .agg [.int .i64 v.2.1.kind, .str v.2.1.name, .sl false 10 (List.map YSField.av v.2.1.fields)], .agg [.int .i64 v.2.2.kind, .int .i64 v.2.2.n_, .str v.2.2.s, .sl false 5 (List.map YValue.av v.2.2.l), .sl false 1 (List.map (AV.int .i64) v.2.2.iDs)]] (h.set b (.row ((.sl o0 3 (List.map YSStruct.av v.1.s.structs)) :: (.sl o1 2 (List.map YSEnum.av v.1.s.enums)) :: (.sl o2 2 (List.map YSService.av v.1.s.services)) :: (.sl true 1 (List.map e8 v.1.b_)) :: rest))) = some ((.tup []), h.set b (.row ((.sl o0 3 (List.map YSStruct.av p.s.structs)) :: (.sl o1 2 (List.map YSEnum.av p.s.enums)) :: (.sl o2 2 (List.map YSService.av p.s.services)) :: (.sl true 1 (List.map e8 p.b_)) :: rest)))
def M_F_tcomp_writer_fields_42 (v : Int × List Int × Int × Int × Ytcomp_writer × YSStruct × YValue) (p : Ytcomp_writer) : Prop := ∀ (h : Heap) (b : Nat) (rest : List AV) (o0 : Bool) (o1 : Bool) (o2 : Bool) (hlt : b < h.length), Does T0 C99_42 (aft T0 (EndQ false [] h.length (.tup []) (h.set b (.row ((.sl o0 3 (List.map YSStruct.av p.s.structs)) :: (.sl o1 2 (List.map YSEnum.av p.s.enums)) :: (.sl o2 2 (List.map YSService.av p.s.services)) :: (.sl true 1 (List.map e8 p.b_)) :: rest)))) [.gc (h.length + 2), .lp C99_43, .blk 0, .seq C99_47]) .mk .mk [(0, .ptr b 0), (4, .ptr h.length 0), (5, .ptr (h.length + 1) 0), (6, .int .i64 v.1), (15, .sl false 1 (List.map (AV.int .i64) v.2.1)), (16, .int .i64 v.2.2.1), (17, .int .i64 v.2.2.2.1)] ((h.set b (.row ((.sl o0 3 (List.map YSStruct.av v.2.2.2.2.1.s.structs)) :: (.sl o1 2 (List.map YSEnum.av v.2.2.2.2.1.s.enums)) :: (.sl o2 2 (List.map YSService.av v.2.2.2.2.1.s.services)) :: (.sl true 1 (List.map e8 v.2.2.2.2.1.b_)) :: rest))) ++ [.row [.int .i64 v.2.2.2.2.2.1.kind, .str v.2.2.2.2.2.1.name, .sl false 10 (List.map YSField.av v.2.2.2.2.2.1.fields)], .row [.int .i64 v.2.2.2.2.2.2.kind, .int .i64 v.2.2.2.2.2.2.n_, .str v.2.2.2.2.2.2.s, .sl false 5 (List.map YValue.av v.2.2.2.2.2.2.l), .sl false 1 (List.map (AV.int .i64) v.2.2.2.2.2.2.iDs)]])
def M_F_tcomp_writer_fields_31 (v : Int × Int × Int × Int × Int × List Int × Int × Int × Ytcomp_writer × YSStruct × YValue × YSField) (p : Ytcomp_writer) : Prop := ∀ (h : Heap) (b : Nat) (rest : List AV) (o0 : Bool) (o1 : Bool) (o2 : Bool) (hlt : b < h.length), Does T0 C99_31 (aft T0 (EndQ false [] h.length (.tup []) (h.set b (.row ((.sl o0 3 (List.map YSStruct.av p.s.structs)) :: (.sl o1 2 (List.map YSEnum.av p.s.enums)) :: (.sl o2 2 (List.map YSService.av p.s.services)) :: (.sl true 1 (List.map e8 p.b_)) :: rest)))) [.blk 1, .seq C99_39, .gc (h.length + 2), .lp C99_43, .blk 0, .seq C99_47]) .mk .mk [(0, .ptr b 0), (4, .ptr h.length 0), (5, .ptr (h.length + 1) 0), (6, .int .i64 v.1), (7, .int .i64 v.2.1), (8, .int .i64 v.2.2.1), (9, .ptr (h.length + 2) 0), (11, .int .i64 v.2.2.2.1), (12, .int .i64 v.2.2.2.2.1), (15, .sl false 1 (List.map (AV.int .i64) v.2.2.2.2.2.1)), (16, .int .i64 v.2.2.2.2.2.2.1), (17, .int .i64 v.2.2.2.2.2.2.2.1)] ((h.set b (.row ((.sl o0 3 (List.map YSStruct.av v.2.2.2.2.2.2.2.2.1.s.structs)) :: (.sl o1 2 (List.map YSEnum.av v.2.2.2.2.2.2.2.2.1.s.enums)) :: (.sl o2 2 (List.map YSService.av v.2.2.2.2.2.2.2.2.1.s.services)) :: (.sl true 1 (List.map e8 v.2.2.2.2.2.2.2.2.1.b_)) :: rest))) ++ [.row [.int .i64 v.2.2.2.2.2.2.2.2.2.1.kind, .str v.2.2.2.2.2.2.2.2.2.1.name, .sl false 10 (List.map YSField.av v.2.2.2.2.2.2.2.2.2.1.fields)], .row [.int .i64 v.2.2.2.2.2.2.2.2.2.2.1.kind, .int .i64 v.2.2.2.2.2.2.2.2.2.2.1.n_, .str v.2.2.2.2.2.2.2.2.2.2.1.s, .sl false 5 (List.map YValue.av v.2.2.2.2.2.2.2.2.2.2.1.l), .sl false 1 (List.map (AV.int .i64) v.2.2.2.2.2.2.2.2.2.2.1.iDs)], .row [.int .i64 v.2.2.2.2.2.2.2.2.2.2.2.iD, .int .i64 v.2.2.2.2.2.2.2.2.2.2.2.req, .str v.2.2.2.2.2.2.2.2.2.2.2.type_, .str v.2.2.2.2.2.2.2.2.2.2.2.name, .bool v.2.2.2.2.2.2.2.2.2.2.2.hasInit, .int .i64 v.2.2.2.2.2.2.2.2.2.2.2.init.kind, .int .i64 v.2.2.2.2.2.2.2.2.2.2.2.init.n_, .str v.2.2.2.2.2.2.2.2.2.2.2.init.s, .sl false 5 (List.map YValue.av v.2.2.2.2.2.2.2.2.2.2.2.init.l), .sl false 1 (List.map (AV.int .i64) v.2.2.2.2.2.2.2.2.2.2.2.init.iDs)]])
def M_F_tcomp_writer_fields_20 (v : Int × Int × Int × Int × Int × List Int × Int × Int × Bool × Ytcomp_writer × YSStruct × YValue × YSField) (p : Ytcomp_writer) : Prop := ∀ (h : Heap) (b : Nat) (rest : List AV) (o0 : Bool) (o1 : Bool) (o2 : Bool) (hlt : b < h.length), Does T0 C99_20 (aft T0 (EndQ false [] h.length (.tup []) (h.set b (.row ((.sl o0 3 (List.map YSStruct.av p.s.structs)) :: (.sl o1 2 (List.map YSEnum.av p.s.enums)) :: (.sl o2 2 (List.map YSService.av p.s.services)) :: (.sl true 1 (List.map e8 p.b_)) :: rest)))) [.seq C99_30, .blk 1, .seq C99_39, .gc (h.length + 2), .lp C99_43, .blk 0, .seq C99_47]) .mk .mk [(0, .ptr b 0), (4, .ptr h.length 0), (5, .ptr (h.length + 1) 0), (7, .int .i64 v.1), (8, .int .i64 v.2.1), (9, .ptr (h.length + 2) 0), (11, .int .i64 v.2.2.1), (12, .int .i64 v.2.2.2.1), (13, .int .i64 v.2.2.2.2.1), (15, .sl false 1 (List.map (AV.int .i64) v.2.2.2.2.2.1)), (16, .int .i64 v.2.2.2.2.2.2.1), (17, .int .i64 v.2.2.2.2.2.2.2.1), (54, .bool v.2.2.2.2.2.2.2.2.1)] ((h.set b (.row ((.sl o0 3 (List.map YSStruct.av v.2.2.2.2.2.2.2.2.2.1.s.structs)) :: (.sl o1 2 (List.map YSEnum.av v.2.2.2.2.2.2.2.2.2.1.s.enums)) :: (.sl o2 2 (List.map YSService.av v.2.2.2.2.2.2.2.2.2.1.s.services)) :: (.sl true 1 (List.map e8 v.2.2.2.2.2.2.2.2.2.1.b_)) :: rest))) ++ [.row [.int .i64 v.2.2.2.2.2.2.2.2.2.2.1.kind, .str v.2.2.2.2.2.2.2.2.2.2.1.name, .sl false 10 (List.map YSField.av v.2.2.2.2.2.2.2.2.2.2.1.fields)], .row [.int .i64 v.2.2.2.2.2.2.2.2.2.2.2.1.kind, .int .i64 v.2.2.2.2.2.2.2.2.2.2.2.1.n_, .str v.2.2.2.2.2.2.2.2.2.2.2.1.s, .sl false 5 (List.map YValue.av v.2.2.2.2.2.2.2.2.2.2.2.1.l), .sl false 1 (List.map (AV.int .i64) v.2.2.2.2.2.2.2.2.2.2.2.1.iDs)], .row [.int .i64 v.2.2.2.2.2.2.2.2.2.2.2.2.iD, .int .i64 v.2.2.2.2.2.2.2.2.2.2.2.2.req, .str v.2.2.2.2.2.2.2.2.2.2.2.2.type_, .str v.2.2.2.2.2.2.2.2.2.2.2.2.name, .bool v.2.2.2.2.2.2.2.2.2.2.2.2.hasInit, .int .i64 v.2.2.2.2.2.2.2.2.2.2.2.2.init.kind, .int .i64 v.2.2.2.2.2.2.2.2.2.2.2.2.init.n_, .str v.2.2.2.2.2.2.2.2.2.2.2.2.init.s, .sl false 5 (List.map YValue.av v.2.2.2.2.2.2.2.2.2.2.2.2.init.l), .sl false 1 (List.map (AV.int .i64) v.2.2.2.2.2.2.2.2.2.2.2.2.init.iDs)]])
def M_F_tcomp_writer_fields_29 (v : Int × Int × Int × List Int × Int × Int × Ytcomp_writer × YSStruct × YValue × YSField) (p : Ytcomp_writer) : Prop := ∀ (h : Heap) (b : Nat) (rest : List AV) (o0 : Bool) (o1 : Bool) (o2 : Bool) (hlt : b < h.length), Does T0 C99_29 (aft T0 (EndQ false [] h.length (.tup []) (h.set b (.row ((.sl o0 3 (List.map YSStruct.av p.s.structs)) :: (.sl o1 2 (List.map YSEnum.av p.s.enums)) :: (.sl o2 2 (List.map YSService.av p.s.services)) :: (.sl true 1 (List.map e8 p.b_)) :: rest)))) [.blk 1, .seq C99_39, .gc (h.length + 2), .lp C99_43, .blk 0, .seq C99_47]) .mk .mk [(0, .ptr b 0), (4, .ptr h.length 0), (5, .ptr (h.length + 1) 0), (7, .int .i64 v.1), (8, .int .i64 v.2.1), (9, .ptr (h.length + 2) 0), (11, .int .i64 v.2.2.1), (15, .sl false 1 (List.map (AV.int .i64) v.2.2.2.1)), (16, .int .i64 v.2.2.2.2.1), (17, .int .i64 v.2.2.2.2.2.1)] ((h.set b (.row ((.sl o0 3 (List.map YSStruct.av v.2.2.2.2.2.2.1.s.structs)) :: (.sl o1 2 (List.map YSEnum.av v.2.2.2.2.2.2.1.s.enums)) :: (.sl o2 2 (List.map YSService.av v.2.2.2.2.2.2.1.s.services)) :: (.sl true 1 (List.map e8 v.2.2.2.2.2.2.1.b_)) :: rest))) ++ [.row [.int .i64 v.2.2.2.2.2.2.2.1.kind, .str v.2.2.2.2.2.2.2.1.name, .sl false 10 (List.map YSField.av v.2.2.2.2.2.2.2.1.fields)], .row [.int .i64 v.2.2.2.2.2.2.2.2.1.kind, .int .i64 v.2.2.2.2.2.2.2.2.1.n_, .str v.2.2.2.2.2.2.2.2.1.s, .sl false 5 (List.map YValue.av v.2.2.2.2.2.2.2.2.1.l), .sl false 1 (List.map (AV.int .i64) v.2.2.2.2.2.2.2.2.1.iDs)], .row [.int .i64 v.2.2.2.2.2.2.2.2.2.iD, .int .i64 v.2.2.2.2.2.2.2.2.2.req, .str v.2.2.2.2.2.2.2.2.2.type_, .str v.2.2.2.2.2.2.2.2.2.name, .bool v.2.2.2.2.2.2.2.2.2.hasInit, .int .i64 v.2.2.2.2.2.2.2.2.2.init.kind, .int .i64 v.2.2.2.2.2.2.2.2.2.init.n_, .str v.2.2.2.2.2.2.2.2.2.init.s, .sl false 5 (List.map YValue.av v.2.2.2.2.2.2.2.2.2.init.l), .sl false 1 (List.map (AV.int .i64) v.2.2.2.2.2.2.2.2.2.init.iDs)]])
def M_F_tcomp_writer_value (v : Ytcomp_writer × List UInt8 × YValue) (p : Ytcomp_writer) : Prop := ∀ (h : Heap) (b : Nat) (rest : List AV) (o0 : Bool) (o1 : Bool) (o2 : Bool) (hlt : b < h.length), Run T0 N_tcomp_writer_value [.ptr b 0, .str v.2.1, .agg [.int .i64 v.2.2.kind, .int .i64 v.2.2.n_, .str v.2.2.s, .sl false 5 (List.map YValue.av v.2.2.l), .sl false 1 (List.map (AV.int .i64) v.2.2.iDs)]] (h.set b (.row ((.sl o0 3 (List.map YSStruct.av v.1.s.structs)) :: (.sl o1 2 (List.map YSEnum.av v.1.s.enums)) :: (.sl o2 2 (List.map YSService.av v.1.s.services)) :: (.sl true 1 (List.map e8 v.1.b_)) :: rest))) = some ((.tup []), h.set b (.row ((.sl o0 3 (List.map YSStruct.av p.s.structs)) :: (.sl o1 2 (List.map YSEnum.av p.s.enums)) :: (.sl o2 2 (List.map YSService.av p.s.services)) :: (.sl true 1 (List.map e8 p.b_)) :: rest)))
def M_F_tcomp_writer_value_64 (v : List UInt8 × List UInt8 × List UInt8 × Int × Bool × Ytcomp_writer × YValue) (p : Ytcomp_writer) : Prop := ∀ (h : Heap) (b : Nat) (rest : List AV) (o0 : Bool) (o1 : Bool) (o2 : Bool) (hlt : b < h.length), Does T0 C40_64 (aft T0 (EndQ false [] h.length (.tup []) (h.set b (.row ((.sl o0 3 (List.map YSStruct.av p.s.structs)) :: (.sl o1 2 (List.map YSEnum.av p.s.enums)) :: (.sl o2 2 (List.map YSService.av p.s.services)) :: (.sl true 1 (List.map e8 p.b_)) :: rest)))) [.blk 0]) .mk .mk [(0, .ptr b 0), (5, .ptr h.length 0), (7, .str v.1), (8, .str v.2.1), (9, .str v.2.2.1), (29, .int .i64 v.2.2.2.1), (56, .bool v.2.2.2.2.1)] ((h.set b (.row ((.sl o0 3 (List.map YSStruct.av v.2.2.2.2.2.1.s.structs)) :: (.sl o1 2 (List.map YSEnum.av v.2.2.2.2.2.1.s.enums)) :: (.sl o2 2 (List.map YSService.av v.2.2.2.2.2.1.s.services)) :: (.sl true 1 (List.map e8 v.2.2.2.2.2.1.b_)) :: rest))) ++ [.row [.int .i64 v.2.2.2.2.2.2.kind, .int .i64 v.2.2.2.2.2.2.n_, .str v.2.2.2.2.2.2.s, .sl false 5 (List.map YValue.av v.2.2.2.2.2.2.l), .sl false 1 (List.map (AV.int .i64) v.2.2.2.2.2.2.iDs)]])
def M_F_tcomp_writer_value_57 (v : List UInt8 × List UInt8 × List UInt8 × Int × Bool × Ytcomp_writer × YValue) (p : Ytcomp_writer) : Prop := ∀ (h : Heap) (b : Nat) (rest : List AV) (o0 : Bool) (o1 : Bool) (o2 : Bool) (hlt : b < h.length), Does T0 C40_57 (aft T0 (EndQ false [] h.length (.tup []) (h.set b (.row ((.sl o0 3 (List.map YSStruct.av p.s.structs)) :: (.sl o1 2 (List.map YSEnum.av p.s.enums)) :: (.sl o2 2 (List.map YSService.av p.s.services)) :: (.sl true 1 (List.map e8 p.b_)) :: rest)))) [.blk 0]) .mk .mk [(0, .ptr b 0), (5, .ptr h.length 0), (7, .str v.1), (8, .str v.2.1), (9, .str v.2.2.1), (29, .int .i64 v.2.2.2.1), (90, .bool v.2.2.2.2.1)] ((h.set b (.row ((.sl o0 3 (List.map YSStruct.av v.2.2.2.2.2.1.s.structs)) :: (.sl o1 2 (List.map YSEnum.av v.2.2.2.2.2.1.s.enums)) :: (.sl o2 2 (List.map YSService.av v.2.2.2.2.2.1.s.services)) :: (.sl true 1 (List.map e8 v.2.2.2.2.2.1.b_)) :: rest))) ++ [.row [.int .i64 v.2.2.2.2.2.2.kind, .int .i64 v.2.2.2.2.2.2.n_, .str v.2.2.2.2.2.2.s, .sl false 5 (List.map YValue.av v.2.2.2.2.2.2.l), .sl false 1 (List.map (AV.int .i64) v.2.2.2.2.2.2.iDs)]])
def M_F_tcomp_writer_value_54 (v : List UInt8 × List UInt8 × List UInt8 × Int × Bool × Ytcomp_writer × YValue) (p : Ytcomp_writer) : Prop := ∀ (h : Heap) (b : Nat) (rest : List AV) (o0 : Bool) (o1 : Bool) (o2 : Bool) (hlt : b < h.length), Does T0 C40_54 (aft T0 (EndQ false [] h.length (.tup []) (h.set b (.row ((.sl o0 3 (List.map YSStruct.av p.s.structs)) :: (.sl o1 2 (List.map YSEnum.av p.s.enums)) :: (.sl o2 2 (List.map YSService.av p.s.services)) :: (.sl true 1 (List.map e8 p.b_)) :: rest)))) [.blk 0]) .mk .mk [(0, .ptr b 0), (5, .ptr h.length 0), (7, .str v.1), (8, .str v.2.1), (9, .str v.2.2.1), (29, .int .i64 v.2.2.2.1), (109, .bool v.2.2.2.2.1)] ((h.set b (.row ((.sl o0 3 (List.map YSStruct.av v.2.2.2.2.2.1.s.structs)) :: (.sl o1 2 (List.map YSEnum.av v.2.2.2.2.2.1.s.enums)) :: (.sl o2 2 (List.map YSService.av v.2.2.2.2.2.1.s.services)) :: (.sl true 1 (List.map e8 v.2.2.2.2.2.1.b_)) :: rest))) ++ [.row [.int .i64 v.2.2.2.2.2.2.kind, .int .i64 v.2.2.2.2.2.2.n_, .str v.2.2.2.2.2.2.s, .sl false 5 (List.map YValue.av v.2.2.2.2.2.2.l), .sl false 1 (List.map (AV.int .i64) v.2.2.2.2.2.2.iDs)]])
def M_F_tcomp_writer_pairs (v : Ytcomp_writer × List UInt8 × List UInt8 × List YValue) (p : Ytcomp_writer) : Prop := ∀ (h : Heap) (b : Nat) (rest : List AV) (o0 : Bool) (o1 : Bool) (o2 : Bool) (o3 : Bool) (hlt : b < h.length), Run T0 N_tcomp_writer_pairs [.ptr b 0, .str v.2.1, .str v.2.2.1, .sl false 5 (List.map YValue.av v.2.2.2)] (h.set b (.row ((.sl o0 3 (List.map YSStruct.av v.1.s.structs)) :: (.sl o1 2 (List.map YSEnum.av v.1.s.enums)) :: (.sl o2 2 (List.map YSService.av v.1.s.services)) :: (.sl o3 1 (List.map e8 v.1.b_)) :: rest))) = some ((.tup []), h.set b (.row ((.sl o0 3 (List.map YSStruct.av p.s.structs)) :: (.sl o1 2 (List.map YSEnum.av p.s.enums)) :: (.sl o2 2 (List.map YSService.av p.s.services)) :: (.sl true 1 (List.map e8 p.b_)) :: rest)))
def M_F_tcomp_writer_pairs_16 (v : List UInt8 × List UInt8 × List YValue × Int × Int × Ytcomp_writer) (p : Ytcomp_writer) : Prop := ∀ (h : Heap) (b : Nat) (rest : List AV) (o0 : Bool) (o1 : Bool) (o2 : Bool) (hlt : b < h.length), Does T0 C109_16 (aft T0 (EndQ false [] h.length (.tup []) (h.set b (.row ((.sl o0 3 (List.map YSStruct.av p.s.structs)) :: (.sl o1 2 (List.map YSEnum.av p.s.enums)) :: (.sl o2 2 (List.map YSService.av p.s.services)) :: (.sl true 1 (List.map e8 p.b_)) :: rest)))) [.gc h.length, .lp C109_17, .blk 0]) .mk .mk [(0, .ptr b 0), (1, .str v.1), (2, .str v.2.1), (29, .sl false 5 (List.map YValue.av v.2.2.1)), (30, .int .i64 v.2.2.2.1), (31, .int .i64 v.2.2.2.2.1)] (h.set b (.row ((.sl o0 3 (List.map YSStruct.av v.2.2.2.2.2.s.structs)) :: (.sl o1 2 (List.map YSEnum.av v.2.2.2.2.2.s.enums)) :: (.sl o2 2 (List.map YSService.av v.2.2.2.2.2.s.services)) :: (.sl true 1 (List.map e8 v.2.2.2.2.2.b_)) :: rest)))
def M_F_tcomp_writer_list (v : Ytcomp_writer × List UInt8 × List YValue) (p : Ytcomp_writer) : Prop := ∀ (h : Heap) (b : Nat) (rest : List AV) (o0 : Bool) (o1 : Bool) (o2 : Bool) (hlt : b < h.length), Run T0 N_tcomp_writer_list [.ptr b 0, .str v.2.1, .sl false 5 (List.map YValue.av v.2.2)] (h.set b (.row ((.sl o0 3 (List.map YSStruct.av v.1.s.structs)) :: (.sl o1 2 (List.map YSEnum.av v.1.s.enums)) :: (.sl o2 2 (List.map YSService.av v.1.s.services)) :: (.sl true 1 (List.map e8 v.1.b_)) :: rest))) = some ((.tup []), h.set b (.row ((.sl o0 3 (List.map YSStruct.av p.s.structs)) :: (.sl o1 2 (List.map YSEnum.av p.s.enums)) :: (.sl o2 2 (List.map YSService.av p.s.services)) :: (.sl true 1 (List.map e8 p.b_)) :: rest)))
def M_F_tcomp_writer_list_22 (v : List UInt8 × List YValue × Ytcomp_writer) (p : Ytcomp_writer) : Prop := ∀ (h : Heap) (b : Nat) (rest : List AV) (o0 : Bool) (o1 : Bool) (o2 : Bool) (hlt : b < h.length), Does T0 C108_22 (aft T0 (EndQ false [] h.length (.tup []) (h.set b (.row ((.sl o0 3 (List.map YSStruct.av p.s.structs)) :: (.sl o1 2 (List.map YSEnum.av p.s.enums)) :: (.sl o2 2 (List.map YSService.av p.s.services)) :: (.sl true 1 (List.map e8 p.b_)) :: rest)))) []) .mk .mk [(0, .ptr b 0), (1, .str v.1), (2, .sl false 5 (List.map YValue.av v.2.1))] (h.set b (.row ((.sl o0 3 (List.map YSStruct.av v.2.2.s.structs)) :: (.sl o1 2 (List.map YSEnum.av v.2.2.s.enums)) :: (.sl o2 2 (List.map YSService.av v.2.2.s.services)) :: (.sl true 1 (List.map e8 v.2.2.b_)) :: rest)))
def M_F_tcomp_writer_list_18 (v : List UInt8 × List YValue × Int × Int × Ytcomp_writer) (p : Ytcomp_writer) : Prop := ∀ (h : Heap) (b : Nat) (rest : List AV) (o0 : Bool) (o1 : Bool) (o2 : Bool) (hlt : b < h.length), Does T0 C108_18 (aft T0 (EndQ false [] h.length (.tup []) (h.set b (.row ((.sl o0 3 (List.map YSStruct.av p.s.structs)) :: (.sl o1 2 (List.map YSEnum.av p.s.enums)) :: (.sl o2 2 (List.map YSService.av p.s.services)) :: (.sl true 1 (List.map e8 p.b_)) :: rest)))) [.gc h.length, .lp C108_19, .blk 0]) .mk .mk [(0, .ptr b 0), (1, .str v.1), (31, .sl false 5 (List.map YValue.av v.2.1)), (32, .int .i64 v.2.2.1), (33, .int .i64 v.2.2.2.1)] (h.set b (.row ((.sl o0 3 (List.map YSStruct.av v.2.2.2.2.s.structs)) :: (.sl o1 2 (List.map YSEnum.av v.2.2.2.2.s.enums)) :: (.sl o2 2 (List.map YSService.av v.2.2.2.2.s.services)) :: (.sl true 1 (List.map e8 v.2.2.2.2.b_)) :: rest)))
set_option maxHeartbeats 4000000 in
theorem st_F_tcomp_writer_fields (f_F_tcomp_writer_fields_42 : (Int × List Int × Int × Int × Ytcomp_writer × YSStruct × YValue) → Option (Ytcomp_writer)) (ih_F_tcomp_writer_fields_42 : ∀ v p, f_F_tcomp_writer_fields_42 v = some p → M_F_tcomp_writer_fields_42 v p) (v : Ytcomp_writer × YSStruct × YValue) (p : Ytcomp_writer) (hF : (
  f_F_tcomp_writer_fields_42 (0, v.2.2.iDs, (v.2.2.iDs.length : Int), 0, v.1, v.2.1, v.2.2)) = some p) : M_F_tcomp_writer_fields v p := by
  intro h b rest o0 o1 o2 hlt
  refine run_ofK at_tcomp_writer_fields (n := h.length) (by simp only [List.length_set]) ?_
  simp only [go_sem, reduceIte, Nat.reduceEqDiff, Nat.reduceAdd, Nat.reduceLeDiff, Nat.reduceLT, Nat.reduceSub, Nat.reduceBEq, ne_eq, not_false_eq_true, hs_all hlt]
  exact ih_F_tcomp_writer_fields_42 _ _ hF _ _ _ _ _ _ hlt
set_option maxHeartbeats 4000000 in
theorem st_F_tcomp_writer_fields_42 (f_F_tcomp_writer_fields_31 : (Int × Int × Int × Int × Int × List Int × Int × Int × Ytcomp_writer × YSStruct × YValue × YSField) → Option (Ytcomp_writer)) (ih_F_tcomp_writer_fields_31 : ∀ v p, f_F_tcomp_writer_fields_31 v = some p → M_F_tcomp_writer_fields_31 v p) (v : Int × List Int × Int × Int × Ytcomp_writer × YSStruct × YValue) (p : Ytcomp_writer) (hF : (
  if (decide (v.2.2.2.1 < v.2.2.1)) = true then (
    lidx v.2.1 v.2.2.2.1 >>= fun x2 =>
    F_value_Field v.2.2.2.2.2.1 x2 >>= fun r3 =>
    F_value_Kind v.2.2.2.2.1.s r3.1.type_ >>= fun r4 =>
    F_tcomp_Short r4 >>= fun r5 =>
    if (r4 == (2 : Int)) = true then (
      lidx v.2.2.2.2.2.2.l v.2.2.2.1 >>= fun x7 =>
      f_F_tcomp_writer_fields_31 (v.1, v.2.2.2.1, x2, r4, (isub .i64 2 x7.n_), v.2.1, v.2.2.1, v.2.2.2.1, v.2.2.2.2.1, v.2.2.2.2.2.1, v.2.2.2.2.2.2, r3.1)
    ) else
    f_F_tcomp_writer_fields_31 (v.1, v.2.2.2.1, x2, r4, r5, v.2.1, v.2.2.1, v.2.2.2.1, v.2.2.2.2.1, v.2.2.2.2.2.1, v.2.2.2.2.2.2, r3.1)
  ) else
  F_tcomp_writer_byte v.2.2.2.2.1 0 >>= fun r18 =>
  some r18) = some p) : M_F_tcomp_writer_fields_42 v p := by
  intro h b rest o0 o1 o2 hlt
  unfold C99_42
  simp only [go_sem, reduceIte, Nat.reduceEqDiff, Nat.reduceAdd, Nat.reduceLeDiff, Nat.reduceLT, Nat.reduceSub, Nat.reduceBEq, ne_eq, not_false_eq_true, hs_all hlt]
  rcases iteE hF with ⟨hc1, hF⟩ | ⟨hc1, hF⟩
  · simp only [go_sem, reduceIte, Nat.reduceEqDiff, Nat.reduceAdd, Nat.reduceLeDiff, Nat.reduceLT, Nat.reduceSub, Nat.reduceBEq, ne_eq, not_false_eq_true, hs_all hlt, hc1]
    obtain ⟨x2, hx2, hF⟩ := bindE hF
    refine DoesO_m (lidx_map (AV.int .i64) hx2) ?_
    simp only [go_sem, reduceIte, Nat.reduceEqDiff, Nat.reduceAdd, Nat.reduceLeDiff, Nat.reduceLT, Nat.reduceSub, Nat.reduceBEq, ne_eq, not_false_eq_true, hs_all hlt, hc1]
    obtain ⟨r3, hr3, hF⟩ := bindE hF
    refine DoesR_m (call_F_value_Field hr3) ?_
    simp only [go_sem, reduceIte, Nat.reduceEqDiff, Nat.reduceAdd, Nat.reduceLeDiff, Nat.reduceLT, Nat.reduceSub, Nat.reduceBEq, ne_eq, not_false_eq_true, hs_all hlt, hc1]
    obtain ⟨r4, hr4, hF⟩ := bindE hF
    refine DoesR_m (call_F_value_Kind hr4) ?_
    simp only [go_sem, reduceIte, Nat.reduceEqDiff, Nat.reduceAdd, Nat.reduceLeDiff, Nat.reduceLT, Nat.reduceSub, Nat.reduceBEq, ne_eq, not_false_eq_true, hs_all hlt, hc1]
    obtain ⟨r5, hr5, hF⟩ := bindE hF
    refine DoesR_m (call_F_tcomp_Short hr5) ?_
    simp only [go_sem, reduceIte, Nat.reduceEqDiff, Nat.reduceAdd, Nat.reduceLeDiff, Nat.reduceLT, Nat.reduceSub, Nat.reduceBEq, ne_eq, not_false_eq_true, hs_all hlt, hc1]
    rcases iteE hF with ⟨hc6, hF⟩ | ⟨hc6, hF⟩
    · simp only [go_sem, reduceIte, Nat.reduceEqDiff, Nat.reduceAdd, Nat.reduceLeDiff, Nat.reduceLT, Nat.reduceSub, Nat.reduceBEq, ne_eq, not_false_eq_true, hs_all hlt, hc1, hc6]
      obtain ⟨x7, hx7, hF⟩ := bindE hF
      refine DoesO_m (lidx_map YValue.av hx7) ?_
      simp only [go_sem, reduceIte, Nat.reduceEqDiff, Nat.reduceAdd, Nat.reduceLeDiff, Nat.reduceLT, Nat.reduceSub, Nat.reduceBEq, ne_eq, not_false_eq_true, hs_all hlt, hc1, hc6]
      exact ih_F_tcomp_writer_fields_31 _ _ hF _ _ _ _ _ _ hlt
    · simp only [go_sem, reduceIte, Nat.reduceEqDiff, Nat.reduceAdd, Nat.reduceLeDiff, Nat.reduceLT, Nat.reduceSub, Nat.reduceBEq, ne_eq, not_false_eq_true, hs_all hlt, hc1, hc6]
      exact ih_F_tcomp_writer_fields_31 _ _ hF _ _ _ _ _ _ hlt
  · simp only [go_sem, reduceIte, Nat.reduceEqDiff, Nat.reduceAdd, Nat.reduceLeDiff, Nat.reduceLT, Nat.reduceSub, Nat.reduceBEq, ne_eq, not_false_eq_true, hs_all hlt, hc1]
    obtain ⟨r18, hr18, hF⟩ := bindE hF
    refine DoesR_m (call_F_tcomp_writer_byte hr18 (hs_getL hlt)) ?_
    simp only [go_sem, reduceIte, Nat.reduceEqDiff, Nat.reduceAdd, Nat.reduceLeDiff, Nat.reduceLT, Nat.reduceSub, Nat.reduceBEq, ne_eq, not_false_eq_true, hs_all hlt, hc1]
    all_goals (cases hF; rfl)
set_option maxHeartbeats 4000000 in
theorem st_F_tcomp_writer_fields_31 (f_F_tcomp_writer_fields_20 : (Int × Int × Int × Int × Int × List Int × Int × Int × Bool × Ytcomp_writer × YSStruct × YValue × YSField) → Option (Ytcomp_writer)) (ih_F_tcomp_writer_fields_20 : ∀ v p, f_F_tcomp_writer_fields_20 v = some p → M_F_tcomp_writer_fields_20 v p) (v : Int × Int × Int × Int × Int × List Int × Int × Int × Ytcomp_writer × YSStruct × YValue × YSField) (p : Ytcomp_writer) (hF : (
  if (decide ((isub .i64 v.2.2.1 v.1) ≥ (1 : Int))) = true then (
    f_F_tcomp_writer_fields_20 (v.2.1, v.2.2.1, v.2.2.2.1, v.2.2.2.2.1, (isub .i64 v.2.2.1 v.1), v.2.2.2.2.2.1, v.2.2.2.2.2.2.1, v.2.2.2.2.2.2.2.1, (decide ((isub .i64 v.2.2.1 v.1) ≤ (15 : Int))), v.2.2.2.2.2.2.2.2.1, v.2.2.2.2.2.2.2.2.2.1, v.2.2.2.2.2.2.2.2.2.2.1, v.2.2.2.2.2.2.2.2.2.2.2)
  ) else
  f_F_tcomp_writer_fields_20 (v.2.1, v.2.2.1, v.2.2.2.1, v.2.2.2.2.1, (isub .i64 v.2.2.1 v.1), v.2.2.2.2.2.1, v.2.2.2.2.2.2.1, v.2.2.2.2.2.2.2.1, false, v.2.2.2.2.2.2.2.2.1, v.2.2.2.2.2.2.2.2.2.1, v.2.2.2.2.2.2.2.2.2.2.1, v.2.2.2.2.2.2.2.2.2.2.2)) = some p) : M_F_tcomp_writer_fields_31 v p := by
  intro h b rest o0 o1 o2 hlt
  unfold C99_31
  simp only [go_sem, reduceIte, Nat.reduceEqDiff, Nat.reduceAdd, Nat.reduceLeDiff, Nat.reduceLT, Nat.reduceSub, Nat.reduceBEq, ne_eq, not_false_eq_true, hs_all hlt]
  rcases iteE hF with ⟨hc8, hF⟩ | ⟨hc8, hF⟩
  · simp only [go_sem, reduceIte, Nat.reduceEqDiff, Nat.reduceAdd, Nat.reduceLeDiff, Nat.reduceLT, Nat.reduceSub, Nat.reduceBEq, ne_eq, not_false_eq_true, hs_all hlt, hc8]
    exact ih_F_tcomp_writer_fields_20 _ _ hF _ _ _ _ _ _ hlt
  · simp only [go_sem, reduceIte, Nat.reduceEqDiff, Nat.reduceAdd, Nat.reduceLeDiff, Nat.reduceLT, Nat.reduceSub, Nat.reduceBEq, ne_eq, not_false_eq_true, hs_all hlt, hc8]
    exact ih_F_tcomp_writer_fields_20 _ _ hF _ _ _ _ _ _ hlt
set_option maxHeartbeats 4000000 in
theorem st_F_tcomp_writer_fields_20 (f_F_tcomp_writer_fields_29 : (Int × Int × Int × List Int × Int × Int × Ytcomp_writer × YSStruct × YValue × YSField) → Option (Ytcomp_writer)) (ih_F_tcomp_writer_fields_29 : ∀ v p, f_F_tcomp_writer_fields_29 v = some p → M_F_tcomp_writer_fields_29 v p) (v : Int × Int × Int × Int × Int × List Int × Int × Int × Bool × Ytcomp_writer × YSStruct × YValue × YSField) (p : Ytcomp_writer) (hF : (
  if v.2.2.2.2.2.2.2.2.1 = true then (
    ishl .i64 v.2.2.2.2.1 4 >>= fun x10 =>
    F_tcomp_writer_byte v.2.2.2.2.2.2.2.2.2.1 (ior .i64 x10 v.2.2.2.1) >>= fun r11 =>
    f_F_tcomp_writer_fields_29 (v.1, v.2.1, v.2.2.1, v.2.2.2.2.2.1, v.2.2.2.2.2.2.1, v.2.2.2.2.2.2.2.1, r11, v.2.2.2.2.2.2.2.2.2.2.1, v.2.2.2.2.2.2.2.2.2.2.2.1, v.2.2.2.2.2.2.2.2.2.2.2.2)
  ) else
  F_tcomp_writer_byte v.2.2.2.2.2.2.2.2.2.1 v.2.2.2.1 >>= fun r15 =>
  F_zig_Zig32 (IntKind.i32.wrap v.2.1) >>= fun r16 =>
  F_tcomp_writer_num r15 (IntKind.u64.wrap r16) >>= fun r17 =>
  f_F_tcomp_writer_fields_29 (v.1, v.2.1, v.2.2.1, v.2.2.2.2.2.1, v.2.2.2.2.2.2.1, v.2.2.2.2.2.2.2.1, r17, v.2.2.2.2.2.2.2.2.2.2.1, v.2.2.2.2.2.2.2.2.2.2.2.1, v.2.2.2.2.2.2.2.2.2.2.2.2)) = some p) : M_F_tcomp_writer_fields_20 v p := by
  intro h b rest o0 o1 o2 hlt
  unfold C99_20
  simp only [go_sem, reduceIte, Nat.reduceEqDiff, Nat.reduceAdd, Nat.reduceLeDiff, Nat.reduceLT, Nat.reduceSub, Nat.reduceBEq, ne_eq, not_false_eq_true, hs_all hlt]
  rcases iteE hF with ⟨hc9, hF⟩ | ⟨hc9, hF⟩
  · simp only [go_sem, reduceIte, Nat.reduceEqDiff, Nat.reduceAdd, Nat.reduceLeDiff, Nat.reduceLT, Nat.reduceSub, Nat.reduceBEq, ne_eq, not_false_eq_true, hs_all hlt, hc9]
    obtain ⟨x10, hx10, hF⟩ := bindE hF
    refine DoesO_m (hx10) ?_
    simp only [go_sem, reduceIte, Nat.reduceEqDiff, Nat.reduceAdd, Nat.reduceLeDiff, Nat.reduceLT, Nat.reduceSub, Nat.reduceBEq, ne_eq, not_false_eq_true, hs_all hlt, hc9]
    obtain ⟨r11, hr11, hF⟩ := bindE hF
    refine DoesR_m (call_F_tcomp_writer_byte hr11 (hs_getL hlt)) ?_
    simp only [go_sem, reduceIte, Nat.reduceEqDiff, Nat.reduceAdd, Nat.reduceLeDiff, Nat.reduceLT, Nat.reduceSub, Nat.reduceBEq, ne_eq, not_false_eq_true, hs_all hlt, hc9]
    exact ih_F_tcomp_writer_fields_29 _ _ hF _ _ _ _ _ _ hlt
  · simp only [go_sem, reduceIte, Nat.reduceEqDiff, Nat.reduceAdd, Nat.reduceLeDiff, Nat.reduceLT, Nat.reduceSub, Nat.reduceBEq, ne_eq, not_false_eq_true, hs_all hlt, hc9]
    obtain ⟨r15, hr15, hF⟩ := bindE hF
    refine DoesR_m (call_F_tcomp_writer_byte hr15 (hs_getL hlt)) ?_
    simp only [go_sem, reduceIte, Nat.reduceEqDiff, Nat.reduceAdd, Nat.reduceLeDiff, Nat.reduceLT, Nat.reduceSub, Nat.reduceBEq, ne_eq, not_false_eq_true, hs_all hlt, hc9]
    obtain ⟨r16, hr16, hF⟩ := bindE hF
    refine DoesR_m (call_F_zig_Zig32 hr16) ?_
    simp only [go_sem, reduceIte, Nat.reduceEqDiff, Nat.reduceAdd, Nat.reduceLeDiff, Nat.reduceLT, Nat.reduceSub, Nat.reduceBEq, ne_eq, not_false_eq_true, hs_all hlt, hc9]
    obtain ⟨r17, hr17, hF⟩ := bindE hF
    refine DoesR_m (call_F_tcomp_writer_num hr17 (hs_getL hlt)) ?_
    simp only [go_sem, reduceIte, Nat.reduceEqDiff, Nat.reduceAdd, Nat.reduceLeDiff, Nat.reduceLT, Nat.reduceSub, Nat.reduceBEq, ne_eq, not_false_eq_true, hs_all hlt, hc9]
    exact ih_F_tcomp_writer_fields_29 _ _ hF _ _ _ _ _ _ hlt
set_option maxHeartbeats 4000000 in
theorem st_F_tcomp_writer_fields_29 (f_F_tcomp_writer_fields_42 : (Int × List Int × Int × Int × Ytcomp_writer × YSStruct × YValue) → Option (Ytcomp_writer)) (ih_F_tcomp_writer_fields_42 : ∀ v p, f_F_tcomp_writer_fields_42 v = some p → M_F_tcomp_writer_fields_42 v p) (f_F_tcomp_writer_value : (Ytcomp_writer × List UInt8 × YValue) → Option (Ytcomp_writer)) (ih_F_tcomp_writer_value : ∀ v p, f_F_tcomp_writer_value v = some p → M_F_tcomp_writer_value v p) (v : Int × Int × Int × List Int × Int × Int × Ytcomp_writer × YSStruct × YValue × YSField) (p : Ytcomp_writer) (hF : (
  if (v.2.2.1 != (2 : Int)) = true then (
    lidx v.2.2.2.2.2.2.2.2.1.l v.1 >>= fun x13 =>
    f_F_tcomp_writer_value (v.2.2.2.2.2.2.1, v.2.2.2.2.2.2.2.2.2.type_, x13) >>= fun r14 =>
    f_F_tcomp_writer_fields_42 (v.2.1, v.2.2.2.1, v.2.2.2.2.1, (iadd .i64 v.2.2.2.2.2.1 1), r14, v.2.2.2.2.2.2.2.1, v.2.2.2.2.2.2.2.2.1)
  ) else
  f_F_tcomp_writer_fields_42 (v.2.1, v.2.2.2.1, v.2.2.2.2.1, (iadd .i64 v.2.2.2.2.2.1 1), v.2.2.2.2.2.2.1, v.2.2.2.2.2.2.2.1, v.2.2.2.2.2.2.2.2.1)) = some p) : M_F_tcomp_writer_fields_29 v p := by
  intro h b rest o0 o1 o2 hlt
  unfold C99_29
  simp only [go_sem, reduceIte, Nat.reduceEqDiff, Nat.reduceAdd, Nat.reduceLeDiff, Nat.reduceLT, Nat.reduceSub, Nat.reduceBEq, ne_eq, not_false_eq_true, hs_all hlt]
  rcases iteE hF with ⟨hc12, hF⟩ | ⟨hc12, hF⟩
  · simp only [go_sem, reduceIte, Nat.reduceEqDiff, Nat.reduceAdd, Nat.reduceLeDiff, Nat.reduceLT, Nat.reduceSub, Nat.reduceBEq, ne_eq, not_false_eq_true, hs_all hlt, hc12]
    obtain ⟨x13, hx13, hF⟩ := bindE hF
    refine DoesO_m (lidx_map YValue.av hx13) ?_
    simp only [go_sem, reduceIte, Nat.reduceEqDiff, Nat.reduceAdd, Nat.reduceLeDiff, Nat.reduceLT, Nat.reduceSub, Nat.reduceBEq, ne_eq, not_false_eq_true, hs_all hlt, hc12]
    obtain ⟨r14, hr14, hF⟩ := bindE hF
    refine DoesR_m (callA_ptr (by simp only [go_sem]) (hs_getL hlt) (fun H hH => ih_F_tcomp_writer_value _ _ hr14 H _ _ _ _ _ hH)) ?_
    simp only [go_sem, reduceIte, Nat.reduceEqDiff, Nat.reduceAdd, Nat.reduceLeDiff, Nat.reduceLT, Nat.reduceSub, Nat.reduceBEq, ne_eq, not_false_eq_true, hs_all hlt, hc12]
    refine aft_gc_drop (by simp only [go_sem, reduceIte, Nat.reduceEqDiff, Nat.reduceAdd, Nat.reduceLeDiff, Nat.reduceLT, Nat.reduceSub, Nat.reduceBEq, ne_eq, not_false_eq_true, hs_all hlt, hc12] <;> omega) ?_
    simp only [go_sem, reduceIte, Nat.reduceEqDiff, Nat.reduceAdd, Nat.reduceLeDiff, Nat.reduceLT, Nat.reduceSub, Nat.reduceBEq, ne_eq, not_false_eq_true, hs_all hlt, hc12]
    exact ih_F_tcomp_writer_fields_42 _ _ hF _ _ _ _ _ _ hlt
  · simp only [go_sem, reduceIte, Nat.reduceEqDiff, Nat.reduceAdd, Nat.reduceLeDiff, Nat.reduceLT, Nat.reduceSub, Nat.reduceBEq, ne_eq, not_false_eq_true, hs_all hlt, hc12]
    refine aft_gc_drop (by simp only [go_sem, reduceIte, Nat.reduceEqDiff, Nat.reduceAdd, Nat.reduceLeDiff, Nat.reduceLT, Nat.reduceSub, Nat.reduceBEq, ne_eq, not_false_eq_true, hs_all hlt, hc12] <;> omega) ?_
    simp only [go_sem, reduceIte, Nat.reduceEqDiff, Nat.reduceAdd, Nat.reduceLeDiff, Nat.reduceLT, Nat.reduceSub, Nat.reduceBEq, ne_eq, not_false_eq_true, hs_all hlt, hc12]
    exact ih_F_tcomp_writer_fields_42 _ _ hF _ _ _ _ _ _ hlt
set_option maxHeartbeats 4000000 in
theorem st_F_tcomp_writer_value (f_F_tcomp_writer_value_64 : (List UInt8 × List UInt8 × List UInt8 × Int × Bool × Ytcomp_writer × YValue) → Option (Ytcomp_writer)) (ih_F_tcomp_writer_value_64 : ∀ v p, f_F_tcomp_writer_value_64 v = some p → M_F_tcomp_writer_value_64 v p) (v : Ytcomp_writer × List UInt8 × YValue) (p : Ytcomp_writer) (hF : (
  F_kind_Head v.2.1 >>= fun r1 =>
  F_value_Kind v.1.s v.2.1 >>= fun r2 =>
  if (r2 == (2 : Int)) = true then (
    F_tcomp_writer_byte v.1 (isub .i64 2 v.2.2.n_) >>= fun r4 =>
    some r4
  ) else
  if (r2 == (3 : Int)) = true then (
    F_tcomp_writer_byte v.1 v.2.2.n_ >>= fun r6 =>
    some r6
  ) else
  if (r2 == (6 : Int)) = true then (
    f_F_tcomp_writer_value_64 (r1.2.1, r1.2.2.1, r1.2.2.2.1, r2, true, v.1, v.2.2)
  ) else
  if (r2 == (8 : Int)) = true then (
    f_F_tcomp_writer_value_64 (r1.2.1, r1.2.2.1, r1.2.2.2.1, r2, true, v.1, v.2.2)
  ) else
  f_F_tcomp_writer_value_64 (r1.2.1, r1.2.2.1, r1.2.2.2.1, r2, (r2 == (17 : Int)), v.1, v.2.2)) = some p) : M_F_tcomp_writer_value v p := by
  intro h b rest o0 o1 o2 hlt
  refine run_ofK at_tcomp_writer_value (n := h.length) (by simp only [List.length_set]) ?_
  simp only [go_sem, reduceIte, Nat.reduceEqDiff, Nat.reduceAdd, Nat.reduceLeDiff, Nat.reduceLT, Nat.reduceSub, Nat.reduceBEq, ne_eq, not_false_eq_true, hs_all hlt]
  obtain ⟨r1, hr1, hF⟩ := bindE hF
  refine DoesR_m (call_F_kind_Head hr1) ?_
  simp only [go_sem, reduceIte, Nat.reduceEqDiff, Nat.reduceAdd, Nat.reduceLeDiff, Nat.reduceLT, Nat.reduceSub, Nat.reduceBEq, ne_eq, not_false_eq_true, hs_all hlt]
  obtain ⟨r2, hr2, hF⟩ := bindE hF
  refine DoesR_m (call_F_value_Kind hr2) ?_
  simp only [go_sem, reduceIte, Nat.reduceEqDiff, Nat.reduceAdd, Nat.reduceLeDiff, Nat.reduceLT, Nat.reduceSub, Nat.reduceBEq, ne_eq, not_false_eq_true, hs_all hlt]
  rcases iteE hF with ⟨hc3, hF⟩ | ⟨hc3, hF⟩
  · simp only [go_sem, reduceIte, Nat.reduceEqDiff, Nat.reduceAdd, Nat.reduceLeDiff, Nat.reduceLT, Nat.reduceSub, Nat.reduceBEq, ne_eq, not_false_eq_true, hs_all hlt, hc3]
    obtain ⟨r4, hr4, hF⟩ := bindE hF
    refine DoesR_m (call_F_tcomp_writer_byte hr4 (hs_getL hlt)) ?_
    simp only [go_sem, reduceIte, Nat.reduceEqDiff, Nat.reduceAdd, Nat.reduceLeDiff, Nat.reduceLT, Nat.reduceSub, Nat.reduceBEq, ne_eq, not_false_eq_true, hs_all hlt, hc3]
    all_goals (cases hF; rfl)
  · simp only [go_sem, reduceIte, Nat.reduceEqDiff, Nat.reduceAdd, Nat.reduceLeDiff, Nat.reduceLT, Nat.reduceSub, Nat.reduceBEq, ne_eq, not_false_eq_true, hs_all hlt, hc3]
    rcases iteE hF with ⟨hc5, hF⟩ | ⟨hc5, hF⟩
    · simp only [go_sem, reduceIte, Nat.reduceEqDiff, Nat.reduceAdd, Nat.reduceLeDiff, Nat.reduceLT, Nat.reduceSub, Nat.reduceBEq, ne_eq, not_false_eq_true, hs_all hlt, hc3, hc5]
      obtain ⟨r6, hr6, hF⟩ := bindE hF
      refine DoesR_m (call_F_tcomp_writer_byte hr6 (hs_getL hlt)) ?_
      simp only [go_sem, reduceIte, Nat.reduceEqDiff, Nat.reduceAdd, Nat.reduceLeDiff, Nat.reduceLT, Nat.reduceSub, Nat.reduceBEq, ne_eq, not_false_eq_true, hs_all hlt, hc3, hc5]
      all_goals (cases hF; rfl)
    · simp only [go_sem, reduceIte, Nat.reduceEqDiff, Nat.reduceAdd, Nat.reduceLeDiff, Nat.reduceLT, Nat.reduceSub, Nat.reduceBEq, ne_eq, not_false_eq_true, hs_all hlt, hc3, hc5]
      rcases iteE hF with ⟨hc7, hF⟩ | ⟨hc7, hF⟩
      · simp only [go_sem, reduceIte, Nat.reduceEqDiff, Nat.reduceAdd, Nat.reduceLeDiff, Nat.reduceLT, Nat.reduceSub, Nat.reduceBEq, ne_eq, not_false_eq_true, hs_all hlt, hc3, hc5, hc7]
        exact ih_F_tcomp_writer_value_64 _ _ hF _ _ _ _ _ _ hlt
      · simp only [go_sem, reduceIte, Nat.reduceEqDiff, Nat.reduceAdd, Nat.reduceLeDiff, Nat.reduceLT, Nat.reduceSub, Nat.reduceBEq, ne_eq, not_false_eq_true, hs_all hlt, hc3, hc5, hc7]
        rcases iteE hF with ⟨hc29, hF⟩ | ⟨hc29, hF⟩
        · simp only [go_sem, reduceIte, Nat.reduceEqDiff, Nat.reduceAdd, Nat.reduceLeDiff, Nat.reduceLT, Nat.reduceSub, Nat.reduceBEq, ne_eq, not_false_eq_true, hs_all hlt, hc3, hc5, hc7, hc29]
          exact ih_F_tcomp_writer_value_64 _ _ hF _ _ _ _ _ _ hlt
        · simp only [go_sem, reduceIte, Nat.reduceEqDiff, Nat.reduceAdd, Nat.reduceLeDiff, Nat.reduceLT, Nat.reduceSub, Nat.reduceBEq, ne_eq, not_false_eq_true, hs_all hlt, hc3, hc5, hc7, hc29]
          exact ih_F_tcomp_writer_value_64 _ _ hF _ _ _ _ _ _ hlt
set_option maxHeartbeats 4000000 in
theorem st_F_tcomp_writer_value_64 (f_F_tcomp_writer_value_57 : (List UInt8 × List UInt8 × List UInt8 × Int × Bool × Ytcomp_writer × YValue) → Option (Ytcomp_writer)) (ih_F_tcomp_writer_value_57 : ∀ v p, f_F_tcomp_writer_value_57 v = some p → M_F_tcomp_writer_value_57 v p) (v : List UInt8 × List UInt8 × List UInt8 × Int × Bool × Ytcomp_writer × YValue) (p : Ytcomp_writer) (hF : (
  if v.2.2.2.2.1 = true then (
    F_zig_Zig32 (IntKind.i32.wrap v.2.2.2.2.2.2.n_) >>= fun r9 =>
    F_tcomp_writer_num v.2.2.2.2.2.1 (IntKind.u64.wrap r9) >>= fun r10 =>
    some r10
  ) else
  if (v.2.2.2.1 == (10 : Int)) = true then (
    F_zig_Zig64 v.2.2.2.2.2.2.n_ >>= fun r12 =>
    F_tcomp_writer_num v.2.2.2.2.2.1 r12 >>= fun r13 =>
    some r13
  ) else
  if (v.2.2.2.1 == (4 : Int)) = true then (
    F_tcomp_writer_value_30 (0, v.2.2.2.2.2.1, v.2.2.2.2.2.2)
  ) else
  if (v.2.2.2.1 == (11 : Int)) = true then (
    f_F_tcomp_writer_value_57 (v.1, v.2.1, v.2.2.1, v.2.2.2.1, true, v.2.2.2.2.2.1, v.2.2.2.2.2.2)
  ) else
  f_F_tcomp_writer_value_57 (v.1, v.2.1, v.2.2.1, v.2.2.2.1, (v.2.2.2.1 == (16 : Int)), v.2.2.2.2.2.1, v.2.2.2.2.2.2)) = some p) : M_F_tcomp_writer_value_64 v p := by
  intro h b rest o0 o1 o2 hlt
  unfold C40_64
  simp only [go_sem, reduceIte, Nat.reduceEqDiff, Nat.reduceAdd, Nat.reduceLeDiff, Nat.reduceLT, Nat.reduceSub, Nat.reduceBEq, ne_eq, not_false_eq_true, hs_all hlt]
  rcases iteE hF with ⟨hc8, hF⟩ | ⟨hc8, hF⟩
  · simp only [go_sem, reduceIte, Nat.reduceEqDiff, Nat.reduceAdd, Nat.reduceLeDiff, Nat.reduceLT, Nat.reduceSub, Nat.reduceBEq, ne_eq, not_false_eq_true, hs_all hlt, hc8]
    obtain ⟨r9, hr9, hF⟩ := bindE hF
    refine DoesR_m (call_F_zig_Zig32 hr9) ?_
    simp only [go_sem, reduceIte, Nat.reduceEqDiff, Nat.reduceAdd, Nat.reduceLeDiff, Nat.reduceLT, Nat.reduceSub, Nat.reduceBEq, ne_eq, not_false_eq_true, hs_all hlt, hc8]
    obtain ⟨r10, hr10, hF⟩ := bindE hF
    refine DoesR_m (call_F_tcomp_writer_num hr10 (hs_getL hlt)) ?_
    simp only [go_sem, reduceIte, Nat.reduceEqDiff, Nat.reduceAdd, Nat.reduceLeDiff, Nat.reduceLT, Nat.reduceSub, Nat.reduceBEq, ne_eq, not_false_eq_true, hs_all hlt, hc8]
    all_goals (cases hF; rfl)
  · simp only [go_sem, reduceIte, Nat.reduceEqDiff, Nat.reduceAdd, Nat.reduceLeDiff, Nat.reduceLT, Nat.reduceSub, Nat.reduceBEq, ne_eq, not_false_eq_true, hs_all hlt, hc8]
    rcases iteE hF with ⟨hc11, hF⟩ | ⟨hc11, hF⟩
    · simp only [go_sem, reduceIte, Nat.reduceEqDiff, Nat.reduceAdd, Nat.reduceLeDiff, Nat.reduceLT, Nat.reduceSub, Nat.reduceBEq, ne_eq, not_false_eq_true, hs_all hlt, hc8, hc11]
      obtain ⟨r12, hr12, hF⟩ := bindE hF
      refine DoesR_m (call_F_zig_Zig64 hr12) ?_
      simp only [go_sem, reduceIte, Nat.reduceEqDiff, Nat.reduceAdd, Nat.reduceLeDiff, Nat.reduceLT, Nat.reduceSub, Nat.reduceBEq, ne_eq, not_false_eq_true, hs_all hlt, hc8, hc11]
      obtain ⟨r13, hr13, hF⟩ := bindE hF
      refine DoesR_m (call_F_tcomp_writer_num hr13 (hs_getL hlt)) ?_
      simp only [go_sem, reduceIte, Nat.reduceEqDiff, Nat.reduceAdd, Nat.reduceLeDiff, Nat.reduceLT, Nat.reduceSub, Nat.reduceBEq, ne_eq, not_false_eq_true, hs_all hlt, hc8, hc11]
      all_goals (cases hF; rfl)
    · simp only [go_sem, reduceIte, Nat.reduceEqDiff, Nat.reduceAdd, Nat.reduceLeDiff, Nat.reduceLT, Nat.reduceSub, Nat.reduceBEq, ne_eq, not_false_eq_true, hs_all hlt, hc8, hc11]
      rcases iteE hF with ⟨hc14, hF⟩ | ⟨hc14, hF⟩
      · simp only [go_sem, reduceIte, Nat.reduceEqDiff, Nat.reduceAdd, Nat.reduceLeDiff, Nat.reduceLT, Nat.reduceSub, Nat.reduceBEq, ne_eq, not_false_eq_true, hs_all hlt, hc8, hc11, hc14]
        exact t_F_tcomp_writer_value_30 _ _ hF _ _ _ _ _ _ hlt
      · simp only [go_sem, reduceIte, Nat.reduceEqDiff, Nat.reduceAdd, Nat.reduceLeDiff, Nat.reduceLT, Nat.reduceSub, Nat.reduceBEq, ne_eq, not_false_eq_true, hs_all hlt, hc8, hc11, hc14]
        rcases iteE hF with ⟨hc18, hF⟩ | ⟨hc18, hF⟩
        · simp only [go_sem, reduceIte, Nat.reduceEqDiff, Nat.reduceAdd, Nat.reduceLeDiff, Nat.reduceLT, Nat.reduceSub, Nat.reduceBEq, ne_eq, not_false_eq_true, hs_all hlt, hc8, hc11, hc14, hc18]
          exact ih_F_tcomp_writer_value_57 _ _ hF _ _ _ _ _ _ hlt
        · simp only [go_sem, reduceIte, Nat.reduceEqDiff, Nat.reduceAdd, Nat.reduceLeDiff, Nat.reduceLT, Nat.reduceSub, Nat.reduceBEq, ne_eq, not_false_eq_true, hs_all hlt, hc8, hc11, hc14, hc18]
          exact ih_F_tcomp_writer_value_57 _ _ hF _ _ _ _ _ _ hlt
set_option maxHeartbeats 4000000 in
theorem st_F_tcomp_writer_value_57 (f_F_tcomp_writer_value_54 : (List UInt8 × List UInt8 × List UInt8 × Int × Bool × Ytcomp_writer × YValue) → Option (Ytcomp_writer)) (ih_F_tcomp_writer_value_54 : ∀ v p, f_F_tcomp_writer_value_54 v = some p → M_F_tcomp_writer_value_54 v p) (v : List UInt8 × List UInt8 × List UInt8 × Int × Bool × Ytcomp_writer × YValue) (p : Ytcomp_writer) (hF : (
  if v.2.2.2.2.1 = true then (
    F_tcomp_writer_num v.2.2.2.2.2.1 (IntKind.u64.wrap (v.2.2.2.2.2.2.s.length : Int)) >>= fun r20 =>
    appl 1 r20.b_ v.2.2.2.2.2.2.s >>= fun x21 =>
    some (⟨r20.s, x21⟩ : Ytcomp_writer)
  ) else
  if (v.2.2.2.1 == (15 : Int)) = true then (
    f_F_tcomp_writer_value_54 (v.1, v.2.1, v.2.2.1, v.2.2.2.1, true, v.2.2.2.2.2.1, v.2.2.2.2.2.2)
  ) else
  f_F_tcomp_writer_value_54 (v.1, v.2.1, v.2.2.1, v.2.2.2.1, (v.2.2.2.1 == (14 : Int)), v.2.2.2.2.2.1, v.2.2.2.2.2.2)) = some p) : M_F_tcomp_writer_value_57 v p := by
  intro h b rest o0 o1 o2 hlt
  unfold C40_57
  simp only [go_sem, reduceIte, Nat.reduceEqDiff, Nat.reduceAdd, Nat.reduceLeDiff, Nat.reduceLT, Nat.reduceSub, Nat.reduceBEq, ne_eq, not_false_eq_true, hs_all hlt]
  rcases iteE hF with ⟨hc19, hF⟩ | ⟨hc19, hF⟩
  · simp only [go_sem, reduceIte, Nat.reduceEqDiff, Nat.reduceAdd, Nat.reduceLeDiff, Nat.reduceLT, Nat.reduceSub, Nat.reduceBEq, ne_eq, not_false_eq_true, hs_all hlt, hc19]
    obtain ⟨r20, hr20, hF⟩ := bindE hF
    refine DoesR_m (call_F_tcomp_writer_num hr20 (hs_getL hlt)) ?_
    simp only [go_sem, reduceIte, Nat.reduceEqDiff, Nat.reduceAdd, Nat.reduceLeDiff, Nat.reduceLT, Nat.reduceSub, Nat.reduceBEq, ne_eq, not_false_eq_true, hs_all hlt, hc19]
    obtain ⟨x21, hx21, hF⟩ := bindE hF
    refine DoesO_m (appl_map e8 hx21) ?_
    simp only [go_sem, reduceIte, Nat.reduceEqDiff, Nat.reduceAdd, Nat.reduceLeDiff, Nat.reduceLT, Nat.reduceSub, Nat.reduceBEq, ne_eq, not_false_eq_true, hs_all hlt, hc19]
    all_goals (cases hF; rfl)
  · simp only [go_sem, reduceIte, Nat.reduceEqDiff, Nat.reduceAdd, Nat.reduceLeDiff, Nat.reduceLT, Nat.reduceSub, Nat.reduceBEq, ne_eq, not_false_eq_true, hs_all hlt, hc19]
    rcases iteE hF with ⟨hc22, hF⟩ | ⟨hc22, hF⟩
    · simp only [go_sem, reduceIte, Nat.reduceEqDiff, Nat.reduceAdd, Nat.reduceLeDiff, Nat.reduceLT, Nat.reduceSub, Nat.reduceBEq, ne_eq, not_false_eq_true, hs_all hlt, hc19, hc22]
      exact ih_F_tcomp_writer_value_54 _ _ hF _ _ _ _ _ _ hlt
    · simp only [go_sem, reduceIte, Nat.reduceEqDiff, Nat.reduceAdd, Nat.reduceLeDiff, Nat.reduceLT, Nat.reduceSub, Nat.reduceBEq, ne_eq, not_false_eq_true, hs_all hlt, hc19, hc22]
      exact ih_F_tcomp_writer_value_54 _ _ hF _ _ _ _ _ _ hlt
set_option maxHeartbeats 4000000 in
theorem st_F_tcomp_writer_value_54 (f_F_tcomp_writer_fields : (Ytcomp_writer × YSStruct × YValue) → Option (Ytcomp_writer)) (ih_F_tcomp_writer_fields : ∀ v p, f_F_tcomp_writer_fields v = some p → M_F_tcomp_writer_fields v p) (f_F_tcomp_writer_pairs : (Ytcomp_writer × List UInt8 × List UInt8 × List YValue) → Option (Ytcomp_writer)) (ih_F_tcomp_writer_pairs : ∀ v p, f_F_tcomp_writer_pairs v = some p → M_F_tcomp_writer_pairs v p) (f_F_tcomp_writer_list : (Ytcomp_writer × List UInt8 × List YValue) → Option (Ytcomp_writer)) (ih_F_tcomp_writer_list : ∀ v p, f_F_tcomp_writer_list v = some p → M_F_tcomp_writer_list v p) (v : List UInt8 × List UInt8 × List UInt8 × Int × Bool × Ytcomp_writer × YValue) (p : Ytcomp_writer) (hF : (
  if v.2.2.2.2.1 = true then (
    f_F_tcomp_writer_list (v.2.2.2.2.2.1, v.2.1, v.2.2.2.2.2.2.l) >>= fun r24 =>
    some r24
  ) else
  if (v.2.2.2.1 == (13 : Int)) = true then (
    f_F_tcomp_writer_pairs (v.2.2.2.2.2.1, v.2.1, v.2.2.1, v.2.2.2.2.2.2.l) >>= fun r26 =>
    some r26
  ) else
  F_value_Struct v.2.2.2.2.2.1.s v.1 >>= fun r27 =>
  f_F_tcomp_writer_fields (v.2.2.2.2.2.1, r27.1, v.2.2.2.2.2.2) >>= fun r28 =>
  some r28) = some p) : M_F_tcomp_writer_value_54 v p := by
  intro h b rest o0 o1 o2 hlt
  unfold C40_54
  simp only [go_sem, reduceIte, Nat.reduceEqDiff, Nat.reduceAdd, Nat.reduceLeDiff, Nat.reduceLT, Nat.reduceSub, Nat.reduceBEq, ne_eq, not_false_eq_true, hs_all hlt]
  rcases iteE hF with ⟨hc23, hF⟩ | ⟨hc23, hF⟩
  · simp only [go_sem, reduceIte, Nat.reduceEqDiff, Nat.reduceAdd, Nat.reduceLeDiff, Nat.reduceLT, Nat.reduceSub, Nat.reduceBEq, ne_eq, not_false_eq_true, hs_all hlt, hc23]
    obtain ⟨r24, hr24, hF⟩ := bindE hF
    refine DoesR_m (callA_ptr (by simp only [go_sem]) (hs_getL hlt) (fun H hH => ih_F_tcomp_writer_list _ _ hr24 H _ _ _ _ _ hH)) ?_
    simp only [go_sem, reduceIte, Nat.reduceEqDiff, Nat.reduceAdd, Nat.reduceLeDiff, Nat.reduceLT, Nat.reduceSub, Nat.reduceBEq, ne_eq, not_false_eq_true, hs_all hlt, hc23]
    all_goals (cases hF; rfl)
  · simp only [go_sem, reduceIte, Nat.reduceEqDiff, Nat.reduceAdd, Nat.reduceLeDiff, Nat.reduceLT, Nat.reduceSub, Nat.reduceBEq, ne_eq, not_false_eq_true, hs_all hlt, hc23]
    rcases iteE hF with ⟨hc25, hF⟩ | ⟨hc25, hF⟩
    · simp only [go_sem, reduceIte, Nat.reduceEqDiff, Nat.reduceAdd, Nat.reduceLeDiff, Nat.reduceLT, Nat.reduceSub, Nat.reduceBEq, ne_eq, not_false_eq_true, hs_all hlt, hc23, hc25]
      obtain ⟨r26, hr26, hF⟩ := bindE hF
      refine DoesR_m (callA_ptr (by simp only [go_sem]) (hs_getL hlt) (fun H hH => ih_F_tcomp_writer_pairs _ _ hr26 H _ _ _ _ _ _ hH)) ?_
      simp only [go_sem, reduceIte, Nat.reduceEqDiff, Nat.reduceAdd, Nat.reduceLeDiff, Nat.reduceLT, Nat.reduceSub, Nat.reduceBEq, ne_eq, not_false_eq_true, hs_all hlt, hc23, hc25]
      all_goals (cases hF; rfl)
    · simp only [go_sem, reduceIte, Nat.reduceEqDiff, Nat.reduceAdd, Nat.reduceLeDiff, Nat.reduceLT, Nat.reduceSub, Nat.reduceBEq, ne_eq, not_false_eq_true, hs_all hlt, hc23, hc25]
      obtain ⟨r27, hr27, hF⟩ := bindE hF
      refine DoesR_m (call_F_value_Struct hr27) ?_
      simp only [go_sem, reduceIte, Nat.reduceEqDiff, Nat.reduceAdd, Nat.reduceLeDiff, Nat.reduceLT, Nat.reduceSub, Nat.reduceBEq, ne_eq, not_false_eq_true, hs_all hlt, hc23, hc25]
      obtain ⟨r28, hr28, hF⟩ := bindE hF
      refine DoesR_m (callA_ptr (by simp only [go_sem]) (hs_getL hlt) (fun H hH => ih_F_tcomp_writer_fields _ _ hr28 H _ _ _ _ _ hH)) ?_
      simp only [go_sem, reduceIte, Nat.reduceEqDiff, Nat.reduceAdd, Nat.reduceLeDiff, Nat.reduceLT, Nat.reduceSub, Nat.reduceBEq, ne_eq, not_false_eq_true, hs_all hlt, hc23, hc25]
      all_goals (cases hF; rfl)
set_option maxHeartbeats 4000000 in
theorem st_F_tcomp_writer_pairs (f_F_tcomp_writer_pairs_16 : (List UInt8 × List UInt8 × List YValue × Int × Int × Ytcomp_writer) → Option (Ytcomp_writer)) (ih_F_tcomp_writer_pairs_16 : ∀ v p, f_F_tcomp_writer_pairs_16 v = some p → M_F_tcomp_writer_pairs_16 v p) (v : Ytcomp_writer × List UInt8 × List UInt8 × List YValue) (p : Ytcomp_writer) (hF : (
  iquo .i64 (v.2.2.2.length : Int) 2 >>= fun x1 =>
  F_tcomp_writer_num v.1 (IntKind.u64.wrap x1) >>= fun r2 =>
  if ((v.2.2.2.length : Int) == (0 : Int)) = true then (
    some r2
  ) else
  F_tcomp_writer_short r2 v.2.1 >>= fun r4 =>
  ishl .i64 r4 4 >>= fun x5 =>
  F_tcomp_writer_short r2 v.2.2.1 >>= fun r6 =>
  F_tcomp_writer_byte r2 (ior .i64 x5 r6) >>= fun r7 =>
  f_F_tcomp_writer_pairs_16 (v.2.1, v.2.2.1, v.2.2.2, (v.2.2.2.length : Int), 0, r7)) = some p) : M_F_tcomp_writer_pairs v p := by
  intro h b rest o0 o1 o2 o3 hlt
  refine run_ofK at_tcomp_writer_pairs (n := h.length) (by simp only [List.length_set]) ?_
  simp only [go_sem, reduceIte, Nat.reduceEqDiff, Nat.reduceAdd, Nat.reduceLeDiff, Nat.reduceLT, Nat.reduceSub, Nat.reduceBEq, ne_eq, not_false_eq_true, hs_all hlt]
  obtain ⟨x1, hx1, hF⟩ := bindE hF
  refine DoesO_m (hx1) ?_
  simp only [go_sem, reduceIte, Nat.reduceEqDiff, Nat.reduceAdd, Nat.reduceLeDiff, Nat.reduceLT, Nat.reduceSub, Nat.reduceBEq, ne_eq, not_false_eq_true, hs_all hlt]
  obtain ⟨r2, hr2, hF⟩ := bindE hF
  refine DoesR_m (call_F_tcomp_writer_num hr2 (hs_get hlt)) ?_
  simp only [go_sem, reduceIte, Nat.reduceEqDiff, Nat.reduceAdd, Nat.reduceLeDiff, Nat.reduceLT, Nat.reduceSub, Nat.reduceBEq, ne_eq, not_false_eq_true, hs_all hlt]
  rcases iteE hF with ⟨hc3, hF⟩ | ⟨hc3, hF⟩
  · simp only [go_sem, reduceIte, Nat.reduceEqDiff, Nat.reduceAdd, Nat.reduceLeDiff, Nat.reduceLT, Nat.reduceSub, Nat.reduceBEq, ne_eq, not_false_eq_true, hs_all hlt, hc3]
    all_goals (cases hF; rfl)
  · simp only [go_sem, reduceIte, Nat.reduceEqDiff, Nat.reduceAdd, Nat.reduceLeDiff, Nat.reduceLT, Nat.reduceSub, Nat.reduceBEq, ne_eq, not_false_eq_true, hs_all hlt, hc3]
    obtain ⟨r4, hr4, hF⟩ := bindE hF
    refine DoesR_m (call_F_tcomp_writer_short hr4 (hs_get hlt)) ?_
    simp only [go_sem, reduceIte, Nat.reduceEqDiff, Nat.reduceAdd, Nat.reduceLeDiff, Nat.reduceLT, Nat.reduceSub, Nat.reduceBEq, ne_eq, not_false_eq_true, hs_all hlt, hc3]
    obtain ⟨x5, hx5, hF⟩ := bindE hF
    refine DoesO_m (hx5) ?_
    simp only [go_sem, reduceIte, Nat.reduceEqDiff, Nat.reduceAdd, Nat.reduceLeDiff, Nat.reduceLT, Nat.reduceSub, Nat.reduceBEq, ne_eq, not_false_eq_true, hs_all hlt, hc3]
    obtain ⟨r6, hr6, hF⟩ := bindE hF
    refine DoesR_m (call_F_tcomp_writer_short hr6 (hs_get hlt)) ?_
    simp only [go_sem, reduceIte, Nat.reduceEqDiff, Nat.reduceAdd, Nat.reduceLeDiff, Nat.reduceLT, Nat.reduceSub, Nat.reduceBEq, ne_eq, not_false_eq_true, hs_all hlt, hc3]
    obtain ⟨r7, hr7, hF⟩ := bindE hF
    refine DoesR_m (call_F_tcomp_writer_byte hr7 (hs_get hlt)) ?_
    simp only [go_sem, reduceIte, Nat.reduceEqDiff, Nat.reduceAdd, Nat.reduceLeDiff, Nat.reduceLT, Nat.reduceSub, Nat.reduceBEq, ne_eq, not_false_eq_true, hs_all hlt, hc3]
    exact ih_F_tcomp_writer_pairs_16 _ _ hF _ _ _ _ _ _ hlt
set_option maxHeartbeats 4000000 in
theorem st_F_tcomp_writer_pairs_16 (f_F_tcomp_writer_value : (Ytcomp_writer × List UInt8 × YValue) → Option (Ytcomp_writer)) (ih_F_tcomp_writer_value : ∀ v p, f_F_tcomp_writer_value v = some p → M_F_tcomp_writer_value v p) (f_F_tcomp_writer_pairs_16 : (List UInt8 × List UInt8 × List YValue × Int × Int × Ytcomp_writer) → Option (Ytcomp_writer)) (ih_F_tcomp_writer_pairs_16 : ∀ v p, f_F_tcomp_writer_pairs_16 v = some p → M_F_tcomp_writer_pairs_16 v p) (v : List UInt8 × List UInt8 × List YValue × Int × Int × Ytcomp_writer) (p : Ytcomp_writer) (hF : (
  if (decide (v.2.2.2.2.1 < v.2.2.2.1)) = true then (
    lidx v.2.2.1 v.2.2.2.2.1 >>= fun x9 =>
    irem .i64 v.2.2.2.2.1 2 >>= fun x10 =>
    lidx [v.1, v.2.1] x10 >>= fun x11 =>
    f_F_tcomp_writer_value (v.2.2.2.2.2, x11, x9) >>= fun r12 =>
    f_F_tcomp_writer_pairs_16 (v.1, v.2.1, v.2.2.1, v.2.2.2.1, (iadd .i64 v.2.2.2.2.1 1), r12)
  ) else
  some v.2.2.2.2.2) = some p) : M_F_tcomp_writer_pairs_16 v p := by
  intro h b rest o0 o1 o2 hlt
  unfold C109_16
  simp only [go_sem, reduceIte, Nat.reduceEqDiff, Nat.reduceAdd, Nat.reduceLeDiff, Nat.reduceLT, Nat.reduceSub, Nat.reduceBEq, ne_eq, not_false_eq_true, hs_all hlt]
  rcases iteE hF with ⟨hc8, hF⟩ | ⟨hc8, hF⟩
  · simp only [go_sem, reduceIte, Nat.reduceEqDiff, Nat.reduceAdd, Nat.reduceLeDiff, Nat.reduceLT, Nat.reduceSub, Nat.reduceBEq, ne_eq, not_false_eq_true, hs_all hlt, hc8]
    obtain ⟨x9, hx9, hF⟩ := bindE hF
    refine DoesO_m (lidx_map YValue.av hx9) ?_
    simp only [go_sem, reduceIte, Nat.reduceEqDiff, Nat.reduceAdd, Nat.reduceLeDiff, Nat.reduceLT, Nat.reduceSub, Nat.reduceBEq, ne_eq, not_false_eq_true, hs_all hlt, hc8]
    obtain ⟨x10, hx10, hF⟩ := bindE hF
    refine DoesO_m (hx10) ?_
    simp only [go_sem, reduceIte, Nat.reduceEqDiff, Nat.reduceAdd, Nat.reduceLeDiff, Nat.reduceLT, Nat.reduceSub, Nat.reduceBEq, ne_eq, not_false_eq_true, hs_all hlt, hc8]
    obtain ⟨x11, hx11, hF⟩ := bindE hF
    refine DoesO_m (lidx_map AV.str hx11) ?_
    simp only [go_sem, reduceIte, Nat.reduceEqDiff, Nat.reduceAdd, Nat.reduceLeDiff, Nat.reduceLT, Nat.reduceSub, Nat.reduceBEq, ne_eq, not_false_eq_true, hs_all hlt, hc8]
    obtain ⟨r12, hr12, hF⟩ := bindE hF
    refine DoesR_m (callA_ptr (by simp only [go_sem]) (hs_getL hlt) (fun H hH => ih_F_tcomp_writer_value _ _ hr12 H _ _ _ _ _ hH)) ?_
    simp only [go_sem, reduceIte, Nat.reduceEqDiff, Nat.reduceAdd, Nat.reduceLeDiff, Nat.reduceLT, Nat.reduceSub, Nat.reduceBEq, ne_eq, not_false_eq_true, hs_all hlt, hc8]
    refine aft_gc_drop (by simp only [go_sem, reduceIte, Nat.reduceEqDiff, Nat.reduceAdd, Nat.reduceLeDiff, Nat.reduceLT, Nat.reduceSub, Nat.reduceBEq, ne_eq, not_false_eq_true, hs_all hlt, hc8] <;> omega) ?_
    simp only [go_sem, reduceIte, Nat.reduceEqDiff, Nat.reduceAdd, Nat.reduceLeDiff, Nat.reduceLT, Nat.reduceSub, Nat.reduceBEq, ne_eq, not_false_eq_true, hs_all hlt, hc8]
    exact ih_F_tcomp_writer_pairs_16 _ _ hF _ _ _ _ _ _ hlt
  · simp only [go_sem, reduceIte, Nat.reduceEqDiff, Nat.reduceAdd, Nat.reduceLeDiff, Nat.reduceLT, Nat.reduceSub, Nat.reduceBEq, ne_eq, not_false_eq_true, hs_all hlt, hc8]
    all_goals (cases hF; rfl)
set_option maxHeartbeats 4000000 in
theorem st_F_tcomp_writer_list (f_F_tcomp_writer_list_22 : (List UInt8 × List YValue × Ytcomp_writer) → Option (Ytcomp_writer)) (ih_F_tcomp_writer_list_22 : ∀ v p, f_F_tcomp_writer_list_22 v = some p → M_F_tcomp_writer_list_22 v p) (v : Ytcomp_writer × List UInt8 × List YValue) (p : Ytcomp_writer) (hF : (
  if (decide ((v.2.2.length : Int) < (15 : Int))) = true then (
    ishl .i64 (v.2.2.length : Int) 4 >>= fun x2 =>
    F_tcomp_writer_short v.1 v.2.1 >>= fun r3 =>
    F_tcomp_writer_byte v.1 (ior .i64 x2 r3) >>= fun r4 =>
    f_F_tcomp_writer_list_22 (v.2.1, v.2.2, r4)
  ) else
  F_tcomp_writer_short v.1 v.2.1 >>= fun r8 =>
  F_tcomp_writer_byte v.1 (ior .i64 240 r8) >>= fun r9 =>
  F_tcomp_writer_num r9 (IntKind.u64.wrap (v.2.2.length : Int)) >>= fun r10 =>
  f_F_tcomp_writer_list_22 (v.2.1, v.2.2, r10)) = some p) : M_F_tcomp_writer_list v p := by
  intro h b rest o0 o1 o2 hlt
  refine run_ofK at_tcomp_writer_list (n := h.length) (by simp only [List.length_set]) ?_
  simp only [go_sem, reduceIte, Nat.reduceEqDiff, Nat.reduceAdd, Nat.reduceLeDiff, Nat.reduceLT, Nat.reduceSub, Nat.reduceBEq, ne_eq, not_false_eq_true, hs_all hlt]
  rcases iteE hF with ⟨hc1, hF⟩ | ⟨hc1, hF⟩
  · simp only [go_sem, reduceIte, Nat.reduceEqDiff, Nat.reduceAdd, Nat.reduceLeDiff, Nat.reduceLT, Nat.reduceSub, Nat.reduceBEq, ne_eq, not_false_eq_true, hs_all hlt, hc1]
    obtain ⟨x2, hx2, hF⟩ := bindE hF
    refine DoesO_m (hx2) ?_
    simp only [go_sem, reduceIte, Nat.reduceEqDiff, Nat.reduceAdd, Nat.reduceLeDiff, Nat.reduceLT, Nat.reduceSub, Nat.reduceBEq, ne_eq, not_false_eq_true, hs_all hlt, hc1]
    obtain ⟨r3, hr3, hF⟩ := bindE hF
    refine DoesR_m (call_F_tcomp_writer_short hr3 (hs_get hlt)) ?_
    simp only [go_sem, reduceIte, Nat.reduceEqDiff, Nat.reduceAdd, Nat.reduceLeDiff, Nat.reduceLT, Nat.reduceSub, Nat.reduceBEq, ne_eq, not_false_eq_true, hs_all hlt, hc1]
    obtain ⟨r4, hr4, hF⟩ := bindE hF
    refine DoesR_m (call_F_tcomp_writer_byte hr4 (hs_get hlt)) ?_
    simp only [go_sem, reduceIte, Nat.reduceEqDiff, Nat.reduceAdd, Nat.reduceLeDiff, Nat.reduceLT, Nat.reduceSub, Nat.reduceBEq, ne_eq, not_false_eq_true, hs_all hlt, hc1]
    exact ih_F_tcomp_writer_list_22 _ _ hF _ _ _ _ _ _ hlt
  · simp only [go_sem, reduceIte, Nat.reduceEqDiff, Nat.reduceAdd, Nat.reduceLeDiff, Nat.reduceLT, Nat.reduceSub, Nat.reduceBEq, ne_eq, not_false_eq_true, hs_all hlt, hc1]
    obtain ⟨r8, hr8, hF⟩ := bindE hF
    refine DoesR_m (call_F_tcomp_writer_short hr8 (hs_get hlt)) ?_
    simp only [go_sem, reduceIte, Nat.reduceEqDiff, Nat.reduceAdd, Nat.reduceLeDiff, Nat.reduceLT, Nat.reduceSub, Nat.reduceBEq, ne_eq, not_false_eq_true, hs_all hlt, hc1]
    obtain ⟨r9, hr9, hF⟩ := bindE hF
    refine DoesR_m (call_F_tcomp_writer_byte hr9 (hs_get hlt)) ?_
    simp only [go_sem, reduceIte, Nat.reduceEqDiff, Nat.reduceAdd, Nat.reduceLeDiff, Nat.reduceLT, Nat.reduceSub, Nat.reduceBEq, ne_eq, not_false_eq_true, hs_all hlt, hc1]
    obtain ⟨r10, hr10, hF⟩ := bindE hF
    refine DoesR_m (call_F_tcomp_writer_num hr10 (hs_get hlt)) ?_
    simp only [go_sem, reduceIte, Nat.reduceEqDiff, Nat.reduceAdd, Nat.reduceLeDiff, Nat.reduceLT, Nat.reduceSub, Nat.reduceBEq, ne_eq, not_false_eq_true, hs_all hlt, hc1]
    exact ih_F_tcomp_writer_list_22 _ _ hF _ _ _ _ _ _ hlt
set_option maxHeartbeats 4000000 in
theorem st_F_tcomp_writer_list_22 (f_F_tcomp_writer_list_18 : (List UInt8 × List YValue × Int × Int × Ytcomp_writer) → Option (Ytcomp_writer)) (ih_F_tcomp_writer_list_18 : ∀ v p, f_F_tcomp_writer_list_18 v = some p → M_F_tcomp_writer_list_18 v p) (v : List UInt8 × List YValue × Ytcomp_writer) (p : Ytcomp_writer) (hF : (
  f_F_tcomp_writer_list_18 (v.1, v.2.1, (v.2.1.length : Int), 0, v.2.2)) = some p) : M_F_tcomp_writer_list_22 v p := by
  intro h b rest o0 o1 o2 hlt
  unfold C108_22
  simp only [go_sem, reduceIte, Nat.reduceEqDiff, Nat.reduceAdd, Nat.reduceLeDiff, Nat.reduceLT, Nat.reduceSub, Nat.reduceBEq, ne_eq, not_false_eq_true, hs_all hlt]
  exact ih_F_tcomp_writer_list_18 _ _ hF _ _ _ _ _ _ hlt
set_option maxHeartbeats 4000000 in
theorem st_F_tcomp_writer_list_18 (f_F_tcomp_writer_value : (Ytcomp_writer × List UInt8 × YValue) → Option (Ytcomp_writer)) (ih_F_tcomp_writer_value : ∀ v p, f_F_tcomp_writer_value v = some p → M_F_tcomp_writer_value v p) (f_F_tcomp_writer_list_18 : (List UInt8 × List YValue × Int × Int × Ytcomp_writer) → Option (Ytcomp_writer)) (ih_F_tcomp_writer_list_18 : ∀ v p, f_F_tcomp_writer_list_18 v = some p → M_F_tcomp_writer_list_18 v p) (v : List UInt8 × List YValue × Int × Int × Ytcomp_writer) (p : Ytcomp_writer) (hF : (
  if (decide (v.2.2.2.1 < v.2.2.1)) = true then (
    lidx v.2.1 v.2.2.2.1 >>= fun x6 =>
    f_F_tcomp_writer_value (v.2.2.2.2, v.1, x6) >>= fun r7 =>
    f_F_tcomp_writer_list_18 (v.1, v.2.1, v.2.2.1, (iadd .i64 v.2.2.2.1 1), r7)
  ) else
  some v.2.2.2.2) = some p) : M_F_tcomp_writer_list_18 v p := by
  intro h b rest o0 o1 o2 hlt
  unfold C108_18
  simp only [go_sem, reduceIte, Nat.reduceEqDiff, Nat.reduceAdd, Nat.reduceLeDiff, Nat.reduceLT, Nat.reduceSub, Nat.reduceBEq, ne_eq, not_false_eq_true, hs_all hlt]
  rcases iteE hF with ⟨hc5, hF⟩ | ⟨hc5, hF⟩
  · simp only [go_sem, reduceIte, Nat.reduceEqDiff, Nat.reduceAdd, Nat.reduceLeDiff, Nat.reduceLT, Nat.reduceSub, Nat.reduceBEq, ne_eq, not_false_eq_true, hs_all hlt, hc5]
    obtain ⟨x6, hx6, hF⟩ := bindE hF
    refine DoesO_m (lidx_map YValue.av hx6) ?_
    simp only [go_sem, reduceIte, Nat.reduceEqDiff, Nat.reduceAdd, Nat.reduceLeDiff, Nat.reduceLT, Nat.reduceSub, Nat.reduceBEq, ne_eq, not_false_eq_true, hs_all hlt, hc5]
    obtain ⟨r7, hr7, hF⟩ := bindE hF
    refine DoesR_m (callA_ptr (by simp only [go_sem]) (hs_getL hlt) (fun H hH => ih_F_tcomp_writer_value _ _ hr7 H _ _ _ _ _ hH)) ?_
    simp only [go_sem, reduceIte, Nat.reduceEqDiff, Nat.reduceAdd, Nat.reduceLeDiff, Nat.reduceLT, Nat.reduceSub, Nat.reduceBEq, ne_eq, not_false_eq_true, hs_all hlt, hc5]
    refine aft_gc_drop (by simp only [go_sem, reduceIte, Nat.reduceEqDiff, Nat.reduceAdd, Nat.reduceLeDiff, Nat.reduceLT, Nat.reduceSub, Nat.reduceBEq, ne_eq, not_false_eq_true, hs_all hlt, hc5] <;> omega) ?_
    simp only [go_sem, reduceIte, Nat.reduceEqDiff, Nat.reduceAdd, Nat.reduceLeDiff, Nat.reduceLT, Nat.reduceSub, Nat.reduceBEq, ne_eq, not_false_eq_true, hs_all hlt, hc5]
    exact ih_F_tcomp_writer_list_18 _ _ hF _ _ _ _ _ _ hlt
  · simp only [go_sem, reduceIte, Nat.reduceEqDiff, Nat.reduceAdd, Nat.reduceLeDiff, Nat.reduceLT, Nat.reduceSub, Nat.reduceBEq, ne_eq, not_false_eq_true, hs_all hlt, hc5]
    all_goals (cases hF; rfl)
theorem s_F_tcomp_writer_fields : (∀ v p, F_tcomp_writer_fields v = some p → M_F_tcomp_writer_fields v p) ∧ (∀ v p, F_tcomp_writer_fields_42 v = some p → M_F_tcomp_writer_fields_42 v p) ∧ (∀ v p, F_tcomp_writer_fields_31 v = some p → M_F_tcomp_writer_fields_31 v p) ∧ (∀ v p, F_tcomp_writer_fields_20 v = some p → M_F_tcomp_writer_fields_20 v p) ∧ (∀ v p, F_tcomp_writer_fields_29 v = some p → M_F_tcomp_writer_fields_29 v p) ∧ (∀ v p, F_tcomp_writer_value v = some p → M_F_tcomp_writer_value v p) ∧ (∀ v p, F_tcomp_writer_value_64 v = some p → M_F_tcomp_writer_value_64 v p) ∧ (∀ v p, F_tcomp_writer_value_57 v = some p → M_F_tcomp_writer_value_57 v p) ∧ (∀ v p, F_tcomp_writer_value_54 v = some p → M_F_tcomp_writer_value_54 v p) ∧ (∀ v p, F_tcomp_writer_pairs v = some p → M_F_tcomp_writer_pairs v p) ∧ (∀ v p, F_tcomp_writer_pairs_16 v = some p → M_F_tcomp_writer_pairs_16 v p) ∧ (∀ v p, F_tcomp_writer_list v = some p → M_F_tcomp_writer_list v p) ∧ (∀ v p, F_tcomp_writer_list_22 v = some p → M_F_tcomp_writer_list_22 v p) ∧ (∀ v p, F_tcomp_writer_list_18 v = some p → M_F_tcomp_writer_list_18 v p) := F_tcomp_writer_fields.mutual_partial_correctness M_F_tcomp_writer_fields M_F_tcomp_writer_fields_42 M_F_tcomp_writer_fields_31 M_F_tcomp_writer_fields_20 M_F_tcomp_writer_fields_29 M_F_tcomp_writer_value M_F_tcomp_writer_value_64 M_F_tcomp_writer_value_57 M_F_tcomp_writer_value_54 M_F_tcomp_writer_pairs M_F_tcomp_writer_pairs_16 M_F_tcomp_writer_list M_F_tcomp_writer_list_22 M_F_tcomp_writer_list_18 (fun f0 i0 v p hF => st_F_tcomp_writer_fields f0 i0 v p hF) (fun f0 i0 v p hF => st_F_tcomp_writer_fields_42 f0 i0 v p hF) (fun f0 i0 v p hF => st_F_tcomp_writer_fields_31 f0 i0 v p hF) (fun f0 i0 v p hF => st_F_tcomp_writer_fields_20 f0 i0 v p hF) (fun f0 f1 i0 i1 v p hF => st_F_tcomp_writer_fields_29 f0 i0 f1 i1 v p hF) (fun f0 i0 v p hF => st_F_tcomp_writer_value f0 i0 v p hF) (fun f0 i0 v p hF => st_F_tcomp_writer_value_64 f0 i0 v p hF) (fun f0 i0 v p hF => st_F_tcomp_writer_value_57 f0 i0 v p hF) (fun f0 f1 f2 i0 i1 i2 v p hF => st_F_tcomp_writer_value_54 f0 i0 f1 i1 f2 i2 v p hF) (fun f0 i0 v p hF => st_F_tcomp_writer_pairs f0 i0 v p hF) (fun f0 f1 i0 i1 v p hF => st_F_tcomp_writer_pairs_16 f0 i0 f1 i1 v p hF) (fun f0 i0 v p hF => st_F_tcomp_writer_list f0 i0 v p hF) (fun f0 i0 v p hF => st_F_tcomp_writer_list_22 f0 i0 v p hF) (fun f0 f1 i0 i1 v p hF => st_F_tcomp_writer_list_18 f0 i0 f1 i1 v p hF)
theorem t_F_tcomp_writer_fields : ∀ v p, F_tcomp_writer_fields v = some p → M_F_tcomp_writer_fields v p := s_F_tcomp_writer_fields.1
theorem t_F_tcomp_writer_fields_42 : ∀ v p, F_tcomp_writer_fields_42 v = some p → M_F_tcomp_writer_fields_42 v p := s_F_tcomp_writer_fields.2.1
theorem t_F_tcomp_writer_fields_31 : ∀ v p, F_tcomp_writer_fields_31 v = some p → M_F_tcomp_writer_fields_31 v p := s_F_tcomp_writer_fields.2.2.1
theorem t_F_tcomp_writer_fields_20 : ∀ v p, F_tcomp_writer_fields_20 v = some p → M_F_tcomp_writer_fields_20 v p := s_F_tcomp_writer_fields.2.2.2.1
theorem t_F_tcomp_writer_fields_29 : ∀ v p, F_tcomp_writer_fields_29 v = some p → M_F_tcomp_writer_fields_29 v p := s_F_tcomp_writer_fields.2.2.2.2.1
theorem t_F_tcomp_writer_value : ∀ v p, F_tcomp_writer_value v = some p → M_F_tcomp_writer_value v p := s_F_tcomp_writer_fields.2.2.2.2.2.1
theorem t_F_tcomp_writer_value_64 : ∀ v p, F_tcomp_writer_value_64 v = some p → M_F_tcomp_writer_value_64 v p := s_F_tcomp_writer_fields.2.2.2.2.2.2.1
theorem t_F_tcomp_writer_value_57 : ∀ v p, F_tcomp_writer_value_57 v = some p → M_F_tcomp_writer_value_57 v p := s_F_tcomp_writer_fields.2.2.2.2.2.2.2.1
theorem t_F_tcomp_writer_value_54 : ∀ v p, F_tcomp_writer_value_54 v = some p → M_F_tcomp_writer_value_54 v p := s_F_tcomp_writer_fields.2.2.2.2.2.2.2.2.1
theorem t_F_tcomp_writer_pairs : ∀ v p, F_tcomp_writer_pairs v = some p → M_F_tcomp_writer_pairs v p := s_F_tcomp_writer_fields.2.2.2.2.2.2.2.2.2.1
theorem t_F_tcomp_writer_pairs_16 : ∀ v p, F_tcomp_writer_pairs_16 v = some p → M_F_tcomp_writer_pairs_16 v p := s_F_tcomp_writer_fields.2.2.2.2.2.2.2.2.2.2.1
theorem t_F_tcomp_writer_list : ∀ v p, F_tcomp_writer_list v = some p → M_F_tcomp_writer_list v p := s_F_tcomp_writer_fields.2.2.2.2.2.2.2.2.2.2.2.1
theorem t_F_tcomp_writer_list_22 : ∀ v p, F_tcomp_writer_list_22 v = some p → M_F_tcomp_writer_list_22 v p := s_F_tcomp_writer_fields.2.2.2.2.2.2.2.2.2.2.2.2.1
theorem t_F_tcomp_writer_list_18 : ∀ v p, F_tcomp_writer_list_18 v = some p → M_F_tcomp_writer_list_18 v p := s_F_tcomp_writer_fields.2.2.2.2.2.2.2.2.2.2.2.2.2
theorem call_F_tcomp_writer_fields {w : Ytcomp_writer} {x : YSStruct} {v_ : YValue} {p : Ytcomp_writer} (hx : F_tcomp_writer_fields (w, x, v_) = some p) {h : Heap} {b : Nat} {rest : List AV} {o0 : Bool} {o1 : Bool} {o2 : Bool} (hb : h[b]? = some (.row ((.sl o0 3 (List.map YSStruct.av w.s.structs)) :: (.sl o1 2 (List.map YSEnum.av w.s.enums)) :: (.sl o2 2 (List.map YSService.av w.s.services)) :: (.sl true 1 (List.map e8 w.b_)) :: rest))) : callA (Run T0 N_tcomp_writer_fields) [.ptr b 0, .agg [.int .i64 x.kind, .str x.name, .sl false 10 (List.map YSField.av x.fields)], .agg [.int .i64 v_.kind, .int .i64 v_.n_, .str v_.s, .sl false 5 (List.map YValue.av v_.l), .sl false 1 (List.map (AV.int .i64) v_.iDs)]] h = some ((.tup []), h.set b (.row ((.sl o0 3 (List.map YSStruct.av p.s.structs)) :: (.sl o1 2 (List.map YSEnum.av p.s.enums)) :: (.sl o2 2 (List.map YSService.av p.s.services)) :: (.sl true 1 (List.map e8 p.b_)) :: rest))) :=
  callA_ptr (by simp only [go_sem]) hb (fun H hH => t_F_tcomp_writer_fields _ _ hx H b rest o0 o1 o2 hH)
theorem call_F_tcomp_writer_value {w : Ytcomp_writer} {t : List UInt8} {v_ : YValue} {p : Ytcomp_writer} (hx : F_tcomp_writer_value (w, t, v_) = some p) {h : Heap} {b : Nat} {rest : List AV} {o0 : Bool} {o1 : Bool} {o2 : Bool} (hb : h[b]? = some (.row ((.sl o0 3 (List.map YSStruct.av w.s.structs)) :: (.sl o1 2 (List.map YSEnum.av w.s.enums)) :: (.sl o2 2 (List.map YSService.av w.s.services)) :: (.sl true 1 (List.map e8 w.b_)) :: rest))) : callA (Run T0 N_tcomp_writer_value) [.ptr b 0, .str t, .agg [.int .i64 v_.kind, .int .i64 v_.n_, .str v_.s, .sl false 5 (List.map YValue.av v_.l), .sl false 1 (List.map (AV.int .i64) v_.iDs)]] h = some ((.tup []), h.set b (.row ((.sl o0 3 (List.map YSStruct.av p.s.structs)) :: (.sl o1 2 (List.map YSEnum.av p.s.enums)) :: (.sl o2 2 (List.map YSService.av p.s.services)) :: (.sl true 1 (List.map e8 p.b_)) :: rest))) :=
  callA_ptr (by simp only [go_sem]) hb (fun H hH => t_F_tcomp_writer_value _ _ hx H b rest o0 o1 o2 hH)
theorem call_F_tcomp_writer_pairs {w : Ytcomp_writer} {a : List UInt8} {b_ : List UInt8} {l : List YValue} {p : Ytcomp_writer} (hx : F_tcomp_writer_pairs (w, a, b_, l) = some p) {h : Heap} {b : Nat} {rest : List AV} {o0 : Bool} {o1 : Bool} {o2 : Bool} {o3 : Bool} (hb : h[b]? = some (.row ((.sl o0 3 (List.map YSStruct.av w.s.structs)) :: (.sl o1 2 (List.map YSEnum.av w.s.enums)) :: (.sl o2 2 (List.map YSService.av w.s.services)) :: (.sl o3 1 (List.map e8 w.b_)) :: rest))) : callA (Run T0 N_tcomp_writer_pairs) [.ptr b 0, .str a, .str b_, .sl false 5 (List.map YValue.av l)] h = some ((.tup []), h.set b (.row ((.sl o0 3 (List.map YSStruct.av p.s.structs)) :: (.sl o1 2 (List.map YSEnum.av p.s.enums)) :: (.sl o2 2 (List.map YSService.av p.s.services)) :: (.sl true 1 (List.map e8 p.b_)) :: rest))) :=
  callA_ptr (by simp only [go_sem]) hb (fun H hH => t_F_tcomp_writer_pairs _ _ hx H b rest o0 o1 o2 o3 hH)
theorem call_F_tcomp_writer_list {w : Ytcomp_writer} {t : List UInt8} {l : List YValue} {p : Ytcomp_writer} (hx : F_tcomp_writer_list (w, t, l) = some p) {h : Heap} {b : Nat} {rest : List AV} {o0 : Bool} {o1 : Bool} {o2 : Bool} (hb : h[b]? = some (.row ((.sl o0 3 (List.map YSStruct.av w.s.structs)) :: (.sl o1 2 (List.map YSEnum.av w.s.enums)) :: (.sl o2 2 (List.map YSService.av w.s.services)) :: (.sl true 1 (List.map e8 w.b_)) :: rest))) : callA (Run T0 N_tcomp_writer_list) [.ptr b 0, .str t, .sl false 5 (List.map YValue.av l)] h = some ((.tup []), h.set b (.row ((.sl o0 3 (List.map YSStruct.av p.s.structs)) :: (.sl o1 2 (List.map YSEnum.av p.s.enums)) :: (.sl o2 2 (List.map YSService.av p.s.services)) :: (.sl true 1 (List.map e8 p.b_)) :: rest))) :=
  callA_ptr (by simp only [go_sem]) hb (fun H hH => t_F_tcomp_writer_list _ _ hx H b rest o0 o1 o2 hH)
end Go.Proofs.YtfihinodhhhllaaGreat
