/- The functions as plain Lean functions, and that the runs come to their answers; printed by lift.py. -/
import Derived.Test.YtfihinodhhhllaaGreatIaH
import Derived.Test.YtfihinodhhhllaaGreatIaF2
import Derived.Test.YtfihinodhhhllaaGreatIaF3
set_option linter.unusedVariables false
set_option linter.unusedSimpArgs false
namespace Go.Proofs.YtfihinodhhhllaaGreat
open Go
mutual
def F_tbin_writer_fields (v : Ytbin_writer × YSStruct × YValue) : Option (Ytbin_writer) :=
  F_tbin_writer_fields_18 (v.2.2.iDs, (v.2.2.iDs.length : Int), 0, v.1, v.2.1, v.2.2)
  partial_fixpoint
def F_tbin_writer_fields_18 (v : List Int × Int × Int × Ytbin_writer × YSStruct × YValue) : Option (Ytbin_writer) :=
  if (decide (v.2.2.1 < v.2.1)) = true then (
    lidx v.1 v.2.2.1 >>= fun x2 =>
    F_value_Field v.2.2.2.2.1 x2 >>= fun r3 =>
    F_tbin_writer_wire v.2.2.2.1 r3.1.type_ >>= fun r4 =>
    F_tbin_writer_num v.2.2.2.1 (IntKind.u64.wrap r4) 1 >>= fun r5 =>
    F_tbin_writer_num r5 (IntKind.u64.wrap x2) 2 >>= fun r6 =>
    lidx v.2.2.2.2.2.l v.2.2.1 >>= fun x7 =>
    F_tbin_writer_value (r6, r3.1.type_, x7) >>= fun r8 =>
    F_tbin_writer_fields_18 (v.1, v.2.1, (iadd .i64 v.2.2.1 1), r8, v.2.2.2.2.1, v.2.2.2.2.2)
  ) else
  F_tbin_writer_num v.2.2.2.1 0 1 >>= fun r9 =>
  some r9
  partial_fixpoint
def F_tbin_writer_value (v : Ytbin_writer × List UInt8 × YValue) : Option (Ytbin_writer) :=
  F_kind_Head v.2.1 >>= fun r1 =>
  F_value_Kind v.1.s v.2.1 >>= fun r2 =>
  F_kind_Wire r2 >>= fun r3 =>
  F_tbin_width r3 >>= fun r4 =>
  if (decide (r4 > (0 : Int))) = true then (
    F_tbin_width r3 >>= fun r6 =>
    F_tbin_writer_num v.1 (IntKind.u64.wrap v.2.2.n_) r6 >>= fun r7 =>
    some r7
  ) else
  if (r3 == (11 : Int)) = true then (
    F_octet_PutText v.1.b_ v.2.2.s >>= fun r9 =>
    some (⟨v.1.s, r9⟩ : Ytbin_writer)
  ) else
  if (r3 == (15 : Int)) = true then (
    F_tbin_writer_value_56 (r1.2.1, r1.2.2.1, r1.2.2.2.1, r3, true, v.1, v.2.2)
  ) else
  F_tbin_writer_value_56 (r1.2.1, r1.2.2.1, r1.2.2.2.1, r3, (r3 == (14 : Int)), v.1, v.2.2)
  partial_fixpoint
def F_tbin_writer_value_56 (v : List UInt8 × List UInt8 × List UInt8 × Int × Bool × Ytbin_writer × YValue) : Option (Ytbin_writer) :=
  if v.2.2.2.2.1 = true then (
    F_tbin_writer_wire v.2.2.2.2.2.1 v.2.1 >>= fun r12 =>
    F_tbin_writer_num v.2.2.2.2.2.1 (IntKind.u64.wrap r12) 1 >>= fun r13 =>
    F_tbin_writer_num r13 (IntKind.u64.wrap (v.2.2.2.2.2.2.l.length : Int)) 4 >>= fun r14 =>
    F_tbin_writer_value_22 (v.2.1, v.2.2.2.2.2.2.l, (v.2.2.2.2.2.2.l.length : Int), 0, r14)
  ) else
  if (v.2.2.2.1 == (13 : Int)) = true then (
    F_tbin_writer_wire v.2.2.2.2.2.1 v.2.1 >>= fun r19 =>
    F_tbin_writer_num v.2.2.2.2.2.1 (IntKind.u64.wrap r19) 1 >>= fun r20 =>
    F_tbin_writer_wire r20 v.2.2.1 >>= fun r21 =>
    F_tbin_writer_num r20 (IntKind.u64.wrap r21) 1 >>= fun r22 =>
    iquo .i64 (v.2.2.2.2.2.2.l.length : Int) 2 >>= fun x23 =>
    F_tbin_writer_num r22 (IntKind.u64.wrap x23) 4 >>= fun r24 =>
    F_tbin_writer_value_43 (v.2.1, v.2.2.1, v.2.2.2.2.2.2.l, (v.2.2.2.2.2.2.l.length : Int), 0, r24)
  ) else
  F_value_Struct v.2.2.2.2.2.1.s v.1 >>= fun r30 =>
  F_tbin_writer_fields (v.2.2.2.2.2.1, r30.1, v.2.2.2.2.2.2) >>= fun r31 =>
  some r31
  partial_fixpoint
def F_tbin_writer_value_43 (v : List UInt8 × List UInt8 × List YValue × Int × Int × Ytbin_writer) : Option (Ytbin_writer) :=
  if (decide (v.2.2.2.2.1 < v.2.2.2.1)) = true then (
    lidx v.2.2.1 v.2.2.2.2.1 >>= fun x26 =>
    irem .i64 v.2.2.2.2.1 2 >>= fun x27 =>
    lidx [v.1, v.2.1] x27 >>= fun x28 =>
    F_tbin_writer_value (v.2.2.2.2.2, x28, x26) >>= fun r29 =>
    F_tbin_writer_value_43 (v.1, v.2.1, v.2.2.1, v.2.2.2.1, (iadd .i64 v.2.2.2.2.1 1), r29)
  ) else
  some v.2.2.2.2.2
  partial_fixpoint
def F_tbin_writer_value_22 (v : List UInt8 × List YValue × Int × Int × Ytbin_writer) : Option (Ytbin_writer) :=
  if (decide (v.2.2.2.1 < v.2.2.1)) = true then (
    lidx v.2.1 v.2.2.2.1 >>= fun x16 =>
    F_tbin_writer_value (v.2.2.2.2, v.1, x16) >>= fun r17 =>
    F_tbin_writer_value_22 (v.1, v.2.1, v.2.2.1, (iadd .i64 v.2.2.2.1 1), r17)
  ) else
  some v.2.2.2.2
  partial_fixpoint
end
theorem F_tbin_writer_fields_eq (w : Ytbin_writer) (x : YSStruct) (v_ : YValue) : F_tbin_writer_fields (w, x, v_) =
  F_tbin_writer_fields_18 (v_.iDs, (v_.iDs.length : Int), 0, w, x, v_) := F_tbin_writer_fields.eq_1 (w, x, v_)
theorem F_tbin_writer_fields_18_eq (t11 : List Int) (t12 : Int) (t13 : Int) (w : Ytbin_writer) (bx0 : YSStruct) (bx1 : YValue) : F_tbin_writer_fields_18 (t11, t12, t13, w, bx0, bx1) =
  if (decide (t13 < t12)) = true then (
    lidx t11 t13 >>= fun x2 =>
    F_value_Field bx0 x2 >>= fun r3 =>
    F_tbin_writer_wire w r3.1.type_ >>= fun r4 =>
    F_tbin_writer_num w (IntKind.u64.wrap r4) 1 >>= fun r5 =>
    F_tbin_writer_num r5 (IntKind.u64.wrap x2) 2 >>= fun r6 =>
    lidx bx1.l t13 >>= fun x7 =>
    F_tbin_writer_value (r6, r3.1.type_, x7) >>= fun r8 =>
    F_tbin_writer_fields_18 (t11, t12, (iadd .i64 t13 1), r8, bx0, bx1)
  ) else
  F_tbin_writer_num w 0 1 >>= fun r9 =>
  some r9 := F_tbin_writer_fields_18.eq_1 (t11, t12, t13, w, bx0, bx1)
theorem F_tbin_writer_value_eq (w : Ytbin_writer) (t : List UInt8) (v_ : YValue) : F_tbin_writer_value (w, t, v_) =
  F_kind_Head t >>= fun r1 =>
  F_value_Kind w.s t >>= fun r2 =>
  F_kind_Wire r2 >>= fun r3 =>
  F_tbin_width r3 >>= fun r4 =>
  if (decide (r4 > (0 : Int))) = true then (
    F_tbin_width r3 >>= fun r6 =>
    F_tbin_writer_num w (IntKind.u64.wrap v_.n_) r6 >>= fun r7 =>
    some r7
  ) else
  if (r3 == (11 : Int)) = true then (
    F_octet_PutText w.b_ v_.s >>= fun r9 =>
    some (⟨w.s, r9⟩ : Ytbin_writer)
  ) else
  if (r3 == (15 : Int)) = true then (
    F_tbin_writer_value_56 (r1.2.1, r1.2.2.1, r1.2.2.2.1, r3, true, w, v_)
  ) else
  F_tbin_writer_value_56 (r1.2.1, r1.2.2.1, r1.2.2.2.1, r3, (r3 == (14 : Int)), w, v_) := F_tbin_writer_value.eq_1 (w, t, v_)
theorem F_tbin_writer_value_56_eq (name : List UInt8) (a : List UInt8) (b_ : List UInt8) (wire : Int) (t72 : Bool) (w : Ytbin_writer) (bx0 : YValue) : F_tbin_writer_value_56 (name, a, b_, wire, t72, w, bx0) =
  if t72 = true then (
    F_tbin_writer_wire w a >>= fun r12 =>
    F_tbin_writer_num w (IntKind.u64.wrap r12) 1 >>= fun r13 =>
    F_tbin_writer_num r13 (IntKind.u64.wrap (bx0.l.length : Int)) 4 >>= fun r14 =>
    F_tbin_writer_value_22 (a, bx0.l, (bx0.l.length : Int), 0, r14)
  ) else
  if (wire == (13 : Int)) = true then (
    F_tbin_writer_wire w a >>= fun r19 =>
    F_tbin_writer_num w (IntKind.u64.wrap r19) 1 >>= fun r20 =>
    F_tbin_writer_wire r20 b_ >>= fun r21 =>
    F_tbin_writer_num r20 (IntKind.u64.wrap r21) 1 >>= fun r22 =>
    iquo .i64 (bx0.l.length : Int) 2 >>= fun x23 =>
    F_tbin_writer_num r22 (IntKind.u64.wrap x23) 4 >>= fun r24 =>
    F_tbin_writer_value_43 (a, b_, bx0.l, (bx0.l.length : Int), 0, r24)
  ) else
  F_value_Struct w.s name >>= fun r30 =>
  F_tbin_writer_fields (w, r30.1, bx0) >>= fun r31 =>
  some r31 := F_tbin_writer_value_56.eq_1 (name, a, b_, wire, t72, w, bx0)
theorem F_tbin_writer_value_43_eq (a : List UInt8) (b_ : List UInt8) (t126 : List YValue) (t127 : Int) (t128 : Int) (w : Ytbin_writer) : F_tbin_writer_value_43 (a, b_, t126, t127, t128, w) =
  if (decide (t128 < t127)) = true then (
    lidx t126 t128 >>= fun x26 =>
    irem .i64 t128 2 >>= fun x27 =>
    lidx [a, b_] x27 >>= fun x28 =>
    F_tbin_writer_value (w, x28, x26) >>= fun r29 =>
    F_tbin_writer_value_43 (a, b_, t126, t127, (iadd .i64 t128 1), r29)
  ) else
  some w := F_tbin_writer_value_43.eq_1 (a, b_, t126, t127, t128, w)
theorem F_tbin_writer_value_22_eq (a : List UInt8) (t92 : List YValue) (t93 : Int) (t94 : Int) (w : Ytbin_writer) : F_tbin_writer_value_22 (a, t92, t93, t94, w) =
  if (decide (t94 < t93)) = true then (
    lidx t92 t94 >>= fun x16 =>
    F_tbin_writer_value (w, a, x16) >>= fun r17 =>
    F_tbin_writer_value_22 (a, t92, t93, (iadd .i64 t94 1), r17)
  ) else
  some w := F_tbin_writer_value_22.eq_1 (a, t92, t93, t94, w)
def M_F_tbin_writer_fields (v : Ytbin_writer × YSStruct × YValue) (p : Ytbin_writer) : Prop := ∀ (h : Heap) (b : Nat) (rest : List AV) (o0 : Bool) (o1 : Bool) (o2 : Bool) (o3 : Bool) (hlt : b < h.length), Run T0 N_tbin_writer_fields [.ptr b 0, .agg [.int .i64 v.2.1.kind, .str v.2.1.name, .sl false 10 (List.map YSField.av v.2.1.fields)], .agg [.int .i64 v.2.2.kind, .int .i64 v.2.2.n_, .str v.2.2.s, .sl false 5 (List.map YValue.av v.2.2.l), .sl false 1 (List.map (AV.int .i64) v.2.2.iDs)]] (h.set b (.row ((.sl o0 3 (List.map YSStruct.av v.1.s.structs)) :: (.sl o1 2 (List.map YSEnum.av v.1.s.enums)) :: (.sl o2 2 (List.map YSService.av v.1.s.services)) :: (.sl o3 1 (List.map e8 v.1.b_)) :: rest))) = some ((.tup []), h.set b (.row ((.sl o0 3 (List.map YSStruct.av p.s.structs)) :: (.sl o1 2 (List.map YSEnum.av p.s.enums)) :: (.sl o2 2 (List.map YSService.av p.s.services)) :: (.sl true 1 (List.map e8 p.b_)) :: rest)))
def M_F_tbin_writer_fields_18 (v : List Int × Int × Int × Ytbin_writer × YSStruct × YValue) (p : Ytbin_writer) : Prop := ∀ (h : Heap) (b : Nat) (rest : List AV) (o0 : Bool) (o1 : Bool) (o2 : Bool) (o3 : Bool) (hlt : b < h.length), Does T0 C73_18 (aft T0 (EndQ false [] h.length (.tup []) (h.set b (.row ((.sl o0 3 (List.map YSStruct.av p.s.structs)) :: (.sl o1 2 (List.map YSEnum.av p.s.enums)) :: (.sl o2 2 (List.map YSService.av p.s.services)) :: (.sl true 1 (List.map e8 p.b_)) :: rest)))) [.gc (h.length + 2), .lp C73_19, .blk 0, .seq C73_23]) .mk .mk [(0, .ptr b 0), (4, .ptr h.length 0), (5, .ptr (h.length + 1) 0), (11, .sl false 1 (List.map (AV.int .i64) v.1)), (12, .int .i64 v.2.1), (13, .int .i64 v.2.2.1)] ((h.set b (.row ((.sl o0 3 (List.map YSStruct.av v.2.2.2.1.s.structs)) :: (.sl o1 2 (List.map YSEnum.av v.2.2.2.1.s.enums)) :: (.sl o2 2 (List.map YSService.av v.2.2.2.1.s.services)) :: (.sl o3 1 (List.map e8 v.2.2.2.1.b_)) :: rest))) ++ [.row [.int .i64 v.2.2.2.2.1.kind, .str v.2.2.2.2.1.name, .sl false 10 (List.map YSField.av v.2.2.2.2.1.fields)], .row [.int .i64 v.2.2.2.2.2.kind, .int .i64 v.2.2.2.2.2.n_, .str v.2.2.2.2.2.s, .sl false 5 (List.map YValue.av v.2.2.2.2.2.l), .sl false 1 (List.map (AV.int .i64) v.2.2.2.2.2.iDs)]])
def M_F_tbin_writer_value (v : Ytbin_writer × List UInt8 × YValue) (p : Ytbin_writer) : Prop := ∀ (h : Heap) (b : Nat) (rest : List AV) (o0 : Bool) (o1 : Bool) (o2 : Bool) (o3 : Bool) (hlt : b < h.length), Run T0 N_tbin_writer_value [.ptr b 0, .str v.2.1, .agg [.int .i64 v.2.2.kind, .int .i64 v.2.2.n_, .str v.2.2.s, .sl false 5 (List.map YValue.av v.2.2.l), .sl false 1 (List.map (AV.int .i64) v.2.2.iDs)]] (h.set b (.row ((.sl o0 3 (List.map YSStruct.av v.1.s.structs)) :: (.sl o1 2 (List.map YSEnum.av v.1.s.enums)) :: (.sl o2 2 (List.map YSService.av v.1.s.services)) :: (.sl o3 1 (List.map e8 v.1.b_)) :: rest))) = some ((.tup []), h.set b (.row ((.sl o0 3 (List.map YSStruct.av p.s.structs)) :: (.sl o1 2 (List.map YSEnum.av p.s.enums)) :: (.sl o2 2 (List.map YSService.av p.s.services)) :: (.sl true 1 (List.map e8 p.b_)) :: rest)))
def M_F_tbin_writer_value_56 (v : List UInt8 × List UInt8 × List UInt8 × Int × Bool × Ytbin_writer × YValue) (p : Ytbin_writer) : Prop := ∀ (h : Heap) (b : Nat) (rest : List AV) (o0 : Bool) (o1 : Bool) (o2 : Bool) (o3 : Bool) (hlt : b < h.length), Does T0 C30_56 (aft T0 (EndQ false [] h.length (.tup []) (h.set b (.row ((.sl o0 3 (List.map YSStruct.av p.s.structs)) :: (.sl o1 2 (List.map YSEnum.av p.s.enums)) :: (.sl o2 2 (List.map YSService.av p.s.services)) :: (.sl true 1 (List.map e8 p.b_)) :: rest)))) [.blk 0]) .mk .mk [(0, .ptr b 0), (5, .ptr h.length 0), (7, .str v.1), (8, .str v.2.1), (9, .str v.2.2.1), (12, .int .i64 v.2.2.2.1), (72, .bool v.2.2.2.2.1)] ((h.set b (.row ((.sl o0 3 (List.map YSStruct.av v.2.2.2.2.2.1.s.structs)) :: (.sl o1 2 (List.map YSEnum.av v.2.2.2.2.2.1.s.enums)) :: (.sl o2 2 (List.map YSService.av v.2.2.2.2.2.1.s.services)) :: (.sl o3 1 (List.map e8 v.2.2.2.2.2.1.b_)) :: rest))) ++ [.row [.int .i64 v.2.2.2.2.2.2.kind, .int .i64 v.2.2.2.2.2.2.n_, .str v.2.2.2.2.2.2.s, .sl false 5 (List.map YValue.av v.2.2.2.2.2.2.l), .sl false 1 (List.map (AV.int .i64) v.2.2.2.2.2.2.iDs)]])
def M_F_tbin_writer_value_43 (v : List UInt8 × List UInt8 × List YValue × Int × Int × Ytbin_writer) (p : Ytbin_writer) : Prop := ∀ (h : Heap) (b : Nat) (rest : List AV) (o0 : Bool) (o1 : Bool) (o2 : Bool) (z0 : Box) (hlt : b < h.length), Does T0 C30_43 (aft T0 (EndQ false [] h.length (.tup []) (h.set b (.row ((.sl o0 3 (List.map YSStruct.av p.s.structs)) :: (.sl o1 2 (List.map YSEnum.av p.s.enums)) :: (.sl o2 2 (List.map YSService.av p.s.services)) :: (.sl true 1 (List.map e8 p.b_)) :: rest)))) [.gc (h.length + 1), .lp C30_44, .blk 3, .blk 0]) .mk .mk [(0, .ptr b 0), (8, .str v.1), (9, .str v.2.1), (126, .sl false 5 (List.map YValue.av v.2.2.1)), (127, .int .i64 v.2.2.2.1), (128, .int .i64 v.2.2.2.2.1)] ((h.set b (.row ((.sl o0 3 (List.map YSStruct.av v.2.2.2.2.2.s.structs)) :: (.sl o1 2 (List.map YSEnum.av v.2.2.2.2.2.s.enums)) :: (.sl o2 2 (List.map YSService.av v.2.2.2.2.2.s.services)) :: (.sl true 1 (List.map e8 v.2.2.2.2.2.b_)) :: rest))) ++ [z0])
def M_F_tbin_writer_value_22 (v : List UInt8 × List YValue × Int × Int × Ytbin_writer) (p : Ytbin_writer) : Prop := ∀ (h : Heap) (b : Nat) (rest : List AV) (o0 : Bool) (o1 : Bool) (o2 : Bool) (z0 : Box) (hlt : b < h.length), Does T0 C30_22 (aft T0 (EndQ false [] h.length (.tup []) (h.set b (.row ((.sl o0 3 (List.map YSStruct.av p.s.structs)) :: (.sl o1 2 (List.map YSEnum.av p.s.enums)) :: (.sl o2 2 (List.map YSService.av p.s.services)) :: (.sl true 1 (List.map e8 p.b_)) :: rest)))) [.gc (h.length + 1), .lp C30_23, .blk 1, .blk 0]) .mk .mk [(0, .ptr b 0), (8, .str v.1), (92, .sl false 5 (List.map YValue.av v.2.1)), (93, .int .i64 v.2.2.1), (94, .int .i64 v.2.2.2.1)] ((h.set b (.row ((.sl o0 3 (List.map YSStruct.av v.2.2.2.2.s.structs)) :: (.sl o1 2 (List.map YSEnum.av v.2.2.2.2.s.enums)) :: (.sl o2 2 (List.map YSService.av v.2.2.2.2.s.services)) :: (.sl true 1 (List.map e8 v.2.2.2.2.b_)) :: rest))) ++ [z0])
set_option maxHeartbeats 4000000 in
theorem st_F_tbin_writer_fields (f_F_tbin_writer_fields_18 : (List Int × Int × Int × Ytbin_writer × YSStruct × YValue) → Option (Ytbin_writer)) (ih_F_tbin_writer_fields_18 : ∀ v p, f_F_tbin_writer_fields_18 v = some p → M_F_tbin_writer_fields_18 v p) (v : Ytbin_writer × YSStruct × YValue) (p : Ytbin_writer) (hF : (
  f_F_tbin_writer_fields_18 (v.2.2.iDs, (v.2.2.iDs.length : Int), 0, v.1, v.2.1, v.2.2)) = some p) : M_F_tbin_writer_fields v p := by
  intro h b rest o0 o1 o2 o3 hlt
  refine run_ofK at_tbin_writer_fields (n := h.length) (by simp only [List.length_set]) ?_
  simp only [go_sem, reduceIte, Nat.reduceEqDiff, Nat.reduceAdd, Nat.reduceLeDiff, Nat.reduceLT, Nat.reduceSub, Nat.reduceBEq, ne_eq, not_false_eq_true, hs_all hlt]
  exact ih_F_tbin_writer_fields_18 _ _ hF _ _ _ _ _ _ _ hlt
set_option maxHeartbeats 4000000 in
theorem st_F_tbin_writer_fields_18 (f_F_tbin_writer_fields_18 : (List Int × Int × Int × Ytbin_writer × YSStruct × YValue) → Option (Ytbin_writer)) (ih_F_tbin_writer_fields_18 : ∀ v p, f_F_tbin_writer_fields_18 v = some p → M_F_tbin_writer_fields_18 v p) (f_F_tbin_writer_value : (Ytbin_writer × List UInt8 × YValue) → Option (Ytbin_writer)) (ih_F_tbin_writer_value : ∀ v p, f_F_tbin_writer_value v = some p → M_F_tbin_writer_value v p) (v : List Int × Int × Int × Ytbin_writer × YSStruct × YValue) (p : Ytbin_writer) (hF : (
  if (decide (v.2.2.1 < v.2.1)) = true then (
    lidx v.1 v.2.2.1 >>= fun x2 =>
    F_value_Field v.2.2.2.2.1 x2 >>= fun r3 =>
    F_tbin_writer_wire v.2.2.2.1 r3.1.type_ >>= fun r4 =>
    F_tbin_writer_num v.2.2.2.1 (IntKind.u64.wrap r4) 1 >>= fun r5 =>
    F_tbin_writer_num r5 (IntKind.u64.wrap x2) 2 >>= fun r6 =>
    lidx v.2.2.2.2.2.l v.2.2.1 >>= fun x7 =>
    f_F_tbin_writer_value (r6, r3.1.type_, x7) >>= fun r8 =>
    f_F_tbin_writer_fields_18 (v.1, v.2.1, (iadd .i64 v.2.2.1 1), r8, v.2.2.2.2.1, v.2.2.2.2.2)
  ) else
  F_tbin_writer_num v.2.2.2.1 0 1 >>= fun r9 =>
  some r9) = some p) : M_F_tbin_writer_fields_18 v p := by
  intro h b rest o0 o1 o2 o3 hlt
  unfold C73_18
  simp only [go_sem, reduceIte, Nat.reduceEqDiff, Nat.reduceAdd, Nat.reduceLeDiff, Nat.reduceLT, Nat.reduceSub, Nat.reduceBEq, ne_eq, not_false_eq_true, hs_all hlt]
  rcases iteE hF with ⟨hc1, hF⟩ | ⟨hc1, hF⟩
  · simp only [go_sem, reduceIte, Nat.reduceEqDiff, Nat.reduceAdd, Nat.reduceLeDiff, Nat.reduceLT, Nat.reduceSub, Nat.reduceBEq, ne_eq, not_false_eq_true, hs_all hlt, hc1]
    obtain ⟨x2, hx2, hF⟩ := bindE hF
    refine DoesO_m (lidx_map (AV.int .i64) hx2) ?_
    simp only [go_sem, reduceIte, Nat.reduceEqDiff, Nat.reduceAdd, Nat.reduceLeDiff, Nat.reduceLT, Nat.reduceSub, Nat.reduceBEq, ne_eq, not_false_eq_true, hs_all hlt, hc1]
    obtain ⟨r3, hr3, hF⟩ := bindE hF
    refine DoesR_m (call_F_value_Field hr3) ?_
    simp only [go_sem, reduceIte, Nat.reduceEqDiff, Nat.reduceAdd, Nat.reduceLeDiff, Nat.reduceLT, Nat.reduceSub, Nat.reduceBEq, ne_eq, not_false_eq_true, hs_all hlt, hc1]
    obtain ⟨r4, hr4, hF⟩ := bindE hF
    refine DoesR_m (call_F_tbin_writer_wire hr4 (hs_getL hlt)) ?_
    simp only [go_sem, reduceIte, Nat.reduceEqDiff, Nat.reduceAdd, Nat.reduceLeDiff, Nat.reduceLT, Nat.reduceSub, Nat.reduceBEq, ne_eq, not_false_eq_true, hs_all hlt, hc1]
    obtain ⟨r5, hr5, hF⟩ := bindE hF
    refine DoesR_m (call_F_tbin_writer_num hr5 (hs_getL hlt)) ?_
    simp only [go_sem, reduceIte, Nat.reduceEqDiff, Nat.reduceAdd, Nat.reduceLeDiff, Nat.reduceLT, Nat.reduceSub, Nat.reduceBEq, ne_eq, not_false_eq_true, hs_all hlt, hc1]
    obtain ⟨r6, hr6, hF⟩ := bindE hF
    refine DoesR_m (call_F_tbin_writer_num hr6 (hs_getL hlt)) ?_
    simp only [go_sem, reduceIte, Nat.reduceEqDiff, Nat.reduceAdd, Nat.reduceLeDiff, Nat.reduceLT, Nat.reduceSub, Nat.reduceBEq, ne_eq, not_false_eq_true, hs_all hlt, hc1]
    obtain ⟨x7, hx7, hF⟩ := bindE hF
    refine DoesO_m (lidx_map YValue.av hx7) ?_
    simp only [go_sem, reduceIte, Nat.reduceEqDiff, Nat.reduceAdd, Nat.reduceLeDiff, Nat.reduceLT, Nat.reduceSub, Nat.reduceBEq, ne_eq, not_false_eq_true, hs_all hlt, hc1]
    obtain ⟨r8, hr8, hF⟩ := bindE hF
    refine DoesR_m (callA_ptr (by simp only [go_sem]) (hs_getL hlt) (fun H hH => ih_F_tbin_writer_value _ _ hr8 H _ _ _ _ _ _ hH)) ?_
    simp only [go_sem, reduceIte, Nat.reduceEqDiff, Nat.reduceAdd, Nat.reduceLeDiff, Nat.reduceLT, Nat.reduceSub, Nat.reduceBEq, ne_eq, not_false_eq_true, hs_all hlt, hc1]
    refine aft_gc_drop (by simp only [go_sem, reduceIte, Nat.reduceEqDiff, Nat.reduceAdd, Nat.reduceLeDiff, Nat.reduceLT, Nat.reduceSub, Nat.reduceBEq, ne_eq, not_false_eq_true, hs_all hlt, hc1] <;> omega) ?_
    simp only [go_sem, reduceIte, Nat.reduceEqDiff, Nat.reduceAdd, Nat.reduceLeDiff, Nat.reduceLT, Nat.reduceSub, Nat.reduceBEq, ne_eq, not_false_eq_true, hs_all hlt, hc1]
    exact ih_F_tbin_writer_fields_18 _ _ hF _ _ _ _ _ _ _ hlt
  · simp only [go_sem, reduceIte, Nat.reduceEqDiff, Nat.reduceAdd, Nat.reduceLeDiff, Nat.reduceLT, Nat.reduceSub, Nat.reduceBEq, ne_eq, not_false_eq_true, hs_all hlt, hc1]
    obtain ⟨r9, hr9, hF⟩ := bindE hF
    refine DoesR_m (call_F_tbin_writer_num hr9 (hs_getL hlt)) ?_
    simp only [go_sem, reduceIte, Nat.reduceEqDiff, Nat.reduceAdd, Nat.reduceLeDiff, Nat.reduceLT, Nat.reduceSub, Nat.reduceBEq, ne_eq, not_false_eq_true, hs_all hlt, hc1]
    all_goals (cases hF; rfl)
set_option maxHeartbeats 4000000 in
theorem st_F_tbin_writer_value (f_F_tbin_writer_value_56 : (List UInt8 × List UInt8 × List UInt8 × Int × Bool × Ytbin_writer × YValue) → Option (Ytbin_writer)) (ih_F_tbin_writer_value_56 : ∀ v p, f_F_tbin_writer_value_56 v = some p → M_F_tbin_writer_value_56 v p) (v : Ytbin_writer × List UInt8 × YValue) (p : Ytbin_writer) (hF : (
  F_kind_Head v.2.1 >>= fun r1 =>
  F_value_Kind v.1.s v.2.1 >>= fun r2 =>
  F_kind_Wire r2 >>= fun r3 =>
  F_tbin_width r3 >>= fun r4 =>
  if (decide (r4 > (0 : Int))) = true then (
    F_tbin_width r3 >>= fun r6 =>
    F_tbin_writer_num v.1 (IntKind.u64.wrap v.2.2.n_) r6 >>= fun r7 =>
    some r7
  ) else
  if (r3 == (11 : Int)) = true then (
    F_octet_PutText v.1.b_ v.2.2.s >>= fun r9 =>
    some (⟨v.1.s, r9⟩ : Ytbin_writer)
  ) else
  if (r3 == (15 : Int)) = true then (
    f_F_tbin_writer_value_56 (r1.2.1, r1.2.2.1, r1.2.2.2.1, r3, true, v.1, v.2.2)
  ) else
  f_F_tbin_writer_value_56 (r1.2.1, r1.2.2.1, r1.2.2.2.1, r3, (r3 == (14 : Int)), v.1, v.2.2)) = some p) : M_F_tbin_writer_value v p := by
  intro h b rest o0 o1 o2 o3 hlt
  refine run_ofK at_tbin_writer_value (n := h.length) (by simp only [List.length_set]) ?_
  simp only [go_sem, reduceIte, Nat.reduceEqDiff, Nat.reduceAdd, Nat.reduceLeDiff, Nat.reduceLT, Nat.reduceSub, Nat.reduceBEq, ne_eq, not_false_eq_true, hs_all hlt]
  obtain ⟨r1, hr1, hF⟩ := bindE hF
  refine DoesR_m (call_F_kind_Head hr1) ?_
  simp only [go_sem, reduceIte, Nat.reduceEqDiff, Nat.reduceAdd, Nat.reduceLeDiff, Nat.reduceLT, Nat.reduceSub, Nat.reduceBEq, ne_eq, not_false_eq_true, hs_all hlt]
  obtain ⟨r2, hr2, hF⟩ := bindE hF
  refine DoesR_m (call_F_value_Kind hr2) ?_
  simp only [go_sem, reduceIte, Nat.reduceEqDiff, Nat.reduceAdd, Nat.reduceLeDiff, Nat.reduceLT, Nat.reduceSub, Nat.reduceBEq, ne_eq, not_false_eq_true, hs_all hlt]
  obtain ⟨r3, hr3, hF⟩ := bindE hF
  refine DoesR_m (call_F_kind_Wire hr3) ?_
  simp only [go_sem, reduceIte, Nat.reduceEqDiff, Nat.reduceAdd, Nat.reduceLeDiff, Nat.reduceLT, Nat.reduceSub, Nat.reduceBEq, ne_eq, not_false_eq_true, hs_all hlt]
  obtain ⟨r4, hr4, hF⟩ := bindE hF
  refine DoesR_m (call_F_tbin_width hr4) ?_
  simp only [go_sem, reduceIte, Nat.reduceEqDiff, Nat.reduceAdd, Nat.reduceLeDiff, Nat.reduceLT, Nat.reduceSub, Nat.reduceBEq, ne_eq, not_false_eq_true, hs_all hlt]
  rcases iteE hF with ⟨hc5, hF⟩ | ⟨hc5, hF⟩
  · simp only [go_sem, reduceIte, Nat.reduceEqDiff, Nat.reduceAdd, Nat.reduceLeDiff, Nat.reduceLT, Nat.reduceSub, Nat.reduceBEq, ne_eq, not_false_eq_true, hs_all hlt, hc5]
    obtain ⟨r6, hr6, hF⟩ := bindE hF
    refine DoesR_m (call_F_tbin_width hr6) ?_
    simp only [go_sem, reduceIte, Nat.reduceEqDiff, Nat.reduceAdd, Nat.reduceLeDiff, Nat.reduceLT, Nat.reduceSub, Nat.reduceBEq, ne_eq, not_false_eq_true, hs_all hlt, hc5]
    obtain ⟨r7, hr7, hF⟩ := bindE hF
    refine DoesR_m (call_F_tbin_writer_num hr7 (hs_getL hlt)) ?_
    simp only [go_sem, reduceIte, Nat.reduceEqDiff, Nat.reduceAdd, Nat.reduceLeDiff, Nat.reduceLT, Nat.reduceSub, Nat.reduceBEq, ne_eq, not_false_eq_true, hs_all hlt, hc5]
    all_goals (cases hF; rfl)
  · simp only [go_sem, reduceIte, Nat.reduceEqDiff, Nat.reduceAdd, Nat.reduceLeDiff, Nat.reduceLT, Nat.reduceSub, Nat.reduceBEq, ne_eq, not_false_eq_true, hs_all hlt, hc5]
    rcases iteE hF with ⟨hc8, hF⟩ | ⟨hc8, hF⟩
    · simp only [go_sem, reduceIte, Nat.reduceEqDiff, Nat.reduceAdd, Nat.reduceLeDiff, Nat.reduceLT, Nat.reduceSub, Nat.reduceBEq, ne_eq, not_false_eq_true, hs_all hlt, hc5, hc8]
      obtain ⟨r9, hr9, hF⟩ := bindE hF
      refine DoesR_m (call_F_octet_PutText hr9) ?_
      simp only [go_sem, reduceIte, Nat.reduceEqDiff, Nat.reduceAdd, Nat.reduceLeDiff, Nat.reduceLT, Nat.reduceSub, Nat.reduceBEq, ne_eq, not_false_eq_true, hs_all hlt, hc5, hc8]
      all_goals (cases hF; rfl)
    · simp only [go_sem, reduceIte, Nat.reduceEqDiff, Nat.reduceAdd, Nat.reduceLeDiff, Nat.reduceLT, Nat.reduceSub, Nat.reduceBEq, ne_eq, not_false_eq_true, hs_all hlt, hc5, hc8]
      rcases iteE hF with ⟨hc10, hF⟩ | ⟨hc10, hF⟩
      · simp only [go_sem, reduceIte, Nat.reduceEqDiff, Nat.reduceAdd, Nat.reduceLeDiff, Nat.reduceLT, Nat.reduceSub, Nat.reduceBEq, ne_eq, not_false_eq_true, hs_all hlt, hc5, hc8, hc10]
        exact ih_F_tbin_writer_value_56 _ _ hF _ _ _ _ _ _ _ hlt
      · simp only [go_sem, reduceIte, Nat.reduceEqDiff, Nat.reduceAdd, Nat.reduceLeDiff, Nat.reduceLT, Nat.reduceSub, Nat.reduceBEq, ne_eq, not_false_eq_true, hs_all hlt, hc5, hc8, hc10]
        exact ih_F_tbin_writer_value_56 _ _ hF _ _ _ _ _ _ _ hlt
set_option maxHeartbeats 4000000 in
theorem st_F_tbin_writer_value_56 (f_F_tbin_writer_fields : (Ytbin_writer × YSStruct × YValue) → Option (Ytbin_writer)) (ih_F_tbin_writer_fields : ∀ v p, f_F_tbin_writer_fields v = some p → M_F_tbin_writer_fields v p) (f_F_tbin_writer_value_43 : (List UInt8 × List UInt8 × List YValue × Int × Int × Ytbin_writer) → Option (Ytbin_writer)) (ih_F_tbin_writer_value_43 : ∀ v p, f_F_tbin_writer_value_43 v = some p → M_F_tbin_writer_value_43 v p) (f_F_tbin_writer_value_22 : (List UInt8 × List YValue × Int × Int × Ytbin_writer) → Option (Ytbin_writer)) (ih_F_tbin_writer_value_22 : ∀ v p, f_F_tbin_writer_value_22 v = some p → M_F_tbin_writer_value_22 v p) (v : List UInt8 × List UInt8 × List UInt8 × Int × Bool × Ytbin_writer × YValue) (p : Ytbin_writer) (hF : (
  if v.2.2.2.2.1 = true then (
    F_tbin_writer_wire v.2.2.2.2.2.1 v.2.1 >>= fun r12 =>
    F_tbin_writer_num v.2.2.2.2.2.1 (IntKind.u64.wrap r12) 1 >>= fun r13 =>
    F_tbin_writer_num r13 (IntKind.u64.wrap (v.2.2.2.2.2.2.l.length : Int)) 4 >>= fun r14 =>
    f_F_tbin_writer_value_22 (v.2.1, v.2.2.2.2.2.2.l, (v.2.2.2.2.2.2.l.length : Int), 0, r14)
  ) else
  if (v.2.2.2.1 == (13 : Int)) = true then (
    F_tbin_writer_wire v.2.2.2.2.2.1 v.2.1 >>= fun r19 =>
    F_tbin_writer_num v.2.2.2.2.2.1 (IntKind.u64.wrap r19) 1 >>= fun r20 =>
    F_tbin_writer_wire r20 v.2.2.1 >>= fun r21 =>
    F_tbin_writer_num r20 (IntKind.u64.wrap r21) 1 >>= fun r22 =>
    iquo .i64 (v.2.2.2.2.2.2.l.length : Int) 2 >>= fun x23 =>
    F_tbin_writer_num r22 (IntKind.u64.wrap x23) 4 >>= fun r24 =>
    f_F_tbin_writer_value_43 (v.2.1, v.2.2.1, v.2.2.2.2.2.2.l, (v.2.2.2.2.2.2.l.length : Int), 0, r24)
  ) else
  F_value_Struct v.2.2.2.2.2.1.s v.1 >>= fun r30 =>
  f_F_tbin_writer_fields (v.2.2.2.2.2.1, r30.1, v.2.2.2.2.2.2) >>= fun r31 =>
  some r31) = some p) : M_F_tbin_writer_value_56 v p := by
  intro h b rest o0 o1 o2 o3 hlt
  unfold C30_56
  simp only [go_sem, reduceIte, Nat.reduceEqDiff, Nat.reduceAdd, Nat.reduceLeDiff, Nat.reduceLT, Nat.reduceSub, Nat.reduceBEq, ne_eq, not_false_eq_true, hs_all hlt]
  rcases iteE hF with ⟨hc11, hF⟩ | ⟨hc11, hF⟩
  · simp only [go_sem, reduceIte, Nat.reduceEqDiff, Nat.reduceAdd, Nat.reduceLeDiff, Nat.reduceLT, Nat.reduceSub, Nat.reduceBEq, ne_eq, not_false_eq_true, hs_all hlt, hc11]
    obtain ⟨r12, hr12, hF⟩ := bindE hF
    refine DoesR_m (call_F_tbin_writer_wire hr12 (hs_getL hlt)) ?_
    simp only [go_sem, reduceIte, Nat.reduceEqDiff, Nat.reduceAdd, Nat.reduceLeDiff, Nat.reduceLT, Nat.reduceSub, Nat.reduceBEq, ne_eq, not_false_eq_true, hs_all hlt, hc11]
    obtain ⟨r13, hr13, hF⟩ := bindE hF
    refine DoesR_m (call_F_tbin_writer_num hr13 (hs_getL hlt)) ?_
    simp only [go_sem, reduceIte, Nat.reduceEqDiff, Nat.reduceAdd, Nat.reduceLeDiff, Nat.reduceLT, Nat.reduceSub, Nat.reduceBEq, ne_eq, not_false_eq_true, hs_all hlt, hc11]
    obtain ⟨r14, hr14, hF⟩ := bindE hF
    refine DoesR_m (call_F_tbin_writer_num hr14 (hs_getL hlt)) ?_
    simp only [go_sem, reduceIte, Nat.reduceEqDiff, Nat.reduceAdd, Nat.reduceLeDiff, Nat.reduceLT, Nat.reduceSub, Nat.reduceBEq, ne_eq, not_false_eq_true, hs_all hlt, hc11]
    exact ih_F_tbin_writer_value_22 _ _ hF _ _ _ _ _ _ _ hlt
  · simp only [go_sem, reduceIte, Nat.reduceEqDiff, Nat.reduceAdd, Nat.reduceLeDiff, Nat.reduceLT, Nat.reduceSub, Nat.reduceBEq, ne_eq, not_false_eq_true, hs_all hlt, hc11]
    rcases iteE hF with ⟨hc18, hF⟩ | ⟨hc18, hF⟩
    · simp only [go_sem, reduceIte, Nat.reduceEqDiff, Nat.reduceAdd, Nat.reduceLeDiff, Nat.reduceLT, Nat.reduceSub, Nat.reduceBEq, ne_eq, not_false_eq_true, hs_all hlt, hc11, hc18]
      obtain ⟨r19, hr19, hF⟩ := bindE hF
      refine DoesR_m (call_F_tbin_writer_wire hr19 (hs_getL hlt)) ?_
      simp only [go_sem, reduceIte, Nat.reduceEqDiff, Nat.reduceAdd, Nat.reduceLeDiff, Nat.reduceLT, Nat.reduceSub, Nat.reduceBEq, ne_eq, not_false_eq_true, hs_all hlt, hc11, hc18]
      obtain ⟨r20, hr20, hF⟩ := bindE hF
      refine DoesR_m (call_F_tbin_writer_num hr20 (hs_getL hlt)) ?_
      simp only [go_sem, reduceIte, Nat.reduceEqDiff, Nat.reduceAdd, Nat.reduceLeDiff, Nat.reduceLT, Nat.reduceSub, Nat.reduceBEq, ne_eq, not_false_eq_true, hs_all hlt, hc11, hc18]
      obtain ⟨r21, hr21, hF⟩ := bindE hF
      refine DoesR_m (call_F_tbin_writer_wire hr21 (hs_getL hlt)) ?_
      simp only [go_sem, reduceIte, Nat.reduceEqDiff, Nat.reduceAdd, Nat.reduceLeDiff, Nat.reduceLT, Nat.reduceSub, Nat.reduceBEq, ne_eq, not_false_eq_true, hs_all hlt, hc11, hc18]
      obtain ⟨r22, hr22, hF⟩ := bindE hF
      refine DoesR_m (call_F_tbin_writer_num hr22 (hs_getL hlt)) ?_
      simp only [go_sem, reduceIte, Nat.reduceEqDiff, Nat.reduceAdd, Nat.reduceLeDiff, Nat.reduceLT, Nat.reduceSub, Nat.reduceBEq, ne_eq, not_false_eq_true, hs_all hlt, hc11, hc18]
      obtain ⟨x23, hx23, hF⟩ := bindE hF
      refine DoesO_m (hx23) ?_
      simp only [go_sem, reduceIte, Nat.reduceEqDiff, Nat.reduceAdd, Nat.reduceLeDiff, Nat.reduceLT, Nat.reduceSub, Nat.reduceBEq, ne_eq, not_false_eq_true, hs_all hlt, hc11, hc18]
      obtain ⟨r24, hr24, hF⟩ := bindE hF
      refine DoesR_m (call_F_tbin_writer_num hr24 (hs_getL hlt)) ?_
      simp only [go_sem, reduceIte, Nat.reduceEqDiff, Nat.reduceAdd, Nat.reduceLeDiff, Nat.reduceLT, Nat.reduceSub, Nat.reduceBEq, ne_eq, not_false_eq_true, hs_all hlt, hc11, hc18]
      exact ih_F_tbin_writer_value_43 _ _ hF _ _ _ _ _ _ _ hlt
    · simp only [go_sem, reduceIte, Nat.reduceEqDiff, Nat.reduceAdd, Nat.reduceLeDiff, Nat.reduceLT, Nat.reduceSub, Nat.reduceBEq, ne_eq, not_false_eq_true, hs_all hlt, hc11, hc18]
      obtain ⟨r30, hr30, hF⟩ := bindE hF
      refine DoesR_m (call_F_value_Struct hr30) ?_
      simp only [go_sem, reduceIte, Nat.reduceEqDiff, Nat.reduceAdd, Nat.reduceLeDiff, Nat.reduceLT, Nat.reduceSub, Nat.reduceBEq, ne_eq, not_false_eq_true, hs_all hlt, hc11, hc18]
      obtain ⟨r31, hr31, hF⟩ := bindE hF
      refine DoesR_m (callA_ptr (by simp only [go_sem]) (hs_getL hlt) (fun H hH => ih_F_tbin_writer_fields _ _ hr31 H _ _ _ _ _ _ hH)) ?_
      simp only [go_sem, reduceIte, Nat.reduceEqDiff, Nat.reduceAdd, Nat.reduceLeDiff, Nat.reduceLT, Nat.reduceSub, Nat.reduceBEq, ne_eq, not_false_eq_true, hs_all hlt, hc11, hc18]
      all_goals (cases hF; rfl)
set_option maxHeartbeats 4000000 in
theorem st_F_tbin_writer_value_43 (f_F_tbin_writer_value : (Ytbin_writer × List UInt8 × YValue) → Option (Ytbin_writer)) (ih_F_tbin_writer_value : ∀ v p, f_F_tbin_writer_value v = some p → M_F_tbin_writer_value v p) (f_F_tbin_writer_value_43 : (List UInt8 × List UInt8 × List YValue × Int × Int × Ytbin_writer) → Option (Ytbin_writer)) (ih_F_tbin_writer_value_43 : ∀ v p, f_F_tbin_writer_value_43 v = some p → M_F_tbin_writer_value_43 v p) (v : List UInt8 × List UInt8 × List YValue × Int × Int × Ytbin_writer) (p : Ytbin_writer) (hF : (
  if (decide (v.2.2.2.2.1 < v.2.2.2.1)) = true then (
    lidx v.2.2.1 v.2.2.2.2.1 >>= fun x26 =>
    irem .i64 v.2.2.2.2.1 2 >>= fun x27 =>
    lidx [v.1, v.2.1] x27 >>= fun x28 =>
    f_F_tbin_writer_value (v.2.2.2.2.2, x28, x26) >>= fun r29 =>
    f_F_tbin_writer_value_43 (v.1, v.2.1, v.2.2.1, v.2.2.2.1, (iadd .i64 v.2.2.2.2.1 1), r29)
  ) else
  some v.2.2.2.2.2) = some p) : M_F_tbin_writer_value_43 v p := by
  intro h b rest o0 o1 o2 z0 hlt
  unfold C30_43
  simp only [go_sem, reduceIte, Nat.reduceEqDiff, Nat.reduceAdd, Nat.reduceLeDiff, Nat.reduceLT, Nat.reduceSub, Nat.reduceBEq, ne_eq, not_false_eq_true, hs_all hlt]
  rcases iteE hF with ⟨hc25, hF⟩ | ⟨hc25, hF⟩
  · simp only [go_sem, reduceIte, Nat.reduceEqDiff, Nat.reduceAdd, Nat.reduceLeDiff, Nat.reduceLT, Nat.reduceSub, Nat.reduceBEq, ne_eq, not_false_eq_true, hs_all hlt, hc25]
    obtain ⟨x26, hx26, hF⟩ := bindE hF
    refine DoesO_m (lidx_map YValue.av hx26) ?_
    simp only [go_sem, reduceIte, Nat.reduceEqDiff, Nat.reduceAdd, Nat.reduceLeDiff, Nat.reduceLT, Nat.reduceSub, Nat.reduceBEq, ne_eq, not_false_eq_true, hs_all hlt, hc25]
    obtain ⟨x27, hx27, hF⟩ := bindE hF
    refine DoesO_m (hx27) ?_
    simp only [go_sem, reduceIte, Nat.reduceEqDiff, Nat.reduceAdd, Nat.reduceLeDiff, Nat.reduceLT, Nat.reduceSub, Nat.reduceBEq, ne_eq, not_false_eq_true, hs_all hlt, hc25]
    obtain ⟨x28, hx28, hF⟩ := bindE hF
    refine DoesO_m (lidx_map AV.str hx28) ?_
    simp only [go_sem, reduceIte, Nat.reduceEqDiff, Nat.reduceAdd, Nat.reduceLeDiff, Nat.reduceLT, Nat.reduceSub, Nat.reduceBEq, ne_eq, not_false_eq_true, hs_all hlt, hc25]
    obtain ⟨r29, hr29, hF⟩ := bindE hF
    refine DoesR_m (callA_ptr (by simp only [go_sem]) (hs_getL hlt) (fun H hH => ih_F_tbin_writer_value _ _ hr29 H _ _ _ _ _ _ hH)) ?_
    simp only [go_sem, reduceIte, Nat.reduceEqDiff, Nat.reduceAdd, Nat.reduceLeDiff, Nat.reduceLT, Nat.reduceSub, Nat.reduceBEq, ne_eq, not_false_eq_true, hs_all hlt, hc25]
    refine aft_gc_drop (by simp only [go_sem, reduceIte, Nat.reduceEqDiff, Nat.reduceAdd, Nat.reduceLeDiff, Nat.reduceLT, Nat.reduceSub, Nat.reduceBEq, ne_eq, not_false_eq_true, hs_all hlt, hc25] <;> omega) ?_
    simp only [go_sem, reduceIte, Nat.reduceEqDiff, Nat.reduceAdd, Nat.reduceLeDiff, Nat.reduceLT, Nat.reduceSub, Nat.reduceBEq, ne_eq, not_false_eq_true, hs_all hlt, hc25]
    exact ih_F_tbin_writer_value_43 _ _ hF _ _ _ _ _ _ _ hlt
  · simp only [go_sem, reduceIte, Nat.reduceEqDiff, Nat.reduceAdd, Nat.reduceLeDiff, Nat.reduceLT, Nat.reduceSub, Nat.reduceBEq, ne_eq, not_false_eq_true, hs_all hlt, hc25]
    all_goals (cases hF; rfl)
set_option maxHeartbeats 4000000 in
theorem st_F_tbin_writer_value_22 (f_F_tbin_writer_value : (Ytbin_writer × List UInt8 × YValue) → Option (Ytbin_writer)) (ih_F_tbin_writer_value : ∀ v p, f_F_tbin_writer_value v = some p → M_F_tbin_writer_value v p) (f_F_tbin_writer_value_22 : (List UInt8 × List YValue × Int × Int × Ytbin_writer) → Option (Ytbin_writer)) (ih_F_tbin_writer_value_22 : ∀ v p, f_F_tbin_writer_value_22 v = some p → M_F_tbin_writer_value_22 v p) (v : List UInt8 × List YValue × Int × Int × Ytbin_writer) (p : Ytbin_writer) (hF : (
  if (decide (v.2.2.2.1 < v.2.2.1)) = true then (
    lidx v.2.1 v.2.2.2.1 >>= fun x16 =>
    f_F_tbin_writer_value (v.2.2.2.2, v.1, x16) >>= fun r17 =>
    f_F_tbin_writer_value_22 (v.1, v.2.1, v.2.2.1, (iadd .i64 v.2.2.2.1 1), r17)
  ) else
  some v.2.2.2.2) = some p) : M_F_tbin_writer_value_22 v p := by
  intro h b rest o0 o1 o2 z0 hlt
  unfold C30_22
  simp only [go_sem, reduceIte, Nat.reduceEqDiff, Nat.reduceAdd, Nat.reduceLeDiff, Nat.reduceLT, Nat.reduceSub, Nat.reduceBEq, ne_eq, not_false_eq_true, hs_all hlt]
  rcases iteE hF with ⟨hc15, hF⟩ | ⟨hc15, hF⟩
  · simp only [go_sem, reduceIte, Nat.reduceEqDiff, Nat.reduceAdd, Nat.reduceLeDiff, Nat.reduceLT, Nat.reduceSub, Nat.reduceBEq, ne_eq, not_false_eq_true, hs_all hlt, hc15]
    obtain ⟨x16, hx16, hF⟩ := bindE hF
    refine DoesO_m (lidx_map YValue.av hx16) ?_
    simp only [go_sem, reduceIte, Nat.reduceEqDiff, Nat.reduceAdd, Nat.reduceLeDiff, Nat.reduceLT, Nat.reduceSub, Nat.reduceBEq, ne_eq, not_false_eq_true, hs_all hlt, hc15]
    obtain ⟨r17, hr17, hF⟩ := bindE hF
    refine DoesR_m (callA_ptr (by simp only [go_sem]) (hs_getL hlt) (fun H hH => ih_F_tbin_writer_value _ _ hr17 H _ _ _ _ _ _ hH)) ?_
    simp only [go_sem, reduceIte, Nat.reduceEqDiff, Nat.reduceAdd, Nat.reduceLeDiff, Nat.reduceLT, Nat.reduceSub, Nat.reduceBEq, ne_eq, not_false_eq_true, hs_all hlt, hc15]
    refine aft_gc_drop (by simp only [go_sem, reduceIte, Nat.reduceEqDiff, Nat.reduceAdd, Nat.reduceLeDiff, Nat.reduceLT, Nat.reduceSub, Nat.reduceBEq, ne_eq, not_false_eq_true, hs_all hlt, hc15] <;> omega) ?_
    simp only [go_sem, reduceIte, Nat.reduceEqDiff, Nat.reduceAdd, Nat.reduceLeDiff, Nat.reduceLT, Nat.reduceSub, Nat.reduceBEq, ne_eq, not_false_eq_true, hs_all hlt, hc15]
    exact ih_F_tbin_writer_value_22 _ _ hF _ _ _ _ _ _ _ hlt
  · simp only [go_sem, reduceIte, Nat.reduceEqDiff, Nat.reduceAdd, Nat.reduceLeDiff, Nat.reduceLT, Nat.reduceSub, Nat.reduceBEq, ne_eq, not_false_eq_true, hs_all hlt, hc15]
    all_goals (cases hF; rfl)
theorem s_F_tbin_writer_fields : (∀ v p, F_tbin_writer_fields v = some p → M_F_tbin_writer_fields v p) ∧ (∀ v p, F_tbin_writer_fields_18 v = some p → M_F_tbin_writer_fields_18 v p) ∧ (∀ v p, F_tbin_writer_value v = some p → M_F_tbin_writer_value v p) ∧ (∀ v p, F_tbin_writer_value_56 v = some p → M_F_tbin_writer_value_56 v p) ∧ (∀ v p, F_tbin_writer_value_43 v = some p → M_F_tbin_writer_value_43 v p) ∧ (∀ v p, F_tbin_writer_value_22 v = some p → M_F_tbin_writer_value_22 v p) := F_tbin_writer_fields.mutual_partial_correctness M_F_tbin_writer_fields M_F_tbin_writer_fields_18 M_F_tbin_writer_value M_F_tbin_writer_value_56 M_F_tbin_writer_value_43 M_F_tbin_writer_value_22 (fun f0 i0 v p hF => st_F_tbin_writer_fields f0 i0 v p hF) (fun f0 f1 i0 i1 v p hF => st_F_tbin_writer_fields_18 f0 i0 f1 i1 v p hF) (fun f0 i0 v p hF => st_F_tbin_writer_value f0 i0 v p hF) (fun f0 f1 f2 i0 i1 i2 v p hF => st_F_tbin_writer_value_56 f0 i0 f1 i1 f2 i2 v p hF) (fun f0 f1 i0 i1 v p hF => st_F_tbin_writer_value_43 f0 i0 f1 i1 v p hF) (fun f0 f1 i0 i1 v p hF => st_F_tbin_writer_value_22 f0 i0 f1 i1 v p hF)
theorem t_F_tbin_writer_fields : ∀ v p, F_tbin_writer_fields v = some p → M_F_tbin_writer_fields v p := s_F_tbin_writer_fields.1
theorem t_F_tbin_writer_fields_18 : ∀ v p, F_tbin_writer_fields_18 v = some p → M_F_tbin_writer_fields_18 v p := s_F_tbin_writer_fields.2.1
theorem t_F_tbin_writer_value : ∀ v p, F_tbin_writer_value v = some p → M_F_tbin_writer_value v p := s_F_tbin_writer_fields.2.2.1
theorem t_F_tbin_writer_value_56 : ∀ v p, F_tbin_writer_value_56 v = some p → M_F_tbin_writer_value_56 v p := s_F_tbin_writer_fields.2.2.2.1
theorem t_F_tbin_writer_value_43 : ∀ v p, F_tbin_writer_value_43 v = some p → M_F_tbin_writer_value_43 v p := s_F_tbin_writer_fields.2.2.2.2.1
theorem t_F_tbin_writer_value_22 : ∀ v p, F_tbin_writer_value_22 v = some p → M_F_tbin_writer_value_22 v p := s_F_tbin_writer_fields.2.2.2.2.2
theorem call_F_tbin_writer_fields {w : Ytbin_writer} {x : YSStruct} {v_ : YValue} {p : Ytbin_writer} (hx : F_tbin_writer_fields (w, x, v_) = some p) {h : Heap} {b : Nat} {rest : List AV} {o0 : Bool} {o1 : Bool} {o2 : Bool} {o3 : Bool} (hb : h[b]? = some (.row ((.sl o0 3 (List.map YSStruct.av w.s.structs)) :: (.sl o1 2 (List.map YSEnum.av w.s.enums)) :: (.sl o2 2 (List.map YSService.av w.s.services)) :: (.sl o3 1 (List.map e8 w.b_)) :: rest))) : callA (Run T0 N_tbin_writer_fields) [.ptr b 0, .agg [.int .i64 x.kind, .str x.name, .sl false 10 (List.map YSField.av x.fields)], .agg [.int .i64 v_.kind, .int .i64 v_.n_, .str v_.s, .sl false 5 (List.map YValue.av v_.l), .sl false 1 (List.map (AV.int .i64) v_.iDs)]] h = some ((.tup []), h.set b (.row ((.sl o0 3 (List.map YSStruct.av p.s.structs)) :: (.sl o1 2 (List.map YSEnum.av p.s.enums)) :: (.sl o2 2 (List.map YSService.av p.s.services)) :: (.sl true 1 (List.map e8 p.b_)) :: rest))) :=
  callA_ptr (by simp only [go_sem]) hb (fun H hH => t_F_tbin_writer_fields _ _ hx H b rest o0 o1 o2 o3 hH)
theorem call_F_tbin_writer_value {w : Ytbin_writer} {t : List UInt8} {v_ : YValue} {p : Ytbin_writer} (hx : F_tbin_writer_value (w, t, v_) = some p) {h : Heap} {b : Nat} {rest : List AV} {o0 : Bool} {o1 : Bool} {o2 : Bool} {o3 : Bool} (hb : h[b]? = some (.row ((.sl o0 3 (List.map YSStruct.av w.s.structs)) :: (.sl o1 2 (List.map YSEnum.av w.s.enums)) :: (.sl o2 2 (List.map YSService.av w.s.services)) :: (.sl o3 1 (List.map e8 w.b_)) :: rest))) : callA (Run T0 N_tbin_writer_value) [.ptr b 0, .str t, .agg [.int .i64 v_.kind, .int .i64 v_.n_, .str v_.s, .sl false 5 (List.map YValue.av v_.l), .sl false 1 (List.map (AV.int .i64) v_.iDs)]] h = some ((.tup []), h.set b (.row ((.sl o0 3 (List.map YSStruct.av p.s.structs)) :: (.sl o1 2 (List.map YSEnum.av p.s.enums)) :: (.sl o2 2 (List.map YSService.av p.s.services)) :: (.sl true 1 (List.map e8 p.b_)) :: rest))) :=
  callA_ptr (by simp only [go_sem]) hb (fun H hH => t_F_tbin_writer_value _ _ hx H b rest o0 o1 o2 o3 hH)
end Go.Proofs.YtfihinodhhhllaaGreat
