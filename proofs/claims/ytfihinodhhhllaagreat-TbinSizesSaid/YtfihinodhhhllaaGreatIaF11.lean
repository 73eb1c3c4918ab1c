/- The functions as plain Lean functions, and that the runs come to their answers; printed by lift.py. -/
import Derived.Test.YtfihinodhhhllaaGreatIaH
import Derived.Test.YtfihinodhhhllaaGreatIaF5
import Derived.Test.YtfihinodhhhllaaGreatIaF10
set_option linter.unusedVariables false
set_option linter.unusedSimpArgs false
namespace Go.Proofs.YtfihinodhhhllaaGreat
open Go
def F_tbin_Encode (s : YSchema) (t : List UInt8) (v_ : YValue) (l : YLimit) : Option (List UInt8 × Int) :=
  F_tbin_known s t >>= fun r1 =>
  if (!r1) = true then (
    some ([], 1)
  ) else
  F_value_Check (s, t, v_) >>= fun r3 =>
  if (!r3) = true then (
    some ([], 1)
  ) else
  F_tbin_Encode_12 t s v_ l
set_option maxHeartbeats 4000000 in
theorem t_F_tbin_Encode : ∀ (s : YSchema) (t : List UInt8) (v_ : YValue) (l : YLimit) (p : List UInt8 × Int), F_tbin_Encode s t v_ l = some p → ∀ (h : Heap), Run T0 N_tbin_Encode [.agg [.sl false 3 (List.map YSStruct.av s.structs), .sl false 2 (List.map YSEnum.av s.enums), .sl false 2 (List.map YSService.av s.services)], .str t, .agg [.int .i64 v_.kind, .int .i64 v_.n_, .str v_.s, .sl false 5 (List.map YValue.av v_.l), .sl false 1 (List.map (AV.int .i64) v_.iDs)], .agg [.int .i64 l.depth, .int .i64 l.bytes]] h = some ((.tup [.sl false 1 (List.map e8 p.1), .int .i64 p.2]), h) := by
  intro s t v_ l p hF
  unfold F_tbin_Encode at hF
  intro h
  refine run_ofK at_tbin_Encode (n := h.length) rfl ?_
  simp only [go_sem, reduceIte, Nat.reduceEqDiff, Nat.reduceAdd, Nat.reduceLeDiff, Nat.reduceLT, Nat.reduceSub, Nat.reduceBEq, ne_eq, not_false_eq_true]
  obtain ⟨r1, hr1, hF⟩ := bindE hF
  refine DoesR_m (call_F_tbin_known hr1) ?_
  simp only [go_sem, reduceIte, Nat.reduceEqDiff, Nat.reduceAdd, Nat.reduceLeDiff, Nat.reduceLT, Nat.reduceSub, Nat.reduceBEq, ne_eq, not_false_eq_true]
  rcases iteE hF with ⟨hc2, hF⟩ | ⟨hc2, hF⟩
  · simp only [go_sem, reduceIte, Nat.reduceEqDiff, Nat.reduceAdd, Nat.reduceLeDiff, Nat.reduceLT, Nat.reduceSub, Nat.reduceBEq, ne_eq, not_false_eq_true, hc2]
    all_goals (cases hF; rfl)
  · simp only [go_sem, reduceIte, Nat.reduceEqDiff, Nat.reduceAdd, Nat.reduceLeDiff, Nat.reduceLT, Nat.reduceSub, Nat.reduceBEq, ne_eq, not_false_eq_true, hc2]
    obtain ⟨r3, hr3, hF⟩ := bindE hF
    refine DoesR_m (call_F_value_Check hr3) ?_
    simp only [go_sem, reduceIte, Nat.reduceEqDiff, Nat.reduceAdd, Nat.reduceLeDiff, Nat.reduceLT, Nat.reduceSub, Nat.reduceBEq, ne_eq, not_false_eq_true, hc2]
    rcases iteE hF with ⟨hc4, hF⟩ | ⟨hc4, hF⟩
    · simp only [go_sem, reduceIte, Nat.reduceEqDiff, Nat.reduceAdd, Nat.reduceLeDiff, Nat.reduceLT, Nat.reduceSub, Nat.reduceBEq, ne_eq, not_false_eq_true, hc2, hc4]
      all_goals (cases hF; rfl)
    · simp only [go_sem, reduceIte, Nat.reduceEqDiff, Nat.reduceAdd, Nat.reduceLeDiff, Nat.reduceLT, Nat.reduceSub, Nat.reduceBEq, ne_eq, not_false_eq_true, hc2, hc4]
      exact t_F_tbin_Encode_12 _ _ _ _ _ hF _
theorem call_F_tbin_Encode {s : YSchema} {t : List UInt8} {v_ : YValue} {l : YLimit} {p : List UInt8 × Int} (hx : F_tbin_Encode s t v_ l = some p) {h : Heap} : callA (Run T0 N_tbin_Encode) [.agg [.sl false 3 (List.map YSStruct.av s.structs), .sl false 2 (List.map YSEnum.av s.enums), .sl false 2 (List.map YSService.av s.services)], .str t, .agg [.int .i64 v_.kind, .int .i64 v_.n_, .str v_.s, .sl false 5 (List.map YValue.av v_.l), .sl false 1 (List.map (AV.int .i64) v_.iDs)], .agg [.int .i64 l.depth, .int .i64 l.bytes]] h = some ((.tup [.sl false 1 (List.map e8 p.1), .int .i64 p.2]), h) :=
  callA_pure (by simp only [go_sem]) (fun H => t_F_tbin_Encode _ _ _ _ _ hx H)
def F_ref13_Fits (kind : Int) (n_ : Int) : Option (Bool) :=
  if (kind == (2 : Int)) = true then (
    if (n_ == (0 : Int)) = true then (
      some true
    ) else
    some (n_ == (1 : Int))
  ) else
  if (kind == (3 : Int)) = true then (
    if (decide (n_ ≥ (-128))) = true then (
      some (decide (n_ ≤ (127 : Int)))
    ) else
    some false
  ) else
  if (kind == (6 : Int)) = true then (
    if (decide (n_ ≥ (-32768))) = true then (
      some (decide (n_ ≤ (32767 : Int)))
    ) else
    some false
  ) else
  if (kind == (8 : Int)) = true then (
    if (decide (n_ ≥ (-2147483648))) = true then (
      some (decide (n_ ≤ (2147483647 : Int)))
    ) else
    some false
  ) else
  some true
set_option maxHeartbeats 4000000 in
theorem t_F_ref13_Fits : ∀ (kind : Int) (n_ : Int) (p : Bool), F_ref13_Fits kind n_ = some p → ∀ (h : Heap), Run T0 N_ref13_Fits [.int .i64 kind, .int .i64 n_] h = some ((.bool p), h) := by
  intro kind n_ p hF
  unfold F_ref13_Fits at hF
  intro h
  refine run_ofK at_ref13_Fits (n := h.length) rfl ?_
  simp only [go_sem, reduceIte, Nat.reduceEqDiff, Nat.reduceAdd, Nat.reduceLeDiff, Nat.reduceLT, Nat.reduceSub, Nat.reduceBEq, ne_eq, not_false_eq_true]
  rcases iteE hF with ⟨hc1, hF⟩ | ⟨hc1, hF⟩
  · simp only [go_sem, reduceIte, Nat.reduceEqDiff, Nat.reduceAdd, Nat.reduceLeDiff, Nat.reduceLT, Nat.reduceSub, Nat.reduceBEq, ne_eq, not_false_eq_true, hc1]
    rcases iteE hF with ⟨hc2, hF⟩ | ⟨hc2, hF⟩
    · simp only [go_sem, reduceIte, Nat.reduceEqDiff, Nat.reduceAdd, Nat.reduceLeDiff, Nat.reduceLT, Nat.reduceSub, Nat.reduceBEq, ne_eq, not_false_eq_true, hc1, hc2]
      all_goals (cases hF; rfl)
    · simp only [go_sem, reduceIte, Nat.reduceEqDiff, Nat.reduceAdd, Nat.reduceLeDiff, Nat.reduceLT, Nat.reduceSub, Nat.reduceBEq, ne_eq, not_false_eq_true, hc1, hc2]
      all_goals (cases hF; rfl)
  · simp only [go_sem, reduceIte, Nat.reduceEqDiff, Nat.reduceAdd, Nat.reduceLeDiff, Nat.reduceLT, Nat.reduceSub, Nat.reduceBEq, ne_eq, not_false_eq_true, hc1]
    rcases iteE hF with ⟨hc3, hF⟩ | ⟨hc3, hF⟩
    · simp only [go_sem, reduceIte, Nat.reduceEqDiff, Nat.reduceAdd, Nat.reduceLeDiff, Nat.reduceLT, Nat.reduceSub, Nat.reduceBEq, ne_eq, not_false_eq_true, hc1, hc3]
      rcases iteE hF with ⟨hc4, hF⟩ | ⟨hc4, hF⟩
      · simp only [go_sem, reduceIte, Nat.reduceEqDiff, Nat.reduceAdd, Nat.reduceLeDiff, Nat.reduceLT, Nat.reduceSub, Nat.reduceBEq, ne_eq, not_false_eq_true, hc1, hc3, hc4]
        all_goals (cases hF; rfl)
      · simp only [go_sem, reduceIte, Nat.reduceEqDiff, Nat.reduceAdd, Nat.reduceLeDiff, Nat.reduceLT, Nat.reduceSub, Nat.reduceBEq, ne_eq, not_false_eq_true, hc1, hc3, hc4]
        all_goals (cases hF; rfl)
    · simp only [go_sem, reduceIte, Nat.reduceEqDiff, Nat.reduceAdd, Nat.reduceLeDiff, Nat.reduceLT, Nat.reduceSub, Nat.reduceBEq, ne_eq, not_false_eq_true, hc1, hc3]
      rcases iteE hF with ⟨hc5, hF⟩ | ⟨hc5, hF⟩
      · simp only [go_sem, reduceIte, Nat.reduceEqDiff, Nat.reduceAdd, Nat.reduceLeDiff, Nat.reduceLT, Nat.reduceSub, Nat.reduceBEq, ne_eq, not_false_eq_true, hc1, hc3, hc5]
        rcases iteE hF with ⟨hc6, hF⟩ | ⟨hc6, hF⟩
        · simp only [go_sem, reduceIte, Nat.reduceEqDiff, Nat.reduceAdd, Nat.reduceLeDiff, Nat.reduceLT, Nat.reduceSub, Nat.reduceBEq, ne_eq, not_false_eq_true, hc1, hc3, hc5, hc6]
          all_goals (cases hF; rfl)
        · simp only [go_sem, reduceIte, Nat.reduceEqDiff, Nat.reduceAdd, Nat.reduceLeDiff, Nat.reduceLT, Nat.reduceSub, Nat.reduceBEq, ne_eq, not_false_eq_true, hc1, hc3, hc5, hc6]
          all_goals (cases hF; rfl)
      · simp only [go_sem, reduceIte, Nat.reduceEqDiff, Nat.reduceAdd, Nat.reduceLeDiff, Nat.reduceLT, Nat.reduceSub, Nat.reduceBEq, ne_eq, not_false_eq_true, hc1, hc3, hc5]
        rcases iteE hF with ⟨hc7, hF⟩ | ⟨hc7, hF⟩
        · simp only [go_sem, reduceIte, Nat.reduceEqDiff, Nat.reduceAdd, Nat.reduceLeDiff, Nat.reduceLT, Nat.reduceSub, Nat.reduceBEq, ne_eq, not_false_eq_true, hc1, hc3, hc5, hc7]
          rcases iteE hF with ⟨hc8, hF⟩ | ⟨hc8, hF⟩
          · simp only [go_sem, reduceIte, Nat.reduceEqDiff, Nat.reduceAdd, Nat.reduceLeDiff, Nat.reduceLT, Nat.reduceSub, Nat.reduceBEq, ne_eq, not_false_eq_true, hc1, hc3, hc5, hc7, hc8]
            all_goals (cases hF; rfl)
          · simp only [go_sem, reduceIte, Nat.reduceEqDiff, Nat.reduceAdd, Nat.reduceLeDiff, Nat.reduceLT, Nat.reduceSub, Nat.reduceBEq, ne_eq, not_false_eq_true, hc1, hc3, hc5, hc7, hc8]
            all_goals (cases hF; rfl)
        · simp only [go_sem, reduceIte, Nat.reduceEqDiff, Nat.reduceAdd, Nat.reduceLeDiff, Nat.reduceLT, Nat.reduceSub, Nat.reduceBEq, ne_eq, not_false_eq_true, hc1, hc3, hc5, hc7]
          all_goals (cases hF; rfl)
theorem call_F_ref13_Fits {kind : Int} {n_ : Int} {p : Bool} (hx : F_ref13_Fits kind n_ = some p) {h : Heap} : callA (Run T0 N_ref13_Fits) [.int .i64 kind, .int .i64 n_] h = some ((.bool p), h) :=
  callA_pure (by simp only [go_sem]) (fun H => t_F_ref13_Fits _ _ _ hx H)
mutual
def F_law19_TbinSizes_35 (v : Int × UInt8 × List (List UInt8) × List Int × List Int × Int × List UInt8 × Int × Int × YLimit × YValue × YValue) : Option (Bool) :=
  if (decide (v.2.2.2.2.2.2.2.2.1 < (IntKind.i64.wrap (v.2.1.toNat : Int)))) = true then (
    appl 80 v.2.2.2.2.2.2.2.2.2.2.2.l [v.2.2.2.2.2.2.2.2.2.2.1] >>= fun x12 =>
    F_law19_TbinSizes_35 (v.1, v.2.1, v.2.2.1, v.2.2.2.1, v.2.2.2.2.1, v.2.2.2.2.2.1, v.2.2.2.2.2.2.1, v.2.2.2.2.2.2.2.1, (iadd .i64 v.2.2.2.2.2.2.2.2.1 1), v.2.2.2.2.2.2.2.2.2.1, v.2.2.2.2.2.2.2.2.2.2.1, (⟨v.2.2.2.2.2.2.2.2.2.2.2.kind, v.2.2.2.2.2.2.2.2.2.2.2.n_, v.2.2.2.2.2.2.2.2.2.2.2.s, x12, v.2.2.2.2.2.2.2.2.2.2.2.iDs⟩ : YValue))
  ) else
  lidx v.2.2.1 v.2.2.2.2.2.1 >>= fun x13 =>
  cats [108, 105, 115, 116, 60] x13 >>= fun x14 =>
  cats x14 [62] >>= fun x15 =>
  F_tbin_Encode (⟨[], [], []⟩ : YSchema) x15 v.2.2.2.2.2.2.2.2.2.2.2 v.2.2.2.2.2.2.2.2.2.1 >>= fun r16 =>
  if (v.2.2.2.2.2.2.2.1 != (0 : Int)) = true then (
    some false
  ) else
  lidx v.2.2.2.2.1 v.2.2.2.2.2.1 >>= fun x18 =>
  if ((v.2.2.2.2.2.2.1.length : Int) != x18) = true then (
    some false
  ) else
  if (r16.2 != (0 : Int)) = true then (
    some false
  ) else
  lidx v.2.2.2.2.1 v.2.2.2.2.2.1 >>= fun x21 =>
  if ((r16.1.length : Int) != (iadd .i64 5 (imul .i64 (IntKind.i64.wrap (v.2.1.toNat : Int)) x21))) = true then (
    some false
  ) else
  F_law19_TbinSizes_55 (v.1, v.2.1, v.2.2.1, v.2.2.2.1, v.2.2.2.2.1, (iadd .i64 v.2.2.2.2.2.1 1), v.2.2.2.2.2.2.2.2.2.1)
  partial_fixpoint
def F_law19_TbinSizes_55 (v : Int × UInt8 × List (List UInt8) × List Int × List Int × Int × YLimit) : Option (Bool) :=
  if (decide (v.2.2.2.2.2.1 < (v.2.2.1.length : Int))) = true then (
    lidx v.2.2.2.1 v.2.2.2.2.2.1 >>= fun x4 =>
    lidx v.2.2.1 v.2.2.2.2.2.1 >>= fun x5 =>
    F_tbin_Encode (⟨[], [], []⟩ : YSchema) x5 (⟨x4, v.1, [], [], []⟩ : YValue) v.2.2.2.2.2.2 >>= fun r6 =>
    lidx v.2.2.2.1 v.2.2.2.2.2.1 >>= fun x7 =>
    F_ref13_Fits x7 v.1 >>= fun r8 =>
    if (!r8) = true then (
      if (r6.2 != (1 : Int)) = true then (
        some false
      ) else
      F_law19_TbinSizes_55 (v.1, v.2.1, v.2.2.1, v.2.2.2.1, v.2.2.2.2.1, (iadd .i64 v.2.2.2.2.2.1 1), v.2.2.2.2.2.2)
    ) else
    F_law19_TbinSizes_35 (v.1, v.2.1, v.2.2.1, v.2.2.2.1, v.2.2.2.2.1, v.2.2.2.2.2.1, r6.1, r6.2, 0, v.2.2.2.2.2.2, (⟨x4, v.1, [], [], []⟩ : YValue), (⟨15, 0, [], [], []⟩ : YValue))
  ) else
  some true
  partial_fixpoint
end
theorem F_law19_TbinSizes_35_eq (n_ : Int) (many : UInt8) (types : List (List UInt8)) (kinds : List Int) (sizes : List Int) (i : Int) (b_ : List UInt8) (e_ : Int) (k : Int) (bx0 : YLimit) (bx1 : YValue) (bx2 : YValue) : F_law19_TbinSizes_35 (n_, many, types, kinds, sizes, i, b_, e_, k, bx0, bx1, bx2) =
  if (decide (k < (IntKind.i64.wrap (many.toNat : Int)))) = true then (
    appl 80 bx2.l [bx1] >>= fun x12 =>
    F_law19_TbinSizes_35 (n_, many, types, kinds, sizes, i, b_, e_, (iadd .i64 k 1), bx0, bx1, (⟨bx2.kind, bx2.n_, bx2.s, x12, bx2.iDs⟩ : YValue))
  ) else
  lidx types i >>= fun x13 =>
  cats [108, 105, 115, 116, 60] x13 >>= fun x14 =>
  cats x14 [62] >>= fun x15 =>
  F_tbin_Encode (⟨[], [], []⟩ : YSchema) x15 bx2 bx0 >>= fun r16 =>
  if (e_ != (0 : Int)) = true then (
    some false
  ) else
  lidx sizes i >>= fun x18 =>
  if ((b_.length : Int) != x18) = true then (
    some false
  ) else
  if (r16.2 != (0 : Int)) = true then (
    some false
  ) else
  lidx sizes i >>= fun x21 =>
  if ((r16.1.length : Int) != (iadd .i64 5 (imul .i64 (IntKind.i64.wrap (many.toNat : Int)) x21))) = true then (
    some false
  ) else
  F_law19_TbinSizes_55 (n_, many, types, kinds, sizes, (iadd .i64 i 1), bx0) := F_law19_TbinSizes_35.eq_1 (n_, many, types, kinds, sizes, i, b_, e_, k, bx0, bx1, bx2)
theorem F_law19_TbinSizes_55_eq (n_ : Int) (many : UInt8) (types : List (List UInt8)) (kinds : List Int) (sizes : List Int) (i : Int) (bx0 : YLimit) : F_law19_TbinSizes_55 (n_, many, types, kinds, sizes, i, bx0) =
  if (decide (i < (types.length : Int))) = true then (
    lidx kinds i >>= fun x4 =>
    lidx types i >>= fun x5 =>
    F_tbin_Encode (⟨[], [], []⟩ : YSchema) x5 (⟨x4, n_, [], [], []⟩ : YValue) bx0 >>= fun r6 =>
    lidx kinds i >>= fun x7 =>
    F_ref13_Fits x7 n_ >>= fun r8 =>
    if (!r8) = true then (
      if (r6.2 != (1 : Int)) = true then (
        some false
      ) else
      F_law19_TbinSizes_55 (n_, many, types, kinds, sizes, (iadd .i64 i 1), bx0)
    ) else
    F_law19_TbinSizes_35 (n_, many, types, kinds, sizes, i, r6.1, r6.2, 0, bx0, (⟨x4, n_, [], [], []⟩ : YValue), (⟨15, 0, [], [], []⟩ : YValue))
  ) else
  some true := F_law19_TbinSizes_55.eq_1 (n_, many, types, kinds, sizes, i, bx0)
def M_F_law19_TbinSizes_35 (v : Int × UInt8 × List (List UInt8) × List Int × List Int × Int × List UInt8 × Int × Int × YLimit × YValue × YValue) (p : Bool) : Prop := ∀ (h : Heap), Does T0 C4_35 (aft T0 (EndQ false [.tmp 4] h.length (.bool p) (h)) [.gc (h.length + 3), .lp C4_36, .blk 2, .seq C4_46, .blk 1, .seq C4_53, .gc (h.length + 1), .lp C4_56, .blk 0, .seq C4_61]) .mk .mk [(0, .int .i64 v.1), (1, .int .u8 (v.2.1.toNat : Int)), (5, .sl true 1 (List.map AV.str v.2.2.1)), (6, .sl true 1 (List.map (AV.int .i64) v.2.2.2.1)), (7, .sl true 1 (List.map (AV.int .i64) v.2.2.2.2.1)), (8, .ptr h.length 0), (9, .int .i64 v.2.2.2.2.2.1), (10, .ptr (h.length + 1) 0), (11, .sl false 1 (List.map e8 v.2.2.2.2.2.2.1)), (12, .int .i64 v.2.2.2.2.2.2.2.1), (13, .ptr (h.length + 2) 0), (14, .int .i64 v.2.2.2.2.2.2.2.2.1)] (h ++ [.row [.int .i64 v.2.2.2.2.2.2.2.2.2.1.depth, .int .i64 v.2.2.2.2.2.2.2.2.2.1.bytes], .row [.int .i64 v.2.2.2.2.2.2.2.2.2.2.1.kind, .int .i64 v.2.2.2.2.2.2.2.2.2.2.1.n_, .str v.2.2.2.2.2.2.2.2.2.2.1.s, .sl true 5 (List.map YValue.av v.2.2.2.2.2.2.2.2.2.2.1.l), .sl true 1 (List.map (AV.int .i64) v.2.2.2.2.2.2.2.2.2.2.1.iDs)], .row [.int .i64 v.2.2.2.2.2.2.2.2.2.2.2.kind, .int .i64 v.2.2.2.2.2.2.2.2.2.2.2.n_, .str v.2.2.2.2.2.2.2.2.2.2.2.s, .sl true 5 (List.map YValue.av v.2.2.2.2.2.2.2.2.2.2.2.l), .sl true 1 (List.map (AV.int .i64) v.2.2.2.2.2.2.2.2.2.2.2.iDs)]])
def M_F_law19_TbinSizes_55 (v : Int × UInt8 × List (List UInt8) × List Int × List Int × Int × YLimit) (p : Bool) : Prop := ∀ (h : Heap), Does T0 C4_55 (aft T0 (EndQ false [.tmp 4] h.length (.bool p) (h)) [.gc (h.length + 1), .lp C4_56, .blk 0, .seq C4_61]) .mk .mk [(0, .int .i64 v.1), (1, .int .u8 (v.2.1.toNat : Int)), (5, .sl true 1 (List.map AV.str v.2.2.1)), (6, .sl true 1 (List.map (AV.int .i64) v.2.2.2.1)), (7, .sl true 1 (List.map (AV.int .i64) v.2.2.2.2.1)), (8, .ptr h.length 0), (9, .int .i64 v.2.2.2.2.2.1)] (h ++ [.row [.int .i64 v.2.2.2.2.2.2.depth, .int .i64 v.2.2.2.2.2.2.bytes]])
set_option maxHeartbeats 4000000 in
theorem st_F_law19_TbinSizes_35 (f_F_law19_TbinSizes_35 : (Int × UInt8 × List (List UInt8) × List Int × List Int × Int × List UInt8 × Int × Int × YLimit × YValue × YValue) → Option (Bool)) (ih_F_law19_TbinSizes_35 : ∀ v p, f_F_law19_TbinSizes_35 v = some p → M_F_law19_TbinSizes_35 v p) (f_F_law19_TbinSizes_55 : (Int × UInt8 × List (List UInt8) × List Int × List Int × Int × YLimit) → Option (Bool)) (ih_F_law19_TbinSizes_55 : ∀ v p, f_F_law19_TbinSizes_55 v = some p → M_F_law19_TbinSizes_55 v p) (v : Int × UInt8 × List (List UInt8) × List Int × List Int × Int × List UInt8 × Int × Int × YLimit × YValue × YValue) (p : Bool) (hF : (
  if (decide (v.2.2.2.2.2.2.2.2.1 < (IntKind.i64.wrap (v.2.1.toNat : Int)))) = true then (
    appl 80 v.2.2.2.2.2.2.2.2.2.2.2.l [v.2.2.2.2.2.2.2.2.2.2.1] >>= fun x12 =>
    f_F_law19_TbinSizes_35 (v.1, v.2.1, v.2.2.1, v.2.2.2.1, v.2.2.2.2.1, v.2.2.2.2.2.1, v.2.2.2.2.2.2.1, v.2.2.2.2.2.2.2.1, (iadd .i64 v.2.2.2.2.2.2.2.2.1 1), v.2.2.2.2.2.2.2.2.2.1, v.2.2.2.2.2.2.2.2.2.2.1, (⟨v.2.2.2.2.2.2.2.2.2.2.2.kind, v.2.2.2.2.2.2.2.2.2.2.2.n_, v.2.2.2.2.2.2.2.2.2.2.2.s, x12, v.2.2.2.2.2.2.2.2.2.2.2.iDs⟩ : YValue))
  ) else
  lidx v.2.2.1 v.2.2.2.2.2.1 >>= fun x13 =>
  cats [108, 105, 115, 116, 60] x13 >>= fun x14 =>
  cats x14 [62] >>= fun x15 =>
  F_tbin_Encode (⟨[], [], []⟩ : YSchema) x15 v.2.2.2.2.2.2.2.2.2.2.2 v.2.2.2.2.2.2.2.2.2.1 >>= fun r16 =>
  if (v.2.2.2.2.2.2.2.1 != (0 : Int)) = true then (
    some false
  ) else
  lidx v.2.2.2.2.1 v.2.2.2.2.2.1 >>= fun x18 =>
  if ((v.2.2.2.2.2.2.1.length : Int) != x18) = true then (
    some false
  ) else
  if (r16.2 != (0 : Int)) = true then (
    some false
  ) else
  lidx v.2.2.2.2.1 v.2.2.2.2.2.1 >>= fun x21 =>
  if ((r16.1.length : Int) != (iadd .i64 5 (imul .i64 (IntKind.i64.wrap (v.2.1.toNat : Int)) x21))) = true then (
    some false
  ) else
  f_F_law19_TbinSizes_55 (v.1, v.2.1, v.2.2.1, v.2.2.2.1, v.2.2.2.2.1, (iadd .i64 v.2.2.2.2.2.1 1), v.2.2.2.2.2.2.2.2.2.1)) = some p) : M_F_law19_TbinSizes_35 v p := by
  intro h
  unfold C4_35
  simp only [go_sem, reduceIte, Nat.reduceEqDiff, Nat.reduceAdd, Nat.reduceLeDiff, Nat.reduceLT, Nat.reduceSub, Nat.reduceBEq, ne_eq, not_false_eq_true]
  rcases iteE hF with ⟨hc11, hF⟩ | ⟨hc11, hF⟩
  · simp only [go_sem, reduceIte, Nat.reduceEqDiff, Nat.reduceAdd, Nat.reduceLeDiff, Nat.reduceLT, Nat.reduceSub, Nat.reduceBEq, ne_eq, not_false_eq_true, hc11]
    obtain ⟨x12, hx12, hF⟩ := bindE hF
    refine DoesO_m (by have hq := appl_map YValue.av hx12; simp only [List.map_cons, List.map_nil, YValue.av_eq, YValue.cs] at hq; exact hq) ?_
    simp only [go_sem, reduceIte, Nat.reduceEqDiff, Nat.reduceAdd, Nat.reduceLeDiff, Nat.reduceLT, Nat.reduceSub, Nat.reduceBEq, ne_eq, not_false_eq_true, hc11]
    exact ih_F_law19_TbinSizes_35 _ _ hF _
  · simp only [go_sem, reduceIte, Nat.reduceEqDiff, Nat.reduceAdd, Nat.reduceLeDiff, Nat.reduceLT, Nat.reduceSub, Nat.reduceBEq, ne_eq, not_false_eq_true, hc11]
    obtain ⟨x13, hx13, hF⟩ := bindE hF
    refine DoesO_m (lidx_map AV.str hx13) ?_
    simp only [go_sem, reduceIte, Nat.reduceEqDiff, Nat.reduceAdd, Nat.reduceLeDiff, Nat.reduceLT, Nat.reduceSub, Nat.reduceBEq, ne_eq, not_false_eq_true, hc11]
    obtain ⟨x14, hx14, hF⟩ := bindE hF
    refine DoesO_m (hx14) ?_
    simp only [go_sem, reduceIte, Nat.reduceEqDiff, Nat.reduceAdd, Nat.reduceLeDiff, Nat.reduceLT, Nat.reduceSub, Nat.reduceBEq, ne_eq, not_false_eq_true, hc11]
    obtain ⟨x15, hx15, hF⟩ := bindE hF
    refine DoesO_m (hx15) ?_
    simp only [go_sem, reduceIte, Nat.reduceEqDiff, Nat.reduceAdd, Nat.reduceLeDiff, Nat.reduceLT, Nat.reduceSub, Nat.reduceBEq, ne_eq, not_false_eq_true, hc11]
    obtain ⟨r16, hr16, hF⟩ := bindE hF
    refine DoesR_m (call_F_tbin_Encode hr16) ?_
    simp only [go_sem, reduceIte, Nat.reduceEqDiff, Nat.reduceAdd, Nat.reduceLeDiff, Nat.reduceLT, Nat.reduceSub, Nat.reduceBEq, ne_eq, not_false_eq_true, hc11]
    rcases iteE hF with ⟨hc17, hF⟩ | ⟨hc17, hF⟩
    · simp only [go_sem, reduceIte, Nat.reduceEqDiff, Nat.reduceAdd, Nat.reduceLeDiff, Nat.reduceLT, Nat.reduceSub, Nat.reduceBEq, ne_eq, not_false_eq_true, hc11, hc17]
      refine aft_gc_drop (by simp only [go_sem, reduceIte, Nat.reduceEqDiff, Nat.reduceAdd, Nat.reduceLeDiff, Nat.reduceLT, Nat.reduceSub, Nat.reduceBEq, ne_eq, not_false_eq_true, hc11, hc17] <;> omega) ?_
      simp only [go_sem, reduceIte, Nat.reduceEqDiff, Nat.reduceAdd, Nat.reduceLeDiff, Nat.reduceLT, Nat.reduceSub, Nat.reduceBEq, ne_eq, not_false_eq_true, hc11, hc17]
      all_goals (cases hF; rfl)
    · simp only [go_sem, reduceIte, Nat.reduceEqDiff, Nat.reduceAdd, Nat.reduceLeDiff, Nat.reduceLT, Nat.reduceSub, Nat.reduceBEq, ne_eq, not_false_eq_true, hc11, hc17]
      obtain ⟨x18, hx18, hF⟩ := bindE hF
      refine DoesO_m (lidx_map (AV.int .i64) hx18) ?_
      simp only [go_sem, reduceIte, Nat.reduceEqDiff, Nat.reduceAdd, Nat.reduceLeDiff, Nat.reduceLT, Nat.reduceSub, Nat.reduceBEq, ne_eq, not_false_eq_true, hc11, hc17]
      rcases iteE hF with ⟨hc19, hF⟩ | ⟨hc19, hF⟩
      · simp only [go_sem, reduceIte, Nat.reduceEqDiff, Nat.reduceAdd, Nat.reduceLeDiff, Nat.reduceLT, Nat.reduceSub, Nat.reduceBEq, ne_eq, not_false_eq_true, hc11, hc17, hc19]
        refine aft_gc_drop (by simp only [go_sem, reduceIte, Nat.reduceEqDiff, Nat.reduceAdd, Nat.reduceLeDiff, Nat.reduceLT, Nat.reduceSub, Nat.reduceBEq, ne_eq, not_false_eq_true, hc11, hc17, hc19] <;> omega) ?_
        simp only [go_sem, reduceIte, Nat.reduceEqDiff, Nat.reduceAdd, Nat.reduceLeDiff, Nat.reduceLT, Nat.reduceSub, Nat.reduceBEq, ne_eq, not_false_eq_true, hc11, hc17, hc19]
        all_goals (cases hF; rfl)
      · simp only [go_sem, reduceIte, Nat.reduceEqDiff, Nat.reduceAdd, Nat.reduceLeDiff, Nat.reduceLT, Nat.reduceSub, Nat.reduceBEq, ne_eq, not_false_eq_true, hc11, hc17, hc19]
        rcases iteE hF with ⟨hc20, hF⟩ | ⟨hc20, hF⟩
        · simp only [go_sem, reduceIte, Nat.reduceEqDiff, Nat.reduceAdd, Nat.reduceLeDiff, Nat.reduceLT, Nat.reduceSub, Nat.reduceBEq, ne_eq, not_false_eq_true, hc11, hc17, hc19, hc20]
          refine aft_gc_drop (by simp only [go_sem, reduceIte, Nat.reduceEqDiff, Nat.reduceAdd, Nat.reduceLeDiff, Nat.reduceLT, Nat.reduceSub, Nat.reduceBEq, ne_eq, not_false_eq_true, hc11, hc17, hc19, hc20] <;> omega) ?_
          simp only [go_sem, reduceIte, Nat.reduceEqDiff, Nat.reduceAdd, Nat.reduceLeDiff, Nat.reduceLT, Nat.reduceSub, Nat.reduceBEq, ne_eq, not_false_eq_true, hc11, hc17, hc19, hc20]
          all_goals (cases hF; rfl)
        · simp only [go_sem, reduceIte, Nat.reduceEqDiff, Nat.reduceAdd, Nat.reduceLeDiff, Nat.reduceLT, Nat.reduceSub, Nat.reduceBEq, ne_eq, not_false_eq_true, hc11, hc17, hc19, hc20]
          obtain ⟨x21, hx21, hF⟩ := bindE hF
          refine DoesO_m (lidx_map (AV.int .i64) hx21) ?_
          simp only [go_sem, reduceIte, Nat.reduceEqDiff, Nat.reduceAdd, Nat.reduceLeDiff, Nat.reduceLT, Nat.reduceSub, Nat.reduceBEq, ne_eq, not_false_eq_true, hc11, hc17, hc19, hc20]
          rcases iteE hF with ⟨hc22, hF⟩ | ⟨hc22, hF⟩
          · simp only [go_sem, reduceIte, Nat.reduceEqDiff, Nat.reduceAdd, Nat.reduceLeDiff, Nat.reduceLT, Nat.reduceSub, Nat.reduceBEq, ne_eq, not_false_eq_true, hc11, hc17, hc19, hc20, hc22]
            refine aft_gc_drop (by simp only [go_sem, reduceIte, Nat.reduceEqDiff, Nat.reduceAdd, Nat.reduceLeDiff, Nat.reduceLT, Nat.reduceSub, Nat.reduceBEq, ne_eq, not_false_eq_true, hc11, hc17, hc19, hc20, hc22] <;> omega) ?_
            simp only [go_sem, reduceIte, Nat.reduceEqDiff, Nat.reduceAdd, Nat.reduceLeDiff, Nat.reduceLT, Nat.reduceSub, Nat.reduceBEq, ne_eq, not_false_eq_true, hc11, hc17, hc19, hc20, hc22]
            all_goals (cases hF; rfl)
          · simp only [go_sem, reduceIte, Nat.reduceEqDiff, Nat.reduceAdd, Nat.reduceLeDiff, Nat.reduceLT, Nat.reduceSub, Nat.reduceBEq, ne_eq, not_false_eq_true, hc11, hc17, hc19, hc20, hc22]
            refine aft_gc_drop (by simp only [go_sem, reduceIte, Nat.reduceEqDiff, Nat.reduceAdd, Nat.reduceLeDiff, Nat.reduceLT, Nat.reduceSub, Nat.reduceBEq, ne_eq, not_false_eq_true, hc11, hc17, hc19, hc20, hc22] <;> omega) ?_
            simp only [go_sem, reduceIte, Nat.reduceEqDiff, Nat.reduceAdd, Nat.reduceLeDiff, Nat.reduceLT, Nat.reduceSub, Nat.reduceBEq, ne_eq, not_false_eq_true, hc11, hc17, hc19, hc20, hc22]
            exact ih_F_law19_TbinSizes_55 _ _ hF _
set_option maxHeartbeats 4000000 in
theorem st_F_law19_TbinSizes_55 (f_F_law19_TbinSizes_35 : (Int × UInt8 × List (List UInt8) × List Int × List Int × Int × List UInt8 × Int × Int × YLimit × YValue × YValue) → Option (Bool)) (ih_F_law19_TbinSizes_35 : ∀ v p, f_F_law19_TbinSizes_35 v = some p → M_F_law19_TbinSizes_35 v p) (f_F_law19_TbinSizes_55 : (Int × UInt8 × List (List UInt8) × List Int × List Int × Int × YLimit) → Option (Bool)) (ih_F_law19_TbinSizes_55 : ∀ v p, f_F_law19_TbinSizes_55 v = some p → M_F_law19_TbinSizes_55 v p) (v : Int × UInt8 × List (List UInt8) × List Int × List Int × Int × YLimit) (p : Bool) (hF : (
  if (decide (v.2.2.2.2.2.1 < (v.2.2.1.length : Int))) = true then (
    lidx v.2.2.2.1 v.2.2.2.2.2.1 >>= fun x4 =>
    lidx v.2.2.1 v.2.2.2.2.2.1 >>= fun x5 =>
    F_tbin_Encode (⟨[], [], []⟩ : YSchema) x5 (⟨x4, v.1, [], [], []⟩ : YValue) v.2.2.2.2.2.2 >>= fun r6 =>
    lidx v.2.2.2.1 v.2.2.2.2.2.1 >>= fun x7 =>
    F_ref13_Fits x7 v.1 >>= fun r8 =>
    if (!r8) = true then (
      if (r6.2 != (1 : Int)) = true then (
        some false
      ) else
      f_F_law19_TbinSizes_55 (v.1, v.2.1, v.2.2.1, v.2.2.2.1, v.2.2.2.2.1, (iadd .i64 v.2.2.2.2.2.1 1), v.2.2.2.2.2.2)
    ) else
    f_F_law19_TbinSizes_35 (v.1, v.2.1, v.2.2.1, v.2.2.2.1, v.2.2.2.2.1, v.2.2.2.2.2.1, r6.1, r6.2, 0, v.2.2.2.2.2.2, (⟨x4, v.1, [], [], []⟩ : YValue), (⟨15, 0, [], [], []⟩ : YValue))
  ) else
  some true) = some p) : M_F_law19_TbinSizes_55 v p := by
  intro h
  unfold C4_55
  simp only [go_sem, reduceIte, Nat.reduceEqDiff, Nat.reduceAdd, Nat.reduceLeDiff, Nat.reduceLT, Nat.reduceSub, Nat.reduceBEq, ne_eq, not_false_eq_true]
  rcases iteE hF with ⟨hc3, hF⟩ | ⟨hc3, hF⟩
  · simp only [go_sem, reduceIte, Nat.reduceEqDiff, Nat.reduceAdd, Nat.reduceLeDiff, Nat.reduceLT, Nat.reduceSub, Nat.reduceBEq, ne_eq, not_false_eq_true, hc3]
    obtain ⟨x4, hx4, hF⟩ := bindE hF
    refine DoesO_m (lidx_map (AV.int .i64) hx4) ?_
    simp only [go_sem, reduceIte, Nat.reduceEqDiff, Nat.reduceAdd, Nat.reduceLeDiff, Nat.reduceLT, Nat.reduceSub, Nat.reduceBEq, ne_eq, not_false_eq_true, hc3]
    obtain ⟨x5, hx5, hF⟩ := bindE hF
    refine DoesO_m (lidx_map AV.str hx5) ?_
    simp only [go_sem, reduceIte, Nat.reduceEqDiff, Nat.reduceAdd, Nat.reduceLeDiff, Nat.reduceLT, Nat.reduceSub, Nat.reduceBEq, ne_eq, not_false_eq_true, hc3]
    obtain ⟨r6, hr6, hF⟩ := bindE hF
    refine DoesR_m (call_F_tbin_Encode hr6) ?_
    simp only [go_sem, reduceIte, Nat.reduceEqDiff, Nat.reduceAdd, Nat.reduceLeDiff, Nat.reduceLT, Nat.reduceSub, Nat.reduceBEq, ne_eq, not_false_eq_true, hc3]
    obtain ⟨x7, hx7, hF⟩ := bindE hF
    refine DoesO_m (lidx_map (AV.int .i64) hx7) ?_
    simp only [go_sem, reduceIte, Nat.reduceEqDiff, Nat.reduceAdd, Nat.reduceLeDiff, Nat.reduceLT, Nat.reduceSub, Nat.reduceBEq, ne_eq, not_false_eq_true, hc3]
    obtain ⟨r8, hr8, hF⟩ := bindE hF
    refine DoesR_m (call_F_ref13_Fits hr8) ?_
    simp only [go_sem, reduceIte, Nat.reduceEqDiff, Nat.reduceAdd, Nat.reduceLeDiff, Nat.reduceLT, Nat.reduceSub, Nat.reduceBEq, ne_eq, not_false_eq_true, hc3]
    rcases iteE hF with ⟨hc9, hF⟩ | ⟨hc9, hF⟩
    · simp only [go_sem, reduceIte, Nat.reduceEqDiff, Nat.reduceAdd, Nat.reduceLeDiff, Nat.reduceLT, Nat.reduceSub, Nat.reduceBEq, ne_eq, not_false_eq_true, hc3, hc9]
      rcases iteE hF with ⟨hc10, hF⟩ | ⟨hc10, hF⟩
      · simp only [go_sem, reduceIte, Nat.reduceEqDiff, Nat.reduceAdd, Nat.reduceLeDiff, Nat.reduceLT, Nat.reduceSub, Nat.reduceBEq, ne_eq, not_false_eq_true, hc3, hc9, hc10]
        refine aft_gc_drop (by simp only [go_sem, reduceIte, Nat.reduceEqDiff, Nat.reduceAdd, Nat.reduceLeDiff, Nat.reduceLT, Nat.reduceSub, Nat.reduceBEq, ne_eq, not_false_eq_true, hc3, hc9, hc10] <;> omega) ?_
        simp only [go_sem, reduceIte, Nat.reduceEqDiff, Nat.reduceAdd, Nat.reduceLeDiff, Nat.reduceLT, Nat.reduceSub, Nat.reduceBEq, ne_eq, not_false_eq_true, hc3, hc9, hc10]
        all_goals (cases hF; rfl)
      · simp only [go_sem, reduceIte, Nat.reduceEqDiff, Nat.reduceAdd, Nat.reduceLeDiff, Nat.reduceLT, Nat.reduceSub, Nat.reduceBEq, ne_eq, not_false_eq_true, hc3, hc9, hc10]
        refine aft_gc_drop (by simp only [go_sem, reduceIte, Nat.reduceEqDiff, Nat.reduceAdd, Nat.reduceLeDiff, Nat.reduceLT, Nat.reduceSub, Nat.reduceBEq, ne_eq, not_false_eq_true, hc3, hc9, hc10] <;> omega) ?_
        simp only [go_sem, reduceIte, Nat.reduceEqDiff, Nat.reduceAdd, Nat.reduceLeDiff, Nat.reduceLT, Nat.reduceSub, Nat.reduceBEq, ne_eq, not_false_eq_true, hc3, hc9, hc10]
        exact ih_F_law19_TbinSizes_55 _ _ hF _
    · simp only [go_sem, reduceIte, Nat.reduceEqDiff, Nat.reduceAdd, Nat.reduceLeDiff, Nat.reduceLT, Nat.reduceSub, Nat.reduceBEq, ne_eq, not_false_eq_true, hc3, hc9]
      exact ih_F_law19_TbinSizes_35 _ _ hF _
  · simp only [go_sem, reduceIte, Nat.reduceEqDiff, Nat.reduceAdd, Nat.reduceLeDiff, Nat.reduceLT, Nat.reduceSub, Nat.reduceBEq, ne_eq, not_false_eq_true, hc3]
    all_goals (cases hF; rfl)
theorem s_F_law19_TbinSizes_35 : (∀ v p, F_law19_TbinSizes_35 v = some p → M_F_law19_TbinSizes_35 v p) ∧ (∀ v p, F_law19_TbinSizes_55 v = some p → M_F_law19_TbinSizes_55 v p) := F_law19_TbinSizes_35.mutual_partial_correctness M_F_law19_TbinSizes_35 M_F_law19_TbinSizes_55 (fun f0 f1 i0 i1 v p hF => st_F_law19_TbinSizes_35 f0 i0 f1 i1 v p hF) (fun f0 f1 i0 i1 v p hF => st_F_law19_TbinSizes_55 f0 i0 f1 i1 v p hF)
theorem t_F_law19_TbinSizes_35 : ∀ v p, F_law19_TbinSizes_35 v = some p → M_F_law19_TbinSizes_35 v p := s_F_law19_TbinSizes_35.1
theorem t_F_law19_TbinSizes_55 : ∀ v p, F_law19_TbinSizes_55 v = some p → M_F_law19_TbinSizes_55 v p := s_F_law19_TbinSizes_35.2
def F_law19_TbinSizes (n_ : Int) (many : UInt8) : Option (Bool) :=
  F_law19_begun >>= fun r1 =>
  if (!r1) = true then (
    some false
  ) else
  F_law19_TbinSizes_55 (n_, many, [[98, 111, 111, 108], [105, 56], [105, 49, 54], [105, 51, 50], [105, 54, 52], [100, 111, 117, 98, 108, 101]], [2, 3, 6, 8, 10, 4], [1, 1, 2, 4, 8, 8], 0, (⟨5, 5000⟩ : YLimit))
set_option maxHeartbeats 4000000 in
theorem t_F_law19_TbinSizes : ∀ (n_ : Int) (many : UInt8) (p : Bool), F_law19_TbinSizes n_ many = some p → ∀ (h : Heap) (hh : h = []), Run T0 N_law19_TbinSizes [.int .i64 n_, .int .u8 (many.toNat : Int)] h = some ((.bool p), h) := by
  intro n_ many p hF
  unfold F_law19_TbinSizes at hF
  intro h hh
  refine run_ofK at_law19_TbinSizes (n := h.length) rfl ?_
  simp only [go_sem, reduceIte, Nat.reduceEqDiff, Nat.reduceAdd, Nat.reduceLeDiff, Nat.reduceLT, Nat.reduceSub, Nat.reduceBEq, ne_eq, not_false_eq_true]
  obtain ⟨r1, hr1, hF⟩ := bindE hF
  refine DoesR_m (call_F_law19_begun hr1 hh) ?_
  simp only [go_sem, reduceIte, Nat.reduceEqDiff, Nat.reduceAdd, Nat.reduceLeDiff, Nat.reduceLT, Nat.reduceSub, Nat.reduceBEq, ne_eq, not_false_eq_true]
  rcases iteE hF with ⟨hc2, hF⟩ | ⟨hc2, hF⟩
  · simp only [go_sem, reduceIte, Nat.reduceEqDiff, Nat.reduceAdd, Nat.reduceLeDiff, Nat.reduceLT, Nat.reduceSub, Nat.reduceBEq, ne_eq, not_false_eq_true, hc2]
    all_goals (cases hF; rfl)
  · simp only [go_sem, reduceIte, Nat.reduceEqDiff, Nat.reduceAdd, Nat.reduceLeDiff, Nat.reduceLT, Nat.reduceSub, Nat.reduceBEq, ne_eq, not_false_eq_true, hc2]
    exact t_F_law19_TbinSizes_55 _ _ hF _
end Go.Proofs.YtfihinodhhhllaaGreat
