/- The functions as plain functions, and that the runs come to their answers; printed by lift.py. -/
import Derived.Test.YtfihinodhhhllaaGreatIbH
import Derived.Test.YtfihinodhhhllaaGreatIbF5
import Derived.Test.YtfihinodhhhllaaGreatIbF10
set_option linter.unusedVariables false
set_option linter.unusedSimpArgs false
namespace Go.Proofs.YtfihinodhhhllaaGreat
open Go
def F_tcomp_Encode (s : YSchema) (t : List UInt8) (v_ : YValue) (l : YLimit) : Option (List UInt8 × Int) :=
  F_tcomp_known s t >>= fun r1 =>
  if (!r1) = true then (
    some ([], 1)
  ) else
  F_value_Check (s, t, v_) >>= fun r3 =>
  if (!r3) = true then (
    some ([], 1)
  ) else
  F_tcomp_Encode_12 t s v_ l
set_option maxHeartbeats 4000000 in
theorem t_F_tcomp_Encode : ∀ (s : YSchema) (t : List UInt8) (v_ : YValue) (l : YLimit) (p : List UInt8 × Int), F_tcomp_Encode s t v_ l = some p → ∀ (h : Heap), Run T0 N_tcomp_Encode [.agg [.sl false 3 (List.map YSStruct.av s.structs), .sl false 2 (List.map YSEnum.av s.enums), .sl false 2 (List.map YSService.av s.services)], .str t, .agg [.int .i64 v_.kind, .int .i64 v_.n_, .str v_.s, .sl false 5 (List.map YValue.av v_.l), .sl false 1 (List.map (AV.int .i64) v_.iDs)], .agg [.int .i64 l.depth, .int .i64 l.bytes]] h = some ((.tup [.sl false 1 (List.map e8 p.1), .int .i64 p.2]), h) := by
  intro s t v_ l p hF
  unfold F_tcomp_Encode at hF
  intro h
  refine run_ofK at_tcomp_Encode (n := h.length) rfl ?_
  simp only [go_sem, reduceIte, Nat.reduceEqDiff, Nat.reduceAdd, Nat.reduceLeDiff, Nat.reduceLT, Nat.reduceSub, Nat.reduceBEq, ne_eq, not_false_eq_true]
  obtain ⟨r1, hr1, hF⟩ := bindE hF
  refine DoesR_m (call_F_tcomp_known hr1) ?_
  simp only [go_sem, reduceIte, Nat.reduceEqDiff, Nat.reduceAdd, Nat.reduceLeDiff, Nat.reduceLT, Nat.reduceSub, Nat.reduceBEq, ne_eq, not_false_eq_true]
  rcases iteE hF with ⟨hc2, hF⟩ | ⟨hc2, hF⟩
  · simp only [go_sem, reduceIte, Nat.reduceEqDiff, Nat.reduceAdd, Nat.reduceLeDiff, Nat.reduceLT, Nat.reduceSub, Nat.reduceBEq, ne_eq, not_false_eq_true, hc2]
    all_goals (cases hF; rfl)
  · simp only [go_sem, reduceIte, Nat.reduceEqDiff, Nat.reduceAdd, Nat.reduceLeDiff, Nat.reduceLT, Nat.reduceSub, Nat.reduceBEq, ne_eq, not_false_eq_true, hc2]
    obtain ⟨r3, hr3, hF⟩ := bindE hF
    refine DoesR_m (call_F_value_Check hr3) ?_
    simp only [go_sem, reduceIte, Nat.reduceEqDiff, Nat.reduceAdd, Nat.reduceLeDiff, Nat.reduceLT, Nat.reduceSub, Nat.reduceBEq, ne_eq, not_false_eq_true, hc2]
    rcases iteE hF with ⟨hc4, hF⟩ | ⟨hc4, hF⟩
    · simp only [go_sem, reduceIte, Nat.reduceEqDiff, Nat.reduceAdd, Nat.reduceLeDiff, Nat.reduceLT, Nat.reduceSub, Nat.reduceBEq, ne_eq, not_false_eq_true, hc2, hc4]
      all_goals (cases hF; rfl)
    · simp only [go_sem, reduceIte, Nat.reduceEqDiff, Nat.reduceAdd, Nat.reduceLeDiff, Nat.reduceLT, Nat.reduceSub, Nat.reduceBEq, ne_eq, not_false_eq_true, hc2, hc4]
      exact t_F_tcomp_Encode_12 _ _ _ _ _ hF _
theorem call_F_tcomp_Encode {s : YSchema} {t : List UInt8} {v_ : YValue} {l : YLimit} {p : List UInt8 × Int} (hx : F_tcomp_Encode s t v_ l = some p) {h : Heap} : callA (Run T0 N_tcomp_Encode) [.agg [.sl false 3 (List.map YSStruct.av s.structs), .sl false 2 (List.map YSEnum.av s.enums), .sl false 2 (List.map YSService.av s.services)], .str t, .agg [.int .i64 v_.kind, .int .i64 v_.n_, .str v_.s, .sl false 5 (List.map YValue.av v_.l), .sl false 1 (List.map (AV.int .i64) v_.iDs)], .agg [.int .i64 l.depth, .int .i64 l.bytes]] h = some ((.tup [.sl false 1 (List.map e8 p.1), .int .i64 p.2]), h) :=
  callA_pure (by simp only [go_sem]) (fun H => t_F_tcomp_Encode _ _ _ _ _ hx H)
def F_law20_TcompSizes_51 (many : UInt8) (size : Int) (b_ : List UInt8) (e_ : Int) (c : List UInt8) (f : Int) (head : Int) (bx0 : YLimit) : Option (Bool) :=
  F_tcomp_Encode (⟨[], [], []⟩ : YSchema) [109, 97, 112, 60, 105, 51, 50, 44, 105, 51, 50, 62] (⟨13, 0, [], [], []⟩ : YValue) bx0 >>= fun r12 =>
  if (e_ == (0 : Int)) = true then (
    if ((b_.length : Int) == size) = true then (
      if (f == (0 : Int)) = true then (
        if ((c.length : Int) == (iadd .i64 head (imul .i64 (IntKind.i64.wrap (many.toNat : Int)) size))) = true then (
          if (r12.2 == (0 : Int)) = true then (
            some ((r12.1.length : Int) == (1 : Int))
          ) else
          some false
        ) else
        some false
      ) else
      some false
    ) else
    some false
  ) else
  some false
set_option maxHeartbeats 4000000 in
theorem t_F_law20_TcompSizes_51 : ∀ (many : UInt8) (size : Int) (b_ : List UInt8) (e_ : Int) (c : List UInt8) (f : Int) (head : Int) (bx0 : YLimit) (p : Bool), F_law20_TcompSizes_51 many size b_ e_ c f head bx0 = some p → ∀ (h : Heap) (z1 : Box) (z2 : Box), Does T0 C6_51 (aft T0 (EndQ false [.tmp 4] h.length (.bool p) (h)) []) .mk .mk [(1, .int .u8 (many.toNat : Int)), (5, .ptr h.length 0), (6, .int .i64 size), (10, .sl false 1 (List.map e8 b_)), (11, .int .i64 e_), (14, .sl false 1 (List.map e8 c)), (15, .int .i64 f), (16, .int .i64 head)] (h ++ [.row [.int .i64 bx0.depth, .int .i64 bx0.bytes], z1, z2]) := by
  intro many size b_ e_ c f head bx0 p hF
  unfold F_law20_TcompSizes_51 at hF
  intro h z1 z2
  unfold C6_51
  simp only [go_sem, reduceIte, Nat.reduceEqDiff, Nat.reduceAdd, Nat.reduceLeDiff, Nat.reduceLT, Nat.reduceSub, Nat.reduceBEq, ne_eq, not_false_eq_true]
  obtain ⟨r12, hr12, hF⟩ := bindE hF
  refine DoesR_m (call_F_tcomp_Encode hr12) ?_
  simp only [go_sem, reduceIte, Nat.reduceEqDiff, Nat.reduceAdd, Nat.reduceLeDiff, Nat.reduceLT, Nat.reduceSub, Nat.reduceBEq, ne_eq, not_false_eq_true]
  rcases iteE hF with ⟨hc13, hF⟩ | ⟨hc13, hF⟩
  · simp only [go_sem, reduceIte, Nat.reduceEqDiff, Nat.reduceAdd, Nat.reduceLeDiff, Nat.reduceLT, Nat.reduceSub, Nat.reduceBEq, ne_eq, not_false_eq_true, hc13]
    rcases iteE hF with ⟨hc14, hF⟩ | ⟨hc14, hF⟩
    · simp only [go_sem, reduceIte, Nat.reduceEqDiff, Nat.reduceAdd, Nat.reduceLeDiff, Nat.reduceLT, Nat.reduceSub, Nat.reduceBEq, ne_eq, not_false_eq_true, hc13, hc14]
      rcases iteE hF with ⟨hc15, hF⟩ | ⟨hc15, hF⟩
      · simp only [go_sem, reduceIte, Nat.reduceEqDiff, Nat.reduceAdd, Nat.reduceLeDiff, Nat.reduceLT, Nat.reduceSub, Nat.reduceBEq, ne_eq, not_false_eq_true, hc13, hc14, hc15]
        rcases iteE hF with ⟨hc16, hF⟩ | ⟨hc16, hF⟩
        · simp only [go_sem, reduceIte, Nat.reduceEqDiff, Nat.reduceAdd, Nat.reduceLeDiff, Nat.reduceLT, Nat.reduceSub, Nat.reduceBEq, ne_eq, not_false_eq_true, hc13, hc14, hc15, hc16]
          rcases iteE hF with ⟨hc17, hF⟩ | ⟨hc17, hF⟩
          · simp only [go_sem, reduceIte, Nat.reduceEqDiff, Nat.reduceAdd, Nat.reduceLeDiff, Nat.reduceLT, Nat.reduceSub, Nat.reduceBEq, ne_eq, not_false_eq_true, hc13, hc14, hc15, hc16, hc17]
            all_goals (cases hF; rfl)
          · simp only [go_sem, reduceIte, Nat.reduceEqDiff, Nat.reduceAdd, Nat.reduceLeDiff, Nat.reduceLT, Nat.reduceSub, Nat.reduceBEq, ne_eq, not_false_eq_true, hc13, hc14, hc15, hc16, hc17]
            all_goals (cases hF; rfl)
        · simp only [go_sem, reduceIte, Nat.reduceEqDiff, Nat.reduceAdd, Nat.reduceLeDiff, Nat.reduceLT, Nat.reduceSub, Nat.reduceBEq, ne_eq, not_false_eq_true, hc13, hc14, hc15, hc16]
          all_goals (cases hF; rfl)
      · simp only [go_sem, reduceIte, Nat.reduceEqDiff, Nat.reduceAdd, Nat.reduceLeDiff, Nat.reduceLT, Nat.reduceSub, Nat.reduceBEq, ne_eq, not_false_eq_true, hc13, hc14, hc15]
        all_goals (cases hF; rfl)
    · simp only [go_sem, reduceIte, Nat.reduceEqDiff, Nat.reduceAdd, Nat.reduceLeDiff, Nat.reduceLT, Nat.reduceSub, Nat.reduceBEq, ne_eq, not_false_eq_true, hc13, hc14]
      all_goals (cases hF; rfl)
  · simp only [go_sem, reduceIte, Nat.reduceEqDiff, Nat.reduceAdd, Nat.reduceLeDiff, Nat.reduceLT, Nat.reduceSub, Nat.reduceBEq, ne_eq, not_false_eq_true, hc13]
    all_goals (cases hF; rfl)
def F_law20_TcompSizes_53 (many : UInt8) (size : Int) (b_ : List UInt8) (e_ : Int) (c : List UInt8) (f : Int) (head : Int) (bx0 : YLimit) : Option (Bool) :=
  if (decide ((many.toNat : Int) ≥ (128 : Int))) = true then (
    F_law20_TcompSizes_51 many size b_ e_ c f 3 bx0
  ) else
  F_law20_TcompSizes_51 many size b_ e_ c f head bx0
set_option maxHeartbeats 4000000 in
theorem t_F_law20_TcompSizes_53 : ∀ (many : UInt8) (size : Int) (b_ : List UInt8) (e_ : Int) (c : List UInt8) (f : Int) (head : Int) (bx0 : YLimit) (p : Bool), F_law20_TcompSizes_53 many size b_ e_ c f head bx0 = some p → ∀ (h : Heap) (z1 : Box) (z2 : Box), Does T0 C6_53 (aft T0 (EndQ false [.tmp 4] h.length (.bool p) (h)) []) .mk .mk [(1, .int .u8 (many.toNat : Int)), (5, .ptr h.length 0), (6, .int .i64 size), (10, .sl false 1 (List.map e8 b_)), (11, .int .i64 e_), (14, .sl false 1 (List.map e8 c)), (15, .int .i64 f), (16, .int .i64 head)] (h ++ [.row [.int .i64 bx0.depth, .int .i64 bx0.bytes], z1, z2]) := by
  intro many size b_ e_ c f head bx0 p hF
  unfold F_law20_TcompSizes_53 at hF
  intro h z1 z2
  unfold C6_53
  simp only [go_sem, reduceIte, Nat.reduceEqDiff, Nat.reduceAdd, Nat.reduceLeDiff, Nat.reduceLT, Nat.reduceSub, Nat.reduceBEq, ne_eq, not_false_eq_true]
  rcases iteE hF with ⟨hc11, hF⟩ | ⟨hc11, hF⟩
  · simp only [go_sem, reduceIte, Nat.reduceEqDiff, Nat.reduceAdd, Nat.reduceLeDiff, Nat.reduceLT, Nat.reduceSub, Nat.reduceBEq, ne_eq, not_false_eq_true, hc11]
    exact t_F_law20_TcompSizes_51 _ _ _ _ _ _ _ _ _ hF _ _ _
  · simp only [go_sem, reduceIte, Nat.reduceEqDiff, Nat.reduceAdd, Nat.reduceLeDiff, Nat.reduceLT, Nat.reduceSub, Nat.reduceBEq, ne_eq, not_false_eq_true, hc11]
    exact t_F_law20_TcompSizes_51 _ _ _ _ _ _ _ _ _ hF _ _ _
def F_law20_TcompSizes_33 (v : UInt8 × Int × List UInt8 × Int × Int × YLimit × YValue × YValue) : Option (Bool) :=
  if (decide (v.2.2.2.2.1 < (IntKind.i64.wrap (v.1.toNat : Int)))) = true then (
    appl 80 v.2.2.2.2.2.2.2.l [v.2.2.2.2.2.2.1] >>= fun x8 =>
    F_law20_TcompSizes_33 (v.1, v.2.1, v.2.2.1, v.2.2.2.1, (iadd .i64 v.2.2.2.2.1 1), v.2.2.2.2.2.1, v.2.2.2.2.2.2.1, (⟨v.2.2.2.2.2.2.2.kind, v.2.2.2.2.2.2.2.n_, v.2.2.2.2.2.2.2.s, x8, v.2.2.2.2.2.2.2.iDs⟩ : YValue))
  ) else
  F_tcomp_Encode (⟨[], [], []⟩ : YSchema) [108, 105, 115, 116, 60, 105, 51, 50, 62] v.2.2.2.2.2.2.2 v.2.2.2.2.2.1 >>= fun r9 =>
  if (decide ((v.1.toNat : Int) ≥ (15 : Int))) = true then (
    F_law20_TcompSizes_53 v.1 v.2.1 v.2.2.1 v.2.2.2.1 r9.1 r9.2 2 v.2.2.2.2.2.1
  ) else
  F_law20_TcompSizes_53 v.1 v.2.1 v.2.2.1 v.2.2.2.1 r9.1 r9.2 1 v.2.2.2.2.2.1
  partial_fixpoint
theorem F_law20_TcompSizes_33_eq (many : UInt8) (size : Int) (b_ : List UInt8) (e_ : Int) (i : Int) (bx0 : YLimit) (bx1 : YValue) (bx2 : YValue) : F_law20_TcompSizes_33 (many, size, b_, e_, i, bx0, bx1, bx2) =
  if (decide (i < (IntKind.i64.wrap (many.toNat : Int)))) = true then (
    appl 80 bx2.l [bx1] >>= fun x8 =>
    F_law20_TcompSizes_33 (many, size, b_, e_, (iadd .i64 i 1), bx0, bx1, (⟨bx2.kind, bx2.n_, bx2.s, x8, bx2.iDs⟩ : YValue))
  ) else
  F_tcomp_Encode (⟨[], [], []⟩ : YSchema) [108, 105, 115, 116, 60, 105, 51, 50, 62] bx2 bx0 >>= fun r9 =>
  if (decide ((many.toNat : Int) ≥ (15 : Int))) = true then (
    F_law20_TcompSizes_53 many size b_ e_ r9.1 r9.2 2 bx0
  ) else
  F_law20_TcompSizes_53 many size b_ e_ r9.1 r9.2 1 bx0 := F_law20_TcompSizes_33.eq_1 (many, size, b_, e_, i, bx0, bx1, bx2)
def M_F_law20_TcompSizes_33 (v : UInt8 × Int × List UInt8 × Int × Int × YLimit × YValue × YValue) (p : Bool) : Prop := ∀ (h : Heap), Does T0 C6_33 (aft T0 (EndQ false [.tmp 4] h.length (.bool p) (h)) [.gc (h.length + 3), .lp C6_34, .blk 2, .seq C6_57]) .mk .mk [(1, .int .u8 (v.1.toNat : Int)), (5, .ptr h.length 0), (6, .int .i64 v.2.1), (9, .ptr (h.length + 1) 0), (10, .sl false 1 (List.map e8 v.2.2.1)), (11, .int .i64 v.2.2.2.1), (12, .ptr (h.length + 2) 0), (13, .int .i64 v.2.2.2.2.1)] (h ++ [.row [.int .i64 v.2.2.2.2.2.1.depth, .int .i64 v.2.2.2.2.2.1.bytes], .row [.int .i64 v.2.2.2.2.2.2.1.kind, .int .i64 v.2.2.2.2.2.2.1.n_, .str v.2.2.2.2.2.2.1.s, .sl true 5 (List.map YValue.av v.2.2.2.2.2.2.1.l), .sl true 1 (List.map (AV.int .i64) v.2.2.2.2.2.2.1.iDs)], .row [.int .i64 v.2.2.2.2.2.2.2.kind, .int .i64 v.2.2.2.2.2.2.2.n_, .str v.2.2.2.2.2.2.2.s, .sl true 5 (List.map YValue.av v.2.2.2.2.2.2.2.l), .sl true 1 (List.map (AV.int .i64) v.2.2.2.2.2.2.2.iDs)]])
set_option maxHeartbeats 4000000 in
theorem st_F_law20_TcompSizes_33 (f_F_law20_TcompSizes_33 : (UInt8 × Int × List UInt8 × Int × Int × YLimit × YValue × YValue) → Option (Bool)) (ih_F_law20_TcompSizes_33 : ∀ v p, f_F_law20_TcompSizes_33 v = some p → M_F_law20_TcompSizes_33 v p) (v : UInt8 × Int × List UInt8 × Int × Int × YLimit × YValue × YValue) (p : Bool) (hF : (
  if (decide (v.2.2.2.2.1 < (IntKind.i64.wrap (v.1.toNat : Int)))) = true then (
    appl 80 v.2.2.2.2.2.2.2.l [v.2.2.2.2.2.2.1] >>= fun x8 =>
    f_F_law20_TcompSizes_33 (v.1, v.2.1, v.2.2.1, v.2.2.2.1, (iadd .i64 v.2.2.2.2.1 1), v.2.2.2.2.2.1, v.2.2.2.2.2.2.1, (⟨v.2.2.2.2.2.2.2.kind, v.2.2.2.2.2.2.2.n_, v.2.2.2.2.2.2.2.s, x8, v.2.2.2.2.2.2.2.iDs⟩ : YValue))
  ) else
  F_tcomp_Encode (⟨[], [], []⟩ : YSchema) [108, 105, 115, 116, 60, 105, 51, 50, 62] v.2.2.2.2.2.2.2 v.2.2.2.2.2.1 >>= fun r9 =>
  if (decide ((v.1.toNat : Int) ≥ (15 : Int))) = true then (
    F_law20_TcompSizes_53 v.1 v.2.1 v.2.2.1 v.2.2.2.1 r9.1 r9.2 2 v.2.2.2.2.2.1
  ) else
  F_law20_TcompSizes_53 v.1 v.2.1 v.2.2.1 v.2.2.2.1 r9.1 r9.2 1 v.2.2.2.2.2.1) = some p) : M_F_law20_TcompSizes_33 v p := by
  intro h
  unfold C6_33
  simp only [go_sem, reduceIte, Nat.reduceEqDiff, Nat.reduceAdd, Nat.reduceLeDiff, Nat.reduceLT, Nat.reduceSub, Nat.reduceBEq, ne_eq, not_false_eq_true]
  rcases iteE hF with ⟨hc7, hF⟩ | ⟨hc7, hF⟩
  · simp only [go_sem, reduceIte, Nat.reduceEqDiff, Nat.reduceAdd, Nat.reduceLeDiff, Nat.reduceLT, Nat.reduceSub, Nat.reduceBEq, ne_eq, not_false_eq_true, hc7]
    obtain ⟨x8, hx8, hF⟩ := bindE hF
    refine DoesO_m (by have hq := appl_map YValue.av hx8; simp only [List.map_cons, List.map_nil, YValue.av_eq, YValue.cs] at hq; exact hq) ?_
    simp only [go_sem, reduceIte, Nat.reduceEqDiff, Nat.reduceAdd, Nat.reduceLeDiff, Nat.reduceLT, Nat.reduceSub, Nat.reduceBEq, ne_eq, not_false_eq_true, hc7]
    exact ih_F_law20_TcompSizes_33 _ _ hF _
  · simp only [go_sem, reduceIte, Nat.reduceEqDiff, Nat.reduceAdd, Nat.reduceLeDiff, Nat.reduceLT, Nat.reduceSub, Nat.reduceBEq, ne_eq, not_false_eq_true, hc7]
    obtain ⟨r9, hr9, hF⟩ := bindE hF
    refine DoesR_m (call_F_tcomp_Encode hr9) ?_
    simp only [go_sem, reduceIte, Nat.reduceEqDiff, Nat.reduceAdd, Nat.reduceLeDiff, Nat.reduceLT, Nat.reduceSub, Nat.reduceBEq, ne_eq, not_false_eq_true, hc7]
    rcases iteE hF with ⟨hc10, hF⟩ | ⟨hc10, hF⟩
    · simp only [go_sem, reduceIte, Nat.reduceEqDiff, Nat.reduceAdd, Nat.reduceLeDiff, Nat.reduceLT, Nat.reduceSub, Nat.reduceBEq, ne_eq, not_false_eq_true, hc7, hc10]
      exact t_F_law20_TcompSizes_53 _ _ _ _ _ _ _ _ _ hF _ _ _
    · simp only [go_sem, reduceIte, Nat.reduceEqDiff, Nat.reduceAdd, Nat.reduceLeDiff, Nat.reduceLT, Nat.reduceSub, Nat.reduceBEq, ne_eq, not_false_eq_true, hc7, hc10]
      exact t_F_law20_TcompSizes_53 _ _ _ _ _ _ _ _ _ hF _ _ _
theorem t_F_law20_TcompSizes_33 : ∀ v p, F_law20_TcompSizes_33 v = some p → M_F_law20_TcompSizes_33 v p := F_law20_TcompSizes_33.partial_correctness M_F_law20_TcompSizes_33 (fun f0 i0 v p hF => st_F_law20_TcompSizes_33 f0 i0 v p hF)
def F_law20_TcompSizes_61 (n_ : Int) (many : UInt8) (size : Int) (bx0 : YLimit) : Option (Bool) :=
  F_tcomp_Encode (⟨[], [], []⟩ : YSchema) [105, 51, 50] (⟨8, (IntKind.i64.wrap n_), [], [], []⟩ : YValue) bx0 >>= fun r6 =>
  F_law20_TcompSizes_33 (many, size, r6.1, r6.2, 0, bx0, (⟨8, (IntKind.i64.wrap n_), [], [], []⟩ : YValue), (⟨15, 0, [], [], []⟩ : YValue))
set_option maxHeartbeats 4000000 in
theorem t_F_law20_TcompSizes_61 : ∀ (n_ : Int) (many : UInt8) (size : Int) (bx0 : YLimit) (p : Bool), F_law20_TcompSizes_61 n_ many size bx0 = some p → ∀ (h : Heap), Does T0 C6_61 (aft T0 (EndQ false [.tmp 4] h.length (.bool p) (h)) []) .mk .mk [(0, .int .i32 n_), (1, .int .u8 (many.toNat : Int)), (5, .ptr h.length 0), (6, .int .i64 size)] (h ++ [.row [.int .i64 bx0.depth, .int .i64 bx0.bytes]]) := by
  intro n_ many size bx0 p hF
  unfold F_law20_TcompSizes_61 at hF
  intro h
  unfold C6_61
  simp only [go_sem, reduceIte, Nat.reduceEqDiff, Nat.reduceAdd, Nat.reduceLeDiff, Nat.reduceLT, Nat.reduceSub, Nat.reduceBEq, ne_eq, not_false_eq_true]
  obtain ⟨r6, hr6, hF⟩ := bindE hF
  refine DoesR_m (call_F_tcomp_Encode hr6) ?_
  simp only [go_sem, reduceIte, Nat.reduceEqDiff, Nat.reduceAdd, Nat.reduceLeDiff, Nat.reduceLT, Nat.reduceSub, Nat.reduceBEq, ne_eq, not_false_eq_true]
  exact t_F_law20_TcompSizes_33 _ _ hF _
def F_law20_TcompSizes_17 (v : Int × UInt8 × Int × Int × Int × YLimit) : Option (Bool) :=
  if (decide (v.2.2.1 < (5 : Int))) = true then (
    if (decide ((IntKind.i64.wrap v.1) < v.2.2.2.1)) = true then (
      F_law20_TcompSizes_17 (v.1, v.2.1, (iadd .i64 v.2.2.1 1), (imul .i64 v.2.2.2.1 128), (iadd .i64 (imul .i64 v.2.2.2.2.1 128) 127), v.2.2.2.2.2)
    ) else
    if (decide ((IntKind.i64.wrap v.1) > v.2.2.2.2.1)) = true then (
      F_law20_TcompSizes_17 (v.1, v.2.1, (iadd .i64 v.2.2.1 1), (imul .i64 v.2.2.2.1 128), (iadd .i64 (imul .i64 v.2.2.2.2.1 128) 127), v.2.2.2.2.2)
    ) else
    F_law20_TcompSizes_61 v.1 v.2.1 v.2.2.1 v.2.2.2.2.2
  ) else
  F_law20_TcompSizes_61 v.1 v.2.1 v.2.2.1 v.2.2.2.2.2
  partial_fixpoint
theorem F_law20_TcompSizes_17_eq (n_ : Int) (many : UInt8) (size : Int) (lo_ : Int) (hi_ : Int) (bx0 : YLimit) : F_law20_TcompSizes_17 (n_, many, size, lo_, hi_, bx0) =
  if (decide (size < (5 : Int))) = true then (
    if (decide ((IntKind.i64.wrap n_) < lo_)) = true then (
      F_law20_TcompSizes_17 (n_, many, (iadd .i64 size 1), (imul .i64 lo_ 128), (iadd .i64 (imul .i64 hi_ 128) 127), bx0)
    ) else
    if (decide ((IntKind.i64.wrap n_) > hi_)) = true then (
      F_law20_TcompSizes_17 (n_, many, (iadd .i64 size 1), (imul .i64 lo_ 128), (iadd .i64 (imul .i64 hi_ 128) 127), bx0)
    ) else
    F_law20_TcompSizes_61 n_ many size bx0
  ) else
  F_law20_TcompSizes_61 n_ many size bx0 := F_law20_TcompSizes_17.eq_1 (n_, many, size, lo_, hi_, bx0)
def M_F_law20_TcompSizes_17 (v : Int × UInt8 × Int × Int × Int × YLimit) (p : Bool) : Prop := ∀ (h : Heap), Does T0 C6_17 (aft T0 (EndQ false [.tmp 4] h.length (.bool p) (h)) [.gc (h.length + 1), .lp C6_18, .blk 0, .seq C6_62]) .mk .mk [(0, .int .i32 v.1), (1, .int .u8 (v.2.1.toNat : Int)), (5, .ptr h.length 0), (6, .int .i64 v.2.2.1), (7, .int .i64 v.2.2.2.1), (8, .int .i64 v.2.2.2.2.1)] (h ++ [.row [.int .i64 v.2.2.2.2.2.depth, .int .i64 v.2.2.2.2.2.bytes]])
set_option maxHeartbeats 4000000 in
theorem st_F_law20_TcompSizes_17 (f_F_law20_TcompSizes_17 : (Int × UInt8 × Int × Int × Int × YLimit) → Option (Bool)) (ih_F_law20_TcompSizes_17 : ∀ v p, f_F_law20_TcompSizes_17 v = some p → M_F_law20_TcompSizes_17 v p) (v : Int × UInt8 × Int × Int × Int × YLimit) (p : Bool) (hF : (
  if (decide (v.2.2.1 < (5 : Int))) = true then (
    if (decide ((IntKind.i64.wrap v.1) < v.2.2.2.1)) = true then (
      f_F_law20_TcompSizes_17 (v.1, v.2.1, (iadd .i64 v.2.2.1 1), (imul .i64 v.2.2.2.1 128), (iadd .i64 (imul .i64 v.2.2.2.2.1 128) 127), v.2.2.2.2.2)
    ) else
    if (decide ((IntKind.i64.wrap v.1) > v.2.2.2.2.1)) = true then (
      f_F_law20_TcompSizes_17 (v.1, v.2.1, (iadd .i64 v.2.2.1 1), (imul .i64 v.2.2.2.1 128), (iadd .i64 (imul .i64 v.2.2.2.2.1 128) 127), v.2.2.2.2.2)
    ) else
    F_law20_TcompSizes_61 v.1 v.2.1 v.2.2.1 v.2.2.2.2.2
  ) else
  F_law20_TcompSizes_61 v.1 v.2.1 v.2.2.1 v.2.2.2.2.2) = some p) : M_F_law20_TcompSizes_17 v p := by
  intro h
  unfold C6_17
  simp only [go_sem, reduceIte, Nat.reduceEqDiff, Nat.reduceAdd, Nat.reduceLeDiff, Nat.reduceLT, Nat.reduceSub, Nat.reduceBEq, ne_eq, not_false_eq_true]
  rcases iteE hF with ⟨hc3, hF⟩ | ⟨hc3, hF⟩
  · simp only [go_sem, reduceIte, Nat.reduceEqDiff, Nat.reduceAdd, Nat.reduceLeDiff, Nat.reduceLT, Nat.reduceSub, Nat.reduceBEq, ne_eq, not_false_eq_true, hc3]
    rcases iteE hF with ⟨hc4, hF⟩ | ⟨hc4, hF⟩
    · simp only [go_sem, reduceIte, Nat.reduceEqDiff, Nat.reduceAdd, Nat.reduceLeDiff, Nat.reduceLT, Nat.reduceSub, Nat.reduceBEq, ne_eq, not_false_eq_true, hc3, hc4]
      exact ih_F_law20_TcompSizes_17 _ _ hF _
    · simp only [go_sem, reduceIte, Nat.reduceEqDiff, Nat.reduceAdd, Nat.reduceLeDiff, Nat.reduceLT, Nat.reduceSub, Nat.reduceBEq, ne_eq, not_false_eq_true, hc3, hc4]
      rcases iteE hF with ⟨hc5, hF⟩ | ⟨hc5, hF⟩
      · simp only [go_sem, reduceIte, Nat.reduceEqDiff, Nat.reduceAdd, Nat.reduceLeDiff, Nat.reduceLT, Nat.reduceSub, Nat.reduceBEq, ne_eq, not_false_eq_true, hc3, hc4, hc5]
        exact ih_F_law20_TcompSizes_17 _ _ hF _
      · simp only [go_sem, reduceIte, Nat.reduceEqDiff, Nat.reduceAdd, Nat.reduceLeDiff, Nat.reduceLT, Nat.reduceSub, Nat.reduceBEq, ne_eq, not_false_eq_true, hc3, hc4, hc5]
        exact t_F_law20_TcompSizes_61 _ _ _ _ _ hF _
  · simp only [go_sem, reduceIte, Nat.reduceEqDiff, Nat.reduceAdd, Nat.reduceLeDiff, Nat.reduceLT, Nat.reduceSub, Nat.reduceBEq, ne_eq, not_false_eq_true, hc3]
    exact t_F_law20_TcompSizes_61 _ _ _ _ _ hF _
theorem t_F_law20_TcompSizes_17 : ∀ v p, F_law20_TcompSizes_17 v = some p → M_F_law20_TcompSizes_17 v p := F_law20_TcompSizes_17.partial_correctness M_F_law20_TcompSizes_17 (fun f0 i0 v p hF => st_F_law20_TcompSizes_17 f0 i0 v p hF)
def F_law20_TcompSizes (n_ : Int) (many : UInt8) : Option (Bool) :=
  F_law20_begun >>= fun r1 =>
  if (!r1) = true then (
    some false
  ) else
  F_law20_TcompSizes_17 (n_, many, 1, (-64), 63, (⟨5, 5000⟩ : YLimit))
set_option maxHeartbeats 4000000 in
theorem t_F_law20_TcompSizes : ∀ (n_ : Int) (many : UInt8) (p : Bool), F_law20_TcompSizes n_ many = some p → ∀ (h : Heap) (hh : h = []), Run T0 N_law20_TcompSizes [.int .i32 n_, .int .u8 (many.toNat : Int)] h = some ((.bool p), h) := by
  intro n_ many p hF
  unfold F_law20_TcompSizes at hF
  intro h hh
  refine run_ofK at_law20_TcompSizes (n := h.length) rfl ?_
  simp only [go_sem, reduceIte, Nat.reduceEqDiff, Nat.reduceAdd, Nat.reduceLeDiff, Nat.reduceLT, Nat.reduceSub, Nat.reduceBEq, ne_eq, not_false_eq_true]
  obtain ⟨r1, hr1, hF⟩ := bindE hF
  refine DoesR_m (call_F_law20_begun hr1 hh) ?_
  simp only [go_sem, reduceIte, Nat.reduceEqDiff, Nat.reduceAdd, Nat.reduceLeDiff, Nat.reduceLT, Nat.reduceSub, Nat.reduceBEq, ne_eq, not_false_eq_true]
  rcases iteE hF with ⟨hc2, hF⟩ | ⟨hc2, hF⟩
  · simp only [go_sem, reduceIte, Nat.reduceEqDiff, Nat.reduceAdd, Nat.reduceLeDiff, Nat.reduceLT, Nat.reduceSub, Nat.reduceBEq, ne_eq, not_false_eq_true, hc2]
    all_goals (cases hF; rfl)
  · simp only [go_sem, reduceIte, Nat.reduceEqDiff, Nat.reduceAdd, Nat.reduceLeDiff, Nat.reduceLT, Nat.reduceSub, Nat.reduceBEq, ne_eq, not_false_eq_true, hc2]
    exact t_F_law20_TcompSizes_17 _ _ hF _
end Go.Proofs.YtfihinodhhhllaaGreat
