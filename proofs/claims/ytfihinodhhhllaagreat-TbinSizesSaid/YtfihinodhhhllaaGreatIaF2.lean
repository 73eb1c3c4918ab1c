/- The functions as plain Lean functions, and that the runs come to their answers; printed by lift.py. -/
import Derived.Test.YtfihinodhhhllaaGreatIaH
import Derived.Test.YtfihinodhhhllaaGreatIaF1
set_option linter.unusedVariables false
set_option linter.unusedSimpArgs false
namespace Go.Proofs.YtfihinodhhhllaaGreat
open Go
def F_kind_Head (t : List UInt8) : Option (Int × List UInt8 × List UInt8 × List UInt8 × Int) :=
  F_kind_read t >>= fun r1 =>
  if (r1.1.e_ != (0 : Int)) = true then (
    some (0, [], [], [], r1.1.e_)
  ) else
  if (r1.2.1 == (0 : Int)) = true then (
    some (0, t, [], [], 0)
  ) else
  if ((r1.2.2.length : Int) == (0 : Int)) = true then (
    some (r1.2.1, [], [], [], 0)
  ) else
  F_strings_IndexByte t (60 : UInt8) >>= fun r5 =>
  lidx r1.2.2 0 >>= fun x6 =>
  subl t (iadd .i64 r5 1) x6 >>= fun x7 =>
  if ((r1.2.2.length : Int) == (2 : Int)) = true then (
    lidx r1.2.2 0 >>= fun x9 =>
    lidx r1.2.2 1 >>= fun x10 =>
    subl t (iadd .i64 x9 1) x10 >>= fun x11 =>
    some (r1.2.1, [], x7, x11, 0)
  ) else
  some (r1.2.1, [], x7, [], 0)
set_option maxHeartbeats 4000000 in
theorem t_F_kind_Head : ∀ (t : List UInt8) (p : Int × List UInt8 × List UInt8 × List UInt8 × Int), F_kind_Head t = some p → ∀ (h : Heap), Run T0 N_kind_Head [.str t] h = some ((.tup [.int .i64 p.1, .str p.2.1, .str p.2.2.1, .str p.2.2.2.1, .int .i64 p.2.2.2.2]), h) := by
  intro t p hF
  unfold F_kind_Head at hF
  intro h
  refine run_ofK at_kind_Head (n := h.length) rfl ?_
  simp only [go_sem, reduceIte, Nat.reduceEqDiff, Nat.reduceAdd, Nat.reduceLeDiff, Nat.reduceLT, Nat.reduceSub, Nat.reduceBEq, ne_eq, not_false_eq_true]
  obtain ⟨r1, hr1, hF⟩ := bindE hF
  refine DoesR_m (call_F_kind_read hr1) ?_
  simp only [go_sem, reduceIte, Nat.reduceEqDiff, Nat.reduceAdd, Nat.reduceLeDiff, Nat.reduceLT, Nat.reduceSub, Nat.reduceBEq, ne_eq, not_false_eq_true]
  rcases iteE hF with ⟨hc2, hF⟩ | ⟨hc2, hF⟩
  · simp only [go_sem, reduceIte, Nat.reduceEqDiff, Nat.reduceAdd, Nat.reduceLeDiff, Nat.reduceLT, Nat.reduceSub, Nat.reduceBEq, ne_eq, not_false_eq_true, hc2]
    all_goals (cases hF; rfl)
  · simp only [go_sem, reduceIte, Nat.reduceEqDiff, Nat.reduceAdd, Nat.reduceLeDiff, Nat.reduceLT, Nat.reduceSub, Nat.reduceBEq, ne_eq, not_false_eq_true, hc2]
    rcases iteE hF with ⟨hc3, hF⟩ | ⟨hc3, hF⟩
    · simp only [go_sem, reduceIte, Nat.reduceEqDiff, Nat.reduceAdd, Nat.reduceLeDiff, Nat.reduceLT, Nat.reduceSub, Nat.reduceBEq, ne_eq, not_false_eq_true, hc2, hc3]
      all_goals (cases hF; rfl)
    · simp only [go_sem, reduceIte, Nat.reduceEqDiff, Nat.reduceAdd, Nat.reduceLeDiff, Nat.reduceLT, Nat.reduceSub, Nat.reduceBEq, ne_eq, not_false_eq_true, hc2, hc3]
      rcases iteE hF with ⟨hc4, hF⟩ | ⟨hc4, hF⟩
      · simp only [go_sem, reduceIte, Nat.reduceEqDiff, Nat.reduceAdd, Nat.reduceLeDiff, Nat.reduceLT, Nat.reduceSub, Nat.reduceBEq, ne_eq, not_false_eq_true, hc2, hc3, hc4]
        all_goals (cases hF; rfl)
      · simp only [go_sem, reduceIte, Nat.reduceEqDiff, Nat.reduceAdd, Nat.reduceLeDiff, Nat.reduceLT, Nat.reduceSub, Nat.reduceBEq, ne_eq, not_false_eq_true, hc2, hc3, hc4]
        obtain ⟨r5, hr5, hF⟩ := bindE hF
        refine DoesR_m (call_F_strings_IndexByte hr5) ?_
        simp only [go_sem, reduceIte, Nat.reduceEqDiff, Nat.reduceAdd, Nat.reduceLeDiff, Nat.reduceLT, Nat.reduceSub, Nat.reduceBEq, ne_eq, not_false_eq_true, hc2, hc3, hc4]
        obtain ⟨x6, hx6, hF⟩ := bindE hF
        refine DoesO_m (lidx_map (AV.int .i64) hx6) ?_
        simp only [go_sem, reduceIte, Nat.reduceEqDiff, Nat.reduceAdd, Nat.reduceLeDiff, Nat.reduceLT, Nat.reduceSub, Nat.reduceBEq, ne_eq, not_false_eq_true, hc2, hc3, hc4]
        obtain ⟨x7, hx7, hF⟩ := bindE hF
        refine DoesO_m (hx7) ?_
        simp only [go_sem, reduceIte, Nat.reduceEqDiff, Nat.reduceAdd, Nat.reduceLeDiff, Nat.reduceLT, Nat.reduceSub, Nat.reduceBEq, ne_eq, not_false_eq_true, hc2, hc3, hc4]
        rcases iteE hF with ⟨hc8, hF⟩ | ⟨hc8, hF⟩
        · simp only [go_sem, reduceIte, Nat.reduceEqDiff, Nat.reduceAdd, Nat.reduceLeDiff, Nat.reduceLT, Nat.reduceSub, Nat.reduceBEq, ne_eq, not_false_eq_true, hc2, hc3, hc4, hc8]
          obtain ⟨x9, hx9, hF⟩ := bindE hF
          refine DoesO_m (lidx_map (AV.int .i64) hx9) ?_
          simp only [go_sem, reduceIte, Nat.reduceEqDiff, Nat.reduceAdd, Nat.reduceLeDiff, Nat.reduceLT, Nat.reduceSub, Nat.reduceBEq, ne_eq, not_false_eq_true, hc2, hc3, hc4, hc8]
          obtain ⟨x10, hx10, hF⟩ := bindE hF
          refine DoesO_m (lidx_map (AV.int .i64) hx10) ?_
          simp only [go_sem, reduceIte, Nat.reduceEqDiff, Nat.reduceAdd, Nat.reduceLeDiff, Nat.reduceLT, Nat.reduceSub, Nat.reduceBEq, ne_eq, not_false_eq_true, hc2, hc3, hc4, hc8]
          obtain ⟨x11, hx11, hF⟩ := bindE hF
          refine DoesO_m (hx11) ?_
          simp only [go_sem, reduceIte, Nat.reduceEqDiff, Nat.reduceAdd, Nat.reduceLeDiff, Nat.reduceLT, Nat.reduceSub, Nat.reduceBEq, ne_eq, not_false_eq_true, hc2, hc3, hc4, hc8]
          all_goals (cases hF; rfl)
        · simp only [go_sem, reduceIte, Nat.reduceEqDiff, Nat.reduceAdd, Nat.reduceLeDiff, Nat.reduceLT, Nat.reduceSub, Nat.reduceBEq, ne_eq, not_false_eq_true, hc2, hc3, hc4, hc8]
          all_goals (cases hF; rfl)
theorem call_F_kind_Head {t : List UInt8} {p : Int × List UInt8 × List UInt8 × List UInt8 × Int} (hx : F_kind_Head t = some p) {h : Heap} : callA (Run T0 N_kind_Head) [.str t] h = some ((.tup [.int .i64 p.1, .str p.2.1, .str p.2.2.1, .str p.2.2.2.1, .int .i64 p.2.2.2.2]), h) :=
  callA_pure (by simp only [go_sem]) (fun H => t_F_kind_Head _ _ hx H)
def F_kind_Wire (kind : Int) : Option (Int) :=
  if (kind == (16 : Int)) = true then (
    some 11
  ) else
  if (kind == (17 : Int)) = true then (
    some 8
  ) else
  if (kind == (2 : Int)) = true then (
    some kind
  ) else
  if (kind == (3 : Int)) = true then (
    some kind
  ) else
  if (kind == (4 : Int)) = true then (
    some kind
  ) else
  if (kind == (6 : Int)) = true then (
    some kind
  ) else
  if (kind == (8 : Int)) = true then (
    some kind
  ) else
  if (kind == (10 : Int)) = true then (
    some kind
  ) else
  if (kind == (11 : Int)) = true then (
    some kind
  ) else
  if (kind == (12 : Int)) = true then (
    some kind
  ) else
  if (kind == (13 : Int)) = true then (
    some kind
  ) else
  if (kind == (14 : Int)) = true then (
    some kind
  ) else
  if (kind == (15 : Int)) = true then (
    some kind
  ) else
  some 0
set_option maxHeartbeats 4000000 in
theorem t_F_kind_Wire : ∀ (kind : Int) (p : Int), F_kind_Wire kind = some p → ∀ (h : Heap), Run T0 N_kind_Wire [.int .i64 kind] h = some ((.int .i64 p), h) := by
  intro kind p hF
  unfold F_kind_Wire at hF
  intro h
  refine run_ofK at_kind_Wire (n := h.length) rfl ?_
  simp only [go_sem, reduceIte, Nat.reduceEqDiff, Nat.reduceAdd, Nat.reduceLeDiff, Nat.reduceLT, Nat.reduceSub, Nat.reduceBEq, ne_eq, not_false_eq_true]
  rcases iteE hF with ⟨hc1, hF⟩ | ⟨hc1, hF⟩
  · simp only [go_sem, reduceIte, Nat.reduceEqDiff, Nat.reduceAdd, Nat.reduceLeDiff, Nat.reduceLT, Nat.reduceSub, Nat.reduceBEq, ne_eq, not_false_eq_true, hc1]
    all_goals (cases hF; rfl)
  · simp only [go_sem, reduceIte, Nat.reduceEqDiff, Nat.reduceAdd, Nat.reduceLeDiff, Nat.reduceLT, Nat.reduceSub, Nat.reduceBEq, ne_eq, not_false_eq_true, hc1]
    rcases iteE hF with ⟨hc2, hF⟩ | ⟨hc2, hF⟩
    · simp only [go_sem, reduceIte, Nat.reduceEqDiff, Nat.reduceAdd, Nat.reduceLeDiff, Nat.reduceLT, Nat.reduceSub, Nat.reduceBEq, ne_eq, not_false_eq_true, hc1, hc2]
      all_goals (cases hF; rfl)
    · simp only [go_sem, reduceIte, Nat.reduceEqDiff, Nat.reduceAdd, Nat.reduceLeDiff, Nat.reduceLT, Nat.reduceSub, Nat.reduceBEq, ne_eq, not_false_eq_true, hc1, hc2]
      rcases iteE hF with ⟨hc3, hF⟩ | ⟨hc3, hF⟩
      · simp only [go_sem, reduceIte, Nat.reduceEqDiff, Nat.reduceAdd, Nat.reduceLeDiff, Nat.reduceLT, Nat.reduceSub, Nat.reduceBEq, ne_eq, not_false_eq_true, hc1, hc2, hc3]
        all_goals (cases hF; rfl)
      · simp only [go_sem, reduceIte, Nat.reduceEqDiff, Nat.reduceAdd, Nat.reduceLeDiff, Nat.reduceLT, Nat.reduceSub, Nat.reduceBEq, ne_eq, not_false_eq_true, hc1, hc2, hc3]
        rcases iteE hF with ⟨hc4, hF⟩ | ⟨hc4, hF⟩
        · simp only [go_sem, reduceIte, Nat.reduceEqDiff, Nat.reduceAdd, Nat.reduceLeDiff, Nat.reduceLT, Nat.reduceSub, Nat.reduceBEq, ne_eq, not_false_eq_true, hc1, hc2, hc3, hc4]
          all_goals (cases hF; rfl)
        · simp only [go_sem, reduceIte, Nat.reduceEqDiff, Nat.reduceAdd, Nat.reduceLeDiff, Nat.reduceLT, Nat.reduceSub, Nat.reduceBEq, ne_eq, not_false_eq_true, hc1, hc2, hc3, hc4]
          rcases iteE hF with ⟨hc5, hF⟩ | ⟨hc5, hF⟩
          · simp only [go_sem, reduceIte, Nat.reduceEqDiff, Nat.reduceAdd, Nat.reduceLeDiff, Nat.reduceLT, Nat.reduceSub, Nat.reduceBEq, ne_eq, not_false_eq_true, hc1, hc2, hc3, hc4, hc5]
            all_goals (cases hF; rfl)
          · simp only [go_sem, reduceIte, Nat.reduceEqDiff, Nat.reduceAdd, Nat.reduceLeDiff, Nat.reduceLT, Nat.reduceSub, Nat.reduceBEq, ne_eq, not_false_eq_true, hc1, hc2, hc3, hc4, hc5]
            rcases iteE hF with ⟨hc6, hF⟩ | ⟨hc6, hF⟩
            · simp only [go_sem, reduceIte, Nat.reduceEqDiff, Nat.reduceAdd, Nat.reduceLeDiff, Nat.reduceLT, Nat.reduceSub, Nat.reduceBEq, ne_eq, not_false_eq_true, hc1, hc2, hc3, hc4, hc5, hc6]
              all_goals (cases hF; rfl)
            · simp only [go_sem, reduceIte, Nat.reduceEqDiff, Nat.reduceAdd, Nat.reduceLeDiff, Nat.reduceLT, Nat.reduceSub, Nat.reduceBEq, ne_eq, not_false_eq_true, hc1, hc2, hc3, hc4, hc5, hc6]
              rcases iteE hF with ⟨hc7, hF⟩ | ⟨hc7, hF⟩
              · simp only [go_sem, reduceIte, Nat.reduceEqDiff, Nat.reduceAdd, Nat.reduceLeDiff, Nat.reduceLT, Nat.reduceSub, Nat.reduceBEq, ne_eq, not_false_eq_true, hc1, hc2, hc3, hc4, hc5, hc6, hc7]
                all_goals (cases hF; rfl)
              · simp only [go_sem, reduceIte, Nat.reduceEqDiff, Nat.reduceAdd, Nat.reduceLeDiff, Nat.reduceLT, Nat.reduceSub, Nat.reduceBEq, ne_eq, not_false_eq_true, hc1, hc2, hc3, hc4, hc5, hc6, hc7]
                rcases iteE hF with ⟨hc8, hF⟩ | ⟨hc8, hF⟩
                · simp only [go_sem, reduceIte, Nat.reduceEqDiff, Nat.reduceAdd, Nat.reduceLeDiff, Nat.reduceLT, Nat.reduceSub, Nat.reduceBEq, ne_eq, not_false_eq_true, hc1, hc2, hc3, hc4, hc5, hc6, hc7, hc8]
                  all_goals (cases hF; rfl)
                · simp only [go_sem, reduceIte, Nat.reduceEqDiff, Nat.reduceAdd, Nat.reduceLeDiff, Nat.reduceLT, Nat.reduceSub, Nat.reduceBEq, ne_eq, not_false_eq_true, hc1, hc2, hc3, hc4, hc5, hc6, hc7, hc8]
                  rcases iteE hF with ⟨hc9, hF⟩ | ⟨hc9, hF⟩
                  · simp only [go_sem, reduceIte, Nat.reduceEqDiff, Nat.reduceAdd, Nat.reduceLeDiff, Nat.reduceLT, Nat.reduceSub, Nat.reduceBEq, ne_eq, not_false_eq_true, hc1, hc2, hc3, hc4, hc5, hc6, hc7, hc8, hc9]
                    all_goals (cases hF; rfl)
                  · simp only [go_sem, reduceIte, Nat.reduceEqDiff, Nat.reduceAdd, Nat.reduceLeDiff, Nat.reduceLT, Nat.reduceSub, Nat.reduceBEq, ne_eq, not_false_eq_true, hc1, hc2, hc3, hc4, hc5, hc6, hc7, hc8, hc9]
                    rcases iteE hF with ⟨hc10, hF⟩ | ⟨hc10, hF⟩
                    · simp only [go_sem, reduceIte, Nat.reduceEqDiff, Nat.reduceAdd, Nat.reduceLeDiff, Nat.reduceLT, Nat.reduceSub, Nat.reduceBEq, ne_eq, not_false_eq_true, hc1, hc2, hc3, hc4, hc5, hc6, hc7, hc8, hc9, hc10]
                      all_goals (cases hF; rfl)
                    · simp only [go_sem, reduceIte, Nat.reduceEqDiff, Nat.reduceAdd, Nat.reduceLeDiff, Nat.reduceLT, Nat.reduceSub, Nat.reduceBEq, ne_eq, not_false_eq_true, hc1, hc2, hc3, hc4, hc5, hc6, hc7, hc8, hc9, hc10]
                      rcases iteE hF with ⟨hc11, hF⟩ | ⟨hc11, hF⟩
                      · simp only [go_sem, reduceIte, Nat.reduceEqDiff, Nat.reduceAdd, Nat.reduceLeDiff, Nat.reduceLT, Nat.reduceSub, Nat.reduceBEq, ne_eq, not_false_eq_true, hc1, hc2, hc3, hc4, hc5, hc6, hc7, hc8, hc9, hc10, hc11]
                        all_goals (cases hF; rfl)
                      · simp only [go_sem, reduceIte, Nat.reduceEqDiff, Nat.reduceAdd, Nat.reduceLeDiff, Nat.reduceLT, Nat.reduceSub, Nat.reduceBEq, ne_eq, not_false_eq_true, hc1, hc2, hc3, hc4, hc5, hc6, hc7, hc8, hc9, hc10, hc11]
                        rcases iteE hF with ⟨hc12, hF⟩ | ⟨hc12, hF⟩
                        · simp only [go_sem, reduceIte, Nat.reduceEqDiff, Nat.reduceAdd, Nat.reduceLeDiff, Nat.reduceLT, Nat.reduceSub, Nat.reduceBEq, ne_eq, not_false_eq_true, hc1, hc2, hc3, hc4, hc5, hc6, hc7, hc8, hc9, hc10, hc11, hc12]
                          all_goals (cases hF; rfl)
                        · simp only [go_sem, reduceIte, Nat.reduceEqDiff, Nat.reduceAdd, Nat.reduceLeDiff, Nat.reduceLT, Nat.reduceSub, Nat.reduceBEq, ne_eq, not_false_eq_true, hc1, hc2, hc3, hc4, hc5, hc6, hc7, hc8, hc9, hc10, hc11, hc12]
                          rcases iteE hF with ⟨hc13, hF⟩ | ⟨hc13, hF⟩
                          · simp only [go_sem, reduceIte, Nat.reduceEqDiff, Nat.reduceAdd, Nat.reduceLeDiff, Nat.reduceLT, Nat.reduceSub, Nat.reduceBEq, ne_eq, not_false_eq_true, hc1, hc2, hc3, hc4, hc5, hc6, hc7, hc8, hc9, hc10, hc11, hc12, hc13]
                            all_goals (cases hF; rfl)
                          · simp only [go_sem, reduceIte, Nat.reduceEqDiff, Nat.reduceAdd, Nat.reduceLeDiff, Nat.reduceLT, Nat.reduceSub, Nat.reduceBEq, ne_eq, not_false_eq_true, hc1, hc2, hc3, hc4, hc5, hc6, hc7, hc8, hc9, hc10, hc11, hc12, hc13]
                            all_goals (cases hF; rfl)
theorem call_F_kind_Wire {kind : Int} {p : Int} (hx : F_kind_Wire kind = some p) {h : Heap} : callA (Run T0 N_kind_Wire) [.int .i64 kind] h = some ((.int .i64 p), h) :=
  callA_pure (by simp only [go_sem]) (fun H => t_F_kind_Wire _ _ hx H)
def F_octet_Put_18 (v : List UInt8 × Int × Nat × Int × List UInt8) : Option (List UInt8) :=
  if (decide (v.2.2.2.1 ≥ (v.1.length : Int))) = true then (
    msix v.2.2.1 v.2.2.2.1 >>= fun j5 =>
    lset v.2.2.2.2 j5 (u8w v.2.1) >>= fun x6 =>
    ishr .u64 v.2.1 8 >>= fun x7 =>
    F_octet_Put_18 (v.1, x7, v.2.2.1, (isub .i64 v.2.2.2.1 1), x6)
  ) else
  frz v.2.2.1 v.2.2.2.2 >>= fun x8 =>
  some x8
  partial_fixpoint
theorem F_octet_Put_18_eq (b_ : List UInt8) (v_ : Int) (out : Nat) (i : Int) (bx0 : List UInt8) : F_octet_Put_18 (b_, v_, out, i, bx0) =
  if (decide (i ≥ (b_.length : Int))) = true then (
    msix out i >>= fun j5 =>
    lset bx0 j5 (u8w v_) >>= fun x6 =>
    ishr .u64 v_ 8 >>= fun x7 =>
    F_octet_Put_18 (b_, x7, out, (isub .i64 i 1), x6)
  ) else
  frz out bx0 >>= fun x8 =>
  some x8 := F_octet_Put_18.eq_1 (b_, v_, out, i, bx0)
def M_F_octet_Put_18 (v : List UInt8 × Int × Nat × Int × List UInt8) (p : List UInt8) : Prop := ∀ (h : Heap), Does T0 C140_18 (aft T0 (EndQ true [.tmp 6] h.length (.sl true 1 (List.map e8 p)) (h)) [.gc (h.length + 1), .lp C140_19, .blk 0, .seq C140_24]) .mk .mk [(0, .sl false 1 (List.map e8 v.1)), (1, .int .u64 v.2.1), (7, .ms h.length 0 v.2.2.1 none true), (8, .int .i64 v.2.2.2.1)] (h ++ [.row (List.map e8 v.2.2.2.2)])
set_option maxHeartbeats 4000000 in
theorem st_F_octet_Put_18 (f_F_octet_Put_18 : (List UInt8 × Int × Nat × Int × List UInt8) → Option (List UInt8)) (ih_F_octet_Put_18 : ∀ v p, f_F_octet_Put_18 v = some p → M_F_octet_Put_18 v p) (v : List UInt8 × Int × Nat × Int × List UInt8) (p : List UInt8) (hF : (
  if (decide (v.2.2.2.1 ≥ (v.1.length : Int))) = true then (
    msix v.2.2.1 v.2.2.2.1 >>= fun j5 =>
    lset v.2.2.2.2 j5 (u8w v.2.1) >>= fun x6 =>
    ishr .u64 v.2.1 8 >>= fun x7 =>
    f_F_octet_Put_18 (v.1, x7, v.2.2.1, (isub .i64 v.2.2.2.1 1), x6)
  ) else
  frz v.2.2.1 v.2.2.2.2 >>= fun x8 =>
  some x8) = some p) : M_F_octet_Put_18 v p := by
  intro h
  unfold C140_18
  simp only [go_sem, reduceIte, Nat.reduceEqDiff, Nat.reduceAdd, Nat.reduceLeDiff, Nat.reduceLT, Nat.reduceSub, Nat.reduceBEq, ne_eq, not_false_eq_true]
  rcases iteE hF with ⟨hc4, hF⟩ | ⟨hc4, hF⟩
  · simp only [go_sem, reduceIte, Nat.reduceEqDiff, Nat.reduceAdd, Nat.reduceLeDiff, Nat.reduceLT, Nat.reduceSub, Nat.reduceBEq, ne_eq, not_false_eq_true, hc4]
    obtain ⟨j5, hj5, hF⟩ := bindE hF
    refine DoesO_v (msix_of hj5) ?_
    obtain ⟨x6, hx6, hF⟩ := bindE hF
    have hqx6 := lset_row e8 hx6
    try simp only [e8] at hqx6
    simp only [go_sem, reduceIte, Nat.reduceEqDiff, Nat.reduceAdd, Nat.reduceLeDiff, Nat.reduceLT, Nat.reduceSub, Nat.reduceBEq, ne_eq, not_false_eq_true, hc4, hqx6, lset_dec hx6]
    obtain ⟨x7, hx7, hF⟩ := bindE hF
    refine DoesO_m (hx7) ?_
    simp only [go_sem, reduceIte, Nat.reduceEqDiff, Nat.reduceAdd, Nat.reduceLeDiff, Nat.reduceLT, Nat.reduceSub, Nat.reduceBEq, ne_eq, not_false_eq_true, hc4]
    exact ih_F_octet_Put_18 _ _ hF _
  · simp only [go_sem, reduceIte, Nat.reduceEqDiff, Nat.reduceAdd, Nat.reduceLeDiff, Nat.reduceLT, Nat.reduceSub, Nat.reduceBEq, ne_eq, not_false_eq_true, hc4]
    obtain ⟨x8, hx8, hF⟩ := bindE hF
    simp only [go_sem, reduceIte, Nat.reduceEqDiff, Nat.reduceAdd, Nat.reduceLeDiff, Nat.reduceLT, Nat.reduceSub, Nat.reduceBEq, ne_eq, not_false_eq_true, hc4, elsOf_of (enc := e8) (fun _ => rfl) (fun _ => rfl) hx8]
    all_goals (cases hF; rfl)
theorem t_F_octet_Put_18 : ∀ v p, F_octet_Put_18 v = some p → M_F_octet_Put_18 v p := F_octet_Put_18.partial_correctness M_F_octet_Put_18 (fun f0 i0 v p hF => st_F_octet_Put_18 f0 i0 v p hF)
def F_octet_Put_27 (b_ : List UInt8) (v_ : Int) (n_ : Int) : Option (List UInt8) :=
  mksl 1 (iadd .i64 (b_.length : Int) n_) (iadd .i64 (b_.length : Int) n_) >>= fun m2 =>
  cpyl m2 (List.replicate m2 (0 : UInt8)) b_ >>= fun x3 =>
  F_octet_Put_18 (b_, v_, m2, (isub .i64 ((m2 : Nat) : Int) 1), x3)
set_option maxHeartbeats 4000000 in
theorem t_F_octet_Put_27 : ∀ (b_ : List UInt8) (v_ : Int) (n_ : Int) (p : List UInt8), F_octet_Put_27 b_ v_ n_ = some p → ∀ (h : Heap), Does T0 C140_27 (aft T0 (EndQ true [.tmp 6] h.length (.sl true 1 (List.map e8 p)) (h)) []) .mk .mk [(0, .sl false 1 (List.map e8 b_)), (1, .int .u64 v_), (2, .int .i64 n_)] h := by
  intro b_ v_ n_ p hF
  unfold F_octet_Put_27 at hF
  intro h
  unfold C140_27
  simp only [go_sem, reduceIte, Nat.reduceEqDiff, Nat.reduceAdd, Nat.reduceLeDiff, Nat.reduceLT, Nat.reduceSub, Nat.reduceBEq, ne_eq, not_false_eq_true]
  obtain ⟨m2, hm2, hF⟩ := bindE hF
  refine DoesR_m (mkslice_of (enc := e8) (z := 0) rfl hm2) ?_
  simp only [go_sem, reduceIte, Nat.reduceEqDiff, Nat.reduceAdd, Nat.reduceLeDiff, Nat.reduceLT, Nat.reduceSub, Nat.reduceBEq, ne_eq, not_false_eq_true]
  obtain ⟨x3, hx3, hF⟩ := bindE hF
  refine DoesR_m (copyA_of (enc := e8) (fun _ => rfl) (fun _ => rfl) (fun _ => rfl) (lb_get0 rfl rfl) hx3) ?_
  simp only [go_sem, reduceIte, Nat.reduceEqDiff, Nat.reduceAdd, Nat.reduceLeDiff, Nat.reduceLT, Nat.reduceSub, Nat.reduceBEq, ne_eq, not_false_eq_true]
  exact t_F_octet_Put_18 _ _ hF _
def F_octet_Put (b_ : List UInt8) (v_ : Int) (n_ : Int) : Option (List UInt8) :=
  if (decide (n_ < (0 : Int))) = true then (
    F_octet_Put_27 b_ v_ 0
  ) else
  if (decide (n_ > (8 : Int))) = true then (
    F_octet_Put_27 b_ v_ 0
  ) else
  F_octet_Put_27 b_ v_ n_
set_option maxHeartbeats 4000000 in
theorem t_F_octet_Put : ∀ (b_ : List UInt8) (v_ : Int) (n_ : Int) (p : List UInt8), F_octet_Put b_ v_ n_ = some p → ∀ (h : Heap), Run T0 N_octet_Put [.sl false 1 (List.map e8 b_), .int .u64 v_, .int .i64 n_] h = some ((.sl true 1 (List.map e8 p)), h) := by
  intro b_ v_ n_ p hF
  unfold F_octet_Put at hF
  intro h
  refine run_ofK at_octet_Put (n := h.length) rfl ?_
  simp only [go_sem, reduceIte, Nat.reduceEqDiff, Nat.reduceAdd, Nat.reduceLeDiff, Nat.reduceLT, Nat.reduceSub, Nat.reduceBEq, ne_eq, not_false_eq_true]
  rcases iteE hF with ⟨hc1, hF⟩ | ⟨hc1, hF⟩
  · simp only [go_sem, reduceIte, Nat.reduceEqDiff, Nat.reduceAdd, Nat.reduceLeDiff, Nat.reduceLT, Nat.reduceSub, Nat.reduceBEq, ne_eq, not_false_eq_true, hc1]
    exact t_F_octet_Put_27 _ _ _ _ hF _
  · simp only [go_sem, reduceIte, Nat.reduceEqDiff, Nat.reduceAdd, Nat.reduceLeDiff, Nat.reduceLT, Nat.reduceSub, Nat.reduceBEq, ne_eq, not_false_eq_true, hc1]
    rcases iteE hF with ⟨hc9, hF⟩ | ⟨hc9, hF⟩
    · simp only [go_sem, reduceIte, Nat.reduceEqDiff, Nat.reduceAdd, Nat.reduceLeDiff, Nat.reduceLT, Nat.reduceSub, Nat.reduceBEq, ne_eq, not_false_eq_true, hc1, hc9]
      exact t_F_octet_Put_27 _ _ _ _ hF _
    · simp only [go_sem, reduceIte, Nat.reduceEqDiff, Nat.reduceAdd, Nat.reduceLeDiff, Nat.reduceLT, Nat.reduceSub, Nat.reduceBEq, ne_eq, not_false_eq_true, hc1, hc9]
      exact t_F_octet_Put_27 _ _ _ _ hF _
theorem call_F_octet_Put {b_ : List UInt8} {v_ : Int} {n_ : Int} {p : List UInt8} (hx : F_octet_Put b_ v_ n_ = some p) {h : Heap} : callA (Run T0 N_octet_Put) [.sl false 1 (List.map e8 b_), .int .u64 v_, .int .i64 n_] h = some ((.sl true 1 (List.map e8 p)), h) :=
  callA_pure (by simp only [go_sem]) (fun H => t_F_octet_Put _ _ _ _ hx H)
def F_octet_PutText (b_ : List UInt8) (s : List UInt8) : Option (List UInt8) :=
  F_octet_Put b_ (IntKind.u64.wrap (s.length : Int)) 4 >>= fun r1 =>
  appl 1 r1 s >>= fun x2 =>
  some x2
set_option maxHeartbeats 4000000 in
theorem t_F_octet_PutText : ∀ (b_ : List UInt8) (s : List UInt8) (p : List UInt8), F_octet_PutText b_ s = some p → ∀ (h : Heap), Run T0 N_octet_PutText [.sl false 1 (List.map e8 b_), .str s] h = some ((.sl true 1 (List.map e8 p)), h) := by
  intro b_ s p hF
  unfold F_octet_PutText at hF
  intro h
  refine run_ofK at_octet_PutText (n := h.length) rfl ?_
  simp only [go_sem, reduceIte, Nat.reduceEqDiff, Nat.reduceAdd, Nat.reduceLeDiff, Nat.reduceLT, Nat.reduceSub, Nat.reduceBEq, ne_eq, not_false_eq_true]
  obtain ⟨r1, hr1, hF⟩ := bindE hF
  refine DoesR_m (call_F_octet_Put hr1) ?_
  simp only [go_sem, reduceIte, Nat.reduceEqDiff, Nat.reduceAdd, Nat.reduceLeDiff, Nat.reduceLT, Nat.reduceSub, Nat.reduceBEq, ne_eq, not_false_eq_true]
  obtain ⟨x2, hx2, hF⟩ := bindE hF
  refine DoesO_m (appl_map e8 hx2) ?_
  simp only [go_sem, reduceIte, Nat.reduceEqDiff, Nat.reduceAdd, Nat.reduceLeDiff, Nat.reduceLT, Nat.reduceSub, Nat.reduceBEq, ne_eq, not_false_eq_true]
  all_goals (cases hF; rfl)
theorem call_F_octet_PutText {b_ : List UInt8} {s : List UInt8} {p : List UInt8} (hx : F_octet_PutText b_ s = some p) {h : Heap} : callA (Run T0 N_octet_PutText) [.sl false 1 (List.map e8 b_), .str s] h = some ((.sl true 1 (List.map e8 p)), h) :=
  callA_pure (by simp only [go_sem]) (fun H => t_F_octet_PutText _ _ _ hx H)
def F_tbin_width_27 (t3 : Int) (t4 : Bool) : Option (Int) :=
  if t4 = true then (
    some 1
  ) else
  if (t3 == (6 : Int)) = true then (
    some 2
  ) else
  if (t3 == (8 : Int)) = true then (
    some 4
  ) else
  if (t3 == (10 : Int)) = true then (
    some 8
  ) else
  if (t3 == (4 : Int)) = true then (
    some 8
  ) else
  some 0
set_option maxHeartbeats 4000000 in
theorem t_F_tbin_width_27 : ∀ (t3 : Int) (t4 : Bool) (p : Int), F_tbin_width_27 t3 t4 = some p → ∀ (h : Heap), Does T0 C84_27 (aft T0 (EndQ false [.tmp 2] h.length (.int .i64 p) (h)) [.blk 0, .seq C84_33]) .mk .mk [(3, .int .i64 t3), (4, .bool t4)] h := by
  intro t3 t4 p hF
  unfold F_tbin_width_27 at hF
  intro h
  unfold C84_27
  simp only [go_sem, reduceIte, Nat.reduceEqDiff, Nat.reduceAdd, Nat.reduceLeDiff, Nat.reduceLT, Nat.reduceSub, Nat.reduceBEq, ne_eq, not_false_eq_true]
  rcases iteE hF with ⟨hc2, hF⟩ | ⟨hc2, hF⟩
  · simp only [go_sem, reduceIte, Nat.reduceEqDiff, Nat.reduceAdd, Nat.reduceLeDiff, Nat.reduceLT, Nat.reduceSub, Nat.reduceBEq, ne_eq, not_false_eq_true, hc2]
    all_goals (cases hF; rfl)
  · simp only [go_sem, reduceIte, Nat.reduceEqDiff, Nat.reduceAdd, Nat.reduceLeDiff, Nat.reduceLT, Nat.reduceSub, Nat.reduceBEq, ne_eq, not_false_eq_true, hc2]
    rcases iteE hF with ⟨hc3, hF⟩ | ⟨hc3, hF⟩
    · simp only [go_sem, reduceIte, Nat.reduceEqDiff, Nat.reduceAdd, Nat.reduceLeDiff, Nat.reduceLT, Nat.reduceSub, Nat.reduceBEq, ne_eq, not_false_eq_true, hc2, hc3]
      all_goals (cases hF; rfl)
    · simp only [go_sem, reduceIte, Nat.reduceEqDiff, Nat.reduceAdd, Nat.reduceLeDiff, Nat.reduceLT, Nat.reduceSub, Nat.reduceBEq, ne_eq, not_false_eq_true, hc2, hc3]
      rcases iteE hF with ⟨hc4, hF⟩ | ⟨hc4, hF⟩
      · simp only [go_sem, reduceIte, Nat.reduceEqDiff, Nat.reduceAdd, Nat.reduceLeDiff, Nat.reduceLT, Nat.reduceSub, Nat.reduceBEq, ne_eq, not_false_eq_true, hc2, hc3, hc4]
        all_goals (cases hF; rfl)
      · simp only [go_sem, reduceIte, Nat.reduceEqDiff, Nat.reduceAdd, Nat.reduceLeDiff, Nat.reduceLT, Nat.reduceSub, Nat.reduceBEq, ne_eq, not_false_eq_true, hc2, hc3, hc4]
        rcases iteE hF with ⟨hc5, hF⟩ | ⟨hc5, hF⟩
        · simp only [go_sem, reduceIte, Nat.reduceEqDiff, Nat.reduceAdd, Nat.reduceLeDiff, Nat.reduceLT, Nat.reduceSub, Nat.reduceBEq, ne_eq, not_false_eq_true, hc2, hc3, hc4, hc5]
          all_goals (cases hF; rfl)
        · simp only [go_sem, reduceIte, Nat.reduceEqDiff, Nat.reduceAdd, Nat.reduceLeDiff, Nat.reduceLT, Nat.reduceSub, Nat.reduceBEq, ne_eq, not_false_eq_true, hc2, hc3, hc4, hc5]
          rcases iteE hF with ⟨hc6, hF⟩ | ⟨hc6, hF⟩
          · simp only [go_sem, reduceIte, Nat.reduceEqDiff, Nat.reduceAdd, Nat.reduceLeDiff, Nat.reduceLT, Nat.reduceSub, Nat.reduceBEq, ne_eq, not_false_eq_true, hc2, hc3, hc4, hc5, hc6]
            all_goals (cases hF; rfl)
          · simp only [go_sem, reduceIte, Nat.reduceEqDiff, Nat.reduceAdd, Nat.reduceLeDiff, Nat.reduceLT, Nat.reduceSub, Nat.reduceBEq, ne_eq, not_false_eq_true, hc2, hc3, hc4, hc5, hc6]
            all_goals (cases hF; rfl)
def F_tbin_width (wire : Int) : Option (Int) :=
  if (wire == (2 : Int)) = true then (
    F_tbin_width_27 wire true
  ) else
  F_tbin_width_27 wire (wire == (3 : Int))
set_option maxHeartbeats 4000000 in
theorem t_F_tbin_width : ∀ (wire : Int) (p : Int), F_tbin_width wire = some p → ∀ (h : Heap), Run T0 N_tbin_width [.int .i64 wire] h = some ((.int .i64 p), h) := by
  intro wire p hF
  unfold F_tbin_width at hF
  intro h
  refine run_ofK at_tbin_width (n := h.length) rfl ?_
  simp only [go_sem, reduceIte, Nat.reduceEqDiff, Nat.reduceAdd, Nat.reduceLeDiff, Nat.reduceLT, Nat.reduceSub, Nat.reduceBEq, ne_eq, not_false_eq_true]
  rcases iteE hF with ⟨hc1, hF⟩ | ⟨hc1, hF⟩
  · simp only [go_sem, reduceIte, Nat.reduceEqDiff, Nat.reduceAdd, Nat.reduceLeDiff, Nat.reduceLT, Nat.reduceSub, Nat.reduceBEq, ne_eq, not_false_eq_true, hc1]
    exact t_F_tbin_width_27 _ _ _ hF _
  · simp only [go_sem, reduceIte, Nat.reduceEqDiff, Nat.reduceAdd, Nat.reduceLeDiff, Nat.reduceLT, Nat.reduceSub, Nat.reduceBEq, ne_eq, not_false_eq_true, hc1]
    exact t_F_tbin_width_27 _ _ _ hF _
theorem call_F_tbin_width {wire : Int} {p : Int} (hx : F_tbin_width wire = some p) {h : Heap} : callA (Run T0 N_tbin_width) [.int .i64 wire] h = some ((.int .i64 p), h) :=
  callA_pure (by simp only [go_sem]) (fun H => t_F_tbin_width _ _ hx H)
def F_tbin_writer_num (w : Ytbin_writer) (v_ : Int) (n_ : Int) : Option (Ytbin_writer) :=
  F_octet_Put w.b_ v_ n_ >>= fun r1 =>
  some (⟨w.s, r1⟩ : Ytbin_writer)
set_option maxHeartbeats 4000000 in
theorem t_F_tbin_writer_num : ∀ (w : Ytbin_writer) (v_ : Int) (n_ : Int) (p : Ytbin_writer), F_tbin_writer_num w v_ n_ = some p → ∀ (h : Heap) (b : Nat) (rest : List AV) (o0 : Bool) (o1 : Bool) (o2 : Bool) (o3 : Bool) (hlt : b < h.length), Run T0 N_tbin_writer_num [.ptr b 0, .int .u64 v_, .int .i64 n_] (h.set b (.row ((.sl o0 3 (List.map YSStruct.av w.s.structs)) :: (.sl o1 2 (List.map YSEnum.av w.s.enums)) :: (.sl o2 2 (List.map YSService.av w.s.services)) :: (.sl o3 1 (List.map e8 w.b_)) :: rest))) = some ((.tup []), h.set b (.row ((.sl o0 3 (List.map YSStruct.av p.s.structs)) :: (.sl o1 2 (List.map YSEnum.av p.s.enums)) :: (.sl o2 2 (List.map YSService.av p.s.services)) :: (.sl true 1 (List.map e8 p.b_)) :: rest))) := by
  intro w v_ n_ p hF
  unfold F_tbin_writer_num at hF
  intro h b rest o0 o1 o2 o3 hlt
  refine run_ofK at_tbin_writer_num (n := h.length) (by simp only [List.length_set]) ?_
  simp only [go_sem, reduceIte, Nat.reduceEqDiff, Nat.reduceAdd, Nat.reduceLeDiff, Nat.reduceLT, Nat.reduceSub, Nat.reduceBEq, ne_eq, not_false_eq_true, hs_all hlt]
  obtain ⟨r1, hr1, hF⟩ := bindE hF
  refine DoesR_m (call_F_octet_Put hr1) ?_
  simp only [go_sem, reduceIte, Nat.reduceEqDiff, Nat.reduceAdd, Nat.reduceLeDiff, Nat.reduceLT, Nat.reduceSub, Nat.reduceBEq, ne_eq, not_false_eq_true, hs_all hlt]
  all_goals (cases hF; rfl)
theorem call_F_tbin_writer_num {w : Ytbin_writer} {v_ : Int} {n_ : Int} {p : Ytbin_writer} (hx : F_tbin_writer_num w v_ n_ = some p) {h : Heap} {b : Nat} {rest : List AV} {o0 : Bool} {o1 : Bool} {o2 : Bool} {o3 : Bool} (hb : h[b]? = some (.row ((.sl o0 3 (List.map YSStruct.av w.s.structs)) :: (.sl o1 2 (List.map YSEnum.av w.s.enums)) :: (.sl o2 2 (List.map YSService.av w.s.services)) :: (.sl o3 1 (List.map e8 w.b_)) :: rest))) : callA (Run T0 N_tbin_writer_num) [.ptr b 0, .int .u64 v_, .int .i64 n_] h = some ((.tup []), h.set b (.row ((.sl o0 3 (List.map YSStruct.av p.s.structs)) :: (.sl o1 2 (List.map YSEnum.av p.s.enums)) :: (.sl o2 2 (List.map YSService.av p.s.services)) :: (.sl true 1 (List.map e8 p.b_)) :: rest))) :=
  callA_ptr (by simp only [go_sem]) hb (fun H hH => t_F_tbin_writer_num _ _ _ _ hx H b rest o0 o1 o2 o3 hH)
def F_slices_IndexFunc_api_SEnum_api_SEnum_16 (v : List YSEnum × (YSEnum → Option Bool) × Int × Int) : Option (Int) :=
  if (decide (v.2.2.2 < v.2.2.1)) = true then (
    lidx v.1 v.2.2.2 >>= fun x2 =>
    v.2.1 x2 >>= fun r3 =>
    if r3 = true then (
      some v.2.2.2
    ) else
    F_slices_IndexFunc_api_SEnum_api_SEnum_16 (v.1, v.2.1, v.2.2.1, (iadd .i64 v.2.2.2 1))
  ) else
  some (-1)
  partial_fixpoint
theorem F_slices_IndexFunc_api_SEnum_api_SEnum_16_eq (s : List YSEnum) (f : (YSEnum → Option Bool)) (t7 : Int) (t8 : Int) : F_slices_IndexFunc_api_SEnum_api_SEnum_16 (s, f, t7, t8) =
  if (decide (t8 < t7)) = true then (
    lidx s t8 >>= fun x2 =>
    f x2 >>= fun r3 =>
    if r3 = true then (
      some t8
    ) else
    F_slices_IndexFunc_api_SEnum_api_SEnum_16 (s, f, t7, (iadd .i64 t8 1))
  ) else
  some (-1) := F_slices_IndexFunc_api_SEnum_api_SEnum_16.eq_1 (s, f, t7, t8)
def M_F_slices_IndexFunc_api_SEnum_api_SEnum_16 (v : List YSEnum × (YSEnum → Option Bool) × Int × Int) (p : Int) : Prop := ∀ (h : Heap) (g_f : Nat) (caps_f : List AV) (hp_f : ∀ (l : Heap) (x0 : YSEnum) (r : Bool), v.2.1 x0 = some r → callA (Run T0 g_f) ([.agg [.str x0.name, .sl false 3 (List.map YMember.av x0.members)]] ++ AV.eraseL caps_f) (h ++ l) = some (.bool r, h ++ l)), Does T0 C124_16 (aft T0 (EndQ false [.tmp 4] h.length (.int .i64 p) (h)) [.gc h.length, .lp C124_17, .blk 0, .seq C124_22]) .mk .mk [(0, .sl false 2 (List.map YSEnum.av v.1)), (1, .fn g_f caps_f), (7, .int .i64 v.2.2.1), (8, .int .i64 v.2.2.2)] h
set_option maxHeartbeats 4000000 in
theorem st_F_slices_IndexFunc_api_SEnum_api_SEnum_16 (f_F_slices_IndexFunc_api_SEnum_api_SEnum_16 : (List YSEnum × (YSEnum → Option Bool) × Int × Int) → Option (Int)) (ih_F_slices_IndexFunc_api_SEnum_api_SEnum_16 : ∀ v p, f_F_slices_IndexFunc_api_SEnum_api_SEnum_16 v = some p → M_F_slices_IndexFunc_api_SEnum_api_SEnum_16 v p) (v : List YSEnum × (YSEnum → Option Bool) × Int × Int) (p : Int) (hF : (
  if (decide (v.2.2.2 < v.2.2.1)) = true then (
    lidx v.1 v.2.2.2 >>= fun x2 =>
    v.2.1 x2 >>= fun r3 =>
    if r3 = true then (
      some v.2.2.2
    ) else
    f_F_slices_IndexFunc_api_SEnum_api_SEnum_16 (v.1, v.2.1, v.2.2.1, (iadd .i64 v.2.2.2 1))
  ) else
  some (-1)) = some p) : M_F_slices_IndexFunc_api_SEnum_api_SEnum_16 v p := by
  intro h g_f caps_f hp_f
  unfold C124_16
  simp only [go_sem, reduceIte, Nat.reduceEqDiff, Nat.reduceAdd, Nat.reduceLeDiff, Nat.reduceLT, Nat.reduceSub, Nat.reduceBEq, ne_eq, not_false_eq_true]
  rcases iteE hF with ⟨hc1, hF⟩ | ⟨hc1, hF⟩
  · simp only [go_sem, reduceIte, Nat.reduceEqDiff, Nat.reduceAdd, Nat.reduceLeDiff, Nat.reduceLT, Nat.reduceSub, Nat.reduceBEq, ne_eq, not_false_eq_true, hc1]
    obtain ⟨x2, hx2, hF⟩ := bindE hF
    refine DoesO_m (lidx_map YSEnum.av hx2) ?_
    simp only [go_sem, reduceIte, Nat.reduceEqDiff, Nat.reduceAdd, Nat.reduceLeDiff, Nat.reduceLT, Nat.reduceSub, Nat.reduceBEq, ne_eq, not_false_eq_true, hc1]
    obtain ⟨r3, hr3, hF⟩ := bindE hF
    refine DoesR_m ((by have hq := hp_f [] _ _ hr3; simpa only [List.append_nil, List.cons_append, List.nil_append] using hq)) ?_
    simp only [go_sem, reduceIte, Nat.reduceEqDiff, Nat.reduceAdd, Nat.reduceLeDiff, Nat.reduceLT, Nat.reduceSub, Nat.reduceBEq, ne_eq, not_false_eq_true, hc1]
    rcases iteE hF with ⟨hc4, hF⟩ | ⟨hc4, hF⟩
    · simp only [go_sem, reduceIte, Nat.reduceEqDiff, Nat.reduceAdd, Nat.reduceLeDiff, Nat.reduceLT, Nat.reduceSub, Nat.reduceBEq, ne_eq, not_false_eq_true, hc1, hc4]
      all_goals (cases hF; rfl)
    · simp only [go_sem, reduceIte, Nat.reduceEqDiff, Nat.reduceAdd, Nat.reduceLeDiff, Nat.reduceLT, Nat.reduceSub, Nat.reduceBEq, ne_eq, not_false_eq_true, hc1, hc4]
      exact ih_F_slices_IndexFunc_api_SEnum_api_SEnum_16 _ _ hF _ _ _ hp_f
  · simp only [go_sem, reduceIte, Nat.reduceEqDiff, Nat.reduceAdd, Nat.reduceLeDiff, Nat.reduceLT, Nat.reduceSub, Nat.reduceBEq, ne_eq, not_false_eq_true, hc1]
    all_goals (cases hF; rfl)
theorem t_F_slices_IndexFunc_api_SEnum_api_SEnum_16 : ∀ v p, F_slices_IndexFunc_api_SEnum_api_SEnum_16 v = some p → M_F_slices_IndexFunc_api_SEnum_api_SEnum_16 v p := F_slices_IndexFunc_api_SEnum_api_SEnum_16.partial_correctness M_F_slices_IndexFunc_api_SEnum_api_SEnum_16 (fun f0 i0 v p hF => st_F_slices_IndexFunc_api_SEnum_api_SEnum_16 f0 i0 v p hF)
def F_slices_IndexFunc_api_SEnum_api_SEnum (s : List YSEnum) (f : (YSEnum → Option Bool)) : Option (Int) :=
  F_slices_IndexFunc_api_SEnum_api_SEnum_16 (s, f, (s.length : Int), 0)
set_option maxHeartbeats 4000000 in
theorem t_F_slices_IndexFunc_api_SEnum_api_SEnum : ∀ (s : List YSEnum) (f : (YSEnum → Option Bool)) (p : Int), F_slices_IndexFunc_api_SEnum_api_SEnum s f = some p → ∀ (h : Heap) (g_f : Nat) (caps_f : List AV) (hp_f : ∀ (l : Heap) (x0 : YSEnum) (r : Bool), f x0 = some r → callA (Run T0 g_f) ([.agg [.str x0.name, .sl false 3 (List.map YMember.av x0.members)]] ++ AV.eraseL caps_f) (h ++ l) = some (.bool r, h ++ l)), Run T0 N_slices_IndexFunc_api_SEnum_api_SEnum [.sl false 2 (List.map YSEnum.av s), .fn g_f caps_f] h = some ((.int .i64 p), h) := by
  intro s f p hF
  unfold F_slices_IndexFunc_api_SEnum_api_SEnum at hF
  intro h g_f caps_f hp_f
  refine run_ofK at_slices_IndexFunc_api_SEnum_api_SEnum (n := h.length) rfl ?_
  simp only [go_sem, reduceIte, Nat.reduceEqDiff, Nat.reduceAdd, Nat.reduceLeDiff, Nat.reduceLT, Nat.reduceSub, Nat.reduceBEq, ne_eq, not_false_eq_true]
  exact t_F_slices_IndexFunc_api_SEnum_api_SEnum_16 _ _ hF _ _ _ hp_f
theorem call_F_slices_IndexFunc_api_SEnum_api_SEnum {s : List YSEnum} {f : (YSEnum → Option Bool)} {p : Int} (hx : F_slices_IndexFunc_api_SEnum_api_SEnum s f = some p) {h : Heap} {g_f : Nat} {caps_f : List AV} (hp_f : ∀ (l : Heap) (x0 : YSEnum) (r : Bool), f x0 = some r → callA (Run T0 g_f) ([.agg [.str x0.name, .sl false 3 (List.map YMember.av x0.members)]] ++ AV.eraseL caps_f) (h ++ l) = some (.bool r, h ++ l)) : callA (Run T0 N_slices_IndexFunc_api_SEnum_api_SEnum) [.sl false 2 (List.map YSEnum.av s), .fn g_f caps_f] h = some ((.int .i64 p), h) :=
  callA_hof (n := AV.bndL caps_f) (by simp only [go_sem]) (t_F_slices_IndexFunc_api_SEnum_api_SEnum _ _ _ hx _ _ _ (fun l y0 r hr => hp_hid (by simp only [go_sem]) (fun l => hp_f l y0 r hr) l))
def F_value_Enum_1 (x : YSEnum) (cap0 : List UInt8) : Option (Bool) :=
  some (x.name == cap0)
set_option maxHeartbeats 4000000 in
theorem t_F_value_Enum_1 : ∀ (x : YSEnum) (cap0 : List UInt8) (p : Bool), F_value_Enum_1 x cap0 = some p → ∀ (h : Heap) (b : Nat) (rest : List AV) (hlt : b < h.length), Run T0 N_value_Enum_1 [.agg [.str x.name, .sl false 3 (List.map YMember.av x.members)], .ptr b 0] (h.set b (.row ((.str cap0) :: rest))) = some ((.bool p), h.set b (.row ((.str cap0) :: rest))) := by
  intro x cap0 p hF
  unfold F_value_Enum_1 at hF
  intro h b rest hlt
  refine run_ofK at_value_Enum_1 (n := h.length) (by simp only [List.length_set]) ?_
  simp only [go_sem, reduceIte, Nat.reduceEqDiff, Nat.reduceAdd, Nat.reduceLeDiff, Nat.reduceLT, Nat.reduceSub, Nat.reduceBEq, ne_eq, not_false_eq_true, hs_all hlt]
  all_goals (cases hF; rfl)
theorem call_F_value_Enum_1 {x : YSEnum} {cap0 : List UInt8} {p : Bool} (hx : F_value_Enum_1 x cap0 = some p) {h : Heap} {b : Nat} {rest : List AV}  (hb : h[b]? = some (.row ((.str cap0) :: rest))) : callA (Run T0 N_value_Enum_1) [.agg [.str x.name, .sl false 3 (List.map YMember.av x.members)], .ptr b 0] h = some ((.bool p), h) :=
  callA_ptr0 (by simp only [go_sem]) hb (fun H hH => t_F_value_Enum_1 _ _ _ hx H b rest  hH)
def F_value_Enum (s : YSchema) (name : List UInt8) : Option (YSEnum × Bool) :=
  F_slices_IndexFunc_api_SEnum_api_SEnum s.enums (fun y0 => F_value_Enum_1 y0 name) >>= fun r1 =>
  if (decide (r1 < (0 : Int))) = true then (
    some ((⟨[], []⟩ : YSEnum), false)
  ) else
  lidx s.enums r1 >>= fun x3 =>
  some (x3, true)
set_option maxHeartbeats 4000000 in
theorem t_F_value_Enum : ∀ (s : YSchema) (name : List UInt8) (p : YSEnum × Bool), F_value_Enum s name = some p → ∀ (h : Heap), Run T0 N_value_Enum [.agg [.sl false 3 (List.map YSStruct.av s.structs), .sl false 2 (List.map YSEnum.av s.enums), .sl false 2 (List.map YSService.av s.services)], .str name] h = some ((.tup [.agg [.str p.1.name, .sl false 3 (List.map YMember.av p.1.members)], .bool p.2]), h) := by
  intro s name p hF
  unfold F_value_Enum at hF
  intro h
  refine run_ofK at_value_Enum (n := h.length) rfl ?_
  simp only [go_sem, reduceIte, Nat.reduceEqDiff, Nat.reduceAdd, Nat.reduceLeDiff, Nat.reduceLT, Nat.reduceSub, Nat.reduceBEq, ne_eq, not_false_eq_true]
  obtain ⟨r1, hr1, hF⟩ := bindE hF
  refine DoesR_m (call_F_slices_IndexFunc_api_SEnum_api_SEnum hr1 (fun l _ r hy => call_F_value_Enum_1 hy (app_get (lb_get rfl rfl)))) ?_
  simp only [go_sem, reduceIte, Nat.reduceEqDiff, Nat.reduceAdd, Nat.reduceLeDiff, Nat.reduceLT, Nat.reduceSub, Nat.reduceBEq, ne_eq, not_false_eq_true]
  rcases iteE hF with ⟨hc2, hF⟩ | ⟨hc2, hF⟩
  · simp only [go_sem, reduceIte, Nat.reduceEqDiff, Nat.reduceAdd, Nat.reduceLeDiff, Nat.reduceLT, Nat.reduceSub, Nat.reduceBEq, ne_eq, not_false_eq_true, hc2]
    all_goals (cases hF; rfl)
  · simp only [go_sem, reduceIte, Nat.reduceEqDiff, Nat.reduceAdd, Nat.reduceLeDiff, Nat.reduceLT, Nat.reduceSub, Nat.reduceBEq, ne_eq, not_false_eq_true, hc2]
    obtain ⟨x3, hx3, hF⟩ := bindE hF
    refine DoesO_m (lidx_map YSEnum.av hx3) ?_
    simp only [go_sem, reduceIte, Nat.reduceEqDiff, Nat.reduceAdd, Nat.reduceLeDiff, Nat.reduceLT, Nat.reduceSub, Nat.reduceBEq, ne_eq, not_false_eq_true, hc2]
    all_goals (cases hF; rfl)
theorem call_F_value_Enum {s : YSchema} {name : List UInt8} {p : YSEnum × Bool} (hx : F_value_Enum s name = some p) {h : Heap} : callA (Run T0 N_value_Enum) [.agg [.sl false 3 (List.map YSStruct.av s.structs), .sl false 2 (List.map YSEnum.av s.enums), .sl false 2 (List.map YSService.av s.services)], .str name] h = some ((.tup [.agg [.str p.1.name, .sl false 3 (List.map YMember.av p.1.members)], .bool p.2]), h) :=
  callA_pure (by simp only [go_sem]) (fun H => t_F_value_Enum _ _ _ hx H)
end Go.Proofs.YtfihinodhhhllaaGreat
