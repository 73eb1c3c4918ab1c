/- The functions as plain functions, and that the runs come to their answers; printed by lift.py. -/
import Derived.Test.YtfihinodhhhllaaGreatIbH
import Derived.Test.YtfihinodhhhllaaGreatIbF6
set_option linter.unusedVariables false
set_option linter.unusedSimpArgs false
namespace Go.Proofs.YtfihinodhhhllaaGreat
open Go
def F_cmp_Compare_uint64 (x : Int) (y : Int) : Option (Int) :=
  F_cmp_isNaN_uint64 x >>= fun r1 =>
  F_cmp_isNaN_uint64 y >>= fun r2 =>
  if r1 = true then (
    if r2 = true then (
      some 0
    ) else
    some (-1)
  ) else
  if r2 = true then (
    some 1
  ) else
  if (decide (x < y)) = true then (
    some (-1)
  ) else
  if (decide (x > y)) = true then (
    some 1
  ) else
  some 0
set_option maxHeartbeats 4000000 in
theorem t_F_cmp_Compare_uint64 : ∀ (x : Int) (y : Int) (p : Int), F_cmp_Compare_uint64 x y = some p → ∀ (h : Heap), Run T0 N_cmp_Compare_uint64 [.int .u64 x, .int .u64 y] h = some ((.int .i64 p), h) := by
  intro x y p hF
  unfold F_cmp_Compare_uint64 at hF
  intro h
  refine run_ofK at_cmp_Compare_uint64 (n := h.length) rfl ?_
  simp only [go_sem, reduceIte, Nat.reduceEqDiff, Nat.reduceAdd, Nat.reduceLeDiff, Nat.reduceLT, Nat.reduceSub, Nat.reduceBEq, ne_eq, not_false_eq_true]
  obtain ⟨r1, hr1, hF⟩ := bindE hF
  refine DoesR_m (call_F_cmp_isNaN_uint64 hr1) ?_
  simp only [go_sem, reduceIte, Nat.reduceEqDiff, Nat.reduceAdd, Nat.reduceLeDiff, Nat.reduceLT, Nat.reduceSub, Nat.reduceBEq, ne_eq, not_false_eq_true]
  obtain ⟨r2, hr2, hF⟩ := bindE hF
  refine DoesR_m (call_F_cmp_isNaN_uint64 hr2) ?_
  simp only [go_sem, reduceIte, Nat.reduceEqDiff, Nat.reduceAdd, Nat.reduceLeDiff, Nat.reduceLT, Nat.reduceSub, Nat.reduceBEq, ne_eq, not_false_eq_true]
  rcases iteE hF with ⟨hc3, hF⟩ | ⟨hc3, hF⟩
  · simp only [go_sem, reduceIte, Nat.reduceEqDiff, Nat.reduceAdd, Nat.reduceLeDiff, Nat.reduceLT, Nat.reduceSub, Nat.reduceBEq, ne_eq, not_false_eq_true, hc3]
    rcases iteE hF with ⟨hc4, hF⟩ | ⟨hc4, hF⟩
    · simp only [go_sem, reduceIte, Nat.reduceEqDiff, Nat.reduceAdd, Nat.reduceLeDiff, Nat.reduceLT, Nat.reduceSub, Nat.reduceBEq, ne_eq, not_false_eq_true, hc3, hc4]
      all_goals (cases hF; rfl)
    · simp only [go_sem, reduceIte, Nat.reduceEqDiff, Nat.reduceAdd, Nat.reduceLeDiff, Nat.reduceLT, Nat.reduceSub, Nat.reduceBEq, ne_eq, not_false_eq_true, hc3, hc4]
      all_goals (cases hF; rfl)
  · simp only [go_sem, reduceIte, Nat.reduceEqDiff, Nat.reduceAdd, Nat.reduceLeDiff, Nat.reduceLT, Nat.reduceSub, Nat.reduceBEq, ne_eq, not_false_eq_true, hc3]
    rcases iteE hF with ⟨hc5, hF⟩ | ⟨hc5, hF⟩
    · simp only [go_sem, reduceIte, Nat.reduceEqDiff, Nat.reduceAdd, Nat.reduceLeDiff, Nat.reduceLT, Nat.reduceSub, Nat.reduceBEq, ne_eq, not_false_eq_true, hc3, hc5]
      all_goals (cases hF; rfl)
    · simp only [go_sem, reduceIte, Nat.reduceEqDiff, Nat.reduceAdd, Nat.reduceLeDiff, Nat.reduceLT, Nat.reduceSub, Nat.reduceBEq, ne_eq, not_false_eq_true, hc3, hc5]
      rcases iteE hF with ⟨hc6, hF⟩ | ⟨hc6, hF⟩
      · simp only [go_sem, reduceIte, Nat.reduceEqDiff, Nat.reduceAdd, Nat.reduceLeDiff, Nat.reduceLT, Nat.reduceSub, Nat.reduceBEq, ne_eq, not_false_eq_true, hc3, hc5, hc6]
        all_goals (cases hF; rfl)
      · simp only [go_sem, reduceIte, Nat.reduceEqDiff, Nat.reduceAdd, Nat.reduceLeDiff, Nat.reduceLT, Nat.reduceSub, Nat.reduceBEq, ne_eq, not_false_eq_true, hc3, hc5, hc6]
        rcases iteE hF with ⟨hc7, hF⟩ | ⟨hc7, hF⟩
        · simp only [go_sem, reduceIte, Nat.reduceEqDiff, Nat.reduceAdd, Nat.reduceLeDiff, Nat.reduceLT, Nat.reduceSub, Nat.reduceBEq, ne_eq, not_false_eq_true, hc3, hc5, hc6, hc7]
          all_goals (cases hF; rfl)
        · simp only [go_sem, reduceIte, Nat.reduceEqDiff, Nat.reduceAdd, Nat.reduceLeDiff, Nat.reduceLT, Nat.reduceSub, Nat.reduceBEq, ne_eq, not_false_eq_true, hc3, hc5, hc6, hc7]
          all_goals (cases hF; rfl)
theorem call_F_cmp_Compare_uint64 {x : Int} {y : Int} {p : Int} (hx : F_cmp_Compare_uint64 x y = some p) {h : Heap} : callA (Run T0 N_cmp_Compare_uint64) [.int .u64 x, .int .u64 y] h = some ((.int .i64 p), h) :=
  callA_pure (by simp only [go_sem]) (fun H => t_F_cmp_Compare_uint64 _ _ _ hx H)
def F_internal_bytealg_CompareString (a : List UInt8) (b_ : List UInt8) : Option (Int) :=
  F_internal_bytealg_abigen_runtime_cmpstring a b_ >>= fun r1 =>
  some r1
set_option maxHeartbeats 4000000 in
theorem t_F_internal_bytealg_CompareString : ∀ (a : List UInt8) (b_ : List UInt8) (p : Int), F_internal_bytealg_CompareString a b_ = some p → ∀ (h : Heap), Run T0 N_internal_bytealg_CompareString [.str a, .str b_] h = some ((.int .i64 p), h) := by
  intro a b_ p hF
  unfold F_internal_bytealg_CompareString at hF
  intro h
  refine run_ofK at_internal_bytealg_CompareString (n := h.length) rfl ?_
  simp only [go_sem, reduceIte, Nat.reduceEqDiff, Nat.reduceAdd, Nat.reduceLeDiff, Nat.reduceLT, Nat.reduceSub, Nat.reduceBEq, ne_eq, not_false_eq_true]
  obtain ⟨r1, hr1, hF⟩ := bindE hF
  refine DoesR_m (call_F_internal_bytealg_abigen_runtime_cmpstring hr1) ?_
  simp only [go_sem, reduceIte, Nat.reduceEqDiff, Nat.reduceAdd, Nat.reduceLeDiff, Nat.reduceLT, Nat.reduceSub, Nat.reduceBEq, ne_eq, not_false_eq_true]
  all_goals (cases hF; rfl)
theorem call_F_internal_bytealg_CompareString {a : List UInt8} {b_ : List UInt8} {p : Int} (hx : F_internal_bytealg_CompareString a b_ = some p) {h : Heap} : callA (Run T0 N_internal_bytealg_CompareString) [.str a, .str b_] h = some ((.int .i64 p), h) :=
  callA_pure (by simp only [go_sem]) (fun H => t_F_internal_bytealg_CompareString _ _ _ hx H)
def F_strings_Compare (a : List UInt8) (b_ : List UInt8) : Option (Int) :=
  F_internal_bytealg_CompareString a b_ >>= fun r1 =>
  some r1
set_option maxHeartbeats 4000000 in
theorem t_F_strings_Compare : ∀ (a : List UInt8) (b_ : List UInt8) (p : Int), F_strings_Compare a b_ = some p → ∀ (h : Heap), Run T0 N_strings_Compare [.str a, .str b_] h = some ((.int .i64 p), h) := by
  intro a b_ p hF
  unfold F_strings_Compare at hF
  intro h
  refine run_ofK at_strings_Compare (n := h.length) rfl ?_
  simp only [go_sem, reduceIte, Nat.reduceEqDiff, Nat.reduceAdd, Nat.reduceLeDiff, Nat.reduceLT, Nat.reduceSub, Nat.reduceBEq, ne_eq, not_false_eq_true]
  obtain ⟨r1, hr1, hF⟩ := bindE hF
  refine DoesR_m (call_F_internal_bytealg_CompareString hr1) ?_
  simp only [go_sem, reduceIte, Nat.reduceEqDiff, Nat.reduceAdd, Nat.reduceLeDiff, Nat.reduceLT, Nat.reduceSub, Nat.reduceBEq, ne_eq, not_false_eq_true]
  all_goals (cases hF; rfl)
theorem call_F_strings_Compare {a : List UInt8} {b_ : List UInt8} {p : Int} (hx : F_strings_Compare a b_ = some p) {h : Heap} : callA (Run T0 N_strings_Compare) [.str a, .str b_] h = some ((.int .i64 p), h) :=
  callA_pure (by simp only [go_sem]) (fun H => t_F_strings_Compare _ _ _ hx H)
end Go.Proofs.YtfihinodhhhllaaGreat
