/- The functions as plain functions, and that the runs come to their answers; printed by lift.py. -/
import Derived.Test.YtfihinodhhhllaaGreatIbH
import Derived.Test.YtfihinodhhhllaaGreatIbF8
set_option linter.unusedVariables false
set_option linter.unusedSimpArgs false
namespace Go.Proofs.YtfihinodhhhllaaGreat
open Go
def F_value_rise_14 (v : List YValue × Int × Int) : Option (Bool) :=
  if (decide (v.2.2 < (v.1.length : Int))) = true then (
    lidx v.1 (isub .i64 v.2.2 v.2.1) >>= fun x2 =>
    lidx v.1 v.2.2 >>= fun x3 =>
    F_order_Cmp (x2, x3) >>= fun r4 =>
    if (decide (r4 ≥ (0 : Int))) = true then (
      some false
    ) else
    F_value_rise_14 (v.1, v.2.1, (iadd .i64 v.2.2 v.2.1))
  ) else
  some true
  partial_fixpoint
theorem F_value_rise_14_eq (l : List YValue) (step : Int) (i : Int) : F_value_rise_14 (l, step, i) =
  if (decide (i < (l.length : Int))) = true then (
    lidx l (isub .i64 i step) >>= fun x2 =>
    lidx l i >>= fun x3 =>
    F_order_Cmp (x2, x3) >>= fun r4 =>
    if (decide (r4 ≥ (0 : Int))) = true then (
      some false
    ) else
    F_value_rise_14 (l, step, (iadd .i64 i step))
  ) else
  some true := F_value_rise_14.eq_1 (l, step, i)
def M_F_value_rise_14 (v : List YValue × Int × Int) (p : Bool) : Prop := ∀ (h : Heap), Does T0 C80_14 (aft T0 (EndQ false [.tmp 4] h.length (.bool p) (h)) [.gc h.length, .lp C80_15, .blk 0, .seq C80_20]) .mk .mk [(0, .sl false 5 (List.map YValue.av v.1)), (1, .int .i64 v.2.1), (5, .int .i64 v.2.2)] h
set_option maxHeartbeats 4000000 in
theorem st_F_value_rise_14 (f_F_value_rise_14 : (List YValue × Int × Int) → Option (Bool)) (ih_F_value_rise_14 : ∀ v p, f_F_value_rise_14 v = some p → M_F_value_rise_14 v p) (v : List YValue × Int × Int) (p : Bool) (hF : (
  if (decide (v.2.2 < (v.1.length : Int))) = true then (
    lidx v.1 (isub .i64 v.2.2 v.2.1) >>= fun x2 =>
    lidx v.1 v.2.2 >>= fun x3 =>
    F_order_Cmp (x2, x3) >>= fun r4 =>
    if (decide (r4 ≥ (0 : Int))) = true then (
      some false
    ) else
    f_F_value_rise_14 (v.1, v.2.1, (iadd .i64 v.2.2 v.2.1))
  ) else
  some true) = some p) : M_F_value_rise_14 v p := by
  intro h
  unfold C80_14
  simp only [go_sem, reduceIte, Nat.reduceEqDiff, Nat.reduceAdd, Nat.reduceLeDiff, Nat.reduceLT, Nat.reduceSub, Nat.reduceBEq, ne_eq, not_false_eq_true]
  rcases iteE hF with ⟨hc1, hF⟩ | ⟨hc1, hF⟩
  · simp only [go_sem, reduceIte, Nat.reduceEqDiff, Nat.reduceAdd, Nat.reduceLeDiff, Nat.reduceLT, Nat.reduceSub, Nat.reduceBEq, ne_eq, not_false_eq_true, hc1]
    obtain ⟨x2, hx2, hF⟩ := bindE hF
    refine DoesO_m (lidx_map YValue.av hx2) ?_
    simp only [go_sem, reduceIte, Nat.reduceEqDiff, Nat.reduceAdd, Nat.reduceLeDiff, Nat.reduceLT, Nat.reduceSub, Nat.reduceBEq, ne_eq, not_false_eq_true, hc1]
    obtain ⟨x3, hx3, hF⟩ := bindE hF
    refine DoesO_m (lidx_map YValue.av hx3) ?_
    simp only [go_sem, reduceIte, Nat.reduceEqDiff, Nat.reduceAdd, Nat.reduceLeDiff, Nat.reduceLT, Nat.reduceSub, Nat.reduceBEq, ne_eq, not_false_eq_true, hc1]
    obtain ⟨r4, hr4, hF⟩ := bindE hF
    refine DoesR_m (call_F_order_Cmp hr4) ?_
    simp only [go_sem, reduceIte, Nat.reduceEqDiff, Nat.reduceAdd, Nat.reduceLeDiff, Nat.reduceLT, Nat.reduceSub, Nat.reduceBEq, ne_eq, not_false_eq_true, hc1]
    rcases iteE hF with ⟨hc5, hF⟩ | ⟨hc5, hF⟩
    · simp only [go_sem, reduceIte, Nat.reduceEqDiff, Nat.reduceAdd, Nat.reduceLeDiff, Nat.reduceLT, Nat.reduceSub, Nat.reduceBEq, ne_eq, not_false_eq_true, hc1, hc5]
      all_goals (cases hF; rfl)
    · simp only [go_sem, reduceIte, Nat.reduceEqDiff, Nat.reduceAdd, Nat.reduceLeDiff, Nat.reduceLT, Nat.reduceSub, Nat.reduceBEq, ne_eq, not_false_eq_true, hc1, hc5]
      exact ih_F_value_rise_14 _ _ hF _
  · simp only [go_sem, reduceIte, Nat.reduceEqDiff, Nat.reduceAdd, Nat.reduceLeDiff, Nat.reduceLT, Nat.reduceSub, Nat.reduceBEq, ne_eq, not_false_eq_true, hc1]
    all_goals (cases hF; rfl)
theorem t_F_value_rise_14 : ∀ v p, F_value_rise_14 v = some p → M_F_value_rise_14 v p := F_value_rise_14.partial_correctness M_F_value_rise_14 (fun f0 i0 v p hF => st_F_value_rise_14 f0 i0 v p hF)
def F_value_rise (l : List YValue) (step : Int) : Option (Bool) :=
  F_value_rise_14 (l, step, step)
set_option maxHeartbeats 4000000 in
theorem t_F_value_rise : ∀ (l : List YValue) (step : Int) (p : Bool), F_value_rise l step = some p → ∀ (h : Heap), Run T0 N_value_rise [.sl false 5 (List.map YValue.av l), .int .i64 step] h = some ((.bool p), h) := by
  intro l step p hF
  unfold F_value_rise at hF
  intro h
  refine run_ofK at_value_rise (n := h.length) rfl ?_
  simp only [go_sem, reduceIte, Nat.reduceEqDiff, Nat.reduceAdd, Nat.reduceLeDiff, Nat.reduceLT, Nat.reduceSub, Nat.reduceBEq, ne_eq, not_false_eq_true]
  exact t_F_value_rise_14 _ _ hF _
theorem call_F_value_rise {l : List YValue} {step : Int} {p : Bool} (hx : F_value_rise l step = some p) {h : Heap} : callA (Run T0 N_value_rise) [.sl false 5 (List.map YValue.av l), .int .i64 step] h = some ((.bool p), h) :=
  callA_pure (by simp only [go_sem]) (fun H => t_F_value_rise _ _ _ hx H)
end Go.Proofs.YtfihinodhhhllaaGreat
