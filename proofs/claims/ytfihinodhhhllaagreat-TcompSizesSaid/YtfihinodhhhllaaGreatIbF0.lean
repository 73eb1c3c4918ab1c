/- The functions as plain functions, and that the runs come to their answers; printed by lift.py. -/
import Derived.Test.YtfihinodhhhllaaGreatIbH
set_option linter.unusedVariables false
set_option linter.unusedSimpArgs false
namespace Go.Proofs.YtfihinodhhhllaaGreat
open Go
def F_measure_holds (v_ : YValue) : Option (Bool) :=
  if (v_.kind == (15 : Int)) = true then (
    some true
  ) else
  if (v_.kind == (14 : Int)) = true then (
    some true
  ) else
  if (v_.kind == (13 : Int)) = true then (
    some true
  ) else
  if (v_.kind == (12 : Int)) = true then (
    some true
  ) else
  some false
set_option maxHeartbeats 4000000 in
theorem t_F_measure_holds : ∀ (v_ : YValue) (p : Bool), F_measure_holds v_ = some p → ∀ (h : Heap), Run T0 N_measure_holds [.agg [.int .i64 v_.kind, .int .i64 v_.n_, .str v_.s, .sl false 5 (List.map YValue.av v_.l), .sl false 1 (List.map (AV.int .i64) v_.iDs)]] h = some ((.bool p), h) := by
  intro v_ p hF
  unfold F_measure_holds at hF
  intro h
  refine run_ofK at_measure_holds (n := h.length) rfl ?_
  simp only [go_sem, reduceIte, Nat.reduceEqDiff, Nat.reduceAdd, Nat.reduceLeDiff, Nat.reduceLT, Nat.reduceSub, Nat.reduceBEq, ne_eq, not_false_eq_true]
  rcases iteE hF with ⟨hc1, hF⟩ | ⟨hc1, hF⟩
  · simp only [go_sem, reduceIte, Nat.reduceEqDiff, Nat.reduceAdd, Nat.reduceLeDiff, Nat.reduceLT, Nat.reduceSub, Nat.reduceBEq, ne_eq, not_false_eq_true, hc1]
    all_goals (cases hF; rfl)
  · simp only [go_sem, reduceIte, Nat.reduceEqDiff, Nat.reduceAdd, Nat.reduceLeDiff, Nat.reduceLT, Nat.reduceSub, Nat.reduceBEq, ne_eq, not_false_eq_true, hc1]
    rcases iteE hF with ⟨hc2, hF⟩ | ⟨hc2, hF⟩
    · simp only [go_sem, reduceIte, Nat.reduceEqDiff, Nat.reduceAdd, Nat.reduceLeDiff, Nat.reduceLT, Nat.reduceSub, Nat.reduceBEq, ne_eq, not_false_eq_true, hc1, hc2]
      all_goals (cases hF; rfl)
    · simp only [go_sem, reduceIte, Nat.reduceEqDiff, Nat.reduceAdd, Nat.reduceLeDiff, Nat.reduceLT, Nat.reduceSub, Nat.reduceBEq, ne_eq, not_false_eq_true, hc1, hc2]
      rcases iteE hF with ⟨hc3, hF⟩ | ⟨hc3, hF⟩
      · simp only [go_sem, reduceIte, Nat.reduceEqDiff, Nat.reduceAdd, Nat.reduceLeDiff, Nat.reduceLT, Nat.reduceSub, Nat.reduceBEq, ne_eq, not_false_eq_true, hc1, hc2, hc3]
        all_goals (cases hF; rfl)
      · simp only [go_sem, reduceIte, Nat.reduceEqDiff, Nat.reduceAdd, Nat.reduceLeDiff, Nat.reduceLT, Nat.reduceSub, Nat.reduceBEq, ne_eq, not_false_eq_true, hc1, hc2, hc3]
        rcases iteE hF with ⟨hc4, hF⟩ | ⟨hc4, hF⟩
        · simp only [go_sem, reduceIte, Nat.reduceEqDiff, Nat.reduceAdd, Nat.reduceLeDiff, Nat.reduceLT, Nat.reduceSub, Nat.reduceBEq, ne_eq, not_false_eq_true, hc1, hc2, hc3, hc4]
          all_goals (cases hF; rfl)
        · simp only [go_sem, reduceIte, Nat.reduceEqDiff, Nat.reduceAdd, Nat.reduceLeDiff, Nat.reduceLT, Nat.reduceSub, Nat.reduceBEq, ne_eq, not_false_eq_true, hc1, hc2, hc3, hc4]
          all_goals (cases hF; rfl)
theorem call_F_measure_holds {v_ : YValue} {p : Bool} (hx : F_measure_holds v_ = some p) {h : Heap} : callA (Run T0 N_measure_holds) [.agg [.int .i64 v_.kind, .int .i64 v_.n_, .str v_.s, .sl false 5 (List.map YValue.av v_.l), .sl false 1 (List.map (AV.int .i64) v_.iDs)]] h = some ((.bool p), h) :=
  callA_pure (by simp only [go_sem]) (fun H => t_F_measure_holds _ _ hx H)
mutual
def F_measure_Depth (v : YValue) : Option (Int) :=
  F_measure_holds v >>= fun r1 =>
  if (!r1) = true then (
    some 0
  ) else
  F_measure_Depth_18 (0, v.l, (v.l.length : Int), 0)
  partial_fixpoint
def F_measure_Depth_18 (v : Int × List YValue × Int × Int) : Option (Int) :=
  if (decide (v.2.2.2 < v.2.2.1)) = true then (
    lidx v.2.1 v.2.2.2 >>= fun x4 =>
    F_measure_Depth x4 >>= fun r5 =>
    F_measure_Depth_18 ((imax v.1 r5), v.2.1, v.2.2.1, (iadd .i64 v.2.2.2 1))
  ) else
  some (iadd .i64 v.1 1)
  partial_fixpoint
end
theorem F_measure_Depth_eq (v_ : YValue) : F_measure_Depth v_ =
  F_measure_holds v_ >>= fun r1 =>
  if (!r1) = true then (
    some 0
  ) else
  F_measure_Depth_18 (0, v_.l, (v_.l.length : Int), 0) := F_measure_Depth.eq_1 (v_)
theorem F_measure_Depth_18_eq (most : Int) (t10 : List YValue) (t11 : Int) (t12 : Int) : F_measure_Depth_18 (most, t10, t11, t12) =
  if (decide (t12 < t11)) = true then (
    lidx t10 t12 >>= fun x4 =>
    F_measure_Depth x4 >>= fun r5 =>
    F_measure_Depth_18 ((imax most r5), t10, t11, (iadd .i64 t12 1))
  ) else
  some (iadd .i64 most 1) := F_measure_Depth_18.eq_1 (most, t10, t11, t12)
def M_F_measure_Depth (v : YValue) (p : Int) : Prop := ∀ (h : Heap), Run T0 N_measure_Depth [.agg [.int .i64 v.kind, .int .i64 v.n_, .str v.s, .sl false 5 (List.map YValue.av v.l), .sl false 1 (List.map (AV.int .i64) v.iDs)]] h = some ((.int .i64 p), h)
def M_F_measure_Depth_18 (v : Int × List YValue × Int × Int) (p : Int) : Prop := ∀ (h : Heap) (z0 : Box), Does T0 C88_18 (aft T0 (EndQ false [.tmp 2] h.length (.int .i64 p) (h)) [.gc (h.length + 1), .lp C88_19, .blk 0, .seq C88_24]) .mk .mk [(3, .int .i64 v.1), (10, .sl false 5 (List.map YValue.av v.2.1)), (11, .int .i64 v.2.2.1), (12, .int .i64 v.2.2.2)] (h ++ [z0])
set_option maxHeartbeats 4000000 in
theorem st_F_measure_Depth (f_F_measure_Depth_18 : (Int × List YValue × Int × Int) → Option (Int)) (ih_F_measure_Depth_18 : ∀ v p, f_F_measure_Depth_18 v = some p → M_F_measure_Depth_18 v p) (v : YValue) (p : Int) (hF : (
  F_measure_holds v >>= fun r1 =>
  if (!r1) = true then (
    some 0
  ) else
  f_F_measure_Depth_18 (0, v.l, (v.l.length : Int), 0)) = some p) : M_F_measure_Depth v p := by
  intro h
  refine run_ofK at_measure_Depth (n := h.length) rfl ?_
  simp only [go_sem, reduceIte, Nat.reduceEqDiff, Nat.reduceAdd, Nat.reduceLeDiff, Nat.reduceLT, Nat.reduceSub, Nat.reduceBEq, ne_eq, not_false_eq_true]
  obtain ⟨r1, hr1, hF⟩ := bindE hF
  refine DoesR_m (call_F_measure_holds hr1) ?_
  simp only [go_sem, reduceIte, Nat.reduceEqDiff, Nat.reduceAdd, Nat.reduceLeDiff, Nat.reduceLT, Nat.reduceSub, Nat.reduceBEq, ne_eq, not_false_eq_true]
  rcases iteE hF with ⟨hc2, hF⟩ | ⟨hc2, hF⟩
  · simp only [go_sem, reduceIte, Nat.reduceEqDiff, Nat.reduceAdd, Nat.reduceLeDiff, Nat.reduceLT, Nat.reduceSub, Nat.reduceBEq, ne_eq, not_false_eq_true, hc2]
    all_goals (cases hF; rfl)
  · simp only [go_sem, reduceIte, Nat.reduceEqDiff, Nat.reduceAdd, Nat.reduceLeDiff, Nat.reduceLT, Nat.reduceSub, Nat.reduceBEq, ne_eq, not_false_eq_true, hc2]
    exact ih_F_measure_Depth_18 _ _ hF _ _
set_option maxHeartbeats 4000000 in
theorem st_F_measure_Depth_18 (f_F_measure_Depth : YValue → Option (Int)) (ih_F_measure_Depth : ∀ v p, f_F_measure_Depth v = some p → M_F_measure_Depth v p) (f_F_measure_Depth_18 : (Int × List YValue × Int × Int) → Option (Int)) (ih_F_measure_Depth_18 : ∀ v p, f_F_measure_Depth_18 v = some p → M_F_measure_Depth_18 v p) (v : Int × List YValue × Int × Int) (p : Int) (hF : (
  if (decide (v.2.2.2 < v.2.2.1)) = true then (
    lidx v.2.1 v.2.2.2 >>= fun x4 =>
    f_F_measure_Depth x4 >>= fun r5 =>
    f_F_measure_Depth_18 ((imax v.1 r5), v.2.1, v.2.2.1, (iadd .i64 v.2.2.2 1))
  ) else
  some (iadd .i64 v.1 1)) = some p) : M_F_measure_Depth_18 v p := by
  intro h z0
  unfold C88_18
  simp only [go_sem, reduceIte, Nat.reduceEqDiff, Nat.reduceAdd, Nat.reduceLeDiff, Nat.reduceLT, Nat.reduceSub, Nat.reduceBEq, ne_eq, not_false_eq_true]
  rcases iteE hF with ⟨hc3, hF⟩ | ⟨hc3, hF⟩
  · simp only [go_sem, reduceIte, Nat.reduceEqDiff, Nat.reduceAdd, Nat.reduceLeDiff, Nat.reduceLT, Nat.reduceSub, Nat.reduceBEq, ne_eq, not_false_eq_true, hc3]
    obtain ⟨x4, hx4, hF⟩ := bindE hF
    refine DoesO_m (lidx_map YValue.av hx4) ?_
    simp only [go_sem, reduceIte, Nat.reduceEqDiff, Nat.reduceAdd, Nat.reduceLeDiff, Nat.reduceLT, Nat.reduceSub, Nat.reduceBEq, ne_eq, not_false_eq_true, hc3]
    obtain ⟨r5, hr5, hF⟩ := bindE hF
    refine DoesR_m (callA_pure (by simp only [go_sem]) (fun H => ih_F_measure_Depth _ _ hr5 H)) ?_
    simp only [go_sem, reduceIte, Nat.reduceEqDiff, Nat.reduceAdd, Nat.reduceLeDiff, Nat.reduceLT, Nat.reduceSub, Nat.reduceBEq, ne_eq, not_false_eq_true, hc3]
    refine aft_gc_drop (by simp only [go_sem, reduceIte, Nat.reduceEqDiff, Nat.reduceAdd, Nat.reduceLeDiff, Nat.reduceLT, Nat.reduceSub, Nat.reduceBEq, ne_eq, not_false_eq_true, hc3] <;> omega) ?_
    simp only [go_sem, reduceIte, Nat.reduceEqDiff, Nat.reduceAdd, Nat.reduceLeDiff, Nat.reduceLT, Nat.reduceSub, Nat.reduceBEq, ne_eq, not_false_eq_true, hc3]
    exact ih_F_measure_Depth_18 _ _ hF _ _
  · simp only [go_sem, reduceIte, Nat.reduceEqDiff, Nat.reduceAdd, Nat.reduceLeDiff, Nat.reduceLT, Nat.reduceSub, Nat.reduceBEq, ne_eq, not_false_eq_true, hc3]
    all_goals (cases hF; rfl)
theorem s_F_measure_Depth : (∀ v p, F_measure_Depth v = some p → M_F_measure_Depth v p) ∧ (∀ v p, F_measure_Depth_18 v = some p → M_F_measure_Depth_18 v p) := F_measure_Depth.mutual_partial_correctness M_F_measure_Depth M_F_measure_Depth_18 (fun f0 i0 v p hF => st_F_measure_Depth f0 i0 v p hF) (fun f0 f1 i0 i1 v p hF => st_F_measure_Depth_18 f0 i0 f1 i1 v p hF)
theorem t_F_measure_Depth : ∀ v p, F_measure_Depth v = some p → M_F_measure_Depth v p := s_F_measure_Depth.1
theorem t_F_measure_Depth_18 : ∀ v p, F_measure_Depth_18 v = some p → M_F_measure_Depth_18 v p := s_F_measure_Depth.2
theorem call_F_measure_Depth {v_ : YValue} {p : Int} (hx : F_measure_Depth v_ = some p) {h : Heap} : callA (Run T0 N_measure_Depth) [.agg [.int .i64 v_.kind, .int .i64 v_.n_, .str v_.s, .sl false 5 (List.map YValue.av v_.l), .sl false 1 (List.map (AV.int .i64) v_.iDs)]] h = some ((.int .i64 p), h) :=
  callA_pure (by simp only [go_sem]) (fun H => t_F_measure_Depth _ _ hx H)
def F_tcomp_writer_done (w : Ytcomp_writer) (v_ : YValue) (l : YLimit) : Option (List UInt8 × Int) :=
  F_measure_Depth v_ >>= fun r1 =>
  if (decide (r1 > l.depth)) = true then (
    some ([], 6)
  ) else
  if (decide ((w.b_.length : Int) > l.bytes)) = true then (
    some ([], 4)
  ) else
  some (w.b_, 0)
set_option maxHeartbeats 4000000 in
theorem t_F_tcomp_writer_done : ∀ (w : Ytcomp_writer) (v_ : YValue) (l : YLimit) (p : List UInt8 × Int), F_tcomp_writer_done w v_ l = some p → ∀ (h : Heap) (b : Nat) (rest : List AV) (o0 : Bool) (o1 : Bool) (o2 : Bool) (o3 : Bool) (hlt : b < h.length), Run T0 N_tcomp_writer_done [.ptr b 0, .agg [.int .i64 v_.kind, .int .i64 v_.n_, .str v_.s, .sl false 5 (List.map YValue.av v_.l), .sl false 1 (List.map (AV.int .i64) v_.iDs)], .agg [.int .i64 l.depth, .int .i64 l.bytes]] (h.set b (.row ((.sl o0 3 (List.map YSStruct.av w.s.structs)) :: (.sl o1 2 (List.map YSEnum.av w.s.enums)) :: (.sl o2 2 (List.map YSService.av w.s.services)) :: (.sl o3 1 (List.map e8 w.b_)) :: rest))) = some ((.tup [.sl false 1 (List.map e8 p.1), .int .i64 p.2]), h.set b (.row ((.sl o0 3 (List.map YSStruct.av w.s.structs)) :: (.sl o1 2 (List.map YSEnum.av w.s.enums)) :: (.sl o2 2 (List.map YSService.av w.s.services)) :: (.sl o3 1 (List.map e8 w.b_)) :: rest))) := by
  intro w v_ l p hF
  unfold F_tcomp_writer_done at hF
  intro h b rest o0 o1 o2 o3 hlt
  refine run_ofK at_tcomp_writer_done (n := h.length) (by simp only [List.length_set]) ?_
  simp only [go_sem, reduceIte, Nat.reduceEqDiff, Nat.reduceAdd, Nat.reduceLeDiff, Nat.reduceLT, Nat.reduceSub, Nat.reduceBEq, ne_eq, not_false_eq_true, hs_all hlt]
  obtain ⟨r1, hr1, hF⟩ := bindE hF
  refine DoesR_m (call_F_measure_Depth hr1) ?_
  simp only [go_sem, reduceIte, Nat.reduceEqDiff, Nat.reduceAdd, Nat.reduceLeDiff, Nat.reduceLT, Nat.reduceSub, Nat.reduceBEq, ne_eq, not_false_eq_true, hs_all hlt]
  rcases iteE hF with ⟨hc2, hF⟩ | ⟨hc2, hF⟩
  · simp only [go_sem, reduceIte, Nat.reduceEqDiff, Nat.reduceAdd, Nat.reduceLeDiff, Nat.reduceLT, Nat.reduceSub, Nat.reduceBEq, ne_eq, not_false_eq_true, hs_all hlt, hc2]
    all_goals (cases hF; rfl)
  · simp only [go_sem, reduceIte, Nat.reduceEqDiff, Nat.reduceAdd, Nat.reduceLeDiff, Nat.reduceLT, Nat.reduceSub, Nat.reduceBEq, ne_eq, not_false_eq_true, hs_all hlt, hc2]
    rcases iteE hF with ⟨hc3, hF⟩ | ⟨hc3, hF⟩
    · simp only [go_sem, reduceIte, Nat.reduceEqDiff, Nat.reduceAdd, Nat.reduceLeDiff, Nat.reduceLT, Nat.reduceSub, Nat.reduceBEq, ne_eq, not_false_eq_true, hs_all hlt, hc2, hc3]
      all_goals (cases hF; rfl)
    · simp only [go_sem, reduceIte, Nat.reduceEqDiff, Nat.reduceAdd, Nat.reduceLeDiff, Nat.reduceLT, Nat.reduceSub, Nat.reduceBEq, ne_eq, not_false_eq_true, hs_all hlt, hc2, hc3]
      all_goals (cases hF; rfl)
theorem call_F_tcomp_writer_done {w : Ytcomp_writer} {v_ : YValue} {l : YLimit} {p : List UInt8 × Int} (hx : F_tcomp_writer_done w v_ l = some p) {h : Heap} {b : Nat} {rest : List AV} {o0 : Bool} {o1 : Bool} {o2 : Bool} {o3 : Bool} (hb : h[b]? = some (.row ((.sl o0 3 (List.map YSStruct.av w.s.structs)) :: (.sl o1 2 (List.map YSEnum.av w.s.enums)) :: (.sl o2 2 (List.map YSService.av w.s.services)) :: (.sl o3 1 (List.map e8 w.b_)) :: rest))) : callA (Run T0 N_tcomp_writer_done) [.ptr b 0, .agg [.int .i64 v_.kind, .int .i64 v_.n_, .str v_.s, .sl false 5 (List.map YValue.av v_.l), .sl false 1 (List.map (AV.int .i64) v_.iDs)], .agg [.int .i64 l.depth, .int .i64 l.bytes]] h = some ((.tup [.sl false 1 (List.map e8 p.1), .int .i64 p.2]), h) :=
  callA_ptr0 (by simp only [go_sem]) hb (fun H hH => t_F_tcomp_writer_done _ _ _ _ hx H b rest o0 o1 o2 o3 hH)
def F_kind_cursor_fails (c : Ykind_cursor) (is : Bool) (e_ : Int) : Option (Ykind_cursor) :=
  if is = true then (
    if (c.e_ == (0 : Int)) = true then (
      some (⟨c.s, c.at_, e_, c.names, c.depth⟩ : Ykind_cursor)
    ) else
    some c
  ) else
  some c
set_option maxHeartbeats 4000000 in
theorem t_F_kind_cursor_fails : ∀ (c : Ykind_cursor) (is : Bool) (e_ : Int) (p : Ykind_cursor), F_kind_cursor_fails c is e_ = some p → ∀ (h : Heap) (b : Nat) (rest : List AV) (o0 : Bool) (hlt : b < h.length), Run T0 N_kind_cursor_fails [.ptr b 0, .bool is, .int .i64 e_] (h.set b (.row ((.str c.s) :: (.int .i64 c.at_) :: (.int .i64 c.e_) :: (.sl o0 1 (List.map AV.str c.names)) :: (.int .i64 c.depth) :: rest))) = some ((.tup []), h.set b (.row ((.str p.s) :: (.int .i64 p.at_) :: (.int .i64 p.e_) :: (.sl o0 1 (List.map AV.str p.names)) :: (.int .i64 p.depth) :: rest))) := by
  intro c is e_ p hF
  unfold F_kind_cursor_fails at hF
  intro h b rest o0 hlt
  refine run_ofK at_kind_cursor_fails (n := h.length) (by simp only [List.length_set]) ?_
  simp only [go_sem, reduceIte, Nat.reduceEqDiff, Nat.reduceAdd, Nat.reduceLeDiff, Nat.reduceLT, Nat.reduceSub, Nat.reduceBEq, ne_eq, not_false_eq_true, hs_all hlt]
  rcases iteE hF with ⟨hc1, hF⟩ | ⟨hc1, hF⟩
  · simp only [go_sem, reduceIte, Nat.reduceEqDiff, Nat.reduceAdd, Nat.reduceLeDiff, Nat.reduceLT, Nat.reduceSub, Nat.reduceBEq, ne_eq, not_false_eq_true, hs_all hlt, hc1]
    rcases iteE hF with ⟨hc2, hF⟩ | ⟨hc2, hF⟩
    · simp only [go_sem, reduceIte, Nat.reduceEqDiff, Nat.reduceAdd, Nat.reduceLeDiff, Nat.reduceLT, Nat.reduceSub, Nat.reduceBEq, ne_eq, not_false_eq_true, hs_all hlt, hc1, hc2]
      all_goals (cases hF; rfl)
    · simp only [go_sem, reduceIte, Nat.reduceEqDiff, Nat.reduceAdd, Nat.reduceLeDiff, Nat.reduceLT, Nat.reduceSub, Nat.reduceBEq, ne_eq, not_false_eq_true, hs_all hlt, hc1, hc2]
      all_goals (cases hF; rfl)
  · simp only [go_sem, reduceIte, Nat.reduceEqDiff, Nat.reduceAdd, Nat.reduceLeDiff, Nat.reduceLT, Nat.reduceSub, Nat.reduceBEq, ne_eq, not_false_eq_true, hs_all hlt, hc1]
    all_goals (cases hF; rfl)
theorem call_F_kind_cursor_fails {c : Ykind_cursor} {is : Bool} {e_ : Int} {p : Ykind_cursor} (hx : F_kind_cursor_fails c is e_ = some p) {h : Heap} {b : Nat} {rest : List AV} {o0 : Bool} (hb : h[b]? = some (.row ((.str c.s) :: (.int .i64 c.at_) :: (.int .i64 c.e_) :: (.sl o0 1 (List.map AV.str c.names)) :: (.int .i64 c.depth) :: rest))) : callA (Run T0 N_kind_cursor_fails) [.ptr b 0, .bool is, .int .i64 e_] h = some ((.tup []), h.set b (.row ((.str p.s) :: (.int .i64 p.at_) :: (.int .i64 p.e_) :: (.sl o0 1 (List.map AV.str p.names)) :: (.int .i64 p.depth) :: rest))) :=
  callA_ptr (by simp only [go_sem]) hb (fun H hH => t_F_kind_cursor_fails _ _ _ _ hx H b rest o0 hH)
def F_kind_cursor_sign_5 (c : Ykind_cursor) : Option (Ykind_cursor) :=
  if (c.e_ == (0 : Int)) = true then (
    some (⟨c.s, (iadd .i64 c.at_ 1), c.e_, c.names, c.depth⟩ : Ykind_cursor)
  ) else
  some c
set_option maxHeartbeats 4000000 in
theorem t_F_kind_cursor_sign_5 : ∀ (c : Ykind_cursor) (p : Ykind_cursor), F_kind_cursor_sign_5 c = some p → ∀ (h : Heap) (b : Nat) (rest : List AV) (o0 : Bool) (hlt : b < h.length), Does T0 C200_5 (aft T0 (EndQ false [] h.length (.tup []) (h.set b (.row ((.str p.s) :: (.int .i64 p.at_) :: (.int .i64 p.e_) :: (.sl o0 1 (List.map AV.str p.names)) :: (.int .i64 p.depth) :: rest)))) []) .mk .mk [(0, .ptr b 0)] (h.set b (.row ((.str c.s) :: (.int .i64 c.at_) :: (.int .i64 c.e_) :: (.sl o0 1 (List.map AV.str c.names)) :: (.int .i64 c.depth) :: rest))) := by
  intro c p hF
  unfold F_kind_cursor_sign_5 at hF
  intro h b rest o0 hlt
  unfold C200_5
  simp only [go_sem, reduceIte, Nat.reduceEqDiff, Nat.reduceAdd, Nat.reduceLeDiff, Nat.reduceLT, Nat.reduceSub, Nat.reduceBEq, ne_eq, not_false_eq_true, hs_all hlt]
  rcases iteE hF with ⟨hc3, hF⟩ | ⟨hc3, hF⟩
  · simp only [go_sem, reduceIte, Nat.reduceEqDiff, Nat.reduceAdd, Nat.reduceLeDiff, Nat.reduceLT, Nat.reduceSub, Nat.reduceBEq, ne_eq, not_false_eq_true, hs_all hlt, hc3]
    all_goals (cases hF; rfl)
  · simp only [go_sem, reduceIte, Nat.reduceEqDiff, Nat.reduceAdd, Nat.reduceLeDiff, Nat.reduceLT, Nat.reduceSub, Nat.reduceBEq, ne_eq, not_false_eq_true, hs_all hlt, hc3]
    all_goals (cases hF; rfl)
def F_kind_cursor_sign (c : Ykind_cursor) (b_ : UInt8) : Option (Ykind_cursor) :=
  if (decide (c.at_ ≥ (c.s.length : Int))) = true then (
    F_kind_cursor_fails c true 2 >>= fun r2 =>
    F_kind_cursor_sign_5 r2
  ) else
  lidx c.s c.at_ >>= fun x4 =>
  F_kind_cursor_fails c ((x4.toNat : Int) != (b_.toNat : Int)) 2 >>= fun r5 =>
  F_kind_cursor_sign_5 r5
set_option maxHeartbeats 4000000 in
theorem t_F_kind_cursor_sign : ∀ (c : Ykind_cursor) (b_ : UInt8) (p : Ykind_cursor), F_kind_cursor_sign c b_ = some p → ∀ (h : Heap) (b : Nat) (rest : List AV) (o0 : Bool) (hlt : b < h.length), Run T0 N_kind_cursor_sign [.ptr b 0, .int .u8 (b_.toNat : Int)] (h.set b (.row ((.str c.s) :: (.int .i64 c.at_) :: (.int .i64 c.e_) :: (.sl o0 1 (List.map AV.str c.names)) :: (.int .i64 c.depth) :: rest))) = some ((.tup []), h.set b (.row ((.str p.s) :: (.int .i64 p.at_) :: (.int .i64 p.e_) :: (.sl o0 1 (List.map AV.str p.names)) :: (.int .i64 p.depth) :: rest))) := by
  intro c b_ p hF
  unfold F_kind_cursor_sign at hF
  intro h b rest o0 hlt
  refine run_ofK at_kind_cursor_sign (n := h.length) (by simp only [List.length_set]) ?_
  simp only [go_sem, reduceIte, Nat.reduceEqDiff, Nat.reduceAdd, Nat.reduceLeDiff, Nat.reduceLT, Nat.reduceSub, Nat.reduceBEq, ne_eq, not_false_eq_true, hs_all hlt]
  rcases iteE hF with ⟨hc1, hF⟩ | ⟨hc1, hF⟩
  · simp only [go_sem, reduceIte, Nat.reduceEqDiff, Nat.reduceAdd, Nat.reduceLeDiff, Nat.reduceLT, Nat.reduceSub, Nat.reduceBEq, ne_eq, not_false_eq_true, hs_all hlt, hc1]
    obtain ⟨r2, hr2, hF⟩ := bindE hF
    refine DoesR_m (call_F_kind_cursor_fails hr2 (hs_get hlt)) ?_
    simp only [go_sem, reduceIte, Nat.reduceEqDiff, Nat.reduceAdd, Nat.reduceLeDiff, Nat.reduceLT, Nat.reduceSub, Nat.reduceBEq, ne_eq, not_false_eq_true, hs_all hlt, hc1]
    exact t_F_kind_cursor_sign_5 _ _ hF _ _ _ _ hlt
  · simp only [go_sem, reduceIte, Nat.reduceEqDiff, Nat.reduceAdd, Nat.reduceLeDiff, Nat.reduceLT, Nat.reduceSub, Nat.reduceBEq, ne_eq, not_false_eq_true, hs_all hlt, hc1]
    obtain ⟨x4, hx4, hF⟩ := bindE hF
    refine DoesO_m (hx4) ?_
    simp only [go_sem, reduceIte, Nat.reduceEqDiff, Nat.reduceAdd, Nat.reduceLeDiff, Nat.reduceLT, Nat.reduceSub, Nat.reduceBEq, ne_eq, not_false_eq_true, hs_all hlt, hc1]
    obtain ⟨r5, hr5, hF⟩ := bindE hF
    refine DoesR_m (call_F_kind_cursor_fails hr5 (hs_get hlt)) ?_
    simp only [go_sem, reduceIte, Nat.reduceEqDiff, Nat.reduceAdd, Nat.reduceLeDiff, Nat.reduceLT, Nat.reduceSub, Nat.reduceBEq, ne_eq, not_false_eq_true, hs_all hlt, hc1]
    exact t_F_kind_cursor_sign_5 _ _ hF _ _ _ _ hlt
theorem call_F_kind_cursor_sign {c : Ykind_cursor} {b_ : UInt8} {p : Ykind_cursor} (hx : F_kind_cursor_sign c b_ = some p) {h : Heap} {b : Nat} {rest : List AV} {o0 : Bool} (hb : h[b]? = some (.row ((.str c.s) :: (.int .i64 c.at_) :: (.int .i64 c.e_) :: (.sl o0 1 (List.map AV.str c.names)) :: (.int .i64 c.depth) :: rest))) : callA (Run T0 N_kind_cursor_sign) [.ptr b 0, .int .u8 (b_.toNat : Int)] h = some ((.tup []), h.set b (.row ((.str p.s) :: (.int .i64 p.at_) :: (.int .i64 p.e_) :: (.sl o0 1 (List.map AV.str p.names)) :: (.int .i64 p.depth) :: rest))) :=
  callA_ptr (by simp only [go_sem]) hb (fun H hH => t_F_kind_cursor_sign _ _ _ hx H b rest o0 hH)
def F_kind_inner (kind : Int) : Option (Int) :=
  if (kind == (15 : Int)) = true then (
    some 1
  ) else
  if (kind == (14 : Int)) = true then (
    some 1
  ) else
  if (kind == (13 : Int)) = true then (
    some 2
  ) else
  some 0
set_option maxHeartbeats 4000000 in
theorem t_F_kind_inner : ∀ (kind : Int) (p : Int), F_kind_inner kind = some p → ∀ (h : Heap), Run T0 N_kind_inner [.int .i64 kind] h = some ((.int .i64 p), h) := by
  intro kind p hF
  unfold F_kind_inner at hF
  intro h
  refine run_ofK at_kind_inner (n := h.length) rfl ?_
  simp only [go_sem, reduceIte, Nat.reduceEqDiff, Nat.reduceAdd, Nat.reduceLeDiff, Nat.reduceLT, Nat.reduceSub, Nat.reduceBEq, ne_eq, not_false_eq_true]
  rcases iteE hF with ⟨hc1, hF⟩ | ⟨hc1, hF⟩
  · simp only [go_sem, reduceIte, Nat.reduceEqDiff, Nat.reduceAdd, Nat.reduceLeDiff, Nat.reduceLT, Nat.reduceSub, Nat.reduceBEq, ne_eq, not_false_eq_true, hc1]
    all_goals (cases hF; rfl)
  · simp only [go_sem, reduceIte, Nat.reduceEqDiff, Nat.reduceAdd, Nat.reduceLeDiff, Nat.reduceLT, Nat.reduceSub, Nat.reduceBEq, ne_eq, not_false_eq_true, hc1]
    rcases iteE hF with ⟨hc2, hF⟩ | ⟨hc2, hF⟩
    · simp only [go_sem, reduceIte, Nat.reduceEqDiff, Nat.reduceAdd, Nat.reduceLeDiff, Nat.reduceLT, Nat.reduceSub, Nat.reduceBEq, ne_eq, not_false_eq_true, hc1, hc2]
      all_goals (cases hF; rfl)
    · simp only [go_sem, reduceIte, Nat.reduceEqDiff, Nat.reduceAdd, Nat.reduceLeDiff, Nat.reduceLT, Nat.reduceSub, Nat.reduceBEq, ne_eq, not_false_eq_true, hc1, hc2]
      rcases iteE hF with ⟨hc3, hF⟩ | ⟨hc3, hF⟩
      · simp only [go_sem, reduceIte, Nat.reduceEqDiff, Nat.reduceAdd, Nat.reduceLeDiff, Nat.reduceLT, Nat.reduceSub, Nat.reduceBEq, ne_eq, not_false_eq_true, hc1, hc2, hc3]
        all_goals (cases hF; rfl)
      · simp only [go_sem, reduceIte, Nat.reduceEqDiff, Nat.reduceAdd, Nat.reduceLeDiff, Nat.reduceLT, Nat.reduceSub, Nat.reduceBEq, ne_eq, not_false_eq_true, hc1, hc2, hc3]
        all_goals (cases hF; rfl)
theorem call_F_kind_inner {kind : Int} {p : Int} (hx : F_kind_inner kind = some p) {h : Heap} : callA (Run T0 N_kind_inner) [.int .i64 kind] h = some ((.int .i64 p), h) :=
  callA_pure (by simp only [go_sem]) (fun H => t_F_kind_inner _ _ hx H)
def F_kind_letter (b_ : UInt8) : Option (Bool) :=
  if ((b_.toNat : Int) == (95 : Int)) = true then (
    some true
  ) else
  if (decide ((b_.toNat : Int) ≥ (97 : Int))) = true then (
    if (decide ((b_.toNat : Int) ≤ (122 : Int))) = true then (
      some true
    ) else
    if (decide ((b_.toNat : Int) ≥ (65 : Int))) = true then (
      some (decide ((b_.toNat : Int) ≤ (90 : Int)))
    ) else
    some false
  ) else
  if (decide ((b_.toNat : Int) ≥ (65 : Int))) = true then (
    some (decide ((b_.toNat : Int) ≤ (90 : Int)))
  ) else
  some false
set_option maxHeartbeats 4000000 in
theorem t_F_kind_letter : ∀ (b_ : UInt8) (p : Bool), F_kind_letter b_ = some p → ∀ (h : Heap), Run T0 N_kind_letter [.int .u8 (b_.toNat : Int)] h = some ((.bool p), h) := by
  intro b_ p hF
  unfold F_kind_letter at hF
  intro h
  refine run_ofK at_kind_letter (n := h.length) rfl ?_
  simp only [go_sem, reduceIte, Nat.reduceEqDiff, Nat.reduceAdd, Nat.reduceLeDiff, Nat.reduceLT, Nat.reduceSub, Nat.reduceBEq, ne_eq, not_false_eq_true]
  rcases iteE hF with ⟨hc1, hF⟩ | ⟨hc1, hF⟩
  · simp only [go_sem, reduceIte, Nat.reduceEqDiff, Nat.reduceAdd, Nat.reduceLeDiff, Nat.reduceLT, Nat.reduceSub, Nat.reduceBEq, ne_eq, not_false_eq_true, hc1]
    all_goals (cases hF; rfl)
  · simp only [go_sem, reduceIte, Nat.reduceEqDiff, Nat.reduceAdd, Nat.reduceLeDiff, Nat.reduceLT, Nat.reduceSub, Nat.reduceBEq, ne_eq, not_false_eq_true, hc1]
    rcases iteE hF with ⟨hc2, hF⟩ | ⟨hc2, hF⟩
    · simp only [go_sem, reduceIte, Nat.reduceEqDiff, Nat.reduceAdd, Nat.reduceLeDiff, Nat.reduceLT, Nat.reduceSub, Nat.reduceBEq, ne_eq, not_false_eq_true, hc1, hc2]
      rcases iteE hF with ⟨hc3, hF⟩ | ⟨hc3, hF⟩
      · simp only [go_sem, reduceIte, Nat.reduceEqDiff, Nat.reduceAdd, Nat.reduceLeDiff, Nat.reduceLT, Nat.reduceSub, Nat.reduceBEq, ne_eq, not_false_eq_true, hc1, hc2, hc3]
        all_goals (cases hF; rfl)
      · simp only [go_sem, reduceIte, Nat.reduceEqDiff, Nat.reduceAdd, Nat.reduceLeDiff, Nat.reduceLT, Nat.reduceSub, Nat.reduceBEq, ne_eq, not_false_eq_true, hc1, hc2, hc3]
        rcases iteE hF with ⟨hc4, hF⟩ | ⟨hc4, hF⟩
        · simp only [go_sem, reduceIte, Nat.reduceEqDiff, Nat.reduceAdd, Nat.reduceLeDiff, Nat.reduceLT, Nat.reduceSub, Nat.reduceBEq, ne_eq, not_false_eq_true, hc1, hc2, hc3, hc4]
          all_goals (cases hF; rfl)
        · simp only [go_sem, reduceIte, Nat.reduceEqDiff, Nat.reduceAdd, Nat.reduceLeDiff, Nat.reduceLT, Nat.reduceSub, Nat.reduceBEq, ne_eq, not_false_eq_true, hc1, hc2, hc3, hc4]
          all_goals (cases hF; rfl)
    · simp only [go_sem, reduceIte, Nat.reduceEqDiff, Nat.reduceAdd, Nat.reduceLeDiff, Nat.reduceLT, Nat.reduceSub, Nat.reduceBEq, ne_eq, not_false_eq_true, hc1, hc2]
      rcases iteE hF with ⟨hc5, hF⟩ | ⟨hc5, hF⟩
      · simp only [go_sem, reduceIte, Nat.reduceEqDiff, Nat.reduceAdd, Nat.reduceLeDiff, Nat.reduceLT, Nat.reduceSub, Nat.reduceBEq, ne_eq, not_false_eq_true, hc1, hc2, hc5]
        all_goals (cases hF; rfl)
      · simp only [go_sem, reduceIte, Nat.reduceEqDiff, Nat.reduceAdd, Nat.reduceLeDiff, Nat.reduceLT, Nat.reduceSub, Nat.reduceBEq, ne_eq, not_false_eq_true, hc1, hc2, hc5]
        all_goals (cases hF; rfl)
theorem call_F_kind_letter {b_ : UInt8} {p : Bool} (hx : F_kind_letter b_ = some p) {h : Heap} : callA (Run T0 N_kind_letter) [.int .u8 (b_.toNat : Int)] h = some ((.bool p), h) :=
  callA_pure (by simp only [go_sem]) (fun H => t_F_kind_letter _ _ hx H)
def F_kind_cursor_part_9 (v : Int × Ykind_cursor) : Option (List UInt8 × Ykind_cursor) :=
  if (v.2.e_ == (0 : Int)) = true then (
    if (decide (v.2.at_ < (v.2.s.length : Int))) = true then (
      lidx v.2.s v.2.at_ >>= fun x5 =>
      F_kind_letter x5 >>= fun r6 =>
      if r6 = true then (
        F_kind_cursor_part_9 (v.1, (⟨v.2.s, (iadd .i64 v.2.at_ 1), v.2.e_, v.2.names, v.2.depth⟩ : Ykind_cursor))
      ) else
      lidx v.2.s v.2.at_ >>= fun x8 =>
      if (decide ((x8.toNat : Int) ≥ (48 : Int))) = true then (
        lidx v.2.s v.2.at_ >>= fun x10 =>
        if (decide ((x10.toNat : Int) ≤ (57 : Int))) = true then (
          F_kind_cursor_part_9 (v.1, (⟨v.2.s, (iadd .i64 v.2.at_ 1), v.2.e_, v.2.names, v.2.depth⟩ : Ykind_cursor))
        ) else
        subl v.2.s v.1 v.2.at_ >>= fun x12 =>
        some (x12, v.2)
      ) else
      subl v.2.s v.1 v.2.at_ >>= fun x13 =>
      some (x13, v.2)
    ) else
    subl v.2.s v.1 v.2.at_ >>= fun x14 =>
    some (x14, v.2)
  ) else
  subl v.2.s v.1 v.2.at_ >>= fun x15 =>
  some (x15, v.2)
  partial_fixpoint
theorem F_kind_cursor_part_9_eq (from_ : Int) (c : Ykind_cursor) : F_kind_cursor_part_9 (from_, c) =
  if (c.e_ == (0 : Int)) = true then (
    if (decide (c.at_ < (c.s.length : Int))) = true then (
      lidx c.s c.at_ >>= fun x5 =>
      F_kind_letter x5 >>= fun r6 =>
      if r6 = true then (
        F_kind_cursor_part_9 (from_, (⟨c.s, (iadd .i64 c.at_ 1), c.e_, c.names, c.depth⟩ : Ykind_cursor))
      ) else
      lidx c.s c.at_ >>= fun x8 =>
      if (decide ((x8.toNat : Int) ≥ (48 : Int))) = true then (
        lidx c.s c.at_ >>= fun x10 =>
        if (decide ((x10.toNat : Int) ≤ (57 : Int))) = true then (
          F_kind_cursor_part_9 (from_, (⟨c.s, (iadd .i64 c.at_ 1), c.e_, c.names, c.depth⟩ : Ykind_cursor))
        ) else
        subl c.s from_ c.at_ >>= fun x12 =>
        some (x12, c)
      ) else
      subl c.s from_ c.at_ >>= fun x13 =>
      some (x13, c)
    ) else
    subl c.s from_ c.at_ >>= fun x14 =>
    some (x14, c)
  ) else
  subl c.s from_ c.at_ >>= fun x15 =>
  some (x15, c) := F_kind_cursor_part_9.eq_1 (from_, c)
def M_F_kind_cursor_part_9 (v : Int × Ykind_cursor) (p : List UInt8 × Ykind_cursor) : Prop := ∀ (h : Heap) (b : Nat) (rest : List AV) (o0 : Bool) (hlt : b < h.length), Does T0 C197_9 (aft T0 (EndQ false [.tmp 2] h.length (.str p.1) (h.set b (.row ((.str p.2.s) :: (.int .i64 p.2.at_) :: (.int .i64 p.2.e_) :: (.sl o0 1 (List.map AV.str p.2.names)) :: (.int .i64 p.2.depth) :: rest)))) [.gc h.length, .lp C197_10, .blk 0, .seq C197_14]) .mk .mk [(0, .ptr b 0), (3, .int .i64 v.1)] (h.set b (.row ((.str v.2.s) :: (.int .i64 v.2.at_) :: (.int .i64 v.2.e_) :: (.sl o0 1 (List.map AV.str v.2.names)) :: (.int .i64 v.2.depth) :: rest)))
set_option maxHeartbeats 4000000 in
theorem st_F_kind_cursor_part_9 (f_F_kind_cursor_part_9 : (Int × Ykind_cursor) → Option (List UInt8 × Ykind_cursor)) (ih_F_kind_cursor_part_9 : ∀ v p, f_F_kind_cursor_part_9 v = some p → M_F_kind_cursor_part_9 v p) (v : Int × Ykind_cursor) (p : List UInt8 × Ykind_cursor) (hF : (
  if (v.2.e_ == (0 : Int)) = true then (
    if (decide (v.2.at_ < (v.2.s.length : Int))) = true then (
      lidx v.2.s v.2.at_ >>= fun x5 =>
      F_kind_letter x5 >>= fun r6 =>
      if r6 = true then (
        f_F_kind_cursor_part_9 (v.1, (⟨v.2.s, (iadd .i64 v.2.at_ 1), v.2.e_, v.2.names, v.2.depth⟩ : Ykind_cursor))
      ) else
      lidx v.2.s v.2.at_ >>= fun x8 =>
      if (decide ((x8.toNat : Int) ≥ (48 : Int))) = true then (
        lidx v.2.s v.2.at_ >>= fun x10 =>
        if (decide ((x10.toNat : Int) ≤ (57 : Int))) = true then (
          f_F_kind_cursor_part_9 (v.1, (⟨v.2.s, (iadd .i64 v.2.at_ 1), v.2.e_, v.2.names, v.2.depth⟩ : Ykind_cursor))
        ) else
        subl v.2.s v.1 v.2.at_ >>= fun x12 =>
        some (x12, v.2)
      ) else
      subl v.2.s v.1 v.2.at_ >>= fun x13 =>
      some (x13, v.2)
    ) else
    subl v.2.s v.1 v.2.at_ >>= fun x14 =>
    some (x14, v.2)
  ) else
  subl v.2.s v.1 v.2.at_ >>= fun x15 =>
  some (x15, v.2)) = some p) : M_F_kind_cursor_part_9 v p := by
  intro h b rest o0 hlt
  unfold C197_9
  simp only [go_sem, reduceIte, Nat.reduceEqDiff, Nat.reduceAdd, Nat.reduceLeDiff, Nat.reduceLT, Nat.reduceSub, Nat.reduceBEq, ne_eq, not_false_eq_true, hs_all hlt]
  rcases iteE hF with ⟨hc3, hF⟩ | ⟨hc3, hF⟩
  · simp only [go_sem, reduceIte, Nat.reduceEqDiff, Nat.reduceAdd, Nat.reduceLeDiff, Nat.reduceLT, Nat.reduceSub, Nat.reduceBEq, ne_eq, not_false_eq_true, hs_all hlt, hc3]
    rcases iteE hF with ⟨hc4, hF⟩ | ⟨hc4, hF⟩
    · simp only [go_sem, reduceIte, Nat.reduceEqDiff, Nat.reduceAdd, Nat.reduceLeDiff, Nat.reduceLT, Nat.reduceSub, Nat.reduceBEq, ne_eq, not_false_eq_true, hs_all hlt, hc3, hc4]
      obtain ⟨x5, hx5, hF⟩ := bindE hF
      refine DoesO_m (hx5) ?_
      simp only [go_sem, reduceIte, Nat.reduceEqDiff, Nat.reduceAdd, Nat.reduceLeDiff, Nat.reduceLT, Nat.reduceSub, Nat.reduceBEq, ne_eq, not_false_eq_true, hs_all hlt, hc3, hc4]
      obtain ⟨r6, hr6, hF⟩ := bindE hF
      refine DoesR_m (call_F_kind_letter hr6) ?_
      simp only [go_sem, reduceIte, Nat.reduceEqDiff, Nat.reduceAdd, Nat.reduceLeDiff, Nat.reduceLT, Nat.reduceSub, Nat.reduceBEq, ne_eq, not_false_eq_true, hs_all hlt, hc3, hc4]
      rcases iteE hF with ⟨hc7, hF⟩ | ⟨hc7, hF⟩
      · simp only [go_sem, reduceIte, Nat.reduceEqDiff, Nat.reduceAdd, Nat.reduceLeDiff, Nat.reduceLT, Nat.reduceSub, Nat.reduceBEq, ne_eq, not_false_eq_true, hs_all hlt, hc3, hc4, hc7]
        exact ih_F_kind_cursor_part_9 _ _ hF _ _ _ _ hlt
      · simp only [go_sem, reduceIte, Nat.reduceEqDiff, Nat.reduceAdd, Nat.reduceLeDiff, Nat.reduceLT, Nat.reduceSub, Nat.reduceBEq, ne_eq, not_false_eq_true, hs_all hlt, hc3, hc4, hc7]
        obtain ⟨x8, hx8, hF⟩ := bindE hF
        refine DoesO_m (hx8) ?_
        simp only [go_sem, reduceIte, Nat.reduceEqDiff, Nat.reduceAdd, Nat.reduceLeDiff, Nat.reduceLT, Nat.reduceSub, Nat.reduceBEq, ne_eq, not_false_eq_true, hs_all hlt, hc3, hc4, hc7]
        rcases iteE hF with ⟨hc9, hF⟩ | ⟨hc9, hF⟩
        · simp only [go_sem, reduceIte, Nat.reduceEqDiff, Nat.reduceAdd, Nat.reduceLeDiff, Nat.reduceLT, Nat.reduceSub, Nat.reduceBEq, ne_eq, not_false_eq_true, hs_all hlt, hc3, hc4, hc7, hc9]
          obtain ⟨x10, hx10, hF⟩ := bindE hF
          refine DoesO_m (hx10) ?_
          simp only [go_sem, reduceIte, Nat.reduceEqDiff, Nat.reduceAdd, Nat.reduceLeDiff, Nat.reduceLT, Nat.reduceSub, Nat.reduceBEq, ne_eq, not_false_eq_true, hs_all hlt, hc3, hc4, hc7, hc9]
          rcases iteE hF with ⟨hc11, hF⟩ | ⟨hc11, hF⟩
          · simp only [go_sem, reduceIte, Nat.reduceEqDiff, Nat.reduceAdd, Nat.reduceLeDiff, Nat.reduceLT, Nat.reduceSub, Nat.reduceBEq, ne_eq, not_false_eq_true, hs_all hlt, hc3, hc4, hc7, hc9, hc11]
            exact ih_F_kind_cursor_part_9 _ _ hF _ _ _ _ hlt
          · simp only [go_sem, reduceIte, Nat.reduceEqDiff, Nat.reduceAdd, Nat.reduceLeDiff, Nat.reduceLT, Nat.reduceSub, Nat.reduceBEq, ne_eq, not_false_eq_true, hs_all hlt, hc3, hc4, hc7, hc9, hc11]
            obtain ⟨x12, hx12, hF⟩ := bindE hF
            refine DoesO_m (hx12) ?_
            simp only [go_sem, reduceIte, Nat.reduceEqDiff, Nat.reduceAdd, Nat.reduceLeDiff, Nat.reduceLT, Nat.reduceSub, Nat.reduceBEq, ne_eq, not_false_eq_true, hs_all hlt, hc3, hc4, hc7, hc9, hc11]
            all_goals (cases hF; rfl)
        · simp only [go_sem, reduceIte, Nat.reduceEqDiff, Nat.reduceAdd, Nat.reduceLeDiff, Nat.reduceLT, Nat.reduceSub, Nat.reduceBEq, ne_eq, not_false_eq_true, hs_all hlt, hc3, hc4, hc7, hc9]
          obtain ⟨x13, hx13, hF⟩ := bindE hF
          refine DoesO_m (hx13) ?_
          simp only [go_sem, reduceIte, Nat.reduceEqDiff, Nat.reduceAdd, Nat.reduceLeDiff, Nat.reduceLT, Nat.reduceSub, Nat.reduceBEq, ne_eq, not_false_eq_true, hs_all hlt, hc3, hc4, hc7, hc9]
          all_goals (cases hF; rfl)
    · simp only [go_sem, reduceIte, Nat.reduceEqDiff, Nat.reduceAdd, Nat.reduceLeDiff, Nat.reduceLT, Nat.reduceSub, Nat.reduceBEq, ne_eq, not_false_eq_true, hs_all hlt, hc3, hc4]
      obtain ⟨x14, hx14, hF⟩ := bindE hF
      refine DoesO_m (hx14) ?_
      simp only [go_sem, reduceIte, Nat.reduceEqDiff, Nat.reduceAdd, Nat.reduceLeDiff, Nat.reduceLT, Nat.reduceSub, Nat.reduceBEq, ne_eq, not_false_eq_true, hs_all hlt, hc3, hc4]
      all_goals (cases hF; rfl)
  · simp only [go_sem, reduceIte, Nat.reduceEqDiff, Nat.reduceAdd, Nat.reduceLeDiff, Nat.reduceLT, Nat.reduceSub, Nat.reduceBEq, ne_eq, not_false_eq_true, hs_all hlt, hc3]
    obtain ⟨x15, hx15, hF⟩ := bindE hF
    refine DoesO_m (hx15) ?_
    simp only [go_sem, reduceIte, Nat.reduceEqDiff, Nat.reduceAdd, Nat.reduceLeDiff, Nat.reduceLT, Nat.reduceSub, Nat.reduceBEq, ne_eq, not_false_eq_true, hs_all hlt, hc3]
    all_goals (cases hF; rfl)
theorem t_F_kind_cursor_part_9 : ∀ v p, F_kind_cursor_part_9 v = some p → M_F_kind_cursor_part_9 v p := F_kind_cursor_part_9.partial_correctness M_F_kind_cursor_part_9 (fun f0 i0 v p hF => st_F_kind_cursor_part_9 f0 i0 v p hF)
def F_kind_cursor_part_15 (from_ : Int) (c : Ykind_cursor) : Option (List UInt8 × Ykind_cursor) :=
  F_kind_cursor_part_9 (from_, c)
set_option maxHeartbeats 4000000 in
theorem t_F_kind_cursor_part_15 : ∀ (from_ : Int) (c : Ykind_cursor) (p : List UInt8 × Ykind_cursor), F_kind_cursor_part_15 from_ c = some p → ∀ (h : Heap) (b : Nat) (rest : List AV) (o0 : Bool) (hlt : b < h.length), Does T0 C197_15 (aft T0 (EndQ false [.tmp 2] h.length (.str p.1) (h.set b (.row ((.str p.2.s) :: (.int .i64 p.2.at_) :: (.int .i64 p.2.e_) :: (.sl o0 1 (List.map AV.str p.2.names)) :: (.int .i64 p.2.depth) :: rest)))) []) .mk .mk [(0, .ptr b 0), (3, .int .i64 from_)] (h.set b (.row ((.str c.s) :: (.int .i64 c.at_) :: (.int .i64 c.e_) :: (.sl o0 1 (List.map AV.str c.names)) :: (.int .i64 c.depth) :: rest))) := by
  intro from_ c p hF
  unfold F_kind_cursor_part_15 at hF
  intro h b rest o0 hlt
  unfold C197_15
  simp only [go_sem, reduceIte, Nat.reduceEqDiff, Nat.reduceAdd, Nat.reduceLeDiff, Nat.reduceLT, Nat.reduceSub, Nat.reduceBEq, ne_eq, not_false_eq_true, hs_all hlt]
  exact t_F_kind_cursor_part_9 _ _ hF _ _ _ _ hlt
def F_kind_cursor_part (c : Ykind_cursor) : Option (List UInt8 × Ykind_cursor) :=
  if (decide (c.at_ ≥ (c.s.length : Int))) = true then (
    F_kind_cursor_fails c true 2 >>= fun r2 =>
    F_kind_cursor_part_15 c.at_ r2
  ) else
  lidx c.s c.at_ >>= fun x16 =>
  F_kind_letter x16 >>= fun r17 =>
  F_kind_cursor_fails c (!r17) 2 >>= fun r18 =>
  F_kind_cursor_part_15 c.at_ r18
set_option maxHeartbeats 4000000 in
theorem t_F_kind_cursor_part : ∀ (c : Ykind_cursor) (p : List UInt8 × Ykind_cursor), F_kind_cursor_part c = some p → ∀ (h : Heap) (b : Nat) (rest : List AV) (o0 : Bool) (hlt : b < h.length), Run T0 N_kind_cursor_part [.ptr b 0] (h.set b (.row ((.str c.s) :: (.int .i64 c.at_) :: (.int .i64 c.e_) :: (.sl o0 1 (List.map AV.str c.names)) :: (.int .i64 c.depth) :: rest))) = some ((.str p.1), h.set b (.row ((.str p.2.s) :: (.int .i64 p.2.at_) :: (.int .i64 p.2.e_) :: (.sl o0 1 (List.map AV.str p.2.names)) :: (.int .i64 p.2.depth) :: rest))) := by
  intro c p hF
  unfold F_kind_cursor_part at hF
  intro h b rest o0 hlt
  refine run_ofK at_kind_cursor_part (n := h.length) (by simp only [List.length_set]) ?_
  simp only [go_sem, reduceIte, Nat.reduceEqDiff, Nat.reduceAdd, Nat.reduceLeDiff, Nat.reduceLT, Nat.reduceSub, Nat.reduceBEq, ne_eq, not_false_eq_true, hs_all hlt]
  rcases iteE hF with ⟨hc1, hF⟩ | ⟨hc1, hF⟩
  · simp only [go_sem, reduceIte, Nat.reduceEqDiff, Nat.reduceAdd, Nat.reduceLeDiff, Nat.reduceLT, Nat.reduceSub, Nat.reduceBEq, ne_eq, not_false_eq_true, hs_all hlt, hc1]
    obtain ⟨r2, hr2, hF⟩ := bindE hF
    refine DoesR_m (call_F_kind_cursor_fails hr2 (hs_get hlt)) ?_
    simp only [go_sem, reduceIte, Nat.reduceEqDiff, Nat.reduceAdd, Nat.reduceLeDiff, Nat.reduceLT, Nat.reduceSub, Nat.reduceBEq, ne_eq, not_false_eq_true, hs_all hlt, hc1]
    exact t_F_kind_cursor_part_15 _ _ _ hF _ _ _ _ hlt
  · simp only [go_sem, reduceIte, Nat.reduceEqDiff, Nat.reduceAdd, Nat.reduceLeDiff, Nat.reduceLT, Nat.reduceSub, Nat.reduceBEq, ne_eq, not_false_eq_true, hs_all hlt, hc1]
    obtain ⟨x16, hx16, hF⟩ := bindE hF
    refine DoesO_m (hx16) ?_
    simp only [go_sem, reduceIte, Nat.reduceEqDiff, Nat.reduceAdd, Nat.reduceLeDiff, Nat.reduceLT, Nat.reduceSub, Nat.reduceBEq, ne_eq, not_false_eq_true, hs_all hlt, hc1]
    obtain ⟨r17, hr17, hF⟩ := bindE hF
    refine DoesR_m (call_F_kind_letter hr17) ?_
    simp only [go_sem, reduceIte, Nat.reduceEqDiff, Nat.reduceAdd, Nat.reduceLeDiff, Nat.reduceLT, Nat.reduceSub, Nat.reduceBEq, ne_eq, not_false_eq_true, hs_all hlt, hc1]
    obtain ⟨r18, hr18, hF⟩ := bindE hF
    refine DoesR_m (call_F_kind_cursor_fails hr18 (hs_get hlt)) ?_
    simp only [go_sem, reduceIte, Nat.reduceEqDiff, Nat.reduceAdd, Nat.reduceLeDiff, Nat.reduceLT, Nat.reduceSub, Nat.reduceBEq, ne_eq, not_false_eq_true, hs_all hlt, hc1]
    exact t_F_kind_cursor_part_15 _ _ _ hF _ _ _ _ hlt
theorem call_F_kind_cursor_part {c : Ykind_cursor} {p : List UInt8 × Ykind_cursor} (hx : F_kind_cursor_part c = some p) {h : Heap} {b : Nat} {rest : List AV} {o0 : Bool} (hb : h[b]? = some (.row ((.str c.s) :: (.int .i64 c.at_) :: (.int .i64 c.e_) :: (.sl o0 1 (List.map AV.str c.names)) :: (.int .i64 c.depth) :: rest))) : callA (Run T0 N_kind_cursor_part) [.ptr b 0] h = some ((.str p.1), h.set b (.row ((.str p.2.s) :: (.int .i64 p.2.at_) :: (.int .i64 p.2.e_) :: (.sl o0 1 (List.map AV.str p.2.names)) :: (.int .i64 p.2.depth) :: rest))) :=
  callA_ptr (by simp only [go_sem]) hb (fun H hH => t_F_kind_cursor_part _ _ hx H b rest o0 hH)
end Go.Proofs.YtfihinodhhhllaaGreat
