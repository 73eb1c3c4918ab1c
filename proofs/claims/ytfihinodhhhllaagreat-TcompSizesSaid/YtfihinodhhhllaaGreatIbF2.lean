/- The functions as plain functions, and that the runs come to their answers; printed by lift.py. -/
import Derived.Test.YtfihinodhhhllaaGreatIbH
import Derived.Test.YtfihinodhhhllaaGreatIbF1
set_option linter.unusedVariables false
set_option linter.unusedSimpArgs false
namespace Go.Proofs.YtfihinodhhhllaaGreat
open Go
def F_kind_Head (t : List UInt8) : Option (Int × List UInt8 × List UInt8 × List UInt8 × Int) :=
  F_kind_read t >>= fun r1 =>
  if (r1.1.e_ != (0 : Int)) = true then (
    some (0, [], [], [], r1.1.e_)
  ) else
  if (r1.2.1 == (0 : Int)) = true then (
    some (0, t, [], [], 0)
  ) else
  if ((r1.2.2.length : Int) == (0 : Int)) = true then (
    some (r1.2.1, [], [], [], 0)
  ) else
  F_strings_IndexByte t (60 : UInt8) >>= fun r5 =>
  lidx r1.2.2 0 >>= fun x6 =>
  subl t (iadd .i64 r5 1) x6 >>= fun x7 =>
  if ((r1.2.2.length : Int) == (2 : Int)) = true then (
    lidx r1.2.2 0 >>= fun x9 =>
    lidx r1.2.2 1 >>= fun x10 =>
    subl t (iadd .i64 x9 1) x10 >>= fun x11 =>
    some (r1.2.1, [], x7, x11, 0)
  ) else
  some (r1.2.1, [], x7, [], 0)
set_option maxHeartbeats 4000000 in
theorem t_F_kind_Head : ∀ (t : List UInt8) (p : Int × List UInt8 × List UInt8 × List UInt8 × Int), F_kind_Head t = some p → ∀ (h : Heap), Run T0 N_kind_Head [.str t] h = some ((.tup [.int .i64 p.1, .str p.2.1, .str p.2.2.1, .str p.2.2.2.1, .int .i64 p.2.2.2.2]), h) := by
  intro t p hF
  unfold F_kind_Head at hF
  intro h
  refine run_ofK at_kind_Head (n := h.length) rfl ?_
  simp only [go_sem, reduceIte, Nat.reduceEqDiff, Nat.reduceAdd, Nat.reduceLeDiff, Nat.reduceLT, Nat.reduceSub, Nat.reduceBEq, ne_eq, not_false_eq_true]
  obtain ⟨r1, hr1, hF⟩ := bindE hF
  refine DoesR_m (call_F_kind_read hr1) ?_
  simp only [go_sem, reduceIte, Nat.reduceEqDiff, Nat.reduceAdd, Nat.reduceLeDiff, Nat.reduceLT, Nat.reduceSub, Nat.reduceBEq, ne_eq, not_false_eq_true]
  rcases iteE hF with ⟨hc2, hF⟩ | ⟨hc2, hF⟩
  · simp only [go_sem, reduceIte, Nat.reduceEqDiff, Nat.reduceAdd, Nat.reduceLeDiff, Nat.reduceLT, Nat.reduceSub, Nat.reduceBEq, ne_eq, not_false_eq_true, hc2]
    all_goals (cases hF; rfl)
  · simp only [go_sem, reduceIte, Nat.reduceEqDiff, Nat.reduceAdd, Nat.reduceLeDiff, Nat.reduceLT, Nat.reduceSub, Nat.reduceBEq, ne_eq, not_false_eq_true, hc2]
    rcases iteE hF with ⟨hc3, hF⟩ | ⟨hc3, hF⟩
    · simp only [go_sem, reduceIte, Nat.reduceEqDiff, Nat.reduceAdd, Nat.reduceLeDiff, Nat.reduceLT, Nat.reduceSub, Nat.reduceBEq, ne_eq, not_false_eq_true, hc2, hc3]
      all_goals (cases hF; rfl)
    · simp only [go_sem, reduceIte, Nat.reduceEqDiff, Nat.reduceAdd, Nat.reduceLeDiff, Nat.reduceLT, Nat.reduceSub, Nat.reduceBEq, ne_eq, not_false_eq_true, hc2, hc3]
      rcases iteE hF with ⟨hc4, hF⟩ | ⟨hc4, hF⟩
      · simp only [go_sem, reduceIte, Nat.reduceEqDiff, Nat.reduceAdd, Nat.reduceLeDiff, Nat.reduceLT, Nat.reduceSub, Nat.reduceBEq, ne_eq, not_false_eq_true, hc2, hc3, hc4]
        all_goals (cases hF; rfl)
      · simp only [go_sem, reduceIte, Nat.reduceEqDiff, Nat.reduceAdd, Nat.reduceLeDiff, Nat.reduceLT, Nat.reduceSub, Nat.reduceBEq, ne_eq, not_false_eq_true, hc2, hc3, hc4]
        obtain ⟨r5, hr5, hF⟩ := bindE hF
        refine DoesR_m (call_F_strings_IndexByte hr5) ?_
        simp only [go_sem, reduceIte, Nat.reduceEqDiff, Nat.reduceAdd, Nat.reduceLeDiff, Nat.reduceLT, Nat.reduceSub, Nat.reduceBEq, ne_eq, not_false_eq_true, hc2, hc3, hc4]
        obtain ⟨x6, hx6, hF⟩ := bindE hF
        refine DoesO_m (lidx_map (AV.int .i64) hx6) ?_
        simp only [go_sem, reduceIte, Nat.reduceEqDiff, Nat.reduceAdd, Nat.reduceLeDiff, Nat.reduceLT, Nat.reduceSub, Nat.reduceBEq, ne_eq, not_false_eq_true, hc2, hc3, hc4]
        obtain ⟨x7, hx7, hF⟩ := bindE hF
        refine DoesO_m (hx7) ?_
        simp only [go_sem, reduceIte, Nat.reduceEqDiff, Nat.reduceAdd, Nat.reduceLeDiff, Nat.reduceLT, Nat.reduceSub, Nat.reduceBEq, ne_eq, not_false_eq_true, hc2, hc3, hc4]
        rcases iteE hF with ⟨hc8, hF⟩ | ⟨hc8, hF⟩
        · simp only [go_sem, reduceIte, Nat.reduceEqDiff, Nat.reduceAdd, Nat.reduceLeDiff, Nat.reduceLT, Nat.reduceSub, Nat.reduceBEq, ne_eq, not_false_eq_true, hc2, hc3, hc4, hc8]
          obtain ⟨x9, hx9, hF⟩ := bindE hF
          refine DoesO_m (lidx_map (AV.int .i64) hx9) ?_
          simp only [go_sem, reduceIte, Nat.reduceEqDiff, Nat.reduceAdd, Nat.reduceLeDiff, Nat.reduceLT, Nat.reduceSub, Nat.reduceBEq, ne_eq, not_false_eq_true, hc2, hc3, hc4, hc8]
          obtain ⟨x10, hx10, hF⟩ := bindE hF
          refine DoesO_m (lidx_map (AV.int .i64) hx10) ?_
          simp only [go_sem, reduceIte, Nat.reduceEqDiff, Nat.reduceAdd, Nat.reduceLeDiff, Nat.reduceLT, Nat.reduceSub, Nat.reduceBEq, ne_eq, not_false_eq_true, hc2, hc3, hc4, hc8]
          obtain ⟨x11, hx11, hF⟩ := bindE hF
          refine DoesO_m (hx11) ?_
          simp only [go_sem, reduceIte, Nat.reduceEqDiff, Nat.reduceAdd, Nat.reduceLeDiff, Nat.reduceLT, Nat.reduceSub, Nat.reduceBEq, ne_eq, not_false_eq_true, hc2, hc3, hc4, hc8]
          all_goals (cases hF; rfl)
        · simp only [go_sem, reduceIte, Nat.reduceEqDiff, Nat.reduceAdd, Nat.reduceLeDiff, Nat.reduceLT, Nat.reduceSub, Nat.reduceBEq, ne_eq, not_false_eq_true, hc2, hc3, hc4, hc8]
          all_goals (cases hF; rfl)
theorem call_F_kind_Head {t : List UInt8} {p : Int × List UInt8 × List UInt8 × List UInt8 × Int} (hx : F_kind_Head t = some p) {h : Heap} : callA (Run T0 N_kind_Head) [.str t] h = some ((.tup [.int .i64 p.1, .str p.2.1, .str p.2.2.1, .str p.2.2.2.1, .int .i64 p.2.2.2.2]), h) :=
  callA_pure (by simp only [go_sem]) (fun H => t_F_kind_Head _ _ hx H)
def F_tcomp_writer_byte (w : Ytcomp_writer) (v_ : Int) : Option (Ytcomp_writer) :=
  appl 1 w.b_ [(u8w v_)] >>= fun x1 =>
  some (⟨w.s, x1⟩ : Ytcomp_writer)
set_option maxHeartbeats 4000000 in
theorem t_F_tcomp_writer_byte : ∀ (w : Ytcomp_writer) (v_ : Int) (p : Ytcomp_writer), F_tcomp_writer_byte w v_ = some p → ∀ (h : Heap) (b : Nat) (rest : List AV) (o0 : Bool) (o1 : Bool) (o2 : Bool) (hlt : b < h.length), Run T0 N_tcomp_writer_byte [.ptr b 0, .int .i64 v_] (h.set b (.row ((.sl o0 3 (List.map YSStruct.av w.s.structs)) :: (.sl o1 2 (List.map YSEnum.av w.s.enums)) :: (.sl o2 2 (List.map YSService.av w.s.services)) :: (.sl true 1 (List.map e8 w.b_)) :: rest))) = some ((.tup []), h.set b (.row ((.sl o0 3 (List.map YSStruct.av p.s.structs)) :: (.sl o1 2 (List.map YSEnum.av p.s.enums)) :: (.sl o2 2 (List.map YSService.av p.s.services)) :: (.sl true 1 (List.map e8 p.b_)) :: rest))) := by
  intro w v_ p hF
  unfold F_tcomp_writer_byte at hF
  intro h b rest o0 o1 o2 hlt
  refine run_ofK at_tcomp_writer_byte (n := h.length) (by simp only [List.length_set]) ?_
  simp only [go_sem, reduceIte, Nat.reduceEqDiff, Nat.reduceAdd, Nat.reduceLeDiff, Nat.reduceLT, Nat.reduceSub, Nat.reduceBEq, ne_eq, not_false_eq_true, hs_all hlt]
  obtain ⟨x1, hx1, hF⟩ := bindE hF
  refine DoesO_m (appl_map e8 hx1) ?_
  simp only [go_sem, reduceIte, Nat.reduceEqDiff, Nat.reduceAdd, Nat.reduceLeDiff, Nat.reduceLT, Nat.reduceSub, Nat.reduceBEq, ne_eq, not_false_eq_true, hs_all hlt]
  all_goals (cases hF; rfl)
theorem call_F_tcomp_writer_byte {w : Ytcomp_writer} {v_ : Int} {p : Ytcomp_writer} (hx : F_tcomp_writer_byte w v_ = some p) {h : Heap} {b : Nat} {rest : List AV} {o0 : Bool} {o1 : Bool} {o2 : Bool} (hb : h[b]? = some (.row ((.sl o0 3 (List.map YSStruct.av w.s.structs)) :: (.sl o1 2 (List.map YSEnum.av w.s.enums)) :: (.sl o2 2 (List.map YSService.av w.s.services)) :: (.sl true 1 (List.map e8 w.b_)) :: rest))) : callA (Run T0 N_tcomp_writer_byte) [.ptr b 0, .int .i64 v_] h = some ((.tup []), h.set b (.row ((.sl o0 3 (List.map YSStruct.av p.s.structs)) :: (.sl o1 2 (List.map YSEnum.av p.s.enums)) :: (.sl o2 2 (List.map YSService.av p.s.services)) :: (.sl true 1 (List.map e8 p.b_)) :: rest))) :=
  callA_ptr (by simp only [go_sem]) hb (fun H hH => t_F_tcomp_writer_byte _ _ _ hx H b rest o0 o1 o2 hH)
def F_zig_Put_10 (v : Int × List UInt8) : Option (List UInt8) :=
  if (decide (v.1 > (127 : Int))) = true then (
    appl 1 v.2 [(u8w (bvor ((u8w v.1).toNat : Int) 128))] >>= fun x3 =>
    ishr .u64 v.1 7 >>= fun x4 =>
    F_zig_Put_10 (x4, x3)
  ) else
  appl 1 v.2 [(u8w v.1)] >>= fun x5 =>
  some x5
  partial_fixpoint
theorem F_zig_Put_10_eq (v_ : Int) (out : List UInt8) : F_zig_Put_10 (v_, out) =
  if (decide (v_ > (127 : Int))) = true then (
    appl 1 out [(u8w (bvor ((u8w v_).toNat : Int) 128))] >>= fun x3 =>
    ishr .u64 v_ 7 >>= fun x4 =>
    F_zig_Put_10 (x4, x3)
  ) else
  appl 1 out [(u8w v_)] >>= fun x5 =>
  some x5 := F_zig_Put_10.eq_1 (v_, out)
def M_F_zig_Put_10 (v : Int × List UInt8) (p : List UInt8) : Prop := ∀ (h : Heap), Does T0 C162_10 (aft T0 (EndQ true [.tmp 4] h.length (.sl true 1 (List.map e8 p)) (h)) [.gc h.length, .lp C162_11, .blk 0, .seq C162_15]) .mk .mk [(1, .int .u64 v.1), (5, .sl true 1 (List.map e8 v.2))] h
set_option maxHeartbeats 4000000 in
theorem st_F_zig_Put_10 (f_F_zig_Put_10 : (Int × List UInt8) → Option (List UInt8)) (ih_F_zig_Put_10 : ∀ v p, f_F_zig_Put_10 v = some p → M_F_zig_Put_10 v p) (v : Int × List UInt8) (p : List UInt8) (hF : (
  if (decide (v.1 > (127 : Int))) = true then (
    appl 1 v.2 [(u8w (bvor ((u8w v.1).toNat : Int) 128))] >>= fun x3 =>
    ishr .u64 v.1 7 >>= fun x4 =>
    f_F_zig_Put_10 (x4, x3)
  ) else
  appl 1 v.2 [(u8w v.1)] >>= fun x5 =>
  some x5) = some p) : M_F_zig_Put_10 v p := by
  intro h
  unfold C162_10
  simp only [go_sem, reduceIte, Nat.reduceEqDiff, Nat.reduceAdd, Nat.reduceLeDiff, Nat.reduceLT, Nat.reduceSub, Nat.reduceBEq, ne_eq, not_false_eq_true]
  rcases iteE hF with ⟨hc2, hF⟩ | ⟨hc2, hF⟩
  · simp only [go_sem, reduceIte, Nat.reduceEqDiff, Nat.reduceAdd, Nat.reduceLeDiff, Nat.reduceLT, Nat.reduceSub, Nat.reduceBEq, ne_eq, not_false_eq_true, hc2]
    obtain ⟨x3, hx3, hF⟩ := bindE hF
    refine DoesO_m (appl_map e8 hx3) ?_
    simp only [go_sem, reduceIte, Nat.reduceEqDiff, Nat.reduceAdd, Nat.reduceLeDiff, Nat.reduceLT, Nat.reduceSub, Nat.reduceBEq, ne_eq, not_false_eq_true, hc2]
    obtain ⟨x4, hx4, hF⟩ := bindE hF
    refine DoesO_m (hx4) ?_
    simp only [go_sem, reduceIte, Nat.reduceEqDiff, Nat.reduceAdd, Nat.reduceLeDiff, Nat.reduceLT, Nat.reduceSub, Nat.reduceBEq, ne_eq, not_false_eq_true, hc2]
    exact ih_F_zig_Put_10 _ _ hF _
  · simp only [go_sem, reduceIte, Nat.reduceEqDiff, Nat.reduceAdd, Nat.reduceLeDiff, Nat.reduceLT, Nat.reduceSub, Nat.reduceBEq, ne_eq, not_false_eq_true, hc2]
    obtain ⟨x5, hx5, hF⟩ := bindE hF
    refine DoesO_m (appl_map e8 hx5) ?_
    simp only [go_sem, reduceIte, Nat.reduceEqDiff, Nat.reduceAdd, Nat.reduceLeDiff, Nat.reduceLT, Nat.reduceSub, Nat.reduceBEq, ne_eq, not_false_eq_true, hc2]
    all_goals (cases hF; rfl)
theorem t_F_zig_Put_10 : ∀ v p, F_zig_Put_10 v = some p → M_F_zig_Put_10 v p := F_zig_Put_10.partial_correctness M_F_zig_Put_10 (fun f0 i0 v p hF => st_F_zig_Put_10 f0 i0 v p hF)
def F_zig_Put (b_ : List UInt8) (v_ : Int) : Option (List UInt8) :=
  F_slices_Clone_byte_byte b_ >>= fun r1 =>
  F_zig_Put_10 (v_, r1)
set_option maxHeartbeats 4000000 in
theorem t_F_zig_Put : ∀ (b_ : List UInt8) (v_ : Int) (p : List UInt8), F_zig_Put b_ v_ = some p → ∀ (h : Heap), Run T0 N_zig_Put [.sl false 1 (List.map e8 b_), .int .u64 v_] h = some ((.sl true 1 (List.map e8 p)), h) := by
  intro b_ v_ p hF
  unfold F_zig_Put at hF
  intro h
  refine run_ofK at_zig_Put (n := h.length) rfl ?_
  simp only [go_sem, reduceIte, Nat.reduceEqDiff, Nat.reduceAdd, Nat.reduceLeDiff, Nat.reduceLT, Nat.reduceSub, Nat.reduceBEq, ne_eq, not_false_eq_true]
  obtain ⟨r1, hr1, hF⟩ := bindE hF
  refine DoesR_m (call_F_slices_Clone_byte_byte hr1) ?_
  simp only [go_sem, reduceIte, Nat.reduceEqDiff, Nat.reduceAdd, Nat.reduceLeDiff, Nat.reduceLT, Nat.reduceSub, Nat.reduceBEq, ne_eq, not_false_eq_true]
  exact t_F_zig_Put_10 _ _ hF _
theorem call_F_zig_Put {b_ : List UInt8} {v_ : Int} {p : List UInt8} (hx : F_zig_Put b_ v_ = some p) {h : Heap} : callA (Run T0 N_zig_Put) [.sl false 1 (List.map e8 b_), .int .u64 v_] h = some ((.sl true 1 (List.map e8 p)), h) :=
  callA_pure (by simp only [go_sem]) (fun H => t_F_zig_Put _ _ _ hx H)
def F_tcomp_writer_num (w : Ytcomp_writer) (v_ : Int) : Option (Ytcomp_writer) :=
  F_zig_Put w.b_ v_ >>= fun r1 =>
  some (⟨w.s, r1⟩ : Ytcomp_writer)
set_option maxHeartbeats 4000000 in
theorem t_F_tcomp_writer_num : ∀ (w : Ytcomp_writer) (v_ : Int) (p : Ytcomp_writer), F_tcomp_writer_num w v_ = some p → ∀ (h : Heap) (b : Nat) (rest : List AV) (o0 : Bool) (o1 : Bool) (o2 : Bool) (o3 : Bool) (hlt : b < h.length), Run T0 N_tcomp_writer_num [.ptr b 0, .int .u64 v_] (h.set b (.row ((.sl o0 3 (List.map YSStruct.av w.s.structs)) :: (.sl o1 2 (List.map YSEnum.av w.s.enums)) :: (.sl o2 2 (List.map YSService.av w.s.services)) :: (.sl o3 1 (List.map e8 w.b_)) :: rest))) = some ((.tup []), h.set b (.row ((.sl o0 3 (List.map YSStruct.av p.s.structs)) :: (.sl o1 2 (List.map YSEnum.av p.s.enums)) :: (.sl o2 2 (List.map YSService.av p.s.services)) :: (.sl true 1 (List.map e8 p.b_)) :: rest))) := by
  intro w v_ p hF
  unfold F_tcomp_writer_num at hF
  intro h b rest o0 o1 o2 o3 hlt
  refine run_ofK at_tcomp_writer_num (n := h.length) (by simp only [List.length_set]) ?_
  simp only [go_sem, reduceIte, Nat.reduceEqDiff, Nat.reduceAdd, Nat.reduceLeDiff, Nat.reduceLT, Nat.reduceSub, Nat.reduceBEq, ne_eq, not_false_eq_true, hs_all hlt]
  obtain ⟨r1, hr1, hF⟩ := bindE hF
  refine DoesR_m (call_F_zig_Put hr1) ?_
  simp only [go_sem, reduceIte, Nat.reduceEqDiff, Nat.reduceAdd, Nat.reduceLeDiff, Nat.reduceLT, Nat.reduceSub, Nat.reduceBEq, ne_eq, not_false_eq_true, hs_all hlt]
  all_goals (cases hF; rfl)
theorem call_F_tcomp_writer_num {w : Ytcomp_writer} {v_ : Int} {p : Ytcomp_writer} (hx : F_tcomp_writer_num w v_ = some p) {h : Heap} {b : Nat} {rest : List AV} {o0 : Bool} {o1 : Bool} {o2 : Bool} {o3 : Bool} (hb : h[b]? = some (.row ((.sl o0 3 (List.map YSStruct.av w.s.structs)) :: (.sl o1 2 (List.map YSEnum.av w.s.enums)) :: (.sl o2 2 (List.map YSService.av w.s.services)) :: (.sl o3 1 (List.map e8 w.b_)) :: rest))) : callA (Run T0 N_tcomp_writer_num) [.ptr b 0, .int .u64 v_] h = some ((.tup []), h.set b (.row ((.sl o0 3 (List.map YSStruct.av p.s.structs)) :: (.sl o1 2 (List.map YSEnum.av p.s.enums)) :: (.sl o2 2 (List.map YSService.av p.s.services)) :: (.sl true 1 (List.map e8 p.b_)) :: rest))) :=
  callA_ptr (by simp only [go_sem]) hb (fun H hH => t_F_tcomp_writer_num _ _ _ hx H b rest o0 o1 o2 o3 hH)
def F_tcomp_writer_value_30 (v : Int × Ytcomp_writer × YValue) : Option (Ytcomp_writer) :=
  if (decide (v.1 < (8 : Int))) = true then (
    ishr .u64 (IntKind.u64.wrap v.2.2.n_) (imul .i64 8 v.1) >>= fun x16 =>
    F_tcomp_writer_byte v.2.1 (IntKind.i64.wrap (iand .u64 x16 255)) >>= fun r17 =>
    F_tcomp_writer_value_30 ((iadd .i64 v.1 1), r17, v.2.2)
  ) else
  some v.2.1
  partial_fixpoint
theorem F_tcomp_writer_value_30_eq (t76 : Int) (w : Ytcomp_writer) (bx0 : YValue) : F_tcomp_writer_value_30 (t76, w, bx0) =
  if (decide (t76 < (8 : Int))) = true then (
    ishr .u64 (IntKind.u64.wrap bx0.n_) (imul .i64 8 t76) >>= fun x16 =>
    F_tcomp_writer_byte w (IntKind.i64.wrap (iand .u64 x16 255)) >>= fun r17 =>
    F_tcomp_writer_value_30 ((iadd .i64 t76 1), r17, bx0)
  ) else
  some w := F_tcomp_writer_value_30.eq_1 (t76, w, bx0)
def M_F_tcomp_writer_value_30 (v : Int × Ytcomp_writer × YValue) (p : Ytcomp_writer) : Prop := ∀ (h : Heap) (b : Nat) (rest : List AV) (o0 : Bool) (o1 : Bool) (o2 : Bool) (hlt : b < h.length), Does T0 C40_30 (aft T0 (EndQ false [] h.length (.tup []) (h.set b (.row ((.sl o0 3 (List.map YSStruct.av p.s.structs)) :: (.sl o1 2 (List.map YSEnum.av p.s.enums)) :: (.sl o2 2 (List.map YSService.av p.s.services)) :: (.sl true 1 (List.map e8 p.b_)) :: rest)))) [.gc (h.length + 1), .lp C40_31, .blk 1, .blk 0]) .mk .mk [(0, .ptr b 0), (5, .ptr h.length 0), (76, .int .i64 v.1)] ((h.set b (.row ((.sl o0 3 (List.map YSStruct.av v.2.1.s.structs)) :: (.sl o1 2 (List.map YSEnum.av v.2.1.s.enums)) :: (.sl o2 2 (List.map YSService.av v.2.1.s.services)) :: (.sl true 1 (List.map e8 v.2.1.b_)) :: rest))) ++ [.row [.int .i64 v.2.2.kind, .int .i64 v.2.2.n_, .str v.2.2.s, .sl false 5 (List.map YValue.av v.2.2.l), .sl false 1 (List.map (AV.int .i64) v.2.2.iDs)]])
set_option maxHeartbeats 4000000 in
theorem st_F_tcomp_writer_value_30 (f_F_tcomp_writer_value_30 : (Int × Ytcomp_writer × YValue) → Option (Ytcomp_writer)) (ih_F_tcomp_writer_value_30 : ∀ v p, f_F_tcomp_writer_value_30 v = some p → M_F_tcomp_writer_value_30 v p) (v : Int × Ytcomp_writer × YValue) (p : Ytcomp_writer) (hF : (
  if (decide (v.1 < (8 : Int))) = true then (
    ishr .u64 (IntKind.u64.wrap v.2.2.n_) (imul .i64 8 v.1) >>= fun x16 =>
    F_tcomp_writer_byte v.2.1 (IntKind.i64.wrap (iand .u64 x16 255)) >>= fun r17 =>
    f_F_tcomp_writer_value_30 ((iadd .i64 v.1 1), r17, v.2.2)
  ) else
  some v.2.1) = some p) : M_F_tcomp_writer_value_30 v p := by
  intro h b rest o0 o1 o2 hlt
  unfold C40_30
  simp only [go_sem, reduceIte, Nat.reduceEqDiff, Nat.reduceAdd, Nat.reduceLeDiff, Nat.reduceLT, Nat.reduceSub, Nat.reduceBEq, ne_eq, not_false_eq_true, hs_all hlt]
  rcases iteE hF with ⟨hc15, hF⟩ | ⟨hc15, hF⟩
  · simp only [go_sem, reduceIte, Nat.reduceEqDiff, Nat.reduceAdd, Nat.reduceLeDiff, Nat.reduceLT, Nat.reduceSub, Nat.reduceBEq, ne_eq, not_false_eq_true, hs_all hlt, hc15]
    obtain ⟨x16, hx16, hF⟩ := bindE hF
    refine DoesO_m (hx16) ?_
    simp only [go_sem, reduceIte, Nat.reduceEqDiff, Nat.reduceAdd, Nat.reduceLeDiff, Nat.reduceLT, Nat.reduceSub, Nat.reduceBEq, ne_eq, not_false_eq_true, hs_all hlt, hc15]
    obtain ⟨r17, hr17, hF⟩ := bindE hF
    refine DoesR_m (call_F_tcomp_writer_byte hr17 (hs_getL hlt)) ?_
    simp only [go_sem, reduceIte, Nat.reduceEqDiff, Nat.reduceAdd, Nat.reduceLeDiff, Nat.reduceLT, Nat.reduceSub, Nat.reduceBEq, ne_eq, not_false_eq_true, hs_all hlt, hc15]
    exact ih_F_tcomp_writer_value_30 _ _ hF _ _ _ _ _ _ hlt
  · simp only [go_sem, reduceIte, Nat.reduceEqDiff, Nat.reduceAdd, Nat.reduceLeDiff, Nat.reduceLT, Nat.reduceSub, Nat.reduceBEq, ne_eq, not_false_eq_true, hs_all hlt, hc15]
    all_goals (cases hF; rfl)
theorem t_F_tcomp_writer_value_30 : ∀ v p, F_tcomp_writer_value_30 v = some p → M_F_tcomp_writer_value_30 v p := F_tcomp_writer_value_30.partial_correctness M_F_tcomp_writer_value_30 (fun f0 i0 v p hF => st_F_tcomp_writer_value_30 f0 i0 v p hF)
def F_tcomp_Short_50 (t3 : Int) (t17 : Bool) : Option (Int) :=
  if t17 = true then (
    some 8
  ) else
  if (t3 == (15 : Int)) = true then (
    some 9
  ) else
  if (t3 == (14 : Int)) = true then (
    some 10
  ) else
  if (t3 == (13 : Int)) = true then (
    some 11
  ) else
  if (t3 == (12 : Int)) = true then (
    some 12
  ) else
  some 0
set_option maxHeartbeats 4000000 in
theorem t_F_tcomp_Short_50 : ∀ (t3 : Int) (t17 : Bool) (p : Int), F_tcomp_Short_50 t3 t17 = some p → ∀ (h : Heap), Does T0 C38_50 (aft T0 (EndQ false [.tmp 2] h.length (.int .i64 p) (h)) [.blk 0, .seq C38_69]) .mk .mk [(3, .int .i64 t3), (17, .bool t17)] h := by
  intro t3 t17 p hF
  unfold F_tcomp_Short_50 at hF
  intro h
  unfold C38_50
  simp only [go_sem, reduceIte, Nat.reduceEqDiff, Nat.reduceAdd, Nat.reduceLeDiff, Nat.reduceLT, Nat.reduceSub, Nat.reduceBEq, ne_eq, not_false_eq_true]
  rcases iteE hF with ⟨hc9, hF⟩ | ⟨hc9, hF⟩
  · simp only [go_sem, reduceIte, Nat.reduceEqDiff, Nat.reduceAdd, Nat.reduceLeDiff, Nat.reduceLT, Nat.reduceSub, Nat.reduceBEq, ne_eq, not_false_eq_true, hc9]
    all_goals (cases hF; rfl)
  · simp only [go_sem, reduceIte, Nat.reduceEqDiff, Nat.reduceAdd, Nat.reduceLeDiff, Nat.reduceLT, Nat.reduceSub, Nat.reduceBEq, ne_eq, not_false_eq_true, hc9]
    rcases iteE hF with ⟨hc10, hF⟩ | ⟨hc10, hF⟩
    · simp only [go_sem, reduceIte, Nat.reduceEqDiff, Nat.reduceAdd, Nat.reduceLeDiff, Nat.reduceLT, Nat.reduceSub, Nat.reduceBEq, ne_eq, not_false_eq_true, hc9, hc10]
      all_goals (cases hF; rfl)
    · simp only [go_sem, reduceIte, Nat.reduceEqDiff, Nat.reduceAdd, Nat.reduceLeDiff, Nat.reduceLT, Nat.reduceSub, Nat.reduceBEq, ne_eq, not_false_eq_true, hc9, hc10]
      rcases iteE hF with ⟨hc11, hF⟩ | ⟨hc11, hF⟩
      · simp only [go_sem, reduceIte, Nat.reduceEqDiff, Nat.reduceAdd, Nat.reduceLeDiff, Nat.reduceLT, Nat.reduceSub, Nat.reduceBEq, ne_eq, not_false_eq_true, hc9, hc10, hc11]
        all_goals (cases hF; rfl)
      · simp only [go_sem, reduceIte, Nat.reduceEqDiff, Nat.reduceAdd, Nat.reduceLeDiff, Nat.reduceLT, Nat.reduceSub, Nat.reduceBEq, ne_eq, not_false_eq_true, hc9, hc10, hc11]
        rcases iteE hF with ⟨hc12, hF⟩ | ⟨hc12, hF⟩
        · simp only [go_sem, reduceIte, Nat.reduceEqDiff, Nat.reduceAdd, Nat.reduceLeDiff, Nat.reduceLT, Nat.reduceSub, Nat.reduceBEq, ne_eq, not_false_eq_true, hc9, hc10, hc11, hc12]
          all_goals (cases hF; rfl)
        · simp only [go_sem, reduceIte, Nat.reduceEqDiff, Nat.reduceAdd, Nat.reduceLeDiff, Nat.reduceLT, Nat.reduceSub, Nat.reduceBEq, ne_eq, not_false_eq_true, hc9, hc10, hc11, hc12]
          rcases iteE hF with ⟨hc13, hF⟩ | ⟨hc13, hF⟩
          · simp only [go_sem, reduceIte, Nat.reduceEqDiff, Nat.reduceAdd, Nat.reduceLeDiff, Nat.reduceLT, Nat.reduceSub, Nat.reduceBEq, ne_eq, not_false_eq_true, hc9, hc10, hc11, hc12, hc13]
            all_goals (cases hF; rfl)
          · simp only [go_sem, reduceIte, Nat.reduceEqDiff, Nat.reduceAdd, Nat.reduceLeDiff, Nat.reduceLT, Nat.reduceSub, Nat.reduceBEq, ne_eq, not_false_eq_true, hc9, hc10, hc11, hc12, hc13]
            all_goals (cases hF; rfl)
def F_tcomp_Short_57 (t3 : Int) (t10 : Bool) : Option (Int) :=
  if t10 = true then (
    some 5
  ) else
  if (t3 == (10 : Int)) = true then (
    some 6
  ) else
  if (t3 == (4 : Int)) = true then (
    some 7
  ) else
  if (t3 == (11 : Int)) = true then (
    F_tcomp_Short_50 t3 true
  ) else
  F_tcomp_Short_50 t3 (t3 == (16 : Int))
set_option maxHeartbeats 4000000 in
theorem t_F_tcomp_Short_57 : ∀ (t3 : Int) (t10 : Bool) (p : Int), F_tcomp_Short_57 t3 t10 = some p → ∀ (h : Heap), Does T0 C38_57 (aft T0 (EndQ false [.tmp 2] h.length (.int .i64 p) (h)) [.blk 0, .seq C38_69]) .mk .mk [(3, .int .i64 t3), (10, .bool t10)] h := by
  intro t3 t10 p hF
  unfold F_tcomp_Short_57 at hF
  intro h
  unfold C38_57
  simp only [go_sem, reduceIte, Nat.reduceEqDiff, Nat.reduceAdd, Nat.reduceLeDiff, Nat.reduceLT, Nat.reduceSub, Nat.reduceBEq, ne_eq, not_false_eq_true]
  rcases iteE hF with ⟨hc5, hF⟩ | ⟨hc5, hF⟩
  · simp only [go_sem, reduceIte, Nat.reduceEqDiff, Nat.reduceAdd, Nat.reduceLeDiff, Nat.reduceLT, Nat.reduceSub, Nat.reduceBEq, ne_eq, not_false_eq_true, hc5]
    all_goals (cases hF; rfl)
  · simp only [go_sem, reduceIte, Nat.reduceEqDiff, Nat.reduceAdd, Nat.reduceLeDiff, Nat.reduceLT, Nat.reduceSub, Nat.reduceBEq, ne_eq, not_false_eq_true, hc5]
    rcases iteE hF with ⟨hc6, hF⟩ | ⟨hc6, hF⟩
    · simp only [go_sem, reduceIte, Nat.reduceEqDiff, Nat.reduceAdd, Nat.reduceLeDiff, Nat.reduceLT, Nat.reduceSub, Nat.reduceBEq, ne_eq, not_false_eq_true, hc5, hc6]
      all_goals (cases hF; rfl)
    · simp only [go_sem, reduceIte, Nat.reduceEqDiff, Nat.reduceAdd, Nat.reduceLeDiff, Nat.reduceLT, Nat.reduceSub, Nat.reduceBEq, ne_eq, not_false_eq_true, hc5, hc6]
      rcases iteE hF with ⟨hc7, hF⟩ | ⟨hc7, hF⟩
      · simp only [go_sem, reduceIte, Nat.reduceEqDiff, Nat.reduceAdd, Nat.reduceLeDiff, Nat.reduceLT, Nat.reduceSub, Nat.reduceBEq, ne_eq, not_false_eq_true, hc5, hc6, hc7]
        all_goals (cases hF; rfl)
      · simp only [go_sem, reduceIte, Nat.reduceEqDiff, Nat.reduceAdd, Nat.reduceLeDiff, Nat.reduceLT, Nat.reduceSub, Nat.reduceBEq, ne_eq, not_false_eq_true, hc5, hc6, hc7]
        rcases iteE hF with ⟨hc8, hF⟩ | ⟨hc8, hF⟩
        · simp only [go_sem, reduceIte, Nat.reduceEqDiff, Nat.reduceAdd, Nat.reduceLeDiff, Nat.reduceLT, Nat.reduceSub, Nat.reduceBEq, ne_eq, not_false_eq_true, hc5, hc6, hc7, hc8]
          exact t_F_tcomp_Short_50 _ _ _ hF _
        · simp only [go_sem, reduceIte, Nat.reduceEqDiff, Nat.reduceAdd, Nat.reduceLeDiff, Nat.reduceLT, Nat.reduceSub, Nat.reduceBEq, ne_eq, not_false_eq_true, hc5, hc6, hc7, hc8]
          exact t_F_tcomp_Short_50 _ _ _ hF _
def F_tcomp_Short (kind : Int) : Option (Int) :=
  if (kind == (2 : Int)) = true then (
    some 1
  ) else
  if (kind == (3 : Int)) = true then (
    some 3
  ) else
  if (kind == (6 : Int)) = true then (
    some 4
  ) else
  if (kind == (8 : Int)) = true then (
    F_tcomp_Short_57 kind true
  ) else
  F_tcomp_Short_57 kind (kind == (17 : Int))
set_option maxHeartbeats 4000000 in
theorem t_F_tcomp_Short : ∀ (kind : Int) (p : Int), F_tcomp_Short kind = some p → ∀ (h : Heap), Run T0 N_tcomp_Short [.int .i64 kind] h = some ((.int .i64 p), h) := by
  intro kind p hF
  unfold F_tcomp_Short at hF
  intro h
  refine run_ofK at_tcomp_Short (n := h.length) rfl ?_
  simp only [go_sem, reduceIte, Nat.reduceEqDiff, Nat.reduceAdd, Nat.reduceLeDiff, Nat.reduceLT, Nat.reduceSub, Nat.reduceBEq, ne_eq, not_false_eq_true]
  rcases iteE hF with ⟨hc1, hF⟩ | ⟨hc1, hF⟩
  · simp only [go_sem, reduceIte, Nat.reduceEqDiff, Nat.reduceAdd, Nat.reduceLeDiff, Nat.reduceLT, Nat.reduceSub, Nat.reduceBEq, ne_eq, not_false_eq_true, hc1]
    all_goals (cases hF; rfl)
  · simp only [go_sem, reduceIte, Nat.reduceEqDiff, Nat.reduceAdd, Nat.reduceLeDiff, Nat.reduceLT, Nat.reduceSub, Nat.reduceBEq, ne_eq, not_false_eq_true, hc1]
    rcases iteE hF with ⟨hc2, hF⟩ | ⟨hc2, hF⟩
    · simp only [go_sem, reduceIte, Nat.reduceEqDiff, Nat.reduceAdd, Nat.reduceLeDiff, Nat.reduceLT, Nat.reduceSub, Nat.reduceBEq, ne_eq, not_false_eq_true, hc1, hc2]
      all_goals (cases hF; rfl)
    · simp only [go_sem, reduceIte, Nat.reduceEqDiff, Nat.reduceAdd, Nat.reduceLeDiff, Nat.reduceLT, Nat.reduceSub, Nat.reduceBEq, ne_eq, not_false_eq_true, hc1, hc2]
      rcases iteE hF with ⟨hc3, hF⟩ | ⟨hc3, hF⟩
      · simp only [go_sem, reduceIte, Nat.reduceEqDiff, Nat.reduceAdd, Nat.reduceLeDiff, Nat.reduceLT, Nat.reduceSub, Nat.reduceBEq, ne_eq, not_false_eq_true, hc1, hc2, hc3]
        all_goals (cases hF; rfl)
      · simp only [go_sem, reduceIte, Nat.reduceEqDiff, Nat.reduceAdd, Nat.reduceLeDiff, Nat.reduceLT, Nat.reduceSub, Nat.reduceBEq, ne_eq, not_false_eq_true, hc1, hc2, hc3]
        rcases iteE hF with ⟨hc4, hF⟩ | ⟨hc4, hF⟩
        · simp only [go_sem, reduceIte, Nat.reduceEqDiff, Nat.reduceAdd, Nat.reduceLeDiff, Nat.reduceLT, Nat.reduceSub, Nat.reduceBEq, ne_eq, not_false_eq_true, hc1, hc2, hc3, hc4]
          exact t_F_tcomp_Short_57 _ _ _ hF _
        · simp only [go_sem, reduceIte, Nat.reduceEqDiff, Nat.reduceAdd, Nat.reduceLeDiff, Nat.reduceLT, Nat.reduceSub, Nat.reduceBEq, ne_eq, not_false_eq_true, hc1, hc2, hc3, hc4]
          exact t_F_tcomp_Short_57 _ _ _ hF _
theorem call_F_tcomp_Short {kind : Int} {p : Int} (hx : F_tcomp_Short kind = some p) {h : Heap} : callA (Run T0 N_tcomp_Short) [.int .i64 kind] h = some ((.int .i64 p), h) :=
  callA_pure (by simp only [go_sem]) (fun H => t_F_tcomp_Short _ _ hx H)
def F_zig_Zig32 (v_ : Int) : Option (Int) :=
  ishl .u32 (IntKind.u32.wrap v_) 1 >>= fun x1 =>
  ishr .i32 v_ 31 >>= fun x2 =>
  some (ixor .u32 x1 (IntKind.u32.wrap x2))
set_option maxHeartbeats 4000000 in
theorem t_F_zig_Zig32 : ∀ (v_ : Int) (p : Int), F_zig_Zig32 v_ = some p → ∀ (h : Heap), Run T0 N_zig_Zig32 [.int .i32 v_] h = some ((.int .u32 p), h) := by
  intro v_ p hF
  unfold F_zig_Zig32 at hF
  intro h
  refine run_ofK at_zig_Zig32 (n := h.length) rfl ?_
  simp only [go_sem, reduceIte, Nat.reduceEqDiff, Nat.reduceAdd, Nat.reduceLeDiff, Nat.reduceLT, Nat.reduceSub, Nat.reduceBEq, ne_eq, not_false_eq_true]
  obtain ⟨x1, hx1, hF⟩ := bindE hF
  refine DoesO_m (hx1) ?_
  simp only [go_sem, reduceIte, Nat.reduceEqDiff, Nat.reduceAdd, Nat.reduceLeDiff, Nat.reduceLT, Nat.reduceSub, Nat.reduceBEq, ne_eq, not_false_eq_true]
  obtain ⟨x2, hx2, hF⟩ := bindE hF
  refine DoesO_m (hx2) ?_
  simp only [go_sem, reduceIte, Nat.reduceEqDiff, Nat.reduceAdd, Nat.reduceLeDiff, Nat.reduceLT, Nat.reduceSub, Nat.reduceBEq, ne_eq, not_false_eq_true]
  all_goals (cases hF; rfl)
theorem call_F_zig_Zig32 {v_ : Int} {p : Int} (hx : F_zig_Zig32 v_ = some p) {h : Heap} : callA (Run T0 N_zig_Zig32) [.int .i32 v_] h = some ((.int .u32 p), h) :=
  callA_pure (by simp only [go_sem]) (fun H => t_F_zig_Zig32 _ _ hx H)
def F_slices_IndexFunc_api_SField_api_SField_16 (v : List YSField × (YSField → Option Bool) × Int × Int) : Option (Int) :=
  if (decide (v.2.2.2 < v.2.2.1)) = true then (
    lidx v.1 v.2.2.2 >>= fun x2 =>
    v.2.1 x2 >>= fun r3 =>
    if r3 = true then (
      some v.2.2.2
    ) else
    F_slices_IndexFunc_api_SField_api_SField_16 (v.1, v.2.1, v.2.2.1, (iadd .i64 v.2.2.2 1))
  ) else
  some (-1)
  partial_fixpoint
theorem F_slices_IndexFunc_api_SField_api_SField_16_eq (s : List YSField) (f : (YSField → Option Bool)) (t7 : Int) (t8 : Int) : F_slices_IndexFunc_api_SField_api_SField_16 (s, f, t7, t8) =
  if (decide (t8 < t7)) = true then (
    lidx s t8 >>= fun x2 =>
    f x2 >>= fun r3 =>
    if r3 = true then (
      some t8
    ) else
    F_slices_IndexFunc_api_SField_api_SField_16 (s, f, t7, (iadd .i64 t8 1))
  ) else
  some (-1) := F_slices_IndexFunc_api_SField_api_SField_16.eq_1 (s, f, t7, t8)
def M_F_slices_IndexFunc_api_SField_api_SField_16 (v : List YSField × (YSField → Option Bool) × Int × Int) (p : Int) : Prop := ∀ (h : Heap) (g_f : Nat) (caps_f : List AV) (hp_f : ∀ (l : Heap) (x0 : YSField) (r : Bool), v.2.1 x0 = some r → callA (Run T0 g_f) ([.agg [.int .i64 x0.iD, .int .i64 x0.req, .str x0.type_, .str x0.name, .bool x0.hasInit, .int .i64 x0.init.kind, .int .i64 x0.init.n_, .str x0.init.s, .sl false 5 (List.map YValue.av x0.init.l), .sl false 1 (List.map (AV.int .i64) x0.init.iDs)]] ++ AV.eraseL caps_f) (h ++ l) = some (.bool r, h ++ l)), Does T0 C143_16 (aft T0 (EndQ false [.tmp 4] h.length (.int .i64 p) (h)) [.gc h.length, .lp C143_17, .blk 0, .seq C143_22]) .mk .mk [(0, .sl false 10 (List.map YSField.av v.1)), (1, .fn g_f caps_f), (7, .int .i64 v.2.2.1), (8, .int .i64 v.2.2.2)] h
set_option maxHeartbeats 4000000 in
theorem st_F_slices_IndexFunc_api_SField_api_SField_16 (f_F_slices_IndexFunc_api_SField_api_SField_16 : (List YSField × (YSField → Option Bool) × Int × Int) → Option (Int)) (ih_F_slices_IndexFunc_api_SField_api_SField_16 : ∀ v p, f_F_slices_IndexFunc_api_SField_api_SField_16 v = some p → M_F_slices_IndexFunc_api_SField_api_SField_16 v p) (v : List YSField × (YSField → Option Bool) × Int × Int) (p : Int) (hF : (
  if (decide (v.2.2.2 < v.2.2.1)) = true then (
    lidx v.1 v.2.2.2 >>= fun x2 =>
    v.2.1 x2 >>= fun r3 =>
    if r3 = true then (
      some v.2.2.2
    ) else
    f_F_slices_IndexFunc_api_SField_api_SField_16 (v.1, v.2.1, v.2.2.1, (iadd .i64 v.2.2.2 1))
  ) else
  some (-1)) = some p) : M_F_slices_IndexFunc_api_SField_api_SField_16 v p := by
  intro h g_f caps_f hp_f
  unfold C143_16
  simp only [go_sem, reduceIte, Nat.reduceEqDiff, Nat.reduceAdd, Nat.reduceLeDiff, Nat.reduceLT, Nat.reduceSub, Nat.reduceBEq, ne_eq, not_false_eq_true]
  rcases iteE hF with ⟨hc1, hF⟩ | ⟨hc1, hF⟩
  · simp only [go_sem, reduceIte, Nat.reduceEqDiff, Nat.reduceAdd, Nat.reduceLeDiff, Nat.reduceLT, Nat.reduceSub, Nat.reduceBEq, ne_eq, not_false_eq_true, hc1]
    obtain ⟨x2, hx2, hF⟩ := bindE hF
    refine DoesO_m (lidx_map YSField.av hx2) ?_
    simp only [go_sem, reduceIte, Nat.reduceEqDiff, Nat.reduceAdd, Nat.reduceLeDiff, Nat.reduceLT, Nat.reduceSub, Nat.reduceBEq, ne_eq, not_false_eq_true, hc1]
    obtain ⟨r3, hr3, hF⟩ := bindE hF
    refine DoesR_m ((by have hq := hp_f [] _ _ hr3; simpa only [List.append_nil, List.cons_append, List.nil_append] using hq)) ?_
    simp only [go_sem, reduceIte, Nat.reduceEqDiff, Nat.reduceAdd, Nat.reduceLeDiff, Nat.reduceLT, Nat.reduceSub, Nat.reduceBEq, ne_eq, not_false_eq_true, hc1]
    rcases iteE hF with ⟨hc4, hF⟩ | ⟨hc4, hF⟩
    · simp only [go_sem, reduceIte, Nat.reduceEqDiff, Nat.reduceAdd, Nat.reduceLeDiff, Nat.reduceLT, Nat.reduceSub, Nat.reduceBEq, ne_eq, not_false_eq_true, hc1, hc4]
      all_goals (cases hF; rfl)
    · simp only [go_sem, reduceIte, Nat.reduceEqDiff, Nat.reduceAdd, Nat.reduceLeDiff, Nat.reduceLT, Nat.reduceSub, Nat.reduceBEq, ne_eq, not_false_eq_true, hc1, hc4]
      exact ih_F_slices_IndexFunc_api_SField_api_SField_16 _ _ hF _ _ _ hp_f
  · simp only [go_sem, reduceIte, Nat.reduceEqDiff, Nat.reduceAdd, Nat.reduceLeDiff, Nat.reduceLT, Nat.reduceSub, Nat.reduceBEq, ne_eq, not_false_eq_true, hc1]
    all_goals (cases hF; rfl)
theorem t_F_slices_IndexFunc_api_SField_api_SField_16 : ∀ v p, F_slices_IndexFunc_api_SField_api_SField_16 v = some p → M_F_slices_IndexFunc_api_SField_api_SField_16 v p := F_slices_IndexFunc_api_SField_api_SField_16.partial_correctness M_F_slices_IndexFunc_api_SField_api_SField_16 (fun f0 i0 v p hF => st_F_slices_IndexFunc_api_SField_api_SField_16 f0 i0 v p hF)
def F_slices_IndexFunc_api_SField_api_SField (s : List YSField) (f : (YSField → Option Bool)) : Option (Int) :=
  F_slices_IndexFunc_api_SField_api_SField_16 (s, f, (s.length : Int), 0)
set_option maxHeartbeats 4000000 in
theorem t_F_slices_IndexFunc_api_SField_api_SField : ∀ (s : List YSField) (f : (YSField → Option Bool)) (p : Int), F_slices_IndexFunc_api_SField_api_SField s f = some p → ∀ (h : Heap) (g_f : Nat) (caps_f : List AV) (hp_f : ∀ (l : Heap) (x0 : YSField) (r : Bool), f x0 = some r → callA (Run T0 g_f) ([.agg [.int .i64 x0.iD, .int .i64 x0.req, .str x0.type_, .str x0.name, .bool x0.hasInit, .int .i64 x0.init.kind, .int .i64 x0.init.n_, .str x0.init.s, .sl false 5 (List.map YValue.av x0.init.l), .sl false 1 (List.map (AV.int .i64) x0.init.iDs)]] ++ AV.eraseL caps_f) (h ++ l) = some (.bool r, h ++ l)), Run T0 N_slices_IndexFunc_api_SField_api_SField [.sl false 10 (List.map YSField.av s), .fn g_f caps_f] h = some ((.int .i64 p), h) := by
  intro s f p hF
  unfold F_slices_IndexFunc_api_SField_api_SField at hF
  intro h g_f caps_f hp_f
  refine run_ofK at_slices_IndexFunc_api_SField_api_SField (n := h.length) rfl ?_
  simp only [go_sem, reduceIte, Nat.reduceEqDiff, Nat.reduceAdd, Nat.reduceLeDiff, Nat.reduceLT, Nat.reduceSub, Nat.reduceBEq, ne_eq, not_false_eq_true]
  exact t_F_slices_IndexFunc_api_SField_api_SField_16 _ _ hF _ _ _ hp_f
theorem call_F_slices_IndexFunc_api_SField_api_SField {s : List YSField} {f : (YSField → Option Bool)} {p : Int} (hx : F_slices_IndexFunc_api_SField_api_SField s f = some p) {h : Heap} {g_f : Nat} {caps_f : List AV} (hp_f : ∀ (l : Heap) (x0 : YSField) (r : Bool), f x0 = some r → callA (Run T0 g_f) ([.agg [.int .i64 x0.iD, .int .i64 x0.req, .str x0.type_, .str x0.name, .bool x0.hasInit, .int .i64 x0.init.kind, .int .i64 x0.init.n_, .str x0.init.s, .sl false 5 (List.map YValue.av x0.init.l), .sl false 1 (List.map (AV.int .i64) x0.init.iDs)]] ++ AV.eraseL caps_f) (h ++ l) = some (.bool r, h ++ l)) : callA (Run T0 N_slices_IndexFunc_api_SField_api_SField) [.sl false 10 (List.map YSField.av s), .fn g_f caps_f] h = some ((.int .i64 p), h) :=
  callA_hof (n := AV.bndL caps_f) (by simp only [go_sem]) (t_F_slices_IndexFunc_api_SField_api_SField _ _ _ hx _ _ _ (fun l y0 r hr => hp_hid (by simp only [go_sem]) (fun l => hp_f l y0 r hr) l))
def F_value_Field_1 (f : YSField) (cap0 : Int) : Option (Bool) :=
  some (f.iD == cap0)
set_option maxHeartbeats 4000000 in
theorem t_F_value_Field_1 : ∀ (f : YSField) (cap0 : Int) (p : Bool), F_value_Field_1 f cap0 = some p → ∀ (h : Heap) (b : Nat) (rest : List AV) (hlt : b < h.length), Run T0 N_value_Field_1 [.agg [.int .i64 f.iD, .int .i64 f.req, .str f.type_, .str f.name, .bool f.hasInit, .int .i64 f.init.kind, .int .i64 f.init.n_, .str f.init.s, .sl false 5 (List.map YValue.av f.init.l), .sl false 1 (List.map (AV.int .i64) f.init.iDs)], .ptr b 0] (h.set b (.row ((.int .i64 cap0) :: rest))) = some ((.bool p), h.set b (.row ((.int .i64 cap0) :: rest))) := by
  intro f cap0 p hF
  unfold F_value_Field_1 at hF
  intro h b rest hlt
  refine run_ofK at_value_Field_1 (n := h.length) (by simp only [List.length_set]) ?_
  simp only [go_sem, reduceIte, Nat.reduceEqDiff, Nat.reduceAdd, Nat.reduceLeDiff, Nat.reduceLT, Nat.reduceSub, Nat.reduceBEq, ne_eq, not_false_eq_true, hs_all hlt]
  all_goals (cases hF; rfl)
theorem call_F_value_Field_1 {f : YSField} {cap0 : Int} {p : Bool} (hx : F_value_Field_1 f cap0 = some p) {h : Heap} {b : Nat} {rest : List AV}  (hb : h[b]? = some (.row ((.int .i64 cap0) :: rest))) : callA (Run T0 N_value_Field_1) [.agg [.int .i64 f.iD, .int .i64 f.req, .str f.type_, .str f.name, .bool f.hasInit, .int .i64 f.init.kind, .int .i64 f.init.n_, .str f.init.s, .sl false 5 (List.map YValue.av f.init.l), .sl false 1 (List.map (AV.int .i64) f.init.iDs)], .ptr b 0] h = some ((.bool p), h) :=
  callA_ptr0 (by simp only [go_sem]) hb (fun H hH => t_F_value_Field_1 _ _ _ hx H b rest  hH)
def F_value_Field (x : YSStruct) (id : Int) : Option (YSField × Bool) :=
  F_slices_IndexFunc_api_SField_api_SField x.fields (fun y0 => F_value_Field_1 y0 id) >>= fun r1 =>
  if (decide (r1 < (0 : Int))) = true then (
    some ((⟨0, 0, [], [], false, (⟨0, 0, [], [], []⟩ : YValue)⟩ : YSField), false)
  ) else
  lidx x.fields r1 >>= fun x3 =>
  some (x3, true)
set_option maxHeartbeats 4000000 in
theorem t_F_value_Field : ∀ (x : YSStruct) (id : Int) (p : YSField × Bool), F_value_Field x id = some p → ∀ (h : Heap), Run T0 N_value_Field [.agg [.int .i64 x.kind, .str x.name, .sl false 10 (List.map YSField.av x.fields)], .int .i64 id] h = some ((.tup [.agg [.int .i64 p.1.iD, .int .i64 p.1.req, .str p.1.type_, .str p.1.name, .bool p.1.hasInit, .int .i64 p.1.init.kind, .int .i64 p.1.init.n_, .str p.1.init.s, .sl false 5 (List.map YValue.av p.1.init.l), .sl false 1 (List.map (AV.int .i64) p.1.init.iDs)], .bool p.2]), h) := by
  intro x id p hF
  unfold F_value_Field at hF
  intro h
  refine run_ofK at_value_Field (n := h.length) rfl ?_
  simp only [go_sem, reduceIte, Nat.reduceEqDiff, Nat.reduceAdd, Nat.reduceLeDiff, Nat.reduceLT, Nat.reduceSub, Nat.reduceBEq, ne_eq, not_false_eq_true]
  obtain ⟨r1, hr1, hF⟩ := bindE hF
  refine DoesR_m (call_F_slices_IndexFunc_api_SField_api_SField hr1 (fun l _ r hy => call_F_value_Field_1 hy (app_get (lb_get rfl rfl)))) ?_
  simp only [go_sem, reduceIte, Nat.reduceEqDiff, Nat.reduceAdd, Nat.reduceLeDiff, Nat.reduceLT, Nat.reduceSub, Nat.reduceBEq, ne_eq, not_false_eq_true]
  rcases iteE hF with ⟨hc2, hF⟩ | ⟨hc2, hF⟩
  · simp only [go_sem, reduceIte, Nat.reduceEqDiff, Nat.reduceAdd, Nat.reduceLeDiff, Nat.reduceLT, Nat.reduceSub, Nat.reduceBEq, ne_eq, not_false_eq_true, hc2]
    all_goals (cases hF; rfl)
  · simp only [go_sem, reduceIte, Nat.reduceEqDiff, Nat.reduceAdd, Nat.reduceLeDiff, Nat.reduceLT, Nat.reduceSub, Nat.reduceBEq, ne_eq, not_false_eq_true, hc2]
    obtain ⟨x3, hx3, hF⟩ := bindE hF
    refine DoesO_m (lidx_map YSField.av hx3) ?_
    simp only [go_sem, reduceIte, Nat.reduceEqDiff, Nat.reduceAdd, Nat.reduceLeDiff, Nat.reduceLT, Nat.reduceSub, Nat.reduceBEq, ne_eq, not_false_eq_true, hc2]
    all_goals (cases hF; rfl)
theorem call_F_value_Field {x : YSStruct} {id : Int} {p : YSField × Bool} (hx : F_value_Field x id = some p) {h : Heap} : callA (Run T0 N_value_Field) [.agg [.int .i64 x.kind, .str x.name, .sl false 10 (List.map YSField.av x.fields)], .int .i64 id] h = some ((.tup [.agg [.int .i64 p.1.iD, .int .i64 p.1.req, .str p.1.type_, .str p.1.name, .bool p.1.hasInit, .int .i64 p.1.init.kind, .int .i64 p.1.init.n_, .str p.1.init.s, .sl false 5 (List.map YValue.av p.1.init.l), .sl false 1 (List.map (AV.int .i64) p.1.init.iDs)], .bool p.2]), h) :=
  callA_pure (by simp only [go_sem]) (fun H => t_F_value_Field _ _ _ hx H)
end Go.Proofs.YtfihinodhhhllaaGreat
