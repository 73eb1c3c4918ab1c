/- The functions as plain functions, and that the runs come to their answers; printed by lift.py. -/
import Derived.Test.YtfihinodhhhllaaGreatIbH
import Derived.Test.YtfihinodhhhllaaGreatIbF0
set_option linter.unusedVariables false
set_option linter.unusedSimpArgs false
namespace Go.Proofs.YtfihinodhhhllaaGreat
open Go
def F_kind_cursor_rest_10 (v : Int × Ykind_cursor) : Option (Bool × Ykind_cursor) :=
  if (v.2.e_ == (0 : Int)) = true then (
    if (decide (v.2.at_ < (v.2.s.length : Int))) = true then (
      lidx v.2.s v.2.at_ >>= fun x3 =>
      if ((x3.toNat : Int) == (46 : Int)) = true then (
        F_kind_cursor_part (⟨v.2.s, (iadd .i64 v.2.at_ 1), v.2.e_, v.2.names, v.2.depth⟩ : Ykind_cursor) >>= fun r5 =>
        F_kind_cursor_rest_10 (v.1, r5.2)
      ) else
      some ((decide (v.2.at_ > v.1)), v.2)
    ) else
    some ((decide (v.2.at_ > v.1)), v.2)
  ) else
  some ((decide (v.2.at_ > v.1)), v.2)
  partial_fixpoint
theorem F_kind_cursor_rest_10_eq (from_ : Int) (c : Ykind_cursor) : F_kind_cursor_rest_10 (from_, c) =
  if (c.e_ == (0 : Int)) = true then (
    if (decide (c.at_ < (c.s.length : Int))) = true then (
      lidx c.s c.at_ >>= fun x3 =>
      if ((x3.toNat : Int) == (46 : Int)) = true then (
        F_kind_cursor_part (⟨c.s, (iadd .i64 c.at_ 1), c.e_, c.names, c.depth⟩ : Ykind_cursor) >>= fun r5 =>
        F_kind_cursor_rest_10 (from_, r5.2)
      ) else
      some ((decide (c.at_ > from_)), c)
    ) else
    some ((decide (c.at_ > from_)), c)
  ) else
  some ((decide (c.at_ > from_)), c) := F_kind_cursor_rest_10.eq_1 (from_, c)
def M_F_kind_cursor_rest_10 (v : Int × Ykind_cursor) (p : Bool × Ykind_cursor) : Prop := ∀ (h : Heap) (b : Nat) (rest : List AV) (o0 : Bool) (hlt : b < h.length), Does T0 C198_10 (aft T0 (EndQ false [.tmp 2] h.length (.bool p.1) (h.set b (.row ((.str p.2.s) :: (.int .i64 p.2.at_) :: (.int .i64 p.2.e_) :: (.sl o0 1 (List.map AV.str p.2.names)) :: (.int .i64 p.2.depth) :: rest)))) [.gc h.length, .lp C198_11, .blk 0, .seq C198_15]) .mk .mk [(0, .ptr b 0), (3, .int .i64 v.1)] (h.set b (.row ((.str v.2.s) :: (.int .i64 v.2.at_) :: (.int .i64 v.2.e_) :: (.sl o0 1 (List.map AV.str v.2.names)) :: (.int .i64 v.2.depth) :: rest)))
set_option maxHeartbeats 4000000 in
theorem st_F_kind_cursor_rest_10 (f_F_kind_cursor_rest_10 : (Int × Ykind_cursor) → Option (Bool × Ykind_cursor)) (ih_F_kind_cursor_rest_10 : ∀ v p, f_F_kind_cursor_rest_10 v = some p → M_F_kind_cursor_rest_10 v p) (v : Int × Ykind_cursor) (p : Bool × Ykind_cursor) (hF : (
  if (v.2.e_ == (0 : Int)) = true then (
    if (decide (v.2.at_ < (v.2.s.length : Int))) = true then (
      lidx v.2.s v.2.at_ >>= fun x3 =>
      if ((x3.toNat : Int) == (46 : Int)) = true then (
        F_kind_cursor_part (⟨v.2.s, (iadd .i64 v.2.at_ 1), v.2.e_, v.2.names, v.2.depth⟩ : Ykind_cursor) >>= fun r5 =>
        f_F_kind_cursor_rest_10 (v.1, r5.2)
      ) else
      some ((decide (v.2.at_ > v.1)), v.2)
    ) else
    some ((decide (v.2.at_ > v.1)), v.2)
  ) else
  some ((decide (v.2.at_ > v.1)), v.2)) = some p) : M_F_kind_cursor_rest_10 v p := by
  intro h b rest o0 hlt
  unfold C198_10
  simp only [go_sem, reduceIte, Nat.reduceEqDiff, Nat.reduceAdd, Nat.reduceLeDiff, Nat.reduceLT, Nat.reduceSub, Nat.reduceBEq, ne_eq, not_false_eq_true, hs_all hlt]
  rcases iteE hF with ⟨hc1, hF⟩ | ⟨hc1, hF⟩
  · simp only [go_sem, reduceIte, Nat.reduceEqDiff, Nat.reduceAdd, Nat.reduceLeDiff, Nat.reduceLT, Nat.reduceSub, Nat.reduceBEq, ne_eq, not_false_eq_true, hs_all hlt, hc1]
    rcases iteE hF with ⟨hc2, hF⟩ | ⟨hc2, hF⟩
    · simp only [go_sem, reduceIte, Nat.reduceEqDiff, Nat.reduceAdd, Nat.reduceLeDiff, Nat.reduceLT, Nat.reduceSub, Nat.reduceBEq, ne_eq, not_false_eq_true, hs_all hlt, hc1, hc2]
      obtain ⟨x3, hx3, hF⟩ := bindE hF
      refine DoesO_m (hx3) ?_
      simp only [go_sem, reduceIte, Nat.reduceEqDiff, Nat.reduceAdd, Nat.reduceLeDiff, Nat.reduceLT, Nat.reduceSub, Nat.reduceBEq, ne_eq, not_false_eq_true, hs_all hlt, hc1, hc2]
      rcases iteE hF with ⟨hc4, hF⟩ | ⟨hc4, hF⟩
      · simp only [go_sem, reduceIte, Nat.reduceEqDiff, Nat.reduceAdd, Nat.reduceLeDiff, Nat.reduceLT, Nat.reduceSub, Nat.reduceBEq, ne_eq, not_false_eq_true, hs_all hlt, hc1, hc2, hc4]
        obtain ⟨r5, hr5, hF⟩ := bindE hF
        refine DoesR_m (call_F_kind_cursor_part hr5 (hs_get hlt)) ?_
        simp only [go_sem, reduceIte, Nat.reduceEqDiff, Nat.reduceAdd, Nat.reduceLeDiff, Nat.reduceLT, Nat.reduceSub, Nat.reduceBEq, ne_eq, not_false_eq_true, hs_all hlt, hc1, hc2, hc4]
        exact ih_F_kind_cursor_rest_10 _ _ hF _ _ _ _ hlt
      · simp only [go_sem, reduceIte, Nat.reduceEqDiff, Nat.reduceAdd, Nat.reduceLeDiff, Nat.reduceLT, Nat.reduceSub, Nat.reduceBEq, ne_eq, not_false_eq_true, hs_all hlt, hc1, hc2, hc4]
        all_goals (cases hF; rfl)
    · simp only [go_sem, reduceIte, Nat.reduceEqDiff, Nat.reduceAdd, Nat.reduceLeDiff, Nat.reduceLT, Nat.reduceSub, Nat.reduceBEq, ne_eq, not_false_eq_true, hs_all hlt, hc1, hc2]
      all_goals (cases hF; rfl)
  · simp only [go_sem, reduceIte, Nat.reduceEqDiff, Nat.reduceAdd, Nat.reduceLeDiff, Nat.reduceLT, Nat.reduceSub, Nat.reduceBEq, ne_eq, not_false_eq_true, hs_all hlt, hc1]
    all_goals (cases hF; rfl)
theorem t_F_kind_cursor_rest_10 : ∀ v p, F_kind_cursor_rest_10 v = some p → M_F_kind_cursor_rest_10 v p := F_kind_cursor_rest_10.partial_correctness M_F_kind_cursor_rest_10 (fun f0 i0 v p hF => st_F_kind_cursor_rest_10 f0 i0 v p hF)
def F_kind_cursor_rest (c : Ykind_cursor) : Option (Bool × Ykind_cursor) :=
  F_kind_cursor_rest_10 (c.at_, c)
set_option maxHeartbeats 4000000 in
theorem t_F_kind_cursor_rest : ∀ (c : Ykind_cursor) (p : Bool × Ykind_cursor), F_kind_cursor_rest c = some p → ∀ (h : Heap) (b : Nat) (rest : List AV) (o0 : Bool) (hlt : b < h.length), Run T0 N_kind_cursor_rest [.ptr b 0] (h.set b (.row ((.str c.s) :: (.int .i64 c.at_) :: (.int .i64 c.e_) :: (.sl o0 1 (List.map AV.str c.names)) :: (.int .i64 c.depth) :: rest))) = some ((.bool p.1), h.set b (.row ((.str p.2.s) :: (.int .i64 p.2.at_) :: (.int .i64 p.2.e_) :: (.sl o0 1 (List.map AV.str p.2.names)) :: (.int .i64 p.2.depth) :: rest))) := by
  intro c p hF
  unfold F_kind_cursor_rest at hF
  intro h b rest o0 hlt
  refine run_ofK at_kind_cursor_rest (n := h.length) (by simp only [List.length_set]) ?_
  simp only [go_sem, reduceIte, Nat.reduceEqDiff, Nat.reduceAdd, Nat.reduceLeDiff, Nat.reduceLT, Nat.reduceSub, Nat.reduceBEq, ne_eq, not_false_eq_true, hs_all hlt]
  exact t_F_kind_cursor_rest_10 _ _ hF _ _ _ _ hlt
theorem call_F_kind_cursor_rest {c : Ykind_cursor} {p : Bool × Ykind_cursor} (hx : F_kind_cursor_rest c = some p) {h : Heap} {b : Nat} {rest : List AV} {o0 : Bool} (hb : h[b]? = some (.row ((.str c.s) :: (.int .i64 c.at_) :: (.int .i64 c.e_) :: (.sl o0 1 (List.map AV.str c.names)) :: (.int .i64 c.depth) :: rest))) : callA (Run T0 N_kind_cursor_rest) [.ptr b 0] h = some ((.bool p.1), h.set b (.row ((.str p.2.s) :: (.int .i64 p.2.at_) :: (.int .i64 p.2.e_) :: (.sl o0 1 (List.map AV.str p.2.names)) :: (.int .i64 p.2.depth) :: rest))) :=
  callA_ptr (by simp only [go_sem]) hb (fun H hH => t_F_kind_cursor_rest _ _ hx H b rest o0 hH)
def F_kind_word (s : List UInt8) : Option (Int) :=
  if (s == [98, 111, 111, 108]) = true then (
    some 2
  ) else
  if (s == [105, 56]) = true then (
    some 3
  ) else
  if (s == [105, 49, 54]) = true then (
    some 6
  ) else
  if (s == [105, 51, 50]) = true then (
    some 8
  ) else
  if (s == [105, 54, 52]) = true then (
    some 10
  ) else
  if (s == [100, 111, 117, 98, 108, 101]) = true then (
    some 4
  ) else
  if (s == [115, 116, 114, 105, 110, 103]) = true then (
    some 11
  ) else
  if (s == [98, 105, 110, 97, 114, 121]) = true then (
    some 16
  ) else
  if (s == [108, 105, 115, 116]) = true then (
    some 15
  ) else
  if (s == [115, 101, 116]) = true then (
    some 14
  ) else
  if (s == [109, 97, 112]) = true then (
    some 13
  ) else
  some 0
set_option maxHeartbeats 4000000 in
theorem t_F_kind_word : ∀ (s : List UInt8) (p : Int), F_kind_word s = some p → ∀ (h : Heap), Run T0 N_kind_word [.str s] h = some ((.int .i64 p), h) := by
  intro s p hF
  unfold F_kind_word at hF
  intro h
  refine run_ofK at_kind_word (n := h.length) rfl ?_
  simp only [go_sem, reduceIte, Nat.reduceEqDiff, Nat.reduceAdd, Nat.reduceLeDiff, Nat.reduceLT, Nat.reduceSub, Nat.reduceBEq, ne_eq, not_false_eq_true]
  rcases iteE hF with ⟨hc1, hF⟩ | ⟨hc1, hF⟩
  · simp only [go_sem, reduceIte, Nat.reduceEqDiff, Nat.reduceAdd, Nat.reduceLeDiff, Nat.reduceLT, Nat.reduceSub, Nat.reduceBEq, ne_eq, not_false_eq_true, hc1]
    all_goals (cases hF; rfl)
  · simp only [go_sem, reduceIte, Nat.reduceEqDiff, Nat.reduceAdd, Nat.reduceLeDiff, Nat.reduceLT, Nat.reduceSub, Nat.reduceBEq, ne_eq, not_false_eq_true, hc1]
    rcases iteE hF with ⟨hc2, hF⟩ | ⟨hc2, hF⟩
    · simp only [go_sem, reduceIte, Nat.reduceEqDiff, Nat.reduceAdd, Nat.reduceLeDiff, Nat.reduceLT, Nat.reduceSub, Nat.reduceBEq, ne_eq, not_false_eq_true, hc1, hc2]
      all_goals (cases hF; rfl)
    · simp only [go_sem, reduceIte, Nat.reduceEqDiff, Nat.reduceAdd, Nat.reduceLeDiff, Nat.reduceLT, Nat.reduceSub, Nat.reduceBEq, ne_eq, not_false_eq_true, hc1, hc2]
      rcases iteE hF with ⟨hc3, hF⟩ | ⟨hc3, hF⟩
      · simp only [go_sem, reduceIte, Nat.reduceEqDiff, Nat.reduceAdd, Nat.reduceLeDiff, Nat.reduceLT, Nat.reduceSub, Nat.reduceBEq, ne_eq, not_false_eq_true, hc1, hc2, hc3]
        all_goals (cases hF; rfl)
      · simp only [go_sem, reduceIte, Nat.reduceEqDiff, Nat.reduceAdd, Nat.reduceLeDiff, Nat.reduceLT, Nat.reduceSub, Nat.reduceBEq, ne_eq, not_false_eq_true, hc1, hc2, hc3]
        rcases iteE hF with ⟨hc4, hF⟩ | ⟨hc4, hF⟩
        · simp only [go_sem, reduceIte, Nat.reduceEqDiff, Nat.reduceAdd, Nat.reduceLeDiff, Nat.reduceLT, Nat.reduceSub, Nat.reduceBEq, ne_eq, not_false_eq_true, hc1, hc2, hc3, hc4]
          all_goals (cases hF; rfl)
        · simp only [go_sem, reduceIte, Nat.reduceEqDiff, Nat.reduceAdd, Nat.reduceLeDiff, Nat.reduceLT, Nat.reduceSub, Nat.reduceBEq, ne_eq, not_false_eq_true, hc1, hc2, hc3, hc4]
          rcases iteE hF with ⟨hc5, hF⟩ | ⟨hc5, hF⟩
          · simp only [go_sem, reduceIte, Nat.reduceEqDiff, Nat.reduceAdd, Nat.reduceLeDiff, Nat.reduceLT, Nat.reduceSub, Nat.reduceBEq, ne_eq, not_false_eq_true, hc1, hc2, hc3, hc4, hc5]
            all_goals (cases hF; rfl)
          · simp only [go_sem, reduceIte, Nat.reduceEqDiff, Nat.reduceAdd, Nat.reduceLeDiff, Nat.reduceLT, Nat.reduceSub, Nat.reduceBEq, ne_eq, not_false_eq_true, hc1, hc2, hc3, hc4, hc5]
            rcases iteE hF with ⟨hc6, hF⟩ | ⟨hc6, hF⟩
            · simp only [go_sem, reduceIte, Nat.reduceEqDiff, Nat.reduceAdd, Nat.reduceLeDiff, Nat.reduceLT, Nat.reduceSub, Nat.reduceBEq, ne_eq, not_false_eq_true, hc1, hc2, hc3, hc4, hc5, hc6]
              all_goals (cases hF; rfl)
            · simp only [go_sem, reduceIte, Nat.reduceEqDiff, Nat.reduceAdd, Nat.reduceLeDiff, Nat.reduceLT, Nat.reduceSub, Nat.reduceBEq, ne_eq, not_false_eq_true, hc1, hc2, hc3, hc4, hc5, hc6]
              rcases iteE hF with ⟨hc7, hF⟩ | ⟨hc7, hF⟩
              · simp only [go_sem, reduceIte, Nat.reduceEqDiff, Nat.reduceAdd, Nat.reduceLeDiff, Nat.reduceLT, Nat.reduceSub, Nat.reduceBEq, ne_eq, not_false_eq_true, hc1, hc2, hc3, hc4, hc5, hc6, hc7]
                all_goals (cases hF; rfl)
              · simp only [go_sem, reduceIte, Nat.reduceEqDiff, Nat.reduceAdd, Nat.reduceLeDiff, Nat.reduceLT, Nat.reduceSub, Nat.reduceBEq, ne_eq, not_false_eq_true, hc1, hc2, hc3, hc4, hc5, hc6, hc7]
                rcases iteE hF with ⟨hc8, hF⟩ | ⟨hc8, hF⟩
                · simp only [go_sem, reduceIte, Nat.reduceEqDiff, Nat.reduceAdd, Nat.reduceLeDiff, Nat.reduceLT, Nat.reduceSub, Nat.reduceBEq, ne_eq, not_false_eq_true, hc1, hc2, hc3, hc4, hc5, hc6, hc7, hc8]
                  all_goals (cases hF; rfl)
                · simp only [go_sem, reduceIte, Nat.reduceEqDiff, Nat.reduceAdd, Nat.reduceLeDiff, Nat.reduceLT, Nat.reduceSub, Nat.reduceBEq, ne_eq, not_false_eq_true, hc1, hc2, hc3, hc4, hc5, hc6, hc7, hc8]
                  rcases iteE hF with ⟨hc9, hF⟩ | ⟨hc9, hF⟩
                  · simp only [go_sem, reduceIte, Nat.reduceEqDiff, Nat.reduceAdd, Nat.reduceLeDiff, Nat.reduceLT, Nat.reduceSub, Nat.reduceBEq, ne_eq, not_false_eq_true, hc1, hc2, hc3, hc4, hc5, hc6, hc7, hc8, hc9]
                    all_goals (cases hF; rfl)
                  · simp only [go_sem, reduceIte, Nat.reduceEqDiff, Nat.reduceAdd, Nat.reduceLeDiff, Nat.reduceLT, Nat.reduceSub, Nat.reduceBEq, ne_eq, not_false_eq_true, hc1, hc2, hc3, hc4, hc5, hc6, hc7, hc8, hc9]
                    rcases iteE hF with ⟨hc10, hF⟩ | ⟨hc10, hF⟩
                    · simp only [go_sem, reduceIte, Nat.reduceEqDiff, Nat.reduceAdd, Nat.reduceLeDiff, Nat.reduceLT, Nat.reduceSub, Nat.reduceBEq, ne_eq, not_false_eq_true, hc1, hc2, hc3, hc4, hc5, hc6, hc7, hc8, hc9, hc10]
                      all_goals (cases hF; rfl)
                    · simp only [go_sem, reduceIte, Nat.reduceEqDiff, Nat.reduceAdd, Nat.reduceLeDiff, Nat.reduceLT, Nat.reduceSub, Nat.reduceBEq, ne_eq, not_false_eq_true, hc1, hc2, hc3, hc4, hc5, hc6, hc7, hc8, hc9, hc10]
                      rcases iteE hF with ⟨hc11, hF⟩ | ⟨hc11, hF⟩
                      · simp only [go_sem, reduceIte, Nat.reduceEqDiff, Nat.reduceAdd, Nat.reduceLeDiff, Nat.reduceLT, Nat.reduceSub, Nat.reduceBEq, ne_eq, not_false_eq_true, hc1, hc2, hc3, hc4, hc5, hc6, hc7, hc8, hc9, hc10, hc11]
                        all_goals (cases hF; rfl)
                      · simp only [go_sem, reduceIte, Nat.reduceEqDiff, Nat.reduceAdd, Nat.reduceLeDiff, Nat.reduceLT, Nat.reduceSub, Nat.reduceBEq, ne_eq, not_false_eq_true, hc1, hc2, hc3, hc4, hc5, hc6, hc7, hc8, hc9, hc10, hc11]
                        all_goals (cases hF; rfl)
theorem call_F_kind_word {s : List UInt8} {p : Int} (hx : F_kind_word s = some p) {h : Heap} : callA (Run T0 N_kind_word) [.str s] h = some ((.int .i64 p), h) :=
  callA_pure (by simp only [go_sem]) (fun H => t_F_kind_word _ _ hx H)
mutual
def F_kind_cursor_one (v : Ykind_cursor × Int) : Option (Int × List Int × Ykind_cursor) :=
  F_kind_cursor_part v.1 >>= fun r1 =>
  F_kind_word r1.1 >>= fun r2 =>
  F_kind_cursor_rest r1.2 >>= fun r3 =>
  if r3.1 = true then (
    F_kind_cursor_one_12 (v.2, r2, [], v.1.at_, true, r3.2)
  ) else
  F_kind_cursor_one_12 (v.2, r2, [], v.1.at_, (r2 == (0 : Int)), r3.2)
  partial_fixpoint
def F_kind_cursor_one_12 (v : Int × Int × List Int × Int × Bool × Ykind_cursor) : Option (Int × List Int × Ykind_cursor) :=
  if v.2.2.2.2.1 = true then (
    F_kind_cursor_fails v.2.2.2.2.2 (v.2.1 != (0 : Int)) 2 >>= fun r6 =>
    subl r6.s v.2.2.2.1 r6.at_ >>= fun x7 =>
    appl 16 r6.names [x7] >>= fun x8 =>
    some (0, [], (⟨r6.s, r6.at_, r6.e_, x8, r6.depth⟩ : Ykind_cursor))
  ) else
  F_kind_inner v.2.1 >>= fun r9 =>
  if (r9 == (0 : Int)) = true then (
    some (v.2.1, [], v.2.2.2.2.2)
  ) else
  if (v.2.2.2.2.2.e_ != (0 : Int)) = true then (
    some (v.2.1, [], v.2.2.2.2.2)
  ) else
  F_kind_cursor_one_52 (v.1, v.2.1, v.2.2.1, r9, v.2.2.2.2.2)
  partial_fixpoint
def F_kind_cursor_one_52 (v : Int × Int × List Int × Int × Ykind_cursor) : Option (Int × List Int × Ykind_cursor) :=
  F_kind_cursor_fails v.2.2.2.2 (decide (v.1 ≥ (12 : Int))) 6 >>= fun r12 =>
  F_kind_cursor_one_41 (v.1, v.2.1, v.2.2.1, v.2.2.2.1, 0, (⟨r12.s, r12.at_, r12.e_, r12.names, (imax r12.depth (iadd .i64 v.1 1))⟩ : Ykind_cursor))
  partial_fixpoint
def F_kind_cursor_one_41 (v : Int × Int × List Int × Int × Int × Ykind_cursor) : Option (Int × List Int × Ykind_cursor) :=
  if (decide (v.2.2.2.2.1 < v.2.2.2.1)) = true then (
    lidx [60, 44] v.2.2.2.2.1 >>= fun x14 =>
    F_kind_cursor_sign v.2.2.2.2.2 x14 >>= fun r15 =>
    if (r15.e_ == (0 : Int)) = true then (
      F_kind_cursor_one (r15, (iadd .i64 v.1 1)) >>= fun r17 =>
      appl 8 v.2.2.1 [r17.2.2.at_] >>= fun x18 =>
      F_kind_cursor_one_41 (v.1, v.2.1, x18, v.2.2.2.1, (iadd .i64 v.2.2.2.2.1 1), r17.2.2)
    ) else
    appl 8 v.2.2.1 [r15.at_] >>= fun x19 =>
    F_kind_cursor_one_41 (v.1, v.2.1, x19, v.2.2.2.1, (iadd .i64 v.2.2.2.2.1 1), r15)
  ) else
  F_kind_cursor_sign v.2.2.2.2.2 (62 : UInt8) >>= fun r20 =>
  some (v.2.1, v.2.2.1, r20)
  partial_fixpoint
end
theorem F_kind_cursor_one_eq (c : Ykind_cursor) (deep : Int) : F_kind_cursor_one (c, deep) =
  F_kind_cursor_part c >>= fun r1 =>
  F_kind_word r1.1 >>= fun r2 =>
  F_kind_cursor_rest r1.2 >>= fun r3 =>
  if r3.1 = true then (
    F_kind_cursor_one_12 (deep, r2, [], c.at_, true, r3.2)
  ) else
  F_kind_cursor_one_12 (deep, r2, [], c.at_, (r2 == (0 : Int)), r3.2) := F_kind_cursor_one.eq_1 (c, deep)
theorem F_kind_cursor_one_12_eq (deep : Int) (kind : Int) (ends : List Int) (from_ : Int) (t23 : Bool) (c : Ykind_cursor) : F_kind_cursor_one_12 (deep, kind, ends, from_, t23, c) =
  if t23 = true then (
    F_kind_cursor_fails c (kind != (0 : Int)) 2 >>= fun r6 =>
    subl r6.s from_ r6.at_ >>= fun x7 =>
    appl 16 r6.names [x7] >>= fun x8 =>
    some (0, [], (⟨r6.s, r6.at_, r6.e_, x8, r6.depth⟩ : Ykind_cursor))
  ) else
  F_kind_inner kind >>= fun r9 =>
  if (r9 == (0 : Int)) = true then (
    some (kind, [], c)
  ) else
  if (c.e_ != (0 : Int)) = true then (
    some (kind, [], c)
  ) else
  F_kind_cursor_one_52 (deep, kind, ends, r9, c) := F_kind_cursor_one_12.eq_1 (deep, kind, ends, from_, t23, c)
theorem F_kind_cursor_one_52_eq (deep : Int) (kind : Int) (ends : List Int) (n_ : Int) (c : Ykind_cursor) : F_kind_cursor_one_52 (deep, kind, ends, n_, c) =
  F_kind_cursor_fails c (decide (deep ≥ (12 : Int))) 6 >>= fun r12 =>
  F_kind_cursor_one_41 (deep, kind, ends, n_, 0, (⟨r12.s, r12.at_, r12.e_, r12.names, (imax r12.depth (iadd .i64 deep 1))⟩ : Ykind_cursor)) := F_kind_cursor_one_52.eq_1 (deep, kind, ends, n_, c)
theorem F_kind_cursor_one_41_eq (deep : Int) (kind : Int) (ends : List Int) (t73 : Int) (t74 : Int) (c : Ykind_cursor) : F_kind_cursor_one_41 (deep, kind, ends, t73, t74, c) =
  if (decide (t74 < t73)) = true then (
    lidx [60, 44] t74 >>= fun x14 =>
    F_kind_cursor_sign c x14 >>= fun r15 =>
    if (r15.e_ == (0 : Int)) = true then (
      F_kind_cursor_one (r15, (iadd .i64 deep 1)) >>= fun r17 =>
      appl 8 ends [r17.2.2.at_] >>= fun x18 =>
      F_kind_cursor_one_41 (deep, kind, x18, t73, (iadd .i64 t74 1), r17.2.2)
    ) else
    appl 8 ends [r15.at_] >>= fun x19 =>
    F_kind_cursor_one_41 (deep, kind, x19, t73, (iadd .i64 t74 1), r15)
  ) else
  F_kind_cursor_sign c (62 : UInt8) >>= fun r20 =>
  some (kind, ends, r20) := F_kind_cursor_one_41.eq_1 (deep, kind, ends, t73, t74, c)
def M_F_kind_cursor_one (v : Ykind_cursor × Int) (p : Int × List Int × Ykind_cursor) : Prop := ∀ (h : Heap) (b : Nat) (rest : List AV) (hlt : b < h.length), Run T0 N_kind_cursor_one [.ptr b 0, .int .i64 v.2] (h.set b (.row ((.str v.1.s) :: (.int .i64 v.1.at_) :: (.int .i64 v.1.e_) :: (.sl true 1 (List.map AV.str v.1.names)) :: (.int .i64 v.1.depth) :: rest))) = some ((.tup [.int .i64 p.1, .sl false 1 (List.map (AV.int .i64) p.2.1)]), h.set b (.row ((.str p.2.2.s) :: (.int .i64 p.2.2.at_) :: (.int .i64 p.2.2.e_) :: (.sl true 1 (List.map AV.str p.2.2.names)) :: (.int .i64 p.2.2.depth) :: rest)))
def M_F_kind_cursor_one_12 (v : Int × Int × List Int × Int × Bool × Ykind_cursor) (p : Int × List Int × Ykind_cursor) : Prop := ∀ (h : Heap) (b : Nat) (rest : List AV) (hlt : b < h.length), Does T0 C170_12 (aft T0 (EndQ false [.tmp 4, .tmp 5] h.length (.tup [.int .i64 p.1, .sl false 1 (List.map (AV.int .i64) p.2.1)]) (h.set b (.row ((.str p.2.2.s) :: (.int .i64 p.2.2.at_) :: (.int .i64 p.2.2.e_) :: (.sl true 1 (List.map AV.str p.2.2.names)) :: (.int .i64 p.2.2.depth) :: rest)))) [.seq C170_55]) .mk .mk [(0, .ptr b 0), (1, .int .i64 v.1), (4, .int .i64 v.2.1), (5, .sl true 1 (List.map (AV.int .i64) v.2.2.1)), (6, .int .i64 v.2.2.2.1), (23, .bool v.2.2.2.2.1)] (h.set b (.row ((.str v.2.2.2.2.2.s) :: (.int .i64 v.2.2.2.2.2.at_) :: (.int .i64 v.2.2.2.2.2.e_) :: (.sl true 1 (List.map AV.str v.2.2.2.2.2.names)) :: (.int .i64 v.2.2.2.2.2.depth) :: rest)))
def M_F_kind_cursor_one_52 (v : Int × Int × List Int × Int × Ykind_cursor) (p : Int × List Int × Ykind_cursor) : Prop := ∀ (h : Heap) (b : Nat) (rest : List AV) (hlt : b < h.length), Does T0 C170_52 (aft T0 (EndQ false [.tmp 4, .tmp 5] h.length (.tup [.int .i64 p.1, .sl false 1 (List.map (AV.int .i64) p.2.1)]) (h.set b (.row ((.str p.2.2.s) :: (.int .i64 p.2.2.at_) :: (.int .i64 p.2.2.e_) :: (.sl true 1 (List.map AV.str p.2.2.names)) :: (.int .i64 p.2.2.depth) :: rest)))) []) .mk .mk [(0, .ptr b 0), (1, .int .i64 v.1), (4, .int .i64 v.2.1), (5, .sl true 1 (List.map (AV.int .i64) v.2.2.1)), (8, .int .i64 v.2.2.2.1)] (h.set b (.row ((.str v.2.2.2.2.s) :: (.int .i64 v.2.2.2.2.at_) :: (.int .i64 v.2.2.2.2.e_) :: (.sl true 1 (List.map AV.str v.2.2.2.2.names)) :: (.int .i64 v.2.2.2.2.depth) :: rest)))
def M_F_kind_cursor_one_41 (v : Int × Int × List Int × Int × Int × Ykind_cursor) (p : Int × List Int × Ykind_cursor) : Prop := ∀ (h : Heap) (b : Nat) (rest : List AV) (hlt : b < h.length), Does T0 C170_41 (aft T0 (EndQ false [.tmp 4, .tmp 5] h.length (.tup [.int .i64 p.1, .sl false 1 (List.map (AV.int .i64) p.2.1)]) (h.set b (.row ((.str p.2.2.s) :: (.int .i64 p.2.2.at_) :: (.int .i64 p.2.2.e_) :: (.sl true 1 (List.map AV.str p.2.2.names)) :: (.int .i64 p.2.2.depth) :: rest)))) [.gc h.length, .lp C170_42, .blk 0, .seq C170_49]) .mk .mk [(0, .ptr b 0), (1, .int .i64 v.1), (4, .int .i64 v.2.1), (5, .sl true 1 (List.map (AV.int .i64) v.2.2.1)), (73, .int .i64 v.2.2.2.1), (74, .int .i64 v.2.2.2.2.1)] (h.set b (.row ((.str v.2.2.2.2.2.s) :: (.int .i64 v.2.2.2.2.2.at_) :: (.int .i64 v.2.2.2.2.2.e_) :: (.sl true 1 (List.map AV.str v.2.2.2.2.2.names)) :: (.int .i64 v.2.2.2.2.2.depth) :: rest)))
set_option maxHeartbeats 4000000 in
theorem st_F_kind_cursor_one (f_F_kind_cursor_one_12 : (Int × Int × List Int × Int × Bool × Ykind_cursor) → Option (Int × List Int × Ykind_cursor)) (ih_F_kind_cursor_one_12 : ∀ v p, f_F_kind_cursor_one_12 v = some p → M_F_kind_cursor_one_12 v p) (v : Ykind_cursor × Int) (p : Int × List Int × Ykind_cursor) (hF : (
  F_kind_cursor_part v.1 >>= fun r1 =>
  F_kind_word r1.1 >>= fun r2 =>
  F_kind_cursor_rest r1.2 >>= fun r3 =>
  if r3.1 = true then (
    f_F_kind_cursor_one_12 (v.2, r2, [], v.1.at_, true, r3.2)
  ) else
  f_F_kind_cursor_one_12 (v.2, r2, [], v.1.at_, (r2 == (0 : Int)), r3.2)) = some p) : M_F_kind_cursor_one v p := by
  intro h b rest hlt
  refine run_ofK at_kind_cursor_one (n := h.length) (by simp only [List.length_set]) ?_
  simp only [go_sem, reduceIte, Nat.reduceEqDiff, Nat.reduceAdd, Nat.reduceLeDiff, Nat.reduceLT, Nat.reduceSub, Nat.reduceBEq, ne_eq, not_false_eq_true, hs_all hlt]
  obtain ⟨r1, hr1, hF⟩ := bindE hF
  refine DoesR_m (call_F_kind_cursor_part hr1 (hs_get hlt)) ?_
  simp only [go_sem, reduceIte, Nat.reduceEqDiff, Nat.reduceAdd, Nat.reduceLeDiff, Nat.reduceLT, Nat.reduceSub, Nat.reduceBEq, ne_eq, not_false_eq_true, hs_all hlt]
  obtain ⟨r2, hr2, hF⟩ := bindE hF
  refine DoesR_m (call_F_kind_word hr2) ?_
  simp only [go_sem, reduceIte, Nat.reduceEqDiff, Nat.reduceAdd, Nat.reduceLeDiff, Nat.reduceLT, Nat.reduceSub, Nat.reduceBEq, ne_eq, not_false_eq_true, hs_all hlt]
  obtain ⟨r3, hr3, hF⟩ := bindE hF
  refine DoesR_m (call_F_kind_cursor_rest hr3 (hs_get hlt)) ?_
  simp only [go_sem, reduceIte, Nat.reduceEqDiff, Nat.reduceAdd, Nat.reduceLeDiff, Nat.reduceLT, Nat.reduceSub, Nat.reduceBEq, ne_eq, not_false_eq_true, hs_all hlt]
  rcases iteE hF with ⟨hc4, hF⟩ | ⟨hc4, hF⟩
  · simp only [go_sem, reduceIte, Nat.reduceEqDiff, Nat.reduceAdd, Nat.reduceLeDiff, Nat.reduceLT, Nat.reduceSub, Nat.reduceBEq, ne_eq, not_false_eq_true, hs_all hlt, hc4]
    exact ih_F_kind_cursor_one_12 _ _ hF _ _ _ hlt
  · simp only [go_sem, reduceIte, Nat.reduceEqDiff, Nat.reduceAdd, Nat.reduceLeDiff, Nat.reduceLT, Nat.reduceSub, Nat.reduceBEq, ne_eq, not_false_eq_true, hs_all hlt, hc4]
    exact ih_F_kind_cursor_one_12 _ _ hF _ _ _ hlt
set_option maxHeartbeats 4000000 in
theorem st_F_kind_cursor_one_12 (f_F_kind_cursor_one_52 : (Int × Int × List Int × Int × Ykind_cursor) → Option (Int × List Int × Ykind_cursor)) (ih_F_kind_cursor_one_52 : ∀ v p, f_F_kind_cursor_one_52 v = some p → M_F_kind_cursor_one_52 v p) (v : Int × Int × List Int × Int × Bool × Ykind_cursor) (p : Int × List Int × Ykind_cursor) (hF : (
  if v.2.2.2.2.1 = true then (
    F_kind_cursor_fails v.2.2.2.2.2 (v.2.1 != (0 : Int)) 2 >>= fun r6 =>
    subl r6.s v.2.2.2.1 r6.at_ >>= fun x7 =>
    appl 16 r6.names [x7] >>= fun x8 =>
    some (0, [], (⟨r6.s, r6.at_, r6.e_, x8, r6.depth⟩ : Ykind_cursor))
  ) else
  F_kind_inner v.2.1 >>= fun r9 =>
  if (r9 == (0 : Int)) = true then (
    some (v.2.1, [], v.2.2.2.2.2)
  ) else
  if (v.2.2.2.2.2.e_ != (0 : Int)) = true then (
    some (v.2.1, [], v.2.2.2.2.2)
  ) else
  f_F_kind_cursor_one_52 (v.1, v.2.1, v.2.2.1, r9, v.2.2.2.2.2)) = some p) : M_F_kind_cursor_one_12 v p := by
  intro h b rest hlt
  unfold C170_12
  simp only [go_sem, reduceIte, Nat.reduceEqDiff, Nat.reduceAdd, Nat.reduceLeDiff, Nat.reduceLT, Nat.reduceSub, Nat.reduceBEq, ne_eq, not_false_eq_true, hs_all hlt]
  rcases iteE hF with ⟨hc5, hF⟩ | ⟨hc5, hF⟩
  · simp only [go_sem, reduceIte, Nat.reduceEqDiff, Nat.reduceAdd, Nat.reduceLeDiff, Nat.reduceLT, Nat.reduceSub, Nat.reduceBEq, ne_eq, not_false_eq_true, hs_all hlt, hc5]
    obtain ⟨r6, hr6, hF⟩ := bindE hF
    refine DoesR_m (call_F_kind_cursor_fails hr6 (hs_get hlt)) ?_
    simp only [go_sem, reduceIte, Nat.reduceEqDiff, Nat.reduceAdd, Nat.reduceLeDiff, Nat.reduceLT, Nat.reduceSub, Nat.reduceBEq, ne_eq, not_false_eq_true, hs_all hlt, hc5]
    obtain ⟨x7, hx7, hF⟩ := bindE hF
    refine DoesO_m (hx7) ?_
    simp only [go_sem, reduceIte, Nat.reduceEqDiff, Nat.reduceAdd, Nat.reduceLeDiff, Nat.reduceLT, Nat.reduceSub, Nat.reduceBEq, ne_eq, not_false_eq_true, hs_all hlt, hc5]
    obtain ⟨x8, hx8, hF⟩ := bindE hF
    refine DoesO_m (appl_map AV.str hx8) ?_
    simp only [go_sem, reduceIte, Nat.reduceEqDiff, Nat.reduceAdd, Nat.reduceLeDiff, Nat.reduceLT, Nat.reduceSub, Nat.reduceBEq, ne_eq, not_false_eq_true, hs_all hlt, hc5]
    all_goals (cases hF; rfl)
  · simp only [go_sem, reduceIte, Nat.reduceEqDiff, Nat.reduceAdd, Nat.reduceLeDiff, Nat.reduceLT, Nat.reduceSub, Nat.reduceBEq, ne_eq, not_false_eq_true, hs_all hlt, hc5]
    obtain ⟨r9, hr9, hF⟩ := bindE hF
    refine DoesR_m (call_F_kind_inner hr9) ?_
    simp only [go_sem, reduceIte, Nat.reduceEqDiff, Nat.reduceAdd, Nat.reduceLeDiff, Nat.reduceLT, Nat.reduceSub, Nat.reduceBEq, ne_eq, not_false_eq_true, hs_all hlt, hc5]
    rcases iteE hF with ⟨hc10, hF⟩ | ⟨hc10, hF⟩
    · simp only [go_sem, reduceIte, Nat.reduceEqDiff, Nat.reduceAdd, Nat.reduceLeDiff, Nat.reduceLT, Nat.reduceSub, Nat.reduceBEq, ne_eq, not_false_eq_true, hs_all hlt, hc5, hc10]
      all_goals (cases hF; rfl)
    · simp only [go_sem, reduceIte, Nat.reduceEqDiff, Nat.reduceAdd, Nat.reduceLeDiff, Nat.reduceLT, Nat.reduceSub, Nat.reduceBEq, ne_eq, not_false_eq_true, hs_all hlt, hc5, hc10]
      rcases iteE hF with ⟨hc11, hF⟩ | ⟨hc11, hF⟩
      · simp only [go_sem, reduceIte, Nat.reduceEqDiff, Nat.reduceAdd, Nat.reduceLeDiff, Nat.reduceLT, Nat.reduceSub, Nat.reduceBEq, ne_eq, not_false_eq_true, hs_all hlt, hc5, hc10, hc11]
        all_goals (cases hF; rfl)
      · simp only [go_sem, reduceIte, Nat.reduceEqDiff, Nat.reduceAdd, Nat.reduceLeDiff, Nat.reduceLT, Nat.reduceSub, Nat.reduceBEq, ne_eq, not_false_eq_true, hs_all hlt, hc5, hc10, hc11]
        exact ih_F_kind_cursor_one_52 _ _ hF _ _ _ hlt
set_option maxHeartbeats 4000000 in
theorem st_F_kind_cursor_one_52 (f_F_kind_cursor_one_41 : (Int × Int × List Int × Int × Int × Ykind_cursor) → Option (Int × List Int × Ykind_cursor)) (ih_F_kind_cursor_one_41 : ∀ v p, f_F_kind_cursor_one_41 v = some p → M_F_kind_cursor_one_41 v p) (v : Int × Int × List Int × Int × Ykind_cursor) (p : Int × List Int × Ykind_cursor) (hF : (
  F_kind_cursor_fails v.2.2.2.2 (decide (v.1 ≥ (12 : Int))) 6 >>= fun r12 =>
  f_F_kind_cursor_one_41 (v.1, v.2.1, v.2.2.1, v.2.2.2.1, 0, (⟨r12.s, r12.at_, r12.e_, r12.names, (imax r12.depth (iadd .i64 v.1 1))⟩ : Ykind_cursor))) = some p) : M_F_kind_cursor_one_52 v p := by
  intro h b rest hlt
  unfold C170_52
  simp only [go_sem, reduceIte, Nat.reduceEqDiff, Nat.reduceAdd, Nat.reduceLeDiff, Nat.reduceLT, Nat.reduceSub, Nat.reduceBEq, ne_eq, not_false_eq_true, hs_all hlt]
  obtain ⟨r12, hr12, hF⟩ := bindE hF
  refine DoesR_m (call_F_kind_cursor_fails hr12 (hs_get hlt)) ?_
  simp only [go_sem, reduceIte, Nat.reduceEqDiff, Nat.reduceAdd, Nat.reduceLeDiff, Nat.reduceLT, Nat.reduceSub, Nat.reduceBEq, ne_eq, not_false_eq_true, hs_all hlt]
  exact ih_F_kind_cursor_one_41 _ _ hF _ _ _ hlt
set_option maxHeartbeats 4000000 in
theorem st_F_kind_cursor_one_41 (f_F_kind_cursor_one : (Ykind_cursor × Int) → Option (Int × List Int × Ykind_cursor)) (ih_F_kind_cursor_one : ∀ v p, f_F_kind_cursor_one v = some p → M_F_kind_cursor_one v p) (f_F_kind_cursor_one_41 : (Int × Int × List Int × Int × Int × Ykind_cursor) → Option (Int × List Int × Ykind_cursor)) (ih_F_kind_cursor_one_41 : ∀ v p, f_F_kind_cursor_one_41 v = some p → M_F_kind_cursor_one_41 v p) (v : Int × Int × List Int × Int × Int × Ykind_cursor) (p : Int × List Int × Ykind_cursor) (hF : (
  if (decide (v.2.2.2.2.1 < v.2.2.2.1)) = true then (
    lidx [60, 44] v.2.2.2.2.1 >>= fun x14 =>
    F_kind_cursor_sign v.2.2.2.2.2 x14 >>= fun r15 =>
    if (r15.e_ == (0 : Int)) = true then (
      f_F_kind_cursor_one (r15, (iadd .i64 v.1 1)) >>= fun r17 =>
      appl 8 v.2.2.1 [r17.2.2.at_] >>= fun x18 =>
      f_F_kind_cursor_one_41 (v.1, v.2.1, x18, v.2.2.2.1, (iadd .i64 v.2.2.2.2.1 1), r17.2.2)
    ) else
    appl 8 v.2.2.1 [r15.at_] >>= fun x19 =>
    f_F_kind_cursor_one_41 (v.1, v.2.1, x19, v.2.2.2.1, (iadd .i64 v.2.2.2.2.1 1), r15)
  ) else
  F_kind_cursor_sign v.2.2.2.2.2 (62 : UInt8) >>= fun r20 =>
  some (v.2.1, v.2.2.1, r20)) = some p) : M_F_kind_cursor_one_41 v p := by
  intro h b rest hlt
  unfold C170_41
  simp only [go_sem, reduceIte, Nat.reduceEqDiff, Nat.reduceAdd, Nat.reduceLeDiff, Nat.reduceLT, Nat.reduceSub, Nat.reduceBEq, ne_eq, not_false_eq_true, hs_all hlt]
  rcases iteE hF with ⟨hc13, hF⟩ | ⟨hc13, hF⟩
  · simp only [go_sem, reduceIte, Nat.reduceEqDiff, Nat.reduceAdd, Nat.reduceLeDiff, Nat.reduceLT, Nat.reduceSub, Nat.reduceBEq, ne_eq, not_false_eq_true, hs_all hlt, hc13]
    obtain ⟨x14, hx14, hF⟩ := bindE hF
    refine DoesO_m (hx14) ?_
    simp only [go_sem, reduceIte, Nat.reduceEqDiff, Nat.reduceAdd, Nat.reduceLeDiff, Nat.reduceLT, Nat.reduceSub, Nat.reduceBEq, ne_eq, not_false_eq_true, hs_all hlt, hc13]
    obtain ⟨r15, hr15, hF⟩ := bindE hF
    refine DoesR_m (call_F_kind_cursor_sign hr15 (hs_get hlt)) ?_
    simp only [go_sem, reduceIte, Nat.reduceEqDiff, Nat.reduceAdd, Nat.reduceLeDiff, Nat.reduceLT, Nat.reduceSub, Nat.reduceBEq, ne_eq, not_false_eq_true, hs_all hlt, hc13]
    rcases iteE hF with ⟨hc16, hF⟩ | ⟨hc16, hF⟩
    · simp only [go_sem, reduceIte, Nat.reduceEqDiff, Nat.reduceAdd, Nat.reduceLeDiff, Nat.reduceLT, Nat.reduceSub, Nat.reduceBEq, ne_eq, not_false_eq_true, hs_all hlt, hc13, hc16]
      obtain ⟨r17, hr17, hF⟩ := bindE hF
      refine DoesR_m (callA_ptr (by simp only [go_sem]) (hs_get hlt) (fun H hH => ih_F_kind_cursor_one _ _ hr17 H _ _  hH)) ?_
      simp only [go_sem, reduceIte, Nat.reduceEqDiff, Nat.reduceAdd, Nat.reduceLeDiff, Nat.reduceLT, Nat.reduceSub, Nat.reduceBEq, ne_eq, not_false_eq_true, hs_all hlt, hc13, hc16]
      obtain ⟨x18, hx18, hF⟩ := bindE hF
      refine DoesO_m (appl_map (AV.int .i64) hx18) ?_
      simp only [go_sem, reduceIte, Nat.reduceEqDiff, Nat.reduceAdd, Nat.reduceLeDiff, Nat.reduceLT, Nat.reduceSub, Nat.reduceBEq, ne_eq, not_false_eq_true, hs_all hlt, hc13, hc16]
      exact ih_F_kind_cursor_one_41 _ _ hF _ _ _ hlt
    · simp only [go_sem, reduceIte, Nat.reduceEqDiff, Nat.reduceAdd, Nat.reduceLeDiff, Nat.reduceLT, Nat.reduceSub, Nat.reduceBEq, ne_eq, not_false_eq_true, hs_all hlt, hc13, hc16]
      obtain ⟨x19, hx19, hF⟩ := bindE hF
      refine DoesO_m (appl_map (AV.int .i64) hx19) ?_
      simp only [go_sem, reduceIte, Nat.reduceEqDiff, Nat.reduceAdd, Nat.reduceLeDiff, Nat.reduceLT, Nat.reduceSub, Nat.reduceBEq, ne_eq, not_false_eq_true, hs_all hlt, hc13, hc16]
      exact ih_F_kind_cursor_one_41 _ _ hF _ _ _ hlt
  · simp only [go_sem, reduceIte, Nat.reduceEqDiff, Nat.reduceAdd, Nat.reduceLeDiff, Nat.reduceLT, Nat.reduceSub, Nat.reduceBEq, ne_eq, not_false_eq_true, hs_all hlt, hc13]
    obtain ⟨r20, hr20, hF⟩ := bindE hF
    refine DoesR_m (call_F_kind_cursor_sign hr20 (hs_get hlt)) ?_
    simp only [go_sem, reduceIte, Nat.reduceEqDiff, Nat.reduceAdd, Nat.reduceLeDiff, Nat.reduceLT, Nat.reduceSub, Nat.reduceBEq, ne_eq, not_false_eq_true, hs_all hlt, hc13]
    all_goals (cases hF; rfl)
theorem s_F_kind_cursor_one : (∀ v p, F_kind_cursor_one v = some p → M_F_kind_cursor_one v p) ∧ (∀ v p, F_kind_cursor_one_12 v = some p → M_F_kind_cursor_one_12 v p) ∧ (∀ v p, F_kind_cursor_one_52 v = some p → M_F_kind_cursor_one_52 v p) ∧ (∀ v p, F_kind_cursor_one_41 v = some p → M_F_kind_cursor_one_41 v p) := F_kind_cursor_one.mutual_partial_correctness M_F_kind_cursor_one M_F_kind_cursor_one_12 M_F_kind_cursor_one_52 M_F_kind_cursor_one_41 (fun f0 i0 v p hF => st_F_kind_cursor_one f0 i0 v p hF) (fun f0 i0 v p hF => st_F_kind_cursor_one_12 f0 i0 v p hF) (fun f0 i0 v p hF => st_F_kind_cursor_one_52 f0 i0 v p hF) (fun f0 f1 i0 i1 v p hF => st_F_kind_cursor_one_41 f0 i0 f1 i1 v p hF)
theorem t_F_kind_cursor_one : ∀ v p, F_kind_cursor_one v = some p → M_F_kind_cursor_one v p := s_F_kind_cursor_one.1
theorem t_F_kind_cursor_one_12 : ∀ v p, F_kind_cursor_one_12 v = some p → M_F_kind_cursor_one_12 v p := s_F_kind_cursor_one.2.1
theorem t_F_kind_cursor_one_52 : ∀ v p, F_kind_cursor_one_52 v = some p → M_F_kind_cursor_one_52 v p := s_F_kind_cursor_one.2.2.1
theorem t_F_kind_cursor_one_41 : ∀ v p, F_kind_cursor_one_41 v = some p → M_F_kind_cursor_one_41 v p := s_F_kind_cursor_one.2.2.2
theorem call_F_kind_cursor_one {c : Ykind_cursor} {deep : Int} {p : Int × List Int × Ykind_cursor} (hx : F_kind_cursor_one (c, deep) = some p) {h : Heap} {b : Nat} {rest : List AV}  (hb : h[b]? = some (.row ((.str c.s) :: (.int .i64 c.at_) :: (.int .i64 c.e_) :: (.sl true 1 (List.map AV.str c.names)) :: (.int .i64 c.depth) :: rest))) : callA (Run T0 N_kind_cursor_one) [.ptr b 0, .int .i64 deep] h = some ((.tup [.int .i64 p.1, .sl false 1 (List.map (AV.int .i64) p.2.1)]), h.set b (.row ((.str p.2.2.s) :: (.int .i64 p.2.2.at_) :: (.int .i64 p.2.2.e_) :: (.sl true 1 (List.map AV.str p.2.2.names)) :: (.int .i64 p.2.2.depth) :: rest))) :=
  callA_ptr (by simp only [go_sem]) hb (fun H hH => t_F_kind_cursor_one _ _ hx H b rest  hH)
def F_kind_read (t : List UInt8) : Option (Ykind_cursor × Int × List Int) :=
  F_kind_cursor_one ((⟨t, 0, 0, [], 0⟩ : Ykind_cursor), 0) >>= fun r1 =>
  F_kind_cursor_fails r1.2.2 (decide (r1.2.2.at_ < (t.length : Int))) 2 >>= fun r2 =>
  some (r2, r1.1, r1.2.1)
set_option maxHeartbeats 4000000 in
theorem t_F_kind_read : ∀ (t : List UInt8) (p : Ykind_cursor × Int × List Int), F_kind_read t = some p → ∀ (h : Heap), Run T0 N_kind_read [.str t] h = some ((.tup [.ptr h.length 0, .int .i64 p.2.1, .sl false 1 (List.map (AV.int .i64) p.2.2)]), (h ++ [.row [.str p.1.s, .int .i64 p.1.at_, .int .i64 p.1.e_, .sl true 1 (List.map AV.str p.1.names), .int .i64 p.1.depth]])) := by
  intro t p hF
  unfold F_kind_read at hF
  intro h
  refine run_ofK at_kind_read (n := h.length) rfl ?_
  simp only [go_sem, reduceIte, Nat.reduceEqDiff, Nat.reduceAdd, Nat.reduceLeDiff, Nat.reduceLT, Nat.reduceSub, Nat.reduceBEq, ne_eq, not_false_eq_true]
  obtain ⟨r1, hr1, hF⟩ := bindE hF
  refine DoesR_m (call_F_kind_cursor_one hr1 (lb_get0 rfl rfl)) ?_
  simp only [go_sem, reduceIte, Nat.reduceEqDiff, Nat.reduceAdd, Nat.reduceLeDiff, Nat.reduceLT, Nat.reduceSub, Nat.reduceBEq, ne_eq, not_false_eq_true]
  obtain ⟨r2, hr2, hF⟩ := bindE hF
  refine DoesR_m (call_F_kind_cursor_fails hr2 (lb_get0 rfl rfl)) ?_
  simp only [go_sem, reduceIte, Nat.reduceEqDiff, Nat.reduceAdd, Nat.reduceLeDiff, Nat.reduceLT, Nat.reduceSub, Nat.reduceBEq, ne_eq, not_false_eq_true]
  all_goals (cases hF; rfl)
theorem call_F_kind_read {t : List UInt8} {p : Ykind_cursor × Int × List Int} (hx : F_kind_read t = some p) {h : Heap} : callA (Run T0 N_kind_read) [.str t] h = some ((.tup [.ptr h.length 0, .int .i64 p.2.1, .sl false 1 (List.map (AV.int .i64) p.2.2)]), (h ++ [.row [.str p.1.s, .int .i64 p.1.at_, .int .i64 p.1.e_, .sl true 1 (List.map AV.str p.1.names), .int .i64 p.1.depth]])) :=
  callA_newF (by simp only [go_sem]) (r := fun n => (.tup [.ptr n 0, .int .i64 p.2.1, .sl false 1 (List.map (AV.int .i64) p.2.2)])) (fun H => t_F_kind_read _ _ hx H)
def F_internal_stringslite_IndexByte (s : List UInt8) (c : UInt8) : Option (Int) :=
  F_internal_bytealg_IndexByteString s c >>= fun r1 =>
  some r1
set_option maxHeartbeats 4000000 in
theorem t_F_internal_stringslite_IndexByte : ∀ (s : List UInt8) (c : UInt8) (p : Int), F_internal_stringslite_IndexByte s c = some p → ∀ (h : Heap), Run T0 N_internal_stringslite_IndexByte [.str s, .int .u8 (c.toNat : Int)] h = some ((.int .i64 p), h) := by
  intro s c p hF
  unfold F_internal_stringslite_IndexByte at hF
  intro h
  refine run_ofK at_internal_stringslite_IndexByte (n := h.length) rfl ?_
  simp only [go_sem, reduceIte, Nat.reduceEqDiff, Nat.reduceAdd, Nat.reduceLeDiff, Nat.reduceLT, Nat.reduceSub, Nat.reduceBEq, ne_eq, not_false_eq_true]
  obtain ⟨r1, hr1, hF⟩ := bindE hF
  refine DoesR_m (call_F_internal_bytealg_IndexByteString hr1) ?_
  simp only [go_sem, reduceIte, Nat.reduceEqDiff, Nat.reduceAdd, Nat.reduceLeDiff, Nat.reduceLT, Nat.reduceSub, Nat.reduceBEq, ne_eq, not_false_eq_true]
  all_goals (cases hF; rfl)
theorem call_F_internal_stringslite_IndexByte {s : List UInt8} {c : UInt8} {p : Int} (hx : F_internal_stringslite_IndexByte s c = some p) {h : Heap} : callA (Run T0 N_internal_stringslite_IndexByte) [.str s, .int .u8 (c.toNat : Int)] h = some ((.int .i64 p), h) :=
  callA_pure (by simp only [go_sem]) (fun H => t_F_internal_stringslite_IndexByte _ _ _ hx H)
def F_strings_IndexByte (s : List UInt8) (c : UInt8) : Option (Int) :=
  F_internal_stringslite_IndexByte s c >>= fun r1 =>
  some r1
set_option maxHeartbeats 4000000 in
theorem t_F_strings_IndexByte : ∀ (s : List UInt8) (c : UInt8) (p : Int), F_strings_IndexByte s c = some p → ∀ (h : Heap), Run T0 N_strings_IndexByte [.str s, .int .u8 (c.toNat : Int)] h = some ((.int .i64 p), h) := by
  intro s c p hF
  unfold F_strings_IndexByte at hF
  intro h
  refine run_ofK at_strings_IndexByte (n := h.length) rfl ?_
  simp only [go_sem, reduceIte, Nat.reduceEqDiff, Nat.reduceAdd, Nat.reduceLeDiff, Nat.reduceLT, Nat.reduceSub, Nat.reduceBEq, ne_eq, not_false_eq_true]
  obtain ⟨r1, hr1, hF⟩ := bindE hF
  refine DoesR_m (call_F_internal_stringslite_IndexByte hr1) ?_
  simp only [go_sem, reduceIte, Nat.reduceEqDiff, Nat.reduceAdd, Nat.reduceLeDiff, Nat.reduceLT, Nat.reduceSub, Nat.reduceBEq, ne_eq, not_false_eq_true]
  all_goals (cases hF; rfl)
theorem call_F_strings_IndexByte {s : List UInt8} {c : UInt8} {p : Int} (hx : F_strings_IndexByte s c = some p) {h : Heap} : callA (Run T0 N_strings_IndexByte) [.str s, .int .u8 (c.toNat : Int)] h = some ((.int .i64 p), h) :=
  callA_pure (by simp only [go_sem]) (fun H => t_F_strings_IndexByte _ _ _ hx H)
end Go.Proofs.YtfihinodhhhllaaGreat
