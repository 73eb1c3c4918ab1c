/- The functions as plain functions, and that the runs come to their answers; printed by lift.py. -/
import Derived.Test.YtfihinodhhhllaaGreatIbH
import Derived.Test.YtfihinodhhhllaaGreatIbF0
import Derived.Test.YtfihinodhhhllaaGreatIbF1
import Derived.Test.YtfihinodhhhllaaGreatIbF3
import Derived.Test.YtfihinodhhhllaaGreatIbF4
set_option linter.unusedVariables false
set_option linter.unusedSimpArgs false
namespace Go.Proofs.YtfihinodhhhllaaGreat
open Go
def F_tcomp_Encode_12 (t : List UInt8) (bx0 : YSchema) (bx1 : YValue) (bx2 : YLimit) : Option (List UInt8 × Int) :=
  F_tcomp_writer_value ((⟨bx0, []⟩ : Ytcomp_writer), t, bx1) >>= fun r5 =>
  F_tcomp_writer_done r5 bx1 bx2 >>= fun r6 =>
  some (r6.1, r6.2)
set_option maxHeartbeats 4000000 in
theorem t_F_tcomp_Encode_12 : ∀ (t : List UInt8) (bx0 : YSchema) (bx1 : YValue) (bx2 : YLimit) (p : List UInt8 × Int), F_tcomp_Encode_12 t bx0 bx1 bx2 = some p → ∀ (h : Heap), Does T0 C16_12 (aft T0 (EndQ false [.tmp 8, .tmp 9] h.length (.tup [.sl false 1 (List.map e8 p.1), .int .i64 p.2]) (h)) []) .mk .mk [(1, .str t), (4, .ptr h.length 0), (6, .ptr (h.length + 1) 0), (7, .ptr (h.length + 2) 0)] (h ++ [.row [.sl false 3 (List.map YSStruct.av bx0.structs), .sl false 2 (List.map YSEnum.av bx0.enums), .sl false 2 (List.map YSService.av bx0.services)], .row [.int .i64 bx1.kind, .int .i64 bx1.n_, .str bx1.s, .sl false 5 (List.map YValue.av bx1.l), .sl false 1 (List.map (AV.int .i64) bx1.iDs)], .row [.int .i64 bx2.depth, .int .i64 bx2.bytes]]) := by
  intro t bx0 bx1 bx2 p hF
  unfold F_tcomp_Encode_12 at hF
  intro h
  unfold C16_12
  simp only [go_sem, reduceIte, Nat.reduceEqDiff, Nat.reduceAdd, Nat.reduceLeDiff, Nat.reduceLT, Nat.reduceSub, Nat.reduceBEq, ne_eq, not_false_eq_true]
  obtain ⟨r5, hr5, hF⟩ := bindE hF
  refine DoesR_m (call_F_tcomp_writer_value hr5 (lb_get rfl rfl)) ?_
  simp only [go_sem, reduceIte, Nat.reduceEqDiff, Nat.reduceAdd, Nat.reduceLeDiff, Nat.reduceLT, Nat.reduceSub, Nat.reduceBEq, ne_eq, not_false_eq_true]
  obtain ⟨r6, hr6, hF⟩ := bindE hF
  refine DoesR_m (call_F_tcomp_writer_done hr6 (lb_get rfl rfl)) ?_
  simp only [go_sem, reduceIte, Nat.reduceEqDiff, Nat.reduceAdd, Nat.reduceLeDiff, Nat.reduceLT, Nat.reduceSub, Nat.reduceBEq, ne_eq, not_false_eq_true]
  all_goals (cases hF; rfl)
def F_kind_May (t : List UInt8) : Option (Bool) :=
  F_kind_read t >>= fun r1 =>
  some (r1.1.e_ == (0 : Int))
set_option maxHeartbeats 4000000 in
theorem t_F_kind_May : ∀ (t : List UInt8) (p : Bool), F_kind_May t = some p → ∀ (h : Heap), Run T0 N_kind_May [.str t] h = some ((.bool p), h) := by
  intro t p hF
  unfold F_kind_May at hF
  intro h
  refine run_ofK at_kind_May (n := h.length) rfl ?_
  simp only [go_sem, reduceIte, Nat.reduceEqDiff, Nat.reduceAdd, Nat.reduceLeDiff, Nat.reduceLT, Nat.reduceSub, Nat.reduceBEq, ne_eq, not_false_eq_true]
  obtain ⟨r1, hr1, hF⟩ := bindE hF
  refine DoesR_m (call_F_kind_read hr1) ?_
  simp only [go_sem, reduceIte, Nat.reduceEqDiff, Nat.reduceAdd, Nat.reduceLeDiff, Nat.reduceLT, Nat.reduceSub, Nat.reduceBEq, ne_eq, not_false_eq_true]
  all_goals (cases hF; rfl)
theorem call_F_kind_May {t : List UInt8} {p : Bool} (hx : F_kind_May t = some p) {h : Heap} : callA (Run T0 N_kind_May) [.str t] h = some ((.bool p), h) :=
  callA_pure (by simp only [go_sem]) (fun H => t_F_kind_May _ _ hx H)
def F_kind_Names (t : List UInt8) : Option (List (List UInt8)) :=
  F_kind_read t >>= fun r1 =>
  if (r1.1.e_ != (0 : Int)) = true then (
    some []
  ) else
  some r1.1.names
set_option maxHeartbeats 4000000 in
theorem t_F_kind_Names : ∀ (t : List UInt8) (p : List (List UInt8)), F_kind_Names t = some p → ∀ (h : Heap), Run T0 N_kind_Names [.str t] h = some ((.sl false 1 (List.map AV.str p)), h) := by
  intro t p hF
  unfold F_kind_Names at hF
  intro h
  refine run_ofK at_kind_Names (n := h.length) rfl ?_
  simp only [go_sem, reduceIte, Nat.reduceEqDiff, Nat.reduceAdd, Nat.reduceLeDiff, Nat.reduceLT, Nat.reduceSub, Nat.reduceBEq, ne_eq, not_false_eq_true]
  obtain ⟨r1, hr1, hF⟩ := bindE hF
  refine DoesR_m (call_F_kind_read hr1) ?_
  simp only [go_sem, reduceIte, Nat.reduceEqDiff, Nat.reduceAdd, Nat.reduceLeDiff, Nat.reduceLT, Nat.reduceSub, Nat.reduceBEq, ne_eq, not_false_eq_true]
  rcases iteE hF with ⟨hc2, hF⟩ | ⟨hc2, hF⟩
  · simp only [go_sem, reduceIte, Nat.reduceEqDiff, Nat.reduceAdd, Nat.reduceLeDiff, Nat.reduceLT, Nat.reduceSub, Nat.reduceBEq, ne_eq, not_false_eq_true, hc2]
    all_goals (cases hF; rfl)
  · simp only [go_sem, reduceIte, Nat.reduceEqDiff, Nat.reduceAdd, Nat.reduceLeDiff, Nat.reduceLT, Nat.reduceSub, Nat.reduceBEq, ne_eq, not_false_eq_true, hc2]
    all_goals (cases hF; rfl)
theorem call_F_kind_Names {t : List UInt8} {p : List (List UInt8)} (hx : F_kind_Names t = some p) {h : Heap} : callA (Run T0 N_kind_Names) [.str t] h = some ((.sl false 1 (List.map AV.str p)), h) :=
  callA_pure (by simp only [go_sem]) (fun H => t_F_kind_Names _ _ hx H)
def F_slices_IndexFunc_string_string_16 (v : List (List UInt8) × ((List UInt8) → Option Bool) × Int × Int) : Option (Int) :=
  if (decide (v.2.2.2 < v.2.2.1)) = true then (
    lidx v.1 v.2.2.2 >>= fun x2 =>
    v.2.1 x2 >>= fun r3 =>
    if r3 = true then (
      some v.2.2.2
    ) else
    F_slices_IndexFunc_string_string_16 (v.1, v.2.1, v.2.2.1, (iadd .i64 v.2.2.2 1))
  ) else
  some (-1)
  partial_fixpoint
theorem F_slices_IndexFunc_string_string_16_eq (s : List (List UInt8)) (f : ((List UInt8) → Option Bool)) (t7 : Int) (t8 : Int) : F_slices_IndexFunc_string_string_16 (s, f, t7, t8) =
  if (decide (t8 < t7)) = true then (
    lidx s t8 >>= fun x2 =>
    f x2 >>= fun r3 =>
    if r3 = true then (
      some t8
    ) else
    F_slices_IndexFunc_string_string_16 (s, f, t7, (iadd .i64 t8 1))
  ) else
  some (-1) := F_slices_IndexFunc_string_string_16.eq_1 (s, f, t7, t8)
def M_F_slices_IndexFunc_string_string_16 (v : List (List UInt8) × ((List UInt8) → Option Bool) × Int × Int) (p : Int) : Prop := ∀ (h : Heap) (g_f : Nat) (caps_f : List AV) (hp_f : ∀ (l : Heap) (x0 : List UInt8) (r : Bool), v.2.1 x0 = some r → callA (Run T0 g_f) ([.str x0] ++ AV.eraseL caps_f) (h ++ l) = some (.bool r, h ++ l)), Does T0 C116_16 (aft T0 (EndQ false [.tmp 4] h.length (.int .i64 p) (h)) [.gc h.length, .lp C116_17, .blk 0, .seq C116_22]) .mk .mk [(0, .sl false 1 (List.map AV.str v.1)), (1, .fn g_f caps_f), (7, .int .i64 v.2.2.1), (8, .int .i64 v.2.2.2)] h
set_option maxHeartbeats 4000000 in
theorem st_F_slices_IndexFunc_string_string_16 (f_F_slices_IndexFunc_string_string_16 : (List (List UInt8) × ((List UInt8) → Option Bool) × Int × Int) → Option (Int)) (ih_F_slices_IndexFunc_string_string_16 : ∀ v p, f_F_slices_IndexFunc_string_string_16 v = some p → M_F_slices_IndexFunc_string_string_16 v p) (v : List (List UInt8) × ((List UInt8) → Option Bool) × Int × Int) (p : Int) (hF : (
  if (decide (v.2.2.2 < v.2.2.1)) = true then (
    lidx v.1 v.2.2.2 >>= fun x2 =>
    v.2.1 x2 >>= fun r3 =>
    if r3 = true then (
      some v.2.2.2
    ) else
    f_F_slices_IndexFunc_string_string_16 (v.1, v.2.1, v.2.2.1, (iadd .i64 v.2.2.2 1))
  ) else
  some (-1)) = some p) : M_F_slices_IndexFunc_string_string_16 v p := by
  intro h g_f caps_f hp_f
  unfold C116_16
  simp only [go_sem, reduceIte, Nat.reduceEqDiff, Nat.reduceAdd, Nat.reduceLeDiff, Nat.reduceLT, Nat.reduceSub, Nat.reduceBEq, ne_eq, not_false_eq_true]
  rcases iteE hF with ⟨hc1, hF⟩ | ⟨hc1, hF⟩
  · simp only [go_sem, reduceIte, Nat.reduceEqDiff, Nat.reduceAdd, Nat.reduceLeDiff, Nat.reduceLT, Nat.reduceSub, Nat.reduceBEq, ne_eq, not_false_eq_true, hc1]
    obtain ⟨x2, hx2, hF⟩ := bindE hF
    refine DoesO_m (lidx_map AV.str hx2) ?_
    simp only [go_sem, reduceIte, Nat.reduceEqDiff, Nat.reduceAdd, Nat.reduceLeDiff, Nat.reduceLT, Nat.reduceSub, Nat.reduceBEq, ne_eq, not_false_eq_true, hc1]
    obtain ⟨r3, hr3, hF⟩ := bindE hF
    refine DoesR_m ((by have hq := hp_f [] _ _ hr3; simpa only [List.append_nil, List.cons_append, List.nil_append] using hq)) ?_
    simp only [go_sem, reduceIte, Nat.reduceEqDiff, Nat.reduceAdd, Nat.reduceLeDiff, Nat.reduceLT, Nat.reduceSub, Nat.reduceBEq, ne_eq, not_false_eq_true, hc1]
    rcases iteE hF with ⟨hc4, hF⟩ | ⟨hc4, hF⟩
    · simp only [go_sem, reduceIte, Nat.reduceEqDiff, Nat.reduceAdd, Nat.reduceLeDiff, Nat.reduceLT, Nat.reduceSub, Nat.reduceBEq, ne_eq, not_false_eq_true, hc1, hc4]
      all_goals (cases hF; rfl)
    · simp only [go_sem, reduceIte, Nat.reduceEqDiff, Nat.reduceAdd, Nat.reduceLeDiff, Nat.reduceLT, Nat.reduceSub, Nat.reduceBEq, ne_eq, not_false_eq_true, hc1, hc4]
      exact ih_F_slices_IndexFunc_string_string_16 _ _ hF _ _ _ hp_f
  · simp only [go_sem, reduceIte, Nat.reduceEqDiff, Nat.reduceAdd, Nat.reduceLeDiff, Nat.reduceLT, Nat.reduceSub, Nat.reduceBEq, ne_eq, not_false_eq_true, hc1]
    all_goals (cases hF; rfl)
theorem t_F_slices_IndexFunc_string_string_16 : ∀ v p, F_slices_IndexFunc_string_string_16 v = some p → M_F_slices_IndexFunc_string_string_16 v p := F_slices_IndexFunc_string_string_16.partial_correctness M_F_slices_IndexFunc_string_string_16 (fun f0 i0 v p hF => st_F_slices_IndexFunc_string_string_16 f0 i0 v p hF)
def F_slices_IndexFunc_string_string (s : List (List UInt8)) (f : ((List UInt8) → Option Bool)) : Option (Int) :=
  F_slices_IndexFunc_string_string_16 (s, f, (s.length : Int), 0)
set_option maxHeartbeats 4000000 in
theorem t_F_slices_IndexFunc_string_string : ∀ (s : List (List UInt8)) (f : ((List UInt8) → Option Bool)) (p : Int), F_slices_IndexFunc_string_string s f = some p → ∀ (h : Heap) (g_f : Nat) (caps_f : List AV) (hp_f : ∀ (l : Heap) (x0 : List UInt8) (r : Bool), f x0 = some r → callA (Run T0 g_f) ([.str x0] ++ AV.eraseL caps_f) (h ++ l) = some (.bool r, h ++ l)), Run T0 N_slices_IndexFunc_string_string [.sl false 1 (List.map AV.str s), .fn g_f caps_f] h = some ((.int .i64 p), h) := by
  intro s f p hF
  unfold F_slices_IndexFunc_string_string at hF
  intro h g_f caps_f hp_f
  refine run_ofK at_slices_IndexFunc_string_string (n := h.length) rfl ?_
  simp only [go_sem, reduceIte, Nat.reduceEqDiff, Nat.reduceAdd, Nat.reduceLeDiff, Nat.reduceLT, Nat.reduceSub, Nat.reduceBEq, ne_eq, not_false_eq_true]
  exact t_F_slices_IndexFunc_string_string_16 _ _ hF _ _ _ hp_f
theorem call_F_slices_IndexFunc_string_string {s : List (List UInt8)} {f : ((List UInt8) → Option Bool)} {p : Int} (hx : F_slices_IndexFunc_string_string s f = some p) {h : Heap} {g_f : Nat} {caps_f : List AV} (hp_f : ∀ (l : Heap) (x0 : List UInt8) (r : Bool), f x0 = some r → callA (Run T0 g_f) ([.str x0] ++ AV.eraseL caps_f) (h ++ l) = some (.bool r, h ++ l)) : callA (Run T0 N_slices_IndexFunc_string_string) [.sl false 1 (List.map AV.str s), .fn g_f caps_f] h = some ((.int .i64 p), h) :=
  callA_hof (n := AV.bndL caps_f) (by simp only [go_sem]) (t_F_slices_IndexFunc_string_string _ _ _ hx _ _ _ (fun l y0 r hr => hp_hid (by simp only [go_sem]) (fun l => hp_f l y0 r hr) l))
def F_slices_ContainsFunc_string_string (s : List (List UInt8)) (f : ((List UInt8) → Option Bool)) : Option (Bool) :=
  F_slices_IndexFunc_string_string s f >>= fun r1 =>
  some (decide (r1 ≥ (0 : Int)))
set_option maxHeartbeats 4000000 in
theorem t_F_slices_ContainsFunc_string_string : ∀ (s : List (List UInt8)) (f : ((List UInt8) → Option Bool)) (p : Bool), F_slices_ContainsFunc_string_string s f = some p → ∀ (h : Heap) (g_f : Nat) (caps_f : List AV) (hp_f : ∀ (l : Heap) (x0 : List UInt8) (r : Bool), f x0 = some r → callA (Run T0 g_f) ([.str x0] ++ AV.eraseL caps_f) (h ++ l) = some (.bool r, h ++ l)), Run T0 N_slices_ContainsFunc_string_string [.sl false 1 (List.map AV.str s), .fn g_f caps_f] h = some ((.bool p), h) := by
  intro s f p hF
  unfold F_slices_ContainsFunc_string_string at hF
  intro h g_f caps_f hp_f
  refine run_ofK at_slices_ContainsFunc_string_string (n := h.length) rfl ?_
  simp only [go_sem, reduceIte, Nat.reduceEqDiff, Nat.reduceAdd, Nat.reduceLeDiff, Nat.reduceLT, Nat.reduceSub, Nat.reduceBEq, ne_eq, not_false_eq_true]
  obtain ⟨r1, hr1, hF⟩ := bindE hF
  refine DoesR_m (call_F_slices_IndexFunc_string_string hr1 hp_f) ?_
  simp only [go_sem, reduceIte, Nat.reduceEqDiff, Nat.reduceAdd, Nat.reduceLeDiff, Nat.reduceLT, Nat.reduceSub, Nat.reduceBEq, ne_eq, not_false_eq_true]
  all_goals (cases hF; rfl)
theorem call_F_slices_ContainsFunc_string_string {s : List (List UInt8)} {f : ((List UInt8) → Option Bool)} {p : Bool} (hx : F_slices_ContainsFunc_string_string s f = some p) {h : Heap} {g_f : Nat} {caps_f : List AV} (hp_f : ∀ (l : Heap) (x0 : List UInt8) (r : Bool), f x0 = some r → callA (Run T0 g_f) ([.str x0] ++ AV.eraseL caps_f) (h ++ l) = some (.bool r, h ++ l)) : callA (Run T0 N_slices_ContainsFunc_string_string) [.sl false 1 (List.map AV.str s), .fn g_f caps_f] h = some ((.bool p), h) :=
  callA_hof (n := AV.bndL caps_f) (by simp only [go_sem]) (t_F_slices_ContainsFunc_string_string _ _ _ hx _ _ _ (fun l y0 r hr => hp_hid (by simp only [go_sem]) (fun l => hp_f l y0 r hr) l))
def F_tcomp_known_1 (n_ : List UInt8) (cap0 : YSchema) : Option (Bool) :=
  F_value_Kind cap0 n_ >>= fun r1 =>
  some (r1 == (0 : Int))
set_option maxHeartbeats 4000000 in
theorem t_F_tcomp_known_1 : ∀ (n_ : List UInt8) (cap0 : YSchema) (p : Bool), F_tcomp_known_1 n_ cap0 = some p → ∀ (h : Heap) (b : Nat) (rest : List AV) (o0 : Bool) (o1 : Bool) (o2 : Bool) (hlt : b < h.length), Run T0 N_tcomp_known_1 [.str n_, .ptr b 0] (h.set b (.row ((.sl o0 3 (List.map YSStruct.av cap0.structs)) :: (.sl o1 2 (List.map YSEnum.av cap0.enums)) :: (.sl o2 2 (List.map YSService.av cap0.services)) :: rest))) = some ((.bool p), h.set b (.row ((.sl o0 3 (List.map YSStruct.av cap0.structs)) :: (.sl o1 2 (List.map YSEnum.av cap0.enums)) :: (.sl o2 2 (List.map YSService.av cap0.services)) :: rest))) := by
  intro n_ cap0 p hF
  unfold F_tcomp_known_1 at hF
  intro h b rest o0 o1 o2 hlt
  refine run_ofK at_tcomp_known_1 (n := h.length) (by simp only [List.length_set]) ?_
  simp only [go_sem, reduceIte, Nat.reduceEqDiff, Nat.reduceAdd, Nat.reduceLeDiff, Nat.reduceLT, Nat.reduceSub, Nat.reduceBEq, ne_eq, not_false_eq_true, hs_all hlt]
  obtain ⟨r1, hr1, hF⟩ := bindE hF
  refine DoesR_m (call_F_value_Kind hr1) ?_
  simp only [go_sem, reduceIte, Nat.reduceEqDiff, Nat.reduceAdd, Nat.reduceLeDiff, Nat.reduceLT, Nat.reduceSub, Nat.reduceBEq, ne_eq, not_false_eq_true, hs_all hlt]
  all_goals (cases hF; rfl)
theorem call_F_tcomp_known_1 {n_ : List UInt8} {cap0 : YSchema} {p : Bool} (hx : F_tcomp_known_1 n_ cap0 = some p) {h : Heap} {b : Nat} {rest : List AV} {o0 : Bool} {o1 : Bool} {o2 : Bool} (hb : h[b]? = some (.row ((.sl o0 3 (List.map YSStruct.av cap0.structs)) :: (.sl o1 2 (List.map YSEnum.av cap0.enums)) :: (.sl o2 2 (List.map YSService.av cap0.services)) :: rest))) : callA (Run T0 N_tcomp_known_1) [.str n_, .ptr b 0] h = some ((.bool p), h) :=
  callA_ptr0 (by simp only [go_sem]) hb (fun H hH => t_F_tcomp_known_1 _ _ _ hx H b rest o0 o1 o2 hH)
def F_tcomp_known (s : YSchema) (t : List UInt8) : Option (Bool) :=
  F_kind_May t >>= fun r1 =>
  if r1 = true then (
    F_kind_Names t >>= fun r3 =>
    F_slices_ContainsFunc_string_string r3 (fun y0 => F_tcomp_known_1 y0 s) >>= fun r4 =>
    some (!r4)
  ) else
  some false
set_option maxHeartbeats 4000000 in
theorem t_F_tcomp_known : ∀ (s : YSchema) (t : List UInt8) (p : Bool), F_tcomp_known s t = some p → ∀ (h : Heap), Run T0 N_tcomp_known [.agg [.sl false 3 (List.map YSStruct.av s.structs), .sl false 2 (List.map YSEnum.av s.enums), .sl false 2 (List.map YSService.av s.services)], .str t] h = some ((.bool p), h) := by
  intro s t p hF
  unfold F_tcomp_known at hF
  intro h
  refine run_ofK at_tcomp_known (n := h.length) rfl ?_
  simp only [go_sem, reduceIte, Nat.reduceEqDiff, Nat.reduceAdd, Nat.reduceLeDiff, Nat.reduceLT, Nat.reduceSub, Nat.reduceBEq, ne_eq, not_false_eq_true]
  obtain ⟨r1, hr1, hF⟩ := bindE hF
  refine DoesR_m (call_F_kind_May hr1) ?_
  simp only [go_sem, reduceIte, Nat.reduceEqDiff, Nat.reduceAdd, Nat.reduceLeDiff, Nat.reduceLT, Nat.reduceSub, Nat.reduceBEq, ne_eq, not_false_eq_true]
  rcases iteE hF with ⟨hc2, hF⟩ | ⟨hc2, hF⟩
  · simp only [go_sem, reduceIte, Nat.reduceEqDiff, Nat.reduceAdd, Nat.reduceLeDiff, Nat.reduceLT, Nat.reduceSub, Nat.reduceBEq, ne_eq, not_false_eq_true, hc2]
    obtain ⟨r3, hr3, hF⟩ := bindE hF
    refine DoesR_m (call_F_kind_Names hr3) ?_
    simp only [go_sem, reduceIte, Nat.reduceEqDiff, Nat.reduceAdd, Nat.reduceLeDiff, Nat.reduceLT, Nat.reduceSub, Nat.reduceBEq, ne_eq, not_false_eq_true, hc2]
    obtain ⟨r4, hr4, hF⟩ := bindE hF
    refine DoesR_m (call_F_slices_ContainsFunc_string_string hr4 (fun l _ r hy => call_F_tcomp_known_1 hy (app_get (lb_get0 rfl rfl)))) ?_
    simp only [go_sem, reduceIte, Nat.reduceEqDiff, Nat.reduceAdd, Nat.reduceLeDiff, Nat.reduceLT, Nat.reduceSub, Nat.reduceBEq, ne_eq, not_false_eq_true, hc2]
    all_goals (cases hF; rfl)
  · simp only [go_sem, reduceIte, Nat.reduceEqDiff, Nat.reduceAdd, Nat.reduceLeDiff, Nat.reduceLT, Nat.reduceSub, Nat.reduceBEq, ne_eq, not_false_eq_true, hc2]
    all_goals (cases hF; rfl)
theorem call_F_tcomp_known {s : YSchema} {t : List UInt8} {p : Bool} (hx : F_tcomp_known s t = some p) {h : Heap} : callA (Run T0 N_tcomp_known) [.agg [.sl false 3 (List.map YSStruct.av s.structs), .sl false 2 (List.map YSEnum.av s.enums), .sl false 2 (List.map YSService.av s.services)], .str t] h = some ((.bool p), h) :=
  callA_pure (by simp only [go_sem]) (fun H => t_F_tcomp_known _ _ _ hx H)
def F_slices_IndexFunc_api_Member_api_Member_16 (v : List YMember × (YMember → Option Bool) × Int × Int) : Option (Int) :=
  if (decide (v.2.2.2 < v.2.2.1)) = true then (
    lidx v.1 v.2.2.2 >>= fun x2 =>
    v.2.1 x2 >>= fun r3 =>
    if r3 = true then (
      some v.2.2.2
    ) else
    F_slices_IndexFunc_api_Member_api_Member_16 (v.1, v.2.1, v.2.2.1, (iadd .i64 v.2.2.2 1))
  ) else
  some (-1)
  partial_fixpoint
theorem F_slices_IndexFunc_api_Member_api_Member_16_eq (s : List YMember) (f : (YMember → Option Bool)) (t7 : Int) (t8 : Int) : F_slices_IndexFunc_api_Member_api_Member_16 (s, f, t7, t8) =
  if (decide (t8 < t7)) = true then (
    lidx s t8 >>= fun x2 =>
    f x2 >>= fun r3 =>
    if r3 = true then (
      some t8
    ) else
    F_slices_IndexFunc_api_Member_api_Member_16 (s, f, t7, (iadd .i64 t8 1))
  ) else
  some (-1) := F_slices_IndexFunc_api_Member_api_Member_16.eq_1 (s, f, t7, t8)
def M_F_slices_IndexFunc_api_Member_api_Member_16 (v : List YMember × (YMember → Option Bool) × Int × Int) (p : Int) : Prop := ∀ (h : Heap) (g_f : Nat) (caps_f : List AV) (hp_f : ∀ (l : Heap) (x0 : YMember) (r : Bool), v.2.1 x0 = some r → callA (Run T0 g_f) ([.agg [.str x0.name, .bool x0.has, .int .i64 x0.n_]] ++ AV.eraseL caps_f) (h ++ l) = some (.bool r, h ++ l)), Does T0 C139_16 (aft T0 (EndQ false [.tmp 4] h.length (.int .i64 p) (h)) [.gc h.length, .lp C139_17, .blk 0, .seq C139_22]) .mk .mk [(0, .sl false 3 (List.map YMember.av v.1)), (1, .fn g_f caps_f), (7, .int .i64 v.2.2.1), (8, .int .i64 v.2.2.2)] h
set_option maxHeartbeats 4000000 in
theorem st_F_slices_IndexFunc_api_Member_api_Member_16 (f_F_slices_IndexFunc_api_Member_api_Member_16 : (List YMember × (YMember → Option Bool) × Int × Int) → Option (Int)) (ih_F_slices_IndexFunc_api_Member_api_Member_16 : ∀ v p, f_F_slices_IndexFunc_api_Member_api_Member_16 v = some p → M_F_slices_IndexFunc_api_Member_api_Member_16 v p) (v : List YMember × (YMember → Option Bool) × Int × Int) (p : Int) (hF : (
  if (decide (v.2.2.2 < v.2.2.1)) = true then (
    lidx v.1 v.2.2.2 >>= fun x2 =>
    v.2.1 x2 >>= fun r3 =>
    if r3 = true then (
      some v.2.2.2
    ) else
    f_F_slices_IndexFunc_api_Member_api_Member_16 (v.1, v.2.1, v.2.2.1, (iadd .i64 v.2.2.2 1))
  ) else
  some (-1)) = some p) : M_F_slices_IndexFunc_api_Member_api_Member_16 v p := by
  intro h g_f caps_f hp_f
  unfold C139_16
  simp only [go_sem, reduceIte, Nat.reduceEqDiff, Nat.reduceAdd, Nat.reduceLeDiff, Nat.reduceLT, Nat.reduceSub, Nat.reduceBEq, ne_eq, not_false_eq_true]
  rcases iteE hF with ⟨hc1, hF⟩ | ⟨hc1, hF⟩
  · simp only [go_sem, reduceIte, Nat.reduceEqDiff, Nat.reduceAdd, Nat.reduceLeDiff, Nat.reduceLT, Nat.reduceSub, Nat.reduceBEq, ne_eq, not_false_eq_true, hc1]
    obtain ⟨x2, hx2, hF⟩ := bindE hF
    refine DoesO_m (lidx_map YMember.av hx2) ?_
    simp only [go_sem, reduceIte, Nat.reduceEqDiff, Nat.reduceAdd, Nat.reduceLeDiff, Nat.reduceLT, Nat.reduceSub, Nat.reduceBEq, ne_eq, not_false_eq_true, hc1]
    obtain ⟨r3, hr3, hF⟩ := bindE hF
    refine DoesR_m ((by have hq := hp_f [] _ _ hr3; simpa only [List.append_nil, List.cons_append, List.nil_append] using hq)) ?_
    simp only [go_sem, reduceIte, Nat.reduceEqDiff, Nat.reduceAdd, Nat.reduceLeDiff, Nat.reduceLT, Nat.reduceSub, Nat.reduceBEq, ne_eq, not_false_eq_true, hc1]
    rcases iteE hF with ⟨hc4, hF⟩ | ⟨hc4, hF⟩
    · simp only [go_sem, reduceIte, Nat.reduceEqDiff, Nat.reduceAdd, Nat.reduceLeDiff, Nat.reduceLT, Nat.reduceSub, Nat.reduceBEq, ne_eq, not_false_eq_true, hc1, hc4]
      all_goals (cases hF; rfl)
    · simp only [go_sem, reduceIte, Nat.reduceEqDiff, Nat.reduceAdd, Nat.reduceLeDiff, Nat.reduceLT, Nat.reduceSub, Nat.reduceBEq, ne_eq, not_false_eq_true, hc1, hc4]
      exact ih_F_slices_IndexFunc_api_Member_api_Member_16 _ _ hF _ _ _ hp_f
  · simp only [go_sem, reduceIte, Nat.reduceEqDiff, Nat.reduceAdd, Nat.reduceLeDiff, Nat.reduceLT, Nat.reduceSub, Nat.reduceBEq, ne_eq, not_false_eq_true, hc1]
    all_goals (cases hF; rfl)
theorem t_F_slices_IndexFunc_api_Member_api_Member_16 : ∀ v p, F_slices_IndexFunc_api_Member_api_Member_16 v = some p → M_F_slices_IndexFunc_api_Member_api_Member_16 v p := F_slices_IndexFunc_api_Member_api_Member_16.partial_correctness M_F_slices_IndexFunc_api_Member_api_Member_16 (fun f0 i0 v p hF => st_F_slices_IndexFunc_api_Member_api_Member_16 f0 i0 v p hF)
def F_slices_IndexFunc_api_Member_api_Member (s : List YMember) (f : (YMember → Option Bool)) : Option (Int) :=
  F_slices_IndexFunc_api_Member_api_Member_16 (s, f, (s.length : Int), 0)
set_option maxHeartbeats 4000000 in
theorem t_F_slices_IndexFunc_api_Member_api_Member : ∀ (s : List YMember) (f : (YMember → Option Bool)) (p : Int), F_slices_IndexFunc_api_Member_api_Member s f = some p → ∀ (h : Heap) (g_f : Nat) (caps_f : List AV) (hp_f : ∀ (l : Heap) (x0 : YMember) (r : Bool), f x0 = some r → callA (Run T0 g_f) ([.agg [.str x0.name, .bool x0.has, .int .i64 x0.n_]] ++ AV.eraseL caps_f) (h ++ l) = some (.bool r, h ++ l)), Run T0 N_slices_IndexFunc_api_Member_api_Member [.sl false 3 (List.map YMember.av s), .fn g_f caps_f] h = some ((.int .i64 p), h) := by
  intro s f p hF
  unfold F_slices_IndexFunc_api_Member_api_Member at hF
  intro h g_f caps_f hp_f
  refine run_ofK at_slices_IndexFunc_api_Member_api_Member (n := h.length) rfl ?_
  simp only [go_sem, reduceIte, Nat.reduceEqDiff, Nat.reduceAdd, Nat.reduceLeDiff, Nat.reduceLT, Nat.reduceSub, Nat.reduceBEq, ne_eq, not_false_eq_true]
  exact t_F_slices_IndexFunc_api_Member_api_Member_16 _ _ hF _ _ _ hp_f
theorem call_F_slices_IndexFunc_api_Member_api_Member {s : List YMember} {f : (YMember → Option Bool)} {p : Int} (hx : F_slices_IndexFunc_api_Member_api_Member s f = some p) {h : Heap} {g_f : Nat} {caps_f : List AV} (hp_f : ∀ (l : Heap) (x0 : YMember) (r : Bool), f x0 = some r → callA (Run T0 g_f) ([.agg [.str x0.name, .bool x0.has, .int .i64 x0.n_]] ++ AV.eraseL caps_f) (h ++ l) = some (.bool r, h ++ l)) : callA (Run T0 N_slices_IndexFunc_api_Member_api_Member) [.sl false 3 (List.map YMember.av s), .fn g_f caps_f] h = some ((.int .i64 p), h) :=
  callA_hof (n := AV.bndL caps_f) (by simp only [go_sem]) (t_F_slices_IndexFunc_api_Member_api_Member _ _ _ hx _ _ _ (fun l y0 r hr => hp_hid (by simp only [go_sem]) (fun l => hp_f l y0 r hr) l))
def F_slices_ContainsFunc_api_Member_api_Member (s : List YMember) (f : (YMember → Option Bool)) : Option (Bool) :=
  F_slices_IndexFunc_api_Member_api_Member s f >>= fun r1 =>
  some (decide (r1 ≥ (0 : Int)))
set_option maxHeartbeats 4000000 in
theorem t_F_slices_ContainsFunc_api_Member_api_Member : ∀ (s : List YMember) (f : (YMember → Option Bool)) (p : Bool), F_slices_ContainsFunc_api_Member_api_Member s f = some p → ∀ (h : Heap) (g_f : Nat) (caps_f : List AV) (hp_f : ∀ (l : Heap) (x0 : YMember) (r : Bool), f x0 = some r → callA (Run T0 g_f) ([.agg [.str x0.name, .bool x0.has, .int .i64 x0.n_]] ++ AV.eraseL caps_f) (h ++ l) = some (.bool r, h ++ l)), Run T0 N_slices_ContainsFunc_api_Member_api_Member [.sl false 3 (List.map YMember.av s), .fn g_f caps_f] h = some ((.bool p), h) := by
  intro s f p hF
  unfold F_slices_ContainsFunc_api_Member_api_Member at hF
  intro h g_f caps_f hp_f
  refine run_ofK at_slices_ContainsFunc_api_Member_api_Member (n := h.length) rfl ?_
  simp only [go_sem, reduceIte, Nat.reduceEqDiff, Nat.reduceAdd, Nat.reduceLeDiff, Nat.reduceLT, Nat.reduceSub, Nat.reduceBEq, ne_eq, not_false_eq_true]
  obtain ⟨r1, hr1, hF⟩ := bindE hF
  refine DoesR_m (call_F_slices_IndexFunc_api_Member_api_Member hr1 hp_f) ?_
  simp only [go_sem, reduceIte, Nat.reduceEqDiff, Nat.reduceAdd, Nat.reduceLeDiff, Nat.reduceLT, Nat.reduceSub, Nat.reduceBEq, ne_eq, not_false_eq_true]
  all_goals (cases hF; rfl)
theorem call_F_slices_ContainsFunc_api_Member_api_Member {s : List YMember} {f : (YMember → Option Bool)} {p : Bool} (hx : F_slices_ContainsFunc_api_Member_api_Member s f = some p) {h : Heap} {g_f : Nat} {caps_f : List AV} (hp_f : ∀ (l : Heap) (x0 : YMember) (r : Bool), f x0 = some r → callA (Run T0 g_f) ([.agg [.str x0.name, .bool x0.has, .int .i64 x0.n_]] ++ AV.eraseL caps_f) (h ++ l) = some (.bool r, h ++ l)) : callA (Run T0 N_slices_ContainsFunc_api_Member_api_Member) [.sl false 3 (List.map YMember.av s), .fn g_f caps_f] h = some ((.bool p), h) :=
  callA_hof (n := AV.bndL caps_f) (by simp only [go_sem]) (t_F_slices_ContainsFunc_api_Member_api_Member _ _ _ hx _ _ _ (fun l y0 r hr => hp_hid (by simp only [go_sem]) (fun l => hp_f l y0 r hr) l))
def F_value_Check_1 (m : YMember) (cap0 : YValue) : Option (Bool) :=
  some (m.n_ == cap0.n_)
set_option maxHeartbeats 4000000 in
theorem t_F_value_Check_1 : ∀ (m : YMember) (cap0 : YValue) (p : Bool), F_value_Check_1 m cap0 = some p → ∀ (h : Heap) (b : Nat) (rest : List AV) (o0 : Bool) (o1 : Bool) (hlt : b < h.length), Run T0 N_value_Check_1 [.agg [.str m.name, .bool m.has, .int .i64 m.n_], .ptr b 0] (h.set b (.row ((.int .i64 cap0.kind) :: (.int .i64 cap0.n_) :: (.str cap0.s) :: (.sl o0 5 (List.map YValue.av cap0.l)) :: (.sl o1 1 (List.map (AV.int .i64) cap0.iDs)) :: rest))) = some ((.bool p), h.set b (.row ((.int .i64 cap0.kind) :: (.int .i64 cap0.n_) :: (.str cap0.s) :: (.sl o0 5 (List.map YValue.av cap0.l)) :: (.sl o1 1 (List.map (AV.int .i64) cap0.iDs)) :: rest))) := by
  intro m cap0 p hF
  unfold F_value_Check_1 at hF
  intro h b rest o0 o1 hlt
  refine run_ofK at_value_Check_1 (n := h.length) (by simp only [List.length_set]) ?_
  simp only [go_sem, reduceIte, Nat.reduceEqDiff, Nat.reduceAdd, Nat.reduceLeDiff, Nat.reduceLT, Nat.reduceSub, Nat.reduceBEq, ne_eq, not_false_eq_true, hs_all hlt]
  all_goals (cases hF; rfl)
theorem call_F_value_Check_1 {m : YMember} {cap0 : YValue} {p : Bool} (hx : F_value_Check_1 m cap0 = some p) {h : Heap} {b : Nat} {rest : List AV} {o0 : Bool} {o1 : Bool} (hb : h[b]? = some (.row ((.int .i64 cap0.kind) :: (.int .i64 cap0.n_) :: (.str cap0.s) :: (.sl o0 5 (List.map YValue.av cap0.l)) :: (.sl o1 1 (List.map (AV.int .i64) cap0.iDs)) :: rest))) : callA (Run T0 N_value_Check_1) [.agg [.str m.name, .bool m.has, .int .i64 m.n_], .ptr b 0] h = some ((.bool p), h) :=
  callA_ptr0 (by simp only [go_sem]) hb (fun H hH => t_F_value_Check_1 _ _ _ hx H b rest o0 o1 hH)
def F_slices_Index_int_int_16 (v : List Int × Int × Int × Int) : Option (Int) :=
  if (decide (v.2.2.2 < v.2.2.1)) = true then (
    lidx v.1 v.2.2.2 >>= fun x2 =>
    if (v.2.1 == x2) = true then (
      some v.2.2.2
    ) else
    F_slices_Index_int_int_16 (v.1, v.2.1, v.2.2.1, (iadd .i64 v.2.2.2 1))
  ) else
  some (-1)
  partial_fixpoint
theorem F_slices_Index_int_int_16_eq (s : List Int) (v_ : Int) (t7 : Int) (t8 : Int) : F_slices_Index_int_int_16 (s, v_, t7, t8) =
  if (decide (t8 < t7)) = true then (
    lidx s t8 >>= fun x2 =>
    if (v_ == x2) = true then (
      some t8
    ) else
    F_slices_Index_int_int_16 (s, v_, t7, (iadd .i64 t8 1))
  ) else
  some (-1) := F_slices_Index_int_int_16.eq_1 (s, v_, t7, t8)
def M_F_slices_Index_int_int_16 (v : List Int × Int × Int × Int) (p : Int) : Prop := ∀ (h : Heap), Does T0 C145_16 (aft T0 (EndQ false [.tmp 4] h.length (.int .i64 p) (h)) [.gc h.length, .lp C145_17, .blk 0, .seq C145_22]) .mk .mk [(0, .sl false 1 (List.map (AV.int .i64) v.1)), (1, .int .i64 v.2.1), (7, .int .i64 v.2.2.1), (8, .int .i64 v.2.2.2)] h
set_option maxHeartbeats 4000000 in
theorem st_F_slices_Index_int_int_16 (f_F_slices_Index_int_int_16 : (List Int × Int × Int × Int) → Option (Int)) (ih_F_slices_Index_int_int_16 : ∀ v p, f_F_slices_Index_int_int_16 v = some p → M_F_slices_Index_int_int_16 v p) (v : List Int × Int × Int × Int) (p : Int) (hF : (
  if (decide (v.2.2.2 < v.2.2.1)) = true then (
    lidx v.1 v.2.2.2 >>= fun x2 =>
    if (v.2.1 == x2) = true then (
      some v.2.2.2
    ) else
    f_F_slices_Index_int_int_16 (v.1, v.2.1, v.2.2.1, (iadd .i64 v.2.2.2 1))
  ) else
  some (-1)) = some p) : M_F_slices_Index_int_int_16 v p := by
  intro h
  unfold C145_16
  simp only [go_sem, reduceIte, Nat.reduceEqDiff, Nat.reduceAdd, Nat.reduceLeDiff, Nat.reduceLT, Nat.reduceSub, Nat.reduceBEq, ne_eq, not_false_eq_true]
  rcases iteE hF with ⟨hc1, hF⟩ | ⟨hc1, hF⟩
  · simp only [go_sem, reduceIte, Nat.reduceEqDiff, Nat.reduceAdd, Nat.reduceLeDiff, Nat.reduceLT, Nat.reduceSub, Nat.reduceBEq, ne_eq, not_false_eq_true, hc1]
    obtain ⟨x2, hx2, hF⟩ := bindE hF
    refine DoesO_m (lidx_map (AV.int .i64) hx2) ?_
    simp only [go_sem, reduceIte, Nat.reduceEqDiff, Nat.reduceAdd, Nat.reduceLeDiff, Nat.reduceLT, Nat.reduceSub, Nat.reduceBEq, ne_eq, not_false_eq_true, hc1]
    rcases iteE hF with ⟨hc3, hF⟩ | ⟨hc3, hF⟩
    · simp only [go_sem, reduceIte, Nat.reduceEqDiff, Nat.reduceAdd, Nat.reduceLeDiff, Nat.reduceLT, Nat.reduceSub, Nat.reduceBEq, ne_eq, not_false_eq_true, hc1, hc3]
      all_goals (cases hF; rfl)
    · simp only [go_sem, reduceIte, Nat.reduceEqDiff, Nat.reduceAdd, Nat.reduceLeDiff, Nat.reduceLT, Nat.reduceSub, Nat.reduceBEq, ne_eq, not_false_eq_true, hc1, hc3]
      exact ih_F_slices_Index_int_int_16 _ _ hF _
  · simp only [go_sem, reduceIte, Nat.reduceEqDiff, Nat.reduceAdd, Nat.reduceLeDiff, Nat.reduceLT, Nat.reduceSub, Nat.reduceBEq, ne_eq, not_false_eq_true, hc1]
    all_goals (cases hF; rfl)
theorem t_F_slices_Index_int_int_16 : ∀ v p, F_slices_Index_int_int_16 v = some p → M_F_slices_Index_int_int_16 v p := F_slices_Index_int_int_16.partial_correctness M_F_slices_Index_int_int_16 (fun f0 i0 v p hF => st_F_slices_Index_int_int_16 f0 i0 v p hF)
def F_slices_Index_int_int (s : List Int) (v_ : Int) : Option (Int) :=
  F_slices_Index_int_int_16 (s, v_, (s.length : Int), 0)
set_option maxHeartbeats 4000000 in
theorem t_F_slices_Index_int_int : ∀ (s : List Int) (v_ : Int) (p : Int), F_slices_Index_int_int s v_ = some p → ∀ (h : Heap), Run T0 N_slices_Index_int_int [.sl false 1 (List.map (AV.int .i64) s), .int .i64 v_] h = some ((.int .i64 p), h) := by
  intro s v_ p hF
  unfold F_slices_Index_int_int at hF
  intro h
  refine run_ofK at_slices_Index_int_int (n := h.length) rfl ?_
  simp only [go_sem, reduceIte, Nat.reduceEqDiff, Nat.reduceAdd, Nat.reduceLeDiff, Nat.reduceLT, Nat.reduceSub, Nat.reduceBEq, ne_eq, not_false_eq_true]
  exact t_F_slices_Index_int_int_16 _ _ hF _
theorem call_F_slices_Index_int_int {s : List Int} {v_ : Int} {p : Int} (hx : F_slices_Index_int_int s v_ = some p) {h : Heap} : callA (Run T0 N_slices_Index_int_int) [.sl false 1 (List.map (AV.int .i64) s), .int .i64 v_] h = some ((.int .i64 p), h) :=
  callA_pure (by simp only [go_sem]) (fun H => t_F_slices_Index_int_int _ _ _ hx H)
def F_slices_Contains_int_int (s : List Int) (v_ : Int) : Option (Bool) :=
  F_slices_Index_int_int s v_ >>= fun r1 =>
  some (decide (r1 ≥ (0 : Int)))
set_option maxHeartbeats 4000000 in
theorem t_F_slices_Contains_int_int : ∀ (s : List Int) (v_ : Int) (p : Bool), F_slices_Contains_int_int s v_ = some p → ∀ (h : Heap), Run T0 N_slices_Contains_int_int [.sl false 1 (List.map (AV.int .i64) s), .int .i64 v_] h = some ((.bool p), h) := by
  intro s v_ p hF
  unfold F_slices_Contains_int_int at hF
  intro h
  refine run_ofK at_slices_Contains_int_int (n := h.length) rfl ?_
  simp only [go_sem, reduceIte, Nat.reduceEqDiff, Nat.reduceAdd, Nat.reduceLeDiff, Nat.reduceLT, Nat.reduceSub, Nat.reduceBEq, ne_eq, not_false_eq_true]
  obtain ⟨r1, hr1, hF⟩ := bindE hF
  refine DoesR_m (call_F_slices_Index_int_int hr1) ?_
  simp only [go_sem, reduceIte, Nat.reduceEqDiff, Nat.reduceAdd, Nat.reduceLeDiff, Nat.reduceLT, Nat.reduceSub, Nat.reduceBEq, ne_eq, not_false_eq_true]
  all_goals (cases hF; rfl)
theorem call_F_slices_Contains_int_int {s : List Int} {v_ : Int} {p : Bool} (hx : F_slices_Contains_int_int s v_ = some p) {h : Heap} : callA (Run T0 N_slices_Contains_int_int) [.sl false 1 (List.map (AV.int .i64) s), .int .i64 v_] h = some ((.bool p), h) :=
  callA_pure (by simp only [go_sem]) (fun H => t_F_slices_Contains_int_int _ _ _ hx H)
end Go.Proofs.YtfihinodhhhllaaGreat
