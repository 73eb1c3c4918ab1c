/- The functions as plain functions, and that the runs come to their answers; printed by lift.py. -/
import Derived.Test.YtfihinodhhhllaaGreatIbH
import Derived.Test.YtfihinodhhhllaaGreatIbF2
set_option linter.unusedVariables false
set_option linter.unusedSimpArgs false
namespace Go.Proofs.YtfihinodhhhllaaGreat
open Go
def F_slices_IndexFunc_api_SEnum_api_SEnum_16 (v : List YSEnum × (YSEnum → Option Bool) × Int × Int) : Option (Int) :=
  if (decide (v.2.2.2 < v.2.2.1)) = true then (
    lidx v.1 v.2.2.2 >>= fun x2 =>
    v.2.1 x2 >>= fun r3 =>
    if r3 = true then (
      some v.2.2.2
    ) else
    F_slices_IndexFunc_api_SEnum_api_SEnum_16 (v.1, v.2.1, v.2.2.1, (iadd .i64 v.2.2.2 1))
  ) else
  some (-1)
  partial_fixpoint
theorem F_slices_IndexFunc_api_SEnum_api_SEnum_16_eq (s : List YSEnum) (f : (YSEnum → Option Bool)) (t7 : Int) (t8 : Int) : F_slices_IndexFunc_api_SEnum_api_SEnum_16 (s, f, t7, t8) =
  if (decide (t8 < t7)) = true then (
    lidx s t8 >>= fun x2 =>
    f x2 >>= fun r3 =>
    if r3 = true then (
      some t8
    ) else
    F_slices_IndexFunc_api_SEnum_api_SEnum_16 (s, f, t7, (iadd .i64 t8 1))
  ) else
  some (-1) := F_slices_IndexFunc_api_SEnum_api_SEnum_16.eq_1 (s, f, t7, t8)
def M_F_slices_IndexFunc_api_SEnum_api_SEnum_16 (v : List YSEnum × (YSEnum → Option Bool) × Int × Int) (p : Int) : Prop := ∀ (h : Heap) (g_f : Nat) (caps_f : List AV) (hp_f : ∀ (l : Heap) (x0 : YSEnum) (r : Bool), v.2.1 x0 = some r → callA (Run T0 g_f) ([.agg [.str x0.name, .sl false 3 (List.map YMember.av x0.members)]] ++ AV.eraseL caps_f) (h ++ l) = some (.bool r, h ++ l)), Does T0 C124_16 (aft T0 (EndQ false [.tmp 4] h.length (.int .i64 p) (h)) [.gc h.length, .lp C124_17, .blk 0, .seq C124_22]) .mk .mk [(0, .sl false 2 (List.map YSEnum.av v.1)), (1, .fn g_f caps_f), (7, .int .i64 v.2.2.1), (8, .int .i64 v.2.2.2)] h
set_option maxHeartbeats 4000000 in
theorem st_F_slices_IndexFunc_api_SEnum_api_SEnum_16 (f_F_slices_IndexFunc_api_SEnum_api_SEnum_16 : (List YSEnum × (YSEnum → Option Bool) × Int × Int) → Option (Int)) (ih_F_slices_IndexFunc_api_SEnum_api_SEnum_16 : ∀ v p, f_F_slices_IndexFunc_api_SEnum_api_SEnum_16 v = some p → M_F_slices_IndexFunc_api_SEnum_api_SEnum_16 v p) (v : List YSEnum × (YSEnum → Option Bool) × Int × Int) (p : Int) (hF : (
  if (decide (v.2.2.2 < v.2.2.1)) = true then (
    lidx v.1 v.2.2.2 >>= fun x2 =>
    v.2.1 x2 >>= fun r3 =>
    if r3 = true then (
      some v.2.2.2
    ) else
    f_F_slices_IndexFunc_api_SEnum_api_SEnum_16 (v.1, v.2.1, v.2.2.1, (iadd .i64 v.2.2.2 1))
  ) else
  some (-1)) = some p) : M_F_slices_IndexFunc_api_SEnum_api_SEnum_16 v p := by
  intro h g_f caps_f hp_f
  unfold C124_16
  simp only [go_sem, reduceIte, Nat.reduceEqDiff, Nat.reduceAdd, Nat.reduceLeDiff, Nat.reduceLT, Nat.reduceSub, Nat.reduceBEq, ne_eq, not_false_eq_true]
  rcases iteE hF with ⟨hc1, hF⟩ | ⟨hc1, hF⟩
  · simp only [go_sem, reduceIte, Nat.reduceEqDiff, Nat.reduceAdd, Nat.reduceLeDiff, Nat.reduceLT, Nat.reduceSub, Nat.reduceBEq, ne_eq, not_false_eq_true, hc1]
    obtain ⟨x2, hx2, hF⟩ := bindE hF
    refine DoesO_m (lidx_map YSEnum.av hx2) ?_
    simp only [go_sem, reduceIte, Nat.reduceEqDiff, Nat.reduceAdd, Nat.reduceLeDiff, Nat.reduceLT, Nat.reduceSub, Nat.reduceBEq, ne_eq, not_false_eq_true, hc1]
    obtain ⟨r3, hr3, hF⟩ := bindE hF
    refine DoesR_m ((by have hq := hp_f [] _ _ hr3; simpa only [List.append_nil, List.cons_append, List.nil_append] using hq)) ?_
    simp only [go_sem, reduceIte, Nat.reduceEqDiff, Nat.reduceAdd, Nat.reduceLeDiff, Nat.reduceLT, Nat.reduceSub, Nat.reduceBEq, ne_eq, not_false_eq_true, hc1]
    rcases iteE hF with ⟨hc4, hF⟩ | ⟨hc4, hF⟩
    · simp only [go_sem, reduceIte, Nat.reduceEqDiff, Nat.reduceAdd, Nat.reduceLeDiff, Nat.reduceLT, Nat.reduceSub, Nat.reduceBEq, ne_eq, not_false_eq_true, hc1, hc4]
      all_goals (cases hF; rfl)
    · simp only [go_sem, reduceIte, Nat.reduceEqDiff, Nat.reduceAdd, Nat.reduceLeDiff, Nat.reduceLT, Nat.reduceSub, Nat.reduceBEq, ne_eq, not_false_eq_true, hc1, hc4]
      exact ih_F_slices_IndexFunc_api_SEnum_api_SEnum_16 _ _ hF _ _ _ hp_f
  · simp only [go_sem, reduceIte, Nat.reduceEqDiff, Nat.reduceAdd, Nat.reduceLeDiff, Nat.reduceLT, Nat.reduceSub, Nat.reduceBEq, ne_eq, not_false_eq_true, hc1]
    all_goals (cases hF; rfl)
theorem t_F_slices_IndexFunc_api_SEnum_api_SEnum_16 : ∀ v p, F_slices_IndexFunc_api_SEnum_api_SEnum_16 v = some p → M_F_slices_IndexFunc_api_SEnum_api_SEnum_16 v p := F_slices_IndexFunc_api_SEnum_api_SEnum_16.partial_correctness M_F_slices_IndexFunc_api_SEnum_api_SEnum_16 (fun f0 i0 v p hF => st_F_slices_IndexFunc_api_SEnum_api_SEnum_16 f0 i0 v p hF)
def F_slices_IndexFunc_api_SEnum_api_SEnum (s : List YSEnum) (f : (YSEnum → Option Bool)) : Option (Int) :=
  F_slices_IndexFunc_api_SEnum_api_SEnum_16 (s, f, (s.length : Int), 0)
set_option maxHeartbeats 4000000 in
theorem t_F_slices_IndexFunc_api_SEnum_api_SEnum : ∀ (s : List YSEnum) (f : (YSEnum → Option Bool)) (p : Int), F_slices_IndexFunc_api_SEnum_api_SEnum s f = some p → ∀ (h : Heap) (g_f : Nat) (caps_f : List AV) (hp_f : ∀ (l : Heap) (x0 : YSEnum) (r : Bool), f x0 = some r → callA (Run T0 g_f) ([.agg [.str x0.name, .sl false 3 (List.map YMember.av x0.members)]] ++ AV.eraseL caps_f) (h ++ l) = some (.bool r, h ++ l)), Run T0 N_slices_IndexFunc_api_SEnum_api_SEnum [.sl false 2 (List.map YSEnum.av s), .fn g_f caps_f] h = some ((.int .i64 p), h) := by
  intro s f p hF
  unfold F_slices_IndexFunc_api_SEnum_api_SEnum at hF
  intro h g_f caps_f hp_f
  refine run_ofK at_slices_IndexFunc_api_SEnum_api_SEnum (n := h.length) rfl ?_
  simp only [go_sem, reduceIte, Nat.reduceEqDiff, Nat.reduceAdd, Nat.reduceLeDiff, Nat.reduceLT, Nat.reduceSub, Nat.reduceBEq, ne_eq, not_false_eq_true]
  exact t_F_slices_IndexFunc_api_SEnum_api_SEnum_16 _ _ hF _ _ _ hp_f
theorem call_F_slices_IndexFunc_api_SEnum_api_SEnum {s : List YSEnum} {f : (YSEnum → Option Bool)} {p : Int} (hx : F_slices_IndexFunc_api_SEnum_api_SEnum s f = some p) {h : Heap} {g_f : Nat} {caps_f : List AV} (hp_f : ∀ (l : Heap) (x0 : YSEnum) (r : Bool), f x0 = some r → callA (Run T0 g_f) ([.agg [.str x0.name, .sl false 3 (List.map YMember.av x0.members)]] ++ AV.eraseL caps_f) (h ++ l) = some (.bool r, h ++ l)) : callA (Run T0 N_slices_IndexFunc_api_SEnum_api_SEnum) [.sl false 2 (List.map YSEnum.av s), .fn g_f caps_f] h = some ((.int .i64 p), h) :=
  callA_hof (n := AV.bndL caps_f) (by simp only [go_sem]) (t_F_slices_IndexFunc_api_SEnum_api_SEnum _ _ _ hx _ _ _ (fun l y0 r hr => hp_hid (by simp only [go_sem]) (fun l => hp_f l y0 r hr) l))
def F_value_Enum_1 (x : YSEnum) (cap0 : List UInt8) : Option (Bool) :=
  some (x.name == cap0)
set_option maxHeartbeats 4000000 in
theorem t_F_value_Enum_1 : ∀ (x : YSEnum) (cap0 : List UInt8) (p : Bool), F_value_Enum_1 x cap0 = some p → ∀ (h : Heap) (b : Nat) (rest : List AV) (hlt : b < h.length), Run T0 N_value_Enum_1 [.agg [.str x.name, .sl false 3 (List.map YMember.av x.members)], .ptr b 0] (h.set b (.row ((.str cap0) :: rest))) = some ((.bool p), h.set b (.row ((.str cap0) :: rest))) := by
  intro x cap0 p hF
  unfold F_value_Enum_1 at hF
  intro h b rest hlt
  refine run_ofK at_value_Enum_1 (n := h.length) (by simp only [List.length_set]) ?_
  simp only [go_sem, reduceIte, Nat.reduceEqDiff, Nat.reduceAdd, Nat.reduceLeDiff, Nat.reduceLT, Nat.reduceSub, Nat.reduceBEq, ne_eq, not_false_eq_true, hs_all hlt]
  all_goals (cases hF; rfl)
theorem call_F_value_Enum_1 {x : YSEnum} {cap0 : List UInt8} {p : Bool} (hx : F_value_Enum_1 x cap0 = some p) {h : Heap} {b : Nat} {rest : List AV}  (hb : h[b]? = some (.row ((.str cap0) :: rest))) : callA (Run T0 N_value_Enum_1) [.agg [.str x.name, .sl false 3 (List.map YMember.av x.members)], .ptr b 0] h = some ((.bool p), h) :=
  callA_ptr0 (by simp only [go_sem]) hb (fun H hH => t_F_value_Enum_1 _ _ _ hx H b rest  hH)
def F_value_Enum (s : YSchema) (name : List UInt8) : Option (YSEnum × Bool) :=
  F_slices_IndexFunc_api_SEnum_api_SEnum s.enums (fun y0 => F_value_Enum_1 y0 name) >>= fun r1 =>
  if (decide (r1 < (0 : Int))) = true then (
    some ((⟨[], []⟩ : YSEnum), false)
  ) else
  lidx s.enums r1 >>= fun x3 =>
  some (x3, true)
set_option maxHeartbeats 4000000 in
theorem t_F_value_Enum : ∀ (s : YSchema) (name : List UInt8) (p : YSEnum × Bool), F_value_Enum s name = some p → ∀ (h : Heap), Run T0 N_value_Enum [.agg [.sl false 3 (List.map YSStruct.av s.structs), .sl false 2 (List.map YSEnum.av s.enums), .sl false 2 (List.map YSService.av s.services)], .str name] h = some ((.tup [.agg [.str p.1.name, .sl false 3 (List.map YMember.av p.1.members)], .bool p.2]), h) := by
  intro s name p hF
  unfold F_value_Enum at hF
  intro h
  refine run_ofK at_value_Enum (n := h.length) rfl ?_
  simp only [go_sem, reduceIte, Nat.reduceEqDiff, Nat.reduceAdd, Nat.reduceLeDiff, Nat.reduceLT, Nat.reduceSub, Nat.reduceBEq, ne_eq, not_false_eq_true]
  obtain ⟨r1, hr1, hF⟩ := bindE hF
  refine DoesR_m (call_F_slices_IndexFunc_api_SEnum_api_SEnum hr1 (fun l _ r hy => call_F_value_Enum_1 hy (app_get (lb_get rfl rfl)))) ?_
  simp only [go_sem, reduceIte, Nat.reduceEqDiff, Nat.reduceAdd, Nat.reduceLeDiff, Nat.reduceLT, Nat.reduceSub, Nat.reduceBEq, ne_eq, not_false_eq_true]
  rcases iteE hF with ⟨hc2, hF⟩ | ⟨hc2, hF⟩
  · simp only [go_sem, reduceIte, Nat.reduceEqDiff, Nat.reduceAdd, Nat.reduceLeDiff, Nat.reduceLT, Nat.reduceSub, Nat.reduceBEq, ne_eq, not_false_eq_true, hc2]
    all_goals (cases hF; rfl)
  · simp only [go_sem, reduceIte, Nat.reduceEqDiff, Nat.reduceAdd, Nat.reduceLeDiff, Nat.reduceLT, Nat.reduceSub, Nat.reduceBEq, ne_eq, not_false_eq_true, hc2]
    obtain ⟨x3, hx3, hF⟩ := bindE hF
    refine DoesO_m (lidx_map YSEnum.av hx3) ?_
    simp only [go_sem, reduceIte, Nat.reduceEqDiff, Nat.reduceAdd, Nat.reduceLeDiff, Nat.reduceLT, Nat.reduceSub, Nat.reduceBEq, ne_eq, not_false_eq_true, hc2]
    all_goals (cases hF; rfl)
theorem call_F_value_Enum {s : YSchema} {name : List UInt8} {p : YSEnum × Bool} (hx : F_value_Enum s name = some p) {h : Heap} : callA (Run T0 N_value_Enum) [.agg [.sl false 3 (List.map YSStruct.av s.structs), .sl false 2 (List.map YSEnum.av s.enums), .sl false 2 (List.map YSService.av s.services)], .str name] h = some ((.tup [.agg [.str p.1.name, .sl false 3 (List.map YMember.av p.1.members)], .bool p.2]), h) :=
  callA_pure (by simp only [go_sem]) (fun H => t_F_value_Enum _ _ _ hx H)
def F_slices_IndexFunc_api_SStruct_api_SStruct_16 (v : List YSStruct × (YSStruct → Option Bool) × Int × Int) : Option (Int) :=
  if (decide (v.2.2.2 < v.2.2.1)) = true then (
    lidx v.1 v.2.2.2 >>= fun x2 =>
    v.2.1 x2 >>= fun r3 =>
    if r3 = true then (
      some v.2.2.2
    ) else
    F_slices_IndexFunc_api_SStruct_api_SStruct_16 (v.1, v.2.1, v.2.2.1, (iadd .i64 v.2.2.2 1))
  ) else
  some (-1)
  partial_fixpoint
theorem F_slices_IndexFunc_api_SStruct_api_SStruct_16_eq (s : List YSStruct) (f : (YSStruct → Option Bool)) (t7 : Int) (t8 : Int) : F_slices_IndexFunc_api_SStruct_api_SStruct_16 (s, f, t7, t8) =
  if (decide (t8 < t7)) = true then (
    lidx s t8 >>= fun x2 =>
    f x2 >>= fun r3 =>
    if r3 = true then (
      some t8
    ) else
    F_slices_IndexFunc_api_SStruct_api_SStruct_16 (s, f, t7, (iadd .i64 t8 1))
  ) else
  some (-1) := F_slices_IndexFunc_api_SStruct_api_SStruct_16.eq_1 (s, f, t7, t8)
def M_F_slices_IndexFunc_api_SStruct_api_SStruct_16 (v : List YSStruct × (YSStruct → Option Bool) × Int × Int) (p : Int) : Prop := ∀ (h : Heap) (g_f : Nat) (caps_f : List AV) (hp_f : ∀ (l : Heap) (x0 : YSStruct) (r : Bool), v.2.1 x0 = some r → callA (Run T0 g_f) ([.agg [.int .i64 x0.kind, .str x0.name, .sl false 10 (List.map YSField.av x0.fields)]] ++ AV.eraseL caps_f) (h ++ l) = some (.bool r, h ++ l)), Does T0 C126_16 (aft T0 (EndQ false [.tmp 4] h.length (.int .i64 p) (h)) [.gc h.length, .lp C126_17, .blk 0, .seq C126_22]) .mk .mk [(0, .sl false 3 (List.map YSStruct.av v.1)), (1, .fn g_f caps_f), (7, .int .i64 v.2.2.1), (8, .int .i64 v.2.2.2)] h
set_option maxHeartbeats 4000000 in
theorem st_F_slices_IndexFunc_api_SStruct_api_SStruct_16 (f_F_slices_IndexFunc_api_SStruct_api_SStruct_16 : (List YSStruct × (YSStruct → Option Bool) × Int × Int) → Option (Int)) (ih_F_slices_IndexFunc_api_SStruct_api_SStruct_16 : ∀ v p, f_F_slices_IndexFunc_api_SStruct_api_SStruct_16 v = some p → M_F_slices_IndexFunc_api_SStruct_api_SStruct_16 v p) (v : List YSStruct × (YSStruct → Option Bool) × Int × Int) (p : Int) (hF : (
  if (decide (v.2.2.2 < v.2.2.1)) = true then (
    lidx v.1 v.2.2.2 >>= fun x2 =>
    v.2.1 x2 >>= fun r3 =>
    if r3 = true then (
      some v.2.2.2
    ) else
    f_F_slices_IndexFunc_api_SStruct_api_SStruct_16 (v.1, v.2.1, v.2.2.1, (iadd .i64 v.2.2.2 1))
  ) else
  some (-1)) = some p) : M_F_slices_IndexFunc_api_SStruct_api_SStruct_16 v p := by
  intro h g_f caps_f hp_f
  unfold C126_16
  simp only [go_sem, reduceIte, Nat.reduceEqDiff, Nat.reduceAdd, Nat.reduceLeDiff, Nat.reduceLT, Nat.reduceSub, Nat.reduceBEq, ne_eq, not_false_eq_true]
  rcases iteE hF with ⟨hc1, hF⟩ | ⟨hc1, hF⟩
  · simp only [go_sem, reduceIte, Nat.reduceEqDiff, Nat.reduceAdd, Nat.reduceLeDiff, Nat.reduceLT, Nat.reduceSub, Nat.reduceBEq, ne_eq, not_false_eq_true, hc1]
    obtain ⟨x2, hx2, hF⟩ := bindE hF
    refine DoesO_m (lidx_map YSStruct.av hx2) ?_
    simp only [go_sem, reduceIte, Nat.reduceEqDiff, Nat.reduceAdd, Nat.reduceLeDiff, Nat.reduceLT, Nat.reduceSub, Nat.reduceBEq, ne_eq, not_false_eq_true, hc1]
    obtain ⟨r3, hr3, hF⟩ := bindE hF
    refine DoesR_m ((by have hq := hp_f [] _ _ hr3; simpa only [List.append_nil, List.cons_append, List.nil_append] using hq)) ?_
    simp only [go_sem, reduceIte, Nat.reduceEqDiff, Nat.reduceAdd, Nat.reduceLeDiff, Nat.reduceLT, Nat.reduceSub, Nat.reduceBEq, ne_eq, not_false_eq_true, hc1]
    rcases iteE hF with ⟨hc4, hF⟩ | ⟨hc4, hF⟩
    · simp only [go_sem, reduceIte, Nat.reduceEqDiff, Nat.reduceAdd, Nat.reduceLeDiff, Nat.reduceLT, Nat.reduceSub, Nat.reduceBEq, ne_eq, not_false_eq_true, hc1, hc4]
      all_goals (cases hF; rfl)
    · simp only [go_sem, reduceIte, Nat.reduceEqDiff, Nat.reduceAdd, Nat.reduceLeDiff, Nat.reduceLT, Nat.reduceSub, Nat.reduceBEq, ne_eq, not_false_eq_true, hc1, hc4]
      exact ih_F_slices_IndexFunc_api_SStruct_api_SStruct_16 _ _ hF _ _ _ hp_f
  · simp only [go_sem, reduceIte, Nat.reduceEqDiff, Nat.reduceAdd, Nat.reduceLeDiff, Nat.reduceLT, Nat.reduceSub, Nat.reduceBEq, ne_eq, not_false_eq_true, hc1]
    all_goals (cases hF; rfl)
theorem t_F_slices_IndexFunc_api_SStruct_api_SStruct_16 : ∀ v p, F_slices_IndexFunc_api_SStruct_api_SStruct_16 v = some p → M_F_slices_IndexFunc_api_SStruct_api_SStruct_16 v p := F_slices_IndexFunc_api_SStruct_api_SStruct_16.partial_correctness M_F_slices_IndexFunc_api_SStruct_api_SStruct_16 (fun f0 i0 v p hF => st_F_slices_IndexFunc_api_SStruct_api_SStruct_16 f0 i0 v p hF)
def F_slices_IndexFunc_api_SStruct_api_SStruct (s : List YSStruct) (f : (YSStruct → Option Bool)) : Option (Int) :=
  F_slices_IndexFunc_api_SStruct_api_SStruct_16 (s, f, (s.length : Int), 0)
set_option maxHeartbeats 4000000 in
theorem t_F_slices_IndexFunc_api_SStruct_api_SStruct : ∀ (s : List YSStruct) (f : (YSStruct → Option Bool)) (p : Int), F_slices_IndexFunc_api_SStruct_api_SStruct s f = some p → ∀ (h : Heap) (g_f : Nat) (caps_f : List AV) (hp_f : ∀ (l : Heap) (x0 : YSStruct) (r : Bool), f x0 = some r → callA (Run T0 g_f) ([.agg [.int .i64 x0.kind, .str x0.name, .sl false 10 (List.map YSField.av x0.fields)]] ++ AV.eraseL caps_f) (h ++ l) = some (.bool r, h ++ l)), Run T0 N_slices_IndexFunc_api_SStruct_api_SStruct [.sl false 3 (List.map YSStruct.av s), .fn g_f caps_f] h = some ((.int .i64 p), h) := by
  intro s f p hF
  unfold F_slices_IndexFunc_api_SStruct_api_SStruct at hF
  intro h g_f caps_f hp_f
  refine run_ofK at_slices_IndexFunc_api_SStruct_api_SStruct (n := h.length) rfl ?_
  simp only [go_sem, reduceIte, Nat.reduceEqDiff, Nat.reduceAdd, Nat.reduceLeDiff, Nat.reduceLT, Nat.reduceSub, Nat.reduceBEq, ne_eq, not_false_eq_true]
  exact t_F_slices_IndexFunc_api_SStruct_api_SStruct_16 _ _ hF _ _ _ hp_f
theorem call_F_slices_IndexFunc_api_SStruct_api_SStruct {s : List YSStruct} {f : (YSStruct → Option Bool)} {p : Int} (hx : F_slices_IndexFunc_api_SStruct_api_SStruct s f = some p) {h : Heap} {g_f : Nat} {caps_f : List AV} (hp_f : ∀ (l : Heap) (x0 : YSStruct) (r : Bool), f x0 = some r → callA (Run T0 g_f) ([.agg [.int .i64 x0.kind, .str x0.name, .sl false 10 (List.map YSField.av x0.fields)]] ++ AV.eraseL caps_f) (h ++ l) = some (.bool r, h ++ l)) : callA (Run T0 N_slices_IndexFunc_api_SStruct_api_SStruct) [.sl false 3 (List.map YSStruct.av s), .fn g_f caps_f] h = some ((.int .i64 p), h) :=
  callA_hof (n := AV.bndL caps_f) (by simp only [go_sem]) (t_F_slices_IndexFunc_api_SStruct_api_SStruct _ _ _ hx _ _ _ (fun l y0 r hr => hp_hid (by simp only [go_sem]) (fun l => hp_f l y0 r hr) l))
def F_value_Struct_1 (x : YSStruct) (cap0 : List UInt8) : Option (Bool) :=
  some (x.name == cap0)
set_option maxHeartbeats 4000000 in
theorem t_F_value_Struct_1 : ∀ (x : YSStruct) (cap0 : List UInt8) (p : Bool), F_value_Struct_1 x cap0 = some p → ∀ (h : Heap) (b : Nat) (rest : List AV) (hlt : b < h.length), Run T0 N_value_Struct_1 [.agg [.int .i64 x.kind, .str x.name, .sl false 10 (List.map YSField.av x.fields)], .ptr b 0] (h.set b (.row ((.str cap0) :: rest))) = some ((.bool p), h.set b (.row ((.str cap0) :: rest))) := by
  intro x cap0 p hF
  unfold F_value_Struct_1 at hF
  intro h b rest hlt
  refine run_ofK at_value_Struct_1 (n := h.length) (by simp only [List.length_set]) ?_
  simp only [go_sem, reduceIte, Nat.reduceEqDiff, Nat.reduceAdd, Nat.reduceLeDiff, Nat.reduceLT, Nat.reduceSub, Nat.reduceBEq, ne_eq, not_false_eq_true, hs_all hlt]
  all_goals (cases hF; rfl)
theorem call_F_value_Struct_1 {x : YSStruct} {cap0 : List UInt8} {p : Bool} (hx : F_value_Struct_1 x cap0 = some p) {h : Heap} {b : Nat} {rest : List AV}  (hb : h[b]? = some (.row ((.str cap0) :: rest))) : callA (Run T0 N_value_Struct_1) [.agg [.int .i64 x.kind, .str x.name, .sl false 10 (List.map YSField.av x.fields)], .ptr b 0] h = some ((.bool p), h) :=
  callA_ptr0 (by simp only [go_sem]) hb (fun H hH => t_F_value_Struct_1 _ _ _ hx H b rest  hH)
def F_value_Struct (s : YSchema) (name : List UInt8) : Option (YSStruct × Bool) :=
  F_slices_IndexFunc_api_SStruct_api_SStruct s.structs (fun y0 => F_value_Struct_1 y0 name) >>= fun r1 =>
  if (decide (r1 < (0 : Int))) = true then (
    some ((⟨0, [], []⟩ : YSStruct), false)
  ) else
  lidx s.structs r1 >>= fun x3 =>
  some (x3, true)
set_option maxHeartbeats 4000000 in
theorem t_F_value_Struct : ∀ (s : YSchema) (name : List UInt8) (p : YSStruct × Bool), F_value_Struct s name = some p → ∀ (h : Heap), Run T0 N_value_Struct [.agg [.sl false 3 (List.map YSStruct.av s.structs), .sl false 2 (List.map YSEnum.av s.enums), .sl false 2 (List.map YSService.av s.services)], .str name] h = some ((.tup [.agg [.int .i64 p.1.kind, .str p.1.name, .sl false 10 (List.map YSField.av p.1.fields)], .bool p.2]), h) := by
  intro s name p hF
  unfold F_value_Struct at hF
  intro h
  refine run_ofK at_value_Struct (n := h.length) rfl ?_
  simp only [go_sem, reduceIte, Nat.reduceEqDiff, Nat.reduceAdd, Nat.reduceLeDiff, Nat.reduceLT, Nat.reduceSub, Nat.reduceBEq, ne_eq, not_false_eq_true]
  obtain ⟨r1, hr1, hF⟩ := bindE hF
  refine DoesR_m (call_F_slices_IndexFunc_api_SStruct_api_SStruct hr1 (fun l _ r hy => call_F_value_Struct_1 hy (app_get (lb_get rfl rfl)))) ?_
  simp only [go_sem, reduceIte, Nat.reduceEqDiff, Nat.reduceAdd, Nat.reduceLeDiff, Nat.reduceLT, Nat.reduceSub, Nat.reduceBEq, ne_eq, not_false_eq_true]
  rcases iteE hF with ⟨hc2, hF⟩ | ⟨hc2, hF⟩
  · simp only [go_sem, reduceIte, Nat.reduceEqDiff, Nat.reduceAdd, Nat.reduceLeDiff, Nat.reduceLT, Nat.reduceSub, Nat.reduceBEq, ne_eq, not_false_eq_true, hc2]
    all_goals (cases hF; rfl)
  · simp only [go_sem, reduceIte, Nat.reduceEqDiff, Nat.reduceAdd, Nat.reduceLeDiff, Nat.reduceLT, Nat.reduceSub, Nat.reduceBEq, ne_eq, not_false_eq_true, hc2]
    obtain ⟨x3, hx3, hF⟩ := bindE hF
    refine DoesO_m (lidx_map YSStruct.av hx3) ?_
    simp only [go_sem, reduceIte, Nat.reduceEqDiff, Nat.reduceAdd, Nat.reduceLeDiff, Nat.reduceLT, Nat.reduceSub, Nat.reduceBEq, ne_eq, not_false_eq_true, hc2]
    all_goals (cases hF; rfl)
theorem call_F_value_Struct {s : YSchema} {name : List UInt8} {p : YSStruct × Bool} (hx : F_value_Struct s name = some p) {h : Heap} : callA (Run T0 N_value_Struct) [.agg [.sl false 3 (List.map YSStruct.av s.structs), .sl false 2 (List.map YSEnum.av s.enums), .sl false 2 (List.map YSService.av s.services)], .str name] h = some ((.tup [.agg [.int .i64 p.1.kind, .str p.1.name, .sl false 10 (List.map YSField.av p.1.fields)], .bool p.2]), h) :=
  callA_pure (by simp only [go_sem]) (fun H => t_F_value_Struct _ _ _ hx H)
def F_value_Kind_25 (name : List UInt8) (bx0 : YSchema) : Option (Int) :=
  F_value_Struct bx0 name >>= fun r4 =>
  if r4.2 = true then (
    some 12
  ) else
  F_value_Enum bx0 name >>= fun r6 =>
  if r6.2 = true then (
    some 17
  ) else
  some 0
set_option maxHeartbeats 4000000 in
theorem t_F_value_Kind_25 : ∀ (name : List UInt8) (bx0 : YSchema) (p : Int), F_value_Kind_25 name bx0 = some p → ∀ (h : Heap), Does T0 C49_25 (aft T0 (EndQ false [.tmp 4] h.length (.int .i64 p) (h)) []) .mk .mk [(2, .ptr h.length 0), (6, .str name)] (h ++ [.row [.sl false 3 (List.map YSStruct.av bx0.structs), .sl false 2 (List.map YSEnum.av bx0.enums), .sl false 2 (List.map YSService.av bx0.services)]]) := by
  intro name bx0 p hF
  unfold F_value_Kind_25 at hF
  intro h
  unfold C49_25
  simp only [go_sem, reduceIte, Nat.reduceEqDiff, Nat.reduceAdd, Nat.reduceLeDiff, Nat.reduceLT, Nat.reduceSub, Nat.reduceBEq, ne_eq, not_false_eq_true]
  obtain ⟨r4, hr4, hF⟩ := bindE hF
  refine DoesR_m (call_F_value_Struct hr4) ?_
  simp only [go_sem, reduceIte, Nat.reduceEqDiff, Nat.reduceAdd, Nat.reduceLeDiff, Nat.reduceLT, Nat.reduceSub, Nat.reduceBEq, ne_eq, not_false_eq_true]
  rcases iteE hF with ⟨hc5, hF⟩ | ⟨hc5, hF⟩
  · simp only [go_sem, reduceIte, Nat.reduceEqDiff, Nat.reduceAdd, Nat.reduceLeDiff, Nat.reduceLT, Nat.reduceSub, Nat.reduceBEq, ne_eq, not_false_eq_true, hc5]
    all_goals (cases hF; rfl)
  · simp only [go_sem, reduceIte, Nat.reduceEqDiff, Nat.reduceAdd, Nat.reduceLeDiff, Nat.reduceLT, Nat.reduceSub, Nat.reduceBEq, ne_eq, not_false_eq_true, hc5]
    obtain ⟨r6, hr6, hF⟩ := bindE hF
    refine DoesR_m (call_F_value_Enum hr6) ?_
    simp only [go_sem, reduceIte, Nat.reduceEqDiff, Nat.reduceAdd, Nat.reduceLeDiff, Nat.reduceLT, Nat.reduceSub, Nat.reduceBEq, ne_eq, not_false_eq_true, hc5]
    rcases iteE hF with ⟨hc7, hF⟩ | ⟨hc7, hF⟩
    · simp only [go_sem, reduceIte, Nat.reduceEqDiff, Nat.reduceAdd, Nat.reduceLeDiff, Nat.reduceLT, Nat.reduceSub, Nat.reduceBEq, ne_eq, not_false_eq_true, hc5, hc7]
      all_goals (cases hF; rfl)
    · simp only [go_sem, reduceIte, Nat.reduceEqDiff, Nat.reduceAdd, Nat.reduceLeDiff, Nat.reduceLT, Nat.reduceSub, Nat.reduceBEq, ne_eq, not_false_eq_true, hc5, hc7]
      all_goals (cases hF; rfl)
def F_value_Kind (s : YSchema) (t : List UInt8) : Option (Int) :=
  F_kind_Head t >>= fun r1 =>
  if (r1.2.2.2.2 != (0 : Int)) = true then (
    some r1.1
  ) else
  if (r1.1 != (0 : Int)) = true then (
    some r1.1
  ) else
  F_value_Kind_25 r1.2.1 s
set_option maxHeartbeats 4000000 in
theorem t_F_value_Kind : ∀ (s : YSchema) (t : List UInt8) (p : Int), F_value_Kind s t = some p → ∀ (h : Heap), Run T0 N_value_Kind [.agg [.sl false 3 (List.map YSStruct.av s.structs), .sl false 2 (List.map YSEnum.av s.enums), .sl false 2 (List.map YSService.av s.services)], .str t] h = some ((.int .i64 p), h) := by
  intro s t p hF
  unfold F_value_Kind at hF
  intro h
  refine run_ofK at_value_Kind (n := h.length) rfl ?_
  simp only [go_sem, reduceIte, Nat.reduceEqDiff, Nat.reduceAdd, Nat.reduceLeDiff, Nat.reduceLT, Nat.reduceSub, Nat.reduceBEq, ne_eq, not_false_eq_true]
  obtain ⟨r1, hr1, hF⟩ := bindE hF
  refine DoesR_m (call_F_kind_Head hr1) ?_
  simp only [go_sem, reduceIte, Nat.reduceEqDiff, Nat.reduceAdd, Nat.reduceLeDiff, Nat.reduceLT, Nat.reduceSub, Nat.reduceBEq, ne_eq, not_false_eq_true]
  rcases iteE hF with ⟨hc2, hF⟩ | ⟨hc2, hF⟩
  · simp only [go_sem, reduceIte, Nat.reduceEqDiff, Nat.reduceAdd, Nat.reduceLeDiff, Nat.reduceLT, Nat.reduceSub, Nat.reduceBEq, ne_eq, not_false_eq_true, hc2]
    all_goals (cases hF; rfl)
  · simp only [go_sem, reduceIte, Nat.reduceEqDiff, Nat.reduceAdd, Nat.reduceLeDiff, Nat.reduceLT, Nat.reduceSub, Nat.reduceBEq, ne_eq, not_false_eq_true, hc2]
    rcases iteE hF with ⟨hc3, hF⟩ | ⟨hc3, hF⟩
    · simp only [go_sem, reduceIte, Nat.reduceEqDiff, Nat.reduceAdd, Nat.reduceLeDiff, Nat.reduceLT, Nat.reduceSub, Nat.reduceBEq, ne_eq, not_false_eq_true, hc2, hc3]
      all_goals (cases hF; rfl)
    · simp only [go_sem, reduceIte, Nat.reduceEqDiff, Nat.reduceAdd, Nat.reduceLeDiff, Nat.reduceLT, Nat.reduceSub, Nat.reduceBEq, ne_eq, not_false_eq_true, hc2, hc3]
      exact t_F_value_Kind_25 _ _ _ hF _
theorem call_F_value_Kind {s : YSchema} {t : List UInt8} {p : Int} (hx : F_value_Kind s t = some p) {h : Heap} : callA (Run T0 N_value_Kind) [.agg [.sl false 3 (List.map YSStruct.av s.structs), .sl false 2 (List.map YSEnum.av s.enums), .sl false 2 (List.map YSService.av s.services)], .str t] h = some ((.int .i64 p), h) :=
  callA_pure (by simp only [go_sem]) (fun H => t_F_value_Kind _ _ _ hx H)
def F_tcomp_writer_short (w : Ytcomp_writer) (t : List UInt8) : Option (Int) :=
  F_value_Kind w.s t >>= fun r1 =>
  F_tcomp_Short r1 >>= fun r2 =>
  some r2
set_option maxHeartbeats 4000000 in
theorem t_F_tcomp_writer_short : ∀ (w : Ytcomp_writer) (t : List UInt8) (p : Int), F_tcomp_writer_short w t = some p → ∀ (h : Heap) (b : Nat) (rest : List AV) (o0 : Bool) (o1 : Bool) (o2 : Bool) (o3 : Bool) (hlt : b < h.length), Run T0 N_tcomp_writer_short [.ptr b 0, .str t] (h.set b (.row ((.sl o0 3 (List.map YSStruct.av w.s.structs)) :: (.sl o1 2 (List.map YSEnum.av w.s.enums)) :: (.sl o2 2 (List.map YSService.av w.s.services)) :: (.sl o3 1 (List.map e8 w.b_)) :: rest))) = some ((.int .i64 p), h.set b (.row ((.sl o0 3 (List.map YSStruct.av w.s.structs)) :: (.sl o1 2 (List.map YSEnum.av w.s.enums)) :: (.sl o2 2 (List.map YSService.av w.s.services)) :: (.sl o3 1 (List.map e8 w.b_)) :: rest))) := by
  intro w t p hF
  unfold F_tcomp_writer_short at hF
  intro h b rest o0 o1 o2 o3 hlt
  refine run_ofK at_tcomp_writer_short (n := h.length) (by simp only [List.length_set]) ?_
  simp only [go_sem, reduceIte, Nat.reduceEqDiff, Nat.reduceAdd, Nat.reduceLeDiff, Nat.reduceLT, Nat.reduceSub, Nat.reduceBEq, ne_eq, not_false_eq_true, hs_all hlt]
  obtain ⟨r1, hr1, hF⟩ := bindE hF
  refine DoesR_m (call_F_value_Kind hr1) ?_
  simp only [go_sem, reduceIte, Nat.reduceEqDiff, Nat.reduceAdd, Nat.reduceLeDiff, Nat.reduceLT, Nat.reduceSub, Nat.reduceBEq, ne_eq, not_false_eq_true, hs_all hlt]
  obtain ⟨r2, hr2, hF⟩ := bindE hF
  refine DoesR_m (call_F_tcomp_Short hr2) ?_
  simp only [go_sem, reduceIte, Nat.reduceEqDiff, Nat.reduceAdd, Nat.reduceLeDiff, Nat.reduceLT, Nat.reduceSub, Nat.reduceBEq, ne_eq, not_false_eq_true, hs_all hlt]
  all_goals (cases hF; rfl)
theorem call_F_tcomp_writer_short {w : Ytcomp_writer} {t : List UInt8} {p : Int} (hx : F_tcomp_writer_short w t = some p) {h : Heap} {b : Nat} {rest : List AV} {o0 : Bool} {o1 : Bool} {o2 : Bool} {o3 : Bool} (hb : h[b]? = some (.row ((.sl o0 3 (List.map YSStruct.av w.s.structs)) :: (.sl o1 2 (List.map YSEnum.av w.s.enums)) :: (.sl o2 2 (List.map YSService.av w.s.services)) :: (.sl o3 1 (List.map e8 w.b_)) :: rest))) : callA (Run T0 N_tcomp_writer_short) [.ptr b 0, .str t] h = some ((.int .i64 p), h) :=
  callA_ptr0 (by simp only [go_sem]) hb (fun H hH => t_F_tcomp_writer_short _ _ _ hx H b rest o0 o1 o2 o3 hH)
def F_zig_Zig64 (v_ : Int) : Option (Int) :=
  ishl .u64 (IntKind.u64.wrap v_) 1 >>= fun x1 =>
  ishr .i64 v_ 63 >>= fun x2 =>
  some (ixor .u64 x1 (IntKind.u64.wrap x2))
set_option maxHeartbeats 4000000 in
theorem t_F_zig_Zig64 : ∀ (v_ : Int) (p : Int), F_zig_Zig64 v_ = some p → ∀ (h : Heap), Run T0 N_zig_Zig64 [.int .i64 v_] h = some ((.int .u64 p), h) := by
  intro v_ p hF
  unfold F_zig_Zig64 at hF
  intro h
  refine run_ofK at_zig_Zig64 (n := h.length) rfl ?_
  simp only [go_sem, reduceIte, Nat.reduceEqDiff, Nat.reduceAdd, Nat.reduceLeDiff, Nat.reduceLT, Nat.reduceSub, Nat.reduceBEq, ne_eq, not_false_eq_true]
  obtain ⟨x1, hx1, hF⟩ := bindE hF
  refine DoesO_m (hx1) ?_
  simp only [go_sem, reduceIte, Nat.reduceEqDiff, Nat.reduceAdd, Nat.reduceLeDiff, Nat.reduceLT, Nat.reduceSub, Nat.reduceBEq, ne_eq, not_false_eq_true]
  obtain ⟨x2, hx2, hF⟩ := bindE hF
  refine DoesO_m (hx2) ?_
  simp only [go_sem, reduceIte, Nat.reduceEqDiff, Nat.reduceAdd, Nat.reduceLeDiff, Nat.reduceLT, Nat.reduceSub, Nat.reduceBEq, ne_eq, not_false_eq_true]
  all_goals (cases hF; rfl)
theorem call_F_zig_Zig64 {v_ : Int} {p : Int} (hx : F_zig_Zig64 v_ = some p) {h : Heap} : callA (Run T0 N_zig_Zig64) [.int .i64 v_] h = some ((.int .u64 p), h) :=
  callA_pure (by simp only [go_sem]) (fun H => t_F_zig_Zig64 _ _ hx H)
end Go.Proofs.YtfihinodhhhllaaGreat
