/- Whole texts of types. -/
import Derived.Test.YtfihinodhhhllaaGreatIyKind
set_option linter.unusedVariables false
set_option linter.unusedSimpArgs false
namespace Go.Proofs.YtfihinodhhhllaaGreat
open Go
/-- A type whose text may be read. -/
structure Ty.Fine (t : Ty) : Prop where
  ok : t.ok
  len : t.text.length < 2 ^ 40
  nest : t.nest ≤ 12
  names : t.names.length ≤ 2 ^ 20
theorem F_read {t : Ty} (h : t.Fine) : ∃ d, F_kind_read t.text = some (⟨t.text, (t.text.length : Int), 0, t.names, d⟩, t.kind, endsI (t.ends 0)) := by
  obtain ⟨d, h1⟩ := F_one h.len t h.ok 0 [] [] 0 0 (by simp) (by omega) ⟨fun b hb => by simp at hb, by simp⟩ (by have := h.nest; omega) (by simpa using h.names)
  refine ⟨d, ?_⟩
  unfold F_kind_read
  have z : ((0 : Nat) : Int) = 0 := rfl
  simp only [z, Nat.zero_add, List.nil_append] at h1
  have h2 : decide ((t.text.length : Int) < (t.text.length : Int)) = false := by simp
  simp only [h1, Option.bind_eq_bind, Option.bind_some, h2, F_fails_no]
theorem F_May {t : Ty} (h : t.Fine) : F_kind_May t.text = some true := by
  obtain ⟨d, h1⟩ := F_read h
  unfold F_kind_May
  simp only [h1, Option.bind_eq_bind, Option.bind_some]; rfl
theorem F_Names {t : Ty} (h : t.Fine) : F_kind_Names t.text = some t.names := by
  obtain ⟨d, h1⟩ := F_read h
  unfold F_kind_Names
  have hz : ((0 : Int) != (0 : Int)) = false := by decide
  simp only [h1, Option.bind_eq_bind, Option.bind_some, hz, Bool.false_eq_true, if_false]
theorem ixFrom_skip {c : UInt8} : ∀ (w r : List UInt8) (i : Int), (∀ b ∈ w, (b == c) = false) → ixFrom c (w ++ c :: r) i = i + w.length := by
  intro w
  induction w with
  | nil => intro r i _; simp [ixFrom]
  | cons b w ih =>
    intro r i hw
    have hb := hw b (by simp)
    simp only [List.cons_append, ixFrom, hb, Bool.false_eq_true, if_false]
    rw [ih r (i + 1) (fun x hx => hw x (by simp [hx]))]
    simp; omega
theorem F_IndexByte (s : List UInt8) (c : UInt8) : F_strings_IndexByte s c = some (ixFrom c s 0) := by
  unfold F_strings_IndexByte F_internal_stringslite_IndexByte F_internal_bytealg_IndexByteString
  rfl
theorem Head_base {w : List UInt8} {k : Int} (h : (Ty.base w k).Fine) : F_kind_Head w = some (k, [], [], [], 0) := by
  obtain ⟨d, h1⟩ := F_read h
  obtain ⟨_, _, hk0, _⟩ := bases_word h.ok
  have hk : (k == (0 : Int)) = false := by simpa using hk0
  have hz : ((0 : Int) != (0 : Int)) = false := by decide
  simp only [Ty.text, Ty.kind, Ty.ends, endsI, List.map_nil, Ty.names] at h1
  unfold F_kind_Head
  simp only [h1, Option.bind_eq_bind, Option.bind_some, hz, hk, Bool.false_eq_true, if_false, List.length_nil]
  rfl
theorem Head_name {p : List UInt8} {ps : List (List UInt8)} (h : (Ty.name p ps).Fine) : F_kind_Head (p ++ dots ps) = some (0, p ++ dots ps, [], [], 0) := by
  obtain ⟨d, h1⟩ := F_read h
  have hz : ((0 : Int) != (0 : Int)) = false := by decide
  simp only [Ty.text, Ty.kind, Ty.ends, endsI, List.map_nil, Ty.names] at h1
  unfold F_kind_Head
  simp only [h1, Option.bind_eq_bind, Option.bind_some, hz, Bool.false_eq_true, if_false, beq_self_eq_true, if_true]
theorem Head_one {t u : Ty} {w : List UInt8} {k : Int} {m : Nat} (h : u.Fine) (ht : u.text = w ++ 60 :: (t.text ++ [62])) (hw : ∀ b ∈ w, (b == (60 : UInt8)) = false) (hm : w.length = m) (hk : u.kind = k) (hk0 : (k == (0 : Int)) = false) (he : u.ends 0 = [m + 1 + t.text.length]) :
    F_kind_Head u.text = some (k, [], t.text, [], 0) := by
  obtain ⟨d, h1⟩ := F_read h
  have hz : ((0 : Int) != (0 : Int)) = false := by decide
  have hi : F_strings_IndexByte u.text 60 = some (m : Int) := by rw [F_IndexByte, ht, ixFrom_skip w _ 0 hw, hm]; simp
  have hl : u.text.length = m + (t.text.length + 2) := by rw [ht]; simp [hm]
  have hlen := h.len
  have h3 : iadd .i64 (m : Int) 1 = ((m + 1 : Nat) : Int) := iadd_one (by omega)
  have h4 : lidx [((m + 1 + t.text.length : Nat) : Int)] 0 = some ((m + 1 + t.text.length : Nat) : Int) := by rw [lidx_zero]; rfl
  have h5 : subl u.text ((m + 1 : Nat) : Int) ((m + 1 + t.text.length : Nat) : Int) = some t.text := by
    rw [subl_nat _ (by omega) (by omega)]
    congr 1
    refine sub_of_drop (r := [62]) ?_
    rw [ht, ← hm, ← List.drop_drop]
    simp
  rw [hk, he] at h1
  unfold F_kind_Head
  have e1 : ((([((m + 1 + t.text.length : Nat) : Int)] : List Int).length : Int) == (0 : Int)) = false := by simp
  have e2 : ((([((m + 1 + t.text.length : Nat) : Int)] : List Int).length : Int) == (2 : Int)) = false := by simp
  simp only [h1, Option.bind_eq_bind, Option.bind_some, hz, hk0, Bool.false_eq_true, if_false, endsI, List.map_cons, List.map_nil, e1, e2, hi, h3, h4, h5]
theorem Head_list {t : Ty} (h : (Ty.list t).Fine) : F_kind_Head (Ty.list t).text = some (15, [], t.text, [], 0) :=
  Head_one (w := [108, 105, 115, 116]) (m := 4) h rfl (by decide) rfl rfl (by decide) (by simp [Ty.ends])
theorem Head_set {t : Ty} (h : (Ty.set t).Fine) : F_kind_Head (Ty.set t).text = some (14, [], t.text, [], 0) :=
  Head_one (w := [115, 101, 116]) (m := 3) h rfl (by decide) rfl rfl (by decide) (by simp [Ty.ends])
theorem Head_map {a b : Ty} (h : (Ty.map a b).Fine) : F_kind_Head (Ty.map a b).text = some (13, [], a.text, b.text, 0) := by
  obtain ⟨d, h1⟩ := F_read h
  have hz : ((0 : Int) != (0 : Int)) = false := by decide
  have hz3 : ((13 : Int) == (0 : Int)) = false := by decide
  have ht : (Ty.map a b).text = [109, 97, 112] ++ 60 :: (a.text ++ 44 :: (b.text ++ [62])) := rfl
  have hi : F_strings_IndexByte (Ty.map a b).text 60 = some ((3 : Nat) : Int) := by rw [F_IndexByte, ht, ixFrom_skip [109, 97, 112] _ 0 (by decide)]; rfl
  have hl : (Ty.map a b).text.length = 3 + (a.text.length + (b.text.length + 3)) := by rw [ht]; simp; omega
  have hlen := h.len
  have h3 : iadd .i64 ((3 : Nat) : Int) 1 = ((4 : Nat) : Int) := iadd_one (by omega)
  have he : endsI ((Ty.map a b).ends 0) = [((4 + a.text.length : Nat) : Int), ((4 + a.text.length + 1 + b.text.length : Nat) : Int)] := by simp [Ty.ends, endsI]
  have h4 : lidx [((4 + a.text.length : Nat) : Int), ((4 + a.text.length + 1 + b.text.length : Nat) : Int)] 0 = some ((4 + a.text.length : Nat) : Int) := by rw [lidx_zero]; rfl
  have h4b : lidx [((4 + a.text.length : Nat) : Int), ((4 + a.text.length + 1 + b.text.length : Nat) : Int)] 1 = some ((4 + a.text.length + 1 + b.text.length : Nat) : Int) := lidx_nat _ 1
  have h5 : subl (Ty.map a b).text ((4 : Nat) : Int) ((4 + a.text.length : Nat) : Int) = some a.text := by
    rw [subl_nat _ (by omega) (by omega)]
    congr 1
    exact sub_of_drop (r := 44 :: (b.text ++ [62])) (by rw [ht]; rfl)
  have h6 : iadd .i64 ((4 + a.text.length : Nat) : Int) 1 = ((4 + a.text.length + 1 : Nat) : Int) := iadd_one (by omega)
  have h7 : subl (Ty.map a b).text ((4 + a.text.length + 1 : Nat) : Int) ((4 + a.text.length + 1 + b.text.length : Nat) : Int) = some b.text := by
    rw [subl_nat _ (by omega) (by omega)]
    congr 1
    refine sub_of_drop (r := [62]) ?_
    rw [ht, ← List.drop_drop, ← List.drop_drop]
    simp
  rw [he] at h1
  have hk : (Ty.map a b).kind = 13 := rfl
  rw [hk] at h1
  unfold F_kind_Head
  have e1 : ((([((4 + a.text.length : Nat) : Int), ((4 + a.text.length + 1 + b.text.length : Nat) : Int)] : List Int).length : Int) == (0 : Int)) = false := rfl
  have e2 : ((([((4 + a.text.length : Nat) : Int), ((4 + a.text.length + 1 + b.text.length : Nat) : Int)] : List Int).length : Int) == (2 : Int)) = true := rfl
  simp only [h1, Option.bind_eq_bind, Option.bind_some, hz, hz3, Bool.false_eq_true, if_false, e1, e2, if_true, hi, h3, h4, h4b, h5, h6, h7]
end Go.Proofs.YtfihinodhhhllaaGreat
