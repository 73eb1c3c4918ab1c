/- What slices.IndexFunc and slices.ContainsFunc answer; printed by genidx.py. -/
import Derived.Test.YtfihinodhhhllaaGreatIyBase
import Derived.Test.YtfihinodhhhllaaGreatIbA
set_option linter.unusedVariables false
set_option linter.unusedSimpArgs false
set_option linter.unusedVariables false
namespace Go.Proofs.YtfihinodhhhllaaGreat
open Go
/-- Where something stands first, or -1. -/
def idxI {α : Type} (g : α → Bool) (l : List α) : Int := match l.findIdx? g with | some i => (i : Int) | none => -1
theorem idxI_neg {α : Type} {g : α → Bool} {l : List α} : decide (idxI g l ≥ 0) = l.any g := by
  unfold idxI
  rw [Bool.eq_iff_iff]
  cases h : l.findIdx? g with
  | none => rw [List.findIdx?_eq_none_iff] at h; simp; exact h
  | some i =>
    obtain ⟨hi, hg, _⟩ := List.findIdx?_eq_some_iff_getElem.1 h
    simp
    exact ⟨l[i], List.getElem_mem hi, hg⟩
theorem IndexFunc_string_loop (l : List (List UInt8)) (f : (List UInt8) → Option Bool) (g : (List UInt8) → Bool) (hl : l.length < 2 ^ 62) (hg : ∀ x ∈ l, f x = some (g x)) : ∀ (n i : Nat), l.length - i = n → i ≤ l.length →
    F_slices_IndexFunc_string_string_16 (l, f, (l.length : Int), (i : Int)) = some (match (l.drop i).findIdx? g with | some j => ((i + j : Nat) : Int) | none => -1) := by
  intro n
  induction n with
  | zero =>
    intro i hn hi
    rw [F_slices_IndexFunc_string_string_16_eq]
    have h1 : decide ((i : Int) < (l.length : Int)) = false := by simp; omega
    rw [List.drop_eq_nil_of_le (by omega)]
    simp only [h1, Bool.false_eq_true, if_false, List.findIdx?_nil]
  | succ n ih =>
    intro i hn hi
    have hlt : i < l.length := by omega
    rw [F_slices_IndexFunc_string_string_16_eq]
    have h1 : decide ((i : Int) < (l.length : Int)) = true := by simp; omega
    have h2 : l[i]? = some l[i] := List.getElem?_eq_getElem hlt
    have h3 : iadd .i64 (i : Int) 1 = ((i + 1 : Nat) : Int) := iadd_one (by omega)
    simp only [h1, if_true, lidx_nat, h2, Option.bind_eq_bind, Option.bind_some, hg _ (List.getElem_mem hlt), h3]
    rw [ih (i + 1) (by omega) (by omega), List.drop_eq_getElem_cons hlt, List.findIdx?_cons]
    cases hgi : g l[i]
    · simp only [Bool.false_eq_true, if_false]
      cases (l.drop (i + 1)).findIdx? g with
      | none => rfl
      | some j => simp only [Option.map_some]; congr 2; omega
    · simp
theorem IndexFunc_string {l : List (List UInt8)} {f : (List UInt8) → Option Bool} {g : (List UInt8) → Bool} (hl : l.length < 2 ^ 62) (hg : ∀ x ∈ l, f x = some (g x)) : F_slices_IndexFunc_string_string l f = some (idxI g l) := by
  unfold F_slices_IndexFunc_string_string idxI
  have h := IndexFunc_string_loop l f g hl hg _ 0 rfl (by omega)
  simp only [List.drop_zero, Nat.zero_add] at h
  exact h
theorem ContainsFunc_string {l : List (List UInt8)} {f : (List UInt8) → Option Bool} {g : (List UInt8) → Bool} (hl : l.length < 2 ^ 62) (hg : ∀ x ∈ l, f x = some (g x)) : F_slices_ContainsFunc_string_string l f = some (l.any g) := by
  unfold F_slices_ContainsFunc_string_string
  simp only [IndexFunc_string hl hg, Option.bind_eq_bind, Option.bind_some, idxI_neg]
theorem IndexFunc_SEnum_loop (l : List YSEnum) (f : YSEnum → Option Bool) (g : YSEnum → Bool) (hl : l.length < 2 ^ 62) (hg : ∀ x ∈ l, f x = some (g x)) : ∀ (n i : Nat), l.length - i = n → i ≤ l.length →
    F_slices_IndexFunc_api_SEnum_api_SEnum_16 (l, f, (l.length : Int), (i : Int)) = some (match (l.drop i).findIdx? g with | some j => ((i + j : Nat) : Int) | none => -1) := by
  intro n
  induction n with
  | zero =>
    intro i hn hi
    rw [F_slices_IndexFunc_api_SEnum_api_SEnum_16_eq]
    have h1 : decide ((i : Int) < (l.length : Int)) = false := by simp; omega
    rw [List.drop_eq_nil_of_le (by omega)]
    simp only [h1, Bool.false_eq_true, if_false, List.findIdx?_nil]
  | succ n ih =>
    intro i hn hi
    have hlt : i < l.length := by omega
    rw [F_slices_IndexFunc_api_SEnum_api_SEnum_16_eq]
    have h1 : decide ((i : Int) < (l.length : Int)) = true := by simp; omega
    have h2 : l[i]? = some l[i] := List.getElem?_eq_getElem hlt
    have h3 : iadd .i64 (i : Int) 1 = ((i + 1 : Nat) : Int) := iadd_one (by omega)
    simp only [h1, if_true, lidx_nat, h2, Option.bind_eq_bind, Option.bind_some, hg _ (List.getElem_mem hlt), h3]
    rw [ih (i + 1) (by omega) (by omega), List.drop_eq_getElem_cons hlt, List.findIdx?_cons]
    cases hgi : g l[i]
    · simp only [Bool.false_eq_true, if_false]
      cases (l.drop (i + 1)).findIdx? g with
      | none => rfl
      | some j => simp only [Option.map_some]; congr 2; omega
    · simp
theorem IndexFunc_SEnum {l : List YSEnum} {f : YSEnum → Option Bool} {g : YSEnum → Bool} (hl : l.length < 2 ^ 62) (hg : ∀ x ∈ l, f x = some (g x)) : F_slices_IndexFunc_api_SEnum_api_SEnum l f = some (idxI g l) := by
  unfold F_slices_IndexFunc_api_SEnum_api_SEnum idxI
  have h := IndexFunc_SEnum_loop l f g hl hg _ 0 rfl (by omega)
  simp only [List.drop_zero, Nat.zero_add] at h
  exact h
theorem IndexFunc_SStruct_loop (l : List YSStruct) (f : YSStruct → Option Bool) (g : YSStruct → Bool) (hl : l.length < 2 ^ 62) (hg : ∀ x ∈ l, f x = some (g x)) : ∀ (n i : Nat), l.length - i = n → i ≤ l.length →
    F_slices_IndexFunc_api_SStruct_api_SStruct_16 (l, f, (l.length : Int), (i : Int)) = some (match (l.drop i).findIdx? g with | some j => ((i + j : Nat) : Int) | none => -1) := by
  intro n
  induction n with
  | zero =>
    intro i hn hi
    rw [F_slices_IndexFunc_api_SStruct_api_SStruct_16_eq]
    have h1 : decide ((i : Int) < (l.length : Int)) = false := by simp; omega
    rw [List.drop_eq_nil_of_le (by omega)]
    simp only [h1, Bool.false_eq_true, if_false, List.findIdx?_nil]
  | succ n ih =>
    intro i hn hi
    have hlt : i < l.length := by omega
    rw [F_slices_IndexFunc_api_SStruct_api_SStruct_16_eq]
    have h1 : decide ((i : Int) < (l.length : Int)) = true := by simp; omega
    have h2 : l[i]? = some l[i] := List.getElem?_eq_getElem hlt
    have h3 : iadd .i64 (i : Int) 1 = ((i + 1 : Nat) : Int) := iadd_one (by omega)
    simp only [h1, if_true, lidx_nat, h2, Option.bind_eq_bind, Option.bind_some, hg _ (List.getElem_mem hlt), h3]
    rw [ih (i + 1) (by omega) (by omega), List.drop_eq_getElem_cons hlt, List.findIdx?_cons]
    cases hgi : g l[i]
    · simp only [Bool.false_eq_true, if_false]
      cases (l.drop (i + 1)).findIdx? g with
      | none => rfl
      | some j => simp only [Option.map_some]; congr 2; omega
    · simp
theorem IndexFunc_SStruct {l : List YSStruct} {f : YSStruct → Option Bool} {g : YSStruct → Bool} (hl : l.length < 2 ^ 62) (hg : ∀ x ∈ l, f x = some (g x)) : F_slices_IndexFunc_api_SStruct_api_SStruct l f = some (idxI g l) := by
  unfold F_slices_IndexFunc_api_SStruct_api_SStruct idxI
  have h := IndexFunc_SStruct_loop l f g hl hg _ 0 rfl (by omega)
  simp only [List.drop_zero, Nat.zero_add] at h
  exact h
theorem IndexFunc_SField_loop (l : List YSField) (f : YSField → Option Bool) (g : YSField → Bool) (hl : l.length < 2 ^ 62) (hg : ∀ x ∈ l, f x = some (g x)) : ∀ (n i : Nat), l.length - i = n → i ≤ l.length →
    F_slices_IndexFunc_api_SField_api_SField_16 (l, f, (l.length : Int), (i : Int)) = some (match (l.drop i).findIdx? g with | some j => ((i + j : Nat) : Int) | none => -1) := by
  intro n
  induction n with
  | zero =>
    intro i hn hi
    rw [F_slices_IndexFunc_api_SField_api_SField_16_eq]
    have h1 : decide ((i : Int) < (l.length : Int)) = false := by simp; omega
    rw [List.drop_eq_nil_of_le (by omega)]
    simp only [h1, Bool.false_eq_true, if_false, List.findIdx?_nil]
  | succ n ih =>
    intro i hn hi
    have hlt : i < l.length := by omega
    rw [F_slices_IndexFunc_api_SField_api_SField_16_eq]
    have h1 : decide ((i : Int) < (l.length : Int)) = true := by simp; omega
    have h2 : l[i]? = some l[i] := List.getElem?_eq_getElem hlt
    have h3 : iadd .i64 (i : Int) 1 = ((i + 1 : Nat) : Int) := iadd_one (by omega)
    simp only [h1, if_true, lidx_nat, h2, Option.bind_eq_bind, Option.bind_some, hg _ (List.getElem_mem hlt), h3]
    rw [ih (i + 1) (by omega) (by omega), List.drop_eq_getElem_cons hlt, List.findIdx?_cons]
    cases hgi : g l[i]
    · simp only [Bool.false_eq_true, if_false]
      cases (l.drop (i + 1)).findIdx? g with
      | none => rfl
      | some j => simp only [Option.map_some]; congr 2; omega
    · simp
theorem IndexFunc_SField {l : List YSField} {f : YSField → Option Bool} {g : YSField → Bool} (hl : l.length < 2 ^ 62) (hg : ∀ x ∈ l, f x = some (g x)) : F_slices_IndexFunc_api_SField_api_SField l f = some (idxI g l) := by
  unfold F_slices_IndexFunc_api_SField_api_SField idxI
  have h := IndexFunc_SField_loop l f g hl hg _ 0 rfl (by omega)
  simp only [List.drop_zero, Nat.zero_add] at h
  exact h
theorem IndexFunc_Member_loop (l : List YMember) (f : YMember → Option Bool) (g : YMember → Bool) (hl : l.length < 2 ^ 62) (hg : ∀ x ∈ l, f x = some (g x)) : ∀ (n i : Nat), l.length - i = n → i ≤ l.length →
    F_slices_IndexFunc_api_Member_api_Member_16 (l, f, (l.length : Int), (i : Int)) = some (match (l.drop i).findIdx? g with | some j => ((i + j : Nat) : Int) | none => -1) := by
  intro n
  induction n with
  | zero =>
    intro i hn hi
    rw [F_slices_IndexFunc_api_Member_api_Member_16_eq]
    have h1 : decide ((i : Int) < (l.length : Int)) = false := by simp; omega
    rw [List.drop_eq_nil_of_le (by omega)]
    simp only [h1, Bool.false_eq_true, if_false, List.findIdx?_nil]
  | succ n ih =>
    intro i hn hi
    have hlt : i < l.length := by omega
    rw [F_slices_IndexFunc_api_Member_api_Member_16_eq]
    have h1 : decide ((i : Int) < (l.length : Int)) = true := by simp; omega
    have h2 : l[i]? = some l[i] := List.getElem?_eq_getElem hlt
    have h3 : iadd .i64 (i : Int) 1 = ((i + 1 : Nat) : Int) := iadd_one (by omega)
    simp only [h1, if_true, lidx_nat, h2, Option.bind_eq_bind, Option.bind_some, hg _ (List.getElem_mem hlt), h3]
    rw [ih (i + 1) (by omega) (by omega), List.drop_eq_getElem_cons hlt, List.findIdx?_cons]
    cases hgi : g l[i]
    · simp only [Bool.false_eq_true, if_false]
      cases (l.drop (i + 1)).findIdx? g with
      | none => rfl
      | some j => simp only [Option.map_some]; congr 2; omega
    · simp
theorem IndexFunc_Member {l : List YMember} {f : YMember → Option Bool} {g : YMember → Bool} (hl : l.length < 2 ^ 62) (hg : ∀ x ∈ l, f x = some (g x)) : F_slices_IndexFunc_api_Member_api_Member l f = some (idxI g l) := by
  unfold F_slices_IndexFunc_api_Member_api_Member idxI
  have h := IndexFunc_Member_loop l f g hl hg _ 0 rfl (by omega)
  simp only [List.drop_zero, Nat.zero_add] at h
  exact h
theorem ContainsFunc_Member {l : List YMember} {f : YMember → Option Bool} {g : YMember → Bool} (hl : l.length < 2 ^ 62) (hg : ∀ x ∈ l, f x = some (g x)) : F_slices_ContainsFunc_api_Member_api_Member l f = some (l.any g) := by
  unfold F_slices_ContainsFunc_api_Member_api_Member
  simp only [IndexFunc_Member hl hg, Option.bind_eq_bind, Option.bind_some, idxI_neg]
end Go.Proofs.YtfihinodhhhllaaGreat
