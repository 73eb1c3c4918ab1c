/- Types' texts: what the readers of package kind answer at the text of a type. -/
import Derived.Test.YtfihinodhhhllaaGreatIyBase
import Derived.Test.YtfihinodhhhllaaGreatIbA
set_option linter.unusedVariables false
set_option linter.unusedSimpArgs false
namespace Go.Proofs.YtfihinodhhhllaaGreat
open Go
def letterB (b : UInt8) : Bool := (b.toNat == 95) || (decide (97 ≤ b.toNat) && decide (b.toNat ≤ 122)) || (decide (65 ≤ b.toNat) && decide (b.toNat ≤ 90))
def wordB (b : UInt8) : Bool := letterB b || (decide (48 ≤ b.toNat) && decide (b.toNat ≤ 57))
theorem F_letter (b : UInt8) : F_kind_letter b = some (letterB b) := by
  unfold F_kind_letter letterB
  have e1 : (((b.toNat : Int)) == (95 : Int)) = (b.toNat == 95) := by rw [Bool.eq_iff_iff]; simp; omega
  have e2 : decide ((b.toNat : Int) ≥ (97 : Int)) = decide (97 ≤ b.toNat) := by rw [Bool.eq_iff_iff]; simp; omega
  have e3 : decide ((b.toNat : Int) ≤ (122 : Int)) = decide (b.toNat ≤ 122) := by rw [Bool.eq_iff_iff]; simp; omega
  have e4 : decide ((b.toNat : Int) ≥ (65 : Int)) = decide (65 ≤ b.toNat) := by rw [Bool.eq_iff_iff]; simp; omega
  have e5 : decide ((b.toNat : Int) ≤ (90 : Int)) = decide (b.toNat ≤ 90) := by rw [Bool.eq_iff_iff]; simp; omega
  rw [e1, e2, e3, e4, e5]
  cases (b.toNat == 95) <;> cases decide (97 ≤ b.toNat) <;> cases decide (b.toNat ≤ 122) <;> cases decide (65 ≤ b.toNat) <;> cases decide (b.toNat ≤ 90) <;> rfl
/-- Here a word ends. -/
def stopC (r : List UInt8) : Prop := ∀ b, r.head? = some b → wordB b = false
theorem F_fails_no (c : Ykind_cursor) (e : Int) : F_kind_cursor_fails c false e = some c := by unfold F_kind_cursor_fails; rfl
theorem F_fails_ok {c : Ykind_cursor} (h : c.e_ = 0) (e : Int) : F_kind_cursor_fails c true e = some { c with e_ := e } := by
  unfold F_kind_cursor_fails; simp [h]
theorem part_loop {s : List UInt8} (hs : s.length < 2 ^ 62) (nm : List (List UInt8)) (d from_ : Int) : ∀ (w r : List UInt8) (q : Nat), s.drop q = w ++ r → q ≤ s.length → (∀ b ∈ w, wordB b = true) → stopC r →
    F_kind_cursor_part_9 (from_, ⟨s, (q : Int), 0, nm, d⟩) = (subl s from_ ((q + w.length : Nat) : Int)).bind fun x => some (x, ⟨s, ((q + w.length : Nat) : Int), 0, nm, d⟩) := by
  intro w
  induction w with
  | nil =>
    intro r q hd hq _ hst
    rw [F_kind_cursor_part_9_eq]
    by_cases hlt : q < s.length
    · obtain ⟨b, r', rfl⟩ : ∃ b r', r = b :: r' := by
        cases r with
        | nil => have := drop_len hd (by omega); simp at this; omega
        | cons b r' => exact ⟨b, r', rfl⟩
      obtain ⟨hb, _, _⟩ := drop_head (w := r') (b := b) (by simpa using hd)
      have hw := hst b rfl
      have h1 : decide ((q : Int) < (s.length : Int)) = true := by simpa using hlt
      simp only [beq_self_eq_true, if_true, h1, lidx_nat, hb, Option.bind_eq_bind, Option.bind_some, F_letter]
      unfold wordB at hw
      cases hl : letterB b
      · rw [hl] at hw
        simp only [Bool.false_or] at hw
        simp only [Bool.false_eq_true, if_false]
        by_cases h48 : decide ((b.toNat : Int) ≥ 48) = true
        · rw [if_pos h48]
          have h57 : ¬ decide ((b.toNat : Int) ≤ 57) = true := by
            intro h; simp at h h48 hw; have := hw (by omega); omega
          rw [if_neg h57]
          simp
        · rw [if_neg h48]
          simp
      · rw [hl] at hw; simp at hw
    · have h1 : ¬ decide ((q : Int) < (s.length : Int)) = true := by simpa using hlt
      simp only [beq_self_eq_true, if_true]
      rw [if_neg h1]
      simp
  | cons b w ih =>
    intro r q hd hq hw hst
    obtain ⟨hb, hd', hlt⟩ := drop_head (w := w ++ r) (b := b) (by simpa using hd)
    have hbw := hw b (by simp)
    have h1 : decide ((q : Int) < (s.length : Int)) = true := by simpa using hlt
    have hn := ih r (q + 1) hd' (by omega) (fun x hx => hw x (by simp [hx])) hst
    have hq1 : iadd .i64 (q : Int) 1 = ((q + 1 : Nat) : Int) := iadd_one (by omega)
    have e1 : q + 1 + w.length = q + (b :: w).length := by simp; omega
    rw [F_kind_cursor_part_9_eq]
    simp only [beq_self_eq_true, if_true, h1, lidx_nat, hb, Option.bind_eq_bind, Option.bind_some, F_letter, hq1]
    rw [e1] at hn
    unfold wordB at hbw
    cases hl : letterB b
    · rw [hl] at hbw
      simp at hbw
      have h48 : decide ((b.toNat : Int) ≥ 48) = true := by simp; omega
      have h57 : decide ((b.toNat : Int) ≤ 57) = true := by simp; omega
      simp only [Bool.false_eq_true, if_false, h48, h57, if_true]
      exact hn
    · simp only [if_true]
      exact hn
/-- A word that may begin a name. -/
def isWord (w : List UInt8) : Prop := (∀ b ∈ w, wordB b = true) ∧ ∃ b, w.head? = some b ∧ letterB b = true
theorem F_part {s : List UInt8} (hs : s.length < 2 ^ 62) (nm : List (List UInt8)) (d : Int) {w r : List UInt8} {q : Nat} (hd : s.drop q = w ++ r) (hq : q ≤ s.length) (hw : isWord w) (hst : stopC r) :
    F_kind_cursor_part ⟨s, (q : Int), 0, nm, d⟩ = some (w, ⟨s, ((q + w.length : Nat) : Int), 0, nm, d⟩) := by
  obtain ⟨hw1, b, hb, hl⟩ := hw
  obtain ⟨w', rfl⟩ : ∃ w', w = b :: w' := by cases w with | nil => simp at hb | cons x w' => simp at hb; exact ⟨w', by rw [hb]⟩
  obtain ⟨hb', _, hlt⟩ := drop_head (w := w' ++ r) (b := b) (by simpa using hd)
  have h1 : ¬ decide ((q : Int) ≥ (s.length : Int)) = true := by simp; omega
  unfold F_kind_cursor_part
  simp only [if_neg h1, lidx_nat, hb', Option.bind_eq_bind, Option.bind_some, F_letter, hl, Bool.not_true, F_fails_no, F_kind_cursor_part_15]
  rw [part_loop hs nm d (q : Int) (b :: w') r q hd hq hw1 hst]
  have hlen := drop_len hd hq
  rw [subl_nat s (by omega) (by rw [hlen, List.length_append]; omega), Option.bind_some, sub_of_drop hd]
theorem F_rest_no {s : List UInt8} (nm : List (List UInt8)) (d : Int) {r : List UInt8} {q : Nat} (hd : s.drop q = r) (hq : q ≤ s.length) (hr : r.head? ≠ some 46) :
    F_kind_cursor_rest ⟨s, (q : Int), 0, nm, d⟩ = some (false, ⟨s, (q : Int), 0, nm, d⟩) := by
  unfold F_kind_cursor_rest
  rw [F_kind_cursor_rest_10_eq]
  by_cases hlt : q < s.length
  · obtain ⟨b, r', rfl⟩ : ∃ b r', r = b :: r' := by
      cases r with
      | nil => have := drop_len hd (by omega); simp at this; omega
      | cons b r' => exact ⟨b, r', rfl⟩
    obtain ⟨hb, _, _⟩ := drop_head hd
    have h1 : decide ((q : Int) < (s.length : Int)) = true := by simpa using hlt
    have h2 : ((b.toNat : Int) == (46 : Int)) = false := by
      simp only [List.head?_cons, ne_eq, Option.some.injEq] at hr
      rw [Bool.eq_false_iff]; intro h; apply hr
      have : b.toNat = 46 := by simp at h; omega
      exact UInt8.toNat_inj.1 this
    simp only [beq_self_eq_true, if_true, h1, lidx_nat, hb, Option.bind_eq_bind, Option.bind_some, h2, Bool.false_eq_true, if_false]
    simp
  · have h1 : decide ((q : Int) < (s.length : Int)) = false := by simpa using hlt
    simp only [beq_self_eq_true, if_true, h1, Bool.false_eq_true, if_false]
    simp

theorem F_sign {s : List UInt8} (hs : s.length < 2 ^ 62) (nm : List (List UInt8)) (d : Int) {b : UInt8} {r : List UInt8} {q : Nat} (hd : s.drop q = b :: r) :
    F_kind_cursor_sign ⟨s, (q : Int), 0, nm, d⟩ b = some ⟨s, ((q + 1 : Nat) : Int), 0, nm, d⟩ := by
  obtain ⟨hb, _, hlt⟩ := drop_head hd
  have h1 : ¬ decide ((q : Int) ≥ (s.length : Int)) = true := by simp; omega
  have h2 : ((b.toNat : Int) != (b.toNat : Int)) = false := by simp
  unfold F_kind_cursor_sign
  simp only [if_neg h1, lidx_nat, hb, Option.bind_eq_bind, Option.bind_some, h2, F_fails_no, F_kind_cursor_sign_5, beq_self_eq_true, if_true]
  rw [iadd_one (by omega)]
/-- The other parts of a name. -/
def dots : List (List UInt8) → List UInt8
  | [] => []
  | p :: l => 46 :: (p ++ dots l)
theorem dots_stop {ps : List (List UInt8)} {r : List UInt8} (hr : stopC r) : stopC (dots ps ++ r) := by
  cases ps with
  | nil => exact hr
  | cons p l => intro b hb; simp [dots] at hb; subst hb; decide
theorem F_rest_dots {s : List UInt8} (hs : s.length < 2 ^ 62) (nm : List (List UInt8)) (d : Int) (from_ : Int) : ∀ (ps : List (List UInt8)) (r : List UInt8) (q : Nat), (∀ p ∈ ps, isWord p) → s.drop q = dots ps ++ r → q ≤ s.length → stopC r → r.head? ≠ some 46 →
    F_kind_cursor_rest_10 (from_, ⟨s, (q : Int), 0, nm, d⟩) = some (decide (((q + (dots ps).length : Nat) : Int) > from_), ⟨s, ((q + (dots ps).length : Nat) : Int), 0, nm, d⟩) := by
  intro ps
  induction ps with
  | nil =>
    intro r q _ hd hq hst hr
    simp only [dots, List.nil_append] at hd
    rw [F_kind_cursor_rest_10_eq]
    by_cases hlt : q < s.length
    · obtain ⟨b, r', rfl⟩ : ∃ b r', r = b :: r' := by
        cases r with
        | nil => have := drop_len hd (by omega); simp at this; omega
        | cons b r' => exact ⟨b, r', rfl⟩
      obtain ⟨hb, _, _⟩ := drop_head hd
      have h1 : decide ((q : Int) < (s.length : Int)) = true := by simpa using hlt
      have h2 : ((b.toNat : Int) == (46 : Int)) = false := by
        simp only [List.head?_cons, ne_eq, Option.some.injEq] at hr
        rw [Bool.eq_false_iff]; intro h; apply hr
        have : b.toNat = 46 := by simp at h; omega
        exact UInt8.toNat_inj.1 this
      simp only [beq_self_eq_true, if_true, h1, lidx_nat, hb, Option.bind_eq_bind, Option.bind_some, h2, Bool.false_eq_true, if_false, dots, List.length_nil, Nat.add_zero]
      rfl
    · have h1 : decide ((q : Int) < (s.length : Int)) = false := by simpa using hlt
      simp only [beq_self_eq_true, if_true, h1, Bool.false_eq_true, if_false, dots, List.length_nil, Nat.add_zero]
      rfl
  | cons p ps ih =>
    intro r q hps hd hq hst hr
    simp only [dots, List.cons_append, List.append_assoc] at hd
    obtain ⟨hb, hd', hlt⟩ := drop_head hd
    have h1 : decide ((q : Int) < (s.length : Int)) = true := by simpa using hlt
    have h2 : (((46 : UInt8).toNat : Int) == (46 : Int)) = true := by decide
    have hq1 : iadd .i64 (q : Int) 1 = ((q + 1 : Nat) : Int) := iadd_one (by omega)
    have hp := F_part hs nm d hd' (by omega) (hps p (by simp)) (dots_stop hst)
    have hd2 : s.drop (q + 1 + p.length) = dots ps ++ r := by
      rw [← List.drop_drop, hd']; simp
    have hl := drop_len hd' (by omega)
    have hn := ih r (q + 1 + p.length) (fun x hx => hps x (by simp [hx])) hd2 (by simp at hl; omega) hst hr
    rw [F_kind_cursor_rest_10_eq]
    simp only [beq_self_eq_true, if_true, h1, lidx_nat, hb, Option.bind_eq_bind, Option.bind_some, h2, hq1, hp, hn]
    have e : q + 1 + p.length + (dots ps).length = q + (dots (p :: ps)).length := by simp [dots]; omega
    rw [e]
/-- A type, as a tree. -/
inductive Ty where
  | base (w : List UInt8) (k : Int)
  | name (p : List UInt8) (ps : List (List UInt8))
  | list (t : Ty)
  | set (t : Ty)
  | map (a b : Ty)
namespace Ty
def text : Ty → List UInt8
  | base w _ => w
  | name p ps => p ++ dots ps
  | list t => [108, 105, 115, 116] ++ (60 :: (t.text ++ [62]))
  | set t => [115, 101, 116] ++ (60 :: (t.text ++ [62]))
  | map a b => [109, 97, 112] ++ (60 :: (a.text ++ (44 :: (b.text ++ [62]))))
def kind : Ty → Int
  | base _ k => k
  | name _ _ => 0
  | list _ => 15
  | set _ => 14
  | map _ _ => 13
def names : Ty → List (List UInt8)
  | base _ _ => []
  | name p ps => [p ++ dots ps]
  | list t => t.names
  | set t => t.names
  | map a b => a.names ++ b.names
def nest : Ty → Nat
  | base _ _ => 0
  | name _ _ => 0
  | list t => t.nest + 1
  | set t => t.nest + 1
  | map a b => max a.nest b.nest + 1
def ends (q : Nat) : Ty → List Nat
  | base _ _ => []
  | name _ _ => []
  | list t => [q + 5 + t.text.length]
  | set t => [q + 4 + t.text.length]
  | map a b => [q + 4 + a.text.length, q + 4 + a.text.length + 1 + b.text.length]
def bases : List (List UInt8 × Int) := [([98, 111, 111, 108], 2), ([105, 56], 3), ([105, 49, 54], 6), ([105, 51, 50], 8), ([105, 54, 52], 10), ([100, 111, 117, 98, 108, 101], 4), ([115, 116, 114, 105, 110, 103], 11), ([98, 105, 110, 97, 114, 121], 16)]
def ok : Ty → Prop
  | base w k => (w, k) ∈ bases
  | name p ps => isWord p ∧ F_kind_word p = some 0 ∧ ∀ x ∈ ps, isWord x
  | list t => t.ok
  | set t => t.ok
  | map a b => a.ok ∧ b.ok
end Ty
instance (w : List UInt8) : Decidable (isWord w) := by
  unfold isWord
  have : Decidable (∃ b, w.head? = some b ∧ letterB b = true) := by
    cases h : w.head? with
    | none => exact isFalse (by rintro ⟨b, hb, _⟩; cases hb)
    | some b => exact if hl : letterB b = true then isTrue ⟨b, rfl, hl⟩ else isFalse (by rintro ⟨c, hc, h2⟩; cases hc; exact hl h2)
  exact inferInstance
theorem bases_word {w : List UInt8} {k : Int} (h : (w, k) ∈ Ty.bases) : isWord w ∧ F_kind_word w = some k ∧ k ≠ 0 ∧ F_kind_inner k = some 0 := by
  simp only [Ty.bases, List.mem_cons, Prod.mk.injEq, List.not_mem_nil, or_false] at h
  rcases h with ⟨rfl, rfl⟩ | ⟨rfl, rfl⟩ | ⟨rfl, rfl⟩ | ⟨rfl, rfl⟩ | ⟨rfl, rfl⟩ | ⟨rfl, rfl⟩ | ⟨rfl, rfl⟩ | ⟨rfl, rfl⟩ <;> exact ⟨by decide, by decide, by decide, by decide⟩
/-- Behind a type. -/
def stopT (r : List UInt8) : Prop := stopC r ∧ r.head? ≠ some 46
theorem stopT_sign (b : UInt8) (r : List UInt8) (h : wordB b = false) (h2 : b ≠ 46) : stopT (b :: r) := ⟨fun x hx => by simp at hx; subst hx; exact h, by simpa using h2⟩
def endsI (l : List Nat) : List Int := l.map fun (n : Nat) => (n : Int)
theorem F_rest_stop {s : List UInt8} (nm : List (List UInt8)) (d : Int) {r : List UInt8} {q : Nat} (hd : s.drop q = r) (hq : q ≤ s.length) (hr : stopT r) : F_kind_cursor_rest ⟨s, (q : Int), 0, nm, d⟩ = some (false, ⟨s, (q : Int), 0, nm, d⟩) := F_rest_no nm d hd hq hr.2
theorem one_within {s : List UInt8} (hs : s.length < 2 ^ 40) {deep : Nat} (hdp : deep < 12) (k : Int) (n : Int) (nm : List (List UInt8)) (d : Int) (q : Nat) :
    ∃ d', F_kind_cursor_one_52 ((deep : Int), k, [], n, ⟨s, (q : Int), 0, nm, d⟩) = F_kind_cursor_one_41 ((deep : Int), k, [], n, 0, ⟨s, (q : Int), 0, nm, d'⟩) := by
  have h12 : decide ((deep : Int) ≥ 12) = false := by simp; omega
  refine ⟨imax d (iadd .i64 (deep : Int) 1), ?_⟩
  rw [F_kind_cursor_one_52_eq]
  simp only [h12, F_fails_no, Option.bind_eq_bind, Option.bind_some]
theorem F_one {s : List UInt8} (hs : s.length < 2 ^ 40) : ∀ (t : Ty), t.ok → ∀ (q : Nat) (r : List UInt8) (nm : List (List UInt8)) (d : Int) (deep : Nat), s.drop q = t.text ++ r → q ≤ s.length → stopT r → deep + t.nest ≤ 12 → nm.length + t.names.length ≤ 2 ^ 20 →
    ∃ d', F_kind_cursor_one (⟨s, (q : Int), 0, nm, d⟩, (deep : Int)) = some (t.kind, endsI (t.ends q), ⟨s, ((q + t.text.length : Nat) : Int), 0, nm ++ t.names, d'⟩) := by
  have hs' : s.length < 2 ^ 62 := by omega
  have wordstep : ∀ (w : List UInt8) (k n : Int) (m : Nat), w.length = m → isWord w → F_kind_word w = some k → (k == (0 : Int)) = false → F_kind_inner k = some n → (n == (0 : Int)) = false → ∀ (q : Nat) (r : List UInt8) (nm : List (List UInt8)) (d : Int) (deep : Nat), s.drop q = w ++ (60 :: r) → q ≤ s.length →
      F_kind_cursor_one (⟨s, (q : Int), 0, nm, d⟩, (deep : Int)) = F_kind_cursor_one_52 ((deep : Int), k, [], n, ⟨s, ((q + m : Nat) : Int), 0, nm, d⟩) := by
    intro w k n m hm hw hk hk0 hn hn0 q r nm d deep hd hq
    have hst := stopT_sign 60 r (by decide) (by decide)
    subst hm
    have h1 := F_part hs' nm d hd hq hw hst.1
    have hl := drop_len hd hq
    have hd2 : s.drop (q + w.length) = 60 :: r := by rw [← List.drop_drop, hd]; simp
    have h2 := F_rest_stop nm d hd2 (by simp at hl; omega) hst
    rw [F_kind_cursor_one_eq]
    simp only [h1, Option.bind_eq_bind, Option.bind_some, hk, h2, hk0, Bool.false_eq_true, if_false]
    rw [F_kind_cursor_one_12_eq]
    have he : ((0 : Int) != (0 : Int)) = false := by decide
    simp only [Bool.false_eq_true, if_false, hn, hn0, Option.bind_eq_bind, Option.bind_some, he]
  have innerstep : ∀ (t : Ty), t.ok → (∀ (q : Nat) (r : List UInt8) (nm : List (List UInt8)) (d : Int) (deep : Nat), s.drop q = t.text ++ r → q ≤ s.length → stopT r → deep + t.nest ≤ 12 → nm.length + t.names.length ≤ 2 ^ 20 →
        ∃ d', F_kind_cursor_one (⟨s, (q : Int), 0, nm, d⟩, (deep : Int)) = some (t.kind, endsI (t.ends q), ⟨s, ((q + t.text.length : Nat) : Int), 0, nm ++ t.names, d'⟩)) →
      ∀ (i : Nat) (c : UInt8), ([60, 44] : List UInt8)[i]? = some c → ∀ (n k : Int) (E : List Int) (q : Nat) (r : List UInt8) (nm : List (List UInt8)) (d : Int) (deep : Nat), (i : Int) < n → E.length ≤ 2 → s.drop q = c :: (t.text ++ r) → stopT r → deep + 1 + t.nest ≤ 12 → nm.length + t.names.length ≤ 2 ^ 20 →
        ∃ d', F_kind_cursor_one_41 ((deep : Int), k, E, n, (i : Int), ⟨s, (q : Int), 0, nm, d⟩) = F_kind_cursor_one_41 ((deep : Int), k, E ++ [((q + 1 + t.text.length : Nat) : Int)], n, ((i + 1 : Nat) : Int), ⟨s, ((q + 1 + t.text.length : Nat) : Int), 0, nm ++ t.names, d'⟩) := by
    intro t ht ih i c hc n k E q r nm d deep hi hE hd hst hdp hnm
    obtain ⟨hb, hd', hlt⟩ := drop_head hd
    have h1 : decide ((i : Int) < n) = true := by simpa using hi
    have hi2 : i < 2 := (List.getElem?_eq_some_iff.1 hc).1
    have h3 : iadd .i64 (deep : Int) 1 = ((deep + 1 : Nat) : Int) := iadd_one (by omega)
    have h4 : iadd .i64 (i : Int) 1 = ((i + 1 : Nat) : Int) := iadd_one (by omega)
    obtain ⟨d', h5⟩ := ih (q + 1) r nm d (deep + 1) hd' (by omega) hst hdp hnm
    have h6 : appl 8 E [((q + 1 + t.text.length : Nat) : Int)] = some (E ++ [((q + 1 + t.text.length : Nat) : Int)]) := appl_one (by decide) (by simp; omega)
    refine ⟨d', ?_⟩
    rw [F_kind_cursor_one_41_eq]
    simp only [h1, if_true, lidx_nat, hc, Option.bind_eq_bind, Option.bind_some, F_sign hs' nm d hd, beq_self_eq_true, h3, h4, h5, h6]
  have endstep : ∀ (n k : Int) (E : List Int) (q : Nat) (r : List UInt8) (nm : List (List UInt8)) (d : Int) (deep : Nat), s.drop q = 62 :: r → F_kind_cursor_one_41 ((deep : Int), k, E, n, n, ⟨s, (q : Int), 0, nm, d⟩) = some (k, E, ⟨s, ((q + 1 : Nat) : Int), 0, nm, d⟩) := by
    intro n k E q r nm d deep hd
    rw [F_kind_cursor_one_41_eq]
    have h1 : decide (n < n) = false := by simp
    simp only [h1, Bool.false_eq_true, if_false, F_sign hs' nm d hd, Option.bind_eq_bind, Option.bind_some]
  intro t
  induction t with
  | base w k =>
    intro ht q r nm d deep hd hq hst hdp hnm
    obtain ⟨hw, hk, hk0, hi⟩ := bases_word ht
    simp only [Ty.text] at hd
    have h1 := F_part hs' nm d hd hq hw hst.1
    have hl := drop_len hd hq
    have hd2 : s.drop (q + w.length) = r := by rw [← List.drop_drop, hd]; simp
    have h2 := F_rest_stop nm d hd2 (by simp at hl; omega) hst
    have hk0' : (k == (0 : Int)) = false := by simpa using hk0
    refine ⟨d, ?_⟩
    rw [F_kind_cursor_one_eq]
    simp only [h1, Option.bind_eq_bind, Option.bind_some, hk, h2, hk0', Bool.false_eq_true, if_false]
    rw [F_kind_cursor_one_12_eq]
    simp only [Bool.false_eq_true, if_false, hi, Option.bind_eq_bind, Option.bind_some, beq_self_eq_true, if_true, Ty.kind, Ty.ends, endsI, List.map_nil, Ty.text, Ty.names, List.append_nil]
  | name p ps =>
    intro ht q r nm d deep hd hq hst hdp hnm
    obtain ⟨hw, hk, hps⟩ := ht
    simp only [Ty.text, List.append_assoc] at hd
    have h1 := F_part hs' nm d hd hq hw (dots_stop hst.1)
    have hl := drop_len hd hq
    have hd2 : s.drop (q + p.length) = dots ps ++ r := by rw [← List.drop_drop, hd]; simp
    have h2 : F_kind_cursor_rest ⟨s, ((q + p.length : Nat) : Int), 0, nm, d⟩ = _ := F_rest_dots hs' nm d ((q + p.length : Nat) : Int) ps r (q + p.length) hps hd2 (by simp at hl; omega) hst.1 hst.2
    have e : q + p.length + (dots ps).length = q + (p ++ dots ps).length := by simp; omega
    rw [e] at h2
    have hsub : subl s (q : Int) ((q + (p ++ dots ps).length : Nat) : Int) = some (p ++ dots ps) := by
      rw [subl_nat s (by omega) (by rw [hl]; simp)]
      congr 1
      exact sub_of_drop (r := r) (by rw [hd]; simp)
    have happ : appl 16 nm [p ++ dots ps] = some (nm ++ [p ++ dots ps]) := appl_one (by decide) (by simp [Ty.names] at hnm ⊢; omega)
    have h3 : F_kind_cursor_one_12 ((deep : Int), 0, [], (q : Int), true, ⟨s, ((q + (p ++ dots ps).length : Nat) : Int), 0, nm, d⟩) = some (0, [], ⟨s, ((q + (p ++ dots ps).length : Nat) : Int), 0, nm ++ [p ++ dots ps], d⟩) := by
      rw [F_kind_cursor_one_12_eq]
      have hz : ((0 : Int) != (0 : Int)) = false := by decide
      simp only [if_true, hz, F_fails_no, Option.bind_eq_bind, Option.bind_some, hsub, happ]
    refine ⟨d, ?_⟩
    rw [F_kind_cursor_one_eq]
    simp only [h1, Option.bind_eq_bind, Option.bind_some, hk, h2, beq_self_eq_true, h3, ite_self]
    rfl
  | list t ih =>
    intro ht q r nm d deep hd hq hst hdp hnm
    simp only [Ty.text, List.append_assoc, List.cons_append] at hd
    simp only [Ty.nest] at hdp
    rw [wordstep [108, 105, 115, 116] 15 1 4 rfl (by decide) (by decide) (by decide) (by decide) (by decide) q (t.text ++ ([62] ++ r)) nm d deep (by rw [hd]; simp) hq]
    obtain ⟨d1, h1⟩ := one_within hs (deep := deep) (by omega) 15 1 nm d (q + 4)
    have hd2 : s.drop (q + 4) = 60 :: (t.text ++ (62 :: r)) := by rw [← List.drop_drop, hd]; simp
    obtain ⟨d2, h2⟩ := innerstep t ht (ih ht) 0 60 rfl 1 15 [] (q + 4) (62 :: r) nm d1 deep (by decide) (by simp) hd2 (stopT_sign 62 r (by decide) (by decide)) (by omega) hnm
    have hd3 : s.drop (q + 4 + 1 + t.text.length) = 62 :: r := by
      rw [← List.drop_drop, ← List.drop_drop, hd2]; simp
    have h3 := endstep 1 15 ([] ++ [((q + 4 + 1 + t.text.length : Nat) : Int)]) (q + 4 + 1 + t.text.length) r (nm ++ t.names) d2 deep hd3
    refine ⟨d2, ?_⟩
    rw [h1]
    refine h2.trans (h3.trans ?_)
    have e : q + 4 + 1 + t.text.length + 1 = q + (Ty.list t).text.length := by simp [Ty.text]; omega
    have e2 : q + 4 + 1 + t.text.length = q + 5 + t.text.length := by omega
    rw [e, e2]
    rfl
  | set t ih =>
    intro ht q r nm d deep hd hq hst hdp hnm
    simp only [Ty.text, List.append_assoc, List.cons_append] at hd
    simp only [Ty.nest] at hdp
    rw [wordstep [115, 101, 116] 14 1 3 rfl (by decide) (by decide) (by decide) (by decide) (by decide) q (t.text ++ ([62] ++ r)) nm d deep (by rw [hd]; simp) hq]
    obtain ⟨d1, h1⟩ := one_within hs (deep := deep) (by omega) 14 1 nm d (q + 3)
    have hd2 : s.drop (q + 3) = 60 :: (t.text ++ (62 :: r)) := by rw [← List.drop_drop, hd]; simp
    obtain ⟨d2, h2⟩ := innerstep t ht (ih ht) 0 60 rfl 1 14 [] (q + 3) (62 :: r) nm d1 deep (by decide) (by simp) hd2 (stopT_sign 62 r (by decide) (by decide)) (by omega) hnm
    have hd3 : s.drop (q + 3 + 1 + t.text.length) = 62 :: r := by
      rw [← List.drop_drop, ← List.drop_drop, hd2]; simp
    have h3 := endstep 1 14 ([] ++ [((q + 3 + 1 + t.text.length : Nat) : Int)]) (q + 3 + 1 + t.text.length) r (nm ++ t.names) d2 deep hd3
    refine ⟨d2, ?_⟩
    rw [h1]
    refine h2.trans (h3.trans ?_)
    have e : q + 3 + 1 + t.text.length + 1 = q + (Ty.set t).text.length := by simp [Ty.text]; omega
    have e2 : q + 3 + 1 + t.text.length = q + 4 + t.text.length := by omega
    rw [e, e2]
    rfl
  | map a b iha ihb =>
    intro ht q r nm d deep hd hq hst hdp hnm
    obtain ⟨hta, htb⟩ := ht
    simp only [Ty.text, List.append_assoc, List.cons_append] at hd
    simp only [Ty.nest] at hdp
    simp only [Ty.names, List.length_append] at hnm
    rw [wordstep [109, 97, 112] 13 2 3 rfl (by decide) (by decide) (by decide) (by decide) (by decide) q (a.text ++ (44 :: (b.text ++ ([62] ++ r)))) nm d deep (by rw [hd]; simp) hq]
    obtain ⟨d1, h1⟩ := one_within hs (deep := deep) (by omega) 13 2 nm d (q + 3)
    have hd2 : s.drop (q + 3) = 60 :: (a.text ++ (44 :: (b.text ++ (62 :: r)))) := by rw [← List.drop_drop, hd]; simp
    obtain ⟨d2, h2⟩ := innerstep a hta (iha hta) 0 60 rfl 2 13 [] (q + 3) (44 :: (b.text ++ (62 :: r))) nm d1 deep (by decide) (by simp) hd2 (stopT_sign 44 _ (by decide) (by decide)) (by omega) (by omega)
    have hd3 : s.drop (q + 3 + 1 + a.text.length) = 44 :: (b.text ++ (62 :: r)) := by
      rw [← List.drop_drop, ← List.drop_drop, hd2]; simp
    obtain ⟨d3, h3⟩ := innerstep b htb (ihb htb) 1 44 rfl 2 13 ([] ++ [((q + 3 + 1 + a.text.length : Nat) : Int)]) (q + 3 + 1 + a.text.length) (62 :: r) (nm ++ a.names) d2 deep (by decide) (by simp) hd3 (stopT_sign 62 r (by decide) (by decide)) (by omega) (by simp; omega)
    have hd4 : s.drop (q + 3 + 1 + a.text.length + 1 + b.text.length) = 62 :: r := by
      rw [← List.drop_drop, ← List.drop_drop, hd3]; simp
    have h4 := endstep 2 13 ([] ++ [((q + 3 + 1 + a.text.length : Nat) : Int)] ++ [((q + 3 + 1 + a.text.length + 1 + b.text.length : Nat) : Int)]) (q + 3 + 1 + a.text.length + 1 + b.text.length) r (nm ++ a.names ++ b.names) d3 deep hd4
    refine ⟨d3, ?_⟩
    rw [h1]
    refine h2.trans (h3.trans (h4.trans ?_))
    have e : q + 3 + 1 + a.text.length + 1 + b.text.length + 1 = q + (Ty.map a b).text.length := by simp [Ty.text]; omega
    have e2 : q + 3 + 1 + a.text.length = q + 4 + a.text.length := by omega
    rw [e, e2]
    simp [Ty.kind, Ty.ends, endsI, Ty.names]
end Go.Proofs.YtfihinodhhhllaaGreat
