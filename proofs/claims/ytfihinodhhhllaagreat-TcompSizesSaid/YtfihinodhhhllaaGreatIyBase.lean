/- Small laws about the typed operations. -/
import Derived.Test.YtfihinodhhhllaaGreatIbH
set_option linter.unusedVariables false
set_option linter.unusedSimpArgs false
set_option linter.unusedVariables false
namespace Go.Proofs.YtfihinodhhhllaaGreat
open Go
theorem lidx_nat {α : Type} (l : List α) (p : Nat) : lidx l (p : Int) = l[p]? := by simp [lidx]
theorem lidx_zero {α : Type} (l : List α) : lidx l 0 = l[0]? := by simp [lidx]
theorem subl_nat {α : Type} (l : List α) {a b : Nat} (h1 : a ≤ b) (h2 : b ≤ l.length) : subl l (a : Int) (b : Int) = some ((l.take b).drop a) := by
  unfold subl; rw [if_pos (by omega)]; simp
theorem appl_ok {α : Type} {bytes : Nat} {l ys : List α} (h1 : (l.length + ys.length) * bytes ≤ roomMax) (h2 : l.length + ys.length ≤ roomMax) : appl bytes l ys = some (l ++ ys) := by
  unfold appl; rw [if_pos ⟨h1, h2⟩]
theorem appl_one {α : Type} {bytes : Nat} {l ys : List α} (hb : bytes ≤ 2 ^ 20) (h : l.length + ys.length ≤ 2 ^ 26) : appl bytes l ys = some (l ++ ys) := by
  refine appl_ok ?_ (Nat.le_trans h (by decide))
  exact Nat.le_trans (Nat.mul_le_mul h hb) (by decide)
theorem cats_ok {a b : List UInt8} (h : a.length + b.length ≤ strMax) : cats a b = some (a ++ b) := by unfold cats; rw [if_pos h]
theorem wrap64_id {n : Int} (h1 : -9223372036854775808 ≤ n) (h2 : n < 9223372036854775808) : IntKind.i64.wrap n = n := by rw [IntKind.wrap_i64]; omega
theorem iadd_id {a b : Int} (h1 : -9223372036854775808 ≤ a + b) (h2 : a + b < 9223372036854775808) : iadd .i64 a b = a + b := wrap64_id h1 h2
theorem isub_id {a b : Int} (h1 : -9223372036854775808 ≤ a - b) (h2 : a - b < 9223372036854775808) : isub .i64 a b = a - b := wrap64_id h1 h2
theorem imul_id {a b : Int} (h1 : -9223372036854775808 ≤ a * b) (h2 : a * b < 9223372036854775808) : imul .i64 a b = a * b := wrap64_id h1 h2
theorem iadd_nat {p k : Nat} (h : p + k < 2 ^ 63) : iadd .i64 (p : Int) (k : Int) = ((p + k : Nat) : Int) := by rw [iadd_id (by omega) (by omega)]; simp
theorem iadd_one {p : Nat} (h : p + 1 < 2 ^ 63) : iadd .i64 (p : Int) 1 = ((p + 1 : Nat) : Int) := iadd_nat (k := 1) h
theorem wrapU64_id {n : Int} (h1 : 0 ≤ n) (h2 : n < 18446744073709551616) : IntKind.u64.wrap n = n := by
  simp [IntKind.wrap, IntKind.bits, IntKind.signed]; omega
theorem drop_head {α : Type} {s w : List α} {p : Nat} {b : α} (h : s.drop p = b :: w) : s[p]? = some b ∧ s.drop (p + 1) = w ∧ p < s.length := by
  have hlt : p < s.length := by
    by_cases hc : p < s.length
    · exact hc
    · rw [List.drop_eq_nil_of_le (by omega)] at h; cases h
  rw [List.drop_eq_getElem_cons hlt] at h
  injection h with h1 h2
  exact ⟨by rw [List.getElem?_eq_getElem hlt, h1], h2, hlt⟩
theorem drop_len {α : Type} {s w : List α} {p : Nat} (h : s.drop p = w) (hp : p ≤ s.length) : s.length = p + w.length := by
  have := congrArg List.length h
  simp at this
  omega
theorem sub_of_drop {α : Type} {s w r : List α} {p : Nat} (h : s.drop p = w ++ r) : (s.take (p + w.length)).drop p = w := by
  rw [List.drop_take, h]; simp
end Go.Proofs.YtfihinodhhhllaaGreat
