/- Numbers and lists of them: kinds, fit, depth. -/
import Derived.Test.YtfihinodhhhllaaGreatIyKind2
import Derived.Test.YtfihinodhhhllaaGreatIyIdx
set_option linter.unusedVariables false
set_option linter.unusedSimpArgs false
namespace Go.Proofs.YtfihinodhhhllaaGreat
open Go
def isNum (k : Int) : Prop := k = 2 ∨ k = 3 ∨ k = 4 ∨ k = 6 ∨ k = 8 ∨ k = 10
theorem num_text {k : Int} (h : isNum k) : ∃ w, (Ty.base w k).ok := by
  rcases h with rfl | rfl | rfl | rfl | rfl | rfl
  · exact ⟨[98, 111, 111, 108], by simp [Ty.ok, Ty.bases]⟩
  · exact ⟨[105, 56], by simp [Ty.ok, Ty.bases]⟩
  · exact ⟨[100, 111, 117, 98, 108, 101], by simp [Ty.ok, Ty.bases]⟩
  · exact ⟨[105, 49, 54], by simp [Ty.ok, Ty.bases]⟩
  · exact ⟨[105, 51, 50], by simp [Ty.ok, Ty.bases]⟩
  · exact ⟨[105, 54, 52], by simp [Ty.ok, Ty.bases]⟩
theorem base_len {w : List UInt8} {k : Int} (h : (w, k) ∈ Ty.bases) : w.length ≤ 6 := by
  simp only [Ty.bases, List.mem_cons, Prod.mk.injEq, List.not_mem_nil, or_false] at h
  rcases h with ⟨rfl, rfl⟩ | ⟨rfl, rfl⟩ | ⟨rfl, rfl⟩ | ⟨rfl, rfl⟩ | ⟨rfl, rfl⟩ | ⟨rfl, rfl⟩ | ⟨rfl, rfl⟩ | ⟨rfl, rfl⟩ <;> decide
theorem base_fine {w : List UInt8} {k : Int} (h : (w, k) ∈ Ty.bases) : (Ty.base w k).Fine :=
  ⟨h, by have := base_len h; simp only [Ty.text]; omega, by simp [Ty.nest], by simp [Ty.names]⟩
theorem list_fine {w : List UInt8} {k : Int} (h : (w, k) ∈ Ty.bases) : (Ty.list (Ty.base w k)).Fine :=
  ⟨h, by have := base_len h; simp only [Ty.text, List.length_append, List.length_cons, List.length_nil]; omega, by simp [Ty.nest], by simp [Ty.names]⟩
theorem Kind_base {w : List UInt8} {k : Int} (h : (w, k) ∈ Ty.bases) (s : YSchema) : F_value_Kind s w = some k := by
  obtain ⟨_, _, hk0, _⟩ := bases_word h
  have hk : (k != (0 : Int)) = true := by simpa using hk0
  have hz : ((0 : Int) != (0 : Int)) = false := by decide
  unfold F_value_Kind
  simp only [Head_base (base_fine h), Option.bind_eq_bind, Option.bind_some, hz, hk, Bool.false_eq_true, if_false, if_true]
theorem Kind_list {t : Ty} (h : (Ty.list t).Fine) (s : YSchema) : F_value_Kind s (Ty.list t).text = some 15 := by
  have hk : ((15 : Int) != (0 : Int)) = true := by decide
  have hz : ((0 : Int) != (0 : Int)) = false := by decide
  unfold F_value_Kind
  simp only [Head_list h, Option.bind_eq_bind, Option.bind_some, hz, hk, Bool.false_eq_true, if_false, if_true]
/-- A number. -/
def numV (k n : Int) : YValue := ⟨k, n, [], [], []⟩
/-- Which numbers a kind has. -/
def fitB (k n : Int) : Bool :=
  if k = 2 then (n == 0 || n == 1) else if k = 3 then (decide (-128 ≤ n) && decide (n ≤ 127)) else if k = 6 then (decide (-32768 ≤ n) && decide (n ≤ 32767)) else if k = 8 then (decide (-2147483648 ≤ n) && decide (n ≤ 2147483647)) else true
theorem F_fits {k n : Int} (hn : -9223372036854775808 ≤ n ∧ n < 9223372036854775808) (hk : k = 3 ∨ k = 6 ∨ k = 8 ∨ k = 10) : F_value_fits k n = some (fitB k n) := by
  have h8 : IntKind.i8.wrap n = n ↔ -128 ≤ n ∧ n ≤ 127 := by simp [IntKind.wrap, IntKind.bits, IntKind.signed, Int.bmod_def]; omega
  have h16 : IntKind.i16.wrap n = n ↔ -32768 ≤ n ∧ n ≤ 32767 := by simp [IntKind.wrap, IntKind.bits, IntKind.signed, Int.bmod_def]; omega
  have h32 : IntKind.i32.wrap n = n ↔ -2147483648 ≤ n ∧ n ≤ 2147483647 := by simp [IntKind.wrap, IntKind.bits, IntKind.signed, Int.bmod_def]; omega
  have b8 : IntKind.i64.wrap (IntKind.i8.wrap n) = IntKind.i8.wrap n := by simp [IntKind.wrap, IntKind.bits, IntKind.signed, Int.bmod_def]; omega
  have b16 : IntKind.i64.wrap (IntKind.i16.wrap n) = IntKind.i16.wrap n := by simp [IntKind.wrap, IntKind.bits, IntKind.signed, Int.bmod_def]; omega
  have b32 : IntKind.i64.wrap (IntKind.i32.wrap n) = IntKind.i32.wrap n := by simp [IntKind.wrap, IntKind.bits, IntKind.signed, Int.bmod_def]; omega
  unfold F_value_fits
  rcases hk with rfl | rfl | rfl | rfl
  · simp only [beq_self_eq_true, if_true, b8, fitB]
    congr 1
    rw [Bool.eq_iff_iff]; simp; rw [eq_comm, h8]
  · simp only [beq_self_eq_true, if_true, b16, fitB]
    have : ((6 : Int) == 3) = false := by decide
    simp only [this, Bool.false_eq_true, if_false]
    congr 1
    rw [Bool.eq_iff_iff]; simp; rw [eq_comm, h16]
  · simp only [beq_self_eq_true, if_true, b32, fitB]
    have : ((8 : Int) == 3) = false := by decide
    have h6 : ((8 : Int) == 6) = false := by decide
    simp only [this, h6, Bool.false_eq_true, if_false]
    congr 1
    rw [Bool.eq_iff_iff]; simp; rw [eq_comm, h32]
  · rfl
theorem num_check {w : List UInt8} {k : Int} (h : (w, k) ∈ Ty.bases) (hk : isNum k) (s : YSchema) (n : Int) (hn : -9223372036854775808 ≤ n ∧ n < 9223372036854775808) : F_value_Check (s, w, numV k n) = some (fitB k n) := by
  obtain ⟨_, _, hk0, _⟩ := bases_word h
  have hk1 : (k == (0 : Int)) = false := by simpa using hk0
  have hk2 : (k != k) = false := by simp
  rw [F_value_Check_eq]
  simp only [Kind_base h, Head_base (base_fine h), hk1, numV, hk2, Bool.false_eq_true, if_false, Option.bind_eq_bind, Option.bind_some]
  rw [F_value_Check_68_eq]
  rcases hk with rfl | rfl | rfl | rfl | rfl | rfl
  · cases h0 : (n == 0) <;> simp [fitB, h0]
  all_goals (simp only [beq_self_eq_true, if_true, show ((3 : Int) == 2) = false by decide, show ((4 : Int) == 2) = false by decide, show ((4 : Int) == 3) = false by decide, show ((4 : Int) == 6) = false by decide, show ((4 : Int) == 8) = false by decide, show ((6 : Int) == 2) = false by decide, show ((6 : Int) == 3) = false by decide, show ((8 : Int) == 2) = false by decide, show ((8 : Int) == 3) = false by decide, show ((8 : Int) == 6) = false by decide, show ((10 : Int) == 2) = false by decide, show ((10 : Int) == 3) = false by decide, show ((10 : Int) == 6) = false by decide, show ((10 : Int) == 8) = false by decide, Bool.false_eq_true, if_false]; rw [F_value_Check_59_eq])
  · simp only [if_true, F_fits hn (.inl rfl), Option.bind_eq_bind, Option.bind_some]
  · rfl
  · simp only [if_true, F_fits hn (.inr (.inl rfl)), Option.bind_eq_bind, Option.bind_some]
  · simp only [if_true, F_fits hn (.inr (.inr (.inl rfl))), Option.bind_eq_bind, Option.bind_some]
  · simp only [if_true, F_fits hn (.inr (.inr (.inr rfl))), Option.bind_eq_bind, Option.bind_some]
theorem each_loop {w : List UInt8} {k : Int} (h : (w, k) ∈ Ty.bases) (hk : isNum k) (s : YSchema) (n : Int) (hn : -9223372036854775808 ≤ n ∧ n < 9223372036854775808) (hf : fitB k n = true) (m : Nat) (hm : m < 2 ^ 20) : ∀ (j i : Nat), m - i = j → i ≤ m →
    F_value_each_14 (w, List.replicate m (numV k n), 1, (i : Int), s) = some true := by
  intro j
  induction j with
  | zero =>
    intro i hj hi
    have h1 : decide ((i : Int) < ((List.replicate m (numV k n)).length : Int)) = false := by simp; omega
    rw [F_value_each_14_eq]
    simp only [h1, Bool.false_eq_true, if_false]
  | succ j ih =>
    intro i hj hi
    have h1 : decide ((i : Int) < ((List.replicate m (numV k n)).length : Int)) = true := by simp; omega
    have h2 : (List.replicate m (numV k n))[i]? = some (numV k n) := by rw [List.getElem?_replicate, if_pos (by omega)]
    have h3 : iadd .i64 (i : Int) 1 = ((i + 1 : Nat) : Int) := iadd_one (by omega)
    rw [F_value_each_14_eq]
    simp only [h1, if_true, lidx_nat, h2, h3, Option.bind_eq_bind, Option.bind_some, num_check h hk s n hn, hf, Bool.not_true, Bool.false_eq_true, if_false]
    exact ih (i + 1) (by omega) (by omega)
theorem list_check {w : List UInt8} {k : Int} (h : (w, k) ∈ Ty.bases) (hk : isNum k) (s : YSchema) (n : Int) (hn : -9223372036854775808 ≤ n ∧ n < 9223372036854775808) (hf : fitB k n = true) (m : Nat) (hm : m < 2 ^ 20) :
    F_value_Check (s, (Ty.list (Ty.base w k)).text, ⟨15, 0, [], List.replicate m (numV k n), []⟩) = some true := by
  have e0 : ((15 : Int) == (0 : Int)) = false := by decide
  have e1 : ((15 : Int) != (15 : Int)) = false := by decide
  have h1 := each_loop h hk s n hn hf m hm m 0 rfl (by omega)
  have z : ((0 : Nat) : Int) = 0 := rfl
  rw [z] at h1
  rw [F_value_Check_eq]
  simp only [Kind_list (list_fine h), Head_list (list_fine h), e0, e1, Bool.false_eq_true, if_false, Option.bind_eq_bind, Option.bind_some]
  rw [F_value_Check_68_eq]
  simp only [show ((15 : Int) == 2) = false by decide, show ((15 : Int) == 3) = false by decide, show ((15 : Int) == 6) = false by decide, show ((15 : Int) == 8) = false by decide, show ((15 : Int) == 10) = false by decide, Bool.false_eq_true, if_false]
  rw [F_value_Check_59_eq]
  simp only [show ((15 : Int) == 11) = false by decide, Bool.false_eq_true, if_false, beq_self_eq_true, if_true, Option.bind_eq_bind]
  rw [F_value_each_eq]
  simp only [Ty.text, h1, Option.bind_some]
theorem num_depth {k : Int} (hk : isNum k) (n : Int) : F_measure_Depth (numV k n) = some 0 := by
  have h1 : F_measure_holds (numV k n) = some false := by
    unfold F_measure_holds numV
    rcases hk with rfl | rfl | rfl | rfl | rfl | rfl <;> rfl
  rw [F_measure_Depth_eq]
  simp only [h1, Option.bind_eq_bind, Option.bind_some, Bool.not_false, if_true]
theorem depth_loop {k : Int} (hk : isNum k) (n : Int) (m : Nat) (hm : m < 2 ^ 20) : ∀ (j i : Nat), m - i = j → i ≤ m → F_measure_Depth_18 (0, List.replicate m (numV k n), (m : Int), (i : Int)) = some 1 := by
  intro j
  induction j with
  | zero =>
    intro i hj hi
    have h1 : decide ((i : Int) < (m : Int)) = false := by simp; omega
    rw [F_measure_Depth_18_eq]
    simp only [h1, Bool.false_eq_true, if_false]
    rfl
  | succ j ih =>
    intro i hj hi
    have h1 : decide ((i : Int) < (m : Int)) = true := by simp; omega
    have h2 : (List.replicate m (numV k n))[i]? = some (numV k n) := by rw [List.getElem?_replicate, if_pos (by omega)]
    have h3 : iadd .i64 (i : Int) 1 = ((i + 1 : Nat) : Int) := iadd_one (by omega)
    have h4 : imax 0 0 = 0 := rfl
    rw [F_measure_Depth_18_eq]
    simp only [h1, if_true, lidx_nat, h2, h3, Option.bind_eq_bind, Option.bind_some, num_depth hk, h4]
    exact ih (i + 1) (by omega) (by omega)
theorem list_depth {k : Int} (hk : isNum k) (n : Int) (m : Nat) (hm : m < 2 ^ 20) : F_measure_Depth ⟨15, 0, [], List.replicate m (numV k n), []⟩ = some 1 := by
  have h1 : F_measure_holds ⟨15, 0, [], List.replicate m (numV k n), []⟩ = some true := rfl
  have h2 := depth_loop hk n m hm m 0 rfl (by omega)
  have z : ((0 : Nat) : Int) = 0 := rfl
  rw [z] at h2
  have hlen : ((List.replicate m (numV k n)).length : Int) = (m : Int) := by simp
  rw [F_measure_Depth_eq]
  simp only [h1, Option.bind_eq_bind, Option.bind_some, Bool.not_true, Bool.false_eq_true, if_false, hlen, h2]
end Go.Proofs.YtfihinodhhhllaaGreat
