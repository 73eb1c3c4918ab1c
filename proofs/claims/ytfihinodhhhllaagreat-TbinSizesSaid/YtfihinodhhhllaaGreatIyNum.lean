/- Numbers and lists of them, in plain bytes. -/
import Derived.Test.YtfihinodhhhllaaGreatIyKind2
import Derived.Test.YtfihinodhhhllaaGreatIyIdx
set_option linter.unusedVariables false
set_option linter.unusedSimpArgs false
namespace Go.Proofs.YtfihinodhhhllaaGreat
open Go
/-- The lowest n bytes of a number, the greatest first. -/
def be : Nat → Int → List UInt8
  | 0, _ => []
  | n + 1, v => be n (v.fdiv 256) ++ [u8w v]
theorem be_len (n : Nat) (v : Int) : (be n v).length = n := by
  induction n generalizing v with
  | zero => rfl
  | succ n ih => simp [be, ih]
theorem ishr8 (v : Int) : ishr .u64 v 8 = some (v.fdiv 256) := by
  unfold ishr
  rw [if_neg (by decide)]
  rfl
theorem put_loop (b : List UInt8) (m : Nat) (hm : m < 2 ^ 62) : ∀ (n : Nat) (v : Int) (pre post : List UInt8), pre.length = b.length + n → b.length + n + post.length = m →
    F_octet_Put_18 (b, v, m, ((b.length + n : Nat) : Int) - 1, pre ++ post) = some (pre.take b.length ++ be n v ++ post) := by
  intro n
  induction n with
  | zero =>
    intro v pre post hp hq
    rw [F_octet_Put_18_eq]
    have h1 : decide (((b.length + 0 : Nat) : Int) - 1 ≥ (b.length : Int)) = false := by simp; omega
    have h2 : frz m (pre ++ post) = some (pre ++ post) := by
      unfold frz
      rw [if_pos (by simp; omega), List.take_of_length_le (by simp; omega)]
    simp only [h1, Bool.false_eq_true, if_false, h2, Option.bind_eq_bind, Option.bind_some, be, List.append_nil]
    rw [List.take_of_length_le (by omega)]
  | succ n ih =>
    intro v pre post hp hq
    rw [F_octet_Put_18_eq]
    have h1 : decide (((b.length + (n + 1) : Nat) : Int) - 1 ≥ (b.length : Int)) = true := by simp; omega
    have h2 : msix m (((b.length + (n + 1) : Nat) : Int) - 1) = some (b.length + n) := by
      unfold msix; rw [if_pos (by omega)]; congr 1; omega
    have h3 : lset (pre ++ post) (b.length + n) (u8w v) = some (pre.take (b.length + n) ++ (u8w v :: post)) := by
      unfold lset
      rw [if_pos (by simp; omega)]
      congr 1
      rw [List.set_append_left _ _ (by omega), List.set_eq_take_append_cons_drop, if_pos (by omega), List.drop_eq_nil_of_le (by omega)]
      simp
    have h4 : isub .i64 (((b.length + (n + 1) : Nat) : Int) - 1) 1 = ((b.length + n : Nat) : Int) - 1 := by rw [isub_id (by omega) (by omega)]; omega
    simp only [h1, if_true, h2, h3, h4, ishr8, Option.bind_eq_bind, Option.bind_some]
    rw [ih (v.fdiv 256) (pre.take (b.length + n)) (u8w v :: post) (by simp; omega) (by simp; omega)]
    simp only [List.take_take, be, List.append_assoc, List.singleton_append]
    rw [Nat.min_eq_left (by omega)]
theorem F_Put {b : List UInt8} {n : Nat} (v : Int) (hb : b.length < 2 ^ 40) (hn : n ≤ 8) : F_octet_Put b v (n : Int) = some (b ++ be n v) := by
  have h1 : decide ((n : Int) < 0) = false := by simp
  have h2 : decide ((n : Int) > 8) = false := by simp; omega
  have h3 : iadd .i64 (b.length : Int) (n : Int) = ((b.length + n : Nat) : Int) := iadd_nat (by omega)
  have hr : roomMax = 70368744177664 := by decide
  have h4 : mksl 1 ((b.length + n : Nat) : Int) ((b.length + n : Nat) : Int) = some (b.length + n) := by
    unfold mksl; rw [if_pos ⟨by omega, rfl, by rw [hr]; omega, by rw [hr]; omega⟩]; congr 1 <;> omega
  have h5 : cpyl (b.length + n) (List.replicate (b.length + n) (0 : UInt8)) b = some ((b ++ List.replicate n 0) ++ []) := by
    unfold cpyl
    rw [if_pos (by simp), List.take_of_length_le (by omega), Nat.min_eq_left (by omega), List.drop_replicate, Nat.add_sub_cancel_left, List.append_nil]
  have h6 : isub .i64 (((b.length + n : Nat) : Nat) : Int) 1 = ((b.length + n : Nat) : Int) - 1 := isub_id (by omega) (by omega)
  unfold F_octet_Put F_octet_Put_27
  simp only [h1, h2, Bool.false_eq_true, if_false, h3, h4, h5, h6, Option.bind_eq_bind, Option.bind_some]
  rw [put_loop b (b.length + n) (by omega) n v _ [] (by simp) (by simp)]
  simp
theorem F_Put1 {b : List UInt8} (v : Int) (hb : b.length < 2 ^ 40) : F_octet_Put b v 1 = some (b ++ be 1 v) := F_Put (n := 1) v hb (by omega)
theorem F_Put2 {b : List UInt8} (v : Int) (hb : b.length < 2 ^ 40) : F_octet_Put b v 2 = some (b ++ be 2 v) := F_Put (n := 2) v hb (by omega)
theorem F_Put4 {b : List UInt8} (v : Int) (hb : b.length < 2 ^ 40) : F_octet_Put b v 4 = some (b ++ be 4 v) := F_Put (n := 4) v hb (by omega)
/-- Kinds of numbers, and how many bytes they have. -/
def numS (k : Int) : Nat := if k = 2 ∨ k = 3 then 1 else if k = 6 then 2 else if k = 8 then 4 else 8
def isNum (k : Int) : Prop := k = 2 ∨ k = 3 ∨ k = 4 ∨ k = 6 ∨ k = 8 ∨ k = 10
theorem num_wire {k : Int} (h : isNum k) : F_kind_Wire k = some k ∧ F_tbin_width k = some (numS k : Int) ∧ numS k ≤ 8 ∧ 0 < numS k := by
  rcases h with rfl | rfl | rfl | rfl | rfl | rfl <;> exact ⟨by decide, by decide, by decide, by decide⟩
theorem num_text {k : Int} (h : isNum k) : ∃ w, (Ty.base w k).ok := by
  rcases h with rfl | rfl | rfl | rfl | rfl | rfl
  · exact ⟨[98, 111, 111, 108], by simp [Ty.ok, Ty.bases]⟩
  · exact ⟨[105, 56], by simp [Ty.ok, Ty.bases]⟩
  · exact ⟨[100, 111, 117, 98, 108, 101], by simp [Ty.ok, Ty.bases]⟩
  · exact ⟨[105, 49, 54], by simp [Ty.ok, Ty.bases]⟩
  · exact ⟨[105, 51, 50], by simp [Ty.ok, Ty.bases]⟩
  · exact ⟨[105, 54, 52], by simp [Ty.ok, Ty.bases]⟩
theorem base_len {w : List UInt8} {k : Int} (h : (w, k) ∈ Ty.bases) : w.length ≤ 6 := by
  simp only [Ty.bases, List.mem_cons, Prod.mk.injEq, List.not_mem_nil, or_false] at h
  rcases h with ⟨rfl, rfl⟩ | ⟨rfl, rfl⟩ | ⟨rfl, rfl⟩ | ⟨rfl, rfl⟩ | ⟨rfl, rfl⟩ | ⟨rfl, rfl⟩ | ⟨rfl, rfl⟩ | ⟨rfl, rfl⟩ <;> decide
theorem base_fine {w : List UInt8} {k : Int} (h : (w, k) ∈ Ty.bases) : (Ty.base w k).Fine :=
  ⟨h, by have := base_len h; simp only [Ty.text]; omega, by simp [Ty.nest], by simp [Ty.names]⟩
theorem list_fine {w : List UInt8} {k : Int} (h : (w, k) ∈ Ty.bases) : (Ty.list (Ty.base w k)).Fine :=
  ⟨h, by have := base_len h; simp only [Ty.text, List.length_append, List.length_cons, List.length_nil]; omega, by simp [Ty.nest], by simp [Ty.names]⟩
theorem Kind_base {w : List UInt8} {k : Int} (h : (w, k) ∈ Ty.bases) (s : YSchema) : F_value_Kind s w = some k := by
  obtain ⟨_, _, hk0, _⟩ := bases_word h
  have hk : (k != (0 : Int)) = true := by simpa using hk0
  have hz : ((0 : Int) != (0 : Int)) = false := by decide
  unfold F_value_Kind
  simp only [Head_base (base_fine h), Option.bind_eq_bind, Option.bind_some, hz, hk, Bool.false_eq_true, if_false, if_true]
theorem Kind_list {t : Ty} (h : (Ty.list t).Fine) (s : YSchema) : F_value_Kind s (Ty.list t).text = some 15 := by
  have hk : ((15 : Int) != (0 : Int)) = true := by decide
  have hz : ((0 : Int) != (0 : Int)) = false := by decide
  unfold F_value_Kind
  simp only [Head_list h, Option.bind_eq_bind, Option.bind_some, hz, hk, Bool.false_eq_true, if_false, if_true]
theorem known_plain {t : Ty} (h : t.Fine) (hn : t.names = []) (s : YSchema) : F_tbin_known s t.text = some true := by
  unfold F_tbin_known
  simp only [F_May h, F_Names h, hn, Option.bind_eq_bind, Option.bind_some, if_true]
  rw [ContainsFunc_string (g := fun _ => false) (by simp) (by simp)]
  rfl
/-- A number. -/
def numV (k n : Int) : YValue := ⟨k, n, [], [], []⟩
theorem num_write {w : List UInt8} {k : Int} (h : (w, k) ∈ Ty.bases) (hk : isNum k) (W : Ytbin_writer) (n : Int) (hW : W.b_.length < 2 ^ 40) : F_tbin_writer_value (W, w, numV k n) = some ⟨W.s, W.b_ ++ be (numS k) (IntKind.u64.wrap n)⟩ := by
  obtain ⟨h1, h2, h3, h4⟩ := num_wire hk
  have h5 : decide ((numS k : Int) > 0) = true := by simp; omega
  rw [F_tbin_writer_value_eq]
  simp only [Head_base (base_fine h), Kind_base h, h1, h2, h5, if_true, Option.bind_eq_bind, Option.bind_some, F_tbin_writer_num, numV, F_Put _ hW h3]
theorem wire_base {w : List UInt8} {k : Int} (h : (w, k) ∈ Ty.bases) (hk : isNum k) (W : Ytbin_writer) : F_tbin_writer_wire W w = some k := by
  unfold F_tbin_writer_wire
  simp only [Kind_base h, (num_wire hk).1, Option.bind_eq_bind, Option.bind_some]
theorem nums_loop {w : List UInt8} {k : Int} (h : (w, k) ∈ Ty.bases) (hk : isNum k) (n : Int) (m : Nat) (hm : m < 2 ^ 20) : ∀ (j i : Nat) (W : Ytbin_writer), m - i = j → i ≤ m → W.b_.length + 8 * j < 2 ^ 40 →
    ∃ b', F_tbin_writer_value_22 (w, List.replicate m (numV k n), (m : Int), (i : Int), W) = some ⟨W.s, b'⟩ ∧ b'.length = W.b_.length + j * numS k := by
  intro j
  induction j with
  | zero =>
    intro i W hj hi hW
    have h1 : decide ((i : Int) < (m : Int)) = false := by simp; omega
    refine ⟨W.b_, ?_, by simp⟩
    rw [F_tbin_writer_value_22_eq]
    simp only [h1, Bool.false_eq_true, if_false]
  | succ j ih =>
    intro i W hj hi hW
    have h1 : decide ((i : Int) < (m : Int)) = true := by simp; omega
    have h2 : (List.replicate m (numV k n))[i]? = some (numV k n) := by rw [List.getElem?_replicate, if_pos (by omega)]
    have h3 : iadd .i64 (i : Int) 1 = ((i + 1 : Nat) : Int) := iadd_one (by omega)
    have h8 := (num_wire hk).2.2.1
    obtain ⟨b', q1, q2⟩ := ih (i + 1) ⟨W.s, W.b_ ++ be (numS k) (IntKind.u64.wrap n)⟩ (by omega) (by omega) (by simp only [List.length_append, be_len]; omega)
    refine ⟨b', ?_, ?_⟩
    · rw [F_tbin_writer_value_22_eq]
      simp only [h1, if_true, lidx_nat, h2, h3, Option.bind_eq_bind, Option.bind_some, num_write h hk W n (by omega)]
      exact q1
    · rw [q2]; simp only [List.length_append, be_len]; rw [Nat.succ_mul]; omega
theorem list_write {w : List UInt8} {k : Int} (h : (w, k) ∈ Ty.bases) (hk : isNum k) (W : Ytbin_writer) (n : Int) (m : Nat) (hm : m < 2 ^ 20) (hW : W.b_.length < 2 ^ 30) :
    ∃ b', F_tbin_writer_value (W, (Ty.list (Ty.base w k)).text, ⟨15, 0, [], List.replicate m (numV k n), []⟩) = some ⟨W.s, b'⟩ ∧ b'.length = W.b_.length + 5 + m * numS k := by
  have hz : decide ((0 : Int) > 0) = false := by decide
  have e1 : ((15 : Int) == (11 : Int)) = false := by decide
  have e2 : F_kind_Wire 15 = some 15 := by decide
  have e3 : F_tbin_width 15 = some 0 := by decide
  have hlen : ((List.replicate m (numV k n)).length : Int) = (m : Int) := by simp
  have hwl : IntKind.u64.wrap (m : Int) = (m : Int) := wrapU64_id (by omega) (by omega)
  obtain ⟨b', q1, q2⟩ := nums_loop h hk n m hm m 0 ⟨W.s, W.b_ ++ be 1 (IntKind.u64.wrap k) ++ be 4 (m : Int)⟩ rfl (by omega) (by simp only [List.length_append, be_len]; omega)
  have z : ((0 : Nat) : Int) = 0 := rfl
  rw [z] at q1
  refine ⟨b', ?_, by rw [q2]; simp only [List.length_append, be_len]⟩
  rw [F_tbin_writer_value_eq]
  simp only [Head_list (list_fine h), Kind_list (list_fine h), e2, e3, hz, e1, Bool.false_eq_true, if_false, Option.bind_eq_bind, Option.bind_some, beq_self_eq_true, if_true]
  rw [F_tbin_writer_value_56_eq]
  simp only [if_true, Ty.text, wire_base h hk, F_tbin_writer_num, Option.bind_eq_bind, Option.bind_some, hlen, hwl]
  rw [F_Put1 _ (by omega)]
  simp only [Option.bind_some]
  rw [F_Put4 _ (by simp only [List.length_append, be_len]; omega)]
  simp only [Option.bind_some]
  exact q1
/-- Which numbers a kind has. -/
def fitB (k n : Int) : Bool :=
  if k = 2 then (n == 0 || n == 1) else if k = 3 then (decide (-128 ≤ n) && decide (n ≤ 127)) else if k = 6 then (decide (-32768 ≤ n) && decide (n ≤ 32767)) else if k = 8 then (decide (-2147483648 ≤ n) && decide (n ≤ 2147483647)) else true
theorem F_Fits {k n : Int} (hk : isNum k) : F_ref13_Fits k n = some (fitB k n) := by
  unfold F_ref13_Fits
  rcases hk with rfl | rfl | rfl | rfl | rfl | rfl
  · cases h : (n == 0) <;> simp [fitB, h]
  · by_cases h1 : -128 ≤ n <;> by_cases h2 : n ≤ 127 <;> simp [fitB, h1, h2]
  · rfl
  · by_cases h1 : -32768 ≤ n <;> by_cases h2 : n ≤ 32767 <;> simp [fitB, h1, h2]
  · by_cases h1 : -2147483648 ≤ n <;> by_cases h2 : n ≤ 2147483647 <;> simp [fitB, h1, h2]
  · rfl
theorem F_fits {k n : Int} (hn : -9223372036854775808 ≤ n ∧ n < 9223372036854775808) (hk : k = 3 ∨ k = 6 ∨ k = 8 ∨ k = 10) : F_value_fits k n = some (fitB k n) := by
  have h8 : IntKind.i8.wrap n = n ↔ -128 ≤ n ∧ n ≤ 127 := by simp [IntKind.wrap, IntKind.bits, IntKind.signed, Int.bmod_def]; omega
  have h16 : IntKind.i16.wrap n = n ↔ -32768 ≤ n ∧ n ≤ 32767 := by simp [IntKind.wrap, IntKind.bits, IntKind.signed, Int.bmod_def]; omega
  have h32 : IntKind.i32.wrap n = n ↔ -2147483648 ≤ n ∧ n ≤ 2147483647 := by simp [IntKind.wrap, IntKind.bits, IntKind.signed, Int.bmod_def]; omega
  have b8 : IntKind.i64.wrap (IntKind.i8.wrap n) = IntKind.i8.wrap n := by simp [IntKind.wrap, IntKind.bits, IntKind.signed, Int.bmod_def]; omega
  have b16 : IntKind.i64.wrap (IntKind.i16.wrap n) = IntKind.i16.wrap n := by simp [IntKind.wrap, IntKind.bits, IntKind.signed, Int.bmod_def]; omega
  have b32 : IntKind.i64.wrap (IntKind.i32.wrap n) = IntKind.i32.wrap n := by simp [IntKind.wrap, IntKind.bits, IntKind.signed, Int.bmod_def]; omega
  unfold F_value_fits
  rcases hk with rfl | rfl | rfl | rfl
  · simp only [beq_self_eq_true, if_true, b8, fitB]
    congr 1
    rw [Bool.eq_iff_iff]; simp; rw [eq_comm, h8]
  · simp only [beq_self_eq_true, if_true, b16, fitB]
    have : ((6 : Int) == 3) = false := by decide
    simp only [this, Bool.false_eq_true, if_false]
    congr 1
    rw [Bool.eq_iff_iff]; simp; rw [eq_comm, h16]
  · simp only [beq_self_eq_true, if_true, b32, fitB]
    have : ((8 : Int) == 3) = false := by decide
    have h6 : ((8 : Int) == 6) = false := by decide
    simp only [this, h6, Bool.false_eq_true, if_false]
    congr 1
    rw [Bool.eq_iff_iff]; simp; rw [eq_comm, h32]
  · rfl
theorem num_check {w : List UInt8} {k : Int} (h : (w, k) ∈ Ty.bases) (hk : isNum k) (s : YSchema) (n : Int) (hn : -9223372036854775808 ≤ n ∧ n < 9223372036854775808) : F_value_Check (s, w, numV k n) = some (fitB k n) := by
  obtain ⟨_, _, hk0, _⟩ := bases_word h
  have hk1 : (k == (0 : Int)) = false := by simpa using hk0
  have hk2 : (k != k) = false := by simp
  rw [F_value_Check_eq]
  simp only [Kind_base h, Head_base (base_fine h), hk1, numV, hk2, Bool.false_eq_true, if_false, Option.bind_eq_bind, Option.bind_some]
  rw [F_value_Check_68_eq]
  rcases hk with rfl | rfl | rfl | rfl | rfl | rfl
  · cases h0 : (n == 0) <;> simp [fitB, h0]
  all_goals (simp only [beq_self_eq_true, if_true, show ((3 : Int) == 2) = false by decide, show ((4 : Int) == 2) = false by decide, show ((4 : Int) == 3) = false by decide, show ((4 : Int) == 6) = false by decide, show ((4 : Int) == 8) = false by decide, show ((6 : Int) == 2) = false by decide, show ((6 : Int) == 3) = false by decide, show ((8 : Int) == 2) = false by decide, show ((8 : Int) == 3) = false by decide, show ((8 : Int) == 6) = false by decide, show ((10 : Int) == 2) = false by decide, show ((10 : Int) == 3) = false by decide, show ((10 : Int) == 6) = false by decide, show ((10 : Int) == 8) = false by decide, Bool.false_eq_true, if_false]; rw [F_value_Check_59_eq])
  · simp only [if_true, F_fits hn (.inl rfl), Option.bind_eq_bind, Option.bind_some]
  · rfl
  · simp only [if_true, F_fits hn (.inr (.inl rfl)), Option.bind_eq_bind, Option.bind_some]
  · simp only [if_true, F_fits hn (.inr (.inr (.inl rfl))), Option.bind_eq_bind, Option.bind_some]
  · simp only [if_true, F_fits hn (.inr (.inr (.inr rfl))), Option.bind_eq_bind, Option.bind_some]
theorem each_loop {w : List UInt8} {k : Int} (h : (w, k) ∈ Ty.bases) (hk : isNum k) (s : YSchema) (n : Int) (hn : -9223372036854775808 ≤ n ∧ n < 9223372036854775808) (hf : fitB k n = true) (m : Nat) (hm : m < 2 ^ 20) : ∀ (j i : Nat), m - i = j → i ≤ m →
    F_value_each_14 (w, List.replicate m (numV k n), 1, (i : Int), s) = some true := by
  intro j
  induction j with
  | zero =>
    intro i hj hi
    have h1 : decide ((i : Int) < ((List.replicate m (numV k n)).length : Int)) = false := by simp; omega
    rw [F_value_each_14_eq]
    simp only [h1, Bool.false_eq_true, if_false]
  | succ j ih =>
    intro i hj hi
    have h1 : decide ((i : Int) < ((List.replicate m (numV k n)).length : Int)) = true := by simp; omega
    have h2 : (List.replicate m (numV k n))[i]? = some (numV k n) := by rw [List.getElem?_replicate, if_pos (by omega)]
    have h3 : iadd .i64 (i : Int) 1 = ((i + 1 : Nat) : Int) := iadd_one (by omega)
    rw [F_value_each_14_eq]
    simp only [h1, if_true, lidx_nat, h2, h3, Option.bind_eq_bind, Option.bind_some, num_check h hk s n hn, hf, Bool.not_true, Bool.false_eq_true, if_false]
    exact ih (i + 1) (by omega) (by omega)
theorem list_check {w : List UInt8} {k : Int} (h : (w, k) ∈ Ty.bases) (hk : isNum k) (s : YSchema) (n : Int) (hn : -9223372036854775808 ≤ n ∧ n < 9223372036854775808) (hf : fitB k n = true) (m : Nat) (hm : m < 2 ^ 20) :
    F_value_Check (s, (Ty.list (Ty.base w k)).text, ⟨15, 0, [], List.replicate m (numV k n), []⟩) = some true := by
  have e0 : ((15 : Int) == (0 : Int)) = false := by decide
  have e1 : ((15 : Int) != (15 : Int)) = false := by decide
  have h1 := each_loop h hk s n hn hf m hm m 0 rfl (by omega)
  have z : ((0 : Nat) : Int) = 0 := rfl
  rw [z] at h1
  rw [F_value_Check_eq]
  simp only [Kind_list (list_fine h), Head_list (list_fine h), e0, e1, Bool.false_eq_true, if_false, Option.bind_eq_bind, Option.bind_some]
  rw [F_value_Check_68_eq]
  simp only [show ((15 : Int) == 2) = false by decide, show ((15 : Int) == 3) = false by decide, show ((15 : Int) == 6) = false by decide, show ((15 : Int) == 8) = false by decide, show ((15 : Int) == 10) = false by decide, Bool.false_eq_true, if_false]
  rw [F_value_Check_59_eq]
  simp only [show ((15 : Int) == 11) = false by decide, Bool.false_eq_true, if_false, beq_self_eq_true, if_true, Option.bind_eq_bind]
  rw [F_value_each_eq]
  simp only [Ty.text, h1, Option.bind_some]
theorem num_depth {k : Int} (hk : isNum k) (n : Int) : F_measure_Depth (numV k n) = some 0 := by
  have h1 : F_measure_holds (numV k n) = some false := by
    unfold F_measure_holds numV
    rcases hk with rfl | rfl | rfl | rfl | rfl | rfl <;> rfl
  rw [F_measure_Depth_eq]
  simp only [h1, Option.bind_eq_bind, Option.bind_some, Bool.not_false, if_true]
theorem depth_loop {k : Int} (hk : isNum k) (n : Int) (m : Nat) (hm : m < 2 ^ 20) : ∀ (j i : Nat), m - i = j → i ≤ m → F_measure_Depth_18 (0, List.replicate m (numV k n), (m : Int), (i : Int)) = some 1 := by
  intro j
  induction j with
  | zero =>
    intro i hj hi
    have h1 : decide ((i : Int) < (m : Int)) = false := by simp; omega
    rw [F_measure_Depth_18_eq]
    simp only [h1, Bool.false_eq_true, if_false]
    rfl
  | succ j ih =>
    intro i hj hi
    have h1 : decide ((i : Int) < (m : Int)) = true := by simp; omega
    have h2 : (List.replicate m (numV k n))[i]? = some (numV k n) := by rw [List.getElem?_replicate, if_pos (by omega)]
    have h3 : iadd .i64 (i : Int) 1 = ((i + 1 : Nat) : Int) := iadd_one (by omega)
    have h4 : imax 0 0 = 0 := rfl
    rw [F_measure_Depth_18_eq]
    simp only [h1, if_true, lidx_nat, h2, h3, Option.bind_eq_bind, Option.bind_some, num_depth hk, h4]
    exact ih (i + 1) (by omega) (by omega)
theorem list_depth {k : Int} (hk : isNum k) (n : Int) (m : Nat) (hm : m < 2 ^ 20) : F_measure_Depth ⟨15, 0, [], List.replicate m (numV k n), []⟩ = some 1 := by
  have h1 : F_measure_holds ⟨15, 0, [], List.replicate m (numV k n), []⟩ = some true := rfl
  have h2 := depth_loop hk n m hm m 0 rfl (by omega)
  have z : ((0 : Nat) : Int) = 0 := rfl
  rw [z] at h2
  have hlen : ((List.replicate m (numV k n)).length : Int) = (m : Int) := by simp
  rw [F_measure_Depth_eq]
  simp only [h1, Option.bind_eq_bind, Option.bind_some, Bool.not_true, Bool.false_eq_true, if_false, hlen, h2]
end Go.Proofs.YtfihinodhhhllaaGreat
