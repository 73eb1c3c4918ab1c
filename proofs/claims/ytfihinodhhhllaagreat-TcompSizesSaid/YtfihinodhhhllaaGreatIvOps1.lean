/- The machine's operations that give a value and leave the memory alone. -/
import Derived.Test.YtfihinodhhhllaaGreatIvCk
import Derived.Laws.Sem
import Derived.Laws.Cells
set_option linter.unusedVariables false
set_option linter.unusedSimpArgs false
namespace Go.Proofs.YtfihinodhhhllaaGreat
open Go

mutual
theorem ckC_rep {w : World} {β : Bt} {Z : Ct} : ∀ (x : AV) (v : Value), ckC x v = true → Rep w β Z v x ∧ ∀ k o, mu x v k o = 0
  | .bool b, v, h => by
    cases v <;> simp [ckC] at h
    subst h; exact ⟨.bool _, fun _ _ => by simp [mu]⟩
  | .int k n, v, h => by
    cases v <;> simp [ckC] at h
    obtain ⟨rfl, rfl⟩ := h; exact ⟨.int _ _, fun _ _ => by simp [mu]⟩
  | .str l, v, h => by
    cases v <;> simp [ckC] at h
    rename_i s
    obtain ⟨⟨s⟩⟩ := s
    subst h
    exact ⟨.str _, fun _ _ => by simp [mu]⟩
  | .nilp, v, h => by
    cases v with
    | pointer a => cases a with
      | none => exact ⟨.nilp, fun _ _ => by simp [mu]⟩
      | some _ => simp [ckC] at h
    | _ => simp [ckC] at h
  | .nilm, v, h => by
    cases v with
    | map a => cases a with
      | none => exact ⟨.nilm, fun _ _ => by simp [mu]⟩
      | some _ => simp [ckC] at h
    | _ => simp [ckC] at h
  | .sl own sz els, v, h => by
    cases own with
    | false => cases v <;> simp [ckC] at h
    | true => cases els with
      | cons _ _ => cases v <;> simp [ckC] at h
      | nil => cases v with
        | slice a n c => cases a with
          | some _ => simp [ckC] at h
          | none =>
            simp [ckC] at h
            obtain ⟨rfl, rfl⟩ := h
            exact ⟨.slz _ _ _ _ (fun _ => rfl), fun _ _ => by simp [mu]⟩
        | _ => simp [ckC] at h
  | .agg cs, v, h => by
    cases v <;> simp [ckC] at h
    rename_i xs
    obtain ⟨h1, h2, h3, h4⟩ := ckCL_rep (w := w) (β := β) (Z := Z) cs xs.toList h
    exact ⟨.agg (by simpa using h1) h2 (fun i h1 h2 => by have := h3 i (by simpa using h1) h2; rwa [Array.getElem_toList] at this), fun k o => by simp [mu, h4]⟩
  | .any, v, h | .undef, v, h | .tup _, v, h | .ptr _ _, v, h | .ep _ _, v, h | .fn _ _, v, h | .mp _, v, h | .ms _ _ _ _ _, v, h => by cases v <;> simp [ckC] at h
theorem ckCL_rep {w : World} {β : Bt} {Z : Ct} : ∀ (cs : List AV) (xs : List Value), ckCL cs xs = true → xs.length = cs.length ∧ (∀ c ∈ cs, c.cellOk = true) ∧ (∀ i (h1 : i < xs.length) (h2 : i < cs.length), Rep w β Z xs[i] cs[i]) ∧ ∀ k o, muL cs xs k o = 0
  | [], [], _ => ⟨rfl, by simp, by simp, fun _ _ => by simp [muL]⟩
  | [], _ :: _, h => by simp [ckCL] at h
  | _ :: _, [], h => by simp [ckCL] at h
  | c :: cs, x :: xs, h => by
    simp [ckCL] at h
    obtain ⟨⟨h0, h1⟩, h2⟩ := h
    obtain ⟨r1, r2⟩ := ckC_rep (w := w) (β := β) (Z := Z) c x h1
    obtain ⟨q1, q2, q3, q4⟩ := ckCL_rep (w := w) (β := β) (Z := Z) cs xs h2
    refine ⟨by simp [q1], by simp only [List.mem_cons, forall_eq_or_imp]; exact ⟨h0, q2⟩, fun i h1 h2 => ?_, fun k o => by simp [muL, r2, q4]⟩
    cases i with
    | zero => exact r1
    | succ i => exact q3 i (by simpa using h1) (by simpa using h2)
end

section
variable {w : World} {β : Bt} {Z : Ct} {e : Env} {a : Act}

theorem ckOd_rep (henv : ∀ t, Rep w β Z (a.tmps.getD t Go.undef) (e.get t)) {x : Od} {y : Operand} (h : ckOd x y = true) : Rep w β Z (a.eval y) (x.ev e) := by
  cases x with
  | c v =>
    cases y with
    | const u =>
      have h' : ckC v u = true := by
        cases v <;> simp_all [ckOd]
      exact (ckC_rep v u h').1
    | func g =>
      cases v with
      | fn f caps =>
        cases caps with
        | nil =>
          simp [ckOd] at h
          subst h
          exact .fn f (by simp) (by simp)
        | cons _ _ => simp [ckOd] at h
      | _ => simp [ckOd] at h
    | _ => simp [ckOd] at h
  | cp t =>
    cases y <;> simp [ckOd] at h
    subst h
    exact (henv t).erase
  | mv t =>
    cases y <;> simp [ckOd] at h
    subst h
    exact henv t

theorem ckOd_mu {x : Od} {y : Operand} (h : ckOd x y = true) (k o : Nat) : mu (x.ev e) (a.eval y) k o ≤ movedL [x] e a.tmps k o := by
  cases x with
  | c v =>
    cases y with
    | const u =>
      have h' : ckC v u = true := by
        cases v <;> simp_all [ckOd]
      have := (ckC_rep (w := default) (β := fun _ => none) (Z := fun _ _ => 0) v u h').2 k o
      simp only [Od.ev, Act.eval, this]
      omega
    | func g =>
      cases v with
      | fn f caps => simp [Od.ev, mu]
      | _ => simp [ckOd] at h
    | _ => simp [ckOd] at h
  | cp t => simp [Od.ev, mu_erase]
  | mv t =>
    cases y <;> simp [ckOd] at h
    subst h
    simp [Od.ev, Act.eval, movedL]

theorem movedL_append (l m : List Od) (e : Env) (ts : Array Value) (k o : Nat) : movedL (l ++ m) e ts k o = movedL l e ts k o + movedL m e ts k o := by
  induction l with
  | nil => simp [movedL]
  | cons x l ih => cases x <;> simp only [List.cons_append, movedL, ih] <;> omega
theorem movedL_cons (x : Od) (m : List Od) (e : Env) (ts : Array Value) (k o : Nat) : movedL (x :: m) e ts k o = movedL [x] e ts k o + movedL m e ts k o := movedL_append [x] m e ts k o
end

section
variable {P : Program} {w : World}
theorem run_underlying {t : TypeId} {d : TypeDesc} (h : P.underlying t = some d) : (underlying t).run P w = .ok d w := by simp [underlying, h]
theorem run_typeInfo {t : TypeId} {i : TypeInfo} (h : P.info? t = some i) : (typeInfo t).run P w = .ok i w := by simp [typeInfo, h]
theorem run_sizeOf {t : TypeId} (h : (P.info? t).isSome = true) : (sizeOf t).run P w = .ok (P.cellsOf t) w := by
  obtain ⟨i, hi⟩ := Option.isSome_iff_exists.1 h
  simp [sizeOf, run_typeInfo hi, Program.cellsOf, hi]
theorem run_zeroValue {t : TypeId} {z : Value} (h : zeroOf P t = some z) : (zeroValue t).run P w = .ok z w := by
  unfold zeroOf at h
  cases hi : P.info? t with
  | none => simp [hi] at h
  | some i =>
    simp [hi] at h
    simp [zeroValue, run_typeInfo hi, h]
theorem info_of_underlying {t : TypeId} {d : TypeDesc} (h : P.underlying t = some d) : (P.info? t).isSome = true := by
  unfold Program.underlying at h
  cases hi : P.info? t <;> simp [hi] at h ⊢
theorem run_isAgg {t : TypeId} {n : Option Nat} (h : shapeN P t = some n) : (isAgg t).run P w = .ok n.isSome w ∧ (∀ m, n = some m → P.cellsOf t = m) ∧ (P.info? t).isSome = true := by
  unfold shapeN at h
  cases hu : P.underlying t with
  | none => simp [hu] at h
  | some d =>
    refine ⟨?_, ?_, info_of_underlying hu⟩
    · cases d <;> simp [hu] at h <;> subst h <;> simp [isAgg, run_underlying hu]
    · cases d <;> simp [hu] at h <;> subst h <;> simp
theorem addr_add (blk o n : Nat) : (⟨blk, o, none⟩ : Addr).add n = ⟨blk, o + n, none⟩ := by unfold Addr.add; split <;> simp_all
/-- Cells that lie side by side, read as a variable. -/
theorem run_loadVar {t : TypeId} {n : Option Nat} (h : shapeN P t = some n) (blk o : Nat) (f : Nat → Value) (hc : ∀ k, k < n.getD 1 → w.cell? ⟨blk, o + k, none⟩ = some (f k)) :
    (loadVar t ⟨blk, o, none⟩).run P w = .ok (match n with | none => f 0 | some m => .agg ((List.range m).map f).toArray) w := by
  obtain ⟨h1, h2, h3⟩ := run_isAgg (w := w) h
  cases n with
  | none =>
    have h0 := hc 0 (by simp)
    simp only [Nat.add_zero] at h0
    simp [loadVar, h1, h0]
  | some m =>
    have hm := h2 m rfl
    have hl := run_loadCells (P := P) w ⟨blk, o, none⟩ m f (fun j hj => by rw [addr_add]; exact hc j (by simpa using hj))
    simp [loadVar, h1, run_sizeOf h3, hm, hl]
end

/-! ### numbers, texts, bools -/
section
variable {P : Program} {w : World} {β : Bt} {Z : Ct}

theorem bytes_toList (s : Array UInt8) : (⟨s⟩ : ByteArray).toList = s.toList := by
  have h : ∀ (n i : Nat) (r : List UInt8), s.size - i = n → i ≤ s.size → ByteArray.toList.loop ⟨s⟩ i r = r.reverse ++ s.toList.drop i := by
    intro n
    induction n with
    | zero =>
      intro i r hn hi
      rw [ByteArray.toList.loop]
      have : ¬ i < (⟨s⟩ : ByteArray).size := by show ¬ i < s.size; omega
      rw [if_neg this, List.drop_of_length_le (by simp; omega)]
      simp
    | succ n ih =>
      intro i r hn hi
      have hlt : i < s.size := by omega
      rw [ByteArray.toList.loop]
      have : i < (⟨s⟩ : ByteArray).size := hlt
      rw [if_pos this, ih (i + 1) _ (by omega) (by omega)]
      have hd : s.toList.drop i = s[i] :: s.toList.drop (i + 1) := by
        rw [List.drop_eq_getElem_cons (by simpa using hlt)]
        simp
      rw [hd]
      have hg : (⟨s⟩ : ByteArray).get! i = s[i] := by
        simp [ByteArray.get!, hlt]
      rw [hg]
      simp
  unfold ByteArray.toList
  rw [h s.size 0 [] (by omega) (by omega)]
  simp

theorem eqGuard_ok (op : BinOp) (t : TypeId) (ox oy : Operand) {x y : Value} (hx : ¬ (∃ c, x = .agg c)) (hn : x ≠ .nilIface) : (eqGuard op t ox oy x y).run P w = .ok () w := by
  unfold eqGuard
  cases op <;> simp
  all_goals
    cases x <;> first
      | (simp; done)
      | (exact absurd ⟨_, rfl⟩ hx)
      | (exact absurd rfl hn)

theorem sound_binI {op : BinOp} {k : IntKind} {a b : Int} {z : AV} (t : TypeId) (hs : isShift op = false) (h : binI op k a b = some z) :
    ∃ v, (binOp op t (.int k a) (.int k b)).run P w = .ok v w ∧ Rep w β Z v z ∧ ∀ i o, mu z v i o = 0 := by
  cases op <;> simp [isShift] at hs <;> simp only [binI] at h
  case quo =>
    split at h
    · simp at h
    · simp at h; subst h
      rename_i hb
      exact ⟨_, by simp [binOp, Op.intDiv, hb], .int _ _, fun _ _ => by simp [mu]⟩
  case rem =>
    split at h
    · simp at h
    · simp at h; subst h
      rename_i hb
      exact ⟨_, by simp [binOp, Op.intDiv, hb], .int _ _, fun _ _ => by simp [mu]⟩
  all_goals (injection h with h; subst h)
  case add => exact ⟨_, by simp [binOp, Op.intArith], .int _ _, fun _ _ => by simp [mu]⟩
  case sub => exact ⟨_, by simp [binOp, Op.intArith], .int _ _, fun _ _ => by simp [mu]⟩
  case mul => exact ⟨_, by simp [binOp, Op.intArith], .int _ _, fun _ _ => by simp [mu]⟩
  case and => exact ⟨_, by simp [binOp, Op.intBits], .int _ _, fun _ _ => by simp [mu]⟩
  case or => exact ⟨_, by simp [binOp, Op.intBits], .int _ _, fun _ _ => by simp [mu]⟩
  case xor => exact ⟨_, by simp [binOp, Op.intBits], .int _ _, fun _ _ => by simp [mu]⟩
  case andNot => exact ⟨_, by simp [binOp, Op.intBits], .int _ _, fun _ _ => by simp [mu]⟩
  case eql => exact ⟨_, by simp [binOp, Op.intCmp], .bool _, fun _ _ => by simp [mu]⟩
  case neq => exact ⟨_, by simp [binOp, Op.intCmp], .bool _, fun _ _ => by simp [mu]⟩
  case lss => exact ⟨_, by simp [binOp, Op.intCmp], .bool _, fun _ _ => by simp [mu]⟩
  case leq => exact ⟨_, by simp [binOp, Op.intCmp], .bool _, fun _ _ => by simp [mu]⟩
  case gtr => exact ⟨_, by simp [binOp, Op.intCmp], .bool _, fun _ _ => by simp [mu]⟩
  case geq => exact ⟨_, by simp [binOp, Op.intCmp], .bool _, fun _ _ => by simp [mu]⟩

theorem sound_shift {op : BinOp} {k k' : IntKind} {a b : Int} {z : AV} (t : TypeId) (hs : isShift op = true) (h : shiftI op k a b = some z) :
    ∃ v, (binOp op t (.int k a) (.int k' b)).run P w = .ok v w ∧ Rep w β Z v z ∧ ∀ i o, mu z v i o = 0 := by
  cases op <;> simp [isShift] at hs
  all_goals
    simp only [shiftI] at h
    split at h
    · simp at h
    · rename_i hb
      injection h with h; subst h
      exact ⟨_, by simp [binOp, Op.shift, hb], .int _ _, fun _ _ => by simp [mu]⟩

theorem sound_binS {op : BinOp} {a b : List UInt8} {z : AV} (t : TypeId) (h : binS op a b = some z) :
    ∃ v, (binOp op t (.string ⟨a.toArray⟩) (.string ⟨b.toArray⟩)).run P w = .ok v w ∧ Rep w β Z v z ∧ ∀ i o, mu z v i o = 0 := by
  have ea := bytes_toList a.toArray
  have eb := bytes_toList b.toArray
  simp only at ea eb
  cases op <;> simp only [binS] at h
  case add =>
    split at h
    · injection h with h; subst h
      rename_i hl
      refine ⟨.string ⟨(a ++ b).toArray⟩, ?_, .str _, fun _ _ => by simp [mu]⟩
      have h1 : ¬ (((⟨a.toArray⟩ : ByteArray).size + (⟨b.toArray⟩ : ByteArray).size : Nat) : Int) > IntKind.i64.max := by
        have e1 : (⟨a.toArray⟩ : ByteArray).size = a.length := rfl
        have e2 : (⟨b.toArray⟩ : ByteArray).size = b.length := rfl
        rw [e1, e2]
        simp only [strMax] at hl
        simp [IntKind.max, IntKind.signed, IntKind.bits]
        omega
      have h2 : (⟨a.toArray⟩ : ByteArray) ++ (⟨b.toArray⟩ : ByteArray) = ⟨(a ++ b).toArray⟩ := by
        apply ByteArray.ext
        rw [ByteArray.data_append]
        simp
      simp [binOp, Op.stringOp]
      rw [if_neg (by simpa using h1)]
      simp [h2]
    · simp at h
  all_goals (first | (simp at h; done) | (injection h with h; subst h))
  all_goals
    refine ⟨_, ?_, .bool _, fun _ _ => by simp [mu]⟩
    simp [binOp, Op.stringOp, ea, eb]

theorem sound_bin {op : BinOp} {x y z : AV} {vx vy : Value} (t : TypeId) (ox oy : Operand) (h : binA op x y = some z) (hx : Rep w β Z vx x) (hy : Rep w β Z vy y) :
    ∃ v, (do eqGuard op t ox oy vx vy; binOp op t vx vy : Sem Value).run P w = .ok v w ∧ Rep w β Z v z ∧ ∀ i o, mu z v i o = 0 := by
  unfold binA at h
  split at h
  · cases hx; cases hy
    rename_i k a k' b
    split at h
    · rename_i hs
      obtain ⟨v, h1, h2⟩ := sound_shift (P := P) (w := w) (β := β) (Z := Z) (k' := k') t hs h
      exact ⟨v, by simp [eqGuard_ok, h1], h2⟩
    · rename_i hs
      split at h
      · rename_i hk
        subst hk
        obtain ⟨v, h1, h2⟩ := sound_binI (P := P) (w := w) (β := β) (Z := Z) t (by simpa using hs) h
        exact ⟨v, by simp [eqGuard_ok, h1], h2⟩
      · simp at h
  · cases hx; cases hy
    obtain ⟨v, h1, h2⟩ := sound_binS (P := P) (w := w) (β := β) (Z := Z) t h
    exact ⟨v, by simp [eqGuard_ok, h1], h2⟩
  · simp at h

theorem equal_bool {t : TypeId} (hu : P.underlying t = some .bool) (a b : Bool) : (Op.equal t (.bool a) (.bool b)).run P w = .ok (a == b) w := by
  unfold Op.equal
  rw [show Op.maxDepth = 9999 + 1 from rfl, Op.equalIn]
  simp [run_underlying hu]
theorem binOp_eql_bool {t : TypeId} (hu : P.underlying t = some .bool) (a b : Bool) : (binOp .eql t (.bool a) (.bool b)).run P w = .ok (.bool (a == b)) w := by
  have : binOp .eql t (.bool a) (.bool b) = (do pure (.bool (← Op.equal t (.bool a) (.bool b)))) := rfl
  rw [this]
  simp [equal_bool hu]
theorem binOp_neq_bool {t : TypeId} (hu : P.underlying t = some .bool) (a b : Bool) : (binOp .neq t (.bool a) (.bool b)).run P w = .ok (.bool (!(a == b))) w := by
  have : binOp .neq t (.bool a) (.bool b) = (do pure (.bool (!(← Op.equal t (.bool a) (.bool b))))) := rfl
  rw [this]
  simp [equal_bool hu]
theorem binOp_nil {t e : TypeId} (hu : P.underlying t = some (.slice e)) (neg : Bool) (a : Addr) (n c : Nat) : (binOp (if neg then .neq else .eql) t (.slice (some a) n c) (.slice none 0 0)).run P w = .ok (.bool neg) w := by
  have h : (Op.equal t (.slice (some a) n c) (.slice none 0 0)).run P w = .ok false w := by
    unfold Op.equal
    rw [show Op.maxDepth = 9999 + 1 from rfl, Op.equalIn]
    simp [run_underlying hu]
  cases neg
  · have : binOp .eql t (.slice (some a) n c) (.slice none 0 0) = (do pure (.bool (← Op.equal t (.slice (some a) n c) (.slice none 0 0)))) := rfl
    simp only [Bool.false_eq_true, if_false]
    rw [this]
    simp [h]
  · have : binOp .neq t (.slice (some a) n c) (.slice none 0 0) = (do pure (.bool (!(← Op.equal t (.slice (some a) n c) (.slice none 0 0))))) := rfl
    simp only [if_true]
    rw [this]
    simp [h]
theorem sound_nilB {neg : Bool} {x z : AV} {vx : Value} {t : TypeId} (ox oy : Operand) (ht : (elemOf? P t).isSome = true) (h : nilA neg x = some z) (hx : Rep w β Z vx x) :
    ∃ v, (do eqGuard (if neg then .neq else .eql) t ox oy vx (.slice none 0 0); binOp (if neg then .neq else .eql) t vx (.slice none 0 0) : Sem Value).run P w = .ok v w ∧ Rep w β Z v z ∧ ∀ i o, mu z v i o = 0 := by
  unfold nilA at h
  split at h
  · injection h with h; subst h
    obtain ⟨e, he⟩ := Option.isSome_iff_exists.1 ht
    have hu : P.underlying t = some (.slice e) := by
      unfold elemOf? at he
      split at he
      · rename_i e' hh; injection he with he; subst he; exact hh
      · simp at he
    cases hx with
    | sl f q1 q2 =>
      refine ⟨_, ?_, .bool _, fun _ _ => by simp [mu]⟩
      have h1 := fun a n c => binOp_nil (w := w) hu neg a n c
      cases neg
      · simp [eqGuard_ok]; simpa using h1 _ _ _
      · simp [eqGuard_ok]; simpa using h1 _ _ _
  · simp at h
theorem sound_eqB {neg : Bool} {x y z : AV} {vx vy : Value} {t : TypeId} (ox oy : Operand) (ht : isBool P t = true) (h : eqA neg x y = some z) (hx : Rep w β Z vx x) (hy : Rep w β Z vy y) :
    ∃ v, (do eqGuard (if neg then .neq else .eql) t ox oy vx vy; binOp (if neg then .neq else .eql) t vx vy : Sem Value).run P w = .ok v w ∧ Rep w β Z v z ∧ ∀ i o, mu z v i o = 0 := by
  unfold eqA at h
  split at h
  · cases hx; cases hy
    injection h with h; subst h
    have hu : P.underlying t = some .bool := by
      unfold isBool at ht
      split at ht
      · assumption
      · simp at ht
    refine ⟨_, ?_, .bool _, fun _ _ => by simp [mu]⟩
    cases neg <;> simp [eqGuard_ok, binOp_eql_bool hu, binOp_neq_bool hu]
  · simp at h

theorem sound_un {op : UnOp} {x z : AV} {vx : Value} (h : unA op x = some z) (hx : Rep w β Z vx x) :
    ∃ v, (Op.unary op vx).run P w = .ok v w ∧ Rep w β Z v z ∧ ∀ i o, mu z v i o = 0 := by
  unfold unA at h
  split at h
  · cases hx
    split at h
    · injection h with h; subst h
      exact ⟨_, by simp [Op.unary, Op.intArith], .int _ _, fun _ _ => by simp [mu]⟩
    · simp at h
  · cases hx
    split at h
    · injection h with h; subst h
      exact ⟨_, by simp [Op.unary], .bool _, fun _ _ => by simp [mu]⟩
    · simp at h
  · simp at h

end
end Go.Proofs.YtfihinodhhhllaaGreat
