/- Functions that are told by a law of their own: those that the model itself runs in place. -/
import Derived.Test.YtfihinodhhhllaaGreatIvSpec
import Derived.Laws.Externs
import Derived.Lib.Bytealg
import Derived.Lib.Strings
set_option linter.unusedVariables false
set_option linter.unusedSimpArgs false
namespace Go.Proofs.YtfihinodhhhllaaGreat
open Go
def SpecOK (P : Program) (f : Nat) (g : List AV → Heap → Option (AV × Heap)) : Prop := ∀ args h r h', g args h = some (r, h') → h.length ≤ h'.length → ∀ B0 X β Z w vals, RepL w β Z vals args → Inv B0 X β Z h w (muL args vals) →
    Gets P f vals w fun v w' => ∃ β' Z', Post B0 X β Z h w β' Z' h' w' r v ∧ Keep h h' β β'
def EntryOK (P : Program) (x : Nat × LFn) : Prop :=
  match x.2 with
  | .code F => ∃ fn, P.funcs[x.1]? = some fn ∧ ckF P F fn = true
  | .spec g => SpecOK P x.1 g
theorem lookup_entry {P : Program} {f : Nat} {e : LFn} : ∀ {T : Tab}, (∀ x ∈ T, EntryOK P x) → T.lookup f = some e → EntryOK P (f, e)
  | [], _, h => by simp at h
  | (a, b) :: T, hall, h => by
    rw [List.lookup_cons] at h
    by_cases hc : f == a
    · simp only [hc] at h
      injection h with h
      subst h
      have : f = a := by simpa using hc
      subst this
      exact hall _ (by simp)
    · simp only [Bool.not_eq_true] at hc
      simp only [hc] at h
      exact lookup_entry (fun x hx => hall x (List.mem_cons_of_mem _ hx)) h
theorem tab_of {P : Program} {T : Tab} (hm : P.follows .mixedOrders = true) (hall : ∀ x ∈ T, EntryOK P x) : TabOK P T where
  mix := hm
  code := fun f F h => lookup_entry hall h
  spec := fun f g h => lookup_entry hall h
theorem spec_extern {P : Program} {f : Nat} {fn : Func} {e : Array Value → Sem Value} {g : List AV → Heap → Option (AV × Heap)} (hf : P.funcs[f]? = some fn) (hname : (fn.name == "runtime.NumGoroutine") = false)
    (hb : fn.body.isNone = true) (hn : Extern.findNext fn = none) (he : Extern.find fn = some e)
    (H : ∀ args h r h', g args h = some (r, h') → h' = h ∧ ∀ w β Z vals, RepL w β Z vals args → ∃ v, (e vals.toArray).run P w = .ok v w ∧ Rep w β Z v r ∧ ∀ k o, mu r v k o = 0) : SpecOK P f g := by
  intro args h r h' hg hl B0 X β Z w vals hr hi
  obtain ⟨rfl, H2⟩ := H args h r h' hg
  obtain ⟨v, h1, h2, h3⟩ := H2 w β Z vals hr
  refine .inr ⟨v, w, ?_, β, Z, ⟨h2, hi.weaken (fun k o => by rw [h3]; omega), Ext.refl .., Nat.le_refl _⟩, Keep.refl _ _⟩
  rw [run_callFunc_extern hf hname hb hn he, h1]
  rfl
theorem RepL.two {w : World} {β : Bt} {Z : Ct} {vals : List Value} {a b : AV} (h : RepL w β Z vals [a, b]) : ∃ x y, vals = [x, y] ∧ Rep w β Z x a ∧ Rep w β Z y b := by
  obtain ⟨hl, hr⟩ := h
  match vals, hl with
  | [x, y], _ => exact ⟨x, y, rfl, hr 0 (by simp) (by simp), hr 1 (by simp) (by simp)⟩
theorem RepL.one {w : World} {β : Bt} {Z : Ct} {vals : List Value} {a : AV} (h : RepL w β Z vals [a]) : ∃ x, vals = [x] ∧ Rep w β Z x a := by
  obtain ⟨hl, hr⟩ := h
  match vals, hl with
  | [x], _ => exact ⟨x, rfl, hr 0 (by simp) (by simp)⟩
theorem ixFrom_add (c : UInt8) (l : List UInt8) : ∀ i : Int, ixFrom c l i = if Lib.indexByte l c = -1 then -1 else Lib.indexByte l c + i := by
  induction l with
  | nil => intro i; simp [ixFrom, Lib.indexByte]
  | cons b l ih =>
    intro i
    unfold ixFrom Lib.indexByte
    have hge := Lib.indexByte_ge l c
    by_cases hb : (b == c) = true
    · simp [hb]
    · simp only [Bool.not_eq_true] at hb
      simp only [hb, Bool.false_eq_true, if_false, ih]
      by_cases h1 : Lib.indexByte l c = -1
      · simp [h1]
      · have h2 : (Lib.indexByte l c == -1) = false := by simpa using h1
        simp only [h1, h2, Bool.false_eq_true, if_false]
        rw [if_neg (by omega)]
        omega
theorem ixFrom_zero (c : UInt8) (l : List UInt8) : ixFrom c l 0 = Lib.indexByte l c := by
  rw [ixFrom_add]
  split
  · rename_i h; rw [h]
  · omega
theorem spec_index {P : Program} {f : Nat} {fn : Func} (hf : P.funcs[f]? = some fn) (hname : (fn.name == "runtime.NumGoroutine") = false)
    (hb : fn.body.isNone = true) (hn : Extern.findNext fn = none) (he : Extern.find fn = some Extern.BytealgIndexByte.indexByte) : SpecOK P f indexA := by
  refine spec_extern hf hname hb hn he ?_
  intro args h r h' hg
  unfold indexA at hg
  split at hg
  · rename_i l c
    injection hg with hg
    injection hg with h1 h2
    refine ⟨h2.symm, fun w β Z vals hr => ?_⟩
    obtain ⟨x, y, rfl, hx, hy⟩ := hr.two
    cases hx
    cases hy
    refine ⟨_, Lib.run_indexByteString _ _ _, ?_, fun k o => by rw [← h1]; rfl⟩
    rw [← h1, ixFrom_zero]
    exact .int _ _
  · cases hg
theorem cmp_bytes : ∀ a b : List UInt8, (if a == b then 0 else if Op.bytesLess a b then -1 else (1 : Int)) = Lib.compareBytes a b
  | [], [] => rfl
  | [], _ :: _ => rfl
  | _ :: _, [] => rfl
  | x :: a, y :: b => by
    have ih := cmp_bytes a b
    unfold Lib.compareBytes Op.bytesLess
    by_cases hxy : x = y
    · subst hxy
      have hlt : ¬ x < x := UInt8.lt_irrefl x
      simp only [hlt, if_false, decide_false, Bool.false_or, beq_self_eq_true, Bool.true_and, List.cons_beq_cons, ← ih]
    · have h1 : (x :: a == y :: b) = false := by simp [hxy]
      have h2 : (x == y) = false := by simpa using hxy
      simp only [h1, h2, Bool.false_and, Bool.or_false, Bool.false_eq_true, if_false]
      by_cases h3 : x < y
      · simp [h3]
      · have h4 : y < x := by
          rcases UInt8.lt_or_eq_of_le (UInt8.not_lt.1 h3) with h | h
          · exact h
          · exact absurd h.symm hxy
        simp [h3, h4]
theorem spec_compare {P : Program} {f : Nat} {fn : Func} (hf : P.funcs[f]? = some fn) (hname : (fn.name == "runtime.NumGoroutine") = false)
    (hb : fn.body.isNone = true) (hn : Extern.findNext fn = none) (he : Extern.find fn = some Extern.BytealgCompare.compare) : SpecOK P f compareA := by
  refine spec_extern hf hname hb hn he ?_
  intro args h r h' hg
  unfold compareA at hg
  split at hg
  · rename_i a b
    injection hg with hg
    injection hg with h1 h2
    refine ⟨h2.symm, fun w β Z vals hr => ?_⟩
    obtain ⟨x, y, rfl, hx, hy⟩ := hr.two
    cases hx
    cases hy
    refine ⟨_, Lib.run_compareString _ _ _, ?_, fun k o => by rw [← h1]; rfl⟩
    rw [← h1]
    rw [cmp_bytes]
    exact .int _ _
  · cases hg
/-- An empty row's copy. -/
theorem spec_cloneE {P : Program} {f : Nat} {fn : Func} {c : Code} {e : TypeId} (hf : P.funcs[f]? = some fn) (hb : fn.body = some c) (hname : fn.name ≠ "runtime.NumGoroutine")
    (h1 : ∀ (k : Nat) (w : World), Calls P f #[.slice none 0 k] w fun e w' => e = .returned (.slice none 0 0) ∧ w' = w)
    (h2 : ∀ (a : Addr) (k : Nat) (w : World), Calls P f #[.slice (some a) 0 k] w fun r w' => r = .returned (.slice (some { block := w.heap.size, off := 0 }) 0 0) ∧ w' = w.alloc (Obj.cells #[] e)) {sz : Nat} (hsz : 0 < sz) : SpecOK P f (cloneE sz) := by
  intro args h r h' hg hl B0 X β Z w vals hr hi
  unfold cloneE at hg
  split at hg
  · rename_i o z
    split at hg
    · rename_i hz
      subst hz
      injection hg with hg
      injection hg with g1 g2
      subst g1; subst g2
      obtain ⟨x, rfl, hx⟩ := hr.one
      have hi0 : Inv B0 X β Z h w (fun _ _ => 0) := hi.weaken fun _ _ => Nat.zero_le _
      cases hx with
      | slz base cap own _ ho =>
        cases base with
        | none =>
          refine Gets.code hf hb hname ((h1 cap w).mono fun e w' he => ?_)
          obtain ⟨rfl, rfl⟩ := he
          exact ⟨β, Z, ⟨.slz none 0 true _ (fun _ => rfl), hi0.weaken (fun k o => by simp [mu]), Ext.refl .., Nat.le_refl _⟩, Keep.refl _ _⟩
        | some a =>
          refine Gets.code hf hb hname ((h2 a cap w).mono fun e w' he => ?_)
          obtain ⟨rfl, rfl⟩ := he
          exact ⟨β, _, Post.newRow (w' := w.alloc (Obj.cells #[] e)) (els := []) (sz := z) (cap := 0) (own := true) hi (c := #[]) (t := e) rfl rfl rfl rfl hsz (by simp) (by simp [flat]) (by simp) (by simp) (fun _ => .int .i64 0) (by simp [flat]) (fun k hk => by simp [flat] at hk) (fun _ _ => rfl), Keep.refl _ _⟩
      | sl f hs hne => exact absurd rfl hne
    · cases hg
  · cases hg
end Go.Proofs.YtfihinodhhhllaaGreat
