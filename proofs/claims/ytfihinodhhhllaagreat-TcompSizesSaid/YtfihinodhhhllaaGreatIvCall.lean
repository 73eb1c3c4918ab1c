/- Calls: what is hidden from them stays as it was. -/
import Derived.Test.YtfihinodhhhllaaGreatIvOpAll
set_option linter.unusedVariables false
set_option linter.unusedSimpArgs false
namespace Go.Proofs.YtfihinodhhhllaaGreat
open Go

/-- A call of the machine's: it is entered and returns, or it is one of the model's own. -/
def Gets (P : Program) (f : FuncId) (vals : List Value) (w : World) (R : Value → World → Prop) : Prop :=
  ((callFunc f vals.toArray).run P w = .ok (.enter f vals.toArray) w ∧ Calls P f vals.toArray w fun e w' => match e with | .returned v => R v w' | _ => False) ∨
  (∃ v w', (callFunc f vals.toArray).run P w = .ok (.value v) w' ∧ R v w')

theorem Gets.mono {P : Program} {f : FuncId} {vals : List Value} {w : World} {R R' : Value → World → Prop} (h : Gets P f vals w R) (hr : ∀ v w', R v w' → R' v w') : Gets P f vals w R' := by
  rcases h with ⟨h1, h2⟩ | ⟨v, w', h1, h2⟩
  · refine .inl ⟨h1, h2.mono fun e w' he => ?_⟩
    cases e with
    | returned v => exact hr _ _ he
    | panicked _ => exact he
    | outgrown => exact he
  · exact .inr ⟨v, w', h1, hr _ _ h2⟩

/-- A callee's word: whatever the small code's call gives, the machine's call gives. -/
def CallOK (P : Program) (K : Callee) : Prop :=
  ∀ f args h r h', K f args h = some (r, h') → ∀ B0 X β Z w vals, RepL w β Z vals args → Inv B0 X β Z h w (muL args vals) →
    Gets P f vals w fun v w' => ∃ β' Z', Post B0 X β Z h w β' Z' h' w' r v ∧ Keep h h' β β'

section
variable {P : Program} {w w' : World} {β β' : Bt} {Z Z' : Ct} {h : Heap} {B0 : Nat} {X : Ct}

/-- What the hidden boxes hold. -/
def muHid (β : Bt) (h : Heap) (w : World) (n : Nat) : Ct := fun k o => sumN h.length fun b => if n ≤ b then muB β w b (h.getD b .hid) k o else 0

def hidden (h : Heap) (n : Nat) : Heap := h.take n ++ List.replicate (h.length - n) .hid
theorem hidden_length (h : Heap) (n : Nat) : (hidden h n).length = h.length := by simp [hidden]; omega
theorem hidden_getD (h : Heap) (n b : Nat) : (hidden h n).getD b .hid = if b < n then h.getD b .hid else .hid := by
  unfold hidden
  simp only [List.getD_eq_getElem?_getD]
  by_cases hb : b < n
  · rw [if_pos hb]
    by_cases hl : b < h.length
    · rw [List.getElem?_append_left (by simp; omega), List.getElem?_take_of_lt hb]
    · rw [List.getElem?_append_right (by simp; omega), List.getElem?_eq_none (by simp; omega), List.getElem?_eq_none (by omega)]
  · rw [if_neg hb]
    by_cases hl : b < h.length
    · rw [List.getElem?_append_right (by simp; omega)]
      simp only [List.length_take]
      rw [List.getElem?_replicate, if_pos (by omega)]
      rfl
    · rw [List.getElem?_eq_none (by simp; omega)]
      rfl
theorem hidden_row {n b : Nat} {cs : List AV} (hx : (hidden h n)[b]? = some (.row cs)) : h[b]? = some (.row cs) ∧ b < n := by
  have h1 := hidden_getD h n b
  have h2 : (hidden h n).getD b .hid = .row cs := by simp [List.getD, hx]
  rw [h2] at h1
  by_cases hb : b < n
  · rw [if_pos hb] at h1
    refine ⟨?_, hb⟩
    cases he : h[b]? with
    | none => simp [List.getD, he] at h1
    | some y => simp [List.getD, he] at h1; rw [h1]
  · rw [if_neg hb] at h1; simp at h1

theorem muH_hidden (β : Bt) (w : World) (n k o : Nat) : muH β (hidden h n) w k o + muHid β h w n k o = muH β h w k o := by
  unfold muH muHid
  rw [hidden_length, ← sumN_add]
  refine sumN_congr fun b hb => ?_
  rw [hidden_getD]
  by_cases hn : b < n
  · rw [if_pos hn, if_neg (by omega)]; omega
  · rw [if_neg hn, if_pos (by omega)]; simp [muB]

theorem Inv.hide {own : Ct} (hi : Inv B0 X β Z h w own) (n : Nat) : Inv B0 (fun k o => X k o + muHid β h w n k o) β Z (hidden h n) w own := by
  refine ⟨fun k o => ?_, fun k o hp => hi.live k o ?_, fun k o hp => ?_, fun b blk hb => by rw [hidden_length]; exact hi.box b blk hb, fun b cs blk hx hb => hi.row b cs blk (hidden_row hx).1 hb, fun b cs hx => hi.old b cs (hidden_row hx).1, hi.base⟩
  · have := hi.sep k o
    have := muH_hidden (h := h) β w n k o
    omega
  · have := muH_hidden (h := h) β w n k o; omega
  · have := muH_hidden (h := h) β w n k o
    exact hi.lt_of (k := k) (o := o) (by omega)

/-- The boxes behind a call. -/
def rejoin (h h1 : Heap) (n : Nat) : Heap := h1.take n ++ h.drop n ++ h1.drop h.length

theorem rejoin_get {h1 : Heap} {n : Nat} (hn : n ≤ h.length) (hl : h.length ≤ h1.length) (b : Nat) : (rejoin h h1 n)[b]? = if n ≤ b ∧ b < h.length then h[b]? else h1[b]? := by
  unfold rejoin
  by_cases c1 : b < n
  · rw [if_neg (by omega), List.append_assoc, List.getElem?_append_left (by simp; omega), List.getElem?_take_of_lt c1]
  · by_cases c2 : b < h.length
    · rw [if_pos ⟨by omega, c2⟩, List.getElem?_append_left (by simp; omega), List.getElem?_append_right (by simp; omega)]
      rw [List.getElem?_drop, List.length_take, Nat.min_eq_left (by omega)]
      congr 1; omega
    · rw [if_neg (by omega), List.getElem?_append_right (by simp; omega), List.getElem?_drop, List.length_append, List.length_take, List.length_drop, Nat.min_eq_left (by omega)]
      congr 1; omega
theorem rejoin_length {h1 : Heap} {n : Nat} (hn : n ≤ h.length) (hl : h.length ≤ h1.length) : (rejoin h h1 n).length = h1.length := by
  simp [rejoin]; omega

theorem Post.joined {h1 : Heap} {n : Nat} {x : AV} {v : Value} {own : Ct} (hi : Inv B0 X β Z h w own) (hn : n ≤ h.length) (hp : Post B0 (fun k o => X k o + muHid β h w n k o) β Z (hidden h n) w β' Z' h1 w' x v) (hk : Keep (hidden h n) h1 β β') :
    Post B0 X β Z h w β' Z' (rejoin h h1 n) w' x v ∧ Keep h (rejoin h h1 n) β β' := by
  have hl : h.length ≤ h1.length := by have := hp.len; rw [hidden_length] at this; exact this
  have hrl := rejoin_length hn hl
  have hg := fun b => rejoin_get hn hl b
  have hβ : ∀ b, b < h.length → β' b = β b := fun b hb => (hk b (by rw [hidden_length]; exact hb)).1
  have hkx : ∀ k o, 0 < muHid β h w n k o → w'.cell? ⟨k, o, none⟩ = w.cell? ⟨k, o, none⟩ ∧ w'.frozen? ⟨k, o, none⟩ = w.frozen? ⟨k, o, none⟩ := fun k o hh => hp.ext.keepX k o (by show 0 < X k o + muHid β h w n k o; omega)
  have hmuB : ∀ b, b < h.length → n ≤ b → ∀ k o, muB β' w' b (h.getD b .hid) k o = muB β w b (h.getD b .hid) k o := by
    intro b hb hnb k o
    have e : muB β' w' b (h.getD b .hid) k o = muB β w' b (h.getD b .hid) k o := by
      cases h.getD b .hid <;> simp [muB, hβ b hb]
    rw [e]
    refine muB_congr (fun cs blk he hb' o' ho' => (hkx blk o' ?_).1) k o
    have h1 := sumN_ge hb (fun b => if n ≤ b then muB β w b (h.getD b .hid) blk o' else 0)
    simp only [hnb, if_true, he] at h1
    have := muB_ge (w := w) hb' ho'
    unfold muHid
    omega
  have hle : ∀ k o, muH β' (rejoin h h1 n) w' k o ≤ muH β' h1 w' k o + muHid β h w n k o := by
    intro k o
    have e : muHid β h w n k o = sumN h1.length (fun b => if b < h.length then (if n ≤ b then muB β w b (h.getD b .hid) k o else 0) else 0) := by
      unfold muHid
      rw [sumN_ext hl (fun i h1 h2 => by simp [Nat.not_lt.2 h1])]
      exact sumN_congr (fun i hi => by simp [hi])
    rw [e]
    unfold muH
    rw [hrl, ← sumN_add]
    refine sumN_le fun b hb => ?_
    have hgd : (rejoin h h1 n).getD b .hid = if n ≤ b ∧ b < h.length then h.getD b .hid else h1.getD b .hid := by
      simp only [List.getD_eq_getElem?_getD, hg b]
      split <;> rfl
    rw [hgd]
    by_cases hc : n ≤ b ∧ b < h.length
    · rw [if_pos hc, if_pos hc.2, if_pos hc.1, hmuB b hc.2 hc.1]
      omega
    · rw [if_neg hc]; omega
  refine ⟨⟨hp.rep, ⟨fun k o => ?_, fun k o hpos => ?_, fun k o hpos => hp.inv.dom k o (by show 0 < Z' k o + (X k o + _); omega), fun b blk hb => by rw [hrl]; exact hp.inv.box b blk hb, fun b cs blk hx hb j hj => ?_, fun b cs hx => ?_, hp.inv.base⟩, ?_, by rw [hrl]; exact hl⟩, fun b hb => ⟨hβ b hb, fun hh => ?_⟩⟩
  · have h1 : Z' k o + (X k o + muHid β h w n k o) + mu x v k o + muH β' h1 w' k o ≤ 1 := hp.inv.sep k o
    have := hle k o
    omega
  · have := hle k o
    by_cases h2 : 0 < mu x v k o + muH β' h1 w' k o
    · exact hp.inv.live k o h2
    · have h3 : 0 < muHid β h w n k o := by omega
      have h4 := muH_hidden (h := h) β w n k o
      obtain ⟨q1, ⟨u, q2⟩, q3⟩ := hi.live k o (by omega)
      obtain ⟨r1, r2⟩ := hkx k o h3
      exact ⟨q1, ⟨u, r1.trans q2⟩, r2.trans q3⟩
  · rw [hg b] at hx
    by_cases hc : n ≤ b ∧ b < h.length
    · rw [if_pos hc] at hx
      have hb2 : β b = some blk := by rw [← hβ b hc.2]; exact hb
      obtain ⟨u, u1, u2⟩ := hi.row b cs blk hx hb2 j hj
      have hpos : 0 < muHid β h w n blk j := by
        have h1 := sumN_ge hc.2 (fun b => if n ≤ b then muB β w b (h.getD b .hid) blk j else 0)
        simp only [hc.1, if_true, (getD_some hx).1] at h1
        have := muB_ge (w := w) hb2 hj
        unfold muHid
        omega
      refine ⟨u, (hkx blk j hpos).1.trans u1, u2.mono (fun b' hb' blk' he => by rw [hβ b' (hi.box b' blk' he).1]; exact he) hp.ext.zmono hp.ext.keepZ⟩
    · rw [if_neg hc] at hx
      exact hp.inv.row b cs blk hx hb j hj
  · rw [hg b] at hx
    by_cases hc : n ≤ b ∧ b < h.length
    · rw [if_pos hc] at hx; exact hi.old b cs hx
    · rw [if_neg hc] at hx; exact hp.inv.old b cs hx
  · refine ⟨hp.ext.size, hp.ext.keepZ, fun k o hx => hp.ext.keepX k o (by show 0 < X k o + muHid β h w n k o; omega), hp.ext.zmono, fun b hb blk he => by rw [hβ b hb]; exact he, hp.ext.low, hp.ext.os, hp.ext.tape, hp.ext.output⟩
  · rw [hg b]
    by_cases hc : n ≤ b ∧ b < h.length
    · rw [if_pos hc]; exact hh
    · rw [if_neg hc]
      refine (hk b (by rw [hidden_length]; exact hb)).2 ?_
      have h1 := hidden_getD h n b
      rw [if_pos (by omega)] at h1
      have h2 : h.getD b .hid = .hid := by simp [List.getD, hh]
      rw [h2] at h1
      have hlt : b < (hidden h n).length := by rw [hidden_length]; exact hb
      rw [List.getElem?_eq_getElem hlt]
      simp [List.getD, List.getElem?_eq_getElem hlt] at h1
      rw [h1]

theorem RepL.bnd {vals : List Value} {args : List AV} {n : Nat} (h : RepL w β Z vals args) (hb : ∀ b blk, β b = some blk → b < n) : AV.bndL args ≤ n := by
  refine AV.bndL_le.2 fun c hc => ?_
  obtain ⟨i, hi, rfl⟩ := List.getElem_of_mem hc
  exact (h.2 i (by rw [h.1]; exact hi) hi).bnd_le hb

theorem callA_sound {K : Callee} (hK : CallOK P K) {f : Nat} {args : List AV} {r : AV} {h' : Heap} (hrun : callA (K f) args h = some (r, h')) {vals : List Value} (hr : RepL w β Z vals args) (hi : Inv B0 X β Z h w (muL args vals)) :
    Gets P f vals w fun v w' => ∃ β' Z', Post B0 X β Z h w β' Z' h' w' r v ∧ Keep h h' β β' := by
  unfold callA at hrun
  simp only at hrun
  have hn : AV.bndL args ≤ h.length := hr.bnd fun b blk hb => (hi.box b blk hb).1
  split at hrun
  · rename_i r' h1 hk
    injection hrun with hrun; injection hrun with e1 e2
    subst e1; subst e2
    refine (hK f args (hidden h (AV.bndL args)) r' h1 hk B0 _ β Z w vals hr (hi.hide (AV.bndL args))).mono ?_
    rintro v w' ⟨β', Z', hp, hkeep⟩
    exact ⟨β', Z', hp.joined hi hn hkeep⟩
  · simp at hrun
end
end Go.Proofs.YtfihinodhhhllaaGreat
