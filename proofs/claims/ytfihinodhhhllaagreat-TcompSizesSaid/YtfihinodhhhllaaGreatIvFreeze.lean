/- Rows of a call's own, given back as values. -/
import Derived.Test.YtfihinodhhhllaaGreatIvCode
set_option linter.unusedVariables false
set_option linter.unusedSimpArgs false
set_option linter.unusedVariables false
namespace Go.Proofs.YtfihinodhhhllaaGreat
open Go
section
variable {P : Program} {w : World} {β : Bt} {Z : Ct} {h : Heap} {B0 : Nat} {X : Ct}

theorem sumN_drop {n b : Nat} (hb : b < n) {f g : Nat → Nat} (hle : ∀ i, i < n → g i ≤ f i) (h0 : g b = 0) : sumN n g + f b ≤ sumN n f := by
  have h1 := sumN_at hb (f := f) (g := fun i => if i = b then 0 else f i) (fun i _ hne => by simp [hne])
  have h2 : sumN n g ≤ sumN n (fun i => if i = b then 0 else f i) := sumN_le fun i hi => by
    by_cases e : i = b
    · subst e; simp [h0]
    · simp only [e, if_false]; exact hle i hi
  simp only [if_true] at h1
  omega

def hidFrom (h : Heap) (n : Nat) : Heap := h.take n ++ List.replicate (h.length - n) .hid
theorem hidFrom_length {n : Nat} : (hidFrom h n).length = h.length := by simp [hidFrom]; omega
theorem hidFrom_get {n b : Nat} : (hidFrom h n)[b]? = if b < n then h[b]? else if b < h.length then some .hid else none := by
  unfold hidFrom
  by_cases hb : b < n
  · rw [if_pos hb]
    by_cases hl : b < h.length
    · rw [List.getElem?_append_left (by simp; omega), List.getElem?_take_of_lt hb]
    · rw [List.getElem?_eq_none (by simp; omega), List.getElem?_eq_none (by omega)]
  · rw [if_neg hb]
    by_cases hl : b < h.length
    · rw [if_pos hl, List.getElem?_append_right (by simp; omega), List.getElem?_replicate, if_pos (by simp; omega)]
    · rw [if_neg hl, List.getElem?_eq_none (by simp; omega)]

/-- The cells of the boxes from the n-th on. -/
def fz (β : Bt) (h : Heap) (w : World) (n : Nat) : Ct := fun k o => muH β h w k o - muH β (hidFrom h n) w k o
theorem hid_le (n : Nat) (k o : Nat) : muH β (hidFrom h n) w k o ≤ muH β h w k o := by
  unfold muH
  rw [hidFrom_length]
  refine sumN_le fun b hb => ?_
  have := hidFrom_get (h := h) (n := n) (b := b)
  simp only [List.getD_eq_getElem?_getD, this]
  by_cases hn : b < n
  · rw [if_pos hn]; exact Nat.le_refl _
  · rw [if_neg hn, if_pos hb]; simp [muB]

theorem Inv.freeze {own : Ct} (hi : Inv B0 X β Z h w own) (n : Nat) : Inv B0 X β (fun k o => Z k o + fz β h w n k o) (hidFrom h n) w own := by
  have hle := fun k o => hid_le (β := β) (h := h) (w := w) n k o
  have hz : ∀ k o, Z k o = 1 → Z k o + fz β h w n k o = 1 := by
    intro k o h1
    have := hi.sep k o
    have := hle k o
    unfold fz
    omega
  have hg : ∀ b cs, (hidFrom h n)[b]? = some (.row cs) → b < n ∧ h[b]? = some (.row cs) := by
    intro b cs hx
    rw [hidFrom_get] at hx
    split at hx
    · rename_i hb; exact ⟨hb, hx⟩
    · split at hx <;> simp at hx
  refine ⟨fun k o => ?_, fun k o hp => hi.live k o (by have := hle k o; omega), fun k o hp => ?_, fun b blk hb => by rw [hidFrom_length]; exact hi.box b blk hb, fun b cs blk hx hb j hj => ?_, fun b cs hx => hi.old b cs (hg b cs hx).2, hi.base⟩
  · have := hi.sep k o
    have := hle k o
    unfold fz
    omega
  · by_cases h1 : 0 < Z k o + X k o
    · exact hi.dom k o h1
    · refine hi.lt_of (k := k) (o := o) ?_
      unfold fz at hp
      omega
  · obtain ⟨v, v1, v2⟩ := hi.row b cs blk (hg b cs hx).2 hb j hj
    exact ⟨v, v1, v2.mono (fun _ _ _ he => he) hz (fun _ _ _ => rfl)⟩

theorem Inv.frozen {own : Ct} (hi : Inv B0 X β Z h w own) {n b blk : Nat} {cs : List AV} (hx : h[b]? = some (.row cs)) (hb : β b = some blk) (hn : n ≤ b) {o : Nat} (ho : o < cs.length) : Z blk o + fz β h w n blk o = 1 := by
  obtain ⟨g1, g2⟩ := getD_some hx
  have h1 := muB_ge (w := w) hb ho
  have h2 := sumN_drop (n := h.length) (b := b) g2 (f := fun b => muB β w b (h.getD b .hid) blk o) (g := fun b => muB β w b ((hidFrom h n).getD b .hid) blk o) (fun i hi' => by
    have := hidFrom_get (h := h) (n := n) (b := i)
    simp only [List.getD_eq_getElem?_getD, this]
    by_cases hn : i < n
    · rw [if_pos hn]; exact Nat.le_refl _
    · rw [if_neg hn, if_pos hi']; simp [muB]) (by
    have := hidFrom_get (h := h) (n := n) (b := b)
    simp only [List.getD_eq_getElem?_getD, this]
    rw [if_neg (by omega), if_pos g2]; simp [muB])
  simp only [g1] at h2
  have h3 : muH β (hidFrom h n) w blk o = sumN h.length (fun b => muB β w b ((hidFrom h n).getD b .hid) blk o) := by unfold muH; rw [hidFrom_length]
  have h4 : muH β h w blk o = sumN h.length (fun b => muB β w b (h.getD b .hid) blk o) := rfl
  have := hi.sep blk o
  unfold fz
  omega

theorem cellOk_cells {c : AV} (h : c.cellOk = true) : c.cells = [c] := by cases c <;> simp [AV.cellOk, AV.cells] at *

theorem elsOf_spec {sh : Option Nat} {cs : List AV} (hok : ∀ c ∈ cs, c.cellOk = true) : ∀ (k off : Nat) (els : List AV), elsOf sh cs off k = some els →
    els.length = k ∧ (∀ x ∈ els, x.cells.length = sh.getD 1) ∧ (0 < k → off + k * sh.getD 1 ≤ cs.length) ∧ flat els = AV.eraseL ((cs.drop off).take (k * sh.getD 1))
  | 0, off, els, h => by
    simp only [elsOf] at h
    injection h with h; subst h
    simp [flat, AV.eraseL]
  | k + 1, off, els, h => by
    simp only [elsOf] at h
    split at h
    · rename_i x l hx hl
      injection h with h; subst h
      obtain ⟨q1, q2, q3, q4⟩ := elsOf_spec hok k _ l hl
      have key : off + sh.getD 1 ≤ cs.length ∧ x.erase.cells = AV.eraseL ((cs.drop off).take (sh.getD 1)) := by
        cases sh with
        | none =>
          simp only [partA] at hx
          obtain ⟨hlt, rfl⟩ := List.getElem?_eq_some_iff.1 hx
          refine ⟨by simp; omega, ?_⟩
          have hc : (cs[off]).erase.cellOk = true := by rw [AV.erase_cellOk]; exact hok _ (List.getElem_mem _)
          rw [cellOk_cells hc, List.drop_eq_getElem_cons hlt, Option.getD_none, List.take_succ_cons, List.take_zero]
          rfl
        | some m =>
          simp only [partA] at hx
          split at hx
          · rename_i hle
            injection hx with hx; subst hx
            exact ⟨by simpa using hle, by simp [AV.erase, AV.cells]⟩
          · simp at hx
      obtain ⟨k1, k2⟩ := key
      refine ⟨by simp [q1], fun y hy => ?_, fun _ => ?_, ?_⟩
      · rcases List.mem_cons.1 hy with rfl | hy
        · rw [k2, AV.eraseL_eq]; simp; omega
        · exact q2 y hy
      · rw [Nat.succ_mul]
        by_cases hk : 0 < k
        · have := q3 hk; omega
        · have : k = 0 := by omega
          subst this; omega
      · rw [flat_cons, k2, q4, AV.eraseL_eq, AV.eraseL_eq, AV.eraseL_eq, ← List.map_append]
        congr 1
        rw [Nat.succ_mul, Nat.add_comm (k * sh.getD 1), List.take_add, List.drop_drop]
    · simp at h

theorem freeze_rep {own : Ct} (hi : Inv B0 X β Z h w own) (n : Nat) {v : Value} {x : AV} (hr : Rep w β Z v x) :
    Rep w β (fun k o => Z k o + fz β h w n k o) v (freeze h n x) ∧ ∀ k o, mu (freeze h n x) v k o ≤ mu x v k o := by
  have hz : ∀ k o, Z k o = 1 → Z k o + fz β h w n k o = 1 := by
    intro k o h1
    have := hi.sep k o
    have := hid_le (β := β) (h := h) (w := w) n k o
    unfold fz
    omega
  have hsame : Rep w β (fun k o => Z k o + fz β h w n k o) v x := hr.mono (fun _ _ _ he => he) hz (fun _ _ _ => rfl)
  have stay : freeze h n x = x → Rep w β (fun k o => Z k o + fz β h w n k o) v (freeze h n x) ∧ ∀ k o, mu (freeze h n x) v k o ≤ mu x v k o := fun e => by rw [e]; exact ⟨hsame, fun _ _ => Nat.le_refl _⟩
  cases x
  case ms b off k sh tight =>
    by_cases hc : ∃ cs els, h[b]? = some (.row cs) ∧ (n ≤ b ∧ 0 < sh.getD 1) ∧ elsOf sh cs off k = some els
    · obtain ⟨cs, els, c1, c2, c3⟩ := hc
      have hf : freeze h n (.ms b off k sh tight) = .sl tight (sh.getD 1) els := by simp only [freeze, c1, if_pos c2, c3]
      rw [hf]
      obtain ⟨q1, q2, q3, q4⟩ := elsOf_spec (hi.old b cs c1).2 k off els c3
      cases hr with
      | msz base hb ht =>
        have : els = [] := by simpa using q1
        subst this
        exact ⟨.slz _ _ _ _ ht, fun k o => by clear hsame stay hf; cases tight <;> simp [mu]⟩
      | ms _ hb h0 hcap ht =>
        rename_i blk cap
        have hlen := q3 h0
        have hne : els ≠ [] := by rintro rfl; simp at q1; omega
        have hfl : (flat els).length = k * sh.getD 1 := by rw [flat_length q2, q1]
        have hget : ∀ i (hi' : i < (flat els).length), ∃ hj : off + i < cs.length, (flat els)[i] = (cs[off + i]).erase := by
          intro i hi'
          have hj : off + i < cs.length := by omega
          refine ⟨hj, ?_⟩
          have : (flat els)[i]? = some (cs[off + i]).erase := by
            rw [q4, AV.eraseL_eq, List.getElem?_map, List.getElem?_take_of_lt (by omega), List.getElem?_drop, List.getElem?_eq_getElem hj]; rfl
          rw [List.getElem?_eq_getElem hi'] at this
          exact Option.some.inj this
        have hmu : ∀ kk o, mu (.sl tight (sh.getD 1) els) (.slice (some ⟨blk, off, none⟩) k cap) kk o = 0 := by
          intro kk o
          clear hsame stay hf
          cases tight
          · cases els <;> simp [mu]
          · have := ht rfl
            subst this
            cases els with
            | nil => simp [mu]
            | cons _ _ => simp only [mu]; rw [if_neg (by omega)]
        refine ⟨?_, fun kk o => by rw [hmu]; exact Nat.zero_le _⟩
        have hrep : Rep w β (fun k o => Z k o + fz β h w n k o) (.slice (some ⟨blk, off, none⟩) els.length cap) (.sl tight (sh.getD 1) els) := by
          refine .sl (fun i => (w.cell? ⟨blk, off + i, none⟩).getD Go.undef) rfl hne (by omega) c2.2 q2 (fun c hc => ?_) (fun i hi' => ?_) (fun i hi' => ?_) (fun i hi' => ?_)
          · obtain ⟨i, hi', rfl⟩ := List.getElem_of_mem hc
            obtain ⟨hj, he⟩ := hget i hi'
            rw [he, AV.erase_cellOk]
            exact (hi.old b cs c1).2 _ (List.getElem_mem _)
          · obtain ⟨hj, he⟩ := hget i hi'
            obtain ⟨u, u1, u2⟩ := hi.row b cs blk c1 hb (off + i) hj
            simp [u1]
          · obtain ⟨hj, he⟩ := hget i hi'
            exact hi.frozen c1 hb c2.1 hj
          · obtain ⟨hj, he⟩ := hget i hi'
            obtain ⟨u, u1, u2⟩ := hi.row b cs blk c1 hb (off + i) hj
            rw [he]
            simp only [u1, Option.getD_some]
            exact (u2.mono (fun _ _ _ he => he) hz (fun _ _ _ => rfl)).erase
        rw [q1] at hrep
        exact hrep
    · apply stay
      unfold freeze
      simp only
      split
      · rename_i cs hcs
        split
        · rename_i hcc
          split
          · rename_i els hels; exact absurd ⟨cs, els, hcs, hcc, hels⟩ hc
          · rfl
        · rfl
      · rfl
  all_goals exact stay rfl

theorem freeze_repL {own : Ct} (hi : Inv B0 X β Z h w own) (n : Nat) : ∀ {us : List Value} {vs : List AV}, RepL w β Z us vs →
    RepL w β (fun k o => Z k o + fz β h w n k o) us (vs.map (freeze h n)) ∧ ∀ k o, muL (vs.map (freeze h n)) us k o ≤ muL vs us k o
  | [], [], _ => ⟨RepL.nil, fun _ _ => Nat.le_refl _⟩
  | [], _ :: _, hr => by have := hr.1; simp at this
  | _ :: _, [], hr => by have := hr.1; simp at this
  | u :: us, v :: vs, hr => by
    obtain ⟨q1, q2⟩ := freeze_repL hi n hr.tail
    obtain ⟨p1, p2⟩ := freeze_rep hi n hr.head
    refine ⟨RepL.cons p1 q1, fun k o => ?_⟩
    simp only [List.map_cons, muL]
    have := q2 k o
    have := p2 k o
    omega
end
end Go.Proofs.YtfihinodhhhllaaGreat
