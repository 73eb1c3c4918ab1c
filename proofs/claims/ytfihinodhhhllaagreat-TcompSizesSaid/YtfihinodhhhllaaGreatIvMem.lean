/- What becomes of the memory's word when memory is made or written. -/
import Derived.Test.YtfihinodhhhllaaGreatIvOps3
import Derived.Laws.IdiomCopy
set_option linter.unusedVariables false
set_option linter.unusedSimpArgs false
namespace Go.Proofs.YtfihinodhhhllaaGreat
open Go
set_option linter.unusedVariables false
section
variable {P : Program} {w w' : World} {β : Bt} {Z : Ct} {h : Heap} {B0 : Nat} {X : Ct}

theorem muB_ge {b blk : Nat} {cs : List AV} (hb : β b = some blk) {o : Nat} (ho : o < cs.length) : 1 ≤ muB β w b (.row cs) blk o := by
  simp [muB, hb, ho]
theorem muH_ge {b : Nat} (hlt : b < h.length) (k o : Nat) : muB β w b (h.getD b .hid) k o ≤ muH β h w k o := sumN_ge hlt (fun b => muB β w b (h.getD b .hid) k o)

theorem cellsAt_congr {blk n : Nat} (hc : ∀ o, o < n → w'.cell? ⟨blk, o, none⟩ = w.cell? ⟨blk, o, none⟩) : cellsAt w' blk n = cellsAt w blk n := by
  unfold cellsAt
  apply List.map_congr_left
  intro j hj
  rw [hc j (by simpa using hj)]

theorem muB_congr {b : Nat} {x : Box} (hc : ∀ cs blk, x = .row cs → β b = some blk → ∀ o, o < cs.length → w'.cell? ⟨blk, o, none⟩ = w.cell? ⟨blk, o, none⟩) (k o : Nat) : muB β w' b x k o = muB β w b x k o := by
  cases x with
  | hid => rfl
  | map es => rfl
  | row cs =>
    simp only [muB]
    cases hb : β b with
    | none => rfl
    | some blk => simp only [cellsAt_congr (hc cs blk rfl hb)]

theorem muH_congr (hH : ∀ k o, 0 < muH β h w k o → w'.cell? ⟨k, o, none⟩ = w.cell? ⟨k, o, none⟩) (k o : Nat) : muH β h w' k o = muH β h w k o := by
  refine sumN_congr fun b hb => muB_congr (fun cs blk hx he o' ho' => hH _ _ ?_) k o
  have h1 := muH_ge (β := β) (w := w) hb blk o'
  rw [hx] at h1
  have := muB_ge (w := w) he ho'
  omega

theorem getD_some {b : Nat} {x : Box} (hx : h[b]? = some x) : h.getD b .hid = x ∧ b < h.length := by
  obtain ⟨h1, h2⟩ := List.getElem?_eq_some_iff.1 hx
  exact ⟨by simp [List.getD, hx], h1⟩

theorem Inv.rowMu {own : Ct} (hi : Inv B0 X β Z h w own) {b blk : Nat} {cs : List AV} (hx : h[b]? = some (.row cs)) (hb : β b = some blk) {o : Nat} (ho : o < cs.length) : 0 < muH β h w blk o := by
  obtain ⟨h1, h2⟩ := getD_some hx
  have h3 := muH_ge (β := β) (w := w) h2 blk o
  rw [h1] at h3
  have := muB_ge (w := w) hb ho
  omega

/-- The memory has changed beside what the boxes and the old values stand on. -/
theorem Inv.change {own own' : Ct} {Z' : Ct} (hi : Inv B0 X β Z h w own) (size : w.heap.size ≤ w'.heap.size) (hZ : ∀ k o, Z k o = 1 → w'.cell? ⟨k, o, none⟩ = w.cell? ⟨k, o, none⟩) (zm : ∀ k o, Z k o = 1 → Z' k o = 1)
    (hH : ∀ k o, 0 < muH β h w k o → w'.cell? ⟨k, o, none⟩ = w.cell? ⟨k, o, none⟩ ∧ w'.frozen? ⟨k, o, none⟩ = w.frozen? ⟨k, o, none⟩)
    (sep' : ∀ k o, Z' k o + X k o + own' k o + muH β h w k o ≤ 1) (live' : ∀ k o, 0 < own' k o → B0 ≤ k ∧ (∃ v, w'.cell? ⟨k, o, none⟩ = some v) ∧ w'.frozen? ⟨k, o, none⟩ = false)
    (domZ : ∀ k o, 0 < Z' k o → k < w'.heap.size) : Inv B0 X β Z' h w' own' := by
  have hmu : ∀ k o, muH β h w' k o = muH β h w k o := muH_congr fun k o hp => (hH k o hp).1
  refine ⟨fun k o => by rw [hmu]; exact sep' k o, fun k o hp => ?_, fun k o hp => ?_, fun b blk hb => ⟨(hi.box b blk hb).1, Nat.lt_of_lt_of_le (hi.box b blk hb).2 size⟩, fun b cs blk hx hb j hj => ?_, hi.old, Nat.le_trans hi.base size⟩
  · rw [hmu] at hp
    by_cases h1 : 0 < own' k o
    · exact live' k o h1
    · have h2 : 0 < muH β h w k o := by omega
      obtain ⟨q1, ⟨v, hv⟩, q3⟩ := hi.live k o (by omega)
      obtain ⟨r1, r2⟩ := hH k o h2
      exact ⟨q1, ⟨v, r1.trans hv⟩, r2.trans q3⟩
  · by_cases h1 : 0 < Z' k o
    · exact domZ k o h1
    · exact Nat.lt_of_lt_of_le (hi.dom k o (by omega)) size
  · obtain ⟨v, hv, hr⟩ := hi.row b cs blk hx hb j hj
    refine ⟨v, (hH blk j (hi.rowMu hx hb hj)).1.trans hv, hr.mono (fun _ _ _ he => he) zm hZ⟩

/-! ### a new block -/
theorem cell_push_old {c : Array Value} {t : TypeId} (hw : w'.heap = w.heap.push (.cells c t)) {k : Nat} (hk : k < w.heap.size) (o : Nat) : w'.cell? ⟨k, o, none⟩ = w.cell? ⟨k, o, none⟩ ∧ w'.frozen? ⟨k, o, none⟩ = w.frozen? ⟨k, o, none⟩ := by
  have e : w'.heap[k]? = w.heap[k]? := by rw [hw, Array.getElem?_push]; rw [if_neg (by omega)]
  simp only [World.cell?, World.frozen?, e, and_self]
theorem cell_push_new {c : Array Value} {t : TypeId} (hw : w'.heap = w.heap.push (.cells c t)) (o : Nat) : w'.cell? ⟨w.heap.size, o, none⟩ = c[o]? ∧ w'.frozen? ⟨w.heap.size, o, none⟩ = false := by
  have e : w'.heap[w.heap.size]? = some (.cells c t) := by rw [hw]; simp
  simp [World.cell?, World.frozen?, e]

theorem Inv.none_new {own : Ct} (hi : Inv B0 X β Z h w own) (o : Nat) : Z w.heap.size o = 0 ∧ X w.heap.size o = 0 ∧ own w.heap.size o = 0 ∧ muH β h w w.heap.size o = 0 := by
  have h1 : ¬ 0 < Z w.heap.size o + X w.heap.size o := fun hp => by have := hi.dom _ _ hp; omega
  have h2 : ¬ 0 < own w.heap.size o + muH β h w w.heap.size o := fun hp => by
    obtain ⟨_, ⟨v, hv⟩, _⟩ := hi.live _ _ hp
    have := World.block_lt_of_cell? w ⟨w.heap.size, o, none⟩ hv
    simp at this
  omega
theorem Inv.lt_of {own : Ct} (hi : Inv B0 X β Z h w own) {k o : Nat} (hp : 0 < Z k o + X k o + own k o + muH β h w k o) : k < w.heap.size := by
  by_cases h1 : 0 < Z k o + X k o
  · exact hi.dom k o h1
  · obtain ⟨_, ⟨v, hv⟩, _⟩ := hi.live k o (by omega)
    exact World.block_lt_of_cell? w ⟨k, o, none⟩ hv

theorem World.low_push {c : Array Value} {t : TypeId} (hw : w'.heap = w.heap.push (.cells c t)) (hb : B0 ≤ w.heap.size) (k : Nat) (hk : k < B0) : w'.heap[k]? = w.heap[k]? := by
  rw [hw, Array.getElem?_push, if_neg (by omega)]

/-- A new row: its first cells are told, what is behind them may be written. -/
theorem Post.newRow {moved : Ct} (hi : Inv B0 X β Z h w moved) {c : Array Value} {t : TypeId} (hw : w'.heap = w.heap.push (.cells c t)) (ho : w'.os = w.os) (ht : w'.tape = w.tape) (hout : w'.output = w.output)
    {els : List AV} {sz cap : Nat} {own : Bool} (hpos : 0 < sz) (hsz : ∀ x ∈ els, x.cells.length = sz) (hk : ∀ x ∈ flat els, x.cellOk = true) (hcs : c.size = cap * sz) (hcap : els.length ≤ cap) (f : Nat → Value) (hf : ∀ k, k < (flat els).length → c[k]? = some (f k))
    (hr : ∀ k (hlt : k < (flat els).length), Rep w β Z (f k) (flat els)[k]) (hown : els = [] → own = true → cap = 0) :
    Post B0 X β Z h w β (fun k o => Z k o + if k = w.heap.size ∧ o < els.length * sz then 1 else 0) h w' (.sl own sz els) (.slice (some ⟨w.heap.size, 0, none⟩) els.length cap) := by
  have hn := hi.none_new
  have hfl : (flat els).length = els.length * sz := flat_length hsz
  have hle : els.length * sz ≤ cap * sz := Nat.mul_le_mul_right _ hcap
  have hsize : w'.heap.size = w.heap.size + 1 := by rw [hw]; simp
  have zm : ∀ k o, Z k o = 1 → (Z k o + if k = w.heap.size ∧ o < els.length * sz then 1 else 0) = 1 := by
    intro k o hz
    have : k ≠ w.heap.size := fun e => by subst e; have := (hn o).1; omega
    simp [this, hz]
  have hZ : ∀ k o, Z k o = 1 → w'.cell? ⟨k, o, none⟩ = w.cell? ⟨k, o, none⟩ := fun k o hz => (cell_push_old hw (hi.dom k o (by omega)) o).1
  have hmu : ∀ k o, mu (.sl own sz els) (.slice (some ⟨w.heap.size, 0, none⟩) els.length cap) k o ≤ if k = w.heap.size ∧ els.length * sz ≤ o ∧ o < cap * sz then 1 else 0 := by
    intro k o
    cases own <;> cases els <;> simp [mu]
  refine ⟨?_, ?_, ?_, Nat.le_refl _⟩
  · cases els with
    | nil => exact .slz _ _ _ _ (hown rfl)
    | cons e l =>
      refine .sl f rfl (by simp) hcap hpos hsz hk (fun k hlt => ?_) (fun k hlt => ?_) (fun k hlt => (hr k hlt).mono (fun _ _ _ he => he) zm hZ)
      · simp only [Nat.zero_add]
        rw [(cell_push_new hw k).1]
        exact hf k hlt
      · simp only [Nat.zero_add]
        have h0 := (hn k).1
        have hlt' : k < (e :: l).length * sz := by rw [← hfl]; exact hlt
        simp only [h0, hlt', and_self, if_true]
  · refine hi.change (by omega) hZ zm (fun k o hp => cell_push_old hw (hi.lt_of (k := k) (o := o) (by omega)) o) (fun k o => ?_) (fun k o hp => ?_) (fun k o hp => ?_)
    · have h1 := hi.sep k o
      have h2 := hmu k o
      by_cases e : k = w.heap.size
      · subst e
        obtain ⟨a1, a2, a3, a4⟩ := hn o
        simp only [true_and] at h2 ⊢
        by_cases c1 : o < els.length * sz
        · rw [if_neg (by omega)] at h2
          rw [if_pos c1]
          omega
        · rw [if_neg c1]
          split at h2 <;> omega
      · simp only [e, false_and, if_false] at h2 ⊢
        omega
    · have h2 := hmu k o
      by_cases e : k = w.heap.size ∧ els.length * sz ≤ o ∧ o < cap * sz
      · obtain ⟨rfl, e1, e2⟩ := e
        obtain ⟨r1, r2⟩ := cell_push_new hw o
        refine ⟨hi.base, ⟨c[o]'(by omega), ?_⟩, r2⟩
        rw [r1]; simp [hcs, e2]
      · rw [if_neg e] at h2; omega
    · by_cases e : k = w.heap.size
      · omega
      · simp only [e, false_and, if_false, Nat.add_zero] at hp
        have := hi.dom k o (by omega)
        omega
  · refine ⟨by omega, hZ, fun k o hx => cell_push_old hw (hi.dom k o (by omega)) o, zm, fun _ _ _ he => he, World.low_push hw hi.base, ho, ht, hout⟩

/-! ### cells that are written -/
theorem setCells_cell (b : Nat) : ∀ (vs : List Value) (o : Nat) (w : World), (∀ j, j < vs.length → ∃ v, w.cell? ⟨b, o + j, none⟩ = some v) → ∀ k p, (w.setCells b o vs).cell? ⟨k, p, none⟩ = if k = b ∧ o ≤ p ∧ p < o + vs.length then vs[p - o]? else w.cell? ⟨k, p, none⟩
  | [], o, w, _, k, p => by simp [World.setCells]; intro _ _ h; omega
  | v :: r, o, w, hc, k, p => by
    obtain ⟨v0, hv0⟩ := hc 0 (by simp)
    simp only [Nat.add_zero] at hv0
    have ih := setCells_cell b r (o + 1) (w.setCell ⟨b, o, none⟩ v) (fun j hj => by
      obtain ⟨u, hu⟩ := hc (j + 1) (by simp; omega)
      exact ⟨u, by rw [World.cell?_setCell_other _ _ _ _ (by simp; omega)]; rw [show o + 1 + j = o + (j + 1) by omega]; exact hu⟩) k p
    simp only [World.setCells, ih, List.length_cons]
    by_cases c1 : k = b ∧ o + 1 ≤ p ∧ p < o + 1 + r.length
    · rw [if_pos c1, if_pos ⟨c1.1, by omega, by omega⟩, show p - o = (p - (o + 1)) + 1 by omega, List.getElem?_cons_succ]
    · rw [if_neg c1]
      by_cases c2 : k = b ∧ p = o
      · obtain ⟨rfl, rfl⟩ := c2
        rw [if_pos ⟨rfl, by omega, by omega⟩]
        rw [World.cell?_setCell_same' w _ v (by simp [hv0])]
        simp
      · rw [if_neg (by omega)]
        exact World.cell?_setCell_other _ _ _ _ (by simp; omega)
theorem setCells_frozen (b : Nat) : ∀ (vs : List Value) (o : Nat) (w : World) (a : Addr), (w.setCells b o vs).frozen? a = w.frozen? a
  | [], o, w, a => rfl
  | v :: r, o, w, a => by simp only [World.setCells]; rw [setCells_frozen b r (o + 1)]; exact World.frozen?_setCell ..
theorem setCells_size (b : Nat) : ∀ (vs : List Value) (o : Nat) (w : World), (w.setCells b o vs).heap.size = w.heap.size
  | [], o, w => rfl
  | v :: r, o, w => by simp only [World.setCells]; rw [setCells_size b r (o + 1)]; simp [World.setCell]
theorem setCells_other (b : Nat) : ∀ (vs : List Value) (o : Nat) (w : World) (k : Nat), k ≠ b → (w.setCells b o vs).heap[k]? = w.heap[k]?
  | [], o, w, k, _ => rfl
  | v :: r, o, w, k, hk => by
    simp only [World.setCells]; rw [setCells_other b r (o + 1) _ k hk]; simp only [World.setCell]
    rw [Array.getElem?_modify, if_neg (fun e => hk e.symm)]
theorem setCells_rest (b : Nat) : ∀ (vs : List Value) (o : Nat) (w : World), (w.setCells b o vs).os = w.os ∧ (w.setCells b o vs).tape = w.tape ∧ (w.setCells b o vs).output = w.output
  | [], o, w => ⟨rfl, rfl, rfl⟩
  | v :: r, o, w => by simp only [World.setCells]; exact setCells_rest b r (o + 1) _
end
end Go.Proofs.YtfihinodhhhllaaGreat
