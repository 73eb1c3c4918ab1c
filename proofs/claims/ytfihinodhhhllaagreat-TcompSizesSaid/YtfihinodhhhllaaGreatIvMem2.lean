/- Stores, new boxes, new rows, and growing in place. -/
import Derived.Test.YtfihinodhhhllaaGreatIvMem
set_option linter.unusedVariables false
set_option linter.unusedSimpArgs false
set_option linter.unusedVariables false
namespace Go.Proofs.YtfihinodhhhllaaGreat
open Go
theorem sumN_two {n i j : Nat} (hi : i < n) (hj : j < n) (hne : i ≠ j) (f : Nat → Nat) : f i + f j ≤ sumN n f := by
  induction n with
  | zero => omega
  | succ n ih =>
    simp only [sumN]
    by_cases e : i = n
    · subst e; have := sumN_ge (n := i) (d := j) (by omega) f; omega
    · by_cases e' : j = n
      · subst e'; have := sumN_ge (n := j) (d := i) (by omega) f; omega
      · have := ih (by omega) (by omega); omega
section
variable {P : Program} {w w' : World} {β : Bt} {Z : Ct} {h : Heap} {B0 : Nat} {X : Ct}

theorem Inv.rows_apart {own : Ct} (hi : Inv B0 X β Z h w own) {b b' blk : Nat} {cs cs' : List AV} (hx : h[b]? = some (.row cs)) (hx' : h[b']? = some (.row cs')) (hb : β b = some blk) (hb' : β b' = some blk) (hne : b ≠ b') {o : Nat} (h1 : o < cs.length) (h2 : o < cs'.length) : False := by
  obtain ⟨g1, g2⟩ := getD_some hx
  obtain ⟨g3, g4⟩ := getD_some hx'
  have := sumN_two g2 g4 hne (fun b => muB β w b (h.getD b .hid) blk o)
  simp only [g1, g3] at this
  have a1 := muB_ge (w := w) hb h1
  have a2 := muB_ge (w := w) hb' h2
  have := hi.sep blk o
  unfold muH at this
  omega

/-- One box's cells have changed. -/
theorem Inv.boxSet {own own' : Ct} (hi : Inv B0 X β Z h w own) {b blk : Nat} {cs cs' : List AV} (hx : h[b]? = some (.row cs)) (hb : β b = some blk) (hlen : cs'.length = cs.length)
    (hcell : ∀ k o, ¬(k = blk ∧ o < cs.length) → w'.cell? ⟨k, o, none⟩ = w.cell? ⟨k, o, none⟩) (hfro : ∀ k o, w'.frozen? ⟨k, o, none⟩ = w.frozen? ⟨k, o, none⟩) (hsize : w'.heap.size = w.heap.size)
    (hrow : ∀ j (hj : j < cs'.length), ∃ v, w'.cell? ⟨blk, j, none⟩ = some v ∧ Rep w β Z v cs'[j])
    (hmu : ∀ k o, own' k o + muL cs' (cellsAt w' blk cs.length) k o ≤ own k o + muL cs (cellsAt w blk cs.length) k o) (hbnd : AV.bndL cs' ≤ b) (hok : ∀ c ∈ cs', c.cellOk = true) :
    Inv B0 X β Z (h.set b (.row cs')) w' own' := by
  obtain ⟨g1, g2⟩ := getD_some hx
  have hself : (h.set b (.row cs')).getD b .hid = .row cs' := by simp [List.getD, g2]
  have hZk : ∀ k o, Z k o = 1 → ¬(k = blk ∧ o < cs.length) := by
    intro k o hz hc
    obtain ⟨rfl, hc⟩ := hc
    have := hi.rowMu hx hb hc
    have := hi.sep k o
    omega
  have hZ : ∀ k o, Z k o = 1 → w'.cell? ⟨k, o, none⟩ = w.cell? ⟨k, o, none⟩ := fun k o hz => hcell k o (hZk k o hz)
  have hoth : ∀ b', b' < h.length → b' ≠ b → ∀ k o, muB β w' b' ((h.set b (.row cs')).getD b' .hid) k o = muB β w b' (h.getD b' .hid) k o := by
    intro b' hlt hne k o
    have e : (h.set b (.row cs')).getD b' .hid = h.getD b' .hid := by simp [List.getD, Ne.symm hne]
    rw [e]
    refine muB_congr (fun ds blk' he hb' o' ho' => hcell _ _ ?_) k o
    rintro ⟨rfl, ho''⟩
    have hx' : h[b']? = some (.row ds) := by rw [List.getElem?_eq_getElem hlt]; simp [List.getD, List.getElem?_eq_getElem hlt] at he; rw [he]
    exact hi.rows_apart hx hx' hb hb' (Ne.symm hne) ho'' ho'
  have hmuB : ∀ k o, own' k o + muB β w' b (.row cs') k o ≤ own k o + muB β w b (.row cs) k o := by
    intro k o
    simp only [muB, hb, hlen]
    have := hmu k o
    omega
  have htot : ∀ k o, own' k o + muH β (h.set b (.row cs')) w' k o ≤ own k o + muH β h w k o := by
    intro k o
    have h1 : muH β (h.set b (.row cs')) w' k o = sumN h.length (fun b' => muB β w' b' ((h.set b (.row cs')).getD b' .hid) k o) := by simp [muH]
    have h2 := sumN_at g2 (f := fun b' => muB β w' b' ((h.set b (.row cs')).getD b' .hid) k o) (g := fun b' => muB β w b' (h.getD b' .hid) k o) (fun i hlt hne => hoth i hlt hne k o)
    simp only [hself, g1] at h2
    have h3 := hmuB k o
    rw [h1]
    show own' k o + _ ≤ own k o + sumN h.length _
    omega
  refine ⟨fun k o => ?_, fun k o hp => ?_, fun k o hp => by rw [hsize]; exact hi.dom k o hp, fun b' blk' hb' => by rw [hsize]; simpa using hi.box b' blk' hb', fun b' ds blk' hx' hb' j hj => ?_, fun b' ds hx' => ?_, by rw [hsize]; exact hi.base⟩
  · have := hi.sep k o
    have := htot k o
    omega
  · have := htot k o
    obtain ⟨q1, ⟨v, hv⟩, q3⟩ := hi.live k o (by omega)
    refine ⟨q1, ?_, by rw [hfro]; exact q3⟩
    by_cases hc : k = blk ∧ o < cs.length
    · obtain ⟨rfl, hc⟩ := hc
      obtain ⟨v', hv', _⟩ := hrow o (by omega)
      exact ⟨v', hv'⟩
    · exact ⟨v, by rw [hcell k o hc]; exact hv⟩
  · by_cases hne : b' = b
    · subst hne
      rw [List.getElem?_set_self g2] at hx'
      injection hx' with hx'
      injection hx' with hx'
      subst hx'
      rw [hb] at hb'
      injection hb' with hb'
      subst hb'
      obtain ⟨v, h1, h2⟩ := hrow j hj
      exact ⟨v, h1, h2.mono (fun _ _ _ he => he) (fun _ _ hz => hz) hZ⟩
    · rw [List.getElem?_set_ne (Ne.symm hne)] at hx'
      obtain ⟨v, h1, h2⟩ := hi.row b' ds blk' hx' hb' j hj
      refine ⟨v, ?_, h2.mono (fun _ _ _ he => he) (fun _ _ hz => hz) hZ⟩
      rw [hcell _ _ (fun hc => ?_)]
      · exact h1
      · obtain ⟨rfl, hc⟩ := hc
        exact hi.rows_apart hx hx' hb hb' (Ne.symm hne) hc hj
  · by_cases hne : b' = b
    · subst hne
      rw [List.getElem?_set_self g2] at hx'
      injection hx' with hx'
      injection hx' with hx'
      subst hx'
      exact ⟨hbnd, hok⟩
    · rw [List.getElem?_set_ne (Ne.symm hne)] at hx'
      exact hi.old b' ds hx'

theorem cellsAt_rep {own : Ct} (hi : Inv B0 X β Z h w own) {b blk : Nat} {cs : List AV} (hx : h[b]? = some (.row cs)) (hb : β b = some blk) : RepL w β Z (cellsAt w blk cs.length) cs := by
  refine ⟨by simp [cellsAt], fun i h1 h2 => ?_⟩
  obtain ⟨v, q1, q2⟩ := hi.row b cs blk hx hb i h2
  simpa [cellsAt, q1] using q2
theorem cellsAt_get (w : World) (blk n i : Nat) (hi : i < n) : (cellsAt w blk n)[i]? = some ((w.cell? ⟨blk, i, none⟩).getD Go.undef) := by
  simp [cellsAt, hi]
theorem cellsAt_length (w : World) (blk n : Nat) : (cellsAt w blk n).length = n := by simp [cellsAt]

theorem bndL_splice {cs xs : List AV} {off n : Nat} (h1 : AV.bndL cs ≤ n) (h2 : AV.bndL xs ≤ n) : AV.bndL (splice cs off xs) ≤ n := by
  rw [AV.bndL_le] at *
  intro x hx
  simp only [splice, List.mem_append] at hx
  rcases hx with (hx | hx) | hx
  · exact h1 x (List.mem_of_mem_take hx)
  · exact h2 x hx
  · exact h1 x (List.mem_of_mem_drop hx)
theorem ok_splice {cs xs : List AV} {off : Nat} (h1 : ∀ c ∈ cs, c.cellOk = true) (h2 : ∀ c ∈ xs, c.cellOk = true) : ∀ c ∈ splice cs off xs, c.cellOk = true := by
  intro x hx
  simp only [splice, List.mem_append] at hx
  rcases hx with (hx | hx) | hx
  · exact h1 x (List.mem_of_mem_take hx)
  · exact h2 x hx
  · exact h1 x (List.mem_of_mem_drop hx)
theorem muL_splice {cs xs : List AV} {vs us : List Value} {off : Nat} (h1 : vs.length = cs.length) (h2 : us.length = xs.length) (hb : off + xs.length ≤ cs.length) (k o : Nat) :
    muL (splice cs off xs) (vs.take off ++ us ++ vs.drop (off + us.length)) k o ≤ muL cs vs k o + muL xs us k o := by
  unfold splice
  rw [h2, muL_append (by simp [h1, h2]), muL_append (by simp [h1])]
  have h3 := muL_take_drop h1 off k o
  have h4 := muL_take_drop (cs := cs.drop off) (xs := vs.drop off) (by simp [h1]) xs.length k o
  simp only [List.drop_drop] at h4
  omega
theorem cells_bnd (x : AV) : AV.bndL x.cells = x.bnd := by cases x <;> simp [AV.cells, AV.bndL, AV.bnd]

theorem fitsA_okc {n : Option Nat} {x : AV} (h : fitsA n x = true) : okc x = true ∧ x.cells.length = n.getD 1 := by
  cases n <;> cases x <;> simp_all [fitsA, okc, AV.cells]

theorem sound_store {t : TypeId} {n : Option Nat} (hn : shapeN P t = some n) (hinf : (P.info? t).isSome = true) (hcells : P.cellsOf t = n.getD 1) {h' : Heap} {a x : AV} {va vx : Value} (hs : storeA h n a x = some h') (ha : Rep w β Z va a) (hx : Rep w β Z vx x) {moved : Ct} (hi : Inv B0 X β Z h w moved) (hm : ∀ k o, mu x vx k o ≤ moved k o) :
    ∃ w', (Instr.storeAt t va vx).run P w = .ok () w' ∧ Post B0 X β Z h w β Z h' w' .undef Go.undef := by
  unfold storeA at hs
  split at hs
  · rename_i b off
    split at hs
    · rename_i cs hcs
      split at hs
      · rename_i hc
        injection hs with hs
        subst hs
        simp only [Bool.and_eq_true, decide_eq_true_eq] at hc
        obtain ⟨⟨c1, c2⟩, c3⟩ := hc
        obtain ⟨ok, hl⟩ := fitsA_okc c1
        obtain ⟨r1, r2, r3⟩ := hx.cells ok
        cases ha with
        | ptr _ hb =>
          rename_i blk
          have hvl : vx.cells.toList.length = x.cells.length := r1.1
          have hex : ∀ j, j < vx.cells.toList.length → ∃ v, w.cell? ⟨blk, off + j, none⟩ = some v := by
            intro j hj
            obtain ⟨v, hv, _⟩ := hi.row b cs blk hcs hb (off + j) (by omega)
            exact ⟨v, hv⟩
          have hrun := run_storeCells_cells (P := P) blk off vx.cells.toList 0 w (fun j hj => by obtain ⟨v, hv⟩ := hex j hj; simp [hv]) (fun j hj => by
              have := (hi.live blk (off + j) (by have := hi.rowMu hcs hb (o := off + j) (by omega); omega)).2.2
              simpa using this) (fun v hv => by
              obtain ⟨i, hlt, rfl⟩ := List.getElem_of_mem hv
              exact ((r1.2 i hlt (by omega)).oneCell (r2 _ (List.getElem_mem _))).1)
          simp only [Nat.add_zero] at hrun
          have hcell := setCells_cell blk vx.cells.toList off w hex
          refine ⟨w.setCells blk off vx.cells.toList, ?_, ?_⟩
          · have hsz : ¬ vx.cells.size ≠ P.cellsOf t := by
              rw [hcells, ← hl]
              simpa using hvl
            simp only [Instr.storeAt, Instr.sureAddr, storeVar, Sem.run_bind, Sem.run_pure, Result.andThen_ok, run_sizeOf hinf, Sem.run_ite]
            rw [if_neg hsz]
            simpa using hrun
          · have hcw : cellsAt (w.setCells blk off vx.cells.toList) blk cs.length = (cellsAt w blk cs.length).take off ++ vx.cells.toList ++ (cellsAt w blk cs.length).drop (off + vx.cells.toList.length) := by
              apply List.ext_getElem?
              intro i
              by_cases hlt : i < cs.length
              · rw [cellsAt_get _ _ _ _ hlt, hcell]
                by_cases i1 : i < off
                · rw [if_neg (by omega), List.append_assoc, List.getElem?_append_left (by simp [cellsAt_length]; omega), List.getElem?_take_of_lt i1, cellsAt_get _ _ _ _ hlt]
                · by_cases i2 : i < off + vx.cells.toList.length
                  · rw [if_pos ⟨rfl, by omega, i2⟩, List.getElem?_append_left (by rw [List.length_append, List.length_take, cellsAt_length]; omega), List.getElem?_append_right (by rw [List.length_take, cellsAt_length]; omega)]
                    rw [List.length_take, cellsAt_length, Nat.min_eq_left (by omega)]
                    rw [List.getElem?_eq_getElem (by omega)]
                    rfl
                  · rw [if_neg (by omega), List.getElem?_append_right (by rw [List.length_append, List.length_take, cellsAt_length]; omega)]
                    rw [List.getElem?_drop, List.length_append, List.length_take, cellsAt_length, Nat.min_eq_left (by omega)]
                    rw [show off + vx.cells.toList.length + (i - (off + vx.cells.toList.length)) = i by omega, cellsAt_get _ _ _ _ hlt]
              · rw [List.getElem?_eq_none (by rw [cellsAt_length]; omega), List.getElem?_eq_none (by simp only [List.length_append, List.length_take, List.length_drop, cellsAt_length]; omega)]
            have hrl := cellsAt_rep hi hcs hb
            have hpost : Inv B0 X β Z (h.set b (.row (splice cs off x.cells))) (w.setCells blk off vx.cells.toList) (fun _ _ => 0) := by
              refine hi.boxSet hcs hb (splice_length cs off x.cells (by omega)) (fun k o hne => ?_) (fun k o => setCells_frozen ..) (setCells_size ..) (fun j hj => ?_) (fun k o => ?_) (bndL_splice (hi.old b cs hcs).1 (by rw [cells_bnd]; omega)) (ok_splice (hi.old b cs hcs).2 r2)
              · rw [hcell, if_neg (by intro hh; exact hne ⟨hh.1, by omega⟩)]
              · rw [splice_length cs off x.cells (by omega)] at hj
                have hg := splice_get cs off x.cells (by omega) j
                rw [List.getElem?_eq_getElem (by rw [splice_length cs off x.cells (by omega)]; exact hj)] at hg
                rw [hcell]
                by_cases hin : off ≤ j ∧ j < off + x.cells.length
                · rw [if_pos hin] at hg
                  rw [if_pos ⟨rfl, hin.1, by omega⟩]
                  have hlt : j - off < x.cells.length := by omega
                  rw [List.getElem?_eq_getElem hlt] at hg
                  injection hg with hg
                  refine ⟨vx.cells.toList[j - off], by rw [List.getElem?_eq_getElem], ?_⟩
                  rw [hg]
                  exact r1.2 (j - off) (by omega) hlt
                · rw [if_neg hin] at hg
                  rw [if_neg (by omega)]
                  rw [List.getElem?_eq_getElem hj] at hg
                  injection hg with hg
                  rw [hg]
                  exact hi.row b cs blk hcs hb j hj
              · rw [hcw]
                have h1 := muL_splice (cs := cs) (xs := x.cells) (vs := cellsAt w blk cs.length) (us := vx.cells.toList) (off := off) (cellsAt_length ..) hvl (by omega) k o
                have h2 := r3 k o
                have h3 := hm k o
                omega
            refine ⟨.undef, hpost.weaken (fun k o => by simp [mu]), ?_, by simp⟩
            have hblk : B0 ≤ blk ∨ vx.cells.toList = [] := by
              by_cases he : vx.cells.toList = []
              · exact .inr he
              · have hpos : 0 < vx.cells.toList.length := List.length_pos_iff.2 he
                exact .inl (hi.live blk off (by have := hi.rowMu hcs hb (o := off) (by omega); omega)).1
            refine ⟨by rw [setCells_size]; exact Nat.le_refl _, fun k o hz => ?_, fun k o hX => ⟨?_, setCells_frozen ..⟩, fun _ _ hz => hz, fun _ _ _ he => he, fun k hk => ?_, (setCells_rest ..).1, (setCells_rest ..).2.1, (setCells_rest ..).2.2⟩
            · rw [hcell, if_neg]
              rintro ⟨rfl, h1, h2⟩
              have := hi.rowMu hcs hb (o := o) (by omega)
              have := hi.sep k o
              omega
            · rw [hcell, if_neg]
              rintro ⟨rfl, h1, h2⟩
              have := hi.rowMu hcs hb (o := o) (by omega)
              have := hi.sep k o
              omega
            · rcases hblk with hblk | hblk
              · exact setCells_other _ _ _ _ _ (by omega)
              · rw [hblk]; rfl
      · simp at hs
    · simp at hs
  · simp at hs
end
end Go.Proofs.YtfihinodhhhllaaGreat
