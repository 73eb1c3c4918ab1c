/- Rows that are made and written as slices. -/
import Derived.Test.YtfihinodhhhllaaGreatIvMem4
set_option linter.unusedVariables false
set_option linter.unusedSimpArgs false
set_option linter.unusedVariables false
namespace Go.Proofs.YtfihinodhhhllaaGreat
open Go
section
variable {P : Program} {w : World} {β : Bt} {Z : Ct} {h : Heap} {B0 : Nat} {X : Ct}

theorem store_cells {b off blk : Nat} {cs xs : List AV} {vs : List Value} (hcs : h[b]? = some (.row cs)) (hb : β b = some blk) (r1 : RepL w β Z vs xs) (r2 : ∀ d ∈ xs, d.cellOk = true) (c2 : off + xs.length ≤ cs.length) (hbd : AV.bndL xs ≤ b)
    {moved : Ct} (hi : Inv B0 X β Z h w moved) (hm : ∀ k o, muL xs vs k o ≤ moved k o) :
    (storeCells ⟨blk, off, none⟩ vs).run P w = .ok () (w.setCells blk off vs) ∧ Post B0 X β Z h w β Z (h.set b (.row (splice cs off xs))) (w.setCells blk off vs) .undef Go.undef := by
  have hvl : vs.length = xs.length := r1.1
  have hex : ∀ j, j < vs.length → ∃ v, w.cell? ⟨blk, off + j, none⟩ = some v := by
    intro j hj
    obtain ⟨v, hv, _⟩ := hi.row b cs blk hcs hb (off + j) (by omega)
    exact ⟨v, hv⟩
  have hrun := run_storeCells_cells (P := P) blk off vs 0 w (fun j hj => by obtain ⟨v, hv⟩ := hex j hj; simp [hv]) (fun j hj => by
      have := (hi.live blk (off + j) (by have := hi.rowMu hcs hb (o := off + j) (by omega); omega)).2.2
      simpa using this) (fun v hv => by
      obtain ⟨i, hlt, rfl⟩ := List.getElem_of_mem hv
      exact ((r1.2 i hlt (by omega)).oneCell (r2 _ (List.getElem_mem _))).1)
  simp only [Nat.add_zero] at hrun
  have hcell := setCells_cell blk vs off w hex
  refine ⟨?_, ?_⟩
  · simpa using hrun
  · have hcw : cellsAt (w.setCells blk off vs) blk cs.length = (cellsAt w blk cs.length).take off ++ vs ++ (cellsAt w blk cs.length).drop (off + vs.length) := by
      apply List.ext_getElem?
      intro i
      by_cases hlt : i < cs.length
      · rw [cellsAt_get _ _ _ _ hlt, hcell]
        by_cases i1 : i < off
        · rw [if_neg (by omega), List.append_assoc, List.getElem?_append_left (by simp [cellsAt_length]; omega), List.getElem?_take_of_lt i1, cellsAt_get _ _ _ _ hlt]
        · by_cases i2 : i < off + vs.length
          · rw [if_pos ⟨rfl, by omega, i2⟩, List.getElem?_append_left (by rw [List.length_append, List.length_take, cellsAt_length]; omega), List.getElem?_append_right (by rw [List.length_take, cellsAt_length]; omega)]
            rw [List.length_take, cellsAt_length, Nat.min_eq_left (by omega)]
            rw [List.getElem?_eq_getElem (by omega)]
            rfl
          · rw [if_neg (by omega), List.getElem?_append_right (by rw [List.length_append, List.length_take, cellsAt_length]; omega)]
            rw [List.getElem?_drop, List.length_append, List.length_take, cellsAt_length, Nat.min_eq_left (by omega)]
            rw [show off + vs.length + (i - (off + vs.length)) = i by omega, cellsAt_get _ _ _ _ hlt]
      · rw [List.getElem?_eq_none (by rw [cellsAt_length]; omega), List.getElem?_eq_none (by simp only [List.length_append, List.length_take, List.length_drop, cellsAt_length]; omega)]
    have hrl := cellsAt_rep hi hcs hb
    have hpost : Inv B0 X β Z (h.set b (.row (splice cs off xs))) (w.setCells blk off vs) (fun _ _ => 0) := by
      refine hi.boxSet hcs hb (splice_length cs off xs (by omega)) (fun k o hne => ?_) (fun k o => setCells_frozen ..) (setCells_size ..) (fun j hj => ?_) (fun k o => ?_) (bndL_splice (hi.old b cs hcs).1 hbd) (ok_splice (hi.old b cs hcs).2 r2)
      · rw [hcell, if_neg (by intro hh; exact hne ⟨hh.1, by omega⟩)]
      · rw [splice_length cs off xs (by omega)] at hj
        have hg := splice_get cs off xs (by omega) j
        rw [List.getElem?_eq_getElem (by rw [splice_length cs off xs (by omega)]; exact hj)] at hg
        rw [hcell]
        by_cases hin : off ≤ j ∧ j < off + xs.length
        · rw [if_pos hin] at hg
          rw [if_pos ⟨rfl, hin.1, by omega⟩]
          have hlt : j - off < xs.length := by omega
          rw [List.getElem?_eq_getElem hlt] at hg
          injection hg with hg
          refine ⟨vs[j - off], by rw [List.getElem?_eq_getElem], ?_⟩
          rw [hg]
          exact r1.2 (j - off) (by omega) hlt
        · rw [if_neg hin] at hg
          rw [if_neg (by omega)]
          rw [List.getElem?_eq_getElem hj] at hg
          injection hg with hg
          rw [hg]
          exact hi.row b cs blk hcs hb j hj
      · rw [hcw]
        have h1 := muL_splice (cs := cs) (xs := xs) (vs := cellsAt w blk cs.length) (us := vs) (off := off) (cellsAt_length ..) hvl (by omega) k o
        have h2 := hm k o
        omega
    refine ⟨.undef, hpost.weaken (fun k o => by simp [mu]), ?_, by simp⟩
    have hblk : B0 ≤ blk ∨ vs = [] := by
      by_cases he : vs = []
      · exact .inr he
      · have hpos : 0 < vs.length := List.length_pos_iff.2 he
        exact .inl (hi.live blk off (by have := hi.rowMu hcs hb (o := off) (by omega); omega)).1
    refine ⟨by rw [setCells_size]; exact Nat.le_refl _, fun k o hz => ?_, fun k o hX => ⟨?_, setCells_frozen ..⟩, fun _ _ hz => hz, fun _ _ _ he => he, fun k hk => ?_, (setCells_rest ..).1, (setCells_rest ..).2.1, (setCells_rest ..).2.2⟩
    · rw [hcell, if_neg]
      rintro ⟨rfl, h1, h2⟩
      have := hi.rowMu hcs hb (o := o) (by omega)
      have := hi.sep k o
      omega
    · rw [hcell, if_neg]
      rintro ⟨rfl, h1, h2⟩
      have := hi.rowMu hcs hb (o := o) (by omega)
      have := hi.sep k o
      omega
    · rcases hblk with hblk | hblk
      · exact setCells_other _ _ _ _ _ (by omega)
      · rw [hblk]; rfl

theorem bndL_ckCL (w : World) {zs : List AV} {l : List Value} (hck : ckCL zs l = true) : AV.bndL zs = 0 := by
  have : AV.bndL zs ≤ 0 := AV.bndL_le.2 fun x hx => by
    obtain ⟨i, hlt, rfl⟩ := List.getElem_of_mem hx
    have h0 := ckCL_rep (w := w) (β := fun _ => none) (Z := fun _ _ => 0) zs l hck
    have hr := h0.2.2.1 i (by have := h0.1; omega) hlt
    exact hr.bnd_le (fun b blk he => by simp at he)
  omega

theorem sound_mkslice {t e : TypeId} {sh : Option Nat} {bytes : Nat} {zs : List AV} {z : Value} {x y r : AV} {vx vy : Value} {h' : Heap} (he : elemOf? P t = some e) (hinf : (P.info? e).isSome = true) (hby : P.bytesOf e = bytes) (hsz : P.cellsOf e = sh.getD 1) (hpos : 0 < P.cellsOf e)
    (hz : zeroOf P e = some z) (hzs : ckCL zs z.cells.toList = true) (hzl : zs.length = P.cellsOf e) (hr : mksliceA h sh bytes zs x y = some (r, h')) (hx : Rep w β Z vx x) (hy : Rep w β Z vy y) {moved : Ct} (hi : Inv B0 X β Z h w moved) :
    ∃ w' v β', (Instr.makeSlice t vx vy).run P w = .ok v w' ∧ Post B0 X β Z h w β' Z h' w' r v ∧ ∀ b, b < h.length → β' b = β b := by
  unfold mksliceA at hr
  split at hr
  · cases hx; cases hy
    rename_i k1 l k2 c
    split at hr
    · rename_i hc
      obtain ⟨hl0, hlc, hcb, hcr⟩ := hc
      injection hr with hr; injection hr with q1 q2; subst q1; subst q2
      have hu := elemOf_spec he
      obtain ⟨inf, hinf1⟩ := Option.isSome_iff_exists.1 hinf
      have hinf2 : P.bytesOf e = inf.bytes := by simp [Program.bytesOf, hinf1]
      have hrm : roomMax = 70368744177664 := rfl
      have hwl : IntKind.i64.wrap l = l := by rw [IntKind.wrap_i64]; omega
      have hwc : IntKind.i64.wrap c = c := by rw [IntKind.wrap_i64]; omega
      obtain ⟨cn, rfl⟩ := Int.eq_ofNat_of_zero_le (by omega : 0 ≤ c)
      obtain ⟨ln, rfl⟩ := Int.eq_ofNat_of_zero_le hl0
      have hln : ln ≤ cn := by omega
      obtain ⟨g1, g2, g3⟩ := flat_replicate_zero (w := w) (β := β) (Z := Z) (zs := List.replicate cn (.agg zs)) (z := z) (sz := P.cellsOf e) hpos (fun x hx => by
        rw [(List.mem_replicate.1 hx).2]; exact ⟨hzs, hzl⟩)
      rw [List.length_replicate] at g1 g3
      have hfl : flat (List.replicate cn (AV.agg zs)) = (List.replicate cn zs).flatten := by
        simp [flat, List.flatMap_replicate, AV.cells]
      rw [hfl] at g1 g2 g3
      have hbz : AV.bndL (List.replicate cn zs).flatten = 0 := by
        have h0 := bndL_ckCL w hzs
        have : AV.bndL (List.replicate cn zs).flatten ≤ 0 := AV.bndL_le.2 fun x hx => by
          obtain ⟨l, hl, hxl⟩ := List.mem_flatten.1 hx
          rw [(List.mem_replicate.1 hl).2] at hxl
          have := AV.bnd_mem hxl
          omega
        omega
      have hnone : β h.length = none := by
        cases e : β h.length with
        | none => rfl
        | some blk => have := (hi.box _ _ e).1; omega
      have hs := hi.snoc
      generalize hcells : (Array.range (cn * P.cellsOf e)).map (fun i => z.cells[i % z.cells.size]!) = cells at g1 g3
      have e1 : (h ++ [Box.hid]).set h.length (.row (List.replicate cn zs).flatten) = h ++ [.row (List.replicate cn zs).flatten] := by simp
      obtain ⟨i1, i2⟩ := hs.newBox (own := fun _ _ => 0) (b := h.length) (cs := (List.replicate cn zs).flatten) (w' := pushed w cells e) (by simp) hnone (fun cs => by simp) (c := cells) (t := e) rfl g1 g2 (by rw [hbz]; exact Nat.zero_le _) (fun k o => by rw [g3]; omega)
      rw [e1] at i1
      have hrep : ∀ (w' : World), Rep w' (updB β h.length w.heap.size) Z (.slice (some ⟨w.heap.size, 0, none⟩) ln cn) (.ms h.length 0 ln sh ((ln : Int) == (cn : Int))) := by
        intro w'
        by_cases h0 : ln = 0
        · subst h0
          exact .msz _ (by simp [updB]; rfl) (fun hh => by simp at hh; omega)
        · exact .ms 0 (by simp [updB]) (by omega) hln (fun hh => by simp at hh; omega)
      refine ⟨pushed w cells e, .slice (some ⟨w.heap.size, 0, none⟩) ln cn, updB β h.length w.heap.size, ?_, ⟨by simpa using hrep _, i1.weaken (fun k o => by simp [mu]), ext_push hi rfl rfl rfl rfl (fun b _ blk he => by rw [i2 b (by rw [he]; simp)]; exact he), by simp⟩, fun b hlt => by simp [updB]; intro e; omega⟩
      have hbytes : (cn : Int) * (bytes : Int) ≤ 70368744177664 := Int.le_trans hcb (by rw [hrm]; decide)
      have h48 : (2 : Int) ^ 48 = 281474976710656 := by decide
      have hbi : (inf.bytes : Int) * (cn : Int) ≤ 70368744177664 := by
        have e2 : (inf.bytes : Int) * (cn : Int) = (cn : Int) * (bytes : Int) := by rw [← hby, hinf2]; exact Int.mul_comm _ _
        rw [e2]; exact hbytes
      have hcn : (cn : Int) * (P.cellsOf e : Int) = ((cn * P.cellsOf e : Nat) : Int) := by simp
      unfold Instr.makeSlice
      simp only [Sem.run_bind, run_underlying hu, Result.andThen_ok, asInt, asIntOf, Sem.run_pure, run_typeInfo hinf1, hwl, hwc]
      have hcond : ¬ ((decide ((cn : Int) < 0) || decide ((inf.bytes : Int) * (cn : Int) > 2 ^ 48) || decide ((ln : Int) < 0) || decide ((ln : Int) > (cn : Int))) = true) := by
        simp only [h48, Bool.or_eq_true, decide_eq_true_eq]; omega
      rw [if_neg hcond]
      simp only [Sem.run_bind, Sem.run_pure, Result.andThen_ok, run_askRoom, run_sizeOf hinf, Int.toNat_natCast]
      by_cases h0 : cn * P.cellsOf e = 0
      · have hc0 : cells = #[] := by rw [← hcells, h0]; simp
        simp only [h0, if_true, Sem.run_bind, Sem.run_pure, Result.andThen_ok, newRow, run_newObj, hc0]
        simp [pushed, show Array.range 0 = #[] from rfl]
      · simp only [h0, if_false, Sem.run_bind, Sem.run_pure, Result.andThen_ok, run_zeroValue hz, newRow, run_newObj, hcells]
        rfl
    · simp at hr
  · simp at hr

theorem flat_take {els : List AV} (n : Nat) : flat els = flat (els.take n) ++ flat (els.drop n) := by rw [← flat_append, List.take_append_drop]

/-- The first elements of a row, as cells. -/
theorem run_firstFew {sz : Nat} {own : Bool} {ys : List AV} {vy : Value} (hy : Rep w β Z vy (.sl own sz ys)) (n : Nat) (hn : n ≤ ys.length) :
    ∃ a : Array Value, (Builtin.lenOf vy).run P w = .ok ys.length w ∧ (Builtin.firstCells sz n vy).run P w = .ok a w ∧ RepL w β Z a.toList (flat (ys.take n)) ∧ (∀ x ∈ ys, x.cells.length = sz) ∧ (∀ c ∈ flat ys, c.cellOk = true) := by
  cases hy with
  | slz base cap _ _ ho =>
    have h0 : n = 0 := by simpa using hn
    subst h0
    refine ⟨#[], by simp [Builtin.lenOf], ?_, by simpa [flat] using RepL.nil, by simp, by simp [flat]⟩
    cases base <;> simp [Builtin.firstCells, loadCells, loadCellsFrom]
  | sl f q1 q2 qc q3 q4 q5 q6 q7 q8 =>
    rename_i a cap
    have ha : a = ⟨a.block, a.off, none⟩ := by cases a; simp at q1; simp [q1]
    have hq : ∀ x ∈ ys.take n, x.cells.length = sz := fun x hx => q4 x (List.mem_of_mem_take hx)
    have hfl : (flat (ys.take n)).length = n * sz := by rw [flat_length hq, List.length_take, Nat.min_eq_left hn]
    have hle : (flat (ys.take n)).length ≤ (flat ys).length := by rw [flat_take (els := ys) n, List.length_append]; omega
    have hl := run_loadCells (P := P) w a (n * sz) f (fun j hj => by rw [ha, addr_add]; exact q6 j (by omega))
    refine ⟨_, by simp [Builtin.lenOf], by simpa [Builtin.firstCells] using hl, ⟨by simp [hfl], fun i h1 h2 => ?_⟩, q4, q5⟩
    have := q8 i (by omega)
    have e : (flat ys)[i]'(by omega) = (flat (ys.take n))[i] := by
      have h3 : (flat ys)[i]? = (flat (ys.take n))[i]? := by rw [flat_take (els := ys) n, List.getElem?_append_left h2]
      rw [List.getElem?_eq_getElem (by omega), List.getElem?_eq_getElem h2] at h3
      exact Option.some.inj h3
    rw [e] at this
    simpa using this

theorem RepL.erase {xs : List Value} {cs : List AV} (h : RepL w β Z xs cs) : RepL w β Z xs (AV.eraseL cs) := by
  refine ⟨by simp [AV.eraseL_eq, h.1], fun i h1 h2 => ?_⟩
  rw [eraseL_get h2]
  exact (h.2 i h1 _).erase

theorem sound_copy {argTypes : Array TypeId} {ty t el : TypeId} {sz : Nat} {x y r : AV} {vx vy : Value} {h' : Heap} (ht : argTypes[0]? = some t) (he : elemOf? P t = some el) (hinf : (P.info? el).isSome = true) (hsz : P.cellsOf el = sz) (hr : copyA h sz x y = some (r, h')) (hx : Rep w β Z vx x) (hy : Rep w β Z vy y)
    {moved : Ct} (hi : Inv B0 X β Z h w moved) :
    ∃ w' v, (Builtin.copy_ argTypes ty #[vx, vy]).run P w = .ok v w' ∧ Post B0 X β Z h w β Z h' w' r v := by
  have hu := elemOf_spec he
  unfold copyA at hr
  split at hr
  · rename_i b off n sh tight own z ys
    split at hr
    · rename_i hc
      obtain ⟨hc1, rfl⟩ := hc
      split at hr
      · rename_i cs hcs
        split at hr
        · rename_i hc2
          obtain ⟨hc2, hc3⟩ := hc2
          injection hr with hr; injection hr with q1 q2; subst q1; subst q2
          obtain ⟨arr, a1, a2, a3, a4, a5⟩ := run_firstFew (P := P) hy (min ys.length n) (Nat.min_le_left _ _)
          have hta : ys.take (min ys.length n) = ys.take n := by
            rw [Nat.min_comm, ← List.take_take, List.take_length]
          rw [hta] at a3
          have hff : flatA (ys.take n) = flat (ys.take n) := rfl
          rw [hff]
          have hq : ∀ x ∈ ys.take n, x.cells.length = z := fun x hx => a4 x (List.mem_of_mem_take hx)
          have hfl : (flat (ys.take n)).length = min n ys.length * z := by rw [flat_length hq, List.length_take]
          have hok : ∀ c ∈ flat (ys.take n), c.cellOk = true := fun c hc => a5 c (by rw [flat_take (els := ys) n]; exact List.mem_append_left _ hc)
          cases hx with
          | ms _ hb h0 hcap htt =>
            rename_i blk cap
            obtain ⟨s1, s2⟩ := store_cells (P := P) (b := b) (off := off) (xs := AV.eraseL (flat (ys.take n))) (vs := arr.toList) hcs hb a3.erase (fun d hd => by
                rw [AV.eraseL_eq] at hd
                obtain ⟨c, hc, rfl⟩ := List.mem_map.1 hd
                rw [AV.erase_cellOk]; exact hok c hc) (by
                rw [AV.eraseL_eq, List.length_map, hfl]
                have : min n ys.length * z ≤ n * z := Nat.mul_le_mul_right _ (Nat.min_le_left _ _)
                omega) (by
                rw [AV.bndL_erase, bndL_flat hok]
                refine AV.bndL_le.2 fun c hc => ?_
                exact Nat.le_trans (AV.bnd_mem (List.mem_of_mem_take hc)) hc3) hi (fun k o => by rw [muL_erase]; exact Nat.zero_le _)
            refine ⟨w.setCells blk off arr.toList, goInt ((min ys.length n : Nat) : Int), ?_, ⟨.int _ _, s2.inv.weaken (fun k o => by simp [mu]), s2.ext, s2.len⟩⟩
            unfold Builtin.copy_
            simp [ht, run_underlying hu, a1, run_sizeOf hinf, hsz, a2, s1]
          | msz base hb htt =>
            rename_i blk cap off'
            have hh : h.set b (.row (splice cs off (AV.eraseL (flat (ys.take 0))))) = h := by
              have e1 : splice cs off (AV.eraseL (flat (ys.take 0))) = cs := by simp [splice, flat, AV.eraseL]
              rw [e1]
              apply List.ext_getElem?
              intro i
              by_cases hib : b = i
              · subst hib
                rw [List.getElem?_set_self (List.getElem?_eq_some_iff.1 hcs).1, hcs]
              · rw [List.getElem?_set_ne hib]
            rw [hh]
            refine ⟨w, goInt ((min ys.length 0 : Nat) : Int), ?_, ⟨.int _ _, hi.weaken (fun k o => by simp [mu]), Ext.refl .., Nat.le_refl _⟩⟩
            have har : arr.toList = [] := by
              have := a3.1
              simpa [flat] using this
            have a2' : (Builtin.firstCells z 0 vy).run P w = .ok arr w := by simpa using a2
            unfold Builtin.copy_
            cases base <;> simp [ht, run_underlying hu, a1, run_sizeOf hinf, hsz, a2', har, storeCells]
        · simp at hr
      · simp at hr
    · simp at hr
  · simp at hr
end
end Go.Proofs.YtfihinodhhhllaaGreat
