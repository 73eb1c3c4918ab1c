/- One operation of the machine gives what the small code's operation gives. -/
import Derived.Test.YtfihinodhhhllaaGreatIvMs
set_option linter.unusedVariables false
set_option linter.unusedSimpArgs false
set_option linter.unusedVariables false
namespace Go.Proofs.YtfihinodhhhllaaGreat
open Go
section
variable {P : Program} {w : World} {β : Bt} {Z : Ct} {h : Heap} {B0 : Nat} {X : Ct} {e : Env} {a : Act}

/-- Boxes stay where they lie, and what is hidden stays hidden. -/
def Keep (h h' : Heap) (β β' : Bt) : Prop := ∀ b, b < h.length → β' b = β b ∧ (h[b]? = some .hid → h'[b]? = some .hid)
theorem Keep.refl (h : Heap) (β : Bt) : Keep h h β β := fun _ _ => ⟨rfl, id⟩
theorem storeA_hid {h h' : Heap} {n : Option Nat} {a x : AV} (hs : storeA h n a x = some h') (b : Nat) (hb : h[b]? = some .hid) : h'[b]? = some .hid := by
  unfold storeA at hs
  split at hs
  · rename_i b' off
    split at hs
    · rename_i cs hcs
      split at hs
      · injection hs with hs; subst hs
        have : b' ≠ b := by rintro rfl; rw [hb] at hcs; simp at hcs
        rw [List.getElem?_set_ne this]; exact hb
      · simp at hs
    · simp at hs
  · simp at hs
theorem takeAt_hid {h : Heap} {n : Option Nat} {a : AV} (b : Nat) (hb : h[b]? = some .hid) : (takeAt h n a)[b]? = some .hid := by
  unfold takeAt
  split
  · rename_i b' off
    split
    · rename_i cs hcs
      have : b' ≠ b := by rintro rfl; rw [hb] at hcs; simp at hcs
      rw [List.getElem?_set_ne this]; exact hb
    · exact hb
  · exact hb

/-- What is to be shown of an operation. -/
def OpOK (P : Program) (B0 : Nat) (X : Ct) (β : Bt) (Z : Ct) (h : Heap) (w : World) (s : Sem Next) (h' : Heap) (x : AV) : Prop :=
  ∃ β' Z' w' v, (s.run P w = .ok (.value v) w' ∨ (s.run P w = .ok .skip w' ∧ v = Go.undef)) ∧ Post B0 X β Z h w β' Z' h' w' x v ∧ Keep h h' β β'

theorem OpOK.val {moved : Ct} (hi : Inv B0 X β Z h w moved) {s : Sem Next} {x : AV} {v : Value} (hr : s.run P w = .ok (.value v) w) (hx : Rep w β Z v x) (hm : ∀ k o, mu x v k o ≤ moved k o) : OpOK P B0 X β Z h w s h x :=
  ⟨β, Z, w, v, .inl hr, Post.val hi hx hm, Keep.refl h β⟩

theorem movedL_of_mem {x : Od} {l : List Od} (hx : x ∈ l) (e : Env) (ts : Array Value) (k o : Nat) : movedL [x] e ts k o ≤ movedL l e ts k o := by
  induction l with
  | nil => simp at hx
  | cons y l ih =>
    have hc := movedL_cons y l e ts k o
    rcases List.mem_cons.1 hx with rfl | hx
    · omega
    · have := ih hx; omega

theorem ckOds_rep (henv : ∀ t, Rep w β Z (a.tmps.getD t Go.undef) (e.get t)) : ∀ (xs : List Od) (ys : List Operand), ckOds xs ys = true → RepL w β Z (ys.map a.eval) (xs.map (Od.ev e)) ∧ ∀ k o, muL (xs.map (Od.ev e)) (ys.map a.eval) k o ≤ movedL xs e a.tmps k o
  | [], [], _ => ⟨RepL.nil, fun k o => by simp [muL]⟩
  | [], _ :: _, h => by simp [ckOds] at h
  | _ :: _, [], h => by simp [ckOds] at h
  | x :: xs, y :: ys, h => by
    simp [ckOds] at h
    obtain ⟨q1, q2⟩ := ckOds_rep henv xs ys h.2
    refine ⟨RepL.cons (ckOd_rep henv h.1) q1, fun k o => ?_⟩
    rw [movedL_cons]
    have := ckOd_mu (e := e) (a := a) h.1 k o
    have := q2 k o
    simp only [List.map_cons, muL]
    omega

theorem ckOdO_rep (henv : ∀ t, Rep w β Z (a.tmps.getD t Go.undef) (e.get t)) {x : Option Od} {y : Option Operand} (h : ckOdO x y = true) : RepO w β Z (y.map a.eval) (x.map (Od.ev e)) := by
  cases x <;> cases y <;> simp [ckOdO] at h
  · exact .none
  · exact .some (ckOd_rep henv h)

theorem ckParts_spec (henv : ∀ t, Rep w β Z (a.tmps.getD t Go.undef) (e.get t)) {t : TypeId} : ∀ (ps : List (Nat × Nat × Od)) (qs : List (Nat × Operand)), ckParts P t ps qs = true →
    ps.length = qs.length ∧ (∀ i (h1 : i < ps.length) (h2 : i < qs.length), (∃ f, fieldAt? P t qs[i].1 = some f ∧ f.offset = ps[i].1 ∧ (P.info? f.type).isSome = true ∧ P.cellsOf f.type = ps[i].2.1) ∧ Rep w β Z (a.eval qs[i].2) (ps[i].2.2.ev e)) ∧
    ∀ k o, muL (ps.map fun p => p.2.2.ev e) (qs.map fun q => a.eval q.2) k o ≤ movedL (ps.map (·.2.2)) e a.tmps k o
  | [], [], _ => ⟨rfl, by simp, fun k o => by simp [muL]⟩
  | [], _ :: _, h => by simp [ckParts] at h
  | _ :: _, [], h => by simp [ckParts] at h
  | (off, n, x) :: ps, (i, y) :: qs, h => by
    simp only [ckParts, Bool.and_eq_true] at h
    obtain ⟨⟨h1, h2⟩, h3⟩ := h
    obtain ⟨q1, q2, q3⟩ := ckParts_spec henv ps qs h3
    refine ⟨by simp [q1], fun j j1 j2 => ?_, fun k o => ?_⟩
    · cases j with
      | zero =>
        refine ⟨?_, ckOd_rep henv h2⟩
        split at h1
        · rename_i f hf
          simp at h1
          exact ⟨f, hf, h1.1.1, h1.1.2, h1.2⟩
        · simp at h1
      | succ j => exact q2 j (by simpa using j1) (by simpa using j2)
    · simp only [List.map_cons, muL]
      rw [movedL_cons]
      have := ckOd_mu (e := e) (a := a) h2 k o
      have := q3 k o
      omega
theorem ckParts2_spec (henv : ∀ t, Rep w β Z (a.tmps.getD t Go.undef) (e.get t)) : ∀ (ps : List (Nat × Od)) (qs : List (Nat × Operand)), ckParts2 ps qs = true →
    ps.length = qs.length ∧ (∀ i (h1 : i < ps.length) (h2 : i < qs.length), qs[i].1 = ps[i].1 ∧ Rep w β Z (a.eval qs[i].2) (ps[i].2.ev e))
  | [], [], _ => ⟨rfl, by simp⟩
  | [], _ :: _, h => by simp [ckParts2] at h
  | _ :: _, [], h => by simp [ckParts2] at h
  | (i, x) :: ps, (j, y) :: qs, h => by
    simp only [ckParts2, Bool.and_eq_true] at h
    obtain ⟨⟨h1, h2⟩, h3⟩ := h
    obtain ⟨q1, q2⟩ := ckParts2_spec henv ps qs h3
    refine ⟨by simp [q1], fun k k1 k2 => ?_⟩
    cases k with
    | zero => exact ⟨by simpa using (by simpa using h1 : i = j).symm, ckOd_rep henv h2⟩
    | succ k => exact q2 k (by simpa using k1) (by simpa using k2)

theorem mu_fn (f : Nat) (cs : List AV) (v : Value) (k o : Nat) : mu (.fn f cs) v k o = 0 := by simp [mu]

/-- Building a struct. -/
theorem sound_build (henv : ∀ t, Rep w β Z (a.tmps.getD t Go.undef) (e.get t)) {t : TypeId} {zs ds : List AV} {z : Value} (hs : isStruct P t = true) (hz : zeroOf P t = some z) (hzs : ckCL zs z.cells.toList = true) {ps : List (Nat × Nat × Od)} {qs : Array (Nat × Operand)} (hck : ckParts P t ps qs.toList = true)
    (hf : fillA zs (ps.map fun p => (p.1, p.2.1, p.2.2.ev e)) = some ds) :
    ∃ v, (Instr.build t (qs.map fun (i, x) => (i, a.eval x))).run P w = .ok v w ∧ Rep w β Z v (.agg ds) ∧ ∀ k o, mu (.agg ds) v k o ≤ movedL (ps.map (·.2.2)) e a.tmps k o := by
  obtain ⟨p1, p2, p3⟩ := ckParts_spec henv ps qs.toList hck
  obtain ⟨z1, z2, z3, z4⟩ := ckCL_rep (w := w) (β := β) (Z := Z) zs z.cells.toList hzs
  cases hu : P.underlying t with
  | none => simp [isStruct, hu] at hs
  | some d =>
    cases d <;> simp [isStruct, hu] at hs
    rename_i fs
    have hmap := run_mapM_array (P := P) (w := w) (fun f : Field => (do pure (f.offset, ← sizeOf f.type) : Sem (Nat × Nat))) (fun f => (f.offset, P.cellsOf f.type)) fs (fun f hf => by
      obtain ⟨i, hi, rfl⟩ := List.getElem_of_mem hf
      simp [run_sizeOf (hs i (by simpa using hi))])
    obtain ⟨ys, y1, y2, y3, y4⟩ := sound_fill (w := w) (β := β) (Z := Z) (fun i => (fs.map (fun f => (f.offset, P.cellsOf f.type)))[i]?) (ps.map fun p => (p.1, p.2.1, p.2.2.ev e)) (qs.map fun (i, x) => (i, a.eval x)).toList zs ds z.cells (by simpa using p1) (fun i h1 h2 => by
      simp at h1
      have h2' : i < qs.toList.length := by simpa using h2
      obtain ⟨⟨f, f1, f2, f3, f4⟩, f5⟩ := p2 i h1 h2'
      obtain ⟨fs', g1, g2⟩ := fieldAt_spec f1
      rw [hu] at g1
      injection g1 with g1; injection g1 with g1; subst g1
      simp at g2 f5
      simp [g2, f2, f4, f5]) ⟨z1, z3⟩ z2 hf
    refine ⟨.agg ys, ?_, ?_, fun k o => ?_⟩
    · simp only [Instr.build, Sem.run_bind, run_zeroValue hz, Result.andThen_ok, run_underlying hu, hmap, y1, Sem.run_pure]
    · have := y2.agg y3
      simpa using this
    · have h1 := y4 k o
      have h2 := p3 k o
      have h3 := z4 k o
      simp only [List.map_map, Array.toList_map] at h1
      simp only [mu]
      have e1 : ((fun x : Nat × Nat × AV => x.2.2) ∘ fun p : Nat × Nat × Od => (p.1, p.2.1, p.2.2.ev e)) = fun p => p.2.2.ev e := rfl
      have e2 : ((fun x : Nat × Value => x.2) ∘ fun x : Nat × Operand => (x.1, a.eval x.2)) = fun q => a.eval q.2 := rfl
      rw [e1] at h1
      have h1' : muL ds ys.toList k o ≤ muL zs z.cells.toList k o + muL (ps.map fun p => p.2.2.ev e) (qs.toList.map fun q => a.eval q.2) k o := h1
      omega

theorem muL_splice_eq {cs xs : List AV} {vs us : List Value} {off : Nat} (h1 : vs.length = cs.length) (h2 : us.length = xs.length) (k o : Nat) :
    muL (splice cs off xs) (vs.take off ++ us ++ vs.drop (off + us.length)) k o = muL (cs.take off) (vs.take off) k o + muL xs us k o + muL (cs.drop (off + xs.length)) (vs.drop (off + us.length)) k o := by
  unfold splice
  rw [muL_append (by simp [h1, h2]), muL_append (by simp [h1])]
/-- What is read out of a box with its right. -/
theorem sound_take {t : TypeId} {n : Option Nat} (hn : shapeN P t = some n) {b off : Nat} {x : AV} {va : Value} (hl : loadA h n (.ptr b off) = some x) (ha : Rep w β Z va (.ptr b off)) {moved : Ct} (hi : Inv B0 X β Z h w moved) :
    ∃ v, (Instr.loadAt t va).run P w = .ok v w ∧ Post B0 X β Z h w β Z (takeAt h n (.ptr b off)) w x v := by
  obtain ⟨v, v1, v2, v3⟩ := sound_load (P := P) hn hl ha hi.row (fun b cs hx => (hi.old b cs hx).2)
  refine ⟨v, v1, ?_⟩
  have hl0 := hl
  unfold loadA at hl
  simp only at hl
  split at hl
  · rename_i cs hcs
    cases ha with
    | ptr _ hb =>
      rename_i blk
      have h3 := v3 b off cs blk rfl hcs hb
      have hlen : off + ((cs.drop off).take (n.getD 1)).length ≤ cs.length ∧ ((cs.drop off).take (n.getD 1)).length = n.getD 1 := by
        cases n with
        | none =>
          simp only [partA] at hl
          have := (List.getElem?_eq_some_iff.1 hl).1
          simp; omega
        | some m =>
          simp only [partA] at hl
          split at hl
          · simp; omega
          · simp at hl
      have hel : (AV.eraseL ((cs.drop off).take (n.getD 1))).length = n.getD 1 := by rw [AV.eraseL_eq, List.length_map]; exact hlen.2
      have hsl : (splice cs off (AV.eraseL ((cs.drop off).take (n.getD 1)))).length = cs.length := splice_length _ _ _ (by omega)
      simp only [takeAt, hcs]
      have hok := (hi.old b cs hcs).2
      have hinv : Inv B0 X β Z (h.set b (.row (splice cs off (AV.eraseL ((cs.drop off).take (n.getD 1)))))) w (mu x v) := by
        refine (hi.weaken (own' := fun _ _ => 0) (fun _ _ => Nat.zero_le _)).boxSet hcs hb hsl (fun k o _ => rfl) (fun k o => rfl) rfl (fun j hj => ?_) (fun k o => ?_) (bndL_splice (hi.old b cs hcs).1 ?_) (ok_splice hok ?_)
        · have hj' : j < cs.length := by omega
          obtain ⟨u, u1, u2⟩ := hi.row b cs blk hcs hb j hj'
          refine ⟨u, u1, ?_⟩
          have hg := splice_get cs off (AV.eraseL ((cs.drop off).take (n.getD 1))) (by omega) j
          by_cases hin : off ≤ j ∧ j < off + (AV.eraseL ((cs.drop off).take (n.getD 1))).length
          · have hg2 : (AV.eraseL ((cs.drop off).take (n.getD 1)))[j - off]? = some (cs[j]).erase := by
              rw [AV.eraseL_eq, List.getElem?_map, List.getElem?_take_of_lt (by omega), List.getElem?_drop, show off + (j - off) = j by omega, List.getElem?_eq_getElem hj']
              rfl
            rw [if_pos hin, hg2, List.getElem?_eq_getElem hj] at hg
            injection hg with hg
            rw [hg]
            exact u2.erase
          · rw [if_neg hin, List.getElem?_eq_getElem hj', List.getElem?_eq_getElem hj] at hg
            injection hg with hg
            rw [hg]; exact u2
        · have hc1 := muL_take_drop (cs := cs) (xs := cellsAt w blk cs.length) (cellsAt_length ..) off k o
          have hc2 := muL_take_drop (cs := cs.drop off) (xs := (cellsAt w blk cs.length).drop off) (by simp [cellsAt_length]) (n.getD 1) k o
          have he := muL_splice_eq (cs := cs) (xs := AV.eraseL ((cs.drop off).take (n.getD 1))) (vs := cellsAt w blk cs.length) (us := ((cellsAt w blk cs.length).drop off).take (n.getD 1)) (off := off) (cellsAt_length ..) (by rw [hel]; simp [cellsAt_length]; omega) k o
          have e1 : (cellsAt w blk cs.length).take off ++ ((cellsAt w blk cs.length).drop off).take (n.getD 1) ++ (cellsAt w blk cs.length).drop (off + (((cellsAt w blk cs.length).drop off).take (n.getD 1)).length) = cellsAt w blk cs.length := by
            have l2 : (((cellsAt w blk cs.length).drop off).take (n.getD 1)).length = n.getD 1 := by simp [cellsAt_length]; omega
            rw [l2, ← List.drop_drop, List.append_assoc, List.take_append_drop, List.take_append_drop]
          rw [e1, muL_erase] at he
          have l2 : (((cellsAt w blk cs.length).drop off).take (n.getD 1)).length = n.getD 1 := by simp [cellsAt_length]; omega
          rw [hel, l2, ← List.drop_drop, ← List.drop_drop] at he
          have := h3 k o
          omega
        · rw [AV.bndL_erase]
          refine AV.bndL_le.2 fun y hy => ?_
          exact Nat.le_trans (AV.bnd_mem (List.mem_of_mem_drop (List.mem_of_mem_take hy))) (hi.old b cs hcs).1
        · intro c hc
          rw [AV.eraseL_eq] at hc
          obtain ⟨c', hc', rfl⟩ := List.mem_map.1 hc
          rw [AV.erase_cellOk]
          exact hok c' (List.mem_of_mem_drop (List.mem_of_mem_take hc'))
      exact ⟨v2, hinv, Ext.refl .., by simp⟩
  · simp at hl

theorem strOf_spec {els : List AV} {l : List UInt8} (h : strOf els = some l) : els.length = l.length ∧ ∀ i (h1 : i < els.length) (h2 : i < l.length), ∃ n, els[i] = .int .u8 n ∧ l[i] = UInt8.ofNat n.toNat := by
  induction els generalizing l with
  | nil => simp [strOf] at h; subst h; simp
  | cons x r ih =>
    unfold strOf at h
    split at h
    · simp at *
    · rename_i n r' he
      injection he with e1 e2
      subst e1; subst e2
      obtain ⟨l', hl', rfl⟩ := Option.map_eq_some_iff.1 h
      obtain ⟨q1, q2⟩ := ih hl'
      refine ⟨by simp [q1], fun i h1 h2 => ?_⟩
      cases i with
      | zero => exact ⟨n, rfl, rfl⟩
      | succ i => exact q2 i (by simpa using h1) (by simpa using h2)
    · simp at h

theorem run_pushBytes (w : World) (P : Program) : ∀ (cs : List Value) (l : List UInt8) (acc : ByteArray), cs.length = l.length → (∀ i (h1 : i < cs.length) (h2 : i < l.length), ∃ n : Int, cs[i] = .int .u8 n ∧ l[i] = UInt8.ofNat n.toNat) →
    (forIn (m := Sem) cs acc (fun c s => match c with
      | .int .u8 n => pure (ForInStep.yield (s.push (UInt8.ofNat n.toNat)))
      | _ => stuck "bytesToString: byte expected")).run P w = .ok ⟨(acc.data.toList ++ l).toArray⟩ w
  | [], [], acc, _, _ => by simp
  | [], _ :: _, _, hl, _ => by simp at hl
  | _ :: _, [], _, hl, _ => by simp at hl
  | c :: cs, b :: l, acc, hl, hp => by
    obtain ⟨n, e1, e2⟩ := hp 0 (by simp) (by simp)
    simp at e1 e2
    subst e1; subst e2
    have ih := run_pushBytes w P cs l (acc.push (UInt8.ofNat n.toNat)) (by simpa using hl) (fun i h1 h2 => hp (i + 1) (by simpa using h1) (by simpa using h2))
    rw [List.forIn_cons]
    simp only [Sem.run_bind, Sem.run_pure, Result.andThen_ok, ih]
    congr 2
    simp [ByteArray.push]
end
end Go.Proofs.YtfihinodhhhllaaGreat
