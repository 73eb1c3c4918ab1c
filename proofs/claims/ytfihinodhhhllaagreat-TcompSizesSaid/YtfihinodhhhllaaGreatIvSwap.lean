/- Operations that touch nothing in common may change places. -/
import Derived.Test.YtfihinodhhhllaaGreatIvLO
set_option linter.unusedVariables false
set_option linter.unusedSimpArgs false
namespace Go.Proofs.YtfihinodhhhllaaGreat
open Go

/-- A callee never takes boxes away. -/
def KLen (K : Callee) : Prop := ∀ f args h r h1, K f args h = some (r, h1) → h.length ≤ h1.length

def EqE (e e' : Env) : Prop := ∀ t, e.get t = e'.get t
theorem EqE.refl (e : Env) : EqE e e := fun _ => rfl
theorem EqE.trans {e e' e'' : Env} (h : EqE e e') (h' : EqE e' e'') : EqE e e'' := fun t => (h t).trans (h' t)
theorem EqE.symm {e e' : Env} (h : EqE e e') : EqE e' e := fun t => (h t).symm

def rds (lo : LO) : List Nat := (lo.op.ods.filterMap fun | .cp t => some t | .mv t => some t | .c _ => none) ++ (match lo.guard with | some (t, _) => [t] | none => [])
def wrs (lo : LO) : List Nat := lo.dst.toList ++ mvs lo.op.ods
def slotsApart (j i : LO) : Bool := (wrs j).all (fun t => !(rds i).contains t && !(wrs i).contains t) && (wrs i).all (fun t => !(rds j).contains t)

section
variable {K : Callee} {base : Nat} {e e' : Env} {h : Heap}

theorem ev_congr {x : Od} {l : List Od} (hx : x ∈ l) (he : ∀ t, t ∈ (l.filterMap fun | .cp t => some t | .mv t => some t | .c _ => none) → e.get t = e'.get t) : x.ev e = x.ev e' := by
  cases x with
  | c y => rfl
  | cp t => simp only [Od.ev]; rw [he t (List.mem_filterMap.2 ⟨_, hx, rfl⟩)]
  | mv t => simp only [Od.ev]; rw [he t (List.mem_filterMap.2 ⟨_, hx, rfl⟩)]

theorem op_congr {op : LOp} (he : ∀ x ∈ op.ods, x.ev e = x.ev e') (m : Nat) : op.run K base e h = op.run K base e' h ∧ touchOf base m e op = touchOf base m e' op := by
  cases op <;> simp only [LOp.ods, List.mem_cons, List.not_mem_nil, or_false, forall_eq_or_imp, forall_eq, List.mem_map, forall_exists_index, and_imp, forall_apply_eq_imp_iff₂] at he
  case build zs ps =>
    have : (ps.map fun p => (p.1, p.2.1, p.2.2.ev e)) = ps.map fun p => (p.1, p.2.1, p.2.2.ev e') := List.map_congr_left fun p hp => by rw [he p hp]
    simp only [LOp.run, touchOf, this, and_self]
  case bslice sz zs ps =>
    have : (ps.map fun p => (p.1, p.2.ev e)) = ps.map fun p => (p.1, p.2.ev e') := List.map_congr_left fun p hp => by rw [he p hp]
    simp only [LOp.run, touchOf, this, and_self]
  case call f xs =>
    have : xs.map (Od.ev e) = xs.map (Od.ev e') := List.map_congr_left he
    simp only [LOp.run, touchOf, this, and_self]
  case callv f xs =>
    have : xs.map (Od.ev e) = xs.map (Od.ev e') := List.map_congr_left he.2
    simp only [LOp.run, touchOf, this, he.1, and_self]
  case mkfn f xs =>
    have : xs.map (Od.ev e) = xs.map (Od.ev e') := List.map_congr_left he
    simp only [LOp.run, touchOf, this, and_self]
  case slice sz x lo hi =>
    have h1 : lo.map (Od.ev e) = lo.map (Od.ev e') := by
      cases lo with
      | none => rfl
      | some y => simp only [Option.map_some]; rw [he.2 y (by simp)]
    have h2 : hi.map (Od.ev e) = hi.map (Od.ev e') := by
      cases hi with
      | none => rfl
      | some y => simp only [Option.map_some]; rw [he.2 y (by simp)]
    simp only [LOp.run, touchOf, he.1, h1, h2, and_self]
  all_goals simp only [LOp.run, touchOf, he, and_self]

theorem usedAll_get_congr : ∀ (l : List Od) (e e' : Env), EqE e e' → EqE (usedAll l e) (usedAll l e')
  | [], e, e', h => h
  | x :: l, e, e', h => by
    simp only [usedAll]
    refine usedAll_get_congr l _ _ ?_
    cases x with
    | c y => exact h
    | cp t => exact h
    | mv t =>
      intro u
      simp only [Od.used, Env.get_cons, h t, h u]
theorem putD_congr {d : Option Nat} {v : AV} (h : EqE e e') : EqE (putD d v e) (putD d v e') := by
  cases d with
  | none => exact h
  | some d => intro t; simp only [putD, Env.get_cons, h t]

theorem wanted_congr {g : Option (Nat × Bool)} (he : ∀ t b, g = some (t, b) → e.get t = e'.get t) : wantedA e g = wantedA e' g := by
  cases g with
  | none => rfl
  | some p => obtain ⟨t, b⟩ := p; simp only [wantedA]; rw [he t b rfl]

/-- The run of an operation hangs on what it reads alone. -/
theorem lo_congr {lo : LO} (he : ∀ t ∈ rds lo, e.get t = e'.get t) (m : Nat) : wantedA e lo.guard = wantedA e' lo.guard ∧ lo.op.run K base e h = lo.op.run K base e' h ∧ lo.touch base m e = lo.touch base m e' := by
  have h1 : wantedA e lo.guard = wantedA e' lo.guard := wanted_congr fun t b hg => he t (by simp [rds, hg])
  have h2 := op_congr (K := K) (base := base) (h := h) (op := lo.op) (e := e) (e' := e') (fun x hx => ev_congr hx fun t ht => he t (by simp only [rds, List.mem_append]; exact .inl ht)) m
  exact ⟨h1, h2.1, by simp only [LO.touch, h1, h2.2]⟩

theorem lo_eqE {lo : LO} (he : EqE e e') {e1 : Env} {h1 : Heap} (hr : lo.run K base e h = some (e1, h1)) : ∃ e1', lo.run K base e' h = some (e1', h1) ∧ EqE e1 e1' ∧ ∀ m, lo.touch base m e = lo.touch base m e' := by
  obtain ⟨c1, c2, _⟩ := lo_congr (K := K) (base := base) (h := h) (lo := lo) (fun t _ => he t) 0
  have c3 := fun m => (lo_congr (K := K) (base := base) (h := h) (lo := lo) (fun t _ => he t) m).2.2
  unfold LO.run at hr ⊢
  rw [c1] at hr
  rw [← c2]
  split at hr
  · rename_i hw
    split at hr
    · rename_i v h2 hop
      injection hr with hr; injection hr with q1 q2
      subst q1; subst q2
      exact ⟨_, rfl, putD_congr (usedAll_get_congr _ _ _ he), c3⟩
    · simp at hr
  · injection hr with hr; injection hr with q1 q2
    subst q1; subst q2
    exact ⟨_, rfl, putD_congr he, c3⟩
  · simp at hr

theorem runOps_eqE : ∀ (l : List LO) {e e' : Env} {h : Heap} (he : EqE e e') {e1 : Env} {h1 : Heap} (hr : runOps K base l e h = some (e1, h1)), ∃ e1', runOps K base l e' h = some (e1', h1) ∧ EqE e1 e1' ∧ touches K base l e h = touches K base l e' h
  | [], e, e', h, he, e1, h1, hr => by
    simp only [runOps] at hr ⊢
    injection hr with hr; injection hr with q1 q2
    subst q1; subst q2
    exact ⟨e', rfl, he, rfl⟩
  | lo :: l, e, e', h, he, e1, h1, hr => by
    simp only [runOps] at hr ⊢
    split at hr
    · rename_i e2 h2 hlo
      obtain ⟨e2', r1, r2, r3⟩ := lo_eqE he hlo
      obtain ⟨e1', s1, s2, s3⟩ := runOps_eqE l r2 hr
      rw [r1]
      refine ⟨e1', s1, s2, ?_⟩
      simp only [touches, hlo, r1, r3, s3]
    · simp at hr

/-! ### effects -/
/-- What an operation does to the boxes. -/
inductive Eff where
  | none
  | rd (b off n : Nat)
  | wr (b off : Nat) (ys : List AV)
  | all (b : Nat) (x : Box)
  | call (n : Nat) (h1 : Heap)
def putRow (h : Heap) (b off : Nat) (ys : List AV) : Heap :=
  match h[b]? with
  | some (.row cs) => h.set b (.row (splice cs off ys))
  | _ => h
def Eff.act : Eff → Heap → Heap
  | .none, g => g
  | .rd _ _ _, g => g
  | .wr b off ys, g => putRow g b off ys
  | .all b x, g => g.set b x
  | .call n h1, g => rejoin g h1 n
def Eff.touch (m : Nat) : Eff → Touch
  | .none => .none
  | .rd b off n => .rd b off n
  | .wr b off ys => .wr b off ys.length
  | .all b _ => .all b
  | .call n _ => .below n m
/-- Rows of one length that are alike in a part. -/
def alikeAt (b off n : Nat) (g h : Heap) : Prop := ∃ cs ds, h[b]? = some (.row cs) ∧ g[b]? = some (.row ds) ∧ ds.length = cs.length ∧ off + n ≤ cs.length ∧ (ds.drop off).take n = (cs.drop off).take n
/-- Two heaps are alike in what an operation looks at. -/
def Eff.like : Eff → Heap → Heap → Prop
  | .none, _, _ => True
  | .rd b off n, g, h => alikeAt b off n g h
  | .wr b off ys, g, h => alikeAt b off ys.length g h
  | .all b _, g, h => g[b]? = h[b]? ∧ b < h.length
  | .call n h1, g, h => g.length = h.length ∧ g.take n = h.take n ∧ h.length ≤ h1.length

theorem partA_like {cs ds : List AV} {off : Nat} {n : Option Nat} (hl : ds.length = cs.length) (he : (ds.drop off).take (n.getD 1) = (cs.drop off).take (n.getD 1)) : partA ds off n = partA cs off n := by
  cases n with
  | none =>
    simp only [partA, Option.getD_none] at he ⊢
    have h1 := congrArg (·[0]?) he
    simpa [List.getElem?_take, List.getElem?_drop] using h1
  | some m => simp only [partA, Option.getD_some] at he ⊢; rw [hl, he]
theorem partA_len {cs : List AV} {off : Nat} {n : Option Nat} {x : AV} (h : partA cs off n = some x) : off + n.getD 1 ≤ cs.length := by
  cases n with
  | none => have := (List.getElem?_eq_some_iff.1 h).1; simp; omega
  | some m =>
    simp only [partA] at h
    split at h
    · simpa
    · simp at h
theorem loadA_eff {n : Option Nat} {b off : Nat} {x : AV} (hl : loadA h n (.ptr b off) = some x) : alikeAt b off (n.getD 1) h h ∧ ∀ g : Heap, alikeAt b off (n.getD 1) g h → loadA g n (.ptr b off) = some x := by
  unfold loadA at hl
  simp only at hl
  split at hl
  · rename_i cs hcs
    refine ⟨⟨cs, cs, hcs, hcs, rfl, partA_len hl, rfl⟩, fun g ⟨cs', ds, h1, h2, h3, h4, h5⟩ => ?_⟩
    rw [hcs] at h1; injection h1 with h1; injection h1 with h1; subst h1
    unfold loadA
    simp only [h2]
    rw [partA_like h3 h5]; exact hl
  · simp at hl
theorem takeAt_eff {n : Option Nat} {b off : Nat} {x : AV} (hl : loadA h n (.ptr b off) = some x) : ∃ ys : List AV, ys.length = n.getD 1 ∧ takeAt h n (.ptr b off) = putRow h b off ys ∧ alikeAt b off (n.getD 1) h h ∧ ∀ g : Heap, alikeAt b off (n.getD 1) g h → takeAt g n (.ptr b off) = putRow g b off ys := by
  have h0 := (loadA_eff hl).1
  unfold loadA at hl
  simp only at hl
  split at hl
  · rename_i cs hcs
    have hlen := partA_len hl
    refine ⟨AV.eraseL ((cs.drop off).take (n.getD 1)), by rw [AV.eraseL_eq]; simp; omega, by simp only [takeAt, putRow, hcs], h0, fun g ⟨cs', ds, h1, h2, h3, h4, h5⟩ => ?_⟩
    rw [hcs] at h1; injection h1 with h1; injection h1 with h1; subst h1
    simp only [takeAt, putRow, h2, h5]
  · simp at hl
theorem loadA_like {n : Option Nat} {a : AV} {g : Heap} (hg : ∀ b off, a ≠ .ptr b off) : loadA g n a = loadA h n a := by
  unfold loadA
  split
  · rename_i b off
    exact absurd rfl (hg b off)
  · rfl
  · rfl
theorem fitsA_len {n : Option Nat} {x : AV} (h : fitsA n x = true) : x.cells.length = n.getD 1 := by
  cases n with
  | none => cases x <;> simp [fitsA, AV.cells] at h ⊢
  | some m => cases x <;> simp [fitsA, AV.cells] at h ⊢; exact h
theorem storeA_eff {n : Option Nat} {a x : AV} {h' : Heap} (hs : storeA h n a x = some h') : ∃ b off ys, a = .ptr b off ∧ ys.length = n.getD 1 ∧ h' = putRow h b off ys ∧ alikeAt b off (n.getD 1) h h ∧ ∀ g : Heap, alikeAt b off (n.getD 1) g h → storeA g n a x = some (putRow g b off ys) := by
  unfold storeA at hs
  split at hs
  · rename_i b off
    split at hs
    · rename_i cs hcs
      split at hs
      · rename_i hc
        injection hs with hs; subst hs
        have hc' := hc
        simp only [Bool.and_eq_true, decide_eq_true_eq] at hc'
        have hlen := fitsA_len hc'.1.1
        refine ⟨b, off, x.cells, rfl, hlen, by simp only [putRow, hcs], ⟨cs, cs, hcs, hcs, rfl, by omega, rfl⟩, fun g ⟨cs', ds, h1, h2, h3, h4, h5⟩ => ?_⟩
        rw [hcs] at h1; injection h1 with h1; injection h1 with h1; subst h1
        rw [← h3] at hc
        simp only [storeA, putRow, h2, hc, if_true]
      · simp at hs
    · simp at hs
  · simp at hs

theorem hidden_like {n : Nat} {g : Heap} (h1 : g.length = h.length) (h2 : g.take n = h.take n) : g.take n ++ List.replicate (g.length - n) .hid = h.take n ++ List.replicate (h.length - n) Box.hid := by rw [h1, h2]

theorem op_eff (hK : KLen K) {op : LOp} {v : AV} {h' : Heap} (hr : op.run K base e h = some (v, h')) (hbase : ∀ k zs, op = .alloc k zs → base + k < h.length) :
    ∃ f : Eff, (∀ m, f.touch m = touchOf base m e op) ∧ h' = f.act h ∧ f.like h h ∧ ∀ g, f.like g h → op.run K base e g = some (v, f.act g) := by
  have pure : (∀ m, touchOf base m e op = .none) → (∀ g, ∃ r : Option AV, op.run K base e g = r.map (·, g) ∧ op.run K base e h = r.map (·, h)) → ∃ f : Eff, (∀ m, f.touch m = touchOf base m e op) ∧ h' = f.act h ∧ f.like h h ∧ ∀ g, f.like g h → op.run K base e g = some (v, f.act g) := by
    intro ht hg
    obtain ⟨r, _, r2⟩ := hg h
    rw [r2] at hr
    obtain ⟨v', hv', hr'⟩ := Option.map_eq_some_iff.1 hr
    injection hr' with q1 q2; subst q1; subst q2
    refine ⟨.none, fun m => by rw [ht]; rfl, rfl, trivial, fun g _ => ?_⟩
    obtain ⟨r', s1, s2⟩ := hg g
    have : r' = some v' := by
      rw [r2, hv'] at s2
      simp only [Option.map_some] at s2
      cases r' with
      | none => simp at s2
      | some z => simp at s2; rw [s2]
    rw [s1, this]; rfl
  cases op
  case load take n a =>
    simp only [LOp.run] at hr
    split at hr
    · rename_i htk
      split at hr
      · rename_i b off hev
        obtain ⟨x, hx, hr⟩ := Option.map_eq_some_iff.1 hr
        injection hr with q1 q2; subst q1; subst q2
        obtain ⟨ys, y0, y1, y2, y3⟩ := takeAt_eff hx
        refine ⟨.wr b off ys, fun m => by simp [Eff.touch, touchOf, hev, htk, y0], y1, by simpa [Eff.like, y0] using y2, fun g hg => ?_⟩
        simp only [Eff.like, y0] at hg
        simp only [LOp.run, htk, if_true, hev]
        rw [(loadA_eff hx).2 g hg, y3 g hg]
        rfl
      · simp at hr
    · rename_i htk
      obtain ⟨x, hx, hr⟩ := Option.map_eq_some_iff.1 hr
      injection hr with q1 q2; subst q1; subst q2
      by_cases hp : ∃ b off, a.ev e = .ptr b off
      · obtain ⟨b, off, hev⟩ := hp
        rw [hev] at hx
        refine ⟨.rd b off (n.getD 1), fun m => by simp [Eff.touch, touchOf, hev, htk], rfl, (loadA_eff hx).1, fun g hg => ?_⟩
        simp only [LOp.run, htk, if_false, hev]
        rw [(loadA_eff hx).2 g hg]
        rfl
      · refine ⟨.none, ?_, rfl, trivial, fun g hg => ?_⟩
        · intro m
          simp only [Eff.touch, touchOf]
          split
          · rename_i b off hev; exact absurd ⟨b, off, hev⟩ hp
          · rfl
        · simp only [LOp.run, htk, if_false]
          rw [loadA_like (h := h) (fun b' off' he => hp ⟨b', off', he⟩), hx]
          rfl
  case store n a x =>
    simp only [LOp.run] at hr
    obtain ⟨h2, hs, hr⟩ := Option.map_eq_some_iff.1 hr
    injection hr with q1 q2; subst q1; subst q2
    obtain ⟨b, off, ys, y0, yl, y1, y2, y3⟩ := storeA_eff hs
    refine ⟨.wr b off ys, fun m => by simp [Eff.touch, touchOf, y0, yl], y1, by simpa [Eff.like, yl] using y2, fun g hg => ?_⟩
    simp only [Eff.like, yl] at hg
    simp only [LOp.run, y3 g hg]
    rfl
  case alloc k zs =>
    simp only [LOp.run] at hr
    injection hr with hr; injection hr with q1 q2; subst q1; subst q2
    exact ⟨.all (base + k) (.row zs), fun _ => rfl, rfl, ⟨rfl, hbase k zs rfl⟩, fun g hg => rfl⟩
  case box x =>
    simp only [LOp.run] at hr
    split at hr
    · rename_i hc
      injection hr with hr; injection hr with q1 q2; subst q1; subst q2
      refine ⟨.call 0 (h ++ [.row (x.ev e).cells]), fun _ => rfl, by simp [Eff.act, rejoin], ⟨rfl, rfl, by simp⟩, fun g hg => ?_⟩
      obtain ⟨g1, g2, g3⟩ := hg
      simp only [LOp.run, g1, hc, and_self, if_true]
      simp [Eff.act, rejoin, g1]
    · simp at hr
  case mkslice sh bytes zs x y =>
    simp only [LOp.run] at hr
    unfold mksliceA at hr
    split at hr
    · rename_i k1 l k2 c hx hy
      split at hr
      · rename_i hc
        injection hr with hr; injection hr with q1 q2; subst q1; subst q2
        refine ⟨.call 0 (h ++ [.row (List.replicate c.toNat zs).flatten]), fun _ => rfl, by simp [Eff.act, rejoin], ⟨rfl, rfl, by simp⟩, fun g hg => ?_⟩
        obtain ⟨g1, g2, g3⟩ := hg
        simp only [LOp.run, mksliceA, hx, hy, if_pos hc, g1]
        simp [Eff.act, rejoin, g1]
      · simp at hr
    · simp at hr
  case copy sz x y =>
    simp only [LOp.run] at hr
    unfold copyA at hr
    split at hr
    · rename_i b off n sh tight own z ys hx hy
      split at hr
      · rename_i hc
        split at hr
        · rename_i cs hcs
          split at hr
          · rename_i hc2
            injection hr with hr; injection hr with q1 q2; subst q1; subst q2
            refine ⟨.all b (.row (splice cs off (AV.eraseL (flatA (ys.take n))))), fun m => by simp [Eff.touch, touchOf, hx], rfl, ⟨rfl, (List.getElem?_eq_some_iff.1 hcs).1⟩, fun g hg => ?_⟩
            simp only [LOp.run, copyA, hx, hy, if_pos hc, hg.1, hcs, if_pos hc2]
            rfl
          · simp at hr
        · simp at hr
      · simp at hr
    · simp at hr
  case call f xs =>
    simp only [LOp.run, callA] at hr
    split at hr
    · rename_i r h1 hk
      injection hr with hr; injection hr with q1 q2; subst q1; subst q2
      have hl := hK _ _ _ _ _ hk
      have hlen : (h.take (AV.bndL (xs.map (Od.ev e))) ++ List.replicate (h.length - AV.bndL (xs.map (Od.ev e))) Box.hid).length = h.length := hidden_length h _
      rw [hlen] at hl
      refine ⟨.call (AV.bndL (xs.map (Od.ev e))) h1, fun _ => rfl, rfl, ⟨rfl, rfl, hl⟩, fun g hg => ?_⟩
      obtain ⟨g1, g2, g3⟩ := hg
      simp only [LOp.run, callA, hidden_like g1 g2, hk]
      rfl
    · simp at hr
  case callv f xs =>
    simp only [LOp.run] at hr
    split at hr
    · rename_i f' caps hev
      simp only [callA] at hr
      split at hr
      · rename_i r h1 hk
        injection hr with hr; injection hr with q1 q2; subst q1; subst q2
        have hl := hK _ _ _ _ _ hk
        have hlen : (h.take (AV.bndL (xs.map (Od.ev e) ++ AV.eraseL caps)) ++ List.replicate (h.length - AV.bndL (xs.map (Od.ev e) ++ AV.eraseL caps)) Box.hid).length = h.length := hidden_length h _
        rw [hlen] at hl
        refine ⟨.call (AV.bndL (xs.map (Od.ev e) ++ AV.eraseL caps)) h1, ?_, rfl, ⟨rfl, rfl, hl⟩, fun g hg => ?_⟩
        · intro m; simp only [Eff.touch, touchOf, hev, AV.bndL, AV.bnd, AV.bndL_append, AV.bndL_erase]
          rw [Nat.max_comm]
        · obtain ⟨g1, g2, g3⟩ := hg
          simp only [LOp.run, hev, callA, hidden_like g1 g2, hk]
          rfl
      · simp at hr
    · simp at hr
  case pick c p q =>
    refine pure (fun _ => rfl) fun g => ?_
    simp only [LOp.run]
    split
    · rename_i t hc; exact ⟨some (if t then p.ev e else q.ev e), rfl, rfl⟩
    · exact ⟨none, rfl, rfl⟩
  case mov x => exact pure (fun _ => rfl) fun g => ⟨some (x.ev e), rfl, rfl⟩
  case mkfn f xs => exact pure (fun _ => rfl) fun g => ⟨some (.fn f (xs.map (Od.ev e))), rfl, rfl⟩
  case build zs ps => exact pure (fun _ => rfl) fun g => ⟨(fillA zs (ps.map fun p => (p.1, p.2.1, p.2.2.ev e))).map .agg, by simp [LOp.run, Option.map_map, Function.comp_def], by simp [LOp.run, Option.map_map, Function.comp_def]⟩
  case bslice sz zs ps => exact pure (fun _ => rfl) fun g => ⟨(fillS zs sz (ps.map fun p => (p.1, p.2.ev e))).map (.sl true sz), by simp [LOp.run, Option.map_map, Function.comp_def], by simp [LOp.run, Option.map_map, Function.comp_def]⟩
  case nilc x =>
    refine pure (fun _ => rfl) fun g => ?_
    simp only [LOp.run]
    split
    · rename_i b off _; exact ⟨some (.ptr b off), rfl, rfl⟩
    · rename_i y off _; exact ⟨some (.ep y off), rfl, rfl⟩
    · rename_i f caps _; exact ⟨some (.fn f caps), rfl, rfl⟩
    · exact ⟨none, rfl, rfl⟩
  case conv k x =>
    refine pure (fun _ => rfl) fun g => ?_
    simp only [LOp.run]
    split
    · exact ⟨some _, rfl, rfl⟩
    · exact ⟨none, rfl, rfl⟩
  case strStr x =>
    refine pure (fun _ => rfl) fun g => ?_
    simp only [LOp.run]
    split
    · exact ⟨some _, rfl, rfl⟩
    · exact ⟨none, rfl, rfl⟩
  case bytesStr x =>
    refine pure (fun _ => rfl) fun g => ?_
    simp only [LOp.run]
    split
    · rename_i own sz els _; exact ⟨(strOf els).map .str, by simp [Option.map_map, Function.comp_def], by simp [Option.map_map, Function.comp_def]⟩
    · exact ⟨none, rfl, rfl⟩
  case strBytes x =>
    refine pure (fun _ => rfl) fun g => ?_
    simp only [LOp.run]
    split
    · exact ⟨some _, rfl, rfl⟩
    · exact ⟨none, rfl, rfl⟩
  case faddr x off =>
    refine pure (fun _ => rfl) fun g => ?_
    simp only [LOp.run]
    split
    · exact ⟨some _, rfl, rfl⟩
    · exact ⟨some _, rfl, rfl⟩
    · exact ⟨none, rfl, rfl⟩
  case field x off n =>
    refine pure (fun _ => rfl) fun g => ?_
    simp only [LOp.run]
    split
    · exact ⟨_, rfl, rfl⟩
    · exact ⟨none, rfl, rfl⟩
  case ext x i =>
    refine pure (fun _ => rfl) fun g => ?_
    simp only [LOp.run]
    split
    · exact ⟨_, rfl, rfl⟩
    · exact ⟨none, rfl, rfl⟩
  all_goals exact pure (fun _ => rfl) fun g => ⟨_, rfl, rfl⟩

theorem set_rejoin {h h1 : Heap} {n b : Nat} {x : Box} (hb : b < h.length) (hn : n ≤ b) (hl : h.length ≤ h1.length) : rejoin (h.set b x) h1 n = (rejoin h h1 n).set b x := by
  unfold rejoin
  have e1 : (h1.take n).length = n := by simp; omega
  rw [List.drop_set, if_neg (by omega), List.length_set, List.append_assoc, List.append_assoc, List.set_append_right _ _ (by omega), e1, List.set_append_left _ _ (by simp; omega)]
theorem rejoin_get_hid {h h1 : Heap} {n b : Nat} (hb : b < h.length) (hn : n ≤ b) (hl : h.length ≤ h1.length) : (rejoin h h1 n)[b]? = h[b]? := by
  rw [rejoin_get (by omega) hl, if_pos ⟨hn, hb⟩]
theorem take_set_ge {h : Heap} {n b : Nat} {x : Box} (hn : n ≤ b) : (h.set b x).take n = h.take n := by
  rw [List.take_set]
  apply List.set_eq_of_length_le
  simp; omega

theorem putRow_length {h : Heap} {b off : Nat} {ys : List AV} : (putRow h b off ys).length = h.length := by
  unfold putRow; split <;> simp
theorem putRow_ne {h : Heap} {b b' off : Nat} {ys : List AV} (hne : b ≠ b') : (putRow h b off ys)[b']? = h[b']? := by
  unfold putRow; split
  · rw [List.getElem?_set_ne hne]
  · rfl
theorem putRow_at {h : Heap} {b off : Nat} {ys cs : List AV} (hx : h[b]? = some (.row cs)) : (putRow h b off ys)[b]? = some (.row (splice cs off ys)) := by
  unfold putRow; rw [hx]; exact List.getElem?_set_self (List.getElem?_eq_some_iff.1 hx).1
theorem putRow_eq {h : Heap} {b off : Nat} {ys cs : List AV} (hx : h[b]? = some (.row cs)) : putRow h b off ys = h.set b (.row (splice cs off ys)) := by unfold putRow; rw [hx]
theorem splice_len {cs ys : List AV} {off : Nat} (hl : off + ys.length ≤ cs.length) : (splice cs off ys).length = cs.length := by simp [splice]; omega
theorem splice_at {cs ys : List AV} {off : Nat} (hl : off + ys.length ≤ cs.length) (i : Nat) : (splice cs off ys)[i]? = if off ≤ i ∧ i < off + ys.length then ys[i - off]? else cs[i]? := splice_get cs off ys hl i
theorem splice_part {cs ys : List AV} {off o k : Nat} (hl : off + ys.length ≤ cs.length) (hd : o + k ≤ off ∨ off + ys.length ≤ o) : ((splice cs off ys).drop o).take k = (cs.drop o).take k := by
  apply List.ext_getElem?
  intro i
  by_cases hi : i < k
  · rw [List.getElem?_take_of_lt hi, List.getElem?_take_of_lt hi, List.getElem?_drop, List.getElem?_drop, splice_at hl, if_neg (by omega)]
  · rw [List.getElem?_eq_none (by simp; omega), List.getElem?_eq_none (by simp; omega)]
theorem splice_comm {cs ys zs : List AV} {off o : Nat} (hl : off + ys.length ≤ cs.length) (hl' : o + zs.length ≤ cs.length) (hd : o + zs.length ≤ off ∨ off + ys.length ≤ o) : splice (splice cs off ys) o zs = splice (splice cs o zs) off ys := by
  have e1 := splice_len hl
  have e2 := splice_len hl'
  apply List.ext_getElem?
  intro i
  rw [splice_at (by omega), splice_at hl, splice_at (by omega), splice_at hl']
  by_cases c1 : o ≤ i ∧ i < o + zs.length
  · rw [if_pos c1, if_neg (by omega), if_pos c1]
  · rw [if_neg c1]
    by_cases c2 : off ≤ i ∧ i < off + ys.length
    · rw [if_pos c2, if_pos c2]
    · rw [if_neg c2, if_neg c2, if_neg c1]

theorem act_length {f : Eff} (hf : f.like h h) : h.length ≤ (f.act h).length ∧ ((∀ n h1, f ≠ .call n h1) → (f.act h).length = h.length) := by
  cases f with
  | none => exact ⟨Nat.le_refl _, fun _ => rfl⟩
  | rd b => exact ⟨Nat.le_refl _, fun _ => rfl⟩
  | wr b off ys => simp [Eff.act, putRow_length]
  | all b x => simp [Eff.act]
  | call n h1 =>
    refine ⟨?_, fun hn => absurd rfl (hn n h1)⟩
    have := hf.2.2
    simp [Eff.act, rejoin]; omega

theorem alike_lt {b off n : Nat} {g h : Heap} (hx : alikeAt b off n g h) : b < h.length := by
  obtain ⟨cs, ds, h1, _⟩ := hx
  exact (List.getElem?_eq_some_iff.1 h1).1
/-- Alike, when the one has changed elsewhere. -/
theorem alike_of {b off n : Nat} {g h : Heap} (hx : alikeAt b off n h h) (he : g[b]? = h[b]?) : alikeAt b off n g h := by
  obtain ⟨cs, ds, h1, h2, h3, h4, h5⟩ := hx
  exact ⟨cs, cs, h1, by rw [he]; exact h1, rfl, h4, rfl⟩
theorem alike_symm {b off n : Nat} {g h : Heap} (hx : alikeAt b off n g h) : alikeAt b off n h g := by
  obtain ⟨cs, ds, h1, h2, h3, h4, h5⟩ := hx
  exact ⟨ds, cs, h2, h1, h3.symm, by omega, h5.symm⟩
theorem alike_put {b off n o : Nat} {ys : List AV} {h : Heap} (hx : alikeAt b off n h h) (hy : alikeAt b o ys.length h h) (hd : off + n ≤ o ∨ o + ys.length ≤ off) : alikeAt b off n (putRow h b o ys) h := by
  obtain ⟨cs, _, h1, _, _, h4, _⟩ := hx
  obtain ⟨cs', _, k1, _, _, k4, _⟩ := hy
  rw [h1] at k1; injection k1 with k1; injection k1 with k1; subst k1
  exact ⟨cs, splice cs o ys, h1, putRow_at h1, splice_len k4, h4, splice_part k4 hd⟩
theorem alike_self {b off n : Nat} {g h : Heap} (hx : alikeAt b off n g h) : alikeAt b off n h h := by
  obtain ⟨cs, ds, h1, h2, h3, h4, h5⟩ := hx
  exact ⟨cs, cs, h1, h1, rfl, h4, rfl⟩
/-- A part that was there after a change elsewhere was there before. -/
theorem alike_back {b off n o : Nat} {ys : List AV} {h : Heap} (hy : alikeAt b o ys.length h h) (hx : alikeAt b off n (putRow h b o ys) (putRow h b o ys)) : alikeAt b off n h h := by
  obtain ⟨cs', _, k1, _, _, k4, _⟩ := hy
  obtain ⟨cs, _, h1, _, _, h4, _⟩ := hx
  rw [putRow_at k1] at h1; injection h1 with h1; injection h1 with h1; subst h1
  rw [splice_len k4] at h4
  exact ⟨cs', cs', k1, k1, rfl, h4, rfl⟩
theorem alike_ne {b b' off n : Nat} {g h : Heap} (he : g[b]? = h[b]?) (hx : alikeAt b off n g g) : alikeAt b off n h h := by
  obtain ⟨cs, _, h1, _, _, h4, _⟩ := hx
  rw [he] at h1
  exact ⟨cs, cs, h1, h1, rfl, h4, rfl⟩
theorem put_put {h : Heap} {b off o : Nat} {ys zs : List AV} (hy : alikeAt b off ys.length h h) (hz : alikeAt b o zs.length h h) (hd : o + zs.length ≤ off ∨ off + ys.length ≤ o) : putRow (putRow h b off ys) b o zs = putRow (putRow h b o zs) b off ys := by
  obtain ⟨cs, _, h1, _, _, h4, _⟩ := hy
  obtain ⟨cs', _, k1, _, _, k4, _⟩ := hz
  rw [h1] at k1; injection k1 with k1; injection k1 with k1; subst k1
  rw [putRow_eq (putRow_at h1), putRow_eq (putRow_at h1), putRow_eq h1, putRow_eq h1, List.set_set, List.set_set, splice_comm h4 k4 hd]
theorem put_ne {h : Heap} {b b' off o : Nat} {ys zs : List AV} (hne : b ≠ b') : putRow (putRow h b off ys) b' o zs = putRow (putRow h b' o zs) b off ys := by
  have e1 := putRow_ne (h := h) (off := off) (ys := ys) hne
  have e2 := putRow_ne (h := h) (off := o) (ys := zs) (Ne.symm hne)
  have none : ∀ {g : Heap} {b off : Nat} {ys : List AV}, (∀ cs, g[b]? ≠ some (.row cs)) → putRow g b off ys = g := by
    intro g b off ys hn
    unfold putRow
    split
    · rename_i cs hcs; exact absurd hcs (hn cs)
    · rfl
  by_cases h1 : ∃ cs, h[b]? = some (.row cs)
  · obtain ⟨cs, h1⟩ := h1
    by_cases h2 : ∃ ds, h[b']? = some (.row ds)
    · obtain ⟨ds, h2⟩ := h2
      rw [putRow_eq (e1.trans h2), putRow_eq (e2.trans h1), putRow_eq h1, putRow_eq h2]
      exact List.set_comm _ _ hne
    · have h2' : ∀ ds, h[b']? ≠ some (.row ds) := fun ds he => h2 ⟨ds, he⟩
      rw [none (g := putRow h b off ys) (fun ds he => h2' ds (e1.symm.trans he)), none h2']
  · have h1' : ∀ ds, h[b]? ≠ some (.row ds) := fun ds he => h1 ⟨ds, he⟩
    rw [none (g := putRow h b' o zs) (fun ds he => h1' ds (e2.symm.trans he)), none h1']
theorem put_set {h : Heap} {b b' off : Nat} {ys : List AV} {x : Box} (hne : b ≠ b') : putRow (h.set b' x) b off ys = (putRow h b off ys).set b' x := by
  unfold putRow
  rw [List.getElem?_set_ne (Ne.symm hne)]
  cases h1 : h[b]? with
  | none => rfl
  | some y => cases y <;> simp [List.set_comm _ _ hne]

theorem rejoin_put {h h1 : Heap} {n b off : Nat} {ys : List AV} (hb : b < h.length) (hn : n ≤ b) (hl : h.length ≤ h1.length) : rejoin (putRow h b off ys) h1 n = putRow (rejoin h h1 n) b off ys := by
  unfold putRow
  rw [rejoin_get_hid hb hn hl]
  split
  · exact set_rejoin hb hn hl
  · rfl
theorem take_put {h : Heap} {n b off : Nat} {ys : List AV} (hn : n ≤ b) : (putRow h b off ys).take n = h.take n := by
  unfold putRow; split
  · exact take_set_ge hn
  · rfl

/-- Effects that don't clash change places. -/
theorem eff_swap {f g : Eff} (hc : (f.touch h.length).clash (g.touch (f.act h).length) = false) (hf : f.like h h) (hg : g.like (f.act h) (f.act h)) : g.like h (f.act h) ∧ g.like h h ∧ f.like (g.act h) h ∧ f.act (g.act h) = g.act (f.act h) := by
  have ov : ∀ {a b o k o' k' : Nat}, (a == b && !(decide (o + k ≤ o') || decide (o' + k' ≤ o))) = false → a ≠ b ∨ (a = b ∧ (o + k ≤ o' ∨ o' + k' ≤ o)) := by
    intro a b o k o' k' h
    by_cases hab : a = b
    · right
      simp [hab] at h
      exact ⟨hab, by omega⟩
    · exact .inl hab
  cases f with
  | none => refine ⟨by cases g <;> simp_all [Eff.like, Eff.act], hg, trivial, rfl⟩
  | rd b off n =>
    refine ⟨hg, hg, ?_, rfl⟩
    cases g with
    | none => exact hf
    | rd b' off' n' => exact hf
    | wr b' off' ys =>
      rcases ov hc with hne | ⟨rfl, hd⟩
      · exact alike_of hf (putRow_ne (Ne.symm hne))
      · exact alike_put hf hg hd
    | all b' x =>
      have hne : b ≠ b' := by simpa [Eff.touch, Touch.clash] using hc
      exact alike_of hf (List.getElem?_set_ne (Ne.symm hne))
    | call n' h1 =>
      simp only [Eff.touch, Touch.clash, Eff.act, Bool.or_eq_false_iff, decide_eq_false_iff_not] at hc
      exact alike_of hf (rejoin_get_hid (by omega) (by omega) hg.2.2)
  | wr b off ys =>
    cases g with
    | none => exact ⟨trivial, trivial, hf, rfl⟩
    | rd b' off' n' =>
      rcases ov hc with hne | ⟨rfl, hd⟩
      · have e1 := putRow_ne (h := h) (off := off) (ys := ys) hne
        have hg' : alikeAt b' off' n' h h := alike_ne (b' := b) e1 hg
        exact ⟨alike_symm (alike_of hg' e1), hg', hf, rfl⟩
      · have hg' := alike_back hf hg
        exact ⟨alike_symm (alike_put hg' hf hd.symm), hg', hf, rfl⟩
    | wr b' off' zs =>
      rcases ov hc with hne | ⟨rfl, hd⟩
      · have e1 := putRow_ne (h := h) (off := off) (ys := ys) hne
        have hg' : alikeAt b' off' zs.length h h := alike_ne (b' := b) e1 hg
        exact ⟨alike_symm (alike_of hg' e1), hg', alike_of hf (putRow_ne (Ne.symm hne)), (put_ne hne).symm⟩
      · have hg' : alikeAt b off' zs.length h h := alike_back hf hg
        exact ⟨alike_symm (alike_put hg' hf hd.symm), hg', alike_put hf hg' hd, (put_put hf hg' hd.symm).symm⟩
    | all b' x' =>
      have hne : b ≠ b' := by simpa [Eff.touch, Touch.clash] using hc
      have hlt : b' < h.length := by have := hg.2; simpa [Eff.act, putRow_length] using this
      exact ⟨⟨(putRow_ne hne).symm, by simpa [Eff.act, putRow_length] using hlt⟩, ⟨rfl, hlt⟩, alike_of hf (List.getElem?_set_ne (Ne.symm hne)), put_set hne⟩
    | call n h1 =>
      simp only [Eff.touch, Touch.clash, Eff.act, Bool.or_eq_false_iff, decide_eq_false_iff_not, putRow_length] at hc
      have hn : n ≤ b := by omega
      have hl : h.length ≤ h1.length := by have := hg.2.2; simpa [Eff.act, putRow_length] using this
      have hlt := alike_lt hf
      refine ⟨⟨by simp [Eff.act, putRow_length], (take_put hn).symm, by simpa [Eff.act, putRow_length] using hl⟩, ⟨rfl, rfl, hl⟩, alike_of hf (rejoin_get_hid hlt hn hl), (rejoin_put hlt hn hl).symm⟩
  | all b x =>
    cases g with
    | none => exact ⟨trivial, trivial, ⟨rfl, hf.2⟩, rfl⟩
    | rd b' off' n' =>
      have hne : b ≠ b' := by simpa [Eff.touch, Touch.clash] using hc
      have e1 : (h.set b x)[b']? = h[b']? := List.getElem?_set_ne hne
      have hg' : alikeAt b' off' n' h h := alike_ne (b' := b) e1 hg
      exact ⟨alike_symm (alike_of hg' e1), hg', ⟨rfl, hf.2⟩, rfl⟩
    | wr b' off' zs =>
      have hne : b ≠ b' := by simpa [Eff.touch, Touch.clash] using hc
      have e1 : (h.set b x)[b']? = h[b']? := List.getElem?_set_ne hne
      have hg' : alikeAt b' off' zs.length h h := alike_ne (b' := b) e1 hg
      exact ⟨alike_symm (alike_of hg' e1), hg', ⟨putRow_ne (Ne.symm hne), hf.2⟩, (put_set (Ne.symm hne)).symm⟩
    | all b' x' =>
      have hne : b ≠ b' := by simpa [Eff.touch, Touch.clash] using hc
      have hlt : b' < h.length := by have := hg.2; simpa [Eff.act] using this
      refine ⟨⟨?_, by simpa [Eff.act] using hlt⟩, ⟨rfl, hlt⟩, ⟨?_, hf.2⟩, ?_⟩
      · show h[b']? = (h.set b x)[b']?
        rw [List.getElem?_set_ne hne]
      · show (h.set b' x')[b]? = h[b]?
        rw [List.getElem?_set_ne (Ne.symm hne)]
      · show (h.set b' x').set b x = (h.set b x).set b' x'
        exact List.set_comm _ _ (Ne.symm hne)
    | call n h1 =>
      simp only [Eff.touch, Touch.clash, Eff.act, Bool.or_eq_false_iff, decide_eq_false_iff_not] at hc
      have hn : n ≤ b := by omega
      have hl : h.length ≤ h1.length := by have := hg.2.2; simpa [Eff.act] using this
      refine ⟨⟨by simp [Eff.act], (take_set_ge hn).symm, by simpa [Eff.act] using hl⟩, ⟨rfl, rfl, hl⟩, ⟨rejoin_get_hid hf.2 hn hl, hf.2⟩, (set_rejoin hf.2 hn hl).symm⟩
  | call n h1 =>
    obtain ⟨_, _, hl⟩ := hf
    cases g with
    | none => exact ⟨trivial, trivial, ⟨rfl, rfl, hl⟩, rfl⟩
    | rd b' off' n' =>
      simp only [Eff.touch, Touch.clash, Bool.or_eq_false_iff, decide_eq_false_iff_not] at hc
      have e1 : (rejoin h h1 n)[b']? = h[b']? := rejoin_get_hid (by omega) (by omega) hl
      have hg' : alikeAt b' off' n' h h := alike_ne (b' := b') e1 hg
      exact ⟨alike_symm (alike_of hg' e1), hg', ⟨rfl, rfl, hl⟩, rfl⟩
    | wr b' off' zs =>
      simp only [Eff.touch, Touch.clash, Bool.or_eq_false_iff, decide_eq_false_iff_not] at hc
      have hn : n ≤ b' := by omega
      have hlt : b' < h.length := by omega
      have e1 : (rejoin h h1 n)[b']? = h[b']? := rejoin_get_hid hlt hn hl
      have hg' : alikeAt b' off' zs.length h h := alike_ne (b' := b') e1 hg
      exact ⟨alike_symm (alike_of hg' e1), hg', ⟨putRow_length, take_put hn, hl⟩, rejoin_put hlt hn hl⟩
    | all b' x' =>
      simp only [Eff.touch, Touch.clash, Bool.or_eq_false_iff, decide_eq_false_iff_not] at hc
      have hn : n ≤ b' := by omega
      have hlt : b' < h.length := by omega
      refine ⟨⟨(rejoin_get_hid hlt hn hl).symm, hg.2⟩, ⟨rfl, hlt⟩, ⟨by simp [Eff.act], take_set_ge hn, hl⟩, ?_⟩
      exact set_rejoin hlt hn hl
    | call n' h1' => simp [Eff.touch, Touch.clash] at hc
end
end Go.Proofs.YtfihinodhhhllaaGreat
