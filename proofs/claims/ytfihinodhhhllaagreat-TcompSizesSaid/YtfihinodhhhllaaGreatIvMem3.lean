/- New boxes, literal rows, what grows. -/
import Derived.Test.YtfihinodhhhllaaGreatIvMem2
set_option linter.unusedVariables false
set_option linter.unusedSimpArgs false
set_option linter.unusedVariables false
namespace Go.Proofs.YtfihinodhhhllaaGreat
open Go
section
variable {P : Program} {w w' : World} {β : Bt} {Z : Ct} {h : Heap} {B0 : Nat} {X : Ct}

/-- A new world: one block more. -/
def pushed (w : World) (c : Array Value) (t : TypeId) : World := { w with heap := w.heap.push (.cells c t) }

def updB (β : Bt) (b blk : Nat) : Bt := fun b' => if b' = b then some blk else β b'

theorem muB_upd_ne {b blk b' : Nat} (hne : b' ≠ b) (x : Box) (k o : Nat) : muB (updB β b blk) w b' x k o = muB β w b' x k o := by
  cases x <;> simp [muB, updB, hne]

/-- A box that has been laid aside gets its block. -/
theorem Inv.newBox {own moved : Ct} (hi : Inv B0 X β Z h w moved) {b : Nat} (hlt : b < h.length) (hb : β b = none) (hself : ∀ cs, h[b]? ≠ some (.row cs)) {cs : List AV} {c : Array Value} {t : TypeId} (hw : w'.heap = w.heap.push (.cells c t))
    (hr : RepL w β Z c.toList cs) (hk : ∀ x ∈ cs, x.cellOk = true) (hbnd : AV.bndL cs ≤ b) (hm : ∀ k o, own k o + muL cs c.toList k o ≤ moved k o) :
    Inv B0 X (updB β b w.heap.size) Z (h.set b (.row cs)) w' own ∧ (∀ b', β b' ≠ none → updB β b w.heap.size b' = β b') := by
  have hn := hi.none_new
  have hsize : w'.heap.size = w.heap.size + 1 := by rw [hw]; simp
  have hcl : c.size = cs.length := by simpa using hr.1
  have hβ : ∀ b', β b' ≠ none → updB β b w.heap.size b' = β b' := by
    intro b' hne
    unfold updB
    by_cases e : b' = b
    · subst e; exact absurd hb hne
    · rw [if_neg e]
  have hZ : ∀ k o, Z k o = 1 → w'.cell? ⟨k, o, none⟩ = w.cell? ⟨k, o, none⟩ := fun k o hz => (cell_push_old hw (hi.dom k o (by omega)) o).1
  have hmono : ∀ {v : Value} {x : AV}, Rep w β Z v x → Rep w' (updB β b w.heap.size) Z v x := fun hx => hx.mono (fun b' _ blk he => by rw [hβ b' (by rw [he]; simp)]; exact he) (fun _ _ hz => hz) hZ
  have hcw : cellsAt w' w.heap.size cs.length = c.toList := by
    apply List.ext_getElem?
    intro i
    by_cases hi' : i < cs.length
    · rw [cellsAt_get _ _ _ _ hi', (cell_push_new hw i).1]
      have : i < c.size := by omega
      simp [this]
    · rw [List.getElem?_eq_none (by rw [cellsAt_length]; omega), List.getElem?_eq_none (by simp; omega)]
  have hoth : ∀ b', b' < h.length → b' ≠ b → ∀ k o, muB (updB β b w.heap.size) w' b' ((h.set b (.row cs)).getD b' .hid) k o = muB β w b' (h.getD b' .hid) k o := by
    intro b' hlt' hne k o
    have e : (h.set b (.row cs)).getD b' .hid = h.getD b' .hid := by simp [List.getD, Ne.symm hne]
    rw [e, muB_upd_ne hne]
    exact muB_congr (fun ds blk he hb' o' ho' => (cell_push_old hw (hi.box b' blk hb').2 o').1) k o
  have hself' : (h.set b (.row cs)).getD b .hid = .row cs := by simp [List.getD, hlt]
  have hold : ∀ k o, muB β w b (h.getD b .hid) k o = 0 := by
    intro k o
    cases h.getD b .hid <;> simp [muB, hb]
  have htot : ∀ k o, muH (updB β b w.heap.size) (h.set b (.row cs)) w' k o = muH β h w k o + ((if k = w.heap.size ∧ o < cs.length then 1 else 0) + muL cs c.toList k o) := by
    intro k o
    have h1 : muH (updB β b w.heap.size) (h.set b (.row cs)) w' k o = sumN h.length (fun b' => muB (updB β b w.heap.size) w' b' ((h.set b (.row cs)).getD b' .hid) k o) := by simp [muH]
    have h2 := sumN_at hlt (f := fun b' => muB (updB β b w.heap.size) w' b' ((h.set b (.row cs)).getD b' .hid) k o) (g := fun b' => muB β w b' (h.getD b' .hid) k o) (fun i hlt' hne => hoth i hlt' hne k o)
    simp only [hself', hold] at h2
    have h3 : muB (updB β b w.heap.size) w' b (.row cs) k o = (if k = w.heap.size ∧ o < cs.length then 1 else 0) + muL cs c.toList k o := by
      simp [muB, updB, hcw]
    rw [h3] at h2
    rw [h1]
    show _ = sumN h.length _ + _
    omega
  refine ⟨⟨fun k o => ?_, fun k o hp => ?_, fun k o hp => ?_, fun b' blk' hb' => ?_, fun b' ds blk' hx' hb' j hj => ?_, fun b' ds hx' => ?_, by rw [hsize]; have := hi.base; omega⟩, hβ⟩
  · rw [htot]
    have := hm k o
    have := hi.sep k o
    by_cases e : k = w.heap.size
    · subst e
      obtain ⟨a1, a2, a3, a4⟩ := hn o
      split <;> omega
    · simp only [e, false_and, if_false]
      omega
  · rw [htot] at hp
    have := hm k o
    by_cases e : k = w.heap.size ∧ o < cs.length
    · obtain ⟨rfl, e2⟩ := e
      obtain ⟨r1, r2⟩ := cell_push_new hw o
      refine ⟨hi.base, ⟨c[o]'(by omega), ?_⟩, r2⟩
      rw [r1]; simp [hcl, e2]
    · rw [if_neg e] at hp
      obtain ⟨q1, ⟨v, hv⟩, q3⟩ := hi.live k o (by omega)
      obtain ⟨r1, r2⟩ := cell_push_old hw (World.block_lt_of_cell? w ⟨k, o, none⟩ hv) o
      exact ⟨q1, ⟨v, r1.trans hv⟩, r2.trans q3⟩
  · have := hi.dom k o hp; omega
  · unfold updB at hb'
    split at hb'
    · rename_i e; subst e; injection hb' with hb'; subst hb'
      simp [hlt, hsize]
    · have := hi.box b' blk' hb'; simp; omega
  · by_cases hne : b' = b
    · subst hne
      rw [List.getElem?_set_self hlt] at hx'
      injection hx' with hx'; injection hx' with hx'; subst hx'
      simp only [updB, if_true] at hb'
      injection hb' with hb'; subst hb'
      rw [(cell_push_new hw j).1]
      refine ⟨c[j]'(by omega), by simp [hcl, hj], ?_⟩
      have := hr.2 j (by simpa using (by omega : j < c.size)) hj
      rw [Array.getElem_toList] at this
      exact hmono this
    · rw [List.getElem?_set_ne (Ne.symm hne)] at hx'
      have hb2 : β b' = some blk' := by simpa [updB, hne] using hb'
      obtain ⟨v, h1, h2⟩ := hi.row b' ds blk' hx' hb2 j hj
      exact ⟨v, by rw [(cell_push_old hw (hi.box b' blk' hb2).2 j).1]; exact h1, hmono h2⟩
  · by_cases hne : b' = b
    · subst hne
      rw [List.getElem?_set_self hlt] at hx'
      injection hx' with hx'; injection hx' with hx'; subst hx'
      exact ⟨hbnd, hk⟩
    · rw [List.getElem?_set_ne (Ne.symm hne)] at hx'
      exact hi.old b' ds hx'

/-- One box more, of which nothing is known. -/
theorem Inv.snoc {own : Ct} (hi : Inv B0 X β Z h w own) : Inv B0 X β Z (h ++ [Box.hid]) w own := by
  have hm : ∀ k o, muH β (h ++ [Box.hid]) w k o = muH β h w k o := by
    intro k o
    have h1 : muH β (h ++ [Box.hid]) w k o = sumN (h.length + 1) (fun b => muB β w b ((h ++ [Box.hid]).getD b .hid) k o) := by simp [muH]
    rw [h1]
    simp only [sumN]
    have h2 : (h ++ [Box.hid]).getD h.length .hid = .hid := by simp [List.getD]
    rw [h2, show muB β w h.length Box.hid k o = 0 from rfl, Nat.add_zero]
    refine sumN_congr fun i hi => ?_
    have : (h ++ [Box.hid]).getD i .hid = h.getD i .hid := by simp [List.getD, List.getElem?_append_left hi]
    rw [this]
  have hg : ∀ (b : Nat) (cs : List AV), (h ++ [Box.hid])[b]? = some (Box.row cs) → h[b]? = some (Box.row cs) := by
    intro b cs hx
    by_cases hlt : b < h.length
    · rwa [List.getElem?_append_left hlt] at hx
    · rw [List.getElem?_append_right (by omega)] at hx
      cases hb : b - h.length with
      | zero => simp [hb] at hx
      | succ n => simp [hb] at hx
  exact ⟨fun k o => by rw [hm]; exact hi.sep k o, fun k o hp => hi.live k o (by rw [hm] at hp; exact hp), hi.dom, fun b blk hb => by have := hi.box b blk hb; simp; omega, fun b cs blk hx hb => hi.row b cs blk (hg b cs hx) hb, fun b cs hx => hi.old b cs (hg b cs hx), hi.base⟩
theorem Inv.snocs {own : Ct} (hi : Inv B0 X β Z h w own) : ∀ n, Inv B0 X β Z (h ++ List.replicate n .hid) w own
  | 0 => by simpa using hi
  | n + 1 => by
    have := (Inv.snocs hi n).snoc
    rwa [List.append_assoc, ← List.replicate_succ'] at this

theorem ext_push {own : Ct} {n : Nat} {β' : Bt} {c : Array Value} {t : TypeId} (hi : Inv B0 X β Z h w own) (hw : w'.heap = w.heap.push (.cells c t)) (ho : w'.os = w.os) (ht : w'.tape = w.tape) (hout : w'.output = w.output)
    (hβ : ∀ b, b < n → ∀ blk, β b = some blk → β' b = some blk) : Ext B0 n X β Z w β' Z w' :=
  ⟨by rw [hw]; simp, fun k o hz => (cell_push_old hw (hi.dom k o (by omega)) o).1, fun k o hx => cell_push_old hw (hi.dom k o (by omega)) o, fun _ _ hz => hz, hβ, World.low_push hw hi.base, ho, ht, hout⟩

theorem sound_alloc {k base : Nat} {zs : List AV} {t : TypeId} {z : Value} (hz : zeroOf P t = some z) (hck : ckCL zs z.cells.toList = true) {moved : Ct} (hi : Inv B0 X β Z h w moved) (hlt : base + k < h.length) (hb : β (base + k) = none) (hself : ∀ cs, h[base + k]? ≠ some (.row cs)) (old : Value) :
    ∃ w' v, (Instr.alloc t true old).run P w = .ok v w' ∧ Post B0 X β Z h w (updB β (base + k) w.heap.size) Z (h.set (base + k) (.row zs)) w' (.ptr (base + k) 0) v := by
  obtain ⟨q1, q2, q3, q4⟩ := ckCL_rep (w := w) (β := β) (Z := Z) zs z.cells.toList hck
  have hbz : AV.bndL zs = 0 := by
    have : AV.bndL zs ≤ 0 := AV.bndL_le.2 fun x hx => by
      obtain ⟨i, hlt, rfl⟩ := List.getElem_of_mem hx
      have hr := (ckCL_rep (w := w) (β := fun _ => none) (Z := Z) zs z.cells.toList hck).2.2.1 i (by omega) hlt
      exact hr.bnd_le (fun b blk he => by simp at he)
    omega
  refine ⟨pushed w z.cells t, .pointer (some ⟨w.heap.size, 0, none⟩), ?_, ?_⟩
  · simp [Instr.alloc, run_zeroValue hz, newVar, newRow, pushed]
  · obtain ⟨i1, i2⟩ := hi.newBox (own := fun _ _ => 0) (w' := pushed w z.cells t) hlt hb hself (c := z.cells) (t := t) rfl ⟨q1, q3⟩ q2 (by omega) (fun k o => by rw [q4]; omega)
    refine ⟨.ptr 0 (by simp [updB]), i1.weaken (fun k o => by simp [mu]), ext_push hi rfl rfl rfl rfl (fun b _ blk he => by rw [i2 b (by rw [he]; simp)]; exact he), by simp⟩

theorem sound_box {x : AV} {vx : Value} {t : TypeId} (hx : Rep w β Z vx x) (hb : x.bnd ≤ h.length) (hok : okc x = true) {moved : Ct} (hi : Inv B0 X β Z h w moved) (hm : ∀ k o, mu x vx k o ≤ moved k o) :
    ∃ w' v β', (Instr.box t vx).run P w = .ok v w' ∧ Post B0 X β Z h w β' Z (h ++ [.row x.cells]) w' (.ptr h.length 0) v ∧ ∀ b, b < h.length → β' b = β b := by
  obtain ⟨r1, r2, r3⟩ := hx.cells hok
  have hnone : β h.length = none := by
    cases e : β h.length with
    | none => rfl
    | some blk => have := (hi.box _ _ e).1; omega
  have hs := hi.snoc
  have e1 : (h ++ [Box.hid]).set h.length (.row x.cells) = h ++ [.row x.cells] := by simp
  obtain ⟨i1, i2⟩ := hs.newBox (own := fun _ _ => 0) (b := h.length) (cs := x.cells) (w' := pushed w vx.cells t) (by simp) hnone (fun cs => by simp) (c := vx.cells) (t := t) rfl r1 r2 (by rw [cells_bnd]; exact hb) (fun k o => by rw [r3]; have := hm k o; omega)
  rw [e1] at i1
  refine ⟨pushed w vx.cells t, .pointer (some ⟨w.heap.size, 0, none⟩), updB β h.length w.heap.size, ?_, ⟨.ptr 0 (by simp [updB]), i1.weaken (fun k o => by simp [mu]), ext_push hi rfl rfl rfl rfl (fun b _ blk he => by rw [i2 b (by rw [he]; simp)]; exact he), by simp⟩, fun b hlt => by simp [updB]; intro e; omega⟩
  simp [Instr.box, newVar, newRow, pushed]

/-! ### a row written out -/
theorem flat_set {els : List AV} {sz i : Nat} {x : AV} (h : ∀ y ∈ els, y.cells.length = sz) (hx : x.cells.length = sz) (hi : i < els.length) : flat (els.set i x) = splice (flat els) (i * sz) x.cells := by
  induction els generalizing i with
  | nil => simp at hi
  | cons y l ih =>
    have hy := h y (by simp)
    cases i with
    | zero =>
      simp only [List.set_cons_zero, flat_cons, splice, Nat.zero_mul, List.take_zero, List.nil_append, Nat.zero_add]
      rw [hx, ← hy, List.drop_left]
    | succ i =>
      have hi' : i < l.length := by simpa using hi
      simp only [List.set_cons_succ, flat_cons]
      rw [ih (fun z hz => h z (by simp [hz])) hi']
      unfold splice
      have e1 : (i + 1) * sz = y.cells.length + i * sz := by rw [Nat.succ_mul, hy]; omega
      rw [e1, List.take_length_add_append, show y.cells.length + i * sz + x.cells.length = y.cells.length + (i * sz + x.cells.length) by omega, List.drop_length_add_append]
      simp only [List.append_assoc]

theorem fillS_fillA {sz : Nat} : ∀ (ps : List (Nat × AV)) (els ds : List AV), (∀ y ∈ els, y.cells.length = sz) → fillS els sz ps = some ds →
    fillA (flat els) (ps.map fun p => (p.1 * sz, sz, p.2)) = some (flat ds) ∧ (∀ y ∈ ds, y.cells.length = sz) ∧ ds.length = els.length
  | [], els, ds, h, hf => by simp [fillS] at hf; subst hf; exact ⟨by simp [fillA], h, rfl⟩
  | (i, x) :: ps, els, ds, h, hf => by
    simp only [fillS] at hf
    split at hf
    · rename_i hc
      obtain ⟨c1, c2, c3⟩ := hc
      have hs : ∀ y ∈ els.set i x, y.cells.length = sz := by
        intro y hy
        rcases List.mem_or_eq_of_mem_set hy with h1 | h1
        · exact h y h1
        · rw [h1]; exact c2
      obtain ⟨r1, r2, r3⟩ := fillS_fillA ps (els.set i x) ds hs hf
      refine ⟨?_, r2, by simpa using r3⟩
      simp only [List.map_cons, fillA]
      have hle : i * sz + sz ≤ (flat els).length := by
        rw [flat_length h, ← Nat.succ_mul]
        exact Nat.mul_le_mul_right _ (by omega)
      rw [if_pos ⟨c1, c2, hle⟩, ← flat_set h c2 c3]
      exact r1
    · simp at hf

theorem flat_replicate_zero {zs : List AV} {z : Value} {sz : Nat} (hpos : 0 < sz) (hzs : ∀ x ∈ zs, ckCL x.cells z.cells.toList = true ∧ x.cells.length = sz) :
    RepL w β Z ((Array.range (zs.length * sz)).map (fun i => z.cells[i % z.cells.size]!)).toList (flat zs) ∧ (∀ c ∈ flat zs, c.cellOk = true) ∧ ∀ k o, muL (flat zs) ((Array.range (zs.length * sz)).map (fun i => z.cells[i % z.cells.size]!)).toList k o = 0 := by
  have hlist : ∀ (l : List AV), (∀ x ∈ l, ckCL x.cells z.cells.toList = true ∧ x.cells.length = sz) → RepL w β Z ((List.replicate l.length z.cells.toList).flatten) (flat l) ∧ (∀ c ∈ flat l, c.cellOk = true) ∧ ∀ k o, muL (flat l) ((List.replicate l.length z.cells.toList).flatten) k o = 0 := by
    intro l
    induction l with
    | nil => intro _; exact ⟨by simpa [flat] using RepL.nil, by simp [flat], fun k o => by simp [flat, muL]⟩
    | cons x l ih =>
      intro hl
      obtain ⟨i1, i2, i3⟩ := ih (fun y hy => hl y (by simp [hy]))
      obtain ⟨q1, q2, q3, q4⟩ := ckCL_rep (w := w) (β := β) (Z := Z) x.cells z.cells.toList (hl x (by simp)).1
      rw [flat_cons]
      simp only [List.length_cons, List.replicate_succ, List.flatten_cons]
      refine ⟨RepL.append ⟨q1, q3⟩ i1, fun c hc => ?_, fun k o => by rw [muL_append q1, q4, i3]⟩
      rcases List.mem_append.1 hc with hc | hc
      · exact q2 c hc
      · exact i2 c hc
  have heq : ((Array.range (zs.length * sz)).map (fun i => z.cells[i % z.cells.size]!)).toList = (List.replicate zs.length z.cells.toList).flatten := by
    cases hz : zs with
    | nil => simp
    | cons x l =>
      have hzl : z.cells.size = sz := by
        obtain ⟨q1, _⟩ := ckCL_rep (w := w) (β := β) (Z := Z) x.cells z.cells.toList (hzs x (by simp [hz])).1
        have := (hzs x (by simp [hz])).2
        simp at q1
        omega
      rw [← hz]
      clear hzs hz
      generalize zs.length = n
      have key : ∀ n, ((List.range (n * sz)).map (fun i => z.cells[i % z.cells.size]!)) = (List.replicate n z.cells.toList).flatten := by
        intro n
        induction n with
        | zero => simp
        | succ n ih =>
          rw [List.replicate_succ', List.flatten_append, ← ih, Nat.succ_mul, List.range_add, List.map_append]
          congr 1
          simp only [List.flatten_cons, List.flatten_nil, List.append_nil, List.map_map]
          apply List.ext_getElem?
          intro i
          by_cases hi : i < sz
          · rw [List.getElem?_map, List.getElem?_range hi]
            have : (n * sz + i) % z.cells.size = i := by rw [hzl, Nat.mul_comm, Nat.mul_add_mod, Nat.mod_eq_of_lt hi]
            simp only [Option.map_some, Function.comp, this]
            rw [List.getElem?_eq_getElem (by simp; omega), getElem!_pos z.cells i (by omega)]
            simp
          · rw [List.getElem?_eq_none (by simp; omega), List.getElem?_eq_none (by simp; omega)]
      have := key n
      simpa [Array.toList_map] using this
  rw [heq]
  exact hlist zs hzs

end
end Go.Proofs.YtfihinodhhhllaaGreat
