/- Literal rows and growing rows. -/
import Derived.Test.YtfihinodhhhllaaGreatIvMem3
set_option linter.unusedVariables false
set_option linter.unusedSimpArgs false
set_option linter.unusedVariables false
namespace Go.Proofs.YtfihinodhhhllaaGreat
open Go
section
variable {P : Program} {w w' : World} {β : Bt} {Z : Ct} {h : Heap} {B0 : Nat} {X : Ct}

theorem RepL.getD {xs : List Value} {cs : List AV} (h : RepL w β Z xs cs) (k : Nat) (hk : k < cs.length) : Rep w β Z (xs.getD k Go.undef) cs[k] := by
  have h1 : k < xs.length := by rw [h.1]; exact hk
  have := h.2 k h1 hk
  simpa [List.getD, h1] using this

theorem sound_bslice {t e : TypeId} {sz n : Nat} {zs ds : List AV} {ps : List (Nat × AV)} {qs : Array (Nat × Value)} {z : Value} (he : elemOf? P t = some e) (hinf : (P.info? e).isSome = true) (hsz : P.cellsOf e = sz) (hn : zs.length = n) (h24 : n * sz ≤ 2 ^ 24) (hpos : 0 < sz) (hz : zeroOf P e = some z)
    (hzs : ∀ x ∈ zs, ckCL x.cells z.cells.toList = true ∧ x.cells.length = sz) (hl : ps.length = qs.toList.length) (hp : ∀ i (h1 : i < ps.length) (h2 : i < qs.toList.length), qs.toList[i].1 = ps[i].1 ∧ Rep w β Z qs.toList[i].2 ps[i].2) (hf : fillS zs sz ps = some ds) {moved : Ct} (hi : Inv B0 X β Z h w moved) :
    ∃ w' v Z', (Instr.buildSlice t n qs).run P w = .ok v w' ∧ Post B0 X β Z h w β Z' h w' (.sl true sz ds) v := by
  have hu := elemOf_spec he
  obtain ⟨f1, f2, f3⟩ := fillS_fillA ps zs ds (fun x hx => (hzs x hx).2) hf
  obtain ⟨g1, g2, g3⟩ := flat_replicate_zero (w := w) (β := β) (Z := Z) (zs := zs) (z := z) hpos hzs
  obtain ⟨ys, y1, y2, y3, y4⟩ := sound_fill (w := w) (β := β) (Z := Z) (fun i => some (i * sz, sz)) (ps.map fun p => (p.1 * sz, sz, p.2)) qs.toList (flat zs) (flat ds) _ (by simpa using hl) (fun i h1 h2 => by
    obtain ⟨a, b⟩ := hp i (by simpa using h1) h2
    simp only [List.getElem_map]
    exact ⟨by rw [a], b⟩) g1 g2 f1
  rw [hn] at y1
  have hys : ys.size = n * sz := by
    have := y2.1
    rw [flat_length f2, f3, hn] at this
    simpa using this
  have hpost := Post.newRow (w' := pushed w ys e) hi rfl rfl rfl rfl (els := ds) (sz := sz) (cap := n) (own := true) hpos f2 y3 (by rw [hys]) (by omega) (fun k => ys.toList.getD k Go.undef) (fun k hk => by
      have hk' : k < ys.size := by have := y2.1; simp at this; omega
      simp [List.getD, hk']) (fun k hk => y2.getD k hk) (fun h0 _ => by subst h0; simp at f3; omega)
  rw [f3, hn] at hpost
  refine ⟨pushed w ys e, .slice (some ⟨w.heap.size, 0, none⟩) n n, _, ?_, hpost⟩
  have h24' : ¬ n * sz > 2 ^ 24 := by omega
  unfold Instr.buildSlice
  simp only [Sem.run_bind, run_underlying hu, Result.andThen_ok, run_sizeOf hinf, hsz]
  rw [if_neg h24']
  by_cases h0 : n * sz = 0
  · have h0' : (Array.range (n * sz)).map (fun i => z.cells[i % z.cells.size]!) = (Array.range (n * sz)).map (fun i => (#[] : Array Value)[i % (#[] : Array Value).size]!) := by
      rw [h0]; simp
    rw [h0'] at y1
    simp only [Sem.run_bind, Sem.run_pure, Result.andThen_ok, h0, if_true] at y1 ⊢
    simp only [y1, Sem.run_bind, Sem.run_pure, Result.andThen_ok, newRow, run_newObj]
    rfl
  · simp only [Sem.run_bind, Sem.run_pure, Result.andThen_ok, h0, if_false, run_zeroValue hz]
    simp only [y1, Sem.run_bind, Sem.run_pure, Result.andThen_ok, newRow, run_newObj]
    rfl

/-- What is appended, as cells. -/
theorem run_firstCells {e : TypeId} {sz : Nat} {own : Bool} {ys : List AV} {vy : Value} (hy : Rep w β Z vy (.sl own sz ys)) :
    ∃ a : Array Value, (Builtin.lenOf vy).run P w = .ok ys.length w ∧ (Builtin.firstCells sz ys.length vy).run P w = .ok a w ∧ RepL w β Z a.toList (flat ys) ∧ (∀ x ∈ ys, x.cells.length = sz) ∧ (∀ c ∈ flat ys, c.cellOk = true) := by
  cases hy with
  | slz base cap _ _ ho =>
    refine ⟨#[], by simp [Builtin.lenOf], ?_, by simpa [flat] using RepL.nil, by simp, by simp [flat]⟩
    cases base <;> simp [Builtin.firstCells, loadCells, loadCellsFrom]
  | sl f q1 q2 qc q3 q4 q5 q6 q7 q8 =>
    rename_i a cap
    have ha : a = ⟨a.block, a.off, none⟩ := by cases a; simp at q1; simp [q1]
    have hl := run_loadCells (P := P) w a (ys.length * sz) f (fun j hj => by rw [ha, addr_add]; exact q6 j (by rw [flat_length q4]; exact hj))
    refine ⟨_, by simp [Builtin.lenOf], by simpa [Builtin.firstCells] using hl, ⟨by simp [flat_length q4], fun i h1 h2 => by simpa using q8 i h2⟩, q4, q5⟩

theorem growBy_le (n : Nat) : ∀ (r c : Nat), 256 ≤ c → c ≤ 2 * n → Builtin.growBy n r c ≤ 2 * n
  | 0, c, _, h => h
  | r + 1, c, h1, h2 => by
    simp only [Builtin.growBy]
    split
    · exact h2
    · exact growBy_le n r _ (by omega) (by omega)
theorem nextcap_le {n c : Nat} (h : c < n) : Builtin.nextslicecap n c ≤ 2 * n := by
  unfold Builtin.nextslicecap
  split
  · omega
  · split
    · omega
    · exact growBy_le n 4 c (by omega) (by omega)

def drawn1 (w : World) : World := { w with drawn := w.drawn + 1 }
theorem drawn1_cell (w : World) (a : Addr) : (drawn1 w).cell? a = w.cell? a := rfl

theorem zeroCells_size (z : Array Value) (n : Nat) : (Builtin.zeroCells z n).size = n * z.size := by simp [Builtin.zeroCells]

/-- A row that must be made anew. -/
theorem append_new {e : TypeId} {z : Value} {sz : Nat} {own : Bool} {els ys : List AV} {old new : Array Value} {cap : Nat} (hz : z.cells.size = sz) (hpos : 0 < sz) (hi : Inv B0 X β Z h w (fun _ _ => 0))
    (ho : RepL w β Z old.toList (flat els)) (ho1 : ∀ x ∈ els, x.cells.length = sz) (ho2 : ∀ c ∈ flat els, c.cellOk = true) (hn : RepL w β Z new.toList (flat ys)) (hn1 : ∀ x ∈ ys, x.cells.length = sz) (hn2 : ∀ c ∈ flat ys, c.cellOk = true)
    (hcap : els.length + ys.length ≤ cap) (hpos2 : els.length + ys.length ≠ 0) :
    ∃ Z', Post B0 X β Z h w β Z' h (pushed (drawn1 w) (old ++ new ++ Builtin.zeroCells z.cells (cap - (els.length + ys.length))) e) (.sl true sz (els ++ ys)) (.slice (some ⟨w.heap.size, 0, none⟩) (els.length + ys.length) cap) := by
  have hu : ∀ x ∈ els ++ ys, x.cells.length = sz := fun x hx => (List.mem_append.1 hx).elim (ho1 x) (hn1 x)
  have hk : ∀ c ∈ flat (els ++ ys), c.cellOk = true := fun c hc => by rw [flat_append] at hc; exact (List.mem_append.1 hc).elim (ho2 c) (hn2 c)
  have hr : RepL w β Z (old.toList ++ new.toList) (flat (els ++ ys)) := by rw [flat_append]; exact ho.append hn
  have hos : old.size = els.length * sz := by have := ho.1; rw [flat_length ho1] at this; simpa using this
  have hns : new.size = ys.length * sz := by have := hn.1; rw [flat_length hn1] at this; simpa using this
  have hcs : (old ++ new ++ Builtin.zeroCells z.cells (cap - (els.length + ys.length))).size = cap * sz := by
    simp only [Array.size_append, zeroCells_size, hos, hns, hz]
    rw [← Nat.add_mul, ← Nat.add_mul]
    congr 1
    omega
  have hf : ∀ k, k < (flat (els ++ ys)).length → (old ++ new ++ Builtin.zeroCells z.cells (cap - (els.length + ys.length)))[k]? = some ((old.toList ++ new.toList).getD k Go.undef) := by
    intro k hk'
    have hlt : k < (old ++ new).size := by have := hr.1; simp at this ⊢; omega
    rw [Array.getElem?_append_left hlt]
    have h2 : k < (old.toList ++ new.toList).length := by simpa using hlt
    rw [List.getD_eq_getElem?_getD, List.getElem?_eq_getElem h2, Array.getElem?_eq_getElem hlt]
    simp only [Option.getD_some]
    rw [Array.getElem_append, List.getElem_append]
    simp
  have := Post.newRow (w' := pushed (drawn1 w) (old ++ new ++ Builtin.zeroCells z.cells (cap - (els.length + ys.length))) e) hi (c := old ++ new ++ Builtin.zeroCells z.cells (cap - (els.length + ys.length))) (t := e) rfl rfl rfl rfl (els := els ++ ys) (sz := sz) (cap := cap) (own := true) hpos hu hk hcs (by simpa using hcap)
    (fun k => (old.toList ++ new.toList).getD k Go.undef) hf (fun k hk => hr.getD k hk) (fun h0 _ => by simp at h0; simp [h0] at hpos2)
  rw [List.length_append] at this
  exact ⟨_, this⟩

/-- A row that grows where it is. -/
theorem append_here {vx : Value} {sz : Nat} {els ys : List AV} {new : Array Value} (hx : Rep w β Z vx (.sl true sz els)) (hne : els ≠ []) {moved : Ct} (hi : Inv B0 X β Z h w moved) (hm : ∀ k o, mu (.sl true sz els) vx k o ≤ moved k o)
    (hn : RepL w β Z new.toList (flat ys)) (hn1 : ∀ x ∈ ys, x.cells.length = sz) (hn2 : ∀ c ∈ flat ys, c.cellOk = true) :
    ∃ a cap, vx = .slice (some a) els.length cap ∧ (els.length + ys.length ≤ cap → ∃ w' Z', (storeCells (a.add (els.length * sz)) new.toList).run P w = .ok () w' ∧ Post B0 X β Z h w β Z' h w' (.sl true sz (els ++ ys)) (.slice (some a) (els.length + ys.length) cap)) := by
  cases hx with
  | slz => exact absurd rfl hne
  | sl f q1 q2 qc q3 q4 q5 q6 q7 q8 =>
    rename_i a cap
    refine ⟨a, cap, rfl, fun hcap => ?_⟩
    have ha : a = ⟨a.block, a.off, none⟩ := by cases a; simp at q1; simp [q1]
    have hns : new.toList.length = ys.length * sz := by have := hn.1; rw [flat_length hn1] at this; exact this
    have hle : (els.length + ys.length) * sz ≤ cap * sz := Nat.mul_le_mul_right _ hcap
    rw [Nat.add_mul] at hle
    have hm1 : ∀ o, a.off + els.length * sz ≤ o → o < a.off + cap * sz → 1 ≤ moved a.block o := by
      intro o h1 h2
      have := hm a.block o
      cases els with
      | nil => exact absurd rfl hne
      | cons e l =>
        simp only [mu] at this
        rw [if_pos ⟨trivial, h1, h2⟩] at this
        exact this
    have hex : ∀ j, j < new.toList.length → ∃ v, w.cell? ⟨a.block, a.off + els.length * sz + j, none⟩ = some v := by
      intro j hj
      exact (hi.live _ _ (by have := hm1 (a.off + els.length * sz + j) (by omega) (by omega); omega)).2.1
    have hrun := run_storeCells_cells (P := P) a.block (a.off + els.length * sz) new.toList 0 w (fun j hj => by obtain ⟨v, hv⟩ := hex j hj; simp [hv]) (fun j hj => by
        have := (hi.live a.block (a.off + els.length * sz + j) (by have := hm1 (a.off + els.length * sz + j) (by omega) (by omega); omega)).2.2
        simpa using this) (fun v hv => by
        obtain ⟨i, hlt, rfl⟩ := List.getElem_of_mem hv
        have hlt' : i < (flat ys).length := by rw [← hn.1]; exact hlt
        exact ((hn.2 i hlt hlt').oneCell (hn2 _ (List.getElem_mem _))).1)
    simp only [Nat.add_zero] at hrun
    have hcell := setCells_cell a.block new.toList (a.off + els.length * sz) w hex
    refine ⟨w.setCells a.block (a.off + els.length * sz) new.toList, fun k o => Z k o + if k = a.block ∧ a.off + els.length * sz ≤ o ∧ o < a.off + (els.length + ys.length) * sz then 1 else 0, ?_, ?_⟩
    · rw [ha, addr_add]
      exact hrun
    have hmv : ∀ k o, k = a.block ∧ a.off + els.length * sz ≤ o ∧ o < a.off + (els.length + ys.length) * sz → Z k o = 0 ∧ X k o = 0 ∧ muH β h w k o = 0 ∧ moved k o = 1 := by
      rintro k o ⟨rfl, h1, h2⟩
      rw [Nat.add_mul] at h2
      have := hm1 o h1 (by omega)
      have := hi.sep a.block o
      omega
    have zm : ∀ k o, Z k o = 1 → (Z k o + if k = a.block ∧ a.off + els.length * sz ≤ o ∧ o < a.off + (els.length + ys.length) * sz then 1 else 0) = 1 := by
      intro k o hz
      rw [if_neg (fun hc => by have := (hmv k o hc).1; omega)]
      omega
    have hsame : ∀ k o, ¬(k = a.block ∧ a.off + els.length * sz ≤ o ∧ o < a.off + (els.length + ys.length) * sz) → (w.setCells a.block (a.off + els.length * sz) new.toList).cell? ⟨k, o, none⟩ = w.cell? ⟨k, o, none⟩ := by
      intro k o hc
      rw [hcell, if_neg]
      rintro ⟨h1, h2, h3⟩
      exact hc ⟨h1, h2, by rw [Nat.add_mul]; omega⟩
    have hZ : ∀ k o, Z k o = 1 → (w.setCells a.block (a.off + els.length * sz) new.toList).cell? ⟨k, o, none⟩ = w.cell? ⟨k, o, none⟩ := fun k o hz => hsame k o (fun hc => by have := (hmv k o hc).1; omega)
    have hu : ∀ x ∈ els ++ ys, x.cells.length = sz := fun x hx => (List.mem_append.1 hx).elim (q4 x) (hn1 x)
    have hfe := flat_length q4
    have hmono : ∀ {v : Value} {x : AV}, Rep w β Z v x → Rep (w.setCells a.block (a.off + els.length * sz) new.toList) β _ v x := fun hx => hx.mono (fun _ _ _ he => he) zm hZ
    have hmu : ∀ k o, mu (.sl true sz (els ++ ys)) (.slice (some a) (els.length + ys.length) cap) k o ≤ if k = a.block ∧ a.off + (els.length + ys.length) * sz ≤ o ∧ o < a.off + cap * sz then 1 else 0 := by
      intro k o
      cases hl : els ++ ys <;> simp [mu]
    refine ⟨?_, ?_, ?_, Nat.le_refl _⟩
    · have hrep : Rep (w.setCells a.block (a.off + els.length * sz) new.toList) β (fun k o => Z k o + if k = a.block ∧ a.off + els.length * sz ≤ o ∧ o < a.off + (els.length + ys.length) * sz then 1 else 0) (.slice (some a) (els ++ ys).length cap) (.sl true sz (els ++ ys)) := ?_
      · rw [List.length_append] at hrep
        exact hrep
      refine .sl (fun k => if k < (flat els).length then f k else new.toList.getD (k - (flat els).length) Go.undef) q1 (by simp [hne]) (by rw [List.length_append]; exact hcap) q3 hu (fun c hc => by
          rw [flat_append] at hc; exact (List.mem_append.1 hc).elim (q5 c) (hn2 c)) (fun k hk => ?_) (fun k hk => ?_) (fun k hk => ?_)
      · by_cases h1 : k < (flat els).length
        · simp only [h1, if_true]
          rw [hZ _ _ (q7 k h1)]
          exact q6 k h1
        · simp only [h1, if_false]
          rw [flat_append, List.length_append, flat_length hn1] at hk
          rw [hcell, if_pos ⟨rfl, by omega, by omega⟩]
          rw [List.getElem?_eq_getElem (by omega)]
          have hlt : k - (flat els).length < new.toList.length := by omega
          simp only [List.getD_eq_getElem?_getD, List.getElem?_eq_getElem hlt, Option.getD_some]
          congr 2
          omega
      · by_cases h1 : k < (flat els).length
        · exact zm _ _ (q7 k h1)
        · rw [flat_append, List.length_append, flat_length hn1] at hk
          have hc : a.block = a.block ∧ a.off + els.length * sz ≤ a.off + k ∧ a.off + k < a.off + (els.length + ys.length) * sz := ⟨rfl, by omega, by rw [Nat.add_mul]; omega⟩
          have := (hmv _ _ hc).1
          simp only [this, hc, and_self, if_true]
      · by_cases h1 : k < (flat els).length
        · simp only [h1, if_true]
          have e : (flat (els ++ ys))[k] = (flat els)[k] := by
            have : (flat (els ++ ys))[k]? = (flat els)[k]? := by rw [flat_append, List.getElem?_append_left h1]
            rw [List.getElem?_eq_getElem hk, List.getElem?_eq_getElem h1] at this
            exact Option.some.inj this
          rw [e]
          exact hmono (q8 k h1)
        · simp only [h1, if_false]
          have hk' : k - (flat els).length < (flat ys).length := by rw [flat_append, List.length_append] at hk; omega
          have e : (flat (els ++ ys))[k] = (flat ys)[k - (flat els).length] := by
            have : (flat (els ++ ys))[k]? = (flat ys)[k - (flat els).length]? := by rw [flat_append, List.getElem?_append_right (by omega)]
            rw [List.getElem?_eq_getElem hk, List.getElem?_eq_getElem hk'] at this
            exact Option.some.inj this
          rw [e]
          exact hmono (hn.getD _ hk')
    · refine hi.change (by rw [setCells_size]; exact Nat.le_refl _) hZ zm (fun k o hp => ⟨hsame k o (fun hc => by have := (hmv k o hc).2.2.1; omega), setCells_frozen ..⟩) (fun k o => ?_) (fun k o hp => ?_) (fun k o hp => ?_)
      · have h2 := hmu k o
        have h3 := hi.sep k o
        by_cases hc : k = a.block ∧ a.off + els.length * sz ≤ o ∧ o < a.off + (els.length + ys.length) * sz
        · obtain ⟨e1, e2, e3, e4⟩ := hmv k o hc
          rw [if_pos hc]
          rw [if_neg (by omega)] at h2
          omega
        · rw [if_neg hc]
          by_cases hc2 : k = a.block ∧ a.off + (els.length + ys.length) * sz ≤ o ∧ o < a.off + cap * sz
          · rw [if_pos hc2] at h2
            obtain ⟨rfl, c1, c2⟩ := hc2
            rw [Nat.add_mul] at c1
            have := hm1 o (by omega) c2
            omega
          · rw [if_neg hc2] at h2
            omega
      · have h2 := hmu k o
        by_cases hc2 : k = a.block ∧ a.off + (els.length + ys.length) * sz ≤ o ∧ o < a.off + cap * sz
        · obtain ⟨rfl, c1, c2⟩ := hc2
          have c1' := c1
          rw [Nat.add_mul] at c1'
          obtain ⟨l1, ⟨v, l2⟩, l3⟩ := hi.live a.block o (by have := hm1 o (by omega) c2; omega)
          exact ⟨l1, ⟨v, by rw [hsame _ _ (by omega)]; exact l2⟩, by rw [setCells_frozen]; exact l3⟩
        · rw [if_neg hc2] at h2; omega
      · rw [setCells_size]
        by_cases hc : k = a.block ∧ a.off + els.length * sz ≤ o ∧ o < a.off + (els.length + ys.length) * sz
        · have := (hmv k o hc).2.2.2
          exact hi.lt_of (k := k) (o := o) (by omega)
        · rw [if_neg hc] at hp
          exact hi.dom k o (by omega)
    · refine ⟨by rw [setCells_size]; exact Nat.le_refl _, hZ, fun k o hX => ⟨hsame k o (fun hc => by have := (hmv k o hc).2.1; omega), setCells_frozen ..⟩, zm, fun _ _ _ he => he, fun k hk => ?_, (setCells_rest ..).1, (setCells_rest ..).2.1, (setCells_rest ..).2.2⟩
      by_cases he : new.toList = []
      · rw [he]; rfl
      · have hpos : 0 < new.toList.length := List.length_pos_iff.2 he
        have := (hi.live a.block (a.off + els.length * sz) (by have := hm1 (a.off + els.length * sz) (by omega) (by omega); omega)).1
        exact setCells_other _ _ _ _ _ (by omega)
end
end Go.Proofs.YtfihinodhhhllaaGreat
