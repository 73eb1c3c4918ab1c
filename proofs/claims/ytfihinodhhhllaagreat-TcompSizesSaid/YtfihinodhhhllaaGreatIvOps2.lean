/- Aggregates, addresses, slices and lengths: operations that leave the memory alone. -/
import Derived.Test.YtfihinodhhhllaaGreatIvOps1
set_option linter.unusedVariables false
set_option linter.unusedSimpArgs false
namespace Go.Proofs.YtfihinodhhhllaaGreat
open Go

/-- Values side by side. -/
def RepL (w : World) (β : Bt) (Z : Ct) (xs : List Value) (cs : List AV) : Prop := xs.length = cs.length ∧ ∀ i (h1 : i < xs.length) (h2 : i < cs.length), Rep w β Z xs[i] cs[i]

section
variable {P : Program} {w : World} {β : Bt} {Z : Ct}
theorem RepL.nil : RepL w β Z [] [] := ⟨rfl, by simp⟩
theorem RepL.cons {x : Value} {c : AV} {xs : List Value} {cs : List AV} (h : Rep w β Z x c) (t : RepL w β Z xs cs) : RepL w β Z (x :: xs) (c :: cs) := by
  refine ⟨by simp [t.1], fun i h1 h2 => ?_⟩
  cases i with
  | zero => exact h
  | succ i => exact t.2 i (by simpa using h1) (by simpa using h2)
theorem RepL.head {x : Value} {c : AV} {xs : List Value} {cs : List AV} (h : RepL w β Z (x :: xs) (c :: cs)) : Rep w β Z x c := h.2 0 (by simp) (by simp)
theorem RepL.tail {x : Value} {c : AV} {xs : List Value} {cs : List AV} (h : RepL w β Z (x :: xs) (c :: cs)) : RepL w β Z xs cs :=
  ⟨by simpa using h.1, fun i h1 h2 => h.2 (i + 1) (by simpa using h1) (by simpa using h2)⟩
theorem RepL.append {xs ys : List Value} {cs ds : List AV} (h : RepL w β Z xs cs) (t : RepL w β Z ys ds) : RepL w β Z (xs ++ ys) (cs ++ ds) := by
  refine ⟨by simp [h.1, t.1], fun i h1 h2 => ?_⟩
  have hl := h.1
  by_cases hi : i < xs.length
  · rw [List.getElem_append_left hi, List.getElem_append_left (by omega)]
    exact h.2 i hi (by omega)
  · rw [List.getElem_append_right (by omega), List.getElem_append_right (by omega)]
    have := t.2 (i - xs.length) (by simp at h1; omega) (by simp at h2; omega)
    simpa only [hl] using this
theorem RepL.take {xs : List Value} {cs : List AV} (h : RepL w β Z xs cs) (n : Nat) : RepL w β Z (xs.take n) (cs.take n) := by
  refine ⟨by simp [h.1], fun i h1 h2 => ?_⟩
  rw [List.getElem_take, List.getElem_take]
  exact h.2 i (by simp at h1; omega) (by simp at h2; omega)
theorem RepL.drop {xs : List Value} {cs : List AV} (h : RepL w β Z xs cs) (n : Nat) : RepL w β Z (xs.drop n) (cs.drop n) := by
  refine ⟨by simp [h.1], fun i h1 h2 => ?_⟩
  rw [List.getElem_drop, List.getElem_drop]
  exact h.2 _ (by simp at h1; omega) (by simp at h2; omega)
theorem RepL.get {xs : List Value} {cs : List AV} (h : RepL w β Z xs cs) {i : Nat} {c : AV} (hc : cs[i]? = some c) : ∃ x, xs[i]? = some x ∧ Rep w β Z x c := by
  obtain ⟨h2, rfl⟩ := List.getElem?_eq_some_iff.1 hc
  have h1 : i < xs.length := by rw [h.1]; exact h2
  exact ⟨xs[i], List.getElem?_eq_getElem h1, h.2 i h1 h2⟩
theorem RepL.of_agg {xs : Array Value} {cs : List AV} (h : xs.size = cs.length) (hr : ∀ i (h1 : i < xs.size) (h2 : i < cs.length), Rep w β Z xs[i] cs[i]) : RepL w β Z xs.toList cs :=
  ⟨by simpa using h, fun i h1 h2 => by rw [Array.getElem_toList]; exact hr i (by simpa using h1) h2⟩
theorem RepL.agg {xs : List Value} {cs : List AV} (h : RepL w β Z xs cs) (hk : ∀ c ∈ cs, c.cellOk = true) : Rep w β Z (.agg xs.toArray) (.agg cs) :=
  .agg (by simpa using h.1) hk (fun i h1 h2 => by simpa using h.2 i (by simpa using h1) h2)
theorem RepL.tup {xs : List Value} {cs : List AV} (h : RepL w β Z xs cs) : Rep w β Z (.tuple xs.toArray) (.tup cs) :=
  .tup (by simpa using h.1) (fun i h1 h2 => by simpa using h.2 i (by simpa using h1) h2)

/-- The cells of a value that can be stored. -/
theorem Rep.cells {x : Value} {c : AV} (h : Rep w β Z x c) (hk : okc c = true) : RepL w β Z x.cells.toList c.cells ∧ (∀ d ∈ c.cells, d.cellOk = true) ∧ ∀ k o, muL c.cells x.cells.toList k o = mu c x k o := by
  have one : ∀ (y : Value) (d : AV), Rep w β Z y d → d.cells = [d] → y.cells = #[y] → RepL w β Z y.cells.toList d.cells ∧ ∀ k o, muL d.cells y.cells.toList k o = mu d y k o := by
    intro y d hr e1 e2
    rw [e1, e2]
    exact ⟨RepL.cons hr RepL.nil, fun k o => by simp [muL]⟩
  cases h with
  | any | undef | tup => simp [okc] at hk
  | agg h1 h2 h3 => exact ⟨RepL.of_agg h1 h3, h2, fun k o => by simp [AV.cells, Value.cells, mu]⟩
  | bool b => obtain ⟨p, q⟩ := one _ _ (.bool b) rfl rfl; exact ⟨p, by simp [AV.cells, AV.cellOk], q⟩
  | int k n => obtain ⟨p, q⟩ := one _ _ (.int k n) rfl rfl; exact ⟨p, by simp [AV.cells, AV.cellOk], q⟩
  | str l => obtain ⟨p, q⟩ := one _ _ (.str l) rfl rfl; exact ⟨p, by simp [AV.cells, AV.cellOk], q⟩
  | nilp => obtain ⟨p, q⟩ := one _ _ .nilp rfl rfl; exact ⟨p, by simp [AV.cells, AV.cellOk], q⟩
  | nilm => obtain ⟨p, q⟩ := one _ _ .nilm rfl rfl; exact ⟨p, by simp [AV.cells, AV.cellOk], q⟩
  | slz a b d g e => obtain ⟨p, q⟩ := one _ _ (.slz a b d g e) rfl rfl; exact ⟨p, by simp [AV.cells, AV.cellOk], q⟩
  | sl f h1 h2 h3 h4 h5 h6 h7 h8 h9 => obtain ⟨p, q⟩ := one _ _ (.sl f h1 h2 h3 h4 h5 h6 h7 h8 h9) rfl rfl; exact ⟨p, by simp [AV.cells, AV.cellOk], q⟩
  | ptr o h => obtain ⟨p, q⟩ := one _ _ (.ptr o h) rfl rfl; exact ⟨p, by simp [AV.cells, AV.cellOk], q⟩
  | ep o f h1 h2 h3 h4 => obtain ⟨p, q⟩ := one _ _ (.ep o f h1 h2 h3 h4) rfl rfl; exact ⟨p, by simp [AV.cells, AV.cellOk], q⟩
  | fn f h hr => obtain ⟨p, q⟩ := one _ _ (.fn f h hr) rfl rfl; exact ⟨p, by simp [AV.cells, AV.cellOk], q⟩
  | mp h => obtain ⟨p, q⟩ := one _ _ (.mp h) rfl rfl; exact ⟨p, by simp [AV.cells, AV.cellOk], q⟩
  | ms off h h1 h2 h3 => obtain ⟨p, q⟩ := one _ _ (.ms off h h1 h2 h3) rfl rfl; exact ⟨p, by simp [AV.cells, AV.cellOk], q⟩
  | msz base h h1 => obtain ⟨p, q⟩ := one _ _ (.msz base h h1) rfl rfl; exact ⟨p, by simp [AV.cells, AV.cellOk], q⟩

/-- What stands in one cell is no aggregate. -/
theorem Rep.oneCell {x : Value} {c : AV} (h : Rep w β Z x c) (hk : c.cellOk = true) : x.oneCell' = true ∧ okc c = true ∧ c.cells = [c] ∧ x.cells = #[x] := by
  cases h <;> simp_all [AV.cellOk, Value.oneCell', okc, AV.cells, Value.cells]

theorem muL_append {cs ds : List AV} {xs ys : List Value} (h : xs.length = cs.length) (k o : Nat) : muL (cs ++ ds) (xs ++ ys) k o = muL cs xs k o + muL ds ys k o := by
  induction cs generalizing xs with
  | nil => cases xs <;> simp_all [muL]
  | cons c cs ih => cases xs with
    | nil => simp at h
    | cons x xs => simp only [List.cons_append, muL, ih (by simpa using h)]; omega
theorem muL_take_drop {cs : List AV} {xs : List Value} (h : xs.length = cs.length) (n k o : Nat) : muL (cs.take n) (xs.take n) k o + muL (cs.drop n) (xs.drop n) k o = muL cs xs k o := by
  rw [← muL_append (by simp [h]), List.take_append_drop, List.take_append_drop]
theorem muL_get {cs : List AV} {xs : List Value} {i : Nat} {c : AV} {x : Value} (hc : cs[i]? = some c) (hx : xs[i]? = some x) (k o : Nat) : mu c x k o ≤ muL cs xs k o := by
  induction cs generalizing xs i with
  | nil => simp at hc
  | cons d ds ih => cases xs with
    | nil => simp at hx
    | cons y ys =>
      cases i with
      | zero => simp at hc hx; subst hc; subst hx; simp [muL]
      | succ i => simp at hc hx; have := ih hc hx; simp only [muL]; omega

/-! ### building aggregates -/
theorem run_mapM_list {α γ : Type} (g : α → Sem γ) (v : α → γ) : ∀ (l : List α), (∀ x ∈ l, (g x).run P w = .ok (v x) w) → (l.mapM g).run P w = .ok (l.map v) w
  | [], _ => by simp
  | x :: l, h => by simp [h x (by simp), run_mapM_list g v l (fun y hy => h y (by simp [hy]))]
theorem run_mapM_array {α γ : Type} (g : α → Sem γ) (v : α → γ) (l : Array α) (h : ∀ x ∈ l.toList, (g x).run P w = .ok (v x) w) : (l.mapM g).run P w = .ok (l.map v) w := by
  rw [Array.mapM_eq_mapM_toList]
  simp only [Sem.run_map, run_mapM_list g v l.toList h, Result.andThen_ok]
  congr 1
  exact Array.ext' (by simp)

theorem foldl_set_get : ∀ (vs : List Value) (off k : Nat) (cells : Array Value), ((vs.zipIdx k).foldl (fun cs p => cs.setIfInBounds (off + p.2) p.1) cells).size = cells.size ∧
    ∀ i, ((vs.zipIdx k).foldl (fun cs p => cs.setIfInBounds (off + p.2) p.1) cells)[i]? = if off + k ≤ i ∧ i < off + k + vs.length ∧ i < cells.size then vs[i - (off + k)]? else cells[i]?
  | [], off, k, cells => ⟨by simp, fun i => by simp; intro h1 h2; omega⟩
  | v :: vs, off, k, cells => by
    obtain ⟨h1, h2⟩ := foldl_set_get vs off (k + 1) (cells.setIfInBounds (off + k) v)
    simp only [List.zipIdx_cons, List.foldl_cons]
    refine ⟨by simp [h1], fun i => ?_⟩
    rw [h2 i]
    simp only [Array.size_setIfInBounds, List.length_cons, Array.getElem?_setIfInBounds]
    by_cases c1 : off + (k + 1) ≤ i ∧ i < off + (k + 1) + vs.length ∧ i < cells.size
    · rw [if_pos c1, if_pos (by omega)]
      rw [show i - (off + k) = (i - (off + (k + 1))) + 1 by omega, List.getElem?_cons_succ]
    · rw [if_neg c1]
      by_cases c2 : off + k = i
      · subst c2
        by_cases c3 : off + k < cells.size
        · simp [c3]
        · simp [c3]
      · rw [if_neg c2, if_neg (by omega)]

theorem splice_length (cs : List AV) (off : Nat) (xs : List AV) (h : off + xs.length ≤ cs.length) : (splice cs off xs).length = cs.length := by simp [splice]; omega
theorem splice_get (cs : List AV) (off : Nat) (xs : List AV) (h : off + xs.length ≤ cs.length) (i : Nat) : (splice cs off xs)[i]? = if off ≤ i ∧ i < off + xs.length then xs[i - off]? else cs[i]? := by
  unfold splice
  by_cases h1 : i < off
  · rw [if_neg (by omega), List.append_assoc, List.getElem?_append_left (by simp; omega), List.getElem?_take_of_lt h1]
  · by_cases h2 : i < off + xs.length
    · rw [if_pos ⟨by omega, h2⟩, List.getElem?_append_left (by simp; omega), List.getElem?_append_right (by simp; omega)]
      congr 1
      simp
      omega
    · rw [if_neg (by omega), List.getElem?_append_right (by simp; omega)]
      simp only [List.getElem?_drop, List.length_append, List.length_take]
      congr 1
      omega

/-- Cells, turned from a place on. -/
theorem splice_rep {xs : Array Value} {cs : List AV} (h : RepL w β Z xs.toList cs) {ys : Array Value} {ds : List AV} (h' : RepL w β Z ys.toList ds) {off : Nat} (hb : off + ds.length ≤ cs.length) :
    RepL w β Z (ys.zipIdx.foldl (fun cs (c, j) => cs.setIfInBounds (off + j) c) xs).toList (splice cs off ds) ∧
    ∀ k o, muL (splice cs off ds) (ys.zipIdx.foldl (fun cs (c, j) => cs.setIfInBounds (off + j) c) xs).toList k o ≤ muL cs xs.toList k o + muL ds ys.toList k o := by
  have e : (ys.zipIdx.foldl (fun cs (c, j) => cs.setIfInBounds (off + j) c) xs) = (ys.toList.zipIdx.foldl (fun cs p => cs.setIfInBounds (off + p.2) p.1) xs) := by
    rw [← Array.foldl_toList, Array.toList_zipIdx]
  rw [e]
  obtain ⟨h1, h2⟩ := foldl_set_get ys.toList off 0 xs
  have hyl : ys.size = ds.length := by simpa using h'.1
  have hxl : xs.size = cs.length := by simpa using h.1
  have eq : (ys.toList.zipIdx.foldl (fun cs p => cs.setIfInBounds (off + p.2) p.1) xs).toList = xs.toList.take off ++ ys.toList ++ xs.toList.drop (off + ys.toList.length) := by
    apply List.ext_getElem?
    intro i
    rw [Array.getElem?_toList, h2 i]
    simp only [Nat.add_zero]
    by_cases c1 : i < off
    · rw [if_neg (by omega), List.append_assoc, List.getElem?_append_left (by simp; omega), List.getElem?_take_of_lt c1]
      simp
    · by_cases c2 : i < off + ys.toList.length
      · rw [if_pos ⟨by omega, c2, by simp at c2; omega⟩, List.getElem?_append_left (by simp at c2 ⊢; omega), List.getElem?_append_right (by simp; omega)]
        congr 1
        simp
        omega
      · rw [if_neg (by omega), List.getElem?_append_right (by simp at c2 ⊢; omega)]
        simp only [List.getElem?_drop, List.length_append, List.length_take, Array.length_toList]
        rw [← Array.getElem?_toList]
        congr 1
        simp at c2
        omega
  rw [eq]
  have hl : ys.toList.length = ds.length := h'.1
  refine ⟨?_, fun k o => ?_⟩
  · unfold splice
    rw [hl]
    exact ((h.take off).append h').append (h.drop _)
  · unfold splice
    rw [hl, muL_append (by simp [hxl, hyl]), muL_append (by simp [hxl])]
    have h3 := muL_take_drop h.1 off k o
    have h4 := muL_take_drop (cs := cs.drop off) (xs := xs.toList.drop off) (by simp [hxl]) ds.length k o
    simp only [List.drop_drop] at h4
    omega

theorem sound_fill (place : Nat → Option (Nat × Nat)) : ∀ (ps : List (Nat × Nat × AV)) (qs : List (Nat × Value)) (cs ds : List AV) (xs : Array Value),
    ps.length = qs.length → (∀ i (h1 : i < ps.length) (h2 : i < qs.length), place qs[i].1 = some (ps[i].1, ps[i].2.1) ∧ Rep w β Z qs[i].2 ps[i].2.2) →
    RepL w β Z xs.toList cs → (∀ c ∈ cs, c.cellOk = true) → fillA cs ps = some ds →
    ∃ ys, Instr.fill place xs qs = some ys ∧ RepL w β Z ys.toList ds ∧ (∀ c ∈ ds, c.cellOk = true) ∧ ∀ k o, muL ds ys.toList k o ≤ muL cs xs.toList k o + muL (ps.map (·.2.2)) (qs.map (·.2)) k o
  | [], [], cs, ds, xs, _, _, hr, hk, h => by
    simp [fillA] at h
    subst h
    exact ⟨xs, rfl, hr, hk, fun k o => by simp [muL]⟩
  | [], _ :: _, _, _, _, hl, _, _, _, _ => by simp at hl
  | _ :: _, [], _, _, _, hl, _, _, _, _ => by simp at hl
  | (off, n, x) :: ps, (i, v) :: qs, cs, ds, xs, hl, hp, hr, hk, h => by
    obtain ⟨p1, p2⟩ := hp 0 (by simp) (by simp)
    simp only [List.getElem_cons_zero] at p1 p2
    simp only [fillA] at h
    split at h
    · rename_i hc
      obtain ⟨c1, c2, c3⟩ := hc
      obtain ⟨q1, q2, q3⟩ := p2.cells c1
      have hvl : v.cells.size = n := by rw [← c2]; simpa using q1.1
      have hxl : xs.size = cs.length := by simpa using hr.1
      obtain ⟨s1, s2⟩ := splice_rep hr q1 (off := off) (by omega)
      have hk' : ∀ c ∈ splice cs off x.cells, c.cellOk = true := by
        intro c hc
        unfold splice at hc
        simp only [List.mem_append] at hc
        rcases hc with (hc | hc) | hc
        · exact hk c (List.mem_of_mem_take hc)
        · exact q2 c hc
        · exact hk c (List.mem_of_mem_drop hc)
      obtain ⟨ys, y1, y2, y3, y4⟩ := sound_fill place ps qs (splice cs off x.cells) ds _ (by simpa using hl) (fun j h1 h2 => hp (j + 1) (by simpa using h1) (by simpa using h2)) s1 hk' h
      refine ⟨ys, ?_, y2, y3, fun k o => ?_⟩
      · simp only [Instr.fill, p1]
        rw [if_neg (by simp; omega)]
        exact y1
      · have := y4 k o
        have := s2 k o
        have := q3 k o
        simp only [List.map_cons, muL]
        omega
    · simp at h

/-! ### parts of aggregates -/
theorem sound_part {t : TypeId} {n : Option Nat} (h : shapeN P t = some n) {xs : Array Value} {cs : List AV} (hr : RepL w β Z xs.toList cs) (hk : ∀ c ∈ cs, c.cellOk = true) {off : Nat} {x : AV} (hp : partA cs off n = some x) :
    ∃ v, (part t xs off).run P w = .ok v w ∧ Rep w β Z v x ∧ ∀ k o, mu x v k o ≤ muL cs xs.toList k o := by
  obtain ⟨h1, h2, h3⟩ := run_isAgg (w := w) h
  cases n with
  | none =>
    simp only [partA] at hp
    obtain ⟨v, hv, hrv⟩ := hr.get hp
    rw [Array.getElem?_toList] at hv
    refine ⟨v, by simp [part, h1, hv], hrv, fun k o => muL_get hp (by rw [Array.getElem?_toList]; exact hv) k o⟩
  | some m =>
    have hm := h2 m rfl
    simp only [partA] at hp
    split at hp
    · rename_i hle
      injection hp with hp
      subst hp
      have hs : (xs.extract off (off + m)).toList = (xs.toList.drop off).take m := by simp [Array.toList_extract, List.extract]
      refine ⟨.agg (xs.extract off (off + m)), by simp [part, h1, run_sizeOf h3, hm], ?_, fun k o => ?_⟩
      · have hrl := (hr.drop off).take m
        rw [← hs] at hrl
        refine .agg (by rw [← Array.length_toList]; exact hrl.1) (fun c hc => hk c (List.mem_of_mem_drop (List.mem_of_mem_take hc))) (fun i i1 i2 => ?_)
        have := hrl.2 i (by rw [Array.length_toList]; exact i1) i2
        rwa [Array.getElem_toList] at this
      · simp only [mu, hs]
        have a1 := muL_take_drop hr.1 off k o
        have a2 := muL_take_drop (hr.drop off).1 m k o
        omega
    · simp at hp
end
end Go.Proofs.YtfihinodhhhllaaGreat
