/- What a machine's value says of a value without memory, and who may write where. -/
import Derived.Test.YtfihinodhhhllaaGreatIvDef
set_option linter.unusedVariables false
set_option linter.unusedSimpArgs false
namespace Go.Proofs.YtfihinodhhhllaaGreat
open Go

/-! ### words on values without memory -/
namespace AV
/-- Can it stand in one cell? -/
def cellOk : AV → Bool
  | .agg _ | .tup _ | .any | .undef => false
  | _ => true
theorem eraseL_eq (l : List AV) : eraseL l = l.map erase := by
  induction l with
  | nil => rfl
  | cons x l ih => simp [eraseL, ih]
theorem bndL_le {l : List AV} {n : Nat} : bndL l ≤ n ↔ ∀ x ∈ l, x.bnd ≤ n := by
  induction l with
  | nil => simp [bndL]
  | cons x l ih => simp only [bndL, Nat.max_le, ih, List.mem_cons, forall_eq_or_imp]
theorem bnd_mem {l : List AV} {x : AV} (h : x ∈ l) : x.bnd ≤ bndL l := bndL_le.1 (Nat.le_refl _) x h
theorem bndL_append (l m : List AV) : bndL (l ++ m) = max (bndL l) (bndL m) := by
  induction l with
  | nil => simp [bndL]
  | cons x l ih => simp [bndL, ih]
mutual
theorem bnd_erase : ∀ a : AV, a.erase.bnd = a.bnd
  | .agg cs => by simp [erase, bnd, bndL_erase cs]
  | .tup cs => by simp [erase, bnd, bndL_erase cs]
  | .sl _ _ _ => by simp [erase, bnd]
  | .any | .undef | .bool _ | .int _ _ | .str _ | .nilp | .nilm | .ptr _ _ | .ep _ _ | .fn _ _ | .mp _ | .ms _ _ _ _ _ => by simp [erase]
theorem bndL_erase : ∀ l : List AV, bndL (eraseL l) = bndL l
  | [] => rfl
  | x :: l => by simp [eraseL, bndL, bnd_erase x, bndL_erase l]
end
theorem erase_cellOk (a : AV) : a.erase.cellOk = a.cellOk := by cases a <;> rfl
mutual
theorem erase_erase : ∀ a : AV, a.erase.erase = a.erase
  | .agg cs => by simp [erase, eraseL_idem cs]
  | .tup cs => by simp [erase, eraseL_idem cs]
  | .sl _ _ _ => by simp [erase]
  | .any | .undef | .bool _ | .int _ _ | .str _ | .nilp | .nilm | .ptr _ _ | .ep _ _ | .fn _ _ | .mp _ | .ms _ _ _ _ _ => by simp [erase]
theorem eraseL_idem : ∀ l : List AV, eraseL (eraseL l) = eraseL l
  | [] => rfl
  | x :: l => by simp [eraseL, erase_erase x, eraseL_idem l]
end
end AV

/-- The cells of a slice's elements, one behind the other. -/
def flat (els : List AV) : List AV := els.flatMap AV.cells
theorem flat_append (a b : List AV) : flat (a ++ b) = flat a ++ flat b := by simp [flat]
theorem flat_cons (a : AV) (b : List AV) : flat (a :: b) = a.cells ++ flat b := by simp [flat]
theorem flat_length {els : List AV} {sz : Nat} (h : ∀ x ∈ els, x.cells.length = sz) : (flat els).length = els.length * sz := by
  induction els with
  | nil => simp [flat]
  | cons x l ih =>
    rw [flat_cons, List.length_append, h x (by simp), ih (fun y hy => h y (by simp [hy])), List.length_cons, Nat.succ_mul]
    omega
theorem flat_get {els : List AV} {sz : Nat} (h : ∀ x ∈ els, x.cells.length = sz) : ∀ (i j : Nat) (x : AV), els[i]? = some x → j < sz → (flat els)[i * sz + j]? = x.cells[j]? := by
  induction els with
  | nil => intro i j x hx; simp at hx
  | cons y l ih =>
    intro i j x hx hj
    have hy := h y (by simp)
    rw [flat_cons]
    cases i with
    | zero =>
      simp at hx
      subst hx
      rw [List.getElem?_append_left (by omega)]
      simp
    | succ i =>
      simp at hx
      rw [List.getElem?_append_right (by rw [hy, Nat.succ_mul]; omega), hy]
      rw [← ih (fun z hz => h z (by simp [hz])) i j x hx hj]
      congr 1
      rw [Nat.succ_mul]
      omega

abbrev Bt := Nat → Option Nat
abbrev Ct := Nat → Nat → Nat

/-- The machine's value says what the value without memory says. Z: the cells that nobody writes any more; β: where boxes lie. -/
inductive Rep (w : World) (β : Bt) (Z : Ct) : Value → AV → Prop
  | any (x : Value) : Rep w β Z x .any
  | undef : Rep w β Z Go.undef .undef
  | bool (b : Bool) : Rep w β Z (.bool b) (.bool b)
  | int (k : IntKind) (n : Int) : Rep w β Z (.int k n) (.int k n)
  | str (l : List UInt8) : Rep w β Z (.string ⟨l.toArray⟩) (.str l)
  | nilp : Rep w β Z (.pointer none) .nilp
  | nilm : Rep w β Z (.map none) .nilm
  | agg {xs : Array Value} {cs : List AV} (h : xs.size = cs.length) (hk : ∀ c ∈ cs, c.cellOk = true) (hr : ∀ i (h1 : i < xs.size) (h2 : i < cs.length), Rep w β Z xs[i] cs[i]) : Rep w β Z (.agg xs) (.agg cs)
  | tup {xs : Array Value} {cs : List AV} (h : xs.size = cs.length) (hr : ∀ i (h1 : i < xs.size) (h2 : i < cs.length), Rep w β Z xs[i] cs[i]) : Rep w β Z (.tuple xs) (.tup cs)
  | slz (base : Option Addr) (cap : Nat) (own : Bool) (sz : Nat) (ho : own = true → cap = 0) : Rep w β Z (.slice base 0 cap) (.sl own sz [])
  | sl {a : Addr} {cap : Nat} {own : Bool} {els : List AV} {sz : Nat} (f : Nat → Value) (hs : a.spot = none) (hne : els ≠ []) (hcap : els.length ≤ cap) (hpos : 0 < sz) (hsz : ∀ x ∈ els, x.cells.length = sz) (hk : ∀ c ∈ flat els, c.cellOk = true)
      (hc : ∀ k, k < (flat els).length → w.cell? ⟨a.block, a.off + k, none⟩ = some (f k)) (hz : ∀ k, k < (flat els).length → Z a.block (a.off + k) = 1)
      (hr : ∀ k (h : k < (flat els).length), Rep w β Z (f k) (flat els)[k]) : Rep w β Z (.slice (some a) els.length cap) (.sl own sz els)
  | ptr {b blk : Nat} (off : Nat) (h : β b = some blk) : Rep w β Z (.pointer (some ⟨blk, off, none⟩)) (.ptr b off)
  | ep {blk o : Nat} {x : AV} (off : Nat) (f : Nat → Value) (hk : ∀ c ∈ x.cells, c.cellOk = true) (hc : ∀ k, k < x.cells.length → w.cell? ⟨blk, o + k, none⟩ = some (f k)) (hz : ∀ k, k < x.cells.length → Z blk (o + k) = 1)
      (hr : ∀ k (h : k < x.cells.length), Rep w β Z (f k) x.cells[k]) : Rep w β Z (.pointer (some ⟨blk, o + off, none⟩)) (.ep x off)
  | fn (f : Nat) {xs : Array Value} {cs : List AV} (h : xs.size = cs.length) (hr : ∀ i (h1 : i < xs.size) (h2 : i < cs.length), Rep w β Z xs[i] cs[i]) : Rep w β Z (.func (.func f) #[] xs) (.fn f cs)
  | mp {b r : Nat} (h : β b = some r) : Rep w β Z (.map (some r)) (.mp b)
  | ms {b blk cap n : Nat} {shape : Option Nat} {tight : Bool} (off : Nat) (h : β b = some blk) (hn : 0 < n) (hcap : n ≤ cap) (ht : tight = true → cap = n) : Rep w β Z (.slice (some ⟨blk, off, none⟩) n cap) (.ms b off n shape tight)
  | msz {b blk off cap : Nat} {shape : Option Nat} {tight : Bool} (base : Option Addr) (h : β b = some blk) (ht : tight = true → cap = 0) : Rep w β Z (.slice base 0 cap) (.ms b off 0 shape tight)

theorem mem_bnd_get {cs : List AV} {i : Nat} (h : i < cs.length) : cs[i].bnd ≤ AV.bndL cs := AV.bnd_mem (List.getElem_mem h)
theorem bndL_flat {els : List AV} (hk : ∀ c ∈ flat els, c.cellOk = true) : AV.bndL (flat els) = AV.bndL els := by
  induction els with
  | nil => rfl
  | cons x l ih =>
    rw [flat_cons, AV.bndL_append, ih (fun c hc => hk c (by simp [flat_cons, hc]))]
    have hx : AV.bndL x.cells = x.bnd := by cases x <;> simp [AV.cells, AV.bndL, AV.bnd]
    simp [AV.bndL, hx]

theorem Rep.mono {w w' : World} {β β' : Bt} {Z Z' : Ct} {x : Value} {a : AV} (h : Rep w β Z x a) (hb : ∀ b, b < a.bnd → ∀ blk, β b = some blk → β' b = some blk)
    (hz : ∀ blk off, Z blk off = 1 → Z' blk off = 1) (hc : ∀ blk off, Z blk off = 1 → w'.cell? ⟨blk, off, none⟩ = w.cell? ⟨blk, off, none⟩) : Rep w' β' Z' x a := by
  induction h with
  | any x => exact .any x
  | undef => exact .undef
  | bool b => exact .bool b
  | int k n => exact .int k n
  | str l => exact .str l
  | nilp => exact .nilp
  | nilm => exact .nilm
  | agg h hk hr ih => exact .agg h hk fun i h1 h2 => ih i h1 h2 (fun b hlt => hb b (Nat.lt_of_lt_of_le hlt (mem_bnd_get h2)))
  | tup h hr ih => exact .tup h fun i h1 h2 => ih i h1 h2 (fun b hlt => hb b (Nat.lt_of_lt_of_le hlt (mem_bnd_get h2)))
  | slz base cap own sz ho => exact .slz base cap own sz ho
  | sl f hs hne hcap hpos hsz hk hcc hzz hr ih =>
    refine .sl f hs hne hcap hpos hsz hk (fun k hlt => ?_) (fun k hlt => hz _ _ (hzz k hlt)) (fun k hlt => ih k hlt (fun b hb' => hb b ?_))
    · rw [hc _ _ (hzz k hlt)]; exact hcc k hlt
    · refine Nat.lt_of_lt_of_le hb' ?_
      have := mem_bnd_get hlt
      rw [bndL_flat hk] at this
      exact this
  | ptr off h => exact .ptr off (hb _ (by simp [AV.bnd]) _ h)
  | ep off f hk hcc hzz hr ih =>
    rename_i blk o x
    have hx : AV.bndL x.cells = x.bnd := by cases x <;> simp [AV.cells, AV.bndL, AV.bnd]
    refine .ep off f hk (fun k hlt => ?_) (fun k hlt => hz _ _ (hzz k hlt)) (fun k hlt => ih k hlt (fun b hb' => hb b ?_))
    · rw [hc _ _ (hzz k hlt)]; exact hcc k hlt
    · refine Nat.lt_of_lt_of_le hb' ?_
      have := mem_bnd_get hlt
      rw [hx] at this
      exact this
  | fn f h hr ih => exact .fn f h fun i h1 h2 => ih i h1 h2 (fun b hlt => hb b (Nat.lt_of_lt_of_le hlt (mem_bnd_get h2)))
  | mp h => exact .mp (hb _ (by simp [AV.bnd]) _ h)
  | ms off h hn hcap ht => exact .ms off (hb _ (by simp [AV.bnd]) _ h) hn hcap ht
  | msz base h ht => exact .msz base (hb _ (by simp [AV.bnd]) _ h) ht

theorem eraseL_get {cs : List AV} {i : Nat} (h : i < (AV.eraseL cs).length) : (AV.eraseL cs)[i] = (cs[i]'(by simpa [AV.eraseL_eq] using h)).erase := by
  simp [AV.eraseL_eq]

theorem Rep.erase {w : World} {β : Bt} {Z : Ct} {x : Value} {a : AV} (h : Rep w β Z x a) : Rep w β Z x a.erase := by
  induction h with
  | any x => exact .any x
  | undef => exact .undef
  | bool b => exact .bool b
  | int k n => exact .int k n
  | str l => exact .str l
  | nilp => exact .nilp
  | nilm => exact .nilm
  | agg h hk hr ih =>
    refine .agg (by simp [AV.eraseL_eq, h]) (fun c hc => ?_) (fun i h1 h2 => ?_)
    · rw [AV.eraseL_eq] at hc
      obtain ⟨c', hm, rfl⟩ := List.mem_map.1 hc
      rw [AV.erase_cellOk]
      exact hk c' hm
    · rw [eraseL_get h2]
      exact ih i h1 _
  | tup h hr ih =>
    refine .tup (by simp [AV.eraseL_eq, h]) (fun i h1 h2 => ?_)
    rw [eraseL_get h2]
    exact ih i h1 _
  | slz base cap own sz ho => exact .slz base cap false sz (by simp)
  | sl f hs hne hcap hpos hsz hk hcc hzz hr ih => exact .sl f hs hne hcap hpos hsz hk hcc hzz hr
  | ptr off h => exact .ptr off h
  | ep off f hk hcc hzz hr ih => exact .ep off f hk hcc hzz hr
  | fn f h hr ih => exact .fn f h hr
  | mp h => exact .mp h
  | ms off h hn hcap ht => exact .ms off h hn hcap ht
  | msz base h ht => exact .msz base h ht

/-! ### whose cells -/
mutual
/-- Does a value bring the right to write a cell: how often? -/
def mu : AV → Value → Ct
  | .agg cs, .agg xs, k, o => muL cs xs.toList k o
  | .tup cs, .tuple xs, k, o => muL cs xs.toList k o
  | .sl true sz (_ :: _), .slice (some a) n cap, k, o => if k = a.block ∧ a.off + n * sz ≤ o ∧ o < a.off + cap * sz then 1 else 0
  | _, _, _, _ => 0
def muL : List AV → List Value → Ct
  | c :: cs, x :: xs, k, o => mu c x k o + muL cs xs k o
  | _, _, _, _ => 0
end
mutual
theorem mu_erase : ∀ (a : AV) (x : Value) (k o : Nat), mu a.erase x k o = 0
  | .agg cs, x, k, o => by cases x <;> simp [AV.erase, mu, muL_erase cs]
  | .tup cs, x, k, o => by cases x <;> simp [AV.erase, mu, muL_erase cs]
  | .sl _ _ els, x, k, o => by cases els <;> simp [AV.erase, mu]
  | .any, x, k, o | .undef, x, k, o | .bool _, x, k, o | .int _ _, x, k, o | .str _, x, k, o | .nilp, x, k, o | .nilm, x, k, o | .ptr _ _, x, k, o | .ep _ _, x, k, o | .fn _ _, x, k, o | .mp _, x, k, o | .ms _ _ _ _ _, x, k, o => by simp [AV.erase, mu]
theorem muL_erase : ∀ (l : List AV) (xs : List Value) (k o : Nat), muL (AV.eraseL l) xs k o = 0
  | [], xs, k, o => by simp [AV.eraseL, muL]
  | a :: l, [], k, o => by simp [AV.eraseL, muL]
  | a :: l, x :: xs, k, o => by simp [AV.eraseL, muL, mu_erase a, muL_erase l]
end

def sumN : Nat → (Nat → Nat) → Nat
  | 0, _ => 0
  | n + 1, f => sumN n f + f n
theorem sumN_congr {n : Nat} {f g : Nat → Nat} (h : ∀ i, i < n → f i = g i) : sumN n f = sumN n g := by
  induction n with
  | zero => rfl
  | succ n ih => simp only [sumN]; rw [ih (fun i hi => h i (by omega)), h n (by omega)]
theorem sumN_le {n : Nat} {f g : Nat → Nat} (h : ∀ i, i < n → f i ≤ g i) : sumN n f ≤ sumN n g := by
  induction n with
  | zero => exact Nat.le_refl _
  | succ n ih => simp only [sumN]; have := ih (fun i hi => h i (by omega)); have := h n (by omega); omega
/-- One place is turned. -/
theorem sumN_at {n d : Nat} (hd : d < n) {f g : Nat → Nat} (h : ∀ i, i < n → i ≠ d → f i = g i) : sumN n f + g d = sumN n g + f d := by
  induction n with
  | zero => omega
  | succ n ih =>
    simp only [sumN]
    by_cases e : d = n
    · subst e
      rw [sumN_congr (n := d) (f := f) (g := g) (fun i hi => h i (by omega) (by omega))]
      omega
    · have := ih (by omega) (fun i hi hne => h i (by omega) hne)
      have := h n (by omega) (by omega)
      omega
theorem sumN_ge {n d : Nat} (hd : d < n) (f : Nat → Nat) : f d ≤ sumN n f := by
  induction n with
  | zero => omega
  | succ n ih =>
    simp only [sumN]
    by_cases e : d = n
    · subst e; omega
    · have := ih (by omega); omega
theorem sumN_zero (n : Nat) : sumN n (fun _ => 0) = 0 := by
  induction n with
  | zero => rfl
  | succ n ih => simp [sumN, ih]
theorem sumN_add (n : Nat) (f g : Nat → Nat) : sumN n (fun i => f i + g i) = sumN n f + sumN n g := by
  induction n with
  | zero => rfl
  | succ n ih => simp only [sumN, ih]; omega
theorem sumN_ext {n m : Nat} (h : n ≤ m) {f : Nat → Nat} (hz : ∀ i, n ≤ i → i < m → f i = 0) : sumN m f = sumN n f := by
  induction m with
  | zero => have : n = 0 := by omega
            subst this; rfl
  | succ m ih =>
    by_cases e : n = m + 1
    · subst e; rfl
    · simp only [sumN]; rw [ih (by omega) (fun i h1 h2 => hz i h1 (by omega)), hz m (by omega) (by omega)]; omega

/-- What the slots may write. -/
def muE (e : Env) (ts : Array Value) : Ct := fun k o => sumN ts.size fun t => mu (e.get t) (ts.getD t Go.undef) k o

/-- The values of the first cells of a block. -/
def cellsAt (w : World) (blk n : Nat) : List Value := (List.range n).map fun j => (w.cell? ⟨blk, j, none⟩).getD Go.undef

/-- What one box may write. -/
def muB (β : Bt) (w : World) (b : Nat) : Box → Ct
  | .row cs, k, o => match β b with
    | some blk => (if k = blk ∧ o < cs.length then 1 else 0) + muL cs (cellsAt w blk cs.length) k o
    | none => 0
  | .map _, k, o => match β b with
    | some r => if k = r ∧ o = 0 then 1 else 0
    | none => 0
  | .hid, _, _ => 0
def muH (β : Bt) (h : Heap) (w : World) : Ct := fun k o => sumN h.length fun b => muB β w b (h.getD b .hid) k o

/-- What holds of the memory. X: cells that are to stay; own: cells that whoever runs may write, beside the boxes. -/
structure Inv (B0 : Nat) (X : Ct) (β : Bt) (Z : Ct) (h : Heap) (w : World) (own : Ct) : Prop where
  sep : ∀ k o, Z k o + X k o + own k o + muH β h w k o ≤ 1
  live : ∀ k o, 0 < own k o + muH β h w k o → B0 ≤ k ∧ (∃ v, w.cell? ⟨k, o, none⟩ = some v) ∧ w.frozen? ⟨k, o, none⟩ = false
  dom : ∀ k o, 0 < Z k o + X k o → k < w.heap.size
  box : ∀ b blk, β b = some blk → b < h.length ∧ blk < w.heap.size
  row : ∀ b cs blk, h[b]? = some (.row cs) → β b = some blk → ∀ j (hj : j < cs.length), ∃ v, w.cell? ⟨blk, j, none⟩ = some v ∧ Rep w β Z v cs[j]
  old : ∀ b cs, h[b]? = some (.row cs) → AV.bndL cs ≤ b ∧ ∀ c ∈ cs, c.cellOk = true
  base : B0 ≤ w.heap.size

/-- What became of the memory. -/
structure Ext (B0 n : Nat) (X : Ct) (β : Bt) (Z : Ct) (w : World) (β' : Bt) (Z' : Ct) (w' : World) : Prop where
  size : w.heap.size ≤ w'.heap.size
  keepZ : ∀ k o, Z k o = 1 → w'.cell? ⟨k, o, none⟩ = w.cell? ⟨k, o, none⟩
  keepX : ∀ k o, 0 < X k o → w'.cell? ⟨k, o, none⟩ = w.cell? ⟨k, o, none⟩ ∧ w'.frozen? ⟨k, o, none⟩ = w.frozen? ⟨k, o, none⟩
  zmono : ∀ k o, Z k o = 1 → Z' k o = 1
  bmono : ∀ b, b < n → ∀ blk, β b = some blk → β' b = some blk
  low : ∀ k, k < B0 → w'.heap[k]? = w.heap[k]?
  os : w'.os = w.os
  tape : w'.tape = w.tape
  output : w'.output = w.output

theorem Ext.refl (B0 n : Nat) (X : Ct) (β : Bt) (Z : Ct) (w : World) : Ext B0 n X β Z w β Z w :=
  ⟨Nat.le_refl _, fun _ _ _ => rfl, fun _ _ _ => ⟨rfl, rfl⟩, fun _ _ h => h, fun _ _ _ h => h, fun _ _ => rfl, rfl, rfl, rfl⟩
theorem Ext.trans {B0 n n' : Nat} {X : Ct} {β β1 β2 : Bt} {Z Z1 Z2 : Ct} {w w1 w2 : World} (h : Ext B0 n X β Z w β1 Z1 w1) (hn : n ≤ n') (h' : Ext B0 n' X β1 Z1 w1 β2 Z2 w2) : Ext B0 n X β Z w β2 Z2 w2 :=
  ⟨Nat.le_trans h.size h'.size, fun k o hz => (h'.keepZ k o (h.zmono k o hz)).trans (h.keepZ k o hz),
   fun k o hx => ⟨(h'.keepX k o hx).1.trans (h.keepX k o hx).1, (h'.keepX k o hx).2.trans (h.keepX k o hx).2⟩,
   fun k o hz => h'.zmono k o (h.zmono k o hz), fun b hb blk he => h'.bmono b (Nat.lt_of_lt_of_le hb hn) blk (h.bmono b hb blk he),
   fun k hk => (h'.low k hk).trans (h.low k hk), h'.os.trans h.os, h'.tape.trans h.tape, h'.output.trans h.output⟩

theorem Rep.bnd_le {w : World} {β : Bt} {Z : Ct} {x : Value} {a : AV} {n : Nat} (h : Rep w β Z x a) (hb : ∀ b blk, β b = some blk → b < n) : a.bnd ≤ n := by
  induction h with
  | agg h hk hr ih => simp only [AV.bnd]; refine AV.bndL_le.2 fun c hc => ?_; obtain ⟨i, hi, rfl⟩ := List.getElem_of_mem hc; exact ih i (by omega) hi
  | tup h hr ih => simp only [AV.bnd]; refine AV.bndL_le.2 fun c hc => ?_; obtain ⟨i, hi, rfl⟩ := List.getElem_of_mem hc; exact ih i (by omega) hi
  | fn f h hr ih => simp only [AV.bnd]; refine AV.bndL_le.2 fun c hc => ?_; obtain ⟨i, hi, rfl⟩ := List.getElem_of_mem hc; exact ih i (by omega) hi
  | sl f hs hne hcap hpos hsz hk hcc hzz hr ih =>
    simp only [AV.bnd]; rw [← bndL_flat hk]; refine AV.bndL_le.2 fun c hc => ?_; obtain ⟨i, hi, rfl⟩ := List.getElem_of_mem hc; exact ih i hi
  | ep off f hk hcc hzz hr ih =>
    rename_i blk o x
    have hx : AV.bndL x.cells = x.bnd := by cases x <;> simp [AV.cells, AV.bndL, AV.bnd]
    simp only [AV.bnd]; rw [← hx]; refine AV.bndL_le.2 fun c hc => ?_; obtain ⟨i, hi, rfl⟩ := List.getElem_of_mem hc; exact ih i hi
  | ptr off h => have := hb _ _ h; simp only [AV.bnd]; omega
  | mp h => have := hb _ _ h; simp only [AV.bnd]; omega
  | ms off h => have := hb _ _ h; simp only [AV.bnd]; omega
  | msz base h => have := hb _ _ h; simp only [AV.bnd]; omega
  | _ => simp [AV.bnd, AV.bndL]

theorem Rep.ext {B0 n : Nat} {X : Ct} {β β' : Bt} {Z Z' : Ct} {w w' : World} {x : Value} {a : AV} (h : Rep w β Z x a) (he : Ext B0 n X β Z w β' Z' w') (hn : a.bnd ≤ n) : Rep w' β' Z' x a :=
  h.mono (fun b hb blk e => he.bmono b (by omega) blk e) he.zmono he.keepZ

/-- The frame of a call stands for its slots. -/
structure RS (N B0 : Nat) (X : Ct) (β : Bt) (Z : Ct) (e : Env) (h : Heap) (a : Act) (w : World) : Prop where
  size : N ≤ a.tmps.size
  env : ∀ t, Rep w β Z (a.tmps.getD t Go.undef) (e.get t)
  inv : Inv B0 X β Z h w (muE e a.tmps)
  defs : a.defers = []

end Go.Proofs.YtfihinodhhhllaaGreat
