/- Regions, in the text's order or in any that their edges allow. -/
import Derived.Test.YtfihinodhhhllaaGreatIvBubble
set_option linter.unusedVariables false
set_option linter.unusedSimpArgs false
namespace Go.Proofs.YtfihinodhhhllaaGreat
open Go

def allocIx (l : List LO) : List Nat := l.filterMap fun lo => match lo.op with | .alloc k _ => some k | _ => none
def memFree (lo : LO) : Bool :=
  match lo.op with
  | .load .. | .store .. | .call .. | .callv .. | .box .. | .alloc .. | .mkslice .. | .copy .. => false
  | _ => true
def direct (o : Oper) : List Nat := (o.after.toList.filter (Region.binds .any)).map (·.on)
def befsGo : List Oper → List (List Nat) → List (List Nat)
  | [], acc => acc
  | o :: l, acc => befsGo l (acc ++ [(direct o ++ (direct o).flatMap fun d => acc.getD d []).eraseDups])
def ckPairs (ops : List LO) (ups : List (Nat × Nat)) (B : List (List Nat)) : Bool :=
  (List.range ops.length).all fun i => (List.range i).all fun j =>
    (B.getD i []).contains j || (match ops[j]?, ops[i]? with
      | some x, some y => slotsApart x y && (memFree x || memFree y || ups.contains (j, i))
      | _, _ => false)
def ckEdges (mops : List Oper) : Bool := (List.range mops.length).all fun i => match mops[i]? with
  | some o => (direct o).all fun d => decide (d < i)
  | none => false
def ckLOs (P : Program) (ops : Array Oper) (nt : Nat) : List LO → List Oper → Bool
  | [], [] => true
  | x :: xs, y :: ys => ckLO P ops nt x y && ckLOs P ops nt xs ys
  | _, _ => false
def ckRegion (P : Program) (nt : Nat) (draw : Bool) (nal : Nat) (ops : List LO) (ups : List (Nat × Nat)) (mops : Array Oper) (mdraw : Bool) : Bool :=
  draw == mdraw && ckLOs P mops nt ops mops.toList && decide (allocIx ops).Nodup && (allocIx ops).all (fun k => decide (k < nal)) &&
    (!draw || (ckEdges mops.toList && ckPairs ops ups (befsGo mops.toList [])))

section
variable {P : Program} {w w' : World} {β β' : Bt} {Z Z' : Ct} {h h' : Heap} {B0 : Nat} {X : Ct} {e e' ef : Env} {a : Act} {K : Callee} {base nt : Nat} {mops : Array Oper} {hf : Heap}

/-- The boxes that have been laid aside and not been taken. -/
def PendR (base : Nat) (h : Heap) (β : Bt) (R : List LO) : Prop := ∀ lo ∈ R, ∀ k zs, lo.op = .alloc k zs → β (base + k) = none ∧ h[base + k]? = some .hid

theorem allocIx_mem {R : List LO} {lo : LO} (hm : lo ∈ R) {k : Nat} {zs : List AV} (hk : lo.op = .alloc k zs) : k ∈ allocIx R := by
  unfold allocIx
  exact List.mem_filterMap.2 ⟨lo, hm, by simp [hk]⟩

theorem PendR.step {lo : LO} {R : List LO} (hp : PendR base h β R) (hk : KeepB base lo h h' β β') (hn : ∀ lo' ∈ R, ∀ k zs k' zs', lo'.op = .alloc k zs → lo.op = .alloc k' zs' → k ≠ k') : PendR base h' β' R := by
  intro lo' hm k zs hop
  obtain ⟨h1, h2⟩ := hp lo' hm k zs hop
  have hlt : base + k < h.length := (List.getElem?_eq_some_iff.1 h2).1
  obtain ⟨q1, q2⟩ := hk (base + k) hlt (fun k' zs' hop' => by have := hn lo' hm k zs k' zs' hop hop'; omega)
  exact ⟨by rw [q1]; exact h1, q2 h2⟩

/-- What is known when a region has run. -/
def AfterR (nt B0 : Nat) (X : Ct) (base : Nat) (β : Bt) (Z : Ct) (h : Heap) (w : World) (β' : Bt) (Z' : Ct) (e' : Env) (h' : Heap) (a' : Act) (w' : World) : Prop :=
  RS nt B0 X β' Z' e' h' a' w' ∧ Ext B0 base X β Z w β' Z' w' ∧ (∀ b, b < base → β' b = β b ∧ (h[b]? = some .hid → h'[b]? = some .hid)) ∧ base ≤ h'.length

theorem run_list (hK : CallOK P K) {Q : Exit → Act → World → Prop} : ∀ (l : List LO) (ol : List Oper) {e : Env} {h : Heap} {a : Act} {w : World} {β : Bt} {Z : Ct}, runOps K base l e h = some (ef, hf) → ckLOs P mops nt l ol = true → (allocIx l).Nodup → RS nt B0 X β Z e h a w → PendR base h β l → base ≤ h.length →
    (∀ β' Z' a' w', AfterR nt B0 X base β Z h w β' Z' ef hf a' w' → Q .normal a' w') → wpList P mops Q ol a w
  | [], [], e, h, a, w, β, Z, hr, _, _, hrs, _, hb, hq => by
    simp only [runOps] at hr
    injection hr with hr; injection hr with q1 q2; subst q1; subst q2
    exact hq β Z a w ⟨hrs, Ext.refl .., fun _ _ => ⟨rfl, id⟩, hb⟩
  | [], _ :: _, _, _, _, _, _, _, _, hck, _, _, _, _, _ => by simp [ckLOs] at hck
  | _ :: _, [], _, _, _, _, _, _, _, hck, _, _, _, _, _ => by simp [ckLOs] at hck
  | lo :: l, o :: ol, e, h, a, w, β, Z, hr, hck, hnd, hrs, hp, hb, hq => by
    simp only [ckLOs, Bool.and_eq_true] at hck
    simp only [runOps] at hr
    split at hr
    · rename_i e2 h2 hlo
      have hnd2 : (allocIx l).Nodup := by
        unfold allocIx at hnd ⊢
        simp only [List.filterMap_cons] at hnd
        split at hnd
        · exact hnd
        · exact (List.nodup_cons.1 hnd).2
      have hne : ∀ lo' ∈ l, ∀ k zs k' zs', lo'.op = .alloc k zs → lo.op = .alloc k' zs' → k ≠ k' := by
        intro lo' hm k zs k' zs' h1 h2 he
        subst he
        unfold allocIx at hnd
        simp only [List.filterMap_cons, h2, List.nodup_cons] at hnd
        exact hnd.1 (allocIx_mem hm h1)
      have := lo_sound (Q := Q) (next := wpList P mops Q ol) hK hck.1 hlo hrs (fun k zs hk => hp lo (by simp) k zs hk) (fun β' Z' a' w' r1 r2 r3 r4 => by
        have hkb : ∀ b, b < base → β' b = β b ∧ (h[b]? = some .hid → h2[b]? = some .hid) := fun b hlt => r3 b (by omega) (fun k zs _ => by omega)
        refine run_list hK l ol hr hck.2 hnd2 r1 (PendR.step (fun lo' hm => hp lo' (by simp [hm])) r3 hne) (by omega) ?_
        rintro β2 Z2 a2 w2 ⟨s1, s2, s3, s4⟩
        refine hq β2 Z2 a2 w2 ⟨s1, (r2.low_n hb).trans (Nat.le_refl _) s2, fun b hlt => ⟨(s3 b hlt).1.trans (hkb b hlt).1, fun hh => (s3 b hlt).2 ((hkb b hlt).2 hh)⟩, s4⟩)
      exact this
    · simp at hr

/-! ### any order -/
theorem befs_closed (mops : List Oper) (L : Nat → Prop) (hL : ∀ k, L k → ∀ o, mops[k]? = some o → ∀ d ∈ direct o, L d) (hedge : ∀ (i : Nat) (o : Oper), mops[i]? = some o → ∀ d ∈ direct o, d < i) :
    ∀ (l : List Oper) (acc : List (List Nat)), mops = (mops.take acc.length) ++ l → acc.length ≤ mops.length → (∀ i, i < acc.length → ∀ o, mops[i]? = some o → (∀ d ∈ direct o, L d) → ∀ j ∈ acc.getD i [], L j) →
      ∀ i, i < mops.length → ∀ o, mops[i]? = some o → (∀ d ∈ direct o, L d) → ∀ j ∈ (befsGo l acc).getD i [], L j
  | [], acc, hm, hle, hacc, i, hi, o, ho, hd, j, hj => by
    have : acc.length = mops.length := by
      have := congrArg List.length hm
      simp at this
      omega
    exact hacc i (by omega) o ho hd j hj
  | x :: l, acc, hm, hle, hacc, i, hi, o, ho, hd, j, hj => by
    have hx : mops[acc.length]? = some x := by
      rw [hm, List.getElem?_append_right (by rw [List.length_take]; omega), List.length_take, Nat.min_eq_left hle, Nat.sub_self]
      rfl
    have hlt : acc.length < mops.length := (List.getElem?_eq_some_iff.1 hx).1
    refine befs_closed mops L hL hedge l (acc ++ [(direct x ++ (direct x).flatMap fun d => acc.getD d []).eraseDups]) ?_ (by simp; omega) ?_ i hi o ho hd j hj
    · rw [List.length_append, List.length_singleton, List.take_succ_eq_append_getElem hlt, List.append_assoc]
      have : mops[acc.length] = x := by rw [List.getElem?_eq_getElem hlt] at hx; exact Option.some.inj hx
      rw [this]
      exact hm
    · intro k hk o' ho' hd' j' hj'
      by_cases hk2 : k < acc.length
      · have e : (acc ++ [(direct x ++ (direct x).flatMap fun d => acc.getD d []).eraseDups]).getD k [] = acc.getD k [] := by
          simp only [List.getD_eq_getElem?_getD, List.getElem?_append_left hk2]
        rw [e] at hj'
        exact hacc k hk2 o' ho' hd' j' hj'
      · have hke : k = acc.length := by simp at hk; omega
        subst hke
        rw [hx] at ho'
        injection ho' with ho'
        subst ho'
        have e : (acc ++ [(direct x ++ (direct x).flatMap fun d => acc.getD d []).eraseDups]).getD acc.length [] = (direct x ++ (direct x).flatMap fun d => acc.getD d []).eraseDups := by
          simp [List.getD]
        rw [e, List.mem_eraseDups, List.mem_append] at hj'
        rcases hj' with hj' | hj'
        · exact hd' j' hj'
        · obtain ⟨d, hd1, hd2⟩ := List.mem_flatMap.1 hj'
          have hdl := hedge _ _ hx d hd1
          obtain ⟨od, hod⟩ : ∃ od, mops[d]? = some od := ⟨mops[d]'(by omega), List.getElem?_eq_getElem (by omega)⟩
          exact hacc d hdl od hod (fun d' hdd => hL d (hd' d hd1) od hod d' hdd) j' hd2

theorem memFree_touch {lo : LO} (hm : memFree lo = true) (m : Nat) (e : Env) : lo.touch base m e = .none := by
  unfold LO.touch
  split
  · unfold memFree at hm
    cases hlo : lo.op <;> simp [hlo] at hm <;> simp [touchOf]
  · rfl

theorem ckLOs_get : ∀ (l : List LO) (ol : List Oper), ckLOs P mops nt l ol = true → l.length = ol.length ∧ ∀ (i : Nat) (lo : LO) (o : Oper), l[i]? = some lo → ol[i]? = some o → ckLO P mops nt lo o = true
  | [], [], _ => ⟨rfl, by simp⟩
  | [], _ :: _, h => by simp [ckLOs] at h
  | _ :: _, [], h => by simp [ckLOs] at h
  | x :: xs, y :: ys, h => by
    simp only [ckLOs, Bool.and_eq_true] at h
    obtain ⟨h1, h2⟩ := ckLOs_get xs ys h.2
    refine ⟨by simp [h1], fun i lo o hi ho => ?_⟩
    cases i with
    | zero => simp at hi ho; subst hi; subst ho; exact h.1
    | succ i => exact h2 i lo o (by simpa using hi) (by simpa using ho)

theorem mem_ready {ops : Array Oper} {listed : Array Bool} {i : Nat} (h : i ∈ Region.ready .any ops listed) : i < ops.size ∧ listed.getD i true = false ∧ ∃ o, ops[i]? = some o ∧ ∀ d ∈ direct o, listed.getD d false = true := by
  unfold Region.ready at h
  simp only [List.mem_filter, List.mem_range, Bool.and_eq_true, Bool.not_eq_true'] at h
  obtain ⟨h1, h2, h3⟩ := h
  refine ⟨h1, h2, ops[i], Array.getElem?_eq_getElem h1, fun d hd => ?_⟩
  rw [Array.getElem?_eq_getElem h1] at h3
  simp only [Option.map_some, Option.getD_some, Array.all_eq_true, Bool.or_eq_true, Bool.not_eq_true'] at h3
  unfold direct at hd
  simp only [List.mem_map, List.mem_filter] at hd
  obtain ⟨ed, ⟨hm, hb⟩, rfl⟩ := hd
  obtain ⟨j, hj, rfl⟩ := List.getElem_of_mem hm
  have := h3 j (by simpa using hj)
  simp only [Array.getElem_toList] at hb
  rcases this with h | h
  · rw [h] at hb; simp at hb
  · simpa using h
theorem ready_of {ops : Array Oper} {listed : Array Bool} {i : Nat} {o : Oper} (ho : ops[i]? = some o) (h2 : listed.getD i true = false) (h3 : ∀ d ∈ direct o, listed.getD d false = true) : i ∈ Region.ready .any ops listed := by
  unfold Region.ready
  simp only [List.mem_filter, List.mem_range, Bool.and_eq_true, Bool.not_eq_true']
  obtain ⟨h1, h1'⟩ := Array.getElem?_eq_some_iff.1 ho
  refine ⟨h1, h2, ?_⟩
  rw [ho]
  simp only [Option.map_some, Option.getD_some, Array.all_eq_true, Bool.or_eq_true, Bool.not_eq_true']
  intro j hj
  by_cases hb : Region.binds .any o.after[j] = true
  · right
    refine h3 _ ?_
    unfold direct
    refine List.mem_map.2 ⟨o.after[j], List.mem_filter.2 ⟨?_, hb⟩, rfl⟩
    exact Array.getElem_mem_toList hj
  · left
    simpa using hb

theorem touches_none : ∀ (l : List LO) (k : Nat) (e : Env) (h : Heap), memFree (l.getD k default) = true → (touches K base l e h).getD k .none = .none
  | [], k, e, h, _ => by simp [touches]
  | lo :: l, 0, e, h, hm => by
    simp only [touches, List.getD_cons_zero] at hm ⊢
    exact memFree_touch hm _ _
  | lo :: l, k + 1, e, h, hm => by
    simp only [touches, List.getD_cons_succ] at hm ⊢
    split
    · exact touches_none l k _ _ hm
    · simp
theorem clash_none (t : Touch) : t.clash .none = false ∧ Touch.clash .none t = false := by cases t <;> exact ⟨rfl, rfl⟩
theorem allocIx_inj : ∀ (l : List LO), (allocIx l).Nodup → ∀ (i j : Nat) (x y : LO) (k : Nat) (zs zs' : List AV), l[i]? = some x → l[j]? = some y → x.op = .alloc k zs → y.op = .alloc k zs' → i = j
  | [], _, i, j, x, y, k, zs, zs', hi, _, _, _ => by simp at hi
  | lo :: l, hnd, i, j, x, y, k, zs, zs', hi, hj, hx, hy => by
    have hnd2 : (allocIx l).Nodup := by
      unfold allocIx at hnd ⊢
      simp only [List.filterMap_cons] at hnd
      split at hnd
      · exact hnd
      · exact (List.nodup_cons.1 hnd).2
    have hno : ∀ (y : LO) (zs : List AV), lo.op = .alloc k zs → y ∈ l → ∀ zs', y.op = .alloc k zs' → False := by
      intro y zs h1 h2 zs' h3
      unfold allocIx at hnd
      simp only [List.filterMap_cons, h1, List.nodup_cons] at hnd
      exact hnd.1 (allocIx_mem h2 h3)
    cases i with
    | zero =>
      simp at hi; subst hi
      cases j with
      | zero => rfl
      | succ j => exact (hno y zs hx (List.mem_of_getElem? (by simpa using hj)) zs' hy).elim
    | succ i =>
      cases j with
      | zero =>
        simp at hj; subst hj
        exact (hno x zs' hy (List.mem_of_getElem? (by simpa using hi)) zs hx).elim
      | succ j => rw [allocIx_inj l hnd2 i j x y k zs zs' (by simpa using hi) (by simpa using hj) hx hy]

/-- What holds when some operations have run, in whatever order. -/
structure DInv (mops : Array Oper) (ops : List LO) (ups : List (Nat × Nat)) (K : Callee) (base : Nat) (listed : Array Bool) (R : List Nat) (e : Env) (h : Heap) (ef : Env) (hf : Heap) : Prop where
  size : listed.size = mops.size
  mem : ∀ i, i ∈ R ↔ i < mops.size ∧ listed.getD i true = false
  sorted : R.Pairwise (· < ·)
  down : ∀ k, listed.getD k false = true → ∀ o, mops[k]? = some o → ∀ d ∈ direct o, listed.getD d false = true
  run : ∃ e', runOps K base (R.map fun i => ops.getD i default) e h = some (e', hf) ∧ EqE ef e'
  apart : ∀ i j, i < R.length → j < R.length → (R.getD i 0, R.getD j 0) ∈ ups → ((touches K base (R.map fun i => ops.getD i default) e h).getD i .none).clash ((touches K base (R.map fun i => ops.getD i default) e h).getD j .none) = false

theorem getD_set {listed : Array Bool} {i : Nat} (hi : i < listed.size) (k : Nat) (d : Bool) : (listed.setIfInBounds i true).getD k d = if k = i then true else listed.getD k d := by
  simp only [Array.getD_eq_getD_getElem?, Array.getElem?_setIfInBounds]
  by_cases h : i = k
  · subst h; simp [hi]
  · simp [h, Ne.symm h, eq_comm]

theorem run_any (hK : CallOK P K) (hKl : KLen K) {Q : Exit → Act → World → Prop} {ops : List LO} {ups : List (Nat × Nat)} (hck : ckLOs P mops nt ops mops.toList = true) (hnd : (allocIx ops).Nodup) (hE : ckEdges mops.toList = true) (hP : ckPairs ops ups (befsGo mops.toList []) = true) :
    ∀ (fuel : Nat) (listed : Array Bool) (R : List Nat) {e : Env} {h : Heap} {a : Act} {w : World} {β : Bt} {Z : Ct}, R.length ≤ fuel → DInv mops ops ups K base listed R e h ef hf → RS nt B0 X β Z e h a w → PendR base h β (R.map fun i => ops.getD i default) → base ≤ h.length →
      (∀ β' Z' a' w' e', EqE ef e' → AfterR nt B0 X base β Z h w β' Z' e' hf a' w' → Q .normal a' w') → wpAny P .any mops Q fuel listed a w := by
  obtain ⟨hlen, hget⟩ := ckLOs_get ops mops.toList hck
  have hlen' : ops.length = mops.size := by simpa using hlen
  have hedge : ∀ (i : Nat) (o : Oper), mops[i]? = some o → ∀ d ∈ direct o, d < i := by
    intro i o ho d hd
    have hi : i < mops.size := (Array.getElem?_eq_some_iff.1 ho).1
    unfold ckEdges at hE
    have := List.all_eq_true.1 hE i (by simpa using hi)
    rw [Array.getElem?_toList, ho] at this
    simpa using List.all_eq_true.1 this d hd
  have fin : ∀ {listed : Array Bool} {e : Env} {h : Heap} {a : Act} {w : World} {β : Bt} {Z : Ct}, DInv mops ops ups K base listed [] e h ef hf → RS nt B0 X β Z e h a w → base ≤ h.length →
      (∀ β' Z' a' w' e', EqE ef e' → AfterR nt B0 X base β Z h w β' Z' e' hf a' w' → Q .normal a' w') → Q .normal a w := by
    intro listed e h a w β Z hd hrs hb hq
    obtain ⟨e', h1, h2⟩ := hd.run
    simp only [List.map_nil, runOps] at h1
    injection h1 with h1; injection h1 with q1 q2
    subst q1; subst q2
    exact hq β Z a w _ h2 ⟨hrs, Ext.refl .., fun _ _ => ⟨rfl, id⟩, hb⟩
  intro fuel
  induction fuel with
  | zero =>
    intro listed R e h a w β Z hle hd hrs hp hb hq
    have hR : R = [] := List.length_eq_zero_iff.1 (by omega)
    subst hR
    refine ⟨?_, fin hd hrs hb hq⟩
    cases hr : Region.ready .any mops listed with
    | nil => rfl
    | cons i r =>
      have hi : i ∈ Region.ready .any mops listed := by rw [hr]; simp
      obtain ⟨h1, h2, _⟩ := mem_ready hi
      have := (hd.mem i).2 ⟨h1, h2⟩
      simp at this
  | succ fuel ih =>
    intro listed R e h a w β Z hle hd hrs hp hb hq
    refine ⟨fun hr => ?_, fun i hi => ?_⟩
    · cases R with
      | nil => exact fin hd hrs hb hq
      | cons i0 R' =>
        exfalso
        have hi0 := (hd.mem i0).1 (by simp)
        have ho : mops[i0]? = some mops[i0] := Array.getElem?_eq_getElem hi0.1
        have : i0 ∈ Region.ready .any mops listed := ready_of ho hi0.2 fun d hdd => by
          have hlt := hedge i0 _ ho d hdd
          by_cases hx : listed.getD d true = false
          · have hm := (hd.mem d).2 ⟨by omega, hx⟩
            rcases List.mem_cons.1 hm with rfl | hm
            · omega
            · have := (List.pairwise_cons.1 hd.sorted).1 d hm; omega
          · have hs : d < listed.size := by rw [hd.size]; omega
            simp only [Array.getD, hs, dif_pos] at hx ⊢
            simpa using hx
        rw [hr] at this
        simp at this
    · obtain ⟨h1, h2, o, ho, hpre⟩ := mem_ready hi
      have hiR : i ∈ R := (hd.mem i).2 ⟨h1, h2⟩
      obtain ⟨pre, post, rfl⟩ := List.append_of_mem hiR
      have hsp := List.pairwise_append.1 hd.sorted
      have hsp2 := List.pairwise_cons.1 hsp.2.1
      obtain ⟨e', hrun, hEq⟩ := hd.run
      have hmap : ((pre ++ i :: post).map fun i => ops.getD i default) = (pre.map fun i => ops.getD i default) ++ ops.getD i default :: (post.map fun i => ops.getD i default) := by simp
      have hmap2 : ((pre ++ post).map fun i => ops.getD i default) = (pre.map fun i => ops.getD i default) ++ (post.map fun i => ops.getD i default) := by simp
      have hap := hd.apart
      rw [hmap] at hrun hp hap
      have hlo : ops[i]? = some (ops.getD i default) := by
        have : i < ops.length := by omega
        rw [List.getElem?_eq_getElem this]; simp [List.getD, this]
      -- what lies before i waits for nothing of it
      have hpairs : ∀ j ∈ pre, slotsApart (ops.getD j default) (ops.getD i default) = true ∧ (memFree (ops.getD j default) = true ∨ memFree (ops.getD i default) = true ∨ (j, i) ∈ ups) := by
        intro j hj
        have hji : j < i := hsp.2.2 j hj i (by simp)
        have hjn : listed.getD j true = false := ((hd.mem j).1 (by simp [hj])).2
        unfold ckPairs at hP
        have := List.all_eq_true.1 hP i (by simp; omega)
        have := List.all_eq_true.1 this j (by simpa using hji)
        rw [Bool.or_eq_true] at this
        rcases this with hB | hB
        · exfalso
          have hcl := befs_closed mops.toList (fun k => listed.getD k false = true) (fun k hk o' ho' d hdd => hd.down k hk o' (by rw [Array.getElem?_toList] at ho'; exact ho') d hdd) (fun i o' ho' => hedge i o' (by rw [Array.getElem?_toList] at ho'; exact ho')) mops.toList [] (by simp) (by simp) (by simp) i (by simpa using h1) o (by rw [Array.getElem?_toList]; exact ho) hpre j (by simpa using hB)
          have hjs : j < listed.size := by rw [hd.size]; omega
          simp only [Array.getD, hjs, dif_pos] at hcl hjn
          rw [hcl] at hjn
          simp at hjn
        · have hjo : ops[j]? = some (ops.getD j default) := by
            have : j < ops.length := by omega
            rw [List.getElem?_eq_getElem this]; simp [List.getD, this]
          rw [hjo, hlo] at hB
          simp only [Bool.and_eq_true, Bool.or_eq_true, List.contains_eq_mem, decide_eq_true_eq] at hB
          exact ⟨hB.1, or_assoc.1 hB.2⟩
      have hbase : ∀ lo ∈ (pre.map fun i => ops.getD i default) ++ ops.getD i default :: (post.map fun i => ops.getD i default), ∀ k zs, lo.op = .alloc k zs → base + k < h.length := fun lo hm k zs hk => (List.getElem?_eq_some_iff.1 (hp lo hm k zs hk).2).1
      have htl := touches_length _ hrun
      have hclash : ∀ k, k < (pre.map fun i => ops.getD i default).length → ((touches K base ((pre.map fun i => ops.getD i default) ++ ops.getD i default :: (post.map fun i => ops.getD i default)) e h).getD k .none).clash ((touches K base ((pre.map fun i => ops.getD i default) ++ ops.getD i default :: (post.map fun i => ops.getD i default)) e h).getD (pre.map fun i => ops.getD i default).length .none) = false := by
        intro k hk
        simp only [List.length_map] at hk ⊢
        have hkR : (pre ++ i :: post).getD k 0 = pre[k] := by simp [List.getD, List.getElem?_append_left hk, hk]
        have hiR : (pre ++ i :: post).getD pre.length 0 = i := by simp [List.getD]
        have hkL : ((pre.map fun i => ops.getD i default) ++ ops.getD i default :: (post.map fun i => ops.getD i default)).getD k default = ops.getD pre[k] default := by simp [List.getD, List.getElem?_append_left, hk]
        have hiL : ((pre.map fun i => ops.getD i default) ++ ops.getD i default :: (post.map fun i => ops.getD i default)).getD pre.length default = ops.getD i default := by simp [List.getD, List.getElem?_append_right]
        rcases (hpairs pre[k] (List.getElem_mem _)).2 with hm | hm | hm
        · rw [touches_none _ k e h (by rw [hkL]; exact hm)]
          exact (clash_none _).2
        · rw [touches_none _ pre.length e h (by rw [hiL]; exact hm)]
          exact (clash_none _).1
        · exact hap k pre.length (by simp; omega) (by simp) (by rw [hkR, hiR]; exact hm)
      obtain ⟨e1, h1', ef', r1, r2, r3, r4, r5⟩ := bubble hKl (pre.map fun i => ops.getD i default) hrun (fun j hj => by
        obtain ⟨j', hj', rfl⟩ := List.mem_map.1 hj
        exact (hpairs j' hj').1) hclash hbase
      have hstep := lo_sound (Q := Q) (next := wpAny P .any mops Q fuel (listed.setIfInBounds i true)) hK (hget i _ o hlo (by rw [Array.getElem?_toList]; exact ho)) r1 hrs (fun k zs hk => hp _ (by simp) k zs hk) (fun β' Z' a' w' s1 s2 s3 s4 => by
        have hkb : ∀ b, b < base → β' b = β b ∧ (h[b]? = some .hid → h1'[b]? = some .hid) := fun b hlt => s3 b (by omega) (fun k zs _ => by omega)
        refine ih (listed.setIfInBounds i true) (pre ++ post) (by simp at hle ⊢; omega) ?_ s1 ?_ (by omega) ?_
        · have hnin : i ∉ pre ∧ i ∉ post := ⟨fun hm => by have := hsp.2.2 i hm i (by simp); omega, fun hm => by have := hsp2.1 i hm; omega⟩
          refine ⟨by rw [Array.size_setIfInBounds]; exact hd.size, fun k => ?_, ?_, fun k hk o' ho' d hdd => ?_, ⟨ef', ?_, hEq.trans r3⟩, fun p q hp' hq' hu => ?_⟩
          · rw [getD_set (by rw [hd.size]; exact h1)]
            have := hd.mem k
            simp only [List.mem_append, List.mem_cons] at this ⊢
            by_cases hk : k = i
            · subst hk; simp [hnin]
            · simp only [hk, if_false, false_or] at this ⊢
              exact this
          · exact List.pairwise_append.2 ⟨hsp.1, hsp2.2, fun x hx y hy => hsp.2.2 x hx y (by simp [hy])⟩
          · rw [getD_set (by rw [hd.size]; exact h1)] at hk ⊢
            by_cases hd2 : d = i
            · simp [hd2]
            · simp only [hd2, if_false]
              by_cases hk2 : k = i
              · subst hk2
                rw [ho] at ho'
                injection ho' with ho'; subst ho'
                exact hpre d hdd
              · simp only [hk2, if_false] at hk
                exact hd.down k hk o' ho' d hdd
          · rw [hmap2]; exact r2
          · rw [hmap2, r5 p, r5 q]
            simp only [List.length_map]
            have hidx : ∀ p, (pre ++ post).getD p 0 = (pre ++ i :: post).getD (if p < pre.length then p else p + 1) 0 := by
              intro p
              simp only [List.getD_eq_getElem?_getD]
              by_cases hp : p < pre.length
              · rw [if_pos hp, List.getElem?_append_left hp, List.getElem?_append_left hp]
              · rw [if_neg hp, List.getElem?_append_right (by omega), List.getElem?_append_right (by omega), show p + 1 - pre.length = (p - pre.length) + 1 by omega, List.getElem?_cons_succ]
            rw [hidx p, hidx q] at hu
            refine hap _ _ ?_ ?_ hu
            · simp at hp' ⊢; split <;> omega
            · simp at hq' ⊢; split <;> omega
        · refine PendR.step (R := (pre ++ post).map fun i => ops.getD i default) (fun lo' hm => hp lo' ?_) s3 ?_
          · rw [hmap2] at hm
            simp only [List.mem_append, List.mem_cons] at hm ⊢
            rcases hm with hm | hm
            · exact .inl hm
            · exact .inr (.inr hm)
          · intro lo' hm k zs k' zs' h3 h4 he
            subst he
            obtain ⟨j, hj, rfl⟩ := List.mem_map.1 hm
            have hjn : j < mops.size := ((hd.mem j).1 (by simp only [List.mem_append, List.mem_cons] at hj ⊢; rcases hj with hj | hj <;> simp [hj])).1
            have hjo : ops[j]? = some (ops.getD j default) := by
              have : j < ops.length := by omega
              rw [List.getElem?_eq_getElem this]; simp [List.getD, this]
            have hji := allocIx_inj ops hnd j i _ _ k zs zs' hjo hlo h3 h4
            subst hji
            rcases List.mem_append.1 hj with hj | hj
            · have := hsp.2.2 j hj j (by simp); omega
            · have := hsp2.1 j hj; omega
        · rintro β2 Z2 a2 w2 e2 t0 ⟨t1, t2, t3, t4⟩
          exact hq β2 Z2 a2 w2 e2 t0 ⟨t1, (s2.low_n hb).trans (Nat.le_refl _) t2, fun b hlt => ⟨(t3 b hlt).1.trans (hkb b hlt).1, fun hh => (t3 b hlt).2 ((hkb b hlt).2 hh)⟩, t4⟩)
      unfold wpOp
      rw [ho]
      exact hstep

end
end Go.Proofs.YtfihinodhhhllaaGreat
