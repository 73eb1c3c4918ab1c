/- Statements, functions, the whole: the machine does what the small code's run says. -/
import Derived.Test.YtfihinodhhhllaaGreatIvRegion
import Derived.LoopN
set_option linter.unusedVariables false
set_option linter.unusedSimpArgs false
namespace Go.Proofs.YtfihinodhhhllaaGreat
open Go

def ckCode (P : Program) (nt : Nat) : LCode → Code → Bool
  | .skip, .skip => true
  | .region d nal ops ups _, .region _ mops md => ckRegion P nt d nal ops ups mops md
  | .seq a b, .seq c d => ckCode P nt a c && ckCode P nt b d
  | .cond c a b, .cond c' a' b' => ckOd c c' && ckCode P nt a a' && ckCode P nt b b'
  | .block i b, .block j c => i == j && ckCode P nt b c
  | .loop b, .loop c => ckCode P nt b c
  | .gc b, c => ckCode P nt b c
  | .only _ b, c => ckCode P nt b c
  | .exit i, .exit j => i == j
  | .ret, .ret => true
  | _, _ => false

def Ex.to : Ex → Exit
  | .nxt => .normal
  | .exit i => .exit i
  | .ret => .ret

section
variable {P : Program} {w w' : World} {β β' : Bt} {Z Z' : Ct} {h h' : Heap} {B0 : Nat} {X : Ct} {e e' ef : Env} {a : Act} {K : Callee} {base nt : Nat} {mops : Array Oper} {hf : Heap}

theorem trim_get (keep : List Nat) (e : Env) (t : Nat) : (trim keep e).get t = if t ∈ keep then e.get t else .any := by
  unfold trim
  induction keep with
  | nil => rfl
  | cons k l ih =>
    simp only [List.map_cons, Env.get_cons, ih, List.mem_cons]
    by_cases hk : k = t
    · subst hk; simp
    · simp [hk, Ne.symm hk, eq_comm]
theorem mu_any (v : Value) (k o : Nat) : mu .any v k o = 0 := by simp [mu]

theorem RS.trim {N : Nat} (hrs : RS N B0 X β Z e h a w) (keep : List Nat) : RS N B0 X β Z (trim keep e) h a w := by
  refine ⟨hrs.size, fun t => ?_, hrs.inv.weaken fun k o => sumN_le fun i hi => ?_, hrs.defs⟩
  · rw [trim_get]
    split
    · exact hrs.env t
    · exact .any _
  · rw [trim_get]
    split
    · exact Nat.le_refl _
    · rw [mu_any]; omega

theorem RS.eqE {N : Nat} (hrs : RS N B0 X β Z e h a w) (he : EqE e e') : RS N B0 X β Z e' h a w := by
  refine ⟨hrs.size, fun t => by rw [← he t]; exact hrs.env t, hrs.inv.weaken fun k o => sumN_le fun i hi => by rw [← he i]; exact Nat.le_refl _, hrs.defs⟩

theorem trim_eqE {keep : List Nat} (he : EqE e e') : trim keep e = trim keep e' := by
  unfold trim
  exact List.map_congr_left fun t _ => by rw [he t]

theorem bndE_get (e : Env) (t : Nat) : (e.get t).bnd ≤ bndE e := by
  unfold bndE
  induction e with
  | nil => simp [Env.get, AV.bnd]
  | cons p e ih =>
    obtain ⟨d, v⟩ := p
    simp only [Env.get_cons, List.map_cons, AV.bndL]
    split <;> omega

/-- Boxes that nothing leads to are let go. -/
theorem RS.gc {N n : Nat} (hrs : RS N B0 X β Z e h a w) (hn : bndE e ≤ n) : RS N B0 X (fun b => if b < n then β b else none) Z e (h.take n) a w := by
  have hβ : ∀ b, b < n → ∀ blk, β b = some blk → (if b < n then β b else none) = some blk := fun b hb blk he => by rw [if_pos hb]; exact he
  have hg : ∀ (b : Nat) (x : Box), (h.take n)[b]? = some x → h[b]? = some x ∧ b < n := by
    intro b x hx
    by_cases hb : b < n
    · rw [List.getElem?_take_of_lt hb] at hx; exact ⟨hx, hb⟩
    · rw [List.getElem?_eq_none (by simp; omega)] at hx; simp at hx
  have hmu : ∀ k o, muH (fun b => if b < n then β b else none) (h.take n) w k o ≤ muH β h w k o := by
    intro k o
    unfold muH
    have h1 : sumN (h.take n).length (fun b => muB (fun b => if b < n then β b else none) w b ((h.take n).getD b .hid) k o) = sumN (h.take n).length (fun b => muB β w b (h.getD b .hid) k o) := by
      refine sumN_congr fun b hb => ?_
      have hb' : b < n := by simp at hb; omega
      have e1 : (h.take n).getD b .hid = h.getD b .hid := by simp only [List.getD_eq_getElem?_getD, List.getElem?_take_of_lt hb']
      rw [e1]
      cases h.getD b .hid <;> simp [muB, hb']
    rw [h1]
    have h2 : (h.take n).length ≤ h.length := by simp; omega
    have h3 : ∀ m m' (f : Nat → Nat), m ≤ m' → sumN m f ≤ sumN m' f := by
      intro m m' f hm
      induction m' with
      | zero => have : m = 0 := by omega
                subst this; exact Nat.le_refl _
      | succ m' ih =>
        by_cases he : m = m' + 1
        · subst he; exact Nat.le_refl _
        · have := ih (by omega); simp only [sumN]; omega
    exact h3 _ _ _ h2
  have hi := hrs.inv
  refine ⟨hrs.size, fun t => (hrs.env t).mono (fun b hb blk he => hβ b (by have := bndE_get e t; omega) blk he) (fun _ _ hz => hz) (fun _ _ _ => rfl), ?_, hrs.defs⟩
  refine ⟨fun k o => by have := hi.sep k o; have := hmu k o; omega, fun k o hp => hi.live k o (by have := hmu k o; omega), hi.dom, fun b blk hb => ?_, fun b cs blk hx hb j hj => ?_, fun b cs hx => hi.old b cs (hg b _ hx).1, hi.base⟩
  · split at hb
    · rename_i hlt
      obtain ⟨q1, q2⟩ := hi.box b blk hb
      exact ⟨by simp; omega, q2⟩
    · simp at hb
  · obtain ⟨hx', hlt⟩ := hg b _ hx
    rw [if_pos hlt] at hb
    obtain ⟨v, v1, v2⟩ := hi.row b cs blk hx' hb j hj
    refine ⟨v, v1, v2.mono (fun b' hb' blk' he => hβ b' ?_ blk' he) (fun _ _ hz => hz) (fun _ _ _ => rfl)⟩
    have := (hi.old b cs hx').1
    have := mem_bnd_get hj
    omega

theorem AfterR.refl (hrs : RS nt B0 X β Z e h a w) (hb : base ≤ h.length) : AfterR nt B0 X base β Z h w β Z e h a w := ⟨hrs, Ext.refl .., fun _ _ => ⟨rfl, id⟩, hb⟩
theorem AfterR.trans {β2 : Bt} {Z2 : Ct} {h1 h2 : Heap} {w1 w2 : World} {e1 e2 : Env} {a1 a2 : Act} (h' : AfterR nt B0 X base β Z h w β' Z' e1 h1 a1 w1) (h'' : AfterR nt B0 X h1.length β' Z' h1 w1 β2 Z2 e2 h2 a2 w2) : AfterR nt B0 X base β Z h w β2 Z2 e2 h2 a2 w2 := by
  obtain ⟨p1, p2, p3, p4⟩ := h'
  obtain ⟨q1, q2, q3, q4⟩ := h''
  exact ⟨q1, p2.trans p4 q2, fun b hb => ⟨(q3 b (by omega)).1.trans (p3 b hb).1, fun hh => (q3 b (by omega)).2 ((p3 b hb).2 hh)⟩, by omega⟩

theorem region_sound (hK : CallOK P K) (hKl : KLen K) (hmix : P.follows .mixedOrders = true) {d : Bool} {nal : Nat} {ops : List LO} {ups : List (Nat × Nat)} {keep : List Nat} {id : Nat} {md : Bool} (hck : ckRegion P nt d nal ops ups mops md = true) {x : Ex}
    (hrun : runRegion K d nal ops ups keep e h = some (x, e', h')) (hrs : RS nt B0 X β Z e h a w) {Q : Exit → Act → World → Prop} (hq : ∀ β' Z' a' w', AfterR nt B0 X h.length β Z h w β' Z' e' h' a' w' → Q x.to a' w') : (Code.region id mops md).wp P Q a w := by
  unfold ckRegion at hck
  simp only [Bool.and_eq_true, beq_iff_eq, decide_eq_true_eq, List.all_eq_true] at hck
  obtain ⟨⟨⟨⟨rfl, c1⟩, c2⟩, c3⟩, c4⟩ := hck
  unfold runRegion at hrun
  split at hrun
  · rename_i e1 h1 hops
    split at hrun
    · rename_i hap
      injection hrun with hrun; injection hrun with q1 q2; injection q2 with q2 q3
      subst q1; subst q2; subst q3
      have hsn : ∀ (w : World) (own : Ct), Inv B0 X β Z h w own → Inv B0 X β Z (h ++ List.replicate nal .hid) w own := fun w own hi => hi.snocs nal
      have hpend : PendR h.length (h ++ List.replicate nal .hid) β ops := by
        intro lo hm k zs hk
        have hlt := c3 k (allocIx_mem hm hk)
        refine ⟨?_, ?_⟩
        · cases hb : β (h.length + k) with
          | none => rfl
          | some blk => have := (hrs.inv.box _ _ hb).1; omega
        · rw [List.getElem?_append_right (by omega), List.getElem?_replicate, if_pos (by simpa using hlt)]
      have hfix : ∀ {β' : Bt} {Z' : Ct} {e2 : Env} {h2 : Heap} {a' : Act} {w0 w' : World}, w0.heap = w.heap → w0.os = w.os → w0.tape = w.tape → w0.output = w.output → AfterR nt B0 X h.length β Z (h ++ List.replicate nal .hid) w0 β' Z' e2 h2 a' w' → AfterR nt B0 X h.length β Z h w β' Z' (trim keep e2) h2 a' w' := by
        intro β' Z' e2 h2 a' w0 w' hh ho ht hout hA
        obtain ⟨p1, p2, p3, p4⟩ := hA
        have hce : ∀ k o, w0.cell? ⟨k, o, none⟩ = w.cell? ⟨k, o, none⟩ := fun k o => by simp only [World.cell?, hh]
        have hfe : ∀ k o, w0.frozen? ⟨k, o, none⟩ = w.frozen? ⟨k, o, none⟩ := fun k o => by simp only [World.frozen?, hh]
        refine ⟨p1.trim keep, ⟨by rw [← hh]; exact p2.size, fun k o hz => by rw [← hce]; exact p2.keepZ k o hz, fun k o hx => by rw [← hce, ← hfe]; exact p2.keepX k o hx, p2.zmono, p2.bmono, fun k hk => by rw [← hh]; exact p2.low k hk, by rw [← ho]; exact p2.os, by rw [← ht]; exact p2.tape, by rw [← hout]; exact p2.output⟩, fun b hb => ⟨(p3 b hb).1, fun hx => (p3 b hb).2 (by rw [List.getElem?_append_left hb]; exact hx)⟩, p4⟩
      cases d with
      | false =>
        refine wp_region_list (run_list hK ops mops.toList hops c1 c2 ⟨hrs.size, hrs.env, hsn w _ hrs.inv, hrs.defs⟩ hpend (by simp) fun β' Z' a' w' hA => ?_)
        exact hq β' Z' a' w' (hfix rfl rfl rfl rfl hA)
      | true =>
        simp only [Bool.not_true, Bool.false_or, Bool.and_eq_true] at c4 hap
        refine wp_region_any hmix ?_
        have hlen := (ckLOs_get ops mops.toList c1).1
        have hlen' : ops.length = mops.size := by simpa using hlen
        have hmapId : ((List.range mops.size).map fun i => ops.getD i default) = ops := by
          apply List.ext_getElem?
          intro i
          by_cases hi : i < mops.size
          · rw [List.getElem?_map, List.getElem?_range hi]
            have : i < ops.length := by omega
            simp [List.getD, this]
          · rw [List.getElem?_eq_none (by simp; omega), List.getElem?_eq_none (by omega)]
        have hrsd : RS nt B0 X β Z e (h ++ List.replicate nal .hid) a { w with drawn := w.drawn + 1 } := by
          have hi := hsn w _ hrs.inv
          refine ⟨hrs.size, fun t => (hrs.env t).mono (fun _ _ _ he => he) (fun _ _ hz => hz) (fun _ _ _ => rfl), ?_, hrs.defs⟩
          exact ⟨hi.sep, hi.live, hi.dom, hi.box, fun b cs blk hx hb j hj => by
            obtain ⟨v, v1, v2⟩ := hi.row b cs blk hx hb j hj
            exact ⟨v, v1, v2.mono (fun _ _ _ he => he) (fun _ _ hz => hz) (fun _ _ _ => rfl)⟩, hi.old, hi.base⟩
        refine run_any (ef := e1) (hf := h1) hK hKl (ops := ops) (ups := ups) c1 c2 c4.1 c4.2 mops.size (Array.replicate mops.size false) (List.range mops.size) (by simp) ?_ hrsd (by rw [hmapId]; exact hpend) (by simp) ?_
        · refine ⟨by simp, fun i => ?_, List.pairwise_lt_range, fun k hk => ?_, ⟨e1, by rw [hmapId]; exact hops, EqE.refl _⟩, fun i j hi hj hu => ?_⟩
          · simp only [List.mem_range]
            constructor
            · intro hi; exact ⟨hi, by simp [Array.getD, hi]⟩
            · intro hi; exact hi.1
          · simp only [Array.getD] at hk
            split at hk
            · simp at hk
            · simp at hk
          · rw [hmapId]
            unfold apart at hap
            have hi' : i < mops.size := by simpa using hi
            have hj' : j < mops.size := by simpa using hj
            have ei : (List.range mops.size).getD i 0 = i := by simp [List.getD, hi']
            have ej : (List.range mops.size).getD j 0 = j := by simp [List.getD, hj']
            rw [ei, ej] at hu
            have := List.all_eq_true.1 hap (i, j) hu
            simpa using this
        · intro β' Z' a' w' e2 he hA
          have := hfix (w0 := { w with drawn := w.drawn + 1 }) rfl rfl rfl rfl hA
          rw [← trim_eqE he] at this
          exact hq β' Z' a' w' this
    · simp at hrun
  · simp at hrun

theorem code_sound (hK : CallOK P K) (hKl : KLen K) (hmix : P.follows .mixedOrders = true) (k : Nat) : ∀ (c : LCode) (code : Code), ckCode P nt c code = true → ∀ {e : Env} {h : Heap} {x : Ex} {e' : Env} {h' : Heap}, execN K k c e h = some (x, e', h') →
    ∀ {a : Act} {w : World} {β : Bt} {Z : Ct}, RS nt B0 X β Z e h a w → ∀ {Q : Exit → Act → World → Prop}, (∀ β' Z' a' w', AfterR nt B0 X h.length β Z h w β' Z' e' h' a' w' → Q x.to a' w') → code.wp P Q a w := by
  intro c
  induction c with
  | skip =>
    intro code hck e h x e' h' hr a w β Z hrs Q hq
    cases code <;> simp [ckCode] at hck
    simp only [execN] at hr
    injection hr with hr; injection hr with q1 q2; injection q2 with q2 q3; subst q1; subst q2; subst q3
    exact wp_skip (hq β Z a w (AfterR.refl hrs (Nat.le_refl _)))
  | region d nal ops ups keep =>
    intro code hck e h x e' h' hr a w β Z hrs Q hq
    cases code <;> simp [ckCode] at hck
    simp only [execN] at hr
    exact region_sound hK hKl hmix hck hr hrs hq
  | seq c1 c2 ih1 ih2 =>
    intro code hck e h x e' h' hr a w β Z hrs Q hq
    cases code <;> simp [ckCode] at hck
    simp only [execN] at hr
    refine wp_seq ?_
    split at hr
    · rename_i e1 h1 h1r
      refine ih1 _ hck.1 h1r hrs fun β1 Z1 a1 w1 hA => ?_
      exact ih2 _ hck.2 hr hA.1 fun β2 Z2 a2 w2 hB => hq β2 Z2 a2 w2 (hA.trans hB)
    · rename_i hne
      refine ih1 _ hck.1 hr hrs fun β1 Z1 a1 w1 hA => ?_
      have := hq β1 Z1 a1 w1 hA
      cases x with
      | nxt => exact absurd hr (hne e' h')
      | exit i => exact this
      | ret => exact this
  | cond c c1 c2 ih1 ih2 =>
    intro code hck e h x e' h' hr a w β Z hrs Q hq
    cases code <;> simp [ckCode] at hck
    obtain ⟨⟨k1, k2⟩, k3⟩ := hck
    simp only [execN] at hr
    have hc := ckOd_rep hrs.env k1
    split at hr
    · rename_i hev
      rw [hev] at hc
      refine wp_cond_true (by generalize a.eval _ = u at hc; cases hc; rfl) (ih1 _ k2 hr hrs hq)
    · rename_i hev
      rw [hev] at hc
      refine wp_cond_false (by generalize a.eval _ = u at hc; cases hc; rfl) (ih2 _ k3 hr hrs hq)
    · simp at hr
  | block id b ih =>
    intro code hck e h x e' h' hr a w β Z hrs Q hq
    cases code <;> simp [ckCode] at hck
    obtain ⟨rfl, k1⟩ := hck
    simp only [execN] at hr
    refine wp_block ?_
    unfold inBlockA at hr
    split at hr
    · rename_i i e1 h1 h1r
      split at hr
      · rename_i hi
        injection hr with hr; injection hr with q1 q2; injection q2 with q2 q3; subst q1; subst q2; subst q3
        refine ih _ k1 h1r hrs fun β' Z' a' w' hA => ?_
        simp only [Ex.to, Exit.inBlock, hi, if_true]
        exact hq β' Z' a' w' hA
      · rename_i hi
        injection hr with hr; injection hr with q1 q2; injection q2 with q2 q3; subst q1; subst q2; subst q3
        refine ih _ k1 h1r hrs fun β' Z' a' w' hA => ?_
        simp only [Ex.to, Exit.inBlock, hi, if_false]
        exact hq β' Z' a' w' hA
    · rename_i hne
      refine ih _ k1 hr hrs fun β' Z' a' w' hA => ?_
      have := hq β' Z' a' w' hA
      cases x with
      | nxt => exact this
      | exit i => exact absurd hr (hne i e' h')
      | ret => exact this
  | loop b ih =>
    intro code hck e h x e' h' hr a w β Z hrs Q hq
    cases code <;> simp [ckCode] at hck
    rename_i mb
    simp only [execN] at hr
    have key : ∀ (n : Nat) {e : Env} {h : Heap} {a : Act} {w : World} {β : Bt} {Z : Ct}, iter (execN K k b) n e h = some (x, e', h') → RS nt B0 X β Z e h a w → (∀ β' Z' a' w', AfterR nt B0 X h.length β Z h w β' Z' e' h' a' w' → Q x.to a' w') → Code.rounds P mb Q n a w := by
      intro n
      induction n with
      | zero => intro e h a w β Z hr; simp [iter] at hr
      | succ n ihn =>
        intro e h a w β Z hr hrs hq
        simp only [iter] at hr
        rw [rounds_succ]
        split at hr
        · rename_i e1 h1 h1r
          refine ih _ hck h1r hrs fun β1 Z1 a1 w1 hA => ?_
          exact ihn hr hA.1 fun β2 Z2 a2 w2 hB => hq β2 Z2 a2 w2 (hA.trans hB)
        · rename_i hne
          refine ih _ hck hr hrs fun β1 Z1 a1 w1 hA => ?_
          have := hq β1 Z1 a1 w1 hA
          cases x with
          | nxt => exact absurd hr (hne e' h')
          | exit i => exact this
          | ret => exact this
    exact wp_loop_rounds k (key k hr hrs hq)
  | only keep b ih =>
    intro code hck e h x e' h' hr a w β Z hrs Q hq
    have hck' : ckCode P nt b code = true := by cases code <;> simpa [ckCode] using hck
    simp only [execN] at hr
    exact ih _ hck' hr (hrs.trim keep) hq
  | gc b ih =>
    intro code hck e h x e' h' hr a w β Z hrs Q hq
    have hck' : ckCode P nt b code = true := by cases code <;> simpa [ckCode] using hck
    simp only [execN] at hr
    unfold gcH at hr
    split at hr
    · rename_i x1 e1 h1 h1r
      split at hr
      · rename_i hb
        injection hr with hr; injection hr with q1 q2; injection q2 with q2 q3; subst q1; subst q2; subst q3
        refine ih _ hck' h1r hrs fun β' Z' a' w' hA => ?_
        obtain ⟨p1, p2, p3, p4⟩ := hA
        refine hq _ Z' a' w' ⟨p1.gc hb, ⟨p2.size, p2.keepZ, p2.keepX, p2.zmono, fun b hlt blk he => by simp only [hlt, if_true]; exact p2.bmono b hlt blk he, p2.low, p2.os, p2.tape, p2.output⟩, fun b hlt => ⟨by simp only [hlt, if_true]; exact (p3 b hlt).1, fun hh => by rw [List.getElem?_take_of_lt hlt]; exact (p3 b hlt).2 hh⟩, by simp; omega⟩
      · injection hr with hr; injection hr with q1 q2; injection q2 with q2 q3; subst q1; subst q2; subst q3
        exact ih _ hck' h1r hrs hq
    · simp at hr
  | exit i =>
    intro code hck e h x e' h' hr a w β Z hrs Q hq
    cases code <;> simp [ckCode] at hck
    subst hck
    simp only [execN] at hr
    injection hr with hr; injection hr with q1 q2; injection q2 with q2 q3; subst q1; subst q2; subst q3
    exact wp_exit (hq β Z a w (AfterR.refl hrs (Nat.le_refl _)))
  | ret =>
    intro code hck e h x e' h' hr a w β Z hrs Q hq
    cases code <;> simp [ckCode] at hck
    simp only [execN] at hr
    injection hr with hr; injection hr with q1 q2; injection q2 with q2 q3; subst q1; subst q2; subst q3
    exact wp_ret (hq β Z a w (AfterR.refl hrs (Nat.le_refl _)))
end
end Go.Proofs.YtfihinodhhhllaaGreat
