/- One operation in a frame: guard, value, slot. -/
import Derived.Test.YtfihinodhhhllaaGreatIvCall
set_option linter.unusedVariables false
set_option linter.unusedSimpArgs false
namespace Go.Proofs.YtfihinodhhhllaaGreat
open Go

def ckGuard (ops : Array Oper) : Option (Nat × Bool) → Option (Nat × Bool) → Bool
  | none, none => true
  | some (t, b), some (j, b') => b == b' && ((ops[j]?).bind (·.dst)) == some t
  | _, _ => false
def ckLO (P : Program) (ops : Array Oper) (nt : Nat) (lo : LO) (o : Oper) : Bool :=
  ckOp P lo.op o.op && lo.dst == o.dst && (match lo.dst with | some d => decide (d < nt) | none => true) && ckGuard ops lo.guard o.guard && decide (mvs lo.op.ods).Nodup

/-- What one operation asks of the machine. -/
def stepW (P : Program) (ops : Array Oper) (Q : Exit → Act → World → Prop) (o : Oper) (next : Act → World → Prop) (a : Act) (w : World) : Prop :=
  if Region.wanted o (yielded ops a.tmps) then o.wp P a w next Q ∨ (o.asks P a w ∧ LetsOut Q) else next (a.put o.dst Go.undef) w

section
variable {P : Program} {w w' : World} {β β' : Bt} {Z Z' : Ct} {h : Heap} {B0 : Nat} {X : Ct} {e e' : Env} {h' : Heap} {a : Act} {K : Callee} {base nt : Nat} {ops : Array Oper} {lo : LO} {o : Oper}

theorem yielded_at (henv : ∀ t, Rep w β Z (a.tmps.getD t Go.undef) (e.get t)) {j t : Nat} (hj : ((ops[j]?).bind (·.dst)) = some t) :
    (∀ c, e.get t = .bool c → yielded ops a.tmps j = some c) ∧ (e.get t ≠ .any → (∀ c, e.get t ≠ .bool c) → yielded ops a.tmps j = none) := by
  have hr := henv t
  unfold yielded
  rw [hj]
  simp only [Option.bind_some]
  refine ⟨fun c hc => ?_, fun h1 h2 => ?_⟩
  · rw [hc] at hr
    generalize hv : a.tmps.getD t Go.undef = v at hr
    cases hr
    have hlt : t < a.tmps.size := by
      by_cases h : t < a.tmps.size
      · exact h
      · simp [Array.getD, h, Go.undef] at hv
    have : a.tmps[t]? = some (.bool c) := by
      rw [Array.getElem?_eq_getElem hlt]; simp [Array.getD, hlt] at hv; rw [hv]
    rw [this]
  · by_cases hlt : t < a.tmps.size
    · have hv : a.tmps.getD t Go.undef = a.tmps[t] := by simp [Array.getD, hlt]
      rw [hv] at hr
      rw [Array.getElem?_eq_getElem hlt]
      cases hx : a.tmps[t] with
      | bool c =>
        rw [hx] at hr
        generalize hg : e.get t = x at hr h1 h2
        cases hr with
        | any => exact absurd rfl h1
        | bool => exact absurd rfl (h2 c)
      | _ => rfl
    · rw [Array.getElem?_eq_none (by omega)]

theorem ckGuard_wanted (henv : ∀ t, Rep w β Z (a.tmps.getD t Go.undef) (e.get t)) {g : Option (Nat × Bool)} (hck : ckGuard ops g o.guard = true) {b : Bool} (hw : wantedA e g = some b) : Region.wanted o (yielded ops a.tmps) = b := by
  unfold Region.wanted
  cases g with
  | none =>
    cases hg : o.guard with
    | none => simp [wantedA] at hw; exact hw.symm ▸ rfl
    | some q => rw [hg] at hck; simp [ckGuard] at hck
  | some p =>
    obtain ⟨t, c⟩ := p
    cases hg : o.guard with
    | none => rw [hg] at hck; simp [ckGuard] at hck
    | some q =>
      obtain ⟨j, c'⟩ := q
      rw [hg] at hck
      simp only [ckGuard, Bool.and_eq_true, beq_iff_eq] at hck
      obtain ⟨rfl, hj⟩ := hck
      obtain ⟨y1, y2⟩ := yielded_at henv hj
      unfold wantedA at hw
      split at hw
      · simp at *
      · rename_i heq
        injection heq with heq
        injection heq with e1 e2
        subst e1; subst e2
        split at hw
        · rename_i d hd
          injection hw with hw
          simp only [y1 d hd, ← hw]
          cases d <;> cases c <;> rfl
        · simp at hw
        · rename_i h1 h2
          injection hw with hw
          simp only [y2 h2 (fun d hd => h1 d hd), ← hw]
          rfl

/-- What a call of the small code becomes on the machine. -/
theorem upon_gets {Q : Exit → Act → World → Prop} {next : Act → World → Prop} {f : FuncId} {vals : List Value} {R : Value → World → Prop} (hex : execOp a.eval o = callFunc f vals.toArray) (hg : Gets P f vals w R) (hnext : ∀ v w', R v w' → next (a.put o.dst v) w') : o.wp P a w next Q := by
  unfold Oper.wp
  rw [hex]
  rcases hg with ⟨h1, h2⟩ | ⟨v, w', h1, h2⟩
  · rw [h1, Oper.upon_enter]
    refine h2.mono fun en w' he => ?_
    cases en with
    | returned v => exact hnext v w' he
    | panicked _ => exact he.elim
    | outgrown => exact he.elim
  · rw [h1, Oper.upon_value]
    exact hnext v w' h2

/-- What is kept by an operation: everything but the box that it lays. -/
def KeepB (base : Nat) (lo : LO) (h h' : Heap) (β β' : Bt) : Prop := ∀ b, b < h.length → (∀ k zs, lo.op = .alloc k zs → b ≠ base + k) → β' b = β b ∧ (h[b]? = some .hid → h'[b]? = some .hid)

theorem Ext.low_n {n m : Nat} (h : Ext B0 n X β Z w β' Z' w') (hm : m ≤ n) : Ext B0 m X β Z w β' Z' w' :=
  ⟨h.size, h.keepZ, h.keepX, h.zmono, fun b hb => h.bmono b (Nat.lt_of_lt_of_le hb hm), h.low, h.os, h.tape, h.output⟩
theorem Ext.lessX {n : Nat} {X' : Ct} (h : Ext B0 n X β Z w β' Z' w') (hx : ∀ k o, X' k o ≤ X k o) : Ext B0 n X' β Z w β' Z' w' :=
  ⟨h.size, h.keepZ, fun k o hp => h.keepX k o (by have := hx k o; omega), h.zmono, h.bmono, h.low, h.os, h.tape, h.output⟩

theorem lo_sound (hK : CallOK P K) {Q : Exit → Act → World → Prop} {next : Act → World → Prop} (hck : ckLO P ops nt lo o = true) (hrun : lo.run K base e h = some (e', h')) (hrs : RS nt B0 X β Z e h a w)
    (hpend : ∀ k zs, lo.op = .alloc k zs → β (base + k) = none ∧ h[base + k]? = some .hid)
    (hnext : ∀ β' Z' a' w', RS nt B0 X β' Z' e' h' a' w' → Ext B0 h.length X β Z w β' Z' w' → KeepB base lo h h' β β' → h.length ≤ h'.length → next a' w') : stepW P ops Q o next a w := by
  unfold ckLO at hck
  simp only [Bool.and_eq_true, beq_iff_eq, decide_eq_true_eq] at hck
  obtain ⟨⟨⟨⟨c1, c2⟩, c3⟩, c4⟩, c5⟩ := hck
  have hdst : ∀ d, o.dst = some d → d < nt := by
    intro d hd
    rw [c2, hd] at c3
    simpa using c3
  unfold LO.run at hrun
  unfold stepW
  split at hrun
  · rename_i hw
    rw [ckGuard_wanted hrs.env c4 hw]
    simp only [if_true]
    split at hrun
    · rename_i v h2 hop
      injection hrun with hrun; injection hrun with e1 e2
      subst e1; subst e2
      have hi := hrs.use lo.op.ods c5
      have fin : ∀ β' Z' w' u, Post B0 (fun k o => X k o + muE (usedAll lo.op.ods e) a.tmps k o) β Z h w β' Z' h2 w' v u → KeepB base lo h h2 β β' → next (a.put o.dst u) w' := by
        intro β' Z' w' u hp hk
        have := hrs.step lo.op.ods hp c5 (dst := o.dst) hdst
        rw [c2] at *
        exact hnext β' Z' _ w' this (hp.ext.lessX (fun k o => Nat.le_add_right _ _)) hk hp.len
      by_cases hcall : lo.op.isCall = true
      · left
        cases hlo : lo.op <;> simp [hlo, LOp.isCall] at hcall
        · rename_i f xs
          rw [hlo] at hop hi fin c1
          unfold ckOp at c1
          split at c1 <;> try (simp at c1; done)
          all_goals (rename_i he1 he2; try (simp at he1; done))
          rename_i f' xs' g args argTypes
          injection he1 with e1 e2
          subst e1; subst e2
          simp only [Bool.and_eq_true, beq_iff_eq] at c1
          obtain ⟨rfl, c1⟩ := c1
          simp only [LOp.run] at hop
          obtain ⟨r1, r2⟩ := ckOds_rep (w := w) (β := β) (Z := Z) hrs.env xs args.toList c1
          have hg := callA_sound hK hop r1 (hi.weaken (fun k o => r2 k o))
          refine upon_gets (vals := args.toList.map a.eval) (f := f) ?_ hg ?_
          · have : (args.toList.map a.eval).toArray = args.map a.eval := Array.ext' (by simp)
            simp [execOp, he2, resolve, Act.eval, Deferred.ofValue, invoke, this]
          · rintro u w' ⟨β', Z', hp, hk⟩
            exact fin β' Z' w' u hp (fun b hb _ => hk b hb)
        · rename_i f xs
          rw [hlo] at hop hi fin c1
          unfold ckOp at c1
          split at c1 <;> try (simp at c1; done)
          all_goals (rename_i he1 he2; try (simp at he1; done))
          rename_i f' xs' g args argTypes
          injection he1 with e1 e2
          subst e1; subst e2
          simp only [Bool.and_eq_true] at c1
          obtain ⟨⟨c0, c1⟩, c1'⟩ := c1
          simp only [LOp.run] at hop
          split at hop
          · rename_i f' caps hev
            obtain ⟨r1, r2⟩ := ckOds_rep (w := w) (β := β) (Z := Z) hrs.env xs args.toList c1'
            have hf := ckOd_rep hrs.env c1
            rw [hev] at hf
            generalize hu : a.eval g = u at hf
            cases hf with
            | fn _ q1 q2 =>
              rename_i cx
              have hcap : RepL w β Z cx.toList (AV.eraseL caps) := by
                have hc := RepL.of_agg q1 q2
                rw [AV.eraseL_eq]
                refine ⟨by simp [hc.1], fun i h1 h2 => ?_⟩
                rw [List.getElem_map]
                exact (hc.2 i h1 (by simpa using h2)).erase
              have r3 := r1.append hcap
              have hm0 : ∀ k o, muL (xs.map (Od.ev e) ++ AV.eraseL caps) (args.toList.map a.eval ++ cx.toList) k o ≤ movedL (LOp.callv f xs).ods e a.tmps k o := by
                intro k o
                rw [muL_append r1.1, muL_erase]
                simp only [LOp.ods]
                rw [movedL_cons]
                have := r2 k o
                omega
              have hg := callA_sound hK hop r3 (hi.weaken hm0)
              refine upon_gets (vals := args.toList.map a.eval ++ cx.toList) (f := f') ?_ hg ?_
              · have : (args.toList.map a.eval ++ cx.toList).toArray = args.map a.eval ++ cx := Array.ext' (by simp)
                simp [execOp, he2, resolve, hu, Deferred.ofValue, invoke, this]
              · rintro u w' ⟨β', Z', hp, hk⟩
                exact fin β' Z' w' u hp (fun b hb _ => hk b hb)
          · simp at hop
      · by_cases hal : lo.op.isAlloc = true
        · left
          cases hlo : lo.op <;> simp [hlo, LOp.isAlloc] at hal
          rename_i k zs
          obtain ⟨hp1, hp2⟩ := hpend k zs hlo
          have hlt : base + k < h.length := (List.getElem?_eq_some_iff.1 hp2).1
          rw [hlo] at hop hi fin c1
          unfold ckOp at c1
          split at c1 <;> try (simp at c1; done)
          all_goals (rename_i he1 he2; try (simp at he1; done))
          rename_i k' zs' t
          injection he1 with e1 e2
          subst e1; subst e2
          split at c1
          · rename_i z hz
            simp only [Bool.and_eq_true] at c1
            simp only [LOp.run] at hop
            injection hop with hop; injection hop with e1 e2
            subst e1; subst e2
            obtain ⟨w', u, r1, r2⟩ := sound_alloc (P := P) hz c1.2 hi hlt hp1 (fun cs => by rw [hp2]; simp) (.tuple #[])
            unfold Oper.wp
            have : (execOp a.eval o).run P w = .ok (.value u) w' := by simp [execOp, he2, r1]
            rw [this, Oper.upon_value]
            refine fin (updB β (base + k) w.heap.size) Z w' u r2 (fun b hb hne => ⟨?_, fun hh => ?_⟩)
            · unfold updB; rw [if_neg (hne k zs hlo)]
            · rw [List.getElem?_set_ne (Ne.symm (hne k zs hlo))]; exact hh
          · simp at c1
        · left
          obtain ⟨β', Z', w', u, r1, r2, r3⟩ := op_sound c1 hop (Bool.eq_false_iff.2 hcall) (Bool.eq_false_iff.2 hal) hrs.env hi
          unfold Oper.wp
          rcases r1 with r1 | ⟨r1, rfl⟩
          · rw [r1, Oper.upon_value]
            exact fin β' Z' w' u r2 (fun b hb _ => r3 b hb)
          · rw [r1, Oper.upon_skip]
            exact fin β' Z' w' _ r2 (fun b hb _ => r3 b hb)
    · simp at hrun
  · rename_i hw
    rw [ckGuard_wanted hrs.env c4 hw]
    simp only [Bool.false_eq_true, if_false]
    injection hrun with hrun; injection hrun with e1 e2
    subst e1; subst e2
    have hi := hrs.use [] (by simp [mvs])
    have := hrs.step [] (Post.val hi (x := .undef) (v := Go.undef) .undef (fun k o => by simp [mu])) (by simp [mvs]) (dst := o.dst) hdst
    rw [← c2] at this
    rw [← c2]
    exact hnext β Z _ w this (Ext.refl ..) (fun b _ _ => ⟨rfl, id⟩) (Nat.le_refl _)
  · simp at hrun
end
end Go.Proofs.YtfihinodhhhllaaGreat
