/- What code does, step by step: with a stack of what comes later, for printed walks. -/
import Derived.Test.YtfihinodhhhllaaGreatIvSpec
set_option linter.unusedVariables false
set_option linter.unusedSimpArgs false
namespace Go.Proofs.YtfihinodhhhllaaGreat
open Go

/-- A mark: what it names is not looked into. -/
inductive Tag {α : Sort _} (a : α) : Type
  | mk
abbrev Cont := Ex → Env → Heap → Prop

/-- Code ends, and so. -/
def Does (T : Tab) (c : LCode) (Q : Cont) (_ : Tag c) (_ : Tag Q) (e : Env) (h : Heap) : Prop := ∃ x e' h', Exec T c e h = some (x, e', h') ∧ Q x e' h'
def onNxt (p q : Prop) (_ : Tag p) (_ : Tag q) : Ex → Prop
  | .nxt => p
  | _ => q
def DoesC (p q : Prop) (_ : Tag p) (_ : Tag q) : AV → Prop
  | .bool b => (b = true → p) ∧ (b = false → q)
  | _ => False
def outB (i : Nat) (Q : Cont) (_ : Tag Q) : Cont
  | .exit j, e, h => (j = i → Q .nxt e h) ∧ (j ≠ i → Q (.exit j) e h)
  | x, e, h => Q x e h
/-- An operation gives a value. -/
def DoesR (Q : AV → Heap → Prop) (_ : Tag Q) (r : Option (AV × Heap)) : Prop := ∃ v h', r = some (v, h') ∧ Q v h'
def DoesO (Q : AV → Prop) (_ : Tag Q) (r : Option AV) : Prop := ∃ v, r = some v ∧ Q v
def DoesGv (b : Bool) (p q : Prop) (_ : Tag p) (_ : Tag q) : AV → Prop
  | .bool c => (c = b → p) ∧ (c ≠ b → q)
  | .any => False
  | _ => q
def DoesG (g : Option (Nat × Bool)) (p q : Prop) (_ : Tag p) (_ : Tag q) (e : Env) : Prop :=
  match g with
  | none => p
  | some (t, b) => DoesGv b p q .mk .mk (e.get t)
def DoesOps (K : Callee) (base : Nat) (l : List LO) (Q : List Touch → Env → Heap → Prop) (_ : Tag l) (_ : Tag Q) (e : Env) (h : Heap) : Prop := ∃ e' h', runOps K base l e h = some (e', h') ∧ Q (touches K base l e h) e' h'
/-- The same, when nobody asks what was touched. -/
def DoesOps0 (K : Callee) (base : Nat) (l : List LO) (Q : Env → Heap → Prop) (_ : Tag l) (_ : Tag Q) (e : Env) (h : Heap) : Prop := ∃ e' h', runOps K base l e h = some (e', h') ∧ Q e' h'
/-- What is touched is worked out first. -/
def NormT (k : Touch → Prop) (_ : Tag k) (x : Touch) : Prop := k x
/-- Slots and boxes are worked out first. -/
def Norm (k : Env → Heap → Prop) (_ : Tag k) (e : Env) (h : Heap) : Prop := k e h
/-- Only if. -/
def Imp (p q : Prop) (_ : Tag q) : Prop := p → q

section
variable {T : Tab} {e : Env} {h : Heap} {Q : Cont} {K : Callee} {base : Nat}

@[go_sem ↓] theorem onNxt_nxt (p q : Prop) (t : Tag p) (u : Tag q) : onNxt p q t u .nxt = p := rfl
@[go_sem ↓] theorem onNxt_exit (i : Nat) (p q : Prop) (t : Tag p) (u : Tag q) : onNxt p q t u (.exit i) = q := rfl
@[go_sem ↓] theorem onNxt_ret (p q : Prop) (t : Tag p) (u : Tag q) : onNxt p q t u .ret = q := rfl
@[go_sem ↓] theorem outB_nxt (i : Nat) (t : Tag Q) : outB i Q t .nxt e h = Q .nxt e h := rfl
@[go_sem ↓] theorem outB_ret (i : Nat) (t : Tag Q) : outB i Q t .ret e h = Q .ret e h := rfl
@[go_sem ↓] theorem outB_here (i : Nat) (t : Tag Q) : outB i Q t (.exit i) e h = Q .nxt e h := by simp [outB]
@[go_sem] theorem outB_far (i j : Nat) (t : Tag Q) (hne : j ≠ i) : outB i Q t (.exit j) e h = Q (.exit j) e h := by simp [outB, hne]
theorem DoesC_bool (b : Bool) (p q : Prop) (t : Tag p) (u : Tag q) : DoesC p q t u (.bool b) = (Imp (b = true) p .mk ∧ Imp (b = false) q .mk) := rfl
@[go_sem] theorem DoesC_true (p q : Prop) (t : Tag p) (u : Tag q) : DoesC p q t u (.bool true) = p := by simp [DoesC]
@[go_sem] theorem DoesC_false (p q : Prop) (t : Tag p) (u : Tag q) : DoesC p q t u (.bool false) = q := by simp [DoesC]
@[go_sem ↓] theorem DoesG_none (p q : Prop) (t : Tag p) (u : Tag q) : DoesG none p q t u e = p := rfl
@[go_sem ↓] theorem DoesG_some (k : Nat) (b : Bool) (p q : Prop) (t : Tag p) (u : Tag q) : DoesG (some (k, b)) p q t u e = DoesGv b p q .mk .mk (e.get k) := rfl
theorem DoesGv_on (c : Bool) (p q : Prop) (t : Tag p) (u : Tag q) : DoesGv true p q t u (.bool c) = (Imp (c = true) p .mk ∧ Imp (c = false) q .mk) := by simp [DoesGv, Imp]
theorem DoesGv_off (c : Bool) (p q : Prop) (t : Tag p) (u : Tag q) : DoesGv false p q t u (.bool c) = (Imp (c = false) p .mk ∧ Imp (c = true) q .mk) := by simp [DoesGv, Imp]
@[go_sem] theorem DoesGv_tt (p q : Prop) (t : Tag p) (u : Tag q) : DoesGv true p q t u (.bool true) = p := by simp [DoesGv]
@[go_sem] theorem DoesGv_tf (p q : Prop) (t : Tag p) (u : Tag q) : DoesGv true p q t u (.bool false) = q := by simp [DoesGv]
@[go_sem] theorem DoesGv_ft (p q : Prop) (t : Tag p) (u : Tag q) : DoesGv false p q t u (.bool true) = q := by simp [DoesGv]
@[go_sem] theorem DoesGv_ff (p q : Prop) (t : Tag p) (u : Tag q) : DoesGv false p q t u (.bool false) = p := by simp [DoesGv]
@[go_sem] theorem DoesGv_undef (b : Bool) (p q : Prop) (t : Tag p) (u : Tag q) : DoesGv b p q t u .undef = q := rfl
@[go_sem] theorem NormT_eq (k : Touch → Prop) (t : Tag k) (x : Touch) : NormT k t x = k x := rfl
@[go_sem] theorem Norm_eq (k : Env → Heap → Prop) (t : Tag k) : Norm k t e h = k e h := rfl
@[go_sem] theorem Imp_true (q : Prop) (t : Tag q) : Imp True q t = q := by simp [Imp]
@[go_sem] theorem Imp_false (q : Prop) (t : Tag q) : Imp False q t = True := by simp [Imp]

@[go_sem ↓] theorem Does_skip (t : Tag LCode.skip) (u : Tag Q) : Does T .skip Q t u e h ↔ Q .nxt e h := by
  unfold Does; rw [Exec_skip]; exact ⟨fun ⟨x, e', h', h1, h2⟩ => by simp only [Option.some.injEq, Prod.mk.injEq] at h1; obtain ⟨rfl, rfl, rfl⟩ := h1; exact h2, fun h2 => ⟨_, _, _, rfl, h2⟩⟩
@[go_sem ↓] theorem Does_exit (i : Nat) (t : Tag (LCode.exit i)) (u : Tag Q) : Does T (.exit i) Q t u e h ↔ Q (.exit i) e h := by
  unfold Does; rw [Exec_exit]; exact ⟨fun ⟨x, e', h', h1, h2⟩ => by simp only [Option.some.injEq, Prod.mk.injEq] at h1; obtain ⟨rfl, rfl, rfl⟩ := h1; exact h2, fun h2 => ⟨_, _, _, rfl, h2⟩⟩
@[go_sem ↓] theorem Does_ret (t : Tag LCode.ret) (u : Tag Q) : Does T .ret Q t u e h ↔ Q .ret e h := by
  unfold Does; rw [Exec_ret]; exact ⟨fun ⟨x, e', h', h1, h2⟩ => by simp only [Option.some.injEq, Prod.mk.injEq] at h1; obtain ⟨rfl, rfl, rfl⟩ := h1; exact h2, fun h2 => ⟨_, _, _, rfl, h2⟩⟩
theorem Does_seq (a b : LCode) (t : Tag (LCode.seq a b)) (u : Tag Q) : Does T (.seq a b) Q t u e h ↔ Does T a (fun x e' h' => onNxt (Does T b Q .mk .mk e' h') (Q x e' h') .mk .mk x) .mk .mk e h := by
  unfold Does
  rw [Exec_seq]
  constructor
  · rintro ⟨x, e', h', hr, hq⟩
    split at hr
    · rename_i e1 h1 h1r
      exact ⟨_, _, _, h1r, x, e', h', hr, hq⟩
    · rename_i hne
      refine ⟨x, e', h', hr, ?_⟩
      cases x with
      | nxt => exact absurd hr (hne e' h')
      | exit i => exact hq
      | ret => exact hq
  · rintro ⟨x, e', h', hr, hq⟩
    rw [hr]
    cases x with
    | nxt => exact hq
    | exit i => exact ⟨_, _, _, rfl, hq⟩
    | ret => exact ⟨_, _, _, rfl, hq⟩
@[go_sem ↓] theorem Does_cond (c : Od) (a b : LCode) (t : Tag (LCode.cond c a b)) (u : Tag Q) : Does T (.cond c a b) Q t u e h ↔ DoesC (Does T a Q .mk .mk e h) (Does T b Q .mk .mk e h) .mk .mk (c.ev e) := by
  unfold Does
  rw [Exec_cond]
  cases hc : c.ev e with
  | bool b' => cases b' <;> simp [DoesC]
  | _ => simp [DoesC]
theorem Does_block (i : Nat) (b : LCode) (t : Tag (LCode.block i b)) (u : Tag Q) : Does T (.block i b) Q t u e h ↔ Does T b (outB i Q .mk) .mk .mk e h := by
  unfold Does
  rw [Exec_block]
  constructor
  · rintro ⟨x, e', h', hr, hq⟩
    unfold inBlockA at hr
    split at hr
    · rename_i j e1 h1 h1r
      refine ⟨_, _, _, h1r, ?_⟩
      split at hr
      · rename_i hji
        injection hr with hr; injection hr with q1 q2; injection q2 with q2 q3; subst q1; subst q2; subst q3
        exact ⟨fun _ => hq, fun hne => absurd hji hne⟩
      · rename_i hji
        injection hr with hr; injection hr with q1 q2; injection q2 with q2 q3; subst q1; subst q2; subst q3
        exact ⟨fun he => absurd he hji, fun _ => hq⟩
    · rename_i hne
      refine ⟨x, e', h', hr, ?_⟩
      cases x with
      | exit j => exact absurd hr (hne j e' h')
      | nxt => exact hq
      | ret => exact hq
  · rintro ⟨x, e', h', hr, hq⟩
    rw [hr]
    cases x with
    | nxt => exact ⟨_, _, _, rfl, hq⟩
    | ret => exact ⟨_, _, _, rfl, hq⟩
    | exit j =>
      by_cases hji : j = i
      · exact ⟨.nxt, e', h', by simp [inBlockA, hji], hq.1 hji⟩
      · exact ⟨.exit j, e', h', by simp [inBlockA, hji], hq.2 hji⟩
/-- Boxes that are let go at a round's end. -/
def GcQ (n : Nat) (Q : Cont) (_ : Tag Q) : Cont := fun x e h => (bndE e ≤ n → Q x e (h.take n)) ∧ (¬ bndE e ≤ n → Q x e h)
theorem Does_gc (b : LCode) (t : Tag (LCode.gc b)) (u : Tag Q) : Does T (.gc b) Q t u e h ↔ Does T b (GcQ h.length Q .mk) .mk .mk e h := by
  unfold Does
  rw [Exec_gc]
  constructor
  · rintro ⟨x, e', h', hr, hq⟩
    unfold gcH at hr
    split at hr
    · rename_i x1 e1 h1 h1r
      refine ⟨_, _, _, h1r, ?_⟩
      split at hr
      · rename_i hb
        injection hr with hr; injection hr with q1 q2; injection q2 with q2 q3; subst q1; subst q2; subst q3
        exact ⟨fun _ => hq, fun hn => absurd hb hn⟩
      · rename_i hb
        injection hr with hr; injection hr with q1 q2; injection q2 with q2 q3; subst q1; subst q2; subst q3
        exact ⟨fun hn => absurd hn hb, fun _ => hq⟩
    · simp at hr
  · rintro ⟨x, e', h', hr, hq⟩
    rw [hr]
    by_cases hb : bndE e' ≤ h.length
    · exact ⟨_, _, _, by simp only [gcH, if_pos hb], hq.1 hb⟩
    · exact ⟨_, _, _, by simp only [gcH, if_neg hb], hq.2 hb⟩
theorem GcQ_le {n : Nat} {x : Ex} (hb : bndE e ≤ n) (u : Tag Q) : GcQ n Q u x e h ↔ Q x e (h.take n) := by simp [GcQ, hb]
@[go_sem] theorem GcQ_same {n : Nat} {x : Ex} (u : Tag Q) (hl : h.length = n) : GcQ n Q u x e h ↔ Q x e h := by
  subst hl; simp [GcQ]
  exact ⟨fun ⟨h1, h2⟩ => by by_cases hc : bndE e ≤ h.length
                            · exact h1 hc
                            · exact h2 (by omega), fun h1 => ⟨fun _ => h1, fun _ => h1⟩⟩
@[go_sem ↓] theorem Does_only (keep : List Nat) (b : LCode) (t : Tag (LCode.only keep b)) (u : Tag Q) : Does T (.only keep b) Q t u e h ↔ Norm (fun e h => Does T b Q .mk .mk e h) .mk (trim keep e) h := by simp only [Does, Exec_only, Norm]
theorem Does_loop (b : LCode) (t : Tag (LCode.loop b)) (u : Tag Q) : Does T (.loop b) Q t u e h ↔ Does T b (fun x e' h' => onNxt (Does T (.loop b) Q .mk .mk e' h') (Q x e' h') .mk .mk x) .mk .mk e h := by
  have h1 := Exec_loop (T := T) (e := e) (h := h) b
  unfold Does
  rw [h1]
  constructor
  · rintro ⟨x, e', h', hr, hq⟩
    split at hr
    · rename_i e1 h1 h1r
      exact ⟨_, _, _, h1r, x, e', h', hr, hq⟩
    · rename_i hne
      refine ⟨x, e', h', hr, ?_⟩
      cases x with
      | nxt => exact absurd hr (hne e' h')
      | exit i => exact hq
      | ret => exact hq
  · rintro ⟨x, e', h', hr, hq⟩
    rw [hr]
    cases x with
    | nxt => exact hq
    | exit i => exact ⟨_, _, _, rfl, hq⟩
    | ret => exact ⟨_, _, _, rfl, hq⟩
theorem Does_mono {c : LCode} {Q' : Cont} {t : Tag c} {u : Tag Q} {u' : Tag Q'} (hd : Does T c Q t u e h) (hq : ∀ x e' h', Q x e' h' → Q' x e' h') : Does T c Q' t u' e h := by
  obtain ⟨x, e', h', hr, h1⟩ := hd
  exact ⟨x, e', h', hr, hq _ _ _ h1⟩

/-- The end of a region. -/
def RegQ (draw : Bool) (ups : List (Nat × Nat)) (keep : List Nat) (Q : Cont) (_ : Tag Q) : List Touch → Env → Heap → Prop := fun ts e h => (draw = true → apart ts ups = true) ∧ Norm (fun e h => Q .nxt e h) .mk (trim keep e) h
@[go_sem ↓] theorem RegQ_draw (p : Nat × Nat) (ups : List (Nat × Nat)) (keep : List Nat) (u : Tag Q) (ts : List Touch) : RegQ true (p :: ups) keep Q u ts e h ↔ apart ts (p :: ups) = true ∧ Norm (fun e h => Q .nxt e h) .mk (trim keep e) h := by simp [RegQ]
theorem Does_region (draw : Bool) (nal : Nat) (ops : List LO) (ups : List (Nat × Nat)) (keep : List Nat) (t : Tag (LCode.region draw nal ops ups keep)) (u : Tag Q) :
    Does T (.region draw nal ops ups keep) Q t u e h ↔ Norm (fun e h' => DoesOps (Run T) h.length ops (RegQ draw ups keep Q .mk) .mk .mk e h') .mk e (h ++ List.replicate nal .hid) := by
  unfold Does DoesOps RegQ Norm
  rw [Exec_region]
  unfold runRegion
  constructor
  · rintro ⟨x, e', h', hi, hq⟩
    split at hi
    · rename_i e1 h1 hr
      split at hi
      · rename_i hc
        injection hi with hi; injection hi with q1 q2; injection q2 with q2 q3; subst q1; subst q2; subst q3
        refine ⟨e1, h1, hr, fun hd => ?_, hq⟩
        simpa [hd] using hc
      · simp at hi
    · simp at hi
  · rintro ⟨e', h', hr, hd, hq⟩
    refine ⟨.nxt, trim keep e', h', ?_, hq⟩
    rw [hr]
    refine if_pos ?_
    cases draw
    · rfl
    · simpa using hd rfl

theorem Does_region0 (draw : Bool) (nal : Nat) (ops : List LO) (ups : List (Nat × Nat)) (keep : List Nat) (t : Tag (LCode.region draw nal ops ups keep)) (u : Tag Q) (h0 : draw = false ∨ ups = []) :
    Does T (.region draw nal ops ups keep) Q t u e h ↔ Norm (fun e h' => DoesOps0 (Run T) h.length ops (fun e h => Norm (fun e h => Q .nxt e h) .mk (trim keep e) h) .mk .mk e h') .mk e (h ++ List.replicate nal .hid) := by
  rw [Does_region]
  unfold Norm DoesOps DoesOps0 RegQ Norm
  constructor
  · rintro ⟨e', h', hr, hd, hq⟩
    exact ⟨e', h', hr, hq⟩
  · rintro ⟨e', h', hr, hq⟩
    refine ⟨e', h', hr, fun hd => ?_, hq⟩
    rcases h0 with h0 | h0
    · rw [h0] at hd; simp at hd
    · rw [h0]; simp [apart]
@[go_sem ↓] theorem Does_regionT (nal : Nat) (ops : List LO) (ups : List (Nat × Nat)) (keep : List Nat) (t : Tag (LCode.region false nal ops ups keep)) (u : Tag Q) :
    Does T (.region false nal ops ups keep) Q t u e h ↔ Norm (fun e h' => DoesOps0 (Run T) h.length ops (fun e h => Norm (fun e h => Q .nxt e h) .mk (trim keep e) h) .mk .mk e h') .mk e (h ++ List.replicate nal .hid) := Does_region0 _ _ _ _ _ _ _ (.inl rfl)
@[go_sem ↓] theorem Does_regionF (nal : Nat) (ops : List LO) (keep : List Nat) (t : Tag (LCode.region true nal ops [] keep)) (u : Tag Q) :
    Does T (.region true nal ops [] keep) Q t u e h ↔ Norm (fun e h' => DoesOps0 (Run T) h.length ops (fun e h => Norm (fun e h => Q .nxt e h) .mk (trim keep e) h) .mk .mk e h') .mk e (h ++ List.replicate nal .hid) := Does_region0 _ _ _ _ _ _ _ (.inr rfl)
@[go_sem ↓] theorem Does_regionD (nal : Nat) (ops : List LO) (p : Nat × Nat) (ups : List (Nat × Nat)) (keep : List Nat) (t : Tag (LCode.region true nal ops (p :: ups) keep)) (u : Tag Q) :
    Does T (.region true nal ops (p :: ups) keep) Q t u e h ↔ Norm (fun e h' => DoesOps (Run T) h.length ops (RegQ true (p :: ups) keep Q .mk) .mk .mk e h') .mk e (h ++ List.replicate nal .hid) := Does_region ..

@[go_sem ↓] theorem DoesOps_nil (Q : List Touch → Env → Heap → Prop) (t : Tag ([] : List LO)) (u : Tag Q) : DoesOps K base [] Q t u e h ↔ Q [] e h := by
  unfold DoesOps; simp only [runOps, touches]
  exact ⟨fun ⟨e', h', h1, h2⟩ => by simp only [Option.some.injEq, Prod.mk.injEq] at h1; obtain ⟨rfl, rfl⟩ := h1; exact h2, fun h2 => ⟨_, _, rfl, h2⟩⟩
@[go_sem ↓] theorem DoesOps_cons (d : Option Nat) (op : LOp) (g : Option (Nat × Bool)) (l : List LO) (Q : List Touch → Env → Heap → Prop) (t : Tag (LO.mk d op g :: l)) (u : Tag Q) :
    DoesOps K base (⟨d, op, g⟩ :: l) Q t u e h ↔ DoesG g (NormT (fun tc => DoesR (fun v h' => Norm (fun e1 h1 => DoesOps K base l (fun ts => Q (tc :: ts)) .mk .mk e1 h1) .mk (putD d v (usedAll op.ods e)) h') .mk (op.run K base e h)) .mk (touchOf base h.length e op))
      (Norm (fun e1 h1 => DoesOps K base l (fun ts => Q (.none :: ts)) .mk .mk e1 h1) .mk (putD d .undef e) h) .mk .mk e := by
  unfold Norm NormT
  have key : ∀ (b : Bool), wantedA e g = some b → (DoesOps K base (⟨d, op, g⟩ :: l) Q t u e h ↔ if b then (DoesR (fun v h' => DoesOps K base l (fun ts => Q (touchOf base h.length e op :: ts)) .mk .mk (putD d v (usedAll op.ods e)) h') .mk (op.run K base e h)) else (DoesOps K base l (fun ts => Q (.none :: ts)) .mk .mk (putD d .undef e) h)) := by
    intro b hw
    unfold DoesOps DoesR
    simp only [runOps, touches, LO.run, LO.touch, hw]
    cases b with
    | false => simp
    | true =>
      simp only [if_true]
      cases hr : op.run K base e h with
      | none => simp
      | some p =>
        obtain ⟨v, h'⟩ := p
        exact ⟨fun ⟨e', h1, h2, h3⟩ => ⟨v, h', rfl, e', h1, h2, h3⟩, fun ⟨v', h2, h3, e', h1, h4, h5⟩ => by simp only [Option.some.injEq, Prod.mk.injEq] at h3; obtain ⟨rfl, rfl⟩ := h3; exact ⟨e', h1, h4, h5⟩⟩
  cases g with
  | none => simpa [DoesG] using key true rfl
  | some p =>
    obtain ⟨k, b⟩ := p
    simp only [DoesG]
    cases hv : e.get k with
    | bool c =>
      have := key (c == b) (by simp [wantedA, hv])
      rw [this]
      cases c <;> cases b <;> simp [DoesGv]
    | any =>
      simp [DoesGv, DoesOps, runOps, LO.run, wantedA, hv]
    | _ =>
      have := key false (by simp [wantedA, hv])
      rw [this]
      simp [DoesGv]

@[go_sem ↓] theorem DoesOps0_nil (Q : Env → Heap → Prop) (t : Tag ([] : List LO)) (u : Tag Q) : DoesOps0 K base [] Q t u e h ↔ Q e h := by
  unfold DoesOps0; simp only [runOps]
  exact ⟨fun ⟨e', h', h1, h2⟩ => by simp only [Option.some.injEq, Prod.mk.injEq] at h1; obtain ⟨rfl, rfl⟩ := h1; exact h2, fun h2 => ⟨_, _, rfl, h2⟩⟩
@[go_sem ↓] theorem DoesOps0_cons (d : Option Nat) (op : LOp) (g : Option (Nat × Bool)) (l : List LO) (Q : Env → Heap → Prop) (t : Tag (LO.mk d op g :: l)) (u : Tag Q) :
    DoesOps0 K base (⟨d, op, g⟩ :: l) Q t u e h ↔ DoesG g (DoesR (fun v h' => Norm (fun e1 h1 => DoesOps0 K base l Q .mk .mk e1 h1) .mk (putD d v (usedAll op.ods e)) h') .mk (op.run K base e h))
      (Norm (fun e1 h1 => DoesOps0 K base l Q .mk .mk e1 h1) .mk (putD d .undef e) h) .mk .mk e := by
  have h1 := DoesOps_cons (K := K) (base := base) (e := e) (h := h) d op g l (fun _ e h => Q e h) .mk .mk
  unfold DoesOps NormT at h1
  unfold DoesOps0
  exact h1

@[go_sem] theorem DoesR_some (v : AV) (h : Heap) (Q : AV → Heap → Prop) (t : Tag Q) : DoesR Q t (some (v, h)) ↔ Q v h :=
  ⟨fun ⟨v', h', h1, h2⟩ => by simp only [Option.some.injEq, Prod.mk.injEq] at h1; obtain ⟨rfl, rfl⟩ := h1; exact h2, fun h2 => ⟨_, _, rfl, h2⟩⟩
@[go_sem] theorem DoesR_none (Q : AV → Heap → Prop) (t : Tag Q) : DoesR Q t none ↔ False := by simp [DoesR]
@[go_sem] theorem DoesR_need (c : Prop) [Decidable c] (a : AV × Heap) (Q : AV → Heap → Prop) (t : Tag Q) : DoesR Q t (if c then some a else none) ↔ c ∧ Norm (fun _ h => Q a.1 h) .mk [] a.2 := by
  by_cases hc : c <;> simp [hc, DoesR, Norm]
  exact ⟨fun ⟨v, h, h1, h2⟩ => by rw [h1]; exact h2, fun h1 => ⟨a.1, a.2, rfl, h1⟩⟩
@[go_sem] theorem DoesR_map (f : AV → AV × Heap) (o : Option AV) (Q : AV → Heap → Prop) (t : Tag Q) : DoesR Q t (o.map f) ↔ DoesO (fun v => Q (f v).1 (f v).2) .mk o := by
  cases o with
  | none => simp [DoesR, DoesO]
  | some y => exact ⟨fun ⟨v', h', h1, h2⟩ => ⟨y, rfl, by simp only [Option.map_some, Option.some.injEq] at h1; rw [h1]; exact h2⟩, fun ⟨v, h1, h2⟩ => by injection h1 with h1; subst h1; exact ⟨_, _, rfl, h2⟩⟩
@[go_sem] theorem DoesR_mapif {α : Type} (f : α → AV × Heap) (c : Prop) [Decidable c] (x : α) (Q : AV → Heap → Prop) (t : Tag Q) : DoesR Q t ((if c then some x else none).map f) ↔ c ∧ Norm (fun _ h => Q (f x).1 h) .mk [] (f x).2 := by
  by_cases hc : c <;> simp [hc, DoesR, Norm]
  exact ⟨fun ⟨v, h, h1, h2⟩ => by rw [h1]; exact h2, fun h1 => ⟨_, _, rfl, h1⟩⟩
@[go_sem] theorem DoesO_some (v : AV) (Q : AV → Prop) (t : Tag Q) : DoesO Q t (some v) ↔ Q v := by simp [DoesO]
@[go_sem] theorem DoesO_none (Q : AV → Prop) (t : Tag Q) : DoesO Q t none ↔ False := by simp [DoesO]
@[go_sem] theorem DoesO_need (c : Prop) [Decidable c] (v : AV) (Q : AV → Prop) (t : Tag Q) : DoesO Q t (if c then some v else none) ↔ c ∧ Q v := by
  by_cases hc : c <;> simp [hc, DoesO]

/-- What a function gives at its end. -/
def endA (keep : Bool) (res : List LRes) (n : Nat) (e : Env) (h : Heap) : Option (AV × Heap) :=
  match valsOf keep e h res with
  | some vs => some (if (oneOf (vs.map (freeze h n))).bnd ≤ n then (oneOf (vs.map (freeze h n)), h.take n) else (oneOf vs, h))
  | none => none
def EndQ (keep : Bool) (res : List LRes) (n : Nat) (r : AV) (H' : Heap) : Cont
  | .exit _, _, _ => False
  | _, e, h => endA keep res n e h = some (r, H')
@[go_sem ↓] theorem EndQ_nxt (keep : Bool) (res : List LRes) (n : Nat) (r : AV) (H' : Heap) : EndQ keep res n r H' .nxt e h = (endA keep res n e h = some (r, H')) := rfl
@[go_sem ↓] theorem EndQ_ret (keep : Bool) (res : List LRes) (n : Nat) (r : AV) (H' : Heap) : EndQ keep res n r H' .ret e h = (endA keep res n e h = some (r, H')) := rfl
/-- One value that leads to no new box. -/
theorem endA_one {keep : Bool} {t n : Nat} {v : AV} (hv : (if keep then e.get t else (e.get t).erase) = v) (hf : freeze h n v = v) (hb : v.bnd ≤ n) : endA keep [.tmp t] n e h = some (v, h.take n) := by
  simp [endA, valsOf, LRes.val, hv, hf, oneOf, hb]
/-- A function's run. -/
theorem run_of_does {f : Nat} {np : Nat} {body : LCode} {res : List LRes} {keep : Bool} (hF : T.lookup f = some (.code ⟨np, body, res, keep⟩)) {args : List AV} {H : Heap} {r : AV} {H' : Heap} (hd : Does T body (EndQ keep res H.length r H') .mk .mk (argEnv 0 args) H) : Run T f args H = some (r, H') := by
  rw [Run_code hF]
  obtain ⟨x, e', h', hr, hq⟩ := hd
  rw [hr]
  cases x with
  | exit i => exact absurd hq (by simp [EndQ])
  | nxt =>
    simp only [EndQ, endA] at hq
    simp only [finish]
    exact hq
  | ret =>
    simp only [EndQ, endA] at hq
    simp only [finish]
    exact hq
attribute [go_sem] isNilOd argEnv LOp.run LOp.ods usedAll Od.used Od.ev putD Env.get AV.erase AV.eraseL trim okc splice fillA fillS partA loadA fitsA storeA takeAt AV.cells valsOf LRes.val oneOf freeze AV.bnd AV.bndL endA
theorem bndL_strs (l : List (List UInt8)) : AV.bndL (l.map .str) = 0 := by
  induction l with
  | nil => rfl
  | cons x l ih => simp [AV.bndL, AV.bnd, ih]
theorem bndL_ints (k : IntKind) (l : List Int) : AV.bndL (l.map (.int k)) = 0 := by
  induction l with
  | nil => rfl
  | cons x l ih => simp [AV.bndL, AV.bnd, ih]
attribute [go_sem] AV.bndL_append bndL_strs bndL_ints Option.getD_none Option.getD_some Nat.max_self Nat.max_zero Nat.zero_max beq_self_eq_true Bool.or_true Bool.true_or Bool.or_false Bool.false_or Bool.and_false Bool.false_and List.length_map List.map_append List.length_set touchOf Touch.clash List.all_cons List.all_nil List.getD_cons_zero List.getD_cons_succ Bool.not_false Bool.not_true  decide_false Int.toNat_natCast Option.bind_some Option.toList_some Option.toList_none List.set_set
@[go_sem] theorem apart_all (ts : List Touch) (ups : List (Nat × Nat)) : apart ts ups = ups.all fun p => !(ts.getD p.1 .none).clash (ts.getD p.2 .none) := rfl
attribute [go_sem] List.replicate_zero List.replicate_succ List.append_nil List.nil_append List.cons_append List.append_assoc List.map_cons List.map_nil Bool.false_eq_true List.length_cons List.length_nil List.length_append List.take_succ_cons List.take_zero List.drop_succ_cons List.drop_zero List.getElem?_cons_zero List.getElem?_cons_succ List.set_cons_zero List.set_cons_succ List.take_left Option.map_some Option.map_none List.take_length decide_true Bool.and_true Bool.true_and Bool.and_self Nat.zero_add and_true true_and and_self Nat.zero_le Nat.le_refl
@[go_sem] theorem heap_get0 (H l : Heap) : (H ++ l)[H.length]? = l[0]? := by rw [List.getElem?_append_right (Nat.le_refl _), Nat.sub_self]
@[go_sem] theorem heap_getk (H l : Heap) (k : Nat) : (H ++ l)[H.length + k]? = l[k]? := by rw [List.getElem?_append_right (Nat.le_add_right _ _), Nat.add_sub_cancel_left]
@[go_sem] theorem heap_set0 (H l : Heap) (x : Box) : (H ++ l).set H.length x = H ++ l.set 0 x := by rw [List.set_append_right _ _ (Nat.le_refl _), Nat.sub_self]
@[go_sem] theorem heap_setk (H l : Heap) (k : Nat) (x : Box) : (H ++ l).set (H.length + k) x = H ++ l.set k x := by rw [List.set_append_right _ _ (Nat.le_add_right _ _), Nat.add_sub_cancel_left]
@[go_sem] theorem one_of_one (v : AV) : oneOf [v] = v := rfl
/-- A call of a function that leaves the boxes alone. -/
theorem callA_pure {f : Nat} {args : List AV} {h : Heap} {r : AV} (hb : AV.bndL args = 0) (hr : ∀ H, Run T f args H = some (r, H)) : callA (Run T f) args h = some (r, h) := by
  unfold callA
  simp [hb, hr]
theorem wrap_id {n : Int} (h1 : -9223372036854775808 ≤ n) (h2 : n < 9223372036854775808) : IntKind.i64.wrap n = n := by rw [IntKind.wrap_i64]; omega
theorem wrap_nat {n : Nat} (h2 : n < 9223372036854775807) : IntKind.i64.wrap ((n : Int) + 1) = ((n + 1 : Nat) : Int) := by rw [IntKind.wrap_i64]; omega
theorem heap_setget {h : Heap} {b : Nat} {y : Box} (hb : h[b]? = some y) (x : Box) : (h.set b x)[b]? = some x := List.getElem?_set_self (List.getElem?_eq_some_iff.1 hb).1
@[go_sem] theorem heap_take_set (h : Heap) (b : Nat) (x : Box) : (h.set b x).take h.length = h.set b x := List.take_of_length_le (by simp)
theorem heap_same {h : Heap} {b : Nat} {y : Box} (hb : h[b]? = some y) : h.set b y = h := by
  apply List.ext_getElem?
  intro i
  by_cases hib : b = i
  · subst hib; rw [heap_setget hb, hb]
  · rw [List.getElem?_set_ne hib]
/-- A call of a method on one box, that changes this box alone. -/
theorem callA_set {f b : Nat} {args : List AV} {h : Heap} {r : AV} {x y : Box} (hb : AV.bndL args = b + 1) (hx : h[b]? = some x) (hr : ∀ H : Heap, H[b]? = some x → Run T f args H = some (r, H.set b y)) : callA (Run T f) args h = some (r, h.set b y) := by
  have hlt : b < h.length := (List.getElem?_eq_some_iff.1 hx).1
  unfold callA
  have h1 : (h.take (b + 1) ++ List.replicate (h.length - (b + 1)) Box.hid)[b]? = some x := by
    rw [List.getElem?_append_left (by simp; omega), List.getElem?_take_of_lt (by omega), hx]
  simp only [hb, hr _ h1]
  congr 2
  apply List.ext_getElem?
  intro i
  have hl1 : (h.take (b + 1) ++ List.replicate (h.length - (b + 1)) Box.hid).length = h.length := by simp; omega
  have hd : ((h.take (b + 1) ++ List.replicate (h.length - (b + 1)) Box.hid).set b y).drop h.length = [] := by
    rw [List.drop_eq_nil_iff]; simp; omega
  rw [hd, List.append_nil]
  by_cases hi : i < b + 1
  · rw [List.getElem?_append_left (by simp; omega), List.getElem?_take_of_lt hi]
    by_cases hib : b = i
    · subst hib; rw [heap_setget h1, heap_setget hx]
    · rw [List.getElem?_set_ne hib, List.getElem?_set_ne hib, List.getElem?_append_left (by simp; omega), List.getElem?_take_of_lt hi]
  · rw [List.getElem?_append_right (by simp; omega), List.getElem?_drop]
    rw [List.getElem?_set_ne (by omega)]
    congr 1
    simp
    omega

/-! ### what comes later, as a stack -/
def NormN (k : Nat → Prop) (_ : Tag k) (n : Nat) : Prop := k n
@[go_sem] theorem NormN_eq (k : Nat → Prop) (t : Tag k) (n : Nat) : NormN k t n = k n := rfl
inductive Fr where
  | seq (b : LCode)
  | blk (i : Nat)
  | lp (b : LCode)
  | gc (n : Nat)
def aft (T : Tab) (fin : Cont) : List Fr → Cont
  | [] => fin
  | .seq b :: K => fun x e h => onNxt (Does T b (aft T fin K) .mk .mk e h) (aft T fin K x e h) .mk .mk x
  | .blk i :: K => outB i (aft T fin K) .mk
  | .lp b :: K => fun x e h => onNxt (Does T (.loop b) (aft T fin K) .mk .mk e h) (aft T fin K x e h) .mk .mk x
  | .gc n :: K => GcQ n (aft T fin K) .mk
variable {fin : Cont} {K' : List Fr}
@[go_sem ↓] theorem Does_seqK (a b : LCode) (t : Tag (LCode.seq a b)) (u : Tag (aft T fin K')) : Does T (.seq a b) (aft T fin K') t u e h ↔ Does T a (aft T fin (.seq b :: K')) .mk .mk e h := Does_seq ..
@[go_sem ↓] theorem Does_blockK (i : Nat) (b : LCode) (t : Tag (LCode.block i b)) (u : Tag (aft T fin K')) : Does T (.block i b) (aft T fin K') t u e h ↔ Does T b (aft T fin (.blk i :: K')) .mk .mk e h := Does_block ..
@[go_sem ↓] theorem Does_gcK (b : LCode) (t : Tag (LCode.gc b)) (u : Tag (aft T fin K')) : Does T (.gc b) (aft T fin K') t u e h ↔ NormN (fun n => Does T b (aft T fin (.gc n :: K')) .mk .mk e h) .mk h.length := Does_gc ..
@[go_sem ↓] theorem Does_loopK (b : LCode) (t : Tag (LCode.loop b)) (u : Tag (aft T fin K')) : Does T (.loop b) (aft T fin K') t u e h ↔ Does T b (aft T fin (.lp b :: K')) .mk .mk e h := Does_loop ..
@[go_sem ↓] theorem aft_nil (x : Ex) : aft T fin [] x e h ↔ fin x e h := Iff.rfl
@[go_sem ↓] theorem aft_seq_nxt (b : LCode) : aft T fin (.seq b :: K') .nxt e h ↔ Does T b (aft T fin K') .mk .mk e h := Iff.rfl
@[go_sem ↓] theorem aft_seq_exit (b : LCode) (i : Nat) : aft T fin (.seq b :: K') (.exit i) e h ↔ aft T fin K' (.exit i) e h := Iff.rfl
@[go_sem ↓] theorem aft_seq_ret (b : LCode) : aft T fin (.seq b :: K') .ret e h ↔ aft T fin K' .ret e h := Iff.rfl
@[go_sem ↓] theorem aft_lp_nxt (b : LCode) : aft T fin (.lp b :: K') .nxt e h ↔ Does T (.loop b) (aft T fin K') .mk .mk e h := Iff.rfl
@[go_sem ↓] theorem aft_lp_exit (b : LCode) (i : Nat) : aft T fin (.lp b :: K') (.exit i) e h ↔ aft T fin K' (.exit i) e h := Iff.rfl
@[go_sem ↓] theorem aft_lp_ret (b : LCode) : aft T fin (.lp b :: K') .ret e h ↔ aft T fin K' .ret e h := Iff.rfl
@[go_sem ↓] theorem aft_blk_nxt (i : Nat) : aft T fin (.blk i :: K') .nxt e h ↔ aft T fin K' .nxt e h := Iff.rfl
@[go_sem ↓] theorem aft_blk_ret (i : Nat) : aft T fin (.blk i :: K') .ret e h ↔ aft T fin K' .ret e h := Iff.rfl
@[go_sem ↓] theorem aft_blk_here (i : Nat) : aft T fin (.blk i :: K') (.exit i) e h ↔ aft T fin K' .nxt e h := by simp [aft, outB]
@[go_sem] theorem aft_blk_far (i j : Nat) (hne : j ≠ i) : aft T fin (.blk i :: K') (.exit j) e h ↔ aft T fin K' (.exit j) e h := by simp [aft, outB, hne]
@[go_sem] theorem aft_gc_same (n : Nat) (x : Ex) (hl : h.length = n) : aft T fin (.gc n :: K') x e h ↔ aft T fin K' x e h := GcQ_same .mk hl
theorem aft_gc_drop {n : Nat} {x : Ex} (hb : bndE e ≤ n) (hq : Norm (fun e h => aft T fin K' x e h) .mk e (h.take n)) : aft T fin (.gc n :: K') x e h := (GcQ_le hb .mk).2 hq
/-- A function's run. -/
theorem run_ofK {f : Nat} {np : Nat} {body : LCode} {res : List LRes} {keep : Bool} (hF : T.lookup f = some (.code ⟨np, body, res, keep⟩)) {args : List AV} {H : Heap} {n : Nat} {r : AV} {H' : Heap} (hn : H.length = n) (hd : Does T body (aft T (EndQ keep res n r H') []) .mk .mk (argEnv 0 args) H) : Run T f args H = some (r, H') := by
  subst hn; exact run_of_does hF hd

/-! ### typed operations -/
def lidx {α : Type} (l : List α) (i : Int) : Option α := if 0 ≤ i then l[i.toNat]? else none
def subl {α : Type} (l : List α) (lo hi : Int) : Option (List α) := if 0 ≤ lo ∧ lo ≤ hi ∧ hi ≤ (l.length : Int) then some ((l.take hi.toNat).drop lo.toNat) else none
def appl {α : Type} (bytes : Nat) (l ys : List α) : Option (List α) := if (l.length + ys.length) * bytes ≤ roomMax ∧ l.length + ys.length ≤ roomMax then some (l ++ ys) else none
def cats (a b : List UInt8) : Option (List UInt8) := if a.length + b.length ≤ strMax then some (a ++ b) else none
def iadd (k : IntKind) (a b : Int) : Int := k.wrap (a + b)
def isub (k : IntKind) (a b : Int) : Int := k.wrap (a - b)
def imul (k : IntKind) (a b : Int) : Int := k.wrap (a * b)
def iand (k : IntKind) (a b : Int) : Int := k.wrap (BitVec.ofInt k.bits a &&& BitVec.ofInt k.bits b).toNat
def ior (k : IntKind) (a b : Int) : Int := k.wrap (BitVec.ofInt k.bits a ||| BitVec.ofInt k.bits b).toNat
def ixor (k : IntKind) (a b : Int) : Int := k.wrap (BitVec.ofInt k.bits a ^^^ BitVec.ofInt k.bits b).toNat
def iandn (k : IntKind) (a b : Int) : Int := k.wrap (BitVec.ofInt k.bits a &&& ~~~ BitVec.ofInt k.bits b).toNat
def ineg (k : IntKind) (a : Int) : Int := k.wrap (0 - a)
def iquo (k : IntKind) (a b : Int) : Option Int := if b = 0 then none else some (k.wrap (a.tdiv b))
def irem (k : IntKind) (a b : Int) : Option Int := if b = 0 then none else some (a.tmod b)
def ishl (k : IntKind) (a b : Int) : Option Int := if b < 0 then none else some (k.wrap (a * 2 ^ (min b.toNat k.bits)))
def ishr (k : IntKind) (a b : Int) : Option Int := if b < 0 then none else some (a.fdiv (2 ^ (min b.toNat k.bits)))
def imax (x y : Int) : Int := if y > x then y else x
def imin (x y : Int) : Int := if y < x then y else x
def u8w (n : Int) : UInt8 := UInt8.ofNat (IntKind.u8.wrap n).toNat
def e8 (c : UInt8) : AV := .int .u8 (c.toNat : Int)
theorem u8w_eq (n : Int) : IntKind.u8.wrap n = ((u8w n).toNat : Int) := by
  have h : IntKind.u8.wrap n = n % 256 := by simp [IntKind.wrap, IntKind.bits, IntKind.signed]
  unfold u8w
  rw [h]
  have h1 : 0 ≤ n % 256 := Int.emod_nonneg _ (by omega)
  have h2 : n % 256 < 256 := Int.emod_lt_of_pos _ (by omega)
  simp only [UInt8.toNat_ofNat']
  omega
attribute [go_sem] u8w_eq
@[go_sem] theorem iadd_u8 (a b : Int) : iadd .u8 a b = ((u8w (a + b)).toNat : Int) := u8w_eq _
@[go_sem] theorem isub_u8 (a b : Int) : isub .u8 a b = ((u8w (a - b)).toNat : Int) := u8w_eq _
@[go_sem] theorem imul_u8 (a b : Int) : imul .u8 a b = ((u8w (a * b)).toNat : Int) := u8w_eq _
def bvor (a b : Int) : Int := (BitVec.ofInt 8 a ||| BitVec.ofInt 8 b).toNat
def bvand (a b : Int) : Int := (BitVec.ofInt 8 a &&& BitVec.ofInt 8 b).toNat
def bvxor (a b : Int) : Int := (BitVec.ofInt 8 a ^^^ BitVec.ofInt 8 b).toNat
@[go_sem] theorem ior_u8 (a b : Int) : ior .u8 a b = ((u8w (bvor a b)).toNat : Int) := u8w_eq _
@[go_sem] theorem iand_u8 (a b : Int) : iand .u8 a b = ((u8w (bvand a b)).toNat : Int) := u8w_eq _
@[go_sem] theorem ixor_u8 (a b : Int) : ixor .u8 a b = ((u8w (bvxor a b)).toNat : Int) := u8w_eq _
section ops
variable {k k' : IntKind} {a b : Int}
@[go_sem] theorem binA_add : binA .add (.int k a) (.int k b) = some (.int k (iadd k a b)) := by simp [binA, isShift, binI, iadd]
@[go_sem] theorem binA_sub : binA .sub (.int k a) (.int k b) = some (.int k (isub k a b)) := by simp [binA, isShift, binI, isub]
@[go_sem] theorem binA_mul : binA .mul (.int k a) (.int k b) = some (.int k (imul k a b)) := by simp [binA, isShift, binI, imul]
@[go_sem] theorem binA_and : binA .and (.int k a) (.int k b) = some (.int k (iand k a b)) := by simp [binA, isShift, binI, iand]
@[go_sem] theorem binA_or : binA .or (.int k a) (.int k b) = some (.int k (ior k a b)) := by simp [binA, isShift, binI, ior]
@[go_sem] theorem binA_xor : binA .xor (.int k a) (.int k b) = some (.int k (ixor k a b)) := by simp [binA, isShift, binI, ixor]
@[go_sem] theorem binA_andn : binA .andNot (.int k a) (.int k b) = some (.int k (iandn k a b)) := by simp [binA, isShift, binI, iandn]
@[go_sem] theorem binA_eql : binA .eql (.int k a) (.int k b) = some (.bool (a == b)) := by simp [binA, isShift, binI]
@[go_sem] theorem binA_neq : binA .neq (.int k a) (.int k b) = some (.bool (a != b)) := by simp [binA, isShift, binI]
@[go_sem] theorem binA_lss : binA .lss (.int k a) (.int k b) = some (.bool (decide (a < b))) := by simp [binA, isShift, binI]
@[go_sem] theorem binA_leq : binA .leq (.int k a) (.int k b) = some (.bool (decide (a ≤ b))) := by simp [binA, isShift, binI]
@[go_sem] theorem binA_gtr : binA .gtr (.int k a) (.int k b) = some (.bool (decide (a > b))) := by simp [binA, isShift, binI]
@[go_sem] theorem binA_geq : binA .geq (.int k a) (.int k b) = some (.bool (decide (a ≥ b))) := by simp [binA, isShift, binI]
@[go_sem] theorem binA_quo : binA .quo (.int k a) (.int k b) = (iquo k a b).map (.int k) := by
  by_cases h0 : b = 0 <;> simp [binA, isShift, binI, iquo, h0]
@[go_sem] theorem binA_rem : binA .rem (.int k a) (.int k b) = (irem k a b).map (.int k) := by
  by_cases h0 : b = 0 <;> simp [binA, isShift, binI, irem, h0]
@[go_sem] theorem binA_shl : binA .shl (.int k a) (.int k' b) = (ishl k a b).map (.int k) := by
  by_cases h0 : b < 0 <;> simp [binA, isShift, shiftI, ishl, h0]
@[go_sem] theorem binA_shr : binA .shr (.int k a) (.int k' b) = (ishr k a b).map (.int k) := by
  by_cases h0 : b < 0 <;> simp [binA, isShift, shiftI, ishr, h0]
variable {s t : List UInt8}
@[go_sem] theorem binA_sadd : binA .add (.str s) (.str t) = (cats s t).map .str := by
  simp only [binA, binS, cats]; split <;> simp_all
@[go_sem] theorem binA_seql : binA .eql (.str s) (.str t) = some (.bool (s == t)) := rfl
@[go_sem] theorem binA_sneq : binA .neq (.str s) (.str t) = some (.bool (!(s == t))) := rfl
@[go_sem] theorem binA_slss : binA .lss (.str s) (.str t) = some (.bool (Op.bytesLess s t)) := rfl
@[go_sem] theorem binA_sleq : binA .leq (.str s) (.str t) = some (.bool (Op.bytesLess s t || s == t)) := rfl
@[go_sem] theorem binA_sgtr : binA .gtr (.str s) (.str t) = some (.bool (!(Op.bytesLess s t || s == t))) := rfl
@[go_sem] theorem binA_sgeq : binA .geq (.str s) (.str t) = some (.bool (!Op.bytesLess s t)) := rfl
@[go_sem] theorem eqA_eq (x y : Bool) : eqA false (.bool x) (.bool y) = some (.bool (x == y)) := rfl
@[go_sem] theorem eqA_ne (x y : Bool) : eqA true (.bool x) (.bool y) = some (.bool (!(x == y))) := rfl
@[go_sem] theorem unA_neg : unA .neg (.int k a) = some (.int k (ineg k a)) := rfl
@[go_sem] theorem unA_not (x : Bool) : unA .not (.bool x) = some (.bool (!x)) := rfl
@[go_sem] theorem maxA_int : maxA (.int k a) (.int k b) = some (.int k (imax a b)) := by simp [maxA, imax]
@[go_sem] theorem minA_int : minA (.int k a) (.int k b) = some (.int k (imin a b)) := by simp [minA, imin]
@[go_sem] theorem idxA_str : idxA (.str s) (.int k a) = (lidx s a).map e8 := by
  by_cases h0 : 0 ≤ a <;> simp [idxA, lidx, h0] <;> rfl
variable {els ys : List AV} {o o' : Bool} {sz : Nat}
@[go_sem] theorem iaddrA_sl : iaddrA sz none (.sl o sz els) (.int k a) = (lidx els a).map (.ep · 0) := by
  by_cases h0 : 0 ≤ a <;> simp [iaddrA, lidx, h0]
@[go_sem] theorem lenA_str : lenA true (.str s) = some (.int .i64 s.length) := rfl
@[go_sem] theorem lenA_sl : lenA false (.sl o sz els) = some (.int .i64 els.length) := rfl
@[go_sem] theorem lenA_ms (b' off n : Nat) (sh : Option Nat) (tg : Bool) : lenA false (.ms b' off n sh tg) = some (.int .i64 n) := rfl
theorem bound_sub {α : Type} {l : List α} {lo hi : Int} : ((asNat l.length (.int k hi)).bind fun h => (asNat h (.int k' lo)).bind fun b => some ((l.take h).drop b)) = subl l lo hi := by
  unfold asNat subl
  by_cases h1 : 0 ≤ hi ∧ hi ≤ (l.length : Int)
  · simp only [if_pos h1, Option.bind_some]
    by_cases h2 : 0 ≤ lo ∧ lo ≤ hi
    · rw [if_pos (by omega), if_pos (by omega)]; rfl
    · rw [if_neg (by omega), if_neg (by omega)]; rfl
  · simp only [if_neg h1, Option.bind_none]
    rw [if_neg (by omega)]
theorem map_bind {α β γ δ : Type} (x : Option α) (f : α → Option β) (g : α → β → γ) (m : γ → δ) : (x.bind fun a => (f a).bind fun b => some (m (g a b))) = (x.bind fun a => (f a).bind fun b => some (g a b)).map m := by
  cases x with
  | none => rfl
  | some a => simp only [Option.bind_some]; cases f a <;> rfl
@[go_sem] theorem sliceA_str2 : sliceA none (.str s) (some (.int k a)) (some (.int k' b)) = (subl s a b).map .str := by
  show ((asNat s.length (.int k' b)).bind fun h => (asNat h (.int k a)).bind fun b => some (AV.str ((s.take h).drop b))) = _
  rw [map_bind, bound_sub]
@[go_sem] theorem sliceA_strL : sliceA none (.str s) (some (.int k a)) none = (subl s a (s.length : Int)).map .str := by
  have h := sliceA_str2 (s := s) (k := k) (a := a) (k' := .i64) (b := (s.length : Int))
  rw [← h]; simp [sliceA, boundA, asNat]
@[go_sem] theorem sliceA_strH : sliceA none (.str s) none (some (.int k a)) = (subl s 0 a).map .str := by
  have h := sliceA_str2 (s := s) (k := .i64) (a := 0) (k' := k) (b := a)
  rw [← h]; simp [sliceA, boundA, asNat]
@[go_sem] theorem sliceA_sl2 : sliceA (some sz) (.sl o sz els) (some (.int k a)) (some (.int k' b)) = (subl els a b).map (.sl false sz) := by
  show (if sz = sz then ((asNat els.length (.int k' b)).bind fun h => (asNat h (.int k a)).bind fun b => some (AV.sl false sz ((els.take h).drop b))) else none) = _
  rw [if_pos rfl, map_bind, bound_sub]
@[go_sem] theorem sliceA_slL : sliceA (some sz) (.sl o sz els) (some (.int k a)) none = (subl els a (els.length : Int)).map (.sl false sz) := by
  have h := sliceA_sl2 (o := o) (sz := sz) (els := els) (k := k) (a := a) (k' := .i64) (b := (els.length : Int))
  rw [← h]; simp [sliceA, boundA, asNat]
@[go_sem] theorem sliceA_slH : sliceA (some sz) (.sl o sz els) none (some (.int k a)) = (subl els 0 a).map (.sl false sz) := by
  have h := sliceA_sl2 (o := o) (sz := sz) (els := els) (k := .i64) (a := 0) (k' := k) (b := a)
  rw [← h]; simp [sliceA, boundA, asNat]
@[go_sem] theorem appendA_sl {bytes : Nat} : appendA sz bytes (.sl true sz els) (.sl o sz ys) = (appl bytes els ys).map (.sl true sz) := by
  simp only [appendA, appl]; split <;> simp_all
@[go_sem] theorem appendSA_sl : appendSA (.sl true 1 els) (.str s) = (appl 1 els (s.map e8)).map (.sl true 1) := by
  by_cases h0 : els.length + s.length ≤ roomMax <;> simp [appendSA, appl, h0, bytesA, e8]
@[go_sem] theorem bytesA_eq : bytesA s = s.map e8 := rfl
@[go_sem] theorem strOf_e8 : strOf (s.map e8) = some s := by
  induction s with
  | nil => rfl
  | cons c s ih => simp [strOf, e8] at ih ⊢; rw [ih]
end ops
theorem lidx_map {α β : Type} (f : α → β) {l : List α} {i : Int} {x : α} (hx : lidx l i = some x) : lidx (l.map f) i = some (f x) := by
  unfold lidx at hx ⊢
  split at hx
  · simp [hx, *]
  · simp at hx
theorem subl_map {α β : Type} (f : α → β) {l l' : List α} {i j : Int} (hx : subl l i j = some l') : subl (l.map f) i j = some (l'.map f) := by
  unfold subl at hx ⊢
  split at hx
  · injection hx with hx; subst hx; simp_all [List.map_take, List.map_drop]
  · simp at hx
theorem appl_map {α β : Type} (f : α → β) {bytes : Nat} {l ys l' : List α} (hx : appl bytes l ys = some l') : appl bytes (l.map f) (ys.map f) = some (l'.map f) := by
  unfold appl at hx ⊢
  split at hx
  · injection hx with hx; subst hx; simp_all
  · simp at hx
theorem bindE {α β : Type} {o : Option α} {f : α → Option β} {r : β} (h : (o >>= f) = some r) : ∃ x, o = some x ∧ f x = some r := by
  cases o with
  | none => simp at h
  | some x => exact ⟨x, rfl, h⟩
theorem iteE {α : Type} {c : Bool} {x y : Option α} {r : α} (h : (if c = true then x else y) = some r) : (c = true ∧ x = some r) ∨ (c = false ∧ y = some r) := by
  cases c
  · exact .inr ⟨rfl, by simpa using h⟩
  · exact .inl ⟨rfl, by simpa using h⟩
theorem DoesO_m {α : Type} {o : Option α} {x : α} {f : α → AV} {Q : AV → Prop} {t : Tag Q} (hx : o = some x) (hq : Q (f x)) : DoesO Q t (o.map f) := by subst hx; exact ⟨_, rfl, hq⟩
theorem DoesR_m {o : Option (AV × Heap)} {v : AV} {h' : Heap} {Q : AV → Heap → Prop} {t : Tag Q} (hx : o = some (v, h')) (hq : Norm (fun _ h => Q v h) .mk [] h') : DoesR Q t o := ⟨_, _, hx, hq⟩
theorem DoesC_t {c : Bool} {p q : Prop} {t : Tag p} {u : Tag q} (hc : c = true) (hp : p) : DoesC p q t u (.bool c) := by subst hc; simpa [DoesC] using hp
theorem DoesC_f {c : Bool} {p q : Prop} {t : Tag p} {u : Tag q} (hc : c = false) (hp : q) : DoesC p q t u (.bool c) := by subst hc; simpa [DoesC] using hp
theorem DoesGv_y {b c : Bool} {p q : Prop} {t : Tag p} {u : Tag q} (hc : c = b) (hp : p) : DoesGv b p q t u (.bool c) := by subst hc; simpa [DoesGv] using hp
theorem DoesGv_n {b c : Bool} {p q : Prop} {t : Tag p} {u : Tag q} (hc : c = !b) (hp : q) : DoesGv b p q t u (.bool c) := by subst hc; simpa [DoesGv] using hp

/-! ### boxes -/
section hp
variable {b n : Nat} {x y : Box} {l : List Box}
theorem hs_get (hlt : b < h.length) : (h.set b x)[b]? = some x := by rw [List.getElem?_set_self hlt]
theorem hs_nle0 (hlt : b < h.length) : (h.length ≤ b) = False := by simp; omega
theorem hs_nle (hlt : b < h.length) (k : Nat) : (h.length + k ≤ b) = False := by simp; omega
theorem hs_nlt0 (hlt : b < h.length) : (h.length < b + 1) = False := by simp; omega
theorem hs_nlt (hlt : b < h.length) (k : Nat) : (h.length + k < b + 1) = False := by simp; omega
theorem hs_ne0 (hlt : b < h.length) : (b == h.length) = false := by simp; omega
theorem hs_ne (hlt : b < h.length) (k : Nat) : (b == h.length + k) = false := by simp; omega
theorem hs_ne0' (hlt : b < h.length) : (h.length == b) = false := by simp; omega
theorem hs_ne' (hlt : b < h.length) (k : Nat) : (h.length + k == b) = false := by simp; omega
theorem hs_getL (hlt : b < h.length) : (h.set b x ++ l)[b]? = some x := by
  rw [List.getElem?_append_left (by simpa using hlt), List.getElem?_set_self hlt]
theorem hs_setL (hlt : b < h.length) : (h.set b x ++ l).set b y = h.set b y ++ l := by
  rw [List.set_append_left _ _ (by simpa using hlt), List.set_set]
/-- All that is known of a box below. -/
theorem hs_all (hlt : b < h.length) : (∀ x : Box, (h.set b x)[b]? = some x) ∧ (∀ (x : Box) (l : List Box), (h.set b x ++ l)[b]? = some x) ∧ (∀ (x y : Box) (l : List Box), (h.set b x ++ l).set b y = h.set b y ++ l) ∧ (h.length ≤ b) = False ∧ (∀ k : Nat, (h.length + k ≤ b) = False) ∧ (h.length < b + 1) = False ∧ (∀ k : Nat, (h.length + k < b + 1) = False) ∧
    (b == h.length) = false ∧ (∀ k : Nat, (b == h.length + k) = false) ∧ (h.length == b) = false ∧ (∀ k : Nat, (h.length + k == b) = false) :=
  ⟨fun _ => hs_get hlt, fun _ _ => hs_getL hlt, fun _ _ _ => hs_setL hlt, hs_nle0 hlt, hs_nle hlt, hs_nlt0 hlt, hs_nlt hlt, hs_ne0 hlt, hs_ne hlt, hs_ne0' hlt, hs_ne' hlt⟩
@[go_sem] theorem hs_get0 : (h.set b x ++ l)[h.length]? = l[0]? := by rw [List.getElem?_append_right (by simp)]; simp
@[go_sem] theorem hs_getk (k : Nat) : (h.set b x ++ l)[h.length + k]? = l[k]? := by rw [List.getElem?_append_right (by simp)]; simp
@[go_sem] theorem hs_set0 : (h.set b x ++ l).set h.length y = h.set b x ++ l.set 0 y := by rw [List.set_append_right _ _ (by simp)]; simp
@[go_sem] theorem hs_setk (k : Nat) : (h.set b x ++ l).set (h.length + k) y = h.set b x ++ l.set k y := by rw [List.set_append_right _ _ (by simp)]; simp
@[go_sem] theorem hs_take0 : (h.set b x ++ l).take h.length = h.set b x := List.take_left' (by simp)
@[go_sem] theorem hs_takek (k : Nat) : (h.set b x ++ l).take (h.length + k) = h.set b x ++ l.take k := by
  rw [List.take_append, List.take_of_length_le (by simp)]; simp
@[go_sem] theorem hp_takek (k : Nat) : (h ++ l).take (h.length + k) = h ++ l.take k := by
  rw [List.take_append, List.take_of_length_le (by simp)]; simp
theorem lb_get {A : Heap} {k : Nat} (hA : A.length = n) (hx : l[k]? = some x) : (A ++ l)[n + k]? = some x := by
  subst hA; rw [List.getElem?_append_right (Nat.le_add_right _ _), Nat.add_sub_cancel_left, hx]
theorem lb_get0 {A : Heap} (hA : A.length = n) (hx : l[0]? = some x) : (A ++ l)[n]? = some x := lb_get (k := 0) hA hx
end hp
theorem DoesO_v {o : Option AV} {v : AV} {Q : AV → Prop} {t : Tag Q} (hx : o = some v) (hq : Q v) : DoesO Q t o := ⟨_, hx, hq⟩
/-! ### rows that may be written -/
section rows
variable {α : Type} {enc : α → AV}
def mksl (bytes : Nat) (l c : Int) : Option Nat := if 0 ≤ l ∧ l = c ∧ c * bytes ≤ roomMax ∧ c ≤ roomMax then some l.toNat else none
theorem mkslice_of {H : Heap} {bytes m : Nat} {k k' : IntKind} {l c : Int} {z : α} {zs : List AV} (hz : zs = [enc z]) (hx : mksl bytes l c = some m) : mksliceA H none bytes zs (.int k l) (.int k' c) = some (.ms H.length 0 m none true, H ++ [.row (List.map enc (List.replicate m z))]) := by
  unfold mksl at hx
  split at hx
  · rename_i hc
    obtain ⟨h1, rfl, h3, h4⟩ := hc
    cases hx
    subst hz
    simp only [mksliceA]
    rw [if_pos ⟨h1, by omega, h3, h4⟩]
    simp
  · cases hx
def msix (m : Nat) (i : Int) : Option Nat := if 0 ≤ i ∧ i < (m : Int) then some i.toNat else none
theorem msix_of {b m j : Nat} {i : Int} {k : IntKind} {tg : Bool} (hx : msix m i = some j) : iaddrA 1 none (.ms b 0 m none tg) (.int k i) = some (.ptr b j) := by
  unfold msix at hx
  split at hx
  · rename_i hc
    cases hx
    simp [iaddrA, hc.1, hc.2]
  · cases hx
theorem msixA_of {b m j : Nat} {i : Int} {k : IntKind} (hx : msix m i = some j) : iaddrA 1 (some m) (.ptr b 0) (.int k i) = some (.ptr b j) := by
  unfold msix at hx
  split at hx
  · rename_i hc
    cases hx
    simp [iaddrA, hc.1, hc.2]
  · cases hx
def lgetN (l : List α) (j : Nat) : Option α := l[j]?
theorem lgetN_map (enc : α → AV) {l : List α} {j : Nat} {x : α} (hx : lgetN l j = some x) : (List.map enc l)[j]? = some (enc x) := by
  unfold lgetN at hx; simp [hx]
def lset (l : List α) (j : Nat) (v : α) : Option (List α) := if j < l.length then some (l.set j v) else none
theorem lset_lt {l l' : List α} {j : Nat} {v : α} (hx : lset l j v = some l') : j + 1 ≤ l.length := by
  unfold lset at hx
  split at hx
  · assumption
  · cases hx
theorem lset_dec {l l' : List α} {j : Nat} {v : α} (hx : lset l j v = some l') : decide (j + 1 ≤ l.length) = true := by simpa using lset_lt hx
theorem lset_row (enc : α → AV) {l l' : List α} {j : Nat} {v : α} (hx : lset l j v = some l') : List.take j (List.map enc l) ++ enc v :: List.drop (j + 1) (List.map enc l) = List.map enc l' := by
  unfold lset at hx
  split at hx
  · rename_i hc
    cases hx
    rw [List.set_eq_take_append_cons_drop, if_pos hc]
    simp
  · cases hx
def cpyl (m : Nat) (l ys : List α) : Option (List α) := if m ≤ l.length then some (ys.take m ++ l.drop (min ys.length m)) else none
theorem flat_one (he : ∀ x, (enc x).cells = [enc x]) (hr : ∀ x, (enc x).erase = enc x) (l : List α) : AV.eraseL (flatA (l.map enc)) = l.map enc := by
  unfold flatA
  induction l with
  | nil => rfl
  | cons x l ih => simp only [List.map_cons, List.flatMap_cons, he, List.singleton_append, AV.eraseL, hr, ih]
theorem bnd_one (hb : ∀ x, (enc x).bnd = 0) (l : List α) : AV.bndL (l.map enc) = 0 := by
  induction l with
  | nil => rfl
  | cons x l ih => simp [AV.bndL, hb, ih]
theorem copyA_of {H : Heap} {b m : Nat} {l ys l' : List α} {tg o : Bool} (he : ∀ x, (enc x).cells = [enc x]) (hr : ∀ x, (enc x).erase = enc x) (hb : ∀ x, (enc x).bnd = 0) (hg : H[b]? = some (.row (List.map enc l))) (hx : cpyl m l ys = some l') : copyA H 1 (.ms b 0 m none tg) (.sl o 1 (List.map enc ys)) = some (.int .i64 ((min ys.length m : Nat) : Int), H.set b (.row (List.map enc l'))) := by
  unfold cpyl at hx
  split at hx
  · rename_i hc
    cases hx
    simp only [copyA, hg, Option.getD_none, and_self, if_true, Nat.mul_one, Nat.zero_add, List.length_map, bnd_one hb]
    rw [if_pos ⟨hc, Nat.zero_le _⟩, ← List.map_take, flat_one he hr]
    simp only [splice, List.take_zero, List.nil_append, Nat.zero_add, List.length_map, List.length_take, List.map_append, List.map_drop]
    rw [Nat.min_comm m ys.length]
  · cases hx
def frz (m : Nat) (l : List α) : Option (List α) := if m ≤ l.length then some (l.take m) else none
theorem elsOf_ge (hr : ∀ x, (enc x).erase = enc x) {l : List α} : ∀ (m off : Nat), off + m ≤ l.length → elsOf none (List.map enc l) off m = some (List.map enc ((l.drop off).take m))
  | 0, off, _ => by simp [elsOf]
  | m + 1, off, h => by
    have hlt : off < l.length := by omega
    have ih := elsOf_ge hr (l := l) m (off + 1) (by omega)
    simp only [elsOf, partA, Option.getD_none, ih, List.getElem?_map, List.getElem?_eq_getElem hlt, Option.map_some, hr]
    rw [List.drop_eq_getElem_cons hlt, List.take_succ_cons, List.map_cons]
theorem elsOf_of {m : Nat} {l x : List α} (_he : ∀ x, (enc x).cells = [enc x]) (hr : ∀ x, (enc x).erase = enc x) (hx : frz m l = some x) : elsOf none (List.map enc l) 0 m = some (List.map enc x) := by
  unfold frz at hx
  split at hx
  · rename_i hc
    cases hx
    rw [elsOf_ge hr m 0 (by omega), List.drop_zero]
  · cases hx
end rows
theorem app_get {l : List Box} {a : Nat} {x : Box} (hb : h[a]? = some x) : (h ++ l)[a]? = some x := by
  rw [List.getElem?_append_left (List.getElem?_eq_some_iff.1 hb).1, hb]
theorem callA_ptr {f b : Nat} {args : List AV} {r : AV} {x y : Box} (hb : AV.bndL args = b + 1) (hx : h[b]? = some x) (hr : ∀ H : Heap, b < H.length → Run T f args (H.set b x) = some (r, H.set b y)) : callA (Run T f) args h = some (r, h.set b y) :=
  callA_set hb hx fun H hH => by
    have h1 := hr H (List.getElem?_eq_some_iff.1 hH).1
    rwa [heap_same hH] at h1
theorem callA_ptr0 {f b : Nat} {args : List AV} {r : AV} {x : Box} (hb : AV.bndL args = b + 1) (hx : h[b]? = some x) (hr : ∀ H : Heap, b < H.length → Run T f args (H.set b x) = some (r, H.set b x)) : callA (Run T f) args h = some (r, h) := by
  have h1 := callA_ptr hb hx hr
  rwa [heap_same hx] at h1
theorem callA_hof {f n : Nat} {args : List AV} {r : AV} (hn : AV.bndL args = n) (hr : Run T f args (h.take n ++ List.replicate (h.length - n) .hid) = some (r, h.take n ++ List.replicate (h.length - n) .hid)) : callA (Run T f) args h = some (r, h) := by
  unfold callA
  simp only [hn, hr]
  congr 2
  by_cases hc : n ≤ h.length
  · have h1 : (h.take n).length = n := by simp; omega
    rw [List.take_append_of_le_length (by omega), List.take_take, Nat.min_self]
    have h2 : (h.take n ++ List.replicate (h.length - n) Box.hid).drop h.length = [] := by rw [List.drop_eq_nil_iff]; simp; omega
    rw [h2, List.append_nil, List.take_append_drop]
  · have h1 : h.take n = h := List.take_of_length_le (by omega)
    have h2 : h.length - n = 0 := by omega
    rw [h1, h2]
    simp [List.take_of_length_le (show h.length ≤ n by omega), List.drop_eq_nil_of_le (show h.length ≤ n by omega)]
theorem hp_hid {g n : Nat} {args : List AV} {r : AV} (hm : AV.bndL args ≤ n) (hr : ∀ l : Heap, callA (Run T g) args (h ++ l) = some (r, h ++ l)) (l : Heap) : callA (Run T g) args ((h.take n ++ List.replicate (h.length - n) .hid) ++ l) = some (r, (h.take n ++ List.replicate (h.length - n) .hid) ++ l) := by
  by_cases hc : n ≤ h.length
  · have h0 := hr l
    unfold callA at h0 ⊢
    simp only at h0 ⊢
    have hlen : ((h.take n ++ List.replicate (h.length - n) Box.hid) ++ l).length = (h ++ l).length := by simp; omega
    have htk : ((h.take n ++ List.replicate (h.length - n) Box.hid) ++ l).take (AV.bndL args) = (h ++ l).take (AV.bndL args) := by
      have e1 : (h.take n).length = n := by simp; omega
      rw [List.append_assoc, List.take_append_of_le_length (by omega), List.take_take, Nat.min_eq_left hm, List.take_append_of_le_length (by omega)]
    rw [hlen, htk]
    cases hk : Run T g args (List.take (AV.bndL args) (h ++ l) ++ List.replicate ((h ++ l).length - AV.bndL args) Box.hid) with
    | none => rw [hk] at h0; simp at h0
    | some p =>
      obtain ⟨r', h1⟩ := p
      rw [hk] at h0
      simp only [Option.some.injEq, Prod.mk.injEq] at h0 ⊢
      refine ⟨h0.1, ?_⟩
      have h2 := h0.2
      have hA : (List.take (AV.bndL args) h1).length ≤ AV.bndL args := by simp; omega
      have hlen1 := congrArg List.length h2
      have hd : (h ++ l).drop (AV.bndL args) ++ h1.drop (h ++ l).length = (h ++ l).drop (AV.bndL args) ++ [] ∧ List.take (AV.bndL args) h1 = (h ++ l).take (AV.bndL args) := by
        have hb : AV.bndL args ≤ (h ++ l).length := by simp; omega
        have e2 : List.take (AV.bndL args) h1 ++ ((h ++ l).drop (AV.bndL args) ++ h1.drop (h ++ l).length) = (h ++ l).take (AV.bndL args) ++ (h ++ l).drop (AV.bndL args) := by rw [List.take_append_drop, ← List.append_assoc]; exact h2
        have hl1 : (List.take (AV.bndL args) h1).length = AV.bndL args := by
          simp only [List.length_append, List.length_take, List.length_drop] at hlen1 ⊢
          omega
        have hl2 : ((h ++ l).take (AV.bndL args)).length = AV.bndL args := by simp; simp at hb; omega
        obtain ⟨q1, q2⟩ := List.append_inj e2 (by rw [hl1, hl2])
        exact ⟨by rw [q2, List.append_nil], q1⟩
      obtain ⟨hd1, hd2⟩ := hd
      have hd3 : h1.drop (h ++ l).length = [] := List.append_cancel_left hd1
      rw [hd2, hd3, List.append_nil, ← htk, List.take_append_drop]
  · have h1 : h.take n = h := List.take_of_length_le (by omega)
    have h2 : h.length - n = 0 := by omega
    rw [h1, h2]
    simpa using hr l
theorem bndL_e8 (l : List UInt8) : AV.bndL (l.map e8) = 0 := by
  induction l with
  | nil => rfl
  | cons x l ih => simp [AV.bndL, AV.bnd, ih, e8]
theorem bndL_bools (l : List Bool) : AV.bndL (l.map .bool) = 0 := by
  induction l with
  | nil => rfl
  | cons x l ih => simp [AV.bndL, AV.bnd, ih]
theorem bndL_rows {α : Type} (sz : Nat) (f : α → AV) (hf : ∀ l : List α, AV.bndL (l.map f) = 0) (l : List (List α)) : AV.bndL (l.map fun x => .sl false sz (x.map f)) = 0 := by
  induction l with
  | nil => rfl
  | cons x l ih => simp [AV.bndL, AV.bnd, ih, hf]
theorem callA_newF {f : Nat} {args : List AV} {l : List Box} {r : Nat → AV} (hb : AV.bndL args = 0) (hr : ∀ H : Heap, Run T f args H = some (r H.length, H ++ l)) : callA (Run T f) args h = some (r h.length, h ++ l) := by
  unfold callA
  simp [hb, hr]
@[go_sem] theorem succ_le_self_F (n : Nat) : (n + 1 ≤ n) = False := by simp
@[go_sem] theorem beq_succ (n k : Nat) : (n == n + (k + 1)) = false := by simp
@[go_sem] theorem succ_beq (n k : Nat) : (n + (k + 1) == n) = false := by simp
@[go_sem] theorem add_beq_add (n j k : Nat) : (n + j == n + k) = (j == k) := by
  rw [Bool.eq_iff_iff]; simp
@[go_sem] theorem add_lt_zero_F (n k : Nat) : (n + k < 0) = False := by simp
@[go_sem] theorem add_le_self_F (n k : Nat) : (n + (k + 1) ≤ n) = False := by simp
attribute [go_sem] Nat.not_lt_zero decide_false Nat.add_assoc Nat.add_zero bndE bndL_e8 bndL_bools AV.bndL_erase e8 List.append_eq
end
end Go.Proofs.YtfihinodhhhllaaGreat
