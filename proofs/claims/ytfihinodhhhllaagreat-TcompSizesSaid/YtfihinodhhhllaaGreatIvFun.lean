/- Functions: a whole table of small code stands for the machine's functions. -/
import Derived.Test.YtfihinodhhhllaaGreatIvFreeze
set_option linter.unusedVariables false
set_option linter.unusedSimpArgs false
namespace Go.Proofs.YtfihinodhhhllaaGreat
open Go

section
variable {K : Callee} {base : Nat} {e e' : Env} {h h' : Heap}

theorem callA_len (hK : KLen K) {f : Nat} {args : List AV} {r : AV} (hr : callA (K f) args h = some (r, h')) : h.length ≤ h'.length := by
  unfold callA at hr
  simp only at hr
  split at hr
  · rename_i r' h1 hk
    injection hr with hr; injection hr with q1 q2; subst q1; subst q2
    have := hK _ _ _ _ _ hk
    simp at this
    simp
    omega
  · simp at hr
theorem storeA_len {n : Option Nat} {a x : AV} (hs : storeA h n a x = some h') : h'.length = h.length := by
  obtain ⟨b, off, y, _, _, rfl, _⟩ := storeA_eff hs
  exact putRow_length
theorem takeAt_len {n : Option Nat} {a : AV} : (takeAt h n a).length = h.length := by
  unfold takeAt
  split
  · split <;> simp
  · rfl
theorem op_len (hK : KLen K) {op : LOp} {v : AV} (hr : op.run K base e h = some (v, h')) : h.length ≤ h'.length := by
  have pure : ∀ r : Option AV, op.run K base e h = r.map (·, h) → h.length ≤ h'.length := by
    intro r hrr
    rw [hrr] at hr
    obtain ⟨v', _, hr'⟩ := Option.map_eq_some_iff.1 hr
    injection hr' with q1 q2; subst q2; exact Nat.le_refl _
  cases op
  case load take n a =>
    simp only [LOp.run] at hr
    split at hr
    · split at hr
      · obtain ⟨x, hx, hr⟩ := Option.map_eq_some_iff.1 hr
        injection hr with q1 q2; subst q2
        rw [takeAt_len]; exact Nat.le_refl _
      · simp at hr
    · obtain ⟨x, hx, hr⟩ := Option.map_eq_some_iff.1 hr
      injection hr with q1 q2; subst q2; exact Nat.le_refl _
  case store n a x =>
    simp only [LOp.run] at hr
    obtain ⟨h2, hs, hr⟩ := Option.map_eq_some_iff.1 hr
    injection hr with q1 q2; subst q2
    rw [storeA_len hs]; exact Nat.le_refl _
  case alloc k zs =>
    simp only [LOp.run] at hr
    injection hr with hr; injection hr with q1 q2; subst q2
    simp
  case box x =>
    simp only [LOp.run] at hr
    split at hr
    · injection hr with hr; injection hr with q1 q2; subst q2; simp
    · simp at hr
  case call f xs => simp only [LOp.run] at hr; exact callA_len hK hr
  case callv f xs =>
    simp only [LOp.run] at hr
    split at hr
    · exact callA_len hK hr
    · simp at hr
  case pick c p q =>
    simp only [LOp.run] at hr
    split at hr
    · injection hr with hr; injection hr with q1 q2; subst q2; exact Nat.le_refl _
    · simp at hr
  case mov x => exact pure (some (x.ev e)) rfl
  case mkfn f xs => exact pure (some (.fn f (xs.map (Od.ev e)))) rfl
  case build zs ps => exact pure ((fillA zs (ps.map fun p => (p.1, p.2.1, p.2.2.ev e))).map .agg) (by simp [LOp.run, Option.map_map, Function.comp_def])
  case bslice sz zs ps => exact pure ((fillS zs sz (ps.map fun p => (p.1, p.2.ev e))).map (.sl true sz)) (by simp [LOp.run, Option.map_map, Function.comp_def])
  case nilc x =>
    simp only [LOp.run] at hr
    split at hr
    · injection hr with hr; injection hr with q1 q2; subst q2; exact Nat.le_refl _
    · injection hr with hr; injection hr with q1 q2; subst q2; exact Nat.le_refl _
    · injection hr with hr; injection hr with q1 q2; subst q2; exact Nat.le_refl _
    · simp at hr
  case conv k x =>
    simp only [LOp.run] at hr
    split at hr
    · injection hr with hr; injection hr with q1 q2; subst q2; exact Nat.le_refl _
    · simp at hr
  case strStr x =>
    simp only [LOp.run] at hr
    split at hr
    · injection hr with hr; injection hr with q1 q2; subst q2; exact Nat.le_refl _
    · simp at hr
  case bytesStr x =>
    simp only [LOp.run] at hr
    split at hr
    · obtain ⟨y, hy, hr⟩ := Option.map_eq_some_iff.1 hr
      injection hr with q1 q2; subst q2; exact Nat.le_refl _
    · simp at hr
  case strBytes x =>
    simp only [LOp.run] at hr
    split at hr
    · injection hr with hr; injection hr with q1 q2; subst q2; exact Nat.le_refl _
    · simp at hr
  case faddr x off =>
    simp only [LOp.run] at hr
    split at hr
    · injection hr with hr; injection hr with q1 q2; subst q2; exact Nat.le_refl _
    · injection hr with hr; injection hr with q1 q2; subst q2; exact Nat.le_refl _
    · simp at hr
  case field x off n =>
    simp only [LOp.run] at hr
    split at hr
    · obtain ⟨y, hy, hr⟩ := Option.map_eq_some_iff.1 hr
      injection hr with q1 q2; subst q2; exact Nat.le_refl _
    · simp at hr
  case ext x i =>
    simp only [LOp.run] at hr
    split at hr
    · obtain ⟨y, hy, hr⟩ := Option.map_eq_some_iff.1 hr
      injection hr with q1 q2; subst q2; exact Nat.le_refl _
    · simp at hr
  case mkslice sh bytes zs x y =>
    simp only [LOp.run, mksliceA] at hr
    split at hr
    · split at hr
      · injection hr with hr; injection hr with q1 q2; subst q2; simp
      · simp at hr
    · simp at hr
  case copy sz x y =>
    simp only [LOp.run, copyA] at hr
    split at hr
    · split at hr
      · split at hr
        · split at hr
          · injection hr with hr; injection hr with q1 q2; subst q2; simp
          · simp at hr
        · simp at hr
      · simp at hr
    · simp at hr
  all_goals (simp only [LOp.run] at hr; obtain ⟨y, hy, hr⟩ := Option.map_eq_some_iff.1 hr; injection hr with q1 q2; subst q2; exact Nat.le_refl _)

theorem lo_len' (hK : KLen K) {lo : LO} (hr : lo.run K base e h = some (e', h')) : h.length ≤ h'.length := by
  unfold LO.run at hr
  split at hr
  · split at hr
    · rename_i hop
      injection hr with hr; injection hr with q1 q2; subst q2
      exact op_len hK hop
    · simp at hr
  · injection hr with hr; injection hr with q1 q2; subst q2; exact Nat.le_refl _
  · simp at hr
theorem runOps_len (hK : KLen K) : ∀ (l : List LO) {e : Env} {h : Heap}, runOps K base l e h = some (e', h') → h.length ≤ h'.length
  | [], e, h, hr => by simp only [runOps] at hr; injection hr with hr; injection hr with q1 q2; subst q2; exact Nat.le_refl _
  | lo :: l, e, h, hr => by
    simp only [runOps] at hr
    split at hr
    · rename_i e2 h2 hlo
      exact Nat.le_trans (lo_len' hK hlo) (runOps_len hK l hr)
    · simp at hr
theorem exec_len (hK : KLen K) (k : Nat) : ∀ (c : LCode) {e : Env} {h : Heap} {x : Ex}, execN K k c e h = some (x, e', h') → h.length ≤ h'.length := by
  intro c
  induction c generalizing e' h' with
  | skip => intro e h x hr; simp only [execN] at hr; injection hr with hr; injection hr with q1 q2; injection q2 with q2 q3; subst q3; exact Nat.le_refl _
  | exit i => intro e h x hr; simp only [execN] at hr; injection hr with hr; injection hr with q1 q2; injection q2 with q2 q3; subst q3; exact Nat.le_refl _
  | ret => intro e h x hr; simp only [execN] at hr; injection hr with hr; injection hr with q1 q2; injection q2 with q2 q3; subst q3; exact Nat.le_refl _
  | region d nal ops ups keep =>
    intro e h x hr
    simp only [execN, runRegion] at hr
    split at hr
    · rename_i hops
      split at hr
      · injection hr with hr; injection hr with q1 q2; injection q2 with q2 q3; subst q3
        have := runOps_len hK _ hops
        simp at this; omega
      · simp at hr
    · simp at hr
  | seq a b iha ihb =>
    intro e h x hr
    simp only [execN] at hr
    split at hr
    · rename_i h1r
      exact Nat.le_trans (iha h1r) (ihb hr)
    · exact iha hr
  | cond c a b iha ihb =>
    intro e h x hr
    simp only [execN] at hr
    split at hr
    · exact iha hr
    · exact ihb hr
    · simp at hr
  | block i b ih =>
    intro e h x hr
    simp only [execN] at hr
    unfold inBlockA at hr
    split at hr
    · rename_i h1r
      split at hr <;> (injection hr with hr; injection hr with q1 q2; injection q2 with q2 q3; subst q3; exact ih h1r)
    · exact ih hr
  | only keep b ih =>
    intro e h x hr
    simp only [execN] at hr
    exact ih hr
  | gc b ih =>
    intro e h x hr
    simp only [execN] at hr
    unfold gcH at hr
    split at hr
    · rename_i h1r
      have := ih h1r
      split at hr
      · injection hr with hr; injection hr with q1 q2; injection q2 with q2 q3; subst q3; simp; omega
      · injection hr with hr; injection hr with q1 q2; injection q2 with q2 q3; subst q3; exact this
    · simp at hr
  | loop b ih =>
    intro e h x hr
    simp only [execN] at hr
    have key : ∀ (n : Nat) {e : Env} {h : Heap}, iter (execN K k b) n e h = some (x, e', h') → h.length ≤ h'.length := by
      intro n
      induction n with
      | zero => intro e h hr; simp [iter] at hr
      | succ n ihn =>
        intro e h hr
        simp only [iter] at hr
        split at hr
        · rename_i h1r
          exact Nat.le_trans (ih h1r) (ihn hr)
        · exact ih hr
    exact key k hr

theorem runN_len (T : Tab) : ∀ k, KLen (runN' T k)
  | 0 => fun f args h r h1 hr => by simp [runN'] at hr
  | k + 1 => fun f args h r h1 hr => by
    simp only [runN'] at hr
    split at hr
    · rename_i F hT
      unfold finish at hr
      split at hr
      · rename_i h1r
        have := exec_len (runN_len T k) k _ h1r
        split at hr
        · injection hr with hr
          split at hr <;> (injection hr with q1 q2; subst q2; simp <;> omega)
        · simp at hr
      · rename_i h1r
        have := exec_len (runN_len T k) k _ h1r
        split at hr
        · injection hr with hr
          split at hr <;> (injection hr with q1 q2; subst q2; simp <;> omega)
        · simp at hr
      · simp at hr
    · simp only [specA] at hr
      split at hr
      · split at hr
        · rename_i hle
          injection hr with hr; injection hr with q1 q2; subst q2; exact hle
        · simp at hr
      · simp at hr
    · simp at hr
end

def ckRes (P : Program) : List LRes → List ResultVar → Bool
  | [], [] => true
  | .tmp t :: l, .tmp u :: m => t == u && ckRes P l m
  | .cell t n :: l, .cell u ty :: m => t == u && shapeN P ty == some n && ckRes P l m
  | _, _ => false
def odsR (keep : Bool) (l : List LRes) : List Od := l.map fun | .tmp t => if keep then .mv t else .cp t | .cell _ _ => .c .any
def ckF (P : Program) (F : LF) (fn : Func) : Bool :=
  (match fn.body with | some c => ckCode P fn.ntmps F.body c | none => false) && fn.name != "runtime.NumGoroutine" && ckRes P F.res fn.results.toList && decide (mvs (odsR F.keepRes F.res)).Nodup

/-- A table stands for a program's functions. -/
structure TabOK (P : Program) (T : Tab) : Prop where
  mix : P.follows .mixedOrders = true
  code : ∀ (f : Nat) (F : LF), T.lookup f = some (.code F) → ∃ fn, P.funcs[f]? = some fn ∧ ckF P F fn = true
  spec : ∀ (f : Nat) (g : List AV → Heap → Option (AV × Heap)), T.lookup f = some (.spec g) → ∀ args h r h', g args h = some (r, h') → h.length ≤ h'.length → ∀ B0 X β Z w vals, RepL w β Z vals args → Inv B0 X β Z h w (muL args vals) →
    Gets P f vals w fun v w' => ∃ β' Z', Post B0 X β Z h w β' Z' h' w' r v ∧ Keep h h' β β'

section
variable {P : Program} {w w' : World} {β β' : Bt} {Z Z' : Ct} {h h' : Heap} {B0 : Nat} {X : Ct} {e e' ef : Env} {a : Act} {base nt : Nat}

/-- One result. -/
def resOne (ts : Array Value) : ResultVar → Sem Value
  | .tmp t => pure (ts.getD t Go.undef)
  | .cell c t => do loadVar t (← asAddr (ts.getD c Go.undef))

theorem valsOf_sound {N : Nat} (hrs : RS N B0 X β Z e h a w) (keep : Bool) : ∀ (l : List LRes) (m : List ResultVar) (vs : List AV), ckRes P l m = true → valsOf keep e h l = some vs →
    ∃ us : List Value, (m.mapM (resOne a.tmps)).run P w = .ok us w ∧ RepL w β Z us vs ∧ ∀ k o, muL vs us k o ≤ movedL (odsR keep l) e a.tmps k o
  | [], [], vs, _, hv => by
    simp only [valsOf] at hv
    injection hv with hv; subst hv
    exact ⟨[], by simp, RepL.nil, fun k o => by simp [muL]⟩
  | [], _ :: _, _, hck, _ => by simp [ckRes] at hck
  | .tmp _ :: _, [], _, hck, _ => by simp [ckRes] at hck
  | .cell _ _ :: _, [], _, hck, _ => by simp [ckRes] at hck
  | .tmp _ :: _, .cell _ _ :: _, _, hck, _ => by simp [ckRes] at hck
  | .cell _ _ :: _, .tmp _ :: _, _, hck, _ => by simp [ckRes] at hck
  | .tmp t :: l, .tmp u :: m, vs, hck, hv => by
    simp only [ckRes, Bool.and_eq_true, beq_iff_eq] at hck
    obtain ⟨rfl, hck⟩ := hck
    simp only [valsOf, LRes.val] at hv
    split at hv
    · rename_i x xs h1 h2
      injection hv with hv; subst hv
      injection h1 with h1
      obtain ⟨us, u1, u2, u3⟩ := valsOf_sound hrs keep l m xs hck h2
      refine ⟨a.tmps.getD t Go.undef :: us, by simp [resOne, u1], RepL.cons ?_ u2, fun k o => ?_⟩
      · subst h1
        split
        · exact hrs.env t
        · exact (hrs.env t).erase
      · simp only [odsR, List.map_cons, muL]
        rw [movedL_cons]
        have := u3 k o
        simp only [odsR] at this
        subst h1
        cases keep with
        | true => simp only [if_true, movedL] at this ⊢; omega
        | false => simp only [Bool.false_eq_true, if_false, movedL, mu_erase] at this ⊢; omega
    · simp at hv
  | .cell t n :: l, .cell u ty :: m, vs, hck, hv => by
    simp only [ckRes, Bool.and_eq_true, beq_iff_eq] at hck
    obtain ⟨⟨rfl, hty⟩, hck⟩ := hck
    simp only [valsOf, LRes.val] at hv
    split at hv
    · rename_i x xs h1 h2
      injection hv with hv; subst hv
      obtain ⟨x0, hx0, rfl⟩ := Option.map_eq_some_iff.1 h1
      obtain ⟨us, u1, u2, u3⟩ := valsOf_sound hrs keep l m xs hck h2
      obtain ⟨v, v1, v2, _⟩ := sound_load (P := P) hty hx0 (hrs.env t) hrs.inv.row (fun b cs hx => (hrs.inv.old b cs hx).2)
      have hld : (do loadVar ty (← asAddr (a.tmps.getD t Go.undef)) : Sem Value).run P w = .ok v w := by
        have h3 := hrs.env t
        unfold loadA at hx0
        split at hx0
        · rename_i b off hb
          rw [hb] at h3
          generalize hu : a.tmps.getD t Go.undef = u at h3 v1
          cases h3
          simpa [Instr.loadAt, Instr.sureAddr, asAddr] using v1
        · rename_i y off hb
          rw [hb] at h3
          generalize hu : a.tmps.getD t Go.undef = u at h3 v1
          cases h3
          simpa [Instr.loadAt, Instr.sureAddr, asAddr] using v1
        · simp at hx0
      refine ⟨v :: us, ?_, RepL.cons v2.erase u2, fun k o => ?_⟩
      · rw [List.mapM_cons]
        have hld' : (resOne a.tmps (.cell t ty)).run P w = .ok v w := hld
        simp only [Sem.run_bind, hld', Result.andThen_ok, u1, Sem.run_pure]
      · simp only [odsR, List.map_cons, muL]
        rw [movedL_cons]
        have := u3 k o
        simp only [odsR] at this
        simp only [movedL, mu_erase]
        omega
    · simp at hv

theorem results_run {fn : Func} {us : List Value} {vs : List AV} {ts : Array Value} (hm : (fn.results.toList.mapM (resOne ts)).run P w = .ok us w) (hr : RepL w β Z us vs) :
    ∃ v, (results fn ts).run P w = .ok v w ∧ Rep w β Z v (oneOf vs) ∧ ∀ k o, mu (oneOf vs) v k o = muL vs us k o := by
  have hrun : (results fn ts).run P w = .ok (if h : us.toArray.size = 1 then us.toArray[0] else .tuple us.toArray) w := by
    have hres : results fn ts = (do let vs ← fn.results.mapM (resOne ts); pure (if h : vs.size = 1 then vs[0] else .tuple vs)) := rfl
    rw [hres, Array.mapM_eq_mapM_toList]
    simp only [Sem.run_bind, Sem.run_map, hm, Result.andThen_ok, Sem.run_pure]
  refine ⟨_, hrun, ?_, fun k o => ?_⟩
  · cases vs with
    | nil =>
      have : us = [] := by have := hr.1; simpa using this
      subst this
      simp only [oneOf]
      exact hr.tup
    | cons x vs => cases vs with
      | nil =>
        obtain ⟨u, rfl⟩ : ∃ u, us = [u] := by
          have := hr.1
          match us, this with
          | [u], _ => exact ⟨u, rfl⟩
        simp only [oneOf]
        exact hr.head
      | cons y vs =>
        have hl := hr.1
        simp only [List.length_cons] at hl
        have hne : ¬ us.toArray.size = 1 := by simp; omega
        rw [dif_neg hne]
        simp only [oneOf]
        exact hr.tup
  · cases vs with
    | nil =>
      have : us = [] := by have := hr.1; simpa using this
      subst this
      simp [oneOf, mu]
    | cons x vs => cases vs with
      | nil =>
        obtain ⟨u, rfl⟩ : ∃ u, us = [u] := by
          have := hr.1
          match us, this with
          | [u], _ => exact ⟨u, rfl⟩
        simp [oneOf, muL]
      | cons y vs =>
        have hl := hr.1
        simp only [List.length_cons] at hl
        have hne : ¬ us.toArray.size = 1 := by simp; omega
        rw [dif_neg hne]
        simp [oneOf, mu]

theorem argEnv_get : ∀ (l : List AV) (i t : Nat), (argEnv i l).get t = if i ≤ t then l.getD (t - i) .any else .any
  | [], i, t => by simp [argEnv, Env.get]
  | x :: l, i, t => by
    simp only [argEnv, Env.get_cons, argEnv_get l (i + 1) t]
    by_cases h1 : i = t
    · subst h1; simp
    · rw [if_neg h1]
      by_cases h2 : i ≤ t
      · rw [if_pos (by omega), if_pos h2, show t - i = (t - (i + 1)) + 1 by omega, List.getD_cons_succ]
      · rw [if_neg (by omega), if_neg h2]

theorem sumN_shift (n : Nat) (f : Nat → Nat) : sumN (n + 1) f = f 0 + sumN n (fun i => f (i + 1)) := by
  induction n with
  | zero => simp [sumN]
  | succ n ih =>
    have : sumN (n + 1 + 1) f = sumN (n + 1) f + f (n + 1) := rfl
    rw [this, ih]
    simp only [sumN]
    omega
theorem sum_args (k o : Nat) : ∀ (args : List AV) (vals : List Value), vals.length = args.length → sumN args.length (fun i => mu (args.getD i .any) (vals.getD i Go.undef) k o) = muL args vals k o
  | [], [], _ => by simp [sumN, muL]
  | [], _ :: _, h => by simp at h
  | _ :: _, [], h => by simp at h
  | x :: args, v :: vals, h => by
    rw [List.length_cons, sumN_shift]
    have := sum_args k o args vals (by simpa using h)
    simp only [List.getD_cons_zero, List.getD_cons_succ, muL, this]

theorem RS.enter {vals : List Value} {args : List AV} (hr : RepL w β Z vals args) (hi : Inv B0 X β Z h w (muL args vals)) (nt : Nat) :
    RS nt B0 X β Z (argEnv 0 args) h { tmps := vals.toArray ++ Array.replicate (nt - vals.toArray.size) Go.undef, defers := [] } w := by
  have hget : ∀ t, (vals.toArray ++ Array.replicate (nt - vals.toArray.size) Go.undef).getD t Go.undef = vals.getD t Go.undef := by
    intro t
    simp only [Array.getD_eq_getD_getElem?, List.getD_eq_getElem?_getD, Array.getElem?_append, List.size_toArray, List.getElem?_toArray]
    by_cases ht : t < vals.length
    · simp [ht]
    · rw [if_neg ht, List.getElem?_eq_none (by omega), Array.getElem?_replicate]
      split <;> rfl
  have hl := hr.1
  refine ⟨by simp; omega, fun t => ?_, hi.weaken fun k o => ?_, rfl⟩
  · show Rep w β Z ((vals.toArray ++ Array.replicate (nt - vals.toArray.size) Go.undef).getD t Go.undef) _
    rw [hget, argEnv_get, if_pos (Nat.zero_le _), Nat.sub_zero]
    by_cases ht : t < args.length
    · have := hr.2 t (by omega) ht
      simpa [List.getD, ht, (by omega : t < vals.length)] using this
    · have : args.getD t .any = .any := by simp [List.getD, List.getElem?_eq_none (Nat.le_of_not_lt ht)]
      rw [this]
      exact .any _
  · rw [← sum_args k o args vals hl]
    unfold muE
    rw [sumN_ext (n := args.length) (by simp; omega) (fun i h1 h2 => by
      rw [argEnv_get, if_pos (Nat.zero_le _), Nat.sub_zero]
      have : args.getD i .any = .any := by simp [List.getD, List.getElem?_eq_none h1]
      rw [this, mu_any])]
    exact Nat.le_of_eq (sumN_congr fun i hi => by rw [argEnv_get, if_pos (Nat.zero_le _), Nat.sub_zero, hget])

theorem Gets.code {f : FuncId} {fn : Func} {c : Code} {vals : List Value} {R : Value → World → Prop} (hf : P.funcs[f]? = some fn) (hb : fn.body = some c) (hname : fn.name ≠ "runtime.NumGoroutine") (h : Calls P f vals.toArray w fun e w' => match e with | .returned v => R v w' | _ => False) : Gets P f vals w R := by
  refine .inl ⟨?_, h⟩
  unfold callFunc
  have hn : (fn.name == "runtime.NumGoroutine") = false := by simpa using hname
  simp [hf, hb, hname]

theorem runN_ok {T : Tab} (hT : TabOK P T) : ∀ k, CallOK P (runN' T k)
  | 0 => fun f args h r h' hr => by simp [runN'] at hr
  | k + 1 => by
    intro f args h r h' hr B0 X β Z w vals hrep hi
    simp only [runN'] at hr
    split at hr
    · rename_i F hF
      obtain ⟨fn, hfn, hck⟩ := hT.code f F hF
      unfold ckF at hck
      simp only [Bool.and_eq_true, bne_iff_ne, ne_eq, decide_eq_true_eq] at hck
      obtain ⟨⟨⟨c1, c2⟩, c3⟩, c4⟩ := hck
      split at c1
      · rename_i c hbody
        refine Gets.code hfn hbody c2 (calls_of_wp hfn hbody ?_)
        have hent := RS.enter hrep hi fn.ntmps
        -- the ends of the body
        have fin : ∀ (x : Ex) (e1 : Env) (h1 : Heap) (vs : List AV), valsOf F.keepRes e1 h1 F.res = some vs → ((if (oneOf (vs.map (freeze h1 h.length))).bnd ≤ h.length then (oneOf (vs.map (freeze h1 h.length)), h1.take h.length) else (oneOf vs, h1)) = (r, h')) →
            ∀ β' Z' a' w', AfterR fn.ntmps B0 X h.length β Z h w β' Z' e1 h1 a' w' → ∃ v, (results fn a'.tmps).run P w' = .ok v w' ∧ ∃ β' Z', Post B0 X β Z h w β' Z' h' w' r v ∧ Keep h h' β β' := by
          rintro x e1 h1 vs hvs hrr β' Z' a' w' ⟨p1, p2, p3, p4⟩
          obtain ⟨us, u1, u2, u3⟩ := valsOf_sound (P := P) p1 F.keepRes F.res fn.results.toList vs c3 hvs
          by_cases hb : (oneOf (vs.map (freeze h1 h.length))).bnd ≤ h.length
          · rw [if_pos hb] at hrr
            injection hrr with q1 q2; subst q1; subst q2
            have hi1 := p1.inv.freeze h.length
            obtain ⟨f1, f2⟩ := freeze_repL p1.inv h.length u2
            obtain ⟨v, v1, v2, v3⟩ := results_run (P := P) u1 f1
            have hmu : ∀ k o, mu (oneOf (vs.map (freeze h1 h.length))) v k o ≤ muE e1 a'.tmps k o := by
              intro k o
              have h1 := muE_usedAll (odsR F.keepRes F.res) c4 e1 a'.tmps k o
              have h2 := u3 k o
              have h3 := v3 k o
              have h4 := f2 k o
              omega
            refine ⟨v, v1, ?_⟩
            have hinv := hi1.weaken hmu
            -- by way of a frame that holds the result alone
            have p2' : RS 1 B0 X β' _ [(0, oneOf (vs.map (freeze h1 h.length)))] (hidFrom h1 h.length) { tmps := #[v], defers := [] } w' := ⟨by simp, fun t => by
                simp only [Env.get_cons]
                by_cases ht : 0 = t
                · subst ht; simpa using v2
                · rw [if_neg ht]; exact .any _, hinv.weaken fun k o => by
                simp [muE, sumN, Env.get_cons], rfl⟩
            have p3' := p2'.gc (n := h.length) (by simpa [bndE, AV.bndL] using hb)
            have hz : ∀ k o, Z' k o = 1 → Z' k o + fz β' h1 w' h.length k o = 1 := by
              intro k o h0
              have := p1.inv.sep k o
              have := hid_le (β := β') (h := h1) (w := w') h.length k o
              unfold fz
              omega
            have htk : (hidFrom h1 h.length).take h.length = h1.take h.length := by
              unfold hidFrom
              rw [List.take_append_of_le_length (by simp; omega), List.take_take, Nat.min_self]
            rw [htk] at p3'
            refine ⟨_, _, ⟨by simpa [Env.get_cons] using p3'.env 0, p3'.inv.weaken fun k o => by simp [muE, sumN, Env.get_cons], ⟨p2.size, p2.keepZ, p2.keepX, fun k o h0 => hz k o (p2.zmono k o h0), fun b hlt blk he => by simp only [hlt, if_true]; exact p2.bmono b hlt blk he, p2.low, p2.os, p2.tape, p2.output⟩, by simp; omega⟩, fun b hlt => ⟨by simp only [hlt, if_true]; exact (p3 b hlt).1, fun hh => by rw [List.getElem?_take_of_lt hlt]; exact (p3 b hlt).2 hh⟩⟩
          · rw [if_neg hb] at hrr
            injection hrr with q1 q2; subst q1; subst q2
            obtain ⟨v, v1, v2, v3⟩ := results_run (P := P) u1 u2
            have hmu : ∀ k o, mu (oneOf vs) v k o ≤ muE e1 a'.tmps k o := by
              intro k o
              have h1 := muE_usedAll (odsR F.keepRes F.res) c4 e1 a'.tmps k o
              have h2 := u3 k o
              have h3 := v3 k o
              omega
            exact ⟨v, v1, β', Z', ⟨v2, p1.inv.weaken hmu, p2, p4⟩, p3⟩
        unfold finish at hr
        split at hr
        · rename_i e1 h1 hex
          split at hr
          · rename_i vs hvs
            injection hr with hr
            refine code_sound (runN_ok hT k) (runN_len T k) hT.mix k F.body c c1 hex hent fun β' Z' a' w' hA => ?_
            obtain ⟨v, v1, v2⟩ := fin .nxt e1 h1 vs hvs hr β' Z' a' w' hA
            exact ⟨hA.1.defs, v, v1, v2⟩
          · simp at hr
        · rename_i e1 h1 hex
          split at hr
          · rename_i vs hvs
            injection hr with hr
            refine code_sound (runN_ok hT k) (runN_len T k) hT.mix k F.body c c1 hex hent fun β' Z' a' w' hA => ?_
            obtain ⟨v, v1, v2⟩ := fin .nxt e1 h1 vs hvs hr β' Z' a' w' hA
            exact ⟨hA.1.defs, v, v1, v2⟩
          · simp at hr
        · simp at hr
      · simp at c1
    · rename_i g hg
      simp only [specA] at hr
      split at hr
      · rename_i hgr
        split at hr
        · rename_i hle
          injection hr with hr; injection hr with q1 q2; subst q1; subst q2
          exact hT.spec f g hg args h _ _ hgr hle B0 X β Z w vals hrep hi
        · simp at hr
      · simp at hr
    · simp at hr

/-- A law: what it reads is told; it answers; nothing that was there is turned. -/
theorem law_walk {T : Tab} (hT : TabOK P T) {k f : Nat} {args : List AV} {r : AV} {h' : Heap} (hr : runN' T k f args [] = some (r, h')) {fn : Func} (hf : P.funcs[f]? = some fn) (hbody : fn.body.isSome = true) (w : World) {vals : List Value} (hmu : ∀ k o, muL args vals k o = 0)
    (hrep : RepL w (fun _ => none) (fun k o => if (w.cell? ⟨k, o, none⟩).isSome then 1 else 0) vals args) {b : Bool} (hb : r = .bool b) :
    Calls P f vals.toArray w fun e w' => e = .returned (.bool b) ∧ Go.RowKit.Below w.heap.size w w' := by
  have hi : Inv w.heap.size (fun _ _ => 0) (fun _ => none) (fun k o => if (w.cell? ⟨k, o, none⟩).isSome then 1 else 0) [] w (muL args vals) := by
    refine ⟨fun k o => ?_, fun k o hp => ?_, fun k o hp => ?_, fun b blk hb => by simp at hb, fun b cs blk hx => by simp at hx, fun b cs hx => by simp at hx, Nat.le_refl _⟩
    · rw [hmu]
      simp only [muH, List.length_nil, sumN]
      split <;> omega
    · rw [hmu] at hp
      simp [muH, sumN] at hp
    · by_cases hc : (w.cell? ⟨k, o, none⟩).isSome = true
      · obtain ⟨v, hv⟩ := Option.isSome_iff_exists.1 hc
        exact World.block_lt_of_cell? w ⟨k, o, none⟩ hv
      · simp [hc] at hp
  have hg := runN_ok hT k f args [] r h' hr w.heap.size _ _ _ w vals hrep hi
  rcases hg with ⟨_, hc⟩ | ⟨v, w', hc, _⟩
  · refine hc.mono fun e w' he => ?_
    cases e with
    | returned v =>
      obtain ⟨β', Z', hp, _⟩ := he
      have hv := hp.rep
      subst hb
      have : v = .bool b := by cases hv; rfl
      subst this
      exact ⟨rfl, ⟨hp.ext.os, hp.ext.tape, hp.ext.output, hp.ext.size, hp.ext.low⟩⟩
    | panicked _ => exact he.elim
    | outgrown => exact he.elim
  · exfalso
    unfold callFunc at hc
    obtain ⟨c, hcb⟩ := Option.isSome_iff_exists.1 hbody
    simp [hf, hcb] at hc
    split at hc <;> simp at hc
end
end Go.Proofs.YtfihinodhhhllaaGreat
