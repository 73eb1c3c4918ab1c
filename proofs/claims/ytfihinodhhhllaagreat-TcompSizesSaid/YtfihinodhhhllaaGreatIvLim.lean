/- Runs without a bound on rounds: what a run with enough rounds gives. -/
import Derived.Test.YtfihinodhhhllaaGreatIvFun
set_option linter.unusedVariables false
set_option linter.unusedSimpArgs false
namespace Go.Proofs.YtfihinodhhhllaaGreat
open Go

section
variable {α : Type}
open Classical in
/-- What some stage gives, and then all later ones. -/
noncomputable def lim (g : Nat → Option α) : Option α := if h : ∃ k, ∃ r, g k = some r then some h.choose_spec.choose else none
def Mono (g : Nat → Option α) : Prop := ∀ k k' r, k ≤ k' → g k = some r → g k' = some r
theorem lim_some {g : Nat → Option α} {r : α} (h : lim g = some r) : ∃ k, g k = some r := by
  unfold lim at h
  split at h
  · rename_i hx
    injection h with h
    exact ⟨hx.choose, by rw [← h]; exact hx.choose_spec.choose_spec⟩
  · simp at h
theorem lim_of {g : Nat → Option α} (hm : Mono g) {k : Nat} {r : α} (h : g k = some r) : lim g = some r := by
  have hx : ∃ k, ∃ r, g k = some r := ⟨k, r, h⟩
  unfold lim
  rw [dif_pos hx]
  have h1 := hx.choose_spec.choose_spec
  have h2 := hm _ (max hx.choose k) _ (Nat.le_max_left _ _) h1
  have h3 := hm _ (max hx.choose k) _ (Nat.le_max_right _ _) h
  rw [h2] at h3
  exact h3
theorem opt_ext {x y : Option α} (h1 : ∀ r, x = some r → y = some r) (h2 : ∀ r, y = some r → x = some r) : x = y := by
  cases x with
  | none => cases y with
    | none => rfl
    | some r => exact h2 r rfl
  | some r => exact (h1 r rfl).symm
end

def CalleeLe (K K' : Callee) : Prop := ∀ f a h r, K f a h = some r → K' f a h = some r

section
variable {K K' : Callee} {base : Nat} {e e' : Env} {h h' : Heap}
theorem callA_le (hle : CalleeLe K K') {f : Nat} {args : List AV} {r : AV × Heap} (hr : callA (K f) args h = some r) : callA (K' f) args h = some r := by
  unfold callA at hr ⊢
  simp only at hr ⊢
  split at hr
  · rename_i r' h1 hk
    rw [hle _ _ _ _ hk]
    exact hr
  · simp at hr
theorem op_le (hle : CalleeLe K K') {op : LOp} {r : AV × Heap} (hr : op.run K base e h = some r) : op.run K' base e h = some r := by
  cases op
  case call f xs => simp only [LOp.run] at hr ⊢; exact callA_le hle hr
  case callv f xs =>
    simp only [LOp.run] at hr ⊢
    split at hr
    · exact callA_le hle hr
    · simp at hr
  all_goals exact hr
theorem lo_le (hle : CalleeLe K K') {lo : LO} {r : Env × Heap} (hr : lo.run K base e h = some r) : lo.run K' base e h = some r := by
  unfold LO.run at hr ⊢
  split at hr
  · split at hr
    · rename_i hop
      rw [op_le hle hop]
      exact hr
    · simp at hr
  · exact hr
  · simp at hr
theorem runOps_le (hle : CalleeLe K K') : ∀ (l : List LO) {e : Env} {h : Heap} {r : Env × Heap}, runOps K base l e h = some r → runOps K' base l e h = some r ∧ touches K base l e h = touches K' base l e h
  | [], e, h, r, hr => ⟨hr, rfl⟩
  | lo :: l, e, h, r, hr => by
    simp only [runOps] at hr ⊢
    split at hr
    · rename_i e2 h2 hlo
      obtain ⟨q1, q2⟩ := runOps_le hle l hr
      rw [lo_le hle hlo]
      exact ⟨q1, by simp only [touches, hlo, lo_le hle hlo, q2]⟩
    · simp at hr
theorem region_le (hle : CalleeLe K K') {d : Bool} {nal : Nat} {ops : List LO} {ups : List (Nat × Nat)} {keep : List Nat} {r : Ex × Env × Heap} (hr : runRegion K d nal ops ups keep e h = some r) : runRegion K' d nal ops ups keep e h = some r := by
  unfold runRegion at hr ⊢
  split at hr
  · rename_i e1 h1 hops
    obtain ⟨q1, q2⟩ := runOps_le hle ops hops
    rw [q1, ← q2]
    exact hr
  · simp at hr
theorem iter_le {f g : Env → Heap → Out} (hfg : ∀ e h r, f e h = some r → g e h = some r) : ∀ (k k' : Nat), k ≤ k' → ∀ {e : Env} {h : Heap} {r : Ex × Env × Heap}, iter f k e h = some r → iter g k' e h = some r
  | 0, k', _, e, h, r, hr => by simp [iter] at hr
  | k + 1, 0, hk, _, _, _, _ => by omega
  | k + 1, k' + 1, hk, e, h, r, hr => by
    simp only [iter] at hr ⊢
    split at hr
    · rename_i e1 h1 hf
      rw [hfg _ _ _ hf]
      exact iter_le hfg k k' (by omega) hr
    · rename_i hne
      rw [hfg _ _ _ hr]
      split
      · rename_i e1 h1 heq
        injection heq with heq
        rw [heq] at hr
        exact absurd hr (hne e1 h1)
      · rfl
theorem exec_le (hle : CalleeLe K K') {k k' : Nat} (hk : k ≤ k') : ∀ (c : LCode) {e : Env} {h : Heap} {r : Ex × Env × Heap}, execN K k c e h = some r → execN K' k' c e h = some r := by
  intro c
  induction c with
  | skip => intro e h r hr; exact hr
  | exit i => intro e h r hr; exact hr
  | ret => intro e h r hr; exact hr
  | region d nal ops ups keep => intro e h r hr; simp only [execN] at hr ⊢; exact region_le hle hr
  | seq a b iha ihb =>
    intro e h r hr
    simp only [execN] at hr ⊢
    split at hr
    · rename_i h1
      rw [iha h1]; exact ihb hr
    · rename_i hne
      rw [iha hr]
      split
      · rename_i e1 h1 heq
        injection heq with heq
        rw [heq] at hr
        exact absurd hr (hne e1 h1)
      · rfl
  | cond c a b iha ihb =>
    intro e h r hr
    simp only [execN] at hr ⊢
    split at hr
    · exact iha hr
    · exact ihb hr
    · simp at hr
  | block i b ih =>
    intro e h r hr
    simp only [execN] at hr ⊢
    cases hb : execN K k b e h with
    | none => rw [hb] at hr; simp [inBlockA] at hr
    | some x => rw [hb] at hr; rw [ih hb]; exact hr
  | only keep b ih =>
    intro e h r hr
    simp only [execN] at hr ⊢
    exact ih hr
  | gc b ih =>
    intro e h r hr
    simp only [execN] at hr ⊢
    cases hb : execN K k b e h with
    | none => rw [hb] at hr; simp [gcH] at hr
    | some x => rw [hb] at hr; rw [ih hb]; exact hr
  | loop b ih => intro e h r hr; simp only [execN] at hr ⊢; exact iter_le (fun e h r hr => ih hr) k k' hk hr
end

theorem runN_le (T : Tab) : ∀ (k k' : Nat), k ≤ k' → CalleeLe (runN' T k) (runN' T k')
  | 0, k', _ => fun f a h r hr => by simp [runN'] at hr
  | k + 1, 0, hk => by omega
  | k + 1, k' + 1, hk => fun f a h r hr => by
    simp only [runN'] at hr ⊢
    split at hr
    · rename_i F hF
      cases hb : execN (runN' T k) k F.body (argEnv 0 a) h with
      | none => rw [hb] at hr; simp [finish] at hr
      | some x => rw [hb] at hr; rw [exec_le (runN_le T k k' (by omega)) (by omega) _ hb]; exact hr
    · exact hr
    · simp at hr

/-- A function's run. -/
noncomputable def Run (T : Tab) : Callee := fun f args h => lim fun k => runN' T k f args h
theorem run_mono (T : Tab) (f : Nat) (args : List AV) (h : Heap) : Mono fun k => runN' T k f args h := fun k k' r hk hr => runN_le T k k' hk f args h r hr
theorem run_le (T : Tab) (k : Nat) : CalleeLe (runN' T k) (Run T) := fun f a h r hr => lim_of (run_mono T f a h) hr
theorem Run_of {T : Tab} {k f : Nat} {args : List AV} {h : Heap} {r : AV × Heap} (hr : runN' T k f args h = some r) : Run T f args h = some r := run_le T k f args h r hr
theorem Run_some {T : Tab} {f : Nat} {args : List AV} {h : Heap} {r : AV × Heap} (hr : Run T f args h = some r) : ∃ k, runN' T k f args h = some r := lim_some hr

/-- A statement's run. -/
noncomputable def Exec (T : Tab) (c : LCode) (e : Env) (h : Heap) : Out := lim fun k => execN (Run T) k c e h
section
variable {T : Tab} {e e' : Env} {h h' : Heap}
theorem exec_mono (T : Tab) (c : LCode) (e : Env) (h : Heap) : Mono fun k => execN (Run T) k c e h := fun k k' r hk hr => exec_le (fun _ _ _ _ h => h) hk c hr
theorem Exec_of {k : Nat} {c : LCode} {r : Ex × Env × Heap} (hr : execN (Run T) k c e h = some r) : Exec T c e h = some r := lim_of (exec_mono T c e h) hr
theorem Exec_some {c : LCode} {r : Ex × Env × Heap} (hr : Exec T c e h = some r) : ∃ k, execN (Run T) k c e h = some r := lim_some hr

theorem Exec_skip : Exec T .skip e h = some (.nxt, e, h) := Exec_of (k := 0) rfl
theorem Exec_exit (i : Nat) : Exec T (.exit i) e h = some (.exit i, e, h) := Exec_of (k := 0) rfl
theorem Exec_ret : Exec T .ret e h = some (.ret, e, h) := Exec_of (k := 0) rfl
theorem Exec_region (d : Bool) (nal : Nat) (ops : List LO) (ups : List (Nat × Nat)) (keep : List Nat) : Exec T (.region d nal ops ups keep) e h = runRegion (Run T) d nal ops ups keep e h :=
  opt_ext (fun r hr => by obtain ⟨k, hk⟩ := Exec_some hr; exact hk) (fun r hr => Exec_of (k := 0) hr)
theorem Exec_seq (a b : LCode) : Exec T (.seq a b) e h = match Exec T a e h with
    | some (.nxt, e', h') => Exec T b e' h'
    | r => r := by
  refine opt_ext (fun r hr => ?_) (fun r hr => ?_)
  · obtain ⟨k, hk⟩ := Exec_some hr
    simp only [execN] at hk
    split at hk
    · rename_i e1 h1 h1r
      rw [Exec_of h1r]
      exact Exec_of hk
    · rename_i hne
      rw [Exec_of hk]
      split
      · rename_i e1 h1 heq
        injection heq with heq
        rw [heq] at hk
        exact absurd hk (hne e1 h1)
      · rfl
  · split at hr
    · rename_i e1 h1 h1r
      obtain ⟨k1, hk1⟩ := Exec_some h1r
      obtain ⟨k2, hk2⟩ := Exec_some hr
      refine Exec_of (k := max k1 k2) ?_
      simp only [execN]
      rw [exec_le (fun _ _ _ _ h => h) (Nat.le_max_left k1 k2) a hk1]
      exact exec_le (fun _ _ _ _ h => h) (Nat.le_max_right k1 k2) b hk2
    · rename_i hne
      obtain ⟨k1, hk1⟩ := Exec_some hr
      refine Exec_of (k := k1) ?_
      simp only [execN]
      rw [hk1]
      split
      · rename_i e1 h1 heq
        injection heq with heq
        rw [heq] at hr
        exact absurd hr (hne e1 h1)
      · rfl
theorem Exec_cond (c : Od) (a b : LCode) : Exec T (.cond c a b) e h = match c.ev e with
    | .bool true => Exec T a e h
    | .bool false => Exec T b e h
    | _ => none := by
  refine opt_ext (fun r hr => ?_) (fun r hr => ?_)
  · obtain ⟨k, hk⟩ := Exec_some hr
    simp only [execN] at hk
    split at hk
    · rename_i hc
      simp only [hc]
      exact Exec_of hk
    · rename_i hc
      simp only [hc]
      exact Exec_of hk
    · simp at hk
  · split at hr
    · rename_i hc
      obtain ⟨k, hk⟩ := Exec_some hr
      exact Exec_of (k := k) (by simp only [execN, hc]; exact hk)
    · rename_i hc
      obtain ⟨k, hk⟩ := Exec_some hr
      exact Exec_of (k := k) (by simp only [execN, hc]; exact hk)
    · simp at hr
theorem Exec_block (i : Nat) (b : LCode) : Exec T (.block i b) e h = inBlockA i (Exec T b e h) := by
  refine opt_ext (fun r hr => ?_) (fun r hr => ?_)
  · obtain ⟨k, hk⟩ := Exec_some hr
    simp only [execN] at hk
    cases hb : execN (Run T) k b e h with
    | none => rw [hb] at hk; simp [inBlockA] at hk
    | some x => rw [hb] at hk; rw [Exec_of hb]; exact hk
  · cases hb : Exec T b e h with
    | none => rw [hb] at hr; simp [inBlockA] at hr
    | some x =>
      obtain ⟨k, hk⟩ := Exec_some hb
      rw [hb] at hr
      exact Exec_of (k := k) (by simp only [execN, hk]; exact hr)
theorem Exec_gc (b : LCode) : Exec T (.gc b) e h = gcH h.length (Exec T b e h) := by
  refine opt_ext (fun r hr => ?_) (fun r hr => ?_)
  · obtain ⟨k, hk⟩ := Exec_some hr
    simp only [execN] at hk
    cases hb : execN (Run T) k b e h with
    | none => rw [hb] at hk; simp [gcH] at hk
    | some x => rw [hb] at hk; rw [Exec_of hb]; exact hk
  · cases hb : Exec T b e h with
    | none => rw [hb] at hr; simp [gcH] at hr
    | some x =>
      obtain ⟨k, hk⟩ := Exec_some hb
      rw [hb] at hr
      exact Exec_of (k := k) (by simp only [execN, hk]; exact hr)
theorem Exec_only (keep : List Nat) (b : LCode) : Exec T (.only keep b) e h = Exec T b (trim keep e) h := by
  refine opt_ext (fun r hr => ?_) (fun r hr => ?_)
  · obtain ⟨k, hk⟩ := Exec_some hr
    simp only [execN] at hk
    exact Exec_of hk
  · obtain ⟨k, hk⟩ := Exec_some hr
    exact Exec_of (k := k) (by simp only [execN]; exact hk)
theorem Exec_loop (b : LCode) : Exec T (.loop b) e h = match Exec T b e h with
    | some (.nxt, e', h') => Exec T (.loop b) e' h'
    | r => r := by
  refine opt_ext (fun r hr => ?_) (fun r hr => ?_)
  · obtain ⟨k, hk⟩ := Exec_some hr
    simp only [execN] at hk
    cases k with
    | zero => simp [iter] at hk
    | succ n =>
      simp only [iter] at hk
      split at hk
      · rename_i e1 h1 h1r
        rw [Exec_of h1r]
        refine Exec_of (k := n + 1) ?_
        simp only [execN]
        exact iter_le (fun _ _ _ h => h) n (n + 1) (by omega) hk
      · rename_i hne
        rw [Exec_of hk]
        split
        · rename_i e1 h1 heq
          injection heq with heq
          rw [heq] at hk
          exact absurd hk (hne e1 h1)
        · rfl
  · split at hr
    · rename_i e1 h1 h1r
      obtain ⟨k1, hk1⟩ := Exec_some h1r
      obtain ⟨k2, hk2⟩ := Exec_some hr
      refine Exec_of (k := max k1 k2 + 1) ?_
      simp only [execN, iter]
      rw [exec_le (fun _ _ _ _ h => h) (by omega : k1 ≤ max k1 k2 + 1) b hk1]
      simp only [execN] at hk2
      exact iter_le (fun e h r hr => exec_le (fun _ _ _ _ h => h) (by omega : k2 ≤ max k1 k2 + 1) b hr) k2 (max k1 k2) (by omega) hk2
    · rename_i hne
      obtain ⟨k1, hk1⟩ := Exec_some hr
      refine Exec_of (k := k1 + 1) ?_
      simp only [execN, iter]
      rw [exec_le (fun _ _ _ _ h => h) (by omega : k1 ≤ k1 + 1) b hk1]
      split
      · rename_i e1 h1 heq
        injection heq with heq
        rw [heq] at hr
        exact absurd hr (hne e1 h1)
      · rfl

/-! a run uses finitely many calls -/
theorem callA_fin {f : Nat} {args : List AV} {r : AV × Heap} (hr : callA (Run T f) args h = some r) : ∃ k, callA (runN' T k f) args h = some r := by
  unfold callA at hr
  simp only at hr
  split at hr
  · rename_i r' h1 hk
    obtain ⟨k, hk⟩ := Run_some hk
    exact ⟨k, by unfold callA; simp only [hk]; exact hr⟩
  · simp at hr
theorem op_fin {base : Nat} {op : LOp} {r : AV × Heap} (hr : op.run (Run T) base e h = some r) : ∃ k, op.run (runN' T k) base e h = some r := by
  cases op
  case call f xs => simp only [LOp.run] at hr ⊢; exact callA_fin hr
  case callv f xs =>
    simp only [LOp.run] at hr ⊢
    split at hr
    · exact callA_fin hr
    · simp at hr
  all_goals exact ⟨0, hr⟩
theorem lo_fin {base : Nat} {lo : LO} {r : Env × Heap} (hr : lo.run (Run T) base e h = some r) : ∃ k, lo.run (runN' T k) base e h = some r := by
  unfold LO.run at hr
  split at hr
  · rename_i hw
    split at hr
    · rename_i hop
      obtain ⟨k, hk⟩ := op_fin hop
      exact ⟨k, by unfold LO.run; simp only [hw, hk]; exact hr⟩
    · simp at hr
  · rename_i hw
    exact ⟨0, by unfold LO.run; simp only [hw]; exact hr⟩
  · simp at hr
theorem ops_fin {base : Nat} : ∀ (l : List LO) {e : Env} {h : Heap} {r : Env × Heap}, runOps (Run T) base l e h = some r → ∃ k, runOps (runN' T k) base l e h = some r
  | [], e, h, r, hr => ⟨0, hr⟩
  | lo :: l, e, h, r, hr => by
    simp only [runOps] at hr
    split at hr
    · rename_i e2 h2 hlo
      obtain ⟨k1, hk1⟩ := lo_fin hlo
      obtain ⟨k2, hk2⟩ := ops_fin l hr
      refine ⟨max k1 k2, ?_⟩
      simp only [runOps]
      rw [lo_le (runN_le T k1 (max k1 k2) (Nat.le_max_left _ _)) hk1]
      exact (runOps_le (runN_le T k2 (max k1 k2) (Nat.le_max_right _ _)) l hk2).1
    · simp at hr
theorem exec_fin {n : Nat} : ∀ (c : LCode) {e : Env} {h : Heap} {r : Ex × Env × Heap}, execN (Run T) n c e h = some r → ∃ k, n ≤ k ∧ execN (runN' T k) k c e h = some r := by
  intro c
  induction c with
  | skip => intro e h r hr; exact ⟨n, Nat.le_refl _, hr⟩
  | exit i => intro e h r hr; exact ⟨n, Nat.le_refl _, hr⟩
  | ret => intro e h r hr; exact ⟨n, Nat.le_refl _, hr⟩
  | region d nal ops ups keep =>
    intro e h r hr
    simp only [execN] at hr
    have hr0 := hr
    unfold runRegion at hr
    split at hr
    · rename_i e1 h1 hops
      obtain ⟨k, hk⟩ := ops_fin ops hops
      refine ⟨max n k, Nat.le_max_left _ _, ?_⟩
      simp only [execN]
      have h2 := (runOps_le (runN_le T k (max n k) (Nat.le_max_right _ _)) ops hk).1
      have h3 := (runOps_le (run_le T (max n k)) ops h2).2
      unfold runRegion
      rw [h2, h3]
      exact hr
    · simp at hr
  | seq a b iha ihb =>
    intro e h r hr
    simp only [execN] at hr
    split at hr
    · rename_i e1 h1 h1r
      obtain ⟨k1, n1, hk1⟩ := iha h1r
      obtain ⟨k2, n2, hk2⟩ := ihb hr
      refine ⟨max k1 k2, by omega, ?_⟩
      simp only [execN]
      rw [exec_le (runN_le T k1 (max k1 k2) (Nat.le_max_left _ _)) (Nat.le_max_left _ _) a hk1]
      exact exec_le (runN_le T k2 (max k1 k2) (Nat.le_max_right _ _)) (Nat.le_max_right _ _) b hk2
    · rename_i hne
      obtain ⟨k1, n1, hk1⟩ := iha hr
      refine ⟨k1, n1, ?_⟩
      simp only [execN]
      rw [hk1]
      split
      · rename_i e1 h1 heq
        injection heq with heq
        rw [heq] at hr
        exact absurd hr (hne e1 h1)
      · rfl
  | cond c a b iha ihb =>
    intro e h r hr
    simp only [execN] at hr
    split at hr
    · rename_i hc
      obtain ⟨k, n1, hk⟩ := iha hr
      exact ⟨k, n1, by simp only [execN, hc]; exact hk⟩
    · rename_i hc
      obtain ⟨k, n1, hk⟩ := ihb hr
      exact ⟨k, n1, by simp only [execN, hc]; exact hk⟩
    · simp at hr
  | block i b ih =>
    intro e h r hr
    simp only [execN] at hr
    cases hb : execN (Run T) n b e h with
    | none => rw [hb] at hr; simp [inBlockA] at hr
    | some x =>
      rw [hb] at hr
      obtain ⟨k, n1, hk⟩ := ih hb
      exact ⟨k, n1, by simp only [execN, hk]; exact hr⟩
  | only keep b ih =>
    intro e h r hr
    simp only [execN] at hr
    obtain ⟨k, n1, hk⟩ := ih hr
    exact ⟨k, n1, by simp only [execN]; exact hk⟩
  | gc b ih =>
    intro e h r hr
    simp only [execN] at hr
    cases hb : execN (Run T) n b e h with
    | none => rw [hb] at hr; simp [gcH] at hr
    | some x =>
      rw [hb] at hr
      obtain ⟨k, n1, hk⟩ := ih hb
      exact ⟨k, n1, by simp only [execN, hk]; exact hr⟩
  | loop b ih =>
    intro e h r hr
    simp only [execN] at hr
    have key : ∀ (m : Nat) {e : Env} {h : Heap} {r : Ex × Env × Heap}, iter (execN (Run T) n b) m e h = some r → ∃ k, n ≤ k ∧ iter (execN (runN' T k) k b) m e h = some r := by
      intro m
      induction m with
      | zero => intro e h r hr; simp [iter] at hr
      | succ m ihm =>
        intro e h r hr
        simp only [iter] at hr
        split at hr
        · rename_i e1 h1 h1r
          obtain ⟨k1, n1, hk1⟩ := ih h1r
          obtain ⟨k2, n2, hk2⟩ := ihm hr
          refine ⟨max k1 k2, by omega, ?_⟩
          simp only [iter]
          rw [exec_le (runN_le T k1 (max k1 k2) (Nat.le_max_left _ _)) (Nat.le_max_left _ _) b hk1]
          exact iter_le (fun e h r hr => exec_le (runN_le T k2 (max k1 k2) (Nat.le_max_right _ _)) (Nat.le_max_right _ _) b hr) m m (Nat.le_refl _) hk2
        · rename_i hne
          obtain ⟨k1, n1, hk1⟩ := ih hr
          refine ⟨k1, n1, ?_⟩
          simp only [iter]
          rw [hk1]
          split
          · rename_i e1 h1 heq
            injection heq with heq
            rw [heq] at hr
            exact absurd hr (hne e1 h1)
          · rfl
    obtain ⟨k, n1, hk⟩ := key n hr
    refine ⟨k, n1, ?_⟩
    simp only [execN]
    exact iter_le (fun _ _ _ h => h) n k n1 hk

theorem Run_code {f : Nat} {F : LF} (hF : T.lookup f = some (.code F)) (args : List AV) (h : Heap) : Run T f args h = finish F h.length (Exec T F.body (argEnv 0 args) h) := by
  refine opt_ext (fun r hr => ?_) (fun r hr => ?_)
  · obtain ⟨k, hk⟩ := Run_some hr
    cases k with
    | zero => simp [runN'] at hk
    | succ k =>
      simp only [runN', hF] at hk
      cases hb : execN (runN' T k) k F.body (argEnv 0 args) h with
      | none => rw [hb] at hk; simp [finish] at hk
      | some x =>
        rw [hb] at hk
        rw [Exec_of (exec_le (run_le T k) (Nat.le_refl k) _ hb)]
        exact hk
  · cases hb : Exec T F.body (argEnv 0 args) h with
    | none => rw [hb] at hr; simp [finish] at hr
    | some x =>
      obtain ⟨n, hn⟩ := Exec_some hb
      obtain ⟨k, _, hk⟩ := exec_fin F.body hn
      rw [hb] at hr
      exact Run_of (k := k + 1) (by simp only [runN', hF, hk]; exact hr)
theorem Run_spec {f : Nat} {g : List AV → Heap → Option (AV × Heap)} (hF : T.lookup f = some (.spec g)) (args : List AV) (h : Heap) : Run T f args h = specA g args h := by
  refine opt_ext (fun r hr => ?_) (fun r hr => ?_)
  · obtain ⟨k, hk⟩ := Run_some hr
    cases k with
    | zero => simp [runN'] at hk
    | succ k => simp only [runN', hF] at hk; exact hk
  · exact Run_of (k := 1) (by simp only [runN', hF]; exact hr)

end
end Go.Proofs.YtfihinodhhhllaaGreat
