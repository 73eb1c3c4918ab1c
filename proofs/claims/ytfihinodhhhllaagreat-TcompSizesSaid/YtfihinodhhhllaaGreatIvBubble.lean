/- An operation that waits for nothing may be taken first. -/
import Derived.Test.YtfihinodhhhllaaGreatIvSwap
set_option linter.unusedVariables false
set_option linter.unusedSimpArgs false
namespace Go.Proofs.YtfihinodhhhllaaGreat
open Go
section
variable {K : Callee} {base : Nat} {e e' : Env} {h : Heap}

theorem used_get_if : ∀ (ods : List Od) (e : Env) (t : Nat), (usedAll ods e).get t = if t ∈ mvs ods then (e.get t).erase else e.get t
  | [], e, t => by simp [usedAll, mvs]
  | .c x :: l, e, t => by simp only [usedAll, Od.used, mvs]; exact used_get_if l e t
  | .cp x :: l, e, t => by simp only [usedAll, Od.used, mvs]; exact used_get_if l e t
  | .mv x :: l, e, t => by
    simp only [usedAll, Od.used, mvs, List.mem_cons]
    rw [used_get_if l]
    simp only [Env.get_cons]
    by_cases hx : x = t
    · subst hx
      simp [AV.erase_erase]
    · simp [hx, Ne.symm hx, eq_comm]
theorem putD_get (d : Option Nat) (v : AV) (e : Env) (t : Nat) : (putD d v e).get t = if d = some t then v else e.get t := by
  cases d with
  | none => simp [putD]
  | some d => simp [putD, Env.get_cons]

/-- All that is to be known of an operation that has run. -/
theorem lo_eff (hK : KLen K) {lo : LO} {e1 : Env} {h1 : Heap} (hr : lo.run K base e h = some (e1, h1)) (hbase : ∀ k zs, lo.op = .alloc k zs → base + k < h.length) :
    ∃ (f : Eff) (v : AV) (ods : List Od), (∀ m, f.touch m = lo.touch base m e) ∧ h1 = f.act h ∧ f.like h h ∧ (∀ t ∈ mvs ods, t ∈ mvs lo.op.ods) ∧ e1 = putD lo.dst v (usedAll ods e) ∧
      ∀ e'' g, (∀ t ∈ rds lo, e''.get t = e.get t) → f.like g h → lo.run K base e'' g = some (putD lo.dst v (usedAll ods e''), f.act g) ∧ ∀ m, lo.touch base m e'' = lo.touch base m e := by
  unfold LO.run at hr
  split at hr
  · rename_i hw
    split at hr
    · rename_i v h2 hop
      injection hr with hr; injection hr with q1 q2
      subst q1; subst q2
      obtain ⟨f, f1, f2, f3, f4⟩ := op_eff hK hop hbase
      refine ⟨f, v, lo.op.ods, fun m => by simp only [LO.touch, hw, f1], f2, f3, fun t ht => ht, rfl, fun e'' g he hg => ?_⟩
      obtain ⟨c1, c2, _⟩ := lo_congr (K := K) (base := base) (h := g) (lo := lo) (e := e'') (e' := e) he 0
      have c3 := fun m => (lo_congr (K := K) (base := base) (h := g) (lo := lo) (e := e'') (e' := e) he m).2.2
      refine ⟨?_, c3⟩
      unfold LO.run
      rw [c1, hw]
      simp only []
      rw [c2, f4 g hg]
    · simp at hr
  · rename_i hw
    injection hr with hr; injection hr with q1 q2
    subst q1; subst q2
    refine ⟨.none, .undef, [], fun m => by simp only [LO.touch, hw]; rfl, rfl, trivial, by simp [mvs], rfl, fun e'' g he hg => ?_⟩
    obtain ⟨c1, c2, _⟩ := lo_congr (K := K) (base := base) (h := g) (lo := lo) (e := e'') (e' := e) he 0
    have c3 := fun m => (lo_congr (K := K) (base := base) (h := g) (lo := lo) (e := e'') (e' := e) he m).2.2
    refine ⟨?_, c3⟩
    unfold LO.run
    rw [c1, hw]
    rfl
  · simp at hr

theorem lo_len (hK : KLen K) {lo : LO} {e1 : Env} {h1 : Heap} (hr : lo.run K base e h = some (e1, h1)) (hbase : ∀ k zs, lo.op = .alloc k zs → base + k < h.length) : h.length ≤ h1.length := by
  obtain ⟨f, v, ods, f1, f2, f3, _⟩ := lo_eff hK hr hbase
  rw [f2]
  exact (act_length f3).1

theorem slotsApart_spec {j i : LO} (h : slotsApart j i = true) : (∀ t ∈ wrs j, t ∉ rds i ∧ t ∉ wrs i) ∧ ∀ t ∈ wrs i, t ∉ rds j := by
  simp only [slotsApart, Bool.and_eq_true, List.all_eq_true, Bool.not_eq_true', List.contains_eq_mem, decide_eq_false_iff_not] at h
  exact ⟨fun t ht => h.1 t ht, fun t ht => h.2 t ht⟩

theorem lo_swap (hK : KLen K) {j i : LO} (hs : slotsApart j i = true) {e2 e3 : Env} {h2 h3 : Heap} (hj : j.run K base e h = some (e2, h2)) (hi : i.run K base e2 h2 = some (e3, h3)) (hc : (j.touch base h.length e).clash (i.touch base h2.length e2) = false)
    (hbj : ∀ k zs, j.op = .alloc k zs → base + k < h.length) (hbi : ∀ k zs, i.op = .alloc k zs → base + k < h.length) :
    ∃ e1 h1 e3', i.run K base e h = some (e1, h1) ∧ j.run K base e1 h1 = some (e3', h3) ∧ EqE e3 e3' ∧ i.touch base h.length e = i.touch base h2.length e2 ∧ j.touch base h1.length e1 = j.touch base h.length e := by
  have hlen := lo_len hK hj hbj
  obtain ⟨f, vj, oj, f1, f2, f3, f4, f5, f6⟩ := lo_eff hK hj hbj
  obtain ⟨g, vi, oi, g1, g2, g3, g4, g5, g6⟩ := lo_eff hK hi (fun k zs hk => Nat.lt_of_lt_of_le (hbi k zs hk) hlen)
  obtain ⟨s1, s2⟩ := slotsApart_spec hs
  rw [← f1, ← g1, f2] at hc
  rw [f2] at g3
  obtain ⟨w1, w2, w3, w4⟩ := eff_swap hc f3 g3
  have a1 : ∀ t ∈ rds i, e.get t = e2.get t := by
    intro t ht
    rw [f5, putD_get, used_get_if]
    rw [if_neg (fun hd => (s1 t (by simp [wrs, hd])).1 ht), if_neg (fun hm => (s1 t (by simp only [wrs, List.mem_append]; exact .inr (f4 t hm))).1 ht)]
  rw [f2] at g6
  obtain ⟨r1, r2⟩ := g6 e h a1 w1
  have a2 : ∀ t ∈ rds j, (putD i.dst vi (usedAll oi e)).get t = e.get t := by
    intro t ht
    rw [putD_get, used_get_if]
    rw [if_neg (fun hd => s2 t (by simp [wrs, hd]) ht), if_neg (fun hm => s2 t (by simp only [wrs, List.mem_append]; exact .inr (g4 t hm)) ht)]
  obtain ⟨q1, q2⟩ := f6 (putD i.dst vi (usedAll oi e)) (g.act h) a2 w3
  refine ⟨_, _, putD j.dst vj (usedAll oj (putD i.dst vi (usedAll oi e))), r1, by rw [q1, w4, g2, f2], ?_, ?_, ?_⟩
  · intro t
    rw [g5, f5]
    simp only [putD_get, used_get_if]
    by_cases c1 : t ∈ wrs j
    · have c2 := (s1 t c1).2
      have d1 : ¬ i.dst = some t := fun hd => c2 (by simp [wrs, hd])
      have d2 : t ∉ mvs oi := fun hm => c2 (by simp only [wrs, List.mem_append]; exact .inr (g4 t hm))
      simp only [d1, d2, if_false]
    · have d1 : ¬ j.dst = some t := fun hd => c1 (by simp [wrs, hd])
      have d2 : t ∉ mvs oj := fun hm => c1 (by simp only [wrs, List.mem_append]; exact .inr (f4 t hm))
      simp only [d1, d2, if_false]
  · -- i touches the same
    rw [← g1, r2, ← g1]
    by_cases hcall : ∃ n h1, g = .call n h1
    · obtain ⟨n, h1, rfl⟩ := hcall
      have : h2.length = h.length := by
        rw [f2]
        refine (act_length f3).2 fun n' h1' he => ?_
        subst he
        simp [Eff.touch, Touch.clash] at hc
      rw [this]
    · cases g with
      | call n h1 => exact absurd ⟨n, h1, rfl⟩ hcall
      | _ => rfl
  · rw [q2, ← f1, ← f1]
    by_cases hcall : ∃ n h1, f = .call n h1
    · obtain ⟨n, h1, rfl⟩ := hcall
      have : (g.act h).length = h.length := by
        refine (act_length w2).2 fun n' h1' he => ?_
        subst he
        simp [Eff.touch, Touch.clash] at hc
      rw [this]
    · cases f with
      | call n h1 => exact absurd ⟨n, h1, rfl⟩ hcall
      | _ => rfl

/-- The touches of a run, beside its operations. -/
theorem touches_cons {lo : LO} {l : List LO} {e1 : Env} {h1 : Heap} (hr : lo.run K base e h = some (e1, h1)) : touches K base (lo :: l) e h = lo.touch base h.length e :: touches K base l e1 h1 := by
  simp only [touches, hr]

theorem touches_length : ∀ (l : List LO) {e : Env} {h : Heap} {e1 : Env} {h1 : Heap}, runOps K base l e h = some (e1, h1) → (touches K base l e h).length = l.length
  | [], _, _, _, _, _ => rfl
  | lo :: l, e, h, e1, h1, hr => by
    simp only [runOps] at hr
    split at hr
    · rename_i e2 h2 hlo
      rw [touches_cons hlo, List.length_cons, touches_length l hr, List.length_cons]
    · simp at hr

theorem bubble (hK : KLen K) : ∀ (pre : List LO) {i : LO} {post : List LO} {e : Env} {h : Heap} {ef : Env} {hf : Heap}, runOps K base (pre ++ i :: post) e h = some (ef, hf) → (∀ j ∈ pre, slotsApart j i = true) →
    (∀ k, k < pre.length → ((touches K base (pre ++ i :: post) e h).getD k .none).clash ((touches K base (pre ++ i :: post) e h).getD pre.length .none) = false) → (∀ lo ∈ pre ++ i :: post, ∀ k zs, lo.op = .alloc k zs → base + k < h.length) →
    ∃ e1 h1 ef', i.run K base e h = some (e1, h1) ∧ runOps K base (pre ++ post) e1 h1 = some (ef', hf) ∧ EqE ef ef' ∧
      (touches K base (pre ++ i :: post) e h).getD pre.length .none = i.touch base h.length e ∧
      ∀ k, (touches K base (pre ++ post) e1 h1).getD k .none = (touches K base (pre ++ i :: post) e h).getD (if k < pre.length then k else k + 1) .none
  | [], i, post, e, h, ef, hf, hr, _, _, _ => by
    simp only [List.nil_append] at hr ⊢
    simp only [runOps] at hr
    split at hr
    · rename_i e1 h1 hi
      refine ⟨e1, h1, ef, hi, hr, EqE.refl _, ?_, fun k => ?_⟩
      · rw [touches_cons hi]; rfl
      · rw [touches_cons hi]; simp
    · simp at hr
  | j :: pre, i, post, e, h, ef, hf, hr, hs, hc, hb => by
    simp only [List.cons_append] at hr hc hb ⊢
    simp only [runOps] at hr
    split at hr
    · rename_i e2 h2 hj
      rw [touches_cons hj] at hc ⊢
      have hlen := lo_len hK hj (hb j (by simp))
      have hb2 : ∀ lo ∈ pre ++ i :: post, ∀ k zs, lo.op = .alloc k zs → base + k < h2.length := fun lo hlo k zs hk => Nat.lt_of_lt_of_le (hb lo (by simp only [List.mem_cons]; exact .inr hlo) k zs hk) hlen
      obtain ⟨e3, h3, ef3, r1, r2, r3, r4, r5⟩ := bubble hK pre hr (fun j' hj' => hs j' (by simp [hj'])) (fun k hk => by
        have := hc (k + 1) (by simp; omega)
        simpa using this) hb2
      have hc0 := hc 0 (by simp)
      simp only [List.length_cons, List.getD_cons_zero, List.getD_cons_succ, r4] at hc0
      obtain ⟨e1, h1, e3', s1, s2, s3, s4, s5⟩ := lo_swap hK (hs j (by simp)) hj r1 hc0 (hb j (by simp)) (hb i (by simp))
      obtain ⟨ef4, t1, t2, t3⟩ := runOps_eqE (pre ++ post) s3 r2
      refine ⟨e1, h1, ef4, s1, ?_, r3.trans t2, ?_, fun k => ?_⟩
      · simp only [runOps, s2]; exact t1
      · simp only [List.length_cons, List.getD_cons_succ, r4, s4]
      · rw [touches_cons s2]
        cases k with
        | zero => simp [s5]
        | succ k =>
          simp only [List.getD_cons_succ, List.length_cons]
          rw [← t3, r5 k]
          by_cases hk : k < pre.length
          · simp [hk]
          · simp [hk]
    · simp at hr
end
end Go.Proofs.YtfihinodhhhllaaGreat
