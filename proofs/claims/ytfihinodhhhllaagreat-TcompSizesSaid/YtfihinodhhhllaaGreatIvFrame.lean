/- What becomes of a frame's slots when an operation has given its value. -/
import Derived.Test.YtfihinodhhhllaaGreatIvRep
set_option linter.unusedVariables false
set_option linter.unusedSimpArgs false
namespace Go.Proofs.YtfihinodhhhllaaGreat
open Go

theorem Env.get_cons (d : Nat) (v : AV) (e : Env) (t : Nat) : Env.get ((d, v) :: e) t = if d = t then v else e.get t := rfl

theorem mu_undef (a : AV) (k o : Nat) : mu a Go.undef k o = 0 := by
  show mu a (.tuple #[]) k o = 0
  cases a with
  | tup cs => cases cs <;> simp [mu, muL]
  | sl own sz els => cases own <;> cases els <;> simp [mu]
  | _ => simp [mu]

/-- What the operands that are used up may write. -/
def movedL : List Od → Env → Array Value → Ct
  | [], _, _, _, _ => 0
  | .mv t :: l, e, ts, k, o => mu (e.get t) (ts.getD t Go.undef) k o + movedL l e ts k o
  | _ :: l, e, ts, k, o => movedL l e ts k o

def mvs : List Od → List Nat
  | [] => []
  | .mv t :: l => t :: mvs l
  | _ :: l => mvs l

theorem movedL_cons_ne {l : List Od} {t : Nat} (ht : t ∉ mvs l) (v : AV) (e : Env) (ts : Array Value) (k o : Nat) : movedL l ((t, v) :: e) ts k o = movedL l e ts k o := by
  induction l with
  | nil => rfl
  | cons x l ih =>
    cases x with
    | mv u =>
      simp only [mvs, List.mem_cons, not_or] at ht
      simp only [movedL, Env.get_cons, if_neg ht.1, ih ht.2]
    | c y => simp only [mvs] at ht; simpa only [movedL] using ih ht
    | cp u => simp only [mvs] at ht; simpa only [movedL] using ih ht

theorem muE_used (e : Env) (ts : Array Value) (t k o : Nat) : muE ((t, (e.get t).erase) :: e) ts k o + mu (e.get t) (ts.getD t Go.undef) k o = muE e ts k o := by
  unfold muE
  by_cases ht : t < ts.size
  · have := sumN_at ht (f := fun i => mu (Env.get ((t, (e.get t).erase) :: e) i) (ts.getD i Go.undef) k o) (g := fun i => mu (e.get i) (ts.getD i Go.undef) k o) (fun i _ hne => by
      simp only [Env.get_cons]; rw [if_neg (fun h => hne h.symm)])
    simp only [Env.get_cons, if_true, mu_erase] at this
    simp only [Env.get_cons]
    omega
  · have h0 : ts.getD t Go.undef = Go.undef := by simp [Array.getD, ht]
    rw [h0, mu_undef]
    simp only [Nat.add_zero]
    refine sumN_congr fun i hi => ?_
    simp only [Env.get_cons]
    rw [if_neg (by omega)]

theorem muE_usedAll : ∀ (ods : List Od) (_ : (mvs ods).Nodup) (e : Env) (ts : Array Value) (k o : Nat), muE (usedAll ods e) ts k o + movedL ods e ts k o = muE e ts k o
  | [], _, e, ts, k, o => by simp [usedAll, movedL]
  | .c x :: l, h, e, ts, k, o => by simpa only [usedAll, movedL, Od.used] using muE_usedAll l h e ts k o
  | .cp t :: l, h, e, ts, k, o => by simpa only [usedAll, movedL, Od.used] using muE_usedAll l h e ts k o
  | .mv t :: l, h, e, ts, k, o => by
    simp only [mvs, List.nodup_cons] at h
    have h1 := muE_usedAll l h.2 ((t, (e.get t).erase) :: e) ts k o
    rw [movedL_cons_ne h.1] at h1
    have h2 := muE_used e ts t k o
    simp only [usedAll, Od.used, movedL]
    omega

theorem used_get (ods : List Od) : ∀ (e : Env) (t : Nat), (usedAll ods e).get t = e.get t ∨ (usedAll ods e).get t = (e.get t).erase := by
  induction ods with
  | nil => intro e t; exact .inl rfl
  | cons x l ih =>
    intro e t
    simp only [usedAll]
    cases x with
    | c y => exact ih e t
    | cp u => exact ih e t
    | mv u =>
      simp only [Od.used]
      have h := ih ((u, (e.get u).erase) :: e) t
      simp only [Env.get_cons] at h
      by_cases hu : u = t
      · subst hu
        simp only [if_true, AV.erase_erase] at h
        exact .inr (h.elim id id)
      · simpa only [if_neg hu] using h

/-- What an operation leaves: its value and the memory. -/
structure Post (B0 : Nat) (X : Ct) (β : Bt) (Z : Ct) (h : Heap) (w : World) (β' : Bt) (Z' : Ct) (h' : Heap) (w' : World) (x : AV) (v : Value) : Prop where
  rep : Rep w' β' Z' v x
  inv : Inv B0 X β' Z' h' w' (mu x v)
  ext : Ext B0 h.length X β Z w β' Z' w'
  len : h.length ≤ h'.length

theorem Inv.weaken {B0 : Nat} {X : Ct} {β : Bt} {Z : Ct} {h : Heap} {w : World} {own own' : Ct} (hi : Inv B0 X β Z h w own) (hle : ∀ k o, own' k o ≤ own k o) : Inv B0 X β Z h w own' :=
  ⟨fun k o => by have := hi.sep k o; have := hle k o; omega, fun k o hp => hi.live k o (by have := hle k o; omega), hi.dom, hi.box, hi.row, hi.old, hi.base⟩

theorem Inv.toX {B0 : Nat} {X : Ct} {β : Bt} {Z : Ct} {h : Heap} {w : World} {own rest moved : Ct} (hi : Inv B0 X β Z h w own) (he : ∀ k o, rest k o + moved k o = own k o) : Inv B0 (fun k o => X k o + rest k o) β Z h w moved := by
  refine ⟨fun k o => ?_, fun k o hp => hi.live k o ?_, fun k o hp => ?_, hi.box, hi.row, hi.old, hi.base⟩
  · have := hi.sep k o; have := he k o; omega
  · have := he k o; omega
  · by_cases hz : 0 < Z k o + X k o
    · exact hi.dom k o hz
    · have hr : 0 < own k o := by have := he k o; omega
      obtain ⟨_, ⟨v, hv⟩, _⟩ := hi.live k o (by omega)
      exact World.block_lt_of_cell? w ⟨k, o, none⟩ hv

theorem RS.use {N B0 : Nat} {X : Ct} {β : Bt} {Z : Ct} {e : Env} {h : Heap} {a : Act} {w : World} (hrs : RS N B0 X β Z e h a w) (ods : List Od) (hd : (mvs ods).Nodup) :
    Inv B0 (fun k o => X k o + muE (usedAll ods e) a.tmps k o) β Z h w (movedL ods e a.tmps) :=
  hrs.inv.toX fun k o => muE_usedAll ods hd e a.tmps k o

theorem put_get {a : Act} {d : Nat} (hd : d < a.tmps.size) (v : Value) (t : Nat) : (a.put (some d) v).tmps.getD t Go.undef = if d = t then v else a.tmps.getD t Go.undef := by
  simp only [Act.put, Array.getD_eq_getD_getElem?, Array.getElem?_setIfInBounds]
  by_cases h : d = t
  · subst h; simp [hd]
  · simp [h]
theorem put_size (a : Act) (d : Option Nat) (v : Value) : (a.put d v).tmps.size = a.tmps.size := by
  cases d <;> simp [Act.put]

theorem muE_put {e : Env} {a : Act} {d : Nat} (hd : d < a.tmps.size) (x : AV) (v : Value) (k o : Nat) : muE ((d, x) :: e) (a.put (some d) v).tmps k o ≤ muE e a.tmps k o + mu x v k o := by
  unfold muE
  rw [put_size]
  have := sumN_at hd (f := fun i => mu (Env.get ((d, x) :: e) i) ((a.put (some d) v).tmps.getD i Go.undef) k o) (g := fun i => mu (e.get i) (a.tmps.getD i Go.undef) k o) (fun i _ hne => by
    rw [put_get hd, Env.get_cons, if_neg (fun h => hne h.symm), if_neg (fun h => hne h.symm)])
  rw [put_get hd, Env.get_cons, if_pos rfl, if_pos rfl] at this
  omega

theorem RS.step {N B0 : Nat} {X : Ct} {β : Bt} {Z : Ct} {e : Env} {h : Heap} {a : Act} {w : World} (hrs : RS N B0 X β Z e h a w) (ods : List Od)
    {β' : Bt} {Z' : Ct} {h' : Heap} {w' : World} {x : AV} {v : Value} (hp : Post B0 (fun k o => X k o + muE (usedAll ods e) a.tmps k o) β Z h w β' Z' h' w' x v) (hm : (mvs ods).Nodup) {dst : Option Nat} (hd : ∀ d, dst = some d → d < N) :
    RS N B0 X β' Z' (putD dst x (usedAll ods e)) h' (a.put dst v) w' := by
  have hb : ∀ t, (e.get t).bnd ≤ h.length := fun t => (hrs.env t).bnd_le (fun b blk hb => (hrs.inv.box b blk hb).1)
  have henv : ∀ t, Rep w' β' Z' (a.tmps.getD t Go.undef) ((usedAll ods e).get t) := by
    intro t
    have h0 := (hrs.env t).ext hp.ext (hb t)
    rcases used_get ods e t with h1 | h1 <;> rw [h1]
    · exact h0
    · exact h0.erase
  have hrest : ∀ k o, 0 < muE (usedAll ods e) a.tmps k o → B0 ≤ k ∧ (∃ v, w'.cell? ⟨k, o, none⟩ = some v) ∧ w'.frozen? ⟨k, o, none⟩ = false := by
    intro k o hpos
    have hu := muE_usedAll ods hm e a.tmps k o
    obtain ⟨h1, ⟨v0, hv0⟩, h3⟩ := hrs.inv.live k o (by omega)
    obtain ⟨k1, k2⟩ := hp.ext.keepX k o (by show 0 < X k o + _; omega)
    exact ⟨h1, ⟨v0, k1.trans hv0⟩, k2.trans h3⟩
  have hinv : ∀ own' : Ct, (∀ k o, own' k o ≤ muE (usedAll ods e) a.tmps k o + mu x v k o) → Inv B0 X β' Z' h' w' own' := by
    intro own' hle
    refine ⟨fun k o => ?_, fun k o hpos => ?_, fun k o hpos => hp.inv.dom k o (by show 0 < Z' k o + (X k o + _); omega), hp.inv.box, hp.inv.row, hp.inv.old, hp.inv.base⟩
    · have h1 : Z' k o + (X k o + muE (usedAll ods e) a.tmps k o) + mu x v k o + muH β' h' w' k o ≤ 1 := hp.inv.sep k o
      have := hle k o
      omega
    · have := hle k o
      by_cases h1 : 0 < mu x v k o + muH β' h' w' k o
      · exact hp.inv.live k o h1
      · exact hrest k o (by omega)
  cases dst with
  | none => exact ⟨hrs.size, henv, hinv _ (fun k o => Nat.le_add_right _ _), hrs.defs⟩
  | some d =>
    have hds : d < a.tmps.size := Nat.lt_of_lt_of_le (hd d rfl) hrs.size
    refine ⟨by rw [put_size]; exact hrs.size, fun t => ?_, hinv _ (fun k o => muE_put hds x v k o), hrs.defs⟩
    rw [put_get hds]
    simp only [putD, Env.get_cons]
    split
    · exact hp.rep
    · exact henv t

/-- A value that nothing was done for. -/
theorem Post.val {B0 : Nat} {X : Ct} {β : Bt} {Z : Ct} {h : Heap} {w : World} {moved : Ct} (hi : Inv B0 X β Z h w moved) {x : AV} {v : Value} (hr : Rep w β Z v x) (hm : ∀ k o, mu x v k o ≤ moved k o) : Post B0 X β Z h w β Z h w x v :=
  ⟨hr, hi.weaken hm, Ext.refl .., Nat.le_refl _⟩

theorem Od.rep {w : World} {β : Bt} {Z : Ct} {e : Env} {ts : Array Value} (h : ∀ t, Rep w β Z (ts.getD t Go.undef) (e.get t)) (t : Nat) : Rep w β Z (ts.getD t Go.undef) ((Od.cp t).ev e) ∧ Rep w β Z (ts.getD t Go.undef) ((Od.mv t).ev e) :=
  ⟨(h t).erase, h t⟩

end Go.Proofs.YtfihinodhhhllaaGreat
