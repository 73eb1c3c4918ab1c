/- slices.Clone: what it answers, at any row. -/
import Derived.Test.YtfihinodhhhllaaGreatIvExt
import Derived.Test.YtfihinodhhhllaaGreatIvW
set_option linter.unusedVariables false
set_option linter.unusedSimpArgs false
namespace Go.Proofs.YtfihinodhhhllaaGreat
open Go
noncomputable abbrev cl1 (sz : Nat) : LCode := .region false 0 [⟨some 2, .mov (.c (.sl true sz [])), none⟩] [] [0]
noncomputable abbrev cl2 (sz : Nat) : LCode := .region false 0 [⟨some 3, .mov (.cp 0), none⟩, ⟨some 4, .eqB false (.cp 3) (.c (.sl true sz [])), none⟩] [] [0, 4]
noncomputable abbrev cl3 (sz : Nat) : LCode := .seq (.region false 0 [⟨some 2, .mov (.c (.sl true sz [])), none⟩] [] [2]) .ret
noncomputable abbrev cl4 (sz bytes : Nat) : LCode := .region false 0 [⟨some 5, .bslice sz [] [], none⟩, ⟨some 6, .mov (.cp 0), none⟩, ⟨some 7, .append sz bytes (.mv 5) (.cp 6), none⟩, ⟨some 2, .mov (.mv 7), none⟩] [] [2]
noncomputable def L_clone (sz bytes : Nat) : LF := { np := 1, res := [.tmp 2], keepRes := true, body := .seq (cl1 sz) (.seq (.seq (cl2 sz) (.cond (.cp 4) (cl3 sz) .skip)) (.seq (cl4 sz bytes) .ret)) }
theorem nilA_ne {els : List AV} (h : els ≠ []) (neg : Bool) (o : Bool) (sz : Nat) : nilA neg (.sl o sz els) = some (.bool neg) := by
  cases els with
  | nil => exact absurd rfl h
  | cons x l => rfl
theorem clone_run {f sz bytes : Nat} {o : Bool} {els : List AV} (hne : els ≠ []) (hb : AV.bndL els = 0) (h1 : els.length * bytes ≤ roomMax) (h2 : els.length ≤ roomMax) (H : Heap) : Run [(f, .code (L_clone sz bytes))] f [.sl o sz els] H = some (.sl true sz els, H) := by
  have hap : appl bytes [] els = some els := by unfold appl; rw [if_pos ⟨by simpa using h1, by simpa using h2⟩]; simp
  refine run_ofK (T := [(f, .code (L_clone sz bytes))]) (np := 1) (body := (L_clone sz bytes).body) (res := [.tmp 2]) (keep := true) (by simp [List.lookup, L_clone]) (n := H.length) rfl ?_
  unfold L_clone
  simp only [go_sem, reduceIte, Nat.reduceEqDiff, Nat.reduceAdd, Nat.reduceLeDiff, Nat.reduceLT, Nat.reduceSub, Nat.reduceBEq, ne_eq, not_false_eq_true, nilA_ne hne]
  refine DoesO_m hap ?_
  simp only [go_sem, reduceIte, Nat.reduceEqDiff, Nat.reduceAdd, Nat.reduceLeDiff, Nat.reduceLT, Nat.reduceSub, Nat.reduceBEq, ne_eq, not_false_eq_true, hb]
theorem spec_clone {P : Program} {f : Nat} {fn : Func} {c : Code} {e : TypeId} {sz bytes : Nat} (hf : P.funcs[f]? = some fn) (hb : fn.body = some c) (hname : fn.name ≠ "runtime.NumGoroutine") (hm : P.follows .mixedOrders = true) (hck : ckF P (L_clone sz bytes) fn = true)
    (h1 : ∀ (k : Nat) (w : World), Calls P f #[.slice none 0 k] w fun e w' => e = .returned (.slice none 0 0) ∧ w' = w)
    (h2 : ∀ (a : Addr) (k : Nat) (w : World), Calls P f #[.slice (some a) 0 k] w fun r w' => r = .returned (.slice (some { block := w.heap.size, off := 0 }) 0 0) ∧ w' = w.alloc (Obj.cells #[] e)) (hsz : 0 < sz) : SpecOK P f (cloneA sz bytes) := by
  intro args h r h' hg hl B0 X β Z w vals hr hi
  unfold cloneA at hg
  split at hg
  · rename_i o z els
    split at hg
    · rename_i hz
      obtain ⟨rfl, hz1, hz2, hbn⟩ := hz
      injection hg with hg
      injection hg with g1 g2
      subst g1; subst g2
      by_cases hne : els = []
      · subst hne
        refine spec_cloneE hf hb hname h1 h2 hsz [.sl o z []] h (.sl true z []) h (by simp [cloneE]) hl B0 X β Z w vals hr hi
      · have hT : TabOK P [(f, .code (L_clone z bytes))] := tab_of hm (fun x hx => by
          simp at hx; subst hx
          exact ⟨fn, hf, hck⟩)
        obtain ⟨k, hk⟩ := Run_some (clone_run (f := f) (sz := z) (bytes := bytes) (o := o) hne hbn hz1 hz2 h)
        exact runN_ok hT k f _ h _ h hk B0 X β Z w vals hr hi
    · cases hg
  · cases hg
end Go.Proofs.YtfihinodhhhllaaGreat
