/- Every operation but calls and new variables. -/
import Derived.Test.YtfihinodhhhllaaGreatIvOp
import Derived.Laws.BytesString
set_option linter.unusedVariables false
set_option linter.unusedSimpArgs false
namespace Go.Proofs.YtfihinodhhhllaaGreat
open Go
def LOp.isCall : LOp → Bool
  | .call .. | .callv .. => true
  | _ => false
def LOp.isAlloc : LOp → Bool
  | .alloc .. => true
  | _ => false
section
variable {P : Program} {w : World} {β : Bt} {Z : Ct} {h h' : Heap} {B0 : Nat} {X : Ct} {e : Env} {a : Act} {K : Callee} {base : Nat} {x : AV}

theorem od1 {y : AV} {l : List Od} {p : Od} (hp : p ∈ l) {v : Value} (hm : ∀ k o, mu y v k o ≤ movedL [p] e a.tmps k o) : ∀ k o, mu y v k o ≤ movedL l e a.tmps k o := fun k o => Nat.le_trans (hm k o) (movedL_of_mem hp e a.tmps k o)

theorem argTy {α : Type} {xs : Array α} {l : List α} (h : xs.toList = l) : xs = l.toArray := by rw [← h]

theorem sound_append {argTypes : Array TypeId} {ty t u el : TypeId} {sz bytes : Nat} {x y z : AV} {vx vy : Value} (ht : argTypes[0]? = some t) (hu : argTypes[1]? = some u) (he : elemOf? P t = some el) (hinf : (P.info? el).isSome = true) (hby : P.bytesOf el = bytes) (hsz : P.cellsOf el = sz) (hpos : 0 < sz) (hbpos : 0 < bytes) (hz : zeroFits P el = true)
    (hue : (elemOf? P u).isSome = true) (happ : appendA sz bytes x y = some z) (hx : Rep w β Z vx x) (hy : Rep w β Z vy y) {moved : Ct} (hi : Inv B0 X β Z h w moved) (hm : ∀ k o, mu x vx k o ≤ moved k o) :
    ∃ w' v Z', (Builtin.append_ argTypes ty #[vx, vy]).run P w = .ok v w' ∧ Post B0 X β Z h w β Z' h w' z v := by
  unfold appendA at happ
  split at happ
  · rename_i z1 els own z2 ys
    split at happ
    · rename_i hc
      obtain ⟨rfl, rfl, hc1, hc2⟩ := hc
      injection happ with happ; subst happ
      have hut := elemOf_spec he
      obtain ⟨ue, hue⟩ := Option.isSome_iff_exists.1 hue
      have huu := elemOf_spec hue
      obtain ⟨arr, a1, a2, a3, a4, a5⟩ := run_firstCells (P := P) (e := el) hy
      obtain ⟨b0, b1, b2, b3, b4, b5⟩ := run_firstCells (P := P) (e := el) hx
      obtain ⟨zv, hzv, hzs⟩ : ∃ zv, zeroOf P el = some zv ∧ zv.cells.size = z2 := by
        unfold zeroFits at hz
        split at hz
        · rename_i zv hzv
          exact ⟨zv, hzv, by rw [← hsz]; simpa using hz⟩
        · simp at hz
      have hinfo : ∃ i, P.info? el = some i ∧ i.bytes = bytes := by
        obtain ⟨i, hi⟩ := Option.isSome_iff_exists.1 hinf
        exact ⟨i, hi, by simpa [Program.bytesOf, hi] using hby⟩
      obtain ⟨inf, hinf1, hinf2⟩ := hinfo
      -- what the machine holds
      obtain ⟨basev, cap, hvx, hown⟩ : ∃ basev cap, vx = .slice basev els.length cap ∧ (els = [] → cap = 0) := by
        cases hx with
        | slz b c _ _ ho => exact ⟨b, c, rfl, fun _ => ho rfl⟩
        | sl f q1 q2 => exact ⟨_, _, rfl, fun h0 => absurd h0 q2⟩
      subst hvx
      unfold Builtin.append_
      simp only [List.getElem?_toArray, ht, hu, Sem.run_bind, Result.andThen_ok, run_underlying hut, run_sizeOf hinf, hsz, run_underlying huu, Sem.run_pure]
      simp only [List.getElem?_cons_zero, List.getElem?_cons_succ, Sem.run_bind, run_underlying hut, run_sizeOf hinf, hsz, run_underlying huu, Sem.run_pure, Result.andThen_ok, Bool.false_eq_true, if_false, a1, Bool.not_false, if_true]
      by_cases hfit : els.length + ys.length ≤ cap
      · simp only [hfit, if_true, Sem.run_bind, a2, Result.andThen_ok]
        by_cases hne : els = []
        · have hcap := hown hne
          subst hne
          have hys : ys = [] := by cases ys with | nil => rfl | cons y ys => simp at hfit; omega
          subst hys
          have harr : arr = #[] := by
            have := a3.1
            simp [flat] at this
            exact this
          subst harr
          subst hcap
          refine ⟨w, .slice basev 0 0, Z, ?_, ?_⟩
          · cases basev <;> simp [storeCells]
          · simp only [List.append_nil]
            exact Post.val hi (.slz _ _ _ _ (fun _ => rfl)) (fun k o => by simp [mu])
        · obtain ⟨ad, cp, h1, h2⟩ := append_here (P := P) (ys := ys) (new := arr) hx hne hi hm a3 a4 a5
          injection h1 with h1 h1' h1''
          subst h1; subst h1''
          obtain ⟨w', Z', h3, h4⟩ := h2 hfit
          refine ⟨w', _, Z', ?_, h4⟩
          simp [h3]
      · rw [if_neg hfit]
        have hneed : ¬(((els.length + ys.length : Nat) : Int) > IntKind.i64.max ∧ ((false = true) ∨ inf.bytes = 0)) := by
          rw [hinf2]; rintro ⟨_, h | h⟩
          · simp at h
          · omega
        have hcapb : ¬ Builtin.nextslicecap (els.length + ys.length) cap * inf.bytes > 2 ^ 48 := by
          have h1 := nextcap_le (n := els.length + ys.length) (c := cap) (by omega)
          have h2 : Builtin.nextslicecap (els.length + ys.length) cap * inf.bytes ≤ 2 * (els.length + ys.length) * inf.bytes := Nat.mul_le_mul_right _ h1
          rw [Nat.mul_assoc] at h2
          rw [hinf2] at h2 ⊢
          simp only [roomMax] at hc1
          omega
        simp only [Sem.run_ite, Sem.run_bind, run_typeInfo hinf1, Result.andThen_ok]
        rw [if_neg (by rintro ⟨h1, h2⟩; exact hneed ⟨h1, by simpa using h2⟩), if_neg hcapb]
        have hy' : Rep (drawn1 w) β Z vy (.sl own z2 ys) := hy.mono (fun _ _ _ he => he) (fun _ _ hz => hz) (fun _ _ _ => rfl)
        have hx' : Rep (drawn1 w) β Z (.slice basev els.length cap) (.sl true z2 els) := hx.mono (fun _ _ _ he => he) (fun _ _ hz => hz) (fun _ _ _ => rfl)
        obtain ⟨arr, a1, a2, a3, a4, a5⟩ := run_firstCells (P := P) (e := el) hy'
        obtain ⟨b0, b1, b2, b3, b4, b5⟩ := run_firstCells (P := P) (e := el) hx'
        have a3' : RepL w β Z arr.toList (flat ys) := ⟨a3.1, fun i h1 h2 => (a3.2 i h1 h2).mono (fun _ _ _ he => he) (fun _ _ hz => hz) (fun _ _ _ => rfl)⟩
        have b3' : RepL w β Z b0.toList (flat els) := ⟨b3.1, fun i h1 h2 => (b3.2 i h1 h2).mono (fun _ _ _ he => he) (fun _ _ hz => hz) (fun _ _ _ => rfl)⟩
        generalize hcut : (Question.appendCap (els.length + ys.length) cap el).cut (w.tape w.drawn (Question.appendCap (els.length + ys.length) cap el)) = nc
        have hnc : els.length + ys.length ≤ nc := by
          rw [← hcut]; simp only [Question.cut]; omega
        obtain ⟨Z', hpost⟩ := append_new (e := el) (z := zv) (sz := z2) (own := true) (els := els) (ys := ys) (old := b0) (new := arr) (cap := nc) hzs hpos (hi.weaken (fun _ _ => Nat.zero_le _)) b3' b4 b5 a3' a4 a5 hnc (by omega)
        refine ⟨_, _, Z', ?_, hpost⟩
        have hforced : (Question.appendCap (els.length + ys.length) cap el).forced = false := rfl
        rw [run_choose, hforced]
        simp only [Bool.false_eq_true, if_false, Result.andThen_ok, hcut, run_askRoom]
        show ((Sem.run P (Builtin.firstCells z2 els.length (Value.slice basev els.length cap)) (drawn1 w)).andThen _) = _
        rw [b2]
        simp only [Result.andThen_ok]
        rw [a2]
        simp only [Result.andThen_ok, run_zeroValue hzv, newRow, Sem.run_bind, run_newObj, Sem.run_pure]
        rfl
    · simp at happ
  · simp at happ

theorem bytes_row (l : List UInt8) : ∀ x ∈ bytesA l, x.cells.length = 1 := by
  intro x hx
  simp only [bytesA, List.mem_map] at hx
  obtain ⟨c, _, rfl⟩ := hx
  rfl
theorem flat_bytes (l : List UInt8) : flat (bytesA l) = bytesA l := by
  induction l with
  | nil => rfl
  | cons c l ih =>
    have : bytesA (c :: l) = AV.int .u8 c.toNat :: bytesA l := rfl
    rw [this, flat_cons, ih]
    rfl
theorem rep_bytes (l : List UInt8) : RepL w β Z (l.map fun b => Value.int .u8 b.toNat) (flat (bytesA l)) ∧ ∀ c ∈ flat (bytesA l), c.cellOk = true := by
  rw [flat_bytes]
  refine ⟨⟨by simp [bytesA], fun i h1 h2 => ?_⟩, fun c hc => ?_⟩
  · simp [bytesA]
    exact .int _ _
  · simp only [bytesA, List.mem_map] at hc
    obtain ⟨c', _, rfl⟩ := hc
    rfl

theorem sound_appendS {argTypes : Array TypeId} {ty t u el : TypeId} {x y z : AV} {vx vy : Value} (ht : argTypes[0]? = some t) (hu : argTypes[1]? = some u) (he : elemOf? P t = some el) (hinf : (P.info? el).isSome = true) (hby : P.bytesOf el = 1) (hsz : P.cellsOf el = 1) (hz : zeroFits P el = true)
    (hue : isStr P u = true) (happ : appendSA x y = some z) (hx : Rep w β Z vx x) (hy : Rep w β Z vy y) {moved : Ct} (hi : Inv B0 X β Z h w moved) (hm : ∀ k o, mu x vx k o ≤ moved k o) :
    ∃ w' v Z', (Builtin.append_ argTypes ty #[vx, vy]).run P w = .ok v w' ∧ Post B0 X β Z h w β Z' h w' z v := by
  unfold appendSA at happ
  split at happ
  · rename_i z2 els l
    split at happ
    · rename_i hc
      obtain ⟨rfl, hc2⟩ := hc
      injection happ with happ; subst happ
      have hut := elemOf_spec he
      have huu := isStr_spec hue
      have hvy : vy = .string ⟨l.toArray⟩ := by cases hy; rfl
      subst hvy
      have hstr : ∀ w : World, (Builtin.firstCells 1 l.length (.string ⟨l.toArray⟩)).run P w = .ok (l.map fun b => Value.int .u8 b.toNat).toArray w := by
        intro w
        have e1 : ((⟨l.toArray⟩ : ByteArray).extract 0 l.length) = ⟨l.toArray⟩ := by rw [extract_str]; simp
        simp only [Builtin.firstCells, e1, Sem.run_pure]
        congr 1
        apply Array.ext'
        simp
      have hlen : ∀ w : World, (Builtin.lenOf (.string ⟨l.toArray⟩)).run P w = .ok l.length w := fun w => rfl
      have hbl : (bytesA l).length = l.length := by simp [bytesA]
      obtain ⟨b0, b1, b2, b3, b4, b5⟩ := run_firstCells (P := P) (e := el) hx
      obtain ⟨zv, hzv, hzs⟩ : ∃ zv, zeroOf P el = some zv ∧ zv.cells.size = 1 := by
        unfold zeroFits at hz
        split at hz
        · rename_i zv hzv
          exact ⟨zv, hzv, by rw [← hsz]; simpa using hz⟩
        · simp at hz
      have hinfo : ∃ i, P.info? el = some i ∧ i.bytes = 1 := by
        obtain ⟨i, hi⟩ := Option.isSome_iff_exists.1 hinf
        exact ⟨i, hi, by simpa [Program.bytesOf, hi] using hby⟩
      obtain ⟨inf, hinf1, hinf2⟩ := hinfo
      obtain ⟨basev, cap, hvx, hown⟩ : ∃ basev cap, vx = .slice basev els.length cap ∧ (els = [] → cap = 0) := by
        cases hx with
        | slz b c _ _ ho => exact ⟨b, c, rfl, fun _ => ho rfl⟩
        | sl f q1 q2 => exact ⟨_, _, rfl, fun h0 => absurd h0 q2⟩
      subst hvx
      unfold Builtin.append_
      simp only [List.getElem?_toArray, ht, hu, Sem.run_bind, Result.andThen_ok, run_underlying hut, run_sizeOf hinf, hsz, run_underlying huu, Sem.run_pure]
      simp only [List.getElem?_cons_zero, List.getElem?_cons_succ, Sem.run_bind, run_underlying hut, run_sizeOf hinf, hsz, run_underlying huu, Sem.run_pure, Result.andThen_ok, Bool.false_eq_true, if_false, hlen, Bool.not_false, if_true]
      by_cases hfit : els.length + l.length ≤ cap
      · simp only [hfit, if_true, Sem.run_bind, hstr, Result.andThen_ok]
        by_cases hne : els = []
        · have hcap := hown hne
          subst hne
          have hl : l = [] := by cases l with | nil => rfl | cons y ys => simp at hfit; omega
          subst hl
          subst hcap
          refine ⟨w, .slice basev 0 0, Z, ?_, ?_⟩
          · cases basev <;> simp [storeCells]
          · simp only [bytesA, List.map_nil, List.append_nil]
            exact Post.val hi (.slz _ _ _ _ (fun _ => rfl)) (fun k o => by simp [mu])
        · obtain ⟨r1, r2⟩ := rep_bytes (w := w) (β := β) (Z := Z) l
          obtain ⟨ad, cp, h1, h2⟩ := append_here (P := P) (ys := bytesA l) (new := (l.map fun b => Value.int .u8 b.toNat).toArray) hx hne hi hm (by simpa using r1) (bytes_row l) r2
          injection h1 with h1 h1' h1''
          subst h1; subst h1''
          obtain ⟨w', Z', h3, h4⟩ := h2 (by rw [hbl]; exact hfit)
          rw [hbl] at h4
          refine ⟨w', _, Z', ?_, h4⟩
          simp only [List.toList_toArray] at h3
          simp only [Sem.run_bind, h3, Result.andThen_ok, Sem.run_pure]
      · rw [if_neg hfit]
        have hneed : ¬(((els.length + l.length : Nat) : Int) > IntKind.i64.max ∧ ((false = true) ∨ inf.bytes = 0)) := by
          rw [hinf2]; rintro ⟨_, h | h⟩
          · simp at h
          · omega
        have hcapb : ¬ Builtin.nextslicecap (els.length + l.length) cap * inf.bytes > 2 ^ 48 := by
          have h1 := nextcap_le (n := els.length + l.length) (c := cap) (by omega)
          rw [hinf2]
          simp only [roomMax] at hc2
          omega
        simp only [Sem.run_ite, Sem.run_bind, run_typeInfo hinf1, Result.andThen_ok]
        rw [if_neg (by rintro ⟨h1, h2⟩; exact hneed ⟨h1, by simpa using h2⟩), if_neg hcapb]
        have hx' : Rep (drawn1 w) β Z (.slice basev els.length cap) (.sl true 1 els) := hx.mono (fun _ _ _ he => he) (fun _ _ hz => hz) (fun _ _ _ => rfl)
        obtain ⟨b0, b1, b2, b3, b4, b5⟩ := run_firstCells (P := P) (e := el) hx'
        have b3' : RepL w β Z b0.toList (flat els) := ⟨b3.1, fun i h1 h2 => (b3.2 i h1 h2).mono (fun _ _ _ he => he) (fun _ _ hz => hz) (fun _ _ _ => rfl)⟩
        generalize hcut : (Question.appendCap (els.length + l.length) cap el).cut (w.tape w.drawn (Question.appendCap (els.length + l.length) cap el)) = nc
        have hnc : els.length + l.length ≤ nc := by
          rw [← hcut]; simp only [Question.cut]; omega
        obtain ⟨r1, r2⟩ := rep_bytes (w := w) (β := β) (Z := Z) l
        obtain ⟨Z', hpost⟩ := append_new (e := el) (z := zv) (sz := 1) (own := true) (els := els) (ys := bytesA l) (old := b0) (new := (l.map fun b => Value.int .u8 b.toNat).toArray) (cap := nc) hzs (by omega) (hi.weaken (fun _ _ => Nat.zero_le _)) b3' b4 b5 (by simpa using r1) (bytes_row l) r2 (by rw [hbl]; exact hnc) (by rw [hbl]; omega)
        rw [hbl] at hpost
        refine ⟨_, _, Z', ?_, hpost⟩
        have hforced : (Question.appendCap (els.length + l.length) cap el).forced = false := rfl
        rw [run_choose, hforced]
        simp only [Bool.false_eq_true, if_false, Result.andThen_ok, hcut, run_askRoom]
        show ((Sem.run P (Builtin.firstCells 1 els.length (Value.slice basev els.length cap)) (drawn1 w)).andThen _) = _
        rw [b2]
        simp only [Result.andThen_ok]
        rw [hstr]
        simp only [Result.andThen_ok, run_zeroValue hzv, newRow, Sem.run_bind, run_newObj, Sem.run_pure]
        rfl
    · simp at happ
  · simp at happ

theorem strOf_ns {els : List AV} {l : List UInt8} (h : strOf els = some l) : ∃ ns : List Int, els = ns.map (AV.int .u8) ∧ l = ns.map fun n => UInt8.ofNat n.toNat := by
  induction els generalizing l with
  | nil => simp [strOf] at h; subst h; exact ⟨[], rfl, rfl⟩
  | cons x r ih =>
    unfold strOf at h
    split at h
    · rename_i he; simp at he
    · rename_i n r' he
      injection he with e1 e2
      subst e1; subst e2
      obtain ⟨l', hl', rfl⟩ := Option.map_eq_some_iff.1 h
      obtain ⟨ns, q1, q2⟩ := ih hl'
      exact ⟨n :: ns, by simp [q1], by simp [q2]⟩
    · simp at h
theorem foldl_push (ns : List Int) : ∀ acc : ByteArray, ns.foldl (fun r n => r.push (UInt8.ofNat n.toNat)) acc = ⟨(acc.data.toList ++ ns.map fun n => UInt8.ofNat n.toNat).toArray⟩ := by
  induction ns with
  | nil => intro acc; simp
  | cons n ns ih => intro acc; simp only [List.foldl_cons, ih]; simp [ByteArray.push]

theorem sound_bytesStr {s t el : TypeId} (hs : elemOf? P s = some el) (hb : isByte P el = true) (ht : isStr P t = true) {own : Bool} {sz : Nat} {els : List AV} {l : List UInt8} {vx : Value} (hl : strOf els = some l) (hx : Rep w β Z vx (.sl own sz els)) : (convert s t vx).run P w = .ok (.string ⟨l.toArray⟩) w := by
  obtain ⟨ns, rfl, rfl⟩ := strOf_ns hl
  have hconv : ∀ (a : Option Addr) (n c : Nat), (convert s t (.slice a n c)).run P w = (Conv.bytesToString (.slice a n c)).run P w := fun a n c => run_convert_bytes_string w s t el a n c (elemOf_spec hs) (isByte_spec hb) (isStr_spec ht)
  generalize hels : ns.map (AV.int .u8) = els at hx
  cases hx with
  | slz base cap _ _ ho =>
    have : ns = [] := by simpa using hels
    subst this
    rw [hconv]
    cases base with
    | none => simp [Conv.bytesToString]; rfl
    | some ad => rw [run_bytesToString w ad 0 cap [] (by simp [loadCells, loadCellsFrom])]; rfl
  | sl f q1 q2 qc q3 q4 q5 q6 q7 q8 =>
    rename_i ad cap
    have hfl : flat els = els := by
      rw [← hels]
      clear hels q4 q5 q6 q7 q8 hl
      induction ns with
      | nil => rfl
      | cons n ns ih => rw [List.map_cons, flat_cons, ih]; rfl
    have hel : els.length = ns.length := by rw [← hels]; simp
    have hf : ∀ k (hk : k < ns.length), f k = .int .u8 ns[k] := by
      intro k hk
      have hk' : k < (flat els).length := by rw [hfl, hel]; exact hk
      have h1 := q8 k hk'
      have h2 : (flat els)[k] = AV.int .u8 ns[k] := by
        have : (flat els)[k]? = some (AV.int .u8 ns[k]) := by rw [hfl, ← hels]; simp [hk]
        rw [List.getElem?_eq_getElem hk'] at this
        exact Option.some.inj this
      rw [h2] at h1
      exact asInt_rep rfl h1
    have ha : ad = ⟨ad.block, ad.off, none⟩ := by cases ad; simp at q1; simp [q1]
    have hload := run_loadCells (P := P) w ad els.length f (fun j hj => by rw [ha, addr_add]; exact q6 j (by rw [hfl]; exact hj))
    have hmap : ((List.range els.length).map f).toArray = (ns.map (Value.int .u8)).toArray := by
      congr 1
      apply List.ext_getElem?
      intro i
      by_cases hi : i < ns.length
      · rw [List.getElem?_map, List.getElem?_range (by omega)]; simp [hf i hi, hi]
      · rw [List.getElem?_eq_none (by simp; omega), List.getElem?_eq_none (by simp; omega)]
    rw [hmap] at hload
    rw [hconv, run_bytesToString w ad els.length cap ns hload, foldl_push]
    simp


theorem op_sound {lo : LOp} {o : Oper} (hck : ckOp P lo o.op = true) (hrun : lo.run K base e h = some (x, h')) (hnc : lo.isCall = false) (hna : lo.isAlloc = false) (henv : ∀ t, Rep w β Z (a.tmps.getD t Go.undef) (e.get t)) (hi : Inv B0 X β Z h w (movedL lo.ods e a.tmps)) :
    OpOK P B0 X β Z h w (execOp a.eval o) h' x := by
  obtain ⟨dst, op, ty, pos, after, guard⟩ := o
  simp only at hck
  unfold ckOp at hck
  split at hck
  · -- move
    simp only [LOp.run] at hrun
    injection hrun with hrun; injection hrun with h1 h2; subst h1; subst h2
    exact .val hi (by simp [execOp]) (ckOd_rep henv hck) (fun k o => ckOd_mu hck k o)
  · simp only [LOp.run] at hrun
    injection hrun with hrun; injection hrun with h1 h2; subst h1; subst h2
    exact .val hi (by simp [execOp]) (ckOd_rep henv hck) (fun k o => ckOd_mu hck k o)
  · -- pick
    rename_i c p q c' p' q'
    simp only [Bool.and_eq_true] at hck
    obtain ⟨⟨hc, hp⟩, hq⟩ := hck
    simp only [LOp.run] at hrun
    split at hrun
    · rename_i t hct
      injection hrun with hrun; injection hrun with h1 h2; subst h1; subst h2
      have hcr := ckOd_rep henv hc
      rw [hct] at hcr
      have hcv : a.eval c' = .bool t := by generalize a.eval c' = u at hcr; cases hcr; rfl
      cases t with
      | true => exact .val hi (by simp [execOp, hcv, asBool]) (ckOd_rep henv hp) (od1 (by simp [LOp.ods]) (fun k o => ckOd_mu hp k o))
      | false => exact .val hi (by simp [execOp, hcv, asBool]) (ckOd_rep henv hq) (od1 (by simp [LOp.ods]) (fun k o => ckOd_mu hq k o))
    · simp at hrun
  · simp [LOp.isAlloc] at hna
  · -- box
    rename_i p t y
    simp only [LOp.run] at hrun
    split at hrun
    · rename_i hc
      injection hrun with hrun; injection hrun with h1 h2; subst h1; subst h2
      obtain ⟨w', v, β', r1, r2, r3⟩ := sound_box (P := P) (t := t) (ckOd_rep henv hck) hc.1 hc.2 hi (fun k o => ckOd_mu hck k o)
      exact ⟨β', Z, w', v, .inl (by simp [execOp, r1]), r2, fun b hb => ⟨r3 b hb, fun hh => by rw [List.getElem?_append_left hb]; exact hh⟩⟩
    · simp at hrun
  · -- build
    rename_i zs ps t qs
    simp only [Bool.and_eq_true] at hck
    obtain ⟨⟨h1, h2⟩, h3⟩ := hck
    simp only [LOp.run] at hrun
    obtain ⟨ds, hds, hrun⟩ := Option.map_eq_some_iff.1 hrun
    injection hrun with e1 e2; subst e1; subst e2
    split at h2
    · rename_i z hz
      obtain ⟨v, r1, r2, r3⟩ := sound_build (P := P) henv h1 hz h2 h3 hds
      exact .val hi (by simp [execOp, r1]) r2 r3
    · simp at h2
  · -- bslice
    rename_i sz zs ps t n qs
    split at hck
    · rename_i el he
      simp only [Bool.and_eq_true, decide_eq_true_eq] at hck
      obtain ⟨⟨⟨⟨⟨⟨c1, c2⟩, c3⟩, c4⟩, c5⟩, c6⟩, c7⟩ := hck
      simp only [LOp.run] at hrun
      obtain ⟨ds, hds, hrun⟩ := Option.map_eq_some_iff.1 hrun
      injection hrun with e1 e2; subst e1; subst e2
      split at c6
      · rename_i z hz
        have c2' : P.cellsOf el = sz := by simpa using c2
        rw [c2'] at c4 c5 c6
        obtain ⟨p1, p2⟩ := ckParts2_spec henv ps qs.toList c7
        obtain ⟨w', v, Z', r1, r2⟩ := sound_bslice (P := P) (t := t) (n := n) (qs := qs.map fun (i, x) => (i, a.eval x)) he c1 c2' (by simpa using c3) c4 c5 hz (fun x hx => by
          have := List.all_eq_true.1 c6 x hx
          simp only [Bool.and_eq_true] at this
          exact ⟨this.1.2, by simpa using this.2⟩) (ps := ps.map fun p => (p.1, p.2.ev e)) (by simpa using p1) (fun i h1 h2 => by
          have := p2 i (by simpa using h1) (by simpa using h2)
          simpa using this) hds hi
        exact ⟨β, Z', w', v, .inl (by simp [execOp, r1]), r2, Keep.refl _ _⟩
      · simp at c6
    · simp at hck
  · -- load
    rename_i take n p t y
    simp only [Bool.and_eq_true, beq_iff_eq] at hck
    obtain ⟨c1, c2⟩ := hck
    have hp := ckOd_rep henv c2
    simp only [LOp.run] at hrun
    split at hrun
    · split at hrun
      · rename_i b off hev
        obtain ⟨y', hy', hrun⟩ := Option.map_eq_some_iff.1 hrun
        injection hrun with e1 e2; subst e1; subst e2
        rw [hev] at hp
        obtain ⟨v, r1, r2⟩ := sound_take (P := P) c1 hy' hp hi
        exact ⟨β, Z, w, v, .inl (by simp [execOp, r1]), r2, fun b _ => ⟨rfl, takeAt_hid b⟩⟩
      · simp at hrun
    · obtain ⟨y', hy', hrun⟩ := Option.map_eq_some_iff.1 hrun
      injection hrun with e1 e2; subst e1; subst e2
      obtain ⟨v, r1, r2, _⟩ := sound_load (P := P) c1 hy' hp hi.row (fun b cs hx => (hi.old b cs hx).2)
      exact .val hi (by simp [execOp, r1]) r2.erase (fun k o => by rw [mu_erase]; omega)
  · -- store
    rename_i n p q t y z
    simp only [Bool.and_eq_true, beq_iff_eq] at hck
    obtain ⟨⟨⟨⟨c1, c2⟩, c3⟩, c4⟩, c5⟩ := hck
    simp only [LOp.run] at hrun
    obtain ⟨h2, hh, hrun⟩ := Option.map_eq_some_iff.1 hrun
    injection hrun with e1 e2; subst e1; subst e2
    obtain ⟨w', r1, r2⟩ := sound_store (P := P) c1 c2 c3 hh (ckOd_rep henv c4) (ckOd_rep henv c5) hi (od1 (by simp [LOp.ods]) (fun k o => ckOd_mu c5 k o))
    exact ⟨β, Z, w', Go.undef, .inr ⟨by simp [execOp, r1], rfl⟩, r2, fun b _ => ⟨rfl, storeA_hid hh b⟩⟩
  · -- nilCheck
    rename_i p y
    have hp := ckOd_rep henv hck
    have hm := fun k o => ckOd_mu (e := e) (a := a) hck k o
    simp only [LOp.run] at hrun
    split at hrun
    · rename_i b off hev
      injection hrun with hrun; injection hrun with e1 e2; subst e1; subst e2
      rw [hev] at hp
      generalize hu : a.eval y = u at hp
      cases hp with
      | ptr _ hb => exact .val hi (by simp [execOp, hu]) (.ptr _ hb) (fun k o => by simp [mu])
    · rename_i y' off hev
      injection hrun with hrun; injection hrun with e1 e2; subst e1; subst e2
      rw [hev] at hp
      generalize hu : a.eval y = u at hp
      cases hp with
      | ep _ f q1 q2 q3 q4 => exact .val hi (by simp [execOp, hu]) (.ep _ f q1 q2 q3 q4) (fun k o => by simp [mu])
    · rename_i f caps hev
      injection hrun with hrun; injection hrun with e1 e2; subst e1; subst e2
      rw [hev] at hp
      generalize hu : a.eval y = u at hp
      cases hp with
      | fn _ q1 q2 => exact .val hi (by simp [execOp, hu]) (.fn _ q1 q2) (fun k o => by simp [mu])
    · simp at hrun
  · -- bin
    rename_i op p q op' t x' y' yt
    simp only [Bool.and_eq_true, beq_iff_eq] at hck
    obtain ⟨⟨rfl, c1⟩, c2⟩ := hck
    simp only [LOp.run] at hrun
    obtain ⟨z, hz, hrun⟩ := Option.map_eq_some_iff.1 hrun
    injection hrun with e1 e2; subst e1; subst e2
    obtain ⟨v, r1, r2, r3⟩ := sound_bin (P := P) t x' y' hz (ckOd_rep henv c1) (ckOd_rep henv c2)
    refine .val hi (v := v) ?_ r2 (fun k o => by rw [r3]; omega)
    simp only [Sem.run_bind] at r1
    simp only [execOp, Sem.run_bind, r1, Result.andThen_ok, Sem.run_pure]
  · -- eqB
    rename_i neg p q op' t x' y' yt
    simp only [Bool.and_eq_true, beq_iff_eq] at hck
    obtain ⟨⟨⟨c0, c1⟩, c2⟩, c3⟩ := hck
    subst c1
    simp only [LOp.run] at hrun
    obtain ⟨z, hz, hrun⟩ := Option.map_eq_some_iff.1 hrun
    injection hrun with e1 e2; subst e1; subst e2
    split at hz
    · rename_i hn
      rw [if_pos hn] at c0
      simp only [Bool.and_eq_true] at c0
      have hy : a.eval y' = .slice none 0 0 := by
        have := c0.2
        unfold isNilC at this
        split at this
        · rfl
        · simp at this
      obtain ⟨v, r1, r2, r3⟩ := sound_nilB (P := P) x' y' c0.1 hz (ckOd_rep henv c2)
      refine .val hi (v := v) ?_ r2 (fun k o => by rw [r3]; omega)
      simp only [Sem.run_bind] at r1
      simp only [execOp, hy, Sem.run_bind, r1, Result.andThen_ok, Sem.run_pure]
    · rename_i hn
      rw [if_neg hn] at c0
      obtain ⟨v, r1, r2, r3⟩ := sound_eqB (P := P) x' y' c0 hz (ckOd_rep henv c2) (ckOd_rep henv c3)
      refine .val hi (v := v) ?_ r2 (fun k o => by rw [r3]; omega)
      simp only [Sem.run_bind] at r1
      simp only [execOp, Sem.run_bind, r1, Result.andThen_ok, Sem.run_pure]
  · -- un
    simp only [Bool.and_eq_true, beq_iff_eq] at hck
    obtain ⟨rfl, c1⟩ := hck
    simp only [LOp.run] at hrun
    obtain ⟨z, hz, hrun⟩ := Option.map_eq_some_iff.1 hrun
    injection hrun with e1 e2; subst e1; subst e2
    obtain ⟨v, r1, r2, r3⟩ := sound_un (P := P) hz (ckOd_rep henv c1)
    exact .val hi (by simp [execOp, r1]) r2 (fun k o => by rw [r3]; omega)
  · -- conv
    rename_i k p s t y
    simp only [Bool.and_eq_true] at hck
    obtain ⟨⟨c0, c1⟩, c2⟩ := hck
    split at c1
    · rename_i k' hk
      obtain rfl : k = k' := by simpa using c1
      have hp := ckOd_rep henv c2
      simp only [LOp.run] at hrun
      split at hrun
      · rename_i k2 n hev
        injection hrun with hrun; injection hrun with e1 e2; subst e1; subst e2
        rw [hev] at hp
        have hv := asInt_rep rfl hp
        exact .val hi (by simp only [execOp, hv, Sem.run_bind, sound_conv (P := P) (w := w) c0 hk, Result.andThen_ok, Sem.run_pure]) (.int _ _) (fun k o => by simp [mu])
      · simp at hrun
    · simp at c1
  · -- strStr
    rename_i p s t y
    simp only [Bool.and_eq_true] at hck
    obtain ⟨⟨c0, c1⟩, c2⟩ := hck
    have hp := ckOd_rep henv c2
    simp only [LOp.run] at hrun
    split at hrun
    · rename_i l hev
      injection hrun with hrun; injection hrun with e1 e2; subst e1; subst e2
      rw [hev] at hp
      have hv : a.eval y = .string ⟨l.toArray⟩ := by generalize a.eval y = u at hp; cases hp; rfl
      exact .val hi (by simp only [execOp, hv, Sem.run_bind, sound_strStr (P := P) (w := w) c0 c1, Result.andThen_ok, Sem.run_pure]) (.str _) (fun k o => by simp [mu])
    · simp at hrun
  · -- bytesStr
    rename_i p s t y
    simp only [Bool.and_eq_true] at hck
    obtain ⟨⟨c0, c1⟩, c2⟩ := hck
    have hp := ckOd_rep henv c2
    split at c1
    · rename_i el he
      simp only [LOp.run] at hrun
      split at hrun
      · rename_i own sz els hev
        obtain ⟨l, hl, hrun⟩ := Option.map_eq_some_iff.1 hrun
        injection hrun with e1 e2; subst e1; subst e2
        rw [hev] at hp
        exact .val hi (by simp only [execOp, Sem.run_bind, sound_bytesStr (P := P) he c1 c0 hl hp, Result.andThen_ok, Sem.run_pure]) (.str _) (fun k o => by simp [mu])
      · simp at hrun
    · simp at c1
  · -- slice
    rename_i sz p lo hi' t y lo' hi''
    simp only [Bool.and_eq_true] at hck
    obtain ⟨⟨⟨c0, c1⟩, c2⟩, c3⟩ := hck
    simp only [LOp.run] at hrun
    obtain ⟨z, hz, hrun⟩ := Option.map_eq_some_iff.1 hrun
    injection hrun with e1 e2; subst e1; subst e2
    obtain ⟨v, r1, r2, r3⟩ := sound_slice (P := P) c0 hz (ckOd_rep henv c1) (ckOdO_rep henv c2) (ckOdO_rep henv c3)
    exact .val hi (by simp [execOp, r1]) r2 (fun k o => by rw [r3]; omega)
  · -- fieldAddr
    rename_i p off t y i
    simp only [Bool.and_eq_true] at hck
    obtain ⟨c0, c1⟩ := hck
    have hp := ckOd_rep henv c1
    split at c0
    · rename_i f hf
      simp only [Bool.and_eq_true, beq_iff_eq, bne_iff_ne] at c0
      simp only [LOp.run] at hrun
      split at hrun
      · rename_i b o hev
        injection hrun with hrun; injection hrun with e1 e2; subst e1; subst e2
        rw [hev] at hp
        obtain ⟨v, r1, r2⟩ := sound_faddr (P := P) hf c0.1.1 c0.1.2 c0.2 hp
        exact .val hi (by simp [execOp, r1]) r2 (fun k o => by simp [mu])
      · rename_i y' o hev
        injection hrun with hrun; injection hrun with e1 e2; subst e1; subst e2
        rw [hev] at hp
        obtain ⟨v, r1, r2⟩ := sound_faddr_ep (P := P) hf c0.1.1 c0.1.2 c0.2 hp
        exact .val hi (by simp [execOp, r1]) r2 (fun k o => by simp [mu])
      · simp at hrun
    · simp at c0
  · -- field
    rename_i p off n t y i
    simp only [Bool.and_eq_true] at hck
    obtain ⟨c0, c1⟩ := hck
    have hp := ckOd_rep henv c1
    split at c0
    · rename_i f hf
      simp only [Bool.and_eq_true, beq_iff_eq] at c0
      simp only [LOp.run] at hrun
      split at hrun
      · rename_i cs hev
        obtain ⟨z, hz, hrun⟩ := Option.map_eq_some_iff.1 hrun
        injection hrun with e1 e2; subst e1; subst e2
        have hm := fun k o => ckOd_mu (e := e) (a := a) c1 k o
        rw [hev] at hp hm
        obtain ⟨v, r1, r2, r3⟩ := sound_field (P := P) hf c0.1.1 c0.2 hz hp
        exact .val hi (by simp [execOp, r1]) r2 (fun k o => Nat.le_trans (r3 k o) (hm k o))
      · simp at hrun
    · simp at c0
  · -- indexAddr
    rename_i sz ln p q t x' i'
    simp only [Bool.and_eq_true] at hck
    obtain ⟨⟨c0, c1⟩, c2⟩ := hck
    simp only [LOp.run] at hrun
    obtain ⟨z, hz, hrun⟩ := Option.map_eq_some_iff.1 hrun
    injection hrun with e1 e2; subst e1; subst e2
    obtain ⟨v, r1, r2, r3⟩ := sound_iaddr (P := P) c0 hz (ckOd_rep henv c1) (ckOd_rep henv c2)
    exact .val hi (by simp [execOp, r1]) r2 (fun k o => by rw [r3]; omega)
  · -- index
    rename_i p q t x' i'
    simp only [Bool.and_eq_true] at hck
    obtain ⟨⟨c0, c1⟩, c2⟩ := hck
    simp only [LOp.run] at hrun
    obtain ⟨z, hz, hrun⟩ := Option.map_eq_some_iff.1 hrun
    injection hrun with e1 e2; subst e1; subst e2
    obtain ⟨v, r1, r2, r3⟩ := sound_idx (P := P) c0 hz (ckOd_rep henv c1) (ckOd_rep henv c2)
    exact .val hi (by simp [execOp, r1]) r2 (fun k o => by rw [r3]; omega)
  · -- extract
    rename_i p i y j
    simp only [Bool.and_eq_true, beq_iff_eq] at hck
    obtain ⟨rfl, c1⟩ := hck
    have hp := ckOd_rep henv c1
    have hm := fun k o => ckOd_mu (e := e) (a := a) c1 k o
    simp only [LOp.run] at hrun
    split at hrun
    · rename_i vs hev
      obtain ⟨z, hz, hrun⟩ := Option.map_eq_some_iff.1 hrun
      injection hrun with e1 e2; subst e1; subst e2
      rw [hev] at hp hm
      generalize hu : a.eval y = u at hp hm
      cases hp with
      | tup q1 q2 =>
        rename_i xs
        obtain ⟨v, v1, v2⟩ := (RepL.of_agg q1 q2).get hz
        rw [Array.getElem?_toList] at v1
        refine .val hi (v := v) (by simp [execOp, hu, Instr.extract, v1]) v2 (fun k o => Nat.le_trans ?_ (hm k o))
        simp only [mu]
        exact muL_get hz (by rw [Array.getElem?_toList]; exact v1) k o
    · simp at hrun
  · simp [LOp.isCall] at hnc
  · simp [LOp.isCall] at hnc
  · -- len
    rename_i s p args argTypes
    simp only [Bool.and_eq_true] at hck
    obtain ⟨c0, c1⟩ := hck
    simp only [LOp.run] at hrun
    obtain ⟨z, hz, hrun⟩ := Option.map_eq_some_iff.1 hrun
    injection hrun with e1 e2; subst e1; subst e2
    split at c0
    · rename_i t ht
      have ha : ∃ y, args = #[y] ∧ ckOd p y = true := by
        obtain ⟨l⟩ := args
        cases l with
        | nil => simp [ckOds] at c1
        | cons y l => cases l with
          | nil => exact ⟨y, rfl, by simpa [ckOds] using c1⟩
          | cons _ _ => simp [ckOds] at c1
      obtain ⟨y, rfl, c2⟩ := ha
      obtain ⟨v, r1, r2, r3⟩ := sound_len (P := P) (ty := ty) c0 hz (ckOd_rep henv c2)
      refine .val hi (v := v) ?_ r2 (fun k o => by rw [r3]; omega)
      have e1 : (Builtin.len_ argTypes ty #[a.eval y]) = (Builtin.len_ #[t] ty #[a.eval y]) := by unfold Builtin.len_; simp [ht]
      simp [execOp, resolve, invoke, builtin, e1, r1]
    · simp at c0
  · -- append
    rename_i sz bytes p q args argTypes
    simp only [Bool.and_eq_true] at hck
    obtain ⟨c0, c1⟩ := hck
    simp only [LOp.run] at hrun
    obtain ⟨z, hz, hrun⟩ := Option.map_eq_some_iff.1 hrun
    injection hrun with e1 e2; subst e1; subst e2
    have ha : ∃ y y', args = #[y, y'] ∧ ckOd p y = true ∧ ckOd q y' = true := by
      obtain ⟨l⟩ := args
      match l, c1 with
      | [y, y'], c1 => exact ⟨y, y', rfl, by simpa [ckOds] using c1⟩
      | [], c1 => simp [ckOds] at c1
      | [_], c1 => simp [ckOds] at c1
      | _ :: _ :: _ :: _, c1 => simp [ckOds] at c1
    obtain ⟨y, y', rfl, c2, c3⟩ := ha
    split at c0
    · rename_i t u ht hu
      simp only [Bool.and_eq_true] at c0
      obtain ⟨c4, c5⟩ := c0
      split at c4
      · rename_i el he
        simp only [Bool.and_eq_true, beq_iff_eq, decide_eq_true_eq] at c4
        obtain ⟨⟨⟨⟨⟨d1, d2⟩, d3⟩, d4⟩, d5⟩, d6⟩ := c4
        rw [d3] at d4
        rw [d2] at d5
        obtain ⟨w', v, Z', r1, r2⟩ := sound_append (P := P) (ty := ty) ht hu he d1 d2 d3 d4 d5 d6 c5 hz (ckOd_rep henv c2) (ckOd_rep henv c3) hi (od1 (by simp [LOp.ods]) (fun k o => ckOd_mu c2 k o))
        exact ⟨β, Z', w', v, .inl (by simp [execOp, resolve, invoke, builtin, r1]), r2, Keep.refl _ _⟩
      · simp at c4
    · simp at c0
  · -- appendS
    rename_i p q args argTypes
    simp only [Bool.and_eq_true] at hck
    obtain ⟨c0, c1⟩ := hck
    simp only [LOp.run] at hrun
    obtain ⟨z, hz, hrun⟩ := Option.map_eq_some_iff.1 hrun
    injection hrun with e1 e2; subst e1; subst e2
    have ha : ∃ y y', args = #[y, y'] ∧ ckOd p y = true ∧ ckOd q y' = true := by
      obtain ⟨l⟩ := args
      match l, c1 with
      | [y, y'], c1 => exact ⟨y, y', rfl, by simpa [ckOds] using c1⟩
      | [], c1 => simp [ckOds] at c1
      | [_], c1 => simp [ckOds] at c1
      | _ :: _ :: _ :: _, c1 => simp [ckOds] at c1
    obtain ⟨y, y', rfl, c2, c3⟩ := ha
    split at c0
    · rename_i t u ht hu
      simp only [Bool.and_eq_true] at c0
      obtain ⟨c4, c5⟩ := c0
      split at c4
      · rename_i el he
        simp only [Bool.and_eq_true, beq_iff_eq] at c4
        obtain ⟨⟨⟨d1, d2⟩, d3⟩, d6⟩ := c4
        obtain ⟨w', v, Z', r1, r2⟩ := sound_appendS (P := P) (ty := ty) ht hu he d1 d2 d3 d6 c5 hz (ckOd_rep henv c2) (ckOd_rep henv c3) hi (od1 (by simp [LOp.ods]) (fun k o => ckOd_mu c2 k o))
        exact ⟨β, Z', w', v, .inl (by simp [execOp, resolve, invoke, builtin, r1]), r2, Keep.refl _ _⟩
      · simp at c4
    · simp at c0
  · -- mkslice
    rename_i sh bytes zs p q t y y'
    simp only [Bool.and_eq_true] at hck
    obtain ⟨⟨c0, c1⟩, c2⟩ := hck
    split at c0
    · rename_i el he
      simp only [Bool.and_eq_true, beq_iff_eq, decide_eq_true_eq] at c0
      obtain ⟨⟨⟨⟨d1, d2⟩, d3⟩, d4⟩, d5⟩ := c0
      split at d5
      · rename_i z hz
        simp only [Bool.and_eq_true, beq_iff_eq] at d5
        simp only [LOp.run] at hrun
        obtain ⟨w', v, β', r1, r2, r3⟩ := sound_mkslice (P := P) he d1 d2 d3 d4 hz d5.1 d5.2 hrun (ckOd_rep henv c1) (ckOd_rep henv c2) hi
        have hh : ∃ bx, h' = h ++ [bx] := by
          unfold mksliceA at hrun
          split at hrun
          · split at hrun
            · injection hrun with hrun; injection hrun with q1 q2; exact ⟨_, q2.symm⟩
            · simp at hrun
          · simp at hrun
        obtain ⟨bx, rfl⟩ := hh
        exact ⟨β', Z, w', v, .inl (by simp [execOp, r1]), r2, fun b hb => ⟨r3 b hb, fun hh => by rw [List.getElem?_append_left hb]; exact hh⟩⟩
      · simp at d5
    · simp at c0
  · -- copy
    rename_i sz p q args argTypes
    simp only [Bool.and_eq_true] at hck
    obtain ⟨c0, c1⟩ := hck
    have ha : ∃ y y', args = #[y, y'] ∧ ckOd p y = true ∧ ckOd q y' = true := by
      obtain ⟨l⟩ := args
      match l, c1 with
      | [y, y'], c1 => exact ⟨y, y', rfl, by simpa [ckOds] using c1⟩
      | [], c1 => simp [ckOds] at c1
      | [_], c1 => simp [ckOds] at c1
      | _ :: _ :: _ :: _, c1 => simp [ckOds] at c1
    obtain ⟨y, y', rfl, c2, c3⟩ := ha
    split at c0
    · rename_i t ht
      split at c0
      · rename_i el he
        simp only [Bool.and_eq_true, beq_iff_eq, decide_eq_true_eq] at c0
        obtain ⟨⟨d1, d2⟩, d3⟩ := c0
        simp only [LOp.run] at hrun
        obtain ⟨w', v, r1, r2⟩ := sound_copy (P := P) (ty := ty) ht he d1 d2 hrun (ckOd_rep henv c2) (ckOd_rep henv c3) hi
        refine ⟨β, Z, w', v, .inl (by simp [execOp, resolve, invoke, builtin, r1]), r2, fun b hb => ⟨rfl, fun hh => ?_⟩⟩
        unfold copyA at hrun
        split at hrun
        · rename_i b' off n sh tight own z ys _ _
          split at hrun
          · split at hrun
            · rename_i cs hcs
              split at hrun
              · injection hrun with hrun; injection hrun with q1 q2; subst q2
                have : b' ≠ b := by rintro rfl; rw [hh] at hcs; simp at hcs
                rw [List.getElem?_set_ne this]; exact hh
              · simp at hrun
            · simp at hrun
          · simp at hrun
        · simp at hrun
      · simp at c0
    · simp at c0
  · -- max
    rename_i p q args argTypes
    simp only [LOp.run] at hrun
    obtain ⟨z, hz, hrun⟩ := Option.map_eq_some_iff.1 hrun
    injection hrun with e1 e2; subst e1; subst e2
    have ha : ∃ y y', args = #[y, y'] ∧ ckOd p y = true ∧ ckOd q y' = true := by
      obtain ⟨l⟩ := args
      match l, hck with
      | [y, y'], c1 => exact ⟨y, y', rfl, by simpa [ckOds] using c1⟩
      | [], c1 => simp [ckOds] at c1
      | [_], c1 => simp [ckOds] at c1
      | _ :: _ :: _ :: _, c1 => simp [ckOds] at c1
    obtain ⟨y, y', rfl, c2, c3⟩ := ha
    obtain ⟨v, r1, r2, r3⟩ := sound_max2 (P := P) (w := w) (t := argTypes) (ty := ty) hz (ckOd_rep henv c2) (ckOd_rep henv c3)
    exact .val hi (by simp [execOp, resolve, invoke, builtin, r1]) r2 (fun k o => by rw [r3]; omega)
  · -- min
    rename_i p q args argTypes
    simp only [LOp.run] at hrun
    obtain ⟨z, hz, hrun⟩ := Option.map_eq_some_iff.1 hrun
    injection hrun with e1 e2; subst e1; subst e2
    have ha : ∃ y y', args = #[y, y'] ∧ ckOd p y = true ∧ ckOd q y' = true := by
      obtain ⟨l⟩ := args
      match l, hck with
      | [y, y'], c1 => exact ⟨y, y', rfl, by simpa [ckOds] using c1⟩
      | [], c1 => simp [ckOds] at c1
      | [_], c1 => simp [ckOds] at c1
      | _ :: _ :: _ :: _, c1 => simp [ckOds] at c1
    obtain ⟨y, y', rfl, c2, c3⟩ := ha
    obtain ⟨v, r1, r2, r3⟩ := sound_min2 (P := P) (w := w) (t := argTypes) (ty := ty) hz (ckOd_rep henv c2) (ckOd_rep henv c3)
    exact .val hi (by simp [execOp, resolve, invoke, builtin, r1]) r2 (fun k o => by rw [r3]; omega)
  · -- mkfn
    rename_i f caps g fs ys
    simp only [Bool.and_eq_true, beq_iff_eq] at hck
    obtain ⟨⟨rfl, c0⟩, c1⟩ := hck
    simp only [LOp.run] at hrun
    injection hrun with hrun; injection hrun with e1 e2; subst e1; subst e2
    obtain ⟨r1, r2⟩ := ckOds_rep (w := w) (β := β) (Z := Z) henv caps ys.toList c1
    have hfs : fs = #[] := by simpa using c0
    subst hfs
    refine .val hi (v := .func (.func f) #[] (ys.map a.eval)) (by simp [execOp, Instr.makeFunc]) (.fn f (by simpa using r1.1) (fun i h1 h2 => ?_)) (fun k o => by simp [mu])
    have := r1.2 i (by simpa using h1) h2
    simpa using this
  · simp at hck
end
end Go.Proofs.YtfihinodhhhllaaGreat
