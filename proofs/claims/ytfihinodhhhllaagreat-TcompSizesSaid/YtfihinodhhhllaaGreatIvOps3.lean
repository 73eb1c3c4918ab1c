/- Addresses, slices, lengths and conversions: operations that leave the memory alone. -/
import Derived.Test.YtfihinodhhhllaaGreatIvOps2
import Derived.Laws.BytesString
set_option linter.unusedVariables false
set_option linter.unusedSimpArgs false
namespace Go.Proofs.YtfihinodhhhllaaGreat
open Go
section
variable {P : Program} {w : World} {β : Bt} {Z : Ct}

theorem isStr_spec {t : TypeId} (h : isStr P t = true) : P.underlying t = some .string := by
  unfold isStr at h
  split at h
  · assumption
  · simp at h
theorem isByte_spec {t : TypeId} (h : isByte P t = true) : P.underlying t = some (.int .u8) := by
  unfold isByte at h
  split at h
  · assumption
  · simp at h
theorem elemOf_spec {t e : TypeId} (h : elemOf? P t = some e) : P.underlying t = some (.slice e) := by
  unfold elemOf? at h
  split at h
  · injection h with h; subst h; assumption
  · simp at h
theorem fieldAt_spec {t : TypeId} {i : Nat} {f : Field} (h : fieldAt? P t i = some f) : ∃ fs, P.underlying t = some (.struct fs) ∧ fs[i]? = some f := by
  unfold fieldAt? at h
  split at h
  · exact ⟨_, by assumption, h⟩
  · simp at h

theorem sound_field {t : TypeId} {i off : Nat} {n : Option Nat} {f : Field} (hf : fieldAt? P t i = some f) (ho : f.offset = off) (hn : shapeN P f.type = some n) {cs : List AV} {x : AV} {v : Value} (hp : partA cs off n = some x) (hr : Rep w β Z v (.agg cs)) :
    ∃ u, (Instr.field t v i).run P w = .ok u w ∧ Rep w β Z u x ∧ ∀ k o, mu x u k o ≤ mu (.agg cs) v k o := by
  obtain ⟨fs, h1, h2⟩ := fieldAt_spec hf
  cases hr with
  | agg e1 e2 e3 =>
    rename_i xs
    obtain ⟨u, u1, u2, u3⟩ := sound_part (P := P) hn (RepL.of_agg e1 e3) e2 hp
    subst ho
    exact ⟨u, by simp [Instr.field, run_underlying h1, h2, asAgg, u1], u2, fun k o => by simpa [mu] using u3 k o⟩

theorem sound_faddr {t : TypeId} {i off : Nat} {f : Field} (hf : fieldAt? P t i = some f) (ho : f.offset = off) (hs : (P.info? f.type).isSome = true) (hz : P.cellsOf f.type ≠ 0) {b o : Nat} {v : Value} (hr : Rep w β Z v (.ptr b o)) :
    ∃ u, (Instr.fieldAt t v i).run P w = .ok u w ∧ Rep w β Z u (.ptr b (o + off)) := by
  obtain ⟨fs, h1, h2⟩ := fieldAt_spec hf
  cases hr with
  | ptr _ hb =>
    rename_i blk
    subst ho
    refine ⟨.pointer (some ⟨blk, o + f.offset, none⟩), ?_, .ptr _ hb⟩
    simp [Instr.fieldAt, run_underlying h1, h2, Instr.sureAddr, fieldPlace, run_sizeOf hs, hz, addr_add]

theorem sound_faddr_ep {t : TypeId} {i off : Nat} {f : Field} (hf : fieldAt? P t i = some f) (ho : f.offset = off) (hs : (P.info? f.type).isSome = true) (hz : P.cellsOf f.type ≠ 0) {x : AV} {o : Nat} {v : Value} (hr : Rep w β Z v (.ep x o)) :
    ∃ u, (Instr.fieldAt t v i).run P w = .ok u w ∧ Rep w β Z u (.ep x (o + off)) := by
  obtain ⟨fs, h1, h2⟩ := fieldAt_spec hf
  cases hr with
  | ep _ g q1 q2 q3 q4 =>
    rename_i blk o'
    subst ho
    refine ⟨.pointer (some ⟨blk, o' + (o + f.offset), none⟩), ?_, .ep _ g q1 q2 q3 q4⟩
    simp [Instr.fieldAt, run_underlying h1, h2, Instr.sureAddr, fieldPlace, run_sizeOf hs, hz, addr_add, Nat.add_assoc]

theorem asInt_rep {x : AV} {v : Value} {k : IntKind} {n : Int} (hx : x = .int k n) (hr : Rep w β Z v x) : v = .int k n := by
  subst hx; cases hr; rfl

theorem sound_iaddr {t : TypeId} {sz : Nat} {ln : Option Nat} (hc : (match P.underlying t, ln with
    | some (.slice e), none => (P.info? e).isSome && P.cellsOf e == sz
    | some (.array n e), some k => (P.info? e).isSome && P.cellsOf e == sz && n == k
    | _, _ => false) = true) {x i z : AV} {vx vi : Value} (h : iaddrA sz ln x i = some z) (hx : Rep w β Z vx x) (hi : Rep w β Z vi i) :
    ∃ u, (Instr.indexAt t vx vi).run P w = .ok u w ∧ Rep w β Z u z ∧ ∀ k o, mu z u k o = 0 := by
  unfold iaddrA at h
  split at h
  · cases hi
    rename_i k n
    split at h
    · -- a slice
      rename_i own z' els
      cases hu : P.underlying t with
      | none => simp [hu] at hc
      | some d =>
        cases d <;> simp [hu] at hc
        rename_i e
        obtain ⟨hinf, hsz⟩ := hc
        split at h
        · rename_i hn
          obtain ⟨hn, hz'⟩ := hn
          subst hz'
          obtain ⟨y, hy, rfl⟩ := Option.map_eq_some_iff.1 h
          have hlt : n.toNat < els.length := (List.getElem?_eq_some_iff.1 hy).1
          cases hx with
          | slz => simp at hlt
          | sl f q1 q2 qc q3 q4 q5 q6 q7 q8 =>
            rename_i a cap
            have hym : y ∈ els := List.mem_of_getElem? hy
            have hyl := q4 y hym
            have hfl := flat_length q4
            have hgl : ∀ j, j < z' → n.toNat * z' + j < (flat els).length := by
              intro j hj
              rw [hfl]
              calc n.toNat * z' + j < n.toNat * z' + z' := by omega
                _ = (n.toNat + 1) * z' := by rw [Nat.succ_mul]
                _ ≤ els.length * z' := Nat.mul_le_mul_right _ (by omega)
            have hg : ∀ j (hj : j < y.cells.length), (flat els)[n.toNat * z' + j]'(hgl j (by omega)) = y.cells[j] := by
              intro j hj
              have := flat_get q4 n.toNat j y hy (by omega)
              rw [List.getElem?_eq_getElem (hgl j (by omega)), List.getElem?_eq_getElem hj] at this
              exact Option.some.inj this
            refine ⟨.pointer (some ⟨a.block, (a.off + n.toNat * z') + 0, none⟩), ?_, ?_, fun _ _ => by simp [mu]⟩
            · have ha : a = ⟨a.block, a.off, none⟩ := by cases a; simp at q1; simp [q1]
              rw [ha]
              simp [Instr.indexAt, asIntOf, run_underlying hu, run_sizeOf hinf, hsz, hn, addr_add]
              omega
            · refine .ep 0 (fun j => f (n.toNat * z' + j)) (fun c hc => q5 c ?_) (fun j hj => ?_) (fun j hj => ?_) (fun j hj => ?_)
              · obtain ⟨j, hj, rfl⟩ := List.getElem_of_mem hc
                rw [← hg j hj]
                exact List.getElem_mem _
              · rw [Nat.add_assoc]; exact q6 _ (hgl j (by omega))
              · rw [Nat.add_assoc]; exact q7 _ (hgl j (by omega))
              · have := q8 _ (hgl j (by omega))
                rwa [hg j hj] at this
        · simp at h
    · -- a row
      rename_i b off m sh tight
      cases hu : P.underlying t with
      | none => simp [hu] at hc
      | some d =>
        cases d <;> simp [hu] at hc
        rename_i e
        obtain ⟨hinf, hsz⟩ := hc
        split at h
        · rename_i hn
          obtain ⟨hn, hn2, hz'⟩ := hn
          injection h with h
          subst h
          cases hx with
          | ms _ hb h0 h1 h2 =>
            rename_i blk cap
            refine ⟨.pointer (some ⟨blk, off + n.toNat * sz, none⟩), ?_, .ptr _ hb, fun _ _ => by simp [mu]⟩
            simp [Instr.indexAt, asIntOf, run_underlying hu, run_sizeOf hinf, hsz, hn, hn2, addr_add]
          | msz => omega
        · simp at h
    · -- an array
      rename_i k' b off
      cases hu : P.underlying t with
      | none => simp [hu] at hc
      | some d =>
        cases d <;> simp [hu] at hc
        rename_i n' e
        obtain ⟨⟨hinf, hsz⟩, rfl⟩ := hc
        split at h
        · rename_i hn
          injection h with h
          subst h
          cases hx with
          | ptr _ hb =>
            rename_i blk
            refine ⟨.pointer (some ⟨blk, off + n.toNat * sz, none⟩), ?_, .ptr _ hb, fun _ _ => by simp [mu]⟩
            simp [Instr.indexAt, asIntOf, run_underlying hu, Instr.sureAddr, run_sizeOf hinf, hsz, hn, addr_add]
        · simp at h
    · simp at h
  · simp at h

theorem sound_idx {t : TypeId} (ht : isStr P t = true) {x i z : AV} {vx vi : Value} (h : idxA x i = some z) (hx : Rep w β Z vx x) (hi : Rep w β Z vi i) :
    ∃ u, (Instr.index t vx vi).run P w = .ok u w ∧ Rep w β Z u z ∧ ∀ k o, mu z u k o = 0 := by
  have hu := isStr_spec ht
  unfold idxA at h
  split at h
  · cases hx; cases hi
    rename_i l k n
    split at h
    · rename_i hn
      obtain ⟨c, hc, rfl⟩ := Option.map_eq_some_iff.1 h
      refine ⟨.int .u8 c.toNat, ?_, .int _ _, fun _ _ => by simp [mu]⟩
      have hlt : n.toNat < l.length := (List.getElem?_eq_some_iff.1 hc).1
      have e : (⟨l.toArray⟩ : ByteArray)[n.toNat]? = some c := by
        have hlt' : n.toNat < (⟨l.toArray⟩ : ByteArray).size := hlt
        rw [getElem?_pos (⟨l.toArray⟩ : ByteArray) n.toNat hlt']
        have : l[n.toNat] = c := by rw [List.getElem?_eq_getElem hlt] at hc; exact Option.some.inj hc
        simp [← this]
        rfl
      simp [Instr.index, asIntOf, run_underlying hu, hn, e]
    · simp at h
  · simp at h

theorem sound_len {t ty : TypeId} {s : Bool} (ht : (if s then isStr P t else (elemOf? P t).isSome) = true) {x z : AV} {vx : Value} (h : lenA s x = some z) (hx : Rep w β Z vx x) :
    ∃ u, (Builtin.len_ #[t] ty #[vx]).run P w = .ok u w ∧ Rep w β Z u z ∧ ∀ k o, mu z u k o = 0 := by
  unfold lenA at h
  split at h
  · cases hx
    injection h with h; subst h
    rename_i l
    have hu := isStr_spec (by simpa using ht)
    exact ⟨_, by simp [Builtin.len_, run_underlying hu, goInt]; rfl, .int _ _, fun _ _ => by simp [mu]⟩
  · rename_i own sz els
    injection h with h; subst h
    simp only [Bool.false_eq_true, if_false] at ht
    obtain ⟨e, he⟩ := Option.isSome_iff_exists.1 ht
    have hu := elemOf_spec he
    cases hx with
    | slz => exact ⟨_, by simp [Builtin.len_, run_underlying hu, goInt], .int _ _, fun _ _ => by simp [mu]⟩
    | sl => exact ⟨_, by simp [Builtin.len_, run_underlying hu, goInt], .int _ _, fun _ _ => by simp [mu]⟩
  · injection h with h; subst h
    simp only [Bool.false_eq_true, if_false] at ht
    obtain ⟨e, he⟩ := Option.isSome_iff_exists.1 ht
    have hu := elemOf_spec he
    cases hx with
    | ms => exact ⟨_, by simp [Builtin.len_, run_underlying hu, goInt], .int _ _, fun _ _ => by simp [mu]⟩
    | msz => exact ⟨_, by simp [Builtin.len_, run_underlying hu, goInt], .int _ _, fun _ _ => by simp [mu]⟩
  · simp at h

theorem run_bound {x : AV} {v : Value} {y n : Nat} (code : BoundsCode) (h : asNat y x = some n) (hr : Rep w β Z v x) : (Instr.sliceBound v y code).run P w = .ok n w ∧ n ≤ y := by
  unfold asNat at h
  split at h
  · cases hr
    split at h
    · rename_i hc
      injection h with h
      subst h
      exact ⟨by simp [Instr.sliceBound, asIntOf, hc], by omega⟩
    · simp at h
  · simp at h

/-- Operands that may be left out. -/
inductive RepO (w : World) (β : Bt) (Z : Ct) : Option Value → Option AV → Prop
  | none : RepO w β Z none none
  | some {v : Value} {x : AV} (h : Rep w β Z v x) : RepO w β Z (some v) (some x)

theorem run_bound_le {x : AV} {v : Value} {y y' n : Nat} (code : BoundsCode) (h : asNat y x = some n) (hr : Rep w β Z v x) (hy : y ≤ y') : (Instr.sliceBound v y' code).run P w = .ok n w ∧ n ≤ y := by
  unfold asNat at h
  split at h
  · cases hr
    split at h
    · rename_i hc
      injection h with h
      subst h
      refine ⟨?_, by omega⟩
      unfold Instr.sliceBound
      simp only [asIntOf, Sem.run_bind, Sem.run_pure, Result.andThen_ok, Sem.run_ite]
      rw [if_pos ⟨hc.1, by omega⟩]
    · simp at h
  · simp at h

theorem run_bounds {isS : Bool} {len cap hb lb : Nat} {lo hi : Option AV} {vlo vhi : Option Value} (hlc : len ≤ cap) (hh : boundA len len hi = some hb) (hl : boundA hb 0 lo = some lb) (rlo : RepO w β Z vlo lo) (rhi : RepO w β Z vhi hi) :
    (Instr.sliceBounds isS len cap vlo vhi none).run P w = .ok (lb, hb, cap) w ∧ lb ≤ hb ∧ hb ≤ len := by
  unfold Instr.sliceBounds
  cases rhi with
  | none =>
    simp only [boundA] at hh
    injection hh with hh
    subst hh
    cases rlo with
    | none => simp only [boundA] at hl; injection hl with hl; subst hl; exact ⟨by simp, Nat.zero_le _, Nat.le_refl _⟩
    | some h =>
      simp only [boundA] at hl
      obtain ⟨r1, r2⟩ := run_bound (P := P) .sliceB hl h
      exact ⟨by simp [r1], r2, Nat.le_refl _⟩
  | some h =>
    simp only [boundA] at hh
    obtain ⟨r1, r2⟩ := run_bound_le (P := P) (if isS then .sliceAcap else .sliceAlen) hh h hlc
    cases rlo with
    | none => simp only [boundA] at hl; injection hl with hl; subst hl; exact ⟨by simp [r1], Nat.zero_le _, r2⟩
    | some h =>
      simp only [boundA] at hl
      obtain ⟨q1, q2⟩ := run_bound (P := P) .sliceB hl h
      exact ⟨by simp [r1, q1], q2, r2⟩

theorem extract_str (l : List UInt8) (b e : Nat) : (⟨l.toArray⟩ : ByteArray).extract b e = ⟨((l.take e).drop b).toArray⟩ := by
  apply ByteArray.ext
  rw [ByteArray.data_extract]
  apply Array.ext'
  simp [List.extract, List.drop_take]

theorem sound_slice {t : TypeId} {sz : Option Nat} (ht : (match sz with | none => isStr P t | some n => (match elemOf? P t with | some e => (P.info? e).isSome && P.cellsOf e == n | none => false)) = true) {x z : AV} {lo hi : Option AV} {vx : Value} {vlo vhi : Option Value}
    (h : sliceA sz x lo hi = some z) (hx : Rep w β Z vx x) (rlo : RepO w β Z vlo lo) (rhi : RepO w β Z vhi hi) :
    ∃ u, (Instr.sliceAt t vx vlo vhi none).run P w = .ok u w ∧ Rep w β Z u z ∧ ∀ k o, mu z u k o = 0 := by
  unfold sliceA at h
  split at h
  · cases hx
    rename_i l
    have hu := isStr_spec ht
    obtain ⟨hb, e1, h⟩ := Option.bind_eq_some_iff.1 h
    obtain ⟨lb, e2, h⟩ := Option.bind_eq_some_iff.1 h
    injection h with h; subst h
    obtain ⟨r1, r2, r3⟩ := run_bounds (P := P) (isS := false) (Nat.le_refl _) e1 e2 rlo rhi
    refine ⟨.string ⟨((l.take hb).drop lb).toArray⟩, ?_, .str _, fun _ _ => by simp [mu]⟩
    have hsz : (⟨l.toArray⟩ : ByteArray).size = l.length := rfl
    simp [Instr.sliceAt, Instr.slice, run_underlying hu, hsz, r1, extract_str]
  · rename_i sz' own z' els
    split at h
    · rename_i hz
      subst hz
      cases he : elemOf? P t with
      | none => simp [he] at ht
      | some e =>
        simp [he] at ht
        obtain ⟨hinf, hsz⟩ := ht
        have hu := elemOf_spec he
        obtain ⟨hb, e1, h⟩ := Option.bind_eq_some_iff.1 h
        obtain ⟨lb, e2, h⟩ := Option.bind_eq_some_iff.1 h
        injection h with h; subst h
        cases hx with
        | slz base cap _ _ ho =>
          obtain ⟨r1, r2, r3⟩ := run_bounds (P := P) (isS := true) (len := 0) (cap := cap) (Nat.zero_le _) (by simpa using e1) e2 rlo rhi
          have hb0 : hb = 0 := by simpa using r3
          subst hb0
          have lb0 : lb = 0 := by omega
          subst lb0
          refine ⟨.slice (if cap = 0 then base else base.map (·.add (0 * P.cellsOf e))) (0 - 0) (cap - 0), ?_, ?_, fun _ _ => by simp [mu]⟩
          · simp only [Instr.sliceAt, Instr.slice, Sem.run_bind, run_underlying hu, Result.andThen_ok, r1, run_sizeOf hinf, Sem.run_pure]
          · simp only [List.take_nil, List.drop_nil, Nat.sub_self]; exact .slz _ _ _ _ (by simp)
        | sl f q1 q2 qc q3 q4 q5 q6 q7 q8 =>
          rename_i a cap
          obtain ⟨r1, r2, r3⟩ := run_bounds (P := P) (isS := true) (len := els.length) (cap := cap) qc e1 e2 rlo rhi
          have ha : a = ⟨a.block, a.off, none⟩ := by cases a; simp at q1; simp [q1]
          refine ⟨.slice (if cap = lb then some a else (some a).map (·.add (lb * z'))) (hb - lb) (cap - lb), ?_, ?_, ?_⟩
          · simp only [Instr.sliceAt, Instr.slice, Sem.run_bind, run_underlying hu, Result.andThen_ok, r1, run_sizeOf hinf, Sem.run_pure, hsz]
          · by_cases hne : lb = hb
            · subst hne
              have : ((els.take lb).drop lb) = [] := by apply List.drop_of_length_le; simp; omega
              rw [this, Nat.sub_self]
              exact .slz _ _ _ _ (by simp)
            · have hlen : ((els.take hb).drop lb).length = hb - lb := by simp; omega
              rw [if_neg (by omega), ← hlen]
              simp only [Option.map_some]
              rw [ha, addr_add]
              have hfl : flat els = flat (els.take lb) ++ (flat ((els.take hb).drop lb) ++ flat (els.drop hb)) := by
                rw [← flat_append, ← flat_append]
                congr 1
                have h1 : els.take lb = (els.take hb).take lb := by rw [List.take_take]; congr 1; omega
                rw [h1, ← List.append_assoc, List.take_append_drop, List.take_append_drop]
              have hpre : (flat (els.take lb)).length = lb * z' := by
                rw [flat_length (fun x hx => q4 x (List.mem_of_mem_take hx))]
                simp only [List.length_take]
                rw [Nat.min_eq_left (by omega)]
              have hk : ∀ k, k < (flat ((els.take hb).drop lb)).length → lb * z' + k < (flat els).length := by
                intro k hk
                rw [hfl]
                simp only [List.length_append, hpre]
                omega
              have hg : ∀ k (h : k < (flat ((els.take hb).drop lb)).length), (flat els)[lb * z' + k]'(hk k h) = (flat ((els.take hb).drop lb))[k] := by
                intro k h
                have h1 : (flat els)[lb * z' + k]? = (flat ((els.take hb).drop lb))[k]? := by
                  rw [hfl, List.getElem?_append_right (by omega), hpre, show lb * z' + k - lb * z' = k by omega, List.getElem?_append_left h]
                rw [List.getElem?_eq_getElem (hk k h), List.getElem?_eq_getElem h] at h1
                exact Option.some.inj h1
              refine Rep.sl (a := ⟨a.block, a.off + lb * z', none⟩) (fun k => f (lb * z' + k)) rfl (fun h0 => ?_) (by omega) q3 (fun x hx => q4 x (List.mem_of_mem_take (List.mem_of_mem_drop hx))) (fun c hc => q5 c ?_) (fun k h => ?_) (fun k h => ?_) (fun k h => ?_)
              · rw [h0] at hlen; simp at hlen; omega
              · rw [hfl]; simp only [List.mem_append]; exact .inr (.inl hc)
              · rw [Nat.add_assoc]; exact q6 _ (hk k h)
              · rw [Nat.add_assoc]; exact q7 _ (hk k h)
              · have := q8 _ (hk k h)
                rwa [hg k h] at this
          · intro k o
            cases (els.take hb).drop lb <;> simp [mu]
    · simp at h
  · rename_i sz' b off n sh tight
    split at h
    · rename_i hz
      cases he : elemOf? P t with
      | none => simp [he] at ht
      | some e =>
        simp [he] at ht
        obtain ⟨hinf, hsz⟩ := ht
        have hu := elemOf_spec he
        obtain ⟨hb, e1, h⟩ := Option.bind_eq_some_iff.1 h
        obtain ⟨lb, e2, h⟩ := Option.bind_eq_some_iff.1 h
        injection h with h; subst h
        cases hx with
        | msz base hβ htt =>
          rename_i blk cap _
          obtain ⟨r1, r2, r3⟩ := run_bounds (P := P) (isS := true) (len := 0) (cap := cap) (Nat.zero_le _) e1 e2 rlo rhi
          have hb0 : hb = 0 := by omega
          subst hb0
          have lb0 : lb = 0 := by omega
          subst lb0
          refine ⟨.slice (if cap = 0 then base else base.map (·.add (0 * P.cellsOf e))) (0 - 0) (cap - 0), ?_, ?_, fun _ _ => by simp [mu]⟩
          · simp only [Instr.sliceAt, Instr.slice, Sem.run_bind, run_underlying hu, Result.andThen_ok, r1, run_sizeOf hinf, Sem.run_pure]
          · rw [Nat.sub_self]; exact .msz _ hβ (by simpa using htt)
        | ms _ hβ h0 hcap htt =>
          rename_i blk cap
          obtain ⟨r1, r2, r3⟩ := run_bounds (P := P) (isS := true) (len := n) (cap := cap) hcap e1 e2 rlo rhi
          refine ⟨.slice (if cap = lb then some ⟨blk, off, none⟩ else (some (⟨blk, off, none⟩ : Addr)).map (·.add (lb * sz'))) (hb - lb) (cap - lb), ?_, ?_, fun _ _ => by simp [mu]⟩
          · simp only [Instr.sliceAt, Instr.slice, Sem.run_bind, run_underlying hu, Result.andThen_ok, r1, run_sizeOf hinf, Sem.run_pure, hsz]
          · have htt' : (tight && hb == n) = true → cap - lb = hb - lb := by
              intro hh
              simp at hh
              have := htt hh.1
              omega
            by_cases hne : lb = hb
            · subst hne
              rw [Nat.sub_self] at htt' ⊢
              exact .msz _ hβ htt'
            · rw [if_neg (by omega)]
              simp only [Option.map_some, addr_add]
              exact .ms _ hβ (by omega) (by omega) htt'
    · simp at h
  · simp at h

theorem sound_conv {s t : TypeId} {k : IntKind} (hs : (P.underlying s).isSome = true) (ht : P.underlying t = some (.int k)) (k' : IntKind) (n : Int) : (convert s t (.int k' n)).run P w = .ok (.int k (k.wrap n)) w := by
  obtain ⟨d, hd⟩ := Option.isSome_iff_exists.1 hs
  unfold convert
  simp only [Sem.run_bind, run_underlying hd, run_underlying ht, Result.andThen_ok]
  cases d <;> simp [Conv.intToInt]
theorem sound_strStr {s t : TypeId} (hs : isStr P s = true) (ht : isStr P t = true) (b : ByteArray) : (convert s t (.string b)).run P w = .ok (.string b) w := by
  unfold convert
  simp [run_underlying (isStr_spec hs), run_underlying (isStr_spec ht)]

theorem sound_max2 {t : Array TypeId} {ty : TypeId} {x y z : AV} {vx vy : Value} (h : maxA x y = some z) (hx : Rep w β Z vx x) (hy : Rep w β Z vy y) :
    ∃ u, (Builtin.max_ t ty #[vx, vy]).run P w = .ok u w ∧ Rep w β Z u z ∧ ∀ k o, mu z u k o = 0 := by
  unfold maxA at h
  split at h
  · cases hx; cases hy
    split at h
    · rename_i hk; subst hk
      injection h with h; subst h
      exact ⟨_, by simp [Builtin.max_, Builtin.max2], .int _ _, fun _ _ => by simp [mu]⟩
    · simp at h
  · simp at h
theorem sound_min2 {t : Array TypeId} {ty : TypeId} {x y z : AV} {vx vy : Value} (h : minA x y = some z) (hx : Rep w β Z vx x) (hy : Rep w β Z vy y) :
    ∃ u, (Builtin.min_ t ty #[vx, vy]).run P w = .ok u w ∧ Rep w β Z u z ∧ ∀ k o, mu z u k o = 0 := by
  unfold minA at h
  split at h
  · cases hx; cases hy
    split at h
    · rename_i hk; subst hk
      injection h with h; subst h
      exact ⟨_, by simp [Builtin.min_, Builtin.min2], .int _ _, fun _ _ => by simp [mu]⟩
    · simp at h
  · simp at h

/-- A load that copies. -/
theorem sound_load {t : TypeId} {n : Option Nat} (hn : shapeN P t = some n) {h : Heap} {x a : AV} {va : Value} (hl : loadA h n a = some x) (ha : Rep w β Z va a)
    (hrow : ∀ (b : Nat) (cs : List AV) (blk : Nat), h[b]? = some (.row cs) → β b = some blk → ∀ j (hj : j < cs.length), ∃ v, w.cell? ⟨blk, j, none⟩ = some v ∧ Rep w β Z v cs[j])
    (hok : ∀ (b : Nat) (cs : List AV), h[b]? = some (.row cs) → ∀ c ∈ cs, c.cellOk = true) :
    ∃ v, (Instr.loadAt t va).run P w = .ok v w ∧ Rep w β Z v x ∧ (∀ (b off : Nat) (cs : List AV) (blk : Nat), a = .ptr b off → h[b]? = some (.row cs) → β b = some blk → ∀ k o, mu x v k o ≤ muL ((cs.drop off).take (n.getD 1)) (((cellsAt w blk cs.length).drop off).take (n.getD 1)) k o) := by
  have key : ∀ (blk o : Nat) (cs : List AV) (off : Nat) (f : Nat → Value), partA cs off n = some x → (∀ k, k < cs.length → w.cell? ⟨blk, o + k, none⟩ = some (f k)) → (∀ k (hk : k < cs.length), Rep w β Z (f k) cs[k]) → (∀ c ∈ cs, c.cellOk = true) →
      ∃ v, (loadVar t ⟨blk, o + off, none⟩).run P w = .ok v w ∧ Rep w β Z v x ∧ ∀ k o, mu x v k o ≤ muL ((cs.drop off).take (n.getD 1)) ((((List.range cs.length).map f).drop off).take (n.getD 1)) k o := by
    intro blk o cs off f hp hc hr hk
    cases n with
    | none =>
      simp only [partA] at hp
      obtain ⟨hlt, rfl⟩ := List.getElem?_eq_some_iff.1 hp
      refine ⟨f off, ?_, hr off hlt, fun k o => ?_⟩
      · have := run_loadVar (P := P) (w := w) hn blk (o + off) (fun _ => f off) (fun k hk => by simp at hk; subst hk; simpa using hc off hlt)
        simpa using this
      · have e1 : (cs.drop off).take 1 = [cs[off]] := by rw [List.drop_eq_getElem_cons hlt, List.take_succ_cons, List.take_zero]
        have e2 : (((List.range cs.length).map f).drop off).take 1 = [f off] := by rw [List.drop_eq_getElem_cons (by simpa using hlt), List.take_succ_cons, List.take_zero]; simp
        simp [e1, e2, muL]
    | some m =>
      simp only [partA] at hp
      split at hp
      · rename_i hle
        injection hp with hp; subst hp
        have hrun := run_loadVar (P := P) (w := w) hn blk (o + off) (fun k => f (off + k)) (fun k hk => by
          simp at hk
          rw [Nat.add_assoc]; exact hc _ (by omega))
        have hlist : ((List.range m).map fun k => f (off + k)) = (((List.range cs.length).map f).drop off).take m := by
          apply List.ext_getElem?
          intro i
          by_cases hi : i < m
          · rw [List.getElem?_take_of_lt hi, List.getElem?_drop, List.getElem?_map, List.getElem?_map, List.getElem?_range hi, List.getElem?_range (by omega)]
            rfl
          · rw [List.getElem?_eq_none (by simp; omega), List.getElem?_eq_none (by simp; omega)]
        refine ⟨_, hrun, ?_, fun k o => ?_⟩
        · simp only
          rw [hlist]
          have hrl : RepL w β Z ((List.range cs.length).map f) cs := ⟨by simp, fun i h1 h2 => by simpa using hr i h2⟩
          exact ((hrl.drop off).take m).agg (fun c hc => hk c (List.mem_of_mem_drop (List.mem_of_mem_take hc)))
        · simp [mu, hlist]
      · simp at hp
  unfold loadA at hl
  split at hl
  · rename_i b off
    split at hl
    · rename_i cs hcs
      cases ha with
      | ptr _ hb =>
        rename_i blk
        have hr0 := hrow b cs blk hcs hb
        obtain ⟨v, v1, v2, v3⟩ := key blk 0 cs off (fun j => (w.cell? ⟨blk, j, none⟩).getD Go.undef) hl (fun k hk => by
          obtain ⟨v, h1, h2⟩ := hr0 k hk
          simp [h1]) (fun k hk => by
          obtain ⟨v, h1, h2⟩ := hr0 k hk
          simpa [h1] using h2) (hok b cs hcs)
        refine ⟨v, by simpa [Instr.loadAt, Instr.sureAddr] using v1, v2, fun b' off' cs' blk' he hcs' hb' k o => ?_⟩
        injection he with e1 e2
        subst e1; subst e2
        rw [hcs] at hcs'; injection hcs' with hcs'; injection hcs' with hcs'; subst hcs'
        rw [hb] at hb'; injection hb' with hb'; subst hb'
        exact v3 k o
    · simp at hl
  · rename_i y off
    cases ha with
    | ep _ f q1 q2 q3 q4 =>
      rename_i blk o
      obtain ⟨v, v1, v2, v3⟩ := key blk o y.cells off f hl q2 q4 q1
      exact ⟨v, by simpa [Instr.loadAt, Instr.sureAddr] using v1, v2, fun b off cs blk he => by simp at he⟩
  · simp at hl
end
end Go.Proofs.YtfihinodhhhllaaGreat
