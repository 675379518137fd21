/- Plain facts for the calls on names. No statement of the seat is proved here. -/
import Derived.Test.YtdjaehgadehnfaaGreatDoorInside
namespace Go.Proofs.YtdjaehgadehnfaaGreatDoor
set_option linter.unusedVariables false
set_option linter.unusedSimpArgs false
open Go.RowKit Go.MapKept

theorem setV_get {S : CS} {vol : Int} {v' : CV} : getA vol (S.setV vol v').vols = some v' := by unfold CS.setV; simp only; rw [getA_put, if_pos rfl]
theorem setX_getV {S : CS} {vol id : Int} {v : CV} {x' : CF} (hv : getA vol S.vols = some v) : getA vol (S.setX vol id x').vols = some (v.setX id x') := by rw [setX_is hv]; exact setV_get
theorem setX_get {v : CV} {id : Int} {x' : CF} : getA id (v.setX id x').files = some x' := by unfold CV.setX; simp only; rw [getA_put, if_pos rfl]
theorem setX_other {v : CV} {id k : Int} {x' : CF} (h : k ≠ id) : getA k (v.setX id x').files = getA k v.files := by unfold CV.setX; simp only; rw [getA_put, if_neg h]
theorem setX_b {S : CS} {vol id : Int} {x' : CF} : (S.setX vol id x').b = S.b := by unfold CS.setX; split <;> rfl
theorem setX_mb {S : CS} {vol id : Int} {x' : CF} : (S.setX vol id x').mb = S.mb := by unfold CS.setX; split <;> rfl
theorem Vw.sAt {M : Mem} {L : Lc} {S : CS} {b mb : Nat} (h : Vw M L S.own) (hb : S.b = b) (hmb : S.mb = mb) : OJ M L b (.cells [.int .i64 S.next, .map (some mb)].toArray 58 (0, 0)) := by subst hb; subst hmb; exact h.s
theorem Vw.xAt {M : Mem} {L : Lc} {cf : CF} {b : Nat} (h : Vw M L cf.own) (hb : cf.b = b) : OJ M L b (fObj cf) := by subst hb; exact h.x
theorem Vw.moAt {M : Mem} {L : Lc} {S : CS} {mb : Nat} (h : Vw M L S.own) (hmb : S.mb = mb) : OJ M L mb S.mo := by subst hmb; exact h.mo
theorem putA_put {α : Type} {k : Int} {u v : α} : ∀ {l : List (Int × α)}, putA k v (putA k u l) = putA k v l
  | [] => by simp [putA]
  | p :: l => by
    rw [putA]
    by_cases h : k = p.1
    · rw [if_pos h, putA, putA, if_pos rfl, if_pos h]
    · rw [if_neg h, putA, putA, if_neg h, if_neg h, putA_put]
theorem abs_fileDel {S : CS} {vol id : Int} {v : CV} {mo' : Obj} (hv : getA vol S.vols = some v) : (S.setV vol { v with mo := mo', files := delA id v.files }).abs = updVF S.abs vol (delA id) :=
  abs_upd (v := v) (v' := { v with mo := mo', files := delA id v.files }) hv rfl rfl (by unfold absF; exact delA_map (fun x : CF => x.pf))
theorem CS.Ok.fileDel {S : CS} (h : S.Ok) {vol id : Int} {v : CV} {mo' : Obj} (hv : getA vol S.vols = some v) (hmo : MapOf kU mo' (ptF (delA id v.files))) : (S.setV vol { v with mo := mo', files := delA id v.files }).Ok :=
  h.setV (v' := { v with mo := mo', files := delA id v.files }) hv rfl ⟨hmo, fun p hp => (h.v hv).fs p (List.mem_filter.1 hp).1⟩
theorem updVF_comp {S : PS} {vol : Int} {f g : Fls → Fls} : updVF (updVF S vol f) vol g = updVF S vol fun fs => g (f fs) := by
  unfold updVF updV
  cases h : getA vol S.vols with
  | none => simp only; rw [h]
  | some v => simp only; rw [getA_put, if_pos rfl]; simp only; rw [putA_put]
theorem freshS_err {n : Nat} {S : PS} (h : WFS n S) {w : Wy} {vol : Int} {old : Option Int} {e : Int} (hw : freshS S w vol old = .error e) : e ≠ 0 := by
  unfold freshS at hw
  split at hw
  · cases hw; decide
  · split at hw
    · rename_i e' he; cases hw; have := placeS_err h he; omega
    · split at hw
      · split at hw
        · cases hw; decide
        · split at hw
          · cases hw; decide
          · cases hw
      · cases hw; decide
theorem freshS_ok {n : Nat} {S : CS} (h : WFS n S.abs) {w : Wy} {vol : Int} {old : Option Int} {d : Int} (hw : freshS S.abs w vol old = .ok d) : w.2 ≠ [] ∧ w.1 = vol ∧ placeS S.abs w = .ok d ∧ ∃ v x, getA w.1 S.vols = some v ∧ getA d v.files = some x ∧ x.pf.dir = true ∧ getA (lastN w) x.pf.names = none ∧ (x.pf.names.length < 32 ∨ old = some d) := by
  unfold freshS at hw
  split at hw
  · cases hw
  · rename_i hne
    split at hw
    · cases hw
    · rename_i d' hd'
      obtain ⟨v, x, h1, h2, h3, h4⟩ := placeS_ok h hd'
      rw [namesAt_abs h1 h2] at hw
      split at hw
      · rename_i hvol
        split at hw
        · cases hw
        · rename_i hno
          split at hw
          · cases hw
          · rename_i hlen
            cases hw
            refine ⟨hne, hvol, hd', v, x, h1, h2, h4, ?_, ?_⟩
            · cases hg : getA (lastN w) x.pf.names with
              | none => rfl
              | some k => rw [hg] at hno; simp at hno
            · by_cases hl : 32 ≤ x.pf.names.length
              · exact .inr (Classical.byContradiction fun h => hlen ⟨hl, h⟩)
              · exact .inl (by omega)
      · cases hw
theorem walkN_snoc {fs : Fls} {s : Str} : ∀ (l : List Str) (a : Int), walkN fs a (l ++ [s]) = match walkN fs a l with
    | .error e => .error e
    | .ok d => match getA d fs with
      | none => .error 0
      | some x => if x.dir then (match getA s x.names with
        | some k => .ok k
        | none => .error 6) else .error 240
  | [], a => by
    show walkN fs a [s] = _
    rw [walkN, walkN]
    simp only
    cases getA a fs with
    | none => rfl
    | some x => rfl
  | t :: l, a => by
    rw [List.cons_append, walkN, walkN]
    cases getA a fs with
    | none => rfl
    | some x =>
      simp only
      split
      · cases getA t x.names with
        | none => rfl
        | some k => exact walkN_snoc l k
      · rfl
theorem split_last {l : List Str} (h : l ≠ []) : l = l.dropLast ++ [l.getLast?.getD .empty] := by
  rw [List.getLast?_eq_some_getLast h]; exact (List.dropLast_concat_getLast h).symm
/-- the place of what is reached -/
theorem walk_place {n : Nat} {S : CS} (h : WFS n S.abs) {w : Wy} {id : Int} (hne : w.2 ≠ []) (hw : walkS S.abs w.1 w.2 = .ok id) : ∃ d v xd, placeS S.abs w = .ok d ∧ getA w.1 S.vols = some v ∧ getA d v.files = some xd ∧ xd.pf.dir = true ∧ getA (lastN w) xd.pf.names = some id := by
  have hsp := split_last hne
  cases hv : getA w.1 S.vols with
  | none => unfold walkS at hw; rw [absV_get, hv] at hw; cases hw
  | some v =>
    have hs : ∀ l, walkS S.abs w.1 l = walkN (absF v.files) 1 l := fun l => by unfold walkS; rw [absV_get, hv]; rfl
    rw [hs, hsp, walkN_snoc] at hw
    cases hd : walkN (absF v.files) 1 w.2.dropLast with
    | error e => rw [hd] at hw; cases hw
    | ok d =>
      rw [hd] at hw
      simp only at hw
      cases hx : getA d v.files with
      | none => rw [absF_get, hx] at hw; cases hw
      | some xd =>
        rw [absF_get, hx] at hw
        simp only [Option.map_some] at hw
        split at hw
        · rename_i hdir
          cases hk : getA (w.2.getLast?.getD .empty) xd.pf.names with
          | none => rw [hk] at hw; cases hw
          | some k =>
            rw [hk] at hw; cases hw
            refine ⟨d, v, xd, ?_, rfl, hx, hdir, hk⟩
            unfold placeS; rw [hs, hd]; simp only; rw [isDir_abs hv hx, hdir]; rfl
        · cases hw
theorem walk_root {n : Nat} {S : CS} (h : WFS n S.abs) {w : Wy} {id : Int} (he : w.2 = []) (hw : walkS S.abs w.1 w.2 = .ok id) : isDir S.abs w.1 id = true := by
  rw [he] at hw
  obtain ⟨v, x, hv, hx, hwv⟩ := walk_ok h hw
  unfold walkS at hw; rw [absV_get, hv] at hw
  simp only [Option.map_some] at hw
  have h1 : id = 1 := by unfold walkN at hw; cases hw; rfl
  obtain ⟨r, hr, hd⟩ := hwv.wf.root
  have : getA id (absF v.files) = some r := by rw [h1]; exact hr
  rw [absF_get, hx] at this
  simp only [Option.map_some, Option.some.injEq] at this
  rw [isDir_abs hv hx, this]; exact hd
theorem fileS_walk {S : PS} {w : Wy} {id : Int} (h : fileS S w = .ok id) : walkS S w.1 w.2 = .ok id ∧ isDir S w.1 id = false := by
  unfold fileS at h
  split at h
  · cases h
  · rename_i k hk
    split at h
    · cases h
    · rename_i hd; cases h; exact ⟨hk, by simpa using hd⟩
theorem file_place {n : Nat} {S : CS} (h : WFS n S.abs) {w : Wy} {id : Int} (hw : fileS S.abs w = .ok id) : w.2 ≠ [] ∧ ∃ d v xd, placeS S.abs w = .ok d ∧ getA w.1 S.vols = some v ∧ getA d v.files = some xd ∧ xd.pf.dir = true ∧ getA (lastN w) xd.pf.names = some id := by
  obtain ⟨h1, h2⟩ := fileS_walk hw
  have hne : w.2 ≠ [] := fun e => by have := walk_root h e h1; rw [h2] at this; cases this
  exact ⟨hne, walk_place h hne h1⟩
theorem frozen_abs {S : CS} {vol : Int} {v : CV} (hv : getA vol S.vols = some v) : frozenS S.abs vol = v.frozen := by unfold frozenS; rw [absV_get, hv]; rfl
theorem linksAt_abs {v : CV} {id : Int} {x : CF} (hx : getA id v.files = some x) : linksAt (absF v.files) id = x.pf.links := by unfold linksAt; rw [absF_get, hx]; rfl
end Go.Proofs.YtdjaehgadehnfaaGreatDoor
