/- What every call keeps, whole. No statement of the seat is proved here. -/
import Derived.Test.YtdjaehgadehnfaaGreatDoorWf
import Derived.Test.YtdjaehgadehnfaaGreatDoorBytes
import Derived.Test.YtdjaehgadehnfaaGreatDoorRs
namespace Go.Proofs.YtdjaehgadehnfaaGreatDoor
set_option linter.unusedVariables false
set_option linter.unusedSimpArgs false
open Go.RowKit

def toCS (S : PS) : CS := { next := S.next, b := 0, mb := 0, mo := .map #[] 0, vols := S.vols.map fun p => (p.1, { frozen := p.2.frozen, next := p.2.next, b := 0, mb := 0, mo := .map #[] 0, files := p.2.files.map fun q => (q.1, { pf := q.2, b := 0, dv := .slice none 0 0, dR := [], nm := .map none, nR := [] }) }) }
theorem abs_toCS (S : PS) : (toCS S).abs = S := by
  obtain ⟨n, vols⟩ := S
  unfold toCS CS.abs
  simp only [List.map_map, PS.mk.injEq, true_and]
  refine (List.map_congr_left (g := id) fun p _ => ?_).trans (List.map_id _)
  obtain ⟨k, f, nx, fs⟩ := p
  simp only [Function.comp, CV.abs, absF, List.map_map, id, Prod.mk.injEq, PV.mk.injEq, true_and]
  exact (List.map_congr_left (g := id) fun q _ => rfl).trans (List.map_id _)
theorem lastN_mem {w : Wy} (h : w.2 ≠ []) : lastN w ∈ w.2 := by
  unfold lastN
  cases e : w.2.getLast? with
  | none => exact absurd (List.getLast?_eq_none_iff.1 e) h
  | some a => exact List.mem_of_getLast? e
theorem WFS.add {n : Nat} {S : PS} {v : PV} (h : WFS n S) (hv : WFV (n + 1) v) : WFS (n + 1) (addS S v).1 := by
  have hnx : getA (S.next + 1) S.vols = none := by
    cases hx : getA (S.next + 1) S.vols with
    | none => rfl
    | some x => have := (h.rng _ _ hx).2; omega
  have get : ∀ e, getA e (S.vols ++ [(S.next + 1, v)]) = if e = S.next + 1 then some v else getA e S.vols := fun e => by
    rw [← putA_new (getA_none.1 hnx), getA_put]
  have hl := h.low
  have hm := h.most
  unfold addS
  refine ⟨?_, by simp only; omega, by simp only; omega, fun k u hk => ?_, fun k u hk => ?_⟩
  · simp only
    rw [keysA, List.map_append]
    refine List.nodup_append.2 ⟨h.nd, by simp, fun a ha b hb => ?_⟩
    simp only [List.map_cons, List.map_nil, List.mem_singleton] at hb
    rw [hb]; intro e; exact getA_none.1 hnx (by rw [← e]; exact ha)
  · simp only at hk ⊢
    rw [get] at hk
    split at hk
    · omega
    · have := h.rng k u hk; omega
  · simp only at hk
    rw [get] at hk
    split at hk
    · cases hk; exact hv
    · exact (h.vol k u hk).more (Nat.le_succ n)
theorem WFV.root (n : Nat) : WFV (n + 1) { frozen := false, next := 2, files := [(1, { dir := true, links := 1, data := [], names := [] })] } := by
  have get : ∀ d x, getA d ([(1, ({ dir := true, links := 1, data := [], names := [] } : PF))] : Fls) = some x → d = 1 ∧ x = { dir := true, links := 1, data := [], names := [] } := fun d x h => by
    rw [getA] at h
    split at h
    · rename_i e; cases h; exact ⟨e, rfl⟩
    · cases h
  refine ⟨⟨⟨by simp [keysA], ⟨_, rfl, rfl⟩, fun d x s k h hs => ?_, fun d x h hx => ?_, fun d x h => ?_, ⟨fun _ => 0, fun d x s k y h hs => ?_⟩, fun d x h => ?_⟩, fun d x h => ?_, fun d x h hx => ?_⟩, by simp, by simp only; omega, fun d x h => ?_, fun d x q h hq => ?_⟩
  all_goals (obtain ⟨rfl, rfl⟩ := get _ _ h)
  · cases hs
  · cases hx
  · simp [keysA]
  · cases hs
  · simp
  · rfl
  · cases hx
  · simp only; omega
  · cases hq
theorem WFV.frz {n : Nat} {v : PV} (h : WFV n v) (b : Bool) : WFV n { v with frozen := b } := ⟨h.wf, h.two, h.most, h.rng, h.nmz⟩
theorem sized_le {b : List By} {n : Nat} (h : n ≤ 4096) : (sizedB b n).length ≤ 4096 := by rw [sizedB_len]; exact h
theorem write_le {k : Nat} {d b : List By} (h1 : k + d.length ≤ 4096) (h2 : b.length ≤ 4096) : (writeB k d b).length ≤ 4096 := by
  unfold writeB
  split
  · exact h2
  · rw [overB_len (by rw [sizedB_len]; omega), sizedB_len]; omega
section
variable {n : Nat} (S : CS) (h : WFS n S.abs) (c : CL) (w o : Wy)
include h
theorem turn_wfs (ok : Bool) (g : List By → List By) (hg : ok = true → ∀ b, b.length ≤ 4096 → (g b).length ≤ 4096) : WFS (n + 1) (turnS S.abs w ok g).1 := by
  unfold turnS
  cases hok : ok with
  | false => exact h.more (Nat.le_succ n)
  | true =>
    simp only [if_true]
    cases hw : fileS S.abs w with
    | error e => exact h.more (Nat.le_succ n)
    | ok id =>
      obtain ⟨v, x, hv, hx, hwv, hxd⟩ := fileS_ok h hw
      simp only
      split
      · exact h.more (Nat.le_succ n)
      · try dsimp only
        refine WFS.updVF (v := v.abs) h (by rw [absV_get, hv]; rfl) ?_
        exact hwv.data fun y hy => hg hok y.data (hwv.wf.len id y hy).1
theorem create_wfs (hw : ∀ s ∈ w.2, s.size ≤ 64) : WFS (n + 1) (createS S.abs c w).1 := by
  unfold createS
  cases hf : freshS S.abs w w.1 none with
  | error e => exact h.more (Nat.le_succ n)
  | ok d =>
    obtain ⟨hone, ho1, hop, v, xd, hv, hxd, hdd, hno, hlen⟩ := freshS_ok h hf
    have hva : getA w.1 S.abs.vols = some v.abs := by rw [absV_get, hv]; rfl
    simp only
    split
    · exact h.more (Nat.le_succ n)
    · rw [hva]
      simp only
      refine h.put hva ((h.vol _ _ hva).make (d := d) (xd := xd.pf) (decide (c.kind = 6)) (by show getA d (absF v.files) = _; rw [absF_get, hxd]; rfl) hdd hno ?_ (hw _ (lastN_mem hone)))
      rcases hlen with hlen | hlen
      · exact hlen
      · cases hlen
theorem link_wfs (ho : ∀ s ∈ o.2, s.size ≤ 64) : WFS (n + 1) (linkS S.abs w o).1 := by
  unfold linkS
  cases hw : fileS S.abs w with
  | error e => exact h.more (Nat.le_succ n)
  | ok id =>
    obtain ⟨v, x, hv, hx, hwv, hxd⟩ := fileS_ok h hw
    have hva : getA w.1 S.abs.vols = some v.abs := by rw [absV_get, hv]; rfl
    simp only
    cases hf : freshS S.abs o w.1 none with
    | error e => exact h.more (Nat.le_succ n)
    | ok d =>
      obtain ⟨hone, ho1, hop, v2, xd, hv2, hxd2, hdd, hno, hlen⟩ := freshS_ok h hf
      rw [ho1, hv] at hv2; cases hv2
      simp only
      split
      · exact h.more (Nat.le_succ n)
      · try dsimp only
        refine WFS.updVF h hva ?_
        refine hwv.link (d := d) (id := id) (xd := xd.pf) (x := x.pf) (by show getA d (absF v.files) = _; rw [absF_get, hxd2]; rfl) hdd hno ?_ (ho _ (lastN_mem hone)) (by show getA id (absF v.files) = _; rw [absF_get, hx]; rfl) hxd
        rcases hlen with hlen | hlen
        · exact hlen
        · cases hlen
theorem unlink_wfs : WFS (n + 1) (unlinkS S.abs w).1 := by
  unfold unlinkS
  cases hw : fileS S.abs w with
  | error e => exact h.more (Nat.le_succ n)
  | ok id =>
    obtain ⟨v, x, hv, hx, hwv, hxd⟩ := fileS_ok h hw
    have hva : getA w.1 S.abs.vols = some v.abs := by rw [absV_get, hv]; rfl
    obtain ⟨hne, d, v2, xd, hpl, hv2, hxd2, hdd, hl⟩ := file_place h hw
    rw [hv] at hv2; cases hv2
    simp only
    split
    · exact h.more (Nat.le_succ n)
    · rw [hpl]; simp only
      try dsimp only
      refine WFS.updVF h hva ?_
      exact hwv.unlink (d := d) (id := id) (xd := xd.pf) (x := x.pf) (by show getA d (absF v.files) = _; rw [absF_get, hxd2]; rfl) hl (by show getA id (absF v.files) = _; rw [absF_get, hx]; rfl) hxd
theorem rename_wfs (ho : ∀ s ∈ o.2, s.size ≤ 64) : WFS (n + 1) (renameI insB S.abs w o).1 := by
  unfold renameI
  split
  · exact h.more (Nat.le_succ n)
  · rename_i hne
    cases hw : walkS S.abs w.1 w.2 with
    | error e => exact h.more (Nat.le_succ n)
    | ok id =>
      obtain ⟨v, x, hv, hx, hwv⟩ := walk_ok h hw
      have hva : getA w.1 S.abs.vols = some v.abs := by rw [absV_get, hv]; rfl
      obtain ⟨d, v2, xd, hpl, hv2, hxd, hdd, hl⟩ := walk_place h hne hw
      rw [hv] at hv2; cases hv2
      simp only
      rw [hpl]; simp only
      cases hf : freshS S.abs o w.1 (some d) with
      | error e => exact h.more (Nat.le_succ n)
      | ok t =>
        obtain ⟨hone, ho1, hop, v2, xt, hv2, hxt, htd, hno, hlen⟩ := freshS_ok h hf
        rw [ho1, hv] at hv2; cases hv2
        simp only
        split
        · exact h.more (Nat.le_succ n)
        · rename_i hins
          split
          · exact h.more (Nat.le_succ n)
          · try dsimp only
            refine WFS.updVF h hva ?_
            refine hwv.move (d := d) (t := t) (id := id) (xd := xd.pf) (xt := xt.pf) (x := x.pf) (by show getA d (absF v.files) = _; rw [absF_get, hxd]; rfl) hl (by show getA id (absF v.files) = _; rw [absF_get, hx]; rfl) (by show getA t (absF v.files) = _; rw [absF_get, hxt]; rfl) htd hno ?_ (ho _ (lastN_mem hone)) fun hxd2 hi => hins ?_
            · rcases hlen with hlen | hlen
              · exact .inl hlen
              · cases hlen; exact .inr rfl
            · have h1 : isDir S.abs w.1 id = true := by rw [isDir_abs hv hx]; exact hxd2
              have h2 : insB S.abs w.1 t id = true := by unfold insB; rw [hva]; exact insD_yes hi
              rw [h1, h2]; rfl
theorem unmake_wfs : WFS (n + 1) (unmakeS S.abs w).1 := by
  unfold unmakeS
  cases hw : walkS S.abs w.1 w.2 with
  | error e => exact h.more (Nat.le_succ n)
  | ok id =>
    obtain ⟨v, x, hv, hx, hwv⟩ := walk_ok h hw
    have hva : getA w.1 S.abs.vols = some v.abs := by rw [absV_get, hv]; rfl
    simp only
    rw [isDir_abs hv hx]
    split
    · rename_i hd
      split
      · exact h.more (Nat.le_succ n)
      · rename_i hne
        split
        · exact h.more (Nat.le_succ n)
        · have hne1 : w.2 ≠ [] := fun e => hne (.inl e)
          have hl0 : x.pf.names = [] := by
            have h1 : ¬ 0 < (namesAt S.abs w.1 id).length := fun e => hne (.inr e)
            unfold namesAt at h1; rw [fileAt_abs hv hx] at h1
            exact List.eq_nil_of_length_eq_zero (by simp only at h1; omega)
          obtain ⟨d, v2, xd, hpl, hv2, hxd, hdd, hl⟩ := walk_place h hne1 hw
          rw [hv] at hv2; cases hv2
          rw [hpl]; simp only
          try dsimp only
          refine WFS.updVF h hva ?_
          exact hwv.unmake (d := d) (id := id) (xd := xd.pf) (x := x.pf) (by show getA d (absF v.files) = _; rw [absF_get, hxd]; rfl) hl (by show getA id (absF v.files) = _; rw [absF_get, hx]; rfl) hd hl0
    · exact h.more (Nat.le_succ n)
theorem same_wfs {r : PS × RP} (e : r.1 = S.abs) : WFS (n + 1) r.1 := by rw [e]; exact h.more (Nat.le_succ n)
theorem op_wfs (hw : ∀ s ∈ w.2, s.size ≤ 64) (ho : ∀ s ∈ o.2, s.size ≤ 64) (k : Nat) : WFS (n + 1) (opI insB S.abs c w o k).1 := by
  unfold opI
  split
  · exact h.add (WFV.root n)
  · unfold snapS
    split
    · cases hv : getA c.a S.abs.vols with
      | none => exact h.more (Nat.le_succ n)
      | some v => exact h.add (((h.vol _ _ hv).more (Nat.le_succ n)).frz _)
    · exact h.more (Nat.le_succ n)
  · unfold freezeS
    split
    · cases hv : getA c.a S.abs.vols with
      | none => exact h.more (Nat.le_succ n)
      | some v => exact h.put hv (((h.vol _ _ hv).more (Nat.le_succ n)).frz _)
    · exact h.more (Nat.le_succ n)
  · unfold removeS
    cases hv : getA c.a S.abs.vols with
    | none => exact h.more (Nat.le_succ n)
    | some v =>
      have back : ∀ k u, getA k (delA c.a S.abs.vols) = some u → getA k S.abs.vols = some u := fun k u hk => by
        rw [getA_del] at hk
        split at hk
        · cases hk
        · exact hk
      exact ⟨delA_nodup h.nd, h.low, by have := h.most; simp only; omega, fun k u hk => h.rng k u (back k u hk), fun k u hk => (h.vol k u (back k u hk)).more (Nat.le_succ n)⟩
  · exact create_wfs S h c w hw
  · exact create_wfs S h c w hw
  · unfold writeS
    refine turn_wfs S h w _ _ fun hok b hb => write_le ?_ hb
    simp only [Bool.and_eq_true, decide_eq_true_eq] at hok
    omega
  · refine same_wfs S h ?_
    unfold readS
    split
    · split <;> rfl
    · rfl
  · unfold sizeS inI
    refine turn_wfs S h w _ _ fun hok b hb => sized_le ?_
    simp only [Bool.and_eq_true, decide_eq_true_eq] at hok
    omega
  · unfold punchS
    exact turn_wfs S h w _ _ fun hok b hb => by rw [punch_len]; exact hb
  · unfold shareS
    split
    · rename_i hok
      unfold shareOk at hok
      simp only [Bool.and_eq_true, decide_eq_true_eq] at hok
      cases hw2 : fileS S.abs w with
      | error e => exact h.more (Nat.le_succ n)
      | ok id =>
        refine turn_wfs S h o _ _ fun _ b hb => write_le ?_ hb
        rw [List.length_take, List.length_drop, sizedB_len]; omega
    · exact h.more (Nat.le_succ n)
  · exact link_wfs S h w o ho
  · exact unlink_wfs S h w
  · exact rename_wfs S h w o ho
  · exact unmake_wfs S h w
  · refine same_wfs S h ?_
    unfold listS
    split
    · rfl
    · split <;> rfl
  · refine same_wfs S h ?_
    unfold statS
    split
    · rfl
    · split <;> rfl
  · refine same_wfs S h ?_
    unfold reapS
    split <;> rfl
  · exact h.more (Nat.le_succ n)
end
theorem partF_names {s : Str} {w : Wy} (h : partF s = some w) : ∀ t ∈ w.2, okName t = true := by
  unfold partF partL at h
  split at h
  · split at h
    · split at h
      · split at h
        · cases h
        · split at h
          · rename_i h2
            cases h
            exact List.all_eq_true.1 h2.2.2.2
          · cases h
      · cases h
    · cases h
  · cases h
theorem okName_size {t : Str} (h : okName t = true) : t.size ≤ 64 := by
  unfold okName at h
  simp only [Bool.and_eq_true, decide_eq_true_eq] at h
  omega
theorem do_wfs {n : Nat} {S : PS} (h : WFS n S) (c : CL) : WFS (n + 1) (doI insB partF S c).1 := by
  rw [← abs_toCS S] at h ⊢
  unfold doI
  split
  · exact h.more (Nat.le_succ n)
  · split
    · exact op_wfs _ h c _ _ (fun s hs => by cases hs) (fun s hs => by cases hs) _
    · cases hp : partF c.path with
      | none => exact h.more (Nat.le_succ n)
      | some w =>
        have hw : ∀ s ∈ w.2, s.size ≤ 64 := fun s hs => okName_size (partF_names hp s hs)
        simp only
        split
        · exact op_wfs _ h c _ _ hw (fun s hs => by cases hs) _
        · cases hp2 : partF c.other with
          | none => exact h.more (Nat.le_succ n)
          | some o =>
            exact op_wfs _ h c _ _ hw (fun s hs => okName_size (partF_names hp2 s hs)) _
theorem run_wfs : ∀ (l : List CL) {n : Nat} {S : PS} (h : WFS n S), WFS (n + l.length) (runI insB partF S l).1
  | [], n, S, h => h
  | c :: l, n, S, h => by
    have := run_wfs l (do_wfs h c)
    rw [runI, List.length_cons, show n + (l.length + 1) = n + 1 + l.length by omega]
    exact this
theorem play_wfs (l : List CL) (k : Nat) (hk : k ≤ l.length) : WFS k (runI insB partF PS0 (l.take k)).1 := by
  have := run_wfs (l.take k) WFS.zero
  rw [List.length_take, Nat.zero_add, Nat.min_eq_left hk] at this
  exact this
end Go.Proofs.YtdjaehgadehnfaaGreatDoor
