/- Plain laws: calls on one volume leave another one, and look at no other. No statement of the seat is proved here. -/
import Derived.Test.YtdjaehgadehnfaaGreatDoorWg
namespace Go.Proofs.YtdjaehgadehnfaaGreatDoor
set_option linter.unusedVariables false
set_option linter.unusedSimpArgs false
open Go.RowKit

def onB (c : CL) (id : Int) : Bool := match partF c.path with
  | none => false
  | some w => decide (w.1 = id) && (decide (5 ≤ c.kind) && decide (c.kind ≤ 17)) && (if c.kind = 11 ∨ c.kind = 12 ∨ c.kind = 14 then (match partF c.other with
    | none => false
    | some o => decide (o.1 = id)) else true)
theorem getA_updVF {S : PS} {vol k : Int} {f : Fls → Fls} : getA k (updVF S vol f).vols = if k = vol then (getA k S.vols).map (fun v => { v with files := f v.files }) else getA k S.vols := by
  unfold updVF updV
  cases h : getA vol S.vols with
  | none =>
    simp only
    split
    · rename_i e; rw [e, h]; rfl
    · rfl
  | some v =>
    simp only
    rw [getA_put]
    split
    · rename_i e; rw [e, h]; rfl
    · rfl
section
variable {S T : PS} {vol : Int} (h : getA vol S.vols = getA vol T.vols)
include h
theorem walk_eq (n : List Str) : walkS S vol n = walkS T vol n := by unfold walkS; rw [h]
theorem fileAt_eq (id : Int) : fileAt S vol id = fileAt T vol id := by unfold fileAt; rw [h]
theorem isDir_eq (id : Int) : isDir S vol id = isDir T vol id := by unfold isDir; rw [fileAt_eq h]
theorem namesAt_eq (id : Int) : namesAt S vol id = namesAt T vol id := by unfold namesAt; rw [fileAt_eq h]
theorem dataAt_eq (id : Int) : dataAt S vol id = dataAt T vol id := by unfold dataAt; rw [fileAt_eq h]
theorem frozen_eq : frozenS S vol = frozenS T vol := by unfold frozenS; rw [h]
theorem ins_eq (t d : Int) : insB S vol t d = insB T vol t d := by unfold insB; rw [h]
theorem place_eq (n : List Str) : placeS S (vol, n) = placeS T (vol, n) := by
  unfold placeS; simp only; rw [walk_eq h]
  cases walkS T vol n.dropLast with
  | error e => rfl
  | ok id => simp only; rw [isDir_eq h]
theorem fileS_eq (n : List Str) : fileS S (vol, n) = fileS T (vol, n) := by
  unfold fileS; simp only; rw [walk_eq h]
  cases walkS T vol n with
  | error e => rfl
  | ok id => simp only; rw [isDir_eq h]
theorem fresh_eq (n : List Str) (v : Int) (old : Option Int) : freshS S (vol, n) v old = freshS T (vol, n) v old := by
  unfold freshS; rw [place_eq h]
  split
  · rfl
  · split
    · rfl
    · simp only [namesAt_eq h]
theorem upd_eq (f : Fls → Fls) : getA vol (updVF S vol f).vols = getA vol (updVF T vol f).vols := by rw [getA_updVF, getA_updVF, if_pos rfl, if_pos rfl, h]
def SameO (a b : PS × RP) (vol : Int) : Prop := a.2 = b.2 ∧ getA vol a.1.vols = getA vol b.1.vols
omit h in
theorem SameO.mk {S T : PS} {r : RP} {vol : Int} (h : getA vol S.vols = getA vol T.vols) : SameO (S, r) (T, r) vol := ⟨rfl, h⟩
theorem turn_same (n : List Str) (ok : Bool) (g : List By → List By) : SameO (turnS S (vol, n) ok g) (turnS T (vol, n) ok g) vol := by
  unfold turnS
  rw [fileS_eq h]
  split
  · split
    · exact .mk h
    · rw [frozen_eq h]
      split
      · exact .mk h
      · exact ⟨rfl, upd_eq h _⟩
  · exact .mk h
theorem create_same (c : CL) (n : List Str) : SameO (createS S c (vol, n)) (createS T c (vol, n)) vol := by
  unfold createS
  rw [fresh_eq h]
  split
  · exact .mk h
  · rw [frozen_eq h]
    split
    · exact .mk h
    · simp only
      rw [h]
      split
      · exact .mk h
      · refine ⟨rfl, ?_⟩
        simp only; rw [getA_put, getA_put, if_pos rfl, if_pos rfl]
theorem read_eq (c : CL) (n : List Str) : SameO (readS S c (vol, n)) (readS T c (vol, n)) vol := by
  unfold readS
  rw [fileS_eq h]
  split
  · split
    · exact .mk h
    · simp only; rw [dataAt_eq h]; exact .mk h
  · exact .mk h
theorem share_same (c : CL) (n m : List Str) : SameO (shareS S c (vol, n) (vol, m)) (shareS T c (vol, n) (vol, m)) vol := by
  unfold shareS
  rw [fileS_eq h]
  split
  · split
    · exact .mk h
    · simp only; rw [dataAt_eq h]; exact turn_same h _ _ _
  · exact .mk h
theorem link_same (n m : List Str) : SameO (linkS S (vol, n) (vol, m)) (linkS T (vol, n) (vol, m)) vol := by
  unfold linkS
  rw [fileS_eq h]
  split
  · exact .mk h
  · simp only; rw [fresh_eq h]
    split
    · exact .mk h
    · rw [frozen_eq h]
      split
      · exact .mk h
      · exact ⟨rfl, upd_eq h _⟩
theorem unlink_same (n : List Str) : SameO (unlinkS S (vol, n)) (unlinkS T (vol, n)) vol := by
  unfold unlinkS
  rw [fileS_eq h]
  split
  · exact .mk h
  · simp only; rw [frozen_eq h]
    split
    · exact .mk h
    · rw [place_eq h]
      split
      · exact .mk h
      · exact ⟨rfl, upd_eq h _⟩
theorem rename_same (n m : List Str) : SameO (renameI insB S (vol, n) (vol, m)) (renameI insB T (vol, n) (vol, m)) vol := by
  unfold renameI
  split
  · exact .mk h
  · simp only; rw [walk_eq h]
    split
    · exact .mk h
    · rw [place_eq h]
      split
      · exact .mk h
      · rw [fresh_eq h]
        split
        · exact .mk h
        · rw [isDir_eq h, ins_eq h, frozen_eq h]
          split
          · exact .mk h
          · split
            · exact .mk h
            · exact ⟨rfl, upd_eq h _⟩
theorem unmake_same (n : List Str) : SameO (unmakeS S (vol, n)) (unmakeS T (vol, n)) vol := by
  unfold unmakeS
  simp only; rw [walk_eq h]
  split
  · exact .mk h
  · rw [isDir_eq h, namesAt_eq h, frozen_eq h, place_eq h]
    split
    · split
      · exact .mk h
      · split
        · exact .mk h
        · split
          · exact .mk h
          · exact ⟨rfl, upd_eq h _⟩
    · exact .mk h
theorem list_eq (n : List Str) : SameO (listS S (vol, n)) (listS T (vol, n)) vol := by
  unfold listS
  simp only; rw [walk_eq h]
  split
  · exact .mk h
  · rw [isDir_eq h, namesAt_eq h]
    split
    · exact .mk h
    · exact .mk h
theorem stat_eq (n : List Str) : SameO (statS S (vol, n)) (statS T (vol, n)) vol := by
  unfold statS
  simp only; rw [walk_eq h]
  split
  · exact .mk h
  · rw [fileAt_eq h]
    split
    · exact .mk h
    · exact .mk h
end
theorem onB_cases {c : CL} {id : Int} (h : onB c id = true) : ∃ n, partF c.path = some (id, n) ∧ 5 ≤ c.kind ∧ c.kind ≤ 17 ∧ ((c.kind = 11 ∨ c.kind = 12 ∨ c.kind = 14) → ∃ m, partF c.other = some (id, m)) := by
  unfold onB at h
  split at h
  · cases h
  · rename_i w hw
    simp only [Bool.and_eq_true, decide_eq_true_eq] at h
    obtain ⟨⟨h1, h2, h3⟩, h4⟩ := h
    refine ⟨w.2, by rw [hw, ← h1], h2, h3, fun hk => ?_⟩
    rw [if_pos hk] at h4
    split at h4
    · cases h4
    · rename_i o ho
      exact ⟨o.2, by rw [ho, ← of_decide_eq_true h4]⟩
theorem doI_one {ins : PS → Int → Int → Int → Bool} {S : PS} {c : CL} {w : Wy} {k : Nat} (hk : c.kind = k) (h : 1 ≤ k ∧ k ≤ 18) (hp : partF c.path = some w) (h1 : pathsOf k = 1) : doI ins partF S c = opI ins S c w (0, []) k := by
  unfold doI
  rw [if_neg (by omega), show c.kind.toNat = k by omega, if_neg (by omega), hp]; simp only
  rw [if_pos h1]
theorem doI_two {ins : PS → Int → Int → Int → Bool} {S : PS} {c : CL} {w o : Wy} {k : Nat} (hk : c.kind = k) (h : 1 ≤ k ∧ k ≤ 18) (hp : partF c.path = some w) (hp2 : partF c.other = some o) (h1 : pathsOf k = 2) : doI ins partF S c = opI ins S c w o k := by
  unfold doI
  rw [if_neg (by omega), show c.kind.toNat = k by omega, if_neg (by omega), hp]; simp only
  rw [if_neg (by omega), hp2]
theorem on_same {S T : PS} {c : CL} {id : Int} (h : getA id S.vols = getA id T.vols) (hc : onB c id = true) : SameO (doI insB partF S c) (doI insB partF T c) id := by
  obtain ⟨n, h1, h2, h3, h4⟩ := onB_cases hc
  have hk : c.kind = 5 ∨ c.kind = 6 ∨ c.kind = 7 ∨ c.kind = 8 ∨ c.kind = 9 ∨ c.kind = 10 ∨ c.kind = 11 ∨ c.kind = 12 ∨ c.kind = 13 ∨ c.kind = 14 ∨ c.kind = 15 ∨ c.kind = 16 ∨ c.kind = 17 := by omega
  rcases hk with e | e | e | e | e | e | e | e | e | e | e | e | e
  · rw [doI_one (k := 5) e (by omega) h1 rfl, doI_one (k := 5) e (by omega) h1 rfl]; exact create_same h _ _
  · rw [doI_one (k := 6) e (by omega) h1 rfl, doI_one (k := 6) e (by omega) h1 rfl]; exact create_same h _ _
  · rw [doI_one (k := 7) e (by omega) h1 rfl, doI_one (k := 7) e (by omega) h1 rfl]; exact turn_same h _ _ _
  · rw [doI_one (k := 8) e (by omega) h1 rfl, doI_one (k := 8) e (by omega) h1 rfl]; exact read_eq h _ _
  · rw [doI_one (k := 9) e (by omega) h1 rfl, doI_one (k := 9) e (by omega) h1 rfl]; exact turn_same h _ _ _
  · rw [doI_one (k := 10) e (by omega) h1 rfl, doI_one (k := 10) e (by omega) h1 rfl]; exact turn_same h _ _ _
  · obtain ⟨m, hm⟩ := h4 (by omega)
    rw [doI_two (k := 11) e (by omega) h1 hm rfl, doI_two (k := 11) e (by omega) h1 hm rfl]; exact share_same h _ _ _
  · obtain ⟨m, hm⟩ := h4 (by omega)
    rw [doI_two (k := 12) e (by omega) h1 hm rfl, doI_two (k := 12) e (by omega) h1 hm rfl]; exact link_same h _ _
  · rw [doI_one (k := 13) e (by omega) h1 rfl, doI_one (k := 13) e (by omega) h1 rfl]; exact unlink_same h _
  · obtain ⟨m, hm⟩ := h4 (by omega)
    rw [doI_two (k := 14) e (by omega) h1 hm rfl, doI_two (k := 14) e (by omega) h1 hm rfl]; exact rename_same h _ _
  · rw [doI_one (k := 15) e (by omega) h1 rfl, doI_one (k := 15) e (by omega) h1 rfl]; exact unmake_same h _
  · rw [doI_one (k := 16) e (by omega) h1 rfl, doI_one (k := 16) e (by omega) h1 rfl]; exact list_eq h _
  · rw [doI_one (k := 17) e (by omega) h1 rfl, doI_one (k := 17) e (by omega) h1 rfl]; exact stat_eq h _
/-- what is done on a volume leaves the others -/
theorem turn_other {S : PS} {w : Wy} {ok : Bool} {g : List By → List By} {k : Int} (hk : k ≠ w.1) : getA k (turnS S w ok g).1.vols = getA k S.vols := by
  unfold turnS
  (repeat' split) <;> first | rfl | (simp only; rw [getA_updVF, if_neg hk])
theorem create_other {S : PS} {c : CL} {w : Wy} {k : Int} (hk : k ≠ w.1) : getA k (createS S c w).1.vols = getA k S.vols := by
  unfold createS
  (repeat' split) <;> first | rfl | (simp only; rw [getA_put, if_neg hk])
theorem op_other {S : PS} {c : CL} {n m : List Str} {vol k : Int} {kd : Nat} (hk : k ≠ vol) (h5 : 5 ≤ kd) (h17 : kd ≤ 17) : getA k (opI insB S c (vol, n) (vol, m) kd).1.vols = getA k S.vols := by
  have hh : kd = 5 ∨ kd = 6 ∨ kd = 7 ∨ kd = 8 ∨ kd = 9 ∨ kd = 10 ∨ kd = 11 ∨ kd = 12 ∨ kd = 13 ∨ kd = 14 ∨ kd = 15 ∨ kd = 16 ∨ kd = 17 := by omega
  rcases hh with rfl | rfl | rfl | rfl | rfl | rfl | rfl | rfl | rfl | rfl | rfl | rfl | rfl
  · exact create_other hk
  · exact create_other hk
  · exact turn_other hk
  · show getA k (readS S c _).1.vols = _; unfold readS; (repeat' split) <;> rfl
  · exact turn_other hk
  · exact turn_other hk
  · show getA k (shareS S c _ _).1.vols = _; unfold shareS; (repeat' split) <;> first | rfl | exact turn_other hk
  · show getA k (linkS S _ _).1.vols = _; unfold linkS; (repeat' split) <;> first | rfl | (simp only; rw [getA_updVF, if_neg hk])
  · show getA k (unlinkS S _).1.vols = _; unfold unlinkS; (repeat' split) <;> first | rfl | (simp only; rw [getA_updVF, if_neg hk])
  · show getA k (renameI insB S _ _).1.vols = _; unfold renameI; (repeat' split) <;> first | rfl | (simp only; rw [getA_updVF, if_neg hk])
  · show getA k (unmakeS S _).1.vols = _; unfold unmakeS; (repeat' split) <;> first | rfl | (simp only; rw [getA_updVF, if_neg hk])
  · show getA k (listS S _).1.vols = _; unfold listS; (repeat' split) <;> rfl
  · show getA k (statS S _).1.vols = _; unfold statS; (repeat' split) <;> rfl
theorem on_other {S : PS} {c : CL} {id k : Int} (hk : k ≠ id) (hc : onB c id = true) : getA k (doI insB partF S c).1.vols = getA k S.vols := by
  obtain ⟨n, h1, h2, h3, h4⟩ := onB_cases hc
  have hh : c.kind = 5 ∨ c.kind = 6 ∨ c.kind = 7 ∨ c.kind = 8 ∨ c.kind = 9 ∨ c.kind = 10 ∨ c.kind = 11 ∨ c.kind = 12 ∨ c.kind = 13 ∨ c.kind = 14 ∨ c.kind = 15 ∨ c.kind = 16 ∨ c.kind = 17 := by omega
  rcases hh with e | e | e | e | e | e | e | e | e | e | e | e | e
  · rw [doI_one (k := 5) e (by omega) h1 rfl]; exact op_other (c := c) (m := []) (kd := 5) hk (by omega) (by omega)
  · rw [doI_one (k := 6) e (by omega) h1 rfl]; exact op_other (c := c) (m := []) (kd := 6) hk (by omega) (by omega)
  · rw [doI_one (k := 7) e (by omega) h1 rfl]; exact op_other (c := c) (m := []) (kd := 7) hk (by omega) (by omega)
  · rw [doI_one (k := 8) e (by omega) h1 rfl]; exact op_other (c := c) (m := []) (kd := 8) hk (by omega) (by omega)
  · rw [doI_one (k := 9) e (by omega) h1 rfl]; exact op_other (c := c) (m := []) (kd := 9) hk (by omega) (by omega)
  · rw [doI_one (k := 10) e (by omega) h1 rfl]; exact op_other (c := c) (m := []) (kd := 10) hk (by omega) (by omega)
  · obtain ⟨m, hm⟩ := h4 (by omega)
    rw [doI_two (k := 11) e (by omega) h1 hm rfl]; exact op_other (c := c) (kd := 11) hk (by omega) (by omega)
  · obtain ⟨m, hm⟩ := h4 (by omega)
    rw [doI_two (k := 12) e (by omega) h1 hm rfl]; exact op_other (c := c) (kd := 12) hk (by omega) (by omega)
  · rw [doI_one (k := 13) e (by omega) h1 rfl]; exact op_other (c := c) (m := []) (kd := 13) hk (by omega) (by omega)
  · obtain ⟨m, hm⟩ := h4 (by omega)
    rw [doI_two (k := 14) e (by omega) h1 hm rfl]; exact op_other (c := c) (kd := 14) hk (by omega) (by omega)
  · rw [doI_one (k := 15) e (by omega) h1 rfl]; exact op_other (c := c) (m := []) (kd := 15) hk (by omega) (by omega)
  · rw [doI_one (k := 16) e (by omega) h1 rfl]; exact op_other (c := c) (m := []) (kd := 16) hk (by omega) (by omega)
  · rw [doI_one (k := 17) e (by omega) h1 rfl]; exact op_other (c := c) (m := []) (kd := 17) hk (by omega) (by omega)
theorem run_other {id k : Int} (hk : k ≠ id) : ∀ {l : List CL} {S : PS}, (∀ c ∈ l, onB c id = true) → getA k (runI insB partF S l).1.vols = getA k S.vols
  | [], S, _ => rfl
  | c :: l, S, h => by
    rw [runI]
    exact (run_other hk (fun d hd => h d (List.mem_cons_of_mem _ hd))).trans (on_other hk (h c (List.mem_cons_self ..)))
theorem run_same {id : Int} : ∀ {l : List CL} {S T : PS}, getA id S.vols = getA id T.vols → (∀ c ∈ l, onB c id = true) → (runI insB partF S l).2 = (runI insB partF T l).2
  | [], S, T, _, _ => rfl
  | c :: l, S, T, h, hc => by
    obtain ⟨e1, e2⟩ := on_same h (hc c (List.mem_cons_self ..))
    rw [runI, runI, e1, run_same e2 fun d hd => hc d (List.mem_cons_of_mem _ hd)]
/-- a snapshot's number -/
theorem snap_id {n : Nat} {S : PS} (h : WFS n S) {c : CL} (hk : c.kind = 2) (ha : c.a = 1) (hb : inI c.b 0 1 = true) (he : (doI insB partF S c).2.err = 0) : (doI insB partF S c).2.id = S.next + 1 ∧ 1 ≤ S.next ∧ ∃ v, getA 1 S.vols = some v ∧ getA (S.next + 1) (doI insB partF S c).1.vols = some { v with frozen := decide (c.b = 1) } := by
  have e : doI insB partF S c = snapS S c := by
    unfold doI
    rw [if_neg (by omega), show c.kind.toNat = 2 by omega]; rfl
  rw [e] at he ⊢
  unfold snapS at he ⊢
  rw [if_pos hb, ha] at he ⊢
  cases hv : getA 1 S.vols with
  | none => rw [hv] at he; cases he
  | some v =>
    have hr := h.rng 1 v hv
    have hnx : getA (S.next + 1) S.vols = none := by
      cases hx : getA (S.next + 1) S.vols with
      | none => rfl
      | some x => have := (h.rng _ _ hx).2; omega
    refine ⟨rfl, hr.2, v, rfl, ?_⟩
    unfold addS
    simp only
    rw [← putA_new (getA_none.1 hnx), getA_put, if_pos rfl]
end Go.Proofs.YtdjaehgadehnfaaGreatDoor
