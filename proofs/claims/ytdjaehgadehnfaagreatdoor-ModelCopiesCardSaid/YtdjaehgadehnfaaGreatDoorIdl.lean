/- Plain laws: calls that have an error, and those that only look, change nothing. No statement of the seat is proved here. -/
import Derived.Test.YtdjaehgadehnfaaGreatDoorRs
namespace Go.Proofs.YtdjaehgadehnfaaGreatDoor
set_option linter.unusedVariables false
set_option linter.unusedSimpArgs false
open Go.RowKit

def idleB (c : CL) (r : RP) : Bool := decide (r.err ≠ 0) || (decide (c.kind = 8) || (decide (c.kind = 16) || (decide (c.kind = 17) || decide (c.kind = 18))))
section
variable {ins : PS → Int → Int → Int → Bool} {S : PS} {c : CL} {w o : Wy}
theorem turn_err {ok : Bool} {g : List By → List By} (h : (turnS S w ok g).2.err ≠ 0) : (turnS S w ok g).1 = S := by
  revert h; unfold turnS
  (repeat' split) <;> intro h <;> first | rfl | exact absurd rfl h
theorem create_err (h : (createS S c w).2.err ≠ 0) : (createS S c w).1 = S := by
  revert h; unfold createS
  (repeat' split) <;> intro h <;> first | rfl | exact absurd rfl h
theorem op_err {k : Nat} (h : (opI ins S c w o k).2.err ≠ 0) : (opI ins S c w o k).1 = S := by
  revert h; unfold opI
  split
  · unfold makeS addS; intro h; exact absurd rfl h
  · unfold snapS addS; (repeat' split) <;> intro h <;> first | rfl | exact absurd rfl h
  · unfold freezeS; (repeat' split) <;> intro h <;> first | rfl | exact absurd rfl h
  · unfold removeS; (repeat' split) <;> intro h <;> first | rfl | exact absurd rfl h
  · exact create_err
  · exact create_err
  · exact turn_err
  · unfold readS; (repeat' split) <;> intro h <;> rfl
  · exact turn_err
  · exact turn_err
  · unfold shareS; (repeat' split) <;> intro h <;> first | rfl | exact turn_err h
  · unfold linkS; (repeat' split) <;> intro h <;> first | rfl | exact absurd rfl h
  · unfold unlinkS; (repeat' split) <;> intro h <;> first | rfl | exact absurd rfl h
  · unfold renameI; (repeat' split) <;> intro h <;> first | rfl | exact absurd rfl h
  · unfold unmakeS; (repeat' split) <;> intro h <;> first | rfl | exact absurd rfl h
  · unfold listS; (repeat' split) <;> intro h <;> rfl
  · unfold statS; (repeat' split) <;> intro h <;> rfl
  · unfold reapS; (repeat' split) <;> intro h <;> rfl
  · intro h; rfl
theorem read_same : (readS S c w).1 = S := by unfold readS; (repeat' split) <;> rfl
theorem list_same : (listS S w).1 = S := by unfold listS; (repeat' split) <;> rfl
theorem stat_same : (statS S w).1 = S := by unfold statS; (repeat' split) <;> rfl
theorem reap_same : (reapS S c).1 = S := by unfold reapS; (repeat' split) <;> rfl
theorem look_same {k : Nat} (h : k = 8 ∨ k = 16 ∨ k = 17 ∨ k = 18) : (opI ins S c w o k).1 = S := by
  rcases h with rfl | rfl | rfl | rfl
  · exact read_same
  · exact list_same
  · exact stat_same
  · exact reap_same
variable {part : Str → Option Wy}
theorem do_idle (h : idleB c (doI ins part S c).2 = true) : (doI ins part S c).1 = S := by
  unfold idleB at h
  simp only [Bool.or_eq_true, decide_eq_true_eq] at h
  rcases h with h | h
  · revert h; unfold doI
    (repeat' split) <;> intro h <;> first | rfl | exact op_err h
  · have hk : c.kind.toNat = 8 ∨ c.kind.toNat = 16 ∨ c.kind.toNat = 17 ∨ c.kind.toNat = 18 := by omega
    unfold doI
    (repeat' split) <;> first | rfl | exact look_same hk
/-- those that are not idle -/
theorem idle_run : ∀ (l : List CL) (S : PS), runI ins part S (((l.zip (runI ins part S l).2).filter fun z => !idleB z.1 z.2).map (·.1)) = ((runI ins part S l).1, ((l.zip (runI ins part S l).2).filter fun z => !idleB z.1 z.2).map (·.2))
  | [], S => rfl
  | c :: l, S => by
    rw [runI]
    simp only [List.zip_cons_cons, List.filter_cons]
    cases h : idleB c (doI ins part S c).2 with
    | true =>
      have h1 := do_idle h
      simp only [Bool.not_true, Bool.false_eq_true, if_false]
      rw [h1]
      exact idle_run l S
    | false =>
      simp only [Bool.not_false, if_true, List.map_cons]
      rw [runI, idle_run l (doI ins part S c).1]
end
end Go.Proofs.YtdjaehgadehnfaaGreatDoor
