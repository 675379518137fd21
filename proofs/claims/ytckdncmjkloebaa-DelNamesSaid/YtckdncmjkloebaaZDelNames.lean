/- DelNames: the chapter's examples. No condition. -/
import Derived.Test.YtckdncmjkloebaaZOpen
import Derived.Test.YtckdncmjkloebaaRows
import Derived.Test.YtckdncmjkloebaaZDnames
import Derived.Lib.SmallJoins
namespace Go.Proofs.Ytckdncmjkloebaa
set_option linter.unusedVariables false
set_option linter.unusedSimpArgs false
open Go.ChangeShapes Go.WideShapes Go.ChangeAt Go.RowKit Go.Joins
set_option maxRecDepth 100000 in
theorem delNames_lifted (os : Os) (started : os.Started) (H : Type) (enc : TypeId × Value → H) :
  ReturnsInHanded {} Try.checked os 4 .any (Rows.delNamesSpec.pre6 enc Try.prog Try.f4 Rows.delNamesRow.domain false) (Rows.delNamesSpec.post enc Try.prog Try.f4 false true false false) := by
 refine returnsInHanded_of_change (C := Try.checked) A.own started (by kernel_rfl) Try.func4
  (ChangeSpec.witness6 (enc := enc) (C := Try.checked) false ⟨#[], #[], []⟩ 8 (by kernel_rfl) (by kernel_rfl) (by kernel_rfl) (by kernel_rfl)) ?_
 intro W base args ds gs before hval0 hW hcnd _
 have hval : ∀ (j : Nat) t v, Try.f4.params[j]? = some t → args[j]? = some v → Value.okWide Try.prog W .any base t v := hval0
 have hW' := hW
 obtain ⟨p, q, hA0, hV, rfl, hfz, hnd⟩ := hW
 have hA : DataW.TrodAll enc Try.prog W 0 (fun _ => true) true Try.f4.params.toList args.toList ds p := hA0
 rw [Try.params4] at hA hval
 obtain ⟨ha0, rfl, rfl⟩ := trodAll_nil hA
 have ha : args = #[] := by cases args; simp_all
 subst ha
 obtain ⟨rfl, rfl⟩ := trodVars_none hV
 refine (dnames_walk (memOf W)).run.mono fun e W' ⟨he, hb⟩ => ?_
 subst he
 exact ⟨_, rfl, law_post hW' (by kernel_rfl) rfl rfl rfl hb⟩
theorem delNames_holds : Rows.DelNamesSaid :=
 OpenClaim.holds_of_wide 4 Try.f4 rfl rfl rfl rfl rfl rfl rfl ⟨rfl, rfl, rfl, rfl, rfl⟩ rfl rfl rfl rfl rfl (by kernel_rfl) Try.func4 (by kernel_rfl)
  (of_decide_eq_true (by kernel_rfl)) (by unfold Func.isWrapper; first | (rw [if_pos (by decide +kernel)]; kernel_rfl) | (rw [if_neg (by decide +kernel)]; exact ⟨rfl, rfl⟩))
  (fun os started H enc _ => delNames_lifted os started H enc)
end Go.Proofs.Ytckdncmjkloebaa
