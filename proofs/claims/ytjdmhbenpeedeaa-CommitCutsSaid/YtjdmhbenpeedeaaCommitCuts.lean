/- CommitCuts: a cut in phase 1 or 2 turns no superblock, and no table of the side of Gen; one in phase 3 is the commit's disk, its write being kept, or all of it but one block. Any pool, phase and marks. -/
import Derived.Test.YtjdmhbenpeedeaaOpenp
import Derived.Test.YtjdmhbenpeedeaaRows
import Derived.Test.YtjdmhbenpeedeaaCuts
import Derived.Lib.SmallJoins
namespace Go.Proofs.Ytjdmhbenpeedeaa
set_option linter.unusedVariables false
set_option linter.unusedSimpArgs false
open Go.ChangeShapes Go.WideShapes Go.ChangeAt Go.RowKit Go.Joins


set_option maxRecDepth 100000 in
theorem commitCuts_lifted (os : Os) (started : os.Started) (H : Type) (enc : TypeId × Value → H) :
    ReturnsInHanded {} Try.checked os 5 .any (Rows.commitCutsSpec.pre6 enc Try.prog Try.f5 Rows.commitCutsRow.domain false) (Rows.commitCutsSpec.post enc Try.prog Try.f5 false true false false) := by
  refine returnsInHanded_of_change (C := Try.checked) A.own started (by kernel_rfl) Try.func5
    (ChangeSpec.witness6 (enc := enc) (C := Try.checked) false ⟨#[], #[.agg #[.slice none 0 0, .slice none 0 0, .slice none 0 0, .slice none 0 0, .int .u32 0, .int .i64 0, .int .u32 0, .slice none 0 0], .int .i64 0, .slice none 0 0], []⟩ 8 (by kernel_rfl) (by kernel_rfl) (by kernel_rfl) (by kernel_rfl)) ?_
  intro W base args ds gs before hval0 hW hcnd _
  have hval : ∀ (j : Nat) t v, Try.f5.params[j]? = some t → args[j]? = some v → Value.okWide Try.prog W .any base t v := hval0
  have hW' := hW
  obtain ⟨p, q, hA0, hV, rfl, hfz, hnd⟩ := hW
  have hA : DataW.TrodAll enc Try.prog W 0 (fun _ => true) true Try.f5.params.toList args.toList ds p := hA0
  rw [Try.params5] at hA hval
  obtain ⟨v0, v1, v2, d0, d1, d2, p0, p1, p2, rfl, rfl, rfl, h0, h1, h2⟩ := trodAll_three hA
  obtain ⟨rfl, rfl⟩ := trodVars_none hV
  obtain ⟨q, hPT, hgen, hnxt⟩ := open_pool (hval 0 32 v0 rfl rfl) h0
  obtain ⟨x, e0, h5⟩ := hPT.five
  subst e0
  obtain ⟨phase, rfl, rfl, rfl, w1⟩ := open_int Try.underlying3 (hval 1 3 v1 rfl rfl) h1
  obtain ⟨keep, ka, kc, e2, hks⟩ := open_bools (hval 2 42 v2 rfl rfl) h2
  subst e2
  refine (ccuts_spec q x (memOf W) h5 hgen hnxt phase keep ka kc hks).run.mono fun e W' ⟨he, hb⟩ => ?_
  subst he
  exact ⟨_, rfl, law_post hW' (by kernel_rfl) rfl rfl rfl hb⟩

theorem commitCuts_holds : Rows.CommitCutsSaid :=
  OpenClaim.holds_of_wide 5 Try.f5 rfl rfl rfl rfl rfl rfl rfl ⟨rfl, rfl, rfl, rfl, rfl⟩ rfl rfl rfl rfl rfl (by kernel_rfl) Try.func5 (by kernel_rfl)
    (of_decide_eq_true (by kernel_rfl)) (by unfold Func.isWrapper; first | (rw [if_pos (by decide +kernel)]; kernel_rfl) | (rw [if_neg (by decide +kernel)]; exact ⟨rfl, rfl⟩))
    (fun os started H enc _ => commitCuts_lifted os started H enc)
end Go.Proofs.Ytjdmhbenpeedeaa
