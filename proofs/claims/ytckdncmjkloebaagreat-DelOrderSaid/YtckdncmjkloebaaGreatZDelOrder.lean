/- DelOrder: two items may be taken out in either order; what was taken out is gone; put in again, it leaves the items as they were. Any store, root and keys. -/
import Derived.Test.YtckdncmjkloebaaGreatZOpeni
import Derived.Test.YtckdncmjkloebaaGreatRows
import Derived.Test.YtckdncmjkloebaaGreatZDundoes
import Derived.Lib.SmallJoins
namespace Go.Proofs.YtckdncmjkloebaaGreat
set_option linter.unusedVariables false
set_option linter.unusedSimpArgs false
open Go.ChangeShapes Go.WideShapes Go.ChangeAt Go.RowKit Go.Joins
set_option maxRecDepth 100000 in
theorem delOrder_lifted (os : Os) (started : os.Started) (H : Type) (enc : TypeId × Value → H) :
  ReturnsInHanded {} Tryz.checked os 11 .any (Rows.delOrderSpec.pre6 enc Tryz.prog Tryz.f11 Rows.delOrderRow.domain false) (Rows.delOrderSpec.post enc Tryz.prog Tryz.f11 false true false false) := by
 refine returnsInHanded_of_change (C := Tryz.checked) A.own started (by kernel_rfl) Tryz.func11
  (ChangeSpec.witness6 (enc := enc) (C := Tryz.checked) false ⟨#[], #[.agg #[.slice none 0 0, .slice none 0 0, .slice none 0 0, .slice none 0 0], .int .i64 0, .agg #[.int .u8 0, .int .u32 0, .int .u32 0], .agg #[.int .u8 0, .int .u32 0, .int .u32 0]], []⟩ 8 (by kernel_rfl) (by kernel_rfl) (by kernel_rfl) (by kernel_rfl)) ?_
 intro W base args ds gs before hval0 hW hcnd _
 have hval : ∀ (j : Nat) t v, Tryz.f11.params[j]? = some t → args[j]? = some v → Value.okWide Tryz.prog W .any base t v := hval0
 have hW' := hW
 obtain ⟨p, q, hA0, hV, rfl, hfz, hnd⟩ := hW
 have hA : DataW.TrodAll enc Tryz.prog W 0 (fun _ => true) true Tryz.f11.params.toList args.toList ds p := hA0
 rw [Tryz.params11] at hA hval
 obtain ⟨v0, v1, v2, v3, d0, d1, d2, d3, p0, p1, p2, p3, rfl, rfl, rfl, h0, h1, h2, h3⟩ := trodAll_four hA
 obtain ⟨rfl, rfl⟩ := trodVars_none hV
 obtain ⟨s, hST⟩ := wKb (hval 0 28 v0 rfl rfl) h0
 obtain ⟨bv, wv, nv, lw, e0, _⟩ := id hST.ex
 subst e0
 obtain ⟨root, rfl, rfl, rfl, w1⟩ := open_int Tryz.underlying3 (hval 1 3 v1 rfl rfl) h1
 obtain ⟨q, rfl, hkq⟩ := wHe (hval 2 31 v2 rfl rfl) h2
 obtain ⟨p, rfl, hkp⟩ := wHe (hval 3 31 v3 rfl rfl) h3
 refine (dorder_walk s root q p bv wv nv lw (wMa W) hST hkq).run.mono fun e W' ⟨he, hb⟩ => ?_
 subst he
 exact ⟨_, rfl, law_post hW' (by kernel_rfl) rfl rfl rfl hb⟩
theorem delOrder_holds : Rows.DelOrderSaid :=
 OpenClaim.holds_of_wide 11 Tryz.f11 rfl rfl rfl rfl rfl rfl rfl ⟨rfl, rfl, rfl, rfl, rfl⟩ rfl rfl rfl rfl rfl (by kernel_rfl) Tryz.func11 (by kernel_rfl)
  (of_decide_eq_true (by kernel_rfl)) (by unfold Func.isWrapper; first | (rw [if_pos (by decide +kernel)]; kernel_rfl) | (rw [if_neg (by decide +kernel)]; exact ⟨rfl, rfl⟩))
  (fun os started H enc _ => delOrder_lifted os started H enc)
end Go.Proofs.YtckdncmjkloebaaGreat
