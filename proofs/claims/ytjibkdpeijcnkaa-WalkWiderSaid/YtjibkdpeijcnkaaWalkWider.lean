/- WalkWider: what is between two keys is among what is between wider ones, in the same order; blocks rise, the root among them, each one a block that counts. Any store, root and four keys. -/
import Derived.Test.YtjibkdpeijcnkaaOpen
import Derived.Test.YtjibkdpeijcnkaaRows
import Derived.Test.YtjibkdpeijcnkaaWider
import Derived.Lib.SmallJoins
namespace Go.Proofs.Ytjibkdpeijcnkaa
set_option linter.unusedVariables false
set_option linter.unusedSimpArgs false
open Go.ChangeShapes Go.WideShapes Go.ChangeAt Go.RowKit Go.Joins


set_option maxRecDepth 100000 in
theorem walkWider_lifted (os : Os) (started : os.Started) (H : Type) (enc : TypeId × Value → H) :
    ReturnsInHanded {} Try.checked os 6 .any (Rows.walkWiderSpec.pre6 enc Try.prog Try.f6 Rows.walkWiderRow.domain false) (Rows.walkWiderSpec.post enc Try.prog Try.f6 false true false false) := by
  refine returnsInHanded_of_change (C := Try.checked) A.own started (by kernel_rfl) Try.func6
    (ChangeSpec.witness6 (enc := enc) (C := Try.checked) false ⟨#[], #[.agg #[.slice none 0 0, .slice none 0 0, .slice none 0 0, .slice none 0 0], .int .i64 0, .agg #[.int .u8 0, .int .u32 0, .int .u32 0], .agg #[.int .u8 0, .int .u32 0, .int .u32 0], .agg #[.int .u8 0, .int .u32 0, .int .u32 0], .agg #[.int .u8 0, .int .u32 0, .int .u32 0]], []⟩ 8 (by kernel_rfl) (by kernel_rfl) (by kernel_rfl) (by kernel_rfl)) ?_
  intro W base args ds gs before hval0 hW hcnd _
  have hval : ∀ (j : Nat) t v, Try.f6.params[j]? = some t → args[j]? = some v → Value.okWide Try.prog W .any base t v := hval0
  have hW' := hW
  obtain ⟨p, q, hA0, hV, rfl, hfz, hnd⟩ := hW
  have hA : DataW.TrodAll enc Try.prog W 0 (fun _ => true) true Try.f6.params.toList args.toList ds p := hA0
  rw [Try.params6] at hA hval
  obtain ⟨v0, v1, v2, v3, v4, v5, d0, d1, d2, d3, d4, d5, p0, p1, p2, p3, p4, p5, rfl, rfl, rfl, h0, h1, h2, h3, h4, h5⟩ := trodAll_six hA
  obtain ⟨rfl, rfl⟩ := trodVars_none hV
  obtain ⟨s, hST⟩ := open_store (hval 0 28 v0 rfl rfl) h0
  obtain ⟨bv, wv, nv, lw, e0, _⟩ := id hST.ex
  subst e0
  obtain ⟨root, rfl, rfl, rfl, w1⟩ := open_int Try.underlying3 (hval 1 3 v1 rfl rfl) h1
  obtain ⟨a, e2⟩ := open_key (hval 2 31 v2 rfl rfl) h2
  subst e2
  obtain ⟨b, e3⟩ := open_key (hval 3 31 v3 rfl rfl) h3
  subst e3
  obtain ⟨c, e4⟩ := open_key (hval 4 31 v4 rfl rfl) h4
  subst e4
  obtain ⟨d, e5⟩ := open_key (hval 5 31 v5 rfl rfl) h5
  subst e5
  refine (wwider_walk s root a b c d bv wv nv lw (memOf W) hST).run.mono fun e W' ⟨he, hb⟩ => ?_
  subst he
  exact ⟨_, rfl, law_post hW' (by kernel_rfl) rfl rfl rfl hb⟩

theorem walkWider_holds : Rows.WalkWiderSaid :=
  OpenClaim.holds_of_wide 6 Try.f6 rfl rfl rfl rfl rfl rfl rfl ⟨rfl, rfl, rfl, rfl, rfl⟩ rfl rfl rfl rfl rfl (by kernel_rfl) Try.func6 (by kernel_rfl)
    (of_decide_eq_true (by kernel_rfl)) (by unfold Func.isWrapper; first | (rw [if_pos (by decide +kernel)]; kernel_rfl) | (rw [if_neg (by decide +kernel)]; exact ⟨rfl, rfl⟩))
    (fun os started H enc _ => walkWider_lifted os started H enc)
end Go.Proofs.Ytjibkdpeijcnkaa
