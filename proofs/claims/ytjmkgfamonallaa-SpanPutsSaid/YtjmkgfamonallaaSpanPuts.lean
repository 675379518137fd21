/- SpanPuts lifted. -/
import Derived.Test.YtjmkgfamonallaaLift
import Derived.Test.YtjmkgfamonallaaRows
import Derived.Test.YtjmkgfamonallaaSpanG
import Derived.Lib.SmallJoins
namespace Go.Proofs.Ytjmkgfamonallaa
open Go.ChangeShapes Go.WideShapes Go.ChangeAt Go.RowKit Go.Joins

set_option maxRecDepth 100000 in
theorem spanPuts_lifted (os : Os) (started : os.Started) (H : Type) (enc : TypeId × Value → H) :
    ReturnsInHanded {} Try.checked os 6 .any (Rows.spanPutsSpec.pre6 enc Try.prog Try.f6 Rows.spanPutsRow.domain false) (Rows.spanPutsSpec.post enc Try.prog Try.f6 false true false false) := by
  refine returnsInHanded_of_change (C := Try.checked) A.own started (by kernel_rfl) Try.func6
    (ChangeSpec.witness6 (enc := enc) (C := Try.checked) false ⟨#[], #[.slice none 0 0, .agg #[.int .i64 0, .int .i64 0, .int .i64 0], .slice none 0 0], []⟩ 8 (by kernel_rfl) (by kernel_rfl) (by kernel_rfl) (by kernel_rfl)) ?_
  intro W base args ds gs before hval0 hW hcnd _
  have hval : ∀ (j : Nat) t v, Try.f6.params[j]? = some t → args[j]? = some v → Value.okWide Try.prog W .any base t v := hval0
  have hW' := hW
  obtain ⟨p, q, hA0, hV, rfl, hfz, hnd⟩ := hW
  have hA : DataW.TrodAll enc Try.prog W 0 (fun _ => true) true Try.f6.params.toList args.toList ds p := hA0
  rw [Try.params6] at hA hval
  obtain ⟨v0, v1, v2, d0, d1, d2, p0, p1, p2, rfl, rfl, rfl, h0, h1, h2⟩ := trodAll_three hA
  obtain ⟨rfl, rfl⟩ := trodVars_none hV
  obtain ⟨sa, c, xs, rfl, hs⟩ := open_bytes Try.underlying41 Try.underlying5 (by kernel_rfl) (hval 0 41 v0 rfl rfl) h0
  obtain ⟨u0, u1, u2, y0, y1, y2, n1, rfl, rfl, rfl, g0, g1, g2⟩ := open_agg3 Try.underlying31 (by kernel_rfl) (by kernel_rfl) (hval 1 31 v1 rfl rfl) h1
  obtain ⟨x, e0, -, -⟩ := DataW.trod_int Try.underlying3 g0
  cases e0
  obtain ⟨y, e1, -, -⟩ := DataW.trod_int Try.underlying3 g1
  cases e1
  obtain ⟨z, e2, -, -⟩ := DataW.trod_int Try.underlying3 g2
  cases e2
  obtain ⟨sd, dc, ds, rfl, hd⟩ := open_bytes Try.underlying41 Try.underlying5 (by kernel_rfl) (hval 2 41 v2 rfl rfl) h2
  refine (spanPuts_spec sa c xs (x, y, z) (memOf W) hs sd dc ds hd).run.mono fun e W' ⟨he, hb⟩ => ?_
  subst he
  exact ⟨_, rfl, law_post hW' (by kernel_rfl) rfl rfl rfl hb⟩

theorem spanPuts_holds : Rows.SpanPutsSaid :=
  OpenClaim.holds_of_wide 6 Try.f6 rfl rfl rfl rfl rfl rfl rfl ⟨rfl, rfl, rfl, rfl, rfl⟩ rfl rfl rfl rfl rfl (by kernel_rfl) Try.func6 (by kernel_rfl)
    (of_decide_eq_true (by kernel_rfl)) (by unfold Func.isWrapper; first | (rw [if_pos (by decide +kernel)]; kernel_rfl) | (rw [if_neg (by decide +kernel)]; exact ⟨rfl, rfl⟩))
    (fun os started H enc _ => spanPuts_lifted os started H enc)
end Go.Proofs.Ytjmkgfamonallaa
