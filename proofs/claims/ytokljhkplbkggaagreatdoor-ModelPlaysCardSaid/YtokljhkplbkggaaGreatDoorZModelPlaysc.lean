/- ModelPlays The tied card. -/
import Derived.Test.YtokljhkplbkggaaGreatDoorZOpr
import Derived.Test.YtokljhkplbkggaaGreatDoorZRfm
import Derived.Lay
import Derived.Test.YtokljhkplbkggaaGreatDoorCards
import Derived.Test.YtokljhkplbkggaaGreatDoorTie
import Derived.SevenTiedAt
namespace Go.Proofs.YtokljhkplbkggaaGreatDoor
set_option linter.unusedVariables false
set_option linter.unusedSectionVars false
set_option linter.unusedSimpArgs false
open Go.ChangeShapes Go.WideShapes Go.ChangeAt Go.RowKit Go.Joins
set_option maxRecDepth 100000 in
theorem modelPlays_lifted (os : Os) (started : os.Started) (H : Type) (enc : TypeId × Value → H) :
  ReturnsInHanded {} Tryz.checked os 3 .any (fun w args => (Rows.modelPlaysSpec.pre enc Tryz.prog Tryz.f3 [] false w args ∧ laidMetH Tryz.prog Rows.modelPlaysRow.laid w) ∧ sizedMet enc Tryz.prog Tryz.f3 (OpenSpec.ofChange Rows.modelPlaysSpec) false w args)
   (Rows.modelPlaysSpec.post enc Tryz.prog Tryz.f3 false true false false) := by
 refine returns_sh (C := Tryz.checked) (X := fun w _ => laidMetH Tryz.prog Rows.modelPlaysRow.laid w) (fun _ _ _ hh h => h.of_heap hh) A.own started (by kernel_rfl) Tryz.func3
  (ChangeSpec.witness_shaped (enc := enc) (C := Tryz.checked) (os := os) (X := fun w _ => laidMetH Tryz.prog Rows.modelPlaysRow.laid w) false (World.laidAll Tryz.prog os Rows.modelPlaysRow.laid) #[.slice none 0 0, .string ⟨#[]⟩, .agg #[.int .i64 0, .int .i64 0, .slice none 0 0, .slice none 0 0, .int .u32 0, .bool false, .int .i64 0, .int .i64 0]] 8 (World.laidAll_os _ _ _)
   (World.shaped_of_ZipB (by kernel_rfl) (by kernel_rfl)) (by kernel_rfl) (by kernel_rfl) (by kernel_rfl)
   (by rw [MakeChecks.laidMetH_plain _ _ _ (by kernel_rfl)]; exact laidMet_laidAll _ (by kernel_rfl) (by kernel_rfl))) ?_
 intro W base args ds gs before hval0 hW hL hsh
 have hT : Tabs (wLj W) := tabs_of hL hsh
 have hval : ∀ (j : Nat) t v, Tryz.f3.params[j]? = some t → args[j]? = some v → Value.okWide Tryz.prog W .any base t v := hval0
 have hW' := hW
 obtain ⟨p, q, hA0, hV, rfl, hfz, hnd⟩ := hW
 have hA : DataW.TrodAll enc Tryz.prog W 0 (fun _ => true) true Tryz.f3.params.toList args.toList ds p := hA0
 rw [Tryz.params3] at hA hval
 obtain ⟨v0, v1, v2, d0, d1, d2, p0, p1, p2, rfl, rfl, rfl, h0, h1, h2⟩ := trodAll_three hA
 obtain ⟨rfl, rfl⟩ := trodVars_none hV
 obtain ⟨va0, vl0, vc0, rfl⟩ := okWide_slice Tryz.underlying22 (hval 0 22 v0 rfl rfl)
 obtain ⟨_, hf0⟩ := h0
 obtain ⟨qs, qsa, qsc, e0, hqs1, hqs2, hqs3⟩ := open_calls hf0
 simp only [Value.slice.injEq] at e0
 obtain ⟨rfl, rfl, rfl⟩ := e0
 obtain ⟨rs, rfl⟩ := okWide_string Tryz.underlying9 (hval 1 9 v1 rfl rfl)
 obtain ⟨cs2, rfl, hz2⟩ := okWide_struct Tryz.underlying30 (hval 2 30 v2 rfl rfl)
 obtain ⟨_, hf2⟩ := h2
 obtain ⟨ro, rod, ron, e2, hro1, hro2⟩ := open_reply hf2
 obtain rfl : cs2 = (rpc ro rod ron).toArray := by cases cs2; simp only [Value.cells] at e2; exact congrArg List.toArray e2
 refine (modelPlays_spec qs _ _ rs ro _ _ (wLj W) hT hqs3 hqs1 hqs2 hro1 hro2 |>.mono fun _ _ _ h => h.1).run.mono fun e W' ⟨he, hb⟩ => ?_
 subst he
 exact ⟨_, rfl, law_post hW' (by kernel_rfl) rfl rfl rfl hb⟩
theorem modelPlays_holds : Rows.ModelPlaysSaid :=
 OpenClaim.holds_of_wide 3 Tryz.f3 rfl rfl rfl rfl rfl rfl rfl ⟨rfl, rfl, rfl, rfl, rfl⟩ rfl rfl rfl rfl rfl (by kernel_rfl) Tryz.func3 (by kernel_rfl)
  (of_decide_eq_true (by kernel_rfl)) (by unfold Func.isWrapper; first | (rw [if_pos (by decide +kernel)]; kernel_rfl) | (rw [if_neg (by decide +kernel)]; exact ⟨rfl, rfl⟩))
  (fun os started H enc _ => modelPlays_lifted os started H enc)
end Go.Proofs.YtokljhkplbkggaaGreatDoor
namespace Go.Proofs.YtokljhkplbkggaaGreatDoor
set_option linter.unusedVariables false
set_option linter.unusedSimpArgs false
open Go
theorem modelPlays_card : Rows.ModelPlaysCardSaid :=
 Claim7.holds_tied_plain_at .later [] [.data, .data, .data, .data, .sentinel, .sentinel, .pinned] true (true, "f36d24c1e48be48dea5260072a9eff1c7b3abe781109aa2048bd7bb7c6fed5aa") true
  modelPlays_holds (fun _ h => by cases h) (by kernel_rfl) (fun _ h => by cases h) modelPlays_row_tie rfl ⟨rfl, rfl⟩ (by kernel_rfl) rfl
  (fun f fn hf hfn => by
   obtain rfl : f = 3 := Option.some.inj ((show Tryz.prog.funcNamed "scionry/scionrylaw30.ModelPlays" = some 3 by kernel_rfl).symm.trans hf) |>.symm
   obtain rfl : fn = Tryz.f3 := (Option.some.inj (Tryz.func3.symm.trans hfn)).symm
   refine ⟨by kernel_rfl, fun j t ht => ?_⟩
   rw [Tryz.params3] at ht
   have hj := (Array.getElem?_eq_some_iff.1 ht).1
   have hj2 : j = 0 ∨ j = 1 ∨ j = 2 := by simp at hj; omega
   rcases hj2 with rfl | rfl | rfl
   ·obtain rfl : t = 22 := by simpa using ht.symm
    exact (show Tryz.prog.wantsStandIn 22 = false by kernel_rfl)
   ·obtain rfl : t = 9 := by simpa using ht.symm
    exact (show Tryz.prog.wantsStandIn 9 = false by kernel_rfl)
   obtain rfl : t = 30 := by simpa using ht.symm
   exact (show Tryz.prog.wantsStandIn 30 = false by kernel_rfl))
  (by kernel_rfl)
end Go.Proofs.YtokljhkplbkggaaGreatDoor
