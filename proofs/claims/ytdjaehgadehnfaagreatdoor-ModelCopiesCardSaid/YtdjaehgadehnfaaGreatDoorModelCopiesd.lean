/- ModelCopiesd: one text of ModelCopies, ModelCopiesc (printed by mergeo.py). -/
import Derived.Test.YtdjaehgadehnfaaGreatDoorOpn
import Derived.Test.YtdjaehgadehnfaaGreatDoorCpall
import Derived.Lay
import Derived.Test.YtdjaehgadehnfaaGreatDoorCards
import Derived.Test.YtdjaehgadehnfaaGreatDoorTie
import Derived.SevenTiedAt
/- ModelCopies: looks at a volume and at its copy are answered alike. Any calls, any path. -/
namespace Go.Proofs.YtdjaehgadehnfaaGreatDoor
set_option linter.unusedVariables false
set_option linter.unusedSimpArgs false
open Go.ChangeShapes Go.WideShapes Go.ChangeAt Go.RowKit Go.Joins

set_option maxRecDepth 100000 in
theorem modelCopies_lifted (os : Os) (started : os.Started) (H : Type) (enc : TypeId × Value → H) :
    ReturnsInHanded {} Tryz.checked os 8 .any (fun w args => (Rows.modelCopiesSpec.pre enc Tryz.prog Tryz.f8 [] false w args ∧ laidMetH Tryz.prog Rows.modelCopiesRow.laid w) ∧ sizedMet enc Tryz.prog Tryz.f8 (OpenSpec.ofChange Rows.modelCopiesSpec) false w args)
      (Rows.modelCopiesSpec.post enc Tryz.prog Tryz.f8 false true false false) := by
  refine returns_sh (C := Tryz.checked) (X := fun w _ => laidMetH Tryz.prog Rows.modelCopiesRow.laid w) (fun _ _ _ hh h => h.of_heap hh) A.own started (by kernel_rfl) Tryz.func8
    (ChangeSpec.witness_shaped (enc := enc) (C := Tryz.checked) (os := os) (X := fun w _ => laidMetH Tryz.prog Rows.modelCopiesRow.laid w) false (World.laidAll Tryz.prog os Rows.modelCopiesRow.laid) #[.slice none 0 0, .bool false, .string ⟨#[]⟩] 8 (World.laidAll_os _ _ _)
      (World.shaped_of_ZipB (by kernel_rfl) (by kernel_rfl)) (by kernel_rfl) (by kernel_rfl) (by kernel_rfl)
      (by rw [MakeChecks.laidMetH_plain _ _ _ (by kernel_rfl)]; exact laidMet_laidAll _ (by kernel_rfl) (by kernel_rfl))) ?_
  intro W base args ds gs before hval0 hW hL hsh
  have hT : Tabs (memOf W) := tabs_of hL hsh
  have hval : ∀ (j : Nat) t v, Tryz.f8.params[j]? = some t → args[j]? = some v → Value.okWide Tryz.prog W .any base t v := hval0
  have hW' := hW
  obtain ⟨p, q, hA0, hV, rfl, hfz, hnd⟩ := hW
  have hA : DataW.TrodAll enc Tryz.prog W 0 (fun _ => true) true Tryz.f8.params.toList args.toList ds p := hA0
  rw [Tryz.params8] at hA hval
  obtain ⟨v0, v1, v2, d0, d1, d2, p0, p1, p2, rfl, rfl, rfl, h0, h1, h2⟩ := trodAll_three hA
  obtain ⟨rfl, rfl⟩ := trodVars_none hV
  obtain ⟨va0, vl0, vc0, rfl⟩ := okWide_slice Tryz.underlying30 (hval 0 30 v0 rfl rfl)
  obtain ⟨_, hf0⟩ := h0
  obtain ⟨qs, qsa, qsc, e0, hqs1, hqs2, hqs3⟩ := open_calls hf0
  simp only [Value.slice.injEq] at e0
  obtain ⟨rfl, rfl, rfl⟩ := e0
  obtain ⟨fz, rfl⟩ := okWide_bool Tryz.underlying4 (hval 1 4 v1 rfl rfl)
  obtain ⟨rs, rfl⟩ := okWide_string Tryz.underlying9 (hval 2 9 v2 rfl rfl)
  refine (modelCopies_spec qs fz rs _ _ (memOf W) hT hqs3 hqs1 hqs2 |>.mono fun _ _ _ h => h.1).run.mono fun e W' ⟨he, hb⟩ => ?_
  subst he
  exact ⟨_, rfl, law_post hW' (by kernel_rfl) rfl rfl rfl hb⟩

theorem modelCopies_holds : Rows.ModelCopiesSaid :=
  OpenClaim.holds_of_wide 8 Tryz.f8 rfl rfl rfl rfl rfl rfl rfl ⟨rfl, rfl, rfl, rfl, rfl⟩ rfl rfl rfl rfl rfl (by kernel_rfl) Tryz.func8 (by kernel_rfl)
    (of_decide_eq_true (by kernel_rfl)) (by unfold Func.isWrapper; first | (rw [if_pos (by decide +kernel)]; kernel_rfl) | (rw [if_neg (by decide +kernel)]; exact ⟨rfl, rfl⟩))
    (fun os started H enc _ => modelCopies_lifted os started H enc)
end Go.Proofs.YtdjaehgadehnfaaGreatDoor
/- ModelCopies The tied card. -/
namespace Go.Proofs.YtdjaehgadehnfaaGreatDoor
set_option linter.unusedVariables false
set_option linter.unusedSimpArgs false
open Go
set_option linter.unusedVariables false
set_option linter.unusedSimpArgs false

theorem modelCopies_card : Rows.ModelCopiesCardSaid :=
  Claim7.holds_tied_plain_at .later [] [.data, .data, .data, .data, .sentinel, .sentinel, .pinned] true (true, "e19352f6903e3fb4d1d605b9c4ff51a092f891347717ab1f2742e63fc6c46ff9") true
    modelCopies_holds (fun _ h => by cases h) (by kernel_rfl) (fun _ h => by cases h) modelCopies_row_tie rfl ⟨rfl, rfl⟩ (by kernel_rfl) rfl
    (fun f fn hf hfn => by
      obtain rfl : f = 8 := Option.some.inj ((show Tryz.prog.funcNamed "scionry/scionrylaw30.ModelCopies" = some 8 by kernel_rfl).symm.trans hf) |>.symm
      obtain rfl : fn = Tryz.f8 := (Option.some.inj (Tryz.func8.symm.trans hfn)).symm
      refine ⟨by kernel_rfl, fun j t ht => ?_⟩
      rw [Tryz.params8] at ht
      have hj := (Array.getElem?_eq_some_iff.1 ht).1
      have hj2 : j = 0 ∨ j = 1 ∨ j = 2 := by simp at hj; omega
      rcases hj2 with rfl | rfl | rfl
      · obtain rfl : t = 30 := by simpa using ht.symm
        exact (show Tryz.prog.wantsStandIn 30 = false by kernel_rfl)
      · obtain rfl : t = 4 := by simpa using ht.symm
        exact (show Tryz.prog.wantsStandIn 4 = false by kernel_rfl)
      · obtain rfl : t = 9 := by simpa using ht.symm
        exact (show Tryz.prog.wantsStandIn 9 = false by kernel_rfl))
    (by kernel_rfl)
end Go.Proofs.YtdjaehgadehnfaaGreatDoor
