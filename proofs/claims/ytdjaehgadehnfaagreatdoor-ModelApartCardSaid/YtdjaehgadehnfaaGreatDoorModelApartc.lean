/- ModelApart The tied card. -/
import Derived.Test.YtdjaehgadehnfaaGreatDoorModelApart
import Derived.Test.YtdjaehgadehnfaaGreatDoorCards
import Derived.Test.YtdjaehgadehnfaaGreatDoorTie
import Derived.SevenTiedAt
namespace Go.Proofs.YtdjaehgadehnfaaGreatDoor
set_option linter.unusedVariables false
set_option linter.unusedSimpArgs false
open Go

theorem modelApart_card : Rows.ModelApartCardSaid :=
  Claim7.holds_tied_plain_at .later [] [.data, .data, .data, .data, .sentinel, .sentinel, .pinned] true (true, "e19352f6903e3fb4d1d605b9c4ff51a092f891347717ab1f2742e63fc6c46ff9") true
    modelApart_holds (fun _ h => by cases h) (by kernel_rfl) (fun _ h => by cases h) modelApart_row_tie rfl ⟨rfl, rfl⟩ (by kernel_rfl) rfl
    (fun f fn hf hfn => by
      obtain rfl : f = 6 := Option.some.inj ((show Tryz.prog.funcNamed "scionry/scionrylaw30.ModelApart" = some 6 by kernel_rfl).symm.trans hf) |>.symm
      obtain rfl : fn = Tryz.f6 := (Option.some.inj (Tryz.func6.symm.trans hfn)).symm
      refine ⟨by kernel_rfl, fun j t ht => ?_⟩
      rw [Tryz.params6] at ht
      have hj := (Array.getElem?_eq_some_iff.1 ht).1
      have hj2 : j = 0 ∨ j = 1 ∨ j = 2 := by simp at hj; omega
      rcases hj2 with rfl | rfl | rfl
      · obtain rfl : t = 30 := by simpa using ht.symm
        exact (show Tryz.prog.wantsStandIn 30 = false by kernel_rfl)
      · obtain rfl : t = 30 := by simpa using ht.symm
        exact (show Tryz.prog.wantsStandIn 30 = false by kernel_rfl)
      · obtain rfl : t = 30 := by simpa using ht.symm
        exact (show Tryz.prog.wantsStandIn 30 = false by kernel_rfl))
    (by kernel_rfl)
end Go.Proofs.YtdjaehgadehnfaaGreatDoor
