/- ModelNames The tied card. -/
import Derived.Test.YtdjaehgadehnfaaGreatDoorModelNames
import Derived.Test.YtdjaehgadehnfaaGreatDoorCards
import Derived.Test.YtdjaehgadehnfaaGreatDoorTie
import Derived.SevenTiedAt
namespace Go.Proofs.YtdjaehgadehnfaaGreatDoor
set_option linter.unusedVariables false
set_option linter.unusedSimpArgs false
open Go

theorem modelNames_card : Rows.ModelNamesCardSaid :=
  Claim7.holds_tied_plain_at .later [] [.data, .data, .data, .data, .sentinel, .sentinel, .pinned] true (true, "e19352f6903e3fb4d1d605b9c4ff51a092f891347717ab1f2742e63fc6c46ff9") true
    modelNames_holds (fun _ h => by cases h) (by kernel_rfl) (fun _ h => by cases h) modelNames_row_tie rfl ⟨rfl, rfl⟩ (by kernel_rfl) rfl
    (fun f fn hf hfn => by
      obtain rfl : f = 3 := Option.some.inj ((show Tryz.prog.funcNamed "scionry/scionrylaw30.ModelNames" = some 3 by kernel_rfl).symm.trans hf) |>.symm
      obtain rfl : fn = Tryz.f3 := (Option.some.inj (Tryz.func3.symm.trans hfn)).symm
      refine ⟨by kernel_rfl, fun j t ht => ?_⟩
      rw [Tryz.params3] at ht
      have hj := (Array.getElem?_eq_some_iff.1 ht).1
      simp at hj)
    (by kernel_rfl)
end Go.Proofs.YtdjaehgadehnfaaGreatDoor
