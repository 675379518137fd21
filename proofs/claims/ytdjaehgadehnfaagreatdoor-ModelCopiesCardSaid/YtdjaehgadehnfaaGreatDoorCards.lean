/-
  DERIVED. GIVEN WITH THE SEED: THE CARDS: each row of YtdjaehgadehnfaaGreatDoorRows.lean that lists a variable, with what it lists TIED to the program's text (the seventh form; the later family's looks); each row that meets fmt, with fmt's text TOLD by the authors' own Lean function (tested against real Go, not proved from fmt's source: count such statements apart). THE CARD IS WHAT COUNTS. Prove the row's statement (the work); the ties are given (YtdjaehgadehnfaaGreatDoorTie.lean); close each card by the builder's one call (the guide's Derived/Test/ToyasCard.lean, 'card_holds'). Laid BY PROGRAM, IN A SANDBOX (cutbox-door.mjs). By AI agents, Wed Nov 11 2026. No macro, syntax, notation, axiom, sorry.
-/
import Derived.Test.YtdjaehgadehnfaaGreatDoorRows
import GoSem.ClaimSeven
namespace Go.Proofs.YtdjaehgadehnfaaGreatDoor
namespace Rows

/-- THE TIED CARD OF 'scionrylaw30.ModelNames'. -/
def modelNamesCard : Claim7 := { stood := { row := modelNamesRow, standIns := [], harness := (true, "e19352f6903e3fb4d1d605b9c4ff51a092f891347717ab1f2742e63fc6c46ff9"), looks := true }, kinds := [], alts := [], laidByText := true, laidKinds := [.data, .data, .data, .data, .sentinel, .sentinel, .pinned], laidTests := true, laidLooks := .later }
def ModelNamesCardSaid : Prop := Claim7.holds Tryz.pinned (.plain (OpenSpec.ofChange modelNamesSpec)) modelNamesCard

/-- THE TIED CARD OF 'scionrylaw30.ModelOn'. -/
def modelOnCard : Claim7 := { stood := { row := modelOnRow, standIns := [], harness := (true, "e19352f6903e3fb4d1d605b9c4ff51a092f891347717ab1f2742e63fc6c46ff9"), looks := true }, kinds := [], alts := [], laidByText := true, laidKinds := [.data, .data, .data, .data, .sentinel, .sentinel, .pinned], laidTests := true, laidLooks := .later }
def ModelOnCardSaid : Prop := Claim7.holds Tryz.pinned (.plain (OpenSpec.ofChange modelOnSpec)) modelOnCard

/-- THE TIED CARD OF 'scionrylaw30.ModelIdle'. -/
def modelIdleCard : Claim7 := { stood := { row := modelIdleRow, standIns := [], harness := (true, "e19352f6903e3fb4d1d605b9c4ff51a092f891347717ab1f2742e63fc6c46ff9"), looks := true }, kinds := [], alts := [], laidByText := true, laidKinds := [.data, .data, .data, .data, .sentinel, .sentinel, .pinned], laidTests := true, laidLooks := .later }
def ModelIdleCardSaid : Prop := Claim7.holds Tryz.pinned (.plain (OpenSpec.ofChange modelIdleSpec)) modelIdleCard

/-- THE TIED CARD OF 'scionrylaw30.ModelApart'. -/
def modelApartCard : Claim7 := { stood := { row := modelApartRow, standIns := [], harness := (true, "e19352f6903e3fb4d1d605b9c4ff51a092f891347717ab1f2742e63fc6c46ff9"), looks := true }, kinds := [], alts := [], laidByText := true, laidKinds := [.data, .data, .data, .data, .sentinel, .sentinel, .pinned], laidTests := true, laidLooks := .later }
def ModelApartCardSaid : Prop := Claim7.holds Tryz.pinned (.plain (OpenSpec.ofChange modelApartSpec)) modelApartCard

/-- THE TIED CARD OF 'scionrylaw30.ModelPlays'. -/
def modelPlaysCard : Claim7 := { stood := { row := modelPlaysRow, standIns := [], harness := (true, "e19352f6903e3fb4d1d605b9c4ff51a092f891347717ab1f2742e63fc6c46ff9"), looks := true }, kinds := [], alts := [], laidByText := true, laidKinds := [.data, .data, .data, .data, .sentinel, .sentinel, .pinned], laidTests := true, laidLooks := .later }
def ModelPlaysCardSaid : Prop := Claim7.holds Tryz.pinned (.plain (OpenSpec.ofChange modelPlaysSpec)) modelPlaysCard

/-- THE TIED CARD OF 'scionrylaw30.ModelCopies'. -/
def modelCopiesCard : Claim7 := { stood := { row := modelCopiesRow, standIns := [], harness := (true, "e19352f6903e3fb4d1d605b9c4ff51a092f891347717ab1f2742e63fc6c46ff9"), looks := true }, kinds := [], alts := [], laidByText := true, laidKinds := [.data, .data, .data, .data, .sentinel, .sentinel, .pinned], laidTests := true, laidLooks := .later }
def ModelCopiesCardSaid : Prop := Claim7.holds Tryz.pinned (.plain (OpenSpec.ofChange modelCopiesSpec)) modelCopiesCard

/-- THE SECOND FORM's CARD OF 'scionrylaw30.ModelNames'. -/
def modelNamesUptoCard : Claim7 := { stood := { row := modelNamesUptoRow, standIns := [], harness := (true, "e19352f6903e3fb4d1d605b9c4ff51a092f891347717ab1f2742e63fc6c46ff9"), looks := true }, kinds := [], alts := [], laidByText := true, laidKinds := [.data, .data, .data, .data, .sentinel, .sentinel, .pinned], laidTests := true, laidLooks := .later }
def ModelNamesUptoCardSaid : Prop := Claim7.holds Tryz.pinned (.plain (OpenSpec.upto modelNamesSpec)) modelNamesUptoCard

/-- THE SECOND FORM's CARD OF 'scionrylaw30.ModelOn'. -/
def modelOnUptoCard : Claim7 := { stood := { row := modelOnUptoRow, standIns := [], harness := (true, "e19352f6903e3fb4d1d605b9c4ff51a092f891347717ab1f2742e63fc6c46ff9"), looks := true }, kinds := [], alts := [], laidByText := true, laidKinds := [.data, .data, .data, .data, .sentinel, .sentinel, .pinned], laidTests := true, laidLooks := .later }
def ModelOnUptoCardSaid : Prop := Claim7.holds Tryz.pinned (.plain (OpenSpec.upto modelOnSpec)) modelOnUptoCard

/-- THE SECOND FORM's CARD OF 'scionrylaw30.ModelIdle'. -/
def modelIdleUptoCard : Claim7 := { stood := { row := modelIdleUptoRow, standIns := [], harness := (true, "e19352f6903e3fb4d1d605b9c4ff51a092f891347717ab1f2742e63fc6c46ff9"), looks := true }, kinds := [], alts := [], laidByText := true, laidKinds := [.data, .data, .data, .data, .sentinel, .sentinel, .pinned], laidTests := true, laidLooks := .later }
def ModelIdleUptoCardSaid : Prop := Claim7.holds Tryz.pinned (.plain (OpenSpec.upto modelIdleSpec)) modelIdleUptoCard

/-- THE SECOND FORM's CARD OF 'scionrylaw30.ModelApart'. -/
def modelApartUptoCard : Claim7 := { stood := { row := modelApartUptoRow, standIns := [], harness := (true, "e19352f6903e3fb4d1d605b9c4ff51a092f891347717ab1f2742e63fc6c46ff9"), looks := true }, kinds := [], alts := [], laidByText := true, laidKinds := [.data, .data, .data, .data, .sentinel, .sentinel, .pinned], laidTests := true, laidLooks := .later }
def ModelApartUptoCardSaid : Prop := Claim7.holds Tryz.pinned (.plain (OpenSpec.upto modelApartSpec)) modelApartUptoCard

/-- THE SECOND FORM's CARD OF 'scionrylaw30.ModelPlays'. -/
def modelPlaysUptoCard : Claim7 := { stood := { row := modelPlaysUptoRow, standIns := [], harness := (true, "e19352f6903e3fb4d1d605b9c4ff51a092f891347717ab1f2742e63fc6c46ff9"), looks := true }, kinds := [], alts := [], laidByText := true, laidKinds := [.data, .data, .data, .data, .sentinel, .sentinel, .pinned], laidTests := true, laidLooks := .later }
def ModelPlaysUptoCardSaid : Prop := Claim7.holds Tryz.pinned (.plain (OpenSpec.upto modelPlaysSpec)) modelPlaysUptoCard

/-- THE SECOND FORM's CARD OF 'scionrylaw30.ModelCopies'. -/
def modelCopiesUptoCard : Claim7 := { stood := { row := modelCopiesUptoRow, standIns := [], harness := (true, "e19352f6903e3fb4d1d605b9c4ff51a092f891347717ab1f2742e63fc6c46ff9"), looks := true }, kinds := [], alts := [], laidByText := true, laidKinds := [.data, .data, .data, .data, .sentinel, .sentinel, .pinned], laidTests := true, laidLooks := .later }
def ModelCopiesUptoCardSaid : Prop := Claim7.holds Tryz.pinned (.plain (OpenSpec.upto modelCopiesSpec)) modelCopiesUptoCard
end Rows
end Go.Proofs.YtdjaehgadehnfaaGreatDoor
