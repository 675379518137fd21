/-
  DERIVED. GIVEN WITH THE SEED: THE CARDS: each row of YtjheijhahehnmaaGreatDoorRows.lean that lists a variable, with what it lists TIED to the program's text (the seventh form; the later family's looks); each row that meets fmt, with fmt's text TOLD by the authors' own Lean function (tested against real Go, not proved from fmt's source: count such statements apart). THE CARD IS WHAT COUNTS. Prove the row's statement (the work); the ties are given (YtjheijhahehnmaaGreatDoorTie.lean); close each card by the builder's one call (the guide's Derived/Test/ToyasCard.lean, 'card_holds'). Laid BY PROGRAM, IN A SANDBOX (cutbox-door.mjs). By AI agents, Wed Nov 11 2026. No macro, syntax, notation, axiom, sorry.
-/
import Derived.Test.YtjheijhahehnmaaGreatDoorRows
import GoSem.ClaimSeven
namespace Go.Proofs.YtjheijhahehnmaaGreatDoor
namespace Rows

/-- THE TIED CARD OF 'scionrylaw29.CallsNames'. -/
def callsNamesCard : Claim7 := { stood := { row := callsNamesRow, standIns := [], harness := (true, "b1c2ddccfe77810a314fcb352e67eaaddcacc03e07c2be4ff452362447e7cb16"), looks := true }, kinds := [], alts := [], laidByText := true, laidKinds := [.data, .data, .data, .sentinel, .sentinel, .data], laidTests := true, laidLooks := .later }
def CallsNamesCardSaid : Prop := Claim7.holds Tryz.pinned (.plain (OpenSpec.ofChange callsNamesSpec)) callsNamesCard

/-- THE TIED CARD OF 'scionrylaw29.CallsHold'. -/
def callsHoldCard : Claim7 := { stood := { row := callsHoldRow, standIns := [], harness := (true, "b1c2ddccfe77810a314fcb352e67eaaddcacc03e07c2be4ff452362447e7cb16"), looks := true }, kinds := [], alts := [], laidByText := true, laidKinds := [.data, .data, .data, .sentinel, .sentinel, .data], laidTests := true, laidLooks := .later }
def CallsHoldCardSaid : Prop := Claim7.holds Tryz.pinned (.plain (OpenSpec.ofChange callsHoldSpec)) callsHoldCard

/-- THE TIED CARD OF 'scionrylaw29.CallsFail'. -/
def callsFailCard : Claim7 := { stood := { row := callsFailRow, standIns := [], harness := (true, "b1c2ddccfe77810a314fcb352e67eaaddcacc03e07c2be4ff452362447e7cb16"), looks := true }, kinds := [], alts := [], laidByText := true, laidKinds := [.data, .data, .data, .sentinel, .sentinel, .data], laidTests := true, laidLooks := .later }
def CallsFailCardSaid : Prop := Claim7.holds Tryz.pinned (.plain (OpenSpec.ofChange callsFailSpec)) callsFailCard

/-- THE SECOND FORM's CARD OF 'scionrylaw29.CallsNames'. -/
def callsNamesUptoCard : Claim7 := { stood := { row := callsNamesUptoRow, standIns := [], harness := (true, "b1c2ddccfe77810a314fcb352e67eaaddcacc03e07c2be4ff452362447e7cb16"), looks := true }, kinds := [], alts := [], laidByText := true, laidKinds := [.data, .data, .data, .sentinel, .sentinel, .data], laidTests := true, laidLooks := .later }
def CallsNamesUptoCardSaid : Prop := Claim7.holds Tryz.pinned (.plain (OpenSpec.upto callsNamesSpec)) callsNamesUptoCard

/-- THE SECOND FORM's CARD OF 'scionrylaw29.CallsHold'. -/
def callsHoldUptoCard : Claim7 := { stood := { row := callsHoldUptoRow, standIns := [], harness := (true, "b1c2ddccfe77810a314fcb352e67eaaddcacc03e07c2be4ff452362447e7cb16"), looks := true }, kinds := [], alts := [], laidByText := true, laidKinds := [.data, .data, .data, .sentinel, .sentinel, .data], laidTests := true, laidLooks := .later }
def CallsHoldUptoCardSaid : Prop := Claim7.holds Tryz.pinned (.plain (OpenSpec.upto callsHoldSpec)) callsHoldUptoCard

/-- THE SECOND FORM's CARD OF 'scionrylaw29.CallsFail'. -/
def callsFailUptoCard : Claim7 := { stood := { row := callsFailUptoRow, standIns := [], harness := (true, "b1c2ddccfe77810a314fcb352e67eaaddcacc03e07c2be4ff452362447e7cb16"), looks := true }, kinds := [], alts := [], laidByText := true, laidKinds := [.data, .data, .data, .sentinel, .sentinel, .data], laidTests := true, laidLooks := .later }
def CallsFailUptoCardSaid : Prop := Claim7.holds Tryz.pinned (.plain (OpenSpec.upto callsFailSpec)) callsFailUptoCard
end Rows
end Go.Proofs.YtjheijhahehnmaaGreatDoor
