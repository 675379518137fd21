/- CallsNames The tied card. -/
import Derived.Test.YtjheijhahehnmaaGreatDoorZCallsNames
import Derived.Test.YtjheijhahehnmaaGreatDoorCards
import Derived.Test.YtjheijhahehnmaaGreatDoorTie
import Derived.SevenTiedAt
namespace Go.Proofs.YtjheijhahehnmaaGreatDoor
open Go.Proofs.Tryz
open Go
theorem Sj:true=prog.looks []:=by kernel_rfl
theorem Sg:false=Rows.callsNamesRow.goesBy prog:=by kernel_rfl
theorem P5 : prog.mainIs = some (true, "b1c2ddccfe77810a314fcb352e67eaaddcacc03e07c2be4ff452362447e7cb16".toList) := by kernel_rfl
theorem callsNames_card:Rows.CallsNamesCardSaid:=
 Claim7.holds_tied_plain_at .later [] [.data, .data, .data, .sentinel, .sentinel, .data] true (true, "b1c2ddccfe77810a314fcb352e67eaaddcacc03e07c2be4ff452362447e7cb16") true
  callsNames_holds (λ_ h=>by cases h) (by kernel_rfl) (λ_ h=>by cases h) callsNames_row_tie rfl ⟨rfl,rfl⟩ P5 rfl
  (λf e d a=>by
   obtain rfl : f = 3 := Option.some.inj ((show prog.funcNamed "scionry/scionrylaw29.CallsNames" = some 3 by kernel_rfl).symm.trans d) |>.symm
   obtain rfl:e=Tryz.f3:=(Option.some.inj (func3.symm.trans a)).symm
   refine⟨Sj,λj t b=>?_⟩
   rw[Tryz.params3]at b
   have c:=(Array.getElem?_eq_some_iff.1 b).1
   simp at c)
  Sg
end Go.Proofs.YtjheijhahehnmaaGreatDoor
