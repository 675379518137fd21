/- CallsHold The tied card. -/
import Derived.Test.YtjheijhahehnmaaGreatDoorXCallsHold
import Derived.Test.YtjheijhahehnmaaGreatDoorCards
import Derived.Test.YtjheijhahehnmaaGreatDoorTie
import Derived.SevenTiedAt
namespace Go.Proofs.YtjheijhahehnmaaGreatDoor
open Go.Proofs.Tryz
open Go
theorem T7:true=prog.looks []:=by kernel_rfl
theorem T6:false=Rows.callsHoldRow.goesBy prog:=by kernel_rfl
theorem T5 : prog.mainIs = some (true, "b1c2ddccfe77810a314fcb352e67eaaddcacc03e07c2be4ff452362447e7cb16".toList) := by kernel_rfl
theorem TY:prog.wantsStandIn 36=false:=by kernel_rfl
theorem callsHold_card:Rows.CallsHoldCardSaid:=
 Claim7.holds_tied_plain_at .later [] [.data, .data, .data, .sentinel, .sentinel, .data] true (true, "b1c2ddccfe77810a314fcb352e67eaaddcacc03e07c2be4ff452362447e7cb16") true
  callsHold_holds (λ_ h=>by cases h) (by kernel_rfl) (λ_ h=>by cases h) callsHold_row_tie rfl ⟨rfl,rfl⟩ T5 rfl
  (λf g e c=>by
   obtain rfl : f = 4 := Option.some.inj ((show prog.funcNamed "scionry/scionrylaw29.CallsHold" = some 4 by kernel_rfl).symm.trans e) |>.symm
   obtain rfl:g=Tryz.f4:=(Option.some.inj (func4.symm.trans c)).symm
   refine⟨T7,λj t a=>?_⟩
   rw[Tryz.params4]at a
   have d:=(Array.getElem?_eq_some_iff.1 a).1
   have b:j=0:=by simp at d;omega
   rcases b with rfl
   obtain rfl:t=36:=by simpa using a.symm
   exact TY)
  T6
end Go.Proofs.YtjheijhahehnmaaGreatDoor
