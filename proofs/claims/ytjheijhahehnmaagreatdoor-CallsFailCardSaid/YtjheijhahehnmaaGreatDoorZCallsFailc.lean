/- CallsFail The tied card. -/
import Derived.Test.YtjheijhahehnmaaGreatDoorZCallsFail
import Derived.Test.YtjheijhahehnmaaGreatDoorCards
import Derived.Test.YtjheijhahehnmaaGreatDoorTie
import Derived.SevenTiedAt
namespace Go.Proofs.YtjheijhahehnmaaGreatDoor
open Go.Proofs.Tryz
open Go
theorem UR:true=prog.looks []:=by kernel_rfl
theorem UO:false=Rows.callsFailRow.goesBy prog:=by kernel_rfl
theorem UL : prog.mainIs = some (true, "b1c2ddccfe77810a314fcb352e67eaaddcacc03e07c2be4ff452362447e7cb16".toList) := by kernel_rfl
theorem So:prog.wantsStandIn 36=false:=by kernel_rfl
theorem Sn:prog.wantsStandIn 39=false:=by kernel_rfl
theorem callsFail_card:Rows.CallsFailCardSaid:=
 Claim7.holds_tied_plain_at .later [] [.data, .data, .data, .sentinel, .sentinel, .data] true (true, "b1c2ddccfe77810a314fcb352e67eaaddcacc03e07c2be4ff452362447e7cb16") true
  callsFail_holds (λ_ h=>by cases h) (by kernel_rfl) (λ_ h=>by cases h) callsFail_row_tie rfl ⟨rfl,rfl⟩ UL rfl
  (λf g e c=>by
   obtain rfl : f = 5 := Option.some.inj ((show prog.funcNamed "scionry/scionrylaw29.CallsFail" = some 5 by kernel_rfl).symm.trans e) |>.symm
   obtain rfl:g=Tryz.f5:=(Option.some.inj (func5.symm.trans c)).symm
   refine⟨UR,λj t a=>?_⟩
   rw[Tryz.params5]at a
   have d:=(Array.getElem?_eq_some_iff.1 a).1
   have b:j=0\/j=1:=by simp at d;omega
   rcases b with rfl|rfl
   ·obtain rfl:t=36:=by simpa using a.symm
    exact So
   obtain rfl:t=39:=by simpa using a.symm
   exact Sn)
  UO
end Go.Proofs.YtjheijhahehnmaaGreatDoor
