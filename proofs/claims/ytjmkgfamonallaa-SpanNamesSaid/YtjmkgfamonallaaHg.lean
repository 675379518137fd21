/- THE WALKING LAYER, seventh part: what came later. No statement of the seat is proved here. -/
import Derived.Test.YtjmkgfamonallaaTab
namespace Go.Proofs.Ytjmkgfamonallaa
open Go.RowKit

instance (priority := low) At.left {b : Nat} {o : Obj} {R L : Lc} [h : At b o R] : At b o (R ++ L) := ⟨List.mem_append_left _ h.mem⟩
theorem jq_drop {N : Nat} {F : Fr} {W : World} {X : List Nat} {M0 M : Mem} {L L' : Lc} {e : Exit} {Q : Exit → Act → World → Prop} (hs : L'.Sublist L) (h : JQ N e F ⟨W, X, M0⟩ M L' Q) : JQ N e F ⟨W, X, M0⟩ M L Q := fun a w ha hw => h a w ha (hw.fewer hs)
end Go.Proofs.Ytjmkgfamonallaa
