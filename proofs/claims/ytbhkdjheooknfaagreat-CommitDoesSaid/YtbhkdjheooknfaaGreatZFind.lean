/- Walks: whether a tree may be. -/
import Derived.Test.YtbhkdjheooknfaaGreatZSp
namespace Go.Proofs.YtbhkdjheooknfaaGreat
set_option linter.unusedVariables false
set_option linter.unusedSectionVars false
set_option linter.unusedSimpArgs false
open Go.RowKit
def fchk (s : Sto) (root : Int) : Int × Int :=
 if wDr s then
  if root < 8 ∨ 256 ≤ root then (0, 2)
  else if s.now.getD root.toNat 0 = 0 then (0, 6)
  else match wCu s root.toNat with
   | none => (0, 8)
   | some (lv, xs) => if wHa s lv.toNat xs then (lv + 1, 0) else (0, 8)
 else (0, 8)
end Go.Proofs.YtbhkdjheooknfaaGreat
