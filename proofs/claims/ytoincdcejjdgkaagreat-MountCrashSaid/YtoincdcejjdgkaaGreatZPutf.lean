/- What is done on a bench, as plain functions: nodes left, nodes built, an item put in. No statement of the seat is proved here. -/
import Derived.Test.YtoincdcejjdgkaaGreatZLent
import Derived.Test.YtoincdcejjdgkaaGreatZTree
namespace Go.Proofs.YtoincdcejjdgkaaGreat
set_option linter.unusedVariables false
set_option linter.unusedSimpArgs false
open Go.RowKit
def wHb (lv : Int) (xs : List It) : List (Int × Int) := xs.map fun x => (x.ref, lv - 1)
def wFs : List It → Sto → Option Sto
 | [], s => some s
 | x :: xs, s => if x.ref = 0 then wFs xs s else if wHf s x.ref.toNat = 0 then wFs xs (wDn s x.ref.toNat) else none
def wCv (s : Sto) (k : Nat) : Sto := { s with now := s.now.set k 0 }
def lvF (first : List By) : Nat → Sto → List (Int × Int) → Option Sto
 | _, s, [] => some s
 | 0, _, _ :: _ => none
 | n + 1, s, (k, l) :: st =>
  if s.now.getD k.toNat 0 = 0 then none
  else if s.now.getD k.toNat 0 ≠ 1 then lvF first n (wDn s k.toNat) st
  else match wCa s k.toNat with
   | none => none
   | some (lv, xs) => if first.getD k.toNat 0 = 0 ∨ (0 ≤ l ∧ lv ≠ l) then none
    else if 0 < lv then lvF first n (wCv s k.toNat) (wHb lv xs ++ st)
    else match wFs xs (wCv s k.toNat) with
     | none => none
     | some t => lvF first n t st
def sumN (bs : List By) : Nat := (bs.map UInt8.toNat).sum
def leave (s : Sto) (root : Int) : Option Sto := lvF s.now (sumN s.now) s [(root, -1)]
def wDs (l : List It) : List (List It) := if 5 < l.length then [l.take 3, l.drop 3] else [l]
def upIt (s : Sto) (p : List It) : It := ⟨headK p, (wGh (wBb s p) : Int), []⟩
def mkP (lv : Int) : List (List It) → Sto → List It → Except Int (Sto × List It)
 | [], s, up => .ok (s, up)
 | p :: ps, s, up => if mkE s lv p = 0 then mkP lv ps (mkS s lv p) (up ++ [upIt s p]) else .error (mkE s lv p)
def looL : List It → Sto → Except Int Sto
 | [], s => .ok s
 | x :: xs, s => if x.ref = 0 then looL xs s else if wHf s x.ref.toNat = 0 then looL xs (wDn s x.ref.toNat) else .error (wHf s x.ref.toNat)
def build (s : Sto) (lv : Int) (l held : List It) : Except Int (Sto × List It) := match mkP lv (wDs l) s [] with
 | .error e => .error e
 | .ok (t, up) => match looL held t with
  | .error e => .error e
  | .ok t2 => .ok (t2, up)
structure Stp where
 lv : Int
 xs : List It
 at_ : Nat
def wAt (xs : List It) (q : Ky) : Nat := if isAt xs q then wDm xs q else wDm xs q - 1
def wJa (s : Sto) (q : Ky) : Nat → List It → List Stp
 | 0, xs => [⟨0, xs, wDm xs q⟩]
 | l + 1, xs => ⟨((l + 1 : Nat) : Int), xs, wAt xs q⟩ :: wJa s q l (match xs[wAt xs q]? with | some x => kid s x | none => [])
def wKn (ws : List Stp) (q : Ky) : Bool := ws.length == 6 && !(ws.any fun w => decide (w.xs.length < 5)) && !(match ws.getLast? with | some w => isAt w.xs q | none => false)
def manyF (w : Stp) (q : Ky) : Nat := match w.xs[w.at_]? with
 | none => 0
 | some y => if w.lv = 0 ∧ y.key ≠ q then 0 else 1
def repF (w : Stp) (q : Ky) (up : List It) : List It := w.xs.take w.at_ ++ up ++ w.xs.drop (w.at_ + manyF w q)
def grw (s : Sto) (x : It) : List Stp → Except Int (Sto × List It)
 | [] => .ok (s, [x])
 | w :: ws => match grw s x ws with
  | .error e => .error e
  | .ok (t, up) => build t w.lv (repF w x.key up) up
def wHa (s : Sto) (root : Int) (x : It) : Int := if (wGo s root).2 = 0 then (if wEw x = 0 then (if x.ref ≠ 0 ∧ s.now.getD x.ref.toNat 0 = 0 then 6 else 0) else 8) else (wGo s root).2
def putTop (x : It) (n : Int) : Except Int (Sto × List It) → Except Int (Sto × List It)
 | .error e => .error e
 | .ok (t, up) => if 1 < up.length then build t n up up else .ok (t, up)
def putIn (s : Sto) (root : Int) (x : It) (ws : List Stp) : Except Int (Sto × Int) := if wKn ws x.key = true then .error 120 else
 match putTop x ws.length (grw s x ws) with
 | .error e => .error e
 | .ok (t, up) => match leave t root with
  | none => .error 8
  | some t2 => .ok (t2, match up with | y :: _ => y.ref | [] => 0)
def putF (s : Sto) (root : Int) (x : It) : Except Int (Sto × Int) :=
 if wHa s root x ≠ 0 then .error (wHa s root x) else
  match wCa s root.toNat with
  | none => .error 8
  | some (lv, xs) => putIn s root x (wJa s x.key lv.toNat xs)
end Go.Proofs.YtoincdcejjdgkaaGreat
