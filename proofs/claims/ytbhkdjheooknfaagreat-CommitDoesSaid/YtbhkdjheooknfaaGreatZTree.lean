/- Trees, without a program in sight: what is between two keys rises, and is found. No statement of the seat is proved here. -/
import Derived.Test.YtbhkdjheooknfaaGreatZFind
import Derived.Test.YtbhkdjheooknfaaGreatZStore
namespace Go.Proofs.YtbhkdjheooknfaaGreat
set_option linter.unusedSimpArgs false
set_option linter.unusedVariables false
set_option linter.unusedSectionVars false
open Go.RowKit
theorem kid_len (s : Sto) (x : It) : (kid s x).length ≤ 5 := by
 unfold kid
 split
 ·rename_i h; exact (wBy h).len
 exact Nat.zero_le _
def nextIt (xs : List It) (q : Ky) : Option It := if isAt xs q then xs[place xs q]? else if place xs q = 0 then none else xs[place xs q - 1]?
def findIn (s : Sto) (q : Ky) : Nat → List It → Option It
 | 0, xs => if isAt xs q then xs[place xs q]? else none
 | l + 1, xs => match nextIt xs q with | some x => findIn s q l (kid s x) | none => none
def fnd (s : Sto) (root : Int) (q : Ky) : Option It := match wCu s root.toNat with | some (lv, xs) => findIn s q lv.toNat xs | none => none
def FdPost (s : Sto) (root : Int) (q : Ky) (u : Value) (M' : Mem) : Prop := if (fchk s root).2 = 0 then
  match fnd s root q with
  | some x => ∃ va vc, u = .tuple #[.agg (itc x va vc).toArray, .int .i64 0] ∧ x.val.length ≤ vc ∧ SM M' va (wAj x.val)
  | none => u = .tuple #[.agg zeroIt.toArray, .int .i64 6]
 else u = .tuple #[.agg zeroIt.toArray, .int .i64 (fchk s root).2]
theorem FdPost.none {s : Sto} {root : Int} {q : Ky} {M' : Mem} (h : (fchk s root).2 = 0) (hf : fnd s root q = .none) : FdPost s root q (.tuple #[.agg zeroIt.toArray, .int .i64 6]) M' := by
 unfold FdPost; rw [if_pos h, hf]
theorem FdPost.some {s : Sto} {root : Int} {q : Ky} {M' : Mem} {x : It} {va : Option Addr} {vc : Nat} (h : (fchk s root).2 = 0) (hf : fnd s root q = .some x) (h1 : x.val.length ≤ vc) (h2 : SM M' va (wAj x.val)) : FdPost s root q (.tuple #[.agg (itc x va vc).toArray, .int .i64 0]) M' := by
 unfold FdPost; rw [if_pos h, hf]; exact ⟨va, vc, rfl, h1, h2⟩
def kle (a b : Ky) : Prop := wCt b a = false
theorem kl_iff {a b : Ky} : wCt a b = true ↔ (a.kind < b.kind ∨ a.kind = b.kind ∧ (a.id < b.id ∨ a.id = b.id ∧ a.off < b.off)) := by unfold wCt; exact decide_eq_true_iff
theorem kle_iff {a b : Ky} : kle a b ↔ ¬ (b.kind < a.kind ∨ b.kind = a.kind ∧ (b.id < a.id ∨ b.id = a.id ∧ b.off < a.off)) := by unfold kle wCt; exact decide_eq_false_iff_not
theorem kl_le {a b c : Ky} (h : wCt a b = true) (k : kle b c) : wCt a c = true := by rw [kl_iff, kle_iff] at *; omega
def Srt (ys : List It) : Prop := ys.Pairwise fun x y => wCt x.key y.key = true
def wFd (s : Sto) : Nat → It → List It
 | 0, x => [x]
 | l + 1, x => (kid s x).flatMap (wFd s l)
def allL (s : Sto) (l : Nat) (xs : List It) : List It := xs.flatMap (wFd s l)
structure InSp (p : Sp) (ys : List It) : Prop where
 srt : Srt ys
 btw : ∀ y ∈ ys, kle p.first y.key ∧ kle y.key p.last
 le : kle p.first p.last
structure TreeL (g : It → List It) (xs : List It) : Prop where
 pw : xs.Pairwise fun z w => (∀ y ∈ g z, wCt y.key w.key = true) ∧ wCt z.key w.key = true
 each : ∀ z ∈ xs, Srt (g z) ∧ ∀ y ∈ g z, kle z.key y.key
theorem TreeL.srt {g : It → List It} {xs : List It} (h : TreeL g xs) : Srt (xs.flatMap g) := by
 refine List.pairwise_flatMap.2 ⟨fun z hz => (h.each z hz).1, ?_⟩
 refine h.pw.imp_of_mem fun {z w} hz hw hr x hx y hy => ?_
 exact kl_le (hr.1 x hx) ((h.each w hw).2 y hy)
def btw (a b : Ky) (x : It) : Bool := !wCt x.key a && !wCt b x.key
theorem Srt.filter {ys : List It} (h : Srt ys) (p : It → Bool) : Srt (ys.filter p) := List.Pairwise.filter p h
structure RFacts (s : Sto) (root : Int) (a b : Ky) (l : List It) : Prop where
 lo : ∀ k (h : k < l.length), wCt l[k].key a = false
 hi : ∀ k (h : k < l.length), wCt b l[k].key = false
 up : ∀ k (h : k + 1 < l.length), wCt l[k].key l[k + 1].key = true
 fd : ∀ k (h : k < l.length), fnd s root l[k].key = some l[k]
 no : wCt b a = true → l = []
structure PFacts (s : Sto) (root : Int) (b : Ky) (l m n one : List It) : Prop where
 eq : l = m ++ n.drop one.length
 len : m.length + n.length = l.length + one.length
 le1 : one.length ≤ 1
 on : one.length ≤ n.length
 fd : (∃ x, fnd s root b = some x) ↔ one.length = 1
end Go.Proofs.YtbhkdjheooknfaaGreat
