/- Trees, without a program in sight: what is between two keys rises, and is found. No statement of the seat is proved here. -/
import Derived.Test.YtoincdcejjdgkaaGreatZFind
import Derived.Test.YtoincdcejjdgkaaGreatZStore
namespace Go.Proofs.YtoincdcejjdgkaaGreat
set_option linter.unusedSimpArgs false
set_option linter.unusedVariables false
open Go.RowKit
def goDown (f : It → List It) (q : Ky) : List It → List It
 | [] => []
 | x :: xs => (match xs with | [] => f x | y :: _ => if wCc q y.key then f x else []) ++ goDown f q xs
def downL (s : Sto) (q : Ky) : Nat → List It → List It
 | 0, xs => xs.filter fun x => !wCc x.key q
 | l + 1, xs => goDown (fun x => downL s q l (kid s x)) q xs
structure CF (M : Mem) (s : Sto) (q : Ky) (l c1 c2 c3 c4 : Nat) : Prop where
 bn : ∃ p, M c1 = some (.cells [.pointer (some ⟨p, 0, none⟩)].toArray 92 (0, 0)) ∧ BN M (.pointer (some ⟨p, 0, none⟩)) s
 fr : M c2 = some (.cells (wCu q).toArray 65 (0, 0))
 yi : M c3 = some (.cells [.func (.yield l) #[] #[]].toArray 148 (0, 0))
 cl : M c4 = some (.cells [.func (.func 83) #[] #[.pointer (some ⟨c1, 0, none⟩), .pointer (some ⟨c2, 0, none⟩), .pointer (some ⟨c3, 0, none⟩), .pointer (some ⟨c4, 0, none⟩)]].toArray 149 (0, 0))
theorem CF.mono {M M' : Mem} {s : Sto} {q : Ky} {l c1 c2 c3 c4 : Nat} (h : CF M s q l c1 c2 c3 c4) (hM : MLe M M') : CF M' s q l c1 c2 c3 c4 := by
 obtain ⟨⟨p, h1, h2⟩, h3, h4, h5⟩ := h
 exact ⟨⟨p, hM _ _ h1, h2.mono hM⟩, hM _ _ h3, hM _ _ h4, hM _ _ h5⟩
theorem fchk_ok {s : Sto} {root : Int} (h : (wHw s root).2 = 0) : wCq s ∧ 8 ≤ root ∧ root < 256 ∧ ¬ s.now.getD root.toNat 0 = 0 ∧ ∃ (lev : Nat) (xs : List It), wBy s root.toNat = some ((lev : Int), xs) ∧ wEf s lev xs ∧ (wHw s root).1 = lev + 1 := by
 by_cases h1 : wCq s
 ·by_cases h2 : root < 8 ∨ 256 ≤ root
  ·exfalso; unfold wHw at h; rw [if_pos h1, if_pos h2] at h; cases h
  ·by_cases h3 : s.now.getD root.toNat 0 = 0
   ·exfalso; unfold wHw at h; rw [if_pos h1, if_neg h2, if_pos h3] at h; cases h
   ·rw [fchk_nd h1 h2 h3] at h
    split at h
    ·cases h
    ·rename_i lv xs hnd
     have hlv := (wCm hnd).lev
     split at h
     ·rename_i ht
      refine ⟨h1, by omega, by omega, h3, lv.toNat, xs, by rw [hnd, Int.toNat_of_nonneg hlv.1], ht, ?_⟩
      rw [fchk_nd h1 h2 h3, hnd]
      show (if wEf s lv.toNat xs then (lv + 1, 0) else (0, 8) : Int × Int).1 = _
      rw [if_pos ht, Int.toNat_of_nonneg hlv.1]
     ·cases h
 ·exfalso; unfold wHw at h; rw [if_neg h1] at h; cases h
def rng (s : Sto) (root : Int) (a b : Ky) : List It := match wBy s root.toNat with
 | some (lv, xs) => (downL s a lv.toNat xs).takeWhile fun x => !wCc b x.key
 | none => []
theorem fcheck_spec (s : Sto) (v : Value) (root : Int) (M : Mem) (h : ST M v s) : SpecL Tryz.prog 49 #[v, .int .i64 root] M [] fun u _ _ => u = .tuple #[.int .i64 (wHw s root).1, .int .i64 (wHw s root).2] := by
 obtain ⟨bv, wv, nv, lv, rfl, h1, h2, h3, h4⟩ := h.ex
 exact fcheck_walk s root bv wv nv lv M h1 h2 h3 h4
def nextIt (xs : List It) (q : Ky) : Option It := if isAt xs q then xs[wDi xs q]? else if wDi xs q = 0 then none else xs[wDi xs q - 1]?
def findIn (s : Sto) (q : Ky) : Nat → List It → Option It
 | 0, xs => if isAt xs q then xs[wDi xs q]? else none
 | l + 1, xs => match nextIt xs q with | some x => findIn s q l (kid s x) | none => none
def fnd (s : Sto) (root : Int) (q : Ky) : Option It := match wBy s root.toNat with | some (lv, xs) => findIn s q lv.toNat xs | none => none
def FdPost (s : Sto) (root : Int) (q : Ky) (u : Value) (M' : Mem) : Prop := if (wHw s root).2 = 0 then
  match fnd s root q with
  | some x => ∃ va vc, u = .tuple #[.agg (itc x va vc).toArray, .int .i64 0] ∧ x.val.length ≤ vc ∧ SM M' va (wAn x.val)
  | none => u = .tuple #[.agg zeroIt.toArray, .int .i64 6]
 else u = .tuple #[.agg zeroIt.toArray, .int .i64 (wHw s root).2]
theorem FdPost.none {s : Sto} {root : Int} {q : Ky} {M' : Mem} (h : (wHw s root).2 = 0) (hf : fnd s root q = .none) : FdPost s root q (.tuple #[.agg zeroIt.toArray, .int .i64 6]) M' := by
 unfold FdPost; rw [if_pos h, hf]
theorem FdPost.some {s : Sto} {root : Int} {q : Ky} {M' : Mem} {x : It} {va : Option Addr} {vc : Nat} (h : (wHw s root).2 = 0) (hf : fnd s root q = .some x) (h1 : x.val.length ≤ vc) (h2 : SM M' va (wAn x.val)) : FdPost s root q (.tuple #[.agg (itc x va vc).toArray, .int .i64 0]) M' := by
 unfold FdPost; rw [if_pos h, hf]; exact ⟨va, vc, rfl, h1, h2⟩
theorem isAt_lt {xs : List It} {q : Ky} (h : isAt xs q = true) : wDi xs q < xs.length := by
 unfold isAt at h
 rcases Nat.lt_or_ge (wDi xs q) xs.length with h' | h'
 ·exact h'
 ·rw [List.getElem?_eq_none h'] at h; cases of_decide_eq_true h
def kle (a b : Ky) : Prop := wCc b a = false
theorem kl_iff {a b : Ky} : wCc a b = true ↔ (a.kind < b.kind ∨ a.kind = b.kind ∧ (a.id < b.id ∨ a.id = b.id ∧ a.off < b.off)) := by unfold wCc; exact decide_eq_true_iff
theorem kle_iff {a b : Ky} : kle a b ↔ ¬ (b.kind < a.kind ∨ b.kind = a.kind ∧ (b.id < a.id ∨ b.id = a.id ∧ b.off < a.off)) := by unfold kle wCc; exact decide_eq_false_iff_not
theorem kl_le {a b c : Ky} (h : wCc a b = true) (k : kle b c) : wCc a c = true := by rw [kl_iff, kle_iff] at *; omega
def Srt (ys : List It) : Prop := ys.Pairwise fun x y => wCc x.key y.key = true
def allOne (s : Sto) : Nat → It → List It
 | 0, x => [x]
 | l + 1, x => (kid s x).flatMap (allOne s l)
def allL (s : Sto) (l : Nat) (xs : List It) : List It := xs.flatMap (allOne s l)
structure InSp (p : Sp) (ys : List It) : Prop where
 srt : Srt ys
 btw : ∀ y ∈ ys, kle p.first y.key ∧ kle y.key p.last
 le : kle p.first p.last
structure TreeL (g : It → List It) (xs : List It) : Prop where
 pw : xs.Pairwise fun z w => (∀ y ∈ g z, wCc y.key w.key = true) ∧ wCc z.key w.key = true
 each : ∀ z ∈ xs, Srt (g z) ∧ ∀ y ∈ g z, kle z.key y.key
def headK : List It → Ky
 | [] => ⟨0, 0, 0⟩
 | x :: _ => x.key
theorem TreeL.srt {g : It → List It} {xs : List It} (h : TreeL g xs) : Srt (xs.flatMap g) := by
 refine List.pairwise_flatMap.2 ⟨fun z hz => (h.each z hz).1, ?_⟩
 refine h.pw.imp_of_mem fun {z w} hz hw hr x hx y hy => ?_
 exact kl_le (hr.1 x hx) ((h.each w hw).2 y hy)
def allT (s : Sto) (root : Int) : List It := match wBy s root.toNat with | some (lv, xs) => allL s lv.toNat xs | none => []
def btw (a b : Ky) (x : It) : Bool := !wCc x.key a && !wCc b x.key
theorem Srt.filter {ys : List It} (h : Srt ys) (p : It → Bool) : Srt (ys.filter p) := List.Pairwise.filter p h
structure RFacts (s : Sto) (root : Int) (a b : Ky) (l : List It) : Prop where
 lo : ∀ k (h : k < l.length), wCc l[k].key a = false
 hi : ∀ k (h : k < l.length), wCc b l[k].key = false
 up : ∀ k (h : k + 1 < l.length), wCc l[k].key l[k + 1].key = true
 fd : ∀ k (h : k < l.length), fnd s root l[k].key = some l[k]
 no : wCc b a = true → l = []
structure PFacts (s : Sto) (root : Int) (b : Ky) (l m n one : List It) : Prop where
 eq : l = m ++ n.drop one.length
 len : m.length + n.length = l.length + one.length
 le1 : one.length ≤ 1
 on : one.length ≤ n.length
 fd : (∃ x, fnd s root b = some x) ↔ one.length = 1
end Go.Proofs.YtoincdcejjdgkaaGreat
