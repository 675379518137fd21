/- Trees of nodes, without a program in sight. No statement of the seat is proved here. -/
import Derived.Test.YtkjghgndmpbfiaaGreatZBench
namespace Go.Proofs.YtkjghgndmpbfiaaGreat
set_option linter.unusedVariables false
set_option linter.unusedSectionVars false
set_option linter.unusedSimpArgs false
open Go.RowKit

structure Sp where
 first : Ky
 last : Ky
 is : Bool
abbrev spc (p : Sp) : List Value := [.int .u8 p.first.kind, .int .u32 p.first.id, .int .u32 p.first.off, .int .u8 p.last.kind, .int .u32 p.last.id, .int .u32 p.last.off, .bool p.is]
def spNo : Sp := ⟨⟨0, 0, 0⟩, ⟨0, 0, 0⟩, false⟩
def stepOk (one : Sp) (o : Option Sp) (x : It) : Bool := one.is && decide (one.first = x.key) && (match o with | none => true | some p => kless p.last one.first)
def stepSp (one : Sp) (o : Option Sp) : Sp := ⟨(match o with | none => one.first | some p => p.first), one.last, true⟩
def goSp (f : It → Sp) : Option Sp → List It → Sp
 | o, [] => o.getD spNo
 | o, x :: xs => if stepOk (f x) o x then goSp f (some (stepSp (f x) o)) xs else spNo
def oneOf (s : Sto) : Nat → It → Sp
 | 0, x => ⟨x.key, x.key, decide (x.ref = 0) || decide (0 < ((s.now.getD x.ref.toNat 0).toNat : Int))⟩
 | l + 1, x => match ndAt s x.ref.toNat with
  | some (lv, ys) => if lv = (l : Int) ∧ ys ≠ [] then goSp (oneOf s l) none ys else spNo
  | none => spNo
theorem go_bad {f : It → Sp} {o : Option Sp} {xs : List It} {k : Nat} (hk : k < xs.length) (hI : goSp f none xs = goSp f o (xs.drop k)) (h : stepOk (f xs[k]) o xs[k] = false) : goSp f none xs = spNo := by
 rw [hI, List.drop_eq_getElem_cons hk, goSp, if_neg (by rw [h]; decide)]
theorem go_on {f : It → Sp} {o : Option Sp} {xs : List It} {k : Nat} (hk : k < xs.length) (hI : goSp f none xs = goSp f o (xs.drop k)) (h : stepOk (f xs[k]) o xs[k] = true) : goSp f none xs = goSp f (some (stepSp (f xs[k]) o)) (xs.drop (k + 1)) := by
 rw [hI, List.drop_eq_getElem_cons hk, goSp, if_pos h]
theorem go_end {f : It → Sp} {o : Option Sp} {xs : List It} {k : Nat} (hk : k = xs.length) (hI : goSp f none xs = goSp f o (xs.drop k)) : goSp f none xs = o.getD spNo := by
 rw [hI, List.drop_eq_nil_of_le (by omega), goSp]
theorem step_none {s : Sto} {l : Nat} {x : It} {o : Option Sp} (h : ndAt s x.ref.toNat = none) : stepOk (oneOf s (l + 1) x) o x = false := by simp only [oneOf, h]; simp [stepOk, spNo]
theorem step_some {s : Sto} {l : Nat} {x : It} {o : Option Sp} {lv : Int} {ys : List It} (h : ndAt s x.ref.toNat = some (lv, ys)) (hn : ¬ (lv = (l : Int) ∧ ys ≠ [])) : stepOk (oneOf s (l + 1) x) o x = false := by
 simp only [oneOf, h]; rw [if_neg hn]; simp [stepOk, spNo]
theorem itemsOk_bad : ∀ {ab : Bool} {p : Option Ky} {xs : List It}, itemsOk ab p xs = true → ∀ x ∈ xs, itBad x = false ∧ (ab = true → x.ref ≠ 0 ∧ x.val = [])
 | _, _, [], _, x, hx => by cases hx
 | ab, p, y :: ys, h, x, hx => by
  simp only [itemsOk, Bool.and_eq_true, Bool.not_eq_true', Bool.or_eq_true] at h
  rcases List.mem_cons.1 hx with rfl | hx
  ·refine ⟨h.1.1.1, fun ha => ?_⟩
   rcases h.1.2 with h2 | h2
   ·rw [ha] at h2; cases h2
   ·refine ⟨by simpa using h2.1, ?_⟩
    have h3 := h2.2
    exact List.eq_nil_of_length_eq_zero (by simpa using h3)
  ·exact itemsOk_bad h.2 x hx
structure NdOk (lv : Int) (xs : List It) : Prop where
 lev : 0 ≤ lv ∧ lv < 6
 len : xs.length ≤ 5
 ref : ∀ x ∈ xs, x.ref = 0 ∨ 8 ≤ x.ref ∧ x.ref < 256
 up : 0 < lv → ∀ x ∈ xs, x.ref ≠ 0
 ok : itemsOk (decide (0 < lv)) none xs = true
theorem NdOk.of {lv : Int} {xs : List It} (h : ndOk lv xs = true) : NdOk lv xs := by
 unfold ndOk at h
 rw [Bool.and_eq_true, decide_eq_true_eq] at h
 refine ⟨⟨h.1.1, h.1.2.1⟩, h.1.2.2.1, fun x hx => ?_, fun hl x hx => ((itemsOk_bad h.2 x hx).2 (by simpa using hl)).1, h.2⟩
 have := (itemsOk_bad h.2 x hx).1
 unfold itBad at this
 have := of_decide_eq_false this
 omega
theorem rdNode_ok {blk : List By} {lv : Int} {xs : List It} (h : rdNode blk = some (lv, xs)) : NdOk lv xs := by
 unfold rdNode at h
 split at h
 ·split at h
  ·split at h
   ·split at h
    ·rename_i hh
     cases h
     refine NdOk.of ?_
     have := hh.1
     unfold ndChk at this
     by_cases hn : ndOk (((blk.drop 4).getD 1 0).toNat : Int) xs = true
     ·exact hn
     ·rw [if_neg hn] at this; cases this
    ·cases h
   ·cases h
  ·cases h
 ·cases h
theorem ndAt_ok {s : Sto} {k : Nat} {lv : Int} {xs : List It} (h : ndAt s k = some (lv, xs)) : NdOk lv xs := by
 unfold ndAt at h
 split at h
 ·cases h
 ·exact rdNode_ok h
def treeOk (s : Sto) (l : Nat) (xs : List It) : Prop := xs ≠ [] → (goSp (oneOf s l) none xs).is = true
instance (s : Sto) (l : Nat) (xs : List It) : Decidable (treeOk s l xs) := by unfold treeOk; exact inferInstance
/-! ### trees -/
theorem goSp_all {f : It → Sp} : ∀ {xs : List It} {o : Option Sp}, (goSp f o xs).is = true → ∀ x ∈ xs, (f x).is = true ∧ (f x).first = x.key
 | [], _, _, x, hx => by cases hx
 | y :: ys, o, h, x, hx => by
  rw [goSp] at h
  split at h
  ·rename_i hs
   rcases List.mem_cons.1 hx with rfl | hx
   ·unfold stepOk at hs
    rw [Bool.and_eq_true, Bool.and_eq_true, decide_eq_true_eq] at hs
    exact hs.1
   ·exact goSp_all h x hx
  ·cases h
theorem one_up {s : Sto} {l : Nat} {x : It} (h : (oneOf s (l + 1) x).is = true) : ∃ ys, ndAt s x.ref.toNat = some ((l : Int), ys) ∧ ys ≠ [] ∧ oneOf s (l + 1) x = goSp (oneOf s l) none ys := by
 simp only [oneOf] at h ⊢
 split at h
 ·rename_i lv ys hnd
  split at h
  ·rename_i hc
   obtain ⟨rfl, hys⟩ := hc
   exact ⟨ys, hnd, hys, if_pos ⟨rfl, hys⟩⟩
  ·cases h
 ·cases h
theorem tree_child {s : Sto} {l : Nat} {xs : List It} (h : treeOk s (l + 1) xs) {x : It} (hx : x ∈ xs) : ∃ ys, ndAt s x.ref.toNat = some ((l : Int), ys) ∧ ys ≠ [] ∧ treeOk s l ys := by
 have h1 := (goSp_all (h (List.ne_nil_of_mem hx)) x hx).1
 obtain ⟨ys, h2, h3, h4⟩ := one_up h1
 exact ⟨ys, h2, h3, fun _ => by rw [← h4]; exact h1⟩

def kid (s : Sto) (x : It) : List It := match ndAt s x.ref.toNat with | some (_, ys) => ys | none => []
theorem BnPost.form {s : Sto} {k : Nat} {u : Value} {M' : Mem} (h : BnPost s k u M') : ∃ lv a n c e, u = .tuple #[.agg #[.int .i64 lv, .slice a n c], .int .i64 e] ∧ ((e = 8 ∧ ndAt s k = none) ∨ (e = 0 ∧ ∃ xs, ndAt s k = some (lv, xs) ∧ n = xs.length ∧ NS M' (.slice a xs.length c) xs)) := by
 unfold BnPost at h
 split at h
 ·rename_i lv xs hr
  obtain ⟨sl, rfl, hns⟩ := h
  obtain ⟨a, c, ps, rfl, h1, h2, h3, h4⟩ := id hns
  exact ⟨lv, a, _, c, 0, rfl, .inr ⟨rfl, xs, hr, rfl, hns⟩⟩
 ·rename_i hr
  exact ⟨0, none, 0, 0, 8, h, .inl ⟨rfl, hr⟩⟩
end Go.Proofs.YtkjghgndmpbfiaaGreat
