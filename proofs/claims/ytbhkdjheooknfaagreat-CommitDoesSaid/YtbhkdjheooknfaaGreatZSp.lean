/- Trees of nodes, without a program in sight. No statement of the seat is proved here. -/
import Derived.Test.YtbhkdjheooknfaaGreatZBench
namespace Go.Proofs.YtbhkdjheooknfaaGreat
set_option linter.unusedVariables false
set_option linter.unusedSectionVars false
set_option linter.unusedSimpArgs false
open Go.RowKit
structure Sp where
 first : Ky
 last : Ky
 is : Bool
def wGb : Sp := ⟨⟨0, 0, 0⟩, ⟨0, 0, 0⟩, false⟩
def wBv (one : Sp) (o : Option Sp) (x : It) : Bool := one.is && decide (one.first = x.key) && (match o with | none => true | some p => wCt p.last one.first)
def wEt (one : Sp) (o : Option Sp) : Sp := ⟨(match o with | none => one.first | some p => p.first), one.last, true⟩
def wGd (f : It → Sp) : Option Sp → List It → Sp
 | o, [] => o.getD wGb
 | o, x :: xs => if wBv (f x) o x then wGd f (some (wEt (f x) o)) xs else wGb
def wBo (s : Sto) : Nat → It → Sp
 | 0, x => ⟨x.key, x.key, decide (x.ref = 0) || decide (0 < ((s.now.getD x.ref.toNat 0).toNat : Int))⟩
 | l + 1, x => match wCu s x.ref.toNat with
  | some (lv, ys) => if lv = (l : Int) ∧ ys ≠ [] then wGd (wBo s l) none ys else wGb
  | none => wGb
theorem go_bad {f : It → Sp} {o : Option Sp} {xs : List It} {k : Nat} (hk : k < xs.length) (hI : wGd f none xs = wGd f o (xs.drop k)) (h : wBv (f xs[k]) o xs[k] = false) : wGd f none xs = wGb := by
 rw [hI, List.drop_eq_getElem_cons hk, wGd, if_neg (by rw [h]; decide)]
theorem go_on {f : It → Sp} {o : Option Sp} {xs : List It} {k : Nat} (hk : k < xs.length) (hI : wGd f none xs = wGd f o (xs.drop k)) (h : wBv (f xs[k]) o xs[k] = true) : wGd f none xs = wGd f (some (wEt (f xs[k]) o)) (xs.drop (k + 1)) := by
 rw [hI, List.drop_eq_getElem_cons hk, wGd, if_pos h]
theorem go_end {f : It → Sp} {o : Option Sp} {xs : List It} {k : Nat} (hk : k = xs.length) (hI : wGd f none xs = wGd f o (xs.drop k)) : wGd f none xs = o.getD wGb := by
 rw [hI, List.drop_eq_nil_of_le (by omega), wGd]
theorem wEm : ∀ {ab : Bool} {p : Option Ky} {xs : List It}, wCd ab p xs = true → ∀ x ∈ xs, wDq x = false ∧ (ab = true → x.ref ≠ 0 ∧ x.val = [])
 | _, _, [], _, x, hx => by cases hx
 | ab, p, y :: ys, h, x, hx => by
  simp only [wCd, Bool.and_eq_true, Bool.not_eq_true', Bool.or_eq_true] at h
  rcases List.mem_cons.1 hx with rfl | hx
  ·refine ⟨h.1.1.1, fun ha => ?_⟩
   rcases h.1.2 with h2 | h2
   ·rw [ha] at h2; cases h2
   refine ⟨by simpa using h2.1, ?_⟩
   have h3 := h2.2
   exact List.eq_nil_of_length_eq_zero (by simpa using h3)
  exact wEm h.2 x hx
structure NdOk (lv : Int) (xs : List It) : Prop where
 lev : 0 ≤ lv ∧ lv < 6
 len : xs.length ≤ 5
 ref : ∀ x ∈ xs, x.ref = 0 ∨ 8 ≤ x.ref ∧ x.ref < 256
 up : 0 < lv → ∀ x ∈ xs, x.ref ≠ 0
 ok : wCd (decide (0 < lv)) none xs = true
theorem NdOk.of {lv : Int} {xs : List It} (h : ndOk lv xs = true) : NdOk lv xs := by
 unfold ndOk at h
 rw [Bool.and_eq_true, decide_eq_true_eq] at h
 refine ⟨⟨h.1.1, h.1.2.1⟩, h.1.2.2.1, fun x hx => ?_, fun hl x hx => ((wEm h.2 x hx).2 (by simpa using hl)).1, h.2⟩
 have := (wEm h.2 x hx).1
 unfold wDq at this
 have := of_decide_eq_false this
 omega
theorem rdNode_ok {blk : List By} {lv : Int} {xs : List It} (h : wDj blk = some (lv, xs)) : NdOk lv xs := by
 unfold wDj at h
 split at h
 ·split at h
  ·split at h
   ·split at h
    ·rename_i hh
     cases h
     refine NdOk.of ?_
     have := hh.1
     unfold wFg at this
     by_cases hn : ndOk (((blk.drop 4).getD 1 0).toNat : Int) xs = true
     ·exact hn
     rw [if_neg hn] at this; cases this
    cases h
   cases h
  cases h
 cases h
theorem wBy {s : Sto} {k : Nat} {lv : Int} {xs : List It} (h : wCu s k = some (lv, xs)) : NdOk lv xs := by
 unfold wCu at h
 split at h
 ·cases h
 exact rdNode_ok h
def wHa (s : Sto) (l : Nat) (xs : List It) : Prop := xs ≠ [] → (wGd (wBo s l) none xs).is = true
instance (s : Sto) (l : Nat) (xs : List It) : Decidable (wHa s l xs) := by unfold wHa; exact inferInstance
theorem goSp_all {f : It → Sp} : ∀ {xs : List It} {o : Option Sp}, (wGd f o xs).is = true → ∀ x ∈ xs, (f x).is = true ∧ (f x).first = x.key
 | [], _, _, x, hx => by cases hx
 | y :: ys, o, h, x, hx => by
  rw [wGd] at h
  split at h
  ·rename_i hs
   rcases List.mem_cons.1 hx with rfl | hx
   ·unfold wBv at hs
    rw [Bool.and_eq_true, Bool.and_eq_true, decide_eq_true_eq] at hs
    exact hs.1
   exact goSp_all h x hx
  cases h
theorem one_up {s : Sto} {l : Nat} {x : It} (h : (wBo s (l + 1) x).is = true) : ∃ ys, wCu s x.ref.toNat = some ((l : Int), ys) ∧ ys ≠ [] ∧ wBo s (l + 1) x = wGd (wBo s l) none ys := by
 simp only [wBo] at h ⊢
 split at h
 ·rename_i lv ys hnd
  split at h
  ·rename_i hc
   obtain ⟨rfl, hys⟩ := hc
   exact ⟨ys, hnd, hys, if_pos ⟨rfl, hys⟩⟩
  cases h
 cases h
theorem tree_child {s : Sto} {l : Nat} {xs : List It} (h : wHa s (l + 1) xs) {x : It} (hx : x ∈ xs) : ∃ ys, wCu s x.ref.toNat = some ((l : Int), ys) ∧ ys ≠ [] ∧ wHa s l ys := by
 have h1 := (goSp_all (h (List.ne_nil_of_mem hx)) x hx).1
 obtain ⟨ys, h2, h3, h4⟩ := one_up h1
 exact ⟨ys, h2, h3, fun _ => by rw [← h4]; exact h1⟩
def kid (s : Sto) (x : It) : List It := match wCu s x.ref.toNat with | some (_, ys) => ys | none => []
theorem BnPost.form {s : Sto} {k : Nat} {u : Value} {M' : Mem} (h : BnPost s k u M') : ∃ lv a n c e, u = .tuple #[.agg #[.int .i64 lv, .slice a n c], .int .i64 e] ∧ ((e = 8 ∧ wCu s k = none) ∨ (e = 0 ∧ ∃ xs, wCu s k = some (lv, xs) ∧ n = xs.length ∧ NS M' (.slice a xs.length c) xs)) := by
 unfold BnPost at h
 split at h
 ·rename_i lv xs hr
  obtain ⟨sl, rfl, hns⟩ := h
  obtain ⟨a, c, ps, rfl, h1, h2, h3, h4⟩ := id hns
  exact ⟨lv, a, _, c, 0, rfl, .inr ⟨rfl, xs, hr, rfl, hns⟩⟩
 rename_i hr
 exact ⟨0, none, 0, 0, 8, h, .inl ⟨rfl, hr⟩⟩
end Go.Proofs.YtbhkdjheooknfaaGreat
