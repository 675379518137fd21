/- Trees of nodes, without a program in sight. No statement of the seat is proved here. -/
import Derived.Test.YtckdncmjkloebaaGreatZBench
namespace Go.Proofs.YtckdncmjkloebaaGreat
set_option linter.unusedVariables false
set_option linter.unusedSimpArgs false
open Go.RowKit
structure Sp where
 first : Ky
 last : Ky
 is : Bool
abbrev spc (p : Sp) : List Value := [.int .u8 p.first.kind, .int .u32 p.first.id, .int .u32 p.first.off, .int .u8 p.last.kind, .int .u32 p.last.id, .int .u32 p.last.off, .bool p.is]
def wLo : Sp := ⟨⟨0, 0, 0⟩, ⟨0, 0, 0⟩, false⟩
def wCa (one : Sp) (o : Option Sp) (x : It) : Bool := one.is && decide (one.first = x.key) && (match o with | none => true | some p => wBe p.last one.first)
def wEa (one : Sp) (o : Option Sp) : Sp := ⟨(match o with | none => one.first | some p => p.first), one.last, true⟩
def wFo (f : It → Sp) : Option Sp → List It → Sp
 | o, [] => o.getD wLo
 | o, x :: xs => if wCa (f x) o x then wFo f (some (wEa (f x) o)) xs else wLo
def wDd (s : Sto) : Nat → It → Sp
 | 0, x => ⟨x.key, x.key, decide (x.ref = 0) || decide (0 < ((s.now.getD x.ref.toNat 0).toNat : Int))⟩
 | l + 1, x => match wBs s x.ref.toNat with
  | some (lv, ys) => if lv = (l : Int) ∧ ys ≠ [] then wFo (wDd s l) none ys else wLo
  | none => wLo
theorem wGm {f : It → Sp} {o : Option Sp} {xs : List It} {k : Nat} (hk : k < xs.length) (hI : wFo f none xs = wFo f o (xs.drop k)) (h : wCa (f xs[k]) o xs[k] = false) : wFo f none xs = wLo := by
 rw [hI, List.drop_eq_getElem_cons hk, wFo, if_neg (by rw [h]; decide)]
theorem go_on {f : It → Sp} {o : Option Sp} {xs : List It} {k : Nat} (hk : k < xs.length) (hI : wFo f none xs = wFo f o (xs.drop k)) (h : wCa (f xs[k]) o xs[k] = true) : wFo f none xs = wFo f (some (wEa (f xs[k]) o)) (xs.drop (k + 1)) := by
 rw [hI, List.drop_eq_getElem_cons hk, wFo, if_pos h]
theorem go_end {f : It → Sp} {o : Option Sp} {xs : List It} {k : Nat} (hk : k = xs.length) (hI : wFo f none xs = wFo f o (xs.drop k)) : wFo f none xs = o.getD wLo := by
 rw [hI, List.drop_eq_nil_of_le (by omega), wFo]
theorem step_none {s : Sto} {l : Nat} {x : It} {o : Option Sp} (h : wBs s x.ref.toNat = none) : wCa (wDd s (l + 1) x) o x = false := by simp only [wDd, h]; simp [wCa, wLo]
theorem step_some {s : Sto} {l : Nat} {x : It} {o : Option Sp} {lv : Int} {ys : List It} (h : wBs s x.ref.toNat = some (lv, ys)) (hn : ¬ (lv = (l : Int) ∧ ys ≠ [])) : wCa (wDd s (l + 1) x) o x = false := by
 simp only [wDd, h]; rw [if_neg hn]; simp [wCa, wLo]
theorem wDv : ∀ {ab : Bool} {p : Option Ky} {xs : List It}, wDg ab p xs = true → ∀ x ∈ xs, wEd x = false ∧ (ab = true → x.ref ≠ 0 ∧ x.val = [])
 | _, _, [], _, x, hx => by cases hx
 | ab, p, y :: ys, h, x, hx => by
  simp only [wDg, Bool.and_eq_true, Bool.not_eq_true', Bool.or_eq_true] at h
  rcases List.mem_cons.1 hx with rfl | hx
  ·refine ⟨h.1.1.1, fun ha => ?_⟩
   rcases h.1.2 with h2 | h2
   ·rw [ha] at h2; cases h2
   ·refine ⟨by simpa using h2.1, ?_⟩
    have h3 := h2.2
    exact List.eq_nil_of_length_eq_zero (by simpa using h3)
  ·exact wDv h.2 x hx
structure NdOk (lv : Int) (xs : List It) : Prop where
 lev : 0 ≤ lv ∧ lv < 6
 len : xs.length ≤ 5
 ref : ∀ x ∈ xs, x.ref = 0 ∨ 8 ≤ x.ref ∧ x.ref < 256
 up : 0 < lv → ∀ x ∈ xs, x.ref ≠ 0
 ok : wDg (decide (0 < lv)) none xs = true
theorem NdOk.of {lv : Int} {xs : List It} (h : wHn lv xs = true) : NdOk lv xs := by
 unfold wHn at h
 rw [Bool.and_eq_true, decide_eq_true_eq] at h
 refine ⟨⟨h.1.1, h.1.2.1⟩, h.1.2.2.1, fun x hx => ?_, fun hl x hx => ((wDv h.2 x hx).2 (by simpa using hl)).1, h.2⟩
 have := (wDv h.2 x hx).1
 unfold wEd at this
 have := of_decide_eq_false this
 omega
theorem rdNode_ok {blk : List By} {lv : Int} {xs : List It} (h : wFs blk = some (lv, xs)) : NdOk lv xs := by
 unfold wFs at h
 split at h
 ·split at h
  ·split at h
   ·split at h
    ·rename_i hh
     cases h
     refine NdOk.of ?_
     have := hh.1
     unfold wFj at this
     by_cases hn : wHn (((blk.drop 4).getD 1 0).toNat : Int) xs = true
     ·exact hn
     ·rw [if_neg hn] at this; cases this
    ·cases h
   ·cases h
  ·cases h
 ·cases h
theorem wBm {s : Sto} {k : Nat} {lv : Int} {xs : List It} (h : wBs s k = some (lv, xs)) : NdOk lv xs := by
 unfold wBs at h
 split at h
 ·cases h
 ·exact rdNode_ok h
def wBy (s : Sto) (l : Nat) (xs : List It) : Prop := xs ≠ [] → (wFo (wDd s l) none xs).is = true
instance (s : Sto) (l : Nat) (xs : List It) : Decidable (wBy s l xs) := by unfold wBy; exact inferInstance
theorem wKi {f : It → Sp} : ∀ {xs : List It} {o : Option Sp}, (wFo f o xs).is = true → ∀ x ∈ xs, (f x).is = true ∧ (f x).first = x.key
 | [], _, _, x, hx => by cases hx
 | y :: ys, o, h, x, hx => by
  rw [wFo] at h
  split at h
  ·rename_i hs
   rcases List.mem_cons.1 hx with rfl | hx
   ·unfold wCa at hs
    rw [Bool.and_eq_true, Bool.and_eq_true, decide_eq_true_eq] at hs
    exact hs.1
   ·exact wKi h x hx
  ·cases h
theorem one_up {s : Sto} {l : Nat} {x : It} (h : (wDd s (l + 1) x).is = true) : ∃ ys, wBs s x.ref.toNat = some ((l : Int), ys) ∧ ys ≠ [] ∧ wDd s (l + 1) x = wFo (wDd s l) none ys := by
 simp only [wDd] at h ⊢
 split at h
 ·rename_i lv ys hnd
  split at h
  ·rename_i hc
   obtain ⟨rfl, hys⟩ := hc
   exact ⟨ys, hnd, hys, if_pos ⟨rfl, hys⟩⟩
  ·cases h
 ·cases h
theorem wCu {s : Sto} {l : Nat} {xs : List It} (h : wBy s (l + 1) xs) {x : It} (hx : x ∈ xs) : ∃ ys, wBs s x.ref.toNat = some ((l : Int), ys) ∧ ys ≠ [] ∧ wBy s l ys := by
 have h1 := (wKi (h (List.ne_nil_of_mem hx)) x hx).1
 obtain ⟨ys, h2, h3, h4⟩ := one_up h1
 exact ⟨ys, h2, h3, fun _ => by rw [← h4]; exact h1⟩
def kid (s : Sto) (x : It) : List It := match wBs s x.ref.toNat with | some (_, ys) => ys | none => []
theorem BnPost.form {s : Sto} {k : Nat} {u : Value} {M' : Mem} (h : BnPost s k u M') : ∃ lv a n c e, u = .tuple #[.agg #[.int .i64 lv, .slice a n c], .int .i64 e] ∧ ((e = 8 ∧ wBs s k = none) ∨ (e = 0 ∧ ∃ xs, wBs s k = some (lv, xs) ∧ n = xs.length ∧ NS M' (.slice a xs.length c) xs)) := by
 unfold BnPost at h
 split at h
 ·rename_i lv xs hr
  obtain ⟨sl, rfl, hns⟩ := h
  obtain ⟨a, c, ps, rfl, h1, h2, h3, h4⟩ := id hns
  exact ⟨lv, a, _, c, 0, rfl, .inr ⟨rfl, xs, hr, rfl, hns⟩⟩
 ·rename_i hr
  exact ⟨0, none, 0, 0, 8, h, .inl ⟨rfl, hr⟩⟩
end Go.Proofs.YtckdncmjkloebaaGreat
