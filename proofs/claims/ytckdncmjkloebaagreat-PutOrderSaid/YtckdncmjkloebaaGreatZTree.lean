/- Trees, without a program in sight: what is between two keys rises, and is found. No statement of the seat is proved here. -/
import Derived.Test.YtckdncmjkloebaaGreatZRange
namespace Go.Proofs.YtckdncmjkloebaaGreat
set_option linter.unusedVariables false
set_option linter.unusedSimpArgs false
open Go.RowKit

/-! ### keys -/
def kle (a b : Ky) : Prop := kless b a = false
theorem kl_iff {a b : Ky} : kless a b = true ↔ (a.kind < b.kind ∨ a.kind = b.kind ∧ (a.id < b.id ∨ a.id = b.id ∧ a.off < b.off)) := by unfold kless; exact decide_eq_true_iff
theorem kle_iff {a b : Ky} : kle a b ↔ ¬ (b.kind < a.kind ∨ b.kind = a.kind ∧ (b.id < a.id ∨ b.id = a.id ∧ b.off < a.off)) := by unfold kle kless; exact decide_eq_false_iff_not
theorem kle_refl (a : Ky) : kle a a := by rw [kle_iff]; omega
theorem kl_trans {a b c : Ky} (h : kless a b = true) (k : kless b c = true) : kless a c = true := by rw [kl_iff] at *; omega
theorem kle_trans {a b c : Ky} (h : kle a b) (k : kle b c) : kle a c := by rw [kle_iff] at *; omega
theorem kl_le {a b c : Ky} (h : kless a b = true) (k : kle b c) : kless a c = true := by rw [kl_iff, kle_iff] at *; omega
theorem kle_lt {a b c : Ky} (h : kle a b) (k : kless b c = true) : kless a c = true := by rw [kl_iff, kle_iff] at *; omega
theorem kl_kle {a b : Ky} (h : kless a b = true) : kle a b := by rw [kl_iff] at h; rw [kle_iff]; omega
theorem kl_irr {a : Ky} : kless a a = false := kle_refl a
theorem kle_eq_or {a b : Ky} (h : kle a b) : a = b ∨ kless a b = true := by
 rw [kle_iff] at h; rw [kl_iff]
 by_cases e : a.kind = b.kind ∧ a.id = b.id ∧ a.off = b.off
 ·left; obtain ⟨a1, a2, a3⟩ := a; obtain ⟨b1, b2, b3⟩ := b; simp_all
 ·right; omega

/-! ### trees -/
def Srt (ys : List It) : Prop := ys.Pairwise fun x y => kless x.key y.key = true
def allOne (s : Sto) : Nat → It → List It
 | 0, x => [x]
 | l + 1, x => (kid s x).flatMap (allOne s l)
/-- the items of a tree -/
def allL (s : Sto) (l : Nat) (xs : List It) : List It := xs.flatMap (allOne s l)
structure InSp (p : Sp) (ys : List It) : Prop where
 srt : Srt ys
 btw : ∀ y ∈ ys, kle p.first y.key ∧ kle y.key p.last
 le : kle p.first p.last
structure TreeL (g : It → List It) (xs : List It) : Prop where
 pw : xs.Pairwise fun z w => (∀ y ∈ g z, kless y.key w.key = true) ∧ kless z.key w.key = true
 each : ∀ z ∈ xs, Srt (g z) ∧ ∀ y ∈ g z, kle z.key y.key
def headK : List It → Ky
 | [] => ⟨0, 0, 0⟩
 | x :: _ => x.key
theorem go_in {f : It → Sp} {g : It → List It} : ∀ {xs : List It} {o : Option Sp}, (∀ x ∈ xs, (f x).is = true → (f x).first = x.key → InSp (f x) (g x)) → (goSp f o xs).is = true → xs ≠ [] →
  TreeL g xs ∧ (∀ z ∈ xs, ∀ y ∈ g z, kle y.key (goSp f o xs).last) ∧ (∀ z ∈ xs, kle z.key (goSp f o xs).last) ∧ (∀ q, o = some q → ∀ z ∈ xs, kless q.last z.key = true) ∧ (goSp f o xs).first = (match o with | none => headK xs | some q => q.first)
 | [], _, _, _, h => absurd rfl h
 | x :: xs, o, hg, his, _ => by
  rw [goSp] at his ⊢
  split at his
  case isFalse => cases his
  rename_i hs
  rw [if_pos hs]
  unfold stepOk at hs
  rw [Bool.and_eq_true, Bool.and_eq_true, decide_eq_true_eq] at hs
  obtain ⟨⟨h1, h2⟩, h3⟩ := hs
  have hx := hg x (by simp) h1 h2
  have hxl : kle x.key (f x).last := by rw [← h2]; exact hx.le
  have hxy : ∀ y ∈ g x, kle x.key y.key := fun y hy => by rw [← h2]; exact (hx.btw y hy).1
  have ho : ∀ q, o = some q → kless q.last x.key = true := fun q e => by subst e; rw [← h2]; exact h3
  have hf0 : o = none → (stepSp (f x) o).first = x.key := fun e => by subst e; exact h2
  have hf1 : ∀ q, o = some q → (stepSp (f x) o).first = q.first := fun q e => by subst e; rfl
  cases xs with
  | nil =>
   refine ⟨⟨List.pairwise_singleton _ _, fun z hz => ?_⟩, fun z hz => ?_, fun z hz => ?_, fun q e z hz => ?_, ?_⟩
   ·rw [List.mem_singleton.1 hz]; exact ⟨hx.srt, hxy⟩
   ·rw [List.mem_singleton.1 hz]; exact fun y hy => (hx.btw y hy).2
   ·rw [List.mem_singleton.1 hz]; exact hxl
   ·rw [List.mem_singleton.1 hz]; exact ho q e
   ·show (stepSp (f x) o).first = _
    cases o with
    | none => exact hf0 rfl
    | some q => exact hf1 q rfl
  | cons y ys =>
   obtain ⟨i1, i2, i3, i4, i5⟩ := go_in (f := f) (g := g) (xs := y :: ys) (o := some (stepSp (f x) o)) (fun z hz => hg z (by simp [hz])) his (by simp)
   have hlt : ∀ z ∈ y :: ys, kless (f x).last z.key = true := fun z hz => i4 _ rfl z hz
   have hll : kle (f x).last (goSp f (some (stepSp (f x) o)) (y :: ys)).last := kl_kle (kl_le (hlt y (by simp)) (i3 y (by simp)))
   refine ⟨⟨List.pairwise_cons.2 ⟨fun w hw => ⟨fun z hz => kle_lt (hx.btw z hz).2 (hlt w hw), kle_lt hxl (hlt w hw)⟩, i1.pw⟩, fun z hz => ?_⟩, fun z hz => ?_, fun z hz => ?_, fun q e z hz => ?_, ?_⟩
   ·rcases List.mem_cons.1 hz with rfl | hz
    ·exact ⟨hx.srt, hxy⟩
    ·exact i1.each z hz
   ·rcases List.mem_cons.1 hz with rfl | hz
    ·exact fun u hu => kle_trans (hx.btw u hu).2 hll
    ·exact i2 z hz
   ·rcases List.mem_cons.1 hz with rfl | hz
    ·exact kle_trans hxl hll
    ·exact i3 z hz
   ·rcases List.mem_cons.1 hz with rfl | hz
    ·exact ho q e
    ·exact kl_trans (ho q e) (kle_lt hxl (hlt z hz))
   ·rw [i5]
    show (stepSp (f x) o).first = _
    cases o with
    | none => exact hf0 rfl
    | some q => exact hf1 q rfl
theorem TreeL.srt {g : It → List It} {xs : List It} (h : TreeL g xs) : Srt (xs.flatMap g) := by
 refine List.pairwise_flatMap.2 ⟨fun z hz => (h.each z hz).1, ?_⟩
 refine h.pw.imp_of_mem fun {z w} hz hw hr x hx y hy => ?_
 exact kl_le (hr.1 x hx) ((h.each w hw).2 y hy)
theorem one_in (s : Sto) : ∀ (l : Nat) (x : It), (oneOf s l x).is = true → (oneOf s l x).first = x.key → InSp (oneOf s l x) (allOne s l x)
 | 0, x, _, _ => ⟨List.pairwise_singleton _ _, fun y hy => by rw [List.mem_singleton.1 hy]; exact ⟨kle_refl _, kle_refl _⟩, kle_refl _⟩
 | l + 1, x, h, hf => by
  obtain ⟨ys, hnd, hys, he⟩ := one_up h
  have hk : kid s x = ys := by unfold kid; rw [hnd]
  rw [he] at h hf ⊢
  obtain ⟨i1, i2, i3, _, i5⟩ := go_in (g := allOne s l) (fun z _ a b => one_in s l z a b) h hys
  have hA : allOne s (l + 1) x = ys.flatMap (allOne s l) := by rw [allOne, hk]
  rw [hA]
  obtain ⟨y0, yr, rfl⟩ := List.exists_cons_of_ne_nil hys
  have hh : ∀ z ∈ y0 :: yr, kle y0.key z.key := fun z hz => by
   rcases List.mem_cons.1 hz with rfl | hz
   ·exact kle_refl _
   ·exact kl_kle ((List.pairwise_cons.1 i1.pw).1 z hz).2
  refine ⟨i1.srt, fun y hy => ?_, ?_⟩
  ·obtain ⟨z, hz, hyz⟩ := List.mem_flatMap.1 hy
   refine ⟨?_, i2 z hz y hyz⟩
   rw [i5]; exact kle_trans (hh z hz) ((i1.each z hz).2 y hyz)
  ·rw [i5]; exact i3 y0 (by simp)
theorem tree_l {s : Sto} {l : Nat} {xs : List It} (h : treeOk s l xs) : TreeL (allOne s l) xs := by
 by_cases hx : xs = []
 ·subst hx; exact ⟨List.Pairwise.nil, fun z hz => by cases hz⟩
 ·exact (go_in (fun z _ a b => one_in s l z a b) (h hx) hx).1
theorem kid_of {s : Sto} {l : Nat} {xs : List It} (h : treeOk s (l + 1) xs) {x : It} (hx : x ∈ xs) : treeOk s l (kid s x) := by
 obtain ⟨ys, h1, _, h3⟩ := tree_child h hx
 have hk : kid s x = ys := by unfold kid; rw [h1]
 rw [hk]; exact h3
/-- what is told from a key on -/
theorem down_is {s : Sto} {q : Ky} : ∀ {l : Nat} {xs : List It}, treeOk s l xs → downL s q l xs = (allL s l xs).filter fun x => !kless x.key q
 | 0, xs, _ => by rw [downL, allL]; simp [allOne]
 | l + 1, xs, h => by
  have ih : ∀ x ∈ xs, downL s q l (kid s x) = (allOne s (l + 1) x).filter fun x => !kless x.key q := fun x hx => down_is (kid_of h hx)
  have hT := tree_l h
  have hp := hT.pw
  clear hT h
  rw [downL, allL]
  induction xs with
  | nil => rfl
  | cons x xs ih2 =>
   have hx := ih x (by simp)
   have hr := ih2 (fun y hy => ih y (by simp [hy])) (List.pairwise_cons.1 hp).2
   rw [List.flatMap_cons, List.filter_append, ← hr]
   have e : goDown (fun x => downL s q l (kid s x)) q (x :: xs) = (match xs with | [] => downL s q l (kid s x) | y :: _ => if kless q y.key then downL s q l (kid s x) else []) ++ goDown (fun x => downL s q l (kid s x)) q xs := by cases xs <;> rfl
   rw [e]
   congr 1
   cases xs with
   | nil => exact hx
   | cons y ys =>
    show (if kless q y.key = true then _ else _) = _
    split
    ·exact hx
    ·rename_i hq
     symm
     rw [List.filter_eq_nil_iff]
     intro z hz
     have h1 := ((List.pairwise_cons.1 hp).1 y (by simp)).1 z hz
     have h2 : kle y.key q := by simpa [kle] using hq
     have := kl_le h1 h2
     simp [this]
theorem place_app (A B : List It) (q : Ky) : place (A ++ B) q = place A q + place B q := by unfold place; rw [List.filter_append, List.length_append]
theorem place_all {A : List It} {q : Ky} (h : ∀ w ∈ A, kless w.key q = true) : place A q = A.length := by
 unfold place; rw [List.filter_eq_self.2 (fun w hw => by simpa using h w hw)]
theorem place_none {A : List It} {q : Ky} (h : ∀ w ∈ A, kless w.key q = false) : place A q = 0 := by
 unfold place; rw [List.filter_eq_nil_iff.2 (fun w hw => by simp [h w hw])]; rfl
/-- each item is found -/
theorem find_in {s : Sto} : ∀ {l : Nat} {xs : List It}, treeOk s l xs → ∀ x ∈ allL s l xs, findIn s x.key l xs = some x
 | l, xs, h, x, hx => by
  have hT := tree_l h
  obtain ⟨z, hz, hxz⟩ := List.mem_flatMap.1 hx
  obtain ⟨A, B, rfl⟩ := List.append_of_mem hz
  have hp := List.pairwise_append.1 hT.pw
  have hpB := List.pairwise_cons.1 hp.2.1
  have hzx : kle z.key x.key := (hT.each z hz).2 x hxz
  have hA : ∀ w ∈ A, kless w.key x.key = true := fun w hw => kl_le (hp.2.2 w hw z (by simp)).2 hzx
  have hB : ∀ w ∈ B, kless x.key w.key = true := fun w hw => (hpB.1 w hw).1 x hxz
  have hB' : ∀ w ∈ B, kless w.key x.key = false := fun w hw => kl_kle (hB w hw)
  have hpl : place (A ++ z :: B) x.key = A.length + (if kless z.key x.key then 1 else 0) := by
   rw [place_app, place_all hA, show z :: B = [z] ++ B from rfl, place_app, place_none hB']
   unfold place
   cases hk : kless z.key x.key <;> simp [hk]
  have hg : (A ++ z :: B)[A.length]? = some z := by rw [List.getElem?_append_right (Nat.le_refl _)]; simp
  rcases kle_eq_or hzx with he | hlt
  ·have hpl2 : place (A ++ z :: B) x.key = A.length := by rw [hpl, ← he, kl_irr]; rfl
   have hat : isAt (A ++ z :: B) x.key = true := by unfold isAt; rw [hpl2, hg]; simp [he]
   cases l with
   | zero =>
    rw [findIn, if_pos hat, hpl2, hg]
    rw [allOne] at hxz
    rw [List.mem_singleton.1 hxz]
   | succ l =>
    rw [findIn, show nextIt (A ++ z :: B) x.key = some z by unfold nextIt; rw [if_pos hat, hpl2, hg]]
    exact find_in (kid_of h hz) x hxz
  ·have hpl2 : place (A ++ z :: B) x.key = A.length + 1 := by rw [hpl, hlt]; rfl
   cases l with
   | zero =>
    rw [allOne] at hxz
    rw [List.mem_singleton.1 hxz, kl_irr] at hlt
    cases hlt
   | succ l =>
    have hnat : isAt (A ++ z :: B) x.key = false := by
     unfold isAt
     rw [hpl2, List.getElem?_append_right (by omega), show A.length + 1 - A.length = 0 + 1 by omega, List.getElem?_cons_succ]
     cases B with
     | nil => rfl
     | cons b bs =>
      have := hB b (by simp)
      simp only [List.getElem?_cons_zero, Option.map_some, decide_eq_false_iff_not]
      intro e
      rw [Option.some.injEq] at e
      rw [e, kl_irr] at this; cases this
    rw [findIn, show nextIt (A ++ z :: B) x.key = some z by unfold nextIt; rw [if_neg (by rw [hnat]; decide), if_neg (by omega), hpl2, Nat.add_sub_cancel, hg]]
    exact find_in (kid_of h hz) x hxz
theorem find_back {s : Sto} {q : Ky} : ∀ {l : Nat} {xs : List It} {x : It}, findIn s q l xs = some x → x ∈ allL s l xs ∧ x.key = q
 | 0, xs, x, h => by
  rw [findIn] at h
  split at h
  ·rename_i hat
   unfold isAt at hat
   rw [h] at hat
   have := of_decide_eq_true hat
   refine ⟨?_, by simpa using this⟩
   rw [allL]; simp only [allOne]
   exact List.mem_flatMap.2 ⟨x, List.mem_of_getElem? h, by simp⟩
  ·cases h
 | l + 1, xs, x, h => by
  rw [findIn] at h
  split at h
  ·rename_i z hz
   obtain ⟨h1, h2⟩ := find_back h
   refine ⟨List.mem_flatMap.2 ⟨z, ?_, h1⟩, h2⟩
   unfold nextIt at hz
   split at hz
   ·exact List.mem_of_getElem? hz
   ·split at hz
    ·cases hz
    ·exact List.mem_of_getElem? hz
  ·cases h

/-! ### what is told -/
def allT (s : Sto) (root : Int) : List It := match ndAt s root.toNat with | some (lv, xs) => allL s lv.toNat xs | none => []
def btw (a b : Ky) (x : It) : Bool := !kless x.key a && !kless b x.key
theorem while_srt {b : Ky} : ∀ {ys : List It}, Srt ys → (ys.takeWhile fun x => !kless b x.key) = ys.filter fun x => !kless b x.key
 | [], _ => rfl
 | y :: ys, h => by
  have h2 := List.pairwise_cons.1 h
  by_cases hy : kless b y.key = true
  ·rw [List.takeWhile_cons_of_neg (by simp [hy]), List.filter_cons_of_neg (by simp [hy])]
   symm
   rw [List.filter_eq_nil_iff]
   intro z hz
   have := kl_trans hy (h2.1 z hz)
   simp [this]
  ·rw [List.takeWhile_cons_of_pos (by simp [hy]), List.filter_cons_of_pos (by simp [hy]), while_srt h2.2]
theorem Srt.filter {ys : List It} (h : Srt ys) (p : It → Bool) : Srt (ys.filter p) := List.Pairwise.filter p h
theorem all_srt {s : Sto} {root : Int} (h : (fchk s root).2 = 0) : Srt (allT s root) := by
 obtain ⟨_, _, _, _, lev, xs, hnd, ht, _⟩ := fchk_ok h
 unfold allT; rw [hnd]
 exact (tree_l ht).srt
theorem rng_is {s : Sto} {root : Int} (h : (fchk s root).2 = 0) (a b : Ky) : rng s root a b = (allT s root).filter (btw a b) := by
 have hs := all_srt h
 obtain ⟨_, _, _, _, lev, xs, hnd, ht, _⟩ := fchk_ok h
 unfold rng allT at *
 rw [hnd] at hs ⊢
 change Srt (allL s lev xs) at hs
 show ((downL s a lev xs).takeWhile fun x => !kless b x.key) = (allL s lev xs).filter (btw a b)
 rw [down_is ht, while_srt (hs.filter _), List.filter_filter]
 congr 1; funext x; unfold btw; rw [Bool.and_comm]
theorem fnd_is {s : Sto} {root : Int} (h : (fchk s root).2 = 0) {x : It} (hx : x ∈ allT s root) : fnd s root x.key = some x := by
 obtain ⟨_, _, _, _, lev, xs, hnd, ht, _⟩ := fchk_ok h
 unfold fnd; unfold allT at hx
 rw [hnd] at hx ⊢
 exact find_in ht x hx
theorem fnd_back {s : Sto} {root : Int} (h : (fchk s root).2 = 0) {q : Ky} {x : It} (hx : fnd s root q = some x) : x ∈ allT s root ∧ x.key = q := by
 obtain ⟨_, _, _, _, lev, xs, hnd, ht, _⟩ := fchk_ok h
 unfold fnd at hx; unfold allT
 rw [hnd] at hx ⊢
 exact find_back hx
structure RFacts (s : Sto) (root : Int) (a b : Ky) (l : List It) : Prop where
 lo : ∀ k (h : k < l.length), kless l[k].key a = false
 hi : ∀ k (h : k < l.length), kless b l[k].key = false
 up : ∀ k (h : k + 1 < l.length), kless l[k].key l[k + 1].key = true
 fd : ∀ k (h : k < l.length), fnd s root l[k].key = some l[k]
 no : kless b a = true → l = []
theorem rng_facts {s : Sto} {root : Int} (h : (fchk s root).2 = 0) (a b : Ky) : RFacts s root a b (rng s root a b) := by
 have hr := rng_is h a b
 have hm : ∀ x ∈ rng s root a b, x ∈ allT s root ∧ kless x.key a = false ∧ kless b x.key = false := fun x hx => by
  rw [hr] at hx
  obtain ⟨h1, h2⟩ := List.mem_filter.1 hx
  unfold btw at h2
  rw [Bool.and_eq_true, Bool.not_eq_true', Bool.not_eq_true'] at h2
  exact ⟨h1, h2⟩
 have hs : Srt (rng s root a b) := by rw [hr]; exact (all_srt h).filter _
 refine ⟨fun k hk => (hm _ (List.getElem_mem hk)).2.1, fun k hk => (hm _ (List.getElem_mem hk)).2.2, fun k hk => ?_, fun k hk => fnd_is h (hm _ (List.getElem_mem hk)).1, fun hba => ?_⟩
 ·exact List.pairwise_iff_getElem.1 hs k (k + 1) (by omega) hk (by omega)
 ·cases hl : rng s root a b with
  | nil => rfl
  | cons x xs =>
   have hx := hm x (by rw [hl]; simp)
   have h1 : kle a x.key := hx.2.1
   have h2 : kle x.key b := hx.2.2
   have := kl_le hba (kle_trans h1 h2)
   rw [kl_irr] at this; cases this

/-! ### between three keys -/
theorem srt_split {b : Ky} : ∀ {ys : List It}, Srt ys → ys = (ys.filter fun x => !kless b x.key) ++ ys.filter fun x => kless b x.key
 | [], _ => rfl
 | y :: ys, h => by
  have h2 := List.pairwise_cons.1 h
  by_cases hy : kless b y.key = true
  ·have hall : ∀ z ∈ ys, kless b z.key = true := fun z hz => kl_trans hy (h2.1 z hz)
   rw [List.filter_cons_of_neg (by simp [hy]), List.filter_cons_of_pos (by simp [hy]), List.filter_eq_nil_iff.2 (fun z hz => by simp [hall z hz]), List.filter_eq_self.2 (fun z hz => hall z hz), List.nil_append]
  ·rw [List.filter_cons_of_pos (by simp [hy]), List.filter_cons_of_neg (by simp [hy]), List.cons_append, ← srt_split h2.2]
structure PFacts (s : Sto) (root : Int) (b : Ky) (l m n one : List It) : Prop where
 eq : l = m ++ n.drop one.length
 len : m.length + n.length = l.length + one.length
 le1 : one.length ≤ 1
 on : one.length ≤ n.length
 fd : (∃ x, fnd s root b = some x) ↔ one.length = 1
theorem kl_neg {a b : Ky} (h : ¬ kless a b = true) : kle b a := by unfold kle; simpa using h
theorem rng_parts {s : Sto} {root : Int} (h : (fchk s root).2 = 0) {a b c : Ky} (hab : kless b a = false) (hbc : kless c b = false) : PFacts s root b (rng s root a c) (rng s root a b) (rng s root b c) (rng s root b b) := by
 rw [rng_is h, rng_is h, rng_is h, rng_is h]
 have hs := all_srt h
 have hf : ∀ x, x ∈ allT s root → fnd s root x.key = some x := fun x hx => fnd_is h hx
 have hk : ∀ x, fnd s root b = some x → x ∈ allT s root ∧ x.key = b := fun x hx => fnd_back h hx
 generalize allT s root = F at hs hf hk
 have hl := srt_split (b := b) (hs.filter (btw a c))
 have hn := srt_split (b := b) (hs.filter (btw b c))
 have e1 : ((F.filter (btw a c)).filter fun x => !kless b x.key) = F.filter (btw a b) := by
  rw [List.filter_filter]
  refine List.filter_congr fun x _ => ?_
  unfold btw
  cases h1 : kless b x.key <;> cases h2 : kless x.key a <;> simp
  have : kless c x.key = false := kle_trans (show kle x.key b from h1) (show kle b c from hbc)
  simp [this]
 have e2 : ((F.filter (btw b c)).filter fun x => !kless b x.key) = F.filter (btw b b) := by
  rw [List.filter_filter]
  refine List.filter_congr fun x _ => ?_
  unfold btw
  cases h1 : kless b x.key <;> cases h2 : kless x.key b <;> simp
  have : kless c x.key = false := kle_trans (show kle x.key b from h1) (show kle b c from hbc)
  simp [this]
 have e3 : ((F.filter (btw b c)).filter fun x => kless b x.key) = (F.filter (btw a c)).filter fun x => kless b x.key := by
  rw [List.filter_filter, List.filter_filter]
  refine List.filter_congr fun x _ => ?_
  unfold btw
  cases h1 : kless b x.key <;> simp
  have h2 : kless x.key b = false := kl_kle h1
  have h3 : kless x.key a = false := kl_kle (kle_lt (show kle a b from hab) h1)
  simp [h2, h3]
 rw [e1] at hl
 rw [e2, e3] at hn
 generalize hR : ((F.filter (btw a c)).filter fun x => kless b x.key) = R at hl hn
 have hkey : ∀ x ∈ F.filter (btw b b), x ∈ F ∧ x.key = b := fun x hx => by
  obtain ⟨h1, h2⟩ := List.mem_filter.1 hx
  unfold btw at h2
  rw [Bool.and_eq_true, Bool.not_eq_true', Bool.not_eq_true'] at h2
  refine ⟨h1, ?_⟩
  rcases kle_eq_or (show kle b x.key from h2.1) with e | e
  ·exact e.symm
  ·rw [e] at h2; cases h2.2
 have hle : (F.filter (btw b b)).length ≤ 1 := by
  match hone : F.filter (btw b b), hkey, hs.filter (btw b b) with
  | [], _, _ => exact Nat.zero_le _
  | [x], _, _ => exact Nat.le_refl _
  | x :: y :: zs, hkey, hs2 =>
   have := (List.pairwise_cons.1 hs2).1 y (List.mem_cons_self)
   rw [(hkey x (by simp)).2, (hkey y (by simp)).2, kl_irr] at this
   cases this
 refine ⟨?_, ?_, hle, ?_, ?_, ?_⟩
 ·rw [hn, List.drop_left]; exact hl
 ·have h1 := congrArg List.length hl
  have h2 := congrArg List.length hn
  rw [List.length_append] at h1 h2
  omega
 ·have h2 := congrArg List.length hn
  rw [List.length_append] at h2
  omega
 ·rintro ⟨x, hx⟩
  obtain ⟨h1, h2⟩ := hk x hx
  have : x ∈ F.filter (btw b b) := List.mem_filter.2 ⟨h1, by unfold btw; rw [h2, kl_irr]; rfl⟩
  have := List.length_pos_of_mem this
  omega
 ·intro h1
  match hone : F.filter (btw b b), h1 with
  | [x], _ =>
   obtain ⟨h2, h3⟩ := hkey x (by rw [hone]; simp)
   exact ⟨x, by rw [← h3]; exact hf x h2⟩
theorem rng_len {s : Sto} {root : Int} (h : (fchk s root).2 = 0) (a b : Ky) : (rng s root a b).length ≤ 15625 := by
 obtain ⟨_, _, _, _, lev, xs, hnd, _, _⟩ := fchk_ok h
 unfold rng; rw [hnd]
 have hno := ndAt_ok hnd
 have hsm := downL_small (s := s) (q := a) (l := lev) (by have := hno.lev; omega) hno.len
 have hpf := (List.takeWhile_prefix (fun x => !kless b x.key) (l := downL s a lev xs)).length_le
 exact Nat.le_trans hpf (by omega)
end Go.Proofs.YtckdncmjkloebaaGreat
