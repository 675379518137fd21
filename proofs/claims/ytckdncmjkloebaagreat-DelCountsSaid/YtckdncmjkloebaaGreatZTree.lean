/- Trees, without a program in sight: what is between two keys rises, and is found. No statement of the seat is proved here. -/
import Derived.Test.YtckdncmjkloebaaGreatZRange
namespace Go.Proofs.YtckdncmjkloebaaGreat
set_option linter.unusedVariables false
set_option linter.unusedSimpArgs false
open Go.RowKit
def kle (a b : Ky) : Prop := wBe b a = false
theorem kl_iff {a b : Ky} : wBe a b = true ↔ (a.kind < b.kind ∨ a.kind = b.kind ∧ (a.id < b.id ∨ a.id = b.id ∧ a.off < b.off)) := by unfold wBe; exact decide_eq_true_iff
theorem kle_iff {a b : Ky} : kle a b ↔ ¬ (b.kind < a.kind ∨ b.kind = a.kind ∧ (b.id < a.id ∨ b.id = a.id ∧ b.off < a.off)) := by unfold kle wBe; exact decide_eq_false_iff_not
theorem wHt (a : Ky) : kle a a := by rw [kle_iff]; omega
theorem wMf {a b c : Ky} (h : wBe a b = true) (k : wBe b c = true) : wBe a c = true := by rw [kl_iff] at *; omega
theorem wMe {a b c : Ky} (h : kle a b) (k : kle b c) : kle a c := by rw [kle_iff] at *; omega
theorem kl_le {a b c : Ky} (h : wBe a b = true) (k : kle b c) : wBe a c = true := by rw [kl_iff, kle_iff] at *; omega
theorem kle_lt {a b c : Ky} (h : kle a b) (k : wBe b c = true) : wBe a c = true := by rw [kl_iff, kle_iff] at *; omega
theorem wKo {a b : Ky} (h : wBe a b = true) : kle a b := by rw [kl_iff] at h; rw [kle_iff]; omega
theorem wJm {a : Ky} : wBe a a = false := wHt a
theorem kle_eq_or {a b : Ky} (h : kle a b) : a = b ∨ wBe a b = true := by
 rw [kle_iff] at h; rw [kl_iff]
 by_cases e : a.kind = b.kind ∧ a.id = b.id ∧ a.off = b.off
 ·left; obtain ⟨a1, a2, a3⟩ := a; obtain ⟨b1, b2, b3⟩ := b; simp_all
 ·right; omega
def Srt (ys : List It) : Prop := ys.Pairwise fun x y => wBe x.key y.key = true
def wCm (s : Sto) : Nat → It → List It
 | 0, x => [x]
 | l + 1, x => (kid s x).flatMap (wCm s l)
def wCc (s : Sto) (l : Nat) (xs : List It) : List It := xs.flatMap (wCm s l)
structure InSp (p : Sp) (ys : List It) : Prop where
 srt : Srt ys
 btw : ∀ y ∈ ys, kle p.first y.key ∧ kle y.key p.last
 le : kle p.first p.last
structure TreeL (g : It → List It) (xs : List It) : Prop where
 pw : xs.Pairwise fun z w => (∀ y ∈ g z, wBe y.key w.key = true) ∧ wBe z.key w.key = true
 each : ∀ z ∈ xs, Srt (g z) ∧ ∀ y ∈ g z, kle z.key y.key
def wDn : List It → Ky
 | [] => ⟨0, 0, 0⟩
 | x :: _ => x.key
theorem go_in {f : It → Sp} {g : It → List It} : ∀ {xs : List It} {o : Option Sp}, (∀ x ∈ xs, (f x).is = true → (f x).first = x.key → InSp (f x) (g x)) → (wFo f o xs).is = true → xs ≠ [] →
  TreeL g xs ∧ (∀ z ∈ xs, ∀ y ∈ g z, kle y.key (wFo f o xs).last) ∧ (∀ z ∈ xs, kle z.key (wFo f o xs).last) ∧ (∀ q, o = some q → ∀ z ∈ xs, wBe q.last z.key = true) ∧ (wFo f o xs).first = (match o with | none => wDn xs | some q => q.first)
 | [], _, _, _, h => absurd rfl h
 | x :: xs, o, hg, his, _ => by
  rw [wFo] at his ⊢
  split at his
  case isFalse => cases his
  rename_i hs
  rw [if_pos hs]
  unfold wCa at hs
  rw [Bool.and_eq_true, Bool.and_eq_true, decide_eq_true_eq] at hs
  obtain ⟨⟨h1, h2⟩, h3⟩ := hs
  have hx := hg x (by simp) h1 h2
  have hxl : kle x.key (f x).last := by rw [← h2]; exact hx.le
  have hxy : ∀ y ∈ g x, kle x.key y.key := fun y hy => by rw [← h2]; exact (hx.btw y hy).1
  have ho : ∀ q, o = some q → wBe q.last x.key = true := fun q e => by subst e; rw [← h2]; exact h3
  have hf0 : o = none → (wEa (f x) o).first = x.key := fun e => by subst e; exact h2
  have hf1 : ∀ q, o = some q → (wEa (f x) o).first = q.first := fun q e => by subst e; rfl
  cases xs with
  | nil =>
   refine ⟨⟨List.pairwise_singleton _ _, fun z hz => ?_⟩, fun z hz => ?_, fun z hz => ?_, fun q e z hz => ?_, ?_⟩
   ·rw [List.mem_singleton.1 hz]; exact ⟨hx.srt, hxy⟩
   ·rw [List.mem_singleton.1 hz]; exact fun y hy => (hx.btw y hy).2
   ·rw [List.mem_singleton.1 hz]; exact hxl
   ·rw [List.mem_singleton.1 hz]; exact ho q e
   ·show (wEa (f x) o).first = _
    cases o with
    | none => exact hf0 rfl
    | some q => exact hf1 q rfl
  | cons y ys =>
   obtain ⟨i1, i2, i3, i4, i5⟩ := go_in (f := f) (g := g) (xs := y :: ys) (o := some (wEa (f x) o)) (fun z hz => hg z (by simp [hz])) his (by simp)
   have hlt : ∀ z ∈ y :: ys, wBe (f x).last z.key = true := fun z hz => i4 _ rfl z hz
   have hll : kle (f x).last (wFo f (some (wEa (f x) o)) (y :: ys)).last := wKo (kl_le (hlt y (by simp)) (i3 y (by simp)))
   refine ⟨⟨List.pairwise_cons.2 ⟨fun w hw => ⟨fun z hz => kle_lt (hx.btw z hz).2 (hlt w hw), kle_lt hxl (hlt w hw)⟩, i1.pw⟩, fun z hz => ?_⟩, fun z hz => ?_, fun z hz => ?_, fun q e z hz => ?_, ?_⟩
   ·rcases List.mem_cons.1 hz with rfl | hz
    ·exact ⟨hx.srt, hxy⟩
    ·exact i1.each z hz
   ·rcases List.mem_cons.1 hz with rfl | hz
    ·exact fun u hu => wMe (hx.btw u hu).2 hll
    ·exact i2 z hz
   ·rcases List.mem_cons.1 hz with rfl | hz
    ·exact wMe hxl hll
    ·exact i3 z hz
   ·rcases List.mem_cons.1 hz with rfl | hz
    ·exact ho q e
    ·exact wMf (ho q e) (kle_lt hxl (hlt z hz))
   ·rw [i5]
    show (wEa (f x) o).first = _
    cases o with
    | none => exact hf0 rfl
    | some q => exact hf1 q rfl
theorem TreeL.srt {g : It → List It} {xs : List It} (h : TreeL g xs) : Srt (xs.flatMap g) := by
 refine List.pairwise_flatMap.2 ⟨fun z hz => (h.each z hz).1, ?_⟩
 refine h.pw.imp_of_mem fun {z w} hz hw hr x hx y hy => ?_
 exact kl_le (hr.1 x hx) ((h.each w hw).2 y hy)
theorem one_in (s : Sto) : ∀ (l : Nat) (x : It), (wDd s l x).is = true → (wDd s l x).first = x.key → InSp (wDd s l x) (wCm s l x)
 | 0, x, _, _ => ⟨List.pairwise_singleton _ _, fun y hy => by rw [List.mem_singleton.1 hy]; exact ⟨wHt _, wHt _⟩, wHt _⟩
 | l + 1, x, h, hf => by
  obtain ⟨ys, hnd, hys, he⟩ := one_up h
  have hk : kid s x = ys := by unfold kid; rw [hnd]
  rw [he] at h hf ⊢
  obtain ⟨i1, i2, i3, _, i5⟩ := go_in (g := wCm s l) (fun z _ a b => one_in s l z a b) h hys
  have hA : wCm s (l + 1) x = ys.flatMap (wCm s l) := by rw [wCm, hk]
  rw [hA]
  obtain ⟨y0, yr, rfl⟩ := List.exists_cons_of_ne_nil hys
  have hh : ∀ z ∈ y0 :: yr, kle y0.key z.key := fun z hz => by
   rcases List.mem_cons.1 hz with rfl | hz
   ·exact wHt _
   ·exact wKo ((List.pairwise_cons.1 i1.pw).1 z hz).2
  refine ⟨i1.srt, fun y hy => ?_, ?_⟩
  ·obtain ⟨z, hz, hyz⟩ := List.mem_flatMap.1 hy
   refine ⟨?_, i2 z hz y hyz⟩
   rw [i5]; exact wMe (hh z hz) ((i1.each z hz).2 y hyz)
  ·rw [i5]; exact i3 y0 (by simp)
theorem tree_l {s : Sto} {l : Nat} {xs : List It} (h : wBy s l xs) : TreeL (wCm s l) xs := by
 by_cases hx : xs = []
 ·subst hx; exact ⟨List.Pairwise.nil, fun z hz => by cases hz⟩
 ·exact (go_in (fun z _ a b => one_in s l z a b) (h hx) hx).1
theorem kid_of {s : Sto} {l : Nat} {xs : List It} (h : wBy s (l + 1) xs) {x : It} (hx : x ∈ xs) : wBy s l (kid s x) := by
 obtain ⟨ys, h1, _, h3⟩ := wCu h hx
 have hk : kid s x = ys := by unfold kid; rw [h1]
 rw [hk]; exact h3
theorem down_is {s : Sto} {q : Ky} : ∀ {l : Nat} {xs : List It}, wBy s l xs → wDh s q l xs = (wCc s l xs).filter fun x => !wBe x.key q
 | 0, xs, _ => by rw [wDh, wCc]; simp [wCm]
 | l + 1, xs, h => by
  have ih : ∀ x ∈ xs, wDh s q l (kid s x) = (wCm s (l + 1) x).filter fun x => !wBe x.key q := fun x hx => down_is (kid_of h hx)
  have hT := tree_l h
  have hp := hT.pw
  clear hT h
  rw [wDh, wCc]
  induction xs with
  | nil => rfl
  | cons x xs ih2 =>
   have hx := ih x (by simp)
   have hr := ih2 (fun y hy => ih y (by simp [hy])) (List.pairwise_cons.1 hp).2
   rw [List.flatMap_cons, List.filter_append, ← hr]
   have e : wDj (fun x => wDh s q l (kid s x)) q (x :: xs) = (match xs with | [] => wDh s q l (kid s x) | y :: _ => if wBe q y.key then wDh s q l (kid s x) else []) ++ wDj (fun x => wDh s q l (kid s x)) q xs := by cases xs <;> rfl
   rw [e]
   congr 1
   cases xs with
   | nil => exact hx
   | cons y ys =>
    show (if wBe q y.key = true then _ else _) = _
    split
    ·exact hx
    ·rename_i hq
     symm
     rw [List.filter_eq_nil_iff]
     intro z hz
     have h1 := ((List.pairwise_cons.1 hp).1 y (by simp)).1 z hz
     have h2 : kle y.key q := by simpa [kle] using hq
     have := kl_le h1 h2
     simp [this]
theorem place_app (A B : List It) (q : Ky) : place (A ++ B) q = place A q + place B q := by unfold place; rw [List.filter_append, List.length_append]
theorem place_all {A : List It} {q : Ky} (h : ∀ w ∈ A, wBe w.key q = true) : place A q = A.length := by
 unfold place; rw [List.filter_eq_self.2 (fun w hw => by simpa using h w hw)]
theorem place_none {A : List It} {q : Ky} (h : ∀ w ∈ A, wBe w.key q = false) : place A q = 0 := by
 unfold place; rw [List.filter_eq_nil_iff.2 (fun w hw => by simp [h w hw])]; rfl
theorem find_in {s : Sto} : ∀ {l : Nat} {xs : List It}, wBy s l xs → ∀ x ∈ wCc s l xs, wCp s x.key l xs = some x
 | l, xs, h, x, hx => by
  have hT := tree_l h
  obtain ⟨z, hz, hxz⟩ := List.mem_flatMap.1 hx
  obtain ⟨A, B, rfl⟩ := List.append_of_mem hz
  have hp := List.pairwise_append.1 hT.pw
  have hpB := List.pairwise_cons.1 hp.2.1
  have hzx : kle z.key x.key := (hT.each z hz).2 x hxz
  have hA : ∀ w ∈ A, wBe w.key x.key = true := fun w hw => kl_le (hp.2.2 w hw z (by simp)).2 hzx
  have hB : ∀ w ∈ B, wBe x.key w.key = true := fun w hw => (hpB.1 w hw).1 x hxz
  have hB' : ∀ w ∈ B, wBe w.key x.key = false := fun w hw => wKo (hB w hw)
  have hpl : place (A ++ z :: B) x.key = A.length + (if wBe z.key x.key then 1 else 0) := by
   rw [place_app, place_all hA, show z :: B = [z] ++ B from rfl, place_app, place_none hB']
   unfold place
   cases hk : wBe z.key x.key <;> simp [hk]
  have hg : (A ++ z :: B)[A.length]? = some z := by rw [List.getElem?_append_right (Nat.le_refl _)]; simp
  rcases kle_eq_or hzx with he | hlt
  ·have hpl2 : place (A ++ z :: B) x.key = A.length := by rw [hpl, ← he, wJm]; rfl
   have hat : isAt (A ++ z :: B) x.key = true := by unfold isAt; rw [hpl2, hg]; simp [he]
   cases l with
   | zero =>
    rw [wCp, if_pos hat, hpl2, hg]
    rw [wCm] at hxz
    rw [List.mem_singleton.1 hxz]
   | succ l =>
    rw [wCp, show wGg (A ++ z :: B) x.key = some z by unfold wGg; rw [if_pos hat, hpl2, hg]]
    exact find_in (kid_of h hz) x hxz
  ·have hpl2 : place (A ++ z :: B) x.key = A.length + 1 := by rw [hpl, hlt]; rfl
   cases l with
   | zero =>
    rw [wCm] at hxz
    rw [List.mem_singleton.1 hxz, wJm] at hlt
    cases hlt
   | succ l =>
    have hnat : isAt (A ++ z :: B) x.key = false := by
     unfold isAt
     rw [hpl2, List.getElem?_append_right (by omega), show A.length + 1 - A.length = 0 + 1 by omega, List.getElem?_cons_succ]
     cases B with
     | nil => rfl
     | cons b bs =>
      have := hB b (by simp)
      simp only [List.getElem?_cons_zero, Option.map_some, decide_eq_false_iff_not]
      intro e
      rw [Option.some.injEq] at e
      rw [e, wJm] at this; cases this
    rw [wCp, show wGg (A ++ z :: B) x.key = some z by unfold wGg; rw [if_neg (by rw [hnat]; decide), if_neg (by omega), hpl2, Nat.add_sub_cancel, hg]]
    exact find_in (kid_of h hz) x hxz
theorem find_back {s : Sto} {q : Ky} : ∀ {l : Nat} {xs : List It} {x : It}, wCp s q l xs = some x → x ∈ wCc s l xs ∧ x.key = q
 | 0, xs, x, h => by
  rw [wCp] at h
  split at h
  ·rename_i hat
   unfold isAt at hat
   rw [h] at hat
   have := of_decide_eq_true hat
   refine ⟨?_, by simpa using this⟩
   rw [wCc]; simp only [wCm]
   exact List.mem_flatMap.2 ⟨x, List.mem_of_getElem? h, by simp⟩
  ·cases h
 | l + 1, xs, x, h => by
  rw [wCp] at h
  split at h
  ·rename_i z hz
   obtain ⟨h1, h2⟩ := find_back h
   refine ⟨List.mem_flatMap.2 ⟨z, ?_, h1⟩, h2⟩
   unfold wGg at hz
   split at hz
   ·exact List.mem_of_getElem? hz
   ·split at hz
    ·cases hz
    ·exact List.mem_of_getElem? hz
  ·cases h
def wKk (s : Sto) (root : Int) : List It := match wBs s root.toNat with | some (lv, xs) => wCc s lv.toNat xs | none => []
def btw (a b : Ky) (x : It) : Bool := !wBe x.key a && !wBe b x.key
theorem while_srt {b : Ky} : ∀ {ys : List It}, Srt ys → (ys.takeWhile fun x => !wBe b x.key) = ys.filter fun x => !wBe b x.key
 | [], _ => rfl
 | y :: ys, h => by
  have h2 := List.pairwise_cons.1 h
  by_cases hy : wBe b y.key = true
  ·rw [List.takeWhile_cons_of_neg (by simp [hy]), List.filter_cons_of_neg (by simp [hy])]
   symm
   rw [List.filter_eq_nil_iff]
   intro z hz
   have := wMf hy (h2.1 z hz)
   simp [this]
  ·rw [List.takeWhile_cons_of_pos (by simp [hy]), List.filter_cons_of_pos (by simp [hy]), while_srt h2.2]
theorem Srt.filter {ys : List It} (h : Srt ys) (p : It → Bool) : Srt (ys.filter p) := List.Pairwise.filter p h
theorem all_srt {s : Sto} {root : Int} (h : (wCj s root).2 = 0) : Srt (wKk s root) := by
 obtain ⟨_, _, _, _, lev, xs, hnd, ht, _⟩ := wCb h
 unfold wKk; rw [hnd]
 exact (tree_l ht).srt
theorem rng_is {s : Sto} {root : Int} (h : (wCj s root).2 = 0) (a b : Ky) : rng s root a b = (wKk s root).filter (btw a b) := by
 have hs := all_srt h
 obtain ⟨_, _, _, _, lev, xs, hnd, ht, _⟩ := wCb h
 unfold rng wKk at *
 rw [hnd] at hs ⊢
 change Srt (wCc s lev xs) at hs
 show ((wDh s a lev xs).takeWhile fun x => !wBe b x.key) = (wCc s lev xs).filter (btw a b)
 rw [down_is ht, while_srt (hs.filter _), List.filter_filter]
 congr 1; funext x; unfold btw; rw [Bool.and_comm]
theorem fnd_is {s : Sto} {root : Int} (h : (wCj s root).2 = 0) {x : It} (hx : x ∈ wKk s root) : fnd s root x.key = some x := by
 obtain ⟨_, _, _, _, lev, xs, hnd, ht, _⟩ := wCb h
 unfold fnd; unfold wKk at hx
 rw [hnd] at hx ⊢
 exact find_in ht x hx
theorem fnd_back {s : Sto} {root : Int} (h : (wCj s root).2 = 0) {q : Ky} {x : It} (hx : fnd s root q = some x) : x ∈ wKk s root ∧ x.key = q := by
 obtain ⟨_, _, _, _, lev, xs, hnd, ht, _⟩ := wCb h
 unfold fnd at hx; unfold wKk
 rw [hnd] at hx ⊢
 exact find_back hx
structure RFacts (s : Sto) (root : Int) (a b : Ky) (l : List It) : Prop where
 lo : ∀ k (h : k < l.length), wBe l[k].key a = false
 hi : ∀ k (h : k < l.length), wBe b l[k].key = false
 up : ∀ k (h : k + 1 < l.length), wBe l[k].key l[k + 1].key = true
 fd : ∀ k (h : k < l.length), fnd s root l[k].key = some l[k]
 no : wBe b a = true → l = []
theorem srt_split {b : Ky} : ∀ {ys : List It}, Srt ys → ys = (ys.filter fun x => !wBe b x.key) ++ ys.filter fun x => wBe b x.key
 | [], _ => rfl
 | y :: ys, h => by
  have h2 := List.pairwise_cons.1 h
  by_cases hy : wBe b y.key = true
  ·have hall : ∀ z ∈ ys, wBe b z.key = true := fun z hz => wMf hy (h2.1 z hz)
   rw [List.filter_cons_of_neg (by simp [hy]), List.filter_cons_of_pos (by simp [hy]), List.filter_eq_nil_iff.2 (fun z hz => by simp [hall z hz]), List.filter_eq_self.2 (fun z hz => hall z hz), List.nil_append]
  ·rw [List.filter_cons_of_pos (by simp [hy]), List.filter_cons_of_neg (by simp [hy]), List.cons_append, ← srt_split h2.2]
structure PFacts (s : Sto) (root : Int) (b : Ky) (l m n one : List It) : Prop where
 eq : l = m ++ n.drop one.length
 len : m.length + n.length = l.length + one.length
 le1 : one.length ≤ 1
 on : one.length ≤ n.length
 fd : (∃ x, fnd s root b = some x) ↔ one.length = 1
theorem kl_neg {a b : Ky} (h : ¬ wBe a b = true) : kle b a := by unfold kle; simpa using h
theorem rng_len {s : Sto} {root : Int} (h : (wCj s root).2 = 0) (a b : Ky) : (rng s root a b).length ≤ 15625 := by
 obtain ⟨_, _, _, _, lev, xs, hnd, _, _⟩ := wCb h
 unfold rng; rw [hnd]
 have hno := wBm hnd
 have hsm := downL_small (s := s) (q := a) (l := lev) (by have := hno.lev; omega) hno.len
 have hpf := (List.takeWhile_prefix (fun x => !wBe b x.key) (l := wDh s a lev xs)).length_le
 exact Nat.le_trans hpf (by omega)
end Go.Proofs.YtckdncmjkloebaaGreat
