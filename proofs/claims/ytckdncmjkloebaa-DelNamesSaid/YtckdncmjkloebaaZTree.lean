/- Trees, without a program in sight: what is between two keys rises, and is found. No statement of the seat is proved here. -/
import Derived.Test.YtckdncmjkloebaaZRange
namespace Go.Proofs.Ytckdncmjkloebaa
set_option linter.unusedVariables false
set_option linter.unusedSimpArgs false
open Go.RowKit
def kle (a b : Ky) : Prop := wBm b a = false
theorem kl_iff {a b : Ky} : wBm a b = true ↔ (a.kind < b.kind ∨ a.kind = b.kind ∧ (a.id < b.id ∨ a.id = b.id ∧ a.off < b.off)) := by unfold wBm; exact decide_eq_true_iff
theorem kle_iff {a b : Ky} : kle a b ↔ ¬ (b.kind < a.kind ∨ b.kind = a.kind ∧ (b.id < a.id ∨ b.id = a.id ∧ b.off < a.off)) := by unfold kle wBm; exact decide_eq_false_iff_not
theorem wHb (a : Ky) : kle a a := by rw [kle_iff]; omega
theorem kl_trans {a b c : Ky} (h : wBm a b = true) (k : wBm b c = true) : wBm a c = true := by rw [kl_iff] at *; omega
theorem wKr {a b c : Ky} (h : kle a b) (k : kle b c) : kle a c := by rw [kle_iff] at *; omega
theorem kl_le {a b c : Ky} (h : wBm a b = true) (k : kle b c) : wBm a c = true := by rw [kl_iff, kle_iff] at *; omega
theorem kle_lt {a b c : Ky} (h : kle a b) (k : wBm b c = true) : wBm a c = true := by rw [kl_iff, kle_iff] at *; omega
theorem kl_kle {a b : Ky} (h : wBm a b = true) : kle a b := by rw [kl_iff] at h; rw [kle_iff]; omega
theorem kl_irr {a : Ky} : wBm a a = false := wHb a
theorem kle_eq_or {a b : Ky} (h : kle a b) : a = b ∨ wBm a b = true := by
 rw [kle_iff] at h; rw [kl_iff]
 by_cases e : a.kind = b.kind ∧ a.id = b.id ∧ a.off = b.off
 ·left; obtain ⟨a1, a2, a3⟩ := a; obtain ⟨b1, b2, b3⟩ := b; simp_all
 ·right; omega
def Srt (ys : List It) : Prop := ys.Pairwise fun x y => wBm x.key y.key = true
def wCo (s : Sto) : Nat → It → List It
 | 0, x => [x]
 | l + 1, x => (kid s x).flatMap (wCo s l)
def wCs (s : Sto) (l : Nat) (xs : List It) : List It := xs.flatMap (wCo s l)
structure InSp (p : Sp) (ys : List It) : Prop where
 srt : Srt ys
 btw : ∀ y ∈ ys, kle p.first y.key ∧ kle y.key p.last
 le : kle p.first p.last
structure TreeL (g : It → List It) (xs : List It) : Prop where
 pw : xs.Pairwise fun z w => (∀ y ∈ g z, wBm y.key w.key = true) ∧ wBm z.key w.key = true
 each : ∀ z ∈ xs, Srt (g z) ∧ ∀ y ∈ g z, kle z.key y.key
def wDg : List It → Ky
 | [] => ⟨0, 0, 0⟩
 | x :: _ => x.key
theorem go_in {f : It → Sp} {g : It → List It} : ∀ {xs : List It} {o : Option Sp}, (∀ x ∈ xs, (f x).is = true → (f x).first = x.key → InSp (f x) (g x)) → (wEw f o xs).is = true → xs ≠ [] →
  TreeL g xs ∧ (∀ z ∈ xs, ∀ y ∈ g z, kle y.key (wEw f o xs).last) ∧ (∀ z ∈ xs, kle z.key (wEw f o xs).last) ∧ (∀ q, o = some q → ∀ z ∈ xs, wBm q.last z.key = true) ∧ (wEw f o xs).first = (match o with | none => wDg xs | some q => q.first)
 | [], _, _, _, h => absurd rfl h
 | x :: xs, o, hg, his, _ => by
  rw [wEw] at his ⊢
  split at his
  case isFalse => cases his
  rename_i hs
  rw [if_pos hs]
  unfold wCa at hs
  rw [Bool.and_eq_true, Bool.and_eq_true, decide_eq_true_eq] at hs
  obtain ⟨⟨h1, h2⟩, h3⟩ := hs
  have hx := hg x (by simp) h1 h2
  have hxl : kle x.key (f x).last := by rw [← h2]; exact hx.le
  have hxy : ∀ y ∈ g x, kle x.key y.key := fun y hy => by rw [← h2]; exact (hx.btw y hy).1
  have ho : ∀ q, o = some q → wBm q.last x.key = true := fun q e => by subst e; rw [← h2]; exact h3
  have hf0 : o = none → (wDq (f x) o).first = x.key := fun e => by subst e; exact h2
  have hf1 : ∀ q, o = some q → (wDq (f x) o).first = q.first := fun q e => by subst e; rfl
  cases xs with
  | nil =>
   refine ⟨⟨List.pairwise_singleton _ _, fun z hz => ?_⟩, fun z hz => ?_, fun z hz => ?_, fun q e z hz => ?_, ?_⟩
   ·rw [List.mem_singleton.1 hz]; exact ⟨hx.srt, hxy⟩
   ·rw [List.mem_singleton.1 hz]; exact fun y hy => (hx.btw y hy).2
   ·rw [List.mem_singleton.1 hz]; exact hxl
   ·rw [List.mem_singleton.1 hz]; exact ho q e
   ·show (wDq (f x) o).first = _
    cases o with
    | none => exact hf0 rfl
    | some q => exact hf1 q rfl
  | cons y ys =>
   obtain ⟨i1, i2, i3, i4, i5⟩ := go_in (f := f) (g := g) (xs := y :: ys) (o := some (wDq (f x) o)) (fun z hz => hg z (by simp [hz])) his (by simp)
   have hlt : ∀ z ∈ y :: ys, wBm (f x).last z.key = true := fun z hz => i4 _ rfl z hz
   have hll : kle (f x).last (wEw f (some (wDq (f x) o)) (y :: ys)).last := kl_kle (kl_le (hlt y (by simp)) (i3 y (by simp)))
   refine ⟨⟨List.pairwise_cons.2 ⟨fun w hw => ⟨fun z hz => kle_lt (hx.btw z hz).2 (hlt w hw), kle_lt hxl (hlt w hw)⟩, i1.pw⟩, fun z hz => ?_⟩, fun z hz => ?_, fun z hz => ?_, fun q e z hz => ?_, ?_⟩
   ·rcases List.mem_cons.1 hz with rfl | hz
    ·exact ⟨hx.srt, hxy⟩
    ·exact i1.each z hz
   ·rcases List.mem_cons.1 hz with rfl | hz
    ·exact fun u hu => wKr (hx.btw u hu).2 hll
    ·exact i2 z hz
   ·rcases List.mem_cons.1 hz with rfl | hz
    ·exact wKr hxl hll
    ·exact i3 z hz
   ·rcases List.mem_cons.1 hz with rfl | hz
    ·exact ho q e
    ·exact kl_trans (ho q e) (kle_lt hxl (hlt z hz))
   ·rw [i5]
    show (wDq (f x) o).first = _
    cases o with
    | none => exact hf0 rfl
    | some q => exact hf1 q rfl
theorem TreeL.srt {g : It → List It} {xs : List It} (h : TreeL g xs) : Srt (xs.flatMap g) := by
 refine List.pairwise_flatMap.2 ⟨fun z hz => (h.each z hz).1, ?_⟩
 refine h.pw.imp_of_mem fun {z w} hz hw hr x hx y hy => ?_
 exact kl_le (hr.1 x hx) ((h.each w hw).2 y hy)
theorem one_in (s : Sto) : ∀ (l : Nat) (x : It), (wCw s l x).is = true → (wCw s l x).first = x.key → InSp (wCw s l x) (wCo s l x)
 | 0, x, _, _ => ⟨List.pairwise_singleton _ _, fun y hy => by rw [List.mem_singleton.1 hy]; exact ⟨wHb _, wHb _⟩, wHb _⟩
 | l + 1, x, h, hf => by
  obtain ⟨ys, hnd, hys, he⟩ := one_up h
  have hk : kid s x = ys := by unfold kid; rw [hnd]
  rw [he] at h hf ⊢
  obtain ⟨i1, i2, i3, _, i5⟩ := go_in (g := wCo s l) (fun z _ a b => one_in s l z a b) h hys
  have hA : wCo s (l + 1) x = ys.flatMap (wCo s l) := by rw [wCo, hk]
  rw [hA]
  obtain ⟨y0, yr, rfl⟩ := List.exists_cons_of_ne_nil hys
  have hh : ∀ z ∈ y0 :: yr, kle y0.key z.key := fun z hz => by
   rcases List.mem_cons.1 hz with rfl | hz
   ·exact wHb _
   ·exact kl_kle ((List.pairwise_cons.1 i1.pw).1 z hz).2
  refine ⟨i1.srt, fun y hy => ?_, ?_⟩
  ·obtain ⟨z, hz, hyz⟩ := List.mem_flatMap.1 hy
   refine ⟨?_, i2 z hz y hyz⟩
   rw [i5]; exact wKr (hh z hz) ((i1.each z hz).2 y hyz)
  ·rw [i5]; exact i3 y0 (by simp)
theorem tree_l {s : Sto} {l : Nat} {xs : List It} (h : wCd s l xs) : TreeL (wCo s l) xs := by
 by_cases hx : xs = []
 ·subst hx; exact ⟨List.Pairwise.nil, fun z hz => by cases hz⟩
 ·exact (go_in (fun z _ a b => one_in s l z a b) (h hx) hx).1
theorem kid_of {s : Sto} {l : Nat} {xs : List It} (h : wCd s (l + 1) xs) {x : It} (hx : x ∈ xs) : wCd s l (kid s x) := by
 obtain ⟨ys, h1, _, h3⟩ := wCu h hx
 have hk : kid s x = ys := by unfold kid; rw [h1]
 rw [hk]; exact h3
theorem down_is {s : Sto} {q : Ky} : ∀ {l : Nat} {xs : List It}, wCd s l xs → wDd s q l xs = (wCs s l xs).filter fun x => !wBm x.key q
 | 0, xs, _ => by rw [wDd, wCs]; simp [wCo]
 | l + 1, xs, h => by
  have ih : ∀ x ∈ xs, wDd s q l (kid s x) = (wCo s (l + 1) x).filter fun x => !wBm x.key q := fun x hx => down_is (kid_of h hx)
  have hT := tree_l h
  have hp := hT.pw
  clear hT h
  rw [wDd, wCs]
  induction xs with
  | nil => rfl
  | cons x xs ih2 =>
   have hx := ih x (by simp)
   have hr := ih2 (fun y hy => ih y (by simp [hy])) (List.pairwise_cons.1 hp).2
   rw [List.flatMap_cons, List.filter_append, ← hr]
   have e : wDe (fun x => wDd s q l (kid s x)) q (x :: xs) = (match xs with | [] => wDd s q l (kid s x) | y :: _ => if wBm q y.key then wDd s q l (kid s x) else []) ++ wDe (fun x => wDd s q l (kid s x)) q xs := by cases xs <;> rfl
   rw [e]
   congr 1
   cases xs with
   | nil => exact hx
   | cons y ys =>
    show (if wBm q y.key = true then _ else _) = _
    split
    ·exact hx
    ·rename_i hq
     symm
     rw [List.filter_eq_nil_iff]
     intro z hz
     have h1 := ((List.pairwise_cons.1 hp).1 y (by simp)).1 z hz
     have h2 : kle y.key q := by simpa [kle] using hq
     have := kl_le h1 h2
     simp [this]
theorem place_none {A : List It} {q : Ky} (h : ∀ w ∈ A, wBm w.key q = false) : place A q = 0 := by
 unfold place; rw [List.filter_eq_nil_iff.2 (fun w hw => by simp [h w hw])]; rfl
theorem find_back {s : Sto} {q : Ky} : ∀ {l : Nat} {xs : List It} {x : It}, wCn s q l xs = some x → x ∈ wCs s l xs ∧ x.key = q
 | 0, xs, x, h => by
  rw [wCn] at h
  split at h
  ·rename_i hat
   unfold isAt at hat
   rw [h] at hat
   have := of_decide_eq_true hat
   refine ⟨?_, by simpa using this⟩
   rw [wCs]; simp only [wCo]
   exact List.mem_flatMap.2 ⟨x, List.mem_of_getElem? h, by simp⟩
  ·cases h
 | l + 1, xs, x, h => by
  rw [wCn] at h
  split at h
  ·rename_i z hz
   obtain ⟨h1, h2⟩ := find_back h
   refine ⟨List.mem_flatMap.2 ⟨z, ?_, h1⟩, h2⟩
   unfold wHm at hz
   split at hz
   ·exact List.mem_of_getElem? hz
   ·split at hz
    ·cases hz
    ·exact List.mem_of_getElem? hz
  ·cases h
def allT (s : Sto) (root : Int) : List It := match wBs s root.toNat with | some (lv, xs) => wCs s lv.toNat xs | none => []
def btw (a b : Ky) (x : It) : Bool := !wBm x.key a && !wBm b x.key
theorem while_srt {b : Ky} : ∀ {ys : List It}, Srt ys → (ys.takeWhile fun x => !wBm b x.key) = ys.filter fun x => !wBm b x.key
 | [], _ => rfl
 | y :: ys, h => by
  have h2 := List.pairwise_cons.1 h
  by_cases hy : wBm b y.key = true
  ·rw [List.takeWhile_cons_of_neg (by simp [hy]), List.filter_cons_of_neg (by simp [hy])]
   symm
   rw [List.filter_eq_nil_iff]
   intro z hz
   have := kl_trans hy (h2.1 z hz)
   simp [this]
  ·rw [List.takeWhile_cons_of_pos (by simp [hy]), List.filter_cons_of_pos (by simp [hy]), while_srt h2.2]
theorem Srt.filter {ys : List It} (h : Srt ys) (p : It → Bool) : Srt (ys.filter p) := List.Pairwise.filter p h
theorem all_srt {s : Sto} {root : Int} (h : (wDm s root).2 = 0) : Srt (allT s root) := by
 obtain ⟨_, _, _, _, lev, xs, hnd, ht, _⟩ := wHd h
 unfold allT; rw [hnd]
 exact (tree_l ht).srt
theorem rng_is {s : Sto} {root : Int} (h : (wDm s root).2 = 0) (a b : Ky) : rng s root a b = (allT s root).filter (btw a b) := by
 have hs := all_srt h
 obtain ⟨_, _, _, _, lev, xs, hnd, ht, _⟩ := wHd h
 unfold rng allT at *
 rw [hnd] at hs ⊢
 change Srt (wCs s lev xs) at hs
 show ((wDd s a lev xs).takeWhile fun x => !wBm b x.key) = (wCs s lev xs).filter (btw a b)
 rw [down_is ht, while_srt (hs.filter _), List.filter_filter]
 congr 1; funext x; unfold btw; rw [Bool.and_comm]
structure RFacts (s : Sto) (root : Int) (a b : Ky) (l : List It) : Prop where
 lo : ∀ k (h : k < l.length), wBm l[k].key a = false
 hi : ∀ k (h : k < l.length), wBm b l[k].key = false
 up : ∀ k (h : k + 1 < l.length), wBm l[k].key l[k + 1].key = true
 fd : ∀ k (h : k < l.length), fnd s root l[k].key = some l[k]
 no : wBm b a = true → l = []
structure PFacts (s : Sto) (root : Int) (b : Ky) (l m n one : List It) : Prop where
 eq : l = m ++ n.drop one.length
 len : m.length + n.length = l.length + one.length
 le1 : one.length ≤ 1
 on : one.length ≤ n.length
 fd : (∃ x, fnd s root b = some x) ↔ one.length = 1
theorem kl_neg {a b : Ky} (h : ¬ wBm a b = true) : kle b a := by unfold kle; simpa using h
end Go.Proofs.Ytckdncmjkloebaa
