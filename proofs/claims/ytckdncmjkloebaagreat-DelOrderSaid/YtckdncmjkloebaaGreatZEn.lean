/- Blocks counted often enough, without a program in sight: a node made, a reference taken away, a node left. No statement of the seat is proved here. -/
import Derived.Test.YtckdncmjkloebaaGreatZPutf
import Derived.Test.YtckdncmjkloebaaGreatZPut
namespace Go.Proofs.YtckdncmjkloebaaGreat
set_option linter.unusedSimpArgs false
set_option linter.unusedVariables false
open Go.RowKit
def Shp (s : Sto) : Nat → List It → Prop
 | 0, xs => ∀ x ∈ xs, x.ref = 0 ∨ ¬ s.now.getD x.ref.toNat 0 = 0
 | l + 1, xs => ∀ x ∈ xs, ∃ ys, wBs s x.ref.toNat = some ((l : Int), ys) ∧ ys ≠ [] ∧ wDn ys = x.key ∧ Shp s l ys
theorem Shp.sub {s : Sto} {l : Nat} {xs ys : List It} (h : Shp s l xs) (hs : ∀ y ∈ ys, y ∈ xs) : Shp s l ys := by
 cases l with
 | zero => exact fun x hx => h x (hs x hx)
 | succ l => exact fun x hx => h x (hs x hx)
theorem Shp.app {s : Sto} {l : Nat} {xs ys : List It} (h : Shp s l xs) (k : Shp s l ys) : Shp s l (xs ++ ys) := by
 cases l with
 | zero => exact fun x hx => (List.mem_append.1 hx).elim (h x) (k x)
 | succ l => exact fun x hx => (List.mem_append.1 hx).elim (h x) (k x)
theorem Shp.one {s : Sto} {l : Nat} {xs : List It} (h : Shp s l xs) {x : It} (hx : x ∈ xs) : Shp s l [x] := h.sub fun y hy => by rw [List.mem_singleton.1 hy]; exact hx
theorem wCd (s : Sto) (l : Nat) (xs ys : List It) : wCc s l (xs ++ ys) = wCc s l xs ++ wCc s l ys := List.flatMap_append
theorem wFv (s : Sto) (l : Nat) (x : It) (xs : List It) : wCc s l (x :: xs) = wCm s l x ++ wCc s l xs := List.flatMap_cons
theorem wFc (s : Sto) (l : Nat) (x : It) : wCc s l [x] = wCm s l x := by rw [wFv]; show _ ++ [] = _; rw [List.append_nil]
theorem wDq (s : Sto) (xs : List It) : wCc s 0 xs = xs := by
 unfold wCc
 induction xs with
 | nil => rfl
 | cons x xs ih => rw [List.flatMap_cons, ih]; rfl
theorem wCi {s : Sto} {l : Nat} {x : It} {lv : Int} {ys : List It} (h : wBs s x.ref.toNat = some (lv, ys)) : wCm s (l + 1) x = wCc s l ys := by
 have : kid s x = ys := by unfold kid; rw [h]
 rw [wCm, this]; rfl
theorem one_head {s : Sto} : ∀ {l : Nat} {x : It}, Shp s l [x] → ∃ y r, wCm s l x = y :: r ∧ y.key = x.key
 | 0, x, _ => ⟨x, [], rfl, rfl⟩
 | l + 1, x, h => by
  obtain ⟨ys, h1, h2, h3, h4⟩ := h x (by simp)
  obtain ⟨z, zs, rfl⟩ := List.exists_cons_of_ne_nil h2
  obtain ⟨y, r, e1, e2⟩ := one_head (h4.one (x := z) (by simp))
  exact ⟨y, r ++ wCc s l zs, by rw [wCi h1, wFv, e1]; rfl, by rw [e2]; exact h3⟩
theorem one_mem {s : Sto} {l : Nat} {x : It} (h : Shp s l [x]) : ∃ y ∈ wCm s l x, y.key = x.key := by
 obtain ⟨y, r, e1, e2⟩ := one_head h
 exact ⟨y, by rw [e1]; simp, e2⟩
theorem shp_srt {s : Sto} {l : Nat} : ∀ {xs : List It}, Shp s l xs → Srt (wCc s l xs) → Srt xs
 | [], _, _ => List.Pairwise.nil
 | x :: xs, h, hs => by
  rw [wFv] at hs
  have h2 := List.pairwise_append.1 hs
  refine List.pairwise_cons.2 ⟨fun z hz => ?_, shp_srt (h.sub fun y hy => List.mem_cons_of_mem _ hy) h2.2.1⟩
  obtain ⟨a, ha, e1⟩ := one_mem (h.one (x := x) (by simp))
  obtain ⟨b, hb, e2⟩ := one_mem (h.one (x := z) (by simp [hz]))
  have := h2.2.2 a ha b (List.mem_flatMap.2 ⟨z, hz, hb⟩)
  rwa [e1, e2] at this
theorem go_ok {s : Sto} {l : Nat} (h1 : ∀ x, Shp s l [x] → Srt (wCm s l x) → (wDd s l x).is = true ∧ (wDd s l x).first = x.key ∧ ∃ y ∈ wCm s l x, (wDd s l x).last = y.key) :
  ∀ (xs : List It) (o : Option Sp), Shp s l xs → Srt (wCc s l xs) → (∀ p, o = some p → p.is = true ∧ ∀ y ∈ wCc s l xs, wBe p.last y.key = true) → (o = none → xs ≠ []) →
   (wFo (wDd s l) o xs).is = true ∧ (wFo (wDd s l) o xs).first = (match o with | none => wDn xs | some p => p.first) ∧ (xs ≠ [] → ∃ y ∈ wCc s l xs, (wFo (wDd s l) o xs).last = y.key)
 | [], o, _, _, ho, hn => by
  cases o with
  | none => exact absurd rfl (hn rfl)
  | some p => exact ⟨(ho p rfl).1, rfl, fun h => absurd rfl h⟩
 | x :: xs, o, hp, hs, ho, _ => by
  rw [wFv] at hs ho
  have h2 := List.pairwise_append.1 hs
  have hx := hp.one (x := x) (by simp)
  obtain ⟨k1, k2, y, hy, k3⟩ := h1 x hx h2.1
  obtain ⟨z, hz, e1⟩ := one_mem hx
  have hstep : wCa (wDd s l x) o x = true := by
   unfold wCa
   rw [k1, k2]
   cases o with
   | none => simp
   | some p =>
    have := (ho p rfl).2 z (List.mem_append_left _ hz)
    rw [e1] at this
    simp [this]
  rw [wFo, if_pos hstep]
  obtain ⟨i1, i2, i3⟩ := go_ok h1 xs (some (wEa (wDd s l x) o)) (hp.sub fun y hy => List.mem_cons_of_mem _ hy) h2.2.1 (fun p e => by
   cases e
   exact ⟨rfl, fun w hw => by show wBe (wDd s l x).last w.key = true; rw [k3]; exact h2.2.2 y hy w hw⟩) (fun e => by cases e)
  refine ⟨i1, ?_, fun _ => ?_⟩
  ·rw [i2]
   cases o with
   | none => exact k2
   | some p => rfl
  ·rw [wFv]
   cases xs with
   | nil => exact ⟨y, List.mem_append_left _ hy, k3⟩
   | cons w ws =>
    obtain ⟨v, hv, e⟩ := i3 (by simp)
    exact ⟨v, List.mem_append_right _ hv, e⟩
theorem one_ok {s : Sto} : ∀ (l : Nat) (x : It), Shp s l [x] → Srt (wCm s l x) → (wDd s l x).is = true ∧ (wDd s l x).first = x.key ∧ ∃ y ∈ wCm s l x, (wDd s l x).last = y.key
 | 0, x, h, _ => by
  refine ⟨?_, rfl, x, by simp [wCm], rfl⟩
  show (decide (x.ref = 0) || decide (0 < ((s.now.getD x.ref.toNat 0).toNat : Int))) = true
  rcases h x (by simp) with h | h
  ·simp [h]
  ·have : (s.now.getD x.ref.toNat 0).toNat ≠ 0 := fun e => h (UInt8.toNat.inj e)
   rw [Bool.or_eq_true]; exact .inr (decide_eq_true (by omega))
 | l + 1, x, h, hs => by
  obtain ⟨ys, h1, h2, h3, h4⟩ := h x (by simp)
  rw [wCi h1] at hs ⊢
  have e : wDd s (l + 1) x = wFo (wDd s l) none ys := by simp only [wDd, h1]; exact if_pos ⟨trivial, h2⟩
  rw [e]
  obtain ⟨i1, i2, i3⟩ := go_ok (fun x => one_ok l x) ys none h4 hs (fun p e => by cases e) (fun _ => h2)
  exact ⟨i1, by rw [i2]; exact h3, i3 h2⟩
theorem tree_of {s : Sto} {l : Nat} {xs : List It} (h : Shp s l xs) (hs : Srt (wCc s l xs)) : wBy s l xs := fun hx =>
 (go_ok (fun x => one_ok l x) xs none h hs (fun p e => by cases e) (fun _ => hx)).1
theorem step_first {one : Sp} {k : Ky} (h : one.first = k) : ∀ (o : Option Sp), (wEa one o).first = (match o with | none => k | some p => p.first)
 | none => h
 | some p => rfl
theorem go_first {f : It → Sp} : ∀ {xs : List It} {o : Option Sp}, (wFo f o xs).is = true → xs ≠ [] → (∀ x ∈ xs, (f x).is = true ∧ (f x).first = x.key) → (wFo f o xs).first = (match o with | none => wDn xs | some p => p.first)
 | x :: xs, o, h, _, ha => by
  have e := step_first (ha x (by simp)).2 o
  rw [wFo] at h ⊢
  split at h
  ·rename_i hs
   rw [if_pos hs]
   cases xs with
   | nil => exact e
   | cons y ys => exact (go_first h (by simp) (fun z hz => ha z (List.mem_cons_of_mem _ hz))).trans e
  ·cases h
theorem shp_of {s : Sto} : ∀ {l : Nat} {xs : List It}, wBy s l xs → Shp s l xs
 | 0, xs, h => fun x hx => by
  have h1 := (wKi (h (List.ne_nil_of_mem hx)) x hx).1
  change (decide (x.ref = 0) || decide (0 < ((s.now.getD x.ref.toNat 0).toNat : Int))) = true at h1
  rw [Bool.or_eq_true] at h1
  rcases h1 with h1 | h1
  ·exact .inl (of_decide_eq_true h1)
  ·exact .inr fun e => by rw [e] at h1; exact absurd (of_decide_eq_true h1) (by decide)
 | l + 1, xs, h => fun x hx => by
  have h1 := wKi (h (List.ne_nil_of_mem hx)) x hx
  obtain ⟨ys, h2, h3, h4⟩ := one_up h1.1
  have h5 : wBy s l ys := fun _ => by rw [← h4]; exact h1.1
  refine ⟨ys, h2, h3, ?_, shp_of h5⟩
  have h6 := go_first (h5 h3) h3 (wKi (h5 h3))
  have h7 := h1.2
  rw [h4, h6] at h7
  exact h7
def wGr (x : It) (l : List It) : List It := (l.filter fun y => wBe y.key x.key) ++ x :: (l.filter fun y => wBe x.key y.key)
theorem wKf {x : It} {A B C : List It} (hA : ∀ y ∈ A, wBe y.key x.key = true) (hC : ∀ y ∈ C, wBe x.key y.key = true) : wGr x (A ++ B ++ C) = A ++ wGr x B ++ C := by
 unfold wGr
 have a1 : (A.filter fun y => wBe y.key x.key) = A := List.filter_eq_self.2 hA
 have a2 : (A.filter fun y => wBe x.key y.key) = [] := List.filter_eq_nil_iff.2 fun y hy => by
  have : wBe x.key y.key = false := wKo (hA y hy)
  rw [this]; decide
 have c1 : (C.filter fun y => wBe x.key y.key) = C := List.filter_eq_self.2 hC
 have c2 : (C.filter fun y => wBe y.key x.key) = [] := List.filter_eq_nil_iff.2 fun y hy => by
  have : wBe y.key x.key = false := wKo (hC y hy)
  rw [this]; decide
 simp only [List.filter_append, a1, a2, c1, c2, List.append_nil, List.nil_append, List.append_assoc, List.cons_append]
theorem insL_srt {x : It} {l : List It} (h : Srt l) : Srt (wGr x l) := by
 refine List.pairwise_append.2 ⟨h.filter _, List.pairwise_cons.2 ⟨fun y hy => (List.mem_filter.1 hy).2, h.filter _⟩, fun a ha b hb => ?_⟩
 have h1 := (List.mem_filter.1 ha).2
 rcases List.mem_cons.1 hb with rfl | hb
 ·exact h1
 ·exact wMf h1 (List.mem_filter.1 hb).2
theorem wEo {q : Ky} : ∀ {xs : List It}, Srt xs → (∀ z ∈ xs.take (place xs q), wBe z.key q = true) ∧ ∀ z ∈ xs.drop (place xs q), wBe z.key q = false
 | [], _ => ⟨fun z hz => (by simp at hz), fun z hz => (by simp at hz)⟩
 | x :: xs, h => by
  have h2 := List.pairwise_cons.1 h
  obtain ⟨i1, i2⟩ := wEo (q := q) h2.2
  by_cases hx : wBe x.key q = true
  ·have hp : place (x :: xs) q = place xs q + 1 := by unfold place; rw [List.filter_cons_of_pos (by simpa using hx), List.length_cons]
   rw [hp, List.take_succ_cons, List.drop_succ_cons]
   refine ⟨fun z hz => ?_, i2⟩
   rcases List.mem_cons.1 hz with rfl | hz
   ·exact hx
   ·exact i1 z hz
  ·have hall : ∀ z ∈ x :: xs, wBe z.key q = false := fun z hz => by
    rcases List.mem_cons.1 hz with rfl | hz
    ·simpa using hx
    ·exact wMe (kl_neg hx) (wKo (h2.1 z hz))
   have hp : place (x :: xs) q = 0 := place_none hall
   rw [hp]
   exact ⟨fun z hz => (by simp at hz), fun z hz => hall z (by simpa using hz)⟩
def wEb (s : Sto) (n : Nat) : List Int := match wBs s n with | some (_, ys) => ys.map (·.ref) | none => []
def wS (s : Sto) (S : List Nat) (k : Int) : Nat := (S.map fun n => (wEb s n).count k).sum
theorem wFh {s : Sto} {n : Nat} {lv : Int} {ys : List It} (h : wBs s n = some (lv, ys)) : wEb s n = ys.map (·.ref) := by unfold wEb; rw [h]
theorem wHp {s : Sto} {n : Nat} (h : wBs s n = none) : wEb s n = [] := by unfold wEb; rw [h]
theorem sum_le {α : Type} {f g : α → Nat} : ∀ {l : List α}, (∀ x ∈ l, f x ≤ g x) → (l.map f).sum ≤ (l.map g).sum
  | [], _ => Nat.le_refl _
  | x :: l, h => by
    have h1 := h x (by simp)
    have h2 := sum_le (l := l) (f := f) (g := g) fun y hy => h y (by simp [hy])
    simp only [List.map_cons, List.sum_cons]; omega
theorem sum_mem {α : Type} {f : α → Nat} : ∀ {l : List α} {x : α}, x ∈ l → f x ≤ (l.map f).sum
  | y :: l, x, h => by
    simp only [List.map_cons, List.sum_cons]
    rcases List.mem_cons.1 h with rfl | h
    · omega
    · have := sum_mem (f := f) h; omega
theorem sum_less {α : Type} {f g : α → Nat} {c : Nat} : ∀ {l : List α} {x : α}, x ∈ l → (∀ y ∈ l, f y ≤ g y) → f x + c ≤ g x → (l.map f).sum + c ≤ (l.map g).sum
  | y :: l, x, h, hl, hx => by
    simp only [List.map_cons, List.sum_cons]
    rcases List.mem_cons.1 h with rfl | h
    · have := sum_le (l := l) (f := f) (g := g) fun z hz => hl z (by simp [hz]); omega
    · have := sum_less h (fun z hz => hl z (by simp [hz])) hx
      have := hl y (by simp); omega
theorem sum_sub {α : Type} (f : α → Nat) (p : α → Bool) : ∀ (l : List α), ((l.filter p).map f).sum ≤ (l.map f).sum
  | [] => Nat.le_refl _
  | x :: l => by
    have := sum_sub f p l
    by_cases h : p x = true
    · rw [List.filter_cons_of_pos h]; simp only [List.map_cons, List.sum_cons]; omega
    · rw [List.filter_cons_of_neg h]; simp only [List.map_cons, List.sum_cons]; omega
theorem wS_pos {s : Sto} {S : List Nat} {n : Nat} {lv : Int} {ys : List It} {x : It} (hn : n ∈ S) (h : wBs s n = some (lv, ys)) (hx : x ∈ ys) : 0 < wS s S x.ref := by
  have h1 := sum_mem (f := fun n => (wEb s n).count x.ref) hn
  have h2 : 0 < (wEb s n).count x.ref := by rw [wFh h]; exact List.count_pos_iff.2 (List.mem_map_of_mem hx)
  exact Nat.lt_of_lt_of_le h2 h1
structure En (s : Sto) (S : List Nat) (R : List Int) : Prop where
  ok : wCx s
  enough : ∀ k : Int, 0 < k → k < 256 → wS s S k + R.count k ≤ (s.now.getD k.toNat 0).toNat
  closed : ∀ n ∈ S, ∀ lv ys, wBs s n = some (lv, ys) → 0 < lv → ∀ x ∈ ys, x.ref.toNat ∈ S ∧ ∃ zs, wBs s x.ref.toNat = some (lv - 1, zs)
theorem En.less {s : Sto} {S : List Nat} {R R' : List Int} (h : En s S R) (hr : ∀ k, 0 < k → R'.count k ≤ R.count k) : En s S R' :=
  ⟨h.ok, fun k h0 h1 => by have := h.enough k h0 h1; have := hr k h0; omega, h.closed⟩
theorem En.perm {s : Sto} {S : List Nat} {R R' : List Int} (h : En s S R) (hp : R.Perm R') : En s S R' := h.less fun k _ => by rw [hp.count_eq]; exact Nat.le_refl _
theorem nz_of {b : By} (h : 0 < b.toNat) : ¬ b = 0 := fun e => by rw [e] at h; exact absurd h (by decide)
theorem En.live {s : Sto} {S : List Nat} {R : List Int} (h : En s S R) {k : Int} (h0 : 0 < k) (h1 : k < 256) (hk : 0 < wS s S k + R.count k) : ¬ s.now.getD k.toNat 0 = 0 := by
  have := h.enough k h0 h1; exact nz_of (by omega)
structure Ext (s t : Sto) : Prop where
  nd : ∀ n r, wBs s n = some r → wBs t n = some r
  live : ∀ k, ¬ s.now.getD k 0 = 0 → ¬ t.now.getD k 0 = 0
theorem Ext.refl (s : Sto) : Ext s s := ⟨fun _ _ h => h, fun _ h => h⟩
theorem Ext.trans {s t u : Sto} (h : Ext s t) (k : Ext t u) : Ext s u := ⟨fun n r e => k.nd n r (h.nd n r e), fun n e => k.live n (h.live n e)⟩
theorem Ext.shp {s t : Sto} (h : Ext s t) : ∀ {l : Nat} {xs : List It}, Shp s l xs → Shp t l xs ∧ wCc t l xs = wCc s l xs
  | 0, xs, hs => ⟨fun x hx => (hs x hx).imp id (h.live _), by rw [wDq, wDq]⟩
  | l + 1, xs, hs => by
    have hk : ∀ x ∈ xs, (∃ ys, wBs t x.ref.toNat = some ((l : Int), ys) ∧ ys ≠ [] ∧ wDn ys = x.key ∧ Shp t l ys) ∧ wCm t (l + 1) x = wCm s (l + 1) x := fun x hx => by
      obtain ⟨ys, h1, h2, h3, h4⟩ := hs x hx
      obtain ⟨i1, i2⟩ := h.shp h4
      have h5 := h.nd _ _ h1
      exact ⟨⟨ys, h5, h2, h3, i1⟩, by rw [wCi h5, wCi h1, i2]⟩
    refine ⟨fun x hx => (hk x hx).1, ?_⟩
    unfold wCc
    clear hs
    induction xs with
    | nil => rfl
    | cons x xs ih => rw [List.flatMap_cons, List.flatMap_cons, (hk x (by simp)).2, ih fun y hy => hk y (by simp [hy])]
structure Thin (s t : Sto) : Prop where
  waits : t.waits = s.waits
  blocks : t.blocks = s.blocks
  last : t.last = s.last
  now : ∀ n, (t.now.getD n 0).toNat ≤ (s.now.getD n 0).toNat
theorem Thin.refl (s : Sto) : Thin s s := ⟨rfl, rfl, rfl, fun _ => Nat.le_refl _⟩
theorem Thin.trans {s t u : Sto} (h : Thin s t) (k : Thin t u) : Thin s u := ⟨k.waits.trans h.waits, k.blocks.trans h.blocks, k.last.trans h.last, fun n => Nat.le_trans (k.now n) (h.now n)⟩
theorem Thin.nd {s t : Sto} (h : Thin s t) {n : Nat} (hn : ¬ t.now.getD n 0 = 0) : wBs t n = wBs s n := by
  have h1 : ¬ s.now.getD n 0 = 0 := fun e => by
    have := h.now n; rw [e] at this
    exact hn (UInt8.toNat.inj (by have h0 : (0 : By).toNat = 0 := rfl; omega))
  have hs : wLr t n = wLr s n := by unfold wLr; rw [h.waits, h.blocks]
  unfold wBs; rw [if_neg hn, if_neg h1, hs]
theorem Thin.nd_or {s t : Sto} (h : Thin s t) (n : Nat) : wBs t n = wBs s n ∨ wBs t n = none := by
  by_cases hn : t.now.getD n 0 = 0
  · right; unfold wBs; rw [if_pos hn]
  · exact .inl (h.nd hn)
theorem Thin.wS_le {s t : Sto} (h : Thin s t) (S : List Nat) (k : Int) : wS t S k ≤ wS s S k := sum_le fun n _ => by
  rcases h.nd_or n with e | e
  · unfold wEb; rw [e]; exact Nat.le_refl _
  · rw [wHp e]; exact Nat.zero_le _
theorem wEf {s : Sto} {n : Nat} {r : Int × List It} (h : wBs s n = some r) : ¬ s.now.getD n 0 = 0 := ndAt_nz h
theorem Thin.shp {s t : Sto} {S : List Nat} {R : List Int} (h : Thin s t) (he : En t S R) : ∀ {l : Nat} {xs : List It}, Shp s l xs → (∀ x ∈ xs, (0 < l → x.ref.toNat ∈ S ∧ wBs t x.ref.toNat ≠ none) ∧ (l = 0 → x.ref ≠ 0 → ¬ t.now.getD x.ref.toNat 0 = 0)) → Shp t l xs ∧ wCc t l xs = wCc s l xs
  | 0, xs, hs, hk => ⟨fun x hx => (Classical.em (x.ref = 0)).imp id ((hk x hx).2 rfl), by rw [wDq, wDq]⟩
  | l + 1, xs, hs, hk => by
    have hx : ∀ x ∈ xs, (∃ ys, wBs t x.ref.toNat = some ((l : Int), ys) ∧ ys ≠ [] ∧ wDn ys = x.key ∧ Shp t l ys) ∧ wCm t (l + 1) x = wCm s (l + 1) x := fun x hx => by
      obtain ⟨ys, h1, h2, h3, h4⟩ := hs x hx
      obtain ⟨hS, hn⟩ := (hk x hx).1 (by omega)
      have h5 : wBs t x.ref.toNat = some ((l : Int), ys) := by
        rcases h.nd_or x.ref.toNat with e | e
        · rw [e]; exact h1
        · exact absurd e hn
      have hno := wBm h5
      obtain ⟨i1, i2⟩ := h.shp he h4 fun y hy => ⟨fun hl => by
        obtain ⟨c1, zs, c2⟩ := he.closed _ hS _ _ h5 (by omega) y hy
        exact ⟨c1, by rw [c2]; simp⟩, fun hl hy0 => by
        have := hno.ref y hy
        exact he.live (by omega) (by omega) (by have := wS_pos hS h5 hy; omega)⟩
      exact ⟨⟨ys, h5, h2, h3, i1⟩, by rw [wCi h5, wCi h1, i2]⟩
    refine ⟨fun x h => (hx x h).1, ?_⟩
    unfold wCc
    clear hs hk
    induction xs with
    | nil => rfl
    | cons x xs ih => rw [List.flatMap_cons, List.flatMap_cons, (hx x (by simp)).2, ih fun y hy => hx y (by simp [hy])]
theorem wCh {xs : List By} {k : Nat} {v : By} (h : k < xs.length) : (xs.set k v).getD k 0 = v := by simp [List.getD, h]
theorem sub_one {b : By} (h : ¬ b = 0) : (b - 1).toNat + 1 = b.toNat := by have := dec_u8 h; omega
theorem wHs (s : Sto) {k : Nat} (hk : k < s.now.length) (h : ¬ s.now.getD k 0 = 0) : Thin s (wCf s k) := ⟨rfl, rfl, rfl, fun n => by
  show ((s.now.set k _).getD n 0).toNat ≤ _
  by_cases e : n = k
  · subst e; rw [wCh hk]; have := sub_one h; omega
  · rw [wBw e]; exact Nat.le_refl _⟩
theorem En.loose {s : Sto} {S : List Nat} {R : List Int} {k : Int} (h : En s S (k :: R)) (hk : 8 ≤ k ∧ k < 256) : wFa s k.toNat = 0 ∧ ¬ s.now.getD k.toNat 0 = 0 ∧ En (wCf s k.toNat) S R := by
  have hl : s.now.length = 256 := h.ok.2.1.1
  have h1 := h.enough k (by omega) hk.2
  rw [List.count_cons_self] at h1
  have hz : ¬ s.now.getD k.toNat 0 = 0 := nz_of (by omega)
  have hth := wHs s (show k.toNat < s.now.length by omega) hz
  have hs1 := sub_one hz
  refine ⟨if_neg hz, hz, wEy h.ok (by omega), fun j h0 h256 => ?_, fun n hn lv ys hnd hlv x hx => ?_⟩
  · have h2 := h.enough j h0 h256
    have h3 := hth.wS_le S j
    show _ ≤ ((s.now.set k.toNat _).getD j.toNat 0).toNat
    by_cases e : j = k
    · subst e
      rw [List.count_cons_self] at h2
      rw [wCh (by omega)]; omega
    · rw [wBw (by omega)]
      rw [List.count_cons_of_ne (Ne.symm e)] at h2; omega
  · have hnl := wEf hnd
    have hnd2 : wBs s n = some (lv, ys) := by rw [← hth.nd hnl]; exact hnd
    obtain ⟨c1, zs, c2⟩ := h.closed n hn lv ys hnd2 hlv x hx
    refine ⟨c1, zs, ?_⟩
    have hno := wBm hnd2
    have hr := hno.ref x hx
    have hr0 := hno.up hlv x hx
    have hw := wS_pos hn hnd2 hx
    have hlive : ¬ (wCf s k.toNat).now.getD x.ref.toNat 0 = 0 := by
      show ¬ (s.now.set k.toNat _).getD x.ref.toNat 0 = 0
      by_cases e : x.ref = k
      · rw [e] at hw ⊢
        rw [wCh (by omega)]
        exact nz_of (by omega)
      · rw [wBw (by omega)]; exact wEf c2
    rw [hth.nd hlive]; exact c2
theorem loose_ext {s : Sto} {S : List Nat} {R : List Int} {k : Int} (h : En s S (k :: R)) (hk : 8 ≤ k ∧ k < 256) (hw : 0 < wS s S k + R.count k) : Ext s (wCf s k.toNat) := by
  have hl : s.now.length = 256 := h.ok.2.1.1
  have h1 := h.enough k (by omega) hk.2
  rw [List.count_cons_self] at h1
  have hz : ¬ s.now.getD k.toNat 0 = 0 := nz_of (by omega)
  have hth := wHs s (show k.toNat < s.now.length by omega) hz
  have hs1 := sub_one hz
  have hlive : ∀ n, ¬ s.now.getD n 0 = 0 → ¬ (wCf s k.toNat).now.getD n 0 = 0 := fun n hn => by
    show ¬ (s.now.set k.toNat _).getD n 0 = 0
    by_cases e : n = k.toNat
    · subst e; rw [wCh (by omega)]; exact nz_of (by omega)
    · rw [wBw e]; exact hn
  exact ⟨fun n r hn => by rw [hth.nd (hlive n (wEf hn))]; exact hn, hlive⟩
theorem wGo (s : Sto) (k : Nat) : Thin s (wCq s k) := ⟨rfl, rfl, rfl, fun n => by
  show ((s.now.set k 0).getD n 0).toNat ≤ _
  by_cases e : n = k
  · subst e
    rcases Nat.lt_or_ge n s.now.length with h | h
    · rw [wCh h]; exact Nat.zero_le _
    · rw [List.set_eq_of_length_le h]; exact Nat.le_refl _
  · rw [wBw e]; exact Nat.le_refl _⟩
theorem En.clear {s : Sto} {S : List Nat} {R : List Int} {k lv : Int} {ys : List It} (h : En s S (k :: R)) (hk : 8 ≤ k ∧ k < 256) (h1 : s.now.getD k.toNat 0 = 1) (hS : k.toNat ∈ S) (hnd : wBs s k.toNat = some (lv, ys)) :
    En (wCq s k.toNat) S (ys.map (·.ref) ++ R) ∧ wS s S k = 0 ∧ R.count k = 0 := by
  have hl : s.now.length = 256 := h.ok.2.1.1
  have hth := wGo s k.toNat
  have e1 := h.enough k (by omega) hk.2
  rw [List.count_cons_self, h1] at e1
  have h11 : (1 : By).toNat = 1 := rfl
  have hw0 : wS s S k = 0 := by omega
  have hR0 : R.count k = 0 := by omega
  have hdead : wBs (wCq s k.toNat) k.toNat = none := by
    unfold wBs; rw [if_pos]; show (s.now.set k.toNat 0).getD k.toNat 0 = 0; exact wCh (by omega)
  refine ⟨⟨wHm h.ok (by omega), fun j h0 h256 => ?_, fun n hn lv2 zs hnd2 hlv x hx => ?_⟩, hw0, hR0⟩
  · have h2 := h.enough j h0 h256
    have h3 : wS (wCq s k.toNat) S j + (ys.map (·.ref)).count j ≤ wS s S j := by
      refine sum_less hS (fun n _ => ?_) ?_
      · rcases hth.nd_or n with e | e
        · unfold wEb; rw [e]; exact Nat.le_refl _
        · rw [wHp e]; exact Nat.zero_le _
      · rw [wHp hdead, wFh hnd]; simp
    rw [List.count_append]
    show _ ≤ ((s.now.set k.toNat 0).getD j.toNat 0).toNat
    by_cases e : j = k
    · subst e
      rw [wCh (by omega)]; omega
    · rw [wBw (by omega)]
      rw [List.count_cons_of_ne (Ne.symm e)] at h2; omega
  · have hnl := wEf hnd2
    have hnd3 : wBs s n = some (lv2, zs) := by rw [← hth.nd hnl]; exact hnd2
    obtain ⟨c1, us, c2⟩ := h.closed n hn lv2 zs hnd3 hlv x hx
    refine ⟨c1, us, ?_⟩
    have hr := (wBm hnd3).ref x hx
    have hr0 := (wBm hnd3).up hlv x hx
    have hw := wS_pos hn hnd3 hx
    have hne : x.ref ≠ k := fun e => by rw [e] at hw; omega
    have hlive : ¬ (wCq s k.toNat).now.getD x.ref.toNat 0 = 0 := by
      show ¬ (s.now.set k.toNat 0).getD x.ref.toNat 0 = 0
      rw [wBw (by omega)]; exact wEf c2
    rw [hth.nd hlive]; exact c2
theorem looAll_law {S : List Nat} {R : List Int} : ∀ {ys : List It} {s : Sto}, En s S (ys.map (·.ref) ++ R) → (∀ y ∈ ys, y.ref = 0 ∨ 8 ≤ y.ref ∧ y.ref < 256) → ∃ t, wFe ys s = some t ∧ En t S R ∧ Thin s t ∧ wKm t.now ≤ wKm s.now
  | [], s, h, _ => ⟨s, rfl, h, Thin.refl s, Nat.le_refl _⟩
  | y :: ys, s, h, hr => by
    rw [wFe]
    by_cases h0 : y.ref = 0
    · rw [if_pos h0]
      exact looAll_law (h.less fun k hk => by rw [List.map_cons, List.cons_append, List.count_cons_of_ne (by omega)]; exact Nat.le_refl _) fun z hz => hr z (by simp [hz])
    · have hk := (hr y (by simp)).resolve_left h0
      have hl : s.now.length = 256 := h.ok.2.1.1
      obtain ⟨e1, e2, e3⟩ := En.loose (k := y.ref) (R := ys.map (·.ref) ++ R) h hk
      rw [if_neg h0, if_pos e1]
      obtain ⟨t, k1, k2, k3, k4⟩ := looAll_law e3 fun z hz => hr z (by simp [hz])
      refine ⟨t, k1, k2, (wHs s (by omega) e2).trans k3, ?_⟩
      have := wHg (s := s) (k := y.ref.toNat) (by omega) e2; omega
structure LvJ (first : List By) (s : Sto) (S : List Nat) (R : List Int) (st : List (Int × Int)) : Prop where
  en : En s S (st.map (·.1) ++ R)
  st : ∀ p ∈ st, (8 ≤ p.1 ∧ p.1 < 256) ∧ p.1.toNat ∈ S ∧ ∃ lv ys, wBs s p.1.toNat = some (lv, ys) ∧ (p.2 < 0 ∨ lv = p.2)
  first : ∀ n, (s.now.getD n 0).toNat ≤ (first.getD n 0).toNat
theorem LvJ.thin {first : List By} {s t : Sto} {S : List Nat} {R : List Int} {st : List (Int × Int)} (he : En t S (st.map (·.1) ++ R)) (hst : ∀ p ∈ st, (8 ≤ p.1 ∧ p.1 < 256) ∧ p.1.toNat ∈ S ∧ ∃ lv ys, wBs s p.1.toNat = some (lv, ys) ∧ (p.2 < 0 ∨ lv = p.2)) (hf : ∀ n, (s.now.getD n 0).toNat ≤ (first.getD n 0).toNat) (hth : Thin s t) : LvJ first t S R st := by
  refine ⟨he, fun p hp => ?_, fun n => Nat.le_trans (hth.now n) (hf n)⟩
  obtain ⟨h1, h2, lv, ys, h3, h4⟩ := hst p hp
  refine ⟨h1, h2, lv, ys, ?_, h4⟩
  have hc : 0 < (st.map (·.1) ++ R).count p.1 := List.count_pos_iff.2 (List.mem_append_left _ (List.mem_map_of_mem hp))
  rw [hth.nd (he.live (by omega) h1.2 (by omega))]; exact h3
theorem wMc {first : List By} {S : List Nat} {R : List Int} : ∀ {f : Nat} {s : Sto} {st : List (Int × Int)}, LvJ first s S R st → wKm s.now ≤ f → ∃ t, lvF first f s st = some t ∧ En t S R ∧ Thin s t
  | f, s, [], h, _ => ⟨s, by cases f <;> rfl, h.en, Thin.refl s⟩
  | f, s, (k, l) :: st, h, hf => by
    obtain ⟨hk, hS, lv, ys, hnd, hlev⟩ := h.st (k, l) (by simp)
    dsimp only at hk hS hnd hlev
    have hl : s.now.length = 256 := h.en.ok.2.1.1
    have hen : En s S (k :: (st.map (·.1) ++ R)) := h.en
    obtain ⟨e1, e2, e3⟩ := hen.loose hk
    have hpos := sumN_pos e2
    obtain ⟨f, rfl⟩ : ∃ f', f = f' + 1 := ⟨f - 1, by omega⟩
    have hst : ∀ p ∈ st, (8 ≤ p.1 ∧ p.1 < 256) ∧ p.1.toNat ∈ S ∧ ∃ lv ys, wBs s p.1.toNat = some (lv, ys) ∧ (p.2 < 0 ∨ lv = p.2) := fun p hp => h.st p (by simp [hp])
    by_cases h1 : s.now.getD k.toNat 0 = 1
    · obtain ⟨c1, c2, c3⟩ := hen.clear hk h1 hS hnd
      rw [wGy e2 h1 hnd]
      have hfirst : ¬ first.getD k.toNat 0 = 0 := fun e => by
        have := h.first k.toNat
        rw [e, h1] at this; exact absurd this (by decide)
      rw [if_neg (by rintro (e | ⟨a, b⟩)
                     · exact hfirst e
                     · exact hlev.elim (fun h => by omega) b)]
      have hno := wBm hnd
      have hsum := wHk (s := s) (k := k.toNat) (by omega) (by rw [h1]; rfl)
      by_cases hlv : 0 < lv
      · rw [if_pos hlv]
        have hmap : (wGf lv ys ++ st).map (·.1) = ys.map (·.ref) ++ st.map (·.1) := by
          rw [List.map_append]; unfold wGf; rw [List.map_map]; rfl
        have hJ : LvJ first (wCq s k.toNat) S R (wGf lv ys ++ st) := by
          refine LvJ.thin (s := s) (by rw [hmap, List.append_assoc]; exact c1) (fun p hp => ?_) h.first (wGo s k.toNat)
          rcases List.mem_append.1 hp with hp | hp
          · obtain ⟨y, hy, rfl⟩ := List.mem_map.1 hp
            obtain ⟨d1, zs, d2⟩ := hen.closed _ hS _ _ hnd hlv y hy
            have := hno.ref y hy
            have := hno.up hlv y hy
            exact ⟨by show 8 ≤ y.ref ∧ y.ref < 256; omega, d1, lv - 1, zs, d2, .inr rfl⟩
          · exact hst p hp
        obtain ⟨t, k1, k2, k3⟩ := wMc hJ (f := f) (by omega)
        exact ⟨t, k1, k2, (wGo s k.toNat).trans k3⟩
      · rw [if_neg hlv]
        obtain ⟨t, k1, k2, k3, k4⟩ := looAll_law c1 hno.ref
        rw [k1]
        have hJ : LvJ first t S R st := LvJ.thin (s := s) k2 hst h.first ((wGo s k.toNat).trans k3)
        obtain ⟨u, m1, m2, m3⟩ := wMc hJ (f := f) (by omega)
        exact ⟨u, m1, m2, (wGo s k.toNat).trans (k3.trans m3)⟩
    · rw [lv_more e2 h1]
      have hth := wHs s (show k.toNat < s.now.length by omega) e2
      have hsum := wHg (s := s) (k := k.toNat) (by omega) e2
      have hJ : LvJ first (wCf s k.toNat) S R st := LvJ.thin (s := s) e3 hst h.first hth
      obtain ⟨t, k1, k2, k3⟩ := wMc hJ (f := f) (by omega)
      exact ⟨t, k1, k2, hth.trans k3⟩
theorem leave_tree {s : Sto} {S : List Nat} {R : List Int} {root : Int} {lv : Int} {ys : List It} (h : En s S (root :: R)) (hk : 8 ≤ root ∧ root < 256) (hS : root.toNat ∈ S) (hnd : wBs s root.toNat = some (lv, ys)) : ∃ t, wGt s root = some t ∧ En t S R ∧ Thin s t :=
  wMc ⟨h, fun p hp => by rw [List.mem_singleton.1 hp]; exact ⟨hk, hS, lv, ys, hnd, .inl (by show (-1 : Int) < 0; omega)⟩, fun _ => Nat.le_refl _⟩ (Nat.le_refl _)
end Go.Proofs.YtckdncmjkloebaaGreat
