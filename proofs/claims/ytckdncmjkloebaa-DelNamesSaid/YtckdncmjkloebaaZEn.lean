/- Blocks counted often enough, without a program in sight: a node made, a reference taken away, a node left. No statement of the seat is proved here. -/
import Derived.Test.YtckdncmjkloebaaZPutf
import Derived.Test.YtckdncmjkloebaaZPut
namespace Go.Proofs.Ytckdncmjkloebaa
set_option linter.unusedSimpArgs false
set_option linter.unusedVariables false
open Go.RowKit
def Shp (s : Sto) : Nat → List It → Prop
 | 0, xs => ∀ x ∈ xs, x.ref = 0 ∨ ¬ s.now.getD x.ref.toNat 0 = 0
 | l + 1, xs => ∀ x ∈ xs, ∃ ys, wBs s x.ref.toNat = some ((l : Int), ys) ∧ ys ≠ [] ∧ wDg ys = x.key ∧ Shp s l ys
theorem Shp.sub {s : Sto} {l : Nat} {xs ys : List It} (h : Shp s l xs) (hs : ∀ y ∈ ys, y ∈ xs) : Shp s l ys := by
 cases l with
 | zero => exact fun x hx => h x (hs x hx)
 | succ l => exact fun x hx => h x (hs x hx)
theorem Shp.app {s : Sto} {l : Nat} {xs ys : List It} (h : Shp s l xs) (k : Shp s l ys) : Shp s l (xs ++ ys) := by
 cases l with
 | zero => exact fun x hx => (List.mem_append.1 hx).elim (h x) (k x)
 | succ l => exact fun x hx => (List.mem_append.1 hx).elim (h x) (k x)
theorem Shp.one {s : Sto} {l : Nat} {xs : List It} (h : Shp s l xs) {x : It} (hx : x ∈ xs) : Shp s l [x] := h.sub fun y hy => by rw [List.mem_singleton.1 hy]; exact hx
theorem wDc (s : Sto) (l : Nat) (xs ys : List It) : wCs s l (xs ++ ys) = wCs s l xs ++ wCs s l ys := List.flatMap_append
theorem wGt (s : Sto) (l : Nat) (x : It) (xs : List It) : wCs s l (x :: xs) = wCo s l x ++ wCs s l xs := List.flatMap_cons
theorem wHe (s : Sto) (l : Nat) (x : It) : wCs s l [x] = wCo s l x := by rw [wGt]; show _ ++ [] = _; rw [List.append_nil]
theorem wFg (s : Sto) (xs : List It) : wCs s 0 xs = xs := by
 unfold wCs
 induction xs with
 | nil => rfl
 | cons x xs ih => rw [List.flatMap_cons, ih]; rfl
theorem wCx {s : Sto} {l : Nat} {x : It} {lv : Int} {ys : List It} (h : wBs s x.ref.toNat = some (lv, ys)) : wCo s (l + 1) x = wCs s l ys := by
 have : kid s x = ys := by unfold kid; rw [h]
 rw [wCo, this]; rfl
theorem one_head {s : Sto} : ∀ {l : Nat} {x : It}, Shp s l [x] → ∃ y r, wCo s l x = y :: r ∧ y.key = x.key
 | 0, x, _ => ⟨x, [], rfl, rfl⟩
 | l + 1, x, h => by
  obtain ⟨ys, h1, h2, h3, h4⟩ := h x (by simp)
  obtain ⟨z, zs, rfl⟩ := List.exists_cons_of_ne_nil h2
  obtain ⟨y, r, e1, e2⟩ := one_head (h4.one (x := z) (by simp))
  exact ⟨y, r ++ wCs s l zs, by rw [wCx h1, wGt, e1]; rfl, by rw [e2]; exact h3⟩
theorem one_mem {s : Sto} {l : Nat} {x : It} (h : Shp s l [x]) : ∃ y ∈ wCo s l x, y.key = x.key := by
 obtain ⟨y, r, e1, e2⟩ := one_head h
 exact ⟨y, by rw [e1]; simp, e2⟩
theorem shp_srt {s : Sto} {l : Nat} : ∀ {xs : List It}, Shp s l xs → Srt (wCs s l xs) → Srt xs
 | [], _, _ => List.Pairwise.nil
 | x :: xs, h, hs => by
  rw [wGt] at hs
  have h2 := List.pairwise_append.1 hs
  refine List.pairwise_cons.2 ⟨fun z hz => ?_, shp_srt (h.sub fun y hy => List.mem_cons_of_mem _ hy) h2.2.1⟩
  obtain ⟨a, ha, e1⟩ := one_mem (h.one (x := x) (by simp))
  obtain ⟨b, hb, e2⟩ := one_mem (h.one (x := z) (by simp [hz]))
  have := h2.2.2 a ha b (List.mem_flatMap.2 ⟨z, hz, hb⟩)
  rwa [e1, e2] at this
theorem go_ok {s : Sto} {l : Nat} (h1 : ∀ x, Shp s l [x] → Srt (wCo s l x) → (wCw s l x).is = true ∧ (wCw s l x).first = x.key ∧ ∃ y ∈ wCo s l x, (wCw s l x).last = y.key) :
  ∀ (xs : List It) (o : Option Sp), Shp s l xs → Srt (wCs s l xs) → (∀ p, o = some p → p.is = true ∧ ∀ y ∈ wCs s l xs, wBm p.last y.key = true) → (o = none → xs ≠ []) →
   (wEw (wCw s l) o xs).is = true ∧ (wEw (wCw s l) o xs).first = (match o with | none => wDg xs | some p => p.first) ∧ (xs ≠ [] → ∃ y ∈ wCs s l xs, (wEw (wCw s l) o xs).last = y.key)
 | [], o, _, _, ho, hn => by
  cases o with
  | none => exact absurd rfl (hn rfl)
  | some p => exact ⟨(ho p rfl).1, rfl, fun h => absurd rfl h⟩
 | x :: xs, o, hp, hs, ho, _ => by
  rw [wGt] at hs ho
  have h2 := List.pairwise_append.1 hs
  have hx := hp.one (x := x) (by simp)
  obtain ⟨k1, k2, y, hy, k3⟩ := h1 x hx h2.1
  obtain ⟨z, hz, e1⟩ := one_mem hx
  have hstep : wCa (wCw s l x) o x = true := by
   unfold wCa
   rw [k1, k2]
   cases o with
   | none => simp
   | some p =>
    have := (ho p rfl).2 z (List.mem_append_left _ hz)
    rw [e1] at this
    simp [this]
  rw [wEw, if_pos hstep]
  obtain ⟨i1, i2, i3⟩ := go_ok h1 xs (some (wDq (wCw s l x) o)) (hp.sub fun y hy => List.mem_cons_of_mem _ hy) h2.2.1 (fun p e => by
   cases e
   exact ⟨rfl, fun w hw => by show wBm (wCw s l x).last w.key = true; rw [k3]; exact h2.2.2 y hy w hw⟩) (fun e => by cases e)
  refine ⟨i1, ?_, fun _ => ?_⟩
  ·rw [i2]
   cases o with
   | none => exact k2
   | some p => rfl
  ·rw [wGt]
   cases xs with
   | nil => exact ⟨y, List.mem_append_left _ hy, k3⟩
   | cons w ws =>
    obtain ⟨v, hv, e⟩ := i3 (by simp)
    exact ⟨v, List.mem_append_right _ hv, e⟩
theorem one_ok {s : Sto} : ∀ (l : Nat) (x : It), Shp s l [x] → Srt (wCo s l x) → (wCw s l x).is = true ∧ (wCw s l x).first = x.key ∧ ∃ y ∈ wCo s l x, (wCw s l x).last = y.key
 | 0, x, h, _ => by
  refine ⟨?_, rfl, x, by simp [wCo], rfl⟩
  show (decide (x.ref = 0) || decide (0 < ((s.now.getD x.ref.toNat 0).toNat : Int))) = true
  rcases h x (by simp) with h | h
  ·simp [h]
  ·have : (s.now.getD x.ref.toNat 0).toNat ≠ 0 := fun e => h (UInt8.toNat.inj e)
   rw [Bool.or_eq_true]; exact .inr (decide_eq_true (by omega))
 | l + 1, x, h, hs => by
  obtain ⟨ys, h1, h2, h3, h4⟩ := h x (by simp)
  rw [wCx h1] at hs ⊢
  have e : wCw s (l + 1) x = wEw (wCw s l) none ys := by simp only [wCw, h1]; exact if_pos ⟨trivial, h2⟩
  rw [e]
  obtain ⟨i1, i2, i3⟩ := go_ok (fun x => one_ok l x) ys none h4 hs (fun p e => by cases e) (fun _ => h2)
  exact ⟨i1, by rw [i2]; exact h3, i3 h2⟩
theorem tree_of {s : Sto} {l : Nat} {xs : List It} (h : Shp s l xs) (hs : Srt (wCs s l xs)) : wCd s l xs := fun hx =>
 (go_ok (fun x => one_ok l x) xs none h hs (fun p e => by cases e) (fun _ => hx)).1
theorem step_first {one : Sp} {k : Ky} (h : one.first = k) : ∀ (o : Option Sp), (wDq one o).first = (match o with | none => k | some p => p.first)
 | none => h
 | some p => rfl
theorem go_first {f : It → Sp} : ∀ {xs : List It} {o : Option Sp}, (wEw f o xs).is = true → xs ≠ [] → (∀ x ∈ xs, (f x).is = true ∧ (f x).first = x.key) → (wEw f o xs).first = (match o with | none => wDg xs | some p => p.first)
 | x :: xs, o, h, _, ha => by
  have e := step_first (ha x (by simp)).2 o
  rw [wEw] at h ⊢
  split at h
  ·rename_i hs
   rw [if_pos hs]
   cases xs with
   | nil => exact e
   | cons y ys => exact (go_first h (by simp) (fun z hz => ha z (List.mem_cons_of_mem _ hz))).trans e
  ·cases h
theorem shp_of {s : Sto} : ∀ {l : Nat} {xs : List It}, wCd s l xs → Shp s l xs
 | 0, xs, h => fun x hx => by
  have h1 := (wKy (h (List.ne_nil_of_mem hx)) x hx).1
  change (decide (x.ref = 0) || decide (0 < ((s.now.getD x.ref.toNat 0).toNat : Int))) = true at h1
  rw [Bool.or_eq_true] at h1
  rcases h1 with h1 | h1
  ·exact .inl (of_decide_eq_true h1)
  ·exact .inr fun e => by rw [e] at h1; exact absurd (of_decide_eq_true h1) (by decide)
 | l + 1, xs, h => fun x hx => by
  have h1 := wKy (h (List.ne_nil_of_mem hx)) x hx
  obtain ⟨ys, h2, h3, h4⟩ := one_up h1.1
  have h5 : wCd s l ys := fun _ => by rw [← h4]; exact h1.1
  refine ⟨ys, h2, h3, ?_, shp_of h5⟩
  have h6 := go_first (h5 h3) h3 (wKy (h5 h3))
  have h7 := h1.2
  rw [h4, h6] at h7
  exact h7
def insL (x : It) (l : List It) : List It := (l.filter fun y => wBm y.key x.key) ++ x :: (l.filter fun y => wBm x.key y.key)
theorem wEs {q : Ky} : ∀ {xs : List It}, Srt xs → (∀ z ∈ xs.take (place xs q), wBm z.key q = true) ∧ ∀ z ∈ xs.drop (place xs q), wBm z.key q = false
 | [], _ => ⟨fun z hz => (by simp at hz), fun z hz => (by simp at hz)⟩
 | x :: xs, h => by
  have h2 := List.pairwise_cons.1 h
  obtain ⟨i1, i2⟩ := wEs (q := q) h2.2
  by_cases hx : wBm x.key q = true
  ·have hp : place (x :: xs) q = place xs q + 1 := by unfold place; rw [List.filter_cons_of_pos (by simpa using hx), List.length_cons]
   rw [hp, List.take_succ_cons, List.drop_succ_cons]
   refine ⟨fun z hz => ?_, i2⟩
   rcases List.mem_cons.1 hz with rfl | hz
   ·exact hx
   ·exact i1 z hz
  ·have hall : ∀ z ∈ x :: xs, wBm z.key q = false := fun z hz => by
    rcases List.mem_cons.1 hz with rfl | hz
    ·simpa using hx
    ·exact wKr (kl_neg hx) (kl_kle (h2.1 z hz))
   have hp : place (x :: xs) q = 0 := place_none hall
   rw [hp]
   exact ⟨fun z hz => (by simp at hz), fun z hz => hall z (by simpa using hz)⟩
def wGb (s : Sto) (n : Nat) : List Int := match wBs s n with | some (_, ys) => ys.map (·.ref) | none => []
def wS (s : Sto) (S : List Nat) (k : Int) : Nat := (S.map fun n => (wGb s n).count k).sum
theorem wFr {s : Sto} {n : Nat} {lv : Int} {ys : List It} (h : wBs s n = some (lv, ys)) : wGb s n = ys.map (·.ref) := by unfold wGb; rw [h]
theorem wGv {s : Sto} {n : Nat} (h : wBs s n = none) : wGb s n = [] := by unfold wGb; rw [h]
theorem sum_le {α : Type} {f g : α → Nat} : ∀ {l : List α}, (∀ x ∈ l, f x ≤ g x) → (l.map f).sum ≤ (l.map g).sum
 | [], _ => Nat.le_refl _
 | x :: l, h => by
  have h1 := h x (by simp)
  have h2 := sum_le (l := l) (f := f) (g := g) fun y hy => h y (by simp [hy])
  simp only [List.map_cons, List.sum_cons]; omega
theorem sum_mem {α : Type} {f : α → Nat} : ∀ {l : List α} {x : α}, x ∈ l → f x ≤ (l.map f).sum
 | y :: l, x, h => by
  simp only [List.map_cons, List.sum_cons]
  rcases List.mem_cons.1 h with rfl | h
  ·omega
  ·have := sum_mem (f := f) h; omega
theorem sum_less {α : Type} {f g : α → Nat} {c : Nat} : ∀ {l : List α} {x : α}, x ∈ l → (∀ y ∈ l, f y ≤ g y) → f x + c ≤ g x → (l.map f).sum + c ≤ (l.map g).sum
 | y :: l, x, h, hl, hx => by
  simp only [List.map_cons, List.sum_cons]
  rcases List.mem_cons.1 h with rfl | h
  ·have := sum_le (l := l) (f := f) (g := g) fun z hz => hl z (by simp [hz]); omega
  ·have := sum_less h (fun z hz => hl z (by simp [hz])) hx
   have := hl y (by simp); omega
theorem sum_sub {α : Type} (f : α → Nat) (p : α → Bool) : ∀ (l : List α), ((l.filter p).map f).sum ≤ (l.map f).sum
 | [] => Nat.le_refl _
 | x :: l => by
  have := sum_sub f p l
  by_cases h : p x = true
  ·rw [List.filter_cons_of_pos h]; simp only [List.map_cons, List.sum_cons]; omega
  ·rw [List.filter_cons_of_neg h]; simp only [List.map_cons, List.sum_cons]; omega
theorem wS_pos {s : Sto} {S : List Nat} {n : Nat} {lv : Int} {ys : List It} {x : It} (hn : n ∈ S) (h : wBs s n = some (lv, ys)) (hx : x ∈ ys) : 0 < wS s S x.ref := by
 have h1 := sum_mem (f := fun n => (wGb s n).count x.ref) hn
 have h2 : 0 < (wGb s n).count x.ref := by rw [wFr h]; exact List.count_pos_iff.2 (List.mem_map_of_mem hx)
 exact Nat.lt_of_lt_of_le h2 h1
structure En (s : Sto) (S : List Nat) (R : List Int) : Prop where
 ok : wCr s
 enough : ∀ k : Int, 0 < k → k < 256 → wS s S k + R.count k ≤ (s.now.getD k.toNat 0).toNat
 closed : ∀ n ∈ S, ∀ lv ys, wBs s n = some (lv, ys) → 0 < lv → ∀ x ∈ ys, x.ref.toNat ∈ S ∧ ∃ zs, wBs s x.ref.toNat = some (lv - 1, zs)
theorem En.less {s : Sto} {S : List Nat} {R R' : List Int} (h : En s S R) (hr : ∀ k, 0 < k → R'.count k ≤ R.count k) : En s S R' :=
 ⟨h.ok, fun k h0 h1 => by have := h.enough k h0 h1; have := hr k h0; omega, h.closed⟩
theorem En.perm {s : Sto} {S : List Nat} {R R' : List Int} (h : En s S R) (hp : R.Perm R') : En s S R' := h.less fun k _ => by rw [hp.count_eq]; exact Nat.le_refl _
theorem nz_of {b : By} (h : 0 < b.toNat) : ¬ b = 0 := fun e => by rw [e] at h; exact absurd h (by decide)
theorem En.live {s : Sto} {S : List Nat} {R : List Int} (h : En s S R) {k : Int} (h0 : 0 < k) (h1 : k < 256) (hk : 0 < wS s S k + R.count k) : ¬ s.now.getD k.toNat 0 = 0 := by
 have := h.enough k h0 h1; exact nz_of (by omega)
structure Ext (s t : Sto) : Prop where
 nd : ∀ n r, wBs s n = some r → wBs t n = some r
 live : ∀ k, ¬ s.now.getD k 0 = 0 → ¬ t.now.getD k 0 = 0
theorem Ext.refl (s : Sto) : Ext s s := ⟨fun _ _ h => h, fun _ h => h⟩
theorem Ext.trans {s t u : Sto} (h : Ext s t) (k : Ext t u) : Ext s u := ⟨fun n r e => k.nd n r (h.nd n r e), fun n e => k.live n (h.live n e)⟩
theorem Ext.shp {s t : Sto} (h : Ext s t) : ∀ {l : Nat} {xs : List It}, Shp s l xs → Shp t l xs ∧ wCs t l xs = wCs s l xs
 | 0, xs, hs => ⟨fun x hx => (hs x hx).imp id (h.live _), by rw [wFg, wFg]⟩
 | l + 1, xs, hs => by
  have hk : ∀ x ∈ xs, (∃ ys, wBs t x.ref.toNat = some ((l : Int), ys) ∧ ys ≠ [] ∧ wDg ys = x.key ∧ Shp t l ys) ∧ wCo t (l + 1) x = wCo s (l + 1) x := fun x hx => by
   obtain ⟨ys, h1, h2, h3, h4⟩ := hs x hx
   obtain ⟨i1, i2⟩ := h.shp h4
   have h5 := h.nd _ _ h1
   exact ⟨⟨ys, h5, h2, h3, i1⟩, by rw [wCx h5, wCx h1, i2]⟩
  refine ⟨fun x hx => (hk x hx).1, ?_⟩
  unfold wCs
  clear hs
  induction xs with
  | nil => rfl
  | cons x xs ih => rw [List.flatMap_cons, List.flatMap_cons, (hk x (by simp)).2, ih fun y hy => hk y (by simp [hy])]
structure Thin (s t : Sto) : Prop where
 waits : t.waits = s.waits
 blocks : t.blocks = s.blocks
 last : t.last = s.last
 now : ∀ n, (t.now.getD n 0).toNat ≤ (s.now.getD n 0).toNat
theorem Thin.refl (s : Sto) : Thin s s := ⟨rfl, rfl, rfl, fun _ => Nat.le_refl _⟩
theorem Thin.trans {s t u : Sto} (h : Thin s t) (k : Thin t u) : Thin s u := ⟨k.waits.trans h.waits, k.blocks.trans h.blocks, k.last.trans h.last, fun n => Nat.le_trans (k.now n) (h.now n)⟩
theorem Thin.nd {s t : Sto} (h : Thin s t) {n : Nat} (hn : ¬ t.now.getD n 0 = 0) : wBs t n = wBs s n := by
 have h1 : ¬ s.now.getD n 0 = 0 := fun e => by
  have := h.now n; rw [e] at this
  exact hn (UInt8.toNat.inj (by have h0 : (0 : By).toNat = 0 := rfl; omega))
 have hs : wKi t n = wKi s n := by unfold wKi; rw [h.waits, h.blocks]
 unfold wBs; rw [if_neg hn, if_neg h1, hs]
theorem Thin.nd_or {s t : Sto} (h : Thin s t) (n : Nat) : wBs t n = wBs s n ∨ wBs t n = none := by
 by_cases hn : t.now.getD n 0 = 0
 ·right; unfold wBs; rw [if_pos hn]
 ·exact .inl (h.nd hn)
theorem Thin.wS_le {s t : Sto} (h : Thin s t) (S : List Nat) (k : Int) : wS t S k ≤ wS s S k := sum_le fun n _ => by
 rcases h.nd_or n with e | e
 ·unfold wGb; rw [e]; exact Nat.le_refl _
 ·rw [wGv e]; exact Nat.zero_le _
theorem wFt {s : Sto} {n : Nat} {r : Int × List It} (h : wBs s n = some r) : ¬ s.now.getD n 0 = 0 := ndAt_nz h
theorem Thin.shp {s t : Sto} {S : List Nat} {R : List Int} (h : Thin s t) (he : En t S R) : ∀ {l : Nat} {xs : List It}, Shp s l xs → (∀ x ∈ xs, (0 < l → x.ref.toNat ∈ S ∧ wBs t x.ref.toNat ≠ none) ∧ (l = 0 → x.ref ≠ 0 → ¬ t.now.getD x.ref.toNat 0 = 0)) → Shp t l xs ∧ wCs t l xs = wCs s l xs
 | 0, xs, hs, hk => ⟨fun x hx => (Classical.em (x.ref = 0)).imp id ((hk x hx).2 rfl), by rw [wFg, wFg]⟩
 | l + 1, xs, hs, hk => by
  have hx : ∀ x ∈ xs, (∃ ys, wBs t x.ref.toNat = some ((l : Int), ys) ∧ ys ≠ [] ∧ wDg ys = x.key ∧ Shp t l ys) ∧ wCo t (l + 1) x = wCo s (l + 1) x := fun x hx => by
   obtain ⟨ys, h1, h2, h3, h4⟩ := hs x hx
   obtain ⟨hS, hn⟩ := (hk x hx).1 (by omega)
   have h5 : wBs t x.ref.toNat = some ((l : Int), ys) := by
    rcases h.nd_or x.ref.toNat with e | e
    ·rw [e]; exact h1
    ·exact absurd e hn
   have hno := wBu h5
   obtain ⟨i1, i2⟩ := h.shp he h4 fun y hy => ⟨fun hl => by
    obtain ⟨c1, zs, c2⟩ := he.closed _ hS _ _ h5 (by omega) y hy
    exact ⟨c1, by rw [c2]; simp⟩, fun hl hy0 => by
    have := hno.ref y hy
    exact he.live (by omega) (by omega) (by have := wS_pos hS h5 hy; omega)⟩
   exact ⟨⟨ys, h5, h2, h3, i1⟩, by rw [wCx h5, wCx h1, i2]⟩
  refine ⟨fun x h => (hx x h).1, ?_⟩
  unfold wCs
  clear hs hk
  induction xs with
  | nil => rfl
  | cons x xs ih => rw [List.flatMap_cons, List.flatMap_cons, (hx x (by simp)).2, ih fun y hy => hx y (by simp [hy])]
theorem wCh {xs : List By} {k : Nat} {v : By} (h : k < xs.length) : (xs.set k v).getD k 0 = v := by simp [List.getD, h]
theorem sub_one {b : By} (h : ¬ b = 0) : (b - 1).toNat + 1 = b.toNat := by have := dec_u8 h; omega
theorem looseS_thin (s : Sto) {k : Nat} (hk : k < s.now.length) (h : ¬ s.now.getD k 0 = 0) : Thin s (wCf s k) := ⟨rfl, rfl, rfl, fun n => by
 show ((s.now.set k _).getD n 0).toNat ≤ _
 by_cases e : n = k
 ·subst e; rw [wCh hk]; have := sub_one h; omega
 ·rw [wBx e]; exact Nat.le_refl _⟩
theorem En.loose {s : Sto} {S : List Nat} {R : List Int} {k : Int} (h : En s S (k :: R)) (hk : 8 ≤ k ∧ k < 256) : wEj s k.toNat = 0 ∧ ¬ s.now.getD k.toNat 0 = 0 ∧ En (wCf s k.toNat) S R := by
 have hl : s.now.length = 256 := h.ok.2.1.1
 have h1 := h.enough k (by omega) hk.2
 rw [List.count_cons_self] at h1
 have hz : ¬ s.now.getD k.toNat 0 = 0 := nz_of (by omega)
 have hth := looseS_thin s (show k.toNat < s.now.length by omega) hz
 have hs1 := sub_one hz
 refine ⟨if_neg hz, hz, wEi h.ok (by omega), fun j h0 h256 => ?_, fun n hn lv ys hnd hlv x hx => ?_⟩
 ·have h2 := h.enough j h0 h256
  have h3 := hth.wS_le S j
  show _ ≤ ((s.now.set k.toNat _).getD j.toNat 0).toNat
  by_cases e : j = k
  ·subst e
   rw [List.count_cons_self] at h2
   rw [wCh (by omega)]; omega
  ·rw [wBx (by omega)]
   rw [List.count_cons_of_ne (Ne.symm e)] at h2; omega
 ·have hnl := wFt hnd
  have hnd2 : wBs s n = some (lv, ys) := by rw [← hth.nd hnl]; exact hnd
  obtain ⟨c1, zs, c2⟩ := h.closed n hn lv ys hnd2 hlv x hx
  refine ⟨c1, zs, ?_⟩
  have hno := wBu hnd2
  have hr := hno.ref x hx
  have hr0 := hno.up hlv x hx
  have hw := wS_pos hn hnd2 hx
  have hlive : ¬ (wCf s k.toNat).now.getD x.ref.toNat 0 = 0 := by
   show ¬ (s.now.set k.toNat _).getD x.ref.toNat 0 = 0
   by_cases e : x.ref = k
   ·rw [e] at hw ⊢
    rw [wCh (by omega)]
    exact nz_of (by omega)
   ·rw [wBx (by omega)]; exact wFt c2
  rw [hth.nd hlive]; exact c2
theorem clearS_thin (s : Sto) (k : Nat) : Thin s (wCk s k) := ⟨rfl, rfl, rfl, fun n => by
 show ((s.now.set k 0).getD n 0).toNat ≤ _
 by_cases e : n = k
 ·subst e
  rcases Nat.lt_or_ge n s.now.length with h | h
  ·rw [wCh h]; exact Nat.zero_le _
  ·rw [List.set_eq_of_length_le h]; exact Nat.le_refl _
 ·rw [wBx e]; exact Nat.le_refl _⟩
theorem En.clear {s : Sto} {S : List Nat} {R : List Int} {k lv : Int} {ys : List It} (h : En s S (k :: R)) (hk : 8 ≤ k ∧ k < 256) (h1 : s.now.getD k.toNat 0 = 1) (hS : k.toNat ∈ S) (hnd : wBs s k.toNat = some (lv, ys)) :
  En (wCk s k.toNat) S (ys.map (·.ref) ++ R) ∧ wS s S k = 0 ∧ R.count k = 0 := by
 have hl : s.now.length = 256 := h.ok.2.1.1
 have hth := clearS_thin s k.toNat
 have e1 := h.enough k (by omega) hk.2
 rw [List.count_cons_self, h1] at e1
 have h11 : (1 : By).toNat = 1 := rfl
 have hw0 : wS s S k = 0 := by omega
 have hR0 : R.count k = 0 := by omega
 have hdead : wBs (wCk s k.toNat) k.toNat = none := by
  unfold wBs; rw [if_pos]; show (s.now.set k.toNat 0).getD k.toNat 0 = 0; exact wCh (by omega)
 refine ⟨⟨wGr h.ok (by omega), fun j h0 h256 => ?_, fun n hn lv2 zs hnd2 hlv x hx => ?_⟩, hw0, hR0⟩
 ·have h2 := h.enough j h0 h256
  have h3 : wS (wCk s k.toNat) S j + (ys.map (·.ref)).count j ≤ wS s S j := by
   refine sum_less hS (fun n _ => ?_) ?_
   ·rcases hth.nd_or n with e | e
    ·unfold wGb; rw [e]; exact Nat.le_refl _
    ·rw [wGv e]; exact Nat.zero_le _
   ·rw [wGv hdead, wFr hnd]; simp
  rw [List.count_append]
  show _ ≤ ((s.now.set k.toNat 0).getD j.toNat 0).toNat
  by_cases e : j = k
  ·subst e
   rw [wCh (by omega)]; omega
  ·rw [wBx (by omega)]
   rw [List.count_cons_of_ne (Ne.symm e)] at h2; omega
 ·have hnl := wFt hnd2
  have hnd3 : wBs s n = some (lv2, zs) := by rw [← hth.nd hnl]; exact hnd2
  obtain ⟨c1, us, c2⟩ := h.closed n hn lv2 zs hnd3 hlv x hx
  refine ⟨c1, us, ?_⟩
  have hr := (wBu hnd3).ref x hx
  have hr0 := (wBu hnd3).up hlv x hx
  have hw := wS_pos hn hnd3 hx
  have hne : x.ref ≠ k := fun e => by rw [e] at hw; omega
  have hlive : ¬ (wCk s k.toNat).now.getD x.ref.toNat 0 = 0 := by
   show ¬ (s.now.set k.toNat 0).getD x.ref.toNat 0 = 0
   rw [wBx (by omega)]; exact wFt c2
  rw [hth.nd hlive]; exact c2
structure LvJ (first : List By) (s : Sto) (S : List Nat) (R : List Int) (st : List (Int × Int)) : Prop where
 en : En s S (st.map (·.1) ++ R)
 st : ∀ p ∈ st, (8 ≤ p.1 ∧ p.1 < 256) ∧ p.1.toNat ∈ S ∧ ∃ lv ys, wBs s p.1.toNat = some (lv, ys) ∧ (p.2 < 0 ∨ lv = p.2)
 first : ∀ n, (s.now.getD n 0).toNat ≤ (first.getD n 0).toNat
end Go.Proofs.Ytckdncmjkloebaa
