/- Blocks counted often enough, without a program in sight: a node made, a reference taken away, a node left. No statement of the seat is proved here. -/
import Derived.Test.YtoincdcejjdgkaaGreatZPutf
import Derived.Test.YtoincdcejjdgkaaGreatZPut
namespace Go.Proofs.YtoincdcejjdgkaaGreat
set_option linter.unusedSimpArgs false
set_option linter.unusedVariables false
open Go.RowKit
def Shp (s : Sto) : Nat → List It → Prop
 | 0, xs => ∀ x ∈ xs, x.ref = 0 ∨ ¬ s.now.getD x.ref.toNat 0 = 0
 | l + 1, xs => ∀ x ∈ xs, ∃ ys, wCa s x.ref.toNat = some ((l : Int), ys) ∧ ys ≠ [] ∧ headK ys = x.key ∧ Shp s l ys
theorem Shp.sub {s : Sto} {l : Nat} {xs ys : List It} (h : Shp s l xs) (hs : ∀ y ∈ ys, y ∈ xs) : Shp s l ys := by
 cases l with
 | zero => exact fun x hx => h x (hs x hx)
 | succ l => exact fun x hx => h x (hs x hx)
theorem Shp.app {s : Sto} {l : Nat} {xs ys : List It} (h : Shp s l xs) (k : Shp s l ys) : Shp s l (xs ++ ys) := by
 cases l with
 | zero => exact fun x hx => (List.mem_append.1 hx).elim (h x) (k x)
 | succ l => exact fun x hx => (List.mem_append.1 hx).elim (h x) (k x)
theorem Shp.one {s : Sto} {l : Nat} {xs : List It} (h : Shp s l xs) {x : It} (hx : x ∈ xs) : Shp s l [x] := h.sub fun y hy => by rw [List.mem_singleton.1 hy]; exact hx
theorem wLv (s : Sto) (xs : List It) : allL s 0 xs = xs := by
 unfold allL
 induction xs with
 | nil => rfl
 | cons x xs ih => rw [List.flatMap_cons, ih]; rfl
theorem wLu {s : Sto} {l : Nat} {x : It} {lv : Int} {ys : List It} (h : wCa s x.ref.toNat = some (lv, ys)) : allOne s (l + 1) x = allL s l ys := by
 have : kid s x = ys := by unfold kid; rw [h]
 rw [allOne, this]; rfl
def insL (x : It) (l : List It) : List It := (l.filter fun y => wBy y.key x.key) ++ x :: (l.filter fun y => wBy x.key y.key)
def wGy (s : Sto) (n : Nat) : List Int := match wCa s n with | some (_, ys) => ys.map (·.ref) | none => []
def wS (s : Sto) (S : List Nat) (k : Int) : Nat := (S.map fun n => (wGy s n).count k).sum
theorem wKp {s : Sto} {n : Nat} {lv : Int} {ys : List It} (h : wCa s n = some (lv, ys)) : wGy s n = ys.map (·.ref) := by unfold wGy; rw [h]
theorem refsOf_none {s : Sto} {n : Nat} (h : wCa s n = none) : wGy s n = [] := by unfold wGy; rw [h]
theorem sum_le {α : Type} {f g : α → Nat} : ∀ {l : List α}, (∀ x ∈ l, f x ≤ g x) → (l.map f).sum ≤ (l.map g).sum
 | [], _ => Nat.le_refl _
 | x :: l, h => by
  have h1 := h x (by simp)
  have h2 := sum_le (l := l) (f := f) (g := g) fun y hy => h y (by simp [hy])
  simp only [List.map_cons, List.sum_cons]; omega
theorem sum_mem {α : Type} {f : α → Nat} : ∀ {l : List α} {x : α}, x ∈ l → f x ≤ (l.map f).sum
 | y :: l, x, h => by
  simp only [List.map_cons, List.sum_cons]
  rcases List.mem_cons.1 h with rfl | h
  ·omega
  ·have := sum_mem (f := f) h; omega
theorem sum_less {α : Type} {f g : α → Nat} {c : Nat} : ∀ {l : List α} {x : α}, x ∈ l → (∀ y ∈ l, f y ≤ g y) → f x + c ≤ g x → (l.map f).sum + c ≤ (l.map g).sum
 | y :: l, x, h, hl, hx => by
  simp only [List.map_cons, List.sum_cons]
  rcases List.mem_cons.1 h with rfl | h
  ·have := sum_le (l := l) (f := f) (g := g) fun z hz => hl z (by simp [hz]); omega
  ·have := sum_less h (fun z hz => hl z (by simp [hz])) hx
   have := hl y (by simp); omega
theorem sum_sub {α : Type} (f : α → Nat) (p : α → Bool) : ∀ (l : List α), ((l.filter p).map f).sum ≤ (l.map f).sum
 | [] => Nat.le_refl _
 | x :: l => by
  have := sum_sub f p l
  by_cases h : p x = true
  ·rw [List.filter_cons_of_pos h]; simp only [List.map_cons, List.sum_cons]; omega
  ·rw [List.filter_cons_of_neg h]; simp only [List.map_cons, List.sum_cons]; omega
theorem wS_pos {s : Sto} {S : List Nat} {n : Nat} {lv : Int} {ys : List It} {x : It} (hn : n ∈ S) (h : wCa s n = some (lv, ys)) (hx : x ∈ ys) : 0 < wS s S x.ref := by
 have h1 := sum_mem (f := fun n => (wGy s n).count x.ref) hn
 have h2 : 0 < (wGy s n).count x.ref := by rw [wKp h]; exact List.count_pos_iff.2 (List.mem_map_of_mem hx)
 exact Nat.lt_of_lt_of_le h2 h1
structure En (s : Sto) (S : List Nat) (R : List Int) : Prop where
 ok : wCp s
 enough : ∀ k : Int, 0 < k → k < 256 → wS s S k + R.count k ≤ (s.now.getD k.toNat 0).toNat
 closed : ∀ n ∈ S, ∀ lv ys, wCa s n = some (lv, ys) → 0 < lv → ∀ x ∈ ys, x.ref.toNat ∈ S ∧ ∃ zs, wCa s x.ref.toNat = some (lv - 1, zs)
theorem En.less {s : Sto} {S : List Nat} {R R' : List Int} (h : En s S R) (hr : ∀ k, 0 < k → R'.count k ≤ R.count k) : En s S R' :=
 ⟨h.ok, fun k h0 h1 => by have := h.enough k h0 h1; have := hr k h0; omega, h.closed⟩
theorem En.perm {s : Sto} {S : List Nat} {R R' : List Int} (h : En s S R) (hp : R.Perm R') : En s S R' := h.less fun k _ => by rw [hp.count_eq]; exact Nat.le_refl _
theorem nz_of {b : By} (h : 0 < b.toNat) : ¬ b = 0 := fun e => by rw [e] at h; exact absurd h (by decide)
theorem En.live {s : Sto} {S : List Nat} {R : List Int} (h : En s S R) {k : Int} (h0 : 0 < k) (h1 : k < 256) (hk : 0 < wS s S k + R.count k) : ¬ s.now.getD k.toNat 0 = 0 := by
 have := h.enough k h0 h1; exact nz_of (by omega)
structure ExtB (s t : Sto) : Prop where
 nd : ∀ n r, wCa s n = some r → wCa t n = some r
 live : ∀ k, ¬ s.now.getD k 0 = 0 → ¬ t.now.getD k 0 = 0
theorem ExtB.refl (s : Sto) : ExtB s s := ⟨fun _ _ h => h, fun _ h => h⟩
theorem ExtB.trans {s t u : Sto} (h : ExtB s t) (k : ExtB t u) : ExtB s u := ⟨fun n r e => k.nd n r (h.nd n r e), fun n e => k.live n (h.live n e)⟩
theorem ExtB.shp {s t : Sto} (h : ExtB s t) : ∀ {l : Nat} {xs : List It}, Shp s l xs → Shp t l xs ∧ allL t l xs = allL s l xs
 | 0, xs, hs => ⟨fun x hx => (hs x hx).imp id (h.live _), by rw [wLv, wLv]⟩
 | l + 1, xs, hs => by
  have hk : ∀ x ∈ xs, (∃ ys, wCa t x.ref.toNat = some ((l : Int), ys) ∧ ys ≠ [] ∧ headK ys = x.key ∧ Shp t l ys) ∧ allOne t (l + 1) x = allOne s (l + 1) x := fun x hx => by
   obtain ⟨ys, h1, h2, h3, h4⟩ := hs x hx
   obtain ⟨i1, i2⟩ := h.shp h4
   have h5 := h.nd _ _ h1
   exact ⟨⟨ys, h5, h2, h3, i1⟩, by rw [wLu h5, wLu h1, i2]⟩
  refine ⟨fun x hx => (hk x hx).1, ?_⟩
  unfold allL
  clear hs
  induction xs with
  | nil => rfl
  | cons x xs ih => rw [List.flatMap_cons, List.flatMap_cons, (hk x (by simp)).2, ih fun y hy => hk y (by simp [hy])]
structure Thin (s t : Sto) : Prop where
 waits : t.waits = s.waits
 blocks : t.blocks = s.blocks
 last : t.last = s.last
 now : ∀ n, (t.now.getD n 0).toNat ≤ (s.now.getD n 0).toNat
theorem Thin.refl (s : Sto) : Thin s s := ⟨rfl, rfl, rfl, fun _ => Nat.le_refl _⟩
theorem Thin.trans {s t u : Sto} (h : Thin s t) (k : Thin t u) : Thin s u := ⟨k.waits.trans h.waits, k.blocks.trans h.blocks, k.last.trans h.last, fun n => Nat.le_trans (k.now n) (h.now n)⟩
theorem Thin.nd {s t : Sto} (h : Thin s t) {n : Nat} (hn : ¬ t.now.getD n 0 = 0) : wCa t n = wCa s n := by
 have h1 : ¬ s.now.getD n 0 = 0 := fun e => by
  have := h.now n; rw [e] at this
  exact hn (UInt8.toNat.inj (by have h0 : (0 : By).toNat = 0 := rfl; omega))
 have hs : wCo t n = wCo s n := by unfold wCo; rw [h.waits, h.blocks]
 unfold wCa; rw [if_neg hn, if_neg h1, hs]
theorem Thin.nd_or {s t : Sto} (h : Thin s t) (n : Nat) : wCa t n = wCa s n ∨ wCa t n = none := by
 by_cases hn : t.now.getD n 0 = 0
 ·right; unfold wCa; rw [if_pos hn]
 ·exact .inl (h.nd hn)
theorem ndAt_live {s : Sto} {n : Nat} {r : Int × List It} (h : wCa s n = some r) : ¬ s.now.getD n 0 = 0 := ndAt_nz h
theorem Thin.shp {s t : Sto} {S : List Nat} {R : List Int} (h : Thin s t) (he : En t S R) : ∀ {l : Nat} {xs : List It}, Shp s l xs → (∀ x ∈ xs, (0 < l → x.ref.toNat ∈ S ∧ wCa t x.ref.toNat ≠ none) ∧ (l = 0 → x.ref ≠ 0 → ¬ t.now.getD x.ref.toNat 0 = 0)) → Shp t l xs ∧ allL t l xs = allL s l xs
 | 0, xs, hs, hk => ⟨fun x hx => (Classical.em (x.ref = 0)).imp id ((hk x hx).2 rfl), by rw [wLv, wLv]⟩
 | l + 1, xs, hs, hk => by
  have hx : ∀ x ∈ xs, (∃ ys, wCa t x.ref.toNat = some ((l : Int), ys) ∧ ys ≠ [] ∧ headK ys = x.key ∧ Shp t l ys) ∧ allOne t (l + 1) x = allOne s (l + 1) x := fun x hx => by
   obtain ⟨ys, h1, h2, h3, h4⟩ := hs x hx
   obtain ⟨hS, hn⟩ := (hk x hx).1 (by omega)
   have h5 : wCa t x.ref.toNat = some ((l : Int), ys) := by
    rcases h.nd_or x.ref.toNat with e | e
    ·rw [e]; exact h1
    ·exact absurd e hn
   have hno := wCe h5
   obtain ⟨i1, i2⟩ := h.shp he h4 fun y hy => ⟨fun hl => by
    obtain ⟨c1, zs, c2⟩ := he.closed _ hS _ _ h5 (by omega) y hy
    exact ⟨c1, by rw [c2]; simp⟩, fun hl hy0 => by
    have := hno.ref y hy
    exact he.live (by omega) (by omega) (by have := wS_pos hS h5 hy; omega)⟩
   exact ⟨⟨ys, h5, h2, h3, i1⟩, by rw [wLu h5, wLu h1, i2]⟩
  refine ⟨fun x h => (hx x h).1, ?_⟩
  unfold allL
  clear hs hk
  induction xs with
  | nil => rfl
  | cons x xs ih => rw [List.flatMap_cons, List.flatMap_cons, (hx x (by simp)).2, ih fun y hy => hx y (by simp [hy])]
theorem wDt {xs : List By} {k : Nat} {v : By} (h : k < xs.length) : (xs.set k v).getD k 0 = v := by simp [List.getD, h]
theorem clearS_thin (s : Sto) (k : Nat) : Thin s (wCv s k) := ⟨rfl, rfl, rfl, fun n => by
 show ((s.now.set k 0).getD n 0).toNat ≤ _
 by_cases e : n = k
 ·subst e
  rcases Nat.lt_or_ge n s.now.length with h | h
  ·rw [wDt h]; exact Nat.zero_le _
  ·rw [List.set_eq_of_length_le h]; exact Nat.le_refl _
 ·rw [wEe e]; exact Nat.le_refl _⟩
theorem En.clear {s : Sto} {S : List Nat} {R : List Int} {k lv : Int} {ys : List It} (h : En s S (k :: R)) (hk : 8 ≤ k ∧ k < 256) (h1 : s.now.getD k.toNat 0 = 1) (hS : k.toNat ∈ S) (hnd : wCa s k.toNat = some (lv, ys)) :
  En (wCv s k.toNat) S (ys.map (·.ref) ++ R) ∧ wS s S k = 0 ∧ R.count k = 0 := by
 have hl : s.now.length = 256 := h.ok.2.1.1
 have hth := clearS_thin s k.toNat
 have e1 := h.enough k (by omega) hk.2
 rw [List.count_cons_self, h1] at e1
 have h11 : (1 : By).toNat = 1 := rfl
 have hw0 : wS s S k = 0 := by omega
 have hR0 : R.count k = 0 := by omega
 have hdead : wCa (wCv s k.toNat) k.toNat = none := by
  unfold wCa; rw [if_pos]; show (s.now.set k.toNat 0).getD k.toNat 0 = 0; exact wDt (by omega)
 refine ⟨⟨wJu h.ok (by omega), fun j h0 h256 => ?_, fun n hn lv2 zs hnd2 hlv x hx => ?_⟩, hw0, hR0⟩
 ·have h2 := h.enough j h0 h256
  have h3 : wS (wCv s k.toNat) S j + (ys.map (·.ref)).count j ≤ wS s S j := by
   refine sum_less hS (fun n _ => ?_) ?_
   ·rcases hth.nd_or n with e | e
    ·unfold wGy; rw [e]; exact Nat.le_refl _
    ·rw [refsOf_none e]; exact Nat.zero_le _
   ·rw [refsOf_none hdead, wKp hnd]; simp
  rw [List.count_append]
  show _ ≤ ((s.now.set k.toNat 0).getD j.toNat 0).toNat
  by_cases e : j = k
  ·subst e
   rw [wDt (by omega)]; omega
  ·rw [wEe (by omega)]
   rw [List.count_cons_of_ne (Ne.symm e)] at h2; omega
 ·have hnl := ndAt_live hnd2
  have hnd3 : wCa s n = some (lv2, zs) := by rw [← hth.nd hnl]; exact hnd2
  obtain ⟨c1, us, c2⟩ := h.closed n hn lv2 zs hnd3 hlv x hx
  refine ⟨c1, us, ?_⟩
  have hr := (wCe hnd3).ref x hx
  have hr0 := (wCe hnd3).up hlv x hx
  have hw := wS_pos hn hnd3 hx
  have hne : x.ref ≠ k := fun e => by rw [e] at hw; omega
  have hlive : ¬ (wCv s k.toNat).now.getD x.ref.toNat 0 = 0 := by
   show ¬ (s.now.set k.toNat 0).getD x.ref.toNat 0 = 0
   rw [wEe (by omega)]; exact ndAt_live c2
  rw [hth.nd hlive]; exact c2
structure LvJ (first : List By) (s : Sto) (S : List Nat) (R : List Int) (st : List (Int × Int)) : Prop where
 en : En s S (st.map (·.1) ++ R)
 st : ∀ p ∈ st, (8 ≤ p.1 ∧ p.1 < 256) ∧ p.1.toNat ∈ S ∧ ∃ lv ys, wCa s p.1.toNat = some (lv, ys) ∧ (p.2 < 0 ∨ lv = p.2)
 first : ∀ n, (s.now.getD n 0).toNat ≤ (first.getD n 0).toNat
end Go.Proofs.YtoincdcejjdgkaaGreat
