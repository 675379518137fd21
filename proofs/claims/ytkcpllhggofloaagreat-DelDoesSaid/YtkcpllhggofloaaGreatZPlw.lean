/- An item put in, without a program in sight: the law. No statement of the seat is proved here. -/
import Derived.Test.YtkcpllhggofloaaGreatZHl
import Derived.Test.YtkcpllhggofloaaGreatZPut
namespace Go.Proofs.YtkcpllhggofloaaGreat
set_option linter.unusedSimpArgs false
set_option linter.unusedVariables false
set_option linter.unusedSectionVars false
open Go.RowKit
def wGw (s : Sto) (n : Nat) : List Int := match wBk s n with | some (_, ys) => ys.map (·.ref) | none => []
def wS (s : Sto) (S : List Nat) (k : Int) : Nat := (S.map fun n => (wGw s n).count k).sum
theorem wGj {s : Sto} {n : Nat} {lv : Int} {ys : List It} (h : wBk s n = some (lv, ys)) : wGw s n = ys.map (·.ref) := by unfold wGw; rw [h]
theorem wHs {s : Sto} {n : Nat} (h : wBk s n = none) : wGw s n = [] := by unfold wGw; rw [h]
theorem sum_le {α : Type} {f g : α → Nat} : ∀ {l : List α}, (∀ x ∈ l, f x ≤ g x) → (l.map f).sum ≤ (l.map g).sum
 | [], _ => Nat.le_refl _
 | x :: l, h => by
  have h1 := h x (by simp)
  have h2 := sum_le (l := l) (f := f) (g := g) fun y hy => h y (by simp [hy])
  simp only [List.map_cons, List.sum_cons]; omega
theorem sum_mem {α : Type} {f : α → Nat} : ∀ {l : List α} {x : α}, x ∈ l → f x ≤ (l.map f).sum
 | y :: l, x, h => by
  simp only [List.map_cons, List.sum_cons]
  rcases List.mem_cons.1 h with rfl | h
  ·omega
  have := sum_mem (f := f) h; omega
theorem sum_less {α : Type} {f g : α → Nat} {c : Nat} : ∀ {l : List α} {x : α}, x ∈ l → (∀ y ∈ l, f y ≤ g y) → f x + c ≤ g x → (l.map f).sum + c ≤ (l.map g).sum
 | y :: l, x, h, hl, hx => by
  simp only [List.map_cons, List.sum_cons]
  rcases List.mem_cons.1 h with rfl | h
  ·have := sum_le (l := l) (f := f) (g := g) fun z hz => hl z (by simp [hz]); omega
  have := sum_less h (fun z hz => hl z (by simp [hz])) hx
  have := hl y (by simp); omega
theorem sum_sub {α : Type} (f : α → Nat) (p : α → Bool) : ∀ (l : List α), ((l.filter p).map f).sum ≤ (l.map f).sum
 | [] => Nat.le_refl _
 | x :: l => by
  have := sum_sub f p l
  by_cases h : p x = true
  ·rw [List.filter_cons_of_pos h]; simp only [List.map_cons, List.sum_cons]; omega
  rw [List.filter_cons_of_neg h]; simp only [List.map_cons, List.sum_cons]; omega
theorem wS_pos {s : Sto} {S : List Nat} {n : Nat} {lv : Int} {ys : List It} {x : It} (hn : n ∈ S) (h : wBk s n = some (lv, ys)) (hx : x ∈ ys) : 0 < wS s S x.ref := by
 have h1 := sum_mem (f := fun n => (wGw s n).count x.ref) hn
 have h2 : 0 < (wGw s n).count x.ref := by rw [wGj h]; exact List.count_pos_iff.2 (List.mem_map_of_mem hx)
 exact Nat.lt_of_lt_of_le h2 h1
structure En (s : Sto) (S : List Nat) (R : List Int) : Prop where
 ok : wCc s
 enough : ∀ k : Int, 0 < k → k < 256 → wS s S k + R.count k ≤ (s.now.getD k.toNat 0).toNat
 closed : ∀ n ∈ S, ∀ lv ys, wBk s n = some (lv, ys) → 0 < lv → ∀ x ∈ ys, x.ref.toNat ∈ S ∧ ∃ zs, wBk s x.ref.toNat = some (lv - 1, zs)
theorem En.less {s : Sto} {S : List Nat} {R R' : List Int} (h : En s S R) (hr : ∀ k, 0 < k → R'.count k ≤ R.count k) : En s S R' :=
 ⟨h.ok, fun k h0 h1 => by have := h.enough k h0 h1; have := hr k h0; omega, h.closed⟩
theorem En.perm {s : Sto} {S : List Nat} {R R' : List Int} (h : En s S R) (hp : R.Perm R') : En s S R' := h.less fun k _ => by rw [hp.count_eq]; exact Nat.le_refl _
theorem nz_of {b : By} (h : 0 < b.toNat) : ¬ b = 0 := fun e => by rw [e] at h; exact absurd h (by decide)
theorem En.live {s : Sto} {S : List Nat} {R : List Int} (h : En s S R) {k : Int} (h0 : 0 < k) (h1 : k < 256) (hk : 0 < wS s S k + R.count k) : ¬ s.now.getD k.toNat 0 = 0 := by
 have := h.enough k h0 h1; exact nz_of (by omega)
structure Ext (s t : Sto) : Prop where
 nd : ∀ n r, wBk s n = some r → wBk t n = some r
 live : ∀ k, ¬ s.now.getD k 0 = 0 → ¬ t.now.getD k 0 = 0
theorem Ext.refl (s : Sto) : Ext s s := ⟨fun _ _ h => h, fun _ h => h⟩
theorem Ext.trans {s t u : Sto} (h : Ext s t) (k : Ext t u) : Ext s u := ⟨fun n r e => k.nd n r (h.nd n r e), fun n e => k.live n (h.live n e)⟩
theorem Ext.shp {s t : Sto} (h : Ext s t) : ∀ {l : Nat} {xs : List It}, Shp s l xs → Shp t l xs ∧ wCh t l xs = wCh s l xs
 | 0, xs, hs => ⟨fun x hx => (hs x hx).imp id (h.live _), by rw [wEq, wEq]⟩
 | l + 1, xs, hs => by
  have hk : ∀ x ∈ xs, (∃ ys, wBk t x.ref.toNat = some ((l : Int), ys) ∧ ys ≠ [] ∧ wDc ys = x.key ∧ Shp t l ys) ∧ wCu t (l + 1) x = wCu s (l + 1) x := fun x hx => by
   obtain ⟨ys, h1, h2, h3, h4⟩ := hs x hx
   obtain ⟨i1, i2⟩ := h.shp h4
   have h5 := h.nd _ _ h1
   exact ⟨⟨ys, h5, h2, h3, i1⟩, by rw [wCf h5, wCf h1, i2]⟩
  refine ⟨fun x hx => (hk x hx).1, ?_⟩
  unfold wCh
  clear hs
  induction xs with
  | nil => rfl
  | cons x xs ih => rw [List.flatMap_cons, List.flatMap_cons, (hk x (by simp)).2, ih fun y hy => hk y (by simp [hy])]
structure Thin (s t : Sto) : Prop where
 waits : t.waits = s.waits
 blocks : t.blocks = s.blocks
 last : t.last = s.last
 now : ∀ n, (t.now.getD n 0).toNat ≤ (s.now.getD n 0).toNat
theorem Thin.refl (s : Sto) : Thin s s := ⟨rfl, rfl, rfl, fun _ => Nat.le_refl _⟩
theorem Thin.trans {s t u : Sto} (h : Thin s t) (k : Thin t u) : Thin s u := ⟨k.waits.trans h.waits, k.blocks.trans h.blocks, k.last.trans h.last, fun n => Nat.le_trans (k.now n) (h.now n)⟩
theorem Thin.nd {s t : Sto} (h : Thin s t) {n : Nat} (hn : ¬ t.now.getD n 0 = 0) : wBk t n = wBk s n := by
 have h1 : ¬ s.now.getD n 0 = 0 := fun e => by
  have := h.now n; rw [e] at this
  exact hn (UInt8.toNat.inj (by have h0 : (0 : By).toNat = 0 := rfl; omega))
 have hs : seen t n = seen s n := by unfold seen; rw [h.waits, h.blocks]
 unfold wBk; rw [if_neg hn, if_neg h1, hs]
theorem Thin.nd_or {s t : Sto} (h : Thin s t) (n : Nat) : wBk t n = wBk s n ∨ wBk t n = none := by
 by_cases hn : t.now.getD n 0 = 0
 ·right; unfold wBk; rw [if_pos hn]
 exact .inl (h.nd hn)
theorem Thin.wS_le {s t : Sto} (h : Thin s t) (S : List Nat) (k : Int) : wS t S k ≤ wS s S k := sum_le fun n _ => by
 rcases h.nd_or n with e | e
 ·unfold wGw; rw [e]; exact Nat.le_refl _
 rw [wHs e]; exact Nat.zero_le _
theorem wFu {s : Sto} {n : Nat} {r : Int × List It} (h : wBk s n = some r) : ¬ s.now.getD n 0 = 0 := ndAt_nz h
theorem Thin.shp {s t : Sto} {S : List Nat} {R : List Int} (h : Thin s t) (he : En t S R) : ∀ {l : Nat} {xs : List It}, Shp s l xs → (∀ x ∈ xs, (0 < l → x.ref.toNat ∈ S ∧ wBk t x.ref.toNat ≠ none) ∧ (l = 0 → x.ref ≠ 0 → ¬ t.now.getD x.ref.toNat 0 = 0)) → Shp t l xs ∧ wCh t l xs = wCh s l xs
 | 0, xs, hs, hk => ⟨fun x hx => (Classical.em (x.ref = 0)).imp id ((hk x hx).2 rfl), by rw [wEq, wEq]⟩
 | l + 1, xs, hs, hk => by
  have hx : ∀ x ∈ xs, (∃ ys, wBk t x.ref.toNat = some ((l : Int), ys) ∧ ys ≠ [] ∧ wDc ys = x.key ∧ Shp t l ys) ∧ wCu t (l + 1) x = wCu s (l + 1) x := fun x hx => by
   obtain ⟨ys, h1, h2, h3, h4⟩ := hs x hx
   obtain ⟨hS, hn⟩ := (hk x hx).1 (by omega)
   have h5 : wBk t x.ref.toNat = some ((l : Int), ys) := by
    rcases h.nd_or x.ref.toNat with e | e
    ·rw [e]; exact h1
    exact absurd e hn
   have hno := wBo h5
   obtain ⟨i1, i2⟩ := h.shp he h4 fun y hy => ⟨fun hl => by
    obtain ⟨c1, zs, c2⟩ := he.closed _ hS _ _ h5 (by omega) y hy
    exact ⟨c1, by rw [c2]; simp⟩, fun hl hy0 => by
    have := hno.ref y hy
    exact he.live (by omega) (by omega) (by have := wS_pos hS h5 hy; omega)⟩
   exact ⟨⟨ys, h5, h2, h3, i1⟩, by rw [wCf h5, wCf h1, i2]⟩
  refine ⟨fun x h => (hx x h).1, ?_⟩
  unfold wCh
  clear hs hk
  induction xs with
  | nil => rfl
  | cons x xs ih => rw [List.flatMap_cons, List.flatMap_cons, (hx x (by simp)).2, ih fun y hy => hx y (by simp [hy])]
theorem wCr {xs : List By} {k : Nat} {v : By} (h : k < xs.length) : (xs.set k v).getD k 0 = v := by simp [List.getD, h]
theorem sub_one {b : By} (h : ¬ b = 0) : (b - 1).toNat + 1 = b.toNat := by have := dec_u8 h; omega
theorem looseS_thin (s : Sto) {k : Nat} (hk : k < s.now.length) (h : ¬ s.now.getD k 0 = 0) : Thin s (wBx s k) := ⟨rfl, rfl, rfl, fun n => by
 show ((s.now.set k _).getD n 0).toNat ≤ _
 by_cases e : n = k
 ·subst e; rw [wCr hk]; have := sub_one h; omega
 rw [wCb e]; exact Nat.le_refl _⟩
theorem En.loose {s : Sto} {S : List Nat} {R : List Int} {k : Int} (h : En s S (k :: R)) (hk : 8 ≤ k ∧ k < 256) : wDo s k.toNat = 0 ∧ ¬ s.now.getD k.toNat 0 = 0 ∧ En (wBx s k.toNat) S R := by
 have hl : s.now.length = 256 := h.ok.2.1.1
 have h1 := h.enough k (by omega) hk.2
 rw [List.count_cons_self] at h1
 have hz : ¬ s.now.getD k.toNat 0 = 0 := nz_of (by omega)
 have hth := looseS_thin s (show k.toNat < s.now.length by omega) hz
 have hs1 := sub_one hz
 refine ⟨if_neg hz, hz, wFv h.ok (by omega), fun j h0 h256 => ?_, fun n hn lv ys hnd hlv x hx => ?_⟩
 ·have h2 := h.enough j h0 h256
  have h3 := hth.wS_le S j
  show _ ≤ ((s.now.set k.toNat _).getD j.toNat 0).toNat
  by_cases e : j = k
  ·subst e
   rw [List.count_cons_self] at h2
   rw [wCr (by omega)]; omega
  rw [wCb (by omega)]
  rw [List.count_cons_of_ne (Ne.symm e)] at h2; omega
 have hnl := wFu hnd
 have hnd2 : wBk s n = some (lv, ys) := by rw [← hth.nd hnl]; exact hnd
 obtain ⟨c1, zs, c2⟩ := h.closed n hn lv ys hnd2 hlv x hx
 refine ⟨c1, zs, ?_⟩
 have hno := wBo hnd2
 have hr := hno.ref x hx
 have hr0 := hno.up hlv x hx
 have hw := wS_pos hn hnd2 hx
 have hlive : ¬ (wBx s k.toNat).now.getD x.ref.toNat 0 = 0 := by
  show ¬ (s.now.set k.toNat _).getD x.ref.toNat 0 = 0
  by_cases e : x.ref = k
  ·rw [e] at hw ⊢
   rw [wCr (by omega)]
   exact nz_of (by omega)
  rw [wCb (by omega)]; exact wFu c2
 rw [hth.nd hlive]; exact c2
theorem clearS_thin (s : Sto) (k : Nat) : Thin s (wCo s k) := ⟨rfl, rfl, rfl, fun n => by
 show ((s.now.set k 0).getD n 0).toNat ≤ _
 by_cases e : n = k
 ·subst e
  rcases Nat.lt_or_ge n s.now.length with h | h
  ·rw [wCr h]; exact Nat.zero_le _
  rw [List.set_eq_of_length_le h]; exact Nat.le_refl _
 rw [wCb e]; exact Nat.le_refl _⟩
theorem En.clear {s : Sto} {S : List Nat} {R : List Int} {k lv : Int} {ys : List It} (h : En s S (k :: R)) (hk : 8 ≤ k ∧ k < 256) (h1 : s.now.getD k.toNat 0 = 1) (hS : k.toNat ∈ S) (hnd : wBk s k.toNat = some (lv, ys)) :
  En (wCo s k.toNat) S (ys.map (·.ref) ++ R) ∧ wS s S k = 0 ∧ R.count k = 0 := by
 have hl : s.now.length = 256 := h.ok.2.1.1
 have hth := clearS_thin s k.toNat
 have e1 := h.enough k (by omega) hk.2
 rw [List.count_cons_self, h1] at e1
 have h11 : (1 : By).toNat = 1 := rfl
 have hw0 : wS s S k = 0 := by omega
 have hR0 : R.count k = 0 := by omega
 have hdead : wBk (wCo s k.toNat) k.toNat = none := by
  unfold wBk; rw [if_pos]; show (s.now.set k.toNat 0).getD k.toNat 0 = 0; exact wCr (by omega)
 refine ⟨⟨wHm h.ok (by omega), fun j h0 h256 => ?_, fun n hn lv2 zs hnd2 hlv x hx => ?_⟩, hw0, hR0⟩
 ·have h2 := h.enough j h0 h256
  have h3 : wS (wCo s k.toNat) S j + (ys.map (·.ref)).count j ≤ wS s S j := by
   refine sum_less hS (fun n _ => ?_) ?_
   ·rcases hth.nd_or n with e | e
    ·unfold wGw; rw [e]; exact Nat.le_refl _
    rw [wHs e]; exact Nat.zero_le _
   rw [wHs hdead, wGj hnd]; simp
  rw [List.count_append]
  show _ ≤ ((s.now.set k.toNat 0).getD j.toNat 0).toNat
  by_cases e : j = k
  ·subst e
   rw [wCr (by omega)]; omega
  rw [wCb (by omega)]
  rw [List.count_cons_of_ne (Ne.symm e)] at h2; omega
 have hnl := wFu hnd2
 have hnd3 : wBk s n = some (lv2, zs) := by rw [← hth.nd hnl]; exact hnd2
 obtain ⟨c1, us, c2⟩ := h.closed n hn lv2 zs hnd3 hlv x hx
 refine ⟨c1, us, ?_⟩
 have hr := (wBo hnd3).ref x hx
 have hr0 := (wBo hnd3).up hlv x hx
 have hw := wS_pos hn hnd3 hx
 have hne : x.ref ≠ k := fun e => by rw [e] at hw; omega
 have hlive : ¬ (wCo s k.toNat).now.getD x.ref.toNat 0 = 0 := by
  show ¬ (s.now.set k.toNat 0).getD x.ref.toNat 0 = 0
  rw [wCb (by omega)]; exact wFu c2
 rw [hth.nd hlive]; exact c2
structure LvJ (first : List By) (s : Sto) (S : List Nat) (R : List Int) (st : List (Int × Int)) : Prop where
 en : En s S (st.map (·.1) ++ R)
 st : ∀ p ∈ st, (8 ≤ p.1 ∧ p.1 < 256) ∧ p.1.toNat ∈ S ∧ ∃ lv ys, wBk s p.1.toNat = some (lv, ys) ∧ (p.2 < 0 ∨ lv = p.2)
 first : ∀ n, (s.now.getD n 0).toNat ≤ (first.getD n 0).toNat
theorem add_one {b : By} (h : ¬ b = 255) : (b + 1).toNat = b.toNat + 1 := by have := inc_u8 h; omega
theorem shareS_now {s : Sto} {k : Nat} (hk : k < s.now.length) (h : ¬ s.now.getD k 0 = 255) (n : Nat) : ((wCs s k).now.getD n 0).toNat = (s.now.getD n 0).toNat + (if n = k then 1 else 0) := by
 show ((s.now.set k _).getD n 0).toNat = _
 by_cases e : n = k
 ·subst e; rw [wCr hk, add_one h, if_pos rfl]
 rw [wCb e, if_neg e]; rfl
theorem shareE_cases {s : Sto} {k : Nat} (h : ¬ s.now.getD k 0 = 0) : (wCk s k = 0 ∧ ¬ s.now.getD k 0 = 255) ∨ (wCk s k = 70) := by
 unfold wCk; rw [if_neg h]
 by_cases h2 : s.now.getD k 0 = 255
 ·rw [if_pos h2]; exact .inr rfl
 rw [if_neg h2]; exact .inl ⟨rfl, h2⟩
theorem wLb : ∀ {xs : List It} {s : Sto}, s.now.length = 256 → (∀ x ∈ xs, x.ref = 0 ∨ (8 ≤ x.ref ∧ x.ref < 256 ∧ ¬ s.now.getD x.ref.toNat 0 = 0)) → (shE s xs = 0 ∧ ∀ k : Nat, 0 < k → ((wAx s xs).now.getD k 0).toNat = (s.now.getD k 0).toNat + (xs.map (·.ref)).count (k : Int)) ∨ shE s xs = 70
 | [], s, _, _ => .inl ⟨rfl, fun k _ => by show _ = _ + 0; rfl⟩
 | x :: xs, s, hl, hx => by
  have hsl : wAx s (x :: xs) = wAx (if x.ref = 0 then s else wCs s x.ref.toNat) xs := rfl
  rw [shE, hsl]
  by_cases h0 : x.ref = 0
  ·rw [if_pos h0, if_pos h0]
   rcases wLb (xs := xs) hl (fun y hy => hx y (List.mem_cons_of_mem _ hy)) with ⟨h1, h2⟩ | h1
   ·refine .inl ⟨h1, fun k hk => ?_⟩
    rw [h2 k hk, List.map_cons, List.count_cons_of_ne (by omega)]
   exact .inr h1
  obtain ⟨h8, h256, hz⟩ := (hx x (by simp)).resolve_left h0
  rw [if_neg h0, if_neg h0]
  rcases shareE_cases hz with ⟨e0, e255⟩ | e70
  ·rw [if_pos e0]
   have hn := shareS_now (s := s) (k := x.ref.toNat) (by omega) e255
   rcases wLb (xs := xs) (s := wCs s x.ref.toNat) (by rw [shareS_len]; exact hl) (fun y hy => (hx y (by simp [hy])).imp id fun ⟨a, b, c⟩ => ⟨a, b, nz_of (by
    have := hn y.ref.toNat
    have hc : (s.now.getD y.ref.toNat 0).toNat ≠ 0 := fun e => c (UInt8.toNat.inj e)
    omega)⟩) with ⟨h1, h2⟩ | h1
   ·refine .inl ⟨h1, fun k hk => ?_⟩
    rw [h2 k hk, hn k, List.map_cons, List.count_cons]
    have : (x.ref == (k : Int)) = decide (k = x.ref.toNat) := by
     by_cases e : k = x.ref.toNat
     ·rw [decide_eq_true e]; simp; omega
     rw [decide_eq_false e]; simp; omega
    rw [this]
    by_cases e : k = x.ref.toNat
    ·rw [if_pos e, decide_eq_true e]; simp; omega
    rw [if_neg e, decide_eq_false e]; simp
   exact .inr h1
  rw [if_neg (by rw [e70]; decide), e70]; exact .inr rfl
theorem mkAt_free {s : Sto} (h : wEt s < 256) : freeB s (wEt s) := by
 have : ∀ (f k : Nat), frAt s f k < k + f → freeB s (frAt s f k) := by
  intro f
  induction f with
  | zero => intro k h; rw [frAt] at h; omega
  | succ f ih =>
   intro k h
   rw [frAt] at h ⊢
   split
   ·assumption
   rename_i hf
   rw [if_neg hf] at h
   exact ih (k + 1) (by omega)
 exact this 248 8 h
theorem mk_nd {s : Sto} {lv : Int} {xs : List It} (hst : wCc s) (hok : wEv lv xs = true) (hk : ∀ x ∈ xs, wFp x.key) (hlive : ∀ x ∈ xs, x.ref ≠ 0 → ¬ s.now.getD x.ref.toNat 0 = 0) (he : mkE s lv xs = 0) :
  (8 ≤ wEt (wAx s xs) ∧ wEt (wAx s xs) < 256) ∧ s.now.getD (wEt (wAx s xs)) 0 = 0 ∧ (xs.map (·.ref)).count ((wEt (wAx s xs) : Nat) : Int) = 0 ∧ (∀ n, wBk (mkS s lv xs) n = if n = wEt (wAx s xs) then some (lv, xs) else wBk s n) ∧
   ∀ k : Nat, 0 < k → k ≠ wEt (wAx s xs) → ((mkS s lv xs).now.getD k 0).toNat = (s.now.getD k 0).toNat + (xs.map (·.ref)).count (k : Int) := by
 have hmo := mkE_ok he hst.1.2.1
 have hno := NdOk.of hok
 have hl : s.now.length = 256 := hst.2.1.1
 have hrr : ∀ x ∈ xs, x.ref = 0 ∨ (8 ≤ x.ref ∧ x.ref < 256 ∧ ¬ s.now.getD x.ref.toNat 0 = 0) := fun x hx => by
  by_cases h0 : x.ref = 0
  ·exact .inl h0
  have := hno.ref x hx; exact .inr ⟨by omega, by omega, hlive x hx h0⟩
 have hcn : ∀ k : Nat, 0 < k → ((wAx s xs).now.getD k 0).toNat = (s.now.getD k 0).toNat + (xs.map (·.ref)).count (k : Int) := by
  rcases wLb hl hrr with ⟨_, h⟩ | h
  ·exact h
  rw [hmo.2.1] at h; cases h
 obtain ⟨a, ha⟩ : ∃ a, a = wEt (wAx s xs) := ⟨_, rfl⟩
 have h8 : 8 ≤ a := by rw [ha]; exact frAt_ge _ _ _
 have h256 : a < 256 := by rw [ha]; exact hmo.2.2.1
 have hfree := (mkAt_free (s := wAx s xs) hmo.2.2.1).1
 rw [← ha] at hfree ⊢
 have hfa := hcn a (by omega)
 rw [hfree] at hfa
 have h00 : (0 : By).toNat = 0 := rfl
 have hz : s.now.getD a 0 = 0 := UInt8.toNat.inj (by omega)
 have hc0 : (xs.map (·.ref)).count (a : Int) = 0 := by omega
 obtain ⟨q1, q2, q3, q4⟩ := wDp s xs
 have hmk : mkS s lv xs = addS (wAx s xs) a (ndB lv xs) := by unfold mkS; rw [← ha]
 have hnow : ∀ k, k ≠ a → (mkS s lv xs).now.getD k 0 = (wAx s xs).now.getD k 0 := fun k hk => by
  rw [hmk]; show ((wAx s xs).now.set a 1).getD k 0 = _; exact wCb hk
 refine ⟨⟨h8, h256⟩, hz, hc0, fun n => ?_, fun k h0 hk => by rw [hnow k hk]; exact hcn k h0⟩
 by_cases e : n = a
 ·subst e
  rw [if_pos rfl]
  unfold wBk
  rw [if_neg (by rw [hmk]; show ¬ ((wAx s xs).now.set n 1).getD n 0 = 0; rw [wCr (by omega)]; decide)]
  have hs : seen (mkS s lv xs) n = ndB lv xs := by
   rw [hmk]; unfold seen
   show (match (((wAx s xs).waits ++ [((n : Int), ndB lv xs)]).reverse.find? fun w => w.1 == (n : Int)) with | some w => w.2 | none => _) = _
   rw [List.reverse_append, List.reverse_singleton, List.singleton_append, List.find?_cons_of_pos (by simp)]
  rw [hs]; exact node_rd hok hk
 rw [if_neg e]
 have hs : seen (mkS s lv xs) n = seen s n := by
  rw [hmk]; unfold seen
  show (match (((wAx s xs).waits ++ [((a : Int), ndB lv xs)]).reverse.find? fun w => w.1 == (n : Int)) with | some w => w.2 | none => (wAx s xs).blocks.getD n []) = _
  rw [List.reverse_append, List.reverse_singleton, List.singleton_append, List.find?_cons_of_neg (by simp; omega), q2, q4]
  rfl
 unfold wBk
 rw [hs, hnow n e]
 by_cases hn0 : n = 0
 ·subst hn0
  have z1 : (wAx s xs).now.getD 0 0 = 0 := by
   have h9 := (shareL_ok hst.2.1 (fun x hx => (hrr x hx).imp id fun h => ⟨h.1, h.2.1⟩)).2
   have hlen : (wAx s xs).now.length = 256 := q1.trans hl
   have := List.all_eq_true.1 h9 ((wAx s xs).now.getD 0 0) (by
    rw [show (wAx s xs).now.getD 0 0 = ((wAx s xs).now.take 8)[0]'(by rw [List.length_take]; omega) by rw [List.getElem_take, wCp (by omega)]]
    exact List.getElem_mem _)
   simpa using this
  have z2 : s.now.getD 0 0 = 0 := by
   have h9 := hst.2.1.2
   have := List.all_eq_true.1 h9 (s.now.getD 0 0) (by
    rw [show s.now.getD 0 0 = (s.now.take 8)[0]'(by rw [List.length_take]; omega) by rw [List.getElem_take, wCp (by omega)]]
    exact List.getElem_mem _)
   simpa using this
  rw [z1, z2]
 have := hcn n (by omega)
 by_cases hz2 : s.now.getD n 0 = 0
 ·have hcnt : (xs.map (·.ref)).count (n : Int) = 0 := by
   rw [List.count_eq_zero]
   intro hm
   obtain ⟨x, hx, e2⟩ := List.mem_map.1 hm
   have := hlive x hx (by omega)
   rw [e2, Int.toNat_natCast] at this
   exact this hz2
  have hz3 : (wAx s xs).now.getD n 0 = 0 := UInt8.toNat.inj (by rw [hz2] at this; omega)
  rw [if_pos hz3, if_pos hz2]
 have hz3 : ¬ (wAx s xs).now.getD n 0 = 0 := nz_of (by
  have : (s.now.getD n 0).toNat ≠ 0 := fun e => hz2 (UInt8.toNat.inj e)
  omega)
 rw [if_neg hz3, if_neg hz2]
def Sub (s : Sto) (S S' : List Nat) : Prop := ∀ n ∈ S, wBk s n ≠ none → n ∈ S'
theorem En.make {s : Sto} {S : List Nat} {R : List Int} {lv : Int} {xs : List It} (h : En s S R) (hok : wEv lv xs = true) (hk : ∀ x ∈ xs, wFp x.key) (hup : 0 < lv → ∀ x ∈ xs, x.ref.toNat ∈ S ∧ ∃ zs, wBk s x.ref.toNat = some (lv - 1, zs)) (hlive : ∀ x ∈ xs, x.ref ≠ 0 → ¬ s.now.getD x.ref.toNat 0 = 0) (he : mkE s lv xs = 0) :
  ∃ S', En (mkS s lv xs) S' (((wEt (wAx s xs) : Nat) : Int) :: R) ∧ wEt (wAx s xs) ∈ S' ∧ Sub s S S' ∧ Ext s (mkS s lv xs) ∧ wBk (mkS s lv xs) (wEt (wAx s xs)) = some (lv, xs) ∧ (8 ≤ wEt (wAx s xs) ∧ wEt (wAx s xs) < 256) := by
 obtain ⟨hr, hz, hc0, hnd, hcnt⟩ := mk_nd h.ok hok hk hlive he
 have hmo := mkE_ok he h.ok.1.2.1
 generalize ha : wEt (wAx s xs) = a at *
 have hl : s.now.length = 256 := h.ok.2.1.1
 have hdead : wBk s a = none := by unfold wBk; rw [if_pos hz]
 have hext : Ext s (mkS s lv xs) := by
  refine ⟨fun n r hn => ?_, fun k hk2 => ?_⟩
  ·rw [hnd n, if_neg (fun e => by rw [e, hdead] at hn; cases hn)]; exact hn
  have hka : k ≠ a := fun e => by rw [e] at hk2; exact hk2 hz
  by_cases hk0 : k = 0
  ·subst hk0
   have h9 := h.ok.2.1.2
   have := List.all_eq_true.1 h9 (s.now.getD 0 0) (by
    rw [show s.now.getD 0 0 = (s.now.take 8)[0]'(by rw [List.length_take]; omega) by rw [List.getElem_take, wCp (by omega)]]
    exact List.getElem_mem _)
   exact absurd (by simpa using this) hk2
  have := hcnt k (by omega) hka
  have : (s.now.getD k 0).toNat ≠ 0 := fun e => hk2 (UInt8.toNat.inj e)
  exact nz_of (by omega)
 have haS : wBk (mkS s lv xs) a = some (lv, xs) := by rw [hnd a, if_pos rfl]
 refine ⟨a :: S.filter (· ≠ a), ⟨mkS_ok h.ok hok (by rw [ha]; exact hmo.2.2.1) hmo.2.2.2, fun k h0 h256 => ?_, fun n hn lv2 ys hy hlv x hx => ?_⟩, by simp, fun n hn hne => ?_, hext, haS, hr⟩
 ·have e1 : wS (mkS s lv xs) (a :: S.filter (· ≠ a)) k ≤ (xs.map (·.ref)).count k + wS s S k := by
   show ((a :: S.filter (· ≠ a)).map fun n => (wGw (mkS s lv xs) n).count k).sum ≤ _
   rw [List.map_cons, List.sum_cons, wGj haS]
   have e2 : ((S.filter (· ≠ a)).map fun n => (wGw (mkS s lv xs) n).count k).sum ≤ ((S.filter (· ≠ a)).map fun n => (wGw s n).count k).sum := sum_le fun n hn => by
    have hna : n ≠ a := by simpa using (List.mem_filter.1 hn).2
    unfold wGw; rw [hnd n, if_neg hna]; exact Nat.le_refl _
   have e3 := sum_sub (fun n => (wGw s n).count k) (· ≠ a) S
   unfold wS
   omega
  have e4 := h.enough k h0 h256
  by_cases e : k = (a : Int)
  ·subst e
   rw [Int.toNat_natCast, hz] at e4
   have h00 : (0 : By).toNat = 0 := rfl
   rw [List.count_cons_self, Int.toNat_natCast]
   have : (mkS s lv xs).now.getD a 0 = 1 := by
    show ((wAx s xs).now.set (wEt (wAx s xs)) 1).getD a 0 = 1
    rw [ha]; exact wCr (by rw [(wDp s xs).1]; omega)
   rw [this]
   have h11 : (1 : By).toNat = 1 := rfl
   omega
  rw [List.count_cons_of_ne (Ne.symm e), hcnt k.toNat (by omega) (by omega), show ((k.toNat : Nat) : Int) = k by omega]
  omega
 ·rw [hnd n] at hy
  by_cases e : n = a
  ·rw [if_pos e] at hy
   cases hy
   obtain ⟨c1, zs, c2⟩ := hup hlv x hx
   have hne : x.ref.toNat ≠ a := fun e2 => by rw [e2, hdead] at c2; cases c2
   exact ⟨List.mem_cons_of_mem _ (List.mem_filter.2 ⟨c1, by simpa using hne⟩), zs, hext.nd _ _ c2⟩
  rw [if_neg e] at hy
  have hnS : n ∈ S := (List.mem_cons.1 hn).elim (fun h => absurd h e) fun h => (List.mem_filter.1 h).1
  obtain ⟨c1, zs, c2⟩ := h.closed n hnS lv2 ys hy hlv x hx
  have hne : x.ref.toNat ≠ a := fun e2 => by rw [e2, hdead] at c2; cases c2
  exact ⟨List.mem_cons_of_mem _ (List.mem_filter.2 ⟨c1, by simpa using hne⟩), zs, hext.nd _ _ c2⟩
 exact List.mem_cons_of_mem _ (List.mem_filter.2 ⟨hn, by
  have : n ≠ a := fun e => by rw [e] at hne; exact hne hdead
  simpa using this⟩)
theorem mkE_err {s : Sto} {lv : Int} {xs : List It} (hst : wCc s) (hok : wEv lv xs = true) (hlive : ∀ x ∈ xs, x.ref ≠ 0 → ¬ s.now.getD x.ref.toNat 0 = 0) : mkE s lv xs = 0 ∨ mkE s lv xs = 9 ∨ mkE s lv xs = 70 := by
 have hno := NdOk.of hok
 unfold mkE
 rw [if_pos hok]
 rcases wLb (xs := xs) hst.2.1.1 (fun x hx => by
  by_cases h0 : x.ref = 0
  ·exact .inl h0
  have := hno.ref x hx; exact .inr ⟨by omega, by omega, hlive x hx h0⟩) with ⟨h, _⟩ | h
 ·rw [if_pos h]; split
  ·exact .inr (.inl rfl)
  exact .inl rfl
 rw [if_neg (by rw [h]; decide), h]; exact .inr (.inr rfl)
def Made (t : Sto) (S : List Nat) (lv : Int) : List It → List (List It) → Prop
 | [], [] => True
 | y :: ys, p :: ps => (wBk t y.ref.toNat = some (lv, p) ∧ y.ref.toNat ∈ S ∧ y.key = wDc p ∧ y.val = [] ∧ 8 ≤ y.ref ∧ y.ref < 256) ∧ Made t S lv ys ps
 | _, _ => False
theorem Made.mono {s t : Sto} {S S' : List Nat} {lv : Int} (he : Ext s t) (hs : Sub s S S') : ∀ {ys : List It} {ps : List (List It)}, Made s S lv ys ps → Made t S' lv ys ps
 | [], [], _ => trivial
 | y :: ys, p :: ps, ⟨⟨h1, h2, h3⟩, h⟩ => ⟨⟨he.nd _ _ h1, hs _ h2 (by rw [h1]; simp), h3⟩, Made.mono he hs h⟩
theorem Made.len {t : Sto} {S : List Nat} {lv : Int} : ∀ {ys : List It} {ps : List (List It)}, Made t S lv ys ps → ys.length = ps.length
 | [], [], _ => rfl
 | y :: ys, p :: ps, ⟨_, h⟩ => by rw [List.length_cons, List.length_cons, h.len]
structure Fit (s : Sto) (S : List Nat) (lv : Int) (p : List It) : Prop where
 ok : wEv lv p = true
 key : ∀ x ∈ p, wFp x.key
 up : 0 < lv → ∀ x ∈ p, x.ref.toNat ∈ S ∧ ∃ zs, wBk s x.ref.toNat = some (lv - 1, zs)
 live : ∀ x ∈ p, x.ref ≠ 0 → ¬ s.now.getD x.ref.toNat 0 = 0
theorem Fit.mono {s t : Sto} {S S' : List Nat} {lv : Int} {p : List It} (h : Fit s S lv p) (he : Ext s t) (hs : Sub s S S') : Fit t S' lv p :=
 ⟨h.ok, h.key, fun hl x hx => by obtain ⟨a, zs, b⟩ := h.up hl x hx; exact ⟨hs _ a (by rw [b]; simp), zs, he.nd _ _ b⟩, fun x hx h0 => he.live _ (h.live x hx h0)⟩
theorem Sub.trans {s t : Sto} {S S' S'' : List Nat} (h : Sub s S S') (he : Ext s t) (k : Sub t S' S'') : Sub s S S'' := fun n hn hne => k n (h n hn hne) (by
 cases hr : wBk s n with
 | none => exact absurd hr hne
 | some r => rw [he.nd _ _ hr]; simp)
theorem Ext.wS_le {s t : Sto} (h : Ext s t) (S : List Nat) (k : Int) : wS s S k ≤ wS t S k := sum_le fun n _ => by
 cases hr : wBk s n with
 | none => rw [wHs hr]; exact Nat.zero_le _
 | some r => obtain ⟨lv, ys⟩ := r; rw [wGj hr, wGj (h.nd _ _ hr)]; exact Nat.le_refl _
theorem prev_ok {k : Ky} : ∀ (p : Option Ky), (∀ q, p = some q → wBf q k = true) → (match p with | none => true | some q => wBf q k) = true
 | none, _ => rfl
 | some q, h => h q rfl
theorem items_ok {ab : Bool} : ∀ {xs : List It} {p : Option Ky}, (∀ x ∈ xs, wDu x = false ∧ (ab = true → x.ref ≠ 0 ∧ x.val = [])) → Srt xs → (∀ q, p = some q → ∀ x ∈ xs, wBf q x.key = true) → wCj ab p xs = true
 | [], _, _, _, _ => rfl
 | x :: xs, p, h, hs, hp => by
  have h2 := List.pairwise_cons.1 hs
  obtain ⟨h3, h4⟩ := h x (by simp)
  have ih := items_ok (ab := ab) (xs := xs) (p := some x.key) (fun y hy => h y (List.mem_cons_of_mem _ hy)) h2.2 (fun q e y hy => by cases e; exact h2.1 y hy)
  have hk := prev_ok (k := x.key) p (fun q e => hp q e x (by simp))
  have ha : (!ab || (x.ref != 0 && x.val.length == 0)) = true := by
   cases ab with
   | false => rfl
   | true => obtain ⟨a, b⟩ := h4 rfl; simp [a, b]
  unfold wCj; rw [Bool.and_eq_true, Bool.and_eq_true, Bool.and_eq_true]; exact ⟨⟨⟨by rw [h3]; rfl, hk⟩, ha⟩, ih⟩
theorem srt_at {xs : List It} (h : Srt xs) {i j : Nat} (hi : i < xs.length) (hj : j < xs.length) (hij : i < j) : wBf xs[i].key xs[j].key = true := List.pairwise_iff_getElem.1 h i j hi hj hij
theorem wKg {α : Type} {xs : List α} {z : α} {k : Nat} (h : z ∈ xs.drop k) : ∃ j, ∃ hj : j < xs.length, k ≤ j ∧ xs[j] = z := by
 obtain ⟨i, hi, e⟩ := List.getElem_of_mem h
 rw [List.length_drop] at hi
 exact ⟨k + i, by omega, by omega, by rw [← e, List.getElem_drop]⟩
theorem take_at {α : Type} {xs : List α} {j k : Nat} (hj : j < xs.length) (h : j < k) : xs[j] ∈ xs.take k := by
 have : j < (xs.take k).length := by rw [List.length_take]; omega
 have e : (xs.take k)[j] = xs[j] := List.getElem_take
 rw [← e]; exact List.getElem_mem this
theorem drop_at {α : Type} {xs : List α} {j k : Nat} (hj : j < xs.length) (h : k ≤ j) : xs[j] ∈ xs.drop k := by
 have : j - k < (xs.drop k).length := by rw [List.length_drop]; omega
 have e : (xs.drop k)[j - k] = xs[j] := by rw [List.getElem_drop]; congr 1; omega
 rw [← e]; exact List.getElem_mem this
theorem isAt_key {xs : List It} {q : Ky} (h : isAt xs q = true) : ∃ hp : place xs q < xs.length, xs[place xs q].key = q := by
 have hp := wKk h
 refine ⟨hp, ?_⟩
 unfold isAt at h
 have := of_decide_eq_true h
 rw [List.getElem?_eq_getElem hp] at this
 exact Option.some.inj this
theorem isAt_no {xs : List It} {q : Ky} (h : isAt xs q = false) (hp : place xs q < xs.length) : xs[place xs q].key ≠ q := fun e => by
 unfold isAt at h
 have := of_decide_eq_false h
 rw [List.getElem?_eq_getElem hp] at this
 exact this (by rw [Option.map_some, e])
theorem way_lo {xs : List It} {q : Ky} (hs : Srt xs) (hp : wAt xs q < xs.length) (h0 : 0 < wAt xs q) : kle xs[wAt xs q].key q := by
 unfold wAt at hp h0 ⊢
 by_cases h : isAt xs q = true
 ·simp only [h, if_true] at hp ⊢
  obtain ⟨_, e⟩ := isAt_key h
  rw [e]; exact wHt _
 simp only [h, if_false, Bool.false_eq_true] at hp h0 ⊢
 exact kl_kle ((wEs hs).1 _ (take_at hp (by omega)))
theorem way_hi {xs : List It} {q : Ky} (hs : Srt xs) : ∀ z ∈ xs.drop (wAt xs q + 1), wBf q z.key = true := fun z hz => by
 obtain ⟨j, hj, hjk, rfl⟩ := wKg hz
 unfold wAt at hjk
 by_cases h : isAt xs q = true
 ·simp only [h, if_true] at hjk
  obtain ⟨hp, e⟩ := isAt_key h
  have := srt_at hs hp hj (by omega)
  rwa [e] at this
 simp only [h, if_false, Bool.false_eq_true] at hjk
 have hge : kle q xs[j].key := (wEs hs).2 _ (drop_at hj (by omega))
 rcases kle_eq_or hge with e | e
 ·exfalso
  have hpl : place xs q < xs.length := by omega
  by_cases hjp : j = place xs q
  ·subst hjp
   exact isAt_no (by simpa using h) hj e.symm
  have h1 := srt_at hs hpl hj (by omega)
  rw [← e] at h1
  have h2 := (wEs (q := q) hs).2 _ (drop_at hpl (Nat.le_refl _))
  rw [h1] at h2; cases h2
 exact e
theorem one_lo {s : Sto} {l : Nat} {z : It} (h : Shp s l [z]) (hs : Srt (wCu s l z)) : ∀ y ∈ wCu s l z, kle z.key y.key := fun y hy => by
 obtain ⟨y0, r, e1, e2⟩ := one_head h
 rw [e1] at hy hs
 rw [← e2]
 rcases List.mem_cons.1 hy with rfl | hy
 ·exact wHt _
 exact kl_kle ((List.pairwise_cons.1 hs).1 y hy)
theorem wKy {xs : List It} {p : Nat} (hp : p < xs.length) : xs = xs.take p ++ [xs[p]] ++ xs.drop (p + 1) := by
 rw [List.append_assoc, List.singleton_append, ← List.drop_eq_getElem_cons hp, List.take_append_drop]
theorem ndOk_items {s : Sto} {k : Nat} {lv : Int} {xs : List It} (h : wBk s k = some (lv, xs)) : ∀ y ∈ xs, wDu y = false ∧ wFp y.key ∧ (0 < lv → y.ref ≠ 0 ∧ y.val = []) := fun y hy => by
 have hno := wBo h
 obtain ⟨a, b⟩ := wDh hno.ok y hy
 exact ⟨a, ndAt_key h y hy, fun hl => b (by simpa using hl)⟩
theorem up_bad {y : It} (h : y.val = [] ∧ (8 ≤ y.ref ∧ y.ref < 256)) : wDu y = false := by
 unfold wDu; rw [decide_eq_false]; rw [h.1]; simp; omega
end Go.Proofs.YtkcpllhggofloaaGreat
