/- An item put in, without a program in sight: what becomes of the trees. No statement of the seat is proved here. -/
import Derived.Test.YtoincdcejjdgkaaGreatZEn
namespace Go.Proofs.YtoincdcejjdgkaaGreat
set_option linter.unusedSimpArgs false
set_option linter.unusedVariables false
open Go.RowKit
theorem add_one {b : By} (h : ¬ b = 255) : (b + 1).toNat = b.toNat + 1 := by have := inc_u8 h; omega
theorem shareS_now {s : Sto} {k : Nat} (hk : k < s.now.length) (h : ¬ s.now.getD k 0 = 255) (n : Nat) : ((wGi s k).now.getD n 0).toNat = (s.now.getD n 0).toNat + (if n = k then 1 else 0) := by
 show ((s.now.set k _).getD n 0).toNat = _
 by_cases e : n = k
 ·subst e; rw [wDt hk, add_one h, if_pos rfl]
 ·rw [wEe e, if_neg e]; rfl
theorem shareE_cases {s : Sto} {k : Nat} (h : ¬ s.now.getD k 0 = 0) : (wDy s k = 0 ∧ ¬ s.now.getD k 0 = 255) ∨ (wDy s k = 70) := by
 unfold wDy; rw [if_neg h]
 by_cases h2 : s.now.getD k 0 = 255
 ·rw [if_pos h2]; exact .inr rfl
 ·rw [if_neg h2]; exact .inl ⟨rfl, h2⟩
theorem shE_cases : ∀ {xs : List It} {s : Sto}, s.now.length = 256 → (∀ x ∈ xs, x.ref = 0 ∨ (8 ≤ x.ref ∧ x.ref < 256 ∧ ¬ s.now.getD x.ref.toNat 0 = 0)) → (shE s xs = 0 ∧ ∀ k : Nat, 0 < k → ((wBb s xs).now.getD k 0).toNat = (s.now.getD k 0).toNat + (xs.map (·.ref)).count (k : Int)) ∨ shE s xs = 70
 | [], s, _, _ => .inl ⟨rfl, fun k _ => by show _ = _ + 0; rfl⟩
 | x :: xs, s, hl, hx => by
  have hsl : wBb s (x :: xs) = wBb (if x.ref = 0 then s else wGi s x.ref.toNat) xs := rfl
  rw [shE, hsl]
  by_cases h0 : x.ref = 0
  ·rw [if_pos h0, if_pos h0]
   rcases shE_cases (xs := xs) hl (fun y hy => hx y (List.mem_cons_of_mem _ hy)) with ⟨h1, h2⟩ | h1
   ·refine .inl ⟨h1, fun k hk => ?_⟩
    rw [h2 k hk, List.map_cons, List.count_cons_of_ne (by omega)]
   ·exact .inr h1
  ·obtain ⟨h8, h256, hz⟩ := (hx x (by simp)).resolve_left h0
   rw [if_neg h0, if_neg h0]
   rcases shareE_cases hz with ⟨e0, e255⟩ | e70
   ·rw [if_pos e0]
    have hn := shareS_now (s := s) (k := x.ref.toNat) (by omega) e255
    rcases shE_cases (xs := xs) (s := wGi s x.ref.toNat) (by rw [shareS_len]; exact hl) (fun y hy => (hx y (by simp [hy])).imp id fun ⟨a, b, c⟩ => ⟨a, b, nz_of (by
     have := hn y.ref.toNat
     have hc : (s.now.getD y.ref.toNat 0).toNat ≠ 0 := fun e => c (UInt8.toNat.inj e)
     omega)⟩) with ⟨h1, h2⟩ | h1
    ·refine .inl ⟨h1, fun k hk => ?_⟩
     rw [h2 k hk, hn k, List.map_cons, List.count_cons]
     have : (x.ref == (k : Int)) = decide (k = x.ref.toNat) := by
      by_cases e : k = x.ref.toNat
      ·rw [decide_eq_true e]; simp; omega
      ·rw [decide_eq_false e]; simp; omega
     rw [this]
     by_cases e : k = x.ref.toNat
     ·rw [if_pos e, decide_eq_true e]; simp; omega
     ·rw [if_neg e, decide_eq_false e]; simp
    ·exact .inr h1
   ·rw [if_neg (by rw [e70]; decide), e70]; exact .inr rfl
theorem mkAt_free {s : Sto} (h : wGh s < 256) : freeB s (wGh s) := by
 have : ∀ (f k : Nat), frAt s f k < k + f → freeB s (frAt s f k) := by
  intro f
  induction f with
  | zero => intro k h; rw [frAt] at h; omega
  | succ f ih =>
   intro k h
   rw [frAt] at h ⊢
   split
   ·assumption
   ·rename_i hf
    rw [if_neg hf] at h
    exact ih (k + 1) (by omega)
 exact this 248 8 h
theorem mk_nd {s : Sto} {lv : Int} {xs : List It} (hst : wCp s) (hok : wHx lv xs = true) (hk : ∀ x ∈ xs, wJn x.key) (hlive : ∀ x ∈ xs, x.ref ≠ 0 → ¬ s.now.getD x.ref.toNat 0 = 0) (he : mkE s lv xs = 0) :
  (8 ≤ wGh (wBb s xs) ∧ wGh (wBb s xs) < 256) ∧ s.now.getD (wGh (wBb s xs)) 0 = 0 ∧ (xs.map (·.ref)).count ((wGh (wBb s xs) : Nat) : Int) = 0 ∧ (∀ n, wCa (mkS s lv xs) n = if n = wGh (wBb s xs) then some (lv, xs) else wCa s n) ∧
   ∀ k : Nat, 0 < k → k ≠ wGh (wBb s xs) → ((mkS s lv xs).now.getD k 0).toNat = (s.now.getD k 0).toNat + (xs.map (·.ref)).count (k : Int) := by
 have hmo := mkE_ok he hst.1.2.1
 have hno := NdOk.of hok
 have hl : s.now.length = 256 := hst.2.1.1
 have hrr : ∀ x ∈ xs, x.ref = 0 ∨ (8 ≤ x.ref ∧ x.ref < 256 ∧ ¬ s.now.getD x.ref.toNat 0 = 0) := fun x hx => by
  by_cases h0 : x.ref = 0
  ·exact .inl h0
  ·have := hno.ref x hx; exact .inr ⟨by omega, by omega, hlive x hx h0⟩
 have hcn : ∀ k : Nat, 0 < k → ((wBb s xs).now.getD k 0).toNat = (s.now.getD k 0).toNat + (xs.map (·.ref)).count (k : Int) := by
  rcases shE_cases hl hrr with ⟨_, h⟩ | h
  ·exact h
  ·rw [hmo.2.1] at h; cases h
 obtain ⟨a, ha⟩ : ∃ a, a = wGh (wBb s xs) := ⟨_, rfl⟩
 have h8 : 8 ≤ a := by rw [ha]; exact frAt_ge _ _ _
 have h256 : a < 256 := by rw [ha]; exact hmo.2.2.1
 have hfree := (mkAt_free (s := wBb s xs) hmo.2.2.1).1
 rw [← ha] at hfree ⊢
 have hfa := hcn a (by omega)
 rw [hfree] at hfa
 have h00 : (0 : By).toNat = 0 := rfl
 have hz : s.now.getD a 0 = 0 := UInt8.toNat.inj (by omega)
 have hc0 : (xs.map (·.ref)).count (a : Int) = 0 := by omega
 obtain ⟨q1, q2, q3, q4⟩ := wEh s xs
 have hmk : mkS s lv xs = addS (wBb s xs) a (ndB lv xs) := by unfold mkS; rw [← ha]
 have hnow : ∀ k, k ≠ a → (mkS s lv xs).now.getD k 0 = (wBb s xs).now.getD k 0 := fun k hk => by
  rw [hmk]; show ((wBb s xs).now.set a 1).getD k 0 = _; exact wEe hk
 refine ⟨⟨h8, h256⟩, hz, hc0, fun n => ?_, fun k h0 hk => by rw [hnow k hk]; exact hcn k h0⟩
 by_cases e : n = a
 ·subst e
  rw [if_pos rfl]
  unfold wCa
  rw [if_neg (by rw [hmk]; show ¬ ((wBb s xs).now.set n 1).getD n 0 = 0; rw [wDt (by omega)]; decide)]
  have hs : wCo (mkS s lv xs) n = ndB lv xs := by
   rw [hmk]; unfold wCo
   show (match (((wBb s xs).waits ++ [((n : Int), ndB lv xs)]).reverse.find? fun w => w.1 == (n : Int)) with | some w => w.2 | none => _) = _
   rw [List.reverse_append, List.reverse_singleton, List.singleton_append, List.find?_cons_of_pos (by simp)]
  rw [hs]; exact node_rd hok hk
 ·rw [if_neg e]
  have hs : wCo (mkS s lv xs) n = wCo s n := by
   rw [hmk]; unfold wCo
   show (match (((wBb s xs).waits ++ [((a : Int), ndB lv xs)]).reverse.find? fun w => w.1 == (n : Int)) with | some w => w.2 | none => (wBb s xs).blocks.getD n []) = _
   rw [List.reverse_append, List.reverse_singleton, List.singleton_append, List.find?_cons_of_neg (by simp; omega), q2, q4]
   rfl
  unfold wCa
  rw [hs, hnow n e]
  by_cases hn0 : n = 0
  ·subst hn0
   have z1 : (wBb s xs).now.getD 0 0 = 0 := by
    have h9 := (shareL_ok hst.2.1 (fun x hx => (hrr x hx).imp id fun h => ⟨h.1, h.2.1⟩)).2
    have hlen : (wBb s xs).now.length = 256 := q1.trans hl
    have := List.all_eq_true.1 h9 ((wBb s xs).now.getD 0 0) (by
     rw [show (wBb s xs).now.getD 0 0 = ((wBb s xs).now.take 8)[0]'(by rw [List.length_take]; omega) by rw [List.getElem_take, wDv (by omega)]]
     exact List.getElem_mem _)
    simpa using this
   have z2 : s.now.getD 0 0 = 0 := by
    have h9 := hst.2.1.2
    have := List.all_eq_true.1 h9 (s.now.getD 0 0) (by
     rw [show s.now.getD 0 0 = (s.now.take 8)[0]'(by rw [List.length_take]; omega) by rw [List.getElem_take, wDv (by omega)]]
     exact List.getElem_mem _)
    simpa using this
   rw [z1, z2]
  ·have := hcn n (by omega)
   by_cases hz2 : s.now.getD n 0 = 0
   ·have hcnt : (xs.map (·.ref)).count (n : Int) = 0 := by
     rw [List.count_eq_zero]
     intro hm
     obtain ⟨x, hx, e2⟩ := List.mem_map.1 hm
     have := hlive x hx (by omega)
     rw [e2, Int.toNat_natCast] at this
     exact this hz2
    have hz3 : (wBb s xs).now.getD n 0 = 0 := UInt8.toNat.inj (by rw [hz2] at this; omega)
    rw [if_pos hz3, if_pos hz2]
   ·have hz3 : ¬ (wBb s xs).now.getD n 0 = 0 := nz_of (by
     have : (s.now.getD n 0).toNat ≠ 0 := fun e => hz2 (UInt8.toNat.inj e)
     omega)
    rw [if_neg hz3, if_neg hz2]
def Sub (s : Sto) (S S' : List Nat) : Prop := ∀ n ∈ S, wCa s n ≠ none → n ∈ S'
theorem En.make {s : Sto} {S : List Nat} {R : List Int} {lv : Int} {xs : List It} (h : En s S R) (hok : wHx lv xs = true) (hk : ∀ x ∈ xs, wJn x.key) (hup : 0 < lv → ∀ x ∈ xs, x.ref.toNat ∈ S ∧ ∃ zs, wCa s x.ref.toNat = some (lv - 1, zs)) (hlive : ∀ x ∈ xs, x.ref ≠ 0 → ¬ s.now.getD x.ref.toNat 0 = 0) (he : mkE s lv xs = 0) :
  ∃ S', En (mkS s lv xs) S' (((wGh (wBb s xs) : Nat) : Int) :: R) ∧ wGh (wBb s xs) ∈ S' ∧ Sub s S S' ∧ ExtB s (mkS s lv xs) ∧ wCa (mkS s lv xs) (wGh (wBb s xs)) = some (lv, xs) ∧ (8 ≤ wGh (wBb s xs) ∧ wGh (wBb s xs) < 256) := by
 obtain ⟨hr, hz, hc0, hnd, hcnt⟩ := mk_nd h.ok hok hk hlive he
 have hmo := mkE_ok he h.ok.1.2.1
 generalize ha : wGh (wBb s xs) = a at *
 have hl : s.now.length = 256 := h.ok.2.1.1
 have hdead : wCa s a = none := by unfold wCa; rw [if_pos hz]
 have hext : ExtB s (mkS s lv xs) := by
  refine ⟨fun n r hn => ?_, fun k hk2 => ?_⟩
  ·rw [hnd n, if_neg (fun e => by rw [e, hdead] at hn; cases hn)]; exact hn
  ·have hka : k ≠ a := fun e => by rw [e] at hk2; exact hk2 hz
   by_cases hk0 : k = 0
   ·subst hk0
    have h9 := h.ok.2.1.2
    have := List.all_eq_true.1 h9 (s.now.getD 0 0) (by
     rw [show s.now.getD 0 0 = (s.now.take 8)[0]'(by rw [List.length_take]; omega) by rw [List.getElem_take, wDv (by omega)]]
     exact List.getElem_mem _)
    exact absurd (by simpa using this) hk2
   ·have := hcnt k (by omega) hka
    have : (s.now.getD k 0).toNat ≠ 0 := fun e => hk2 (UInt8.toNat.inj e)
    exact nz_of (by omega)
 have haS : wCa (mkS s lv xs) a = some (lv, xs) := by rw [hnd a, if_pos rfl]
 refine ⟨a :: S.filter (· ≠ a), ⟨mkS_ok h.ok hok (by rw [ha]; exact hmo.2.2.1) hmo.2.2.2, fun k h0 h256 => ?_, fun n hn lv2 ys hy hlv x hx => ?_⟩, by simp, fun n hn hne => ?_, hext, haS, hr⟩
 ·have e1 : wS (mkS s lv xs) (a :: S.filter (· ≠ a)) k ≤ (xs.map (·.ref)).count k + wS s S k := by
   show ((a :: S.filter (· ≠ a)).map fun n => (wGy (mkS s lv xs) n).count k).sum ≤ _
   rw [List.map_cons, List.sum_cons, wKp haS]
   have e2 : ((S.filter (· ≠ a)).map fun n => (wGy (mkS s lv xs) n).count k).sum ≤ ((S.filter (· ≠ a)).map fun n => (wGy s n).count k).sum := sum_le fun n hn => by
    have hna : n ≠ a := by simpa using (List.mem_filter.1 hn).2
    unfold wGy; rw [hnd n, if_neg hna]; exact Nat.le_refl _
   have e3 := sum_sub (fun n => (wGy s n).count k) (· ≠ a) S
   unfold wS
   omega
  have e4 := h.enough k h0 h256
  by_cases e : k = (a : Int)
  ·subst e
   rw [Int.toNat_natCast, hz] at e4
   have h00 : (0 : By).toNat = 0 := rfl
   rw [List.count_cons_self, Int.toNat_natCast]
   have : (mkS s lv xs).now.getD a 0 = 1 := by
    show ((wBb s xs).now.set (wGh (wBb s xs)) 1).getD a 0 = 1
    rw [ha]; exact wDt (by rw [(wEh s xs).1]; omega)
   rw [this]
   have h11 : (1 : By).toNat = 1 := rfl
   omega
  ·rw [List.count_cons_of_ne (Ne.symm e), hcnt k.toNat (by omega) (by omega), show ((k.toNat : Nat) : Int) = k by omega]
   omega
 ·rw [hnd n] at hy
  by_cases e : n = a
  ·rw [if_pos e] at hy
   cases hy
   obtain ⟨c1, zs, c2⟩ := hup hlv x hx
   have hne : x.ref.toNat ≠ a := fun e2 => by rw [e2, hdead] at c2; cases c2
   exact ⟨List.mem_cons_of_mem _ (List.mem_filter.2 ⟨c1, by simpa using hne⟩), zs, hext.nd _ _ c2⟩
  ·rw [if_neg e] at hy
   have hnS : n ∈ S := (List.mem_cons.1 hn).elim (fun h => absurd h e) fun h => (List.mem_filter.1 h).1
   obtain ⟨c1, zs, c2⟩ := h.closed n hnS lv2 ys hy hlv x hx
   have hne : x.ref.toNat ≠ a := fun e2 => by rw [e2, hdead] at c2; cases c2
   exact ⟨List.mem_cons_of_mem _ (List.mem_filter.2 ⟨c1, by simpa using hne⟩), zs, hext.nd _ _ c2⟩
 ·exact List.mem_cons_of_mem _ (List.mem_filter.2 ⟨hn, by
   have : n ≠ a := fun e => by rw [e] at hne; exact hne hdead
   simpa using this⟩)
def Made (t : Sto) (S : List Nat) (lv : Int) : List It → List (List It) → Prop
 | [], [] => True
 | y :: ys, p :: ps => (wCa t y.ref.toNat = some (lv, p) ∧ y.ref.toNat ∈ S ∧ y.key = headK p ∧ y.val = [] ∧ 8 ≤ y.ref ∧ y.ref < 256) ∧ Made t S lv ys ps
 | _, _ => False
theorem Made.mono {s t : Sto} {S S' : List Nat} {lv : Int} (he : ExtB s t) (hs : Sub s S S') : ∀ {ys : List It} {ps : List (List It)}, Made s S lv ys ps → Made t S' lv ys ps
 | [], [], _ => trivial
 | y :: ys, p :: ps, ⟨⟨h1, h2, h3⟩, h⟩ => ⟨⟨he.nd _ _ h1, hs _ h2 (by rw [h1]; simp), h3⟩, Made.mono he hs h⟩
theorem Made.len {t : Sto} {S : List Nat} {lv : Int} : ∀ {ys : List It} {ps : List (List It)}, Made t S lv ys ps → ys.length = ps.length
 | [], [], _ => rfl
 | y :: ys, p :: ps, ⟨_, h⟩ => by rw [List.length_cons, List.length_cons, h.len]
structure Fit (s : Sto) (S : List Nat) (lv : Int) (p : List It) : Prop where
 ok : wHx lv p = true
 key : ∀ x ∈ p, wJn x.key
 up : 0 < lv → ∀ x ∈ p, x.ref.toNat ∈ S ∧ ∃ zs, wCa s x.ref.toNat = some (lv - 1, zs)
 live : ∀ x ∈ p, x.ref ≠ 0 → ¬ s.now.getD x.ref.toNat 0 = 0
theorem Fit.mono {s t : Sto} {S S' : List Nat} {lv : Int} {p : List It} (h : Fit s S lv p) (he : ExtB s t) (hs : Sub s S S') : Fit t S' lv p :=
 ⟨h.ok, h.key, fun hl x hx => by obtain ⟨a, zs, b⟩ := h.up hl x hx; exact ⟨hs _ a (by rw [b]; simp), zs, he.nd _ _ b⟩, fun x hx h0 => he.live _ (h.live x hx h0)⟩
theorem Sub.trans {s t : Sto} {S S' S'' : List Nat} (h : Sub s S S') (he : ExtB s t) (k : Sub t S' S'') : Sub s S S'' := fun n hn hne => k n (h n hn hne) (by
 cases hr : wCa s n with
 | none => exact absurd hr hne
 | some r => rw [he.nd _ _ hr]; simp)
theorem Thin.tree {u t : Sto} {S : List Nat} {R : List Int} (h : Thin u t) (he : En t S R) {r : Int} (hr : r ∈ R) (hb : 8 ≤ r ∧ r < 256) (hS : r.toNat ∈ S) {l : Nat} {xs : List It} (hnd : wCa u r.toNat = some ((l : Int), xs)) (hs : Shp u l xs) :
  wCa t r.toNat = some ((l : Int), xs) ∧ Shp t l xs ∧ allL t l xs = allL u l xs := by
 have hc : 0 < R.count r := List.count_pos_iff.2 hr
 have hlive := he.live (k := r) (by omega) hb.2 (by omega)
 have hnd2 : wCa t r.toNat = some ((l : Int), xs) := by rw [h.nd hlive]; exact hnd
 have hno := wCe hnd2
 refine ⟨hnd2, h.shp he hs fun x hx => ⟨fun hl => ?_, fun hl h0 => ?_⟩⟩
 ·obtain ⟨a, zs, b⟩ := he.closed _ hS _ _ hnd2 (by omega) x hx
  exact ⟨a, by rw [b]; simp⟩
 ·have := hno.ref x hx
  exact he.live (by omega) (by omega) (by have := wS_pos hS hnd2 hx; omega)
structure PutOk (s t : Sto) (root now : Int) (x : It) (R : List Int) (S S' : List Nat) : Prop where
 en : En t S' (now :: R)
 inS : now.toNat ∈ S'
 rng : 8 ≤ now ∧ now < 256
 chk : (wGo t now).2 = 0
 high : (wGo t now).1 = (wGo s root).1 ∨ (wGo t now).1 = (wGo s root).1 + 1
 all : allT t now = insL x (allT s root)
 other : ∀ r ∈ R, r.toNat ∈ S → (wGo s r).2 = 0 → wGo t r = wGo s r ∧ allT t r = allT s r ∧ r.toNat ∈ S'
 waits : (t.waits.length : Int) ≤ s.waits.length + 2 * (wGo s root).1 + 1
end Go.Proofs.YtoincdcejjdgkaaGreat
