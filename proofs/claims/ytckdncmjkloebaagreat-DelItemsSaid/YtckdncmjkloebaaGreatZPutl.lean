/- An item put in, without a program in sight: what becomes of the trees. No statement of the seat is proved here. -/
import Derived.Test.YtckdncmjkloebaaGreatZEn
namespace Go.Proofs.YtckdncmjkloebaaGreat
set_option linter.unusedSimpArgs false
set_option linter.unusedVariables false
open Go.RowKit
theorem add_one {b : By} (h : ¬ b = 255) : (b + 1).toNat = b.toNat + 1 := by have := inc_u8 h; omega
theorem wJx {s : Sto} {k : Nat} (hk : k < s.now.length) (h : ¬ s.now.getD k 0 = 255) (n : Nat) : ((wCv s k).now.getD n 0).toNat = (s.now.getD n 0).toNat + (if n = k then 1 else 0) := by
 show ((s.now.set k _).getD n 0).toNat = _
 by_cases e : n = k
 ·subst e; rw [wCh hk, add_one h, if_pos rfl]
 ·rw [wBw e, if_neg e]; rfl
theorem shareE_cases {s : Sto} {k : Nat} (h : ¬ s.now.getD k 0 = 0) : (wDa s k = 0 ∧ ¬ s.now.getD k 0 = 255) ∨ (wDa s k = 70) := by
 unfold wDa; rw [if_neg h]
 by_cases h2 : s.now.getD k 0 = 255
 ·rw [if_pos h2]; exact .inr rfl
 ·rw [if_neg h2]; exact .inl ⟨rfl, h2⟩
theorem wLq : ∀ {xs : List It} {s : Sto}, s.now.length = 256 → (∀ x ∈ xs, x.ref = 0 ∨ (8 ≤ x.ref ∧ x.ref < 256 ∧ ¬ s.now.getD x.ref.toNat 0 = 0)) → (shE s xs = 0 ∧ ∀ k : Nat, 0 < k → ((wBb s xs).now.getD k 0).toNat = (s.now.getD k 0).toNat + (xs.map (·.ref)).count (k : Int)) ∨ shE s xs = 70
 | [], s, _, _ => .inl ⟨rfl, fun k _ => by show _ = _ + 0; rfl⟩
 | x :: xs, s, hl, hx => by
  have hsl : wBb s (x :: xs) = wBb (if x.ref = 0 then s else wCv s x.ref.toNat) xs := rfl
  rw [shE, hsl]
  by_cases h0 : x.ref = 0
  ·rw [if_pos h0, if_pos h0]
   rcases wLq (xs := xs) hl (fun y hy => hx y (List.mem_cons_of_mem _ hy)) with ⟨h1, h2⟩ | h1
   ·refine .inl ⟨h1, fun k hk => ?_⟩
    rw [h2 k hk, List.map_cons, List.count_cons_of_ne (by omega)]
   ·exact .inr h1
  ·obtain ⟨h8, h256, hz⟩ := (hx x (by simp)).resolve_left h0
   rw [if_neg h0, if_neg h0]
   rcases shareE_cases hz with ⟨e0, e255⟩ | e70
   ·rw [if_pos e0]
    have hn := wJx (s := s) (k := x.ref.toNat) (by omega) e255
    rcases wLq (xs := xs) (s := wCv s x.ref.toNat) (by rw [shareS_len]; exact hl) (fun y hy => (hx y (by simp [hy])).imp id fun ⟨a, b, c⟩ => ⟨a, b, nz_of (by
     have := hn y.ref.toNat
     have hc : (s.now.getD y.ref.toNat 0).toNat ≠ 0 := fun e => c (UInt8.toNat.inj e)
     omega)⟩) with ⟨h1, h2⟩ | h1
    ·refine .inl ⟨h1, fun k hk => ?_⟩
     rw [h2 k hk, hn k, List.map_cons, List.count_cons]
     have : (x.ref == (k : Int)) = decide (k = x.ref.toNat) := by
      by_cases e : k = x.ref.toNat
      ·rw [decide_eq_true e]; simp; omega
      ·rw [decide_eq_false e]; simp; omega
     rw [this]
     by_cases e : k = x.ref.toNat
     ·rw [if_pos e, decide_eq_true e]; simp; omega
     ·rw [if_neg e, decide_eq_false e]; simp
    ·exact .inr h1
   ·rw [if_neg (by rw [e70]; decide), e70]; exact .inr rfl
theorem mkAt_free {s : Sto} (h : wGq s < 256) : freeB s (wGq s) := by
 have : ∀ (f k : Nat), frAt s f k < k + f → freeB s (frAt s f k) := by
  intro f
  induction f with
  | zero => intro k h; rw [frAt] at h; omega
  | succ f ih =>
   intro k h
   rw [frAt] at h ⊢
   split
   ·assumption
   ·rename_i hf
    rw [if_neg hf] at h
    exact ih (k + 1) (by omega)
 exact this 248 8 h
theorem mk_nd {s : Sto} {lv : Int} {xs : List It} (hst : wCx s) (hok : wHn lv xs = true) (hk : ∀ x ∈ xs, wDk x.key) (hlive : ∀ x ∈ xs, x.ref ≠ 0 → ¬ s.now.getD x.ref.toNat 0 = 0) (he : mkE s lv xs = 0) :
  (8 ≤ wGq (wBb s xs) ∧ wGq (wBb s xs) < 256) ∧ s.now.getD (wGq (wBb s xs)) 0 = 0 ∧ (xs.map (·.ref)).count ((wGq (wBb s xs) : Nat) : Int) = 0 ∧ (∀ n, wBs (mkS s lv xs) n = if n = wGq (wBb s xs) then some (lv, xs) else wBs s n) ∧
   ∀ k : Nat, 0 < k → k ≠ wGq (wBb s xs) → ((mkS s lv xs).now.getD k 0).toNat = (s.now.getD k 0).toNat + (xs.map (·.ref)).count (k : Int) := by
 have hmo := wLy he hst.1.2.1
 have hno := NdOk.of hok
 have hl : s.now.length = 256 := hst.2.1.1
 have hrr : ∀ x ∈ xs, x.ref = 0 ∨ (8 ≤ x.ref ∧ x.ref < 256 ∧ ¬ s.now.getD x.ref.toNat 0 = 0) := fun x hx => by
  by_cases h0 : x.ref = 0
  ·exact .inl h0
  ·have := hno.ref x hx; exact .inr ⟨by omega, by omega, hlive x hx h0⟩
 have hcn : ∀ k : Nat, 0 < k → ((wBb s xs).now.getD k 0).toNat = (s.now.getD k 0).toNat + (xs.map (·.ref)).count (k : Int) := by
  rcases wLq hl hrr with ⟨_, h⟩ | h
  ·exact h
  ·rw [hmo.2.1] at h; cases h
 obtain ⟨a, ha⟩ : ∃ a, a = wGq (wBb s xs) := ⟨_, rfl⟩
 have h8 : 8 ≤ a := by rw [ha]; exact frAt_ge _ _ _
 have h256 : a < 256 := by rw [ha]; exact hmo.2.2.1
 have hfree := (mkAt_free (s := wBb s xs) hmo.2.2.1).1
 rw [← ha] at hfree ⊢
 have hfa := hcn a (by omega)
 rw [hfree] at hfa
 have h00 : (0 : By).toNat = 0 := rfl
 have hz : s.now.getD a 0 = 0 := UInt8.toNat.inj (by omega)
 have hc0 : (xs.map (·.ref)).count (a : Int) = 0 := by omega
 obtain ⟨q1, q2, q3, q4⟩ := wFg s xs
 have hmk : mkS s lv xs = addS (wBb s xs) a (ndB lv xs) := by unfold mkS; rw [← ha]
 have hnow : ∀ k, k ≠ a → (mkS s lv xs).now.getD k 0 = (wBb s xs).now.getD k 0 := fun k hk => by
  rw [hmk]; show ((wBb s xs).now.set a 1).getD k 0 = _; exact wBw hk
 refine ⟨⟨h8, h256⟩, hz, hc0, fun n => ?_, fun k h0 hk => by rw [hnow k hk]; exact hcn k h0⟩
 by_cases e : n = a
 ·subst e
  rw [if_pos rfl]
  unfold wBs
  rw [if_neg (by rw [hmk]; show ¬ ((wBb s xs).now.set n 1).getD n 0 = 0; rw [wCh (by omega)]; decide)]
  have hs : wLr (mkS s lv xs) n = ndB lv xs := by
   rw [hmk]; unfold wLr
   show (match (((wBb s xs).waits ++ [((n : Int), ndB lv xs)]).reverse.find? fun w => w.1 == (n : Int)) with | some w => w.2 | none => _) = _
   rw [List.reverse_append, List.reverse_singleton, List.singleton_append, List.find?_cons_of_pos (by simp)]
  rw [hs]; exact node_rd hok hk
 ·rw [if_neg e]
  have hs : wLr (mkS s lv xs) n = wLr s n := by
   rw [hmk]; unfold wLr
   show (match (((wBb s xs).waits ++ [((a : Int), ndB lv xs)]).reverse.find? fun w => w.1 == (n : Int)) with | some w => w.2 | none => (wBb s xs).blocks.getD n []) = _
   rw [List.reverse_append, List.reverse_singleton, List.singleton_append, List.find?_cons_of_neg (by simp; omega), q2, q4]
   rfl
  unfold wBs
  rw [hs, hnow n e]
  by_cases hn0 : n = 0
  ·subst hn0
   have z1 : (wBb s xs).now.getD 0 0 = 0 := by
    have h9 := (shareL_ok hst.2.1 (fun x hx => (hrr x hx).imp id fun h => ⟨h.1, h.2.1⟩)).2
    have hlen : (wBb s xs).now.length = 256 := q1.trans hl
    have := List.all_eq_true.1 h9 ((wBb s xs).now.getD 0 0) (by
     rw [show (wBb s xs).now.getD 0 0 = ((wBb s xs).now.take 8)[0]'(by rw [List.length_take]; omega) by rw [List.getElem_take, wHa (by omega)]]
     exact List.getElem_mem _)
    simpa using this
   have z2 : s.now.getD 0 0 = 0 := by
    have h9 := hst.2.1.2
    have := List.all_eq_true.1 h9 (s.now.getD 0 0) (by
     rw [show s.now.getD 0 0 = (s.now.take 8)[0]'(by rw [List.length_take]; omega) by rw [List.getElem_take, wHa (by omega)]]
     exact List.getElem_mem _)
    simpa using this
   rw [z1, z2]
  ·have := hcn n (by omega)
   by_cases hz2 : s.now.getD n 0 = 0
   ·have hcnt : (xs.map (·.ref)).count (n : Int) = 0 := by
     rw [List.count_eq_zero]
     intro hm
     obtain ⟨x, hx, e2⟩ := List.mem_map.1 hm
     have := hlive x hx (by omega)
     rw [e2, Int.toNat_natCast] at this
     exact this hz2
    have hz3 : (wBb s xs).now.getD n 0 = 0 := UInt8.toNat.inj (by rw [hz2] at this; omega)
    rw [if_pos hz3, if_pos hz2]
   ·have hz3 : ¬ (wBb s xs).now.getD n 0 = 0 := nz_of (by
     have : (s.now.getD n 0).toNat ≠ 0 := fun e => hz2 (UInt8.toNat.inj e)
     omega)
    rw [if_neg hz3, if_neg hz2]
def Sub (s : Sto) (S S' : List Nat) : Prop := ∀ n ∈ S, wBs s n ≠ none → n ∈ S'
theorem En.make {s : Sto} {S : List Nat} {R : List Int} {lv : Int} {xs : List It} (h : En s S R) (hok : wHn lv xs = true) (hk : ∀ x ∈ xs, wDk x.key) (hup : 0 < lv → ∀ x ∈ xs, x.ref.toNat ∈ S ∧ ∃ zs, wBs s x.ref.toNat = some (lv - 1, zs)) (hlive : ∀ x ∈ xs, x.ref ≠ 0 → ¬ s.now.getD x.ref.toNat 0 = 0) (he : mkE s lv xs = 0) :
  ∃ S', En (mkS s lv xs) S' (((wGq (wBb s xs) : Nat) : Int) :: R) ∧ wGq (wBb s xs) ∈ S' ∧ Sub s S S' ∧ Ext s (mkS s lv xs) ∧ wBs (mkS s lv xs) (wGq (wBb s xs)) = some (lv, xs) ∧ (8 ≤ wGq (wBb s xs) ∧ wGq (wBb s xs) < 256) := by
 obtain ⟨hr, hz, hc0, hnd, hcnt⟩ := mk_nd h.ok hok hk hlive he
 have hmo := wLy he h.ok.1.2.1
 generalize ha : wGq (wBb s xs) = a at *
 have hl : s.now.length = 256 := h.ok.2.1.1
 have hdead : wBs s a = none := by unfold wBs; rw [if_pos hz]
 have hext : Ext s (mkS s lv xs) := by
  refine ⟨fun n r hn => ?_, fun k hk2 => ?_⟩
  ·rw [hnd n, if_neg (fun e => by rw [e, hdead] at hn; cases hn)]; exact hn
  ·have hka : k ≠ a := fun e => by rw [e] at hk2; exact hk2 hz
   by_cases hk0 : k = 0
   ·subst hk0
    have h9 := h.ok.2.1.2
    have := List.all_eq_true.1 h9 (s.now.getD 0 0) (by
     rw [show s.now.getD 0 0 = (s.now.take 8)[0]'(by rw [List.length_take]; omega) by rw [List.getElem_take, wHa (by omega)]]
     exact List.getElem_mem _)
    exact absurd (by simpa using this) hk2
   ·have := hcnt k (by omega) hka
    have : (s.now.getD k 0).toNat ≠ 0 := fun e => hk2 (UInt8.toNat.inj e)
    exact nz_of (by omega)
 have haS : wBs (mkS s lv xs) a = some (lv, xs) := by rw [hnd a, if_pos rfl]
 refine ⟨a :: S.filter (· ≠ a), ⟨mkS_ok h.ok hok (by rw [ha]; exact hmo.2.2.1) hmo.2.2.2, fun k h0 h256 => ?_, fun n hn lv2 ys hy hlv x hx => ?_⟩, by simp, fun n hn hne => ?_, hext, haS, hr⟩
 ·have e1 : wS (mkS s lv xs) (a :: S.filter (· ≠ a)) k ≤ (xs.map (·.ref)).count k + wS s S k := by
   show ((a :: S.filter (· ≠ a)).map fun n => (wEb (mkS s lv xs) n).count k).sum ≤ _
   rw [List.map_cons, List.sum_cons, wFh haS]
   have e2 : ((S.filter (· ≠ a)).map fun n => (wEb (mkS s lv xs) n).count k).sum ≤ ((S.filter (· ≠ a)).map fun n => (wEb s n).count k).sum := sum_le fun n hn => by
    have hna : n ≠ a := by simpa using (List.mem_filter.1 hn).2
    unfold wEb; rw [hnd n, if_neg hna]; exact Nat.le_refl _
   have e3 := sum_sub (fun n => (wEb s n).count k) (· ≠ a) S
   unfold wS
   omega
  have e4 := h.enough k h0 h256
  by_cases e : k = (a : Int)
  ·subst e
   rw [Int.toNat_natCast, hz] at e4
   have h00 : (0 : By).toNat = 0 := rfl
   rw [List.count_cons_self, Int.toNat_natCast]
   have : (mkS s lv xs).now.getD a 0 = 1 := by
    show ((wBb s xs).now.set (wGq (wBb s xs)) 1).getD a 0 = 1
    rw [ha]; exact wCh (by rw [(wFg s xs).1]; omega)
   rw [this]
   have h11 : (1 : By).toNat = 1 := rfl
   omega
  ·rw [List.count_cons_of_ne (Ne.symm e), hcnt k.toNat (by omega) (by omega), show ((k.toNat : Nat) : Int) = k by omega]
   omega
 ·rw [hnd n] at hy
  by_cases e : n = a
  ·rw [if_pos e] at hy
   cases hy
   obtain ⟨c1, zs, c2⟩ := hup hlv x hx
   have hne : x.ref.toNat ≠ a := fun e2 => by rw [e2, hdead] at c2; cases c2
   exact ⟨List.mem_cons_of_mem _ (List.mem_filter.2 ⟨c1, by simpa using hne⟩), zs, hext.nd _ _ c2⟩
  ·rw [if_neg e] at hy
   have hnS : n ∈ S := (List.mem_cons.1 hn).elim (fun h => absurd h e) fun h => (List.mem_filter.1 h).1
   obtain ⟨c1, zs, c2⟩ := h.closed n hnS lv2 ys hy hlv x hx
   have hne : x.ref.toNat ≠ a := fun e2 => by rw [e2, hdead] at c2; cases c2
   exact ⟨List.mem_cons_of_mem _ (List.mem_filter.2 ⟨c1, by simpa using hne⟩), zs, hext.nd _ _ c2⟩
 ·exact List.mem_cons_of_mem _ (List.mem_filter.2 ⟨hn, by
   have : n ≠ a := fun e => by rw [e] at hne; exact hne hdead
   simpa using this⟩)
theorem mkE_err {s : Sto} {lv : Int} {xs : List It} (hst : wCx s) (hok : wHn lv xs = true) (hlive : ∀ x ∈ xs, x.ref ≠ 0 → ¬ s.now.getD x.ref.toNat 0 = 0) : mkE s lv xs = 0 ∨ mkE s lv xs = 9 ∨ mkE s lv xs = 70 := by
 have hno := NdOk.of hok
 unfold mkE
 rw [if_pos hok]
 rcases wLq (xs := xs) hst.2.1.1 (fun x hx => by
  by_cases h0 : x.ref = 0
  ·exact .inl h0
  ·have := hno.ref x hx; exact .inr ⟨by omega, by omega, hlive x hx h0⟩) with ⟨h, _⟩ | h
 ·rw [if_pos h]; split
  ·exact .inr (.inl rfl)
  ·exact .inl rfl
 ·rw [if_neg (by rw [h]; decide), h]; exact .inr (.inr rfl)
def Made (t : Sto) (S : List Nat) (lv : Int) : List It → List (List It) → Prop
 | [], [] => True
 | y :: ys, p :: ps => (wBs t y.ref.toNat = some (lv, p) ∧ y.ref.toNat ∈ S ∧ y.key = wDn p ∧ y.val = [] ∧ 8 ≤ y.ref ∧ y.ref < 256) ∧ Made t S lv ys ps
 | _, _ => False
theorem Made.mono {s t : Sto} {S S' : List Nat} {lv : Int} (he : Ext s t) (hs : Sub s S S') : ∀ {ys : List It} {ps : List (List It)}, Made s S lv ys ps → Made t S' lv ys ps
 | [], [], _ => trivial
 | y :: ys, p :: ps, ⟨⟨h1, h2, h3⟩, h⟩ => ⟨⟨he.nd _ _ h1, hs _ h2 (by rw [h1]; simp), h3⟩, Made.mono he hs h⟩
theorem Made.len {t : Sto} {S : List Nat} {lv : Int} : ∀ {ys : List It} {ps : List (List It)}, Made t S lv ys ps → ys.length = ps.length
 | [], [], _ => rfl
 | y :: ys, p :: ps, ⟨_, h⟩ => by rw [List.length_cons, List.length_cons, h.len]
structure Fit (s : Sto) (S : List Nat) (lv : Int) (p : List It) : Prop where
 ok : wHn lv p = true
 key : ∀ x ∈ p, wDk x.key
 up : 0 < lv → ∀ x ∈ p, x.ref.toNat ∈ S ∧ ∃ zs, wBs s x.ref.toNat = some (lv - 1, zs)
 live : ∀ x ∈ p, x.ref ≠ 0 → ¬ s.now.getD x.ref.toNat 0 = 0
theorem Fit.mono {s t : Sto} {S S' : List Nat} {lv : Int} {p : List It} (h : Fit s S lv p) (he : Ext s t) (hs : Sub s S S') : Fit t S' lv p :=
 ⟨h.ok, h.key, fun hl x hx => by obtain ⟨a, zs, b⟩ := h.up hl x hx; exact ⟨hs _ a (by rw [b]; simp), zs, he.nd _ _ b⟩, fun x hx h0 => he.live _ (h.live x hx h0)⟩
theorem Sub.trans {s t : Sto} {S S' S'' : List Nat} (h : Sub s S S') (he : Ext s t) (k : Sub t S' S'') : Sub s S S'' := fun n hn hne => k n (h n hn hne) (by
 cases hr : wBs s n with
 | none => exact absurd hr hne
 | some r => rw [he.nd _ _ hr]; simp)
theorem mkP_law {lv : Int} : ∀ {ps : List (List It)} {s : Sto} {S : List Nat} {R : List Int} {up0 : List It}, En s S R → (∀ p ∈ ps, Fit s S lv p) →
  (∃ e, mkP lv ps s up0 = .error e ∧ (e = 9 ∨ e = 70)) ∨ ∃ t S' made, mkP lv ps s up0 = .ok (t, up0 ++ made) ∧ En t S' (made.map (·.ref) ++ R) ∧ Sub s S S' ∧ Ext s t ∧ t.waits.length = s.waits.length + ps.length ∧ Made t S' lv made ps
 | [], s, S, R, up0, h, _ => .inr ⟨s, S, [], by rw [mkP, List.append_nil], h, fun n hn _ => hn, Ext.refl s, rfl, trivial⟩
 | p :: ps, s, S, R, up0, h, hf => by
  have hp := hf p (by simp)
  rw [mkP]
  rcases mkE_err h.ok hp.ok hp.live with e | e
  ·rw [if_pos e]
   obtain ⟨S1, h1, h2, h3, h4, h5, h6⟩ := h.make hp.ok hp.key hp.up hp.live e
   rcases mkP_law (up0 := up0 ++ [upIt s p]) h1 (fun q hq => (hf q (List.mem_cons_of_mem _ hq)).mono h4 h3) with ⟨e2, k1, k2⟩ | ⟨t, S', made, k1, k2, k3, k4, k5, k6⟩
   ·exact .inl ⟨e2, k1, k2⟩
   ·refine .inr ⟨t, S', upIt s p :: made, by rw [k1, List.append_assoc]; rfl, k2.perm ?_, h3.trans h4 k3, h4.trans k4, ?_, ⟨⟨?_, ?_, rfl, rfl, ?_, ?_⟩, k6⟩⟩
    ·exact List.perm_middle
    ·rw [k5, mkS_wl, List.length_cons]; omega
    ·show wBs t ((wGq (wBb s p) : Nat) : Int).toNat = _
     rw [Int.toNat_natCast]; exact k4.nd _ _ h5
    ·show ((wGq (wBb s p) : Nat) : Int).toNat ∈ S'
     rw [Int.toNat_natCast]; exact k3 _ h2 (by rw [h5]; simp)
    ·show (8 : Int) ≤ ((wGq (wBb s p) : Nat) : Int); omega
    ·show ((wGq (wBb s p) : Nat) : Int) < 256; omega
  ·rw [if_neg (by rcases e with e | e <;> rw [e] <;> decide)]
   exact .inl ⟨_, rfl, e⟩
theorem Ext.wS_le {s t : Sto} (h : Ext s t) (S : List Nat) (k : Int) : wS s S k ≤ wS t S k := sum_le fun n _ => by
 cases hr : wBs s n with
 | none => rw [wHp hr]; exact Nat.zero_le _
 | some r => obtain ⟨lv, ys⟩ := r; rw [wFh hr, wFh (h.nd _ _ hr)]; exact Nat.le_refl _
theorem looL_law {S : List Nat} {R : List Int} : ∀ {hs : List It} {s : Sto}, En s S (hs.map (·.ref) ++ R) → (∀ y ∈ hs, y.ref = 0 ∨ (8 ≤ y.ref ∧ y.ref < 256 ∧ 0 < wS s S y.ref)) → ∃ t, looL hs s = .ok t ∧ En t S R ∧ Ext s t ∧ t.waits = s.waits
 | [], s, h, _ => ⟨s, rfl, h, Ext.refl s, rfl⟩
 | y :: ys, s, h, hr => by
  rw [looL]
  by_cases h0 : y.ref = 0
  ·rw [if_pos h0]
   exact looL_law (h.less fun k hk => by rw [List.map_cons, List.cons_append, List.count_cons_of_ne (by omega)]; exact Nat.le_refl _) fun z hz => hr z (by simp [hz])
  ·obtain ⟨h8, h256, hw⟩ := (hr y (by simp)).resolve_left h0
   obtain ⟨e1, e2, e3⟩ := En.loose (k := y.ref) (R := ys.map (·.ref) ++ R) h ⟨h8, h256⟩
   have hx := loose_ext (k := y.ref) (R := ys.map (·.ref) ++ R) h ⟨h8, h256⟩ (by omega)
   rw [if_neg h0, if_pos e1]
   obtain ⟨t, k1, k2, k3, k4⟩ := looL_law e3 fun z hz => (hr z (by simp [hz])).imp id fun ⟨a, b, c⟩ => ⟨a, b, Nat.lt_of_lt_of_le c (hx.wS_le S _)⟩
   exact ⟨t, k1, k2, hx.trans k3, k4⟩
theorem made_has {t : Sto} {S : List Nat} {lv : Int} : ∀ {ys : List It} {ps : List (List It)}, Made t S lv ys ps → ∀ p ∈ ps, ∀ x ∈ p, 0 < wS t S x.ref
 | [], [], _, p, hp, _, _ => by cases hp
 | y :: ys, q :: ps, ⟨⟨h1, h2, _⟩, h⟩, p, hp, x, hx => by
  rcases List.mem_cons.1 hp with rfl | hp
  ·exact wS_pos h2 h1 hx
  ·exact made_has h p hp x hx
theorem parts_join (l : List It) : (wDb l).flatten = l := by
 unfold wDb; split
 ·simp [List.take_append_drop]
 ·simp
theorem build_law {s : Sto} {S : List Nat} {R : List Int} {lv : Int} {l held : List It} (h : En s S (held.map (·.ref) ++ R)) (hf : ∀ p ∈ wDb l, Fit s S lv p) (hh : ∀ y ∈ held, y.ref = 0 ∨ (8 ≤ y.ref ∧ y.ref < 256 ∧ ∃ x ∈ l, x.ref = y.ref)) :
  (∃ e, build s lv l held = .error e ∧ (e = 9 ∨ e = 70)) ∨ ∃ t S' up, build s lv l held = .ok (t, up) ∧ En t S' (up.map (·.ref) ++ R) ∧ Sub s S S' ∧ Ext s t ∧ t.waits.length = s.waits.length + (wDb l).length ∧ Made t S' lv up (wDb l) := by
 unfold build
 rcases mkP_law (up0 := []) h hf with ⟨e, k1, k2⟩ | ⟨t, S', made, k1, k2, k3, k4, k5, k6⟩
 ·rw [k1]; exact .inl ⟨e, rfl, k2⟩
 ·rw [k1, List.nil_append]
  have k2' : En t S' (held.map (·.ref) ++ (made.map (·.ref) ++ R)) := k2.perm (List.perm_append_comm_assoc _ _ _)
  obtain ⟨u, m1, m2, m3, m4⟩ := looL_law k2' fun y hy => (hh y hy).imp id fun ⟨a, b, x, hx, e⟩ => ⟨a, b, by
   rw [← parts_join l] at hx
   obtain ⟨p, hp, hxp⟩ := List.mem_flatten.1 hx
   rw [← e]; exact made_has k6 p hp x hxp⟩
  refine .inr ⟨u, S', made, ?_, m2, k3, k4.trans m3, by rw [m4]; exact k5, k6.mono m3 fun n hn _ => hn⟩
  show (match looL held t with | .error e => _ | .ok t2 => _) = _
  rw [m1]
theorem prev_ok {k : Ky} : ∀ (p : Option Ky), (∀ q, p = some q → wBe q k = true) → (match p with | none => true | some q => wBe q k) = true
 | none, _ => rfl
 | some q, h => h q rfl
theorem items_ok {ab : Bool} : ∀ {xs : List It} {p : Option Ky}, (∀ x ∈ xs, wEd x = false ∧ (ab = true → x.ref ≠ 0 ∧ x.val = [])) → Srt xs → (∀ q, p = some q → ∀ x ∈ xs, wBe q x.key = true) → wDg ab p xs = true
 | [], _, _, _, _ => rfl
 | x :: xs, p, h, hs, hp => by
  have h2 := List.pairwise_cons.1 hs
  obtain ⟨h3, h4⟩ := h x (by simp)
  have ih := items_ok (ab := ab) (xs := xs) (p := some x.key) (fun y hy => h y (List.mem_cons_of_mem _ hy)) h2.2 (fun q e y hy => by cases e; exact h2.1 y hy)
  have hk := prev_ok (k := x.key) p (fun q e => hp q e x (by simp))
  have ha : (!ab || (x.ref != 0 && x.val.length == 0)) = true := by
   cases ab with
   | false => rfl
   | true => obtain ⟨a, b⟩ := h4 rfl; simp [a, b]
  unfold wDg; rw [Bool.and_eq_true, Bool.and_eq_true, Bool.and_eq_true]; exact ⟨⟨⟨by rw [h3]; rfl, hk⟩, ha⟩, ih⟩
theorem made_all {t u : Sto} {S' : List Nat} {l : Nat} (he : Ext t u) : ∀ {up : List It} {ps : List (List It)}, Made u S' (l : Int) up ps → (∀ p ∈ ps, p ≠ [] ∧ Shp t l p ∧ ∀ x ∈ p, wDk x.key) →
  Shp u (l + 1) up ∧ wCc u (l + 1) up = wCc t l ps.flatten ∧ ∀ y ∈ up, y.val = [] ∧ (8 ≤ y.ref ∧ y.ref < 256) ∧ y.ref.toNat ∈ S' ∧ wDk y.key
 | [], [], _, _ => ⟨fun x hx => (by cases hx), rfl, fun y hy => (by cases hy)⟩
 | y :: ys, p :: ps, ⟨⟨h1, h2, h3, h4, h5⟩, h⟩, hp => by
  obtain ⟨hp1, hp2, hp3⟩ := hp p (by simp)
  obtain ⟨i1, i2, i3⟩ := made_all he h fun q hq => hp q (List.mem_cons_of_mem _ hq)
  obtain ⟨e1, e2⟩ := he.shp hp2
  refine ⟨fun x hx => ?_, ?_, fun z hz => ?_⟩
  ·rcases List.mem_cons.1 hx with rfl | hx
   ·exact ⟨p, h1, hp1, h3.symm, e1⟩
   ·exact i1 x hx
  ·rw [wFv, wCi h1, i2, e2, List.flatten_cons, wCd]
  ·rcases List.mem_cons.1 hz with rfl | hz
   ·refine ⟨h4, h5, h2, ?_⟩
    rw [h3]
    obtain ⟨z, zs, rfl⟩ := List.exists_cons_of_ne_nil hp1
    exact hp3 z (by simp)
   ·exact i3 z hz
theorem parts_sub {l p : List It} (h : p ∈ wDb l) : p.Sublist l ∧ (l.length ≤ 6 → p.length ≤ 5) := by
 unfold wDb at h
 split at h
 ·simp only [List.mem_cons, List.not_mem_nil, or_false] at h
  rcases h with rfl | rfl
  ·exact ⟨List.take_sublist _ _, fun _ => by rw [List.length_take]; omega⟩
  ·exact ⟨List.drop_sublist _ _, fun _ => by rw [List.length_drop]; omega⟩
 ·rw [List.mem_singleton.1 h]; exact ⟨List.Sublist.refl _, fun _ => by omega⟩
theorem node_law {t : Sto} {S1 : List Nat} {R : List Int} {l : Nat} {l' held : List It} (hl : l < 6) (hne : l' ≠ []) (hlen : l'.length ≤ 6) (hshp : Shp t l l') (hsrt : Srt (wCc t l l')) (hitm : ∀ y ∈ l', wEd y = false ∧ wDk y.key ∧ (0 < l → y.ref ≠ 0 ∧ y.val = [] ∧ y.ref.toNat ∈ S1))
  (he : En t S1 (held.map (·.ref) ++ R)) (hh : ∀ y ∈ held, y.ref = 0 ∨ (8 ≤ y.ref ∧ y.ref < 256 ∧ ∃ x ∈ l', x.ref = y.ref)) :
  (∃ e, build t (l : Int) l' held = .error e ∧ (e = 9 ∨ e = 70)) ∨ ∃ u S' up, build t (l : Int) l' held = .ok (u, up) ∧ En u S' (up.map (·.ref) ++ R) ∧ Sub t S1 S' ∧ Ext t u ∧ u.waits.length = t.waits.length + (wDb l').length ∧ Shp u (l + 1) up ∧ (∀ y ∈ up, y.val = [] ∧ (8 ≤ y.ref ∧ y.ref < 256) ∧ y.ref.toNat ∈ S' ∧ wDk y.key) ∧ wCc u (l + 1) up = wCc t l l' ∧ up.length = (wDb l').length := by
 have hs' := shp_srt hshp hsrt
 have hfit : ∀ p ∈ wDb l', Fit t S1 (l : Int) p := fun p hp => by
  obtain ⟨h1, h2⟩ := wJh hp
  obtain ⟨h3, h4⟩ := parts_sub hp
  refine ⟨?_, fun x hx => (hitm x (h1 x hx)).2.1, fun hl0 x hx => ?_, fun x hx h0 => ?_⟩
  ·unfold wHn
   rw [Bool.and_eq_true]
   refine ⟨decide_eq_true ⟨by omega, by omega, h4 hlen, fun _ e => h2 hne (List.eq_nil_of_length_eq_zero e)⟩, items_ok (fun x hx => ⟨(hitm x (h1 x hx)).1, fun e => ?_⟩) (List.Pairwise.sublist h3 hs') (fun q e => by cases e)⟩
   have := of_decide_eq_true e
   obtain ⟨a, b, _⟩ := (hitm x (h1 x hx)).2.2 (by omega)
   exact ⟨a, b⟩
  ·obtain ⟨_, _, c⟩ := (hitm x (h1 x hx)).2.2 (by omega)
   obtain ⟨l0, rfl⟩ : ∃ l0, l = l0 + 1 := ⟨l - 1, by omega⟩
   obtain ⟨ys, e1, _⟩ := hshp x (h1 x hx)
   exact ⟨c, ys, by rw [e1]; congr 2; omega⟩
  ·cases l with
   | zero => exact (hshp x (h1 x hx)).resolve_left h0
   | succ l0 => obtain ⟨ys, e1, _⟩ := hshp x (h1 x hx); exact wEf e1
 rcases build_law he hfit hh with h | ⟨u, S', up, k1, k2, k3, k4, k5, k6⟩
 ·exact .inl h
 ·obtain ⟨m1, m2, m3⟩ := made_all k4 k6 fun p hp => by
   obtain ⟨h1, h2⟩ := wJh hp
   exact ⟨h2 hne, hshp.sub h1, fun x hx => (hitm x (h1 x hx)).2.1⟩
  rw [parts_join] at m2
  exact .inr ⟨u, S', up, k1, k2, k3, k4, k5, m1, m3, m2, k6.len⟩
theorem srt_at {xs : List It} (h : Srt xs) {i j : Nat} (hi : i < xs.length) (hj : j < xs.length) (hij : i < j) : wBe xs[i].key xs[j].key = true := List.pairwise_iff_getElem.1 h i j hi hj hij
theorem wHr {α : Type} {xs : List α} {z : α} {k : Nat} (h : z ∈ xs.drop k) : ∃ j, ∃ hj : j < xs.length, k ≤ j ∧ xs[j] = z := by
 obtain ⟨i, hi, e⟩ := List.getElem_of_mem h
 rw [List.length_drop] at hi
 exact ⟨k + i, by omega, by omega, by rw [← e, List.getElem_drop]⟩
theorem take_at {α : Type} {xs : List α} {j k : Nat} (hj : j < xs.length) (h : j < k) : xs[j] ∈ xs.take k := by
 have : j < (xs.take k).length := by rw [List.length_take]; omega
 have e : (xs.take k)[j] = xs[j] := List.getElem_take
 rw [← e]; exact List.getElem_mem this
theorem drop_at {α : Type} {xs : List α} {j k : Nat} (hj : j < xs.length) (h : k ≤ j) : xs[j] ∈ xs.drop k := by
 have : j - k < (xs.drop k).length := by rw [List.length_drop]; omega
 have e : (xs.drop k)[j - k] = xs[j] := by rw [List.getElem_drop]; congr 1; omega
 rw [← e]; exact List.getElem_mem this
theorem isAt_key {xs : List It} {q : Ky} (h : isAt xs q = true) : ∃ hp : place xs q < xs.length, xs[place xs q].key = q := by
 have hp := wHu h
 refine ⟨hp, ?_⟩
 unfold isAt at h
 have := of_decide_eq_true h
 rw [List.getElem?_eq_getElem hp] at this
 exact Option.some.inj this
theorem isAt_no {xs : List It} {q : Ky} (h : isAt xs q = false) (hp : place xs q < xs.length) : xs[place xs q].key ≠ q := fun e => by
 unfold isAt at h
 have := of_decide_eq_false h
 rw [List.getElem?_eq_getElem hp] at this
 exact this (by rw [Option.map_some, e])
theorem way_lo {xs : List It} {q : Ky} (hs : Srt xs) (hp : wAt xs q < xs.length) (h0 : 0 < wAt xs q) : kle xs[wAt xs q].key q := by
 unfold wAt at hp h0 ⊢
 by_cases h : isAt xs q = true
 ·simp only [h, if_true] at hp ⊢
  obtain ⟨_, e⟩ := isAt_key h
  rw [e]; exact wHt _
 ·simp only [h, if_false, Bool.false_eq_true] at hp h0 ⊢
  exact wKo ((wEo hs).1 _ (take_at hp (by omega)))
theorem way_hi {xs : List It} {q : Ky} (hs : Srt xs) : ∀ z ∈ xs.drop (wAt xs q + 1), wBe q z.key = true := fun z hz => by
 obtain ⟨j, hj, hjk, rfl⟩ := wHr hz
 unfold wAt at hjk
 by_cases h : isAt xs q = true
 ·simp only [h, if_true] at hjk
  obtain ⟨hp, e⟩ := isAt_key h
  have := srt_at hs hp hj (by omega)
  rwa [e] at this
 ·simp only [h, if_false, Bool.false_eq_true] at hjk
  have hge : kle q xs[j].key := (wEo hs).2 _ (drop_at hj (by omega))
  rcases kle_eq_or hge with e | e
  ·exfalso
   have hpl : place xs q < xs.length := by omega
   by_cases hjp : j = place xs q
   ·subst hjp
    exact isAt_no (by simpa using h) hj e.symm
   ·have h1 := srt_at hs hpl hj (by omega)
    rw [← e] at h1
    have h2 := (wEo (q := q) hs).2 _ (drop_at hpl (Nat.le_refl _))
    rw [h1] at h2; cases h2
  ·exact e
theorem one_lo {s : Sto} {l : Nat} {z : It} (h : Shp s l [z]) (hs : Srt (wCm s l z)) : ∀ y ∈ wCm s l z, kle z.key y.key := fun y hy => by
 obtain ⟨y0, r, e1, e2⟩ := one_head h
 rw [e1] at hy hs
 rw [← e2]
 rcases List.mem_cons.1 hy with rfl | hy
 ·exact wHt _
 ·exact wKo ((List.pairwise_cons.1 hs).1 y hy)
theorem wGv {xs : List It} {p : Nat} (hp : p < xs.length) : xs = xs.take p ++ [xs[p]] ++ xs.drop (p + 1) := by
 rw [List.append_assoc, List.singleton_append, ← List.drop_eq_getElem_cons hp, List.take_append_drop]
theorem way_ins {s : Sto} {l : Nat} {xs : List It} {x : It} (hshp : Shp s l xs) (hsrt : Srt (wCc s l xs)) (hp : wAt xs x.key < xs.length) : wGr x (wCc s l xs) = wCc s l (xs.take (wAt xs x.key)) ++ wGr x (wCm s l xs[wAt xs x.key]) ++ wCc s l (xs.drop (wAt xs x.key + 1)) := by
 have hs := shp_srt hshp hsrt
 have e := wGv hp
 have e2 : wCc s l xs = wCc s l (xs.take (wAt xs x.key)) ++ wCm s l xs[wAt xs x.key] ++ wCc s l (xs.drop (wAt xs x.key + 1)) := by
  conv => lhs; rw [e]
  rw [wCd, wCd, wFc]
 rw [e2] at hsrt ⊢
 have h1 := List.pairwise_append.1 hsrt
 have h2 := List.pairwise_append.1 h1.1
 refine wKf (fun y hy => ?_) (fun y hy => ?_)
 ·have h0 : 0 < wAt xs x.key := Nat.pos_of_ne_zero fun e0 => by rw [e0] at hy; simp [wCc] at hy
  obtain ⟨a, ha, e3⟩ := one_mem (hshp.one (x := xs[wAt xs x.key]) (List.getElem_mem hp))
  have h3 := h2.2.2 y hy a ha
  rw [e3] at h3
  exact kl_le h3 (way_lo hs hp h0)
 ·obtain ⟨z, hz, hyz⟩ := List.mem_flatMap.1 hy
  have hzx : z ∈ xs := List.mem_of_mem_drop hz
  have hsz : Srt (wCm s l z) := by
   obtain ⟨A, B, hAB⟩ := List.append_of_mem hz
   have h5 := h1.2.1
   rw [hAB, wCd, wFv] at h5
   exact (List.pairwise_append.1 (List.pairwise_append.1 h5).2.1).1
  exact kl_le (way_hi hs z hz) (one_lo (hshp.one hzx) hsz y hyz)
theorem rep_leaf {xs : List It} {x : It} (hs : Srt xs) : repF ⟨0, xs, place xs x.key⟩ x.key [x] = wGr x xs ∧ (isAt xs x.key = true → wGx ⟨0, xs, place xs x.key⟩ x.key = 1) := by
 obtain ⟨hA, hD⟩ := wEo (q := x.key) hs
 have hone : ∀ y : It, y.key = x.key → wGr x [y] = [x] := fun y e => by
  unfold wGr; rw [List.filter_cons_of_neg (by rw [e, wJm]; decide), List.filter_cons_of_neg (by rw [e, wJm]; decide)]; rfl
 have hnil : wGr x [] = [x] := rfl
 by_cases hp : place xs x.key < xs.length
 ·have hd : xs.drop (place xs x.key) = xs[place xs x.key] :: xs.drop (place xs x.key + 1) := List.drop_eq_getElem_cons hp
  have hgt : ∀ y ∈ xs.drop (place xs x.key + 1), wBe xs[place xs x.key].key y.key = true := fun y hy => by
   obtain ⟨j, hj, hjk, rfl⟩ := wHr hy
   exact srt_at hs hp hj (by omega)
  by_cases he : xs[place xs x.key].key = x.key
  ·have hm : wGx ⟨0, xs, place xs x.key⟩ x.key = 1 := by
    unfold wGx; show (match xs[place xs x.key]? with | none => 0 | some y => if (0 : Int) = 0 ∧ y.key ≠ x.key then 0 else 1) = 1
    rw [List.getElem?_eq_getElem hp]; exact if_neg fun h => h.2 he
   refine ⟨?_, fun _ => hm⟩
   unfold repF; rw [hm]
   show xs.take _ ++ [x] ++ xs.drop _ = _
   conv => rhs; rw [wGv hp]
   rw [wKf hA (fun y hy => by have := hgt y hy; rwa [he] at this), hone _ he]
  ·have hm : wGx ⟨0, xs, place xs x.key⟩ x.key = 0 := by
    unfold wGx; show (match xs[place xs x.key]? with | none => 0 | some y => if (0 : Int) = 0 ∧ y.key ≠ x.key then 0 else 1) = 0
    rw [List.getElem?_eq_getElem hp]; exact if_pos ⟨rfl, he⟩
   have hlt : wBe x.key xs[place xs x.key].key = true := (kle_eq_or (show kle x.key xs[place xs x.key].key from hD _ (drop_at hp (Nat.le_refl _)))).resolve_left fun e => he e.symm
   refine ⟨?_, fun hat => by obtain ⟨_, e⟩ := isAt_key hat; exact absurd e he⟩
   unfold repF; rw [hm]
   show xs.take _ ++ [x] ++ xs.drop (place xs x.key) = _
   have e : wGr x xs = wGr x (xs.take (place xs x.key) ++ [] ++ xs.drop (place xs x.key)) := by rw [List.append_nil, List.take_append_drop]
   rw [e, wKf hA (fun y hy => ?_), hnil]
   rw [hd] at hy
   rcases List.mem_cons.1 hy with rfl | hy
   ·exact hlt
   ·exact wMf hlt (hgt y hy)
 ·have hn : xs.drop (place xs x.key) = [] := List.drop_eq_nil_of_le (by omega)
  have hm : wGx ⟨0, xs, place xs x.key⟩ x.key = 0 := by
   unfold wGx; show (match xs[place xs x.key]? with | none => 0 | some y => if (0 : Int) = 0 ∧ y.key ≠ x.key then 0 else 1) = 0
   rw [List.getElem?_eq_none (by omega)]
  refine ⟨?_, fun hat => absurd (wHu hat) hp⟩
  unfold repF; rw [hm]
  show xs.take _ ++ [x] ++ xs.drop (place xs x.key) = _
  have e : wGr x xs = wGr x (xs.take (place xs x.key) ++ [] ++ xs.drop (place xs x.key)) := by rw [List.append_nil, List.take_append_drop]
  rw [e, wKf hA (fun y hy => by rw [hn] at hy; cases hy), hnil]
def lastAt (ws : List Stp) (q : Ky) : Bool := match ws.getLast? with | some w => isAt w.xs q | none => false
def fullW (ws : List Stp) (q : Ky) : Prop := (∀ w ∈ ws, ¬ w.xs.length < 5) ∧ lastAt ws q = false
theorem ndOk_items {s : Sto} {k : Nat} {lv : Int} {xs : List It} (h : wBs s k = some (lv, xs)) : ∀ y ∈ xs, wEd y = false ∧ wDk y.key ∧ (0 < lv → y.ref ≠ 0 ∧ y.val = []) := fun y hy => by
 have hno := wBm h
 obtain ⟨a, b⟩ := wDv hno.ok y hy
 exact ⟨a, wHq h y hy, fun hl => b (by simpa using hl)⟩
theorem up_bad {y : It} (h : y.val = [] ∧ (8 ≤ y.ref ∧ y.ref < 256)) : wEd y = false := by
 unfold wEd; rw [decide_eq_false]; rw [h.1]; simp; omega
theorem grw_law {s : Sto} {x : It} {S : List Nat} {R : List Int} (hx : wEd x = false) (hkx : wDk x.key) (hxl : x.ref ≠ 0 → ¬ s.now.getD x.ref.toNat 0 = 0) (he : En s S (x.ref :: R)) : ∀ (l : Nat) (xs : List It) (k : Nat), wBs s k = some ((l : Int), xs) → k ∈ S → Shp s l xs → Srt (wCc s l xs) →
  (∃ e, grw s x (wCe s x.key l xs) = .error e ∧ (e = 9 ∨ e = 70)) ∨ ∃ t S' up, grw s x (wCe s x.key l xs) = .ok (t, up) ∧ En t S' (up.map (·.ref) ++ R) ∧ Sub s S S' ∧ Ext s t ∧ t.waits.length ≤ s.waits.length + 2 * (l + 1) ∧ Shp t (l + 1) up ∧ (∀ y ∈ up, y.val = [] ∧ (8 ≤ y.ref ∧ y.ref < 256) ∧ y.ref.toNat ∈ S' ∧ wDk y.key) ∧ wCc t (l + 1) up = wGr x (wCc s l xs) ∧ 0 < up.length ∧ up.length ≤ 2 ∧ (up.length = 2 → fullW (wCe s x.key l xs) x.key)
 | 0, xs, k, hnd, hkS, hshp, hsrt => by
  rw [wDq] at hsrt
  obtain ⟨hrep, hat⟩ := rep_leaf (x := x) hsrt
  have hno := wBm hnd
  have hxs := ndOk_items hnd
  have hg : grw s x (wCe s x.key 0 xs) = build s 0 (wGr x xs) [x] := by
   rw [← hrep]; rfl
  have hmem : ∀ y ∈ wGr x xs, y ∈ xs ∨ y = x := fun y hy => by
   unfold wGr at hy
   rcases List.mem_append.1 hy with hy | hy
   ·exact .inl (List.mem_filter.1 hy).1
   ·rcases List.mem_cons.1 hy with hy | hy
    ·exact .inr hy
    ·exact .inl (List.mem_filter.1 hy).1
  have hxin : x ∈ wGr x xs := List.mem_append_right _ (by simp)
  have hlen : (wGr x xs).length ≤ 6 ∧ ((wGr x xs).length = 6 → xs.length = 5 ∧ isAt xs x.key = false) := by
   have hl5 := hno.len
   have hpl := wLt xs x.key
   have hcount : (wGr x xs).length = (xs.take (place xs x.key)).length + 1 + (xs.drop (place xs x.key + wGx ⟨0, xs, place xs x.key⟩ x.key)).length := by
    rw [← hrep]; unfold repF; simp only [List.length_append]; rfl
   rw [List.length_take, List.length_drop] at hcount
   refine ⟨by omega, fun h6 => ⟨by omega, ?_⟩⟩
   cases hb : isAt xs x.key with
   | false => rfl
   | true => have h1 := hat hb; have h2 := wHu hb; omega
  have hbx := of_decide_eq_false (show decide _ = false from hx)
  have hnl := node_law (t := s) (S1 := S) (R := R) (l := 0) (l' := wGr x xs) (held := [x]) (by omega) (List.ne_nil_of_mem hxin) hlen.1 (fun y hy => (hmem y hy).elim (fun h => hshp y h) (fun h => by rw [h]; exact (Classical.em (x.ref = 0)).imp id hxl)) (by rw [wDq]; exact insL_srt hsrt)
   (fun y hy => ⟨(hmem y hy).elim (fun h => (hxs y h).1) (fun h => by rw [h]; exact hx), (hmem y hy).elim (fun h => (hxs y h).2.1) (fun h => by rw [h]; exact hkx), fun h => absurd h (by omega)⟩) he
   (fun y hy => by
    rw [List.mem_singleton.1 hy]
    by_cases h0 : x.ref = 0
    ·exact .inl h0
    ·exact .inr ⟨by omega, by omega, x, hxin, rfl⟩)
  rw [hg]
  rcases hnl with h | ⟨u, S', up, k1, k2, k3, k4, k5, k6, k7, k8, k9⟩
  ·exact .inl h
  ·have hpl := wJi (wGr x xs)
   have k5' : u.waits.length ≤ s.waits.length + 2 := by rw [k5, hpl]; split <;> omega
   refine .inr ⟨u, S', up, k1, k2, k3, k4, by omega, k6, k7, by rw [k8, wDq, wDq], ?_, ?_, fun h2 => ?_⟩
   ·rw [k9, hpl]; split <;> omega
   ·rw [k9, hpl]; split <;> omega
   ·rw [k9, hpl] at h2
    have h6 : (wGr x xs).length = 6 := by
     have := hlen.1
     by_cases h5 : 5 < (wGr x xs).length
     ·omega
     ·rw [if_neg h5] at h2; omega
    obtain ⟨a, b⟩ := hlen.2 h6
    refine ⟨fun w hw => ?_, b⟩
    rw [show wCe s x.key 0 xs = [⟨0, xs, place xs x.key⟩] from rfl] at hw
    rw [List.mem_singleton.1 hw]; show ¬ xs.length < 5; omega
 | l + 1, xs, k, hnd, hkS, hshp, hsrt => by
  have hno := wBm hnd
  have hne := wJk hnd (by omega)
  have hp := wAt_lt (q := x.key) hne
  have hxs := ndOk_items hnd
  obtain ⟨ys, hy1, hy2, hy3, hy4⟩ := hshp _ (List.getElem_mem hp)
  obtain ⟨hcS, _⟩ := he.closed k hkS _ _ hnd (by omega) _ (List.getElem_mem hp)
  have hkid : kid s xs[wAt xs x.key] = ys := by unfold kid; rw [hy1]
  have hway : wCe s x.key (l + 1) xs = ⟨((l + 1 : Nat) : Int), xs, wAt xs x.key⟩ :: wCe s x.key l ys := by
   rw [wCe, List.getElem?_eq_getElem hp]; show _ :: wCe s x.key l (kid s xs[wAt xs x.key]) = _; rw [hkid]
  have hins := way_ins hshp hsrt hp
  have hsy : Srt (wCc s l ys) := by
   have e := wGv hp
   rw [e, wCd, wCd, wFc] at hsrt
   have := (List.pairwise_append.1 (List.pairwise_append.1 hsrt).1).2.1
   rwa [wCi hy1] at this
  rw [wCi hy1] at hins
  have hm : wGx ⟨((l + 1 : Nat) : Int), xs, wAt xs x.key⟩ x.key = 1 := by
   unfold wGx
   show (match xs[wAt xs x.key]? with | none => 0 | some y => if ((l + 1 : Nat) : Int) = 0 ∧ y.key ≠ x.key then 0 else 1) = 1
   rw [List.getElem?_eq_getElem hp]; exact if_neg fun h => by omega
  rw [hway]
  rcases grw_law hx hkx hxl he l ys _ hy1 hcS hy4 hsy with ⟨e, h1, h2⟩ | ⟨t, S1, up, h1, h2, h3, h4, h5, h6, h7, h8, h9, h10, h11⟩
  ·exact .inl ⟨e, by rw [grw, h1], h2⟩
  ·have hgr : grw s x (⟨((l + 1 : Nat) : Int), xs, wAt xs x.key⟩ :: wCe s x.key l ys) = build t ((l + 1 : Nat) : Int) (repF ⟨((l + 1 : Nat) : Int), xs, wAt xs x.key⟩ x.key up) up := by rw [grw, h1]
   rw [hgr]
   have hrep : repF ⟨((l + 1 : Nat) : Int), xs, wAt xs x.key⟩ x.key up = xs.take (wAt xs x.key) ++ up ++ xs.drop (wAt xs x.key + 1) := by
    unfold repF; rw [hm]
   rw [hrep]
   obtain ⟨a1, a2⟩ := h4.shp (hshp.sub (ys := xs.take (wAt xs x.key)) fun y hy => List.mem_of_mem_take hy)
   obtain ⟨c1, c2⟩ := h4.shp (hshp.sub (ys := xs.drop (wAt xs x.key + 1)) fun y hy => List.mem_of_mem_drop hy)
   have hall : wCc t (l + 1) (xs.take (wAt xs x.key) ++ up ++ xs.drop (wAt xs x.key + 1)) = wGr x (wCc s (l + 1) xs) := by
    rw [wCd, wCd, a2, c2, h8, hins]
   have hmem : ∀ y ∈ xs.take (wAt xs x.key) ++ up ++ xs.drop (wAt xs x.key + 1), y ∈ xs ∨ y ∈ up := fun y hy => by
    rcases List.mem_append.1 hy with hy | hy
    ·rcases List.mem_append.1 hy with hy | hy
     ·exact .inl (List.mem_of_mem_take hy)
     ·exact .inr hy
    ·exact .inl (List.mem_of_mem_drop hy)
   have hlen : (xs.take (wAt xs x.key) ++ up ++ xs.drop (wAt xs x.key + 1)).length + 1 = xs.length + up.length := by
    simp only [List.length_append, List.length_take, List.length_drop]; omega
   have hl5 := hno.len
   have hupm : ∀ y ∈ up, y ∈ xs.take (wAt xs x.key) ++ up ++ xs.drop (wAt xs x.key + 1) := fun y hy => List.mem_append_left _ (List.mem_append_right _ hy)
   have hnl := node_law (t := t) (S1 := S1) (R := R) (l := l + 1) (l' := xs.take (wAt xs x.key) ++ up ++ xs.drop (wAt xs x.key + 1)) (held := up) (by have := hno.lev; omega) (fun e => by
     obtain ⟨y, hy⟩ := List.exists_mem_of_length_pos h9
     have := hupm y hy; rw [e] at this; cases this) (by omega) ((a1.app h6).app c1) (by rw [hall]; exact insL_srt hsrt)
    (fun y hy => (hmem y hy).elim (fun h => ⟨(hxs y h).1, (hxs y h).2.1, fun _ => by
      obtain ⟨b1, b2⟩ := (hxs y h).2.2 (by omega)
      obtain ⟨d1, zs, d2⟩ := he.closed k hkS _ _ hnd (by omega) y h
      exact ⟨b1, b2, h3 _ d1 (by rw [d2]; simp)⟩⟩) (fun h => by
      obtain ⟨b1, b2, b3, b4⟩ := h7 y h
      exact ⟨up_bad ⟨b1, b2⟩, b4, fun _ => ⟨by omega, b1, b3⟩⟩)) h2
    (fun y hy => .inr ⟨(h7 y hy).2.1.1, (h7 y hy).2.1.2, y, hupm y hy, rfl⟩)
   rcases hnl with ⟨e, k1, k2⟩ | ⟨u, S', up2, k1, k2, k3, k4, k5, k6, k7, k8, k9⟩
   ·exact .inl ⟨e, k1, k2⟩
   ·have hpl := wJi (xs.take (wAt xs x.key) ++ up ++ xs.drop (wAt xs x.key + 1))
    have k5' : u.waits.length ≤ t.waits.length + 2 := by rw [k5, hpl]; split <;> omega
    refine .inr ⟨u, S', up2, k1, k2, h3.trans h4 k3, h4.trans k4, by omega, k6, k7, by rw [k8, hall], ?_, ?_, fun h2' => ?_⟩
    ·rw [k9, hpl]; split <;> omega
    ·rw [k9, hpl]; split <;> omega
    ·rw [k9, hpl] at h2'
     have h6' : 5 < (xs.take (wAt xs x.key) ++ up ++ xs.drop (wAt xs x.key + 1)).length := Classical.byContradiction fun h => by rw [if_neg h] at h2'; omega
     have hu2 : up.length = 2 ∧ xs.length = 5 := by omega
     obtain ⟨f1, f2⟩ := h11 hu2.1
     refine ⟨fun w hw => ?_, ?_⟩
     ·rcases List.mem_cons.1 hw with rfl | hw
      ·show ¬ xs.length < 5; omega
      ·exact f1 w hw
     ·unfold lastAt at f2 ⊢
      have hwn : wCe s x.key l ys ≠ [] := fun e => by have := wHo (s := s) (q := x.key) l ys; rw [e] at this; cases this
      obtain ⟨w0, ws0, e0⟩ := List.exists_cons_of_ne_nil hwn
      rw [e0] at f2 ⊢
      rw [List.getLast?_cons_cons]; exact f2
theorem Thin.tree {u t : Sto} {S : List Nat} {R : List Int} (h : Thin u t) (he : En t S R) {r : Int} (hr : r ∈ R) (hb : 8 ≤ r ∧ r < 256) (hS : r.toNat ∈ S) {l : Nat} {xs : List It} (hnd : wBs u r.toNat = some ((l : Int), xs)) (hs : Shp u l xs) :
  wBs t r.toNat = some ((l : Int), xs) ∧ Shp t l xs ∧ wCc t l xs = wCc u l xs := by
 have hc : 0 < R.count r := List.count_pos_iff.2 hr
 have hlive := he.live (k := r) (by omega) hb.2 (by omega)
 have hnd2 : wBs t r.toNat = some ((l : Int), xs) := by rw [h.nd hlive]; exact hnd
 have hno := wBm hnd2
 refine ⟨hnd2, h.shp he hs fun x hx => ⟨fun hl => ?_, fun hl h0 => ?_⟩⟩
 ·obtain ⟨a, zs, b⟩ := he.closed _ hS _ _ hnd2 (by omega) x hx
  exact ⟨a, by rw [b]; simp⟩
 ·have := hno.ref x hx
  exact he.live (by omega) (by omega) (by have := wS_pos hS hnd2 hx; omega)
theorem fchk_of {t : Sto} {r : Int} {l : Nat} {xs : List It} (hst : wCx t) (hb : 8 ≤ r ∧ r < 256) (hnd : wBs t r.toNat = some ((l : Int), xs)) (ht : wBy t l xs) : wCj t r = ((l : Int) + 1, 0) ∧ wKk t r = wCc t l xs := by
 refine ⟨?_, by unfold wKk; rw [hnd]; rfl⟩
 rw [wLf hst (by omega) (wEf hnd), hnd]
 show (if wBy t ((l : Int)).toNat xs then (((l : Int) + 1), (0 : Int)) else (0, 8)) = _
 rw [Int.toNat_natCast, if_pos ht]
theorem wJw {s : Sto} {l : Nat} {xs : List It} (h : wBy s l xs) : Srt (wCc s l xs) := (tree_l h).srt
theorem tree_stays {s u t : Sto} {S S' : List Nat} {R : List Int} (hx : Ext s u) (hs : Sub s S S') (h : Thin u t) (he : En t S' R) {r : Int} (hr : r ∈ R) (hS : r.toNat ∈ S) (hf : (wCj s r).2 = 0) : wCj t r = wCj s r ∧ wKk t r = wKk s r ∧ r.toNat ∈ S' := by
 obtain ⟨hst, h8, h256, hnz, lev, xs, hnd, ht, h1⟩ := wCb hf
 have hS' := hs _ hS (by rw [hnd]; simp)
 obtain ⟨e1, e2⟩ := hx.shp (shp_of ht)
 obtain ⟨k1, k2, k3⟩ := h.tree he hr ⟨h8, h256⟩ hS' (hx.nd _ _ hnd) e1
 have hsrt : Srt (wCc t lev xs) := by rw [k3, e2]; exact wJw ht
 obtain ⟨f1, f2⟩ := fchk_of he.ok ⟨h8, h256⟩ k1 (tree_of k2 hsrt)
 refine ⟨?_, ?_, hS'⟩
 ·rw [f1, ← h1]; exact Prod.ext rfl hf.symm
 ·rw [f2, k3, e2]; unfold wKk; rw [hnd]; rfl
structure PutOk (s t : Sto) (root now : Int) (x : It) (R : List Int) (S S' : List Nat) : Prop where
 en : En t S' (now :: R)
 inS : now.toNat ∈ S'
 rng : 8 ≤ now ∧ now < 256
 chk : (wCj t now).2 = 0
 high : (wCj t now).1 = (wCj s root).1 ∨ (wCj t now).1 = (wCj s root).1 + 1
 all : wKk t now = wGr x (wKk s root)
 other : ∀ r ∈ R, r.toNat ∈ S → (wCj s r).2 = 0 → wCj t r = wCj s r ∧ wKk t r = wKk s r ∧ r.toNat ∈ S'
 waits : (t.waits.length : Int) ≤ s.waits.length + 2 * (wCj s root).1 + 1
theorem tallF_no {ws : List Stp} {q : Ky} (h : ¬ wHy ws q = true) (hf : fullW ws q) : ws.length ≠ 6 := fun e => by
 apply h
 have h1 : (ws.any fun w => decide (w.xs.length < 5)) = false := by
  rw [List.any_eq_false]; intro w hw; simpa using hf.1 w hw
 have h3 : wHy ws q = (ws.length == 6 && !(ws.any fun w => decide (w.xs.length < 5)) && !lastAt ws q) := rfl
 rw [h3, h1, hf.2, e]; rfl
theorem put_end {s u : Sto} {S S' : List Nat} {R : List Int} {root : Int} {x y : It} {lev l : Nat} {xs0 : List It} (hf : (wCj s root).2 = 0) (hS : root.toNat ∈ S) (hnd0 : wBs s root.toNat = some ((lev : Int), xs0)) (h1 : (wCj s root).1 = (lev : Int) + 1) (hl : l = lev ∨ l = lev + 1)
  (he : En u S' (y.ref :: root :: R)) (hs : Sub s S S') (hx : Ext s u) (hw : u.waits.length ≤ s.waits.length + 2 * (lev + 1) + 1) (hshp : Shp u (l + 1) [y]) (hy : (8 ≤ y.ref ∧ y.ref < 256) ∧ y.ref.toNat ∈ S') (hall : wCc u (l + 1) [y] = wGr x (wCc s lev xs0)) (hsrt : Srt (wCc s lev xs0)) :
  ∃ t, wGt u root = some t ∧ PutOk s t root y.ref x R S S' := by
 obtain ⟨hst, h8, h256, _, _⟩ := wCb hf
 have hS' := hs _ hS (by rw [hnd0]; simp)
 obtain ⟨t, k1, k2, k3⟩ := leave_tree (he.perm (List.Perm.swap _ _ _)) ⟨h8, h256⟩ hS' (hx.nd _ _ hnd0)
 obtain ⟨ps, e1, e2, e3, e4⟩ := hshp y (by simp)
 obtain ⟨m1, m2, m3⟩ := k3.tree k2 (r := y.ref) (by simp) hy.1 hy.2 e1 e4
 have hall2 : wCc u l ps = wGr x (wCc s lev xs0) := by rw [← wCi e1, ← wFc]; exact hall
 have hsrt2 : Srt (wCc t l ps) := by rw [m3, hall2]; exact insL_srt hsrt
 obtain ⟨f1, f2⟩ := fchk_of k2.ok hy.1 m1 (tree_of m2 hsrt2)
 have hat : wKk s root = wCc s lev xs0 := by unfold wKk; rw [hnd0]; rfl
 refine ⟨t, k1, k2, hy.2, hy.1, by rw [f1], ?_, by rw [f2, m3, hall2, hat], fun r hr hrS hrf => tree_stays hx hs k3 k2 (by simp [hr]) hrS hrf, ?_⟩
 ·rw [f1, h1]
  rcases hl with rfl | rfl
  ·exact .inl rfl
  ·right; show ((lev + 1 : Nat) : Int) + 1 = _; omega
 ·rw [k3.waits, h1]; omega
theorem put_law {s : Sto} {S : List Nat} {R : List Int} {root : Int} {x : It} (hask : wFt s root x = 0) (hkx : wDk x.key) (he : En s S (x.ref :: root :: R)) (hS : root.toNat ∈ S) :
  (∃ e, putF s root x = .error e ∧ (e = 9 ∨ e = 70 ∨ e = 120)) ∨ ∃ t now S', putF s root x = .ok (t, now) ∧ PutOk s t root now x R S S' := by
 obtain ⟨hf, hic, hxl⟩ := putAsk_ok hask
 obtain ⟨hst, h8, h256, _, lev, xs0, hnd0, ht0, h1⟩ := wCb hf
 have hshp := shp_of ht0
 have hsrt := wJw ht0
 have hlv := (wBm hnd0).lev
 rw [putF_in hask hnd0]
 by_cases htall : wHy (wCe s x.key lev xs0) x.key = true
 ·exact .inl ⟨120, putIn_tall htall, .inr (.inr rfl)⟩
 ·rcases grw_law (R := root :: R) (wDo hic) hkx hxl he lev xs0 _ hnd0 hS hshp hsrt with ⟨e, k1, k2⟩ | ⟨t, S1, up, k1, k2, k3, k4, k5, k6, k7, k8, k9, k10, k11⟩
  ·exact .inl ⟨e, putIn_grw htall k1, k2.imp id .inl⟩
  ·by_cases h2 : 1 < up.length
   ·have hu2 : up.length = 2 := by omega
    have hn6 := tallF_no htall (k11 hu2)
    rw [wHo] at hn6
    have hnl := node_law (t := t) (S1 := S1) (R := root :: R) (l := lev + 1) (l' := up) (held := up) (by omega) (fun e => by rw [e] at h2; exact absurd h2 (by decide)) (by omega) k6 (by rw [k8]; exact insL_srt hsrt)
     (fun y hy => by
      obtain ⟨b1, b2, b3, b4⟩ := k7 y hy
      exact ⟨up_bad ⟨b1, b2⟩, b4, fun _ => ⟨by omega, b1, b3⟩⟩) k2 (fun y hy => .inr ⟨(k7 y hy).2.1.1, (k7 y hy).2.1.2, y, hy, rfl⟩)
    have htop : putTop x ((wCe s x.key lev xs0).length : Int) (grw s x (wCe s x.key lev xs0)) = build t ((lev + 1 : Nat) : Int) up up := by
     rw [k1, wHo]; exact if_pos h2
    rcases hnl with ⟨e, m1, m2⟩ | ⟨u, S', up2, m1, m2, m3, m4, m5, m6, m7, m8, m9⟩
    ·exact .inl ⟨e, putIn_top htall (htop.trans m1), m2.imp id .inl⟩
    ·have hpl : (wDb up).length = 1 := by rw [wJi, if_neg (by omega)]
     rw [hpl] at m9 m5
     obtain ⟨y, rfl⟩ := List.length_eq_one_iff.1 m9
     obtain ⟨b1, b2, b3, b4⟩ := m7 y (by simp)
     obtain ⟨v, n1, n2⟩ := put_end (x := x) hf hS hnd0 h1 (.inr rfl) m2 (k3.trans k4 m3) (k4.trans m4) (by omega) m6 ⟨b2, b3⟩ (m8.trans k8) hsrt
     exact .inr ⟨v, y.ref, S', putIn_ok htall (htop.trans m1) n1, n2⟩
   ·obtain ⟨y, rfl⟩ := List.length_eq_one_iff.1 (show up.length = 1 by omega)
    obtain ⟨b1, b2, b3, b4⟩ := k7 y (by simp)
    have htop : putTop x ((wCe s x.key lev xs0).length : Int) (grw s x (wCe s x.key lev xs0)) = .ok (t, [y]) := by
     rw [k1]; show (if 1 < [y].length then build t ((wCe s x.key lev xs0).length : Int) [y] [y] else .ok (t, [y])) = _; exact if_neg h2
    obtain ⟨v, n1, n2⟩ := put_end (x := x) hf hS hnd0 h1 (.inl rfl) k2 k3 k4 (by omega) k6 ⟨b2, b3⟩ k8 hsrt
    exact .inr ⟨v, y.ref, S1, putIn_ok htall htop n1, n2⟩
end Go.Proofs.YtckdncmjkloebaaGreat
