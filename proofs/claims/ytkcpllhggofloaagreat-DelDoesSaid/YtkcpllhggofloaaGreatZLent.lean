/- Walks: a node read on a bench that is written. No statement of the seat is proved here. -/
import Derived.Test.YtkcpllhggofloaaGreatZMake
namespace Go.Proofs.YtkcpllhggofloaaGreat
set_option linter.unusedSimpArgs false
set_option linter.unusedVariables false
set_option linter.unusedSectionVars false
open Go.RowKit
def shE (s : Sto) : List It → Int
 | [] => 0
 | x :: xs => if x.ref = 0 then shE s xs else if wCk s x.ref.toNat = 0 then shE (wCs s x.ref.toNat) xs else wCk s x.ref.toNat
theorem shE_on {s : Sto} {xs : List It} {k : Nat} (h : k < xs.length) : shE (wAx s (xs.take k)) (xs.drop k) = if xs[k].ref = 0 then shE (wAx s (xs.take (k + 1))) (xs.drop (k + 1)) else if wCk (wAx s (xs.take k)) xs[k].ref.toNat = 0 then shE (wAx s (xs.take (k + 1))) (xs.drop (k + 1)) else wCk (wAx s (xs.take k)) xs[k].ref.toNat := by
 rw [List.drop_eq_getElem_cons h, shE, wGi h]
 split
 ·rfl
 rfl
def mkE (s : Sto) (lv : Int) (xs : List It) : Int := if wEv lv xs = true then (if shE s xs = 0 then (if wEt (wAx s xs) = 256 ∨ s.waits.length = 4096 then 9 else 0) else shE s xs) else 8
theorem frAt_le (s : Sto) : ∀ (f k : Nat), frAt s f k ≤ k + f
 | 0, k => Nat.le_refl _
 | f + 1, k => by
  rw [frAt]; split
  ·omega
  have := frAt_le s f (k + 1); omega
theorem nwform {lv : Int} {xs : List It} {u : Value} {M' : Mem} (h : if wEv lv xs then ∃ s, u = .tuple #[s, .int .i64 0] ∧ BS M' s (ndB lv xs) else u = .tuple #[.slice none 0 0, .int .i64 8]) :
  ∃ a n c e, u = .tuple #[.slice a n c, .int .i64 e] ∧ ((e = 0 ∧ wEv lv xs = true ∧ n = (ndB lv xs).length ∧ BS M' (.slice a (ndB lv xs).length c) (ndB lv xs)) ∨ (e = 8 ∧ ¬ wEv lv xs = true)) := by
 split at h
 ·rename_i hok
  obtain ⟨s, rfl, a, c, rfl, h1, h2⟩ := h
  exact ⟨a, _, c, 0, rfl, .inl ⟨rfl, hok, rfl, a, c, rfl, h1, h2⟩⟩
 rename_i hno
 exact ⟨none, 0, 0, 8, h, .inr ⟨rfl, hno⟩⟩
theorem BS.cap_le {M : Mem} {a : Option Addr} {n c : Nat} {xs : List By} (h : BS M (.slice a n c) xs) : xs.length ≤ c := by
 obtain ⟨_, _, e, h1, _⟩ := h
 cases e; exact h1
theorem mkAt_le (s : Sto) : wEt s ≤ 256 := frAt_le s 248 8
theorem shareE_nz {s : Sto} {k : Nat} (h : ¬ wCk s k = 0) : (s.now.getD k 0 = 0 ∧ wCk s k = 6) ∨ (s.now.getD k 0 = 255 ∧ wCk s k = 70) := by
 unfold wCk at h ⊢
 by_cases h1 : s.now.getD k 0 = 0
 ·exact .inl ⟨h1, by rw [if_pos h1]⟩
 rw [if_neg h1] at h ⊢
 by_cases h2 : s.now.getD k 0 = 255
 ·exact .inr ⟨h2, by rw [if_pos h2]⟩
 rw [if_neg h2] at h; exact absurd rfl h
theorem share_bad (s : Sto) (k bb : Nat) (hk : k < s.now.length) (he : ¬ wCk s k = 0) (bv wv lv : Value) (na : Option Addr) (nc : Nat) (Rw Rn : Lc) (M : Mem) (hnow : Own (.slice na s.now.length nc) Rn 5 1 s.now.length (wAj s.now)) :
  SpecL Tryz.prog 41 #[.pointer (some ⟨bb, 0, none⟩), .int .i64 k] M ((bb, .cells [bv, wv, .slice na s.now.length nc, lv].toArray TBn (0, 0)) :: (Rw ++ Rn)) fun u M' L' => u = .int .i64 (wCk s k) := by
 have hgn : (wAj s.now)[k]? = some (.int .u8 ((s.now.getD k 0).toNat : Int)) := wHy hk
 obtain ⟨ng, ncap, ncur, e0, e1, _⟩ := hnow.open (by omega)
 cases e0; cases e1
 have hz := shareE_nz he
 have hlt := (s.now.getD k 0).toNat_lt
 refine wAf (vs := [_, _]) 27 _ Tryz.func41 rfl Tryz.ntmps41 rfl rfl ?_; intro W
 refine wAb (wAa (jp rfl (wAc (jT (wAb (wAb (wAa (jp rfl (wAi rfl rfl (wBw rfl rfl rfl) ?_)))))))))
 refine sFa rfl ?_
 refine sFL rfl rfl ?_
 refine jp rfl (wAi rfl rfl (wBe rfl rfl rfl rfl (by omega)) ?_)
 refine wAi rfl rfl (qLd rfl rfl rfl rfl (by rw [Nat.mul_one, Nat.zero_add]; exact hnow.cj (by simp) hgn)) ?_
 refine wAc (jT (wAh (wAb (wAa (js rfl (fun h14 => ?_) (fun h14 => ?_))))))
 ·refine jp rfl (wAc (jT (wAg rfl (wAb (wAa (jp rfl (wAc (jT (wAe (jBr (jTr (jr1 rfl rfl ?_))))))))))))
  rcases hz with ⟨_, h0⟩ | ⟨h0, _⟩
  ·rw [h0]
  rw [h0] at h14; cases h14
 refine jp rfl (wAc (jT (wAk rfl (wAb (wAa (js rfl (fun h16 => ?_) (fun h16 => ?_)))))))
 ·refine jp rfl (wAc (jT (wAg rfl (wAb (wAa (jp rfl (wAc (jT (wAe (jBr (jTr (jr1 rfl rfl ?_))))))))))))
  rcases hz with ⟨h0, _⟩ | ⟨_, h0⟩
  ·exact absurd (by rw [h0]; rfl) h14
  rw [h0]
 exfalso; rcases hz with ⟨h0, _⟩ | ⟨h0, _⟩
 ·exact h14 (by rw [h0]; rfl)
 exact h16 (by rw [h0]; rfl)
theorem share_any (s : Sto) (k bb : Nat) (hk : k < s.now.length) (M : Mem) (Lb : Lc) (h : BOwn M bb Lb s) : SpecL Tryz.prog 41 #[.pointer (some ⟨bb, 0, none⟩), .int .i64 k] M Lb fun u M' L' => u = .int .i64 (wCk s k) ∧ (wCk s k = 0 → BOwn M' bb L' (wCs s k)) := by
 by_cases he : wCk s k = 0
 ·exact (share_spec s k bb hk he M Lb h).mono fun u M' L' ⟨e1, e2⟩ => ⟨by rw [he]; exact e1, fun _ => e2⟩
 obtain ⟨bv, wv, na, nc, lv, Rw, Rn, rfl, h2, h3, h4, h5⟩ := h
 exact (share_bad s k bb hk he bv wv lv na nc Rw Rn M h4).mono fun u M' L' e1 => ⟨e1, fun h => absurd h he⟩
set_option maxHeartbeats 4000000 in
theorem bmake_any (s : Sto) (lv : Int) (xs : List It) (a : Option Addr) (c : Nat) (ps : List (It × Value)) (M : Mem) (hc : xs.length ≤ c) (hs : SM M a (ps.flatMap wAs)) (hp : ps.map (·.1) = xs) (hb : ∀ p ∈ ps, BS M p.2 p.1.val) (hkd : ∀ x ∈ xs, 0 ≤ x.key.kind ∧ x.key.kind < 256) (bb : Nat) (Lb : Lc) (hB0 : BOwn M bb Lb s) (hn256 : s.now.length = 256) (hl256 : s.last.length = 256) (hwl0 : s.waits.length ≤ 4096) :
  SpecL Tryz.prog 35 #[.pointer (some ⟨bb, 0, none⟩), .agg #[.int .i64 lv, .slice a xs.length c]] M Lb fun u M' L' => ∃ at_ e, u = .tuple #[.int .i64 at_, .int .i64 e] ∧ e = mkE s lv xs ∧ (e = 0 → at_ = (wEt (wAx s xs) : Int) ∧ BOwn M' bb L' (mkS s lv xs)) := by
 have hns : NS M (.slice a xs.length c) xs := ⟨a, c, ps, rfl, hc, hs, hp, hb⟩
 refine wAf (vs := [_, _]) 96 _ Tryz.func35 rfl Tryz.ntmps35 rfl rfl ?_; intro W
 refine wAb (wAa (wAy rfl rfl (wCm (cs := [_, _]) rfl rfl rfl rfl) ?_)); rintro _ _ _ ⟨b3, rfl, rfl, rfl⟩
 refine jp rfl (jp rfl (wAc (jT (wAb (wAa (sLL rfl ?_))))))
 refine wAy rfl rfl (wAu rfl rfl rfl rfl rfl (by kernel_rfl) (nwrite_walk lv xs a c ps M hc hs hp hb hkd)) ?_; rintro _ M1 _ ⟨hM1, _, rfl, ⟨hnw, rfl⟩⟩
 obtain ⟨sa6, sn6, sc6, e6, rfl, hnw2⟩ := nwform hnw
 simp only [nA]
 refine jp rfl (jp rfl (jp rfl (jp rfl (jp rfl (wAc (jT (wAb (wAb (wAa (jp rfl (js rfl (fun h16 => ?_) (fun h16 => ?_))))))))))))
 ·refine wAc (jT (wAg rfl (wAb (wAa (jp rfl (jp rfl (jp rfl (wAc (jT (wAe (jTr (wAr (L' := []) (List.nil_sublist _) ?_))))))))))))
  refine jr2 rfl rfl rfl ?_
  obtain ⟨he6, _⟩ | ⟨rfl, hno⟩ := hnw2
  ·exact absurd he6 h16
  refine ⟨_, _, rfl, ?_, fun h => by cases h⟩
  unfold mkE; rw [if_neg hno]
 refine wAc (jT (wAk rfl (wAd (jT (wAb (wAb (wAa (sFL rfl rfl ?_))))))))
 refine wAi rfl rfl (wBj rfl rfl rfl) ?_
 refine jp rfl (wAc (jT (wAh ?_)))
 obtain ⟨he6, hok, hn6, hs6⟩ | ⟨he6, hno⟩ := hnw2
 rotate_left
 ·exact absurd he6 (by have := Classical.not_not.1 h16; omega)
 subst hn6
 have hsc6 := hs6.cap_le
 have hno := NdOk.of hok
 have hlen := hno.len
 have hbl : (ndB lv xs).length = 128 := by
  refine wLc ?_
  have := wHu (fun x hx => (wDh hno.ok x hx).1)
  unfold wDr; rw [List.length_append]; show 3 + _ ≤ 124; omega
 refine wAv (α := Nat × Mem × Lc) (fun x => [(0, .pointer (some ⟨bb, 0, none⟩)), (3, .pointer (some ⟨b3, 0, none⟩)), (6, .slice sa6 (ndB lv xs).length sc6), (19, .slice a xs.length c), (20, .int .i64 xs.length), (21, .int .i64 x.1)]) (fun x => x.2.1) (fun x => (b3, .cells [.int .i64 lv, .slice a xs.length c].toArray 53 (0, 0)) :: x.2.2) (fun x => x.1 ≤ xs.length ∧ MLe M1 x.2.1 ∧ BOwn x.2.1 bb x.2.2 (wAx s (xs.take x.1)) ∧ shE s xs = shE (wAx s (xs.take x.1)) (xs.drop x.1)) (fun x => xs.length - x.1)
  (0, M1, Lb) (.cons (t := 0) rfl (.cons (t := 3) rfl (.cons (t := 6) rfl (.cons (t := 19) rfl (.cons (t := 20) rfl (.cons (t := 21) rfl .nil)))))) ⟨Nat.zero_le _, MLe.refl _, hB0.mono hM1, rfl⟩ (fun _ h => h) ?_
 rintro ⟨k, Mk, Lk⟩ ⟨hk, hMk, hB, hE⟩
 try dsimp only at hk hMk hB hE ⊢
 refine wAb (wAa (js rfl (fun h22 => ?_) (fun h22 => ?_)))
 ·refine wAc (jT (wAb (wAg rfl (wAd (jT (wAb (wAh (wAb (wAa ?_)))))))))
  have hk1 : k < xs.length := by omega
  have hsk := hs.mono (hM1.trans hMk)
  have hbk := fun p hp => (hb p hp).mono (hM1.trans hMk)
  obtain ⟨sb, so, e0, hx⟩ := hsk.open (by intro e; have := congrArg List.length e; rw [wBi wAs 5 wAq, List.length_nil] at this; have h2 := congrArg List.length hp; rw [List.length_map] at h2; omega)
  subst e0
  obtain ⟨va, vc, hcl, hvc, hvs⟩ := wBt hx hp hbk hk1
  have hxr := hno.ref xs[k] (List.getElem_mem hk1)
  have hnl := (wDp s (xs.take k)).1
  refine wAi rfl rfl (wBe rfl rfl rfl rfl (by omega)) ?_
  refine wAi rfl rfl (wGx (cs := itc xs[k] va vc) rfl rfl rfl rfl rfl (fun i v hv => (hcl i v hv).cj _)) ?_
  refine sAl rfl fun b8 => ?_
  refine sSt rfl ?_
  refine wAc (jT (wAb (wAb (wAa (sFL rfl rfl ?_)))))
  refine js rfl (fun h27 => ?_) (fun h27 => ?_)
  ·refine wAc (jT (wAg rfl (wAw (jTx (jBx (jT (wAa (ja rfl (by omega) ?_))))))))
   refine jp rfl (wAc ?_)
   refine wAp (k + 1, Mk, Lk) (.cons (t := 0) rfl (.cons (t := 3) rfl (.cons (t := 6) rfl (.cons (t := 19) rfl (.cons (t := 20) rfl (.cons (t := 21) rfl .nil)))))) ⟨by show k + 1 ≤ xs.length; omega, hMk, by show BOwn _ _ _ (wAx s (xs.take (k + 1))); rw [wGi hk1, if_pos h27]; exact hB, by show shE s xs = shE (wAx s (xs.take (k + 1))) (xs.drop (k + 1)); rw [hE, shE_on hk1, if_pos h27]⟩ (by show xs.length - (k + 1) < xs.length - k; omega) (fun _ h => h.fewer (by simp))
  refine wAc (jT (wAk rfl (wAd (jT (wAb (wAa (jp rfl (sFL rfl rfl ?_))))))))
  have hkr : ((xs[k].ref.toNat : Nat) : Int) = xs[k].ref := Int.toNat_of_nonneg (by omega)
  refine wAy rfl rfl (wAu rfl rfl rfl rfl rfl (by kernel_rfl) (by have := share_any (wAx s (xs.take k)) xs[k].ref.toNat bb (by omega) Mk Lk hB; rwa [hkr] at this)) ?_; rintro _ Mn _ ⟨hMn, R', rfl, ⟨rfl, hB2⟩⟩
  refine jp rfl (wAc (jT (wAb (wAa (jp rfl (js rfl (fun h33 => ?_) (fun h33 => ?_)))))))
  ·refine wAc (jT (wAg rfl (wAb (wAa (jp rfl (jp rfl (jp rfl (wAc (jT (wAe (jBr (jTr (jTr (jBr (jTr (wAr (L' := []) (List.nil_sublist _) ?_))))))))))))))))
   refine jr2 rfl rfl rfl ?_
   refine ⟨_, _, rfl, ?_, fun h => absurd h h33⟩
   have hE2 := hE
   rw [shE_on hk1, if_neg h27, if_neg h33] at hE2
   unfold mkE; rw [if_pos hok, hE2, if_neg h33]
  refine wAc (jT (wAk rfl (wAd (jB (jT (wAa (ja rfl (by omega) ?_)))))))
  refine jp rfl (wAc ?_)
  have h33' := Classical.not_not.1 h33
  refine wAp (k + 1, Mn, R') (.cons (t := 0) rfl (.cons (t := 3) rfl (.cons (t := 6) rfl (.cons (t := 19) rfl (.cons (t := 20) rfl (.cons (t := 21) rfl .nil)))))) ⟨by show k + 1 ≤ xs.length; omega, hMk.trans hMn, by show BOwn _ _ _ (wAx s (xs.take (k + 1))); rw [wGi hk1, if_neg h27]; exact hB2 h33', by show shE s xs = shE (wAx s (xs.take (k + 1))) (xs.drop (k + 1)); rw [hE, shE_on hk1, if_neg h27, if_pos h33']⟩ (by show xs.length - (k + 1) < xs.length - k; omega) (fun w h => (h.perm List.perm_append_comm).fewer (by simp))
 refine wAc (jT (wAb (wAk rfl (wAw (jTx (jTx (jBx (jT (wAb (wAa (jp rfl (wAc (jT (wAb (wAh ?_)))))))))))))))
 obtain rfl : k = xs.length := by omega
 rw [List.take_length] at hB
 obtain ⟨t, ht⟩ : ∃ t, t = wAx s xs := ⟨_, rfl⟩
 obtain ⟨hq1, hq2, hq3, hq4⟩ := wDp s xs
 rw [← ht] at hB hq1 hq2 hq3 hq4
 have hE0 : shE s xs = 0 := by rw [hE, List.drop_length]; rfl
 obtain ⟨bv, wv, na, nc, lw, Rw, Rn, rfl, g2, g3, g4, g5⟩ := hB
 obtain ⟨wa, wc, rfl⟩ := g5.form
 have htn : t.now.length = 256 := by rw [hq1]; exact hn256
 have htl : t.last.length = 256 := by rw [hq3]; exact hl256
 obtain ⟨ng, ncap, ncur, e0, e1, _⟩ := g4.open (by omega)
 cases e0; cases e1
 obtain ⟨la, lc, rfl, hlc, hls⟩ := id g3
 obtain ⟨lb, lo, e0, hlx⟩ := hls.open (by intro e; have := congrArg List.length e; rw [wAm, List.length_nil] at this; omega)
 subst e0
 refine wAv (α := Nat) (fun j => [(0, .pointer (some ⟨bb, 0, none⟩)), (4, .int .i64 (j : Int)), (6, .slice sa6 (ndB lv xs).length sc6)]) (fun _ => Mk) (fun _ => (b3, .cells [.int .i64 lv, .slice a xs.length c].toArray 53 (0, 0)) :: (bb, .cells [bv, .slice wa t.waits.length wc, .slice (some ⟨ng, 0, none⟩) t.now.length nc, .slice (some ⟨lb, lo, none⟩) t.last.length lc].toArray TBn (0, 0)) :: (Rw ++ [(ng, .cells ncur 5 (0, 0))])) (fun j => j ≤ 256 ∧ frAt t (256 - j) j = wEt t) (fun j => 256 - j)
  8 (.cons (t := 0) rfl (.cons (t := 4) rfl (.cons (t := 6) rfl .nil))) ⟨by omega, rfl⟩ (fun _ h => h) ?_
 rintro j ⟨hj, hI⟩
 try dsimp only at hj hI ⊢
 have hor : bOr .u8 ((t.now.getD j 0).toNat : Int) ((t.last.getD j 0).toNat : Int) = ((t.now.getD j 0 ||| t.last.getD j 0).toNat : Int) := bor_u8 _ _
 refine wAb (wAb (wBp [(0, true), (1, true), (2, true), (3, true), (4, true), (5, true), (6, true), (7, true), (8, true), (9, true), (10, true), (11, true), (12, true), (13, true), (14, true), (15, true), (16, true), (17, true), (18, true), (19, true), (20, true), (21, true)] _ (by kernel_rfl) (by kernel_rfl) (by kernel_rfl) rfl (fun _ h => h) ?_))
 refine dp rfl rfl ?_
 refine ds rfl rfl (fun h37 => ?_) (fun h37 => ?_)
 ·iterate 2 refine dp rfl rfl ?_
  refine wBq rfl rfl rfl (wBw rfl rfl rfl) ?_
  refine dFa rfl rfl ?_
  refine dFa rfl rfl ?_
  refine dLd rfl rfl ?_
  refine dp rfl rfl ?_
  refine wBq rfl rfl rfl (wBe rfl rfl rfl rfl (by omega)) ?_
  have hjn : (wAj t.now)[j]? = some (.int .u8 ((t.now.getD j 0).toNat : Int)) := wHy (by omega)
  have hjl : (wAj t.last)[j]? = some (.int .u8 ((t.last.getD j 0).toNat : Int)) := wHy (by omega)
  refine wBq rfl rfl rfl (qLd rfl rfl rfl rfl (by rw [Nat.mul_one, Nat.zero_add]; exact g4.cj (by simp) hjn)) ?_
  refine dp rfl rfl ?_
  refine wBq rfl rfl rfl (wBw rfl rfl rfl) ?_
  refine dFa rfl rfl ?_
  refine dFa rfl rfl ?_
  refine dLd rfl rfl ?_
  refine dp rfl rfl ?_
  refine wBq rfl rfl rfl (wBe rfl rfl rfl rfl (by omega)) ?_
  refine wBq rfl rfl rfl (qLd rfl rfl rfl rfl ((hlx _ _ (by rw [Nat.mul_one]; exact hjl)).cj _)) ?_
  refine wBq rfl rfl rfl (wLg rfl rfl rfl rfl rfl) ?_
  refine ds rfl rfl (fun h56 => ?_) (fun h56 => ?_)
  ·refine dp rfl rfl ?_
   refine wBd (jPn (jT (wAg rfl (wAd (jT (wAh (wAa (jp rfl (ja rfl (by omega) ?_)))))))))
   refine jp rfl (wAc (jB ?_))
   have hnf : ¬ freeB t j := fun hf => h56 (by rw [hor, (or_zero _ _).2 hf]; rfl)
   refine wAp (j + 1) (.cons (t := 0) rfl (.cons (t := 4) rfl (.cons (t := 6) rfl .nil))) ⟨by omega, by rw [← frAt_on (by omega) hnf]; exact hI⟩ (by omega) (fun _ h => h)
  refine dp rfl rfl ?_
  refine wBd (jPn (jT (wAk rfl (wAw (jTx (jTx (jBx (jT (wAb (wAb (wAa (jp rfl (jf rfl (decide_eq_false (by omega)) ?_)))))))))))))
  refine jp rfl (jp rfl (wAi rfl rfl (wBw rfl rfl rfl) ?_))
  refine sFF rfl rfl ?_
  refine sFL rfl rfl ?_
  refine wAi rfl rfl (wBj rfl rfl rfl) ?_
  refine js rfl (fun h70 => ?_) (fun h70 => ?_)
  ·refine jp rfl (wAc (jT (wAg rfl (wAb (wAa (jp rfl (jp rfl (wAc (jT (wAe (jTr (wAr (L' := []) (List.nil_sublist _) ?_))))))))))))
   refine jr2 rfl rfl rfl ?_
   refine ⟨_, _, rfl, ?_, fun h => by cases h⟩
   unfold mkE; rw [if_pos hok, if_pos hE0, if_pos (.inr (by rw [← hq2]; omega))]
  refine jp rfl (wAc (jT (wAk rfl (wAd (jT (wAb (wAa (jp rfl (jp rfl (wAi rfl rfl (wBw rfl rfl rfl) ?_))))))))))
  refine sFF rfl rfl ?_
  refine sFL rfl rfl ?_
  refine jp rfl (jp rfl (wAi rfl rfl (wBa (cs := [_, _]) rfl rfl rfl (by rfl)) ?_))
  refine wAy rfl rfl (wAn (cs := [_, _]) rfl rfl rfl (by rfl) (by rfl) (by rfl)) ?_; rintro _ _ _ ⟨b82, rfl, rfl, rfl⟩
  have htw : t.waits.length < 4096 := by have h4 : s.waits.length = t.waits.length := (by rw [hq2]); omega
  obtain ⟨wps, hw1, hw2, hw3⟩ := id g5
  have hfr : freeB t j := (or_zero _ _).1 (UInt8.toNat.inj (by have := Classical.not_not.1 h56; rw [hor] at this; simpa using this))
  have hje : wEt t = j := by rw [← hI, frAt_is (by omega) hfr]
  refine wAy rfl rfl (hAppendE (R := Rw) (m := 1) (news := [.int .i64 (j : Int), .slice sa6 (ndB lv xs).length sc6]) rfl rfl rfl rfl hw3 rfl (fun i v hv => CJ.loc (by simpa using hv)) rfl (by rfl) (by simp [Value.oneCell']) (by omega) (by omega) (by omega)) ?_; rintro _ _ _ ⟨rfl, Rw', rfl, hown'⟩
  obtain ⟨wa2, wc2, rfl⟩ := hown'.form
  refine wAi rfl rfl (wBw rfl rfl rfl) ?_
  refine sFF rfl rfl ?_
  refine sFa rfl ?_
  refine sSt rfl ?_
  refine wAc (jT (wAb (wAa (jp rfl (wAi rfl rfl (wBw rfl rfl rfl) ?_)))))
  refine sFa rfl ?_
  refine sFL rfl rfl ?_
  refine jp rfl (wAi rfl rfl (wBe rfl rfl rfl rfl (by omega)) ?_)
  refine jl_s rfl (wGp (u := .int .u8 1) rfl rfl rfl rfl rfl rfl g4 rfl (by omega)) ?_; rintro _ _ _ ⟨rfl, Rn', rfl, hnow'⟩
  refine wAc (jT (wAb (wAa (jp rfl (jp rfl (jp rfl (wAc (jT (wAe (wGb (M' := Mk) (L' := (bb, .cells [bv, .slice wa2 (t.waits.length + 1) wc2, .slice (some ⟨ng, 0, none⟩) t.now.length nc, .slice (some ⟨lb, lo, none⟩) t.last.length lc].toArray TBn (0, 0)) :: (Rw' ++ Rn')) (fun w h => ?_) ?_))))))))))
  ·have h2 := h.perm perm3
   exact h2.fewer (.cons _ (.cons _ (.refl _)))
  refine jr2 rfl rfl rfl ?_
  have hT : mkS s lv xs = addS t j (ndB lv xs) := by unfold mkS; rw [← ht, hje]
  refine ⟨_, _, rfl, ?_, fun _ => ⟨by rw [← ht, hje], ?_⟩⟩
  ·unfold mkE; rw [if_pos hok, if_pos hE0, if_neg (by rw [← ht, hje, ← hq2]; omega)]
  rw [hT]
  have hnl : (addS t j (ndB lv xs)).now.length = t.now.length := by unfold addS; simp
  have hwn : (addS t j (ndB lv xs)).waits.length = t.waits.length + 1 := by unfold addS; simp
  refine ⟨bv, _, _, nc, _, Rw', Rn', by rw [hnl], g2, g3, ?_, wps ++ [(((j : Int), ndB lv xs), .slice sa6 (ndB lv xs).length sc6)], ?_, ?_, .inl ?_⟩
  ·rw [hnl]
   have e : wAj (addS t j (ndB lv xs)).now = (wAj t.now).set j (.int .u8 1) := by unfold addS wAj; rw [List.map_set]; rfl
   rw [e]; have := hnow'; rw [Nat.mul_one, Nat.zero_add] at this; exact this
  ·rw [List.map_append, hw1]; rfl
  ·intro p hp; rcases List.mem_append.1 hp with hp | hp
   ·exact hw2 p hp
   rw [List.mem_singleton.1 hp]; exact hs6.mono hMk
  rw [hwn, List.flatMap_append]; exact hown'
 iterate 20 refine dp rfl rfl ?_
 refine wBd (jPn (jT (wAk rfl (wAw (jTx (jTx (jBx (jT (wAb (wAb (wAa (jp rfl (jt rfl (decide_eq_true (by omega)) ?_)))))))))))))
 iterate 10 refine jp rfl ?_
 refine wAc (jT (wAg rfl (wAb (wAa (jp rfl (jp rfl (wAc (jT (wAe (jTr (wAr (L' := []) (List.nil_sublist _) ?_)))))))))))
 refine jr2 rfl rfl rfl ?_
 obtain rfl : j = 256 := by omega
 refine ⟨_, _, rfl, ?_, fun h => by cases h⟩
 have h256 : wEt t = 256 := hI.symm
 unfold mkE; rw [if_pos hok, if_pos hE0, if_pos (.inl (by rw [← ht]; exact h256))]
def wDo (s : Sto) (k : Nat) : Int := if s.now.getD k 0 = 0 then 6 else 0
def wBx (s : Sto) (k : Nat) : Sto := { s with now := s.now.set k (s.now.getD k 0 - 1) }
theorem looseS_len (s : Sto) (k : Nat) : (wBx s k).now.length = s.now.length := by unfold wBx; simp
theorem dec_u8 {b : By} (h : b ≠ 0) : ((b - 1).toNat : Int) = (b.toNat : Int) - 1 ∧ 1 ≤ (b.toNat : Int) := by
 have h1 := b.toNat_lt
 have h2 : b.toNat ≠ 0 := fun e => h (UInt8.toNat.inj e)
 have h3 : (1 : By) ≤ b := by rw [UInt8.le_iff_toNat_le]; have : (1 : By).toNat = 1 := rfl; omega
 rw [UInt8.toNat_sub_of_le _ _ h3]
 have : (1 : By).toNat = 1 := rfl
 omega
theorem loose_bad (s : Sto) (k bb : Nat) (hk : k < s.now.length) (he : s.now.getD k 0 = 0) (bv wv lv : Value) (na : Option Addr) (nc : Nat) (Rw Rn : Lc) (M : Mem) (hnow : Own (.slice na s.now.length nc) Rn 5 1 s.now.length (wAj s.now)) :
  SpecL Tryz.prog 36 #[.pointer (some ⟨bb, 0, none⟩), .int .i64 k] M ((bb, .cells [bv, wv, .slice na s.now.length nc, lv].toArray TBn (0, 0)) :: (Rw ++ Rn)) fun u M' L' => u = .int .i64 6 := by
 have hgn : (wAj s.now)[k]? = some (.int .u8 ((s.now.getD k 0).toNat : Int)) := wHy hk
 obtain ⟨ng, ncap, ncur, e0, e1, _⟩ := hnow.open (by omega)
 cases e0; cases e1
 have hlt := (s.now.getD k 0).toNat_lt
 have h0 : ((s.now.getD k 0).toNat : Int) = 0 := by rw [he]; rfl
 refine wAf (vs := [_, _]) 24 _ Tryz.func36 rfl Tryz.ntmps36 rfl rfl ?_; intro W
 refine wAb (wAa (jp rfl (wAc (jT (wAb (wAb (wAa (jp rfl (wAi rfl rfl (wBw rfl rfl rfl) ?_)))))))))
 refine sFa rfl ?_
 refine sFL rfl rfl ?_
 refine jp rfl (wAi rfl rfl (wBe rfl rfl rfl rfl (by omega)) ?_)
 refine wAi rfl rfl (qLd rfl rfl rfl rfl (by rw [Nat.mul_one, Nat.zero_add]; exact hnow.cj (by simp) hgn)) ?_
 refine jt rfl (decide_eq_true (by omega)) ?_
 refine wAc (jT (wAg rfl (wAb (wAa (jp rfl (wAc (jT (wAe (jTr (jr1 rfl rfl ?_))))))))))
 rfl
theorem loose_walk (s : Sto) (k bb : Nat) (hk : k < s.now.length) (he : ¬ s.now.getD k 0 = 0) (bv wv lv : Value) (na : Option Addr) (nc : Nat) (Rw Rn : Lc) (M : Mem) (hnow : Own (.slice na s.now.length nc) Rn 5 1 s.now.length (wAj s.now)) :
  SpecL Tryz.prog 36 #[.pointer (some ⟨bb, 0, none⟩), .int .i64 k] M ((bb, .cells [bv, wv, .slice na s.now.length nc, lv].toArray TBn (0, 0)) :: (Rw ++ Rn)) fun u M' L' => u = .int .i64 0 ∧ M' = M ∧ ∃ Rn', L' = (bb, .cells [bv, wv, .slice na s.now.length nc, lv].toArray TBn (0, 0)) :: (Rw ++ Rn') ∧ Own (.slice na s.now.length nc) Rn' 5 1 s.now.length (wAj (wBx s k).now) := by
 have hgn : (wAj s.now)[k]? = some (.int .u8 ((s.now.getD k 0).toNat : Int)) := wHy hk
 obtain ⟨ng, ncap, ncur, e0, e1, _⟩ := hnow.open (by omega)
 cases e0; cases e1
 have hlt := (s.now.getD k 0).toNat_lt
 obtain ⟨hi1, hi2⟩ := dec_u8 he
 refine wAf (vs := [_, _]) 24 _ Tryz.func36 rfl Tryz.ntmps36 rfl rfl ?_; intro W
 refine wAb (wAa (jp rfl (wAc (jT (wAb (wAb (wAa (jp rfl (wAi rfl rfl (wBw rfl rfl rfl) ?_)))))))))
 refine sFa rfl ?_
 refine sFL rfl rfl ?_
 refine jp rfl (wAi rfl rfl (wBe rfl rfl rfl rfl (by omega)) ?_)
 refine wAi rfl rfl (qLd rfl rfl rfl rfl (by rw [Nat.mul_one, Nat.zero_add]; exact hnow.cj (by simp) hgn)) ?_
 refine jf rfl (decide_eq_false (by omega)) ?_
 refine wAc (jT (wAk rfl (wAd (jT (wAb (wAa (jp rfl (wAi rfl rfl (wBw rfl rfl rfl) ?_))))))))
 refine sFa rfl ?_
 refine sFL rfl rfl ?_
 refine jp rfl (wAi rfl rfl (wBe rfl rfl rfl rfl (by omega)) ?_)
 refine wAi rfl rfl (qLd rfl rfl rfl rfl (by rw [Nat.mul_one, Nat.zero_add]; exact hnow.cj (by simp) hgn)) ?_
 refine wAi rfl rfl (qAk rfl rfl rfl rfl rfl (by rw [IntKind.wrap_u8]; omega)) ?_
 refine wAi rfl rfl (wBe rfl rfl rfl rfl (by omega)) ?_
 refine jl_s rfl (wGp rfl rfl rfl rfl rfl rfl hnow rfl (by omega)) ?_; rintro _ _ _ ⟨rfl, Rn', rfl, hnow'⟩
 refine wAc (jT (wAb (wAa (jp rfl (wAc (jT (wAe (wGb (L' := (bb, .cells [bv, wv, .slice (some ⟨ng, 0, none⟩) s.now.length nc, lv].toArray TBn (0, 0)) :: (Rw ++ Rn')) (fun w h => h.perm ?_) ?_))))))))
 ·simpa using (List.perm_append_comm (l₁ := Rn') (l₂ := (bb, _) :: Rw))
 refine jr1 rfl rfl ?_
 refine ⟨rfl, rfl, Rn', rfl, ?_⟩
 have e : wAj (wBx s k).now = (wAj s.now).set k (.int .u8 (((s.now.getD k 0).toNat : Int) - 1)) := by unfold wBx wAj; rw [List.map_set, hi1]
 rw [e]; have := hnow'; rw [Nat.mul_one, Nat.zero_add] at this; exact this
theorem loose_any (s : Sto) (k bb : Nat) (hk : k < s.now.length) (M : Mem) (Lb : Lc) (h : BOwn M bb Lb s) : SpecL Tryz.prog 36 #[.pointer (some ⟨bb, 0, none⟩), .int .i64 k] M Lb fun u M' L' => u = .int .i64 (wDo s k) ∧ (wDo s k = 0 → BOwn M' bb L' (wBx s k)) := by
 obtain ⟨bv, wv, na, nc, lv, Rw, Rn, rfl, h2, h3, h4, h5⟩ := h
 by_cases he : s.now.getD k 0 = 0
 ·have e6 : wDo s k = 6 := if_pos he
  exact (loose_bad s k bb hk he bv wv lv na nc Rw Rn M h4).mono fun u M' L' e1 => ⟨by rw [e6]; exact e1, fun h => by rw [e6] at h; cases h⟩
 have e0 : wDo s k = 0 := if_neg he
 refine (loose_walk s k bb hk he bv wv lv na nc Rw Rn M h4).mono fun u M' L' ⟨e1, e2, Rn', e3, e4⟩ => ?_
 subst e2
 have hl := looseS_len s k
 exact ⟨by rw [e0]; exact e1, fun _ => ⟨bv, wv, na, nc, lv, Rw, Rn', by rw [hl]; exact e3, h2, h3, by rw [hl]; exact e4, h5⟩⟩
theorem BOwn.bn {M : Mem} {bb : Nat} {Lb : Lc} {s : Sto} (h : BOwn M bb Lb s) (hn : (Lb.map (·.1)).Nodup) (h0 : ∀ p ∈ Lb, M p.1 = none) : BN (addL M Lb) (.pointer (some ⟨bb, 0, none⟩)) s := by
 have hle := addL_le h0
 have hon : ∀ p ∈ Lb, addL M Lb p.1 = some p.2 := fun p hp => wKr hn hp
 obtain ⟨bv, wv, na, nc, lv, Rw, Rn, hL, h2, h3, h4, wps, hw1, hw2, hw3⟩ := h
 have hm : ∀ p ∈ (bb, Obj.cells [bv, wv, .slice na s.now.length nc, lv].toArray TBn (0, 0)) :: (Rw ++ Rn), addL M Lb p.1 = some p.2 := by rw [← hL]; exact hon
 refine ⟨bb, bv, wv, _, lv, rfl, hm (bb, _) List.mem_cons_self, h2.mono hle, ?_, ?_, h3.mono hle⟩
 ·rcases hw3 with hw3 | ⟨rfl, hfl, ba, rfl, hbs, hold⟩
  ·obtain ⟨a, c, rfl, hc, hs⟩ := hw3.lent (M := addL M Lb) (fun p hp => hm p (by simp [hp]))
   exact ⟨a, c, wps, rfl, hc, hs, hw1, fun p hp => (hw2 p hp).mono hle⟩
  refine ⟨_, _, wps, rfl, Nat.le_refl _, ?_, hw1, fun p hp => (hw2 p hp).mono hle⟩
  rcases hbs with h0 | hbs
  ·exact .inl h0
  obtain ⟨b, of, sp⟩ := ba
  simp only at hbs
  subst hbs
  exact .inr ⟨b, of, rfl, fun i u hu => (hold i u hu).mono hle⟩
 obtain ⟨a, c, e, hc, hs⟩ := h4.lent (M := addL M Lb) (fun p hp => hm p (by simp [hp]))
 cases e
 exact ⟨_, _, rfl, hc, hs⟩
theorem bnode_own (s : Sto) (k bb : Nat) (hk : k < 256) (hst : wCc s) (M : Mem) (Lb : Lc) (h : BOwn M bb Lb s) : SpecL Tryz.prog 28 #[.pointer (some ⟨bb, 0, none⟩), .int .i64 k] M Lb fun u M' L' => BnPost s k u M' ∧ L' = Lb := by
 have := SpecL.lend (R := Lb) (L := []) (post := fun u M' L' => BnPost s k u (wEn (addL M Lb) M') ∧ L' = []) (fun hn h0 => bnode_new s k _ (addL M Lb) hst hk (h.bn hn h0))
 rw [List.append_nil] at this
 refine this.mono ?_
 rintro u M' L' ⟨M1, L1, ⟨hp, rfl⟩, rfl, rfl, hn⟩
 exact ⟨hp.mono (newOf_sub hn), by simp⟩
end Go.Proofs.YtkcpllhggofloaaGreat
