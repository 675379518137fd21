/- Walks: a bench, and a node read on it. -/
import Derived.Test.YtbhkdjheooknfaaGreatZStore
namespace Go.Proofs.YtbhkdjheooknfaaGreat
set_option linter.unusedVariables false
set_option linter.unusedSectionVars false
set_option linter.unusedSimpArgs false
open Go.RowKit
theorem bww (a : Option Addr) (n c : Nat) (M : Mem) :
  SpecL Tryz.prog 101 #[.slice a n c] M [] fun u M' L' => ∃ b, u = .func (.func 116) #[] #[.pointer (some ⟨b, 0, none⟩)] ∧ M' b = some (.cells #[.slice a n c] 23 (0, 0)) ∧ L' = [] := by
 refine wAe (vs := [_]) 4 _ Tryz.func101 rfl Tryz.ntmps101 rfl rfl ?_; intro W
 refine wAb (wAa (wAv rfl rfl (wBw (cs := [.slice a n c]) rfl rfl rfl rfl) ?_)); rintro _ _ _ ⟨b1, rfl, rfl, rfl⟩
 refine jp rfl (wAc (jT (wAb (wAa (jp rfl (jp rfl (wAc (jT (wAf (wCa b1 (by simp) ?_))))))))))
 intro M1 hM1 e1
 refine jr1 rfl rfl ?_
 exact ⟨b1, rfl, e1, rfl⟩
theorem bww_body (b : Nat) (a : Option Addr) (c : Nat) (xs : List (Wt × Value)) (M : Mem) (hb : M b = some (.cells #[.slice a xs.length c] 23 (0, 0))) (hs : SM M a (xs.flatMap wBs)) (hn : xs.length ≤ 1000000) (l : Nat) (J Jx : List ((Wt × Value) × Nat) → Mem → Lc → Prop) (M1 : Mem) (L0 : Lc) (hM : MLe M M1) (hJ : ∀ pre y M2 L2, MLe M1 M2 → J pre M2 L2 → pre ++ [y] <+: bw xs 0 → RoundL Tryz.prog l ((fun p : (Wt × Value) × Nat => [.int .i64 p.2, .agg (wBs p.1).toArray]) y).toArray M2 L2 fun v M' L' => (v = .bool true ∧ J (pre ++ [y]) M' L') ∨ (v = .bool false ∧ Jx (pre ++ [y]) M' L')) (h0 : J [] M1 L0) :
  SpecL Tryz.prog 116 #[.func (.yield l) #[] #[], .pointer (some ⟨b, 0, none⟩)] M1 L0 fun _ M' L' => J (bw xs 0) M' L' ∨ ∃ pre, pre <+: bw xs 0 ∧ Jx pre M' L' := by
 have hbc : ∀ {M2 : Mem} (L : Lc), MLe M1 M2 → CJ M2 L b 0 (.slice a xs.length c) := fun L h => (CM.cj ⟨_, _, _, h _ _ (hM _ _ hb), rfl⟩ L)
 refine wAe (vs := [_, _]) 19 _ Tryz.func116 rfl Tryz.ntmps116 rfl rfl ?_; intro W
 refine wAb (wAa (wAi rfl rfl (qLd rfl rfl rfl rfl (hbc _ (MLe.refl _))) ?_))
 refine wAi rfl rfl (wBe rfl rfl rfl) ?_
 refine ja rfl (by omega) ?_
 refine jp rfl (wAc (jT (wAh ?_)))
 refine wAo (α := Int × Mem × Lc) (fun x => [(0, .func (.yield l) #[] #[]), (1, .pointer (some ⟨b, 0, none⟩)), (3, .int .i64 x.1)]) (fun x => x.2.1) (fun x => x.2.2) (fun x => -1 ≤ x.1 ∧ x.1 < xs.length ∧ MLe M1 x.2.1 ∧ J (bw xs (x.1 + 1).toNat) x.2.1 x.2.2) (fun x => (x.1 + 1).toNat)
  ((xs.length : Int) - 1, M1, L0) (.cons (t := 0) rfl (.cons (t := 1) rfl (.cons (t := 3) rfl .nil))) ⟨by show -1 ≤ (xs.length : Int) - 1; omega, by show (xs.length : Int) - 1 < xs.length; omega, MLe.refl _, by show J (bw xs ((xs.length : Int) - 1 + 1).toNat) _ _; rw [show ((xs.length : Int) - 1 + 1).toNat = xs.length by omega, bw_len]; exact h0⟩ (fun _ h => h) ?_
 rintro ⟨i, Mk, Lk⟩ ⟨hk0, hk, hMk, hJk⟩
 try dsimp only at hk0 hk hMk hJk ⊢
 refine wAb (wAb (wAa (jp rfl (js rfl (fun hge => ?_) (fun hge => ?_)))))
 ·refine wAc (jT (wAg rfl (wAd (jT (wAb (wAh (wAb (wAa (jp rfl (jp rfl ?_))))))))))
  obtain ⟨k, rfl⟩ : ∃ k : Nat, i = k := ⟨i.toNat, by omega⟩
  have hk1 : k < xs.length := by omega
  obtain ⟨sb, so, e0, hx⟩ := hs.open (by intro e; have := congrArg List.length e; rw [wBm wBs 2 wBx, List.length_nil] at this; omega)
  subst e0
  refine wAi rfl rfl (qLd rfl rfl rfl rfl (hbc _ hMk)) ?_
  refine jp rfl (wAi rfl rfl (wBb rfl rfl rfl rfl (by omega)) ?_)
  refine wAi rfl rfl (wGp (cs := wBs xs[k]) rfl rfl rfl rfl rfl (fun i v hv => ((flat_cm wBs 2 wBx hx (show xs[k]? = some xs[k] by simp [hk1]) i v hv).mono (hM.trans hMk)).cj _)) ?_
  refine wAv rfl rfl (hYield rfl rfl rfl rfl (hJ (bw xs (k + 1)) (xs[k], k) Mk Lk hMk (by rwa [show ((k : Int) + 1).toNat = k + 1 by omega] at hJk) (by rw [← bw_step xs hk1]; exact wKg xs k))) ?_; rintro _ M' _ ⟨hM', R', rfl, hy⟩
  rw [← bw_step xs hk1] at hy
  rcases hy with ⟨rfl, hy⟩ | ⟨rfl, hy⟩
  ·refine jp rfl (wAc (jT (wAk rfl (wAd (jB (jT (wAa (jp rfl (ja rfl (by omega) ?_)))))))))
   refine jp rfl (wAc ?_)
   refine wAn ((k : Int) - 1, M', R') (.cons (t := 0) rfl (.cons (t := 1) rfl (.cons (t := 3) rfl .nil))) ⟨by show -1 ≤ (k : Int) - 1; omega, by show (k : Int) - 1 < xs.length; omega, hMk.trans hM', by show J (bw xs ((k : Int) - 1 + 1).toNat) _ _; rw [show ((k : Int) - 1 + 1).toNat = k by omega]; exact hy⟩ (by show ((k : Int) - 1 + 1).toNat < ((k : Int) + 1).toNat; omega) (fun _ h => h.fewer (by simp))
  refine jp rfl (wAc (jT (wAg rfl (wAf (jBr (jTr (jTr (jBr (wAu (L' := R') (by simp) ?_)))))))))
  refine jrs (rs := []) rfl .nil ?_
  exact .inr ⟨_, wKg xs k, hy⟩
 refine wAc (jT (wAk rfl (wAs (jTx (jTx (jBx (jrn ?_)))))))
 refine jrs (rs := []) rfl .nil ?_
 obtain rfl : i = -1 := by omega
 exact .inl hJk
theorem bww_iter (b : Nat) (a : Option Addr) (c : Nat) (xs : List (Wt × Value)) (M : Mem) (hb : M b = some (.cells #[.slice a xs.length c] 23 (0, 0))) (hs : SM M a (xs.flatMap wBs)) (hn : xs.length ≤ 1000000) : Iter Tryz.prog 116 [.pointer (some ⟨b, 0, none⟩)] M (fun p : (Wt × Value) × Nat => [.int .i64 p.2, .agg (wBs p.1).toArray]) (bw xs 0) :=
 fun l J Jx M1 L0 hM hJ h0 => bww_body b a c xs M hb hs hn l J Jx M1 L0 hM hJ h0
theorem clip_spec (a : Option Addr) (n c : Nat) (M : Mem) (h : n ≤ c) (hn : n ≤ 1000000) :
  SpecL Tryz.prog 89 #[.slice a n c] M [] fun v _ _ => v = .slice a n n := by
 refine wAe (vs := [_]) 9 _ Tryz.func89 rfl Tryz.ntmps89 rfl rfl ?_; intro W
 refine wAb (wAa (jp rfl (wAc (jT (wAb (wAa (jp rfl (jp rfl (wAi rfl rfl (wBe rfl rfl rfl) ?_)))))))))
 refine jp rfl (wAi rfl rfl (wBe rfl rfl rfl) ?_)
 refine wAi rfl rfl (qEq (qSl rfl rfl rfl (.of (v := n) rfl (by omega) (by omega)) (.of (v := n) rfl (by omega) (by omega)) (.no _) (by omega) (by simp)) (v' := .slice a n n) (by rw [wEq]; rfl)) ?_
 refine jp rfl (wAc (jT (wAf (jr1 rfl rfl ?_))))
 rfl
abbrev TBn : TypeId := 146
structure BN (M : Mem) (v : Value) (s : Sto) : Prop where
 ex : ∃ p bv wv nv lv, v = .pointer (some ⟨p, 0, none⟩) ∧ M p = some (.cells [bv, wv, nv, lv].toArray TBn (0, 0)) ∧ LS M bv s.blocks ∧ WS M wv s.waits ∧ BS M nv s.now ∧ BS M lv s.last
theorem BN.mono {M M' : Mem} {v : Value} {s : Sto} (h : BN M v s) (hM : MLe M M') : BN M' v s := by
 obtain ⟨p, b, w, n, l, h1, h0, h2, h3, h4, h5⟩ := h.ex; exact ⟨p, b, w, n, l, h1, hM _ _ h0, h2.mono hM, h3.mono hM, h4.mono hM, h5.mono hM⟩
theorem on_ro (s : Sto) (bv nv lv : Value) (wa : Option Addr) (wc : Nat) (M : Mem) (hw : s.waits.length ≤ wc) (hwl : s.waits.length ≤ 1000000) (hn : BS M nv s.now) (hnl : s.now.length ≤ 100000) :
  SpecL Tryz.prog 66 #[.agg #[bv, .slice wa s.waits.length wc, nv, lv]] M [] fun u M' L' => (∃ b na nc, u = .pointer (some ⟨b, 0, none⟩) ∧ M' b = some (.cells [bv, .slice wa s.waits.length s.waits.length, .slice na s.now.length nc, lv].toArray TBn (0, 0)) ∧ BS M' (.slice na s.now.length nc) s.now) ∧ L' = [] := by
 refine wAe (vs := [_]) 16 _ Tryz.func66 rfl Tryz.ntmps66 rfl rfl ?_; intro W
 refine wAb (wAa (wAv rfl rfl (wBw (cs := [_, _, _, _]) rfl rfl rfl rfl) ?_)); rintro _ _ _ ⟨b1, rfl, rfl, rfl⟩
 refine jp rfl (wAc (jT (wAb (wAa (sFL rfl rfl ?_)))))
 refine wAv rfl rfl (wAt rfl rfl rfl rfl rfl (by kernel_rfl) (wEo nv s.now M hn hnl)) ?_; rintro _ M1 _ ⟨hM1, R5, rfl, hown⟩
 obtain ⟨na, nc, rfl⟩ := hown.form
 refine sFa rfl ?_
 refine sSt rfl ?_
 refine wAc (jT (wAb (wAa (sFa rfl ?_))))
 refine sFL rfl rfl ?_
 refine wAi rfl rfl (wAy rfl rfl rfl rfl rfl (by kernel_rfl) (clip_spec wa s.waits.length wc M1 hw hwl)) ?_
 refine sFF rfl rfl ?_
 refine sSt rfl ?_
 refine wAc (jT (wAb (wAa (sLL rfl ?_))))
 refine wAi rfl rfl (wAq (cs := [_, _, _, _]) rfl rfl rfl (by rfl)) ?_
 refine wAv rfl rfl (wBw (cs := [_, _, _, _]) rfl rfl rfl rfl) ?_; rintro _ _ _ ⟨b15, rfl, rfl, rfl⟩
 refine jp rfl (wAc (jT (wAf (wGi hown (by simp) ?_))))
 intro M2 a2 c2 hM2 e2 hc2 hs2; cases e2
 refine wCa b15 (by simp) ?_
 intro M3 hM3 e3
 refine wAu (L' := []) (by simp) ?_
 refine jr1 rfl rfl ?_
 exact ⟨⟨b15, _, _, rfl, e3, ⟨_, _, rfl, hc2, hs2.mono hM3⟩⟩, rfl⟩
theorem on_spec (s : Sto) (v : Value) (M : Mem) (h : ST M v s) (hwl : s.waits.length ≤ 1000000) (hnl : s.now.length ≤ 100000) :
  SpecL Tryz.prog 66 #[v] M [] fun u M' L' => (∀ M0, MLe M' M0 → MLe M M0 → BN M0 u s) ∧ L' = [] := by
 obtain ⟨b, w, n, l, rfl, h1, ⟨wa, wc, ps, rfl, hwc, hws, hp, hb⟩, h3, h4⟩ := h.ex
 refine (on_ro s b n l wa wc M hwc hwl h3 hnl).mono fun u M' L' hh => ?_
 obtain ⟨⟨p, na, nc, rfl, hp', hn'⟩, rfl⟩ := hh
 exact ⟨fun M0 k1 k2 => ⟨p, b, _, _, l, rfl, k1 _ _ hp', h1.mono k2, ⟨wa, _, ps, rfl, Nat.le_refl _, hws.mono k2, hp, fun p hp => (hb p hp).mono k2⟩, hn'.mono k1, h4.mono k2⟩, rfl⟩
def seen (s : Sto) (k : Nat) : List By := match s.waits.reverse.find? (fun w => w.1 == (k : Int)) with
 | some w => w.2
 | none => s.blocks.getD k []
def wCu (s : Sto) (k : Nat) : Option (Int × List It) := if s.now.getD k 0 = 0 then none else wDj (seen s k)
def BnPost (s : Sto) (k : Nat) (u : Value) (M' : Mem) : Prop := match wCu s k with
 | some (lv, xs) => ∃ sl, u = .tuple #[.agg #[.int .i64 lv, sl], .int .i64 0] ∧ NS M' sl xs
 | none => u = .tuple #[.agg zeroNd.toArray, .int .i64 8]
theorem NdPost.form {blk : List By} {u : Value} {M' : Mem} (h : NdPost blk u M') : ∃ lv a n c e, u = .tuple #[.agg #[.int .i64 lv, .slice a n c], .int .i64 e] ∧ ((e ≠ 0 ∧ wDj blk = none) ∨ (e = 0 ∧ ∃ xs, wDj blk = some (lv, xs) ∧ NS M' (.slice a n c) xs)) := by
 unfold NdPost at h
 split at h
 ·rename_i lv xs hr
  obtain ⟨sl, rfl, hns⟩ := h
  obtain ⟨a, c, ps, rfl, h1, h2, h3, h4⟩ := id hns
  exact ⟨lv, a, _, c, 0, rfl, .inr ⟨rfl, xs, hr, hns⟩⟩
 rename_i hr
 obtain ⟨e, he, rfl⟩ := h
 exact ⟨0, none, 0, 0, e, rfl, .inl ⟨he, hr⟩⟩
theorem wDb {α : Type} {xs : List α} {k : Nat} (h : k < xs.length) (d : α) : xs.getD k d = xs[k] := by simp [List.getD, h]
theorem seen_none {s : Sto} {k : Nat} {ps : List (Wt × Value)} (hp : ps.map (·.1) = s.waits) (h : ∀ p ∈ bw ps 0, p.1.1.1 ≠ (k : Int)) : seen s k = s.blocks.getD k [] := by
 unfold seen
 have : s.waits.reverse.find? (fun w => w.1 == (k : Int)) = none := by
  rw [List.find?_eq_none]
  intro w hw
  rw [← hp, ← List.map_reverse, ← bw_fst, List.map_map] at hw
  obtain ⟨p, hp1, rfl⟩ := List.mem_map.1 hw
  simpa using h p hp1
 rw [this]
theorem seen_some {s : Sto} {k : Nat} {ps : List (Wt × Value)} (hp : ps.map (·.1) = s.waits) {pre : List ((Wt × Value) × Nat)} {y : (Wt × Value) × Nat} (hpre : pre ++ [y] <+: bw ps 0) (h : ∀ p ∈ pre, p.1.1.1 ≠ (k : Int)) (hy : y.1.1.1 = (k : Int)) : seen s k = y.1.1.2 := by
 unfold seen
 obtain ⟨r, hr⟩ := hpre
 have : s.waits.reverse.find? (fun w => w.1 == (k : Int)) = some y.1.1 := by
  rw [← hp, ← List.map_reverse, ← bw_fst, List.map_map, ← hr, List.map_append, List.map_append, List.append_assoc, List.find?_append, List.find?_eq_none.2]
  ·simp [hy]
  intro w hw
  obtain ⟨p, hp1, rfl⟩ := List.mem_map.1 hw
  simpa using h p hp1
 rw [this]
theorem seen_len {s : Sto} (h : wDr s) {k : Nat} (hk : k < 256) : (seen s k).length = 128 := by
 obtain ⟨⟨h1, h2, h3, h4⟩, _⟩ := h
 unfold seen
 split
 ·rename_i w hw
  exact (h4 w (List.mem_reverse.1 (List.mem_of_find?_eq_some hw))).2.2
 rw [wDb (by omega)]; exact h3 _ (List.getElem_mem _)
theorem bw_mem {α : Type} {xs : List α} {y : α × Nat} (h : y ∈ bw xs 0) : y.1 ∈ xs := by
 have : y.1 ∈ (bw xs 0).map (·.1) := List.mem_map_of_mem h
 rw [bw_fst] at this; exact List.mem_reverse.1 this
set_option maxHeartbeats 2000000 in
theorem bnode_walk (s : Sto) (k : Nat) (hk : k < 256) (hst : wDr s) (p : Nat) (bv nv lv : Value) (wa : Option Addr) (wc : Nat) (ps : List (Wt × Value)) (M : Mem) (hpm : M p = some (.cells [bv, .slice wa s.waits.length wc, nv, lv].toArray TBn (0, 0))) (h1 : LS M bv s.blocks) (hwc : s.waits.length ≤ wc) (hws : SM M wa (ps.flatMap wBs)) (hp : ps.map (·.1) = s.waits) (hb : ∀ q ∈ ps, BS M q.2 q.1.2) (h3 : BS M nv s.now) :
  SpecL Tryz.prog 90 #[.pointer (some ⟨p, 0, none⟩), .int .i64 k] M [] fun u M' L' => BnPost s k u (wDm M M') ∧ L' = [] := by
 have hp0 : ∀ {M2 : Mem} (L : Lc) (i : Nat) (v : Value), MLe M M2 → [bv, .slice wa s.waits.length wc, nv, lv][i]? = some v → CJ M2 L p i v := fun L i v h hv => (CM.cj ⟨_, _, _, h _ _ hpm, by simpa using hv⟩ L)
 obtain ⟨⟨hq1, hq2, hq3, hq4⟩, ⟨hn1, _⟩, _⟩ := id hst
 obtain ⟨na, nc, rfl, hnc, hns⟩ := h3
 obtain ⟨nb, no, e0, hnx⟩ := hns.open (by intro e; have := congrArg List.length e; rw [wAm, List.length_nil] at this; omega)
 subst e0
 obtain ⟨ba, bc, ps1, rfl, hbc, hbs, hbp, hbb⟩ := h1
 obtain ⟨bb, bo, e0, hbx⟩ := hbs.open (by intro e; have := congrArg List.length e; rw [List.length_map, List.length_nil] at this; have h2 := congrArg List.length hbp; rw [List.length_map] at h2; omega)
 subst e0
 obtain ⟨va, vc, hcl, hvc, hvs⟩ := wDp hbx hbp hbb (k := k) (by omega)
 refine wAe (vs := [_, _]) 54 _ Tryz.func90 rfl Tryz.ntmps90 rfl rfl ?_; intro W
 refine wAb (wAa (wAv rfl rfl (wBw (cs := [.int .i64 k]) rfl rfl rfl rfl) ?_)); rintro _ _ _ ⟨b3, rfl, rfl, rfl⟩
 refine sAl rfl fun b4 => ?_
 refine jp rfl (wAc (jT (wAb (wAb (wBn [(0, true), (1, true), (2, true), (3, true), (4, true), (5, true), (6, true), (7, true), (8, true)] _ (by kernel_rfl) (by kernel_rfl) (by kernel_rfl) rfl (fun _ h => h) ?_)))))
 refine dp rfl rfl ?_
 refine wBh rfl rfl rfl (wAx rfl rfl rfl) ?_
 refine dFa rfl rfl ?_
 refine dFa rfl rfl ?_
 refine wBh rfl rfl rfl (qLd rfl rfl rfl rfl (hp0 _ 2 _ (by first | exact MLe.refl _ | assumption) rfl)) ?_
 refine dLd rfl rfl ?_
 refine wBh rfl rfl rfl (wBb rfl rfl rfl rfl (by omega)) ?_
 refine wBh rfl rfl rfl (qLd rfl rfl rfl rfl ((hnx _ _ (by rw [Nat.mul_one]; exact wKh (j := k) (by omega))).cj _)) ?_
 refine ds rfl rfl (fun h19 => ?_) (fun h19 => ?_)
 ·refine wBg (jPn (jT (wAg rfl (wAb (wAa (wAi rfl rfl (wAq (cs := [_, _]) rfl rfl rfl (by rfl)) ?_))))))
  refine sSt rfl ?_
  refine jp rfl (wAc (jT (wAf (jTr (wBr (rs := [_, _]) ([]) (by simp) rfl (.cons (.agg rfl rfl rfl) (.cons (.tmp rfl) .nil)) ?_)))))
  refine ⟨?_, rfl⟩
  unfold BnPost wCu; rw [if_pos (UInt8.toNat.inj (by simpa using h19))]; rfl
 refine wBg (jPn (jT (wAk rfl (wAd (jT (wAb (wBn [(0, true), (1, true), (2, true), (3, true), (4, true), (5, true), (6, true), (7, true), (8, true), (9, false), (10, false)] _ (by kernel_rfl) (by kernel_rfl) (by kernel_rfl) rfl (fun _ h => h) ?_)))))))
 refine dp rfl rfl ?_
 refine wBh rfl rfl rfl (wAx rfl rfl rfl) ?_
 refine dFa rfl rfl ?_
 refine dFa rfl rfl ?_
 refine dFa rfl rfl ?_
 refine wBh rfl rfl rfl (qLd rfl rfl rfl rfl (hp0 _ 0 _ (by first | exact MLe.refl _ | assumption) rfl)) ?_
 refine dLd rfl rfl ?_
 refine wBh rfl rfl rfl (wBb rfl rfl rfl rfl (by omega)) ?_
 refine wBh rfl rfl rfl (qLd rfl rfl rfl rfl (hcl.cj _)) ?_
 refine wDy rfl rfl rfl (wCx rfl rfl) ?_; rintro _ _ _ ⟨b6, rfl, rfl, rfl⟩
 refine wGa (MLe.refl _) (fun _ h => List.mem_cons_of_mem _ h) (by first | exact MLe.refl _ | assumption) (by simp) ?_
 refine jd_s rfl rfl (wBd rfl rfl rfl rfl rfl rfl rfl rfl) ?_; rintro _ _ _ ⟨rfl, rfl⟩
 refine wGa (MLe.refl _) (fun _ h => List.mem_cons_of_mem _ h) (by first | exact MLe.refl _ | assumption) (by simp) ?_
 refine wBg (jPn (jT (wAb (wAb (wAa (jp rfl (wAi rfl rfl (wAx rfl rfl rfl) ?_)))))))
 refine sFF rfl rfl ?_
 refine sFa rfl ?_
 refine wAi rfl rfl (qLd rfl rfl rfl rfl (hp0 _ 1 _ (by first | exact MLe.refl _ | assumption) rfl)) ?_
 refine wAv rfl rfl (wAt rfl rfl rfl rfl rfl (by kernel_rfl) (bww _ _ _ M)) ?_; rintro _ M1 _ ⟨hM1, _, rfl, ⟨b36, rfl, e36, rfl⟩⟩
 have hpl : ps.length = s.waits.length := by rw [← hp, List.length_map]
 rw [← hpl] at e36
 refine wAc (jT (wAh (jc_freeze b3 (by simp) ?_)))
 intro M1f hM1f e3
 replace e36 := hM1f _ _ e36
 replace hM1 := hM1.trans hM1f
 refine jc_range (R := [(b6, .cells [.slice va s.blocks[k].length vc].toArray 26 (0, 0))]) (xs := bw ps 0) (enc := (fun p : (Wt × Value) × Nat => [.int .i64 p.2, .agg (wBs p.1).toArray])) (ps := [37, 38]) rfl (by kernel_rfl) (bww_iter b36 wa wc ps M1f e36 (hws.mono hM1) (by omega))
  (fun pre _ R => R = [(b6, .cells [.slice va s.blocks[k].length vc].toArray 26 (0, 0))] ∧ ∀ q ∈ pre, q.1.1.1 ≠ (k : Int))
  (fun c _ M' R => c = .exit 0 ∧ ∃ v, R = [(b6, .cells [v].toArray 26 (0, 0))] ∧ BS M' v (seen s k))
  (fun _ => rfl) (by decide) ⟨rfl, fun _ h => by cases h⟩ ?_ ?_ ?_
 ·intro l W2 pre y M2 R2 hM2 hI hpre
  obtain ⟨rfl, hI⟩ := hI
  have hym : y.1 ∈ ps := bw_mem (hpre.subset (by simp))
  obtain ⟨⟨yw, yv⟩, yi⟩ := y
  have hyb := hb _ hym
  obtain ⟨ya, yc, hyv, hyc, hys⟩ := id hyb
  change yv = Value.slice ya yw.2.length yc at hyv; subst hyv
  refine wAa (sAl rfl fun b8 => ?_)
  refine sSt rfl ?_
  refine wAc (jK fun W' => ?_)
  refine wAh (wAb (wAa (sFL rfl rfl ?_)))
  refine wAi rfl rfl (qLd rfl rfl rfl rfl (CM.cj ⟨_, _, _, hM2 _ _ e3, rfl⟩ _)) ?_
  refine js rfl (fun h42 => ?_) (fun h42 => ?_)
  ·refine wAc (jT (wAg rfl (wAb (wAa (sFL rfl rfl ?_)))))
   refine sSt rfl ?_
   refine wAc (jT (wAs (jBo rfl ?_)))
   refine wAu (L' := [(b6, .cells [.slice ya yw.2.length yc].toArray 26 (0, 0))]) (by simp) ?_
   refine jQx ?_
   refine ⟨rfl, _, rfl, ?_⟩
   rw [seen_some hp hpre hI h42]
   exact hyb.mono (hM1.trans hM2)
  refine wAc (jT (wAk rfl (wAd (jB (wAu (L' := [(b6, .cells [.slice va s.blocks[k].length vc].toArray 26 (0, 0))]) (by simp) ?_)))))
  refine jQn ?_
  refine ⟨rfl, fun q hq => ?_⟩
  rcases List.mem_append.1 hq with hq | hq
  ·exact hI q hq
  rw [List.mem_singleton.1 hq]; exact h42
 ·intro d M2 R2 hM2 hI
  obtain ⟨rfl, hI⟩ := hI
  have hsn := seen_none hp hI
  rw [wDb (by omega)] at hsn
  obtain ⟨v6, hv6e⟩ : ∃ v6, v6 = Value.slice va s.blocks[k].length vc := ⟨_, rfl⟩
  have hv6 : BS M2 v6 (seen s k) := by rw [hsn, hv6e]; exact ⟨va, vc, rfl, hvc, hvs.mono (hM1.trans hM2)⟩
  rw [← hv6e]
  refine jB (jT (wAb (wAa (sLd rfl ?_))))
  refine wAv rfl rfl (wAt rfl rfl rfl rfl rfl (by kernel_rfl) (nread_new v6 (seen s k) M2 hv6 (by rw [seen_len hst hk]; omega))) ?_; rintro _ M3 _ ⟨hM3, _, rfl, ⟨hnd, rfl⟩⟩
  replace hnd := hnd.mono (wGh (hM1.trans hM2) : MLe _ (wDm M M3))
  obtain ⟨nl, la, ln, lc, e, rfl, hnd2⟩ := NdPost.form hnd
  refine jp rfl (jp rfl (jp rfl (sAl rfl fun b9 => ?_)))
  refine sSt rfl ?_
  refine jp rfl (wAc (jT (wAb (wAb (wAa (jp rfl (js rfl (fun h51 => ?_) (fun h51 => ?_))))))))
  ·refine wAc (jT (wAg rfl (wAb (wAa (wAi rfl rfl (wAq (cs := [_, _]) rfl rfl rfl (by rfl)) ?_)))))
   refine sSt rfl ?_
   refine jp rfl (wAc (jT (wAf (jTr (jr_mark (L2 := _) Rm.perm ?_)))))
   refine wBr (rs := [_, _]) ([]) (by simp) rfl (.cons (.agg rfl rfl rfl) (.cons (.tmp rfl) .nil)) ?_
   refine ⟨?_, rfl⟩
   have hne : ¬ s.now.getD k 0 = 0 := fun e => h19 (by rw [e]; rfl)
   unfold BnPost wCu; rw [if_neg hne]
   rcases hnd2 with ⟨he, hr⟩ | ⟨rfl, xs, hr, hns⟩
   ·rw [hr]; first | rfl | exact absurd he h51
   rw [hr]; first | exact ⟨_, rfl, hns⟩ | exact absurd rfl h51
  refine wAc (jT (wAk rfl (wAd (jT (wAb (wAa (sLL rfl ?_)))))))
  refine sSt rfl ?_
  refine jp rfl (wAc (jT (wAf (jr_mark (L2 := _) Rm.perm ?_))))
  refine wBr (rs := [_, _]) ([]) (by simp) rfl (.cons (.agg rfl rfl rfl) (.cons (.tmp rfl) .nil)) ?_
  refine ⟨?_, rfl⟩
  have hne : ¬ s.now.getD k 0 = 0 := fun e => h19 (by rw [e]; rfl)
  unfold BnPost wCu; rw [if_neg hne]
  rcases hnd2 with ⟨he, hr⟩ | ⟨rfl, xs, hr, hns⟩
  ·rw [hr]; first | rfl | exact absurd he h51
  rw [hr]; first | exact ⟨_, rfl, hns⟩ | exact absurd rfl h51
 intro d c pre M2 R2 hM2 hpre hI
 obtain ⟨rfl, v6, rfl, hv6⟩ := hI
 refine wAs (jBx (jT (wAb (wAa (sLd rfl ?_)))))
 refine wAv rfl rfl (wAt rfl rfl rfl rfl rfl (by kernel_rfl) (nread_new v6 (seen s k) M2 hv6 (by rw [seen_len hst hk]; omega))) ?_; rintro _ M3 _ ⟨hM3, _, rfl, ⟨hnd, rfl⟩⟩
 replace hnd := hnd.mono (wGh (hM1.trans hM2) : MLe _ (wDm M M3))
 obtain ⟨nl, la, ln, lc, e, rfl, hnd2⟩ := NdPost.form hnd
 refine jp rfl (jp rfl (jp rfl (sAl rfl fun b9 => ?_)))
 refine sSt rfl ?_
 refine jp rfl (wAc (jT (wAb (wAb (wAa (jp rfl (js rfl (fun h51 => ?_) (fun h51 => ?_))))))))
 ·refine wAc (jT (wAg rfl (wAb (wAa (wAi rfl rfl (wAq (cs := [_, _]) rfl rfl rfl (by rfl)) ?_)))))
  refine sSt rfl ?_
  refine jp rfl (wAc (jT (wAf (jTr (jr_mark (L2 := _) Rm.perm ?_)))))
  refine wBr (rs := [_, _]) ([]) (by simp) rfl (.cons (.agg rfl rfl rfl) (.cons (.tmp rfl) .nil)) ?_
  refine ⟨?_, rfl⟩
  have hne : ¬ s.now.getD k 0 = 0 := fun e => h19 (by rw [e]; rfl)
  unfold BnPost wCu; rw [if_neg hne]
  rcases hnd2 with ⟨he, hr⟩ | ⟨rfl, xs, hr, hns⟩
  ·rw [hr]; first | rfl | exact absurd he h51
  rw [hr]; first | exact ⟨_, rfl, hns⟩ | exact absurd rfl h51
 refine wAc (jT (wAk rfl (wAd (jT (wAb (wAa (sLL rfl ?_)))))))
 refine sSt rfl ?_
 refine jp rfl (wAc (jT (wAf (jr_mark (L2 := _) Rm.perm ?_))))
 refine wBr (rs := [_, _]) ([]) (by simp) rfl (.cons (.agg rfl rfl rfl) (.cons (.tmp rfl) .nil)) ?_
 refine ⟨?_, rfl⟩
 have hne : ¬ s.now.getD k 0 = 0 := fun e => h19 (by rw [e]; rfl)
 unfold BnPost wCu; rw [if_neg hne]
 rcases hnd2 with ⟨he, hr⟩ | ⟨rfl, xs, hr, hns⟩
 ·rw [hr]; first | rfl | exact absurd he h51
 rw [hr]; first | exact ⟨_, rfl, hns⟩ | exact absurd rfl h51
theorem BnPost.mono {s : Sto} {k : Nat} {u : Value} {M M' : Mem} (h : BnPost s k u M) (hM : MLe M M') : BnPost s k u M' := by
 unfold BnPost at *
 split at h
 ·obtain ⟨s, e, h2⟩ := h; exact ⟨s, e, h2.mono hM⟩
 exact h
theorem bnode_new (s : Sto) (k : Nat) (v : Value) (M : Mem) (hst : wDr s) (hk : k < 256) (h : BN M v s) : SpecL Tryz.prog 90 #[v, .int .i64 k] M [] fun u M' L' => BnPost s k u (wDm M M') ∧ L' = [] := by
 obtain ⟨p, b, w, n, l, rfl, hpm, h1, ⟨wa, wc, ps, rfl, hwc, hws, hp, hb⟩, h3, h4⟩ := h.ex
 exact bnode_walk s k hk hst p b n l wa wc ps M hpm h1 hwc hws hp hb h3
theorem bnode_spec (s : Sto) (k : Nat) (v : Value) (M : Mem) (hst : wDr s) (hk : k < 256) (h : BN M v s) : SpecL Tryz.prog 90 #[v, .int .i64 k] M [] fun u M' L' => BnPost s k u M' ∧ L' = [] :=
 (bnode_new s k v M hst hk h).mono fun _ _ _ ⟨h1, h2⟩ => ⟨h1.mono (wHr _ _), h2⟩
end Go.Proofs.YtbhkdjheooknfaaGreat
