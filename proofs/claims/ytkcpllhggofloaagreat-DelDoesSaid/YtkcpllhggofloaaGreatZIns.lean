/- Walks: items put into a row of one's own. -/
import Derived.Test.YtkcpllhggofloaaGreatZLeave
import Derived.Test.YtkcpllhggofloaaGreatZSp
import Derived.Test.YtkcpllhggofloaaGreatZHk
import Derived.Lib.AppendZerosOnto
import Derived.Lib.Overlaps
import Derived.Test.YtkcpllhggofloaaGreatZMake
namespace Go.Proofs.YtkcpllhggofloaaGreat
set_option linter.unusedSimpArgs false
set_option linter.unusedVariables false
set_option linter.unusedSectionVars false
open Go.RowKit
theorem mkE_ok {s : Sto} {lv : Int} {xs : List It} (h : mkE s lv xs = 0) (hw : s.waits.length ≤ 4096) : wEv lv xs = true ∧ shE s xs = 0 ∧ wEt (wAx s xs) < 256 ∧ s.waits.length < 4096 := by
 unfold mkE at h
 by_cases h1 : wEv lv xs = true
 ·rw [if_pos h1] at h
  by_cases h2 : shE s xs = 0
  ·rw [if_pos h2] at h
   by_cases h3 : wEt (wAx s xs) = 256 ∨ s.waits.length = 4096
   ·rw [if_pos h3] at h; cases h
   have := mkAt_le (wAx s xs)
   exact ⟨h1, h2, by omega, by omega⟩
  rw [if_neg h2] at h; exact absurd h h2
 rw [if_neg h1] at h; cases h
def PS (M : Mem) (v : Value) (ls : List (List It)) : Prop := ∃ a c, ∃ ps : List (List It × Value), v = .slice a ls.length c ∧ ls.length ≤ c ∧ SM M a (ps.map (·.2)) ∧ ps.map (·.1) = ls ∧ ∀ p ∈ ps, NS M p.2 p.1
theorem PS.mono {M M' : Mem} {v : Value} {ls : List (List It)} (h : PS M v ls) (hM : MLe M M') : PS M' v ls := by
 obtain ⟨a, c, ps, h1, h2, h3, h4, h5⟩ := h; exact ⟨a, c, ps, h1, h2, h3.mono hM, h4, fun p hp => (h5 p hp).mono hM⟩
theorem PS.get {M : Mem} {sb so : Nat} {ls : List (List It)} {ps : List (List It × Value)} (hx : ∀ i u, (ps.map (·.2))[i]? = some u → CM M sb (so + i) u) (hp : ps.map (·.1) = ls) (hb : ∀ p ∈ ps, NS M p.2 p.1) {k : Nat} (hk : k < ls.length) :
  ∃ v, CM M sb (so + k * 1) v ∧ NS M v ls[k] := by
 have hk2 : k < ps.length := by rw [← hp, List.length_map] at hk; exact hk
 have hxk : ls[k] = ps[k].1 := by simp [← hp]
 refine ⟨ps[k].2, ?_, by rw [hxk]; exact hb _ (List.getElem_mem hk2)⟩
 rw [Nat.mul_one]
 exact hx k _ (by rw [List.getElem?_map, List.getElem?_eq_getElem hk2, Option.map_some])
theorem NS.take {M : Mem} {a : Option Addr} {c n : Nat} {xs : List It} (h : NS M (.slice a xs.length c) xs) (hn : n ≤ xs.length) : NS M (.slice a n c) (xs.take n) := by
 obtain ⟨a2, c2, ps, e, h2, h3, h4, h5⟩ := h
 cases e
 refine ⟨a, c, ps.take n, by rw [List.length_take, Nat.min_eq_left hn], by rw [List.length_take]; omega, ?_, by rw [List.map_take, h4], fun p hp => h5 p (List.mem_of_mem_take hp)⟩
 rcases h3 with h3 | ⟨b, off, rfl, h3⟩
 ·left
  have : ps = [] := by
   cases ps with
   | nil => rfl
   | cons p ps => simp [wAs] at h3
  rw [this]; simp
 right
 refine ⟨b, off, rfl, fun i u hu => h3 i u ?_⟩
 have hi := (List.getElem?_eq_some_iff.1 hu).1
 have e : ps.flatMap wAs = (ps.take n).flatMap wAs ++ (ps.drop n).flatMap wAs := by rw [← List.flatMap_append, List.take_append_drop]
 rw [e, List.getElem?_append_left hi]; exact hu
theorem NS.drop {M : Mem} {a : Option Addr} {c n : Nat} {xs : List It} (h : NS M (.slice a xs.length c) xs) (hn : n < xs.length) : NS M (.slice (slA a n c 5) (xs.length - n) (c - n)) (xs.drop n) := by
 obtain ⟨a2, c2, ps, e, h2, h3, h4, h5⟩ := h
 cases e
 have hpl : ps.length = xs.length := by rw [← h4, List.length_map]
 refine ⟨_, _, ps.drop n, by rw [List.length_drop], by rw [List.length_drop]; omega, ?_, by rw [List.map_drop, h4], fun p hp => h5 p (List.mem_of_mem_drop hp)⟩
 rcases h3 with h3 | ⟨b, off, rfl, h3⟩
 ·exfalso
  have := congrArg List.length h3
  rw [wBi wAs 5 wAq, List.length_nil] at this; omega
 right
 refine ⟨b, off + n * 5, wBn (by omega), fun i u hu => ?_⟩
 have e : ps.flatMap wAs = (ps.take n).flatMap wAs ++ (ps.drop n).flatMap wAs := by rw [← List.flatMap_append, List.take_append_drop]
 have hl : ((ps.take n).flatMap wAs).length = n * 5 := by rw [wBi wAs 5 wAq, List.length_take, Nat.min_eq_left (by omega)]
 have := h3 (n * 5 + i) u (by rw [e, List.getElem?_append_right (by omega), show n * 5 + i - ((ps.take n).flatMap wAs).length = i by omega]; exact hu)
 rwa [← Nat.add_assoc] at this
def ucell (x : It) : List Value := wAs (x, .slice none 0 0)
theorem mkS_wl (s : Sto) (lv : Int) (xs : List It) : (mkS s lv xs).waits.length = s.waits.length + 1 := by
 show ((wAx s xs).waits ++ [_]).length = _
 rw [(wDp s xs).2.1, List.length_append]; rfl
theorem key_itc {x : It} {va : Option Addr} {vc i : Nat} {v : Value} (hv : (wBb x.key)[i]? = some v) : (itc x va vc)[i]? = some v := by
 match i, hv with
 | 0, hv => exact hv
 | 1, hv => exact hv
 | 2, hv => exact hv
 | n + 3, hv => simp [wBb] at hv
def BdPost (r : Except Int (Sto × List It)) (bb : Nat) (Lb : Lc) (u : Value) (M' : Mem) (L' : Lc) : Prop := match r with
 | .error e => e ≠ 0 ∧ u = .tuple #[.slice none 0 0, .int .i64 e]
 | .ok (t, up) => ∃ a c Ru Lb', u = .tuple #[.slice a up.length c, .int .i64 0] ∧ L' = Ru ++ Lb' ∧ wCc t ∧ BOwn M' bb Lb' t ∧ Own (.slice a up.length c) Ru IT 5 up.length (up.flatMap ucell) ∧ (∀ x ∈ up, x.val = []) ∧ ∀ p ∈ Ru, p.1 ∉ Lb.map (·.1)
structure B1S where
 j : Nat
 s : Sto
 up : List It
 M : Mem
 L : Lc
 R : Lc
 v : Value
structure B1I (bb : Nat) (s0 : Sto) (lv : Int) (l : List It) (Mz : Mem) (W : World) (x : B1S) : Prop where
 le : x.j ≤ (parts l).length
 mle : MLe Mz x.M
 bo : BOwn x.M bb x.L x.s
 ok : wCc x.s
 own : Own x.v x.R IT 5 x.up.length (x.up.flatMap ucell)
 eq : mkP lv (parts l) s0 [] = mkP lv ((parts l).drop x.j) x.s x.up
 ul : x.up.length = x.j
 val : ∀ y ∈ x.up, y.val = []
 nw : ∀ p ∈ x.R, W.heap.size ≤ p.1
def askE (s : Sto) (k : Int) : Int := if wCc s then (if k < 8 ∨ 256 ≤ k then 2 else if s.now.getD k.toNat 0 = 0 then 6 else 0) else 8
theorem stChk_is (s : Sto) : stChk s = if wCc s then 0 else 8 := by unfold stChk; rfl
theorem ask_ok {s : Sto} {k : Int} (h : askE s k = 0) : wCc s ∧ 8 ≤ k ∧ k < 256 ∧ ¬ s.now.getD k.toNat 0 = 0 := by
 unfold askE at h
 split at h
 ·rename_i h1
  split at h
  ·cases h
  rename_i h2
  split at h
  ·cases h
  rename_i h3; exact ⟨h1, by omega, by omega, h3⟩
 cases h
theorem ask_yes {s : Sto} {k : Int} (h1 : wCc s) (h2 : 8 ≤ k ∧ k < 256) (h3 : ¬ s.now.getD k.toNat 0 = 0) : askE s k = 0 := by
 unfold askE; rw [if_pos h1, if_neg (by omega), if_neg h3]
theorem asked_walk (s : Sto) (k : Int) (bv wv nv lv : Value) (M : Mem) (hST : ST M (.agg #[bv, wv, nv, lv]) s) :
  SpecL Tryz.prog 59 #[.agg #[bv, wv, nv, lv], .int .i64 k] M [] fun u _ _ => u = .int .i64 (askE s k) := by
 obtain ⟨bv2, wv2, nv2, lv2, e0, g1, g2, g3, g4⟩ := hST.ex
 simp only [Value.agg.injEq, Array.mk.injEq, List.cons.injEq, and_true] at e0
 obtain ⟨rfl, rfl, rfl, rfl⟩ := e0
 obtain ⟨na, nc, rfl, hnc, hns⟩ := g3
 have hck := stChk_is s
 refine wAf (vs := [_, _]) 23 _ Tryz.func59 rfl Tryz.ntmps59 rfl rfl ?_; intro W
 refine wAb (wAa (wAy rfl rfl (wCm (cs := [_, _, _, _]) rfl rfl rfl rfl) ?_)); rintro _ _ _ ⟨b2, rfl, rfl, rfl⟩
 refine jp rfl (wAc (jT (wAb (wAb (wAa (sLL rfl ?_))))))
 refine wAi rfl rfl (wBr rfl rfl rfl rfl rfl (by kernel_rfl) (rcheck_spec s _ M hST)) ?_
 refine jp rfl (wAc (jT (wAb (wAa (jp rfl (js rfl (fun h9 => ?_) (fun h9 => ?_)))))))
 ·refine wAc (jT (wAg rfl (wAb (wAa (jp rfl (jp rfl (wAc (jT (wAe (jTr (jr1 rfl rfl ?_)))))))))))
  have hns : ¬ wCc s := fun h => h9 (by rw [hck, if_pos h])
  show Value.int .i64 (stChk s) = _
  unfold askE; rw [if_neg hns, hck, if_neg hns]
 refine wAc (jT (wAk rfl (wAd (jT (wAb (wAb (wAa (jp rfl (js rfl (fun h12 => ?_) (fun h12 => ?_))))))))))
 ·refine jp rfl (jp rfl (jp rfl (jp rfl (wAc (jT (wAg rfl (wAb (wAa (jp rfl (wAc (jT (wAe (jTr (jr1 rfl rfl ?_))))))))))))))
  have hst : wCc s := Classical.byContradiction fun h => h9 (by rw [hck, if_neg h]; decide)
  unfold askE; rw [if_pos hst, if_pos (by omega)]
 refine jp rfl (jp rfl (js rfl (fun h15 => ?_) (fun h15 => ?_)))
 ·refine jp rfl (wAc (jT (wAg rfl (wAb (wAa (jp rfl (wAc (jT (wAe (jTr (jr1 rfl rfl ?_)))))))))))
  have hst : wCc s := Classical.byContradiction fun h => h9 (by rw [hck, if_neg h]; decide)
  unfold askE; rw [if_pos hst, if_pos (by omega)]
 refine jp rfl (wAc (jT (wAk rfl (wAd (jT (wAb (wAb (wAa (sFL rfl rfl ?_)))))))))
 refine jp rfl ?_
 have hst : wCc s := Classical.byContradiction fun h => h9 (by rw [hck, if_neg h]; decide)
 have hn256 : s.now.length = 256 := hst.2.1.1
 obtain ⟨nb, no, e0, hnx⟩ := hns.open (by intro e; have := congrArg List.length e; rw [wAm, List.length_nil] at this; omega)
 subst e0
 refine wAi rfl rfl (wBe rfl rfl rfl rfl (by omega)) ?_
 refine wAi rfl rfl (qLd rfl rfl rfl rfl ((hnx _ _ (by rw [Nat.mul_one]; exact wHy (j := k.toNat) (by omega))).cj _)) ?_
 refine js rfl (fun h22 => ?_) (fun h22 => ?_)
 ·refine wAc (jT (wAg rfl (wAb (wAa (jp rfl (wAc (jT (wAe (jTr (jr1 rfl rfl ?_))))))))))
  unfold askE; rw [if_pos hst, if_neg (by omega), if_pos (UInt8.toNat_inj.1 (show (s.now.getD k.toNat 0).toNat = (0 : UInt8).toNat by have h0 : ((s.now.getD k.toNat 0).toNat : Int) = 0 := h22; have h1 : (0 : UInt8).toNat = 0 := rfl; omega))]
 refine wAc (jT (wAk rfl (wAd (jT (wAb (wAa (jp rfl (wAc (jT (wAe (jr1 rfl rfl ?_)))))))))))
 unfold askE; rw [if_pos hst, if_neg (by omega), if_neg (fun e => h22 (by rw [e]; rfl))]
set_option maxHeartbeats 2000000 in
theorem roomseen_walk (s : Sto) (k : Nat) (hk : k < 256) (hst : wCc s) (bv : Value) (wa : Option Addr) (wc : Nat) (ps : List (Wt × Value)) (M : Mem) (h1 : LS M bv s.blocks) (hwc : s.waits.length ≤ wc) (hws : SM M wa (ps.flatMap wCv)) (hp : ps.map (·.1) = s.waits) (hb : ∀ q ∈ ps, BS M q.2 q.1.2) :
  SpecL Tryz.prog 60 #[.agg #[bv, .slice wa s.waits.length wc], .int .i64 k] M [] fun u M' L' => BS M' u (seen s k) ∧ L' = [] := by
 obtain ⟨⟨hq1, hq2, hq3, hq4⟩, ⟨hn1, _⟩, _⟩ := id hst
 obtain ⟨ba, bc, ps1, rfl, hbc, hbs, hbp, hbb⟩ := h1
 obtain ⟨bb, bo, e0, hbx⟩ := hbs.open (by intro e; have := congrArg List.length e; rw [List.length_map, List.length_nil] at this; have h2 := congrArg List.length hbp; rw [List.length_map] at h2; omega)
 subst e0
 obtain ⟨va, vc, hcl, hvc, hvs⟩ := wEy hbx hbp hbb (k := k) (by omega)
 refine wAf (vs := [_, _]) 23 _ Tryz.func60 rfl Tryz.ntmps60 rfl rfl ?_; intro W
 refine wAb (wAa (wAy rfl rfl (wCm (cs := [_, _]) rfl rfl rfl rfl) ?_)); rintro _ _ _ ⟨b2, rfl, rfl, rfl⟩
 refine wAy rfl rfl (wCm (cs := [.int .i64 k]) rfl rfl rfl rfl) ?_; rintro _ _ _ ⟨b3, rfl, rfl, rfl⟩
 refine sAl rfl fun b4 => ?_
 refine wAc (jT (wAb (wAb (wAa (sFL rfl rfl ?_)))))
 refine wAy rfl rfl (wAu rfl rfl rfl rfl rfl (by kernel_rfl) (bww _ _ _ M)) ?_; rintro _ M1 _ ⟨hM1, _, rfl, ⟨b36, rfl, e36, rfl⟩⟩
 have hpl : ps.length = s.waits.length := by rw [← hp, List.length_map]
 rw [← hpl] at e36
 refine wAc (jT (wAh (wHk b2 (by simp) ?_)))
 intro M2f hM2f e2
 refine wHk b3 (by simp) ?_
 intro M1f hM1f e3
 replace e2 := hM1f _ _ e2
 replace e36 := hM1f _ _ (hM2f _ _ e36)
 replace hM1 := hM1.trans (hM2f.trans hM1f)
 refine wLq (R := [(b4, .cells [.slice none 0 0].toArray 26 (0, 0))]) (xs := bw ps 0) (enc := (fun p : (Wt × Value) × Nat => [.int .i64 p.2, .agg (wCv p.1).toArray])) (ps := [10, 11]) rfl (by kernel_rfl) (bww_iter b36 wa wc ps M1f e36 (hws.mono hM1) (by omega))
  (fun pre _ R => R = [(b4, .cells [.slice none 0 0].toArray 26 (0, 0))] ∧ ∀ q ∈ pre, q.1.1.1 ≠ (k : Int))
  (fun c _ M' R => c = .ret ∧ ∃ v, R = [(b4, .cells [v].toArray 26 (0, 0))] ∧ BS M' v (seen s k))
  (fun _ => rfl) (by decide) ⟨rfl, fun _ h => by cases h⟩ ?_ ?_ ?_
 ·intro l W2 pre y M2 R2 hM2 hI hpre
  obtain ⟨rfl, hI⟩ := hI
  have hym : y.1 ∈ ps := bw_mem (hpre.subset (by simp))
  obtain ⟨⟨yw, yv⟩, yi⟩ := y
  have hyb := hb _ hym
  obtain ⟨ya, yc, hyv, hyc, hys⟩ := id hyb
  change yv = Value.slice ya yw.2.length yc at hyv; subst hyv
  refine wAa (sAl rfl fun b6 => ?_)
  refine sSt rfl ?_
  refine wAc (jK fun W' => ?_)
  refine wAh (wAb (wAa (sFL rfl rfl ?_)))
  refine wAi rfl rfl (qLd rfl rfl rfl rfl (CM.cj ⟨_, _, _, hM2 _ _ e3, rfl⟩ _)) ?_
  refine js rfl (fun h15 => ?_) (fun h15 => ?_)
  ·refine wAc (jT (wAg rfl (wAb (wAa (sFL rfl rfl ?_)))))
   refine sSt rfl ?_
   refine wAc (jT (wAe (jBr (wAr (L' := [(b4, .cells [.slice ya yw.2.length yc].toArray 26 (0, 0))]) (by simp) ?_))))
   refine jQr ?_
   refine ⟨rfl, _, rfl, ?_⟩
   rw [seen_some hp hpre hI h15]
   exact hyb.mono (hM1.trans hM2)
  refine wAc (jT (wAk rfl (wAd (jB (wAr (L' := [(b4, .cells [.slice none 0 0].toArray 26 (0, 0))]) (by simp) ?_)))))
  refine jQn ?_
  refine ⟨rfl, fun q hq => ?_⟩
  rcases List.mem_append.1 hq with hq | hq
  ·exact hI q hq
  rw [List.mem_singleton.1 hq]; exact h15
 ·intro d M2 R2 hM2 hI
  obtain ⟨rfl, hI⟩ := hI
  have hsn := seen_none hp hI
  rw [wCp (by omega)] at hsn
  refine jB (jT (wAb (wAa (sFa rfl ?_))))
  refine wAi rfl rfl (qLd rfl rfl rfl rfl (CM.cj ⟨_, _, _, hM2 _ _ e2, rfl⟩ _)) ?_
  refine wAi rfl rfl (qLd rfl rfl rfl rfl (CM.cj ⟨_, _, _, hM2 _ _ e3, rfl⟩ _)) ?_
  refine wAi rfl rfl (wBe rfl rfl rfl rfl (by omega)) ?_
  refine wAi rfl rfl (qLd rfl rfl rfl rfl ((hcl.mono (hM1.trans hM2)).cj _)) ?_
  refine sSt rfl ?_
  refine wAc (jT (wAe (wFq (L2 := _) Rm.perm ?_)))
  refine wDa (rs := [_]) ([]) (by simp) rfl (.cons (.one rfl rfl rfl) .nil) ?_
  exact ⟨by rw [hsn]; exact ⟨va, vc, rfl, hvc, hvs.mono (hM1.trans hM2)⟩, rfl⟩
 intro d c pre M2 R2 hM2 hpre hI
 obtain ⟨rfl, v6, rfl, hv6⟩ := hI
 refine wAe (jBr (jTr (wFq (L2 := _) Rm.perm ?_)))
 refine wDa (rs := [_]) ([]) (by simp) rfl (.cons (.one rfl rfl rfl) .nil) ?_
 exact ⟨hv6, rfl⟩
def RnPost (s : Sto) (k : Int) (u : Value) (M' : Mem) : Prop :=
 if askE s k = 0 then BnPost s k.toNat u M' else u = .tuple #[.agg zeroNd.toArray, .int .i64 (askE s k)]
theorem ndAt_seen {s : Sto} {k : Nat} (h : ¬ s.now.getD k 0 = 0) : wBk s k = wDg (seen s k) := by unfold wBk; rw [if_neg h]
set_option maxHeartbeats 2000000 in
theorem rnode_walk (s : Sto) (k : Int) (bv wv nv lv : Value) (M : Mem) (hST : ST M (.agg #[bv, wv, nv, lv]) s) :
  SpecL Tryz.prog 30 #[.agg #[bv, wv, nv, lv], .int .i64 k] M [] fun u M' L' => RnPost s k u M' ∧ L' = [] := by
 obtain ⟨bv2, wv2, nv2, lv2, e0, g1, g2, g3, g4⟩ := hST.ex
 simp only [Value.agg.injEq, Array.mk.injEq, List.cons.injEq, and_true] at e0
 obtain ⟨rfl, rfl, rfl, rfl⟩ := e0
 obtain ⟨wa, wc, ps, rfl, hwc, hws, hp, hb⟩ := id g2
 refine wAf (vs := [_, _]) 28 _ Tryz.func30 rfl Tryz.ntmps30 rfl rfl ?_; intro W
 refine wAb (wAa (wAy rfl rfl (wCm (cs := [_, _, _, _]) rfl rfl rfl rfl) ?_)); rintro _ _ _ ⟨b2, rfl, rfl, rfl⟩
 refine sAl rfl fun b4 => ?_
 refine jp rfl (wAc (jT (wAb (wAb (wAa (sLL rfl ?_))))))
 refine jp rfl (wAi rfl rfl (wBr rfl rfl rfl rfl rfl (by kernel_rfl) (asked_walk s k bv _ nv lv M hST)) ?_)
 refine jp rfl (wAc (jT (wAb (wAa (jp rfl (js rfl (fun h13 => ?_) (fun h13 => ?_)))))))
 ·refine wAc (jT (wAg rfl (wAb (wAa (wAi rfl rfl (wBa (cs := [_, _]) rfl rfl rfl (by rfl)) ?_)))))
  refine jp rfl (sSt rfl ?_)
  refine jp rfl (wAc (jT (wAe (jTr (wDa (rs := [_, _]) ([]) (by simp) rfl (.cons (.agg rfl rfl rfl) (.cons (.tmp rfl) .nil)) ?_)))))
  exact ⟨by unfold RnPost; rw [if_neg h13]; rfl, rfl⟩
 refine wAc (jT (wAk rfl (wAd (jT (wAb (wAa (sFa rfl ?_)))))))
 refine sLL rfl ?_
 refine jp rfl ?_
 have hask := Classical.not_not.1 h13
 obtain ⟨hst, hk8, hk256, hnz⟩ := ask_ok hask
 obtain ⟨kn, rfl⟩ : ∃ n : Nat, k = (n : Int) := ⟨k.toNat, by omega⟩
 rw [Int.toNat_natCast] at hnz
 have hkn : kn < 256 := by omega
 refine wAy rfl rfl (wAu rfl rfl rfl rfl rfl (by kernel_rfl) (roomseen_walk s kn hkn hst bv wa wc ps M g1 hwc hws hp hb)) ?_; rintro _ M2 _ ⟨hM2, _, rfl, ⟨hv20, rfl⟩⟩
 simp only [nA]
 refine wAy rfl rfl (wAu rfl rfl rfl rfl rfl (by kernel_rfl) (nread_spec _ (seen s kn) M2 hv20 (by rw [seen_len hst hkn]; omega))) ?_; rintro _ M3 _ ⟨hM3, _, rfl, ⟨hnd, rfl⟩⟩
 simp only [nA]
 obtain ⟨nl, la, ln, lc, e, rfl, hnd2⟩ := NdPost.form hnd
 refine jp rfl (jp rfl (jp rfl (sAl rfl fun b7 => ?_)))
 refine sSt rfl ?_
 refine jp rfl (wAc (jT (wAb (wAb (wAa (jp rfl (js rfl (fun h25 => ?_) (fun h25 => ?_))))))))
 ·refine wAc (jT (wAg rfl (wAb (wAa (wAi rfl rfl (wBa (cs := [_, _]) rfl rfl rfl (by rfl)) ?_)))))
  refine sSt rfl ?_
  refine jp rfl (wAc (jT (wAe (jTr (wDa (rs := [_, _]) ([]) (by simp) rfl (.cons (.agg rfl rfl rfl) (.cons (.tmp rfl) .nil)) ?_)))))
  refine ⟨?_, rfl⟩
  unfold RnPost; rw [if_pos hask, Int.toNat_natCast]
  unfold BnPost; rw [ndAt_seen hnz]
  rcases hnd2 with ⟨he, hr⟩ | ⟨rfl, xs, hr, hns⟩
  ·rw [hr]; first | rfl | exact absurd he h25
  rw [hr]; first | exact ⟨_, rfl, hns⟩ | exact absurd rfl h25
 refine wAc (jT (wAk rfl (wAd (jT (wAb (wAa (sLL rfl ?_)))))))
 refine sSt rfl ?_
 refine jp rfl (wAc (jT (wAe (wDa (rs := [_, _]) ([]) (by simp) rfl (.cons (.agg rfl rfl rfl) (.cons (.tmp rfl) .nil)) ?_))))
 refine ⟨?_, rfl⟩
 unfold RnPost; rw [if_pos hask, Int.toNat_natCast]
 unfold BnPost; rw [ndAt_seen hnz]
 rcases hnd2 with ⟨he, hr⟩ | ⟨rfl, xs, hr, hns⟩
 ·rw [hr]; first | rfl | exact absurd he h25
 rw [hr]; first | exact ⟨_, rfl, hns⟩ | exact absurd rfl h25
theorem rnode_spec (s : Sto) (v : Value) (k : Int) (M : Mem) (h : ST M v s) : SpecL Tryz.prog 30 #[v, .int .i64 k] M [] fun u M' L' => RnPost s k u M' ∧ L' = [] := by
 obtain ⟨bv, wv, nv, lv, rfl, h1, h2, h3, h4⟩ := h.ex
 exact rnode_walk s k bv wv nv lv M ⟨bv, wv, nv, lv, rfl, h1, h2, h3, h4⟩
theorem RnPost.nd {s : Sto} {k : Int} {u : Value} {M' : Mem} {lev : Nat} {xs : List It} (h : RnPost s k u M') (h0 : askE s k = 0) (hnd : wBk s k.toNat = some ((lev : Int), xs)) : ∃ sl, u = .tuple #[.agg #[.int .i64 (lev : Int), sl], .int .i64 0] ∧ NS M' sl xs := by
 unfold RnPost at h; rw [if_pos h0] at h; unfold BnPost at h; rw [hnd] at h; exact h
theorem ndAt_nz {s : Sto} {k : Nat} {r : Int × List It} (h : wBk s k = some r) : ¬ s.now.getD k 0 = 0 := fun e => by unfold wBk at h; rw [if_pos e] at h; cases h
theorem rdNode_nd {blk : List By} {lv : Int} {xs : List It} (h : wDg blk = some (lv, xs)) : wEv lv xs = true := by
 unfold wDg at h
 split at h
 ·split at h
  ·split at h
   ·split at h
    ·rename_i hh
     cases h
     have := hh.1
     unfold wEp at this
     by_cases hn : wEv (((blk.drop 4).getD 1 0).toNat : Int) xs = true
     ·exact hn
     rw [if_neg hn] at this; cases this
    cases h
   cases h
  cases h
 cases h
theorem ndAt_nd {s : Sto} {k : Nat} {lv : Int} {xs : List It} (h : wBk s k = some (lv, xs)) : wEv lv xs = true := by
 unfold wBk at h
 split at h
 ·cases h
 exact rdNode_nd h
theorem wKf {s : Sto} {k : Nat} {lv : Int} {xs : List It} (h : wBk s k = some (lv, xs)) (hl : 0 < lv) : xs ≠ [] := fun e => by
 have := ndAt_nd h
 unfold wEv at this
 rw [Bool.and_eq_true, decide_eq_true_eq] at this
 exact this.1.2.2.2 hl (by rw [e]; rfl)
theorem wAt_lt {xs : List It} {q : Ky} (h : xs ≠ []) : wAt xs q < xs.length := by
 have := wLh xs q
 have h2 : 0 < xs.length := List.length_pos_iff.2 h
 unfold wAt
 split
 ·rename_i h3; exact wKk h3
 omega
def wFi (p : Stp × Value) : List Value := [.int .i64 p.1.lv, p.2, .int .i64 p.1.at_]
theorem wLd (p : Stp × Value) : (wFi p).length = 3 := rfl
def SS (M : Mem) (v : Value) (ws : List Stp) : Prop := ∃ a c, ∃ ps : List (Stp × Value), v = .slice a ws.length c ∧ ws.length ≤ c ∧ SM M a (ps.flatMap wFi) ∧ ps.map (·.1) = ws ∧ ∀ p ∈ ps, NS M p.2 p.1.xs
theorem SS.mono {M M' : Mem} {v : Value} {ws : List Stp} (h : SS M v ws) (hM : MLe M M') : SS M' v ws := by
 obtain ⟨a, c, ps, h1, h2, h3, h4, h5⟩ := h; exact ⟨a, c, ps, h1, h2, h3.mono hM, h4, fun p hp => (h5 p hp).mono hM⟩
structure WyS where
 k : Int
 l : Nat
 xs : List It
 ps : List (Stp × Value)
 M : Mem
 R : Lc
 v : Value
section
variable {P : Program} {ops : Array Oper} {N : Fs} {F : Fr} {E : Ent} {M : Mem} {L : Lc} {o : Oper}
theorem hCopyN {x y : Operand} {t u e : TypeId} {b off dn dc : Nat} {sa : Option Addr} {sn sc sz : Nat} {l cs : List Value} {eb : TypeId} {L' : Lc} {by_ : Nat} {z : List Value} (hg : gd ops F o = some true)
  (ho : o.op = .call { callee := .builtin .copy, args := #[x, y], argTypes := #[t, u] }) (hx : ev F x = some (.slice (some ⟨b, off, none⟩) dn dc)) (hy : ev F y = some (.slice sa sn sc)) [ht : Und P t (.slice e)] [hl : Lay P e sz by_ z]
  (hn : cs.length = min sn dn * sz) (hcs : SJ M L sa cs) (h1 : ∀ v ∈ cs, v.oneCell' = true) [at_ : At b (.cells l.toArray eb (0, 0)) L] (hfit : off + cs.length ≤ l.length)
  [hp : PutAt b (.cells l.toArray eb (0, 0)) (.cells (l.take off ++ cs ++ l.drop (off + cs.length)).toArray eb (0, 0)) L L'] :
  HF P ops N F E M L o (fun v M' L'' => v = .int .i64 (min sn dn : Nat) ∧ M = M' ∧ L'' = L') := wHw hg fun a w ha hw => by
 obtain ⟨ti, zv, hi, hi2, _⟩ := hl.info
 have hb := (hw.locs _ at_.mem).1
 refine ⟨.int .i64 (min sn dn : Nat), _, M, L', .inl ?_, hw.put hp, rfl, rfl, rfl⟩
 have hst := run_storeCells_at P b off eb cs 0 l.toArray w hb (by simp; omega) h1
 have hfc : (Builtin.firstCells sz (min sn dn) (.slice sa sn sc)).run P w = .ok cs.toArray w := by
  rcases hcs with rfl | ⟨sb, so, rfl, hc⟩
  ·rw [List.length_nil] at hn
   have h0 : min sn dn * sz = 0 := hn.symm
   cases sa <;> simp [Builtin.firstCells, h0, loadCells, loadCellsFrom]
  have hadd : ∀ j, (⟨sb, so, none⟩ : Addr).add j = ⟨sb, so + j, none⟩ := fun j => by unfold Addr.add; split <;> simp_all
  exact run_firstCells_some (P := P) w sz (min sn dn) ⟨sb, so, none⟩ sn sc cs hn (fun j v hv => by rw [hadd]; exact (hc j v hv).cell hw.js)
 simp [execOp, ho, resolve, invoke, builtin, ha.ev hx, ha.ev hy, Builtin.copy_, run_underlying ht.h, sizeOf, typeInfo, hi, hi2, Builtin.lenOf, hfc, hst, goInt]
theorem hAppendZG {x y : Operand} {t tn e : TypeId} {k kn : IntKind} {b off n c size bytes : Nat} {mi : Int} (m : Nat) {z xs : List Value} (hg : gd ops F o = some true)
  (ho : o.op = .call { callee := .builtin .append, args := #[x, y], argTypes := #[t, tn] }) (hx : ev F x = some (.slice (some ⟨b, off, none⟩) n c)) (hy : ev F y = some (.int k mi)) (hmi : mi = (m : Int)) [ht : Und P t (.slice e)] [htn : Und P tn (.int kn)] [hl : Lay P e size bytes z]
  (hxl : xs.length = n * size) (hold : ∀ i v, xs[i]? = some v → CJ M L b (off + i) v) (hz0 : Nat.blt 0 size = true) (h0 : 0 < m) (hc : c < n + m) (hbig : n + m ≤ 1000000000) (hby : bytes ≤ 100000) :
  HF P ops N F E M L o (fun v' M' L' => M = M' ∧ ∃ g cap zs, v' = .slice (some ⟨g, 0, none⟩) (n + m) cap ∧ L' = (g, .cells (xs ++ zs).toArray e (0, 0)) :: L ∧ n + m ≤ cap ∧ cap ≤ maxLen ∧ zs.length = (cap - n) * size) := wHw hg fun a w ha hw => by
 subst hmi
 obtain ⟨ti, zv, hi, hi2, hi3, hz, hz2⟩ := hl.info
 have hzl : zv.cells.size = size := by rw [hz2]; simpa using hl.len
 have hsz : 0 < size := by simpa [Nat.blt_eq] using hz0
 have hadd : ∀ j, (⟨b, off, none⟩ : Addr).add j = ⟨b, off + j, none⟩ := fun j => by unfold Addr.add; split <;> simp_all
 have hd : St E M L w.drew := { hw with }
 have hbb : (n + m) * bytes ≤ 1000000000 * 100000 := Nat.mul_le_mul hbig hby
 have hmb : m * bytes ≤ (n + m) * bytes := Nat.mul_le_mul_right _ (by omega)
 have hr := Go.Lib.run_append_grow_zeros (P := P) w t tn o.type e ti zv k kn ht.h htn.h hi hz (some ⟨b, off, none⟩) n c xs
  (by rw [hi2]; exact run_firstCells_some (P := P) w.drew size n ⟨b, off, none⟩ n c xs hxl (fun j u hu => by rw [hadd]; exact (hold j u hu).cell hd.js))
  m h0 (by rw [hi2]; exact hsz) hc (by omega) (by rw [hi3]; omega) (growslice_fits (by omega) (by rw [hi3]; omega))
 have hge := grownCap_ge w (n + m) c e
 have hcm : grownCap w (n + m) c e ≤ maxLen := grownCap_le_maxLen w (n + m) c e (by unfold maxLen; omega)
 obtain ⟨zs, hzs⟩ : ∃ zs : List Value, zs = (Builtin.zeroCells zv.cells m).toList ++ (Builtin.zeroCells zv.cells (grownCap w (n + m) c e - (n + m))).toList := ⟨_, rfl⟩
 have hzsl : zs.length = (grownCap w (n + m) c e - n) * size := by
  rw [hzs, List.length_append, Array.length_toList, Array.length_toList, size_zeroCells, size_zeroCells, hzl, ← Nat.add_mul]
  congr 1; omega
 have hcur : xs.toArray ++ Builtin.zeroCells zv.cells m ++ Builtin.zeroCells zv.cells (grownCap w (n + m) c e - (n + m)) = (xs ++ zs).toArray := by
  rw [hzs]; apply Array.ext'; simp
 rw [hcur] at hr
 refine ⟨_, w.drew.alloc (.cells (xs ++ zs).toArray e), M, (w.drew.heap.size, .cells (xs ++ zs).toArray e (0, 0)) :: L, .inl ?_, hd.alloc (.cells (xs ++ zs).toArray e), rfl, w.heap.size, _, zs, rfl, rfl, hge, hcm, hzsl⟩
 simp [execOp, ho, resolve, invoke, builtin, ha.ev hx, ha.ev hy, hr]
theorem hClear0 {x : Operand} {t e : TypeId} {a : Option Addr} {c : Nat} (hg : gd ops F o = some true) (ho : o.op = .call { callee := .builtin .clear, args := #[x], argTypes := #[t] }) (hx : ev F x = some (.slice a 0 c)) [ht : Und P t (.slice e)] :
  HF P ops N F E M L o (fun _ M' L' => M = M' ∧ L' = L) := wHw hg fun ac w ha hw => by
 refine ⟨.tuple #[], w, M, L, .inl ?_, hw, rfl, rfl⟩
 cases a <;> simp [execOp, ho, resolve, invoke, builtin, ha.ev hx, Builtin.clear_, run_underlying ht.h]
theorem qOverlap2 {x y : Operand} {T : Array TypeId} {f : FuncId} {fn : Func} {t tr e : TypeId} {vb vo la ca b off lb cb sz by_ : Nat} {z vc l : List Value} {ve eb : TypeId} (hg : gd ops F o = some true)
  (ho : o.op = .call { callee := .value (.func f), args := #[y, x], argTypes := T }) (hy : ev F y = some (.slice (some ⟨b, off, none⟩) lb cb)) (hx : ev F x = some (.slice (some ⟨vb, vo, none⟩) la ca))
  (hf : P.funcs[f]? = some fn) (hname : (fn.name == "runtime.NumGoroutine") = false) (hb : fn.body.isNone = true) (hn : Extern.findNext fn = none) (he : Extern.find fn = some (Extern.SlicesOverlaps.overlaps #[t, t] #[tr]))
  [ht : Und P t (.slice e)] [hl : Lay P e sz by_ z] (hv : M vb = some (.cells vc.toArray ve (0, 0))) (hmem : (b, Obj.cells l.toArray eb (0, 0)) ∈ L) (hne : vb ≠ b) (hl0 : vc.length ≠ 0) : QF P ops N F M L o (.bool false) := wFd hg fun ac ha w hw => by
 obtain ⟨ti, zv, hi, hi2, _⟩ := hl.info
 have h1 := hw.agree vb _ hv
 have h2 := hw.locs _ hmem
 have hr := Go.Lib.run_overlaps_apart (P := P) w t tr e ht.h sz (fun w => by simp [sizeOf, typeInfo, hi, hi2]) ⟨b, off, none⟩ ⟨vb, vo, none⟩ lb cb la ca (Ne.symm hne) eb ve l.length vc.length
  (by simp [World.shape?, h2]) (by simp [World.shape?, h1]) hl0 (by simp [World.frozen?, h2]) (by simp [World.frozen?, h2])
 have hc := run_callFunc_extern (P := P) hf hname hb hn he #[.slice (some ⟨b, off, none⟩) lb cb, .slice (some ⟨vb, vo, none⟩) la ca] w
 rw [hr] at hc
 have hfv : (ac.eval (.func f)) = .func (.func f) #[] #[] := rfl
 simp [execOp, ho, resolve, ha.ev hx, ha.ev hy, hfv, Deferred.ofValue, invoke, hc, Result.andThen]
theorem jl_apart {Q : Exit → Act → World → Prop} {rest : List Oper} {vb b : Nat} {ov ob : Obj} (hv : M vb = some ov) (hm : (b, ob) ∈ L) (h : vb ≠ b → JL P ops N Q rest F E M L) : JL P ops N Q rest F E M L := fun a w ha hw =>
 h (fun e => by subst e; have := (hw.locs _ hm).2.2; rw [hv] at this; cases this) a w ha hw
end
abbrev Ir := It × Value
theorem ins_grow (A B V zs : List Value) (a b v : Nat) (ha : A.length = a) (hb : B.length = b) (hv : V.length = v) (hs : v + b ≤ zs.length) :
  ((((A ++ zs).take a ++ V ++ (A ++ zs).drop (a + V.length)).take (a + v)) ++ B ++ (((A ++ zs).take a ++ V ++ (A ++ zs).drop (a + V.length)).drop (a + v + B.length))) = A ++ V ++ B ++ zs.drop (v + b) := by
 subst ha hb hv
 have e1 : (A ++ zs).drop (A.length + V.length) = zs.drop V.length := by rw [List.drop_append, List.drop_eq_nil_of_le (by omega), List.nil_append]; congr 1; omega
 rw [List.take_left, e1]
 have e2 : (A ++ V ++ zs.drop V.length).take (A.length + V.length) = A ++ V := by rw [show A.length + V.length = (A ++ V).length by rw [List.length_append], List.take_left]
 have e3 : (A ++ V ++ zs.drop V.length).drop (A.length + V.length + B.length) = zs.drop (V.length + B.length) := by
  rw [List.drop_append, List.drop_eq_nil_of_le (by rw [List.length_append]; omega), List.nil_append, List.drop_drop]; congr 1; rw [List.length_append]; omega
 rw [e2, e3]
theorem fl (p : List Ir) : (p.flatMap wAs).length = p.length * 5 := wBi wAs 5 wAq p
theorem wFc {p : List Ir} (h : ∀ x ∈ p, x.2.oneCell' = true) : ∀ u ∈ p.flatMap wAs, u.oneCell' = true := fun u hu => by
 obtain ⟨x, hx, hu⟩ := List.mem_flatMap.1 hu
 simp only [wAs, List.mem_cons, List.not_mem_nil, or_false] at hu
 rcases hu with rfl | rfl | rfl | rfl | rfl
 ·rfl
 ·rfl
 ·rfl
 ·rfl
 exact h x hx
theorem sj_own {M : Mem} {L : Lc} {g off : Nat} {A B sp : List Value} {e : TypeId} (hm : (g, Obj.cells (A ++ (B ++ sp)).toArray e (0, 0)) ∈ L) (ho : off = A.length) : SJ M L (some ⟨g, off, none⟩) B :=
 .inr ⟨g, off, rfl, fun i v hv => ⟨_, _, _, .inr hm, by
  subst ho
  have hi := (List.getElem?_eq_some_iff.1 hv).1
  rw [List.getElem?_toArray, List.getElem?_append_right (by omega), Nat.add_sub_cancel_left, List.getElem?_append_left hi]; exact hv⟩⟩
theorem cj_own {M : Mem} {L : Lc} {g : Nat} {A B : List Value} {e : TypeId} (hm : (g, Obj.cells (A ++ B).toArray e (0, 0)) ∈ L) : ∀ i v, A[i]? = some v → CJ M L g (0 + i) v := fun i v hv => ⟨_, _, _, .inr hm, by
 have hi := (List.getElem?_eq_some_iff.1 hv).1
 rw [List.getElem?_toArray, Nat.zero_add, List.getElem?_append_left hi]; exact hv⟩
theorem own_row {g n cap : Nat} {e : TypeId} {l xs rest : List Value} (hl : l = xs ++ rest) (hx : xs.length = n * 5) (hn : n ≤ cap) (hc : cap ≤ maxLen) (hs : l.length = cap * 5) : Own (.slice (some ⟨g, 0, none⟩) n cap) [(g, .cells l.toArray e (0, 0))] e 5 n xs :=
 ⟨hx, .inr ⟨g, cap, l.toArray, rfl, rfl, hn, hc, by simpa using hs, by rw [hl, ← hx]; exact List.take_left⟩⟩
theorem SM.of_block_pre {M : Mem} {b : Nat} {xs ys : List Value} {e : TypeId} {fz : Nat × Nat} (h : M b = some (.cells (xs ++ ys).toArray e fz)) : SM M (some ⟨b, 0, none⟩) xs :=
 .inr ⟨b, 0, rfl, fun i u hu => ⟨_, _, _, h, by
  have hi := (List.getElem?_eq_some_iff.1 hu).1
  rw [List.getElem?_toArray, Nat.zero_add, List.getElem?_append_left hi]; exact hu⟩⟩
theorem own_parts {ps : List Ir} {sa : Option Addr} {sc i : Nat} {R : Lc} (h : Own (.slice sa ps.length sc) R IT 5 ps.length (ps.flatMap wAs)) (hi : i < ps.length) :
  ∃ g sp, sa = some ⟨g, 0, none⟩ ∧ R = [(g, .cells ((ps.take i).flatMap wAs ++ ((ps.drop i).flatMap wAs ++ sp)).toArray IT (0, 0))] ∧ ps.length ≤ sc ∧ sc ≤ maxLen ∧ sp.length = (sc - ps.length) * 5 := by
 obtain ⟨g, cap, cur, e, rfl, h1, h2, h3, h4⟩ := h.open (by omega)
 cases e
 refine ⟨g, cur.toList.drop (ps.length * 5), rfl, ?_, h1, h2, ?_⟩
 ·rw [← List.append_assoc, ← List.flatMap_append, List.take_append_drop, ← h4, List.take_append_drop, Array.toArray_toList]
 rw [List.length_drop, Array.length_toList, h3]; omega
end Go.Proofs.YtkcpllhggofloaaGreat
