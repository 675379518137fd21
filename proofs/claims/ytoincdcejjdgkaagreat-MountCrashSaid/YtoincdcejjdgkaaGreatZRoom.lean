/- Walks: room.Node. -/
import Derived.Test.YtoincdcejjdgkaaGreatZBench
namespace Go.Proofs.YtoincdcejjdgkaaGreat
set_option linter.unusedVariables false
set_option linter.unusedSimpArgs false
open Go.RowKit
def askE (s : Sto) (k : Int) : Int := if wCp s then (if k < 8 ∨ 256 ≤ k then 2 else if s.now.getD k.toNat 0 = 0 then 6 else 0) else 8
theorem stChk_is (s : Sto) : wJe s = if wCp s then 0 else 8 := by unfold wJe; rfl
theorem ask_ok {s : Sto} {k : Int} (h : askE s k = 0) : wCp s ∧ 8 ≤ k ∧ k < 256 ∧ ¬ s.now.getD k.toNat 0 = 0 := by
 unfold askE at h
 split at h
 ·rename_i h1
  split at h
  ·cases h
  ·rename_i h2
   split at h
   ·cases h
   ·rename_i h3; exact ⟨h1, by omega, by omega, h3⟩
 ·cases h
theorem ask_yes {s : Sto} {k : Int} (h1 : wCp s) (h2 : 8 ≤ k ∧ k < 256) (h3 : ¬ s.now.getD k.toNat 0 = 0) : askE s k = 0 := by
 unfold askE; rw [if_pos h1, if_neg (by omega), if_neg h3]
theorem asked_walk (s : Sto) (k : Int) (bv wv nv lv : Value) (M : Mem) (hST : ST M (.agg #[bv, wv, nv, lv]) s) :
  SpecL Tryz.prog 164 #[.agg #[bv, wv, nv, lv], .int .i64 k] M [] fun u _ _ => u = .int .i64 (askE s k) := by
 obtain ⟨bv2, wv2, nv2, lv2, e0, g1, g2, g3, g4⟩ := hST.ex
 simp only [Value.agg.injEq, Array.mk.injEq, List.cons.injEq, and_true] at e0
 obtain ⟨rfl, rfl, rfl, rfl⟩ := e0
 obtain ⟨na, nc, rfl, hnc, hns⟩ := g3
 have hck := stChk_is s
 refine wAf (vs := [_, _]) 23 _ Tryz.func164 rfl Tryz.ntmps164 rfl rfl ?_; intro W
 refine wAb (wAa (wAw rfl rfl (wCb (cs := [_, _, _, _]) rfl rfl rfl rfl) ?_)); rintro _ _ _ ⟨b2, rfl, rfl, rfl⟩
 refine jp rfl (wAc (jT (wAb (wAb (wAa (sLL rfl ?_))))))
 refine wAi rfl rfl (wBf rfl rfl rfl rfl rfl (by kernel_rfl) (wGc s _ M hST)) ?_
 refine jp rfl (wAc (jT (wAb (wAa (jp rfl (js rfl (fun h9 => ?_) (fun h9 => ?_)))))))
 ·refine wAc (jT (wAg rfl (wAb (wAa (jp rfl (jp rfl (wAc (jT (wAe (jTr (jr1 rfl rfl ?_)))))))))))
  have hns : ¬ wCp s := fun h => h9 (by rw [hck, if_pos h])
  show Value.int .i64 (wJe s) = _
  unfold askE; rw [if_neg hns, hck, if_neg hns]
 ·refine wAc (jT (wAj rfl (wAd (jT (wAb (wAb (wAa (jp rfl (js rfl (fun h12 => ?_) (fun h12 => ?_))))))))))
  ·refine jp rfl (jp rfl (jp rfl (jp rfl (wAc (jT (wAg rfl (wAb (wAa (jp rfl (wAc (jT (wAe (jTr (jr1 rfl rfl ?_))))))))))))))
   have hst : wCp s := Classical.byContradiction fun h => h9 (by rw [hck, if_neg h]; decide)
   unfold askE; rw [if_pos hst, if_pos (by omega)]
  ·refine jp rfl (jp rfl (js rfl (fun h15 => ?_) (fun h15 => ?_)))
   ·refine jp rfl (wAc (jT (wAg rfl (wAb (wAa (jp rfl (wAc (jT (wAe (jTr (jr1 rfl rfl ?_)))))))))))
    have hst : wCp s := Classical.byContradiction fun h => h9 (by rw [hck, if_neg h]; decide)
    unfold askE; rw [if_pos hst, if_pos (by omega)]
   ·refine jp rfl (wAc (jT (wAj rfl (wAd (jT (wAb (wAb (wAa (sFL rfl rfl ?_)))))))))
    refine jp rfl ?_
    have hst : wCp s := Classical.byContradiction fun h => h9 (by rw [hck, if_neg h]; decide)
    have hn256 : s.now.length = 256 := hst.2.1.1
    obtain ⟨nb, no, e0, hnx⟩ := hns.open (by intro e; have := congrArg List.length e; rw [wAu, List.length_nil] at this; omega)
    subst e0
    refine wAi rfl rfl (wBa rfl rfl rfl rfl (by omega)) ?_
    refine wAi rfl rfl (qLd rfl rfl rfl rfl ((hnx _ _ (by rw [Nat.mul_one]; exact wHu (j := k.toNat) (by omega))).cj _)) ?_
    refine js rfl (fun h22 => ?_) (fun h22 => ?_)
    ·refine wAc (jT (wAg rfl (wAb (wAa (jp rfl (wAc (jT (wAe (jTr (jr1 rfl rfl ?_))))))))))
     unfold askE; rw [if_pos hst, if_neg (by omega), if_pos (UInt8.toNat_inj.1 (show (s.now.getD k.toNat 0).toNat = (0 : UInt8).toNat by have h0 : ((s.now.getD k.toNat 0).toNat : Int) = 0 := h22; have h1 : (0 : UInt8).toNat = 0 := rfl; omega))]
    ·refine wAc (jT (wAj rfl (wAd (jT (wAb (wAa (jp rfl (wAc (jT (wAe (jr1 rfl rfl ?_)))))))))))
     unfold askE; rw [if_pos hst, if_neg (by omega), if_neg (fun e => h22 (by rw [e]; rfl))]
set_option maxHeartbeats 2000000 in
theorem rseen_walk (s : Sto) (k : Nat) (hk : k < 256) (hst : wCp s) (bv : Value) (wa : Option Addr) (wc : Nat) (ps : List (Wt × Value)) (M : Mem) (h1 : LS M bv s.blocks) (hwc : s.waits.length ≤ wc) (hws : SM M wa (ps.flatMap wCf)) (hp : ps.map (·.1) = s.waits) (hb : ∀ q ∈ ps, BS M q.2 q.1.2) :
  SpecL Tryz.prog 165 #[.agg #[bv, .slice wa s.waits.length wc], .int .i64 k] M [] fun u M' L' => BS M' u (wCo s k) ∧ L' = [] := by
 obtain ⟨⟨hq1, hq2, hq3, hq4⟩, ⟨hn1, _⟩, _⟩ := id hst
 obtain ⟨ba, bc, ps1, rfl, hbc, hbs, hbp, hbb⟩ := h1
 obtain ⟨bb, bo, e0, hbx⟩ := hbs.open (by intro e; have := congrArg List.length e; rw [List.length_map, List.length_nil] at this; have h2 := congrArg List.length hbp; rw [List.length_map] at h2; omega)
 subst e0
 obtain ⟨va, vc, hcl, hvc, hvs⟩ := wCn hbx hbp hbb (k := k) (by omega)
 refine wAf (vs := [_, _]) 23 _ Tryz.func165 rfl Tryz.ntmps165 rfl rfl ?_; intro W
 refine wAb (wAa (wAw rfl rfl (wCb (cs := [_, _]) rfl rfl rfl rfl) ?_)); rintro _ _ _ ⟨b2, rfl, rfl, rfl⟩
 refine wAw rfl rfl (wCb (cs := [.int .i64 k]) rfl rfl rfl rfl) ?_; rintro _ _ _ ⟨b3, rfl, rfl, rfl⟩
 refine sAl rfl fun b4 => ?_
 refine wAc (jT (wAb (wAb (wAa (sFL rfl rfl ?_)))))
 refine wAw rfl rfl (wAn rfl rfl rfl rfl rfl (by kernel_rfl) (bww _ _ _ M)) ?_; rintro _ M1 _ ⟨hM1, _, rfl, ⟨b36, rfl, e36, rfl⟩⟩
 have hpl : ps.length = s.waits.length := by rw [← hp, List.length_map]
 rw [← hpl] at e36
 refine wAc (jT (wAh (wEc b2 (by simp) ?_)))
 intro M2f hM2f e2
 refine wEc b3 (by simp) ?_
 intro M1f hM1f e3
 replace e2 := hM1f _ _ e2
 replace e36 := hM1f _ _ (hM2f _ _ e36)
 replace hM1 := hM1.trans (hM2f.trans hM1f)
 refine wHq (R := [(b4, .cells [.slice none 0 0].toArray 26 (0, 0))]) (xs := bw ps 0) (enc := (fun p : (Wt × Value) × Nat => [.int .i64 p.2, .agg (wCf p.1).toArray])) (ps := [10, 11]) rfl (by kernel_rfl) (bww_iter b36 wa wc ps M1f e36 (hws.mono hM1) (by omega))
  (fun pre _ R => R = [(b4, .cells [.slice none 0 0].toArray 26 (0, 0))] ∧ ∀ q ∈ pre, q.1.1.1 ≠ (k : Int))
  (fun c _ M' R => c = .ret ∧ ∃ v, R = [(b4, .cells [v].toArray 26 (0, 0))] ∧ BS M' v (wCo s k))
  (fun _ => rfl) (by decide) ⟨rfl, fun _ h => by cases h⟩ ?_ ?_ ?_
 ·intro l W2 pre y M2 R2 hM2 hI hpre
  obtain ⟨rfl, hI⟩ := hI
  have hym : y.1 ∈ ps := bw_mem (hpre.subset (by simp))
  obtain ⟨⟨yw, yv⟩, yi⟩ := y
  have hyb := hb _ hym
  obtain ⟨ya, yc, hyv, hyc, hys⟩ := id hyb
  change yv = Value.slice ya yw.2.length yc at hyv; subst hyv
  refine wAa (sAl rfl fun b6 => ?_)
  refine sSt rfl ?_
  refine wAc (jK fun W' => ?_)
  refine wAh (wAb (wAa (sFL rfl rfl ?_)))
  refine wAi rfl rfl (qLd rfl rfl rfl rfl (CM.cj ⟨_, _, _, hM2 _ _ e3, rfl⟩ _)) ?_
  refine js rfl (fun h15 => ?_) (fun h15 => ?_)
  ·refine wAc (jT (wAg rfl (wAb (wAa (sFL rfl rfl ?_)))))
   refine sSt rfl ?_
   refine wAc (jT (wAe (jBr (wAv (L' := [(b4, .cells [.slice ya yw.2.length yc].toArray 26 (0, 0))]) (by simp) ?_))))
   refine jQr ?_
   refine ⟨rfl, _, rfl, ?_⟩
   rw [seen_some hp hpre hI h15]
   exact hyb.mono (hM1.trans hM2)
  ·refine wAc (jT (wAj rfl (wAd (jB (wAv (L' := [(b4, .cells [.slice none 0 0].toArray 26 (0, 0))]) (by simp) ?_)))))
   refine jQn ?_
   refine ⟨rfl, fun q hq => ?_⟩
   rcases List.mem_append.1 hq with hq | hq
   ·exact hI q hq
   ·rw [List.mem_singleton.1 hq]; exact h15
 ·intro d M2 R2 hM2 hI
  obtain ⟨rfl, hI⟩ := hI
  have hsn := seen_none hp hI
  rw [wDv (by omega)] at hsn
  refine jB (jT (wAb (wAa (sFa rfl ?_))))
  refine wAi rfl rfl (qLd rfl rfl rfl rfl (CM.cj ⟨_, _, _, hM2 _ _ e2, rfl⟩ _)) ?_
  refine wAi rfl rfl (qLd rfl rfl rfl rfl (CM.cj ⟨_, _, _, hM2 _ _ e3, rfl⟩ _)) ?_
  refine wAi rfl rfl (wBa rfl rfl rfl rfl (by omega)) ?_
  refine wAi rfl rfl (qLd rfl rfl rfl rfl ((hcl.mono (hM1.trans hM2)).cj _)) ?_
  refine sSt rfl ?_
  refine wAc (jT (wAe (wDo (L2 := _) Rm.perm ?_)))
  refine wCd (rs := [_]) ([]) (by simp) rfl (.cons (.one rfl rfl rfl) .nil) ?_
  exact ⟨by rw [hsn]; exact ⟨va, vc, rfl, hvc, hvs.mono (hM1.trans hM2)⟩, rfl⟩
 ·intro d c pre M2 R2 hM2 hpre hI
  obtain ⟨rfl, v6, rfl, hv6⟩ := hI
  refine wAe (jBr (jTr (wDo (L2 := _) Rm.perm ?_)))
  refine wCd (rs := [_]) ([]) (by simp) rfl (.cons (.one rfl rfl rfl) .nil) ?_
  exact ⟨hv6, rfl⟩
def RnPost (s : Sto) (k : Int) (u : Value) (M' : Mem) : Prop :=
 if askE s k = 0 then BnPost s k.toNat u M' else u = .tuple #[.agg zeroNd.toArray, .int .i64 (askE s k)]
theorem ndAt_seen {s : Sto} {k : Nat} (h : ¬ s.now.getD k 0 = 0) : wCa s k = wFc (wCo s k) := by unfold wCa; rw [if_neg h]
set_option maxHeartbeats 2000000 in
theorem rnode_walk (s : Sto) (k : Int) (bv wv nv lv : Value) (M : Mem) (hST : ST M (.agg #[bv, wv, nv, lv]) s) :
  SpecL Tryz.prog 142 #[.agg #[bv, wv, nv, lv], .int .i64 k] M [] fun u M' L' => RnPost s k u M' ∧ L' = [] := by
 obtain ⟨bv2, wv2, nv2, lv2, e0, g1, g2, g3, g4⟩ := hST.ex
 simp only [Value.agg.injEq, Array.mk.injEq, List.cons.injEq, and_true] at e0
 obtain ⟨rfl, rfl, rfl, rfl⟩ := e0
 obtain ⟨wa, wc, ps, rfl, hwc, hws, hp, hb⟩ := id g2
 refine wAf (vs := [_, _]) 28 _ Tryz.func142 rfl Tryz.ntmps142 rfl rfl ?_; intro W
 refine wAb (wAa (wAw rfl rfl (wCb (cs := [_, _, _, _]) rfl rfl rfl rfl) ?_)); rintro _ _ _ ⟨b2, rfl, rfl, rfl⟩
 refine sAl rfl fun b4 => ?_
 refine jp rfl (wAc (jT (wAb (wAb (wAa (sLL rfl ?_))))))
 refine jp rfl (wAi rfl rfl (wBf rfl rfl rfl rfl rfl (by kernel_rfl) (asked_walk s k bv _ nv lv M hST)) ?_)
 refine jp rfl (wAc (jT (wAb (wAa (jp rfl (js rfl (fun h13 => ?_) (fun h13 => ?_)))))))
 ·refine wAc (jT (wAg rfl (wAb (wAa (wAi rfl rfl (wAq (cs := [_, _]) rfl rfl rfl (by rfl)) ?_)))))
  refine jp rfl (sSt rfl ?_)
  refine jp rfl (wAc (jT (wAe (jTr (wCd (rs := [_, _]) ([]) (by simp) rfl (.cons (.agg rfl rfl rfl) (.cons (.tmp rfl) .nil)) ?_)))))
  exact ⟨by unfold RnPost; rw [if_neg h13]; rfl, rfl⟩
 ·refine wAc (jT (wAj rfl (wAd (jT (wAb (wAa (sFa rfl ?_)))))))
  refine sLL rfl ?_
  refine jp rfl ?_
  have hask := Classical.not_not.1 h13
  obtain ⟨hst, hk8, hk256, hnz⟩ := ask_ok hask
  obtain ⟨kn, rfl⟩ : ∃ n : Nat, k = (n : Int) := ⟨k.toNat, by omega⟩
  rw [Int.toNat_natCast] at hnz
  have hkn : kn < 256 := by omega
  refine wAw rfl rfl (wAn rfl rfl rfl rfl rfl (by kernel_rfl) (rseen_walk s kn hkn hst bv wa wc ps M g1 hwc hws hp hb)) ?_; rintro _ M2 _ ⟨hM2, _, rfl, ⟨hv20, rfl⟩⟩
  simp only [nA]
  refine wAw rfl rfl (wAn rfl rfl rfl rfl rfl (by kernel_rfl) (nread_spec _ (wCo s kn) M2 hv20 (by rw [seen_len hst hkn]; omega))) ?_; rintro _ M3 _ ⟨hM3, _, rfl, ⟨hnd, rfl⟩⟩
  simp only [nA]
  obtain ⟨nl, la, ln, lc, e, rfl, hnd2⟩ := NdPost.form hnd
  refine jp rfl (jp rfl (jp rfl (sAl rfl fun b7 => ?_)))
  refine sSt rfl ?_
  refine jp rfl (wAc (jT (wAb (wAb (wAa (jp rfl (js rfl (fun h25 => ?_) (fun h25 => ?_))))))))
  ·refine wAc (jT (wAg rfl (wAb (wAa (wAi rfl rfl (wAq (cs := [_, _]) rfl rfl rfl (by rfl)) ?_)))))
   refine sSt rfl ?_
   refine jp rfl (wAc (jT (wAe (jTr (wCd (rs := [_, _]) ([]) (by simp) rfl (.cons (.agg rfl rfl rfl) (.cons (.tmp rfl) .nil)) ?_)))))
   refine ⟨?_, rfl⟩
   unfold RnPost; rw [if_pos hask, Int.toNat_natCast]
   unfold BnPost; rw [ndAt_seen hnz]
   rcases hnd2 with ⟨he, hr⟩ | ⟨rfl, xs, hr, hns⟩
   ·rw [hr]; first | rfl | exact absurd he h25
   ·rw [hr]; first | exact ⟨_, rfl, hns⟩ | exact absurd rfl h25
  ·refine wAc (jT (wAj rfl (wAd (jT (wAb (wAa (sLL rfl ?_)))))))
   refine sSt rfl ?_
   refine jp rfl (wAc (jT (wAe (wCd (rs := [_, _]) ([]) (by simp) rfl (.cons (.agg rfl rfl rfl) (.cons (.tmp rfl) .nil)) ?_))))
   refine ⟨?_, rfl⟩
   unfold RnPost; rw [if_pos hask, Int.toNat_natCast]
   unfold BnPost; rw [ndAt_seen hnz]
   rcases hnd2 with ⟨he, hr⟩ | ⟨rfl, xs, hr, hns⟩
   ·rw [hr]; first | rfl | exact absurd he h25
   ·rw [hr]; first | exact ⟨_, rfl, hns⟩ | exact absurd rfl h25
theorem rnode_spec (s : Sto) (v : Value) (k : Int) (M : Mem) (h : ST M v s) : SpecL Tryz.prog 142 #[v, .int .i64 k] M [] fun u M' L' => RnPost s k u M' ∧ L' = [] := by
 obtain ⟨bv, wv, nv, lv, rfl, h1, h2, h3, h4⟩ := h.ex
 exact rnode_walk s k bv wv nv lv M ⟨bv, wv, nv, lv, rfl, h1, h2, h3, h4⟩
end Go.Proofs.YtoincdcejjdgkaaGreat
