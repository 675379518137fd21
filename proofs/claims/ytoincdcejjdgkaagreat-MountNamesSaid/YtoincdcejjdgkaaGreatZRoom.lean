/- Walks: room.Node. -/
import Derived.Test.YtoincdcejjdgkaaGreatZBench
namespace Go.Proofs.YtoincdcejjdgkaaGreat
set_option linter.unusedVariables false
set_option linter.unusedSimpArgs false
open Go.RowKit
def askE (s : Sto) (k : Int) : Int := if wCq s then (if k < 8 ∨ 256 ≤ k then 2 else if s.now.getD k.toNat 0 = 0 then 6 else 0) else 8
theorem stChk_is (s : Sto) : wJb s = if wCq s then 0 else 8 := by unfold wJb; rfl
theorem ask_ok {s : Sto} {k : Int} (h : askE s k = 0) : wCq s ∧ 8 ≤ k ∧ k < 256 ∧ ¬ s.now.getD k.toNat 0 = 0 := by
 unfold askE at h
 split at h
 ·rename_i h1
  split at h
  ·cases h
  ·rename_i h2
   split at h
   ·cases h
   ·rename_i h3; exact ⟨h1, by omega, by omega, h3⟩
 ·cases h
theorem ask_yes {s : Sto} {k : Int} (h1 : wCq s) (h2 : 8 ≤ k ∧ k < 256) (h3 : ¬ s.now.getD k.toNat 0 = 0) : askE s k = 0 := by
 unfold askE; rw [if_pos h1, if_neg (by omega), if_neg h3]
theorem asked_walk (s : Sto) (k : Int) (bv wv nv lv : Value) (M : Mem) (hST : ST M (.agg #[bv, wv, nv, lv]) s) :
  SpecL Tryz.prog 164 #[.agg #[bv, wv, nv, lv], .int .i64 k] M [] fun u _ _ => u = .int .i64 (askE s k) := by
 obtain ⟨bv2, wv2, nv2, lv2, e0, g1, g2, g3, g4⟩ := hST.ex
 simp only [Value.agg.injEq, Array.mk.injEq, List.cons.injEq, and_true] at e0
 obtain ⟨rfl, rfl, rfl, rfl⟩ := e0
 obtain ⟨na, nc, rfl, hnc, hns⟩ := g3
 have hck := stChk_is s
 refine wAg (vs := [_, _]) 23 _ Tryz.func164 rfl Tryz.ntmps164 rfl rfl ?_; intro W
 refine wAb (wAa ?_)
 refine wAp rfl rfl (wCa (cs := [_, _, _, _]) rfl rfl rfl rfl) ?_; rintro _ _ _ ⟨b2, rfl, rfl, rfl⟩
 refine jp rfl ?_
 refine wAc (jT (wAb (wAb (wAa ?_))))
 refine sLL rfl ?_
 refine wAj rfl rfl (wBi rfl rfl rfl rfl rfl (by kernel_rfl) (wFx s _ M hST)) ?_
 refine jp rfl ?_
 refine wAc (jT (wAb (wAa ?_)))
 refine jp rfl ?_
 refine js rfl (fun h9 => ?_) (fun h9 => ?_)
 ·refine wAc (jT (wAh rfl (wAb (wAa ?_))))
  iterate 2 refine jp rfl ?_
  refine wAc (jT (wAf (jTr ?_)))
  refine jr1 rfl rfl ?_
  have hns : ¬ wCq s := fun h => h9 (by rw [hck, if_pos h])
  show Value.int .i64 (wJb s) = _
  unfold askE; rw [if_neg hns, hck, if_neg hns]
 ·refine wAc (jT (wAk rfl (wAd (jT (wAb (wAb (wAa ?_)))))))
  refine jp rfl ?_
  refine js rfl (fun h12 => ?_) (fun h12 => ?_)
  ·iterate 4 refine jp rfl ?_
   refine wAc (jT (wAh rfl (wAb (wAa ?_))))
   refine jp rfl ?_
   refine wAc (jT (wAf (jTr ?_)))
   refine jr1 rfl rfl ?_
   have hst : wCq s := Classical.byContradiction fun h => h9 (by rw [hck, if_neg h]; decide)
   unfold askE; rw [if_pos hst, if_pos (by omega)]
  ·iterate 2 refine jp rfl ?_
   refine js rfl (fun h15 => ?_) (fun h15 => ?_)
   ·refine jp rfl ?_
    refine wAc (jT (wAh rfl (wAb (wAa ?_))))
    refine jp rfl ?_
    refine wAc (jT (wAf (jTr ?_)))
    refine jr1 rfl rfl ?_
    have hst : wCq s := Classical.byContradiction fun h => h9 (by rw [hck, if_neg h]; decide)
    unfold askE; rw [if_pos hst, if_pos (by omega)]
   ·refine jp rfl ?_
    refine wAc (jT (wAk rfl (wAd (jT (wAb (wAb (wAa ?_)))))))
    refine sFa rfl ?_
    refine sLd rfl ?_
    refine jp rfl ?_
    have hst : wCq s := Classical.byContradiction fun h => h9 (by rw [hck, if_neg h]; decide)
    have hn256 : s.now.length = 256 := hst.2.1.1
    obtain ⟨nb, no, e0, hnx⟩ := hns.open (by intro e; have := congrArg List.length e; rw [wAw, List.length_nil] at this; omega)
    subst e0
    refine wAj rfl rfl (wBg rfl rfl rfl rfl (by omega)) ?_
    refine wAj rfl rfl (qLd rfl rfl rfl rfl ((hnx _ _ (by rw [Nat.mul_one]; exact wHs (j := k.toNat) (by omega))).cj _)) ?_
    refine js rfl (fun h22 => ?_) (fun h22 => ?_)
    ·refine wAc (jT (wAh rfl (wAb (wAa ?_))))
     refine jp rfl ?_
     refine wAc (jT (wAf (jTr ?_)))
     refine jr1 rfl rfl ?_
     unfold askE; rw [if_pos hst, if_neg (by omega), if_pos (UInt8.toNat_inj.1 (show (s.now.getD k.toNat 0).toNat = (0 : UInt8).toNat by have h0 : ((s.now.getD k.toNat 0).toNat : Int) = 0 := h22; have h1 : (0 : UInt8).toNat = 0 := rfl; omega))]
    ·refine wAc (jT (wAk rfl (wAd (jT (wAb (wAa ?_))))))
     refine jp rfl ?_
     refine wAc (jT (wAf ?_))
     refine jr1 rfl rfl ?_
     unfold askE; rw [if_pos hst, if_neg (by omega), if_neg (fun e => h22 (by rw [e]; rfl))]
set_option maxHeartbeats 2000000 in
theorem rseen_walk (s : Sto) (k : Nat) (hk : k < 256) (hst : wCq s) (bv : Value) (wa : Option Addr) (wc : Nat) (ps : List (Wt × Value)) (M : Mem) (h1 : LS M bv s.blocks) (hwc : s.waits.length ≤ wc) (hws : SM M wa (ps.flatMap wCd)) (hp : ps.map (·.1) = s.waits) (hb : ∀ q ∈ ps, BS M q.2 q.1.2) :
  SpecL Tryz.prog 165 #[.agg #[bv, .slice wa s.waits.length wc], .int .i64 k] M [] fun u M' L' => BS M' u (wCw s k) ∧ L' = [] := by
 obtain ⟨⟨hq1, hq2, hq3, hq4⟩, ⟨hn1, _⟩, _⟩ := id hst
 obtain ⟨ba, bc, ps1, rfl, hbc, hbs, hbp, hbb⟩ := h1
 obtain ⟨bb, bo, e0, hbx⟩ := hbs.open (by intro e; have := congrArg List.length e; rw [List.length_map, List.length_nil] at this; have h2 := congrArg List.length hbp; rw [List.length_map] at h2; omega)
 subst e0
 obtain ⟨va, vc, hcl, hvc, hvs⟩ := wCk hbx hbp hbb (k := k) (by omega)
 refine wAg (vs := [_, _]) 23 _ Tryz.func165 rfl Tryz.ntmps165 rfl rfl ?_; intro W
 refine wAb (wAa ?_)
 refine wAp rfl rfl (wCa (cs := [_, _]) rfl rfl rfl rfl) ?_; rintro _ _ _ ⟨b2, rfl, rfl, rfl⟩
 refine wAp rfl rfl (wCa (cs := [.int .i64 k]) rfl rfl rfl rfl) ?_; rintro _ _ _ ⟨b3, rfl, rfl, rfl⟩
 refine wAp rfl rfl (wAo rfl rfl) ?_; rintro _ _ _ ⟨b4, rfl, rfl, rfl⟩
 refine wAc (jT (wAb (wAb (wAa ?_))))
 refine sFa rfl ?_
 refine sLd rfl ?_
 refine wAp rfl rfl (wAr rfl rfl rfl rfl rfl (by kernel_rfl) (bww _ _ _ M)) ?_; rintro _ M1 _ ⟨hM1, _, rfl, ⟨b36, rfl, e36, rfl⟩⟩
 have hpl : ps.length = s.waits.length := by rw [← hp, List.length_map]
 rw [← hpl] at e36
 refine wAc (jT (wAi ?_))
 refine wEs b2 (by simp) ?_
 intro M2f hM2f e2
 refine wEs b3 (by simp) ?_
 intro M1f hM1f e3
 replace e2 := hM1f _ _ e2
 replace e36 := hM1f _ _ (hM2f _ _ e36)
 replace hM1 := hM1.trans (hM2f.trans hM1f)
 refine wHn (R := [(b4, .cells [.slice none 0 0].toArray 26 (0, 0))]) (xs := bw ps 0) (enc := (fun p : (Wt × Value) × Nat => [.int .i64 p.2, .agg (wCd p.1).toArray])) (ps := [10, 11]) rfl (by kernel_rfl) (bww_iter b36 wa wc ps M1f e36 (hws.mono hM1) (by omega))
  (fun pre _ R => R = [(b4, .cells [.slice none 0 0].toArray 26 (0, 0))] ∧ ∀ q ∈ pre, q.1.1.1 ≠ (k : Int))
  (fun c _ M' R => c = .ret ∧ ∃ v, R = [(b4, .cells [v].toArray 26 (0, 0))] ∧ BS M' v (wCw s k))
  (fun _ => rfl) (by decide) ⟨rfl, fun _ h => by cases h⟩ ?_ ?_ ?_
 ·intro l W2 pre y M2 R2 hM2 hI hpre
  obtain ⟨rfl, hI⟩ := hI
  have hym : y.1 ∈ ps := bw_mem (hpre.subset (by simp))
  obtain ⟨⟨yw, yv⟩, yi⟩ := y
  have hyb := hb _ hym
  obtain ⟨ya, yc, hyv, hyc, hys⟩ := id hyb
  change yv = Value.slice ya yw.2.length yc at hyv; subst hyv
  refine wAa ?_
  refine wAp rfl rfl (wAo rfl rfl) ?_; rintro _ _ _ ⟨b6, rfl, rfl, rfl⟩
  refine sSt rfl ?_
  refine wAc ?_
  refine jK fun W' => ?_
  refine wAi (wAb (wAa ?_))
  refine sFa rfl ?_
  refine sLd rfl ?_
  refine wAj rfl rfl (qLd rfl rfl rfl rfl (CM.cj ⟨_, _, _, hM2 _ _ e3, rfl⟩ _)) ?_
  refine js rfl (fun h15 => ?_) (fun h15 => ?_)
  ·refine wAc (jT (wAh rfl (wAb (wAa ?_))))
   refine sFa rfl ?_
   refine sLd rfl ?_
   refine sSt rfl ?_
   refine wAc (jT (wAf (jBr ?_)))
   refine wAu (L' := [(b4, .cells [.slice ya yw.2.length yc].toArray 26 (0, 0))]) (by simp) ?_
   refine jQr ?_
   refine ⟨rfl, _, rfl, ?_⟩
   rw [seen_some hp hpre hI h15]
   exact hyb.mono (hM1.trans hM2)
  ·refine wAc (jT (wAk rfl (wAd (jB ?_))))
   refine wAu (L' := [(b4, .cells [.slice none 0 0].toArray 26 (0, 0))]) (by simp) ?_
   refine jQn ?_
   refine ⟨rfl, fun q hq => ?_⟩
   rcases List.mem_append.1 hq with hq | hq
   ·exact hI q hq
   ·rw [List.mem_singleton.1 hq]; exact h15
 ·intro d M2 R2 hM2 hI
  obtain ⟨rfl, hI⟩ := hI
  have hsn := seen_none hp hI
  rw [wFk (by omega)] at hsn
  refine jB (jT (wAb (wAa ?_)))
  refine sFa rfl ?_
  refine wAj rfl rfl (qLd rfl rfl rfl rfl (CM.cj ⟨_, _, _, hM2 _ _ e2, rfl⟩ _)) ?_
  refine wAj rfl rfl (qLd rfl rfl rfl rfl (CM.cj ⟨_, _, _, hM2 _ _ e3, rfl⟩ _)) ?_
  refine wAj rfl rfl (wBg rfl rfl rfl rfl (by omega)) ?_
  refine wAj rfl rfl (qLd rfl rfl rfl rfl ((hcl.mono (hM1.trans hM2)).cj _)) ?_
  refine sSt rfl ?_
  refine wAc (jT (wAf ?_))
  refine wEc (L2 := _) Rm.perm ?_
  refine wCf (rs := [_]) ([]) (by simp) rfl (.cons (.one rfl rfl rfl) .nil) ?_
  exact ⟨by rw [hsn]; exact ⟨va, vc, rfl, hvc, hvs.mono (hM1.trans hM2)⟩, rfl⟩
 ·intro d c pre M2 R2 hM2 hpre hI
  obtain ⟨rfl, v6, rfl, hv6⟩ := hI
  refine wAf (jBr (jTr ?_))
  refine wEc (L2 := _) Rm.perm ?_
  refine wCf (rs := [_]) ([]) (by simp) rfl (.cons (.one rfl rfl rfl) .nil) ?_
  exact ⟨hv6, rfl⟩
def RnPost (s : Sto) (k : Int) (u : Value) (M' : Mem) : Prop :=
 if askE s k = 0 then BnPost s k.toNat u M' else u = .tuple #[.agg zeroNd.toArray, .int .i64 (askE s k)]
theorem ndAt_seen {s : Sto} {k : Nat} (h : ¬ s.now.getD k 0 = 0) : wBy s k = wEw (wCw s k) := by unfold wBy; rw [if_neg h]
set_option maxHeartbeats 2000000 in
theorem rnode_walk (s : Sto) (k : Int) (bv wv nv lv : Value) (M : Mem) (hST : ST M (.agg #[bv, wv, nv, lv]) s) :
  SpecL Tryz.prog 142 #[.agg #[bv, wv, nv, lv], .int .i64 k] M [] fun u M' L' => RnPost s k u M' ∧ L' = [] := by
 obtain ⟨bv2, wv2, nv2, lv2, e0, g1, g2, g3, g4⟩ := hST.ex
 simp only [Value.agg.injEq, Array.mk.injEq, List.cons.injEq, and_true] at e0
 obtain ⟨rfl, rfl, rfl, rfl⟩ := e0
 obtain ⟨wa, wc, ps, rfl, hwc, hws, hp, hb⟩ := id g2
 refine wAg (vs := [_, _]) 28 _ Tryz.func142 rfl Tryz.ntmps142 rfl rfl ?_; intro W
 refine wAb (wAa ?_)
 refine wAp rfl rfl (wCa (cs := [_, _, _, _]) rfl rfl rfl rfl) ?_; rintro _ _ _ ⟨b2, rfl, rfl, rfl⟩
 refine wAp rfl rfl (wAo rfl rfl) ?_; rintro _ _ _ ⟨b4, rfl, rfl, rfl⟩
 refine jp rfl ?_
 refine wAc (jT (wAb (wAb (wAa ?_))))
 refine sLL rfl ?_
 refine jp rfl ?_
 refine wAj rfl rfl (wBi rfl rfl rfl rfl rfl (by kernel_rfl) (asked_walk s k bv _ nv lv M hST)) ?_
 refine jp rfl ?_
 refine wAc (jT (wAb (wAa ?_)))
 refine jp rfl ?_
 refine js rfl (fun h13 => ?_) (fun h13 => ?_)
 ·refine wAc (jT (wAh rfl (wAb (wAa ?_))))
  refine wAj rfl rfl (wAx (cs := [_, _]) rfl rfl rfl (by rfl)) ?_
  refine jp rfl ?_
  refine sSt rfl ?_
  refine jp rfl ?_
  refine wAc (jT (wAf (jTr ?_)))
  refine wCf (rs := [_, _]) ([]) (by simp) rfl (.cons (.agg rfl rfl rfl) (.cons (.tmp rfl) .nil)) ?_
  exact ⟨by unfold RnPost; rw [if_neg h13]; rfl, rfl⟩
 ·refine wAc (jT (wAk rfl (wAd (jT (wAb (wAa ?_))))))
  refine sFa rfl ?_
  refine sLL rfl ?_
  refine jp rfl ?_
  have hask := Classical.not_not.1 h13
  obtain ⟨hst, hk8, hk256, hnz⟩ := ask_ok hask
  obtain ⟨kn, rfl⟩ : ∃ n : Nat, k = (n : Int) := ⟨k.toNat, by omega⟩
  rw [Int.toNat_natCast] at hnz
  have hkn : kn < 256 := by omega
  refine wAp rfl rfl (wAr rfl rfl rfl rfl rfl (by kernel_rfl) (rseen_walk s kn hkn hst bv wa wc ps M g1 hwc hws hp hb)) ?_; rintro _ M2 _ ⟨hM2, _, rfl, ⟨hv20, rfl⟩⟩
  simp only [List.nil_append]
  refine wAp rfl rfl (wAr rfl rfl rfl rfl rfl (by kernel_rfl) (nread_spec _ (wCw s kn) M2 hv20 (by rw [seen_len hst hkn]; omega))) ?_; rintro _ M3 _ ⟨hM3, _, rfl, ⟨hnd, rfl⟩⟩
  simp only [List.nil_append]
  obtain ⟨nl, la, ln, lc, e, rfl, hnd2⟩ := NdPost.form hnd
  iterate 3 refine jp rfl ?_
  refine wAp rfl rfl (wAo rfl rfl) ?_; rintro _ _ _ ⟨b7, rfl, rfl, rfl⟩
  refine sSt rfl ?_
  refine jp rfl ?_
  refine wAc (jT (wAb (wAb (wAa ?_))))
  refine jp rfl ?_
  refine js rfl (fun h25 => ?_) (fun h25 => ?_)
  ·refine wAc (jT (wAh rfl (wAb (wAa ?_))))
   refine wAj rfl rfl (wAx (cs := [_, _]) rfl rfl rfl (by rfl)) ?_
   refine sSt rfl ?_
   refine jp rfl ?_
   refine wAc (jT (wAf (jTr ?_)))
   refine wCf (rs := [_, _]) ([]) (by simp) rfl (.cons (.agg rfl rfl rfl) (.cons (.tmp rfl) .nil)) ?_
   refine ⟨?_, rfl⟩
   unfold RnPost; rw [if_pos hask, Int.toNat_natCast]
   unfold BnPost; rw [ndAt_seen hnz]
   rcases hnd2 with ⟨he, hr⟩ | ⟨rfl, xs, hr, hns⟩
   ·rw [hr]; first | rfl | exact absurd he h25
   ·rw [hr]; first | exact ⟨_, rfl, hns⟩ | exact absurd rfl h25
  ·refine wAc (jT (wAk rfl (wAd (jT (wAb (wAa ?_))))))
   refine sLL rfl ?_
   refine sSt rfl ?_
   refine jp rfl ?_
   refine wAc (jT (wAf ?_))
   refine wCf (rs := [_, _]) ([]) (by simp) rfl (.cons (.agg rfl rfl rfl) (.cons (.tmp rfl) .nil)) ?_
   refine ⟨?_, rfl⟩
   unfold RnPost; rw [if_pos hask, Int.toNat_natCast]
   unfold BnPost; rw [ndAt_seen hnz]
   rcases hnd2 with ⟨he, hr⟩ | ⟨rfl, xs, hr, hns⟩
   ·rw [hr]; first | rfl | exact absurd he h25
   ·rw [hr]; first | exact ⟨_, rfl, hns⟩ | exact absurd rfl h25
theorem rnode_spec (s : Sto) (v : Value) (k : Int) (M : Mem) (h : ST M v s) : SpecL Tryz.prog 142 #[v, .int .i64 k] M [] fun u M' L' => RnPost s k u M' ∧ L' = [] := by
 obtain ⟨bv, wv, nv, lv, rfl, h1, h2, h3, h4⟩ := h.ex
 exact rnode_walk s k bv wv nv lv M ⟨bv, wv, nv, lv, rfl, h1, h2, h3, h4⟩
end Go.Proofs.YtoincdcejjdgkaaGreat
