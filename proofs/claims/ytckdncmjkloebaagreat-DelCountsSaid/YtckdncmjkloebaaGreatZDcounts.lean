/- DelCounts' function is walked. -/
import Derived.Test.YtckdncmjkloebaaGreatZDelq
namespace Go.Proofs.YtckdncmjkloebaaGreat
set_option linter.unusedVariables false
set_option linter.unusedSimpArgs false
set_option linter.unusedVariables false
open Go.RowKit
set_option maxHeartbeats 8000000 in
theorem dcounts_walk (s : Sto) (root : Int) (q : Ky) (bv wv nv lw : Value) (M : Mem) (hST : ST M (.agg #[bv, wv, nv, lw]) s) :
  SpecL Tryz.prog 8 #[.agg #[bv, wv, nv, lw], .int .i64 root, .agg (wBr q).toArray] M [] fun u _ _ => u = .bool true := by
 refine wAi (vs := [_, _, _]) 108 _ Tryz.func8 rfl Tryz.ntmps8 rfl rfl ?_; intro W
 refine wAb (wAa ?_)
 refine wAr rfl rfl (wDt (cs := [_, _, _, _]) rfl rfl rfl rfl) ?_; rintro _ _ _ ⟨b3, rfl, rfl, rfl⟩
 refine wAr rfl rfl (wDt (cs := [.int .u8 q.kind, .int .u32 q.id, .int .u32 q.off]) rfl rfl rfl rfl) ?_; rintro _ _ _ ⟨b5, rfl, rfl, rfl⟩
 refine jp rfl ?_
 refine wAc (jT (wAb (wAa ?_)))
 refine wAr rfl rfl (wAu rfl rfl rfl rfl rfl (by kernel_rfl) (dalive M)) ?_; rintro _ M1 _ ⟨hM1, _, rfl, ⟨rfl, rfl⟩⟩
 simp only [List.nil_append]
 refine jp rfl ?_
 refine wAc (jT (wAb (wAb (wAa ?_))))
 refine wAe rfl rfl (wBq rfl rfl rfl rfl rfl) ?_
 refine wAr rfl rfl (wAu rfl rfl rfl rfl rfl (by kernel_rfl) (wKh s _ M1 (hST.mono hM1))) ?_; rintro _ M2 _ ⟨hM2, _, rfl, ⟨⟨bg, rfl⟩, rfl⟩⟩
 simp only [List.nil_append]
 have hL2 := hM1.trans hM2
 refine jsb rfl (fun h20 => ?_) (fun h20 => ?_)
 ·iterate 3 refine jp rfl ?_
  refine wAc (jT (wAj rfl (wAb (wAa ?_))))
  iterate 2 refine jp rfl ?_
  refine wAc (jT (wAh (jTr ?_)))
  refine jr1 rfl rfl ?_
  first | rfl | exact congrArg Value.bool (decide_eq_true (by omega))
 ·iterate 3 refine jp rfl ?_
  refine wAc (jT (wAm rfl (wAf (jT (wAb (wAa ?_))))))
  refine wAe rfl rfl (wBq rfl rfl rfl rfl rfl) ?_
  refine jp rfl ?_
  refine wAe rfl rfl (wBu rfl rfl rfl rfl rfl (by kernel_rfl) (wDx s _ root M2 (hST.mono hL2))) ?_
  iterate 5 refine jp rfl ?_
  refine wAc (jT (wAb (wAa ?_)))
  refine wAe rfl rfl (wBq rfl rfl rfl rfl rfl) ?_
  refine jp rfl ?_
  refine wAe rfl rfl (wBq rfl rfl rfl rfl rfl) ?_
  refine wAr rfl rfl (wAu rfl rfl rfl rfl rfl (by kernel_rfl) (wJt s _ root q M2 (hST.mono hL2))) ?_; rintro _ M3 _ ⟨hM3, _, rfl, ⟨hfd, rfl⟩⟩
  simp only [List.nil_append]
  obtain ⟨y, yv, code, rfl, hyv, hcode⟩ := fdForm hfd
  obtain ⟨ya, yc, rfl, hyc, hys⟩ := id hyv
  have hL3 := hL2.trans hM3
  iterate 3 refine jp rfl ?_
  refine wAr rfl rfl (wAs rfl rfl) ?_; rintro _ _ _ ⟨b10, rfl, rfl, rfl⟩
  refine wBk rfl (wAg rfl rfl rfl rfl rfl rfl rfl rfl) ?_; rintro _ _ _ ⟨rfl, rfl⟩
  refine jp rfl ?_
  refine wAc (jT (wAb (wAa ?_)))
  refine wAe rfl rfl (wBq rfl rfl rfl rfl rfl) ?_
  refine jp rfl ?_
  refine wAe rfl rfl (wBq rfl rfl rfl rfl rfl) ?_
  refine wAr rfl rfl (wAu rfl rfl rfl rfl rfl (by kernel_rfl) (wEj s _ root q M3 (hST.mono hL3))) ?_; rintro _ Mp _ ⟨hMp, _, rfl, ⟨hpt, rfl⟩⟩
  obtain ⟨ba, bn, bc, wa, wn, wc, na, nn, nc, la, ln, lc, at_, e, rfl, hq⟩ := hpt.form
  simp only [List.nil_append]
  have hLp := hL3.trans hMp
  iterate 4 refine jp rfl ?_
  refine wAr rfl rfl (wAs rfl rfl) ?_; rintro _ _ _ ⟨b12, rfl, rfl, rfl⟩
  refine wBk rfl (wAg rfl rfl rfl rfl rfl rfl rfl rfl) ?_; rintro _ _ _ ⟨rfl, rfl⟩
  iterate 2 refine jp rfl ?_
  refine wAc (jT (wAb (wAb (wAa ?_))))
  refine jp rfl ?_
  refine js rfl (fun h47 => ?_) (fun h47 => ?_)
  ·refine wAc (jT (wAj rfl (wAb ?_)))
   have hE : at_ = 0 ∧ nn = 0 ∧ ((wCj s root).2 = 0 ∨ e = (wCj s root).2) := by
    rcases hq with ⟨_, h2, h3, h4⟩ | ⟨h0, _⟩
    ·refine ⟨h3, h4, ?_⟩
     by_cases h5 : (wCj s root).2 = 0
     ·exact .inl h5
     ·rw [delF_bad h5] at h2; cases h2; exact .inr rfl
    ·exact absurd h0 h47
   refine wAa ?_
   iterate 3 refine jp rfl ?_
   refine jt rfl (decide_eq_true (by omega)) ?_
   iterate 2 refine jp rfl ?_
   refine wAe rfl rfl (wAd rfl rfl rfl rfl rfl) ?_
   refine wAe rfl rfl (qLd rfl rfl rfl rfl (CJ.loc rfl)) ?_
   refine wAe rfl rfl (wBt rfl rfl rfl) ?_
   refine jt rfl (decide_eq_true (by omega)) ?_
   iterate 3 refine jp rfl ?_
   refine js rfl (fun h61 => ?_) (fun h61 => ?_)
   ·iterate 7 refine jp rfl ?_
    refine wAc (jT (wAh (jTr ?_)))
    refine jr1 rfl rfl ?_
    first | rfl | exact congrArg Value.bool (decide_eq_true (by omega))
   ·iterate 7 refine jp rfl ?_
    refine wAc (jT (wAh (jTr ?_)))
    refine jr1 rfl rfl ?_
    first | rfl | exact congrArg Value.bool (decide_eq_true (by omega))
  ·refine wAc (jT (wAm rfl (wAf (jT (wAb (wAb ?_))))))
   obtain ⟨t, hdl, hnn, hwn, hTT, htok⟩ : ∃ t, delF s root q = .ok (t, at_) ∧ nn = t.now.length ∧ wn = t.waits.length ∧ ST Mp (.agg #[.slice ba bn bc, .slice wa wn wc, .slice na nn nc, .slice la ln lc]) t ∧ wCx t := by
    rcases hq with ⟨h0, _⟩ | ⟨_, t, h2, h3, h4, h5, h6⟩
    ·exact absurd h0 h47
    ·exact ⟨t, h2, h3, h4, h5, h6⟩
   obtain ⟨hf1, y1, hfy⟩ := delF_fnd hdl
   have hst := (wCb hf1).1
   have hc0 : code = 0 := by
    rcases hcode hf1 with ⟨_, k2⟩ | ⟨k1, _⟩
    ·exact k2
    ·rw [hfy] at k1; cases k1
   refine wAa ?_
   refine jp rfl ?_
   refine jf rfl (decide_eq_false (by omega)) ?_
   iterate 2 refine jp rfl ?_
   refine jf rfl (decide_eq_false (by omega)) ?_
   refine jp rfl ?_
   refine wAc (jT (wAm rfl (wAf (jT (wAb (wAb (wAa ?_)))))))
   refine wAe rfl rfl (wBq rfl rfl rfl rfl rfl) ?_
   refine jp rfl ?_
   refine wAr rfl rfl (wEr (cs := [_]) rfl rfl rfl (by rfl) (by rfl) (by rfl)) ?_; rintro _ M5 _ ⟨b76, rfl, rfl, hM5, e76⟩
   have hrt : IS M5 (.slice (some ⟨b76, 0, none⟩) 1 1) [root] := ⟨_, 1, rfl, Nat.le_refl _, SM.of_block e76⟩
   refine wAr rfl rfl (wAu rfl rfl rfl rfl rfl (by kernel_rfl) (wGn s [root] _ _ M5 (hST.mono (hLp.trans hM5)) hst hrt (by show 1 ≤ 100000; decide) (fun r hr => by rw [List.mem_singleton.1 hr]; exact hf1))) ?_; rintro _ M6 _ ⟨hM6, R', rfl, hy⟩
   obtain ⟨rfl, hy⟩ := hy
   simp only [List.nil_append]
   rcases hy with ⟨rfl, hy⟩ | ⟨rfl, hy⟩
   ·refine jp rfl ?_
    refine wAc (jT (wAm rfl (wAf (jT (wAb (wAa ?_))))))
    refine wAe rfl rfl (wBq rfl rfl rfl rfl rfl) ?_
    refine jp rfl ?_
    refine wAe rfl rfl (wBu rfl rfl rfl rfl rfl (by kernel_rfl) (wDx t _ at_ M6 (hTT.mono (hM5.trans hM6)))) ?_
    iterate 5 refine jp rfl ?_
    refine wAc (jT (wAb ?_))
    have hg0 : Good s root := ⟨hf1, hy⟩
    obtain ⟨S, S2, hok, _, _⟩ := del_ok hy (fun _ h => by cases h) hdl
    have hpl := del_len hg0 hdl
    have hhi := hok.high
    have hch := hok.chk
    have ha1 := wHw t at_
    have ha2 := wHw s root
    refine wBp [(0, true), (1, true), (2, true), (3, true), (4, true), (5, true), (6, true), (7, true), (8, true), (9, true), (10, true), (11, true), (12, true), (15, true), (16, true), (13, false), (14, true), (17, false), (18, true), (19, true), (20, true), (21, true), (22, true)] _ (by kernel_rfl) (by kernel_rfl) (by kernel_rfl) rfl (fun _ h => h) ?_
    iterate 3 refine dp rfl rfl ?_
    refine dt rfl rfl (decide_eq_true (by omega)) ?_
    iterate 4 refine dp rfl rfl ?_
    refine dt rfl rfl (decide_eq_true (by omega)) ?_
    iterate 2 refine dp rfl rfl ?_
    refine wAv rfl rfl rfl (wBq rfl rfl rfl rfl rfl) ?_
    refine dp rfl rfl ?_
    refine wAv rfl rfl rfl (wBq rfl rfl rfl rfl rfl) ?_
    refine dp rfl rfl ?_
    refine wGj rfl rfl rfl (wAu rfl rfl rfl rfl rfl (by kernel_rfl) (dall t _ at_ M6 (hTT.mono (hM5.trans hM6)))) ?_; rintro _ M7 _ ⟨hM7, _, rfl, ⟨hnA, rfl⟩⟩
    refine ⟨_, _, hM7, MLe.refl _, by simp, fun _ h => h, ?_⟩
    simp only [List.nil_append]
    obtain ⟨aa, ac, aps, rfl, _⟩ := hnA
    refine wAv rfl rfl rfl (wBt rfl rfl rfl) ?_
    refine wGj rfl rfl rfl (wAu rfl rfl rfl rfl rfl (by kernel_rfl) (dall s _ root M7 (hST.mono (hLp.trans (hM5.trans (hM6.trans hM7)))))) ?_; rintro _ M8 _ ⟨hM8, _, rfl, ⟨hnB, rfl⟩⟩
    refine ⟨_, _, hM8, MLe.refl _, by simp, fun _ h => h, ?_⟩
    simp only [List.nil_append]
    obtain ⟨ca, cc, cps, rfl, _⟩ := hnB
    refine wAv rfl rfl rfl (wBt rfl rfl rfl) ?_
    refine da rfl rfl (by omega) ?_
    iterate 3 refine dp rfl rfl ?_
    refine wBi (jPn (jT (wAh ?_)))
    refine jr1 rfl rfl ?_
    first | rfl | exact congrArg Value.bool (decide_eq_true (by omega))
   ·refine jp rfl ?_
    refine wAc (jT (wAj rfl (wAb (wAa ?_))))
    iterate 2 refine jp rfl ?_
    refine wAc (jT (wAh (jTr ?_)))
    refine jr1 rfl rfl ?_
    first | rfl | exact congrArg Value.bool (decide_eq_true (by omega))
end Go.Proofs.YtckdncmjkloebaaGreat
