/- DelItems' function is walked. -/
import Derived.Test.YtckdncmjkloebaaGreatZDelq
namespace Go.Proofs.YtckdncmjkloebaaGreat
set_option linter.unusedVariables false
set_option linter.unusedSimpArgs false
set_option linter.unusedVariables false
open Go.RowKit
theorem dsnoc_all {M : Mem} {ps : List (It × Value)} {y : It} {v : Value} (h : ∀ p ∈ ps, BS M p.2 p.1.val) (hy : BS M v y.val) : ∀ p ∈ ps ++ [(y, v)], BS M p.2 p.1.val := fun p hp => by
 rcases List.mem_append.1 hp with hp | hp
 ·exact h p hp
 ·rw [List.mem_singleton.1 hp]; exact hy
theorem fil_take {q : Ky} {l : List It} {i : Nat} (hi : i < l.length) : (l.take (i + 1)).filter (wEt q) = (l.take i).filter (wEt q) ++ (if wEt q l[i] = true then [l[i]] else []) := by
 rw [List.take_succ_eq_append_getElem hi, List.filter_append]
 congr 1
 by_cases h : wEt q l[i] = true
 ·rw [if_pos h, List.filter_cons_of_pos h]; rfl
 ·rw [if_neg h, List.filter_cons_of_neg h]; rfl
theorem fil_no {q : Ky} {l : List It} {i : Nat} (hi : i < l.length) (h : l[i].key = q) : (l.take (i + 1)).filter (wEt q) = (l.take i).filter (wEt q) := by
 rw [fil_take hi, if_neg (by unfold wEt; rw [decide_eq_false (fun k => k h)]; decide), List.append_nil]
theorem fil_yes {q : Ky} {l : List It} {i : Nat} (hi : i < l.length) (h : l[i].key ≠ q) : (l.take (i + 1)).filter (wEt q) = (l.take i).filter (wEt q) ++ [l[i]] := by
 rw [fil_take hi, if_pos (by unfold wEt; exact decide_eq_true h)]
set_option maxHeartbeats 8000000 in
theorem ditems_walk (s : Sto) (root other : Int) (q : Ky) (bv wv nv lw : Value) (M : Mem) (hST : ST M (.agg #[bv, wv, nv, lw]) s) :
  SpecL Tryz.prog 9 #[.agg #[bv, wv, nv, lw], .int .i64 root, .int .i64 other, .agg (wBr q).toArray] M [] fun u _ _ => u = .bool true := by
 obtain ⟨bv2, wv2, nv2, lw2, e0, g1, g2, g3, g4⟩ := hST.ex
 simp only [Value.agg.injEq, Array.mk.injEq, List.cons.injEq, and_true] at e0
 obtain ⟨rfl, rfl, rfl, rfl⟩ := e0
 obtain ⟨wa0, wc0, wps0, rfl, _⟩ := id g2
 refine wAi (vs := [_, _, _, _]) 177 _ Tryz.func9 rfl Tryz.ntmps9 rfl rfl ?_; intro W
 refine wAb (wAa ?_)
 refine wAr rfl rfl (wDt (cs := [_, _, _, _]) rfl rfl rfl rfl) ?_; rintro _ _ _ ⟨b4, rfl, rfl, rfl⟩
 refine wAr rfl rfl (wDt (cs := [.int .u8 q.kind, .int .u32 q.id, .int .u32 q.off]) rfl rfl rfl rfl) ?_; rintro _ _ _ ⟨b7, rfl, rfl, rfl⟩
 refine jp rfl ?_
 refine wAc (jT (wAb (wAa ?_)))
 refine wAr rfl rfl (wAu rfl rfl rfl rfl rfl (by kernel_rfl) (dalive M)) ?_; rintro _ M1 _ ⟨hM1, _, rfl, ⟨rfl, rfl⟩⟩
 simp only [List.nil_append]
 refine jp rfl ?_
 refine wAc (jT (wAb (wAb (wAa ?_))))
 iterate 2 refine jp rfl ?_
 refine wAc (jT (wAm rfl (wAf (jT (wAb (wAa ?_))))))
 refine wAe rfl rfl (wBq rfl rfl rfl rfl rfl) ?_
 refine jp rfl ?_
 refine wAe rfl rfl (wBu rfl rfl rfl rfl rfl (by kernel_rfl) (wDx s _ root M1 (hST.mono hM1))) ?_
 iterate 5 refine jp rfl ?_
 refine wAc (jT (wAb (wAa ?_)))
 refine wAe rfl rfl (wBq rfl rfl rfl rfl rfl) ?_
 refine jp rfl ?_
 refine wAe rfl rfl (wBu rfl rfl rfl rfl rfl (by kernel_rfl) (wDx s _ other M1 (hST.mono hM1))) ?_
 iterate 5 refine jp rfl ?_
 refine wAc (jT (wAb (wAb (wAa ?_))))
 refine wAe rfl rfl (wBq rfl rfl rfl rfl rfl) ?_
 refine wAr rfl rfl (wAu rfl rfl rfl rfl rfl (by kernel_rfl) (wKh s _ M1 (hST.mono hM1))) ?_; rintro _ M2 _ ⟨hM2, _, rfl, ⟨⟨bg, rfl⟩, rfl⟩⟩
 simp only [List.nil_append]
 have hL2 := hM1.trans hM2
 refine jsb rfl (fun h41 => ?_) (fun h41 => ?_)
 ·iterate 15 refine jp rfl ?_
  refine wAc (jT (wAj rfl (wAb (wAa ?_))))
  iterate 2 refine jp rfl ?_
  refine wAc (jT (wAh (jTr ?_)))
  refine jr1 rfl rfl ?_
  first | rfl | exact congrArg Value.bool (decide_eq_true (by omega))
 ·refine jp rfl ?_
  refine js rfl (fun h43 => ?_) (fun h43 => ?_)
  ·iterate 13 refine jp rfl ?_
   refine wAc (jT (wAj rfl (wAb (wAa ?_))))
   iterate 2 refine jp rfl ?_
   refine wAc (jT (wAh (jTr ?_)))
   refine jr1 rfl rfl ?_
   first | rfl | exact congrArg Value.bool (decide_eq_true (by omega))
  ·iterate 3 refine jp rfl ?_
   refine js rfl (fun h47 => ?_) (fun h47 => ?_)
   ·iterate 9 refine jp rfl ?_
    refine wAc (jT (wAj rfl (wAb (wAa ?_))))
    iterate 2 refine jp rfl ?_
    refine wAc (jT (wAh (jTr ?_)))
    refine jr1 rfl rfl ?_
    first | rfl | exact congrArg Value.bool (decide_eq_true (by omega))
   ·iterate 2 refine jp rfl ?_
    refine wAe rfl rfl (wBq rfl rfl rfl rfl rfl) ?_
    iterate 2 refine jp rfl ?_
    refine wAr rfl rfl (wEr (cs := [_, _]) rfl rfl rfl (by rfl) (by rfl) (by rfl)) ?_; rintro _ M4 _ ⟨b53, rfl, rfl, hM4, e53⟩
    have hrt : IS M4 (.slice (some ⟨b53, 0, none⟩) 2 2) [root, other] := ⟨_, 2, rfl, Nat.le_refl _, SM.of_block e53⟩
    have hf1 : (wCj s root).2 = 0 := Classical.not_not.1 h43
    have hf2 : (wCj s other).2 = 0 := Classical.not_not.1 h47
    have hst := (wCb hf1).1
    have hL4 := hL2.trans hM4
    refine wAr rfl rfl (wAu rfl rfl rfl rfl rfl (by kernel_rfl) (wGn s [root, other] _ _ M4 (hST.mono hL4) hst hrt (by show 2 ≤ 100000; decide) (two_all hf1 hf2))) ?_; rintro _ M5 _ ⟨hM5, R', rfl, hy⟩
    obtain ⟨rfl, hy⟩ := hy
    simp only [List.nil_append]
    rcases hy with ⟨rfl, hy⟩ | ⟨rfl, hy⟩
    ·iterate 2 refine jp rfl ?_
     refine wAc (jT (wAm rfl (wAf (jT (wAb (wAa ?_))))))
     refine wAe rfl rfl (wBq rfl rfl rfl rfl rfl) ?_
     refine jp rfl ?_
     refine wAe rfl rfl (wBq rfl rfl rfl rfl rfl) ?_
     have hL5 := hL4.trans hM5
     refine wAr rfl rfl (wAu rfl rfl rfl rfl rfl (by kernel_rfl) (wEj s _ root q M5 (hST.mono hL5))) ?_; rintro _ Mp _ ⟨hMp, _, rfl, ⟨hpt, rfl⟩⟩
     obtain ⟨ba, bn, bc, wa, wn, wc, na, nn, nc, la, ln, lc, at_, e, rfl, hq⟩ := hpt.form
     simp only [List.nil_append]
     have hLp := hL5.trans hMp
     iterate 4 refine jp rfl ?_
     refine wAr rfl rfl (wAs rfl rfl) ?_; rintro _ _ _ ⟨b14, rfl, rfl, rfl⟩
     refine wBk rfl (wAg rfl rfl rfl rfl rfl rfl rfl rfl) ?_; rintro _ _ _ ⟨rfl, rfl⟩
     iterate 2 refine jp rfl ?_
     refine wAc (jT (wAb (wAa ?_)))
     refine wAe rfl rfl (wBq rfl rfl rfl rfl rfl) ?_
     refine jp rfl ?_
     refine wAe rfl rfl (wBq rfl rfl rfl rfl rfl) ?_
     refine wAr rfl rfl (wAu rfl rfl rfl rfl rfl (by kernel_rfl) (wJt s _ root q Mp (hST.mono hLp))) ?_; rintro _ M6 _ ⟨hM6, _, rfl, ⟨hfd, rfl⟩⟩
     simp only [List.nil_append]
     obtain ⟨y, yv, code, rfl, hyv, hcode⟩ := fdForm hfd
     obtain ⟨ya, yc, rfl, hyc, hys⟩ := id hyv
     have hL6 := hLp.trans hM6
     iterate 3 refine jp rfl ?_
     refine wAr rfl rfl (wAs rfl rfl) ?_; rintro _ _ _ ⟨b17, rfl, rfl, rfl⟩
     refine wBk rfl (wAg rfl rfl rfl rfl rfl rfl rfl rfl) ?_; rintro _ _ _ ⟨rfl, rfl⟩
     refine jp rfl ?_
     refine wAc (jT (wAb (wAb (wAa ?_))))
     refine jp rfl ?_
     refine js rfl (fun h74 => ?_) (fun h74 => ?_)
     ·refine wAc (jT (wAj rfl (wAb ?_)))
      have hE : nn = 0 ∧ ((e = 6 ∧ code = 6) ∨ ((e = 9 ∨ e = 70) ∧ code = 0)) := by
       rcases hq with ⟨_, h2, h3, h4⟩ | ⟨h0, _⟩
       ·refine ⟨h4, ?_⟩
        rcases del_err hf1 hy (fun r hr => by rw [List.mem_singleton.1 hr]; exact hf2) h2 with ⟨k1, k2⟩ | ⟨k1, y1, k2⟩
        ·rcases hcode hf1 with ⟨m1, _⟩ | ⟨_, m2, _⟩
         ·rw [k2] at m1; cases m1
         ·exact .inl ⟨k1, m2⟩
        ·rcases hcode hf1 with ⟨_, m2⟩ | ⟨m1, _⟩
         ·exact .inr ⟨k1, m2⟩
         ·rw [k2] at m1; cases m1
       ·exact absurd h0 h74
      refine wAa ?_
      iterate 2 refine jp rfl ?_
      refine wAe rfl rfl (wAd rfl rfl rfl rfl rfl) ?_
      refine wAe rfl rfl (qLd rfl rfl rfl rfl (CJ.loc rfl)) ?_
      refine wAe rfl rfl (wBt rfl rfl rfl) ?_
      refine jt rfl (decide_eq_true (by omega)) ?_
      iterate 3 refine jp rfl ?_
      refine js rfl (fun h84 => ?_) (fun h84 => ?_)
      ·iterate 2 refine jp rfl ?_
       refine jt rfl (decide_eq_true (by omega)) ?_
       iterate 11 refine jp rfl ?_
       refine wAc (jT (wAh (jTr ?_)))
       refine jr1 rfl rfl ?_
       first | rfl | exact congrArg Value.bool (decide_eq_true (by omega))
      ·iterate 6 refine jp rfl ?_
       refine js rfl (fun h91 => ?_) (fun h91 => ?_)
       ·iterate 7 refine jp rfl ?_
        refine wAc (jT (wAh (jTr ?_)))
        refine jr1 rfl rfl ?_
        first | rfl | exact congrArg Value.bool (decide_eq_true (by omega))
       ·iterate 7 refine jp rfl ?_
        refine wAc (jT (wAh (jTr ?_)))
        refine jr1 rfl rfl ?_
        first | rfl | exact congrArg Value.bool (decide_eq_true (by omega))
     ·refine wAc (jT (wAm rfl (wAf (jT (wAb ?_)))))
      obtain ⟨t, hdl, hnn, hwn, hTT, htok⟩ : ∃ t, delF s root q = .ok (t, at_) ∧ nn = t.now.length ∧ wn = t.waits.length ∧ ST Mp (.agg #[.slice ba bn bc, .slice wa wn wc, .slice na nn nc, .slice la ln lc]) t ∧ wCx t := by
       rcases hq with ⟨h0, _⟩ | ⟨_, t, h2, h3, h4, h5, h6⟩
       ·exact absurd h0 h74
       ·exact ⟨t, h2, h3, h4, h5, h6⟩
      obtain ⟨S, S2, hok, hRS, henp⟩ := del_ok hy (fun r hr => by rw [List.mem_singleton.1 hr]; exact hf2) hdl
      obtain ⟨_, y1, hfy⟩ := delF_fnd hdl
      have hc0 : code = 0 := by
       rcases hcode hf1 with ⟨_, k2⟩ | ⟨k1, _⟩
       ·exact k2
       ·rw [hfy] at k1; cases k1
      rw [hc0]
      refine wAa ?_
      refine jp rfl ?_
      refine wAc (jT (wAb (wAa ?_)))
      refine wAe rfl rfl (wBq rfl rfl rfl rfl rfl) ?_
      refine jp rfl ?_
      refine wAr rfl rfl (wAu rfl rfl rfl rfl rfl (by kernel_rfl) (dall s _ root M6 (hST.mono hL6))) ?_; rintro _ Ma _ ⟨hMa, _, rfl, ⟨hns, rfl⟩⟩
      simp only [List.nil_append]
      have hLa := hL6.trans hMa
      have hll := wHw s root
      obtain ⟨l, hl⟩ : ∃ l, l = wJc s root := ⟨_, rfl⟩
      rw [← hl] at hns hll
      obtain ⟨ga, gc, gps, rfl, hgc, hgs, hgp, hgb⟩ := hns
      refine jp rfl ?_
      refine wAc (jT (wAb (wAb (wAa ?_))))
      refine jp rfl ?_
      refine wAc (jT (wAk ?_))
      refine wBc (α := Nat × Lc × List (It × Value) × Value) (fun z => [(2, .int .i64 other), (4, .pointer (some ⟨b4, 0, none⟩)), (7, .pointer (some ⟨b7, 0, none⟩)), (9, .bool true), (10, .int .i64 (wCj s root).1), (14, .pointer (some ⟨b14, 0, none⟩)), (15, .int .i64 at_), (18, .int .i64 0), (19, z.2.2.2), (20, .slice ga l.length gc), (21, .int .i64 (z.1 : Int))]) (fun _ => Ma) (fun z => (b17, .cells [.int .u8 y.key.kind, .int .u32 y.key.id, .int .u32 y.key.off, .int .i64 y.ref, .slice ya y.val.length yc].toArray 44 (0, 0)) :: (b14, .cells [.slice ba bn bc, .slice wa wn wc, .slice na nn nc, .slice la ln lc].toArray TSt (0, 0)) :: (b7, .cells [.int .u8 q.kind, .int .u32 q.id, .int .u32 q.off].toArray 31 (0, 0)) :: (b4, .cells [bv, .slice wa0 s.waits.length wc0, nv, lw].toArray TSt (0, 0)) :: z.2.1) (fun z => z.1 ≤ l.length ∧ Own z.2.2.2 z.2.1 IT 5 z.2.2.1.length (z.2.2.1.flatMap wAq) ∧ (∀ p ∈ z.2.2.1, BS Ma p.2 p.1.val) ∧ z.2.2.1.map (·.1) = (l.take z.1).filter (wEt q) ∧ z.2.2.1.length ≤ z.1) (fun z => l.length - z.1)
       (0, [], [], .slice none 0 0) (Keep.cons (t := 2) rfl (Keep.cons (t := 4) rfl (Keep.cons (t := 7) rfl (Keep.cons (t := 9) rfl (Keep.cons (t := 10) rfl (Keep.cons (t := 14) rfl (Keep.cons (t := 15) rfl (Keep.cons (t := 18) rfl (Keep.cons (t := 19) rfl (Keep.cons (t := 20) rfl (Keep.cons (t := 21) rfl Keep.nil))))))))))) ⟨Nat.zero_le _, Own.nil _ _, (fun _ h => by cases h), rfl, Nat.le_refl _⟩ (fun _ h => h) ?_
      rintro ⟨i, R, ps, v⟩ ⟨hi, hown, hpb, hW, hpl1⟩
      try dsimp only at hi hown hpb hW hpl1 ⊢
      obtain ⟨a0, c0, rfl⟩ := hown.form
      refine wAb (wAb (wAa ?_))
      iterate 2 refine jp rfl ?_
      refine wAe rfl rfl (wBt rfl rfl rfl) ?_
      refine js rfl (fun h104 => ?_) (fun h104 => ?_)
      ·refine wAc (jT (wAj rfl (wAf (jT (wAb (wAk (wAb ?_)))))))
       have hi1 : i < l.length := by omega
       obtain ⟨gb, go_, e0, hgx⟩ := hgs.open (by intro e; have := congrArg List.length e; rw [wBd wAq 5 wAo, List.length_nil] at this; have h2 := congrArg List.length hgp; rw [List.length_map] at h2; omega)
       subst e0
       obtain ⟨va, vc, hcl, hvc, hvs⟩ := wBj hgx hgp hgb hi1
       refine wBp [(0, true), (1, true), (2, true), (3, true), (4, true), (5, true), (6, true)] [(b7, .cells [.int .u8 q.kind, .int .u32 q.id, .int .u32 q.off].toArray 31 (0, 0))] (by kernel_rfl) (by kernel_rfl) (by kernel_rfl) rfl (by simp) ?_
       iterate 2 refine dp rfl rfl ?_
       refine wAv rfl rfl rfl (wBh rfl rfl rfl rfl (by omega)) ?_
       refine wAv rfl rfl rfl (wAd rfl rfl rfl rfl rfl) ?_
       refine wAv rfl rfl rfl (wGs (cs := wBr l[i].key) rfl rfl rfl rfl rfl (fun i v hv => (hcl i v (key_itc hv)).cj _)) ?_
       refine wAv rfl rfl rfl (wBq rfl rfl rfl rfl rfl) ?_
       refine jd_qb rfl rfl rfl (qNeI (ns := [l[i].key.kind, l[i].key.id, l[i].key.off]) (ms := [q.kind, q.id, q.off]) rfl rfl rfl rfl rfl rfl ⟨rfl, rfl⟩) (fun h113 => ?_) (fun h113 => ?_)
       ·refine wBi (jPn (jT (wAj rfl (wAa ?_))))
        iterate 3 refine jp rfl ?_
        refine wAe rfl rfl (wBh rfl rfl rfl rfl (by omega)) ?_
        refine wAe rfl rfl (wGs (cs := itc l[i] va vc) rfl rfl rfl rfl rfl (fun i v hv => (hcl i v hv).cj _)) ?_
        refine wAr rfl rfl (wAp (cs := [_, _, _, _, _]) rfl rfl rfl (by rfl) (by rfl) (by rfl)) ?_; rintro _ _ _ ⟨b119, rfl, rfl, rfl⟩
        refine wAr rfl rfl (wDw (R := R) (n := ps.length) (m := 1) (xs := ps.flatMap wAq) rfl rfl rfl rfl hown rfl (fun i v hv => CJ.loc (by simpa using hv)) rfl (by rfl) (by simp [Value.oneCell']) (by omega) (by omega)) ?_; rintro s' _ _ ⟨rfl, R2, rfl, hown2, _⟩
        obtain ⟨a2, ca2, rfl⟩ := hown2.form
        refine jp rfl ?_
        refine wAc (jB (jT (wAa ?_)))
        refine jp rfl ?_
        refine ja rfl (by omega) ?_
        refine jp rfl ?_
        refine wAc ?_
        refine wAx (i + 1, R2, ps ++ [(l[i], .slice va l[i].val.length vc)], .slice a2 (ps.length + 1) ca2) (Keep.cons (t := 2) rfl (Keep.cons (t := 4) rfl (Keep.cons (t := 7) rfl (Keep.cons (t := 9) rfl (Keep.cons (t := 10) rfl (Keep.cons (t := 14) rfl (Keep.cons (t := 15) rfl (Keep.cons (t := 18) rfl (Keep.cons (t := 19) rfl (Keep.cons (t := 20) rfl (Keep.cons (t := 21) rfl Keep.nil))))))))))) ⟨by show i + 1 ≤ l.length; omega, ?_, dsnoc_all hpb ⟨va, vc, rfl, hvc, hvs⟩, ?_, by show (ps ++ [_]).length ≤ i + 1; rw [List.length_append]; show ps.length + 1 ≤ _; omega⟩ (by show l.length - (i + 1) < l.length - i; omega) (fun w h => h.dropAt.perm List.perm_append_comm)
        ·show Own _ R2 IT 5 (ps ++ [_]).length _; rw [List.length_append, List.flatMap_append]; simpa [wAq, itc] using hown2
        ·show (ps ++ [_]).map _ = _; rw [fil_yes hi1 (keyD_ne h113), List.map_append, hW]; rfl
       ·refine wBi (jPn (jT (wAm rfl (wAf (jB (jT (wAa ?_)))))))
        refine jp rfl ?_
        refine ja rfl (by omega) ?_
        refine jp rfl ?_
        refine wAc ?_
        refine wAx (i + 1, R, ps, .slice a0 ps.length c0) (Keep.cons (t := 2) rfl (Keep.cons (t := 4) rfl (Keep.cons (t := 7) rfl (Keep.cons (t := 9) rfl (Keep.cons (t := 10) rfl (Keep.cons (t := 14) rfl (Keep.cons (t := 15) rfl (Keep.cons (t := 18) rfl (Keep.cons (t := 19) rfl (Keep.cons (t := 20) rfl (Keep.cons (t := 21) rfl Keep.nil))))))))))) ⟨by show i + 1 ≤ l.length; omega, hown, hpb, ?_, by show ps.length ≤ i + 1; omega⟩ (by show l.length - (i + 1) < l.length - i; omega) (fun _ h => h)
        show ps.map _ = _; rw [fil_no hi1 (keyD_eq h113)]; exact hW
      ·refine wAc (jT (wAm rfl (wBa (jTx (jTx (jBx (jT (wAb ?_))))))))
       have hie : i = l.length := by omega
       subst hie
       rw [List.take_length] at hW
       refine jc_own hown (fun _ _ => List.not_mem_nil) ?_
       intro My a8 c8 hMy e8 hc8 hs8
       cases e8
       have hpl8 : ps.length = (l.filter (wEt q)).length := by rw [← hW, List.length_map]
       rw [hpl8]
       have hnw : NS My (.slice a0 (l.filter (wEt q)).length c0) (l.filter (wEt q)) := ⟨_, _, ps, rfl, by rw [← hpl8]; exact hc8, hs8, hW, fun p hp => (hpb p hp).mono hMy⟩
       refine wAa ?_
       refine wAe rfl rfl (wBq rfl rfl rfl rfl rfl) ?_
       refine jp rfl ?_
       refine wAe rfl rfl (wBu rfl rfl rfl rfl rfl (by kernel_rfl) (wDx t _ at_ My (hTT.mono (hM6.trans (hMa.trans hMy))))) ?_
       iterate 5 refine jp rfl ?_
       refine wAc (jT (wAb ?_))
       have hil : (l.filter (wEt q)).length ≤ 1000000 := by have := (List.filter_sublist (l := l) (p := wEt q)).length_le; omega
       have hol : (wJc s other).length ≤ 1000000 := by have := wHw s other; omega
       have hw1 := hst.1.2.1
       have hw2 := htok.1.2.1
       have hw3 := hok.waits
       have hw4 := hok.high
       have hw5 := hok.chk
       refine wBp [(0, true), (1, true), (2, true), (3, true), (4, true), (5, true), (6, true), (7, true), (8, true), (9, true), (10, true), (11, true), (12, true), (13, true), (14, true), (15, true), (16, true), (18, true), (17, false), (19, true), (20, true), (21, true), (22, true), (23, true), (25, true), (26, true), (24, false), (27, false), (28, true), (29, true), (30, true), (31, true), (32, true), (33, true), (34, false), (35, false), (36, true), (37, true), (38, true), (39, true), (40, true), (41, true), (42, true), (43, true), (44, true), (45, true), (46, true), (47, true), (48, true), (49, true), (50, true)] _ (by kernel_rfl) (by kernel_rfl) (by kernel_rfl) rfl (fun _ h => h) ?_
       iterate 3 refine dp rfl rfl ?_
       refine dt rfl rfl (decide_eq_true (by omega)) ?_
       iterate 3 refine dp rfl rfl ?_
       refine dt rfl rfl (decide_eq_true (by omega)) ?_
       iterate 4 refine dp rfl rfl ?_
       refine dt rfl rfl (decide_eq_true (by omega)) ?_
       iterate 2 refine dp rfl rfl ?_
       refine wAv rfl rfl rfl (wBq rfl rfl rfl rfl rfl) ?_
       iterate 2 refine dp rfl rfl ?_
       refine wGj rfl rfl rfl (wAu rfl rfl rfl rfl rfl (by kernel_rfl) (dall t _ at_ My (hTT.mono (hM6.trans (hMa.trans hMy))))) ?_; rintro _ Mb _ ⟨hMb, _, rfl, ⟨hnA, rfl⟩⟩
       refine ⟨_, _, hMb, MLe.refl _, by simp, fun _ h => h, ?_⟩
       simp only [List.nil_append]
       rw [wEm hok.chk, hok.all, ← wEm hf1, ← hl] at hnA
       refine wAv rfl rfl rfl (qEq (wBu rfl rfl rfl rfl rfl (by kernel_rfl) (dsame (l.filter (wEt q)) (l.filter (wEt q)) _ _ Mb hnA (hnw.mono hMb) hil hil)) (v' := .bool true) (by simp)) ?_
       iterate 2 refine dp rfl rfl ?_
       refine wAv rfl rfl rfl (wBq rfl rfl rfl rfl rfl) ?_
       refine dp rfl rfl ?_
       refine wAv rfl rfl rfl (wBq rfl rfl rfl rfl rfl) ?_
       refine dp rfl rfl ?_
       refine wGj rfl rfl rfl (wAu rfl rfl rfl rfl rfl (by kernel_rfl) (dall t _ other Mb (hTT.mono (hM6.trans (hMa.trans (hMy.trans hMb)))))) ?_; rintro _ Mc _ ⟨hMc, _, rfl, ⟨hnB, rfl⟩⟩
       refine ⟨_, _, hMc, MLe.refl _, by simp, fun _ h => h, ?_⟩
       simp only [List.nil_append]
       have hoth := hok.other other (by simp) (hRS other (by simp)) hf2
       rw [show wJc t other = wJc s other by unfold wJc; rw [hoth.1, hoth.2.1]] at hnB
       refine wGj rfl rfl rfl (wAu rfl rfl rfl rfl rfl (by kernel_rfl) (dall s _ other Mc (hST.mono (hLa.trans (hMy.trans (hMb.trans hMc)))))) ?_; rintro _ Md _ ⟨hMd, _, rfl, ⟨hnC, rfl⟩⟩
       refine ⟨_, _, hMd, MLe.refl _, by simp, fun _ h => h, ?_⟩
       simp only [List.nil_append]
       refine wAv rfl rfl rfl (qEq (wBu rfl rfl rfl rfl rfl (by kernel_rfl) (dsame (wJc s other) (wJc s other) _ _ Md (hnB.mono hMd) hnC hol hol)) (v' := .bool true) (by simp)) ?_
       iterate 2 refine dp rfl rfl ?_
       refine wAv rfl rfl rfl (wBq rfl rfl rfl rfl rfl) ?_
       iterate 2 refine dp rfl rfl ?_
       refine wGj rfl rfl rfl (wEr (cs := [_, _]) rfl rfl rfl (by rfl) (by rfl) (by rfl)) ?_; rintro _ Me _ ⟨b161, rfl, rfl, hMe, e161⟩
       refine ⟨_, _, hMe, MLe.refl _, by simp, fun _ h => h, ?_⟩
       have hrt2 : IS Me (.slice (some ⟨b161, 0, none⟩) 2 2) [at_, other] := ⟨_, 2, rfl, Nat.le_refl _, SM.of_block e161⟩
       have hLe := hMa.trans (hMy.trans (hMb.trans (hMc.trans (hMd.trans hMe))))
       refine wGj rfl rfl rfl (wAu rfl rfl rfl rfl rfl (by kernel_rfl) (denough_yes t [at_, other] _ _ Me (hTT.mono (hM6.trans hLe)) htok hrt2 (by show 2 ≤ 100000; decide) (two_all hok.chk (by rw [(hok.other other (by simp) (hRS other (by simp)) hf2).1]; exact hf2)) henp)) ?_; rintro _ Mf _ ⟨hMf, _, rfl, ⟨rfl, rfl⟩⟩
       refine ⟨_, _, hMf, MLe.refl _, by simp, fun _ h => h, ?_⟩
       simp only [List.nil_append]
       iterate 2 refine dp rfl rfl ?_
       refine wAv rfl rfl rfl (wAd rfl rfl rfl rfl rfl) ?_
       refine wAv rfl rfl rfl (wAd rfl rfl rfl rfl rfl) ?_
       refine wAv rfl rfl rfl (qLd rfl rfl rfl rfl (CJ.loc rfl)) ?_
       refine wAv rfl rfl rfl (wBt rfl rfl rfl) ?_
       refine wAv rfl rfl rfl (wAd rfl rfl rfl rfl rfl) ?_
       refine wAv rfl rfl rfl (wAd rfl rfl rfl rfl rfl) ?_
       refine wAv rfl rfl rfl (qLd rfl rfl rfl rfl (CJ.loc rfl)) ?_
       refine wAv rfl rfl rfl (wBt rfl rfl rfl) ?_
       refine da rfl rfl (by omega) ?_
       iterate 4 refine dp rfl rfl ?_
       refine wBi (jPn (jT (wAh ?_)))
       refine jr1 rfl rfl ?_
       first | rfl | exact congrArg Value.bool (decide_eq_true (by omega))
    ·iterate 2 refine jp rfl ?_
     refine wAc (jT (wAj rfl (wAb (wAa ?_))))
     iterate 2 refine jp rfl ?_
     refine wAc (jT (wAh (jTr ?_)))
     refine jr1 rfl rfl ?_
     first | rfl | exact congrArg Value.bool (decide_eq_true (by omega))
end Go.Proofs.YtckdncmjkloebaaGreat
