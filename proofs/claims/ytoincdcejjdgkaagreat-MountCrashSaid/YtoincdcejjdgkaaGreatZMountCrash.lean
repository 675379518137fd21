/- MountCrash: behind a commit, whichever writes a crash keeps, what is opened is the pool of that commit, with each volume and its items. Any pool and marks. -/
import Derived.Test.YtoincdcejjdgkaaGreatZVne
import Derived.Test.YtoincdcejjdgkaaGreatZOpenp
import Derived.Test.YtoincdcejjdgkaaGreatRows
import Derived.Lib.SmallJoins
namespace Go.Proofs.YtoincdcejjdgkaaGreat
set_option linter.unusedVariables false
set_option linter.unusedSimpArgs false
open Go.RowKit
theorem vF0 (w : Vo) : ∀ (j : Nat) v k, (voc w)[j]? = some v → ([.int .u32, .int .i64, .bool, .int .u32] : List TypeDesc)[j]? = some k → FitV v k := fun j v k h1 h2 => by
 match j, h1, h2 with
 | 0, h1, h2 => cases h1; cases h2; rfl
 | 1, h1, h2 => cases h1; cases h2; rfl
 | 2, h1, h2 => cases h1; cases h2; trivial
 | 3, h1, h2 => cases h1; cases h2; rfl
 | j + 4, h1, h2 => cases h1
theorem wJc (w : Vo) : (voc w).length = 4 := rfl
theorem cD0 {bs : List (List By)} {ws : List Wt} (h : wLs bs ws = 0) : dkOk bs ws := Classical.byContradiction fun hn => by
 unfold wLs at h; rw [if_neg hn] at h; cases h
theorem cL0 {s : Sto} {root next : Int} {dead : List Int} {vs : List Vo} {refs nodes : List Int} (h : cens s root next dead = some (vs, refs, nodes)) : vs.length ≤ 16 := by
 unfold cens at h
 split at h
 ·split at h
  ·cases h
  ·split at h
   ·cases h
   ·rename_i hv
    split at h
    ·cases h
    ·split at h
     ·cases h; exact volsL_le _ _ _ _ hv (by simp)
     ·cases h
 ·cases h
theorem iS0 (x : It) (s t : Value) (M : Mem) (h1 : BS M s x.val) (h2 : BS M t x.val) : SpecL Tryz.prog 26 #[.agg #[.int .u8 x.key.kind, .int .u32 x.key.id, .int .u32 x.key.off, .int .i64 x.ref, s], .agg #[.int .u8 x.key.kind, .int .u32 x.key.id, .int .u32 x.key.off, .int .i64 x.ref, t]] M [] fun v _ _ => v = .bool true := (itsame_spec x x s t M h1 h2).mono fun _ _ _ h => by rw [h]; simp
def kZ0 : Ky := ⟨0, 0, 0⟩
def kM0 : Ky := ⟨255, 4294967295, 4294967295⟩
theorem rL0 {s : Sto} {root : Int} (h : (wGo s root).2 = 0) : (rng s root kZ0 kM0).length ≤ 15625 := rng_len h _ _
set_option maxHeartbeats 8000000 in
theorem mW0 (p : Po) (x0 : V5) (M : Mem) (h : PT5 M x0 p) (hgen : 0 ≤ p.gen ∧ p.gen < 4294967296) (hnxt : 0 ≤ p.next ∧ p.next < 4294967296) (kp : List Bool) (ka : Option Addr) (kc : Nat) (hks : SM M ka (wJw kp)) :
  SpecL Tryz.prog 7 #[.agg (pcl x0 p.gen p.root p.next).toArray, .slice ka kp.length kc] M [] fun u M' L' => u = .bool true ∧ L' = [] := by
 refine wAf (vs := [_, _]) 274 _ Tryz.func7 rfl Tryz.ntmps7 rfl rfl ?_; intro W
 refine wAb (wAa (wAw rfl rfl (wCb (cs := [_, _, _, _, _, _, _, _]) rfl rfl rfl rfl) ?_)); rintro _ _ _ ⟨b2, rfl, rfl, rfl⟩
 refine jp rfl (wAc (jT (wAb (wAa (wAw rfl rfl (wAn rfl rfl rfl rfl rfl (by kernel_rfl) (malive_spec M)) ?_))))); rintro _ M1 _ ⟨hM1, _, rfl, ⟨rfl, rfl⟩⟩
 simp only [nA]
 refine jp rfl (wAc (jT (wAb (wAb (wAa (jp rfl (jp rfl (wAc (jT (wAj rfl (wAd (jT (wAb (wAb (wAa (sLL rfl ?_))))))))))))))))
 refine wAw rfl rfl (wAn rfl rfl rfl rfl rfl (by kernel_rfl) (fgreat_spec x0 p.gen p.root p.next p M1 (h.mono hM1))) ?_; rintro _ M2 _ ⟨hM2, _, rfl, ⟨⟨b, rfl, hgd⟩, rfl⟩⟩
 simp only [nA]
 have hwn : x0.w.n = p.st.waits.length := h.w.len
 have h2 := h.mono (hM1.trans hM2)
 refine jsb rfl (fun h27 => ?_) (fun h27 => ?_)
 ·iterate 21 refine jp rfl ?_
  refine wAc (jT (wAg rfl (wAb (wAa (jp rfl (jp rfl (wAc (jT (wAe (jTr (wAv (L' := []) (List.nil_sublist _) ?_)))))))))))
  refine jr1 rfl rfl ?_
  exact ⟨rfl, rfl⟩
 ·refine jp rfl (wAi rfl rfl (wBq rfl rfl rfl) ?_)
  refine js rfl (fun h30 => ?_) (fun h30 => ?_)
  ·iterate 18 refine jp rfl ?_
   refine wAc (jT (wAg rfl (wAb (wAa (jp rfl (jp rfl (wAc (jT (wAe (jTr (wAv (L' := []) (List.nil_sublist _) ?_)))))))))))
   refine jr1 rfl rfl ?_
   exact ⟨rfl, rfl⟩
  ·refine jp rfl (jp rfl (jp rfl (wAi rfl rfl (wBq rfl rfl rfl) ?_)))
   refine sFF rfl rfl ?_
   refine sFL rfl rfl ?_
   refine wAi rfl rfl (wBq rfl rfl rfl) ?_
   refine js rfl (fun h40 => ?_) (fun h40 => ?_)
   ·iterate 8 refine jp rfl ?_
    refine wAc (jT (wAg rfl (wAb (wAa (jp rfl (jp rfl (wAc (jT (wAe (jTr (wAv (L' := []) (List.nil_sublist _) ?_)))))))))))
    refine jr1 rfl rfl ?_
    exact ⟨rfl, rfl⟩
   ·refine jp rfl (jp rfl (sFF rfl rfl ?_))
    refine sLL rfl ?_
    refine wAi rfl rfl (wBf rfl rfl rfl rfl rfl (by kernel_rfl) (wDe p.st.blocks p.st.waits x0.b.v x0.w.v M2 h2.b h2.w)) ?_
    refine js rfl (fun h47 => ?_) (fun h47 => ?_)
    ·refine jp rfl (wAc (jT (wAg rfl (wAb (wAa (jp rfl (jp rfl (wAc (jT (wAe (jTr (wAv (L' := []) (List.nil_sublist _) ?_))))))))))))
     refine jr1 rfl rfl ?_
     exact ⟨rfl, rfl⟩
    ·refine jp rfl (wAc (jT (wAj rfl (wAd (jT (wAb (wAa (sLL rfl ?_))))))))
     have hdk : dkOk p.st.blocks p.st.waits := cD0 (Classical.not_not.1 h47)
     have hw4 : p.st.waits.length ≤ 4096 := hdk.2.1
     refine wAw rfl rfl (wAn rfl rfl rfl rfl rfl (by kernel_rfl) (bS0 p x0 M2 h2 hdk)) ?_; rintro _ M3 _ ⟨hM3, _, rfl, ⟨hbp, rfl⟩⟩
     simp only [nA]
     obtain ⟨z, zg, zr, zn, zb, rfl, hbh⟩ := hbp
     refine jp rfl (jp rfl (jsb rfl (fun h54 => ?_) (fun h54 => ?_)))
     ·refine sAl rfl fun b6 => ?_
      refine sSt rfl ?_
      refine jp rfl (wAc (jT (wAb (wAb (wAa (jp rfl (jp rfl (wAc (jT (wAj rfl (wAd (jT (wAb (wAa (sLL rfl ?_)))))))))))))))
      refine jp rfl ?_
      obtain ⟨xx, hbe, hz, rfl, rfl, rfl⟩ := hbh h54
      refine wAw rfl rfl (wAn rfl rfl rfl rfl rfl (by kernel_rfl) (mcrash_spec p x0 M3 (h2.mono hM3) hdk kp ka kc (hks.mono (hM1.trans (hM2.trans hM3))) (by omega))) ?_; rintro _ M4 _ ⟨hM4, _, rfl, ⟨hcr, rfl⟩⟩
      simp only [nA]
      unfold CrP at hcr
      rw [if_pos (by omega)] at hcr
      change OpnP (crS p kp) _ _ at hcr
      obtain ⟨y, og, orr, on, oe, rfl, hoc⟩ := hcr
      have hch := cH0 hbe hdk kp
      obtain ⟨_, _, hno⟩ | ⟨rfl, _, x1, hx1, _, hmax1, hy, rfl, rfl, rfl⟩ := hoc
      ·exact absurd hch.ok ((hno hch.dk).2 _ hch.mem)
      have hxe : x1 = xx := cO0 hbe kp hch hx1 hmax1
      subst hxe
      have hz4 := hz.mono hM4
      have hoth := cT0 hbe kp
      have hyd : y.d.n = x1.dead.length := hy.d.len
      have hzd : z.d.n = x1.dead.length := hz.d.len
      have hcl : (wEq (crS p kp) x1).st.blocks.length = 256 := hch.dk.1
      have hql : (wEq (wCg p) x1).st.blocks.length = 256 := hbe.dk.1
      have hyb : y.b.n = 256 := (hy.b.len).trans hcl
      have hzb : z.b.n = 256 := (hz.b.len).trans hql
      have htl : (wCw (wCg p) x1.gen).length = 256 := tab_len hbe.dk _
      have hzn : z.n.n = 256 := (hz.n.len).trans htl
      have hdl : x1.dead.length ≤ 1000000 := by have := (PoOk.of hch.ok.chk).len; change x1.dead.length ≤ 40 at this; omega
      obtain ⟨⟨vs, refs, nodes⟩, hcen⟩ := poChk_is.1 hch.ok.chk
      have hcen2 : cens (wEq (wCg p) x1).st x1.root x1.next x1.dead = some (vs, refs, nodes) := (cC0 hbe hch).symm.trans hcen
      have hvl16 : vs.length ≤ 16 := cL0 hcen
      refine jp rfl (jp rfl (jp rfl (sAl rfl fun b8 => ?_)))
      refine sSt rfl ?_
      refine jp rfl (wAc (jT (wAb (wAb (wAa (jp rfl (jf rfl (decide_eq_false (by omega)) ?_)))))))
      refine jp rfl (sFL rfl rfl ?_)
      refine sFL rfl rfl ?_
      refine jf rfl (decide_eq_false (by omega)) ?_
      refine jp rfl (jp rfl (sFL rfl rfl ?_))
      refine sFL rfl rfl ?_
      refine jf rfl (decide_eq_false (by omega)) ?_
      refine jp rfl (jp rfl (sFL rfl rfl ?_))
      refine sFL rfl rfl ?_
      refine jf rfl (decide_eq_false (by omega)) ?_
      refine jp rfl (jp rfl (sFL rfl rfl ?_))
      refine wAi rfl rfl (wBq rfl rfl rfl) ?_
      refine sFL rfl rfl ?_
      refine wAi rfl rfl (wBq rfl rfl rfl) ?_
      refine jf rfl (decide_eq_false (by omega)) ?_
      refine jp rfl (jp rfl (sFa rfl ?_))
      refine sFL rfl rfl ?_
      refine wAi rfl rfl (qEq (qStr (xs := (wEq (crS p kp) x1).st.now.map fun b => (b.toNat : Int)) rfl rfl rfl (by rw [List.length_map, hy.n.len]) (by simpa [wAk, List.map_map, Function.comp_def] using hy.n.sm.sj _)) (v' := .string (strB (wEq (crS p kp) x1).st.now)) (by rw [wCi])) ?_
      refine sFa rfl ?_
      refine sFL rfl rfl ?_
      refine wAi rfl rfl (qEq (qStr (xs := (wEq (wCg p) x1).st.now.map fun b => (b.toNat : Int)) rfl rfl rfl (by rw [List.length_map, hz4.n.len]) (by simpa [wAk, List.map_map, Function.comp_def] using hz4.n.sm.sj _)) (v' := .string (strB (wEq (wCg p) x1).st.now)) (by rw [wCi])) ?_
      refine wAi rfl rfl (qEq (qP rfl rfl) (v' := .bool false) (by rw [strB_eq]; simp [wEq, hch.tab])) ?_
      refine jp rfl (jp rfl (sFa rfl ?_))
      refine sFL rfl rfl ?_
      refine wAi rfl rfl (qEq (qStr (xs := (wEq (crS p kp) x1).st.last.map fun b => (b.toNat : Int)) rfl rfl rfl (by rw [List.length_map, hy.l.len]) (by simpa [wAk, List.map_map, Function.comp_def] using hy.l.sm.sj _)) (v' := .string (strB (wEq (crS p kp) x1).st.last)) (by rw [wCi])) ?_
      refine sFa rfl ?_
      refine sFL rfl rfl ?_
      refine wAi rfl rfl (qEq (qStr (xs := (wEq (wCg p) x1).st.now.map fun b => (b.toNat : Int)) rfl rfl rfl (by rw [List.length_map, hz4.n.len]) (by simpa [wAk, List.map_map, Function.comp_def] using hz4.n.sm.sj _)) (v' := .string (strB (wEq (wCg p) x1).st.now)) (by rw [wCi])) ?_
      refine wAi rfl rfl (qEq (qP rfl rfl) (v' := .bool false) (by rw [strB_eq]; simp [wEq, hch.tab])) ?_
      refine jp rfl (jp rfl (sFF rfl rfl ?_))
      refine sFL rfl rfl ?_
      refine wAi rfl rfl (wBq rfl rfl rfl) ?_
      refine jf rfl (decide_eq_false (by omega)) ?_
      refine jp rfl (wAc (jT (wAj rfl (wAd (jT (wAb (wAb (wAa (jp rfl (wAc (jT (wAh ?_))))))))))))
      refine wAr (α := Nat) (fun j => [(5, .bool true), (6, .pointer (some ⟨b6, 0, none⟩)), (8, .pointer (some ⟨b8, 0, none⟩)), (10, .int .i64 (j : Int))]) (fun _ => M4) (fun _ => [(b8, .cells (pcl y x1.gen x1.root x1.next).toArray 32 (0, 0)), (b6, .cells (pcl z x1.gen x1.root x1.next).toArray 32 (0, 0)), (b2, .cells (pcl x0 p.gen p.root p.next).toArray 32 (0, 0))]) (fun j => j ≤ x1.dead.length) (fun j => x1.dead.length - j)
       0 (.cons (t := 5) rfl (.cons (t := 6) rfl (.cons (t := 8) rfl (.cons (t := 10) rfl .nil)))) (Nat.zero_le _) (fun _ h => h) ?_
      rintro j hj
      try dsimp only at hj ⊢
      refine wAb (wAb (wAa (jp rfl (sFL rfl rfl ?_))))
      refine wAi rfl rfl (wBq rfl rfl rfl) ?_
      refine js rfl (fun h130 => ?_) (fun h130 => ?_)
      ·refine wAc (jT (wAg rfl (wAd (jT (wAb (wAh (wAb (wBn [(0, true), (1, true), (2, true), (3, true), (4, true), (5, true), (6, true), (7, true), (8, true), (9, true), (10, true)] _ (by kernel_rfl) (by kernel_rfl) (by kernel_rfl) rfl (fun _ h => h) ?_))))))))
       refine dFa rfl rfl ?_
       refine dLd rfl rfl ?_
       refine dp rfl rfl ?_
       have hj1 : j < x1.dead.length := by omega
       obtain ⟨qab, qao, e0qa, qax⟩ := (hy.d.sm).open (by intro e; have := congrArg List.length e; rw [wBm, List.length_nil] at this; change x1.dead.length = 0 at this; omega)
       refine wBi rfl rfl rfl (wBa (b := qab) (off := qao) rfl rfl (by show some (Value.slice _ _ _) = _; rw [e0qa]) rfl (by omega)) ?_
       refine wBi rfl rfl rfl (qLd (v := .int .i64 x1.dead[j]) rfl rfl rfl rfl ((qax _ _ (by rw [Nat.mul_one]; show (wBj x1.dead)[j]? = _; simp [wBj, hj1])).cj _)) ?_
       refine dFa rfl rfl ?_
       refine dLd rfl rfl ?_
       refine dp rfl rfl ?_
       obtain ⟨qbb, qbo, e0qb, qbx⟩ := (hz4.d.sm).open (by intro e; have := congrArg List.length e; rw [wBm, List.length_nil] at this; change x1.dead.length = 0 at this; omega)
       refine wBi rfl rfl rfl (wBa (b := qbb) (off := qbo) rfl rfl (by show some (Value.slice _ _ _) = _; rw [e0qb]) rfl (by omega)) ?_
       refine wBi rfl rfl rfl (qLd (v := .int .i64 x1.dead[j]) rfl rfl rfl rfl ((qbx _ _ (by rw [Nat.mul_one]; show (wBj x1.dead)[j]? = _; simp [wBj, hj1])).cj _)) ?_
       refine df rfl rfl (decide_eq_false (by omega)) ?_
       refine wBg (jPn (jT (wAj rfl (wAd (jB (jT (wAa (jp rfl (ja rfl (by omega) ?_)))))))))
       refine jp rfl (wAc ?_)
       refine wAp (j + 1) (.cons (t := 5) rfl (.cons (t := 6) rfl (.cons (t := 8) rfl (.cons (t := 10) rfl .nil)))) (by omega) (by omega) (fun _ h => h)
      ·refine wAc (jT (wAj rfl (wAs (jTx (jTx (jBx (jT (wAb (wAb (wAa (jp rfl (wAc (jT (wAh ?_))))))))))))))
       refine wAr (α := Nat) (fun i => [(5, .bool true), (6, .pointer (some ⟨b6, 0, none⟩)), (8, .pointer (some ⟨b8, 0, none⟩)), (11, .int .i64 (i : Int))]) (fun _ => M4) (fun _ => [(b8, .cells (pcl y x1.gen x1.root x1.next).toArray 32 (0, 0)), (b6, .cells (pcl z x1.gen x1.root x1.next).toArray 32 (0, 0)), (b2, .cells (pcl x0 p.gen p.root p.next).toArray 32 (0, 0))]) (fun i => i ≤ 256) (fun i => 256 - i)
        0 (.cons (t := 5) rfl (.cons (t := 6) rfl (.cons (t := 8) rfl (.cons (t := 11) rfl .nil)))) (Nat.zero_le _) (fun _ h => h) ?_
       rintro i hi
       try dsimp only at hi ⊢
       refine wAb (wAb (wAa (jp rfl (js rfl (fun h145 => ?_) (fun h145 => ?_)))))
       ·refine wAc (jT (wAg rfl (wAd (jT (wAb (wAh (wAb (wBn [(0, true), (1, true), (2, true), (3, true), (4, true), (5, true), (6, true), (7, true), (8, true), (9, true), (10, true), (11, true), (12, true), (13, true), (14, true), (15, true), (16, true), (17, true), (18, true), (19, true), (20, true), (21, true), (22, true), (23, true), (24, true), (25, true), (26, true), (27, true), (28, true), (29, true)] _ (by kernel_rfl) (by kernel_rfl) (by kernel_rfl) rfl (fun _ h => h) ?_))))))))
        refine dp rfl rfl ?_
        refine ds rfl rfl (fun h149 => ?_) (fun h149 => ?_)
        ·iterate 10 refine dp rfl rfl ?_
         refine dFa rfl rfl ?_
         refine dFa rfl rfl ?_
         refine dFa rfl rfl ?_
         refine dLd rfl rfl ?_
         refine dp rfl rfl ?_
         have hkca : i < (wEq (crS p kp) x1).st.blocks.length := by omega
         obtain ⟨cab, cao, cat, e0ca, cac, cabs⟩ := LS.at_ hy.b hkca
         have eca : (wEq (crS p kp) x1).st.blocks[i] = wCo (crS p kp) i := (wDv hkca []).symm
         rw [eca] at cabs
         refine wBi rfl rfl rfl (wBa (b := cab) (off := cao) rfl rfl (by show some (Value.slice _ _ _) = _; rw [e0ca]) rfl (by omega)) ?_
         refine wBi rfl rfl rfl (qLd (v := cat.v) rfl rfl rfl rfl (cac.cj _)) ?_
         refine wBi rfl rfl rfl (qEq (qStr (xs := (wCo (crS p kp) i).map fun b => (b.toNat : Int)) rfl rfl rfl (by rw [List.length_map, cabs.len]) (by simpa [wAk, List.map_map, Function.comp_def] using cabs.sm.sj _)) (v' := .string (strB (wCo (crS p kp) i))) (by rw [wCi])) ?_
         refine dFa rfl rfl ?_
         refine dFa rfl rfl ?_
         refine dFa rfl rfl ?_
         refine dLd rfl rfl ?_
         refine dp rfl rfl ?_
         have hkcb : i < (wEq (wCg p) x1).st.blocks.length := by omega
         obtain ⟨cbb, cbo, cbt, e0cb, cbc, cbbs⟩ := LS.at_ hz4.b hkcb
         have ecb : (wEq (wCg p) x1).st.blocks[i] = wCo (wCg p) i := (wDv hkcb []).symm
         rw [ecb] at cbbs
         refine wBi rfl rfl rfl (wBa (b := cbb) (off := cbo) rfl rfl (by show some (Value.slice _ _ _) = _; rw [e0cb]) rfl (by omega)) ?_
         refine wBi rfl rfl rfl (qLd (v := cbt.v) rfl rfl rfl rfl (cbc.cj _)) ?_
         refine wBi rfl rfl rfl (qEq (qStr (xs := (wCo (wCg p) i).map fun b => (b.toNat : Int)) rfl rfl rfl (by rw [List.length_map, cbbs.len]) (by simpa [wAk, List.map_map, Function.comp_def] using cbbs.sm.sj _)) (v' := .string (strB (wCo (wCg p) i))) (by rw [wCi])) ?_
         have hse : wCo (wCg p) i = wCo (crS p kp) i := by first | exact hoth.low i (by omega) | exact hoth.up i (by omega) (fun e => by rw [e] at h157; simp at h157)
         refine wBi rfl rfl rfl (qEq (qP rfl rfl) (v' := .bool false) (by rw [strB_eq]; simp [hse])) ?_
         refine dp rfl rfl ?_
         refine wBg (jPn (jT (wAj rfl (wAd (jB (jT (wAa (jp rfl (ja rfl (by omega) ?_)))))))))
         refine jp rfl (wAc ?_)
         refine wAp (i + 1) (.cons (t := 5) rfl (.cons (t := 6) rfl (.cons (t := 8) rfl (.cons (t := 11) rfl .nil)))) (by omega) (by omega) (fun _ h => h)
        ·refine dp rfl rfl ?_
         refine dFa rfl rfl ?_
         refine dFa rfl rfl ?_
         refine dLd rfl rfl ?_
         refine dp rfl rfl ?_
         have hi1 : i < (wCw (wCg p) x1.gen).length := by omega
         obtain ⟨nb, no, e0n, nx⟩ := hz4.n.sm.open (by intro e; have := congrArg List.length e; rw [wAu, List.length_nil] at this; change (wCw (wCg p) x1.gen).length = 0 at this; omega)
         refine wBi rfl rfl rfl (wBa (b := nb) (off := no) rfl rfl (by show some (Value.slice _ _ _) = _; rw [e0n]) rfl (by omega)) ?_
         refine wBi rfl rfl rfl (qLd (v := .int .u8 (((wCw (wCg p) x1.gen).getD i 0).toNat : Int)) rfl rfl rfl rfl ((nx _ _ (by rw [Nat.mul_one]; exact wHu (xs := wCw (wCg p) x1.gen) (j := i) (by omega))).cj _)) ?_
         refine ds rfl rfl (fun h157 => ?_) (fun h157 => ?_)
         ·iterate 2 refine dp rfl rfl ?_
          refine dFa rfl rfl ?_
          refine dFa rfl rfl ?_
          refine dFa rfl rfl ?_
          refine dLd rfl rfl ?_
          refine dp rfl rfl ?_
          have hkca : i < (wEq (crS p kp) x1).st.blocks.length := by omega
          obtain ⟨cab, cao, cat, e0ca, cac, cabs⟩ := LS.at_ hy.b hkca
          have eca : (wEq (crS p kp) x1).st.blocks[i] = wCo (crS p kp) i := (wDv hkca []).symm
          rw [eca] at cabs
          refine wBi rfl rfl rfl (wBa (b := cab) (off := cao) rfl rfl (by show some (Value.slice _ _ _) = _; rw [e0ca]) rfl (by omega)) ?_
          refine wBi rfl rfl rfl (qLd (v := cat.v) rfl rfl rfl rfl (cac.cj _)) ?_
          refine wBi rfl rfl rfl (qEq (qStr (xs := (wCo (crS p kp) i).map fun b => (b.toNat : Int)) rfl rfl rfl (by rw [List.length_map, cabs.len]) (by simpa [wAk, List.map_map, Function.comp_def] using cabs.sm.sj _)) (v' := .string (strB (wCo (crS p kp) i))) (by rw [wCi])) ?_
          refine dFa rfl rfl ?_
          refine dFa rfl rfl ?_
          refine dFa rfl rfl ?_
          refine dLd rfl rfl ?_
          refine dp rfl rfl ?_
          have hkcb : i < (wEq (wCg p) x1).st.blocks.length := by omega
          obtain ⟨cbb, cbo, cbt, e0cb, cbc, cbbs⟩ := LS.at_ hz4.b hkcb
          have ecb : (wEq (wCg p) x1).st.blocks[i] = wCo (wCg p) i := (wDv hkcb []).symm
          rw [ecb] at cbbs
          refine wBi rfl rfl rfl (wBa (b := cbb) (off := cbo) rfl rfl (by show some (Value.slice _ _ _) = _; rw [e0cb]) rfl (by omega)) ?_
          refine wBi rfl rfl rfl (qLd (v := cbt.v) rfl rfl rfl rfl (cbc.cj _)) ?_
          refine wBi rfl rfl rfl (qEq (qStr (xs := (wCo (wCg p) i).map fun b => (b.toNat : Int)) rfl rfl rfl (by rw [List.length_map, cbbs.len]) (by simpa [wAk, List.map_map, Function.comp_def] using cbbs.sm.sj _)) (v' := .string (strB (wCo (wCg p) i))) (by rw [wCi])) ?_
          have hse : wCo (wCg p) i = wCo (crS p kp) i := by first | exact hoth.low i (by omega) | exact hoth.up i (by omega) (fun e => by rw [e] at h157; simp at h157)
          refine wBi rfl rfl rfl (qEq (qP rfl rfl) (v' := .bool false) (by rw [strB_eq]; simp [hse])) ?_
          refine dp rfl rfl ?_
          refine wBg (jPn (jT (wAj rfl (wAd (jB (jT (wAa (jp rfl (ja rfl (by omega) ?_)))))))))
          refine jp rfl (wAc ?_)
          refine wAp (i + 1) (.cons (t := 5) rfl (.cons (t := 6) rfl (.cons (t := 8) rfl (.cons (t := 11) rfl .nil)))) (by omega) (by omega) (fun _ h => h)
         ·iterate 20 refine dp rfl rfl ?_
          refine wBg (jPn (jT (wAj rfl (wAd (jB (jT (wAa (jp rfl (ja rfl (by omega) ?_)))))))))
          refine jp rfl (wAc ?_)
          refine wAp (i + 1) (.cons (t := 5) rfl (.cons (t := 6) rfl (.cons (t := 8) rfl (.cons (t := 11) rfl .nil)))) (by omega) (by omega) (fun _ h => h)
       ·refine wAc (jT (wAj rfl (wAs (jTx (jTx (jBx (jT (wAb (wAa (sLL rfl ?_))))))))))
        refine wAw rfl rfl (wAn rfl rfl rfl rfl rfl (by kernel_rfl) (fvols_spec (wEq (crS p kp) x1) y M4 hy hdl)) ?_; rintro _ M5 _ ⟨hM5, _, rfl, ⟨⟨vl, rfl, hvl⟩, rfl⟩⟩
        simp only [nA]
        have hva := hvl _ _ _ hcen
        rw [hch.ok.chk]
        refine jp rfl (jp rfl (jp rfl (jp rfl (jp rfl (wAc (jT (wAb (wAa (sLL rfl ?_)))))))))
        refine wAw rfl rfl (wAn rfl rfl rfl rfl rfl (by kernel_rfl) (fvols_spec (wEq (wCg p) x1) z M5 (hz4.mono hM5) hdl)) ?_; rintro _ M6 _ ⟨hM6, _, rfl, ⟨⟨vl2, rfl, hvl2⟩, rfl⟩⟩
        simp only [nA]
        have hvb := hvl2 _ _ _ hcen2
        rw [hbe.ok.chk]
        have hv1 := hva.1
        have hv2 := hvb.1
        have hy6 := hy.mono (hM5.trans hM6)
        have hz6 := hz4.mono (hM5.trans hM6)
        refine jp rfl (jp rfl (jp rfl (jp rfl (jp rfl (wAc (jT (wAb (wAb (wAa (jp rfl (jf rfl (decide_eq_false (by omega)) ?_)))))))))))
        refine jp rfl (jp rfl (jf rfl (decide_eq_false (by omega)) ?_))
        refine jp rfl (jp rfl (jp rfl (wAi rfl rfl (wBq rfl rfl rfl) ?_)))
        refine jp rfl (wAi rfl rfl (wBq rfl rfl rfl) ?_)
        refine jf rfl (decide_eq_false (by omega)) ?_
        refine jp rfl (wAc (jT (wAj rfl (wAd (jT (wAb (wAb (wAa (jp rfl (wAc (jT (wAh ?_))))))))))))
        refine wAr (α := Nat × Mem) (fun q => [(5, .bool true), (6, .pointer (some ⟨b6, 0, none⟩)), (8, .pointer (some ⟨b8, 0, none⟩)), (12, vl.v), (14, vl2.v), (16, .int .i64 (q.1 : Int))]) (fun q => q.2) (fun _ => [(b8, .cells (pcl y x1.gen x1.root x1.next).toArray 32 (0, 0)), (b6, .cells (pcl z x1.gen x1.root x1.next).toArray 32 (0, 0)), (b2, .cells (pcl x0 p.gen p.root p.next).toArray 32 (0, 0))]) (fun q => q.1 ≤ vs.length ∧ MLe M6 q.2) (fun q => vs.length - q.1)
         (0, M6) (.cons (t := 5) rfl (.cons (t := 6) rfl (.cons (t := 8) rfl (.cons (t := 12) rfl (.cons (t := 14) rfl (.cons (t := 16) rfl .nil)))))) ⟨Nat.zero_le _, MLe.refl _⟩ (fun _ h => h) ?_
        rintro ⟨k, Mk⟩ ⟨hk, hMk⟩
        try dsimp only at hk hMk ⊢
        refine wAb (wAb (wAa (jp rfl (jp rfl (wAi rfl rfl (wBq rfl rfl rfl) ?_)))))
        refine js rfl (fun h204 => ?_) (fun h204 => ?_)
        ·refine wAc (jT (wAg rfl (wAd (jT (wAb (wAh (wAb (wBn [(0, true), (1, true), (2, true), (3, true), (4, true), (5, true), (6, true), (7, true), (8, true), (9, false), (10, true), (11, true), (12, true), (13, true), (14, true)] _ (by kernel_rfl) (by kernel_rfl) (by kernel_rfl) rfl (fun _ h => h) ?_))))))))
         refine dFa rfl rfl ?_
         refine dLL rfl rfl ?_
         iterate 2 refine dp rfl rfl ?_
         have hk1 : k < vs.length := by omega
         obtain ⟨vab, vao, e0va, vax⟩ := (hva.2.2).open (by intro e; have := congrArg List.length e; rw [wAy voc 4 wJc, List.length_nil] at this; omega)
         refine wBi rfl rfl rfl (wBa (b := vab) (off := vao) rfl rfl (by show some (Value.slice _ _ _) = _; rw [e0va]) rfl (by omega)) ?_
         refine dFa rfl rfl ?_
         refine wBi rfl rfl rfl (qLd (v := .int .i64 vs[k].root) rfl rfl rfl rfl (((wFf voc 4 wJc vax (List.getElem?_eq_getElem hk1) 1 _ rfl).mono (hM6.trans hMk)).cj _)) ?_
         refine wBi rfl rfl rfl (qEq (wAq (cs := [_, _, _]) rfl rfl rfl (by rfl)) (v' := .agg (wBu kZ0).toArray) rfl) ?_
         refine wBi rfl rfl rfl (qEq (wAq (cs := [_, _, _]) rfl rfl rfl (by rfl)) (v' := .agg (wBu kM0).toArray) rfl) ?_
         refine wHh rfl rfl rfl (wAn rfl rfl rfl rfl rfl (by kernel_rfl) (range_spec (wEq (crS p kp) x1).st _ vs[k].root kZ0 kM0 Mk ((hy6.mono hMk).st))) ?_; rintro _ Mr _ ⟨hMr, _, rfl, ⟨⟨rv, rfl, hrn⟩, rfl⟩⟩
         refine ⟨_, _, MLe.refl _, hMr, fun _ h => h, by simp, ?_⟩
         simp only [nA]
         have hrf := vC0 hcen vs[k] (List.getElem_mem hk1)
         rw [hrf] at hrn ⊢
         rw [if_pos rfl, hch.eqv.rng] at hrn
         obtain ⟨ra, rc2, rps, rfl, _, rs, rp, rbb⟩ := hrn
         iterate 5 refine dp rfl rfl ?_
         refine wBg (jPn (jT (wAb (wBn [(0, true), (1, true), (2, true), (3, true), (4, true), (5, true), (6, true), (7, true), (8, true), (9, false), (10, true), (11, true), (12, true), (13, true), (14, true)] _ (by kernel_rfl) (by kernel_rfl) (by kernel_rfl) rfl (fun _ h => h) ?_))))
         refine dFa rfl rfl ?_
         refine dLL rfl rfl ?_
         iterate 2 refine dp rfl rfl ?_
         obtain ⟨vbb, vbo, e0vb, vbx⟩ := (hvb.2.2).open (by intro e; have := congrArg List.length e; rw [wAy voc 4 wJc, List.length_nil] at this; omega)
         refine wBi rfl rfl rfl (wBa (b := vbb) (off := vbo) rfl rfl (by show some (Value.slice _ _ _) = _; rw [e0vb]) rfl (by omega)) ?_
         refine dFa rfl rfl ?_
         refine wBi rfl rfl rfl (qLd (v := .int .i64 vs[k].root) rfl rfl rfl rfl (((wFf voc 4 wJc vbx (List.getElem?_eq_getElem hk1) 1 _ rfl).mono (hMk.trans hMr)).cj _)) ?_
         refine wBi rfl rfl rfl (qEq (wAq (cs := [_, _, _]) rfl rfl rfl (by rfl)) (v' := .agg (wBu kZ0).toArray) rfl) ?_
         refine wBi rfl rfl rfl (qEq (wAq (cs := [_, _, _]) rfl rfl rfl (by rfl)) (v' := .agg (wBu kM0).toArray) rfl) ?_
         refine wHh rfl rfl rfl (wAn rfl rfl rfl rfl rfl (by kernel_rfl) (range_spec (wEq (wCg p) x1).st _ vs[k].root kZ0 kM0 Mr ((hz6.mono (hMk.trans hMr)).st))) ?_; rintro _ Ms _ ⟨hMs, _, rfl, ⟨⟨sv, rfl, hsn⟩, rfl⟩⟩
         refine ⟨_, _, MLe.refl _, hMs, fun _ h => h, by simp, ?_⟩
         simp only [nA]
         have hsf := vC0 hcen2 vs[k] (List.getElem_mem hk1)
         rw [hsf] at hsn ⊢
         rw [if_pos rfl] at hsn
         obtain ⟨sa, sc2, sps, rfl, _, ss, sp, sbb⟩ := hsn
         iterate 5 refine dp rfl rfl ?_
         refine wBg (jPn (jT (wAb (wAb (wBn [(0, true), (1, true), (2, true), (3, true), (4, true), (5, true), (6, true), (7, true), (8, true), (9, true), (10, true), (11, true), (12, true), (13, true), (14, true), (15, true), (16, true), (17, true), (18, true), (19, true), (20, true), (21, true), (22, true), (23, true)] _ (by kernel_rfl) (by kernel_rfl) (by kernel_rfl) rfl (fun _ h => h) ?_)))))
         iterate 2 refine dp rfl rfl ?_
         obtain ⟨vcb, vco, e0vc, vcx⟩ := (hva.2.2).open (by intro e; have := congrArg List.length e; rw [wAy voc 4 wJc, List.length_nil] at this; omega)
         refine wBi rfl rfl rfl (wBa (b := vcb) (off := vco) rfl rfl (by show some (Value.slice _ _ _) = _; rw [e0vc]) rfl (by omega)) ?_
         refine wBi rfl rfl rfl (wEy (cs := voc vs[k]) rfl rfl rfl rfl rfl (fun i v hv => ((wFf voc 4 wJc vcx (List.getElem?_eq_getElem hk1) i v hv).mono (hM6.trans (hMk.trans (hMr.trans hMs)))).cj _)) ?_
         iterate 2 refine dp rfl rfl ?_
         obtain ⟨vdb, vdo, e0vd, vdx⟩ := (hvb.2.2).open (by intro e; have := congrArg List.length e; rw [wAy voc 4 wJc, List.length_nil] at this; omega)
         refine wBi rfl rfl rfl (wBa (b := vdb) (off := vdo) rfl rfl (by show some (Value.slice _ _ _) = _; rw [e0vd]) rfl (by omega)) ?_
         refine wBi rfl rfl rfl (wEy (cs := voc vs[k]) rfl rfl rfl rfl rfl (fun i v hv => ((wFf voc 4 wJc vdx (List.getElem?_eq_getElem hk1) i v hv).mono (hMk.trans (hMr.trans hMs))).cj _)) ?_
         refine wBi rfl rfl rfl (qEq (qN0 (ds := [.int .u32, .int .i64, .bool, .int .u32]) (vs := voc vs[k]) rfl rfl rfl rfl (by kernel_rfl) (by kernel_rfl) (by kernel_rfl) (by kernel_rfl) rfl (vF0 _)) (v' := .bool false) (by rfl)) ?_
         iterate 2 refine dp rfl rfl ?_
         refine df rfl rfl (decide_eq_false (by omega)) ?_
         iterate 3 refine dp rfl rfl ?_
         refine df rfl rfl (decide_eq_false (by omega)) ?_
         iterate 3 refine dp rfl rfl ?_
         refine wBi rfl rfl rfl (wBq rfl rfl rfl) ?_
         refine dp rfl rfl ?_
         refine wBi rfl rfl rfl (wBq rfl rfl rfl) ?_
         refine df rfl rfl (decide_eq_false (by omega)) ?_
         refine dp rfl rfl ?_
         refine wBg (jPn (jT (wAj rfl (wAd (jT (wAb (wAa (jp rfl (wAc (jT (wAh ?_)))))))))))
         have hrl := rL0 hsf
         refine wAr (α := Nat) (fun n => [(5, .bool true), (6, .pointer (some ⟨b6, 0, none⟩)), (8, .pointer (some ⟨b8, 0, none⟩)), (12, vl.v), (14, vl2.v), (16, .int .i64 (k : Int)), (17, .slice ra (rng (wEq (wCg p) x1).st vs[k].root kZ0 kM0).length rc2), (19, .slice sa (rng (wEq (wCg p) x1).st vs[k].root kZ0 kM0).length sc2), (21, .int .i64 (n : Int))]) (fun _ => Ms) (fun _ => [(b8, .cells (pcl y x1.gen x1.root x1.next).toArray 32 (0, 0)), (b6, .cells (pcl z x1.gen x1.root x1.next).toArray 32 (0, 0)), (b2, .cells (pcl x0 p.gen p.root p.next).toArray 32 (0, 0))]) (fun n => n ≤ (rng (wEq (wCg p) x1).st vs[k].root kZ0 kM0).length) (fun n => (rng (wEq (wCg p) x1).st vs[k].root kZ0 kM0).length - n)
          0 (.cons (t := 5) rfl (.cons (t := 6) rfl (.cons (t := 8) rfl (.cons (t := 12) rfl (.cons (t := 14) rfl (.cons (t := 16) rfl (.cons (t := 17) rfl (.cons (t := 19) rfl (.cons (t := 21) rfl .nil))))))))) (Nat.zero_le _) (fun _ h => h) ?_
         rintro n hn
         try dsimp only at hn ⊢
         refine wAb (wAb (wAa (jp rfl (jp rfl (wAi rfl rfl (wBq rfl rfl rfl) ?_)))))
         refine js rfl (fun h260 => ?_) (fun h260 => ?_)
         ·refine wAc (jT (wAg rfl (wAd (jT (wAb (wAh (wAb (wBn [(0, true), (1, true), (2, true), (3, true), (4, true), (5, true), (6, true), (7, true), (8, true), (9, true)] _ (by kernel_rfl) (by kernel_rfl) (by kernel_rfl) rfl (fun _ h => h) ?_))))))))
          iterate 2 refine dp rfl rfl ?_
          have hn1 : n < (rng (wEq (wCg p) x1).st vs[k].root kZ0 kM0).length := by omega
          obtain ⟨rib, rio, e1r, rix⟩ := rs.open (by intro e; have := congrArg List.length e; rw [wAy wBc 5 wBe, List.length_nil] at this; have h2 := congrArg List.length rp; rw [List.length_map] at h2; omega)
          subst e1r
          obtain ⟨rva, rvc, rcl, rvl, rvs⟩ := wBr rix rp rbb hn1
          refine wBi rfl rfl rfl (wBa rfl rfl rfl rfl (by omega)) ?_
          refine wBi rfl rfl rfl (wEy (cs := itc (rng (wEq (wCg p) x1).st vs[k].root kZ0 kM0)[n] rva rvc) rfl rfl rfl rfl rfl (fun i v hv => ((rcl i v hv).mono hMs).cj _)) ?_
          iterate 2 refine dp rfl rfl ?_
          obtain ⟨sib, sio, e1s, six⟩ := ss.open (by intro e; have := congrArg List.length e; rw [wAy wBc 5 wBe, List.length_nil] at this; have h2 := congrArg List.length sp; rw [List.length_map] at h2; omega)
          subst e1s
          obtain ⟨sva, svc, scl, svl, svs⟩ := wBr six sp sbb hn1
          refine wBi rfl rfl rfl (wBa rfl rfl rfl rfl (by omega)) ?_
          refine wBi rfl rfl rfl (wEy (cs := itc (rng (wEq (wCg p) x1).st vs[k].root kZ0 kM0)[n] sva svc) rfl rfl rfl rfl rfl (fun i v hv => ((scl i v hv)).cj _)) ?_
          refine wBi rfl rfl rfl (wBf rfl rfl rfl rfl rfl (by kernel_rfl) (iS0 (rng (wEq (wCg p) x1).st vs[k].root kZ0 kM0)[n] _ _ Ms ⟨_, _, rfl, rvl, rvs.mono hMs⟩ ⟨_, _, rfl, svl, svs⟩)) ?_
          refine dp rfl rfl ?_
          refine wBg (jPn (jT (wAj rfl (wAd (jB (jT (wAa (jp rfl (ja rfl (by omega) ?_)))))))))
          refine jp rfl (wAc ?_)
          refine wAp (n + 1) (.cons (t := 5) rfl (.cons (t := 6) rfl (.cons (t := 8) rfl (.cons (t := 12) rfl (.cons (t := 14) rfl (.cons (t := 16) rfl (.cons (t := 17) rfl (.cons (t := 19) rfl (.cons (t := 21) rfl .nil))))))))) (by omega) (by omega) (fun _ h => h)
         ·refine wAc (jT (wAj rfl (wAs (jTx (jTx (jBx (jB (jT (wAa (jp rfl (ja rfl (by omega) ?_)))))))))))
          refine jp rfl (wAc ?_)
          refine wAp (k + 1, Ms) (.cons (t := 5) rfl (.cons (t := 6) rfl (.cons (t := 8) rfl (.cons (t := 12) rfl (.cons (t := 14) rfl (.cons (t := 16) rfl .nil)))))) ⟨by show k + 1 ≤ _; omega, hMk.trans (hMr.trans hMs)⟩ (by show vs.length - (k + 1) < vs.length - k; omega) (fun _ h => h)
        ·refine wAc (jT (wAj rfl (wAs (jTx (jTx (jBx (jT (wAb (wAa (jp rfl (jp rfl (wAc (jT (wAe (wAv (L' := []) (List.nil_sublist _) ?_)))))))))))))))
         refine jr1 rfl rfl ?_
         exact ⟨rfl, rfl⟩
     ·refine sAl rfl fun b6 => ?_
      refine sSt rfl ?_
      refine jp rfl (wAc (jT (wAb (wAb (wAa (jp rfl (jp rfl (wAc (jT (wAg rfl (wAb (wAa (jp rfl (jp rfl (wAc (jT (wAe (jTr (wAv (L' := []) (List.nil_sublist _) ?_)))))))))))))))))))
      refine jr1 rfl rfl ?_
      exact ⟨rfl, rfl⟩
end Go.Proofs.YtoincdcejjdgkaaGreat
namespace Go.Proofs.YtoincdcejjdgkaaGreat
set_option linter.unusedVariables false
set_option linter.unusedSimpArgs false
open Go.ChangeShapes Go.WideShapes Go.ChangeAt Go.RowKit Go.Joins
set_option maxRecDepth 100000 in
theorem mountCrash_lifted (os : Os) (started : os.Started) (H : Type) (enc : TypeId × Value → H) :
  ReturnsInHanded {} Tryz.checked os 7 .any (Rows.mountCrashSpec.pre6 enc Tryz.prog Tryz.f7 Rows.mountCrashRow.domain false) (Rows.mountCrashSpec.post enc Tryz.prog Tryz.f7 false true false false) := by
 refine returnsInHanded_of_change (C := Tryz.checked) A.own started (by kernel_rfl) Tryz.func7
  (ChangeSpec.witness6 (enc := enc) (C := Tryz.checked) false ⟨#[], #[.agg #[.slice none 0 0, .slice none 0 0, .slice none 0 0, .slice none 0 0, .int .u32 0, .int .i64 0, .int .u32 0, .slice none 0 0], .slice none 0 0], []⟩ 8 (by kernel_rfl) (by kernel_rfl) (by kernel_rfl) (by kernel_rfl)) ?_
 intro W base args ds gs before hval0 hW hcnd _
 have hval : ∀ (j : Nat) t v, Tryz.f7.params[j]? = some t → args[j]? = some v → Value.okWide Tryz.prog W .any base t v := hval0
 have hW' := hW
 obtain ⟨p, q, hA0, hV, rfl, hfz, hnd⟩ := hW
 have hA : DataW.TrodAll enc Tryz.prog W 0 (fun _ => true) true Tryz.f7.params.toList args.toList ds p := hA0
 rw [Tryz.params7] at hA hval
 obtain ⟨v0, v1, d0, d1, p0, p1, rfl, rfl, rfl, h0, h1⟩ := trodAll_two hA
 obtain ⟨rfl, rfl⟩ := trodVars_none hV
 obtain ⟨q, hPT, hgen, hnxt⟩ := open_pool (hval 0 32 v0 rfl rfl) h0
 obtain ⟨x, e0, h5⟩ := hPT.five
 subst e0
 obtain ⟨kp, ka, kc, e1, hks⟩ := open_bools (hval 1 54 v1 rfl rfl) h1
 subst e1
 refine (mW0 q x (wJk W) h5 hgen hnxt kp ka kc hks |>.mono fun _ _ _ h => h.1).run.mono fun e W' ⟨he, hb⟩ => ?_
 subst he
 exact ⟨_, rfl, law_post hW' (by kernel_rfl) rfl rfl rfl hb⟩
theorem mountCrash_holds : Rows.MountCrashSaid :=
 OpenClaim.holds_of_wide 7 Tryz.f7 rfl rfl rfl rfl rfl rfl rfl ⟨rfl, rfl, rfl, rfl, rfl⟩ rfl rfl rfl rfl rfl (by kernel_rfl) Tryz.func7 (by kernel_rfl)
  (of_decide_eq_true (by kernel_rfl)) (by unfold Func.isWrapper; first | (rw [if_pos (by decide +kernel)]; kernel_rfl) | (rw [if_neg (by decide +kernel)]; exact ⟨rfl, rfl⟩))
  (fun os started H enc _ => mountCrash_lifted os started H enc)
end Go.Proofs.YtoincdcejjdgkaaGreat
