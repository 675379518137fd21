/- DelUndoes' and DelOrder's functions are walked. -/
import Derived.Test.YtckdncmjkloebaaGreatZDelq
namespace Go.Proofs.YtckdncmjkloebaaGreat
set_option linter.unusedVariables false
set_option linter.unusedSimpArgs false
set_option linter.unusedVariables false
open Go.RowKit
theorem dgot {r : Except Int (Sto × Int)} {M' : Mem} {v : Value} {at_ e : Int} {nn wn : Nat} (hq : (e ≠ 0 ∧ r = .error e ∧ at_ = 0 ∧ nn = 0) ∨ (e = 0 ∧ ∃ t, r = .ok (t, at_) ∧ nn = t.now.length ∧ wn = t.waits.length ∧ ST M' v t ∧ wCx t)) (h : e = 0) : ∃ t, r = .ok (t, at_) ∧ ST M' v t := by
 rcases hq with ⟨h0, _⟩ | ⟨_, t, h2, _, _, h5, _⟩
 ·exact absurd h h0
 ·exact ⟨t, h2, h5⟩
theorem dfail {r : Except Int (Sto × Int)} {M' : Mem} {v : Value} {at_ e : Int} {nn wn : Nat} (hq : (e ≠ 0 ∧ r = .error e ∧ at_ = 0 ∧ nn = 0) ∨ (e = 0 ∧ ∃ t, r = .ok (t, at_) ∧ nn = t.now.length ∧ wn = t.waits.length ∧ ST M' v t ∧ wCx t)) (h : ¬ e = 0) : r = .error e := by
 rcases hq with ⟨_, h2, _⟩ | ⟨h0, _⟩
 ·exact h2
 ·exact absurd h0 h
theorem fdForm2 {s : Sto} {root : Int} {q : Ky} {u : Value} {M' : Mem} (h : FdPost s root q u M') : ∃ (y : It) (ya : Option Addr) (yc : Nat) (code : Int), u = .tuple #[.agg #[.int .u8 y.key.kind, .int .u32 y.key.id, .int .u32 y.key.off, .int .i64 y.ref, .slice ya y.val.length yc], .int .i64 code] ∧ BS M' (.slice ya y.val.length yc) y.val ∧
  ((code = 0 ∧ (wCj s root).2 = 0 ∧ fnd s root q = some y) ∨ code ≠ 0) := by
 by_cases h0 : (wCj s root).2 = 0
 ·obtain ⟨y, yv, code, h1, h2, h3⟩ := fdForm h
  obtain ⟨ya, yc, rfl, _⟩ := id h2
  refine ⟨y, ya, yc, code, h1, h2, ?_⟩
  rcases h3 h0 with ⟨k1, k2⟩ | ⟨_, k2, _⟩
  ·exact .inl ⟨k2, h0, k1⟩
  ·exact .inr (by rw [k2]; decide)
 ·unfold FdPost at h
  rw [if_neg h0] at h
  exact ⟨zeroI, none, 0, _, h, BS.nil, .inr h0⟩
set_option maxHeartbeats 8000000 in
theorem dundoes_walk (s : Sto) (root : Int) (q : Ky) (val : List By) (vv bv wv nv lw : Value) (M : Mem) (hST : ST M (.agg #[bv, wv, nv, lw]) s) (hv : BS M vv val) (hkq : wDk q) :
  SpecL Tryz.prog 10 #[.agg #[bv, wv, nv, lw], .int .i64 root, .agg (wBr q).toArray, vv] M [] fun u _ _ => u = .bool true := by
 obtain ⟨va, vc, rfl, hvc, hvs⟩ := id hv
 refine wAi (vs := [_, _, _, _]) 107 _ Tryz.func10 rfl Tryz.ntmps10 rfl rfl ?_; intro W
 refine wAb (wAa ?_)
 refine wAr rfl rfl (wDt (cs := [_, _, _, _]) rfl rfl rfl rfl) ?_; rintro _ _ _ ⟨b4, rfl, rfl, rfl⟩
 refine wAr rfl rfl (wDt (cs := [.int .u8 q.kind, .int .u32 q.id, .int .u32 q.off]) rfl rfl rfl rfl) ?_; rintro _ _ _ ⟨b6, rfl, rfl, rfl⟩
 refine jp rfl ?_
 refine wAc (jT (wAb (wAa ?_)))
 refine wAr rfl rfl (wAu rfl rfl rfl rfl rfl (by kernel_rfl) (dalive M)) ?_; rintro _ M1 _ ⟨hM1, _, rfl, ⟨rfl, rfl⟩⟩
 simp only [List.nil_append]
 refine jp rfl ?_
 refine wAc (jT (wAb (wAb (wAa ?_))))
 iterate 2 refine jp rfl ?_
 refine wAc (jT (wAm rfl (wAf (jT (wAb (wAa ?_))))))
 refine wAe rfl rfl (wBq rfl rfl rfl rfl rfl) ?_
 refine jp rfl ?_
 refine wAe rfl rfl (wBu rfl rfl rfl rfl rfl (by kernel_rfl) (wDx s _ root M1 (hST.mono hM1))) ?_
 iterate 5 refine jp rfl ?_
 refine wAc (jT (wAb (wAb (wAa ?_))))
 refine wAe rfl rfl (wBq rfl rfl rfl rfl rfl) ?_
 refine wAr rfl rfl (wAu rfl rfl rfl rfl rfl (by kernel_rfl) (wKh s _ M1 (hST.mono hM1))) ?_; rintro _ M2 _ ⟨hM2, _, rfl, ⟨⟨bg, rfl⟩, rfl⟩⟩
 simp only [List.nil_append]
 have hL2 := hM1.trans hM2
 refine jsb rfl (fun h31 => ?_) (fun h31 => ?_)
 ·iterate 15 refine jp rfl ?_
  refine wAc (jT (wAj rfl (wAb (wAa ?_))))
  iterate 2 refine jp rfl ?_
  refine wAc (jT (wAh (jTr ?_)))
  refine jr1 rfl rfl ?_
  first | rfl | exact congrArg Value.bool (decide_eq_true (by omega))
 ·refine jp rfl ?_
  refine wAe rfl rfl (wBt rfl rfl rfl) ?_
  refine js rfl (fun h34 => ?_) (fun h34 => ?_)
  ·iterate 12 refine jp rfl ?_
   refine wAc (jT (wAj rfl (wAb (wAa ?_))))
   iterate 2 refine jp rfl ?_
   refine wAc (jT (wAh (jTr ?_)))
   refine jr1 rfl rfl ?_
   first | rfl | exact congrArg Value.bool (decide_eq_true (by omega))
  ·iterate 3 refine jp rfl ?_
   refine js rfl (fun h38 => ?_) (fun h38 => ?_)
   ·iterate 8 refine jp rfl ?_
    refine wAc (jT (wAj rfl (wAb (wAa ?_))))
    iterate 2 refine jp rfl ?_
    refine wAc (jT (wAh (jTr ?_)))
    refine jr1 rfl rfl ?_
    first | rfl | exact congrArg Value.bool (decide_eq_true (by omega))
   ·iterate 2 refine jp rfl ?_
    refine wAe rfl rfl (wBq rfl rfl rfl rfl rfl) ?_
    refine jp rfl ?_
    refine wAr rfl rfl (wEr (cs := [_]) rfl rfl rfl (by rfl) (by rfl) (by rfl)) ?_; rintro _ M3 _ ⟨b43, rfl, rfl, hM3, e43⟩
    have hrt43 : IS M3 (.slice (some ⟨b43, 0, none⟩) 1 1) [root] := ⟨_, 1, rfl, Nat.le_refl _, SM.of_block e43⟩
    have hf1 : (wCj s root).2 = 0 := Classical.not_not.1 h38
    have hst := (wCb hf1).1
    refine wAr rfl rfl (wAu rfl rfl rfl rfl rfl (by kernel_rfl) (wGn s [root] _ _ M3 (hST.mono (hL2.trans hM3)) hst hrt43 (by show 1 ≤ 100000; decide) (fun r hr => by rw [List.mem_singleton.1 hr]; exact hf1))) ?_; rintro _ M4 _ ⟨hM4, R', rfl, hy⟩
    obtain ⟨rfl, hy⟩ := hy
    simp only [List.nil_append]
    have hL4 := hL2.trans (hM3.trans hM4)
    rcases hy with ⟨rfl, hy⟩ | ⟨rfl, hy⟩
    ·iterate 2 refine jp rfl ?_
     refine wAc (jT (wAm rfl (wAf (jT (wAb (wAa ?_))))))
     refine wAe rfl rfl (wBq rfl rfl rfl rfl rfl) ?_
     refine jp rfl ?_
     refine wAe rfl rfl (wBq rfl rfl rfl rfl rfl) ?_
     refine wAr rfl rfl (wAu rfl rfl rfl rfl rfl (by kernel_rfl) (wJt s _ root q M4 (hST.mono hL4))) ?_; rintro _ M5 _ ⟨hM5, _, rfl, ⟨hfd, rfl⟩⟩
     simp only [List.nil_append]
     obtain ⟨y, yv, code, rfl, hyv, hcode⟩ := fdForm hfd
     obtain ⟨ya, yc, rfl, hyc, hys⟩ := id hyv
     have hL5 := hL4.trans hM5
     iterate 3 refine jp rfl ?_
     refine wAr rfl rfl (wAs rfl rfl) ?_; rintro _ _ _ ⟨b12, rfl, rfl, rfl⟩
     refine wBk rfl (wAg rfl rfl rfl rfl rfl rfl rfl rfl) ?_; rintro _ _ _ ⟨rfl, rfl⟩
     refine jp rfl ?_
     refine wAc (jT (wAb (wAa ?_)))
     refine wAe rfl rfl (wBq rfl rfl rfl rfl rfl) ?_
     refine jp rfl ?_
     refine wAe rfl rfl (wBq rfl rfl rfl rfl rfl) ?_
     refine jp rfl ?_
     refine wAe rfl rfl (wBf (cs := [_, _, _, _, _]) rfl rfl rfl (by rfl)) ?_
     refine wAr rfl rfl (wAu rfl rfl rfl rfl rfl (by kernel_rfl) (put_spec s _ (.slice va val.length vc) root (⟨q, 0, val⟩ : It) M5 (hST.mono hL5) (hv.mono hL5) hkq)) ?_; rintro _ Mp1 _ ⟨hP1, _, rfl, ⟨hpt1, rfl⟩⟩
     obtain ⟨ba1, bn1, bc1, wa1, wn1, wc1, na1, nn1, nc1, la1, ln1, lc1, at1, e1, rfl, hq1⟩ := hpt1.form
     simp only [List.nil_append]
     iterate 4 refine jp rfl ?_
     refine wAr rfl rfl (wAs rfl rfl) ?_; rintro _ _ _ ⟨b14, rfl, rfl, rfl⟩
     refine wBk rfl (wAg rfl rfl rfl rfl rfl rfl rfl rfl) ?_; rintro _ _ _ ⟨rfl, rfl⟩
     iterate 2 refine jp rfl ?_
     refine wAc (jT (wAb (wAb (wAa ?_))))
     refine jp rfl ?_
     refine js rfl (fun h66 => ?_) (fun h66 => ?_)
     ·iterate 4 refine jp rfl ?_
      refine wAc (jT (wAj rfl (wAb (wAa ?_))))
      iterate 2 refine jp rfl ?_
      refine wAc (jT (wAh (jTr ?_)))
      refine jr1 rfl rfl ?_
      first | rfl | exact congrArg Value.bool (decide_eq_true (by omega))
     ·iterate 2 refine jp rfl ?_
      refine js rfl (fun h69 => ?_) (fun h69 => ?_)
      ·refine jp rfl ?_
       refine wAc (jT (wAj rfl (wAb (wAa ?_))))
       iterate 2 refine jp rfl ?_
       refine wAc (jT (wAh (jTr ?_)))
       refine jr1 rfl rfl ?_
       first | rfl | exact congrArg Value.bool (decide_eq_true (by omega))
      ·refine jp rfl ?_
       refine wAc (jT (wAm rfl (wAf (jT (wAb ?_)))))
       obtain ⟨t1, hp1, hT1⟩ := dgot hq1 (Classical.not_not.1 h69)
       have hg0 : Good s root := ⟨hf1, hy⟩
       have hc6 : code = 6 := by omega
       have hno : fnd s root q = none := by
        rcases hcode hf1 with ⟨_, k2⟩ | ⟨k1, _⟩
        ·omega
        ·exact k1
       have hg1 := put_good (x := (⟨q, 0, val⟩ : It)) hg0 hkq rfl hp1
       have hnk : ∀ y ∈ wJc s root, y.key ≠ q := fun y hy e => by
        rw [wEm hf1] at hy
        have := fnd_is hf1 hy
        rw [e, hno] at this; cases this
       refine wAa ?_
       refine wAe rfl rfl (wBq rfl rfl rfl rfl rfl) ?_
       refine jp rfl ?_
       refine wAe rfl rfl (wBq rfl rfl rfl rfl rfl) ?_
       refine wAr rfl rfl (wAu rfl rfl rfl rfl rfl (by kernel_rfl) (wEj t1 _ at1 q Mp1 hT1)) ?_; rintro _ Mp2 _ ⟨hP2, _, rfl, ⟨hpt2, rfl⟩⟩
       obtain ⟨ba2, bn2, bc2, wa2, wn2, wc2, na2, nn2, nc2, la2, ln2, lc2, at2, e2, rfl, hq2⟩ := hpt2.form
       simp only [List.nil_append]
       iterate 4 refine jp rfl ?_
       refine wAr rfl rfl (wAs rfl rfl) ?_; rintro _ _ _ ⟨b17, rfl, rfl, rfl⟩
       refine wBk rfl (wAg rfl rfl rfl rfl rfl rfl rfl rfl) ?_; rintro _ _ _ ⟨rfl, rfl⟩
       iterate 2 refine jp rfl ?_
       refine wAc (jT (wAb (wAb (wAa ?_))))
       refine jp rfl ?_
       refine js rfl (fun h81 => ?_) (fun h81 => ?_)
       ·refine wAc (jT (wAj rfl (wAb ?_)))
        have hE : e2 = 9 ∨ e2 = 70 := by
         rcases del_err hg1.1.1 hg1.1.2 (fun _ h => by cases h) (dfail hq2 h81) with ⟨_, k⟩ | ⟨k, _⟩
         ·have hx : (⟨q, 0, val⟩ : It) ∈ wKk t1 at1 := by rw [← wEm hg1.1.1, hg1.2]; exact insL_mem.2 (.inl rfl)
          have := fnd_is hg1.1.1 hx
          rw [k] at this; cases this
         ·exact k
        refine wAa ?_
        iterate 3 refine jp rfl ?_
        refine js rfl (fun h85 => ?_) (fun h85 => ?_)
        ·iterate 6 refine jp rfl ?_
         refine wAc (jT (wAh (jTr ?_)))
         refine jr1 rfl rfl ?_
         first | rfl | exact congrArg Value.bool (decide_eq_true (by omega))
        ·iterate 6 refine jp rfl ?_
         refine wAc (jT (wAh (jTr ?_)))
         refine jr1 rfl rfl ?_
         first | rfl | exact congrArg Value.bool (decide_eq_true (by omega))
       ·refine wAc (jT (wAm rfl (wAf (jT (wAb ?_)))))
        obtain ⟨t2, hp2, hT2⟩ := dgot hq2 (Classical.not_not.1 h81)
        have hg2 := wKj hg1.1 hp2
        have hall : wJc t2 at2 = wJc s root := by rw [hg2.2, hg1.2]; exact notK_ins (x := (⟨q, 0, val⟩ : It)) hnk (allR_srt hf1)
        have hl99 : (wJc s root).length ≤ 1000000 := by have := wHw s root; omega
        refine wBp [(0, true), (1, true), (2, true), (3, true), (5, true), (6, true), (4, false), (7, false), (8, true), (9, true), (10, true), (11, true), (12, true), (13, false), (14, false), (15, true), (16, true)] _ (by kernel_rfl) (by kernel_rfl) (by kernel_rfl) rfl (fun _ h => h) ?_
        iterate 2 refine dp rfl rfl ?_
        refine wAv rfl rfl rfl (wBq rfl rfl rfl rfl rfl) ?_
        refine dp rfl rfl ?_
        refine wAv rfl rfl rfl (wBq rfl rfl rfl rfl rfl) ?_
        refine dp rfl rfl ?_
        refine wGj rfl rfl rfl (wAu rfl rfl rfl rfl rfl (by kernel_rfl) (dall t2 _ at2 Mp2 hT2)) ?_; rintro _ Mq1 _ ⟨hQ1, _, rfl, ⟨hnA, rfl⟩⟩
        refine ⟨_, _, hQ1, MLe.refl _, by simp, fun _ h => h, ?_⟩
        simp only [List.nil_append]
        rw [hall] at hnA
        refine wGj rfl rfl rfl (wAu rfl rfl rfl rfl rfl (by kernel_rfl) (dall s _ root Mq1 (hST.mono (hL5.trans (hP1.trans (hP2.trans hQ1)))))) ?_; rintro _ Mq2 _ ⟨hQ2, _, rfl, ⟨hnB, rfl⟩⟩
        refine ⟨_, _, hQ2, MLe.refl _, by simp, fun _ h => h, ?_⟩
        simp only [List.nil_append]
        refine wAv rfl rfl rfl (qEq (wBu rfl rfl rfl rfl rfl (by kernel_rfl) (dsame (wJc s root) (wJc s root) _ _ Mq2 (hnA.mono hQ2) hnB hl99 hl99)) (v' := .bool true) (by simp)) ?_
        iterate 2 refine dp rfl rfl ?_
        refine wAv rfl rfl rfl (wBq rfl rfl rfl rfl rfl) ?_
        refine dp rfl rfl ?_
        refine wGj rfl rfl rfl (wEr (cs := [_]) rfl rfl rfl (by rfl) (by rfl) (by rfl)) ?_; rintro _ Me _ ⟨b104, rfl, rfl, hMe, e104⟩
        refine ⟨_, _, hMe, MLe.refl _, by simp, fun _ h => h, ?_⟩
        have hrt104 : IS Me (.slice (some ⟨b104, 0, none⟩) 1 1) [at2] := ⟨_, 1, rfl, Nat.le_refl _, SM.of_block e104⟩
        refine wGj rfl rfl rfl (wAu rfl rfl rfl rfl rfl (by kernel_rfl) (denough_yes t2 [at2] _ _ Me (hT2.mono (hQ1.trans (hQ2.trans hMe))) (wCb hg2.1.1).1 hrt104 (by show 1 ≤ 100000; decide) (fun r hr => by rw [List.mem_singleton.1 hr]; exact hg2.1.1) hg2.1.2)) ?_; rintro _ Mf _ ⟨hMf, _, rfl, ⟨rfl, rfl⟩⟩
        refine ⟨_, _, hMf, MLe.refl _, by simp, fun _ h => h, ?_⟩
        simp only [List.nil_append]
        iterate 2 refine dp rfl rfl ?_
        refine wBi (jPn (jT (wAh ?_)))
        refine jr1 rfl rfl ?_
        first | rfl | exact congrArg Value.bool (decide_eq_true (by omega))
    ·iterate 2 refine jp rfl ?_
     refine wAc (jT (wAj rfl (wAb (wAa ?_))))
     iterate 2 refine jp rfl ?_
     refine wAc (jT (wAh (jTr ?_)))
     refine jr1 rfl rfl ?_
     first | rfl | exact congrArg Value.bool (decide_eq_true (by omega))
set_option maxHeartbeats 8000000 in
theorem dorder_walk (s : Sto) (root : Int) (q p : Ky) (bv wv nv lw : Value) (M : Mem) (hST : ST M (.agg #[bv, wv, nv, lw]) s) (hkq : wDk q) :
  SpecL Tryz.prog 11 #[.agg #[bv, wv, nv, lw], .int .i64 root, .agg (wBr q).toArray, .agg (wBr p).toArray] M [] fun u _ _ => u = .bool true := by
 refine wAi (vs := [_, _, _, _]) 144 _ Tryz.func11 rfl Tryz.ntmps11 rfl rfl ?_; intro W
 refine wAb (wAa ?_)
 refine wAr rfl rfl (wDt (cs := [_, _, _, _]) rfl rfl rfl rfl) ?_; rintro _ _ _ ⟨b4, rfl, rfl, rfl⟩
 refine wAr rfl rfl (wDt (cs := [.int .u8 q.kind, .int .u32 q.id, .int .u32 q.off]) rfl rfl rfl rfl) ?_; rintro _ _ _ ⟨b6, rfl, rfl, rfl⟩
 refine wAr rfl rfl (wDt (cs := [.int .u8 p.kind, .int .u32 p.id, .int .u32 p.off]) rfl rfl rfl rfl) ?_; rintro _ _ _ ⟨b7, rfl, rfl, rfl⟩
 refine jp rfl ?_
 refine wAc (jT (wAb (wAa ?_)))
 refine wAr rfl rfl (wAu rfl rfl rfl rfl rfl (by kernel_rfl) (dalive M)) ?_; rintro _ M1 _ ⟨hM1, _, rfl, ⟨rfl, rfl⟩⟩
 simp only [List.nil_append]
 refine jp rfl ?_
 refine wAc (jT (wAb (wAb (wAa ?_))))
 refine wAe rfl rfl (wBq rfl rfl rfl rfl rfl) ?_
 refine wAr rfl rfl (wAu rfl rfl rfl rfl rfl (by kernel_rfl) (wKh s _ M1 (hST.mono hM1))) ?_; rintro _ M2 _ ⟨hM2, _, rfl, ⟨⟨bg, rfl⟩, rfl⟩⟩
 simp only [List.nil_append]
 have hL2 := hM1.trans hM2
 refine jsb rfl (fun h33 => ?_) (fun h33 => ?_)
 ·iterate 3 refine jp rfl ?_
  refine wAc (jT (wAj rfl (wAb (wAa ?_))))
  iterate 2 refine jp rfl ?_
  refine wAc (jT (wAh (jTr ?_)))
  refine jr1 rfl rfl ?_
  first | rfl | exact congrArg Value.bool (decide_eq_true rfl)
 ·iterate 3 refine jp rfl ?_
  refine wAc (jT (wAm rfl (wAf (jT (wAb (wAa ?_))))))
  refine wAe rfl rfl (wBq rfl rfl rfl rfl rfl) ?_
  refine jp rfl ?_
  refine wAe rfl rfl (wBq rfl rfl rfl rfl rfl) ?_
  refine wAr rfl rfl (wAu rfl rfl rfl rfl rfl (by kernel_rfl) (wJt s _ root q M2 (hST.mono hL2))) ?_; rintro _ M3 _ ⟨hM3, _, rfl, ⟨hfd, rfl⟩⟩
  simp only [List.nil_append]
  obtain ⟨y, ya, yc, code, rfl, hyv, hcode⟩ := fdForm2 hfd
  have hL3 := hL2.trans hM3
  iterate 3 refine jp rfl ?_
  refine wAr rfl rfl (wAs rfl rfl) ?_; rintro _ _ _ ⟨b10, rfl, rfl, rfl⟩
  refine wBk rfl (wAg rfl rfl rfl rfl rfl rfl rfl rfl) ?_; rintro _ _ _ ⟨rfl, rfl⟩
  refine jp rfl ?_
  refine wAc (jT (wAb (wAb (wAa ?_))))
  refine jp rfl ?_
  refine js rfl (fun h46 => ?_) (fun h46 => ?_)
  ·iterate 7 refine jp rfl ?_
   refine wAc (jT (wAj rfl (wAb (wAa ?_))))
   iterate 2 refine jp rfl ?_
   refine wAc (jT (wAh (jTr ?_)))
   refine jr1 rfl rfl ?_
   first | rfl | exact congrArg Value.bool (decide_eq_true rfl)
  ·refine jp rfl ?_
   refine wAe rfl rfl (wBq rfl rfl rfl rfl rfl) ?_
   refine jp rfl ?_
   refine wAr rfl rfl (wEr (cs := [_]) rfl rfl rfl (by rfl) (by rfl) (by rfl)) ?_; rintro _ M4 _ ⟨b50, rfl, rfl, hM4, e50⟩
   have hrt50 : IS M4 (.slice (some ⟨b50, 0, none⟩) 1 1) [root] := ⟨_, 1, rfl, Nat.le_refl _, SM.of_block e50⟩
   obtain ⟨_, hf1, hfy⟩ := hcode.resolve_right (fun h => h (Classical.not_not.1 h46))
   have hst := (wCb hf1).1
   obtain ⟨hym, hyk⟩ := fnd_back hf1 hfy
   refine wAr rfl rfl (wAu rfl rfl rfl rfl rfl (by kernel_rfl) (wGn s [root] _ _ M4 (hST.mono (hL3.trans hM4)) hst hrt50 (by show 1 ≤ 100000; decide) (fun r hr => by rw [List.mem_singleton.1 hr]; exact hf1))) ?_; rintro _ M5 _ ⟨hM5, R', rfl, hy⟩
   obtain ⟨rfl, hy⟩ := hy
   simp only [List.nil_append]
   have hL5 := hL3.trans (hM4.trans hM5)
   rcases hy with ⟨rfl, hy⟩ | ⟨rfl, hy⟩
   ·iterate 2 refine jp rfl ?_
    refine wAc (jT (wAm rfl (wAf (jT (wAb (wAa ?_))))))
    refine wAe rfl rfl (wBq rfl rfl rfl rfl rfl) ?_
    refine jp rfl ?_
    refine wAe rfl rfl (wBq rfl rfl rfl rfl rfl) ?_
    refine wAr rfl rfl (wAu rfl rfl rfl rfl rfl (by kernel_rfl) (wEj s _ root q M5 (hST.mono hL5))) ?_; rintro _ Mp1 _ ⟨hP1, _, rfl, ⟨hpt1, rfl⟩⟩
    obtain ⟨ba1, bn1, bc1, wa1, wn1, wc1, na1, nn1, nc1, la1, ln1, lc1, at1, e1, rfl, hq1⟩ := hpt1.form
    simp only [List.nil_append]
    iterate 4 refine jp rfl ?_
    refine wAr rfl rfl (wAs rfl rfl) ?_; rintro _ _ _ ⟨b12, rfl, rfl, rfl⟩
    refine wBk rfl (wAg rfl rfl rfl rfl rfl rfl rfl rfl) ?_; rintro _ _ _ ⟨rfl, rfl⟩
    iterate 2 refine jp rfl ?_
    refine wAc (jT (wAb (wAb (wAa ?_))))
    refine jp rfl ?_
    refine js rfl (fun h64 => ?_) (fun h64 => ?_)
    ·refine wAc (jT (wAj rfl (wAb (wAa ?_))))
     iterate 2 refine jp rfl ?_
     refine wAc (jT (wAh (jTr ?_)))
     refine jr1 rfl rfl ?_
     first | rfl | exact congrArg Value.bool (decide_eq_true rfl)
    ·refine wAc (jT (wAm rfl (wAf (jT (wAb ?_)))))
     obtain ⟨t1, hp1, hT1⟩ := dgot hq1 (Classical.not_not.1 h64)
     have hg0 : Good s root := ⟨hf1, hy⟩
     have hg1 := wKj hg0 hp1
     have hno1 := fnd_none hg1.1.1 (q := q) (fun z hz => by rw [hg1.2] at hz; exact key_not z hz)
     have hl96 : (wJc s root).length ≤ 1000000 := by have := wHw s root; omega
     refine wAa ?_
     refine wAe rfl rfl (wBq rfl rfl rfl rfl rfl) ?_
     refine jp rfl ?_
     refine wAe rfl rfl (wBq rfl rfl rfl rfl rfl) ?_
     refine wAr rfl rfl (wAu rfl rfl rfl rfl rfl (by kernel_rfl) (wEj t1 _ at1 q Mp1 hT1)) ?_; rintro _ Mp2 _ ⟨hP2, _, rfl, ⟨hpt2, rfl⟩⟩
     obtain ⟨ba2, bn2, bc2, wa2, wn2, wc2, na2, nn2, nc2, la2, ln2, lc2, at2, e2, rfl, hq2⟩ := hpt2.form
     simp only [List.nil_append]
     have he2 : e2 = 6 := by
      rcases hq2 with ⟨_, h2, _⟩ | ⟨_, t, h2, _⟩
      ·rw [delF_no hg1.1.1 hno1] at h2; cases h2; rfl
      ·rw [delF_no hg1.1.1 hno1] at h2; cases h2
     iterate 4 refine jp rfl ?_
     refine wAr rfl rfl (wAs rfl rfl) ?_; rintro _ _ _ ⟨b15, rfl, rfl, rfl⟩
     refine wBk rfl (wAg rfl rfl rfl rfl rfl rfl rfl rfl) ?_; rintro _ _ _ ⟨rfl, rfl⟩
     iterate 2 refine jp rfl ?_
     refine wAc (jT (wAb (wAb (wAa ?_))))
     refine jp rfl ?_
     refine jf rfl (decide_eq_false (by omega)) ?_
     refine wAc (jT (wAm rfl (wAf (jT ?_))))
     refine wKc (α := Mem) (fun w => [(1, .int .i64 root), (4, .pointer (some ⟨b4, 0, none⟩)), (6, .pointer (some ⟨b6, 0, none⟩)), (7, .pointer (some ⟨b7, 0, none⟩)), (9, .bool true), (12, .pointer (some ⟨b12, 0, none⟩)), (13, .int .i64 at1)]) (fun w => w) (fun _ => [(b15, .cells [.slice ba2 bn2 bc2, .slice wa2 wn2 wc2, .slice na2 nn2 nc2, .slice la2 ln2 lc2].toArray TSt (0, 0)), (b12, .cells [.slice ba1 bn1 bc1, .slice wa1 wn1 wc1, .slice na1 nn1 nc1, .slice la1 ln1 lc1].toArray TSt (0, 0)), (b10, .cells [.int .u8 y.key.kind, .int .u32 y.key.id, .int .u32 y.key.off, .int .i64 y.ref, .slice ya y.val.length yc].toArray IT (0, 0)), (b7, .cells [.int .u8 p.kind, .int .u32 p.id, .int .u32 p.off].toArray 31 (0, 0)), (b6, .cells [.int .u8 q.kind, .int .u32 q.id, .int .u32 q.off].toArray 31 (0, 0)), (b4, .cells [bv, wv, nv, lw].toArray TSt (0, 0))]) (fun w => MLe Mp2 w) ?_ ?_
     ·rintro Mz hMz
      try dsimp only at hMz ⊢
      have hLz := (hL5.trans (hP1.trans hP2)).trans hMz
      refine wAb (wAa ?_)
      refine wAe rfl rfl (wBq rfl rfl rfl rfl rfl) ?_
      refine jp rfl ?_
      refine wAe rfl rfl (wBq rfl rfl rfl rfl rfl) ?_
      refine wAr rfl rfl (wAu rfl rfl rfl rfl rfl (by kernel_rfl) (wEj t1 _ at1 p Mz (hT1.mono (hP2.trans hMz)))) ?_; rintro _ Mp4 _ ⟨hP4, _, rfl, ⟨hpt4, rfl⟩⟩
      obtain ⟨ba4, bn4, bc4, wa4, wn4, wc4, na4, nn4, nc4, la4, ln4, lc4, at4, e4, rfl, hq4⟩ := hpt4.form
      simp only [List.nil_append]
      iterate 4 refine jp rfl ?_
      refine wAr rfl rfl (wAs rfl rfl) ?_; rintro _ _ _ ⟨b21, rfl, rfl, rfl⟩
      refine wBk rfl (wAg rfl rfl rfl rfl rfl rfl rfl rfl) ?_; rintro _ _ _ ⟨rfl, rfl⟩
      iterate 2 refine jp rfl ?_
      refine wAc (jT (wAb (wAa ?_)))
      refine wAe rfl rfl (wBq rfl rfl rfl rfl rfl) ?_
      refine jp rfl ?_
      refine wAe rfl rfl (wBq rfl rfl rfl rfl rfl) ?_
      refine wAr rfl rfl (wAu rfl rfl rfl rfl rfl (by kernel_rfl) (wEj s _ root p Mp4 (hST.mono (hLz.trans hP4)))) ?_; rintro _ Mp5 _ ⟨hP5, _, rfl, ⟨hpt5, rfl⟩⟩
      obtain ⟨ba5, bn5, bc5, wa5, wn5, wc5, na5, nn5, nc5, la5, ln5, lc5, at5, e5, rfl, hq5⟩ := hpt5.form
      simp only [List.nil_append]
      iterate 4 refine jp rfl ?_
      refine wAr rfl rfl (wAs rfl rfl) ?_; rintro _ _ _ ⟨b24, rfl, rfl, rfl⟩
      refine wBk rfl (wAg rfl rfl rfl rfl rfl rfl rfl rfl) ?_; rintro _ _ _ ⟨rfl, rfl⟩
      iterate 2 refine jp rfl ?_
      refine wAc (jT (wAb (wAb (wAa ?_))))
      refine jp rfl ?_
      refine js rfl (fun h116 => ?_) (fun h116 => ?_)
      ·iterate 4 refine jp rfl ?_
       refine wAc (jT (wAj rfl (wAb (wAa ?_))))
       iterate 2 refine jp rfl ?_
       refine wAc (jT (wAh (jTr ?_)))
       refine jr1 rfl rfl ?_
       first | rfl | exact congrArg Value.bool (decide_eq_true rfl)
      ·iterate 2 refine jp rfl ?_
       refine js rfl (fun h119 => ?_) (fun h119 => ?_)
       ·refine jp rfl ?_
        refine wAc (jT (wAj rfl (wAb (wAa ?_))))
        iterate 2 refine jp rfl ?_
        refine wAc (jT (wAh (jTr ?_)))
        refine jr1 rfl rfl ?_
        first | rfl | exact congrArg Value.bool (decide_eq_true rfl)
       ·refine jp rfl ?_
        refine wAc (jT (wAm rfl (wAf (jT (wAb ?_)))))
        obtain ⟨t4, hp4, hT4⟩ := dgot hq4 (Classical.not_not.1 h116)
        obtain ⟨t5, hp5, hT5⟩ := dgot hq5 (Classical.not_not.1 h119)
        have hg4 := wKj hg1.1 hp4
        have hg5 := wKj hg0 hp5
        have hl141 : (((wJc s root).filter (wEt q)).filter (wEt p)).length ≤ 1000000 := by rw [← hg1.2, ← hg4.2]; have := wHw t4 at4; omega
        refine wAa ?_
        refine wAe rfl rfl (wBq rfl rfl rfl rfl rfl) ?_
        refine jp rfl ?_
        refine wAe rfl rfl (wBq rfl rfl rfl rfl rfl) ?_
        refine wAr rfl rfl (wAu rfl rfl rfl rfl rfl (by kernel_rfl) (wEj t5 _ at5 q Mp5 hT5)) ?_; rintro _ Mp6 _ ⟨hP6, _, rfl, ⟨hpt6, rfl⟩⟩
        obtain ⟨ba6, bn6, bc6, wa6, wn6, wc6, na6, nn6, nc6, la6, ln6, lc6, at6, e6, rfl, hq6⟩ := hpt6.form
        simp only [List.nil_append]
        iterate 4 refine jp rfl ?_
        refine wAr rfl rfl (wAs rfl rfl) ?_; rintro _ _ _ ⟨b27, rfl, rfl, rfl⟩
        refine wBk rfl (wAg rfl rfl rfl rfl rfl rfl rfl rfl) ?_; rintro _ _ _ ⟨rfl, rfl⟩
        iterate 2 refine jp rfl ?_
        refine wAc (jT (wAb ?_))
        refine wBp [(0, true), (1, true), (2, true), (3, true), (4, true), (5, true), (6, true), (8, true), (9, true), (7, false), (10, false), (11, true), (12, true), (13, true), (14, true)] _ (by kernel_rfl) (by kernel_rfl) (by kernel_rfl) rfl (fun _ h => h) ?_
        iterate 3 refine dp rfl rfl ?_
        refine ds rfl rfl (fun h133 => ?_) (fun h133 => ?_)
        ·iterate 5 refine dp rfl rfl ?_
         refine dk rfl rfl rfl rfl ?_
         refine dk rfl rfl rfl rfl ?_
         iterate 4 refine dp rfl rfl ?_
         refine wBi (jPn (jT (wAh ?_)))
         refine jr1 rfl rfl ?_
         first | rfl | exact congrArg Value.bool (decide_eq_true rfl)
        ·refine dp rfl rfl ?_
         refine wAv rfl rfl rfl (wBq rfl rfl rfl rfl rfl) ?_
         refine dp rfl rfl ?_
         refine wAv rfl rfl rfl (wBq rfl rfl rfl rfl rfl) ?_
         refine dp rfl rfl ?_
         refine wGj rfl rfl rfl (wAu rfl rfl rfl rfl rfl (by kernel_rfl) (dall t4 _ at4 Mp6 (hT4.mono (hP5.trans hP6)))) ?_; rintro _ Mq3 _ ⟨hQ3, _, rfl, ⟨hnC, rfl⟩⟩
         refine ⟨_, _, hQ3, MLe.refl _, by simp, fun _ h => h, ?_⟩
         simp only [List.nil_append]
         rw [hg4.2, hg1.2] at hnC
         obtain ⟨t6, hp6, hT6⟩ := dgot hq6 (Classical.not_not.1 h133)
         have hg6 := wKj hg5.1 hp6
         refine wGj rfl rfl rfl (wAu rfl rfl rfl rfl rfl (by kernel_rfl) (dall t6 _ at6 Mq3 (hT6.mono hQ3))) ?_; rintro _ Mq4 _ ⟨hQ4, _, rfl, ⟨hnD, rfl⟩⟩
         refine ⟨_, _, hQ4, MLe.refl _, by simp, fun _ h => h, ?_⟩
         simp only [List.nil_append]
         rw [hg6.2, hg5.2, notK_comm] at hnD
         refine wAv rfl rfl rfl (wBu rfl rfl rfl rfl rfl (by kernel_rfl) (dsame (((wJc s root).filter (wEt q)).filter (wEt p)) (((wJc s root).filter (wEt q)).filter (wEt p)) _ _ Mq4 (hnC.mono hQ4) hnD hl141 hl141)) ?_
         iterate 3 refine dp rfl rfl ?_
         refine wBi (jPn (jT (wAh ?_)))
         refine jr1 rfl rfl ?_
         first | rfl | exact congrArg Value.bool (decide_eq_true rfl)
     ·refine wAb (wAa ?_)
      refine wAe rfl rfl (wAd rfl rfl rfl rfl rfl) ?_
      refine wAe rfl rfl (qLd rfl rfl rfl rfl (CJ.loc rfl)) ?_
      refine js rfl (fun h78 => ?_) (fun h78 => ?_)
      ·refine wAc (jT (wAj rfl (wAb (wAa ?_))))
       refine wAe rfl rfl (wBq rfl rfl rfl rfl rfl) ?_
       refine jp rfl ?_
       refine wAe rfl rfl (wBq rfl rfl rfl rfl rfl) ?_
       refine wAr rfl rfl (wAu rfl rfl rfl rfl rfl (by kernel_rfl) (put_spec t1 _ (.slice ya y.val.length yc) at1 y Mp2 (hT1.mono hP2) (hyv.mono (hM4.trans (hM5.trans (hP1.trans hP2)))) (by rw [hyk]; exact hkq))) ?_; rintro _ Mp3 _ ⟨hP3, _, rfl, ⟨hpt3, rfl⟩⟩
       obtain ⟨ba3, bn3, bc3, wa3, wn3, wc3, na3, nn3, nc3, la3, ln3, lc3, at3, e3, rfl, hq3⟩ := hpt3.form
       simp only [List.nil_append]
       iterate 4 refine jp rfl ?_
       refine wAr rfl rfl (wAs rfl rfl) ?_; rintro _ _ _ ⟨b18, rfl, rfl, rfl⟩
       refine wBk rfl (wAg rfl rfl rfl rfl rfl rfl rfl rfl) ?_; rintro _ _ _ ⟨rfl, rfl⟩
       iterate 2 refine jp rfl ?_
       refine wAc (jT (wAb ?_))
       refine wBp [(0, true), (1, true), (2, true), (3, true), (4, true), (6, true), (7, true), (5, false), (8, false), (9, true), (10, true), (11, true)] _ (by kernel_rfl) (by kernel_rfl) (by kernel_rfl) rfl (fun _ h => h) ?_
       refine dp rfl rfl ?_
       refine ds rfl rfl (fun h88 => ?_) (fun h88 => ?_)
       ·refine dp rfl rfl ?_
        refine wAv rfl rfl rfl (wBq rfl rfl rfl rfl rfl) ?_
        refine dp rfl rfl ?_
        refine wAv rfl rfl rfl (wBq rfl rfl rfl rfl rfl) ?_
        refine dp rfl rfl ?_
        obtain ⟨t3, hp3, hT3⟩ := dgot hq3 h88
        have hg3 := put_good hg1.1 (by rw [hyk]; exact hkq) h78 hp3
        refine wGj rfl rfl rfl (wAu rfl rfl rfl rfl rfl (by kernel_rfl) (dall t3 _ at3 Mp3 hT3)) ?_; rintro _ Mq1 _ ⟨hQ1, _, rfl, ⟨hnA, rfl⟩⟩
        refine ⟨_, _, hQ1, MLe.refl _, by simp, fun _ h => h, ?_⟩
        simp only [List.nil_append]
        rw [hg3.2, hg1.2, ← hyk, ins_notK (allR_srt hf1) (by rw [wEm hf1]; exact hym)] at hnA
        refine wGj rfl rfl rfl (wAu rfl rfl rfl rfl rfl (by kernel_rfl) (dall s _ root Mq1 (hST.mono ((hL5.trans (hP1.trans hP2)).trans (hP3.trans hQ1))))) ?_; rintro _ Mq2 _ ⟨hQ2, _, rfl, ⟨hnB, rfl⟩⟩
        refine ⟨_, _, hQ2, MLe.refl _, by simp, fun _ h => h, ?_⟩
        simp only [List.nil_append]
        refine wAv rfl rfl rfl (qEq (wBu rfl rfl rfl rfl rfl (by kernel_rfl) (dsame (wJc s root) (wJc s root) _ _ Mq2 (hnA.mono hQ2) hnB hl96 hl96)) (v' := .bool true) (by simp)) ?_
        iterate 2 refine dp rfl rfl ?_
        refine wBi (jPn (jT (wAm rfl (wAf ?_))))
        refine wBg (L' := [(b15, .cells [.slice ba2 bn2 bc2, .slice wa2 wn2 wc2, .slice na2 nn2 nc2, .slice la2 ln2 lc2].toArray TSt (0, 0)), (b12, .cells [.slice ba1 bn1 bc1, .slice wa1 wn1 wc1, .slice na1 nn1 nc1, .slice la1 ln1 lc1].toArray TSt (0, 0)), (b10, .cells [.int .u8 y.key.kind, .int .u32 y.key.id, .int .u32 y.key.off, .int .i64 y.ref, .slice ya y.val.length yc].toArray IT (0, 0)), (b7, .cells [.int .u8 p.kind, .int .u32 p.id, .int .u32 p.off].toArray 31 (0, 0)), (b6, .cells [.int .u8 q.kind, .int .u32 q.id, .int .u32 q.off].toArray 31 (0, 0)), (b4, .cells [bv, wv, nv, lw].toArray TSt (0, 0))]) (by simp) ?_
        exact wEp Mq2 (Keep.cons (t := 1) rfl (Keep.cons (t := 4) rfl (Keep.cons (t := 6) rfl (Keep.cons (t := 7) rfl (Keep.cons (t := 9) rfl (Keep.cons (t := 12) rfl (Keep.cons (t := 13) rfl Keep.nil))))))) (hP3.trans (hQ1.trans hQ2)) (fun _ h => h)
       ·iterate 5 refine dp rfl rfl ?_
        refine dk rfl rfl rfl rfl ?_
        refine dk rfl rfl rfl rfl ?_
        iterate 3 refine dp rfl rfl ?_
        refine wBi (jPn (jT (wAm rfl (wAf ?_))))
        refine wBg (L' := [(b15, .cells [.slice ba2 bn2 bc2, .slice wa2 wn2 wc2, .slice na2 nn2 nc2, .slice la2 ln2 lc2].toArray TSt (0, 0)), (b12, .cells [.slice ba1 bn1 bc1, .slice wa1 wn1 wc1, .slice na1 nn1 nc1, .slice la1 ln1 lc1].toArray TSt (0, 0)), (b10, .cells [.int .u8 y.key.kind, .int .u32 y.key.id, .int .u32 y.key.off, .int .i64 y.ref, .slice ya y.val.length yc].toArray IT (0, 0)), (b7, .cells [.int .u8 p.kind, .int .u32 p.id, .int .u32 p.off].toArray 31 (0, 0)), (b6, .cells [.int .u8 q.kind, .int .u32 q.id, .int .u32 q.off].toArray 31 (0, 0)), (b4, .cells [bv, wv, nv, lw].toArray TSt (0, 0))]) (by simp) ?_
        exact wEp Mp3 (Keep.cons (t := 1) rfl (Keep.cons (t := 4) rfl (Keep.cons (t := 6) rfl (Keep.cons (t := 7) rfl (Keep.cons (t := 9) rfl (Keep.cons (t := 12) rfl (Keep.cons (t := 13) rfl Keep.nil))))))) hP3 (fun _ h => h)
      ·refine wAc (jT (wAm rfl (wAf ?_)))
       refine wBg (L' := [(b15, .cells [.slice ba2 bn2 bc2, .slice wa2 wn2 wc2, .slice na2 nn2 nc2, .slice la2 ln2 lc2].toArray TSt (0, 0)), (b12, .cells [.slice ba1 bn1 bc1, .slice wa1 wn1 wc1, .slice na1 nn1 nc1, .slice la1 ln1 lc1].toArray TSt (0, 0)), (b10, .cells [.int .u8 y.key.kind, .int .u32 y.key.id, .int .u32 y.key.off, .int .i64 y.ref, .slice ya y.val.length yc].toArray IT (0, 0)), (b7, .cells [.int .u8 p.kind, .int .u32 p.id, .int .u32 p.off].toArray 31 (0, 0)), (b6, .cells [.int .u8 q.kind, .int .u32 q.id, .int .u32 q.off].toArray 31 (0, 0)), (b4, .cells [bv, wv, nv, lw].toArray TSt (0, 0))]) (by simp) ?_
       exact wEp Mp2 (Keep.cons (t := 1) rfl (Keep.cons (t := 4) rfl (Keep.cons (t := 6) rfl (Keep.cons (t := 7) rfl (Keep.cons (t := 9) rfl (Keep.cons (t := 12) rfl (Keep.cons (t := 13) rfl Keep.nil))))))) (MLe.refl _) (fun _ h => h)
   ·iterate 2 refine jp rfl ?_
    refine wAc (jT (wAj rfl (wAb (wAa ?_))))
    iterate 2 refine jp rfl ?_
    refine wAc (jT (wAh (jTr ?_)))
    refine jr1 rfl rfl ?_
    first | rfl | exact congrArg Value.bool (decide_eq_true rfl)
end Go.Proofs.YtckdncmjkloebaaGreat
