/- PutOrder's function is walked. -/
import Derived.Test.YtckdncmjkloebaaGreatZPutr
namespace Go.Proofs.YtckdncmjkloebaaGreat
set_option linter.unusedVariables false
set_option linter.unusedSimpArgs false
set_option linter.unusedVariables false
open Go.RowKit

/-- a put that succeeded, told -/
theorem PtPost.got {r : Except Int (Sto × Int)} {M' : Mem} {v : Value} {at_ e : Int} {nn wn : Nat} (hq : (e ≠ 0 ∧ r = .error e ∧ at_ = 0 ∧ nn = 0) ∨ (e = 0 ∧ ∃ t, r = .ok (t, at_) ∧ nn = t.now.length ∧ wn = t.waits.length ∧ ST M' v t ∧ stOk t)) (h : e = 0) : ∃ t, r = .ok (t, at_) ∧ ST M' v t := by
 rcases hq with ⟨h0, _⟩ | ⟨_, t, h2, _, _, h5, _⟩
 ·exact absurd h h0
 ·exact ⟨t, h2, h5⟩

set_option maxHeartbeats 8000000 in
theorem porder_walk (s : Sto) (root : Int) (x z : It) (xv zv bv wv nv lw : Value) (M : Mem) (hST : ST M (.agg #[bv, wv, nv, lw]) s) (hx : BS M xv x.val) (hz : BS M zv z.val) (hkx : keyOk x.key) (hkz : keyOk z.key) :
  SpecL Tryz.prog 5 #[.agg #[bv, wv, nv, lw], .int .i64 root, .agg #[.int .u8 x.key.kind, .int .u32 x.key.id, .int .u32 x.key.off, .int .i64 x.ref, xv], .agg #[.int .u8 z.key.kind, .int .u32 z.key.id, .int .u32 z.key.off, .int .i64 z.ref, zv]] M [] fun u _ _ => u = .bool true := by
 obtain ⟨xa, xc, rfl, hxc, hxs⟩ := id hx
 obtain ⟨za, zc, rfl, hzc, hzs⟩ := id hz
 refine spec_body (vs := [_, _, _, _]) 172 _ Tryz.func5 rfl Tryz.ntmps5 rfl rfl ?_; intro W
 refine jc_seq ?_
 refine jc_region ?_
 refine jl_h rfl rfl (hBox (cs := [_, _, _, _]) rfl rfl rfl rfl) ?_; rintro _ _ _ ⟨b4, rfl, rfl, rfl⟩
 refine jl_h rfl rfl (hBox (cs := [_, _, _, _, _]) rfl rfl rfl rfl) ?_; rintro _ _ _ ⟨b6, rfl, rfl, rfl⟩
 refine jl_h rfl rfl (hBox (cs := [_, _, _, _, _]) rfl rfl rfl rfl) ?_; rintro _ _ _ ⟨b7, rfl, rfl, rfl⟩
 refine jp rfl ?_
 refine jl_nil ?_
 refine jT ?_
 refine jc_seq ?_
 refine jc_region ?_
 refine jl_h rfl rfl (hCall rfl rfl rfl rfl rfl (by kernel_rfl) (palive M)) ?_; rintro _ M1 _ ⟨hM1, _, rfl, ⟨rfl, rfl⟩⟩
 simp only [List.nil_append]
 refine jp rfl ?_
 refine jl_nil ?_
 refine jT ?_
 refine jc_seq ?_
 refine jc_seq ?_
 refine jc_region ?_
 refine jl_q rfl rfl (qLdL rfl rfl rfl rfl rfl) ?_
 refine jl_h rfl rfl (hCall rfl rfl rfl rfl rfl (by kernel_rfl) (great_spec s _ M1 (hST.mono hM1))) ?_; rintro _ M2 _ ⟨hM2, _, rfl, ⟨⟨bg, rfl⟩, rfl⟩⟩
 simp only [List.nil_append]
 have hL2 := hM1.trans hM2
 refine jsb rfl (fun h30 => ?_) (fun h30 => ?_)
 ·iterate 25 refine jp rfl ?_
  refine jl_nil ?_
  refine jT ?_
  refine jc_yes rfl ?_
  refine jc_seq ?_
  refine jc_region ?_
  iterate 2 refine jp rfl ?_
  refine jl_nil ?_
  refine jT ?_
  refine jc_ret ?_
  refine jTr ?_
  refine jr1 rfl rfl ?_
  first | rfl | exact congrArg Value.bool (decide_eq_true rfl)
 ·iterate 4 refine jp rfl ?_
  refine jl_q rfl rfl (qFieldAddr rfl rfl rfl rfl rfl) ?_
  refine jl_q rfl rfl (qLd rfl rfl rfl rfl (CJ.loc rfl)) ?_
  refine js rfl (fun h37 => ?_) (fun h37 => ?_)
  ·iterate 18 refine jp rfl ?_
   refine jl_nil ?_
   refine jT ?_
   refine jc_yes rfl ?_
   refine jc_seq ?_
   refine jc_region ?_
   iterate 2 refine jp rfl ?_
   refine jl_nil ?_
   refine jT ?_
   refine jc_ret ?_
   refine jTr ?_
   refine jr1 rfl rfl ?_
   first | rfl | exact congrArg Value.bool (decide_eq_true rfl)
  ·iterate 2 refine jp rfl ?_
   refine jl_q rfl rfl (qFieldAddr rfl rfl rfl rfl rfl) ?_
   refine jl_q rfl rfl (qLd rfl rfl rfl rfl (CJ.loc rfl)) ?_
   refine js rfl (fun h42 => ?_) (fun h42 => ?_)
   ·iterate 13 refine jp rfl ?_
    refine jl_nil ?_
    refine jT ?_
    refine jc_yes rfl ?_
    refine jc_seq ?_
    refine jc_region ?_
    iterate 2 refine jp rfl ?_
    refine jl_nil ?_
    refine jT ?_
    refine jc_ret ?_
    refine jTr ?_
    refine jr1 rfl rfl ?_
    first | rfl | exact congrArg Value.bool (decide_eq_true rfl)
   ·iterate 2 refine jp rfl ?_
    refine jl_q rfl rfl (qFieldAddr rfl rfl rfl rfl rfl) ?_
    refine jl_q rfl rfl (qLd rfl rfl rfl rfl (CJ.loc rfl)) ?_
    refine jl_q rfl rfl (qLen rfl rfl rfl) ?_
    refine js rfl (fun h48 => ?_) (fun h48 => ?_)
    ·iterate 7 refine jp rfl ?_
     refine jl_nil ?_
     refine jT ?_
     refine jc_yes rfl ?_
     refine jc_seq ?_
     refine jc_region ?_
     iterate 2 refine jp rfl ?_
     refine jl_nil ?_
     refine jT ?_
     refine jc_ret ?_
     refine jTr ?_
     refine jr1 rfl rfl ?_
     first | rfl | exact congrArg Value.bool (decide_eq_true rfl)
    ·iterate 2 refine jp rfl ?_
     refine jl_q rfl rfl (qFieldAddr rfl rfl rfl rfl rfl) ?_
     refine jl_q rfl rfl (qLd rfl rfl rfl rfl (CJ.loc rfl)) ?_
     refine jl_q rfl rfl (qLen rfl rfl rfl) ?_
     refine js rfl (fun h54 => ?_) (fun h54 => ?_)
     ·refine jp rfl ?_
      refine jl_nil ?_
      refine jT ?_
      refine jc_yes rfl ?_
      refine jc_seq ?_
      refine jc_region ?_
      iterate 2 refine jp rfl ?_
      refine jl_nil ?_
      refine jT ?_
      refine jc_ret ?_
      refine jTr ?_
      refine jr1 rfl rfl ?_
      first | rfl | exact congrArg Value.bool (decide_eq_true rfl)
     ·refine jp rfl ?_
      refine jl_nil ?_
      refine jT ?_
      refine jc_no rfl ?_
      refine jc_skip ?_
      refine jT ?_
      refine jc_seq ?_
      refine jc_region ?_
      refine jl_q rfl rfl (qLdL rfl rfl rfl rfl rfl) ?_
      refine jp rfl ?_
      refine jl_q rfl rfl (qCall rfl rfl rfl rfl rfl (by kernel_rfl) (fcheck_spec s _ root M2 (hST.mono hL2))) ?_
      iterate 5 refine jp rfl ?_
      refine jl_nil ?_
      refine jT ?_
      refine jc_seq ?_
      refine jc_seq ?_
      refine jc_region ?_
      refine jp rfl ?_
      refine js rfl (fun h64 => ?_) (fun h64 => ?_)
      ·iterate 7 refine jp rfl ?_
       refine jl_nil ?_
       refine jT ?_
       refine jc_yes rfl ?_
       refine jc_seq ?_
       refine jc_region ?_
       iterate 2 refine jp rfl ?_
       refine jl_nil ?_
       refine jT ?_
       refine jc_ret ?_
       refine jTr ?_
       refine jr1 rfl rfl ?_
       first | rfl | exact congrArg Value.bool (decide_eq_true rfl)
      ·refine jp rfl ?_
       refine jl_q rfl rfl (qLdL rfl rfl rfl rfl rfl) ?_
       refine jp rfl ?_
       refine jl_h rfl rfl (hBuildSliceM (cs := [_]) rfl rfl rfl (by rfl) (by rfl) (by rfl)) ?_; rintro _ M3 _ ⟨b68, rfl, rfl, hM3, e68⟩
       have hrt : IS M3 (.slice (some ⟨b68, 0, none⟩) 1 1) [root] := ⟨_, 1, rfl, Nat.le_refl _, SM.of_block e68⟩
       have hf1 : (fchk s root).2 = 0 := Classical.not_not.1 h64
       have hst := (fchk_ok hf1).1
       have hxr : x.ref = 0 := Classical.not_not.1 h37
       have hzr : z.ref = 0 := Classical.not_not.1 h42
       refine jl_h rfl rfl (hCall rfl rfl rfl rfl rfl (by kernel_rfl) (enough_two s [root] [] _ _ _ M3 (hST.mono (hL2.trans hM3)) hst hrt (by show 1 ≤ 100000; decide) (fun r hr => by rw [List.mem_singleton.1 hr]; exact hf1) IS.nil (by decide) (fun _ h => by cases h))) ?_; rintro _ M4 _ ⟨hM4, R', rfl, hy⟩
       obtain ⟨rfl, hy⟩ := hy
       simp only [List.nil_append]
       have hL4 := hL2.trans (hM3.trans hM4)
       rcases hy with ⟨rfl, hy⟩ | ⟨rfl, hy⟩
       ·iterate 2 refine jp rfl ?_
        refine jl_nil ?_
        refine jT ?_
        refine jc_no rfl ?_
        refine jc_skip ?_
        refine jT ?_
        refine jc_seq ?_
        refine jc_region ?_
        refine jl_q rfl rfl (qLdL rfl rfl rfl rfl rfl) ?_
        refine jp rfl ?_
        refine jl_q rfl rfl (qLdL rfl rfl rfl rfl rfl) ?_
        refine jl_h rfl rfl (hCall rfl rfl rfl rfl rfl (by kernel_rfl) (put_spec s _ (.slice xa x.val.length xc) root x M4 (hST.mono hL4) (hx.mono hL4) hkx)) ?_; rintro _ Mp1 _ ⟨hP1, _, rfl, ⟨hpt1, rfl⟩⟩
        obtain ⟨ba1, bn1, bc1, wa1, wn1, wc1, na1, nn1, nc1, la1, ln1, lc1, at1, e1, rfl, hq1⟩ := hpt1.form
        simp only [List.nil_append]
        iterate 4 refine jp rfl ?_
        refine jl_h rfl rfl (hAlloc rfl rfl) ?_; rintro _ _ _ ⟨b12, rfl, rfl, rfl⟩
        refine jl_s rfl (hStoreL rfl rfl rfl rfl rfl rfl rfl rfl) ?_; rintro _ _ _ ⟨rfl, rfl⟩
        iterate 2 refine jp rfl ?_
        refine jl_nil ?_
        refine jT ?_
        refine jc_seq ?_
        refine jc_seq ?_
        refine jc_region ?_
        refine jp rfl ?_
        refine js rfl (fun h82 => ?_) (fun h82 => ?_)
        ·refine jl_nil ?_
         refine jT ?_
         refine jc_yes rfl ?_
         refine jc_seq ?_
         refine jc_region ?_
         iterate 2 refine jp rfl ?_
         refine jl_nil ?_
         refine jT ?_
         refine jc_ret ?_
         refine jTr ?_
         refine jr1 rfl rfl ?_
         first | rfl | exact congrArg Value.bool (decide_eq_true rfl)
        ·refine jl_nil ?_
         refine jT ?_
         refine jc_no rfl ?_
         refine jc_skip ?_
         refine jT ?_
         refine jc_seq ?_
         obtain ⟨t1, hp1, hT1⟩ := PtPost.got hq1 (Classical.not_not.1 h82)
         have hg0 : Good s root := ⟨hf1, hy⟩
         have hg1 := put_good hg0 hkx hxr hp1
         have hl101 : (insL x (allR s root)).length ≤ 1000000 := by rw [← hg1.2]; have := allR_len t1 at1; omega
         refine jc_region ?_
         refine jl_q rfl rfl (qLdL rfl rfl rfl rfl rfl) ?_
         refine jp rfl ?_
         refine jl_q rfl rfl (qLdL rfl rfl rfl rfl rfl) ?_
         refine jl_h rfl rfl (hCall rfl rfl rfl rfl rfl (by kernel_rfl) (put_spec t1 _ (.slice xa x.val.length xc) at1 x Mp1 hT1 (hx.mono (hL4.trans hP1)) hkx)) ?_; rintro _ Mp2 _ ⟨hP2, _, rfl, ⟨hpt2, rfl⟩⟩
         obtain ⟨ba2, bn2, bc2, wa2, wn2, wc2, na2, nn2, nc2, la2, ln2, lc2, at2, e2, rfl, hq2⟩ := hpt2.form
         simp only [List.nil_append]
         iterate 4 refine jp rfl ?_
         refine jl_h rfl rfl (hAlloc rfl rfl) ?_; rintro _ _ _ ⟨b15, rfl, rfl, rfl⟩
         refine jl_s rfl (hStoreL rfl rfl rfl rfl rfl rfl rfl rfl) ?_; rintro _ _ _ ⟨rfl, rfl⟩
         iterate 2 refine jp rfl ?_
         refine jl_nil ?_
         refine jT ?_
         refine jc_merge (α := Mem) (fun w => [(1, .int .i64 root), (4, .pointer (some ⟨b4, 0, none⟩)), (6, .pointer (some ⟨b6, 0, none⟩)), (7, .pointer (some ⟨b7, 0, none⟩)), (9, .bool true), (12, .pointer (some ⟨b12, 0, none⟩)), (13, .int .i64 at1)]) (fun w => w) (fun _ => [(b12, .cells [.slice ba1 bn1 bc1, .slice wa1 wn1 wc1, .slice na1 nn1 nc1, .slice la1 ln1 lc1].toArray TSt (0, 0)), (b7, .cells [.int .u8 z.key.kind, .int .u32 z.key.id, .int .u32 z.key.off, .int .i64 z.ref, .slice za z.val.length zc].toArray 44 (0, 0)), (b6, .cells [.int .u8 x.key.kind, .int .u32 x.key.id, .int .u32 x.key.off, .int .i64 x.ref, .slice xa x.val.length xc].toArray 44 (0, 0)), (b4, .cells [bv, wv, nv, lw].toArray TSt (0, 0))]) (fun w => MLe Mp1 w) ?_ ?_
         ·rintro Mz hMz
          try dsimp only at hMz ⊢
          have hLz := hL4.trans (hP1.trans hMz)
          refine jc_seq ?_
          refine jc_region ?_
          refine jl_q rfl rfl (qLdL rfl rfl rfl rfl rfl) ?_
          refine jp rfl ?_
          refine jl_q rfl rfl (qLdL rfl rfl rfl rfl rfl) ?_
          refine jl_h rfl rfl (hCall rfl rfl rfl rfl rfl (by kernel_rfl) (put_spec t1 _ (.slice za z.val.length zc) at1 z Mz (hT1.mono hMz) (hz.mono hLz) hkz)) ?_; rintro _ Mp3 _ ⟨hP3, _, rfl, ⟨hpt3, rfl⟩⟩
          obtain ⟨ba3, bn3, bc3, wa3, wn3, wc3, na3, nn3, nc3, la3, ln3, lc3, at3, e3, rfl, hq3⟩ := hpt3.form
          simp only [List.nil_append]
          iterate 4 refine jp rfl ?_
          refine jl_h rfl rfl (hAlloc rfl rfl) ?_; rintro _ _ _ ⟨b18, rfl, rfl, rfl⟩
          refine jl_s rfl (hStoreL rfl rfl rfl rfl rfl rfl rfl rfl) ?_; rintro _ _ _ ⟨rfl, rfl⟩
          iterate 2 refine jp rfl ?_
          refine jl_nil ?_
          refine jT ?_
          refine jc_seq ?_
          refine jc_region ?_
          refine jl_q rfl rfl (qLdL rfl rfl rfl rfl rfl) ?_
          refine jp rfl ?_
          refine jl_q rfl rfl (qLdL rfl rfl rfl rfl rfl) ?_
          refine jl_h rfl rfl (hCall rfl rfl rfl rfl rfl (by kernel_rfl) (put_spec s _ (.slice za z.val.length zc) root z Mp3 (hST.mono (hLz.trans hP3)) (hz.mono (hLz.trans hP3)) hkz)) ?_; rintro _ Mp4 _ ⟨hP4, _, rfl, ⟨hpt4, rfl⟩⟩
          obtain ⟨ba4, bn4, bc4, wa4, wn4, wc4, na4, nn4, nc4, la4, ln4, lc4, at4, e4, rfl, hq4⟩ := hpt4.form
          simp only [List.nil_append]
          iterate 4 refine jp rfl ?_
          refine jl_h rfl rfl (hAlloc rfl rfl) ?_; rintro _ _ _ ⟨b21, rfl, rfl, rfl⟩
          refine jl_s rfl (hStoreL rfl rfl rfl rfl rfl rfl rfl rfl) ?_; rintro _ _ _ ⟨rfl, rfl⟩
          iterate 2 refine jp rfl ?_
          refine jl_nil ?_
          refine jT ?_
          refine jc_seq ?_
          refine jc_seq ?_
          refine jc_region ?_
          refine jp rfl ?_
          refine js rfl (fun h121 => ?_) (fun h121 => ?_)
          ·iterate 4 refine jp rfl ?_
           refine jl_nil ?_
           refine jT ?_
           refine jc_yes rfl ?_
           refine jc_seq ?_
           refine jc_region ?_
           iterate 2 refine jp rfl ?_
           refine jl_nil ?_
           refine jT ?_
           refine jc_ret ?_
           refine jTr ?_
           refine jr1 rfl rfl ?_
           first | rfl | exact congrArg Value.bool (decide_eq_true rfl)
          ·iterate 2 refine jp rfl ?_
           refine js rfl (fun h124 => ?_) (fun h124 => ?_)
           ·refine jp rfl ?_
            refine jl_nil ?_
            refine jT ?_
            refine jc_yes rfl ?_
            refine jc_seq ?_
            refine jc_region ?_
            iterate 2 refine jp rfl ?_
            refine jl_nil ?_
            refine jT ?_
            refine jc_ret ?_
            refine jTr ?_
            refine jr1 rfl rfl ?_
            first | rfl | exact congrArg Value.bool (decide_eq_true rfl)
           ·refine jp rfl ?_
            refine jl_nil ?_
            refine jT ?_
            refine jc_no rfl ?_
            refine jc_skip ?_
            refine jT ?_
            refine jc_seq ?_
            obtain ⟨t3, hp3, hT3⟩ := PtPost.got hq3 (Classical.not_not.1 h121)
            obtain ⟨t4, hp4, hT4⟩ := PtPost.got hq4 (Classical.not_not.1 h124)
            have hg3 := put_good hg1.1 hkz hzr hp3
            have hg4 := put_good hg0 hkz hzr hp4
            have hl161 : (insL z (allR s root)).length ≤ 1000000 := by rw [← hg4.2]; have := allR_len t4 at4; omega
            have hl170 := hl101
            have hl151 : (insL z (insL x (allR s root))).length ≤ 1000000 := by rw [← hg1.2, ← hg3.2]; have := allR_len t3 at3; omega
            refine jc_region ?_
            refine jl_q rfl rfl (qLdL rfl rfl rfl rfl rfl) ?_
            refine jp rfl ?_
            refine jl_q rfl rfl (qLdL rfl rfl rfl rfl rfl) ?_
            refine jl_h rfl rfl (hCall rfl rfl rfl rfl rfl (by kernel_rfl) (put_spec t4 _ (.slice xa x.val.length xc) at4 x Mp4 hT4 (hx.mono (hLz.trans (hP3.trans hP4))) hkx)) ?_; rintro _ Mp5 _ ⟨hP5, _, rfl, ⟨hpt5, rfl⟩⟩
            obtain ⟨ba5, bn5, bc5, wa5, wn5, wc5, na5, nn5, nc5, la5, ln5, lc5, at5, e5, rfl, hq5⟩ := hpt5.form
            simp only [List.nil_append]
            iterate 4 refine jp rfl ?_
            refine jl_h rfl rfl (hAlloc rfl rfl) ?_; rintro _ _ _ ⟨b24, rfl, rfl, rfl⟩
            refine jl_s rfl (hStoreL rfl rfl rfl rfl rfl rfl rfl rfl) ?_; rintro _ _ _ ⟨rfl, rfl⟩
            iterate 2 refine jp rfl ?_
            refine jl_nil ?_
            refine jT ?_
            refine jc_seq ?_
            refine jc_seq ?_
            refine jc_region ?_
            refine jp rfl ?_
            refine js rfl (fun h136 => ?_) (fun h136 => ?_)
            ·refine jl_nil ?_
             refine jT ?_
             refine jc_yes rfl ?_
             refine jc_seq ?_
             refine jc_region ?_
             iterate 2 refine jp rfl ?_
             refine jl_nil ?_
             refine jT ?_
             refine jc_ret ?_
             refine jTr ?_
             refine jr1 rfl rfl ?_
             first | rfl | exact congrArg Value.bool (decide_eq_true rfl)
            ·refine jl_nil ?_
             refine jT ?_
             refine jc_no rfl ?_
             refine jc_skip ?_
             refine jT ?_
             refine jc_seq ?_
             refine jc_seq ?_
             obtain ⟨t5, hp5, hT5⟩ := PtPost.got hq5 (Classical.not_not.1 h136)
             have hg5 := put_good hg4.1 hkx hxr hp5
             refine jc_region ?_
             refine jl_q rfl rfl (qFieldAddr rfl rfl rfl rfl rfl) ?_
             refine jl_q rfl rfl (qLdL rfl rfl rfl rfl rfl) ?_
             refine jl_q rfl rfl (qFieldAddr rfl rfl rfl rfl rfl) ?_
             refine jl_q rfl rfl (qLdL rfl rfl rfl rfl rfl) ?_
             refine jl_qb rfl rfl (qNeI (ns := [x.key.kind, x.key.id, x.key.off]) (ms := [z.key.kind, z.key.id, z.key.off]) rfl rfl rfl rfl rfl rfl ⟨rfl, rfl⟩) (fun h142 => ?_) (fun h142 => ?_)
             ·refine jl_nil ?_
              refine jT ?_
              refine jc_yes rfl ?_
              refine jc_seq ?_
              have hne := keyD_ne h142
              refine jc_draw [(0, true), (1, true), (2, true), (3, true), (5, true), (6, true), (4, false), (7, false), (8, true), (9, true), (10, true)] _ (by kernel_rfl) (by kernel_rfl) (by kernel_rfl) rfl (fun _ h => h) ?_
              iterate 2 refine dp rfl rfl ?_
              refine jd_q rfl rfl rfl (qLdL rfl rfl rfl rfl rfl) ?_
              refine dp rfl rfl ?_
              refine jd_q rfl rfl rfl (qLdL rfl rfl rfl rfl rfl) ?_
              refine dp rfl rfl ?_
              refine jd_h rfl rfl rfl (hCall rfl rfl rfl rfl rfl (by kernel_rfl) (pall t3 _ at3 Mp5 (hT3.mono (hP4.trans hP5)))) ?_; rintro _ Mq3 _ ⟨hQ3, _, rfl, ⟨hnC, rfl⟩⟩
              refine ⟨_, _, hQ3, MLe.refl _, by simp, fun _ h => h, ?_⟩
              simp only [List.nil_append]
              rw [hg3.2, hg1.2] at hnC
              refine jd_h rfl rfl rfl (hCall rfl rfl rfl rfl rfl (by kernel_rfl) (pall t5 _ at5 Mq3 (hT5.mono hQ3))) ?_; rintro _ Mq4 _ ⟨hQ4, _, rfl, ⟨hnD, rfl⟩⟩
              refine ⟨_, _, hQ4, MLe.refl _, by simp, fun _ h => h, ?_⟩
              simp only [List.nil_append]
              rw [hg5.2, hg4.2, ← insL_comm hne] at hnD
              refine jd_q rfl rfl rfl (qCall rfl rfl rfl rfl rfl (by kernel_rfl) (psame (insL z (insL x (allR s root))) (insL z (insL x (allR s root))) _ _ Mq4 (hnC.mono hQ4) hnD hl151 hl151)) ?_
              iterate 2 refine dp rfl rfl ?_
              refine jd_nil ?_
              refine jPn ?_
              refine jT ?_
              refine jc_ret ?_
              refine jTr ?_
              refine jr1 rfl rfl ?_
              first | rfl | exact congrArg Value.bool (decide_eq_true rfl)
             ·refine jl_nil ?_
              refine jT ?_
              refine jc_no rfl ?_
              refine jc_skip ?_
              refine jT ?_
              refine jc_seq ?_
              have hke := keyD_eq h142
              refine jc_draw [(0, true), (1, true), (2, true), (3, true), (5, true), (6, true), (4, false), (7, false), (8, true), (9, true), (10, true), (11, true), (12, true), (14, true), (15, true), (13, false), (16, false), (17, true), (18, true), (19, true)] _ (by kernel_rfl) (by kernel_rfl) (by kernel_rfl) rfl (fun _ h => h) ?_
              iterate 2 refine dp rfl rfl ?_
              refine jd_q rfl rfl rfl (qLdL rfl rfl rfl rfl rfl) ?_
              refine dp rfl rfl ?_
              refine jd_q rfl rfl rfl (qLdL rfl rfl rfl rfl rfl) ?_
              refine dp rfl rfl ?_
              refine jd_h rfl rfl rfl (hCall rfl rfl rfl rfl rfl (by kernel_rfl) (pall t3 _ at3 Mp5 (hT3.mono (hP4.trans hP5)))) ?_; rintro _ Mq5 _ ⟨hQ5, _, rfl, ⟨hnC, rfl⟩⟩
              refine ⟨_, _, hQ5, MLe.refl _, by simp, fun _ h => h, ?_⟩
              simp only [List.nil_append]
              rw [hg3.2, hg1.2, insL_over hke] at hnC
              refine jd_h rfl rfl rfl (hCall rfl rfl rfl rfl rfl (by kernel_rfl) (pall t4 _ at4 Mq5 (hT4.mono (hP5.trans hQ5)))) ?_; rintro _ Mq6 _ ⟨hQ6, _, rfl, ⟨hnD, rfl⟩⟩
              refine ⟨_, _, hQ6, MLe.refl _, by simp, fun _ h => h, ?_⟩
              simp only [List.nil_append]
              rw [hg4.2] at hnD
              refine jd_q rfl rfl rfl (qEq (qCall rfl rfl rfl rfl rfl (by kernel_rfl) (psame (insL z (allR s root)) (insL z (allR s root)) _ _ Mq6 (hnC.mono hQ6) hnD hl161 hl161)) (v' := .bool true) (by simp)) ?_
              iterate 2 refine dp rfl rfl ?_
              refine jd_q rfl rfl rfl (qLdL rfl rfl rfl rfl rfl) ?_
              refine dp rfl rfl ?_
              refine jd_q rfl rfl rfl (qLdL rfl rfl rfl rfl rfl) ?_
              refine dp rfl rfl ?_
              refine jd_h rfl rfl rfl (hCall rfl rfl rfl rfl rfl (by kernel_rfl) (pall t5 _ at5 Mq6 (hT5.mono (hQ5.trans hQ6)))) ?_; rintro _ Mq7 _ ⟨hQ7, _, rfl, ⟨hnE, rfl⟩⟩
              refine ⟨_, _, hQ7, MLe.refl _, by simp, fun _ h => h, ?_⟩
              simp only [List.nil_append]
              rw [hg5.2, hg4.2, insL_over hke.symm] at hnE
              refine jd_h rfl rfl rfl (hCall rfl rfl rfl rfl rfl (by kernel_rfl) (pall t1 _ at1 Mq7 (hT1.mono (hMz.trans (hP3.trans (hP4.trans (hP5.trans (hQ5.trans (hQ6.trans hQ7))))))))) ?_; rintro _ Mq8 _ ⟨hQ8, _, rfl, ⟨hnF, rfl⟩⟩
              refine ⟨_, _, hQ8, MLe.refl _, by simp, fun _ h => h, ?_⟩
              simp only [List.nil_append]
              rw [hg1.2] at hnF
              refine jd_q rfl rfl rfl (qCall rfl rfl rfl rfl rfl (by kernel_rfl) (psame (insL x (allR s root)) (insL x (allR s root)) _ _ Mq8 (hnE.mono hQ8) hnF hl170 hl170)) ?_
              iterate 2 refine dp rfl rfl ?_
              refine jd_nil ?_
              refine jPn ?_
              refine jT ?_
              refine jc_ret ?_
              refine jr1 rfl rfl ?_
              first | rfl | exact congrArg Value.bool (decide_eq_true rfl)
         ·refine jc_seq ?_
          refine jc_draw [(0, true), (1, true), (2, true), (3, true), (4, true), (6, true), (7, true), (5, false), (8, false), (9, true), (10, true), (11, true)] _ (by kernel_rfl) (by kernel_rfl) (by kernel_rfl) rfl (fun _ h => h) ?_
          refine dp rfl rfl ?_
          refine ds rfl rfl (fun h93 => ?_) (fun h93 => ?_)
          ·refine dp rfl rfl ?_
           refine jd_q rfl rfl rfl (qLdL rfl rfl rfl rfl rfl) ?_
           refine dp rfl rfl ?_
           refine jd_q rfl rfl rfl (qLdL rfl rfl rfl rfl rfl) ?_
           refine dp rfl rfl ?_
           obtain ⟨t2, hp2, hT2⟩ := PtPost.got hq2 h93
           have hg2 := put_good hg1.1 hkx hxr hp2
           refine jd_h rfl rfl rfl (hCall rfl rfl rfl rfl rfl (by kernel_rfl) (pall t2 _ at2 Mp2 hT2)) ?_; rintro _ Mq1 _ ⟨hQ1, _, rfl, ⟨hnA, rfl⟩⟩
           refine ⟨_, _, hQ1, MLe.refl _, by simp, fun _ h => h, ?_⟩
           simp only [List.nil_append]
           rw [hg2.2, hg1.2, insL_over rfl] at hnA
           refine jd_h rfl rfl rfl (hCall rfl rfl rfl rfl rfl (by kernel_rfl) (pall t1 _ at1 Mq1 (hT1.mono (hP2.trans hQ1)))) ?_; rintro _ Mq2 _ ⟨hQ2, _, rfl, ⟨hnB, rfl⟩⟩
           refine ⟨_, _, hQ2, MLe.refl _, by simp, fun _ h => h, ?_⟩
           simp only [List.nil_append]
           rw [hg1.2] at hnB
           refine jd_q rfl rfl rfl (qEq (qCall rfl rfl rfl rfl rfl (by kernel_rfl) (psame (insL x (allR s root)) (insL x (allR s root)) _ _ Mq2 (hnA.mono hQ2) hnB hl101 hl101)) (v' := .bool true) (by simp)) ?_
           iterate 2 refine dp rfl rfl ?_
           refine jd_nil ?_
           refine jPn ?_
           refine jT ?_
           refine jc_no rfl ?_
           refine jc_skip ?_
           refine jq_drop (L' := [(b12, .cells [.slice ba1 bn1 bc1, .slice wa1 wn1 wc1, .slice na1 nn1 nc1, .slice la1 ln1 lc1].toArray TSt (0, 0)), (b7, .cells [.int .u8 z.key.kind, .int .u32 z.key.id, .int .u32 z.key.off, .int .i64 z.ref, .slice za z.val.length zc].toArray 44 (0, 0)), (b6, .cells [.int .u8 x.key.kind, .int .u32 x.key.id, .int .u32 x.key.off, .int .i64 x.ref, .slice xa x.val.length xc].toArray 44 (0, 0)), (b4, .cells [bv, wv, nv, lw].toArray TSt (0, 0))]) (by simp) ?_
           exact j_merge Mq2 (Keep.cons (t := 1) rfl (Keep.cons (t := 4) rfl (Keep.cons (t := 6) rfl (Keep.cons (t := 7) rfl (Keep.cons (t := 9) rfl (Keep.cons (t := 12) rfl (Keep.cons (t := 13) rfl Keep.nil))))))) (hP2.trans (hQ1.trans hQ2)) (fun _ h => h)
          ·iterate 5 refine dp rfl rfl ?_
           refine dk rfl rfl rfl rfl ?_
           refine dk rfl rfl rfl rfl ?_
           iterate 3 refine dp rfl rfl ?_
           refine jd_nil ?_
           refine jPn ?_
           refine jT ?_
           refine jc_no rfl ?_
           refine jc_skip ?_
           refine jq_drop (L' := [(b12, .cells [.slice ba1 bn1 bc1, .slice wa1 wn1 wc1, .slice na1 nn1 nc1, .slice la1 ln1 lc1].toArray TSt (0, 0)), (b7, .cells [.int .u8 z.key.kind, .int .u32 z.key.id, .int .u32 z.key.off, .int .i64 z.ref, .slice za z.val.length zc].toArray 44 (0, 0)), (b6, .cells [.int .u8 x.key.kind, .int .u32 x.key.id, .int .u32 x.key.off, .int .i64 x.ref, .slice xa x.val.length xc].toArray 44 (0, 0)), (b4, .cells [bv, wv, nv, lw].toArray TSt (0, 0))]) (by simp) ?_
           exact j_merge Mp2 (Keep.cons (t := 1) rfl (Keep.cons (t := 4) rfl (Keep.cons (t := 6) rfl (Keep.cons (t := 7) rfl (Keep.cons (t := 9) rfl (Keep.cons (t := 12) rfl (Keep.cons (t := 13) rfl Keep.nil))))))) hP2 (fun _ h => h)
       ·iterate 2 refine jp rfl ?_
        refine jl_nil ?_
        refine jT ?_
        refine jc_yes rfl ?_
        refine jc_seq ?_
        refine jc_region ?_
        iterate 2 refine jp rfl ?_
        refine jl_nil ?_
        refine jT ?_
        refine jc_ret ?_
        refine jTr ?_
        refine jr1 rfl rfl ?_
        first | rfl | exact congrArg Value.bool (decide_eq_true rfl)

end Go.Proofs.YtckdncmjkloebaaGreat
