/- PutCounts' function is walked. -/
import Derived.Test.YtckdncmjkloebaaGreatZPutr
namespace Go.Proofs.YtckdncmjkloebaaGreat
set_option linter.unusedVariables false
set_option linter.unusedSimpArgs false
set_option linter.unusedVariables false
open Go.RowKit

set_option maxHeartbeats 8000000 in
theorem pcounts_walk (s : Sto) (root : Int) (x : It) (xv bv wv nv lw : Value) (M : Mem) (hST : ST M (.agg #[bv, wv, nv, lw]) s) (hx : BS M xv x.val) (hkx : keyOk x.key) :
  SpecL Tryz.prog 6 #[.agg #[bv, wv, nv, lw], .int .i64 root, .agg #[.int .u8 x.key.kind, .int .u32 x.key.id, .int .u32 x.key.off, .int .i64 x.ref, xv]] M [] fun u _ _ => u = .bool true := by
 obtain ⟨xa, xc, rfl, hxc, hxs⟩ := id hx
 refine spec_body (vs := [_, _, _]) 127 _ Tryz.func6 rfl Tryz.ntmps6 rfl rfl ?_; intro W
 refine jc_seq ?_
 refine jc_region ?_
 refine jl_h rfl rfl (hBox (cs := [_, _, _, _]) rfl rfl rfl rfl) ?_; rintro _ _ _ ⟨b3, rfl, rfl, rfl⟩
 refine jl_h rfl rfl (hBox (cs := [_, _, _, _, _]) rfl rfl rfl rfl) ?_; rintro _ _ _ ⟨b5, rfl, rfl, rfl⟩
 refine jp rfl ?_
 refine jl_nil ?_
 refine jT ?_
 refine jc_seq ?_
 refine jc_region ?_
 refine jl_h rfl rfl (hCall rfl rfl rfl rfl rfl (by kernel_rfl) (palive M)) ?_; rintro _ M1 _ ⟨hM1, _, rfl, ⟨rfl, rfl⟩⟩
 simp only [List.nil_append]
 refine jp rfl ?_
 refine jl_nil ?_
 refine jT ?_
 refine jc_seq ?_
 refine jc_seq ?_
 refine jc_region ?_
 refine jl_q rfl rfl (qLdL rfl rfl rfl rfl rfl) ?_
 refine jl_h rfl rfl (hCall rfl rfl rfl rfl rfl (by kernel_rfl) (great_spec s _ M1 (hST.mono hM1))) ?_; rintro _ M2 _ ⟨hM2, _, rfl, ⟨⟨bg, rfl⟩, rfl⟩⟩
 simp only [List.nil_append]
 have hL2 := hM1.trans hM2
 refine jsb rfl (fun h22 => ?_) (fun h22 => ?_)
 ·iterate 9 refine jp rfl ?_
  refine jl_nil ?_
  refine jT ?_
  refine jc_yes rfl ?_
  refine jc_seq ?_
  refine jc_region ?_
  iterate 2 refine jp rfl ?_
  refine jl_nil ?_
  refine jT ?_
  refine jc_ret ?_
  refine jTr ?_
  refine jr1 rfl rfl ?_
  first | rfl | exact congrArg Value.bool (decide_eq_true (by omega)) | exact congrArg Value.bool (decide_eq_true (by rw [hpl, hmore]; split <;> rfl))
 ·iterate 4 refine jp rfl ?_
  refine jl_q rfl rfl (qFieldAddr rfl rfl rfl rfl rfl) ?_
  refine jl_q rfl rfl (qLd rfl rfl rfl rfl (CJ.loc rfl)) ?_
  refine jl_q rfl rfl (qLen rfl rfl rfl) ?_
  refine js rfl (fun h30 => ?_) (fun h30 => ?_)
  ·refine jp rfl ?_
   refine jl_nil ?_
   refine jT ?_
   refine jc_yes rfl ?_
   refine jc_seq ?_
   refine jc_region ?_
   iterate 2 refine jp rfl ?_
   refine jl_nil ?_
   refine jT ?_
   refine jc_ret ?_
   refine jTr ?_
   refine jr1 rfl rfl ?_
   first | rfl | exact congrArg Value.bool (decide_eq_true (by omega)) | exact congrArg Value.bool (decide_eq_true (by rw [hpl, hmore]; split <;> rfl))
  ·refine jp rfl ?_
   refine jl_nil ?_
   refine jT ?_
   refine jc_no rfl ?_
   refine jc_skip ?_
   refine jT ?_
   refine jc_seq ?_
   refine jc_region ?_
   refine jl_q rfl rfl (qLdL rfl rfl rfl rfl rfl) ?_
   refine jp rfl ?_
   refine jl_q rfl rfl (qCall rfl rfl rfl rfl rfl (by kernel_rfl) (fcheck_spec s _ root M2 (hST.mono hL2))) ?_
   iterate 5 refine jp rfl ?_
   refine jl_nil ?_
   refine jT ?_
   refine jc_seq ?_
   refine jc_region ?_
   refine jl_q rfl rfl (qLdL rfl rfl rfl rfl rfl) ?_
   refine jp rfl ?_
   refine jl_q rfl rfl (qFieldAddr rfl rfl rfl rfl rfl) ?_
   refine jl_q rfl rfl (qLdL rfl rfl rfl rfl rfl) ?_
   refine jl_h rfl rfl (hCall rfl rfl rfl rfl rfl (by kernel_rfl) (find_spec s _ root x.key M2 (hST.mono hL2))) ?_; rintro _ M3 _ ⟨hM3, _, rfl, ⟨hfd, rfl⟩⟩
   simp only [List.nil_append]
   obtain ⟨y, yv, code, rfl, hyv, hcode⟩ := fdForm hfd
   obtain ⟨ya, yc, rfl, hyc, hys⟩ := id hyv
   have hL3 := hL2.trans hM3
   iterate 3 refine jp rfl ?_
   refine jl_h rfl rfl (hAlloc rfl rfl) ?_; rintro _ _ _ ⟨b10, rfl, rfl, rfl⟩
   refine jl_s rfl (hStoreL rfl rfl rfl rfl rfl rfl rfl rfl) ?_; rintro _ _ _ ⟨rfl, rfl⟩
   refine jp rfl ?_
   refine jl_nil ?_
   refine jT ?_
   refine jc_seq ?_
   refine jc_region ?_
   refine jl_q rfl rfl (qLdL rfl rfl rfl rfl rfl) ?_
   refine jp rfl ?_
   refine jl_q rfl rfl (qLdL rfl rfl rfl rfl rfl) ?_
   refine jl_h rfl rfl (hCall rfl rfl rfl rfl rfl (by kernel_rfl) (put_spec s _ (.slice xa x.val.length xc) root x M3 (hST.mono hL3) (hx.mono hL3) hkx)) ?_; rintro _ Mp _ ⟨hMp, _, rfl, ⟨hpt, rfl⟩⟩
   obtain ⟨ba, bn, bc, wa, wn, wc, na, nn, nc, la, ln, lc, at_, e, rfl, hq⟩ := hpt.form
   simp only [List.nil_append]
   have hLp := hL3.trans hMp
   iterate 4 refine jp rfl ?_
   refine jl_h rfl rfl (hAlloc rfl rfl) ?_; rintro _ _ _ ⟨b12, rfl, rfl, rfl⟩
   refine jl_s rfl (hStoreL rfl rfl rfl rfl rfl rfl rfl rfl) ?_; rintro _ _ _ ⟨rfl, rfl⟩
   iterate 2 refine jp rfl ?_
   refine jl_nil ?_
   refine jT ?_
   refine jc_seq ?_
   refine jc_seq ?_
   refine jc_region ?_
   refine jp rfl ?_
   refine js rfl (fun h56 => ?_) (fun h56 => ?_)
   ·refine jl_nil ?_
    refine jT ?_
    refine jc_yes rfl ?_
    refine jc_seq ?_
    have hE : at_ = 0 ∧ nn = 0 := by
     rcases hq with ⟨_, _, h3, h4⟩ | ⟨h0, _⟩
     ·exact ⟨h3, h4⟩
     ·exact absurd h0 h56
    refine jc_region ?_
    iterate 3 refine jp rfl ?_
    refine jt rfl (decide_eq_true (by omega)) ?_
    iterate 2 refine jp rfl ?_
    refine jl_q rfl rfl (qFieldAddr rfl rfl rfl rfl rfl) ?_
    refine jl_q rfl rfl (qLd rfl rfl rfl rfl (CJ.loc rfl)) ?_
    refine jl_q rfl rfl (qLen rfl rfl rfl) ?_
    iterate 3 refine jp rfl ?_
    refine jl_nil ?_
    refine jT ?_
    refine jc_ret ?_
    refine jTr ?_
    refine jr1 rfl rfl ?_
    first | rfl | exact congrArg Value.bool (decide_eq_true (by omega)) | exact congrArg Value.bool (decide_eq_true (by rw [hpl, hmore]; split <;> rfl))
   ·refine jl_nil ?_
    refine jT ?_
    refine jc_no rfl ?_
    refine jc_skip ?_
    refine jT ?_
    refine jc_seq ?_
    obtain ⟨t, hput, hnn, hwn, hTT, htok⟩ : ∃ t, putF s root x = .ok (t, at_) ∧ nn = t.now.length ∧ wn = t.waits.length ∧ ST Mp (.agg #[.slice ba bn bc, .slice wa wn wc, .slice na nn nc, .slice la ln lc]) t ∧ stOk t := by
     rcases hq with ⟨h0, _⟩ | ⟨_, t, h2, h3, h4, h5, h6⟩
     ·exact absurd h0 h56
     ·exact ⟨t, h2, h3, h4, h5, h6⟩
    have hask := put_ok_ask hput
    obtain ⟨hf1, hic, _⟩ := putAsk_ok hask
    have hst := (fchk_ok hf1).1
    have hx0 := ref_of_chk hic
    refine jc_region ?_
    refine jp rfl ?_
    refine jl_nil ?_
    refine jT ?_
    refine jc_merge (α := Mem × Value) (fun z => [(1, .int .i64 root), (3, .pointer (some ⟨b3, 0, none⟩)), (5, .pointer (some ⟨b5, 0, none⟩)), (7, .bool true), (8, .int .i64 (fchk s root).1), (9, .int .i64 (fchk s root).2), (11, .int .i64 code), (12, .pointer (some ⟨b12, 0, none⟩)), (13, .int .i64 at_), (15, z.2)]) (fun z => z.1) (fun _ => [(b12, .cells [.slice ba bn bc, .slice wa wn wc, .slice na nn nc, .slice la ln lc].toArray TSt (0, 0)), (b10, .cells [.int .u8 y.key.kind, .int .u32 y.key.id, .int .u32 y.key.off, .int .i64 y.ref, .slice ya y.val.length yc].toArray 44 (0, 0)), (b5, .cells [.int .u8 x.key.kind, .int .u32 x.key.id, .int .u32 x.key.off, .int .i64 x.ref, .slice xa x.val.length xc].toArray 44 (0, 0)), (b3, .cells [bv, wv, nv, lw].toArray TSt (0, 0))]) (fun z => MLe Mp z.1 ∧ IS z.1 z.2 (heldF x.ref)) ?_ ?_
    ·rintro ⟨M4, v15⟩ ⟨hM4, hhd⟩
     try dsimp only at hM4 hhd ⊢
     refine jc_seq ?_
     refine jc_seq ?_
     refine jc_region ?_
     refine jp rfl ?_
     refine jf rfl (decide_eq_false (by omega)) ?_
     refine jl_nil ?_
     refine jT ?_
     refine jc_no rfl ?_
     refine jc_skip ?_
     refine jT ?_
     refine jc_seq ?_
     refine jc_seq ?_
     refine jc_region ?_
     refine jl_q rfl rfl (qLdL rfl rfl rfl rfl rfl) ?_
     refine jp rfl ?_
     refine jl_h rfl rfl (hBuildSliceM (cs := [_]) rfl rfl rfl (by rfl) (by rfl) (by rfl)) ?_; rintro _ M5 _ ⟨b85, rfl, rfl, hM5, e85⟩
     have hrt : IS M5 (.slice (some ⟨b85, 0, none⟩) 1 1) [root] := ⟨_, 1, rfl, Nat.le_refl _, SM.of_block e85⟩
     refine jp rfl ?_
     refine jl_h rfl rfl (hCall rfl rfl rfl rfl rfl (by kernel_rfl) (enough_two s [root] (heldF x.ref) _ _ _ M5 (hST.mono (hLp.trans (hM4.trans hM5))) hst hrt (by show 1 ≤ 100000; decide) (fun r hr => by rw [List.mem_singleton.1 hr]; exact hf1) (hhd.mono hM5) (by have := heldF_len x.ref; omega) (heldF_rng hic))) ?_; rintro _ M6 _ ⟨hM6, R', rfl, hy⟩
     obtain ⟨rfl, hy⟩ := hy
     simp only [List.nil_append]
     rcases hy with ⟨rfl, hy⟩ | ⟨rfl, hy⟩
     ·refine jp rfl ?_
      refine jl_nil ?_
      refine jT ?_
      refine jc_no rfl ?_
      refine jc_skip ?_
      refine jT ?_
      refine jc_seq ?_
      obtain ⟨S, S2, hok⟩ : ∃ S S', PutOk s t root at_ x [] S S' := by
       rcases put_out (R := []) hst hf1 hic hkx hy (fun _ h => by cases h) with ⟨e', k1, k2⟩ | ⟨t', now, S, S', k1, k2, k3⟩
       ·rw [hput] at k1; cases k1
       ·rw [hput] at k1; cases k1; exact ⟨S, S', k2⟩
      refine jc_region ?_
      refine jl_q rfl rfl (qLdL rfl rfl rfl rfl rfl) ?_
      refine jp rfl ?_
      refine jl_q rfl rfl (qCall rfl rfl rfl rfl rfl (by kernel_rfl) (fcheck_spec t _ at_ M6 (hTT.mono (hM4.trans (hM5.trans hM6))))) ?_
      iterate 5 refine jp rfl ?_
      refine jl_nil ?_
      refine jT ?_
      refine jc_seq ?_
      refine jc_region ?_
      refine jp rfl ?_
      refine jl_nil ?_
      refine jT ?_
      refine jc_merge (α := Int) (fun z => [(3, .pointer (some ⟨b3, 0, none⟩)), (1, .int .i64 root), (7, .bool true), (8, .int .i64 (fchk s root).1), (12, .pointer (some ⟨b12, 0, none⟩)), (13, .int .i64 at_), (16, .int .i64 (fchk t at_).1), (17, .int .i64 (fchk t at_).2), (18, .int .i64 z)]) (fun _ => M6) (fun _ => [(b12, .cells [.slice ba bn bc, .slice wa wn wc, .slice na nn nc, .slice la ln lc].toArray TSt (0, 0)), (b3, .cells [bv, wv, nv, lw].toArray TSt (0, 0))]) (fun z => z = if fnd s root x.key = none then 1 else 0) ?_ ?_
      ·rintro more hmore
       try dsimp only at hmore ⊢
       have hmb : 0 ≤ more ∧ more ≤ 1 := by rw [hmore]; split <;> omega
       refine jc_seq ?_
       have hpl := put_len hok hf1
       have hhi := hok.high
       have hch := hok.chk
       have ha1 := allR_len t at_
       have ha2 := allR_len s root
       have hlv := fchk_lv hf1
       refine jc_draw [(0, true), (1, true), (2, true), (3, true), (4, true), (5, true), (6, true), (7, true), (8, true), (9, true), (10, true), (11, true), (12, true), (13, true), (14, true), (15, true), (16, true), (17, true), (18, true), (21, true), (22, true), (25, true), (19, false), (20, true), (23, false), (24, true), (26, true), (27, true), (28, true), (29, true)] _ (by kernel_rfl) (by kernel_rfl) (by kernel_rfl) rfl (fun _ h => h) ?_
       iterate 3 refine dp rfl rfl ?_
       refine dt rfl rfl (decide_eq_true (by omega)) ?_
       iterate 4 refine dp rfl rfl ?_
       refine dt rfl rfl (decide_eq_true (by omega)) ?_
       iterate 4 refine dp rfl rfl ?_
       refine da rfl rfl (by omega) ?_
       refine dt rfl rfl (decide_eq_true (by omega)) ?_
       iterate 2 refine dp rfl rfl ?_
       refine jd_q rfl rfl rfl (qLdL rfl rfl rfl rfl rfl) ?_
       refine dp rfl rfl ?_
       refine jd_q rfl rfl rfl (qLdL rfl rfl rfl rfl rfl) ?_
       iterate 2 refine dp rfl rfl ?_
       refine jd_h rfl rfl rfl (hCall rfl rfl rfl rfl rfl (by kernel_rfl) (pall t _ at_ M6 (hTT.mono (hM4.trans (hM5.trans hM6))))) ?_; rintro _ M7 _ ⟨hM7, _, rfl, ⟨hnA, rfl⟩⟩
       refine ⟨_, _, hM7, MLe.refl _, by simp, fun _ h => h, ?_⟩
       simp only [List.nil_append]
       obtain ⟨aa, ac, aps, rfl, _⟩ := hnA
       refine jd_q rfl rfl rfl (qLen rfl rfl rfl) ?_
       refine jd_h rfl rfl rfl (hCall rfl rfl rfl rfl rfl (by kernel_rfl) (pall s _ root M7 (hST.mono (hLp.trans (hM4.trans (hM5.trans (hM6.trans hM7))))))) ?_; rintro _ M8 _ ⟨hM8, _, rfl, ⟨hnB, rfl⟩⟩
       refine ⟨_, _, hM8, MLe.refl _, by simp, fun _ h => h, ?_⟩
       simp only [List.nil_append]
       obtain ⟨ca, cc, cps, rfl, _⟩ := hnB
       refine jd_q rfl rfl rfl (qLen rfl rfl rfl) ?_
       refine da rfl rfl (by omega) ?_
       iterate 3 refine dp rfl rfl ?_
       refine jd_nil ?_
       refine jPn ?_
       refine jT ?_
       refine jc_ret ?_
       refine jr1 rfl rfl ?_
       first | rfl | exact congrArg Value.bool (decide_eq_true (by omega)) | exact congrArg Value.bool (decide_eq_true (by rw [hpl, hmore]; split <;> rfl))
      ·refine jc_seq ?_
       refine jc_region ?_
       refine jp rfl ?_
       refine js rfl (fun h97 => ?_) (fun h97 => ?_)
       ·refine jl_nil ?_
        refine jT ?_
        refine jc_yes rfl ?_
        refine jc_region ?_
        refine jp rfl ?_
        refine jl_nil ?_
        refine jq_drop (L' := [(b12, .cells [.slice ba bn bc, .slice wa wn wc, .slice na nn nc, .slice la ln lc].toArray TSt (0, 0)), (b3, .cells [bv, wv, nv, lw].toArray TSt (0, 0))]) (by simp) ?_
        have hm : (1 : Int) = if fnd s root x.key = none then 1 else 0 := by
         rcases hcode hf1 with ⟨k1, k2⟩ | ⟨k1, k2, _⟩
         ·exfalso; omega
         ·rw [if_pos k1]
        exact j_merge 1 (Keep.cons (t := 3) rfl (Keep.cons (t := 1) rfl (Keep.cons (t := 7) rfl (Keep.cons (t := 8) rfl (Keep.cons (t := 12) rfl (Keep.cons (t := 13) rfl (Keep.cons (t := 16) rfl (Keep.cons (t := 17) rfl (Keep.cons (t := 18) rfl Keep.nil))))))))) hm (fun _ h => h)
       ·refine jl_nil ?_
        refine jT ?_
        refine jc_no rfl ?_
        refine jc_skip ?_
        refine jq_drop (L' := [(b12, .cells [.slice ba bn bc, .slice wa wn wc, .slice na nn nc, .slice la ln lc].toArray TSt (0, 0)), (b3, .cells [bv, wv, nv, lw].toArray TSt (0, 0))]) (by simp) ?_
        have hm : (0 : Int) = if fnd s root x.key = none then 1 else 0 := by
         rcases hcode hf1 with ⟨k1, k2⟩ | ⟨k1, k2, _⟩
         ·rw [if_neg (by rw [k1]; exact fun e => by cases e)]
         ·exfalso; omega
        exact j_merge 0 (Keep.cons (t := 3) rfl (Keep.cons (t := 1) rfl (Keep.cons (t := 7) rfl (Keep.cons (t := 8) rfl (Keep.cons (t := 12) rfl (Keep.cons (t := 13) rfl (Keep.cons (t := 16) rfl (Keep.cons (t := 17) rfl (Keep.cons (t := 18) rfl Keep.nil))))))))) hm (fun _ h => h)
     ·refine jp rfl ?_
      refine jl_nil ?_
      refine jT ?_
      refine jc_yes rfl ?_
      refine jc_seq ?_
      refine jc_region ?_
      iterate 2 refine jp rfl ?_
      refine jl_nil ?_
      refine jT ?_
      refine jc_ret ?_
      refine jTr ?_
      refine jr1 rfl rfl ?_
      first | rfl | exact congrArg Value.bool (decide_eq_true (by omega)) | exact congrArg Value.bool (decide_eq_true (by rw [hpl, hmore]; split <;> rfl))
    ·refine jc_seq ?_
     refine jc_region ?_
     refine jl_q rfl rfl (qFieldAddr rfl rfl rfl rfl rfl) ?_
     refine jl_q rfl rfl (qLd rfl rfl rfl rfl (CJ.loc rfl)) ?_
     refine js rfl (fun h70 => ?_) (fun h70 => ?_)
     ·refine jp rfl ?_
      refine jl_q rfl rfl (qFieldAddr rfl rfl rfl rfl rfl) ?_
      refine jl_q rfl rfl (qLd rfl rfl rfl rfl (CJ.loc rfl)) ?_
      refine js rfl (fun h74 => ?_) (fun h74 => ?_)
      ·refine jp rfl ?_
       refine jl_nil ?_
       refine jT ?_
       refine jc_yes rfl ?_
       refine jc_region ?_
       refine jp rfl ?_
       refine jl_q rfl rfl (qFieldAddr rfl rfl rfl rfl rfl) ?_
       refine jl_q rfl rfl (qLd rfl rfl rfl rfl (CJ.loc rfl)) ?_
       refine jl_h rfl rfl (hBuildSlice (cs := [_]) rfl rfl rfl (by rfl) (by rfl) (by rfl)) ?_; rintro _ _ _ ⟨b79, rfl, rfl, rfl⟩
       refine jl_h rfl rfl (hAppend (R := []) (n := 0) (m := 1) (xs := []) (news := [.int .i64 x.ref]) rfl rfl rfl rfl (Own.nil _ _) rfl (fun i v hv => CJ.loc (by simpa using hv)) rfl (by rfl) (by simp [Value.oneCell']) (by omega) (by omega)) ?_; rintro s' _ _ ⟨rfl, R', rfl, hown', _⟩
       obtain ⟨a3, c3, rfl⟩ := hown'.form
       refine jp rfl ?_
       refine jl_nil ?_
       refine jq_own hown' (fun _ _ => List.not_mem_nil) ?_
       intro Mx ax cx hMx ex hcx hsx
       cases ex
       refine jq_drop (L' := [(b12, .cells [.slice ba bn bc, .slice wa wn wc, .slice na nn nc, .slice la ln lc].toArray TSt (0, 0)), (b10, .cells [.int .u8 y.key.kind, .int .u32 y.key.id, .int .u32 y.key.off, .int .i64 y.ref, .slice ya y.val.length yc].toArray 44 (0, 0)), (b5, .cells [.int .u8 x.key.kind, .int .u32 x.key.id, .int .u32 x.key.off, .int .i64 x.ref, .slice xa x.val.length xc].toArray 44 (0, 0)), (b3, .cells [bv, wv, nv, lw].toArray TSt (0, 0))]) (by simp) ?_
       have e9 : heldF x.ref = [x.ref] := if_pos (by omega)
       exact j_merge (Mx, .slice a3 1 c3) (Keep.cons (t := 1) rfl (Keep.cons (t := 3) rfl (Keep.cons (t := 5) rfl (Keep.cons (t := 7) rfl (Keep.cons (t := 8) rfl (Keep.cons (t := 9) rfl (Keep.cons (t := 11) rfl (Keep.cons (t := 12) rfl (Keep.cons (t := 13) rfl (Keep.cons (t := 15) rfl Keep.nil)))))))))) ⟨hMx, by show IS _ _ (heldF x.ref); rw [e9]; exact ⟨a3, c3, rfl, hcx, by simpa [encZ] using hsx⟩⟩ (fun _ h => h)
      ·refine jp rfl ?_
       refine jl_nil ?_
       refine jT ?_
       refine jc_no rfl ?_
       refine jc_skip ?_
       have e9 : heldF x.ref = [] := if_neg (by omega)
       exact j_merge (Mp, .slice none 0 0) (Keep.cons (t := 1) rfl (Keep.cons (t := 3) rfl (Keep.cons (t := 5) rfl (Keep.cons (t := 7) rfl (Keep.cons (t := 8) rfl (Keep.cons (t := 9) rfl (Keep.cons (t := 11) rfl (Keep.cons (t := 12) rfl (Keep.cons (t := 13) rfl (Keep.cons (t := 15) rfl Keep.nil)))))))))) ⟨MLe.refl _, by show IS _ _ (heldF x.ref); rw [e9]; exact IS.nil⟩ (fun _ h => h)
     ·iterate 5 refine jp rfl ?_
      refine jl_nil ?_
      refine jT ?_
      refine jc_no rfl ?_
      refine jc_skip ?_
      have e9 : heldF x.ref = [] := if_neg (by omega)
      exact j_merge (Mp, .slice none 0 0) (Keep.cons (t := 1) rfl (Keep.cons (t := 3) rfl (Keep.cons (t := 5) rfl (Keep.cons (t := 7) rfl (Keep.cons (t := 8) rfl (Keep.cons (t := 9) rfl (Keep.cons (t := 11) rfl (Keep.cons (t := 12) rfl (Keep.cons (t := 13) rfl (Keep.cons (t := 15) rfl Keep.nil)))))))))) ⟨MLe.refl _, by show IS _ _ (heldF x.ref); rw [e9]; exact IS.nil⟩ (fun _ h => h)

end Go.Proofs.YtckdncmjkloebaaGreat
