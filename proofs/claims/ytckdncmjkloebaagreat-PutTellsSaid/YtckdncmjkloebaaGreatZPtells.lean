/- PutTells' function is walked. -/
import Derived.Test.YtckdncmjkloebaaGreatZPutr
namespace Go.Proofs.YtckdncmjkloebaaGreat
set_option linter.unusedVariables false
set_option linter.unusedSimpArgs false
set_option linter.unusedVariables false
open Go.RowKit

def heldG (r : Int) : List Int := if 8 ≤ r ∧ r < 256 then [r] else []
theorem heldG_rng (k : Int) : ∀ r ∈ heldG k, 0 ≤ r ∧ r < 256 := fun r hr => by
 unfold heldG at hr
 split at hr
 ·rw [List.mem_singleton.1 hr]; omega
 ·cases hr
theorem heldG_len (r : Int) : (heldG r).length ≤ 1 := by unfold heldG; split <;> simp
theorem heldG_is {x : It} (h : itChk x = 0) : heldG x.ref = heldF x.ref := by
 have := ref_of_chk h
 unfold heldG heldF
 by_cases h2 : 0 < x.ref
 ·rw [if_pos h2, if_pos (by omega)]
 ·rw [if_neg h2, if_neg (by omega)]
theorem ST.now_ {M : Mem} {bv wv lw : Value} {na : Option Addr} {nn nc : Nat} {s : Sto} (h : ST M (.agg #[bv, wv, .slice na nn nc, lw]) s) : nn = s.now.length ∧ SM M na (bcells s.now) := by
 obtain ⟨bv2, wv2, nv2, lw2, e0, g1, g2, g3, g4⟩ := h.ex
 simp only [Value.agg.injEq, Array.mk.injEq, List.cons.injEq, and_true] at e0
 obtain ⟨rfl, rfl, e1, rfl⟩ := e0
 obtain ⟨na2, nc2, rfl, _, h2⟩ := g3
 simp only [Value.slice.injEq] at e1
 obtain ⟨rfl, rfl, rfl⟩ := e1
 exact ⟨rfl, h2⟩
theorem new_facts {s : Sto} (h : dmE s 0 [] = 0) : allR (mkS s 0 []) ((mkAt (shareL s []) : Nat) : Int) = [] ∧ ((mkS s 0 []).now.getD (mkAt (shareL s [])) 0).toNat = 1 ∧ (mkS s 0 []).now.length = 256 ∧ mkAt (shareL s []) < 256 := by
 unfold dmE at h
 by_cases hst : stOk s
 ·rw [if_pos hst] at h
  obtain ⟨⟨h8, h256⟩, _, _, hnd, _⟩ := mk_nd (s := s) (lv := 0) (xs := []) hst (by decide) (fun _ h => by cases h) (fun _ h => by cases h) h
  have hl : (shareL s []).now.length = 256 := (shareL_same s []).1.trans hst.2.1.1
  refine ⟨?_, ?_, ?_, h256⟩
  ·unfold allR
   split
   ·unfold allT
    rw [Int.toNat_natCast, hnd, if_pos rfl]; rfl
   ·rfl
  ·show (((shareL s []).now.set (mkAt (shareL s [])) 1).getD (mkAt (shareL s [])) 0).toNat = 1
   rw [List.getD_eq_getElem?_getD, List.getElem?_set, if_pos rfl, if_pos (by omega)]; rfl
  ·show ((shareL s []).now.set (mkAt (shareL s [])) 1).length = 256
   rw [List.length_set, hl]
 ·rw [if_neg hst] at h; cases h
theorem keyE_ne {a b : Ky} (h : decide ([a.kind, a.id, a.off] = [b.kind, b.id, b.off]) = false) : a ≠ b := fun e => by subst e; exact (of_decide_eq_false h) rfl
theorem found_same {s t : Sto} {root now : Int} {q : Ky} {y1 y2 : It} {c1 c2 : Int} (h : fnd t now q = fnd s root q) (h1 : (fnd s root q = some y1 ∧ c1 = 0) ∨ (fnd s root q = none ∧ c1 = 6 ∧ y1 = zeroI)) (h2 : (fnd t now q = some y2 ∧ c2 = 0) ∨ (fnd t now q = none ∧ c2 = 6 ∧ y2 = zeroI)) : y1 = y2 ∧ c1 = c2 := by
 rw [h] at h2
 rcases h1 with ⟨a1, a2⟩ | ⟨a1, a2, a3⟩ <;> rcases h2 with ⟨b1, b2⟩ | ⟨b1, b2, b3⟩
 ·rw [a1] at b1; cases b1; exact ⟨rfl, a2.trans b2.symm⟩
 ·rw [a1] at b1; cases b1
 ·rw [a1] at b1; cases b1
 ·exact ⟨a3.trans b3.symm, a2.trans b2.symm⟩

set_option maxHeartbeats 8000000 in
theorem ptells_walk (s : Sto) (root : Int) (x : It) (q : Ky) (xv bv wv nv lw : Value) (M : Mem) (hST : ST M (.agg #[bv, wv, nv, lw]) s) (hx : BS M xv x.val) (hkx : keyOk x.key) :
  SpecL Tryz.prog 7 #[.agg #[bv, wv, nv, lw], .int .i64 root, .agg #[.int .u8 x.key.kind, .int .u32 x.key.id, .int .u32 x.key.off, .int .i64 x.ref, xv], .agg #[.int .u8 q.kind, .int .u32 q.id, .int .u32 q.off]] M [] fun u _ _ => u = .bool true := by
 obtain ⟨xa, xc, rfl, hxc, hxs⟩ := id hx
 refine spec_body (vs := [_, _, _, _]) 143 _ Tryz.func7 rfl Tryz.ntmps7 rfl rfl ?_; intro W
 refine jc_seq ?_
 refine jc_region ?_
 refine jl_h rfl rfl (hBox (cs := [_, _, _, _]) rfl rfl rfl rfl) ?_; rintro _ _ _ ⟨b4, rfl, rfl, rfl⟩
 refine jl_h rfl rfl (hBox (cs := [_, _, _, _, _]) rfl rfl rfl rfl) ?_; rintro _ _ _ ⟨b6, rfl, rfl, rfl⟩
 refine jl_h rfl rfl (hBox (cs := [_, _, _]) rfl rfl rfl rfl) ?_; rintro _ _ _ ⟨b7, rfl, rfl, rfl⟩
 refine jp rfl ?_
 refine jl_nil ?_
 refine jT ?_
 refine jc_seq ?_
 refine jc_region ?_
 refine jl_h rfl rfl (hCall rfl rfl rfl rfl rfl (by kernel_rfl) (palive M)) ?_; rintro _ M1 _ ⟨hM1, _, rfl, ⟨rfl, rfl⟩⟩
 simp only [List.nil_append]
 refine jp rfl ?_
 refine jl_nil ?_
 refine jT ?_
 refine jc_seq ?_
 refine jc_seq ?_
 refine jc_region ?_
 iterate 2 refine jp rfl ?_
 refine jl_nil ?_
 refine jT ?_
 refine jc_no rfl ?_
 refine jc_skip ?_
 refine jT ?_
 refine jc_seq ?_
 refine jc_seq ?_
 refine jc_region ?_
 refine jl_q rfl rfl (qLdL rfl rfl rfl rfl rfl) ?_
 refine jl_h rfl rfl (hCall rfl rfl rfl rfl rfl (by kernel_rfl) (great_spec s _ M1 (hST.mono hM1))) ?_; rintro _ M2 _ ⟨hM2, _, rfl, ⟨⟨bg, rfl⟩, rfl⟩⟩
 simp only [List.nil_append]
 have hL2 := hM1.trans hM2
 refine jl_nil ?_
 refine jT ?_
 refine jc_if rfl (fun h29 => ?_) (fun h29 => ?_)
 ·refine jc_seq ?_
  refine jc_region ?_
  iterate 2 refine jp rfl ?_
  refine jl_nil ?_
  refine jT ?_
  refine jc_ret ?_
  refine jTr ?_
  refine jr1 rfl rfl ?_
  first | rfl | exact congrArg Value.bool (decide_eq_true hsm.1)
 ·refine jc_skip ?_
  refine jT ?_
  refine jc_seq ?_
  refine jc_region ?_
  refine jl_q rfl rfl (qLdL rfl rfl rfl rfl rfl) ?_
  refine jl_h rfl rfl (hCall rfl rfl rfl rfl rfl (by kernel_rfl) (pnew_walk s _ _ _ _ M2 (hST.mono hL2))) ?_; rintro _ M3 _ ⟨hM3, _, rfl, ⟨hdm, rfl⟩⟩
  obtain ⟨ba0, bn0, bc0, wa0, wn0, wc0, na0, nn0, nc0, la0, ln0, lc0, at0, e0, rfl, hq0⟩ := hdm.form
  simp only [List.nil_append]
  have hL3 := hL2.trans hM3
  iterate 4 refine jp rfl ?_
  refine jl_h rfl rfl (hAlloc rfl rfl) ?_; rintro _ _ _ ⟨b10, rfl, rfl, rfl⟩
  refine jl_s rfl (hStoreL rfl rfl rfl rfl rfl rfl rfl rfl) ?_; rintro _ _ _ ⟨rfl, rfl⟩
  iterate 2 refine jp rfl ?_
  refine jl_nil ?_
  refine jT ?_
  refine jc_merge (α := Mem) (fun w => [(1, .int .i64 root), (4, .pointer (some ⟨b4, 0, none⟩)), (6, .pointer (some ⟨b6, 0, none⟩)), (7, .pointer (some ⟨b7, 0, none⟩)), (9, .bool true)]) (fun w => w) (fun _ => [(b7, .cells [.int .u8 q.kind, .int .u32 q.id, .int .u32 q.off].toArray 31 (0, 0)), (b6, .cells [.int .u8 x.key.kind, .int .u32 x.key.id, .int .u32 x.key.off, .int .i64 x.ref, .slice xa x.val.length xc].toArray 44 (0, 0)), (b4, .cells [bv, wv, nv, lw].toArray TSt (0, 0))]) (fun w => MLe M3 w) ?_ ?_
  ·rintro Mz hMz
   try dsimp only at hMz ⊢
   have hLz := hL3.trans hMz
   refine jc_seq ?_
   refine jc_region ?_
   refine jl_q rfl rfl (qLdL rfl rfl rfl rfl rfl) ?_
   refine jp rfl ?_
   refine jl_q rfl rfl (qCall rfl rfl rfl rfl rfl (by kernel_rfl) (fcheck_spec s _ root Mz (hST.mono hLz))) ?_
   iterate 5 refine jp rfl ?_
   refine jl_nil ?_
   refine jT ?_
   refine jc_seq ?_
   refine jc_region ?_
   refine jp rfl ?_
   refine jl_nil ?_
   refine jT ?_
   refine jc_merge (α := Mem × Value) (fun z => [(1, .int .i64 root), (4, .pointer (some ⟨b4, 0, none⟩)), (6, .pointer (some ⟨b6, 0, none⟩)), (7, .pointer (some ⟨b7, 0, none⟩)), (9, .bool true), (13, .int .i64 (fchk s root).1), (14, .int .i64 (fchk s root).2), (15, z.2)]) (fun z => z.1) (fun _ => [(b7, .cells [.int .u8 q.kind, .int .u32 q.id, .int .u32 q.off].toArray 31 (0, 0)), (b6, .cells [.int .u8 x.key.kind, .int .u32 x.key.id, .int .u32 x.key.off, .int .i64 x.ref, .slice xa x.val.length xc].toArray 44 (0, 0)), (b4, .cells [bv, wv, nv, lw].toArray TSt (0, 0))]) (fun z => MLe Mz z.1 ∧ IS z.1 z.2 (heldG x.ref)) ?_ ?_
   ·rintro ⟨My, v15⟩ ⟨hMy, hhd⟩
    try dsimp only at hMy hhd ⊢
    refine jc_seq ?_
    refine jc_seq ?_
    refine jc_region ?_
    refine jp rfl ?_
    refine js rfl (fun h74 => ?_) (fun h74 => ?_)
    ·iterate 8 refine jp rfl ?_
     refine jl_nil ?_
     refine jT ?_
     refine jc_yes rfl ?_
     refine jc_seq ?_
     refine jc_region ?_
     iterate 2 refine jp rfl ?_
     refine jl_nil ?_
     refine jT ?_
     refine jc_ret ?_
     refine jTr ?_
     refine jr1 rfl rfl ?_
     first | rfl | exact congrArg Value.bool (decide_eq_true hsm.1)
    ·refine jp rfl ?_
     refine jl_q rfl rfl (qLdL rfl rfl rfl rfl rfl) ?_
     refine jp rfl ?_
     refine jl_h rfl rfl (hBuildSliceM (cs := [_]) rfl rfl rfl (by rfl) (by rfl) (by rfl)) ?_; rintro _ M6 _ ⟨b78, rfl, rfl, hM6, e78⟩
     have hrt : IS M6 (.slice (some ⟨b78, 0, none⟩) 1 1) [root] := ⟨_, 1, rfl, Nat.le_refl _, SM.of_block e78⟩
     refine jp rfl ?_
     have hf1 : (fchk s root).2 = 0 := Classical.not_not.1 h74
     have hst := (fchk_ok hf1).1
     refine jl_h rfl rfl (hCall rfl rfl rfl rfl rfl (by kernel_rfl) (enough_two s [root] (heldG x.ref) _ _ _ M6 (hST.mono (hLz.trans (hMy.trans hM6))) hst hrt (by show 1 ≤ 100000; decide) (fun r hr => by rw [List.mem_singleton.1 hr]; exact hf1) (hhd.mono hM6) (by have := heldG_len x.ref; omega) (heldG_rng _))) ?_; rintro _ M7 _ ⟨hM7, R', rfl, hy⟩
     obtain ⟨rfl, hy⟩ := hy
     simp only [List.nil_append]
     have hL7 := hLz.trans (hMy.trans (hM6.trans hM7))
     rcases hy with ⟨rfl, hy⟩ | ⟨rfl, hy⟩
     ·iterate 2 refine jp rfl ?_
      refine jl_nil ?_
      refine jT ?_
      refine jc_no rfl ?_
      refine jc_skip ?_
      refine jT ?_
      refine jc_seq ?_
      refine jc_region ?_
      refine jl_q rfl rfl (qLdL rfl rfl rfl rfl rfl) ?_
      refine jp rfl ?_
      refine jl_q rfl rfl (qLdL rfl rfl rfl rfl rfl) ?_
      refine jl_h rfl rfl (hCall rfl rfl rfl rfl rfl (by kernel_rfl) (put_spec s _ (.slice xa x.val.length xc) root x M7 (hST.mono hL7) (hx.mono hL7) hkx)) ?_; rintro _ Mp _ ⟨hMp, _, rfl, ⟨hpt, rfl⟩⟩
      obtain ⟨ba, bn, bc, wa, wn, wc, na, nn, nc, la, ln, lc, at_, e, rfl, hq⟩ := hpt.form
      simp only [List.nil_append]
      have hLp := hL7.trans hMp
      iterate 4 refine jp rfl ?_
      refine jl_h rfl rfl (hAlloc rfl rfl) ?_; rintro _ _ _ ⟨b16, rfl, rfl, rfl⟩
      refine jl_s rfl (hStoreL rfl rfl rfl rfl rfl rfl rfl rfl) ?_; rintro _ _ _ ⟨rfl, rfl⟩
      iterate 2 refine jp rfl ?_
      refine jl_nil ?_
      refine jT ?_
      refine jc_seq ?_
      refine jc_seq ?_
      refine jc_region ?_
      refine jp rfl ?_
      refine js rfl (fun h93 => ?_) (fun h93 => ?_)
      ·refine jl_nil ?_
       refine jT ?_
       refine jc_yes rfl ?_
       refine jc_seq ?_
       refine jc_region ?_
       iterate 2 refine jp rfl ?_
       refine jl_nil ?_
       refine jT ?_
       refine jc_ret ?_
       refine jTr ?_
       refine jr1 rfl rfl ?_
       first | rfl | exact congrArg Value.bool (decide_eq_true hsm.1)
      ·refine jl_nil ?_
       refine jT ?_
       refine jc_no rfl ?_
       refine jc_skip ?_
       refine jT ?_
       refine jc_seq ?_
       obtain ⟨t, hput, hTT⟩ : ∃ t, putF s root x = .ok (t, at_) ∧ ST Mp (.agg #[.slice ba bn bc, .slice wa wn wc, .slice na nn nc, .slice la ln lc]) t := by
        rcases hq with ⟨h0, _⟩ | ⟨_, t, h2, h3, h4, h5, h6⟩
        ·exact absurd h0 h93
        ·exact ⟨t, h2, h5⟩
       have hask := put_ok_ask hput
       obtain ⟨_, hic, _⟩ := putAsk_ok hask
       rw [heldG_is hic] at hy
       obtain ⟨S, S2, hok⟩ : ∃ S S', PutOk s t root at_ x [] S S' := by
        rcases put_out (R := []) hst hf1 hic hkx hy (fun _ h => by cases h) with ⟨e', k1, k2⟩ | ⟨t', now, S, S', k1, k2, k3⟩
        ·rw [hput] at k1; cases k1
        ·rw [hput] at k1; cases k1; exact ⟨S, S', k2⟩
       refine jc_region ?_
       refine jl_q rfl rfl (qLdL rfl rfl rfl rfl rfl) ?_
       refine jp rfl ?_
       refine jl_q rfl rfl (qFieldAddr rfl rfl rfl rfl rfl) ?_
       refine jl_q rfl rfl (qLdL rfl rfl rfl rfl rfl) ?_
       refine jl_h rfl rfl (hCall rfl rfl rfl rfl rfl (by kernel_rfl) (find_spec t _ at_ x.key Mp hTT)) ?_; rintro _ Mf1 _ ⟨hF1, _, rfl, ⟨hfd1, rfl⟩⟩
       simp only [List.nil_append]
       obtain ⟨y1, yv1, code1, rfl, hyv1, hcode1⟩ := fdForm hfd1
       obtain ⟨ya1, yc1, rfl, hyc1, hys1⟩ := id hyv1
       have hc1 := hcode1 hok.chk
       rw [put_found hok hf1] at hc1
       obtain ⟨rfl, rfl⟩ : x = y1 ∧ code1 = 0 := by
        rcases hc1 with ⟨k1, k2⟩ | ⟨k1, _⟩
        ·cases k1; exact ⟨rfl, k2⟩
        ·cases k1
       iterate 3 refine jp rfl ?_
       refine jl_h rfl rfl (hAlloc rfl rfl) ?_; rintro _ _ _ ⟨b19, rfl, rfl, rfl⟩
       refine jl_s rfl (hStoreL rfl rfl rfl rfl rfl rfl rfl rfl) ?_; rintro _ _ _ ⟨rfl, rfl⟩
       refine jp rfl ?_
       refine jl_nil ?_
       refine jT ?_
       refine jc_seq ?_
       refine jc_region ?_
       refine jl_q rfl rfl (qLdL rfl rfl rfl rfl rfl) ?_
       refine jp rfl ?_
       refine jl_q rfl rfl (qLdL rfl rfl rfl rfl rfl) ?_
       refine jl_h rfl rfl (hCall rfl rfl rfl rfl rfl (by kernel_rfl) (find_spec s _ root q Mf1 (hST.mono (hLp.trans hF1)))) ?_; rintro _ Mf2 _ ⟨hF2, _, rfl, ⟨hfd2, rfl⟩⟩
       simp only [List.nil_append]
       obtain ⟨y2, yv2, code2, rfl, hyv2, hcode2⟩ := fdForm hfd2
       obtain ⟨ya2, yc2, rfl, hyc2, hys2⟩ := id hyv2
       iterate 3 refine jp rfl ?_
       refine jl_h rfl rfl (hAlloc rfl rfl) ?_; rintro _ _ _ ⟨b21, rfl, rfl, rfl⟩
       refine jl_s rfl (hStoreL rfl rfl rfl rfl rfl rfl rfl rfl) ?_; rintro _ _ _ ⟨rfl, rfl⟩
       refine jp rfl ?_
       refine jl_nil ?_
       refine jT ?_
       refine jc_seq ?_
       refine jc_region ?_
       refine jl_q rfl rfl (qLdL rfl rfl rfl rfl rfl) ?_
       refine jp rfl ?_
       refine jl_q rfl rfl (qLdL rfl rfl rfl rfl rfl) ?_
       refine jl_h rfl rfl (hCall rfl rfl rfl rfl rfl (by kernel_rfl) (find_spec t _ at_ q Mf2 (hTT.mono (hF1.trans hF2)))) ?_; rintro _ Mf3 _ ⟨hF3, _, rfl, ⟨hfd3, rfl⟩⟩
       simp only [List.nil_append]
       obtain ⟨y3, yv3, code3, rfl, hyv3, hcode3⟩ := fdForm hfd3
       obtain ⟨ya3, yc3, rfl, hyc3, hys3⟩ := id hyv3
       iterate 3 refine jp rfl ?_
       refine jl_h rfl rfl (hAlloc rfl rfl) ?_; rintro _ _ _ ⟨b23, rfl, rfl, rfl⟩
       refine jl_s rfl (hStoreL rfl rfl rfl rfl rfl rfl rfl rfl) ?_; rintro _ _ _ ⟨rfl, rfl⟩
       refine jp rfl ?_
       refine jl_nil ?_
       refine jT ?_
       refine jc_seq ?_
       refine jc_region ?_
       iterate 3 refine jp rfl ?_
       refine jt rfl (decide_eq_true (by omega)) ?_
       iterate 2 refine jp rfl ?_
       refine jl_q rfl rfl (qLdL rfl rfl rfl rfl rfl) ?_
       refine jl_q rfl rfl (qLdL rfl rfl rfl rfl rfl) ?_
       refine jl_q rfl rfl (qEq (qCall rfl rfl rfl rfl rfl (by kernel_rfl) (itsame_spec x x _ _ Mf3 (hx.mono (hLp.trans (hF1.trans (hF2.trans hF3)))) (hyv1.mono (hF2.trans hF3)))) (v' := .bool true) (by simp)) ?_
       iterate 2 refine jp rfl ?_
       refine jl_q rfl rfl (qLdL rfl rfl rfl rfl rfl) ?_
       refine jl_q rfl rfl (qFieldAddr rfl rfl rfl rfl rfl) ?_
       refine jl_q rfl rfl (qLdL rfl rfl rfl rfl rfl) ?_
       refine jl_qb rfl rfl (qEqI (ns := [q.kind, q.id, q.off]) (ms := [x.key.kind, x.key.id, x.key.off]) rfl rfl rfl rfl rfl rfl ⟨rfl, rfl⟩) (fun h131 => ?_) (fun h131 => ?_)
       ·iterate 12 refine jp rfl ?_
        refine jl_nil ?_
        refine jT ?_
        refine jc_ret ?_
        refine jr1 rfl rfl ?_
        first | rfl | exact congrArg Value.bool (decide_eq_true hsm.1)
       ·iterate 3 refine jp rfl ?_
        have hsm := found_same (put_others hok hf1 (keyE_ne h131)) (hcode2 hf1) (hcode3 hok.chk)
        refine jl_q rfl rfl (qEq (qP rfl rfl) (v' := .bool true) (by exact congrArg Value.bool (decide_eq_true hsm.2))) ?_
        refine jp rfl ?_
        refine jl_q rfl rfl (qLdL rfl rfl rfl rfl rfl) ?_
        refine jl_q rfl rfl (qLdL rfl rfl rfl rfl rfl) ?_
        refine jl_q rfl rfl (qCall rfl rfl rfl rfl rfl (by kernel_rfl) (itsame_spec y2 y3 _ _ Mf3 (hyv2.mono hF3) hyv3)) ?_
        iterate 4 refine jp rfl ?_
        refine jl_nil ?_
        refine jT ?_
        refine jc_ret ?_
        refine jr1 rfl rfl ?_
        first | rfl | exact congrArg Value.bool (decide_eq_true hsm.1)
     ·iterate 2 refine jp rfl ?_
      refine jl_nil ?_
      refine jT ?_
      refine jc_yes rfl ?_
      refine jc_seq ?_
      refine jc_region ?_
      iterate 2 refine jp rfl ?_
      refine jl_nil ?_
      refine jT ?_
      refine jc_ret ?_
      refine jTr ?_
      refine jr1 rfl rfl ?_
      first | rfl | exact congrArg Value.bool (decide_eq_true hsm.1)
   ·refine jc_seq ?_
    refine jc_region ?_
    refine jl_q rfl rfl (qFieldAddr rfl rfl rfl rfl rfl) ?_
    refine jl_q rfl rfl (qLd rfl rfl rfl rfl (CJ.loc rfl)) ?_
    refine js rfl (fun h62 => ?_) (fun h62 => ?_)
    ·refine jp rfl ?_
     refine jl_q rfl rfl (qFieldAddr rfl rfl rfl rfl rfl) ?_
     refine jl_q rfl rfl (qLd rfl rfl rfl rfl (CJ.loc rfl)) ?_
     refine js rfl (fun h66 => ?_) (fun h66 => ?_)
     ·refine jp rfl ?_
      refine jl_nil ?_
      refine jT ?_
      refine jc_yes rfl ?_
      refine jc_region ?_
      refine jp rfl ?_
      refine jl_q rfl rfl (qFieldAddr rfl rfl rfl rfl rfl) ?_
      refine jl_q rfl rfl (qLd rfl rfl rfl rfl (CJ.loc rfl)) ?_
      refine jl_h rfl rfl (hBuildSlice (cs := [_]) rfl rfl rfl (by rfl) (by rfl) (by rfl)) ?_; rintro _ _ _ ⟨b71, rfl, rfl, rfl⟩
      refine jl_h rfl rfl (hAppend (R := []) (n := 0) (m := 1) (xs := []) (news := [.int .i64 x.ref]) rfl rfl rfl rfl (Own.nil _ _) rfl (fun i v hv => CJ.loc (by simpa using hv)) rfl (by rfl) (by simp [Value.oneCell']) (by omega) (by omega)) ?_; rintro s' _ _ ⟨rfl, R', rfl, hown', _⟩
      obtain ⟨a3, c3, rfl⟩ := hown'.form
      refine jp rfl ?_
      refine jl_nil ?_
      refine jq_own hown' (fun _ _ => List.not_mem_nil) ?_
      intro Mx ax cx hMx ex hcx hsx
      cases ex
      refine jq_drop (L' := [(b7, .cells [.int .u8 q.kind, .int .u32 q.id, .int .u32 q.off].toArray 31 (0, 0)), (b6, .cells [.int .u8 x.key.kind, .int .u32 x.key.id, .int .u32 x.key.off, .int .i64 x.ref, .slice xa x.val.length xc].toArray 44 (0, 0)), (b4, .cells [bv, wv, nv, lw].toArray TSt (0, 0))]) (by simp) ?_
      have e9 : heldG x.ref = [x.ref] := if_pos (by omega)
      exact j_merge (Mx, .slice a3 1 c3) (Keep.cons (t := 1) rfl (Keep.cons (t := 4) rfl (Keep.cons (t := 6) rfl (Keep.cons (t := 7) rfl (Keep.cons (t := 9) rfl (Keep.cons (t := 13) rfl (Keep.cons (t := 14) rfl (Keep.cons (t := 15) rfl Keep.nil)))))))) ⟨hMx, by show IS _ _ (heldG x.ref); rw [e9]; exact ⟨a3, c3, rfl, hcx, by simpa [encZ] using hsx⟩⟩ (fun _ h => h)
     ·refine jp rfl ?_
      refine jl_nil ?_
      refine jT ?_
      refine jc_no rfl ?_
      refine jc_skip ?_
      have e9 : heldG x.ref = [] := if_neg (by omega)
      exact j_merge (Mz, .slice none 0 0) (Keep.cons (t := 1) rfl (Keep.cons (t := 4) rfl (Keep.cons (t := 6) rfl (Keep.cons (t := 7) rfl (Keep.cons (t := 9) rfl (Keep.cons (t := 13) rfl (Keep.cons (t := 14) rfl (Keep.cons (t := 15) rfl Keep.nil)))))))) ⟨MLe.refl _, by show IS _ _ (heldG x.ref); rw [e9]; exact IS.nil⟩ (fun _ h => h)
    ·iterate 5 refine jp rfl ?_
     refine jl_nil ?_
     refine jT ?_
     refine jc_no rfl ?_
     refine jc_skip ?_
     have e9 : heldG x.ref = [] := if_neg (by omega)
     exact j_merge (Mz, .slice none 0 0) (Keep.cons (t := 1) rfl (Keep.cons (t := 4) rfl (Keep.cons (t := 6) rfl (Keep.cons (t := 7) rfl (Keep.cons (t := 9) rfl (Keep.cons (t := 13) rfl (Keep.cons (t := 14) rfl (Keep.cons (t := 15) rfl Keep.nil)))))))) ⟨MLe.refl _, by show IS _ _ (heldG x.ref); rw [e9]; exact IS.nil⟩ (fun _ h => h)
  ·refine jc_seq ?_
   refine jc_region ?_
   refine jp rfl ?_
   refine js rfl (fun h38 => ?_) (fun h38 => ?_)
   ·refine jp rfl ?_
    refine jl_q rfl rfl (qLdL rfl rfl rfl rfl rfl) ?_
    refine jp rfl ?_
    obtain ⟨hd0, hat0, hnn0, hT10⟩ : dmE s 0 [] = 0 ∧ at0 = (mkAt (shareL s []) : Int) ∧ nn0 = (mkS s 0 []).now.length ∧ ST M3 (.agg #[.slice ba0 bn0 bc0, .slice wa0 wn0 wc0, .slice na0 nn0 nc0, .slice la0 ln0 lc0]) (mkS s 0 []) := by
     rcases hq0 with ⟨h0, _⟩ | ⟨_, k1, k2, k3, k4, _⟩
     ·exact absurd h38 h0
     ·exact ⟨k1, k2, k3, k4⟩
    obtain ⟨w1, w2, w3, w4⟩ := new_facts hd0
    refine jl_h rfl rfl (hCall rfl rfl rfl rfl rfl (by kernel_rfl) (pall (mkS s 0 []) _ at0 M3 hT10)) ?_; rintro _ M4 _ ⟨hM4, _, rfl, ⟨hnA, rfl⟩⟩
    simp only [List.nil_append]
    rw [hat0, w1] at hnA
    obtain ⟨aa, ac, aps, rfl, _⟩ := hnA
    obtain ⟨_, hnow0⟩ := (hT10.mono hM4).now_
    obtain ⟨sb, so, e9, hnx⟩ := hnow0.open (by intro e; have := congrArg List.length e; rw [bcells_len, List.length_nil] at this; omega)
    subst e9
    have hl0 : ([] : List It).length = 0 := rfl
    have hv1 : ((mkS s 0 []).now.getD at0.toNat 0).toNat = 1 := by rw [hat0, Int.toNat_natCast]; exact w2
    refine jl_q rfl rfl (qLen rfl rfl rfl) ?_
    refine jf rfl (decide_eq_false (by omega)) ?_
    refine jp rfl ?_
    refine jl_q rfl rfl (qFieldAddr rfl rfl rfl rfl rfl) ?_
    refine jl_q rfl rfl (qLd rfl rfl rfl rfl (CJ.loc rfl)) ?_
    refine jp rfl ?_
    refine jl_q rfl rfl (qIdxS rfl rfl rfl rfl (by omega)) ?_
    refine jl_q rfl rfl (qLd rfl rfl rfl rfl ((hnx _ _ (by rw [Nat.mul_one]; exact bget (j := at0.toNat) (by omega))).cj _)) ?_
    refine jf rfl (decide_eq_false (by omega)) ?_
    iterate 2 refine jp rfl ?_
    refine jl_nil ?_
    refine jT ?_
    refine jc_no rfl ?_
    refine jc_skip ?_
    refine jq_drop (L' := [(b7, .cells [.int .u8 q.kind, .int .u32 q.id, .int .u32 q.off].toArray 31 (0, 0)), (b6, .cells [.int .u8 x.key.kind, .int .u32 x.key.id, .int .u32 x.key.off, .int .i64 x.ref, .slice xa x.val.length xc].toArray 44 (0, 0)), (b4, .cells [bv, wv, nv, lw].toArray TSt (0, 0))]) (by simp) ?_
    exact j_merge M4 (Keep.cons (t := 1) rfl (Keep.cons (t := 4) rfl (Keep.cons (t := 6) rfl (Keep.cons (t := 7) rfl (Keep.cons (t := 9) rfl Keep.nil))))) hM4 (fun _ h => h)
   ·iterate 15 refine jp rfl ?_
    refine jl_nil ?_
    refine jT ?_
    refine jc_no rfl ?_
    refine jc_skip ?_
    refine jq_drop (L' := [(b7, .cells [.int .u8 q.kind, .int .u32 q.id, .int .u32 q.off].toArray 31 (0, 0)), (b6, .cells [.int .u8 x.key.kind, .int .u32 x.key.id, .int .u32 x.key.off, .int .i64 x.ref, .slice xa x.val.length xc].toArray 44 (0, 0)), (b4, .cells [bv, wv, nv, lw].toArray TSt (0, 0))]) (by simp) ?_
    exact j_merge M3 (Keep.cons (t := 1) rfl (Keep.cons (t := 4) rfl (Keep.cons (t := 6) rfl (Keep.cons (t := 7) rfl (Keep.cons (t := 9) rfl Keep.nil))))) (MLe.refl _) (fun _ h => h)

end Go.Proofs.YtckdncmjkloebaaGreat
