/- PutItems' function is walked. -/
import Derived.Test.YtckdncmjkloebaaGreatZPutq
namespace Go.Proofs.YtckdncmjkloebaaGreat
set_option linter.unusedVariables false
set_option linter.unusedSimpArgs false
set_option linter.unusedVariables false
open Go.RowKit

theorem snoc_all {M : Mem} {ps : List (It × Value)} {y : It} {v : Value} (h : ∀ p ∈ ps, BS M p.2 p.1.val) (hy : BS M v y.val) : ∀ p ∈ ps ++ [(y, v)], BS M p.2 p.1.val := fun p hp => by
 rcases List.mem_append.1 hp with hp | hp
 ·exact h p hp
 ·rw [List.mem_singleton.1 hp]; exact hy
theorem Wnt.len {x : It} {l : List It} {i : Nat} {p : Bool} {acc : List It} (h : Wnt x l i p acc) : acc.length ≤ i + (if p then 1 else 0) := by
 cases p
 ·obtain ⟨_, rfl⟩ := h.1 rfl
  rw [List.length_take]; simp; omega
 ·obtain ⟨_, rfl⟩ := h.2 rfl
  obtain ⟨⟨z, hz, hzx⟩, _⟩ := h.2 rfl
  have h1 : ∀ A : List It, (insL x A).length ≤ A.length + 1 := fun A => by
   unfold insL
   induction A with
   | nil => simp
   | cons a A ih =>
    rw [List.filter_cons, List.filter_cons]
    have hor : ¬ (kless a.key x.key = true ∧ kless x.key a.key = true) := fun ⟨k1, k2⟩ => by rw [kl_kle k1] at k2; cases k2
    simp only [List.length_append, List.length_cons] at ih ⊢
    split <;> split <;> simp_all <;> omega
  have := h1 (l.take i)
  rw [List.length_take] at this
  simp only [if_true]
  omega

set_option maxHeartbeats 8000000 in
theorem pitems_walk (s : Sto) (root other : Int) (x : It) (xv bv wv nv lw : Value) (M : Mem) (hST : ST M (.agg #[bv, wv, nv, lw]) s) (hx : BS M xv x.val) (hkx : keyOk x.key) :
  SpecL Tryz.prog 4 #[.agg #[bv, wv, nv, lw], .int .i64 root, .int .i64 other, .agg #[.int .u8 x.key.kind, .int .u32 x.key.id, .int .u32 x.key.off, .int .i64 x.ref, xv]] M [] fun u _ _ => u = .bool true := by
 obtain ⟨bv2, wv2, nv2, lw2, e0, g1, g2, g3, g4⟩ := hST.ex
 simp only [Value.agg.injEq, Array.mk.injEq, List.cons.injEq, and_true] at e0
 obtain ⟨rfl, rfl, rfl, rfl⟩ := e0
 obtain ⟨wa0, wc0, wps0, rfl, _⟩ := id g2
 have hx1 : xv.oneCell' = true := by obtain ⟨xa, xc, rfl, _⟩ := hx; rfl
 refine spec_body (vs := [_, _, _, _]) 184 _ Tryz.func4 rfl Tryz.ntmps4 rfl rfl ?_; intro W
 refine jc_seq ?_
 refine jc_region ?_
 refine jl_h rfl rfl (hBox (cs := [_, _, _, _]) rfl rfl rfl rfl) ?_; rintro _ _ _ ⟨b4, rfl, rfl, rfl⟩
 refine jl_h rfl rfl (hBox (cs := [_, _, _, _, _]) rfl rfl rfl rfl) ?_; rintro _ _ _ ⟨b7, rfl, rfl, rfl⟩
 refine jp rfl ?_
 refine jl_nil ?_
 refine jT ?_
 refine jc_seq ?_
 refine jc_region ?_
 refine jl_h rfl rfl (hCall rfl rfl rfl rfl rfl (by kernel_rfl) (palive M)) ?_; rintro _ M1 _ ⟨hM1, _, rfl, ⟨rfl, rfl⟩⟩
 simp only [List.nil_append]
 refine jp rfl ?_
 refine jl_nil ?_
 refine jT ?_
 refine jc_seq ?_
 refine jc_seq ?_
 refine jc_region ?_
 iterate 2 refine jp rfl ?_
 refine jl_nil ?_
 refine jT ?_
 refine jc_no rfl ?_
 refine jc_skip ?_
 refine jT ?_
 refine jc_seq ?_
 refine jc_region ?_
 refine jl_q rfl rfl (qLdL rfl rfl rfl rfl rfl) ?_
 refine jp rfl ?_
 refine jl_q rfl rfl (qCall rfl rfl rfl rfl rfl (by kernel_rfl) (fcheck_spec s _ root M1 (hST.mono hM1))) ?_
 iterate 5 refine jp rfl ?_
 refine jl_nil ?_
 refine jT ?_
 refine jc_seq ?_
 refine jc_region ?_
 refine jl_q rfl rfl (qLdL rfl rfl rfl rfl rfl) ?_
 refine jp rfl ?_
 refine jl_q rfl rfl (qCall rfl rfl rfl rfl rfl (by kernel_rfl) (fcheck_spec s _ other M1 (hST.mono hM1))) ?_
 iterate 5 refine jp rfl ?_
 refine jl_nil ?_
 refine jT ?_
 refine jc_seq ?_
 refine jc_seq ?_
 refine jc_region ?_
 refine jl_q rfl rfl (qLdL rfl rfl rfl rfl rfl) ?_
 refine jl_h rfl rfl (hCall rfl rfl rfl rfl rfl (by kernel_rfl) (great_spec s _ M1 (hST.mono hM1))) ?_; rintro _ M2 _ ⟨hM2, _, rfl, ⟨⟨bg, rfl⟩, rfl⟩⟩
 simp only [List.nil_append]
 have hL2 := hM1.trans hM2
 refine jsb rfl (fun h39 => ?_) (fun h39 => ?_)
 ·iterate 12 refine jp rfl ?_
  refine jl_nil ?_
  refine jT ?_
  refine jc_yes rfl ?_
  refine jc_seq ?_
  refine jc_region ?_
  iterate 2 refine jp rfl ?_
  refine jl_nil ?_
  refine jT ?_
  refine jc_ret ?_
  refine jTr ?_
  refine jr1 rfl rfl ?_
  first | rfl | exact congrArg Value.bool (decide_eq_true (by omega))
 ·refine jp rfl ?_
  refine js rfl (fun h41 => ?_) (fun h41 => ?_)
  ·iterate 10 refine jp rfl ?_
   refine jl_nil ?_
   refine jT ?_
   refine jc_yes rfl ?_
   refine jc_seq ?_
   refine jc_region ?_
   iterate 2 refine jp rfl ?_
   refine jl_nil ?_
   refine jT ?_
   refine jc_ret ?_
   refine jTr ?_
   refine jr1 rfl rfl ?_
   first | rfl | exact congrArg Value.bool (decide_eq_true (by omega))
  ·iterate 3 refine jp rfl ?_
   refine js rfl (fun h45 => ?_) (fun h45 => ?_)
   ·iterate 6 refine jp rfl ?_
    refine jl_nil ?_
    refine jT ?_
    refine jc_yes rfl ?_
    refine jc_seq ?_
    refine jc_region ?_
    iterate 2 refine jp rfl ?_
    refine jl_nil ?_
    refine jT ?_
    refine jc_ret ?_
    refine jTr ?_
    refine jr1 rfl rfl ?_
    first | rfl | exact congrArg Value.bool (decide_eq_true (by omega))
   ·iterate 2 refine jp rfl ?_
    refine jl_q rfl rfl (qLdL rfl rfl rfl rfl rfl) ?_
    refine jl_q rfl rfl (qCall rfl rfl rfl rfl rfl (by kernel_rfl) (itcheck_spec x xv M2 (hx.mono hL2))) ?_
    refine js rfl (fun h50 => ?_) (fun h50 => ?_)
    ·refine jp rfl ?_
     refine jl_nil ?_
     refine jT ?_
     refine jc_yes rfl ?_
     refine jc_seq ?_
     refine jc_region ?_
     iterate 2 refine jp rfl ?_
     refine jl_nil ?_
     refine jT ?_
     refine jc_ret ?_
     refine jTr ?_
     refine jr1 rfl rfl ?_
     first | rfl | exact congrArg Value.bool (decide_eq_true (by omega))
    ·refine jp rfl ?_
     refine jl_nil ?_
     refine jT ?_
     refine jc_no rfl ?_
     refine jc_skip ?_
     refine jT ?_
     refine jc_seq ?_
     refine jc_region ?_
     refine jp rfl ?_
     refine jl_nil ?_
     refine jT ?_
     refine jc_merge (α := Mem × Value) (fun z => [(1, .int .i64 root), (2, .int .i64 other), (4, .pointer (some ⟨b4, 0, none⟩)), (7, .pointer (some ⟨b7, 0, none⟩)), (9, .bool true), (10, .int .i64 (fchk s root).1), (14, z.2)]) (fun z => z.1) (fun _ => [(b7, .cells [.int .u8 x.key.kind, .int .u32 x.key.id, .int .u32 x.key.off, .int .i64 x.ref, xv].toArray 44 (0, 0)), (b4, .cells [bv, .slice wa0 s.waits.length wc0, nv, lw].toArray TSt (0, 0))]) (fun z => MLe M2 z.1 ∧ IS z.1 z.2 (heldF x.ref)) ?_ ?_
     ·rintro ⟨M3, v14⟩ ⟨hM3, hhd⟩
      try dsimp only at hM3 hhd ⊢
      refine jc_seq ?_
      refine jc_seq ?_
      refine jc_region ?_
      refine jl_q rfl rfl (qLdL rfl rfl rfl rfl rfl) ?_
      iterate 2 refine jp rfl ?_
      refine jl_h rfl rfl (hBuildSliceM (cs := [_, _]) rfl rfl rfl (by rfl) (by rfl) (by rfl)) ?_; rintro _ M4 _ ⟨b64, rfl, rfl, hM4, e64⟩
      have hrt : IS M4 (.slice (some ⟨b64, 0, none⟩) 2 2) [root, other] := ⟨_, 2, rfl, Nat.le_refl _, SM.of_block e64⟩
      refine jp rfl ?_
      have hf1 : (fchk s root).2 = 0 := Classical.not_not.1 h41
      have hf2 : (fchk s other).2 = 0 := Classical.not_not.1 h45
      have hic : itChk x = 0 := Classical.not_not.1 h50
      have hst := (fchk_ok hf1).1
      have hlv := fchk_lv hf1
      have hL4 := hL2.trans (hM3.trans hM4)
      refine jl_h rfl rfl (hCall rfl rfl rfl rfl rfl (by kernel_rfl) (enough_two s [root, other] (heldF x.ref) _ _ _ M4 (hST.mono hL4) hst hrt (by show 2 ≤ 100000; decide) (two_all hf1 hf2) (hhd.mono hM4) (by have := heldF_len x.ref; omega) (heldF_rng hic))) ?_; rintro _ M5 _ ⟨hM5, R', rfl, hy⟩
      obtain ⟨rfl, hy⟩ := hy
      simp only [List.nil_append]
      rcases hy with ⟨rfl, hy⟩ | ⟨rfl, hy⟩
      ·refine jp rfl ?_
       refine jl_nil ?_
       refine jT ?_
       refine jc_no rfl ?_
       refine jc_skip ?_
       refine jT ?_
       refine jc_seq ?_
       refine jc_region ?_
       refine jl_q rfl rfl (qLdL rfl rfl rfl rfl rfl) ?_
       refine jp rfl ?_
       refine jl_q rfl rfl (qLdL rfl rfl rfl rfl rfl) ?_
       have hL5 := hL4.trans hM5
       have hpl := put_out (R := [other]) hst hf1 hic hkx hy (fun r hr => by rw [List.mem_singleton.1 hr]; exact hf2)
       refine jl_h rfl rfl (hCall rfl rfl rfl rfl rfl (by kernel_rfl) (put_spec s _ xv root x M5 (hST.mono hL5) (hx.mono hL5) hkx)) ?_; rintro _ Mp _ ⟨hMp, _, rfl, ⟨hpt, rfl⟩⟩
       obtain ⟨ba, bn, bc, wa, wn, wc, na, nn, nc, la, ln, lc, at_, e, rfl, hq⟩ := hpt.form
       simp only [List.nil_append]
       have hLp := hL5.trans hMp
       iterate 4 refine jp rfl ?_
       refine jl_h rfl rfl (hAlloc rfl rfl) ?_; rintro _ _ _ ⟨b15, rfl, rfl, rfl⟩
       refine jl_s rfl (hStoreL rfl rfl rfl rfl rfl rfl rfl rfl) ?_; rintro _ _ _ ⟨rfl, rfl⟩
       iterate 2 refine jp rfl ?_
       refine jl_nil ?_
       refine jT ?_
       refine jc_seq ?_
       refine jc_seq ?_
       refine jc_region ?_
       refine jp rfl ?_
       refine js rfl (fun h78 => ?_) (fun h78 => ?_)
       ·refine jl_nil ?_
        refine jT ?_
        refine jc_yes rfl ?_
        refine jc_seq ?_
        have hE : (e = 9 ∨ e = 70 ∨ e = 120) ∧ nn = 0 := by
         rcases hq with ⟨_, h2, _, h4⟩ | ⟨h0, _⟩
         ·rcases hpl with ⟨e', k1, k2⟩ | ⟨t, now, S, S', k1, _⟩
          ·rw [k1] at h2; cases h2; exact ⟨k2, h4⟩
          ·rw [k1] at h2; cases h2
         ·exact absurd h0 h78
        refine jc_region ?_
        iterate 2 refine jp rfl ?_
        refine jl_q rfl rfl (qFieldAddr rfl rfl rfl rfl rfl) ?_
        refine jl_q rfl rfl (qLd rfl rfl rfl rfl (CJ.loc rfl)) ?_
        refine jl_q rfl rfl (qLen rfl rfl rfl) ?_
        refine jt rfl (decide_eq_true (by omega)) ?_
        iterate 3 refine jp rfl ?_
        refine js rfl (fun h88 => ?_) (fun h88 => ?_)
        ·iterate 10 refine jp rfl ?_
         refine jl_nil ?_
         refine jT ?_
         refine jc_ret ?_
         refine jTr ?_
         refine jr1 rfl rfl ?_
         first | rfl | exact congrArg Value.bool (decide_eq_true (by omega))
        ·iterate 2 refine jp rfl ?_
         refine js rfl (fun h91 => ?_) (fun h91 => ?_)
         ·iterate 7 refine jp rfl ?_
          refine jl_nil ?_
          refine jT ?_
          refine jc_ret ?_
          refine jTr ?_
          refine jr1 rfl rfl ?_
          first | rfl | exact congrArg Value.bool (decide_eq_true (by omega))
         ·iterate 7 refine jp rfl ?_
          refine jl_nil ?_
          refine jT ?_
          refine jc_ret ?_
          refine jTr ?_
          refine jr1 rfl rfl ?_
          first | rfl | exact congrArg Value.bool (decide_eq_true (by omega))
       ·refine jl_nil ?_
        refine jT ?_
        refine jc_no rfl ?_
        refine jc_skip ?_
        refine jT ?_
        refine jc_seq ?_
        obtain ⟨t, S, S2, hok, hRS, hnn, hwn, hTT, htok⟩ : ∃ t S S', PutOk s t root at_ x [other] S S' ∧ (∀ r ∈ [other], r.toNat ∈ S) ∧ nn = t.now.length ∧ wn = t.waits.length ∧ ST Mp (.agg #[.slice ba bn bc, .slice wa wn wc, .slice na nn nc, .slice la ln lc]) t ∧ stOk t := by
         rcases hq with ⟨h0, _⟩ | ⟨_, t, h2, h3, h4, h5, h6⟩
         ·exact absurd h0 h78
         ·rcases hpl with ⟨e', k1, k2⟩ | ⟨t', now, S, S', k1, k2, k3⟩
          ·rw [k1] at h2; cases h2
          ·rw [k1] at h2; cases h2; exact ⟨t, S, S', k2, k3, h3, h4, h5, h6⟩
        refine jc_region ?_
        refine jp rfl ?_
        refine jl_nil ?_
        refine jT ?_
        refine jc_seq ?_
        refine jc_region ?_
        refine jl_q rfl rfl (qLdL rfl rfl rfl rfl rfl) ?_
        refine jp rfl ?_
        refine jl_h rfl rfl (hCall rfl rfl rfl rfl rfl (by kernel_rfl) (pall s _ root Mp (hST.mono hLp))) ?_; rintro _ Ma _ ⟨hMa, _, rfl, ⟨hns, rfl⟩⟩
        simp only [List.nil_append]
        have hLa := hLp.trans hMa
        have hsrt := allR_srt hf1
        have hll := allR_len s root
        obtain ⟨l, hl⟩ : ∃ l, l = allR s root := ⟨_, rfl⟩
        rw [← hl] at hns hsrt hll
        obtain ⟨ga, gc, gps, rfl, hgc, hgs, hgp, hgb⟩ := hns
        refine jp rfl ?_
        refine jl_nil ?_
        refine jT ?_
        refine jc_seq ?_
        refine jc_region ?_
        refine jp rfl ?_
        refine jl_nil ?_
        refine jT ?_
        refine jc_seq ?_
        refine jc_seq ?_
        refine jc_region ?_
        refine jp rfl ?_
        refine jl_nil ?_
        refine jT ?_
        refine jc_block ?_
        refine jc_loopK (α := Nat × Bool × Lc × List (It × Value) × Value) (fun z => [(2, .int .i64 other), (4, .pointer (some ⟨b4, 0, none⟩)), (7, .pointer (some ⟨b7, 0, none⟩)), (9, .bool true), (10, .int .i64 (fchk s root).1), (15, .pointer (some ⟨b15, 0, none⟩)), (16, .int .i64 at_), (18, z.2.2.2.2), (19, .slice ga l.length gc), (20, .bool z.2.1), (21, .int .i64 (z.1 : Int))]) (fun _ => Ma) (fun z => (b15, .cells [.slice ba bn bc, .slice wa wn wc, .slice na nn nc, .slice la ln lc].toArray TSt (0, 0)) :: (b7, .cells [.int .u8 x.key.kind, .int .u32 x.key.id, .int .u32 x.key.off, .int .i64 x.ref, xv].toArray 44 (0, 0)) :: (b4, .cells [bv, .slice wa0 s.waits.length wc0, nv, lw].toArray TSt (0, 0)) :: z.2.2.1) (fun z => z.1 ≤ l.length ∧ Own z.2.2.2.2 z.2.2.1 IT 5 z.2.2.2.1.length (z.2.2.2.1.flatMap icell) ∧ (∀ p ∈ z.2.2.2.1, BS Ma p.2 p.1.val) ∧ Wnt x l z.1 z.2.1 (z.2.2.2.1.map (·.1)) ∧ z.2.2.2.1.length ≤ z.1 + 1) (fun z => l.length - z.1)
         (0, false, [], [], .slice none 0 0) (Keep.cons (t := 2) rfl (Keep.cons (t := 4) rfl (Keep.cons (t := 7) rfl (Keep.cons (t := 9) rfl (Keep.cons (t := 10) rfl (Keep.cons (t := 15) rfl (Keep.cons (t := 16) rfl (Keep.cons (t := 18) rfl (Keep.cons (t := 19) rfl (Keep.cons (t := 20) rfl (Keep.cons (t := 21) rfl Keep.nil))))))))))) ⟨Nat.zero_le _, Own.nil _ _, (fun _ h => by cases h), Wnt.start _ _, by simp⟩ (fun _ h => h) ?_
        rintro ⟨i, p, R, ps, v⟩ ⟨hi, hown, hpb, hW, hpl1⟩
        try dsimp only at hi hown hpb hW hpl1 ⊢
        obtain ⟨a0, c0, rfl⟩ := hown.form
        have hpl0 : p = false → ps.length ≤ i := fun e => by have := hW.len; rw [e, List.length_map] at this; simpa using this
        refine jc_seq ?_
        refine jc_seq ?_
        refine jc_region ?_
        iterate 2 refine jp rfl ?_
        refine jl_q rfl rfl (qLen rfl rfl rfl) ?_
        refine js rfl (fun h104 => ?_) (fun h104 => ?_)
        ·refine jl_nil ?_
         refine jT ?_
         refine jc_yes rfl ?_
         refine jc_skip ?_
         refine jT ?_
         refine jc_seq ?_
         refine jc_block ?_
         refine jc_seq ?_
         refine jc_seq ?_
         have hi1 : i < l.length := idx_lt3 h104
         obtain ⟨gb, go_, e0, hgx⟩ := hgs.open (by intro e; have := congrArg List.length e; rw [flat_len icell 5 icell_len, List.length_nil] at this; have h2 := congrArg List.length hgp; rw [List.length_map] at h2; omega)
         subst e0
         obtain ⟨va, vc, hcl, hvc, hvs⟩ := items_get hgx hgp hgb hi1
         refine jc_draw [(0, true), (1, true), (2, true), (3, true), (4, true), (5, true), (6, true), (7, true), (8, true), (9, true), (10, true), (11, true), (12, true)] _ (by kernel_rfl) (by kernel_rfl) (by kernel_rfl) rfl (fun _ h => h) ?_
         refine jd_qb rfl rfl rfl (qP rfl rfl) (fun h107 => ?_) (fun h107 => ?_)
         ·iterate 12 refine dp rfl rfl ?_
          refine jd_nil ?_
          refine jPn ?_
          refine jT ?_
          refine jc_no rfl ?_
          refine jc_skip ?_
          refine jT ?_
          refine jc_seq ?_
          refine jc_draw [(0, true), (1, true), (2, true), (3, true), (4, true), (5, true), (6, true), (7, true)] _ (by kernel_rfl) (by kernel_rfl) (by kernel_rfl) rfl (fun _ h => h) ?_
          iterate 2 refine dp rfl rfl ?_
          refine jd_q rfl rfl rfl (qIdxS rfl rfl rfl rfl (by omega)) ?_
          refine jd_q rfl rfl rfl (qFieldAddr rfl rfl rfl rfl rfl) ?_
          refine jd_q rfl rfl rfl (qLdA (cs := kcells l[i].key) rfl rfl rfl rfl rfl (fun i v hv => (hcl i v (key_itc hv)).cj _)) ?_
          refine jd_q rfl rfl rfl (qFieldAddr rfl rfl rfl rfl rfl) ?_
          refine jd_q rfl rfl rfl (qLdL rfl rfl rfl rfl rfl) ?_
          refine jd_qb rfl rfl rfl (qNeI (ns := [l[i].key.kind, l[i].key.id, l[i].key.off]) (ms := [x.key.kind, x.key.id, x.key.off]) rfl rfl rfl rfl rfl rfl ⟨rfl, rfl⟩) (fun h131 => ?_) (fun h131 => ?_)
          ·refine jd_nil ?_
           refine jPn ?_
           refine jT ?_
           refine jc_yes rfl ?_
           refine jc_region ?_
           iterate 3 refine jp rfl ?_
           refine jl_q rfl rfl (qIdxS rfl rfl rfl rfl (by omega)) ?_
           refine jl_q rfl rfl (qLdA (cs := itc l[i] va vc) rfl rfl rfl rfl rfl (fun i v hv => (hcl i v hv).cj _)) ?_
           refine jl_h rfl rfl (hBuildSlice (cs := [_, _, _, _, _]) rfl rfl rfl (by rfl) (by rfl) (by rfl)) ?_; rintro _ _ _ ⟨b137, rfl, rfl, rfl⟩
           refine jl_h rfl rfl (hAppend (R := R) (n := ps.length) (m := 1) (xs := ps.flatMap icell) rfl rfl rfl rfl hown rfl (fun i v hv => CJ.loc (by simpa using hv)) rfl (by rfl) (by simp [Value.oneCell']) (by omega) (by omega)) ?_; rintro s' _ _ ⟨rfl, R2, rfl, hown2, _⟩
           obtain ⟨a2, ca2, rfl⟩ := hown2.form
           refine jl_weak (M' := Ma) (L' := (b15, .cells [.slice ba bn bc, .slice wa wn wc, .slice na nn nc, .slice la ln lc].toArray TSt (0, 0)) :: (b7, .cells [.int .u8 x.key.kind, .int .u32 x.key.id, .int .u32 x.key.off, .int .i64 x.ref, xv].toArray 44 (0, 0)) :: (b4, .cells [bv, .slice wa0 s.waits.length wc0, nv, lw].toArray TSt (0, 0)) :: R2) (fun w h => h.dropAt.perm List.perm_append_comm) ?_
           refine jp rfl ?_
           refine jl_nil ?_
           refine jB ?_
           refine jT ?_
           refine jc_region ?_
           refine jp rfl ?_
           refine ja rfl (by omega) ?_
           refine jp rfl ?_
           refine jl_nil ?_
           subst h107
           refine j_again (i + 1, _, R2, ps ++ [(l[i], .slice va l[i].val.length vc)], .slice a2 (ps.length + 1) ca2) (Keep.cons (t := 2) rfl (Keep.cons (t := 4) rfl (Keep.cons (t := 7) rfl (Keep.cons (t := 9) rfl (Keep.cons (t := 10) rfl (Keep.cons (t := 15) rfl (Keep.cons (t := 16) rfl (Keep.cons (t := 18) rfl (Keep.cons (t := 19) rfl (Keep.cons (t := 20) rfl (Keep.cons (t := 21) rfl Keep.nil))))))))))) ⟨by show i + 1 ≤ l.length; omega, ?_, ?_, ?_, ?_⟩ (by show l.length - (i + 1) < l.length - i; omega) (fun _ h => h)
           ·show Own _ R2 IT 5 (ps ++ [_]).length _; rw [List.length_append, List.flatMap_append]; simpa [icell, itc] using hown2
           ·exact snoc_all hpb ⟨va, vc, rfl, hvc, hvs⟩
           ·show Wnt x l (i + 1) _ _; rw [List.map_append]; exact (hW.put hsrt hi1).2
           ·show (ps ++ [_]).length ≤ _; rw [List.length_append]; show ps.length + 1 ≤ _; omega
          ·refine jd_nil ?_
           refine jPn ?_
           refine jT ?_
           refine jc_no rfl ?_
           refine jc_skip ?_
           refine jB ?_
           refine jT ?_
           refine jc_region ?_
           refine jp rfl ?_
           refine ja rfl (by omega) ?_
           refine jp rfl ?_
           refine jl_nil ?_
           subst h107
           exact absurd (keyD_eq h131) (hW.put hsrt hi1).1
         ·iterate 4 refine dp rfl rfl ?_
          refine jd_q rfl rfl rfl (qIdxS rfl rfl rfl rfl (by omega)) ?_
          refine jd_q rfl rfl rfl (qFieldAddr rfl rfl rfl rfl rfl) ?_
          refine jd_q rfl rfl rfl (qLdA (cs := kcells l[i].key) rfl rfl rfl rfl rfl (fun i v hv => (hcl i v (key_itc hv)).cj _)) ?_
          refine jd_q rfl rfl rfl (qFieldAddr rfl rfl rfl rfl rfl) ?_
          refine jd_q rfl rfl rfl (qLdL rfl rfl rfl rfl rfl) ?_
          refine jd_qb rfl rfl rfl (qCall rfl rfl rfl rfl rfl (by kernel_rfl) (less_spec l[i].key x.key Ma)) (fun h117 => ?_) (fun h117 => ?_)
          ·iterate 2 refine dp rfl rfl ?_
           refine jd_nil ?_
           refine jPn ?_
           refine jT ?_
           refine jc_no rfl ?_
           refine jc_skip ?_
           refine jT ?_
           refine jc_seq ?_
           refine jc_draw [(0, true), (1, true), (2, true), (3, true), (4, true), (5, true), (6, true), (7, true)] _ (by kernel_rfl) (by kernel_rfl) (by kernel_rfl) rfl (fun _ h => h) ?_
           iterate 2 refine dp rfl rfl ?_
           refine jd_q rfl rfl rfl (qIdxS rfl rfl rfl rfl (by omega)) ?_
           refine jd_q rfl rfl rfl (qFieldAddr rfl rfl rfl rfl rfl) ?_
           refine jd_q rfl rfl rfl (qLdA (cs := kcells l[i].key) rfl rfl rfl rfl rfl (fun i v hv => (hcl i v (key_itc hv)).cj _)) ?_
           refine jd_q rfl rfl rfl (qFieldAddr rfl rfl rfl rfl rfl) ?_
           refine jd_q rfl rfl rfl (qLdL rfl rfl rfl rfl rfl) ?_
           refine jd_qb rfl rfl rfl (qNeI (ns := [l[i].key.kind, l[i].key.id, l[i].key.off]) (ms := [x.key.kind, x.key.id, x.key.off]) rfl rfl rfl rfl rfl rfl ⟨rfl, rfl⟩) (fun h131 => ?_) (fun h131 => ?_)
           ·refine jd_nil ?_
            refine jPn ?_
            refine jT ?_
            refine jc_yes rfl ?_
            refine jc_region ?_
            iterate 3 refine jp rfl ?_
            refine jl_q rfl rfl (qIdxS rfl rfl rfl rfl (by omega)) ?_
            refine jl_q rfl rfl (qLdA (cs := itc l[i] va vc) rfl rfl rfl rfl rfl (fun i v hv => (hcl i v hv).cj _)) ?_
            refine jl_h rfl rfl (hBuildSlice (cs := [_, _, _, _, _]) rfl rfl rfl (by rfl) (by rfl) (by rfl)) ?_; rintro _ _ _ ⟨b137, rfl, rfl, rfl⟩
            refine jl_h rfl rfl (hAppend (R := R) (n := ps.length) (m := 1) (xs := ps.flatMap icell) rfl rfl rfl rfl hown rfl (fun i v hv => CJ.loc (by simpa using hv)) rfl (by rfl) (by simp [Value.oneCell']) (by omega) (by omega)) ?_; rintro s' _ _ ⟨rfl, R2, rfl, hown2, _⟩
            obtain ⟨a2, ca2, rfl⟩ := hown2.form
            refine jl_weak (M' := Ma) (L' := (b15, .cells [.slice ba bn bc, .slice wa wn wc, .slice na nn nc, .slice la ln lc].toArray TSt (0, 0)) :: (b7, .cells [.int .u8 x.key.kind, .int .u32 x.key.id, .int .u32 x.key.off, .int .i64 x.ref, xv].toArray 44 (0, 0)) :: (b4, .cells [bv, .slice wa0 s.waits.length wc0, nv, lw].toArray TSt (0, 0)) :: R2) (fun w h => h.dropAt.perm List.perm_append_comm) ?_
            refine jp rfl ?_
            refine jl_nil ?_
            refine jB ?_
            refine jT ?_
            refine jc_region ?_
            refine jp rfl ?_
            refine ja rfl (by omega) ?_
            refine jp rfl ?_
            refine jl_nil ?_
            subst h107
            refine j_again (i + 1, _, R2, ps ++ [(l[i], .slice va l[i].val.length vc)], .slice a2 (ps.length + 1) ca2) (Keep.cons (t := 2) rfl (Keep.cons (t := 4) rfl (Keep.cons (t := 7) rfl (Keep.cons (t := 9) rfl (Keep.cons (t := 10) rfl (Keep.cons (t := 15) rfl (Keep.cons (t := 16) rfl (Keep.cons (t := 18) rfl (Keep.cons (t := 19) rfl (Keep.cons (t := 20) rfl (Keep.cons (t := 21) rfl Keep.nil))))))))))) ⟨by show i + 1 ≤ l.length; omega, ?_, ?_, ?_, ?_⟩ (by show l.length - (i + 1) < l.length - i; omega) (fun _ h => h)
            ·show Own _ R2 IT 5 (ps ++ [_]).length _; rw [List.length_append, List.flatMap_append]; simpa [icell, itc] using hown2
            ·exact snoc_all hpb ⟨va, vc, rfl, hvc, hvs⟩
            ·show Wnt x l (i + 1) _ _; rw [List.map_append]; exact (hW.less hi1 h117).2
            ·show (ps ++ [_]).length ≤ _; rw [List.length_append]; show ps.length + 1 ≤ _; omega
           ·refine jd_nil ?_
            refine jPn ?_
            refine jT ?_
            refine jc_no rfl ?_
            refine jc_skip ?_
            refine jB ?_
            refine jT ?_
            refine jc_region ?_
            refine jp rfl ?_
            refine ja rfl (by omega) ?_
            refine jp rfl ?_
            refine jl_nil ?_
            subst h107
            exact absurd (keyD_eq h131) (hW.less hi1 h117).1
          ·iterate 2 refine dp rfl rfl ?_
           refine jd_nil ?_
           refine jPn ?_
           refine jT ?_
           refine jc_yes rfl ?_
           refine jc_seq ?_
           refine jc_region ?_
           refine jp rfl ?_
           refine jl_q rfl rfl (qLdL rfl rfl rfl rfl rfl) ?_
           refine jl_h rfl rfl (hBuildSlice (cs := [_, _, _, _, _]) rfl rfl rfl (by rfl) (by rfl) (by rfl)) ?_; rintro _ _ _ ⟨b122, rfl, rfl, rfl⟩
           refine jl_h rfl rfl (hAppend (R := R) (n := ps.length) (m := 1) (xs := ps.flatMap icell) rfl rfl rfl rfl hown rfl (fun i v hv => CJ.loc (by simpa using hv)) rfl (by rfl) (fun u hu => by simp only [List.mem_cons, List.not_mem_nil, or_false] at hu; rcases hu with rfl | rfl | rfl | rfl | rfl <;> first | rfl | exact hx1) (by omega) (by omega)) ?_; rintro s' _ _ ⟨rfl, R1, rfl, hown1, _⟩
           obtain ⟨a1, ca1, rfl⟩ := hown1.form
           refine jl_weak (M' := Ma) (L' := (b15, .cells [.slice ba bn bc, .slice wa wn wc, .slice na nn nc, .slice la ln lc].toArray TSt (0, 0)) :: (b7, .cells [.int .u8 x.key.kind, .int .u32 x.key.id, .int .u32 x.key.off, .int .i64 x.ref, xv].toArray 44 (0, 0)) :: (b4, .cells [bv, .slice wa0 s.waits.length wc0, nv, lw].toArray TSt (0, 0)) :: R1) (fun w h => h.dropAt.perm List.perm_append_comm) ?_
           refine jp rfl ?_
           refine jl_nil ?_
           refine jT ?_
           refine jc_region ?_
           refine jp rfl ?_
           refine jl_nil ?_
           refine jT ?_
           refine jc_seq ?_
           refine jc_draw [(0, true), (1, true), (2, true), (3, true), (4, true), (5, true), (6, true), (7, true)] _ (by kernel_rfl) (by kernel_rfl) (by kernel_rfl) rfl (fun _ h => h) ?_
           iterate 2 refine dp rfl rfl ?_
           refine jd_q rfl rfl rfl (qIdxS rfl rfl rfl rfl (by omega)) ?_
           refine jd_q rfl rfl rfl (qFieldAddr rfl rfl rfl rfl rfl) ?_
           refine jd_q rfl rfl rfl (qLdA (cs := kcells l[i].key) rfl rfl rfl rfl rfl (fun i v hv => (hcl i v (key_itc hv)).cj _)) ?_
           refine jd_q rfl rfl rfl (qFieldAddr rfl rfl rfl rfl rfl) ?_
           refine jd_q rfl rfl rfl (qLdL rfl rfl rfl rfl rfl) ?_
           refine jd_qb rfl rfl rfl (qNeI (ns := [l[i].key.kind, l[i].key.id, l[i].key.off]) (ms := [x.key.kind, x.key.id, x.key.off]) rfl rfl rfl rfl rfl rfl ⟨rfl, rfl⟩) (fun h131 => ?_) (fun h131 => ?_)
           ·refine jd_nil ?_
            refine jPn ?_
            refine jT ?_
            refine jc_yes rfl ?_
            refine jc_region ?_
            iterate 3 refine jp rfl ?_
            refine jl_q rfl rfl (qIdxS rfl rfl rfl rfl (by omega)) ?_
            refine jl_q rfl rfl (qLdA (cs := itc l[i] va vc) rfl rfl rfl rfl rfl (fun i v hv => (hcl i v hv).cj _)) ?_
            refine jl_h rfl rfl (hBuildSlice (cs := [_, _, _, _, _]) rfl rfl rfl (by rfl) (by rfl) (by rfl)) ?_; rintro _ _ _ ⟨b137, rfl, rfl, rfl⟩
            refine jl_h rfl rfl (hAppend (R := R1) (n := ps.length + 1) (m := 1) (xs := ps.flatMap icell ++ [.int .u8 x.key.kind, .int .u32 x.key.id, .int .u32 x.key.off, .int .i64 x.ref, xv]) rfl rfl rfl rfl hown1 rfl (fun i v hv => CJ.loc (by simpa using hv)) rfl (by rfl) (by simp [Value.oneCell']) (by omega) (by omega)) ?_; rintro s' _ _ ⟨rfl, R2, rfl, hown2, _⟩
            obtain ⟨a2, ca2, rfl⟩ := hown2.form
            refine jl_weak (M' := Ma) (L' := (b15, .cells [.slice ba bn bc, .slice wa wn wc, .slice na nn nc, .slice la ln lc].toArray TSt (0, 0)) :: (b7, .cells [.int .u8 x.key.kind, .int .u32 x.key.id, .int .u32 x.key.off, .int .i64 x.ref, xv].toArray 44 (0, 0)) :: (b4, .cells [bv, .slice wa0 s.waits.length wc0, nv, lw].toArray TSt (0, 0)) :: R2) (fun w h => h.dropAt.perm List.perm_append_comm) ?_
            refine jp rfl ?_
            refine jl_nil ?_
            refine jB ?_
            refine jT ?_
            refine jc_region ?_
            refine jp rfl ?_
            refine ja rfl (by omega) ?_
            refine jp rfl ?_
            refine jl_nil ?_
            subst h107
            refine j_again (i + 1, true, R2, ps ++ [(x, xv)] ++ [(l[i], .slice va l[i].val.length vc)], .slice a2 (ps.length + 1 + 1) ca2) (Keep.cons (t := 2) rfl (Keep.cons (t := 4) rfl (Keep.cons (t := 7) rfl (Keep.cons (t := 9) rfl (Keep.cons (t := 10) rfl (Keep.cons (t := 15) rfl (Keep.cons (t := 16) rfl (Keep.cons (t := 18) rfl (Keep.cons (t := 19) rfl (Keep.cons (t := 20) rfl (Keep.cons (t := 21) rfl Keep.nil))))))))))) ⟨by show i + 1 ≤ l.length; omega, ?_, ?_, ?_, ?_⟩ (by show l.length - (i + 1) < l.length - i; omega) (fun _ h => h)
            ·show Own _ R2 IT 5 (ps ++ [_] ++ [_]).length _; rw [List.length_append, List.length_append, List.flatMap_append, List.flatMap_append]; simpa [icell, itc] using hown2
            ·exact snoc_all (snoc_all hpb (hx.mono hLa)) ⟨va, vc, rfl, hvc, hvs⟩
            ·show Wnt x l (i + 1) true _; rw [List.map_append, List.map_append]; exact hW.more hi1 h117 (keyD_ne h131)
            ·show (ps ++ [_] ++ [_]).length ≤ _; rw [List.length_append, List.length_append]; show ps.length + 1 + 1 ≤ _; have := hpl0 rfl; omega
           ·refine jd_nil ?_
            refine jPn ?_
            refine jT ?_
            refine jc_no rfl ?_
            refine jc_skip ?_
            refine jB ?_
            refine jT ?_
            refine jc_region ?_
            refine jp rfl ?_
            refine ja rfl (by omega) ?_
            refine jp rfl ?_
            refine jl_nil ?_
            subst h107
            refine j_again (i + 1, true, R1, ps ++ [(x, xv)], .slice a1 (ps.length + 1) ca1) (Keep.cons (t := 2) rfl (Keep.cons (t := 4) rfl (Keep.cons (t := 7) rfl (Keep.cons (t := 9) rfl (Keep.cons (t := 10) rfl (Keep.cons (t := 15) rfl (Keep.cons (t := 16) rfl (Keep.cons (t := 18) rfl (Keep.cons (t := 19) rfl (Keep.cons (t := 20) rfl (Keep.cons (t := 21) rfl Keep.nil))))))))))) ⟨by show i + 1 ≤ l.length; omega, ?_, ?_, ?_, ?_⟩ (by show l.length - (i + 1) < l.length - i; omega) (fun _ h => h)
            ·show Own _ R1 IT 5 (ps ++ [_]).length _; rw [List.length_append, List.flatMap_append]; simpa [icell, itc] using hown1
            ·exact snoc_all hpb (hx.mono hLa)
            ·show Wnt x l (i + 1) true _; rw [List.map_append]; exact hW.same hi1 h117 (keyD_eq h131)
            ·show (ps ++ [_]).length ≤ _; rw [List.length_append]; show ps.length + 1 ≤ _; omega
        ·refine jl_nil ?_
         refine jT ?_
         refine jc_no rfl ?_
         refine jc_exit ?_
         refine jTx ?_
         refine jTx ?_
         refine jBx ?_
         refine jT ?_
         refine jc_merge (α := Mem × Value) (fun z => [(2, .int .i64 other), (4, .pointer (some ⟨b4, 0, none⟩)), (7, .pointer (some ⟨b7, 0, none⟩)), (9, .bool true), (10, .int .i64 (fchk s root).1), (15, .pointer (some ⟨b15, 0, none⟩)), (16, .int .i64 at_), (18, z.2)]) (fun z => z.1) (fun _ => (b15, .cells [.slice ba bn bc, .slice wa wn wc, .slice na nn nc, .slice la ln lc].toArray TSt (0, 0)) :: (b7, .cells [.int .u8 x.key.kind, .int .u32 x.key.id, .int .u32 x.key.off, .int .i64 x.ref, xv].toArray 44 (0, 0)) :: (b4, .cells [bv, .slice wa0 s.waits.length wc0, nv, lw].toArray TSt (0, 0)) :: []) (fun z => MLe Ma z.1 ∧ NS z.1 z.2 (insL x l)) ?_ ?_
         ·rintro ⟨My, v18⟩ ⟨hMy, hnw⟩
          try dsimp only at hMy hnw ⊢
          refine jc_seq ?_
          have hil : (insL x l).length ≤ 1000000 := by rw [hl, allR_pos hf1, ← hok.all, ← allR_pos hok.chk]; have := allR_len t at_; omega
          have hol : (allR s other).length ≤ 1000000 := by have := allR_len s other; omega
          have hw1 := hst.1.2.1
          have hw2 := htok.1.2.1
          have hw3 := hok.waits
          refine jc_draw [(0, true), (1, true), (2, true), (3, true), (5, true), (4, false), (6, true), (7, true), (8, true), (9, true), (10, true), (12, true), (13, true), (11, false), (14, false), (15, true), (16, true), (17, true), (18, true), (19, true), (20, true), (21, false), (22, false), (23, true), (24, true), (25, true), (26, true), (27, true), (28, true), (29, true), (30, true), (31, true), (32, true), (33, true), (34, true), (35, true), (36, true), (37, true), (38, true), (39, true)] _ (by kernel_rfl) (by kernel_rfl) (by kernel_rfl) rfl (fun _ h => h) ?_
          iterate 2 refine dp rfl rfl ?_
          refine jd_q rfl rfl rfl (qLdL rfl rfl rfl rfl rfl) ?_
          iterate 2 refine dp rfl rfl ?_
          refine jd_h rfl rfl rfl (hCall rfl rfl rfl rfl rfl (by kernel_rfl) (pall t _ at_ My (hTT.mono (hMa.trans hMy)))) ?_; rintro _ Mb _ ⟨hMb, _, rfl, ⟨hnA, rfl⟩⟩
          refine ⟨_, _, hMb, MLe.refl _, by simp, fun _ h => h, ?_⟩
          simp only [List.nil_append]
          rw [allR_pos hok.chk, hok.all, ← allR_pos hf1, ← hl] at hnA
          refine jd_q rfl rfl rfl (qEq (qCall rfl rfl rfl rfl rfl (by kernel_rfl) (psame (insL x l) (insL x l) _ _ Mb hnA (hnw.mono hMb) hil hil)) (v' := .bool true) (by simp)) ?_
          iterate 2 refine dp rfl rfl ?_
          refine jd_q rfl rfl rfl (qLdL rfl rfl rfl rfl rfl) ?_
          refine dp rfl rfl ?_
          refine jd_q rfl rfl rfl (qLdL rfl rfl rfl rfl rfl) ?_
          refine dp rfl rfl ?_
          refine jd_h rfl rfl rfl (hCall rfl rfl rfl rfl rfl (by kernel_rfl) (pall t _ other Mb (hTT.mono (hMa.trans (hMy.trans hMb))))) ?_; rintro _ Mc _ ⟨hMc, _, rfl, ⟨hnB, rfl⟩⟩
          refine ⟨_, _, hMc, MLe.refl _, by simp, fun _ h => h, ?_⟩
          simp only [List.nil_append]
          have hoth := hok.other other (by simp) (hRS other (by simp)) hf2
          rw [show allR t other = allR s other by unfold allR; rw [hoth.1, hoth.2.1]] at hnB
          refine jd_h rfl rfl rfl (hCall rfl rfl rfl rfl rfl (by kernel_rfl) (pall s _ other Mc (hST.mono (hLa.trans (hMy.trans (hMb.trans hMc)))))) ?_; rintro _ Md _ ⟨hMd, _, rfl, ⟨hnC, rfl⟩⟩
          refine ⟨_, _, hMd, MLe.refl _, by simp, fun _ h => h, ?_⟩
          simp only [List.nil_append]
          refine jd_q rfl rfl rfl (qEq (qCall rfl rfl rfl rfl rfl (by kernel_rfl) (psame (allR s other) (allR s other) _ _ Md (hnB.mono hMd) hnC hol hol)) (v' := .bool true) (by simp)) ?_
          iterate 2 refine dp rfl rfl ?_
          refine jd_q rfl rfl rfl (qLdL rfl rfl rfl rfl rfl) ?_
          iterate 2 refine dp rfl rfl ?_
          refine jd_h rfl rfl rfl (hBuildSliceM (cs := [_, _]) rfl rfl rfl (by rfl) (by rfl) (by rfl)) ?_; rintro _ Me _ ⟨b166, rfl, rfl, hMe, e166⟩
          refine ⟨_, _, hMe, MLe.refl _, by simp, fun _ h => h, ?_⟩
          have hrt2 : IS Me (.slice (some ⟨b166, 0, none⟩) 2 2) [at_, other] := ⟨_, 2, rfl, Nat.le_refl _, SM.of_block e166⟩
          have hLe := hMa.trans (hMy.trans (hMb.trans (hMc.trans (hMd.trans hMe))))
          refine jd_h rfl rfl rfl (hCall rfl rfl rfl rfl rfl (by kernel_rfl) (enough_yes t [at_, other] [] _ _ _ Me (hTT.mono hLe) htok hrt2 (by show 2 ≤ 100000; decide) (two_all hok.chk (by rw [(hok.other other (by simp) (hRS other (by simp)) hf2).1]; exact hf2)) IS.nil (by decide) (fun _ h => by cases h) (hok.enp hRS (fun r hr => by rw [List.mem_singleton.1 hr]; exact hf2)))) ?_; rintro _ Mf _ ⟨hMf, _, rfl, ⟨rfl, rfl⟩⟩
          refine ⟨_, _, hMf, MLe.refl _, by simp, fun _ h => h, ?_⟩
          simp only [List.nil_append]
          iterate 2 refine dp rfl rfl ?_
          refine jd_q rfl rfl rfl (qFieldAddr rfl rfl rfl rfl rfl) ?_
          refine jd_q rfl rfl rfl (qFieldAddr rfl rfl rfl rfl rfl) ?_
          refine jd_q rfl rfl rfl (qLd rfl rfl rfl rfl (CJ.loc rfl)) ?_
          refine jd_q rfl rfl rfl (qLen rfl rfl rfl) ?_
          refine jd_q rfl rfl rfl (qFieldAddr rfl rfl rfl rfl rfl) ?_
          refine jd_q rfl rfl rfl (qFieldAddr rfl rfl rfl rfl rfl) ?_
          refine jd_q rfl rfl rfl (qLd rfl rfl rfl rfl (CJ.loc rfl)) ?_
          refine jd_q rfl rfl rfl (qLen rfl rfl rfl) ?_
          refine da rfl rfl (by omega) ?_
          refine dp rfl rfl ?_
          refine da rfl rfl (by omega) ?_
          refine da rfl rfl (by omega) ?_
          iterate 3 refine dp rfl rfl ?_
          refine jd_nil ?_
          refine jPn ?_
          refine jT ?_
          refine jc_ret ?_
          refine jr1 rfl rfl ?_
          first | rfl | exact congrArg Value.bool (decide_eq_true (by omega))
         ·refine jc_seq ?_
          refine jc_region ?_
          refine jsb rfl (fun h139 => ?_) (fun h139 => ?_)
          ·refine jp rfl ?_
           refine jl_nil ?_
           refine jT ?_
           refine jc_no rfl ?_
           refine jc_skip ?_
           have e9 := (hW.done (by omega)).1 h139
           refine jq_own hown (fun _ _ => List.not_mem_nil) ?_
           intro Mx ax cx hMx ex hcx hsx
           cases ex
           have e8 : ps.length = (insL x l).length := by rw [← e9, List.length_map]
           refine j_merge (Mx, _) (Keep.cons (t := 2) rfl (Keep.cons (t := 4) rfl (Keep.cons (t := 7) rfl (Keep.cons (t := 9) rfl (Keep.cons (t := 10) rfl (Keep.cons (t := 15) rfl (Keep.cons (t := 16) rfl (Keep.cons (t := 18) rfl Keep.nil)))))))) ⟨hMx, _, _, ps, congrArg (fun n => Value.slice _ n _) e8, by rw [← e8]; exact hcx, hsx, e9, fun p hp => (hpb p hp).mono hMx⟩ (fun _ h => h)
          ·refine jp rfl ?_
           refine jl_nil ?_
           refine jT ?_
           refine jc_yes rfl ?_
           refine jc_region ?_
           refine jp rfl ?_
           refine jl_q rfl rfl (qLdL rfl rfl rfl rfl rfl) ?_
           refine jl_h rfl rfl (hBuildSlice (cs := [_, _, _, _, _]) rfl rfl rfl (by rfl) (by rfl) (by rfl)) ?_; rintro _ _ _ ⟨b143, rfl, rfl, rfl⟩
           refine jl_h rfl rfl (hAppend (R := R) (n := ps.length) (m := 1) (xs := ps.flatMap icell) rfl rfl rfl rfl hown rfl (fun i v hv => CJ.loc (by simpa using hv)) rfl (by rfl) (fun u hu => by simp only [List.mem_cons, List.not_mem_nil, or_false] at hu; rcases hu with rfl | rfl | rfl | rfl | rfl <;> first | rfl | exact hx1) (by omega) (by omega)) ?_; rintro s' _ _ ⟨rfl, R1, rfl, hown1, _⟩
           obtain ⟨a1, ca1, rfl⟩ := hown1.form
           refine jl_weak (M' := Ma) (L' := (b15, .cells [.slice ba bn bc, .slice wa wn wc, .slice na nn nc, .slice la ln lc].toArray TSt (0, 0)) :: (b7, .cells [.int .u8 x.key.kind, .int .u32 x.key.id, .int .u32 x.key.off, .int .i64 x.ref, xv].toArray 44 (0, 0)) :: (b4, .cells [bv, .slice wa0 s.waits.length wc0, nv, lw].toArray TSt (0, 0)) :: R1) (fun w h => h.dropAt.perm List.perm_append_comm) ?_
           refine jp rfl ?_
           refine jl_nil ?_
           have e9 := (hW.done (by omega)).2 h139
           refine jq_own hown1 (fun _ _ => List.not_mem_nil) ?_
           intro Mx ax cx hMx ex hcx hsx
           cases ex
           have e8 : ps.length + 1 = (insL x l).length := by rw [← e9, List.length_append, List.length_map]; rfl
           refine j_merge (Mx, _) (Keep.cons (t := 2) rfl (Keep.cons (t := 4) rfl (Keep.cons (t := 7) rfl (Keep.cons (t := 9) rfl (Keep.cons (t := 10) rfl (Keep.cons (t := 15) rfl (Keep.cons (t := 16) rfl (Keep.cons (t := 18) rfl Keep.nil)))))))) ⟨hMx, _, _, ps ++ [(x, xv)], congrArg (fun n => Value.slice _ n _) e8, by rw [← e8]; exact hcx, by rw [List.flatMap_append]; simpa [icell] using hsx, by rw [List.map_append]; exact e9, fun p hp => (snoc_all hpb (hx.mono hLa) p hp).mono hMx⟩ (fun _ h => h)
      ·refine jp rfl ?_
       refine jl_nil ?_
       refine jT ?_
       refine jc_yes rfl ?_
       refine jc_seq ?_
       refine jc_region ?_
       iterate 2 refine jp rfl ?_
       refine jl_nil ?_
       refine jT ?_
       refine jc_ret ?_
       refine jTr ?_
       refine jr1 rfl rfl ?_
       first | rfl | exact congrArg Value.bool (decide_eq_true (by omega))
     ·refine jc_seq ?_
      refine jc_region ?_
      refine jl_q rfl rfl (qFieldAddr rfl rfl rfl rfl rfl) ?_
      refine jl_q rfl rfl (qLd rfl rfl rfl rfl (CJ.loc rfl)) ?_
      refine js rfl (fun h55 => ?_) (fun h55 => ?_)
      ·refine jl_nil ?_
       refine jT ?_
       refine jc_yes rfl ?_
       refine jc_region ?_
       refine jp rfl ?_
       refine jl_q rfl rfl (qFieldAddr rfl rfl rfl rfl rfl) ?_
       refine jl_q rfl rfl (qLd rfl rfl rfl rfl (CJ.loc rfl)) ?_
       refine jl_h rfl rfl (hBuildSlice (cs := [_]) rfl rfl rfl (by rfl) (by rfl) (by rfl)) ?_; rintro _ _ _ ⟨b59, rfl, rfl, rfl⟩
       refine jl_h rfl rfl (hAppend (R := []) (n := 0) (m := 1) (xs := []) (news := [.int .i64 x.ref]) rfl rfl rfl rfl (Own.nil _ _) rfl (fun i v hv => CJ.loc (by simpa using hv)) rfl (by rfl) (by simp [Value.oneCell']) (by omega) (by omega)) ?_; rintro s' _ _ ⟨rfl, R', rfl, hown', _⟩
       obtain ⟨a3, c3, rfl⟩ := hown'.form
       refine jp rfl ?_
       refine jl_nil ?_
       refine jq_own hown' (fun _ _ => List.not_mem_nil) ?_
       intro Mx ax cx hMx ex hcx hsx
       cases ex
       refine jq_drop (L' := [(b7, .cells [.int .u8 x.key.kind, .int .u32 x.key.id, .int .u32 x.key.off, .int .i64 x.ref, xv].toArray 44 (0, 0)), (b4, .cells [bv, .slice wa0 s.waits.length wc0, nv, lw].toArray TSt (0, 0))]) (by simp) ?_
       have e9 : heldF x.ref = [x.ref] := if_pos h55
       exact j_merge (Mx, .slice a3 1 c3) (Keep.cons (t := 1) rfl (Keep.cons (t := 2) rfl (Keep.cons (t := 4) rfl (Keep.cons (t := 7) rfl (Keep.cons (t := 9) rfl (Keep.cons (t := 10) rfl (Keep.cons (t := 14) rfl Keep.nil))))))) ⟨hMx, by show IS _ _ (heldF x.ref); rw [e9]; exact ⟨a3, c3, rfl, hcx, by simpa [encZ] using hsx⟩⟩ (fun _ h => h)
      ·refine jl_nil ?_
       refine jT ?_
       refine jc_no rfl ?_
       refine jc_skip ?_
       have e9 : heldF x.ref = [] := if_neg h55
       exact j_merge (M2, .slice none 0 0) (Keep.cons (t := 1) rfl (Keep.cons (t := 2) rfl (Keep.cons (t := 4) rfl (Keep.cons (t := 7) rfl (Keep.cons (t := 9) rfl (Keep.cons (t := 10) rfl (Keep.cons (t := 14) rfl Keep.nil))))))) ⟨MLe.refl _, by show IS _ _ (heldF x.ref); rw [e9]; exact IS.nil⟩ (fun _ h => h)

end Go.Proofs.YtckdncmjkloebaaGreat
