/- Walks: the law that calls tell what they tell. -/
import Derived.Test.YtdjaehgadehnfaaGreatDoorSame
namespace Go.Proofs.YtdjaehgadehnfaaGreatDoor
set_option linter.unusedVariables false
set_option linter.unusedSimpArgs false
open Go.RowKit Go.MapKept


theorem cF_one (q : QC) : ∀ u ∈ cF q, u.oneCell' = true := fun u hu => by
  unfold cF at hu
  exact List.all_eq_true.1 (rfl : ((clCells q.1 q.2.1 q.2.2).all fun v => v.oneCell') = true) u hu
theorem cFs_one (qs : List QC) : ∀ u ∈ qs.flatMap cF, u.oneCell' = true := fun u hu => by
  obtain ⟨q, _, h⟩ := List.mem_flatMap.1 hu
  exact cF_one q u h
theorem play_spec (qs : List QC) (la : Option Addr) (lc : Nat) (M : Mem) (hT : Tabs M) (hL : CsP M la qs) (h : qs.length ≤ 64) : SpecL Tryz.prog 9 #[.slice la qs.length lc] M [] (PlayP qs) :=
  play_few qs la lc M hT hL h fun k hk => play_wfs (qs.map (·.1)) k (by rw [List.length_map]; exact hk)
theorem play_at (qs : List QC) (n : Nat) (hn : qs.length = n) (la : Option Addr) (lc : Nat) (M : Mem) (hT : Tabs M) (hL : CsP M la qs) (h : n ≤ 64) : SpecL Tryz.prog 9 #[.slice la n lc] M [] (PlayP qs) := by
  subst hn; exact play_spec qs la lc M hT hL h
theorem map_split {α β : Type} {f : α → β} {ps : List α} {b : β} {l : List β} (h : ps.map f = b :: l) : ∃ p ps', ps = p :: ps' ∧ f p = b ∧ ps'.map f = l := by
  cases ps with
  | nil => cases h
  | cons p ps => simp only [List.map_cons, List.cons.injEq] at h; exact ⟨p, ps, rfl, h.1, h.2⟩
abbrev oneC (k : Int) (p : Str) : CL := { kind := k, path := p, other := ⟨#[]⟩, a := 0, b := 0, c := 0, data := [] }
abbrev p1a : Str := ⟨#[47, 49, 47, 97]⟩
abbrev aliveQ (b : Nat) : List QC := [(oneC 1 ⟨#[]⟩, none, 0), (oneC 5 p1a, none, 0), ({ oneC 7 p1a with a := 2, data := [120] }, some ⟨b, 0, none⟩, 1), ({ oneC 8 p1a with b := 9 }, none, 0)]
theorem in0 : InI64 0 := by unfold InI64; omega
theorem CallOk.plain {M : Mem} (k : Int) (p o : Str) (a b c : Int) (ha : InI64 a) (hb : InI64 b) (hc : InI64 c) : CallOk M { kind := k, path := p, other := o, a := a, b := b, c := c, data := [] } none 0 := ⟨.inl rfl, Nat.le_refl _, Nat.zero_le _, ha, hb, hc⟩

theorem one_spec (k : Int) (p : Str) (M : Mem) :
    SpecL Tryz.prog 10 #[.int .u8 k, .string p] M [] fun u _ _ => u = .agg (clCells (oneC k p) none 0).toArray := by
  refine spec_body (vs := [_, _]) 8 _ Tryz.func10 rfl Tryz.ntmps10 rfl rfl ?_; intro W
  refine jc_seq ?_
  refine jc_region ?_
  refine jl_h rfl rfl (hAlloc rfl rfl) ?_; rintro _ _ _ ⟨b4, rfl, rfl, rfl⟩
  refine jl_nil ?_
  refine jT ?_
  refine jc_seq ?_
  refine jc_region ?_
  iterate 2 refine jp rfl ?_
  refine jl_q rfl rfl (qBuild (cs := [_, _, _, _, _, _, _]) rfl rfl rfl (by rfl)) ?_
  refine jl_s rfl (hStoreL rfl rfl rfl rfl rfl rfl rfl rfl (by first | (simp only [Nat.reduceAdd, Nat.zero_add, Nat.add_zero, List.drop_succ_cons, List.drop_zero, List.drop_nil, List.take_succ_cons, List.take_zero, List.take_nil, List.cons_append, List.nil_append, List.append_nil, List.length_cons, List.length_nil]; try rfl) | rfl)) ?_; rintro _ _ _ ⟨rfl, rfl⟩
  refine jl_nil ?_
  refine jT ?_
  refine jc_ret ?_
  refine jrs (rs := [_]) rfl (.cons (.agg rfl rfl rfl) .nil) ?_
  rfl

set_option maxHeartbeats 4000000 in
theorem alive_spec (M : Mem) (hT : Tabs M) :
    SpecL Tryz.prog 12 #[] M [] fun u _ L' => u = .bool true ∧ L' = [] := by
  refine spec_body (vs := []) 50 _ Tryz.func12 rfl Tryz.ntmps12 rfl rfl ?_; intro W
  refine jc_seq ?_
  refine jc_region ?_
  refine jp rfl ?_
  refine jl_nil ?_
  refine jT ?_
  refine jc_seq ?_
  refine jc_region ?_
  refine jl_q rfl rfl (qBuild (cs := [_, _, _, _, _, _, _]) rfl rfl rfl (by rfl)) ?_
  refine jl_q rfl rfl (qCall rfl rfl rfl rfl rfl (by kernel_rfl) (one_spec 5 p1a M)) ?_
  refine jl_h rfl rfl (hBuildSlice (cs := [_]) rfl rfl rfl (by rfl) (by rfl) (by rfl)) ?_; rintro _ _ _ ⟨b6, rfl, rfl, rfl⟩
  refine jl_h rfl rfl (hMark rfl rfl rfl) ?_; rintro _ _ _ ⟨rfl, rfl, rfl⟩
  refine jl_q rfl rfl (qBuild (cs := [_, _, _, _, _, _, _]) rfl rfl rfl (by rfl)) ?_
  refine jl_q rfl rfl (qBuild (cs := [_, _, _, _, _, _, _]) rfl rfl rfl (by rfl)) ?_
  refine jl_h rfl rfl (hBuildSlice (cs := [_, _, _, _, _, _, _, _, _, _, _, _, _, _, _, _, _, _, _, _, _, _, _, _, _, _, _, _]) rfl rfl rfl (by rfl) (by rfl) (by rfl)) ?_; rintro _ _ _ ⟨b10, rfl, rfl, rfl⟩
  refine jl_freeze b6 (by simp) ?_
  intro M1 hM1 e6
  refine jl_freeze b10 (by simp) ?_
  intro M2 hM2 e10
  have hcs : CsP M2 (some ⟨b10, 0, none⟩) (aliveQ b6) := by
    refine ⟨SM.of_block e10, fun q hq => ?_⟩
    simp only [List.mem_cons, List.not_mem_nil, or_false] at hq
    rcases hq with rfl | rfl | rfl | rfl
    · exact ⟨CallOk.plain _ _ _ _ _ _ in0 in0 in0, by decide, by decide⟩
    · exact ⟨CallOk.plain _ _ _ _ _ _ in0 in0 in0, by decide, by decide⟩
    · exact ⟨⟨.inr ⟨b6, 0, rfl, fun i u hu => ⟨_, _, _, hM2 _ _ e6, by simpa [bcells] using hu⟩⟩, Nat.le_refl _, Nat.le_of_ble_eq_true rfl, by unfold InI64; simp, in0, in0⟩, Nat.le_of_ble_eq_true rfl, Nat.le_of_ble_eq_true rfl⟩
    · exact ⟨CallOk.plain _ _ _ _ _ _ in0 (by unfold InI64; omega) in0, by decide, by decide⟩
  refine jl_h rfl rfl (hCall rfl rfl rfl rfl rfl (by kernel_rfl) (play_spec (aliveQ b6) (some ⟨b10, 0, none⟩) 4 M2 ((hT.mono hM1).mono hM2) hcs (Nat.le_of_ble_eq_true rfl))) ?_; rintro _ M3 _ ⟨hM3, _, rfl, ⟨⟨a3, c3, ps, rfl, hc3, hcm3, hps, hrs⟩, rfl⟩⟩
  have hr4 : (runI insB partF PS0 ((aliveQ b6).map (·.1))).2 = [{ id := 1 }, { id := 2 }, {}, { data := [0, 0, 120] }] := by kernel_rfl
  rw [hr4] at hps
  obtain ⟨⟨r1, d1, n1⟩, _, rfl, e1, hps⟩ := map_split hps
  obtain ⟨⟨r2, d2, n2⟩, _, rfl, e2, hps⟩ := map_split hps
  obtain ⟨⟨r3, d3, n3⟩, _, rfl, e3, hps⟩ := map_split hps
  obtain ⟨⟨r4, d4, n4⟩, _, rfl, e4, hps⟩ := map_split hps
  rw [List.map_eq_nil_iff] at hps; subst hps
  dsimp only at e1 e2 e3 e4; subst e1; subst e2; subst e3; subst e4
  obtain ⟨qb, qo, e0, _⟩ := flat_sm rF_len hrs.1 (i := 0) (by simp) (by decide)
  subst e0
  have hld : ∀ (i : Nat) (h : i < 4) (j : Nat) (v : Value), (rF [(({ id := 1 } : RP), d1, n1), ({ id := 2 }, d2, n2), ({}, d3, n3), ({ data := [0, 0, 120] }, d4, n4)][i])[j]? = some v → CM M3 qb (qo + i * 8 + j) v := fun i h j v hv => by
    obtain ⟨b, o, e, hx⟩ := flat_sm rF_len hrs.1 (i := i) h (by decide)
    cases e; exact hx j v hv
  obtain ⟨da4, dc4, hd4, _, _, hs4⟩ := (hrs.2 _ (List.mem_of_getElem? (i := 3) rfl)).1
  dsimp only at hd4 hs4; subst hd4
  iterate 5 refine jp rfl ?_
  refine jl_nil ?_
  refine jT ?_
  refine jc_seq ?_
  refine jc_region ?_
  refine jp rfl ?_
  refine jt rfl (decide_eq_true (by first | omega | rfl)) ?_
  iterate 2 refine jp rfl ?_
  refine jl_q rfl rfl (qLen rfl rfl rfl) ?_
  refine jt rfl (decide_eq_true (by first | omega | rfl)) ?_
  iterate 3 refine jp rfl ?_
  refine jl_q rfl rfl (qIdxS rfl rfl rfl rfl (by show (0 : Int) ≤ _ ∧ _ < ((4 : Nat) : Int); omega)) ?_
  refine jl_q rfl rfl (qFieldAddr rfl rfl rfl rfl rfl) ?_
  refine jl_q rfl rfl (qLd rfl rfl rfl rfl ((hld 0 (by decide) 1 (.int .i64 1) rfl).cj _)) ?_
  refine jt rfl (decide_eq_true (by first | omega | rfl)) ?_
  iterate 3 refine jp rfl ?_
  refine jl_q rfl rfl (qIdxS rfl rfl rfl rfl (by show (0 : Int) ≤ _ ∧ _ < ((4 : Nat) : Int); omega)) ?_
  refine jl_q rfl rfl (qFieldAddr rfl rfl rfl rfl rfl) ?_
  refine jl_q rfl rfl (qLd rfl rfl rfl rfl ((hld 1 (by decide) 1 (.int .i64 2) rfl).cj _)) ?_
  refine jt rfl (decide_eq_true (by first | omega | rfl)) ?_
  iterate 3 refine jp rfl ?_
  refine jl_q rfl rfl (qIdxS rfl rfl rfl rfl (by show (0 : Int) ≤ _ ∧ _ < ((4 : Nat) : Int); omega)) ?_
  refine jl_q rfl rfl (qFieldAddr rfl rfl rfl rfl rfl) ?_
  refine jl_q rfl rfl (qLd rfl rfl rfl rfl ((hld 2 (by decide) 0 (.int .i64 0) rfl).cj _)) ?_
  refine jt rfl (decide_eq_true (by first | omega | rfl)) ?_
  iterate 3 refine jp rfl ?_
  refine jl_q rfl rfl (qIdxS rfl rfl rfl rfl (by show (0 : Int) ≤ _ ∧ _ < ((4 : Nat) : Int); omega)) ?_
  refine jl_q rfl rfl (qFieldAddr rfl rfl rfl rfl rfl) ?_
  refine jl_q rfl rfl (qLd rfl rfl rfl rfl ((hld 3 (by decide) 2 (.slice da4 3 dc4) rfl).cj _)) ?_
  refine jl_q rfl rfl (qStr (xs := [0, 0, 120]) rfl rfl rfl rfl (hs4.sj _)) ?_
  refine jl_q rfl rfl (qStrEql rfl rfl rfl rfl) ?_
  iterate 2 refine jp rfl ?_
  refine jl_nil ?_
  refine jT ?_
  refine jc_ret ?_
  refine jq_drop (L' := []) (List.nil_sublist _) ?_
  refine jr1 rfl rfl ?_
  exact ⟨congrArg Value.bool (by decide), rfl⟩

set_option maxHeartbeats 4000000 in
theorem modelOn_spec (qs ms : List QC) (la ma : Option Addr) (lc mc : Nat) (M : Mem) (hT : Tabs M) (hL : CsR M la qs) (hc : qs.length ≤ lc) (hc2 : lc ≤ maxLen) (hL2 : CsR M ma ms) (hd : ms.length ≤ mc) (hd2 : mc ≤ maxLen) :
    SpecL Tryz.prog 4 #[.slice la qs.length lc, .slice ma ms.length mc] M [] fun u _ L' => u = .bool true ∧ L' = [] := by
  have hml : maxLen = 9223372036854775807 := by unfold maxLen; rfl
  refine spec_body (vs := [_, _]) 68 _ Tryz.func4 rfl Tryz.ntmps4 rfl rfl ?_; intro W
  refine jc_seq ?_
  refine jc_region ?_
  refine jp rfl ?_
  refine jl_nil ?_
  refine jT ?_
  refine jc_seq ?_
  refine jc_region ?_
  refine jl_h rfl rfl (hCall rfl rfl rfl rfl rfl (by kernel_rfl) (alive_spec M hT)) ?_; rintro _ M1 _ ⟨hM1, _, rfl, ⟨rfl, rfl⟩⟩
  refine jp rfl ?_
  refine jl_nil ?_
  refine jT ?_
  refine jc_seq ?_
  refine jc_seq ?_
  refine jc_region ?_
  refine jp rfl ?_
  refine jl_h rfl rfl (hCall rfl rfl rfl rfl rfl (by kernel_rfl) (great_spec qs la lc 40 M1 (hL.mono hM1) hc hc2)) ?_; rintro _ M2 _ ⟨hM2, _, rfl, ⟨⟨g1, rfl, hg1⟩, rfl⟩⟩
  refine jsb rfl (fun h14 => ?_) (fun h14 => ?_)
  · iterate 15 refine jp rfl ?_
    refine jl_nil ?_
    refine jT ?_
    refine jc_yes rfl ?_
    refine jc_seq ?_
    refine jc_region ?_
    iterate 2 refine jp rfl ?_
    refine jl_nil ?_
    refine jT ?_
    refine jc_ret ?_
    refine jTr ?_
    refine jr1 rfl rfl ?_
    exact ⟨rfl, rfl⟩
  · refine jp rfl ?_
    refine jl_h rfl rfl (hCall rfl rfl rfl rfl rfl (by kernel_rfl) (great_spec ms ma mc 40 M2 ((hL2.mono hM1).mono hM2) hd hd2)) ?_; rintro _ M3 _ ⟨hM3, _, rfl, ⟨⟨g2, rfl, hg2⟩, rfl⟩⟩
    refine jp rfl ?_
    refine jsb rfl (fun h18 => ?_) (fun h18 => ?_)
    · iterate 11 refine jp rfl ?_
      refine jl_nil ?_
      refine jT ?_
      refine jc_yes rfl ?_
      refine jc_seq ?_
      refine jc_region ?_
      iterate 2 refine jp rfl ?_
      refine jl_nil ?_
      refine jT ?_
      refine jc_ret ?_
      refine jTr ?_
      refine jr1 rfl rfl ?_
      exact ⟨rfl, rfl⟩
    · refine jp rfl ?_
      refine jl_q rfl rfl (qLen rfl rfl rfl) ?_
      refine jp rfl ?_
      refine jl_q rfl rfl (qLen rfl rfl rfl) ?_
      refine ja rfl (by first | omega | (have k1 := (hg1 h14).1; have k2 := (hg2 h18).1; omega)) ?_
      refine js rfl (fun h24 => ?_) (fun h24 => ?_)
      · iterate 5 refine jp rfl ?_
        refine jl_nil ?_
        refine jT ?_
        refine jc_yes rfl ?_
        refine jc_seq ?_
        refine jc_region ?_
        iterate 2 refine jp rfl ?_
        refine jl_nil ?_
        refine jT ?_
        refine jc_ret ?_
        refine jTr ?_
        refine jr1 rfl rfl ?_
        exact ⟨rfl, rfl⟩
      · iterate 5 refine jp rfl ?_
        refine jl_nil ?_
        refine jT ?_
        refine jc_no rfl ?_
        refine jc_skip ?_
        refine jT ?_
        refine jc_seq ?_
        refine jc_region ?_
        refine jp rfl ?_
        refine jl_nil ?_
        refine jT ?_
        refine jc_seq ?_
        have hM13 := (hM1.trans hM2).trans hM3
        have hs1 := (hg1 h14).all (by omega)
        have hs2 := (hg2 h18).all (by omega)
        have hcs : CsP M3 la qs := (hL.mono hM13).ok hs1
        have hcsm : CsP M3 ma ms := (hL2.mono hM13).ok hs2
        refine jc_region ?_
        iterate 2 refine jp rfl ?_
        refine jl_h rfl rfl (hAppendM (R := []) rfl rfl rfl rfl (Own.nil _ _) (flatm_len cF 7 cF_len qs) (hL.1.mono hM13) rfl (cFs_one qs) (by omega) (by omega)) ?_; rintro v1 _ _ ⟨rfl, R1, rfl, hown1⟩
        refine jp rfl ?_
        refine jl_nil ?_
        refine jT ?_
        refine jc_seq ?_
        refine jc_region ?_
        iterate 2 refine jp rfl ?_
        refine jl_h rfl rfl (hAppendM (R := R1) rfl rfl rfl rfl hown1 (flatm_len cF 7 cF_len ms) (hL2.1.mono hM13) rfl (cFs_one ms) (by omega) (by omega)) ?_; rintro v2 _ _ ⟨rfl, R2, rfl, hown2⟩
        refine jp rfl ?_
        refine jl_nil ?_
        refine jT ?_
        refine jc_seq ?_
        refine jc_region ?_
        refine jp rfl ?_
        refine jl_h rfl rfl (hCall rfl rfl rfl rfl rfl (by kernel_rfl) (play_spec qs la lc M3 (hT.mono hM13) hcs (by omega))) ?_; rintro _ M4 _ ⟨hM4, _, rfl, ⟨⟨a4, c4, ps, rfl, hc4, hcm4, hps, hrs⟩, rfl⟩⟩
        iterate 5 refine jp rfl ?_
        refine jl_nil ?_
        refine jT ?_
        refine jc_seq ?_
        refine jc_own hown2 (by simp) ?_
        intro M5 a5 c5 hM5 e5 hc5 hs5
        subst e5
        have hcs2 : CsP M5 a5 (qs ++ ms) := ⟨by rw [List.flatMap_append]; simpa using hs5, fun q hq => by
          rcases List.mem_append.1 hq with h | h
          · exact ⟨(((hcs.2 q h).1.mono hM4).mono hM5), (hcs.2 q h).2⟩
          · exact ⟨(((hcsm.2 q h).1.mono hM4).mono hM5), (hcsm.2 q h).2⟩⟩
        refine jc_region ?_
        refine jp rfl ?_
        refine jl_h rfl rfl (hCall rfl rfl rfl rfl rfl (by kernel_rfl) (play_at (qs ++ ms) (0 + qs.length + ms.length) (by rw [List.length_append]; omega) a5 c5 M5 (hT.mono ((hM13.trans hM4).trans hM5)) hcs2 (by omega))) ?_; rintro _ M6 _ ⟨hM6, _, rfl, ⟨⟨a6, c6, ps2, rfl, hc6, hcm6, hps2, hrs2⟩, rfl⟩⟩
        rw [List.length_append] at hc6
        simp only [List.length_append]
        iterate 5 refine jp rfl ?_
        refine jl_nil ?_
        refine jT ?_
        refine jc_seq ?_
        refine jc_region ?_
        refine jp rfl ?_
        refine jt rfl (decide_eq_true (by first | omega | (have k1 := (hg1 h14).1; have k2 := (hg2 h18).1; omega))) ?_
        iterate 2 refine jp rfl ?_
        refine jt rfl (decide_eq_true (by first | omega | (have k1 := (hg1 h14).1; have k2 := (hg2 h18).1; omega))) ?_
        iterate 3 refine jp rfl ?_
        refine jl_q rfl rfl (qLen rfl rfl rfl) ?_
        refine jp rfl ?_
        refine jl_q rfl rfl (qLen rfl rfl rfl) ?_
        refine jt rfl (decide_eq_true (by first | omega | (have k1 := (hg1 h14).1; have k2 := (hg2 h18).1; omega))) ?_
        iterate 5 refine jp rfl ?_
        refine jl_q rfl rfl (qLen rfl rfl rfl) ?_
        refine jl_q rfl rfl (qEq (v' := .slice a6 qs.length c6) (qSl rfl rfl rfl (.no _) (.of rfl (by omega) (Int.toNat_natCast _)) (.no _) (by omega) (by simp)) (by rw [slA_zero]; rfl)) ?_
        have hl1 : ps.length = qs.length := by have := congrArg List.length hps; rw [List.length_map, runI_len, List.length_map] at this; exact this
        have hl2 : ps2.length = qs.length + ms.length := by have := congrArg List.length hps2; rw [List.length_map, runI_len, List.length_map, List.length_append] at this; exact this
        have hmm : ps.map (·.1) = (ps2.take qs.length).map (·.1) := by
          rw [List.map_take, hps2, List.map_append, runI_append, hps]
          exact (List.take_left' (by rw [runI_len, List.length_map])).symm
        refine jl_h rfl rfl (hCall rfl rfl rfl rfl rfl (by kernel_rfl) (by have := sameall_spec ps (ps2.take qs.length) a4 a6 c4 c6 M6 hmm ((hrs.mono hM5).mono hM6) (hrs2.take _) (by omega); rw [hl1] at this; exact this)) ?_; rintro _ _ _ ⟨_, _, rfl, ⟨rfl, rfl⟩⟩
        iterate 2 refine jp rfl ?_
        refine jl_nil ?_
        refine jT ?_
        refine jc_ret ?_
        refine jr1 rfl rfl ?_
        exact ⟨rfl, rfl⟩


end Go.Proofs.YtdjaehgadehnfaaGreatDoor
