/- Walks: the law that idle calls change nothing. -/
import Derived.Test.YtdjaehgadehnfaaGreatDoorOn
import Derived.Test.YtdjaehgadehnfaaGreatDoorIdl
namespace Go.Proofs.YtdjaehgadehnfaaGreatDoor
set_option linter.unusedVariables false
set_option linter.unusedSimpArgs false
open Go.RowKit Go.MapKept


theorem rF_one (q : QR) {a b : Option Addr} {n m k l : Nat} (h1 : q.2.1 = .slice a n k) (h2 : q.2.2 = .slice b m l) : ∀ u ∈ rF q, u.oneCell' = true := fun u hu => by
  unfold rF at hu; rw [h1, h2] at hu
  exact List.all_eq_true.1 (rfl : ((rpc q.1 (.slice a n k) (.slice b m l)).all fun v => v.oneCell') = true) u hu
abbrev QZ := QC × QR
def kp (qs : List QC) (ps : List QR) (i : Nat) : List QZ := ((qs.zip ps).take i).filter fun z => !idleB z.1.1 z.2.1
theorem kp_snoc {qs : List QC} {ps : List QR} {i : Nat} (h1 : i < qs.length) (h2 : i < ps.length) : kp qs ps (i + 1) = kp qs ps i ++ if idleB qs[i].1 ps[i].1 = true then [] else [(qs[i], ps[i])] := by
  unfold kp
  have hz : i < (qs.zip ps).length := by rw [List.length_zip]; omega
  rw [List.take_succ_eq_append_getElem hz, List.filter_append, List.getElem_zip]
  congr 1
  simp only [List.filter_cons, List.filter_nil]
  cases idleB qs[i].1 ps[i].1 <;> rfl
theorem kp_len (qs : List QC) (ps : List QR) (i : Nat) : (kp qs ps i).length ≤ i := by
  unfold kp
  exact Nat.le_trans (List.length_filter_le _ _) (by rw [List.length_take]; omega)
theorem kp_mem {qs : List QC} {ps : List QR} {i : Nat} {z : QZ} (h : z ∈ kp qs ps i) : z.1 ∈ qs ∧ z.2 ∈ ps := by
  have h1 := List.mem_of_mem_take (List.mem_filter.1 h).1
  obtain ⟨a, b⟩ := z
  exact ⟨(List.of_mem_zip h1).1, (List.of_mem_zip h1).2⟩
theorem kp_all {qs : List QC} {ps : List QR} (h : ps.map (·.1) = (runI insB partF PS0 (qs.map (·.1))).2) : (runI insB partF PS0 ((kp qs ps qs.length).map fun z => z.1.1)).2 = (kp qs ps qs.length).map fun z => z.2.1 := by
  have h1 := congrArg Prod.snd (idle_run (ins := insB) (part := partF) (qs.map (·.1)) PS0)
  rw [← h] at h1
  have e : ((qs.map (·.1)).zip (ps.map (·.1))).filter (fun z => !idleB z.1 z.2) = (kp qs ps qs.length).map fun z => (z.1.1, z.2.1) := by
    unfold kp
    rw [List.take_of_length_le (by rw [List.length_zip]; omega), List.zip_map, List.filter_map]
    rfl
  rw [e, List.map_map, List.map_map] at h1
  exact h1

theorem idle_spec (c : CL) (a : Option Addr) (k : Nat) (r : RP) (da na : Option Addr) (dn dc nn nc : Nat) (M : Mem) :
    SpecL Tryz.prog 15 #[.agg (clCells c a k).toArray, .agg (rpc r (.slice da dn dc) (.slice na nn nc)).toArray] M [] fun u _ L' => u = .bool (idleB c r) ∧ L' = [] := by
  refine spec_body (vs := [_, _]) 28 _ Tryz.func15 rfl Tryz.ntmps15 rfl rfl ?_; intro W
  refine jc_seq ?_
  refine jc_region ?_
  refine jl_h rfl rfl (hBox (cs := [_, _, _, _, _, _, _]) rfl rfl rfl rfl) ?_; rintro _ _ _ ⟨bx2, rfl, rfl, rfl⟩
  refine jl_h rfl rfl (hBox (cs := [_, _, _, _, _, _, _, _]) rfl rfl rfl rfl) ?_; rintro _ _ _ ⟨bx3, rfl, rfl, rfl⟩
  refine jp rfl ?_
  refine jl_nil ?_
  refine jT ?_
  refine jc_seq ?_
  refine jc_region ?_
  refine jl_q rfl rfl (qFieldAddr rfl rfl rfl rfl rfl) ?_
  refine jl_q rfl rfl (qLd rfl rfl rfl rfl (CJ.loc rfl)) ?_
  refine js rfl (fun h7 => ?_) (fun h7 => ?_)
  · iterate 21 refine jp rfl ?_
    refine jl_nil ?_
    refine jT ?_
    refine jc_ret ?_
    refine jq_drop (L' := []) (List.nil_sublist _) ?_
    refine jr1 rfl rfl ?_
    refine ⟨congrArg Value.bool ?_, rfl⟩
    unfold idleB
    rw [decide_eq_true (by omega : r.err ≠ 0)]; rfl
  · refine jp rfl ?_
    refine jl_q rfl rfl (qFieldAddr rfl rfl rfl rfl rfl) ?_
    refine jl_q rfl rfl (qLd rfl rfl rfl rfl (CJ.loc rfl)) ?_
    refine js rfl (fun h11 => ?_) (fun h11 => ?_)
    · iterate 17 refine jp rfl ?_
      refine jl_nil ?_
      refine jT ?_
      refine jc_ret ?_
      refine jq_drop (L' := []) (List.nil_sublist _) ?_
      refine jr1 rfl rfl ?_
      refine ⟨congrArg Value.bool ?_, rfl⟩
      unfold idleB
      rw [decide_eq_true (by omega : c.kind = 8)]; simp
    · iterate 2 refine jp rfl ?_
      refine jl_q rfl rfl (qFieldAddr rfl rfl rfl rfl rfl) ?_
      refine jl_q rfl rfl (qLd rfl rfl rfl rfl (CJ.loc rfl)) ?_
      refine js rfl (fun h16 => ?_) (fun h16 => ?_)
      · iterate 12 refine jp rfl ?_
        refine jl_nil ?_
        refine jT ?_
        refine jc_ret ?_
        refine jq_drop (L' := []) (List.nil_sublist _) ?_
        refine jr1 rfl rfl ?_
        refine ⟨congrArg Value.bool ?_, rfl⟩
        unfold idleB
        rw [decide_eq_true (by omega : c.kind = 16)]; simp
      · iterate 2 refine jp rfl ?_
        refine jl_q rfl rfl (qFieldAddr rfl rfl rfl rfl rfl) ?_
        refine jl_q rfl rfl (qLd rfl rfl rfl rfl (CJ.loc rfl)) ?_
        refine js rfl (fun h21 => ?_) (fun h21 => ?_)
        · iterate 7 refine jp rfl ?_
          refine jl_nil ?_
          refine jT ?_
          refine jc_ret ?_
          refine jq_drop (L' := []) (List.nil_sublist _) ?_
          refine jr1 rfl rfl ?_
          refine ⟨congrArg Value.bool ?_, rfl⟩
          unfold idleB
          rw [decide_eq_true (by omega : c.kind = 17)]; simp
        · iterate 2 refine jp rfl ?_
          refine jl_q rfl rfl (qFieldAddr rfl rfl rfl rfl rfl) ?_
          refine jl_q rfl rfl (qLd rfl rfl rfl rfl (CJ.loc rfl)) ?_
          iterate 3 refine jp rfl ?_
          refine jl_nil ?_
          refine jT ?_
          refine jc_ret ?_
          refine jq_drop (L' := []) (List.nil_sublist _) ?_
          refine jr1 rfl rfl ?_
          refine ⟨congrArg Value.bool ?_, rfl⟩
          unfold idleB
          rw [decide_eq_false (by omega : ¬ r.err ≠ 0), decide_eq_false (by omega : ¬ c.kind = 8), decide_eq_false (by omega : ¬ c.kind = 16), decide_eq_false (by omega : ¬ c.kind = 17)]; rfl


structure IdI (qs : List QC) (ps : List QR) (M : Mem) (z : Nat × Mem × Value × Lc × Value × Lc) : Prop where
  le : z.1 ≤ qs.length
  mem : MLe M z.2.1
  o1 : Own z.2.2.1 z.2.2.2.1 28 7 (kp qs ps z.1).length ((kp qs ps z.1).flatMap fun x => cF x.1)
  o2 : Own z.2.2.2.2.1 z.2.2.2.2.2 36 8 (kp qs ps z.1).length ((kp qs ps z.1).flatMap fun x => rF x.2)

set_option maxHeartbeats 4000000 in
theorem modelIdle_spec (qs : List QC) (la : Option Addr) (lc : Nat) (M : Mem) (hT : Tabs M) (hL : CsR M la qs) (hc : qs.length ≤ lc) (hc2 : lc ≤ maxLen) :
    SpecL Tryz.prog 5 #[.slice la qs.length lc] M [] fun u _ L' => u = .bool true ∧ L' = [] := by
  have hml : maxLen = 9223372036854775807 := by unfold maxLen; rfl
  refine spec_body (vs := [_]) 75 _ Tryz.func5 rfl Tryz.ntmps5 rfl rfl ?_; intro W
  refine jc_seq ?_
  refine jc_region ?_
  refine jp rfl ?_
  refine jl_nil ?_
  refine jT ?_
  refine jc_seq ?_
  refine jc_region ?_
  refine jl_h rfl rfl (hCall rfl rfl rfl rfl rfl (by kernel_rfl) (alive_spec M hT)) ?_; rintro _ M1 _ ⟨hM1, _, rfl, ⟨rfl, rfl⟩⟩
  refine jp rfl ?_
  refine jl_nil ?_
  refine jT ?_
  refine jc_seq ?_
  refine jc_seq ?_
  refine jc_region ?_
  refine jp rfl ?_
  refine jl_h rfl rfl (hCall rfl rfl rfl rfl rfl (by kernel_rfl) (great_spec qs la lc 40 M1 (hL.mono hM1) hc hc2)) ?_; rintro _ M2 _ ⟨hM2, _, rfl, ⟨⟨g1, rfl, hg1⟩, rfl⟩⟩
  refine jsb rfl (fun h14 => ?_) (fun h14 => ?_)
  · iterate 8 refine jp rfl ?_
    refine jl_nil ?_
    refine jT ?_
    refine jc_yes rfl ?_
    refine jc_seq ?_
    refine jc_region ?_
    iterate 2 refine jp rfl ?_
    refine jl_nil ?_
    refine jT ?_
    refine jc_ret ?_
    refine jTr ?_
    refine jr1 rfl rfl ?_
    exact ⟨rfl, rfl⟩
  · refine jp rfl ?_
    refine jl_q rfl rfl (qLen rfl rfl rfl) ?_
    refine js rfl (fun h17 => ?_) (fun h17 => ?_)
    · iterate 5 refine jp rfl ?_
      refine jl_nil ?_
      refine jT ?_
      refine jc_yes rfl ?_
      refine jc_seq ?_
      refine jc_region ?_
      iterate 2 refine jp rfl ?_
      refine jl_nil ?_
      refine jT ?_
      refine jc_ret ?_
      refine jTr ?_
      refine jr1 rfl rfl ?_
      exact ⟨rfl, rfl⟩
    · iterate 5 refine jp rfl ?_
      refine jl_nil ?_
      refine jT ?_
      refine jc_no rfl ?_
      refine jc_skip ?_
      refine jT ?_
      refine jc_seq ?_
      refine jc_region ?_
      refine jp rfl ?_
      have hs1 := (hg1 h14).all (by omega)
      have hcs : CsP M2 la qs := ((hL.mono hM1).mono hM2).ok hs1
      refine jl_h rfl rfl (hCall rfl rfl rfl rfl rfl (by kernel_rfl) (play_spec qs la lc M2 ((hT.mono hM1).mono hM2) hcs (by omega))) ?_; rintro _ M3 _ ⟨hM3, _, rfl, ⟨⟨a4, c4, ps, rfl, hc4, hcm4, hps, hrs⟩, rfl⟩⟩
      have hl1 : ps.length = qs.length := by have := congrArg List.length hps; rw [List.length_map, runI_len, List.length_map] at this; exact this
      iterate 5 refine jp rfl ?_
      refine jl_nil ?_
      refine jT ?_
      refine jc_seq ?_
      refine jc_region ?_
      refine jp rfl ?_
      refine jl_nil ?_
      refine jT ?_
      refine jc_seq ?_
      refine jc_region ?_
      refine jp rfl ?_
      refine jl_nil ?_
      refine jT ?_
      refine jc_seq ?_
      refine jc_seq ?_
      refine jc_region ?_
      refine jp rfl ?_
      refine jl_nil ?_
      refine jT ?_
      refine jc_block ?_
      refine jc_loopK (α := Nat × Mem × Value × Lc × Value × Lc) (fun z => [(0, .slice la qs.length lc), (4, .slice a4 qs.length c4), (5, .int .i64 0), (6, z.2.2.1), (7, z.2.2.2.2.1), (8, .int .i64 z.1)]) (fun z => z.2.1) (fun z => z.2.2.2.1 ++ z.2.2.2.2.2) (fun z => IdI qs ps M3 z) (fun z => qs.length - z.1)
        (0, M3, .slice none 0 0, [], .slice none 0 0, []) (Keep.cons (t := 0) rfl (Keep.cons (t := 4) rfl (Keep.cons (t := 5) rfl (Keep.cons (t := 6) rfl (Keep.cons (t := 7) rfl (Keep.cons (t := 8) rfl Keep.nil)))))) ⟨Nat.zero_le _, MLe.refl _, Own.nil _ _, Own.nil _ _⟩ (fun _ h => h) ?_
      rintro ⟨i, Mk, v6, R6, v7, R7⟩ hI
      try dsimp only
      have hile : i ≤ qs.length := hI.le
      refine jc_seq ?_
      refine jc_seq ?_
      refine jc_region ?_
      iterate 2 refine jp rfl ?_
      refine jl_q rfl rfl (qLen rfl rfl rfl) ?_
      refine js rfl (fun h32 => ?_) (fun h32 => ?_)
      · refine jl_nil ?_
        refine jT ?_
        refine jc_yes rfl ?_
        refine jc_skip ?_
        refine jT ?_
        refine jc_seq ?_
        refine jc_block ?_
        refine jc_seq ?_
        refine jc_draw [(0, true), (1, true), (2, true), (3, true), (4, true), (5, true), (6, true), (7, true), (8, false), (9, true)] [] (by kernel_rfl) (by kernel_rfl) (by kernel_rfl) rfl (by simp) ?_
        iterate 2 refine dp rfl rfl ?_
        have hM34 : MLe M2 Mk := hM3.trans hI.mem
        have hk1 : i < qs.length := by omega
        have hk2 : i < ps.length := by omega
        obtain ⟨q1, o1, e1, x1⟩ := flat_sm cF_len (hcs.1.mono hM34) hk1 (by omega)
        obtain ⟨q2, o2, e2, x2⟩ := flat_sm rF_len (hrs.1.mono hI.mem) hk2 (by omega)
        subst e1; subst e2
        obtain ⟨da, dc, hd, _⟩ := (hrs.2 ps[i] (List.getElem_mem hk2)).1
        obtain ⟨na, nc, hn, _⟩ := (hrs.2 ps[i] (List.getElem_mem hk2)).2
        have hrd : rpc ps[i].1 (.slice da ps[i].1.data.length dc) (.slice na ps[i].1.names.length nc) = rF ps[i] := by unfold rF; rw [hd, hn]
        refine jd_q rfl rfl rfl (qIdxS rfl rfl rfl rfl (by omega)) ?_
        refine jd_q rfl rfl rfl (qLdA (cs := clCells qs[i].1 qs[i].2.1 qs[i].2.2) rfl rfl rfl rfl rfl (fun j v hv => by rw [Int.toNat_natCast]; exact (x1 j v hv).cj _)) ?_
        iterate 2 refine dp rfl rfl ?_
        refine jd_q rfl rfl rfl (qIdxS rfl rfl rfl rfl (by omega)) ?_
        refine jd_q rfl rfl rfl (qLdA (cs := rpc ps[i].1 (.slice da ps[i].1.data.length dc) (.slice na ps[i].1.names.length nc)) rfl rfl rfl rfl rfl (fun j v hv => by rw [Int.toNat_natCast]; exact (x2 j v (by rw [← hrd]; exact hv)).cj _)) ?_
        refine jd_h rfl rfl rfl (hCall rfl rfl rfl rfl rfl (by kernel_rfl) (idle_spec qs[i].1 qs[i].2.1 qs[i].2.2 ps[i].1 da na _ dc _ nc Mk)) ?_; rintro _ M4 _ ⟨hM4, _, rfl, ⟨rfl, rfl⟩⟩
        refine ⟨_, _, MLe.refl _, hM4, fun _ h => h, by simp, ?_⟩
        refine jd_qb rfl rfl rfl (qP rfl rfl) (fun h44 => ?_) (fun h44 => ?_)
        · refine jd_nil ?_
          refine jPn ?_
          refine jT ?_
          refine jc_yes rfl ?_
          refine jc_seq ?_
          refine jc_region ?_
          iterate 3 refine jp rfl ?_
          refine jl_q rfl rfl (qIdxS rfl rfl rfl rfl (by omega)) ?_
          refine jl_q rfl rfl (qLdA (cs := clCells qs[i].1 qs[i].2.1 qs[i].2.2) rfl rfl rfl rfl rfl (fun j v hv => by rw [Int.toNat_natCast]; exact ((x1 j v hv).mono hM4).cj _)) ?_
          refine jl_h rfl rfl (hBuildSlice (cs := [_, _, _, _, _, _, _]) rfl rfl rfl (by rfl) (by rfl) (by rfl)) ?_; rintro _ _ _ ⟨b50, rfl, rfl, rfl⟩
          have hkn := kp_len qs ps i
          refine jl_h rfl rfl (hAppend (R := R6) (news := cF qs[i]) rfl rfl rfl rfl hI.o1 rfl (fun j v hv => CJ.loc (by rw [Nat.zero_add]; unfold cF at hv; simpa using hv)) rfl rfl (cF_one _) (by simp only; omega) (by omega)) ?_; rintro w6 _ _ ⟨rfl, R6b, rfl, hw6, _⟩
          refine jp rfl ?_
          refine jl_nil ?_
          refine jT ?_
          refine jc_region ?_
          iterate 3 refine jp rfl ?_
          refine jl_q rfl rfl (qIdxS rfl rfl rfl rfl (by omega)) ?_
          refine jl_q rfl rfl (qLdA (cs := rpc ps[i].1 (.slice da ps[i].1.data.length dc) (.slice na ps[i].1.names.length nc)) rfl rfl rfl rfl rfl (fun j v hv => by rw [Int.toNat_natCast]; exact (x2 j v (by rw [← hrd]; exact hv)).mono hM4 |>.cj _)) ?_
          refine jl_h rfl rfl (hBuildSlice (cs := [_, _, _, _, _, _, _, _]) rfl rfl rfl (by rfl) (by rfl) (by rfl)) ?_; rintro _ _ _ ⟨b57, rfl, rfl, rfl⟩
          refine jl_h rfl rfl (hAppend (R := R7) (news := rpc ps[i].1 (.slice da ps[i].1.data.length dc) (.slice na ps[i].1.names.length nc)) rfl rfl rfl rfl hI.o2 rfl (fun j v hv => CJ.loc (by rw [Nat.zero_add]; simpa using hv)) rfl rfl (fun u hu => List.all_eq_true.1 (rfl : ((rpc ps[i].1 (.slice da ps[i].1.data.length dc) (.slice na ps[i].1.names.length nc)).all fun v => v.oneCell') = true) u hu) (by simp only; omega) (by omega)) ?_; rintro w7 _ _ ⟨rfl, R7b, rfl, hw7, _⟩
          refine jp rfl ?_
          refine jl_nil ?_
          refine jB ?_
          refine jT ?_
          refine jc_region ?_
          refine jp rfl ?_
          refine ja rfl (by omega) ?_
          refine jp rfl ?_
          refine jl_nil ?_
          have hidf : idleB qs[i].1 ps[i].1 = false := by simpa using h44
          have hks : kp qs ps (i + 1) = kp qs ps i ++ [(qs[i], ps[i])] := by rw [kp_snoc hk1 hk2, if_neg (by rw [hidf]; exact Bool.false_ne_true)]
          refine j_again (i + 1, M4, w6, R6b, w7, R7b) (Keep.cons (t := 0) rfl (Keep.cons (t := 4) rfl (Keep.cons (t := 5) rfl (Keep.cons (t := 6) rfl (Keep.cons (t := 7) rfl (Keep.cons (t := 8) rfl Keep.nil)))))) ⟨by show i + 1 ≤ _; omega, hI.mem.trans hM4, ?_, ?_⟩ (by show qs.length - (i + 1) < qs.length - i; omega) (fun _ h => h.subC fun f => by simp only [List.map_append, List.map_cons, List.map_nil, List.sum_append, List.sum_cons, List.sum_nil]; omega)
          · show Own w6 R6b _ 7 (kp qs ps (i + 1)).length _; rw [hks, List.flatMap_append, List.length_append]; simpa using hw6
          · show Own w7 R7b _ 8 (kp qs ps (i + 1)).length _; rw [hks, List.flatMap_append, List.length_append]; rw [hrd] at hw7; simpa using hw7
        · refine jd_nil ?_
          refine jPn ?_
          refine jT ?_
          refine jc_no rfl ?_
          refine jc_skip ?_
          refine jB ?_
          refine jT ?_
          refine jc_region ?_
          refine jp rfl ?_
          refine ja rfl (by omega) ?_
          refine jp rfl ?_
          refine jl_nil ?_
          have hidt : idleB qs[i].1 ps[i].1 = true := by simpa using h44
          have hks : kp qs ps (i + 1) = kp qs ps i := by rw [kp_snoc hk1 hk2, if_pos hidt, List.append_nil]
          refine j_again (i + 1, M4, v6, R6, v7, R7) (Keep.cons (t := 0) rfl (Keep.cons (t := 4) rfl (Keep.cons (t := 5) rfl (Keep.cons (t := 6) rfl (Keep.cons (t := 7) rfl (Keep.cons (t := 8) rfl Keep.nil)))))) ⟨by show i + 1 ≤ _; omega, hI.mem.trans hM4, ?_, ?_⟩ (by show qs.length - (i + 1) < qs.length - i; omega) (fun _ h => h)
          · show Own v6 R6 _ 7 (kp qs ps (i + 1)).length _; rw [hks]; exact hI.o1
          · show Own v7 R7 _ 8 (kp qs ps (i + 1)).length _; rw [hks]; exact hI.o2
      · refine jl_nil ?_
        refine jT ?_
        refine jc_no rfl ?_
        refine jc_exit ?_
        refine jTx ?_
        refine jTx ?_
        refine jBx ?_
        refine jT ?_
        refine jc_seq ?_
        obtain rfl : i = qs.length := by have := hI.le; simp only at this; omega
        obtain ⟨ks, hks⟩ : ∃ ks, kp qs ps qs.length = ks := ⟨_, rfl⟩
        have hkn := kp_len qs ps qs.length
        have ho1 := hI.o1
        have ho2 := hI.o2
        have hkm : ∀ z ∈ ks, z.1 ∈ qs ∧ z.2 ∈ ps := fun z hz => kp_mem (by rw [hks]; exact hz)
        dsimp only at ho1 ho2
        rw [hks] at ho1 ho2 hkn
        refine jc_own ho1 (by simp) ?_
        intro M5a a5 c5 hM5a e5 hc5 hs5
        subst e5
        refine jc_own ho2 (by simp) ?_
        intro M5 a7 c7 hM5b e7 hc7 hs7
        subst e7
        have hM5 : MLe Mk M5 := hM5a.trans hM5b
        have hMM : MLe M3 M5 := hI.mem.trans hM5
        have hcs2 : CsP M5 a5 (ks.map (·.1)) := ⟨by rw [List.flatMap_map]; exact hs5.mono hM5b, fun q hq => by
          obtain ⟨z, hz, rfl⟩ := List.mem_map.1 hq
          have := hcs.2 z.1 (hkm z hz).1
          exact ⟨this.1.mono (hM3.trans hMM), this.2⟩⟩
        refine jc_region ?_
        refine jp rfl ?_
        refine jl_h rfl rfl (hCall rfl rfl rfl rfl rfl (by kernel_rfl) (play_at (ks.map (·.1)) ks.length (by rw [List.length_map]) a5 c5 M5 (hT.mono ((((hM1.trans hM2).trans hM3).trans hI.mem).trans hM5)) hcs2 (by omega))) ?_; rintro _ M6 _ ⟨hM6, _, rfl, ⟨⟨a6, c6, ps2, rfl, hc6, hcm6, hps2, hrs2⟩, rfl⟩⟩
        rw [List.length_map] at hc6
        simp only [List.length_map]
        iterate 5 refine jp rfl ?_
        refine jl_nil ?_
        refine jT ?_
        refine jc_seq ?_
        refine jc_region ?_
        refine jp rfl ?_
        refine jt rfl (decide_eq_true (by omega)) ?_
        iterate 2 refine jp rfl ?_
        refine jt rfl (decide_eq_true (by omega)) ?_
        iterate 4 refine jp rfl ?_
        have hl2 : ps2.length = ks.length := by have := congrArg List.length hps2; rw [List.length_map, runI_len, List.length_map, List.length_map] at this; exact this
        have hmm : ps2.map (·.1) = (ks.map (·.2)).map (·.1) := by
          have hka := kp_all hps
          rw [hks] at hka
          rw [hps2, List.map_map, List.map_map]; exact hka
        have hrs7 : RsP M6 a7 (ks.map (·.2)) := ⟨by rw [List.flatMap_map]; exact hs7.mono hM6, fun p hp => by
          obtain ⟨z, hz, rfl⟩ := List.mem_map.1 hp
          have := hrs.2 z.2 (hkm z hz).2
          exact ⟨this.1.mono (hMM.trans hM6), this.2.mono (hMM.trans hM6)⟩⟩
        refine jl_h rfl rfl (hCall rfl rfl rfl rfl rfl (by kernel_rfl) (by have := sameall_spec ps2 (ks.map (·.2)) a6 a7 c6 c7 M6 hmm hrs2 hrs7 (by omega); rw [hl2] at this; exact this)) ?_; rintro _ _ _ ⟨_, _, rfl, ⟨rfl, rfl⟩⟩
        iterate 2 refine jp rfl ?_
        refine jl_nil ?_
        refine jT ?_
        refine jc_ret ?_
        refine jr1 rfl rfl ?_
        exact ⟨rfl, rfl⟩


end Go.Proofs.YtdjaehgadehnfaaGreatDoor
