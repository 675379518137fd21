/- Walks: the law that volumes stand apart. -/
import Derived.Test.YtdjaehgadehnfaaGreatDoorOn
import Derived.Test.YtdjaehgadehnfaaGreatDoorApl
namespace Go.Proofs.YtdjaehgadehnfaaGreatDoor
set_option linter.unusedVariables false
set_option linter.unusedSimpArgs false
open Go.RowKit Go.MapKept

set_option maxHeartbeats 1000000 in
theorem on_spec (c : CL) (a : Option Addr) (k : Nat) (id : Int) (M : Mem) (hT : Tabs M) (hz : c.path.size ≤ 100000 ∧ c.other.size ≤ 100000) :
    SpecL Tryz.prog 16 #[.agg (clCells c a k).toArray, .int .i64 id] M [] fun u _ L' => u = .bool (onB c id) ∧ L' = [] := by
  obtain ⟨hz1, hz2⟩ := hz
  refine spec_body (vs := [_, _]) 62 _ Tryz.func16 rfl Tryz.ntmps16 rfl rfl ?_; intro W
  refine jc_seq ?_
  refine jc_region ?_
  refine jl_h rfl rfl (hBox (cs := [_, _, _, _, _, _, _]) rfl rfl rfl rfl) ?_; rintro _ _ _ ⟨bx2, rfl, rfl, rfl⟩
  refine jp rfl ?_
  refine jl_nil ?_
  refine jT ?_
  refine jc_seq ?_
  refine jc_region ?_
  refine jl_q rfl rfl (qFieldAddr rfl rfl rfl rfl rfl) ?_
  refine jl_q rfl rfl (qLd rfl rfl rfl rfl (CJ.loc rfl)) ?_
  refine jl_h rfl rfl (hCall rfl rfl rfl rfl rfl (by kernel_rfl) (part_spec c.path M hT (by omega))) ?_; rintro _ M2 _ ⟨hM2, _, rfl, hpp⟩
  have hy := hpp.cases
  rcases hy with ⟨hno1, rfl, rfl⟩ | ⟨w1, a1, cc1, hso1, rfl, hW1, rfl⟩
  · iterate 7 refine jp rfl ?_
    refine jl_nil ?_
    refine jT ?_
    refine jc_seq ?_
    refine jc_seq ?_
    refine jc_region ?_
    refine jp rfl ?_
    refine jt rfl (decide_eq_true (by omega)) ?_
    iterate 15 refine jp rfl ?_
    refine jl_nil ?_
    refine jT ?_
    refine jc_yes rfl ?_
    refine jc_seq ?_
    refine jc_region ?_
    refine jp rfl ?_
    refine jl_nil ?_
    refine jT ?_
    refine jc_ret ?_
    refine jTr ?_
    refine jq_drop (L' := []) (List.nil_sublist _) ?_
    refine jr1 rfl rfl ?_
    refine ⟨congrArg Value.bool ?_, rfl⟩
    symm
    unfold onB
    rw [hno1]
  · iterate 7 refine jp rfl ?_
    refine jl_nil ?_
    refine jT ?_
    refine jc_seq ?_
    refine jc_seq ?_
    refine jc_region ?_
    refine jp rfl ?_
    refine jf rfl (decide_eq_false (by omega)) ?_
    iterate 3 refine jp rfl ?_
    refine js rfl (fun h23 => ?_) (fun h23 => ?_)
    · iterate 11 refine jp rfl ?_
      refine jl_nil ?_
      refine jT ?_
      refine jc_yes rfl ?_
      refine jc_seq ?_
      refine jc_region ?_
      refine jp rfl ?_
      refine jl_nil ?_
      refine jT ?_
      refine jc_ret ?_
      refine jTr ?_
      refine jq_drop (L' := []) (List.nil_sublist _) ?_
      refine jr1 rfl rfl ?_
      refine ⟨congrArg Value.bool ?_, rfl⟩
      symm
      unfold onB
      rw [hso1]; simp only
      rw [decide_eq_false (by omega : ¬ w1.1 = id)]; rfl
    · iterate 2 refine jp rfl ?_
      refine jl_q rfl rfl (qFieldAddr rfl rfl rfl rfl rfl) ?_
      refine jl_q rfl rfl (qLd rfl rfl rfl rfl (CJ.loc rfl)) ?_
      refine js rfl (fun h28 => ?_) (fun h28 => ?_)
      · iterate 6 refine jp rfl ?_
        refine jl_nil ?_
        refine jT ?_
        refine jc_yes rfl ?_
        refine jc_seq ?_
        refine jc_region ?_
        refine jp rfl ?_
        refine jl_nil ?_
        refine jT ?_
        refine jc_ret ?_
        refine jTr ?_
        refine jq_drop (L' := []) (List.nil_sublist _) ?_
        refine jr1 rfl rfl ?_
        refine ⟨congrArg Value.bool ?_, rfl⟩
        symm
        unfold onB
        rw [hso1]; simp only
        rw [decide_eq_false (by omega : ¬ 5 ≤ c.kind)]; simp
      · iterate 2 refine jp rfl ?_
        refine jl_q rfl rfl (qFieldAddr rfl rfl rfl rfl rfl) ?_
        refine jl_q rfl rfl (qLd rfl rfl rfl rfl (CJ.loc rfl)) ?_
        refine js rfl (fun h33 => ?_) (fun h33 => ?_)
        · refine jp rfl ?_
          refine jl_nil ?_
          refine jT ?_
          refine jc_yes rfl ?_
          refine jc_seq ?_
          refine jc_region ?_
          refine jp rfl ?_
          refine jl_nil ?_
          refine jT ?_
          refine jc_ret ?_
          refine jTr ?_
          refine jq_drop (L' := []) (List.nil_sublist _) ?_
          refine jr1 rfl rfl ?_
          refine ⟨congrArg Value.bool ?_, rfl⟩
          symm
          unfold onB
          rw [hso1]; simp only
          rw [decide_eq_false (by omega : ¬ c.kind ≤ 17)]; simp
        · refine jp rfl ?_
          refine jl_nil ?_
          refine jT ?_
          refine jc_no rfl ?_
          refine jc_skip ?_
          refine jT ?_
          refine jc_seq ?_
          refine jc_seq ?_
          refine jc_region ?_
          refine jl_q rfl rfl (qFieldAddr rfl rfl rfl rfl rfl) ?_
          refine jl_q rfl rfl (qLd rfl rfl rfl rfl (CJ.loc rfl)) ?_
          refine js rfl (fun h37 => ?_) (fun h37 => ?_)
          · iterate 10 refine jp rfl ?_
            refine jl_nil ?_
            refine jT ?_
            refine jc_yes rfl ?_
            refine jc_seq ?_
            refine jc_region ?_
            refine jl_q rfl rfl (qFieldAddr rfl rfl rfl rfl rfl) ?_
            refine jl_q rfl rfl (qLd rfl rfl rfl rfl (CJ.loc rfl)) ?_
            refine jl_h rfl rfl (hCall rfl rfl rfl rfl rfl (by kernel_rfl) (part_spec c.other M2 (hT.mono hM2) (by omega))) ?_; rintro _ M3 _ ⟨hM3, _, rfl, hpp⟩
            have hy := hpp.cases
            rcases hy with ⟨hno2, rfl, rfl⟩ | ⟨w2, a2, cc2, hso2, rfl, hW2, rfl⟩
            · iterate 7 refine jp rfl ?_
              refine jl_nil ?_
              refine jT ?_
              refine jc_seq ?_
              refine jc_region ?_
              refine jp rfl ?_
              refine jf rfl (decide_eq_false (by omega)) ?_
              iterate 6 refine jp rfl ?_
              refine jl_nil ?_
              refine jT ?_
              refine jc_ret ?_
              refine jTr ?_
              refine jq_drop (L' := []) (List.nil_sublist _) ?_
              refine jr1 rfl rfl ?_
              refine ⟨congrArg Value.bool ?_, rfl⟩
              symm
              unfold onB
              rw [hso1]; simp only
              rw [decide_eq_true (by omega : w1.1 = id), decide_eq_true (by omega : 5 ≤ c.kind), decide_eq_true (by omega : c.kind ≤ 17)]; simp only [Bool.and_self, Bool.true_and]
              rw [if_pos (by omega), hno2]
            · iterate 7 refine jp rfl ?_
              refine jl_nil ?_
              refine jT ?_
              refine jc_seq ?_
              refine jc_region ?_
              refine jp rfl ?_
              refine jt rfl (decide_eq_true (by omega)) ?_
              iterate 6 refine jp rfl ?_
              refine jl_nil ?_
              refine jT ?_
              refine jc_ret ?_
              refine jTr ?_
              refine jq_drop (L' := []) (List.nil_sublist _) ?_
              refine jr1 rfl rfl ?_
              refine ⟨congrArg Value.bool ?_, rfl⟩
              symm
              unfold onB
              rw [hso1]; simp only
              rw [decide_eq_true (by omega : w1.1 = id), decide_eq_true (by omega : 5 ≤ c.kind), decide_eq_true (by omega : c.kind ≤ 17)]; simp only [Bool.and_self, Bool.true_and]
              rw [if_pos (by omega), hso2]
          · refine jp rfl ?_
            refine jl_q rfl rfl (qFieldAddr rfl rfl rfl rfl rfl) ?_
            refine jl_q rfl rfl (qLd rfl rfl rfl rfl (CJ.loc rfl)) ?_
            refine js rfl (fun h41 => ?_) (fun h41 => ?_)
            · iterate 6 refine jp rfl ?_
              refine jl_nil ?_
              refine jT ?_
              refine jc_yes rfl ?_
              refine jc_seq ?_
              refine jc_region ?_
              refine jl_q rfl rfl (qFieldAddr rfl rfl rfl rfl rfl) ?_
              refine jl_q rfl rfl (qLd rfl rfl rfl rfl (CJ.loc rfl)) ?_
              refine jl_h rfl rfl (hCall rfl rfl rfl rfl rfl (by kernel_rfl) (part_spec c.other M2 (hT.mono hM2) (by omega))) ?_; rintro _ M3 _ ⟨hM3, _, rfl, hpp⟩
              have hy := hpp.cases
              rcases hy with ⟨hno2, rfl, rfl⟩ | ⟨w2, a2, cc2, hso2, rfl, hW2, rfl⟩
              · iterate 7 refine jp rfl ?_
                refine jl_nil ?_
                refine jT ?_
                refine jc_seq ?_
                refine jc_region ?_
                refine jp rfl ?_
                refine jf rfl (decide_eq_false (by omega)) ?_
                iterate 6 refine jp rfl ?_
                refine jl_nil ?_
                refine jT ?_
                refine jc_ret ?_
                refine jTr ?_
                refine jq_drop (L' := []) (List.nil_sublist _) ?_
                refine jr1 rfl rfl ?_
                refine ⟨congrArg Value.bool ?_, rfl⟩
                symm
                unfold onB
                rw [hso1]; simp only
                rw [decide_eq_true (by omega : w1.1 = id), decide_eq_true (by omega : 5 ≤ c.kind), decide_eq_true (by omega : c.kind ≤ 17)]; simp only [Bool.and_self, Bool.true_and]
                rw [if_pos (by omega), hno2]
              · iterate 7 refine jp rfl ?_
                refine jl_nil ?_
                refine jT ?_
                refine jc_seq ?_
                refine jc_region ?_
                refine jp rfl ?_
                refine jt rfl (decide_eq_true (by omega)) ?_
                iterate 6 refine jp rfl ?_
                refine jl_nil ?_
                refine jT ?_
                refine jc_ret ?_
                refine jTr ?_
                refine jq_drop (L' := []) (List.nil_sublist _) ?_
                refine jr1 rfl rfl ?_
                refine ⟨congrArg Value.bool ?_, rfl⟩
                symm
                unfold onB
                rw [hso1]; simp only
                rw [decide_eq_true (by omega : w1.1 = id), decide_eq_true (by omega : 5 ≤ c.kind), decide_eq_true (by omega : c.kind ≤ 17)]; simp only [Bool.and_self, Bool.true_and]
                rw [if_pos (by omega), hso2]
            · iterate 2 refine jp rfl ?_
              refine jl_q rfl rfl (qFieldAddr rfl rfl rfl rfl rfl) ?_
              refine jl_q rfl rfl (qLd rfl rfl rfl rfl (CJ.loc rfl)) ?_
              refine js rfl (fun h46 => ?_) (fun h46 => ?_)
              · refine jp rfl ?_
                refine jl_nil ?_
                refine jT ?_
                refine jc_yes rfl ?_
                refine jc_seq ?_
                refine jc_region ?_
                refine jl_q rfl rfl (qFieldAddr rfl rfl rfl rfl rfl) ?_
                refine jl_q rfl rfl (qLd rfl rfl rfl rfl (CJ.loc rfl)) ?_
                refine jl_h rfl rfl (hCall rfl rfl rfl rfl rfl (by kernel_rfl) (part_spec c.other M2 (hT.mono hM2) (by omega))) ?_; rintro _ M3 _ ⟨hM3, _, rfl, hpp⟩
                have hy := hpp.cases
                rcases hy with ⟨hno2, rfl, rfl⟩ | ⟨w2, a2, cc2, hso2, rfl, hW2, rfl⟩
                · iterate 7 refine jp rfl ?_
                  refine jl_nil ?_
                  refine jT ?_
                  refine jc_seq ?_
                  refine jc_region ?_
                  refine jp rfl ?_
                  refine jf rfl (decide_eq_false (by omega)) ?_
                  iterate 6 refine jp rfl ?_
                  refine jl_nil ?_
                  refine jT ?_
                  refine jc_ret ?_
                  refine jTr ?_
                  refine jq_drop (L' := []) (List.nil_sublist _) ?_
                  refine jr1 rfl rfl ?_
                  refine ⟨congrArg Value.bool ?_, rfl⟩
                  symm
                  unfold onB
                  rw [hso1]; simp only
                  rw [decide_eq_true (by omega : w1.1 = id), decide_eq_true (by omega : 5 ≤ c.kind), decide_eq_true (by omega : c.kind ≤ 17)]; simp only [Bool.and_self, Bool.true_and]
                  rw [if_pos (by omega), hno2]
                · iterate 7 refine jp rfl ?_
                  refine jl_nil ?_
                  refine jT ?_
                  refine jc_seq ?_
                  refine jc_region ?_
                  refine jp rfl ?_
                  refine jt rfl (decide_eq_true (by omega)) ?_
                  iterate 6 refine jp rfl ?_
                  refine jl_nil ?_
                  refine jT ?_
                  refine jc_ret ?_
                  refine jTr ?_
                  refine jq_drop (L' := []) (List.nil_sublist _) ?_
                  refine jr1 rfl rfl ?_
                  refine ⟨congrArg Value.bool ?_, rfl⟩
                  symm
                  unfold onB
                  rw [hso1]; simp only
                  rw [decide_eq_true (by omega : w1.1 = id), decide_eq_true (by omega : 5 ≤ c.kind), decide_eq_true (by omega : c.kind ≤ 17)]; simp only [Bool.and_self, Bool.true_and]
                  rw [if_pos (by omega), hso2]
              · refine jp rfl ?_
                refine jl_nil ?_
                refine jT ?_
                refine jc_no rfl ?_
                refine jc_skip ?_
                refine jT ?_
                refine jc_seq ?_
                refine jc_region ?_
                refine jp rfl ?_
                refine jl_nil ?_
                refine jT ?_
                refine jc_ret ?_
                refine jq_drop (L' := []) (List.nil_sublist _) ?_
                refine jr1 rfl rfl ?_
                refine ⟨congrArg Value.bool ?_, rfl⟩
                symm
                unfold onB
                rw [hso1]; simp only
                rw [decide_eq_true (by omega : w1.1 = id), decide_eq_true (by omega : 5 ≤ c.kind), decide_eq_true (by omega : c.kind ≤ 17)]; simp only [Bool.and_self, Bool.true_and]
                rw [if_neg (by omega)]


def kf (f : CL → Bool) (qs : List QC) (i : Nat) : List QC := (qs.take i).filter fun q => f q.1
theorem kf_snoc {f : CL → Bool} {qs : List QC} {i : Nat} (h1 : i < qs.length) : kf f qs (i + 1) = kf f qs i ++ if f qs[i].1 = true then [qs[i]] else [] := by
  unfold kf
  rw [List.take_succ_eq_append_getElem h1, List.filter_append]
  congr 1
  simp only [List.filter_cons, List.filter_nil]
theorem kf_len (f : CL → Bool) (qs : List QC) (i : Nat) : (kf f qs i).length ≤ i ∧ (kf f qs i).length ≤ qs.length := by
  unfold kf
  have h := List.length_filter_le (fun q : QC => f q.1) (qs.take i)
  rw [List.length_take] at h
  omega
theorem kf_mem {f : CL → Bool} {qs : List QC} {i : Nat} {q : QC} (h : q ∈ kf f qs i) : q ∈ qs ∧ f q.1 = true := by
  have h1 := List.mem_filter.1 h
  exact ⟨List.mem_of_mem_take h1.1, h1.2⟩
abbrev snapQ : QC := ({ kind := 2, path := ⟨#[]⟩, other := ⟨#[]⟩, a := 1, b := 0, c := 0, data := [] }, none, 0)
structure KfI (f : CL → Bool) (qs : List QC) (M : Mem) (i : Nat) (Mk : Mem) (v : Value) (R : Lc) : Prop where
  le : i ≤ qs.length
  mem : MLe M Mk
  own : Own v R 28 7 (kf f qs i).length ((kf f qs i).flatMap cF)
theorem apart_plain (ls so ow : List CL) (S1 : PS) (id : Int) (hS : S1 = (runI insB partF PS0 ls).1) (hid : id ≠ 1) (h1 : ∀ c ∈ so, onB c 1 = true) (h2 : ∀ c ∈ ow, onB c id = true) :
    ((runI insB partF PS0 (ls ++ ow)).2.drop ls.length) = (runI insB partF PS0 (ls ++ so ++ ow)).2.drop (ls.length + so.length) := by
  rw [runI_append, runI_append, runI_append]
  simp only
  rw [List.drop_left' runI_len, List.drop_left' (by rw [List.length_append, runI_len, runI_len]), ← hS]
  exact run_same (run_other hid h1).symm h2
theorem snap_last {qs : List QC} {ps : List QR} (h : ps.map (·.1) = (runI insB partF PS0 ((qs ++ [snapQ]).map (·.1))).2) (hl : qs.length < ps.length) : ps[qs.length].1 = (doI insB partF (runI insB partF PS0 (qs.map (·.1))).1 snapQ.1).2 := by
  rw [List.map_append, List.map_cons, List.map_nil, runI_snoc] at h
  have h2 := congrArg (fun l => l[qs.length]?) h
  simp only at h2
  rw [List.getElem?_map, List.getElem?_eq_getElem hl, List.getElem?_append_right (by rw [runI_len, List.length_map]; exact Nat.le_refl _), runI_len, List.length_map, Nat.sub_self] at h2
  simpa using h2

set_option maxHeartbeats 8000000 in
theorem modelApart_spec (qs os ts : List QC) (qa oa ta : Option Addr) (qc oc tc : Nat) (M : Mem) (hT : Tabs M) (hQ : CsR M qa qs) (hq1 : qs.length ≤ qc) (hq2 : qc ≤ maxLen) (hO : CsR M oa os) (ho1 : os.length ≤ oc) (ho2 : oc ≤ maxLen) (hS : CsR M ta ts) (ht1 : ts.length ≤ tc) (ht2 : tc ≤ maxLen) :
    SpecL Tryz.prog 6 #[.slice qa qs.length qc, .slice oa os.length oc, .slice ta ts.length tc] M [] fun u _ L' => u = .bool true ∧ L' = [] := by
  have hml : maxLen = 9223372036854775807 := by unfold maxLen; rfl
  refine spec_body (vs := [_, _, _]) 165 _ Tryz.func6 rfl Tryz.ntmps6 rfl rfl ?_; intro W
  refine jc_seq ?_
  refine jc_region ?_
  refine jp rfl ?_
  refine jl_nil ?_
  refine jT ?_
  refine jc_seq ?_
  refine jc_region ?_
  refine jl_h rfl rfl (hCall rfl rfl rfl rfl rfl (by kernel_rfl) (alive_spec M hT)) ?_; rintro _ M1 _ ⟨hM1, _, rfl, ⟨rfl, rfl⟩⟩
  refine jp rfl ?_
  refine jl_nil ?_
  refine jT ?_
  refine jc_seq ?_
  refine jc_seq ?_
  refine jc_region ?_
  refine jp rfl ?_
  refine jl_h rfl rfl (hCall rfl rfl rfl rfl rfl (by kernel_rfl) (great_spec qs qa qc 40 M1 (hQ.mono hM1) hq1 hq2)) ?_; rintro _ M2 _ ⟨hM2, _, rfl, ⟨⟨g1, rfl, hg1⟩, rfl⟩⟩
  refine jsb rfl (fun h26 => ?_) (fun h26 => ?_)
  · iterate 22 refine jp rfl ?_
    refine jl_nil ?_
    refine jT ?_
    refine jc_yes rfl ?_
    refine jc_seq ?_
    refine jc_region ?_
    iterate 2 refine jp rfl ?_
    refine jl_nil ?_
    refine jT ?_
    refine jc_ret ?_
    refine jTr ?_
    refine jq_drop (L' := []) (List.nil_sublist _) ?_
    refine jr1 rfl rfl ?_
    exact ⟨rfl, rfl⟩
  · refine jp rfl ?_
    refine jl_h rfl rfl (hCall rfl rfl rfl rfl rfl (by kernel_rfl) (great_spec os oa oc 40 M2 ((hO.mono hM1).mono hM2) ho1 ho2)) ?_; rintro _ M3 _ ⟨hM3, _, rfl, ⟨⟨g2, rfl, hg2⟩, rfl⟩⟩
    refine jp rfl ?_
    refine jsb rfl (fun h30 => ?_) (fun h30 => ?_)
    · iterate 18 refine jp rfl ?_
      refine jl_nil ?_
      refine jT ?_
      refine jc_yes rfl ?_
      refine jc_seq ?_
      refine jc_region ?_
      iterate 2 refine jp rfl ?_
      refine jl_nil ?_
      refine jT ?_
      refine jc_ret ?_
      refine jTr ?_
      refine jq_drop (L' := []) (List.nil_sublist _) ?_
      refine jr1 rfl rfl ?_
      exact ⟨rfl, rfl⟩
    · refine jp rfl ?_
      refine jl_h rfl rfl (hCall rfl rfl rfl rfl rfl (by kernel_rfl) (great_spec ts ta tc 40 M3 (((hS.mono hM1).mono hM2).mono hM3) ht1 ht2)) ?_; rintro _ M4 _ ⟨hM4, _, rfl, ⟨⟨g3, rfl, hg3⟩, rfl⟩⟩
      refine jp rfl ?_
      refine jsb rfl (fun h34 => ?_) (fun h34 => ?_)
      · iterate 14 refine jp rfl ?_
        refine jl_nil ?_
        refine jT ?_
        refine jc_yes rfl ?_
        refine jc_seq ?_
        refine jc_region ?_
        iterate 2 refine jp rfl ?_
        refine jl_nil ?_
        refine jT ?_
        refine jc_ret ?_
        refine jTr ?_
        refine jq_drop (L' := []) (List.nil_sublist _) ?_
        refine jr1 rfl rfl ?_
        exact ⟨rfl, rfl⟩
      · refine jp rfl ?_
        refine jl_q rfl rfl (qLen rfl rfl rfl) ?_
        refine jp rfl ?_
        refine jl_q rfl rfl (qLen rfl rfl rfl) ?_
        refine ja rfl (by first | omega | (have k1 := (hg1 h26).1; have k2 := (hg2 h30).1; have k3 := (hg3 h34).1; omega)) ?_
        refine jp rfl ?_
        refine jl_q rfl rfl (qLen rfl rfl rfl) ?_
        refine ja rfl (by first | omega | (have k1 := (hg1 h26).1; have k2 := (hg2 h30).1; have k3 := (hg3 h34).1; omega)) ?_
        refine js rfl (fun h43 => ?_) (fun h43 => ?_)
        · iterate 5 refine jp rfl ?_
          refine jl_nil ?_
          refine jT ?_
          refine jc_yes rfl ?_
          refine jc_seq ?_
          refine jc_region ?_
          iterate 2 refine jp rfl ?_
          refine jl_nil ?_
          refine jT ?_
          refine jc_ret ?_
          refine jTr ?_
          refine jq_drop (L' := []) (List.nil_sublist _) ?_
          refine jr1 rfl rfl ?_
          exact ⟨rfl, rfl⟩
        · iterate 5 refine jp rfl ?_
          refine jl_nil ?_
          refine jT ?_
          refine jc_no rfl ?_
          refine jc_skip ?_
          refine jT ?_
          refine jc_seq ?_
          refine jc_region ?_
          refine jp rfl ?_
          refine jl_nil ?_
          refine jT ?_
          refine jc_seq ?_
          have hM04 := ((hM1.trans hM2).trans hM3).trans hM4
          have hs1 := (hg1 h26).all (by omega)
          have hs2 := (hg2 h30).all (by omega)
          have hs3 := (hg3 h34).all (by omega)
          have hcQ : CsP M4 qa qs := (hQ.mono hM04).ok hs1
          have hcO4 : CsP M4 oa os := (hO.mono hM04).ok hs2
          have hcT4 : CsP M4 ta ts := (hS.mono hM04).ok hs3
          refine jc_region ?_
          iterate 2 refine jp rfl ?_
          refine jl_h rfl rfl (hAppendM (R := []) rfl rfl rfl rfl (Own.nil _ _) (flatm_len cF 7 cF_len qs) (hQ.1.mono hM04) rfl (cFs_one qs) (by omega) (by omega)) ?_; rintro v1 _ _ ⟨rfl, R1, rfl, hown1⟩
          refine jp rfl ?_
          refine jl_nil ?_
          refine jT ?_
          refine jc_seq ?_
          refine jc_region ?_
          refine jp rfl ?_
          refine jl_q rfl rfl (qBuild (cs := [_, _, _, _, _, _, _]) rfl rfl rfl (by rfl)) ?_
          refine jl_h rfl rfl (hBuildSlice (cs := [_, _, _, _, _, _, _]) rfl rfl rfl (by rfl) (by rfl) (by rfl)) ?_; rintro _ _ _ ⟨b55, rfl, rfl, rfl⟩
          refine jl_h rfl rfl (hAppend (R := R1) (news := cF snapQ) rfl rfl rfl rfl hown1 rfl (fun j v hv => CJ.loc (by rw [Nat.zero_add]; exact hv)) rfl rfl (cF_one _) (by omega) (by omega)) ?_; rintro v2 _ _ ⟨rfl, R2, rfl, hown2, _⟩
          refine jp rfl ?_
          refine jl_nil ?_
          refine jT ?_
          refine jc_seq ?_
          refine jc_own hown2 (by simp) ?_
          intro M5 a5 c5 hM5 e5 hc5 hs5
          subst e5
          have hM05 := hM04.trans hM5
          have hcO := hcO4.mono hM5
          have hcT := hcT4.mono hM5
          have hfe : (qs ++ [snapQ]).flatMap cF = [] ++ qs.flatMap cF ++ cF snapQ := by simp
          have hcl : CsP M5 a5 (qs ++ [snapQ]) := ⟨by rw [hfe]; exact hs5, fun q hq => by
            rcases List.mem_append.1 hq with h | h
            · exact (hcQ.mono hM5).2 q h
            · rw [List.mem_singleton.1 h]; exact ⟨CallOk.plain _ _ _ _ _ _ (by unfold InI64; omega) in0 in0, by decide, by decide⟩⟩
          refine jc_region ?_
          refine jp rfl ?_
          refine jl_h rfl rfl (hCall rfl rfl rfl rfl rfl (by kernel_rfl) (play_at (qs ++ [snapQ]) (0 + qs.length + 1) (by rw [List.length_append]; simp) a5 c5 M5 (hT.mono hM05) hcl (by omega))) ?_; rintro _ M6 _ ⟨hM6, _, rfl, ⟨⟨a6, c6, ps, rfl, hc6, hcm6, hps, hrs⟩, rfl⟩⟩
          have hl1 : ps.length = qs.length + 1 := by have := congrArg List.length hps; rw [List.length_map, runI_len, List.length_map, List.length_append] at this; exact this
          have hln : qs.length < ps.length := by omega
          have hlast := snap_last hps hln
          rw [List.length_append, List.length_singleton] at hc6
          simp only [List.length_append, List.length_singleton]
          obtain ⟨qb, qo, e0, hx0⟩ := flat_sm rF_len hrs.1 hln (by omega)
          subst e0
          have hlz : ∀ j v, (rF ps[qs.length])[j]? = some v → CM M6 qb (qo + ((((qs.length + 1 : Nat) : Int) - 1)).toNat * 8 + j) v := fun j v hv => by
            rw [show ((((qs.length + 1 : Nat) : Int) - 1)).toNat = qs.length by omega]; exact hx0 j v hv
          iterate 5 refine jp rfl ?_
          refine jl_nil ?_
          refine jT ?_
          refine jc_seq ?_
          refine jc_seq ?_
          refine jc_region ?_
          refine jp rfl ?_
          refine jf rfl (decide_eq_false (by first | omega | (have k1 := (hg1 h26).1; have k2 := (hg2 h30).1; have k3 := (hg3 h34).1; omega))) ?_
          iterate 3 refine jp rfl ?_
          refine jl_q rfl rfl (qLen rfl rfl rfl) ?_
          refine ja rfl (by first | omega | (have k1 := (hg1 h26).1; have k2 := (hg2 h30).1; have k3 := (hg3 h34).1; omega)) ?_
          refine jl_q rfl rfl (qIdxS rfl rfl rfl rfl (by omega)) ?_
          refine jl_q rfl rfl (qFieldAddr rfl rfl rfl rfl rfl) ?_
          refine jl_q rfl rfl (qLd rfl rfl rfl rfl ((hlz 0 _ rfl).cj _)) ?_
          refine js rfl (fun h72 => ?_) (fun h72 => ?_)
          · refine jp rfl ?_
            refine jl_nil ?_
            refine jT ?_
            refine jc_yes rfl ?_
            refine jc_seq ?_
            refine jc_region ?_
            iterate 3 refine jp rfl ?_
            refine jl_nil ?_
            refine jT ?_
            refine jc_ret ?_
            refine jTr ?_
            refine jq_drop (L' := []) (List.nil_sublist _) ?_
            refine jr1 rfl rfl ?_
            exact ⟨congrArg Value.bool (decide_eq_true rfl), rfl⟩
          · refine jp rfl ?_
            refine jl_nil ?_
            refine jT ?_
            refine jc_no rfl ?_
            refine jc_skip ?_
            refine jT ?_
            refine jc_seq ?_
            refine jc_region ?_
            iterate 2 refine jp rfl ?_
            refine jl_q rfl rfl (qLen rfl rfl rfl) ?_
            refine ja rfl (by first | omega | (have k1 := (hg1 h26).1; have k2 := (hg2 h30).1; have k3 := (hg3 h34).1; omega)) ?_
            refine jl_q rfl rfl (qIdxS rfl rfl rfl rfl (by omega)) ?_
            refine jl_q rfl rfl (qFieldAddr rfl rfl rfl rfl rfl) ?_
            refine jl_q rfl rfl (qLd rfl rfl rfl rfl ((hlz 1 _ rfl).cj _)) ?_
            refine jp rfl ?_
            refine jl_nil ?_
            refine jT ?_
            refine jc_seq ?_
            refine jc_region ?_
            refine jp rfl ?_
            refine jl_nil ?_
            refine jT ?_
            refine jc_seq ?_
            refine jc_seq ?_
            refine jc_region ?_
            refine jp rfl ?_
            refine jl_nil ?_
            refine jT ?_
            refine jc_block ?_
            refine jc_loopK (α := Nat × Mem × Value × Lc) (fun z => [(1, .slice oa os.length oc), (2, .slice ta ts.length tc), (8, .slice a5 (0 + qs.length + 1) c5), (11, .int .i64 ps[qs.length].1.id), (12, z.2.2.1), (13, .int .i64 z.1)]) (fun z => z.2.1) (fun z => z.2.2.2) (fun z => KfI (fun c => onB c 1) os M6 z.1 z.2.1 z.2.2.1 z.2.2.2) (fun z => os.length - z.1)
              (0, M6, .slice none 0 0, []) (Keep.cons (t := 1) rfl (Keep.cons (t := 2) rfl (Keep.cons (t := 8) rfl (Keep.cons (t := 11) rfl (Keep.cons (t := 12) rfl (Keep.cons (t := 13) rfl Keep.nil)))))) ⟨Nat.zero_le _, MLe.refl _, Own.nil _ _⟩ (fun _ h => h.subC fun f => by simp only [List.map_append, List.map_cons, List.map_nil, List.sum_append, List.sum_cons, List.sum_nil]; omega) ?_
            rintro ⟨i, Mk, v12, R12⟩ hI
            try dsimp only at hI ⊢
            have hile : i ≤ os.length := hI.le
            refine jc_seq ?_
            refine jc_seq ?_
            refine jc_region ?_
            iterate 2 refine jp rfl ?_
            refine jl_q rfl rfl (qLen rfl rfl rfl) ?_
            refine js rfl (fun h86 => ?_) (fun h86 => ?_)
            · refine jl_nil ?_
              refine jT ?_
              refine jc_yes rfl ?_
              refine jc_skip ?_
              refine jT ?_
              refine jc_seq ?_
              refine jc_block ?_
              refine jc_seq ?_
              refine jc_region ?_
              iterate 2 refine jp rfl ?_
              have hk1 : i < os.length := by omega
              obtain ⟨qb1, qo1, e1, x1⟩ := flat_sm cF_len (hcO.1.mono (hM6.trans hI.mem)) hk1 (by omega)
              subst e1
              have hcq := hcO.2 os[i] (List.getElem_mem hk1)
              refine jl_q rfl rfl (qIdxS rfl rfl rfl rfl (by omega)) ?_
              refine jl_q rfl rfl (qLdA (cs := clCells os[i].1 os[i].2.1 os[i].2.2) rfl rfl rfl rfl rfl (fun j v hv => by rw [Int.toNat_natCast]; exact ((x1 j v hv)).cj _)) ?_
              refine jl_h rfl rfl (hCall rfl rfl rfl rfl rfl (by kernel_rfl) (on_spec os[i].1 os[i].2.1 os[i].2.2 1 Mk (hT.mono ((hM05.trans hM6).trans hI.mem)) hcq.2)) ?_; rintro _ Mn _ ⟨hMn, _, rfl, ⟨rfl, rfl⟩⟩
              refine jl_nil ?_
              refine jT ?_
              refine jc_if rfl (fun h93 => ?_) (fun h93 => ?_)
              · refine jc_region ?_
                iterate 3 refine jp rfl ?_
                refine jl_q rfl rfl (qIdxS rfl rfl rfl rfl (by omega)) ?_
                refine jl_q rfl rfl (qLdA (cs := clCells os[i].1 os[i].2.1 os[i].2.2) rfl rfl rfl rfl rfl (fun j v hv => by rw [Int.toNat_natCast]; exact ((x1 j v hv).mono hMn).cj _)) ?_
                refine jl_h rfl rfl (hBuildSlice (cs := [_, _, _, _, _, _, _]) rfl rfl rfl (by rfl) (by rfl) (by rfl)) ?_; rintro _ _ _ ⟨b99, rfl, rfl, rfl⟩
                have hkn := kf_len (fun c => onB c 1) os i
                refine jl_h rfl rfl (hAppend (R := R12) (news := cF os[i]) rfl rfl rfl rfl hI.own rfl (fun j v hv => CJ.loc (by rw [Nat.zero_add]; unfold cF at hv; simpa using hv)) rfl rfl (cF_one _) (by omega) (by omega)) ?_; rintro w6 _ _ ⟨rfl, R6b, rfl, hw6, _⟩
                refine jp rfl ?_
                refine jl_nil ?_
                refine jB ?_
                refine jT ?_
                refine jc_region ?_
                refine jp rfl ?_
                refine ja rfl (by first | omega | (have k1 := (hg1 h26).1; have k2 := (hg2 h30).1; have k3 := (hg3 h34).1; omega)) ?_
                refine jp rfl ?_
                refine jl_nil ?_
                have hks : kf (fun c => onB c 1) os (i + 1) = kf (fun c => onB c 1) os i ++ [os[i]] := by rw [kf_snoc hk1, if_pos (by assumption)]
                refine j_again (i + 1, Mn, w6, R6b) (Keep.cons (t := 1) rfl (Keep.cons (t := 2) rfl (Keep.cons (t := 8) rfl (Keep.cons (t := 11) rfl (Keep.cons (t := 12) rfl (Keep.cons (t := 13) rfl Keep.nil)))))) ⟨by show i + 1 ≤ _; omega, hI.mem.trans hMn, ?_⟩ (by show os.length - (i + 1) < os.length - i; omega) (fun _ h => h.subC fun f => by simp only [List.map_append, List.map_cons, List.map_nil, List.sum_append, List.sum_cons, List.sum_nil]; omega)
                show Own w6 R6b _ 7 (kf (fun c => onB c 1) os (i + 1)).length _; rw [hks, List.flatMap_append, List.length_append]; simpa using hw6
              · refine jc_skip ?_
                refine jB ?_
                refine jT ?_
                refine jc_region ?_
                refine jp rfl ?_
                refine ja rfl (by first | omega | (have k1 := (hg1 h26).1; have k2 := (hg2 h30).1; have k3 := (hg3 h34).1; omega)) ?_
                refine jp rfl ?_
                refine jl_nil ?_
                have hks : kf (fun c => onB c 1) os (i + 1) = kf (fun c => onB c 1) os i := by rw [kf_snoc hk1, if_neg (by simp_all), List.append_nil]
                refine j_again (i + 1, Mn, v12, R12) (Keep.cons (t := 1) rfl (Keep.cons (t := 2) rfl (Keep.cons (t := 8) rfl (Keep.cons (t := 11) rfl (Keep.cons (t := 12) rfl (Keep.cons (t := 13) rfl Keep.nil)))))) ⟨by show i + 1 ≤ _; omega, hI.mem.trans hMn, ?_⟩ (by show os.length - (i + 1) < os.length - i; omega) (fun _ h => h)
                show Own v12 R12 _ 7 (kf (fun c => onB c 1) os (i + 1)).length _; rw [hks]; exact hI.own
            · refine jl_nil ?_
              refine jT ?_
              refine jc_no rfl ?_
              refine jc_exit ?_
              refine jTx ?_
              refine jTx ?_
              refine jBx ?_
              refine jT ?_
              refine jc_seq ?_
              obtain rfl : i = os.length := by have := hI.le; omega
              have hI0 := hI
              have hM07 : MLe M Mk := (hM05.trans hM6).trans hI.mem
              obtain ⟨M7, hM7e⟩ : ∃ M7, M7 = Mk := ⟨_, rfl⟩
              rw [← hM7e] at hM07 hI0 ⊢
              clear hM7e
              refine jc_region ?_
              refine jp rfl ?_
              refine jl_nil ?_
              refine jT ?_
              refine jc_seq ?_
              refine jc_seq ?_
              refine jc_region ?_
              refine jp rfl ?_
              refine jl_nil ?_
              refine jT ?_
              refine jc_block ?_
              have hw12 := hI0.own
              refine jc_loopK (α := Nat × Mem × Value × Lc) (fun z => [(2, .slice ta ts.length tc), (8, .slice a5 (0 + qs.length + 1) c5), (11, .int .i64 ps[qs.length].1.id), (12, v12), (14, z.2.2.1), (15, .int .i64 z.1)]) (fun z => z.2.1) (fun z => R12 ++ z.2.2.2) (fun z => KfI (fun c => onB c ps[qs.length].1.id) ts M7 z.1 z.2.1 z.2.2.1 z.2.2.2) (fun z => ts.length - z.1)
                (0, M7, .slice none 0 0, []) (Keep.cons (t := 2) rfl (Keep.cons (t := 8) rfl (Keep.cons (t := 11) rfl (Keep.cons (t := 12) rfl (Keep.cons (t := 14) rfl (Keep.cons (t := 15) rfl Keep.nil)))))) ⟨Nat.zero_le _, MLe.refl _, Own.nil _ _⟩ (fun _ h => h.subC fun f => by simp only [List.map_append, List.map_cons, List.map_nil, List.sum_append, List.sum_cons, List.sum_nil]; omega) ?_
              clear hI
              rintro ⟨i, Mk, v6, R6⟩ hI
              try dsimp only at hI ⊢
              have hile : i ≤ ts.length := hI.le
              refine jc_seq ?_
              refine jc_seq ?_
              refine jc_region ?_
              iterate 2 refine jp rfl ?_
              refine jl_q rfl rfl (qLen rfl rfl rfl) ?_
              refine js rfl (fun h104 => ?_) (fun h104 => ?_)
              · refine jl_nil ?_
                refine jT ?_
                refine jc_yes rfl ?_
                refine jc_skip ?_
                refine jT ?_
                refine jc_seq ?_
                refine jc_block ?_
                refine jc_seq ?_
                refine jc_region ?_
                iterate 2 refine jp rfl ?_
                have hk1 : i < ts.length := by omega
                obtain ⟨qb1, qo1, e1, x1⟩ := flat_sm cF_len (hcT.1.mono ((hM6.trans hI0.mem).trans hI.mem)) hk1 (by omega)
                subst e1
                have hcq := hcT.2 ts[i] (List.getElem_mem hk1)
                refine jl_q rfl rfl (qIdxS rfl rfl rfl rfl (by omega)) ?_
                refine jl_q rfl rfl (qLdA (cs := clCells ts[i].1 ts[i].2.1 ts[i].2.2) rfl rfl rfl rfl rfl (fun j v hv => by rw [Int.toNat_natCast]; exact ((x1 j v hv)).cj _)) ?_
                refine jp rfl ?_
                refine jl_h rfl rfl (hCall rfl rfl rfl rfl rfl (by kernel_rfl) (on_spec ts[i].1 ts[i].2.1 ts[i].2.2 ps[qs.length].1.id Mk (hT.mono (hM07.trans hI.mem)) hcq.2)) ?_; rintro _ Mn _ ⟨hMn, _, rfl, ⟨rfl, rfl⟩⟩
                refine jl_nil ?_
                refine jT ?_
                refine jc_if rfl (fun h112 => ?_) (fun h112 => ?_)
                · refine jc_region ?_
                  iterate 3 refine jp rfl ?_
                  refine jl_q rfl rfl (qIdxS rfl rfl rfl rfl (by omega)) ?_
                  refine jl_q rfl rfl (qLdA (cs := clCells ts[i].1 ts[i].2.1 ts[i].2.2) rfl rfl rfl rfl rfl (fun j v hv => by rw [Int.toNat_natCast]; exact ((x1 j v hv).mono hMn).cj _)) ?_
                  refine jl_h rfl rfl (hBuildSlice (cs := [_, _, _, _, _, _, _]) rfl rfl rfl (by rfl) (by rfl) (by rfl)) ?_; rintro _ _ _ ⟨b118, rfl, rfl, rfl⟩
                  have hkn := kf_len (fun c => onB c ps[qs.length].1.id) ts i
                  refine jl_h rfl rfl (hAppend (R := R6) (news := cF ts[i]) rfl rfl rfl rfl hI.own rfl (fun j v hv => CJ.loc (by rw [Nat.zero_add]; unfold cF at hv; simpa using hv)) rfl rfl (cF_one _) (by omega) (by omega)) ?_; rintro w6 _ _ ⟨rfl, R6b, rfl, hw6, _⟩
                  refine jp rfl ?_
                  refine jl_nil ?_
                  refine jB ?_
                  refine jT ?_
                  refine jc_region ?_
                  refine jp rfl ?_
                  refine ja rfl (by first | omega | (have k1 := (hg1 h26).1; have k2 := (hg2 h30).1; have k3 := (hg3 h34).1; omega)) ?_
                  refine jp rfl ?_
                  refine jl_nil ?_
                  have hks : kf (fun c => onB c ps[qs.length].1.id) ts (i + 1) = kf (fun c => onB c ps[qs.length].1.id) ts i ++ [ts[i]] := by rw [kf_snoc hk1, if_pos (by assumption)]
                  refine j_again (i + 1, Mn, w6, R6b) (Keep.cons (t := 2) rfl (Keep.cons (t := 8) rfl (Keep.cons (t := 11) rfl (Keep.cons (t := 12) rfl (Keep.cons (t := 14) rfl (Keep.cons (t := 15) rfl Keep.nil)))))) ⟨by show i + 1 ≤ _; omega, hI.mem.trans hMn, ?_⟩ (by show ts.length - (i + 1) < ts.length - i; omega) (fun _ h => h.subC fun f => by simp only [List.map_append, List.map_cons, List.map_nil, List.sum_append, List.sum_cons, List.sum_nil]; omega)
                  show Own w6 R6b _ 7 (kf (fun c => onB c ps[qs.length].1.id) ts (i + 1)).length _; rw [hks, List.flatMap_append, List.length_append]; simpa using hw6
                · refine jc_skip ?_
                  refine jB ?_
                  refine jT ?_
                  refine jc_region ?_
                  refine jp rfl ?_
                  refine ja rfl (by first | omega | (have k1 := (hg1 h26).1; have k2 := (hg2 h30).1; have k3 := (hg3 h34).1; omega)) ?_
                  refine jp rfl ?_
                  refine jl_nil ?_
                  have hks : kf (fun c => onB c ps[qs.length].1.id) ts (i + 1) = kf (fun c => onB c ps[qs.length].1.id) ts i := by rw [kf_snoc hk1, if_neg (by simp_all), List.append_nil]
                  refine j_again (i + 1, Mn, v6, R6) (Keep.cons (t := 2) rfl (Keep.cons (t := 8) rfl (Keep.cons (t := 11) rfl (Keep.cons (t := 12) rfl (Keep.cons (t := 14) rfl (Keep.cons (t := 15) rfl Keep.nil)))))) ⟨by show i + 1 ≤ _; omega, hI.mem.trans hMn, ?_⟩ (by show ts.length - (i + 1) < ts.length - i; omega) (fun _ h => h)
                  show Own v6 R6 _ 7 (kf (fun c => onB c ps[qs.length].1.id) ts (i + 1)).length _; rw [hks]; exact hI.own
              · refine jl_nil ?_
                refine jT ?_
                refine jc_no rfl ?_
                refine jc_exit ?_
                refine jTx ?_
                refine jTx ?_
                refine jBx ?_
                refine jT ?_
                refine jc_seq ?_
                obtain rfl : i = ts.length := by have := hI.le; omega
                obtain ⟨ko, hko⟩ : ∃ ko, kf (fun c => onB c 1) os os.length = ko := ⟨_, rfl⟩
                obtain ⟨kt, hkt⟩ : ∃ kt, kf (fun c => onB c ps[qs.length].1.id) ts ts.length = kt := ⟨_, rfl⟩
                have hkm1 : ∀ q ∈ ko, q ∈ os ∧ onB q.1 1 = true := fun q hq => kf_mem (f := (fun c => onB c 1)) (by rw [hko]; exact hq)
                have hkm2 : ∀ q ∈ kt, q ∈ ts ∧ onB q.1 ps[qs.length].1.id = true := fun q hq => kf_mem (f := (fun c => onB c ps[qs.length].1.id)) (by rw [hkt]; exact hq)
                have hn1 := (kf_len (fun c => onB c 1) os os.length).2
                have hn2 := (kf_len (fun c => onB c ps[qs.length].1.id) ts ts.length).2
                have hw1 := hI0.own
                have hw2 := hI.own
                rw [hko] at hw1 hn1
                rw [hkt] at hw2 hn2
                refine jc_own hw1 (by simp) ?_
                intro M8 a12 c12 hM8 e12 hc12 hs12a
                subst e12
                refine jc_own hw2 (by simp) ?_
                intro M9 a14 c14 hM9 e14 hc14 hs14
                subst e14
                have hs12 := hs12a.mono hM9
                have hM69 : MLe M6 M9 := ((hI0.mem.trans hI.mem).trans hM8).trans hM9
                have hl5 : SM M9 a5 ((qs ++ [snapQ]).flatMap cF) := (hcl.1.mono hM6).mono hM69
                have hfl : ((qs ++ [snapQ]).flatMap cF).length = (0 + qs.length + 1) * 7 := by rw [flatm_len cF 7 cF_len, List.length_append, List.length_singleton]; omega
                have hfo := cFs_one (qs ++ [snapQ])
                have hsid := snap_id (by have := play_wfs (qs.map (·.1)) qs.length (by rw [List.length_map]; exact Nat.le_refl _); rw [List.take_of_length_le (by rw [List.length_map]; exact Nat.le_refl _)] at this; exact this) (c := snapQ.1) rfl rfl rfl (by rw [← hlast]; omega)
                have hid1 : ps[qs.length].1.id ≠ 1 := by rw [hlast, hsid.1]; have := hsid.2.1; omega
                refine jc_region ?_
                refine jp rfl ?_
                refine jl_nil ?_
                refine jT ?_
                refine jc_seq ?_
                refine jc_region ?_
                iterate 2 refine jp rfl ?_
                refine jl_h rfl rfl (hAppendM (R := []) rfl rfl rfl rfl (Own.nil _ _) hfl hl5 rfl hfo (by omega) (by omega)) ?_; rintro x1v _ _ ⟨rfl, X1, rfl, hx1⟩
                refine jp rfl ?_
                refine jl_nil ?_
                refine jT ?_
                refine jc_seq ?_
                refine jc_region ?_
                iterate 2 refine jp rfl ?_
                refine jl_h rfl rfl (hAppendM (R := X1) rfl rfl rfl rfl hx1 (flatm_len cF 7 cF_len kt) hs14 rfl (cFs_one kt) (by omega) (by omega)) ?_; rintro x2v _ _ ⟨rfl, X2, rfl, hx2⟩
                refine jp rfl ?_
                refine jl_nil ?_
                refine jT ?_
                refine jc_seq ?_
                refine jc_region ?_
                refine jp rfl ?_
                refine jl_nil ?_
                refine jT ?_
                refine jc_seq ?_
                refine jc_region ?_
                iterate 2 refine jp rfl ?_
                refine jl_h rfl rfl (hAppendM (R := []) rfl rfl rfl rfl (Own.nil _ _) hfl hl5 rfl hfo (by omega) (by omega)) ?_; rintro y1v _ _ ⟨rfl, Y1, rfl, hy1⟩
                refine jp rfl ?_
                refine jl_nil ?_
                refine jT ?_
                refine jc_seq ?_
                refine jc_region ?_
                iterate 2 refine jp rfl ?_
                refine jl_h rfl rfl (hAppendM (R := Y1) rfl rfl rfl rfl hy1 (flatm_len cF 7 cF_len ko) hs12 rfl (cFs_one ko) (by omega) (by omega)) ?_; rintro y2v _ _ ⟨rfl, Y2, rfl, hy2⟩
                refine jp rfl ?_
                refine jl_nil ?_
                refine jT ?_
                refine jc_seq ?_
                refine jc_region ?_
                iterate 2 refine jp rfl ?_
                refine jl_h rfl rfl (hAppendM (R := Y2) rfl rfl rfl rfl hy2 (flatm_len cF 7 cF_len kt) hs14 rfl (cFs_one kt) (by omega) (by omega)) ?_; rintro y3v _ _ ⟨rfl, Y3, rfl, hy3⟩
                refine jp rfl ?_
                refine jl_nil ?_
                refine jT ?_
                refine jc_seq ?_
                refine jc_own hx2 (by simp) ?_
                intro M10a a16 c16 hM10a e16 hc16 hs16
                subst e16
                refine jc_own hy3 (by simp) ?_
                intro M10 a17 c17 hM10b e17 hc17 hs17
                subst e17
                have hM610 : MLe M6 M10 := (hM69.trans hM10a).trans hM10b
                have hT10 : Tabs M10 := hT.mono ((hM05.trans hM6).trans hM610)
                have hall : ∀ q, q ∈ qs ++ [snapQ] ∨ q ∈ os ∨ q ∈ ts → CallOk M10 q.1 q.2.1 q.2.2 ∧ q.1.path.size ≤ 100000 ∧ q.1.other.size ≤ 100000 := fun q hq => by
                  rcases hq with h | h | h
                  · exact ((hcl.mono hM6).mono hM610).2 q h
                  · exact ((hcO.mono hM6).mono hM610).2 q h
                  · exact ((hcT.mono hM6).mono hM610).2 q h
                have hcs16 : CsP M10 a16 (qs ++ [snapQ] ++ kt) := ⟨by rw [List.flatMap_append]; exact hs16.mono hM10b, fun q hq => by
                  rcases List.mem_append.1 hq with h | h
                  · exact hall q (.inl h)
                  · exact hall q (.inr (.inr (hkm2 q h).1))⟩
                have hcs17 : CsP M10 a17 (qs ++ [snapQ] ++ ko ++ kt) := ⟨by rw [List.flatMap_append, List.flatMap_append]; exact hs17, fun q hq => by
                  rcases List.mem_append.1 hq with h | h
                  · rcases List.mem_append.1 h with h | h
                    · exact hall q (.inl h)
                    · exact hall q (.inr (.inl (hkm1 q h).1))
                  · exact hall q (.inr (.inr (hkm2 q h).1))⟩
                refine jc_region ?_
                refine jp rfl ?_
                refine jl_h rfl rfl (hCall rfl rfl rfl rfl rfl (by kernel_rfl) (play_at (qs ++ [snapQ] ++ kt) (0 + (0 + qs.length + 1) + kt.length) (by simp only [List.length_append, List.length_singleton]; omega) a16 c16 M10 hT10 hcs16 (by omega))) ?_; rintro _ M11 _ ⟨hM11, _, rfl, ⟨⟨ax, cx, psx, rfl, hcx, hcmx, hpsx, hrsx⟩, rfl⟩⟩
                simp only [List.length_append, List.length_singleton] at hcx
                simp only [List.length_append, List.length_singleton]
                iterate 5 refine jp rfl ?_
                refine jl_nil ?_
                refine jT ?_
                refine jc_seq ?_
                refine jc_region ?_
                refine jp rfl ?_
                refine jl_h rfl rfl (hCall rfl rfl rfl rfl rfl (by kernel_rfl) (play_at (qs ++ [snapQ] ++ ko ++ kt) (0 + (0 + qs.length + 1) + ko.length + kt.length) (by simp only [List.length_append, List.length_singleton]; omega) a17 c17 M11 (hT10.mono hM11) (hcs17.mono hM11) (by omega))) ?_; rintro _ M12 _ ⟨hM12, _, rfl, ⟨⟨ay, cy, psy, rfl, hcy, hcmy, hpsy, hrsy⟩, rfl⟩⟩
                simp only [List.length_append, List.length_singleton] at hcy
                simp only [List.length_append, List.length_singleton]
                iterate 5 refine jp rfl ?_
                refine jl_nil ?_
                refine jT ?_
                refine jc_seq ?_
                refine jc_region ?_
                refine jp rfl ?_
                refine jl_q rfl rfl (qLen rfl rfl rfl) ?_
                refine jp rfl ?_
                refine jl_nil ?_
                refine jT ?_
                refine jc_seq ?_
                refine jc_draw [(0, true), (1, true), (2, true), (3, true), (4, true), (5, true), (6, true), (7, true), (8, true), (9, true), (10, true), (11, true), (12, true), (13, true), (14, true), (15, true), (16, false), (17, true), (18, true)] [] (by kernel_rfl) (by kernel_rfl) (by kernel_rfl) rfl (by simp) ?_
                refine dp rfl rfl ?_
                refine dt rfl rfl (decide_eq_true (by first | omega | (have k1 := (hg1 h26).1; have k2 := (hg2 h30).1; have k3 := (hg3 h34).1; omega))) ?_
                iterate 2 refine dp rfl rfl ?_
                refine dt rfl rfl (decide_eq_true (by first | omega | (have k1 := (hg1 h26).1; have k2 := (hg2 h30).1; have k3 := (hg3 h34).1; omega))) ?_
                iterate 4 refine dp rfl rfl ?_
                refine jd_q rfl rfl rfl (qEq (v' := .slice (slA ax (0 + qs.length + 1) cx 8) kt.length (cx - (0 + qs.length + 1))) (qSl rfl rfl rfl (.no _) (.no _) (.of (v := 0 + qs.length + 1) rfl (by omega) (by omega)) (by omega) (by simp)) (by congr 1; omega)) ?_
                iterate 3 refine dp rfl rfl ?_
                refine jd_q rfl rfl rfl (qLen rfl rfl rfl) ?_
                refine da rfl rfl (by first | omega | (have k1 := (hg1 h26).1; have k2 := (hg2 h30).1; have k3 := (hg3 h34).1; omega)) ?_
                refine jd_q rfl rfl rfl (qEq (v' := .slice (slA ay (0 + qs.length + 1 + ko.length) cy 8) kt.length (cy - (0 + qs.length + 1 + ko.length))) (qSl rfl rfl rfl (.no _) (.no _) (.of (v := 0 + qs.length + 1 + ko.length) rfl (by omega) (by omega)) (by omega) (by simp)) (by congr 1; omega)) ?_
                have hlx : psx.length = qs.length + 1 + kt.length := by have := congrArg List.length hpsx; rw [List.length_map, runI_len, List.length_map] at this; simpa only [List.length_append, List.length_singleton] using this
                have hly : psy.length = qs.length + 1 + ko.length + kt.length := by have := congrArg List.length hpsy; rw [List.length_map, runI_len, List.length_map] at this; simpa only [List.length_append, List.length_singleton] using this
                have hmm : (psx.drop (0 + qs.length + 1)).map (·.1) = (psy.drop (0 + qs.length + 1 + ko.length)).map (·.1) := by
                  rw [List.map_drop, List.map_drop, hpsx, hpsy, List.map_append, List.map_append, List.map_append]
                  have := apart_plain ((qs ++ [snapQ]).map (·.1)) (ko.map (·.1)) (kt.map (·.1)) _ ps[qs.length].1.id rfl hid1 (fun c hc => by obtain ⟨q, hq, rfl⟩ := List.mem_map.1 hc; exact (hkm1 q hq).2) (fun c hc => by obtain ⟨q, hq, rfl⟩ := List.mem_map.1 hc; exact (hkm2 q hq).2)
                  simp only [List.map_append, List.length_append, List.length_map, List.length_singleton, Nat.zero_add] at this ⊢
                  exact this
                refine jd_h rfl rfl rfl (hCall rfl rfl rfl rfl rfl (by kernel_rfl) (by have := sameall_spec (psx.drop (0 + qs.length + 1)) (psy.drop (0 + qs.length + 1 + ko.length)) (slA ax (0 + qs.length + 1) cx 8) (slA ay (0 + qs.length + 1 + ko.length) cy 8) (cx - (0 + qs.length + 1)) (cy - (0 + qs.length + 1 + ko.length)) M12 hmm ((hrsx.mono hM12).drop (by omega) (by omega)) (hrsy.drop (by omega) (by omega)) (by rw [List.length_drop]; omega); rw [List.length_drop, show psx.length - (0 + qs.length + 1) = kt.length by omega] at this; exact this)) ?_; rintro _ M13 _ ⟨hM13, _, rfl, ⟨rfl, rfl⟩⟩
                refine ⟨_, _, MLe.refl _, hM13, fun _ h => h, by simp, ?_⟩
                iterate 2 refine dp rfl rfl ?_
                refine jd_nil ?_
                refine jPn ?_
                refine jT ?_
                refine jc_ret ?_
                refine jq_drop (L' := []) (List.nil_sublist _) ?_
                refine jr1 rfl rfl ?_
                exact ⟨rfl, rfl⟩


end Go.Proofs.YtdjaehgadehnfaaGreatDoor
