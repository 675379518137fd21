/- Walks: an item of a row of one's own replaced. -/
import Derived.Test.YtckdncmjkloebaaGreatZIns
namespace Go.Proofs.YtckdncmjkloebaaGreat
set_option linter.unusedVariables false
set_option linter.unusedSimpArgs false
open Go.RowKit


theorem ins_tail (A B V T : List Value) (a b v : Nat) (ha : A.length = a) (hb : B.length = b) (hv : V.length = v) (hs : v ≤ T.length) :
  ((((A ++ T).take (a + v) ++ B ++ (A ++ T).drop (a + v + B.length)).take a) ++ V ++ (((A ++ T).take (a + v) ++ B ++ (A ++ T).drop (a + v + B.length)).drop (a + V.length))) = A ++ V ++ B ++ (T.drop (v + b)) := by
 subst ha hb hv
 have e1 : (A ++ T).take (A.length + V.length) = A ++ T.take V.length := by rw [List.take_append]; simp [List.take_of_length_le]
 have e2 : (A ++ T).drop (A.length + V.length + B.length) = T.drop (V.length + B.length) := by
  rw [List.drop_append, List.drop_eq_nil_of_le (by omega), List.nil_append]; congr 1; omega
 rw [e1, e2]
 have hl : (T.take V.length).length = V.length := by rw [List.length_take]; omega
 have e3 : (A ++ T.take V.length ++ B ++ T.drop (V.length + B.length)).take A.length = A := by rw [List.append_assoc, List.append_assoc, List.take_left]
 have e4 : (A ++ T.take V.length ++ B ++ T.drop (V.length + B.length)).drop (A.length + V.length) = B ++ T.drop (V.length + B.length) := by
  rw [List.append_assoc, show A.length + V.length = (A ++ T.take V.length).length by rw [List.length_append, hl], List.drop_left]
 rw [e3, e4]; simp
/-- one row for another one -/
theorem one_row (A V Y T : List Value) (a : Nat) (ha : A.length = a) (hv : V.length = Y.length) : (A ++ (Y ++ T)).take a ++ V ++ (A ++ (Y ++ T)).drop (a + V.length) = A ++ (V ++ T) := by
 subst ha
 rw [List.take_left, hv, ← List.append_assoc A Y T, show A.length + Y.length = (A ++ Y).length by rw [List.length_append], List.drop_left, List.append_assoc]
theorem one_same (A V B T : List Value) (a : Nat) (ha : A.length + V.length = a) : (A ++ (V ++ (B ++ T))).take a ++ B ++ (A ++ (V ++ (B ++ T))).drop (a + B.length) = A ++ V ++ B ++ T := by
 subst ha
 rw [← List.append_assoc, show A.length + V.length = (A ++ V).length by rw [List.length_append], List.take_left, ← List.append_assoc (A ++ V) B T, show (A ++ V).length + B.length = (A ++ V ++ B).length by simp only [List.length_append], List.drop_left]
theorem sj_own2 {M : Mem} {L : Lc} {g off : Nat} {A Y B sp : List Value} {e : TypeId} (hm : (g, Obj.cells (A ++ (Y ++ (B ++ sp))).toArray e (0, 0)) ∈ L) (ho : off = A.length + Y.length) : SJ M L (some ⟨g, off, none⟩) B :=
 sj_own (A := A ++ Y) (by rw [List.append_assoc]; exact hm) (by rw [List.length_append]; exact ho)

set_option maxHeartbeats 4000000 in
theorem rep_mid (p1 : List Ir) (y : Ir) (p2 vs : List Ir) (g c : Nat) (sp : List Value) (vb vc : Nat) (vl : List Value) (ve : TypeId) (M : Mem) (hvb : M vb = some (.cells (vs.flatMap icell ++ vl).toArray ve (0, 0))) (hvo : ∀ x ∈ vs, x.2.oneCell' = true) (hpo : ∀ x ∈ p2, x.2.oneCell' = true) (hm : 0 < vs.length) (h2 : 0 < p2.length) (hc : p1.length + 1 + p2.length ≤ c) (hcm : c ≤ maxLen) (hsp : sp.length = (c - (p1.length + 1 + p2.length)) * 5) (hbig : p1.length + 1 + p2.length + vs.length ≤ 100000) :
  SpecL Tryz.prog 41 #[.slice (some ⟨g, 0, none⟩) (p1.length + 1 + p2.length) c, .int .i64 p1.length, .int .i64 ((p1.length + 1 : Nat) : Int), .slice (some ⟨vb, 0, none⟩) vs.length vc] M [(g, .cells (p1.flatMap icell ++ (icell y ++ (p2.flatMap icell ++ sp))).toArray IT (0, 0))] fun u M' L' => Own u L' IT 5 (p1.length + vs.length + p2.length) ((p1 ++ vs ++ p2).flatMap icell) := by
 refine spec_body (vs := [_, _, _, _]) 224 _ Tryz.func41 rfl Tryz.ntmps41 rfl rfl ?_; intro W
 refine jc_seq ?_
 refine jc_region ?_
 refine jp rfl ?_
 refine jl_nil ?_
 refine jT ?_
 refine jc_seq ?_
 refine jc_region ?_
 iterate 3 refine jp rfl ?_
 refine jl_q rfl rfl (qSl rfl rfl rfl (.no _) (.of (v := p1.length + 1) rfl (by omega) (by omega)) (.of (v := p1.length) rfl (by omega) (by omega)) (by omega) (by simp)) ?_
 refine jl_nil ?_
 refine jT ?_
 refine jc_seq ?_
 refine jc_seq ?_
 refine jc_region ?_
 iterate 2 refine jp rfl ?_
 refine jf rfl (decide_eq_false (by omega)) ?_
 refine jl_nil ?_
 refine jT ?_
 refine jc_no rfl ?_
 refine jc_skip ?_
 refine jT ?_
 refine jc_seq ?_
 refine jc_seq ?_
 refine jc_region ?_
 iterate 2 refine jp rfl ?_
 refine jl_q rfl rfl (qLen rfl rfl rfl) ?_
 refine jf rfl (decide_eq_false (by omega)) ?_
 refine jl_nil ?_
 refine jT ?_
 refine jc_no rfl ?_
 refine jc_skip ?_
 refine jT ?_
 refine jc_seq ?_
 refine jc_draw [(0, true), (1, true), (2, true), (3, true), (4, true), (5, true), (6, true), (7, true), (8, true), (9, true), (10, true), (11, true), (12, true)] [] (by kernel_rfl) (by kernel_rfl) (by kernel_rfl) rfl (by simp) ?_
 iterate 2 refine dp rfl rfl ?_
 refine jd_q rfl rfl rfl (qEq (qSl rfl rfl rfl (.no _) (.of (v := p1.length) rfl (by omega) (by omega)) (.no _) (by omega) (by simp)) (v' := .slice (some ⟨g, 0, none⟩) (p1.length) (c)) (by rw [slA_zero]; rfl)) ?_
 refine jd_q rfl rfl rfl (qLen rfl rfl rfl) ?_
 refine dp rfl rfl ?_
 refine jd_q rfl rfl rfl (qLen rfl rfl rfl) ?_
 refine da rfl rfl (by omega) ?_
 iterate 2 refine dp rfl rfl ?_
 refine jd_q rfl rfl rfl (qEq (qSl rfl rfl rfl (.no _) (.no _) (.of (v := p1.length + 1) rfl (by omega) (by omega)) (by omega) (by simp)) (v' := .slice (some ⟨g, p1.length * 5 + 5, none⟩) (p1.length + 1 + p2.length - (p1.length + 1)) (c - (p1.length + 1))) (by rw [slA_some (by omega)]; exact congrArg (fun k => Value.slice (some ⟨g, k, none⟩) _ _) (by omega))) ?_
 refine jd_q rfl rfl rfl (qLen rfl rfl rfl) ?_
 refine da rfl rfl (by omega) ?_
 refine dp rfl rfl ?_
 refine jd_nil ?_
 refine jPn ?_
 refine jT ?_
 refine jc_seq ?_
 refine jc_seq ?_
 refine jc_region ?_
 iterate 2 refine jp rfl ?_
 refine jl_q rfl rfl (qCap rfl rfl rfl) ?_
 refine js rfl (fun h60 => ?_) (fun h60 => ?_)
 ·refine jl_nil ?_
  refine jT ?_
  refine jc_yes rfl ?_
  refine jc_seq ?_
  refine jc_region ?_
  iterate 2 refine jp rfl ?_
  refine jl_q rfl rfl (qEq (qSl rfl rfl rfl (.no _) (.of (v := p1.length) rfl (by omega) (by omega)) (.no _) (by omega) (by simp)) (v' := .slice (some ⟨g, 0, none⟩) (p1.length) (c)) (by rw [slA_zero]; rfl)) ?_
  iterate 2 refine jp rfl ?_
  refine ja rfl (by omega) ?_
  refine jl_h rfl rfl (hAppendZG (m := vs.length + p2.length) (xs := p1.flatMap icell) rfl rfl rfl rfl (by omega) (fl p1) (cj_own (List.Mem.head _)) rfl (by omega) (by omega) (by omega) (by omega)) ?_; rintro _ _ _ ⟨rfl, g2, c2, zs, rfl, rfl, hc2a, hc2b, hzs⟩
  refine jp rfl ?_
  refine jl_nil ?_
  refine jT ?_
  refine jc_seq ?_
  refine jc_region ?_
  iterate 2 refine jp rfl ?_
  refine jl_q rfl rfl (qEq (qSl rfl rfl rfl (.no _) (.no _) (.of (v := p1.length) rfl (by omega) (by omega)) (by omega) (by simp)) (v' := .slice (some ⟨g2, p1.length * 5, none⟩) (p1.length + (vs.length + p2.length) - p1.length) (c2 - p1.length)) (by rw [slA_some (by omega)]; exact congrArg (fun k => Value.slice (some ⟨g2, k, none⟩) _ _) (by omega))) ?_
  refine jp rfl ?_
  refine jl_h rfl rfl (hCopyN (cs := vs.flatMap icell) rfl rfl rfl rfl (by rw [fl]; congr 1; omega) ((SM.of_block_pre hvb).sj _) (rows_one hvo) (by simp only [List.length_append, List.length_take, List.length_drop, fl, icell_len]; omega)) ?_; rintro _ _ _ ⟨rfl, rfl, rfl⟩
  refine jl_nil ?_
  refine jT ?_
  refine jc_seq ?_
  refine jc_draw [(0, true), (1, true), (2, true), (3, true), (4, true), (5, true), (6, true), (7, true), (8, true), (9, false)] [] (by kernel_rfl) (by kernel_rfl) (by kernel_rfl) rfl (by simp) ?_
  iterate 3 refine dp rfl rfl ?_
  refine jd_q rfl rfl rfl (qLen rfl rfl rfl) ?_
  refine da rfl rfl (by omega) ?_
  refine jd_q rfl rfl rfl (qEq (qSl rfl rfl rfl (.no _) (.no _) (.of (v := p1.length + vs.length) rfl (by omega) (by omega)) (by omega) (by simp)) (v' := .slice (some ⟨g2, p1.length * 5 + vs.length * 5, none⟩) (p1.length + (vs.length + p2.length) - (p1.length + vs.length)) (c2 - (p1.length + vs.length))) (by rw [slA_some (by omega)]; exact congrArg (fun k => Value.slice (some ⟨g2, k, none⟩) _ _) (by omega))) ?_
  iterate 2 refine dp rfl rfl ?_
  refine jd_q rfl rfl rfl (qEq (qSl rfl rfl rfl (.no _) (.no _) (.of (v := p1.length + 1) rfl (by omega) (by omega)) (by omega) (by simp)) (v' := .slice (some ⟨g, p1.length * 5 + 5, none⟩) (p1.length + 1 + p2.length - (p1.length + 1)) (c - (p1.length + 1))) (by rw [slA_some (by omega)]; exact congrArg (fun k => Value.slice (some ⟨g, k, none⟩) _ _) (by omega))) ?_
  refine jd_h rfl rfl rfl (hCopyN (cs := p2.flatMap icell) rfl rfl rfl rfl (by rw [fl]; congr 1; omega) (sj_own2 (List.Mem.tail _ (List.Mem.head _)) (by rw [fl]; show _ = p1.length * 5 + 5; omega)) (rows_one hpo) (by simp only [List.length_append, List.length_take, List.length_drop, fl, icell_len]; omega)) ?_; rintro _ _ _ ⟨rfl, rfl, rfl⟩
  refine ⟨_, _, MLe.refl _, MLe.refl _, fun _ h => h, by simp, ?_⟩
  refine jd_nil ?_
  refine jPn ?_
  refine jT ?_
  refine jc_seq ?_
  refine jc_region ?_
  iterate 2 refine jp rfl ?_
  refine jl_nil ?_
  refine jT ?_
  refine jc_ret ?_
  refine jTr ?_
  refine jq_drop (List.Sublist.cons_cons _ (List.nil_sublist _)) ?_
  refine jr1 rfl rfl ?_
  rw [show p1.length + (vs.length + p2.length) = p1.length + vs.length + p2.length by omega]
  exact own_row ((ins_grow _ _ _ zs (p1.length * 5) (p2.length * 5) (vs.length * 5) (fl p1) (fl p2) (fl vs) (by omega)).trans (by rw [List.flatMap_append, List.flatMap_append])) (by rw [fl, List.length_append, List.length_append]) (by omega) hc2b (by simp only [List.length_append, List.length_take, List.length_drop, fl, icell_len]; omega)
 ·refine jl_nil ?_
  refine jT ?_
  refine jc_no rfl ?_
  refine jc_skip ?_
  refine jT ?_
  refine jc_seq ?_
  refine jc_region ?_
  iterate 2 refine jp rfl ?_
  refine jl_q rfl rfl (qEq (qSl rfl rfl rfl (.no _) (.of (v := p1.length + vs.length + p2.length) rfl (by omega) (by omega)) (.no _) (by omega) (by simp)) (v' := .slice (some ⟨g, 0, none⟩) (p1.length + vs.length + p2.length) (c)) (by rw [slA_zero]; exact congrArg (fun k => Value.slice _ k _) (by omega))) ?_
  refine jp rfl ?_
  refine jl_nil ?_
  refine jT ?_
  refine jc_seq ?_
  refine jc_seq ?_
  refine jc_region ?_
  iterate 2 refine jp rfl ?_
  refine jl_q rfl rfl (qLen rfl rfl rfl) ?_
  refine ja rfl (by omega) ?_
  refine jp rfl ?_
  refine js rfl (fun h92 => ?_) (fun h92 => ?_)
  ·refine jl_nil ?_
   refine jT ?_
   refine jc_yes rfl ?_
   refine jc_seq ?_
   refine jc_region ?_
   iterate 2 refine jp rfl ?_
   refine jl_q rfl rfl (qEq (qSl rfl rfl rfl (.no _) (.no _) (.of (v := p1.length) rfl (by omega) (by omega)) (by omega) (by simp)) (v' := .slice (some ⟨g, p1.length * 5, none⟩) (p1.length + vs.length + p2.length - p1.length) (c - p1.length)) (by rw [slA_some (by omega)]; exact congrArg (fun k => Value.slice (some ⟨g, k, none⟩) _ _) (by omega))) ?_
   refine jp rfl ?_
   refine jl_h rfl rfl (hCopyN (cs := vs.flatMap icell) rfl rfl rfl rfl (by rw [fl]; congr 1; omega) ((SM.of_block_pre hvb).sj _) (rows_one hvo) (by simp only [List.length_append, List.length_take, List.length_drop, fl, icell_len]; omega)) ?_; rintro _ _ _ ⟨rfl, rfl, rfl⟩
   have hv1 : vs.length = 1 := by omega
   rw [one_row _ _ _ _ _ (fl p1) (by rw [fl, hv1]; rfl)]
   refine jl_nil ?_
   refine jT ?_
   refine jc_seq ?_
   refine jc_draw [(0, true), (1, true), (2, true), (3, true), (4, true), (5, true), (6, true), (7, true), (8, true), (9, false)] [] (by kernel_rfl) (by kernel_rfl) (by kernel_rfl) rfl (by simp) ?_
   iterate 3 refine dp rfl rfl ?_
   refine jd_q rfl rfl rfl (qLen rfl rfl rfl) ?_
   refine da rfl rfl (by omega) ?_
   refine jd_q rfl rfl rfl (qEq (qSl rfl rfl rfl (.no _) (.no _) (.of (v := p1.length + vs.length) rfl (by omega) (by omega)) (by omega) (by simp)) (v' := .slice (some ⟨g, p1.length * 5 + vs.length * 5, none⟩) (p1.length + vs.length + p2.length - (p1.length + vs.length)) (c - (p1.length + vs.length))) (by rw [slA_some (by omega)]; exact congrArg (fun k => Value.slice (some ⟨g, k, none⟩) _ _) (by omega))) ?_
   iterate 2 refine dp rfl rfl ?_
   refine jd_q rfl rfl rfl (qEq (qSl rfl rfl rfl (.no _) (.no _) (.of (v := p1.length + 1) rfl (by omega) (by omega)) (by omega) (by simp)) (v' := .slice (some ⟨g, p1.length * 5 + 5, none⟩) (p1.length + 1 + p2.length - (p1.length + 1)) (c - (p1.length + 1))) (by rw [slA_some (by omega)]; exact congrArg (fun k => Value.slice (some ⟨g, k, none⟩) _ _) (by omega))) ?_
   refine jd_h rfl rfl rfl (hCopyN (cs := p2.flatMap icell) rfl rfl rfl rfl (by rw [fl]; congr 1; omega) (sj_own2 (List.Mem.head _) (by rw [fl, fl]; omega)) (rows_one hpo) (by simp only [List.length_append, List.length_take, List.length_drop, fl, icell_len]; omega)) ?_; rintro _ _ _ ⟨rfl, rfl, rfl⟩
   refine ⟨_, _, MLe.refl _, MLe.refl _, fun _ h => h, by simp, ?_⟩
   refine jd_nil ?_
   refine jPn ?_
   refine jT ?_
   refine jc_seq ?_
   refine jc_region ?_
   iterate 2 refine jp rfl ?_
   refine jl_q rfl rfl (qEq (qSl rfl rfl rfl (.no _) (.no _) (.of (v := p1.length + vs.length + p2.length) rfl (by omega) (by omega)) (by omega) (by simp)) (v' := .slice (slA (some ⟨g, 0, none⟩) (p1.length + vs.length + p2.length) c 5) 0 (c - (p1.length + vs.length + p2.length))) (by congr 1; omega)) ?_
   refine jl_s rfl (hClear0 rfl rfl rfl) ?_; rintro _ _ _ ⟨rfl, rfl⟩
   refine jl_nil ?_
   refine jT ?_
   refine jc_seq ?_
   refine jc_region ?_
   iterate 2 refine jp rfl ?_
   refine jl_nil ?_
   refine jT ?_
   refine jc_ret ?_
   refine jTr ?_
   refine jr1 rfl rfl ?_
   exact own_row ((one_same _ _ _ sp _ (by rw [fl, fl])).trans (by rw [List.flatMap_append, List.flatMap_append])) (by rw [fl, List.length_append, List.length_append]) (by omega) hcm (by simp only [List.length_append, List.length_take, List.length_drop, fl, icell_len]; omega)
  ·refine jl_nil ?_
   refine jT ?_
   refine jc_no rfl ?_
   refine jc_skip ?_
   refine jT ?_
   refine jc_seq ?_
   refine jc_seq ?_
   refine jc_region ?_
   iterate 3 refine jp rfl ?_
   refine jl_q rfl rfl (qLen rfl rfl rfl) ?_
   refine ja rfl (by omega) ?_
   refine jl_q rfl rfl (qEq (qSl rfl rfl rfl (.no _) (.no _) (.of (v := p1.length + vs.length) rfl (by omega) (by omega)) (by omega) (by simp)) (v' := .slice (some ⟨g, p1.length * 5 + vs.length * 5, none⟩) (p1.length + vs.length + p2.length - (p1.length + vs.length)) (c - (p1.length + vs.length))) (by rw [slA_some (by omega)]; exact congrArg (fun k => Value.slice (some ⟨g, k, none⟩) _ _) (by omega))) ?_
   refine jp rfl ?_
   refine jl_apart hvb (List.Mem.head _) (fun hne => ?_)
   refine jl_q rfl rfl (qEq (qOverlap2 (t := 52) (tr := 4) rfl rfl rfl rfl Tryz.func76 rfl rfl (by kernel_rfl) (by kernel_rfl) hvb (List.Mem.head _) hne (by simp only [List.length_append, fl]; omega)) (v' := .bool false) (by rfl)) ?_
   refine jp rfl ?_
   refine jl_nil ?_
   refine jT ?_
   refine jc_yes rfl ?_
   refine jc_seq ?_
   refine jc_draw [(0, true), (1, true), (2, true), (3, true), (4, true), (5, true), (6, true), (7, true), (8, true), (9, false)] [] (by kernel_rfl) (by kernel_rfl) (by kernel_rfl) rfl (by simp) ?_
   iterate 3 refine dp rfl rfl ?_
   refine jd_q rfl rfl rfl (qLen rfl rfl rfl) ?_
   refine da rfl rfl (by omega) ?_
   refine jd_q rfl rfl rfl (qEq (qSl rfl rfl rfl (.no _) (.no _) (.of (v := p1.length + vs.length) rfl (by omega) (by omega)) (by omega) (by simp)) (v' := .slice (some ⟨g, p1.length * 5 + vs.length * 5, none⟩) (p1.length + vs.length + p2.length - (p1.length + vs.length)) (c - (p1.length + vs.length))) (by rw [slA_some (by omega)]; exact congrArg (fun k => Value.slice (some ⟨g, k, none⟩) _ _) (by omega))) ?_
   iterate 2 refine dp rfl rfl ?_
   refine jd_q rfl rfl rfl (qEq (qSl rfl rfl rfl (.no _) (.no _) (.of (v := p1.length + 1) rfl (by omega) (by omega)) (by omega) (by simp)) (v' := .slice (some ⟨g, p1.length * 5 + 5, none⟩) (p1.length + 1 + p2.length - (p1.length + 1)) (c - (p1.length + 1))) (by rw [slA_some (by omega)]; exact congrArg (fun k => Value.slice (some ⟨g, k, none⟩) _ _) (by omega))) ?_
   refine jd_h rfl rfl rfl (hCopyN (cs := p2.flatMap icell) rfl rfl rfl rfl (by rw [fl]; congr 1; omega) (sj_own2 (List.Mem.head _) (by rw [fl]; show _ = p1.length * 5 + 5; omega)) (rows_one hpo) (by simp only [List.length_append, List.length_take, List.length_drop, fl, icell_len]; omega)) ?_; rintro _ _ _ ⟨rfl, rfl, rfl⟩
   refine ⟨_, _, MLe.refl _, MLe.refl _, fun _ h => h, by simp, ?_⟩
   refine jd_nil ?_
   refine jPn ?_
   refine jT ?_
   refine jc_seq ?_
   refine jc_region ?_
   iterate 2 refine jp rfl ?_
   refine jl_q rfl rfl (qEq (qSl rfl rfl rfl (.no _) (.no _) (.of (v := p1.length) rfl (by omega) (by omega)) (by omega) (by simp)) (v' := .slice (some ⟨g, p1.length * 5, none⟩) (p1.length + vs.length + p2.length - p1.length) (c - p1.length)) (by rw [slA_some (by omega)]; exact congrArg (fun k => Value.slice (some ⟨g, k, none⟩) _ _) (by omega))) ?_
   refine jp rfl ?_
   refine jl_h rfl rfl (hCopyN (cs := vs.flatMap icell) rfl rfl rfl rfl (by rw [fl]; congr 1; omega) ((SM.of_block_pre hvb).sj _) (rows_one hvo) (by simp only [List.length_append, List.length_take, List.length_drop, fl, icell_len]; omega)) ?_; rintro _ _ _ ⟨rfl, rfl, rfl⟩
   refine jl_nil ?_
   refine jT ?_
   refine jc_seq ?_
   refine jc_region ?_
   iterate 2 refine jp rfl ?_
   refine jl_nil ?_
   refine jT ?_
   refine jc_ret ?_
   refine jTr ?_
   refine jr1 rfl rfl ?_
   exact own_row ((ins_tail _ _ _ _ (p1.length * 5) (p2.length * 5) (vs.length * 5) (fl p1) (fl p2) (fl vs) (by simp only [List.length_append, fl, icell_len]; omega)).trans (by rw [List.flatMap_append, List.flatMap_append])) (by rw [fl, List.length_append, List.length_append]) (by omega) hcm (by simp only [List.length_append, List.length_take, List.length_drop, fl, icell_len]; omega)

theorem rep_end (p1 : List Ir) (y : Ir) (vs : List Ir) (g c : Nat) (sp : List Value) (vb vc : Nat) (vl : List Value) (ve : TypeId) (M : Mem) (hvb : M vb = some (.cells (vs.flatMap icell ++ vl).toArray ve (0, 0))) (hvo : ∀ x ∈ vs, x.2.oneCell' = true) (hm : 0 < vs.length) (hc : p1.length + 1 ≤ c) (hcm : c ≤ maxLen) (hsp : sp.length = (c - (p1.length + 1)) * 5) (hbig : p1.length + 1 + vs.length ≤ 100000) :
  SpecL Tryz.prog 41 #[.slice (some ⟨g, 0, none⟩) (p1.length + 1) c, .int .i64 p1.length, .int .i64 ((p1.length + 1 : Nat) : Int), .slice (some ⟨vb, 0, none⟩) vs.length vc] M [(g, .cells (p1.flatMap icell ++ (icell y ++ sp)).toArray IT (0, 0))] fun u M' L' => Own u L' IT 5 (p1.length + vs.length) ((p1 ++ vs).flatMap icell) := by
 refine spec_body (vs := [_, _, _, _]) 224 _ Tryz.func41 rfl Tryz.ntmps41 rfl rfl ?_; intro W
 refine jc_seq ?_
 refine jc_region ?_
 refine jp rfl ?_
 refine jl_nil ?_
 refine jT ?_
 refine jc_seq ?_
 refine jc_region ?_
 iterate 3 refine jp rfl ?_
 refine jl_q rfl rfl (qSl rfl rfl rfl (.no _) (.of (v := p1.length + 1) rfl (by omega) (by omega)) (.of (v := p1.length) rfl (by omega) (by omega)) (by omega) (by simp)) ?_
 refine jl_nil ?_
 refine jT ?_
 refine jc_seq ?_
 refine jc_seq ?_
 refine jc_region ?_
 iterate 2 refine jp rfl ?_
 refine jf rfl (decide_eq_false (by omega)) ?_
 refine jl_nil ?_
 refine jT ?_
 refine jc_no rfl ?_
 refine jc_skip ?_
 refine jT ?_
 refine jc_seq ?_
 refine jc_seq ?_
 refine jc_region ?_
 iterate 2 refine jp rfl ?_
 refine jl_q rfl rfl (qLen rfl rfl rfl) ?_
 refine jt rfl (decide_eq_true (by omega)) ?_
 refine jl_nil ?_
 refine jT ?_
 refine jc_yes rfl ?_
 refine jc_seq ?_
 refine jc_region ?_
 iterate 2 refine jp rfl ?_
 refine jl_q rfl rfl (qEq (qSl rfl rfl rfl (.no _) (.of (v := p1.length) rfl (by omega) (by omega)) (.no _) (by omega) (by simp)) (v' := .slice (some ⟨g, 0, none⟩) (p1.length) (c)) (by rw [slA_zero]; rfl)) ?_
 refine jp rfl ?_
 refine jl_h rfl rfl (hAppendM (R := [(g, .cells (p1.flatMap icell ++ (icell y ++ sp)).toArray IT (0, 0))]) (n := p1.length) (m := vs.length) (xs := p1.flatMap icell) (news := vs.flatMap icell) rfl rfl rfl rfl (own_row rfl (fl p1) (by omega) hcm (by simp only [List.length_append, fl, icell_len]; omega)) (fl vs) (SM.of_block_pre hvb) rfl (rows_one hvo) (by omega) (by omega)) ?_; rintro _ _ _ ⟨rfl, R2, rfl, hown2⟩
 obtain ⟨ra, rc, rfl⟩ := hown2.form
 refine jp rfl ?_
 refine jl_nil ?_
 refine jT ?_
 refine jc_seq ?_
 refine jc_seq ?_
 refine jc_region ?_
 refine jp rfl ?_
 refine jl_q rfl rfl (qLen rfl rfl rfl) ?_
 refine jp rfl ?_
 refine jl_q rfl rfl (qLen rfl rfl rfl) ?_
 refine jf rfl (decide_eq_false (by omega)) ?_
 refine jl_nil ?_
 refine jT ?_
 refine jc_no rfl ?_
 refine jc_skip ?_
 refine jT ?_
 refine jc_seq ?_
 refine jc_region ?_
 iterate 2 refine jp rfl ?_
 refine jl_nil ?_
 refine jT ?_
 refine jc_ret ?_
 refine jTr ?_
 refine jq_drop (L' := R2) (by simp) ?_
 refine jr1 rfl rfl ?_
 rw [List.flatMap_append]; exact hown2


/-- slices.Replace of one item -/
theorem rep_spec (ps vs : List Ir) (i : Nat) (hi : i < ps.length) (sa : Option Addr) (sc : Nat) (R : Lc) (hown : Own (.slice sa ps.length sc) R IT 5 ps.length (ps.flatMap icell)) (hpo : ∀ x ∈ ps, x.2.oneCell' = true) (vb vc : Nat) (vl : List Value) (ve : TypeId) (M : Mem) (hvb : M vb = some (.cells (vs.flatMap icell ++ vl).toArray ve (0, 0))) (hvo : ∀ x ∈ vs, x.2.oneCell' = true) (hm : 0 < vs.length) (hbig : ps.length + vs.length ≤ 100000) :
  SpecL Tryz.prog 41 #[.slice sa ps.length sc, .int .i64 i, .int .i64 ((i + 1 : Nat) : Int), .slice (some ⟨vb, 0, none⟩) vs.length vc] M R fun u _ L' => Own u L' IT 5 (ps.length - 1 + vs.length) ((ps.take i ++ vs ++ ps.drop (i + 1)).flatMap icell) := by
 obtain ⟨g, sp, rfl, rfl, h1, h2, h3⟩ := own_parts hown hi
 have hl1 : (ps.take i).length = i := by rw [List.length_take]; omega
 have hl2 : (ps.drop (i + 1)).length = ps.length - (i + 1) := List.length_drop
 have hd : ps.drop i = ps[i] :: ps.drop (i + 1) := List.drop_eq_getElem_cons hi
 rw [hd, List.flatMap_cons, List.append_assoc]
 by_cases h : i + 1 = ps.length
 ·have hn : ps.drop (i + 1) = [] := List.drop_eq_nil_of_le (by omega)
  have hk := rep_end (ps.take i) ps[i] vs g sc sp vb vc vl ve M hvb hvo hm (by omega) h2 (by rw [hl1, h]; exact h3) (by omega)
  rw [hl1, show i + vs.length = ps.length - 1 + vs.length by omega] at hk
  rw [hn, List.flatMap_nil, List.nil_append, List.append_nil, ← h]
  rw [← h] at hk
  exact hk
 ·have hk := rep_mid (ps.take i) ps[i] (ps.drop (i + 1)) vs g sc sp vb vc vl ve M hvb hvo (fun x hx => hpo x (List.mem_of_mem_drop hx)) hm (by omega) (by omega) h2 (by rw [hl1, hl2, show i + 1 + (ps.length - (i + 1)) = ps.length by omega]; exact h3) (by omega)
  rw [hl1, hl2, show i + 1 + (ps.length - (i + 1)) = ps.length by omega, show i + vs.length + (ps.length - (i + 1)) = ps.length - 1 + vs.length by omega] at hk
  exact hk

end Go.Proofs.YtckdncmjkloebaaGreat
