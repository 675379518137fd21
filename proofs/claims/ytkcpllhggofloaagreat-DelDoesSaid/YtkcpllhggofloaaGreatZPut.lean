/- Walks: an item put in. No statement of the seat is proved here. -/
import Derived.Test.YtkcpllhggofloaaGreatZIns
import Derived.Test.YtkcpllhggofloaaGreatZCat
import Derived.Test.YtkcpllhggofloaaGreatZSp
namespace Go.Proofs.YtkcpllhggofloaaGreat
set_option linter.unusedSimpArgs false
set_option linter.unusedVariables false
set_option linter.unusedSectionVars false
open Go.RowKit
theorem ins_tail (A B V T : List Value) (a b v : Nat) (ha : A.length = a) (hb : B.length = b) (hv : V.length = v) (hs : v ≤ T.length) :
  ((((A ++ T).take (a + v) ++ B ++ (A ++ T).drop (a + v + B.length)).take a) ++ V ++ (((A ++ T).take (a + v) ++ B ++ (A ++ T).drop (a + v + B.length)).drop (a + V.length))) = A ++ V ++ B ++ (T.drop (v + b)) := by
 subst ha hb hv
 have e1 : (A ++ T).take (A.length + V.length) = A ++ T.take V.length := by rw [List.take_append]; simp [List.take_of_length_le]
 have e2 : (A ++ T).drop (A.length + V.length + B.length) = T.drop (V.length + B.length) := by
  rw [List.drop_append, List.drop_eq_nil_of_le (by omega), List.nil_append]; congr 1; omega
 rw [e1, e2]
 have hl : (T.take V.length).length = V.length := by rw [List.length_take]; omega
 have e3 : (A ++ T.take V.length ++ B ++ T.drop (V.length + B.length)).take A.length = A := by rw [List.append_assoc, List.append_assoc, List.take_left]
 have e4 : (A ++ T.take V.length ++ B ++ T.drop (V.length + B.length)).drop (A.length + V.length) = B ++ T.drop (V.length + B.length) := by
  rw [List.append_assoc, show A.length + V.length = (A ++ T.take V.length).length by rw [List.length_append, hl], List.drop_left]
 rw [e3, e4]; simp
theorem one_row (A V Y T : List Value) (a : Nat) (ha : A.length = a) (hv : V.length = Y.length) : (A ++ (Y ++ T)).take a ++ V ++ (A ++ (Y ++ T)).drop (a + V.length) = A ++ (V ++ T) := by
 subst ha
 rw [List.take_left, hv, ← List.append_assoc A Y T, show A.length + Y.length = (A ++ Y).length by rw [List.length_append], List.drop_left, List.append_assoc]
theorem one_same (A V B T : List Value) (a : Nat) (ha : A.length + V.length = a) : (A ++ (V ++ (B ++ T))).take a ++ B ++ (A ++ (V ++ (B ++ T))).drop (a + B.length) = A ++ V ++ B ++ T := by
 subst ha
 rw [← List.append_assoc, show A.length + V.length = (A ++ V).length by rw [List.length_append], List.take_left, ← List.append_assoc (A ++ V) B T, show (A ++ V).length + B.length = (A ++ V ++ B).length by simp only [List.length_append], List.drop_left]
theorem sj_own2 {M : Mem} {L : Lc} {g off : Nat} {A Y B sp : List Value} {e : TypeId} (hm : (g, Obj.cells (A ++ (Y ++ (B ++ sp))).toArray e (0, 0)) ∈ L) (ho : off = A.length + Y.length) : SJ M L (some ⟨g, off, none⟩) B :=
 sj_own (A := A ++ Y) (by rw [List.append_assoc]; exact hm) (by rw [List.length_append]; exact ho)
set_option maxHeartbeats 4000000 in
theorem rep_mid (p1 : List Ir) (y : Ir) (p2 vs : List Ir) (g c : Nat) (sp : List Value) (vb vc : Nat) (vl : List Value) (ve : TypeId) (M : Mem) (hvb : M vb = some (.cells (vs.flatMap wAs ++ vl).toArray ve (0, 0))) (hvo : ∀ x ∈ vs, x.2.oneCell' = true) (hpo : ∀ x ∈ p2, x.2.oneCell' = true) (hm : 0 < vs.length) (h2 : 0 < p2.length) (hc : p1.length + 1 + p2.length ≤ c) (hcm : c ≤ maxLen) (hsp : sp.length = (c - (p1.length + 1 + p2.length)) * 5) (hbig : p1.length + 1 + p2.length + vs.length ≤ 100000) :
  SpecL Tryz.prog 19 #[.slice (some ⟨g, 0, none⟩) (p1.length + 1 + p2.length) c, .int .i64 p1.length, .int .i64 ((p1.length + 1 : Nat) : Int), .slice (some ⟨vb, 0, none⟩) vs.length vc] M [(g, .cells (p1.flatMap wAs ++ (wAs y ++ (p2.flatMap wAs ++ sp))).toArray IT (0, 0))] fun u M' L' => Own u L' IT 5 (p1.length + vs.length + p2.length) ((p1 ++ vs ++ p2).flatMap wAs) := by
 refine wAf (vs := [_, _, _, _]) 224 _ Tryz.func19 rfl Tryz.ntmps19 rfl rfl ?_; intro W
 refine wAb (wAa (jp rfl (wAc (jT (wAb (wAa (jp rfl (jp rfl (jp rfl (wAi rfl rfl (qSl rfl rfl rfl (.no _) (.of (v := p1.length + 1) rfl (by omega) (by omega)) (.of (v := p1.length) rfl (by omega) (by omega)) (by omega) (by simp)) ?_))))))))))
 refine wAc (jT (wAb (wAb (wAa (jp rfl (jp rfl (jf rfl (decide_eq_false (by omega)) ?_)))))))
 refine wAc (jT (wAk rfl (wAd (jT (wAb (wAb (wAa (jp rfl (jp rfl (wAi rfl rfl (wBj rfl rfl rfl) ?_))))))))))
 refine jf rfl (decide_eq_false (by omega)) ?_
 refine wAc (jT (wAk rfl (wAd (jT (wAb (wBp [(0, true), (1, true), (2, true), (3, true), (4, true), (5, true), (6, true), (7, true), (8, true), (9, true), (10, true), (11, true), (12, true)] [] (by kernel_rfl) (by kernel_rfl) (by kernel_rfl) rfl (by simp) ?_))))))
 iterate 2 refine dp rfl rfl ?_
 refine wBq rfl rfl rfl (qEq (qSl rfl rfl rfl (.no _) (.of (v := p1.length) rfl (by omega) (by omega)) (.no _) (by omega) (by simp)) (v' := .slice (some ⟨g, 0, none⟩) (p1.length) (c)) (by rw [wCx]; rfl)) ?_
 refine wBq rfl rfl rfl (wBj rfl rfl rfl) ?_
 refine dp rfl rfl ?_
 refine wBq rfl rfl rfl (wBj rfl rfl rfl) ?_
 refine da rfl rfl (by omega) ?_
 iterate 2 refine dp rfl rfl ?_
 refine wBq rfl rfl rfl (qEq (qSl rfl rfl rfl (.no _) (.no _) (.of (v := p1.length + 1) rfl (by omega) (by omega)) (by omega) (by simp)) (v' := .slice (some ⟨g, p1.length * 5 + 5, none⟩) (p1.length + 1 + p2.length - (p1.length + 1)) (c - (p1.length + 1))) (by rw [wBn (by omega)]; exact congrArg (fun k => Value.slice (some ⟨g, k, none⟩) _ _) (by omega))) ?_
 refine wBq rfl rfl rfl (wBj rfl rfl rfl) ?_
 refine da rfl rfl (by omega) ?_
 refine dp rfl rfl ?_
 refine wBd (jPn (jT (wAb (wAb (wAa (jp rfl (jp rfl (wAi rfl rfl (qCap rfl rfl rfl) ?_))))))))
 refine js rfl (fun h60 => ?_) (fun h60 => ?_)
 ·refine wAc (jT (wAg rfl (wAb (wAa (jp rfl (jp rfl ?_))))))
  refine wAi rfl rfl (qEq (qSl rfl rfl rfl (.no _) (.of (v := p1.length) rfl (by omega) (by omega)) (.no _) (by omega) (by simp)) (v' := .slice (some ⟨g, 0, none⟩) (p1.length) (c)) (by rw [wCx]; rfl)) ?_
  refine jp rfl (jp rfl (ja rfl (by omega) ?_))
  refine wAy rfl rfl (hAppendZG (m := vs.length + p2.length) (xs := p1.flatMap wAs) rfl rfl rfl rfl (by omega) (fl p1) (cj_own (List.Mem.head _)) rfl (by omega) (by omega) (by omega) (by omega)) ?_; rintro _ _ _ ⟨rfl, g2, c2, zs, rfl, rfl, hc2a, hc2b, hzs⟩
  refine jp rfl (wAc (jT (wAb (wAa (jp rfl (jp rfl ?_))))))
  refine wAi rfl rfl (qEq (qSl rfl rfl rfl (.no _) (.no _) (.of (v := p1.length) rfl (by omega) (by omega)) (by omega) (by simp)) (v' := .slice (some ⟨g2, p1.length * 5, none⟩) (p1.length + (vs.length + p2.length) - p1.length) (c2 - p1.length)) (by rw [wBn (by omega)]; exact congrArg (fun k => Value.slice (some ⟨g2, k, none⟩) _ _) (by omega))) ?_
  refine jp rfl ?_
  refine wAy rfl rfl (hCopyN (cs := vs.flatMap wAs) rfl rfl rfl rfl (by rw [fl]; congr 1; omega) ((SM.of_block_pre hvb).sj _) (wFc hvo) (by simp only [List.length_append, List.length_take, List.length_drop, fl, wAq]; omega)) ?_; rintro _ _ _ ⟨rfl, rfl, rfl⟩
  refine wAc (jT (wAb (wBp [(0, true), (1, true), (2, true), (3, true), (4, true), (5, true), (6, true), (7, true), (8, true), (9, false)] [] (by kernel_rfl) (by kernel_rfl) (by kernel_rfl) rfl (by simp) ?_)))
  iterate 3 refine dp rfl rfl ?_
  refine wBq rfl rfl rfl (wBj rfl rfl rfl) ?_
  refine da rfl rfl (by omega) ?_
  refine wBq rfl rfl rfl (qEq (qSl rfl rfl rfl (.no _) (.no _) (.of (v := p1.length + vs.length) rfl (by omega) (by omega)) (by omega) (by simp)) (v' := .slice (some ⟨g2, p1.length * 5 + vs.length * 5, none⟩) (p1.length + (vs.length + p2.length) - (p1.length + vs.length)) (c2 - (p1.length + vs.length))) (by rw [wBn (by omega)]; exact congrArg (fun k => Value.slice (some ⟨g2, k, none⟩) _ _) (by omega))) ?_
  iterate 2 refine dp rfl rfl ?_
  refine wBq rfl rfl rfl (qEq (qSl rfl rfl rfl (.no _) (.no _) (.of (v := p1.length + 1) rfl (by omega) (by omega)) (by omega) (by simp)) (v' := .slice (some ⟨g, p1.length * 5 + 5, none⟩) (p1.length + 1 + p2.length - (p1.length + 1)) (c - (p1.length + 1))) (by rw [wBn (by omega)]; exact congrArg (fun k => Value.slice (some ⟨g, k, none⟩) _ _) (by omega))) ?_
  refine wHc rfl rfl rfl (hCopyN (cs := p2.flatMap wAs) rfl rfl rfl rfl (by rw [fl]; congr 1; omega) (sj_own2 (List.Mem.tail _ (List.Mem.head _)) (by rw [fl]; show _ = p1.length * 5 + 5; omega)) (wFc hpo) (by simp only [List.length_append, List.length_take, List.length_drop, fl, wAq]; omega)) ?_; rintro _ _ _ ⟨rfl, rfl, rfl⟩
  refine ⟨_, _, MLe.refl _, MLe.refl _, fun _ h => h, by simp, ?_⟩
  refine wBd (jPn (jT (wAb (wAa (jp rfl (jp rfl (wAc (jT (wAe (jTr (wAr (List.Sublist.cons_cons _ (List.nil_sublist _)) ?_)))))))))))
  refine jr1 rfl rfl ?_
  rw [show p1.length + (vs.length + p2.length) = p1.length + vs.length + p2.length by omega]
  exact own_row ((ins_grow _ _ _ zs (p1.length * 5) (p2.length * 5) (vs.length * 5) (fl p1) (fl p2) (fl vs) (by omega)).trans (by rw [List.flatMap_append, List.flatMap_append])) (by rw [fl, List.length_append, List.length_append]) (by omega) hc2b (by simp only [List.length_append, List.length_take, List.length_drop, fl, wAq]; omega)
 refine wAc (jT (wAk rfl (wAd (jT (wAb (wAa (jp rfl (jp rfl ?_))))))))
 refine wAi rfl rfl (qEq (qSl rfl rfl rfl (.no _) (.of (v := p1.length + vs.length + p2.length) rfl (by omega) (by omega)) (.no _) (by omega) (by simp)) (v' := .slice (some ⟨g, 0, none⟩) (p1.length + vs.length + p2.length) (c)) (by rw [wCx]; exact congrArg (fun k => Value.slice _ k _) (by omega))) ?_
 refine jp rfl (wAc (jT (wAb (wAb (wAa (jp rfl (jp rfl (wAi rfl rfl (wBj rfl rfl rfl) ?_))))))))
 refine ja rfl (by omega) ?_
 refine jp rfl (js rfl (fun h92 => ?_) (fun h92 => ?_))
 ·refine wAc (jT (wAg rfl (wAb (wAa (jp rfl (jp rfl ?_))))))
  refine wAi rfl rfl (qEq (qSl rfl rfl rfl (.no _) (.no _) (.of (v := p1.length) rfl (by omega) (by omega)) (by omega) (by simp)) (v' := .slice (some ⟨g, p1.length * 5, none⟩) (p1.length + vs.length + p2.length - p1.length) (c - p1.length)) (by rw [wBn (by omega)]; exact congrArg (fun k => Value.slice (some ⟨g, k, none⟩) _ _) (by omega))) ?_
  refine jp rfl ?_
  refine wAy rfl rfl (hCopyN (cs := vs.flatMap wAs) rfl rfl rfl rfl (by rw [fl]; congr 1; omega) ((SM.of_block_pre hvb).sj _) (wFc hvo) (by simp only [List.length_append, List.length_take, List.length_drop, fl, wAq]; omega)) ?_; rintro _ _ _ ⟨rfl, rfl, rfl⟩
  have hv1 : vs.length = 1 := by omega
  rw [one_row _ _ _ _ _ (fl p1) (by rw [fl, hv1]; rfl)]
  refine wAc (jT (wAb (wBp [(0, true), (1, true), (2, true), (3, true), (4, true), (5, true), (6, true), (7, true), (8, true), (9, false)] [] (by kernel_rfl) (by kernel_rfl) (by kernel_rfl) rfl (by simp) ?_)))
  iterate 3 refine dp rfl rfl ?_
  refine wBq rfl rfl rfl (wBj rfl rfl rfl) ?_
  refine da rfl rfl (by omega) ?_
  refine wBq rfl rfl rfl (qEq (qSl rfl rfl rfl (.no _) (.no _) (.of (v := p1.length + vs.length) rfl (by omega) (by omega)) (by omega) (by simp)) (v' := .slice (some ⟨g, p1.length * 5 + vs.length * 5, none⟩) (p1.length + vs.length + p2.length - (p1.length + vs.length)) (c - (p1.length + vs.length))) (by rw [wBn (by omega)]; exact congrArg (fun k => Value.slice (some ⟨g, k, none⟩) _ _) (by omega))) ?_
  iterate 2 refine dp rfl rfl ?_
  refine wBq rfl rfl rfl (qEq (qSl rfl rfl rfl (.no _) (.no _) (.of (v := p1.length + 1) rfl (by omega) (by omega)) (by omega) (by simp)) (v' := .slice (some ⟨g, p1.length * 5 + 5, none⟩) (p1.length + 1 + p2.length - (p1.length + 1)) (c - (p1.length + 1))) (by rw [wBn (by omega)]; exact congrArg (fun k => Value.slice (some ⟨g, k, none⟩) _ _) (by omega))) ?_
  refine wHc rfl rfl rfl (hCopyN (cs := p2.flatMap wAs) rfl rfl rfl rfl (by rw [fl]; congr 1; omega) (sj_own2 (List.Mem.head _) (by rw [fl, fl]; omega)) (wFc hpo) (by simp only [List.length_append, List.length_take, List.length_drop, fl, wAq]; omega)) ?_; rintro _ _ _ ⟨rfl, rfl, rfl⟩
  refine ⟨_, _, MLe.refl _, MLe.refl _, fun _ h => h, by simp, ?_⟩
  refine wBd (jPn (jT (wAb (wAa (jp rfl (jp rfl ?_))))))
  refine wAi rfl rfl (qEq (qSl rfl rfl rfl (.no _) (.no _) (.of (v := p1.length + vs.length + p2.length) rfl (by omega) (by omega)) (by omega) (by simp)) (v' := .slice (slA (some ⟨g, 0, none⟩) (p1.length + vs.length + p2.length) c 5) 0 (c - (p1.length + vs.length + p2.length))) (by congr 1; omega)) ?_
  refine jl_s rfl (hClear0 rfl rfl rfl) ?_; rintro _ _ _ ⟨rfl, rfl⟩
  refine wAc (jT (wAb (wAa (jp rfl (jp rfl (wAc (jT (wAe (jTr (jr1 rfl rfl ?_))))))))))
  exact own_row ((one_same _ _ _ sp _ (by rw [fl, fl])).trans (by rw [List.flatMap_append, List.flatMap_append])) (by rw [fl, List.length_append, List.length_append]) (by omega) hcm (by simp only [List.length_append, List.length_take, List.length_drop, fl, wAq]; omega)
 refine wAc (jT (wAk rfl (wAd (jT (wAb (wAb (wAa (jp rfl (jp rfl (jp rfl (wAi rfl rfl (wBj rfl rfl rfl) ?_)))))))))))
 refine ja rfl (by omega) ?_
 refine wAi rfl rfl (qEq (qSl rfl rfl rfl (.no _) (.no _) (.of (v := p1.length + vs.length) rfl (by omega) (by omega)) (by omega) (by simp)) (v' := .slice (some ⟨g, p1.length * 5 + vs.length * 5, none⟩) (p1.length + vs.length + p2.length - (p1.length + vs.length)) (c - (p1.length + vs.length))) (by rw [wBn (by omega)]; exact congrArg (fun k => Value.slice (some ⟨g, k, none⟩) _ _) (by omega))) ?_
 refine jp rfl (jl_apart hvb (List.Mem.head _) (fun hne => ?_))
 refine wAi rfl rfl (qEq (qOverlap2 (t := 51) (tr := 4) rfl rfl rfl rfl Tryz.func38 rfl rfl (by kernel_rfl) (by kernel_rfl) hvb (List.Mem.head _) hne (by simp only [List.length_append, fl]; omega)) (v' := .bool false) (by rfl)) ?_
 refine jp rfl (wAc (jT (wAg rfl (wAb (wBp [(0, true), (1, true), (2, true), (3, true), (4, true), (5, true), (6, true), (7, true), (8, true), (9, false)] [] (by kernel_rfl) (by kernel_rfl) (by kernel_rfl) rfl (by simp) ?_)))))
 iterate 3 refine dp rfl rfl ?_
 refine wBq rfl rfl rfl (wBj rfl rfl rfl) ?_
 refine da rfl rfl (by omega) ?_
 refine wBq rfl rfl rfl (qEq (qSl rfl rfl rfl (.no _) (.no _) (.of (v := p1.length + vs.length) rfl (by omega) (by omega)) (by omega) (by simp)) (v' := .slice (some ⟨g, p1.length * 5 + vs.length * 5, none⟩) (p1.length + vs.length + p2.length - (p1.length + vs.length)) (c - (p1.length + vs.length))) (by rw [wBn (by omega)]; exact congrArg (fun k => Value.slice (some ⟨g, k, none⟩) _ _) (by omega))) ?_
 iterate 2 refine dp rfl rfl ?_
 refine wBq rfl rfl rfl (qEq (qSl rfl rfl rfl (.no _) (.no _) (.of (v := p1.length + 1) rfl (by omega) (by omega)) (by omega) (by simp)) (v' := .slice (some ⟨g, p1.length * 5 + 5, none⟩) (p1.length + 1 + p2.length - (p1.length + 1)) (c - (p1.length + 1))) (by rw [wBn (by omega)]; exact congrArg (fun k => Value.slice (some ⟨g, k, none⟩) _ _) (by omega))) ?_
 refine wHc rfl rfl rfl (hCopyN (cs := p2.flatMap wAs) rfl rfl rfl rfl (by rw [fl]; congr 1; omega) (sj_own2 (List.Mem.head _) (by rw [fl]; show _ = p1.length * 5 + 5; omega)) (wFc hpo) (by simp only [List.length_append, List.length_take, List.length_drop, fl, wAq]; omega)) ?_; rintro _ _ _ ⟨rfl, rfl, rfl⟩
 refine ⟨_, _, MLe.refl _, MLe.refl _, fun _ h => h, by simp, ?_⟩
 refine wBd (jPn (jT (wAb (wAa (jp rfl (jp rfl ?_))))))
 refine wAi rfl rfl (qEq (qSl rfl rfl rfl (.no _) (.no _) (.of (v := p1.length) rfl (by omega) (by omega)) (by omega) (by simp)) (v' := .slice (some ⟨g, p1.length * 5, none⟩) (p1.length + vs.length + p2.length - p1.length) (c - p1.length)) (by rw [wBn (by omega)]; exact congrArg (fun k => Value.slice (some ⟨g, k, none⟩) _ _) (by omega))) ?_
 refine jp rfl ?_
 refine wAy rfl rfl (hCopyN (cs := vs.flatMap wAs) rfl rfl rfl rfl (by rw [fl]; congr 1; omega) ((SM.of_block_pre hvb).sj _) (wFc hvo) (by simp only [List.length_append, List.length_take, List.length_drop, fl, wAq]; omega)) ?_; rintro _ _ _ ⟨rfl, rfl, rfl⟩
 refine wAc (jT (wAb (wAa (jp rfl (jp rfl (wAc (jT (wAe (jTr (jr1 rfl rfl ?_))))))))))
 exact own_row ((ins_tail _ _ _ _ (p1.length * 5) (p2.length * 5) (vs.length * 5) (fl p1) (fl p2) (fl vs) (by simp only [List.length_append, fl, wAq]; omega)).trans (by rw [List.flatMap_append, List.flatMap_append])) (by rw [fl, List.length_append, List.length_append]) (by omega) hcm (by simp only [List.length_append, List.length_take, List.length_drop, fl, wAq]; omega)
theorem rep_end (p1 : List Ir) (y : Ir) (vs : List Ir) (g c : Nat) (sp : List Value) (vb vc : Nat) (vl : List Value) (ve : TypeId) (M : Mem) (hvb : M vb = some (.cells (vs.flatMap wAs ++ vl).toArray ve (0, 0))) (hvo : ∀ x ∈ vs, x.2.oneCell' = true) (hm : 0 < vs.length) (hc : p1.length + 1 ≤ c) (hcm : c ≤ maxLen) (hsp : sp.length = (c - (p1.length + 1)) * 5) (hbig : p1.length + 1 + vs.length ≤ 100000) :
  SpecL Tryz.prog 19 #[.slice (some ⟨g, 0, none⟩) (p1.length + 1) c, .int .i64 p1.length, .int .i64 ((p1.length + 1 : Nat) : Int), .slice (some ⟨vb, 0, none⟩) vs.length vc] M [(g, .cells (p1.flatMap wAs ++ (wAs y ++ sp)).toArray IT (0, 0))] fun u M' L' => Own u L' IT 5 (p1.length + vs.length) ((p1 ++ vs).flatMap wAs) := by
 refine wAf (vs := [_, _, _, _]) 224 _ Tryz.func19 rfl Tryz.ntmps19 rfl rfl ?_; intro W
 refine wAb (wAa (jp rfl (wAc (jT (wAb (wAa (jp rfl (jp rfl (jp rfl (wAi rfl rfl (qSl rfl rfl rfl (.no _) (.of (v := p1.length + 1) rfl (by omega) (by omega)) (.of (v := p1.length) rfl (by omega) (by omega)) (by omega) (by simp)) ?_))))))))))
 refine wAc (jT (wAb (wAb (wAa (jp rfl (jp rfl (jf rfl (decide_eq_false (by omega)) ?_)))))))
 refine wAc (jT (wAk rfl (wAd (jT (wAb (wAb (wAa (jp rfl (jp rfl (wAi rfl rfl (wBj rfl rfl rfl) ?_))))))))))
 refine jt rfl (decide_eq_true (by omega)) ?_
 refine wAc (jT (wAg rfl (wAb (wAa (jp rfl (jp rfl ?_))))))
 refine wAi rfl rfl (qEq (qSl rfl rfl rfl (.no _) (.of (v := p1.length) rfl (by omega) (by omega)) (.no _) (by omega) (by simp)) (v' := .slice (some ⟨g, 0, none⟩) (p1.length) (c)) (by rw [wCx]; rfl)) ?_
 refine jp rfl ?_
 refine wAy rfl rfl (wCg (R := [(g, .cells (p1.flatMap wAs ++ (wAs y ++ sp)).toArray IT (0, 0))]) (n := p1.length) (m := vs.length) (xs := p1.flatMap wAs) (news := vs.flatMap wAs) rfl rfl rfl rfl (own_row rfl (fl p1) (by omega) hcm (by simp only [List.length_append, fl, wAq]; omega)) (fl vs) (SM.of_block_pre hvb) rfl (wFc hvo) (by omega) (by omega)) ?_; rintro _ _ _ ⟨rfl, R2, rfl, hown2⟩
 obtain ⟨ra, rc, rfl⟩ := hown2.form
 refine jp rfl (wAc (jT (wAb (wAb (wAa (jp rfl (wAi rfl rfl (wBj rfl rfl rfl) ?_)))))))
 refine jp rfl (wAi rfl rfl (wBj rfl rfl rfl) ?_)
 refine jf rfl (decide_eq_false (by omega)) ?_
 refine wAc (jT (wAk rfl (wAd (jT (wAb (wAa (jp rfl (jp rfl (wAc (jT (wAe (jTr (wAr (L' := R2) (by simp) ?_)))))))))))))
 refine jr1 rfl rfl ?_
 rw [List.flatMap_append]; exact hown2
theorem rep_spec (ps vs : List Ir) (i : Nat) (hi : i < ps.length) (sa : Option Addr) (sc : Nat) (R : Lc) (hown : Own (.slice sa ps.length sc) R IT 5 ps.length (ps.flatMap wAs)) (hpo : ∀ x ∈ ps, x.2.oneCell' = true) (vb vc : Nat) (vl : List Value) (ve : TypeId) (M : Mem) (hvb : M vb = some (.cells (vs.flatMap wAs ++ vl).toArray ve (0, 0))) (hvo : ∀ x ∈ vs, x.2.oneCell' = true) (hm : 0 < vs.length) (hbig : ps.length + vs.length ≤ 100000) :
  SpecL Tryz.prog 19 #[.slice sa ps.length sc, .int .i64 i, .int .i64 ((i + 1 : Nat) : Int), .slice (some ⟨vb, 0, none⟩) vs.length vc] M R fun u _ L' => Own u L' IT 5 (ps.length - 1 + vs.length) ((ps.take i ++ vs ++ ps.drop (i + 1)).flatMap wAs) := by
 obtain ⟨g, sp, rfl, rfl, h1, h2, h3⟩ := own_parts hown hi
 have hl1 : (ps.take i).length = i := by rw [List.length_take]; omega
 have hl2 : (ps.drop (i + 1)).length = ps.length - (i + 1) := List.length_drop
 have hd : ps.drop i = ps[i] :: ps.drop (i + 1) := List.drop_eq_getElem_cons hi
 rw [hd, List.flatMap_cons, List.append_assoc]
 by_cases h : i + 1 = ps.length
 ·have hn : ps.drop (i + 1) = [] := List.drop_eq_nil_of_le (by omega)
  have hk := rep_end (ps.take i) ps[i] vs g sc sp vb vc vl ve M hvb hvo hm (by omega) h2 (by rw [hl1, h]; exact h3) (by omega)
  rw [hl1, show i + vs.length = ps.length - 1 + vs.length by omega] at hk
  rw [hn, List.flatMap_nil, List.nil_append, List.append_nil, ← h]
  rw [← h] at hk
  exact hk
 have hk := rep_mid (ps.take i) ps[i] (ps.drop (i + 1)) vs g sc sp vb vc vl ve M hvb hvo (fun x hx => hpo x (List.mem_of_mem_drop hx)) hm (by omega) (by omega) h2 (by rw [hl1, hl2, show i + 1 + (ps.length - (i + 1)) = ps.length by omega]; exact h3) (by omega)
 rw [hl1, hl2, show i + 1 + (ps.length - (i + 1)) = ps.length by omega, show i + vs.length + (ps.length - (i + 1)) = ps.length - 1 + vs.length by omega] at hk
 exact hk
theorem iclone_nil (c : Nat) (M : Mem) :
  SpecL Tryz.prog 14 #[.slice none 0 c] M [] fun v _ L' => Own v L' IT 5 0 [] := by
 refine wAf (vs := [_]) 8 _ Tryz.func14 rfl Tryz.ntmps14 rfl rfl ?_; intro W
 refine wAb (wAa (jp rfl (wAc (jT (wAb (wAb (wAa (jp rfl (wAi rfl rfl (qEq (qNil rfl rfl rfl rfl) (v' := .bool true) (by simp)) ?_)))))))))
 refine wAc (jT (wAg rfl (wAb (wAa (jp rfl (wAc (jT (wAe (jTr (jr1 rfl rfl ?_))))))))))
 exact Own.nil _ _
theorem own_none (b : Nat) : Own (.slice (some ⟨b, 0, none⟩) 0 0) [(b, .cells ([] : List Value).toArray IT (0, 0))] IT 5 0 [] := ⟨rfl, .inr ⟨b, 0, _, rfl, rfl, Nat.le_refl _, Nat.zero_le _, rfl, rfl⟩⟩
theorem iclone_some (b : Addr) (n c : Nat) (vals : List Value) (M : Mem) (hs : SM M (some b) vals) (hl : vals.length = n * 5) (h1 : ∀ v ∈ vals, v.oneCell' = true) (hn : n ≤ 1000000) :
  SpecL Tryz.prog 14 #[.slice (some b) n c] M [] fun v _ L' => Own v L' IT 5 n vals := by
 refine wAf (vs := [_]) 8 _ Tryz.func14 rfl Tryz.ntmps14 rfl rfl ?_; intro W
 refine wAb (wAa (jp rfl (wAc (jT (wAb (wAb (wAa (jp rfl (wAi rfl rfl (qEq (qNil rfl rfl rfl rfl) (v' := .bool false) (by simp)) ?_)))))))))
 refine wAc (jT (wAk rfl (wAd (jT (wAb (wAa (wAy rfl rfl (wAn (z := zeroIt) (cs := []) rfl rfl rfl (by rfl) (by rfl) (by rfl)) ?_))))))); rintro _ _ _ ⟨b5, rfl, rfl, rfl⟩
 refine jp rfl (wAy rfl rfl (wCg (n := 0) (xs := []) (news := vals) rfl rfl rfl rfl (own_none b5) hl hs rfl h1 (by omega) (by decide)) ?_); rintro v7 _ _ ⟨rfl, R7, rfl, hown⟩
 refine jp rfl (wAc (jT (wAe (jr1 rfl rfl ?_))))
 simpa using hown
theorem wHv (a : Option Addr) (c : Nat) (ps : List Ir) (M : Mem) (hs : SM M a (ps.flatMap wAs)) (h1 : ∀ x ∈ ps, x.2.oneCell' = true) (hn : ps.length ≤ 1000000) : SpecL Tryz.prog 14 #[.slice a ps.length c] M [] fun v _ L' => Own v L' IT 5 ps.length (ps.flatMap wAs) := by
 cases a with
 | none =>
  have h0 : ps.flatMap wAs = [] := hs.elim id (fun ⟨_, _, h, _⟩ => by cases h)
  have : ps = [] := by
   cases ps with
   | nil => rfl
   | cons p ps => simp [wAs] at h0
  subst this
  exact iclone_nil c M
 | some b => exact iclone_some b ps.length c (ps.flatMap wAs) M hs (fl ps) (wFc h1) hn
theorem wHg {M : Mem} {ps : List Ir} (h : ∀ p ∈ ps, BS M p.2 p.1.val) : ∀ x ∈ ps, x.2.oneCell' = true := fun x hx => by
 obtain ⟨_, _, e, _⟩ := h x hx; rw [e]; rfl
theorem steps_get {M : Mem} {sb so : Nat} {ws : List Stp} {ps : List (Stp × Value)} (hx : ∀ i u, (ps.flatMap wFi)[i]? = some u → CM M sb (so + i) u) (hp : ps.map (·.1) = ws) (hb : ∀ p ∈ ps, NS M p.2 p.1.xs) {k : Nat} (hk : k < ws.length) :
  ∃ a c, (∀ i v, ([.int .i64 ws[k].lv, .slice a ws[k].xs.length c, .int .i64 ws[k].at_] : List Value)[i]? = some v → CM M sb (so + k * 3 + i) v) ∧ NS M (.slice a ws[k].xs.length c) ws[k].xs := by
 have hk2 : k < ps.length := by rw [← hp, List.length_map] at hk; exact hk
 have hxk : ws[k] = ps[k].1 := by simp [← hp]
 have hn := hb ps[k] (List.getElem_mem hk2)
 obtain ⟨a, c, qs, e, h1, h2, h3, h4⟩ := id hn
 rw [← hxk] at e hn
 refine ⟨a, c, fun i v hv => wKo wFi 3 wLd hx (show ps[k]? = some ps[k] by simp [hk2]) i v ?_, by rw [e] at hn; exact hn⟩
 rw [← hv]
 unfold wFi
 rw [← hxk, e]
theorem wKa (x : Int) : ((bU x).toNat : Int) = x % 256 := by
 unfold bU
 rw [UInt8.toNat_ofNat']
 omega
theorem getF_one (x : By) : wLw [x] = (x.toNat : Int) := by
 have : ∀ n : Nat, n < 256 → wLw [UInt8.ofNat n] = ((UInt8.ofNat n).toNat : Int) := by decide +kernel
 have h := this x.toNat x.toNat_lt
 rwa [UInt8.ofNat_toNat] at h
theorem bOr_add {a : Int} (h : 0 ≤ a ∧ a < 16777216) (y : By) : bOr .u32 (bShl .u32 a 8) (y.toNat : Int) = a * 256 + (y.toNat : Int) := by
 have hy := y.toNat_lt
 have h8 : bShl .u32 a 8 = a * 256 := by
  unfold bShl
  rw [IntKind.wrap_u32, show (2 : Int) ^ (min 8 IntKind.u32.bits) = 256 by decide]; omega
 rw [h8]
 unfold bOr
 rw [IntKind.wrap_u32]
 have e1 : (BitVec.ofInt IntKind.u32.bits (a * 256)).toNat = 2 ^ 8 * a.toNat := by
  rw [BitVec.toNat_ofInt]; show ((a * 256) % 4294967296).toNat = _; omega
 have e2 : (BitVec.ofInt IntKind.u32.bits (y.toNat : Int)).toNat = y.toNat := by
  rw [BitVec.toNat_ofInt]; show (((y.toNat : Int)) % 4294967296).toNat = _; omega
 rw [BitVec.toNat_or, e1, e2, ← Nat.two_pow_add_eq_or_of_lt (by omega)]
 omega
theorem wLv (x y : By) : wLw [x, y] = (x.toNat : Int) * 256 + (y.toNat : Int) := by
 have hx := x.toNat_lt
 show wLw ([x] ++ [y]) = _
 rw [wJm, getF_one, bOr_add (by omega)]
theorem getF_four (x y z w : By) : wLw [x, y, z, w] = (((x.toNat : Int) * 256 + (y.toNat : Int)) * 256 + (z.toNat : Int)) * 256 + (w.toNat : Int) := by
 have hx := x.toNat_lt
 have hy := y.toNat_lt
 have hz := z.toNat_lt
 have h3 : wLw [x, y, z] = ((x.toNat : Int) * 256 + (y.toNat : Int)) * 256 + (z.toNat : Int) := by
  show wLw ([x, y] ++ [z]) = _
  rw [wJm, wLv, bOr_add (by omega)]
 show wLw ([x, y, z] ++ [w]) = _
 rw [wJm, h3, bOr_add (by omega)]
theorem wEi (n : Int) {k : Int} (hk : 0 < k) : n.fdiv k = n / k := by rw [Int.fdiv_eq_ediv_of_nonneg _ (by omega)]
theorem four_back {n : Int} (h : 0 ≤ n ∧ n < 4294967296) : wLw (wFe n).reverse = n := by
 show wLw [bU (bShr .u32 n 24), bU (bShr .u32 n 16), bU (bShr .u32 n 8), bU n] = n
 rw [getF_four, wKa, wKa, wKa, wKa]
 have e1 : bShr .u32 n 8 = n / 256 := wEi n (by decide)
 have e2 : bShr .u32 n 16 = n / 65536 := wEi n (by decide)
 have e3 : bShr .u32 n 24 = n / 16777216 := wEi n (by decide)
 rw [e1, e2, e3]; omega
theorem two_back {n : Int} (h : 0 ≤ n ∧ n < 65536) : wLw (twoB n).reverse = n := by
 show wLw [bU (bShr .i64 n 8), bU n] = n
 rw [wLv, wKa, wKa]
 have e1 : bShr .i64 n 8 = n / 256 := wEi n (by decide)
 rw [e1]; omega
theorem getN_at (pre mid post : List By) {xs : List By} {a n : Nat} (hx : xs = pre ++ (mid ++ post)) (ha : a = pre.length) (hn : n = mid.length) : wJa xs a n = wLw mid.reverse := by
 subst hx ha hn
 unfold wJa
 rw [List.drop_left, List.take_left]
theorem sumOf_range (xs : List By) : 0 ≤ wJv xs ∧ wJv xs < 4294967296 := by
 unfold wJv bXor; rw [IntKind.wrap_u32]; omega
theorem seal_drop (b : List By) : (sealB b).drop 4 = padB b := rfl
theorem open_seal {b : List By} (h : b.length ≤ 124) : wFa (sealB b) = 0 := by
 unfold wFa
 rw [if_neg (by rw [wLc h]; decide), if_neg]
 rw [seal_drop, getN_at (xs := sealB b) (a := 0) (n := 4) [] (wFe (wJv (padB b))) (padB b) rfl rfl rfl, four_back (sumOf_range _)]
 exact fun h => h rfl
def wFp (k : Ky) : Prop := (0 ≤ k.kind ∧ k.kind < 256) ∧ (0 ≤ k.id ∧ k.id < 4294967296) ∧ (0 ≤ k.off ∧ k.off < 4294967296)
theorem itB_rd {x : It} (r : List By) (hb : wDu x = false) (hk : wFp x.key) : rdE (itB x ++ r) = 0 ∧ rdX (itB x ++ r) = x ∧ (itB x ++ r).drop (rdS (itB x ++ r)) = r := by
 obtain ⟨⟨k1, k2⟩, k3, k4⟩ := hk
 have hb2 := of_decide_eq_false (show decide _ = false from hb)
 have hv : x.val.length ≤ 12 := by omega
 have hr : 0 ≤ x.ref ∧ x.ref < 256 := by omega
 have e0 : itB x ++ r = [bU x.key.kind] ++ (wFe x.key.id ++ (wFe x.key.off ++ (twoB x.ref ++ ([bU x.val.length] ++ (x.val ++ r))))) := by
  unfold itB; simp only [List.append_assoc]
 have e11 : (itB x ++ r).getD 11 0 = bU x.val.length := by rw [e0]; rfl
 have hS : rdS (itB x ++ r) = 12 + x.val.length := by
  unfold rdS; rw [e11]; have := wKa x.val.length; omega
 have hl : (itB x ++ r).length = 12 + x.val.length + r.length := by
  rw [e0]; simp [wFe, twoB]; omega
 have h0 : (((itB x ++ r).getD 0 0).toNat : Int) = x.key.kind := by
  rw [e0]; show ((bU x.key.kind).toNat : Int) = _; rw [wKa]; omega
 have h1 : wJa (itB x ++ r) 1 4 = x.key.id := by
  rw [getN_at (xs := itB x ++ r) (a := 1) (n := 4) [bU x.key.kind] (wFe x.key.id) _ e0 rfl rfl, four_back k3]
 have h5 : wJa (itB x ++ r) 5 4 = x.key.off := by
  rw [getN_at (xs := itB x ++ r) (a := 5) (n := 4) ([bU x.key.kind] ++ wFe x.key.id) (wFe x.key.off) (twoB x.ref ++ ([bU x.val.length] ++ (x.val ++ r))) (by rw [e0]; simp only [List.append_assoc]) rfl rfl, four_back k4]
 have h9 : wJa (itB x ++ r) 9 2 = x.ref := by
  rw [getN_at (xs := itB x ++ r) (a := 9) (n := 2) ([bU x.key.kind] ++ wFe x.key.id ++ wFe x.key.off) (twoB x.ref) ([bU x.val.length] ++ (x.val ++ r)) (by rw [e0]; simp only [List.append_assoc]) rfl rfl, two_back (by omega)]
 have hd : (itB x ++ r).drop 12 = x.val ++ r := by
  rw [e0]; rfl
 have hX : rdX (itB x ++ r) = x := by
  unfold rdX
  rw [h0, h1, h5, h9, hd, hS, Nat.add_sub_cancel_left, List.take_left]
 refine ⟨?_, hX, ?_⟩
 ·unfold rdE
  rw [if_neg (by omega), if_neg (by omega), hX]
  unfold wGc; rw [hb]; rfl
 rw [hS, ← List.drop_drop, hd, List.drop_left]
theorem items_rd : ∀ (xs : List It) (r : List By) (acc : List It), (∀ x ∈ xs, wDu x = false) → (∀ x ∈ xs, wFp x.key) → wCi xs.length (xs.flatMap itB ++ r) acc = some (acc ++ xs, r)
 | [], r, acc, _, _ => by simp [wCi]
 | x :: xs, r, acc, hb, hk => by
  obtain ⟨h1, h2, h3⟩ := itB_rd (x := x) (xs.flatMap itB ++ r) (hb x (by simp)) (hk x (by simp))
  rw [List.flatMap_cons, List.append_assoc, List.length_cons, rdItems_on h1, h2, h3, items_rd xs r (acc ++ [x]) (fun y hy => hb y (by simp [hy])) (fun y hy => hk y (by simp [hy]))]
  simp
theorem node_rd {lv : Int} {xs : List It} (hok : wEv lv xs = true) (hk : ∀ x ∈ xs, wFp x.key) : wDg (ndB lv xs) = some (lv, xs) := by
 have hno := NdOk.of hok
 have hbad := fun x hx => (wDh hno.ok x hx).1
 have hil := wHu hbad
 have hlv := hno.lev
 have hln := hno.len
 have hrl : (wDr lv xs).length = 3 + (xs.flatMap itB).length := by unfold wDr; rw [List.length_append]; rfl
 have hr : (wDr lv xs).length ≤ 124 := by omega
 have hd : (ndB lv xs).drop 4 = padB (wDr lv xs) := rfl
 have hp : padB (wDr lv xs) = [78, bU lv, bU xs.length] ++ (xs.flatMap itB ++ List.replicate (124 - (wDr lv xs).length) 0) := by
  unfold padB; rw [← List.append_assoc]; rfl
 have g0 : ((padB (wDr lv xs)).getD 0 0).toNat = 78 := by rw [hp]; rfl
 have g1 : (((padB (wDr lv xs)).getD 1 0).toNat : Int) = lv := by rw [hp]; show ((bU lv).toNat : Int) = _; rw [wKa]; omega
 have g2 : ((padB (wDr lv xs)).getD 2 0).toNat = xs.length := by
  have : (((padB (wDr lv xs)).getD 2 0).toNat : Int) = xs.length := by rw [hp]; show ((bU xs.length).toNat : Int) = _; rw [wKa]; omega
  omega
 have g3 : (padB (wDr lv xs)).drop 3 = xs.flatMap itB ++ List.replicate (124 - (wDr lv xs).length) 0 := by rw [hp]; rfl
 rw [wJd hd (open_seal hr) g0 (by omega), g1, g2, g3, items_rd xs _ [] hbad hk]
 have hz : wDq (List.replicate (124 - (wDr lv xs).length) 0) = true := by
  unfold wDq; rw [List.all_eq_true]; intro y hy; rw [(List.mem_replicate.1 hy).2]; rfl
 have hc : wEp lv xs = 0 := by unfold wEp; rw [if_pos (by simpa using hok)]
 show (if wEp lv ([] ++ xs) = 0 ∧ wDq (List.replicate (124 - (wDr lv xs).length) 0) = true then some (lv, [] ++ xs) else none) = _
 rw [List.nil_append, if_pos ⟨hc, hz⟩]
theorem getN_range (xs : List By) (a n : Nat) : 0 ≤ wJa xs a n ∧ wJa xs a n < 4294967296 := wJu _
theorem rdX_key (xs : List By) : wFp (rdX xs).key := by
 have := (xs.getD 0 0).toNat_lt
 exact ⟨⟨by show (0 : Int) ≤ ((xs.getD 0 0).toNat : Int); omega, by show ((xs.getD 0 0).toNat : Int) < 256; omega⟩, getN_range _ _ _, getN_range _ _ _⟩
theorem rdItems_key : ∀ {n : Nat} {r : List By} {acc : List It} {out : List It × List By}, wCi n r acc = some out → (∀ x ∈ acc, wFp x.key) → ∀ x ∈ out.1, wFp x.key
 | 0, r, acc, out, h, ha => by rw [wCi] at h; cases h; exact ha
 | n + 1, r, acc, out, h, ha => by
  rw [wCi] at h
  split at h
  ·refine rdItems_key h fun x hx => ?_
   rcases List.mem_append.1 hx with hx | hx
   ·exact ha x hx
   rw [List.mem_singleton.1 hx]; exact rdX_key _
  cases h
theorem ndAt_key {s : Sto} {k : Nat} {lv : Int} {xs : List It} (h : wBk s k = some (lv, xs)) : ∀ x ∈ xs, wFp x.key := by
 unfold wBk at h
 split at h
 ·cases h
 unfold wDg at h
 split at h
 ·split at h
  ·split at h
   ·rename_i ys r hr
    split at h
    ·cases h; exact rdItems_key hr (fun _ h => by cases h)
    cases h
   cases h
  cases h
 cases h
theorem way_facts {s : Sto} {q : Ky} : ∀ {l : Nat} {xs : List It} {k : Nat}, wBk s k = some ((l : Int), xs) → wCq s l xs → ∀ w ∈ wDf s q l xs, (∃ j, wBk s j = some (w.lv, w.xs)) ∧ w.at_ ≤ w.xs.length ∧ (w.lv ≠ 0 → w.at_ < w.xs.length)
 | 0, xs, k, hnd, ht, w, hw => by
  rw [wDf] at hw
  rw [List.mem_singleton.1 hw]
  exact ⟨⟨k, hnd⟩, wLh _ _, fun h => absurd rfl h⟩
 | l + 1, xs, k, hnd, ht, w, hw => by
  have hne := wKf hnd (by omega)
  have hw2 := wAt_lt (q := q) hne
  rw [wDf, List.getElem?_eq_getElem hw2] at hw
  rcases List.mem_cons.1 hw with rfl | hw
  ·exact ⟨⟨k, hnd⟩, by show wAt xs q ≤ xs.length; omega, fun _ => hw2⟩
  obtain ⟨ys, h1, _, h3⟩ := wEu ht (List.getElem_mem hw2)
  have hkid : kid s xs[wAt xs q] = ys := by unfold kid; rw [h1]
  change w ∈ wDf s q l (kid s xs[wAt xs q]) at hw
  rw [hkid] at hw
  exact way_facts h1 h3 w hw
theorem way_len {s : Sto} {q : Ky} : ∀ (l : Nat) (xs : List It), (wDf s q l xs).length = l + 1
 | 0, _ => rfl
 | l + 1, xs => by rw [wDf, List.length_cons, way_len l]
theorem bw_at {α : Type} {ps : List α} {pre : List (α × Nat)} {y : α × Nat} (h : pre ++ [y] <+: bw ps 0) : ∃ h : pre.length < ps.length, y.1 = ps[ps.length - 1 - pre.length] := by
 obtain ⟨r, hr⟩ := h
 have hl := congrArg List.length hr
 rw [wGs, List.length_append, List.length_append, List.length_singleton] at hl
 have hlt : pre.length < ps.length := by omega
 refine ⟨hlt, ?_⟩
 have e := congrArg (fun l => (l.map (·.1))[pre.length]?) hr
 simp only [bw_fst, List.map_append, List.map_cons, List.map_nil] at e
 rw [List.append_assoc, List.getElem?_append_right (by simp), List.getElem?_reverse (by omega)] at e
 simp only [List.length_map, Nat.sub_self] at e
 have e2 : some y.1 = ps[ps.length - 1 - pre.length]? := e
 rw [List.getElem?_eq_getElem (by omega)] at e2
 exact Option.some.inj e2
def UF (M : Mem) (v : Value) (up : List It) : Prop := ∃ b c, ∃ ps : List Ir, ∃ vl e, v = .slice (some ⟨b, 0, none⟩) up.length c ∧ up.length ≤ c ∧ M b = some (.cells (ps.flatMap wAs ++ vl).toArray e (0, 0)) ∧ ps.map (·.1) = up ∧ ∀ p ∈ ps, BS M p.2 p.1.val
theorem UF.mono {M M' : Mem} {v : Value} {up : List It} (h : UF M v up) (hM : MLe M M') : UF M' v up := by
 obtain ⟨b, c, ps, vl, e, h1, h2, h3, h4, h5⟩ := h; exact ⟨b, c, ps, vl, e, h1, h2, hM _ _ h3, h4, fun p hp => (h5 p hp).mono hM⟩
theorem UF.ns {M : Mem} {v : Value} {up : List It} (h : UF M v up) : NS M v up := by
 obtain ⟨b, c, ps, vl, e, h1, h2, h3, h4, h5⟩ := h
 exact ⟨_, c, ps, h1, h2, .inr ⟨b, 0, rfl, fun i u hu => ⟨_, _, _, h3, by
  have hi := (List.getElem?_eq_some_iff.1 hu).1
  rw [Nat.zero_add, List.getElem?_toArray, List.getElem?_append_left hi]; exact hu⟩⟩, h4, h5⟩
theorem BdPost.form {r : Except Int (Sto × List It)} {bb : Nat} {Lb : Lc} {u : Value} {M' : Mem} {L' : Lc} (h : BdPost r bb Lb u M' L') : ∃ a n c e, u = .tuple #[.slice a n c, .int .i64 e] ∧ ((e ≠ 0 ∧ r = .error e) ∨ (e = 0 ∧ ∃ t up Ru Lb', r = .ok (t, up) ∧ n = up.length ∧ L' = Ru ++ Lb' ∧ wCc t ∧ BOwn M' bb Lb' t ∧ Own (.slice a up.length c) Ru IT 5 up.length (up.flatMap ucell) ∧ (∀ x ∈ up, x.val = []) ∧ ∀ p ∈ Ru, p.1 ∉ Lb.map (·.1))) := by
 unfold BdPost at h
 split at h
 ·exact ⟨none, 0, 0, _, h.2, .inl ⟨h.1, rfl⟩⟩
 obtain ⟨a, c, Ru, Lb', h1, h2, h3, h4, h5, h6, h7⟩ := h
 exact ⟨a, _, c, 0, h1, .inr ⟨rfl, _, _, Ru, Lb', rfl, rfl, h2, h3, h4, h5, h6, h7⟩⟩
theorem LvPost.form {s : Sto} {root : Int} {bb : Nat} {u : Value} {M' : Mem} {L' : Lc} (h : LvPost s root bb u M' L') : ∃ e : Int, u = .int .i64 e ∧ ((e = 8 ∧ wGv s root = none) ∨ (e = 0 ∧ ∃ t, wGv s root = some t ∧ wCc t ∧ BOwn M' bb L' t)) := by
 rcases h with ⟨h1, h2⟩ | ⟨t, h1, h2, h3, h4⟩
 ·exact ⟨8, h2, .inl ⟨rfl, h1⟩⟩
 exact ⟨0, h2, .inr ⟨rfl, t, h1, h3, h4⟩⟩
def zeroSt : List Value := [.slice none 0 0, .slice none 0 0, .slice none 0 0, .slice none 0 0]
theorem jc_bench {P : Program} {N : Fs} {c : Code} {F : Fr} {W : World} {X : List Nat} {M0 M : Mem} {L L2 Lb : Lc} {Q : Exit → Act → World → Prop} {bb : Nat} {s : Sto} (hB : BOwn M bb Lb s) [hp : Pick Lb L L2] (hg : ∀ p ∈ Lb, p.1 ∉ X)
  (h : ∀ M' bv wv nv lv, MLe M M' → M' bb = some (.cells [bv, wv, nv, lv].toArray TBn (0, 0)) → LS M' bv s.blocks → WS M' wv s.waits → BS M' nv s.now → BS M' lv s.last → JC P N c F ⟨W, X, M0⟩ M' L2 Q) : JC P N c F ⟨W, X, M0⟩ M L Q := by
 obtain ⟨bv, wv, na, nc, lv, Rw, Rn, rfl, g2, g3, g4, wps, hw1, hw2, hw3⟩ := hB
 refine wKj (M' := M) (L' := (bb, .cells [bv, wv, .slice na s.now.length nc, lv].toArray TBn (0, 0)) :: (Rw ++ (Rn ++ L2))) (fun w hw => by have := hw.perm hp.perm; rwa [List.cons_append, List.append_assoc] at this) ?_
 have fin : ∀ (M1 : Mem) (wv' : Value), MLe M M1 → wv' = wv → WS M1 wv' s.waits → JC P N c F ⟨W, X, M0⟩ M1 ((bb, .cells [bv, wv, .slice na s.now.length nc, lv].toArray TBn (0, 0)) :: (Rn ++ L2)) Q := fun M1 wv' hM1 e hW => by
  subst e
  refine jc_own g4 (fun p hp => hg p (by simp [hp])) ?_
  intro M2 a2 c2 hM2 e2 hc2 hs2
  refine wHk bb (hg _ (List.mem_cons_self (a := (bb, _)))) ?_
  intro M3 hM3 e3
  rw [e2] at e3
  exact h M3 _ _ _ _ (hM1.trans (hM2.trans hM3)) e3 (g2.mono (hM1.trans (hM2.trans hM3))) (hW.mono (hM2.trans hM3)) ⟨_, _, rfl, hc2, hs2.mono hM3⟩ (g3.mono (hM1.trans (hM2.trans hM3)))
 rcases hw3 with hw3 | ⟨rfl, hfl, ba, rfl, hbs, hold⟩
 ·refine jc_own hw3 (fun p hp => hg p (by simp [hp])) ?_
  intro M1 a1 c1 hM1 e1 hc1 hs1
  exact fin M1 _ hM1 e1.symm ⟨a1, c1, wps, rfl, hc1, hs1, hw1, fun p hp => (hw2 p hp).mono hM1⟩
 refine fin M _ (MLe.refl _) rfl ⟨_, _, wps, rfl, Nat.le_refl _, ?_, hw1, hw2⟩
 rcases hbs with h0 | hbs
 ·exact .inl h0
 obtain ⟨b, of, sp⟩ := ba
 simp only at hbs
 subst hbs
 exact .inr ⟨b, of, rfl, hold⟩
structure PtZ where
 t : Sto
 up : List It
 M : Mem
 L : Lc
 v : Value
structure PtZI (r : Except Int (Sto × List It)) (bb : Nat) (M0 : Mem) (z : PtZ) : Prop where
 eq : r = .ok (z.t, z.up)
 bo : BOwn z.M bb z.L z.t
 ok : wCc z.t
 uf : UF z.M z.v z.up
 pos : 0 < z.up.length
 mle : MLe M0 z.M
end Go.Proofs.YtkcpllhggofloaaGreat
