/- Walks: items of a row of one's own taken out, or replaced by one; rows joined; steps told backwards. No statement of the seat is proved here. -/
import Derived.Test.YtkcpllhggofloaaGreatZHj
import Derived.Test.YtkcpllhggofloaaGreatZPut
import Derived.Test.YtkcpllhggofloaaGreatZDelg
namespace Go.Proofs.YtkcpllhggofloaaGreat
set_option linter.unusedVariables false
set_option linter.unusedSectionVars false
set_option linter.unusedSimpArgs false
open Go.RowKit
theorem wJx {g a b n n' c c' : Nat} (h1 : a = b) (h2 : n = n') (h3 : c = c') : Value.slice (some ⟨g, a, none⟩) n c = Value.slice (some ⟨g, b, none⟩) n' c' := by subst h1; subst h2; subst h3; rfl
theorem cut_clear {l A B X Z Y : List Value} {a off : Nat} (h1 : l.take a = A) (h2 : off = A.length + B.length) : (l.take a ++ B ++ X).take off ++ Z ++ Y = (A ++ B) ++ (Z ++ Y) := by
 subst h2
 rw [h1, show A.length + B.length = (A ++ B).length by rw [List.length_append], List.take_left, List.append_assoc]
theorem own_cut {g n cap a off : Nat} {e : TypeId} {l A B Z : List Value} (h1 : l.take a = A) (hoff : off = A.length + B.length) (hn : A.length + B.length = n * 5) (hc : n + 1 ≤ cap) (hcm : cap ≤ maxLen) (hl : l.length = cap * 5) (hZ : Z.length = 5) (hr : a + B.length ≤ l.length) :
  Own (.slice (some ⟨g, 0, none⟩) n cap) [(g, .cells ((l.take a ++ B ++ l.drop (a + B.length)).take off ++ Z ++ (l.take a ++ B ++ l.drop (a + B.length)).drop (off + Z.length)).toArray e (0, 0))] e 5 n (A ++ B) := by
 refine own_row (cut_clear h1 hoff) (by rw [List.length_append]; exact hn) (by omega) hcm ?_
 simp only [List.length_append, List.length_take, List.length_drop]
 omega
theorem sj_slA {M : Mem} {L : Lc} {g c : Nat} {p1 p2 : List Ir} {y : Ir} {sp : List Value} {e : TypeId} (hm : (g, Obj.cells (p1.flatMap wAs ++ (wAs y ++ (p2.flatMap wAs ++ sp))).toArray e (0, 0)) ∈ L) (hc : p1.length + 1 + p2.length ≤ c) : SJ M L (slA (some ⟨g, 0, none⟩) (p1.length + 1) c 5) (p2.flatMap wAs) := by
 cases p2 with
 | nil => exact .inl rfl
 | cons z zs =>
  rw [List.length_cons] at hc
  rw [wBn (by omega)]
  exact sj_own2 hm (by rw [fl]; show 0 + (p1.length + 1) * 5 = p1.length * 5 + 5; omega)
theorem fl_take (p1 : List Ir) (Y : List Value) : (p1.flatMap wAs ++ Y).take (0 + p1.length * 5) = p1.flatMap wAs := by rw [Nat.zero_add, ← fl p1, List.take_left]
set_option maxHeartbeats 4000000 in
theorem delrow (p1 : List Ir) (y : Ir) (p2 : List Ir) (g c : Nat) (sp : List Value) (M : Mem) (hpo : ∀ x ∈ p2, x.2.oneCell' = true) (hc : p1.length + 1 + p2.length ≤ c) (hcm : c ≤ maxLen) (hsp : sp.length = (c - (p1.length + 1 + p2.length)) * 5) (hbig : p1.length + 1 + p2.length ≤ 100000) :
  SpecL Tryz.prog 13 #[.slice (some ⟨g, 0, none⟩) (p1.length + 1 + p2.length) c, .int .i64 p1.length, .int .i64 ((p1.length + 1 : Nat) : Int)] M [(g, .cells (p1.flatMap wAs ++ (wAs y ++ (p2.flatMap wAs ++ sp))).toArray IT (0, 0))] fun u M' L' => Own u L' IT 5 (p1.length + p2.length) ((p1 ++ p2).flatMap wAs) := by
 refine wAf (vs := [_, _, _]) 33 _ Tryz.func13 rfl Tryz.ntmps13 rfl rfl ?_; intro W
 refine wAb (wAa (jp rfl (wAc (jT (wAb (wAa (jp rfl (jp rfl (jp rfl (jp rfl (wAi rfl rfl (wBj rfl rfl rfl) ?_)))))))))))
 refine wAi rfl rfl (qEq (qSl rfl rfl rfl (.of (v := p1.length + 1 + p2.length) rfl (by omega) (by omega)) (.of (v := p1.length + 1) rfl (by omega) (by omega)) (.of (v := p1.length) rfl (by omega) (by omega)) (by omega) (by simp)) (v' := .slice (some ⟨g, p1.length * 5, none⟩) (1) (p1.length + 1 + p2.length - p1.length)) (by rw [wBn (by omega)]; exact wJx (by omega) (by omega) (by omega))) ?_
 refine wAc (jT (wAb (wAb (wAa (jp rfl (jp rfl (jf rfl (decide_eq_false (by omega)) ?_)))))))
 refine wAc (jT (wAk rfl (wAd (jT (wAb (wAa (jp rfl (wAi rfl rfl (wBj rfl rfl rfl) ?_))))))))
 refine jp rfl (wAc (jT (wAb (wBp [(0, true), (1, true), (2, true), (3, true), (4, true), (5, true), (6, false), (7, true)] [] (by kernel_rfl) (by kernel_rfl) (by kernel_rfl) rfl (by simp) ?_))))
 iterate 2 refine dp rfl rfl ?_
 refine wBq rfl rfl rfl (qEq (qSl rfl rfl rfl (.no _) (.of (v := p1.length) rfl (by omega) (by omega)) (.no _) (by omega) (by simp)) (v' := .slice (some ⟨g, 0, none⟩) (p1.length) (c)) (by rw [wCx]; rfl)) ?_
 iterate 2 refine dp rfl rfl ?_
 refine wBq rfl rfl rfl (qSl rfl rfl rfl (.no _) (.no _) (.of (v := p1.length + 1) rfl (by omega) (by omega)) (by omega) (by simp)) ?_
 refine wHc rfl rfl rfl (hAppendFit (cs := p2.flatMap wAs) rfl rfl rfl rfl (by rw [fl]; congr 1; omega) (sj_slA (List.Mem.head _) hc) (wFc hpo) (by omega) (by simp only [List.length_append, List.length_take, List.length_drop, fl, wAq]; omega)) ?_; rintro _ _ _ ⟨rfl, rfl, rfl⟩
 refine ⟨_, _, MLe.refl _, MLe.refl _, fun _ h => h, by simp, ?_⟩
 refine dp rfl rfl ?_
 refine wBd (jPn (jT (wAb (wAa (jp rfl (jp rfl (wAi rfl rfl (wBj rfl rfl rfl) ?_)))))))
 refine jp rfl ?_
 refine wAi rfl rfl (qEq (qSl rfl rfl rfl (.no _) (.of (v := p1.length + 1 + p2.length) rfl (by omega) (by omega)) (.of (v := p1.length + (p1.length + 1 + p2.length - (p1.length + 1))) rfl (by omega) (by omega)) (by omega) (by simp)) (v' := .slice (some ⟨g, (p1.length + p2.length) * 5, none⟩) (1) (c - (p1.length + p2.length))) (by rw [wBn (by omega)]; exact wJx (by omega) (by omega) (by omega))) ?_
 refine jl_s rfl (hClear rfl rfl rfl (by decide) (by simp [Value.oneCell']) (by simp only [List.length_append, List.length_take, List.length_drop, fl, wAq]; omega)) ?_; rintro _ _ _ ⟨rfl, rfl⟩
 refine wAc (jT (wAb (wAa (jp rfl (jp rfl (wAc (jT (wAe (jr1 rfl rfl ?_)))))))))
 rw [show p1.length + (p1.length + 1 + p2.length - (p1.length + 1)) = p1.length + p2.length by omega, List.flatMap_append]
 exact own_cut (fl_take p1 _) (by rw [fl, fl]; omega) (by rw [fl, fl]; omega) (by omega) hcm (by simp only [List.length_append, List.length_take, List.length_drop, fl, wAq]; omega) rfl (by simp only [List.length_append, List.length_take, List.length_drop, fl, wAq]; omega)
theorem sj_own3 {M : Mem} {L : Lc} {g off : Nat} {A Y B sp : List Value} {e : TypeId} (hm : (g, Obj.cells (A ++ (Y ++ (B ++ sp))).toArray e (0, 0)) ∈ L) (ho : off = A.length + Y.length) : SJ M L (some ⟨g, off, none⟩) B := sj_own2 hm ho
theorem two_rows (A V Y T : List Value) (a : Nat) (ha : A.length = a) (hv : V.length = 5) (hy : Y.length = 5) (Y2 : List Value) : (A ++ (Y ++ Y2 ++ T)).take (0 + a) ++ V ++ (A ++ (Y ++ Y2 ++ T)).drop (0 + a + V.length) = (A ++ V) ++ (Y2 ++ T) := by
 subst ha
 rw [Nat.zero_add, List.take_left, List.append_assoc Y Y2 T, ← List.append_assoc A Y, show A.length + V.length = (A ++ Y).length by rw [List.length_append, hv, hy], List.drop_left]
set_option maxHeartbeats 4000000 in
theorem rep2_mid (p1 : List Ir) (y y2 : Ir) (p2 : List Ir) (x : Ir) (g c : Nat) (sp : List Value) (vb vc : Nat) (vl : List Value) (ve : TypeId) (M : Mem) (hvb : M vb = some (.cells (wAs x ++ vl).toArray ve (0, 0))) (hvo : x.2.oneCell' = true) (hpo : ∀ x ∈ p2, x.2.oneCell' = true) (hc : p1.length + 2 + p2.length ≤ c) (hcm : c ≤ maxLen) (hsp : sp.length = (c - (p1.length + 2 + p2.length)) * 5) (hbig : p1.length + 2 + p2.length ≤ 100000) (h2 : 0 < p2.length) :
  SpecL Tryz.prog 19 #[.slice (some ⟨g, 0, none⟩) (p1.length + 2 + p2.length) c, .int .i64 p1.length, .int .i64 ((p1.length + 2 : Nat) : Int), .slice (some ⟨vb, 0, none⟩) 1 vc] M [(g, .cells (p1.flatMap wAs ++ (wAs y ++ wAs y2 ++ (p2.flatMap wAs ++ sp))).toArray IT (0, 0))] fun u M' L' => Own u L' IT 5 (p1.length + 1 + p2.length) ((p1 ++ [x] ++ p2).flatMap wAs) := by
 refine wAf (vs := [_, _, _, _]) 224 _ Tryz.func19 rfl Tryz.ntmps19 rfl rfl ?_; intro W
 refine wAb (wAa (jp rfl (wAc (jT (wAb (wAa (jp rfl (jp rfl (jp rfl (wAi rfl rfl (qSl rfl rfl rfl (.no _) (.of (v := p1.length + 2) rfl (by omega) (by omega)) (.of (v := p1.length) rfl (by omega) (by omega)) (by omega) (by simp)) ?_))))))))))
 refine wAc (jT (wAb (wAb (wAa (jp rfl (jp rfl (jf rfl (decide_eq_false (by omega)) ?_)))))))
 refine wAc (jT (wAk rfl (wAd (jT (wAb (wAb (wAa (jp rfl (jp rfl (wAi rfl rfl (wBj rfl rfl rfl) ?_))))))))))
 refine jf rfl (decide_eq_false (by omega)) ?_
 refine wAc (jT (wAk rfl (wAd (jT (wAb (wBp [(0, true), (1, true), (2, true), (3, true), (4, true), (5, true), (6, true), (7, true), (8, true), (9, true), (10, true), (11, true), (12, true)] [] (by kernel_rfl) (by kernel_rfl) (by kernel_rfl) rfl (by simp) ?_))))))
 iterate 2 refine dp rfl rfl ?_
 refine wBq rfl rfl rfl (qEq (qSl rfl rfl rfl (.no _) (.of (v := p1.length) rfl (by omega) (by omega)) (.no _) (by omega) (by simp)) (v' := .slice (some ⟨g, 0, none⟩) (p1.length) (c)) (by rw [wCx]; rfl)) ?_
 refine wBq rfl rfl rfl (wBj rfl rfl rfl) ?_
 refine dp rfl rfl ?_
 refine wBq rfl rfl rfl (wBj rfl rfl rfl) ?_
 refine da rfl rfl (by omega) ?_
 iterate 2 refine dp rfl rfl ?_
 refine wBq rfl rfl rfl (qEq (qSl rfl rfl rfl (.no _) (.no _) (.of (v := p1.length + 2) rfl (by omega) (by omega)) (by omega) (by simp)) (v' := .slice (some ⟨g, p1.length * 5 + 10, none⟩) (p2.length) (c - (p1.length + 2))) (by rw [wBn (by omega)]; exact wJx (by omega) (by omega) (by omega))) ?_
 refine wBq rfl rfl rfl (wBj rfl rfl rfl) ?_
 refine da rfl rfl (by omega) ?_
 refine dp rfl rfl ?_
 refine wBd (jPn (jT (wAb (wAb (wAa (jp rfl (jp rfl (wAi rfl rfl (qCap rfl rfl rfl) ?_))))))))
 refine jf rfl (decide_eq_false (by omega)) ?_
 refine wAc (jT (wAk rfl (wAd (jT (wAb (wAa (jp rfl (jp rfl ?_))))))))
 refine wAi rfl rfl (qEq (qSl rfl rfl rfl (.no _) (.of (v := p1.length + 1 + p2.length) rfl (by omega) (by omega)) (.no _) (by omega) (by simp)) (v' := .slice (some ⟨g, 0, none⟩) (p1.length + 1 + p2.length) c) (by rw [wCx]; exact wJx rfl (by omega) (by omega))) ?_
 refine jp rfl (wAc (jT (wAb (wAb (wAa (jp rfl (jp rfl (wAi rfl rfl (wBj rfl rfl rfl) ?_))))))))
 refine ja rfl (by omega) ?_
 refine jp rfl (jt rfl (decide_eq_true (by omega)) ?_)
 refine wAc (jT (wAg rfl (wAb (wAa (jp rfl (jp rfl ?_))))))
 refine wAi rfl rfl (qEq (qSl rfl rfl rfl (.no _) (.no _) (.of (v := p1.length) rfl (by omega) (by omega)) (by omega) (by simp)) (v' := .slice (some ⟨g, p1.length * 5, none⟩) (p1.length + 1 + p2.length - p1.length) (c - p1.length)) (by rw [wBn (by omega)]; exact wJx (by omega) (by omega) (by omega))) ?_
 refine jp rfl ?_
 refine wAy rfl rfl (hCopyN (cs := wAs x) rfl rfl rfl rfl (by rw [wAq, Nat.min_eq_left (by omega)]) ((SM.of_block_pre hvb).sj _) (by intro u hu; simp only [wAs, List.mem_cons, List.not_mem_nil, or_false] at hu; rcases hu with rfl | rfl | rfl | rfl | rfl <;> first | rfl | exact hvo) (by simp only [List.length_append, List.length_take, List.length_drop, fl, wAq]; omega)) ?_; rintro _ _ _ ⟨rfl, rfl, rfl⟩
 have e97 := two_rows (p1.flatMap wAs) (wAs x) (wAs y) (p2.flatMap wAs ++ sp) (p1.length * 5) (fl p1) rfl rfl (wAs y2)
 rw [Nat.zero_add] at e97
 rw [e97]
 refine wAc (jT (wAb (wBp [(0, true), (1, true), (2, true), (3, true), (4, true), (5, true), (6, true), (7, true), (8, true), (9, false)] [] (by kernel_rfl) (by kernel_rfl) (by kernel_rfl) rfl (by simp) ?_)))
 iterate 3 refine dp rfl rfl ?_
 refine wBq rfl rfl rfl (wBj rfl rfl rfl) ?_
 refine da rfl rfl (by omega) ?_
 refine wBq rfl rfl rfl (qEq (qSl rfl rfl rfl (.no _) (.no _) (.of (v := p1.length + 1) rfl (by omega) (by omega)) (by omega) (by simp)) (v' := .slice (some ⟨g, p1.length * 5 + 5, none⟩) (p1.length + 1 + p2.length - (p1.length + 1)) (c - (p1.length + 1))) (by rw [wBn (by omega)]; exact wJx (by omega) (by omega) (by omega))) ?_
 iterate 2 refine dp rfl rfl ?_
 refine wBq rfl rfl rfl (qEq (qSl rfl rfl rfl (.no _) (.no _) (.of (v := p1.length + 2) rfl (by omega) (by omega)) (by omega) (by simp)) (v' := .slice (some ⟨g, p1.length * 5 + 10, none⟩) (p2.length) (c - (p1.length + 2))) (by rw [wBn (by omega)]; exact wJx (by omega) (by omega) (by omega))) ?_
 refine wHc rfl rfl rfl (hCopyN (cs := p2.flatMap wAs) rfl rfl rfl rfl (by rw [fl, Nat.min_eq_left (by omega)]) (sj_own3 (List.Mem.head _) (by rw [List.length_append, fl, wAq, wAq])) (wFc hpo) (by simp only [List.length_append, List.length_take, List.length_drop, fl, wAq]; omega)) ?_; rintro _ _ _ ⟨rfl, rfl, rfl⟩
 refine ⟨_, _, MLe.refl _, MLe.refl _, fun _ h => h, by simp, ?_⟩
 refine wBd (jPn (jT (wAb (wAa (jp rfl (jp rfl ?_))))))
 refine wAi rfl rfl (qEq (qSl rfl rfl rfl (.no _) (.no _) (.of (v := p1.length + 1 + p2.length) rfl (by omega) (by omega)) (by omega) (by simp)) (v' := .slice (some ⟨g, (p1.length + 1 + p2.length) * 5, none⟩) (1) (c - (p1.length + 1 + p2.length))) (by rw [wBn (by omega)]; exact wJx (by omega) (by omega) (by omega))) ?_
 refine jl_s rfl (hClear rfl rfl rfl (by decide) (by simp [Value.oneCell']) (by simp only [List.length_append, List.length_take, List.length_drop, fl, wAq]; omega)) ?_; rintro _ _ _ ⟨rfl, rfl⟩
 refine wAc (jT (wAb (wAa (jp rfl (jp rfl (wAc (jT (wAe (jTr (jr1 rfl rfl ?_))))))))))
 have e1 : ((p1.flatMap wAs ++ wAs x) ++ (wAs y2 ++ (p2.flatMap wAs ++ sp))).take (p1.length * 5 + 5) = p1.flatMap wAs ++ wAs x := by rw [show p1.length * 5 + 5 = (p1.flatMap wAs ++ wAs x).length by rw [List.length_append, fl, wAq], List.take_left]
 rw [List.flatMap_append, List.flatMap_append, show [x].flatMap wAs = wAs x by simp]
 exact own_cut e1 (by simp only [List.length_append, fl, wAq]; omega) (by simp only [List.length_append, fl, wAq]; omega) (by omega) hcm (by simp only [List.length_append, List.length_take, List.length_drop, fl, wAq]; omega) rfl (by simp only [List.length_append, List.length_take, List.length_drop, fl, wAq]; omega)
set_option maxHeartbeats 4000000 in
theorem rep2_end (p1 : List Ir) (y y2 : Ir) (x : Ir) (g c : Nat) (sp : List Value) (vb vc : Nat) (vl : List Value) (ve : TypeId) (M : Mem) (hvb : M vb = some (.cells (wAs x ++ vl).toArray ve (0, 0))) (hvo : x.2.oneCell' = true) (hc : p1.length + 2 ≤ c) (hcm : c ≤ maxLen) (hsp : sp.length = (c - (p1.length + 2)) * 5) (hbig : p1.length + 2 ≤ 100000) :
  SpecL Tryz.prog 19 #[.slice (some ⟨g, 0, none⟩) (p1.length + 2) c, .int .i64 p1.length, .int .i64 ((p1.length + 2 : Nat) : Int), .slice (some ⟨vb, 0, none⟩) 1 vc] M [(g, .cells (p1.flatMap wAs ++ (wAs y ++ wAs y2 ++ sp)).toArray IT (0, 0))] fun u M' L' => Own u L' IT 5 (p1.length + 1) ((p1 ++ [x]).flatMap wAs) := by
 refine wAf (vs := [_, _, _, _]) 224 _ Tryz.func19 rfl Tryz.ntmps19 rfl rfl ?_; intro W
 refine wAb (wAa (jp rfl (wAc (jT (wAb (wAa (jp rfl (jp rfl (jp rfl (wAi rfl rfl (qSl rfl rfl rfl (.no _) (.of (v := p1.length + 2) rfl (by omega) (by omega)) (.of (v := p1.length) rfl (by omega) (by omega)) (by omega) (by simp)) ?_))))))))))
 refine wAc (jT (wAb (wAb (wAa (jp rfl (jp rfl (jf rfl (decide_eq_false (by omega)) ?_)))))))
 refine wAc (jT (wAk rfl (wAd (jT (wAb (wAb (wAa (jp rfl (jp rfl (wAi rfl rfl (wBj rfl rfl rfl) ?_))))))))))
 refine jt rfl (decide_eq_true (by omega)) ?_
 refine wAc (jT (wAg rfl (wAb (wAa (jp rfl (jp rfl ?_))))))
 refine wAi rfl rfl (qEq (qSl rfl rfl rfl (.no _) (.of (v := p1.length) rfl (by omega) (by omega)) (.no _) (by omega) (by simp)) (v' := .slice (some ⟨g, 0, none⟩) (p1.length) (c)) (by rw [wCx]; rfl)) ?_
 refine jp rfl ?_
 refine wAy rfl rfl (hAppendFit (cs := wAs x) rfl rfl rfl rfl (by rw [wAq]) ((SM.of_block_pre hvb).sj _) (by intro u hu; simp only [wAs, List.mem_cons, List.not_mem_nil, or_false] at hu; rcases hu with rfl | rfl | rfl | rfl | rfl <;> first | rfl | exact hvo) (by omega) (by simp only [List.length_append, List.length_take, List.length_drop, fl, wAq]; omega)) ?_; rintro _ _ _ ⟨rfl, rfl, rfl⟩
 refine jp rfl (wAc (jT (wAb (wAb (wAa (jp rfl (wAi rfl rfl (wBj rfl rfl rfl) ?_)))))))
 refine jp rfl (wAi rfl rfl (wBj rfl rfl rfl) ?_)
 refine jt rfl (decide_eq_true (by omega)) ?_
 refine wAc (jT (wAg rfl (wAa (jp rfl (jp rfl (wAi rfl rfl (wBj rfl rfl rfl) ?_))))))
 refine wAi rfl rfl (qEq (qSl rfl rfl rfl (.no _) (.no _) (.of (v := p1.length + 1) rfl (by omega) (by omega)) (by omega) (by simp)) (v' := .slice (some ⟨g, (p1.length + 1) * 5, none⟩) (1) (c - (p1.length + 1))) (by rw [wBn (by omega)]; exact wJx (by omega) (by omega) (by omega))) ?_
 refine jl_s rfl (hClear rfl rfl rfl (by decide) (by simp [Value.oneCell']) (by simp only [List.length_append, List.length_take, List.length_drop, fl, wAq]; omega)) ?_; rintro _ _ _ ⟨rfl, rfl⟩
 refine wAc (jT (wAb (wAa (jp rfl (jp rfl (wAc (jT (wAe (jTr (jr1 rfl rfl ?_))))))))))
 rw [List.flatMap_append, show [x].flatMap wAs = wAs x by simp]
 exact own_cut (fl_take p1 _) (by rw [fl, wAq]; omega) (by rw [fl, wAq]; omega) (by omega) hcm (by simp only [List.length_append, List.length_take, List.length_drop, fl, wAq]; omega) rfl (by simp only [List.length_append, List.length_take, List.length_drop, fl, wAq]; omega)
theorem del_spec (ps : List Ir) (i : Nat) (hi : i < ps.length) (sa : Option Addr) (sc : Nat) (R : Lc) (hown : Own (.slice sa ps.length sc) R IT 5 ps.length (ps.flatMap wAs)) (hpo : ∀ x ∈ ps, x.2.oneCell' = true) (M : Mem) (hbig : ps.length ≤ 100000) :
  SpecL Tryz.prog 13 #[.slice sa ps.length sc, .int .i64 i, .int .i64 ((i + 1 : Nat) : Int)] M R fun u _ L' => Own u L' IT 5 (ps.length - 1) ((ps.take i ++ ps.drop (i + 1)).flatMap wAs) := by
 obtain ⟨g, sp, rfl, rfl, h1, h2, h3⟩ := own_parts hown hi
 have hl1 : (ps.take i).length = i := by rw [List.length_take]; omega
 have hl2 : (ps.drop (i + 1)).length = ps.length - (i + 1) := List.length_drop
 have hd : ps.drop i = ps[i] :: ps.drop (i + 1) := List.drop_eq_getElem_cons hi
 rw [hd, List.flatMap_cons, List.append_assoc]
 have hk := delrow (ps.take i) ps[i] (ps.drop (i + 1)) g sc sp M (fun x hx => hpo x (List.mem_of_mem_drop hx)) (by omega) h2 (by rw [hl1, hl2, show i + 1 + (ps.length - (i + 1)) = ps.length by omega]; exact h3) (by omega)
 rw [hl1, hl2, show i + 1 + (ps.length - (i + 1)) = ps.length by omega, show i + (ps.length - (i + 1)) = ps.length - 1 by omega] at hk
 exact hk
theorem rep2_spec (ps : List Ir) (x : Ir) (i : Nat) (hi : i + 1 < ps.length) (sa : Option Addr) (sc : Nat) (R : Lc) (hown : Own (.slice sa ps.length sc) R IT 5 ps.length (ps.flatMap wAs)) (hpo : ∀ x ∈ ps, x.2.oneCell' = true) (vb vc : Nat) (vl : List Value) (ve : TypeId) (M : Mem) (hvb : M vb = some (.cells (wAs x ++ vl).toArray ve (0, 0))) (hvo : x.2.oneCell' = true) (hbig : ps.length ≤ 100000) :
  SpecL Tryz.prog 19 #[.slice sa ps.length sc, .int .i64 i, .int .i64 ((i + 2 : Nat) : Int), .slice (some ⟨vb, 0, none⟩) 1 vc] M R fun u _ L' => Own u L' IT 5 (ps.length - 1) ((ps.take i ++ [x] ++ ps.drop (i + 2)).flatMap wAs) := by
 obtain ⟨g, sp, rfl, rfl, h1, h2, h3⟩ := own_parts hown (i := i) (by omega)
 have hl1 : (ps.take i).length = i := by rw [List.length_take]; omega
 have hl2 : (ps.drop (i + 2)).length = ps.length - (i + 2) := List.length_drop
 have hd : ps.drop i = ps[i] :: ps[i + 1] :: ps.drop (i + 2) := by rw [List.drop_eq_getElem_cons (show i < ps.length by omega), List.drop_eq_getElem_cons hi]
 rw [hd, List.flatMap_cons, List.flatMap_cons, ← List.append_assoc (wAs ps[i]), List.append_assoc (wAs ps[i] ++ wAs ps[i + 1])]
 clear hd
 generalize ps[i] = y1
 generalize ps[i + 1] = y2
 by_cases h : i + 2 = ps.length
 ·have hn : ps.drop (i + 2) = [] := List.drop_eq_nil_of_le (by omega)
  have hk := rep2_end (ps.take i) y1 y2 x g sc sp vb vc vl ve M hvb hvo (by omega) h2 (by rw [hl1, h]; exact h3) (by omega)
  rw [hl1] at hk
  rw [hn, List.flatMap_nil, List.nil_append, List.append_nil, show ps.length - 1 = i + 1 by omega, ← h]
  exact hk
 have hk := rep2_mid (ps.take i) y1 y2 (ps.drop (i + 2)) x g sc sp vb vc vl ve M hvb hvo (fun x hx => hpo x (List.mem_of_mem_drop hx)) (by omega) h2 (by rw [hl1, hl2, show i + 2 + (ps.length - (i + 2)) = ps.length by omega]; exact h3) (by omega) (by omega)
 rw [hl1, hl2, show i + 2 + (ps.length - (i + 2)) = ps.length by omega, show i + 1 + (ps.length - (i + 2)) = ps.length - 1 by omega] at hk
 exact hk
theorem igrow_nil (M : Mem) :
  SpecL Tryz.prog 61 #[.slice none 0 0, .int .i64 0] M [] fun u M' L' => Own u L' IT 5 0 [] := by
 refine wAf (vs := [_, _]) 27 _ Tryz.func61 rfl Tryz.ntmps61 rfl rfl ?_; intro W
 refine wAb (wAa (jp rfl (wAc (jT (wAb (wAb (wAa (jp rfl (jf rfl (decide_eq_false (by omega)) ?_)))))))))
 refine wAc (jT (wAk rfl (wAd (jT (wAb (wAb (wAa (jp rfl (jp rfl (wAi rfl rfl (qCap rfl rfl rfl) ?_))))))))))
 refine jp rfl (wAi rfl rfl (wBj rfl rfl rfl) ?_)
 refine ja rfl (by omega) ?_
 refine ja rfl (by omega) ?_
 refine jp rfl (wAc (jT (wAb (wAa (jp rfl (jf rfl (decide_eq_false (by omega)) ?_))))))
 refine wAc (jT (wAk rfl (wAd (jT (wAb (wAa (jp rfl (jp rfl (wAc (jT (wAe (jr1 rfl rfl ?_))))))))))))
 exact Own.nil _ _
theorem igrow_some (n : Nat) (M : Mem) (h0 : 0 < n) (hn : n ≤ 1000000000) :
  SpecL Tryz.prog 61 #[.slice none 0 0, .int .i64 n] M [] fun u M' L' => Own u L' IT 5 0 [] := by
 refine wAf (vs := [_, _]) 27 _ Tryz.func61 rfl Tryz.ntmps61 rfl rfl ?_; intro W
 refine wAb (wAa (jp rfl (wAc (jT (wAb (wAb (wAa (jp rfl (jf rfl (decide_eq_false (by omega)) ?_)))))))))
 refine wAc (jT (wAk rfl (wAd (jT (wAb (wAb (wAa (jp rfl (jp rfl (wAi rfl rfl (qCap rfl rfl rfl) ?_))))))))))
 refine jp rfl (wAi rfl rfl (wBj rfl rfl rfl) ?_)
 refine ja rfl (by omega) ?_
 refine ja rfl (by omega) ?_
 refine jp rfl (wAc (jT (wAb (wAa (jp rfl (jt rfl (decide_eq_true (by omega)) ?_))))))
 refine wAc (jT (wAg rfl (wAa (jp rfl (jp rfl (wAi rfl rfl (qCap rfl rfl rfl) ?_))))))
 refine wAi rfl rfl (qEq (qSl rfl rfl rfl (.no _) (.of (v := 0) rfl (by omega) rfl) (.no _) (by omega) (by simp)) (v' := .slice none 0 0) (by rw [wCx])) ?_
 refine jp rfl ?_
 refine wAy rfl rfl (hAppendZs (n := n) rfl rfl rfl (by simp [show (n : Int) - (0 - 0) = n by omega]; rfl) (by rfl) h0 hn (by omega)) ?_; rintro _ _ _ ⟨rfl, b22, cap, cur, rfl, rfl, hc1, hc2, hc3⟩
 refine jp rfl (wAi rfl rfl (wBj rfl rfl rfl) ?_)
 refine wAi rfl rfl (qEq (qSl rfl rfl rfl (.no _) (.of (v := 0) rfl (by omega) rfl) (.no _) (by omega) (by simp)) (v' := .slice (some ⟨b22, 0, none⟩) 0 cap) (by rw [wCx]; rfl)) ?_
 refine jp rfl (wAc (jT (wAb (wAa (jp rfl (jp rfl (wAc (jT (wAe (jr1 rfl rfl ?_))))))))))
 exact ⟨rfl, .inr ⟨b22, cap, cur, rfl, rfl, Nat.zero_le _, hc2, hc3, by simp⟩⟩
theorem igrow_spec (n : Nat) (M : Mem) (hn : n ≤ 1000000000) : SpecL Tryz.prog 61 #[.slice none 0 0, .int .i64 n] M [] fun u _ L' => Own u L' IT 5 0 [] := by
 rcases Nat.eq_zero_or_pos n with rfl | h
 ·exact igrow_nil M
 exact igrow_some n M h hn
theorem iflat_take {bs : List (List Ir)} {k : Nat} (h : k < bs.length) : (bs.take (k + 1)).flatten = (bs.take k).flatten ++ bs[k] := by
 rw [List.take_succ_eq_append_getElem h, List.flatten_append]; simp
theorem iflat_le {bs : List (List Ir)} (k : Nat) : (bs.take k).flatten.length ≤ bs.flatten.length := by
 conv => rhs; rw [← List.take_append_drop k bs, List.flatten_append, List.length_append]
 omega
def RwS (M : Mem) (v : Value) (r : List Ir) : Prop := ∃ a c, v = .slice a r.length c ∧ r.length ≤ c ∧ SM M a (r.flatMap wAs)
theorem RwS.mono {M M' : Mem} {v : Value} {r : List Ir} (h : RwS M v r) (hM : MLe M M') : RwS M' v r := by obtain ⟨a, c, h1, h2, h3⟩ := h; exact ⟨a, c, h1, h2, h3.mono hM⟩
theorem rws_get {M : Mem} {sb so : Nat} {bs : List (List Ir)} {ps : List (List Ir × Value)} (hx : ∀ i u, (ps.map (·.2))[i]? = some u → CM M sb (so + i) u) (hp : ps.map (·.1) = bs) (hb : ∀ p ∈ ps, RwS M p.2 p.1) {k : Nat} (hk : k < bs.length) :
  ∃ a c, CM M sb (so + k * 1) (.slice a bs[k].length c) ∧ bs[k].length ≤ c ∧ SM M a (bs[k].flatMap wAs) := by
 have hk2 : k < ps.length := by rw [← hp, List.length_map] at hk; exact hk
 have hxk : bs[k] = ps[k].1 := by simp [← hp]
 obtain ⟨a, c, e, h1, h2⟩ := hb ps[k] (List.getElem_mem hk2)
 rw [hxk]
 refine ⟨a, c, ?_, h1, h2⟩
 rw [Nat.mul_one]
 exact hx k _ (by rw [List.getElem?_map, List.getElem?_eq_getElem hk2, Option.map_some, e])
set_option maxHeartbeats 1000000 in
theorem iconcat_walk (bs : List (List Ir)) (a : Option Addr) (c : Nat) (ps : List (List Ir × Value)) (M : Mem) (hc : bs.length ≤ c) (hs : SM M a (ps.map (·.2))) (hp : ps.map (·.1) = bs) (hb : ∀ p ∈ ps, RwS M p.2 p.1) (hon : ∀ r ∈ bs, ∀ x ∈ r, x.2.oneCell' = true) (hn : bs.length ≤ 1000) (ht : bs.flatten.length ≤ 1000000) :
  SpecL Tryz.prog 34 #[.slice a bs.length c] M [] fun u M' L' => Own u L' IT 5 bs.flatten.length (bs.flatten.flatMap wAs) := by
 refine wAf (vs := [_]) 36 _ Tryz.func34 rfl Tryz.ntmps34 rfl rfl ?_; intro W
 refine wAb (wAa (jp rfl (wAc (jT (wAb (wAa (jp rfl (wAc (jT (wAb (wAb (wAa (jp rfl (wAi rfl rfl (wBj rfl rfl rfl) ?_))))))))))))))
 refine jp rfl (wAc (jT (wAh ?_)))
 refine wAv (α := Nat) (fun k => [(0, .slice a bs.length c), (3, .int .i64 ((bs.take k).flatten.length : Int)), (9, .slice a bs.length c), (10, .int .i64 bs.length), (11, .int .i64 k)]) (fun _ => M) (fun _ => []) (fun k => k ≤ bs.length) (fun k => bs.length - k)
  0 (.cons (t := 0) rfl (.cons (t := 3) rfl (.cons (t := 9) rfl (.cons (t := 10) rfl (.cons (t := 11) rfl .nil))))) (Nat.zero_le _) (fun _ h => h) ?_
 rintro k hk
 try dsimp only at hk ⊢
 have hfk := iflat_le (bs := bs) k
 refine wAb (wAa (js rfl (fun h12 => ?_) (fun h12 => ?_)))
 ·refine wAc (jT (wAb (wAg rfl (wAd (jT (wAb (wAh (wAb (wAa ?_)))))))))
  have hk1 : k < bs.length := by omega
  obtain ⟨sb, so, e0, hx⟩ := hs.open (by intro e; have := congrArg List.length e; rw [List.length_map, List.length_nil] at this; have h2 := congrArg List.length hp; rw [List.length_map] at h2; omega)
  subst e0
  obtain ⟨va, vc, hcl, hvc, hvs⟩ := rws_get hx hp hb hk1
  have hft := congrArg List.length (iflat_take hk1)
  rw [List.length_append] at hft
  have hfl := iflat_le (bs := bs) (k + 1)
  refine wAi rfl rfl (wBe rfl rfl rfl rfl (by omega)) ?_
  refine wAi rfl rfl (qLd rfl rfl rfl rfl (hcl.cj _)) ?_
  refine jp rfl (wAc (jT (wAb (wAa (jp rfl (jp rfl (wAi rfl rfl (wBj rfl rfl rfl) ?_)))))))
  refine ja rfl (by omega) ?_
  refine jp rfl (wAc (jT (wAb (wAa (jp rfl (jf rfl (decide_eq_false (by omega)) ?_))))))
  refine wAc (jT (wAk rfl (wAd (jB (jT (wAa (ja rfl (by omega) ?_)))))))
  refine jp rfl (wAc ?_)
  refine wAp (k + 1) (.cons (t := 0) rfl (Keep.ceq (t := 3) rfl (by rw [hft]; rfl) (.cons (t := 9) rfl (.cons (t := 10) rfl (.cons (t := 11) rfl .nil))))) (by show k + 1 ≤ bs.length; omega) (by show bs.length - (k + 1) < bs.length - k; omega) (fun _ h => h)
 refine wAc (jT (wAb (wAk rfl (wAw (jTx (jTx (jBx (jT (wAb (wAa (jp rfl ?_)))))))))))
 obtain rfl : k = bs.length := by omega
 rw [List.take_length]
 refine wAy rfl rfl (wAu rfl rfl rfl rfl rfl (by kernel_rfl) (igrow_spec bs.flatten.length M (by omega))) ?_; rintro _ Mg _ ⟨hMg, R0, rfl, hown0⟩
 refine jp rfl (wAc (jT (wAb (wAb (wAa (jp rfl (wAi rfl rfl (wBj rfl rfl rfl) ?_)))))))
 refine jp rfl (wAc (jT (wAh ?_)))
 refine wAv (α := Nat × Lc × Value) (fun x => [(6, x.2.2), (25, .slice a bs.length c), (26, .int .i64 bs.length), (27, .int .i64 x.1)]) (fun _ => Mg) (fun x => x.2.1) (fun x => x.1 ≤ bs.length ∧ Own x.2.2 x.2.1 IT 5 (bs.take x.1).flatten.length ((bs.take x.1).flatten.flatMap wAs)) (fun x => bs.length - x.1)
  (0, R0, _) (.cons (t := 6) rfl (.cons (t := 25) rfl (.cons (t := 26) rfl (.cons (t := 27) rfl .nil)))) ⟨Nat.zero_le _, by simpa using hown0⟩ (fun _ h => h.fewer (by simp)) ?_
 rintro ⟨k, R, s⟩ ⟨hk, hown⟩
 try dsimp only at hk hown ⊢
 have hfk := iflat_le (bs := bs) k
 refine wAb (wAa (js rfl (fun h28 => ?_) (fun h28 => ?_)))
 ·refine wAc (jT (wAb (wAg rfl (wAd (jT (wAb (wAh (wAb (wAa ?_)))))))))
  have hk1 : k < bs.length := by omega
  obtain ⟨sb, so, e0, hx⟩ := hs.open (by intro e; have := congrArg List.length e; rw [List.length_map, List.length_nil] at this; have h2 := congrArg List.length hp; rw [List.length_map] at h2; omega)
  subst e0
  obtain ⟨va, vc, hcl, hvc, hvs⟩ := rws_get hx hp hb hk1
  have hft := congrArg List.length (iflat_take hk1)
  rw [List.length_append] at hft
  have hfl := iflat_le (bs := bs) (k + 1)
  refine wAi rfl rfl (wBe rfl rfl rfl rfl (by omega)) ?_
  refine wAi rfl rfl (qLd rfl rfl rfl rfl ((hcl.mono hMg).cj _)) ?_
  refine jp rfl (wAc (jT (wAa (jp rfl (jp rfl (wAy rfl rfl (wCg (R := R) (news := bs[k].flatMap wAs) rfl rfl rfl rfl hown (fl _) (hvs.mono hMg) (by rfl) (wFc (hon _ (List.getElem_mem hk1))) (by omega) (by omega)) ?_)))))); rintro s' _ _ ⟨rfl, R', rfl, hown'⟩
  obtain ⟨a2, c2, rfl⟩ := hown'.form
  refine jp rfl (wAc (jB (jT (wAa (ja rfl (by omega) ?_)))))
  refine jp rfl (wAc ?_)
  refine wAp (k + 1, R', .slice a2 _ c2) (.cons (t := 6) rfl (.cons (t := 25) rfl (.cons (t := 26) rfl (.cons (t := 27) rfl .nil)))) ⟨by show k + 1 ≤ bs.length; omega, ?_⟩ (by show bs.length - (k + 1) < bs.length - k; omega) (fun _ h => h.fewer (by simp))
  show Own _ _ _ _ (bs.take (k + 1)).flatten.length ((bs.take (k + 1)).flatten.flatMap wAs)
  rw [iflat_take hk1, List.length_append, List.flatMap_append]; exact hown'
 refine wAc (jT (wAb (wAk rfl (wAw (jTx (jTx (jBx (jT (wAb (wAa (jp rfl (jp rfl (wAc (jT (wAe (jr1 rfl rfl ?_))))))))))))))))
 obtain rfl : k = bs.length := by omega
 rw [List.take_length] at hown; exact hown
theorem iconcat_spec (r1 r2 : List Ir) (v1 v2 : Value) (b : Nat) (M : Mem) (hb : M b = some (.cells [v1, v2].toArray 51 (0, 0))) (h1 : RwS M v1 r1) (h2 : RwS M v2 r2) (ho1 : ∀ x ∈ r1, x.2.oneCell' = true) (ho2 : ∀ x ∈ r2, x.2.oneCell' = true) (hn : r1.length + r2.length ≤ 1000000) :
  SpecL Tryz.prog 34 #[.slice (some ⟨b, 0, none⟩) 2 2] M [] fun u _ L' => Own u L' IT 5 (r1.length + r2.length) ((r1 ++ r2).flatMap wAs) := by
 have := iconcat_walk [r1, r2] (some ⟨b, 0, none⟩) 2 [(r1, v1), (r2, v2)] M (Nat.le_refl _) (SM.of_block hb) rfl (fun p hp => by
  simp only [List.mem_cons, List.not_mem_nil, or_false] at hp
  rcases hp with rfl | rfl
  ·exact h1
  ·exact h2) (fun r hr => by
  simp only [List.mem_cons, List.not_mem_nil, or_false] at hr
  rcases hr with rfl | rfl
  ·exact ho1
  exact ho2) (by simp) (by simpa using hn)
 simpa using this
theorem bwd (a : Option Addr) (n c : Nat) (M : Mem) :
  SpecL Tryz.prog 16 #[.slice a n c] M [] fun u M' L' => ∃ b, u = .func (.func 33) #[] #[.pointer (some ⟨b, 0, none⟩)] ∧ M' b = some (.cells #[.slice a n c] 49 (0, 0)) ∧ L' = [] := by
 refine wAf (vs := [_]) 4 _ Tryz.func16 rfl Tryz.ntmps16 rfl rfl ?_; intro W
 refine wAb (wAa (wAy rfl rfl (wCm (cs := [.slice a n c]) rfl rfl rfl rfl) ?_)); rintro _ _ _ ⟨b1, rfl, rfl, rfl⟩
 refine jp rfl (wAc (jT (wAb (wAa (jp rfl (jp rfl (wAc (jT (wAe (wEe b1 (by simp) ?_))))))))))
 intro M1 hM1 e1
 refine jr1 rfl rfl ?_
 exact ⟨b1, rfl, e1, rfl⟩
theorem bwd_body (b : Nat) (a : Option Addr) (c : Nat) (xs : List (Stp × Value)) (M : Mem) (hb : M b = some (.cells #[.slice a xs.length c] 49 (0, 0))) (hs : SM M a (xs.flatMap wFi)) (hn : xs.length ≤ 1000000) (l : Nat) (J Jx : List ((Stp × Value) × Nat) → Mem → Lc → Prop) (M1 : Mem) (L0 : Lc) (hM : MLe M M1) (hJ : ∀ pre y M2 L2, MLe M1 M2 → J pre M2 L2 → pre ++ [y] <+: bw xs 0 → RoundL Tryz.prog l ((fun p : (Stp × Value) × Nat => [.int .i64 p.2, .agg (wFi p.1).toArray]) y).toArray M2 L2 fun v M' L' => (v = .bool true ∧ J (pre ++ [y]) M' L') ∨ (v = .bool false ∧ Jx (pre ++ [y]) M' L')) (h0 : J [] M1 L0) :
  SpecL Tryz.prog 33 #[.func (.yield l) #[] #[], .pointer (some ⟨b, 0, none⟩)] M1 L0 fun _ M' L' => J (bw xs 0) M' L' ∨ ∃ pre, pre <+: bw xs 0 ∧ Jx pre M' L' := by
 have hbc : ∀ {M2 : Mem} (L : Lc), MLe M1 M2 → CJ M2 L b 0 (.slice a xs.length c) := fun L h => (CM.cj ⟨_, _, _, h _ _ (hM _ _ hb), rfl⟩ L)
 refine wAf (vs := [_, _]) 19 _ Tryz.func33 rfl Tryz.ntmps33 rfl rfl ?_; intro W
 refine wAb (wAa (wAi rfl rfl (qLd rfl rfl rfl rfl (hbc _ (MLe.refl _))) ?_))
 refine wAi rfl rfl (wBj rfl rfl rfl) ?_
 refine ja rfl (by omega) ?_
 refine jp rfl (wAc (jT (wAh ?_)))
 refine wAv (α := Int × Mem × Lc) (fun x => [(0, .func (.yield l) #[] #[]), (1, .pointer (some ⟨b, 0, none⟩)), (3, .int .i64 x.1)]) (fun x => x.2.1) (fun x => x.2.2) (fun x => -1 ≤ x.1 ∧ x.1 < xs.length ∧ MLe M1 x.2.1 ∧ J (bw xs (x.1 + 1).toNat) x.2.1 x.2.2) (fun x => (x.1 + 1).toNat)
  ((xs.length : Int) - 1, M1, L0) (.cons (t := 0) rfl (.cons (t := 1) rfl (.cons (t := 3) rfl .nil))) ⟨by show -1 ≤ (xs.length : Int) - 1; omega, by show (xs.length : Int) - 1 < xs.length; omega, MLe.refl _, by show J (bw xs ((xs.length : Int) - 1 + 1).toNat) _ _; rw [show ((xs.length : Int) - 1 + 1).toNat = xs.length by omega, bw_len]; exact h0⟩ (fun _ h => h) ?_
 rintro ⟨i, Mk, Lk⟩ ⟨hk0, hk, hMk, hJk⟩
 try dsimp only at hk0 hk hMk hJk ⊢
 refine wAb (wAb (wAa (jp rfl (js rfl (fun hge => ?_) (fun hge => ?_)))))
 ·refine wAc (jT (wAg rfl (wAd (jT (wAb (wAh (wAb (wAa (jp rfl (jp rfl ?_))))))))))
  obtain ⟨k, rfl⟩ : ∃ k : Nat, i = k := ⟨i.toNat, by omega⟩
  have hk1 : k < xs.length := by omega
  obtain ⟨sb, so, e0, hx⟩ := hs.open (by intro e; have := congrArg List.length e; rw [wBi wFi 3 wLd, List.length_nil] at this; omega)
  subst e0
  refine wAi rfl rfl (qLd rfl rfl rfl rfl (hbc _ hMk)) ?_
  refine jp rfl (wAi rfl rfl (wBe rfl rfl rfl rfl (by omega)) ?_)
  refine wAi rfl rfl (wGx (cs := wFi xs[k]) rfl rfl rfl rfl rfl (fun i v hv => ((wKo wFi 3 wLd hx (show xs[k]? = some xs[k] by simp [hk1]) i v hv).mono (hM.trans hMk)).cj _)) ?_
  refine wAy rfl rfl (hYield rfl rfl rfl rfl (hJ (bw xs (k + 1)) (xs[k], k) Mk Lk hMk (by rwa [show ((k : Int) + 1).toNat = k + 1 by omega] at hJk) (by rw [← wJo xs hk1]; exact wFx xs k))) ?_; rintro _ M' _ ⟨hM', R', rfl, hy⟩
  rw [← wJo xs hk1] at hy
  rcases hy with ⟨rfl, hy⟩ | ⟨rfl, hy⟩
  ·refine jp rfl (wAc (jT (wAk rfl (wAd (jB (jT (wAa (jp rfl (ja rfl (by omega) ?_)))))))))
   refine jp rfl (wAc ?_)
   refine wAp ((k : Int) - 1, M', R') (.cons (t := 0) rfl (.cons (t := 1) rfl (.cons (t := 3) rfl .nil))) ⟨by show -1 ≤ (k : Int) - 1; omega, by show (k : Int) - 1 < xs.length; omega, hMk.trans hM', by show J (bw xs ((k : Int) - 1 + 1).toNat) _ _; rw [show ((k : Int) - 1 + 1).toNat = k by omega]; exact hy⟩ (by show ((k : Int) - 1 + 1).toNat < ((k : Int) + 1).toNat; omega) (fun _ h => h.fewer (by simp))
  refine jp rfl (wAc (jT (wAg rfl (wAe (jBr (jTr (jTr (jBr (wAr (L' := R') (by simp) ?_)))))))))
  refine jrs (rs := []) rfl .nil ?_
  exact .inr ⟨_, wFx xs k, hy⟩
 refine wAc (jT (wAk rfl (wAw (jTx (jTx (jBx (jrn ?_)))))))
 refine jrs (rs := []) rfl .nil ?_
 obtain rfl : i = -1 := by omega
 exact .inl hJk
theorem bwd_iter (b : Nat) (a : Option Addr) (c : Nat) (xs : List (Stp × Value)) (M : Mem) (hb : M b = some (.cells #[.slice a xs.length c] 49 (0, 0))) (hs : SM M a (xs.flatMap wFi)) (hn : xs.length ≤ 1000000) : Iter Tryz.prog 33 [.pointer (some ⟨b, 0, none⟩)] M (fun p : (Stp × Value) × Nat => [.int .i64 p.2, .agg (wFi p.1).toArray]) (bw xs 0) :=
 fun l J Jx M1 L0 hM hJ h0 => bwd_body b a c xs M hb hs hn l J Jx M1 L0 hM hJ h0
end Go.Proofs.YtkcpllhggofloaaGreat
