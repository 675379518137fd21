/- Walks: the document's stores: two that are the same, a twin of a store, a node read. -/
import Derived.Test.YtkcpllhggofloaaGreatZRf
namespace Go.Proofs.YtkcpllhggofloaaGreat
set_option linter.unusedSimpArgs false
set_option linter.unusedVariables false
set_option linter.unusedSectionVars false
open Go.RowKit
theorem find_hit {ws : List Wt} {at_ : Int} {k : Nat} (hk : k < ws.length) (h : ws[k].1 = at_) (hall : ∀ j (hj : j < ws.length), k < j → ws[j].1 ≠ at_) : ws.reverse.find? (fun w => w.1 == at_) = some ws[k] := by
 have e : ws = ws.take k ++ ws[k] :: ws.drop (k + 1) := by rw [List.getElem_cons_drop, List.take_append_drop]
 have e2 : ws.reverse = (ws.drop (k + 1)).reverse ++ (ws[k] :: (ws.take k).reverse) := by
  conv => lhs; rw [e]
  simp
 have h1 : (ws.drop (k + 1)).reverse.find? (fun w => w.1 == at_) = none := by
  rw [List.find?_eq_none]
  intro w hw
  obtain ⟨j, hj, e3⟩ := List.mem_iff_getElem.1 (List.mem_reverse.1 hw)
  rw [List.length_drop] at hj
  rw [List.getElem_drop] at e3
  have := hall (k + 1 + j) (by omega) (by omega)
  rw [e3] at this; simpa using this
 rw [e2, List.find?_append, h1, Option.none_or, List.find?_cons_of_pos (by simpa using h)]
theorem find_no {ws : List Wt} {at_ : Int} (hall : ∀ j (hj : j < ws.length), ws[j].1 ≠ at_) : ws.reverse.find? (fun w => w.1 == at_) = none := by
 rw [List.find?_eq_none]
 intro w hw
 obtain ⟨j, hj, e3⟩ := List.mem_iff_getElem.1 (List.mem_reverse.1 hw)
 have := hall j hj
 rw [e3] at this; simpa using this
structure T3I (xs : List (List By)) (z : Nat × Mem × Option Addr × Nat × Lc × List (List By × Value)) : Prop where
 le : z.1 ≤ xs.length
 own : Own (.slice z.2.2.1 z.1 z.2.2.2.1) z.2.2.2.2.1 26 1 z.1 (z.2.2.2.2.2.map (·.2))
 ps : z.2.2.2.2.2.map (·.1) = xs.take z.1
 bs : ∀ p ∈ z.2.2.2.2.2, BS z.2.1 p.2 p.1
structure T3W (ws : List Wt) (z : Nat × Mem × Option Addr × Nat × Lc × List (Wt × Value)) : Prop where
 le : z.1 ≤ ws.length
 own : Own (.slice z.2.2.1 z.1 z.2.2.2.1) z.2.2.2.2.1 41 2 z.1 (z.2.2.2.2.2.flatMap wCv)
 ps : z.2.2.2.2.2.map (·.1) = ws.take z.1
 bs : ∀ p ∈ z.2.2.2.2.2, BS z.2.1 p.2 p.1.2
set_option maxHeartbeats 4000000 in
theorem rtwin3_walk (bs : List (List By)) (ws : List Wt) (a1 : Option Addr) (c1 : Nat) (ps1 : List (List By × Value)) (a2 : Option Addr) (c2 : Nat) (ps2 : List (Wt × Value)) (M : Mem) (hc1 : bs.length ≤ c1) (hs1 : SM M a1 (ps1.map (·.2))) (hp1 : ps1.map (·.1) = bs) (hb1 : ∀ p ∈ ps1, BS M p.2 p.1) (hc2 : ws.length ≤ c2) (hs2 : SM M a2 (ps2.flatMap wCv)) (hp2 : ps2.map (·.1) = ws) (hb2 : ∀ p ∈ ps2, BS M p.2 p.1.2) (hf : few bs ws) :
  SpecL Tryz.prog 10 #[.agg #[.slice a1 bs.length c1, .slice a2 ws.length c2]] M [] fun u M' L' => (∃ bv wv, u = .agg #[bv, wv] ∧ LS M' bv bs ∧ WS M' wv ws) ∧ L' = [] := by
 obtain ⟨f1, f2, f3, f4⟩ := hf
 refine wAf (vs := [_]) 51 _ Tryz.func10 rfl Tryz.ntmps10 rfl rfl ?_; intro W
 refine wAb (wAa (wAy rfl rfl (wCm (cs := [_, _]) rfl rfl rfl rfl) ?_)); rintro _ _ _ ⟨b1, rfl, rfl, rfl⟩
 refine sAl rfl fun b2 => ?_
 refine wAc (jT (wAb (wAa (sAl rfl fun b3 => ?_))))
 refine wAc (jT (wAb (wAb (wAa (jp rfl (wAc (jT (wAh ?_))))))))
 refine wAv (α := Nat × Mem × Option Addr × Nat × Lc × List (List By × Value)) (fun z => [(1, .pointer (some ⟨b1, 0, none⟩)), (2, .pointer (some ⟨b2, 0, none⟩)), (3, .pointer (some ⟨b3, 0, none⟩)), (4, .int .i64 z.1)]) (fun z => z.2.1) (fun z => (b3, .cells [Value.slice z.2.2.1 z.1 z.2.2.2.1, .slice none 0 0].toArray 25 (0, 0)) :: (z.2.2.2.2.1 ++ [(b2, .cells [Value.slice none 0 0, .slice none 0 0].toArray 25 (0, 0)), (b1, .cells [.slice a1 bs.length c1, .slice a2 ws.length c2].toArray 25 (0, 0))])) (fun z => MLe M z.2.1 ∧ T3I bs z) (fun z => bs.length - z.1)
  (0, M, none, 0, [], []) (.cons (t := 1) rfl (.cons (t := 2) rfl (.cons (t := 3) rfl (.cons (t := 4) rfl .nil)))) ⟨MLe.refl _, Nat.zero_le _, Own.nil _ _, rfl, fun _ h => by cases h⟩ (fun _ h => h) ?_
 rintro ⟨k, Mk, oa, oc, R, ps⟩ ⟨hMk, hI⟩
 have hkl := hI.le
 dsimp only at hMk hkl ⊢
 refine wAb (wAb (wAa (jp rfl (sFL rfl rfl ?_))))
 refine wAi rfl rfl (wBj rfl rfl rfl) ?_
 refine js rfl (fun h10 => ?_) (fun h10 => ?_)
 ·refine wAc (jT (wAg rfl (wAd (jT (wAb (wAh (wDb (p := { A := fun i => !([11].contains i), U := fun i => !([11].contains i) }) [(0, true), (1, true), (2, true), (3, true), (4, true), (5, true), (6, true), (7, false), (8, false), (9, false), (10, true), (11, false)] Mk ([(b3, .cells [Value.slice oa k oc, .slice none 0 0].toArray 25 (0, 0)), (b1, .cells [.slice a1 bs.length c1, .slice a2 ws.length c2].toArray 25 (0, 0))]) ([]) (by kernel_rfl) (by kernel_rfl) (by kernel_rfl) (by kernel_rfl) rfl (by simp) (MLe.refl _) (by simp) ?_)))))))
  refine dFa rfl rfl ?_
  refine dLd rfl rfl ?_
  refine dFa rfl rfl ?_
  refine dLd rfl rfl ?_
  refine dp rfl rfl ?_
  have hk1 : k < bs.length := by omega
  have hfk := f3 bs[k] (List.getElem_mem hk1)
  obtain ⟨sb, so, va, vc, e0, hcl, hvc, hvs⟩ := bs_get hs1 hp1 hb1 hk1
  refine wBq rfl rfl rfl (wCe rfl rfl rfl rfl e0 (by omega)) ?_
  refine wBq rfl rfl rfl (qLd rfl rfl rfl rfl ((hcl.mono hMk).cj _)) ?_
  refine wHc rfl rfl rfl (hAppFz rfl rfl rfl rfl (by rw [wAm, Nat.mul_one]) (hvs.mono hMk) rfl (wBv _) (by omega) (by omega)) ?_; rintro v20 M20 _ ⟨rfl, hM20, a20, c20, rfl, hc20, hs20⟩
  refine ⟨_, _, MLe.refl _, hM20, fun _ h => h, by simp, ?_⟩
  refine wHc rfl rfl rfl (hBuildSliceM (cs := [_]) rfl rfl rfl (by rfl) (by rfl) (by rfl)) ?_; rintro _ M21 _ ⟨b21, rfl, rfl, hM21, e21⟩
  refine ⟨_, _, MLe.refl _, (hM20.trans hM21), fun _ h => h, by simp, ?_⟩
  refine wHc rfl rfl rfl (wCg (R := R) rfl rfl rfl rfl hI.own rfl (SM.of_block e21) rfl (fun u hu => by rw [List.mem_singleton.1 hu]; rfl) (by omega) (by omega)) ?_; rintro v22 _ _ ⟨rfl, R22, rfl, o22⟩
  refine ⟨_, _, MLe.refl _, (hM20.trans hM21), fun _ h => h, by simp, ?_⟩
  obtain ⟨a22, c22, rfl⟩ := o22.form
  refine dFa rfl rfl ?_
  refine jd_e rfl rfl (wBm rfl rfl rfl rfl rfl rfl rfl rfl) ?_; rintro _ _ _ ⟨rfl, rfl⟩
  refine ⟨(by first | exact hM20.trans hM21 | exact hM45.trans hM47), by simp, ?_⟩
  refine wFf ?_
  refine jPn (jB (jT (wAa (jp rfl (ja rfl (by omega) ?_)))))
  refine jp rfl (wAc ?_)
  have hMM := hM20.trans hM21
  refine wAp (k + 1, M21, a22, c22, R22, ps ++ [(bs[k], .slice a20 bs[k].length c20)]) (.cons (t := 1) rfl (.cons (t := 2) rfl (.cons (t := 3) rfl (.cons (t := 4) rfl .nil)))) ⟨hMk.trans hMM, by show k + 1 ≤ _; omega, ?_, ?_, ?_⟩ (by show bs.length - (k + 1) < bs.length - k; omega) (fun _ h => h.subC fun f => by simp only [List.map_append, List.map_cons, List.map_nil, List.sum_append, List.sum_cons, List.sum_nil]; omega)
  ·show Own (.slice a22 (k + 1) c22) R22 _ 1 (k + 1) _; rw [List.map_append]; exact o22
  ·show List.map _ (ps ++ [_]) = bs.take (k + 1); rw [List.map_append, hI.ps, List.take_succ_eq_append_getElem hk1]; rfl
  intro p hp
  rcases List.mem_append.1 hp with hp | hp
  ·exact (hI.bs p hp).mono hMM
  rw [List.mem_singleton.1 hp]; exact ⟨a20, c20, rfl, hc20, hs20.mono hM21⟩
 refine wAc (jT (wAk rfl (wAw (jTx (jTx (jBx (jT (wAb (wAb (wAa (jp rfl (wAc (jT (wAh ?_))))))))))))))
 obtain rfl : k = bs.length := by omega
 refine jc_own hI.own (by simp) ?_
 intro M4 ba bc hM4 e4 hc4 hs4
 dsimp only at e4 hs4
 cases e4
 have hlsB : LS M4 (.slice oa bs.length oc) bs := ⟨oa, oc, ps, rfl, hc4, hs4, by rw [hI.ps, List.take_length], fun p hp => (hI.bs p hp).mono hM4⟩
 obtain ⟨ba, hba⟩ : ∃ x, x = oa := ⟨_, rfl⟩
 obtain ⟨bc, hbc⟩ : ∃ x, x = oc := ⟨_, rfl⟩
 rw [← hba, ← hbc] at hlsB ⊢
 have hMb := hMk.trans hM4
 clear hI hba hbc
 refine wAv (α := Nat × Mem × Option Addr × Nat × Lc × List (Wt × Value)) (fun z => [(1, .pointer (some ⟨b1, 0, none⟩)), (2, .pointer (some ⟨b2, 0, none⟩)), (3, .pointer (some ⟨b3, 0, none⟩)), (5, .int .i64 z.1)]) (fun z => z.2.1) (fun z => (b3, .cells [Value.slice ba bs.length bc, .slice z.2.2.1 z.1 z.2.2.2.1].toArray 25 (0, 0)) :: (z.2.2.2.2.1 ++ [(b2, .cells [Value.slice none 0 0, .slice none 0 0].toArray 25 (0, 0)), (b1, .cells [.slice a1 bs.length c1, .slice a2 ws.length c2].toArray 25 (0, 0))])) (fun z => MLe M4 z.2.1 ∧ T3W ws z) (fun z => ws.length - z.1)
  (0, M4, none, 0, [], []) (.cons (t := 1) rfl (.cons (t := 2) rfl (.cons (t := 3) rfl (.cons (t := 5) rfl .nil)))) ⟨MLe.refl _, Nat.zero_le _, Own.nil _ _, rfl, fun _ h => by cases h⟩ (fun _ h => h) ?_
 rintro ⟨k, Mk, oa, oc, R, ps⟩ ⟨hMk4, hI⟩
 have hkl := hI.le
 dsimp only at hMk4 hkl ⊢
 have hMk := hMb.trans hMk4
 refine wAb (wAb (wAa (jp rfl (sFL rfl rfl ?_))))
 refine wAi rfl rfl (wBj rfl rfl rfl) ?_
 refine js rfl (fun h28 => ?_) (fun h28 => ?_)
 ·refine wAc (jT (wAg rfl (wAd (jT (wAb (wAh (wDb (p := { A := fun i => !([19].contains i), U := fun i => !([19].contains i) }) [(0, true), (1, true), (2, true), (3, true), (4, true), (5, true), (6, true), (7, true), (8, true), (9, true), (10, true), (11, true), (12, true), (13, true), (14, false), (15, true), (16, false), (17, false), (18, true), (19, false)] Mk ([(b3, .cells [Value.slice ba bs.length bc, .slice oa k oc].toArray 25 (0, 0)), (b1, .cells [.slice a1 bs.length c1, .slice a2 ws.length c2].toArray 25 (0, 0))]) ([]) (by kernel_rfl) (by kernel_rfl) (by kernel_rfl) (by kernel_rfl) rfl (by simp) (MLe.refl _) (by simp) ?_)))))))
  refine dFa rfl rfl ?_
  refine dLd rfl rfl ?_
  refine dFa rfl rfl ?_
  refine dLd rfl rfl ?_
  refine dp rfl rfl ?_
  have hk1 : k < ws.length := by omega
  have hfk := f4 ws[k] (List.getElem_mem hk1)
  obtain ⟨sb, so, va, vc, e0, hcl, hvc, hvs⟩ := ws_get hs2 hp2 hb2 hk1
  refine wBq rfl rfl rfl (wCe rfl rfl rfl rfl e0 (by omega)) ?_
  refine dFa rfl rfl ?_
  refine wBq rfl rfl rfl (qLd rfl rfl rfl rfl (((hcl 0 _ rfl).mono hMk).cj _)) ?_
  refine dFa rfl rfl ?_
  refine dLd rfl rfl ?_
  refine dp rfl rfl ?_
  refine wBq rfl rfl rfl (wCe rfl rfl rfl rfl e0 (by omega)) ?_
  refine dFa rfl rfl ?_
  refine wBq rfl rfl rfl (qLd rfl rfl rfl rfl (((hcl 1 _ rfl).mono hMk).cj _)) ?_
  refine wHc rfl rfl rfl (hAppFz rfl rfl rfl rfl (by rw [wAm, Nat.mul_one]) (hvs.mono hMk) rfl (wBv _) (by omega) (by omega)) ?_; rintro v45 M45 _ ⟨rfl, hM45, a45, c45, rfl, hc45, hs45⟩
  refine ⟨_, _, MLe.refl _, hM45, fun _ h => h, by simp, ?_⟩
  refine wBq rfl rfl rfl (wBa (cs := [_, _]) rfl rfl rfl (by rfl)) ?_
  refine wHc rfl rfl rfl (hBuildSliceM (cs := [_, _]) rfl rfl rfl (by rfl) (by rfl) (by rfl)) ?_; rintro _ M47 _ ⟨b47, rfl, rfl, hM47, e47⟩
  refine ⟨_, _, MLe.refl _, (hM45.trans hM47), fun _ h => h, by simp, ?_⟩
  refine wHc rfl rfl rfl (wCg (R := R) rfl rfl rfl rfl hI.own rfl (SM.of_block e47) rfl (fun u hu => List.all_eq_true.1 (rfl : ([Value.int .i64 ws[k].1, .slice a45 ws[k].2.length c45].all fun v => v.oneCell') = true) u hu) (by omega) (by omega)) ?_; rintro v48 _ _ ⟨rfl, R48, rfl, o48⟩
  refine ⟨_, _, MLe.refl _, (hM45.trans hM47), fun _ h => h, by simp, ?_⟩
  obtain ⟨a48, c48, rfl⟩ := o48.form
  refine dFa rfl rfl ?_
  refine jd_e rfl rfl (wBm rfl rfl rfl rfl rfl rfl rfl rfl) ?_; rintro _ _ _ ⟨rfl, rfl⟩
  refine ⟨(by first | exact hM20.trans hM21 | exact hM45.trans hM47), by simp, ?_⟩
  refine wFf ?_
  refine jPn (jB (jT (wAa (jp rfl (ja rfl (by omega) ?_)))))
  refine jp rfl (wAc ?_)
  have hMM := hM45.trans hM47
  refine wAp (k + 1, M47, a48, c48, R48, ps ++ [(ws[k], .slice a45 ws[k].2.length c45)]) (.cons (t := 1) rfl (.cons (t := 2) rfl (.cons (t := 3) rfl (.cons (t := 5) rfl .nil)))) ⟨hMk4.trans hMM, by show k + 1 ≤ _; omega, ?_, ?_, ?_⟩ (by show ws.length - (k + 1) < ws.length - k; omega) (fun _ h => h.subC fun f => by simp only [List.map_append, List.map_cons, List.map_nil, List.sum_append, List.sum_cons, List.sum_nil]; omega)
  ·show Own (.slice a48 (k + 1) c48) R48 _ 2 (k + 1) _; rw [List.flatMap_append]; exact o48
  ·show List.map _ (ps ++ [_]) = ws.take (k + 1); rw [List.map_append, hI.ps, List.take_succ_eq_append_getElem hk1]; rfl
  intro p hp
  rcases List.mem_append.1 hp with hp | hp
  ·exact (hI.bs p hp).mono hMM
  rw [List.mem_singleton.1 hp]; exact ⟨a45, c45, rfl, hc45, hs45.mono hM47⟩
 refine wAc (jT (wAk rfl (wAw (jTx (jTx (jBx (jT (wAb ?_))))))))
 obtain rfl : k = ws.length := by omega
 refine jc_own hI.own (by simp) ?_
 intro M5 wa wc hM5 e5 hc5 hs5
 dsimp only at e5 hs5
 cases e5
 have hws : WS M5 (.slice oa ws.length oc) ws := ⟨oa, oc, ps, rfl, hc5, hs5, by rw [hI.ps, List.take_length], fun p hp => (hI.bs p hp).mono hM5⟩
 refine wAa (sLL rfl ?_)
 refine sSt rfl ?_
 refine wAc (jT (wAe (wDa (rs := [_]) ([]) (by exact List.nil_sublist _) rfl (.cons (.agg rfl rfl rfl) .nil) ?_)))
 exact ⟨⟨_, _, rfl, (hlsB.mono hMk4).mono hM5, hws⟩, rfl⟩
theorem rtwin3_spec (bs : List (List By)) (ws : List Wt) (u v : Value) (M : Mem) (h1 : LS M u bs) (h2 : WS M v ws) (hf : few bs ws) : SpecL Tryz.prog 10 #[.agg #[u, v]] M [] fun u M' L' => (∃ bv wv, u = .agg #[bv, wv] ∧ LS M' bv bs ∧ WS M' wv ws) ∧ L' = [] := by
 obtain ⟨a1, c1, ps1, rfl, hc1, hs1, hp1, hb1⟩ := h1
 obtain ⟨a2, c2, ps2, rfl, hc2, hs2, hp2, hb2⟩ := h2
 exact rtwin3_walk bs ws a1 c1 ps1 a2 c2 ps2 M hc1 hs1 hp1 hb1 hc2 hs2 hp2 hb2 hf
set_option maxHeartbeats 2000000 in
theorem rseen_walk (bs : List (List By)) (ws : List Wt) (a1 : Option Addr) (c1 : Nat) (ps1 : List (List By × Value)) (a2 : Option Addr) (c2 : Nat) (ps2 : List (Wt × Value)) (M : Mem) (hc1 : bs.length ≤ c1) (hs1 : SM M a1 (ps1.map (·.2))) (hp1 : ps1.map (·.1) = bs) (hb1 : ∀ p ∈ ps1, BS M p.2 p.1) (hc2 : ws.length ≤ c2) (hs2 : SM M a2 (ps2.flatMap wCv)) (hp2 : ps2.map (·.1) = ws) (hb2 : ∀ p ∈ ps2, BS M p.2 p.1.2) (hbl : bs.length = 256) (hwl : ws.length ≤ 5000) (at_ : Nat) (hat : at_ < 256) (s : Sto) (hsb : s.blocks = bs) (hsw : s.waits = ws) :
  SpecL Tryz.prog 70 #[.agg #[.slice a1 bs.length c1, .slice a2 ws.length c2], .int .i64 at_] M [] fun u _ L' => BS M u (seen s at_) ∧ L' = [] := by
 refine wAf (vs := [_, _]) 33 _ Tryz.func70 rfl Tryz.ntmps70 rfl rfl ?_; intro W
 refine wAb (wAa (wAy rfl rfl (wCm (cs := [_, _]) rfl rfl rfl rfl) ?_)); rintro _ _ _ ⟨b2, rfl, rfl, rfl⟩
 refine jp rfl (wAc (jT (wAb (wAb (wAa (sFL rfl rfl ?_))))))
 refine wAi rfl rfl (wBj rfl rfl rfl) ?_
 refine ja rfl (by omega) ?_
 refine jp rfl (wAc (jT (wAh ?_)))
 refine wAv (α := Nat) (fun k => [(1, .int .i64 at_), (2, .pointer (some ⟨b2, 0, none⟩)), (5, .int .i64 ((k : Int) - 1))]) (fun _ => M) (fun _ => [(b2, .cells [.slice a1 bs.length c1, .slice a2 ws.length c2].toArray 25 (0, 0))]) (fun k => k ≤ ws.length ∧ ∀ j (hj : j < ws.length), k ≤ j → ws[j].1 ≠ at_) (fun k => k)
  ws.length (.cons (t := 1) rfl (.cons (t := 2) rfl (.cons (t := 5) rfl .nil))) ⟨Nat.le_refl _, fun j hj h => absurd hj (by omega)⟩ (fun _ h => h) ?_
 rintro k ⟨hk, hall⟩
 try dsimp only at hk hall ⊢
 refine wAb (wAb (wAa (jp rfl (js rfl (fun h11 => ?_) (fun h11 => ?_)))))
 ·refine wAc (jT (wAg rfl (wAd (jT (wAb (wAh (wAb (wAa (sFL rfl rfl ?_)))))))))
  refine jp rfl ?_
  obtain ⟨j, rfl⟩ : ∃ j : Nat, k = j + 1 := ⟨k - 1, by omega⟩
  have hj : j < ws.length := by omega
  obtain ⟨sb, so, va, vc, e0, hcl, hvc, hvs⟩ := ws_get hs2 hp2 hb2 hj
  have ej : (((j + 1 : Nat) : Int) - 1) = (j : Int) := by omega
  rw [← ej] at hcl
  refine wAi rfl rfl (wCe rfl rfl rfl rfl e0 (by omega)) ?_
  refine sFa rfl ?_
  refine wAi rfl rfl (qLd rfl rfl rfl rfl ((hcl 0 _ rfl).cj _)) ?_
  refine jp rfl (js rfl (fun h21 => ?_) (fun h21 => ?_))
  ·refine wAc (jT (wAg rfl (wAb (wAa (sFL rfl rfl ?_)))))
   refine jp rfl (wAi rfl rfl (wCe rfl rfl rfl rfl e0 (by omega)) ?_)
   refine sFa rfl ?_
   refine wAi rfl rfl (qLd rfl rfl rfl rfl ((hcl 1 _ rfl).cj _)) ?_
   refine jp rfl (wAc (jT (wAe (jBr (jTr (jTr (jBr (jTr (wAr (L' := []) (List.nil_sublist _) ?_)))))))))
   refine jr1 rfl rfl ?_
   refine ⟨?_, rfl⟩
   have e : seen s at_ = ws[j].2 := by unfold seen; rw [hsw, find_hit hj h21 (fun i hi h => hall i hi (by omega))]
   rw [e]; exact ⟨va, vc, rfl, hvc, hvs⟩
  refine wAc (jT (wAk rfl (wAd (jB (jT (wAa (jp rfl (ja rfl (by omega) ?_))))))))
  refine jp rfl (wAc ?_)
  refine wAp j (.cons (t := 1) rfl (.cons (t := 2) rfl (Keep.ceq (t := 5) rfl (by congr 1; omega) Keep.nil))) ⟨by omega, fun i hi h => if e : i = j then by subst e; exact h21 else hall i hi (by omega)⟩ (by omega) (fun _ h => h)
 refine wAc (jT (wAk rfl (wAw (jTx (jTx (jBx (jT (wAb (wAa (sFL rfl rfl ?_))))))))))
 refine jp rfl ?_
 have hk1 : at_ < bs.length := by omega
 obtain ⟨sb, so, va, vc, e0, hcl, hvc, hvs⟩ := bs_get hs1 hp1 hb1 hk1
 refine wAi rfl rfl (wCe rfl rfl rfl rfl e0 (by omega)) ?_
 refine wAi rfl rfl (qLd rfl rfl rfl rfl (hcl.cj _)) ?_
 refine jp rfl (wAc (jT (wAe (wAr (L' := []) (List.nil_sublist _) ?_))))
 refine jr1 rfl rfl ?_
 obtain rfl : k = 0 := by omega
 refine ⟨?_, rfl⟩
 have e : seen s at_ = bs[at_] := by unfold seen; rw [hsw, find_no (fun i hi => hall i hi (Nat.zero_le _)), hsb]; simp [List.getD, hk1]
 rw [e]; exact ⟨va, vc, rfl, hvc, hvs⟩
theorem rseen_spec (s : Sto) (u v : Value) (M : Mem) (h1 : LS M u s.blocks) (h2 : WS M v s.waits) (hbl : s.blocks.length = 256) (hwl : s.waits.length ≤ 5000) (at_ : Nat) (hat : at_ < 256) : SpecL Tryz.prog 70 #[.agg #[u, v], .int .i64 at_] M [] fun u _ L' => BS M u (seen s at_) ∧ L' = [] := by
 obtain ⟨a1, c1, ps1, rfl, hc1, hs1, hp1, hb1⟩ := h1
 obtain ⟨a2, c2, ps2, rfl, hc2, hs2, hp2, hb2⟩ := h2
 exact rseen_walk s.blocks s.waits a1 c1 ps1 a2 c2 ps2 M hc1 hs1 hp1 hb1 hc2 hs2 hp2 hb2 hbl hwl at_ hat s rfl rfl
set_option maxHeartbeats 2000000 in
theorem rsame3_walk (bs : List (List By)) (ws : List Wt) (a1 : Option Addr) (c1 : Nat) (ps1 : List (List By × Value)) (a2 : Option Addr) (c2 : Nat) (ps2 : List (Wt × Value)) (M : Mem) (hc1 : bs.length ≤ c1) (hs1 : SM M a1 (ps1.map (·.2))) (hp1 : ps1.map (·.1) = bs) (hb1 : ∀ p ∈ ps1, BS M p.2 p.1) (hc2 : ws.length ≤ c2) (hs2 : SM M a2 (ps2.flatMap wCv)) (hp2 : ps2.map (·.1) = ws) (hb2 : ∀ p ∈ ps2, BS M p.2 p.1.2) (a3 : Option Addr) (c3 : Nat) (ps3 : List (List By × Value)) (a4 : Option Addr) (c4 : Nat) (ps4 : List (Wt × Value)) (hc3 : bs.length ≤ c3) (hs3 : SM M a3 (ps3.map (·.2))) (hp3 : ps3.map (·.1) = bs) (hb3 : ∀ p ∈ ps3, BS M p.2 p.1) (hc4 : ws.length ≤ c4) (hs4 : SM M a4 (ps4.flatMap wCv)) (hp4 : ps4.map (·.1) = ws) (hb4 : ∀ p ∈ ps4, BS M p.2 p.1.2) (hf : few bs ws) :
  SpecL Tryz.prog 26 #[.agg #[.slice a1 bs.length c1, .slice a2 ws.length c2], .agg #[.slice a3 bs.length c3, .slice a4 ws.length c4]] M [] fun u _ L' => u = .bool true ∧ L' = [] := by
 obtain ⟨f1, f2, f3, f4⟩ := hf
 refine wAf (vs := [_, _]) 80 _ Tryz.func26 rfl Tryz.ntmps26 rfl rfl ?_; intro W
 refine wAb (wAa (wAy rfl rfl (wCm (cs := [_, _]) rfl rfl rfl rfl) ?_)); rintro _ _ _ ⟨b2, rfl, rfl, rfl⟩
 refine wAy rfl rfl (wCm (cs := [_, _]) rfl rfl rfl rfl) ?_; rintro _ _ _ ⟨b3, rfl, rfl, rfl⟩
 refine jp rfl (wAc (jT (wAb (wAb (wAa (sFL rfl rfl ?_))))))
 refine wAi rfl rfl (wBj rfl rfl rfl) ?_
 refine sFL rfl rfl ?_
 refine wAi rfl rfl (wBj rfl rfl rfl) ?_
 refine jf rfl (decide_eq_false (by omega)) ?_
 refine jp rfl (sFL rfl rfl ?_)
 refine wAi rfl rfl (wBj rfl rfl rfl) ?_
 refine sFL rfl rfl ?_
 refine wAi rfl rfl (wBj rfl rfl rfl) ?_
 refine jf rfl (decide_eq_false (by omega)) ?_
 refine jp rfl (wAc (jT (wAk rfl (wAd (jT (wAb (wAb (wAa (jp rfl (wAc (jT (wAh ?_))))))))))))
 refine wAv (α := Nat) (fun k => [(2, .pointer (some ⟨b2, 0, none⟩)), (3, .pointer (some ⟨b3, 0, none⟩)), (5, .int .i64 k)]) (fun _ => M) (fun _ => [(b3, .cells [Value.slice a3 bs.length c3, .slice a4 ws.length c4].toArray 25 (0, 0)), (b2, .cells [.slice a1 bs.length c1, .slice a2 ws.length c2].toArray 25 (0, 0))]) (fun k => k ≤ bs.length) (fun k => bs.length - k)
  0 (.cons (t := 2) rfl (.cons (t := 3) rfl (.cons (t := 5) rfl .nil))) (Nat.zero_le _) (fun _ h => h) ?_
 rintro k hk
 try dsimp only at hk ⊢
 refine wAb (wAb (wAa (jp rfl (sFL rfl rfl ?_))))
 refine wAi rfl rfl (wBj rfl rfl rfl) ?_
 refine js rfl (fun h27 => ?_) (fun h27 => ?_)
 ·refine wAc (jT (wAg rfl (wAd (jT (wAb (wAh (wAb (wBp [(0, true), (1, true), (2, true), (3, true), (4, true), (5, true), (6, true), (7, true), (8, true), (9, true), (10, true), (11, true), (12, true)] [(b3, .cells [Value.slice a3 bs.length c3, .slice a4 ws.length c4].toArray 25 (0, 0)), (b2, .cells [.slice a1 bs.length c1, .slice a2 ws.length c2].toArray 25 (0, 0))] (by kernel_rfl) (by kernel_rfl) (by kernel_rfl) rfl (by simp) ?_))))))))
  refine dFa rfl rfl ?_
  refine dLd rfl rfl ?_
  refine dp rfl rfl ?_
  have hk1 : k < bs.length := by omega
  have hfk := f3 _ (List.getElem_mem hk1)
  obtain ⟨sb, so, va, vc, e0, hcl, hvc, hvs⟩ := bs_get hs1 hp1 hb1 hk1
  obtain ⟨tb, to, wa, wc, g0, gcl, gvc, gvs⟩ := bs_get hs3 hp3 hb3 hk1
  refine wBq rfl rfl rfl (wCe rfl rfl rfl rfl e0 (by omega)) ?_
  refine wBq rfl rfl rfl (qLd rfl rfl rfl rfl (hcl.cj _)) ?_
  refine wBq rfl rfl rfl (qEq (qStr (xs := bs[k].map fun b => (b.toNat : Int)) rfl rfl rfl (by simp) (by simpa [wAj, List.map_map, Function.comp_def] using hvs.sj _)) (v' := .string (strB bs[k])) (by rw [wEc])) ?_
  refine dFa rfl rfl ?_
  refine dLd rfl rfl ?_
  refine dp rfl rfl ?_
  refine wBq rfl rfl rfl (wCe rfl rfl rfl rfl g0 (by omega)) ?_
  refine wBq rfl rfl rfl (qLd rfl rfl rfl rfl (gcl.cj _)) ?_
  refine wBq rfl rfl rfl (qEq (qStr (xs := bs[k].map fun b => (b.toNat : Int)) rfl rfl rfl (by simp) (by simpa [wAj, List.map_map, Function.comp_def] using gvs.sj _)) (v' := .string (strB bs[k])) (by rw [wEc])) ?_
  refine wBq rfl rfl rfl (qEq (qP rfl rfl) (v' := .bool false) (by rw [strB_eq]; simp)) ?_
  refine wBd (jPn (jT (wAk rfl (wAd (jB (jT (wAa (jp rfl (ja rfl (by omega) ?_)))))))))
  refine jp rfl (wAc ?_)
  refine wAp (k + 1) (.cons (t := 2) rfl (.cons (t := 3) rfl (.cons (t := 5) rfl .nil))) (by show k + 1 ≤ bs.length; omega) (by show bs.length - (k + 1) < bs.length - k; omega) (fun _ h => h)
 refine wAc (jT (wAk rfl (wAw (jTx (jTx (jBx (jT (wAb (wAb (wAa (jp rfl (wAc (jT (wAh ?_))))))))))))))
 refine wAv (α := Nat) (fun k => [(2, .pointer (some ⟨b2, 0, none⟩)), (3, .pointer (some ⟨b3, 0, none⟩)), (6, .int .i64 k)]) (fun _ => M) (fun _ => [(b3, .cells [Value.slice a3 bs.length c3, .slice a4 ws.length c4].toArray 25 (0, 0)), (b2, .cells [.slice a1 bs.length c1, .slice a2 ws.length c2].toArray 25 (0, 0))]) (fun k => k ≤ ws.length) (fun k => ws.length - k)
  0 (.cons (t := 2) rfl (.cons (t := 3) rfl (.cons (t := 6) rfl .nil))) (Nat.zero_le _) (fun _ h => h) ?_
 rintro k hk
 try dsimp only at hk ⊢
 refine wAb (wAb (wAa (jp rfl (sFL rfl rfl ?_))))
 refine wAi rfl rfl (wBj rfl rfl rfl) ?_
 refine js rfl (fun h47 => ?_) (fun h47 => ?_)
 ·refine wAc (jT (wAg rfl (wAd (jT (wAb (wAh (wAb (wBp [(0, true), (1, true), (2, true), (3, true), (4, true), (5, true), (6, true), (7, true), (8, true), (9, true), (10, true), (11, true), (12, true), (13, true), (14, true), (15, true), (16, true), (17, true), (18, true), (19, true), (20, true), (21, true), (22, true), (23, true), (24, true), (25, true), (26, true), (27, true), (28, true), (29, true)] [(b3, .cells [Value.slice a3 bs.length c3, .slice a4 ws.length c4].toArray 25 (0, 0)), (b2, .cells [.slice a1 bs.length c1, .slice a2 ws.length c2].toArray 25 (0, 0))] (by kernel_rfl) (by kernel_rfl) (by kernel_rfl) rfl (by simp) ?_))))))))
  refine dFa rfl rfl ?_
  refine dLd rfl rfl ?_
  refine dp rfl rfl ?_
  have hk1 : k < ws.length := by omega
  obtain ⟨sb, so, va, vc, e0, hcl, hvc, hvs⟩ := ws_get hs2 hp2 hb2 hk1
  obtain ⟨tb, to, wa, wc, g0, gcl, gvc, gvs⟩ := ws_get hs4 hp4 hb4 hk1
  have hfk := f4 _ (List.getElem_mem hk1)
  refine wBq rfl rfl rfl (wCe rfl rfl rfl rfl e0 (by omega)) ?_
  refine dFa rfl rfl ?_
  refine wBq rfl rfl rfl (qLd rfl rfl rfl rfl ((hcl 0 _ rfl).cj _)) ?_
  refine dFa rfl rfl ?_
  refine dLd rfl rfl ?_
  refine dp rfl rfl ?_
  refine wBq rfl rfl rfl (wCe rfl rfl rfl rfl g0 (by omega)) ?_
  refine dFa rfl rfl ?_
  refine wBq rfl rfl rfl (qLd rfl rfl rfl rfl ((gcl 0 _ rfl).cj _)) ?_
  refine df rfl rfl (decide_eq_false (by omega)) ?_
  refine dp rfl rfl ?_
  refine dFa rfl rfl ?_
  refine dLd rfl rfl ?_
  refine dp rfl rfl ?_
  refine wBq rfl rfl rfl (wCe rfl rfl rfl rfl e0 (by omega)) ?_
  refine dFa rfl rfl ?_
  refine wBq rfl rfl rfl (qLd rfl rfl rfl rfl ((hcl 1 _ rfl).cj _)) ?_
  refine wBq rfl rfl rfl (qEq (qStr (xs := ws[k].2.map fun b => (b.toNat : Int)) rfl rfl rfl (by simp) (by simpa [wAj, List.map_map, Function.comp_def] using hvs.sj _)) (v' := .string (strB ws[k].2)) (by rw [wEc])) ?_
  refine dFa rfl rfl ?_
  refine dLd rfl rfl ?_
  refine dp rfl rfl ?_
  refine wBq rfl rfl rfl (wCe rfl rfl rfl rfl g0 (by omega)) ?_
  refine dFa rfl rfl ?_
  refine wBq rfl rfl rfl (qLd rfl rfl rfl rfl ((gcl 1 _ rfl).cj _)) ?_
  refine wBq rfl rfl rfl (qEq (qStr (xs := ws[k].2.map fun b => (b.toNat : Int)) rfl rfl rfl (by simp) (by simpa [wAj, List.map_map, Function.comp_def] using gvs.sj _)) (v' := .string (strB ws[k].2)) (by rw [wEc])) ?_
  refine wBq rfl rfl rfl (qEq (qP rfl rfl) (v' := .bool false) (by rw [strB_eq]; simp)) ?_
  refine dp rfl rfl ?_
  refine wBd (jPn (jT (wAk rfl (wAd (jB (jT (wAa (jp rfl (ja rfl (by omega) ?_)))))))))
  refine jp rfl (wAc ?_)
  refine wAp (k + 1) (.cons (t := 2) rfl (.cons (t := 3) rfl (.cons (t := 6) rfl .nil))) (by show k + 1 ≤ ws.length; omega) (by show ws.length - (k + 1) < ws.length - k; omega) (fun _ h => h)
 refine wAc (jT (wAk rfl (wAw (jTx (jTx (jBx (jT (wAb (wAa (jp rfl (wAc (jT (wAe (wAr (L' := []) (List.nil_sublist _) ?_))))))))))))))
 refine jr1 rfl rfl ?_
 exact ⟨rfl, rfl⟩
theorem rsame3_spec (bs : List (List By)) (ws : List Wt) (u v u2 v2 : Value) (M : Mem) (h1 : LS M u bs) (h2 : WS M v ws) (h3 : LS M u2 bs) (h4 : WS M v2 ws) (hf : few bs ws) : SpecL Tryz.prog 26 #[.agg #[u, v], .agg #[u2, v2]] M [] fun u _ L' => u = .bool true ∧ L' = [] := by
 obtain ⟨a1, c1, ps1, rfl, hc1, hs1, hp1, hb1⟩ := h1
 obtain ⟨a2, c2, ps2, rfl, hc2, hs2, hp2, hb2⟩ := h2
 obtain ⟨a3, c3, ps3, rfl, hc3, hs3, hp3, hb3⟩ := h3
 obtain ⟨a4, c4, ps4, rfl, hc4, hs4, hp4, hb4⟩ := h4
 exact rsame3_walk bs ws a1 c1 ps1 a2 c2 ps2 M hc1 hs1 hp1 hb1 hc2 hs2 hp2 hb2 a3 c3 ps3 a4 c4 ps4 hc3 hs3 hp3 hb3 hc4 hs4 hp4 hb4 hf
theorem rsame8_walk (s : Sto) (bv wv : Value) (na la : Option Addr) (nc lc : Nat) (bv2 wv2 : Value) (na2 la2 : Option Addr) (nc2 lc2 : Nat) (M : Mem) (h1 : LS M bv s.blocks) (h2 : WS M wv s.waits) (h3 : SM M na (wAj s.now)) (h4 : SM M la (wAj s.last)) (g1 : LS M bv2 s.blocks) (g2 : WS M wv2 s.waits) (g3 : SM M na2 (wAj s.now)) (g4 : SM M la2 (wAj s.last)) (hf : fewS s) :
  SpecL Tryz.prog 8 #[.agg #[bv, wv, .slice na s.now.length nc, .slice la s.last.length lc], .agg #[bv2, wv2, .slice na2 s.now.length nc2, .slice la2 s.last.length lc2]] M [] fun u _ L' => u = .bool true ∧ L' = [] := by
 obtain ⟨f1, f2, f3⟩ := hf
 refine wAf (vs := [_, _]) 28 _ Tryz.func8 rfl Tryz.ntmps8 rfl rfl ?_; intro W
 refine wAb (wAa (wAy rfl rfl (wCm (cs := [_, _, _, _]) rfl rfl rfl rfl) ?_)); rintro _ _ _ ⟨b2, rfl, rfl, rfl⟩
 refine wAy rfl rfl (wCm (cs := [_, _, _, _]) rfl rfl rfl rfl) ?_; rintro _ _ _ ⟨b3, rfl, rfl, rfl⟩
 refine jp rfl (wAc (jT (wAb (wAa (sFa rfl ?_)))))
 refine sLL rfl ?_
 refine sFa rfl ?_
 refine sLL rfl ?_
 refine wAy rfl rfl (wAu rfl rfl rfl rfl rfl (by kernel_rfl) (rsame3_spec s.blocks s.waits bv wv bv2 wv2 M h1 h2 g1 g2 f1)) ?_; rintro _ M1 _ ⟨hM1, _, rfl, ⟨rfl, rfl⟩⟩
 refine jp rfl (sFL rfl rfl ?_)
 refine wAi rfl rfl (qEq (qStr (xs := s.now.map fun b => (b.toNat : Int)) rfl rfl rfl (by simp) (by simpa [wAj, List.map_map, Function.comp_def] using (h3.mono hM1).sj _)) (v' := .string (strB s.now)) (by rw [wEc])) ?_
 refine sFL rfl rfl ?_
 refine wAi rfl rfl (qEq (qStr (xs := s.now.map fun b => (b.toNat : Int)) rfl rfl rfl (by simp) (by simpa [wAj, List.map_map, Function.comp_def] using (g3.mono hM1).sj _)) (v' := .string (strB s.now)) (by rw [wEc])) ?_
 refine wAi rfl rfl (qEq (qP rfl rfl) (v' := .bool true) (by rw [strB_eq]; simp)) ?_
 refine jp rfl (jp rfl (sFL rfl rfl ?_))
 refine wAi rfl rfl (qEq (qStr (xs := s.last.map fun b => (b.toNat : Int)) rfl rfl rfl (by simp) (by simpa [wAj, List.map_map, Function.comp_def] using (h4.mono hM1).sj _)) (v' := .string (strB s.last)) (by rw [wEc])) ?_
 refine sFL rfl rfl ?_
 refine wAi rfl rfl (qEq (qStr (xs := s.last.map fun b => (b.toNat : Int)) rfl rfl rfl (by simp) (by simpa [wAj, List.map_map, Function.comp_def] using (g4.mono hM1).sj _)) (v' := .string (strB s.last)) (by rw [wEc])) ?_
 refine wAi rfl rfl (qEq (qP rfl rfl) (v' := .bool true) (by rw [strB_eq]; simp)) ?_
 refine jp rfl (jp rfl (wAc (jT (wAe (wAr (L' := []) (List.nil_sublist _) ?_)))))
 refine jr1 rfl rfl ?_
 exact ⟨rfl, rfl⟩
theorem wHp (s : Sto) (u v : Value) (M : Mem) (h1 : ST M u s) (h2 : ST M v s) (hf : fewS s) : SpecL Tryz.prog 8 #[u, v] M [] fun u _ L' => u = .bool true ∧ L' = [] := by
 obtain ⟨b, w, n, l, rfl, k1, k2, ⟨na, nc, rfl, _, k3⟩, ⟨la, lc, rfl, _, k4⟩⟩ := h1.ex
 obtain ⟨b2, w2, n2, l2, rfl, m1, m2, ⟨na2, nc2, rfl, _, m3⟩, ⟨la2, lc2, rfl, _, m4⟩⟩ := h2.ex
 exact rsame8_walk s b w na la nc lc b2 w2 na2 la2 nc2 lc2 M k1 k2 k3 k4 m1 m2 m3 m4 hf
theorem rtwin8_walk (s : Sto) (bv wv : Value) (na la : Option Addr) (nc lc : Nat) (M : Mem) (h1 : LS M bv s.blocks) (h2 : WS M wv s.waits) (h3 : SM M na (wAj s.now)) (h4 : SM M la (wAj s.last)) (hf : fewS s) :
  SpecL Tryz.prog 5 #[.agg #[bv, wv, .slice na s.now.length nc, .slice la s.last.length lc]] M [] fun u M' L' => ST M' u s ∧ L' = [] := by
 obtain ⟨f1, f2, f3⟩ := hf
 refine wAf (vs := [_]) 13 _ Tryz.func5 rfl Tryz.ntmps5 rfl rfl ?_; intro W
 refine wAb (wAa (wAy rfl rfl (wCm (cs := [_, _, _, _]) rfl rfl rfl rfl) ?_)); rintro _ _ _ ⟨b1, rfl, rfl, rfl⟩
 refine sAl rfl fun b2 => ?_
 refine wAc (jT (wAb (wBp [(0, true), (1, true), (3, true), (4, true), (6, true), (7, true), (2, false), (5, false), (8, false), (9, true), (10, false)] [(b1, .cells [bv, wv, .slice na s.now.length nc, .slice la s.last.length lc].toArray 28 (0, 0))] (by kernel_rfl) (by kernel_rfl) (by kernel_rfl) rfl (by simp) ?_)))
 refine dFa rfl rfl ?_
 refine dLL rfl rfl ?_
 refine dFa rfl rfl ?_
 refine dLd rfl rfl ?_
 refine dFa rfl rfl ?_
 refine dLd rfl rfl ?_
 refine wHc rfl rfl rfl (wAu rfl rfl rfl rfl rfl (by kernel_rfl) (rtwin3_spec s.blocks s.waits bv wv M h1 h2 f1)) ?_; rintro _ M1 _ ⟨hM1, _, rfl, ⟨⟨tb, tw, rfl, k1, k2⟩, rfl⟩⟩
 refine ⟨_, _, MLe.refl _, hM1, fun _ h => h, by simp, ?_⟩
 obtain ⟨_, _, _, rfl, _⟩ := id k1
 obtain ⟨_, _, _, rfl, _⟩ := id k2
 refine wHc rfl rfl rfl (hAppFz rfl rfl rfl rfl (by rw [wAm, Nat.mul_one]) (h3.mono hM1) rfl (wBv _) (by omega) (by omega)) ?_; rintro v8 M8 _ ⟨rfl, hM8, a8, c8, rfl, hc8, hs8⟩
 refine ⟨_, _, MLe.refl _, (hM1.trans hM8), fun _ h => h, by simp, ?_⟩
 refine wHc rfl rfl rfl (hAppFz rfl rfl rfl rfl (by rw [wAm, Nat.mul_one]) (h4.mono (hM1.trans hM8)) rfl (wBv _) (by omega) (by omega)) ?_; rintro v11 M11 _ ⟨rfl, hM11, a11, c11, rfl, hc11, hs11⟩
 refine ⟨_, _, MLe.refl _, ((hM1.trans hM8).trans hM11), fun _ h => h, by simp, ?_⟩
 refine wBq rfl rfl rfl (wBa (cs := [_, _, _, _]) rfl rfl rfl (by rfl)) ?_
 refine jd_s rfl rfl (wBm rfl rfl rfl rfl rfl rfl rfl rfl) ?_; rintro _ _ _ ⟨rfl, rfl⟩
 refine ⟨_, _, MLe.refl _, ((hM1.trans hM8).trans hM11), fun _ h => h, by simp, ?_⟩
 refine wBd (jPn (jT (wAe (wDa (rs := [_]) ([]) (by exact List.nil_sublist _) rfl (.cons (.agg rfl rfl rfl) .nil) ?_))))
 exact ⟨⟨_, _, _, _, rfl, (k1.mono hM8).mono hM11, (k2.mono hM8).mono hM11, ⟨a8, c8, rfl, hc8, hs8.mono hM11⟩, ⟨a11, c11, rfl, hc11, hs11⟩⟩, rfl⟩
theorem rtwin8_spec (s : Sto) (u : Value) (M : Mem) (h : ST M u s) (hf : fewS s) : SpecL Tryz.prog 5 #[u] M [] fun u M' L' => ST M' u s ∧ L' = [] := by
 obtain ⟨b, w, n, l, rfl, k1, k2, ⟨na, nc, rfl, _, k3⟩, ⟨la, lc, rfl, _, k4⟩⟩ := h.ex
 exact rtwin8_walk s b w na la nc lc M k1 k2 k3 k4 hf
theorem rgreat8_spec (s : Sto) (u : Value) (M : Mem) (h : ST M u s) : SpecL Tryz.prog 4 #[u] M [] fun u _ L' => (∃ b : Bool, u = .bool b ∧ (b = false → fewS s)) ∧ L' = [] := by
 obtain ⟨b, w, n, l, rfl, k1, k2, k3, k4⟩ := h.ex
 exact rgreat8_walk s b w n l M k1 k2 k3 k4
theorem rmay8_spec (s : Sto) (u : Value) (M : Mem) (h : ST M u s) (hf : fewS s) : SpecL Tryz.prog 45 #[u] M [] fun u _ _ => u = .bool (decide (wCc s)) := by
 obtain ⟨b, w, n, l, rfl, k1, k2, k3, k4⟩ := h.ex
 exact rmay8_walk s b w n l M k1 k2 k3 k4 hf
def RdPost (s : Sto) (k : Nat) (u : Value) (M' : Mem) : Prop := match wBk s k with
 | some (lv, xs) => ∃ sl, u = .tuple #[.agg #[.int .i64 lv, sl], .bool true] ∧ NS M' sl xs
 | none => ∃ lv a n c, u = .tuple #[.agg #[.int .i64 lv, .slice a n c], .bool false]
theorem ndAt_out {s : Sto} (h : wCc s) {k : Nat} (hk : k < 8 ∨ 256 ≤ k) : wBk s k = none := by
 have : s.now.getD k 0 = 0 := by
  obtain ⟨_, ⟨h1, h2⟩, _⟩ := h
  rcases hk with hk | hk
  ·unfold wDq at h2; rw [List.all_eq_true] at h2
   have h3 := h2 (s.now[k]'(by omega)) (List.mem_iff_getElem.2 ⟨k, by rw [List.length_take]; omega, by rw [List.getElem_take]⟩)
   rw [wCp (by omega)]; simpa using h3
  simp [List.getD, List.getElem?_eq_none (by omega : s.now.length ≤ k)]
 unfold wBk; rw [if_pos this]
theorem rread8_walk (s : Sto) (bv wv lv : Value) (na : Option Addr) (nc : Nat) (M : Mem) (h1 : LS M bv s.blocks) (h2 : WS M wv s.waits) (h3 : SM M na (wAj s.now)) (hst : wCc s) (k : Nat) (hk : k ≤ 100000) :
  SpecL Tryz.prog 47 #[.agg #[bv, wv, .slice na s.now.length nc, lv], .int .i64 k] M [] fun u M' L' => RdPost s k u M' ∧ L' = [] := by
 obtain ⟨⟨hq1, hq2, hq3, hq4⟩, ⟨hn1, _⟩, _⟩ := id hst
 refine wAf (vs := [_, _]) 34 _ Tryz.func47 rfl Tryz.ntmps47 rfl rfl ?_; intro W
 refine wAb (wAa (wAy rfl rfl (wCm (cs := [_, _, _, _]) rfl rfl rfl rfl) ?_)); rintro _ _ _ ⟨b2, rfl, rfl, rfl⟩
 refine sAl rfl fun b4 => ?_
 refine jp rfl (wAc (jT (wAb (wAb (wAa (jp rfl (js rfl (fun h9 => ?_) (fun h9 => ?_))))))))
 ·iterate 12 refine jp rfl ?_
  refine wAc (jT (wAg rfl (wAb (wAa (wAi rfl rfl (wBa (cs := [_, _]) rfl rfl rfl (by rfl)) ?_)))))
  refine sSt rfl ?_
  refine jp rfl (wAc (jT (wAe (jTr (wDa (rs := [_, _]) ([]) (by exact List.nil_sublist _) rfl (.cons (.agg rfl rfl rfl) (.cons (.tmp rfl) .nil)) ?_)))))
  exact ⟨by unfold RdPost; rw [ndAt_out hst (by omega)]; exact ⟨_, _, _, _, rfl⟩, rfl⟩
 refine jp rfl (jp rfl (js rfl (fun h12 => ?_) (fun h12 => ?_)))
 ·iterate 9 refine jp rfl ?_
  refine wAc (jT (wAg rfl (wAb (wAa (wAi rfl rfl (wBa (cs := [_, _]) rfl rfl rfl (by rfl)) ?_)))))
  refine sSt rfl ?_
  refine jp rfl (wAc (jT (wAe (jTr (wDa (rs := [_, _]) ([]) (by exact List.nil_sublist _) rfl (.cons (.agg rfl rfl rfl) (.cons (.tmp rfl) .nil)) ?_)))))
  exact ⟨by unfold RdPost; rw [ndAt_out hst (by omega)]; exact ⟨_, _, _, _, rfl⟩, rfl⟩
 refine jp rfl (jp rfl (sFL rfl rfl ?_))
 refine jp rfl ?_
 have hkn : k < s.now.length := by omega
 obtain ⟨sb, so, e0, hcl⟩ := wCw h3 hkn
 refine wAi rfl rfl (wCe rfl rfl rfl rfl e0 (by omega)) ?_
 refine wAi rfl rfl (qLd rfl rfl rfl rfl (hcl.cj _)) ?_
 refine js rfl (fun h20 => ?_) (fun h20 => ?_)
 ·refine jp rfl (wAc (jT (wAg rfl (wAb (wAa (wAi rfl rfl (wBa (cs := [_, _]) rfl rfl rfl (by rfl)) ?_))))))
  refine sSt rfl ?_
  refine jp rfl (wAc (jT (wAe (jTr (wDa (rs := [_, _]) ([]) (by exact List.nil_sublist _) rfl (.cons (.agg rfl rfl rfl) (.cons (.tmp rfl) .nil)) ?_)))))
  have e0 : s.now[k] = 0 := UInt8.toNat_inj.1 (by show _ = 0; omega)
  have e : wBk s k = none := by unfold wBk; rw [wCp hkn, if_pos e0]
  exact ⟨by unfold RdPost; rw [e]; exact ⟨_, _, _, _, rfl⟩, rfl⟩
 refine jp rfl (wAc (jT (wAk rfl (wAd (jT (wAb (wAa (sFa rfl ?_))))))))
 refine sLL rfl ?_
 refine jp rfl (wAy rfl rfl (wAu rfl rfl rfl rfl rfl (by kernel_rfl) (rseen_spec s bv wv M h1 h2 hq1 (by omega) k (by omega))) ?_); rintro _ M1 _ ⟨hM1, _, rfl, ⟨hv6, rfl⟩⟩
 refine wAy rfl rfl (wAu rfl rfl rfl rfl rfl (by kernel_rfl) (rread6_spec _ (seen s k) M1 (hv6.mono hM1) (by rw [seen_len hst (by omega)]; omega))) ?_; rintro _ M2 _ ⟨hM2, _, rfl, ⟨hnd, rfl⟩⟩
 obtain ⟨nl, la, ln, lc, e, rfl, hnd2⟩ := NdPost.form hnd
 refine jp rfl (jp rfl (jp rfl (sAl rfl fun b6 => ?_)))
 refine sSt rfl ?_
 refine jp rfl (wAc (jT (wAb (wAa (sLL rfl ?_)))))
 refine jp rfl (jp rfl (sSt rfl ?_))
 refine jp rfl (wAc (jT (wAe (wDa (rs := [_, _]) ([]) (by exact List.nil_sublist _) rfl (.cons (.agg rfl rfl rfl) (.cons (.tmp rfl) .nil)) ?_))))
 have e0 : ¬ s.now[k] = 0 := fun h => h20 (by rw [h]; rfl)
 have e : wBk s k = wDg (seen s k) := by unfold wBk; rw [wCp hkn, if_neg e0]
 refine ⟨?_, rfl⟩
 unfold RdPost; rw [e]
 rcases hnd2 with ⟨he, hr⟩ | ⟨rfl, xs, hr, hns⟩
 ·rw [hr, decide_eq_false he]; exact ⟨_, _, _, _, rfl⟩
 rw [hr]; exact ⟨_, rfl, hns⟩
theorem rread8_spec (s : Sto) (u : Value) (M : Mem) (h : ST M u s) (hst : wCc s) (k : Nat) (hk : k ≤ 100000) : SpecL Tryz.prog 47 #[u, .int .i64 k] M [] fun u M' L' => RdPost s k u M' ∧ L' = [] := by
 obtain ⟨b, w, n, l, rfl, k1, k2, ⟨na, nc, rfl, _, k3⟩, k4⟩ := h.ex
 exact rread8_walk s b w l na nc M k1 k2 k3 hst k hk
end Go.Proofs.YtkcpllhggofloaaGreat
