/- Walks: the document's items read and compared; nodes as bytes. -/
import Derived.Test.YtkcpllhggofloaaGreatZRb
import Derived.Test.YtkcpllhggofloaaGreatZCat
namespace Go.Proofs.YtkcpllhggofloaaGreat
set_option linter.unusedVariables false
set_option linter.unusedSectionVars false
set_option linter.unusedSimpArgs false
open Go.RowKit
def R5P (xs : List By) (u : Value) (M' : Mem) (L' : Lc) : Prop := ∃ x va vc, ∃ sz : Int, u = .tuple #[.agg (itc x va vc).toArray, .int .i64 sz, .int .i64 (rdE xs)] ∧ (rdE xs = 0 → x = rdX xs ∧ sz = rdS xs ∧ x.val.length ≤ vc ∧ SM M' va (wAj x.val)) ∧ L' = []
theorem R5P.bad {xs : List By} {M : Mem} (h : rdE xs = 8) : R5P xs (.tuple #[.agg zeroIt.toArray, .int .i64 0, .int .i64 8]) M [] := ⟨⟨⟨0, 0, 0⟩, 0, []⟩, none, 0, 0, by rw [h]; rfl, (fun h0 => by rw [h] at h0; cases h0), rfl⟩
theorem rread5_len (sa : Option Addr) (c : Nat) (xs : List By) (M : Mem) (hc : xs.length ≤ c) (hs : SM M sa (wAj xs)) (hn : xs.length ≤ 100000) (h : xs.length < 12) :
  SpecL Tryz.prog 95 #[.slice sa xs.length c] M [] (R5P xs) := by
 refine wAf (vs := [_]) 64 _ Tryz.func95 rfl Tryz.ntmps95 rfl rfl ?_; intro W
 refine wAb (wAa (sAl rfl fun b2 => ?_))
 refine jp rfl (jp rfl (wAc (jT (wAb (wAb (wAa (jp rfl (wAi rfl rfl (wBj rfl rfl rfl) ?_))))))))
 refine jt rfl (decide_eq_true (by omega)) ?_
 iterate 10 refine jp rfl ?_
 refine wAc (jT (wAg rfl (wAb (wAa (wAi rfl rfl (wBa (cs := [_, _, _, _, _]) rfl rfl rfl (by rfl)) ?_)))))
 refine sSt rfl ?_
 refine jp rfl (jp rfl (wAc (jT (wAe (jTr (wDa (rs := [_, _, _]) ([]) (by exact List.nil_sublist _) rfl (.cons (.agg rfl rfl rfl) (.cons (.tmp rfl) (.cons (.tmp rfl) .nil))) ?_))))))
 exact R5P.bad (by unfold rdE; rw [if_pos h])
theorem rread5_size (sa : Option Addr) (c : Nat) (xs : List By) (M : Mem) (hc : xs.length ≤ c) (hs : SM M sa (wAj xs)) (hn : xs.length ≤ 100000) (h : ¬ xs.length < 12) (h2 : xs.length < rdS xs) :
  SpecL Tryz.prog 95 #[.slice sa xs.length c] M [] (R5P xs) := by
 obtain ⟨sb, so, e0, hx⟩ := hs.open (by intro e; have := congrArg List.length e; rw [wAm, List.length_nil] at this; omega)
 subst e0
 have hbl := (xs.getD 11 0).toNat_lt
 have hS : rdS xs = 12 + (xs.getD 11 0).toNat := rfl
 refine wAf (vs := [_]) 64 _ Tryz.func95 rfl Tryz.ntmps95 rfl rfl ?_; intro W
 refine wAb (wAa (sAl rfl fun b2 => ?_))
 refine jp rfl (jp rfl (wAc (jT (wAb (wAb (wAa (jp rfl (wAi rfl rfl (wBj rfl rfl rfl) ?_))))))))
 refine jf rfl (decide_eq_false (by omega)) ?_
 refine jp rfl (jp rfl (wAi rfl rfl (wBj rfl rfl rfl) ?_))
 refine ja rfl (by omega) ?_
 refine jp rfl (wAi rfl rfl (wBe rfl rfl rfl rfl (by omega)) ?_)
 refine wAi rfl rfl (qLd rfl rfl rfl rfl ((hx ((11 : Int).toNat * 1) _ (wHy (j := 11) (by omega))).cj _)) ?_
 refine wAi rfl rfl (wEm rfl rfl rfl (by omega)) ?_
 refine jt rfl (decide_eq_true (by omega)) ?_
 refine jp rfl (wAc (jT (wAg rfl (wAb (wAa (wAi rfl rfl (wBa (cs := [_, _, _, _, _]) rfl rfl rfl (by rfl)) ?_))))))
 refine sSt rfl ?_
 refine jp rfl (jp rfl (wAc (jT (wAe (jTr (wDa (rs := [_, _, _]) ([]) (by exact List.nil_sublist _) rfl (.cons (.agg rfl rfl rfl) (.cons (.tmp rfl) (.cons (.tmp rfl) .nil))) ?_))))))
 exact R5P.bad (by unfold rdE; rw [if_neg h, if_pos h2])
set_option maxHeartbeats 2000000 in
theorem rread5_ok (sa : Option Addr) (c : Nat) (xs : List By) (M : Mem) (hc : xs.length ≤ c) (hs : SM M sa (wAj xs)) (hn : xs.length ≤ 100000) (h : ¬ xs.length < 12) (h2 : ¬ xs.length < rdS xs) (h3 : wDu (rdX xs) = false) :
  SpecL Tryz.prog 95 #[.slice sa xs.length c] M [] (R5P xs) := by
 obtain ⟨sb, so, e0, hx⟩ := hs.open (by intro e; have := congrArg List.length e; rw [wAm, List.length_nil] at this; omega)
 subst e0
 have hbl := (xs.getD 11 0).toNat_lt
 have hS : rdS xs = 12 + (xs.getD 11 0).toNat := rfl
 have hvl := rdX_len (xs := xs) (by omega)
 have hsv : SM M (slA (some ⟨sb, so, none⟩) 12 c 1) (wAj (rdX xs).val) := by
   by_cases hz : 12 = c
   ·left; have : (rdX xs).val = [] := List.eq_nil_of_length_eq_zero (by omega); rw [this]; rfl
   rw [wBn (by omega)]; exact .inr ⟨sb, _, rfl, SM.sub 12 (rdS xs - 12) hx⟩
 refine wAf (vs := [_]) 64 _ Tryz.func95 rfl Tryz.ntmps95 rfl rfl ?_; intro W
 refine wAb (wAa (sAl rfl fun b2 => ?_))
 refine jp rfl (jp rfl (wAc (jT (wAb (wAb (wAa (jp rfl (wAi rfl rfl (wBj rfl rfl rfl) ?_))))))))
 refine jf rfl (decide_eq_false (by omega)) ?_
 refine jp rfl (jp rfl (wAi rfl rfl (wBj rfl rfl rfl) ?_))
 refine ja rfl (by omega) ?_
 refine jp rfl (wAi rfl rfl (wBe rfl rfl rfl rfl (by omega)) ?_)
 refine wAi rfl rfl (qLd rfl rfl rfl rfl ((hx ((11 : Int).toNat * 1) _ (wHy (j := 11) (by omega))).cj _)) ?_
 refine wAi rfl rfl (wEm rfl rfl rfl (by omega)) ?_
 refine jf rfl (decide_eq_false (by omega)) ?_
 refine jp rfl (wAc (jT (wAk rfl (wAd (jT (wAb (wAa (jp rfl (wAi rfl rfl (wBe rfl rfl rfl rfl (by omega)) ?_)))))))))
 refine wAi rfl rfl (qLd rfl rfl rfl rfl ((hx ((0 : Int).toNat * 1) _ (wHy (j := 0) (by omega))).cj _)) ?_
 refine wAi rfl rfl (wBa (cs := [_, _, _]) rfl rfl rfl (by rfl)) ?_
 refine wAi rfl rfl (wBa (cs := [_, _, _, _, _]) rfl rfl rfl (by rfl)) ?_
 refine sAl rfl fun b5 => ?_
 refine sSt rfl ?_
 refine wAc (jT (wAb (wAa (jp rfl (wAi rfl rfl (wBr rfl rfl rfl rfl rfl (by kernel_rfl) (wEh _ c xs 1 M hs hc (by omega) (by omega))) ?_)))))
 refine jp rfl (jp rfl (jp rfl (sFF rfl rfl ?_)))
 refine sSt rfl ?_
 refine wAc (jT (wAb (wAa (jp rfl (wAi rfl rfl (wBr rfl rfl rfl rfl rfl (by kernel_rfl) (wEh _ c xs 5 M hs hc (by omega) (by omega))) ?_)))))
 refine jp rfl (jp rfl (jp rfl (sFF rfl rfl ?_)))
 refine sSt rfl ?_
 refine wAc (jT (wAb (wAa (jp rfl (wAi rfl rfl (wBr rfl rfl rfl rfl rfl (by kernel_rfl) (rgetTwo_spec _ c xs 9 M hs hc (by omega) (by omega))) ?_)))))
 refine jp rfl (jp rfl (jp rfl (sFa rfl ?_)))
 refine sSt rfl ?_
 refine wAc (jT (wAb (wAa (jp rfl (wAi rfl rfl (wBe rfl rfl rfl rfl (by omega)) ?_)))))
 refine wAi rfl rfl (qLd rfl rfl rfl rfl ((hx ((11 : Int).toNat * 1) _ (wHy (j := 11) (by omega))).cj _)) ?_
 refine wAi rfl rfl (wEm rfl rfl rfl (by omega)) ?_
 refine ja rfl (by omega) ?_
 refine jp rfl (wAc (jT (wAb (wDb (p := { A := fun i => !([7].contains i), U := fun i => !([7].contains i) }) [(0, true), (1, true), (2, true), (3, true), (4, true), (5, false), (6, true), (7, false)] M ([(b5, .cells [Value.int .u8 ((xs.getD 0 0).toNat : Int), .int .u32 (wJa xs 1 4), .int .u32 (wJa xs 5 4), .int .i64 (wJa xs 9 2), .slice none 0 0].toArray 46 (0, 0))]) ([]) (by kernel_rfl) (by kernel_rfl) (by kernel_rfl) (by kernel_rfl) rfl (by simp) (MLe.refl _) (by simp) ?_))))
 refine dFa rfl rfl ?_
 refine dLd rfl rfl ?_
 iterate 2 refine dp rfl rfl ?_
 refine wBq rfl rfl rfl (qEq (qSl rfl rfl rfl (.no _) (.of (v := rdS xs) rfl (by omega) (by omega)) (.of (v := 12) rfl (by omega) rfl) (by omega) (by simp)) (v' := .slice (slA (some ⟨sb, so, none⟩) 12 c 1) (rdX xs).val.length (c - 12)) (by rw [hvl])) ?_
 refine wHc rfl rfl rfl (wCg (R := []) rfl rfl rfl rfl (Own.nil _ _) (by rw [wAm, Nat.mul_one]) hsv rfl (wBv _) (by omega) (by omega)) ?_; rintro v56 _ _ ⟨rfl, R56, rfl, o56⟩
 refine ⟨_, _, MLe.refl _, MLe.refl _, fun _ h => h, by simp, ?_⟩
 obtain ⟨a56, c56, rfl⟩ := o56.form
 simp only [Nat.zero_add, List.nil_append] at o56 ⊢
 refine dFa rfl rfl ?_
 refine jd_e rfl rfl (wBm rfl rfl rfl rfl rfl rfl rfl rfl) ?_; rintro _ _ _ ⟨rfl, rfl⟩
 refine ⟨MLe.refl _, by simp, ?_⟩
 refine wFf ?_
 refine jPn (jT (wAb (wAb (wAa (sLL rfl ?_)))))
 refine wAi rfl rfl (qEq (wBr rfl rfl rfl rfl rfl (by kernel_rfl) (wJr (rdX xs) a56 c56 M)) (v' := .bool true) (by rw [h3]; rfl)) ?_
 refine jp rfl (wAc (jT (wAk rfl (wAd (jT (wAb (wAa (sLL rfl ?_))))))))
 refine jp rfl (sSt rfl ?_)
 refine jp rfl (jp rfl (wAc (jT (wAe (wGy o56 (by simp) ?_)))))
 intro M6 a6 c6 hM6 e6 hc6 hs6
 cases e6
 refine wDa (rs := [_, _, _]) ([]) (by exact List.nil_sublist _) rfl (.cons (.agg rfl rfl rfl) (.cons (.tmp rfl) (.cons (.tmp rfl) .nil))) ?_
 have hE : rdE xs = 0 := by unfold rdE; rw [if_neg h, if_neg h2]; unfold wGc; rw [h3]; rfl
 exact ⟨rdX xs, a56, c56, _, by rw [hE]; rfl, fun _ => ⟨rfl, by unfold rdS; simp, hc6, hs6⟩, rfl⟩
set_option maxHeartbeats 2000000 in
theorem rread5_bad (sa : Option Addr) (c : Nat) (xs : List By) (M : Mem) (hc : xs.length ≤ c) (hs : SM M sa (wAj xs)) (hn : xs.length ≤ 100000) (h : ¬ xs.length < 12) (h2 : ¬ xs.length < rdS xs) (h3 : wDu (rdX xs) = true) :
  SpecL Tryz.prog 95 #[.slice sa xs.length c] M [] (R5P xs) := by
 obtain ⟨sb, so, e0, hx⟩ := hs.open (by intro e; have := congrArg List.length e; rw [wAm, List.length_nil] at this; omega)
 subst e0
 have hbl := (xs.getD 11 0).toNat_lt
 have hS : rdS xs = 12 + (xs.getD 11 0).toNat := rfl
 have hvl := rdX_len (xs := xs) (by omega)
 have hsv : SM M (slA (some ⟨sb, so, none⟩) 12 c 1) (wAj (rdX xs).val) := by
   by_cases hz : 12 = c
   ·left; have : (rdX xs).val = [] := List.eq_nil_of_length_eq_zero (by omega); rw [this]; rfl
   rw [wBn (by omega)]; exact .inr ⟨sb, _, rfl, SM.sub 12 (rdS xs - 12) hx⟩
 refine wAf (vs := [_]) 64 _ Tryz.func95 rfl Tryz.ntmps95 rfl rfl ?_; intro W
 refine wAb (wAa (sAl rfl fun b2 => ?_))
 refine jp rfl (jp rfl (wAc (jT (wAb (wAb (wAa (jp rfl (wAi rfl rfl (wBj rfl rfl rfl) ?_))))))))
 refine jf rfl (decide_eq_false (by omega)) ?_
 refine jp rfl (jp rfl (wAi rfl rfl (wBj rfl rfl rfl) ?_))
 refine ja rfl (by omega) ?_
 refine jp rfl (wAi rfl rfl (wBe rfl rfl rfl rfl (by omega)) ?_)
 refine wAi rfl rfl (qLd rfl rfl rfl rfl ((hx ((11 : Int).toNat * 1) _ (wHy (j := 11) (by omega))).cj _)) ?_
 refine wAi rfl rfl (wEm rfl rfl rfl (by omega)) ?_
 refine jf rfl (decide_eq_false (by omega)) ?_
 refine jp rfl (wAc (jT (wAk rfl (wAd (jT (wAb (wAa (jp rfl (wAi rfl rfl (wBe rfl rfl rfl rfl (by omega)) ?_)))))))))
 refine wAi rfl rfl (qLd rfl rfl rfl rfl ((hx ((0 : Int).toNat * 1) _ (wHy (j := 0) (by omega))).cj _)) ?_
 refine wAi rfl rfl (wBa (cs := [_, _, _]) rfl rfl rfl (by rfl)) ?_
 refine wAi rfl rfl (wBa (cs := [_, _, _, _, _]) rfl rfl rfl (by rfl)) ?_
 refine sAl rfl fun b5 => ?_
 refine sSt rfl ?_
 refine wAc (jT (wAb (wAa (jp rfl (wAi rfl rfl (wBr rfl rfl rfl rfl rfl (by kernel_rfl) (wEh _ c xs 1 M hs hc (by omega) (by omega))) ?_)))))
 refine jp rfl (jp rfl (jp rfl (sFF rfl rfl ?_)))
 refine sSt rfl ?_
 refine wAc (jT (wAb (wAa (jp rfl (wAi rfl rfl (wBr rfl rfl rfl rfl rfl (by kernel_rfl) (wEh _ c xs 5 M hs hc (by omega) (by omega))) ?_)))))
 refine jp rfl (jp rfl (jp rfl (sFF rfl rfl ?_)))
 refine sSt rfl ?_
 refine wAc (jT (wAb (wAa (jp rfl (wAi rfl rfl (wBr rfl rfl rfl rfl rfl (by kernel_rfl) (rgetTwo_spec _ c xs 9 M hs hc (by omega) (by omega))) ?_)))))
 refine jp rfl (jp rfl (jp rfl (sFa rfl ?_)))
 refine sSt rfl ?_
 refine wAc (jT (wAb (wAa (jp rfl (wAi rfl rfl (wBe rfl rfl rfl rfl (by omega)) ?_)))))
 refine wAi rfl rfl (qLd rfl rfl rfl rfl ((hx ((11 : Int).toNat * 1) _ (wHy (j := 11) (by omega))).cj _)) ?_
 refine wAi rfl rfl (wEm rfl rfl rfl (by omega)) ?_
 refine ja rfl (by omega) ?_
 refine jp rfl (wAc (jT (wAb (wDb (p := { A := fun i => !([7].contains i), U := fun i => !([7].contains i) }) [(0, true), (1, true), (2, true), (3, true), (4, true), (5, false), (6, true), (7, false)] M ([(b5, .cells [Value.int .u8 ((xs.getD 0 0).toNat : Int), .int .u32 (wJa xs 1 4), .int .u32 (wJa xs 5 4), .int .i64 (wJa xs 9 2), .slice none 0 0].toArray 46 (0, 0))]) ([]) (by kernel_rfl) (by kernel_rfl) (by kernel_rfl) (by kernel_rfl) rfl (by simp) (MLe.refl _) (by simp) ?_))))
 refine dFa rfl rfl ?_
 refine dLd rfl rfl ?_
 iterate 2 refine dp rfl rfl ?_
 refine wBq rfl rfl rfl (qEq (qSl rfl rfl rfl (.no _) (.of (v := rdS xs) rfl (by omega) (by omega)) (.of (v := 12) rfl (by omega) rfl) (by omega) (by simp)) (v' := .slice (slA (some ⟨sb, so, none⟩) 12 c 1) (rdX xs).val.length (c - 12)) (by rw [hvl])) ?_
 refine wHc rfl rfl rfl (wCg (R := []) rfl rfl rfl rfl (Own.nil _ _) (by rw [wAm, Nat.mul_one]) hsv rfl (wBv _) (by omega) (by omega)) ?_; rintro v56 _ _ ⟨rfl, R56, rfl, o56⟩
 refine ⟨_, _, MLe.refl _, MLe.refl _, fun _ h => h, by simp, ?_⟩
 obtain ⟨a56, c56, rfl⟩ := o56.form
 simp only [Nat.zero_add, List.nil_append] at o56 ⊢
 refine dFa rfl rfl ?_
 refine jd_e rfl rfl (wBm rfl rfl rfl rfl rfl rfl rfl rfl) ?_; rintro _ _ _ ⟨rfl, rfl⟩
 refine ⟨MLe.refl _, by simp, ?_⟩
 refine wFf ?_
 refine jPn (jT (wAb (wAb (wAa (sLL rfl ?_)))))
 refine wAi rfl rfl (qEq (wBr rfl rfl rfl rfl rfl (by kernel_rfl) (wJr (rdX xs) a56 c56 M)) (v' := .bool false) (by rw [h3]; rfl)) ?_
 refine jp rfl (wAc (jT (wAg rfl (wAb (wAa (wAi rfl rfl (wBa (cs := [_, _, _, _, _]) rfl rfl rfl (by rfl)) ?_))))))
 refine sSt rfl ?_
 refine jp rfl (jp rfl (wAc (jT (wAe (jTr (wDa (rs := [_, _, _]) ([]) (by exact List.nil_sublist _) rfl (.cons (.agg rfl rfl rfl) (.cons (.tmp rfl) (.cons (.tmp rfl) .nil))) ?_))))))
 exact R5P.bad (by unfold rdE; rw [if_neg h, if_neg h2]; unfold wGc; rw [h3]; rfl)
theorem rread5_spec (v : Value) (xs : List By) (M : Mem) (hv : BS M v xs) (hn : xs.length ≤ 100000) : SpecL Tryz.prog 95 #[v] M [] (R5P xs) := by
 obtain ⟨a, c, rfl, hc, hs⟩ := hv
 by_cases h1 : xs.length < 12
 ·exact rread5_len a c xs M hc hs hn h1
 by_cases h2 : xs.length < rdS xs
 ·exact rread5_size a c xs M hc hs hn h1 h2
 cases h3 : wDu (rdX xs) with
 | false => exact rread5_ok a c xs M hc hs hn h1 h2 h3
 | true => exact rread5_bad a c xs M hc hs hn h1 h2 h3
def fineIt (x : It) : Prop := (0 ≤ x.key.kind ∧ x.key.kind < 256) ∧ (0 ≤ x.key.id ∧ x.key.id < 4294967296) ∧ (0 ≤ x.key.off ∧ x.key.off < 4294967296) ∧ (0 ≤ x.ref ∧ x.ref < 65536) ∧ x.val.length ≤ 12
theorem own_three {b : Nat} {v1 v2 v3 : Value} : Own (.slice (some ⟨b, 0, none⟩) 3 3) [(b, .cells [v1, v2, v3].toArray 5 (0, 0))] 5 1 3 [v1, v2, v3] :=
 ⟨rfl, .inr ⟨b, 3, [v1, v2, v3].toArray, rfl, rfl, Nat.le_refl _, by decide, rfl, rfl⟩⟩
theorem itB_le {x : It} (h : fineIt x) : (itB x).length ≤ 24 := by
 have := h.2.2.2.2
 simp only [itB, List.length_append, List.length_cons, List.length_nil, wFe, twoB]; omega
theorem itBs_le : ∀ {xs : List It}, (∀ x ∈ xs, fineIt x) → (xs.flatMap itB).length ≤ 24 * xs.length
 | [], _ => by simp
 | x :: xs, h => by
  have h1 := itB_le (h x (by simp))
  have h2 := itBs_le (xs := xs) (fun y hy => h y (by simp [hy]))
  rw [List.flatMap_cons, List.length_append, List.length_cons]; omega
set_option maxHeartbeats 2000000 in
theorem wKc (lv : Int) (xs : List It) (a : Option Addr) (c : Nat) (ps : List (It × Value)) (M : Mem) (hs : SM M a (ps.flatMap wAs)) (hp : ps.map (·.1) = xs) (hb : ∀ p ∈ ps, BS M p.2 p.1.val) (hn : xs.length ≤ 6) (hf : ∀ x ∈ xs, fineIt x) :
  SpecL Tryz.prog 98 #[.agg #[.int .i64 lv, .slice a xs.length c]] M [] fun u M' L' => Own u L' 5 1 (wDr lv xs).length (wAj (wDr lv xs)) := by
 refine wAf (vs := [_]) 29 _ Tryz.func98 rfl Tryz.ntmps98 rfl rfl ?_; intro W
 refine wAb (wAa (wAy rfl rfl (wCm (cs := [_, _]) rfl rfl rfl rfl) ?_)); rintro _ _ _ ⟨b1, rfl, rfl, rfl⟩
 refine jp rfl (wAc (jT (wAb (wAa (sFL rfl rfl ?_)))))
 refine wAi rfl rfl (qEq (wDw rfl rfl rfl) (v' := .int .u8 ((bU lv).toNat : Int)) (by rw [wKb])) ?_
 refine sFL rfl rfl ?_
 refine wAi rfl rfl (wBj rfl rfl rfl) ?_
 refine wAi rfl rfl (qEq (wDw rfl rfl rfl) (v' := .int .u8 ((bU (xs.length : Int)).toNat : Int)) (by rw [wKb])) ?_
 refine wAy rfl rfl (wAn (cs := [_, _, _]) rfl rfl rfl (by rfl) (by rfl) (by rfl)) ?_; rintro _ _ _ ⟨b12, rfl, rfl, rfl⟩
 refine jp rfl (wAc (jT (wAb (wAb (wAa (jp rfl (wAc (jT (wAh ?_)))))))))
 refine wAv (α := Nat × Mem × Value × Lc) (fun z => [(1, .pointer (some ⟨b1, 0, none⟩)), (3, z.2.2.1), (4, .int .i64 z.1)]) (fun z => z.2.1) (fun z => z.2.2.2 ++ [(b1, .cells [Value.int .i64 lv, .slice a xs.length c].toArray 53 (0, 0))]) (fun z => z.1 ≤ xs.length ∧ MLe M z.2.1 ∧ Own z.2.2.1 z.2.2.2 5 1 ([78, bU lv, bU (xs.length : Int)] ++ (xs.take z.1).flatMap itB).length (wAj ([78, bU lv, bU (xs.length : Int)] ++ (xs.take z.1).flatMap itB))) (fun z => xs.length - z.1)
  (0, M, .slice (some ⟨b12, 0, none⟩) 3 3, [(b12, .cells [Value.int .u8 78, .int .u8 ((bU lv).toNat : Int), .int .u8 ((bU (xs.length : Int)).toNat : Int)].toArray 5 (0, 0))]) (.cons (t := 1) rfl (.cons (t := 3) rfl (.cons (t := 4) rfl .nil))) ⟨Nat.zero_le _, MLe.refl _, by dsimp only; exact own_three⟩ (fun _ h => h) ?_
 rintro ⟨k, Mk, v, R⟩ ⟨hk, hMk, hO⟩
 try dsimp only at hk hMk hO ⊢
 refine wAb (wAb (wAa (jp rfl (sFL rfl rfl ?_))))
 refine wAi rfl rfl (wBj rfl rfl rfl) ?_
 refine js rfl (fun h17 => ?_) (fun h17 => ?_)
 ·refine wAc (jT (wAg rfl (wAd (jT (wAb (wAh (wAa (jp rfl (sFL rfl rfl ?_)))))))))
  refine jp rfl ?_
  have hk1 : k < xs.length := by omega
  obtain ⟨sb, so, e0, hx⟩ := hs.open (by intro e; have := congrArg List.length e; rw [wBi wAs 5 wAq, List.length_nil] at this; have h2 := congrArg List.length hp; rw [List.length_map] at h2; omega)
  subst e0
  obtain ⟨va, vc, hcl, hvc, hvs⟩ := wBt hx hp hb hk1
  refine wAi rfl rfl (wBe rfl rfl rfl rfl (by omega)) ?_
  refine wAi rfl rfl (wGx (cs := itc xs[k] va vc) rfl rfl rfl rfl rfl (fun i v hv => ((hcl i v hv).mono hMk).cj _)) ?_
  have hfk := hf xs[k] (List.getElem_mem hk1)
  refine wAy rfl rfl (wAu rfl rfl rfl rfl rfl (by kernel_rfl) (rbytes5_spec xs[k] va vc Mk (hvs.mono hMk) hfk.1 hfk.2.1 hfk.2.2.1 hfk.2.2.2.1 (by have := hfk.2.2.2.2; omega))) ?_; rintro _ M2 _ ⟨hM2, R26, rfl, o26⟩
  refine wLp o26 (by simp) ?_
  intro M3 a3 c3 hM3 e3 hc3 hs3
  subst e3
  have hfl := itBs_le (xs := xs.take k) (fun x hx => hf x (List.mem_of_mem_take hx))
  rw [List.length_take] at hfl
  have hil := itB_le hfk
  refine wAy rfl rfl (wCg (R := R) rfl rfl rfl rfl hO (by rw [wAm, Nat.mul_one]) hs3 rfl (wBv _) (by simp only [List.length_append, List.length_cons, List.length_nil]; omega) (by omega)) ?_; rintro v2 _ _ ⟨rfl, R3, rfl, o27⟩
  refine jp rfl (wAc (jB (jT (wAa (jp rfl (ja rfl (by omega) ?_))))))
  refine jp rfl (wAc ?_)
  have hpre : ([78, bU lv, bU (xs.length : Int)] ++ (xs.take (k + 1)).flatMap itB) = ([78, bU lv, bU (xs.length : Int)] ++ (xs.take k).flatMap itB) ++ itB xs[k] := by rw [flat_step hk1, List.append_assoc]
  refine wAp (k + 1, M3, v2, R3) (.cons (t := 1) rfl (.cons (t := 3) rfl (.cons (t := 4) rfl .nil))) ⟨by show k + 1 ≤ _; omega, (hMk.trans hM2).trans hM3, ?_⟩ (by show xs.length - (k + 1) < xs.length - k; omega) (fun _ h => h)
  dsimp only; rw [hpre]
  exact o27.to (by simp only [List.length_append]) (by unfold wAj; simp only [List.map_append])
 refine wAc (jT (wAk rfl (wAw (jTx (jTx (jBx (jT (wAb (wAa (jp rfl (jp rfl (wAc (jT (wAe (wAr (L' := R) (List.sublist_append_left _ _) ?_)))))))))))))))
 refine jr1 rfl rfl ?_
 obtain rfl : k = xs.length := by omega
 rw [List.take_length] at hO
 exact hO
def sameB (b w : List By) : Bool := decide (w.length ≤ b.length ∧ b = w ++ List.replicate (b.length - w.length) 0)
theorem same_get {b w : List By} (h : w.length ≤ b.length) : b = w ++ List.replicate (b.length - w.length) 0 ↔ ∀ i (hi : i < b.length), b[i] = w.getD i 0 := by
 constructor
 ·intro e i hi
  have e2 : b[i]? = some (w.getD i 0) := by
   rw [e]
   by_cases hw : i < w.length
   ·rw [List.getElem?_append_left hw]; simp [List.getD, hw]
   rw [List.getElem?_append_right (by omega), List.getElem?_replicate, if_pos (by omega)]; simp [List.getD, List.getElem?_eq_none (by omega : w.length ≤ i)]
  rw [List.getElem?_eq_getElem hi] at e2; exact Option.some.inj e2
 intro hh
 refine List.ext_getElem (by simp; omega) fun i h1 h2 => ?_
 rw [hh i h1]
 by_cases hw : i < w.length
 ·rw [List.getElem_append_left hw]; simp [List.getD, hw]
 rw [List.getElem_append_right (by omega)]; simp [List.getD, List.getElem?_eq_none (by omega : w.length ≤ i)]
theorem same_no {b w : List By} {i : Nat} (hi : i < b.length) (h : b[i] ≠ w.getD i 0) : sameB b w = false := decide_eq_false fun ⟨h1, h2⟩ => h ((same_get h1).1 h2 i hi)
theorem u8_ne {a b : By} (h : ¬ (a.toNat : Int) = (b.toNat : Int)) : a ≠ b := fun e => h (by rw [e])
theorem u8_is {a b : By} (h : (a.toNat : Int) = (b.toNat : Int)) : a = b := UInt8.toNat_inj.1 (by omega)
set_option maxHeartbeats 2000000 in
theorem rsame6_spec (ba wa : Option Addr) (bc wc : Nat) (b w : List By) (M : Mem) (h1 : SM M ba (wAj b)) (h2 : SM M wa (wAj w)) (hn : b.length ≤ 100000) (hn2 : w.length ≤ 100000) :
  SpecL Tryz.prog 97 #[.slice ba b.length bc, .slice wa w.length wc] M [] fun u _ _ => u = .bool (sameB b w) := by
 refine wAf (vs := [_, _]) 45 _ Tryz.func97 rfl Tryz.ntmps97 rfl rfl ?_; intro W
 refine wAb (wAa (jp rfl (wAc (jT (wAb (wAb (wAa (jp rfl (wAc (jT (wAh ?_)))))))))))
 refine wAv (α := Nat) (fun k => [(0, .slice ba b.length bc), (1, .slice wa w.length wc), (5, .int .i64 k)]) (fun _ => M) (fun _ => []) (fun k => k ≤ b.length ∧ ∀ i (hi : i < b.length), i < k → b[i] = w.getD i 0) (fun k => b.length - k)
  0 (.cons (t := 0) rfl (.cons (t := 1) rfl (.cons (t := 5) rfl .nil))) ⟨Nat.zero_le _, fun i _ h => absurd h (Nat.not_lt_zero i)⟩ (fun _ h => h) ?_
 rintro k ⟨hk, hall⟩
 try dsimp only at hk hall ⊢
 refine wAb (wAb (wAa (jp rfl (jp rfl (wAi rfl rfl (wBj rfl rfl rfl) ?_)))))
 refine js rfl (fun h9 => ?_) (fun h9 => ?_)
 ·refine wAc (jT (wAg rfl (wAd (jT (wAb (wAh (wAb (wBp [(0, true), (1, true), (2, true), (3, true), (4, true), (5, true), (6, true), (7, true), (8, true), (9, true), (10, true), (11, true), (12, true), (13, true), (14, true), (15, true), (16, true), (17, true), (18, true), (19, true), (20, true), (21, true), (22, true), (23, true), (24, true), (25, true), (26, true), (27, true)] [] (by kernel_rfl) (by kernel_rfl) (by kernel_rfl) rfl (by simp) ?_))))))))
  iterate 2 refine dp rfl rfl ?_
  refine wBq rfl rfl rfl (wBj rfl rfl rfl) ?_
  refine ds rfl rfl (fun h15 => ?_) (fun h15 => ?_)
  ·iterate 3 refine dp rfl rfl ?_
   have hkb : k < b.length := by omega
   have hkw : k < w.length := by omega
   have hgd : w.getD k 0 = w[k] := by simp [List.getD, hkw]
   obtain ⟨pb, po, pe, px⟩ := wCw h1 hkb
   obtain ⟨qb, qo, qe, qx⟩ := wCw h2 hkw
   subst pe; subst qe
   refine wBq rfl rfl rfl (wBe rfl rfl rfl rfl (by omega)) ?_
   refine wBq rfl rfl rfl (qLd rfl rfl rfl rfl (px.cj _)) ?_
   iterate 2 refine dp rfl rfl ?_
   refine wBq rfl rfl rfl (wBe rfl rfl rfl rfl (by omega)) ?_
   refine wBq rfl rfl rfl (qLd rfl rfl rfl rfl (qx.cj _)) ?_
   refine ds rfl rfl (fun h25 => ?_) (fun h25 => ?_)
   ·iterate 14 refine dp rfl rfl ?_
    refine wBd (jPn (jT (wAg rfl (wAb (wAa (jp rfl (wAc (jT (wAe (jBr (jTr (jTr (jBr (jTr (jr1 rfl rfl ?_)))))))))))))))
    rw [same_no hkb (by rw [hgd]; exact u8_ne h25)]
   iterate 4 refine dp rfl rfl ?_
   refine wBq rfl rfl rfl (wBj rfl rfl rfl) ?_
   refine df rfl rfl (decide_eq_false (by omega)) ?_
   iterate 8 refine dp rfl rfl ?_
   refine wBd (jPn (jT (wAk rfl (wAd (jB (jT (wAa (jp rfl (ja rfl (by omega) ?_)))))))))
   refine jp rfl (wAc ?_)
   have hkk : b[k] = w.getD k 0 := by rw [hgd]; exact u8_is (by omega)
   refine wAp (k + 1) (.cons (t := 0) rfl (.cons (t := 1) rfl (.cons (t := 5) rfl .nil))) ⟨by omega, fun i hi hlt => if h : i < k then hall i hi h else by obtain rfl : i = k := (by omega); exact hkk⟩ (by omega) (fun _ h => h)
  iterate 14 refine dp rfl rfl ?_
  refine wBq rfl rfl rfl (wBj rfl rfl rfl) ?_
  refine dt rfl rfl (decide_eq_true (by omega)) ?_
  iterate 3 refine dp rfl rfl ?_
  have hkb : k < b.length := by omega
  have hgd : w.getD k 0 = 0 := by simp [List.getD, List.getElem?_eq_none (by omega : w.length ≤ k)]
  obtain ⟨pb, po, pe, px⟩ := wCw h1 hkb
  subst pe
  refine wBq rfl rfl rfl (wBe rfl rfl rfl rfl (by omega)) ?_
  refine wBq rfl rfl rfl (qLd rfl rfl rfl rfl (px.cj _)) ?_
  refine ds rfl rfl (fun h37 => ?_) (fun h37 => ?_)
  ·iterate 2 refine dp rfl rfl ?_
   refine wBd (jPn (jT (wAg rfl (wAb (wAa (jp rfl (wAc (jT (wAe (jBr (jTr (jTr (jBr (jTr (jr1 rfl rfl ?_)))))))))))))))
   rw [same_no hkb (by rw [hgd]; intro e; exact h37 (by rw [e]; rfl))]
  iterate 2 refine dp rfl rfl ?_
  refine wBd (jPn (jT (wAk rfl (wAd (jB (jT (wAa (jp rfl (ja rfl (by omega) ?_)))))))))
  refine jp rfl (wAc ?_)
  have hkk : b[k] = w.getD k 0 := by rw [hgd]; exact UInt8.toNat_inj.1 (by show _ = 0; omega)
  refine wAp (k + 1) (.cons (t := 0) rfl (.cons (t := 1) rfl (.cons (t := 5) rfl .nil))) ⟨by omega, fun i hi hlt => if h : i < k then hall i hi h else by obtain rfl : i = k := (by omega); exact hkk⟩ (by omega) (fun _ h => h)
 refine wAc (jT (wAk rfl (wAw (jTx (jTx (jBx (jT (wAb (wAa (jp rfl (wAi rfl rfl (wBj rfl rfl rfl) ?_)))))))))))
 refine jp rfl (wAi rfl rfl (wBj rfl rfl rfl) ?_)
 refine jp rfl (jp rfl (wAc (jT (wAe (jr1 rfl rfl ?_)))))
 obtain rfl : k = b.length := by omega
 unfold sameB
 exact congrArg Value.bool (decide_eq_decide.2 ⟨fun h => ⟨by omega, (same_get (by omega)).2 fun i hi => hall i hi hi⟩, fun h => by have := h.1; omega⟩)
end Go.Proofs.YtkcpllhggofloaaGreat
