/- Walks: the document's nodes: whether they may be, and read. -/
import Derived.Test.YtkcpllhggofloaaGreatZRc
namespace Go.Proofs.YtkcpllhggofloaaGreat
set_option linter.unusedVariables false
set_option linter.unusedSectionVars false
set_option linter.unusedSimpArgs false
open Go.RowKit
theorem wJt {lv : Int} {xs : List It} (h : ¬ (0 ≤ lv ∧ lv < 6 ∧ xs.length ≤ 5 ∧ (0 < lv → xs.length ≠ 0))) : wEv lv xs = false := by unfold wEv; rw [decide_eq_false h]; rfl
theorem wJf {ab : Bool} {xs : List It} {k : Nat} {h : k < xs.length} (ho : okAt ab xs k h = true) : wDu xs[k] = false ∧ (∀ q, wGa xs k = some q → wBf q xs[k].key = true) ∧ (ab = true → xs[k].ref ≠ 0 ∧ xs[k].val.length = 0) := by
 unfold okAt at ho
 rw [Bool.and_eq_true, Bool.and_eq_true] at ho
 obtain ⟨⟨h1, h2⟩, h3⟩ := ho
 refine ⟨by simpa using h1, fun q hq => by rw [hq] at h2; exact h2, fun ha => ?_⟩
 rw [ha] at h3; simpa using h3
theorem okAt_mk {ab : Bool} {xs : List It} {k : Nat} {h : k < xs.length} (h1 : wDu xs[k] = false) (h2 : ∀ q, wGa xs k = some q → wBf q xs[k].key = true) (h3 : ab = true → xs[k].ref ≠ 0 ∧ xs[k].val.length = 0) : okAt ab xs k h = true := by
 unfold okAt
 rw [Bool.and_eq_true, Bool.and_eq_true]
 refine ⟨⟨by rw [h1]; rfl, ?_⟩, ?_⟩
 ·cases hq : wGa xs k with
  | none => rfl
  | some q => exact h2 q hq
 cases ab with
 | false => rfl
 | true => have := h3 rfl; simp [this.1, this.2]
theorem nd_no {lv : Int} {ab : Bool} {xs : List It} {k : Nat} (hab : decide (0 < lv) = ab) (hk : k < xs.length) (hI : wCj ab none xs = wCj ab (wGa xs k) (xs.drop k)) (ho : okAt ab xs k hk = true → False) : false = wEv lv xs := by
 have h1 : okAt ab xs k hk = false := by cases h : okAt ab xs k hk with | false => rfl | true => exact (ho h).elim
 have h2 := wLk hab hk hI h1
 unfold wEp at h2
 cases h : wEv lv xs with
 | false => rfl
 | true => rw [h] at h2; simp at h2
theorem prevK_some {xs : List It} {k : Nat} (h : 0 < k) (hk : k - 1 < xs.length) : wGa xs k = some xs[k - 1].key := by
 obtain ⟨j, rfl⟩ : ∃ j, k = j + 1 := ⟨k - 1, by omega⟩
 exact prevK_succ hk
theorem wDd {x : It} {va : Option Addr} {vc : Nat} {i : Nat} {v : Value} (h : (wBb x.key)[i]? = some v) : (itc x va vc)[i]? = some v := by
 have hi : i < 3 := (List.getElem?_eq_some_iff.1 h).1
 rcases (show i = 0 ∨ i = 1 ∨ i = 2 by omega) with rfl | rfl | rfl <;> exact h
theorem rmay6_head (lv : Int) (xs : List It) (a : Option Addr) (c : Nat) (ps : List (It × Value)) (M : Mem) (hs : SM M a (ps.flatMap wAs)) (hp : ps.map (·.1) = xs) (hb : ∀ p ∈ ps, BS M p.2 p.1.val) (h : ¬ (0 ≤ lv ∧ lv < 6 ∧ xs.length ≤ 5 ∧ (0 < lv → xs.length ≠ 0))) (hn : xs.length ≤ 1000) :
  SpecL Tryz.prog 96 #[.agg #[.int .i64 lv, .slice a xs.length c]] M [] fun u _ _ => u = .bool (wEv lv xs) := by
 refine wAf (vs := [_]) 78 _ Tryz.func96 rfl Tryz.ntmps96 rfl rfl ?_; intro W
 refine wAb (wAa (wAy rfl rfl (wCm (cs := [_, _]) rfl rfl rfl rfl) ?_)); rintro _ _ _ ⟨b1, rfl, rfl, rfl⟩
 refine jp rfl (wAc (jT (wAb (wAb (wAa (sFL rfl rfl ?_))))))
 refine js rfl (fun h7 => ?_) (fun h7 => ?_)
 ·iterate 22 refine jp rfl ?_
  refine wAc (jT (wAg rfl (wAb (wAa (jp rfl (wAc (jT (wAe (jTr (jr1 rfl rfl ?_))))))))))
  rw [wJt h]
 refine jp rfl (sFL rfl rfl ?_)
 refine js rfl (fun h11 => ?_) (fun h11 => ?_)
 ·iterate 18 refine jp rfl ?_
  refine wAc (jT (wAg rfl (wAb (wAa (jp rfl (wAc (jT (wAe (jTr (jr1 rfl rfl ?_))))))))))
  rw [wJt h]
 refine jp rfl (jp rfl (sFL rfl rfl ?_))
 refine wAi rfl rfl (wBj rfl rfl rfl) ?_
 refine js rfl (fun h17 => ?_) (fun h17 => ?_)
 ·iterate 12 refine jp rfl ?_
  refine wAc (jT (wAg rfl (wAb (wAa (jp rfl (wAc (jT (wAe (jTr (jr1 rfl rfl ?_))))))))))
  rw [wJt h]
 refine jp rfl (jp rfl (sFL rfl rfl ?_))
 refine js rfl (fun h22 => ?_) (fun h22 => ?_)
 ·refine jp rfl (sFL rfl rfl ?_)
  refine wAi rfl rfl (wBj rfl rfl rfl) ?_
  refine js rfl (fun h27 => ?_) (fun h27 => ?_)
  ·refine jp rfl (jp rfl (wAc (jT (wAg rfl (wAb (wAa (jp rfl (wAc (jT (wAe (jTr (jr1 rfl rfl ?_))))))))))))
   rw [wJt h]
  omega
 omega
set_option maxHeartbeats 4000000 in
theorem rmay6_leaf (lv : Int) (xs : List It) (a : Option Addr) (c : Nat) (ps : List (It × Value)) (M : Mem) (hs : SM M a (ps.flatMap wAs)) (hp : ps.map (·.1) = xs) (hb : ∀ p ∈ ps, BS M p.2 p.1.val) (h : 0 ≤ lv ∧ lv < 6 ∧ xs.length ≤ 5 ∧ (0 < lv → xs.length ≠ 0)) (hlv : lv = 0) :
  SpecL Tryz.prog 96 #[.agg #[.int .i64 lv, .slice a xs.length c]] M [] fun u _ _ => u = .bool (wEv lv xs) := by
 refine wAf (vs := [_]) 78 _ Tryz.func96 rfl Tryz.ntmps96 rfl rfl ?_; intro W
 refine wAb (wAa (wAy rfl rfl (wCm (cs := [_, _]) rfl rfl rfl rfl) ?_)); rintro _ _ _ ⟨b1, rfl, rfl, rfl⟩
 refine jp rfl (wAc (jT (wAb (wAb (wAa (sFL rfl rfl ?_))))))
 refine jf rfl (decide_eq_false (by omega)) ?_
 refine jp rfl (sFL rfl rfl ?_)
 refine jf rfl (decide_eq_false (by omega)) ?_
 refine jp rfl (jp rfl (sFL rfl rfl ?_))
 refine wAi rfl rfl (wBj rfl rfl rfl) ?_
 refine jf rfl (decide_eq_false (by omega)) ?_
 refine jp rfl (jp rfl (sFL rfl rfl ?_))
 refine jf rfl (decide_eq_false (by omega)) ?_
 iterate 7 refine jp rfl ?_
 refine wAc (jT (wAk rfl (wAd (jT (wAb (wAb (wAa (jp rfl (wAc (jT (wAh ?_)))))))))))
 refine wAv (α := Nat) (fun k => [(1, .pointer (some ⟨b1, 0, none⟩)), (3, .int .i64 k)]) (fun _ => M) (fun _ => [(b1, .cells [Value.int .i64 lv, .slice a xs.length c].toArray 53 (0, 0))]) (fun k => k ≤ xs.length ∧ wCj false none xs = wCj false (wGa xs k) (xs.drop k)) (fun k => xs.length - k)
  0 (.cons (t := 1) rfl (.cons (t := 3) rfl .nil)) ⟨Nat.zero_le _, rfl⟩ (fun _ h => h) ?_
 rintro k ⟨hk, hI⟩
 try dsimp only at hk hI ⊢
 refine wAb (wAb (wAa (jp rfl (sFL rfl rfl ?_))))
 refine wAi rfl rfl (wBj rfl rfl rfl) ?_
 refine js rfl (fun h34 => ?_) (fun h34 => ?_)
 ·refine wAc (jT (wAg rfl (wAd (jT (wAb (wAh (wAb (wAa (sFL rfl rfl ?_)))))))))
  refine jp rfl ?_
  have hk1 : k < xs.length := by omega
  obtain ⟨sb, so, e0, hx⟩ := hs.open (by intro e; have := congrArg List.length e; rw [wBi wAs 5 wAq, List.length_nil] at this; have h2 := congrArg List.length hp; rw [List.length_map] at h2; omega)
  subst e0
  obtain ⟨va, vc, hcl, hvc, hvs⟩ := wBt hx hp hb hk1
  refine wAi rfl rfl (wBe rfl rfl rfl rfl (by omega)) ?_
  refine wAi rfl rfl (wGx (cs := itc xs[k] va vc) rfl rfl rfl rfl rfl (fun i v hv => (hcl i v hv).cj _)) ?_
  refine sAl rfl fun b4 => ?_
  refine sSt rfl ?_
  refine wAc (jT (wAb (wBp [(0, true), (1, true), (2, true), (3, true), (4, true), (5, true), (6, true), (7, true), (8, true), (9, true), (10, true), (11, true), (12, true), (13, true), (14, true), (15, true), (16, true), (17, true), (18, true), (19, true), (20, true), (21, true), (22, true), (23, true), (24, true), (25, true), (26, true), (27, true), (28, true), (29, true), (30, true), (31, true), (32, true), (33, true), (34, true), (35, true)] _ (by kernel_rfl) (by kernel_rfl) (by kernel_rfl) rfl (fun _ h => h) ?_)))
  refine dLL rfl rfl ?_
  refine wKi rfl rfl rfl (wBr rfl rfl rfl rfl rfl (by kernel_rfl) (wJr xs[k] va vc M)) (fun h43 => ?_) (fun h43 => ?_)
  ·iterate 3 refine dp rfl rfl ?_
   refine ds rfl rfl (fun h47 => ?_) (fun h47 => ?_)
   ·refine dp rfl rfl ?_
    refine dFa rfl rfl ?_
    refine dLd rfl rfl ?_
    refine dp rfl rfl ?_
    refine da rfl rfl (by omega) ?_
    have hk0 : k - 1 < xs.length := by omega
    obtain ⟨va0, vc0, hcl0, hvc0, hvs0⟩ := wBt hx hp hb hk0
    have hpk := prevK_some (xs := xs) (k := k) (by omega) hk0
    refine wBq rfl rfl rfl (wBe rfl rfl rfl rfl (by omega)) ?_
    refine dFa rfl rfl ?_
    refine wBq rfl rfl rfl (wGx (cs := wBb xs[k - 1].key) rfl rfl rfl rfl rfl (fun i v hv => by rw [show ((k : Int) - 1).toNat = k - 1 by omega]; exact (hcl0 i v (wDd hv)).cj _)) ?_
    refine dFa rfl rfl ?_
    refine dLL rfl rfl ?_
    refine wKi rfl rfl rfl (wBr rfl rfl rfl rfl rfl (by kernel_rfl) (wHe xs[k - 1].key xs[k].key M)) (fun h58 => ?_) (fun h58 => ?_)
    ·iterate 4 refine dp rfl rfl ?_
     refine dFa rfl rfl ?_
     refine dLd rfl rfl ?_
     refine df rfl rfl (decide_eq_false (by omega)) ?_
     iterate 12 refine dp rfl rfl ?_
     refine wBd (jPn (jT (wAk rfl (wAd (jB (jT (wAa (jp rfl (ja rfl (by omega) ?_)))))))))
     refine jp rfl (wAc ?_)
     refine wAp (k + 1) (.cons (t := 1) rfl (.cons (t := 3) rfl .nil)) ⟨by omega, nd_on hk1 hI (okAt_mk (by simpa using h43) (fun q hq => by rw [hpk] at hq; cases hq; exact h58) (fun h => by cases h))⟩ (by omega) (fun _ h => h.fewer (by simp))
    iterate 19 refine dp rfl rfl ?_
    refine wBd (jPn (jT (wAg rfl (wAb (wAa (jp rfl (wAc (jT (wAe (jBr (jTr (jTr (jBr (jTr (wAr (L' := []) (List.nil_sublist _) ?_)))))))))))))))
    refine jr1 rfl rfl ?_
    exact congrArg Value.bool (nd_no (ab := false) (decide_eq_false (by omega)) hk1 hI fun ho => by have := (wJf ho).2.1 _ hpk; rw [this] at h58; cases h58)
   iterate 15 refine dp rfl rfl ?_
   refine dFa rfl rfl ?_
   refine dLd rfl rfl ?_
   refine df rfl rfl (decide_eq_false (by omega)) ?_
   iterate 12 refine dp rfl rfl ?_
   refine wBd (jPn (jT (wAk rfl (wAd (jB (jT (wAa (jp rfl (ja rfl (by omega) ?_)))))))))
   refine jp rfl (wAc ?_)
   refine wAp (k + 1) (.cons (t := 1) rfl (.cons (t := 3) rfl .nil)) ⟨by omega, nd_on hk1 hI (okAt_mk (by simpa using h43) (fun q hq => by rw [show k = 0 by omega] at hq; cases hq) (fun h => by cases h))⟩ (by omega) (fun _ h => h.fewer (by simp))
  iterate 34 refine dp rfl rfl ?_
  refine wBd (jPn (jT (wAg rfl (wAb (wAa (jp rfl (wAc (jT (wAe (jBr (jTr (jTr (jBr (jTr (wAr (L' := []) (List.nil_sublist _) ?_)))))))))))))))
  refine jr1 rfl rfl ?_
  exact congrArg Value.bool (nd_no (ab := false) (decide_eq_false (by omega)) hk1 hI fun ho => by have := (wJf ho).1; rw [this] at h43; simp at h43)
 refine wAc (jT (wAk rfl (wAw (jTx (jTx (jBx (jT (wAb (wAa (jp rfl (wAc (jT (wAe (wAr (L' := []) (List.nil_sublist _) ?_))))))))))))))
 refine jr1 rfl rfl ?_
 have e2 := nd_end (ab := false) h (decide_eq_false (by omega)) (by omega : k = xs.length) hI
 have e3 : wEv lv xs = true := by unfold wEp at e2; cases hh : wEv lv xs with | true => rfl | false => rw [hh] at e2; simp at e2
 rw [e3]
set_option maxHeartbeats 4000000 in
theorem rmay6_node (lv : Int) (xs : List It) (a : Option Addr) (c : Nat) (ps : List (It × Value)) (M : Mem) (hs : SM M a (ps.flatMap wAs)) (hp : ps.map (·.1) = xs) (hb : ∀ p ∈ ps, BS M p.2 p.1.val) (h : 0 ≤ lv ∧ lv < 6 ∧ xs.length ≤ 5 ∧ (0 < lv → xs.length ≠ 0)) (hlv : 0 < lv) :
  SpecL Tryz.prog 96 #[.agg #[.int .i64 lv, .slice a xs.length c]] M [] fun u _ _ => u = .bool (wEv lv xs) := by
 refine wAf (vs := [_]) 78 _ Tryz.func96 rfl Tryz.ntmps96 rfl rfl ?_; intro W
 refine wAb (wAa (wAy rfl rfl (wCm (cs := [_, _]) rfl rfl rfl rfl) ?_)); rintro _ _ _ ⟨b1, rfl, rfl, rfl⟩
 refine jp rfl (wAc (jT (wAb (wAb (wAa (sFL rfl rfl ?_))))))
 refine jf rfl (decide_eq_false (by omega)) ?_
 refine jp rfl (sFL rfl rfl ?_)
 refine jf rfl (decide_eq_false (by omega)) ?_
 refine jp rfl (jp rfl (sFL rfl rfl ?_))
 refine wAi rfl rfl (wBj rfl rfl rfl) ?_
 refine jf rfl (decide_eq_false (by omega)) ?_
 refine jp rfl (jp rfl (sFL rfl rfl ?_))
 refine jt rfl (decide_eq_true (by omega)) ?_
 refine jp rfl (sFL rfl rfl ?_)
 refine wAi rfl rfl (wBj rfl rfl rfl) ?_
 refine jf rfl (decide_eq_false (by omega)) ?_
 refine jp rfl (jp rfl (wAc (jT (wAk rfl (wAd (jT (wAb (wAb (wAa (jp rfl (wAc (jT (wAh ?_)))))))))))))
 refine wAv (α := Nat) (fun k => [(1, .pointer (some ⟨b1, 0, none⟩)), (3, .int .i64 k)]) (fun _ => M) (fun _ => [(b1, .cells [Value.int .i64 lv, .slice a xs.length c].toArray 53 (0, 0))]) (fun k => k ≤ xs.length ∧ wCj true none xs = wCj true (wGa xs k) (xs.drop k)) (fun k => xs.length - k)
  0 (.cons (t := 1) rfl (.cons (t := 3) rfl .nil)) ⟨Nat.zero_le _, rfl⟩ (fun _ h => h) ?_
 rintro k ⟨hk, hI⟩
 try dsimp only at hk hI ⊢
 refine wAb (wAb (wAa (jp rfl (sFL rfl rfl ?_))))
 refine wAi rfl rfl (wBj rfl rfl rfl) ?_
 refine js rfl (fun h34 => ?_) (fun h34 => ?_)
 ·refine wAc (jT (wAg rfl (wAd (jT (wAb (wAh (wAb (wAa (sFL rfl rfl ?_)))))))))
  refine jp rfl ?_
  have hk1 : k < xs.length := by omega
  obtain ⟨sb, so, e0, hx⟩ := hs.open (by intro e; have := congrArg List.length e; rw [wBi wAs 5 wAq, List.length_nil] at this; have h2 := congrArg List.length hp; rw [List.length_map] at h2; omega)
  subst e0
  obtain ⟨va, vc, hcl, hvc, hvs⟩ := wBt hx hp hb hk1
  refine wAi rfl rfl (wBe rfl rfl rfl rfl (by omega)) ?_
  refine wAi rfl rfl (wGx (cs := itc xs[k] va vc) rfl rfl rfl rfl rfl (fun i v hv => (hcl i v hv).cj _)) ?_
  refine sAl rfl fun b4 => ?_
  refine sSt rfl ?_
  refine wAc (jT (wAb (wBp [(0, true), (1, true), (2, true), (3, true), (4, true), (5, true), (6, true), (7, true), (8, true), (9, true), (10, true), (11, true), (12, true), (13, true), (14, true), (15, true), (16, true), (17, true), (18, true), (19, true), (20, true), (21, true), (22, true), (23, true), (24, true), (25, true), (26, true), (27, true), (28, true), (29, true), (30, true), (31, true), (32, true), (33, true), (34, true), (35, true)] _ (by kernel_rfl) (by kernel_rfl) (by kernel_rfl) rfl (fun _ h => h) ?_)))
  refine dLL rfl rfl ?_
  refine wKi rfl rfl rfl (wBr rfl rfl rfl rfl rfl (by kernel_rfl) (wJr xs[k] va vc M)) (fun h43 => ?_) (fun h43 => ?_)
  ·iterate 3 refine dp rfl rfl ?_
   refine ds rfl rfl (fun h47 => ?_) (fun h47 => ?_)
   ·refine dp rfl rfl ?_
    refine dFa rfl rfl ?_
    refine dLd rfl rfl ?_
    refine dp rfl rfl ?_
    refine da rfl rfl (by omega) ?_
    have hk0 : k - 1 < xs.length := by omega
    obtain ⟨va0, vc0, hcl0, hvc0, hvs0⟩ := wBt hx hp hb hk0
    have hpk := prevK_some (xs := xs) (k := k) (by omega) hk0
    refine wBq rfl rfl rfl (wBe rfl rfl rfl rfl (by omega)) ?_
    refine dFa rfl rfl ?_
    refine wBq rfl rfl rfl (wGx (cs := wBb xs[k - 1].key) rfl rfl rfl rfl rfl (fun i v hv => by rw [show ((k : Int) - 1).toNat = k - 1 by omega]; exact (hcl0 i v (wDd hv)).cj _)) ?_
    refine dFa rfl rfl ?_
    refine dLL rfl rfl ?_
    refine wKi rfl rfl rfl (wBr rfl rfl rfl rfl rfl (by kernel_rfl) (wHe xs[k - 1].key xs[k].key M)) (fun h58 => ?_) (fun h58 => ?_)
    ·iterate 4 refine dp rfl rfl ?_
     refine dFa rfl rfl ?_
     refine dLd rfl rfl ?_
     refine dt rfl rfl (decide_eq_true (by omega)) ?_
     refine dp rfl rfl ?_
     refine dFa rfl rfl ?_
     refine dLd rfl rfl ?_
     refine ds rfl rfl (fun h69 => ?_) (fun h69 => ?_)
     ·iterate 8 refine dp rfl rfl ?_
      refine wBd (jPn (jT (wAg rfl (wAb (wAa (jp rfl (wAc (jT (wAe (jBr (jTr (jTr (jBr (jTr (wAr (L' := []) (List.nil_sublist _) ?_)))))))))))))))
      refine jr1 rfl rfl ?_
      exact congrArg Value.bool (nd_no (ab := true) (decide_eq_true (by omega)) hk1 hI fun ho => ((wJf ho).2.2 rfl).1 h69)
     refine dp rfl rfl ?_
     refine dFa rfl rfl ?_
     refine dLd rfl rfl ?_
     refine wBq rfl rfl rfl (wBj rfl rfl rfl) ?_
     refine ds rfl rfl (fun h74 => ?_) (fun h74 => ?_)
     ·iterate 3 refine dp rfl rfl ?_
      refine wBd (jPn (jT (wAg rfl (wAb (wAa (jp rfl (wAc (jT (wAe (jBr (jTr (jTr (jBr (jTr (wAr (L' := []) (List.nil_sublist _) ?_)))))))))))))))
      refine jr1 rfl rfl ?_
      exact congrArg Value.bool (nd_no (ab := true) (decide_eq_true (by omega)) hk1 hI fun ho => by have := ((wJf ho).2.2 rfl).2; omega)
     iterate 3 refine dp rfl rfl ?_
     refine wBd (jPn (jT (wAk rfl (wAd (jB (jT (wAa (jp rfl (ja rfl (by omega) ?_)))))))))
     refine jp rfl (wAc ?_)
     refine wAp (k + 1) (.cons (t := 1) rfl (.cons (t := 3) rfl .nil)) ⟨by omega, nd_on hk1 hI (okAt_mk (by simpa using h43) (fun q hq => by rw [hpk] at hq; cases hq; exact h58) (fun _ => ⟨h69, by omega⟩))⟩ (by omega) (fun _ h => h.fewer (by simp))
    iterate 19 refine dp rfl rfl ?_
    refine wBd (jPn (jT (wAg rfl (wAb (wAa (jp rfl (wAc (jT (wAe (jBr (jTr (jTr (jBr (jTr (wAr (L' := []) (List.nil_sublist _) ?_)))))))))))))))
    refine jr1 rfl rfl ?_
    exact congrArg Value.bool (nd_no (ab := true) (decide_eq_true (by omega)) hk1 hI fun ho => by have := (wJf ho).2.1 _ hpk; rw [this] at h58; cases h58)
   iterate 15 refine dp rfl rfl ?_
   refine dFa rfl rfl ?_
   refine dLd rfl rfl ?_
   refine dt rfl rfl (decide_eq_true (by omega)) ?_
   refine dp rfl rfl ?_
   refine dFa rfl rfl ?_
   refine dLd rfl rfl ?_
   refine ds rfl rfl (fun h69 => ?_) (fun h69 => ?_)
   ·iterate 8 refine dp rfl rfl ?_
    refine wBd (jPn (jT (wAg rfl (wAb (wAa (jp rfl (wAc (jT (wAe (jBr (jTr (jTr (jBr (jTr (wAr (L' := []) (List.nil_sublist _) ?_)))))))))))))))
    refine jr1 rfl rfl ?_
    exact congrArg Value.bool (nd_no (ab := true) (decide_eq_true (by omega)) hk1 hI fun ho => ((wJf ho).2.2 rfl).1 h69)
   refine dp rfl rfl ?_
   refine dFa rfl rfl ?_
   refine dLd rfl rfl ?_
   refine wBq rfl rfl rfl (wBj rfl rfl rfl) ?_
   refine ds rfl rfl (fun h74 => ?_) (fun h74 => ?_)
   ·iterate 3 refine dp rfl rfl ?_
    refine wBd (jPn (jT (wAg rfl (wAb (wAa (jp rfl (wAc (jT (wAe (jBr (jTr (jTr (jBr (jTr (wAr (L' := []) (List.nil_sublist _) ?_)))))))))))))))
    refine jr1 rfl rfl ?_
    exact congrArg Value.bool (nd_no (ab := true) (decide_eq_true (by omega)) hk1 hI fun ho => by have := ((wJf ho).2.2 rfl).2; omega)
   iterate 3 refine dp rfl rfl ?_
   refine wBd (jPn (jT (wAk rfl (wAd (jB (jT (wAa (jp rfl (ja rfl (by omega) ?_)))))))))
   refine jp rfl (wAc ?_)
   refine wAp (k + 1) (.cons (t := 1) rfl (.cons (t := 3) rfl .nil)) ⟨by omega, nd_on hk1 hI (okAt_mk (by simpa using h43) (fun q hq => by rw [show k = 0 by omega] at hq; cases hq) (fun _ => ⟨h69, by omega⟩))⟩ (by omega) (fun _ h => h.fewer (by simp))
  iterate 34 refine dp rfl rfl ?_
  refine wBd (jPn (jT (wAg rfl (wAb (wAa (jp rfl (wAc (jT (wAe (jBr (jTr (jTr (jBr (jTr (wAr (L' := []) (List.nil_sublist _) ?_)))))))))))))))
  refine jr1 rfl rfl ?_
  exact congrArg Value.bool (nd_no (ab := true) (decide_eq_true (by omega)) hk1 hI fun ho => by have := (wJf ho).1; rw [this] at h43; simp at h43)
 refine wAc (jT (wAk rfl (wAw (jTx (jTx (jBx (jT (wAb (wAa (jp rfl (wAc (jT (wAe (wAr (L' := []) (List.nil_sublist _) ?_))))))))))))))
 refine jr1 rfl rfl ?_
 have e2 := nd_end (ab := true) h (decide_eq_true (by omega)) (by omega : k = xs.length) hI
 have e3 : wEv lv xs = true := by unfold wEp at e2; cases hh : wEv lv xs with | true => rfl | false => rw [hh] at e2; simp at e2
 rw [e3]
theorem rmay6_spec (lv : Int) (xs : List It) (v : Value) (M : Mem) (hv : NS M v xs) (hn : xs.length ≤ 1000) : SpecL Tryz.prog 96 #[.agg #[.int .i64 lv, v]] M [] fun u _ _ => u = .bool (wEv lv xs) := by
 obtain ⟨a, c, ps, rfl, hc, hs, hp, hb⟩ := hv
 by_cases h : 0 ≤ lv ∧ lv < 6 ∧ xs.length ≤ 5 ∧ (0 < lv → xs.length ≠ 0)
 ·by_cases hlv : lv = 0
  ·exact rmay6_leaf lv xs a c ps M hs hp hb h hlv
  exact rmay6_node lv xs a c ps M hs hp hb h (by omega)
 exact rmay6_head lv xs a c ps M hs hp hb h hn
end Go.Proofs.YtkcpllhggofloaaGreat
