/- Walks: the document's nodes read: what the program reads. -/
import Derived.Test.YtbhkdjheooknfaaGreatZRc
namespace Go.Proofs.YtbhkdjheooknfaaGreat
set_option linter.unusedSimpArgs false
set_option linter.unusedVariables false
set_option linter.unusedSectionVars false
open Go.RowKit
theorem wHs {lv : Int} {xs : List It} (h : ¬ (0 ≤ lv ∧ lv < 6 ∧ xs.length ≤ 5 ∧ (0 < lv → xs.length ≠ 0))) : ndOk lv xs = false := by unfold ndOk; rw [decide_eq_false h]; rfl
theorem wHe {ab : Bool} {xs : List It} {k : Nat} {h : k < xs.length} (ho : okAt ab xs k h = true) : wDq xs[k] = false ∧ (∀ q, wFb xs k = some q → wCt q xs[k].key = true) ∧ (ab = true → xs[k].ref ≠ 0 ∧ xs[k].val.length = 0) := by
 unfold okAt at ho
 rw [Bool.and_eq_true, Bool.and_eq_true] at ho
 obtain ⟨⟨h1, h2⟩, h3⟩ := ho
 refine ⟨by simpa using h1, fun q hq => by rw [hq] at h2; exact h2, fun ha => ?_⟩
 rw [ha] at h3; simpa using h3
theorem okAt_mk {ab : Bool} {xs : List It} {k : Nat} {h : k < xs.length} (h1 : wDq xs[k] = false) (h2 : ∀ q, wFb xs k = some q → wCt q xs[k].key = true) (h3 : ab = true → xs[k].ref ≠ 0 ∧ xs[k].val.length = 0) : okAt ab xs k h = true := by
 unfold okAt
 rw [Bool.and_eq_true, Bool.and_eq_true]
 refine ⟨⟨by rw [h1]; rfl, ?_⟩, ?_⟩
 ·cases hq : wFb xs k with
  | none => rfl
  | some q => exact h2 q hq
 cases ab with
 | false => rfl
 | true => have := h3 rfl; simp [this.1, this.2]
theorem nd_no {lv : Int} {ab : Bool} {xs : List It} {k : Nat} (hab : decide (0 < lv) = ab) (hk : k < xs.length) (hI : wCd ab none xs = wCd ab (wFb xs k) (xs.drop k)) (ho : okAt ab xs k hk = true → False) : false = ndOk lv xs := by
 have h1 : okAt ab xs k hk = false := by cases h : okAt ab xs k hk with | false => rfl | true => exact (ho h).elim
 have h2 := wKa hab hk hI h1
 unfold wFg at h2
 cases h : ndOk lv xs with
 | false => rfl
 | true => rw [h] at h2; simp at h2
theorem prevK_some {xs : List It} {k : Nat} (h : 0 < k) (hk : k - 1 < xs.length) : wFb xs k = some xs[k - 1].key := by
 obtain ⟨j, rfl⟩ : ∃ j, k = j + 1 := ⟨k - 1, by omega⟩
 exact prevK_succ hk
theorem key_of_itc {x : It} {va : Option Addr} {vc : Nat} {i : Nat} {v : Value} (h : (wEw x.key)[i]? = some v) : (itc x va vc)[i]? = some v := by
 have hi : i < 3 := (List.getElem?_eq_some_iff.1 h).1
 rcases (show i = 0 ∨ i = 1 ∨ i = 2 by omega) with rfl | rfl | rfl <;> exact h
theorem rmay6_head (lv : Int) (xs : List It) (a : Option Addr) (c : Nat) (ps : List (It × Value)) (M : Mem) (hs : SM M a (ps.flatMap wCp)) (hp : ps.map (·.1) = xs) (hb : ∀ p ∈ ps, BS M p.2 p.1.val) (h : ¬ (0 ≤ lv ∧ lv < 6 ∧ xs.length ≤ 5 ∧ (0 < lv → xs.length ≠ 0))) (hn : xs.length ≤ 1000) :
  SpecL Tryz.prog 127 #[.agg #[.int .i64 lv, .slice a xs.length c]] M [] fun u _ _ => u = .bool (ndOk lv xs) := by
 refine wAe (vs := [_]) 78 _ Tryz.func127 rfl Tryz.ntmps127 rfl rfl ?_; intro W
 refine wAb (wAa (wAv rfl rfl (wBw (cs := [_, _]) rfl rfl rfl rfl) ?_)); rintro _ _ _ ⟨b1, rfl, rfl, rfl⟩
 refine jp rfl (wAc (jT (wAb (wAb (wAa (sFL rfl rfl ?_))))))
 refine js rfl (fun h7 => ?_) (fun h7 => ?_)
 ·iterate 22 refine jp rfl ?_
  refine wAc (jT (wAg rfl (wAb (wAa (jp rfl (wAc (jT (wAf (jTr (jr1 rfl rfl ?_))))))))))
  rw [wHs h]
 refine jp rfl (sFL rfl rfl ?_)
 refine js rfl (fun h11 => ?_) (fun h11 => ?_)
 ·iterate 18 refine jp rfl ?_
  refine wAc (jT (wAg rfl (wAb (wAa (jp rfl (wAc (jT (wAf (jTr (jr1 rfl rfl ?_))))))))))
  rw [wHs h]
 refine jp rfl (jp rfl (sFL rfl rfl ?_))
 refine wAi rfl rfl (wBe rfl rfl rfl) ?_
 refine js rfl (fun h17 => ?_) (fun h17 => ?_)
 ·iterate 12 refine jp rfl ?_
  refine wAc (jT (wAg rfl (wAb (wAa (jp rfl (wAc (jT (wAf (jTr (jr1 rfl rfl ?_))))))))))
  rw [wHs h]
 refine jp rfl (jp rfl (sFL rfl rfl ?_))
 refine js rfl (fun h22 => ?_) (fun h22 => ?_)
 ·refine jp rfl (sFL rfl rfl ?_)
  refine wAi rfl rfl (wBe rfl rfl rfl) ?_
  refine js rfl (fun h27 => ?_) (fun h27 => ?_)
  ·refine jp rfl (jp rfl (wAc (jT (wAg rfl (wAb (wAa (jp rfl (wAc (jT (wAf (jTr (jr1 rfl rfl ?_))))))))))))
   rw [wHs h]
  omega
 omega
set_option maxHeartbeats 4000000 in
theorem rmay6_leaf (lv : Int) (xs : List It) (a : Option Addr) (c : Nat) (ps : List (It × Value)) (M : Mem) (hs : SM M a (ps.flatMap wCp)) (hp : ps.map (·.1) = xs) (hb : ∀ p ∈ ps, BS M p.2 p.1.val) (h : 0 ≤ lv ∧ lv < 6 ∧ xs.length ≤ 5 ∧ (0 < lv → xs.length ≠ 0)) (hlv : lv = 0) :
  SpecL Tryz.prog 127 #[.agg #[.int .i64 lv, .slice a xs.length c]] M [] fun u _ _ => u = .bool (ndOk lv xs) := by
 refine wAe (vs := [_]) 78 _ Tryz.func127 rfl Tryz.ntmps127 rfl rfl ?_; intro W
 refine wAb (wAa (wAv rfl rfl (wBw (cs := [_, _]) rfl rfl rfl rfl) ?_)); rintro _ _ _ ⟨b1, rfl, rfl, rfl⟩
 refine jp rfl (wAc (jT (wAb (wAb (wAa (sFL rfl rfl ?_))))))
 refine jf rfl (decide_eq_false (by omega)) ?_
 refine jp rfl (sFL rfl rfl ?_)
 refine jf rfl (decide_eq_false (by omega)) ?_
 refine jp rfl (jp rfl (sFL rfl rfl ?_))
 refine wAi rfl rfl (wBe rfl rfl rfl) ?_
 refine jf rfl (decide_eq_false (by omega)) ?_
 refine jp rfl (jp rfl (sFL rfl rfl ?_))
 refine jf rfl (decide_eq_false (by omega)) ?_
 iterate 7 refine jp rfl ?_
 refine wAc (jT (wAk rfl (wAd (jT (wAb (wAb (wAa (jp rfl (wAc (jT (wAh ?_)))))))))))
 refine wAo (α := Nat) (fun k => [(1, .pointer (some ⟨b1, 0, none⟩)), (3, .int .i64 k)]) (fun _ => M) (fun _ => [(b1, .cells [Value.int .i64 lv, .slice a xs.length c].toArray 111 (0, 0))]) (fun k => k ≤ xs.length ∧ wCd false none xs = wCd false (wFb xs k) (xs.drop k)) (fun k => xs.length - k)
  0 (.cons (t := 1) rfl (.cons (t := 3) rfl .nil)) ⟨Nat.zero_le _, rfl⟩ (fun _ h => h) ?_
 rintro k ⟨hk, hI⟩
 try dsimp only at hk hI ⊢
 refine wAb (wAb (wAa (jp rfl (sFL rfl rfl ?_))))
 refine wAi rfl rfl (wBe rfl rfl rfl) ?_
 refine js rfl (fun h34 => ?_) (fun h34 => ?_)
 ·refine wAc (jT (wAg rfl (wAd (jT (wAb (wAh (wAb (wAa (sFL rfl rfl ?_)))))))))
  refine jp rfl ?_
  have hk1 : k < xs.length := by omega
  obtain ⟨sb, so, e0, hx⟩ := hs.open (by intro e; have := congrArg List.length e; rw [wBm wCp 5 wCw, List.length_nil] at this; have h2 := congrArg List.length hp; rw [List.length_map] at h2; omega)
  subst e0
  obtain ⟨va, vc, hcl, hvc, hvs⟩ := wCh hx hp hb hk1
  refine wAi rfl rfl (wBb rfl rfl rfl rfl (by omega)) ?_
  refine wAi rfl rfl (wGp (cs := itc xs[k] va vc) rfl rfl rfl rfl rfl (fun i v hv => (hcl i v hv).cj _)) ?_
  refine sAl rfl fun b4 => ?_
  refine sSt rfl ?_
  refine wAc (jT (wAb (wBn [(0, true), (1, true), (2, true), (3, true), (4, true), (5, true), (6, true), (7, true), (8, true), (9, true), (10, true), (11, true), (12, true), (13, true), (14, true), (15, true), (16, true), (17, true), (18, true), (19, true), (20, true), (21, true), (22, true), (23, true), (24, true), (25, true), (26, true), (27, true), (28, true), (29, true), (30, true), (31, true), (32, true), (33, true), (34, true), (35, true)] _ (by kernel_rfl) (by kernel_rfl) (by kernel_rfl) rfl (fun _ h => h) ?_)))
  refine dLL rfl rfl ?_
  refine jd_qb rfl rfl rfl (wAy rfl rfl rfl rfl rfl (by kernel_rfl) (wHp xs[k] va vc M)) (fun h43 => ?_) (fun h43 => ?_)
  ·iterate 3 refine dp rfl rfl ?_
   refine ds rfl rfl (fun h47 => ?_) (fun h47 => ?_)
   ·refine dp rfl rfl ?_
    refine dFa rfl rfl ?_
    refine dLd rfl rfl ?_
    refine dp rfl rfl ?_
    refine da rfl rfl (by omega) ?_
    have hk0 : k - 1 < xs.length := by omega
    obtain ⟨va0, vc0, hcl0, hvc0, hvs0⟩ := wCh hx hp hb hk0
    have hpk := prevK_some (xs := xs) (k := k) (by omega) hk0
    refine wBh rfl rfl rfl (wBb rfl rfl rfl rfl (by omega)) ?_
    refine dFa rfl rfl ?_
    refine wBh rfl rfl rfl (wGp (cs := wEw xs[k - 1].key) rfl rfl rfl rfl rfl (fun i v hv => by rw [show ((k : Int) - 1).toNat = k - 1 by omega]; exact (hcl0 i v (key_of_itc hv)).cj _)) ?_
    refine dFa rfl rfl ?_
    refine dLL rfl rfl ?_
    refine jd_qb rfl rfl rfl (wAy rfl rfl rfl rfl rfl (by kernel_rfl) (wFi xs[k - 1].key xs[k].key M)) (fun h58 => ?_) (fun h58 => ?_)
    ·iterate 4 refine dp rfl rfl ?_
     refine dFa rfl rfl ?_
     refine dLd rfl rfl ?_
     refine df rfl rfl (decide_eq_false (by omega)) ?_
     iterate 12 refine dp rfl rfl ?_
     refine wBg (jPn (jT (wAk rfl (wAd (jB (jT (wAa (jp rfl (ja rfl (by omega) ?_)))))))))
     refine jp rfl (wAc ?_)
     refine wAn (k + 1) (.cons (t := 1) rfl (.cons (t := 3) rfl .nil)) ⟨by omega, nd_on hk1 hI (okAt_mk (by simpa using h43) (fun q hq => by rw [hpk] at hq; cases hq; exact h58) (fun h => by cases h))⟩ (by omega) (fun _ h => h.fewer (by simp))
    iterate 19 refine dp rfl rfl ?_
    refine wBg (jPn (jT (wAg rfl (wAb (wAa (jp rfl (wAc (jT (wAf (jBr (jTr (jTr (jBr (jTr (wAu (L' := []) (List.nil_sublist _) ?_)))))))))))))))
    refine jr1 rfl rfl ?_
    exact congrArg Value.bool (nd_no (ab := false) (decide_eq_false (by omega)) hk1 hI fun ho => by have := (wHe ho).2.1 _ hpk; rw [this] at h58; cases h58)
   iterate 15 refine dp rfl rfl ?_
   refine dFa rfl rfl ?_
   refine dLd rfl rfl ?_
   refine df rfl rfl (decide_eq_false (by omega)) ?_
   iterate 12 refine dp rfl rfl ?_
   refine wBg (jPn (jT (wAk rfl (wAd (jB (jT (wAa (jp rfl (ja rfl (by omega) ?_)))))))))
   refine jp rfl (wAc ?_)
   refine wAn (k + 1) (.cons (t := 1) rfl (.cons (t := 3) rfl .nil)) ⟨by omega, nd_on hk1 hI (okAt_mk (by simpa using h43) (fun q hq => by rw [show k = 0 by omega] at hq; cases hq) (fun h => by cases h))⟩ (by omega) (fun _ h => h.fewer (by simp))
  iterate 34 refine dp rfl rfl ?_
  refine wBg (jPn (jT (wAg rfl (wAb (wAa (jp rfl (wAc (jT (wAf (jBr (jTr (jTr (jBr (jTr (wAu (L' := []) (List.nil_sublist _) ?_)))))))))))))))
  refine jr1 rfl rfl ?_
  exact congrArg Value.bool (nd_no (ab := false) (decide_eq_false (by omega)) hk1 hI fun ho => by have := (wHe ho).1; rw [this] at h43; simp at h43)
 refine wAc (jT (wAk rfl (wAs (jTx (jTx (jBx (jT (wAb (wAa (jp rfl (wAc (jT (wAf (wAu (L' := []) (List.nil_sublist _) ?_))))))))))))))
 refine jr1 rfl rfl ?_
 have e2 := nd_end (ab := false) h (decide_eq_false (by omega)) (by omega : k = xs.length) hI
 have e3 : ndOk lv xs = true := by unfold wFg at e2; cases hh : ndOk lv xs with | true => rfl | false => rw [hh] at e2; simp at e2
 rw [e3]
set_option maxHeartbeats 4000000 in
theorem rmay6_node (lv : Int) (xs : List It) (a : Option Addr) (c : Nat) (ps : List (It × Value)) (M : Mem) (hs : SM M a (ps.flatMap wCp)) (hp : ps.map (·.1) = xs) (hb : ∀ p ∈ ps, BS M p.2 p.1.val) (h : 0 ≤ lv ∧ lv < 6 ∧ xs.length ≤ 5 ∧ (0 < lv → xs.length ≠ 0)) (hlv : 0 < lv) :
  SpecL Tryz.prog 127 #[.agg #[.int .i64 lv, .slice a xs.length c]] M [] fun u _ _ => u = .bool (ndOk lv xs) := by
 refine wAe (vs := [_]) 78 _ Tryz.func127 rfl Tryz.ntmps127 rfl rfl ?_; intro W
 refine wAb (wAa (wAv rfl rfl (wBw (cs := [_, _]) rfl rfl rfl rfl) ?_)); rintro _ _ _ ⟨b1, rfl, rfl, rfl⟩
 refine jp rfl (wAc (jT (wAb (wAb (wAa (sFL rfl rfl ?_))))))
 refine jf rfl (decide_eq_false (by omega)) ?_
 refine jp rfl (sFL rfl rfl ?_)
 refine jf rfl (decide_eq_false (by omega)) ?_
 refine jp rfl (jp rfl (sFL rfl rfl ?_))
 refine wAi rfl rfl (wBe rfl rfl rfl) ?_
 refine jf rfl (decide_eq_false (by omega)) ?_
 refine jp rfl (jp rfl (sFL rfl rfl ?_))
 refine jt rfl (decide_eq_true (by omega)) ?_
 refine jp rfl (sFL rfl rfl ?_)
 refine wAi rfl rfl (wBe rfl rfl rfl) ?_
 refine jf rfl (decide_eq_false (by omega)) ?_
 refine jp rfl (jp rfl (wAc (jT (wAk rfl (wAd (jT (wAb (wAb (wAa (jp rfl (wAc (jT (wAh ?_)))))))))))))
 refine wAo (α := Nat) (fun k => [(1, .pointer (some ⟨b1, 0, none⟩)), (3, .int .i64 k)]) (fun _ => M) (fun _ => [(b1, .cells [Value.int .i64 lv, .slice a xs.length c].toArray 111 (0, 0))]) (fun k => k ≤ xs.length ∧ wCd true none xs = wCd true (wFb xs k) (xs.drop k)) (fun k => xs.length - k)
  0 (.cons (t := 1) rfl (.cons (t := 3) rfl .nil)) ⟨Nat.zero_le _, rfl⟩ (fun _ h => h) ?_
 rintro k ⟨hk, hI⟩
 try dsimp only at hk hI ⊢
 refine wAb (wAb (wAa (jp rfl (sFL rfl rfl ?_))))
 refine wAi rfl rfl (wBe rfl rfl rfl) ?_
 refine js rfl (fun h34 => ?_) (fun h34 => ?_)
 ·refine wAc (jT (wAg rfl (wAd (jT (wAb (wAh (wAb (wAa (sFL rfl rfl ?_)))))))))
  refine jp rfl ?_
  have hk1 : k < xs.length := by omega
  obtain ⟨sb, so, e0, hx⟩ := hs.open (by intro e; have := congrArg List.length e; rw [wBm wCp 5 wCw, List.length_nil] at this; have h2 := congrArg List.length hp; rw [List.length_map] at h2; omega)
  subst e0
  obtain ⟨va, vc, hcl, hvc, hvs⟩ := wCh hx hp hb hk1
  refine wAi rfl rfl (wBb rfl rfl rfl rfl (by omega)) ?_
  refine wAi rfl rfl (wGp (cs := itc xs[k] va vc) rfl rfl rfl rfl rfl (fun i v hv => (hcl i v hv).cj _)) ?_
  refine sAl rfl fun b4 => ?_
  refine sSt rfl ?_
  refine wAc (jT (wAb (wBn [(0, true), (1, true), (2, true), (3, true), (4, true), (5, true), (6, true), (7, true), (8, true), (9, true), (10, true), (11, true), (12, true), (13, true), (14, true), (15, true), (16, true), (17, true), (18, true), (19, true), (20, true), (21, true), (22, true), (23, true), (24, true), (25, true), (26, true), (27, true), (28, true), (29, true), (30, true), (31, true), (32, true), (33, true), (34, true), (35, true)] _ (by kernel_rfl) (by kernel_rfl) (by kernel_rfl) rfl (fun _ h => h) ?_)))
  refine dLL rfl rfl ?_
  refine jd_qb rfl rfl rfl (wAy rfl rfl rfl rfl rfl (by kernel_rfl) (wHp xs[k] va vc M)) (fun h43 => ?_) (fun h43 => ?_)
  ·iterate 3 refine dp rfl rfl ?_
   refine ds rfl rfl (fun h47 => ?_) (fun h47 => ?_)
   ·refine dp rfl rfl ?_
    refine dFa rfl rfl ?_
    refine dLd rfl rfl ?_
    refine dp rfl rfl ?_
    refine da rfl rfl (by omega) ?_
    have hk0 : k - 1 < xs.length := by omega
    obtain ⟨va0, vc0, hcl0, hvc0, hvs0⟩ := wCh hx hp hb hk0
    have hpk := prevK_some (xs := xs) (k := k) (by omega) hk0
    refine wBh rfl rfl rfl (wBb rfl rfl rfl rfl (by omega)) ?_
    refine dFa rfl rfl ?_
    refine wBh rfl rfl rfl (wGp (cs := wEw xs[k - 1].key) rfl rfl rfl rfl rfl (fun i v hv => by rw [show ((k : Int) - 1).toNat = k - 1 by omega]; exact (hcl0 i v (key_of_itc hv)).cj _)) ?_
    refine dFa rfl rfl ?_
    refine dLL rfl rfl ?_
    refine jd_qb rfl rfl rfl (wAy rfl rfl rfl rfl rfl (by kernel_rfl) (wFi xs[k - 1].key xs[k].key M)) (fun h58 => ?_) (fun h58 => ?_)
    ·iterate 4 refine dp rfl rfl ?_
     refine dFa rfl rfl ?_
     refine dLd rfl rfl ?_
     refine dt rfl rfl (decide_eq_true (by omega)) ?_
     refine dp rfl rfl ?_
     refine dFa rfl rfl ?_
     refine dLd rfl rfl ?_
     refine ds rfl rfl (fun h69 => ?_) (fun h69 => ?_)
     ·iterate 8 refine dp rfl rfl ?_
      refine wBg (jPn (jT (wAg rfl (wAb (wAa (jp rfl (wAc (jT (wAf (jBr (jTr (jTr (jBr (jTr (wAu (L' := []) (List.nil_sublist _) ?_)))))))))))))))
      refine jr1 rfl rfl ?_
      exact congrArg Value.bool (nd_no (ab := true) (decide_eq_true (by omega)) hk1 hI fun ho => ((wHe ho).2.2 rfl).1 h69)
     refine dp rfl rfl ?_
     refine dFa rfl rfl ?_
     refine dLd rfl rfl ?_
     refine wBh rfl rfl rfl (wBe rfl rfl rfl) ?_
     refine ds rfl rfl (fun h74 => ?_) (fun h74 => ?_)
     ·iterate 3 refine dp rfl rfl ?_
      refine wBg (jPn (jT (wAg rfl (wAb (wAa (jp rfl (wAc (jT (wAf (jBr (jTr (jTr (jBr (jTr (wAu (L' := []) (List.nil_sublist _) ?_)))))))))))))))
      refine jr1 rfl rfl ?_
      exact congrArg Value.bool (nd_no (ab := true) (decide_eq_true (by omega)) hk1 hI fun ho => by have := ((wHe ho).2.2 rfl).2; omega)
     iterate 3 refine dp rfl rfl ?_
     refine wBg (jPn (jT (wAk rfl (wAd (jB (jT (wAa (jp rfl (ja rfl (by omega) ?_)))))))))
     refine jp rfl (wAc ?_)
     refine wAn (k + 1) (.cons (t := 1) rfl (.cons (t := 3) rfl .nil)) ⟨by omega, nd_on hk1 hI (okAt_mk (by simpa using h43) (fun q hq => by rw [hpk] at hq; cases hq; exact h58) (fun _ => ⟨h69, by omega⟩))⟩ (by omega) (fun _ h => h.fewer (by simp))
    iterate 19 refine dp rfl rfl ?_
    refine wBg (jPn (jT (wAg rfl (wAb (wAa (jp rfl (wAc (jT (wAf (jBr (jTr (jTr (jBr (jTr (wAu (L' := []) (List.nil_sublist _) ?_)))))))))))))))
    refine jr1 rfl rfl ?_
    exact congrArg Value.bool (nd_no (ab := true) (decide_eq_true (by omega)) hk1 hI fun ho => by have := (wHe ho).2.1 _ hpk; rw [this] at h58; cases h58)
   iterate 15 refine dp rfl rfl ?_
   refine dFa rfl rfl ?_
   refine dLd rfl rfl ?_
   refine dt rfl rfl (decide_eq_true (by omega)) ?_
   refine dp rfl rfl ?_
   refine dFa rfl rfl ?_
   refine dLd rfl rfl ?_
   refine ds rfl rfl (fun h69 => ?_) (fun h69 => ?_)
   ·iterate 8 refine dp rfl rfl ?_
    refine wBg (jPn (jT (wAg rfl (wAb (wAa (jp rfl (wAc (jT (wAf (jBr (jTr (jTr (jBr (jTr (wAu (L' := []) (List.nil_sublist _) ?_)))))))))))))))
    refine jr1 rfl rfl ?_
    exact congrArg Value.bool (nd_no (ab := true) (decide_eq_true (by omega)) hk1 hI fun ho => ((wHe ho).2.2 rfl).1 h69)
   refine dp rfl rfl ?_
   refine dFa rfl rfl ?_
   refine dLd rfl rfl ?_
   refine wBh rfl rfl rfl (wBe rfl rfl rfl) ?_
   refine ds rfl rfl (fun h74 => ?_) (fun h74 => ?_)
   ·iterate 3 refine dp rfl rfl ?_
    refine wBg (jPn (jT (wAg rfl (wAb (wAa (jp rfl (wAc (jT (wAf (jBr (jTr (jTr (jBr (jTr (wAu (L' := []) (List.nil_sublist _) ?_)))))))))))))))
    refine jr1 rfl rfl ?_
    exact congrArg Value.bool (nd_no (ab := true) (decide_eq_true (by omega)) hk1 hI fun ho => by have := ((wHe ho).2.2 rfl).2; omega)
   iterate 3 refine dp rfl rfl ?_
   refine wBg (jPn (jT (wAk rfl (wAd (jB (jT (wAa (jp rfl (ja rfl (by omega) ?_)))))))))
   refine jp rfl (wAc ?_)
   refine wAn (k + 1) (.cons (t := 1) rfl (.cons (t := 3) rfl .nil)) ⟨by omega, nd_on hk1 hI (okAt_mk (by simpa using h43) (fun q hq => by rw [show k = 0 by omega] at hq; cases hq) (fun _ => ⟨h69, by omega⟩))⟩ (by omega) (fun _ h => h.fewer (by simp))
  iterate 34 refine dp rfl rfl ?_
  refine wBg (jPn (jT (wAg rfl (wAb (wAa (jp rfl (wAc (jT (wAf (jBr (jTr (jTr (jBr (jTr (wAu (L' := []) (List.nil_sublist _) ?_)))))))))))))))
  refine jr1 rfl rfl ?_
  exact congrArg Value.bool (nd_no (ab := true) (decide_eq_true (by omega)) hk1 hI fun ho => by have := (wHe ho).1; rw [this] at h43; simp at h43)
 refine wAc (jT (wAk rfl (wAs (jTx (jTx (jBx (jT (wAb (wAa (jp rfl (wAc (jT (wAf (wAu (L' := []) (List.nil_sublist _) ?_))))))))))))))
 refine jr1 rfl rfl ?_
 have e2 := nd_end (ab := true) h (decide_eq_true (by omega)) (by omega : k = xs.length) hI
 have e3 : ndOk lv xs = true := by unfold wFg at e2; cases hh : ndOk lv xs with | true => rfl | false => rw [hh] at e2; simp at e2
 rw [e3]
theorem rmay6_spec (lv : Int) (xs : List It) (v : Value) (M : Mem) (hv : NS M v xs) (hn : xs.length ≤ 1000) : SpecL Tryz.prog 127 #[.agg #[.int .i64 lv, v]] M [] fun u _ _ => u = .bool (ndOk lv xs) := by
 obtain ⟨a, c, ps, rfl, hc, hs, hp, hb⟩ := hv
 by_cases h : 0 ≤ lv ∧ lv < 6 ∧ xs.length ≤ 5 ∧ (0 < lv → xs.length ≠ 0)
 ·by_cases hlv : lv = 0
  ·exact rmay6_leaf lv xs a c ps M hs hp hb h hlv
  exact rmay6_node lv xs a c ps M hs hp hb h (by omega)
 exact rmay6_head lv xs a c ps M hs hp hb h hn
theorem bU_byte (b : By) : bU (b.toNat : Int) = b := by
 have := b.toNat_lt
 unfold bU
 rw [show ((b.toNat : Int) % 256).toNat = b.toNat by omega]; exact UInt8.ofNat_toNat
theorem bU_of {n : Int} {b : By} (h : n % 256 = (b.toNat : Int)) : bU n = b := by
 have e : bU n = bU (n % 256) := (bU_mod n).symm
 rw [e, h]; exact bU_byte b
theorem four_of (a b c d : By) : wEj (wHj [d, c, b, a]) = [a, b, c, d] := by
 have ha := a.toNat_lt
 have hb := b.toNat_lt
 have hc := c.toNat_lt
 have hd := d.toNat_lt
 rw [getF_four]
 unfold wEj
 rw [show ∀ n : Int, bShr .u32 n 8 = n / 256 from fun n => wFh n (by decide), show ∀ n : Int, bShr .u32 n 16 = n / 65536 from fun n => wFh n (by decide), show ∀ n : Int, bShr .u32 n 24 = n / 16777216 from fun n => wFh n (by decide)]
 rw [bU_of (b := a) (by omega), bU_of (b := b) (by omega), bU_of (b := c) (by omega), bU_of (b := d) (by omega)]
theorem two_of (a b : By) : wGn (wHj [b, a]) = [a, b] := by
 have ha := a.toNat_lt
 have hb := b.toNat_lt
 rw [getF_two]
 unfold wGn
 rw [show ∀ n : Int, bShr .i64 n 8 = n / 256 from fun n => wFh n (by decide)]
 rw [bU_of (b := a) (by omega), bU_of (b := b) (by omega)]
theorem it_back {r : List By} (h : rdE r = 0) : itB (rdX r) = r.take (rdS r) ∧ wKe (rdX r) := by
 obtain ⟨h1, h2, h3, h4⟩ := rdE_zero h
 have hvl := rdX_len h2
 have hrd : rdS r = 12 + (r.getD 11 0).toNat := rfl
 match r, h1 with
 | b0 :: b1 :: b2 :: b3 :: b4 :: b5 :: b6 :: b7 :: b8 :: b9 :: b10 :: b11 :: t, _ =>
  have hb0 := b0.toNat_lt
  have hv : (rdX (b0 :: b1 :: b2 :: b3 :: b4 :: b5 :: b6 :: b7 :: b8 :: b9 :: b10 :: b11 :: t)).val = t.take b11.toNat := by
   show t.take (12 + b11.toNat - 12) = _
   rw [Nat.add_sub_cancel_left]
  have hS : rdS (b0 :: b1 :: b2 :: b3 :: b4 :: b5 :: b6 :: b7 :: b8 :: b9 :: b10 :: b11 :: t) = 12 + b11.toNat := rfl
  have hl : (t.take b11.toNat).length = b11.toNat := by rw [← hv, hvl, hS]; omega
  refine ⟨?_, ⟨⟨by show (0 : Int) ≤ (b0.toNat : Int); omega, by show (b0.toNat : Int) < 256; omega⟩, getF_range _, getF_range _, ?_, by rw [hvl]; omega⟩⟩
  ·have e1 : itB (rdX (b0 :: b1 :: b2 :: b3 :: b4 :: b5 :: b6 :: b7 :: b8 :: b9 :: b10 :: b11 :: t)) = [bU (b0.toNat : Int)] ++ wEj (wHj [b4, b3, b2, b1]) ++ wEj (wHj [b8, b7, b6, b5]) ++ wGn (wHj [b10, b9]) ++ [bU ((t.take b11.toNat).length : Int)] ++ t.take b11.toNat := by
    rw [← hv]; rfl
   rw [e1, four_of, four_of, two_of, hl, bU_byte, bU_byte, hS, Nat.add_comm]
   rfl
  show 0 ≤ wHj [b10, b9] ∧ wHj [b10, b9] < 65536
  have h9 := b9.toNat_lt
  have h10 := b10.toNat_lt
  rw [getF_two]; omega
theorem rd_back : ∀ {n : Nat} {r : List By} {acc ys : List It} {r' : List By}, wCe n r acc = some (ys, r') → ∃ zs, ys = acc ++ zs ∧ zs.length = n ∧ r = zs.flatMap itB ++ r' ∧ ∀ z ∈ zs, wKe z
 | 0, r, acc, ys, r', h => by rw [wCe] at h; cases h; exact ⟨[], by simp, rfl, rfl, fun _ h => by cases h⟩
 | n + 1, r, acc, ys, r', h => by
  rw [wCe] at h
  split at h
  ·rename_i hE
   obtain ⟨zs, e1, e2, e3, e4⟩ := rd_back h
   obtain ⟨f1, f2⟩ := it_back hE
   refine ⟨rdX r :: zs, by rw [e1, List.append_assoc]; rfl, by rw [List.length_cons, e2], ?_, fun z hz => ?_⟩
   ·rw [List.flatMap_cons, f1, List.append_assoc, ← e3, List.take_append_drop]
   rcases List.mem_cons.1 hz with rfl | hz
   ·exact f2
   exact e4 z hz
  cases h
theorem rep_nought {r : List By} : wDk r = true ↔ r = List.replicate r.length 0 := by
 unfold wDk
 rw [List.all_eq_true, List.eq_replicate_iff]
 exact ⟨fun h => ⟨rfl, fun b hb => by simpa using h b hb⟩, fun h b hb => by simpa using h.2 b hb⟩
theorem same_node {b0 b1 b2 : By} {ys : List It} {r' : List By} (hm : b2.toNat = ys.length) : sameB (b0 :: b1 :: b2 :: (ys.flatMap itB ++ r')) (wJh (b1.toNat : Int) ys) = (decide (b0 = 78) && wDk r') := by
 have e : wJh (b1.toNat : Int) ys = 78 :: b1 :: b2 :: ys.flatMap itB := by
  unfold wJh
  rw [bU_byte, show ((ys.length : Nat) : Int) = (b2.toNat : Int) by omega, bU_byte]; rfl
 rw [e]
 unfold sameB
 have hl : (b0 :: b1 :: b2 :: (ys.flatMap itB ++ r')).length - (78 :: b1 :: b2 :: ys.flatMap itB : List By).length = r'.length := by
  simp only [List.length_cons, List.length_append]; omega
 rw [hl]
 cases hn : wDk r' with
 | true =>
  rw [Bool.and_true]
  refine decide_eq_decide.2 ⟨fun h => by have := h.2; simp at this; exact this.1, fun h => ⟨by simp, ?_⟩⟩
  rw [h]
  have := rep_nought.1 hn
  conv => lhs; rw [this]
  simp
 | false =>
  rw [Bool.and_false]
  refine decide_eq_false fun h => ?_
  have h2 := h.2
  simp at h2
  rw [rep_nought.2 h2.2] at hn; cases hn
section
variable {blk b : List By} (hB : blk.drop 4 = b) (ho : wEi blk = 0) (hl : b.length = 124)
include hB ho hl
theorem rdn_none (h : wCe (min (b.getD 2 0).toNat 6) (b.drop 3) [] = none) : wDj blk = none := by
 subst hB
 unfold wDj
 rw [if_pos ho]
 split
 ·rename_i h2
  have hm : ((blk.drop 4).getD 2 0).toNat ≤ 5 := h2.2
  rw [Nat.min_eq_left (by omega)] at h
  rw [h]
 rfl
theorem rdn_ok {ys : List It} {r : List By} (h : wCe (min (b.getD 2 0).toNat 6) (b.drop 3) [] = some (ys, r)) (hk : ndOk ((b.getD 1 0).toNat : Int) ys = true) (hs : sameB b (wJh ((b.getD 1 0).toNat : Int) ys) = true) : wDj blk = some (((b.getD 1 0).toNat : Int), ys) := by
 obtain ⟨zs, e1, e2, e3, _⟩ := rd_back h
 rw [List.nil_append] at e1; subst e1
 have hlen : ys.length ≤ 5 := by
  unfold ndOk at hk
  rw [Bool.and_eq_true] at hk
  exact (of_decide_eq_true hk.1).2.2.1
 have hm5 : (b.getD 2 0).toNat ≤ 5 := by rw [Nat.min_def] at e2; split at e2 <;> omega
 rw [Nat.min_eq_left (by omega)] at h e2
 have hb : b = b.getD 0 0 :: b.getD 1 0 :: b.getD 2 0 :: (ys.flatMap itB ++ r) := by
  rw [← e3]
  match b, hl with
  | c0 :: c1 :: c2 :: t, _ => rfl
 rw [hb] at hs
 have hs2 := hs
 rw [show (((b.getD 0 0 :: b.getD 1 0 :: b.getD 2 0 :: (ys.flatMap itB ++ r)).getD 1 0).toNat : Int) = ((b.getD 1 0).toNat : Int) from rfl, same_node e2.symm, Bool.and_eq_true] at hs2
 have h78 := of_decide_eq_true hs2.1
 have hnc : wFg ((b.getD 1 0).toNat : Int) ys = 0 := by unfold wFg; rw [hk]; rfl
 subst hB
 unfold wDj
 rw [if_pos ho, if_pos ⟨h78, hm5⟩, h]
 simp only
 rw [if_pos ⟨hnc, hs2.2⟩]
theorem rdn_bad {ys : List It} {r : List By} (h : wCe (min (b.getD 2 0).toNat 6) (b.drop 3) [] = some (ys, r)) (hk : ndOk ((b.getD 1 0).toNat : Int) ys = false ∨ sameB b (wJh ((b.getD 1 0).toNat : Int) ys) = false) : wDj blk = none := by
 obtain ⟨zs, e1, e2, e3, _⟩ := rd_back h
 rw [List.nil_append] at e1; subst e1
 have hb : b = b.getD 0 0 :: b.getD 1 0 :: b.getD 2 0 :: (ys.flatMap itB ++ r) := by
  rw [← e3]
  match b, hl with
  | c0 :: c1 :: c2 :: t, _ => rfl
 unfold wDj
 rw [if_pos ho, hB]
 split
 ·rename_i h2
  have hm : (b.getD 2 0).toNat ≤ 5 := h2.2
  rw [Nat.min_eq_left (by omega)] at h e2
  rw [h]
  simp only
  rw [if_neg]
  rintro ⟨h3, h4⟩
  rcases hk with hk | hk
  ·unfold wFg at h3; rw [hk] at h3; simp at h3
  rw [hb] at hk
  rw [show (((b.getD 0 0 :: b.getD 1 0 :: b.getD 2 0 :: (ys.flatMap itB ++ r)).getD 1 0).toNat : Int) = ((b.getD 1 0).toNat : Int) from rfl, same_node e2.symm, h2.1, h4] at hk
  simp at hk
 rfl
end
theorem SM.dropB {M : Mem} {a : Option Addr} {xs : List By} {k c : Nat} (h : SM M a (wAj xs)) (hk : k ≤ xs.length) (hc : xs.length ≤ c) : SM M (slA a k c 1) (wAj (xs.drop k)) := by
 rcases h with h | ⟨b, off, rfl, hx⟩
 ·have : xs.drop k = [] := by
   have h2 := congrArg List.length h
   rw [wAm] at h2
   exact List.drop_of_length_le (by rw [h2]; exact Nat.zero_le _)
  rw [this]; exact .inl rfl
 by_cases e : k = c
 ·have : xs.drop k = [] := List.drop_of_length_le (by omega)
  rw [this]; exact .inl rfl
 refine .inr ⟨b, off + k * 1, wBu (by omega), fun i u hu => ?_⟩
 have := hx (k + i) u (by simpa [wAj] using hu)
 rw [Nat.mul_one, Nat.add_assoc]; exact this
abbrev R6S := Nat × Mem × Option Addr × Nat × List By × Option Addr × Nat × Lc × List (It × Value)
structure R6I (b : List By) (M : Mem) (z : R6S) : Prop where
 i6 : z.1 ≤ 6
 im : z.1 ≤ min (b.getD 2 0).toNat 6
 mem : MLe M z.2.1
 sm : SM z.2.1 z.2.2.1 (wAj z.2.2.2.2.1)
 cap : z.2.2.2.2.1.length ≤ z.2.2.2.1
 le : z.2.2.2.2.1.length ≤ 124
 eq : wCe (min (b.getD 2 0).toNat 6) (b.drop 3) [] = wCe (min (b.getD 2 0).toNat 6 - z.1) z.2.2.2.2.1 (z.2.2.2.2.2.2.2.2.map (·.1))
 own : Own (.slice z.2.2.2.2.2.1 z.1 z.2.2.2.2.2.2.1) z.2.2.2.2.2.2.2.1 152 5 z.1 (z.2.2.2.2.2.2.2.2.flatMap wCp)
 len : z.2.2.2.2.2.2.2.2.length = z.1
 bs : ∀ p ∈ z.2.2.2.2.2.2.2.2, BS z.2.1 p.2 p.1.val
theorem NdPost.no {blk : List By} {M : Mem} {e : Int} (h : wDj blk = none) (he : e ≠ 0) : NdPost blk (.tuple #[.agg zeroNd.toArray, .int .i64 e]) M := by
 unfold NdPost; rw [h]; exact ⟨e, he, rfl⟩
theorem rread6_len (v : Value) (blk : List By) (M : Mem) (hv : BS M v blk) (hn : blk.length ≤ 100000) (h : blk.length ≠ 128) :
  SpecL Tryz.prog 109 #[v] M [] fun u M' L' => NdPost blk u M' ∧ L' = [] := by
 obtain ⟨ba, bc, rfl, hbc, hbs⟩ := hv
 refine wAe (vs := [_]) 70 _ Tryz.func109 rfl Tryz.ntmps109 rfl rfl ?_; intro W
 refine wAb (wAa (sAl rfl fun b2 => ?_))
 refine jp rfl (wAc (jT (wAb (wAa (jp rfl (wAv rfl rfl (wAt rfl rfl rfl rfl rfl (by kernel_rfl) (ropen_len ba bc blk M hbc hbs hn h)) ?_)))))); rintro _ M2 _ ⟨hM2, _, rfl, ⟨rfl, rfl⟩⟩
 refine jp rfl (jp rfl (jp rfl (jp rfl (jp rfl (wAc (jT (wAb (wAb (wAa (jp rfl (jt rfl (decide_eq_true (by omega)) ?_)))))))))))
 refine wAc (jT (wAg rfl (wAb (wAa (wAi rfl rfl (wAq (cs := [_, _]) rfl rfl rfl (by rfl)) ?_)))))
 refine jp rfl (sSt rfl ?_)
 refine jp rfl (wAc (jT (wAf (jTr (wBr (rs := [_, _]) ([]) (by exact List.nil_sublist _) rfl (.cons (.agg rfl rfl rfl) (.cons (.tmp rfl) .nil)) ?_)))))
 exact ⟨NdPost.no (by unfold wDj; rw [if_neg (by unfold wEi; rw [if_pos h]; decide)]) (by decide), rfl⟩
theorem rread6_sum (v : Value) (blk : List By) (M : Mem) (hv : BS M v blk) (hn : blk.length ≤ 100000) (h : blk.length = 128) (hb : wGm blk 0 4 ≠ wJe (blk.drop 4)) :
  SpecL Tryz.prog 109 #[v] M [] fun u M' L' => NdPost blk u M' ∧ L' = [] := by
 obtain ⟨ba, bc, rfl, hbc, hbs⟩ := hv
 refine wAe (vs := [_]) 70 _ Tryz.func109 rfl Tryz.ntmps109 rfl rfl ?_; intro W
 refine wAb (wAa (sAl rfl fun b2 => ?_))
 refine jp rfl (wAc (jT (wAb (wAa (jp rfl (wAv rfl rfl (wAt rfl rfl rfl rfl rfl (by kernel_rfl) (ropen_bad ba bc blk M hbc hbs hn h hb)) ?_)))))); rintro _ M2 _ ⟨hM2, _, rfl, ⟨rfl, rfl⟩⟩
 refine jp rfl (jp rfl (jp rfl (jp rfl (jp rfl (wAc (jT (wAb (wAb (wAa (jp rfl (jt rfl (decide_eq_true (by omega)) ?_)))))))))))
 refine wAc (jT (wAg rfl (wAb (wAa (wAi rfl rfl (wAq (cs := [_, _]) rfl rfl rfl (by rfl)) ?_)))))
 refine jp rfl (sSt rfl ?_)
 refine jp rfl (wAc (jT (wAf (jTr (wBr (rs := [_, _]) ([]) (by exact List.nil_sublist _) rfl (.cons (.agg rfl rfl rfl) (.cons (.tmp rfl) .nil)) ?_)))))
 exact ⟨NdPost.no (by unfold wDj; rw [if_neg (by unfold wEi; rw [if_neg (by omega), if_pos hb]; decide)]) (by decide), rfl⟩
set_option maxHeartbeats 4000000 in
theorem rread6_main (v : Value) (blk : List By) (M : Mem) (hv : BS M v blk) (hn : blk.length ≤ 100000) (h : blk.length = 128) (hb : wGm blk 0 4 = wJe (blk.drop 4)) :
  SpecL Tryz.prog 109 #[v] M [] fun u M' L' => NdPost blk u M' ∧ L' = [] := by
 obtain ⟨ba, bc, rfl, hbc, hbs⟩ := hv
 refine wAe (vs := [_]) 70 _ Tryz.func109 rfl Tryz.ntmps109 rfl rfl ?_; intro W
 refine wAb (wAa (sAl rfl fun b2 => ?_))
 refine jp rfl (wAc (jT (wAb (wAa (jp rfl (wAv rfl rfl (wAt rfl rfl rfl rfl rfl (by kernel_rfl) (ropen_ok ba bc blk M hbc hbs hn h hb)) ?_)))))); rintro _ M2 _ ⟨hM2, _, rfl, ⟨⟨vb, rfl, hvb⟩, rfl⟩⟩
 obtain ⟨b, hB⟩ : ∃ b, blk.drop 4 = b := ⟨_, rfl⟩
 have hbl : b.length = 124 := by rw [← hB, List.length_drop]; omega
 rw [hB] at hvb
 obtain ⟨va, vc, rfl, hvc, hvs⟩ := hvb
 obtain ⟨sb, so, e0, hx⟩ := hvs.open (by intro e; have := congrArg List.length e; rw [wAm, List.length_nil] at this; omega)
 subst e0
 have ho : wEi blk = 0 := by unfold wEi; rw [if_neg (by omega), if_neg (by omega)]
 have h1b := (b.getD 1 0).toNat_lt
 have h2b := (b.getD 2 0).toNat_lt
 simp only [nA]
 refine jp rfl (jp rfl (jp rfl (jp rfl (jp rfl (wAc (jT (wAb (wAb (wAa (jp rfl (jf rfl (decide_eq_false (by omega)) ?_)))))))))))
 refine wAc (jT (wAk rfl (wAd (jT (wAb (wAa (jp rfl (wAi rfl rfl (wBb rfl rfl rfl rfl (by omega)) ?_))))))))
 refine wAi rfl rfl (qLd rfl rfl rfl rfl ((id (hx ((1 : Int).toNat * 1) _ (wKh (j := 1) (by omega)))).cj _)) ?_
 refine wAi rfl rfl (wCg rfl rfl rfl (by omega)) ?_
 refine wAi rfl rfl (wAq (cs := [_, _]) rfl rfl rfl (by rfl)) ?_
 refine sAl rfl fun b6 => ?_
 refine sSt rfl ?_
 refine wAc (jT (wAb (wAa (jp rfl (wAi rfl rfl (qEq (qSl rfl rfl rfl (.no _) (.no _) (.of (v := 3) rfl (by omega) rfl) (by omega) (by simp)) (v' := .slice (slA (some ⟨sb, so, none⟩) 3 vc 1) (b.drop 3).length (vc - 3)) (by rw [List.length_drop])) ?_)))))
 refine jp rfl (wAc (jT (wAb (wAb (wAa (jp rfl (wAc (jT (wAh ?_)))))))))
 obtain ⟨m, hm⟩ : ∃ m, m = min (b.getD 2 0).toNat 6 := ⟨_, rfl⟩
 have hm2 : m ≤ (b.getD 2 0).toNat ∧ m ≤ 6 ∧ (m = (b.getD 2 0).toNat ∨ m = 6) := by rw [Nat.min_def] at hm; split at hm <;> omega
 refine wAo (α := R6S) (fun z => [(2, .pointer (some ⟨b2, 0, none⟩)), (4, .slice (some ⟨sb, so, none⟩) b.length vc), (6, .pointer (some ⟨b6, 0, none⟩)), (7, .slice z.2.2.1 z.2.2.2.2.1.length z.2.2.2.1), (8, .int .i64 z.1)]) (fun z => z.2.1) (fun z => (b6, .cells [Value.int .i64 ((b.getD 1 0).toNat : Int), .slice z.2.2.2.2.2.1 z.1 z.2.2.2.2.2.2.1].toArray 111 (0, 0)) :: (z.2.2.2.2.2.2.2.1 ++ [(b2, .cells [Value.int .i64 0, .slice none 0 0].toArray 111 (0, 0))])) (fun z => R6I b M2 z) (fun z => 6 - z.1)
  (0, M2, slA (some ⟨sb, so, none⟩) 3 vc 1, vc - 3, b.drop 3, none, 0, [], []) (.cons (t := 2) rfl (.cons (t := 4) rfl (.cons (t := 6) rfl (.cons (t := 7) rfl (.cons (t := 8) rfl .nil))))) ⟨Nat.zero_le _, Nat.zero_le _, MLe.refl _, hvs.dropB (by omega) hvc, by show (b.drop 3).length ≤ vc - 3; rw [List.length_drop]; omega, by show (b.drop 3).length ≤ 124; rw [List.length_drop]; omega, rfl, Own.nil _ _, rfl, fun _ h => by cases h⟩ (fun _ h => h) ?_
 rintro ⟨i, Mk, ra, rc, r, xa, xc, R, ps⟩ hI
 have him := hI.im
 rw [← hm] at him
 dsimp only at him ⊢
 refine wAb (wAb (wAa (jp rfl (jp rfl (wAi rfl rfl (wBb rfl rfl rfl rfl (by omega)) ?_)))))
 refine wAi rfl rfl (qLd rfl rfl rfl rfl (((CM.mono · hI.mem) (hx ((2 : Int).toNat * 1) _ (wKh (j := 2) (by omega)))).cj _)) ?_
 refine wAi rfl rfl (wCg rfl rfl rfl (by omega)) ?_
 refine js rfl (fun h33 => ?_) (fun h33 => ?_)
 ·refine jp rfl (jp rfl (js rfl (fun h36 => ?_) (fun h36 => ?_)))
  ·refine jp rfl (wAc (jT (wAg rfl (wAd (jT (wAb (wAh (wAb (wAa (jp rfl ?_))))))))))
   refine wAv rfl rfl (wAt rfl rfl rfl rfl rfl (by kernel_rfl) (rread5_spec (.slice ra r.length rc) r Mk ⟨ra, rc, rfl, hI.cap, hI.sm⟩ (by have := hI.le; dsimp only at this; omega))) ?_; rintro _ M3 _ ⟨hM3, _, rfl, ⟨x, xva, xvc, sz, rfl, hok, rfl⟩⟩
   simp only [nA]
   refine jp rfl (jp rfl (jp rfl (jp rfl (sAl rfl fun b9 => ?_))))
   refine sSt rfl ?_
   refine jp rfl (jp rfl (wAc (jT (wAb (wAb ?_)))))
   have hE0 : rdE r = 0 ∨ rdE r ≠ 0 := by by_cases hh : rdE r = 0; exact .inl hh; exact .inr hh
   refine wAa (jp rfl (js rfl (fun h47 => ?_) (fun h47 => ?_)))
   ·refine wAc (jT (wAg rfl (wAb (wAa (wAi rfl rfl (wAq (cs := [_, _]) rfl rfl rfl (by rfl)) ?_)))))
    refine sSt rfl ?_
    refine jp rfl (wAc (jT (wAf (jTr (jBr (jTr (jTr (jBr (jTr (wBr (rs := [_, _]) ([]) (by exact List.nil_sublist _) rfl (.cons (.agg rfl rfl rfl) (.cons (.tmp rfl) .nil)) ?_))))))))))
    refine ⟨NdPost.no (rdn_none hB ho hbl ?_) (by decide), rfl⟩
    have e := hI.eq
    dsimp only at e
    rw [e, ← hm, show m - i = (m - (i + 1)) + 1 by omega, wCe, if_neg h47]
   refine wAc (jT (wAk rfl (wAd (jT (wAb ?_)))))
   have hE : rdE r = 0 := by omega
   obtain ⟨rfl, rfl, hvc3, hvs3⟩ := hok hE
   obtain ⟨z1, z2, z3, z4⟩ := rdE_zero hE
   have hcap := hI.cap
   dsimp only at hcap
   refine wAa (sFL rfl rfl ?_)
   refine sLL rfl ?_
   refine wAv rfl rfl (wAr (cs := [_, _, _, _, _]) rfl rfl rfl (by rfl) (by rfl) (by rfl)) ?_; rintro _ _ _ ⟨b52, rfl, rfl, rfl⟩
   refine wAv rfl rfl (wCr (R := R) (news := itc (rdX r) xva xvc) rfl rfl rfl rfl hI.own rfl (fun j v hv => CJ.loc (by rw [Nat.zero_add]; simpa using hv)) rfl rfl (fun u hu => List.all_eq_true.1 (rfl : ((itc (rdX r) xva xvc).all fun v => v.oneCell') = true) u hu) (by have := hI.i6; dsimp only at this; omega) (by omega)) ?_; rintro v53 _ _ ⟨rfl, R53, rfl, o53, _⟩
   obtain ⟨a53, c53, rfl⟩ := o53.form
   refine sFa rfl ?_
   refine sSt rfl ?_
   refine wAc (jT (wAa (jp rfl (jp rfl (wAi rfl rfl (qEq (qSl rfl rfl rfl (.no _) (.no _) (.of (v := rdS r) rfl (by omega) (by omega)) (by omega) (by simp)) (v' := .slice (slA ra (rdS r) rc 1) (r.drop (rdS r)).length (rc - rdS r)) (by rw [List.length_drop])) ?_)))))
   refine jp rfl (wAc (jB (jT (wAa (jp rfl (ja rfl (by omega) ?_))))))
   refine jp rfl (wAc ?_)
   have hI6 := hI.le
   dsimp only at hI6
   refine wAn (i + 1, M3, slA ra (rdS r) rc 1, rc - rdS r, r.drop (rdS r), a53, c53, R53, ps ++ [((rdX r, .slice xva (rdX r).val.length xvc) : It × Value)]) (.cons (t := 2) rfl (.cons (t := 4) rfl (.cons (t := 6) rfl (.cons (t := 7) rfl (.cons (t := 8) rfl .nil))))) ⟨by show i + 1 ≤ 6; omega, by show i + 1 ≤ min _ _; rw [← hm]; omega, hI.mem.trans hM3, SM.dropB (hI.sm.mono hM3) z2 hcap, by show (r.drop (rdS r)).length ≤ rc - rdS r; rw [List.length_drop]; omega, by show (r.drop (rdS r)).length ≤ 124; rw [List.length_drop]; omega, ?_, ?_, ?_, ?_⟩ (by show 6 - (i + 1) < 6 - i; omega) (fun _ h => h.subC fun f => by simp only [List.map_append, List.map_cons, List.map_nil, List.sum_append, List.sum_cons, List.sum_nil]; omega)
   ·have e := hI.eq; dsimp only at e ⊢; rw [e, ← hm, show m - i = (m - (i + 1)) + 1 by omega, rdItems_on hE, List.map_append]; rfl
   ·show Own (.slice a53 (i + 1) c53) R53 _ 5 (i + 1) ((ps ++ [((rdX r, .slice xva (rdX r).val.length xvc) : It × Value)]).flatMap wCp); rw [List.flatMap_append, List.flatMap_cons, List.flatMap_nil, List.append_nil]; exact o53
   ·show (ps ++ [((rdX r, .slice xva (rdX r).val.length xvc) : It × Value)]).length = i + 1; have := hI.len; dsimp only at this; rw [List.length_append, this]; rfl
   intro p hp
   rcases List.mem_append.1 hp with hp | hp
   ·exact (hI.bs p hp).mono hM3
   rw [List.mem_singleton.1 hp]; exact ⟨xva, xvc, rfl, hvc3, hvs3⟩
  refine jp rfl (wAc (jT (wAk rfl (wAs (jTx (jTx (jBx (jT (wAb (wAb ?_))))))))))
  obtain rfl : i = m := by omega
  have hq := hI.eq
  dsimp only at hq
  rw [← hm, Nat.sub_self, wCe, hm] at hq
  refine jc_own hI.own (by simp) ?_
  intro M9 a9 c9 hM9 e9 hc9 hs9
  dsimp only at e9 hs9
  cases e9
  have hlen := hI.len
  dsimp only at hlen
  have hns : NS M9 (.slice xa i xc) (ps.map (·.1)) := ⟨xa, xc, ps, by rw [List.length_map, hlen], by rw [List.length_map, hlen]; exact hc9, hs9, rfl, fun p hp => (hI.bs p hp).mono hM9⟩
  have hl2 : (ps.map (·.1)).length = i := by rw [List.length_map, hlen]
  obtain ⟨zs, f1, f2, f3, hfine⟩ := rd_back hq
  rw [List.nil_append] at f1
  subst f1
  refine wAa (sLL rfl ?_)
  refine wDf rfl rfl (wAy rfl rfl rfl rfl rfl (by kernel_rfl) (rmay6_spec ((b.getD 1 0).toNat : Int) (ps.map (·.1)) (.slice xa i xc) M9 hns (by rw [hl2]; have := hI.i6; dsimp only at this; omega))) (fun h59 => ?_) (fun h59 => ?_)
  ·refine jp rfl (jp rfl (jp rfl (sLL rfl ?_)))
   refine wAv rfl rfl (wAt rfl rfl rfl rfl rfl (by kernel_rfl) (by have := rtold6_spec ((b.getD 1 0).toNat : Int) (ps.map (·.1)) xa xc ps M9 hs9 rfl (fun p hp => (hI.bs p hp).mono hM9) (by rw [hl2]; exact hI.i6) hfine; rw [hl2] at this; exact this)) ?_; rintro _ M64 _ ⟨hM64, R64, rfl, o64⟩
   refine wDw o64 (by simp) ?_
   intro M65 a65 c65 hM65 e65 hc65 hs65
   subst e65
   have hbb := itBs_le hfine
   rw [hl2] at hbb
   have hi6 := hI.i6
   dsimp only at hi6
   have hrl : (wJh ((b.getD 1 0).toNat : Int) (ps.map (·.1))).length ≤ 100000 := by unfold wJh; simp only [List.length_append, List.length_cons, List.length_nil]; omega
   have hsmq := rsame6_spec (some ⟨sb, so, none⟩) a65 vc c65 b (wJh ((b.getD 1 0).toNat : Int) (ps.map (·.1))) M65 (.inr ⟨sb, so, rfl, fun i v hv => (hx i v hv).mono (hI.mem.trans (hM9.trans (hM64.trans hM65)))⟩) hs65 (by omega) hrl
   obtain ⟨rw_, hrw⟩ : ∃ x, x = wJh ((b.getD 1 0).toNat : Int) (ps.map (·.1)) := ⟨_, rfl⟩
   rw [← hrw] at hsmq hrl ⊢
   refine wDf rfl rfl (wAy rfl rfl rfl rfl rfl (by kernel_rfl) hsmq) (fun h65 => ?_) (fun h65 => ?_)
   ·refine jp rfl (jp rfl (wAc (jT (wAk rfl (wAd (jT (wAb (wAa (sLL rfl ?_)))))))))
    refine sSt rfl ?_
    refine jp rfl (wAc (jT (wAf (wBr (rs := [_, _]) ([]) (by exact List.nil_sublist _) rfl (.cons (.agg rfl rfl rfl) (.cons (.tmp rfl) .nil)) ?_))))
    refine ⟨?_, rfl⟩
    unfold NdPost
    rw [rdn_ok hB ho hbl hq h59 (by rw [← hrw]; exact h65)]
    exact ⟨_, rfl, hns.mono (hM64.trans hM65)⟩
   refine jp rfl (jp rfl (wAc (jT (wAg rfl (wAb (wAa (wAi rfl rfl (wAq (cs := [_, _]) rfl rfl rfl (by rfl)) ?_)))))))
   refine sSt rfl ?_
   refine jp rfl (wAc (jT (wAf (jTr (wBr (rs := [_, _]) ([]) (by exact List.nil_sublist _) rfl (.cons (.agg rfl rfl rfl) (.cons (.tmp rfl) .nil)) ?_)))))
   exact ⟨NdPost.no (rdn_bad hB ho hbl hq (.inr (by rw [← hrw]; exact h65))) (by decide), rfl⟩
  iterate 8 refine jp rfl ?_
  refine wAc (jT (wAg rfl (wAb (wAa (wAi rfl rfl (wAq (cs := [_, _]) rfl rfl rfl (by rfl)) ?_)))))
  refine sSt rfl ?_
  refine jp rfl (wAc (jT (wAf (jTr (wBr (rs := [_, _]) ([]) (by exact List.nil_sublist _) rfl (.cons (.agg rfl rfl rfl) (.cons (.tmp rfl) .nil)) ?_)))))
  exact ⟨NdPost.no (rdn_bad hB ho hbl hq (.inl h59)) (by decide), rfl⟩
 refine jp rfl (jp rfl (jp rfl (jp rfl (wAc (jT (wAk rfl (wAs (jTx (jTx (jBx (jT (wAb (wAb ?_)))))))))))))
 obtain rfl : i = m := by omega
 have hq := hI.eq
 dsimp only at hq
 rw [← hm, Nat.sub_self, wCe, hm] at hq
 refine jc_own hI.own (by simp) ?_
 intro M9 a9 c9 hM9 e9 hc9 hs9
 dsimp only at e9 hs9
 cases e9
 have hlen := hI.len
 dsimp only at hlen
 have hns : NS M9 (.slice xa i xc) (ps.map (·.1)) := ⟨xa, xc, ps, by rw [List.length_map, hlen], by rw [List.length_map, hlen]; exact hc9, hs9, rfl, fun p hp => (hI.bs p hp).mono hM9⟩
 have hl2 : (ps.map (·.1)).length = i := by rw [List.length_map, hlen]
 obtain ⟨zs, f1, f2, f3, hfine⟩ := rd_back hq
 rw [List.nil_append] at f1
 subst f1
 refine wAa (sLL rfl ?_)
 refine wDf rfl rfl (wAy rfl rfl rfl rfl rfl (by kernel_rfl) (rmay6_spec ((b.getD 1 0).toNat : Int) (ps.map (·.1)) (.slice xa i xc) M9 hns (by rw [hl2]; have := hI.i6; dsimp only at this; omega))) (fun h59 => ?_) (fun h59 => ?_)
 ·refine jp rfl (jp rfl (jp rfl (sLL rfl ?_)))
  refine wAv rfl rfl (wAt rfl rfl rfl rfl rfl (by kernel_rfl) (by have := rtold6_spec ((b.getD 1 0).toNat : Int) (ps.map (·.1)) xa xc ps M9 hs9 rfl (fun p hp => (hI.bs p hp).mono hM9) (by rw [hl2]; exact hI.i6) hfine; rw [hl2] at this; exact this)) ?_; rintro _ M64 _ ⟨hM64, R64, rfl, o64⟩
  refine wDw o64 (by simp) ?_
  intro M65 a65 c65 hM65 e65 hc65 hs65
  subst e65
  have hbb := itBs_le hfine
  rw [hl2] at hbb
  have hi6 := hI.i6
  dsimp only at hi6
  have hrl : (wJh ((b.getD 1 0).toNat : Int) (ps.map (·.1))).length ≤ 100000 := by unfold wJh; simp only [List.length_append, List.length_cons, List.length_nil]; omega
  have hsmq := rsame6_spec (some ⟨sb, so, none⟩) a65 vc c65 b (wJh ((b.getD 1 0).toNat : Int) (ps.map (·.1))) M65 (.inr ⟨sb, so, rfl, fun i v hv => (hx i v hv).mono (hI.mem.trans (hM9.trans (hM64.trans hM65)))⟩) hs65 (by omega) hrl
  obtain ⟨rw_, hrw⟩ : ∃ x, x = wJh ((b.getD 1 0).toNat : Int) (ps.map (·.1)) := ⟨_, rfl⟩
  rw [← hrw] at hsmq hrl ⊢
  refine wDf rfl rfl (wAy rfl rfl rfl rfl rfl (by kernel_rfl) hsmq) (fun h65 => ?_) (fun h65 => ?_)
  ·refine jp rfl (jp rfl (wAc (jT (wAk rfl (wAd (jT (wAb (wAa (sLL rfl ?_)))))))))
   refine sSt rfl ?_
   refine jp rfl (wAc (jT (wAf (wBr (rs := [_, _]) ([]) (by exact List.nil_sublist _) rfl (.cons (.agg rfl rfl rfl) (.cons (.tmp rfl) .nil)) ?_))))
   refine ⟨?_, rfl⟩
   unfold NdPost
   rw [rdn_ok hB ho hbl hq h59 (by rw [← hrw]; exact h65)]
   exact ⟨_, rfl, hns.mono (hM64.trans hM65)⟩
  refine jp rfl (jp rfl (wAc (jT (wAg rfl (wAb (wAa (wAi rfl rfl (wAq (cs := [_, _]) rfl rfl rfl (by rfl)) ?_)))))))
  refine sSt rfl ?_
  refine jp rfl (wAc (jT (wAf (jTr (wBr (rs := [_, _]) ([]) (by exact List.nil_sublist _) rfl (.cons (.agg rfl rfl rfl) (.cons (.tmp rfl) .nil)) ?_)))))
  exact ⟨NdPost.no (rdn_bad hB ho hbl hq (.inr (by rw [← hrw]; exact h65))) (by decide), rfl⟩
 iterate 8 refine jp rfl ?_
 refine wAc (jT (wAg rfl (wAb (wAa (wAi rfl rfl (wAq (cs := [_, _]) rfl rfl rfl (by rfl)) ?_)))))
 refine sSt rfl ?_
 refine jp rfl (wAc (jT (wAf (jTr (wBr (rs := [_, _]) ([]) (by exact List.nil_sublist _) rfl (.cons (.agg rfl rfl rfl) (.cons (.tmp rfl) .nil)) ?_)))))
 exact ⟨NdPost.no (rdn_bad hB ho hbl hq (.inl h59)) (by decide), rfl⟩
theorem rread6_spec (v : Value) (blk : List By) (M : Mem) (hv : BS M v blk) (hn : blk.length ≤ 100000) : SpecL Tryz.prog 109 #[v] M [] fun u M' L' => NdPost blk u M' ∧ L' = [] := by
 by_cases h : blk.length = 128
 ·by_cases hb : wGm blk 0 4 = wJe (blk.drop 4)
  ·exact rread6_main v blk M hv hn h hb
  exact rread6_sum v blk M hv hn h hb
 exact rread6_len v blk M hv hn h
end Go.Proofs.YtbhkdjheooknfaaGreat
