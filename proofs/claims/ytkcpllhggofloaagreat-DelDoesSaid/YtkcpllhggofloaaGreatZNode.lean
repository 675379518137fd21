/- Walks: items and nodes read. -/
import Derived.Test.YtkcpllhggofloaaGreatZCode
namespace Go.Proofs.YtkcpllhggofloaaGreat
set_option linter.unusedVariables false
set_option linter.unusedSectionVars false
set_option linter.unusedSimpArgs false
open Go.RowKit
def rdS (xs : List By) : Nat := 12 + (xs.getD 11 0).toNat
def rdX (xs : List By) : It := ⟨⟨((xs.getD 0 0).toNat : Int), wJa xs 1 4, wJa xs 5 4⟩, wJa xs 9 2, (xs.drop 12).take (rdS xs - 12)⟩
def rdE (xs : List By) : Int := if xs.length < 12 then 8 else if xs.length < rdS xs then 8 else wGc (rdX xs)
def zeroIt : List Value := [.int .u8 0, .int .u32 0, .int .u32 0, .int .i64 0, .slice none 0 0]
theorem wHy {xs : List By} {j : Nat} (h : j < xs.length) : (wAj xs)[j]? = some (.int .u8 ((xs.getD j 0).toNat : Int)) := by simp [wAj, List.getD, h]
theorem rdX_len {xs : List By} (h : rdS xs ≤ xs.length) : (rdX xs).val.length = rdS xs - 12 := by
 simp only [rdX, List.length_take, List.length_drop]; unfold rdS at h ⊢; omega
theorem iread_len (sa : Option Addr) (c : Nat) (xs : List By) (M : Mem) (hc : xs.length ≤ c) (hs : SM M sa (wAj xs)) (hn : xs.length ≤ 100000) (h : xs.length < 12) :
  SpecL Tryz.prog 85 #[.slice sa xs.length c] M [] fun v _ L' => v = .tuple #[.agg zeroIt.toArray, .int .i64 0, .int .i64 (8)] ∧ L' = [] := by
 refine wAf (vs := [_]) 59 _ Tryz.func85 rfl Tryz.ntmps85 rfl rfl ?_; intro W
 refine wAb (wAa (sAl rfl fun b2 => ?_))
 refine jp rfl (jp rfl (wAc (jT (wAb (wAb (wAa (jp rfl (wAi rfl rfl (wBj rfl rfl rfl) ?_))))))))
 refine jt rfl (decide_eq_true (by omega)) ?_
 refine wAc (jT (wAg rfl (wAb (wAa (wAi rfl rfl (wBa (cs := [_, _, _, _, _]) rfl rfl rfl (by rfl)) ?_)))))
 refine sSt rfl ?_
 refine jp rfl (jp rfl (wAc (jT (wAe (jTr (wDa (rs := [_, _, _]) ([]) (by simp) rfl (.cons (.agg rfl rfl rfl) (.cons (.tmp rfl) (.cons (.tmp rfl) .nil))) ?_))))))
 exact ⟨rfl, rfl⟩
theorem iread_size (sa : Option Addr) (c : Nat) (xs : List By) (M : Mem) (hc : xs.length ≤ c) (hs : SM M sa (wAj xs)) (hn : xs.length ≤ 100000) (h : ¬ xs.length < 12) (h2 : xs.length < rdS xs) :
  SpecL Tryz.prog 85 #[.slice sa xs.length c] M [] fun v _ L' => v = .tuple #[.agg zeroIt.toArray, .int .i64 0, .int .i64 (8)] ∧ L' = [] := by
 obtain ⟨sb, so, e0, hx⟩ := hs.open (by intro e; have := congrArg List.length e; rw [wAm, List.length_nil] at this; omega)
 subst e0
 have hbl := (xs.getD 11 0).toNat_lt
 have hS : rdS xs = 12 + (xs.getD 11 0).toNat := rfl
 refine wAf (vs := [_]) 59 _ Tryz.func85 rfl Tryz.ntmps85 rfl rfl ?_; intro W
 refine wAb (wAa (sAl rfl fun b2 => ?_))
 refine jp rfl (jp rfl (wAc (jT (wAb (wAb (wAa (jp rfl (wAi rfl rfl (wBj rfl rfl rfl) ?_))))))))
 refine jf rfl (decide_eq_false (by omega)) ?_
 refine wAc (jT (wAk rfl (wAd (jT (wAb (wAb (wAa (jp rfl (wAi rfl rfl (wBe rfl rfl rfl rfl (by omega)) ?_)))))))))
 refine wAi rfl rfl (qLd rfl rfl rfl rfl ((hx ((11 : Int).toNat * 1) _ (wHy (j := 11) (by omega))).cj _)) ?_
 refine wAi rfl rfl (wEm rfl rfl rfl (by omega)) ?_
 refine ja rfl (by omega) ?_
 refine jp rfl (wAc (jT (wAb (wAa (jp rfl (jp rfl (wAi rfl rfl (wBj rfl rfl rfl) ?_)))))))
 refine jt rfl (decide_eq_true (by omega)) ?_
 refine wAc (jT (wAg rfl (wAb (wAa (wAi rfl rfl (wBa (cs := [_, _, _, _, _]) rfl rfl rfl (by rfl)) ?_)))))
 refine sSt rfl ?_
 refine jp rfl (jp rfl (wAc (jT (wAe (jTr (wDa (rs := [_, _, _]) ([]) (by simp) rfl (.cons (.agg rfl rfl rfl) (.cons (.tmp rfl) (.cons (.tmp rfl) .nil))) ?_))))))
 exact ⟨rfl, rfl⟩
theorem iread_chk (sa : Option Addr) (c : Nat) (xs : List By) (M : Mem) (hc : xs.length ≤ c) (hs : SM M sa (wAj xs)) (hn : xs.length ≤ 100000) (h : ¬ xs.length < 12) (h2 : ¬ xs.length < rdS xs) (h3 : wGc (rdX xs) ≠ 0) :
  SpecL Tryz.prog 85 #[.slice sa xs.length c] M [] fun v _ L' => v = .tuple #[.agg zeroIt.toArray, .int .i64 0, .int .i64 (wGc (rdX xs))] ∧ L' = [] := by
 obtain ⟨sb, so, e0, hx⟩ := hs.open (by intro e; have := congrArg List.length e; rw [wAm, List.length_nil] at this; omega)
 subst e0
 have hbl := (xs.getD 11 0).toNat_lt
 have hS : rdS xs = 12 + (xs.getD 11 0).toNat := rfl
 have hvl := rdX_len (xs := xs) (by omega)
 have hsv : SM M (slA (some ⟨sb, so, none⟩) 12 (rdS xs) 1) (wAj (rdX xs).val) := by
   by_cases hz : rdS xs = 12
   ·left; have : (rdX xs).val = [] := List.eq_nil_of_length_eq_zero (by omega); rw [this]; rfl
   rw [wBn (by omega)]; exact .inr ⟨sb, _, rfl, SM.sub 12 (rdS xs - 12) hx⟩
 have hbs : BS M (.slice (slA (some ⟨sb, so, none⟩) 12 (rdS xs) 1) (rdX xs).val.length (rdS xs - 12)) (rdX xs).val := ⟨_, _, rfl, by omega, hsv⟩
 refine wAf (vs := [_]) 59 _ Tryz.func85 rfl Tryz.ntmps85 rfl rfl ?_; intro W
 refine wAb (wAa (sAl rfl fun b2 => ?_))
 refine jp rfl (jp rfl (wAc (jT (wAb (wAb (wAa (jp rfl (wAi rfl rfl (wBj rfl rfl rfl) ?_))))))))
 refine jf rfl (decide_eq_false (by omega)) ?_
 refine wAc (jT (wAk rfl (wAd (jT (wAb (wAb (wAa (jp rfl (wAi rfl rfl (wBe rfl rfl rfl rfl (by omega)) ?_)))))))))
 refine wAi rfl rfl (qLd rfl rfl rfl rfl ((hx ((11 : Int).toNat * 1) _ (wHy (j := 11) (by omega))).cj _)) ?_
 refine wAi rfl rfl (wEm rfl rfl rfl (by omega)) ?_
 refine ja rfl (by omega) ?_
 refine jp rfl (wAc (jT (wAb (wAa (jp rfl (jp rfl (wAi rfl rfl (wBj rfl rfl rfl) ?_)))))))
 refine jf rfl (decide_eq_false (by omega)) ?_
 refine wAc (jT (wAk rfl (wAd (jT (wAb (wAa (jp rfl (wAi rfl rfl (wBe rfl rfl rfl rfl (by omega)) ?_))))))))
 refine wAi rfl rfl (qLd rfl rfl rfl rfl ((hx ((0 : Int).toNat * 1) _ (wHy (j := 0) (by omega))).cj _)) ?_
 refine sFF rfl rfl ?_
 refine sSt rfl ?_
 refine wAc (jT (wAb (wAa (jp rfl (wAi rfl rfl (wBr rfl rfl rfl rfl rfl (by kernel_rfl) (wEx _ c xs 1 M hs hc (by omega) (by omega))) ?_)))))
 refine jp rfl (jp rfl (jp rfl (sFF rfl rfl ?_)))
 refine sSt rfl ?_
 refine wAc (jT (wAb (wAa (jp rfl (wAi rfl rfl (wBr rfl rfl rfl rfl rfl (by kernel_rfl) (wEx _ c xs 5 M hs hc (by omega) (by omega))) ?_)))))
 refine jp rfl (jp rfl (jp rfl (sFF rfl rfl ?_)))
 refine sSt rfl ?_
 refine wAc (jT (wAb (wAa (jp rfl (wAi rfl rfl (wBr rfl rfl rfl rfl rfl (by kernel_rfl) (getTwo_spec _ c xs 9 M hs hc (by omega) (by omega))) ?_)))))
 refine jp rfl (jp rfl (jp rfl (sFa rfl ?_)))
 refine sSt rfl ?_
 refine wAc (jT (wAb (wAa (jp rfl (jp rfl (jp rfl (wAi rfl rfl (qEq (qSl rfl rfl rfl (.of (v := rdS xs) rfl (by omega) (by omega)) (.of (v := rdS xs) rfl (by omega) (by omega)) (.of (v := 12) rfl (by omega) rfl) (by omega) (by simp)) (v' := .slice (slA (some ⟨sb, so, none⟩) 12 (rdS xs) 1) (rdX xs).val.length (rdS xs - 12)) (by rw [hvl])) ?_)))))))
 refine sFa rfl ?_
 refine sSt rfl ?_
 refine wAc (jT (wAb (wAb (wAa (sLL rfl ?_)))))
 refine wAi rfl rfl (wBr rfl rfl rfl rfl rfl (by kernel_rfl) (wFw (rdX xs) _ M hbs)) ?_
 refine jp rfl (wAc (jT (wAb (wAa (jp rfl (jt rfl (decide_eq_true (by omega)) ?_))))))
 refine wAc (jT (wAg rfl (wAb (wAa (wAi rfl rfl (wBa (cs := [_, _, _, _, _]) rfl rfl rfl (by rfl)) ?_)))))
 refine jp rfl (sSt rfl ?_)
 refine jp rfl (jp rfl (wAc (jT (wAe (jTr (wDa (rs := [_, _, _]) ([]) (by simp) rfl (.cons (.agg rfl rfl rfl) (.cons (.tmp rfl) (.cons (.tmp rfl) .nil))) ?_))))))
 exact ⟨rfl, rfl⟩
theorem iread_ok (sa : Option Addr) (c : Nat) (xs : List By) (M : Mem) (hc : xs.length ≤ c) (hs : SM M sa (wAj xs)) (hn : xs.length ≤ 100000) (h : ¬ xs.length < 12) (h2 : ¬ xs.length < rdS xs) (h3 : wGc (rdX xs) = 0) :
  SpecL Tryz.prog 85 #[.slice sa xs.length c] M [] fun v M' L' => ∃ cs, v = .tuple #[.agg cs.toArray, .int .i64 (rdS xs), .int .i64 0] ∧ IR (wEn M M') cs (rdX xs) ∧ L' = [] := by
 obtain ⟨sb, so, e0, hx⟩ := hs.open (by intro e; have := congrArg List.length e; rw [wAm, List.length_nil] at this; omega)
 subst e0
 have hbl := (xs.getD 11 0).toNat_lt
 have hS : rdS xs = 12 + (xs.getD 11 0).toNat := rfl
 have hvl := rdX_len (xs := xs) (by omega)
 have hsv : SM M (slA (some ⟨sb, so, none⟩) 12 (rdS xs) 1) (wAj (rdX xs).val) := by
   by_cases hz : rdS xs = 12
   ·left; have : (rdX xs).val = [] := List.eq_nil_of_length_eq_zero (by omega); rw [this]; rfl
   rw [wBn (by omega)]; exact .inr ⟨sb, _, rfl, SM.sub 12 (rdS xs - 12) hx⟩
 have hbs : BS M (.slice (slA (some ⟨sb, so, none⟩) 12 (rdS xs) 1) (rdX xs).val.length (rdS xs - 12)) (rdX xs).val := ⟨_, _, rfl, by omega, hsv⟩
 refine wAf (vs := [_]) 59 _ Tryz.func85 rfl Tryz.ntmps85 rfl rfl ?_; intro W
 refine wAb (wAa (sAl rfl fun b2 => ?_))
 refine jp rfl (jp rfl (wAc (jT (wAb (wAb (wAa (jp rfl (wAi rfl rfl (wBj rfl rfl rfl) ?_))))))))
 refine jf rfl (decide_eq_false (by omega)) ?_
 refine wAc (jT (wAk rfl (wAd (jT (wAb (wAb (wAa (jp rfl (wAi rfl rfl (wBe rfl rfl rfl rfl (by omega)) ?_)))))))))
 refine wAi rfl rfl (qLd rfl rfl rfl rfl ((hx ((11 : Int).toNat * 1) _ (wHy (j := 11) (by omega))).cj _)) ?_
 refine wAi rfl rfl (wEm rfl rfl rfl (by omega)) ?_
 refine ja rfl (by omega) ?_
 refine jp rfl (wAc (jT (wAb (wAa (jp rfl (jp rfl (wAi rfl rfl (wBj rfl rfl rfl) ?_)))))))
 refine jf rfl (decide_eq_false (by omega)) ?_
 refine wAc (jT (wAk rfl (wAd (jT (wAb (wAa (jp rfl (wAi rfl rfl (wBe rfl rfl rfl rfl (by omega)) ?_))))))))
 refine wAi rfl rfl (qLd rfl rfl rfl rfl ((hx ((0 : Int).toNat * 1) _ (wHy (j := 0) (by omega))).cj _)) ?_
 refine sFF rfl rfl ?_
 refine sSt rfl ?_
 refine wAc (jT (wAb (wAa (jp rfl (wAi rfl rfl (wBr rfl rfl rfl rfl rfl (by kernel_rfl) (wEx _ c xs 1 M hs hc (by omega) (by omega))) ?_)))))
 refine jp rfl (jp rfl (jp rfl (sFF rfl rfl ?_)))
 refine sSt rfl ?_
 refine wAc (jT (wAb (wAa (jp rfl (wAi rfl rfl (wBr rfl rfl rfl rfl rfl (by kernel_rfl) (wEx _ c xs 5 M hs hc (by omega) (by omega))) ?_)))))
 refine jp rfl (jp rfl (jp rfl (sFF rfl rfl ?_)))
 refine sSt rfl ?_
 refine wAc (jT (wAb (wAa (jp rfl (wAi rfl rfl (wBr rfl rfl rfl rfl rfl (by kernel_rfl) (getTwo_spec _ c xs 9 M hs hc (by omega) (by omega))) ?_)))))
 refine jp rfl (jp rfl (jp rfl (sFa rfl ?_)))
 refine sSt rfl ?_
 refine wAc (jT (wAb (wAa (jp rfl (jp rfl (jp rfl (wAi rfl rfl (qEq (qSl rfl rfl rfl (.of (v := rdS xs) rfl (by omega) (by omega)) (.of (v := rdS xs) rfl (by omega) (by omega)) (.of (v := 12) rfl (by omega) rfl) (by omega) (by simp)) (v' := .slice (slA (some ⟨sb, so, none⟩) 12 (rdS xs) 1) (rdX xs).val.length (rdS xs - 12)) (by rw [hvl])) ?_)))))))
 refine sFa rfl ?_
 refine sSt rfl ?_
 refine wAc (jT (wAb (wAb (wAa (sLL rfl ?_)))))
 refine wAi rfl rfl (wBr rfl rfl rfl rfl rfl (by kernel_rfl) (wFw (rdX xs) _ M hbs)) ?_
 refine jp rfl (wAc (jT (wAb (wAa (jp rfl (jf rfl (decide_eq_false (by omega)) ?_))))))
 refine wAc (jT (wAk rfl (wAd (jT (wAb (wAa (sLL rfl ?_)))))))
 refine wAy rfl rfl (wAu rfl rfl rfl rfl rfl (by kernel_rfl) (twin_spec (rdX xs) _ M hbs (by omega))) ?_; rintro _ M1 _ ⟨hM1, _, rfl, ⟨cs, rfl, hir, rfl⟩⟩
 obtain ⟨s1, rfl, a1, c1, rfl, hc1, hs1⟩ := hir
 refine jp rfl (sSt rfl ?_)
 refine jp rfl (jp rfl (wAc (jT (wAe (wDa (rs := [_, _, _]) ([]) (by simp) rfl (.cons (.agg rfl rfl rfl) (.cons (.tmp rfl) (.cons (.tmp rfl) .nil))) ?_)))))
 exact ⟨_, rfl, ⟨_, rfl, a1, c1, rfl, hc1, hs1⟩, rfl⟩
def mxB (xs : List By) : Int := (xs.drop 1).foldl (fun m x => max m (x.toNat : Int)) ((xs.getD 0 0).toNat : Int)
def mxK (xs : List By) (k : Nat) : Int := ((xs.drop 1).take k).foldl (fun m x => max m (x.toNat : Int)) ((xs.getD 0 0).toNat : Int)
theorem mxK_step {xs : List By} {k : Nat} (h : k + 1 < xs.length) : mxK xs (k + 1) = max (mxK xs k) (xs[k + 1].toNat : Int) := by
 unfold mxK
 rw [List.take_succ_eq_append_getElem (by rw [List.length_drop]; omega), List.foldl_append]
 simp [Nat.add_comm]
theorem mx_le (ys : List By) : ∀ m : Int, m ≤ ys.foldl (fun m x => max m (x.toNat : Int)) m ∧ ∀ y ∈ ys, (y.toNat : Int) ≤ ys.foldl (fun m x => max m (x.toNat : Int)) m := by
 induction ys with
 | nil => intro m; simp
 | cons y ys ih =>
  intro m
  have := ih (max m (y.toNat : Int))
  refine ⟨by simp only [List.foldl_cons]; omega, fun z hz => ?_⟩
  rcases List.mem_cons.1 hz with rfl | hz
  ·simp only [List.foldl_cons]; omega
  simp only [List.foldl_cons]; exact this.2 z hz
theorem mx_zero (ys : List By) (h : ∀ y ∈ ys, y = 0) : ys.foldl (fun m x => max m (x.toNat : Int)) 0 = 0 := by
 induction ys with
 | nil => rfl
 | cons y ys ih => rw [List.foldl_cons, h y (by simp)]; exact ih (fun z hz => h z (by simp [hz]))
def wDq (xs : List By) : Bool := xs.all (· == 0)
theorem mxB_pos {xs : List By} (h : 0 < xs.length) : decide (0 < mxB xs) = !wDq xs := by
 obtain ⟨x, ys, rfl⟩ := List.exists_cons_of_length_pos h
 by_cases hz : ∀ y ∈ x :: ys, y = 0
 ·have h1 : wDq (x :: ys) = true := by unfold wDq; rw [List.all_eq_true]; intro y hy; simp [hz y hy]
  have h2 : mxB (x :: ys) = 0 := by
   unfold mxB; simp only [List.drop_succ_cons, List.drop_zero, List.getD_cons_zero, hz x (by simp)]
   exact mx_zero ys (fun y hy => hz y (by simp [hy]))
  rw [h1, h2]; rfl
 have h1 : wDq (x :: ys) = false := by
  rw [Bool.eq_false_iff]; intro e; apply hz; intro y hy
  have := List.all_eq_true.1 e y hy; simpa using this
 have h2 : 0 < mxB (x :: ys) := by
  have hle := mx_le ys ((x.toNat : Int))
  unfold mxB; simp only [List.drop_succ_cons, List.drop_zero, List.getD_cons_zero]
  obtain ⟨y, hy0⟩ := Classical.not_forall.1 hz
  obtain ⟨hy, hne⟩ := Classical.not_imp.1 hy0
  have hp : 0 < (y.toNat : Int) := by
   have : y.toNat ≠ 0 := fun e => hne (UInt8.toNat_inj.1 e)
   omega
  rcases List.mem_cons.1 hy with rfl | hy
  ·omega
  have := hle.2 y hy; omega
 rw [h1]; simp [h2]
theorem max_spec (sa : Option Addr) (c : Nat) (xs : List By) (M : Mem) (hs : SM M sa (wAj xs)) (hn : xs.length ≤ 1000000) (h0 : 0 < xs.length) :
  SpecL Tryz.prog 87 #[.slice sa xs.length c] M [] fun v _ _ => v = .int .u8 (mxB xs) := by
 obtain ⟨sb, so, e0, hx⟩ := hs.open (by intro e; have := congrArg List.length e; rw [wAm, List.length_nil] at this; omega)
 subst e0
 refine wAf (vs := [_]) 25 _ Tryz.func87 rfl Tryz.ntmps87 rfl rfl ?_; intro W
 refine wAb (wAa (jp rfl (wAc (jT (wAb (wAb (wAa (jp rfl (wAi rfl rfl (wBj rfl rfl rfl) ?_)))))))))
 refine jf rfl (decide_eq_false (by omega)) ?_
 refine wAc (jT (wAk rfl (wAd (jT (wAb (wAa (jp rfl (wAi rfl rfl (wBe rfl rfl rfl rfl (by omega)) ?_))))))))
 refine wAi rfl rfl (qLd rfl rfl rfl rfl ((hx ((0 : Int).toNat * 1) _ (wHy (j := 0) (by omega))).cj _)) ?_
 refine jp rfl (wAc (jT (wAb (wAb (wAa (jp rfl (wAc (jT (wAh ?_)))))))))
 refine wAv (α := Nat) (fun k => [(0, .slice (some ⟨sb, so, none⟩) xs.length c), (3, .int .u8 (mxK xs k)), (4, .int .i64 ((k + 1 : Nat) : Int))]) (fun _ => M) (fun _ => []) (fun k => k + 1 ≤ xs.length) (fun k => xs.length - k)
  0 (.cons (t := 0) rfl (.cons (t := 3) rfl (.cons (t := 4) rfl .nil))) (by omega) (fun _ h => h) ?_
 rintro k hk
 try dsimp only at hk ⊢
 refine wAb (wAb (wAa (jp rfl (jp rfl (wAi rfl rfl (wBj rfl rfl rfl) ?_)))))
 refine js rfl (fun h15 => ?_) (fun h15 => ?_)
 ·refine wAc (jT (wAg rfl (wAd (jT (wAb (wAh (wAa (jp rfl (jp rfl (jp rfl ?_))))))))))
  have hk1 : k + 1 < xs.length := by omega
  refine wAi rfl rfl (wBe rfl rfl rfl rfl (by omega)) ?_
  refine wAi rfl rfl (qLd rfl rfl rfl rfl ((hx ((((k + 1 : Nat) : Int)).toNat * 1) (.int .u8 xs[k + 1].toNat) (by simp [wAj, hk1])).cj _)) ?_
  refine wAi rfl rfl (qMax rfl rfl rfl rfl) ?_
  refine jp rfl (wAc (jB (jT (wAa (jp rfl (ja rfl (by omega) ?_))))))
  refine jp rfl (wAc ?_)
  refine wAp (k + 1) (.cons (t := 0) rfl (Keep.ceq (t := 3) rfl (by rw [mxK_step hk1]) (.cons (t := 4) rfl .nil))) (by omega) (by omega) (fun _ h => h)
 refine wAc (jT (wAk rfl (wAw (jTx (jTx (jBx (jT (wAb (wAa (jp rfl (jp rfl (wAc (jT (wAe (jr1 rfl rfl ?_)))))))))))))))
 show Value.int _ (mxK xs k) = _
 unfold mxK mxB; rw [List.take_of_length_le (by rw [List.length_drop]; omega)]
def wAs (p : It × Value) : List Value := [.int .u8 p.1.key.kind, .int .u32 p.1.key.id, .int .u32 p.1.key.off, .int .i64 p.1.ref, p.2]
theorem wAq (p : It × Value) : (wAs p).length = 5 := rfl
def NS (M : Mem) (v : Value) (xs : List It) : Prop := ∃ a c, ∃ ps : List (It × Value), v = .slice a xs.length c ∧ xs.length ≤ c ∧ SM M a (ps.flatMap wAs) ∧ ps.map (·.1) = xs ∧ ∀ p ∈ ps, BS M p.2 p.1.val
theorem NS.mono {M M' : Mem} {v : Value} {xs : List It} (h : NS M v xs) (hM : MLe M M') : NS M' v xs := by
 obtain ⟨a, c, ps, h1, h2, h3, h4, h5⟩ := h; exact ⟨a, c, ps, h1, h2, h3.mono hM, h4, fun p hp => (h5 p hp).mono hM⟩
theorem NS.nil {M : Mem} : NS M (.slice none 0 0) [] := ⟨none, 0, [], rfl, Nat.le_refl _, SM.nil, rfl, fun _ h => by cases h⟩
def wCj (above : Bool) : Option Ky → List It → Bool
 | _, [] => true
 | p, x :: xs => !wDu x && (match p with | none => true | some q => wBf q x.key) && (!above || (x.ref != 0 && x.val.length == 0)) && wCj above (some x.key) xs
def wEv (lv : Int) (xs : List It) : Bool := decide (0 ≤ lv ∧ lv < 6 ∧ xs.length ≤ 5 ∧ (0 < lv → xs.length ≠ 0)) && wCj (decide (0 < lv)) none xs
def wEp (lv : Int) (xs : List It) : Int := if wEv lv xs then 0 else 8
def wGa (xs : List It) (k : Nat) : Option Ky := match k with | 0 => none | j + 1 => (xs[j]?).map (·.key)
theorem itChk_cases (x : It) : (wDu x = true ∧ wGc x = 8) ∨ (wDu x = false ∧ wGc x = 0) := by
 unfold wGc; cases wDu x <;> simp
theorem ncheck_head (lv : Int) (xs : List It) (a : Option Addr) (c : Nat) (ps : List (It × Value)) (M : Mem) (hc : xs.length ≤ c) (hs : SM M a (ps.flatMap wAs)) (hp : ps.map (·.1) = xs) (hb : ∀ p ∈ ps, BS M p.2 p.1.val) (h : ¬ (0 ≤ lv ∧ lv < 6 ∧ xs.length ≤ 5 ∧ (0 < lv → xs.length ≠ 0))) :
  SpecL Tryz.prog 86 #[.agg #[.int .i64 lv, .slice a xs.length c]] M [] fun v _ _ => v = .int .i64 (wEp lv xs) := by
 refine wAf (vs := [_]) 76 _ Tryz.func86 rfl Tryz.ntmps86 rfl rfl ?_; intro W
 refine wAb (wAa (wAy rfl rfl (wCm (cs := [_, _]) rfl rfl rfl rfl) ?_)); rintro _ _ _ ⟨b1, rfl, rfl, rfl⟩
 refine jp rfl (wAc (jT (wAb (wAa (sFL rfl rfl ?_)))))
 refine js rfl (fun h9 => ?_) (fun h9 => ?_)
 ·refine jp rfl (wAc (jT (wAb (wAb (wAa (sFL rfl rfl ?_))))))
  refine js rfl (fun h12 => ?_) (fun h12 => ?_)
  ·iterate 20 refine jp rfl ?_
   refine wAc (jT (wAg rfl (wAb (wAa (jp rfl (wAc (jT (wAe (jTr (jr1 rfl rfl ?_))))))))))
   exact congrArg _ (by unfold wEp wEv; rw [if_neg]; intro e; rw [Bool.and_eq_true] at e; have := of_decide_eq_true e.1; omega)
  refine jp rfl (sFL rfl rfl ?_)
  refine js rfl (fun h16 => ?_) (fun h16 => ?_)
  ·iterate 16 refine jp rfl ?_
   refine wAc (jT (wAg rfl (wAb (wAa (jp rfl (wAc (jT (wAe (jTr (jr1 rfl rfl ?_))))))))))
   exact congrArg _ (by unfold wEp wEv; rw [if_neg]; intro e; rw [Bool.and_eq_true] at e; have := of_decide_eq_true e.1; omega)
  refine jp rfl (jp rfl (sFL rfl rfl ?_))
  refine wAi rfl rfl (wBj rfl rfl rfl) ?_
  refine js rfl (fun h22 => ?_) (fun h22 => ?_)
  ·iterate 10 refine jp rfl ?_
   refine wAc (jT (wAg rfl (wAb (wAa (jp rfl (wAc (jT (wAe (jTr (jr1 rfl rfl ?_))))))))))
   exact congrArg _ (by unfold wEp wEv; rw [if_neg]; intro e; rw [Bool.and_eq_true] at e; have := of_decide_eq_true e.1; omega)
  refine jp rfl (jp rfl (jp rfl (jp rfl (sFL rfl rfl ?_))))
  refine wAi rfl rfl (wBj rfl rfl rfl) ?_
  refine js rfl (fun h30 => ?_) (fun h30 => ?_)
  ·refine jp rfl (jp rfl (wAc (jT (wAg rfl (wAb (wAa (jp rfl (wAc (jT (wAe (jTr (jr1 rfl rfl ?_))))))))))))
   exact congrArg _ (by unfold wEp wEv; rw [if_neg]; intro e; rw [Bool.and_eq_true] at e; have := of_decide_eq_true e.1; omega)
  exfalso; omega
 refine jp rfl (wAc (jT (wAb (wAb (wAa (sFL rfl rfl ?_))))))
 refine js rfl (fun h12 => ?_) (fun h12 => ?_)
 ·iterate 20 refine jp rfl ?_
  refine wAc (jT (wAg rfl (wAb (wAa (jp rfl (wAc (jT (wAe (jTr (jr1 rfl rfl ?_))))))))))
  exact congrArg _ (by unfold wEp wEv; rw [if_neg]; intro e; rw [Bool.and_eq_true] at e; have := of_decide_eq_true e.1; omega)
 refine jp rfl (sFL rfl rfl ?_)
 refine js rfl (fun h16 => ?_) (fun h16 => ?_)
 ·iterate 16 refine jp rfl ?_
  refine wAc (jT (wAg rfl (wAb (wAa (jp rfl (wAc (jT (wAe (jTr (jr1 rfl rfl ?_))))))))))
  exact congrArg _ (by unfold wEp wEv; rw [if_neg]; intro e; rw [Bool.and_eq_true] at e; have := of_decide_eq_true e.1; omega)
 refine jp rfl (jp rfl (sFL rfl rfl ?_))
 refine wAi rfl rfl (wBj rfl rfl rfl) ?_
 refine js rfl (fun h22 => ?_) (fun h22 => ?_)
 ·iterate 10 refine jp rfl ?_
  refine wAc (jT (wAg rfl (wAb (wAa (jp rfl (wAc (jT (wAe (jTr (jr1 rfl rfl ?_))))))))))
  exact congrArg _ (by unfold wEp wEv; rw [if_neg]; intro e; rw [Bool.and_eq_true] at e; have := of_decide_eq_true e.1; omega)
 exfalso; omega
theorem prevK_succ {xs : List It} {k : Nat} (h : k < xs.length) : wGa xs (k + 1) = some xs[k].key := by simp [wGa, h]
theorem itemsOk_step {ab : Bool} {xs : List It} {k : Nat} (h : k < xs.length) : wCj ab (wGa xs k) (xs.drop k) = (!wDu xs[k] && (match wGa xs k with | none => true | some q => wBf q xs[k].key) && (!ab || (xs[k].ref != 0 && xs[k].val.length == 0)) && wCj ab (wGa xs (k + 1)) (xs.drop (k + 1))) := by
 rw [List.drop_eq_getElem_cons h, prevK_succ h]; rfl
abbrev itc (x : It) (va : Option Addr) (vc : Nat) : List Value := [.int .u8 x.key.kind, .int .u32 x.key.id, .int .u32 x.key.off, .int .i64 x.ref, .slice va x.val.length vc]
theorem wBt {M : Mem} {sb so : Nat} {xs : List It} {ps : List (It × Value)} (hx : ∀ i u, (ps.flatMap wAs)[i]? = some u → CM M sb (so + i) u) (hp : ps.map (·.1) = xs) (hb : ∀ p ∈ ps, BS M p.2 p.1.val) {k : Nat} (hk : k < xs.length) :
  ∃ va vc, (∀ i v, (itc xs[k] va vc)[i]? = some v → CM M sb (so + k * 5 + i) v) ∧ xs[k].val.length ≤ vc ∧ SM M va (wAj xs[k].val) := by
 have hk2 : k < ps.length := by rw [← hp, List.length_map] at hk; exact hk
 have hxk : xs[k] = ps[k].1 := by simp [← hp]
 obtain ⟨va, vc, hv, hc, hs⟩ := hb ps[k] (List.getElem_mem hk2)
 rw [← hxk] at hv hc hs
 refine ⟨va, vc, fun i v hv' => wKo wAs 5 wAq hx (show ps[k]? = some ps[k] by simp [hk2]) i v ?_, hc, hs⟩
 rw [← hv']
 unfold wAs itc
 rw [← hxk, hv]
def okAt (ab : Bool) (xs : List It) (k : Nat) (h : k < xs.length) : Bool := !wDu xs[k] && (match wGa xs k with | none => true | some q => wBf q xs[k].key) && (!ab || (xs[k].ref != 0 && xs[k].val.length == 0))
theorem wLk {lv : Int} {ab : Bool} {xs : List It} {k : Nat} (hab : decide (0 < lv) = ab) (hk : k < xs.length) (hI : wCj ab none xs = wCj ab (wGa xs k) (xs.drop k)) (hb : okAt ab xs k hk = false) : wEp lv xs = 8 := by
 unfold wEp wEv
 rw [if_neg]
 rw [hab, hI, itemsOk_step hk]
 unfold okAt at hb
 rw [hb]; simp
theorem nd_on {ab : Bool} {xs : List It} {k : Nat} (hk : k < xs.length) (hI : wCj ab none xs = wCj ab (wGa xs k) (xs.drop k)) (hb : okAt ab xs k hk = true) : wCj ab none xs = wCj ab (wGa xs (k + 1)) (xs.drop (k + 1)) := by
 rw [hI, itemsOk_step hk]
 unfold okAt at hb
 rw [hb]; simp
theorem nd_end {lv : Int} {ab : Bool} {xs : List It} {k : Nat} (h : 0 ≤ lv ∧ lv < 6 ∧ xs.length ≤ 5 ∧ (0 < lv → xs.length ≠ 0)) (hab : decide (0 < lv) = ab) (hk : k = xs.length) (hI : wCj ab none xs = wCj ab (wGa xs k) (xs.drop k)) : wEp lv xs = 0 := by
 unfold wEp wEv
 rw [if_pos]
 rw [hab, hI, List.drop_eq_nil_of_le (by omega)]
 simp only [Bool.and_eq_true, decide_eq_true_eq]
 exact ⟨h, rfl⟩
theorem bad_of_chk {x : It} (h : wGc x ≠ 0) : wDu x = true ∧ wGc x = 8 := (itChk_cases x).resolve_right fun h' => h h'.2
theorem wGr {x : It} (h : wGc x = 0) : wDu x = false := ((itChk_cases x).resolve_left fun h' => by rw [h'.2] at h; cases h).1
set_option maxHeartbeats 1000000 in
theorem ncheck_leaf (lv : Int) (xs : List It) (a : Option Addr) (c : Nat) (ps : List (It × Value)) (M : Mem) (hc : xs.length ≤ c) (hs : SM M a (ps.flatMap wAs)) (hp : ps.map (·.1) = xs) (hb : ∀ p ∈ ps, BS M p.2 p.1.val) (h : 0 ≤ lv ∧ lv < 6 ∧ xs.length ≤ 5 ∧ (0 < lv → xs.length ≠ 0)) (hlv : lv = 0) :
  SpecL Tryz.prog 86 #[.agg #[.int .i64 lv, .slice a xs.length c]] M [] fun v _ _ => v = .int .i64 (wEp lv xs) := by
 have hab : decide (0 < lv) = false := by simp; omega
 refine wAf (vs := [_]) 76 _ Tryz.func86 rfl Tryz.ntmps86 rfl rfl ?_; intro W
 refine wAb (wAa (wAy rfl rfl (wCm (cs := [_, _]) rfl rfl rfl rfl) ?_)); rintro _ _ _ ⟨b1, rfl, rfl, rfl⟩
 refine jp rfl (wAc (jT (wAb (wAa (sFL rfl rfl ?_)))))
 refine jf rfl (decide_eq_false (by omega)) ?_
 refine jp rfl (wAc (jT (wAb (wAb (wAa (sFL rfl rfl ?_))))))
 refine jf rfl (decide_eq_false (by omega)) ?_
 refine jp rfl (sFL rfl rfl ?_)
 refine jf rfl (decide_eq_false (by omega)) ?_
 refine jp rfl (jp rfl (sFL rfl rfl ?_))
 refine wAi rfl rfl (wBj rfl rfl rfl) ?_
 refine jf rfl (decide_eq_false (by omega)) ?_
 iterate 10 refine jp rfl ?_
 refine wAc (jT (wAk rfl (wAd (jT (wAb (wAb (wAa (sFL rfl rfl ?_))))))))
 refine wAi rfl rfl (wBj rfl rfl rfl) ?_
 refine jp rfl (wAc (jT (wAh ?_)))
 refine wAv (α := Nat) (fun k => [(1, .pointer (some ⟨b1, 0, none⟩)), (3, .bool false), (34, .slice a xs.length c), (35, .int .i64 xs.length), (36, .int .i64 k)]) (fun _ => M) (fun _ => [(b1, .cells [.int .i64 lv, .slice a xs.length c].toArray 53 (0, 0))]) (fun k => k ≤ xs.length ∧ wCj false none xs = wCj false (wGa xs k) (xs.drop k)) (fun k => xs.length - k)
  0 (.cons (t := 1) rfl (.cons (t := 3) rfl (.cons (t := 34) rfl (.cons (t := 35) rfl (.cons (t := 36) rfl .nil))))) ⟨Nat.zero_le _, rfl⟩ (fun _ h => h) ?_
 rintro k ⟨hk, hI⟩
 try dsimp only at hk hI ⊢
 refine wAb (wAa (js rfl (fun h37 => ?_) (fun h37 => ?_)))
 ·refine wAc (jT (wAb (wAg rfl (wAd (jT (wAb (wAh (wAb (wAa (jp rfl ?_))))))))))
  have hk1 : k < xs.length := by omega
  obtain ⟨sb, so, e0, hx⟩ := hs.open (by intro e; have := congrArg List.length e; rw [wBi wAs 5 wAq, List.length_nil] at this; have h2 := congrArg List.length hp; rw [List.length_map] at h2; omega)
  subst e0
  obtain ⟨va, vc, hcl, hvc, hvs⟩ := wBt hx hp hb hk1
  refine wAi rfl rfl (wBe rfl rfl rfl rfl (by omega)) ?_
  refine wAi rfl rfl (wGx (cs := itc xs[k] va vc) rfl rfl rfl rfl rfl (fun i v hv => (hcl i v hv).cj _)) ?_
  refine sAl rfl fun b5 => ?_
  refine jp rfl (sSt rfl ?_)
  refine wAc (jT (wAb (wAb (wAa (sLL rfl ?_)))))
  refine wAi rfl rfl (wBr rfl rfl rfl rfl rfl (by kernel_rfl) (wFw xs[k] _ M ⟨va, vc, rfl, hvc, hvs⟩)) ?_
  refine jp rfl (wAc (jT (wAb (wAa (jp rfl (js rfl (fun h44 => ?_) (fun h44 => ?_)))))))
  ·refine wAc (jT (wAg rfl (wAb (wAa (jp rfl (jp rfl (wAc (jT (wAe (jTr (jBr (jTr (jTr (jBr (jTr (jr1 rfl rfl ?_))))))))))))))))
   obtain ⟨q1, q2⟩ := bad_of_chk h44
   rw [q2, wLk hab hk1 hI (by simp [okAt, q1])]
  refine wAc (jT (wAk rfl (wAd (jT (wAb (wBp [(0, true), (1, true), (2, true), (3, true), (4, true), (5, true), (6, true), (7, true), (8, true), (9, true), (10, true), (11, true), (12, true), (13, true), (14, true), (15, true), (16, true), (17, true), (18, true), (19, true), (20, true), (21, true), (22, true), (23, true), (24, true), (25, true), (26, true), (27, true), (28, true)] _ (by kernel_rfl) (by kernel_rfl) (by kernel_rfl) rfl (fun _ h => h) ?_))))))
  refine dp rfl rfl ?_
  refine ds rfl rfl (fun h47 => ?_) (fun h47 => ?_)
  ·refine dp rfl rfl ?_
   refine dFa rfl rfl ?_
   refine dLd rfl rfl ?_
   refine dp rfl rfl ?_
   refine da rfl rfl (by omega) ?_
   obtain ⟨j, rfl⟩ : ∃ j, k = j + 1 := ⟨k - 1, by omega⟩
   have hj1 : j < xs.length := by omega
   obtain ⟨wa, wc, hcj, -, -⟩ := wBt hx hp hb hj1
   refine wBq rfl rfl rfl (qEq (wBe rfl rfl rfl rfl (by omega)) (v' := .pointer (some ⟨sb, so + j * 5, none⟩)) (by congr 3; omega)) ?_
   refine dFa rfl rfl ?_
   refine wBq rfl rfl rfl (wGx (cs := wBb xs[j].key) rfl rfl rfl rfl rfl (fun i v hv => (hcj i v (by match i, hv with | 0, hv => simpa [wBb] using hv | 1, hv => simpa [wBb] using hv | 2, hv => simpa [wBb] using hv | n + 3, hv => simp [wBb] at hv)).cj _)) ?_
   refine dFa rfl rfl ?_
   refine dLL rfl rfl ?_
   refine wKi rfl rfl rfl (wBr rfl rfl rfl rfl rfl (by kernel_rfl) (wHj xs[j].key xs[j + 1].key M)) (fun h58 => ?_) (fun h58 => ?_)
   ·iterate 16 refine dp rfl rfl ?_
    refine wBd (jPn (jT (wAk rfl (wAd (jB (jT (wAa (ja rfl (by omega) ?_))))))))
    refine jp rfl (wAc (wAp (j + 1 + 1) (.cons (t := 1) rfl (.cons (t := 3) rfl (.cons (t := 34) rfl (.cons (t := 35) rfl (.cons (t := 36) rfl .nil))))) ⟨by omega, nd_on hk1 hI ?_⟩ (by omega) (fun _ h => h.fewer (by simp))))
    simp [okAt, wGa, hj1, wGr (Classical.not_not.1 h44), h58]
   iterate 16 refine dp rfl rfl ?_
   refine wBd (jPn (jT (wAg rfl (wAb (wAa (jp rfl (wAc (jT (wAe (jBr (jTr (jTr (jBr (jTr (jr1 rfl rfl ?_)))))))))))))))
   rw [wLk hab hk1 hI (by simp [okAt, wGa, hj1, h58])]
  iterate 27 refine dp rfl rfl ?_
  refine wBd (jPn (jT (wAk rfl (wAd (jB (jT (wAa (ja rfl (by omega) ?_))))))))
  refine jp rfl (wAc (wAp (k + 1) (.cons (t := 1) rfl (.cons (t := 3) rfl (.cons (t := 34) rfl (.cons (t := 35) rfl (.cons (t := 36) rfl .nil))))) ⟨by omega, nd_on hk1 hI ?_⟩ (by omega) (fun _ h => h.fewer (by simp))))
  obtain rfl : k = 0 := by omega
  simp [okAt, wGa, wGr (Classical.not_not.1 h44)]
 refine wAc (jT (wAb (wAk rfl (wAw (jTx (jTx (jBx (jT (wAb (wAa (jp rfl (wAc (jT (wAe (jr1 rfl rfl ?_)))))))))))))))
 rw [nd_end h hab (by omega) hI]
set_option maxHeartbeats 1000000 in
theorem ncheck_node (lv : Int) (xs : List It) (a : Option Addr) (c : Nat) (ps : List (It × Value)) (M : Mem) (hc : xs.length ≤ c) (hs : SM M a (ps.flatMap wAs)) (hp : ps.map (·.1) = xs) (hb : ∀ p ∈ ps, BS M p.2 p.1.val) (h : 0 ≤ lv ∧ lv < 6 ∧ xs.length ≤ 5 ∧ (0 < lv → xs.length ≠ 0)) (hlv : 0 < lv) :
  SpecL Tryz.prog 86 #[.agg #[.int .i64 lv, .slice a xs.length c]] M [] fun v _ _ => v = .int .i64 (wEp lv xs) := by
 have hab : decide (0 < lv) = true := by simp; omega
 refine wAf (vs := [_]) 76 _ Tryz.func86 rfl Tryz.ntmps86 rfl rfl ?_; intro W
 refine wAb (wAa (wAy rfl rfl (wCm (cs := [_, _]) rfl rfl rfl rfl) ?_)); rintro _ _ _ ⟨b1, rfl, rfl, rfl⟩
 refine jp rfl (wAc (jT (wAb (wAa (sFL rfl rfl ?_)))))
 refine jt rfl (decide_eq_true (by omega)) ?_
 refine jp rfl (wAc (jT (wAb (wAb (wAa (sFL rfl rfl ?_))))))
 refine jf rfl (decide_eq_false (by omega)) ?_
 refine jp rfl (sFL rfl rfl ?_)
 refine jf rfl (decide_eq_false (by omega)) ?_
 refine jp rfl (jp rfl (sFL rfl rfl ?_))
 refine wAi rfl rfl (wBj rfl rfl rfl) ?_
 refine jf rfl (decide_eq_false (by omega)) ?_
 refine jp rfl (jp rfl (jp rfl (jp rfl (sFL rfl rfl ?_))))
 refine wAi rfl rfl (wBj rfl rfl rfl) ?_
 refine jf rfl (decide_eq_false (by omega)) ?_
 refine jp rfl (jp rfl (wAc (jT (wAk rfl (wAd (jT (wAb (wAb (wAa (sFL rfl rfl ?_))))))))))
 refine wAi rfl rfl (wBj rfl rfl rfl) ?_
 refine jp rfl (wAc (jT (wAh ?_)))
 refine wAv (α := Nat) (fun k => [(1, .pointer (some ⟨b1, 0, none⟩)), (3, .bool true), (34, .slice a xs.length c), (35, .int .i64 xs.length), (36, .int .i64 k)]) (fun _ => M) (fun _ => [(b1, .cells [.int .i64 lv, .slice a xs.length c].toArray 53 (0, 0))]) (fun k => k ≤ xs.length ∧ wCj true none xs = wCj true (wGa xs k) (xs.drop k)) (fun k => xs.length - k)
  0 (.cons (t := 1) rfl (.cons (t := 3) rfl (.cons (t := 34) rfl (.cons (t := 35) rfl (.cons (t := 36) rfl .nil))))) ⟨Nat.zero_le _, rfl⟩ (fun _ h => h) ?_
 rintro k ⟨hk, hI⟩
 try dsimp only at hk hI ⊢
 refine wAb (wAa (js rfl (fun h37 => ?_) (fun h37 => ?_)))
 ·refine wAc (jT (wAb (wAg rfl (wAd (jT (wAb (wAh (wAb (wAa (jp rfl ?_))))))))))
  have hk1 : k < xs.length := by omega
  obtain ⟨sb, so, e0, hx⟩ := hs.open (by intro e; have := congrArg List.length e; rw [wBi wAs 5 wAq, List.length_nil] at this; have h2 := congrArg List.length hp; rw [List.length_map] at h2; omega)
  subst e0
  obtain ⟨va, vc, hcl, hvc, hvs⟩ := wBt hx hp hb hk1
  refine wAi rfl rfl (wBe rfl rfl rfl rfl (by omega)) ?_
  refine wAi rfl rfl (wGx (cs := itc xs[k] va vc) rfl rfl rfl rfl rfl (fun i v hv => (hcl i v hv).cj _)) ?_
  refine sAl rfl fun b5 => ?_
  refine jp rfl (sSt rfl ?_)
  refine wAc (jT (wAb (wAb (wAa (sLL rfl ?_)))))
  refine wAi rfl rfl (wBr rfl rfl rfl rfl rfl (by kernel_rfl) (wFw xs[k] _ M ⟨va, vc, rfl, hvc, hvs⟩)) ?_
  refine jp rfl (wAc (jT (wAb (wAa (jp rfl (js rfl (fun h44 => ?_) (fun h44 => ?_)))))))
  ·refine wAc (jT (wAg rfl (wAb (wAa (jp rfl (jp rfl (wAc (jT (wAe (jTr (jBr (jTr (jTr (jBr (jTr (jr1 rfl rfl ?_))))))))))))))))
   obtain ⟨q1, q2⟩ := bad_of_chk h44
   rw [q2, wLk hab hk1 hI (by simp [okAt, q1])]
  refine wAc (jT (wAk rfl (wAd (jT (wAb (wBp [(0, true), (1, true), (2, true), (3, true), (4, true), (5, true), (6, true), (7, true), (8, true), (9, true), (10, true), (11, true), (12, true), (13, true), (14, true), (15, true), (16, true), (17, true), (18, true), (19, true), (20, true), (21, true), (22, true), (23, true), (24, true), (25, true), (26, true), (27, true), (28, true)] _ (by kernel_rfl) (by kernel_rfl) (by kernel_rfl) rfl (fun _ h => h) ?_))))))
  refine dp rfl rfl ?_
  refine ds rfl rfl (fun h47 => ?_) (fun h47 => ?_)
  ·refine dp rfl rfl ?_
   refine dFa rfl rfl ?_
   refine dLd rfl rfl ?_
   refine dp rfl rfl ?_
   refine da rfl rfl (by omega) ?_
   obtain ⟨j, rfl⟩ : ∃ j, k = j + 1 := ⟨k - 1, by omega⟩
   have hj1 : j < xs.length := by omega
   obtain ⟨wa, wc, hcj, -, -⟩ := wBt hx hp hb hj1
   refine wBq rfl rfl rfl (qEq (wBe rfl rfl rfl rfl (by omega)) (v' := .pointer (some ⟨sb, so + j * 5, none⟩)) (by congr 3; omega)) ?_
   refine dFa rfl rfl ?_
   refine wBq rfl rfl rfl (wGx (cs := wBb xs[j].key) rfl rfl rfl rfl rfl (fun i v hv => (hcj i v (by match i, hv with | 0, hv => simpa [wBb] using hv | 1, hv => simpa [wBb] using hv | 2, hv => simpa [wBb] using hv | n + 3, hv => simp [wBb] at hv)).cj _)) ?_
   refine dFa rfl rfl ?_
   refine dLL rfl rfl ?_
   refine wKi rfl rfl rfl (wBr rfl rfl rfl rfl rfl (by kernel_rfl) (wHj xs[j].key xs[j + 1].key M)) (fun h58 => ?_) (fun h58 => ?_)
   ·iterate 5 refine dp rfl rfl ?_
    refine dFa rfl rfl ?_
    refine dLd rfl rfl ?_
    refine ds rfl rfl (fun h66 => ?_) (fun h66 => ?_)
    ·iterate 8 refine dp rfl rfl ?_
     refine wBd (jPn (jT (wAg rfl (wAb (wAa (jp rfl (wAc (jT (wAe (jBr (jTr (jTr (jBr (jTr (jr1 rfl rfl ?_)))))))))))))))
     rw [wLk hab hk1 hI (by simp [okAt]; intros; first | omega | simp_all)]
    refine dp rfl rfl ?_
    refine dFa rfl rfl ?_
    refine dLd rfl rfl ?_
    refine wBq rfl rfl rfl (wBj rfl rfl rfl) ?_
    refine ds rfl rfl (fun h71 => ?_) (fun h71 => ?_)
    ·iterate 3 refine dp rfl rfl ?_
     refine wBd (jPn (jT (wAg rfl (wAb (wAa (jp rfl (wAc (jT (wAe (jBr (jTr (jTr (jBr (jTr (jr1 rfl rfl ?_)))))))))))))))
     rw [wLk hab hk1 hI (by simp [okAt]; intros; intro e; simp [e] at h71)]
    iterate 3 refine dp rfl rfl ?_
    refine wBd (jPn (jT (wAk rfl (wAd (jB (jT (wAa (ja rfl (by omega) ?_))))))))
    refine jp rfl (wAc (wAp (j + 1 + 1) (.cons (t := 1) rfl (.cons (t := 3) rfl (.cons (t := 34) rfl (.cons (t := 35) rfl (.cons (t := 36) rfl .nil))))) ⟨by omega, nd_on hk1 hI ?_⟩ (by omega) (fun _ h => h.fewer (by simp))))
    simp [okAt, wGa, hj1, wGr (Classical.not_not.1 h44), h58, h66, List.eq_nil_of_length_eq_zero (show xs[j + 1].val.length = 0 by omega)]
   iterate 16 refine dp rfl rfl ?_
   refine wBd (jPn (jT (wAg rfl (wAb (wAa (jp rfl (wAc (jT (wAe (jBr (jTr (jTr (jBr (jTr (jr1 rfl rfl ?_)))))))))))))))
   rw [wLk hab hk1 hI (by simp [okAt, wGa, hj1, h58])]
  iterate 16 refine dp rfl rfl ?_
  refine dFa rfl rfl ?_
  refine dLd rfl rfl ?_
  refine ds rfl rfl (fun h66 => ?_) (fun h66 => ?_)
  ·iterate 8 refine dp rfl rfl ?_
   refine wBd (jPn (jT (wAg rfl (wAb (wAa (jp rfl (wAc (jT (wAe (jBr (jTr (jTr (jBr (jTr (jr1 rfl rfl ?_)))))))))))))))
   rw [wLk hab hk1 hI (by simp [okAt]; intros; first | omega | simp_all)]
  refine dp rfl rfl ?_
  refine dFa rfl rfl ?_
  refine dLd rfl rfl ?_
  refine wBq rfl rfl rfl (wBj rfl rfl rfl) ?_
  refine ds rfl rfl (fun h71 => ?_) (fun h71 => ?_)
  ·iterate 3 refine dp rfl rfl ?_
   refine wBd (jPn (jT (wAg rfl (wAb (wAa (jp rfl (wAc (jT (wAe (jBr (jTr (jTr (jBr (jTr (jr1 rfl rfl ?_)))))))))))))))
   rw [wLk hab hk1 hI (by simp [okAt]; intros; intro e; simp [e] at h71)]
  iterate 3 refine dp rfl rfl ?_
  refine wBd (jPn (jT (wAk rfl (wAd (jB (jT (wAa (ja rfl (by omega) ?_))))))))
  refine jp rfl (wAc (wAp (k + 1) (.cons (t := 1) rfl (.cons (t := 3) rfl (.cons (t := 34) rfl (.cons (t := 35) rfl (.cons (t := 36) rfl .nil))))) ⟨by omega, nd_on hk1 hI ?_⟩ (by omega) (fun _ h => h.fewer (by simp))))
  obtain rfl : k = 0 := by omega
  simp [okAt, wGa, wGr (Classical.not_not.1 h44), h66, List.eq_nil_of_length_eq_zero (show xs[0].val.length = 0 by omega)]
 refine wAc (jT (wAb (wAk rfl (wAw (jTx (jTx (jBx (jT (wAb (wAa (jp rfl (wAc (jT (wAe (jr1 rfl rfl ?_)))))))))))))))
 rw [nd_end h hab (by omega) hI]
theorem ncheck_spec (lv : Int) (xs : List It) (s : Value) (M : Mem) (hv : NS M s xs) : SpecL Tryz.prog 86 #[.agg #[.int .i64 lv, s]] M [] fun v _ _ => v = .int .i64 (wEp lv xs) := by
 obtain ⟨a, c, ps, rfl, hc, hs, hp, hb⟩ := hv
 by_cases h : 0 ≤ lv ∧ lv < 6 ∧ xs.length ≤ 5 ∧ (0 < lv → xs.length ≠ 0)
 ·by_cases hl : 0 < lv
  ·exact ncheck_node lv xs a c ps M hc hs hp hb h hl
  exact ncheck_leaf lv xs a c ps M hc hs hp hb h (by omega)
 exact ncheck_head lv xs a c ps M hc hs hp hb h
end Go.Proofs.YtkcpllhggofloaaGreat
