/- Walks: the document's trees: whether what a node tells is a tree. -/
import Derived.Test.YtkcpllhggofloaaGreatZRh
import Derived.Test.YtkcpllhggofloaaGreatZTree
namespace Go.Proofs.YtkcpllhggofloaaGreat
set_option linter.unusedVariables false
set_option linter.unusedSectionVars false
set_option linter.unusedSimpArgs false
open Go.RowKit
theorem wFg {M : Mem} {a : Option Addr} {xs : List It} {ps : List (It × Value)} (hs : SM M a (ps.flatMap wAs)) (hp : ps.map (·.1) = xs) (hb : ∀ p ∈ ps, BS M p.2 p.1.val) {k : Nat} (hk : k < xs.length) {i : Int} (hi : i = (k : Int)) : ∃ sb so va vc, a = some ⟨sb, so, none⟩ ∧ (∀ j v, (itc xs[k] va vc)[j]? = some v → CM M sb (so + i.toNat * 5 + j) v) ∧ xs[k].val.length ≤ vc ∧ SM M va (wAj xs[k].val) := by
 obtain ⟨sb, so, e0, hx⟩ := hs.open (by intro e; have := congrArg List.length e; rw [wBi wAs 5 wAq, List.length_nil] at this; have h2 := congrArg List.length hp; rw [List.length_map] at h2; omega)
 obtain ⟨va, vc, hcl, hvc, hvs⟩ := wBt hx hp hb hk
 exact ⟨sb, so, va, vc, e0, fun j v h => by rw [hi, Int.toNat_natCast]; exact hcl j v h, hvc, hvs⟩
def lastK (xs : List It) : Ky := match xs[xs.length - 1]? with | some x => x.key | none => ⟨0, 0, 0⟩
def rGo (f : It → Ky → Bool → Bool) (to : Ky) (ends : Bool) : List It → Bool
 | [] => true
 | [x] => f x to ends
 | x :: y :: r => f x y.key true && rGo f to ends (y :: r)
def rIn (s : Sto) : Nat → List It → Ky → Bool → Bool
 | 0, xs, _, _ => xs.all fun x => (wBu s 0 x).is
 | l + 1, xs, to, ends => rGo (fun x to ends => match wBk s x.ref.toNat with
  | some (lv, ys) => decide (lv = (l : Int)) && decide (ys ≠ []) && decide (wDc ys = x.key) && (!ends || wBf (lastK ys) to) && rIn s l ys to ends
  | none => false) to ends xs
def rRt (s : Sto) (l : Nat) (k : Int) (q to : Ky) (ends : Bool) : Bool := match wBk s k.toNat with
 | some (lv, ys) => decide (lv = (l : Int)) && decide (ys ≠ []) && decide (wDc ys = q) && (!ends || wBf (lastK ys) to) && rIn s l ys to ends
 | none => false
theorem rIn_up {s : Sto} {l : Nat} {xs : List It} {to : Ky} {ends : Bool} : rIn s (l + 1) xs to ends = rGo (fun x => rRt s l x.ref x.key) to ends xs := rfl
theorem rgo_mid {f : It → Ky → Bool → Bool} {to : Ky} {ends : Bool} {xs : List It} {k : Nat} (h : k + 1 < xs.length) : rGo f to ends (xs.drop k) = (f xs[k] xs[k + 1].key true && rGo f to ends (xs.drop (k + 1))) := by
 rw [List.drop_eq_getElem_cons (by omega : k < xs.length), List.drop_eq_getElem_cons h, rGo]
theorem rgo_last {f : It → Ky → Bool → Bool} {to : Ky} {ends : Bool} {xs : List It} {k : Nat} (h : k < xs.length) (h2 : ¬ k + 1 < xs.length) : rGo f to ends (xs.drop k) = (f xs[k] to ends && rGo f to ends (xs.drop (k + 1))) := by
 rw [List.drop_eq_getElem_cons h, List.drop_eq_nil_of_le (by omega), rGo, rGo, Bool.and_true]
theorem rgo_end {f : It → Ky → Bool → Bool} {to : Ky} {ends : Bool} {xs : List It} {k : Nat} (h : k = xs.length) : rGo f to ends (xs.drop k) = true := by
 rw [List.drop_eq_nil_of_le (by omega), rGo]
theorem lastK_is {xs : List It} {k : Nat} (h : k < xs.length) (hk : k = xs.length - 1) : lastK xs = xs[k].key := by
 subst hk; unfold lastK; rw [List.getElem?_eq_getElem h]
theorem wLs {xs : List It} (h : 0 < xs.length) : wDc xs = xs[0].key := by cases xs with | nil => cases h | cons x r => rfl
theorem ky_ext {a b : Ky} : a = b ↔ [a.kind, a.id, a.off] = [b.kind, b.id, b.off] := by
 obtain ⟨a1, a2, a3⟩ := a; obtain ⟨b1, b2, b3⟩ := b; simp
theorem rread8_no (s : Sto) (u : Value) (M : Mem) (h : ST M u s) (hst : wCc s) (k : Int) (hk : 0 ≤ k ∧ k ≤ 100000) (hn : wBk s k.toNat = none) : SpecL Tryz.prog 47 #[u, .int .i64 k] M [] fun u _ L' => (∃ lv a n c, u = .tuple #[.agg #[.int .i64 lv, .slice a n c], .bool false]) ∧ L' = [] := by
 have h1 := rread8_spec s u M h hst k.toNat (by omega)
 rw [show ((k.toNat : Nat) : Int) = k by omega] at h1
 exact h1.mono fun _ _ _ ⟨h2, h3⟩ => ⟨by unfold RdPost at h2; rw [hn] at h2; exact h2, h3⟩
theorem wDk (s : Sto) (u : Value) (M : Mem) (h : ST M u s) (hst : wCc s) (k : Int) (hk : 0 ≤ k ∧ k ≤ 100000) {lv : Int} {ys : List It} (hn : wBk s k.toNat = some (lv, ys)) : SpecL Tryz.prog 47 #[u, .int .i64 k] M [] fun u M' L' => (∃ a c, ∃ ps : List (It × Value), u = .tuple #[.agg #[.int .i64 lv, .slice a ys.length c], .bool true] ∧ ys.length ≤ c ∧ SM M' a (ps.flatMap wAs) ∧ ps.map (·.1) = ys ∧ ∀ p ∈ ps, BS M' p.2 p.1.val) ∧ L' = [] := by
 have h1 := rread8_spec s u M h hst k.toNat (by omega)
 rw [show ((k.toNat : Nat) : Int) = k by omega] at h1
 refine h1.mono fun _ _ _ ⟨h2, h3⟩ => ⟨?_, h3⟩
 unfold RdPost at h2; rw [hn] at h2
 obtain ⟨sl, e, a, c, ps, rfl, h4, h5, h6, h7⟩ := h2
 exact ⟨a, c, ps, e, h4, h5, h6, h7⟩
set_option maxHeartbeats 1000000 in
theorem rleaf_walk (s : Sto) (hst : wCc s) (bv wv lv0 : Value) (na : Option Addr) (nc : Nat) (M : Mem) (h3 : SM M na (wAj s.now)) (lv : Int) (xs : List It) (a : Option Addr) (c : Nat) (ps : List (It × Value)) (hc : xs.length ≤ c) (hs : SM M a (ps.flatMap wAs)) (hp : ps.map (·.1) = xs) (hb : ∀ p ∈ ps, BS M p.2 p.1.val) (hno : NdOk lv xs) :
  SpecL Tryz.prog 92 #[.agg #[bv, wv, .slice na s.now.length nc, lv0], .agg #[.int .i64 lv, .slice a xs.length c]] M [] fun u _ L' => u = .bool (xs.all fun x => (wBu s 0 x).is) ∧ L' = [] := by
 have hn1 := hst.2.1.1
 have hx5 := hno.len
 refine wAf (vs := [_, _]) 30 _ Tryz.func92 rfl Tryz.ntmps92 rfl rfl ?_; intro W
 refine wAb (wAa (wAy rfl rfl (wCm (cs := [_, _, _, _]) rfl rfl rfl rfl) ?_)); rintro _ _ _ ⟨b2, rfl, rfl, rfl⟩
 refine wAy rfl rfl (wCm (cs := [_, _]) rfl rfl rfl rfl) ?_; rintro _ _ _ ⟨b3, rfl, rfl, rfl⟩
 refine jp rfl (wAc (jT (wAb (wAb (wAa (jp rfl (wAc (jT (wAh ?_)))))))))
 refine wAv (α := Nat) (fun k => [(2, .pointer (some ⟨b2, 0, none⟩)), (3, .pointer (some ⟨b3, 0, none⟩)), (5, .int .i64 k)]) (fun _ => M) (fun _ => [(b3, .cells [Value.int .i64 lv, .slice a xs.length c].toArray 53 (0, 0)), (b2, .cells [bv, wv, .slice na s.now.length nc, lv0].toArray 28 (0, 0))]) (fun k => k ≤ xs.length ∧ ∀ y ∈ xs.take k, (wBu s 0 y).is = true) (fun k => xs.length - k)
  0 (.cons (t := 2) rfl (.cons (t := 3) rfl (.cons (t := 5) rfl .nil))) ⟨Nat.zero_le _, fun y h => by simp at h⟩ (fun _ h => h) ?_
 rintro k ⟨hk, hall⟩
 try dsimp only at hk hall ⊢
 refine wAb (wAb (wAa (jp rfl (sFL rfl rfl ?_))))
 refine wAi rfl rfl (wBj rfl rfl rfl) ?_
 refine js rfl (fun h11 => ?_) (fun h11 => ?_)
 ·refine wAc (jT (wAg rfl (wAd (jT (wAb (wAh (wAb (wAa (sFL rfl rfl ?_)))))))))
  refine jp rfl ?_
  have hk1 : k < xs.length := by omega
  obtain ⟨sb, so, va, vc, e0, hcl, hvc, hvs⟩ := wFg hs hp hb hk1 (i := (k : Int)) rfl
  have hrf := hno.ref _ (List.getElem_mem hk1)
  refine wAi rfl rfl (wCe rfl rfl rfl rfl e0 (by omega)) ?_
  refine sFa rfl ?_
  refine wAi rfl rfl (qLd rfl rfl rfl rfl ((hcl 3 _ rfl).cj _)) ?_
  refine jp rfl (wAc (jT (wAb (wAa (jp rfl (js rfl (fun h21 => ?_) (fun h21 => ?_)))))))
  ·refine jp rfl (sFL rfl rfl ?_)
   refine jp rfl ?_
   have hkn : xs[k].ref.toNat < s.now.length := by omega
   obtain ⟨tb, to, g0, gcl⟩ := wCw h3 hkn
   rw [show ((xs[k].ref.toNat : Nat) : Int) = xs[k].ref by omega] at gcl
   refine wAi rfl rfl (wCe rfl rfl rfl rfl g0 (by omega)) ?_
   refine wAi rfl rfl (qLd rfl rfl rfl rfl (gcl.cj _)) ?_
   refine js rfl (fun h28 => ?_) (fun h28 => ?_)
   ·refine jp rfl (wAc (jT (wAg rfl (wAb (wAa (jp rfl (wAc (jT (wAe (jBr (jTr (jTr (jBr (jTr (wAr (L' := []) (List.nil_sublist _) ?_)))))))))))))))
    refine jr1 rfl rfl ?_
    refine ⟨?_, rfl⟩
    have e : (wBu s 0 xs[k]).is = false := by simp only [wBu]; rw [Bool.or_eq_false_iff, decide_eq_false_iff_not, decide_eq_false_iff_not, wCp hkn]; omega
    rw [List.all_eq_false.2 ⟨xs[k], List.getElem_mem hk1, by rw [e]; decide⟩]
   refine jp rfl (wAc (jT (wAk rfl (wAd (jB (jT (wAa (jp rfl (ja rfl (by omega) ?_)))))))))
   refine jp rfl (wAc ?_)
   refine wAp (k + 1) (.cons (t := 2) rfl (.cons (t := 3) rfl (.cons (t := 5) rfl .nil))) ⟨by show k + 1 ≤ xs.length; omega, wJp hk1 hall (by simp only [wBu]; rw [Bool.or_eq_true, decide_eq_true_eq, decide_eq_true_eq]; right; rw [wCp hkn]; omega)⟩ (by show xs.length - (k + 1) < xs.length - k; omega) (fun _ h => h)
  iterate 8 refine jp rfl ?_
  refine wAc (jT (wAk rfl (wAd (jB (jT (wAa (jp rfl (ja rfl (by omega) ?_))))))))
  refine jp rfl (wAc ?_)
  refine wAp (k + 1) (.cons (t := 2) rfl (.cons (t := 3) rfl (.cons (t := 5) rfl .nil))) ⟨by show k + 1 ≤ xs.length; omega, wJp hk1 hall (by simp only [wBu]; rw [Bool.or_eq_true, decide_eq_true_eq, decide_eq_true_eq]; left; omega)⟩ (by show xs.length - (k + 1) < xs.length - k; omega) (fun _ h => h)
 refine wAc (jT (wAk rfl (wAw (jTx (jTx (jBx (jT (wAb (wAa (jp rfl (wAc (jT (wAe (wAr (L' := []) (List.nil_sublist _) ?_))))))))))))))
 refine jr1 rfl rfl ?_
 obtain rfl : k = xs.length := by omega
 rw [List.take_length] at hall
 exact ⟨by rw [List.all_eq_true.2 hall], rfl⟩
theorem rleaf_spec (s : Sto) (hst : wCc s) (u : Value) (xs : List It) (sl : Value) (M : Mem) (lv : Int) (h : ST M u s) (hn : NS M sl xs) (hno : NdOk lv xs) : SpecL Tryz.prog 92 #[u, .agg #[.int .i64 lv, sl]] M [] fun u _ L' => u = .bool (xs.all fun x => (wBu s 0 x).is) ∧ L' = [] := by
 obtain ⟨b, w, n, l, rfl, k1, k2, ⟨na, nc, rfl, _, k3⟩, k4⟩ := h.ex
 obtain ⟨a, c, ps, rfl, hc, hs, hp, hb⟩ := hn
 exact rleaf_walk s hst b w l na nc M k3 lv xs a c ps hc hs hp hb hno
def InS (s : Sto) (l : Nat) : Prop := ∀ (ys : List It) (u sl : Value) (M : Mem) (to : Ky) (ends : Bool), ST M u s → NS M sl ys → NdOk (l : Int) ys → SpecL Tryz.prog 68 #[u, .agg #[.int .i64 l, sl], .agg (wBb to).toArray, .bool ends] M [] fun v _ L' => v = .bool (rIn s l ys to ends) ∧ L' = []
def RtS (s : Sto) (l : Nat) : Prop := ∀ (k : Int) (u : Value) (M : Mem) (q to : Ky) (ends : Bool), ST M u s → 0 ≤ k ∧ k ≤ 100000 → SpecL Tryz.prog 93 #[u, .int .i64 k, .int .i64 l, .agg (wBb q).toArray, .agg (wBb to).toArray, .bool ends] M [] fun v _ L' => v = .bool (rRt s l k q to ends) ∧ L' = []
theorem rright_no (s : Sto) (hst : wCc s) (bv wv nv lv0 : Value) (M : Mem) (hS : ST M (.agg #[bv, wv, nv, lv0]) s) (k : Int) (hk : 0 ≤ k ∧ k ≤ 100000) (l : Nat) (q to : Ky) (ends : Bool) (hnd : wBk s k.toNat = none) :
  SpecL Tryz.prog 93 #[.agg #[bv, wv, nv, lv0], .int .i64 k, .int .i64 l, .agg (wBb q).toArray, .agg (wBb to).toArray, .bool ends] M [] fun u _ L' => u = .bool (rRt s l k q to ends) ∧ L' = [] := by
 refine wAf (vs := [_, _, _, _, _, _]) 64 _ Tryz.func93 rfl Tryz.ntmps93 rfl rfl ?_; intro W
 refine wAb (wAa (wAy rfl rfl (wCm (cs := [_, _, _, _]) rfl rfl rfl rfl) ?_)); rintro _ _ _ ⟨b6, rfl, rfl, rfl⟩
 refine wAy rfl rfl (wCm (cs := [_, _, _]) rfl rfl rfl rfl) ?_; rintro _ _ _ ⟨b9, rfl, rfl, rfl⟩
 refine wAy rfl rfl (wCm (cs := [_, _, _]) rfl rfl rfl rfl) ?_; rintro _ _ _ ⟨b10, rfl, rfl, rfl⟩
 refine jp rfl (wAc (jT (wAb (wAa (sLL rfl ?_)))))
 refine jp rfl (wAy rfl rfl (wAu rfl rfl rfl rfl rfl (by kernel_rfl) (rread8_no s _ M hS hst k hk hnd)) ?_); rintro _ M1 _ ⟨hM1, _, rfl, ⟨⟨nl, na, nn, nc, rfl⟩, rfl⟩⟩
 refine jp rfl (jp rfl (jp rfl (sAl rfl fun b13 => ?_)))
 refine sSt rfl ?_
 refine jp rfl (wAc (jT (wAb (wAb (wBp [(0, true), (1, true), (2, true), (3, true), (4, true), (5, true), (6, true), (7, true), (8, true), (9, true), (10, true), (11, true), (12, true), (13, true), (14, true), (15, true), (16, true), (17, true), (18, true), (19, true), (20, true), (21, true), (22, true)] _ (by kernel_rfl) (by kernel_rfl) (by kernel_rfl) rfl (fun _ h => h) ?_)))))
 iterate 23 refine dp rfl rfl ?_
 refine wBd (jPn (jT (wAg rfl (wAb (wAa (jp rfl (wAc (jT (wAe (jTr (wAr (L' := []) (List.nil_sublist _) ?_)))))))))))
 refine jr1 rfl rfl ?_
 exact ⟨by unfold rRt; rw [hnd], rfl⟩
set_option maxHeartbeats 1000000 in
theorem rright_true (s : Sto) (hst : wCc s) (bv wv nv lv0 : Value) (M : Mem) (hS : ST M (.agg #[bv, wv, nv, lv0]) s) (k : Int) (hk : 0 ≤ k ∧ k ≤ 100000) (l : Nat) (q to : Ky) (lv : Int) (ys : List It) (hnd : wBk s k.toNat = some (lv, ys)) (ih : InS s l) :
  SpecL Tryz.prog 93 #[.agg #[bv, wv, nv, lv0], .int .i64 k, .int .i64 l, .agg (wBb q).toArray, .agg (wBb to).toArray, .bool true] M [] fun u _ L' => u = .bool (rRt s l k q to true) ∧ L' = [] := by
 have hno := wBo hnd
 have hx5 := hno.len
 refine wAf (vs := [_, _, _, _, _, _]) 64 _ Tryz.func93 rfl Tryz.ntmps93 rfl rfl ?_; intro W
 refine wAb (wAa (wAy rfl rfl (wCm (cs := [_, _, _, _]) rfl rfl rfl rfl) ?_)); rintro _ _ _ ⟨b6, rfl, rfl, rfl⟩
 refine wAy rfl rfl (wCm (cs := [_, _, _]) rfl rfl rfl rfl) ?_; rintro _ _ _ ⟨b9, rfl, rfl, rfl⟩
 refine wAy rfl rfl (wCm (cs := [_, _, _]) rfl rfl rfl rfl) ?_; rintro _ _ _ ⟨b10, rfl, rfl, rfl⟩
 refine jp rfl (wAc (jT (wAb (wAa (sLL rfl ?_)))))
 refine jp rfl (wAy rfl rfl (wAu rfl rfl rfl rfl rfl (by kernel_rfl) (wDk s _ M hS hst k hk hnd)) ?_); rintro _ M1 _ ⟨hM1, _, rfl, ⟨⟨a, c, ps, rfl, hc, hs, hp, hb⟩, rfl⟩⟩
 refine jp rfl (jp rfl (jp rfl (sAl rfl fun b13 => ?_)))
 refine sSt rfl ?_
 refine jp rfl (wAc (jT (wAb (wAb (wBp [(0, true), (1, true), (2, true), (3, true), (4, true), (5, true), (6, true), (7, true), (8, true), (9, true), (10, true), (11, true), (12, true), (13, true), (14, true), (15, true), (16, true), (17, true), (18, true), (19, true), (20, true), (21, true), (22, true)] _ (by kernel_rfl) (by kernel_rfl) (by kernel_rfl) rfl (fun _ h => h) ?_)))))
 iterate 3 refine dp rfl rfl ?_
 refine dFa rfl rfl ?_
 refine dLd rfl rfl ?_
 refine dp rfl rfl ?_
 refine ds rfl rfl (fun h27 => ?_) (fun h27 => ?_)
 ·iterate 16 refine dp rfl rfl ?_
  refine wBd (jPn (jT (wAg rfl (wAb (wAa (jp rfl (wAc (jT (wAe (jTr (wAr (L' := []) (List.nil_sublist _) ?_)))))))))))
  refine jr1 rfl rfl ?_
  exact ⟨by unfold rRt; rw [hnd]; simp [h27], rfl⟩
 iterate 2 refine dp rfl rfl ?_
 refine dFa rfl rfl ?_
 refine dLd rfl rfl ?_
 refine wBq rfl rfl rfl (wBj rfl rfl rfl) ?_
 refine ds rfl rfl (fun h33 => ?_) (fun h33 => ?_)
 ·iterate 10 refine dp rfl rfl ?_
  refine wBd (jPn (jT (wAg rfl (wAb (wAa (jp rfl (wAc (jT (wAe (jTr (wAr (L' := []) (List.nil_sublist _) ?_)))))))))))
  refine jr1 rfl rfl ?_
  have hy0 : ys = [] := List.eq_nil_of_length_eq_zero (by omega)
  exact ⟨by unfold rRt; rw [hnd]; simp [hy0], rfl⟩
 iterate 2 refine dp rfl rfl ?_
 refine dFa rfl rfl ?_
 refine dLd rfl rfl ?_
 have hy0 : 0 < ys.length := by omega
 obtain ⟨sb, so, va, vc, e0, hcl, hvc, hvs⟩ := wFg hs hp hb hy0 (i := 0) rfl
 refine wBq rfl rfl rfl (wCe rfl rfl rfl rfl e0 (by omega)) ?_
 refine dFa rfl rfl ?_
 refine wBq rfl rfl rfl (wGx (cs := wBb ys[0].key) rfl rfl rfl rfl rfl (fun i v hv => (hcl i v (wDd hv)).cj _)) ?_
 refine dLL rfl rfl ?_
 refine wKi rfl rfl rfl (qNeI (ns := [ys[0].key.kind, ys[0].key.id, ys[0].key.off]) (ms := [q.kind, q.id, q.off]) rfl rfl rfl rfl rfl rfl ⟨rfl, rfl⟩) (fun h42 => ?_) (fun h42 => ?_)
 ·refine dp rfl rfl ?_
  refine wBd (jPn (jT (wAg rfl (wAb (wAa (jp rfl (wAc (jT (wAe (jTr (wAr (L' := []) (List.nil_sublist _) ?_)))))))))))
  refine jr1 rfl rfl ?_
  have hkq : wDc ys ≠ q := by rw [wLs hy0]; intro e; exact (of_decide_eq_true h42) (ky_ext.1 e)
  exact ⟨by unfold rRt; rw [hnd]; simp [hkq], rfl⟩
 refine dp rfl rfl ?_
 refine wBd (jPn (jT (wAk rfl (wAd (jT (wAb (wAb (wBp [(0, true), (1, true), (2, true), (3, true), (4, true), (5, true), (6, true), (7, true), (8, true), (9, true), (10, true), (11, true), (12, true), (13, true), (14, true)] _ (by kernel_rfl) (by kernel_rfl) (by kernel_rfl) rfl (fun _ h => h) ?_))))))))
 iterate 2 refine dp rfl rfl ?_
 refine dFa rfl rfl ?_
 refine dLd rfl rfl ?_
 refine dFa rfl rfl ?_
 refine dLd rfl rfl ?_
 refine wBq rfl rfl rfl (wBj rfl rfl rfl) ?_
 refine da rfl rfl (by omega) ?_
 have hyl : ys.length - 1 < ys.length := by omega
 obtain ⟨tb, to_, wa, wc, g0, gcl, gvc, gvs⟩ := wFg hs hp hb hyl (i := (ys.length : Int) - 1) (by omega)
 refine wBq rfl rfl rfl (wCe rfl rfl rfl rfl g0 (by omega)) ?_
 refine dFa rfl rfl ?_
 refine wBq rfl rfl rfl (wGx (cs := wBb ys[ys.length - 1].key) rfl rfl rfl rfl rfl (fun i v hv => (gcl i v (wDd hv)).cj _)) ?_
 refine dLL rfl rfl ?_
 refine wKi rfl rfl rfl (wBr rfl rfl rfl rfl rfl (by kernel_rfl) (wHe ys[ys.length - 1].key to M1)) (fun h56 => ?_) (fun h56 => ?_)
 ·iterate 2 refine dp rfl rfl ?_
  refine wBd (jPn (jT (wAk rfl (wAd (jT (wAb (wAa (sLL rfl ?_))))))))
  refine sLL rfl ?_
  refine sLL rfl ?_
  refine jp rfl ?_
  have hll : lv = (l : Int) := by omega
  subst hll
  refine wAy rfl rfl (wAu rfl rfl rfl rfl rfl (by kernel_rfl) (ih ys _ _ M1 to true (hS.mono hM1) ⟨a, c, ps, rfl, hc, hs, hp, hb⟩ hno)) ?_; rintro _ M2 _ ⟨hM2, _, rfl, ⟨rfl, rfl⟩⟩
  refine jp rfl (wAc (jT (wAe (wAr (L' := []) (List.nil_sublist _) ?_))))
  refine jr1 rfl rfl ?_
  have hlk : wBf (lastK ys) to = true := by rw [lastK_is hyl rfl]; exact h56
  have hkq : wDc ys = q := by rw [wLs hy0]; exact ky_ext.2 (Classical.not_not.1 (of_decide_eq_false h42))
  have hyn : ys ≠ [] := fun e => by rw [e] at hy0; cases hy0
  refine ⟨?_, rfl⟩
  unfold rRt; rw [hnd]
  simp [hkq, hyn, *]
 iterate 2 refine dp rfl rfl ?_
 refine wBd (jPn (jT (wAg rfl (wAb (wAa (jp rfl (wAc (jT (wAe (jTr (wAr (L' := []) (List.nil_sublist _) ?_)))))))))))
 refine jr1 rfl rfl ?_
 have hlk : wBf (lastK ys) to = false := by rw [lastK_is hyl rfl]; exact h56
 exact ⟨by unfold rRt; rw [hnd]; simp [hlk], rfl⟩
set_option maxHeartbeats 1000000 in
theorem rright_false (s : Sto) (hst : wCc s) (bv wv nv lv0 : Value) (M : Mem) (hS : ST M (.agg #[bv, wv, nv, lv0]) s) (k : Int) (hk : 0 ≤ k ∧ k ≤ 100000) (l : Nat) (q to : Ky) (lv : Int) (ys : List It) (hnd : wBk s k.toNat = some (lv, ys)) (ih : InS s l) :
  SpecL Tryz.prog 93 #[.agg #[bv, wv, nv, lv0], .int .i64 k, .int .i64 l, .agg (wBb q).toArray, .agg (wBb to).toArray, .bool false] M [] fun u _ L' => u = .bool (rRt s l k q to false) ∧ L' = [] := by
 have hno := wBo hnd
 have hx5 := hno.len
 refine wAf (vs := [_, _, _, _, _, _]) 64 _ Tryz.func93 rfl Tryz.ntmps93 rfl rfl ?_; intro W
 refine wAb (wAa (wAy rfl rfl (wCm (cs := [_, _, _, _]) rfl rfl rfl rfl) ?_)); rintro _ _ _ ⟨b6, rfl, rfl, rfl⟩
 refine wAy rfl rfl (wCm (cs := [_, _, _]) rfl rfl rfl rfl) ?_; rintro _ _ _ ⟨b9, rfl, rfl, rfl⟩
 refine wAy rfl rfl (wCm (cs := [_, _, _]) rfl rfl rfl rfl) ?_; rintro _ _ _ ⟨b10, rfl, rfl, rfl⟩
 refine jp rfl (wAc (jT (wAb (wAa (sLL rfl ?_)))))
 refine jp rfl (wAy rfl rfl (wAu rfl rfl rfl rfl rfl (by kernel_rfl) (wDk s _ M hS hst k hk hnd)) ?_); rintro _ M1 _ ⟨hM1, _, rfl, ⟨⟨a, c, ps, rfl, hc, hs, hp, hb⟩, rfl⟩⟩
 refine jp rfl (jp rfl (jp rfl (sAl rfl fun b13 => ?_)))
 refine sSt rfl ?_
 refine jp rfl (wAc (jT (wAb (wAb (wBp [(0, true), (1, true), (2, true), (3, true), (4, true), (5, true), (6, true), (7, true), (8, true), (9, true), (10, true), (11, true), (12, true), (13, true), (14, true), (15, true), (16, true), (17, true), (18, true), (19, true), (20, true), (21, true), (22, true)] _ (by kernel_rfl) (by kernel_rfl) (by kernel_rfl) rfl (fun _ h => h) ?_)))))
 iterate 3 refine dp rfl rfl ?_
 refine dFa rfl rfl ?_
 refine dLd rfl rfl ?_
 refine dp rfl rfl ?_
 refine ds rfl rfl (fun h27 => ?_) (fun h27 => ?_)
 ·iterate 16 refine dp rfl rfl ?_
  refine wBd (jPn (jT (wAg rfl (wAb (wAa (jp rfl (wAc (jT (wAe (jTr (wAr (L' := []) (List.nil_sublist _) ?_)))))))))))
  refine jr1 rfl rfl ?_
  exact ⟨by unfold rRt; rw [hnd]; simp [h27], rfl⟩
 iterate 2 refine dp rfl rfl ?_
 refine dFa rfl rfl ?_
 refine dLd rfl rfl ?_
 refine wBq rfl rfl rfl (wBj rfl rfl rfl) ?_
 refine ds rfl rfl (fun h33 => ?_) (fun h33 => ?_)
 ·iterate 10 refine dp rfl rfl ?_
  refine wBd (jPn (jT (wAg rfl (wAb (wAa (jp rfl (wAc (jT (wAe (jTr (wAr (L' := []) (List.nil_sublist _) ?_)))))))))))
  refine jr1 rfl rfl ?_
  have hy0 : ys = [] := List.eq_nil_of_length_eq_zero (by omega)
  exact ⟨by unfold rRt; rw [hnd]; simp [hy0], rfl⟩
 iterate 2 refine dp rfl rfl ?_
 refine dFa rfl rfl ?_
 refine dLd rfl rfl ?_
 have hy0 : 0 < ys.length := by omega
 obtain ⟨sb, so, va, vc, e0, hcl, hvc, hvs⟩ := wFg hs hp hb hy0 (i := 0) rfl
 refine wBq rfl rfl rfl (wCe rfl rfl rfl rfl e0 (by omega)) ?_
 refine dFa rfl rfl ?_
 refine wBq rfl rfl rfl (wGx (cs := wBb ys[0].key) rfl rfl rfl rfl rfl (fun i v hv => (hcl i v (wDd hv)).cj _)) ?_
 refine dLL rfl rfl ?_
 refine wKi rfl rfl rfl (qNeI (ns := [ys[0].key.kind, ys[0].key.id, ys[0].key.off]) (ms := [q.kind, q.id, q.off]) rfl rfl rfl rfl rfl rfl ⟨rfl, rfl⟩) (fun h42 => ?_) (fun h42 => ?_)
 ·refine dp rfl rfl ?_
  refine wBd (jPn (jT (wAg rfl (wAb (wAa (jp rfl (wAc (jT (wAe (jTr (wAr (L' := []) (List.nil_sublist _) ?_)))))))))))
  refine jr1 rfl rfl ?_
  have hkq : wDc ys ≠ q := by rw [wLs hy0]; intro e; exact (of_decide_eq_true h42) (ky_ext.1 e)
  exact ⟨by unfold rRt; rw [hnd]; simp [hkq], rfl⟩
 refine dp rfl rfl ?_
 refine wBd (jPn (jT (wAk rfl (wAd (jT (wAb (wAb (wBp [(0, true), (1, true), (2, true), (3, true), (4, true), (5, true), (6, true), (7, true), (8, true), (9, true), (10, true), (11, true), (12, true), (13, true), (14, true)] _ (by kernel_rfl) (by kernel_rfl) (by kernel_rfl) rfl (fun _ h => h) ?_))))))))
 iterate 15 refine dp rfl rfl ?_
 refine wBd (jPn (jT (wAk rfl (wAd (jT (wAb (wAa (sLL rfl ?_))))))))
 refine sLL rfl ?_
 refine sLL rfl ?_
 refine jp rfl ?_
 have hll : lv = (l : Int) := by omega
 subst hll
 refine wAy rfl rfl (wAu rfl rfl rfl rfl rfl (by kernel_rfl) (ih ys _ _ M1 to false (hS.mono hM1) ⟨a, c, ps, rfl, hc, hs, hp, hb⟩ hno)) ?_; rintro _ M2 _ ⟨hM2, _, rfl, ⟨rfl, rfl⟩⟩
 refine jp rfl (wAc (jT (wAe (wAr (L' := []) (List.nil_sublist _) ?_))))
 refine jr1 rfl rfl ?_
 have hkq : wDc ys = q := by rw [wLs hy0]; exact ky_ext.2 (Classical.not_not.1 (of_decide_eq_false h42))
 have hyn : ys ≠ [] := fun e => by rw [e] at hy0; cases hy0
 refine ⟨?_, rfl⟩
 unfold rRt; rw [hnd]
 simp [hkq, hyn, *]
end Go.Proofs.YtkcpllhggofloaaGreat
