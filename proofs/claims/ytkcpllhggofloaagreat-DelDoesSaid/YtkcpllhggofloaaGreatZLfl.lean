/- Walks: an item taken out, as the document has it. -/
import Derived.Test.YtkcpllhggofloaaGreatZLfj
namespace Go.Proofs.YtkcpllhggofloaaGreat
set_option linter.unusedSimpArgs false
set_option linter.unusedVariables false
set_option linter.unusedSectionVars false
open Go.RowKit
theorem rshrunk_all (s : Sto) (hst : wCc s) (q : Ky) : ∀ l, ShS s q l
 | 0 => fun k xs u M hS hk hnd hshp hsrt hf => by
  obtain ⟨x, rfl⟩ := hS.form
  exact rshrunk_leaf s x M hS hst k hk q xs hnd (by rwa [wEq] at hsrt) (by rwa [wEq] at hf)
 | l + 1 => fun k xs u M hS hk hnd hshp hsrt hf => by
  obtain ⟨x, rfl⟩ := hS.form
  exact rshrunk_up s x M hS hst k hk q l xs hnd hshp hsrt hf (rshrunk_all s hst q l)
abbrev it5 (k : Ky) (r : Int) (x : Sk) : List Value := [.int .u8 k.kind, .int .u32 k.id, .int .u32 k.off, .int .i64 r, x.v]
def OnP (P : Prop) (u : Value) : Prop := ∃ ky r x b, u = .tuple #[.agg (it5 ky r x).toArray, .bool b] ∧ (b = true ↔ P)
def OnS (s : Sto) (q : Ky) (l : Nat) : Prop := ∀ (k : Int) (xs : List It) (u : Value) (M : Mem), ST M u s → 0 ≤ k ∧ k < 256 → wBk s k.toNat = some ((l : Int), xs) → Shp s l xs → Srt (wCh s l xs) → SpecL Tryz.prog 24 #[u, .int .i64 k, .agg (wBb q).toArray] M [] fun u M' L' => OnP (∃ y ∈ wCh s l xs, y.key = q) u ∧ L' = []
theorem has_up {s : Sto} {q : Ky} {l : Nat} {xs ys : List It} (hshp : Shp s (l + 1) xs) (hsrt : Srt (wCh s (l + 1) xs)) {p : Nat} (hp : p < xs.length) (hpw : p = wAt xs q) (hy1 : wBk s xs[p].ref.toNat = some ((l : Int), ys)) (h : ∃ y ∈ wCh s (l + 1) xs, y.key = q) : (∃ y ∈ wCh s l ys, y.key = q) ∧ wBf q xs[p].key = false := by
 subst hpw
 obtain ⟨w1, w2, w3⟩ := wKu hshp hsrt hp
 obtain ⟨y, hy, hyq⟩ := h
 have hs1 : Srt (wCu s (l + 1) xs[wAt xs q]) := by
  have h5 := hsrt
  rw [w1] at h5
  exact (List.pairwise_append.1 (List.pairwise_append.1 h5).1).2.1
 rw [w1] at hy
 rcases List.mem_append.1 hy with hy | hy
 ·rcases List.mem_append.1 hy with hy | hy
  ·exact absurd hyq (kl_ne (w2 y hy))
  have hlo := one_lo (hshp.sub fun z hz => by rw [List.mem_singleton.1 hz]; exact List.getElem_mem hp) hs1 y hy
  rw [hyq] at hlo
  exact ⟨⟨y, by rw [← wCf hy1]; exact hy, hyq⟩, hlo⟩
 exact absurd hyq.symm (kl_ne (w3 y hy))
theorem has_dn {s : Sto} {q : Ky} {l : Nat} {xs ys : List It} {p : Nat} (hp : p < xs.length) (hy1 : wBk s xs[p].ref.toNat = some ((l : Int), ys)) (h : ∃ y ∈ wCh s l ys, y.key = q) : ∃ y ∈ wCh s (l + 1) xs, y.key = q := by
 obtain ⟨y, hy, hyq⟩ := h
 exact ⟨y, List.mem_flatMap.2 ⟨xs[p], List.getElem_mem hp, by rw [wCf hy1]; exact hy⟩, hyq⟩
set_option maxHeartbeats 2000000 in
theorem rone_leaf (s : Sto) (x0 : Sk × Sk × Sk × Sk) (M : Mem) (hS : ST M (.agg (sv4 x0).toArray) s) (hst : wCc s) (k : Int) (hk : 0 ≤ k ∧ k < 256) (q : Ky) (xs : List It) (hnd : wBk s k.toNat = some (0, xs)) :
  SpecL Tryz.prog 24 #[.agg (sv4 x0).toArray, .int .i64 k, .agg (wBb q).toArray] M [] fun u M' L' => OnP (∃ y ∈ xs, y.key = q) u ∧ L' = [] := by
 have hx5 := (wBo hnd).len
 refine wAf (vs := [_, _, _]) 69 _ Tryz.func24 rfl Tryz.ntmps24 rfl rfl ?_; intro W
 refine wAb (wAa (wAy rfl rfl (wCm (cs := [_, _, _, _]) rfl rfl rfl rfl) ?_)); rintro _ _ _ ⟨b3, rfl, rfl, rfl⟩
 refine wAy rfl rfl (wCm (cs := [_, _, _]) rfl rfl rfl rfl) ?_; rintro _ _ _ ⟨b5, rfl, rfl, rfl⟩
 refine sAl rfl fun b6 => ?_
 refine jp rfl (wAc (jT (wAb (wAa (sLL rfl ?_)))))
 refine jp rfl (wAy rfl rfl (wAu rfl rfl rfl rfl rfl (by kernel_rfl) (wDk s _ M hS hst k (by omega) hnd)) ?_); rintro _ M1 _ ⟨hM1, _, rfl, ⟨⟨a, c, ps, rfl, hc, hs, hp, hb⟩, rfl⟩⟩
 simp only [nA]
 refine jp rfl (jp rfl (jp rfl (sAl rfl fun b8 => ?_)))
 refine sSt rfl ?_
 refine jp rfl (wAc (jT (wAb (wAb (wAa (sFL rfl rfl ?_))))))
 refine wAi rfl rfl (wBj rfl rfl rfl) ?_
 refine ja rfl (by omega) ?_
 refine jp rfl (wAc (jT (wAh ?_)))
 refine wAv (α := Nat) (fun i => [(3, .pointer (some ⟨b3, 0, none⟩)), (5, .pointer (some ⟨b5, 0, none⟩)), (6, .pointer (some ⟨b6, 0, none⟩)), (8, .pointer (some ⟨b8, 0, none⟩)), (10, .int .i64 (((i : Nat) : Int) - 1))]) (fun _ => M1) (fun _ => [(b8, .cells [Value.int .i64 0, .slice a xs.length c].toArray 53 (0, 0)), (b6, .cells [Value.int .u8 0, .int .u32 0, .int .u32 0, .int .i64 0, .slice none 0 0].toArray 46 (0, 0)), (b5, .cells (wBb q).toArray 31 (0, 0)), (b3, .cells (sv4 x0).toArray 28 (0, 0))]) (fun i => i ≤ xs.length ∧ ∀ j (h : j < xs.length), i ≤ j → xs[j].key ≠ q) (fun i => i)
  xs.length (.cons (t := 3) rfl (.cons (t := 5) rfl (.cons (t := 6) rfl (.cons (t := 8) rfl (.cons (t := 10) rfl .nil))))) ⟨Nat.le_refl _, fun j h1 h2 => by omega⟩ (fun _ h => h) ?_
 rintro i ⟨hi, hall⟩
 try dsimp only at hi hall ⊢
 refine wAb (wAb (wAa (jp rfl (js rfl (fun h22 => ?_) (fun h22 => ?_)))))
 ·refine wAc (jT (wAg rfl (wAd (jT (wAb (wAh (wAb (wAb (wBp [(0, true), (1, true), (2, true), (3, true), (4, true), (5, true), (6, true), (7, true), (8, true), (9, true), (10, true), (11, true), (12, true), (13, true)] _ (by kernel_rfl) (by kernel_rfl) (by kernel_rfl) rfl (fun _ h => h) ?_)))))))))
  refine dFa rfl rfl ?_
  refine dLd rfl rfl ?_
  refine df rfl rfl (decide_eq_false (by omega)) ?_
  iterate 11 refine dp rfl rfl ?_
  refine wBd (jPn (jT (wAk rfl (wAd (jT (wAb (wBp [(0, true), (1, true), (2, true), (3, true), (4, true), (5, true), (6, true), (7, true), (8, true), (9, true), (10, true), (11, true), (12, true)] _ (by kernel_rfl) (by kernel_rfl) (by kernel_rfl) rfl (fun _ h => h) ?_)))))))
  refine dFa rfl rfl ?_
  refine dLd rfl rfl ?_
  refine dt rfl rfl (decide_eq_true (by omega)) ?_
  refine dp rfl rfl ?_
  refine dFa rfl rfl ?_
  refine dLd rfl rfl ?_
  refine dp rfl rfl ?_
  have hk1 : i - 1 < xs.length := by omega
  obtain ⟨sb, so, va, vc, e0, hcl, hvc, hvs⟩ := wFg hs hp hb hk1 (i := ((i : Nat) : Int) - 1) (by omega)
  refine wBq rfl rfl rfl (wCe rfl rfl rfl rfl e0 (by omega)) ?_
  refine dFa rfl rfl ?_
  refine wBq rfl rfl rfl (wGx (cs := wBb xs[i - 1].key) rfl rfl rfl rfl rfl (fun j v hv => (hcl j v (wDd hv)).cj _)) ?_
  refine dLL rfl rfl ?_
  refine wKi rfl rfl rfl (qEqI (ns := [xs[i - 1].key.kind, xs[i - 1].key.id, xs[i - 1].key.off]) (ms := [q.kind, q.id, q.off]) rfl rfl rfl rfl rfl rfl ⟨rfl, rfl⟩) (fun h61 => ?_) (fun h61 => ?_)
  ·refine dp rfl rfl ?_
   refine wBd (jPn (jT (wAg rfl (wAb (wAa (sFL rfl rfl ?_))))))
   refine jp rfl (wAi rfl rfl (wCe rfl rfl rfl rfl e0 (by omega)) ?_)
   refine wAi rfl rfl (wGx (cs := itc xs[i - 1] va vc) rfl rfl rfl rfl rfl (fun j v hv => (hcl j v hv).cj _)) ?_
   refine sSt rfl ?_
   refine jp rfl (wAc (jT (wAe (jBr (jTr (jTr (jBr (jTr (wDa (rs := [_, _]) ([]) (by exact List.nil_sublist _) rfl (.cons (.agg rfl rfl rfl) (.cons (.tmp rfl) .nil)) ?_)))))))))
   have hq : xs[i - 1].key = q := ky_ext.2 (of_decide_eq_true h61)
   exact ⟨⟨xs[i - 1].key, xs[i - 1].ref, ⟨va, _, vc⟩, true, rfl, ⟨fun _ => ⟨_, List.getElem_mem hk1, hq⟩, fun _ => rfl⟩⟩, rfl⟩
  refine dp rfl rfl ?_
  refine wBd (jPn (jT (wAk rfl (wAd (jB (jT (wAa (jp rfl (ja rfl (by omega) ?_)))))))))
  refine jp rfl (wAc ?_)
  have hq : xs[i - 1].key ≠ q := fun e => (of_decide_eq_false h61) (ky_ext.1 e)
  refine wAp (i - 1) (.cons (t := 3) rfl (.cons (t := 5) rfl (.cons (t := 6) rfl (.cons (t := 8) rfl (Keep.ceq (t := 10) rfl (by congr 1; omega) Keep.nil))))) ⟨by show i - 1 ≤ xs.length; omega, fun j hj h2 => ?_⟩ (by show i - 1 < i; omega) (fun _ h => h)
  by_cases e : j = i - 1
  ·subst e; exact hq
  exact hall j hj (by omega)
 refine wAc (jT (wAk rfl (wAw (jTx (jTx (jBx (jT (wAb (wAa (wAi rfl rfl (wBa (cs := [_, _, _, _, _]) rfl rfl rfl (by rfl)) ?_))))))))))
 refine sSt rfl ?_
 refine jp rfl (wAc (jT (wAe (wDa (rs := [_, _]) ([]) (by exact List.nil_sublist _) rfl (.cons (.agg rfl rfl rfl) (.cons (.tmp rfl) .nil)) ?_))))
 refine ⟨⟨⟨0, 0, 0⟩, 0, sk0, false, rfl, ⟨(fun h => by cases h), fun ⟨y, hy, hyq⟩ => ?_⟩⟩, rfl⟩
 obtain ⟨j, hj, rfl⟩ := List.mem_iff_getElem.1 hy
 exact absurd hyq (hall j hj (by omega))
set_option maxHeartbeats 4000000 in
theorem rone_up (s : Sto) (x0 : Sk × Sk × Sk × Sk) (M : Mem) (hS : ST M (.agg (sv4 x0).toArray) s) (hst : wCc s) (k : Int) (hk : 0 ≤ k ∧ k < 256) (q : Ky) (l : Nat) (xs : List It) (hnd : wBk s k.toNat = some (((l + 1 : Nat) : Int), xs)) (hshp : Shp s (l + 1) xs) (hsrt : Srt (wCh s (l + 1) xs)) (ih : OnS s q l) :
  SpecL Tryz.prog 24 #[.agg (sv4 x0).toArray, .int .i64 k, .agg (wBb q).toArray] M [] fun u M' L' => OnP (∃ y ∈ wCh s (l + 1) xs, y.key = q) u ∧ L' = [] := by
 have hno := wBo hnd
 have hx5 := hno.len
 have hxne := List.length_pos_iff.2 (wKf hnd (by omega))
 have hsx := wJb hshp hsrt
 refine wAf (vs := [_, _, _]) 69 _ Tryz.func24 rfl Tryz.ntmps24 rfl rfl ?_; intro W
 refine wAb (wAa (wAy rfl rfl (wCm (cs := [_, _, _, _]) rfl rfl rfl rfl) ?_)); rintro _ _ _ ⟨b3, rfl, rfl, rfl⟩
 refine wAy rfl rfl (wCm (cs := [_, _, _]) rfl rfl rfl rfl) ?_; rintro _ _ _ ⟨b5, rfl, rfl, rfl⟩
 refine sAl rfl fun b6 => ?_
 refine jp rfl (wAc (jT (wAb (wAa (sLL rfl ?_)))))
 refine jp rfl (wAy rfl rfl (wAu rfl rfl rfl rfl rfl (by kernel_rfl) (wDk s _ M hS hst k (by omega) hnd)) ?_); rintro _ M1 _ ⟨hM1, _, rfl, ⟨⟨a, c, ps, rfl, hc, hs, hp, hb⟩, rfl⟩⟩
 simp only [nA]
 refine jp rfl (jp rfl (jp rfl (sAl rfl fun b8 => ?_)))
 refine sSt rfl ?_
 refine jp rfl (wAc (jT (wAb (wAb (wAa (sFL rfl rfl ?_))))))
 refine wAi rfl rfl (wBj rfl rfl rfl) ?_
 refine ja rfl (by omega) ?_
 refine jp rfl (wAc (jT (wAh ?_)))
 refine wAv (α := Nat) (fun i => [(3, .pointer (some ⟨b3, 0, none⟩)), (5, .pointer (some ⟨b5, 0, none⟩)), (6, .pointer (some ⟨b6, 0, none⟩)), (8, .pointer (some ⟨b8, 0, none⟩)), (10, .int .i64 (((i : Nat) : Int) - 1))]) (fun _ => M1) (fun _ => [(b8, .cells [Value.int .i64 ((l + 1 : Nat) : Int), .slice a xs.length c].toArray 53 (0, 0)), (b6, .cells [Value.int .u8 0, .int .u32 0, .int .u32 0, .int .i64 0, .slice none 0 0].toArray 46 (0, 0)), (b5, .cells (wBb q).toArray 31 (0, 0)), (b3, .cells (sv4 x0).toArray 28 (0, 0))]) (fun i => i ≤ xs.length ∧ ∀ j (h : j < xs.length), i ≤ j → wBf q xs[j].key = true) (fun i => i)
  xs.length (.cons (t := 3) rfl (.cons (t := 5) rfl (.cons (t := 6) rfl (.cons (t := 8) rfl (.cons (t := 10) rfl .nil))))) ⟨Nat.le_refl _, fun j h1 h2 => by omega⟩ (fun _ h => h) ?_
 rintro i ⟨hi, hall⟩
 try dsimp only at hi hall ⊢
 refine wAb (wAb (wAa (jp rfl (js rfl (fun h22 => ?_) (fun h22 => ?_)))))
 ·refine wAc (jT (wAg rfl (wAd (jT (wAb (wAh (wAb (wAb (wBp [(0, true), (1, true), (2, true), (3, true), (4, true), (5, true), (6, true), (7, true), (8, true), (9, true), (10, true), (11, true), (12, true), (13, true)] _ (by kernel_rfl) (by kernel_rfl) (by kernel_rfl) rfl (fun _ h => h) ?_)))))))))
  refine dFa rfl rfl ?_
  refine dLd rfl rfl ?_
  refine dt rfl rfl (decide_eq_true (by omega)) ?_
  refine dp rfl rfl ?_
  refine dLL rfl rfl ?_
  refine dFa rfl rfl ?_
  refine dLd rfl rfl ?_
  refine dp rfl rfl ?_
  have hk1 : i - 1 < xs.length := by omega
  obtain ⟨sb, so, va, vc, e0, hcl, hvc, hvs⟩ := wFg hs hp hb hk1 (i := ((i : Nat) : Int) - 1) (by omega)
  refine wBq rfl rfl rfl (wCe rfl rfl rfl rfl e0 (by omega)) ?_
  refine dFa rfl rfl ?_
  refine wBq rfl rfl rfl (wGx (cs := wBb xs[i - 1].key) rfl rfl rfl rfl rfl (fun j v hv => (hcl j v (wDd hv)).cj _)) ?_
  refine wKi rfl rfl rfl (wBr rfl rfl rfl rfl rfl (by kernel_rfl) (wHe q xs[i - 1].key M1)) (fun h36 => ?_) (fun h36 => ?_)
  ·iterate 2 refine dp rfl rfl ?_
   refine wBd (jPn (jT (wAk rfl (wAd (jT (wAb (wBp [(0, true), (1, true), (2, true), (3, true), (4, true), (5, true), (6, true), (7, true), (8, true), (9, true), (10, true), (11, true), (12, true)] _ (by kernel_rfl) (by kernel_rfl) (by kernel_rfl) rfl (fun _ h => h) ?_)))))))
   refine dFa rfl rfl ?_
   refine dLd rfl rfl ?_
   refine df rfl rfl (decide_eq_false (by omega)) ?_
   iterate 10 refine dp rfl rfl ?_
   refine wBd (jPn (jT (wAk rfl (wAd (jB (jT (wAa (jp rfl (ja rfl (by omega) ?_)))))))))
   refine jp rfl (wAc ?_)
   refine wAp (i - 1) (.cons (t := 3) rfl (.cons (t := 5) rfl (.cons (t := 6) rfl (.cons (t := 8) rfl (Keep.ceq (t := 10) rfl (by congr 1; omega) Keep.nil))))) ⟨by show i - 1 ≤ xs.length; omega, fun j hj h2 => ?_⟩ (by show i - 1 < i; omega) (fun _ h => h)
   by_cases e : j = i - 1
   ·subst e; exact h36
   exact hall j hj (by omega)
  iterate 2 refine dp rfl rfl ?_
  refine wBd (jPn (jT (wAg rfl (wAb ?_))))
  have hpw : i - 1 = wAt xs q := way_is hsx hxne ⟨by omega, fun j h1 h2 _ => hall j h2 (by omega), fun _ _ => h36⟩
  obtain ⟨ys, hy1, hy2, hy3, hy4⟩ := hshp _ (List.getElem_mem hk1)
  have hrr := hno.ref _ (List.getElem_mem hk1)
  have hru := hno.up (by omega) _ (List.getElem_mem hk1)
  have hsy : Srt (wCh s l ys) := by
   have h5 := hsrt
   have hp9 : wAt xs q < xs.length := by omega
   have w1 := (wKu hshp hsrt hp9).1
   rw [w1] at h5
   have h6 := (List.pairwise_append.1 (List.pairwise_append.1 h5).1).2.1
   simp only [← hpw] at h6
   rwa [wCf hy1] at h6
  refine wDb (p := { A := fun i => !([11].contains i), U := fun i => !([10, 11, 12].contains i) }) [(0, true), (1, true), (2, true), (3, true), (4, true), (5, true), (6, true), (7, true), (8, false), (9, true), (10, true), (11, false), (12, true)] M1 ([(b8, .cells [Value.int .i64 ((l + 1 : Nat) : Int), .slice a xs.length c].toArray 53 (0, 0)), (b6, .cells [Value.int .u8 0, .int .u32 0, .int .u32 0, .int .i64 0, .slice none 0 0].toArray 46 (0, 0)), (b5, .cells (wBb q).toArray 31 (0, 0)), (b3, .cells (sv4 x0).toArray 28 (0, 0))]) ([]) (by kernel_rfl) (by kernel_rfl) (by kernel_rfl) (by kernel_rfl) rfl ((fun _ h => h)) (MLe.refl _) (by simp) ?_
  refine dLL rfl rfl ?_
  refine dFa rfl rfl ?_
  refine dLd rfl rfl ?_
  refine dp rfl rfl ?_
  refine wBq rfl rfl rfl (wCe rfl rfl rfl rfl e0 (by omega)) ?_
  refine dFa rfl rfl ?_
  refine wBq rfl rfl rfl (qLd rfl rfl rfl rfl ((hcl 3 _ rfl).cj _)) ?_
  refine dLL rfl rfl ?_
  refine wHc rfl rfl rfl (wAu rfl rfl rfl rfl rfl (by kernel_rfl) (ih xs[i - 1].ref ys _ M1 (hS.mono hM1) (by omega) hy1 hy4 hsy)) ?_; rintro _ M2 _ ⟨hM2, _, rfl, ⟨⟨ky, rr, xk, bb, rfl, hbb⟩, rfl⟩⟩
  refine ⟨_, _, MLe.refl _, hM2, fun _ h => h, fun _ h => h, ?_⟩
  simp only [nA]
  iterate 2 refine dp rfl rfl ?_
  refine jd_e rfl rfl (wBm rfl rfl rfl rfl rfl rfl rfl rfl) ?_; rintro _ _ _ ⟨rfl, rfl⟩
  refine ⟨hM2, by simp, ?_⟩
  refine ep rfl rfl ?_
  refine wFf ?_
  refine jPn (jT (wAe (jTr (jBr (jTr (jTr (jBr (jTr (wDa (rs := [_, _]) ([]) (by exact List.nil_sublist _) rfl (.cons (.agg rfl rfl rfl) (.cons (.tmp rfl) .nil)) ?_)))))))))
  exact ⟨⟨ky, rr, xk, bb, rfl, hbb.trans ⟨has_dn hk1 hy1, fun h => (has_up hshp hsrt hk1 hpw hy1 h).1⟩⟩, rfl⟩
 refine wAc (jT (wAk rfl (wAw (jTx (jTx (jBx (jT (wAb (wAa (wAi rfl rfl (wBa (cs := [_, _, _, _, _]) rfl rfl rfl (by rfl)) ?_))))))))))
 refine sSt rfl ?_
 refine jp rfl (wAc (jT (wAe (wDa (rs := [_, _]) ([]) (by exact List.nil_sublist _) rfl (.cons (.agg rfl rfl rfl) (.cons (.tmp rfl) .nil)) ?_))))
 refine ⟨⟨⟨0, 0, 0⟩, 0, sk0, false, rfl, ⟨(fun h => by cases h), fun h => ?_⟩⟩, rfl⟩
 have hpw : 0 = wAt xs q := way_is hsx hxne ⟨by omega, fun j h1 h2 _ => hall j h2 (by omega), fun _ h => absurd rfl h⟩
 obtain ⟨ys, hy1, _⟩ := hshp _ (List.getElem_mem hxne)
 have := (has_up hshp hsrt hxne hpw hy1 h).2
 rw [hall 0 hxne (by omega)] at this; cases this
theorem rone_all (s : Sto) (hst : wCc s) (q : Ky) : ∀ l, OnS s q l
 | 0 => fun k xs u M hS hk hnd hshp hsrt => by
  obtain ⟨x, rfl⟩ := hS.form
  rw [wEq]
  exact rone_leaf s x M hS hst k hk q xs hnd
 | l + 1 => fun k xs u M hS hk hnd hshp hsrt => by
  obtain ⟨x, rfl⟩ := hS.form
  exact rone_up s x M hS hst k hk q l xs hnd hshp hsrt (rone_all s hst q l)
theorem wayR_len {s : Sto} {q : Ky} : ∀ (l : Nat) (xs : List It), (wDf s q l xs).length = l + 1
 | 0, _ => rfl
 | l + 1, xs => by rw [wDf, List.length_cons, wayR_len l]
theorem low_stok : ∀ (n : Nat) {t u : Sto} {r r2 : Int} {l : Nat} {xs : List It}, wCc t → (8 ≤ r ∧ r < 256) → wBk t r.toNat = some ((l : Int), xs) → Lev t l xs → lowF n t r = .ok (u, r2) → wCc u
 | 0, t, u, r, r2, l, xs, hst, _, _, _, h => by rw [lowF] at h; cases h; exact hst
 | n + 1, t, u, r, r2, l, xs, hst, hr, hnd, hL, h => by
  by_cases h0 : (l : Int) = 0
  ·have hl : l = 0 := by omega
   subst hl
   rw [low_zero hnd (by omega)] at h; cases h; exact hst
  by_cases h1 : (xs.length : Int) = 1
  ·obtain ⟨y, rfl⟩ := List.length_eq_one_iff.1 (show xs.length = 1 by omega)
   rw [low_one hnd h0] at h
   split at h
   ·rename_i he
    obtain ⟨l, rfl⟩ : ∃ l2, l = l2 + 1 := ⟨l - 1, by omega⟩
    obtain ⟨ys, hy1, hy2⟩ := hL y (by simp)
    have hno := wBo hnd
    have hb : 8 ≤ y.ref ∧ y.ref < 256 := by have := hno.ref y (by simp); have := hno.up (by omega) y (by simp); omega
    obtain ⟨u9, hlv9, hok9, hnds9, _⟩ := low_leave hst hr hb hnd hy1 he
    rw [hlv9] at h
    refine low_stok n hok9 hb (l := l) (xs := ys) ?_ (lev_off hnd hnds9 (show (l : Int) ≤ ((l + 1 : Nat) : Int) by omega) hy2) h
    rw [hnds9 _ (fun e => by rw [e, hnd] at hy1; cases hy1)]; exact hy1
   cases h
  rw [low_many hnd (by omega) h1] at h; cases h; exact hst
structure TopK (t : Sto) (lv : Int) (l : List It) (held : Int) : Prop where
 ok : wEv lv l = true
 key : ∀ x ∈ l, wFp x.key
 hel : held = 0 ∨ (8 ≤ held ∧ held < 256 ∧ (mkE t lv l = 0 → wDo (mkS t lv l) held.toNat = 0))
 law : mkE t lv l = 0 → ∃ n : Nat, lv = (n : Int) ∧ n < 7 ∧ wCc (if held = 0 then mkS t lv l else wBx (mkS t lv l) held.toNat) ∧ wBk (if held = 0 then mkS t lv l else wBx (mkS t lv l) held.toNat) (wEt (wAx t l)) = some ((n : Int), l) ∧ Lev (if held = 0 then mkS t lv l else wBx (mkS t lv l) held.toNat) n l ∧ 8 ≤ wEt (wAx t l) ∧ wEt (wAx t l) < 256
theorem top_known {s t : Sto} {q : Ky} (hst : wCc s) {lev : Nat} {xs l1 : List It} {k : Nat} {held : Int} (hnd : wBk s k = some ((lev : Int), xs)) (hsr : Srt (wCh s lev xs)) (h2 : DnOk s t q lev xs k l1 held) : TopK t (if l1 = [] then 0 else (lev : Int)) l1 held := by
 have hno := wBo hnd
 have hlev := hno.lev
 have h5 := hno.len
 have hl5 := h2.len
 have hsl : Srt (wCh t lev l1) := by rw [h2.all]; exact hsr.sublist List.filter_sublist
 have hok : wEv (if l1 = [] then 0 else (lev : Int)) l1 = true := by
  split
  ·rename_i e; subst e; rfl
  rename_i e; exact fit_ok (t := t) (by omega) (fun _ => e) (by omega) h2.itl (wJb h2.shp hsl)
 have hlive := shp_live h2.shp
 have hel0 : held = 0 ∨ (8 ≤ held ∧ held < 256 ∧ ∃ x ∈ l1, x.ref = held) := h2.hel
 have hel : held = 0 ∨ (8 ≤ held ∧ held < 256 ∧ (mkE t (if l1 = [] then 0 else (lev : Int)) l1 = 0 → wDo (mkS t (if l1 = [] then 0 else (lev : Int)) l1) held.toNat = 0)) := by
  rcases hel0 with h | ⟨c1, c2, x, hx, c3⟩
  ·exact .inl h
  refine .inr ⟨c1, c2, fun e => ?_⟩
  obtain ⟨hr, hz, hc0, _, hcnt⟩ := mk_nd h2.ok hok h2.itl.key hlive e
  have hne : held.toNat ≠ wEt (wAx t l1) := fun e2 => by
   have := hlive x hx (by omega)
   rw [c3, e2] at this; exact this hz
  have h5 := hcnt held.toNat (by omega) hne
  have h3 : 0 < (l1.map (·.ref)).count ((held.toNat : Nat) : Int) := List.count_pos_iff.2 (List.mem_map.2 ⟨x, hx, by omega⟩)
  exact if_neg (nz_of (by omega))
 refine ⟨hok, h2.itl.key, hel, fun e => ?_⟩
 rcases single_law (held := held) h2.ok hok h2.itl.key hlive hel0 with ⟨e9, m1, m2⟩ | ⟨u, a, m1, m2, m3, m4, m5, m6, m7⟩
 ·rw [wLa e hel] at m1; cases m1
 rw [wLa e hel] at m1
 cases m1
 rw [Int.toNat_natCast] at m4
 obtain ⟨x1, _⟩ := m3.shp h2.shp
 by_cases hl : l1 = []
 ·subst hl
  exact ⟨0, rfl, by omega, m2, m4, trivial, by omega, by omega⟩
 rw [if_neg hl] at m2 m3 m4 x1 ⊢
 exact ⟨lev, rfl, by omega, m2, m4, lev_of x1, by omega, by omega⟩
theorem LoP.form {r : Except Int (Sto × Int)} {u : Value} {M' : Mem} (h : LoP r u M') : ∃ x n e, u = .tuple #[.agg (sv4 x).toArray, .int .i64 n, .int .i64 e] ∧ ((e ≠ 0 ∧ r = .error e) ∨ (e = 0 ∧ ∃ t, r = .ok (t, n) ∧ ST M' (.agg (sv4 x).toArray) t)) := by
 match r with
 | .error e => exact ⟨(sk0, sk0, sk0, sk0), 0, e, h.2, .inl ⟨h.1, rfl⟩⟩
 | .ok (t, n) =>
  obtain ⟨v, e, hv⟩ := h
  obtain ⟨x, rfl⟩ := hv.form
  exact ⟨x, n, 0, e, .inr ⟨rfl, t, rfl, hv⟩⟩
theorem LvR.both {s : Sto} {k : Int} {u : Value} {M' : Mem} (h : LvR s k u M') : ∃ x b, u = .tuple #[.agg (sv4 x).toArray, .bool b] ∧ ((b = false ∧ wGv s k = none) ∨ (b = true ∧ ∃ t, wGv s k = some t ∧ ST M' (.agg (sv4 x).toArray) t)) := by
 unfold LvR at h
 cases hl : wGv s k with
 | none => rw [hl] at h; exact ⟨(sk0, sk0, sk0, sk0), false, h, .inl ⟨rfl, rfl⟩⟩
 | some t =>
  rw [hl] at h
  obtain ⟨v, rfl, hv⟩ := h
  obtain ⟨x, rfl⟩ := hv.form
  exact ⟨x, true, rfl, .inr ⟨rfl, t, rfl, hv⟩⟩
theorem wHq (s : Sto) (u : Value) (M : Mem) (hS : ST M u s) (hst : wCc s) (r0 : Int) (hr0 : 8 ≤ r0 ∧ r0 < 256) (l0 n0 : Nat) (xs0 : List It) (hnd0 : wBk s r0.toNat = some ((l0 : Int), xs0)) (hL0 : Lev s l0 xs0) (hn0 : l0 < n0) : SpecL Tryz.prog 51 #[u, .int .i64 r0] M [] fun u M' L' => LoP (lowF n0 s r0) u M' ∧ L' = [] := by
 obtain ⟨x, rfl⟩ := hS.form
 exact rlowered_walk s x M hS hst r0 hr0 l0 n0 xs0 hnd0 hL0 hn0
theorem wLx {s : Sto} {root : Int} {q : Ky} {lev : Nat} {xs : List It} : delIn s root (wDf s q lev xs) = wLy root (delLow (delTop (lev : Int) (dnR s q lev xs))) := by
 unfold delIn dnR
 rw [wayR_len]
 rw [show (((lev + 1 : Nat) : Int) - 1) = (lev : Int) by omega]
set_option maxHeartbeats 4000000 in
theorem rout13_walk (s : Sto) (x0 : Sk × Sk × Sk × Sk) (M : Mem) (hS : ST M (.agg (sv4 x0).toArray) s) (hst : wCc s) (k : Int) (hk : 8 ≤ k ∧ k < 256) (q : Ky) (lev : Nat) (xs : List It) (hnd : wBk s k.toNat = some ((lev : Int), xs)) (hshp : Shp s lev xs) (hsrt : Srt (wCh s lev xs)) (hf : ∃ y ∈ wCh s lev xs, y.key = q) :
  SpecL Tryz.prog 25 #[.agg (sv4 x0).toArray, .int .i64 k, .agg (wBb q).toArray] M [] fun u M' L' => LoP (delIn s k (wDf s q lev xs)) u M' ∧ L' = [] := by
 have hdl := dn_law hst lev xs _ hnd hshp hsrt hf
 refine wAf (vs := [_, _, _]) 85 _ Tryz.func25 rfl Tryz.ntmps25 rfl rfl ?_; intro W
 refine wAb (wAa (wAy rfl rfl (wCm (cs := [_, _, _, _]) rfl rfl rfl rfl) ?_)); rintro _ _ _ ⟨b3, rfl, rfl, rfl⟩
 refine wAy rfl rfl (wCm (cs := [_, _, _]) rfl rfl rfl rfl) ?_; rintro _ _ _ ⟨b5, rfl, rfl, rfl⟩
 refine sAl rfl fun b6 => ?_
 refine jp rfl (jp rfl (wAc (jT (wAb (wAa (sLL rfl ?_))))))
 refine jp rfl (wAy rfl rfl (wAu rfl rfl rfl rfl rfl (by kernel_rfl) (wDk s _ M hS hst k (by omega) hnd)) ?_); rintro _ M1 _ ⟨hM1, _, rfl, ⟨⟨a, c, ps, rfl, hc, hs, hp, hb⟩, rfl⟩⟩
 simp only [nA]
 refine jp rfl (jp rfl (jp rfl (sAl rfl fun b9 => ?_)))
 refine sSt rfl ?_
 refine jp rfl (wAc (jT (wAb (wAa (sLL rfl ?_)))))
 refine jp rfl (sLL rfl ?_)
 refine wAy rfl rfl (wAu rfl rfl rfl rfl rfl (by kernel_rfl) (rshrunk_all s hst q lev k xs _ M1 (hS.mono hM1) (by omega) hnd hshp hsrt hf)) ?_; rintro _ M2 _ ⟨hM2, _, rfl, ⟨hsh, rfl⟩⟩
 simp only [nA]
 obtain ⟨x11, a12, n12, c12, hd13, e14, rfl, hsh2⟩ := hsh.form (hdl.imp id fun ⟨t, l1, h, e, _⟩ => ⟨t, l1, h, e⟩)
 refine jp rfl (jp rfl (jp rfl (jp rfl (jp rfl (sAl rfl fun b11 => ?_)))))
 refine sSt rfl ?_
 refine jp rfl (jp rfl (jp rfl (wAc (jT (wAb (wAb (wAa (jp rfl (js rfl (fun h40 => ?_) (fun h40 => ?_))))))))))
 ·refine wAc (jT (wAg rfl (wAb (wAa (wAi rfl rfl (wBa (cs := [_, _, _, _]) rfl rfl rfl (by rfl)) ?_)))))
  refine jp rfl (sSt rfl ?_)
  refine jp rfl (jp rfl (wAc (jT (wAe (jTr (wDa (rs := [_, _, _]) ([]) (by exact List.nil_sublist _) rfl (.cons (.agg rfl rfl rfl) (.cons (.tmp rfl) (.cons (.tmp rfl) .nil))) ?_))))))
  refine ⟨?_, rfl⟩
  rw [wLx]
  rcases hsh2 with ⟨_, hdn⟩ | ⟨h0, _⟩
  ·rw [hdn]; exact ⟨h40, rfl⟩
  exact absurd h0 h40
 refine wAc (jT (wAk rfl (wAd (jT (wAb ?_)))))
 obtain ⟨rfl, t, l1, hdn, rfl, hS11, hN12⟩ := hsh2.resolve_left (fun h => h.1 (by omega))
 obtain ⟨t3, l3, hd3, hdn3, hok2⟩ := hdl.resolve_left (fun ⟨e, h, _⟩ => by rw [show dn s (wJi (wDf s q lev xs)) (wDf s q lev xs).dropLast = dnR s q lev xs from rfl, hdn] at h; cases h)
 rw [show dn s (wJi (wDf s q lev xs)) (wDf s q lev xs).dropLast = dnR s q lev xs from rfl, hdn] at hdn3
 cases hdn3
 have hTk := top_known hst hnd hsrt hok2
 have htop : delTop (lev : Int) (dnR s q lev xs) = wEb t (if l1 = [] then 0 else (lev : Int)) l1 hd13 := by rw [hdn]; rfl
 refine wAa (sFL rfl rfl ?_)
 refine jp rfl (wAc (jT (jc_merge (α := Unit) (fun _ => [(1, .int .i64 k), (3, .pointer (some ⟨b3, 0, none⟩)), (6, .pointer (some ⟨b6, 0, none⟩)), (11, .pointer (some ⟨b11, 0, none⟩)), (12, .slice a12 l1.length c12), (13, .int .i64 hd13), (15, .int .i64 (if l1 = [] then 0 else (lev : Int)))]) (fun _ => M2) (fun _ => [(b11, .cells (sv4 x11).toArray 28 (0, 0)), (b9, .cells [Value.int .i64 (lev : Int), .slice a xs.length c].toArray 53 (0, 0)), (b6, .cells [Value.slice none 0 0, .slice none 0 0, .slice none 0 0, .slice none 0 0].toArray 28 (0, 0)), (b5, .cells (wBb q).toArray 31 (0, 0)), (b3, .cells (sv4 x0).toArray 28 (0, 0))]) (fun _ => True) ?_ ?_)))
 ·rintro ⟨⟩ _
  try dsimp only
  refine wAb (wAa (sLL rfl ?_))
  refine jp rfl (jp rfl (wAy rfl rfl (wAu rfl rfl rfl rfl rfl (by kernel_rfl) (rmade13_spec t _ M2 hS11 hok2.ok (if l1 = [] then 0 else (lev : Int)) l1 _ hN12 hTk.ok hTk.key)) ?_)); rintro _ M3 _ ⟨hM3, _, rfl, ⟨⟨x16, ky, rr, rfl, hma⟩, rfl⟩⟩
  simp only [nA]
  refine jp rfl (jp rfl (jp rfl (jp rfl (sAl rfl fun b16 => ?_))))
  refine sAl rfl fun b17 => ?_
  refine sSt rfl ?_
  refine sSt rfl ?_
  refine jp rfl (wAc (jT (wAb (wAb (wAa (jp rfl (js rfl (fun h57 => ?_) (fun h57 => ?_))))))))
  ·refine wAc (jT (wAg rfl (wAb (wAa (wAi rfl rfl (wBa (cs := [_, _, _, _]) rfl rfl rfl (by rfl)) ?_)))))
   refine jp rfl (sSt rfl ?_)
   refine jp rfl (jp rfl (wAc (jT (wAe (jTr (wDa (rs := [_, _, _]) ([]) (by exact List.nil_sublist _) rfl (.cons (.agg rfl rfl rfl) (.cons (.tmp rfl) (.cons (.tmp rfl) .nil))) ?_))))))
   refine ⟨?_, rfl⟩
   rw [wLx]
   rw [htop, single_err h57]; exact ⟨h57, rfl⟩
  refine wAc (jT (wAk rfl (wAd (jT (wAb ?_)))))
  have hm0 : mkE t (if l1 = [] then 0 else (lev : Int)) l1 = 0 := Classical.not_not.1 h57
  obtain ⟨hS16, hky, hrr⟩ := hma hm0
  have hmo := mkE_ok hm0 hok2.ok.1.2.1
  have hokS := mkS_ok hok2.ok hTk.ok hmo.2.2.1 hmo.2.2.2
  obtain ⟨n9, hlvn, hn9, hstu, hndu, hLu, h8, h256⟩ := hTk.law hm0
  rw [wLa hm0 hTk.hel, ← hrr] at htop
  refine wFr ([(b17, .cells (it0 ky rr).toArray 46 (0, 0)), (b16, .cells (sv4 x16).toArray 28 (0, 0)), (b11, .cells (sv4 x11).toArray 28 (0, 0)), (b9, .cells [Value.int .i64 (lev : Int), .slice a xs.length c].toArray 53 (0, 0)), (b6, .cells [Value.slice none 0 0, .slice none 0 0, .slice none 0 0, .slice none 0 0].toArray 28 (0, 0)), (b5, .cells (wBb q).toArray 31 (0, 0)), (b3, .cells (sv4 x0).toArray 28 (0, 0))]) (by kernel_rfl) ((fun _ h => h)) ?_
  refine wDx (i := 0) rfl (by kernel_rfl) (by kernel_rfl) rfl rfl (qLdL rfl rfl rfl rfl rfl) ?_
  refine wEg (i := 1) rfl (by kernel_rfl) (by kernel_rfl) rfl ?_
  refine wDx (i := 3) rfl (by kernel_rfl) (by kernel_rfl) rfl rfl (wBg rfl rfl rfl rfl rfl) ?_
  refine wDx (i := 4) rfl (by kernel_rfl) (by kernel_rfl) rfl rfl (qLd rfl rfl rfl rfl (CJ.loc rfl)) ?_
  refine wFs (α := Mem × (Sk × Sk × Sk × Sk) × Int × Int × Nat) (fun y => MLe M3 y.1 ∧ ((y.2.2.2.1 ≠ 0 ∧ lowF 7 (if hd13 = 0 then mkS t (if l1 = [] then 0 else (lev : Int)) l1 else wBx (mkS t (if l1 = [] then 0 else (lev : Int)) l1) hd13.toNat) rr = .error y.2.2.2.1) ∨ (y.2.2.2.1 = 0 ∧ ∃ t2, lowF 7 (if hd13 = 0 then mkS t (if l1 = [] then 0 else (lev : Int)) l1 else wBx (mkS t (if l1 = [] then 0 else (lev : Int)) l1) hd13.toNat) rr = .ok (t2, y.2.2.1) ∧ ST y.1 (.agg (sv4 y.2.1).toArray) t2))) (fun y => [(1, .int .i64 k), (6, .pointer (some ⟨b6, 0, none⟩)), (19, .pointer (some ⟨y.2.2.2.2, 0, none⟩)), (67, .agg (sv4 y.2.1).toArray), (68, .int .i64 y.2.2.1), (69, .int .i64 y.2.2.2.1)]) (fun y => y.1) (fun y => [(y.2.2.2.2, .cells [Value.slice none 0 0, .slice none 0 0, .slice none 0 0, .slice none 0 0].toArray 28 (0, 0)), (b17, .cells (it0 ky rr).toArray 46 (0, 0)), (b16, .cells (sv4 x16).toArray 28 (0, 0)), (b11, .cells (sv4 x11).toArray 28 (0, 0)), (b9, .cells [Value.int .i64 (lev : Int), .slice a xs.length c].toArray 53 (0, 0)), (b6, .cells [Value.slice none 0 0, .slice none 0 0, .slice none 0 0, .slice none 0 0].toArray 28 (0, 0)), (b5, .cells (wBb q).toArray 31 (0, 0)), (b3, .cells (sv4 x0).toArray 28 (0, 0))]) 3 #[true, true, true, true, true, true, true, true, true, true, true, false, false, false] ?_ (fun rest => ?_)
  ·rintro ⟨Mr, x19, n20, e21, b19⟩ ⟨hMr, hlo2⟩
   try dsimp only at hMr hlo2 ⊢
   refine wHa (i := 11) (by kernel_rfl) ?_
   refine js_s rfl rfl (wBm rfl rfl rfl rfl rfl rfl rfl rfl) ?_; rintro _ _ _ ⟨rfl, rfl⟩
   refine wAo hMr (by first | exact fun _ h => h | exact fun _ h => List.mem_cons_of_mem _ h) ?_
   refine wEg (i := 12) rfl (by kernel_rfl) (by kernel_rfl) rfl ?_
   refine wEg (i := 13) rfl (by kernel_rfl) (by kernel_rfl) rfl ?_
   refine wJy (by kernel_rfl) ?_
   refine jPn (jT (wAb (wAb (wAa (jp rfl (js rfl (fun h71 => ?_) (fun h71 => ?_)))))))
   ·refine wAc (jT (wAg rfl (wAb (wAa (wAi rfl rfl (wBa (cs := [_, _, _, _]) rfl rfl rfl (by rfl)) ?_)))))
    refine jp rfl (sSt rfl ?_)
    refine jp rfl (jp rfl (wAc (jT (wAe (jTr (wDa (rs := [_, _, _]) ([]) (by exact List.nil_sublist _) rfl (.cons (.agg rfl rfl rfl) (.cons (.tmp rfl) (.cons (.tmp rfl) .nil))) ?_))))))
    refine ⟨?_, rfl⟩
    rw [wLx]
    rcases hlo2 with ⟨_, hlw⟩ | ⟨h0, _⟩
    ·rw [htop]; show LoP (wLy k (lowF 7 _ rr)) _ _; rw [hlw]; exact ⟨h71, rfl⟩
    exact absurd h0 h71
   refine wAc (jT (wAk rfl (wAd (jT (wAb (wAa (sLL rfl ?_)))))))
   refine jp rfl ?_
   obtain ⟨rfl, t2, hlw, hS19⟩ := hlo2.resolve_left (fun h => h.1 (by omega))
   have hst2 := low_stok 7 hstu (by omega) (by rw [hrr, Int.toNat_natCast]; exact hndu) hLu hlw
   refine wAy rfl rfl (wAu rfl rfl rfl rfl rfl (by kernel_rfl) (rleft9_spec t2 _ Mr hS19 hst2 k (by omega))) ?_; rintro _ M7 _ ⟨hM7, _, rfl, ⟨hlr, rfl⟩⟩
   simp only [nA]
   obtain ⟨x22, b23, rfl, hlr2⟩ := hlr.both
   refine jp rfl (jp rfl (jp rfl (sAl rfl fun b22 => ?_)))
   refine sSt rfl ?_
   refine jsb rfl (fun h23 => ?_) (fun h23 => ?_)
   ·refine wAc (jT (wAb (wAb (wAa (jp rfl (jp rfl (wAc (jT (wAk rfl (wAd (jT (wAb (wAa (sLL rfl ?_))))))))))))))
    refine jp rfl (sSt rfl ?_)
    refine jp rfl (jp rfl (wAc (jT (wAe (wDa (rs := [_, _, _]) ([]) (by exact List.nil_sublist _) rfl (.cons (.agg rfl rfl rfl) (.cons (.tmp rfl) (.cons (.tmp rfl) .nil))) ?_)))))
    refine ⟨?_, rfl⟩
    rw [wLx]
    rw [htop]; show LoP (wLy k (lowF 7 _ rr)) _ _; rw [hlw]; show LoP (match wGv t2 k with | none => _ | some u => _) _ _
    rcases hlr2 with ⟨hb, _⟩ | ⟨_, t4, hl, hS4⟩
    ·rw [hb] at h23; cases h23
    rw [hl]; exact ⟨_, rfl, hS4⟩
   refine wAc (jT (wAb (wAb (wAa (jp rfl (jp rfl (wAc (jT (wAg rfl (wAb (wAa (wAi rfl rfl (wBa (cs := [_, _, _, _]) rfl rfl rfl (by rfl)) ?_))))))))))))
   refine sSt rfl ?_
   refine jp rfl (jp rfl (wAc (jT (wAe (jTr (wDa (rs := [_, _, _]) ([]) (by exact List.nil_sublist _) rfl (.cons (.agg rfl rfl rfl) (.cons (.tmp rfl) (.cons (.tmp rfl) .nil))) ?_))))))
   refine ⟨?_, rfl⟩
   rw [wLx]
   rw [htop]; show LoP (wLy k (lowF 7 _ rr)) _ _; rw [hlw]; show LoP (match wGv t2 k with | none => _ | some u => _) _ _
   rcases hlr2 with ⟨_, hl⟩ | ⟨hb, _⟩
   ·rw [hl]; exact ⟨by decide, rfl⟩
   rw [hb] at h23; cases h23
  refine wBc [2, 10] (by kernel_rfl) rfl ⟨?_, ?_, trivial⟩
  ·refine wDe rfl rfl rfl (wAu rfl rfl rfl rfl rfl (by kernel_rfl) (wHr (mkS t (if l1 = [] then 0 else (lev : Int)) l1) _ M3 hS16 hokS hd13 (hTk.hel.imp id fun h => ⟨by omega, h.2.1, h.2.2 hm0⟩))) ?_; rintro _ M4 _ ⟨hM2, _, rfl, ⟨⟨x63, rfl, hS63⟩, rfl⟩⟩
   refine wAo hM2 (by first | exact fun _ h => h | exact fun _ h => List.mem_cons_of_mem _ h) ?_
   simp only [nA]
   refine wBc [5, 10] (by kernel_rfl) rfl ⟨?_, ?_, trivial⟩
   ·refine wDe rfl rfl rfl (wAu rfl rfl rfl rfl rfl (by kernel_rfl) (wHq (if hd13 = 0 then mkS t (if l1 = [] then 0 else (lev : Int)) l1 else wBx (mkS t (if l1 = [] then 0 else (lev : Int)) l1) hd13.toNat) _ M4 hS63 hstu rr (by omega) n9 7 l1 (by rw [hrr, Int.toNat_natCast]; exact hndu) hLu hn9)) ?_; rintro _ M5 _ ⟨hM5, _, rfl, ⟨hlo, rfl⟩⟩
    refine wAo (hM2.trans hM5) (by first | exact fun _ h => h | exact fun _ h => List.mem_cons_of_mem _ h) ?_
    simp only [nA]
    obtain ⟨x19, n20, e21, rfl, hlo2⟩ := hlo.form
    refine wEg (i := 6) rfl (by kernel_rfl) (by kernel_rfl) rfl ?_
    refine wEg (i := 7) rfl (by kernel_rfl) (by kernel_rfl) rfl ?_
    refine wEg (i := 8) rfl (by kernel_rfl) (by kernel_rfl) rfl ?_
    refine wEg (i := 9) rfl (by kernel_rfl) (by kernel_rfl) rfl ?_
    refine wBc [10] (by kernel_rfl) rfl ⟨?_, trivial⟩
    refine wDe rfl rfl rfl (wDy rfl rfl) ?_; rintro _ _ _ ⟨b19, rfl, rfl, rfl⟩
    refine wAo (by first | exact MLe.refl _ | exact hM2 | exact hM2.trans hM5) (by first | exact fun _ h => h | exact fun _ h => List.mem_cons_of_mem _ h) ?_
    refine wCa (listed' := #[true, true, true, true, true, true, true, true, true, true, true, false, false, false]) (by kernel_rfl) (wBy (.cons (t := 1) rfl (.cons (t := 6) rfl (.cons (t := 19) rfl (.cons (t := 67) rfl (.cons (t := 68) rfl (.cons (t := 69) rfl .nil)))))) ?_)
    exact rest (M5, x19, n20, e21, b19) ⟨hM2.trans hM5, hlo2⟩
   refine wDe rfl rfl rfl (wDy rfl rfl) ?_; rintro _ _ _ ⟨b19, rfl, rfl, rfl⟩
   refine wAo (by first | exact MLe.refl _ | exact hM2 | exact hM2.trans hM5) (by first | exact fun _ h => h | exact fun _ h => List.mem_cons_of_mem _ h) ?_
   refine wBc [5] (by kernel_rfl) rfl ⟨?_, trivial⟩
   refine wDe rfl rfl rfl (wAu rfl rfl rfl rfl rfl (by kernel_rfl) (wHq (if hd13 = 0 then mkS t (if l1 = [] then 0 else (lev : Int)) l1 else wBx (mkS t (if l1 = [] then 0 else (lev : Int)) l1) hd13.toNat) _ M4 hS63 hstu rr (by omega) n9 7 l1 (by rw [hrr, Int.toNat_natCast]; exact hndu) hLu hn9)) ?_; rintro _ M5 _ ⟨hM5, _, rfl, ⟨hlo, rfl⟩⟩
   refine wAo (hM2.trans hM5) (by first | exact fun _ h => h | exact fun _ h => List.mem_cons_of_mem _ h) ?_
   simp only [nA]
   obtain ⟨x19, n20, e21, rfl, hlo2⟩ := hlo.form
   refine wEg (i := 6) rfl (by kernel_rfl) (by kernel_rfl) rfl ?_
   refine wEg (i := 7) rfl (by kernel_rfl) (by kernel_rfl) rfl ?_
   refine wEg (i := 8) rfl (by kernel_rfl) (by kernel_rfl) rfl ?_
   refine wEg (i := 9) rfl (by kernel_rfl) (by kernel_rfl) rfl ?_
   refine wCa (listed' := #[true, true, true, true, true, true, true, true, true, true, true, false, false, false]) (by kernel_rfl) (wBy (.cons (t := 1) rfl (.cons (t := 6) rfl (.cons (t := 19) rfl (.cons (t := 67) rfl (.cons (t := 68) rfl (.cons (t := 69) rfl .nil)))))) ?_)
   exact rest (M5, x19, n20, e21, b19) ⟨hM2.trans hM5, hlo2⟩
  refine wDe rfl rfl rfl (wDy rfl rfl) ?_; rintro _ _ _ ⟨b19, rfl, rfl, rfl⟩
  refine wAo (by first | exact MLe.refl _ | exact hM2 | exact hM2.trans hM5) (by first | exact fun _ h => h | exact fun _ h => List.mem_cons_of_mem _ h) ?_
  refine wBc [2] (by kernel_rfl) rfl ⟨?_, trivial⟩
  refine wDe rfl rfl rfl (wAu rfl rfl rfl rfl rfl (by kernel_rfl) (wHr (mkS t (if l1 = [] then 0 else (lev : Int)) l1) _ M3 hS16 hokS hd13 (hTk.hel.imp id fun h => ⟨by omega, h.2.1, h.2.2 hm0⟩))) ?_; rintro _ M4 _ ⟨hM2, _, rfl, ⟨⟨x63, rfl, hS63⟩, rfl⟩⟩
  refine wAo hM2 (by first | exact fun _ h => h | exact fun _ h => List.mem_cons_of_mem _ h) ?_
  simp only [nA]
  refine wBc [5] (by kernel_rfl) rfl ⟨?_, trivial⟩
  refine wDe rfl rfl rfl (wAu rfl rfl rfl rfl rfl (by kernel_rfl) (wHq (if hd13 = 0 then mkS t (if l1 = [] then 0 else (lev : Int)) l1 else wBx (mkS t (if l1 = [] then 0 else (lev : Int)) l1) hd13.toNat) _ M4 hS63 hstu rr (by omega) n9 7 l1 (by rw [hrr, Int.toNat_natCast]; exact hndu) hLu hn9)) ?_; rintro _ M5 _ ⟨hM5, _, rfl, ⟨hlo, rfl⟩⟩
  refine wAo (hM2.trans hM5) (by first | exact fun _ h => h | exact fun _ h => List.mem_cons_of_mem _ h) ?_
  simp only [nA]
  obtain ⟨x19, n20, e21, rfl, hlo2⟩ := hlo.form
  refine wEg (i := 6) rfl (by kernel_rfl) (by kernel_rfl) rfl ?_
  refine wEg (i := 7) rfl (by kernel_rfl) (by kernel_rfl) rfl ?_
  refine wEg (i := 8) rfl (by kernel_rfl) (by kernel_rfl) rfl ?_
  refine wEg (i := 9) rfl (by kernel_rfl) (by kernel_rfl) rfl ?_
  refine wCa (listed' := #[true, true, true, true, true, true, true, true, true, true, true, false, false, false]) (by kernel_rfl) (wBy (.cons (t := 1) rfl (.cons (t := 6) rfl (.cons (t := 19) rfl (.cons (t := 67) rfl (.cons (t := 68) rfl (.cons (t := 69) rfl .nil)))))) ?_)
  exact rest (M5, x19, n20, e21, b19) ⟨hM2.trans hM5, hlo2⟩
 refine wAb (wAa (jp rfl (wAi rfl rfl (wBj rfl rfl rfl) ?_)))
 refine js rfl (fun h47 => ?_) (fun h47 => ?_)
 ·refine wAc (jT (wAg rfl (wAa (jp rfl (wAc ?_)))))
  have hl1 : l1 = [] := List.eq_nil_of_length_eq_zero (by omega)
  rw [if_pos hl1]
  exact wHb () (.cons (t := 1) rfl (.cons (t := 3) rfl (.cons (t := 6) rfl (.cons (t := 11) rfl (.cons (t := 12) rfl (.cons (t := 13) rfl (.cons (t := 15) rfl .nil))))))) trivial (fun _ h => h)
 refine wAc (jT (wAk rfl (wAd ?_)))
 have hl1 : l1 ≠ [] := fun e => h47 (by rw [e]; rfl)
 rw [if_neg hl1]
 exact wHb () (.cons (t := 1) rfl (.cons (t := 3) rfl (.cons (t := 6) rfl (.cons (t := 11) rfl (.cons (t := 12) rfl (.cons (t := 13) rfl (.cons (t := 15) rfl .nil))))))) trivial (fun _ h => h)
end Go.Proofs.YtkcpllhggofloaaGreat
