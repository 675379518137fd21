/- The document's trees, without a program in sight: its check is the check of find. -/
import Derived.Test.YtkcpllhggofloaaGreatZRi
import Derived.Test.YtkcpllhggofloaaGreatZTree
namespace Go.Proofs.YtkcpllhggofloaaGreat
set_option linter.unusedSimpArgs false
set_option linter.unusedVariables false
set_option linter.unusedSectionVars false
open Go.RowKit
theorem rinner_leaf (s : Sto) (hst : wCc s) (bv wv nv lv0 : Value) (M : Mem) (hS : ST M (.agg #[bv, wv, nv, lv0]) s) (xs : List It) (a : Option Addr) (c : Nat) (ps : List (It × Value)) (hc : xs.length ≤ c) (hs : SM M a (ps.flatMap wAs)) (hp : ps.map (·.1) = xs) (hb : ∀ p ∈ ps, BS M p.2 p.1.val) (to : Ky) (ends : Bool) (hno : NdOk 0 xs) :
  SpecL Tryz.prog 68 #[.agg #[bv, wv, nv, lv0], .agg #[.int .i64 0, .slice a xs.length c], .agg (wBb to).toArray, .bool ends] M [] fun u _ L' => u = .bool (rIn s 0 xs to ends) ∧ L' = [] := by
 refine wAf (vs := [_, _, _, _]) 60 _ Tryz.func68 rfl Tryz.ntmps68 rfl rfl ?_; intro W
 refine wAb (wAa (wAy rfl rfl (wCm (cs := [_, _, _, _]) rfl rfl rfl rfl) ?_)); rintro _ _ _ ⟨b4, rfl, rfl, rfl⟩
 refine wAy rfl rfl (wCm (cs := [_, _]) rfl rfl rfl rfl) ?_; rintro _ _ _ ⟨b5, rfl, rfl, rfl⟩
 refine wAy rfl rfl (wCm (cs := [_, _, _]) rfl rfl rfl rfl) ?_; rintro _ _ _ ⟨b6, rfl, rfl, rfl⟩
 refine jp rfl (wAc (jT (wAb (wAb (wAa (sFL rfl rfl ?_))))))
 refine jt rfl (decide_eq_true (by omega)) ?_
 refine wAc (jT (wAg rfl (wAb (wAa (sLL rfl ?_)))))
 refine sLL rfl ?_
 refine wAy rfl rfl (wAu rfl rfl rfl rfl rfl (by kernel_rfl) (rleaf_spec s hst _ xs _ M 0 hS ⟨a, c, ps, rfl, hc, hs, hp, hb⟩ hno)) ?_; rintro _ M1 _ ⟨hM1, _, rfl, ⟨rfl, rfl⟩⟩
 refine jp rfl (wAc (jT (wAe (jTr (wAr (L' := []) (List.nil_sublist _) ?_)))))
 refine jr1 rfl rfl ?_
 exact ⟨rfl, rfl⟩
set_option maxHeartbeats 2000000 in
theorem rinner_up (s : Sto) (hst : wCc s) (bv wv nv lv0 : Value) (M : Mem) (hS : ST M (.agg #[bv, wv, nv, lv0]) s) (xs : List It) (a : Option Addr) (c : Nat) (ps : List (It × Value)) (hc : xs.length ≤ c) (hs : SM M a (ps.flatMap wAs)) (hp : ps.map (·.1) = xs) (hb : ∀ p ∈ ps, BS M p.2 p.1.val) (to : Ky) (ends : Bool) (l : Nat) (hno : NdOk ((l + 1 : Nat) : Int) xs) (ih : RtS s l) :
  SpecL Tryz.prog 68 #[.agg #[bv, wv, nv, lv0], .agg #[.int .i64 ((l + 1 : Nat) : Int), .slice a xs.length c], .agg (wBb to).toArray, .bool ends] M [] fun u _ L' => u = .bool (rGo (fun x => rRt s l x.ref x.key) to ends xs) ∧ L' = [] := by
 have hx5 := hno.len
 have hlv := hno.lev
 refine wAf (vs := [_, _, _, _]) 60 _ Tryz.func68 rfl Tryz.ntmps68 rfl rfl ?_; intro W
 refine wAb (wAa (wAy rfl rfl (wCm (cs := [_, _, _, _]) rfl rfl rfl rfl) ?_)); rintro _ _ _ ⟨b4, rfl, rfl, rfl⟩
 refine wAy rfl rfl (wCm (cs := [_, _]) rfl rfl rfl rfl) ?_; rintro _ _ _ ⟨b5, rfl, rfl, rfl⟩
 refine wAy rfl rfl (wCm (cs := [_, _, _]) rfl rfl rfl rfl) ?_; rintro _ _ _ ⟨b6, rfl, rfl, rfl⟩
 refine jp rfl (wAc (jT (wAb (wAb (wAa (sFL rfl rfl ?_))))))
 refine jf rfl (decide_eq_false (by omega)) ?_
 refine wAc (jT (wAk rfl (wAd (jT (wAb (wAb (wAa (jp rfl (wAc (jT (wAh ?_)))))))))))
 refine wAv (α := Nat × Mem) (fun z => [(3, .bool ends), (4, .pointer (some ⟨b4, 0, none⟩)), (5, .pointer (some ⟨b5, 0, none⟩)), (6, .pointer (some ⟨b6, 0, none⟩)), (9, .int .i64 z.1)]) (fun z => z.2) (fun _ => [(b6, .cells (wBb to).toArray 31 (0, 0)), (b5, .cells [Value.int .i64 ((l + 1 : Nat) : Int), .slice a xs.length c].toArray 53 (0, 0)), (b4, .cells [bv, wv, nv, lv0].toArray 28 (0, 0))]) (fun z => z.1 ≤ xs.length ∧ MLe M z.2 ∧ rGo (fun x => rRt s l x.ref x.key) to ends xs = rGo (fun x => rRt s l x.ref x.key) to ends (xs.drop z.1)) (fun z => xs.length - z.1)
  (0, M) (.cons (t := 3) rfl (.cons (t := 4) rfl (.cons (t := 5) rfl (.cons (t := 6) rfl (.cons (t := 9) rfl .nil))))) ⟨Nat.zero_le _, MLe.refl _, rfl⟩ (fun _ h => h) ?_
 rintro ⟨k, Mk⟩ ⟨hk, hMk, hI⟩
 try dsimp only at hk hMk hI ⊢
 refine wAb (wAb (wAa (jp rfl (sFL rfl rfl ?_))))
 refine wAi rfl rfl (wBj rfl rfl rfl) ?_
 refine js rfl (fun h22 => ?_) (fun h22 => ?_)
 ·refine wAc (jT (wAg rfl (wAd (jT (wAb (wAh (wAb (wAa (sLL rfl ?_)))))))))
  refine jp rfl (sAl rfl fun b10 => ?_)
  refine sSt rfl ?_
  refine jp rfl (wAc (jT (wAb (wAb (wAa (jp rfl (ja rfl (by omega) ?_)))))))
  refine sFL rfl rfl ?_
  refine wAi rfl rfl (wBj rfl rfl rfl) ?_
  refine js rfl (fun h32 => ?_) (fun h32 => ?_)
  ·refine wAc (jT (wAg rfl (wAa (sFL rfl rfl ?_))))
   refine jp rfl (ja rfl (by omega) ?_)
   have hk1 : k < xs.length := by omega
   have hk2 : k + 1 < xs.length := by omega
   obtain ⟨sb, so, va, vc, e0, hcl, hvc, hvs⟩ := wFg (k := k + 1) hs hp hb hk2 (i := (k : Int) + 1) (by omega)
   refine wAi rfl rfl (wCe rfl rfl rfl rfl e0 (by omega)) ?_
   refine sFa rfl ?_
   refine wAi rfl rfl (wGx (cs := wBb xs[k + 1].key) rfl rfl rfl rfl rfl (fun i v hv => ((hcl i v (wDd hv)).mono hMk).cj _)) ?_
   refine sSt rfl ?_
   refine jp rfl (wAc (jT (wAb (wBp [(0, true), (1, true), (2, true), (3, true), (4, true), (5, true), (6, true), (7, true), (8, true), (9, true), (10, true), (11, true), (12, true), (13, true), (14, true), (15, true), (16, true), (17, true), (18, false), (19, true)] _ (by kernel_rfl) (by kernel_rfl) (by kernel_rfl) rfl (fun _ h => h) ?_))))
   refine dLL rfl rfl ?_
   refine dFa rfl rfl ?_
   refine dLd rfl rfl ?_
   refine dp rfl rfl ?_
   have hk1 : k < xs.length := by omega
   obtain ⟨tb, to_, wa, wc, g0, gcl, gvc, gvs⟩ := wFg hs hp hb hk1 (i := (k : Int)) rfl
   have hrf := hno.ref _ (List.getElem_mem hk1)
   refine wBq rfl rfl rfl (wCe rfl rfl rfl rfl g0 (by omega)) ?_
   refine dFa rfl rfl ?_
   refine wBq rfl rfl rfl (qLd rfl rfl rfl rfl (((gcl 3 _ rfl).mono hMk).cj _)) ?_
   refine dFa rfl rfl ?_
   refine dLd rfl rfl ?_
   refine wBq rfl rfl rfl (qEq (qA rfl rfl rfl rfl rfl (by omega)) (v' := .int .i64 (l : Int)) (by congr 1; omega)) ?_
   refine dFa rfl rfl ?_
   refine dLd rfl rfl ?_
   refine dp rfl rfl ?_
   refine wBq rfl rfl rfl (wCe rfl rfl rfl rfl g0 (by omega)) ?_
   refine dFa rfl rfl ?_
   refine wBq rfl rfl rfl (wGx (cs := wBb xs[k].key) rfl rfl rfl rfl rfl (fun i v hv => ((gcl i v (wDd hv)).mono hMk).cj _)) ?_
   refine dLL rfl rfl ?_
   refine dp rfl rfl ?_
   refine wHc rfl rfl rfl (wAu rfl rfl rfl rfl rfl (by kernel_rfl) (ih xs[k].ref _ Mk xs[k].key _ _ (hS.mono hMk) (by omega))) ?_; rintro _ M1 _ ⟨hM1, _, rfl, ⟨rfl, rfl⟩⟩
   refine ⟨_, _, MLe.refl _, hM1, fun _ h => h, by simp, ?_⟩
   refine wKi rfl rfl rfl (qP rfl rfl) (fun h59 => ?_) (fun h59 => ?_)
   ·refine wBd (jPn (jT (wAg rfl (wAb (wAa (jp rfl (wAc (jT (wAe (jBr (jTr (jTr (jBr (jTr (wAr (L' := []) (List.nil_sublist _) ?_)))))))))))))))
    refine jr1 rfl rfl ?_
    refine ⟨?_, rfl⟩
    rw [hI, rgo_mid hk2]; have hr : rRt s l xs[k].ref xs[k].key xs[k + 1].key true = false := (by simpa using h59); rw [hr, Bool.false_and]
   refine wBd (jPn (jT (wAk rfl (wAd (jB (jT (wAa (jp rfl (ja rfl (by omega) ?_)))))))))
   refine jp rfl (wAc ?_)
   refine wAp (k + 1, _) (.cons (t := 3) rfl (.cons (t := 4) rfl (.cons (t := 5) rfl (.cons (t := 6) rfl (.cons (t := 9) rfl .nil))))) ⟨by show k + 1 ≤ xs.length; omega, hMk.trans hM1, ?_⟩ (by show xs.length - (k + 1) < xs.length - k; omega) (fun _ h => h.fewer (by simp))
   show _ = rGo _ to ends (xs.drop (k + 1)); rw [hI, rgo_mid hk2]; have hr : rRt s l xs[k].ref xs[k].key xs[k + 1].key true = true := (by simpa using h59); rw [hr, Bool.true_and]
  refine wAc (jT (wAk rfl (wAd (jT (wAb (wBp [(0, true), (1, true), (2, true), (3, true), (4, true), (5, true), (6, true), (7, true), (8, true), (9, true), (10, true), (11, true), (12, true), (13, true), (14, true), (15, true), (16, true), (17, true), (18, false), (19, true)] _ (by kernel_rfl) (by kernel_rfl) (by kernel_rfl) rfl (fun _ h => h) ?_))))))
  refine dLL rfl rfl ?_
  refine dFa rfl rfl ?_
  refine dLd rfl rfl ?_
  refine dp rfl rfl ?_
  have hk1 : k < xs.length := by omega
  obtain ⟨tb, to_, wa, wc, g0, gcl, gvc, gvs⟩ := wFg hs hp hb hk1 (i := (k : Int)) rfl
  have hrf := hno.ref _ (List.getElem_mem hk1)
  refine wBq rfl rfl rfl (wCe rfl rfl rfl rfl g0 (by omega)) ?_
  refine dFa rfl rfl ?_
  refine wBq rfl rfl rfl (qLd rfl rfl rfl rfl (((gcl 3 _ rfl).mono hMk).cj _)) ?_
  refine dFa rfl rfl ?_
  refine dLd rfl rfl ?_
  refine wBq rfl rfl rfl (qEq (qA rfl rfl rfl rfl rfl (by omega)) (v' := .int .i64 (l : Int)) (by congr 1; omega)) ?_
  refine dFa rfl rfl ?_
  refine dLd rfl rfl ?_
  refine dp rfl rfl ?_
  refine wBq rfl rfl rfl (wCe rfl rfl rfl rfl g0 (by omega)) ?_
  refine dFa rfl rfl ?_
  refine wBq rfl rfl rfl (wGx (cs := wBb xs[k].key) rfl rfl rfl rfl rfl (fun i v hv => ((gcl i v (wDd hv)).mono hMk).cj _)) ?_
  refine dLL rfl rfl ?_
  refine dp rfl rfl ?_
  refine wHc rfl rfl rfl (wAu rfl rfl rfl rfl rfl (by kernel_rfl) (ih xs[k].ref _ Mk xs[k].key _ _ (hS.mono hMk) (by omega))) ?_; rintro _ M1 _ ⟨hM1, _, rfl, ⟨rfl, rfl⟩⟩
  refine ⟨_, _, MLe.refl _, hM1, fun _ h => h, by simp, ?_⟩
  refine wKi rfl rfl rfl (qP rfl rfl) (fun h59 => ?_) (fun h59 => ?_)
  ·refine wBd (jPn (jT (wAg rfl (wAb (wAa (jp rfl (wAc (jT (wAe (jBr (jTr (jTr (jBr (jTr (wAr (L' := []) (List.nil_sublist _) ?_)))))))))))))))
   refine jr1 rfl rfl ?_
   refine ⟨?_, rfl⟩
   rw [hI, rgo_last hk1 (by omega)]; have hr : rRt s l xs[k].ref xs[k].key to ends = false := (by simpa using h59); rw [hr, Bool.false_and]
  refine wBd (jPn (jT (wAk rfl (wAd (jB (jT (wAa (jp rfl (ja rfl (by omega) ?_)))))))))
  refine jp rfl (wAc ?_)
  refine wAp (k + 1, _) (.cons (t := 3) rfl (.cons (t := 4) rfl (.cons (t := 5) rfl (.cons (t := 6) rfl (.cons (t := 9) rfl .nil))))) ⟨by show k + 1 ≤ xs.length; omega, hMk.trans hM1, ?_⟩ (by show xs.length - (k + 1) < xs.length - k; omega) (fun _ h => h.fewer (by simp))
  show _ = rGo _ to ends (xs.drop (k + 1)); rw [hI, rgo_last hk1 (by omega)]; have hr : rRt s l xs[k].ref xs[k].key to ends = true := (by simpa using h59); rw [hr, Bool.true_and]
 refine wAc (jT (wAk rfl (wAw (jTx (jTx (jBx (jT (wAb (wAa (jp rfl (wAc (jT (wAe (wAr (L' := []) (List.nil_sublist _) ?_))))))))))))))
 refine jr1 rfl rfl ?_
 refine ⟨?_, rfl⟩
 rw [hI, rgo_end (by omega)]
theorem rin_all (s : Sto) (hst : wCc s) : ∀ l, InS s l ∧ RtS s l := by
 have hR : ∀ l, InS s l → RtS s l := fun l ih k u M q to ends hS hk => by
  obtain ⟨b, w, n, l0, rfl, _⟩ := hS.ex
  cases hnd : wBk s k.toNat with
  | none => exact rright_no s hst b w n l0 M hS k hk l q to ends hnd
  | some p =>
   obtain ⟨lv, ys⟩ := p
   cases ends with
   | true => exact rright_true s hst b w n l0 M hS k hk l q to lv ys hnd ih
   | false => exact rright_false s hst b w n l0 M hS k hk l q to lv ys hnd ih
 have hI : ∀ l, InS s l := by
  intro l
  induction l with
  | zero =>
   intro ys u sl M to ends hS hn hno
   obtain ⟨b, w, n, l0, rfl, _⟩ := hS.ex
   obtain ⟨a, c, ps, rfl, hc, hs, hp, hb⟩ := hn
   exact rinner_leaf s hst b w n l0 M hS ys a c ps hc hs hp hb to ends hno
  | succ l ih =>
   intro ys u sl M to ends hS hn hno
   obtain ⟨b, w, n, l0, rfl, _⟩ := hS.ex
   obtain ⟨a, c, ps, rfl, hc, hs, hp, hb⟩ := hn
   exact rinner_up s hst b w n l0 M hS ys a c ps hc hs hp hb to ends l hno (hR l ih)
 exact fun l => ⟨hI l, hR l (hI l)⟩
def wLe (s : Sto) (root : Int) : Int := match wBk s root.toNat with
 | some (lv, xs) => if rIn s lv.toNat xs ⟨0, 0, 0⟩ false = true then lv + 1 else -1
 | none => -1
theorem rtree_no (s : Sto) (hst : wCc s) (bv wv nv lv0 : Value) (M : Mem) (hS : ST M (.agg #[bv, wv, nv, lv0]) s) (root : Int) (hk : 0 ≤ root ∧ root ≤ 100000) (hnd : wBk s root.toNat = none) :
  SpecL Tryz.prog 46 #[.agg #[bv, wv, nv, lv0], .int .i64 root] M [] fun u _ L' => u = .int .i64 (wLe s root) ∧ L' = [] := by
 refine wAf (vs := [_, _]) 25 _ Tryz.func46 rfl Tryz.ntmps46 rfl rfl ?_; intro W
 refine wAb (wAa (wAy rfl rfl (wCm (cs := [_, _, _, _]) rfl rfl rfl rfl) ?_)); rintro _ _ _ ⟨b2, rfl, rfl, rfl⟩
 refine jp rfl (wAc (jT (wAb (wAa (sLL rfl ?_)))))
 refine jp rfl (wAy rfl rfl (wAu rfl rfl rfl rfl rfl (by kernel_rfl) (rread8_no s _ M hS hst root hk hnd)) ?_); rintro _ M1 _ ⟨hM1, _, rfl, ⟨⟨nl, na, nn, nc, rfl⟩, rfl⟩⟩
 refine jp rfl (jp rfl (jp rfl (sAl rfl fun b5 => ?_)))
 refine sSt rfl ?_
 refine jp rfl (wAc (jT (wAb (wAb (wAa ?_)))))
 iterate 9 refine jp rfl ?_
 refine wAc (jT (wAg rfl (wAb (wAa (jp rfl (wAc (jT (wAe (jTr (wAr (L' := []) (List.nil_sublist _) ?_))))))))))
 refine jr1 rfl rfl ?_
 exact ⟨by unfold wLe; rw [hnd], rfl⟩
theorem rtree_yes (s : Sto) (hst : wCc s) (bv wv nv lv0 : Value) (M : Mem) (hS : ST M (.agg #[bv, wv, nv, lv0]) s) (root : Int) (hk : 0 ≤ root ∧ root ≤ 100000) (l : Nat) (xs : List It) (hnd : wBk s root.toNat = some ((l : Int), xs)) :
  SpecL Tryz.prog 46 #[.agg #[bv, wv, nv, lv0], .int .i64 root] M [] fun u _ L' => u = .int .i64 (wLe s root) ∧ L' = [] := by
 have hno := wBo hnd
 have hlv := hno.lev
 refine wAf (vs := [_, _]) 25 _ Tryz.func46 rfl Tryz.ntmps46 rfl rfl ?_; intro W
 refine wAb (wAa (wAy rfl rfl (wCm (cs := [_, _, _, _]) rfl rfl rfl rfl) ?_)); rintro _ _ _ ⟨b2, rfl, rfl, rfl⟩
 refine jp rfl (wAc (jT (wAb (wAa (sLL rfl ?_)))))
 refine jp rfl (wAy rfl rfl (wAu rfl rfl rfl rfl rfl (by kernel_rfl) (wDk s _ M hS hst root hk hnd)) ?_); rintro _ M1 _ ⟨hM1, _, rfl, ⟨⟨a, c, ps, rfl, hc, hs, hp, hb⟩, rfl⟩⟩
 refine jp rfl (jp rfl (jp rfl (sAl rfl fun b5 => ?_)))
 refine sSt rfl ?_
 refine jp rfl (wAc (jT (wAb (wAb (wAa (jp rfl (jp rfl (jp rfl (sLL rfl ?_)))))))))
 refine sLL rfl ?_
 refine wAi rfl rfl (wBa (cs := [_, _, _]) rfl rfl rfl (by rfl)) ?_
 refine wAy rfl rfl (wAu rfl rfl rfl rfl rfl (by kernel_rfl) ((rin_all s hst l).1 xs _ _ M1 ⟨0, 0, 0⟩ false (hS.mono hM1) ⟨a, c, ps, rfl, hc, hs, hp, hb⟩ hno)) ?_; rintro _ M2 _ ⟨hM2, _, rfl, ⟨rfl, rfl⟩⟩
 refine jsb rfl (fun h20 => ?_) (fun h20 => ?_)
 ·refine jp rfl (wAc (jT (wAg rfl (wAb (wAa (jp rfl (wAc (jT (wAe (jTr (wAr (L' := []) (List.nil_sublist _) ?_)))))))))))
  refine jr1 rfl rfl ?_
  exact ⟨by unfold wLe; rw [hnd]; simp at h20; simp [h20], rfl⟩
 refine jp rfl (wAc (jT (wAk rfl (wAd (jT (wAb (wAa (sFL rfl rfl ?_))))))))
 refine ja rfl (by omega) ?_
 refine jp rfl (wAc (jT (wAe (wAr (L' := []) (List.nil_sublist _) ?_))))
 refine jr1 rfl rfl ?_
 exact ⟨by unfold wLe; rw [hnd]; simp at h20; simp [h20], rfl⟩
theorem rtree_spec (s : Sto) (hst : wCc s) (u : Value) (root : Int) (M : Mem) (hS : ST M u s) (hk : 0 ≤ root ∧ root ≤ 100000) : SpecL Tryz.prog 46 #[u, .int .i64 root] M [] fun u _ L' => u = .int .i64 (wLe s root) ∧ L' = [] := by
 obtain ⟨b, w, n, l0, rfl, _⟩ := hS.ex
 cases hnd : wBk s root.toNat with
 | none => exact rtree_no s hst b w n l0 M hS root hk hnd
 | some p =>
  obtain ⟨lv, xs⟩ := p
  have hl := (wBo hnd).lev
  obtain ⟨l, rfl⟩ := Int.eq_ofNat_of_zero_le hl.1
  exact rtree_yes s hst b w n l0 M hS root hk l xs hnd
def rChk (s : Sto) (root : Int) : Int × Int :=
 if wCc s then
  if root < 8 ∨ 256 ≤ root then (0, 2)
  else if s.now.getD root.toNat 0 = 0 then (0, 6)
  else if wLe s root < 0 then (0, 8) else (wLe s root, 0)
 else (0, 8)
theorem rchk10_walk (s : Sto) (bv wv lv0 : Value) (na : Option Addr) (nc : Nat) (M : Mem) (hS : ST M (.agg #[bv, wv, .slice na s.now.length nc, lv0]) s) (h3 : SM M na (wAj s.now)) (hf : fewS s) (root : Int) (hr : -9223372036854775808 ≤ root ∧ root ≤ 9223372036854775807) :
  SpecL Tryz.prog 23 #[.agg #[bv, wv, .slice na s.now.length nc, lv0], .int .i64 root] M [] fun u _ L' => u = .tuple #[.int .i64 (rChk s root).1, .int .i64 (rChk s root).2] ∧ L' = [] := by
 refine wAf (vs := [_, _]) 28 _ Tryz.func23 rfl Tryz.ntmps23 rfl rfl ?_; intro W
 refine wAb (wAa (wAy rfl rfl (wCm (cs := [_, _, _, _]) rfl rfl rfl rfl) ?_)); rintro _ _ _ ⟨b2, rfl, rfl, rfl⟩
 refine jp rfl (jp rfl (wAc (jT (wAb (wAb (wAa (sLL rfl ?_)))))))
 refine wAi rfl rfl (wBr rfl rfl rfl rfl rfl (by kernel_rfl) (rmay8_spec s _ M hS hf)) ?_
 refine jsb rfl (fun h9 => ?_) (fun h9 => ?_)
 ·refine wAc (jT (wAg rfl (wAb (wAa (jp rfl (jp rfl (wAc (jT (wAe (jTr (wAr (L' := []) (List.nil_sublist _) ?_)))))))))))
  refine jr2 rfl rfl rfl ?_
  have hst : ¬ wCc s := by simpa using h9
  exact ⟨by unfold rChk; rw [if_neg hst], rfl⟩
 refine wAc (jT (wAk rfl (wAd (jT (wAb (wAb (wAa (jp rfl (js rfl (fun h11 => ?_) (fun h11 => ?_))))))))))
 ·refine jp rfl (jp rfl (jp rfl (jp rfl (wAc (jT (wAg rfl (wAb (wAa (jp rfl (jp rfl (wAc (jT (wAe (jTr (wAr (L' := []) (List.nil_sublist _) ?_)))))))))))))))
  refine jr2 rfl rfl rfl ?_
  have hst : wCc s := by simpa using h9
  exact ⟨by unfold rChk; rw [if_pos hst, if_pos (by omega)], rfl⟩
 refine jp rfl (jp rfl (js rfl (fun h14 => ?_) (fun h14 => ?_)))
 ·refine jp rfl (wAc (jT (wAg rfl (wAb (wAa (jp rfl (jp rfl (wAc (jT (wAe (jTr (wAr (L' := []) (List.nil_sublist _) ?_))))))))))))
  refine jr2 rfl rfl rfl ?_
  have hst : wCc s := by simpa using h9
  exact ⟨by unfold rChk; rw [if_pos hst, if_pos (by omega)], rfl⟩
 refine jp rfl (wAc (jT (wAk rfl (wAd (jT (wAb (wAb (wAa (sFL rfl rfl ?_)))))))))
 refine jp rfl ?_
 have hst : wCc s := by simpa using h9
 have hn1 := hst.2.1.1
 have hkn : root.toNat < s.now.length := by omega
 obtain ⟨tb, to, g0, gcl⟩ := wCw h3 hkn
 rw [show ((root.toNat : Nat) : Int) = root by omega] at gcl
 refine wAi rfl rfl (wCe rfl rfl rfl rfl g0 (by omega)) ?_
 refine wAi rfl rfl (qLd rfl rfl rfl rfl (gcl.cj _)) ?_
 refine js rfl (fun h21 => ?_) (fun h21 => ?_)
 ·refine wAc (jT (wAg rfl (wAb (wAa (jp rfl (jp rfl (wAc (jT (wAe (jTr (wAr (L' := []) (List.nil_sublist _) ?_)))))))))))
  refine jr2 rfl rfl rfl ?_
  have e0 : s.now[root.toNat] = 0 := UInt8.toNat_inj.1 (by show _ = 0; omega)
  exact ⟨by unfold rChk; rw [if_pos hst, if_neg (by omega), wCp hkn, if_pos e0], rfl⟩
 refine wAc (jT (wAk rfl (wAd (jT (wAb (wAa (sLL rfl ?_)))))))
 refine jp rfl (wAy rfl rfl (wAu rfl rfl rfl rfl rfl (by kernel_rfl) (rtree_spec s hst _ root M hS (by omega))) ?_); rintro _ M1 _ ⟨hM1, _, rfl, ⟨rfl, rfl⟩⟩
 refine jp rfl (wAc (jT (wAb (wAb (wAa (jp rfl (js rfl (fun h26 => ?_) (fun h26 => ?_))))))))
 ·refine wAc (jT (wAg rfl (wAb (wAa (jp rfl (jp rfl (wAc (jT (wAe (jTr (wAr (L' := []) (List.nil_sublist _) ?_)))))))))))
  refine jr2 rfl rfl rfl ?_
  have e0 : ¬ s.now[root.toNat] = 0 := fun h => h21 (by rw [h]; rfl)
  exact ⟨by unfold rChk; rw [if_pos hst, if_neg (by omega), wCp hkn, if_neg e0, if_pos h26], rfl⟩
 refine wAc (jT (wAk rfl (wAd (jT (wAb (wAa (jp rfl (jp rfl (jp rfl (wAc (jT (wAe (wAr (L' := []) (List.nil_sublist _) ?_)))))))))))))
 refine jr2 rfl rfl rfl ?_
 have e0 : ¬ s.now[root.toNat] = 0 := fun h => h21 (by rw [h]; rfl)
 exact ⟨by unfold rChk; rw [if_pos hst, if_neg (by omega), wCp hkn, if_neg e0, if_neg h26], rfl⟩
theorem rchk10_spec (s : Sto) (u : Value) (root : Int) (M : Mem) (hS : ST M u s) (hf : fewS s) (hr : -9223372036854775808 ≤ root ∧ root ≤ 9223372036854775807) : SpecL Tryz.prog 23 #[u, .int .i64 root] M [] fun u _ L' => u = .tuple #[.int .i64 (rChk s root).1, .int .i64 (rChk s root).2] ∧ L' = [] := by
 obtain ⟨b, w, n, l, rfl, k1, k2, ⟨na, nc, rfl, _, k3⟩, k4⟩ := id hS.ex
 exact rchk10_walk s b w l na nc M hS k3 hf root hr
theorem leaf_is {s : Sto} : ∀ {xs : List It} {o : Option Sp} {p : Option Ky}, wCj false p xs = true → (∀ q, o = some q → p = some q.last) → xs ≠ [] → (wEf (wBu s 0) o xs).is = (xs.all fun x => (wBu s 0 x).is)
 | [], _, _, _, _, h => absurd rfl h
 | x :: xs, o, p, h, ho, _ => by
  simp only [wCj, Bool.and_eq_true, Bool.not_eq_true', Bool.or_eq_true] at h
  rw [wEf, List.all_cons]
  by_cases hx : (wBu s 0 x).is = true
  ·have hs : wBs (wBu s 0 x) o x = true := by
    unfold wBs
    rw [hx, Bool.true_and, Bool.and_eq_true]
    refine ⟨decide_eq_true rfl, ?_⟩
    cases o with
    | none => rfl
    | some q =>
     have := ho q rfl
     subst this
     show wBf q.last x.key = true
     simpa using h.1.1.2
   rw [if_pos hs, hx, Bool.true_and]
   cases xs with
   | nil => rfl
   | cons y ys => exact leaf_is (p := some x.key) h.2 (fun q hq => by cases hq; rfl) (by simp)
  have hs : wBs (wBu s 0 x) o x = false := by
   unfold wBs
   rw [Bool.eq_false_iff.2 hx, Bool.false_and, Bool.false_and]
  rw [if_neg (by rw [hs]; decide), Bool.eq_false_iff.2 hx, Bool.false_and]; rfl
theorem go_last0 {s : Sto} : ∀ {xs : List It} {o : Option Sp}, (wEf (wBu s 0) o xs).is = true → xs ≠ [] → (wEf (wBu s 0) o xs).last = lastK xs
 | [], _, _, h => absurd rfl h
 | [x], o, h, _ => by
  rw [wEf] at h ⊢
  split
  ·rfl
  rename_i hh; rw [if_neg hh] at h; cases h
 | x :: y :: ys, o, h, _ => by
  rw [wEf] at h ⊢
  split
  ·rename_i hh
   rw [if_pos hh] at h
   rw [go_last0 h (by simp)]
   unfold lastK; simp
  rename_i hh; rw [if_neg hh] at h; cases h
def RF (s : Sto) (l : Nat) : Prop := ∀ (x : It) (to : Ky) (ends : Bool), rRt s l x.ref x.key to ends = true ↔ (wBu s (l + 1) x).is = true ∧ (wBu s (l + 1) x).first = x.key ∧ (ends = true → wBf (wBu s (l + 1) x).last to = true)
theorem rgo_is {s : Sto} {l : Nat} (hR : RF s l) {to : Ky} {ends : Bool} : ∀ {xs : List It} {o : Option Sp}, (∀ q, o = some q → ∀ h : 0 < xs.length, wBf q.last xs[0].key = true) → xs ≠ [] → (rGo (fun x => rRt s l x.ref x.key) to ends xs = true ↔ (wEf (wBu s (l + 1)) o xs).is = true ∧ (ends = true → wBf (wEf (wBu s (l + 1)) o xs).last to = true))
 | [], _, _, h => absurd rfl h
 | [x], o, ho, _ => by
  rw [rGo, hR, wEf]
  have hst : wBs (wBu s (l + 1) x) o x = true ↔ (wBu s (l + 1) x).is = true ∧ (wBu s (l + 1) x).first = x.key := by
   unfold wBs
   rw [Bool.and_eq_true, Bool.and_eq_true, decide_eq_true_eq]
   refine ⟨fun h => h.1, fun h => ⟨h, ?_⟩⟩
   cases o with
   | none => rfl
   | some q => rw [h.2]; exact ho q rfl (by simp)
  by_cases hs : wBs (wBu s (l + 1) x) o x = true
  ·rw [if_pos hs]
   have h2 := hst.1 hs
   exact ⟨fun h => ⟨rfl, h.2.2⟩, fun h => ⟨h2.1, h2.2, h.2⟩⟩
  rw [if_neg hs]
  exact ⟨fun h => absurd (hst.2 ⟨h.1, h.2.1⟩) hs, fun h => by cases h.1⟩
 | x :: y :: ys, o, ho, _ => by
  rw [rGo, Bool.and_eq_true, hR, wEf]
  have hst : wBs (wBu s (l + 1) x) o x = true ↔ (wBu s (l + 1) x).is = true ∧ (wBu s (l + 1) x).first = x.key := by
   unfold wBs
   rw [Bool.and_eq_true, Bool.and_eq_true, decide_eq_true_eq]
   refine ⟨fun h => h.1, fun h => ⟨h, ?_⟩⟩
   cases o with
   | none => rfl
   | some q => rw [h.2]; exact ho q rfl (by simp)
  by_cases hs : wBs (wBu s (l + 1) x) o x = true
  ·rw [if_pos hs]
   have h2 := hst.1 hs
   by_cases hl : wBf (wBu s (l + 1) x).last y.key = true
   ·have ih := rgo_is hR (to := to) (ends := ends) (xs := y :: ys) (o := some (wEd (wBu s (l + 1) x) o)) (fun q hq _ => by cases hq; exact hl) (by simp)
    rw [ih]
    exact ⟨fun h => h.2, fun h => ⟨⟨h2.1, h2.2, fun _ => hl⟩, h⟩⟩
   refine ⟨fun h => absurd (h.1.2.2 rfl) hl, fun h => ?_⟩
   exfalso
   have h3 := h.1
   rw [wEf] at h3
   split at h3
   ·rename_i hh
    unfold wBs at hh
    rw [Bool.and_eq_true, Bool.and_eq_true, decide_eq_true_eq] at hh
    have h4 := hh.2
    rw [hh.1.2] at h4
    exact hl h4
   cases h3
  rw [if_neg hs]
  exact ⟨fun h => absurd (hst.2 ⟨h.1.1, h.1.2.1⟩) hs, fun h => by cases h.1⟩
theorem lastK_mem {xs : List It} (h : xs ≠ []) : ∃ z ∈ xs, lastK xs = z.key := by
 have : xs.length - 1 < xs.length := by have := List.length_pos_iff.2 h; omega
 exact ⟨xs[xs.length - 1], List.getElem_mem _, lastK_is this rfl⟩
theorem go_le {s : Sto} {l : Nat} {xs : List It} (h : (wEf (wBu s l) none xs).is = true) (hx : xs ≠ []) : kle (lastK xs) (wEf (wBu s l) none xs).last ∧ (wEf (wBu s l) none xs).first = wDc xs := by
 have h1 := go_in (f := wBu s l) (g := wCu s l) (o := none) (xs := xs) (fun x _ h1 h2 => one_in s l x h1 h2) h hx
 obtain ⟨z, hz, e⟩ := lastK_mem hx
 exact ⟨by rw [e]; exact h1.2.2.1 z hz, h1.2.2.2.2⟩
theorem rin_is {s : Sto} : ∀ (l : Nat) {xs : List It} {to : Ky} {ends : Bool}, NdOk (l : Int) xs → xs ≠ [] → ((rIn s l xs to ends = true ∧ (ends = true → wBf (lastK xs) to = true)) ↔ (wEf (wBu s l) none xs).is = true ∧ (ends = true → wBf (wEf (wBu s l) none xs).last to = true))
 | 0, xs, to, ends, hno, hx => by
  have h1 := leaf_is (s := s) (o := none) (xs := xs) (p := none) hno.ok (fun q hq => by cases hq) hx
  show ((xs.all fun x => (wBu s 0 x).is) = true ∧ _) ↔ _
  rw [← h1]
  refine ⟨fun h => ⟨h.1, fun he => by rw [go_last0 h.1 hx]; exact h.2 he⟩, fun h => ⟨h.1, fun he => by rw [← go_last0 h.1 hx]; exact h.2 he⟩⟩
 | l + 1, xs, to, ends, hno, hx => by
  have hR : RF s l := by
   intro x to ends
   unfold rRt
   simp only [wBu]
   cases hnd : wBk s x.ref.toNat with
   | none => simp [wKs]
   | some p =>
    obtain ⟨lv, ys⟩ := p
    by_cases hc : lv = (l : Int) ∧ ys ≠ []
    ·obtain ⟨rfl, hys⟩ := hc
     have ih := rin_is (s := s) l (to := to) (ends := ends) (wBo hnd) hys
     simp only [hys, ne_eq, not_false_eq_true, decide_true, Bool.true_and, and_self, if_true, Bool.and_eq_true, decide_eq_true_eq, Bool.or_eq_true, Bool.not_eq_true']
     constructor
     ·rintro ⟨⟨h1, h2⟩, h3⟩
      have h5 : ends = true → wBf (lastK ys) to = true := by
       intro he
       rcases h2 with h2 | h2
       ·rw [he] at h2; cases h2
       exact h2
      have h4 := ih.1 ⟨h3, h5⟩
      exact ⟨h4.1, by rw [(go_le h4.1 hys).2, h1], h4.2⟩
     rintro ⟨h1, h2, h3⟩
     have h4 := ih.2 ⟨h1, h3⟩
     refine ⟨⟨by rw [← (go_le h1 hys).2, h2], ?_⟩, h4.1⟩
     cases ends with
     | false => exact .inl rfl
     | true => exact .inr (h4.2 rfl)
    simp only [if_neg hc]
    constructor
    ·intro h
     simp only [Bool.and_eq_true, decide_eq_true_eq] at h
     exact absurd ⟨h.1.1.1.1, h.1.1.1.2⟩ hc
    rintro ⟨h, _⟩; cases h
  rw [rIn_up]
  have h1 := rgo_is hR (to := to) (ends := ends) (xs := xs) (o := none) (fun q hq => by cases hq) hx
  rw [h1]
  refine ⟨fun h => h.1, fun h => ⟨h, fun he => kle_lt (go_le h.1 hx).1 (h.2 he)⟩⟩
theorem rin_tree {s : Sto} {l : Nat} {xs : List It} (hno : NdOk (l : Int) xs) : rIn s l xs ⟨0, 0, 0⟩ false = true ↔ wCq s l xs := by
 by_cases hx : xs = []
 ·subst hx
  refine ⟨fun _ h => absurd rfl h, fun _ => ?_⟩
  cases l with
  | zero => rfl
  | succ l => rw [rIn_up]; rfl
 have h := rin_is (s := s) l (to := ⟨0, 0, 0⟩) (ends := false) hno hx
 unfold wCq
 exact ⟨fun h1 _ => (h.1 ⟨h1, fun he => by cases he⟩).1, fun h1 => (h.2 ⟨h1 hx, fun he => by cases he⟩).1⟩
theorem rchk_is (s : Sto) (root : Int) : rChk s root = wFh s root := by
 unfold rChk wFh
 by_cases h1 : wCc s
 ·rw [if_pos h1, if_pos h1]
  by_cases h2 : root < 8 ∨ 256 ≤ root
  ·rw [if_pos h2, if_pos h2]
  rw [if_neg h2, if_neg h2]
  by_cases h3 : s.now.getD root.toNat 0 = 0
  ·rw [if_pos h3, if_pos h3]
  rw [if_neg h3, if_neg h3]
  cases hnd : wBk s root.toNat with
  | none =>
   have hT : wLe s root = -1 := by unfold wLe; rw [hnd]
   rw [hT]; rfl
  | some p =>
   obtain ⟨lv, xs⟩ := p
   have hno := wBo hnd
   have hlv := hno.lev
   have e : ((lv.toNat : Nat) : Int) = lv := by omega
   have ht := rin_tree (s := s) (l := lv.toNat) (xs := xs) (by rw [e]; exact hno)
   dsimp only
   by_cases h4 : wCq s lv.toNat xs
   ·have hT : wLe s root = lv + 1 := by unfold wLe; rw [hnd]; exact if_pos (ht.2 h4)
    rw [hT, if_pos h4, if_neg (by omega)]
   have hT : wLe s root = -1 := by unfold wLe; rw [hnd]; exact if_neg (fun h => h4 (ht.1 h))
   rw [hT, if_neg h4, if_pos (by omega)]
 rw [if_neg h1, if_neg h1]
theorem rchk10_fspec (s : Sto) (u : Value) (root : Int) (M : Mem) (hS : ST M u s) (hf : fewS s) (hr : -9223372036854775808 ≤ root ∧ root ≤ 9223372036854775807) : SpecL Tryz.prog 23 #[u, .int .i64 root] M [] fun u _ L' => u = .tuple #[.int .i64 (wFh s root).1, .int .i64 (wFh s root).2] ∧ L' = [] := by
 rw [← rchk_is]; exact rchk10_spec s u root M hS hf hr
end Go.Proofs.YtkcpllhggofloaaGreat
