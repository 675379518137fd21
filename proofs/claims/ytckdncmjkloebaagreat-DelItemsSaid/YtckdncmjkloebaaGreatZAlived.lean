/- Walks: the example that each statement begins with; the items of a tree, compared. No statement of the seat is proved here. -/
import Derived.Test.YtckdncmjkloebaaGreatZDel
import Derived.Test.YtckdncmjkloebaaGreatZAlivep
namespace Go.Proofs.YtckdncmjkloebaaGreat
set_option linter.unusedVariables false
set_option linter.unusedSimpArgs false
open Go.RowKit
theorem wEj (s : Sto) (v : Value) (root : Int) (q : Ky) (M : Mem) (hv : ST M v s) : SpecL Tryz.prog 14 #[v, .int .i64 root, .agg (wBr q).toArray] M [] fun u M' L' => PtPost (delF s root q) u M' ∧ L' = [] := by
 obtain ⟨b, w, n, l, rfl, h1, ⟨wa, wc, wps, rfl, hwc, hws, hwp, hwb⟩, h3, h4⟩ := hv.ex
 exact del_walk s root q b n l wa wc wps M h1 hwc hws hwp hwb h3 h4
theorem dkey (n : Int) (M : Mem) :
  SpecL Tryz.prog 68 #[.int .u32 n] M [] fun v _ _ => v = .agg (wBr (kyO n)).toArray := by
 refine wAi (vs := [_]) 5 _ Tryz.func68 rfl Tryz.ntmps68 rfl rfl ?_; intro W
 refine wAb (wAa ?_)
 refine wAr rfl rfl (wAs rfl rfl) ?_; rintro _ _ _ ⟨b2, rfl, rfl, rfl⟩
 refine wAc (jT (wAb (wAa ?_)))
 refine jp rfl ?_
 refine wAe rfl rfl (wBf (cs := [_, _, _]) rfl rfl rfl (by rfl)) ?_
 refine wBk rfl (wAg rfl rfl rfl rfl rfl rfl rfl rfl) ?_; rintro _ _ _ ⟨rfl, rfl⟩
 refine wAc (jT (wAh ?_))
 refine jrs (rs := [_]) rfl (.cons (.agg rfl rfl rfl) .nil) ?_
 rfl
set_option maxHeartbeats 2000000 in
theorem dgrown (n : Nat) (hn : n ≤ 6) (M : Mem) :
  SpecL Tryz.prog 67 #[.int .u32 n] M [] fun u M' L' => (∃ x r s, u = .tuple #[.agg (vcl x).toArray, .int .i64 r, .bool true] ∧ ST M' (.agg (vcl x).toArray) s ∧ wCx s ∧ growF n = .ok (s, r)) ∧ L' = [] := by
 refine wAi (vs := [_]) 38 _ Tryz.func67 rfl Tryz.ntmps67 rfl rfl ?_; intro W
 refine wAb (wAa ?_)
 refine wAr rfl rfl (wAs rfl rfl) ?_; rintro _ _ _ ⟨b2, rfl, rfl, rfl⟩
 iterate 2 refine jp rfl ?_
 refine wAc (jT (wAb (wAa ?_)))
 refine wAr rfl rfl (wAu rfl rfl rfl rfl rfl (by kernel_rfl) (rnew_spec M)) ?_; rintro _ M1 _ ⟨hM1, _, rfl, ⟨hs0, rfl⟩⟩
 obtain ⟨z1, z2, z3, z4, rfl, f1, f2, f3, f4⟩ := id hs0.ex
 simp only [List.nil_append]
 refine wAr rfl rfl (wAu rfl rfl rfl rfl rfl (by kernel_rfl) (pnew_walk st0 _ _ _ _ M1 hs0)) ?_; rintro _ M2 _ ⟨hM2, _, rfl, ⟨hdm, rfl⟩⟩
 obtain ⟨ba, bn, bc, wa, wn, wc, na, nn, nc, la, ln, lc, at_, e, rfl, hq⟩ := hdm.form
 obtain ⟨he, he2, _⟩ | ⟨rfl, _, hat, _, hs1, hk1⟩ := hq
 ·exfalso; exact he (he2.trans new_ok)
 simp only [List.nil_append]
 iterate 4 refine jp rfl ?_
 refine wAr rfl rfl (wAs rfl rfl) ?_; rintro _ _ _ ⟨b5, rfl, rfl, rfl⟩
 refine wBk rfl (wAg rfl rfl rfl rfl rfl rfl rfl rfl) ?_; rintro _ _ _ ⟨rfl, rfl⟩
 iterate 2 refine jp rfl ?_
 refine wAc (jT (wAb (wAb (wAa ?_))))
 refine jp rfl ?_
 refine wAc (jT (wAk ?_))
 refine wBc (α := GwS) (fun x => [(0, .int .u32 n), (2, .pointer (some ⟨b2, 0, none⟩)), (5, .pointer (some ⟨b5, 0, none⟩)), (6, .int .i64 x.r), (7, .int .i64 0), (8, .int .u32 ((x.k + 1 : Nat) : Int))]) (fun x => x.M) (fun x => [(b5, .cells (vcl x.v).toArray TSt (0, 0)), (b2, .cells [.slice none 0 0, .slice none 0 0, .slice none 0 0, .slice none 0 0].toArray TSt (0, 0))]) (fun x => x.k ≤ n ∧ ST x.M (.agg (vcl x.v).toArray) x.s ∧ wCx x.s ∧ growF x.k = .ok (x.s, x.r)) (fun x => n - x.k)
  ⟨0, mkS st0 0 [], at_, M2, ⟨ba, bn, bc, wa, wn, wc, na, nn, nc, la, ln, lc⟩⟩ (Keep.cons (t := 0) rfl (Keep.cons (t := 2) rfl (Keep.cons (t := 5) rfl (Keep.cons (t := 6) rfl (Keep.cons (t := 7) rfl (Keep.cons (t := 8) rfl Keep.nil)))))) ⟨Nat.zero_le _, hs1, hk1, by rw [hat]; exact grow_zero⟩ (fun _ h => h) ?_
 rintro ⟨k, s, r, Mk, x⟩ ⟨hk, hs, hok, hg⟩
 try dsimp only at hk hs hok hg ⊢
 refine wAb (wAb (wAa ?_))
 iterate 2 refine jp rfl ?_
 refine js rfl (fun h17 => ?_) (fun h17 => ?_)
 ·iterate 2 refine jp rfl ?_
  refine jt rfl (decide_eq_true (by omega)) ?_
  refine jp rfl ?_
  refine wAc (jT (wAj rfl (wAf (jT (wAb (wAk ?_))))))
  refine wGb (p := { A := fun i => !([10].contains i), U := fun i => !([8, 9, 10, 11, 12].contains i) }) [(0, true), (1, true), (2, true), (3, true), (4, true), (5, false), (6, true), (7, true), (8, true), (9, true), (10, false), (11, true), (12, true)] _ (_) ([]) (by kernel_rfl) (by kernel_rfl) (by kernel_rfl) (by kernel_rfl) rfl (fun _ h => h) (MLe.refl _) (by simp) ?_
  refine wAv rfl rfl rfl (wBq rfl rfl rfl rfl rfl) ?_
  iterate 2 refine dp rfl rfl ?_
  refine wAv rfl rfl rfl (wBu rfl rfl rfl rfl rfl (by kernel_rfl) (dkey ((k + 1 : Nat) : Int) Mk)) ?_
  refine wAv rfl rfl rfl (wBf (cs := [_, _, _, _, _]) rfl rfl rfl (by rfl)) ?_
  have hk6 : k + 1 ≤ 6 := by omega
  refine wGj rfl rfl rfl (wAu rfl rfl rfl rfl rfl (by kernel_rfl) (put_spec s _ (.slice none 0 0) r (itO ((k + 1 : Nat) : Int)) Mk hs BS.nil (kyO_ok (by omega)))) ?_; rintro _ Mp _ ⟨hMp, _, rfl, ⟨hpt, rfl⟩⟩
  refine ⟨_, _, MLe.refl _, hMp, fun _ h => h, by simp, ?_⟩
  obtain ⟨ba, bn, bc, wa, wn, wc, na, nn, nc, la, ln, lc, at_, e, rfl, hq⟩ := hpt.form
  obtain ⟨he, he2, _⟩ | ⟨rfl, t, ht, _, _, hs2, hk2⟩ := hq
  ·exfalso; exact grow_no hk6 hg he2
  simp only [List.nil_append]
  iterate 4 refine dp rfl rfl ?_
  refine jd_e rfl rfl (wAg rfl rfl rfl rfl rfl rfl rfl rfl) ?_; rintro _ _ _ ⟨rfl, rfl⟩
  refine ⟨hMp, by simp, ?_⟩
  refine ep rfl rfl ?_
  refine ep rfl rfl ?_
  refine je_nil ?_
  refine jPn (jB (jT (wAa ?_)))
  refine jp rfl ?_
  refine wAe rfl rfl (qEq (qAk rfl rfl rfl rfl rfl (by rw [IntKind.wrap_u32]; omega)) (v' := .int .u32 ((k + 1 + 1 : Nat) : Int)) (congrArg _ (by omega))) ?_
  refine jp rfl ?_
  refine wAc ?_
  refine wAx ⟨k + 1, t, at_, Mp, ⟨ba, bn, bc, wa, wn, wc, na, nn, nc, la, ln, lc⟩⟩ (Keep.cons (t := 0) rfl (Keep.cons (t := 2) rfl (Keep.cons (t := 5) rfl (Keep.cons (t := 6) rfl (Keep.cons (t := 7) rfl (Keep.cons (t := 8) rfl Keep.nil)))))) ⟨by show k + 1 ≤ n; omega, hs2, hk2, by show growF (k + 1) = _; rw [growF, hg]; exact ht⟩ (by show n - (k + 1) < n - k; omega) (fun _ h => h)
 ·iterate 4 refine jp rfl ?_
  refine wAc (jT (wAm rfl (wBa (jTx (jTx (jBx (jT (wAb (wAa ?_)))))))))
  refine wAe rfl rfl (wBq rfl rfl rfl rfl rfl) ?_
  iterate 2 refine jp rfl ?_
  refine wAe rfl rfl (qP rfl rfl) ?_
  refine wBk rfl (wAg rfl rfl rfl rfl rfl rfl rfl rfl) ?_; rintro _ _ _ ⟨rfl, rfl⟩
  iterate 2 refine jp rfl ?_
  refine wAc (jT (wAh ?_))
  refine wFd (rs := [_, _, _]) ([]) (by exact List.nil_sublist _) rfl (.cons (.agg rfl rfl rfl) (.cons (.tmp rfl) (.cons (.tmp rfl) .nil))) ?_
  obtain rfl : k = n := by omega
  exact ⟨⟨x, r, s, rfl, hs, hok, hg⟩, rfl⟩
theorem dall_walk (s : Sto) (root : Int) (bv wv nv lw : Value) (M : Mem) (hST : ST M (.agg #[bv, wv, nv, lw]) s) :
  SpecL Tryz.prog 30 #[.agg #[bv, wv, nv, lw], .int .i64 root] M [] fun u M' L' => NS M' u (wJc s root) ∧ L' = [] := by
 refine wAi (vs := [_, _]) 16 _ Tryz.func30 rfl Tryz.ntmps30 rfl rfl ?_; intro W
 refine wAb (wAa ?_)
 refine wAr rfl rfl (wDt (cs := [bv, wv, nv, lw]) rfl rfl rfl rfl) ?_; rintro _ _ _ ⟨b2, rfl, rfl, rfl⟩
 refine jp rfl ?_
 refine wAc (jT (wAb (wAa ?_)))
 refine wAe rfl rfl (wBq rfl rfl rfl rfl rfl) ?_
 refine jp rfl ?_
 refine wAe rfl rfl (qEq (wBf (cs := [_, _, _]) rfl rfl rfl (by rfl)) (v' := .agg (wBr ⟨0, 0, 0⟩).toArray) rfl) ?_
 refine wAe rfl rfl (qEq (wBf (cs := [_, _, _]) rfl rfl rfl (by rfl)) (v' := .agg (wBr ⟨255, 4294967295, 4294967295⟩).toArray) rfl) ?_
 refine wAr rfl rfl (wAu rfl rfl rfl rfl rfl (by kernel_rfl) (range_spec s _ root ⟨0, 0, 0⟩ ⟨255, 4294967295, 4294967295⟩ M hST)) ?_; rintro _ M1 _ ⟨hM1, _, rfl, ⟨⟨v, rfl, hns⟩, rfl⟩⟩
 iterate 5 refine jp rfl ?_
 refine wAc (jT (wAb (wAa ?_)))
 iterate 2 refine jp rfl ?_
 refine wAc (jT (wAh ?_))
 refine wBg (L' := []) (List.nil_sublist _) ?_
 refine jr1 rfl rfl ?_
 exact ⟨by rw [← allR_rng]; exact hns, rfl⟩
theorem dall (s : Sto) (v : Value) (root : Int) (M : Mem) (h : ST M v s) : SpecL Tryz.prog 30 #[v, .int .i64 root] M [] fun u M' L' => NS M' u (wJc s root) ∧ L' = [] := by
 obtain ⟨b, w, n, l, rfl, h1, h2, h3, h4⟩ := id h.ex
 exact dall_walk s root b w n l M h
theorem dsame_walk (xs ys : List It) (a1 a2 : Option Addr) (c1 c2 : Nat) (ps1 ps2 : List (It × Value)) (M : Mem) (hs1 : SM M a1 (ps1.flatMap wAq)) (hp1 : ps1.map (·.1) = xs) (hb1 : ∀ p ∈ ps1, BS M p.2 p.1.val) (hs2 : SM M a2 (ps2.flatMap wAq)) (hp2 : ps2.map (·.1) = ys) (hb2 : ∀ p ∈ ps2, BS M p.2 p.1.val) (hn1 : xs.length ≤ 1000000) (hn2 : ys.length ≤ 1000000) :
  SpecL Tryz.prog 31 #[.slice a1 xs.length c1, .slice a2 ys.length c2] M [] fun v _ _ => v = .bool (decide (xs = ys)) := by
 refine wAi (vs := [_, _]) 33 _ Tryz.func31 rfl Tryz.ntmps31 rfl rfl ?_; intro W
 refine wAb (wAa ?_)
 refine jp rfl ?_
 refine wAc (jT (wAb (wAb (wAa ?_))))
 refine jp rfl ?_
 refine wAc (jT (wAk ?_))
 refine wBc (α := Nat) (fun k => [(0, .slice a1 xs.length c1), (1, .slice a2 ys.length c2), (5, .int .i64 k)]) (fun _ => M) (fun _ => []) (fun k => k ≤ xs.length ∧ k ≤ ys.length ∧ xs.take k = ys.take k) (fun k => xs.length - k)
  0 (Keep.cons (t := 0) rfl (Keep.cons (t := 1) rfl (Keep.cons (t := 5) rfl Keep.nil))) ⟨Nat.zero_le _, Nat.zero_le _, rfl⟩ (fun _ h => h) ?_
 rintro k ⟨hk1, hk2, hI⟩
 try dsimp only at hk1 hk2 hI ⊢
 refine wAb (wAb (wAa ?_))
 iterate 2 refine jp rfl ?_
 refine wAe rfl rfl (wBt rfl rfl rfl) ?_
 refine js rfl (fun h9 => ?_) (fun h9 => ?_)
 ·iterate 3 refine jp rfl ?_
  refine wAe rfl rfl (wBt rfl rfl rfl) ?_
  refine js rfl (fun h14 => ?_) (fun h14 => ?_)
  ·refine jp rfl ?_
   refine wAc (jT (wAj rfl (wAf (jT (wAb (wAk (wAb ?_)))))))
   refine wBp [(0, true), (1, true), (2, true), (3, true), (4, true), (5, true), (6, true), (7, true), (8, true), (9, true)] _ (by kernel_rfl) (by kernel_rfl) (by kernel_rfl) rfl (fun _ h => h) ?_
   iterate 2 refine dp rfl rfl ?_
   have hk1 : k < xs.length ∧ k < ys.length := by omega
   obtain ⟨pb, po, pe, px⟩ := hs1.open (by intro e; have := congrArg List.length e; rw [wBd wAq 5 wAo, List.length_nil] at this; have h2 := congrArg List.length hp1; rw [List.length_map] at h2; omega)
   cases pe
   obtain ⟨pva, pvc, pcl, pvh, pvs⟩ := wBj px hp1 hb1 (k := k) (by omega)
   obtain ⟨qb, qo, qe, qx⟩ := hs2.open (by intro e; have := congrArg List.length e; rw [wBd wAq 5 wAo, List.length_nil] at this; have h2 := congrArg List.length hp2; rw [List.length_map] at h2; omega)
   cases qe
   obtain ⟨qva, qvc, qcl, qvh, qvs⟩ := wBj qx hp2 hb2 (k := k) (by omega)
   refine wAv rfl rfl rfl (wBh rfl rfl rfl rfl (by omega)) ?_
   refine wAv rfl rfl rfl (wGs (cs := itc xs[k] pva pvc) rfl rfl rfl rfl rfl (fun i v hv => (pcl i v hv).cj _)) ?_
   iterate 2 refine dp rfl rfl ?_
   refine wAv rfl rfl rfl (wBh rfl rfl rfl rfl (by omega)) ?_
   refine wAv rfl rfl rfl (wGs (cs := itc ys[k] qva qvc) rfl rfl rfl rfl rfl (fun i v hv => (qcl i v hv).cj _)) ?_
   refine jd_qb rfl rfl rfl (wBu rfl rfl rfl rfl rfl (by kernel_rfl) (itsame_spec xs[k] ys[k] _ _ M ⟨_, _, rfl, pvh, pvs⟩ ⟨_, _, rfl, qvh, qvs⟩)) (fun h26 => ?_) (fun h26 => ?_)
   ·refine dp rfl rfl ?_
    refine wBi (jPn (jT (wAm rfl (wAf (jB (jT (wAa ?_)))))))
    refine jp rfl ?_
    refine ja rfl (by omega) ?_
    refine jp rfl ?_
    refine wAc ?_
    refine wAx (k + 1) (Keep.cons (t := 0) rfl (Keep.cons (t := 1) rfl (Keep.cons (t := 5) rfl Keep.nil))) ⟨by omega, by omega, by rw [List.take_succ_eq_append_getElem hk1.1, List.take_succ_eq_append_getElem hk1.2, hI, of_decide_eq_true h26]⟩ (by omega) (fun _ h => h)
   ·refine dp rfl rfl ?_
    refine wBi (jPn (jT (wAj rfl (wAb (wAa ?_)))))
    refine jp rfl ?_
    refine wAc (jT (wAh (jBr (jTr (jTr (jBr (jTr ?_)))))))
    refine jr1 rfl rfl ?_
    refine congrArg _ (Eq.symm (decide_eq_false fun e => ?_))
    subst e
    exact of_decide_eq_false h26 rfl
  ·refine jp rfl ?_
   refine wAc (jT (wAm rfl (wBa (jTx (jTx (jBx (jT (wAb (wAa ?_)))))))))
   refine jp rfl ?_
   refine wAe rfl rfl (wBt rfl rfl rfl) ?_
   refine jp rfl ?_
   refine wAe rfl rfl (wBt rfl rfl rfl) ?_
   iterate 2 refine jp rfl ?_
   refine wAc (jT (wAh ?_))
   refine jr1 rfl rfl ?_
   refine congrArg _ (decide_eq_decide.2 ⟨fun hl => ?_, fun e => by rw [e]⟩)
   have e1 : k = xs.length := by omega
   rw [List.take_of_length_le (by omega), List.take_of_length_le (by omega)] at hI
   exact hI
 ·iterate 6 refine jp rfl ?_
  refine wAc (jT (wAm rfl (wBa (jTx (jTx (jBx (jT (wAb (wAa ?_)))))))))
  refine jp rfl ?_
  refine wAe rfl rfl (wBt rfl rfl rfl) ?_
  refine jp rfl ?_
  refine wAe rfl rfl (wBt rfl rfl rfl) ?_
  iterate 2 refine jp rfl ?_
  refine wAc (jT (wAh ?_))
  refine jr1 rfl rfl ?_
  refine congrArg _ (decide_eq_decide.2 ⟨fun hl => ?_, fun e => by rw [e]⟩)
  have e1 : k = xs.length := by omega
  rw [List.take_of_length_le (by omega), List.take_of_length_le (by omega)] at hI
  exact hI
theorem dsame (xs ys : List It) (u v : Value) (M : Mem) (h1 : NS M u xs) (h2 : NS M v ys) (hn1 : xs.length ≤ 1000000) (hn2 : ys.length ≤ 1000000) : SpecL Tryz.prog 31 #[u, v] M [] fun v _ _ => v = .bool (decide (xs = ys)) := by
 obtain ⟨a1, c1, ps1, rfl, _, hs1, hp1, hb1⟩ := h1
 obtain ⟨a2, c2, ps2, rfl, _, hs2, hp2, hb2⟩ := h2
 exact dsame_walk xs ys a1 a2 c1 c2 ps1 ps2 M hs1 hp1 hb1 hs2 hp2 hb2 hn1 hn2
def alD : Bool := match growF 6 with | .ok (s, r) => (match delF s r (kyO 1) with | .ok (t, n) => decide (wCj t n = (1, 0)) && decide ((wJc t n).length = 5) | .error _ => false) | .error _ => false
theorem ald_yes : alD = true := by decide +kernel
theorem ald_del {s : Sto} {r : Int} (h : growF 6 = .ok (s, r)) : ∃ t n, delF s r (kyO 1) = .ok (t, n) ∧ wCj t n = (1, 0) ∧ (wJc t n).length = 5 := by
 have := ald_yes
 unfold alD at this
 rw [h] at this
 change (match delF s r (kyO 1) with | .ok (t, n) => decide (wCj t n = (1, 0)) && decide ((wJc t n).length = 5) | .error _ => false) = true at this
 split at this
 ·rename_i t n he
  rw [Bool.and_eq_true] at this
  exact ⟨t, n, he, of_decide_eq_true this.1, of_decide_eq_true this.2⟩
 ·cases this
theorem dalive (M : Mem) :
  SpecL Tryz.prog 28 #[] M [] fun u M' L' => u = .bool true ∧ L' = [] := by
 refine wAi (vs := []) 48 _ Tryz.func28 rfl Tryz.ntmps28 rfl rfl ?_; intro W
 refine wAb (wAa ?_)
 refine jp rfl ?_
 refine wAc (jT (wAb (wAa ?_)))
 refine wAr rfl rfl (wAu rfl rfl rfl rfl rfl (by kernel_rfl) (dgrown 6 (by omega) M)) ?_; rintro _ M1 _ ⟨hM1, _, rfl, ⟨⟨x, r, s, rfl, hs, hok, hg⟩, rfl⟩⟩
 obtain ⟨t0, n0, hdl, hfc, hal⟩ := ald_del hg
 iterate 3 refine jp rfl ?_
 refine jsb rfl (fun h13 => ?_) (fun h13 => ?_)
 ·refine wAr rfl rfl (wAs rfl rfl) ?_; rintro _ _ _ ⟨b1, rfl, rfl, rfl⟩
  refine wBk rfl (wAg rfl rfl rfl rfl rfl rfl rfl rfl) ?_; rintro _ _ _ ⟨rfl, rfl⟩
  iterate 2 refine jp rfl ?_
  refine wAc (jT (wAb ?_))
  refine wKd ([(b1, .cells (vcl x).toArray TSt (0, 0))]) (by kernel_rfl) (by simp) ?_
  refine wFf (i := 0) rfl (by kernel_rfl) (by kernel_rfl) rfl rfl (wBq rfl rfl rfl rfl rfl) ?_
  refine ja_p (i := 1) rfl (by kernel_rfl) (by kernel_rfl) rfl ?_
  refine wFf (i := 2) rfl (by kernel_rfl) (by kernel_rfl) rfl rfl (wBu rfl rfl rfl rfl rfl (by kernel_rfl) (dkey 1 M1)) ?_
  refine wKe (α := Mem × V4 × Nat) (fun y => MLe M1 y.1 ∧ ST y.1 (.agg (vcl y.2.1).toArray) t0) (fun y => [(1, .pointer (some ⟨b1, 0, none⟩)), (2, .int .i64 r), (3, .bool true), (4, .pointer (some ⟨y.2.2, 0, none⟩)), (19, .agg (vcl y.2.1).toArray), (20, .int .i64 n0), (21, .int .i64 0)]) (fun y => y.1) (fun y => [(y.2.2, .cells [.slice none 0 0, .slice none 0 0, .slice none 0 0, .slice none 0 0].toArray TSt (0, 0)), (b1, .cells (vcl x).toArray TSt (0, 0))]) 3 #[true, true, true, true, true, true, true, true, true, false, false, false] ?_ (fun rest => ?_)
  ·rintro ⟨Mp, ⟨ba, bn, bc, wa, wn, wc, na, nn, nc, la, ln, lc⟩, b4⟩ ⟨hMp, hT⟩
   try dsimp only [vcl] at hMp hT ⊢
   refine wMi (i := 9) (by kernel_rfl) ?_
   refine js_s rfl rfl (wAg rfl rfl rfl rfl rfl rfl rfl rfl) ?_; rintro _ _ _ ⟨rfl, rfl⟩
   refine wAw (hMp) (by simp) ?_
   refine ja_p (i := 10) rfl (by kernel_rfl) (by kernel_rfl) rfl ?_
   refine ja_p (i := 11) rfl (by kernel_rfl) (by kernel_rfl) rfl ?_
   refine ja_end (by kernel_rfl) ?_
   refine jPn (jT (wAb (wAa ?_)))
   refine wAe rfl rfl (wBq rfl rfl rfl rfl rfl) ?_
   refine jp rfl ?_
   refine wAe rfl rfl (wBu rfl rfl rfl rfl rfl (by kernel_rfl) (by have := wDx t0 _ n0 Mp hT; rwa [hfc] at this)) ?_
   iterate 5 refine jp rfl ?_
   refine wAc (jT (wAb (wAa ?_)))
   iterate 3 refine jp rfl ?_
   refine jt rfl (decide_eq_true (by omega)) ?_
   iterate 3 refine jp rfl ?_
   refine jt rfl (decide_eq_true (by omega)) ?_
   iterate 3 refine jp rfl ?_
   refine jt rfl (decide_eq_true (by omega)) ?_
   iterate 2 refine jp rfl ?_
   refine wAe rfl rfl (wBq rfl rfl rfl rfl rfl) ?_
   refine jp rfl ?_
   refine wAr rfl rfl (wAu rfl rfl rfl rfl rfl (by kernel_rfl) (dall t0 _ n0 Mp hT)) ?_; rintro _ M7 _ ⟨hM7, _, rfl, ⟨hnA, rfl⟩⟩
   simp only [List.nil_append]
   obtain ⟨aa, ac, aps, rfl, _⟩ := hnA
   refine wAe rfl rfl (wBt rfl rfl rfl) ?_
   iterate 3 refine jp rfl ?_
   refine wAc (jT (wAh ?_))
   refine wBg (L' := []) (List.nil_sublist _) ?_
   refine jr1 rfl rfl ?_
   exact ⟨congrArg Value.bool (decide_eq_true (by rw [hal]; rfl)), rfl⟩
  refine wBn [3, 8] (by kernel_rfl) rfl ⟨?_, ?_, trivial⟩
  ·refine wDu rfl rfl rfl (wAu rfl rfl rfl rfl rfl (by kernel_rfl) (wEj s _ r (kyO 1) M1 hs)) ?_; rintro _ Mp _ ⟨hM3, R3, rfl, hpt, rfl⟩
   refine wAw (hM3) (by simp) ?_
   obtain ⟨ba, bn, bc, wa, wn, wc, na, nn, nc, la, ln, lc, at_, e, rfl, hq⟩ := hpt.form
   simp only [List.nil_append]
   obtain ⟨hT, rfl, rfl⟩ : ST Mp (.agg #[.slice ba bn bc, .slice wa wn wc, .slice na nn nc, .slice la ln lc]) t0 ∧ e = 0 ∧ at_ = n0 := by
    rcases hq with ⟨h0, h1, _⟩ | ⟨h0, t, h2, _, _, h5, _⟩
    ·rw [hdl] at h1; cases h1
    ·rw [hdl] at h2; cases h2; exact ⟨h5, h0, rfl⟩
   refine ja_p (i := 4) rfl (by kernel_rfl) (by kernel_rfl) rfl ?_
   refine ja_p (i := 5) rfl (by kernel_rfl) (by kernel_rfl) rfl ?_
   refine ja_p (i := 6) rfl (by kernel_rfl) (by kernel_rfl) rfl ?_
   refine ja_p (i := 7) rfl (by kernel_rfl) (by kernel_rfl) rfl ?_
   refine wBn [8] (by kernel_rfl) rfl ⟨?_, trivial⟩
   ·refine wDu rfl rfl rfl (wAs rfl rfl) ?_; rintro _ _ _ ⟨b4, rfl, rfl, rfl⟩
    refine wAw (by first | exact MLe.refl _ | exact hM3) (by simp) ?_
    refine wCo (listed' := #[true, true, true, true, true, true, true, true, true, false, false, false]) (by kernel_rfl) (wCn (Keep.cons (t := 1) rfl (Keep.cons (t := 2) rfl (Keep.cons (t := 3) rfl (Keep.cons (t := 4) rfl (Keep.cons (t := 19) rfl (Keep.cons (t := 20) rfl (Keep.cons (t := 21) rfl Keep.nil))))))) ?_)
    exact rest (Mp, ⟨ba, bn, bc, wa, wn, wc, na, nn, nc, la, ln, lc⟩, b4) ⟨hM3, hT⟩
  ·refine wDu rfl rfl rfl (wAs rfl rfl) ?_; rintro _ _ _ ⟨b4, rfl, rfl, rfl⟩
   refine wAw (by first | exact MLe.refl _ | exact hM3) (by simp) ?_
   refine wBn [3] (by kernel_rfl) rfl ⟨?_, trivial⟩
   ·refine wDu rfl rfl rfl (wAu rfl rfl rfl rfl rfl (by kernel_rfl) (wEj s _ r (kyO 1) M1 hs)) ?_; rintro _ Mp _ ⟨hM3, R3, rfl, hpt, rfl⟩
    refine wAw (hM3) (by simp) ?_
    obtain ⟨ba, bn, bc, wa, wn, wc, na, nn, nc, la, ln, lc, at_, e, rfl, hq⟩ := hpt.form
    simp only [List.nil_append]
    obtain ⟨hT, rfl, rfl⟩ : ST Mp (.agg #[.slice ba bn bc, .slice wa wn wc, .slice na nn nc, .slice la ln lc]) t0 ∧ e = 0 ∧ at_ = n0 := by
     rcases hq with ⟨h0, h1, _⟩ | ⟨h0, t, h2, _, _, h5, _⟩
     ·rw [hdl] at h1; cases h1
     ·rw [hdl] at h2; cases h2; exact ⟨h5, h0, rfl⟩
    refine ja_p (i := 4) rfl (by kernel_rfl) (by kernel_rfl) rfl ?_
    refine ja_p (i := 5) rfl (by kernel_rfl) (by kernel_rfl) rfl ?_
    refine ja_p (i := 6) rfl (by kernel_rfl) (by kernel_rfl) rfl ?_
    refine ja_p (i := 7) rfl (by kernel_rfl) (by kernel_rfl) rfl ?_
    refine wCo (listed' := #[true, true, true, true, true, true, true, true, true, false, false, false]) (by kernel_rfl) (wCn (Keep.cons (t := 1) rfl (Keep.cons (t := 2) rfl (Keep.cons (t := 3) rfl (Keep.cons (t := 4) rfl (Keep.cons (t := 19) rfl (Keep.cons (t := 20) rfl (Keep.cons (t := 21) rfl Keep.nil))))))) ?_)
    exact rest (Mp, ⟨ba, bn, bc, wa, wn, wc, na, nn, nc, la, ln, lc⟩, b4) ⟨hM3, hT⟩
 ·cases h13
end Go.Proofs.YtckdncmjkloebaaGreat
