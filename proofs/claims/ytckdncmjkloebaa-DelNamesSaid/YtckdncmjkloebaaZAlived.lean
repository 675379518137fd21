/- Walks: the example that each statement begins with; the items of a tree, compared. No statement of the seat is proved here. -/
import Derived.Test.YtckdncmjkloebaaZDel
import Derived.Test.YtckdncmjkloebaaZGrowp
namespace Go.Proofs.Ytckdncmjkloebaa
set_option linter.unusedVariables false
set_option linter.unusedSimpArgs false
open Go.RowKit
theorem wFe (s : Sto) (v : Value) (root : Int) (q : Ky) (M : Mem) (hv : ST M v s) : SpecL Try.prog 13 #[v, .int .i64 root, .agg (wBo q).toArray] M [] fun u M' L' => PtPost (delF s root q) u M' ∧ L' = [] := by
 obtain ⟨b, w, n, l, rfl, h1, ⟨wa, wc, wps, rfl, hwc, hws, hwp, hwb⟩, h3, h4⟩ := hv.ex
 exact del_walk s root q b n l wa wc wps M h1 hwc hws hwp hwb h3 h4
theorem dkey (n : Int) (M : Mem) :
  SpecL Try.prog 14 #[.int .u32 n] M [] fun v _ _ => v = .agg (wBo (kyO n)).toArray := by
 refine wAi (vs := [_]) 5 _ Try.func14 rfl Try.ntmps14 rfl rfl ?_; intro W
 refine wAb (wAa ?_)
 refine wAu rfl rfl (wAr rfl rfl) ?_; rintro _ _ _ ⟨b2, rfl, rfl, rfl⟩
 refine wAc (jT (wAb (wAa ?_)))
 refine jp rfl ?_
 refine wAe rfl rfl (wAy (cs := [_, _, _]) rfl rfl rfl (by rfl)) ?_
 refine wBg rfl (wAf rfl rfl rfl rfl rfl rfl rfl rfl) ?_; rintro _ _ _ ⟨rfl, rfl⟩
 refine wAc (jT (wAh ?_))
 refine jrs (rs := [_]) rfl (.cons (.agg rfl rfl rfl) .nil) ?_
 rfl
set_option maxHeartbeats 2000000 in
theorem dgrown (n : Nat) (hn : n ≤ 6) (M : Mem) :
  SpecL Try.prog 12 #[.int .u32 n] M [] fun u M' L' => (∃ x r s, u = .tuple #[.agg (vcl x).toArray, .int .i64 r, .bool true] ∧ ST M' (.agg (vcl x).toArray) s ∧ wCr s ∧ wFx n = .ok (s, r)) ∧ L' = [] := by
 refine wAi (vs := [_]) 38 _ Try.func12 rfl Try.ntmps12 rfl rfl ?_; intro W
 refine wAb (wAa ?_)
 refine wAu rfl rfl (wAr rfl rfl) ?_; rintro _ _ _ ⟨b2, rfl, rfl, rfl⟩
 iterate 2 refine jp rfl ?_
 refine wAc (jT (wAb (wAa ?_)))
 refine wAu rfl rfl (wAv rfl rfl rfl rfl rfl (by kernel_rfl) (rnew_spec M)) ?_; rintro _ M1 _ ⟨hM1, _, rfl, ⟨hs0, rfl⟩⟩
 obtain ⟨z1, z2, z3, z4, rfl, f1, f2, f3, f4⟩ := id hs0.ex
 simp only [List.nil_append]
 refine wAu rfl rfl (wAv rfl rfl rfl rfl rfl (by kernel_rfl) (pnew_walk st0 _ _ _ _ M1 hs0)) ?_; rintro _ M2 _ ⟨hM2, _, rfl, ⟨hdm, rfl⟩⟩
 obtain ⟨ba, bn, bc, wa, wn, wc, na, nn, nc, la, ln, lc, at_, e, rfl, hq⟩ := hdm.form
 obtain ⟨he, he2, _⟩ | ⟨rfl, _, hat, _, hs1, hk1⟩ := hq
 ·exfalso; exact he (he2.trans new_ok)
 simp only [List.nil_append]
 iterate 4 refine jp rfl ?_
 refine wAu rfl rfl (wAr rfl rfl) ?_; rintro _ _ _ ⟨b5, rfl, rfl, rfl⟩
 refine wBg rfl (wAf rfl rfl rfl rfl rfl rfl rfl rfl) ?_; rintro _ _ _ ⟨rfl, rfl⟩
 iterate 2 refine jp rfl ?_
 refine wAc (jT (wAb (wAb (wAa ?_))))
 refine jp rfl ?_
 refine wAc (jT (wAk ?_))
 refine wBf (α := GwS) (fun x => [(0, .int .u32 n), (2, .pointer (some ⟨b2, 0, none⟩)), (5, .pointer (some ⟨b5, 0, none⟩)), (6, .int .i64 x.r), (7, .int .i64 0), (8, .int .u32 ((x.k + 1 : Nat) : Int))]) (fun x => x.M) (fun x => [(b5, .cells (vcl x.v).toArray TSt (0, 0)), (b2, .cells [.slice none 0 0, .slice none 0 0, .slice none 0 0, .slice none 0 0].toArray TSt (0, 0))]) (fun x => x.k ≤ n ∧ ST x.M (.agg (vcl x.v).toArray) x.s ∧ wCr x.s ∧ wFx x.k = .ok (x.s, x.r)) (fun x => n - x.k)
  ⟨0, mkS st0 0 [], at_, M2, ⟨ba, bn, bc, wa, wn, wc, na, nn, nc, la, ln, lc⟩⟩ (Keep.cons (t := 0) rfl (Keep.cons (t := 2) rfl (Keep.cons (t := 5) rfl (Keep.cons (t := 6) rfl (Keep.cons (t := 7) rfl (Keep.cons (t := 8) rfl Keep.nil)))))) ⟨Nat.zero_le _, hs1, hk1, by rw [hat]; exact grow_zero⟩ (fun _ h => h) ?_
 rintro ⟨k, s, r, Mk, x⟩ ⟨hk, hs, hok, hg⟩
 try dsimp only at hk hs hok hg ⊢
 refine wAb (wAb (wAa ?_))
 iterate 2 refine jp rfl ?_
 refine js rfl (fun h17 => ?_) (fun h17 => ?_)
 ·iterate 2 refine jp rfl ?_
  refine jt rfl (decide_eq_true (by omega)) ?_
  refine jp rfl ?_
  refine wAc (jT (wAj rfl (wAg (jT (wAb (wAk ?_))))))
  refine wEy (p := { A := fun i => !([10].contains i), U := fun i => !([8, 9, 10, 11, 12].contains i) }) [(0, true), (1, true), (2, true), (3, true), (4, true), (5, false), (6, true), (7, true), (8, true), (9, true), (10, false), (11, true), (12, true)] _ (_) ([]) (by kernel_rfl) (by kernel_rfl) (by kernel_rfl) (by kernel_rfl) rfl (fun _ h => h) (MLe.refl _) (by simp) ?_
  refine wAw rfl rfl rfl (wCb rfl rfl rfl rfl rfl) ?_
  iterate 2 refine dp rfl rfl ?_
  refine wAw rfl rfl rfl (wBw rfl rfl rfl rfl rfl (by kernel_rfl) (dkey ((k + 1 : Nat) : Int) Mk)) ?_
  refine wAw rfl rfl rfl (wAy (cs := [_, _, _, _, _]) rfl rfl rfl (by rfl)) ?_
  have hk6 : k + 1 ≤ 6 := by omega
  refine wJa rfl rfl rfl (wAv rfl rfl rfl rfl rfl (by kernel_rfl) (wGw s _ (.slice none 0 0) r (itO ((k + 1 : Nat) : Int)) Mk hs BS.nil (kyO_ok (by omega)))) ?_; rintro _ Mp _ ⟨hMp, _, rfl, ⟨hpt, rfl⟩⟩
  refine ⟨_, _, MLe.refl _, hMp, fun _ h => h, by simp, ?_⟩
  obtain ⟨ba, bn, bc, wa, wn, wc, na, nn, nc, la, ln, lc, at_, e, rfl, hq⟩ := hpt.form
  obtain ⟨he, he2, _⟩ | ⟨rfl, t, ht, _, _, hs2, hk2⟩ := hq
  ·exfalso; exact grow_no hk6 hg he2
  simp only [List.nil_append]
  iterate 4 refine dp rfl rfl ?_
  refine jd_e rfl rfl (wAf rfl rfl rfl rfl rfl rfl rfl rfl) ?_; rintro _ _ _ ⟨rfl, rfl⟩
  refine ⟨hMp, by simp, ?_⟩
  refine ep rfl rfl ?_
  refine ep rfl rfl ?_
  refine wKs ?_
  refine jPn (jB (jT (wAa ?_)))
  refine jp rfl ?_
  refine wAe rfl rfl (qEq (qAk rfl rfl rfl rfl rfl (by rw [IntKind.wrap_u32]; omega)) (v' := .int .u32 ((k + 1 + 1 : Nat) : Int)) (congrArg _ (by omega))) ?_
  refine jp rfl ?_
  refine wAc ?_
  refine wBc ⟨k + 1, t, at_, Mp, ⟨ba, bn, bc, wa, wn, wc, na, nn, nc, la, ln, lc⟩⟩ (Keep.cons (t := 0) rfl (Keep.cons (t := 2) rfl (Keep.cons (t := 5) rfl (Keep.cons (t := 6) rfl (Keep.cons (t := 7) rfl (Keep.cons (t := 8) rfl Keep.nil)))))) ⟨by show k + 1 ≤ n; omega, hs2, hk2, by show wFx (k + 1) = _; rw [wFx, hg]; exact ht⟩ (by show n - (k + 1) < n - k; omega) (fun _ h => h)
 ·iterate 4 refine jp rfl ?_
  refine wAc (jT (wAm rfl (wBe (jTx (jTx (jBx (jT (wAb (wAa ?_)))))))))
  refine wAe rfl rfl (wCb rfl rfl rfl rfl rfl) ?_
  iterate 2 refine jp rfl ?_
  refine wAe rfl rfl (qP rfl rfl) ?_
  refine wBg rfl (wAf rfl rfl rfl rfl rfl rfl rfl rfl) ?_; rintro _ _ _ ⟨rfl, rfl⟩
  iterate 2 refine jp rfl ?_
  refine wAc (jT (wAh ?_))
  refine wEm (rs := [_, _, _]) ([]) (by exact List.nil_sublist _) rfl (.cons (.agg rfl rfl rfl) (.cons (.tmp rfl) (.cons (.tmp rfl) .nil))) ?_
  obtain rfl : k = n := by omega
  exact ⟨⟨x, r, s, rfl, hs, hok, hg⟩, rfl⟩
def allR (s : Sto) (root : Int) : List It := if (wDm s root).2 = 0 then allT s root else []
theorem allL_key {s : Sto} : ∀ {l : Nat} {xs : List It}, (∀ x ∈ xs, wEv x.key) → ∀ y ∈ wCs s l xs, wEv y.key
 | 0, xs, h, y, hy => by rw [wFg] at hy; exact h y hy
 | l + 1, xs, h, y, hy => by
  obtain ⟨z, hz, hyz⟩ := List.mem_flatMap.1 hy
  have hk : ∀ w ∈ kid s z, wEv w.key := by
   unfold kid
   split
   ·rename_i h; exact wGy h
   ·exact fun w hw => by cases hw
  exact allL_key hk y hyz
theorem allT_key {s : Sto} {root : Int} : ∀ y ∈ allT s root, wEv y.key := by
 unfold allT
 split
 ·rename_i h; exact allL_key (wGy h)
 ·exact fun y hy => by cases hy
theorem allR_rng (s : Sto) (root : Int) : (if (wDm s root).2 = 0 then rng s root ⟨0, 0, 0⟩ ⟨255, 4294967295, 4294967295⟩ else []) = allR s root := by
 unfold allR
 by_cases h : (wDm s root).2 = 0
 ·rw [if_pos h, if_pos h, rng_is h]
  refine List.filter_eq_self.2 fun y hy => ?_
  obtain ⟨k1, k2, k3⟩ := allT_key y hy
  unfold btw
  have h1 : wBm y.key ⟨0, 0, 0⟩ = false := by unfold wBm; exact decide_eq_false (by simp only; omega)
  have h2 : wBm ⟨255, 4294967295, 4294967295⟩ y.key = false := by unfold wBm; exact decide_eq_false (by simp only; omega)
  rw [h1, h2]; rfl
 ·rw [if_neg h, if_neg h]
theorem dall_walk (s : Sto) (root : Int) (bv wv nv lw : Value) (M : Mem) (hST : ST M (.agg #[bv, wv, nv, lw]) s) :
  SpecL Try.prog 15 #[.agg #[bv, wv, nv, lw], .int .i64 root] M [] fun u M' L' => NS M' u (allR s root) ∧ L' = [] := by
 refine wAi (vs := [_, _]) 16 _ Try.func15 rfl Try.ntmps15 rfl rfl ?_; intro W
 refine wAb (wAa ?_)
 refine wAu rfl rfl (wEq (cs := [bv, wv, nv, lw]) rfl rfl rfl rfl) ?_; rintro _ _ _ ⟨b2, rfl, rfl, rfl⟩
 refine jp rfl ?_
 refine wAc (jT (wAb (wAa ?_)))
 refine wAe rfl rfl (wCb rfl rfl rfl rfl rfl) ?_
 refine jp rfl ?_
 refine wAe rfl rfl (qEq (wAy (cs := [_, _, _]) rfl rfl rfl (by rfl)) (v' := .agg (wBo ⟨0, 0, 0⟩).toArray) rfl) ?_
 refine wAe rfl rfl (qEq (wAy (cs := [_, _, _]) rfl rfl rfl (by rfl)) (v' := .agg (wBo ⟨255, 4294967295, 4294967295⟩).toArray) rfl) ?_
 refine wAu rfl rfl (wAv rfl rfl rfl rfl rfl (by kernel_rfl) (range_spec s _ root ⟨0, 0, 0⟩ ⟨255, 4294967295, 4294967295⟩ M hST)) ?_; rintro _ M1 _ ⟨hM1, _, rfl, ⟨⟨v, rfl, hns⟩, rfl⟩⟩
 iterate 5 refine jp rfl ?_
 refine wAc (jT (wAb (wAa ?_)))
 iterate 2 refine jp rfl ?_
 refine wAc (jT (wAh ?_))
 refine wBk (L' := []) (List.nil_sublist _) ?_
 refine jr1 rfl rfl ?_
 exact ⟨by rw [← allR_rng]; exact hns, rfl⟩
theorem dall (s : Sto) (v : Value) (root : Int) (M : Mem) (h : ST M v s) : SpecL Try.prog 15 #[v, .int .i64 root] M [] fun u M' L' => NS M' u (allR s root) ∧ L' = [] := by
 obtain ⟨b, w, n, l, rfl, h1, h2, h3, h4⟩ := id h.ex
 exact dall_walk s root b w n l M h
def alD : Bool := match wFx 6 with | .ok (s, r) => (match delF s r (kyO 1) with | .ok (t, n) => decide (wDm t n = (1, 0)) && decide ((allR t n).length = 5) | .error _ => false) | .error _ => false
theorem ald_yes : alD = true := by decide +kernel
theorem ald_del {s : Sto} {r : Int} (h : wFx 6 = .ok (s, r)) : ∃ t n, delF s r (kyO 1) = .ok (t, n) ∧ wDm t n = (1, 0) ∧ (allR t n).length = 5 := by
 have := ald_yes
 unfold alD at this
 rw [h] at this
 change (match delF s r (kyO 1) with | .ok (t, n) => decide (wDm t n = (1, 0)) && decide ((allR t n).length = 5) | .error _ => false) = true at this
 split at this
 ·rename_i t n he
  rw [Bool.and_eq_true] at this
  exact ⟨t, n, he, of_decide_eq_true this.1, of_decide_eq_true this.2⟩
 ·cases this
theorem dalive (M : Mem) :
  SpecL Try.prog 11 #[] M [] fun u M' L' => u = .bool true ∧ L' = [] := by
 refine wAi (vs := []) 48 _ Try.func11 rfl Try.ntmps11 rfl rfl ?_; intro W
 refine wAb (wAa ?_)
 refine jp rfl ?_
 refine wAc (jT (wAb (wAa ?_)))
 refine wAu rfl rfl (wAv rfl rfl rfl rfl rfl (by kernel_rfl) (dgrown 6 (by omega) M)) ?_; rintro _ M1 _ ⟨hM1, _, rfl, ⟨⟨x, r, s, rfl, hs, hok, hg⟩, rfl⟩⟩
 obtain ⟨t0, n0, hdl, hfc, hal⟩ := ald_del hg
 iterate 3 refine jp rfl ?_
 refine jsb rfl (fun h13 => ?_) (fun h13 => ?_)
 ·refine wAu rfl rfl (wAr rfl rfl) ?_; rintro _ _ _ ⟨b1, rfl, rfl, rfl⟩
  refine wBg rfl (wAf rfl rfl rfl rfl rfl rfl rfl rfl) ?_; rintro _ _ _ ⟨rfl, rfl⟩
  iterate 2 refine jp rfl ?_
  refine wAc (jT (wAb ?_))
  refine wEn ([(b1, .cells (vcl x).toArray TSt (0, 0))]) (by kernel_rfl) (by simp) ?_
  refine wDo (i := 0) rfl (by kernel_rfl) (by kernel_rfl) rfl rfl (wCb rfl rfl rfl rfl rfl) ?_
  refine wDi (i := 1) rfl (by kernel_rfl) (by kernel_rfl) rfl ?_
  refine wDo (i := 2) rfl (by kernel_rfl) (by kernel_rfl) rfl rfl (wBw rfl rfl rfl rfl rfl (by kernel_rfl) (dkey 1 M1)) ?_
  refine wEo (α := Mem × V4 × Nat) (fun y => MLe M1 y.1 ∧ ST y.1 (.agg (vcl y.2.1).toArray) t0) (fun y => [(1, .pointer (some ⟨b1, 0, none⟩)), (2, .int .i64 r), (3, .bool true), (4, .pointer (some ⟨y.2.2, 0, none⟩)), (19, .agg (vcl y.2.1).toArray), (20, .int .i64 n0), (21, .int .i64 0)]) (fun y => y.1) (fun y => [(y.2.2, .cells [.slice none 0 0, .slice none 0 0, .slice none 0 0, .slice none 0 0].toArray TSt (0, 0)), (b1, .cells (vcl x).toArray TSt (0, 0))]) 3 #[true, true, true, true, true, true, true, true, true, false, false, false] ?_ (fun rest => ?_)
  ·rintro ⟨Mp, ⟨ba, bn, bc, wa, wn, wc, na, nn, nc, la, ln, lc⟩, b4⟩ ⟨hMp, hT⟩
   try dsimp only [vcl] at hMp hT ⊢
   refine wGd (i := 9) (by kernel_rfl) ?_
   refine js_s rfl rfl (wAf rfl rfl rfl rfl rfl rfl rfl rfl) ?_; rintro _ _ _ ⟨rfl, rfl⟩
   refine wAo (hMp) (by simp) ?_
   refine wDi (i := 10) rfl (by kernel_rfl) (by kernel_rfl) rfl ?_
   refine wDi (i := 11) rfl (by kernel_rfl) (by kernel_rfl) rfl ?_
   refine wHp (by kernel_rfl) ?_
   refine jPn (jT (wAb (wAa ?_)))
   refine wAe rfl rfl (wCb rfl rfl rfl rfl rfl) ?_
   refine jp rfl ?_
   refine wAe rfl rfl (wBw rfl rfl rfl rfl rfl (by kernel_rfl) (by have := wJw t0 _ n0 Mp hT; rwa [hfc] at this)) ?_
   iterate 5 refine jp rfl ?_
   refine wAc (jT (wAb (wAa ?_)))
   iterate 3 refine jp rfl ?_
   refine jt rfl (decide_eq_true (by omega)) ?_
   iterate 3 refine jp rfl ?_
   refine jt rfl (decide_eq_true (by omega)) ?_
   iterate 3 refine jp rfl ?_
   refine jt rfl (decide_eq_true (by omega)) ?_
   iterate 2 refine jp rfl ?_
   refine wAe rfl rfl (wCb rfl rfl rfl rfl rfl) ?_
   refine jp rfl ?_
   refine wAu rfl rfl (wAv rfl rfl rfl rfl rfl (by kernel_rfl) (dall t0 _ n0 Mp hT)) ?_; rintro _ M7 _ ⟨hM7, _, rfl, ⟨hnA, rfl⟩⟩
   simp only [List.nil_append]
   obtain ⟨aa, ac, aps, rfl, _⟩ := hnA
   refine wAe rfl rfl (wBy rfl rfl rfl) ?_
   iterate 3 refine jp rfl ?_
   refine wAc (jT (wAh ?_))
   refine wBk (L' := []) (List.nil_sublist _) ?_
   refine jr1 rfl rfl ?_
   exact ⟨congrArg Value.bool (decide_eq_true (by rw [hal]; rfl)), rfl⟩
  refine wBa [3, 8] (by kernel_rfl) rfl ⟨?_, ?_, trivial⟩
  ·refine wCp rfl rfl rfl (wAv rfl rfl rfl rfl rfl (by kernel_rfl) (wFe s _ r (kyO 1) M1 hs)) ?_; rintro _ Mp _ ⟨hM3, R3, rfl, hpt, rfl⟩
   refine wAo (hM3) (by simp) ?_
   obtain ⟨ba, bn, bc, wa, wn, wc, na, nn, nc, la, ln, lc, at_, e, rfl, hq⟩ := hpt.form
   simp only [List.nil_append]
   obtain ⟨hT, rfl, rfl⟩ : ST Mp (.agg #[.slice ba bn bc, .slice wa wn wc, .slice na nn nc, .slice la ln lc]) t0 ∧ e = 0 ∧ at_ = n0 := by
    rcases hq with ⟨h0, h1, _⟩ | ⟨h0, t, h2, _, _, h5, _⟩
    ·rw [hdl] at h1; cases h1
    ·rw [hdl] at h2; cases h2; exact ⟨h5, h0, rfl⟩
   refine wDi (i := 4) rfl (by kernel_rfl) (by kernel_rfl) rfl ?_
   refine wDi (i := 5) rfl (by kernel_rfl) (by kernel_rfl) rfl ?_
   refine wDi (i := 6) rfl (by kernel_rfl) (by kernel_rfl) rfl ?_
   refine wDi (i := 7) rfl (by kernel_rfl) (by kernel_rfl) rfl ?_
   refine wBa [8] (by kernel_rfl) rfl ⟨?_, trivial⟩
   ·refine wCp rfl rfl rfl (wAr rfl rfl) ?_; rintro _ _ _ ⟨b4, rfl, rfl, rfl⟩
    refine wAo (by first | exact MLe.refl _ | exact hM3) (by simp) ?_
    refine wBr (listed' := #[true, true, true, true, true, true, true, true, true, false, false, false]) (by kernel_rfl) (wBq (Keep.cons (t := 1) rfl (Keep.cons (t := 2) rfl (Keep.cons (t := 3) rfl (Keep.cons (t := 4) rfl (Keep.cons (t := 19) rfl (Keep.cons (t := 20) rfl (Keep.cons (t := 21) rfl Keep.nil))))))) ?_)
    exact rest (Mp, ⟨ba, bn, bc, wa, wn, wc, na, nn, nc, la, ln, lc⟩, b4) ⟨hM3, hT⟩
  ·refine wCp rfl rfl rfl (wAr rfl rfl) ?_; rintro _ _ _ ⟨b4, rfl, rfl, rfl⟩
   refine wAo (by first | exact MLe.refl _ | exact hM3) (by simp) ?_
   refine wBa [3] (by kernel_rfl) rfl ⟨?_, trivial⟩
   ·refine wCp rfl rfl rfl (wAv rfl rfl rfl rfl rfl (by kernel_rfl) (wFe s _ r (kyO 1) M1 hs)) ?_; rintro _ Mp _ ⟨hM3, R3, rfl, hpt, rfl⟩
    refine wAo (hM3) (by simp) ?_
    obtain ⟨ba, bn, bc, wa, wn, wc, na, nn, nc, la, ln, lc, at_, e, rfl, hq⟩ := hpt.form
    simp only [List.nil_append]
    obtain ⟨hT, rfl, rfl⟩ : ST Mp (.agg #[.slice ba bn bc, .slice wa wn wc, .slice na nn nc, .slice la ln lc]) t0 ∧ e = 0 ∧ at_ = n0 := by
     rcases hq with ⟨h0, h1, _⟩ | ⟨h0, t, h2, _, _, h5, _⟩
     ·rw [hdl] at h1; cases h1
     ·rw [hdl] at h2; cases h2; exact ⟨h5, h0, rfl⟩
    refine wDi (i := 4) rfl (by kernel_rfl) (by kernel_rfl) rfl ?_
    refine wDi (i := 5) rfl (by kernel_rfl) (by kernel_rfl) rfl ?_
    refine wDi (i := 6) rfl (by kernel_rfl) (by kernel_rfl) rfl ?_
    refine wDi (i := 7) rfl (by kernel_rfl) (by kernel_rfl) rfl ?_
    refine wBr (listed' := #[true, true, true, true, true, true, true, true, true, false, false, false]) (by kernel_rfl) (wBq (Keep.cons (t := 1) rfl (Keep.cons (t := 2) rfl (Keep.cons (t := 3) rfl (Keep.cons (t := 4) rfl (Keep.cons (t := 19) rfl (Keep.cons (t := 20) rfl (Keep.cons (t := 21) rfl Keep.nil))))))) ?_)
    exact rest (Mp, ⟨ba, bn, bc, wa, wn, wc, na, nn, nc, la, ln, lc⟩, b4) ⟨hM3, hT⟩
 ·cases h13
end Go.Proofs.Ytckdncmjkloebaa
