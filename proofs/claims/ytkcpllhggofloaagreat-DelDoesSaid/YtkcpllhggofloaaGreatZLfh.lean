/- Walks: the document's nodes, built of items. -/
import Derived.Test.YtkcpllhggofloaaGreatZHj
import Derived.Test.YtkcpllhggofloaaGreatZDway
namespace Go.Proofs.YtkcpllhggofloaaGreat
set_option linter.unusedSimpArgs false
set_option linter.unusedVariables false
set_option linter.unusedSectionVars false
open Go.RowKit
theorem rleft_all (s : Sto) (hst : wCc s) : ∀ f, LfS s f
 | 0 => fun _ _ _ _ _ _ _ _ _ _ _ hfl => by rcases hfl with h | h <;> omega
 | f + 1 => fun now u nv M k l hS hb hn hk hl hfl => by
  obtain ⟨b, w, n, l0, rfl, _⟩ := hS.ex
  obtain ⟨ta, tc, rfl, htc, ht⟩ := hb
  by_cases hz : now.getD k.toNat 0 = 0
  ·exact rleft_zero s hst b w n l0 M hS now ta tc htc ht hn k hk l hl f hz
  by_cases h1 : now.getD k.toNat 0 = 1
  ·cases hnd : wBk s k.toNat with
   | none => exact rleft_none s hst b w n l0 M hS now ta tc htc ht hn k hk l hl f h1 hnd
   | some p => obtain ⟨lv, xs⟩ := p; exact rleft_some s hst b w n l0 M hS now ta tc htc ht hn k hk l hl f hfl (rleft_all s hst f) h1 lv xs hnd
  exact rleft_more s hst b w n l0 M hS now ta tc htc ht hn k hk l hl f hz h1
def LvR (s : Sto) (k : Int) (u : Value) (M' : Mem) : Prop := match wGv s k with | none => u = .tuple #[.agg zeroSt.toArray, .bool false] | some t => ∃ v, u = .tuple #[v, .bool true] ∧ ST M' v t
theorem rleft9_walk (s : Sto) (bv wv nv lv0 : Value) (M : Mem) (h1 : LS M bv s.blocks) (h2 : WS M wv s.waits) (h3 : BS M nv s.now) (h4 : BS M lv0 s.last) (hst : wCc s) (k : Int) (hk : 0 ≤ k ∧ k < 256) :
  SpecL Tryz.prog 53 #[.agg #[bv, wv, nv, lv0], .int .i64 k] M [] fun u M' L' => LvR s k u M' ∧ L' = [] := by
 obtain ⟨ba, bc, bps, rfl, _⟩ := id h1
 obtain ⟨wa, wc, wps, rfl, _⟩ := id h2
 obtain ⟨la, lc, rfl, hlc, hls⟩ := id h4
 obtain ⟨na, nc, rfl, hnc, hns⟩ := id h3
 have hS := ST.of h1 h2 h3 h4
 have hlv := leave_is s k
 refine wAf (vs := [_, _]) 22 _ Tryz.func53 rfl Tryz.ntmps53 rfl rfl ?_; intro W
 refine wAb (wAa (wAy rfl rfl (wCm (cs := [_, _, _, _]) rfl rfl rfl rfl) ?_)); rintro _ _ _ ⟨b2, rfl, rfl, rfl⟩
 refine sAl rfl fun b4 => ?_
 refine jp rfl (wAc (jT (wAb (wAa (sLL rfl ?_)))))
 refine sFL rfl rfl ?_
 refine jp rfl (wAy rfl rfl (wAu rfl rfl rfl rfl rfl (by kernel_rfl) (rleft_all s hst 7 s.now _ _ M k (-1) hS h3 hst.2.1.1 hk (by decide) (.inl (by decide)))) ?_); rintro _ M1 _ ⟨hM1, _, rfl, ⟨hls, rfl⟩⟩
 simp only [nA]
 obtain ⟨cb, ca, cn, cc, rfl, hcd⟩ := hls.form
 refine jp rfl (jp rfl (jp rfl (jp rfl (jsb rfl (fun h7 => ?_) (fun h7 => ?_)))))
 ·refine wAc (jT (wAb (wAb (wAa (jp rfl (jp rfl (wAc (jT (wAk rfl (wAd (jT (wAb (wAa (jp rfl (sFa rfl ?_)))))))))))))))
  refine sSt rfl ?_
  refine wAc (jT (wAb (wAa (sLL rfl ?_))))
  refine sSt rfl ?_
  refine jp rfl (wAc (jT (wAe (wDa (rs := [_, _]) ([]) (by exact List.nil_sublist _) rfl (.cons (.agg rfl rfl rfl) (.cons (.tmp rfl) .nil)) ?_))))
  rcases hcd with ⟨_, t, hr, rfl, htc2, hts2⟩ | ⟨hb, _⟩
  ·refine ⟨?_, rfl⟩
   unfold LvR; rw [hlv, hr]
   exact ⟨_, rfl, ST.of (h1.mono hM1) (h2.mono hM1) ⟨_, _, rfl, htc2, hts2⟩ (h4.mono hM1)⟩
  rw [hb] at h7; cases h7
 refine wAc (jT (wAb (wAb (wAa (jp rfl (jp rfl (wAc (jT (wAg rfl (wAb (wAa (wAi rfl rfl (wBa (cs := [_, _, _, _]) rfl rfl rfl (by rfl)) ?_))))))))))))
 refine sSt rfl ?_
 refine jp rfl (wAc (jT (wAe (jTr (wDa (rs := [_, _]) ([]) (by exact List.nil_sublist _) rfl (.cons (.agg rfl rfl rfl) (.cons (.tmp rfl) .nil)) ?_)))))
 rcases hcd with ⟨hb, _⟩ | ⟨_, hr, _⟩
 ·rw [hb] at h7; cases h7
 exact ⟨by unfold LvR; rw [hlv, hr]; rfl, rfl⟩
theorem rleft9_spec (s : Sto) (u : Value) (M : Mem) (h : ST M u s) (hst : wCc s) (k : Int) (hk : 0 ≤ k ∧ k < 256) : SpecL Tryz.prog 53 #[u, .int .i64 k] M [] fun u M' L' => LvR s k u M' ∧ L' = [] := by
 obtain ⟨q1, q2, q3, q4, rfl, h1, h2, h3, h4⟩ := h.ex
 exact rleft9_walk s _ _ _ _ M h1 h2 h3 h4 hst k hk
theorem LvR.form {s : Sto} {k : Int} {u : Value} {M' : Mem} (h : LvR s k u M') {t : Sto} (ht : wGv s k = some t) : ∃ x, u = .tuple #[.agg (sv4 x).toArray, .bool true] ∧ ST M' (.agg (sv4 x).toArray) t := by
 unfold LvR at h
 rw [ht] at h
 obtain ⟨v, rfl, hv⟩ := h
 obtain ⟨x, rfl⟩ := hv.form
 exact ⟨x, rfl, hv⟩
def LoP (r : Except Int (Sto × Int)) (u : Value) (M' : Mem) : Prop := match r with
 | .error e => e ≠ 0 ∧ u = .tuple #[.agg zeroSt.toArray, .int .i64 0, .int .i64 e]
 | .ok (t, now) => ∃ v, u = .tuple #[v, .int .i64 now, .int .i64 0] ∧ ST M' v t
structure LwZ (n0 : Nat) (s : Sto) (r0 : Int) (M0 : Mem) (n : Nat) (t : Sto) (r : Int) (l : Nat) (xs : List It) (x : Sk × Sk × Sk × Sk) (M : Mem) : Prop where
 rng : 8 ≤ r ∧ r < 256
 ok : wCc t
 st : ST M (.agg (sv4 x).toArray) t
 nd : wBk t r.toNat = some ((l : Int), xs)
 lev : Lev t l xs
 eq : lowF n0 s r0 = lowF n t r
 lt : l < n
set_option maxHeartbeats 4000000 in
theorem rlowered_walk (s : Sto) (x0 : Sk × Sk × Sk × Sk) (M : Mem) (hS : ST M (.agg (sv4 x0).toArray) s) (hst : wCc s) (r0 : Int) (hr0 : 8 ≤ r0 ∧ r0 < 256) (l0 n0 : Nat) (xs0 : List It) (hnd0 : wBk s r0.toNat = some ((l0 : Int), xs0)) (hL0 : Lev s l0 xs0) (hn0 : l0 < n0) :
  SpecL Tryz.prog 51 #[.agg (sv4 x0).toArray, .int .i64 r0] M [] fun u M' L' => LoP (lowF n0 s r0) u M' ∧ L' = [] := by
 refine wAf (vs := [_, _]) 63 _ Tryz.func51 rfl Tryz.ntmps51 rfl rfl ?_; intro W
 refine wAb (wAa (wAy rfl rfl (wCm (cs := [_, _, _, _]) rfl rfl rfl rfl) ?_)); rintro _ _ _ ⟨b2, rfl, rfl, rfl⟩
 refine sAl rfl fun b4 => ?_
 refine jp rfl (jp rfl (wAc (jT (wAh ?_))))
 refine wAv (α := Nat × Sto × Int × Nat × List It × (Sk × Sk × Sk × Sk) × Mem) (fun z => [(1, .int .i64 z.2.2.1), (2, .pointer (some ⟨b2, 0, none⟩)), (4, .pointer (some ⟨b4, 0, none⟩))]) (fun z => z.2.2.2.2.2.2) (fun z => [(b4, .cells [Value.slice none 0 0, .slice none 0 0, .slice none 0 0, .slice none 0 0].toArray 28 (0, 0)), (b2, .cells (sv4 z.2.2.2.2.2.1).toArray 28 (0, 0))]) (fun z => LwZ n0 s r0 M z.1 z.2.1 z.2.2.1 z.2.2.2.1 z.2.2.2.2.1 z.2.2.2.2.2.1 z.2.2.2.2.2.2) (fun z => z.2.2.2.1)
  (n0, s, r0, l0, xs0, x0, M) (.cons (t := 1) rfl (.cons (t := 2) rfl (.cons (t := 4) rfl .nil))) ⟨hr0, hst, hS, hnd0, hL0, rfl, hn0⟩ (fun _ h => h) ?_
 rintro ⟨n, t, r, l, xs, x, Mk⟩ hI
 try dsimp only
 obtain ⟨h1r, h1k, h1s, h1n, h1v, h1e, h1l⟩ := hI
 dsimp only at h1r h1k h1s h1n h1v h1e h1l
 refine wAh (wAb (wAa (sLL rfl ?_)))
 refine jp rfl (wAy rfl rfl (wAu rfl rfl rfl rfl rfl (by kernel_rfl) (wDk t _ Mk h1s h1k r (by omega) h1n)) ?_); rintro _ M1 _ ⟨hM1, _, rfl, ⟨⟨a, c, ps, rfl, hc, hs, hp, hbp⟩, rfl⟩⟩
 simp only [nA]
 refine jp rfl (jp rfl (jp rfl (sAl rfl fun b7 => ?_)))
 refine sSt rfl ?_
 refine jp rfl (wAc (jT (wAb (wAb (wAa (sFL rfl rfl ?_))))))
 refine js rfl (fun h20 => ?_) (fun h20 => ?_)
 ·refine jp rfl (jp rfl (jp rfl (jp rfl (jp rfl (jp rfl (wAc (jT (wAg rfl (wAb (wAa (sLL rfl ?_)))))))))))
  refine jp rfl (sSt rfl ?_)
  refine jp rfl (jp rfl (wAc (jT (wAe (jTr (jBr (jTr (jBr (wDa (rs := [_, _, _]) ([]) (by exact List.nil_sublist _) rfl (.cons (.agg rfl rfl rfl) (.cons (.tmp rfl) (.cons (.tmp rfl) .nil))) ?_)))))))))
  have hl0 : l = 0 := by omega
  subst hl0
  exact ⟨by rw [h1e, low_zero h1n h1l]; exact ⟨_, rfl, h1s.mono hM1⟩, rfl⟩
 refine jp rfl (sFL rfl rfl ?_)
 refine wAi rfl rfl (wBj rfl rfl rfl) ?_
 refine js rfl (fun h25 => ?_) (fun h25 => ?_)
 ·refine jp rfl (wAc (jT (wAg rfl (wAb (wAa (sLL rfl ?_))))))
  refine jp rfl (sSt rfl ?_)
  refine jp rfl (jp rfl (wAc (jT (wAe (jTr (jBr (jTr (jBr (wDa (rs := [_, _, _]) ([]) (by exact List.nil_sublist _) rfl (.cons (.agg rfl rfl rfl) (.cons (.tmp rfl) (.cons (.tmp rfl) .nil))) ?_)))))))))
  exact ⟨by rw [h1e, low_many h1n (by omega) h25]; exact ⟨_, rfl, h1s.mono hM1⟩, rfl⟩
 refine jp rfl (wAc (jT (wAk rfl (wAd (jT (wAb ?_))))))
 have hl9 : xs.length = 1 := by omega
 obtain ⟨y, rfl⟩ := List.length_eq_one_iff.1 hl9
 have hno := wBo h1n
 obtain ⟨l, rfl⟩ : ∃ l2, l = l2 + 1 := ⟨l - 1, by omega⟩
 obtain ⟨ys, hy1, hy2⟩ := h1v y (by simp)
 have hb : 8 ≤ y.ref ∧ y.ref < 256 := by have := hno.ref y (by simp); have := hno.up (by omega) y (by simp); omega
 obtain ⟨n, rfl⟩ : ∃ m, n = m + 1 := ⟨n - 1, by omega⟩
 rw [low_one h1n h20] at h1e
 obtain ⟨sb, so, va, vc, e0, hcl, hvc, hvs⟩ := wFg hs hp hbp (k := 0) (by simp) (i := 0) rfl
 refine wAa (sFL rfl rfl ?_)
 refine wAi rfl rfl (wCe rfl rfl rfl rfl e0 (by omega)) ?_
 refine sFa rfl ?_
 refine wAi rfl rfl (qLd (v := .int .i64 y.ref) rfl rfl rfl rfl ((hcl 3 _ rfl).cj _)) ?_
 refine jp rfl (wAc (jT (wAb (wAb ?_))))
 obtain ⟨ba, wa, na, la⟩ := x
 obtain ⟨g1, g2, g3, g4⟩ := ST.parts h1s
 obtain ⟨qa, qc, eq3, hqc, hqs⟩ := id g3
 have hn1 := h1k.2.1.1
 have hlive := wFu hy1
 obtain ⟨nb, no, e3, hnl⟩ := wCw (hqs.mono hM1) (k := y.ref.toNat) (by omega)
 rw [show ((y.ref.toNat : Nat) : Int) = y.ref by omega] at hnl
 have hgd := wCp (xs := t.now) (k := y.ref.toNat) (by omega) 0
 have eq3b : na.a = qa ∧ na.n = t.now.length ∧ na.c = qc := by have := eq3; simp only [Sk.v, Value.slice.injEq] at this; exact this
 obtain ⟨nav, nan, nac⟩ := na
 obtain ⟨rfl, rfl, rfl⟩ := eq3b
 refine wAa (sFL rfl rfl ?_)
 refine jp rfl ?_
 refine wAi rfl rfl (wCe rfl rfl rfl rfl e3 (by dsimp only; omega)) ?_
 refine wAi rfl rfl (qLd rfl rfl rfl rfl (hnl.cj _)) ?_
 refine js rfl (fun h39 => ?_) (fun h39 => ?_)
 ·refine wAc (jT (wAg rfl (wAb (wAa (wAi rfl rfl (wBa (cs := [_, _, _, _]) rfl rfl rfl (by rfl)) ?_)))))
  refine sSt rfl ?_
  refine jp rfl (jp rfl (wAc (jT (wAe (jTr (jBr (jTr (jBr (wDa (rs := [_, _, _]) ([]) (by exact List.nil_sublist _) rfl (.cons (.agg rfl rfl rfl) (.cons (.tmp rfl) (.cons (.tmp rfl) .nil))) ?_)))))))))
  have h255 : t.now[y.ref.toNat] = 255 := UInt8.toNat_inj.1 (by show _ = 255; omega)
  have hse : wCk t y.ref.toNat = 70 := by unfold wCk; rw [if_neg hlive, hgd, if_pos h255]
  exact ⟨by rw [h1e, hse, if_neg (by decide)]; exact ⟨by decide, rfl⟩, rfl⟩
 refine wAc (jT (wAk rfl (wAd (jT (wAb ?_)))))
 have h255 : t.now[y.ref.toNat] ≠ 255 := fun e => h39 (by rw [e]; rfl)
 have hse : wCk t y.ref.toNat = 0 := by unfold wCk; rw [if_neg hlive, hgd, if_neg h255]
 have hinc := inc_u8 h255
 refine wDb (p := { A := fun i => !([11].contains i), U := fun i => !([11].contains i) }) [(0, true), (1, true), (2, true), (3, true), (4, true), (5, true), (6, true), (7, true), (8, true), (9, false), (10, true), (11, false)] M1 ([(b2, .cells (sv4 (ba, wa, ⟨nav, t.now.length, nac⟩, la)).toArray 28 (0, 0))]) ([]) (by kernel_rfl) (by kernel_rfl) (by kernel_rfl) (by kernel_rfl) rfl (by simp) (MLe.refl _) (by simp) ?_
 refine dFa rfl rfl ?_
 refine dLd rfl rfl ?_
 refine dp rfl rfl ?_
 refine dFa rfl rfl ?_
 refine dLd rfl rfl ?_
 refine dp rfl rfl ?_
 refine wBq rfl rfl rfl (wCe rfl rfl rfl rfl e3 (by dsimp only; omega)) ?_
 refine wBq rfl rfl rfl (qLd rfl rfl rfl rfl (hnl.cj _)) ?_
 refine wBq rfl rfl rfl (qEq (qP rfl rfl) (v' := .int .u8 ((t.now[y.ref.toNat] + 1).toNat : Int)) (by first | (congr 1; rw [IntKind.wrap_u8]; omega) | congr 1)) ?_
 refine wHc rfl rfl rfl (wAu rfl rfl rfl rfl rfl (by kernel_rfl) (wHo t.now _ M1 (g3.mono hM1) y.ref (by omega) (by omega) (t.now[y.ref.toNat] + 1))) ?_; rintro _ M2 _ ⟨hM2, _, rfl, ⟨⟨a2, c2, rfl, hc2, hs2⟩, rfl⟩⟩
 refine ⟨_, _, MLe.refl _, hM2, fun _ h => h, by simp, ?_⟩
 simp only [nA]
 refine dFa rfl rfl ?_
 refine jd_e rfl rfl (wBm rfl rfl rfl rfl rfl rfl rfl rfl) ?_; rintro _ _ _ ⟨rfl, rfl⟩
 refine ⟨hM2, by simp, ?_⟩
 refine wFf ?_
 refine jPn (jT (wAb (wAa (sLL rfl ?_))))
 refine jp rfl ?_
 have hSh : ST M2 (.agg #[ba.v, wa.v, .slice a2 (t.now.set y.ref.toNat (t.now[y.ref.toNat] + 1)).length c2, la.v]) (wCs t y.ref.toNat) := ST.of ((g1.mono hM1).mono hM2) ((g2.mono hM1).mono hM2) (by unfold wCs; rw [hgd]; exact ⟨_, _, rfl, hc2, hs2⟩) ((g4.mono hM1).mono hM2)
 obtain ⟨u9, hlv9, hok9, hnds9, _⟩ := low_leave h1k h1r hb h1n hy1 hse
 refine wAy rfl rfl (wAu rfl rfl rfl rfl rfl (by kernel_rfl) (rleft9_spec (wCs t y.ref.toNat) _ M2 hSh (shareS_ok h1k (by omega)) r (by omega))) ?_; rintro _ M3 _ ⟨hM3, _, rfl, ⟨hlr, rfl⟩⟩
 simp only [nA]
 obtain ⟨x9, rfl, hS9⟩ := hlr.form hlv9
 refine jp rfl (jp rfl (jp rfl (sAl rfl fun b10 => ?_)))
 refine sSt rfl ?_
 refine jp rfl (wAc (jT (wAb (wAb (wAa (jp rfl (jp rfl (wAc (jT (wAk rfl (wAd (jT (wAa (sLL rfl ?_))))))))))))))
 refine jp rfl (sSt rfl ?_)
 refine jp rfl (wAc (jB ?_))
 rw [if_pos hse, hlv9] at h1e
 refine wAp (n, u9, y.ref, l, ys, x9, M3) (.cons (t := 1) rfl (.cons (t := 2) rfl (.cons (t := 4) rfl .nil))) ⟨hb, hok9, hS9, ?_, lev_off h1n hnds9 (show (l : Int) ≤ ((l + 1 : Nat) : Int) by omega) hy2, h1e, by show l < n; omega⟩ (by show l < l + 1; omega) (fun _ h => h.fewer (.cons _ (.cons _ (.refl _))))
 show wBk u9 y.ref.toNat = _
 rw [hnds9 _ (fun e => by rw [e, h1n] at hy1; cases hy1)]; exact hy1
theorem flat_takeI : ∀ (qs : List Ir) (k : Nat), (qs.take k).flatMap wAs = (qs.flatMap wAs).take (k * 5)
 | [], k => by simp
 | q :: qs, 0 => by simp
 | q :: qs, k + 1 => by
  rw [List.take_succ_cons, List.flatMap_cons, flat_takeI qs k, List.flatMap_cons, List.take_append, wAq, List.take_of_length_le (l := wAs q) (by rw [wAq, Nat.add_mul]; omega), show (k + 1) * 5 - 5 = k * 5 by omega]
theorem flat_dropI : ∀ (qs : List Ir) (k : Nat), (qs.drop k).flatMap wAs = (qs.flatMap wAs).drop (k * 5)
 | [], k => by simp
 | q :: qs, 0 => by simp
 | q :: qs, k + 1 => by
  rw [List.drop_succ_cons, flat_dropI qs k, List.flatMap_cons, List.drop_append, wAq, List.drop_eq_nil_of_le («as» := wAs q) (by rw [wAq, Nat.add_mul]; omega), show (k + 1) * 5 - 5 = k * 5 by omega, List.nil_append]
theorem sm_take {M : Mem} {a : Option Addr} {cs : List Value} (h : SM M a cs) (n : Nat) : SM M a (cs.take n) := by
 rcases h with rfl | ⟨b, off, e, hx⟩
 ·exact .inl (by simp)
 exact .inr ⟨b, off, e, fun i u hu => hx i u (by
  rw [List.getElem?_take] at hu
  split at hu
  ·exact hu
  cases hu)⟩
theorem sm_dropI {M : Mem} {a : Option Addr} {ps : List Ir} (h : SM M a (ps.flatMap wAs)) {l m : Nat} (hl : l ≤ ps.length) (hm : ps.length ≤ m) : SM M (slA a l m 5) ((ps.drop l).flatMap wAs) := by
 by_cases h1 : l < ps.length
 ·have := SM.part h (l := l) (m := m) (s := 5) (by omega) ((ps.flatMap wAs).length)
  rw [List.take_of_length_le (by rw [List.length_drop]; omega), ← flat_dropI] at this
  exact this
 exact .inl (by rw [List.drop_eq_nil_of_le (by omega)]; rfl)
theorem wKm {M : Mem} {ps : List Ir} (hb : ∀ p ∈ ps, BS M p.2 p.1.val) : ∀ u ∈ ps.flatMap wAs, u.oneCell' = true := by
 intro u hu
 obtain ⟨p, hp, h⟩ := List.mem_flatMap.1 hu
 obtain ⟨a, c, e, _⟩ := hb p hp
 unfold wAs at h
 rw [e] at h
 simp only [List.mem_cons, List.not_mem_nil, or_false] at h
 rcases h with rfl | rfl | rfl | rfl | rfl <;> rfl
set_option maxHeartbeats 1000000 in
theorem rinstead_walk (xs : List It) (a : Option Addr) (c : Nat) (ps : List Ir) (M : Mem) (hc : xs.length ≤ c) (hs : SM M a (ps.flatMap wAs)) (hp : ps.map (·.1) = xs) (hb : ∀ p ∈ ps, BS M p.2 p.1.val) (ys : List It) (a2 : Option Addr) (c2 : Nat) (ps2 : List Ir) (hs2 : SM M a2 (ps2.flatMap wAs)) (hp2 : ps2.map (·.1) = ys) (hb2 : ∀ p ∈ ps2, BS M p.2 p.1.val) (at_ many : Nat) (hat : at_ + many ≤ xs.length) (hxn : xs.length ≤ 100000) (hyn : ys.length ≤ 100000)  :
  SpecL Tryz.prog 72 #[.slice a xs.length c, .int .i64 at_, .int .i64 many, .slice a2 ys.length c2] M [] fun u M' L' => NS M' u (xs.take at_ ++ ys ++ xs.drop (at_ + many)) ∧ L' = [] := by
 have hpl : ps.length = xs.length := by rw [← hp, List.length_map]
 have hpl2 : ps2.length = ys.length := by rw [← hp2, List.length_map]
 have hfl := wBi wAs 5 wAq
 have hs1 : SM M a ((ps.take at_).flatMap wAs) := by rw [flat_takeI]; exact sm_take hs _
 have hs3 := sm_dropI hs (l := at_ + many) (m := c) (by omega) (by omega)
 refine wAf (vs := [_, _, _, _]) 25 _ Tryz.func72 rfl Tryz.ntmps72 rfl rfl ?_; intro W
 refine wAb (wAa (jp rfl (wAc (jT (wAb (wAa (jp rfl (wAc (jT (wAb (wAa (jp rfl (jp rfl (jp rfl ?_))))))))))))))
 refine wAi rfl rfl (qEq (qSl rfl rfl rfl (.no _) (.of (v := at_) rfl (by omega) rfl) (.no _) (by omega) (by simp)) (v' := .slice a at_ (c - 0)) (by rw [wCx]; rfl)) ?_
 refine wAy rfl rfl (wCg (R := []) (m := at_) rfl rfl rfl rfl (Own.nil _ _) (by rw [hfl, List.length_take]; congr 1; omega) hs1 rfl (wKm fun p h => hb p (List.mem_of_mem_take h)) (by omega) (by omega)) ?_; rintro v14 _ _ ⟨rfl, R14, rfl, o14⟩
 refine jp rfl (wAc (jT (wAb (wAa (jp rfl (jp rfl (wAy rfl rfl (wCg (R := R14) (m := ys.length) rfl rfl rfl rfl o14 (by rw [hfl, hpl2]) hs2 rfl (wKm hb2) (by omega) (by omega)) ?_))))))); rintro v17 _ _ ⟨rfl, R17, rfl, o17⟩
 refine jp rfl (wAc (jT (wAb (wAa (jp rfl (jp rfl (jp rfl (jp rfl (ja rfl (by omega) ?_)))))))))
 refine wAi rfl rfl (qEq (qSl rfl rfl rfl (.no _) (.no _) (.of (v := at_ + many) rfl (by omega) (by omega)) (by omega) (by simp)) (v' := .slice (slA a (at_ + many) c 5) (xs.length - (at_ + many)) (c - (at_ + many))) rfl) ?_
 refine wAy rfl rfl (wCg (R := R17) (m := xs.length - (at_ + many)) rfl rfl rfl rfl o17 (by rw [hfl, List.length_drop, hpl]) hs3 rfl (wKm fun p h => hb p (List.mem_of_mem_drop h)) (by omega) (by omega)) ?_; rintro v24 _ _ ⟨rfl, R24, rfl, o24⟩
 refine jp rfl (wAc (jT (wAe (wGy o24 (by simp) ?_))))
 intro M8 a8 c8 hM8 e8 hc8 hs8; cases e8
 refine jr1 rfl rfl ?_
 have hlen : (xs.take at_ ++ ys ++ xs.drop (at_ + many)).length = 0 + at_ + ys.length + (xs.length - (at_ + many)) := by
  rw [List.length_append, List.length_append, List.length_take, List.length_drop]; omega
 refine ⟨⟨_, _, ps.take at_ ++ ps2 ++ ps.drop (at_ + many), by rw [hlen], by rw [hlen]; exact hc8, ?_, ?_, ?_⟩, rfl⟩
 ·rw [List.flatMap_append, List.flatMap_append]; simpa using hs8
 ·rw [List.map_append, List.map_append, List.map_take, List.map_drop, hp, hp2]
 intro p h
 rcases List.mem_append.1 h with h | h
 ·rcases List.mem_append.1 h with h | h
  ·exact (hb p (List.mem_of_mem_take h)).mono hM8
  exact (hb2 p h).mono hM8
 exact (hb p (List.mem_of_mem_drop h)).mono hM8
theorem wGd (xs ys : List It) (u v : Value) (M : Mem) (h1 : NS M u xs) (h2 : NS M v ys) (at_ many : Int) (h0 : 0 ≤ at_ ∧ 0 ≤ many) (hat : at_ + many ≤ xs.length) (hxn : xs.length ≤ 100000) (hyn : ys.length ≤ 100000) : SpecL Tryz.prog 72 #[u, .int .i64 at_, .int .i64 many, v] M [] fun u M' L' => NS M' u (xs.take at_.toNat ++ ys ++ xs.drop (at_.toNat + many.toNat)) ∧ L' = [] := by
 obtain ⟨a, c, ps, rfl, hc, hs, hp, hb⟩ := h1
 obtain ⟨a2, c2, ps2, rfl, _, hs2, hp2, hb2⟩ := h2
 have := rinstead_walk xs a c ps M hc hs hp hb ys a2 c2 ps2 hs2 hp2 hb2 at_.toNat many.toNat (by omega) hxn hyn
 rw [show ((at_.toNat : Nat) : Int) = at_ by omega, show ((many.toNat : Nat) : Int) = many by omega] at this
 exact this
theorem kl_asymN {a b : Ky} (h : wBf a b = true) : wBf b a = false := by
 cases h2 : wBf b a with
 | false => rfl
 | true => have := kl_trans h h2; rw [kl_irr] at this; cases this
theorem kl_ofN {a b : Ky} (h : wBf a b = false) (hn : a ≠ b) : wBf b a = true := by
 obtain ⟨a1, a2, a3⟩ := a; obtain ⟨b1, b2, b3⟩ := b
 have h2 : ¬ wBf ⟨a1, a2, a3⟩ ⟨b1, b2, b3⟩ = true := by rw [h]; decide
 rw [kl_iff] at h2 ⊢
 simp only [ne_eq, Ky.mk.injEq] at hn h2 ⊢
 omega
def WyR (xs : List It) (q : Ky) (i A : Nat) : Prop := A < max i 1 ∧ (∀ j, A < j → ∀ h : j < xs.length, j < i → wBf q xs[j].key = true) ∧ ∀ h : A < xs.length, A ≠ 0 → wBf q xs[A].key = false
theorem WyR.on {xs : List It} {q : Ky} {i A : Nat} (h : WyR xs q i A) (hi : i < xs.length) (h1 : 1 ≤ i) (hk : wBf q xs[i].key = false) : WyR xs q (i + 1) i :=
 ⟨by omega, fun j h1 _ h2 => by omega, fun _ _ => hk⟩
theorem WyR.off {xs : List It} {q : Ky} {i A : Nat} (h : WyR xs q i A) (hi : i < xs.length) (hk : wBf q xs[i].key = true) : WyR xs q (i + 1) A :=
 ⟨by have := h.1; omega, fun j h1 h2 h3 => by
  by_cases e : j = i
  ·subst e; exact hk
  exact h.2.1 j h1 h2 (by omega), h.2.2⟩
theorem srt_get {xs : List It} (h : Srt xs) {i j : Nat} (hij : i < j) (hj : j < xs.length) : wBf xs[i].key xs[j].key = true := List.pairwise_iff_getElem.1 h i j (by omega) hj hij
theorem way_is {xs : List It} {q : Ky} {A : Nat} (hs : Srt xs) (hne : 0 < xs.length) (h : WyR xs q xs.length A) : A = wAt xs q := by
 obtain ⟨h1, h2, h3⟩ := h
 obtain ⟨hA, hD⟩ := wEs (q := q) hs
 have hpl := wLh xs q
 have ha : ∀ j (hj : j < xs.length), j < place xs q → wBf xs[j].key q = true := fun j hj hp => hA _ (by
  rw [List.mem_iff_getElem]; exact ⟨j, by rw [List.length_take]; omega, by rw [List.getElem_take]⟩)
 have hd : ∀ j (hj : j < xs.length), place xs q ≤ j → wBf xs[j].key q = false := fun j hj hp => hD _ (by
  rw [List.mem_iff_getElem]; exact ⟨j - place xs q, by rw [List.length_drop]; omega, by rw [List.getElem_drop]; congr 1; omega⟩)
 have hAl : A < xs.length := by omega
 unfold wAt
 by_cases hi : isAt xs q = true
 ·rw [if_pos hi]
  have h4 := of_decide_eq_true hi
  have hp : place xs q < xs.length := Nat.lt_of_not_le fun e => by rw [List.getElem?_eq_none e] at h4; cases h4
  rw [List.getElem?_eq_getElem hp] at h4
  have hq : xs[place xs q].key = q := by simpa using h4
  rcases Nat.lt_trichotomy A (place xs q) with hlt | heq | hgt
  ·have := h2 _ hlt hp hp
   rw [hq, kl_irr] at this; cases this
  ·exact heq
  have := h3 hAl (by omega)
  have h5 := srt_get hs hgt hAl
  rw [hq, this] at h5; cases h5
 rw [if_neg hi]
 have hgt : ∀ j (hj : j < xs.length), place xs q ≤ j → wBf q xs[j].key = true := fun j hj hp => by
  have h5 := hd j hj hp
  have hne2 : xs[j].key ≠ q := fun e => by
   by_cases ej : j = place xs q
   ·subst ej
    exact hi (decide_eq_true (by rw [List.getElem?_eq_getElem hj]; simp [e]))
   have h6 := srt_get hs (i := place xs q) (j := j) (by omega) hj
   have h7 := hd (place xs q) (by omega) (Nat.le_refl _)
   rw [e, h7] at h6; cases h6
  exact kl_ofN h5 hne2
 rcases Nat.lt_trichotomy A (place xs q - 1) with hlt | heq | hgt2
 ·have h5 := h2 (place xs q - 1) hlt (by omega) (by omega)
  have h6 := ha (place xs q - 1) (by omega) (by omega)
  rw [kl_asymN h6] at h5; cases h5
 ·exact heq
 have h5 := h3 hAl (by omega)
 rw [hgt A hAl (by omega)] at h5; cases h5
set_option maxHeartbeats 1000000 in
theorem rway_walk (lv : Int) (xs : List It) (a : Option Addr) (c : Nat) (ps : List (It × Value)) (M : Mem) (hc : xs.length ≤ c) (hs : SM M a (ps.flatMap wAs)) (hp : ps.map (·.1) = xs) (hb : ∀ p ∈ ps, BS M p.2 p.1.val) (hx5 : xs.length ≤ 5) (hne : 0 < xs.length) (hsr : Srt xs) (q : Ky) :
  SpecL Tryz.prog 71 #[.agg #[.int .i64 lv, .slice a xs.length c], .agg (wBb q).toArray] M [] fun u _ _ => u = .int .i64 (wAt xs q) := by
 refine wAf (vs := [_, _]) 25 _ Tryz.func71 rfl Tryz.ntmps71 rfl rfl ?_; intro W
 refine wAb (wAa (wAy rfl rfl (wCm (cs := [_, _]) rfl rfl rfl rfl) ?_)); rintro _ _ _ ⟨b2, rfl, rfl, rfl⟩
 refine wAy rfl rfl (wCm (cs := [_, _, _]) rfl rfl rfl rfl) ?_; rintro _ _ _ ⟨b3, rfl, rfl, rfl⟩
 refine jp rfl (wAc (jT (wAb (wAa (jp rfl (wAc (jT (wAb (wAb (wAa (jp rfl (wAc (jT (wAh ?_))))))))))))))
 refine wAv (α := Nat × Nat) (fun z => [(2, .pointer (some ⟨b2, 0, none⟩)), (3, .pointer (some ⟨b3, 0, none⟩)), (5, .int .i64 z.2), (6, .int .i64 z.1)]) (fun _ => M) (fun _ => [(b3, .cells (wBb q).toArray 31 (0, 0)), (b2, .cells [Value.int .i64 lv, .slice a xs.length c].toArray 53 (0, 0))]) (fun z => 1 ≤ z.1 ∧ (z.1 ≤ xs.length) ∧ WyR xs q z.1 z.2) (fun z => xs.length - z.1)
  (1, 0) (.cons (t := 2) rfl (.cons (t := 3) rfl (.cons (t := 5) rfl (.cons (t := 6) rfl .nil)))) ⟨Nat.le_refl _, hne, by decide, fun j h1 _ h2 => by omega, fun _ h => absurd rfl h⟩ (fun _ h => h) ?_
 rintro ⟨k, A⟩ ⟨hk0, hk, hW⟩
 try dsimp only at hk0 hk hW ⊢
 refine wAb (wAb (wAa (jp rfl (sFL rfl rfl ?_))))
 refine wAi rfl rfl (wBj rfl rfl rfl) ?_
 refine js rfl (fun h11 => ?_) (fun h11 => ?_)
 ·refine wAc (jT (wAg rfl (wAd (jT (wAb (wAh (wAb (wBp [(0, true), (1, true), (2, true), (3, true), (4, true), (5, true), (6, true), (7, true), (8, true)] _ (by kernel_rfl) (by kernel_rfl) (by kernel_rfl) rfl (fun _ h => h) ?_))))))))
  refine dLL rfl rfl ?_
  refine dFa rfl rfl ?_
  refine dLd rfl rfl ?_
  refine dp rfl rfl ?_
  have hk1 : k < xs.length := by omega
  obtain ⟨sb, so, va, vc, e0, hcl, hvc, hvs⟩ := wFg hs hp hb hk1 (i := (k : Int)) rfl
  refine wBq rfl rfl rfl (wCe rfl rfl rfl rfl e0 (by omega)) ?_
  refine dFa rfl rfl ?_
  refine wBq rfl rfl rfl (wGx (cs := wBb xs[k].key) rfl rfl rfl rfl rfl (fun i v hv => (hcl i v (wDd hv)).cj _)) ?_
  refine wKi rfl rfl rfl (wBr rfl rfl rfl rfl rfl (by kernel_rfl) (wHe q xs[k].key M)) (fun h21 => ?_) (fun h21 => ?_)
  ·refine dp rfl rfl ?_
   refine wBd (jPn (jT (wAk rfl (wAd (jB (jT (wAa (jp rfl (ja rfl (by omega) ?_)))))))))
   refine jp rfl (wAc ?_)
   refine wAp (k + 1, A) (.cons (t := 2) rfl (.cons (t := 3) rfl (.cons (t := 5) rfl (.cons (t := 6) rfl .nil)))) ⟨by show 1 ≤ k + 1; omega, by show k + 1 ≤ xs.length; omega, hW.off hk1 h21⟩ (by show xs.length - (k + 1) < xs.length - k; omega) (fun _ h => h)
  refine dp rfl rfl ?_
  refine wBd (jPn (jT (wAg rfl (wAa (jp rfl (jp rfl (wAc (jB (jT (wAa (jp rfl (ja rfl (by omega) ?_))))))))))))
  refine jp rfl (wAc ?_)
  refine wAp (k + 1, k) (.cons (t := 2) rfl (.cons (t := 3) rfl (.cons (t := 5) rfl (.cons (t := 6) rfl .nil)))) ⟨by show 1 ≤ k + 1; omega, by show k + 1 ≤ xs.length; omega, hW.on hk1 hk0 h21⟩ (by show xs.length - (k + 1) < xs.length - k; omega) (fun _ h => h)
 refine wAc (jT (wAk rfl (wAw (jTx (jTx (jBx (jT (wAb (wAa (jp rfl (jp rfl (wAc (jT (wAe (wAr (L' := []) (List.nil_sublist _) ?_)))))))))))))))
 refine jr1 rfl rfl ?_
 obtain rfl : k = xs.length := by omega
 rw [way_is hsr hne hW]
theorem rneigh_walk (lv : Int) (n : Nat) (a : Option Addr) (c : Nat) (M : Mem) (p : Nat) (hp : p < n) (hn : n ≤ 1000) :
  SpecL Tryz.prog 73 #[.agg #[.int .i64 lv, .slice a n c], .int .i64 p] M [] fun u _ _ => u = .int .i64 (if p + 1 < n then (p : Int) + 1 else (p : Int) - 1) := by
 refine wAf (vs := [_, _]) 15 _ Tryz.func73 rfl Tryz.ntmps73 rfl rfl ?_; intro W
 refine wAb (wAa (wAy rfl rfl (wCm (cs := [_, _]) rfl rfl rfl rfl) ?_)); rintro _ _ _ ⟨b2, rfl, rfl, rfl⟩
 refine jp rfl (wAc (jT (wAb (wAb (wAa (jp rfl (ja rfl (by omega) ?_)))))))
 refine sFL rfl rfl ?_
 refine wAi rfl rfl (wBj rfl rfl rfl) ?_
 refine js rfl (fun h10 => ?_) (fun h10 => ?_)
 ·refine wAc (jT (wAg rfl (wAb (wAa (jp rfl (ja rfl (by omega) ?_))))))
  refine jp rfl (wAc (jT (wAe (jTr (wAr (L' := []) (List.nil_sublist _) ?_)))))
  refine jr1 rfl rfl ?_
  rw [if_pos (by omega)]
 refine wAc (jT (wAk rfl (wAd (jT (wAb (wAa (jp rfl (ja rfl (by omega) ?_))))))))
 refine jp rfl (wAc (jT (wAe (wAr (L' := []) (List.nil_sublist _) ?_))))
 refine jr1 rfl rfl ?_
 rw [if_neg (by omega)]
theorem rfreed_walk (s : Sto) (bv wv nv lv0 : Value) (M : Mem) (h1 : LS M bv s.blocks) (h2 : WS M wv s.waits) (h3 : BS M nv s.now) (h4 : BS M lv0 s.last) (hst : wCc s) (k : Int) (hk : k = 0 ∨ (0 ≤ k ∧ k < 256 ∧ wDo s k.toNat = 0)) :
  SpecL Tryz.prog 52 #[.agg #[bv, wv, nv, lv0], .int .i64 k] M [] fun u M' L' => ST M' u (if k = 0 then s else wBx s k.toNat) ∧ L' = [] := by
 obtain ⟨ba, bc, bps, rfl, _⟩ := id h1
 obtain ⟨wa, wc, wps, rfl, _⟩ := id h2
 obtain ⟨la, lc, rfl, hlc, hls⟩ := id h4
 obtain ⟨na, nc, rfl, hnc, hns⟩ := id h3
 refine wAf (vs := [_, _]) 11 _ Tryz.func52 rfl Tryz.ntmps52 rfl rfl ?_; intro W
 refine wAb (wAa (wAy rfl rfl (wCm (cs := [_, _, _, _]) rfl rfl rfl rfl) ?_)); rintro _ _ _ ⟨b2, rfl, rfl, rfl⟩
 refine sAl rfl fun b4 => ?_
 refine wAc (jT (wAb (wAb (wAa (jp rfl (js rfl (fun h6 => ?_) (fun h6 => ?_)))))))
 ·refine wAc (jT (wAg rfl (wAb (wAa (sLL rfl ?_)))))
  refine sSt rfl ?_
  refine wAc (jT (wAe (jTr (wDa (rs := [_]) ([]) (by exact List.nil_sublist _) rfl (.cons (.agg rfl rfl rfl) .nil) ?_))))
  exact ⟨by rw [if_pos h6]; exact ST.of h1 h2 h3 h4, rfl⟩
 refine wAc (jT (wAk rfl (wAd (jT (wAb (wAa (sLL rfl ?_)))))))
 refine jp rfl ?_
 obtain ⟨hk1, hk2, hk3⟩ := hk.resolve_left h6
 refine wAy rfl rfl (wAu rfl rfl rfl rfl rfl (by kernel_rfl) (rfree12_walk s _ _ _ _ M h1 h2 h3 h4 hst k ⟨hk1, hk2⟩ hk3)) ?_; rintro _ M1 _ ⟨hM1, _, rfl, ⟨hS9, rfl⟩⟩
 simp only [nA]
 obtain ⟨x9, rfl⟩ := hS9.form
 refine sSt rfl ?_
 refine wAc (jT (wAe (wDa (rs := [_]) ([]) (by exact List.nil_sublist _) rfl (.cons (.agg rfl rfl rfl) .nil) ?_)))
 exact ⟨by rw [if_neg h6]; exact hS9, rfl⟩
theorem MdP.form {s : Sto} {lv : Int} {xs : List It} {u : Value} {M' : Mem} (h : MdP s lv xs u M') : ∃ x n, u = .tuple #[.agg (sv4 x).toArray, .int .i64 n, .int .i64 (mkE s lv xs)] ∧ (mkE s lv xs = 0 → ST M' (.agg (sv4 x).toArray) (mkS s lv xs) ∧ n = (wEt (wAx s xs) : Int)) := by
 unfold MdP at h
 by_cases h0 : mkE s lv xs = 0
 ·rw [if_pos h0] at h
  obtain ⟨v, rfl, hv⟩ := h
  obtain ⟨x, rfl⟩ := hv.form
  exact ⟨x, _, by rw [h0], fun _ => ⟨hv, rfl⟩⟩
 rw [if_neg h0] at h
 exact ⟨(sk0, sk0, sk0, sk0), 0, h, fun e => absurd e h0⟩
def BtP (s : Sto) (lv : Int) (xs : List It) (u : Value) (M' : Mem) : Prop := if mkE s lv xs = 0 then ∃ v a c, u = .tuple #[v, .slice a 1 c, .int .i64 0] ∧ ST M' v (mkS s lv xs) ∧ SM M' a (itc (upIt s xs) none 0) else u = .tuple #[.agg zeroSt.toArray, .slice none 0 0, .int .i64 (mkE s lv xs)]
set_option maxHeartbeats 4000000 in
theorem rbuilt12_walk (s : Sto) (x0 : Sk × Sk × Sk × Sk) (M : Mem) (hS0 : ST M (.agg (sv4 x0).toArray) s) (hst : wCc s) (lv : Int) (xs : List It) (a : Option Addr) (c : Nat) (ps : List (It × Value)) (hc : xs.length ≤ c) (hs : SM M a (ps.flatMap wAs)) (hp : ps.map (·.1) = xs) (hb : ∀ p ∈ ps, BS M p.2 p.1.val) (hok : wEv lv xs = true) (hk : ∀ x ∈ xs, wFp x.key) :
  SpecL Tryz.prog 74 #[.agg (sv4 x0).toArray, .int .i64 lv, .slice a xs.length c] M [] fun u M' L' => BtP s lv xs u M' ∧ L' = [] := by
 have hno := NdOk.of hok
 have hx5 := hno.len
 have hNS0 : NS M (.slice a xs.length c) xs := ⟨a, c, ps, rfl, hc, hs, hp, hb⟩
 refine wAf (vs := [_, _, _]) 71 _ Tryz.func74 rfl Tryz.ntmps74 rfl rfl ?_; intro W
 refine wAb (wAa (wAy rfl rfl (wCm (cs := [_, _, _, _]) rfl rfl rfl rfl) ?_)); rintro _ _ _ ⟨b3, rfl, rfl, rfl⟩
 refine sAl rfl fun b6 => ?_
 refine jp rfl (jp rfl (wAc (jT (wAb (wAa (jp rfl (wAy rfl rfl (wAn (cs := [_]) rfl rfl rfl (by rfl) (by rfl) (by rfl)) ?_))))))); rintro _ _ _ ⟨b17, rfl, rfl, rfl⟩
 refine jp rfl (wAc (jT (wAb (wAb (wAa (jp rfl (wAi rfl rfl (wBj rfl rfl rfl) ?_)))))))
 refine jf rfl (decide_eq_false (by omega)) ?_
 refine wAc (jT (wAk rfl (wAd (jT (wAb (wAa (jp rfl (wAc (jT (wAb (wAb (wAa (jp rfl (wAc (jT (wAh ?_))))))))))))))))
 refine wAv (α := Nat × Mem × (Sk × Sk × Sk × Sk) × Value × Lc) (fun z => [(1, .int .i64 lv), (3, .pointer (some ⟨b3, 0, none⟩)), (6, .pointer (some ⟨b6, 0, none⟩)), (9, .slice (some ⟨b17, 0, none⟩) 1 1), (10, z.2.2.2.1), (11, .int .i64 z.1)]) (fun z => z.2.1) (fun z => z.2.2.2.2 ++ [(b17, .cells [.slice a xs.length c].toArray 51 (0, 0)), (b6, .cells [Value.slice none 0 0, .slice none 0 0, .slice none 0 0, .slice none 0 0].toArray 28 (0, 0)), (b3, .cells (sv4 z.2.2.1).toArray 28 (0, 0))]) (fun z => (z.1 = 0 ∧ z.2.1 = M ∧ z.2.2.1 = x0 ∧ z.2.2.2.1 = .slice none 0 0 ∧ z.2.2.2.2 = []) ∨ (z.1 = 1 ∧ mkE s lv xs = 0 ∧ MLe M z.2.1 ∧ ST z.2.1 (.agg (sv4 z.2.2.1).toArray) (mkS s lv xs) ∧ Own z.2.2.2.1 z.2.2.2.2 46 5 1 (itc (upIt s xs) none 0))) (fun z => 1 - z.1)
  (0, M, x0, .slice none 0 0, []) (.cons (t := 1) rfl (.cons (t := 3) rfl (.cons (t := 6) rfl (.cons (t := 9) rfl (.cons (t := 10) rfl (.cons (t := 11) rfl .nil)))))) (.inl ⟨rfl, rfl, rfl, rfl, rfl⟩) (fun _ h => h) ?_
 rintro ⟨k, Mk, x, v, R⟩ hI
 try dsimp only at hI ⊢
 refine wAb (wAb (wAa (jp rfl (jp rfl (wAi rfl rfl (wBj rfl rfl rfl) ?_)))))
 refine js rfl (fun h29 => ?_) (fun h29 => ?_)
 ·refine wAc (jT (wAg rfl (wAd (jT (wAb (wAh (wAb ?_)))))))
  obtain ⟨rfl, rfl, rfl, rfl, rfl⟩ := hI.resolve_right (by omega)
  simp only [nA]
  have hS := hS0
  have hNS := hNS0
  refine wFr ([(b17, .cells [.slice a xs.length c].toArray 51 (0, 0)), (b6, .cells [Value.slice none 0 0, .slice none 0 0, .slice none 0 0, .slice none 0 0].toArray 28 (0, 0)), (b3, .cells (sv4 x).toArray 28 (0, 0))]) (by kernel_rfl) ((fun _ h => h)) ?_
  refine wDx (i := 0) rfl (by kernel_rfl) (by kernel_rfl) rfl rfl (qLdL rfl rfl rfl rfl rfl) ?_
  refine wEg (i := 1) rfl (by kernel_rfl) (by kernel_rfl) rfl ?_
  refine wEg (i := 2) rfl (by kernel_rfl) (by kernel_rfl) rfl ?_
  refine wEg (i := 3) rfl (by kernel_rfl) (by kernel_rfl) rfl ?_
  refine wDx (i := 4) rfl (by kernel_rfl) (by kernel_rfl) rfl rfl (wBe rfl rfl rfl rfl (by omega)) ?_
  refine wDx (i := 5) rfl (by kernel_rfl) (by kernel_rfl) rfl rfl (qLd rfl rfl rfl rfl (CJ.loc rfl)) ?_
  refine wDx (i := 6) rfl (by kernel_rfl) (by kernel_rfl) rfl rfl (wBa (cs := [_, _]) rfl rfl rfl (by rfl)) ?_
  refine wFs (α := Mem × (Sk × Sk × Sk × Sk) × Int × Nat) (fun y => MLe Mk y.1 ∧ (mkE s lv xs = 0 → ST y.1 (.agg (sv4 y.2.1).toArray) (mkS s lv xs) ∧ y.2.2.1 = (wEt (wAx s xs) : Int))) (fun y => [(1, .int .i64 lv), (3, .pointer (some ⟨b3, 0, none⟩)), (6, .pointer (some ⟨b6, 0, none⟩)), (9, .slice (some ⟨b17, 0, none⟩) 1 1), (10, .slice none 0 0), (11, .int .i64 ((0 : Nat) : Int)), (12, .pointer (some ⟨y.2.2.2, 0, none⟩)), (41, .agg (sv4 y.2.1).toArray), (42, .int .i64 y.2.2.1), (43, .int .i64 (mkE s lv xs))]) (fun y => y.1) (fun y => [(y.2.2.2, .cells [Value.slice none 0 0, .slice none 0 0, .slice none 0 0, .slice none 0 0].toArray 28 (0, 0)), (b17, .cells [.slice a xs.length c].toArray 51 (0, 0)), (b6, .cells [Value.slice none 0 0, .slice none 0 0, .slice none 0 0, .slice none 0 0].toArray 28 (0, 0)), (b3, .cells (sv4 x).toArray 28 (0, 0))]) 3 #[true, true, true, true, true, true, true, true, true, true, true, true, true, false, false, false] ?_ (fun rest => ?_)
  ·rintro ⟨Mr, x9, n9, b12⟩ ⟨hMr, hmd2⟩
   try dsimp only at hMr hmd2 ⊢
   refine wHa (i := 13) (by kernel_rfl) ?_
   refine js_s rfl rfl (wBm rfl rfl rfl rfl rfl rfl rfl rfl) ?_; rintro _ _ _ ⟨rfl, rfl⟩
   refine wAo (hMr) (by simp) ?_
   refine wEg (i := 14) rfl (by kernel_rfl) (by kernel_rfl) rfl ?_
   refine wEg (i := 15) rfl (by kernel_rfl) (by kernel_rfl) rfl ?_
   refine wJy (by kernel_rfl) ?_
   refine jPn (jT (wAb (wAb (wAa (jp rfl (js rfl (fun h45 => ?_) (fun h45 => ?_)))))))
   ·refine wAc (jT (wAg rfl (wAb (wAa (wAi rfl rfl (wBa (cs := [_, _, _, _]) rfl rfl rfl (by rfl)) ?_)))))
    refine jp rfl (sSt rfl ?_)
    refine jp rfl (jp rfl (wAc (jT (wAe (jTr (jBr (jTr (jTr (jBr (jTr (wDa (rs := [_, _, _]) ([]) (by exact List.nil_sublist _) rfl (.cons (.agg rfl rfl rfl) (.cons (.tmp rfl) (.cons (.tmp rfl) .nil))) ?_)))))))))))
    exact ⟨by unfold BtP; rw [if_neg h45]; rfl, rfl⟩
   refine wAc (jT (wAk rfl (wAd (jT (wAb ?_)))))
   have hm0 : mkE s lv xs = 0 := Classical.not_not.1 h45
   refine wAa (sLL rfl ?_)
   refine sSt rfl ?_
   refine wAc (jT (wAb (wAa (jp rfl (wAi rfl rfl (wBa (cs := [_, _, _, _, _]) rfl rfl rfl (by rfl)) ?_)))))
   refine sAl rfl fun b15 => ?_
   refine sSt rfl ?_
   refine wAc (jT (wAb (wAb (wAa (jp rfl (jp rfl (wAi rfl rfl (wBe rfl rfl rfl rfl (by omega)) ?_)))))))
   refine sLd rfl ?_
   refine wAi rfl rfl (wBj rfl rfl rfl) ?_
   refine js rfl (fun h56 => ?_) (fun h56 => ?_)
   ·refine wAc (jT (wAg rfl (wAa (jp rfl (jp rfl (wAi rfl rfl (wBe rfl rfl rfl rfl (by omega)) ?_))))))
    refine sLd rfl ?_
    have hx0 : 0 < xs.length := by omega
    obtain ⟨sb, so, va, vc, e0, hcl, hvc, hvs⟩ := wFg (hs.mono hMr) hp (fun p h => (hb p h).mono hMr) hx0 (i := 0) rfl
    refine wAi rfl rfl (wCe rfl rfl rfl rfl e0 (by omega)) ?_
    refine sFa rfl ?_
    refine wAi rfl rfl (wGx (cs := wBb xs[0].key) rfl rfl rfl rfl rfl (fun i v hv => (hcl i v (wDd hv)).cj _)) ?_
    refine sFa rfl ?_
    refine sSt rfl ?_
    refine wAc (jT (wAa (jp rfl (sLL rfl ?_))))
    refine wAy rfl rfl (wAn (cs := [_, _, _, _, _]) rfl rfl rfl (by rfl) (by rfl) (by rfl)) ?_; rintro _ _ _ ⟨b67, rfl, rfl, rfl⟩
    refine wAy rfl rfl (wDv (R := []) (m := 1) rfl rfl rfl rfl (Own.nil _ _) rfl (fun j v hv => CJ.loc (by rw [Nat.zero_add]; simpa using hv)) rfl (by rfl) (by simp [Value.oneCell', wBb]) (by omega) (by omega)) ?_; rintro v68 _ _ ⟨rfl, R68, rfl, o68, _⟩
    refine jp rfl (wAc (jB (jT (wAa (jp rfl (ja rfl (by omega) ?_))))))
    refine jp rfl (wAc ?_)
    obtain ⟨hS9, rfl⟩ := hmd2 hm0
    refine wAp (1, Mr, x9, v68, R68) (.cons (t := 1) rfl (.cons (t := 3) rfl (.cons (t := 6) rfl (.cons (t := 9) rfl (.cons (t := 10) rfl (.cons (t := 11) rfl .nil)))))) (.inr ⟨rfl, hm0, hMr, hS9, o68.to rfl (by unfold itc upIt; rw [wLs hx0]; rfl)⟩) (by show 1 - 1 < 1 - 0; decide) (fun _ h => h.subC fun f => by simp only [sv4, List.map_append, List.map_cons, List.map_nil, List.sum_append, List.sum_cons, List.sum_nil]; omega)
   refine wAc (jT (wAk rfl (wAd (jT (wAa (jp rfl (sLL rfl ?_)))))))
   refine wAy rfl rfl (wAn (cs := [_, _, _, _, _]) rfl rfl rfl (by rfl) (by rfl) (by rfl)) ?_; rintro _ _ _ ⟨b67, rfl, rfl, rfl⟩
   refine wAy rfl rfl (wDv (R := []) (m := 1) rfl rfl rfl rfl (Own.nil _ _) rfl (fun j v hv => CJ.loc (by rw [Nat.zero_add]; simpa using hv)) rfl (by rfl) (by simp [Value.oneCell', wBb]) (by omega) (by omega)) ?_; rintro v68 _ _ ⟨rfl, R68, rfl, o68, _⟩
   refine jp rfl (wAc (jB (jT (wAa (jp rfl (ja rfl (by omega) ?_))))))
   refine jp rfl (wAc ?_)
   obtain ⟨hS9, rfl⟩ := hmd2 hm0
   have hx0 : xs = [] := List.eq_nil_of_length_eq_zero (by omega)
   refine wAp (1, Mr, x9, v68, R68) (.cons (t := 1) rfl (.cons (t := 3) rfl (.cons (t := 6) rfl (.cons (t := 9) rfl (.cons (t := 10) rfl (.cons (t := 11) rfl .nil)))))) (.inr ⟨rfl, hm0, hMr, hS9, o68.to rfl (by unfold itc upIt; rw [hx0]; rfl)⟩) (by show 1 - 1 < 1 - 0; decide) (fun _ h => h.subC fun f => by simp only [sv4, List.map_append, List.map_cons, List.map_nil, List.sum_append, List.sum_cons, List.sum_nil]; omega)
  refine wBc [7, 12] (by kernel_rfl) rfl ⟨?_, ?_, trivial⟩
  ·refine wDe rfl rfl rfl (wAu rfl rfl rfl rfl rfl (by kernel_rfl) (rmade9_spec s _ Mk hS hst lv xs _ hNS hok hk)) ?_; rintro _ M2 _ ⟨hM7, _, rfl, ⟨hmd, rfl⟩⟩
   refine wAo (hM7) (by simp) ?_
   simp only [nA]
   obtain ⟨x9, n9, rfl, hmd2⟩ := hmd.form
   refine wEg (i := 8) rfl (by kernel_rfl) (by kernel_rfl) rfl ?_
   refine wEg (i := 9) rfl (by kernel_rfl) (by kernel_rfl) rfl ?_
   refine wEg (i := 10) rfl (by kernel_rfl) (by kernel_rfl) rfl ?_
   refine wEg (i := 11) rfl (by kernel_rfl) (by kernel_rfl) rfl ?_
   refine wBc [12] (by kernel_rfl) rfl ⟨?_, trivial⟩
   refine wDe rfl rfl rfl (wDy rfl rfl) ?_; rintro _ _ _ ⟨b12, rfl, rfl, rfl⟩
   refine wAo (by first | exact MLe.refl _ | exact hM7) (by simp) ?_
   refine wCa (listed' := #[true, true, true, true, true, true, true, true, true, true, true, true, true, false, false, false]) (by kernel_rfl) (wBy (.cons (t := 1) rfl (.cons (t := 3) rfl (.cons (t := 6) rfl (.cons (t := 9) rfl (.cons (t := 10) rfl (.cons (t := 11) rfl (.cons (t := 12) rfl (.cons (t := 41) rfl (.cons (t := 42) rfl (.cons (t := 43) rfl .nil)))))))))) ?_)
   exact rest (M2, x9, n9, b12) ⟨hM7, hmd2⟩
  refine wDe rfl rfl rfl (wDy rfl rfl) ?_; rintro _ _ _ ⟨b12, rfl, rfl, rfl⟩
  refine wAo (by first | exact MLe.refl _ | exact hM7) (by simp) ?_
  refine wBc [7] (by kernel_rfl) rfl ⟨?_, trivial⟩
  refine wDe rfl rfl rfl (wAu rfl rfl rfl rfl rfl (by kernel_rfl) (rmade9_spec s _ Mk hS hst lv xs _ hNS hok hk)) ?_; rintro _ M2 _ ⟨hM7, _, rfl, ⟨hmd, rfl⟩⟩
  refine wAo (hM7) (by simp) ?_
  simp only [nA]
  obtain ⟨x9, n9, rfl, hmd2⟩ := hmd.form
  refine wEg (i := 8) rfl (by kernel_rfl) (by kernel_rfl) rfl ?_
  refine wEg (i := 9) rfl (by kernel_rfl) (by kernel_rfl) rfl ?_
  refine wEg (i := 10) rfl (by kernel_rfl) (by kernel_rfl) rfl ?_
  refine wEg (i := 11) rfl (by kernel_rfl) (by kernel_rfl) rfl ?_
  refine wCa (listed' := #[true, true, true, true, true, true, true, true, true, true, true, true, true, false, false, false]) (by kernel_rfl) (wBy (.cons (t := 1) rfl (.cons (t := 3) rfl (.cons (t := 6) rfl (.cons (t := 9) rfl (.cons (t := 10) rfl (.cons (t := 11) rfl (.cons (t := 12) rfl (.cons (t := 41) rfl (.cons (t := 42) rfl (.cons (t := 43) rfl .nil)))))))))) ?_)
  exact rest (M2, x9, n9, b12) ⟨hM7, hmd2⟩
 refine wAc (jT (wAk rfl (wAw (jTx (jTx (jBx (jT (wAb (wAa (sLL rfl ?_))))))))))
 refine jp rfl (sSt rfl ?_)
 refine jp rfl (jp rfl (wAc (jT (wAe ?_))))
 obtain ⟨rfl, hm0, hMk, hS9, hO⟩ := hI.resolve_left (by omega)
 refine wGy hO (by simp) ?_
 intro M8 a8 c8 hM8 e8 hc8 hs8; cases e8
 refine wDa (rs := [_, _, _]) ([]) (by exact List.nil_sublist _) rfl (.cons (.agg rfl rfl rfl) (.cons (.tmp rfl) (.cons (.tmp rfl) .nil))) ?_
 exact ⟨by unfold BtP; rw [if_pos hm0]; exact ⟨_, a8, c8, rfl, hS9.mono hM8, hs8⟩, rfl⟩
end Go.Proofs.YtkcpllhggofloaaGreat
