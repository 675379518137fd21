/- Trees, without a program in sight: what is between two keys rises, and is found. No statement of the seat is proved here. -/
import Derived.Test.YtoincdcejjdgkaaGreatZFind
import Derived.Test.YtoincdcejjdgkaaGreatZStore
namespace Go.Proofs.YtoincdcejjdgkaaGreat
set_option linter.unusedSimpArgs false
set_option linter.unusedVariables false
open Go.RowKit
def wDi (f : It → List It) (q : Ky) : List It → List It
 | [] => []
 | x :: xs => (match xs with | [] => f x | y :: _ => if wBy q y.key then f x else []) ++ wDi f q xs
def wDj (s : Sto) (q : Ky) : Nat → List It → List It
 | 0, xs => xs.filter fun x => !wBy x.key q
 | l + 1, xs => wDi (fun x => wDj s q l (kid s x)) q xs
def KEn (y : It) (M : Mem) (vs : List Value) : Prop := ∃ va vc, vs = [.agg (itc y va vc).toArray] ∧ y.val.length ≤ vc ∧ SM M va (wAk y.val)
structure CF (M : Mem) (s : Sto) (q : Ky) (l c1 c2 c3 c4 : Nat) : Prop where
 bn : ∃ p, M c1 = some (.cells [.pointer (some ⟨p, 0, none⟩)].toArray 92 (0, 0)) ∧ BN M (.pointer (some ⟨p, 0, none⟩)) s
 fr : M c2 = some (.cells (wBu q).toArray 65 (0, 0))
 yi : M c3 = some (.cells [.func (.yield l) #[] #[]].toArray 148 (0, 0))
 cl : M c4 = some (.cells [.func (.func 83) #[] #[.pointer (some ⟨c1, 0, none⟩), .pointer (some ⟨c2, 0, none⟩), .pointer (some ⟨c3, 0, none⟩), .pointer (some ⟨c4, 0, none⟩)]].toArray 149 (0, 0))
theorem CF.mono {M M' : Mem} {s : Sto} {q : Ky} {l c1 c2 c3 c4 : Nat} (h : CF M s q l c1 c2 c3 c4) (hM : MLe M M') : CF M' s q l c1 c2 c3 c4 := by
 obtain ⟨⟨p, h1, h2⟩, h3, h4, h5⟩ := h
 exact ⟨⟨p, hM _ _ h1, h2.mono hM⟩, hM _ _ h3, hM _ _ h4, hM _ _ h5⟩
theorem goDown_on {f : It → List It} {q : Ky} {xs : List It} {j : Nat} (h1 : j + 1 < xs.length) (h : wBy q xs[j + 1].key = true) : wDi f q (xs.drop j) = f xs[j] ++ wDi f q (xs.drop (j + 1)) := by
 rw [List.drop_eq_getElem_cons (show j < xs.length by omega), List.drop_eq_getElem_cons h1, wDi]; simp [h]
theorem goDown_off {f : It → List It} {q : Ky} {xs : List It} {j : Nat} (h1 : j + 1 < xs.length) (h : wBy q xs[j + 1].key = false) : wDi f q (xs.drop j) = wDi f q (xs.drop (j + 1)) := by
 rw [List.drop_eq_getElem_cons (show j < xs.length by omega), List.drop_eq_getElem_cons h1, wDi]; simp [h]
theorem goDown_last {f : It → List It} {q : Ky} {xs : List It} {j : Nat} (h1 : j < xs.length) (h2 : ¬ j + 1 < xs.length) : wDi f q (xs.drop j) = f xs[j] ++ wDi f q (xs.drop (j + 1)) := by
 rw [List.drop_eq_getElem_cons h1, List.drop_eq_nil_of_le (show xs.length ≤ j + 1 by omega)]; simp [wDi]
theorem prefix_of {α : Type} {pj r all : List α} {x : α} (h : pj ++ (x :: r) <+: all) : pj ++ [x] <+: all := by
 refine List.IsPrefix.trans ?_ h
 rw [show pj ++ x :: r = (pj ++ [x]) ++ r by simp]
 exact List.prefix_append _ _
def DownS (P : Program) (s : Sto) (q : Ky) (l c1 c2 c3 c4 : Nat) (all : List It) (J Jx : List It → Mem → Lc → Prop) (M0 : Mem) (lev : Nat) : Prop :=
 ∀ (k : Nat) (xs : List It) (pre : List It) (M : Mem) (L : Lc), k < 256 → wCa s k = some ((lev : Int), xs) → wCx s lev xs → MLe M0 M → CF M s q l c1 c2 c3 c4 → J pre M L → pre ++ wDj s q lev xs <+: all →
  SpecL P 83 #[.int .i64 k, .pointer (some ⟨c1, 0, none⟩), .pointer (some ⟨c2, 0, none⟩), .pointer (some ⟨c3, 0, none⟩), .pointer (some ⟨c4, 0, none⟩)] M L fun v M' L' => (v = .bool true ∧ J (pre ++ wDj s q lev xs) M' L') ∨ (v = .bool false ∧ ∃ pre', pre' <+: all ∧ Jx pre' M' L')
set_option maxHeartbeats 2000000 in
theorem down_leaf (s : Sto) (hst : wCp s) (q : Ky) (lid c1 c2 c3 c4 : Nat) (all : List It) (J Jx : List It → Mem → Lc → Prop) (M0 : Mem) (hmono : ∀ pre M2 M3 L2, MLe M2 M3 → J pre M2 L2 → J pre M3 L2) (hJ : ∀ pre y M2 L2 vs, MLe M0 M2 → J pre M2 L2 → pre ++ [y] <+: all → KEn y M2 vs → RoundL Tryz.prog lid vs.toArray M2 L2 fun v M' L' => (v = .bool true ∧ J (pre ++ [y]) M' L') ∨ (v = .bool false ∧ Jx (pre ++ [y]) M' L')) (k : Nat) (xs pre : List It) (M : Mem) (L0 : Lc) (hk256 : k < 256) (hnd : wCa s k = some (0, xs)) (htr : wCx s (0) xs) (hM0 : MLe M0 M) (hcf : CF M s q lid c1 c2 c3 c4) (hJ0 : J pre M L0) (hpre : pre ++ wDj s q (0) xs <+: all) :
  SpecL Tryz.prog 83 #[.int .i64 k, .pointer (some ⟨c1, 0, none⟩), .pointer (some ⟨c2, 0, none⟩), .pointer (some ⟨c3, 0, none⟩), .pointer (some ⟨c4, 0, none⟩)] M L0 fun v M' L' => (v = .bool true ∧ J (pre ++ wDj s q (0) xs) M' L') ∨ (v = .bool false ∧ ∃ pre', pre' <+: all ∧ Jx pre' M' L') := by
 have hno := wCe hnd
 have hlv := hno.lev
 have hlen := hno.len
 refine wAf (vs := [_, _, _, _, _]) 68 _ Tryz.func83 rfl Tryz.ntmps83 rfl rfl ?_; intro W
 refine wAb (wAa (jp rfl (wAc (jT (wAb (wAa ?_))))))
 obtain ⟨bp, hbp1, hbp⟩ := hcf.bn
 refine wAi rfl rfl (qLd rfl rfl rfl rfl (CM.cj ⟨_, _, _, hbp1, rfl⟩ _)) ?_
 refine jp rfl (wAw rfl rfl (wAn rfl rfl rfl rfl rfl (by kernel_rfl) (wHo s k _ M hst hk256 hbp)) ?_); rintro _ Mn _ ⟨hMn, _, rfl, ⟨hbn, rfl⟩⟩
 obtain ⟨sl, rfl, hns⟩ := (by unfold BnPost at hbn; rw [hnd] at hbn; exact hbn : ∃ sl, _ ∧ NS Mn sl xs)
 obtain ⟨a, c, ps, rfl, hc, hs, hp, hb⟩ := hns
 simp only [nA]
 refine jp rfl (jp rfl (jp rfl (sAl rfl fun b7 => ?_)))
 refine sSt rfl ?_
 refine jp rfl (wAc (jT (wAb (wAb (wAa (sFL rfl rfl ?_))))))
 refine wAi rfl rfl (wBq rfl rfl rfl) ?_
 refine jp rfl (wAc (jT (wAh ?_)))
 refine wAr (α := Nat × Mem × Lc × List It) (fun x => [(1, .pointer (some ⟨c1, 0, none⟩)), (2, .pointer (some ⟨c2, 0, none⟩)), (3, .pointer (some ⟨c3, 0, none⟩)), (4, .pointer (some ⟨c4, 0, none⟩)), (7, .pointer (some ⟨b7, 0, none⟩)), (19, .slice a xs.length c), (20, .int .i64 xs.length), (21, .int .i64 x.1)]) (fun x => x.2.1) (fun x => (b7, .cells [.int .i64 0, .slice a xs.length c].toArray 132 (0, 0)) :: x.2.2.1) (fun x => x.1 ≤ xs.length ∧ MLe Mn x.2.1 ∧ J x.2.2.2 x.2.1 x.2.2.1 ∧ x.2.2.2 ++ (xs.drop x.1).filter (fun x => !wBy x.key q) = pre ++ wDj s q 0 xs) (fun x => xs.length - x.1)
  (0, Mn, L0, pre) (.cons (t := 1) rfl (.cons (t := 2) rfl (.cons (t := 3) rfl (.cons (t := 4) rfl (.cons (t := 7) rfl (.cons (t := 19) rfl (.cons (t := 20) rfl (.cons (t := 21) rfl .nil)))))))) ⟨Nat.zero_le _, MLe.refl _, hmono _ _ _ _ hMn hJ0, rfl⟩ (fun _ h => h) ?_
 rintro ⟨j, Mk, Lk, pj⟩ ⟨hj, hMk, hJk, hpj⟩
 try dsimp only at hj hMk hJk hpj ⊢
 refine wAb (wAa (js rfl (fun h22 => ?_) (fun h22 => ?_)))
 ·refine wAc (jT (wAb (wAg rfl (wAd (jT (wAb (wAh (wAb (wAa (jp rfl ?_))))))))))
  have hk1 : j < xs.length := by omega
  have hsk := hs.mono hMk
  have hbk := fun p hp => (hb p hp).mono hMk
  obtain ⟨sb, so, e0, hx⟩ := hsk.open (by intro e; have := congrArg List.length e; rw [wAy wBc 5 wBe, List.length_nil] at this; have h2 := congrArg List.length hp; rw [List.length_map] at h2; omega)
  subst e0
  obtain ⟨va, vc, hcl, hvc, hvs⟩ := wBr hx hp hbk hk1
  have hxr := hno.ref xs[j] (List.getElem_mem hk1)
  have hcek := hcf.mono (hMn.trans hMk)
  refine wAi rfl rfl (wBa rfl rfl rfl rfl (by omega)) ?_
  refine wAi rfl rfl (wEy (cs := itc xs[j] va vc) rfl rfl rfl rfl rfl (fun i v hv => (hcl i v hv).cj _)) ?_
  refine sAl rfl fun b10 => ?_
  refine jp rfl (sSt rfl ?_)
  refine wAc (jT (wAb (wAb (wAa (sFL rfl rfl ?_)))))
  refine jt rfl (decide_eq_true (by omega)) ?_
  refine wAc (jT (wAg rfl (wAb (wAb (wAa (sFa rfl ?_))))))
  refine sLL rfl ?_
  refine wAi rfl rfl (wEy (cs := wBu q) rfl rfl rfl rfl rfl (fun i v hv => CM.cj ⟨_, _, _, hcek.fr, by simpa using hv⟩ _)) ?_
  refine wDp rfl rfl (wBf rfl rfl rfl rfl rfl (by kernel_rfl) (wDf xs[j].key q _)) (fun h32 => ?_) (fun h32 => ?_)
  ·iterate 7 refine jp rfl ?_
   refine wAc (jT (wAj rfl (wAd (jT (wAs (jTx (jBx (jT (wAa (ja rfl (by omega) ?_))))))))))
   refine jp rfl (wAc ?_)
   refine wAp (j + 1, Mk, Lk, pj) (.cons (t := 1) rfl (.cons (t := 2) rfl (.cons (t := 3) rfl (.cons (t := 4) rfl (.cons (t := 7) rfl (.cons (t := 19) rfl (.cons (t := 20) rfl (.cons (t := 21) rfl .nil)))))))) ⟨by show j + 1 ≤ xs.length; omega, hMk, hJk, ?_⟩ (by show xs.length - (j + 1) < xs.length - j; omega) (fun w h => h.fewer (by simp))
   show _ ++ (xs.drop (j + 1)).filter (fun x => !wBy x.key q) = _
   rw [← hpj, List.drop_eq_getElem_cons hk1, List.filter_cons_of_neg (by simp [h32])]
  ·refine jp rfl (jp rfl (wAi rfl rfl (qLd rfl rfl rfl rfl (CM.cj ⟨_, _, _, hcek.yi, rfl⟩ _)) ?_))
   refine sLL rfl ?_
   refine wAw rfl rfl (hYield rfl rfl rfl rfl (hJ pj xs[j] Mk Lk _ (hM0.trans (hMn.trans hMk)) hJk (by rw [List.drop_eq_getElem_cons hk1, List.filter_cons_of_pos (by simp [h32])] at hpj; rw [← hpj] at hpre; exact prefix_of hpre) ⟨va, vc, rfl, hvc, hvs⟩)) ?_; rintro _ Mf _ ⟨hMf, R', rfl, hy⟩
   rcases hy with ⟨rfl, hy⟩ | ⟨rfl, hy⟩
   ·refine jp rfl (jp rfl (wAc (jT (wAj rfl (wAd (jT (wAs (jTx (jBx (jT (wAa (ja rfl (by omega) ?_))))))))))))
    refine jp rfl (wAc ?_)
    refine wAp (j + 1, Mf, R', pj ++ [xs[j]]) (.cons (t := 1) rfl (.cons (t := 2) rfl (.cons (t := 3) rfl (.cons (t := 4) rfl (.cons (t := 7) rfl (.cons (t := 19) rfl (.cons (t := 20) rfl (.cons (t := 21) rfl .nil)))))))) ⟨by show j + 1 ≤ xs.length; omega, hMk.trans hMf, hy, ?_⟩ (by show xs.length - (j + 1) < xs.length - j; omega) (fun w h => (h.perm List.perm_append_comm).fewer (by simp))
    show _ ++ (xs.drop (j + 1)).filter (fun x => !wBy x.key q) = _
    rw [← hpj, List.drop_eq_getElem_cons hk1, List.filter_cons_of_pos (by simp [h32])]; simp
   ·refine jp rfl (jp rfl (wAc (jT (wAg rfl (wAb (wAa (jp rfl (wAc (jT (wAe (jTr (jTr (jBr (jTr (jTr (jBr (jTr (wAv (L' := R') (by simp) ?_))))))))))))))))))
    refine jr1 rfl rfl ?_
    rw [List.drop_eq_getElem_cons hk1, List.filter_cons_of_pos (by simp [h32])] at hpj
    exact .inr ⟨rfl, _, by rw [← hpj] at hpre; exact prefix_of hpre, hy⟩
 ·refine wAc (jT (wAb (wAj rfl (wAs (jTx (jTx (jBx (jT (wAb (wAa (jp rfl (wAc (jT (wAe (wAv (L' := Lk) (by simp) ?_)))))))))))))))
  refine jr1 rfl rfl ?_
  obtain rfl : j = xs.length := by omega
  rw [List.drop_eq_nil_of_le (Nat.le_refl _), List.filter_nil, List.append_nil] at hpj
  exact .inl ⟨rfl, hpj ▸ hJk⟩
set_option maxHeartbeats 2000000 in
theorem down_node (s : Sto) (hst : wCp s) (q : Ky) (lid c1 c2 c3 c4 : Nat) (all : List It) (J Jx : List It → Mem → Lc → Prop) (M0 : Mem) (hmono : ∀ pre M2 M3 L2, MLe M2 M3 → J pre M2 L2 → J pre M3 L2) (hJ : ∀ pre y M2 L2 vs, MLe M0 M2 → J pre M2 L2 → pre ++ [y] <+: all → KEn y M2 vs → RoundL Tryz.prog lid vs.toArray M2 L2 fun v M' L' => (v = .bool true ∧ J (pre ++ [y]) M' L') ∨ (v = .bool false ∧ Jx (pre ++ [y]) M' L')) (l : Nat) (lv : Int) (hl1 : lv = (l : Int) + 1) (ih : DownS Tryz.prog s q lid c1 c2 c3 c4 all J Jx M0 l) (k : Nat) (xs pre : List It) (M : Mem) (L0 : Lc) (hk256 : k < 256) (hnd : wCa s k = some (lv, xs)) (htr : wCx s ((l + 1)) xs) (hM0 : MLe M0 M) (hcf : CF M s q lid c1 c2 c3 c4) (hJ0 : J pre M L0) (hpre : pre ++ wDj s q ((l + 1)) xs <+: all) :
  SpecL Tryz.prog 83 #[.int .i64 k, .pointer (some ⟨c1, 0, none⟩), .pointer (some ⟨c2, 0, none⟩), .pointer (some ⟨c3, 0, none⟩), .pointer (some ⟨c4, 0, none⟩)] M L0 fun v M' L' => (v = .bool true ∧ J (pre ++ wDj s q ((l + 1)) xs) M' L') ∨ (v = .bool false ∧ ∃ pre', pre' <+: all ∧ Jx pre' M' L') := by
 have hno := wCe hnd
 have hlv := hno.lev
 have hlen := hno.len
 refine wAf (vs := [_, _, _, _, _]) 68 _ Tryz.func83 rfl Tryz.ntmps83 rfl rfl ?_; intro W
 refine wAb (wAa (jp rfl (wAc (jT (wAb (wAa ?_))))))
 obtain ⟨bp, hbp1, hbp⟩ := hcf.bn
 refine wAi rfl rfl (qLd rfl rfl rfl rfl (CM.cj ⟨_, _, _, hbp1, rfl⟩ _)) ?_
 refine jp rfl (wAw rfl rfl (wAn rfl rfl rfl rfl rfl (by kernel_rfl) (wHo s k _ M hst hk256 hbp)) ?_); rintro _ Mn _ ⟨hMn, _, rfl, ⟨hbn, rfl⟩⟩
 obtain ⟨sl, rfl, hns⟩ := (by unfold BnPost at hbn; rw [hnd] at hbn; exact hbn : ∃ sl, _ ∧ NS Mn sl xs)
 obtain ⟨a, c, ps, rfl, hc, hs, hp, hb⟩ := hns
 simp only [nA]
 refine jp rfl (jp rfl (jp rfl (sAl rfl fun b7 => ?_)))
 refine sSt rfl ?_
 refine jp rfl (wAc (jT (wAb (wAb (wAa (sFL rfl rfl ?_))))))
 refine wAi rfl rfl (wBq rfl rfl rfl) ?_
 refine jp rfl (wAc (jT (wAh ?_)))
 refine wAr (α := Nat × Mem × Lc × List It) (fun x => [(1, .pointer (some ⟨c1, 0, none⟩)), (2, .pointer (some ⟨c2, 0, none⟩)), (3, .pointer (some ⟨c3, 0, none⟩)), (4, .pointer (some ⟨c4, 0, none⟩)), (7, .pointer (some ⟨b7, 0, none⟩)), (19, .slice a xs.length c), (20, .int .i64 xs.length), (21, .int .i64 x.1)]) (fun x => x.2.1) (fun x => (b7, .cells [.int .i64 lv, .slice a xs.length c].toArray 132 (0, 0)) :: x.2.2.1) (fun x => x.1 ≤ xs.length ∧ MLe Mn x.2.1 ∧ J x.2.2.2 x.2.1 x.2.2.1 ∧ x.2.2.2 ++ wDi (fun x => wDj s q l (kid s x)) q (xs.drop x.1) = pre ++ wDj s q (l + 1) xs) (fun x => xs.length - x.1)
  (0, Mn, L0, pre) (.cons (t := 1) rfl (.cons (t := 2) rfl (.cons (t := 3) rfl (.cons (t := 4) rfl (.cons (t := 7) rfl (.cons (t := 19) rfl (.cons (t := 20) rfl (.cons (t := 21) rfl .nil)))))))) ⟨Nat.zero_le _, MLe.refl _, hmono _ _ _ _ hMn hJ0, rfl⟩ (fun _ h => h) ?_
 rintro ⟨j, Mk, Lk, pj⟩ ⟨hj, hMk, hJk, hpj⟩
 try dsimp only at hj hMk hJk hpj ⊢
 refine wAb (wAa (js rfl (fun h22 => ?_) (fun h22 => ?_)))
 ·refine wAc (jT (wAb (wAg rfl (wAd (jT (wAb (wAh (wAb (wAa (jp rfl ?_))))))))))
  have hk1 : j < xs.length := by omega
  have hsk := hs.mono hMk
  have hbk := fun p hp => (hb p hp).mono hMk
  obtain ⟨sb, so, e0, hx⟩ := hsk.open (by intro e; have := congrArg List.length e; rw [wAy wBc 5 wBe, List.length_nil] at this; have h2 := congrArg List.length hp; rw [List.length_map] at h2; omega)
  subst e0
  obtain ⟨va, vc, hcl, hvc, hvs⟩ := wBr hx hp hbk hk1
  have hxr := hno.ref xs[j] (List.getElem_mem hk1)
  have hcek := hcf.mono (hMn.trans hMk)
  refine wAi rfl rfl (wBa rfl rfl rfl rfl (by omega)) ?_
  refine wAi rfl rfl (wEy (cs := itc xs[j] va vc) rfl rfl rfl rfl rfl (fun i v hv => (hcl i v hv).cj _)) ?_
  refine sAl rfl fun b10 => ?_
  refine jp rfl (sSt rfl ?_)
  refine wAc (jT (wAb (wAb (wAa (sFL rfl rfl ?_)))))
  refine jf rfl (decide_eq_false (by omega)) ?_
  refine wAc (jT (wAj rfl (wAd (jT (wAb (wBn [(0, true), (1, true), (2, true), (3, true), (4, true), (5, true), (6, true), (7, true), (8, true), (9, true), (10, true), (11, true), (12, true), (13, true), (14, true), (15, true), (16, true), (17, true), (18, true)] _ (by kernel_rfl) (by kernel_rfl) (by kernel_rfl) rfl (fun _ h => h) ?_))))))
  refine dp rfl rfl ?_
  refine da rfl rfl (by omega) ?_
  refine dFa rfl rfl ?_
  refine dLd rfl rfl ?_
  refine wBi rfl rfl rfl (wBq rfl rfl rfl) ?_
  refine ds rfl rfl (fun h45 => ?_) (fun h45 => ?_)
  ·refine dp rfl rfl ?_
   refine wBi rfl rfl rfl (wEy (cs := wBu q) rfl rfl rfl rfl rfl (fun i v hv => CM.cj ⟨_, _, _, hcek.fr, by simpa using hv⟩ _)) ?_
   refine dFa rfl rfl ?_
   refine dLd rfl rfl ?_
   refine dp rfl rfl ?_
   refine da rfl rfl (by omega) ?_
   have hj1 : j + 1 < xs.length := by omega
   obtain ⟨wa, wc, hcj, -, -⟩ := wBr hx hp hbk hj1
   refine wBi rfl rfl rfl (qEq (wBa rfl rfl rfl rfl (by omega)) (v' := .pointer (some ⟨sb, so + (j + 1) * 5, none⟩)) (by congr 3)) ?_
   refine dFa rfl rfl ?_
   refine wBi rfl rfl rfl (wEy (cs := wBu xs[j + 1].key) rfl rfl rfl rfl rfl (fun i v hv => (hcj i v (by match i, hv with | 0, hv => simpa [wBu] using hv | 1, hv => simpa [wBu] using hv | 2, hv => simpa [wBu] using hv | n + 3, hv => simp [wBu] at hv)).cj _)) ?_
   refine jd_qb rfl rfl rfl (wBf rfl rfl rfl rfl rfl (by kernel_rfl) (wDf q xs[j + 1].key _)) (fun h55 => ?_) (fun h55 => ?_)
   ·iterate 3 refine dp rfl rfl ?_
    refine wBg (jPn (jT (wAb (wAa (jp rfl (jp rfl (jp rfl (wAi rfl rfl (qLd rfl rfl rfl rfl (CM.cj ⟨_, _, _, hcek.cl, rfl⟩ _)) ?_))))))))
    refine sFL rfl rfl ?_
    have hup := hno.up (by omega) xs[j] (List.getElem_mem hk1)
    have hkr : ((xs[j].ref.toNat : Nat) : Int) = xs[j].ref := Int.toNat_of_nonneg (by omega)
    obtain ⟨ys, hyn, hys0, hyt⟩ := wGv htr (List.getElem_mem hk1)
    have hkid : kid s xs[j] = ys := by unfold kid; rw [hyn]
    have hgd : wDi (fun x => wDj s q l (kid s x)) q (xs.drop j) = wDj s q l ys ++ wDi (fun x => wDj s q l (kid s x)) q (xs.drop (j + 1)) := (goDown_on hj1 h55).trans (by rw [hkid])
    rw [hgd] at hpj
    refine wAw rfl rfl (wAn rfl rfl rfl rfl rfl (by kernel_rfl) (by have := ih xs[j].ref.toNat ys pj Mk Lk (by omega) hyn hyt (hM0.trans (hMn.trans hMk)) hcek hJk (by rw [← hpj, ← List.append_assoc] at hpre; exact (List.prefix_append _ _).trans hpre); rwa [hkr] at this)) ?_; rintro _ Mf _ ⟨hMf, R', rfl, hy⟩
    rcases hy with ⟨rfl, hy⟩ | ⟨rfl, hy⟩
    ·refine jp rfl (jp rfl (wAc (jT (wAj rfl (wAd (jB (jT (wAa (ja rfl (by omega) ?_)))))))))
     refine jp rfl (wAc ?_)
     refine wAp (j + 1, Mf, R', pj ++ wDj s q l ys) (.cons (t := 1) rfl (.cons (t := 2) rfl (.cons (t := 3) rfl (.cons (t := 4) rfl (.cons (t := 7) rfl (.cons (t := 19) rfl (.cons (t := 20) rfl (.cons (t := 21) rfl .nil)))))))) ⟨by show j + 1 ≤ xs.length; omega, hMk.trans hMf, hy, ?_⟩ (by show xs.length - (j + 1) < xs.length - j; omega) (fun w h => (h.perm List.perm_append_comm).fewer (by simp))
     show _ ++ wDi (fun x => wDj s q l (kid s x)) q (xs.drop (j + 1)) = _
     rw [← hpj, List.append_assoc]
    ·refine jp rfl (jp rfl (wAc (jT (wAg rfl (wAb (wAa (jp rfl (wAc (jT (wAe (jBr (jTr (jTr (jBr (jTr (wAv (L' := R') (by simp) ?_))))))))))))))))
     refine jr1 rfl rfl ?_
     exact .inr ⟨rfl, hy⟩
   ·iterate 3 refine dp rfl rfl ?_
    refine wBg (jPn (jT (wAb (wAa ?_))))
    iterate 9 refine jp rfl ?_
    refine wAc (jT (wAj rfl (wAd (jB (jT (wAa (ja rfl (by omega) ?_)))))))
    refine jp rfl (wAc ?_)
    refine wAp (j + 1, Mk, Lk, pj) (.cons (t := 1) rfl (.cons (t := 2) rfl (.cons (t := 3) rfl (.cons (t := 4) rfl (.cons (t := 7) rfl (.cons (t := 19) rfl (.cons (t := 20) rfl (.cons (t := 21) rfl .nil)))))))) ⟨by show j + 1 ≤ xs.length; omega, hMk, hJk, ?_⟩ (by show xs.length - (j + 1) < xs.length - j; omega) (fun w h => h.fewer (by simp))
    show _ ++ wDi (fun x => wDj s q l (kid s x)) q (xs.drop (j + 1)) = _
    rw [← hpj, goDown_off hj1 h55]
  ·iterate 13 refine dp rfl rfl ?_
   refine wBg (jPn (jT (wAb (wAa (jp rfl (jp rfl (jp rfl (wAi rfl rfl (qLd rfl rfl rfl rfl (CM.cj ⟨_, _, _, hcek.cl, rfl⟩ _)) ?_))))))))
   refine sFL rfl rfl ?_
   have hup := hno.up (by omega) xs[j] (List.getElem_mem hk1)
   have hkr : ((xs[j].ref.toNat : Nat) : Int) = xs[j].ref := Int.toNat_of_nonneg (by omega)
   obtain ⟨ys, hyn, hys0, hyt⟩ := wGv htr (List.getElem_mem hk1)
   have hkid : kid s xs[j] = ys := by unfold kid; rw [hyn]
   have hgd : wDi (fun x => wDj s q l (kid s x)) q (xs.drop j) = wDj s q l ys ++ wDi (fun x => wDj s q l (kid s x)) q (xs.drop (j + 1)) := (goDown_last hk1 (by omega)).trans (by rw [hkid])
   rw [hgd] at hpj
   refine wAw rfl rfl (wAn rfl rfl rfl rfl rfl (by kernel_rfl) (by have := ih xs[j].ref.toNat ys pj Mk Lk (by omega) hyn hyt (hM0.trans (hMn.trans hMk)) hcek hJk (by rw [← hpj, ← List.append_assoc] at hpre; exact (List.prefix_append _ _).trans hpre); rwa [hkr] at this)) ?_; rintro _ Mf _ ⟨hMf, R', rfl, hy⟩
   rcases hy with ⟨rfl, hy⟩ | ⟨rfl, hy⟩
   ·refine jp rfl (jp rfl (wAc (jT (wAj rfl (wAd (jB (jT (wAa (ja rfl (by omega) ?_)))))))))
    refine jp rfl (wAc ?_)
    refine wAp (j + 1, Mf, R', pj ++ wDj s q l ys) (.cons (t := 1) rfl (.cons (t := 2) rfl (.cons (t := 3) rfl (.cons (t := 4) rfl (.cons (t := 7) rfl (.cons (t := 19) rfl (.cons (t := 20) rfl (.cons (t := 21) rfl .nil)))))))) ⟨by show j + 1 ≤ xs.length; omega, hMk.trans hMf, hy, ?_⟩ (by show xs.length - (j + 1) < xs.length - j; omega) (fun w h => (h.perm List.perm_append_comm).fewer (by simp))
    show _ ++ wDi (fun x => wDj s q l (kid s x)) q (xs.drop (j + 1)) = _
    rw [← hpj, List.append_assoc]
   ·refine jp rfl (jp rfl (wAc (jT (wAg rfl (wAb (wAa (jp rfl (wAc (jT (wAe (jBr (jTr (jTr (jBr (jTr (wAv (L' := R') (by simp) ?_))))))))))))))))
    refine jr1 rfl rfl ?_
    exact .inr ⟨rfl, hy⟩
 ·refine wAc (jT (wAb (wAj rfl (wAs (jTx (jTx (jBx (jT (wAb (wAa (jp rfl (wAc (jT (wAe (wAv (L' := Lk) (by simp) ?_)))))))))))))))
  refine jr1 rfl rfl ?_
  obtain rfl : j = xs.length := by omega
  rw [List.drop_eq_nil_of_le (Nat.le_refl _), wDi, List.append_nil] at hpj
  exact .inl ⟨rfl, hpj ▸ hJk⟩
theorem down_spec (s : Sto) (hst : wCp s) (q : Ky) (lid c1 c2 c3 c4 : Nat) (all : List It) (J Jx : List It → Mem → Lc → Prop) (M0 : Mem) (hmono : ∀ pre M2 M3 L2, MLe M2 M3 → J pre M2 L2 → J pre M3 L2) (hJ : ∀ pre y M2 L2 vs, MLe M0 M2 → J pre M2 L2 → pre ++ [y] <+: all → KEn y M2 vs → RoundL Tryz.prog lid vs.toArray M2 L2 fun v M' L' => (v = .bool true ∧ J (pre ++ [y]) M' L') ∨ (v = .bool false ∧ Jx (pre ++ [y]) M' L')) : ∀ lev, DownS Tryz.prog s q lid c1 c2 c3 c4 all J Jx M0 lev
 | 0 => fun k xs pre M L hk hnd htr hM0 hcf hJ0 hpre => down_leaf s hst q lid c1 c2 c3 c4 all J Jx M0 hmono hJ k xs pre M L hk hnd htr hM0 hcf hJ0 hpre
 | l + 1 => fun k xs pre M L hk hnd htr hM0 hcf hJ0 hpre => down_node s hst q lid c1 c2 c3 c4 all J Jx M0 hmono hJ l ((l + 1 : Nat) : Int) (by omega) (down_spec s hst q lid c1 c2 c3 c4 all J Jx M0 hmono hJ l) k xs pre M L hk hnd htr hM0 hcf hJ0 hpre
theorem items_body (s : Sto) (hst : wCp s) (q : Ky) (k lev : Nat) (xs : List It) (hk256 : k < 256) (hnd : wCa s k = some ((lev : Int), xs)) (htr : wCx s lev xs) (d1 d2 d3 : Nat) (v1 : Value) (M : Mem) (bv wv nv lv : Value) (hd1 : M d1 = some (.cells [bv, wv, nv, lv].toArray 28 (0, 0))) (hST : ST M (.agg [bv, wv, nv, lv].toArray) s) (hd2 : M d2 = some (.cells (wBu q).toArray 65 (0, 0))) (hd3 : M d3 = some (.cells [.int .i64 (k : Int)].toArray 3 (0, 0))) (lid : Nat) (J Jx : List It → Mem → Lc → Prop) (M1 : Mem) (L0 : Lc) (hM : MLe M M1) (hmono : ∀ pre M2 M3 L2, MLe M2 M3 → J pre M2 L2 → J pre M3 L2) (hJ : ∀ pre y M2 L2 vs, MLe M1 M2 → J pre M2 L2 → pre ++ [y] <+: wDj s q lev xs → KEn y M2 vs → RoundL Tryz.prog lid vs.toArray M2 L2 fun v M' L' => (v = .bool true ∧ J (pre ++ [y]) M' L') ∨ (v = .bool false ∧ Jx (pre ++ [y]) M' L')) (h0 : J [] M1 L0) :
  SpecL Tryz.prog 82 #[.func (.yield lid) #[] #[], .pointer (some ⟨d1, 0, none⟩), .pointer (some ⟨d2, 0, none⟩), .pointer (some ⟨d3, 0, none⟩)] M1 L0 fun _ M' L' => J (wDj s q lev xs) M' L' ∨ ∃ pre, pre <+: wDj s q lev xs ∧ Jx pre M' L' := by
 refine wAf (vs := [_, _, _, _]) 13 _ Tryz.func82 rfl Tryz.ntmps82 rfl rfl ?_; intro W
 refine wAb (wAa (wAw rfl rfl (wCb (cs := [.func (.yield lid) #[] #[]]) rfl rfl rfl rfl) ?_)); rintro _ _ _ ⟨b4, rfl, rfl, rfl⟩
 refine wAc (jT (wAb (wAa ?_)))
 obtain ⟨⟨_, hw4, _, _⟩, ⟨hn256, _⟩, _⟩ := id hst
 refine wAi rfl rfl (wEy (cs := [bv, wv, nv, lv]) rfl rfl rfl rfl rfl (fun i v hv => CM.cj ⟨_, _, _, hM _ _ hd1, by simpa using hv⟩ _)) ?_
 refine wAw rfl rfl (wAn rfl rfl rfl rfl rfl (by kernel_rfl) (on_spec s _ M1 (hST.mono hM) (by omega) (by omega))) ?_; rintro _ M1n _ ⟨hM1n, _, rfl, ⟨hbn0, rfl⟩⟩
 have hbn1 := hbn0 M1n (MLe.refl _) hM1n
 obtain ⟨pb, _, _, _, _, rfl, _⟩ := id hbn1.ex
 simp only [nA]
 refine sAl rfl fun b5 => ?_
 refine sSt rfl ?_
 refine wAc (jT (wAb (wAa (sAl rfl fun b6 => ?_))))
 refine wAc (jT (wAb (wAa (jp rfl (sSt rfl ?_)))))
 refine wAc (jT (wAa (jl_freezeX b4 (by simp +contextual) ?_)))
 intro M3 hM3 e4
 refine jl_freezeX b5 (by simp +contextual) ?_
 intro M4 hM4 e5
 refine jl_freezeX b6 (by simp +contextual) ?_
 intro M5 hM5 e6
 have hM15 := hM1n.trans (hM3.trans (hM4.trans hM5))
 have hcf : CF M5 s q lid b5 d2 b4 b6 := ⟨⟨pb, hM5 _ _ e5, hbn1.mono (hM3.trans (hM4.trans hM5))⟩, hM15 _ _ (hM _ _ hd2), hM5 _ _ (hM4 _ _ e4), e6⟩
 refine wAi rfl rfl (qLd rfl rfl rfl rfl (CM.cj ⟨_, _, _, e6, rfl⟩ _)) ?_
 refine wAi rfl rfl (qLd rfl rfl rfl rfl (CM.cj ⟨_, _, _, hM15 _ _ (hM _ _ hd3), rfl⟩ _)) ?_
 refine wAw rfl rfl (wAn rfl rfl rfl rfl rfl (by kernel_rfl) (down_spec s hst q lid b5 d2 b4 b6 (wDj s q lev xs) J Jx M1 hmono hJ lev k xs [] M5 L0 hk256 hnd htr hM15 hcf (hmono _ _ _ _ hM15 h0) (by rw [List.nil_append]; exact List.prefix_rfl))) ?_; rintro _ Mf _ ⟨hMf, R', rfl, hy⟩
 refine wAc (jrn ?_)
 refine wAv (L' := R') (by simp) ?_
 refine jrs (rs := []) rfl .nil ?_
 exact hy.imp (fun h => by simpa using h.2) (fun h => h.2)
theorem fchk_ok {s : Sto} {root : Int} (h : (wGo s root).2 = 0) : wCp s ∧ 8 ≤ root ∧ root < 256 ∧ ¬ s.now.getD root.toNat 0 = 0 ∧ ∃ (lev : Nat) (xs : List It), wCa s root.toNat = some ((lev : Int), xs) ∧ wCx s lev xs ∧ (wGo s root).1 = lev + 1 := by
 by_cases h1 : wCp s
 ·by_cases h2 : root < 8 ∨ 256 ≤ root
  ·exfalso; unfold wGo at h; rw [if_pos h1, if_pos h2] at h; cases h
  ·by_cases h3 : s.now.getD root.toNat 0 = 0
   ·exfalso; unfold wGo at h; rw [if_pos h1, if_neg h2, if_pos h3] at h; cases h
   ·rw [wKy h1 h2 h3] at h
    split at h
    ·cases h
    ·rename_i lv xs hnd
     have hlv := (wCe hnd).lev
     split at h
     ·rename_i ht
      refine ⟨h1, by omega, by omega, h3, lv.toNat, xs, by rw [hnd, Int.toNat_of_nonneg hlv.1], ht, ?_⟩
      rw [wKy h1 h2 h3, hnd]
      show (if wCx s lv.toNat xs then (lv + 1, 0) else (0, 8) : Int × Int).1 = _
      rw [if_pos ht, Int.toNat_of_nonneg hlv.1]
     ·cases h
 ·exfalso; unfold wGo at h; rw [if_neg h1] at h; cases h
theorem kid_len (s : Sto) (x : It) : (kid s x).length ≤ 5 := by
 unfold kid
 split
 ·rename_i h; exact (wCe h).len
 ·exact Nat.zero_le _
theorem goDown_len {f : It → List It} {q : Ky} {m : Nat} (h : ∀ x, (f x).length ≤ m) : ∀ xs, (wDi f q xs).length ≤ m * xs.length
 | [] => by simp [wDi]
 | x :: xs => by
  have hx := h x
  obtain ⟨g, e, hg⟩ : ∃ g, wDi f q (x :: xs) = g ++ wDi f q xs ∧ g.length ≤ m := by
   cases xs with
   | nil => exact ⟨f x, rfl, hx⟩
   | cons y ys =>
    refine ⟨if wBy q y.key then f x else [], rfl, ?_⟩
    split
    ·exact hx
    ·exact Nat.zero_le _
  have ih := goDown_len h xs (q := q)
  rw [e, List.length_append, List.length_cons, Nat.mul_add, Nat.mul_one]
  omega
theorem downL_len (s : Sto) (q : Ky) : ∀ (l : Nat) (xs : List It), (wDj s q l xs).length ≤ 5 ^ l * xs.length
 | 0, xs => by rw [wDj, Nat.pow_zero, Nat.one_mul]; exact List.length_filter_le _ _
 | l + 1, xs => by
  rw [wDj, Nat.pow_succ]
  refine goDown_len (fun x => Nat.le_trans (downL_len s q l _) (Nat.mul_le_mul_left _ (kid_len s x))) xs
theorem downL_small {s : Sto} {q : Ky} {l : Nat} {xs : List It} (hl : l < 6) (hx : xs.length ≤ 5) : (wDj s q l xs).length ≤ 15625 := by
 refine Nat.le_trans (downL_len s q l xs) ?_
 have : 5 ^ l ≤ 5 ^ 5 := Nat.pow_le_pow_right (by omega) (by omega)
 exact Nat.le_trans (Nat.mul_le_mul this hx) (by decide)
theorem items_walk (bv wv nv lv : Value) (q : Ky) (root : Int) (M : Mem) :
  SpecL Tryz.prog 50 #[.agg #[bv, wv, nv, lv], .int .i64 root, .agg (wBu q).toArray] M [] fun u M' L' => (∃ d1 d2 d3, u = .func (.func 82) #[] #[.pointer (some ⟨d1, 0, none⟩), .pointer (some ⟨d2, 0, none⟩), .pointer (some ⟨d3, 0, none⟩)] ∧ M' d1 = some (.cells [bv, wv, nv, lv].toArray 28 (0, 0)) ∧ M' d2 = some (.cells (wBu q).toArray 65 (0, 0)) ∧ M' d3 = some (.cells [.int .i64 root].toArray 3 (0, 0))) ∧ L' = [] := by
 refine wAf (vs := [_, _, _]) 8 _ Tryz.func50 rfl Tryz.ntmps50 rfl rfl ?_; intro W
 refine wAb (wAa (wAw rfl rfl (wCb (cs := [_, _, _, _]) rfl rfl rfl rfl) ?_)); rintro _ _ _ ⟨b3, rfl, rfl, rfl⟩
 refine wAw rfl rfl (wCb (cs := [.int .i64 root]) rfl rfl rfl rfl) ?_; rintro _ _ _ ⟨b4, rfl, rfl, rfl⟩
 refine wAw rfl rfl (wCb (cs := [_, _, _]) rfl rfl rfl rfl) ?_; rintro _ _ _ ⟨b5, rfl, rfl, rfl⟩
 refine jp rfl (wAc (jT (wAb (wAa (jp rfl (jp rfl (wAc (jT (wAe (wBv b3 (by simp) ?_))))))))))
 intro M2 hM2 e3
 refine wBv b4 (by simp) ?_
 intro M3 hM3 e4
 refine wBv b5 (by simp) ?_
 intro M4 hM4 e5
 refine jr1 rfl rfl ?_
 exact ⟨⟨b3, b5, b4, rfl, hM4 _ _ (hM3 _ _ e3), e5, hM4 _ _ e4⟩, rfl⟩
def rng (s : Sto) (root : Int) (a b : Ky) : List It := match wCa s root.toNat with
 | some (lv, xs) => (wDj s a lv.toNat xs).takeWhile fun x => !wBy b x.key
 | none => []
theorem take_all {α : Type} {p : α → Bool} {xs : List α} (h : ∀ x ∈ xs, p x = true) : xs.takeWhile p = xs := by
 induction xs with
 | nil => rfl
 | cons x xs ih => rw [List.takeWhile_cons_of_pos (h x (by simp)), ih (fun y hy => h y (by simp [hy]))]
theorem take_stop {α : Type} {p : α → Bool} {pre r : List α} {y : α} (h : ∀ x ∈ pre, p x = true) (hy : p y = false) : (pre ++ y :: r).takeWhile p = pre := by
 induction pre with
 | nil => rw [List.nil_append, List.takeWhile_cons_of_neg (by simp [hy])]
 | cons x xs ih => rw [List.cons_append, List.takeWhile_cons_of_pos (h x (by simp)), ih (fun y hy => h y (by simp [hy]))]
abbrev ITS : TypeId := 59
def RI (b8 : Nat) (to : Ky) (pre : List It) (M' : Mem) (R : Lc) : Prop := ∃ v Rs, ∃ ps : List (It × Value), R = (b8, .cells [v].toArray ITS (0, 0)) :: Rs ∧ Own v Rs IT 5 ps.length (ps.flatMap wBc) ∧ ps.map (·.1) = pre ∧ (∀ p ∈ ps, BS M' p.2 p.1.val) ∧ ∀ x ∈ pre, (!wBy to x.key) = true
set_option maxHeartbeats 2000000 in
theorem range_walk (s : Sto) (root : Int) (a b : Ky) (bv wv nv lv : Value) (M : Mem) (h1 : LS M bv s.blocks) (h2 : WS M wv s.waits) (h3 : BS M nv s.now) (h4 : BS M lv s.last) :
  SpecL Tryz.prog 25 #[.agg #[bv, wv, nv, lv], .int .i64 root, .agg (wBu a).toArray, .agg (wBu b).toArray] M [] fun u M' L' => (∃ v, u = .tuple #[v, .int .i64 (wGo s root).2] ∧ NS M' v (if (wGo s root).2 = 0 then rng s root a b else [])) ∧ L' = [] := by
 have hST : ST M (.agg #[bv, wv, nv, lv]) s := ⟨_, _, _, _, rfl, h1, h2, h3, h4⟩
 refine wAf (vs := [_, _, _, _]) 36 _ Tryz.func25 rfl Tryz.ntmps25 rfl rfl ?_; intro W
 refine wAb (wAa (wAw rfl rfl (wCb (cs := [_, _, _, _]) rfl rfl rfl rfl) ?_)); rintro _ _ _ ⟨b4, rfl, rfl, rfl⟩
 refine wAw rfl rfl (wCb (cs := [_, _, _]) rfl rfl rfl rfl) ?_; rintro _ _ _ ⟨b6, rfl, rfl, rfl⟩
 refine wAw rfl rfl (wCb (cs := [_, _, _]) rfl rfl rfl rfl) ?_; rintro _ _ _ ⟨b7, rfl, rfl, rfl⟩
 refine sAl rfl fun b8 => ?_
 refine jp rfl (wAc (jT (wAb (wAb (wAa (sLL rfl ?_))))))
 refine jp rfl (wAi rfl rfl (wBf rfl rfl rfl rfl rfl (by kernel_rfl) (fcheck_walk s root bv wv nv lv M h1 h2 h3 h4)) ?_)
 refine jp rfl (jp rfl (jp rfl (jp rfl (jp rfl (wAc (jT (wAb (wAa (jp rfl (js rfl (fun h20 => ?_) (fun h20 => ?_)))))))))))
 ·refine wAc (jT (wAg rfl (wAb (wAa (jp rfl (sSt rfl ?_))))))
  refine jp rfl (wAc (jT (wAe (jTr (wCd (rs := [_, _]) ([]) (by simp) rfl (.cons (.one rfl rfl rfl) (.cons (.tmp rfl) .nil)) ?_)))))
  exact ⟨⟨_, rfl, by rw [if_neg h20]; exact NS.nil⟩, rfl⟩
 ·refine wAc (jT (wAj rfl (wAd (jT (wAb (wAb (wAa (sLL rfl ?_))))))))
  refine jp rfl (sLL rfl ?_)
  obtain ⟨hst, hr8, hr256, hnz, lev, xs, hnd, htr, hfl⟩ := fchk_ok (Classical.not_not.1 h20)
  have hno := wCe hnd
  have hlv := hno.lev
  have hsm := downL_small (s := s) (q := a) (l := lev) (by omega) hno.len
  obtain ⟨k, rfl⟩ : ∃ k : Nat, root = k := ⟨root.toNat, by omega⟩
  rw [Int.toNat_natCast] at hnd
  have hrng : rng s (k : Int) a b = (wDj s a lev xs).takeWhile fun x => !wBy b x.key := by unfold rng; rw [Int.toNat_natCast, hnd]; rfl
  obtain ⟨all, hall⟩ : ∃ all, all = wDj s a lev xs := ⟨_, rfl⟩
  rw [← hall] at hsm
  refine wAw rfl rfl (wAn rfl rfl rfl rfl rfl (by kernel_rfl) (items_walk bv wv nv lv a (k : Int) M)) ?_; rintro _ M1 _ ⟨hM1, _, rfl, ⟨⟨d1, d2, d3, rfl, hd1, hd2, hd3⟩, rfl⟩⟩
  refine wAc (jT (wAh (wEc b7 (by simp) ?_)))
  intro M1f hM1f e7
  replace hM1 := hM1.trans hM1f
  refine jc_rangeR (R := [(b8, .cells [.slice none 0 0].toArray ITS (0, 0))]) (xs := all) (En := KEn) (ps := [26]) rfl (by kernel_rfl) (b := true) (lb := [.pointer (some ⟨d1, 0, none⟩), .pointer (some ⟨d2, 0, none⟩), .pointer (some ⟨d3, 0, none⟩)]) (fun l J Jx M2 L2 hM2 hmono hJ h0 => by rw [hall] at hJ ⊢; exact items_body s hst a k lev xs (by omega) hnd htr d1 d2 d3 (.nilFunc) M1f bv wv nv lv (hM1f _ _ hd1) (hST.mono hM1) (hM1f _ _ hd2) (hM1f _ _ hd3) l J Jx M2 L2 hM2 (hmono rfl) hJ h0)
   (RI b8 b)
   (fun c pre' M' R => c = .exit 0 ∧ ∃ pre y, pre' = pre ++ [y] ∧ RI b8 b pre M' R ∧ wBy b y.key = true)
   (fun y _ vs ⟨va, vc, e, _⟩ => by rw [e]; rfl) (by decide) ⟨_, [], [], rfl, Own.nil _ _, rfl, (fun _ h => by cases h), (fun _ h => by cases h)⟩ (fun _ pre M2 M3 R hM ⟨v, Rs, ps, q1, q2, q3, q4, q5⟩ => ⟨v, Rs, ps, q1, q2, q3, fun p hp => (q4 p hp).mono hM, q5⟩) ?_ ?_ ?_
  ·intro l W2 pre y M2 R2 vs hM2 hI hpre hE
   obtain ⟨v, Rs, ps, rfl, hown, hpm, hpb, hpl⟩ := hI
   obtain ⟨oa, oc, rfl⟩ := hown.form
   obtain ⟨va, vc, rfl, hyc, hys⟩ := hE
   refine wAa (sAl rfl fun b12 => ?_)
   refine sSt rfl ?_
   refine wAc (jK fun W' => ?_)
   refine wAh (wAb (wAb (wAa (wAi rfl rfl (wEy (cs := wBu b) rfl rfl rfl rfl rfl (fun i v hv => CM.cj ⟨_, _, _, hM2 _ _ e7, by simpa [wBu] using hv⟩ _)) ?_))))
   refine sFa rfl ?_
   refine sLL rfl ?_
   refine wDp rfl rfl (wBf rfl rfl rfl rfl rfl (by kernel_rfl) (wDf b y.key M2)) (fun h30 => ?_) (fun h30 => ?_)
   ·refine wAc (jT (wAg rfl (wAs (jTx (jBo rfl ?_)))))
    refine wAv (L' := (b8, .cells [.slice oa ps.length oc].toArray ITS (0, 0)) :: Rs) (by simp) ?_
    refine jQx ?_
    exact ⟨rfl, pre, y, rfl, ⟨_, Rs, ps, rfl, hown, hpm, hpb, hpl⟩, h30⟩
   ·refine wAc (jT (wAj rfl (wAd (jT (wAa (sLd rfl ?_))))))
    refine sLL rfl ?_
    refine wAw rfl rfl (wAm (cs := [_, _, _, _, _]) rfl rfl rfl (by rfl) (by rfl) (by rfl)) ?_; rintro _ _ _ ⟨b33, rfl, rfl, rfl⟩
    refine wAw rfl rfl (wDd (R := Rs) (m := 1) rfl rfl rfl rfl hown rfl (fun i v hv => CJ.loc (by simpa using hv)) rfl (by rfl) (by simp [Value.oneCell']) (by have := hpre.length_le; rw [List.length_append, List.length_singleton] at this; have h5 := congrArg List.length hpm; rw [List.length_map] at h5; omega) (by omega)) ?_; rintro s' _ _ ⟨rfl, R', rfl, hown', _⟩
    obtain ⟨a2, c2, rfl⟩ := hown'.form
    refine sSt rfl ?_
    refine wAc (jB (wDh (L' := (b8, .cells [.slice a2 (ps.length + 1) c2].toArray ITS (0, 0)) :: R') (fun w h => (h.perm List.perm_append_comm).fewer (.cons _ (.cons _ (.refl _)))) ?_))
    refine jQn ?_
    refine ⟨_, R', ps ++ [(y, .slice va y.val.length vc)], rfl, ?_, by rw [List.map_append, hpm]; rfl, ?_, ?_⟩
    ·rw [List.length_append, List.flatMap_append]; simpa [wBc] using hown'
    ·intro p hp; rcases List.mem_append.1 hp with hp | hp
     ·exact hpb p hp
     ·rw [List.mem_singleton.1 hp]; exact ⟨va, vc, rfl, hyc, hys⟩
    ·intro x hx; rcases List.mem_append.1 hx with hx | hx
     ·exact hpl x hx
     ·rw [List.mem_singleton.1 hx, h30]; rfl
  ·intro d M2 R2 hM2 hI
   obtain ⟨v, Rs, ps, rfl, hown, hpm, hpb, hpl⟩ := hI
   obtain ⟨oa, oc, rfl⟩ := hown.form
   simp only [List.cons_append, List.nil_append]
   refine jB (jT (wAb (wAa (sLd rfl ?_))))
   refine sSt rfl ?_
   refine jp rfl (wAc (jT (wAe (wDo (L2 := _) Rm.perm ?_))))
   refine wHg hown (by simp) ?_
   intro M9 a9 c9 hM9 e9 hc9 hs9; cases e9
   refine wCd (rs := [_, _]) ([]) (by simp) rfl (.cons (.one rfl rfl rfl) (.cons (.tmp rfl) .nil)) ?_
   refine ⟨⟨_, congrArg (fun e => Value.tuple #[_, Value.int .i64 e]) (Classical.not_not.1 h20).symm, ?_⟩, rfl⟩
   rw [if_pos (Classical.not_not.1 h20), hrng, ← hall, take_all hpl]
   exact ⟨_, _, ps, by rw [← hpm, List.length_map], by rw [← hpm, List.length_map]; exact hc9, hs9, hpm, fun p hp => (hpb p hp).mono hM9⟩
  ·intro d c pre M2 R2 hM2 hpre hI
   obtain ⟨rfl, pre, y, rfl, hI, hy⟩ := hI
   obtain ⟨v, Rs, ps, rfl, hown, hpm, hpb, hpl⟩ := hI
   obtain ⟨oa, oc, rfl⟩ := hown.form
   simp only [List.cons_append, List.nil_append]
   refine wAs (jBx (jT (wAb (wAa (sLd rfl ?_)))))
   refine sSt rfl ?_
   refine jp rfl (wAc (jT (wAe (wDo (L2 := _) Rm.perm ?_))))
   refine wHg hown (by simp) ?_
   intro M9 a9 c9 hM9 e9 hc9 hs9; cases e9
   refine wCd (rs := [_, _]) ([]) (by simp) rfl (.cons (.one rfl rfl rfl) (.cons (.tmp rfl) .nil)) ?_
   refine ⟨⟨_, congrArg (fun e => Value.tuple #[_, Value.int .i64 e]) (Classical.not_not.1 h20).symm, ?_⟩, rfl⟩
   obtain ⟨r, hr⟩ := hpre
   rw [if_pos (Classical.not_not.1 h20), hrng, ← hall, ← hr, List.append_assoc, List.singleton_append, take_stop hpl (by rw [hy]; rfl)]
   exact ⟨_, _, ps, by rw [← hpm, List.length_map], by rw [← hpm, List.length_map]; exact hc9, hs9, hpm, fun p hp => (hpb p hp).mono hM9⟩
theorem range_spec (s : Sto) (v : Value) (root : Int) (a b : Ky) (M : Mem) (h : ST M v s) : SpecL Tryz.prog 25 #[v, .int .i64 root, .agg (wBu a).toArray, .agg (wBu b).toArray] M [] fun u M' L' => (∃ v, u = .tuple #[v, .int .i64 (wGo s root).2] ∧ NS M' v (if (wGo s root).2 = 0 then rng s root a b else [])) ∧ L' = [] := by
 obtain ⟨bv, wv, nv, lv, rfl, h1, h2, h3, h4⟩ := h.ex
 exact range_walk s root a b bv wv nv lv M h1 h2 h3 h4
theorem fcheck_spec (s : Sto) (v : Value) (root : Int) (M : Mem) (h : ST M v s) : SpecL Tryz.prog 49 #[v, .int .i64 root] M [] fun u _ _ => u = .tuple #[.int .i64 (wGo s root).1, .int .i64 (wGo s root).2] := by
 obtain ⟨bv, wv, nv, lv, rfl, h1, h2, h3, h4⟩ := h.ex
 exact fcheck_walk s root bv wv nv lv M h1 h2 h3 h4
def nextIt (xs : List It) (q : Ky) : Option It := if isAt xs q then xs[wDm xs q]? else if wDm xs q = 0 then none else xs[wDm xs q - 1]?
def findIn (s : Sto) (q : Ky) : Nat → List It → Option It
 | 0, xs => if isAt xs q then xs[wDm xs q]? else none
 | l + 1, xs => match nextIt xs q with | some x => findIn s q l (kid s x) | none => none
def fnd (s : Sto) (root : Int) (q : Ky) : Option It := match wCa s root.toNat with | some (lv, xs) => findIn s q lv.toNat xs | none => none
def FdPost (s : Sto) (root : Int) (q : Ky) (u : Value) (M' : Mem) : Prop := if (wGo s root).2 = 0 then
  match fnd s root q with
  | some x => ∃ va vc, u = .tuple #[.agg (itc x va vc).toArray, .int .i64 0] ∧ x.val.length ≤ vc ∧ SM M' va (wAk x.val)
  | none => u = .tuple #[.agg zeroIt.toArray, .int .i64 6]
 else u = .tuple #[.agg zeroIt.toArray, .int .i64 (wGo s root).2]
theorem FdPost.none {s : Sto} {root : Int} {q : Ky} {M' : Mem} (h : (wGo s root).2 = 0) (hf : fnd s root q = .none) : FdPost s root q (.tuple #[.agg zeroIt.toArray, .int .i64 6]) M' := by
 unfold FdPost; rw [if_pos h, hf]
theorem FdPost.some {s : Sto} {root : Int} {q : Ky} {M' : Mem} {x : It} {va : Option Addr} {vc : Nat} (h : (wGo s root).2 = 0) (hf : fnd s root q = .some x) (h1 : x.val.length ≤ vc) (h2 : SM M' va (wAk x.val)) : FdPost s root q (.tuple #[.agg (itc x va vc).toArray, .int .i64 0]) M' := by
 unfold FdPost; rw [if_pos h, hf]; exact ⟨va, vc, rfl, h1, h2⟩
theorem isAt_lt {xs : List It} {q : Ky} (h : isAt xs q = true) : wDm xs q < xs.length := by
 unfold isAt at h
 rcases Nat.lt_or_ge (wDm xs q) xs.length with h' | h'
 ·exact h'
 ·rw [List.getElem?_eq_none h'] at h; cases of_decide_eq_true h
def kle (a b : Ky) : Prop := wBy b a = false
theorem kl_iff {a b : Ky} : wBy a b = true ↔ (a.kind < b.kind ∨ a.kind = b.kind ∧ (a.id < b.id ∨ a.id = b.id ∧ a.off < b.off)) := by unfold wBy; exact decide_eq_true_iff
theorem kle_iff {a b : Ky} : kle a b ↔ ¬ (b.kind < a.kind ∨ b.kind = a.kind ∧ (b.id < a.id ∨ b.id = a.id ∧ b.off < a.off)) := by unfold kle wBy; exact decide_eq_false_iff_not
theorem kl_le {a b c : Ky} (h : wBy a b = true) (k : kle b c) : wBy a c = true := by rw [kl_iff, kle_iff] at *; omega
def Srt (ys : List It) : Prop := ys.Pairwise fun x y => wBy x.key y.key = true
def allOne (s : Sto) : Nat → It → List It
 | 0, x => [x]
 | l + 1, x => (kid s x).flatMap (allOne s l)
def allL (s : Sto) (l : Nat) (xs : List It) : List It := xs.flatMap (allOne s l)
structure InSp (p : Sp) (ys : List It) : Prop where
 srt : Srt ys
 btw : ∀ y ∈ ys, kle p.first y.key ∧ kle y.key p.last
 le : kle p.first p.last
structure TreeL (g : It → List It) (xs : List It) : Prop where
 pw : xs.Pairwise fun z w => (∀ y ∈ g z, wBy y.key w.key = true) ∧ wBy z.key w.key = true
 each : ∀ z ∈ xs, Srt (g z) ∧ ∀ y ∈ g z, kle z.key y.key
def headK : List It → Ky
 | [] => ⟨0, 0, 0⟩
 | x :: _ => x.key
theorem TreeL.srt {g : It → List It} {xs : List It} (h : TreeL g xs) : Srt (xs.flatMap g) := by
 refine List.pairwise_flatMap.2 ⟨fun z hz => (h.each z hz).1, ?_⟩
 refine h.pw.imp_of_mem fun {z w} hz hw hr x hx y hy => ?_
 exact kl_le (hr.1 x hx) ((h.each w hw).2 y hy)
def allT (s : Sto) (root : Int) : List It := match wCa s root.toNat with | some (lv, xs) => allL s lv.toNat xs | none => []
def btw (a b : Ky) (x : It) : Bool := !wBy x.key a && !wBy b x.key
theorem Srt.filter {ys : List It} (h : Srt ys) (p : It → Bool) : Srt (ys.filter p) := List.Pairwise.filter p h
structure RFacts (s : Sto) (root : Int) (a b : Ky) (l : List It) : Prop where
 lo : ∀ k (h : k < l.length), wBy l[k].key a = false
 hi : ∀ k (h : k < l.length), wBy b l[k].key = false
 up : ∀ k (h : k + 1 < l.length), wBy l[k].key l[k + 1].key = true
 fd : ∀ k (h : k < l.length), fnd s root l[k].key = some l[k]
 no : wBy b a = true → l = []
structure PFacts (s : Sto) (root : Int) (b : Ky) (l m n one : List It) : Prop where
 eq : l = m ++ n.drop one.length
 len : m.length + n.length = l.length + one.length
 le1 : one.length ≤ 1
 on : one.length ≤ n.length
 fd : (∃ x, fnd s root b = some x) ↔ one.length = 1
theorem rng_len {s : Sto} {root : Int} (h : (wGo s root).2 = 0) (a b : Ky) : (rng s root a b).length ≤ 15625 := by
 obtain ⟨_, _, _, _, lev, xs, hnd, _, _⟩ := fchk_ok h
 unfold rng; rw [hnd]
 have hno := wCe hnd
 have hsm := downL_small (s := s) (q := a) (l := lev) (by have := hno.lev; omega) hno.len
 have hpf := (List.takeWhile_prefix (fun x => !wBy b x.key) (l := wDj s a lev xs)).length_le
 exact Nat.le_trans hpf (by omega)
end Go.Proofs.YtoincdcejjdgkaaGreat
