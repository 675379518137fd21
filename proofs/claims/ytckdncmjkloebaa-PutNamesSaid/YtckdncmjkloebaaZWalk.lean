/- Walks: the items of a tree, one behind the other. -/
import Derived.Test.YtckdncmjkloebaaZFind
namespace Go.Proofs.Ytckdncmjkloebaa
set_option linter.unusedVariables false
set_option linter.unusedSimpArgs false
open Go.RowKit
def wDe (f : It → List It) (q : Ky) : List It → List It
 | [] => []
 | x :: xs => (match xs with | [] => f x | y :: _ => if wBm q y.key then f x else []) ++ wDe f q xs
def wDd (s : Sto) (q : Ky) : Nat → List It → List It
 | 0, xs => xs.filter fun x => !wBm x.key q
 | l + 1, xs => wDe (fun x => wDd s q l (kid s x)) q xs
def KEn (y : It) (M : Mem) (vs : List Value) : Prop := ∃ va vc, vs = [.agg (itc y va vc).toArray] ∧ y.val.length ≤ vc ∧ SM M va (wAn y.val)
structure CF (M : Mem) (s : Sto) (q : Ky) (l c1 c2 c3 c4 : Nat) : Prop where
 bn : ∃ p, M c1 = some (.cells [.pointer (some ⟨p, 0, none⟩)].toArray 58 (0, 0)) ∧ BN M (.pointer (some ⟨p, 0, none⟩)) s
 fr : M c2 = some (.cells (wBo q).toArray 37 (0, 0))
 yi : M c3 = some (.cells [.func (.yield l) #[] #[]].toArray 153 (0, 0))
 cl : M c4 = some (.cells [.func (.func 88) #[] #[.pointer (some ⟨c1, 0, none⟩), .pointer (some ⟨c2, 0, none⟩), .pointer (some ⟨c3, 0, none⟩), .pointer (some ⟨c4, 0, none⟩)]].toArray 154 (0, 0))
theorem CF.mono {M M' : Mem} {s : Sto} {q : Ky} {l c1 c2 c3 c4 : Nat} (h : CF M s q l c1 c2 c3 c4) (hM : MLe M M') : CF M' s q l c1 c2 c3 c4 := by
 obtain ⟨⟨p, h1, h2⟩, h3, h4, h5⟩ := h
 exact ⟨⟨p, hM _ _ h1, h2.mono hM⟩, hM _ _ h3, hM _ _ h4, hM _ _ h5⟩
theorem goDown_on {f : It → List It} {q : Ky} {xs : List It} {j : Nat} (h1 : j + 1 < xs.length) (h : wBm q xs[j + 1].key = true) : wDe f q (xs.drop j) = f xs[j] ++ wDe f q (xs.drop (j + 1)) := by
 rw [List.drop_eq_getElem_cons (show j < xs.length by omega), List.drop_eq_getElem_cons h1, wDe]; simp [h]
theorem goDown_off {f : It → List It} {q : Ky} {xs : List It} {j : Nat} (h1 : j + 1 < xs.length) (h : wBm q xs[j + 1].key = false) : wDe f q (xs.drop j) = wDe f q (xs.drop (j + 1)) := by
 rw [List.drop_eq_getElem_cons (show j < xs.length by omega), List.drop_eq_getElem_cons h1, wDe]; simp [h]
theorem goDown_last {f : It → List It} {q : Ky} {xs : List It} {j : Nat} (h1 : j < xs.length) (h2 : ¬ j + 1 < xs.length) : wDe f q (xs.drop j) = f xs[j] ++ wDe f q (xs.drop (j + 1)) := by
 rw [List.drop_eq_getElem_cons h1, List.drop_eq_nil_of_le (show xs.length ≤ j + 1 by omega)]; simp [wDe]
theorem prefix_of {α : Type} {pj r all : List α} {x : α} (h : pj ++ (x :: r) <+: all) : pj ++ [x] <+: all := by
 refine List.IsPrefix.trans ?_ h
 rw [show pj ++ x :: r = (pj ++ [x]) ++ r by simp]
 exact List.prefix_append _ _
def DownS (P : Program) (s : Sto) (q : Ky) (l c1 c2 c3 c4 : Nat) (all : List It) (J Jx : List It → Mem → Lc → Prop) (M0 : Mem) (lev : Nat) : Prop :=
 ∀ (k : Nat) (xs : List It) (pre : List It) (M : Mem) (L : Lc), k < 256 → wBs s k = some ((lev : Int), xs) → wCd s lev xs → MLe M0 M → CF M s q l c1 c2 c3 c4 → J pre M L → pre ++ wDd s q lev xs <+: all →
  SpecL P 88 #[.int .i64 k, .pointer (some ⟨c1, 0, none⟩), .pointer (some ⟨c2, 0, none⟩), .pointer (some ⟨c3, 0, none⟩), .pointer (some ⟨c4, 0, none⟩)] M L fun v M' L' => (v = .bool true ∧ J (pre ++ wDd s q lev xs) M' L') ∨ (v = .bool false ∧ ∃ pre', pre' <+: all ∧ Jx pre' M' L')
set_option maxHeartbeats 2000000 in
theorem down_leaf (s : Sto) (hst : wCr s) (q : Ky) (lid c1 c2 c3 c4 : Nat) (all : List It) (J Jx : List It → Mem → Lc → Prop) (M0 : Mem) (hmono : ∀ pre M2 M3 L2, MLe M2 M3 → J pre M2 L2 → J pre M3 L2) (hJ : ∀ pre y M2 L2 vs, MLe M0 M2 → J pre M2 L2 → pre ++ [y] <+: all → KEn y M2 vs → RoundL Try.prog lid vs.toArray M2 L2 fun v M' L' => (v = .bool true ∧ J (pre ++ [y]) M' L') ∨ (v = .bool false ∧ Jx (pre ++ [y]) M' L')) (k : Nat) (xs pre : List It) (M : Mem) (L0 : Lc) (hk256 : k < 256) (hnd : wBs s k = some (0, xs)) (htr : wCd s (0) xs) (hM0 : MLe M0 M) (hcf : CF M s q lid c1 c2 c3 c4) (hJ0 : J pre M L0) (hpre : pre ++ wDd s q (0) xs <+: all) :
  SpecL Try.prog 88 #[.int .i64 k, .pointer (some ⟨c1, 0, none⟩), .pointer (some ⟨c2, 0, none⟩), .pointer (some ⟨c3, 0, none⟩), .pointer (some ⟨c4, 0, none⟩)] M L0 fun v M' L' => (v = .bool true ∧ J (pre ++ wDd s q (0) xs) M' L') ∨ (v = .bool false ∧ ∃ pre', pre' <+: all ∧ Jx pre' M' L') := by
 have hno := wBu hnd
 have hlv := hno.lev
 have hlen := hno.len
 refine wAi (vs := [_, _, _, _, _]) 68 _ Try.func88 rfl Try.ntmps88 rfl rfl ?_; intro W
 refine wAb (wAa ?_)
 refine jp rfl ?_
 refine wAc (jT (wAb (wAa ?_)))
 obtain ⟨bp, hbp1, hbp⟩ := hcf.bn
 refine wAe rfl rfl (qLd rfl rfl rfl rfl (CM.cj ⟨_, _, _, hbp1, rfl⟩ _)) ?_
 refine jp rfl ?_
 refine wAu rfl rfl (wAv rfl rfl rfl rfl rfl (by kernel_rfl) (wGs s k _ M hst hk256 hbp)) ?_; rintro _ Mn _ ⟨hMn, _, rfl, ⟨hbn, rfl⟩⟩
 obtain ⟨sl, rfl, hns⟩ := (by unfold BnPost at hbn; rw [hnd] at hbn; exact hbn : ∃ sl, _ ∧ NS Mn sl xs)
 obtain ⟨a, c, ps, rfl, hc, hs, hp, hb⟩ := hns
 simp only [List.nil_append]
 iterate 3 refine jp rfl ?_
 refine wAu rfl rfl (wAr rfl rfl) ?_; rintro _ _ _ ⟨b7, rfl, rfl, rfl⟩
 refine wBg rfl (wAf rfl rfl rfl rfl rfl rfl rfl rfl) ?_; rintro _ _ _ ⟨rfl, rfl⟩
 refine jp rfl ?_
 refine wAc (jT (wAb (wAb (wAa ?_))))
 refine wAe rfl rfl (wAd rfl rfl rfl rfl rfl) ?_
 refine wAe rfl rfl (qLd rfl rfl rfl rfl (CJ.loc rfl)) ?_
 refine wAe rfl rfl (wBy rfl rfl rfl) ?_
 refine jp rfl ?_
 refine wAc (jT (wAk ?_))
 refine wBf (α := Nat × Mem × Lc × List It) (fun x => [(1, .pointer (some ⟨c1, 0, none⟩)), (2, .pointer (some ⟨c2, 0, none⟩)), (3, .pointer (some ⟨c3, 0, none⟩)), (4, .pointer (some ⟨c4, 0, none⟩)), (7, .pointer (some ⟨b7, 0, none⟩)), (19, .slice a xs.length c), (20, .int .i64 xs.length), (21, .int .i64 x.1)]) (fun x => x.2.1) (fun x => (b7, .cells [.int .i64 0, .slice a xs.length c].toArray 45 (0, 0)) :: x.2.2.1) (fun x => x.1 ≤ xs.length ∧ MLe Mn x.2.1 ∧ J x.2.2.2 x.2.1 x.2.2.1 ∧ x.2.2.2 ++ (xs.drop x.1).filter (fun x => !wBm x.key q) = pre ++ wDd s q 0 xs) (fun x => xs.length - x.1)
  (0, Mn, L0, pre) (Keep.cons (t := 1) rfl (Keep.cons (t := 2) rfl (Keep.cons (t := 3) rfl (Keep.cons (t := 4) rfl (Keep.cons (t := 7) rfl (Keep.cons (t := 19) rfl (Keep.cons (t := 20) rfl (Keep.cons (t := 21) rfl Keep.nil)))))))) ⟨Nat.zero_le _, MLe.refl _, hmono _ _ _ _ hMn hJ0, rfl⟩ (fun _ h => h) ?_
 rintro ⟨j, Mk, Lk, pj⟩ ⟨hj, hMk, hJk, hpj⟩
 try dsimp only at hj hMk hJk hpj ⊢
 refine wAb (wAa ?_)
 refine js rfl (fun h22 => ?_) (fun h22 => ?_)
 ·refine wAc (jT (wAb (wAj rfl (wAg (jT (wAb (wAk (wAb (wAa ?_)))))))))
  refine jp rfl ?_
  have hk1 : j < xs.length := by omega
  have hsk := hs.mono hMk
  have hbk := fun p hp => (hb p hp).mono hMk
  obtain ⟨sb, so, e0, hx⟩ := hsk.open (by intro e; have := congrArg List.length e; rw [wBd wAs 5 wAp, List.length_nil] at this; have h2 := congrArg List.length hp; rw [List.length_map] at h2; omega)
  subst e0
  obtain ⟨va, vc, hcl, hvc, hvs⟩ := wBi hx hp hbk hk1
  have hxr := hno.ref xs[j] (List.getElem_mem hk1)
  have hcek := hcf.mono (hMn.trans hMk)
  refine wAe rfl rfl (wBh rfl rfl rfl rfl (by omega)) ?_
  refine wAe rfl rfl (wGu (cs := itc xs[j] va vc) rfl rfl rfl rfl rfl (fun i v hv => (hcl i v hv).cj _)) ?_
  refine wAu rfl rfl (wAr rfl rfl) ?_; rintro _ _ _ ⟨b10, rfl, rfl, rfl⟩
  refine jp rfl ?_
  refine wBg rfl (wAf rfl rfl rfl rfl rfl rfl rfl rfl) ?_; rintro _ _ _ ⟨rfl, rfl⟩
  refine wAc (jT (wAb (wAb (wAa ?_))))
  refine wAe rfl rfl (wAd rfl rfl rfl rfl rfl) ?_
  refine wAe rfl rfl (qLd rfl rfl rfl rfl (CJ.loc rfl)) ?_
  refine jt rfl (decide_eq_true (by omega)) ?_
  refine wAc (jT (wAj rfl (wAb (wAb (wAa ?_)))))
  refine wAe rfl rfl (wAd rfl rfl rfl rfl rfl) ?_
  refine wAe rfl rfl (wCb rfl rfl rfl rfl rfl) ?_
  refine wAe rfl rfl (wGu (cs := wBo q) rfl rfl rfl rfl rfl (fun i v hv => CM.cj ⟨_, _, _, hcek.fr, by simpa using hv⟩ _)) ?_
  refine wHx rfl rfl (wBw rfl rfl rfl rfl rfl (by kernel_rfl) (wEk xs[j].key q _)) (fun h32 => ?_) (fun h32 => ?_)
  ·iterate 7 refine jp rfl ?_
   refine wAc (jT (wAm rfl (wAg (jT (wBe (jTx (jBx (jT (wAa ?_)))))))))
   refine ja rfl (by omega) ?_
   refine jp rfl ?_
   refine wAc ?_
   refine wBc (j + 1, Mk, Lk, pj) (Keep.cons (t := 1) rfl (Keep.cons (t := 2) rfl (Keep.cons (t := 3) rfl (Keep.cons (t := 4) rfl (Keep.cons (t := 7) rfl (Keep.cons (t := 19) rfl (Keep.cons (t := 20) rfl (Keep.cons (t := 21) rfl Keep.nil)))))))) ⟨by show j + 1 ≤ xs.length; omega, hMk, hJk, ?_⟩ (by show xs.length - (j + 1) < xs.length - j; omega) (fun w h => h.fewer (by simp))
   show _ ++ (xs.drop (j + 1)).filter (fun x => !wBm x.key q) = _
   rw [← hpj, List.drop_eq_getElem_cons hk1, List.filter_cons_of_neg (by simp [h32])]
  ·iterate 2 refine jp rfl ?_
   refine wAe rfl rfl (qLd rfl rfl rfl rfl (CM.cj ⟨_, _, _, hcek.yi, rfl⟩ _)) ?_
   refine wAe rfl rfl (wCb rfl rfl rfl rfl rfl) ?_
   refine wAu rfl rfl (hYield rfl rfl rfl rfl (hJ pj xs[j] Mk Lk _ (hM0.trans (hMn.trans hMk)) hJk (by rw [List.drop_eq_getElem_cons hk1, List.filter_cons_of_pos (by simp [h32])] at hpj; rw [← hpj] at hpre; exact prefix_of hpre) ⟨va, vc, rfl, hvc, hvs⟩)) ?_; rintro _ Mf _ ⟨hMf, R', rfl, hy⟩
   rcases hy with ⟨rfl, hy⟩ | ⟨rfl, hy⟩
   ·iterate 2 refine jp rfl ?_
    refine wAc (jT (wAm rfl (wAg (jT (wBe (jTx (jBx (jT (wAa ?_)))))))))
    refine ja rfl (by omega) ?_
    refine jp rfl ?_
    refine wAc ?_
    refine wBc (j + 1, Mf, R', pj ++ [xs[j]]) (Keep.cons (t := 1) rfl (Keep.cons (t := 2) rfl (Keep.cons (t := 3) rfl (Keep.cons (t := 4) rfl (Keep.cons (t := 7) rfl (Keep.cons (t := 19) rfl (Keep.cons (t := 20) rfl (Keep.cons (t := 21) rfl Keep.nil)))))))) ⟨by show j + 1 ≤ xs.length; omega, hMk.trans hMf, hy, ?_⟩ (by show xs.length - (j + 1) < xs.length - j; omega) (fun w h => (h.perm List.perm_append_comm).fewer (by simp))
    show _ ++ (xs.drop (j + 1)).filter (fun x => !wBm x.key q) = _
    rw [← hpj, List.drop_eq_getElem_cons hk1, List.filter_cons_of_pos (by simp [h32])]; simp
   ·iterate 2 refine jp rfl ?_
    refine wAc (jT (wAj rfl (wAb (wAa ?_))))
    refine jp rfl ?_
    refine wAc (jT (wAh (jTr (jTr (jBr (jTr (jTr (jBr (jTr ?_)))))))))
    refine wBk (L' := R') (by simp) ?_
    refine jr1 rfl rfl ?_
    rw [List.drop_eq_getElem_cons hk1, List.filter_cons_of_pos (by simp [h32])] at hpj
    exact .inr ⟨rfl, _, by rw [← hpj] at hpre; exact prefix_of hpre, hy⟩
 ·refine wAc (jT (wAb (wAm rfl (wBe (jTx (jTx (jBx (jT (wAb (wAa ?_))))))))))
  refine jp rfl ?_
  refine wAc (jT (wAh ?_))
  refine wBk (L' := Lk) (by simp) ?_
  refine jr1 rfl rfl ?_
  obtain rfl : j = xs.length := by omega
  rw [List.drop_eq_nil_of_le (Nat.le_refl _), List.filter_nil, List.append_nil] at hpj
  exact .inl ⟨rfl, hpj ▸ hJk⟩
set_option maxHeartbeats 2000000 in
theorem down_node (s : Sto) (hst : wCr s) (q : Ky) (lid c1 c2 c3 c4 : Nat) (all : List It) (J Jx : List It → Mem → Lc → Prop) (M0 : Mem) (hmono : ∀ pre M2 M3 L2, MLe M2 M3 → J pre M2 L2 → J pre M3 L2) (hJ : ∀ pre y M2 L2 vs, MLe M0 M2 → J pre M2 L2 → pre ++ [y] <+: all → KEn y M2 vs → RoundL Try.prog lid vs.toArray M2 L2 fun v M' L' => (v = .bool true ∧ J (pre ++ [y]) M' L') ∨ (v = .bool false ∧ Jx (pre ++ [y]) M' L')) (l : Nat) (lv : Int) (hl1 : lv = (l : Int) + 1) (ih : DownS Try.prog s q lid c1 c2 c3 c4 all J Jx M0 l) (k : Nat) (xs pre : List It) (M : Mem) (L0 : Lc) (hk256 : k < 256) (hnd : wBs s k = some (lv, xs)) (htr : wCd s ((l + 1)) xs) (hM0 : MLe M0 M) (hcf : CF M s q lid c1 c2 c3 c4) (hJ0 : J pre M L0) (hpre : pre ++ wDd s q ((l + 1)) xs <+: all) :
  SpecL Try.prog 88 #[.int .i64 k, .pointer (some ⟨c1, 0, none⟩), .pointer (some ⟨c2, 0, none⟩), .pointer (some ⟨c3, 0, none⟩), .pointer (some ⟨c4, 0, none⟩)] M L0 fun v M' L' => (v = .bool true ∧ J (pre ++ wDd s q ((l + 1)) xs) M' L') ∨ (v = .bool false ∧ ∃ pre', pre' <+: all ∧ Jx pre' M' L') := by
 have hno := wBu hnd
 have hlv := hno.lev
 have hlen := hno.len
 refine wAi (vs := [_, _, _, _, _]) 68 _ Try.func88 rfl Try.ntmps88 rfl rfl ?_; intro W
 refine wAb (wAa ?_)
 refine jp rfl ?_
 refine wAc (jT (wAb (wAa ?_)))
 obtain ⟨bp, hbp1, hbp⟩ := hcf.bn
 refine wAe rfl rfl (qLd rfl rfl rfl rfl (CM.cj ⟨_, _, _, hbp1, rfl⟩ _)) ?_
 refine jp rfl ?_
 refine wAu rfl rfl (wAv rfl rfl rfl rfl rfl (by kernel_rfl) (wGs s k _ M hst hk256 hbp)) ?_; rintro _ Mn _ ⟨hMn, _, rfl, ⟨hbn, rfl⟩⟩
 obtain ⟨sl, rfl, hns⟩ := (by unfold BnPost at hbn; rw [hnd] at hbn; exact hbn : ∃ sl, _ ∧ NS Mn sl xs)
 obtain ⟨a, c, ps, rfl, hc, hs, hp, hb⟩ := hns
 simp only [List.nil_append]
 iterate 3 refine jp rfl ?_
 refine wAu rfl rfl (wAr rfl rfl) ?_; rintro _ _ _ ⟨b7, rfl, rfl, rfl⟩
 refine wBg rfl (wAf rfl rfl rfl rfl rfl rfl rfl rfl) ?_; rintro _ _ _ ⟨rfl, rfl⟩
 refine jp rfl ?_
 refine wAc (jT (wAb (wAb (wAa ?_))))
 refine wAe rfl rfl (wAd rfl rfl rfl rfl rfl) ?_
 refine wAe rfl rfl (qLd rfl rfl rfl rfl (CJ.loc rfl)) ?_
 refine wAe rfl rfl (wBy rfl rfl rfl) ?_
 refine jp rfl ?_
 refine wAc (jT (wAk ?_))
 refine wBf (α := Nat × Mem × Lc × List It) (fun x => [(1, .pointer (some ⟨c1, 0, none⟩)), (2, .pointer (some ⟨c2, 0, none⟩)), (3, .pointer (some ⟨c3, 0, none⟩)), (4, .pointer (some ⟨c4, 0, none⟩)), (7, .pointer (some ⟨b7, 0, none⟩)), (19, .slice a xs.length c), (20, .int .i64 xs.length), (21, .int .i64 x.1)]) (fun x => x.2.1) (fun x => (b7, .cells [.int .i64 lv, .slice a xs.length c].toArray 45 (0, 0)) :: x.2.2.1) (fun x => x.1 ≤ xs.length ∧ MLe Mn x.2.1 ∧ J x.2.2.2 x.2.1 x.2.2.1 ∧ x.2.2.2 ++ wDe (fun x => wDd s q l (kid s x)) q (xs.drop x.1) = pre ++ wDd s q (l + 1) xs) (fun x => xs.length - x.1)
  (0, Mn, L0, pre) (Keep.cons (t := 1) rfl (Keep.cons (t := 2) rfl (Keep.cons (t := 3) rfl (Keep.cons (t := 4) rfl (Keep.cons (t := 7) rfl (Keep.cons (t := 19) rfl (Keep.cons (t := 20) rfl (Keep.cons (t := 21) rfl Keep.nil)))))))) ⟨Nat.zero_le _, MLe.refl _, hmono _ _ _ _ hMn hJ0, rfl⟩ (fun _ h => h) ?_
 rintro ⟨j, Mk, Lk, pj⟩ ⟨hj, hMk, hJk, hpj⟩
 try dsimp only at hj hMk hJk hpj ⊢
 refine wAb (wAa ?_)
 refine js rfl (fun h22 => ?_) (fun h22 => ?_)
 ·refine wAc (jT (wAb (wAj rfl (wAg (jT (wAb (wAk (wAb (wAa ?_)))))))))
  refine jp rfl ?_
  have hk1 : j < xs.length := by omega
  have hsk := hs.mono hMk
  have hbk := fun p hp => (hb p hp).mono hMk
  obtain ⟨sb, so, e0, hx⟩ := hsk.open (by intro e; have := congrArg List.length e; rw [wBd wAs 5 wAp, List.length_nil] at this; have h2 := congrArg List.length hp; rw [List.length_map] at h2; omega)
  subst e0
  obtain ⟨va, vc, hcl, hvc, hvs⟩ := wBi hx hp hbk hk1
  have hxr := hno.ref xs[j] (List.getElem_mem hk1)
  have hcek := hcf.mono (hMn.trans hMk)
  refine wAe rfl rfl (wBh rfl rfl rfl rfl (by omega)) ?_
  refine wAe rfl rfl (wGu (cs := itc xs[j] va vc) rfl rfl rfl rfl rfl (fun i v hv => (hcl i v hv).cj _)) ?_
  refine wAu rfl rfl (wAr rfl rfl) ?_; rintro _ _ _ ⟨b10, rfl, rfl, rfl⟩
  refine jp rfl ?_
  refine wBg rfl (wAf rfl rfl rfl rfl rfl rfl rfl rfl) ?_; rintro _ _ _ ⟨rfl, rfl⟩
  refine wAc (jT (wAb (wAb (wAa ?_))))
  refine wAe rfl rfl (wAd rfl rfl rfl rfl rfl) ?_
  refine wAe rfl rfl (qLd rfl rfl rfl rfl (CJ.loc rfl)) ?_
  refine jf rfl (decide_eq_false (by omega)) ?_
  refine wAc (jT (wAm rfl (wAg (jT (wAb ?_)))))
  refine wBv [(0, true), (1, true), (2, true), (3, true), (4, true), (5, true), (6, true), (7, true), (8, true), (9, true), (10, true), (11, true), (12, true), (13, true), (14, true), (15, true), (16, true), (17, true), (18, true)] _ (by kernel_rfl) (by kernel_rfl) (by kernel_rfl) rfl (fun _ h => h) ?_
  refine dp rfl rfl ?_
  refine da rfl rfl (by omega) ?_
  refine wAw rfl rfl rfl (wAd rfl rfl rfl rfl rfl) ?_
  refine wAw rfl rfl rfl (qLd rfl rfl rfl rfl (CJ.loc rfl)) ?_
  refine wAw rfl rfl rfl (wBy rfl rfl rfl) ?_
  refine ds rfl rfl (fun h45 => ?_) (fun h45 => ?_)
  ·refine dp rfl rfl ?_
   refine wAw rfl rfl rfl (wGu (cs := wBo q) rfl rfl rfl rfl rfl (fun i v hv => CM.cj ⟨_, _, _, hcek.fr, by simpa using hv⟩ _)) ?_
   refine wAw rfl rfl rfl (wAd rfl rfl rfl rfl rfl) ?_
   refine wAw rfl rfl rfl (qLd rfl rfl rfl rfl (CJ.loc rfl)) ?_
   refine dp rfl rfl ?_
   refine da rfl rfl (by omega) ?_
   have hj1 : j + 1 < xs.length := by omega
   obtain ⟨wa, wc, hcj, -, -⟩ := wBi hx hp hbk hj1
   refine wAw rfl rfl rfl (qEq (wBh rfl rfl rfl rfl (by omega)) (v' := .pointer (some ⟨sb, so + (j + 1) * 5, none⟩)) (by congr 3)) ?_
   refine wAw rfl rfl rfl (wAd rfl rfl rfl rfl rfl) ?_
   refine wAw rfl rfl rfl (wGu (cs := wBo xs[j + 1].key) rfl rfl rfl rfl rfl (fun i v hv => (hcj i v (by match i, hv with | 0, hv => simpa [wBo] using hv | 1, hv => simpa [wBo] using hv | 2, hv => simpa [wBo] using hv | n + 3, hv => simp [wBo] at hv)).cj _)) ?_
   refine jd_qb rfl rfl rfl (wBw rfl rfl rfl rfl rfl (by kernel_rfl) (wEk q xs[j + 1].key _)) (fun h55 => ?_) (fun h55 => ?_)
   ·iterate 3 refine dp rfl rfl ?_
    refine wBn (jPn (jT (wAb (wAa ?_))))
    iterate 3 refine jp rfl ?_
    refine wAe rfl rfl (qLd rfl rfl rfl rfl (CM.cj ⟨_, _, _, hcek.cl, rfl⟩ _)) ?_
    refine wAe rfl rfl (wAd rfl rfl rfl rfl rfl) ?_
    refine wAe rfl rfl (qLd rfl rfl rfl rfl (CJ.loc rfl)) ?_
    have hup := hno.up (by omega) xs[j] (List.getElem_mem hk1)
    have hkr : ((xs[j].ref.toNat : Nat) : Int) = xs[j].ref := Int.toNat_of_nonneg (by omega)
    obtain ⟨ys, hyn, hys0, hyt⟩ := wCu htr (List.getElem_mem hk1)
    have hkid : kid s xs[j] = ys := by unfold kid; rw [hyn]
    have hgd : wDe (fun x => wDd s q l (kid s x)) q (xs.drop j) = wDd s q l ys ++ wDe (fun x => wDd s q l (kid s x)) q (xs.drop (j + 1)) := (goDown_on hj1 h55).trans (by rw [hkid])
    rw [hgd] at hpj
    refine wAu rfl rfl (wAv rfl rfl rfl rfl rfl (by kernel_rfl) (by have := ih xs[j].ref.toNat ys pj Mk Lk (by omega) hyn hyt (hM0.trans (hMn.trans hMk)) hcek hJk (by rw [← hpj, ← List.append_assoc] at hpre; exact (List.prefix_append _ _).trans hpre); rwa [hkr] at this)) ?_; rintro _ Mf _ ⟨hMf, R', rfl, hy⟩
    rcases hy with ⟨rfl, hy⟩ | ⟨rfl, hy⟩
    ·iterate 2 refine jp rfl ?_
     refine wAc (jT (wAm rfl (wAg (jB (jT (wAa ?_))))))
     refine ja rfl (by omega) ?_
     refine jp rfl ?_
     refine wAc ?_
     refine wBc (j + 1, Mf, R', pj ++ wDd s q l ys) (Keep.cons (t := 1) rfl (Keep.cons (t := 2) rfl (Keep.cons (t := 3) rfl (Keep.cons (t := 4) rfl (Keep.cons (t := 7) rfl (Keep.cons (t := 19) rfl (Keep.cons (t := 20) rfl (Keep.cons (t := 21) rfl Keep.nil)))))))) ⟨by show j + 1 ≤ xs.length; omega, hMk.trans hMf, hy, ?_⟩ (by show xs.length - (j + 1) < xs.length - j; omega) (fun w h => (h.perm List.perm_append_comm).fewer (by simp))
     show _ ++ wDe (fun x => wDd s q l (kid s x)) q (xs.drop (j + 1)) = _
     rw [← hpj, List.append_assoc]
    ·iterate 2 refine jp rfl ?_
     refine wAc (jT (wAj rfl (wAb (wAa ?_))))
     refine jp rfl ?_
     refine wAc (jT (wAh (jBr (jTr (jTr (jBr (jTr ?_)))))))
     refine wBk (L' := R') (by simp) ?_
     refine jr1 rfl rfl ?_
     exact .inr ⟨rfl, hy⟩
   ·iterate 3 refine dp rfl rfl ?_
    refine wBn (jPn (jT (wAb (wAa ?_))))
    iterate 9 refine jp rfl ?_
    refine wAc (jT (wAm rfl (wAg (jB (jT (wAa ?_))))))
    refine ja rfl (by omega) ?_
    refine jp rfl ?_
    refine wAc ?_
    refine wBc (j + 1, Mk, Lk, pj) (Keep.cons (t := 1) rfl (Keep.cons (t := 2) rfl (Keep.cons (t := 3) rfl (Keep.cons (t := 4) rfl (Keep.cons (t := 7) rfl (Keep.cons (t := 19) rfl (Keep.cons (t := 20) rfl (Keep.cons (t := 21) rfl Keep.nil)))))))) ⟨by show j + 1 ≤ xs.length; omega, hMk, hJk, ?_⟩ (by show xs.length - (j + 1) < xs.length - j; omega) (fun w h => h.fewer (by simp))
    show _ ++ wDe (fun x => wDd s q l (kid s x)) q (xs.drop (j + 1)) = _
    rw [← hpj, goDown_off hj1 h55]
  ·iterate 13 refine dp rfl rfl ?_
   refine wBn (jPn (jT (wAb (wAa ?_))))
   iterate 3 refine jp rfl ?_
   refine wAe rfl rfl (qLd rfl rfl rfl rfl (CM.cj ⟨_, _, _, hcek.cl, rfl⟩ _)) ?_
   refine wAe rfl rfl (wAd rfl rfl rfl rfl rfl) ?_
   refine wAe rfl rfl (qLd rfl rfl rfl rfl (CJ.loc rfl)) ?_
   have hup := hno.up (by omega) xs[j] (List.getElem_mem hk1)
   have hkr : ((xs[j].ref.toNat : Nat) : Int) = xs[j].ref := Int.toNat_of_nonneg (by omega)
   obtain ⟨ys, hyn, hys0, hyt⟩ := wCu htr (List.getElem_mem hk1)
   have hkid : kid s xs[j] = ys := by unfold kid; rw [hyn]
   have hgd : wDe (fun x => wDd s q l (kid s x)) q (xs.drop j) = wDd s q l ys ++ wDe (fun x => wDd s q l (kid s x)) q (xs.drop (j + 1)) := (goDown_last hk1 (by omega)).trans (by rw [hkid])
   rw [hgd] at hpj
   refine wAu rfl rfl (wAv rfl rfl rfl rfl rfl (by kernel_rfl) (by have := ih xs[j].ref.toNat ys pj Mk Lk (by omega) hyn hyt (hM0.trans (hMn.trans hMk)) hcek hJk (by rw [← hpj, ← List.append_assoc] at hpre; exact (List.prefix_append _ _).trans hpre); rwa [hkr] at this)) ?_; rintro _ Mf _ ⟨hMf, R', rfl, hy⟩
   rcases hy with ⟨rfl, hy⟩ | ⟨rfl, hy⟩
   ·iterate 2 refine jp rfl ?_
    refine wAc (jT (wAm rfl (wAg (jB (jT (wAa ?_))))))
    refine ja rfl (by omega) ?_
    refine jp rfl ?_
    refine wAc ?_
    refine wBc (j + 1, Mf, R', pj ++ wDd s q l ys) (Keep.cons (t := 1) rfl (Keep.cons (t := 2) rfl (Keep.cons (t := 3) rfl (Keep.cons (t := 4) rfl (Keep.cons (t := 7) rfl (Keep.cons (t := 19) rfl (Keep.cons (t := 20) rfl (Keep.cons (t := 21) rfl Keep.nil)))))))) ⟨by show j + 1 ≤ xs.length; omega, hMk.trans hMf, hy, ?_⟩ (by show xs.length - (j + 1) < xs.length - j; omega) (fun w h => (h.perm List.perm_append_comm).fewer (by simp))
    show _ ++ wDe (fun x => wDd s q l (kid s x)) q (xs.drop (j + 1)) = _
    rw [← hpj, List.append_assoc]
   ·iterate 2 refine jp rfl ?_
    refine wAc (jT (wAj rfl (wAb (wAa ?_))))
    refine jp rfl ?_
    refine wAc (jT (wAh (jBr (jTr (jTr (jBr (jTr ?_)))))))
    refine wBk (L' := R') (by simp) ?_
    refine jr1 rfl rfl ?_
    exact .inr ⟨rfl, hy⟩
 ·refine wAc (jT (wAb (wAm rfl (wBe (jTx (jTx (jBx (jT (wAb (wAa ?_))))))))))
  refine jp rfl ?_
  refine wAc (jT (wAh ?_))
  refine wBk (L' := Lk) (by simp) ?_
  refine jr1 rfl rfl ?_
  obtain rfl : j = xs.length := by omega
  rw [List.drop_eq_nil_of_le (Nat.le_refl _), wDe, List.append_nil] at hpj
  exact .inl ⟨rfl, hpj ▸ hJk⟩
theorem down_spec (s : Sto) (hst : wCr s) (q : Ky) (lid c1 c2 c3 c4 : Nat) (all : List It) (J Jx : List It → Mem → Lc → Prop) (M0 : Mem) (hmono : ∀ pre M2 M3 L2, MLe M2 M3 → J pre M2 L2 → J pre M3 L2) (hJ : ∀ pre y M2 L2 vs, MLe M0 M2 → J pre M2 L2 → pre ++ [y] <+: all → KEn y M2 vs → RoundL Try.prog lid vs.toArray M2 L2 fun v M' L' => (v = .bool true ∧ J (pre ++ [y]) M' L') ∨ (v = .bool false ∧ Jx (pre ++ [y]) M' L')) : ∀ lev, DownS Try.prog s q lid c1 c2 c3 c4 all J Jx M0 lev
 | 0 => fun k xs pre M L hk hnd htr hM0 hcf hJ0 hpre => down_leaf s hst q lid c1 c2 c3 c4 all J Jx M0 hmono hJ k xs pre M L hk hnd htr hM0 hcf hJ0 hpre
 | l + 1 => fun k xs pre M L hk hnd htr hM0 hcf hJ0 hpre => down_node s hst q lid c1 c2 c3 c4 all J Jx M0 hmono hJ l ((l + 1 : Nat) : Int) (by omega) (down_spec s hst q lid c1 c2 c3 c4 all J Jx M0 hmono hJ l) k xs pre M L hk hnd htr hM0 hcf hJ0 hpre
theorem items_body (s : Sto) (hst : wCr s) (q : Ky) (k lev : Nat) (xs : List It) (hk256 : k < 256) (hnd : wBs s k = some ((lev : Int), xs)) (htr : wCd s lev xs) (d1 d2 d3 : Nat) (v1 : Value) (M : Mem) (bv wv nv lv : Value) (hd1 : M d1 = some (.cells [bv, wv, nv, lv].toArray 29 (0, 0))) (hST : ST M (.agg [bv, wv, nv, lv].toArray) s) (hd2 : M d2 = some (.cells (wBo q).toArray 37 (0, 0))) (hd3 : M d3 = some (.cells [.int .i64 (k : Int)].toArray 3 (0, 0))) (lid : Nat) (J Jx : List It → Mem → Lc → Prop) (M1 : Mem) (L0 : Lc) (hM : MLe M M1) (hmono : ∀ pre M2 M3 L2, MLe M2 M3 → J pre M2 L2 → J pre M3 L2) (hJ : ∀ pre y M2 L2 vs, MLe M1 M2 → J pre M2 L2 → pre ++ [y] <+: wDd s q lev xs → KEn y M2 vs → RoundL Try.prog lid vs.toArray M2 L2 fun v M' L' => (v = .bool true ∧ J (pre ++ [y]) M' L') ∨ (v = .bool false ∧ Jx (pre ++ [y]) M' L')) (h0 : J [] M1 L0) :
  SpecL Try.prog 87 #[.func (.yield lid) #[] #[], .pointer (some ⟨d1, 0, none⟩), .pointer (some ⟨d2, 0, none⟩), .pointer (some ⟨d3, 0, none⟩)] M1 L0 fun _ M' L' => J (wDd s q lev xs) M' L' ∨ ∃ pre, pre <+: wDd s q lev xs ∧ Jx pre M' L' := by
 refine wAi (vs := [_, _, _, _]) 13 _ Try.func87 rfl Try.ntmps87 rfl rfl ?_; intro W
 refine wAb (wAa ?_)
 refine wAu rfl rfl (wEq (cs := [.func (.yield lid) #[] #[]]) rfl rfl rfl rfl) ?_; rintro _ _ _ ⟨b4, rfl, rfl, rfl⟩
 refine wAc (jT (wAb (wAa ?_)))
 obtain ⟨⟨_, hw4, _, _⟩, ⟨hn256, _⟩, _⟩ := id hst
 refine wAe rfl rfl (wGu (cs := [bv, wv, nv, lv]) rfl rfl rfl rfl rfl (fun i v hv => CM.cj ⟨_, _, _, hM _ _ hd1, by simpa using hv⟩ _)) ?_
 refine wAu rfl rfl (wAv rfl rfl rfl rfl rfl (by kernel_rfl) (on_spec s _ M1 (hST.mono hM) (by omega) (by omega))) ?_; rintro _ M1n _ ⟨hM1n, _, rfl, ⟨hbn0, rfl⟩⟩
 have hbn1 := hbn0 M1n (MLe.refl _) hM1n
 obtain ⟨pb, _, _, _, _, rfl, _⟩ := id hbn1.ex
 simp only [List.nil_append]
 refine wAu rfl rfl (wAr rfl rfl) ?_; rintro _ _ _ ⟨b5, rfl, rfl, rfl⟩
 refine wBg rfl (wAf rfl rfl rfl rfl rfl rfl rfl rfl) ?_; rintro _ _ _ ⟨rfl, rfl⟩
 refine wAc (jT (wAb (wAa ?_)))
 refine wAu rfl rfl (wAr rfl rfl) ?_; rintro _ _ _ ⟨b6, rfl, rfl, rfl⟩
 refine wAc (jT (wAb (wAa ?_)))
 refine jp rfl ?_
 refine wBg rfl (wAf rfl rfl rfl rfl rfl rfl rfl rfl) ?_; rintro _ _ _ ⟨rfl, rfl⟩
 refine wAc (jT (wAa ?_))
 refine jl_freezeX b4 (by simp +contextual) ?_
 intro M3 hM3 e4
 refine jl_freezeX b5 (by simp +contextual) ?_
 intro M4 hM4 e5
 refine jl_freezeX b6 (by simp +contextual) ?_
 intro M5 hM5 e6
 have hM15 := hM1n.trans (hM3.trans (hM4.trans hM5))
 have hcf : CF M5 s q lid b5 d2 b4 b6 := ⟨⟨pb, hM5 _ _ e5, hbn1.mono (hM3.trans (hM4.trans hM5))⟩, hM15 _ _ (hM _ _ hd2), hM5 _ _ (hM4 _ _ e4), e6⟩
 refine wAe rfl rfl (qLd rfl rfl rfl rfl (CM.cj ⟨_, _, _, e6, rfl⟩ _)) ?_
 refine wAe rfl rfl (qLd rfl rfl rfl rfl (CM.cj ⟨_, _, _, hM15 _ _ (hM _ _ hd3), rfl⟩ _)) ?_
 refine wAu rfl rfl (wAv rfl rfl rfl rfl rfl (by kernel_rfl) (down_spec s hst q lid b5 d2 b4 b6 (wDd s q lev xs) J Jx M1 hmono hJ lev k xs [] M5 L0 hk256 hnd htr hM15 hcf (hmono _ _ _ _ hM15 h0) (by rw [List.nil_append]; exact List.prefix_rfl))) ?_; rintro _ Mf _ ⟨hMf, R', rfl, hy⟩
 refine wAc ?_
 refine jrn ?_
 refine wBk (L' := R') (by simp) ?_
 refine jrs (rs := []) rfl .nil ?_
 exact hy.imp (fun h => by simpa using h.2) (fun h => h.2)
end Go.Proofs.Ytckdncmjkloebaa
