/- Walks: a node left on a bench. No statement of the seat is proved here. -/
import Derived.Test.YtkcpllhggofloaaGreatZHl
namespace Go.Proofs.YtkcpllhggofloaaGreat
set_option linter.unusedVariables false
set_option linter.unusedSectionVars false
set_option linter.unusedSimpArgs false
open Go.RowKit
abbrev TO : TypeId := 96
def wKd (p : Int × Int) : List Value := [.int .i64 p.1, .int .i64 p.2]
theorem ocell_len (p : Int × Int) : (wKd p).length = 2 := rfl
theorem sumN_set {xs : List By} {k : Nat} {v : By} (h : k < xs.length) : wEr (xs.set k v) + (xs.getD k 0).toNat = wEr xs + v.toNat := by
  induction xs generalizing k with
  | nil => simp at h
  | cons x xs ih =>
    cases k with
    | zero => simp [wEr]; omega
    | succ k =>
      have := ih (k := k) (by simpa using h)
      simp only [wEr, List.set_cons_succ, List.map_cons, List.sum_cons, List.getD_cons_succ] at this ⊢
      omega
theorem wFv {s : Sto} {k : Nat} (h : wCc s) (hk : 8 ≤ k) : wCc (wBx s k) := ⟨h.1, wMa hk h.2.1, h.2.2⟩
theorem wHm {s : Sto} {k : Nat} (h : wCc s) (hk : 8 ≤ k) : wCc (wCo s k) := ⟨h.1, wMa hk h.2.1, h.2.2⟩
theorem wEw {s : Sto} {k : Nat} (h : k < s.now.length) (h0 : s.now.getD k 0 ≠ 0) : wEr (wBx s k).now + 1 = wEr s.now := by
  have h1 := sumN_set (v := s.now.getD k 0 - 1) h
  obtain ⟨h2, h3⟩ := dec_u8 h0
  show wEr (s.now.set k (s.now.getD k 0 - 1)) + 1 = _
  omega
theorem wGg {s : Sto} {k : Nat} (h : k < s.now.length) (h0 : (s.now.getD k 0).toNat = 1) : wEr (wCo s k).now + 1 = wEr s.now := by
  have h1 := sumN_set (v := 0) h
  have : (0 : By).toNat = 0 := rfl
  show wEr (s.now.set k 0) + 1 = _
  omega
theorem wFn {xs : List It} {j : Nat} {s : Sto} (h : j < xs.length) : wEj (xs.drop j) s = if xs[j].ref = 0 then wEj (xs.drop (j + 1)) s else if wDo s xs[j].ref.toNat = 0 then wEj (xs.drop (j + 1)) (wBx s xs[j].ref.toNat) else none := by
  rw [List.drop_eq_getElem_cons h, wEj]
theorem sclone_own (v : Value) (xs : List By) (R : Lc) (M : Mem) (ho : Own v R 5 1 xs.length (wAj xs)) (hn : xs.length ≤ 100000) : SpecL Tryz.prog 42 #[v] M R fun u M' L' => ∃ R', L' = R ++ R' ∧ Own u R' 5 1 xs.length (wAj xs) := by
  have := SpecL.lend (R := R) (L := []) (post := fun u M' L' => Own u L' 5 1 xs.length (wAj xs)) (fun hnd h0 => sclone_spec v xs (addL M R) (by
    obtain ⟨a, c, rfl, hc, hs⟩ := ho.lent (M := addL M R) (fun p hp => wKr hnd hp)
    exact ⟨a, c, rfl, hc, hs⟩) hn)
  rw [List.append_nil] at this
  refine this.mono ?_
  rintro u M' L' ⟨M1, L1, hp, rfl, _⟩
  exact ⟨L1, rfl, hp⟩
theorem own_top {M : Mem} {L : Lc} {g m cap : Nat} {R : Lc} {e : TypeId} {A : List Value} {p : Int × Int} (ho : Own (.slice (some ⟨g, 0, none⟩) (m + 1) cap) R e 2 (m + 1) (A ++ wKd p)) (hR : ∀ q ∈ R, q ∈ L) (hA : A.length = m * 2) : ∀ i v, (wKd p)[i]? = some v → CJ M L g (0 + (m : Int).toNat * 2 + i) v := fun i v hv =>
  ho.cj hR (by rw [List.getElem?_append_right (by omega), show 0 + (m : Int).toNat * 2 + i - A.length = i by omega]; exact hv)
theorem stk_flat (st : List (Int × Int)) (p : Int × Int) : (p :: st).reverse.flatMap wKd = st.reverse.flatMap wKd ++ wKd p := by
  rw [List.reverse_cons, List.flatMap_append]; rfl
theorem stk_len (st : List (Int × Int)) : (st.reverse.flatMap wKd).length = st.length * 2 := by rw [wBi wKd 2 ocell_len, List.length_reverse]
structure LvS where
  s : Sto
  st : List (Int × Int)
  f : Nat
  D : List Nat
  M : Mem
  L : Lc
  R : Lc
  v : Value
structure LvI (bb : Nat) (M1 : Mem) (first : List By) (g0 : Option Sto) (x : LvS) : Prop where
  ok : wCc x.s
  mle : MLe M1 x.M
  bo : BOwn x.M bb x.L x.s
  own : Own x.v x.R TO 2 x.st.length (x.st.reverse.flatMap wKd)
  rng : ∀ p ∈ x.st, 8 ≤ p.1 ∧ p.1 < 256
  eq : g0 = lvF first x.f x.s x.st
  fuel : wEr x.s.now ≤ x.f
  big : x.st.length + 5 * x.f ≤ 400000
theorem wJg {first : List By} {f : Nat} {s : Sto} {k l : Int} {st : List (Int × Int)} (h : s.now.getD k.toNat 0 = 0) : lvF first f s ((k, l) :: st) = none := by
  cases f with
  | zero => rfl
  | succ f => rw [lvF, if_pos h]
theorem lv_more {first : List By} {f : Nat} {s : Sto} {k l : Int} {st : List (Int × Int)} (h : ¬ s.now.getD k.toNat 0 = 0) (h1 : s.now.getD k.toNat 0 ≠ 1) : lvF first (f + 1) s ((k, l) :: st) = lvF first f (wBx s k.toNat) st := by rw [lvF, if_neg h, if_pos h1]
theorem lv_none {first : List By} {f : Nat} {s : Sto} {k l : Int} {st : List (Int × Int)} (h : ¬ s.now.getD k.toNat 0 = 0) (h1 : s.now.getD k.toNat 0 = 1) (hnd : wBk s k.toNat = none) : lvF first (f + 1) s ((k, l) :: st) = none := by rw [lvF, if_neg h, if_neg (by simpa using h1), hnd]
theorem wFm {first : List By} {f : Nat} {s : Sto} {k l lv : Int} {xs : List It} {st : List (Int × Int)} (h : ¬ s.now.getD k.toNat 0 = 0) (h1 : s.now.getD k.toNat 0 = 1) (hnd : wBk s k.toNat = some (lv, xs)) : lvF first (f + 1) s ((k, l) :: st) = if first.getD k.toNat 0 = 0 ∨ (0 ≤ l ∧ lv ≠ l) then none
        else if 0 < lv then lvF first f (wCo s k.toNat) (wGu lv xs ++ st)
        else match wEj xs (wCo s k.toNat) with
          | none => none
          | some t => lvF first f t st := by rw [lvF, if_neg h, if_neg (by simpa using h1), hnd]; rfl
theorem sumN_le : ∀ (xs : List By), wEr xs ≤ 255 * xs.length
  | [] => Nat.zero_le _
  | x :: xs => by
    have h1 := sumN_le xs
    have h2 := x.toNat_lt
    simp only [wEr, List.map_cons, List.sum_cons, List.length_cons] at h1 ⊢
    omega
theorem wKx {xs : List By} {k : Nat} (h : xs.getD k 0 ≠ 0) : 0 < wEr xs := by
  have hk : k < xs.length := Classical.byContradiction fun hn => h (by simp [List.getD, show xs.length ≤ k by omega])
  have := sumN_set (v := 0) hk
  have h0 : (xs.getD k 0).toNat ≠ 0 := fun e => h (UInt8.toNat.inj e)
  have : (0 : By).toNat = 0 := rfl
  omega
theorem BOwn.put {M : Mem} {bb nc : Nat} {bv wv lw : Value} {a : Option Addr} {Rw Rn : Lc} {s t : Sto} (g2 : LS M bv s.blocks) (g3 : BS M lw s.last) (g5 : WOwn M wv Rw s.waits) (hb : t.blocks = s.blocks) (hw : t.waits = s.waits) (hl : t.last = s.last) (hn : t.now.length = s.now.length)
    (ho : Own (.slice a s.now.length nc) Rn 5 1 s.now.length (wAj t.now)) : BOwn M bb ((bb, .cells [bv, wv, .slice a s.now.length nc, lw].toArray TBn (0, 0)) :: (Rw ++ Rn)) t :=
  ⟨bv, wv, a, nc, lw, Rw, Rn, by rw [hn], by rw [hb]; exact g2, by rw [hl]; exact g3, by rw [hn]; exact ho, by rw [hw]; exact g5⟩
theorem push_rev {ps : List (It × Value)} {xs : List It} {lv : Int} (hp : ps.map (·.1) = xs) : (bw ps 0).map (fun q => (q.1.1.ref, lv - 1)) = (wGu lv xs).reverse := by
  have : (bw ps 0).map (fun q => (q.1.1.ref, lv - 1)) = ((bw ps 0).map (·.1)).map (fun p => (p.1.ref, lv - 1)) := by rw [List.map_map]; rfl
  rw [this, bw_fst, ← hp]
  unfold wGu
  rw [List.map_map, List.map_reverse]; rfl
theorem wGs {α : Type} (xs : List α) : (bw xs 0).length = xs.length := by
  have := congrArg List.length (bw_fst xs)
  rw [List.length_map, List.length_reverse] at this; simpa using this
def LvPost (s : Sto) (root : Int) (bb : Nat) (u : Value) (M' : Mem) (L' : Lc) : Prop := (wGv s root = none ∧ u = .int .i64 8) ∨ ∃ t, wGv s root = some t ∧ u = .int .i64 0 ∧ wCc t ∧ BOwn M' bb L' t
set_option maxHeartbeats 4000000 in
theorem leave_spec (s0 : Sto) (root : Int) (hr : 8 ≤ root ∧ root < 256) (hst : wCc s0) (bb : Nat) (M : Mem) (Lb : Lc) (hB0 : BOwn M bb Lb s0) :
    SpecL Tryz.prog 21 #[.pointer (some ⟨bb, 0, none⟩), .int .i64 root] M Lb (LvPost s0 root bb) := by
  obtain ⟨bv, wv, na, nc, lw, Rw, Rn, rfl, g2, g3, hnow, g5⟩ := id hB0
  have hn256 : s0.now.length = 256 := hst.2.1.1
  refine wAf (vs := [_, _]) 140 _ Tryz.func21 rfl Tryz.ntmps21 rfl rfl ?_; intro W
  refine wAb (wAa (jp rfl (wAc (jT (wAb (wAa (jp rfl (wAi rfl rfl (wBw rfl rfl rfl) ?_))))))))
  refine sFa rfl ?_
  refine sFL rfl rfl ?_
  refine wAy rfl rfl (wAu rfl rfl rfl rfl rfl (by kernel_rfl) (sclone_own _ s0.now Rn M hnow (by omega))) ?_; rintro _ M1 _ ⟨hM1, _, rfl, ⟨R', rfl, hown⟩⟩
  obtain ⟨fa, fc, rfl⟩ := hown.form
  refine jl_weak (M' := M1) (L' := R' ++ ((bb, .cells [bv, wv, .slice na s0.now.length nc, lw].toArray TBn (0, 0)) :: (Rw ++ Rn))) (fun w h => h.perm (wGe fun f => by simp only [mks, List.map_append, List.map_cons, List.map_nil, List.sum_append, List.sum_cons, List.sum_nil]; omega)) ?_
  refine jl_ownY hown (fun _ h => h) ?_
  intro M2 fa2 fc2 hM2 e2 hfc hfs; cases e2
  replace hfs := hfs.mono (wGf _ _)
  obtain ⟨fb, fo, e0, hfx⟩ := hfs.open (by intro e; have := congrArg List.length e; rw [wAm, List.length_nil] at this; omega)
  subst e0
  refine jp rfl (wAc (jT (wAb (wAa (jp rfl (wAi rfl rfl (wBa (cs := [_, _]) rfl rfl rfl (by rfl)) ?_))))))
  refine wAy rfl rfl (wAn (cs := [_, _]) rfl rfl rfl (by rfl) (by rfl) (by rfl)) ?_; rintro _ _ _ ⟨b23, rfl, rfl, rfl⟩
  refine sAl rfl fun b6 => ?_
  refine sSt rfl ?_
  refine wAc (jT (wAb (wAh ?_)))
  refine jc_loopDK (α := LvS) (fun x => x.D) (fun x => [(0, .pointer (some ⟨bb, 0, none⟩)), (5, .slice (some ⟨fb, fo, none⟩) s0.now.length fc), (6, .pointer (some ⟨b6, 0, none⟩))]) (fun x => x.M) (fun x => mks x.D ++ ((b6, .cells [x.v].toArray 97 (0, 0)) :: (x.R ++ x.L))) (fun x => LvI bb M2 s0.now (wGv s0 root) x) (fun x => x.f)
    ⟨s0, [(root, -1)], wEr s0.now, [], M2, ((bb, .cells [bv, wv, .slice na s0.now.length nc, lw].toArray TBn (0, 0)) :: (Rw ++ Rn)), [(b23, .cells [Value.int .i64 root, Value.int .i64 (-1)].toArray TO (0, 0))], .slice (some ⟨b23, 0, none⟩) 1 1⟩ rfl (.cons (t := 0) rfl (.cons (t := 5) rfl (.cons (t := 6) rfl .nil))) ⟨hst, MLe.refl _, hB0.mono (hM1.trans hM2), ⟨rfl, .inr ⟨b23, 1, _, rfl, rfl, Nat.le_refl _, by unfold maxLen; omega, rfl, rfl⟩⟩, (by simpa using hr), rfl, Nat.le_refl _, (by have := sumN_le s0.now; show 1 + 5 * wEr s0.now ≤ 400000; omega)⟩ (fun w h => h) ?_
  rintro ⟨s, st, f, D, Mk, Lk, Rk, v⟩ hI
  try dsimp only
  obtain ⟨va0, vc0, hv0⟩ := hI.own.form
  try dsimp only at hv0
  subst hv0
  obtain ⟨bv, wv, na, nc, lw, Rw, Rn, hLx, g2, g3, hnow, g5⟩ := id hI.bo
  try dsimp only at hLx g2 g3 hnow g5
  have hn256 : s.now.length = 256 := hI.ok.2.1.1
  obtain ⟨ng, ncap, ncur, e0, e1, _⟩ := hnow.open (by show 0 < s.now.length; omega)
  cases e0; subst e1
  subst hLx
  refine wAb (wAb (wAa (sLd rfl ?_)))
  refine wAi rfl rfl (wBj rfl rfl rfl) ?_
  refine js rfl (fun h26 => ?_) (fun h26 => ?_)
  · refine wAc ?_
    refine jT (wAg rfl (wAd (jT (wAh (wAb (wAa ?_))))))
    obtain ⟨⟨k, l⟩, st, rfl⟩ := List.exists_cons_of_ne_nil (show st ≠ [] from fun e => by subst e; simp at h26)
    have hown := hI.own
    try dsimp only at hown
    rw [List.length_cons] at hown
    obtain ⟨sg, vc1, scur, e0, e1, hs1, hs2, _⟩ := hown.open (by omega)
    cases e0; subst e1
    rw [List.length_cons]
    rw [stk_flat] at hown
    have hkr := hI.rng (k, l) (by simp)
    try dsimp only at hkr
    have hbig := hI.big
    try dsimp only at hbig
    rw [List.length_cons] at hbig
    have hsl := stk_len st
    have hown2 := hown.pop hsl
    have hgn : (wAj s.now)[k.toNat]? = some (.int .u8 ((s.now.getD k.toNat 0).toNat : Int)) := wHy (by omega)
    have hlt := (s.now.getD k.toNat 0).toNat_lt
    have hkn : ((k.toNat : Nat) : Int) = k := Int.toNat_of_nonneg (by omega)
    have hrng : ∀ p ∈ st, 8 ≤ p.1 ∧ p.1 < 256 := fun p hp => hI.rng p (List.mem_cons_of_mem _ hp)
    have hfu := hI.fuel
    try dsimp only at hfu
    refine sLd rfl ?_
    refine sLd rfl ?_
    refine wAi rfl rfl (wBj rfl rfl rfl) ?_
    refine wAi rfl rfl (qEq (qA rfl rfl rfl rfl rfl (by omega)) (v' := .int .i64 (st.length : Int)) (congrArg _ (by omega))) ?_
    refine wAi rfl rfl (wBe rfl rfl rfl rfl (by omega)) ?_
    refine wAi rfl rfl (wGx (cs := [.int .i64 k, .int .i64 l]) rfl rfl rfl rfl rfl (own_top hown (by simp) hsl)) ?_
    refine sAl rfl fun b7 => ?_
    refine sSt rfl ?_
    refine wAc (jT (wAb (wAa (sLd rfl ?_))))
    refine sLd rfl ?_
    refine wAi rfl rfl (wBj rfl rfl rfl) ?_
    refine wAi rfl rfl (qEq (qA rfl rfl rfl rfl rfl (by omega)) (v' := .int .i64 (st.length : Int)) (congrArg _ (by omega))) ?_
    refine wAi rfl rfl (qEq (qSl rfl rfl rfl (.no _) (.of (v := st.length) rfl (by omega) rfl) (.no _) (by omega) (by simp)) (v' := .slice (some ⟨sg, 0, none⟩) st.length vc0) (by rw [wCx]; rfl)) ?_
    refine sSt rfl ?_
    refine wAc (jT (wAb (wAb (wBp [(0, true), (1, true), (2, true), (3, true), (4, true), (5, true), (6, true), (7, true), (8, true), (9, true)] _ (by kernel_rfl) (by kernel_rfl) (by kernel_rfl) rfl (fun _ h => h) ?_))))
    refine dp rfl rfl ?_
    refine wBq rfl rfl rfl (wBw rfl rfl rfl) ?_
    refine dFa rfl rfl ?_
    refine dFa rfl rfl ?_
    refine dLd rfl rfl ?_
    refine dFa rfl rfl ?_
    refine dLd rfl rfl ?_
    refine wBq rfl rfl rfl (wBe rfl rfl rfl rfl (by omega)) ?_
    refine wBq rfl rfl rfl (qLd rfl rfl rfl rfl (by rw [Nat.mul_one, Nat.zero_add]; exact hnow.cj (by simp) hgn)) ?_
    refine ds rfl rfl (fun h47 => ?_) (fun h47 => ?_)
    · refine wBd ?_
      refine jPn (jT (wAg rfl (wAb (wAa (jp rfl (wAc (jT (wAe (jTr (jBr (jTr (jBr (jTr (wGm (fun w h => h.tl) ?_))))))))))))))
      refine jr1 rfl rfl ?_
      exact .inl ⟨by rw [hI.eq]; exact wJg (UInt8.toNat.inj (by simpa using h47)), rfl⟩
    refine wBd (jPn (jT (wAk rfl (wAd (jT (wAb (wAb (wBp [(0, true), (1, true), (2, true), (3, true), (4, true), (5, true), (6, true), (7, true), (8, true), (9, true)] _ (by kernel_rfl) (by kernel_rfl) (by kernel_rfl) rfl (fun _ h => h) ?_))))))))
    refine dp rfl rfl ?_
    refine wBq rfl rfl rfl (wBw rfl rfl rfl) ?_
    refine dFa rfl rfl ?_
    refine dFa rfl rfl ?_
    refine dLd rfl rfl ?_
    refine dFa rfl rfl ?_
    refine dLd rfl rfl ?_
    refine wBq rfl rfl rfl (wBe rfl rfl rfl rfl (by omega)) ?_
    refine wBq rfl rfl rfl (qLd rfl rfl rfl rfl (by rw [Nat.mul_one, Nat.zero_add]; exact hnow.cj (by simp) hgn)) ?_
    refine ds rfl rfl (fun h57 => ?_) (fun h57 => ?_)
    · refine wBd ?_
      refine jPn (jT (wAg rfl (wAb ?_)))
      have hz : ¬ s.now.getD k.toNat 0 = 0 := fun e => h47 (by rw [e]; rfl)
      obtain ⟨f, rfl⟩ : ∃ f', f = f' + 1 := ⟨f - 1, by have := wKx hz; omega⟩
      have h1 : s.now.getD k.toNat 0 ≠ 1 := fun e => by rw [e] at h57; exact absurd h57 (by decide)
      refine wDb (p := { A := fun i => !([11].contains i), U := fun i => !([11].contains i) }) [(0, true), (1, true), (2, true), (3, true), (4, true), (5, true), (6, true), (7, true), (8, true), (9, true), (10, true), (11, false)] _ (_) ([]) (by kernel_rfl) (by kernel_rfl) (by kernel_rfl) (by kernel_rfl) rfl (fun _ h => h) (MLe.refl _) (by simp) ?_
      refine dp rfl rfl ?_
      refine wBq rfl rfl rfl (wBw rfl rfl rfl) ?_
      refine dFa rfl rfl ?_
      refine dFa rfl rfl ?_
      refine dLd rfl rfl ?_
      refine dFa rfl rfl ?_
      refine dLd rfl rfl ?_
      refine wBq rfl rfl rfl (wBe rfl rfl rfl rfl (by omega)) ?_
      refine wBq rfl rfl rfl (qLd rfl rfl rfl rfl (by rw [Nat.mul_one, Nat.zero_add]; exact hnow.cj (by simp) hgn)) ?_
      refine wBq rfl rfl rfl (qAk rfl rfl rfl rfl rfl (by rw [IntKind.wrap_u8]; omega)) ?_
      refine wBq rfl rfl rfl (wBe rfl rfl rfl rfl (by omega)) ?_
      refine jd_e rfl rfl (wGp rfl rfl rfl rfl rfl rfl hnow rfl (by omega)) ?_; rintro _ _ _ ⟨rfl, Rn', rfl, hnow'⟩
      refine ⟨MLe.refl _, by simp, ?_⟩
      refine wFf ?_
      refine jPn (jT (wAw (jTx (jBx ?_))))
      refine wLr ⟨wBx s k.toNat, st, f, D, Mk, ((bb, .cells [bv, wv, .slice (some ⟨ng, 0, none⟩) s.now.length nc, lw].toArray TBn (0, 0)) :: (Rw ++ Rn')), [(sg, .cells scur TO (0, 0))], .slice (some ⟨sg, 0, none⟩) st.length vc0⟩ rfl (.cons (t := 0) rfl (.cons (t := 5) rfl (.cons (t := 6) rfl .nil))) ⟨wFv hI.ok (by omega), hI.mle, BOwn.put g2 g3 g5 rfl rfl rfl (looseS_len _ _) ?_, hown2, hrng, ?_, ?_, ?_⟩ (by show f < f + 1; omega) ?_
      · have e : wAj (wBx s k.toNat).now = (wAj s.now).set k.toNat (.int .u8 (((s.now.getD k.toNat 0).toNat : Int) - 1)) := by unfold wBx wAj; rw [List.map_set, (dec_u8 hz).1]
        rw [e]; have := hnow'; rw [Nat.mul_one, Nat.zero_add] at this; exact this
      · have := hI.eq; rw [this]; exact lv_more hz h1
      · have := wEw (show k.toNat < s.now.length by omega) hz; show wEr (wBx s k.toNat).now ≤ f; omega
      · show st.length + 5 * f ≤ 400000; omega
      exact fun w h => h.dropAt.perm (wGe fun f => by simp only [mks, List.map_append, List.map_cons, List.map_nil, List.sum_append, List.sum_cons, List.sum_nil]; omega)
    refine wBd (jPn (jT (wAk rfl (wAd (jT (wAb ?_))))))
    have hz : ¬ s.now.getD k.toNat 0 = 0 := fun e => h47 (by rw [e]; rfl)
    obtain ⟨f, rfl⟩ : ∃ f', f = f' + 1 := ⟨f - 1, by have := wKx hz; omega⟩
    have h1 : s.now.getD k.toNat 0 = 1 := UInt8.toNat.inj (by have : (1 : By).toNat = 1 := rfl; omega)
    refine wAa (jp rfl (sFL rfl rfl ?_))
    refine wAy rfl rfl (wAu rfl rfl rfl rfl rfl (by kernel_rfl) (by have := bnode_own s k.toNat bb (by omega) hI.ok Mk _ hI.bo; rwa [hkn] at this)) ?_; rintro _ Mn _ ⟨hMn, _, rfl, ⟨hbn, rfl⟩⟩
    refine jl_weak (M' := Mn) (L' := (b7, .cells [.int .i64 k, .int .i64 l].toArray 96 (0, 0)) :: (mks D ++ ((b6, .cells [.slice (some ⟨sg, 0, none⟩) st.length vc0].toArray 97 (0, 0)) :: ([(sg, .cells scur TO (0, 0))] ++ ((bb, .cells [bv, wv, .slice (some ⟨ng, 0, none⟩) s.now.length nc, lw].toArray TBn (0, 0)) :: (Rw ++ [(ng, .cells ncur 5 (0, 0))])))))) (fun w h => h.perm (wGe fun f => by simp only [mks, List.map_append, List.map_cons, List.map_nil, List.sum_append, List.sum_cons, List.sum_nil]; omega)) ?_
    obtain ⟨lv, ya, yn, yc, e, rfl, hbn2⟩ := BnPost.form hbn
    refine jp rfl (jp rfl (jp rfl (sAl rfl fun b8 => ?_)))
    refine sSt rfl ?_
    refine jp rfl (wAc (jT (wAb (wDb (p := { A := fun i => !([8].contains i), U := fun i => !([8].contains i) }) [(0, true), (1, true), (2, true), (3, true), (4, true), (5, true), (6, true), (7, true), (8, false)] _ (_) ([]) (by kernel_rfl) (by kernel_rfl) (by kernel_rfl) (by kernel_rfl) rfl (fun _ h => h) (MLe.refl _) (by simp) ?_))))
    refine dp rfl rfl ?_
    refine wBq rfl rfl rfl (wBw rfl rfl rfl) ?_
    refine dFa rfl rfl ?_
    refine dFa rfl rfl ?_
    refine dLd rfl rfl ?_
    refine dFa rfl rfl ?_
    refine dLd rfl rfl ?_
    refine wBq rfl rfl rfl (wBe rfl rfl rfl rfl (by omega)) ?_
    refine jd_e rfl rfl (wGp (u := .int .u8 0) rfl rfl rfl rfl rfl rfl hnow rfl (by omega)) ?_; rintro _ _ _ ⟨rfl, Rn', rfl, hnow'⟩
    refine ⟨MLe.refl _, by simp, ?_⟩
    refine wFf ?_
    refine jPn (jT (wAb (wAb ?_)))
    refine wKj (M' := Mn) (L' := (b8, .cells [.int .i64 lv, .slice ya yn yc].toArray 53 (0, 0)) :: (b7, .cells [.int .i64 k, .int .i64 l].toArray 96 (0, 0)) :: (mks D ++ ((b6, .cells [.slice (some ⟨sg, 0, none⟩) st.length vc0].toArray 97 (0, 0)) :: ([(sg, .cells scur TO (0, 0))] ++ ((bb, .cells [bv, wv, .slice (some ⟨ng, 0, none⟩) s.now.length nc, lw].toArray TBn (0, 0)) :: (Rw ++ Rn')))))) (fun w h => h.perm (wGe fun f => by simp only [mks, List.map_append, List.map_cons, List.map_nil, List.sum_append, List.sum_cons, List.sum_nil]; omega)) ?_
    have hnow2 := hnow'
    rw [Nat.mul_one, Nat.zero_add] at hnow2
    have hclr : wAj (wCo s k.toNat).now = (wAj s.now).set k.toNat (.int .u8 0) := by unfold wCo wAj; rw [List.map_set]; rfl
    refine wAa (jp rfl (js rfl (fun h85 => ?_) (fun h85 => ?_)))
    · iterate 20 refine jp rfl ?_
      refine wAc (jT (wAg rfl (wAb (wAa (jp rfl (wAc (jT (wAe (jTr (jBr (jTr (jBr (jTr (wGm (fun w h => h.tl.tl) ?_))))))))))))))
      refine jr1 rfl rfl ?_
      obtain ⟨_, hnd⟩ | ⟨_, _⟩ := hbn2
      · exact .inl ⟨by rw [hI.eq]; exact lv_none hz h1 hnd, rfl⟩
      exfalso; omega
    refine jp rfl (jp rfl (sFL rfl rfl ?_))
    obtain ⟨_, _⟩ | ⟨rfl, xs, hnd, rfl, hns⟩ := hbn2
    · exfalso; omega
    obtain ⟨ya_, yc_, ps, e_, hyc, hys, hyp, hyb⟩ := id hns
    cases e_
    have hno := wBo hnd
    have hlv := hno.lev
    have hlen := hno.len
    have hpl : ps.length = xs.length := by rw [← hyp, List.length_map]
    refine wAi rfl rfl (wBe rfl rfl rfl rfl (by omega)) ?_
    refine wAi rfl rfl (qLd rfl rfl rfl rfl (((hfx _ _ (by rw [Nat.mul_one]; exact wHy (j := k.toNat) (by omega))).mono (hI.mle.trans hMn)).cj _)) ?_
    refine js rfl (fun h92 => ?_) (fun h92 => ?_)
    · iterate 13 refine jp rfl ?_
      refine wAc (jT (wAg rfl (wAb (wAa (jp rfl (wAc (jT (wAe (jTr (jBr (jTr (jBr (jTr (wGm (fun w h => h.tl.tl) ?_))))))))))))))
      refine jr1 rfl rfl ?_
      exact .inl ⟨by rw [hI.eq]; show lvF _ _ _ _ = _; rw [wFm hz h1 hnd, if_pos (.inl (UInt8.toNat.inj (by simpa using h92)))], rfl⟩
    refine jp rfl (jp rfl (sFL rfl rfl ?_))
    refine js rfl (fun h97 => ?_) (fun h97 => ?_)
    · refine jp rfl ?_
      refine sFL rfl rfl ?_
      refine sFL rfl rfl ?_
      refine js rfl (fun h103 => ?_) (fun h103 => ?_)
      · refine jp rfl ?_
        refine jp rfl (wAc (jT (wAg rfl (wAb (wAa (jp rfl (wAc (jT (wAe (jTr (jBr (jTr (jBr (jTr (wGm (fun w h => h.tl.tl) ?_)))))))))))))))
        refine jr1 rfl rfl ?_
        exact .inl ⟨by rw [hI.eq]; show lvF _ _ _ _ = _; rw [wFm hz h1 hnd, if_pos (.inr ⟨h97, h103⟩)], rfl⟩
      refine jp rfl (jp rfl (wAc (jT (wAk rfl (wAd (jT (wAb (wAb ?_))))))))
      have hng : ¬ (s0.now.getD k.toNat 0 = 0 ∨ 0 ≤ l ∧ lv ≠ l) := by
        rintro (e | ⟨_, e⟩)
        · exact h92 (by rw [e]; rfl)
        exact e (Classical.not_not.1 h103)
      refine wAa (sFL rfl rfl ?_)
      refine js rfl (fun h108 => ?_) (fun h108 => ?_)
      · refine wAc ?_
        refine jT (wAg rfl (wAb (wAb (wAa (sFL rfl rfl ?_)))))
        refine wAy rfl rfl (wAu rfl rfl rfl rfl rfl (by kernel_rfl) (bwi _ _ _ Mn)) ?_; rintro _ Mb _ ⟨hMb, _, rfl, ⟨b111, rfl, e111, rfl⟩⟩
        rw [← hpl] at e111
        simp only [nA]
        refine wAc (jT (wAh ?_))
        refine wKj (M' := Mb) (L' := ((b8, .cells [.int .i64 lv, .slice ya xs.length yc].toArray 53 (0, 0)) :: (b6, .cells [.slice (some ⟨sg, 0, none⟩) st.length vc0].toArray 97 (0, 0)) :: [(sg, .cells scur TO (0, 0))]) ++ (mks D ++ ((bb, .cells [bv, wv, .slice (some ⟨ng, 0, none⟩) s.now.length nc, lw].toArray TBn (0, 0)) :: (Rw ++ Rn')))) (fun w h => (St.dropAt (A := [_]) h).perm (wGe fun f => by simp only [mks, List.map_append, List.map_cons, List.map_nil, List.sum_append, List.sum_cons, List.sum_nil]; omega)) ?_
        refine wLq (R := (b8, .cells [.int .i64 lv, .slice ya xs.length yc].toArray 53 (0, 0)) :: (b6, .cells [.slice (some ⟨sg, 0, none⟩) st.length vc0].toArray 97 (0, 0)) :: [(sg, .cells scur TO (0, 0))]) (xs := bw ps 0) (enc := (fun p : (It × Value) × Nat => [.int .i64 p.2, .agg (wAs p.1).toArray])) (ps := [112, 113]) rfl (by kernel_rfl) (bwi_iter b111 ya yc ps Mb e111 (hys.mono hMb) (by omega))
          (fun pre _ R => ∃ v Rs, R = (b8, .cells [.int .i64 lv, .slice ya xs.length yc].toArray 53 (0, 0)) :: (b6, .cells [v].toArray 97 (0, 0)) :: Rs ∧ Own v Rs TO 2 (st.length + pre.length) ((st.reverse ++ pre.map (fun q => (q.1.1.ref, lv - 1))).flatMap wKd))
          (fun _ _ _ _ => False)
          (fun _ => rfl) (by decide) ⟨_, _, rfl, (by simpa using hown2)⟩ ?_ ?_ ?_
        · intro l2 W2 pre y M2 R2 hM2 hI2 hpre
          obtain ⟨v2, Rs2, rfl, hown3⟩ := hI2
          have hym : y.1 ∈ ps := bw_mem (hpre.subset (by simp))
          obtain ⟨⟨yi, yv⟩, yx⟩ := y
          have hyb2 := hyb _ hym
          obtain ⟨va, vc, hyv, _, _⟩ := hyb2
          change yv = Value.slice va yi.val.length vc at hyv; subst hyv
          obtain ⟨a3, c3, rfl⟩ := hown3.form
          refine wAa (sAl rfl fun b11 => ?_)
          refine sSt rfl ?_
          refine wAc (jK fun W' => ?_)
          refine wAh (wAa (sLd rfl ?_))
          refine sFL rfl rfl ?_
          refine sFL rfl rfl ?_
          refine ja rfl (by omega) ?_
          refine wAi rfl rfl (wBa (cs := [_, _]) rfl rfl rfl (by rfl)) ?_
          refine wAy rfl rfl (wAn (cs := [_, _]) rfl rfl rfl (by rfl) (by rfl) (by rfl)) ?_; rintro _ _ _ ⟨b121, rfl, rfl, rfl⟩
          refine wAy rfl rfl (wDv (R := Rs2) (m := 1) rfl rfl rfl rfl hown3 rfl (fun i v hv => CJ.loc (by simpa using hv)) rfl (by rfl) (by simp [Value.oneCell']) (by have := hpre.length_le; rw [wGs, List.length_append, List.length_singleton] at this; omega) (by omega)) ?_; rintro s' _ _ ⟨rfl, R', rfl, hown', _⟩
          obtain ⟨a4, c4, rfl⟩ := hown'.form
          refine sSt rfl ?_
          refine wAc (jB ?_)
          refine wGb (M' := M2) (L' := (b8, .cells [.int .i64 lv, .slice ya xs.length yc].toArray 53 (0, 0)) :: (b6, .cells [.slice a4 (st.length + pre.length + 1) c4].toArray 97 (0, 0)) :: R') (fun w h => h.dropAt.dropAt.perm (wGe fun f => by simp only [mks, List.map_append, List.map_cons, List.map_nil, List.sum_append, List.sum_cons, List.sum_nil]; omega)) ?_
          refine jQn ?_
          refine ⟨_, _, rfl, ?_⟩
          simpa [List.map_append, List.flatMap_append, wKd, Nat.add_assoc, List.append_assoc] using hown'
        · intro d M3 R3 hM3 hI3
          obtain ⟨v3, Rs3, rfl, hown3⟩ := hI3
          refine jB (jT (wAw (jTx (jBx ?_))))
          refine wLr ⟨wCo s k.toNat, (wGu lv xs ++ st), f, (d :: D), M3, ((bb, .cells [bv, wv, .slice (some ⟨ng, 0, none⟩) s.now.length nc, lw].toArray TBn (0, 0)) :: (Rw ++ Rn')), Rs3, v3⟩ rfl (.cons (t := 0) rfl (.cons (t := 5) rfl (.cons (t := 6) rfl .nil))) ⟨wHm hI.ok (by omega), hI.mle.trans (hMn.trans (hMb.trans hM3)), BOwn.put (g2.mono (hMn.trans (hMb.trans hM3))) (g3.mono (hMn.trans (hMb.trans hM3))) (g5.mono (hMn.trans (hMb.trans hM3))) rfl rfl rfl (by unfold wCo; simp) (by rw [hclr]; exact hnow2), ?_, ?_, ?_, ?_, ?_⟩ (by show f < f + 1; omega) ?_
          · show Own v3 Rs3 TO 2 (wGu lv xs ++ st).length ((wGu lv xs ++ st).reverse.flatMap wKd)
            rw [push_rev hyp, wGs] at hown3
            rw [List.reverse_append, List.length_append, show (wGu lv xs).length = ps.length by unfold wGu; rw [List.length_map]; omega, Nat.add_comm]; exact hown3
          · intro p hp; rcases List.mem_append.1 hp with hp | hp
            · obtain ⟨y, hy, rfl⟩ := List.mem_map.1 hp
              have := hno.up h108 y hy; have := hno.ref y hy; show 8 ≤ y.ref ∧ y.ref < 256; omega
            exact hrng p hp
          · have := hI.eq; rw [this]; show lvF _ _ _ _ = _; rw [wFm hz h1 hnd, if_neg hng, if_pos h108]
          · have := wGg (show k.toNat < s.now.length by omega) (show (s.now.getD k.toNat 0).toNat = 1 by rw [h1]; rfl); show wEr (wCo s k.toNat).now ≤ f; omega
          · show (wGu lv xs ++ st).length + 5 * f ≤ 400000; rw [List.length_append, show (wGu lv xs).length = xs.length by unfold wGu; rw [List.length_map]]; have := hno.len; omega
          exact fun w h => (h.perm (L' := (b8, .cells [.int .i64 lv, .slice ya xs.length yc].toArray 53 (0, 0)) :: (mks (d :: D) ++ ((b6, .cells [v3].toArray 97 (0, 0)) :: (Rs3 ++ ((bb, .cells [bv, wv, .slice (some ⟨ng, 0, none⟩) s.now.length nc, lw].toArray TBn (0, 0)) :: (Rw ++ Rn')))))) (wGe fun f => by simp only [mks, List.map_append, List.map_cons, List.map_nil, List.sum_append, List.sum_cons, List.sum_nil]; omega)).tl
        intro _ _ _ _ _ _ _ h; exact h.elim
      refine wAc (jT (wAk rfl (wAd (jT (wAb (wAa (sFL rfl rfl ?_)))))))
      refine wAi rfl rfl (wBj rfl rfl rfl) ?_
      refine jp rfl (wAc (jT (wAh (wKj (M' := Mn) (L' := mks D ++ ((b6, .cells [.slice (some ⟨sg, 0, none⟩) st.length vc0].toArray 97 (0, 0)) :: ([(sg, .cells scur TO (0, 0))] ++ ((bb, .cells [bv, wv, .slice (some ⟨ng, 0, none⟩) s.now.length nc, lw].toArray TBn (0, 0)) :: (Rw ++ Rn'))))) (fun w h => h.tl.tl) ?_))))
      refine wAv (α := Nat × Sto × Mem × Lc) (fun x => [(0, .pointer (some ⟨bb, 0, none⟩)), (5, .slice (some ⟨fb, fo, none⟩) s0.now.length fc), (6, .pointer (some ⟨b6, 0, none⟩)), (124, .slice ya xs.length yc), (125, .int .i64 xs.length), (126, .int .i64 x.1)]) (fun x => x.2.2.1) (fun x => mks D ++ ((b6, .cells [.slice (some ⟨sg, 0, none⟩) st.length vc0].toArray 97 (0, 0)) :: ([(sg, .cells scur TO (0, 0))] ++ x.2.2.2))) (fun x => x.1 ≤ xs.length ∧ MLe Mn x.2.2.1 ∧ BOwn x.2.2.1 bb x.2.2.2 x.2.1 ∧ wCc x.2.1 ∧ wEr x.2.1.now ≤ f ∧ wEj xs (wCo s k.toNat) = wEj (xs.drop x.1) x.2.1) (fun x => xs.length - x.1)
        (0, wCo s k.toNat, Mn, ((bb, .cells [bv, wv, .slice (some ⟨ng, 0, none⟩) s.now.length nc, lw].toArray TBn (0, 0)) :: (Rw ++ Rn'))) (.cons (t := 0) rfl (.cons (t := 5) rfl (.cons (t := 6) rfl (.cons (t := 124) rfl (.cons (t := 125) rfl (.cons (t := 126) rfl .nil)))))) ⟨Nat.zero_le _, MLe.refl _, BOwn.put (g2.mono hMn) (g3.mono hMn) (g5.mono hMn) rfl rfl rfl (by unfold wCo; simp) (by rw [hclr]; exact hnow2), wHm hI.ok (by omega), (by have := wGg (show k.toNat < s.now.length by omega) (show (s.now.getD k.toNat 0).toNat = 1 by rw [h1]; rfl); show wEr (wCo s k.toNat).now ≤ f; omega), rfl⟩ (fun w h => h) ?_
      rintro ⟨j, t, Mj, Lj⟩ ⟨hj, hMj, hB, htok, hsum, hloo⟩
      try dsimp only at hj hMj hB htok hsum hloo ⊢
      refine wAb (wAa (js rfl (fun h127 => ?_) (fun h127 => ?_)))
      · refine wAc ?_
        refine jT (wAb (wAg rfl (wAd (jT (wAb (wAh (wAb (wAa ?_))))))))
        have hj1 : j < xs.length := by omega
        obtain ⟨sb, so, e0, hx⟩ := (hys.mono hMj).open (by intro e; have := congrArg List.length e; rw [wBi wAs 5 wAq, List.length_nil] at this; omega)
        cases e0
        obtain ⟨va, vc, hcl, hvc, hvs⟩ := wBt hx hyp (fun p hp => (hyb p hp).mono hMj) hj1
        have hxr := hno.ref xs[j] (List.getElem_mem hj1)
        have ht256 : t.now.length = 256 := htok.2.1.1
        refine wAi rfl rfl (wBe rfl rfl rfl rfl (by omega)) ?_
        refine wAi rfl rfl (wGx (cs := itc xs[j] va vc) rfl rfl rfl rfl rfl (fun i v hv => (hcl i v hv).cj _)) ?_
        refine sAl rfl fun b13 => ?_
        refine sSt rfl ?_
        refine wAc (jT (wAb (wAb (wAa (sFL rfl rfl ?_)))))
        refine js rfl (fun h132 => ?_) (fun h132 => ?_)
        · refine wAc ?_
          refine jT (wAg rfl (wAw (jTx (jBx (jT (wAa (ja rfl (by omega) ?_)))))))
          refine jp rfl (wAc ?_)
          refine wAp (j + 1, t, Mj, Lj) (.cons (t := 0) rfl (.cons (t := 5) rfl (.cons (t := 6) rfl (.cons (t := 124) rfl (.cons (t := 125) rfl (.cons (t := 126) rfl .nil)))))) ⟨by show j + 1 ≤ xs.length; omega, hMj, hB, htok, hsum, by show _ = wEj (xs.drop (j + 1)) t; rw [hloo, wFn hj1, if_pos h132]⟩ (by show xs.length - (j + 1) < xs.length - j; omega) (fun w h => h.tl)
        refine wAc (jT (wAk rfl (wAd (jT (wAb (wAa (jp rfl (sFL rfl rfl ?_))))))))
        have hkr2 : ((xs[j].ref.toNat : Nat) : Int) = xs[j].ref := Int.toNat_of_nonneg (by omega)
        refine wAy rfl rfl (wAu rfl rfl rfl rfl rfl (by kernel_rfl) (by have := loose_any t xs[j].ref.toNat bb (by omega) Mj Lj hB; rwa [hkr2] at this)) ?_; rintro _ Mq _ ⟨hMq, R', rfl, ⟨rfl, hB2⟩⟩
        refine jp rfl (wAc (jT (wAb (wAa (jp rfl (js rfl (fun h138 => ?_) (fun h138 => ?_)))))))
        · refine wAc ?_
          refine jT (wAg rfl (wAb (wAa (jp rfl (wAc (jT (wAe (jBr (jTr (jTr (jBr (jBr (jTr (jBr (jTr (wGm (fun w h => (h.fewer (List.sublist_append_right _ _)).tl) ?_))))))))))))))))
          refine jr1 rfl rfl ?_
          exact .inl ⟨by rw [hI.eq]; show lvF _ _ _ _ = _; rw [wFm hz h1 hnd, if_neg hng, if_neg h108, hloo, wFn hj1, if_neg h132, if_neg h138], rfl⟩
        refine wAc (jT (wAk rfl (wAd (jB (jT (wAa (ja rfl (by omega) ?_)))))))
        refine jp rfl (wAc ?_)
        have h138' := Classical.not_not.1 h138
        refine wAp (j + 1, wBx t xs[j].ref.toNat, Mq, R') (.cons (t := 0) rfl (.cons (t := 5) rfl (.cons (t := 6) rfl (.cons (t := 124) rfl (.cons (t := 125) rfl (.cons (t := 126) rfl .nil)))))) ⟨by show j + 1 ≤ xs.length; omega, hMj.trans hMq, hB2 h138', wFv htok (by omega), ?_, by show _ = wEj (xs.drop (j + 1)) _; rw [hloo, wFn hj1, if_neg h132, if_pos h138']⟩ (by show xs.length - (j + 1) < xs.length - j; omega) (fun w h => h.dropAt.perm (wGe fun f => by simp only [mks, List.map_append, List.map_cons, List.map_nil, List.sum_append, List.sum_cons, List.sum_nil]; omega))
        have hz2 : t.now.getD xs[j].ref.toNat 0 ≠ 0 := fun e => by unfold wDo at h138'; rw [if_pos e] at h138'; cases h138'
        have := wEw (show xs[j].ref.toNat < t.now.length by omega) hz2; show wEr (wBx t xs[j].ref.toNat).now ≤ f; omega
      refine wAc (jT (wAb (wAk rfl (wAw (jTx (jTx (jBx (jB ?_))))))))
      have hjx : j = xs.length := by omega
      subst hjx
      rw [List.drop_length] at hloo
      refine wLr ⟨t, st, f, D, Mj, Lj, [(sg, .cells scur TO (0, 0))], .slice (some ⟨sg, 0, none⟩) st.length vc0⟩ rfl (.cons (t := 0) rfl (.cons (t := 5) rfl (.cons (t := 6) rfl .nil))) ⟨htok, hI.mle.trans (hMn.trans hMj), hB, hown2, hrng, ?_, hsum, ?_⟩ (by show f < f + 1; omega) ?_
      · have := hI.eq; rw [this]; show lvF _ _ _ _ = _; rw [wFm hz h1 hnd, if_neg hng, if_neg h108, hloo]; rfl
      · show st.length + 5 * f ≤ 400000; omega
      exact fun w h => h
    iterate 8 refine jp rfl ?_
    refine wAc (jT (wAk rfl (wAd (jT (wAb (wAb ?_))))))
    have hng : ¬ (s0.now.getD k.toNat 0 = 0 ∨ 0 ≤ l ∧ lv ≠ l) := by
      rintro (e | ⟨e, _⟩)
      · exact h92 (by rw [e]; rfl)
      exact h97 e
    refine wAa (sFL rfl rfl ?_)
    refine js rfl (fun h108 => ?_) (fun h108 => ?_)
    · refine wAc ?_
      refine jT (wAg rfl (wAb (wAb (wAa (sFL rfl rfl ?_)))))
      refine wAy rfl rfl (wAu rfl rfl rfl rfl rfl (by kernel_rfl) (bwi _ _ _ Mn)) ?_; rintro _ Mb _ ⟨hMb, _, rfl, ⟨b111, rfl, e111, rfl⟩⟩
      rw [← hpl] at e111
      simp only [nA]
      refine wAc (jT (wAh ?_))
      refine wKj (M' := Mb) (L' := ((b8, .cells [.int .i64 lv, .slice ya xs.length yc].toArray 53 (0, 0)) :: (b6, .cells [.slice (some ⟨sg, 0, none⟩) st.length vc0].toArray 97 (0, 0)) :: [(sg, .cells scur TO (0, 0))]) ++ (mks D ++ ((bb, .cells [bv, wv, .slice (some ⟨ng, 0, none⟩) s.now.length nc, lw].toArray TBn (0, 0)) :: (Rw ++ Rn')))) (fun w h => (St.dropAt (A := [_]) h).perm (wGe fun f => by simp only [mks, List.map_append, List.map_cons, List.map_nil, List.sum_append, List.sum_cons, List.sum_nil]; omega)) ?_
      refine wLq (R := (b8, .cells [.int .i64 lv, .slice ya xs.length yc].toArray 53 (0, 0)) :: (b6, .cells [.slice (some ⟨sg, 0, none⟩) st.length vc0].toArray 97 (0, 0)) :: [(sg, .cells scur TO (0, 0))]) (xs := bw ps 0) (enc := (fun p : (It × Value) × Nat => [.int .i64 p.2, .agg (wAs p.1).toArray])) (ps := [112, 113]) rfl (by kernel_rfl) (bwi_iter b111 ya yc ps Mb e111 (hys.mono hMb) (by omega))
        (fun pre _ R => ∃ v Rs, R = (b8, .cells [.int .i64 lv, .slice ya xs.length yc].toArray 53 (0, 0)) :: (b6, .cells [v].toArray 97 (0, 0)) :: Rs ∧ Own v Rs TO 2 (st.length + pre.length) ((st.reverse ++ pre.map (fun q => (q.1.1.ref, lv - 1))).flatMap wKd))
        (fun _ _ _ _ => False)
        (fun _ => rfl) (by decide) ⟨_, _, rfl, (by simpa using hown2)⟩ ?_ ?_ ?_
      · intro l2 W2 pre y M2 R2 hM2 hI2 hpre
        obtain ⟨v2, Rs2, rfl, hown3⟩ := hI2
        have hym : y.1 ∈ ps := bw_mem (hpre.subset (by simp))
        obtain ⟨⟨yi, yv⟩, yx⟩ := y
        have hyb2 := hyb _ hym
        obtain ⟨va, vc, hyv, _, _⟩ := hyb2
        change yv = Value.slice va yi.val.length vc at hyv; subst hyv
        obtain ⟨a3, c3, rfl⟩ := hown3.form
        refine wAa (sAl rfl fun b11 => ?_)
        refine sSt rfl ?_
        refine wAc (jK fun W' => ?_)
        refine wAh (wAa (sLd rfl ?_))
        refine sFL rfl rfl ?_
        refine sFL rfl rfl ?_
        refine ja rfl (by omega) ?_
        refine wAi rfl rfl (wBa (cs := [_, _]) rfl rfl rfl (by rfl)) ?_
        refine wAy rfl rfl (wAn (cs := [_, _]) rfl rfl rfl (by rfl) (by rfl) (by rfl)) ?_; rintro _ _ _ ⟨b121, rfl, rfl, rfl⟩
        refine wAy rfl rfl (wDv (R := Rs2) (m := 1) rfl rfl rfl rfl hown3 rfl (fun i v hv => CJ.loc (by simpa using hv)) rfl (by rfl) (by simp [Value.oneCell']) (by have := hpre.length_le; rw [wGs, List.length_append, List.length_singleton] at this; omega) (by omega)) ?_; rintro s' _ _ ⟨rfl, R', rfl, hown', _⟩
        obtain ⟨a4, c4, rfl⟩ := hown'.form
        refine sSt rfl ?_
        refine wAc (jB ?_)
        refine wGb (M' := M2) (L' := (b8, .cells [.int .i64 lv, .slice ya xs.length yc].toArray 53 (0, 0)) :: (b6, .cells [.slice a4 (st.length + pre.length + 1) c4].toArray 97 (0, 0)) :: R') (fun w h => h.dropAt.dropAt.perm (wGe fun f => by simp only [mks, List.map_append, List.map_cons, List.map_nil, List.sum_append, List.sum_cons, List.sum_nil]; omega)) ?_
        refine jQn ?_
        refine ⟨_, _, rfl, ?_⟩
        simpa [List.map_append, List.flatMap_append, wKd, Nat.add_assoc, List.append_assoc] using hown'
      · intro d M3 R3 hM3 hI3
        obtain ⟨v3, Rs3, rfl, hown3⟩ := hI3
        refine jB (jT (wAw (jTx (jBx ?_))))
        refine wLr ⟨wCo s k.toNat, (wGu lv xs ++ st), f, (d :: D), M3, ((bb, .cells [bv, wv, .slice (some ⟨ng, 0, none⟩) s.now.length nc, lw].toArray TBn (0, 0)) :: (Rw ++ Rn')), Rs3, v3⟩ rfl (.cons (t := 0) rfl (.cons (t := 5) rfl (.cons (t := 6) rfl .nil))) ⟨wHm hI.ok (by omega), hI.mle.trans (hMn.trans (hMb.trans hM3)), BOwn.put (g2.mono (hMn.trans (hMb.trans hM3))) (g3.mono (hMn.trans (hMb.trans hM3))) (g5.mono (hMn.trans (hMb.trans hM3))) rfl rfl rfl (by unfold wCo; simp) (by rw [hclr]; exact hnow2), ?_, ?_, ?_, ?_, ?_⟩ (by show f < f + 1; omega) ?_
        · show Own v3 Rs3 TO 2 (wGu lv xs ++ st).length ((wGu lv xs ++ st).reverse.flatMap wKd)
          rw [push_rev hyp, wGs] at hown3
          rw [List.reverse_append, List.length_append, show (wGu lv xs).length = ps.length by unfold wGu; rw [List.length_map]; omega, Nat.add_comm]; exact hown3
        · intro p hp; rcases List.mem_append.1 hp with hp | hp
          · obtain ⟨y, hy, rfl⟩ := List.mem_map.1 hp
            have := hno.up h108 y hy; have := hno.ref y hy; show 8 ≤ y.ref ∧ y.ref < 256; omega
          exact hrng p hp
        · have := hI.eq; rw [this]; show lvF _ _ _ _ = _; rw [wFm hz h1 hnd, if_neg hng, if_pos h108]
        · have := wGg (show k.toNat < s.now.length by omega) (show (s.now.getD k.toNat 0).toNat = 1 by rw [h1]; rfl); show wEr (wCo s k.toNat).now ≤ f; omega
        · show (wGu lv xs ++ st).length + 5 * f ≤ 400000; rw [List.length_append, show (wGu lv xs).length = xs.length by unfold wGu; rw [List.length_map]]; have := hno.len; omega
        exact fun w h => (h.perm (L' := (b8, .cells [.int .i64 lv, .slice ya xs.length yc].toArray 53 (0, 0)) :: (mks (d :: D) ++ ((b6, .cells [v3].toArray 97 (0, 0)) :: (Rs3 ++ ((bb, .cells [bv, wv, .slice (some ⟨ng, 0, none⟩) s.now.length nc, lw].toArray TBn (0, 0)) :: (Rw ++ Rn')))))) (wGe fun f => by simp only [mks, List.map_append, List.map_cons, List.map_nil, List.sum_append, List.sum_cons, List.sum_nil]; omega)).tl
      intro _ _ _ _ _ _ _ h; exact h.elim
    refine wAc (jT (wAk rfl (wAd (jT (wAb (wAa (sFL rfl rfl ?_)))))))
    refine wAi rfl rfl (wBj rfl rfl rfl) ?_
    refine jp rfl (wAc (jT (wAh (wKj (M' := Mn) (L' := mks D ++ ((b6, .cells [.slice (some ⟨sg, 0, none⟩) st.length vc0].toArray 97 (0, 0)) :: ([(sg, .cells scur TO (0, 0))] ++ ((bb, .cells [bv, wv, .slice (some ⟨ng, 0, none⟩) s.now.length nc, lw].toArray TBn (0, 0)) :: (Rw ++ Rn'))))) (fun w h => h.tl.tl) ?_))))
    refine wAv (α := Nat × Sto × Mem × Lc) (fun x => [(0, .pointer (some ⟨bb, 0, none⟩)), (5, .slice (some ⟨fb, fo, none⟩) s0.now.length fc), (6, .pointer (some ⟨b6, 0, none⟩)), (124, .slice ya xs.length yc), (125, .int .i64 xs.length), (126, .int .i64 x.1)]) (fun x => x.2.2.1) (fun x => mks D ++ ((b6, .cells [.slice (some ⟨sg, 0, none⟩) st.length vc0].toArray 97 (0, 0)) :: ([(sg, .cells scur TO (0, 0))] ++ x.2.2.2))) (fun x => x.1 ≤ xs.length ∧ MLe Mn x.2.2.1 ∧ BOwn x.2.2.1 bb x.2.2.2 x.2.1 ∧ wCc x.2.1 ∧ wEr x.2.1.now ≤ f ∧ wEj xs (wCo s k.toNat) = wEj (xs.drop x.1) x.2.1) (fun x => xs.length - x.1)
      (0, wCo s k.toNat, Mn, ((bb, .cells [bv, wv, .slice (some ⟨ng, 0, none⟩) s.now.length nc, lw].toArray TBn (0, 0)) :: (Rw ++ Rn'))) (.cons (t := 0) rfl (.cons (t := 5) rfl (.cons (t := 6) rfl (.cons (t := 124) rfl (.cons (t := 125) rfl (.cons (t := 126) rfl .nil)))))) ⟨Nat.zero_le _, MLe.refl _, BOwn.put (g2.mono hMn) (g3.mono hMn) (g5.mono hMn) rfl rfl rfl (by unfold wCo; simp) (by rw [hclr]; exact hnow2), wHm hI.ok (by omega), (by have := wGg (show k.toNat < s.now.length by omega) (show (s.now.getD k.toNat 0).toNat = 1 by rw [h1]; rfl); show wEr (wCo s k.toNat).now ≤ f; omega), rfl⟩ (fun w h => h) ?_
    rintro ⟨j, t, Mj, Lj⟩ ⟨hj, hMj, hB, htok, hsum, hloo⟩
    try dsimp only at hj hMj hB htok hsum hloo ⊢
    refine wAb (wAa (js rfl (fun h127 => ?_) (fun h127 => ?_)))
    · refine wAc ?_
      refine jT (wAb (wAg rfl (wAd (jT (wAb (wAh (wAb (wAa ?_))))))))
      have hj1 : j < xs.length := by omega
      obtain ⟨sb, so, e0, hx⟩ := (hys.mono hMj).open (by intro e; have := congrArg List.length e; rw [wBi wAs 5 wAq, List.length_nil] at this; omega)
      cases e0
      obtain ⟨va, vc, hcl, hvc, hvs⟩ := wBt hx hyp (fun p hp => (hyb p hp).mono hMj) hj1
      have hxr := hno.ref xs[j] (List.getElem_mem hj1)
      have ht256 : t.now.length = 256 := htok.2.1.1
      refine wAi rfl rfl (wBe rfl rfl rfl rfl (by omega)) ?_
      refine wAi rfl rfl (wGx (cs := itc xs[j] va vc) rfl rfl rfl rfl rfl (fun i v hv => (hcl i v hv).cj _)) ?_
      refine sAl rfl fun b13 => ?_
      refine sSt rfl ?_
      refine wAc (jT (wAb (wAb (wAa (sFL rfl rfl ?_)))))
      refine js rfl (fun h132 => ?_) (fun h132 => ?_)
      · refine wAc ?_
        refine jT (wAg rfl (wAw (jTx (jBx (jT (wAa (ja rfl (by omega) ?_)))))))
        refine jp rfl (wAc ?_)
        refine wAp (j + 1, t, Mj, Lj) (.cons (t := 0) rfl (.cons (t := 5) rfl (.cons (t := 6) rfl (.cons (t := 124) rfl (.cons (t := 125) rfl (.cons (t := 126) rfl .nil)))))) ⟨by show j + 1 ≤ xs.length; omega, hMj, hB, htok, hsum, by show _ = wEj (xs.drop (j + 1)) t; rw [hloo, wFn hj1, if_pos h132]⟩ (by show xs.length - (j + 1) < xs.length - j; omega) (fun w h => h.tl)
      refine wAc (jT (wAk rfl (wAd (jT (wAb (wAa (jp rfl (sFL rfl rfl ?_))))))))
      have hkr2 : ((xs[j].ref.toNat : Nat) : Int) = xs[j].ref := Int.toNat_of_nonneg (by omega)
      refine wAy rfl rfl (wAu rfl rfl rfl rfl rfl (by kernel_rfl) (by have := loose_any t xs[j].ref.toNat bb (by omega) Mj Lj hB; rwa [hkr2] at this)) ?_; rintro _ Mq _ ⟨hMq, R', rfl, ⟨rfl, hB2⟩⟩
      refine jp rfl (wAc (jT (wAb (wAa (jp rfl (js rfl (fun h138 => ?_) (fun h138 => ?_)))))))
      · refine wAc ?_
        refine jT (wAg rfl (wAb (wAa (jp rfl (wAc (jT (wAe (jBr (jTr (jTr (jBr (jBr (jTr (jBr (jTr (wGm (fun w h => (h.fewer (List.sublist_append_right _ _)).tl) ?_))))))))))))))))
        refine jr1 rfl rfl ?_
        exact .inl ⟨by rw [hI.eq]; show lvF _ _ _ _ = _; rw [wFm hz h1 hnd, if_neg hng, if_neg h108, hloo, wFn hj1, if_neg h132, if_neg h138], rfl⟩
      refine wAc (jT (wAk rfl (wAd (jB (jT (wAa (ja rfl (by omega) ?_)))))))
      refine jp rfl (wAc ?_)
      have h138' := Classical.not_not.1 h138
      refine wAp (j + 1, wBx t xs[j].ref.toNat, Mq, R') (.cons (t := 0) rfl (.cons (t := 5) rfl (.cons (t := 6) rfl (.cons (t := 124) rfl (.cons (t := 125) rfl (.cons (t := 126) rfl .nil)))))) ⟨by show j + 1 ≤ xs.length; omega, hMj.trans hMq, hB2 h138', wFv htok (by omega), ?_, by show _ = wEj (xs.drop (j + 1)) _; rw [hloo, wFn hj1, if_neg h132, if_pos h138']⟩ (by show xs.length - (j + 1) < xs.length - j; omega) (fun w h => h.dropAt.perm (wGe fun f => by simp only [mks, List.map_append, List.map_cons, List.map_nil, List.sum_append, List.sum_cons, List.sum_nil]; omega))
      have hz2 : t.now.getD xs[j].ref.toNat 0 ≠ 0 := fun e => by unfold wDo at h138'; rw [if_pos e] at h138'; cases h138'
      have := wEw (show xs[j].ref.toNat < t.now.length by omega) hz2; show wEr (wBx t xs[j].ref.toNat).now ≤ f; omega
    refine wAc (jT (wAb (wAk rfl (wAw (jTx (jTx (jBx (jB ?_))))))))
    have hjx : j = xs.length := by omega
    subst hjx
    rw [List.drop_length] at hloo
    refine wLr ⟨t, st, f, D, Mj, Lj, [(sg, .cells scur TO (0, 0))], .slice (some ⟨sg, 0, none⟩) st.length vc0⟩ rfl (.cons (t := 0) rfl (.cons (t := 5) rfl (.cons (t := 6) rfl .nil))) ⟨htok, hI.mle.trans (hMn.trans hMj), hB, hown2, hrng, ?_, hsum, ?_⟩ (by show f < f + 1; omega) ?_
    · have := hI.eq; rw [this]; show lvF _ _ _ _ = _; rw [wFm hz h1 hnd, if_neg hng, if_neg h108, hloo]; rfl
    · show st.length + 5 * f ≤ 400000; omega
    exact fun w h => h
  refine wAc (jT (wAk rfl (wAw (jTx (jTx (jBx (jT (wAb (wAa (jp rfl (wAc (jT (wAe (wGm (fun w h => h) ?_))))))))))))))
  refine wGb (M' := Mk) (L' := (bb, .cells [bv, wv, .slice (some ⟨ng, 0, none⟩) s.now.length nc, lw].toArray TBn (0, 0)) :: (Rw ++ [(ng, .cells ncur 5 (0, 0))])) (fun w h => h.tl.fewer (List.sublist_append_right _ _)) ?_
  refine jr1 rfl rfl ?_
  obtain rfl : st = [] := List.eq_nil_of_length_eq_zero (by omega)
  exact .inr ⟨s, by rw [hI.eq]; cases f <;> rfl, rfl, hI.ok, hI.bo⟩
end Go.Proofs.YtkcpllhggofloaaGreat
