/- Walks: numbers as bytes, sums. -/
import Derived.Test.YtkcpllhggofloaaGreatZBase
namespace Go.Proofs.YtkcpllhggofloaaGreat
set_option linter.unusedVariables false
set_option linter.unusedSectionVars false
set_option linter.unusedSimpArgs false
open Go.RowKit
def bw {α : Type} (xs : List α) (k : Nat) : List (α × Nat) := (xs.zipIdx.drop k).reverse
theorem bw_len {α : Type} (xs : List α) : bw xs xs.length = [] := by simp [bw, List.drop_eq_nil_of_le]
theorem wJo {α : Type} (xs : List α) {k : Nat} (h : k < xs.length) : bw xs k = bw xs (k + 1) ++ [(xs[k], k)] := by
 unfold bw
 rw [List.drop_eq_getElem_cons (by simpa using h), List.reverse_cons]
 simp
theorem wFx {α : Type} (xs : List α) (k : Nat) : bw xs k <+: bw xs 0 := by
 unfold bw
 rw [List.drop_zero]
 exact List.reverse_prefix.2 (List.drop_suffix k _)
theorem bw_fst {α : Type} (xs : List α) : (bw xs 0).map (·.1) = xs.reverse := by
 unfold bw; rw [List.drop_zero, List.map_reverse]; simp
theorem bwb (a : Option Addr) (n c : Nat) (M : Mem) :
  SpecL Tryz.prog 130 #[.slice a n c] M [] fun u M' L' => ∃ b, u = .func (.func 131) #[] #[.pointer (some ⟨b, 0, none⟩)] ∧ M' b = some (.cells #[.slice a n c] 26 (0, 0)) ∧ L' = [] := by
 refine wAf (vs := [_]) 4 _ Tryz.func130 rfl Tryz.ntmps130 rfl rfl ?_; intro W
 refine wAb (wAa (wAy rfl rfl (wCm (cs := [.slice a n c]) rfl rfl rfl rfl) ?_)); rintro _ _ _ ⟨b1, rfl, rfl, rfl⟩
 refine jp rfl (wAc (jT (wAb (wAa (jp rfl (jp rfl (wAc (jT (wAe (wEe b1 (by simp) ?_))))))))))
 intro M1 hM1 e1
 refine jr1 rfl rfl ?_
 exact ⟨b1, rfl, e1, rfl⟩
theorem bwb_body (b sb so c : Nat) (xs : List (By)) (M : Mem) (hb : M b = some (.cells #[.slice (some ⟨sb, so, none⟩) xs.length c] 26 (0, 0))) (hx : ∀ i v, (wAj xs)[i]? = some v → CM M sb (so + i) v) (hn : xs.length ≤ 1000000) (l : Nat) (J Jx : List (By × Nat) → Mem → Lc → Prop) (M1 : Mem) (L0 : Lc) (hM : MLe M M1) (hJ : ∀ pre y M2 L2, MLe M1 M2 → J pre M2 L2 → pre ++ [y] <+: bw xs 0 → RoundL Tryz.prog l ((fun p : By × Nat => [.int .i64 p.2, .int .u8 p.1.toNat]) y).toArray M2 L2 fun v M' L' => (v = .bool true ∧ J (pre ++ [y]) M' L') ∨ (v = .bool false ∧ Jx (pre ++ [y]) M' L')) (h0 : J [] M1 L0) :
  SpecL Tryz.prog 131 #[.func (.yield l) #[] #[], .pointer (some ⟨b, 0, none⟩)] M1 L0 fun _ M' L' => J (bw xs 0) M' L' ∨ ∃ pre, pre <+: bw xs 0 ∧ Jx pre M' L' := by
 have hbc : ∀ {M2 : Mem} (L : Lc), MLe M1 M2 → CJ M2 L b 0 (.slice (some ⟨sb, so, none⟩) xs.length c) := fun L h => (CM.cj ⟨_, _, _, h _ _ (hM _ _ hb), rfl⟩ L)
 refine wAf (vs := [_, _]) 19 _ Tryz.func131 rfl Tryz.ntmps131 rfl rfl ?_; intro W
 refine wAb (wAa (wAi rfl rfl (qLd rfl rfl rfl rfl (hbc _ (MLe.refl _))) ?_))
 refine wAi rfl rfl (wBj rfl rfl rfl) ?_
 refine ja rfl (by omega) ?_
 refine jp rfl (wAc (jT (wAh ?_)))
 refine wAv (α := Int × Mem × Lc) (fun x => [(0, .func (.yield l) #[] #[]), (1, .pointer (some ⟨b, 0, none⟩)), (3, .int .i64 x.1)]) (fun x => x.2.1) (fun x => x.2.2) (fun x => -1 ≤ x.1 ∧ x.1 < xs.length ∧ MLe M1 x.2.1 ∧ J (bw xs (x.1 + 1).toNat) x.2.1 x.2.2) (fun x => (x.1 + 1).toNat)
  ((xs.length : Int) - 1, M1, L0) (.cons (t := 0) rfl (.cons (t := 1) rfl (.cons (t := 3) rfl .nil))) ⟨by show -1 ≤ (xs.length : Int) - 1; omega, by show (xs.length : Int) - 1 < xs.length; omega, MLe.refl _, by show J (bw xs ((xs.length : Int) - 1 + 1).toNat) _ _; rw [show ((xs.length : Int) - 1 + 1).toNat = xs.length by omega, bw_len]; exact h0⟩ (fun _ h => h) ?_
 rintro ⟨i, Mk, Lk⟩ ⟨hk0, hk, hMk, hJk⟩
 try dsimp only at hk0 hk hMk hJk ⊢
 refine wAb (wAb (wAa (jp rfl (js rfl (fun hge => ?_) (fun hge => ?_)))))
 ·refine wAc (jT (wAg rfl (wAd (jT (wAb (wAh (wAb (wAa (jp rfl (jp rfl ?_))))))))))
  obtain ⟨k, rfl⟩ : ∃ k : Nat, i = k := ⟨i.toNat, by omega⟩
  have hk1 : k < xs.length := by omega
  refine wAi rfl rfl (qLd rfl rfl rfl rfl (hbc _ hMk)) ?_
  refine jp rfl (wAi rfl rfl (wBe rfl rfl rfl rfl (by omega)) ?_)
  refine wAi rfl rfl (qEq (qLd rfl rfl rfl rfl (((hx (((k : Nat) : Int).toNat * 1) (.int .u8 xs[k].toNat) (by simp [wAj, hk1])).mono (hM.trans hMk)).cj _)) (v' := .int .u8 xs[k].toNat) rfl) ?_
  refine wAy rfl rfl (hYield rfl rfl rfl rfl (hJ (bw xs (k + 1)) (xs[k], k) Mk Lk hMk (by rwa [show ((k : Int) + 1).toNat = k + 1 by omega] at hJk) (by rw [← wJo xs hk1]; exact wFx xs k))) ?_; rintro _ M' _ ⟨hM', R', rfl, hy⟩
  rw [← wJo xs hk1] at hy
  rcases hy with ⟨rfl, hy⟩ | ⟨rfl, hy⟩
  ·refine jp rfl (wAc (jT (wAk rfl (wAd (jB (jT (wAa (jp rfl (ja rfl (by omega) ?_)))))))))
   refine jp rfl (wAc ?_)
   refine wAp ((k : Int) - 1, M', R') (.cons (t := 0) rfl (.cons (t := 1) rfl (.cons (t := 3) rfl .nil))) ⟨by show -1 ≤ (k : Int) - 1; omega, by show (k : Int) - 1 < xs.length; omega, hMk.trans hM', by show J (bw xs ((k : Int) - 1 + 1).toNat) _ _; rw [show ((k : Int) - 1 + 1).toNat = k by omega]; exact hy⟩ (by show ((k : Int) - 1 + 1).toNat < ((k : Int) + 1).toNat; omega) (fun _ h => h.fewer (by simp))
  refine jp rfl (wAc (jT (wAg rfl (wAe (jBr (jTr (jTr (jBr (wAr (L' := R') (by simp) ?_)))))))))
  refine jrs (rs := []) rfl .nil ?_
  exact .inr ⟨_, wFx xs k, hy⟩
 refine wAc (jT (wAk rfl (wAw (jTx (jTx (jBx (jrn ?_)))))))
 refine jrs (rs := []) rfl .nil ?_
 obtain rfl : i = -1 := by omega
 exact .inl hJk
theorem bwb_iter (b sb so c : Nat) (xs : List (By)) (M : Mem) (hb : M b = some (.cells #[.slice (some ⟨sb, so, none⟩) xs.length c] 26 (0, 0))) (hx : ∀ i v, (wAj xs)[i]? = some v → CM M sb (so + i) v) (hn : xs.length ≤ 1000000) :
  Iter Tryz.prog 131 [.pointer (some ⟨b, 0, none⟩)] M (fun p : By × Nat => [.int .i64 p.2, .int .u8 p.1.toNat]) (bw xs 0) :=
 fun l J Jx M1 L0 hM hJ h0 => bwb_body b sb so c xs M hb hx hn  l J Jx M1 L0 hM hJ h0
def wLw (ys : List By) : Int := ys.foldl (fun n x => bOr .u32 (bShl .u32 n 8) (x.toNat : Int)) 0
def wJa (xs : List By) (at_ n : Nat) : Int := wLw ((xs.drop at_).take n).reverse
theorem wJm (ys : List By) (y : By) : wLw (ys ++ [y]) = bOr .u32 (bShl .u32 (wLw ys) 8) (y.toNat : Int) := by simp [wLw]
theorem bOr_u32 (a b : Int) : 0 ≤ bOr .u32 a b ∧ bOr .u32 a b < 4294967296 := by
 unfold bOr; rw [IntKind.wrap_u32]; omega
theorem wJu (ys : List By) : 0 ≤ wLw ys ∧ wLw ys < 4294967296 := by
 rcases List.eq_nil_or_concat ys with rfl | ⟨zs, z, rfl⟩
 ·decide
 rw [List.concat_eq_append, wJm]; exact bOr_u32 _ _
theorem SM.sub {M : Mem} {b off : Nat} {xs : List By} (l k : Nat) (h : ∀ i v, (wAj xs)[i]? = some v → CM M b (off + i) v) : ∀ i v, (wAj ((xs.drop l).take k))[i]? = some v → CM M b (off + l * 1 + i) v := fun i v hv => by
 have := h (l + i) v (by
  simp only [wAj, List.getElem?_map, List.getElem?_take, List.getElem?_drop] at hv ⊢
  split at hv
  ·exact hv
  simp at hv)
 rwa [show off + l * 1 + i = off + (l + i) by omega]
theorem get_spec (sa : Option Addr) (c : Nat) (xs : List By) (a m : Nat) (M : Mem) (hs : SM M sa (wAj xs)) (hc : xs.length ≤ c) (h : a + m ≤ xs.length) (hm : 0 < m) (hn : xs.length ≤ 1000000) :
  SpecL Tryz.prog 119 #[.slice sa xs.length c, .int .i64 a, .int .i64 m] M [] fun v _ L' => v = .tuple #[.int .u32 (wJa xs a m), .int .i64 0] ∧ L' = [] := by
 obtain ⟨sb, so, e0, hx⟩ := hs.open (by intro e; have := congrArg List.length e; rw [wAm, List.length_nil] at this; omega)
 subst e0
 have hyl : ((xs.drop a).take m).length = m := by rw [List.length_take, List.length_drop]; omega
 refine wAf (vs := [_, _, _]) 35 _ Tryz.func119 rfl Tryz.ntmps119 rfl rfl ?_; intro W
 refine wAb (wAa (sAl rfl fun b6 => ?_))
 refine jp rfl (wAc (jT (wAb (wAb (wAa (jp rfl (jf rfl (decide_eq_false (by omega)) ?_)))))))
 refine jp rfl (jp rfl (jp rfl (wAi rfl rfl (wBj rfl rfl rfl) ?_)))
 refine jp rfl (ja rfl (by omega) ?_)
 refine jf rfl (decide_eq_false (by omega)) ?_
 refine jp rfl (wAc (jT (wAk rfl (wAd (jT (wAb (wAb (wAa (jp rfl (jp rfl (jp rfl (jp rfl (ja rfl (by omega) ?_)))))))))))))
 refine wAi rfl rfl (qEq (qSl rfl rfl rfl (.no _) (.of (v := a + m) rfl (by omega) (by omega)) (.of (v := a) rfl (by omega) (by omega)) (by omega) (by simp)) (v' := .slice (some ⟨sb, so + a * 1, none⟩) ((xs.drop a).take m).length (c - a)) (by rw [wBn (by omega), hyl, Nat.add_sub_cancel_left])) ?_
 refine wAy rfl rfl (wAu rfl rfl rfl rfl rfl (by kernel_rfl) (bwb _ _ _ M)) ?_; rintro _ M1 _ ⟨hM1, _, rfl, ⟨b26, rfl, e26, rfl⟩⟩
 refine wAc (jT (wAh ?_))
 refine wLq (R := [(b6, .cells [.int .u32 0].toArray 29 (0, 0))]) (xs := bw ((xs.drop a).take m) 0) (enc := (fun p : By × Nat => [.int .i64 p.2, .int .u8 p.1.toNat])) (ps := [27, 28]) rfl (by kernel_rfl) (bwb_iter b26 sb (so + a * 1) _ ((xs.drop a).take m) M1 e26 (fun i v hv => (SM.sub a m hx i v hv).mono hM1) (by omega))
  (fun pre _ R => R = [(b6, .cells [.int .u32 (wLw (pre.map (·.1)))].toArray 29 (0, 0))])
  (fun _ _ _ _ => False)
  (fun _ => rfl) (by decide) rfl ?_ ?_ ?_
 ·intro l W2 pre y M2 R2 hM2 hI hpre
  subst hI
  refine wAa (jp rfl (wAc (jK fun W' => ?_)))
  refine wAh (wAa (sLd rfl ?_))
  refine wAi rfl rfl (wLf rfl rfl rfl rfl (by omega) rfl) ?_
  refine jp rfl ?_
  refine wAi rfl rfl (qConvK rfl rfl rfl (by rw [IntKind.wrap_u32]; have := y.1.toNat_lt; omega)) ?_
  refine wAi rfl rfl (wLg rfl rfl rfl rfl rfl) ?_
  refine sSt rfl ?_
  refine wAc (jB (jQn ?_))
  rw [List.map_append, List.map_cons, List.map_nil, wJm]; rfl
 ·intro d M2 R2 hM2 hI
  subst hI
  refine jB (jT (wAb (wAa (sLd rfl ?_))))
  refine sSt rfl ?_
  refine jp rfl (wAc (jT (wAe (wFq (L2 := _) (List.Perm.refl _) ?_))))
  refine wDa (rs := [_, _]) ([]) (by simp) rfl (.cons (.one rfl rfl rfl) (.cons (.tmp rfl) .nil)) ?_
  exact ⟨by rw [bw_fst]; rfl, rfl⟩
 intro _ _ _ _ _ _ _ h; exact h.elim
theorem wEx (sa : Option Addr) (c : Nat) (xs : List By) (a : Nat) (M : Mem) (hs : SM M sa (wAj xs)) (hc : xs.length ≤ c) (h : a + 4 ≤ xs.length) (hn : xs.length ≤ 1000000) :
  SpecL Tryz.prog 103 #[.slice sa xs.length c, .int .i64 a] M [] fun v _ _ => v = .tuple #[.int .u32 (wJa xs a 4), .int .i64 0] := by
 refine wAf (vs := [_, _]) 11 _ Tryz.func103 rfl Tryz.ntmps103 rfl rfl ?_; intro W
 refine wAb (wAa (jp rfl (jp rfl (wAc (jT (wAb (wAa (jp rfl (jp rfl (wAy rfl rfl (wAu rfl rfl rfl rfl rfl (by kernel_rfl) (get_spec sa c xs a 4 M hs hc h (by omega) hn)) ?_)))))))))); rintro _ _ _ ⟨_, _, rfl, ⟨rfl, rfl⟩⟩
 refine jp rfl (jp rfl (jp rfl (jp rfl (wAc (jT (wAe (jr2 rfl rfl rfl ?_)))))))
 rfl
theorem getTwo_spec (sa : Option Addr) (c : Nat) (xs : List By) (a : Nat) (M : Mem) (hs : SM M sa (wAj xs)) (hc : xs.length ≤ c) (h : a + 2 ≤ xs.length) (hn : xs.length ≤ 1000000) :
  SpecL Tryz.prog 105 #[.slice sa xs.length c, .int .i64 a] M [] fun v _ _ => v = .tuple #[.int .i64 (wJa xs a 2), .int .i64 0] := by
 refine wAf (vs := [_, _]) 17 _ Tryz.func105 rfl Tryz.ntmps105 rfl rfl ?_; intro W
 refine wAb (wAa (jp rfl (jp rfl (wAc (jT (wAb (wAa (jp rfl (jp rfl (wAy rfl rfl (wAu rfl rfl rfl rfl rfl (by kernel_rfl) (get_spec sa c xs a 2 M hs hc h (by omega) hn)) ?_)))))))))); rintro _ _ _ ⟨_, _, rfl, ⟨rfl, rfl⟩⟩
 have hgr := wJu ((xs.drop a).take 2).reverse
 change 0 ≤ wJa xs a 2 ∧ wJa xs a 2 < 4294967296 at hgr
 refine jp rfl (jp rfl (jp rfl (jp rfl (jp rfl (wAc (jT (wAb (wAa (jp rfl (wAi rfl rfl (wEm rfl rfl rfl (by omega)) ?_))))))))))
 refine jp rfl (jp rfl (jp rfl (wAc (jT (wAe (jr2 rfl rfl rfl ?_))))))
 rfl
def fstep (s : Int) : Int := bXor .u32 (bShr .u32 s 1) (IntKind.u32.wrap (3988292384 * bAnd .u32 s 1))
def frep : Nat → Int → Int
 | 0, s => s
 | k + 1, s => fstep (frep k s)
def ftab (k : Nat) : List Int := (List.range k).map (fun i : Nat => frep 4 (i : Int)) ++ List.replicate (16 - k) 0
def wDs (xs : List Int) : List Value := xs.map (Value.int .u32)
theorem ftab_len {k : Nat} (h : k ≤ 16) : (ftab k).length = 16 := by simp [ftab]; omega
theorem ftab_step {k : Nat} (h : k < 16) (o : Nat) (ho : o = k) : (wDs (ftab k)).take o ++ [Value.int .u32 (frep 4 k)] ++ (wDs (ftab k)).drop (o + [Value.int .u32 (frep 4 k)].length) = wDs (ftab (k + 1)) := by
 subst ho
 have hr : ((List.range o).map (fun i : Nat => frep 4 (i : Int))).length = o := by simp
 have e1 : (ftab o).take o = (List.range o).map (fun i : Nat => frep 4 (i : Int)) := by unfold ftab; exact List.take_left' hr
 have e2 : (ftab o).drop (o + 1) = List.replicate (16 - (o + 1)) 0 := by
  unfold ftab
  rw [List.drop_append, List.drop_eq_nil_of_le (by omega), hr, List.nil_append, List.drop_replicate]
  congr 1; omega
 simp only [wDs, ← List.map_take, ← List.map_drop, List.length_singleton, e1, e2]
 unfold ftab
 rw [List.range_succ]
 simp
theorem fold_spec (M : Mem) :
  SpecL Tryz.prog 120 #[] M [] fun v _ _ => v = .agg (wDs (ftab 16)).toArray := by
 refine wAf (vs := []) 22 _ Tryz.func120 rfl Tryz.ntmps120 rfl rfl ?_; intro W
 refine wAb (wAa (sAl rfl fun b0 => ?_))
 refine wAc (jT (wAb (wAb (wAa (jp rfl (wAc (jT (wAh ?_))))))))
 refine wAv (α := Nat) (fun k => [(0, .pointer (some ⟨b0, 0, none⟩)), (3, .int .i64 k)]) (fun _ => M) (fun k => [(b0, .cells (wDs (ftab k)).toArray 188 (0, 0))]) (fun k => k ≤ 16) (fun k => 16 - k)
  0 (.cons (t := 0) rfl (.cons (t := 3) rfl .nil)) (by omega) (fun w h => by rw [show wDs (ftab 0) = List.replicate 16 (Value.int .u32 0) from rfl]; exact h) ?_
 rintro k hk
 try dsimp only at hk ⊢
 refine wAb (wAa (js rfl (fun h4 => ?_) (fun h4 => ?_)))
 ·refine wAc (jT (wAb (wAg rfl (wAd (jT (wAb (wAh (wAb (wAa (jp rfl (jp rfl (wAc (jT (wAb (wAa (jp rfl ?_))))))))))))))))
  refine wAi rfl rfl (qConvK rfl rfl rfl (by rw [IntKind.wrap_u32]; omega)) ?_
  refine jp rfl (wAc (jT (wAb (wAb (wAa (jp rfl (wAc (jT (wAh ?_)))))))))
  refine wAv (α := Nat) (fun j => [(0, .pointer (some ⟨b0, 0, none⟩)), (1, .int .i64 k), (2, .int .u32 (frep j k)), (3, .int .i64 k), (8, .int .i64 j)]) (fun _ => M) (fun _ => [(b0, .cells (wDs (ftab k)).toArray 188 (0, 0))]) (fun j => j ≤ 4) (fun j => 4 - j)
   0 (.cons (t := 0) rfl (.cons (t := 1) rfl (.cons (t := 2) rfl (.cons (t := 3) rfl (.cons (t := 8) rfl .nil))))) (by omega) (fun _ h => h) ?_
  rintro j hj
  try dsimp only at hj ⊢
  refine wAb (wAa (js rfl (fun h9 => ?_) (fun h9 => ?_)))
  ·refine wAc (jT (wAb (wAg rfl (wAd (jT (wAb (wAh (wAa (jp rfl (wAi rfl rfl (wLf rfl rfl rfl rfl (by omega) rfl) ?_))))))))))
   refine jp rfl (wAi rfl rfl (wLg rfl rfl rfl rfl rfl) ?_)
   refine wAi rfl rfl (qP rfl rfl) ?_
   refine wAi rfl rfl (wLg rfl rfl rfl rfl rfl) ?_
   refine jp rfl (wAc (jB (jT (wAa (ja rfl (by omega) ?_)))))
   refine jp rfl (wAc ?_)
   refine wAp (j + 1) (.cons (t := 0) rfl (.cons (t := 1) rfl (.cons (t := 2) rfl (.cons (t := 3) rfl (.cons (t := 8) rfl .nil))))) (by omega) (by omega) (fun _ h => h)
  refine wAc (jT (wAb (wAk rfl (wAw (jTx (jTx (jBx (jT (wAa (jp rfl (jp rfl (wAi rfl rfl (qIdxA rfl rfl rfl rfl (by omega)) ?_))))))))))))
  have hfl := ftab_len (k := k) (by omega)
  obtain rfl : j = 4 := by omega
  refine jl_s rfl (hStore rfl rfl rfl rfl rfl rfl (by simp [Value.oneCell']) (by simp only [wDs, List.length_map, List.length_cons, List.length_nil]; omega)) ?_; rintro _ _ _ ⟨rfl, rfl⟩
  rw [ftab_step (k := k) (by omega) _ (by omega)]
  refine wAc (jB (jT (wAa (ja rfl (by omega) ?_))))
  refine jp rfl (wAc ?_)
  refine wAp (k + 1) (.cons (t := 0) rfl (.cons (t := 3) rfl .nil)) (by omega) (by omega) (fun _ h => h)
 refine wAc (jT (wAb (wAk rfl (wAw (jTx (jTx (jBx (jT (wAb (wAa ?_))))))))))
 obtain rfl : k = 16 := by omega
 have hul : (wDs (ftab 16)).length = 16 := by rw [wDs, List.length_map, ftab_len (by omega)]
 refine wAi rfl rfl (wGx (cs := wDs (ftab 16)) rfl rfl rfl rfl hul (fun i v hv => CJ.loc (by simpa using hv))) ?_
 refine jl_s rfl (hStoreA rfl rfl rfl rfl hul (fun v hv => by obtain ⟨n, _, rfl⟩ := List.mem_map.1 hv; rfl) hul) ?_; rintro _ _ _ ⟨rfl, rfl⟩
 refine wAc (jT (wAe (wDa (rs := [_]) ([]) (by simp) rfl (.cons (.agg rfl rfl hul) .nil) ?_)))
 rfl
def ftabV : List Int := [0, 498536548, 997073096, 651767980, 1994146192, 1802195444, 1303535960, 1342533948, 3988292384, 4027552580, 3604390888, 3412177804, 2607071920, 2262029012, 2685067896, 3183342108]
theorem ftab_val : ftab 16 = ftabV := by decide +kernel
def tabAt (i : Int) : Int := ftabV.getD i.toNat 0
def ofNib (s : Int) : Int := bXor .u32 (bShr .u32 s 4) (tabAt (bAnd .u32 s 15))
def ofStep (s : Int) (x : By) : Int := ofNib (ofNib (bXor .u32 s (x.toNat : Int)))
def wHf (xs : List By) : Int := xs.foldl ofStep 4294967295
def wJv (xs : List By) : Int := bXor .u32 4294967295 (wHf xs)
theorem bAnd_15 (s : Int) : 0 ≤ bAnd .u32 s 15 ∧ bAnd .u32 s 15 < 16 := by
 unfold bAnd
 rw [IntKind.wrap_u32]
 have h : (BitVec.ofInt IntKind.u32.bits s &&& BitVec.ofInt IntKind.u32.bits 15).toNat ≤ 15 := by
  rw [BitVec.toNat_and]; exact Nat.and_le_right
 omega
theorem tab_get {i : Int} (h : 0 ≤ i ∧ i < 16) : (wDs (ftab 16))[0 + i.toNat * 1]? = some (.int .u32 (tabAt i)) := by
 rw [ftab_val, Nat.zero_add, Nat.mul_one]
 have : i.toNat < ftabV.length := by simp [ftabV]; omega
 simp [wDs, tabAt, List.getD, this]
theorem of_spec (sa : Option Addr) (c : Nat) (xs : List By) (M : Mem) (hs : SM M sa (wAj xs)) (hn : xs.length ≤ 1000000) :
  SpecL Tryz.prog 104 #[.slice sa xs.length c] M [] fun v _ _ => v = .int .u32 (wJv xs) := by
 have hul : (wDs (ftab 16)).length = 16 := by rw [wDs, List.length_map, ftab_len (by omega)]
 refine wAf (vs := [_]) 35 _ Tryz.func104 rfl Tryz.ntmps104 rfl rfl ?_; intro W
 refine wAb (wAa (jp rfl (wAc (jT (wAb (wAa (wAi rfl rfl (wBr rfl rfl rfl rfl rfl (by kernel_rfl) (fold_spec M)) ?_)))))))
 refine sAl rfl fun b3 => ?_
 refine jl_s rfl (hStoreA rfl rfl rfl rfl hul (fun v hv => by obtain ⟨n, _, rfl⟩ := List.mem_map.1 hv; rfl) (by rfl)) ?_; rintro _ _ _ ⟨rfl, rfl⟩
 refine wAc (jT (wAb (wAa (jp rfl (wAc (jT (wAb (wAb (wAa (jp rfl (wAi rfl rfl (wBj rfl rfl rfl) ?_)))))))))))
 refine jp rfl (wAc (jT (wAh ?_)))
 refine wAv (α := Nat) (fun k => [(3, .pointer (some ⟨b3, 0, none⟩)), (4, .int .u32 (wHf (xs.take k))), (8, .slice sa xs.length c), (9, .int .i64 xs.length), (10, .int .i64 k)]) (fun _ => M) (fun _ => [(b3, .cells (wDs (ftab 16)).toArray 188 (0, 0))]) (fun k => k ≤ xs.length) (fun k => xs.length - k)
  0 (.cons (t := 3) rfl (.cons (t := 4) rfl (.cons (t := 8) rfl (.cons (t := 9) rfl (.cons (t := 10) rfl .nil))))) (Nat.zero_le _) (fun _ h => h) ?_
 rintro k hk
 try dsimp only at hk ⊢
 refine wAb (wAa (js rfl (fun h11 => ?_) (fun h11 => ?_)))
 ·refine wAc (jT (wAb (wAg rfl (wAd (jT (wAb (wAh (wAb (wAa ?_)))))))))
  obtain ⟨b1, o1, e1, g1⟩ := hs.open (by intro e; have := congrArg List.length e; rw [wAm, List.length_nil] at this; omega)
  subst e1
  have hk1 : k < xs.length := by omega
  refine wAi rfl rfl (wBe rfl rfl rfl rfl (by omega)) ?_
  refine wAi rfl rfl (qLd rfl rfl rfl rfl ((g1 (((k : Nat) : Int).toNat * 1) (.int .u8 xs[k].toNat) (by simp [wAj, hk1])).cj _)) ?_
  refine jp rfl (wAc (jT (wAb (wAa (jp rfl (jp rfl ?_))))))
  refine wAi rfl rfl (qConvK rfl rfl rfl (by rw [IntKind.wrap_u32]; have := xs[k].toNat_lt; omega)) ?_
  refine wAi rfl rfl (wLg rfl rfl rfl rfl rfl) ?_
  refine jp rfl (wAc (jT (wAb (wAa (jp rfl (wAi rfl rfl (wLf rfl rfl rfl rfl (by omega) rfl) ?_))))))
  refine jp rfl (wAi rfl rfl (wLg rfl rfl rfl rfl rfl) ?_)
  refine wAi rfl rfl (qIdxA rfl rfl rfl rfl (bAnd_15 _)) ?_
  refine wAi rfl rfl (qLd rfl rfl rfl rfl (CJ.loc (tab_get (bAnd_15 _)))) ?_
  refine wAi rfl rfl (wLg rfl rfl rfl rfl rfl) ?_
  refine jp rfl (wAc (jT (wAa (jp rfl (wAi rfl rfl (wLf rfl rfl rfl rfl (by omega) rfl) ?_)))))
  refine jp rfl (wAi rfl rfl (wLg rfl rfl rfl rfl rfl) ?_)
  refine wAi rfl rfl (qIdxA rfl rfl rfl rfl (bAnd_15 _)) ?_
  refine wAi rfl rfl (qLd rfl rfl rfl rfl (CJ.loc (tab_get (bAnd_15 _)))) ?_
  refine wAi rfl rfl (wLg rfl rfl rfl rfl rfl) ?_
  refine jp rfl (wAc (jB (jT (wAa (ja rfl (by omega) ?_)))))
  refine jp rfl (wAc ?_)
  have hstep : wHf (xs.take (k + 1)) = ofStep (wHf (xs.take k)) xs[k] := by unfold wHf; rw [List.take_succ_eq_append_getElem hk1, List.foldl_append]; rfl
  refine wAp (k + 1) (.cons (t := 3) rfl (Keep.ceq (t := 4) rfl (by rw [hstep]; rfl) (.cons (t := 8) rfl (.cons (t := 9) rfl (.cons (t := 10) rfl .nil))))) (by omega) (by omega) (fun _ h => h)
 refine wAc (jT (wAb (wAk rfl (wAw (jTx (jTx (jBx (jT (wAb (wAa (jp rfl (wAi rfl rfl (qNotI rfl rfl rfl) ?_))))))))))))
 refine jp rfl (wAc (jT (wAe (jr1 rfl rfl ?_))))
 rw [show k = xs.length by omega, List.take_length]; rfl
def wFa (xs : List By) : Int := if xs.length ≠ 128 then 3 else if wJa xs 0 4 ≠ wJv (xs.drop 4) then 8 else 0
theorem open_len (v : Value) (xs : List By) (M : Mem) (hv : BS M v xs) (h : xs.length ≠ 128) :
  SpecL Tryz.prog 84 #[v] M [] fun u M' L' => ∃ s, u = .tuple #[s, .int .i64 (wFa xs)] ∧ (wFa xs = 0 → BS M' s (xs.drop 4)) ∧ L' = [] := by
 obtain ⟨sa, c, rfl, -, hs⟩ := hv
 have hE : wFa xs = 3 := if_pos h
 refine wAf (vs := [_]) 26 _ Tryz.func84 rfl Tryz.ntmps84 rfl rfl ?_; intro W
 refine wAb (wAa (jp rfl (jp rfl (wAc (jT (wAb (wAb (wAa (jp rfl (wAi rfl rfl (wBj rfl rfl rfl) ?_))))))))))
 refine jt rfl (decide_eq_true (by omega)) ?_
 refine wAc (jT (wAg rfl (wAb (wAa (jp rfl (jp rfl (wAc (jT (wAe (jTr (wAr (L' := []) (by simp) ?_)))))))))))
 refine jr2 rfl rfl rfl ?_
 exact ⟨_, by rw [hE], (fun e => by rw [hE] at e; cases e), rfl⟩
theorem open_bad (v : Value) (xs : List By) (M : Mem) (hv : BS M v xs) (h : xs.length = 128) (hb : wJa xs 0 4 ≠ wJv (xs.drop 4)) :
  SpecL Tryz.prog 84 #[v] M [] fun u M' L' => ∃ s, u = .tuple #[s, .int .i64 (wFa xs)] ∧ (wFa xs = 0 → BS M' s (xs.drop 4)) ∧ L' = [] := by
 obtain ⟨sa, c, rfl, hcc, hs⟩ := hv
 have hs4 : SM M (slA sa 4 c 1) (wAj (xs.drop 4)) := by have := hs.part (l := 4) (m := c) (s := 1) (by omega) 1000; rwa [show ((wAj xs).drop (4 * 1)).take 1000 = wAj (xs.drop 4) by rw [List.take_of_length_le (by rw [List.length_drop, wAm]; omega)]; simp [wAj, List.map_drop]] at this
 have hl4 : (xs.drop 4).length = 124 := by rw [List.length_drop]; omega
 have hE : wFa xs = 8 := by unfold wFa; rw [if_neg (by omega), if_pos hb]
 refine wAf (vs := [_]) 26 _ Tryz.func84 rfl Tryz.ntmps84 rfl rfl ?_; intro W
 refine wAb (wAa (jp rfl (jp rfl (wAc (jT (wAb (wAb (wAa (jp rfl (wAi rfl rfl (wBj rfl rfl rfl) ?_))))))))))
 refine jf rfl (decide_eq_false (by omega)) ?_
 refine wAc (jT (wAk rfl (wAd (jT (wAb (wAb (wAa (jp rfl (wAi rfl rfl (wBr rfl rfl rfl rfl rfl (by kernel_rfl) (wEx sa c xs 0 M hs hcc (by omega) (by omega))) ?_)))))))))
 refine jp rfl (jp rfl (jp rfl (jp rfl (jp rfl (wAc (jT (wAb (wAa (jp rfl (jf rfl (decide_eq_false (by omega)) ?_))))))))))
 refine jp rfl (jp rfl (jp rfl (wAi rfl rfl (qEq (qSl rfl rfl rfl (.no _) (.no _) (.of (v := 4) rfl (by omega) rfl) (by omega) (by simp)) (v' := .slice (slA sa 4 c 1) (xs.drop 4).length (c - 4)) (by rw [hl4, h])) ?_)))
 refine wAi rfl rfl (wBr rfl rfl rfl rfl rfl (by kernel_rfl) (of_spec _ _ (xs.drop 4) M hs4 (by omega))) ?_
 refine jt rfl (decide_eq_true (by omega)) ?_
 refine jp rfl (wAc (jT (wAg rfl (wAb (wAa (jp rfl (jp rfl (wAc (jT (wAe (jTr (wAr (L' := []) (by simp) ?_))))))))))))
 refine jr2 rfl rfl rfl ?_
 exact ⟨_, by rw [hE], (fun e => by rw [hE] at e; cases e), rfl⟩
theorem open_ok (v : Value) (xs : List By) (M : Mem) (hv : BS M v xs) (h : xs.length = 128) (hb : wJa xs 0 4 = wJv (xs.drop 4)) :
  SpecL Tryz.prog 84 #[v] M [] fun u M' L' => ∃ s, u = .tuple #[s, .int .i64 (wFa xs)] ∧ (wFa xs = 0 → BS M' s (xs.drop 4)) ∧ L' = [] := by
 obtain ⟨sa, c, rfl, hcc, hs⟩ := hv
 have hs4 : SM M (slA sa 4 c 1) (wAj (xs.drop 4)) := by have := hs.part (l := 4) (m := c) (s := 1) (by omega) 1000; rwa [show ((wAj xs).drop (4 * 1)).take 1000 = wAj (xs.drop 4) by rw [List.take_of_length_le (by rw [List.length_drop, wAm]; omega)]; simp [wAj, List.map_drop]] at this
 have hl4 : (xs.drop 4).length = 124 := by rw [List.length_drop]; omega
 have hE : wFa xs = 0 := by unfold wFa; rw [if_neg (by omega), if_neg (by omega)]
 refine wAf (vs := [_]) 26 _ Tryz.func84 rfl Tryz.ntmps84 rfl rfl ?_; intro W
 refine wAb (wAa (jp rfl (jp rfl (wAc (jT (wAb (wAb (wAa (jp rfl (wAi rfl rfl (wBj rfl rfl rfl) ?_))))))))))
 refine jf rfl (decide_eq_false (by omega)) ?_
 refine wAc (jT (wAk rfl (wAd (jT (wAb (wAb (wAa (jp rfl (wAi rfl rfl (wBr rfl rfl rfl rfl rfl (by kernel_rfl) (wEx sa c xs 0 M hs hcc (by omega) (by omega))) ?_)))))))))
 refine jp rfl (jp rfl (jp rfl (jp rfl (jp rfl (wAc (jT (wAb (wAa (jp rfl (jf rfl (decide_eq_false (by omega)) ?_))))))))))
 refine jp rfl (jp rfl (jp rfl (wAi rfl rfl (qEq (qSl rfl rfl rfl (.no _) (.no _) (.of (v := 4) rfl (by omega) rfl) (by omega) (by simp)) (v' := .slice (slA sa 4 c 1) (xs.drop 4).length (c - 4)) (by rw [hl4, h])) ?_)))
 refine wAi rfl rfl (wBr rfl rfl rfl rfl rfl (by kernel_rfl) (of_spec _ _ (xs.drop 4) M hs4 (by omega))) ?_
 refine jf rfl (decide_eq_false (by omega)) ?_
 refine jp rfl (wAc (jT (wAk rfl (wAd (jT (wAb (wAa (jp rfl (wAi rfl rfl (qEq (qSl rfl rfl rfl (.no _) (.no _) (.of (v := 4) rfl (by omega) rfl) (by omega) (by simp)) (v' := .slice (slA sa 4 c 1) (xs.drop 4).length (c - 4)) (by rw [hl4, h])) ?_)))))))))
 refine wAy rfl rfl (wAu rfl rfl rfl rfl rfl (by kernel_rfl) (sclone_spec _ (xs.drop 4) M ⟨_, _, rfl, by omega, hs4⟩ (by omega))) ?_; rintro _ M1 _ ⟨hM1, _, rfl, hown⟩
 refine wLp hown (by simp) ?_
 intro M2 a1 c1 hM2 e1 hc1 hs1; subst e1
 refine jp rfl (jp rfl (wAc (jT (wAe (wAr (L' := []) (by simp) ?_)))))
 refine jr2 rfl rfl rfl ?_
 exact ⟨_, by rw [hE], fun _ => ⟨a1, c1, rfl, hc1, hs1⟩, rfl⟩
theorem wLi (v : Value) (xs : List By) (M : Mem) (hv : BS M v xs) : SpecL Tryz.prog 84 #[v] M [] fun u M' L' => ∃ s, u = .tuple #[s, .int .i64 (wFa xs)] ∧ (wFa xs = 0 → BS M' s (xs.drop 4)) ∧ L' = [] := by
 by_cases h : xs.length = 128
 ·by_cases hb : wJa xs 0 4 = wJv (xs.drop 4)
  ·exact open_ok v xs M hv h hb
  exact open_bad v xs M hv h hb
 exact open_len v xs M hv h
end Go.Proofs.YtkcpllhggofloaaGreat
