/- Walks: the document's nodes shrunk: one made; a leaf's. -/
import Derived.Test.YtkcpllhggofloaaGreatZLfh
import Derived.Test.YtkcpllhggofloaaGreatZDelg
namespace Go.Proofs.YtkcpllhggofloaaGreat
set_option linter.unusedVariables false
set_option linter.unusedSectionVars false
set_option linter.unusedSimpArgs false
open Go.RowKit
theorem BtP.form {s : Sto} {lv : Int} {xs : List It} {u : Value} {M' : Mem} (h : BtP s lv xs u M') : ∃ x a n c, u = .tuple #[.agg (sv4 x).toArray, .slice a n c, .int .i64 (mkE s lv xs)] ∧ (mkE s lv xs = 0 → ST M' (.agg (sv4 x).toArray) (mkS s lv xs) ∧ n = 1 ∧ SM M' a (itc (upIt s xs) none 0)) := by
 unfold BtP at h
 by_cases h0 : mkE s lv xs = 0
 ·rw [if_pos h0] at h
  obtain ⟨v, a, c, rfl, hv, hs⟩ := h
  obtain ⟨x, rfl⟩ := hv.form
  exact ⟨x, a, 1, c, by rw [h0], fun _ => ⟨hv, rfl, hs⟩⟩
 rw [if_neg h0] at h
 exact ⟨(sk0, sk0, sk0, sk0), none, 0, 0, h, fun e => absurd e h0⟩
abbrev it0 (k : Ky) (r : Int) : List Value := [.int .u8 k.kind, .int .u32 k.id, .int .u32 k.off, .int .i64 r, .slice none 0 0]
def MaP (s : Sto) (lv : Int) (xs : List It) (u : Value) (M' : Mem) : Prop := ∃ x ky r, u = .tuple #[.agg (sv4 x).toArray, .agg (it0 ky r).toArray, .int .i64 (mkE s lv xs)] ∧ (mkE s lv xs = 0 → ST M' (.agg (sv4 x).toArray) (mkS s lv xs) ∧ ky = wDc xs ∧ r = (wEt (wAx s xs) : Int))
theorem rbuilt12_spec (s : Sto) (u : Value) (M : Mem) (h : ST M u s) (hst : wCc s) (lv : Int) (xs : List It) (sl : Value) (hn : NS M sl xs) (hok : wEv lv xs = true) (hk : ∀ x ∈ xs, wFp x.key) : SpecL Tryz.prog 74 #[u, .int .i64 lv, sl] M [] fun u M' L' => BtP s lv xs u M' ∧ L' = [] := by
 obtain ⟨x, rfl⟩ := h.form
 obtain ⟨a, c, ps, rfl, hc, hs, hp, hb⟩ := hn
 exact rbuilt12_walk s x M h hst lv xs a c ps hc hs hp hb hok hk
set_option maxHeartbeats 2000000 in
theorem rmade13_walk (s : Sto) (x0 : Sk × Sk × Sk × Sk) (M : Mem) (hS : ST M (.agg (sv4 x0).toArray) s) (hst : wCc s) (lv : Int) (xs : List It) (a : Option Addr) (c : Nat) (ps : List (It × Value)) (hc : xs.length ≤ c) (hs : SM M a (ps.flatMap wAs)) (hp : ps.map (·.1) = xs) (hb : ∀ p ∈ ps, BS M p.2 p.1.val) (hok : wEv lv xs = true) (hk : ∀ x ∈ xs, wFp x.key) :
  SpecL Tryz.prog 50 #[.agg (sv4 x0).toArray, .int .i64 lv, .slice a xs.length c] M [] fun u M' L' => MaP s lv xs u M' ∧ L' = [] := by
 refine wAf (vs := [_, _, _]) 29 _ Tryz.func50 rfl Tryz.ntmps50 rfl rfl ?_; intro W
 refine wAb (wAa (wAy rfl rfl (wCm (cs := [_, _, _, _]) rfl rfl rfl rfl) ?_)); rintro _ _ _ ⟨b3, rfl, rfl, rfl⟩
 refine sAl rfl fun b6 => ?_
 refine sAl rfl fun b7 => ?_
 refine jp rfl (wAc (jT (wAb (wAa (sLL rfl ?_)))))
 refine jp rfl (jp rfl (wAy rfl rfl (wAu rfl rfl rfl rfl rfl (by kernel_rfl) (rbuilt12_spec s _ M hS hst lv xs _ ⟨a, c, ps, rfl, hc, hs, hp, hb⟩ hok hk)) ?_)); rintro _ M1 _ ⟨hM1, _, rfl, ⟨hbt, rfl⟩⟩
 simp only [nA]
 obtain ⟨x9, ba, bn, bc, rfl, hbt2⟩ := hbt.form
 refine jp rfl (jp rfl (jp rfl (jp rfl (sAl rfl fun b9 => ?_))))
 refine sSt rfl ?_
 refine jp rfl (jp rfl (wAc (jT (wAb (wAb (wAa (jp rfl (js rfl (fun h21 => ?_) (fun h21 => ?_)))))))))
 ·refine wAc (jT (wAg rfl (wAb (wAa (wAi rfl rfl (wBa (cs := [_, _, _, _]) rfl rfl rfl (by rfl)) ?_)))))
  refine wAi rfl rfl (wBa (cs := [_, _, _, _, _]) rfl rfl rfl (by rfl)) ?_
  refine jp rfl (sSt rfl ?_)
  refine sSt rfl ?_
  refine jp rfl (wAc (jT (wAe (jTr (wDa (rs := [_, _, _]) ([]) (by exact List.nil_sublist _) rfl (.cons (.agg rfl rfl rfl) (.cons (.agg rfl rfl rfl) (.cons (.tmp rfl) .nil))) ?_)))))
  exact ⟨⟨(sk0, sk0, sk0, sk0), ⟨0, 0, 0⟩, 0, rfl, fun e => absurd e h21⟩, rfl⟩
 refine wAc (jT (wAk rfl (wAd (jT (wAb ?_)))))
 have hm0 : mkE s lv xs = 0 := Classical.not_not.1 h21
 obtain ⟨hS9, rfl, hsm⟩ := hbt2 hm0
 obtain ⟨sb, so, e0, hcx⟩ := hsm.open (by intro e; cases e)
 refine wDb (p := { A := fun i => !([4, 5].contains i), U := fun i => !([1, 2, 3, 4, 5, 6].contains i) }) [(0, true), (1, true), (2, true), (3, true), (4, false), (5, false), (6, true)] M1 ([(b9, .cells (sv4 x9).toArray 28 (0, 0))]) ([]) (by kernel_rfl) (by kernel_rfl) (by kernel_rfl) (by kernel_rfl) rfl (by simp) (MLe.refl _) (by simp) ?_
 refine dLL rfl rfl ?_
 refine dp rfl rfl ?_
 refine jd_u rfl rfl rfl (wCe rfl rfl rfl rfl e0 (by omega)) ?_
 refine jd_u rfl rfl rfl (wGx (cs := itc (upIt s xs) none 0) rfl rfl rfl rfl rfl (fun i v hv => ((hcx i v hv)).cj _)) ?_
 refine jd_e rfl rfl (wBm rfl rfl rfl rfl rfl rfl rfl rfl) ?_; rintro _ _ _ ⟨rfl, rfl⟩
 refine ⟨MLe.refl _, by simp, ?_⟩
 refine je_s rfl rfl (wBm rfl rfl rfl rfl rfl rfl rfl rfl) ?_; rintro _ _ _ ⟨rfl, rfl⟩
 refine ⟨MLe.refl _, by simp, ?_⟩
 refine ep rfl rfl ?_
 refine wFf ?_
 refine jPn (jT (wAe (wDa (rs := [_, _, _]) ([]) (by exact List.nil_sublist _) rfl (.cons (.agg rfl rfl rfl) (.cons (.agg rfl rfl rfl) (.cons (.tmp rfl) .nil))) ?_)))
 refine ⟨⟨x9, wDc xs, _, by rw [hm0]; rfl, fun _ => ⟨hS9, rfl, rfl⟩⟩, rfl⟩
theorem rmade13_spec (s : Sto) (u : Value) (M : Mem) (h : ST M u s) (hst : wCc s) (lv : Int) (xs : List It) (sl : Value) (hn : NS M sl xs) (hok : wEv lv xs = true) (hk : ∀ x ∈ xs, wFp x.key) : SpecL Tryz.prog 50 #[u, .int .i64 lv, sl] M [] fun u M' L' => MaP s lv xs u M' ∧ L' = [] := by
 obtain ⟨x, rfl⟩ := h.form
 obtain ⟨a, c, ps, rfl, hc, hs, hp, hb⟩ := hn
 exact rmade13_walk s x M h hst lv xs a c ps hc hs hp hb hok hk
def dnR (s : Sto) (q : Ky) (l : Nat) (xs : List It) : Except Int (Sto × List It × Int) := dn s (wJi (wDf s q l xs)) (wDf s q l xs).dropLast
def ShP (r : Except Int (Sto × List It × Int)) (u : Value) (M' : Mem) : Prop := match r with
 | .error e => u = .tuple #[.agg zeroSt.toArray, .slice none 0 0, .int .i64 0, .int .i64 e]
 | .ok (t, l, h) => ∃ x a c, u = .tuple #[.agg (sv4 x).toArray, .slice a l.length c, .int .i64 h, .int .i64 0] ∧ ST M' (.agg (sv4 x).toArray) t ∧ NS M' (.slice a l.length c) l
def ShS (s : Sto) (q : Ky) (l : Nat) : Prop := ∀ (k : Int) (xs : List It) (u : Value) (M : Mem), ST M u s → 0 ≤ k ∧ k < 256 → wBk s k.toNat = some ((l : Int), xs) → Shp s l xs → Srt (wCh s l xs) → (∃ y ∈ wCh s l xs, y.key = q) → SpecL Tryz.prog 49 #[u, .int .i64 k, .agg (wBb q).toArray] M [] fun u M' L' => ShP (dnR s q l xs) u M' ∧ L' = []
theorem dnR_leaf {s : Sto} {q : Ky} {xs : List It} (hs : Srt xs) (hf : ∃ y ∈ xs, y.key = q) : dnR s q 0 xs = .ok (s, xs.filter (wJw q), 0) := by
 have h1 := (leaf_cut hs hf).1
 show dn s (cutF ⟨0, xs, place xs q⟩) [] = _
 rw [h1]; rfl
theorem filter_on {xs : List It} {q : Ky} {k : Nat} (hk : k < xs.length) (h : xs[k].key ≠ q) : (xs.take (k + 1)).filter (wJw q) = (xs.take k).filter (wJw q) ++ [xs[k]] := by
 rw [List.take_succ_eq_append_getElem hk, List.filter_append]
 congr 1
 have : wJw q xs[k] = true := decide_eq_true h
 simp [this]
theorem filter_off {xs : List It} {q : Ky} {k : Nat} (hk : k < xs.length) (h : xs[k].key = q) : (xs.take (k + 1)).filter (wJw q) = (xs.take k).filter (wJw q) := by
 rw [List.take_succ_eq_append_getElem hk, List.filter_append]
 have : wJw q xs[k] = false := decide_eq_false (fun e => e h)
 simp [this]
set_option maxHeartbeats 2000000 in
theorem rshrunk_leaf (s : Sto) (x0 : Sk × Sk × Sk × Sk) (M : Mem) (hS : ST M (.agg (sv4 x0).toArray) s) (hst : wCc s) (k : Int) (hk : 0 ≤ k ∧ k < 256) (q : Ky) (xs : List It) (hnd : wBk s k.toNat = some (0, xs)) (hsr : Srt xs) (hf : ∃ y ∈ xs, y.key = q) :
  SpecL Tryz.prog 49 #[.agg (sv4 x0).toArray, .int .i64 k, .agg (wBb q).toArray] M [] fun u M' L' => ShP (dnR s q 0 xs) u M' ∧ L' = [] := by
 have hx5 := (wBo hnd).len
 refine wAf (vs := [_, _, _]) 157 _ Tryz.func49 rfl Tryz.ntmps49 rfl rfl ?_; intro W
 refine wAb (wAa (wAy rfl rfl (wCm (cs := [_, _, _, _]) rfl rfl rfl rfl) ?_)); rintro _ _ _ ⟨b3, rfl, rfl, rfl⟩
 refine wAy rfl rfl (wCm (cs := [_, _, _]) rfl rfl rfl rfl) ?_; rintro _ _ _ ⟨b5, rfl, rfl, rfl⟩
 refine sAl rfl fun b6 => ?_
 refine jp rfl (jp rfl (jp rfl (wAc (jT (wAb (wAa (sLL rfl ?_)))))))
 refine jp rfl (wAy rfl rfl (wAu rfl rfl rfl rfl rfl (by kernel_rfl) (wDk s _ M hS hst k (by omega) hnd)) ?_); rintro _ M1 _ ⟨hM1, _, rfl, ⟨⟨a, c, ps, rfl, hc, hs, hp, hb⟩, rfl⟩⟩
 simp only [nA]
 refine jp rfl (jp rfl (jp rfl (sAl rfl fun b10 => ?_)))
 refine sSt rfl ?_
 refine jp rfl (wAc (jT (wAb (wAb (wAa (sFL rfl rfl ?_))))))
 refine jt rfl (decide_eq_true (by omega)) ?_
 refine wAc (jT (wAg rfl (wAb (wAa (jp rfl (wAc (jT (wAb (wAb (wAa (jp rfl (wAc (jT (wAh ?_))))))))))))))
 refine wAv (α := Nat × Value × Lc × List Ir) (fun z => [(3, .pointer (some ⟨b3, 0, none⟩)), (5, .pointer (some ⟨b5, 0, none⟩)), (6, .pointer (some ⟨b6, 0, none⟩)), (10, .pointer (some ⟨b10, 0, none⟩)), (12, z.2.1), (13, .int .i64 z.1)]) (fun _ => M1) (fun z => z.2.2.1 ++ [(b10, .cells [Value.int .i64 0, .slice a xs.length c].toArray 53 (0, 0)), (b6, .cells [Value.slice none 0 0, .slice none 0 0, .slice none 0 0, .slice none 0 0].toArray 28 (0, 0)), (b5, .cells (wBb q).toArray 31 (0, 0)), (b3, .cells (sv4 x0).toArray 28 (0, 0))]) (fun z => z.1 ≤ xs.length ∧ Own z.2.1 z.2.2.1 46 5 z.2.2.2.length (z.2.2.2.flatMap wAs) ∧ z.2.2.2.map (·.1) = (xs.take z.1).filter (wJw q) ∧ z.2.2.2.length ≤ z.1 ∧ ∀ p ∈ z.2.2.2, BS M1 p.2 p.1.val) (fun z => xs.length - z.1)
  (0, .slice none 0 0, [], []) (.cons (t := 3) rfl (.cons (t := 5) rfl (.cons (t := 6) rfl (.cons (t := 10) rfl (.cons (t := 12) rfl (.cons (t := 13) rfl .nil)))))) ⟨Nat.zero_le _, Own.nil _ _, rfl, Nat.le_refl _, fun _ h => by cases h⟩ (fun _ h => h) ?_
 rintro ⟨i, v, R, os⟩ ⟨hi, hO, hos, hol, hob⟩
 try dsimp only at hi hO hos hol hob ⊢
 refine wAb (wAb (wAa (jp rfl (sFL rfl rfl ?_))))
 refine wAi rfl rfl (wBj rfl rfl rfl) ?_
 refine js rfl (fun h40 => ?_) (fun h40 => ?_)
 ·refine wAc (jT (wAg rfl (wAd (jT (wAb (wAh (wAb (wBp [(0, true), (1, true), (2, true), (3, true), (4, true), (5, true), (6, true), (7, true)] _ (by kernel_rfl) (by kernel_rfl) (by kernel_rfl) rfl (fun _ h => h) ?_))))))))
  refine dFa rfl rfl ?_
  refine dLd rfl rfl ?_
  refine dp rfl rfl ?_
  have hk1 : i < xs.length := by omega
  obtain ⟨sb, so, va, vc, e0, hcl, hvc, hvs⟩ := wFg hs hp hb hk1 (i := (i : Int)) rfl
  refine wBq rfl rfl rfl (wCe rfl rfl rfl rfl e0 (by omega)) ?_
  refine dFa rfl rfl ?_
  refine wBq rfl rfl rfl (wGx (cs := wBb xs[i].key) rfl rfl rfl rfl rfl (fun j v hv => (hcl j v (wDd hv)).cj _)) ?_
  refine dLL rfl rfl ?_
  refine wKi rfl rfl rfl (qNeI (ns := [xs[i].key.kind, xs[i].key.id, xs[i].key.off]) (ms := [q.kind, q.id, q.off]) rfl rfl rfl rfl rfl rfl ⟨rfl, rfl⟩) (fun h50 => ?_) (fun h50 => ?_)
  ·refine wBd (jPn (jT (wAg rfl (wAa (jp rfl (sFL rfl rfl ?_))))))
   refine jp rfl (wAi rfl rfl (wCe rfl rfl rfl rfl e0 (by omega)) ?_)
   refine wAi rfl rfl (wGx (cs := itc xs[i] va vc) rfl rfl rfl rfl rfl (fun j v hv => (hcl j v hv).cj _)) ?_
   refine wAy rfl rfl (wAn (cs := [_, _, _, _, _]) rfl rfl rfl (by rfl) (by rfl) (by rfl)) ?_; rintro _ _ _ ⟨b57, rfl, rfl, rfl⟩
   refine wAy rfl rfl (wDv (R := R) (m := 1) rfl rfl rfl rfl hO rfl (fun j v hv => CJ.loc (by rw [Nat.zero_add]; simpa using hv)) rfl (by rfl) (by simp [Value.oneCell']) (by omega) (by omega)) ?_; rintro v58 _ _ ⟨rfl, R58, rfl, o58, _⟩
   refine jp rfl (wAc (jB (jT (wAa (jp rfl (ja rfl (by omega) ?_))))))
   refine jp rfl (wAc ?_)
   have hq : xs[i].key ≠ q := fun e => (of_decide_eq_true h50) (ky_ext.1 e)
   refine wAp (i + 1, v58, R58, os ++ [(xs[i], .slice va xs[i].val.length vc)]) (.cons (t := 3) rfl (.cons (t := 5) rfl (.cons (t := 6) rfl (.cons (t := 10) rfl (.cons (t := 12) rfl (.cons (t := 13) rfl .nil)))))) ⟨by show i + 1 ≤ xs.length; omega, o58.to (by show _ = (os ++ [_]).length; rw [List.length_append]; rfl) (by show _ = (os ++ [_]).flatMap wAs; rw [List.flatMap_append]; rfl), ?_, ?_, ?_⟩ (by show xs.length - (i + 1) < xs.length - i; omega) (fun _ h => h.subC fun f => by simp only [List.map_append, List.map_cons, List.map_nil, List.sum_append, List.sum_cons, List.sum_nil]; omega)
   ·show (os ++ [_]).map _ = (xs.take (i + 1)).filter (wJw q); rw [filter_on hk1 hq, List.map_append, hos]; rfl
   ·show (os ++ [_]).length ≤ i + 1; rw [List.length_append, List.length_singleton]; omega
   intro p hp2; rcases List.mem_append.1 hp2 with hp2 | hp2
   ·exact hob p hp2
   rw [List.mem_singleton.1 hp2]; exact ⟨va, vc, rfl, hvc, hvs⟩
  refine wBd (jPn (jT (wAk rfl (wAd (jB (jT (wAa (jp rfl (ja rfl (by omega) ?_)))))))))
  refine jp rfl (wAc ?_)
  have hq : xs[i].key = q := ky_ext.2 (Classical.not_not.1 (of_decide_eq_false h50))
  refine wAp (i + 1, v, R, os) (.cons (t := 3) rfl (.cons (t := 5) rfl (.cons (t := 6) rfl (.cons (t := 10) rfl (.cons (t := 12) rfl (.cons (t := 13) rfl .nil)))))) ⟨by show i + 1 ≤ xs.length; omega, hO, by show _ = (xs.take (i + 1)).filter (wJw q); rw [filter_off hk1 hq]; exact hos, by show os.length ≤ i + 1; omega, hob⟩ (by show xs.length - (i + 1) < xs.length - i; omega) (fun _ h => h.subC fun f => by simp only [List.map_append, List.map_cons, List.map_nil, List.sum_append, List.sum_cons, List.sum_nil]; omega)
 refine wAc (jT (wAk rfl (wAw (jTx (jTx (jBx (jT (wAb (wAa (sLL rfl ?_))))))))))
 refine jp rfl (sSt rfl ?_)
 refine jp rfl (jp rfl (jp rfl (wAc (jT (wAe (jTr ?_))))))
 obtain rfl : i = xs.length := by omega
 rw [List.take_length] at hos
 refine wGy hO (by simp) ?_
 intro M8 a8 c8 hM8 e8 hc8 hs8; cases e8
 refine wDa (rs := [_, _, _, _]) ([]) (by exact List.nil_sublist _) rfl (.cons (.agg rfl rfl rfl) (.cons (.tmp rfl) (.cons (.tmp rfl) (.cons (.tmp rfl) .nil)))) ?_
 have hlo : os.length = (xs.filter (wJw q)).length := by rw [← hos, List.length_map]
 refine ⟨?_, rfl⟩
 rw [dnR_leaf hsr hf]
 exact ⟨x0, a8, c8, by rw [← hlo]; rfl, hS.mono (hM1.trans hM8), a8, c8, os, rfl, by rw [← hlo]; exact hc8, hs8, hos, fun p h => (hob p h).mono hM8⟩
end Go.Proofs.YtkcpllhggofloaaGreat
