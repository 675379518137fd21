/- Walks: a store in new memory. -/
import Derived.Test.YtbhkdjheooknfaaGreatZOwn
namespace Go.Proofs.YtbhkdjheooknfaaGreat
set_option linter.unusedVariables false
set_option linter.unusedSectionVars false
set_option linter.unusedSimpArgs false
open Go.RowKit
abbrev THp : TypeId := 130
def wCi (pre : List By) (rem : Nat) : List Value := wAj pre ++ List.replicate rem (Value.int .u8 0)
theorem hcells_len (pre : List By) (rem : Nat) : (wCi pre rem).length = pre.length + rem := by simp [wCi, wAj]
theorem hcells_step {pre x : List By} {rem : Nat} (h : x.length ≤ rem) : (wCi pre rem).take pre.length ++ wAj x ++ (wCi pre rem).drop (pre.length + (wAj x).length) = wCi (pre ++ x) (rem - x.length) := by
 unfold wCi
 rw [List.take_left' (wAm pre), wAm, List.drop_append, wAm, List.drop_eq_nil_of_le (by rw [wAm]; omega), List.nil_append, Nat.add_sub_cancel_left, List.drop_replicate]
 simp [wAj]
def hv (hb done rem : Nat) : Value := .slice (some ⟨hb, if 0 < rem then done else 0, none⟩) rem rem
theorem wHx (b8 hb : Nat) (pre x : List By) (rem : Nat) (a : Option Addr) (c : Nat) (M : Mem) (hc : x.length ≤ c) (hs : SM M a (wAj x)) (h0 : 0 < x.length) (hr : x.length ≤ rem) (hn : rem ≤ 1000000000) :
  SpecL Tryz.prog 79 #[.pointer (some ⟨b8, 0, none⟩), .slice a x.length c] M [(b8, .cells [.slice (some ⟨hb, pre.length, none⟩) rem rem].toArray THp (0, 0)), (hb, .cells (wCi pre rem).toArray 5 (0, 0))] fun u M' L' => u = .slice (some ⟨hb, pre.length, none⟩) x.length x.length ∧ M = M' ∧ L' = [(b8, .cells [.slice (slA (some ⟨hb, pre.length, none⟩) x.length rem 1) (rem - x.length) (rem - x.length)].toArray THp (0, 0)), (hb, .cells (wCi (pre ++ x) (rem - x.length)).toArray 5 (0, 0))] := by
 refine wAe (vs := [_, _]) 26 _ Tryz.func79 rfl Tryz.ntmps79 rfl rfl ?_; intro W
 refine wAb (wAa (jp rfl (wAc (jT (wAb (wAa (jp rfl (wAi rfl rfl (wAx rfl rfl rfl) ?_))))))))
 refine sLd rfl ?_
 refine jp rfl ?_
 refine wAv rfl rfl (hCopy (cs := wAj x) rfl rfl rfl rfl (by rw [wAm]; omega) (hs.sj _) (wBf _) (by rw [wAm, hcells_len]; omega)) ?_; rintro _ _ _ ⟨rfl, rfl, rfl⟩
 rw [hcells_step hr, wAm]
 refine jp rfl (wAc (jT (wAb (wAa (jp rfl (wAi rfl rfl (wAx rfl rfl rfl) ?_))))))
 refine sLd rfl ?_
 refine jp rfl (jp rfl ?_)
 refine wAi rfl rfl (qEq (qSl rfl rfl rfl (.of (v := x.length) rfl (by omega) (by omega)) (.of (v := x.length) rfl (by omega) (by omega)) (.no _) (by omega) (by simp)) (v' := .slice (some ⟨hb, pre.length, none⟩) x.length x.length) (by rw [wEq]; rfl)) ?_
 refine jp rfl (wAc (jT (wAb (wAa (jp rfl (jp rfl (wAi rfl rfl (wAx rfl rfl rfl) ?_)))))))
 refine sLd rfl ?_
 refine jp rfl (wAi rfl rfl (qSl rfl rfl rfl (.no _) (.no _) (.of (v := x.length) rfl (by omega) (by omega)) (by omega) (by simp)) ?_)
 refine wAi rfl rfl (wAx rfl rfl rfl) ?_
 refine sSt rfl ?_
 refine wAc (jT (wAb (wAa (jp rfl (jp rfl (wAc (jT (wAf (jr1 rfl rfl ?_)))))))))
 exact ⟨rfl, rfl, rfl⟩
theorem wGt : ∀ {ds : List (List By)}, (∀ d ∈ ds, d.length = 128) → ds.flatten.length = 128 * ds.length
 | [], _ => rfl
 | d :: ds, h => by
  rw [List.flatten_cons, List.length_append, h d (by simp), wGt (fun x hx => h x (by simp [hx])), List.length_cons]; omega
theorem flat128_get : ∀ {ds : List (List By)} {j i : Nat}, (∀ d ∈ ds, d.length = 128) → i < 128 → ds.flatten[128 * j + i]? = (ds[j]?).bind (·[i]?)
 | [], j, i, _, _ => by simp
 | d :: ds, 0, i, h, hi => by
  rw [List.flatten_cons, List.getElem?_append_left (by rw [h d (by simp)]; omega)]; simp
 | d :: ds, j + 1, i, h, hi => by
  rw [List.flatten_cons, List.getElem?_append_right (by rw [h d (by simp)]; omega), h d (by simp), show 128 * (j + 1) + i - 128 = 128 * j + i by omega, flat128_get (fun x hx => h x (by simp [hx])) hi]; simp
theorem hcells_zero (n : Nat) : (List.replicate ((n : Nat) : Int).toNat [Value.int .u8 0]).flatten = wCi [] n := by simp [wCi, wAj]
def nilV : Value := .slice none 0 0
def wJm (hb j : Nat) : Value := .slice (some ⟨hb, 128 * j, none⟩) 128 128
def blC (hb n i : Nat) : List Value := (List.range i).map (wJm hb) ++ List.replicate (n - i) nilV
def wrC (hb n : Nat) (ws : List Wt) (i : Nat) : List Value := (List.range i).flatMap (fun j => [.int .i64 (ws.getD j (0, [])).1, wJm hb (n + j)]) ++ (List.replicate (ws.length + 1 - i) [.int .i64 0, nilV]).flatten
theorem wEs (hb n : Nat) : (List.replicate ((n : Nat) : Int).toNat [Value.slice none 0 0]).flatten = blC hb n 0 := by simp [blC, nilV]
theorem wEp (hb n : Nat) (ws : List Wt) (k : Int) (hk : k = ((ws.length + 1 : Nat) : Int)) : (List.replicate k.toNat [Value.int .i64 0, Value.slice none 0 0]).flatten = wrC hb n ws 0 := by rw [hk]; simp [wrC, nilV]
theorem blC_len {hb n i : Nat} (h : i ≤ n) : (blC hb n i).length = n := by simp [blC]; omega
theorem wrC_len {hb n i : Nat} {ws : List Wt} (h : i ≤ ws.length) : (wrC hb n ws i).length = 2 * (ws.length + 1) := by
 have e : ∀ k, ((List.range k).flatMap (fun j => [Value.int .i64 (ws.getD j (0, [])).1, wJm hb (n + j)])).length = 2 * k := fun k => by
  induction k with
  | zero => rfl
  | succ k ih => rw [List.range_succ, List.flatMap_append, List.length_append, ih]; simp; omega
 rw [wrC, List.length_append, e]; simp; omega
theorem blC_step {hb n i o : Nat} (h : i < n) (ho : o = i) : (blC hb n i).take o ++ [wJm hb i] ++ (blC hb n i).drop (o + [wJm hb i].length) = blC hb n (i + 1) := by
 subst ho
 have hr : ((List.range o).map (wJm hb)).length = o := by simp
 unfold blC
 rw [List.take_left' hr, List.drop_append, List.drop_eq_nil_of_le (by rw [hr]; simp), hr, List.nil_append, List.drop_replicate, List.range_succ, List.map_append]
 simp
 omega
theorem wrC_step {hb n i o : Nat} {ws : List Wt} (h : i < ws.length) (ho : o = i * 2) {cs : List Value} (hcs : cs = [.int .i64 (ws.getD i (0, [])).1, wJm hb (n + i)]) : (wrC hb n ws i).take o ++ cs ++ (wrC hb n ws i).drop (o + cs.length) = wrC hb n ws (i + 1) := by
 subst ho; subst hcs
 have hr : ((List.range i).flatMap (fun j => [Value.int .i64 (ws.getD j (0, [])).1, wJm hb (n + j)])).length = i * 2 := by
  induction i with
  | zero => rfl
  | succ k ih => rw [List.range_succ, List.flatMap_append, List.length_append, ih (by omega)]; simp; omega
 unfold wrC
 rw [List.take_left' hr, List.drop_append, List.drop_eq_nil_of_le (by rw [hr]; simp), hr, List.nil_append, List.range_succ, List.flatMap_append]
 rw [show ws.length + 1 - i = (ws.length + 1 - (i + 1)) + 1 by omega, List.replicate_succ, List.flatten_cons]
 simp
theorem range_getD (bs : List (List By)) : (List.range bs.length).map (fun j => bs.getD j []) = bs := by
 apply List.ext_getElem?
 intro i
 by_cases h : i < bs.length
 ·simp [List.getElem?_map, List.getElem?_range h, h]
 simp [h]
theorem range_getW (ws : List Wt) : (List.range ws.length).map (fun j => ws.getD j (0, [])) = ws := by
 apply List.ext_getElem?
 intro i
 by_cases h : i < ws.length
 ·simp [List.getElem?_map, List.getElem?_range h, h]
 simp [h]
theorem cut_bs {M : Mem} {hb j : Nat} {ds : List (List By)} (h : ∀ d ∈ ds, d.length = 128) (hm : M hb = some (.cells (wCi ds.flatten 0).toArray 5 (0, 0))) (hj : j < ds.length) : BS M (wJm hb j) ds[j] := by
 have hl := h ds[j] (List.getElem_mem hj)
 refine ⟨_, 128, by rw [hl]; rfl, by omega, .inr ⟨hb, 128 * j, rfl, fun i u hu => ⟨_, _, _, hm, ?_⟩⟩⟩
 have hi : i < 128 := by
  have := (List.getElem?_eq_some_iff.1 hu).1
  rw [wAm, hl] at this; exact this
 have h2 := flat128_get (j := j) h hi
 rw [List.getElem?_eq_getElem hj, Option.bind_some] at h2
 simp only [wCi, List.replicate_zero, List.append_nil, wAj, List.getElem?_toArray, List.getElem?_map] at hu ⊢
 rw [h2]; exact hu
set_option maxHeartbeats 4000000 in
theorem dtwin_own (bs : List (List By)) (ws : List Wt) (a1 : Option Addr) (c1 : Nat) (ps1 : List (List By × Value)) (a2 : Option Addr) (c2 : Nat) (ps2 : List (Wt × Value)) (M : Mem) (hc1 : bs.length ≤ c1) (hs1 : SM M a1 (ps1.map (·.2))) (hp1 : ps1.map (·.1) = bs) (hb1 : ∀ p ∈ ps1, BS M p.2 p.1) (hc2 : ws.length ≤ c2) (hs2 : SM M a2 (ps2.flatMap wBs)) (hp2 : ps2.map (·.1) = ws) (hb2 : ∀ p ∈ ps2, BS M p.2 p.1.2) (hdk : dkOk bs ws) :
  SpecL Tryz.prog 56 #[.agg #[.slice a1 bs.length c1, .slice a2 ws.length c2]] M [] fun u M' L' => ∃ bv' wv', u = .agg #[bv', wv'] ∧ LS M' bv' bs ∧ ∃ ps : List (Wt × Value), ps.map (·.1) = ws ∧ (∀ p ∈ ps, BS M' p.2 p.1.2) ∧ Own wv' L' WT 2 ws.length (ps.flatMap wBs) := by
 obtain ⟨hq1, hq2, hq3, hq4⟩ := id hdk
 have hds : ∀ d ∈ bs ++ ws.map (·.2), d.length = 128 := fun d hd => by
  rcases List.mem_append.1 hd with hd | hd
  ·exact hq3 d hd
  obtain ⟨w, hw, rfl⟩ := List.mem_map.1 hd; exact (hq4 w hw).2.2
 have hdl : (bs ++ ws.map (·.2)).length = bs.length + ws.length := by simp
 have hpl : ∀ i, i ≤ bs.length + ws.length → (((bs ++ ws.map (·.2)).take i).flatten).length = 128 * i := fun i hi => by rw [wGt (fun d hd => hds d (List.mem_of_mem_take hd)), List.length_take]; congr 1; omega
 refine wAe (vs := [_]) 89 _ Tryz.func56 rfl Tryz.ntmps56 rfl rfl ?_; intro W
 refine wAb (wAa (wAv rfl rfl (wBw (cs := [_, _]) rfl rfl rfl rfl) ?_)); rintro _ _ _ ⟨b1, rfl, rfl, rfl⟩
 refine sAl rfl fun b2 => ?_
 refine wAc (jT (wAb (wAa (jp rfl (wAc (jT (wAb (wAb (wAa (sFL rfl rfl ?_))))))))))
 refine wAi rfl rfl (wBe rfl rfl rfl) ?_
 refine jp rfl (wAc (jT (wAh ?_)))
 refine wAo (α := Nat) (fun k => [(1, .pointer (some ⟨b1, 0, none⟩)), (2, .pointer (some ⟨b2, 0, none⟩)), (3, .int .i64 ((128 * k : Nat) : Int)), (15, .slice a1 bs.length c1), (16, .int .i64 bs.length), (17, .int .i64 k)]) (fun _ => M) (fun _ => [(b2, .cells [.slice none 0 0, .slice none 0 0].toArray 25 (0, 0)), (b1, .cells [.slice a1 bs.length c1, .slice a2 ws.length c2].toArray 25 (0, 0))]) (fun k => k ≤ bs.length) (fun k => bs.length - k)
  0 (.cons (t := 1) rfl (.cons (t := 2) rfl (.cons (t := 3) rfl (.cons (t := 15) rfl (.cons (t := 16) rfl (.cons (t := 17) rfl .nil)))))) (Nat.zero_le _) (fun _ h => h) ?_
 rintro k hk
 try dsimp only at hk ⊢
 refine wAb (wAa (js rfl (fun h18 => ?_) (fun h18 => ?_)))
 ·refine wAc (jT (wAb (wAg rfl (wAd (jT (wAb (wAh (wAb (wAa ?_)))))))))
  have hk1 : k < bs.length := by omega
  obtain ⟨sb, so, e0, hx⟩ := hs1.open (by intro e; have := congrArg List.length e; rw [List.length_map, List.length_nil] at this; have h2 := congrArg List.length hp1; rw [List.length_map] at h2; omega)
  subst e0
  obtain ⟨va, vc, hcl, hvc, hvs⟩ := wDp hx hp1 hb1 hk1
  have hl1 := hq3 bs[k] (List.getElem_mem _)
  refine wAi rfl rfl (wBb rfl rfl rfl rfl (by omega)) ?_
  refine wAi rfl rfl (qLd rfl rfl rfl rfl (hcl.cj _)) ?_
  refine jp rfl (wAc (jT (wAa (jp rfl (jp rfl (wAi rfl rfl (wBe rfl rfl rfl) ?_))))))
  refine ja rfl (by omega) ?_
  refine jp rfl (wAc (jB (jT (wAa (ja rfl (by omega) ?_)))))
  refine jp rfl (wAc ?_)
  refine wAn (k + 1) (.cons (t := 1) rfl (.cons (t := 2) rfl (Keep.ceq (t := 3) rfl (by rw [hl1]; congr 1) (.cons (t := 15) rfl (.cons (t := 16) rfl (.cons (t := 17) rfl .nil)))))) (by show k + 1 ≤ bs.length; omega) (by show bs.length - (k + 1) < bs.length - k; omega) (fun _ h => h)
 refine wAc (jT (wAb (wAk rfl (wAs (jTx (jTx (jBx (jT (wAb (wAb (wAa (sFL rfl rfl ?_))))))))))))
 refine wAi rfl rfl (wBe rfl rfl rfl) ?_
 refine jp rfl (wAc (jT (wAh ?_)))
 obtain rfl : k = bs.length := by omega
 refine wAo (α := Nat) (fun k => [(1, .pointer (some ⟨b1, 0, none⟩)), (2, .pointer (some ⟨b2, 0, none⟩)), (3, .int .i64 ((128 * (bs.length + k) : Nat) : Int)), (27, .slice a2 ws.length c2), (28, .int .i64 ws.length), (29, .int .i64 k)]) (fun _ => M) (fun _ => [(b2, .cells [.slice none 0 0, .slice none 0 0].toArray 25 (0, 0)), (b1, .cells [.slice a1 bs.length c1, .slice a2 ws.length c2].toArray 25 (0, 0))]) (fun k => k ≤ ws.length) (fun k => ws.length - k)
  0 (.cons (t := 1) rfl (.cons (t := 2) rfl (.cons (t := 3) rfl (.cons (t := 27) rfl (.cons (t := 28) rfl (.cons (t := 29) rfl .nil)))))) (Nat.zero_le _) (fun _ h => h) ?_
 rintro k hk
 try dsimp only at hk ⊢
 refine wAb (wAa (js rfl (fun h30 => ?_) (fun h30 => ?_)))
 ·refine wAc (jT (wAb (wAg rfl (wAd (jT (wAb (wAh (wAb (wAa ?_)))))))))
  have hk1 : k < ws.length := by omega
  obtain ⟨sb, so, e0, hx⟩ := hs2.open (by intro e; have := congrArg List.length e; rw [wBm wBs 2 wBx, List.length_nil] at this; have h2 := congrArg List.length hp2; rw [List.length_map] at h2; omega)
  subst e0
  obtain ⟨va, vc, hcl, hvc, hvs⟩ := wEc hx hp2 hb2 hk1
  have hl1 := (hq4 ws[k] (List.getElem_mem _)).2.2
  refine wAi rfl rfl (wBb rfl rfl rfl rfl (by omega)) ?_
  refine wAi rfl rfl (wGp (cs := wtc ws[k] va vc) rfl rfl rfl rfl rfl (fun i v hv => (hcl i v hv).cj _)) ?_
  refine sAl rfl fun b7 => ?_
  refine sSt rfl ?_
  refine wAc (jT (wAa (jp rfl (sFL rfl rfl ?_))))
  refine wAi rfl rfl (wBe rfl rfl rfl) ?_
  refine ja rfl (by omega) ?_
  refine jp rfl (wAc (jB (jT (wAa (ja rfl (by omega) ?_)))))
  refine jp rfl (wAc ?_)
  refine wAn (k + 1) (.cons (t := 1) rfl (.cons (t := 2) rfl (Keep.ceq (t := 3) rfl (by rw [hl1]; congr 1) (.cons (t := 27) rfl (.cons (t := 28) rfl (.cons (t := 29) rfl .nil)))))) (by show k + 1 ≤ ws.length; omega) (by show ws.length - (k + 1) < ws.length - k; omega) (fun _ h => h.fewer (by simp))
 refine wAc (jT (wAb (wAk rfl (wAs (jTx (jTx (jBx (jT (wAb (wAa (jp rfl ?_)))))))))))
 obtain rfl : k = ws.length := by omega
 refine wAv rfl rfl (wEa rfl rfl rfl rfl (by omega) (by rfl)) ?_; rintro _ _ _ ⟨b40, rfl, rfl, rfl⟩
 rw [hcells_zero]
 refine sAl rfl fun b8 => ?_
 refine sSt rfl ?_
 refine wAc (jT (wAb (wEf ([(b1, .cells [.slice a1 bs.length c1, .slice a2 ws.length c2].toArray 25 (0, 0))]) (by kernel_rfl) (by simp) ?_)))
 refine wDg (i := 0) rfl (by kernel_rfl) (by kernel_rfl) rfl rfl (wBi rfl rfl rfl rfl rfl) ?_
 refine wDg (i := 1) rfl (by kernel_rfl) (by kernel_rfl) rfl rfl (qLd rfl rfl rfl rfl (CJ.loc rfl)) ?_
 refine wDg (i := 2) rfl (by kernel_rfl) (by kernel_rfl) rfl rfl (wBe rfl rfl rfl) ?_
 refine wDg (i := 4) rfl (by kernel_rfl) (by kernel_rfl) rfl rfl (wBi rfl rfl rfl rfl rfl) ?_
 refine wDg (i := 5) rfl (by kernel_rfl) (by kernel_rfl) rfl rfl (qLd rfl rfl rfl rfl (CJ.loc rfl)) ?_
 refine wDg (i := 6) rfl (by kernel_rfl) (by kernel_rfl) rfl rfl (wBe rfl rfl rfl) ?_
 refine wDg (i := 7) rfl (by kernel_rfl) (by kernel_rfl) rfl rfl (wBi rfl rfl rfl rfl rfl) ?_
 refine wDg (i := 8) rfl (by kernel_rfl) (by kernel_rfl) rfl rfl (qLd rfl rfl rfl rfl (CJ.loc rfl)) ?_
 refine wDg (i := 9) rfl (by kernel_rfl) (by kernel_rfl) rfl rfl (wBe rfl rfl rfl) ?_
 refine wDg (i := 10) rfl (by kernel_rfl) (by kernel_rfl) rfl rfl (qA rfl rfl rfl rfl rfl (by omega)) ?_
 refine wEh (α := Nat × Nat × Nat) (fun _ => True) (fun x => [(1, .pointer (some ⟨b1, 0, none⟩)), (2, .pointer (some ⟨b2, 0, none⟩)), (8, .pointer (some ⟨b8, 0, none⟩)), (9, .pointer (some ⟨x.2.2, 0, none⟩)), (53, .agg [.slice (some ⟨x.1, 0, none⟩) bs.length bs.length, .slice (some ⟨x.2.1, 0, none⟩) ws.length (ws.length + 1)].toArray)]) (fun _ => M) (fun x => [(b8, .cells [.slice (some ⟨b40, 0, none⟩) (128 * (bs.length + ws.length - (0))) (128 * (bs.length + ws.length - (0)))].toArray THp (0, 0)), (b40, .cells (wCi ((bs ++ ws.map (·.2)).take (0)).flatten (128 * (bs.length + ws.length - (0)))).toArray 5 (0, 0)), (x.1, .cells (blC b40 bs.length 0).toArray 26 (0, 0)), (x.2.1, .cells (wrC b40 bs.length ws 0).toArray WT (0, 0)), (x.2.2, .cells [.slice none 0 0, .slice none 0 0].toArray 25 (0, 0)), (b2, .cells [.slice none 0 0, .slice none 0 0].toArray 25 (0, 0)), (b1, .cells [.slice a1 bs.length c1, .slice a2 ws.length c2].toArray 25 (0, 0))]) 1 #[true, true, true, true, true, true, true, true, true, true, true, true, true, true, false] ?_ (fun rest => ?_)
 ·rintro ⟨b44, b52, b9⟩ _
  try dsimp only
  refine wFo (i := 14) (by kernel_rfl) ?_
  refine js_s rfl rfl (wBd rfl rfl rfl rfl rfl rfl rfl rfl) ?_; rintro _ _ _ ⟨rfl, rfl⟩
  refine wAp (MLe.refl _) (by simp) ?_
  refine wHi (by kernel_rfl) ?_
  refine jPn (jT (wAb (wAb (wAa (sFL rfl rfl ?_)))))
  refine wAi rfl rfl (wBe rfl rfl rfl) ?_
  refine jp rfl (wAc (jT (wAh ?_)))
  refine wAo (α := Nat × Option Addr) (fun x => [(1, .pointer (some ⟨b1, 0, none⟩)), (2, .pointer (some ⟨b2, 0, none⟩)), (8, .pointer (some ⟨b8, 0, none⟩)), (9, .pointer (some ⟨b9, 0, none⟩)), (55, .slice a1 bs.length c1), (56, .int .i64 bs.length), (57, .int .i64 (x.1 : Int))]) (fun _ => M) (fun x => [(b8, .cells [.slice x.2 (128 * (bs.length + ws.length - (x.1))) (128 * (bs.length + ws.length - (x.1)))].toArray THp (0, 0)), (b40, .cells (wCi ((bs ++ ws.map (·.2)).take (x.1)).flatten (128 * (bs.length + ws.length - (x.1)))).toArray 5 (0, 0)), (b44, .cells (blC b40 bs.length (x.1)).toArray 26 (0, 0)), (b52, .cells (wrC b40 bs.length ws (0)).toArray WT (0, 0)), (b9, .cells [.slice (some ⟨b44, 0, none⟩) bs.length bs.length, .slice (some ⟨b52, 0, none⟩) ws.length (ws.length + 1)].toArray 25 (0, 0)), (b2, .cells [.slice none 0 0, .slice none 0 0].toArray 25 (0, 0)), (b1, .cells [.slice a1 bs.length c1, .slice a2 ws.length c2].toArray 25 (0, 0))]) (fun x => x.1 ≤ bs.length ∧ (0 < 128 * (bs.length + ws.length - x.1) → x.2 = some ⟨b40, ((bs ++ ws.map (·.2)).take (x.1)).flatten.length, none⟩)) (fun x => bs.length - x.1)
   (0, some ⟨b40, 0, none⟩) (.cons (t := 1) rfl (.cons (t := 2) rfl (.cons (t := 8) rfl (.cons (t := 9) rfl (.cons (t := 55) rfl (.cons (t := 56) rfl (.cons (t := 57) rfl .nil))))))) ⟨Nat.zero_le _, fun _ => rfl⟩ (fun _ h => h) ?_
  rintro ⟨k, A⟩ ⟨hk, hA⟩
  try dsimp only at hk hA ⊢
  refine wAb (wAa (js rfl (fun h58 => ?_) (fun h58 => ?_)))
  ·refine wAc (jT (wAb (wAg rfl (wAd (jT (wAb (wAh (wAb (wAa (jp rfl ?_))))))))))
   have hk1 : k < bs.length := by omega
   obtain ⟨sb, so, e0, hx⟩ := hs1.open (by intro e; have := congrArg List.length e; rw [List.length_map, List.length_nil] at this; have h2 := congrArg List.length hp1; rw [List.length_map] at h2; omega)
   subst e0
   obtain ⟨va, vc, hcl, hvc, hvs⟩ := wDp hx hp1 hb1 hk1
   have hl1 := hq3 bs[k] (List.getElem_mem _)
   refine wAi rfl rfl (wBb rfl rfl rfl rfl (by omega)) ?_
   refine wAi rfl rfl (qLd rfl rfl rfl rfl (hcl.cj _)) ?_
   refine jp rfl (jp rfl (wAc (jT (wBn [(0, true), (1, true), (2, true), (3, true), (4, false), (5, true), (6, false)] [(b9, .cells [.slice (some ⟨b44, 0, none⟩) bs.length bs.length, .slice (some ⟨b52, 0, none⟩) ws.length (ws.length + 1)].toArray 25 (0, 0))] (by kernel_rfl) (by kernel_rfl) (by kernel_rfl) rfl (by simp) ?_))))
   refine dFa rfl rfl ?_
   refine dLd rfl rfl ?_
   iterate 2 refine dp rfl rfl ?_
   obtain rfl : A = some ⟨b40, ((bs ++ ws.map (·.2)).take (k)).flatten.length, none⟩ := hA (by omega)
   have hst := wFq (bs := bs ++ ws.map (·.2)) (k := k) (by omega)
   rw [List.getElem_append_left hk1] at hst
   have hp1' := hpl k (by omega)
   refine wDy rfl rfl rfl (wAt rfl rfl rfl rfl rfl (by kernel_rfl) (wHx b8 b40 ((bs ++ ws.map (·.2)).take (k)).flatten bs[k] (128 * (bs.length + ws.length - (k))) va vc M hvc hvs (by omega) (by omega) (by omega))) ?_; rintro _ M' _ ⟨_, _, rfl, ⟨rfl, rfl, rfl⟩⟩
   refine ⟨_, _, MLe.refl _, MLe.refl _, fun _ h => h, by simp, ?_⟩
   rw [hp1', hl1, ← hst, show 128 * (bs.length + ws.length - k) - 128 = 128 * (bs.length + ws.length - (k + 1)) by omega, show (Value.slice (some ⟨b40, 128 * k, none⟩) 128 128) = wJm b40 k from rfl]
   refine wBh rfl rfl rfl (wBb rfl rfl rfl rfl (by omega)) ?_
   refine jd_s rfl rfl (hStore rfl rfl rfl rfl rfl rfl (by simp [Value.oneCell', wJm]) (by rw [blC_len (by omega)]; show _ + 1 ≤ _; omega)) ?_; rintro _ _ _ ⟨rfl, rfl⟩
   refine ⟨_, _, MLe.refl _, MLe.refl _, fun _ h => h, by simp, ?_⟩
   rw [blC_step (by omega) (by omega)]
   refine wBg (jPn (jB (jT (wAa (ja rfl (by omega) ?_)))))
   refine jp rfl (wAc ?_)
   refine wAn (k + 1, slA (some ⟨b40, 128 * k, none⟩) 128 (128 * (bs.length + ws.length - k)) 1) (.cons (t := 1) rfl (.cons (t := 2) rfl (.cons (t := 8) rfl (.cons (t := 9) rfl (.cons (t := 55) rfl (.cons (t := 56) rfl (.cons (t := 57) rfl .nil))))))) ⟨by show k + 1 ≤ bs.length; omega, ?_⟩ (by show bs.length - (k + 1) < bs.length - k; omega) (fun _ h => h)
   intro h0; replace h0 : 0 < 128 * (bs.length + ws.length - (k + 1)) := h0; show slA _ _ _ _ = some ⟨b40, ((bs ++ ws.map (·.2)).take (k + 1)).flatten.length, none⟩
   rw [wBu (by omega), hpl (k + 1) (by omega)]; congr 2
  refine wAc (jT (wAb (wAk rfl (wAs (jTx (jTx (jBx (jT (wAb (wAb (wAa (sFL rfl rfl ?_))))))))))))
  refine wAi rfl rfl (wBe rfl rfl rfl) ?_
  refine jp rfl (wAc (jT (wAh ?_)))
  obtain rfl : k = bs.length := by omega
  refine wAo (α := Nat × Option Addr) (fun x => [(1, .pointer (some ⟨b1, 0, none⟩)), (2, .pointer (some ⟨b2, 0, none⟩)), (8, .pointer (some ⟨b8, 0, none⟩)), (9, .pointer (some ⟨b9, 0, none⟩)), (70, .slice a2 ws.length c2), (71, .int .i64 ws.length), (72, .int .i64 (x.1 : Int))]) (fun _ => M) (fun x => [(b8, .cells [.slice x.2 (128 * (bs.length + ws.length - (bs.length + x.1))) (128 * (bs.length + ws.length - (bs.length + x.1)))].toArray THp (0, 0)), (b40, .cells (wCi ((bs ++ ws.map (·.2)).take (bs.length + x.1)).flatten (128 * (bs.length + ws.length - (bs.length + x.1)))).toArray 5 (0, 0)), (b44, .cells (blC b40 bs.length (bs.length)).toArray 26 (0, 0)), (b52, .cells (wrC b40 bs.length ws (x.1)).toArray WT (0, 0)), (b9, .cells [.slice (some ⟨b44, 0, none⟩) bs.length bs.length, .slice (some ⟨b52, 0, none⟩) ws.length (ws.length + 1)].toArray 25 (0, 0)), (b2, .cells [.slice none 0 0, .slice none 0 0].toArray 25 (0, 0)), (b1, .cells [.slice a1 bs.length c1, .slice a2 ws.length c2].toArray 25 (0, 0))]) (fun x => x.1 ≤ ws.length ∧ (0 < 128 * (bs.length + ws.length - (bs.length + x.1)) → x.2 = some ⟨b40, ((bs ++ ws.map (·.2)).take (bs.length + x.1)).flatten.length, none⟩)) (fun x => ws.length - x.1)
   (0, A) (.cons (t := 1) rfl (.cons (t := 2) rfl (.cons (t := 8) rfl (.cons (t := 9) rfl (.cons (t := 70) rfl (.cons (t := 71) rfl (.cons (t := 72) rfl .nil))))))) ⟨Nat.zero_le _, hA⟩ (fun _ h => h) ?_
  rintro ⟨k, A⟩ ⟨hk, hA⟩
  try dsimp only at hk hA ⊢
  refine wAb (wAa (js rfl (fun h73 => ?_) (fun h73 => ?_)))
  ·refine wAc (jT (wAb (wAg rfl (wAd (jT (wAb (wAh (wAb (wAa (jp rfl ?_))))))))))
   have hk1 : k < ws.length := by omega
   obtain ⟨sb, so, e0, hx⟩ := hs2.open (by intro e; have := congrArg List.length e; rw [wBm wBs 2 wBx, List.length_nil] at this; have h2 := congrArg List.length hp2; rw [List.length_map] at h2; omega)
   subst e0
   obtain ⟨va, vc, hcl, hvc, hvs⟩ := wEc hx hp2 hb2 hk1
   have hl1 := (hq4 ws[k] (List.getElem_mem _)).2.2
   refine wAi rfl rfl (wBb rfl rfl rfl rfl (by omega)) ?_
   refine wAi rfl rfl (wGp (cs := wtc ws[k] va vc) rfl rfl rfl rfl rfl (fun i v hv => (hcl i v hv).cj _)) ?_
   refine sAl rfl fun b13 => ?_
   refine jp rfl (sSt rfl ?_)
   refine wAc (jT (wBn [(0, true), (1, true), (2, true), (3, true), (4, true), (5, true), (6, true), (7, false), (8, true), (9, true), (10, false)] [(b13, .cells (wtc ws[k] va vc).toArray WT (0, 0)), (b9, .cells [.slice (some ⟨b44, 0, none⟩) bs.length bs.length, .slice (some ⟨b52, 0, none⟩) ws.length (ws.length + 1)].toArray 25 (0, 0))] (by kernel_rfl) (by kernel_rfl) (by kernel_rfl) rfl (by simp) ?_))
   refine dFa rfl rfl ?_
   refine dLd rfl rfl ?_
   refine dp rfl rfl ?_
   refine dFa rfl rfl ?_
   refine dLd rfl rfl ?_
   refine dFa rfl rfl ?_
   refine dLd rfl rfl ?_
   obtain rfl : A = some ⟨b40, ((bs ++ ws.map (·.2)).take (bs.length + k)).flatten.length, none⟩ := hA (by omega)
   have hst := wFq (bs := bs ++ ws.map (·.2)) (k := bs.length + k) (by omega)
   rw [List.getElem_append_right (by omega)] at hst
   simp only [Nat.add_sub_cancel_left, List.getElem_map] at hst
   have hp1' := hpl (bs.length + k) (by omega)
   refine wDy rfl rfl rfl (wAt rfl rfl rfl rfl rfl (by kernel_rfl) (wHx b8 b40 ((bs ++ ws.map (·.2)).take (bs.length + k)).flatten ws[k].2 (128 * (bs.length + ws.length - (bs.length + k))) va vc M hvc hvs (by omega) (by omega) (by omega))) ?_; rintro _ M' _ ⟨_, _, rfl, ⟨rfl, rfl, rfl⟩⟩
   refine ⟨_, _, MLe.refl _, MLe.refl _, fun _ h => h, by simp, ?_⟩
   rw [hp1', hl1, ← hst, show 128 * (bs.length + ws.length - (bs.length + k)) - 128 = 128 * (bs.length + ws.length - (bs.length + (k + 1))) by omega, show (Value.slice (some ⟨b40, 128 * (bs.length + k), none⟩) 128 128) = wJm b40 (bs.length + k) from rfl]
   refine wBh rfl rfl rfl (wAq (cs := [_, _]) rfl rfl rfl (by rfl)) ?_
   refine wBh rfl rfl rfl (wBb rfl rfl rfl rfl (by omega)) ?_
   refine jd_s rfl rfl (hStore (cs := [.int .i64 ws[k].1, wJm b40 (bs.length + k)]) rfl rfl rfl rfl rfl rfl (by simp [Value.oneCell', wJm]) (by rw [wrC_len (by omega)]; show _ + 2 ≤ _; omega)) ?_; rintro _ _ _ ⟨rfl, rfl⟩
   refine ⟨_, _, MLe.refl _, MLe.refl _, fun _ h => h, by simp, ?_⟩
   rw [wrC_step (by omega) (by omega) (by rw [show ws.getD k (0, []) = ws[k] from wDb hk1 _])]
   refine wBg (jPn (jB (jT (wAa (ja rfl (by omega) ?_)))))
   refine jp rfl (wAc ?_)
   refine wAn (k + 1, slA (some ⟨b40, 128 * (bs.length + k), none⟩) 128 (128 * (bs.length + ws.length - (bs.length + k))) 1) (.cons (t := 1) rfl (.cons (t := 2) rfl (.cons (t := 8) rfl (.cons (t := 9) rfl (.cons (t := 70) rfl (.cons (t := 71) rfl (.cons (t := 72) rfl .nil))))))) ⟨by show k + 1 ≤ ws.length; omega, ?_⟩ (by show ws.length - (k + 1) < ws.length - k; omega) (fun _ h => h.fewer (.cons_cons _ (.cons_cons _ (.cons _ (.refl _)))))
   intro h0; replace h0 : 0 < 128 * (bs.length + ws.length - (bs.length + (k + 1))) := h0; show slA _ _ _ _ = some ⟨b40, ((bs ++ ws.map (·.2)).take (bs.length + (k + 1))).flatten.length, none⟩
   rw [wBu (by omega), hpl (bs.length + (k + 1)) (by omega)]; congr 2
  refine wAc (jT (wAb (wAk rfl (wAs (jTx (jTx (jBx (jT (wAb (wAa (sLL rfl ?_)))))))))))
  refine sSt rfl ?_
  refine wAc (jT (wAf ?_))
  obtain rfl : k = ws.length := by omega
  refine wCa b40 (by simp) ?_
  intro Ma hMa e40
  refine wCa b44 (by simp) ?_
  intro Mb hMb e44
  refine wBr (rs := [_]) ([(b52, .cells (wrC b40 bs.length ws (ws.length)).toArray WT (0, 0))]) (by first | exact List.sublist_append_of_sublist_left (.refl _) | simp) rfl (.cons (.agg rfl rfl rfl) .nil) ?_
  have e40c := hMb _ _ e40
  rw [Nat.sub_self, Nat.mul_zero, List.take_of_length_le (by omega)] at e40c
  have e44c := e44
  refine ⟨_, _, rfl, ?_, (List.range ws.length).map (fun j => (ws.getD j (0, []), wJm b40 (bs.length + j))), ?_, ?_, ?_⟩
  ·refine ⟨_, _, (List.range bs.length).map (fun j => (bs.getD j [], wJm b40 j)), rfl, Nat.le_refl _, ?_, ?_, ?_⟩
   ·rw [List.map_map]; have := SM.of_block e44c; unfold blC at this; rw [Nat.sub_self, List.replicate_zero, List.append_nil] at this; exact this
   ·rw [List.map_map]; exact range_getD bs
   intro p hp; obtain ⟨j, hj, rfl⟩ := List.mem_map.1 hp
   have hj1 := List.mem_range.1 hj
   have := cut_bs hds e40c (j := j) (by omega)
   rw [List.getElem_append_left hj1] at this
   show BS _ _ (bs.getD j []); rw [wDb hj1]; exact this
  ·rw [List.map_map]; exact range_getW ws
  ·intro p hp; obtain ⟨j, hj, rfl⟩ := List.mem_map.1 hp
   have hj1 := List.mem_range.1 hj
   have := cut_bs hds e40c (j := bs.length + j) (by omega)
   rw [List.getElem_append_right (by omega)] at this
   simp only [Nat.add_sub_cancel_left, List.getElem_map] at this
   show BS _ _ (ws.getD j (0, [])).2; rw [wDb hj1]; exact this
  have hfl : ((List.range ws.length).map (fun j => (ws.getD j (0, []), wJm b40 (bs.length + j)))).flatMap wBs = (List.range ws.length).flatMap (fun j => [Value.int .i64 (ws.getD j (0, [])).1, wJm b40 (bs.length + j)]) := by rw [List.flatMap_map]; rfl
  have hl2 : ((List.range ws.length).flatMap (fun j => [Value.int .i64 (ws.getD j (0, [])).1, wJm b40 (bs.length + j)])).length = ws.length * 2 := by rw [← hfl, wBm wBs 2 wBx]; simp
  rw [hfl]
  refine ⟨hl2, .inr ⟨b52, ws.length + 1, _, rfl, rfl, Nat.le_succ _, ?_, ?_, ?_⟩⟩
  ·unfold maxLen; omega
  ·rw [show (wrC b40 bs.length ws ws.length).toArray.size = (wrC b40 bs.length ws ws.length).length from rfl, wrC_len (Nat.le_refl _)]; omega
  show (wrC b40 bs.length ws ws.length).take (ws.length * 2) = _
  unfold wrC; exact List.take_left' hl2
 refine wBa [3, 11, 13] (by kernel_rfl) rfl ⟨?_, ?_, ?_, trivial⟩
 ·refine wCs rfl rfl rfl (wEa rfl rfl rfl rfl (by omega) (by rfl)) ?_; rintro _ _ _ ⟨b44, rfl, rfl, rfl⟩
  refine wAp (MLe.refl _) (by simp) ?_
  rw [wEs b40]
  refine wBa [11, 13] (by kernel_rfl) rfl ⟨?_, ?_, trivial⟩
  ·refine wCs rfl rfl rfl (wEa rfl rfl rfl rfl (by omega) (by rfl)) ?_; rintro _ _ _ ⟨b52, rfl, rfl, rfl⟩
   refine wAp (MLe.refl _) (by simp) ?_
   rw [wEp b40 bs.length ws _ (by omega)]
   refine wDg (i := 12) rfl (by kernel_rfl) (by kernel_rfl) rfl rfl (wAq (cs := [_, _]) rfl rfl rfl (by rfl)) ?_
   refine wBa [13] (by kernel_rfl) rfl ⟨?_, trivial⟩
   refine wCs rfl rfl rfl (wCx rfl rfl) ?_; rintro _ _ _ ⟨b9, rfl, rfl, rfl⟩
   refine wAp (MLe.refl _) (by simp) ?_
   refine wBq (listed' := #[true, true, true, true, true, true, true, true, true, true, true, true, true, true, false]) (by kernel_rfl) (wBp (.cons (t := 1) rfl (.cons (t := 2) rfl (.cons (t := 8) rfl (.cons (t := 9) rfl (.cons (t := 53) rfl .nil))))) ?_)
   refine wEg (M2 := M) (L2 := [(b8, .cells [.slice (some ⟨b40, 0, none⟩) (128 * (bs.length + ws.length - (0))) (128 * (bs.length + ws.length - (0)))].toArray THp (0, 0)), (b40, .cells (wCi ((bs ++ ws.map (·.2)).take (0)).flatten (128 * (bs.length + ws.length - (0)))).toArray 5 (0, 0)), (b44, .cells (blC b40 bs.length (0)).toArray 26 (0, 0)), (b52, .cells (wrC b40 bs.length ws (0)).toArray WT (0, 0)), (b9, .cells [.slice none 0 0, .slice none 0 0].toArray 25 (0, 0)), (b2, .cells [.slice none 0 0, .slice none 0 0].toArray 25 (0, 0)), (b1, .cells [.slice a1 bs.length c1, .slice a2 ws.length c2].toArray 25 (0, 0))]) (fun w h => h.perm ((Rm.perm (g := b8)).trans (List.Perm.cons _ ((Rm.perm (g := b40)).trans (List.Perm.cons _ ((Rm.perm (g := b44)).trans (List.Perm.cons _ ((Rm.perm (g := b52)).trans (List.Perm.cons _ (Rm.perm (g := b9))))))))))) (MLe.refl _) (by simp) ?_
   exact rest (b44, b52, b9) trivial
  refine wCs rfl rfl rfl (wCx rfl rfl) ?_; rintro _ _ _ ⟨b9, rfl, rfl, rfl⟩
  refine wAp (MLe.refl _) (by simp) ?_
  refine wBa [11] (by kernel_rfl) rfl ⟨?_, trivial⟩
  refine wCs rfl rfl rfl (wEa rfl rfl rfl rfl (by omega) (by rfl)) ?_; rintro _ _ _ ⟨b52, rfl, rfl, rfl⟩
  refine wAp (MLe.refl _) (by simp) ?_
  rw [wEp b40 bs.length ws _ (by omega)]
  refine wDg (i := 12) rfl (by kernel_rfl) (by kernel_rfl) rfl rfl (wAq (cs := [_, _]) rfl rfl rfl (by rfl)) ?_
  refine wBq (listed' := #[true, true, true, true, true, true, true, true, true, true, true, true, true, true, false]) (by kernel_rfl) (wBp (.cons (t := 1) rfl (.cons (t := 2) rfl (.cons (t := 8) rfl (.cons (t := 9) rfl (.cons (t := 53) rfl .nil))))) ?_)
  refine wEg (M2 := M) (L2 := [(b8, .cells [.slice (some ⟨b40, 0, none⟩) (128 * (bs.length + ws.length - (0))) (128 * (bs.length + ws.length - (0)))].toArray THp (0, 0)), (b40, .cells (wCi ((bs ++ ws.map (·.2)).take (0)).flatten (128 * (bs.length + ws.length - (0)))).toArray 5 (0, 0)), (b44, .cells (blC b40 bs.length (0)).toArray 26 (0, 0)), (b52, .cells (wrC b40 bs.length ws (0)).toArray WT (0, 0)), (b9, .cells [.slice none 0 0, .slice none 0 0].toArray 25 (0, 0)), (b2, .cells [.slice none 0 0, .slice none 0 0].toArray 25 (0, 0)), (b1, .cells [.slice a1 bs.length c1, .slice a2 ws.length c2].toArray 25 (0, 0))]) (fun w h => h.perm ((Rm.perm (g := b8)).trans (List.Perm.cons _ ((Rm.perm (g := b40)).trans (List.Perm.cons _ ((Rm.perm (g := b44)).trans (List.Perm.cons _ ((Rm.perm (g := b52)).trans (List.Perm.cons _ (Rm.perm (g := b9))))))))))) (MLe.refl _) (by simp) ?_
  exact rest (b44, b52, b9) trivial
 ·refine wCs rfl rfl rfl (wEa rfl rfl rfl rfl (by omega) (by rfl)) ?_; rintro _ _ _ ⟨b52, rfl, rfl, rfl⟩
  refine wAp (MLe.refl _) (by simp) ?_
  rw [wEp b40 bs.length ws _ (by omega)]
  refine wBa [3, 13] (by kernel_rfl) rfl ⟨?_, ?_, trivial⟩
  ·refine wCs rfl rfl rfl (wEa rfl rfl rfl rfl (by omega) (by rfl)) ?_; rintro _ _ _ ⟨b44, rfl, rfl, rfl⟩
   refine wAp (MLe.refl _) (by simp) ?_
   rw [wEs b40]
   refine wDg (i := 12) rfl (by kernel_rfl) (by kernel_rfl) rfl rfl (wAq (cs := [_, _]) rfl rfl rfl (by rfl)) ?_
   refine wBa [13] (by kernel_rfl) rfl ⟨?_, trivial⟩
   refine wCs rfl rfl rfl (wCx rfl rfl) ?_; rintro _ _ _ ⟨b9, rfl, rfl, rfl⟩
   refine wAp (MLe.refl _) (by simp) ?_
   refine wBq (listed' := #[true, true, true, true, true, true, true, true, true, true, true, true, true, true, false]) (by kernel_rfl) (wBp (.cons (t := 1) rfl (.cons (t := 2) rfl (.cons (t := 8) rfl (.cons (t := 9) rfl (.cons (t := 53) rfl .nil))))) ?_)
   refine wEg (M2 := M) (L2 := [(b8, .cells [.slice (some ⟨b40, 0, none⟩) (128 * (bs.length + ws.length - (0))) (128 * (bs.length + ws.length - (0)))].toArray THp (0, 0)), (b40, .cells (wCi ((bs ++ ws.map (·.2)).take (0)).flatten (128 * (bs.length + ws.length - (0)))).toArray 5 (0, 0)), (b44, .cells (blC b40 bs.length (0)).toArray 26 (0, 0)), (b52, .cells (wrC b40 bs.length ws (0)).toArray WT (0, 0)), (b9, .cells [.slice none 0 0, .slice none 0 0].toArray 25 (0, 0)), (b2, .cells [.slice none 0 0, .slice none 0 0].toArray 25 (0, 0)), (b1, .cells [.slice a1 bs.length c1, .slice a2 ws.length c2].toArray 25 (0, 0))]) (fun w h => h.perm ((Rm.perm (g := b8)).trans (List.Perm.cons _ ((Rm.perm (g := b40)).trans (List.Perm.cons _ ((Rm.perm (g := b44)).trans (List.Perm.cons _ ((Rm.perm (g := b52)).trans (List.Perm.cons _ (Rm.perm (g := b9))))))))))) (MLe.refl _) (by simp) ?_
   exact rest (b44, b52, b9) trivial
  refine wCs rfl rfl rfl (wCx rfl rfl) ?_; rintro _ _ _ ⟨b9, rfl, rfl, rfl⟩
  refine wAp (MLe.refl _) (by simp) ?_
  refine wBa [3] (by kernel_rfl) rfl ⟨?_, trivial⟩
  refine wCs rfl rfl rfl (wEa rfl rfl rfl rfl (by omega) (by rfl)) ?_; rintro _ _ _ ⟨b44, rfl, rfl, rfl⟩
  refine wAp (MLe.refl _) (by simp) ?_
  rw [wEs b40]
  refine wDg (i := 12) rfl (by kernel_rfl) (by kernel_rfl) rfl rfl (wAq (cs := [_, _]) rfl rfl rfl (by rfl)) ?_
  refine wBq (listed' := #[true, true, true, true, true, true, true, true, true, true, true, true, true, true, false]) (by kernel_rfl) (wBp (.cons (t := 1) rfl (.cons (t := 2) rfl (.cons (t := 8) rfl (.cons (t := 9) rfl (.cons (t := 53) rfl .nil))))) ?_)
  refine wEg (M2 := M) (L2 := [(b8, .cells [.slice (some ⟨b40, 0, none⟩) (128 * (bs.length + ws.length - (0))) (128 * (bs.length + ws.length - (0)))].toArray THp (0, 0)), (b40, .cells (wCi ((bs ++ ws.map (·.2)).take (0)).flatten (128 * (bs.length + ws.length - (0)))).toArray 5 (0, 0)), (b44, .cells (blC b40 bs.length (0)).toArray 26 (0, 0)), (b52, .cells (wrC b40 bs.length ws (0)).toArray WT (0, 0)), (b9, .cells [.slice none 0 0, .slice none 0 0].toArray 25 (0, 0)), (b2, .cells [.slice none 0 0, .slice none 0 0].toArray 25 (0, 0)), (b1, .cells [.slice a1 bs.length c1, .slice a2 ws.length c2].toArray 25 (0, 0))]) (fun w h => h.perm ((Rm.perm (g := b8)).trans (List.Perm.cons _ ((Rm.perm (g := b40)).trans (List.Perm.cons _ ((Rm.perm (g := b44)).trans (List.Perm.cons _ ((Rm.perm (g := b52)).trans (List.Perm.cons _ (Rm.perm (g := b9))))))))))) (MLe.refl _) (by simp) ?_
  exact rest (b44, b52, b9) trivial
 refine wCs rfl rfl rfl (wCx rfl rfl) ?_; rintro _ _ _ ⟨b9, rfl, rfl, rfl⟩
 refine wAp (MLe.refl _) (by simp) ?_
 refine wBa [3, 11] (by kernel_rfl) rfl ⟨?_, ?_, trivial⟩
 ·refine wCs rfl rfl rfl (wEa rfl rfl rfl rfl (by omega) (by rfl)) ?_; rintro _ _ _ ⟨b44, rfl, rfl, rfl⟩
  refine wAp (MLe.refl _) (by simp) ?_
  rw [wEs b40]
  refine wBa [11] (by kernel_rfl) rfl ⟨?_, trivial⟩
  refine wCs rfl rfl rfl (wEa rfl rfl rfl rfl (by omega) (by rfl)) ?_; rintro _ _ _ ⟨b52, rfl, rfl, rfl⟩
  refine wAp (MLe.refl _) (by simp) ?_
  rw [wEp b40 bs.length ws _ (by omega)]
  refine wDg (i := 12) rfl (by kernel_rfl) (by kernel_rfl) rfl rfl (wAq (cs := [_, _]) rfl rfl rfl (by rfl)) ?_
  refine wBq (listed' := #[true, true, true, true, true, true, true, true, true, true, true, true, true, true, false]) (by kernel_rfl) (wBp (.cons (t := 1) rfl (.cons (t := 2) rfl (.cons (t := 8) rfl (.cons (t := 9) rfl (.cons (t := 53) rfl .nil))))) ?_)
  refine wEg (M2 := M) (L2 := [(b8, .cells [.slice (some ⟨b40, 0, none⟩) (128 * (bs.length + ws.length - (0))) (128 * (bs.length + ws.length - (0)))].toArray THp (0, 0)), (b40, .cells (wCi ((bs ++ ws.map (·.2)).take (0)).flatten (128 * (bs.length + ws.length - (0)))).toArray 5 (0, 0)), (b44, .cells (blC b40 bs.length (0)).toArray 26 (0, 0)), (b52, .cells (wrC b40 bs.length ws (0)).toArray WT (0, 0)), (b9, .cells [.slice none 0 0, .slice none 0 0].toArray 25 (0, 0)), (b2, .cells [.slice none 0 0, .slice none 0 0].toArray 25 (0, 0)), (b1, .cells [.slice a1 bs.length c1, .slice a2 ws.length c2].toArray 25 (0, 0))]) (fun w h => h.perm ((Rm.perm (g := b8)).trans (List.Perm.cons _ ((Rm.perm (g := b40)).trans (List.Perm.cons _ ((Rm.perm (g := b44)).trans (List.Perm.cons _ ((Rm.perm (g := b52)).trans (List.Perm.cons _ (Rm.perm (g := b9))))))))))) (MLe.refl _) (by simp) ?_
  exact rest (b44, b52, b9) trivial
 refine wCs rfl rfl rfl (wEa rfl rfl rfl rfl (by omega) (by rfl)) ?_; rintro _ _ _ ⟨b52, rfl, rfl, rfl⟩
 refine wAp (MLe.refl _) (by simp) ?_
 rw [wEp b40 bs.length ws _ (by omega)]
 refine wBa [3] (by kernel_rfl) rfl ⟨?_, trivial⟩
 refine wCs rfl rfl rfl (wEa rfl rfl rfl rfl (by omega) (by rfl)) ?_; rintro _ _ _ ⟨b44, rfl, rfl, rfl⟩
 refine wAp (MLe.refl _) (by simp) ?_
 rw [wEs b40]
 refine wDg (i := 12) rfl (by kernel_rfl) (by kernel_rfl) rfl rfl (wAq (cs := [_, _]) rfl rfl rfl (by rfl)) ?_
 refine wBq (listed' := #[true, true, true, true, true, true, true, true, true, true, true, true, true, true, false]) (by kernel_rfl) (wBp (.cons (t := 1) rfl (.cons (t := 2) rfl (.cons (t := 8) rfl (.cons (t := 9) rfl (.cons (t := 53) rfl .nil))))) ?_)
 refine wEg (M2 := M) (L2 := [(b8, .cells [.slice (some ⟨b40, 0, none⟩) (128 * (bs.length + ws.length - (0))) (128 * (bs.length + ws.length - (0)))].toArray THp (0, 0)), (b40, .cells (wCi ((bs ++ ws.map (·.2)).take (0)).flatten (128 * (bs.length + ws.length - (0)))).toArray 5 (0, 0)), (b44, .cells (blC b40 bs.length (0)).toArray 26 (0, 0)), (b52, .cells (wrC b40 bs.length ws (0)).toArray WT (0, 0)), (b9, .cells [.slice none 0 0, .slice none 0 0].toArray 25 (0, 0)), (b2, .cells [.slice none 0 0, .slice none 0 0].toArray 25 (0, 0)), (b1, .cells [.slice a1 bs.length c1, .slice a2 ws.length c2].toArray 25 (0, 0))]) (fun w h => h.perm ((Rm.perm (g := b8)).trans (List.Perm.cons _ ((Rm.perm (g := b40)).trans (List.Perm.cons _ ((Rm.perm (g := b44)).trans (List.Perm.cons _ ((Rm.perm (g := b52)).trans (List.Perm.cons _ (Rm.perm (g := b9))))))))))) (MLe.refl _) (by simp) ?_
 exact rest (b44, b52, b9) trivial
theorem SpecL.own {P : Program} {f : FuncId} {args : Array Value} {M : Mem} {post post' : Value → Mem → Lc → Prop} (h : SpecL P f args M [] post)
  (hk : ∀ v M' L', post v M' L' → ∃ u e sz n xs, Own u L' e sz n xs ∧ ∀ M'' a c, MLe M' M'' → u = .slice a n c → n ≤ c → SM M'' a xs → post' v M'' []) : SpecL P f args M [] post' := fun w hw =>
 (h w hw).mono fun e w' ⟨v, M', L', h1, h2, h3⟩ => by
  obtain ⟨u, t, sz, n, xs, h4, h5⟩ := hk v M' L' h2
  obtain ⟨M'', a, c, k1, k2, k3, k4, k5⟩ := h4.freeze (X := []) (L := []) (fun _ _ h => by cases h) (by rw [List.append_nil]; exact h3)
  exact ⟨v, M'', [], h1, h5 M'' a c k1 k2 k3 k4, k5⟩
theorem dtwin_walk (bs : List (List By)) (ws : List Wt) (a1 : Option Addr) (c1 : Nat) (ps1 : List (List By × Value)) (a2 : Option Addr) (c2 : Nat) (ps2 : List (Wt × Value)) (M : Mem) (hc1 : bs.length ≤ c1) (hs1 : SM M a1 (ps1.map (·.2))) (hp1 : ps1.map (·.1) = bs) (hb1 : ∀ p ∈ ps1, BS M p.2 p.1) (hc2 : ws.length ≤ c2) (hs2 : SM M a2 (ps2.flatMap wBs)) (hp2 : ps2.map (·.1) = ws) (hb2 : ∀ p ∈ ps2, BS M p.2 p.1.2) (hdk : dkOk bs ws) :
  SpecL Tryz.prog 56 #[.agg #[.slice a1 bs.length c1, .slice a2 ws.length c2]] M [] fun u M' L' => (∃ bv' wv', u = .agg #[bv', wv'] ∧ LS M' bv' bs ∧ WS M' wv' ws) ∧ L' = [] :=
 (dtwin_own bs ws a1 c1 ps1 a2 c2 ps2 M hc1 hs1 hp1 hb1 hc2 hs2 hp2 hb2 hdk).own fun v M' L' ⟨bv', wv', h1, h2, ps, h3, h4, h5⟩ =>
  ⟨_, _, _, _, _, h5, fun M'' a c k1 k2 k3 k4 => ⟨⟨bv', wv', h1, h2.mono k1, a, c, ps, k2, k3, k4, h3, fun p hp => (h4 p hp).mono k1⟩, rfl⟩⟩
end Go.Proofs.YtbhkdjheooknfaaGreat
