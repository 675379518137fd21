/- Walks: bytes made of numbers, and sealed. -/
import Derived.Test.YtkcpllhggofloaaGreatZSp
import Derived.Test.YtkcpllhggofloaaGreatZHk
namespace Go.Proofs.YtkcpllhggofloaaGreat
set_option linter.unusedVariables false
set_option linter.unusedSectionVars false
set_option linter.unusedSimpArgs false
open Go.RowKit
def bU (x : Int) : By := UInt8.ofNat (x % 256).toNat
theorem wKb (x : Int) : IntKind.u8.wrap x = ((bU x).toNat : Int) := by
 rw [IntKind.wrap_u8]
 unfold bU
 have : (x % 256).toNat < 256 := by omega
 rw [UInt8.toNat_ofNat_of_lt' (by simpa using this)]
 omega
def wFe (n : Int) : List By := [bU n, bU (bShr .u32 n 8), bU (bShr .u32 n 16), bU (bShr .u32 n 24)]
def twoB (n : Int) : List By := [bU n, bU (bShr .i64 n 8)]
theorem wCt (n : Int) (M : Mem) :
  SpecL Tryz.prog 110 #[.int .u32 n] M [] fun u M' L' => BS M' u (wFe n) ∧ L' = [] := by
 refine wAf (vs := [_]) 15 _ Tryz.func110 rfl Tryz.ntmps110 rfl rfl ?_; intro W
 refine wAb (wAa (jp rfl (wAc (jT (wAb (wAa (jp rfl (wAi rfl rfl (qEq (wDw rfl rfl rfl) (by rw [wKb])) ?_))))))))
 refine jp rfl (wAi rfl rfl (wLf rfl rfl rfl rfl (by omega) rfl) ?_)
 refine wAi rfl rfl (qEq (wDw rfl rfl rfl) (by rw [wKb])) ?_
 refine jp rfl (wAi rfl rfl (wLf rfl rfl rfl rfl (by omega) rfl) ?_)
 refine wAi rfl rfl (qEq (wDw rfl rfl rfl) (by rw [wKb])) ?_
 refine jp rfl (wAi rfl rfl (wLf rfl rfl rfl rfl (by omega) rfl) ?_)
 refine wAi rfl rfl (qEq (wDw rfl rfl rfl) (by rw [wKb])) ?_
 refine wAy rfl rfl (wAn (cs := [_, _, _, _]) rfl rfl rfl (by rfl) (by rfl) (by rfl)) ?_; rintro _ _ _ ⟨b14, rfl, rfl, rfl⟩
 refine jp rfl (wAc (jT (wAe (wEe b14 (by simp) ?_))))
 intro M1 hM1 e1
 refine jr1 rfl rfl ?_
 exact ⟨⟨some ⟨b14, 0, none⟩, 4, rfl, Nat.le_refl _, SM.of_block (l := wAj (wFe n)) e1⟩, rfl⟩
theorem two_spec (n : Int) (M : Mem) (h : 0 ≤ n ∧ n < 65536) :
  SpecL Tryz.prog 108 #[.int .i64 n] M [] fun u M' L' => (∃ s, u = .tuple #[s, .int .i64 0] ∧ BS M' s (twoB n)) ∧ L' = [] := by
 have h16 : bShr .i64 n 16 = 0 := by unfold bShr; rw [show (2 : Int) ^ (min 16 IntKind.i64.bits) = 65536 by decide, Int.fdiv_eq_ediv_of_nonneg _ (by decide)]; omega
 refine wAf (vs := [_]) 13 _ Tryz.func108 rfl Tryz.ntmps108 rfl rfl ?_; intro W
 refine wAb (wAa (jp rfl (jp rfl (wAc (jT (wAb (wAb (wAa (jp rfl (wAi rfl rfl (wLf rfl rfl rfl rfl (by omega) rfl) ?_))))))))))
 refine jf rfl (decide_eq_false (by first | omega | exact fun e => e h16)) ?_
 refine wAc (jT (wAk rfl (wAd (jT (wAb (wAa (jp rfl (wAi rfl rfl (qEq (wDw rfl rfl rfl) (by rw [wKb])) ?_))))))))
 refine jp rfl (wAi rfl rfl (wLf rfl rfl rfl rfl (by omega) rfl) ?_)
 refine wAi rfl rfl (qEq (wDw rfl rfl rfl) (by rw [wKb])) ?_
 refine wAy rfl rfl (wAn (cs := [_, _]) rfl rfl rfl (by rfl) (by rfl) (by rfl)) ?_; rintro _ _ _ ⟨b12, rfl, rfl, rfl⟩
 refine jp rfl (jp rfl (wAc (jT (wAe (wEe b12 (by simp) ?_)))))
 intro M1 hM1 e1
 refine jr2 rfl rfl rfl ?_
 exact ⟨⟨_, rfl, some ⟨b12, 0, none⟩, 2, rfl, Nat.le_refl _, SM.of_block (l := wAj (twoB n)) e1⟩, rfl⟩
theorem grow_nil (M : Mem) :
  SpecL Tryz.prog 121 #[.slice none 0 0, .int .i64 0] M [] fun u M' L' => Own u L' 5 1 0 [] := by
 refine wAf (vs := [_, _]) 27 _ Tryz.func121 rfl Tryz.ntmps121 rfl rfl ?_; intro W
 refine wAb (wAa (jp rfl (wAc (jT (wAb (wAb (wAa (jp rfl (jf rfl (decide_eq_false (by omega)) ?_)))))))))
 refine wAc (jT (wAk rfl (wAd (jT (wAb (wAb (wAa (jp rfl (jp rfl (wAi rfl rfl (qCap rfl rfl rfl) ?_))))))))))
 refine jp rfl (wAi rfl rfl (wBj rfl rfl rfl) ?_)
 refine ja rfl (by omega) ?_
 refine ja rfl (by omega) ?_
 refine jp rfl (wAc (jT (wAb (wAa (jp rfl (jf rfl (decide_eq_false (by omega)) ?_))))))
 refine wAc (jT (wAk rfl (wAd (jT (wAb (wAa (jp rfl (jp rfl (wAc (jT (wAe (jr1 rfl rfl ?_))))))))))))
 exact Own.nil _ _
theorem grow_some (n : Nat) (M : Mem) (h0 : 0 < n) (hn : n ≤ 1000000000) :
  SpecL Tryz.prog 121 #[.slice none 0 0, .int .i64 n] M [] fun u M' L' => Own u L' 5 1 0 [] := by
 refine wAf (vs := [_, _]) 27 _ Tryz.func121 rfl Tryz.ntmps121 rfl rfl ?_; intro W
 refine wAb (wAa (jp rfl (wAc (jT (wAb (wAb (wAa (jp rfl (jf rfl (decide_eq_false (by omega)) ?_)))))))))
 refine wAc (jT (wAk rfl (wAd (jT (wAb (wAb (wAa (jp rfl (jp rfl (wAi rfl rfl (qCap rfl rfl rfl) ?_))))))))))
 refine jp rfl (wAi rfl rfl (wBj rfl rfl rfl) ?_)
 refine ja rfl (by omega) ?_
 refine ja rfl (by omega) ?_
 refine jp rfl (wAc (jT (wAb (wAa (jp rfl (jt rfl (decide_eq_true (by omega)) ?_))))))
 refine wAc (jT (wAg rfl (wAa (jp rfl (jp rfl (wAi rfl rfl (qCap rfl rfl rfl) ?_))))))
 refine wAi rfl rfl (qEq (qSl rfl rfl rfl (.no _) (.of (v := 0) rfl (by omega) rfl) (.no _) (by omega) (by simp)) (v' := .slice none 0 0) (by rw [wCx])) ?_
 refine jp rfl ?_
 refine wAy rfl rfl (hAppendZ (n := n) rfl rfl rfl (by simp [show (n : Int) - (0 - 0) = n by omega]; rfl) h0 hn (by omega)) ?_; rintro _ _ _ ⟨rfl, b22, cap, cur, rfl, rfl, hc1, hc2, hc3⟩
 refine jp rfl (wAi rfl rfl (wBj rfl rfl rfl) ?_)
 refine wAi rfl rfl (qEq (qSl rfl rfl rfl (.no _) (.of (v := 0) rfl (by omega) rfl) (.no _) (by omega) (by simp)) (v' := .slice (some ⟨b22, 0, none⟩) 0 cap) (by rw [wCx]; rfl)) ?_
 refine jp rfl (wAc (jT (wAb (wAa (jp rfl (jp rfl (wAc (jT (wAe (jr1 rfl rfl ?_))))))))))
 exact ⟨rfl, .inr ⟨b22, cap, cur, rfl, rfl, Nat.zero_le _, hc2, by rw [hc3, Nat.mul_one], by simp⟩⟩
theorem grow_spec (n : Nat) (M : Mem) (hn : n ≤ 1000000000) : SpecL Tryz.prog 121 #[.slice none 0 0, .int .i64 n] M [] fun u _ L' => Own u L' 5 1 0 [] := by
 rcases Nat.eq_zero_or_pos n with rfl | h
 ·exact grow_nil M
 exact grow_some n M h hn
theorem wJn {bs : List (List By)} {k : Nat} (h : k < bs.length) : (bs.take (k + 1)).flatten = (bs.take k).flatten ++ bs[k] := by
 rw [List.take_succ_eq_append_getElem h, List.flatten_append]; simp
theorem flat_le {bs : List (List By)} (k : Nat) : (bs.take k).flatten.length ≤ bs.flatten.length := by
 conv => rhs; rw [← List.take_append_drop k bs, List.flatten_append, List.length_append]
 omega
set_option maxHeartbeats 1000000 in
theorem concat_walk (bs : List (List By)) (a : Option Addr) (c : Nat) (ps : List (List By × Value)) (M : Mem) (hc : bs.length ≤ c) (hs : SM M a (ps.map (·.2))) (hp : ps.map (·.1) = bs) (hb : ∀ p ∈ ps, BS M p.2 p.1) (hn : bs.length ≤ 1000) (ht : bs.flatten.length ≤ 1000000) :
  SpecL Tryz.prog 109 #[.slice a bs.length c] M [] fun u M' L' => Own u L' 5 1 bs.flatten.length (wAj bs.flatten) := by
 refine wAf (vs := [_]) 36 _ Tryz.func109 rfl Tryz.ntmps109 rfl rfl ?_; intro W
 refine wAb (wAa (jp rfl (wAc (jT (wAb (wAa (jp rfl (wAc (jT (wAb (wAb (wAa (jp rfl (wAi rfl rfl (wBj rfl rfl rfl) ?_))))))))))))))
 refine jp rfl (wAc (jT (wAh ?_)))
 refine wAv (α := Nat) (fun k => [(0, .slice a bs.length c), (3, .int .i64 ((bs.take k).flatten.length : Int)), (9, .slice a bs.length c), (10, .int .i64 bs.length), (11, .int .i64 k)]) (fun _ => M) (fun _ => []) (fun k => k ≤ bs.length) (fun k => bs.length - k)
  0 (.cons (t := 0) rfl (.cons (t := 3) rfl (.cons (t := 9) rfl (.cons (t := 10) rfl (.cons (t := 11) rfl .nil))))) (Nat.zero_le _) (fun _ h => h) ?_
 rintro k hk
 try dsimp only at hk ⊢
 have hfk := flat_le (bs := bs) k
 refine wAb (wAa (js rfl (fun h12 => ?_) (fun h12 => ?_)))
 ·refine wAc (jT (wAb (wAg rfl (wAd (jT (wAb (wAh (wAb (wAa ?_)))))))))
  have hk1 : k < bs.length := by omega
  obtain ⟨sb, so, e0, hx⟩ := hs.open (by intro e; have := congrArg List.length e; rw [List.length_map, List.length_nil] at this; have h2 := congrArg List.length hp; rw [List.length_map] at h2; omega)
  subst e0
  obtain ⟨va, vc, hcl, hvc, hvs⟩ := wEy hx hp hb hk1
  have hft := congrArg List.length (wJn hk1)
  rw [List.length_append] at hft
  have hfl := flat_le (bs := bs) (k + 1)
  refine wAi rfl rfl (wBe rfl rfl rfl rfl (by omega)) ?_
  refine wAi rfl rfl (qLd rfl rfl rfl rfl (hcl.cj _)) ?_
  refine jp rfl (wAc (jT (wAb (wAa (jp rfl (jp rfl (wAi rfl rfl (wBj rfl rfl rfl) ?_)))))))
  refine ja rfl (by omega) ?_
  refine jp rfl (wAc (jT (wAb (wAa (jp rfl (jf rfl (decide_eq_false (by omega)) ?_))))))
  refine wAc (jT (wAk rfl (wAd (jB (jT (wAa (ja rfl (by omega) ?_)))))))
  refine jp rfl (wAc ?_)
  refine wAp (k + 1) (.cons (t := 0) rfl (Keep.ceq (t := 3) rfl (by rw [hft]; rfl) (.cons (t := 9) rfl (.cons (t := 10) rfl (.cons (t := 11) rfl .nil))))) (by show k + 1 ≤ bs.length; omega) (by show bs.length - (k + 1) < bs.length - k; omega) (fun _ h => h)
 refine wAc (jT (wAb (wAk rfl (wAw (jTx (jTx (jBx (jT (wAb (wAa (jp rfl ?_)))))))))))
 obtain rfl : k = bs.length := by omega
 rw [List.take_length]
 refine wAy rfl rfl (wAu rfl rfl rfl rfl rfl (by kernel_rfl) (grow_spec bs.flatten.length M (by omega))) ?_; rintro _ Mg _ ⟨hMg, R0, rfl, hown0⟩
 refine jp rfl (wAc (jT (wAb (wAb (wAa (jp rfl (wAi rfl rfl (wBj rfl rfl rfl) ?_)))))))
 refine jp rfl (wAc (jT (wAh ?_)))
 refine wAv (α := Nat × Lc × Value) (fun x => [(6, x.2.2), (25, .slice a bs.length c), (26, .int .i64 bs.length), (27, .int .i64 x.1)]) (fun _ => Mg) (fun x => x.2.1) (fun x => x.1 ≤ bs.length ∧ Own x.2.2 x.2.1 5 1 (bs.take x.1).flatten.length (wAj (bs.take x.1).flatten)) (fun x => bs.length - x.1)
  (0, R0, _) (.cons (t := 6) rfl (.cons (t := 25) rfl (.cons (t := 26) rfl (.cons (t := 27) rfl .nil)))) ⟨Nat.zero_le _, by simpa [wAj] using hown0⟩ (fun _ h => h.fewer (by simp)) ?_
 rintro ⟨k, R, s⟩ ⟨hk, hown⟩
 try dsimp only at hk hown ⊢
 have hfk := flat_le (bs := bs) k
 refine wAb (wAa (js rfl (fun h28 => ?_) (fun h28 => ?_)))
 ·refine wAc (jT (wAb (wAg rfl (wAd (jT (wAb (wAh (wAb (wAa ?_)))))))))
  have hk1 : k < bs.length := by omega
  obtain ⟨sb, so, e0, hx⟩ := hs.open (by intro e; have := congrArg List.length e; rw [List.length_map, List.length_nil] at this; have h2 := congrArg List.length hp; rw [List.length_map] at h2; omega)
  subst e0
  obtain ⟨va, vc, hcl, hvc, hvs⟩ := wEy hx hp hb hk1
  have hft := congrArg List.length (wJn hk1)
  rw [List.length_append] at hft
  have hfl := flat_le (bs := bs) (k + 1)
  refine wAi rfl rfl (wBe rfl rfl rfl rfl (by omega)) ?_
  refine wAi rfl rfl (qLd rfl rfl rfl rfl ((hcl.mono hMg).cj _)) ?_
  refine jp rfl (wAc (jT (wAa (jp rfl (jp rfl (wAy rfl rfl (wCg (R := R) (news := wAj bs[k]) rfl rfl rfl rfl hown (by rw [wAm, Nat.mul_one]) (hvs.mono hMg) (by rfl) (wBv _) (by omega) (by omega)) ?_)))))); rintro s' _ _ ⟨rfl, R', rfl, hown'⟩
  obtain ⟨a2, c2, rfl⟩ := hown'.form
  refine jp rfl (wAc (jB (jT (wAa (ja rfl (by omega) ?_)))))
  refine jp rfl (wAc ?_)
  refine wAp (k + 1, R', .slice a2 _ c2) (.cons (t := 6) rfl (.cons (t := 25) rfl (.cons (t := 26) rfl (.cons (t := 27) rfl .nil)))) ⟨by show k + 1 ≤ bs.length; omega, ?_⟩ (by show bs.length - (k + 1) < bs.length - k; omega) (fun _ h => h.fewer (by simp))
  show Own _ _ _ _ (bs.take (k + 1)).flatten.length (wAj (bs.take (k + 1)).flatten)
  rw [wJn hk1, List.length_append, show wAj ((bs.take k).flatten ++ bs[k]) = wAj (bs.take k).flatten ++ wAj bs[k] by simp [wAj]]; exact hown'
 refine wAc (jT (wAb (wAk rfl (wAw (jTx (jTx (jBx (jT (wAb (wAa (jp rfl (jp rfl (wAc (jT (wAe (jr1 rfl rfl ?_))))))))))))))))
 obtain rfl : k = bs.length := by omega
 rw [List.take_length] at hown; exact hown
theorem concat_spec (bs : List (List By)) (v : Value) (M : Mem) (h : LS M v bs) (hn : bs.length ≤ 1000) (ht : bs.flatten.length ≤ 1000000) : SpecL Tryz.prog 109 #[v] M [] fun u _ L' => Own u L' 5 1 bs.flatten.length (wAj bs.flatten) := by
 obtain ⟨a, c, ps, rfl, hc, hs, hp, hb⟩ := h
 exact concat_walk bs a c ps M hc hs hp hb hn ht
def padB (b : List By) : List By := b ++ List.replicate (124 - b.length) 0
def sealB (b : List By) : List By := wFe (wJv (padB b)) ++ padB b
theorem padB_len {b : List By} (h : b.length ≤ 124) : (padB b).length = 124 := by unfold padB; rw [List.length_append, List.length_replicate]; omega
theorem wLc {b : List By} (h : b.length ≤ 124) : (sealB b).length = 128 := by unfold sealB; rw [List.length_append, padB_len h]; rfl
theorem pad_cells {b : List By} (h : b.length ≤ 124) : ((List.replicate (124 : Int).toNat [Value.int .u8 0]).flatten).take 0 ++ wAj b ++ ((List.replicate (124 : Int).toNat [Value.int .u8 0]).flatten).drop (0 + (wAj b).length) = wAj (padB b) := by
 have e : (List.replicate (124 : Int).toNat [Value.int .u8 0]).flatten = List.replicate 124 (Value.int .u8 0) := by simp
 rw [e, wAm, List.take_zero, List.nil_append, Nat.zero_add, List.drop_replicate]
 unfold padB wAj
 rw [List.map_append, List.map_replicate]; rfl
theorem LS.two {M : Mem} {b : Nat} {u v : Value} {x y : List By} (h : M b = some (.cells [u, v].toArray 26 (0, 0))) (h1 : BS M u x) (h2 : BS M v y) : LS M (.slice (some ⟨b, 0, none⟩) 2 2) [x, y] :=
 ⟨_, 2, [(x, u), (y, v)], rfl, Nat.le_refl _, SM.of_block (l := [u, v]) h, rfl, fun p hp => by
  rcases List.mem_cons.1 hp with rfl | hp
  ·exact h1
  rw [List.mem_singleton.1 hp]; exact h2⟩
theorem seal_walk (b : List By) (a : Option Addr) (c : Nat) (M : Mem) (hc : b.length ≤ c) (hs : SM M a (wAj b)) (h : b.length ≤ 124) :
  SpecL Tryz.prog 89 #[.slice a b.length c] M [] fun u M' L' => (∃ s, u = .tuple #[s, .int .i64 0] ∧ BS M' s (sealB b)) ∧ L' = [] := by
 refine wAf (vs := [_]) 18 _ Tryz.func89 rfl Tryz.ntmps89 rfl rfl ?_; intro W
 refine wAb (wAa (jp rfl (jp rfl (wAc (jT (wAb (wAb (wAa (jp rfl (wAi rfl rfl (wBj rfl rfl rfl) ?_))))))))))
 refine jf rfl (decide_eq_false (by omega)) ?_
 refine wAc (jT (wAk rfl (wAd (jT (wAb (wAa (wAy rfl rfl (hMake rfl rfl rfl rfl (by omega) (by rfl)) ?_))))))); rintro _ _ _ ⟨b8, rfl, rfl, rfl⟩
 refine jp rfl (wAc (jT (wAb (wAa (jp rfl (jp rfl ?_))))))
 refine wAy rfl rfl (hCopy (cs := wAj b) rfl rfl rfl rfl (by rw [wAm]; show _ = min b.length 124; omega) (hs.sj _) (wBv _) (by rw [wAm]; show 0 + b.length ≤ 124; omega)) ?_; rintro _ _ _ ⟨rfl, rfl, rfl⟩
 rw [pad_cells h]
 refine wAc (jT (wAb (wAa (jp rfl (wJk b8 (by simp) ?_)))))
 intro M1 hM1 e1
 have hpl := padB_len h
 have hpb : BS M1 (.slice (some ⟨b8, 0, none⟩) (124 : Int).toNat (124 : Int).toNat) (padB b) := ⟨_, _, by rw [hpl]; rfl, by rw [hpl]; exact Nat.le_refl _, SM.of_block e1⟩
 have hps : SM M1 (some ⟨b8, 0, none⟩) (wAj (padB b)) := SM.of_block e1
 refine wAi rfl rfl (wBr rfl rfl rfl rfl rfl (by kernel_rfl) (by have := of_spec _ (124 : Int).toNat (padB b) M1 hps (by omega); rw [hpl] at this; exact this)) ?_
 refine wAy rfl rfl (wAu rfl rfl rfl rfl rfl (by kernel_rfl) (wCt _ M1)) ?_; rintro _ M2 _ ⟨hM2, _, rfl, ⟨hf, rfl⟩⟩
 obtain ⟨fa, fc, rfl, _, _⟩ := id hf
 simp only [nA]
 refine jp rfl (wAy rfl rfl (wAn (cs := [_, _]) rfl rfl rfl (by rfl) (by rfl) (by rfl)) ?_); rintro _ _ _ ⟨b16, rfl, rfl, rfl⟩
 refine wJk b16 (by simp) ?_
 intro M3 hM3 e3
 have hls := LS.two e3 (hf.mono hM3) (hpb.mono (hM2.trans hM3))
 refine wAy rfl rfl (wAu rfl rfl rfl rfl rfl (by kernel_rfl) (concat_spec _ _ M3 hls (by simp) (by simp [hpl, wFe]))) ?_; rintro _ M4 _ ⟨hM4, _, rfl, hown⟩
 refine jp rfl (jp rfl (wAc (jT (wAe (wGy hown (by simp) ?_)))))
 intro M5 a5 c5 hM5 e5 hc5 hs5; subst e5
 refine jr2 rfl rfl rfl ?_
 refine ⟨⟨_, rfl, a5, c5, ?_, ?_, ?_⟩, rfl⟩
 ·simp [sealB]
 ·simpa [sealB] using hc5
 simpa [sealB] using hs5
def itB (x : It) : List By := [bU x.key.kind] ++ wFe x.key.id ++ wFe x.key.off ++ twoB x.ref ++ [bU x.val.length] ++ x.val
theorem LS.six {M : Mem} {b : Nat} {u1 u2 u3 u4 u5 u6 : Value} {x1 x2 x3 x4 x5 x6 : List By} (h : M b = some (.cells [u1, u2, u3, u4, u5, u6].toArray 26 (0, 0))) (h1 : BS M u1 x1) (h2 : BS M u2 x2) (h3 : BS M u3 x3) (h4 : BS M u4 x4) (h5 : BS M u5 x5) (h6 : BS M u6 x6) : LS M (.slice (some ⟨b, 0, none⟩) 6 6) [x1, x2, x3, x4, x5, x6] :=
 ⟨_, 6, [(x1, u1), (x2, u2), (x3, u3), (x4, u4), (x5, u5), (x6, u6)], rfl, Nat.le_refl _, SM.of_block (l := [u1, u2, u3, u4, u5, u6]) h, rfl, fun p hp => by
  simp only [List.mem_cons, List.not_mem_nil, or_false] at hp
  rcases hp with rfl | rfl | rfl | rfl | rfl | rfl <;> assumption⟩
theorem wLj {M : Mem} {b : Nat} {n : Int} (h : 0 ≤ n ∧ n < 256) (e : M b = some (.cells [.int .u8 n].toArray 5 (0, 0))) : BS M (.slice (some ⟨b, 0, none⟩) 1 1) [bU n] :=
 ⟨_, 1, rfl, Nat.le_refl _, SM.of_block (l := wAj [bU n]) (by
  have : ((bU n).toNat : Int) = n := by rw [← wKb, IntKind.wrap_u8]; omega
  simp only [wAj, List.map, this]; exact e)⟩
set_option maxHeartbeats 2000000 in
theorem iwrite_walk (x : It) (sa : Option Addr) (sc : Nat) (M : Mem) (hsc : x.val.length ≤ sc) (hss : SM M sa (wAj x.val)) (hok : wDu x = false) (hk : 0 ≤ x.key.kind ∧ x.key.kind < 256) :
  SpecL Tryz.prog 88 #[.agg (itc x sa sc).toArray] M [] fun u M' L' => (∃ s, u = .tuple #[s, .int .i64 0] ∧ BS M' s (itB x)) ∧ L' = [] := by
 have hc0 : wGc x = 0 := by unfold wGc; rw [hok]; rfl
 have hbd : ¬ (x.ref ≠ 0 ∧ (x.ref < 8 ∨ 256 ≤ x.ref) ∨ 12 < x.val.length) := by unfold wDu at hok; exact of_decide_eq_false hok
 refine wAf (vs := [_]) 40 _ Tryz.func88 rfl Tryz.ntmps88 rfl rfl ?_; intro W
 refine wAb (wAa (wAy rfl rfl (wCm (cs := [_, _, _, _, _]) rfl rfl rfl rfl) ?_)); rintro _ _ _ ⟨b1, rfl, rfl, rfl⟩
 refine jp rfl (jp rfl (wAc (jT (wAb (wAb (wAa (sLL rfl ?_)))))))
 refine wAi rfl rfl (wBr rfl rfl rfl rfl rfl (by kernel_rfl) (wFw x _ M ⟨sa, sc, rfl, hsc, hss⟩)) ?_
 refine jp rfl (wAc (jT (wAb (wAa (jp rfl (jf rfl (decide_eq_false (by omega)) ?_))))))
 refine wAc (jT (wAk rfl (wAd (jT (wAb (wAa (sFL rfl rfl ?_)))))))
 refine wAy rfl rfl (wAu rfl rfl rfl rfl rfl (by kernel_rfl) (two_spec x.ref M (by omega))) ?_; rintro _ M1 _ ⟨hM1, _, rfl, ⟨⟨s2, rfl, hs2⟩, rfl⟩⟩
 simp only [nA]
 refine jp rfl (jp rfl (jp rfl (jp rfl (jp rfl (wAc (jT (wAb (wFr ([(b1, .cells (itc x sa sc).toArray IT (0, 0))]) (by kernel_rfl) (fun _ h => h) ?_))))))))
 refine wDx (i := 0) rfl (by kernel_rfl) (by kernel_rfl) rfl rfl (wBg rfl rfl rfl rfl rfl) ?_
 refine wDx (i := 1) rfl (by kernel_rfl) (by kernel_rfl) rfl rfl (wBg rfl rfl rfl rfl rfl) ?_
 refine wDx (i := 2) rfl (by kernel_rfl) (by kernel_rfl) rfl rfl (qLd rfl rfl rfl rfl (CJ.loc rfl)) ?_
 refine wDx (i := 4) rfl (by kernel_rfl) (by kernel_rfl) rfl rfl (wBg rfl rfl rfl rfl rfl) ?_
 refine wDx (i := 5) rfl (by kernel_rfl) (by kernel_rfl) rfl rfl (wBg rfl rfl rfl rfl rfl) ?_
 refine wDx (i := 6) rfl (by kernel_rfl) (by kernel_rfl) rfl rfl (qLd rfl rfl rfl rfl (CJ.loc rfl)) ?_
 refine wDx (i := 8) rfl (by kernel_rfl) (by kernel_rfl) rfl rfl (wBg rfl rfl rfl rfl rfl) ?_
 refine wDx (i := 9) rfl (by kernel_rfl) (by kernel_rfl) rfl rfl (wBg rfl rfl rfl rfl rfl) ?_
 refine wDx (i := 10) rfl (by kernel_rfl) (by kernel_rfl) rfl rfl (qLd rfl rfl rfl rfl (CJ.loc rfl)) ?_
 refine wEg (i := 12) rfl (by kernel_rfl) (by kernel_rfl) rfl ?_
 refine wDx (i := 13) rfl (by kernel_rfl) (by kernel_rfl) rfl rfl (wBg rfl rfl rfl rfl rfl) ?_
 refine wDx (i := 14) rfl (by kernel_rfl) (by kernel_rfl) rfl rfl (qLd rfl rfl rfl rfl (CJ.loc rfl)) ?_
 refine wDx (i := 15) rfl (by kernel_rfl) (by kernel_rfl) rfl rfl (wBj rfl rfl rfl) ?_
 refine wDx (i := 16) rfl (by kernel_rfl) (by kernel_rfl) rfl rfl (qEq (wDw rfl rfl rfl) (by rw [wKb])) ?_
 refine wDx (i := 18) rfl (by kernel_rfl) (by kernel_rfl) rfl rfl (wBg rfl rfl rfl rfl rfl) ?_
 refine wDx (i := 19) rfl (by kernel_rfl) (by kernel_rfl) rfl rfl (qLd rfl rfl rfl rfl (CJ.loc rfl)) ?_
 refine wFs (α := Mem × Value × Value × Value × Value) (fun y => MLe M1 y.1 ∧ BS y.1 y.2.1 [bU x.key.kind] ∧ BS y.1 y.2.2.1 (wFe x.key.id) ∧ BS y.1 y.2.2.2.1 (wFe x.key.off) ∧ BS y.1 y.2.2.2.2 [bU x.val.length]) (fun y => [(21, y.2.1), (25, y.2.2.1), (29, y.2.2.2.1), (30, s2), (35, y.2.2.2.2), (37, .slice sa x.val.length sc)]) (fun y => y.1) (fun _ => [(b1, .cells (itc x sa sc).toArray IT (0, 0))]) 4 #[true, true, true, true, true, true, true, true, true, true, true, true, true, true, true, true, true, true, true, true, false, false, false, false] ?_ (fun rest => ?_)
 ·rintro ⟨Mr, v3, v7, v11, v17⟩ ⟨hMr, hB3, hB7, hB11, hB17⟩
  try dsimp only at hMr hB3 hB7 hB11 hB17 ⊢
  obtain ⟨a3, k3, rfl, _, _⟩ := id hB3
  obtain ⟨a7, k7, rfl, _, _⟩ := id hB7
  obtain ⟨a11, k11, rfl, _, _⟩ := id hB11
  obtain ⟨a17, k17, rfl, _, _⟩ := id hB17
  obtain ⟨aa2, kk2, rfl, _, _⟩ := id hs2
  refine wHa (i := 20) (by kernel_rfl) ?_
  refine wDe rfl rfl rfl (wAn (cs := [_, _, _, _, _, _]) rfl rfl rfl (by rfl) (by rfl) (by rfl)) ?_; rintro _ _ _ ⟨b38, rfl, rfl, rfl⟩
  refine wAo (hMr) (by simp) ?_
  refine wCd b38 (by simp) (by simp) ?_
  intro M20 hM20 e20
  have hls := LS.six e20 (hB3.mono hM20) (hB7.mono hM20) (hB11.mono hM20) ((hs2.mono hMr).mono hM20) (hB17.mono hM20) ⟨sa, sc, rfl, hsc, hss.mono (hM1.trans (hMr.trans hM20))⟩
  refine wHa (i := 21) (by kernel_rfl) ?_
  refine wDe rfl rfl rfl (wAu rfl rfl rfl rfl rfl (by kernel_rfl) (concat_spec _ _ M20 hls (by simp) (by simp [wFe, twoB]; omega))) ?_; rintro _ M21 _ ⟨hM21, R21, rfl, hown⟩
  refine wAo ((hMr.trans hM20).trans hM21) (by simp) ?_
  refine wEg (i := 22) rfl (by kernel_rfl) (by kernel_rfl) rfl ?_
  refine wEg (i := 23) rfl (by kernel_rfl) (by kernel_rfl) rfl ?_
  refine wJy (by kernel_rfl) ?_
  refine jPn (jT (wAe (wGy hown (by simp) ?_)))
  intro M5 a5 c5 hM5 e5 hc5 hs5; subst e5
  refine wAr (L' := []) (by simp) ?_
  refine jr2 rfl rfl rfl ?_
  refine ⟨⟨_, rfl, a5, c5, ?_, ?_, ?_⟩, rfl⟩
  ·simp [itB]
  ·simpa [itB] using hc5
  simpa [itB] using hs5
 refine wBc [3, 7, 17] (by kernel_rfl) rfl ⟨?_, ?_, ?_, trivial⟩
 ·refine wDe rfl rfl rfl (wAn (cs := [_]) rfl rfl rfl (by rfl) (by rfl) (by rfl)) ?_; rintro _ _ _ ⟨b21, rfl, rfl, rfl⟩
  refine wAo (MLe.refl _) (by simp) ?_
  refine wCd b21 (by simp) (by simp) ?_
  intro M3 hM3 e3
  have hF3 := wLj hk e3
  refine wBc [7, 17] (by kernel_rfl) rfl ⟨?_, ?_, trivial⟩
  ·refine wDe rfl rfl rfl (wAu rfl rfl rfl rfl rfl (by kernel_rfl) (wCt x.key.id _)) ?_; rintro v7 M7 _ ⟨hM7, R7, rfl, hF7, rfl⟩
   refine wAo ((hM3).trans hM7) (by simp) ?_
   simp only [nA]
   refine wBc [11, 17] (by kernel_rfl) rfl ⟨?_, ?_, trivial⟩
   ·refine wDe rfl rfl rfl (wAu rfl rfl rfl rfl rfl (by kernel_rfl) (wCt x.key.off _)) ?_; rintro v11 M11 _ ⟨hM11, R11, rfl, hF11, rfl⟩
    refine wAo (((hM3.trans hM7)).trans hM11) (by simp) ?_
    simp only [nA]
    refine wBc [17] (by kernel_rfl) rfl ⟨?_, trivial⟩
    refine wDe rfl rfl rfl (wAn (cs := [_]) rfl rfl rfl (by rfl) (by rfl) (by rfl)) ?_; rintro _ _ _ ⟨b35, rfl, rfl, rfl⟩
    refine wAo ((hM3.trans (hM7.trans hM11))) (by simp) ?_
    refine wCd b35 (by simp) (by simp) ?_
    intro M17 hM17 e17
    have hF17 : BS M17 (.slice (some ⟨b35, 0, none⟩) 1 1) [bU x.val.length] := ⟨_, 1, rfl, Nat.le_refl _, SM.of_block (l := wAj [bU x.val.length]) e17⟩
    refine wCa (listed' := #[true, true, true, true, true, true, true, true, true, true, true, true, true, true, true, true, true, true, true, true, false, false, false, false]) (by kernel_rfl) (wBy (.cons (t := 21) rfl (.cons (t := 25) rfl (.cons (t := 29) rfl (.cons (t := 30) rfl (.cons (t := 35) rfl (.cons (t := 37) rfl .nil)))))) ?_)
    exact rest (_, _, _, _, _) ⟨(hM3.trans (hM7.trans (hM11.trans hM17))), hF3.mono ((hM7.trans (hM11.trans hM17))), hF7.mono ((hM11.trans hM17)), hF11.mono (hM17), hF17.mono (MLe.refl _)⟩
   refine wDe rfl rfl rfl (wAn (cs := [_]) rfl rfl rfl (by rfl) (by rfl) (by rfl)) ?_; rintro _ _ _ ⟨b35, rfl, rfl, rfl⟩
   refine wAo ((hM3.trans hM7)) (by simp) ?_
   refine wCd b35 (by simp) (by simp) ?_
   intro M17 hM17 e17
   have hF17 : BS M17 (.slice (some ⟨b35, 0, none⟩) 1 1) [bU x.val.length] := ⟨_, 1, rfl, Nat.le_refl _, SM.of_block (l := wAj [bU x.val.length]) e17⟩
   refine wBc [11] (by kernel_rfl) rfl ⟨?_, trivial⟩
   refine wDe rfl rfl rfl (wAu rfl rfl rfl rfl rfl (by kernel_rfl) (wCt x.key.off _)) ?_; rintro v11 M11 _ ⟨hM11, R11, rfl, hF11, rfl⟩
   refine wAo (((hM3.trans (hM7.trans hM17))).trans hM11) (by simp) ?_
   simp only [nA]
   refine wCa (listed' := #[true, true, true, true, true, true, true, true, true, true, true, true, true, true, true, true, true, true, true, true, false, false, false, false]) (by kernel_rfl) (wBy (.cons (t := 21) rfl (.cons (t := 25) rfl (.cons (t := 29) rfl (.cons (t := 30) rfl (.cons (t := 35) rfl (.cons (t := 37) rfl .nil)))))) ?_)
   exact rest (_, _, _, _, _) ⟨(hM3.trans (hM7.trans (hM17.trans hM11))), hF3.mono ((hM7.trans (hM17.trans hM11))), hF7.mono ((hM17.trans hM11)), hF11.mono (MLe.refl _), hF17.mono (hM11)⟩
  refine wDe rfl rfl rfl (wAn (cs := [_]) rfl rfl rfl (by rfl) (by rfl) (by rfl)) ?_; rintro _ _ _ ⟨b35, rfl, rfl, rfl⟩
  refine wAo (hM3) (by simp) ?_
  refine wCd b35 (by simp) (by simp) ?_
  intro M17 hM17 e17
  have hF17 : BS M17 (.slice (some ⟨b35, 0, none⟩) 1 1) [bU x.val.length] := ⟨_, 1, rfl, Nat.le_refl _, SM.of_block (l := wAj [bU x.val.length]) e17⟩
  refine wBc [7] (by kernel_rfl) rfl ⟨?_, trivial⟩
  refine wDe rfl rfl rfl (wAu rfl rfl rfl rfl rfl (by kernel_rfl) (wCt x.key.id _)) ?_; rintro v7 M7 _ ⟨hM7, R7, rfl, hF7, rfl⟩
  refine wAo (((hM3.trans hM17)).trans hM7) (by simp) ?_
  simp only [nA]
  refine wBc [11] (by kernel_rfl) rfl ⟨?_, trivial⟩
  refine wDe rfl rfl rfl (wAu rfl rfl rfl rfl rfl (by kernel_rfl) (wCt x.key.off _)) ?_; rintro v11 M11 _ ⟨hM11, R11, rfl, hF11, rfl⟩
  refine wAo (((hM3.trans (hM17.trans hM7))).trans hM11) (by simp) ?_
  simp only [nA]
  refine wCa (listed' := #[true, true, true, true, true, true, true, true, true, true, true, true, true, true, true, true, true, true, true, true, false, false, false, false]) (by kernel_rfl) (wBy (.cons (t := 21) rfl (.cons (t := 25) rfl (.cons (t := 29) rfl (.cons (t := 30) rfl (.cons (t := 35) rfl (.cons (t := 37) rfl .nil)))))) ?_)
  exact rest (_, _, _, _, _) ⟨(hM3.trans (hM17.trans (hM7.trans hM11))), hF3.mono ((hM17.trans (hM7.trans hM11))), hF7.mono (hM11), hF11.mono (MLe.refl _), hF17.mono ((hM7.trans hM11))⟩
 ·refine wDe rfl rfl rfl (wAu rfl rfl rfl rfl rfl (by kernel_rfl) (wCt x.key.id _)) ?_; rintro v7 M7 _ ⟨hM7, R7, rfl, hF7, rfl⟩
  refine wAo (hM7) (by simp) ?_
  simp only [nA]
  refine wBc [3, 11, 17] (by kernel_rfl) rfl ⟨?_, ?_, ?_, trivial⟩
  ·refine wDe rfl rfl rfl (wAn (cs := [_]) rfl rfl rfl (by rfl) (by rfl) (by rfl)) ?_; rintro _ _ _ ⟨b21, rfl, rfl, rfl⟩
   refine wAo (hM7) (by simp) ?_
   refine wCd b21 (by simp) (by simp) ?_
   intro M3 hM3 e3
   have hF3 := wLj hk e3
   refine wBc [11, 17] (by kernel_rfl) rfl ⟨?_, ?_, trivial⟩
   ·refine wDe rfl rfl rfl (wAu rfl rfl rfl rfl rfl (by kernel_rfl) (wCt x.key.off _)) ?_; rintro v11 M11 _ ⟨hM11, R11, rfl, hF11, rfl⟩
    refine wAo (((hM7.trans hM3)).trans hM11) (by simp) ?_
    simp only [nA]
    refine wBc [17] (by kernel_rfl) rfl ⟨?_, trivial⟩
    refine wDe rfl rfl rfl (wAn (cs := [_]) rfl rfl rfl (by rfl) (by rfl) (by rfl)) ?_; rintro _ _ _ ⟨b35, rfl, rfl, rfl⟩
    refine wAo ((hM7.trans (hM3.trans hM11))) (by simp) ?_
    refine wCd b35 (by simp) (by simp) ?_
    intro M17 hM17 e17
    have hF17 : BS M17 (.slice (some ⟨b35, 0, none⟩) 1 1) [bU x.val.length] := ⟨_, 1, rfl, Nat.le_refl _, SM.of_block (l := wAj [bU x.val.length]) e17⟩
    refine wCa (listed' := #[true, true, true, true, true, true, true, true, true, true, true, true, true, true, true, true, true, true, true, true, false, false, false, false]) (by kernel_rfl) (wBy (.cons (t := 21) rfl (.cons (t := 25) rfl (.cons (t := 29) rfl (.cons (t := 30) rfl (.cons (t := 35) rfl (.cons (t := 37) rfl .nil)))))) ?_)
    exact rest (_, _, _, _, _) ⟨(hM7.trans (hM3.trans (hM11.trans hM17))), hF3.mono ((hM11.trans hM17)), hF7.mono ((hM3.trans (hM11.trans hM17))), hF11.mono (hM17), hF17.mono (MLe.refl _)⟩
   refine wDe rfl rfl rfl (wAn (cs := [_]) rfl rfl rfl (by rfl) (by rfl) (by rfl)) ?_; rintro _ _ _ ⟨b35, rfl, rfl, rfl⟩
   refine wAo ((hM7.trans hM3)) (by simp) ?_
   refine wCd b35 (by simp) (by simp) ?_
   intro M17 hM17 e17
   have hF17 : BS M17 (.slice (some ⟨b35, 0, none⟩) 1 1) [bU x.val.length] := ⟨_, 1, rfl, Nat.le_refl _, SM.of_block (l := wAj [bU x.val.length]) e17⟩
   refine wBc [11] (by kernel_rfl) rfl ⟨?_, trivial⟩
   refine wDe rfl rfl rfl (wAu rfl rfl rfl rfl rfl (by kernel_rfl) (wCt x.key.off _)) ?_; rintro v11 M11 _ ⟨hM11, R11, rfl, hF11, rfl⟩
   refine wAo (((hM7.trans (hM3.trans hM17))).trans hM11) (by simp) ?_
   simp only [nA]
   refine wCa (listed' := #[true, true, true, true, true, true, true, true, true, true, true, true, true, true, true, true, true, true, true, true, false, false, false, false]) (by kernel_rfl) (wBy (.cons (t := 21) rfl (.cons (t := 25) rfl (.cons (t := 29) rfl (.cons (t := 30) rfl (.cons (t := 35) rfl (.cons (t := 37) rfl .nil)))))) ?_)
   exact rest (_, _, _, _, _) ⟨(hM7.trans (hM3.trans (hM17.trans hM11))), hF3.mono ((hM17.trans hM11)), hF7.mono ((hM3.trans (hM17.trans hM11))), hF11.mono (MLe.refl _), hF17.mono (hM11)⟩
  ·refine wDe rfl rfl rfl (wAu rfl rfl rfl rfl rfl (by kernel_rfl) (wCt x.key.off _)) ?_; rintro v11 M11 _ ⟨hM11, R11, rfl, hF11, rfl⟩
   refine wAo ((hM7).trans hM11) (by simp) ?_
   simp only [nA]
   refine wBc [3, 17] (by kernel_rfl) rfl ⟨?_, ?_, trivial⟩
   ·refine wDe rfl rfl rfl (wAn (cs := [_]) rfl rfl rfl (by rfl) (by rfl) (by rfl)) ?_; rintro _ _ _ ⟨b21, rfl, rfl, rfl⟩
    refine wAo ((hM7.trans hM11)) (by simp) ?_
    refine wCd b21 (by simp) (by simp) ?_
    intro M3 hM3 e3
    have hF3 := wLj hk e3
    refine wBc [17] (by kernel_rfl) rfl ⟨?_, trivial⟩
    refine wDe rfl rfl rfl (wAn (cs := [_]) rfl rfl rfl (by rfl) (by rfl) (by rfl)) ?_; rintro _ _ _ ⟨b35, rfl, rfl, rfl⟩
    refine wAo ((hM7.trans (hM11.trans hM3))) (by simp) ?_
    refine wCd b35 (by simp) (by simp) ?_
    intro M17 hM17 e17
    have hF17 : BS M17 (.slice (some ⟨b35, 0, none⟩) 1 1) [bU x.val.length] := ⟨_, 1, rfl, Nat.le_refl _, SM.of_block (l := wAj [bU x.val.length]) e17⟩
    refine wCa (listed' := #[true, true, true, true, true, true, true, true, true, true, true, true, true, true, true, true, true, true, true, true, false, false, false, false]) (by kernel_rfl) (wBy (.cons (t := 21) rfl (.cons (t := 25) rfl (.cons (t := 29) rfl (.cons (t := 30) rfl (.cons (t := 35) rfl (.cons (t := 37) rfl .nil)))))) ?_)
    exact rest (_, _, _, _, _) ⟨(hM7.trans (hM11.trans (hM3.trans hM17))), hF3.mono (hM17), hF7.mono ((hM11.trans (hM3.trans hM17))), hF11.mono ((hM3.trans hM17)), hF17.mono (MLe.refl _)⟩
   refine wDe rfl rfl rfl (wAn (cs := [_]) rfl rfl rfl (by rfl) (by rfl) (by rfl)) ?_; rintro _ _ _ ⟨b35, rfl, rfl, rfl⟩
   refine wAo ((hM7.trans hM11)) (by simp) ?_
   refine wCd b35 (by simp) (by simp) ?_
   intro M17 hM17 e17
   have hF17 : BS M17 (.slice (some ⟨b35, 0, none⟩) 1 1) [bU x.val.length] := ⟨_, 1, rfl, Nat.le_refl _, SM.of_block (l := wAj [bU x.val.length]) e17⟩
   refine wBc [3] (by kernel_rfl) rfl ⟨?_, trivial⟩
   refine wDe rfl rfl rfl (wAn (cs := [_]) rfl rfl rfl (by rfl) (by rfl) (by rfl)) ?_; rintro _ _ _ ⟨b21, rfl, rfl, rfl⟩
   refine wAo ((hM7.trans (hM11.trans hM17))) (by simp) ?_
   refine wCd b21 (by simp) (by simp) ?_
   intro M3 hM3 e3
   have hF3 := wLj hk e3
   refine wCa (listed' := #[true, true, true, true, true, true, true, true, true, true, true, true, true, true, true, true, true, true, true, true, false, false, false, false]) (by kernel_rfl) (wBy (.cons (t := 21) rfl (.cons (t := 25) rfl (.cons (t := 29) rfl (.cons (t := 30) rfl (.cons (t := 35) rfl (.cons (t := 37) rfl .nil)))))) ?_)
   exact rest (_, _, _, _, _) ⟨(hM7.trans (hM11.trans (hM17.trans hM3))), hF3.mono (MLe.refl _), hF7.mono ((hM11.trans (hM17.trans hM3))), hF11.mono ((hM17.trans hM3)), hF17.mono (hM3)⟩
  refine wDe rfl rfl rfl (wAn (cs := [_]) rfl rfl rfl (by rfl) (by rfl) (by rfl)) ?_; rintro _ _ _ ⟨b35, rfl, rfl, rfl⟩
  refine wAo (hM7) (by simp) ?_
  refine wCd b35 (by simp) (by simp) ?_
  intro M17 hM17 e17
  have hF17 : BS M17 (.slice (some ⟨b35, 0, none⟩) 1 1) [bU x.val.length] := ⟨_, 1, rfl, Nat.le_refl _, SM.of_block (l := wAj [bU x.val.length]) e17⟩
  refine wBc [3, 11] (by kernel_rfl) rfl ⟨?_, ?_, trivial⟩
  ·refine wDe rfl rfl rfl (wAn (cs := [_]) rfl rfl rfl (by rfl) (by rfl) (by rfl)) ?_; rintro _ _ _ ⟨b21, rfl, rfl, rfl⟩
   refine wAo ((hM7.trans hM17)) (by simp) ?_
   refine wCd b21 (by simp) (by simp) ?_
   intro M3 hM3 e3
   have hF3 := wLj hk e3
   refine wBc [11] (by kernel_rfl) rfl ⟨?_, trivial⟩
   refine wDe rfl rfl rfl (wAu rfl rfl rfl rfl rfl (by kernel_rfl) (wCt x.key.off _)) ?_; rintro v11 M11 _ ⟨hM11, R11, rfl, hF11, rfl⟩
   refine wAo (((hM7.trans (hM17.trans hM3))).trans hM11) (by simp) ?_
   simp only [nA]
   refine wCa (listed' := #[true, true, true, true, true, true, true, true, true, true, true, true, true, true, true, true, true, true, true, true, false, false, false, false]) (by kernel_rfl) (wBy (.cons (t := 21) rfl (.cons (t := 25) rfl (.cons (t := 29) rfl (.cons (t := 30) rfl (.cons (t := 35) rfl (.cons (t := 37) rfl .nil)))))) ?_)
   exact rest (_, _, _, _, _) ⟨(hM7.trans (hM17.trans (hM3.trans hM11))), hF3.mono (hM11), hF7.mono ((hM17.trans (hM3.trans hM11))), hF11.mono (MLe.refl _), hF17.mono ((hM3.trans hM11))⟩
  refine wDe rfl rfl rfl (wAu rfl rfl rfl rfl rfl (by kernel_rfl) (wCt x.key.off _)) ?_; rintro v11 M11 _ ⟨hM11, R11, rfl, hF11, rfl⟩
  refine wAo (((hM7.trans hM17)).trans hM11) (by simp) ?_
  simp only [nA]
  refine wBc [3] (by kernel_rfl) rfl ⟨?_, trivial⟩
  refine wDe rfl rfl rfl (wAn (cs := [_]) rfl rfl rfl (by rfl) (by rfl) (by rfl)) ?_; rintro _ _ _ ⟨b21, rfl, rfl, rfl⟩
  refine wAo ((hM7.trans (hM17.trans hM11))) (by simp) ?_
  refine wCd b21 (by simp) (by simp) ?_
  intro M3 hM3 e3
  have hF3 := wLj hk e3
  refine wCa (listed' := #[true, true, true, true, true, true, true, true, true, true, true, true, true, true, true, true, true, true, true, true, false, false, false, false]) (by kernel_rfl) (wBy (.cons (t := 21) rfl (.cons (t := 25) rfl (.cons (t := 29) rfl (.cons (t := 30) rfl (.cons (t := 35) rfl (.cons (t := 37) rfl .nil)))))) ?_)
  exact rest (_, _, _, _, _) ⟨(hM7.trans (hM17.trans (hM11.trans hM3))), hF3.mono (MLe.refl _), hF7.mono ((hM17.trans (hM11.trans hM3))), hF11.mono (hM3), hF17.mono ((hM11.trans hM3))⟩
 refine wDe rfl rfl rfl (wAn (cs := [_]) rfl rfl rfl (by rfl) (by rfl) (by rfl)) ?_; rintro _ _ _ ⟨b35, rfl, rfl, rfl⟩
 refine wAo (MLe.refl _) (by simp) ?_
 refine wCd b35 (by simp) (by simp) ?_
 intro M17 hM17 e17
 have hF17 : BS M17 (.slice (some ⟨b35, 0, none⟩) 1 1) [bU x.val.length] := ⟨_, 1, rfl, Nat.le_refl _, SM.of_block (l := wAj [bU x.val.length]) e17⟩
 refine wBc [3, 7] (by kernel_rfl) rfl ⟨?_, ?_, trivial⟩
 ·refine wDe rfl rfl rfl (wAn (cs := [_]) rfl rfl rfl (by rfl) (by rfl) (by rfl)) ?_; rintro _ _ _ ⟨b21, rfl, rfl, rfl⟩
  refine wAo (hM17) (by simp) ?_
  refine wCd b21 (by simp) (by simp) ?_
  intro M3 hM3 e3
  have hF3 := wLj hk e3
  refine wBc [7] (by kernel_rfl) rfl ⟨?_, trivial⟩
  refine wDe rfl rfl rfl (wAu rfl rfl rfl rfl rfl (by kernel_rfl) (wCt x.key.id _)) ?_; rintro v7 M7 _ ⟨hM7, R7, rfl, hF7, rfl⟩
  refine wAo (((hM17.trans hM3)).trans hM7) (by simp) ?_
  simp only [nA]
  refine wBc [11] (by kernel_rfl) rfl ⟨?_, trivial⟩
  refine wDe rfl rfl rfl (wAu rfl rfl rfl rfl rfl (by kernel_rfl) (wCt x.key.off _)) ?_; rintro v11 M11 _ ⟨hM11, R11, rfl, hF11, rfl⟩
  refine wAo (((hM17.trans (hM3.trans hM7))).trans hM11) (by simp) ?_
  simp only [nA]
  refine wCa (listed' := #[true, true, true, true, true, true, true, true, true, true, true, true, true, true, true, true, true, true, true, true, false, false, false, false]) (by kernel_rfl) (wBy (.cons (t := 21) rfl (.cons (t := 25) rfl (.cons (t := 29) rfl (.cons (t := 30) rfl (.cons (t := 35) rfl (.cons (t := 37) rfl .nil)))))) ?_)
  exact rest (_, _, _, _, _) ⟨(hM17.trans (hM3.trans (hM7.trans hM11))), hF3.mono ((hM7.trans hM11)), hF7.mono (hM11), hF11.mono (MLe.refl _), hF17.mono ((hM3.trans (hM7.trans hM11)))⟩
 refine wDe rfl rfl rfl (wAu rfl rfl rfl rfl rfl (by kernel_rfl) (wCt x.key.id _)) ?_; rintro v7 M7 _ ⟨hM7, R7, rfl, hF7, rfl⟩
 refine wAo ((hM17).trans hM7) (by simp) ?_
 simp only [nA]
 refine wBc [3, 11] (by kernel_rfl) rfl ⟨?_, ?_, trivial⟩
 ·refine wDe rfl rfl rfl (wAn (cs := [_]) rfl rfl rfl (by rfl) (by rfl) (by rfl)) ?_; rintro _ _ _ ⟨b21, rfl, rfl, rfl⟩
  refine wAo ((hM17.trans hM7)) (by simp) ?_
  refine wCd b21 (by simp) (by simp) ?_
  intro M3 hM3 e3
  have hF3 := wLj hk e3
  refine wBc [11] (by kernel_rfl) rfl ⟨?_, trivial⟩
  refine wDe rfl rfl rfl (wAu rfl rfl rfl rfl rfl (by kernel_rfl) (wCt x.key.off _)) ?_; rintro v11 M11 _ ⟨hM11, R11, rfl, hF11, rfl⟩
  refine wAo (((hM17.trans (hM7.trans hM3))).trans hM11) (by simp) ?_
  simp only [nA]
  refine wCa (listed' := #[true, true, true, true, true, true, true, true, true, true, true, true, true, true, true, true, true, true, true, true, false, false, false, false]) (by kernel_rfl) (wBy (.cons (t := 21) rfl (.cons (t := 25) rfl (.cons (t := 29) rfl (.cons (t := 30) rfl (.cons (t := 35) rfl (.cons (t := 37) rfl .nil)))))) ?_)
  exact rest (_, _, _, _, _) ⟨(hM17.trans (hM7.trans (hM3.trans hM11))), hF3.mono (hM11), hF7.mono ((hM3.trans hM11)), hF11.mono (MLe.refl _), hF17.mono ((hM7.trans (hM3.trans hM11)))⟩
 refine wDe rfl rfl rfl (wAu rfl rfl rfl rfl rfl (by kernel_rfl) (wCt x.key.off _)) ?_; rintro v11 M11 _ ⟨hM11, R11, rfl, hF11, rfl⟩
 refine wAo (((hM17.trans hM7)).trans hM11) (by simp) ?_
 simp only [nA]
 refine wBc [3] (by kernel_rfl) rfl ⟨?_, trivial⟩
 refine wDe rfl rfl rfl (wAn (cs := [_]) rfl rfl rfl (by rfl) (by rfl) (by rfl)) ?_; rintro _ _ _ ⟨b21, rfl, rfl, rfl⟩
 refine wAo ((hM17.trans (hM7.trans hM11))) (by simp) ?_
 refine wCd b21 (by simp) (by simp) ?_
 intro M3 hM3 e3
 have hF3 := wLj hk e3
 refine wCa (listed' := #[true, true, true, true, true, true, true, true, true, true, true, true, true, true, true, true, true, true, true, true, false, false, false, false]) (by kernel_rfl) (wBy (.cons (t := 21) rfl (.cons (t := 25) rfl (.cons (t := 29) rfl (.cons (t := 30) rfl (.cons (t := 35) rfl (.cons (t := 37) rfl .nil)))))) ?_)
 exact rest (_, _, _, _, _) ⟨(hM17.trans (hM7.trans (hM11.trans hM3))), hF3.mono (MLe.refl _), hF7.mono ((hM11.trans hM3)), hF11.mono (hM3), hF17.mono ((hM7.trans (hM11.trans hM3)))⟩
def wDr (lv : Int) (xs : List It) : List By := [78, bU lv, bU xs.length] ++ xs.flatMap itB
def ndB (lv : Int) (xs : List It) : List By := sealB (wDr lv xs)
theorem itB_len {x : It} (h : wDu x = false) : (itB x).length ≤ 24 := by
 unfold wDu at h
 have := of_decide_eq_false h
 simp [itB, wFe, twoB]; omega
theorem wHu : ∀ {xs : List It}, (∀ x ∈ xs, wDu x = false) → (xs.flatMap itB).length ≤ 24 * xs.length
 | [], _ => by simp
 | x :: xs, h => by
  have h1 := itB_len (h x (by simp))
  have h2 := wHu (fun y hy => h y (List.mem_cons_of_mem _ hy))
  rw [List.flatMap_cons, List.length_append, List.length_cons]; omega
theorem ndChk_ok {lv : Int} {xs : List It} (h : ¬ wEp lv xs ≠ 0) : wEv lv xs = true := by
 cases hn : wEv lv xs
 ·exact absurd (by unfold wEp; rw [hn]; decide) h
 rfl
theorem flat_step {xs : List It} {k : Nat} (h : k < xs.length) : (xs.take (k + 1)).flatMap itB = (xs.take k).flatMap itB ++ itB xs[k] := by
 rw [List.take_succ_eq_append_getElem h, List.flatMap_append]; simp
set_option maxHeartbeats 1000000 in
theorem nwrite_walk (lv : Int) (xs : List It) (a : Option Addr) (c : Nat) (ps : List (It × Value)) (M : Mem) (hc : xs.length ≤ c) (hs : SM M a (ps.flatMap wAs)) (hp : ps.map (·.1) = xs) (hb : ∀ p ∈ ps, BS M p.2 p.1.val) (hkd : ∀ x ∈ xs, 0 ≤ x.key.kind ∧ x.key.kind < 256) :
  SpecL Tryz.prog 62 #[.agg #[.int .i64 lv, .slice a xs.length c]] M [] fun u M' L' => (if wEv lv xs then ∃ s, u = .tuple #[s, .int .i64 0] ∧ BS M' s (ndB lv xs) else u = .tuple #[.slice none 0 0, .int .i64 8]) ∧ L' = [] := by
 have hns : NS M (.slice a xs.length c) xs := ⟨a, c, ps, rfl, hc, hs, hp, hb⟩
 refine wAf (vs := [_]) 43 _ Tryz.func62 rfl Tryz.ntmps62 rfl rfl ?_; intro W
 refine wAb (wAa (wAy rfl rfl (wCm (cs := [_, _]) rfl rfl rfl rfl) ?_)); rintro _ _ _ ⟨b1, rfl, rfl, rfl⟩
 refine jp rfl (jp rfl (wAc (jT (wAb (wAb (wAa (sLL rfl ?_)))))))
 refine wAi rfl rfl (wBr rfl rfl rfl rfl rfl (by kernel_rfl) (ncheck_spec lv xs _ M hns)) ?_
 refine jp rfl (wAc (jT (wAb (wAa (jp rfl (js rfl (fun h13 => ?_) (fun h13 => ?_)))))))
 ·refine wAc (jT (wAg rfl (wAb (wAa (jp rfl (jp rfl (jp rfl (wAc (jT (wAe (jTr (wAr (L' := []) (by simp) ?_))))))))))))
  refine jr2 rfl rfl rfl ?_
  have hno : wEv lv xs = false := by cases hn : wEv lv xs <;> simp_all [wEp]
  refine ⟨?_, rfl⟩
  rw [if_neg (by rw [hno]; decide)]
  unfold wEp; rw [hno]; rfl
 refine wAc (jT (wAk rfl (wAd (jT (wAb (wAa (sFL rfl rfl ?_)))))))
 have hok := ndChk_ok h13
 have hno := NdOk.of hok
 have hlv := hno.lev
 have hlen := hno.len
 have hbad := fun x hx => (wDh hno.ok x hx).1
 have hfl := wHu hbad
 refine wAi rfl rfl (qEq (wDw rfl rfl rfl) (by rw [wKb])) ?_
 refine sFL rfl rfl ?_
 refine wAi rfl rfl (wBj rfl rfl rfl) ?_
 refine wAi rfl rfl (qEq (wDw rfl rfl rfl) (by rw [wKb])) ?_
 refine wAy rfl rfl (wAn (cs := [_, _, _]) rfl rfl rfl (by rfl) (by rfl) (by rfl)) ?_; rintro _ _ _ ⟨b22, rfl, rfl, rfl⟩
 refine jp rfl (wAc (jT (wAb (wAb (wAa (sFL rfl rfl ?_))))))
 refine wAi rfl rfl (wBj rfl rfl rfl) ?_
 refine jp rfl (wAc (jT (wAh ?_)))
 refine wAv (α := Nat × Mem × Lc × Value) (fun x => [(1, .pointer (some ⟨b1, 0, none⟩)), (5, x.2.2.2), (24, .slice a xs.length c), (25, .int .i64 xs.length), (26, .int .i64 x.1)]) (fun x => x.2.1) (fun x => x.2.2.1 ++ [(b1, .cells [.int .i64 lv, .slice a xs.length c].toArray 53 (0, 0))]) (fun x => x.1 ≤ xs.length ∧ MLe M x.2.1 ∧ Own x.2.2.2 x.2.2.1 5 1 (3 + ((xs.take x.1).flatMap itB).length) (wAj ([78, bU lv, bU xs.length] : List By) ++ wAj ((xs.take x.1).flatMap itB)) ∧ ((xs.take x.1).flatMap itB).length ≤ 24 * x.1) (fun x => xs.length - x.1)
  (0, M, _, .slice (some ⟨b22, 0, none⟩) 3 3) (.cons (t := 1) rfl (.cons (t := 5) rfl (.cons (t := 24) rfl (.cons (t := 25) rfl (.cons (t := 26) rfl .nil))))) ⟨Nat.zero_le _, MLe.refl _, ⟨rfl, .inr ⟨b22, 3, _, rfl, rfl, Nat.le_refl _, by decide, rfl, rfl⟩⟩, Nat.zero_le _⟩ (fun _ h => h) ?_
 rintro ⟨k, Mk, R, s⟩ ⟨hk, hMk, hown, hfk⟩
 try dsimp only at hk hMk hown hfk ⊢
 refine wAb (wAa (js rfl (fun h27 => ?_) (fun h27 => ?_)))
 ·refine wAc (jT (wAb (wAg rfl (wAd (jT (wAb (wAh (wAb (wAa ?_)))))))))
  have hk1 : k < xs.length := by omega
  have hsk := hs.mono hMk
  have hbk := fun p hp => (hb p hp).mono hMk
  obtain ⟨sb, so, e0, hx⟩ := hsk.open (by intro e; have := congrArg List.length e; rw [wBi wAs 5 wAq, List.length_nil] at this; have h2 := congrArg List.length hp; rw [List.length_map] at h2; omega)
  subst e0
  obtain ⟨va, vc, hcl, hvc, hvs⟩ := wBt hx hp hbk hk1
  have hxb := hbad xs[k] (List.getElem_mem hk1)
  have hxl := itB_len hxb
  have hxk := hkd xs[k] (List.getElem_mem hk1)
  refine wAi rfl rfl (wBe rfl rfl rfl rfl (by omega)) ?_
  refine wAi rfl rfl (wGx (cs := itc xs[k] va vc) rfl rfl rfl rfl rfl (fun i v hv => (hcl i v hv).cj _)) ?_
  refine sAl rfl fun b7 => ?_
  refine sSt rfl ?_
  refine wAc (jT (wAb (wAa (sLL rfl ?_))))
  refine wAy rfl rfl (wAu rfl rfl rfl rfl rfl (by kernel_rfl) (iwrite_walk xs[k] va vc Mk hvc hvs hxb hxk)) ?_; rintro _ Mw _ ⟨hMw, _, rfl, ⟨⟨sw, rfl, wa, wc, rfl, hwc, hsw⟩, rfl⟩⟩
  simp only [nA]
  refine jp rfl (jp rfl (jp rfl (jp rfl (jp rfl (wAc (jT (wAa (jp rfl (jp rfl (wAy rfl rfl (wCg (R := R) (news := wAj (itB xs[k])) rfl rfl rfl rfl hown (by rw [wAm, Nat.mul_one]) hsw (by rfl) (wBv _) (by omega) (by omega)) ?_)))))))))); rintro s' _ _ ⟨rfl, R', rfl, hown'⟩
  obtain ⟨a2, c2, rfl⟩ := hown'.form
  refine jp rfl (wAc (jB (jT (wAa (ja rfl (by omega) ?_)))))
  refine jp rfl (wAc ?_)
  refine wAp (k + 1, Mw, R', .slice a2 _ c2) (.cons (t := 1) rfl (.cons (t := 5) rfl (.cons (t := 24) rfl (.cons (t := 25) rfl (.cons (t := 26) rfl .nil))))) ⟨by show k + 1 ≤ xs.length; omega, hMk.trans hMw, ?_, ?_⟩ (by show xs.length - (k + 1) < xs.length - k; omega) (fun _ h => h.fewer (by simp))
  ·show Own _ _ _ _ (3 + ((xs.take (k + 1)).flatMap itB).length) (_ ++ wAj ((xs.take (k + 1)).flatMap itB))
   rw [flat_step hk1, List.length_append, show wAj ((xs.take k).flatMap itB ++ itB xs[k]) = wAj ((xs.take k).flatMap itB) ++ wAj (itB xs[k]) by simp [wAj], ← List.append_assoc, ← Nat.add_assoc]; exact hown'
  show ((xs.take (k + 1)).flatMap itB).length ≤ 24 * (k + 1)
  rw [flat_step hk1, List.length_append]; omega
 refine wAc (jT (wAb (wAk rfl (wAw (jTx (jTx (jBx (jT (wAb (wAa (jp rfl ?_)))))))))))
 obtain rfl : k = xs.length := by omega
 rw [List.take_length] at hown hfk
 have hrlen : (wDr lv xs).length = 3 + (xs.flatMap itB).length := by unfold wDr; rw [List.length_append]; rfl
 have hrcells : wAj (wDr lv xs) = wAj ([78, bU lv, bU xs.length] : List By) ++ wAj (xs.flatMap itB) := by unfold wDr wAj; rw [List.map_append]
 have hrl : (wDr lv xs).length ≤ 124 := by omega
 refine wLp hown (by simp) ?_
 intro M8 a8 c8 hM8 e8 hc8 hs8; cases e8
 refine wAy rfl rfl (wAu rfl rfl rfl rfl rfl (by kernel_rfl) (by have h1 := seal_walk (wDr lv xs) a8 c8 M8 (by rw [hrlen]; exact hc8) (by rw [hrcells]; exact hs8) hrl; rw [hrlen] at h1; exact h1)) ?_; rintro _ M9 _ ⟨hM9, _, rfl, ⟨⟨s9, rfl, hs9⟩, rfl⟩⟩
 refine jp rfl (jp rfl (jp rfl (jp rfl (wAc (jT (wAe (wAr (L' := []) (by simp) ?_)))))))
 refine jr2 rfl rfl rfl ?_
 refine ⟨?_, rfl⟩
 rw [if_pos hok]
 exact ⟨_, rfl, hs9⟩
end Go.Proofs.YtkcpllhggofloaaGreat
