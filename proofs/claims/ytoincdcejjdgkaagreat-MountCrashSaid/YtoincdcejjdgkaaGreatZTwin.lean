/- Walks: a store in new memory. -/
import Derived.Test.YtoincdcejjdgkaaGreatZSp
import Derived.Test.YtoincdcejjdgkaaGreatZHk
namespace Go.Proofs.YtoincdcejjdgkaaGreat
set_option linter.unusedSimpArgs false
set_option linter.unusedVariables false
open Go.RowKit
def bU (x : Int) : By := UInt8.ofNat (x % 256).toNat
theorem u8_bU (x : Int) : IntKind.u8.wrap x = ((bU x).toNat : Int) := by
 rw [IntKind.wrap_u8]
 unfold bU
 have : (x % 256).toNat < 256 := by omega
 rw [UInt8.toNat_ofNat_of_lt' (by simpa using this)]
 omega
def wCr (n : Int) : List By := [bU n, bU (bShr .u32 n 8), bU (bShr .u32 n 16), bU (bShr .u32 n 24)]
def wGu (n : Int) : List By := [bU n, bU (bShr .i64 n 8)]
theorem wBp (n : Int) (M : Mem) :
  SpecL Tryz.prog 116 #[.int .u32 n] M [] fun u M' L' => BS M' u (wCr n) ∧ L' = [] := by
 refine wAf (vs := [_]) 15 _ Tryz.func116 rfl Tryz.ntmps116 rfl rfl ?_; intro W
 refine wAb (wAa (jp rfl (wAc (jT (wAb (wAa (jp rfl (wAi rfl rfl (qEq (wEf rfl rfl rfl) (by rw [u8_bU])) ?_))))))))
 refine jp rfl (wAi rfl rfl (wLk rfl rfl rfl rfl (by omega) rfl) ?_)
 refine wAi rfl rfl (qEq (wEf rfl rfl rfl) (by rw [u8_bU])) ?_
 refine jp rfl (wAi rfl rfl (wLk rfl rfl rfl rfl (by omega) rfl) ?_)
 refine wAi rfl rfl (qEq (wEf rfl rfl rfl) (by rw [u8_bU])) ?_
 refine jp rfl (wAi rfl rfl (wLk rfl rfl rfl rfl (by omega) rfl) ?_)
 refine wAi rfl rfl (qEq (wEf rfl rfl rfl) (by rw [u8_bU])) ?_
 refine wAw rfl rfl (wAm (cs := [_, _, _, _]) rfl rfl rfl (by rfl) (by rfl) (by rfl)) ?_; rintro _ _ _ ⟨b14, rfl, rfl, rfl⟩
 refine jp rfl (wAc (jT (wAe (wBv b14 (by simp) ?_))))
 intro M1 hM1 e1
 refine jr1 rfl rfl ?_
 exact ⟨⟨some ⟨b14, 0, none⟩, 4, rfl, Nat.le_refl _, SM.of_block (l := wAk (wCr n)) e1⟩, rfl⟩
theorem two_spec (n : Int) (M : Mem) (h : 0 ≤ n ∧ n < 65536) :
  SpecL Tryz.prog 115 #[.int .i64 n] M [] fun u M' L' => (∃ s, u = .tuple #[s, .int .i64 0] ∧ BS M' s (wGu n)) ∧ L' = [] := by
 have h16 : bShr .i64 n 16 = 0 := by unfold bShr; rw [show (2 : Int) ^ (min 16 IntKind.i64.bits) = 65536 by decide, Int.fdiv_eq_ediv_of_nonneg _ (by decide)]; omega
 refine wAf (vs := [_]) 13 _ Tryz.func115 rfl Tryz.ntmps115 rfl rfl ?_; intro W
 refine wAb (wAa (jp rfl (jp rfl (wAc (jT (wAb (wAb (wAa (jp rfl (wAi rfl rfl (wLk rfl rfl rfl rfl (by omega) rfl) ?_))))))))))
 refine jf rfl (decide_eq_false (by first | omega | exact fun e => e h16)) ?_
 refine wAc (jT (wAj rfl (wAd (jT (wAb (wAa (jp rfl (wAi rfl rfl (qEq (wEf rfl rfl rfl) (by rw [u8_bU])) ?_))))))))
 refine jp rfl (wAi rfl rfl (wLk rfl rfl rfl rfl (by omega) rfl) ?_)
 refine wAi rfl rfl (qEq (wEf rfl rfl rfl) (by rw [u8_bU])) ?_
 refine wAw rfl rfl (wAm (cs := [_, _]) rfl rfl rfl (by rfl) (by rfl) (by rfl)) ?_; rintro _ _ _ ⟨b12, rfl, rfl, rfl⟩
 refine jp rfl (jp rfl (wAc (jT (wAe (wBv b12 (by simp) ?_)))))
 intro M1 hM1 e1
 refine jr2 rfl rfl rfl ?_
 exact ⟨⟨_, rfl, some ⟨b12, 0, none⟩, 2, rfl, Nat.le_refl _, SM.of_block (l := wAk (wGu n)) e1⟩, rfl⟩
theorem grow_nil (M : Mem) :
  SpecL Tryz.prog 137 #[.slice none 0 0, .int .i64 0] M [] fun u M' L' => Own u L' 5 1 0 [] := by
 refine wAf (vs := [_, _]) 27 _ Tryz.func137 rfl Tryz.ntmps137 rfl rfl ?_; intro W
 refine wAb (wAa (jp rfl (wAc (jT (wAb (wAb (wAa (jp rfl (jf rfl (decide_eq_false (by omega)) ?_)))))))))
 refine wAc (jT (wAj rfl (wAd (jT (wAb (wAb (wAa (jp rfl (jp rfl (wAi rfl rfl (qCap rfl rfl rfl) ?_))))))))))
 refine jp rfl (wAi rfl rfl (wBq rfl rfl rfl) ?_)
 refine ja rfl (by omega) ?_
 refine ja rfl (by omega) ?_
 refine jp rfl (wAc (jT (wAb (wAa (jp rfl (jf rfl (decide_eq_false (by omega)) ?_))))))
 refine wAc (jT (wAj rfl (wAd (jT (wAb (wAa (jp rfl (jp rfl (wAc (jT (wAe (jr1 rfl rfl ?_))))))))))))
 exact Own.nil _ _
theorem grow_some (n : Nat) (M : Mem) (h0 : 0 < n) (hn : n ≤ 1000000000) :
  SpecL Tryz.prog 137 #[.slice none 0 0, .int .i64 n] M [] fun u M' L' => Own u L' 5 1 0 [] := by
 refine wAf (vs := [_, _]) 27 _ Tryz.func137 rfl Tryz.ntmps137 rfl rfl ?_; intro W
 refine wAb (wAa (jp rfl (wAc (jT (wAb (wAb (wAa (jp rfl (jf rfl (decide_eq_false (by omega)) ?_)))))))))
 refine wAc (jT (wAj rfl (wAd (jT (wAb (wAb (wAa (jp rfl (jp rfl (wAi rfl rfl (qCap rfl rfl rfl) ?_))))))))))
 refine jp rfl (wAi rfl rfl (wBq rfl rfl rfl) ?_)
 refine ja rfl (by omega) ?_
 refine ja rfl (by omega) ?_
 refine jp rfl (wAc (jT (wAb (wAa (jp rfl (jt rfl (decide_eq_true (by omega)) ?_))))))
 refine wAc (jT (wAg rfl (wAa (jp rfl (jp rfl (wAi rfl rfl (qCap rfl rfl rfl) ?_))))))
 refine wAi rfl rfl (qEq (qSl rfl rfl rfl (.no _) (.of (v := 0) rfl (by omega) rfl) (.no _) (by omega) (by simp)) (v' := .slice none 0 0) (by rw [wDa])) ?_
 refine jp rfl ?_
 refine wAw rfl rfl (hAppendZ (n := n) rfl rfl rfl (by simp [show (n : Int) - (0 - 0) = n by omega]; rfl) h0 hn (by omega)) ?_; rintro _ _ _ ⟨rfl, b22, cap, cur, rfl, rfl, hc1, hc2, hc3⟩
 refine jp rfl (wAi rfl rfl (wBq rfl rfl rfl) ?_)
 refine wAi rfl rfl (qEq (qSl rfl rfl rfl (.no _) (.of (v := 0) rfl (by omega) rfl) (.no _) (by omega) (by simp)) (v' := .slice (some ⟨b22, 0, none⟩) 0 cap) (by rw [wDa]; rfl)) ?_
 refine jp rfl (wAc (jT (wAb (wAa (jp rfl (jp rfl (wAc (jT (wAe (jr1 rfl rfl ?_))))))))))
 exact ⟨rfl, .inr ⟨b22, cap, cur, rfl, rfl, Nat.zero_le _, hc2, by rw [hc3, Nat.mul_one], by simp⟩⟩
theorem grow_spec (n : Nat) (M : Mem) (hn : n ≤ 1000000000) : SpecL Tryz.prog 137 #[.slice none 0 0, .int .i64 n] M [] fun u _ L' => Own u L' 5 1 0 [] := by
 rcases Nat.eq_zero_or_pos n with rfl | h
 ·exact grow_nil M
 ·exact grow_some n M h hn
theorem wJt {bs : List (List By)} {k : Nat} (h : k < bs.length) : (bs.take (k + 1)).flatten = (bs.take k).flatten ++ bs[k] := by
 rw [List.take_succ_eq_append_getElem h, List.flatten_append]; simp
theorem flat_le {bs : List (List By)} (k : Nat) : (bs.take k).flatten.length ≤ bs.flatten.length := by
 conv => rhs; rw [← List.take_append_drop k bs, List.flatten_append, List.length_append]
 omega
set_option maxHeartbeats 1000000 in
theorem concat_walk (bs : List (List By)) (a : Option Addr) (c : Nat) (ps : List (List By × Value)) (M : Mem) (hc : bs.length ≤ c) (hs : SM M a (ps.map (·.2))) (hp : ps.map (·.1) = bs) (hb : ∀ p ∈ ps, BS M p.2 p.1) (hn : bs.length ≤ 1000) (ht : bs.flatten.length ≤ 1000000) :
  SpecL Tryz.prog 98 #[.slice a bs.length c] M [] fun u M' L' => Own u L' 5 1 bs.flatten.length (wAk bs.flatten) := by
 refine wAf (vs := [_]) 36 _ Tryz.func98 rfl Tryz.ntmps98 rfl rfl ?_; intro W
 refine wAb (wAa (jp rfl (wAc (jT (wAb (wAa (jp rfl (wAc (jT (wAb (wAb (wAa (jp rfl (wAi rfl rfl (wBq rfl rfl rfl) ?_))))))))))))))
 refine jp rfl (wAc (jT (wAh ?_)))
 refine wAr (α := Nat) (fun k => [(0, .slice a bs.length c), (3, .int .i64 ((bs.take k).flatten.length : Int)), (9, .slice a bs.length c), (10, .int .i64 bs.length), (11, .int .i64 k)]) (fun _ => M) (fun _ => []) (fun k => k ≤ bs.length) (fun k => bs.length - k)
  0 (.cons (t := 0) rfl (.cons (t := 3) rfl (.cons (t := 9) rfl (.cons (t := 10) rfl (.cons (t := 11) rfl .nil))))) (Nat.zero_le _) (fun _ h => h) ?_
 rintro k hk
 try dsimp only at hk ⊢
 have hfk := flat_le (bs := bs) k
 refine wAb (wAa (js rfl (fun h12 => ?_) (fun h12 => ?_)))
 ·refine wAc (jT (wAb (wAg rfl (wAd (jT (wAb (wAh (wAb (wAa ?_)))))))))
  have hk1 : k < bs.length := by omega
  obtain ⟨sb, so, e0, hx⟩ := hs.open (by intro e; have := congrArg List.length e; rw [List.length_map, List.length_nil] at this; have h2 := congrArg List.length hp; rw [List.length_map] at h2; omega)
  subst e0
  obtain ⟨va, vc, hcl, hvc, hvs⟩ := wCn hx hp hb hk1
  have hft := congrArg List.length (wJt hk1)
  rw [List.length_append] at hft
  have hfl := flat_le (bs := bs) (k + 1)
  refine wAi rfl rfl (wBa rfl rfl rfl rfl (by omega)) ?_
  refine wAi rfl rfl (qLd rfl rfl rfl rfl (hcl.cj _)) ?_
  refine jp rfl (wAc (jT (wAb (wAa (jp rfl (jp rfl (wAi rfl rfl (wBq rfl rfl rfl) ?_)))))))
  refine ja rfl (by omega) ?_
  refine jp rfl (wAc (jT (wAb (wAa (jp rfl (jf rfl (decide_eq_false (by omega)) ?_))))))
  refine wAc (jT (wAj rfl (wAd (jB (jT (wAa (ja rfl (by omega) ?_)))))))
  refine jp rfl (wAc ?_)
  refine wAp (k + 1) (.cons (t := 0) rfl (Keep.ceq (t := 3) rfl (by rw [hft]; rfl) (.cons (t := 9) rfl (.cons (t := 10) rfl (.cons (t := 11) rfl .nil))))) (by show k + 1 ≤ bs.length; omega) (by show bs.length - (k + 1) < bs.length - k; omega) (fun _ h => h)
 ·refine wAc (jT (wAb (wAj rfl (wAs (jTx (jTx (jBx (jT (wAb (wAa (jp rfl ?_)))))))))))
  obtain rfl : k = bs.length := by omega
  rw [List.take_length]
  refine wAw rfl rfl (wAn rfl rfl rfl rfl rfl (by kernel_rfl) (grow_spec bs.flatten.length M (by omega))) ?_; rintro _ Mg _ ⟨hMg, R0, rfl, hown0⟩
  refine jp rfl (wAc (jT (wAb (wAb (wAa (jp rfl (wAi rfl rfl (wBq rfl rfl rfl) ?_)))))))
  refine jp rfl (wAc (jT (wAh ?_)))
  refine wAr (α := Nat × Lc × Value) (fun x => [(6, x.2.2), (25, .slice a bs.length c), (26, .int .i64 bs.length), (27, .int .i64 x.1)]) (fun _ => Mg) (fun x => x.2.1) (fun x => x.1 ≤ bs.length ∧ Own x.2.2 x.2.1 5 1 (bs.take x.1).flatten.length (wAk (bs.take x.1).flatten)) (fun x => bs.length - x.1)
   (0, R0, _) (.cons (t := 6) rfl (.cons (t := 25) rfl (.cons (t := 26) rfl (.cons (t := 27) rfl .nil)))) ⟨Nat.zero_le _, by simpa [wAk] using hown0⟩ (fun _ h => h.fewer (by simp)) ?_
  rintro ⟨k, R, s⟩ ⟨hk, hown⟩
  try dsimp only at hk hown ⊢
  have hfk := flat_le (bs := bs) k
  refine wAb (wAa (js rfl (fun h28 => ?_) (fun h28 => ?_)))
  ·refine wAc (jT (wAb (wAg rfl (wAd (jT (wAb (wAh (wAb (wAa ?_)))))))))
   have hk1 : k < bs.length := by omega
   obtain ⟨sb, so, e0, hx⟩ := hs.open (by intro e; have := congrArg List.length e; rw [List.length_map, List.length_nil] at this; have h2 := congrArg List.length hp; rw [List.length_map] at h2; omega)
   subst e0
   obtain ⟨va, vc, hcl, hvc, hvs⟩ := wCn hx hp hb hk1
   have hft := congrArg List.length (wJt hk1)
   rw [List.length_append] at hft
   have hfl := flat_le (bs := bs) (k + 1)
   refine wAi rfl rfl (wBa rfl rfl rfl rfl (by omega)) ?_
   refine wAi rfl rfl (qLd rfl rfl rfl rfl ((hcl.mono hMg).cj _)) ?_
   refine jp rfl (wAc (jT (wAa (jp rfl (jp rfl (wAw rfl rfl (wFv (R := R) (news := wAk bs[k]) rfl rfl rfl rfl hown (by rw [wAu, Nat.mul_one]) (hvs.mono hMg) (by rfl) (wFi _) (by omega) (by omega)) ?_)))))); rintro s' _ _ ⟨rfl, R', rfl, hown'⟩
   obtain ⟨a2, c2, rfl⟩ := hown'.form
   refine jp rfl (wAc (jB (jT (wAa (ja rfl (by omega) ?_)))))
   refine jp rfl (wAc ?_)
   refine wAp (k + 1, R', .slice a2 _ c2) (.cons (t := 6) rfl (.cons (t := 25) rfl (.cons (t := 26) rfl (.cons (t := 27) rfl .nil)))) ⟨by show k + 1 ≤ bs.length; omega, ?_⟩ (by show bs.length - (k + 1) < bs.length - k; omega) (fun _ h => h.fewer (by simp))
   show Own _ _ _ _ (bs.take (k + 1)).flatten.length (wAk (bs.take (k + 1)).flatten)
   rw [wJt hk1, List.length_append, show wAk ((bs.take k).flatten ++ bs[k]) = wAk (bs.take k).flatten ++ wAk bs[k] by simp [wAk]]; exact hown'
  ·refine wAc (jT (wAb (wAj rfl (wAs (jTx (jTx (jBx (jT (wAb (wAa (jp rfl (jp rfl (wAc (jT (wAe (jr1 rfl rfl ?_))))))))))))))))
   obtain rfl : k = bs.length := by omega
   rw [List.take_length] at hown; exact hown
theorem wFg (bs : List (List By)) (v : Value) (M : Mem) (h : LS M v bs) (hn : bs.length ≤ 1000) (ht : bs.flatten.length ≤ 1000000) : SpecL Tryz.prog 98 #[v] M [] fun u _ L' => Own u L' 5 1 bs.flatten.length (wAk bs.flatten) := by
 obtain ⟨a, c, ps, rfl, hc, hs, hp, hb⟩ := h
 exact concat_walk bs a c ps M hc hs hp hb hn ht
def wLm (b : List By) : List By := b ++ List.replicate (124 - b.length) 0
def sealB (b : List By) : List By := wCr (sumOf (wLm b)) ++ wLm b
theorem padB_len {b : List By} (h : b.length ≤ 124) : (wLm b).length = 124 := by unfold wLm; rw [List.length_append, List.length_replicate]; omega
theorem wJg {b : List By} (h : b.length ≤ 124) : (sealB b).length = 128 := by unfold sealB; rw [List.length_append, padB_len h]; rfl
theorem pad_cells {b : List By} (h : b.length ≤ 124) : ((List.replicate (124 : Int).toNat [Value.int .u8 0]).flatten).take 0 ++ wAk b ++ ((List.replicate (124 : Int).toNat [Value.int .u8 0]).flatten).drop (0 + (wAk b).length) = wAk (wLm b) := by
 have e : (List.replicate (124 : Int).toNat [Value.int .u8 0]).flatten = List.replicate 124 (Value.int .u8 0) := by simp
 rw [e, wAu, List.take_zero, List.nil_append, Nat.zero_add, List.drop_replicate]
 unfold wLm wAk
 rw [List.map_append, List.map_replicate]; rfl
theorem LS.two {M : Mem} {b : Nat} {u v : Value} {x y : List By} (h : M b = some (.cells [u, v].toArray 26 (0, 0))) (h1 : BS M u x) (h2 : BS M v y) : LS M (.slice (some ⟨b, 0, none⟩) 2 2) [x, y] :=
 ⟨_, 2, [(x, u), (y, v)], rfl, Nat.le_refl _, SM.of_block (l := [u, v]) h, rfl, fun p hp => by
  rcases List.mem_cons.1 hp with rfl | hp
  ·exact h1
  ·rw [List.mem_singleton.1 hp]; exact h2⟩
theorem seal_walk (b : List By) (a : Option Addr) (c : Nat) (M : Mem) (hc : b.length ≤ c) (hs : SM M a (wAk b)) (h : b.length ≤ 124) :
  SpecL Tryz.prog 123 #[.slice a b.length c] M [] fun u M' L' => (∃ s, u = .tuple #[s, .int .i64 0] ∧ BS M' s (sealB b)) ∧ L' = [] := by
 refine wAf (vs := [_]) 18 _ Tryz.func123 rfl Tryz.ntmps123 rfl rfl ?_; intro W
 refine wAb (wAa (jp rfl (jp rfl (wAc (jT (wAb (wAb (wAa (jp rfl (wAi rfl rfl (wBq rfl rfl rfl) ?_))))))))))
 refine jf rfl (decide_eq_false (by omega)) ?_
 refine wAc (jT (wAj rfl (wAd (jT (wAb (wAa (wAw rfl rfl (wKv rfl rfl rfl rfl (by omega) (by rfl)) ?_))))))); rintro _ _ _ ⟨b8, rfl, rfl, rfl⟩
 refine jp rfl (wAc (jT (wAb (wAa (jp rfl (jp rfl ?_))))))
 refine wAw rfl rfl (hCopy (cs := wAk b) rfl rfl rfl rfl (by rw [wAu]; show _ = min b.length 124; omega) (hs.sj _) (wFi _) (by rw [wAu]; show 0 + b.length ≤ 124; omega)) ?_; rintro _ _ _ ⟨rfl, rfl, rfl⟩
 rw [pad_cells h]
 refine wAc (jT (wAb (wAa (jp rfl (wGe b8 (by simp) ?_)))))
 intro M1 hM1 e1
 have hpl := padB_len h
 have hpb : BS M1 (.slice (some ⟨b8, 0, none⟩) (124 : Int).toNat (124 : Int).toNat) (wLm b) := ⟨_, _, by rw [hpl]; rfl, by rw [hpl]; exact Nat.le_refl _, SM.of_block e1⟩
 have hps : SM M1 (some ⟨b8, 0, none⟩) (wAk (wLm b)) := SM.of_block e1
 refine wAi rfl rfl (wBf rfl rfl rfl rfl rfl (by kernel_rfl) (by have := of_spec _ (124 : Int).toNat (wLm b) M1 hps (by omega); rw [hpl] at this; exact this)) ?_
 refine wAw rfl rfl (wAn rfl rfl rfl rfl rfl (by kernel_rfl) (wBp _ M1)) ?_; rintro _ M2 _ ⟨hM2, _, rfl, ⟨hf, rfl⟩⟩
 obtain ⟨fa, fc, rfl, _, _⟩ := id hf
 simp only [nA]
 refine jp rfl (wAw rfl rfl (wAm (cs := [_, _]) rfl rfl rfl (by rfl) (by rfl) (by rfl)) ?_); rintro _ _ _ ⟨b16, rfl, rfl, rfl⟩
 refine wGe b16 (by simp) ?_
 intro M3 hM3 e3
 have hls := LS.two e3 (hf.mono hM3) (hpb.mono (hM2.trans hM3))
 refine wAw rfl rfl (wAn rfl rfl rfl rfl rfl (by kernel_rfl) (wFg _ _ M3 hls (by simp) (by simp [hpl, wCr]))) ?_; rintro _ M4 _ ⟨hM4, _, rfl, hown⟩
 refine jp rfl (jp rfl (wAc (jT (wAe (wHg hown (by simp) ?_)))))
 intro M5 a5 c5 hM5 e5 hc5 hs5; subst e5
 refine jr2 rfl rfl rfl ?_
 refine ⟨⟨_, rfl, a5, c5, ?_, ?_, ?_⟩, rfl⟩
 ·simp [sealB]
 ·simpa [sealB] using hc5
 ·simpa [sealB] using hs5
def itB (x : It) : List By := [bU x.key.kind] ++ wCr x.key.id ++ wCr x.key.off ++ wGu x.ref ++ [bU x.val.length] ++ x.val
theorem LS.six {M : Mem} {b : Nat} {u1 u2 u3 u4 u5 u6 : Value} {x1 x2 x3 x4 x5 x6 : List By} (h : M b = some (.cells [u1, u2, u3, u4, u5, u6].toArray 26 (0, 0))) (h1 : BS M u1 x1) (h2 : BS M u2 x2) (h3 : BS M u3 x3) (h4 : BS M u4 x4) (h5 : BS M u5 x5) (h6 : BS M u6 x6) : LS M (.slice (some ⟨b, 0, none⟩) 6 6) [x1, x2, x3, x4, x5, x6] :=
 ⟨_, 6, [(x1, u1), (x2, u2), (x3, u3), (x4, u4), (x5, u5), (x6, u6)], rfl, Nat.le_refl _, SM.of_block (l := [u1, u2, u3, u4, u5, u6]) h, rfl, fun p hp => by
  simp only [List.mem_cons, List.not_mem_nil, or_false] at hp
  rcases hp with rfl | rfl | rfl | rfl | rfl | rfl <;> assumption⟩
theorem wLn {M : Mem} {b : Nat} {n : Int} (h : 0 ≤ n ∧ n < 256) (e : M b = some (.cells [.int .u8 n].toArray 5 (0, 0))) : BS M (.slice (some ⟨b, 0, none⟩) 1 1) [bU n] :=
 ⟨_, 1, rfl, Nat.le_refl _, SM.of_block (l := wAk [bU n]) (by
  have : ((bU n).toNat : Int) = n := by rw [← u8_bU, IntKind.wrap_u8]; omega
  simp only [wAk, List.map, this]; exact e)⟩
set_option maxHeartbeats 2000000 in
theorem iwrite_walk (x : It) (sa : Option Addr) (sc : Nat) (M : Mem) (hsc : x.val.length ≤ sc) (hss : SM M sa (wAk x.val)) (hok : wFo x = false) (hk : 0 ≤ x.key.kind ∧ x.key.kind < 256) :
  SpecL Tryz.prog 163 #[.agg (itc x sa sc).toArray] M [] fun u M' L' => (∃ s, u = .tuple #[s, .int .i64 0] ∧ BS M' s (itB x)) ∧ L' = [] := by
 have hc0 : wEw x = 0 := by unfold wEw; rw [hok]; rfl
 have hbd : ¬ (x.ref ≠ 0 ∧ (x.ref < 8 ∨ 256 ≤ x.ref) ∨ 12 < x.val.length) := by unfold wFo at hok; exact of_decide_eq_false hok
 refine wAf (vs := [_]) 40 _ Tryz.func163 rfl Tryz.ntmps163 rfl rfl ?_; intro W
 refine wAb (wAa (wAw rfl rfl (wCb (cs := [_, _, _, _, _]) rfl rfl rfl rfl) ?_)); rintro _ _ _ ⟨b1, rfl, rfl, rfl⟩
 refine jp rfl (jp rfl (wAc (jT (wAb (wAb (wAa (sLL rfl ?_)))))))
 refine wAi rfl rfl (wBf rfl rfl rfl rfl rfl (by kernel_rfl) (wEo x _ M ⟨sa, sc, rfl, hsc, hss⟩)) ?_
 refine jp rfl (wAc (jT (wAb (wAa (jp rfl (jf rfl (decide_eq_false (by omega)) ?_))))))
 refine wAc (jT (wAj rfl (wAd (jT (wAb (wAa (sFL rfl rfl ?_)))))))
 refine wAw rfl rfl (wAn rfl rfl rfl rfl rfl (by kernel_rfl) (two_spec x.ref M (by omega))) ?_; rintro _ M1 _ ⟨hM1, _, rfl, ⟨⟨s2, rfl, hs2⟩, rfl⟩⟩
 simp only [nA]
 refine jp rfl (jp rfl (jp rfl (jp rfl (jp rfl (wAc (jT (wAb (wGk ([(b1, .cells (itc x sa sc).toArray IT (0, 0))]) (by kernel_rfl) (fun _ h => h) ?_))))))))
 refine wDu (i := 0) rfl (by kernel_rfl) (by kernel_rfl) rfl rfl (wBk rfl rfl rfl rfl rfl) ?_
 refine wDu (i := 1) rfl (by kernel_rfl) (by kernel_rfl) rfl rfl (wBk rfl rfl rfl rfl rfl) ?_
 refine wDu (i := 2) rfl (by kernel_rfl) (by kernel_rfl) rfl rfl (qLd rfl rfl rfl rfl (CJ.loc rfl)) ?_
 refine wDu (i := 4) rfl (by kernel_rfl) (by kernel_rfl) rfl rfl (wBk rfl rfl rfl rfl rfl) ?_
 refine wDu (i := 5) rfl (by kernel_rfl) (by kernel_rfl) rfl rfl (wBk rfl rfl rfl rfl rfl) ?_
 refine wDu (i := 6) rfl (by kernel_rfl) (by kernel_rfl) rfl rfl (qLd rfl rfl rfl rfl (CJ.loc rfl)) ?_
 refine wDu (i := 8) rfl (by kernel_rfl) (by kernel_rfl) rfl rfl (wBk rfl rfl rfl rfl rfl) ?_
 refine wDu (i := 9) rfl (by kernel_rfl) (by kernel_rfl) rfl rfl (wBk rfl rfl rfl rfl rfl) ?_
 refine wDu (i := 10) rfl (by kernel_rfl) (by kernel_rfl) rfl rfl (qLd rfl rfl rfl rfl (CJ.loc rfl)) ?_
 refine wKf (i := 12) rfl (by kernel_rfl) (by kernel_rfl) rfl ?_
 refine wDu (i := 13) rfl (by kernel_rfl) (by kernel_rfl) rfl rfl (wBk rfl rfl rfl rfl rfl) ?_
 refine wDu (i := 14) rfl (by kernel_rfl) (by kernel_rfl) rfl rfl (qLd rfl rfl rfl rfl (CJ.loc rfl)) ?_
 refine wDu (i := 15) rfl (by kernel_rfl) (by kernel_rfl) rfl rfl (wBq rfl rfl rfl) ?_
 refine wDu (i := 16) rfl (by kernel_rfl) (by kernel_rfl) rfl rfl (qEq (wEf rfl rfl rfl) (by rw [u8_bU])) ?_
 refine wDu (i := 18) rfl (by kernel_rfl) (by kernel_rfl) rfl rfl (wBk rfl rfl rfl rfl rfl) ?_
 refine wDu (i := 19) rfl (by kernel_rfl) (by kernel_rfl) rfl rfl (qLd rfl rfl rfl rfl (CJ.loc rfl)) ?_
 refine wGn (α := Mem × Value × Value × Value × Value) (fun y => MLe M1 y.1 ∧ BS y.1 y.2.1 [bU x.key.kind] ∧ BS y.1 y.2.2.1 (wCr x.key.id) ∧ BS y.1 y.2.2.2.1 (wCr x.key.off) ∧ BS y.1 y.2.2.2.2 [bU x.val.length]) (fun y => [(21, y.2.1), (25, y.2.2.1), (29, y.2.2.2.1), (30, s2), (35, y.2.2.2.2), (37, .slice sa x.val.length sc)]) (fun y => y.1) (fun _ => [(b1, .cells (itc x sa sc).toArray IT (0, 0))]) 4 #[true, true, true, true, true, true, true, true, true, true, true, true, true, true, true, true, true, true, true, true, false, false, false, false] ?_ (fun rest => ?_)
 ·rintro ⟨Mr, v3, v7, v11, v17⟩ ⟨hMr, hB3, hB7, hB11, hB17⟩
  try dsimp only at hMr hB3 hB7 hB11 hB17 ⊢
  obtain ⟨a3, k3, rfl, _, _⟩ := id hB3
  obtain ⟨a7, k7, rfl, _, _⟩ := id hB7
  obtain ⟨a11, k11, rfl, _, _⟩ := id hB11
  obtain ⟨a17, k17, rfl, _, _⟩ := id hB17
  obtain ⟨aa2, kk2, rfl, _, _⟩ := id hs2
  refine wGm (i := 20) (by kernel_rfl) ?_
  refine wCk rfl rfl rfl (wAm (cs := [_, _, _, _, _, _]) rfl rfl rfl (by rfl) (by rfl) (by rfl)) ?_; rintro _ _ _ ⟨b38, rfl, rfl, rfl⟩
  refine wAo (hMr) (by simp) ?_
  refine wBo b38 (by simp) (by simp) ?_
  intro M20 hM20 e20
  have hls := LS.six e20 (hB3.mono hM20) (hB7.mono hM20) (hB11.mono hM20) ((hs2.mono hMr).mono hM20) (hB17.mono hM20) ⟨sa, sc, rfl, hsc, hss.mono (hM1.trans (hMr.trans hM20))⟩
  refine wGm (i := 21) (by kernel_rfl) ?_
  refine wCk rfl rfl rfl (wAn rfl rfl rfl rfl rfl (by kernel_rfl) (wFg _ _ M20 hls (by simp) (by simp [wCr, wGu]; omega))) ?_; rintro _ M21 _ ⟨hM21, R21, rfl, hown⟩
  refine wAo ((hMr.trans hM20).trans hM21) (by simp) ?_
  refine wKf (i := 22) rfl (by kernel_rfl) (by kernel_rfl) rfl ?_
  refine wKf (i := 23) rfl (by kernel_rfl) (by kernel_rfl) rfl ?_
  refine ja_end (by kernel_rfl) ?_
  refine jPn (jT (wAe (wHg hown (by simp) ?_)))
  intro M5 a5 c5 hM5 e5 hc5 hs5; subst e5
  refine wAv (L' := []) (by simp) ?_
  refine jr2 rfl rfl rfl ?_
  refine ⟨⟨_, rfl, a5, c5, ?_, ?_, ?_⟩, rfl⟩
  ·simp [itB]
  ·simpa [itB] using hc5
  ·simpa [itB] using hs5
 refine wBd [3, 7, 17] (by kernel_rfl) rfl ⟨?_, ?_, ?_, trivial⟩
 ·refine wCk rfl rfl rfl (wAm (cs := [_]) rfl rfl rfl (by rfl) (by rfl) (by rfl)) ?_; rintro _ _ _ ⟨b21, rfl, rfl, rfl⟩
  refine wAo (MLe.refl _) (by simp) ?_
  refine wBo b21 (by simp) (by simp) ?_
  intro M3 hM3 e3
  have hF3 := wLn hk e3
  refine wBd [7, 17] (by kernel_rfl) rfl ⟨?_, ?_, trivial⟩
  ·refine wCk rfl rfl rfl (wAn rfl rfl rfl rfl rfl (by kernel_rfl) (wBp x.key.id _)) ?_; rintro v7 M7 _ ⟨hM7, R7, rfl, hF7, rfl⟩
   refine wAo ((hM3).trans hM7) (by simp) ?_
   simp only [nA]
   refine wBd [11, 17] (by kernel_rfl) rfl ⟨?_, ?_, trivial⟩
   ·refine wCk rfl rfl rfl (wAn rfl rfl rfl rfl rfl (by kernel_rfl) (wBp x.key.off _)) ?_; rintro v11 M11 _ ⟨hM11, R11, rfl, hF11, rfl⟩
    refine wAo (((hM3.trans hM7)).trans hM11) (by simp) ?_
    simp only [nA]
    refine wBd [17] (by kernel_rfl) rfl ⟨?_, trivial⟩
    ·refine wCk rfl rfl rfl (wAm (cs := [_]) rfl rfl rfl (by rfl) (by rfl) (by rfl)) ?_; rintro _ _ _ ⟨b35, rfl, rfl, rfl⟩
     refine wAo ((hM3.trans (hM7.trans hM11))) (by simp) ?_
     refine wBo b35 (by simp) (by simp) ?_
     intro M17 hM17 e17
     have hF17 : BS M17 (.slice (some ⟨b35, 0, none⟩) 1 1) [bU x.val.length] := ⟨_, 1, rfl, Nat.le_refl _, SM.of_block (l := wAk [bU x.val.length]) e17⟩
     refine wBx (listed' := #[true, true, true, true, true, true, true, true, true, true, true, true, true, true, true, true, true, true, true, true, false, false, false, false]) (by kernel_rfl) (wBw (.cons (t := 21) rfl (.cons (t := 25) rfl (.cons (t := 29) rfl (.cons (t := 30) rfl (.cons (t := 35) rfl (.cons (t := 37) rfl .nil)))))) ?_)
     exact rest (_, _, _, _, _) ⟨(hM3.trans (hM7.trans (hM11.trans hM17))), hF3.mono ((hM7.trans (hM11.trans hM17))), hF7.mono ((hM11.trans hM17)), hF11.mono (hM17), hF17.mono (MLe.refl _)⟩
   ·refine wCk rfl rfl rfl (wAm (cs := [_]) rfl rfl rfl (by rfl) (by rfl) (by rfl)) ?_; rintro _ _ _ ⟨b35, rfl, rfl, rfl⟩
    refine wAo ((hM3.trans hM7)) (by simp) ?_
    refine wBo b35 (by simp) (by simp) ?_
    intro M17 hM17 e17
    have hF17 : BS M17 (.slice (some ⟨b35, 0, none⟩) 1 1) [bU x.val.length] := ⟨_, 1, rfl, Nat.le_refl _, SM.of_block (l := wAk [bU x.val.length]) e17⟩
    refine wBd [11] (by kernel_rfl) rfl ⟨?_, trivial⟩
    ·refine wCk rfl rfl rfl (wAn rfl rfl rfl rfl rfl (by kernel_rfl) (wBp x.key.off _)) ?_; rintro v11 M11 _ ⟨hM11, R11, rfl, hF11, rfl⟩
     refine wAo (((hM3.trans (hM7.trans hM17))).trans hM11) (by simp) ?_
     simp only [nA]
     refine wBx (listed' := #[true, true, true, true, true, true, true, true, true, true, true, true, true, true, true, true, true, true, true, true, false, false, false, false]) (by kernel_rfl) (wBw (.cons (t := 21) rfl (.cons (t := 25) rfl (.cons (t := 29) rfl (.cons (t := 30) rfl (.cons (t := 35) rfl (.cons (t := 37) rfl .nil)))))) ?_)
     exact rest (_, _, _, _, _) ⟨(hM3.trans (hM7.trans (hM17.trans hM11))), hF3.mono ((hM7.trans (hM17.trans hM11))), hF7.mono ((hM17.trans hM11)), hF11.mono (MLe.refl _), hF17.mono (hM11)⟩
  ·refine wCk rfl rfl rfl (wAm (cs := [_]) rfl rfl rfl (by rfl) (by rfl) (by rfl)) ?_; rintro _ _ _ ⟨b35, rfl, rfl, rfl⟩
   refine wAo (hM3) (by simp) ?_
   refine wBo b35 (by simp) (by simp) ?_
   intro M17 hM17 e17
   have hF17 : BS M17 (.slice (some ⟨b35, 0, none⟩) 1 1) [bU x.val.length] := ⟨_, 1, rfl, Nat.le_refl _, SM.of_block (l := wAk [bU x.val.length]) e17⟩
   refine wBd [7] (by kernel_rfl) rfl ⟨?_, trivial⟩
   ·refine wCk rfl rfl rfl (wAn rfl rfl rfl rfl rfl (by kernel_rfl) (wBp x.key.id _)) ?_; rintro v7 M7 _ ⟨hM7, R7, rfl, hF7, rfl⟩
    refine wAo (((hM3.trans hM17)).trans hM7) (by simp) ?_
    simp only [nA]
    refine wBd [11] (by kernel_rfl) rfl ⟨?_, trivial⟩
    ·refine wCk rfl rfl rfl (wAn rfl rfl rfl rfl rfl (by kernel_rfl) (wBp x.key.off _)) ?_; rintro v11 M11 _ ⟨hM11, R11, rfl, hF11, rfl⟩
     refine wAo (((hM3.trans (hM17.trans hM7))).trans hM11) (by simp) ?_
     simp only [nA]
     refine wBx (listed' := #[true, true, true, true, true, true, true, true, true, true, true, true, true, true, true, true, true, true, true, true, false, false, false, false]) (by kernel_rfl) (wBw (.cons (t := 21) rfl (.cons (t := 25) rfl (.cons (t := 29) rfl (.cons (t := 30) rfl (.cons (t := 35) rfl (.cons (t := 37) rfl .nil)))))) ?_)
     exact rest (_, _, _, _, _) ⟨(hM3.trans (hM17.trans (hM7.trans hM11))), hF3.mono ((hM17.trans (hM7.trans hM11))), hF7.mono (hM11), hF11.mono (MLe.refl _), hF17.mono ((hM7.trans hM11))⟩
 ·refine wCk rfl rfl rfl (wAn rfl rfl rfl rfl rfl (by kernel_rfl) (wBp x.key.id _)) ?_; rintro v7 M7 _ ⟨hM7, R7, rfl, hF7, rfl⟩
  refine wAo (hM7) (by simp) ?_
  simp only [nA]
  refine wBd [3, 11, 17] (by kernel_rfl) rfl ⟨?_, ?_, ?_, trivial⟩
  ·refine wCk rfl rfl rfl (wAm (cs := [_]) rfl rfl rfl (by rfl) (by rfl) (by rfl)) ?_; rintro _ _ _ ⟨b21, rfl, rfl, rfl⟩
   refine wAo (hM7) (by simp) ?_
   refine wBo b21 (by simp) (by simp) ?_
   intro M3 hM3 e3
   have hF3 := wLn hk e3
   refine wBd [11, 17] (by kernel_rfl) rfl ⟨?_, ?_, trivial⟩
   ·refine wCk rfl rfl rfl (wAn rfl rfl rfl rfl rfl (by kernel_rfl) (wBp x.key.off _)) ?_; rintro v11 M11 _ ⟨hM11, R11, rfl, hF11, rfl⟩
    refine wAo (((hM7.trans hM3)).trans hM11) (by simp) ?_
    simp only [nA]
    refine wBd [17] (by kernel_rfl) rfl ⟨?_, trivial⟩
    ·refine wCk rfl rfl rfl (wAm (cs := [_]) rfl rfl rfl (by rfl) (by rfl) (by rfl)) ?_; rintro _ _ _ ⟨b35, rfl, rfl, rfl⟩
     refine wAo ((hM7.trans (hM3.trans hM11))) (by simp) ?_
     refine wBo b35 (by simp) (by simp) ?_
     intro M17 hM17 e17
     have hF17 : BS M17 (.slice (some ⟨b35, 0, none⟩) 1 1) [bU x.val.length] := ⟨_, 1, rfl, Nat.le_refl _, SM.of_block (l := wAk [bU x.val.length]) e17⟩
     refine wBx (listed' := #[true, true, true, true, true, true, true, true, true, true, true, true, true, true, true, true, true, true, true, true, false, false, false, false]) (by kernel_rfl) (wBw (.cons (t := 21) rfl (.cons (t := 25) rfl (.cons (t := 29) rfl (.cons (t := 30) rfl (.cons (t := 35) rfl (.cons (t := 37) rfl .nil)))))) ?_)
     exact rest (_, _, _, _, _) ⟨(hM7.trans (hM3.trans (hM11.trans hM17))), hF3.mono ((hM11.trans hM17)), hF7.mono ((hM3.trans (hM11.trans hM17))), hF11.mono (hM17), hF17.mono (MLe.refl _)⟩
   ·refine wCk rfl rfl rfl (wAm (cs := [_]) rfl rfl rfl (by rfl) (by rfl) (by rfl)) ?_; rintro _ _ _ ⟨b35, rfl, rfl, rfl⟩
    refine wAo ((hM7.trans hM3)) (by simp) ?_
    refine wBo b35 (by simp) (by simp) ?_
    intro M17 hM17 e17
    have hF17 : BS M17 (.slice (some ⟨b35, 0, none⟩) 1 1) [bU x.val.length] := ⟨_, 1, rfl, Nat.le_refl _, SM.of_block (l := wAk [bU x.val.length]) e17⟩
    refine wBd [11] (by kernel_rfl) rfl ⟨?_, trivial⟩
    ·refine wCk rfl rfl rfl (wAn rfl rfl rfl rfl rfl (by kernel_rfl) (wBp x.key.off _)) ?_; rintro v11 M11 _ ⟨hM11, R11, rfl, hF11, rfl⟩
     refine wAo (((hM7.trans (hM3.trans hM17))).trans hM11) (by simp) ?_
     simp only [nA]
     refine wBx (listed' := #[true, true, true, true, true, true, true, true, true, true, true, true, true, true, true, true, true, true, true, true, false, false, false, false]) (by kernel_rfl) (wBw (.cons (t := 21) rfl (.cons (t := 25) rfl (.cons (t := 29) rfl (.cons (t := 30) rfl (.cons (t := 35) rfl (.cons (t := 37) rfl .nil)))))) ?_)
     exact rest (_, _, _, _, _) ⟨(hM7.trans (hM3.trans (hM17.trans hM11))), hF3.mono ((hM17.trans hM11)), hF7.mono ((hM3.trans (hM17.trans hM11))), hF11.mono (MLe.refl _), hF17.mono (hM11)⟩
  ·refine wCk rfl rfl rfl (wAn rfl rfl rfl rfl rfl (by kernel_rfl) (wBp x.key.off _)) ?_; rintro v11 M11 _ ⟨hM11, R11, rfl, hF11, rfl⟩
   refine wAo ((hM7).trans hM11) (by simp) ?_
   simp only [nA]
   refine wBd [3, 17] (by kernel_rfl) rfl ⟨?_, ?_, trivial⟩
   ·refine wCk rfl rfl rfl (wAm (cs := [_]) rfl rfl rfl (by rfl) (by rfl) (by rfl)) ?_; rintro _ _ _ ⟨b21, rfl, rfl, rfl⟩
    refine wAo ((hM7.trans hM11)) (by simp) ?_
    refine wBo b21 (by simp) (by simp) ?_
    intro M3 hM3 e3
    have hF3 := wLn hk e3
    refine wBd [17] (by kernel_rfl) rfl ⟨?_, trivial⟩
    ·refine wCk rfl rfl rfl (wAm (cs := [_]) rfl rfl rfl (by rfl) (by rfl) (by rfl)) ?_; rintro _ _ _ ⟨b35, rfl, rfl, rfl⟩
     refine wAo ((hM7.trans (hM11.trans hM3))) (by simp) ?_
     refine wBo b35 (by simp) (by simp) ?_
     intro M17 hM17 e17
     have hF17 : BS M17 (.slice (some ⟨b35, 0, none⟩) 1 1) [bU x.val.length] := ⟨_, 1, rfl, Nat.le_refl _, SM.of_block (l := wAk [bU x.val.length]) e17⟩
     refine wBx (listed' := #[true, true, true, true, true, true, true, true, true, true, true, true, true, true, true, true, true, true, true, true, false, false, false, false]) (by kernel_rfl) (wBw (.cons (t := 21) rfl (.cons (t := 25) rfl (.cons (t := 29) rfl (.cons (t := 30) rfl (.cons (t := 35) rfl (.cons (t := 37) rfl .nil)))))) ?_)
     exact rest (_, _, _, _, _) ⟨(hM7.trans (hM11.trans (hM3.trans hM17))), hF3.mono (hM17), hF7.mono ((hM11.trans (hM3.trans hM17))), hF11.mono ((hM3.trans hM17)), hF17.mono (MLe.refl _)⟩
   ·refine wCk rfl rfl rfl (wAm (cs := [_]) rfl rfl rfl (by rfl) (by rfl) (by rfl)) ?_; rintro _ _ _ ⟨b35, rfl, rfl, rfl⟩
    refine wAo ((hM7.trans hM11)) (by simp) ?_
    refine wBo b35 (by simp) (by simp) ?_
    intro M17 hM17 e17
    have hF17 : BS M17 (.slice (some ⟨b35, 0, none⟩) 1 1) [bU x.val.length] := ⟨_, 1, rfl, Nat.le_refl _, SM.of_block (l := wAk [bU x.val.length]) e17⟩
    refine wBd [3] (by kernel_rfl) rfl ⟨?_, trivial⟩
    ·refine wCk rfl rfl rfl (wAm (cs := [_]) rfl rfl rfl (by rfl) (by rfl) (by rfl)) ?_; rintro _ _ _ ⟨b21, rfl, rfl, rfl⟩
     refine wAo ((hM7.trans (hM11.trans hM17))) (by simp) ?_
     refine wBo b21 (by simp) (by simp) ?_
     intro M3 hM3 e3
     have hF3 := wLn hk e3
     refine wBx (listed' := #[true, true, true, true, true, true, true, true, true, true, true, true, true, true, true, true, true, true, true, true, false, false, false, false]) (by kernel_rfl) (wBw (.cons (t := 21) rfl (.cons (t := 25) rfl (.cons (t := 29) rfl (.cons (t := 30) rfl (.cons (t := 35) rfl (.cons (t := 37) rfl .nil)))))) ?_)
     exact rest (_, _, _, _, _) ⟨(hM7.trans (hM11.trans (hM17.trans hM3))), hF3.mono (MLe.refl _), hF7.mono ((hM11.trans (hM17.trans hM3))), hF11.mono ((hM17.trans hM3)), hF17.mono (hM3)⟩
  ·refine wCk rfl rfl rfl (wAm (cs := [_]) rfl rfl rfl (by rfl) (by rfl) (by rfl)) ?_; rintro _ _ _ ⟨b35, rfl, rfl, rfl⟩
   refine wAo (hM7) (by simp) ?_
   refine wBo b35 (by simp) (by simp) ?_
   intro M17 hM17 e17
   have hF17 : BS M17 (.slice (some ⟨b35, 0, none⟩) 1 1) [bU x.val.length] := ⟨_, 1, rfl, Nat.le_refl _, SM.of_block (l := wAk [bU x.val.length]) e17⟩
   refine wBd [3, 11] (by kernel_rfl) rfl ⟨?_, ?_, trivial⟩
   ·refine wCk rfl rfl rfl (wAm (cs := [_]) rfl rfl rfl (by rfl) (by rfl) (by rfl)) ?_; rintro _ _ _ ⟨b21, rfl, rfl, rfl⟩
    refine wAo ((hM7.trans hM17)) (by simp) ?_
    refine wBo b21 (by simp) (by simp) ?_
    intro M3 hM3 e3
    have hF3 := wLn hk e3
    refine wBd [11] (by kernel_rfl) rfl ⟨?_, trivial⟩
    ·refine wCk rfl rfl rfl (wAn rfl rfl rfl rfl rfl (by kernel_rfl) (wBp x.key.off _)) ?_; rintro v11 M11 _ ⟨hM11, R11, rfl, hF11, rfl⟩
     refine wAo (((hM7.trans (hM17.trans hM3))).trans hM11) (by simp) ?_
     simp only [nA]
     refine wBx (listed' := #[true, true, true, true, true, true, true, true, true, true, true, true, true, true, true, true, true, true, true, true, false, false, false, false]) (by kernel_rfl) (wBw (.cons (t := 21) rfl (.cons (t := 25) rfl (.cons (t := 29) rfl (.cons (t := 30) rfl (.cons (t := 35) rfl (.cons (t := 37) rfl .nil)))))) ?_)
     exact rest (_, _, _, _, _) ⟨(hM7.trans (hM17.trans (hM3.trans hM11))), hF3.mono (hM11), hF7.mono ((hM17.trans (hM3.trans hM11))), hF11.mono (MLe.refl _), hF17.mono ((hM3.trans hM11))⟩
   ·refine wCk rfl rfl rfl (wAn rfl rfl rfl rfl rfl (by kernel_rfl) (wBp x.key.off _)) ?_; rintro v11 M11 _ ⟨hM11, R11, rfl, hF11, rfl⟩
    refine wAo (((hM7.trans hM17)).trans hM11) (by simp) ?_
    simp only [nA]
    refine wBd [3] (by kernel_rfl) rfl ⟨?_, trivial⟩
    ·refine wCk rfl rfl rfl (wAm (cs := [_]) rfl rfl rfl (by rfl) (by rfl) (by rfl)) ?_; rintro _ _ _ ⟨b21, rfl, rfl, rfl⟩
     refine wAo ((hM7.trans (hM17.trans hM11))) (by simp) ?_
     refine wBo b21 (by simp) (by simp) ?_
     intro M3 hM3 e3
     have hF3 := wLn hk e3
     refine wBx (listed' := #[true, true, true, true, true, true, true, true, true, true, true, true, true, true, true, true, true, true, true, true, false, false, false, false]) (by kernel_rfl) (wBw (.cons (t := 21) rfl (.cons (t := 25) rfl (.cons (t := 29) rfl (.cons (t := 30) rfl (.cons (t := 35) rfl (.cons (t := 37) rfl .nil)))))) ?_)
     exact rest (_, _, _, _, _) ⟨(hM7.trans (hM17.trans (hM11.trans hM3))), hF3.mono (MLe.refl _), hF7.mono ((hM17.trans (hM11.trans hM3))), hF11.mono (hM3), hF17.mono ((hM11.trans hM3))⟩
 ·refine wCk rfl rfl rfl (wAm (cs := [_]) rfl rfl rfl (by rfl) (by rfl) (by rfl)) ?_; rintro _ _ _ ⟨b35, rfl, rfl, rfl⟩
  refine wAo (MLe.refl _) (by simp) ?_
  refine wBo b35 (by simp) (by simp) ?_
  intro M17 hM17 e17
  have hF17 : BS M17 (.slice (some ⟨b35, 0, none⟩) 1 1) [bU x.val.length] := ⟨_, 1, rfl, Nat.le_refl _, SM.of_block (l := wAk [bU x.val.length]) e17⟩
  refine wBd [3, 7] (by kernel_rfl) rfl ⟨?_, ?_, trivial⟩
  ·refine wCk rfl rfl rfl (wAm (cs := [_]) rfl rfl rfl (by rfl) (by rfl) (by rfl)) ?_; rintro _ _ _ ⟨b21, rfl, rfl, rfl⟩
   refine wAo (hM17) (by simp) ?_
   refine wBo b21 (by simp) (by simp) ?_
   intro M3 hM3 e3
   have hF3 := wLn hk e3
   refine wBd [7] (by kernel_rfl) rfl ⟨?_, trivial⟩
   ·refine wCk rfl rfl rfl (wAn rfl rfl rfl rfl rfl (by kernel_rfl) (wBp x.key.id _)) ?_; rintro v7 M7 _ ⟨hM7, R7, rfl, hF7, rfl⟩
    refine wAo (((hM17.trans hM3)).trans hM7) (by simp) ?_
    simp only [nA]
    refine wBd [11] (by kernel_rfl) rfl ⟨?_, trivial⟩
    ·refine wCk rfl rfl rfl (wAn rfl rfl rfl rfl rfl (by kernel_rfl) (wBp x.key.off _)) ?_; rintro v11 M11 _ ⟨hM11, R11, rfl, hF11, rfl⟩
     refine wAo (((hM17.trans (hM3.trans hM7))).trans hM11) (by simp) ?_
     simp only [nA]
     refine wBx (listed' := #[true, true, true, true, true, true, true, true, true, true, true, true, true, true, true, true, true, true, true, true, false, false, false, false]) (by kernel_rfl) (wBw (.cons (t := 21) rfl (.cons (t := 25) rfl (.cons (t := 29) rfl (.cons (t := 30) rfl (.cons (t := 35) rfl (.cons (t := 37) rfl .nil)))))) ?_)
     exact rest (_, _, _, _, _) ⟨(hM17.trans (hM3.trans (hM7.trans hM11))), hF3.mono ((hM7.trans hM11)), hF7.mono (hM11), hF11.mono (MLe.refl _), hF17.mono ((hM3.trans (hM7.trans hM11)))⟩
  ·refine wCk rfl rfl rfl (wAn rfl rfl rfl rfl rfl (by kernel_rfl) (wBp x.key.id _)) ?_; rintro v7 M7 _ ⟨hM7, R7, rfl, hF7, rfl⟩
   refine wAo ((hM17).trans hM7) (by simp) ?_
   simp only [nA]
   refine wBd [3, 11] (by kernel_rfl) rfl ⟨?_, ?_, trivial⟩
   ·refine wCk rfl rfl rfl (wAm (cs := [_]) rfl rfl rfl (by rfl) (by rfl) (by rfl)) ?_; rintro _ _ _ ⟨b21, rfl, rfl, rfl⟩
    refine wAo ((hM17.trans hM7)) (by simp) ?_
    refine wBo b21 (by simp) (by simp) ?_
    intro M3 hM3 e3
    have hF3 := wLn hk e3
    refine wBd [11] (by kernel_rfl) rfl ⟨?_, trivial⟩
    ·refine wCk rfl rfl rfl (wAn rfl rfl rfl rfl rfl (by kernel_rfl) (wBp x.key.off _)) ?_; rintro v11 M11 _ ⟨hM11, R11, rfl, hF11, rfl⟩
     refine wAo (((hM17.trans (hM7.trans hM3))).trans hM11) (by simp) ?_
     simp only [nA]
     refine wBx (listed' := #[true, true, true, true, true, true, true, true, true, true, true, true, true, true, true, true, true, true, true, true, false, false, false, false]) (by kernel_rfl) (wBw (.cons (t := 21) rfl (.cons (t := 25) rfl (.cons (t := 29) rfl (.cons (t := 30) rfl (.cons (t := 35) rfl (.cons (t := 37) rfl .nil)))))) ?_)
     exact rest (_, _, _, _, _) ⟨(hM17.trans (hM7.trans (hM3.trans hM11))), hF3.mono (hM11), hF7.mono ((hM3.trans hM11)), hF11.mono (MLe.refl _), hF17.mono ((hM7.trans (hM3.trans hM11)))⟩
   ·refine wCk rfl rfl rfl (wAn rfl rfl rfl rfl rfl (by kernel_rfl) (wBp x.key.off _)) ?_; rintro v11 M11 _ ⟨hM11, R11, rfl, hF11, rfl⟩
    refine wAo (((hM17.trans hM7)).trans hM11) (by simp) ?_
    simp only [nA]
    refine wBd [3] (by kernel_rfl) rfl ⟨?_, trivial⟩
    ·refine wCk rfl rfl rfl (wAm (cs := [_]) rfl rfl rfl (by rfl) (by rfl) (by rfl)) ?_; rintro _ _ _ ⟨b21, rfl, rfl, rfl⟩
     refine wAo ((hM17.trans (hM7.trans hM11))) (by simp) ?_
     refine wBo b21 (by simp) (by simp) ?_
     intro M3 hM3 e3
     have hF3 := wLn hk e3
     refine wBx (listed' := #[true, true, true, true, true, true, true, true, true, true, true, true, true, true, true, true, true, true, true, true, false, false, false, false]) (by kernel_rfl) (wBw (.cons (t := 21) rfl (.cons (t := 25) rfl (.cons (t := 29) rfl (.cons (t := 30) rfl (.cons (t := 35) rfl (.cons (t := 37) rfl .nil)))))) ?_)
     exact rest (_, _, _, _, _) ⟨(hM17.trans (hM7.trans (hM11.trans hM3))), hF3.mono (MLe.refl _), hF7.mono ((hM11.trans hM3)), hF11.mono (hM3), hF17.mono ((hM7.trans (hM11.trans hM3)))⟩
def wFu (lv : Int) (xs : List It) : List By := [78, bU lv, bU xs.length] ++ xs.flatMap itB
def ndB (lv : Int) (xs : List It) : List By := sealB (wFu lv xs)
theorem itB_len {x : It} (h : wFo x = false) : (itB x).length ≤ 24 := by
 unfold wFo at h
 have := of_decide_eq_false h
 simp [itB, wCr, wGu]; omega
theorem wKg : ∀ {xs : List It}, (∀ x ∈ xs, wFo x = false) → (xs.flatMap itB).length ≤ 24 * xs.length
 | [], _ => by simp
 | x :: xs, h => by
  have h1 := itB_len (h x (by simp))
  have h2 := wKg (fun y hy => h y (List.mem_cons_of_mem _ hy))
  rw [List.flatMap_cons, List.length_append, List.length_cons]; omega
theorem ndChk_ok {lv : Int} {xs : List It} (h : ¬ wFa lv xs ≠ 0) : wHx lv xs = true := by
 cases hn : wHx lv xs
 ·exact absurd (by unfold wFa; rw [hn]; decide) h
 ·rfl
theorem flat_step {xs : List It} {k : Nat} (h : k < xs.length) : (xs.take (k + 1)).flatMap itB = (xs.take k).flatMap itB ++ itB xs[k] := by
 rw [List.take_succ_eq_append_getElem h, List.flatMap_append]; simp
set_option maxHeartbeats 1000000 in
theorem nwrite_walk (lv : Int) (xs : List It) (a : Option Addr) (c : Nat) (ps : List (It × Value)) (M : Mem) (hc : xs.length ≤ c) (hs : SM M a (ps.flatMap wBc)) (hp : ps.map (·.1) = xs) (hb : ∀ p ∈ ps, BS M p.2 p.1.val) (hkd : ∀ x ∈ xs, 0 ≤ x.key.kind ∧ x.key.kind < 256) :
  SpecL Tryz.prog 139 #[.agg #[.int .i64 lv, .slice a xs.length c]] M [] fun u M' L' => (if wHx lv xs then ∃ s, u = .tuple #[s, .int .i64 0] ∧ BS M' s (ndB lv xs) else u = .tuple #[.slice none 0 0, .int .i64 8]) ∧ L' = [] := by
 have hns : NS M (.slice a xs.length c) xs := ⟨a, c, ps, rfl, hc, hs, hp, hb⟩
 refine wAf (vs := [_]) 43 _ Tryz.func139 rfl Tryz.ntmps139 rfl rfl ?_; intro W
 refine wAb (wAa (wAw rfl rfl (wCb (cs := [_, _]) rfl rfl rfl rfl) ?_)); rintro _ _ _ ⟨b1, rfl, rfl, rfl⟩
 refine jp rfl (jp rfl (wAc (jT (wAb (wAb (wAa (sLL rfl ?_)))))))
 refine wAi rfl rfl (wBf rfl rfl rfl rfl rfl (by kernel_rfl) (wHp lv xs _ M hns)) ?_
 refine jp rfl (wAc (jT (wAb (wAa (jp rfl (js rfl (fun h13 => ?_) (fun h13 => ?_)))))))
 ·refine wAc (jT (wAg rfl (wAb (wAa (jp rfl (jp rfl (jp rfl (wAc (jT (wAe (jTr (wAv (L' := []) (by simp) ?_))))))))))))
  refine jr2 rfl rfl rfl ?_
  have hno : wHx lv xs = false := by cases hn : wHx lv xs <;> simp_all [wFa]
  refine ⟨?_, rfl⟩
  rw [if_neg (by rw [hno]; decide)]
  unfold wFa; rw [hno]; rfl
 ·refine wAc (jT (wAj rfl (wAd (jT (wAb (wAa (sFL rfl rfl ?_)))))))
  have hok := ndChk_ok h13
  have hno := NdOk.of hok
  have hlv := hno.lev
  have hlen := hno.len
  have hbad := fun x hx => (wDb hno.ok x hx).1
  have hfl := wKg hbad
  refine wAi rfl rfl (qEq (wEf rfl rfl rfl) (by rw [u8_bU])) ?_
  refine sFL rfl rfl ?_
  refine wAi rfl rfl (wBq rfl rfl rfl) ?_
  refine wAi rfl rfl (qEq (wEf rfl rfl rfl) (by rw [u8_bU])) ?_
  refine wAw rfl rfl (wAm (cs := [_, _, _]) rfl rfl rfl (by rfl) (by rfl) (by rfl)) ?_; rintro _ _ _ ⟨b22, rfl, rfl, rfl⟩
  refine jp rfl (wAc (jT (wAb (wAb (wAa (sFL rfl rfl ?_))))))
  refine wAi rfl rfl (wBq rfl rfl rfl) ?_
  refine jp rfl (wAc (jT (wAh ?_)))
  refine wAr (α := Nat × Mem × Lc × Value) (fun x => [(1, .pointer (some ⟨b1, 0, none⟩)), (5, x.2.2.2), (24, .slice a xs.length c), (25, .int .i64 xs.length), (26, .int .i64 x.1)]) (fun x => x.2.1) (fun x => x.2.2.1 ++ [(b1, .cells [.int .i64 lv, .slice a xs.length c].toArray 132 (0, 0))]) (fun x => x.1 ≤ xs.length ∧ MLe M x.2.1 ∧ Own x.2.2.2 x.2.2.1 5 1 (3 + ((xs.take x.1).flatMap itB).length) (wAk ([78, bU lv, bU xs.length] : List By) ++ wAk ((xs.take x.1).flatMap itB)) ∧ ((xs.take x.1).flatMap itB).length ≤ 24 * x.1) (fun x => xs.length - x.1)
   (0, M, _, .slice (some ⟨b22, 0, none⟩) 3 3) (.cons (t := 1) rfl (.cons (t := 5) rfl (.cons (t := 24) rfl (.cons (t := 25) rfl (.cons (t := 26) rfl .nil))))) ⟨Nat.zero_le _, MLe.refl _, ⟨rfl, .inr ⟨b22, 3, _, rfl, rfl, Nat.le_refl _, by decide, rfl, rfl⟩⟩, Nat.zero_le _⟩ (fun _ h => h) ?_
  rintro ⟨k, Mk, R, s⟩ ⟨hk, hMk, hown, hfk⟩
  try dsimp only at hk hMk hown hfk ⊢
  refine wAb (wAa (js rfl (fun h27 => ?_) (fun h27 => ?_)))
  ·refine wAc (jT (wAb (wAg rfl (wAd (jT (wAb (wAh (wAb (wAa ?_)))))))))
   have hk1 : k < xs.length := by omega
   have hsk := hs.mono hMk
   have hbk := fun p hp => (hb p hp).mono hMk
   obtain ⟨sb, so, e0, hx⟩ := hsk.open (by intro e; have := congrArg List.length e; rw [wAy wBc 5 wBe, List.length_nil] at this; have h2 := congrArg List.length hp; rw [List.length_map] at h2; omega)
   subst e0
   obtain ⟨va, vc, hcl, hvc, hvs⟩ := wBr hx hp hbk hk1
   have hxb := hbad xs[k] (List.getElem_mem hk1)
   have hxl := itB_len hxb
   have hxk := hkd xs[k] (List.getElem_mem hk1)
   refine wAi rfl rfl (wBa rfl rfl rfl rfl (by omega)) ?_
   refine wAi rfl rfl (wEy (cs := itc xs[k] va vc) rfl rfl rfl rfl rfl (fun i v hv => (hcl i v hv).cj _)) ?_
   refine sAl rfl fun b7 => ?_
   refine sSt rfl ?_
   refine wAc (jT (wAb (wAa (sLL rfl ?_))))
   refine wAw rfl rfl (wAn rfl rfl rfl rfl rfl (by kernel_rfl) (iwrite_walk xs[k] va vc Mk hvc hvs hxb hxk)) ?_; rintro _ Mw _ ⟨hMw, _, rfl, ⟨⟨sw, rfl, wa, wc, rfl, hwc, hsw⟩, rfl⟩⟩
   simp only [nA]
   refine jp rfl (jp rfl (jp rfl (jp rfl (jp rfl (wAc (jT (wAa (jp rfl (jp rfl (wAw rfl rfl (wFv (R := R) (news := wAk (itB xs[k])) rfl rfl rfl rfl hown (by rw [wAu, Nat.mul_one]) hsw (by rfl) (wFi _) (by omega) (by omega)) ?_)))))))))); rintro s' _ _ ⟨rfl, R', rfl, hown'⟩
   obtain ⟨a2, c2, rfl⟩ := hown'.form
   refine jp rfl (wAc (jB (jT (wAa (ja rfl (by omega) ?_)))))
   refine jp rfl (wAc ?_)
   refine wAp (k + 1, Mw, R', .slice a2 _ c2) (.cons (t := 1) rfl (.cons (t := 5) rfl (.cons (t := 24) rfl (.cons (t := 25) rfl (.cons (t := 26) rfl .nil))))) ⟨by show k + 1 ≤ xs.length; omega, hMk.trans hMw, ?_, ?_⟩ (by show xs.length - (k + 1) < xs.length - k; omega) (fun _ h => h.fewer (by simp))
   ·show Own _ _ _ _ (3 + ((xs.take (k + 1)).flatMap itB).length) (_ ++ wAk ((xs.take (k + 1)).flatMap itB))
    rw [flat_step hk1, List.length_append, show wAk ((xs.take k).flatMap itB ++ itB xs[k]) = wAk ((xs.take k).flatMap itB) ++ wAk (itB xs[k]) by simp [wAk], ← List.append_assoc, ← Nat.add_assoc]; exact hown'
   ·show ((xs.take (k + 1)).flatMap itB).length ≤ 24 * (k + 1)
    rw [flat_step hk1, List.length_append]; omega
  ·refine wAc (jT (wAb (wAj rfl (wAs (jTx (jTx (jBx (jT (wAb (wAa (jp rfl ?_)))))))))))
   obtain rfl : k = xs.length := by omega
   rw [List.take_length] at hown hfk
   have hrlen : (wFu lv xs).length = 3 + (xs.flatMap itB).length := by unfold wFu; rw [List.length_append]; rfl
   have hrcells : wAk (wFu lv xs) = wAk ([78, bU lv, bU xs.length] : List By) ++ wAk (xs.flatMap itB) := by unfold wFu wAk; rw [List.map_append]
   have hrl : (wFu lv xs).length ≤ 124 := by omega
   refine wHv hown (by simp) ?_
   intro M8 a8 c8 hM8 e8 hc8 hs8; cases e8
   refine wAw rfl rfl (wAn rfl rfl rfl rfl rfl (by kernel_rfl) (by have h1 := seal_walk (wFu lv xs) a8 c8 M8 (by rw [hrlen]; exact hc8) (by rw [hrcells]; exact hs8) hrl; rw [hrlen] at h1; exact h1)) ?_; rintro _ M9 _ ⟨hM9, _, rfl, ⟨⟨s9, rfl, hs9⟩, rfl⟩⟩
   refine jp rfl (jp rfl (jp rfl (jp rfl (wAc (jT (wAe (wAv (L' := []) (by simp) ?_)))))))
   refine jr2 rfl rfl rfl ?_
   refine ⟨?_, rfl⟩
   rw [if_pos hok]
   exact ⟨_, rfl, hs9⟩
abbrev WT : TypeId := 87
def WOwn (M : Mem) (wv : Value) (Rw : Lc) (ws : List Wt) : Prop := ∃ ps : List (Wt × Value), ps.map (·.1) = ws ∧ (∀ p ∈ ps, BS M p.2 p.1.2) ∧
 (Own wv Rw WT 2 ws.length (ps.flatMap wCf) ∨ (Rw = [] ∧ (ps.flatMap wCf).length = ws.length * 2 ∧ ∃ ba, wv = .slice (some ba) ws.length ws.length ∧ (ps.flatMap wCf = [] ∨ ba.spot = none) ∧ ∀ i u, (ps.flatMap wCf)[i]? = some u → CM M ba.block (ba.off + i) u))
def BOwn (M : Mem) (bb : Nat) (Lb : Lc) (s : Sto) : Prop := ∃ bv wv na nc lv Rw Rn, Lb = (bb, .cells [bv, wv, .slice na s.now.length nc, lv].toArray TBn (0, 0)) :: (Rw ++ Rn) ∧ LS M bv s.blocks ∧ BS M lv s.last ∧ Own (.slice na s.now.length nc) Rn 5 1 s.now.length (wAk s.now) ∧ WOwn M wv Rw s.waits
theorem WOwn.mono {M M' : Mem} {wv : Value} {Rw : Lc} {ws : List Wt} (h : WOwn M wv Rw ws) (hM : MLe M M') : WOwn M' wv Rw ws := by
 obtain ⟨ps, h1, h2, h3⟩ := h
 refine ⟨ps, h1, fun p hp => (h2 p hp).mono hM, h3.imp id ?_⟩
 rintro ⟨a, b, ba, c, d, e⟩
 exact ⟨a, b, ba, c, d, fun i u hu => (e i u hu).mono hM⟩
theorem BOwn.mono {M M' : Mem} {bb : Nat} {Lb : Lc} {s : Sto} (h : BOwn M bb Lb s) (hM : MLe M M') : BOwn M' bb Lb s := by
 obtain ⟨bv, wv, na, nc, lv, Rw, Rn, h1, h2, h3, h4, h5⟩ := h
 exact ⟨bv, wv, na, nc, lv, Rw, Rn, h1, h2.mono hM, h3.mono hM, h4, h5.mono hM⟩
def wDy (s : Sto) (k : Nat) : Int := if s.now.getD k 0 = 0 then 6 else if s.now.getD k 0 = 255 then 70 else 0
def wGi (s : Sto) (k : Nat) : Sto := { s with now := s.now.set k (s.now.getD k 0 + 1) }
theorem inc_u8 {b : By} (h : b ≠ 255) : ((b + 1).toNat : Int) = (b.toNat : Int) + 1 ∧ (b.toNat : Int) + 1 < 256 := by
 have h1 := b.toNat_lt
 have h2 : b.toNat ≠ 255 := fun e => h (UInt8.toNat.inj e)
 rw [UInt8.toNat_add]
 have : (1 : By).toNat = 1 := rfl
 omega
theorem shareE_is {s : Sto} {k : Nat} (h : wDy s k = 0) : s.now.getD k 0 ≠ 0 ∧ s.now.getD k 0 ≠ 255 := by
 unfold wDy at h
 by_cases h1 : s.now.getD k 0 = 0
 ·rw [if_pos h1] at h; cases h
 ·by_cases h2 : s.now.getD k 0 = 255
  ·rw [if_neg h1, if_pos h2] at h; cases h
  ·exact ⟨h1, h2⟩
theorem nz_u8 {b : By} (h : b ≠ 0) : ¬ ((b.toNat : Int) = 0) := fun e => h (UInt8.toNat.inj (by simpa using e))
theorem n255_u8 {b : By} (h : b ≠ 255) : ¬ ((b.toNat : Int) = 255) := fun e => h (UInt8.toNat.inj (by have : (255 : By).toNat = 255 := rfl; omega))
theorem share_walk (s : Sto) (k bb : Nat) (hk : k < s.now.length) (he : wDy s k = 0) (bv wv lv : Value) (na : Option Addr) (nc : Nat) (Rw Rn : Lc) (M : Mem) (hnow : Own (.slice na s.now.length nc) Rn 5 1 s.now.length (wAk s.now)) :
  SpecL Tryz.prog 140 #[.pointer (some ⟨bb, 0, none⟩), .int .i64 k] M ((bb, .cells [bv, wv, .slice na s.now.length nc, lv].toArray TBn (0, 0)) :: (Rw ++ Rn)) fun u M' L' => u = .int .i64 0 ∧ M' = M ∧ ∃ Rn', L' = (bb, .cells [bv, wv, .slice na s.now.length nc, lv].toArray TBn (0, 0)) :: (Rw ++ Rn') ∧ Own (.slice na s.now.length nc) Rn' 5 1 s.now.length (wAk (wGi s k).now) := by
 have hgn : (wAk s.now)[k]? = some (.int .u8 ((s.now.getD k 0).toNat : Int)) := wHu hk
 obtain ⟨h0, h255⟩ := shareE_is he
 have hn0 := nz_u8 h0
 have hn255 := n255_u8 h255
 obtain ⟨hi1, hi2⟩ := inc_u8 h255
 obtain ⟨ng, ncap, ncur, e0, e1, _⟩ := hnow.open (by omega)
 cases e0; cases e1
 refine wAf (vs := [_, _]) 27 _ Tryz.func140 rfl Tryz.ntmps140 rfl rfl ?_; intro W
 refine wAb (wAa (jp rfl (wAc (jT (wAb (wAb (wAa (jp rfl (wAi rfl rfl (wAx rfl rfl rfl) ?_)))))))))
 refine sFa rfl ?_
 refine sFL rfl rfl ?_
 refine jp rfl (wAi rfl rfl (wBa rfl rfl rfl rfl (by omega)) ?_)
 refine wAi rfl rfl (qLd rfl rfl rfl rfl (by rw [Nat.mul_one, Nat.zero_add]; exact hnow.cj (by simp) hgn)) ?_
 refine wAc (jT (wAh (wAb (wAa (jf rfl (decide_eq_false (by omega)) ?_)))))
 refine jp rfl (wAc (jT (wAj rfl (wAb (wAa (jf rfl (decide_eq_false (by omega)) ?_))))))
 refine jp rfl (wAc (jT (wAj rfl (wAd (jB (jT (wAb (wAa (jp rfl (wAi rfl rfl (wAx rfl rfl rfl) ?_))))))))))
 refine sFa rfl ?_
 refine sFL rfl rfl ?_
 refine jp rfl (wAi rfl rfl (wBa rfl rfl rfl rfl (by omega)) ?_)
 refine wAi rfl rfl (qLd rfl rfl rfl rfl (by rw [Nat.mul_one, Nat.zero_add]; exact hnow.cj (by simp) hgn)) ?_
 refine wAi rfl rfl (qAk rfl rfl rfl rfl rfl (by rw [IntKind.wrap_u8]; omega)) ?_
 refine wAi rfl rfl (wBa rfl rfl rfl rfl (by omega)) ?_
 refine jl_s rfl (wGf rfl rfl rfl rfl rfl rfl hnow rfl (by omega)) ?_; rintro _ _ _ ⟨rfl, Rn', rfl, hnow'⟩
 refine wAc (jT (wAb (wAa (jp rfl (wAc (jT (wAe (wDh (L' := (bb, .cells [bv, wv, .slice (some ⟨ng, 0, none⟩) s.now.length nc, lv].toArray TBn (0, 0)) :: (Rw ++ Rn')) (fun w h => h.perm ?_) ?_))))))))
 ·simpa using (List.perm_append_comm (l₁ := Rn') (l₂ := (bb, _) :: Rw))
 refine jr1 rfl rfl ?_
 refine ⟨rfl, rfl, Rn', rfl, ?_⟩
 have e : wAk (wGi s k).now = (wAk s.now).set k (.int .u8 (((s.now.getD k 0).toNat : Int) + 1)) := by unfold wGi wAk; rw [List.map_set, hi1]
 rw [e]; have := hnow'; rw [Nat.mul_one, Nat.zero_add] at this; exact this
theorem shareS_len (s : Sto) (k : Nat) : (wGi s k).now.length = s.now.length := by unfold wGi; simp
theorem share_spec (s : Sto) (k bb : Nat) (hk : k < s.now.length) (he : wDy s k = 0) (M : Mem) (Lb : Lc) (h : BOwn M bb Lb s) : SpecL Tryz.prog 140 #[.pointer (some ⟨bb, 0, none⟩), .int .i64 k] M Lb fun u M' L' => u = .int .i64 0 ∧ BOwn M' bb L' (wGi s k) := by
 obtain ⟨bv, wv, na, nc, lv, Rw, Rn, rfl, h2, h3, h4, h5⟩ := h
 refine (share_walk s k bb hk he bv wv lv na nc Rw Rn M h4).mono fun u M' L' ⟨e1, e2, Rn', e3, e4⟩ => ?_
 subst e2
 have hl := shareS_len s k
 exact ⟨e1, bv, wv, na, nc, lv, Rw, Rn', by rw [hl]; exact e3, h2, h3, by rw [hl]; exact e4, h5⟩
def freeB (s : Sto) (k : Nat) : Prop := s.now.getD k 0 = 0 ∧ s.last.getD k 0 = 0
instance (s : Sto) (k : Nat) : Decidable (freeB s k) := by unfold freeB; exact inferInstance
def frAt (s : Sto) : Nat → Nat → Nat
 | 0, k => k
 | f + 1, k => if freeB s k then k else frAt s f (k + 1)
def wGh (s : Sto) : Nat := frAt s 248 8
def wBb (s : Sto) (xs : List It) : Sto := xs.foldl (fun t x => if x.ref = 0 then t else wGi t x.ref.toNat) s
def shOk (s : Sto) (xs : List It) : Prop := ∀ k (h : k < xs.length), xs[k].ref ≠ 0 → wDy (wBb s (xs.take k)) xs[k].ref.toNat = 0
def addS (s : Sto) (k : Nat) (b : List By) : Sto := { s with waits := s.waits ++ [((k : Int), b)], now := s.now.set k 1 }
def mkS (s : Sto) (lv : Int) (xs : List It) : Sto := addS (wBb s xs) (wGh (wBb s xs)) (ndB lv xs)
theorem wFy {s : Sto} {xs : List It} {k : Nat} (h : k < xs.length) : wBb s (xs.take (k + 1)) = if xs[k].ref = 0 then wBb s (xs.take k) else wGi (wBb s (xs.take k)) xs[k].ref.toNat := by
 rw [List.take_succ_eq_append_getElem h]; unfold wBb; rw [List.foldl_append]; rfl
theorem wEh (s : Sto) (xs : List It) : (wBb s xs).now.length = s.now.length ∧ (wBb s xs).waits = s.waits ∧ (wBb s xs).last = s.last ∧ (wBb s xs).blocks = s.blocks := by
 unfold wBb
 induction xs generalizing s with
 | nil => exact ⟨rfl, rfl, rfl, rfl⟩
 | cons x xs ih =>
  rw [List.foldl_cons]
  obtain ⟨h1, h2, h3, h4⟩ := ih (if x.ref = 0 then s else wGi s x.ref.toNat)
  rw [h1, h2, h3, h4]
  split
  ·exact ⟨rfl, rfl, rfl, rfl⟩
  ·exact ⟨shareS_len _ _, rfl, rfl, rfl⟩
theorem bor_u8 (a b : By) : bOr .u8 (a.toNat : Int) (b.toNat : Int) = ((a ||| b).toNat : Int) := by
 have ha := a.toNat_lt
 have hb := b.toNat_lt
 have hab := (a ||| b).toNat_lt
 unfold bOr
 rw [IntKind.wrap_u8]
 have e : (BitVec.ofInt IntKind.u8.bits (a.toNat : Int) ||| BitVec.ofInt IntKind.u8.bits (b.toNat : Int)).toNat = (a ||| b).toNat := by
  rw [BitVec.toNat_or, UInt8.toNat_or, BitVec.ofInt_natCast, BitVec.ofInt_natCast, BitVec.toNat_ofNat, BitVec.toNat_ofNat]
  rw [Nat.mod_eq_of_lt (by simpa [IntKind.bits] using ha), Nat.mod_eq_of_lt (by simpa [IntKind.bits] using hb)]
 rw [e]
 omega
theorem or_zero (a b : By) : (a ||| b) = 0 ↔ a = 0 ∧ b = 0 := by
 constructor
 ·intro h
  have := congrArg UInt8.toBitVec h
  rw [UInt8.toBitVec_or] at this
  have h2 := BitVec.or_eq_zero_iff.1 this
  exact ⟨UInt8.toBitVec_inj.1 h2.1, UInt8.toBitVec_inj.1 h2.2⟩
 ·rintro ⟨rfl, rfl⟩; rfl
theorem perm3 {A B C : Lc} : (A ++ (B ++ C)).Perm (C ++ (B ++ A)) := by
 refine List.perm_append_comm.trans ?_
 rw [← List.append_assoc C B A]
 exact (List.perm_append_comm (l₁ := B) (l₂ := C)).append_right A
theorem WOwn.form {M : Mem} {wv : Value} {Rw : Lc} {ws : List Wt} (h : WOwn M wv Rw ws) : ∃ wa wc, wv = .slice wa ws.length wc := by
 obtain ⟨ps, h1, h2, h3 | ⟨_, _, ba, rfl, _⟩⟩ := h
 ·obtain ⟨a, c, e⟩ := h3.form; exact ⟨a, c, e⟩
 ·exact ⟨_, _, rfl⟩
theorem frAt_on {s : Sto} {k : Nat} (hk : k < 256) (h : ¬ freeB s k) : frAt s (256 - k) k = frAt s (256 - (k + 1)) (k + 1) := by
 rw [show 256 - k = (256 - (k + 1)) + 1 by omega, frAt, if_neg h]
theorem frAt_is {s : Sto} {k : Nat} (hk : k < 256) (h : freeB s k) : frAt s (256 - k) k = k := by
 rw [show 256 - k = (256 - (k + 1)) + 1 by omega, frAt, if_pos h]
set_option maxHeartbeats 4000000 in
theorem bmake_walk (s : Sto) (lv : Int) (xs : List It) (a : Option Addr) (c : Nat) (ps : List (It × Value)) (M : Mem) (hc : xs.length ≤ c) (hs : SM M a (ps.flatMap wBc)) (hp : ps.map (·.1) = xs) (hb : ∀ p ∈ ps, BS M p.2 p.1.val) (hkd : ∀ x ∈ xs, 0 ≤ x.key.kind ∧ x.key.kind < 256) (bb : Nat) (Lb : Lc) (hB0 : BOwn M bb Lb s) (hok : wHx lv xs = true) (hn256 : s.now.length = 256) (hl256 : s.last.length = 256) (hsh : shOk s xs) (hat : wGh (wBb s xs) < 256) (hwl : s.waits.length < 4096) :
  SpecL Tryz.prog 103 #[.pointer (some ⟨bb, 0, none⟩), .agg #[.int .i64 lv, .slice a xs.length c]] M Lb fun u M' L' => u = .tuple #[.int .i64 (wGh (wBb s xs)), .int .i64 0] ∧ BOwn M' bb L' (mkS s lv xs) := by
 have hns : NS M (.slice a xs.length c) xs := ⟨a, c, ps, rfl, hc, hs, hp, hb⟩
 have hno := NdOk.of hok
 have hlen := hno.len
 have hbl : (ndB lv xs).length = 128 := by
  refine wJg ?_
  have := wKg (fun x hx => (wDb hno.ok x hx).1)
  unfold wFu; rw [List.length_append]; show 3 + _ ≤ 124; omega
 refine wAf (vs := [_, _]) 96 _ Tryz.func103 rfl Tryz.ntmps103 rfl rfl ?_; intro W
 refine wAb (wAa (wAw rfl rfl (wCb (cs := [_, _]) rfl rfl rfl rfl) ?_)); rintro _ _ _ ⟨b3, rfl, rfl, rfl⟩
 refine jp rfl (jp rfl (wAc (jT (wAb (wAa (sLL rfl ?_))))))
 refine wAw rfl rfl (wAn rfl rfl rfl rfl rfl (by kernel_rfl) (nwrite_walk lv xs a c ps M hc hs hp hb hkd)) ?_; rintro _ M1 _ ⟨hM1, _, rfl, ⟨hnw, rfl⟩⟩
 rw [if_pos hok] at hnw
 obtain ⟨s6, rfl, hs6⟩ := hnw
 obtain ⟨sa6, sc6, rfl, hsc6, hss6⟩ := id hs6
 simp only [nA]
 refine jp rfl (jp rfl (jp rfl (jp rfl (jp rfl (wAc (jT (wAb (wAb (wAa (jp rfl (jf rfl (decide_eq_false (by omega)) ?_)))))))))))
 refine wAc (jT (wAj rfl (wAd (jT (wAb (wAb (wAa (sFL rfl rfl ?_))))))))
 refine wAi rfl rfl (wBq rfl rfl rfl) ?_
 refine jp rfl (wAc (jT (wAh ?_)))
 refine wAr (α := Nat × Mem × Lc) (fun x => [(0, .pointer (some ⟨bb, 0, none⟩)), (3, .pointer (some ⟨b3, 0, none⟩)), (6, .slice sa6 (ndB lv xs).length sc6), (19, .slice a xs.length c), (20, .int .i64 xs.length), (21, .int .i64 x.1)]) (fun x => x.2.1) (fun x => (b3, .cells [.int .i64 lv, .slice a xs.length c].toArray 132 (0, 0)) :: x.2.2) (fun x => x.1 ≤ xs.length ∧ MLe M1 x.2.1 ∧ BOwn x.2.1 bb x.2.2 (wBb s (xs.take x.1))) (fun x => xs.length - x.1)
  (0, M1, Lb) (.cons (t := 0) rfl (.cons (t := 3) rfl (.cons (t := 6) rfl (.cons (t := 19) rfl (.cons (t := 20) rfl (.cons (t := 21) rfl .nil)))))) ⟨Nat.zero_le _, MLe.refl _, hB0.mono hM1⟩ (fun _ h => h) ?_
 rintro ⟨k, Mk, Lk⟩ ⟨hk, hMk, hB⟩
 try dsimp only at hk hMk hB ⊢
 refine wAb (wAa (js rfl (fun h22 => ?_) (fun h22 => ?_)))
 ·refine wAc (jT (wAb (wAg rfl (wAd (jT (wAb (wAh (wAb (wAa ?_)))))))))
  have hk1 : k < xs.length := by omega
  have hsk := hs.mono (hM1.trans hMk)
  have hbk := fun p hp => (hb p hp).mono (hM1.trans hMk)
  obtain ⟨sb, so, e0, hx⟩ := hsk.open (by intro e; have := congrArg List.length e; rw [wAy wBc 5 wBe, List.length_nil] at this; have h2 := congrArg List.length hp; rw [List.length_map] at h2; omega)
  subst e0
  obtain ⟨va, vc, hcl, hvc, hvs⟩ := wBr hx hp hbk hk1
  have hxr := hno.ref xs[k] (List.getElem_mem hk1)
  have hnl := (wEh s (xs.take k)).1
  refine wAi rfl rfl (wBa rfl rfl rfl rfl (by omega)) ?_
  refine wAi rfl rfl (wEy (cs := itc xs[k] va vc) rfl rfl rfl rfl rfl (fun i v hv => (hcl i v hv).cj _)) ?_
  refine sAl rfl fun b8 => ?_
  refine sSt rfl ?_
  refine wAc (jT (wAb (wAb (wAa (sFL rfl rfl ?_)))))
  refine js rfl (fun h27 => ?_) (fun h27 => ?_)
  ·refine wAc (jT (wAg rfl (wAs (jTx (jBx (jT (wAa (ja rfl (by omega) ?_))))))))
   refine jp rfl (wAc ?_)
   refine wAp (k + 1, Mk, Lk) (.cons (t := 0) rfl (.cons (t := 3) rfl (.cons (t := 6) rfl (.cons (t := 19) rfl (.cons (t := 20) rfl (.cons (t := 21) rfl .nil)))))) ⟨by show k + 1 ≤ xs.length; omega, hMk, by show BOwn _ _ _ (wBb s (xs.take (k + 1))); rw [wFy hk1, if_pos h27]; exact hB⟩ (by show xs.length - (k + 1) < xs.length - k; omega) (fun _ h => h.fewer (by simp))
  ·refine wAc (jT (wAj rfl (wAd (jT (wAb (wAa (jp rfl (sFL rfl rfl ?_))))))))
   have hkr : ((xs[k].ref.toNat : Nat) : Int) = xs[k].ref := Int.toNat_of_nonneg (by omega)
   refine wAw rfl rfl (wAn rfl rfl rfl rfl rfl (by kernel_rfl) (by have := share_spec (wBb s (xs.take k)) xs[k].ref.toNat bb (by omega) (hsh k hk1 h27) Mk Lk hB; rwa [hkr] at this)) ?_; rintro _ Mn _ ⟨hMn, R', rfl, ⟨rfl, hB2⟩⟩
   refine jp rfl (wAc (jT (wAb (wAa (jp rfl (jf rfl (decide_eq_false (by omega)) ?_))))))
   refine wAc (jT (wAj rfl (wAd (jB (jT (wAa (ja rfl (by omega) ?_)))))))
   refine jp rfl (wAc ?_)
   refine wAp (k + 1, Mn, R') (.cons (t := 0) rfl (.cons (t := 3) rfl (.cons (t := 6) rfl (.cons (t := 19) rfl (.cons (t := 20) rfl (.cons (t := 21) rfl .nil)))))) ⟨by show k + 1 ≤ xs.length; omega, hMk.trans hMn, by show BOwn _ _ _ (wBb s (xs.take (k + 1))); rw [wFy hk1, if_neg h27]; exact hB2⟩ (by show xs.length - (k + 1) < xs.length - k; omega) (fun w h => (h.perm List.perm_append_comm).fewer (by simp))
 ·refine wAc (jT (wAb (wAj rfl (wAs (jTx (jTx (jBx (jT (wAb (wAa (jp rfl (wAc (jT (wAb (wAh ?_)))))))))))))))
  obtain rfl : k = xs.length := by omega
  rw [List.take_length] at hB
  obtain ⟨t, ht⟩ : ∃ t, t = wBb s xs := ⟨_, rfl⟩
  obtain ⟨hq1, hq2, hq3, hq4⟩ := wEh s xs
  rw [← ht] at hB hat hq1 hq2 hq3 hq4
  obtain ⟨bv, wv, na, nc, lw, Rw, Rn, rfl, g2, g3, g4, g5⟩ := hB
  obtain ⟨wa, wc, rfl⟩ := g5.form
  have htn : t.now.length = 256 := by rw [hq1]; exact hn256
  have htl : t.last.length = 256 := by rw [hq3]; exact hl256
  have htw : t.waits.length < 4096 := by rw [hq2]; exact hwl
  obtain ⟨ng, ncap, ncur, e0, e1, _⟩ := g4.open (by omega)
  cases e0; cases e1
  obtain ⟨la, lc, rfl, hlc, hls⟩ := id g3
  obtain ⟨lb, lo, e0, hlx⟩ := hls.open (by intro e; have := congrArg List.length e; rw [wAu, List.length_nil] at this; omega)
  subst e0
  refine wAr (α := Nat) (fun j => [(0, .pointer (some ⟨bb, 0, none⟩)), (4, .int .i64 (j : Int)), (6, .slice sa6 (ndB lv xs).length sc6)]) (fun _ => Mk) (fun _ => (b3, .cells [.int .i64 lv, .slice a xs.length c].toArray 132 (0, 0)) :: (bb, .cells [bv, .slice wa t.waits.length wc, .slice (some ⟨ng, 0, none⟩) t.now.length nc, .slice (some ⟨lb, lo, none⟩) t.last.length lc].toArray TBn (0, 0)) :: (Rw ++ [(ng, .cells ncur 5 (0, 0))])) (fun j => j ≤ 256 ∧ frAt t (256 - j) j = wGh t) (fun j => 256 - j)
   8 (.cons (t := 0) rfl (.cons (t := 4) rfl (.cons (t := 6) rfl .nil))) ⟨by omega, rfl⟩ (fun _ h => h) ?_
  rintro j ⟨hj, hI⟩
  try dsimp only at hj hI ⊢
  have hor : bOr .u8 ((t.now.getD j 0).toNat : Int) ((t.last.getD j 0).toNat : Int) = ((t.now.getD j 0 ||| t.last.getD j 0).toNat : Int) := bor_u8 _ _
  refine wAb (wAb (wBn [(0, true), (1, true), (2, true), (3, true), (4, true), (5, true), (6, true), (7, true), (8, true), (9, true), (10, true), (11, true), (12, true), (13, true), (14, true), (15, true), (16, true), (17, true), (18, true), (19, true), (20, true), (21, true)] _ (by kernel_rfl) (by kernel_rfl) (by kernel_rfl) rfl (fun _ h => h) ?_))
  refine dp rfl rfl ?_
  refine ds rfl rfl (fun h37 => ?_) (fun h37 => ?_)
  ·iterate 2 refine dp rfl rfl ?_
   refine wBi rfl rfl rfl (wAx rfl rfl rfl) ?_
   refine dFa rfl rfl ?_
   refine dFa rfl rfl ?_
   refine dLd rfl rfl ?_
   refine dp rfl rfl ?_
   refine wBi rfl rfl rfl (wBa rfl rfl rfl rfl (by omega)) ?_
   have hjn : (wAk t.now)[j]? = some (.int .u8 ((t.now.getD j 0).toNat : Int)) := wHu (by omega)
   have hjl : (wAk t.last)[j]? = some (.int .u8 ((t.last.getD j 0).toNat : Int)) := wHu (by omega)
   refine wBi rfl rfl rfl (qLd rfl rfl rfl rfl (by rw [Nat.mul_one, Nat.zero_add]; exact g4.cj (by simp) hjn)) ?_
   refine dp rfl rfl ?_
   refine wBi rfl rfl rfl (wAx rfl rfl rfl) ?_
   refine dFa rfl rfl ?_
   refine dFa rfl rfl ?_
   refine dLd rfl rfl ?_
   refine dp rfl rfl ?_
   refine wBi rfl rfl rfl (wBa rfl rfl rfl rfl (by omega)) ?_
   refine wBi rfl rfl rfl (qLd rfl rfl rfl rfl ((hlx _ _ (by rw [Nat.mul_one]; exact hjl)).cj _)) ?_
   refine wBi rfl rfl rfl (qBits rfl rfl rfl rfl rfl) ?_
   refine ds rfl rfl (fun h56 => ?_) (fun h56 => ?_)
   ·refine dp rfl rfl ?_
    refine wBg (jPn (jT (wAg rfl (wAd (jT (wAh (wAa (jp rfl (ja rfl (by omega) ?_)))))))))
    refine jp rfl (wAc (jB ?_))
    have hnf : ¬ freeB t j := fun hf => h56 (by rw [hor, (or_zero _ _).2 hf]; rfl)
    refine wAp (j + 1) (.cons (t := 0) rfl (.cons (t := 4) rfl (.cons (t := 6) rfl .nil))) ⟨by omega, by rw [← frAt_on (by omega) hnf]; exact hI⟩ (by omega) (fun _ h => h)
   ·refine dp rfl rfl ?_
    refine wBg (jPn (jT (wAj rfl (wAs (jTx (jTx (jBx (jT (wAb (wAb (wAa (jp rfl (jf rfl (decide_eq_false (by omega)) ?_)))))))))))))
    refine jp rfl (jp rfl (wAi rfl rfl (wAx rfl rfl rfl) ?_))
    refine sFF rfl rfl ?_
    refine sFL rfl rfl ?_
    refine wAi rfl rfl (wBq rfl rfl rfl) ?_
    refine jf rfl (decide_eq_false (by omega)) ?_
    refine jp rfl (wAc (jT (wAj rfl (wAd (jT (wAb (wAa (jp rfl (jp rfl (wAi rfl rfl (wAx rfl rfl rfl) ?_))))))))))
    refine sFF rfl rfl ?_
    refine sFL rfl rfl ?_
    refine jp rfl (jp rfl (wAi rfl rfl (wAq (cs := [_, _]) rfl rfl rfl (by rfl)) ?_))
    refine wAw rfl rfl (wAm (cs := [_, _]) rfl rfl rfl (by rfl) (by rfl) (by rfl)) ?_; rintro _ _ _ ⟨b82, rfl, rfl, rfl⟩
    obtain ⟨wps, hw1, hw2, hw3⟩ := id g5
    have hfr : freeB t j := (or_zero _ _).1 (UInt8.toNat.inj (by have := Classical.not_not.1 h56; rw [hor] at this; simpa using this))
    have hje : wGh t = j := by rw [← hI, frAt_is (by omega) hfr]
    refine wAw rfl rfl (hAppendE (R := Rw) (m := 1) (news := [.int .i64 (j : Int), .slice sa6 (ndB lv xs).length sc6]) rfl rfl rfl rfl hw3 rfl (fun i v hv => CJ.loc (by simpa using hv)) rfl (by rfl) (by simp [Value.oneCell']) (by omega) (by omega) (by omega)) ?_; rintro _ _ _ ⟨rfl, Rw', rfl, hown'⟩
    obtain ⟨wa2, wc2, rfl⟩ := hown'.form
    refine wAi rfl rfl (wAx rfl rfl rfl) ?_
    refine sFF rfl rfl ?_
    refine sFa rfl ?_
    refine sSt rfl ?_
    refine wAc (jT (wAb (wAa (jp rfl (wAi rfl rfl (wAx rfl rfl rfl) ?_)))))
    refine sFa rfl ?_
    refine sFL rfl rfl ?_
    refine jp rfl (wAi rfl rfl (wBa rfl rfl rfl rfl (by omega)) ?_)
    refine jl_s rfl (wGf (u := .int .u8 1) rfl rfl rfl rfl rfl rfl g4 rfl (by omega)) ?_; rintro _ _ _ ⟨rfl, Rn', rfl, hnow'⟩
    refine wAc (jT (wAb (wAa (jp rfl (jp rfl (jp rfl (wAc (jT (wAe (wDh (M' := Mk) (L' := (bb, .cells [bv, .slice wa2 (t.waits.length + 1) wc2, .slice (some ⟨ng, 0, none⟩) t.now.length nc, .slice (some ⟨lb, lo, none⟩) t.last.length lc].toArray TBn (0, 0)) :: (Rw' ++ Rn')) (fun w h => ?_) ?_))))))))))
    ·have h2 := h.perm perm3
     exact h2.fewer (.cons _ (.cons _ (.refl _)))
    refine jr2 rfl rfl rfl ?_
    have hT : mkS s lv xs = addS t j (ndB lv xs) := by unfold mkS; rw [← ht, hje]
    refine ⟨by rw [← ht, hje], ?_⟩
    rw [hT]
    have hnl : (addS t j (ndB lv xs)).now.length = t.now.length := by unfold addS; simp
    have hwn : (addS t j (ndB lv xs)).waits.length = t.waits.length + 1 := by unfold addS; simp
    refine ⟨bv, _, _, nc, _, Rw', Rn', by rw [hnl], g2, g3, ?_, wps ++ [(((j : Int), ndB lv xs), .slice sa6 (ndB lv xs).length sc6)], ?_, ?_, .inl ?_⟩
    ·rw [hnl]
     have e : wAk (addS t j (ndB lv xs)).now = (wAk t.now).set j (.int .u8 1) := by unfold addS wAk; rw [List.map_set]; rfl
     rw [e]; have := hnow'; rw [Nat.mul_one, Nat.zero_add] at this; exact this
    ·rw [List.map_append, hw1]; rfl
    ·intro p hp; rcases List.mem_append.1 hp with hp | hp
     ·exact hw2 p hp
     ·rw [List.mem_singleton.1 hp]; exact hs6.mono hMk
    ·rw [hwn, List.flatMap_append]; exact hown'
  ·exfalso; obtain rfl : j = 256 := by omega
   have : wGh t = 256 := hI.symm
   omega
abbrev THp : TypeId := 127
def wEd (pre : List By) (rem : Nat) : List Value := wAk pre ++ List.replicate rem (Value.int .u8 0)
theorem hcells_len (pre : List By) (rem : Nat) : (wEd pre rem).length = pre.length + rem := by simp [wEd, wAk]
theorem hcells_step {pre x : List By} {rem : Nat} (h : x.length ≤ rem) : (wEd pre rem).take pre.length ++ wAk x ++ (wEd pre rem).drop (pre.length + (wAk x).length) = wEd (pre ++ x) (rem - x.length) := by
 unfold wEd
 rw [List.take_left' (wAu pre), wAu, List.drop_append, wAu, List.drop_eq_nil_of_le (by rw [wAu]; omega), List.nil_append, Nat.add_sub_cancel_left, List.drop_replicate]
 simp [wAk]
def hv (hb done rem : Nat) : Value := .slice (some ⟨hb, if 0 < rem then done else 0, none⟩) rem rem
theorem clone_walk (b8 hb : Nat) (pre x : List By) (rem : Nat) (a : Option Addr) (c : Nat) (M : Mem) (hc : x.length ≤ c) (hs : SM M a (wAk x)) (h0 : 0 < x.length) (hr : x.length ≤ rem) (hn : rem ≤ 1000000000) :
  SpecL Tryz.prog 68 #[.pointer (some ⟨b8, 0, none⟩), .slice a x.length c] M [(b8, .cells [.slice (some ⟨hb, pre.length, none⟩) rem rem].toArray THp (0, 0)), (hb, .cells (wEd pre rem).toArray 5 (0, 0))] fun u M' L' => u = .slice (some ⟨hb, pre.length, none⟩) x.length x.length ∧ M = M' ∧ L' = [(b8, .cells [.slice (slA (some ⟨hb, pre.length, none⟩) x.length rem 1) (rem - x.length) (rem - x.length)].toArray THp (0, 0)), (hb, .cells (wEd (pre ++ x) (rem - x.length)).toArray 5 (0, 0))] := by
 refine wAf (vs := [_, _]) 26 _ Tryz.func68 rfl Tryz.ntmps68 rfl rfl ?_; intro W
 refine wAb (wAa (jp rfl (wAc (jT (wAb (wAa (jp rfl (wAi rfl rfl (wAx rfl rfl rfl) ?_))))))))
 refine sLd rfl ?_
 refine jp rfl ?_
 refine wAw rfl rfl (hCopy (cs := wAk x) rfl rfl rfl rfl (by rw [wAu]; omega) (hs.sj _) (wFi _) (by rw [wAu, hcells_len]; omega)) ?_; rintro _ _ _ ⟨rfl, rfl, rfl⟩
 rw [hcells_step hr, wAu]
 refine jp rfl (wAc (jT (wAb (wAa (jp rfl (wAi rfl rfl (wAx rfl rfl rfl) ?_))))))
 refine sLd rfl ?_
 refine jp rfl (jp rfl ?_)
 refine wAi rfl rfl (qEq (qSl rfl rfl rfl (.of (v := x.length) rfl (by omega) (by omega)) (.of (v := x.length) rfl (by omega) (by omega)) (.no _) (by omega) (by simp)) (v' := .slice (some ⟨hb, pre.length, none⟩) x.length x.length) (by rw [wDa]; rfl)) ?_
 refine jp rfl (wAc (jT (wAb (wAa (jp rfl (jp rfl (wAi rfl rfl (wAx rfl rfl rfl) ?_)))))))
 refine sLd rfl ?_
 refine jp rfl (wAi rfl rfl (qSl rfl rfl rfl (.no _) (.no _) (.of (v := x.length) rfl (by omega) (by omega)) (by omega) (by simp)) ?_)
 refine wAi rfl rfl (wAx rfl rfl rfl) ?_
 refine sSt rfl ?_
 refine wAc (jT (wAb (wAa (jp rfl (jp rfl (wAc (jT (wAe (jr1 rfl rfl ?_)))))))))
 exact ⟨rfl, rfl, rfl⟩
theorem flat128_len : ∀ {ds : List (List By)}, (∀ d ∈ ds, d.length = 128) → ds.flatten.length = 128 * ds.length
 | [], _ => rfl
 | d :: ds, h => by
  rw [List.flatten_cons, List.length_append, h d (by simp), flat128_len (fun x hx => h x (by simp [hx])), List.length_cons]; omega
theorem flat128_get : ∀ {ds : List (List By)} {j i : Nat}, (∀ d ∈ ds, d.length = 128) → i < 128 → ds.flatten[128 * j + i]? = (ds[j]?).bind (·[i]?)
 | [], j, i, _, _ => by simp
 | d :: ds, 0, i, h, hi => by
  rw [List.flatten_cons, List.getElem?_append_left (by rw [h d (by simp)]; omega)]; simp
 | d :: ds, j + 1, i, h, hi => by
  rw [List.flatten_cons, List.getElem?_append_right (by rw [h d (by simp)]; omega), h d (by simp), show 128 * (j + 1) + i - 128 = 128 * j + i by omega, flat128_get (fun x hx => h x (by simp [hx])) hi]; simp
theorem hcells_zero (n : Nat) : (List.replicate ((n : Nat) : Int).toNat [Value.int .u8 0]).flatten = wEd [] n := by simp [wEd, wAk]
def nilV : Value := .slice none 0 0
def cutV (hb j : Nat) : Value := .slice (some ⟨hb, 128 * j, none⟩) 128 128
def blC (hb n i : Nat) : List Value := (List.range i).map (cutV hb) ++ List.replicate (n - i) nilV
def wrC (hb n : Nat) (ws : List Wt) (i : Nat) : List Value := (List.range i).flatMap (fun j => [.int .i64 (ws.getD j (0, [])).1, cutV hb (n + j)]) ++ (List.replicate (ws.length + 1 - i) [.int .i64 0, nilV]).flatten
theorem wLt (hb n : Nat) : (List.replicate ((n : Nat) : Int).toNat [Value.slice none 0 0]).flatten = blC hb n 0 := by simp [blC, nilV]
theorem wLd (hb n : Nat) (ws : List Wt) (k : Int) (hk : k = ((ws.length + 1 : Nat) : Int)) : (List.replicate k.toNat [Value.int .i64 0, Value.slice none 0 0]).flatten = wrC hb n ws 0 := by rw [hk]; simp [wrC, nilV]
theorem blC_len {hb n i : Nat} (h : i ≤ n) : (blC hb n i).length = n := by simp [blC]; omega
theorem wrC_len {hb n i : Nat} {ws : List Wt} (h : i ≤ ws.length) : (wrC hb n ws i).length = 2 * (ws.length + 1) := by
 have e : ∀ k, ((List.range k).flatMap (fun j => [Value.int .i64 (ws.getD j (0, [])).1, cutV hb (n + j)])).length = 2 * k := fun k => by
  induction k with
  | zero => rfl
  | succ k ih => rw [List.range_succ, List.flatMap_append, List.length_append, ih]; simp; omega
 rw [wrC, List.length_append, e]; simp; omega
theorem blC_step {hb n i o : Nat} (h : i < n) (ho : o = i) : (blC hb n i).take o ++ [cutV hb i] ++ (blC hb n i).drop (o + [cutV hb i].length) = blC hb n (i + 1) := by
 subst ho
 have hr : ((List.range o).map (cutV hb)).length = o := by simp
 unfold blC
 rw [List.take_left' hr, List.drop_append, List.drop_eq_nil_of_le (by rw [hr]; simp), hr, List.nil_append, List.drop_replicate, List.range_succ, List.map_append]
 simp
 omega
theorem wrC_step {hb n i o : Nat} {ws : List Wt} (h : i < ws.length) (ho : o = i * 2) {cs : List Value} (hcs : cs = [.int .i64 (ws.getD i (0, [])).1, cutV hb (n + i)]) : (wrC hb n ws i).take o ++ cs ++ (wrC hb n ws i).drop (o + cs.length) = wrC hb n ws (i + 1) := by
 subst ho; subst hcs
 have hr : ((List.range i).flatMap (fun j => [Value.int .i64 (ws.getD j (0, [])).1, cutV hb (n + j)])).length = i * 2 := by
  induction i with
  | zero => rfl
  | succ k ih => rw [List.range_succ, List.flatMap_append, List.length_append, ih (by omega)]; simp; omega
 unfold wrC
 rw [List.take_left' hr, List.drop_append, List.drop_eq_nil_of_le (by rw [hr]; simp), hr, List.nil_append, List.range_succ, List.flatMap_append]
 rw [show ws.length + 1 - i = (ws.length + 1 - (i + 1)) + 1 by omega, List.replicate_succ, List.flatten_cons]
 simp
theorem range_getD (bs : List (List By)) : (List.range bs.length).map (fun j => bs.getD j []) = bs := by
 apply List.ext_getElem?
 intro i
 by_cases h : i < bs.length
 ·simp [List.getElem?_map, List.getElem?_range h, h]
 ·simp [h]
theorem range_getW (ws : List Wt) : (List.range ws.length).map (fun j => ws.getD j (0, [])) = ws := by
 apply List.ext_getElem?
 intro i
 by_cases h : i < ws.length
 ·simp [List.getElem?_map, List.getElem?_range h, h]
 ·simp [h]
theorem cut_bs {M : Mem} {hb j : Nat} {ds : List (List By)} (h : ∀ d ∈ ds, d.length = 128) (hm : M hb = some (.cells (wEd ds.flatten 0).toArray 5 (0, 0))) (hj : j < ds.length) : BS M (cutV hb j) ds[j] := by
 have hl := h ds[j] (List.getElem_mem hj)
 refine ⟨_, 128, by rw [hl]; rfl, by omega, .inr ⟨hb, 128 * j, rfl, fun i u hu => ⟨_, _, _, hm, ?_⟩⟩⟩
 have hi : i < 128 := by
  have := (List.getElem?_eq_some_iff.1 hu).1
  rw [wAu, hl] at this; exact this
 have h2 := flat128_get (j := j) h hi
 rw [List.getElem?_eq_getElem hj, Option.bind_some] at h2
 simp only [wEd, List.replicate_zero, List.append_nil, wAk, List.getElem?_toArray, List.getElem?_map] at hu ⊢
 rw [h2]; exact hu
set_option maxHeartbeats 4000000 in
theorem dtwin_own (bs : List (List By)) (ws : List Wt) (a1 : Option Addr) (c1 : Nat) (ps1 : List (List By × Value)) (a2 : Option Addr) (c2 : Nat) (ps2 : List (Wt × Value)) (M : Mem) (hc1 : bs.length ≤ c1) (hs1 : SM M a1 (ps1.map (·.2))) (hp1 : ps1.map (·.1) = bs) (hb1 : ∀ p ∈ ps1, BS M p.2 p.1) (hc2 : ws.length ≤ c2) (hs2 : SM M a2 (ps2.flatMap wCf)) (hp2 : ps2.map (·.1) = ws) (hb2 : ∀ p ∈ ps2, BS M p.2 p.1.2) (hdk : dkOk bs ws) :
  SpecL Tryz.prog 38 #[.agg #[.slice a1 bs.length c1, .slice a2 ws.length c2]] M [] fun u M' L' => ∃ bv' wv', u = .agg #[bv', wv'] ∧ LS M' bv' bs ∧ ∃ ps : List (Wt × Value), ps.map (·.1) = ws ∧ (∀ p ∈ ps, BS M' p.2 p.1.2) ∧ Own wv' L' WT 2 ws.length (ps.flatMap wCf) := by
 obtain ⟨hq1, hq2, hq3, hq4⟩ := id hdk
 have hds : ∀ d ∈ bs ++ ws.map (·.2), d.length = 128 := fun d hd => by
  rcases List.mem_append.1 hd with hd | hd
  ·exact hq3 d hd
  ·obtain ⟨w, hw, rfl⟩ := List.mem_map.1 hd; exact (hq4 w hw).2.2
 have hdl : (bs ++ ws.map (·.2)).length = bs.length + ws.length := by simp
 have hpl : ∀ i, i ≤ bs.length + ws.length → (((bs ++ ws.map (·.2)).take i).flatten).length = 128 * i := fun i hi => by rw [flat128_len (fun d hd => hds d (List.mem_of_mem_take hd)), List.length_take]; congr 1; omega
 refine wAf (vs := [_]) 89 _ Tryz.func38 rfl Tryz.ntmps38 rfl rfl ?_; intro W
 refine wAb (wAa (wAw rfl rfl (wCb (cs := [_, _]) rfl rfl rfl rfl) ?_)); rintro _ _ _ ⟨b1, rfl, rfl, rfl⟩
 refine sAl rfl fun b2 => ?_
 refine wAc (jT (wAb (wAa (jp rfl (wAc (jT (wAb (wAb (wAa (sFL rfl rfl ?_))))))))))
 refine wAi rfl rfl (wBq rfl rfl rfl) ?_
 refine jp rfl (wAc (jT (wAh ?_)))
 refine wAr (α := Nat) (fun k => [(1, .pointer (some ⟨b1, 0, none⟩)), (2, .pointer (some ⟨b2, 0, none⟩)), (3, .int .i64 ((128 * k : Nat) : Int)), (15, .slice a1 bs.length c1), (16, .int .i64 bs.length), (17, .int .i64 k)]) (fun _ => M) (fun _ => [(b2, .cells [.slice none 0 0, .slice none 0 0].toArray 25 (0, 0)), (b1, .cells [.slice a1 bs.length c1, .slice a2 ws.length c2].toArray 25 (0, 0))]) (fun k => k ≤ bs.length) (fun k => bs.length - k)
  0 (.cons (t := 1) rfl (.cons (t := 2) rfl (.cons (t := 3) rfl (.cons (t := 15) rfl (.cons (t := 16) rfl (.cons (t := 17) rfl .nil)))))) (Nat.zero_le _) (fun _ h => h) ?_
 rintro k hk
 try dsimp only at hk ⊢
 refine wAb (wAa (js rfl (fun h18 => ?_) (fun h18 => ?_)))
 ·refine wAc (jT (wAb (wAg rfl (wAd (jT (wAb (wAh (wAb (wAa ?_)))))))))
  have hk1 : k < bs.length := by omega
  obtain ⟨sb, so, e0, hx⟩ := hs1.open (by intro e; have := congrArg List.length e; rw [List.length_map, List.length_nil] at this; have h2 := congrArg List.length hp1; rw [List.length_map] at h2; omega)
  subst e0
  obtain ⟨va, vc, hcl, hvc, hvs⟩ := wCn hx hp1 hb1 hk1
  have hl1 := hq3 bs[k] (List.getElem_mem _)
  refine wAi rfl rfl (wBa rfl rfl rfl rfl (by omega)) ?_
  refine wAi rfl rfl (qLd rfl rfl rfl rfl (hcl.cj _)) ?_
  refine jp rfl (wAc (jT (wAa (jp rfl (jp rfl (wAi rfl rfl (wBq rfl rfl rfl) ?_))))))
  refine ja rfl (by omega) ?_
  refine jp rfl (wAc (jB (jT (wAa (ja rfl (by omega) ?_)))))
  refine jp rfl (wAc ?_)
  refine wAp (k + 1) (.cons (t := 1) rfl (.cons (t := 2) rfl (Keep.ceq (t := 3) rfl (by rw [hl1]; congr 1) (.cons (t := 15) rfl (.cons (t := 16) rfl (.cons (t := 17) rfl .nil)))))) (by show k + 1 ≤ bs.length; omega) (by show bs.length - (k + 1) < bs.length - k; omega) (fun _ h => h)
 ·refine wAc (jT (wAb (wAj rfl (wAs (jTx (jTx (jBx (jT (wAb (wAb (wAa (sFL rfl rfl ?_))))))))))))
  refine wAi rfl rfl (wBq rfl rfl rfl) ?_
  refine jp rfl (wAc (jT (wAh ?_)))
  obtain rfl : k = bs.length := by omega
  refine wAr (α := Nat) (fun k => [(1, .pointer (some ⟨b1, 0, none⟩)), (2, .pointer (some ⟨b2, 0, none⟩)), (3, .int .i64 ((128 * (bs.length + k) : Nat) : Int)), (27, .slice a2 ws.length c2), (28, .int .i64 ws.length), (29, .int .i64 k)]) (fun _ => M) (fun _ => [(b2, .cells [.slice none 0 0, .slice none 0 0].toArray 25 (0, 0)), (b1, .cells [.slice a1 bs.length c1, .slice a2 ws.length c2].toArray 25 (0, 0))]) (fun k => k ≤ ws.length) (fun k => ws.length - k)
   0 (.cons (t := 1) rfl (.cons (t := 2) rfl (.cons (t := 3) rfl (.cons (t := 27) rfl (.cons (t := 28) rfl (.cons (t := 29) rfl .nil)))))) (Nat.zero_le _) (fun _ h => h) ?_
  rintro k hk
  try dsimp only at hk ⊢
  refine wAb (wAa (js rfl (fun h30 => ?_) (fun h30 => ?_)))
  ·refine wAc (jT (wAb (wAg rfl (wAd (jT (wAb (wAh (wAb (wAa ?_)))))))))
   have hk1 : k < ws.length := by omega
   obtain ⟨sb, so, e0, hx⟩ := hs2.open (by intro e; have := congrArg List.length e; rw [wAy wCf 2 wCc, List.length_nil] at this; have h2 := congrArg List.length hp2; rw [List.length_map] at h2; omega)
   subst e0
   obtain ⟨va, vc, hcl, hvc, hvs⟩ := wDw hx hp2 hb2 hk1
   have hl1 := (hq4 ws[k] (List.getElem_mem _)).2.2
   refine wAi rfl rfl (wBa rfl rfl rfl rfl (by omega)) ?_
   refine wAi rfl rfl (wEy (cs := wtc ws[k] va vc) rfl rfl rfl rfl rfl (fun i v hv => (hcl i v hv).cj _)) ?_
   refine sAl rfl fun b7 => ?_
   refine sSt rfl ?_
   refine wAc (jT (wAa (jp rfl (sFL rfl rfl ?_))))
   refine wAi rfl rfl (wBq rfl rfl rfl) ?_
   refine ja rfl (by omega) ?_
   refine jp rfl (wAc (jB (jT (wAa (ja rfl (by omega) ?_)))))
   refine jp rfl (wAc ?_)
   refine wAp (k + 1) (.cons (t := 1) rfl (.cons (t := 2) rfl (Keep.ceq (t := 3) rfl (by rw [hl1]; congr 1) (.cons (t := 27) rfl (.cons (t := 28) rfl (.cons (t := 29) rfl .nil)))))) (by show k + 1 ≤ ws.length; omega) (by show ws.length - (k + 1) < ws.length - k; omega) (fun _ h => h.fewer (by simp))
  ·refine wAc (jT (wAb (wAj rfl (wAs (jTx (jTx (jBx (jT (wAb (wAa (jp rfl ?_)))))))))))
   obtain rfl : k = ws.length := by omega
   refine wAw rfl rfl (wKv rfl rfl rfl rfl (by omega) (by rfl)) ?_; rintro _ _ _ ⟨b40, rfl, rfl, rfl⟩
   rw [hcells_zero]
   refine sAl rfl fun b8 => ?_
   refine sSt rfl ?_
   refine wAc (jT (wAb (wGk ([(b1, .cells [.slice a1 bs.length c1, .slice a2 ws.length c2].toArray 25 (0, 0))]) (by kernel_rfl) (by simp) ?_)))
   refine wDu (i := 0) rfl (by kernel_rfl) (by kernel_rfl) rfl rfl (wBk rfl rfl rfl rfl rfl) ?_
   refine wDu (i := 1) rfl (by kernel_rfl) (by kernel_rfl) rfl rfl (qLd rfl rfl rfl rfl (CJ.loc rfl)) ?_
   refine wDu (i := 2) rfl (by kernel_rfl) (by kernel_rfl) rfl rfl (wBq rfl rfl rfl) ?_
   refine wDu (i := 4) rfl (by kernel_rfl) (by kernel_rfl) rfl rfl (wBk rfl rfl rfl rfl rfl) ?_
   refine wDu (i := 5) rfl (by kernel_rfl) (by kernel_rfl) rfl rfl (qLd rfl rfl rfl rfl (CJ.loc rfl)) ?_
   refine wDu (i := 6) rfl (by kernel_rfl) (by kernel_rfl) rfl rfl (wBq rfl rfl rfl) ?_
   refine wDu (i := 7) rfl (by kernel_rfl) (by kernel_rfl) rfl rfl (wBk rfl rfl rfl rfl rfl) ?_
   refine wDu (i := 8) rfl (by kernel_rfl) (by kernel_rfl) rfl rfl (qLd rfl rfl rfl rfl (CJ.loc rfl)) ?_
   refine wDu (i := 9) rfl (by kernel_rfl) (by kernel_rfl) rfl rfl (wBq rfl rfl rfl) ?_
   refine wDu (i := 10) rfl (by kernel_rfl) (by kernel_rfl) rfl rfl (qA rfl rfl rfl rfl rfl (by omega)) ?_
   refine wGn (α := Nat × Nat × Nat) (fun _ => True) (fun x => [(1, .pointer (some ⟨b1, 0, none⟩)), (2, .pointer (some ⟨b2, 0, none⟩)), (8, .pointer (some ⟨b8, 0, none⟩)), (9, .pointer (some ⟨x.2.2, 0, none⟩)), (53, .agg [.slice (some ⟨x.1, 0, none⟩) bs.length bs.length, .slice (some ⟨x.2.1, 0, none⟩) ws.length (ws.length + 1)].toArray)]) (fun _ => M) (fun x => [(b8, .cells [.slice (some ⟨b40, 0, none⟩) (128 * (bs.length + ws.length - (0))) (128 * (bs.length + ws.length - (0)))].toArray THp (0, 0)), (b40, .cells (wEd ((bs ++ ws.map (·.2)).take (0)).flatten (128 * (bs.length + ws.length - (0)))).toArray 5 (0, 0)), (x.1, .cells (blC b40 bs.length 0).toArray 26 (0, 0)), (x.2.1, .cells (wrC b40 bs.length ws 0).toArray WT (0, 0)), (x.2.2, .cells [.slice none 0 0, .slice none 0 0].toArray 25 (0, 0)), (b2, .cells [.slice none 0 0, .slice none 0 0].toArray 25 (0, 0)), (b1, .cells [.slice a1 bs.length c1, .slice a2 ws.length c2].toArray 25 (0, 0))]) 1 #[true, true, true, true, true, true, true, true, true, true, true, true, true, true, false] ?_ (fun rest => ?_)
   ·rintro ⟨b44, b52, b9⟩ _
    try dsimp only
    refine wGm (i := 14) (by kernel_rfl) ?_
    refine js_s rfl rfl (wBs rfl rfl rfl rfl rfl rfl rfl rfl) ?_; rintro _ _ _ ⟨rfl, rfl⟩
    refine wAo (MLe.refl _) (by simp) ?_
    refine ja_end (by kernel_rfl) ?_
    refine jPn (jT (wAb (wAb (wAa (sFL rfl rfl ?_)))))
    refine wAi rfl rfl (wBq rfl rfl rfl) ?_
    refine jp rfl (wAc (jT (wAh ?_)))
    refine wAr (α := Nat × Option Addr) (fun x => [(1, .pointer (some ⟨b1, 0, none⟩)), (2, .pointer (some ⟨b2, 0, none⟩)), (8, .pointer (some ⟨b8, 0, none⟩)), (9, .pointer (some ⟨b9, 0, none⟩)), (55, .slice a1 bs.length c1), (56, .int .i64 bs.length), (57, .int .i64 (x.1 : Int))]) (fun _ => M) (fun x => [(b8, .cells [.slice x.2 (128 * (bs.length + ws.length - (x.1))) (128 * (bs.length + ws.length - (x.1)))].toArray THp (0, 0)), (b40, .cells (wEd ((bs ++ ws.map (·.2)).take (x.1)).flatten (128 * (bs.length + ws.length - (x.1)))).toArray 5 (0, 0)), (b44, .cells (blC b40 bs.length (x.1)).toArray 26 (0, 0)), (b52, .cells (wrC b40 bs.length ws (0)).toArray WT (0, 0)), (b9, .cells [.slice (some ⟨b44, 0, none⟩) bs.length bs.length, .slice (some ⟨b52, 0, none⟩) ws.length (ws.length + 1)].toArray 25 (0, 0)), (b2, .cells [.slice none 0 0, .slice none 0 0].toArray 25 (0, 0)), (b1, .cells [.slice a1 bs.length c1, .slice a2 ws.length c2].toArray 25 (0, 0))]) (fun x => x.1 ≤ bs.length ∧ (0 < 128 * (bs.length + ws.length - x.1) → x.2 = some ⟨b40, ((bs ++ ws.map (·.2)).take (x.1)).flatten.length, none⟩)) (fun x => bs.length - x.1)
     (0, some ⟨b40, 0, none⟩) (.cons (t := 1) rfl (.cons (t := 2) rfl (.cons (t := 8) rfl (.cons (t := 9) rfl (.cons (t := 55) rfl (.cons (t := 56) rfl (.cons (t := 57) rfl .nil))))))) ⟨Nat.zero_le _, fun _ => rfl⟩ (fun _ h => h) ?_
    rintro ⟨k, A⟩ ⟨hk, hA⟩
    try dsimp only at hk hA ⊢
    refine wAb (wAa (js rfl (fun h58 => ?_) (fun h58 => ?_)))
    ·refine wAc (jT (wAb (wAg rfl (wAd (jT (wAb (wAh (wAb (wAa (jp rfl ?_))))))))))
     have hk1 : k < bs.length := by omega
     obtain ⟨sb, so, e0, hx⟩ := hs1.open (by intro e; have := congrArg List.length e; rw [List.length_map, List.length_nil] at this; have h2 := congrArg List.length hp1; rw [List.length_map] at h2; omega)
     subst e0
     obtain ⟨va, vc, hcl, hvc, hvs⟩ := wCn hx hp1 hb1 hk1
     have hl1 := hq3 bs[k] (List.getElem_mem _)
     refine wAi rfl rfl (wBa rfl rfl rfl rfl (by omega)) ?_
     refine wAi rfl rfl (qLd rfl rfl rfl rfl (hcl.cj _)) ?_
     refine jp rfl (jp rfl (wAc (jT (wBn [(0, true), (1, true), (2, true), (3, true), (4, false), (5, true), (6, false)] [(b9, .cells [.slice (some ⟨b44, 0, none⟩) bs.length bs.length, .slice (some ⟨b52, 0, none⟩) ws.length (ws.length + 1)].toArray 25 (0, 0))] (by kernel_rfl) (by kernel_rfl) (by kernel_rfl) rfl (by simp) ?_))))
     refine dFa rfl rfl ?_
     refine dLd rfl rfl ?_
     iterate 2 refine dp rfl rfl ?_
     obtain rfl : A = some ⟨b40, ((bs ++ ws.map (·.2)).take (k)).flatten.length, none⟩ := hA (by omega)
     have hst := wJt (bs := bs ++ ws.map (·.2)) (k := k) (by omega)
     rw [List.getElem_append_left hk1] at hst
     have hp1' := hpl k (by omega)
     refine wHh rfl rfl rfl (wAn rfl rfl rfl rfl rfl (by kernel_rfl) (clone_walk b8 b40 ((bs ++ ws.map (·.2)).take (k)).flatten bs[k] (128 * (bs.length + ws.length - (k))) va vc M hvc hvs (by omega) (by omega) (by omega))) ?_; rintro _ M' _ ⟨_, _, rfl, ⟨rfl, rfl, rfl⟩⟩
     refine ⟨_, _, MLe.refl _, MLe.refl _, fun _ h => h, by simp, ?_⟩
     rw [hp1', hl1, ← hst, show 128 * (bs.length + ws.length - k) - 128 = 128 * (bs.length + ws.length - (k + 1)) by omega, show (Value.slice (some ⟨b40, 128 * k, none⟩) 128 128) = cutV b40 k from rfl]
     refine wBi rfl rfl rfl (wBa rfl rfl rfl rfl (by omega)) ?_
     refine jd_s rfl rfl (hStore rfl rfl rfl rfl rfl rfl (by simp [Value.oneCell', cutV]) (by rw [blC_len (by omega)]; show _ + 1 ≤ _; omega)) ?_; rintro _ _ _ ⟨rfl, rfl⟩
     refine ⟨_, _, MLe.refl _, MLe.refl _, fun _ h => h, by simp, ?_⟩
     rw [blC_step (by omega) (by omega)]
     refine wBg (jPn (jB (jT (wAa (ja rfl (by omega) ?_)))))
     refine jp rfl (wAc ?_)
     refine wAp (k + 1, slA (some ⟨b40, 128 * k, none⟩) 128 (128 * (bs.length + ws.length - k)) 1) (.cons (t := 1) rfl (.cons (t := 2) rfl (.cons (t := 8) rfl (.cons (t := 9) rfl (.cons (t := 55) rfl (.cons (t := 56) rfl (.cons (t := 57) rfl .nil))))))) ⟨by show k + 1 ≤ bs.length; omega, ?_⟩ (by show bs.length - (k + 1) < bs.length - k; omega) (fun _ h => h)
     intro h0; replace h0 : 0 < 128 * (bs.length + ws.length - (k + 1)) := h0; show slA _ _ _ _ = some ⟨b40, ((bs ++ ws.map (·.2)).take (k + 1)).flatten.length, none⟩
     rw [wBt (by omega), hpl (k + 1) (by omega)]; congr 2
    ·refine wAc (jT (wAb (wAj rfl (wAs (jTx (jTx (jBx (jT (wAb (wAb (wAa (sFL rfl rfl ?_))))))))))))
     refine wAi rfl rfl (wBq rfl rfl rfl) ?_
     refine jp rfl (wAc (jT (wAh ?_)))
     obtain rfl : k = bs.length := by omega
     refine wAr (α := Nat × Option Addr) (fun x => [(1, .pointer (some ⟨b1, 0, none⟩)), (2, .pointer (some ⟨b2, 0, none⟩)), (8, .pointer (some ⟨b8, 0, none⟩)), (9, .pointer (some ⟨b9, 0, none⟩)), (70, .slice a2 ws.length c2), (71, .int .i64 ws.length), (72, .int .i64 (x.1 : Int))]) (fun _ => M) (fun x => [(b8, .cells [.slice x.2 (128 * (bs.length + ws.length - (bs.length + x.1))) (128 * (bs.length + ws.length - (bs.length + x.1)))].toArray THp (0, 0)), (b40, .cells (wEd ((bs ++ ws.map (·.2)).take (bs.length + x.1)).flatten (128 * (bs.length + ws.length - (bs.length + x.1)))).toArray 5 (0, 0)), (b44, .cells (blC b40 bs.length (bs.length)).toArray 26 (0, 0)), (b52, .cells (wrC b40 bs.length ws (x.1)).toArray WT (0, 0)), (b9, .cells [.slice (some ⟨b44, 0, none⟩) bs.length bs.length, .slice (some ⟨b52, 0, none⟩) ws.length (ws.length + 1)].toArray 25 (0, 0)), (b2, .cells [.slice none 0 0, .slice none 0 0].toArray 25 (0, 0)), (b1, .cells [.slice a1 bs.length c1, .slice a2 ws.length c2].toArray 25 (0, 0))]) (fun x => x.1 ≤ ws.length ∧ (0 < 128 * (bs.length + ws.length - (bs.length + x.1)) → x.2 = some ⟨b40, ((bs ++ ws.map (·.2)).take (bs.length + x.1)).flatten.length, none⟩)) (fun x => ws.length - x.1)
      (0, A) (.cons (t := 1) rfl (.cons (t := 2) rfl (.cons (t := 8) rfl (.cons (t := 9) rfl (.cons (t := 70) rfl (.cons (t := 71) rfl (.cons (t := 72) rfl .nil))))))) ⟨Nat.zero_le _, hA⟩ (fun _ h => h) ?_
     rintro ⟨k, A⟩ ⟨hk, hA⟩
     try dsimp only at hk hA ⊢
     refine wAb (wAa (js rfl (fun h73 => ?_) (fun h73 => ?_)))
     ·refine wAc (jT (wAb (wAg rfl (wAd (jT (wAb (wAh (wAb (wAa (jp rfl ?_))))))))))
      have hk1 : k < ws.length := by omega
      obtain ⟨sb, so, e0, hx⟩ := hs2.open (by intro e; have := congrArg List.length e; rw [wAy wCf 2 wCc, List.length_nil] at this; have h2 := congrArg List.length hp2; rw [List.length_map] at h2; omega)
      subst e0
      obtain ⟨va, vc, hcl, hvc, hvs⟩ := wDw hx hp2 hb2 hk1
      have hl1 := (hq4 ws[k] (List.getElem_mem _)).2.2
      refine wAi rfl rfl (wBa rfl rfl rfl rfl (by omega)) ?_
      refine wAi rfl rfl (wEy (cs := wtc ws[k] va vc) rfl rfl rfl rfl rfl (fun i v hv => (hcl i v hv).cj _)) ?_
      refine sAl rfl fun b13 => ?_
      refine jp rfl (sSt rfl ?_)
      refine wAc (jT (wBn [(0, true), (1, true), (2, true), (3, true), (4, true), (5, true), (6, true), (7, false), (8, true), (9, true), (10, false)] [(b13, .cells (wtc ws[k] va vc).toArray WT (0, 0)), (b9, .cells [.slice (some ⟨b44, 0, none⟩) bs.length bs.length, .slice (some ⟨b52, 0, none⟩) ws.length (ws.length + 1)].toArray 25 (0, 0))] (by kernel_rfl) (by kernel_rfl) (by kernel_rfl) rfl (by simp) ?_))
      refine dFa rfl rfl ?_
      refine dLd rfl rfl ?_
      refine dp rfl rfl ?_
      refine dFa rfl rfl ?_
      refine dLd rfl rfl ?_
      refine dFa rfl rfl ?_
      refine dLd rfl rfl ?_
      obtain rfl : A = some ⟨b40, ((bs ++ ws.map (·.2)).take (bs.length + k)).flatten.length, none⟩ := hA (by omega)
      have hst := wJt (bs := bs ++ ws.map (·.2)) (k := bs.length + k) (by omega)
      rw [List.getElem_append_right (by omega)] at hst
      simp only [Nat.add_sub_cancel_left, List.getElem_map] at hst
      have hp1' := hpl (bs.length + k) (by omega)
      refine wHh rfl rfl rfl (wAn rfl rfl rfl rfl rfl (by kernel_rfl) (clone_walk b8 b40 ((bs ++ ws.map (·.2)).take (bs.length + k)).flatten ws[k].2 (128 * (bs.length + ws.length - (bs.length + k))) va vc M hvc hvs (by omega) (by omega) (by omega))) ?_; rintro _ M' _ ⟨_, _, rfl, ⟨rfl, rfl, rfl⟩⟩
      refine ⟨_, _, MLe.refl _, MLe.refl _, fun _ h => h, by simp, ?_⟩
      rw [hp1', hl1, ← hst, show 128 * (bs.length + ws.length - (bs.length + k)) - 128 = 128 * (bs.length + ws.length - (bs.length + (k + 1))) by omega, show (Value.slice (some ⟨b40, 128 * (bs.length + k), none⟩) 128 128) = cutV b40 (bs.length + k) from rfl]
      refine wBi rfl rfl rfl (wAq (cs := [_, _]) rfl rfl rfl (by rfl)) ?_
      refine wBi rfl rfl rfl (wBa rfl rfl rfl rfl (by omega)) ?_
      refine jd_s rfl rfl (hStore (cs := [.int .i64 ws[k].1, cutV b40 (bs.length + k)]) rfl rfl rfl rfl rfl rfl (by simp [Value.oneCell', cutV]) (by rw [wrC_len (by omega)]; show _ + 2 ≤ _; omega)) ?_; rintro _ _ _ ⟨rfl, rfl⟩
      refine ⟨_, _, MLe.refl _, MLe.refl _, fun _ h => h, by simp, ?_⟩
      rw [wrC_step (by omega) (by omega) (by rw [show ws.getD k (0, []) = ws[k] from wDv hk1 _])]
      refine wBg (jPn (jB (jT (wAa (ja rfl (by omega) ?_)))))
      refine jp rfl (wAc ?_)
      refine wAp (k + 1, slA (some ⟨b40, 128 * (bs.length + k), none⟩) 128 (128 * (bs.length + ws.length - (bs.length + k))) 1) (.cons (t := 1) rfl (.cons (t := 2) rfl (.cons (t := 8) rfl (.cons (t := 9) rfl (.cons (t := 70) rfl (.cons (t := 71) rfl (.cons (t := 72) rfl .nil))))))) ⟨by show k + 1 ≤ ws.length; omega, ?_⟩ (by show ws.length - (k + 1) < ws.length - k; omega) (fun _ h => h.fewer (.cons_cons _ (.cons_cons _ (.cons _ (.refl _)))))
      intro h0; replace h0 : 0 < 128 * (bs.length + ws.length - (bs.length + (k + 1))) := h0; show slA _ _ _ _ = some ⟨b40, ((bs ++ ws.map (·.2)).take (bs.length + (k + 1))).flatten.length, none⟩
      rw [wBt (by omega), hpl (bs.length + (k + 1)) (by omega)]; congr 2
     ·refine wAc (jT (wAb (wAj rfl (wAs (jTx (jTx (jBx (jT (wAb (wAa (sLL rfl ?_)))))))))))
      refine sSt rfl ?_
      refine wAc (jT (wAe ?_))
      obtain rfl : k = ws.length := by omega
      refine wBv b40 (by simp) ?_
      intro Ma hMa e40
      refine wBv b44 (by simp) ?_
      intro Mb hMb e44
      refine wCd (rs := [_]) ([(b52, .cells (wrC b40 bs.length ws (ws.length)).toArray WT (0, 0))]) (by first | exact List.sublist_append_of_sublist_left (.refl _) | simp) rfl (.cons (.agg rfl rfl rfl) .nil) ?_
      have e40c := hMb _ _ e40
      rw [Nat.sub_self, Nat.mul_zero, List.take_of_length_le (by omega)] at e40c
      have e44c := e44
      refine ⟨_, _, rfl, ?_, (List.range ws.length).map (fun j => (ws.getD j (0, []), cutV b40 (bs.length + j))), ?_, ?_, ?_⟩
      ·refine ⟨_, _, (List.range bs.length).map (fun j => (bs.getD j [], cutV b40 j)), rfl, Nat.le_refl _, ?_, ?_, ?_⟩
       ·rw [List.map_map]; have := SM.of_block e44c; unfold blC at this; rw [Nat.sub_self, List.replicate_zero, List.append_nil] at this; exact this
       ·rw [List.map_map]; exact range_getD bs
       ·intro p hp; obtain ⟨j, hj, rfl⟩ := List.mem_map.1 hp
        have hj1 := List.mem_range.1 hj
        have := cut_bs hds e40c (j := j) (by omega)
        rw [List.getElem_append_left hj1] at this
        show BS _ _ (bs.getD j []); rw [wDv hj1]; exact this
      ·rw [List.map_map]; exact range_getW ws
      ·intro p hp; obtain ⟨j, hj, rfl⟩ := List.mem_map.1 hp
       have hj1 := List.mem_range.1 hj
       have := cut_bs hds e40c (j := bs.length + j) (by omega)
       rw [List.getElem_append_right (by omega)] at this
       simp only [Nat.add_sub_cancel_left, List.getElem_map] at this
       show BS _ _ (ws.getD j (0, [])).2; rw [wDv hj1]; exact this
      ·have hfl : ((List.range ws.length).map (fun j => (ws.getD j (0, []), cutV b40 (bs.length + j)))).flatMap wCf = (List.range ws.length).flatMap (fun j => [Value.int .i64 (ws.getD j (0, [])).1, cutV b40 (bs.length + j)]) := by rw [List.flatMap_map]; rfl
       have hl2 : ((List.range ws.length).flatMap (fun j => [Value.int .i64 (ws.getD j (0, [])).1, cutV b40 (bs.length + j)])).length = ws.length * 2 := by rw [← hfl, wAy wCf 2 wCc]; simp
       rw [hfl]
       refine ⟨hl2, .inr ⟨b52, ws.length + 1, _, rfl, rfl, Nat.le_succ _, ?_, ?_, ?_⟩⟩
       ·unfold maxLen; omega
       ·rw [show (wrC b40 bs.length ws ws.length).toArray.size = (wrC b40 bs.length ws ws.length).length from rfl, wrC_len (Nat.le_refl _)]; omega
       ·show (wrC b40 bs.length ws ws.length).take (ws.length * 2) = _
        unfold wrC; exact List.take_left' hl2
   refine wBd [3, 11, 13] (by kernel_rfl) rfl ⟨?_, ?_, ?_, trivial⟩
   ·refine wCk rfl rfl rfl (wKv rfl rfl rfl rfl (by omega) (by rfl)) ?_; rintro _ _ _ ⟨b44, rfl, rfl, rfl⟩
    refine wAo (MLe.refl _) (by simp) ?_
    rw [wLt b40]
    refine wBd [11, 13] (by kernel_rfl) rfl ⟨?_, ?_, trivial⟩
    ·refine wCk rfl rfl rfl (wKv rfl rfl rfl rfl (by omega) (by rfl)) ?_; rintro _ _ _ ⟨b52, rfl, rfl, rfl⟩
     refine wAo (MLe.refl _) (by simp) ?_
     rw [wLd b40 bs.length ws _ (by omega)]
     refine wDu (i := 12) rfl (by kernel_rfl) (by kernel_rfl) rfl rfl (wAq (cs := [_, _]) rfl rfl rfl (by rfl)) ?_
     refine wBd [13] (by kernel_rfl) rfl ⟨?_, trivial⟩
     ·refine wCk rfl rfl rfl (wEx rfl rfl) ?_; rintro _ _ _ ⟨b9, rfl, rfl, rfl⟩
      refine wAo (MLe.refl _) (by simp) ?_
      refine wBx (listed' := #[true, true, true, true, true, true, true, true, true, true, true, true, true, true, false]) (by kernel_rfl) (wBw (.cons (t := 1) rfl (.cons (t := 2) rfl (.cons (t := 8) rfl (.cons (t := 9) rfl (.cons (t := 53) rfl .nil))))) ?_)
      refine ja_weak (M2 := M) (L2 := [(b8, .cells [.slice (some ⟨b40, 0, none⟩) (128 * (bs.length + ws.length - (0))) (128 * (bs.length + ws.length - (0)))].toArray THp (0, 0)), (b40, .cells (wEd ((bs ++ ws.map (·.2)).take (0)).flatten (128 * (bs.length + ws.length - (0)))).toArray 5 (0, 0)), (b44, .cells (blC b40 bs.length (0)).toArray 26 (0, 0)), (b52, .cells (wrC b40 bs.length ws (0)).toArray WT (0, 0)), (b9, .cells [.slice none 0 0, .slice none 0 0].toArray 25 (0, 0)), (b2, .cells [.slice none 0 0, .slice none 0 0].toArray 25 (0, 0)), (b1, .cells [.slice a1 bs.length c1, .slice a2 ws.length c2].toArray 25 (0, 0))]) (fun w h => h.perm ((Rm.perm (g := b8)).trans (List.Perm.cons _ ((Rm.perm (g := b40)).trans (List.Perm.cons _ ((Rm.perm (g := b44)).trans (List.Perm.cons _ ((Rm.perm (g := b52)).trans (List.Perm.cons _ (Rm.perm (g := b9))))))))))) (MLe.refl _) (by simp) ?_
      exact rest (b44, b52, b9) trivial
    ·refine wCk rfl rfl rfl (wEx rfl rfl) ?_; rintro _ _ _ ⟨b9, rfl, rfl, rfl⟩
     refine wAo (MLe.refl _) (by simp) ?_
     refine wBd [11] (by kernel_rfl) rfl ⟨?_, trivial⟩
     ·refine wCk rfl rfl rfl (wKv rfl rfl rfl rfl (by omega) (by rfl)) ?_; rintro _ _ _ ⟨b52, rfl, rfl, rfl⟩
      refine wAo (MLe.refl _) (by simp) ?_
      rw [wLd b40 bs.length ws _ (by omega)]
      refine wDu (i := 12) rfl (by kernel_rfl) (by kernel_rfl) rfl rfl (wAq (cs := [_, _]) rfl rfl rfl (by rfl)) ?_
      refine wBx (listed' := #[true, true, true, true, true, true, true, true, true, true, true, true, true, true, false]) (by kernel_rfl) (wBw (.cons (t := 1) rfl (.cons (t := 2) rfl (.cons (t := 8) rfl (.cons (t := 9) rfl (.cons (t := 53) rfl .nil))))) ?_)
      refine ja_weak (M2 := M) (L2 := [(b8, .cells [.slice (some ⟨b40, 0, none⟩) (128 * (bs.length + ws.length - (0))) (128 * (bs.length + ws.length - (0)))].toArray THp (0, 0)), (b40, .cells (wEd ((bs ++ ws.map (·.2)).take (0)).flatten (128 * (bs.length + ws.length - (0)))).toArray 5 (0, 0)), (b44, .cells (blC b40 bs.length (0)).toArray 26 (0, 0)), (b52, .cells (wrC b40 bs.length ws (0)).toArray WT (0, 0)), (b9, .cells [.slice none 0 0, .slice none 0 0].toArray 25 (0, 0)), (b2, .cells [.slice none 0 0, .slice none 0 0].toArray 25 (0, 0)), (b1, .cells [.slice a1 bs.length c1, .slice a2 ws.length c2].toArray 25 (0, 0))]) (fun w h => h.perm ((Rm.perm (g := b8)).trans (List.Perm.cons _ ((Rm.perm (g := b40)).trans (List.Perm.cons _ ((Rm.perm (g := b44)).trans (List.Perm.cons _ ((Rm.perm (g := b52)).trans (List.Perm.cons _ (Rm.perm (g := b9))))))))))) (MLe.refl _) (by simp) ?_
      exact rest (b44, b52, b9) trivial
   ·refine wCk rfl rfl rfl (wKv rfl rfl rfl rfl (by omega) (by rfl)) ?_; rintro _ _ _ ⟨b52, rfl, rfl, rfl⟩
    refine wAo (MLe.refl _) (by simp) ?_
    rw [wLd b40 bs.length ws _ (by omega)]
    refine wBd [3, 13] (by kernel_rfl) rfl ⟨?_, ?_, trivial⟩
    ·refine wCk rfl rfl rfl (wKv rfl rfl rfl rfl (by omega) (by rfl)) ?_; rintro _ _ _ ⟨b44, rfl, rfl, rfl⟩
     refine wAo (MLe.refl _) (by simp) ?_
     rw [wLt b40]
     refine wDu (i := 12) rfl (by kernel_rfl) (by kernel_rfl) rfl rfl (wAq (cs := [_, _]) rfl rfl rfl (by rfl)) ?_
     refine wBd [13] (by kernel_rfl) rfl ⟨?_, trivial⟩
     ·refine wCk rfl rfl rfl (wEx rfl rfl) ?_; rintro _ _ _ ⟨b9, rfl, rfl, rfl⟩
      refine wAo (MLe.refl _) (by simp) ?_
      refine wBx (listed' := #[true, true, true, true, true, true, true, true, true, true, true, true, true, true, false]) (by kernel_rfl) (wBw (.cons (t := 1) rfl (.cons (t := 2) rfl (.cons (t := 8) rfl (.cons (t := 9) rfl (.cons (t := 53) rfl .nil))))) ?_)
      refine ja_weak (M2 := M) (L2 := [(b8, .cells [.slice (some ⟨b40, 0, none⟩) (128 * (bs.length + ws.length - (0))) (128 * (bs.length + ws.length - (0)))].toArray THp (0, 0)), (b40, .cells (wEd ((bs ++ ws.map (·.2)).take (0)).flatten (128 * (bs.length + ws.length - (0)))).toArray 5 (0, 0)), (b44, .cells (blC b40 bs.length (0)).toArray 26 (0, 0)), (b52, .cells (wrC b40 bs.length ws (0)).toArray WT (0, 0)), (b9, .cells [.slice none 0 0, .slice none 0 0].toArray 25 (0, 0)), (b2, .cells [.slice none 0 0, .slice none 0 0].toArray 25 (0, 0)), (b1, .cells [.slice a1 bs.length c1, .slice a2 ws.length c2].toArray 25 (0, 0))]) (fun w h => h.perm ((Rm.perm (g := b8)).trans (List.Perm.cons _ ((Rm.perm (g := b40)).trans (List.Perm.cons _ ((Rm.perm (g := b44)).trans (List.Perm.cons _ ((Rm.perm (g := b52)).trans (List.Perm.cons _ (Rm.perm (g := b9))))))))))) (MLe.refl _) (by simp) ?_
      exact rest (b44, b52, b9) trivial
    ·refine wCk rfl rfl rfl (wEx rfl rfl) ?_; rintro _ _ _ ⟨b9, rfl, rfl, rfl⟩
     refine wAo (MLe.refl _) (by simp) ?_
     refine wBd [3] (by kernel_rfl) rfl ⟨?_, trivial⟩
     ·refine wCk rfl rfl rfl (wKv rfl rfl rfl rfl (by omega) (by rfl)) ?_; rintro _ _ _ ⟨b44, rfl, rfl, rfl⟩
      refine wAo (MLe.refl _) (by simp) ?_
      rw [wLt b40]
      refine wDu (i := 12) rfl (by kernel_rfl) (by kernel_rfl) rfl rfl (wAq (cs := [_, _]) rfl rfl rfl (by rfl)) ?_
      refine wBx (listed' := #[true, true, true, true, true, true, true, true, true, true, true, true, true, true, false]) (by kernel_rfl) (wBw (.cons (t := 1) rfl (.cons (t := 2) rfl (.cons (t := 8) rfl (.cons (t := 9) rfl (.cons (t := 53) rfl .nil))))) ?_)
      refine ja_weak (M2 := M) (L2 := [(b8, .cells [.slice (some ⟨b40, 0, none⟩) (128 * (bs.length + ws.length - (0))) (128 * (bs.length + ws.length - (0)))].toArray THp (0, 0)), (b40, .cells (wEd ((bs ++ ws.map (·.2)).take (0)).flatten (128 * (bs.length + ws.length - (0)))).toArray 5 (0, 0)), (b44, .cells (blC b40 bs.length (0)).toArray 26 (0, 0)), (b52, .cells (wrC b40 bs.length ws (0)).toArray WT (0, 0)), (b9, .cells [.slice none 0 0, .slice none 0 0].toArray 25 (0, 0)), (b2, .cells [.slice none 0 0, .slice none 0 0].toArray 25 (0, 0)), (b1, .cells [.slice a1 bs.length c1, .slice a2 ws.length c2].toArray 25 (0, 0))]) (fun w h => h.perm ((Rm.perm (g := b8)).trans (List.Perm.cons _ ((Rm.perm (g := b40)).trans (List.Perm.cons _ ((Rm.perm (g := b44)).trans (List.Perm.cons _ ((Rm.perm (g := b52)).trans (List.Perm.cons _ (Rm.perm (g := b9))))))))))) (MLe.refl _) (by simp) ?_
      exact rest (b44, b52, b9) trivial
   ·refine wCk rfl rfl rfl (wEx rfl rfl) ?_; rintro _ _ _ ⟨b9, rfl, rfl, rfl⟩
    refine wAo (MLe.refl _) (by simp) ?_
    refine wBd [3, 11] (by kernel_rfl) rfl ⟨?_, ?_, trivial⟩
    ·refine wCk rfl rfl rfl (wKv rfl rfl rfl rfl (by omega) (by rfl)) ?_; rintro _ _ _ ⟨b44, rfl, rfl, rfl⟩
     refine wAo (MLe.refl _) (by simp) ?_
     rw [wLt b40]
     refine wBd [11] (by kernel_rfl) rfl ⟨?_, trivial⟩
     ·refine wCk rfl rfl rfl (wKv rfl rfl rfl rfl (by omega) (by rfl)) ?_; rintro _ _ _ ⟨b52, rfl, rfl, rfl⟩
      refine wAo (MLe.refl _) (by simp) ?_
      rw [wLd b40 bs.length ws _ (by omega)]
      refine wDu (i := 12) rfl (by kernel_rfl) (by kernel_rfl) rfl rfl (wAq (cs := [_, _]) rfl rfl rfl (by rfl)) ?_
      refine wBx (listed' := #[true, true, true, true, true, true, true, true, true, true, true, true, true, true, false]) (by kernel_rfl) (wBw (.cons (t := 1) rfl (.cons (t := 2) rfl (.cons (t := 8) rfl (.cons (t := 9) rfl (.cons (t := 53) rfl .nil))))) ?_)
      refine ja_weak (M2 := M) (L2 := [(b8, .cells [.slice (some ⟨b40, 0, none⟩) (128 * (bs.length + ws.length - (0))) (128 * (bs.length + ws.length - (0)))].toArray THp (0, 0)), (b40, .cells (wEd ((bs ++ ws.map (·.2)).take (0)).flatten (128 * (bs.length + ws.length - (0)))).toArray 5 (0, 0)), (b44, .cells (blC b40 bs.length (0)).toArray 26 (0, 0)), (b52, .cells (wrC b40 bs.length ws (0)).toArray WT (0, 0)), (b9, .cells [.slice none 0 0, .slice none 0 0].toArray 25 (0, 0)), (b2, .cells [.slice none 0 0, .slice none 0 0].toArray 25 (0, 0)), (b1, .cells [.slice a1 bs.length c1, .slice a2 ws.length c2].toArray 25 (0, 0))]) (fun w h => h.perm ((Rm.perm (g := b8)).trans (List.Perm.cons _ ((Rm.perm (g := b40)).trans (List.Perm.cons _ ((Rm.perm (g := b44)).trans (List.Perm.cons _ ((Rm.perm (g := b52)).trans (List.Perm.cons _ (Rm.perm (g := b9))))))))))) (MLe.refl _) (by simp) ?_
      exact rest (b44, b52, b9) trivial
    ·refine wCk rfl rfl rfl (wKv rfl rfl rfl rfl (by omega) (by rfl)) ?_; rintro _ _ _ ⟨b52, rfl, rfl, rfl⟩
     refine wAo (MLe.refl _) (by simp) ?_
     rw [wLd b40 bs.length ws _ (by omega)]
     refine wBd [3] (by kernel_rfl) rfl ⟨?_, trivial⟩
     ·refine wCk rfl rfl rfl (wKv rfl rfl rfl rfl (by omega) (by rfl)) ?_; rintro _ _ _ ⟨b44, rfl, rfl, rfl⟩
      refine wAo (MLe.refl _) (by simp) ?_
      rw [wLt b40]
      refine wDu (i := 12) rfl (by kernel_rfl) (by kernel_rfl) rfl rfl (wAq (cs := [_, _]) rfl rfl rfl (by rfl)) ?_
      refine wBx (listed' := #[true, true, true, true, true, true, true, true, true, true, true, true, true, true, false]) (by kernel_rfl) (wBw (.cons (t := 1) rfl (.cons (t := 2) rfl (.cons (t := 8) rfl (.cons (t := 9) rfl (.cons (t := 53) rfl .nil))))) ?_)
      refine ja_weak (M2 := M) (L2 := [(b8, .cells [.slice (some ⟨b40, 0, none⟩) (128 * (bs.length + ws.length - (0))) (128 * (bs.length + ws.length - (0)))].toArray THp (0, 0)), (b40, .cells (wEd ((bs ++ ws.map (·.2)).take (0)).flatten (128 * (bs.length + ws.length - (0)))).toArray 5 (0, 0)), (b44, .cells (blC b40 bs.length (0)).toArray 26 (0, 0)), (b52, .cells (wrC b40 bs.length ws (0)).toArray WT (0, 0)), (b9, .cells [.slice none 0 0, .slice none 0 0].toArray 25 (0, 0)), (b2, .cells [.slice none 0 0, .slice none 0 0].toArray 25 (0, 0)), (b1, .cells [.slice a1 bs.length c1, .slice a2 ws.length c2].toArray 25 (0, 0))]) (fun w h => h.perm ((Rm.perm (g := b8)).trans (List.Perm.cons _ ((Rm.perm (g := b40)).trans (List.Perm.cons _ ((Rm.perm (g := b44)).trans (List.Perm.cons _ ((Rm.perm (g := b52)).trans (List.Perm.cons _ (Rm.perm (g := b9))))))))))) (MLe.refl _) (by simp) ?_
      exact rest (b44, b52, b9) trivial
theorem SpecL.own {P : Program} {f : FuncId} {args : Array Value} {M : Mem} {post post' : Value → Mem → Lc → Prop} (h : SpecL P f args M [] post)
  (hk : ∀ v M' L', post v M' L' → ∃ u e sz n xs, Own u L' e sz n xs ∧ ∀ M'' a c, MLe M' M'' → u = .slice a n c → n ≤ c → SM M'' a xs → post' v M'' []) : SpecL P f args M [] post' := fun w hw =>
 (h w hw).mono fun e w' ⟨v, M', L', h1, h2, h3⟩ => by
  obtain ⟨u, t, sz, n, xs, h4, h5⟩ := hk v M' L' h2
  obtain ⟨M'', a, c, k1, k2, k3, k4, k5⟩ := h4.freeze (X := []) (L := []) (fun _ _ h => by cases h) (by rw [List.append_nil]; exact h3)
  exact ⟨v, M'', [], h1, h5 M'' a c k1 k2 k3 k4, k5⟩
theorem dtwin_walk (bs : List (List By)) (ws : List Wt) (a1 : Option Addr) (c1 : Nat) (ps1 : List (List By × Value)) (a2 : Option Addr) (c2 : Nat) (ps2 : List (Wt × Value)) (M : Mem) (hc1 : bs.length ≤ c1) (hs1 : SM M a1 (ps1.map (·.2))) (hp1 : ps1.map (·.1) = bs) (hb1 : ∀ p ∈ ps1, BS M p.2 p.1) (hc2 : ws.length ≤ c2) (hs2 : SM M a2 (ps2.flatMap wCf)) (hp2 : ps2.map (·.1) = ws) (hb2 : ∀ p ∈ ps2, BS M p.2 p.1.2) (hdk : dkOk bs ws) :
  SpecL Tryz.prog 38 #[.agg #[.slice a1 bs.length c1, .slice a2 ws.length c2]] M [] fun u M' L' => (∃ bv' wv', u = .agg #[bv', wv'] ∧ LS M' bv' bs ∧ WS M' wv' ws) ∧ L' = [] :=
 (dtwin_own bs ws a1 c1 ps1 a2 c2 ps2 M hc1 hs1 hp1 hb1 hc2 hs2 hp2 hb2 hdk).own fun v M' L' ⟨bv', wv', h1, h2, ps, h3, h4, h5⟩ =>
  ⟨_, _, _, _, _, h5, fun M'' a c k1 k2 k3 k4 => ⟨⟨bv', wv', h1, h2.mono k1, a, c, ps, k2, k3, k4, h3, fun p hp => (h4 p hp).mono k1⟩, rfl⟩⟩
end Go.Proofs.YtoincdcejjdgkaaGreat
