/- Walks: bytes made of numbers, and sealed. -/
import Derived.Test.YtbhkdjheooknfaaGreatZSp
import Derived.Test.YtbhkdjheooknfaaGreatZHk
namespace Go.Proofs.YtbhkdjheooknfaaGreat
set_option linter.unusedVariables false
set_option linter.unusedSectionVars false
set_option linter.unusedSimpArgs false
open Go.RowKit
def bU (x : Int) : By := UInt8.ofNat (x % 256).toNat
theorem u8_bU (x : Int) : IntKind.u8.wrap x = ((bU x).toNat : Int) := by
 rw [IntKind.wrap_u8]
 unfold bU
 have : (x % 256).toNat < 256 := by omega
 rw [UInt8.toNat_ofNat_of_lt' (by simpa using this)]
 omega
def wEj (n : Int) : List By := [bU n, bU (bShr .u32 n 8), bU (bShr .u32 n 16), bU (bShr .u32 n 24)]
def wGn (n : Int) : List By := [bU n, bU (bShr .i64 n 8)]
theorem wCo (n : Int) (M : Mem) :
  SpecL Tryz.prog 77 #[.int .u32 n] M [] fun u M' L' => BS M' u (wEj n) ∧ L' = [] := by
 refine wAe (vs := [_]) 15 _ Tryz.func77 rfl Tryz.ntmps77 rfl rfl ?_; intro W
 refine wAb (wAa (jp rfl (wAc (jT (wAb (wAa (jp rfl (wAi rfl rfl (qEq (wDe rfl rfl rfl) (by rw [u8_bU])) ?_))))))))
 refine jp rfl (wAi rfl rfl (wJw rfl rfl rfl rfl (by omega) rfl) ?_)
 refine wAi rfl rfl (qEq (wDe rfl rfl rfl) (by rw [u8_bU])) ?_
 refine jp rfl (wAi rfl rfl (wJw rfl rfl rfl rfl (by omega) rfl) ?_)
 refine wAi rfl rfl (qEq (wDe rfl rfl rfl) (by rw [u8_bU])) ?_
 refine jp rfl (wAi rfl rfl (wJw rfl rfl rfl rfl (by omega) rfl) ?_)
 refine wAi rfl rfl (qEq (wDe rfl rfl rfl) (by rw [u8_bU])) ?_
 refine wAv rfl rfl (wAr (cs := [_, _, _, _]) rfl rfl rfl (by rfl) (by rfl) (by rfl)) ?_; rintro _ _ _ ⟨b14, rfl, rfl, rfl⟩
 refine jp rfl (wAc (jT (wAf (wCa b14 (by simp) ?_))))
 intro M1 hM1 e1
 refine jr1 rfl rfl ?_
 exact ⟨⟨some ⟨b14, 0, none⟩, 4, rfl, Nat.le_refl _, SM.of_block (l := wAj (wEj n)) e1⟩, rfl⟩
theorem two_spec (n : Int) (M : Mem) (h : 0 ≤ n ∧ n < 65536) :
  SpecL Tryz.prog 75 #[.int .i64 n] M [] fun u M' L' => (∃ s, u = .tuple #[s, .int .i64 0] ∧ BS M' s (wGn n)) ∧ L' = [] := by
 have h16 : bShr .i64 n 16 = 0 := by unfold bShr; rw [show (2 : Int) ^ (min 16 IntKind.i64.bits) = 65536 by decide, Int.fdiv_eq_ediv_of_nonneg _ (by decide)]; omega
 refine wAe (vs := [_]) 13 _ Tryz.func75 rfl Tryz.ntmps75 rfl rfl ?_; intro W
 refine wAb (wAa (jp rfl (jp rfl (wAc (jT (wAb (wAb (wAa (jp rfl (wAi rfl rfl (wJw rfl rfl rfl rfl (by omega) rfl) ?_))))))))))
 refine jf rfl (decide_eq_false (by first | omega | exact fun e => e h16)) ?_
 refine wAc (jT (wAk rfl (wAd (jT (wAb (wAa (jp rfl (wAi rfl rfl (qEq (wDe rfl rfl rfl) (by rw [u8_bU])) ?_))))))))
 refine jp rfl (wAi rfl rfl (wJw rfl rfl rfl rfl (by omega) rfl) ?_)
 refine wAi rfl rfl (qEq (wDe rfl rfl rfl) (by rw [u8_bU])) ?_
 refine wAv rfl rfl (wAr (cs := [_, _]) rfl rfl rfl (by rfl) (by rfl) (by rfl)) ?_; rintro _ _ _ ⟨b12, rfl, rfl, rfl⟩
 refine jp rfl (jp rfl (wAc (jT (wAf (wCa b12 (by simp) ?_)))))
 intro M1 hM1 e1
 refine jr2 rfl rfl rfl ?_
 exact ⟨⟨_, rfl, some ⟨b12, 0, none⟩, 2, rfl, Nat.le_refl _, SM.of_block (l := wAj (wGn n)) e1⟩, rfl⟩
theorem grow_nil (M : Mem) :
  SpecL Tryz.prog 96 #[.slice none 0 0, .int .i64 0] M [] fun u M' L' => Own u L' 5 1 0 [] := by
 refine wAe (vs := [_, _]) 27 _ Tryz.func96 rfl Tryz.ntmps96 rfl rfl ?_; intro W
 refine wAb (wAa (jp rfl (wAc (jT (wAb (wAb (wAa (jp rfl (jf rfl (decide_eq_false (by omega)) ?_)))))))))
 refine wAc (jT (wAk rfl (wAd (jT (wAb (wAb (wAa (jp rfl (jp rfl (wAi rfl rfl (qCap rfl rfl rfl) ?_))))))))))
 refine jp rfl (wAi rfl rfl (wBe rfl rfl rfl) ?_)
 refine ja rfl (by omega) ?_
 refine ja rfl (by omega) ?_
 refine jp rfl (wAc (jT (wAb (wAa (jp rfl (jf rfl (decide_eq_false (by omega)) ?_))))))
 refine wAc (jT (wAk rfl (wAd (jT (wAb (wAa (jp rfl (jp rfl (wAc (jT (wAf (jr1 rfl rfl ?_))))))))))))
 exact Own.nil _ _
theorem grow_some (n : Nat) (M : Mem) (h0 : 0 < n) (hn : n ≤ 1000000000) :
  SpecL Tryz.prog 96 #[.slice none 0 0, .int .i64 n] M [] fun u M' L' => Own u L' 5 1 0 [] := by
 refine wAe (vs := [_, _]) 27 _ Tryz.func96 rfl Tryz.ntmps96 rfl rfl ?_; intro W
 refine wAb (wAa (jp rfl (wAc (jT (wAb (wAb (wAa (jp rfl (jf rfl (decide_eq_false (by omega)) ?_)))))))))
 refine wAc (jT (wAk rfl (wAd (jT (wAb (wAb (wAa (jp rfl (jp rfl (wAi rfl rfl (qCap rfl rfl rfl) ?_))))))))))
 refine jp rfl (wAi rfl rfl (wBe rfl rfl rfl) ?_)
 refine ja rfl (by omega) ?_
 refine ja rfl (by omega) ?_
 refine jp rfl (wAc (jT (wAb (wAa (jp rfl (jt rfl (decide_eq_true (by omega)) ?_))))))
 refine wAc (jT (wAg rfl (wAa (jp rfl (jp rfl (wAi rfl rfl (qCap rfl rfl rfl) ?_))))))
 refine wAi rfl rfl (qEq (qSl rfl rfl rfl (.no _) (.of (v := 0) rfl (by omega) rfl) (.no _) (by omega) (by simp)) (v' := .slice none 0 0) (by rw [wEq])) ?_
 refine jp rfl ?_
 refine wAv rfl rfl (hAppendZ (n := n) rfl rfl rfl (by simp [show (n : Int) - (0 - 0) = n by omega]; rfl) h0 hn (by omega)) ?_; rintro _ _ _ ⟨rfl, b22, cap, cur, rfl, rfl, hc1, hc2, hc3⟩
 refine jp rfl (wAi rfl rfl (wBe rfl rfl rfl) ?_)
 refine wAi rfl rfl (qEq (qSl rfl rfl rfl (.no _) (.of (v := 0) rfl (by omega) rfl) (.no _) (by omega) (by simp)) (v' := .slice (some ⟨b22, 0, none⟩) 0 cap) (by rw [wEq]; rfl)) ?_
 refine jp rfl (wAc (jT (wAb (wAa (jp rfl (jp rfl (wAc (jT (wAf (jr1 rfl rfl ?_))))))))))
 exact ⟨rfl, .inr ⟨b22, cap, cur, rfl, rfl, Nat.zero_le _, hc2, by rw [hc3, Nat.mul_one], by simp⟩⟩
theorem grow_spec (n : Nat) (M : Mem) (hn : n ≤ 1000000000) : SpecL Tryz.prog 96 #[.slice none 0 0, .int .i64 n] M [] fun u _ L' => Own u L' 5 1 0 [] := by
 rcases Nat.eq_zero_or_pos n with rfl | h
 ·exact grow_nil M
 exact grow_some n M h hn
theorem wFq {bs : List (List By)} {k : Nat} (h : k < bs.length) : (bs.take (k + 1)).flatten = (bs.take k).flatten ++ bs[k] := by
 rw [List.take_succ_eq_append_getElem h, List.flatten_append]; simp
theorem flat_le {bs : List (List By)} (k : Nat) : (bs.take k).flatten.length ≤ bs.flatten.length := by
 conv => rhs; rw [← List.take_append_drop k bs, List.flatten_append, List.length_append]
 omega
set_option maxHeartbeats 1000000 in
theorem concat_walk (bs : List (List By)) (a : Option Addr) (c : Nat) (ps : List (List By × Value)) (M : Mem) (hc : bs.length ≤ c) (hs : SM M a (ps.map (·.2))) (hp : ps.map (·.1) = bs) (hb : ∀ p ∈ ps, BS M p.2 p.1) (hn : bs.length ≤ 1000) (ht : bs.flatten.length ≤ 1000000) :
  SpecL Tryz.prog 76 #[.slice a bs.length c] M [] fun u M' L' => Own u L' 5 1 bs.flatten.length (wAj bs.flatten) := by
 refine wAe (vs := [_]) 36 _ Tryz.func76 rfl Tryz.ntmps76 rfl rfl ?_; intro W
 refine wAb (wAa (jp rfl (wAc (jT (wAb (wAa (jp rfl (wAc (jT (wAb (wAb (wAa (jp rfl (wAi rfl rfl (wBe rfl rfl rfl) ?_))))))))))))))
 refine jp rfl (wAc (jT (wAh ?_)))
 refine wAo (α := Nat) (fun k => [(0, .slice a bs.length c), (3, .int .i64 ((bs.take k).flatten.length : Int)), (9, .slice a bs.length c), (10, .int .i64 bs.length), (11, .int .i64 k)]) (fun _ => M) (fun _ => []) (fun k => k ≤ bs.length) (fun k => bs.length - k)
  0 (.cons (t := 0) rfl (.cons (t := 3) rfl (.cons (t := 9) rfl (.cons (t := 10) rfl (.cons (t := 11) rfl .nil))))) (Nat.zero_le _) (fun _ h => h) ?_
 rintro k hk
 try dsimp only at hk ⊢
 have hfk := flat_le (bs := bs) k
 refine wAb (wAa (js rfl (fun h12 => ?_) (fun h12 => ?_)))
 ·refine wAc (jT (wAb (wAg rfl (wAd (jT (wAb (wAh (wAb (wAa ?_)))))))))
  have hk1 : k < bs.length := by omega
  obtain ⟨sb, so, e0, hx⟩ := hs.open (by intro e; have := congrArg List.length e; rw [List.length_map, List.length_nil] at this; have h2 := congrArg List.length hp; rw [List.length_map] at h2; omega)
  subst e0
  obtain ⟨va, vc, hcl, hvc, hvs⟩ := wDp hx hp hb hk1
  have hft := congrArg List.length (wFq hk1)
  rw [List.length_append] at hft
  have hfl := flat_le (bs := bs) (k + 1)
  refine wAi rfl rfl (wBb rfl rfl rfl rfl (by omega)) ?_
  refine wAi rfl rfl (qLd rfl rfl rfl rfl (hcl.cj _)) ?_
  refine jp rfl (wAc (jT (wAb (wAa (jp rfl (jp rfl (wAi rfl rfl (wBe rfl rfl rfl) ?_)))))))
  refine ja rfl (by omega) ?_
  refine jp rfl (wAc (jT (wAb (wAa (jp rfl (jf rfl (decide_eq_false (by omega)) ?_))))))
  refine wAc (jT (wAk rfl (wAd (jB (jT (wAa (ja rfl (by omega) ?_)))))))
  refine jp rfl (wAc ?_)
  refine wAn (k + 1) (.cons (t := 0) rfl (Keep.ceq (t := 3) rfl (by rw [hft]; rfl) (.cons (t := 9) rfl (.cons (t := 10) rfl (.cons (t := 11) rfl .nil))))) (by show k + 1 ≤ bs.length; omega) (by show bs.length - (k + 1) < bs.length - k; omega) (fun _ h => h)
 refine wAc (jT (wAb (wAk rfl (wAs (jTx (jTx (jBx (jT (wAb (wAa (jp rfl ?_)))))))))))
 obtain rfl : k = bs.length := by omega
 rw [List.take_length]
 refine wAv rfl rfl (wAt rfl rfl rfl rfl rfl (by kernel_rfl) (grow_spec bs.flatten.length M (by omega))) ?_; rintro _ Mg _ ⟨hMg, R0, rfl, hown0⟩
 refine jp rfl (wAc (jT (wAb (wAb (wAa (jp rfl (wAi rfl rfl (wBe rfl rfl rfl) ?_)))))))
 refine jp rfl (wAc (jT (wAh ?_)))
 refine wAo (α := Nat × Lc × Value) (fun x => [(6, x.2.2), (25, .slice a bs.length c), (26, .int .i64 bs.length), (27, .int .i64 x.1)]) (fun _ => Mg) (fun x => x.2.1) (fun x => x.1 ≤ bs.length ∧ Own x.2.2 x.2.1 5 1 (bs.take x.1).flatten.length (wAj (bs.take x.1).flatten)) (fun x => bs.length - x.1)
  (0, R0, _) (.cons (t := 6) rfl (.cons (t := 25) rfl (.cons (t := 26) rfl (.cons (t := 27) rfl .nil)))) ⟨Nat.zero_le _, by simpa [wAj] using hown0⟩ (fun _ h => h.fewer (by simp)) ?_
 rintro ⟨k, R, s⟩ ⟨hk, hown⟩
 try dsimp only at hk hown ⊢
 have hfk := flat_le (bs := bs) k
 refine wAb (wAa (js rfl (fun h28 => ?_) (fun h28 => ?_)))
 ·refine wAc (jT (wAb (wAg rfl (wAd (jT (wAb (wAh (wAb (wAa ?_)))))))))
  have hk1 : k < bs.length := by omega
  obtain ⟨sb, so, e0, hx⟩ := hs.open (by intro e; have := congrArg List.length e; rw [List.length_map, List.length_nil] at this; have h2 := congrArg List.length hp; rw [List.length_map] at h2; omega)
  subst e0
  obtain ⟨va, vc, hcl, hvc, hvs⟩ := wDp hx hp hb hk1
  have hft := congrArg List.length (wFq hk1)
  rw [List.length_append] at hft
  have hfl := flat_le (bs := bs) (k + 1)
  refine wAi rfl rfl (wBb rfl rfl rfl rfl (by omega)) ?_
  refine wAi rfl rfl (qLd rfl rfl rfl rfl ((hcl.mono hMg).cj _)) ?_
  refine jp rfl (wAc (jT (wAa (jp rfl (jp rfl (wAv rfl rfl (wBk (R := R) (news := wAj bs[k]) rfl rfl rfl rfl hown (by rw [wAm, Nat.mul_one]) (hvs.mono hMg) (by rfl) (wBf _) (by omega) (by omega)) ?_)))))); rintro s' _ _ ⟨rfl, R', rfl, hown'⟩
  obtain ⟨a2, c2, rfl⟩ := hown'.form
  refine jp rfl (wAc (jB (jT (wAa (ja rfl (by omega) ?_)))))
  refine jp rfl (wAc ?_)
  refine wAn (k + 1, R', .slice a2 _ c2) (.cons (t := 6) rfl (.cons (t := 25) rfl (.cons (t := 26) rfl (.cons (t := 27) rfl .nil)))) ⟨by show k + 1 ≤ bs.length; omega, ?_⟩ (by show bs.length - (k + 1) < bs.length - k; omega) (fun _ h => h.fewer (by simp))
  show Own _ _ _ _ (bs.take (k + 1)).flatten.length (wAj (bs.take (k + 1)).flatten)
  rw [wFq hk1, List.length_append, show wAj ((bs.take k).flatten ++ bs[k]) = wAj (bs.take k).flatten ++ wAj bs[k] by simp [wAj]]; exact hown'
 refine wAc (jT (wAb (wAk rfl (wAs (jTx (jTx (jBx (jT (wAb (wAa (jp rfl (jp rfl (wAc (jT (wAf (jr1 rfl rfl ?_))))))))))))))))
 obtain rfl : k = bs.length := by omega
 rw [List.take_length] at hown; exact hown
theorem wGv (bs : List (List By)) (v : Value) (M : Mem) (h : LS M v bs) (hn : bs.length ≤ 1000) (ht : bs.flatten.length ≤ 1000000) : SpecL Tryz.prog 76 #[v] M [] fun u _ L' => Own u L' 5 1 bs.flatten.length (wAj bs.flatten) := by
 obtain ⟨a, c, ps, rfl, hc, hs, hp, hb⟩ := h
 exact concat_walk bs a c ps M hc hs hp hb hn ht
def padB (b : List By) : List By := b ++ List.replicate (124 - b.length) 0
def sealB (b : List By) : List By := wEj (wJe (padB b)) ++ padB b
theorem padB_len {b : List By} (h : b.length ≤ 124) : (padB b).length = 124 := by unfold padB; rw [List.length_append, List.length_replicate]; omega
theorem sealB_len {b : List By} (h : b.length ≤ 124) : (sealB b).length = 128 := by unfold sealB; rw [List.length_append, padB_len h]; rfl
theorem pad_cells {b : List By} (h : b.length ≤ 124) : ((List.replicate (124 : Int).toNat [Value.int .u8 0]).flatten).take 0 ++ wAj b ++ ((List.replicate (124 : Int).toNat [Value.int .u8 0]).flatten).drop (0 + (wAj b).length) = wAj (padB b) := by
 have e : (List.replicate (124 : Int).toNat [Value.int .u8 0]).flatten = List.replicate 124 (Value.int .u8 0) := by simp
 rw [e, wAm, List.take_zero, List.nil_append, Nat.zero_add, List.drop_replicate]
 unfold padB wAj
 rw [List.map_append, List.map_replicate]; rfl
theorem LS.two {M : Mem} {b : Nat} {u v : Value} {x y : List By} (h : M b = some (.cells [u, v].toArray 26 (0, 0))) (h1 : BS M u x) (h2 : BS M v y) : LS M (.slice (some ⟨b, 0, none⟩) 2 2) [x, y] :=
 ⟨_, 2, [(x, u), (y, v)], rfl, Nat.le_refl _, SM.of_block (l := [u, v]) h, rfl, fun p hp => by
  rcases List.mem_cons.1 hp with rfl | hp
  ·exact h1
  rw [List.mem_singleton.1 hp]; exact h2⟩
theorem seal_walk (b : List By) (a : Option Addr) (c : Nat) (M : Mem) (hc : b.length ≤ c) (hs : SM M a (wAj b)) (h : b.length ≤ 124) :
  SpecL Tryz.prog 78 #[.slice a b.length c] M [] fun u M' L' => (∃ s, u = .tuple #[s, .int .i64 0] ∧ BS M' s (sealB b)) ∧ L' = [] := by
 refine wAe (vs := [_]) 18 _ Tryz.func78 rfl Tryz.ntmps78 rfl rfl ?_; intro W
 refine wAb (wAa (jp rfl (jp rfl (wAc (jT (wAb (wAb (wAa (jp rfl (wAi rfl rfl (wBe rfl rfl rfl) ?_))))))))))
 refine jf rfl (decide_eq_false (by omega)) ?_
 refine wAc (jT (wAk rfl (wAd (jT (wAb (wAa (wAv rfl rfl (wEa rfl rfl rfl rfl (by omega) (by rfl)) ?_))))))); rintro _ _ _ ⟨b8, rfl, rfl, rfl⟩
 refine jp rfl (wAc (jT (wAb (wAa (jp rfl (jp rfl ?_))))))
 refine wAv rfl rfl (hCopy (cs := wAj b) rfl rfl rfl rfl (by rw [wAm]; show _ = min b.length 124; omega) (hs.sj _) (wBf _) (by rw [wAm]; show 0 + b.length ≤ 124; omega)) ?_; rintro _ _ _ ⟨rfl, rfl, rfl⟩
 rw [pad_cells h]
 refine wAc (jT (wAb (wAa (jp rfl (jl_freeze b8 (by simp) ?_)))))
 intro M1 hM1 e1
 have hpl := padB_len h
 have hpb : BS M1 (.slice (some ⟨b8, 0, none⟩) (124 : Int).toNat (124 : Int).toNat) (padB b) := ⟨_, _, by rw [hpl]; rfl, by rw [hpl]; exact Nat.le_refl _, SM.of_block e1⟩
 have hps : SM M1 (some ⟨b8, 0, none⟩) (wAj (padB b)) := SM.of_block e1
 refine wAi rfl rfl (wAy rfl rfl rfl rfl rfl (by kernel_rfl) (by have := of_spec _ (124 : Int).toNat (padB b) M1 hps (by omega); rw [hpl] at this; exact this)) ?_
 refine wAv rfl rfl (wAt rfl rfl rfl rfl rfl (by kernel_rfl) (wCo _ M1)) ?_; rintro _ M2 _ ⟨hM2, _, rfl, ⟨hf, rfl⟩⟩
 obtain ⟨fa, fc, rfl, _, _⟩ := id hf
 simp only [nA]
 refine jp rfl (wAv rfl rfl (wAr (cs := [_, _]) rfl rfl rfl (by rfl) (by rfl) (by rfl)) ?_); rintro _ _ _ ⟨b16, rfl, rfl, rfl⟩
 refine jl_freeze b16 (by simp) ?_
 intro M3 hM3 e3
 have hls := LS.two e3 (hf.mono hM3) (hpb.mono (hM2.trans hM3))
 refine wAv rfl rfl (wAt rfl rfl rfl rfl rfl (by kernel_rfl) (wGv _ _ M3 hls (by simp) (by simp [hpl, wEj]))) ?_; rintro _ M4 _ ⟨hM4, _, rfl, hown⟩
 refine jp rfl (jp rfl (wAc (jT (wAf (wGi hown (by simp) ?_)))))
 intro M5 a5 c5 hM5 e5 hc5 hs5; subst e5
 refine jr2 rfl rfl rfl ?_
 refine ⟨⟨_, rfl, a5, c5, ?_, ?_, ?_⟩, rfl⟩
 ·simp [sealB]
 ·simpa [sealB] using hc5
 simpa [sealB] using hs5
def itB (x : It) : List By := [bU x.key.kind] ++ wEj x.key.id ++ wEj x.key.off ++ wGn x.ref ++ [bU x.val.length] ++ x.val
def wJh (lv : Int) (xs : List It) : List By := [78, bU lv, bU xs.length] ++ xs.flatMap itB
theorem flat_step {xs : List It} {k : Nat} (h : k < xs.length) : (xs.take (k + 1)).flatMap itB = (xs.take k).flatMap itB ++ itB xs[k] := by
 rw [List.take_succ_eq_append_getElem h, List.flatMap_append]; simp
end Go.Proofs.YtbhkdjheooknfaaGreat
