/- Walks: stores made. -/
import Derived.Test.YtckdncmjkloebaaZTwin
namespace Go.Proofs.Ytckdncmjkloebaa
set_option linter.unusedVariables false
set_option linter.unusedSimpArgs false
open Go.RowKit
theorem dtwin_spec (bs : List (List By)) (ws : List Wt) (u v : Value) (M : Mem) (h1 : LS M u bs) (h2 : WS M v ws) (h : dkOk bs ws) : SpecL Try.prog 80 #[.agg #[u, v]] M [] fun u M' L' => (∃ bv' wv', u = .agg #[bv', wv'] ∧ LS M' bv' bs ∧ WS M' wv' ws) ∧ L' = [] := by
 obtain ⟨a1, c1, ps1, rfl, hc1, hs1, hp1, hb1⟩ := h1
 obtain ⟨a2, c2, ps2, rfl, hc2, hs2, hp2, hb2⟩ := h2
 exact dtwin_walk bs ws a1 c1 ps1 a2 c2 ps2 M hc1 hs1 hp1 hb1 hc2 hs2 hp2 hb2 h
abbrev TSt : TypeId := 29
set_option maxHeartbeats 1000000 in
theorem rtwin_walk (s : Sto) (bv wv nv lv : Value) (M : Mem) (h1 : LS M bv s.blocks) (h2 : WS M wv s.waits) (h3 : BS M nv s.now) (h4 : BS M lv s.last) (hdk : dkOk s.blocks s.waits) (hn : s.now.length ≤ 100000) (hl : s.last.length ≤ 100000) :
  SpecL Try.prog 61 #[.agg #[bv, wv, nv, lv]] M [] fun u M' L' => ST M' u s ∧ L' = [] := by
 refine wAi (vs := [_]) 13 _ Try.func61 rfl Try.ntmps61 rfl rfl ?_; intro W
 refine wAb (wAa ?_)
 refine wAu rfl rfl (wEq (cs := [_, _, _, _]) rfl rfl rfl rfl) ?_; rintro _ _ _ ⟨b1, rfl, rfl, rfl⟩
 refine wAu rfl rfl (wAr rfl rfl) ?_; rintro _ _ _ ⟨b2, rfl, rfl, rfl⟩
 refine wAc (jT (wAb ?_))
 refine wBv [(0, true), (1, true), (3, true), (4, true), (6, true), (7, true), (2, false), (5, false), (8, false), (9, true), (10, false)] [(b1, .cells [bv, wv, nv, lv].toArray TSt (0, 0))] (by kernel_rfl) (by kernel_rfl) (by kernel_rfl) rfl (by simp) ?_
 refine wAw rfl rfl rfl (wAd rfl rfl rfl rfl rfl) ?_
 refine wAw rfl rfl rfl (wCb rfl rfl rfl rfl rfl) ?_
 refine wAw rfl rfl rfl (wAd rfl rfl rfl rfl rfl) ?_
 refine wAw rfl rfl rfl (qLd rfl rfl rfl rfl (CJ.loc rfl)) ?_
 refine wAw rfl rfl rfl (wAd rfl rfl rfl rfl rfl) ?_
 refine wAw rfl rfl rfl (qLd rfl rfl rfl rfl (CJ.loc rfl)) ?_
 refine wJa rfl rfl rfl (wAv rfl rfl rfl rfl rfl (by kernel_rfl) (dtwin_spec s.blocks s.waits bv wv M h1 h2 hdk)) ?_; rintro _ M1 _ ⟨hM1, _, rfl, ⟨⟨bv2, wv2, rfl, hB, hW⟩, rfl⟩⟩
 refine ⟨_, _, MLe.refl _, hM1, fun _ h => h, by simp, ?_⟩
 obtain ⟨ba, bc, bps, rfl, _⟩ := id hB
 obtain ⟨wa, wc, wps, rfl, _⟩ := id hW
 refine wJa rfl rfl rfl (wAv rfl rfl rfl rfl rfl (by kernel_rfl) (wGa nv s.now M1 (h3.mono hM1) hn)) ?_; rintro _ M2 _ ⟨hM2, R8, rfl, hown8⟩
 refine ⟨_, _, MLe.refl _, hM1.trans hM2, fun _ h => h, by simp, ?_⟩
 obtain ⟨na, nc, rfl⟩ := hown8.form
 refine wJa rfl rfl rfl (wAv rfl rfl rfl rfl rfl (by kernel_rfl) (wGa lv s.last M2 (h4.mono (hM1.trans hM2)) hl)) ?_; rintro _ M3 _ ⟨hM3, R11, rfl, hown11⟩
 refine ⟨_, _, MLe.refl _, (hM1.trans hM2).trans hM3, fun _ h => h, by simp, ?_⟩
 obtain ⟨la, lc, rfl⟩ := hown11.form
 refine wAw rfl rfl rfl (wAy (cs := [_, _, _, _]) rfl rfl rfl (by rfl)) ?_
 refine jd_s rfl rfl (wAf rfl rfl rfl rfl rfl rfl rfl rfl) ?_; rintro _ _ _ ⟨rfl, rfl⟩
 refine ⟨_, _, MLe.refl _, (hM1.trans hM2).trans hM3, fun _ h => h, by simp, ?_⟩
 refine wBn (jPn (jT (wAh ?_)))
 refine wHn hown8 (by simp) ?_
 intro M4 a4 c4 hM4 e4 hc4 hs4; cases e4
 refine wHn hown11 (by simp) ?_
 intro M5 a5 c5 hM5 e5 hc5 hs5; cases e5
 refine wEm (rs := [_]) ([]) (by exact List.nil_sublist _) rfl (.cons (.agg rfl rfl rfl) .nil) ?_
 exact ⟨⟨_, _, _, _, rfl, hB.mono (hM2.trans (hM3.trans (hM4.trans hM5))), hW.mono (hM2.trans (hM3.trans (hM4.trans hM5))), ⟨_, _, rfl, hc4, hs4.mono hM5⟩, ⟨_, _, rfl, hc5, hs5⟩⟩, rfl⟩
theorem wJx (s : Sto) (p : Nat) (bv wv nv lv : Value) (M : Mem) (hpm : M p = some (.cells [bv, wv, nv, lv].toArray TBn (0, 0))) (h1 : LS M bv s.blocks) (h2 : WS M wv s.waits) (h3 : BS M nv s.now) (h4 : BS M lv s.last) (hdk : dkOk s.blocks s.waits) (hn : s.now.length ≤ 100000) (hl : s.last.length ≤ 100000) :
  SpecL Try.prog 28 #[.pointer (some ⟨p, 0, none⟩)] M [] fun u M' L' => ST M' u s ∧ L' = [] := by
 refine wAi (vs := [_]) 8 _ Try.func28 rfl Try.ntmps28 rfl rfl ?_; intro W
 refine wAb (wAa ?_)
 refine wAu rfl rfl (wAr rfl rfl) ?_; rintro _ _ _ ⟨b2, rfl, rfl, rfl⟩
 refine wAc (jT (wAb (wAa ?_)))
 refine jp rfl ?_
 refine wAe rfl rfl (wBp rfl rfl rfl) ?_
 refine wAe rfl rfl (wAd rfl rfl rfl rfl rfl) ?_
 refine wAe rfl rfl (wGu (cs := [bv, wv, nv, lv]) rfl rfl rfl rfl rfl (fun i v hv => CM.cj ⟨_, _, _, hpm, by simpa using hv⟩ _)) ?_
 refine wAu rfl rfl (wAv rfl rfl rfl rfl rfl (by kernel_rfl) (rtwin_walk s bv wv nv lv M h1 h2 h3 h4 hdk hn hl)) ?_; rintro _ M1 _ ⟨hM1, _, rfl, ⟨hst, rfl⟩⟩
 obtain ⟨q1, q2, q3, q4, rfl, g1, g2, g3, g4⟩ := hst.ex
 obtain ⟨ba, bc, bps, rfl, _⟩ := id g1
 obtain ⟨wa, wc, wps, rfl, _⟩ := id g2
 obtain ⟨na, nc, rfl, _⟩ := id g3
 obtain ⟨la, lc, rfl, _⟩ := id g4
 refine wBg rfl (wAf rfl rfl rfl rfl rfl rfl rfl rfl) ?_; rintro _ _ _ ⟨rfl, rfl⟩
 refine wAc (jT (wAh ?_))
 refine wEm (rs := [_]) ([]) (by exact List.nil_sublist _) rfl (.cons (.agg rfl rfl rfl) .nil) ?_
 exact ⟨⟨_, _, _, _, rfl, g1, g2, g3, g4⟩, rfl⟩
def Z128 : List By := List.replicate 128 0
def Z256 : List By := List.replicate 256 0
theorem zcells (n : Nat) (k : Int) (hk : k = (n : Int)) : (List.replicate k.toNat [Value.int .u8 0]).flatten = wAn (List.replicate n 0) := by rw [hk]; simp [wAn]
theorem z256 : (List.replicate (256 : Int).toNat [Value.int .u8 0]).flatten = wAn Z256 := zcells 256 256 rfl
theorem z128 : (List.replicate (128 : Int).toNat [Value.int .u8 0]).flatten = wAn Z128 := zcells 128 128 rfl
theorem Z128_len : Z128.length = 128 := List.length_replicate
theorem Z256_len : Z256.length = 256 := List.length_replicate
def newC (vals : List Value) : List Value := vals ++ List.replicate (256 - vals.length) nilV
theorem newC_zero : (List.replicate (256 : Int).toNat [Value.slice none 0 0]).flatten = newC [] := by
 unfold newC nilV; rw [List.flatten_replicate_singleton, List.nil_append]; rfl
theorem newC_len {vals : List Value} (h : vals.length ≤ 256) : (newC vals).length = 256 := by simp [newC]; omega
theorem newC_step {vals : List Value} {o : Nat} {v : Value} (h : vals.length < 256) (ho : o = vals.length) : (newC vals).take o ++ [v] ++ (newC vals).drop (o + [v].length) = newC (vals ++ [v]) := by
 subst ho
 unfold newC
 rw [List.take_left' rfl, List.drop_append, List.drop_eq_nil_of_le (by simp), List.nil_append, List.drop_replicate]
 simp
 omega
theorem cnew_spec (M : Mem) :
  SpecL Try.prog 46 #[] M [] fun u M' L' => BS M' u Z256 ∧ L' = [] := by
 refine wAi (vs := []) 2 _ Try.func46 rfl Try.ntmps46 rfl rfl ?_; intro W
 refine wAb (wAa ?_)
 refine jp rfl ?_
 refine wAc (jT (wAb (wAa ?_)))
 refine wAu rfl rfl (wJs rfl rfl rfl rfl (by omega) (by rfl)) ?_; rintro _ _ _ ⟨b1, rfl, rfl, rfl⟩
 rw [z256]
 refine jp rfl ?_
 refine wAc (jT (wAh ?_))
 refine wCe b1 (by simp) ?_
 intro M1 hM1 e1
 refine jr1 rfl rfl ?_
 exact ⟨⟨_, 256, by rw [Z256_len]; rfl, by rw [Z256_len]; exact Nat.le_refl _, SM.of_block e1⟩, rfl⟩
set_option maxHeartbeats 1000000 in
theorem dnew_spec (M : Mem) :
  SpecL Try.prog 45 #[] M [] fun u M' L' => (∃ bv wv, u = .agg #[bv, wv] ∧ LS M' bv (List.replicate 256 Z128) ∧ WS M' wv []) ∧ L' = [] := by
 refine wAi (vs := []) 18 _ Try.func45 rfl Try.ntmps45 rfl rfl ?_; intro W
 refine wAb (wAa ?_)
 refine wAu rfl rfl (wAr rfl rfl) ?_; rintro _ _ _ ⟨b0, rfl, rfl, rfl⟩
 refine wAc (jT (wAb (wAa ?_)))
 refine wAu rfl rfl (wJs rfl rfl rfl rfl (by omega) (by rfl)) ?_; rintro _ _ _ ⟨b3, rfl, rfl, rfl⟩
 rw [newC_zero]
 refine wAe rfl rfl (wAy (cs := [_, _]) rfl rfl rfl (by rfl)) ?_
 refine wAu rfl rfl (wAr rfl rfl) ?_; rintro _ _ _ ⟨b1, rfl, rfl, rfl⟩
 refine wBg rfl (wAf rfl rfl rfl rfl rfl rfl rfl rfl) ?_; rintro _ _ _ ⟨rfl, rfl⟩
 refine wAc (jT (wAb (wAb (wAa ?_))))
 refine wAe rfl rfl (wAd rfl rfl rfl rfl rfl) ?_
 refine wAe rfl rfl (qLd rfl rfl rfl rfl (CJ.loc rfl)) ?_
 refine wAe rfl rfl (wBy rfl rfl rfl) ?_
 refine jp rfl ?_
 refine wAc (jT (wAk ?_))
 refine wBf (α := Nat × Mem × List Value) (fun x => [(0, .pointer (some ⟨b0, 0, none⟩)), (1, .pointer (some ⟨b1, 0, none⟩)), (6, .slice (some ⟨b3, 0, none⟩) 256 256), (7, .int .i64 256), (8, .int .i64 (x.1 : Int))]) (fun x => x.2.1) (fun x => [(b1, .cells [.slice (some ⟨b3, 0, none⟩) 256 256, .slice none 0 0].toArray 26 (0, 0)), (b3, .cells (newC x.2.2).toArray 27 (0, 0)), (b0, .cells [.slice none 0 0, .slice none 0 0].toArray 26 (0, 0))]) (fun x => x.1 ≤ 256 ∧ x.2.2.length = x.1 ∧ ∀ v ∈ x.2.2, BS x.2.1 v Z128) (fun x => 256 - x.1)
  (0, M, []) (Keep.cons (t := 0) rfl (Keep.cons (t := 1) rfl (Keep.cons (t := 6) rfl (Keep.cons (t := 7) rfl (Keep.cons (t := 8) rfl Keep.nil))))) ⟨Nat.zero_le _, rfl, fun _ h => by cases h⟩ (fun _ h => h) ?_
 rintro ⟨k, Mk, vals⟩ ⟨hk, hvl, hvs⟩
 try dsimp only at hk hvl hvs ⊢
 refine wAb (wAa ?_)
 refine js rfl (fun h9 => ?_) (fun h9 => ?_)
 ·refine wAc (jT (wAb (wAj rfl (wAg (jT (wAb (wAk (wAb (wAa ?_)))))))))
  iterate 2 refine jp rfl ?_
  refine wAc (jT ?_)
  refine wBv [(0, true), (1, true), (2, true), (3, false), (4, true), (5, false)] [(b1, .cells [.slice (some ⟨b3, 0, none⟩) 256 256, .slice none 0 0].toArray 26 (0, 0))] (by kernel_rfl) (by kernel_rfl) (by kernel_rfl) rfl (by simp) ?_
  refine wAw rfl rfl rfl (wAd rfl rfl rfl rfl rfl) ?_
  refine wAw rfl rfl rfl (qLd rfl rfl rfl rfl (CJ.loc rfl)) ?_
  refine dp rfl rfl ?_
  refine wJa rfl rfl rfl (wJs rfl rfl rfl rfl (by omega) (by rfl)) ?_; rintro _ _ _ ⟨b14, rfl, rfl, rfl⟩
  refine ⟨_, _, MLe.refl _, MLe.refl _, fun _ h => h, by simp, ?_⟩
  rw [z128]
  refine wAw rfl rfl rfl (wBh rfl rfl rfl rfl (by omega)) ?_
  refine jd_s rfl rfl (hStore rfl rfl rfl rfl rfl rfl (by simp [Value.oneCell']) (by rw [newC_len (by omega)]; show _ + 1 ≤ _; omega)) ?_; rintro _ _ _ ⟨rfl, rfl⟩
  refine ⟨_, _, MLe.refl _, MLe.refl _, fun _ h => h, by simp, ?_⟩
  rw [newC_step (by omega) (by omega)]
  refine wBn (jPn (jB (jT (wAa ?_))))
  refine ja rfl (by omega) ?_
  refine jp rfl ?_
  refine wAc ?_
  refine wCe b14 (by simp) ?_
  intro Mf hMf e14
  refine wBc (k + 1, Mf, vals ++ [.slice (some ⟨b14, 0, none⟩) (128 : Int).toNat (128 : Int).toNat]) (Keep.cons (t := 0) rfl (Keep.cons (t := 1) rfl (Keep.cons (t := 6) rfl (Keep.cons (t := 7) rfl (Keep.cons (t := 8) rfl Keep.nil))))) ⟨by show k + 1 ≤ 256; omega, by show (vals ++ [_]).length = k + 1; rw [List.length_append, hvl]; rfl, ?_⟩ (by show 256 - (k + 1) < 256 - k; omega) (fun _ h => h)
  intro v hv; rcases List.mem_append.1 hv with hv | hv
  ·exact (hvs v hv).mono hMf
  ·rw [List.mem_singleton.1 hv]; exact ⟨_, 128, by rw [Z128_len]; rfl, by rw [Z128_len]; exact Nat.le_refl _, SM.of_block e14⟩
 ·refine wAc (jT (wAb (wAm rfl (wBe (jTx (jTx (jBx (jT (wAb (wAa ?_))))))))))
  refine wAe rfl rfl (wCb rfl rfl rfl rfl rfl) ?_
  refine wBg rfl (wAf rfl rfl rfl rfl rfl rfl rfl rfl) ?_; rintro _ _ _ ⟨rfl, rfl⟩
  refine wAc (jT (wAh ?_))
  obtain rfl : k = 256 := by omega
  refine wCe b3 (by simp) ?_
  intro Mf hMf e3
  refine wEm (rs := [_]) ([]) (by exact List.nil_sublist _) rfl (.cons (.agg rfl rfl rfl) .nil) ?_
  refine ⟨⟨_, _, rfl, ⟨_, 256, vals.map (fun v => (Z128, v)), by rw [List.length_replicate], by rw [List.length_replicate]; exact Nat.le_refl _, ?_, ?_, ?_⟩, ⟨none, 0, [], rfl, Nat.le_refl _, SM.nil, rfl, fun _ h => by cases h⟩⟩, rfl⟩
  ·have := SM.of_block e3; unfold newC at this; rw [hvl, Nat.sub_self, List.replicate_zero, List.append_nil] at this; rw [List.map_map, show ((fun p : List By × Value => p.2) ∘ fun v => (Z128, v)) = id from rfl, List.map_id]; exact this
  ·rw [List.map_map, show ((fun p : List By × Value => p.1) ∘ fun v => (Z128, v)) = fun _ => Z128 from rfl, List.map_const', hvl]
  ·intro p hp; obtain ⟨v, hv, rfl⟩ := List.mem_map.1 hp; exact (hvs v hv).mono hMf
def st0 : Sto := ⟨List.replicate 256 Z128, [], Z256, Z256⟩
theorem rnew_spec (M : Mem) :
  SpecL Try.prog 18 #[] M [] fun u M' L' => ST M' u st0 ∧ L' = [] := by
 refine wAi (vs := []) 5 _ Try.func18 rfl Try.ntmps18 rfl rfl ?_; intro W
 refine wAb (wAa ?_)
 refine wAu rfl rfl (wAr rfl rfl) ?_; rintro _ _ _ ⟨b0, rfl, rfl, rfl⟩
 refine wAc (jT (wAb (wAa ?_)))
 refine wAu rfl rfl (wAv rfl rfl rfl rfl rfl (by kernel_rfl) (dnew_spec M)) ?_; rintro _ M1 _ ⟨hM1, _, rfl, ⟨⟨bv, wv, rfl, hB, hW⟩, rfl⟩⟩
 obtain ⟨ba, bc, bps, rfl, _⟩ := id hB
 obtain ⟨wa, wc, wps, rfl, _⟩ := id hW
 refine wAu rfl rfl (wAv rfl rfl rfl rfl rfl (by kernel_rfl) (cnew_spec M1)) ?_; rintro _ M2 _ ⟨hM2, _, rfl, ⟨hn, rfl⟩⟩
 obtain ⟨na, nc, rfl, _⟩ := id hn
 refine wAu rfl rfl (wAv rfl rfl rfl rfl rfl (by kernel_rfl) (cnew_spec M2)) ?_; rintro _ M3 _ ⟨hM3, _, rfl, ⟨hl, rfl⟩⟩
 obtain ⟨la, lc, rfl, _⟩ := id hl
 refine wAe rfl rfl (wAy (cs := [_, _, _, _]) rfl rfl rfl (by rfl)) ?_
 refine wBg rfl (wAf rfl rfl rfl rfl rfl rfl rfl rfl) ?_; rintro _ _ _ ⟨rfl, rfl⟩
 refine wAc (jT (wAh ?_))
 refine wEm (rs := [_]) ([]) (by exact List.nil_sublist _) rfl (.cons (.agg rfl rfl rfl) .nil) ?_
 exact ⟨⟨_, _, _, _, rfl, hB.mono (hM2.trans hM3), hW.mono (hM2.trans hM3), hn.mono hM3, hl⟩, rfl⟩
theorem jl_bench {P : Program} {ops : Array Oper} {N : Fs} {F : Fr} {W : World} {X : List Nat} {M0 M : Mem} {L L2 Lb : Lc} {Q : Exit → Act → World → Prop} {rest : List Oper} {bb : Nat} {s : Sto} (hB : BOwn M bb Lb s) [hp : Pick Lb L L2] (hg : ∀ p ∈ Lb, p.1 ∉ X)
  (h : ∀ M' bv wv nv lv, MLe M M' → M' bb = some (.cells [bv, wv, nv, lv].toArray TBn (0, 0)) → LS M' bv s.blocks → WS M' wv s.waits → BS M' nv s.now → BS M' lv s.last → JL P ops N Q rest F ⟨W, X, M0⟩ M' L2) : JL P ops N Q rest F ⟨W, X, M0⟩ M L := by
 obtain ⟨bv, wv, na, nc, lv, Rw, Rn, rfl, g2, g3, g4, wps, hw1, hw2, hw3⟩ := hB
 refine jl_weak (M' := M) (L' := (bb, .cells [bv, wv, .slice na s.now.length nc, lv].toArray TBn (0, 0)) :: (Rw ++ (Rn ++ L2))) (fun w hw => by have := hw.perm hp.perm; rwa [List.cons_append, List.append_assoc] at this) ?_
 have fin : ∀ (M1 : Mem) (wv' : Value), MLe M M1 → wv' = wv → WS M1 wv' s.waits → JL P ops N Q rest F ⟨W, X, M0⟩ M1 ((bb, .cells [bv, wv, .slice na s.now.length nc, lv].toArray TBn (0, 0)) :: (Rn ++ L2)) := fun M1 wv' hM1 e hW => by
  subst e
  refine jl_own g4 (fun p hp => hg p (by simp [hp])) ?_
  intro M2 a2 c2 hM2 e2 hc2 hs2
  refine wGp bb (hg _ (List.mem_cons_self (a := (bb, _)))) ?_
  intro M3 hM3 e3
  rw [e2] at e3
  exact h M3 _ _ _ _ (hM1.trans (hM2.trans hM3)) e3 (g2.mono (hM1.trans (hM2.trans hM3))) (hW.mono (hM2.trans hM3)) ⟨_, _, rfl, hc2, hs2.mono hM3⟩ (g3.mono (hM1.trans (hM2.trans hM3)))
 rcases hw3 with hw3 | ⟨rfl, hfl, ba, rfl, hbs, hold⟩
 ·refine jl_own hw3 (fun p hp => hg p (by simp [hp])) ?_
  intro M1 a1 c1 hM1 e1 hc1 hs1
  exact fin M1 _ hM1 e1.symm ⟨a1, c1, wps, rfl, hc1, hs1, hw1, fun p hp => (hw2 p hp).mono hM1⟩
 ·refine fin M _ (MLe.refl _) rfl ⟨_, _, wps, rfl, Nat.le_refl _, ?_, hw1, hw2⟩
  rcases hbs with h0 | hbs
  ·exact .inl h0
  ·obtain ⟨b, of, sp⟩ := ba
   simp only at hbs
   subst hbs
   exact .inr ⟨b, of, rfl, hold⟩
theorem wBx {xs : List By} {k j : Nat} {v : By} (h : j ≠ k) : (xs.set k v).getD j 0 = xs.getD j 0 := by
 simp only [List.getD, List.getElem?_set]; rw [if_neg (fun e => h e.symm)]
theorem take_set8 {xs : List By} {k : Nat} {v : By} (h : 8 ≤ k) : (xs.set k v).take 8 = xs.take 8 := by
 rw [List.take_set]; rw [List.set_eq_of_length_le]; rw [List.length_take]; omega
theorem wLa {xs : List By} {k : Nat} {v : By} (h : 8 ≤ k) (hx : ctOk xs) : ctOk (xs.set k v) := by
 unfold ctOk at *; rw [List.length_set, take_set8 h]; exact hx
theorem frAt_ge (s : Sto) : ∀ (f k : Nat), k ≤ frAt s f k
 | 0, k => Nat.le_refl _
 | f + 1, k => by
  rw [frAt]; split
  ·exact Nat.le_refl _
  ·exact Nat.le_trans (Nat.le_succ k) (frAt_ge s f (k + 1))
theorem shareL_ok {s : Sto} {xs : List It} (h : ctOk s.now) (hr : ∀ x ∈ xs, x.ref = 0 ∨ 8 ≤ x.ref ∧ x.ref < 256) : ctOk (wBb s xs).now := by
 unfold wBb
 induction xs generalizing s with
 | nil => exact h
 | cons x xs ih =>
  rw [List.foldl_cons]
  refine ih ?_ (fun y hy => hr y (by simp [hy]))
  have := hr x (by simp)
  split
  ·exact h
  ·exact wLa (by omega) h
theorem mkS_ok {s : Sto} {lv : Int} {xs : List It} (hst : wCr s) (hok : wGx lv xs = true) (hat : wGg (wBb s xs) < 256) (hwl : s.waits.length < 4096) : wCr (mkS s lv xs) := by
 obtain ⟨⟨q1, q2, q3, q4⟩, h2, h3⟩ := hst
 obtain ⟨e1, e2, e3, e4⟩ := wEr s xs
 have hno := NdOk.of hok
 refine ⟨⟨?_, ?_, ?_, ?_⟩, ?_, ?_⟩
 ·show (wBb s xs).blocks.length = 256; rw [e4]; exact q1
 ·show ((wBb s xs).waits ++ [_]).length ≤ 4096; rw [e2, List.length_append]; show _ + 1 ≤ _; omega
 ·show ∀ b ∈ (wBb s xs).blocks, _; rw [e4]; exact q3
 ·show ∀ w ∈ (wBb s xs).waits ++ [_], _
  rw [e2]
  intro w hw
  rcases List.mem_append.1 hw with hw | hw
  ·exact q4 w hw
  ·rw [List.mem_singleton.1 hw]
   refine ⟨by omega, by omega, sealB_len ?_⟩
   have := wKw (fun x hx => (wDp hno.ok x hx).1)
   have := hno.len
   unfold wFs; rw [List.length_append]; show 3 + _ ≤ 124; omega
 ·exact wLa (frAt_ge _ _ _) (shareL_ok h2 hno.ref)
 ·show ctOk (wBb s xs).last; rw [e3]; exact h3
end Go.Proofs.Ytckdncmjkloebaa
