/- Walks: stores made. -/
import Derived.Test.YtoincdcejjdgkaaGreatZTwin
namespace Go.Proofs.YtoincdcejjdgkaaGreat
set_option linter.unusedVariables false
set_option linter.unusedSimpArgs false
open Go.RowKit
theorem dtwin_spec (bs : List (List By)) (ws : List Wt) (u v : Value) (M : Mem) (h1 : LS M u bs) (h2 : WS M v ws) (h : dkOk bs ws) : SpecL Tryz.prog 38 #[.agg #[u, v]] M [] fun u M' L' => (∃ bv' wv', u = .agg #[bv', wv'] ∧ LS M' bv' bs ∧ WS M' wv' ws) ∧ L' = [] := by
 obtain ⟨a1, c1, ps1, rfl, hc1, hs1, hp1, hb1⟩ := h1
 obtain ⟨a2, c2, ps2, rfl, hc2, hs2, hp2, hb2⟩ := h2
 exact dtwin_walk bs ws a1 c1 ps1 a2 c2 ps2 M hc1 hs1 hp1 hb1 hc2 hs2 hp2 hb2 h
abbrev TSt : TypeId := 28
set_option maxHeartbeats 1000000 in
theorem rtwin_walk (s : Sto) (bv wv nv lv : Value) (M : Mem) (h1 : LS M bv s.blocks) (h2 : WS M wv s.waits) (h3 : BS M nv s.now) (h4 : BS M lv s.last) (hdk : dkOk s.blocks s.waits) (hn : s.now.length ≤ 100000) (hl : s.last.length ≤ 100000) :
  SpecL Tryz.prog 59 #[.agg #[bv, wv, nv, lv]] M [] fun u M' L' => ST M' u s ∧ L' = [] := by
 refine wAf (vs := [_]) 13 _ Tryz.func59 rfl Tryz.ntmps59 rfl rfl ?_; intro W
 refine wAb (wAa (wAw rfl rfl (wCb (cs := [_, _, _, _]) rfl rfl rfl rfl) ?_)); rintro _ _ _ ⟨b1, rfl, rfl, rfl⟩
 refine sAl rfl fun b2 => ?_
 refine wAc (jT (wAb (wBn [(0, true), (1, true), (3, true), (4, true), (6, true), (7, true), (2, false), (5, false), (8, false), (9, true), (10, false)] [(b1, .cells [bv, wv, nv, lv].toArray TSt (0, 0))] (by kernel_rfl) (by kernel_rfl) (by kernel_rfl) rfl (by simp) ?_)))
 refine dFa rfl rfl ?_
 refine dLL rfl rfl ?_
 refine dFa rfl rfl ?_
 refine dLd rfl rfl ?_
 refine dFa rfl rfl ?_
 refine dLd rfl rfl ?_
 refine wHh rfl rfl rfl (wAn rfl rfl rfl rfl rfl (by kernel_rfl) (dtwin_spec s.blocks s.waits bv wv M h1 h2 hdk)) ?_; rintro _ M1 _ ⟨hM1, _, rfl, ⟨⟨bv2, wv2, rfl, hB, hW⟩, rfl⟩⟩
 refine ⟨_, _, MLe.refl _, hM1, fun _ h => h, by simp, ?_⟩
 obtain ⟨ba, bc, bps, rfl, _⟩ := id hB
 obtain ⟨wa, wc, wps, rfl, _⟩ := id hW
 refine wHh rfl rfl rfl (wAn rfl rfl rfl rfl rfl (by kernel_rfl) (wCt nv s.now M1 (h3.mono hM1) hn)) ?_; rintro _ M2 _ ⟨hM2, R8, rfl, hown8⟩
 refine ⟨_, _, MLe.refl _, hM1.trans hM2, fun _ h => h, by simp, ?_⟩
 obtain ⟨na, nc, rfl⟩ := hown8.form
 refine wHh rfl rfl rfl (wAn rfl rfl rfl rfl rfl (by kernel_rfl) (wCt lv s.last M2 (h4.mono (hM1.trans hM2)) hl)) ?_; rintro _ M3 _ ⟨hM3, R11, rfl, hown11⟩
 refine ⟨_, _, MLe.refl _, (hM1.trans hM2).trans hM3, fun _ h => h, by simp, ?_⟩
 obtain ⟨la, lc, rfl⟩ := hown11.form
 refine wBi rfl rfl rfl (wAq (cs := [_, _, _, _]) rfl rfl rfl (by rfl)) ?_
 refine jd_s rfl rfl (wBs rfl rfl rfl rfl rfl rfl rfl rfl) ?_; rintro _ _ _ ⟨rfl, rfl⟩
 refine ⟨_, _, MLe.refl _, (hM1.trans hM2).trans hM3, fun _ h => h, by simp, ?_⟩
 refine wBg (jPn (jT (wAe (wHg hown8 (by simp) ?_))))
 intro M4 a4 c4 hM4 e4 hc4 hs4; cases e4
 refine wHg hown11 (by simp) ?_
 intro M5 a5 c5 hM5 e5 hc5 hs5; cases e5
 refine wCd (rs := [_]) ([]) (by exact List.nil_sublist _) rfl (.cons (.agg rfl rfl rfl) .nil) ?_
 exact ⟨⟨_, _, _, _, rfl, hB.mono (hM2.trans (hM3.trans (hM4.trans hM5))), hW.mono (hM2.trans (hM3.trans (hM4.trans hM5))), ⟨_, _, rfl, hc4, hs4.mono hM5⟩, ⟨_, _, rfl, hc5, hs5⟩⟩, rfl⟩
theorem wLb (s : Sto) (p : Nat) (bv wv nv lv : Value) (M : Mem) (hpm : M p = some (.cells [bv, wv, nv, lv].toArray TBn (0, 0))) (h1 : LS M bv s.blocks) (h2 : WS M wv s.waits) (h3 : BS M nv s.now) (h4 : BS M lv s.last) (hdk : dkOk s.blocks s.waits) (hn : s.now.length ≤ 100000) (hl : s.last.length ≤ 100000) :
  SpecL Tryz.prog 104 #[.pointer (some ⟨p, 0, none⟩)] M [] fun u M' L' => ST M' u s ∧ L' = [] := by
 refine wAf (vs := [_]) 8 _ Tryz.func104 rfl Tryz.ntmps104 rfl rfl ?_; intro W
 refine wAb (wAa (sAl rfl fun b2 => ?_))
 refine wAc (jT (wAb (wAa (jp rfl (wAi rfl rfl (wAx rfl rfl rfl) ?_)))))
 refine sFa rfl ?_
 refine wAi rfl rfl (wEy (cs := [bv, wv, nv, lv]) rfl rfl rfl rfl rfl (fun i v hv => CM.cj ⟨_, _, _, hpm, by simpa using hv⟩ _)) ?_
 refine wAw rfl rfl (wAn rfl rfl rfl rfl rfl (by kernel_rfl) (rtwin_walk s bv wv nv lv M h1 h2 h3 h4 hdk hn hl)) ?_; rintro _ M1 _ ⟨hM1, _, rfl, ⟨hst, rfl⟩⟩
 obtain ⟨q1, q2, q3, q4, rfl, g1, g2, g3, g4⟩ := hst.ex
 obtain ⟨ba, bc, bps, rfl, _⟩ := id g1
 obtain ⟨wa, wc, wps, rfl, _⟩ := id g2
 obtain ⟨na, nc, rfl, _⟩ := id g3
 obtain ⟨la, lc, rfl, _⟩ := id g4
 refine sSt rfl ?_
 refine wAc (jT (wAe (wCd (rs := [_]) ([]) (by exact List.nil_sublist _) rfl (.cons (.agg rfl rfl rfl) .nil) ?_)))
 exact ⟨⟨_, _, _, _, rfl, g1, g2, g3, g4⟩, rfl⟩
def Z128 : List By := List.replicate 128 0
def Z256 : List By := List.replicate 256 0
theorem zcells (n : Nat) (k : Int) (hk : k = (n : Int)) : (List.replicate k.toNat [Value.int .u8 0]).flatten = wAk (List.replicate n 0) := by rw [hk]; simp [wAk]
theorem z256 : (List.replicate (256 : Int).toNat [Value.int .u8 0]).flatten = wAk Z256 := zcells 256 256 rfl
theorem z128 : (List.replicate (128 : Int).toNat [Value.int .u8 0]).flatten = wAk Z128 := zcells 128 128 rfl
theorem Z128_len : Z128.length = 128 := List.length_replicate
theorem Z256_len : Z256.length = 256 := List.length_replicate
def newC (vals : List Value) : List Value := vals ++ List.replicate (256 - vals.length) nilV
theorem newC_zero : (List.replicate (256 : Int).toNat [Value.slice none 0 0]).flatten = newC [] := by
 unfold newC nilV; rw [List.flatten_replicate_singleton, List.nil_append]; rfl
theorem newC_len {vals : List Value} (h : vals.length ≤ 256) : (newC vals).length = 256 := by simp [newC]; omega
theorem newC_step {vals : List Value} {o : Nat} {v : Value} (h : vals.length < 256) (ho : o = vals.length) : (newC vals).take o ++ [v] ++ (newC vals).drop (o + [v].length) = newC (vals ++ [v]) := by
 subst ho
 unfold newC
 rw [List.take_left' rfl, List.drop_append, List.drop_eq_nil_of_le (by simp), List.nil_append, List.drop_replicate]
 simp
 omega
theorem cnew_spec (M : Mem) :
  SpecL Tryz.prog 79 #[] M [] fun u M' L' => BS M' u Z256 ∧ L' = [] := by
 refine wAf (vs := []) 2 _ Tryz.func79 rfl Tryz.ntmps79 rfl rfl ?_; intro W
 refine wAb (wAa (jp rfl (wAc (jT (wAb (wAa (wAw rfl rfl (wKv rfl rfl rfl rfl (by omega) (by rfl)) ?_))))))); rintro _ _ _ ⟨b1, rfl, rfl, rfl⟩
 rw [z256]
 refine jp rfl (wAc (jT (wAe (wBv b1 (by simp) ?_))))
 intro M1 hM1 e1
 refine jr1 rfl rfl ?_
 exact ⟨⟨_, 256, by rw [Z256_len]; rfl, by rw [Z256_len]; exact Nat.le_refl _, SM.of_block e1⟩, rfl⟩
set_option maxHeartbeats 1000000 in
theorem dnew_spec (M : Mem) :
  SpecL Tryz.prog 19 #[] M [] fun u M' L' => (∃ bv wv, u = .agg #[bv, wv] ∧ LS M' bv (List.replicate 256 Z128) ∧ WS M' wv []) ∧ L' = [] := by
 refine wAf (vs := []) 18 _ Tryz.func19 rfl Tryz.ntmps19 rfl rfl ?_; intro W
 refine wAb (wAa (sAl rfl fun b0 => ?_))
 refine wAc (jT (wAb (wAa (wAw rfl rfl (wKv rfl rfl rfl rfl (by omega) (by rfl)) ?_)))); rintro _ _ _ ⟨b3, rfl, rfl, rfl⟩
 rw [newC_zero]
 refine wAi rfl rfl (wAq (cs := [_, _]) rfl rfl rfl (by rfl)) ?_
 refine sAl rfl fun b1 => ?_
 refine sSt rfl ?_
 refine wAc (jT (wAb (wAb (wAa (sFL rfl rfl ?_)))))
 refine wAi rfl rfl (wBq rfl rfl rfl) ?_
 refine jp rfl (wAc (jT (wAh ?_)))
 refine wAr (α := Nat × Mem × List Value) (fun x => [(0, .pointer (some ⟨b0, 0, none⟩)), (1, .pointer (some ⟨b1, 0, none⟩)), (6, .slice (some ⟨b3, 0, none⟩) 256 256), (7, .int .i64 256), (8, .int .i64 (x.1 : Int))]) (fun x => x.2.1) (fun x => [(b1, .cells [.slice (some ⟨b3, 0, none⟩) 256 256, .slice none 0 0].toArray 25 (0, 0)), (b3, .cells (newC x.2.2).toArray 26 (0, 0)), (b0, .cells [.slice none 0 0, .slice none 0 0].toArray 25 (0, 0))]) (fun x => x.1 ≤ 256 ∧ x.2.2.length = x.1 ∧ ∀ v ∈ x.2.2, BS x.2.1 v Z128) (fun x => 256 - x.1)
  (0, M, []) (.cons (t := 0) rfl (.cons (t := 1) rfl (.cons (t := 6) rfl (.cons (t := 7) rfl (.cons (t := 8) rfl .nil))))) ⟨Nat.zero_le _, rfl, fun _ h => by cases h⟩ (fun _ h => h) ?_
 rintro ⟨k, Mk, vals⟩ ⟨hk, hvl, hvs⟩
 try dsimp only at hk hvl hvs ⊢
 refine wAb (wAa (js rfl (fun h9 => ?_) (fun h9 => ?_)))
 ·refine wAc (jT (wAb (wAg rfl (wAd (jT (wAb (wAh (wAb (wAa (jp rfl (jp rfl (wAc (jT (wBn [(0, true), (1, true), (2, true), (3, false), (4, true), (5, false)] [(b1, .cells [.slice (some ⟨b3, 0, none⟩) 256 256, .slice none 0 0].toArray 25 (0, 0))] (by kernel_rfl) (by kernel_rfl) (by kernel_rfl) rfl (by simp) ?_))))))))))))))
  refine dFa rfl rfl ?_
  refine dLd rfl rfl ?_
  refine dp rfl rfl ?_
  refine wHh rfl rfl rfl (wKv rfl rfl rfl rfl (by omega) (by rfl)) ?_; rintro _ _ _ ⟨b14, rfl, rfl, rfl⟩
  refine ⟨_, _, MLe.refl _, MLe.refl _, fun _ h => h, by simp, ?_⟩
  rw [z128]
  refine wBi rfl rfl rfl (wBa rfl rfl rfl rfl (by omega)) ?_
  refine jd_s rfl rfl (hStore rfl rfl rfl rfl rfl rfl (by simp [Value.oneCell']) (by rw [newC_len (by omega)]; show _ + 1 ≤ _; omega)) ?_; rintro _ _ _ ⟨rfl, rfl⟩
  refine ⟨_, _, MLe.refl _, MLe.refl _, fun _ h => h, by simp, ?_⟩
  rw [newC_step (by omega) (by omega)]
  refine wBg (jPn (jB (jT (wAa (ja rfl (by omega) ?_)))))
  refine jp rfl (wAc (wBv b14 (by simp) ?_))
  intro Mf hMf e14
  refine wAp (k + 1, Mf, vals ++ [.slice (some ⟨b14, 0, none⟩) (128 : Int).toNat (128 : Int).toNat]) (.cons (t := 0) rfl (.cons (t := 1) rfl (.cons (t := 6) rfl (.cons (t := 7) rfl (.cons (t := 8) rfl .nil))))) ⟨by show k + 1 ≤ 256; omega, by show (vals ++ [_]).length = k + 1; rw [List.length_append, hvl]; rfl, ?_⟩ (by show 256 - (k + 1) < 256 - k; omega) (fun _ h => h)
  intro v hv; rcases List.mem_append.1 hv with hv | hv
  ·exact (hvs v hv).mono hMf
  ·rw [List.mem_singleton.1 hv]; exact ⟨_, 128, by rw [Z128_len]; rfl, by rw [Z128_len]; exact Nat.le_refl _, SM.of_block e14⟩
 ·refine wAc (jT (wAb (wAj rfl (wAs (jTx (jTx (jBx (jT (wAb (wAa (sLL rfl ?_)))))))))))
  refine sSt rfl ?_
  refine wAc (jT (wAe ?_))
  obtain rfl : k = 256 := by omega
  refine wBv b3 (by simp) ?_
  intro Mf hMf e3
  refine wCd (rs := [_]) ([]) (by exact List.nil_sublist _) rfl (.cons (.agg rfl rfl rfl) .nil) ?_
  refine ⟨⟨_, _, rfl, ⟨_, 256, vals.map (fun v => (Z128, v)), by rw [List.length_replicate], by rw [List.length_replicate]; exact Nat.le_refl _, ?_, ?_, ?_⟩, ⟨none, 0, [], rfl, Nat.le_refl _, SM.nil, rfl, fun _ h => by cases h⟩⟩, rfl⟩
  ·have := SM.of_block e3; unfold newC at this; rw [hvl, Nat.sub_self, List.replicate_zero, List.append_nil] at this; rw [List.map_map, show ((fun p : List By × Value => p.2) ∘ fun v => (Z128, v)) = id from rfl, List.map_id]; exact this
  ·rw [List.map_map, show ((fun p : List By × Value => p.1) ∘ fun v => (Z128, v)) = fun _ => Z128 from rfl, List.map_const', hvl]
  ·intro p hp; obtain ⟨v, hv, rfl⟩ := List.mem_map.1 hp; exact (hvs v hv).mono hMf
def st0 : Sto := ⟨List.replicate 256 Z128, [], Z256, Z256⟩
theorem rnew_spec (M : Mem) :
  SpecL Tryz.prog 48 #[] M [] fun u M' L' => ST M' u st0 ∧ L' = [] := by
 refine wAf (vs := []) 5 _ Tryz.func48 rfl Tryz.ntmps48 rfl rfl ?_; intro W
 refine wAb (wAa (sAl rfl fun b0 => ?_))
 refine wAc (jT (wAb (wAa (wAw rfl rfl (wAn rfl rfl rfl rfl rfl (by kernel_rfl) (dnew_spec M)) ?_)))); rintro _ M1 _ ⟨hM1, _, rfl, ⟨⟨bv, wv, rfl, hB, hW⟩, rfl⟩⟩
 obtain ⟨ba, bc, bps, rfl, _⟩ := id hB
 obtain ⟨wa, wc, wps, rfl, _⟩ := id hW
 refine wAw rfl rfl (wAn rfl rfl rfl rfl rfl (by kernel_rfl) (cnew_spec M1)) ?_; rintro _ M2 _ ⟨hM2, _, rfl, ⟨hn, rfl⟩⟩
 obtain ⟨na, nc, rfl, _⟩ := id hn
 refine wAw rfl rfl (wAn rfl rfl rfl rfl rfl (by kernel_rfl) (cnew_spec M2)) ?_; rintro _ M3 _ ⟨hM3, _, rfl, ⟨hl, rfl⟩⟩
 obtain ⟨la, lc, rfl, _⟩ := id hl
 refine wAi rfl rfl (wAq (cs := [_, _, _, _]) rfl rfl rfl (by rfl)) ?_
 refine sSt rfl ?_
 refine wAc (jT (wAe (wCd (rs := [_]) ([]) (by exact List.nil_sublist _) rfl (.cons (.agg rfl rfl rfl) .nil) ?_)))
 exact ⟨⟨_, _, _, _, rfl, hB.mono (hM2.trans hM3), hW.mono (hM2.trans hM3), hn.mono hM3, hl⟩, rfl⟩
theorem jl_bench {P : Program} {ops : Array Oper} {N : Fs} {F : Fr} {W : World} {X : List Nat} {M0 M : Mem} {L L2 Lb : Lc} {Q : Exit → Act → World → Prop} {rest : List Oper} {bb : Nat} {s : Sto} (hB : BOwn M bb Lb s) [hp : Pick Lb L L2] (hg : ∀ p ∈ Lb, p.1 ∉ X)
  (h : ∀ M' bv wv nv lv, MLe M M' → M' bb = some (.cells [bv, wv, nv, lv].toArray TBn (0, 0)) → LS M' bv s.blocks → WS M' wv s.waits → BS M' nv s.now → BS M' lv s.last → JL P ops N Q rest F ⟨W, X, M0⟩ M' L2) : JL P ops N Q rest F ⟨W, X, M0⟩ M L := by
 obtain ⟨bv, wv, na, nc, lv, Rw, Rn, rfl, g2, g3, g4, wps, hw1, hw2, hw3⟩ := hB
 refine jl_weak (M' := M) (L' := (bb, .cells [bv, wv, .slice na s.now.length nc, lv].toArray TBn (0, 0)) :: (Rw ++ (Rn ++ L2))) (fun w hw => by have := hw.perm hp.perm; rwa [List.cons_append, List.append_assoc] at this) ?_
 have fin : ∀ (M1 : Mem) (wv' : Value), MLe M M1 → wv' = wv → WS M1 wv' s.waits → JL P ops N Q rest F ⟨W, X, M0⟩ M1 ((bb, .cells [bv, wv, .slice na s.now.length nc, lv].toArray TBn (0, 0)) :: (Rn ++ L2)) := fun M1 wv' hM1 e hW => by
  subst e
  refine wHv g4 (fun p hp => hg p (by simp [hp])) ?_
  intro M2 a2 c2 hM2 e2 hc2 hs2
  refine wGe bb (hg _ (List.mem_cons_self (a := (bb, _)))) ?_
  intro M3 hM3 e3
  rw [e2] at e3
  exact h M3 _ _ _ _ (hM1.trans (hM2.trans hM3)) e3 (g2.mono (hM1.trans (hM2.trans hM3))) (hW.mono (hM2.trans hM3)) ⟨_, _, rfl, hc2, hs2.mono hM3⟩ (g3.mono (hM1.trans (hM2.trans hM3)))
 rcases hw3 with hw3 | ⟨rfl, hfl, ba, rfl, hbs, hold⟩
 ·refine wHv hw3 (fun p hp => hg p (by simp [hp])) ?_
  intro M1 a1 c1 hM1 e1 hc1 hs1
  exact fin M1 _ hM1 e1.symm ⟨a1, c1, wps, rfl, hc1, hs1, hw1, fun p hp => (hw2 p hp).mono hM1⟩
 ·refine fin M _ (MLe.refl _) rfl ⟨_, _, wps, rfl, Nat.le_refl _, ?_, hw1, hw2⟩
  rcases hbs with h0 | hbs
  ·exact .inl h0
  ·obtain ⟨b, of, sp⟩ := ba
   simp only at hbs
   subst hbs
   exact .inr ⟨b, of, rfl, hold⟩
theorem wEe {xs : List By} {k j : Nat} {v : By} (h : j ≠ k) : (xs.set k v).getD j 0 = xs.getD j 0 := by
 simp only [List.getD, List.getElem?_set]; rw [if_neg (fun e => h e.symm)]
theorem take_set8 {xs : List By} {k : Nat} {v : By} (h : 8 ≤ k) : (xs.set k v).take 8 = xs.take 8 := by
 rw [List.take_set]; rw [List.set_eq_of_length_le]; rw [List.length_take]; omega
theorem ctOk_set {xs : List By} {k : Nat} {v : By} (h : 8 ≤ k) (hx : ctOk xs) : ctOk (xs.set k v) := by
 unfold ctOk at *; rw [List.length_set, take_set8 h]; exact hx
theorem frAt_ge (s : Sto) : ∀ (f k : Nat), k ≤ frAt s f k
 | 0, k => Nat.le_refl _
 | f + 1, k => by
  rw [frAt]; split
  ·exact Nat.le_refl _
  ·exact Nat.le_trans (Nat.le_succ k) (frAt_ge s f (k + 1))
theorem shareL_ok {s : Sto} {xs : List It} (h : ctOk s.now) (hr : ∀ x ∈ xs, x.ref = 0 ∨ 8 ≤ x.ref ∧ x.ref < 256) : ctOk (wBb s xs).now := by
 unfold wBb
 induction xs generalizing s with
 | nil => exact h
 | cons x xs ih =>
  rw [List.foldl_cons]
  refine ih ?_ (fun y hy => hr y (by simp [hy]))
  have := hr x (by simp)
  split
  ·exact h
  ·exact ctOk_set (by omega) h
theorem mkS_ok {s : Sto} {lv : Int} {xs : List It} (hst : wCp s) (hok : wHx lv xs = true) (hat : wGh (wBb s xs) < 256) (hwl : s.waits.length < 4096) : wCp (mkS s lv xs) := by
 obtain ⟨⟨q1, q2, q3, q4⟩, h2, h3⟩ := hst
 obtain ⟨e1, e2, e3, e4⟩ := wEh s xs
 have hno := NdOk.of hok
 refine ⟨⟨?_, ?_, ?_, ?_⟩, ?_, ?_⟩
 ·show (wBb s xs).blocks.length = 256; rw [e4]; exact q1
 ·show ((wBb s xs).waits ++ [_]).length ≤ 4096; rw [e2, List.length_append]; show _ + 1 ≤ _; omega
 ·show ∀ b ∈ (wBb s xs).blocks, _; rw [e4]; exact q3
 ·show ∀ w ∈ (wBb s xs).waits ++ [_], _
  rw [e2]
  intro w hw
  rcases List.mem_append.1 hw with hw | hw
  ·exact q4 w hw
  ·rw [List.mem_singleton.1 hw]
   refine ⟨by omega, by omega, wJg ?_⟩
   have := wKg (fun x hx => (wDb hno.ok x hx).1)
   have := hno.len
   unfold wFu; rw [List.length_append]; show 3 + _ ≤ 124; omega
 ·exact ctOk_set (frAt_ge _ _ _) (shareL_ok h2 hno.ref)
 ·show ctOk (wBb s xs).last; rw [e3]; exact h3
set_option maxHeartbeats 2000000 in
theorem dmake_walk (s : Sto) (bv nv lw : Value) (wa : Option Addr) (wc : Nat) (lv : Int) (xs : List It) (a : Option Addr) (c : Nat) (ps : List (It × Value)) (M : Mem) (h1 : LS M bv s.blocks) (wps0 : List (Wt × Value)) (hwc : s.waits.length ≤ wc) (hws : SM M wa (wps0.flatMap wCf)) (hwp : wps0.map (·.1) = s.waits) (hwb : ∀ p ∈ wps0, BS M p.2 p.1.2) (h3 : BS M nv s.now) (h4 : BS M lw s.last) (hc : xs.length ≤ c) (hs : SM M a (ps.flatMap wBc)) (hp : ps.map (·.1) = xs) (hb : ∀ p ∈ ps, BS M p.2 p.1.val) (hkd : ∀ x ∈ xs, 0 ≤ x.key.kind ∧ x.key.kind < 256) (hst : wCp s) (hok : wHx lv xs = true) (hsh : shOk s xs) (hat : wGh (wBb s xs) < 256) (hwl : s.waits.length < 4096) :
  SpecL Tryz.prog 75 #[.agg #[bv, .slice wa s.waits.length wc, nv, lw], .agg #[.int .i64 lv, .slice a xs.length c]] M [] fun u M' L' => (∃ v, u = .tuple #[v, .int .i64 (wGh (wBb s xs)), .int .i64 0] ∧ ST M' v (mkS s lv xs)) ∧ L' = [] := by
 have hWS : WS M (.slice wa s.waits.length wc) s.waits := ⟨wa, wc, wps0, rfl, hwc, hws, hwp, hwb⟩
 have hST : ST M (.agg #[bv, .slice wa s.waits.length wc, nv, lw]) s := ⟨_, _, _, _, rfl, h1, hWS, h3, h4⟩
 have hns : NS M (.slice a xs.length c) xs := ⟨a, c, ps, rfl, hc, hs, hp, hb⟩
 have hck : wJe s = 0 := if_pos hst
 have hnk : wFa lv xs = 0 := if_pos hok
 obtain ⟨hdk, ⟨hn256, _⟩, ⟨hl256, _⟩⟩ := id hst
 refine wAf (vs := [_, _]) 37 _ Tryz.func75 rfl Tryz.ntmps75 rfl rfl ?_; intro W
 refine wAb (wAa (wAw rfl rfl (wCb (cs := [_, _, _, _]) rfl rfl rfl rfl) ?_)); rintro _ _ _ ⟨b2, rfl, rfl, rfl⟩
 refine wAw rfl rfl (wCb (cs := [_, _]) rfl rfl rfl rfl) ?_; rintro _ _ _ ⟨b3, rfl, rfl, rfl⟩
 refine sAl rfl fun b4 => ?_
 refine jp rfl (jp rfl (wAc (jT (wAb (wAb (wAa (sLL rfl ?_)))))))
 refine wAi rfl rfl (wBf rfl rfl rfl rfl rfl (by kernel_rfl) (wGc s _ M hST)) ?_
 refine jp rfl (wAc (jT (wAb (wAa (jp rfl (jf rfl (decide_eq_false (by omega)) ?_))))))
 refine wAc (jT (wAj rfl (wAd (jT (wAb (wAb (wAa (sLL rfl ?_))))))))
 refine wAi rfl rfl (wBf rfl rfl rfl rfl rfl (by kernel_rfl) (wHp lv xs _ M hns)) ?_
 refine jp rfl (wAc (jT (wAb (wAa (jp rfl (jf rfl (decide_eq_false (by omega)) ?_))))))
 refine wAc (jT (wAj rfl (wAd (jT (wAb (wAa (sLL rfl ?_)))))))
 refine wAw rfl rfl (wAn rfl rfl rfl rfl rfl (by kernel_rfl) (on_own s bv nv lw wa wc M hwc (by omega) h3 (by omega))) ?_; rintro _ M1 _ ⟨hM1, _, rfl, ⟨bb, Rn, na, nc, rfl, rfl, hown⟩⟩
 have hB0 : BOwn M1 bb ((bb, .cells [bv, .slice wa s.waits.length s.waits.length, .slice na s.now.length nc, lw].toArray TBn (0, 0)) :: Rn) s := by
  refine ⟨bv, _, na, nc, lw, [], Rn, rfl, h1.mono hM1, h4.mono hM1, hown, wps0, hwp, fun p hp => (hwb p hp).mono hM1, ?_⟩
  have hfl : (wps0.flatMap wCf).length = s.waits.length * 2 := by rw [wAy wCf 2 wCc, ← hwp, List.length_map]
  rcases hws with h0 | ⟨wb, wo, rfl, hwx⟩
  ·have hz : s.waits.length = 0 := by rw [h0, List.length_nil] at hfl; omega
   rw [h0, hz]
   cases wa with
   | none => exact .inl (Own.nil _ _)
   | some ba => exact .inr ⟨rfl, rfl, ba, rfl, .inl rfl, fun i u hu => by cases hu⟩
  ·exact .inr ⟨rfl, hfl, _, rfl, .inr rfl, fun i u hu => (hwx i u hu).mono hM1⟩
 refine jp rfl (wAc (jT (wAb (wAb (wAa (jp rfl (sLL rfl ?_)))))))
 refine wAw rfl rfl (wAn rfl rfl rfl rfl rfl (by kernel_rfl) (bmake_walk s lv xs a c ps M1 hc (hs.mono hM1) hp (fun p hp => (hb p hp).mono hM1) hkd bb _ hB0 hok hn256 hl256 hsh hat hwl)) ?_; rintro _ M2 _ ⟨hM2, R2, rfl, ⟨rfl, hB3⟩⟩
 refine jp rfl (jp rfl (jp rfl (jp rfl (jp rfl (wAc (jT (wAb (wAa (jp rfl (jf rfl (decide_eq_false (by omega)) ?_))))))))))
 refine wAc (jT (wAj rfl (wAd (jT (wAb (wAa (jp rfl ?_)))))))
 have hmk := mkS_ok hst hok hat hwl
 obtain ⟨hdk3, ⟨hn3, _⟩, ⟨hl3, _⟩⟩ := id hmk
 refine jl_bench hB3 (by simp) ?_
 intro M3 pbv pwv pnv plv hM3 e3 k1 k2 k3 k4
 refine wAw rfl rfl (wAn rfl rfl rfl rfl rfl (by kernel_rfl) (wLb (mkS s lv xs) bb pbv pwv pnv plv M3 e3 k1 k2 k3 k4 hdk3 (by omega) (by omega))) ?_; rintro _ M4 _ ⟨hM4, _, rfl, ⟨hst4, rfl⟩⟩
 obtain ⟨q1, q2, q3, q4, rfl, f1, f2, f3, f4⟩ := hst4.ex
 obtain ⟨ba5, bc5, bps5, rfl, _⟩ := id f1
 obtain ⟨wa5, wc5, wps5, rfl, _⟩ := id f2
 obtain ⟨na5, nc5, rfl, _⟩ := id f3
 obtain ⟨la5, lc5, rfl, _⟩ := id f4
 refine jp rfl (sSt rfl ?_)
 refine jp rfl (jp rfl (wAc (jT (wAe (wCd (rs := [_, _, _]) ([]) (by exact List.nil_sublist _) rfl (.cons (.agg rfl rfl rfl) (.cons (.tmp rfl) (.cons (.tmp rfl) .nil))) ?_)))))
 exact ⟨⟨_, rfl, hst4⟩, rfl⟩
end Go.Proofs.YtoincdcejjdgkaaGreat
