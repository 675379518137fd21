/- Walks: the document's nodes, made. -/
import Derived.Test.YtkcpllhggofloaaGreatZRb
import Derived.Test.YtkcpllhggofloaaGreatZRk
namespace Go.Proofs.YtkcpllhggofloaaGreat
set_option linter.unusedSimpArgs false
set_option linter.unusedVariables false
set_option linter.unusedSectionVars false
open Go.RowKit
theorem Own.opn1 {v : Value} {R : Lc} {e : TypeId} {size n : Nat} {xs : List Value} (h : Own v R e size n xs) (hn : 0 < n) : ∃ g c, v = .slice (some ⟨g, 0, none⟩) n c ∧ v.ownBlock = some g := by
 rcases h.2 with ⟨_, h2, _⟩ | ⟨g, cap, cur, rfl, _⟩
 ·omega
 exact ⟨g, cap, rfl, rfl⟩
theorem SpecL.more {P : Program} {f : FuncId} {args : Array Value} {M : Mem} {L : Lc} {post post' : Value → Mem → Lc → Prop} (h : SpecL P f args M L post) (hp : ∀ v M' L', MLe M M' → post v M' L' → post' v M' L') : SpecL P f args M L post' := fun w hw => (h w hw).mono fun e w' hh => by
 obtain ⟨v, M', L', e1, h1, h2⟩ := hh
 refine ⟨v, M', L', e1, hp _ _ _ (fun b o hb => ?_) h1, h2⟩
 rw [h2.fresh b (wDj (hw.agree b o hb))]; exact hb
theorem SpecL.frz0 {P : Program} {f : FuncId} {args : Array Value} {M : Mem} {e : TypeId} {sz n : Nat} {xs : List Value} (h : SpecL P f args M [] fun u M' L' => Own u L' e sz n xs) : SpecL P f args M [] fun u M' L' => ∃ a c, u = .slice a n c ∧ n ≤ c ∧ SM M' a xs ∧ L' = [] := by
 intro w hw
 refine (h w hw).mono fun e w' hh => ?_
 obtain ⟨v, M', R', rfl, ho, hst⟩ := hh
 have hg : ∀ p ∈ R', p.1 ∉ (([] : Lc).map (·.1)) := fun p _ hm => by cases hm
 obtain ⟨M2, a, c, k1, k2, k3, k4, k5⟩ := ho.freeze (L := []) hg (by rw [List.append_nil]; exact hst)
 exact ⟨v, M2, [], rfl, ⟨a, c, k2, k3, k4, rfl⟩, k5⟩
theorem ST.of {M : Mem} {b w n l : Value} {s : Sto} (h1 : LS M b s.blocks) (h2 : WS M w s.waits) (h3 : BS M n s.now) (h4 : BS M l s.last) : ST M (.agg #[b, w, n, l]) s := ⟨b, w, n, l, rfl, h1, h2, h3, h4⟩
theorem by_zero {b : By} : (b.toNat : Int) = 0 ↔ b = 0 := ⟨fun h => UInt8.toNat_inj.1 (by show b.toNat = 0; omega), fun h => by rw [h]; rfl⟩
theorem rwith7_walk (t : List By) (ta : Option Addr) (tc : Nat) (M : Mem) (ht : SM M ta (wAj t)) (k : Nat) (hk : k < t.length) (hn : t.length ≤ 100000) (b : By) :
  SpecL Tryz.prog 75 #[.slice ta t.length tc, .int .i64 k, .int .u8 (b.toNat : Int)] M [] fun u M' L' => BS M' u (t.set k b) ∧ L' = [] := by
 refine wAf (vs := [_, _, _]) 15 _ Tryz.func75 rfl Tryz.ntmps75 rfl rfl ?_; intro W
 refine wAb (wAa (jp rfl (wAc (jT (wAb (wAa (jp rfl (wAy rfl rfl (wCg (R := []) rfl rfl rfl rfl (Own.nil _ _) (by rw [wAm, Nat.mul_one]) ht rfl (wBv _) (by omega) (by omega)) ?_)))))))); rintro v9 _ _ ⟨rfl, R9, rfl, o9⟩
 rw [Nat.zero_add, List.nil_append] at o9
 obtain ⟨g, gc, e9, hgo⟩ := o9.opn1 (by omega)
 subst e9
 refine jp rfl (wAc (jT (wAb (wAa (jp rfl (jp rfl (jp rfl (wAi rfl rfl (wBe rfl rfl rfl rfl (by omega)) ?_))))))))
 refine jl_s rfl (wGp (R := R9) rfl rfl rfl rfl rfl rfl o9 hgo (by rw [Nat.zero_add]; omega)) ?_; rintro _ _ _ ⟨rfl, R15, rfl, o15⟩
 refine wAc (jT (wAb (wAa (jp rfl (jp rfl (wAc (jT (wAe (wGy o15 (by simp) ?_)))))))))
 intro M8 a8 c8 hM8 e8 hc8 hs8; cases e8
 refine jr1 rfl rfl ?_
 refine ⟨⟨_, _, by rw [List.length_set], by rw [List.length_set]; exact hc8, ?_⟩, rfl⟩
 unfold wAj; rw [List.map_set]; rw [Nat.zero_add, Int.toNat_natCast, Nat.mul_one] at hs8; exact hs8
theorem wHo (t : List By) (v : Value) (M : Mem) (h : BS M v t) (k : Int) (hk : 0 ≤ k ∧ k < t.length) (hn : t.length ≤ 100000) (b : By) : SpecL Tryz.prog 75 #[v, .int .i64 k, .int .u8 (b.toNat : Int)] M [] fun u M' L' => BS M' u (t.set k.toNat b) ∧ L' = [] := by
 obtain ⟨a, c, rfl, _, hs⟩ := h
 have := rwith7_walk t a c M hs k.toNat (by omega) hn b
 rw [show ((k.toNat : Nat) : Int) = k by omega] at this
 exact this
def LsP (r : Option (List By)) (u : Value) (M' : Mem) : Prop := match r with
 | none => u = .tuple #[.slice none 0 0, .bool false]
 | some t => ∃ a c, u = .tuple #[.slice a t.length c, .bool true] ∧ t.length ≤ c ∧ SM M' a (wAj t)
theorem wFj (t : List By) (ta : Option Addr) (tc : Nat) (M : Mem) (ht : SM M ta (wAj t)) (hc : t.length ≤ tc) (k : Int) (hk : 0 ≤ k ∧ k < t.length) (hn : t.length ≤ 100000) :
  SpecL Tryz.prog 100 #[.slice ta t.length tc, .int .i64 k] M [] fun u M' L' => LsP (lessT t k.toNat) u M' ∧ L' = [] := by
 refine wAf (vs := [_, _]) 19 _ Tryz.func100 rfl Tryz.ntmps100 rfl rfl ?_; intro W
 refine wAb (wAa (jp rfl (jp rfl (wAc (jT (wAb (wAb (wAa (jp rfl (jp rfl ?_))))))))))
 obtain ⟨sb, so, e0, hcl⟩ := wCw ht (k := k.toNat) (by omega)
 rw [show ((k.toNat : Nat) : Int) = k by omega] at hcl
 have hgd := wCp (xs := t) (k := k.toNat) (by omega) 0
 refine wAi rfl rfl (wCe rfl rfl rfl rfl e0 (by omega)) ?_
 refine wAi rfl rfl (qLd rfl rfl rfl rfl (hcl.cj _)) ?_
 refine js rfl (fun h10 => ?_) (fun h10 => ?_)
 ·refine wAc (jT (wAg rfl (wAb (wAa (jp rfl (jp rfl (wAc (jT (wAe (jTr (jr2 rfl rfl rfl ?_)))))))))))
  exact ⟨by rw [wFo (by rw [hgd]; exact by_zero.1 h10)]; rfl, rfl⟩
 refine wAc (jT (wAk rfl (wAd (jT (wAb (wAa (jp rfl (jp rfl (jp rfl (jp rfl (wAi rfl rfl (wCe rfl rfl rfl rfl e0 (by omega)) ?_)))))))))))
 refine wAi rfl rfl (qLd rfl rfl rfl rfl (hcl.cj _)) ?_
 have hnz : ¬ t[k.toNat] = 0 := fun e => h10 (by rw [e]; rfl)
 have hdc := dec_u8 hnz
 refine wAi rfl rfl (qEq (qP rfl rfl) (v' := .int .u8 ((t[k.toNat] - 1).toNat : Int)) (by have h255 := t[k.toNat].toNat_lt; congr 1; rw [IntKind.wrap_u8]; omega)) ?_
 refine wAy rfl rfl (wAu rfl rfl rfl rfl rfl (by kernel_rfl) (wHo t _ M ⟨ta, tc, rfl, hc, ht⟩ k hk hn (t[k.toNat] - 1))) ?_; rintro _ M1 _ ⟨hM1, _, rfl, ⟨⟨a1, c1, rfl, hc1, hs1⟩, rfl⟩⟩
 refine jp rfl (jp rfl (wAc (jT (wAe (jr2 rfl rfl rfl ?_)))))
 exact ⟨by rw [wDt (by rw [hgd]; exact hnz), hgd]; exact ⟨_, _, rfl, hc1, hs1⟩, rfl⟩
theorem rfree12_walk (s : Sto) (bv wv nv lv0 : Value) (M : Mem) (h1 : LS M bv s.blocks) (h2 : WS M wv s.waits) (h3 : BS M nv s.now) (h4 : BS M lv0 s.last) (hst : wCc s) (k : Int) (hk : 0 ≤ k ∧ k < 256) (hz : wDo s k.toNat = 0) :
  SpecL Tryz.prog 76 #[.agg #[bv, wv, nv, lv0], .int .i64 k] M [] fun u M' L' => ST M' u (wBx s k.toNat) ∧ L' = [] := by
 obtain ⟨ba, bc, bps, rfl, _⟩ := id h1
 obtain ⟨wa, wc, wps, rfl, _⟩ := id h2
 obtain ⟨la, lc, rfl, hlc, hls⟩ := id h4
 have hn1 := hst.2.1.1
 obtain ⟨na, nc, rfl, hnc, hns⟩ := id h3
 obtain ⟨sb, so, e0, hcl⟩ := wCw hns (k := k.toNat) (by omega)
 rw [show ((k.toNat : Nat) : Int) = k by omega] at hcl
 have hgd := wCp (xs := s.now) (k := k.toNat) (by omega) 0
 have hnz : ¬ s.now[k.toNat] = 0 := fun e => by unfold wDo at hz; rw [hgd, if_pos e] at hz; cases hz
 have hdc := dec_u8 hnz
 refine wAf (vs := [_, _]) 17 _ Tryz.func76 rfl Tryz.ntmps76 rfl rfl ?_; intro W
 refine wAb (wAa (wAy rfl rfl (wCm (cs := [_, _, _, _]) rfl rfl rfl rfl) ?_)); rintro _ _ _ ⟨b2, rfl, rfl, rfl⟩
 refine sAl rfl fun b4 => ?_
 refine wAc (jT (wAb (wDb (p := { A := fun i => !([11].contains i), U := fun i => !([11].contains i) }) [(0, true), (1, true), (2, true), (3, true), (4, true), (5, true), (6, true), (7, true), (8, true), (9, false), (10, true), (11, false)] M ([(b2, .cells [.slice ba s.blocks.length bc, .slice wa s.waits.length wc, .slice na s.now.length nc, .slice la s.last.length lc].toArray 28 (0, 0))]) ([]) (by kernel_rfl) (by kernel_rfl) (by kernel_rfl) (by kernel_rfl) rfl (by simp) (MLe.refl _) (by simp) ?_)))
 refine dFa rfl rfl ?_
 refine dLd rfl rfl ?_
 refine dp rfl rfl ?_
 refine dFa rfl rfl ?_
 refine dLd rfl rfl ?_
 refine dp rfl rfl ?_
 refine wBq rfl rfl rfl (wCe rfl rfl rfl rfl e0 (by omega)) ?_
 refine wBq rfl rfl rfl (qLd rfl rfl rfl rfl (hcl.cj _)) ?_
 refine wBq rfl rfl rfl (qEq (qP rfl rfl) (v' := .int .u8 ((s.now[k.toNat] - 1).toNat : Int)) (by have h255 := s.now[k.toNat].toNat_lt; congr 1; rw [IntKind.wrap_u8]; omega)) ?_
 refine wHc rfl rfl rfl (wAu rfl rfl rfl rfl rfl (by kernel_rfl) (wHo s.now _ M ⟨na, nc, rfl, hnc, hns⟩ k (by omega) (by omega) (s.now[k.toNat] - 1))) ?_; rintro _ M1 _ ⟨hM1, _, rfl, ⟨⟨a1, c1, rfl, hc1, hs1⟩, rfl⟩⟩
 refine ⟨_, _, MLe.refl _, hM1, fun _ h => h, by simp, ?_⟩
 refine dFa rfl rfl ?_
 refine jd_e rfl rfl (wBm rfl rfl rfl rfl rfl rfl rfl rfl) ?_; rintro _ _ _ ⟨rfl, rfl⟩
 refine ⟨hM1, by simp, ?_⟩
 refine wFf ?_
 refine jPn (jT (wAb (wAa (sLL rfl ?_))))
 refine sSt rfl ?_
 refine wAc (jT (wAe (wDa (rs := [_]) ([]) (by exact List.nil_sublist _) rfl (.cons (.agg rfl rfl rfl) .nil) ?_)))
 exact ⟨ST.of (h1.mono hM1) (h2.mono hM1) (by unfold wBx; rw [hgd]; exact ⟨_, _, rfl, hc1, hs1⟩) (h4.mono hM1), rfl⟩
theorem wcell_one {M : Mem} {ps : List (Wt × Value)} (hb : ∀ p ∈ ps, BS M p.2 p.1.2) : ∀ u ∈ ps.flatMap wCv, u.oneCell' = true := by
 intro u hu
 obtain ⟨p, hp, h⟩ := List.mem_flatMap.1 hu
 obtain ⟨a, c, e, _⟩ := hb p hp
 unfold wCv at h
 rw [e] at h
 exact List.all_eq_true.1 (rfl : ([Value.int .i64 p.1.1, .slice a p.1.2.length c].all fun v => v.oneCell') = true) u h
theorem rwith_walk (bs : List (List By)) (ws : List Wt) (a1 : Option Addr) (c1 : Nat) (ps1 : List (List By × Value)) (a2 : Option Addr) (c2 : Nat) (ps2 : List (Wt × Value)) (M : Mem) (hc1 : bs.length ≤ c1) (hs1 : SM M a1 (ps1.map (·.2))) (hp1 : ps1.map (·.1) = bs) (hb1 : ∀ p ∈ ps1, BS M p.2 p.1) (hc2 : ws.length ≤ c2) (hs2 : SM M a2 (ps2.flatMap wCv)) (hp2 : ps2.map (·.1) = ws) (hb2 : ∀ p ∈ ps2, BS M p.2 p.1.2) (hf : ws.length ≤ 5000) (at_ : Int) (xs : List By) (xa : Option Addr) (xc : Nat) (hxc : xs.length ≤ xc) (hx : SM M xa (wAj xs)) :
  SpecL Tryz.prog 128 #[.agg #[.slice a1 bs.length c1, .slice a2 ws.length c2], .int .i64 at_, .slice xa xs.length xc] M [] fun u M' L' => (∃ wv, u = .agg #[.slice a1 bs.length c1, wv] ∧ WS M' wv (ws ++ [(at_, xs)])) ∧ L' = [] := by
 have hpl : ps2.length = ws.length := by rw [← hp2, List.length_map]
 refine wAf (vs := [_, _, _]) 26 _ Tryz.func128 rfl Tryz.ntmps128 rfl rfl ?_; intro W
 refine wAb (wAa (wAy rfl rfl (wCm (cs := [_, _]) rfl rfl rfl rfl) ?_)); rintro _ _ _ ⟨b3, rfl, rfl, rfl⟩
 refine sAl rfl fun b6 => ?_
 refine wAc (jT (wAb (wAa (sFL rfl rfl ?_))))
 refine wAi rfl rfl (wBa (cs := [_, _]) rfl rfl rfl (by rfl)) ?_
 refine sAl rfl fun b7 => ?_
 refine sSt rfl ?_
 refine wAc (jT (wAb (wAa (sFL rfl rfl ?_))))
 refine sFL rfl rfl ?_
 refine wAy rfl rfl (wCg (R := []) rfl rfl rfl rfl (Own.nil _ _) (by rw [wBi wCv 2 wDn, hpl]) hs2 rfl (wcell_one hb2) (by omega) (by omega)) ?_; rintro v15 _ _ ⟨rfl, R15, rfl, o15⟩
 obtain ⟨a15, c15, rfl⟩ := o15.form
 rw [Nat.zero_add, List.nil_append] at o15
 refine sFa rfl ?_
 refine sSt rfl ?_
 refine wAc (jT (wAb (wAa (sFL rfl rfl ?_))))
 refine jp rfl (jp rfl (wAi rfl rfl (wBa (cs := [_, _]) rfl rfl rfl (by rfl)) ?_))
 refine wAy rfl rfl (wAn (cs := [.int .i64 at_, .slice xa xs.length xc]) rfl rfl rfl (by rfl) (by rfl) (by rfl)) ?_; rintro _ _ _ ⟨b22, rfl, rfl, rfl⟩
 refine wAy rfl rfl (wDv (R := R15) (m := 1) (news := [Value.int .i64 at_, .slice xa xs.length xc]) rfl rfl rfl rfl o15 rfl (fun j v hv => CJ.loc (by rw [Nat.zero_add]; simpa using hv)) rfl (by rfl) (fun u hu => List.all_eq_true.1 (rfl : ([Value.int .i64 at_, .slice xa xs.length xc].all fun v => v.oneCell') = true) u hu) (by omega) (by omega)) ?_; rintro v23 _ _ ⟨rfl, R23, rfl, o23, _⟩
 obtain ⟨a23, c23, rfl⟩ := o23.form
 refine sFa rfl ?_
 refine sSt rfl ?_
 refine wAc (jT (wAb (wAa (sLL rfl ?_))))
 refine sSt rfl ?_
 refine wAc (jT (wAe (wGy o23 (by simp) ?_)))
 intro M8 a8 c8 hM8 e8 hc8 hs8; cases e8
 refine wDa (rs := [_]) ([]) (by exact List.nil_sublist _) rfl (.cons (.agg rfl rfl rfl) .nil) ?_
 refine ⟨⟨_, rfl, _, _, ps2 ++ [((at_, xs), .slice xa xs.length xc)], by rw [List.length_append]; rfl, by rw [List.length_append]; exact hc8, by rw [List.flatMap_append]; exact hs8, by rw [List.map_append, hp2]; rfl, fun q hq => ?_⟩, rfl⟩
 rcases List.mem_append.1 hq with hq | hq
 ·exact (hb2 q hq).mono hM8
 rw [List.mem_singleton.1 hq]; exact ⟨xa, xc, rfl, hxc, hx.mono hM8⟩
theorem rwith3_spec (bs : List (List By)) (ws : List Wt) (u v : Value) (M : Mem) (h1 : LS M u bs) (h2 : WS M v ws) (hf : ws.length ≤ 5000) (k : Int) (xs : List By) (xv : Value) (hx : BS M xv xs) : SpecL Tryz.prog 128 #[.agg #[u, v], .int .i64 k, xv] M [] fun x M' L' => (∃ wa wc, x = .agg #[u, .slice wa (ws ++ [(k, xs)]).length wc] ∧ WS M' (.slice wa (ws ++ [(k, xs)]).length wc) (ws ++ [(k, xs)])) ∧ L' = [] := by
 obtain ⟨a1, c1, ps1, rfl, hc1, hs1, hp1, hb1⟩ := h1
 obtain ⟨a2, c2, ps2, rfl, hc2, hs2, hp2, hb2⟩ := h2
 obtain ⟨xa, xc, rfl, hxc, hxs⟩ := hx
 exact (rwith_walk bs ws a1 c1 ps1 a2 c2 ps2 M hc1 hs1 hp1 hb1 hc2 hs2 hp2 hb2 hf k xs xa xc hxc hxs).mono fun x M' L' ⟨⟨wv, e, hw⟩, hL⟩ => ⟨by obtain ⟨wa, wc, wps, rfl, hr⟩ := id hw; exact ⟨wa, wc, e, hw⟩, hL⟩
def Frs (s : Sto) (k : Nat) (xs : List Int) : Prop := (xs = [] ∧ wEt s = frAt s (256 - k) k) ∨ ∃ ys, xs = (wEt s : Int) :: ys ∧ wEt s < 256
theorem Frs.on {s : Sto} {k : Nat} {xs : List Int} (h : Frs s k xs) (hk : k < 256) (hf : freeB s k) : Frs s (k + 1) (xs ++ [(k : Int)]) := by
 rcases h with ⟨rfl, h⟩ | ⟨ys, rfl, h⟩
 ·rw [frAt_is hk hf] at h
  exact .inr ⟨[], by rw [h]; rfl, by omega⟩
 exact .inr ⟨ys ++ [(k : Int)], rfl, h⟩
theorem Frs.off {s : Sto} {k : Nat} {xs : List Int} (h : Frs s k xs) (hk : k < 256) (hf : ¬ freeB s k) : Frs s (k + 1) xs := by
 rcases h with ⟨rfl, h⟩ | h
 ·rw [frAt_on hk hf] at h; exact .inl ⟨rfl, h⟩
 exact .inr h
set_option maxHeartbeats 1000000 in
theorem rall8_walk (s : Sto) (bv wv nv lv0 : Value) (M : Mem) (h1 : LS M bv s.blocks) (h2 : WS M wv s.waits) (h3 : BS M nv s.now) (h4 : BS M lv0 s.last) (hst : wCc s) :
  SpecL Tryz.prog 127 #[.agg #[bv, wv, nv, lv0]] M [] fun u M' L' => (∃ xs : List Int, ∃ a c, u = .slice a xs.length c ∧ SM M' a (icells xs) ∧ Frs s 256 xs) ∧ L' = [] := by
 have hn1 := hst.2.1.1
 have hl1 := hst.2.2.1
 obtain ⟨na, nc, rfl, hnc, hns⟩ := id h3
 obtain ⟨la, lc, rfl, hlc, hls⟩ := id h4
 refine wAf (vs := [_]) 28 _ Tryz.func127 rfl Tryz.ntmps127 rfl rfl ?_; intro W
 refine wAb (wAa (wAy rfl rfl (wCm (cs := [_, _, _, _]) rfl rfl rfl rfl) ?_)); rintro _ _ _ ⟨b1, rfl, rfl, rfl⟩
 refine jp rfl (wAc (jT (wAb (wAa (jp rfl (wAc (jT (wAb (wAb (wAa (jp rfl (wAc (jT (wAh ?_))))))))))))))
 refine wAv (α := Nat × Value × Lc × List Int) (fun z => [(1, .pointer (some ⟨b1, 0, none⟩)), (3, z.2.1), (4, .int .i64 z.1)]) (fun _ => M) (fun z => z.2.2.1 ++ [(b1, .cells [bv, wv, .slice na s.now.length nc, .slice la s.last.length lc].toArray 28 (0, 0))]) (fun z => z.1 ≤ 256 ∧ Own z.2.1 z.2.2.1 3 1 z.2.2.2.length (icells z.2.2.2) ∧ z.2.2.2.length ≤ z.1 ∧ Frs s z.1 z.2.2.2) (fun z => 256 - z.1)
  (8, .slice none 0 0, [], []) (.cons (t := 1) rfl (.cons (t := 3) rfl (.cons (t := 4) rfl .nil))) ⟨by decide, Own.nil _ _, Nat.zero_le _, .inl ⟨rfl, rfl⟩⟩ (fun _ h => h.subC fun f => by simp only [List.map_append, List.map_cons, List.map_nil, List.sum_append, List.sum_cons, List.sum_nil]; omega) ?_
 rintro ⟨k, v, R, xs⟩ ⟨hk, hO, hxl, hF⟩
 try dsimp only at hk hO hxl hF ⊢
 refine wAb (wAb (wAa (jp rfl (js rfl (fun h6 => ?_) (fun h6 => ?_)))))
 ·refine wAc (jT (wAg rfl (wAd (jT (wAb (wAh (wAb (wAa (sFL rfl rfl ?_)))))))))
  refine jp rfl ?_
  have hk1 : k < 256 := by omega
  obtain ⟨sb5, so5, e5, hcl5⟩ := wCw hns (k := k) (by omega)
  have hgd5 := wCp (xs := s.now) (k := k) (by omega) 0
  obtain ⟨sb6, so6, e6, hcl6⟩ := wCw hls (k := k) (by omega)
  have hgd6 := wCp (xs := s.last) (k := k) (by omega) 0
  refine wAi rfl rfl (wCe rfl rfl rfl rfl e5 (by omega)) ?_
  refine wAi rfl rfl (qLd rfl rfl rfl rfl (hcl5.cj _)) ?_
  refine js rfl (fun h14 => ?_) (fun h14 => ?_)
  ·refine jp rfl (sFL rfl rfl ?_)
   refine jp rfl (wAi rfl rfl (wCe rfl rfl rfl rfl e6 (by omega)) ?_)
   refine wAi rfl rfl (qLd rfl rfl rfl rfl (hcl6.cj _)) ?_
   refine js rfl (fun h21 => ?_) (fun h21 => ?_)
   ·refine jp rfl (wAc (jT (wAg rfl (wAa (jp rfl (jp rfl (wAy rfl rfl (wAn (cs := [_]) rfl rfl rfl (by rfl) (by rfl) (by rfl)) ?_))))))); rintro _ _ _ ⟨b25, rfl, rfl, rfl⟩
    refine wAy rfl rfl (wDv (R := R) (news := [Value.int .i64 k]) rfl rfl rfl rfl hO rfl (fun j v hv => CJ.loc (by rw [Nat.zero_add]; simpa using hv)) rfl rfl (fun u hu => by rw [List.mem_singleton.1 hu]; rfl) (by omega) (by omega)) ?_; rintro v26 _ _ ⟨rfl, R26, rfl, o26, _⟩
    refine jp rfl (wAc (jB (jT (wAa (jp rfl (ja rfl (by omega) ?_))))))
    refine jp rfl (wAc ?_)
    refine wAp (k + 1, v26, R26, xs ++ [(k : Int)]) (.cons (t := 1) rfl (.cons (t := 3) rfl (.cons (t := 4) rfl .nil))) ⟨by show k + 1 ≤ 256; omega, o26.to (by show _ = (xs ++ [_]).length; rw [List.length_append]; rfl) (by unfold icells; rw [List.map_append]; rfl), by show (xs ++ [_]).length ≤ k + 1; rw [List.length_append, List.length_singleton]; omega, hF.on hk1 ⟨by rw [hgd5]; exact by_zero.1 h14, by rw [hgd6]; exact by_zero.1 h21⟩⟩ (by show 256 - (k + 1) < 256 - k; omega) (fun _ h => h.subC fun f => by simp only [List.map_append, List.map_cons, List.map_nil, List.sum_append, List.sum_cons, List.sum_nil]; omega)
   refine jp rfl (wAc (jT (wAk rfl (wAd (jB (jT (wAa (jp rfl (ja rfl (by omega) ?_)))))))))
   refine jp rfl (wAc ?_)
   refine wAp (k + 1, v, R, xs) (.cons (t := 1) rfl (.cons (t := 3) rfl (.cons (t := 4) rfl .nil))) ⟨by show k + 1 ≤ 256; omega, hO, by show xs.length ≤ k + 1; omega, hF.off hk1 fun hf => ?_⟩ (by show 256 - (k + 1) < 256 - k; omega) (fun _ h => h.subC fun f => by simp only [List.map_append, List.map_cons, List.map_nil, List.sum_append, List.sum_cons, List.sum_nil]; omega)
   have q1 := hf.1; have q2 := hf.2; rw [hgd5] at q1; rw [hgd6] at q2
   have r1 := by_zero.2 q1; have r2 := by_zero.2 q2
   first | exact h14 r1 | exact h21 r2
  iterate 8 refine jp rfl ?_
  refine wAc (jT (wAk rfl (wAd (jB (jT (wAa (jp rfl (ja rfl (by omega) ?_))))))))
  refine jp rfl (wAc ?_)
  refine wAp (k + 1, v, R, xs) (.cons (t := 1) rfl (.cons (t := 3) rfl (.cons (t := 4) rfl .nil))) ⟨by show k + 1 ≤ 256; omega, hO, by show xs.length ≤ k + 1; omega, hF.off hk1 fun hf => ?_⟩ (by show 256 - (k + 1) < 256 - k; omega) (fun _ h => h.subC fun f => by simp only [List.map_append, List.map_cons, List.map_nil, List.sum_append, List.sum_cons, List.sum_nil]; omega)
  have q1 := hf.1; have q2 := hf.2; rw [hgd5] at q1; rw [hgd6] at q2
  have r1 := by_zero.2 q1; have r2 := by_zero.2 q2
  first | exact h14 r1 | exact h21 r2
 refine wAc (jT (wAk rfl (wAw (jTx (jTx (jBx (jT (wAb (wAa (jp rfl (jp rfl (wAc (jT (wAe (wGy hO (by simp) ?_)))))))))))))))
 intro M8 a8 c8 hM8 e8 hc8 hs8; cases e8
 refine wAr (L' := []) (List.nil_sublist _) ?_
 refine jr1 rfl rfl ?_
 obtain rfl : k = 256 := by omega
 exact ⟨⟨xs, _, _, rfl, hs8, hF⟩, rfl⟩
theorem rwith7_one (t : List By) (v : Value) (M : Mem) (h : BS M v t) (k : Nat) (hk : k < t.length) (hn : t.length ≤ 100000) : SpecL Tryz.prog 75 #[v, .int .i64 k, .int .u8 1] M [] fun u M' L' => (∃ a c, u = .slice a (t.set k 1).length c ∧ (t.set k 1).length ≤ c ∧ SM M' a (wAj (t.set k 1))) ∧ L' = [] := by
 have := wHo t v M h k (by omega) hn 1
 rw [Int.toNat_natCast] at this; exact this
set_option maxHeartbeats 2000000 in
theorem rtaken8_walk (s : Sto) (bv wv nv lv0 : Value) (M : Mem) (h1 : LS M bv s.blocks) (h2 : WS M wv s.waits) (h3 : BS M nv s.now) (h4 : BS M lv0 s.last) (hst : wCc s) (b : List By) (bv1 : Value) (hb : BS M bv1 b) :
  SpecL Tryz.prog 117 #[.agg #[bv, wv, nv, lv0], bv1] M [] fun u M' L' => (∃ v t e, u = .tuple #[v, .int .i64 e] ∧ ST M' v t ∧ ((e = -1 ∧ (wEt s = 256 ∨ 4096 ≤ s.waits.length)) ∨ (e = (wEt s : Int) ∧ wEt s < 256 ∧ s.waits.length < 4096 ∧ t = addS s (wEt s) b))) ∧ L' = [] := by
 obtain ⟨ba, bc, bps, rfl, _⟩ := id h1
 obtain ⟨wa, wc, wps, rfl, _⟩ := id h2
 obtain ⟨la, lc, rfl, hlc, hls⟩ := id h4
 obtain ⟨na, nc, rfl, hnc, hns⟩ := id h3
 have hn1 := hst.2.1.1
 have hS := ST.of h1 h2 h3 h4
 have h40 : s.waits.length ≤ 4096 := hst.1.2.1
 refine wAf (vs := [_, _]) 39 _ Tryz.func117 rfl Tryz.ntmps117 rfl rfl ?_; intro W
 refine wAb (wAa (wAy rfl rfl (wCm (cs := [_, _, _, _]) rfl rfl rfl rfl) ?_)); rintro _ _ _ ⟨b2, rfl, rfl, rfl⟩
 refine sAl rfl fun b4 => ?_
 refine jp rfl (wAc (jT (wAb (wAa (sLL rfl ?_)))))
 refine wAy rfl rfl (wAu rfl rfl rfl rfl rfl (by kernel_rfl) (rall8_walk s _ _ _ _ M h1 h2 h3 h4 hst)) ?_; rintro _ M1 _ ⟨hM1, _, rfl, ⟨⟨fl, fa, fc, rfl, hfs, hF⟩, rfl⟩⟩
 simp only [nA]
 refine jp rfl (wAc (jT (wAb (wAb (wAa (jp rfl (wAi rfl rfl (wBj rfl rfl rfl) ?_)))))))
 refine js rfl (fun h11 => ?_) (fun h11 => ?_)
 ·iterate 7 refine jp rfl ?_
  refine wAc (jT (wAg rfl (wAb (wAa (sLL rfl ?_)))))
  refine sSt rfl ?_
  refine jp rfl (wAc (jT (wAe (jTr (wDa (rs := [_, _]) ([]) (by exact List.nil_sublist _) rfl (.cons (.agg rfl rfl rfl) (.cons (.tmp rfl) .nil)) ?_)))))
  refine ⟨⟨_, s, _, rfl, hS.mono hM1, .inl ⟨rfl, .inl ?_⟩⟩, rfl⟩
  rcases hF with ⟨_, h⟩ | ⟨ys, rfl, _⟩
  ·exact h
  simp at h11; omega
 refine jp rfl (sFa rfl ?_)
 refine sFL rfl rfl ?_
 refine wAi rfl rfl (wBj rfl rfl rfl) ?_
 refine js rfl (fun h17 => ?_) (fun h17 => ?_)
 ·refine jp rfl (wAc (jT (wAg rfl (wAb (wAa (sLL rfl ?_))))))
  refine sSt rfl ?_
  refine jp rfl (wAc (jT (wAe (jTr (wDa (rs := [_, _]) ([]) (by exact List.nil_sublist _) rfl (.cons (.agg rfl rfl rfl) (.cons (.tmp rfl) .nil)) ?_)))))
  exact ⟨⟨_, s, _, rfl, hS.mono hM1, .inl ⟨rfl, .inr (by omega)⟩⟩, rfl⟩
 refine jp rfl (wAc (jT (wAk rfl (wAd (jT (wAb ?_))))))
 obtain ⟨ys, rfl, hmk⟩ : ∃ ys, fl = (wEt s : Int) :: ys ∧ wEt s < 256 := by
  rcases hF with ⟨rfl, _⟩ | h
  ·exact absurd rfl h11
  exact h
 obtain ⟨fb, fo, e0, hfx⟩ := hfs.open (by intro e; cases e)
 have hfc := hfx 0 (.int .i64 (wEt s : Int)) rfl
 refine wDb (p := { A := fun i => !([8].contains i), U := fun i => !([8].contains i) }) [(0, true), (1, true), (2, true), (3, true), (4, true), (5, true), (6, false), (7, true), (8, false)] M1 ([(b4, .cells [Value.slice none 0 0, .slice none 0 0, .slice none 0 0, .slice none 0 0].toArray 28 (0, 0)), (b2, .cells [.slice ba s.blocks.length bc, .slice wa s.waits.length wc, .slice na s.now.length nc, .slice la s.last.length lc].toArray 28 (0, 0))]) ([]) (by kernel_rfl) (by kernel_rfl) (by kernel_rfl) (by kernel_rfl) rfl (by simp) (MLe.refl _) (by simp) ?_
 refine dFa rfl rfl ?_
 refine dLL rfl rfl ?_
 refine dp rfl rfl ?_
 refine wBq rfl rfl rfl (wCe rfl rfl rfl rfl e0 (by omega)) ?_
 refine wBq rfl rfl rfl (qLd rfl rfl rfl rfl (hfc.cj _)) ?_
 refine dp rfl rfl ?_
 refine wHc rfl rfl rfl (wAu rfl rfl rfl rfl rfl (by kernel_rfl) (rwith3_spec s.blocks s.waits _ _ M1 (h1.mono hM1) (h2.mono hM1) (by omega) (wEt s : Int) b _ (hb.mono hM1))) ?_; rintro _ M2 _ ⟨hM2, _, rfl, ⟨⟨wa2, wc2, rfl, hW⟩, rfl⟩⟩
 refine ⟨_, _, MLe.refl _, hM2, fun _ h => h, by simp, ?_⟩
 simp only [nA]
 refine dFa rfl rfl ?_
 refine jd_e rfl rfl (wBm rfl rfl rfl rfl rfl rfl rfl rfl) ?_; rintro _ _ _ ⟨rfl, rfl⟩
 refine ⟨by first | exact MLe.refl _ | exact hM2 | exact hM3, by simp, ?_⟩
 refine wFf ?_
 refine jPn (jT (wAb (wDb (p := { A := fun i => !([7].contains i), U := fun i => !([7].contains i) }) [(0, true), (1, true), (2, true), (3, true), (4, true), (5, false), (6, true), (7, false)] M2 ([(b4, .cells [Value.slice none 0 0, .slice none 0 0, .slice none 0 0, .slice none 0 0].toArray 28 (0, 0)), (b2, .cells [.slice ba s.blocks.length bc, .slice wa2 (s.waits ++ [((wEt s : Int), b)]).length wc2, .slice na s.now.length nc, .slice la s.last.length lc].toArray 28 (0, 0))]) ([]) (by kernel_rfl) (by kernel_rfl) (by kernel_rfl) (by kernel_rfl) rfl (by simp) (MLe.refl _) (by simp) ?_)))
 refine dFa rfl rfl ?_
 refine dLd rfl rfl ?_
 refine dp rfl rfl ?_
 refine wBq rfl rfl rfl (wCe rfl rfl rfl rfl e0 (by omega)) ?_
 refine wBq rfl rfl rfl (qLd rfl rfl rfl rfl ((hfc.mono hM2).cj _)) ?_
 refine wHc rfl rfl rfl (wAu rfl rfl rfl rfl rfl (by kernel_rfl) (rwith7_one s.now _ M2 (h3.mono (hM1.trans hM2)) (wEt s) (by omega) (by omega))) ?_; rintro _ M3 _ ⟨hM3, _, rfl, ⟨⟨na2, nc2, rfl, hnc2, hns2⟩, rfl⟩⟩
 refine ⟨_, _, MLe.refl _, hM3, fun _ h => h, by simp, ?_⟩
 simp only [nA]
 refine dFa rfl rfl ?_
 refine jd_e rfl rfl (wBm rfl rfl rfl rfl rfl rfl rfl rfl) ?_; rintro _ _ _ ⟨rfl, rfl⟩
 refine ⟨by first | exact MLe.refl _ | exact hM2 | exact hM3, by simp, ?_⟩
 refine wFf ?_
 refine jPn (jT (wAb (wDb (p := { A := fun i => !([4].contains i), U := fun i => !([1, 2, 3, 4, 5].contains i) }) [(0, true), (1, true), (2, true), (3, true), (4, false), (5, true)] M3 ([(b4, .cells [Value.slice none 0 0, .slice none 0 0, .slice none 0 0, .slice none 0 0].toArray 28 (0, 0)), (b2, .cells [.slice ba s.blocks.length bc, .slice wa2 (s.waits ++ [((wEt s : Int), b)]).length wc2, .slice na2 (s.now.set (wEt s) 1).length nc2, .slice la s.last.length lc].toArray 28 (0, 0))]) ([]) (by kernel_rfl) (by kernel_rfl) (by kernel_rfl) (by kernel_rfl) rfl (by simp) (MLe.refl _) (by simp) ?_)))
 refine dLL rfl rfl ?_
 refine dp rfl rfl ?_
 refine jd_u rfl rfl rfl (wCe rfl rfl rfl rfl e0 (by omega)) ?_
 refine jd_u rfl rfl rfl (qLd rfl rfl rfl rfl ((hfc.mono (hM2.trans hM3)).cj _)) ?_
 refine jd_e rfl rfl (wBm rfl rfl rfl rfl rfl rfl rfl rfl) ?_; rintro _ _ _ ⟨rfl, rfl⟩
 refine ⟨by first | exact MLe.refl _ | exact hM2 | exact hM3, by simp, ?_⟩
 refine ep rfl rfl ?_
 refine wFf ?_
 refine jPn (jT (wAe (wDa (rs := [_, _]) ([]) (by exact List.nil_sublist _) rfl (.cons (.agg rfl rfl rfl) (.cons (.tmp rfl) .nil)) ?_)))
 have hm := hM1.trans (hM2.trans hM3)
 exact ⟨⟨_, addS s (wEt s) b, _, rfl, ST.of (h1.mono hm) (hW.mono hM3) ⟨na2, nc2, rfl, hnc2, hns2⟩ (h4.mono hm), .inr ⟨rfl, hmk, by omega, rfl⟩⟩, rfl⟩
set_option maxHeartbeats 2000000 in
theorem rcounted9_walk (s : Sto) (bv wv nv lv0 : Value) (M : Mem) (h1 : LS M bv s.blocks) (h2 : WS M wv s.waits) (h3 : BS M nv s.now) (h4 : BS M lv0 s.last) (hst : wCc s) (lv : Int) (xs : List It) (a : Option Addr) (c : Nat) (ps : List (It × Value)) (hc : xs.length ≤ c) (hs : SM M a (ps.flatMap wAs)) (hp : ps.map (·.1) = xs) (hb : ∀ p ∈ ps, BS M p.2 p.1.val) (hno : NdOk lv xs) :
  SpecL Tryz.prog 116 #[.agg #[bv, wv, nv, lv0], .agg #[.int .i64 lv, .slice a xs.length c]] M [] fun u M' L' => (if shE s xs = 0 then ∃ v, u = .tuple #[v, .int .i64 0] ∧ ST M' v (wAx s xs) else u = .tuple #[.agg zeroSt.toArray, .int .i64 (shE s xs)]) ∧ L' = [] := by
 obtain ⟨ba, bc, bps, rfl, _⟩ := id h1
 obtain ⟨wa, wc, wps, rfl, _⟩ := id h2
 obtain ⟨la, lc, rfl, hlc, hls⟩ := id h4
 obtain ⟨na, nc, rfl, hnc, hns⟩ := id h3
 have hn1 := hst.2.1.1
 have hx5 := hno.len
 refine wAf (vs := [_, _]) 50 _ Tryz.func116 rfl Tryz.ntmps116 rfl rfl ?_; intro W
 refine wAb (wAa (wAy rfl rfl (wCm (cs := [_, _, _, _]) rfl rfl rfl rfl) ?_)); rintro _ _ _ ⟨b2, rfl, rfl, rfl⟩
 refine wAy rfl rfl (wCm (cs := [_, _]) rfl rfl rfl rfl) ?_; rintro _ _ _ ⟨b3, rfl, rfl, rfl⟩
 refine sAl rfl fun b4 => ?_
 refine jp rfl (wAc (jT (wAb (wAa (sFL rfl rfl ?_)))))
 refine wAy rfl rfl (wCg (R := []) rfl rfl rfl rfl (Own.nil _ _) (by rw [wAm, Nat.mul_one]) hns rfl (wBv _) (by omega) (by omega)) ?_; rintro v11 _ _ ⟨rfl, R11, rfl, o11⟩
 rw [Nat.zero_add, List.nil_append] at o11
 obtain ⟨a11, c11, rfl⟩ := o11.form
 refine jp rfl (wAc (jT (wAb (wAb (wAa (jp rfl (wAc (jT (wAh ?_)))))))))
 refine wAv (α := Nat × Option Addr × Nat × Lc) (fun z => [(2, .pointer (some ⟨b2, 0, none⟩)), (3, .pointer (some ⟨b3, 0, none⟩)), (4, .pointer (some ⟨b4, 0, none⟩)), (6, .slice z.2.1 s.now.length z.2.2.1), (7, .int .i64 z.1)]) (fun _ => M) (fun z => z.2.2.2 ++ [(b4, .cells [Value.slice none 0 0, .slice none 0 0, .slice none 0 0, .slice none 0 0].toArray 28 (0, 0)), (b3, .cells [Value.int .i64 lv, .slice a xs.length c].toArray 53 (0, 0)), (b2, .cells [.slice ba s.blocks.length bc, .slice wa s.waits.length wc, .slice na s.now.length nc, .slice la s.last.length lc].toArray 28 (0, 0))]) (fun z => z.1 ≤ xs.length ∧ Own (.slice z.2.1 s.now.length z.2.2.1) z.2.2.2 5 1 s.now.length (wAj (wAx s (xs.take z.1)).now) ∧ shE (wAx s (xs.take z.1)) (xs.drop z.1) = shE s xs) (fun z => xs.length - z.1)
  (0, a11, c11, R11) (.cons (t := 2) rfl (.cons (t := 3) rfl (.cons (t := 4) rfl (.cons (t := 6) rfl (.cons (t := 7) rfl .nil))))) ⟨Nat.zero_le _, o11, rfl⟩ (fun _ h => h.subC fun f => by simp only [List.map_append, List.map_cons, List.map_nil, List.sum_append, List.sum_cons, List.sum_nil]; omega) ?_
 rintro ⟨k, oa, oc, R⟩ ⟨hk, hO, hE⟩
 try dsimp only at hk hO hE ⊢
 refine wAb (wAb (wAa (jp rfl (sFL rfl rfl ?_))))
 refine wAi rfl rfl (wBj rfl rfl rfl) ?_
 refine js rfl (fun h16 => ?_) (fun h16 => ?_)
 ·refine wAc (jT (wAg rfl (wAd (jT (wAb (wAh (wAb (wAa (sFL rfl rfl ?_)))))))))
  refine jp rfl ?_
  have hk1 : k < xs.length := by omega
  obtain ⟨sb, so, va, vc, e0, hcl, hvc, hvs⟩ := wFg hs hp hb hk1 (i := (k : Int)) rfl
  have hrf := hno.ref _ (List.getElem_mem hk1)
  refine wAi rfl rfl (wCe rfl rfl rfl rfl e0 (by omega)) ?_
  refine sFa rfl ?_
  refine wAi rfl rfl (qLd rfl rfl rfl rfl ((hcl 3 _ rfl).cj _)) ?_
  refine jp rfl (wAc (jT (wAb (wAb (wAa (jp rfl (js rfl (fun h26 => ?_) (fun h26 => ?_))))))))
  ·refine wAc (jT (wAg rfl (wAw (jTx (jBx (jT (wAa (jp rfl (ja rfl (by omega) ?_)))))))))
   refine jp rfl (wAc ?_)
   rw [shE_on hk1, if_pos h26] at hE
   refine wAp (k + 1, oa, oc, R) (.cons (t := 2) rfl (.cons (t := 3) rfl (.cons (t := 4) rfl (.cons (t := 6) rfl (.cons (t := 7) rfl .nil))))) ⟨by show k + 1 ≤ xs.length; omega, by show Own _ _ _ _ _ (wAj (wAx s (xs.take (k + 1))).now); rw [wGi hk1, if_pos h26]; exact hO, hE⟩ (by show xs.length - (k + 1) < xs.length - k; omega) (fun _ h => h.subC fun f => by simp only [List.map_append, List.map_cons, List.map_nil, List.sum_append, List.sum_cons, List.sum_nil]; omega)
  refine wAc (jT (wAk rfl (wAd (jT (wAb (wAb (wAa (jp rfl (jp rfl ?_)))))))))
  have hTl := (wDp s (xs.take k)).1
  have hat : xs[k].ref.toNat < (wAx s (xs.take k)).now.length := by omega
  have hgd := wCp hat 0
  obtain ⟨g, gc, eg, hgo⟩ := hO.opn1 (by omega)
  cases eg
  refine wAi rfl rfl (wBe rfl rfl rfl rfl (by omega)) ?_
  refine wAi rfl rfl (qLd (v := .int .u8 ((wAx s (xs.take k)).now[xs[k].ref.toNat].toNat : Int)) rfl rfl rfl rfl (by rw [Nat.zero_add, Nat.mul_one]; exact hO.cj (fun p hp => List.mem_append_left _ hp) (by simp [wAj, hat]))) ?_
  refine js rfl (fun h31 => ?_) (fun h31 => ?_)
  ·refine wAc (jT (wAg rfl (wAb (wAa (wAi rfl rfl (wBa (cs := [_, _, _, _]) rfl rfl rfl (by rfl)) ?_)))))
   refine sSt rfl ?_
   refine jp rfl (wAc (jT (wAe (jTr (jBr (jTr (jTr (jBr (jTr (wDa (rs := [_, _]) ([]) (by exact List.nil_sublist _) rfl (.cons (.agg rfl rfl rfl) (.cons (.tmp rfl) .nil)) ?_))))))))))
   have hse : wCk (wAx s (xs.take k)) xs[k].ref.toNat = 6 := by unfold wCk; rw [hgd, if_pos (by_zero.1 h31)]
   rw [shE_on hk1, if_neg h26, if_neg (by rw [hse]; decide), hse] at hE
   exact ⟨by rw [← hE, if_neg (by decide)]; rfl, rfl⟩
  refine wAc (jT (wAk rfl (wAd (jT (wAb (wAb (wAa (jp rfl (jp rfl (wAi rfl rfl (wBe rfl rfl rfl rfl (by omega)) ?_))))))))))
  refine wAi rfl rfl (qLd (v := .int .u8 ((wAx s (xs.take k)).now[xs[k].ref.toNat].toNat : Int)) rfl rfl rfl rfl (by rw [Nat.zero_add, Nat.mul_one]; exact hO.cj (fun p hp => List.mem_append_left _ hp) (by simp [wAj, hat]))) ?_
  refine js rfl (fun h37 => ?_) (fun h37 => ?_)
  ·refine wAc (jT (wAg rfl (wAb (wAa (wAi rfl rfl (wBa (cs := [_, _, _, _]) rfl rfl rfl (by rfl)) ?_)))))
   refine sSt rfl ?_
   refine jp rfl (wAc (jT (wAe (jTr (jBr (jTr (jTr (jBr (jTr (wDa (rs := [_, _]) ([]) (by exact List.nil_sublist _) rfl (.cons (.agg rfl rfl rfl) (.cons (.tmp rfl) .nil)) ?_))))))))))
   have h255 : (wAx s (xs.take k)).now[xs[k].ref.toNat] = 255 := UInt8.toNat_inj.1 (by show _ = 255; omega)
   have hse : wCk (wAx s (xs.take k)) xs[k].ref.toNat = 70 := by unfold wCk; rw [hgd, if_neg (fun e => h31 (by_zero.2 e)), if_pos h255]
   rw [shE_on hk1, if_neg h26, if_neg (by rw [hse]; decide), hse] at hE
   exact ⟨by rw [← hE, if_neg (by decide)]; rfl, rfl⟩
  refine wAc (jT (wAk rfl (wAd (jT (wAa (jp rfl (jp rfl (jp rfl (jp rfl (wAi rfl rfl (wBe rfl rfl rfl rfl (by omega)) ?_))))))))))
  refine wAi rfl rfl (qLd (v := .int .u8 ((wAx s (xs.take k)).now[xs[k].ref.toNat].toNat : Int)) rfl rfl rfl rfl (by rw [Nat.zero_add, Nat.mul_one]; exact hO.cj (fun p hp => List.mem_append_left _ hp) (by simp [wAj, hat]))) ?_
  have h255 : (wAx s (xs.take k)).now[xs[k].ref.toNat] ≠ 255 := fun e => h37 (by rw [e]; rfl)
  have hinc := inc_u8 h255
  refine wAi rfl rfl (qEq (qP rfl rfl) (v' := .int .u8 (((wAx s (xs.take k)).now[xs[k].ref.toNat] + 1).toNat : Int)) (by first | (congr 1; rw [IntKind.wrap_u8]; omega) | congr 1)) ?_
  refine wAi rfl rfl (wBe rfl rfl rfl rfl (by omega)) ?_
  refine jl_s rfl (wGp (R := R) rfl rfl rfl rfl rfl rfl hO hgo (by rw [Nat.zero_add]; omega)) ?_; rintro _ _ _ ⟨rfl, R46, rfl, o46⟩
  refine wAc (jB (jT (wAa (jp rfl (ja rfl (by omega) ?_)))))
  refine jp rfl (wAc ?_)
  have hse : wCk (wAx s (xs.take k)) xs[k].ref.toNat = 0 := by unfold wCk; rw [hgd, if_neg (fun e => h31 (by_zero.2 e)), if_neg h255]
  rw [shE_on hk1, if_neg h26, if_pos hse] at hE
  refine wAp (k + 1, some ⟨g, 0, none⟩, oc, R46) (.cons (t := 2) rfl (.cons (t := 3) rfl (.cons (t := 4) rfl (.cons (t := 6) rfl (.cons (t := 7) rfl .nil))))) ⟨by show k + 1 ≤ xs.length; omega, o46.to rfl ?_, hE⟩ (by show xs.length - (k + 1) < xs.length - k; omega) (fun _ h => h.subC fun f => by simp only [List.map_append, List.map_cons, List.map_nil, List.sum_append, List.sum_cons, List.sum_nil]; omega)
  show _ = wAj (wAx s (xs.take (k + 1))).now
  rw [wGi hk1, if_neg h26]
  unfold wCs wAj; rw [List.map_set, hgd, Nat.zero_add, Nat.mul_one]
 refine wAc (jT (wAk rfl (wAw (jTx (jTx (jBx (jT (wAb (wAa (jp rfl (sFa rfl ?_)))))))))))
 refine sSt rfl ?_
 refine wAc (jT (wAb (wAa (sLL rfl ?_))))
 refine sSt rfl ?_
 refine jp rfl (wAc (jT (wAe ?_)))
 obtain rfl : k = xs.length := by omega
 rw [List.take_length] at hO
 rw [List.take_length, List.drop_length] at hE
 refine wGy hO (by simp) ?_
 intro M8 a8 c8 hM8 e8 hc8 hs8; cases e8
 refine wDa (rs := [_, _]) ([]) (by exact List.nil_sublist _) rfl (.cons (.agg rfl rfl rfl) (.cons (.tmp rfl) .nil)) ?_
 have h0 : shE s xs = 0 := by rw [← hE]; rfl
 obtain ⟨q1, q2, q3, q4⟩ := wDp s xs
 refine ⟨?_, rfl⟩
 rw [if_pos h0]
 refine ⟨_, rfl, ST.of (by rw [q4]; exact h1.mono hM8) (by rw [q2]; exact h2.mono hM8) ⟨_, _, by rw [q1], by rw [q1]; exact hc8, hs8⟩ (by rw [q3]; exact h4.mono hM8)⟩
end Go.Proofs.YtkcpllhggofloaaGreat
