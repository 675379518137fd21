/- Walks: the document's superblocks, as bytes. -/
import Derived.Test.YtbhkdjheooknfaaGreatZKp
namespace Go.Proofs.YtbhkdjheooknfaaGreat
set_option linter.unusedSimpArgs false
set_option linter.unusedVariables false
set_option linter.unusedSectionVars false
open Go.RowKit
theorem Own.opn1 {v : Value} {R : Lc} {e : TypeId} {size n : Nat} {xs : List Value} (h : Own v R e size n xs) (hn : 0 < n) : ∃ g c, v = .slice (some ⟨g, 0, none⟩) n c ∧ v.ownBlock = some g := by
 rcases h.2 with ⟨_, h2, _⟩ | ⟨g, cap, cur, rfl, _⟩
 ·omega
 exact ⟨g, cap, rfl, rfl⟩
set_option maxHeartbeats 2000000 in
theorem rsettled_walk (bs : List (List By)) (ws : List Wt) (a1 : Option Addr) (c1 : Nat) (ps1 : List (List By × Value)) (a2 : Option Addr) (c2 : Nat) (ps2 : List (Wt × Value)) (M : Mem) (hc1 : bs.length ≤ c1) (hs1 : SM M a1 (ps1.map (·.2))) (hp1 : ps1.map (·.1) = bs) (hb1 : ∀ p ∈ ps1, BS M p.2 p.1) (hc2 : ws.length ≤ c2) (hs2 : SM M a2 (ps2.flatMap wBs)) (hp2 : ps2.map (·.1) = ws) (hb2 : ∀ p ∈ ps2, BS M p.2 p.1.2) (hdk : dkOk bs ws) :
  SpecL Tryz.prog 41 #[.agg #[.slice a1 bs.length c1, .slice a2 ws.length c2]] M [] fun u M' L' => (∃ bv, u = .agg #[bv, .slice none 0 0] ∧ LS M' bv (wFs bs ws)) ∧ L' = [] := by
 obtain ⟨hq1, hq2, hq3, hq4⟩ := id hdk
 have hpl : ps1.length = bs.length := by rw [← hp1, List.length_map]
 refine wAe (vs := [_]) 34 _ Tryz.func41 rfl Tryz.ntmps41 rfl rfl ?_; intro W
 refine wAb (wAa (wAv rfl rfl (wBw (cs := [_, _]) rfl rfl rfl rfl) ?_)); rintro _ _ _ ⟨b1, rfl, rfl, rfl⟩
 refine sAl rfl fun b2 => ?_
 refine wAc (jT (wAb (wAa (sAl rfl fun b3 => ?_))))
 refine wAc (jT (wAb (wAa (sFL rfl rfl ?_))))
 refine sFL rfl rfl ?_
 refine wAv rfl rfl (wBk (R := []) rfl rfl rfl rfl (Own.nil _ _) (by rw [List.length_map, hpl, Nat.mul_one]) hs1 rfl (fun u hu => by obtain ⟨q, hq, rfl⟩ := List.mem_map.1 hu; obtain ⟨a, c, e, _⟩ := hb1 q hq; rw [e]; rfl) (by omega) (by omega)) ?_; rintro v9 _ _ ⟨rfl, R9, rfl, o9⟩
 obtain ⟨a9, c9, rfl⟩ := o9.form
 rw [Nat.zero_add, List.nil_append] at o9
 refine sFa rfl ?_
 refine sSt rfl ?_
 refine wAc (jT (wAb (wAb (wAa (jp rfl (wAc (jT (wAh ?_))))))))
 refine wAo (α := Nat × Option Addr × Nat × Lc × List (List By × Value)) (fun z => [(1, .pointer (some ⟨b1, 0, none⟩)), (2, .pointer (some ⟨b2, 0, none⟩)), (3, .pointer (some ⟨b3, 0, none⟩)), (4, .int .i64 z.1)]) (fun z => M) (fun z => z.2.2.2.1 ++ [(b3, .cells [.slice z.2.1 bs.length z.2.2.1, .slice none 0 0].toArray 25 (0, 0)), (b2, .cells [Value.slice none 0 0, .slice none 0 0].toArray 25 (0, 0)), (b1, .cells [.slice a1 bs.length c1, .slice a2 ws.length c2].toArray 25 (0, 0))]) (fun z => z.1 ≤ ws.length ∧ Own (.slice z.2.1 bs.length z.2.2.1) z.2.2.2.1 26 1 bs.length (z.2.2.2.2.map (·.2)) ∧ z.2.2.2.2.map (·.1) = wFs bs (ws.take z.1) ∧ ∀ q ∈ z.2.2.2.2, BS M q.2 q.1) (fun z => ws.length - z.1)
  (0, a9, c9, R9, ps1) (.cons (t := 1) rfl (.cons (t := 2) rfl (.cons (t := 3) rfl (.cons (t := 4) rfl .nil)))) ⟨Nat.zero_le _, o9, hp1, hb1⟩ (fun _ h => h.subC fun f => by simp only [List.map_append, List.map_cons, List.map_nil, List.sum_append, List.sum_cons, List.sum_nil]; omega) ?_
 rintro ⟨k, oa, oc, R, ps⟩ ⟨hk, hO, hps, hbs⟩
 try dsimp only at hk hO hps hbs ⊢
 refine wAb (wAb (wAa (jp rfl (sFL rfl rfl ?_))))
 refine wAi rfl rfl (wBe rfl rfl rfl) ?_
 refine js rfl (fun h15 => ?_) (fun h15 => ?_)
 ·refine wAc (jT (wAg rfl (wAd (jT (wAb (wAh (wBj (p := { A := fun i => !([15].contains i), U := fun i => !([15].contains i) }) [(0, true), (1, true), (2, true), (3, true), (4, true), (5, true), (6, true), (7, true), (8, true), (9, true), (10, true), (11, true), (12, true), (13, true), (14, true), (15, false)] M ([(b3, .cells [.slice oa bs.length oc, .slice none 0 0].toArray 25 (0, 0)), (b2, .cells [Value.slice none 0 0, .slice none 0 0].toArray 25 (0, 0)), (b1, .cells [.slice a1 bs.length c1, .slice a2 ws.length c2].toArray 25 (0, 0))]) ([]) (by kernel_rfl) (by kernel_rfl) (by kernel_rfl) (by kernel_rfl) rfl (by simp) (MLe.refl _) (by simp) ?_)))))))
  refine dFa rfl rfl ?_
  refine dLd rfl rfl ?_
  refine dFa rfl rfl ?_
  refine dLd rfl rfl ?_
  refine dp rfl rfl ?_
  have hk1 : k < ws.length := by omega
  have hw4 := hq4 _ (List.getElem_mem hk1)
  obtain ⟨sb, so, va, vc, e0, hcl, hvc, hvs⟩ := wJn hs2 hp2 hb2 hk1
  obtain ⟨g, gc, e9, hgo⟩ := hO.opn1 (by omega)
  cases e9
  refine wBh rfl rfl rfl (wCf rfl rfl rfl rfl e0 (by omega)) ?_
  refine dFa rfl rfl ?_
  refine wBh rfl rfl rfl (qLd rfl rfl rfl rfl ((hcl 0 _ rfl).cj _)) ?_
  refine dFa rfl rfl ?_
  refine dLd rfl rfl ?_
  refine dp rfl rfl ?_
  refine wBh rfl rfl rfl (wCf rfl rfl rfl rfl e0 (by omega)) ?_
  refine dFa rfl rfl ?_
  refine wBh rfl rfl rfl (qLd rfl rfl rfl rfl ((hcl 1 _ rfl).cj _)) ?_
  refine wBh rfl rfl rfl (wBb rfl rfl rfl rfl (by omega)) ?_
  refine jd_e rfl rfl (hStoreOwn (R := R) rfl rfl rfl rfl rfl rfl hO hgo (by rw [Nat.zero_add]; omega)) ?_; rintro _ _ _ ⟨rfl, R15, rfl, o15⟩
  refine ⟨MLe.refl _, by simp, ?_⟩
  refine wCn ?_
  refine jPn (jB (jT (wAa (jp rfl (ja rfl (by omega) ?_)))))
  refine jp rfl (wAc ?_)
  refine wAn (k + 1, some ⟨g, 0, none⟩, _, R15, ps.set ws[k].1.toNat (ws[k].2, .slice va ws[k].2.length vc)) (.cons (t := 1) rfl (.cons (t := 2) rfl (.cons (t := 3) rfl (.cons (t := 4) rfl .nil)))) ⟨by show k + 1 ≤ ws.length; omega, o15.to rfl (by show _ = List.map (fun q : List By × Value => q.2) (ps.set _ _); rw [List.map_set, Nat.zero_add, Nat.mul_one]), by show List.map (fun q : List By × Value => q.1) (ps.set _ _) = _; rw [List.map_set, hps, setB_step hk1], fun q hq => ?_⟩ (by show ws.length - (k + 1) < ws.length - k; omega) (fun _ h => h.subC fun f => by simp only [List.map_append, List.map_cons, List.map_nil, List.sum_append, List.sum_cons, List.sum_nil]; omega)
  rcases List.mem_or_eq_of_mem_set hq with hq | rfl
  ·exact hbs q hq
  exact ⟨va, vc, rfl, hvc, hvs⟩
 refine wAc (jT (wAk rfl (wAs (jTx (jTx (jBx (jT (wAb (wAa (sLL rfl ?_))))))))))
 refine sSt rfl ?_
 refine wAc (jT (wAf (wGi hO (by simp) ?_)))
 intro M8 a8 c8 hM8 e8 hc8 hs8; cases e8
 refine wBr (rs := [_]) ([]) (by exact List.nil_sublist _) rfl (.cons (.agg rfl rfl rfl) .nil) ?_
 obtain rfl : k = ws.length := by omega
 rw [List.take_length] at hps
 exact ⟨⟨_, rfl, _, _, ps, by rw [wFe], by rw [wFe]; exact hc8, hs8, hps, fun q hq => (hbs q hq).mono hM8⟩, rfl⟩
theorem wcell_one {M : Mem} {ps : List (Wt × Value)} (hb : ∀ p ∈ ps, BS M p.2 p.1.2) : ∀ u ∈ ps.flatMap wBs, u.oneCell' = true := by
 intro u hu
 obtain ⟨p, hp, h⟩ := List.mem_flatMap.1 hu
 obtain ⟨a, c, e, _⟩ := hb p hp
 unfold wBs at h
 rw [e] at h
 exact List.all_eq_true.1 (rfl : ([Value.int .i64 p.1.1, .slice a p.1.2.length c].all fun v => v.oneCell') = true) u h
theorem rwith_walk (bs : List (List By)) (ws : List Wt) (a1 : Option Addr) (c1 : Nat) (ps1 : List (List By × Value)) (a2 : Option Addr) (c2 : Nat) (ps2 : List (Wt × Value)) (M : Mem) (hc1 : bs.length ≤ c1) (hs1 : SM M a1 (ps1.map (·.2))) (hp1 : ps1.map (·.1) = bs) (hb1 : ∀ p ∈ ps1, BS M p.2 p.1) (hc2 : ws.length ≤ c2) (hs2 : SM M a2 (ps2.flatMap wBs)) (hp2 : ps2.map (·.1) = ws) (hb2 : ∀ p ∈ ps2, BS M p.2 p.1.2) (hf : ws.length ≤ 5000) (at_ : Int) (xs : List By) (xa : Option Addr) (xc : Nat) (hxc : xs.length ≤ xc) (hx : SM M xa (wAj xs)) :
  SpecL Tryz.prog 84 #[.agg #[.slice a1 bs.length c1, .slice a2 ws.length c2], .int .i64 at_, .slice xa xs.length xc] M [] fun u M' L' => (∃ wv, u = .agg #[.slice a1 bs.length c1, wv] ∧ WS M' wv (ws ++ [(at_, xs)])) ∧ L' = [] := by
 have hpl : ps2.length = ws.length := by rw [← hp2, List.length_map]
 refine wAe (vs := [_, _, _]) 26 _ Tryz.func84 rfl Tryz.ntmps84 rfl rfl ?_; intro W
 refine wAb (wAa (wAv rfl rfl (wBw (cs := [_, _]) rfl rfl rfl rfl) ?_)); rintro _ _ _ ⟨b3, rfl, rfl, rfl⟩
 refine sAl rfl fun b6 => ?_
 refine wAc (jT (wAb (wAa (sFL rfl rfl ?_))))
 refine wAi rfl rfl (wAq (cs := [_, _]) rfl rfl rfl (by rfl)) ?_
 refine sAl rfl fun b7 => ?_
 refine sSt rfl ?_
 refine wAc (jT (wAb (wAa (sFL rfl rfl ?_))))
 refine sFL rfl rfl ?_
 refine wAv rfl rfl (wBk (R := []) rfl rfl rfl rfl (Own.nil _ _) (by rw [wBm wBs 2 wBx, hpl]) hs2 rfl (wcell_one hb2) (by omega) (by omega)) ?_; rintro v15 _ _ ⟨rfl, R15, rfl, o15⟩
 obtain ⟨a15, c15, rfl⟩ := o15.form
 rw [Nat.zero_add, List.nil_append] at o15
 refine sFa rfl ?_
 refine sSt rfl ?_
 refine wAc (jT (wAb (wAa (sFL rfl rfl ?_))))
 refine jp rfl (jp rfl (wAi rfl rfl (wAq (cs := [_, _]) rfl rfl rfl (by rfl)) ?_))
 refine wAv rfl rfl (wAr (cs := [.int .i64 at_, .slice xa xs.length xc]) rfl rfl rfl (by rfl) (by rfl) (by rfl)) ?_; rintro _ _ _ ⟨b22, rfl, rfl, rfl⟩
 refine wAv rfl rfl (wCr (R := R15) (m := 1) (news := [Value.int .i64 at_, .slice xa xs.length xc]) rfl rfl rfl rfl o15 rfl (fun j v hv => CJ.loc (by rw [Nat.zero_add]; simpa using hv)) rfl (by rfl) (fun u hu => List.all_eq_true.1 (rfl : ([Value.int .i64 at_, .slice xa xs.length xc].all fun v => v.oneCell') = true) u hu) (by omega) (by omega)) ?_; rintro v23 _ _ ⟨rfl, R23, rfl, o23, _⟩
 obtain ⟨a23, c23, rfl⟩ := o23.form
 refine sFa rfl ?_
 refine sSt rfl ?_
 refine wAc (jT (wAb (wAa (sLL rfl ?_))))
 refine sSt rfl ?_
 refine wAc (jT (wAf (wGi o23 (by simp) ?_)))
 intro M8 a8 c8 hM8 e8 hc8 hs8; cases e8
 refine wBr (rs := [_]) ([]) (by exact List.nil_sublist _) rfl (.cons (.agg rfl rfl rfl) .nil) ?_
 refine ⟨⟨_, rfl, _, _, ps2 ++ [((at_, xs), .slice xa xs.length xc)], by rw [List.length_append]; rfl, by rw [List.length_append]; exact hc8, by rw [List.flatMap_append]; exact hs8, by rw [List.map_append, hp2]; rfl, fun q hq => ?_⟩, rfl⟩
 rcases List.mem_append.1 hq with hq | hq
 ·exact (hb2 q hq).mono hM8
 rw [List.mem_singleton.1 hq]; exact ⟨xa, xc, rfl, hxc, hx.mono hM8⟩
theorem wHq (bs : List (List By)) (ws : List Wt) (u v : Value) (M : Mem) (h1 : LS M u bs) (h2 : WS M v ws) (hdk : dkOk bs ws) : SpecL Tryz.prog 42 #[.agg #[u, v]] M [] fun u _ _ => u = .bool true := by
 obtain ⟨q1, q2, q3, q4⟩ := id hdk
 have h := rmay3_spec bs ws u v M h1 h2 ⟨by omega, by omega, fun b hb => by have := q3 b hb; omega, fun w hw => by have := (q4 w hw).2.2; omega⟩
 rw [decide_eq_true hdk] at h; exact h
theorem wDi (bs : List (List By)) (ws : List Wt) (a1 : Option Addr) (c1 : Nat) (ps1 : List (List By × Value)) (a2 : Option Addr) (c2 : Nat) (ps2 : List (Wt × Value)) (M : Mem) (hc1 : bs.length ≤ c1) (hs1 : SM M a1 (ps1.map (·.2))) (hp1 : ps1.map (·.1) = bs) (hb1 : ∀ p ∈ ps1, BS M p.2 p.1) (hc2 : ws.length ≤ c2) (hs2 : SM M a2 (ps2.flatMap wBs)) (hp2 : ps2.map (·.1) = ws) (hb2 : ∀ p ∈ ps2, BS M p.2 p.1.2) (hdk : dkOk bs ws) (hw : ws.length < 4096) (at_ : Int) (hat : 0 ≤ at_ ∧ at_ < 256) (xs : List By) (xa : Option Addr) (xc : Nat) (hxc : xs.length ≤ xc) (hx : SM M xa (wAj xs)) (hl : xs.length = 128) :
  SpecL Tryz.prog 60 #[.agg #[.slice a1 bs.length c1, .slice a2 ws.length c2], .int .i64 at_, .slice xa xs.length xc] M [] fun u M' L' => (∃ wv, u = .tuple #[.agg #[.slice a1 bs.length c1, wv], .int .i64 0] ∧ WS M' wv (ws ++ [(at_, xs)])) ∧ L' = [] := by
 refine wAe (vs := [_, _, _]) 32 _ Tryz.func60 rfl Tryz.ntmps60 rfl rfl ?_; intro W
 refine wAb (wAa (wAv rfl rfl (wBw (cs := [_, _]) rfl rfl rfl rfl) ?_)); rintro _ _ _ ⟨b3, rfl, rfl, rfl⟩
 refine sAl rfl fun b6 => ?_
 refine jp rfl (wAc (jT (wAb (wAb (wAa (sLL rfl ?_))))))
 refine wAi rfl rfl (wAy rfl rfl rfl rfl rfl (by kernel_rfl) (wHq bs ws _ _ M ⟨a1, c1, ps1, rfl, hc1, hs1, hp1, hb1⟩ ⟨a2, c2, ps2, rfl, hc2, hs2, hp2, hb2⟩ hdk)) ?_
 refine jp rfl (wAc (jT (wAk rfl (wAd (jT (wAb (wAb (wAa (jp rfl (jf rfl (decide_eq_false (by omega)) ?_))))))))))
 refine jp rfl (jp rfl (jf rfl (decide_eq_false (by omega)) ?_))
 refine jp rfl (wAc (jT (wAk rfl (wAd (jT (wAb (wAb (wAa (jp rfl (wAi rfl rfl (wBe rfl rfl rfl) ?_))))))))))
 refine jf rfl (decide_eq_false (by omega)) ?_
 refine wAc (jT (wAk rfl (wAd (jT (wAb (wAb (wAa (sFL rfl rfl ?_))))))))
 refine wAi rfl rfl (wBe rfl rfl rfl) ?_
 refine jf rfl (decide_eq_false (by omega)) ?_
 refine wAc (jT (wAk rfl (wAd (jT (wAb (wAa (sLL rfl ?_)))))))
 refine jp rfl (jp rfl (wAv rfl rfl (wAt rfl rfl rfl rfl rfl (by kernel_rfl) (rwith_walk bs ws a1 c1 ps1 a2 c2 ps2 M hc1 hs1 hp1 hb1 hc2 hs2 hp2 hb2 (by omega) at_ xs xa xc hxc hx)) ?_)); rintro _ M1 _ ⟨hM1, _, rfl, ⟨⟨wv, rfl, hwv⟩, rfl⟩⟩
 obtain ⟨wa, wc, wps, rfl, hwr⟩ := id hwv
 refine sSt rfl ?_
 refine jp rfl (wAc (jT (wAf (wBr (rs := [_, _]) ([]) (by exact List.nil_sublist _) rfl (.cons (.agg rfl rfl rfl) (.cons (.tmp rfl) .nil)) ?_))))
 exact ⟨⟨_, rfl, hwv⟩, rfl⟩
theorem rtaken_walk (x : Int) (M : Mem) :
  SpecL Tryz.prog 85 #[.int .i64 x] M [] fun u _ _ => u = .bool (decide (tk x)) := by
 refine wAe (vs := [_]) 9 _ Tryz.func85 rfl Tryz.ntmps85 rfl rfl ?_; intro W
 refine wAb (wAa (jp rfl (wAc (jT (wAb (wAa (jp rfl (js rfl (fun h4 => ?_) (fun h4 => ?_)))))))))
 ·refine jp rfl (jp rfl (jp rfl (jp rfl (jp rfl (wAc (jT (wAf (jr1 rfl rfl ?_))))))))
  unfold tk; first | exact congrArg Value.bool (decide_eq_decide.2 (by omega)) | exact congrArg Value.bool (decide_eq_false (by omega)).symm
 refine jp rfl (jp rfl (jp rfl (jp rfl (jp rfl (wAc (jT (wAf (jr1 rfl rfl ?_))))))))
 unfold tk; first | exact congrArg Value.bool (decide_eq_decide.2 (by omega)) | exact congrArg Value.bool (decide_eq_false (by omega)).symm
set_option maxHeartbeats 1000000 in
theorem rmay4_walk (x : Su) (da : Option Addr) (dc : Nat) (M : Mem) (hd : SM M da (wAw x.dead)) (hl : x.dead.length ≤ 100000) :
  SpecL Tryz.prog 62 #[.agg #[.int .u32 x.gen, .int .i64 x.root, .int .u32 x.next, .int .u32 x.table, .slice da x.dead.length dc]] M [] fun u _ _ => u = .bool (decide (suOk x)) := by
 refine wAe (vs := [_]) 27 _ Tryz.func62 rfl Tryz.ntmps62 rfl rfl ?_; intro W
 refine wAb (wAa (wAv rfl rfl (wBw (cs := [_, _, _, _, _]) rfl rfl rfl rfl) ?_)); rintro _ _ _ ⟨b1, rfl, rfl, rfl⟩
 refine jp rfl (wAc (jT (wAb (wAb (wAa (jp rfl (wAc (jT (wAh ?_)))))))))
 refine wAo (α := Nat) (fun k => [(1, .pointer (some ⟨b1, 0, none⟩)), (3, .int .i64 k)]) (fun _ => M) (fun _ => [(b1, .cells [.int .u32 x.gen, .int .i64 x.root, .int .u32 x.next, .int .u32 x.table, .slice da x.dead.length dc].toArray 72 (0, 0))]) (fun k => k ≤ x.dead.length ∧ ∀ y ∈ x.dead.take k, tk y) (fun k => x.dead.length - k)
  0 (.cons (t := 1) rfl (.cons (t := 3) rfl .nil)) ⟨Nat.zero_le _, fun y h => by simp at h⟩ (fun _ h => h) ?_
 rintro k ⟨hk, hall⟩
 try dsimp only at hk hall ⊢
 refine wAb (wAb (wAa (jp rfl (sFL rfl rfl ?_))))
 refine wAi rfl rfl (wBe rfl rfl rfl) ?_
 refine js rfl (fun h8 => ?_) (fun h8 => ?_)
 ·refine wAc (jT (wAg rfl (wAd (jT (wAb (wAh (wAb (wAa (sFL rfl rfl ?_)))))))))
  refine jp rfl ?_
  have hk1 : k < x.dead.length := by omega
  obtain ⟨rb, ro, e0, hrx⟩ := hd.open (by intro e; have := congrArg List.length e; rw [wBc, List.length_nil] at this; omega)
  refine wAi rfl rfl (wCf rfl rfl rfl rfl e0 (by omega)) ?_
  refine wAi rfl rfl (qLd rfl rfl rfl rfl ((hrx ((k : Int).toNat * 1) (.int .i64 x.dead[k]) (by simp [wAw, hk1])).cj _)) ?_
  refine wAi rfl rfl (wAy rfl rfl rfl rfl rfl (by kernel_rfl) (rtaken_walk x.dead[k] M)) ?_
  refine jsb rfl (fun h17 => ?_) (fun h17 => ?_)
  ·refine wAc (jT (wAg rfl (wAb (wAa (jp rfl (wAc (jT (wAf (jBr (jTr (jTr (jBr (jTr (wAu (L' := []) (List.nil_sublist _) ?_))))))))))))))
   refine jr1 rfl rfl ?_
   rw [decide_eq_false fun h : suOk x => by have := h.1 _ (List.getElem_mem hk1); simp [this] at h17]
  refine wAc (jT (wAk rfl (wAd (jB (jT (wAa (jp rfl (ja rfl (by omega) ?_))))))))
  refine jp rfl (wAc ?_)
  refine wAn (k + 1) (.cons (t := 1) rfl (.cons (t := 3) rfl .nil)) ⟨by show k + 1 ≤ x.dead.length; omega, wEy hk1 hall (by simpa using h17)⟩ (by show x.dead.length - (k + 1) < x.dead.length - k; omega) (fun _ h => h)
 refine wAc (jT (wAk rfl (wAs (jTx (jTx (jBx (jT (wAb (wAa (sFL rfl rfl ?_))))))))))
 refine wDf rfl rfl (wAy rfl rfl rfl rfl rfl (by kernel_rfl) (rtaken_walk x.root M)) (fun h20 => ?_) (fun h20 => ?_)
 ·refine jp rfl (sFL rfl rfl ?_)
  refine wAi rfl rfl (wBe rfl rfl rfl) ?_
  refine jp rfl (jp rfl (jp rfl (wAc (jT (wAf (wAu (L' := []) (List.nil_sublist _) ?_))))))
  refine jr1 rfl rfl ?_
  obtain rfl : k = x.dead.length := by omega
  rw [List.take_length] at hall
  have hr : tk x.root := by simpa using h20
  exact congrArg Value.bool (decide_eq_decide.2 ⟨fun h => ⟨hall, hr, by omega⟩, fun h => by have := h.2.2; omega⟩)
 iterate 7 refine jp rfl ?_
 refine wAc (jT (wAf (wAu (L' := []) (List.nil_sublist _) ?_)))
 refine jr1 rfl rfl ?_
 have hr : ¬ tk x.root := by simpa using h20
 rw [decide_eq_false fun h : suOk x => hr h.2.1]
theorem rsealed_walk (b : List By) (a : Option Addr) (c : Nat) (M : Mem) (hs : SM M a (wAj b)) (h : b.length ≤ 124) :
  SpecL Tryz.prog 88 #[.slice a b.length c] M [] fun u M' L' => Own u L' 5 1 128 (wAj (sealB b)) := by
 have hpl := padB_len h
 refine wAe (vs := [_]) 17 _ Tryz.func88 rfl Tryz.ntmps88 rfl rfl ?_; intro W
 refine wAb (wAa (jp rfl (wAc (jT (wAb (wAa (jp rfl (wAv rfl rfl (wBk (R := []) rfl rfl rfl rfl (Own.nil _ _) (by rw [wAm, Nat.mul_one]) hs rfl (wBf _) (by omega) (by omega)) ?_)))))))); rintro v5 _ _ ⟨rfl, R5, rfl, o5⟩
 rw [Nat.zero_add, List.nil_append] at o5
 obtain ⟨a5, c5, rfl⟩ := o5.form
 refine jp rfl (wAc (jT (wAb (wAh ?_))))
 refine wAo (α := Nat × Option Addr × Nat × Lc) (fun z => [(3, .slice z.2.1 z.1 z.2.2.1)]) (fun _ => M) (fun z => z.2.2.2) (fun z => b.length ≤ z.1 ∧ z.1 ≤ 124 ∧ Own (.slice z.2.1 z.1 z.2.2.1) z.2.2.2 5 1 z.1 (wAj (b ++ List.replicate (z.1 - b.length) 0))) (fun z => 124 - z.1)
  (b.length, a5, c5, R5) (.cons (t := 3) rfl .nil) ⟨Nat.le_refl _, h, o5.to rfl (by rw [Nat.sub_self]; simp)⟩ (fun _ h => h.subC fun f => by simp only [List.map_append, List.map_cons, List.map_nil, List.sum_append, List.sum_cons, List.sum_nil]; omega) ?_
 rintro ⟨n, oa, oc, R⟩ ⟨hn1, hn2, hO⟩
 try dsimp only at hn1 hn2 hO ⊢
 refine wAb (wAb (wAa (jp rfl (wAi rfl rfl (wBe rfl rfl rfl) ?_))))
 refine js rfl (fun h8 => ?_) (fun h8 => ?_)
 ·refine wAc (jT (wAg rfl (wAd (jT (wAh (wAa (jp rfl (wAv rfl rfl (wAr (cs := [_]) rfl rfl rfl (by rfl) (by rfl) (by rfl)) ?_)))))))); rintro _ _ _ ⟨b10, rfl, rfl, rfl⟩
  refine wAv rfl rfl (wCr (R := R) (news := [Value.int .u8 0]) rfl rfl rfl rfl hO rfl (fun j v hv => CJ.loc (by rw [Nat.zero_add]; simpa using hv)) rfl rfl (fun u hu => by rw [List.mem_singleton.1 hu]; rfl) (by omega) (by omega)) ?_; rintro v11 _ _ ⟨rfl, R11, rfl, o11, _⟩
  obtain ⟨a11, c11, rfl⟩ := o11.form
  refine jp rfl (wAc (jB ?_))
  refine wAn (n + 1, a11, c11, R11) (.cons (t := 3) rfl .nil) ⟨by show b.length ≤ n + 1; omega, by show n + 1 ≤ 124; omega, o11.to rfl ?_⟩ (by show 124 - (n + 1) < 124 - n; omega) (fun _ h => h.subC fun f => by simp only [List.map_append, List.map_cons, List.map_nil, List.sum_append, List.sum_cons, List.sum_nil]; omega)
  show _ = wAj (b ++ List.replicate (n + 1 - b.length) 0)
  rw [show n + 1 - b.length = n - b.length + 1 by omega, List.replicate_succ', ← List.append_assoc]; simp only [wAj, List.map_append]; rfl
 refine wAc (jT (wAk rfl (wAs (jTx (jTx (jBx (jT (wAb (wAa (jp rfl ?_))))))))))
 obtain rfl : n = 124 := by omega
 refine wDw hO (by simp) ?_
 intro M6 a6 c6 hM6 e6 hc6 hs6; cases e6
 replace hs6 : SM M6 oa (wAj (padB b)) := hs6
 refine wAi rfl rfl (wAy rfl rfl rfl rfl rfl (by kernel_rfl) (by have := rof_spec oa oc (padB b) M6 hs6 (by omega); rw [hpl] at this; exact this)) ?_
 refine wAv rfl rfl (wAt rfl rfl rfl rfl rfl (by kernel_rfl) (wDv _ M6 (wHy _ _).1 (wHy _ _).2)) ?_; rintro _ M6 _ ⟨_, R14, rfl, ⟨rfl, o14⟩⟩
 refine jp rfl (wAv rfl rfl (wBk (R := R14) rfl rfl rfl rfl o14 (by rw [wAm, hpl]) (hs6.mono (MLe.refl _)) rfl (wBf _) (by omega) (by omega)) ?_); rintro v16 _ _ ⟨rfl, R16, rfl, o16⟩
 refine jp rfl (wAc (jT (wAf (wAu (L' := R16) (by simp) ?_))))
 refine jr1 rfl rfl ?_
 exact o16.to rfl (by unfold sealB wAj; rw [List.map_append])
theorem rslot4_spec (n : Int) (M : Mem) (hn : 0 ≤ n ∧ n < 4294967296) :
  SpecL Tryz.prog 63 #[.int .u32 n] M [] fun u _ _ => u = .int .i64 (n % 4) := by
 refine wAe (vs := [_]) 6 _ Tryz.func63 rfl Tryz.ntmps63 rfl rfl ?_; intro W
 refine wAb (wAa (jp rfl (wAc (jT (wAb (wAa (jp rfl (wAi rfl rfl (qRem rfl rfl rfl rfl (by omega) (by omega)) ?_))))))))
 refine wAi rfl rfl (wCg rfl rfl rfl (by omega)) ?_
 refine jp rfl (wAc (jT (wAf (jr1 rfl rfl ?_))))
 rfl
set_option maxHeartbeats 2000000 in
theorem rblock4_walk (x : Su) (da : Option Addr) (dc : Nat) (M : Mem) (hd : SM M da (wAw x.dead)) (hok : suOk x) (hg : 0 ≤ x.gen ∧ x.gen < 4294967296) (hnx : 0 ≤ x.next ∧ x.next < 4294967296) (htb : 0 ≤ x.table ∧ x.table < 4294967296) :
  SpecL Tryz.prog 64 #[.agg #[.int .u32 x.gen, .int .i64 x.root, .int .u32 x.next, .int .u32 x.table, .slice da x.dead.length dc]] M [] fun u M' L' => Own u L' 5 1 128 (wAj (suB x)) := by
 obtain ⟨hk1, hk2, hk3⟩ := id hok
 unfold tk at hk1 hk2
 have hrl := suRaw_len x
 refine wAe (vs := [_]) 47 _ Tryz.func64 rfl Tryz.ntmps64 rfl rfl ?_; intro W
 refine wAb (wAa (wAv rfl rfl (wBw (cs := [_, _, _, _, _]) rfl rfl rfl rfl) ?_)); rintro _ _ _ ⟨b1, rfl, rfl, rfl⟩
 refine jp rfl (wAc (jT (wAb (wAa (sFL rfl rfl ?_)))))
 refine wAv rfl rfl (wAt rfl rfl rfl rfl rfl (by kernel_rfl) (wDv x.gen M hg.1 hg.2)) ?_; rintro _ M _ ⟨_, R7, rfl, ⟨rfl, o7⟩⟩
 refine jp rfl (wAc (jT (wAb (wAa (jp rfl (sFL rfl rfl ?_))))))
 refine wAv rfl rfl (wAt rfl rfl rfl rfl rfl (by kernel_rfl) (wFm x.root 2 M (by omega) (by omega) (by decide))) ?_; rintro _ M _ ⟨_, R11, rfl, ⟨rfl, o11⟩⟩
 rw [lowB_two (by omega)] at o11
 refine wDw o11 (by simp) ?_
 intro M11 a11 c11 hM11 e11 hc11 hs11
 subst e11
 refine wAv rfl rfl (wBk (R := R7) rfl rfl rfl rfl o7 (by rw [wAm]; rfl) hs11 rfl (wBf _) (by omega) (by omega)) ?_; rintro v12 _ _ ⟨rfl, R12, rfl, o12⟩
 refine jp rfl (wAc (jT (wAb (wAa (jp rfl (sFL rfl rfl ?_))))))
 refine wAv rfl rfl (wAt rfl rfl rfl rfl rfl (by kernel_rfl) (wDv x.next M11 hnx.1 hnx.2)) ?_; rintro _ M11 _ ⟨_, R16, rfl, ⟨rfl, o16⟩⟩
 refine wDw o16 (by simp) ?_
 intro M16 a16 c16 hM16 e16 hc16 hs16
 subst e16
 refine wAv rfl rfl (wBk (R := R12) rfl rfl rfl rfl o12 (by rw [wAm]; rfl) hs16 rfl (wBf _) (by omega) (by omega)) ?_; rintro v17 _ _ ⟨rfl, R17, rfl, o17⟩
 refine jp rfl (wAc (jT (wAb (wAa (jp rfl (sFL rfl rfl ?_))))))
 refine wAv rfl rfl (wAt rfl rfl rfl rfl rfl (by kernel_rfl) (wDv x.table M16 htb.1 htb.2)) ?_; rintro _ M16 _ ⟨_, R21, rfl, ⟨rfl, o21⟩⟩
 refine wDw o21 (by simp) ?_
 intro M21 a21 c21 hM21 e21 hc21 hs21
 subst e21
 refine wAv rfl rfl (wBk (R := R17) rfl rfl rfl rfl o17 (by rw [wAm]; rfl) hs21 rfl (wBf _) (by omega) (by omega)) ?_; rintro v22 _ _ ⟨rfl, R22, rfl, o22⟩
 refine jp rfl (wAc (jT (wAb (wAa (jp rfl (sFL rfl rfl ?_))))))
 refine wAi rfl rfl (wBe rfl rfl rfl) ?_
 refine wAi rfl rfl (qEq (wDe rfl rfl rfl) (v' := .int .u8 ((bU x.dead.length).toNat : Int)) (by rw [u8_bU])) ?_
 refine wAv rfl rfl (wAr (cs := [_]) rfl rfl rfl (by rfl) (by rfl) (by rfl)) ?_; rintro _ _ _ ⟨b28, rfl, rfl, rfl⟩
 refine wAv rfl rfl (wCr (R := R22) (news := [Value.int .u8 ((bU x.dead.length).toNat : Int)]) rfl rfl rfl rfl o22 rfl (fun j v hv => CJ.loc (by rw [Nat.zero_add]; simpa using hv)) rfl rfl (fun u hu => by rw [List.mem_singleton.1 hu]; rfl) (by omega) (by omega)) ?_; rintro v29 _ _ ⟨rfl, R29, rfl, o29, _⟩
 refine jp rfl (wAc (jT (wAb (wAb (wAa (jp rfl (wAc (jT (wAh ?_)))))))))
 refine wAo (α := Nat × Mem × Lc × Value) (fun y => [(1, .pointer (some ⟨b1, 0, none⟩)), (3, y.2.2.2), (4, .int .i64 y.1)]) (fun y => y.2.1) (fun y => y.2.2.1 ++ [(b1, .cells [.int .u32 x.gen, .int .i64 x.root, .int .u32 x.next, .int .u32 x.table, .slice da x.dead.length dc].toArray 72 (0, 0))]) (fun y => y.1 ≤ x.dead.length ∧ MLe M y.2.1 ∧ Own y.2.2.2 y.2.2.1 5 1 (15 + 2 * y.1) (wAj (wJr x) ++ wAj ((x.dead.take y.1).flatMap wGn))) (fun y => x.dead.length - y.1)
  (0, M21, R29, v29) (.cons (t := 1) rfl (.cons (t := 3) rfl (.cons (t := 4) rfl .nil))) ⟨Nat.zero_le _, hM11.trans (hM16.trans hM21), o29.to rfl (by unfold wJr wAj; simp)⟩ (fun _ h => h.subC fun f => by simp only [List.map_append, List.map_cons, List.map_nil, List.sum_append, List.sum_cons, List.sum_nil]; omega) ?_
 rintro ⟨k, Mk, R, s⟩ ⟨hk, hMk, hO⟩
 try dsimp only at hk hMk hO ⊢
 refine wAb (wAb (wAa (jp rfl (sFL rfl rfl ?_))))
 refine wAi rfl rfl (wBe rfl rfl rfl) ?_
 refine js rfl (fun h34 => ?_) (fun h34 => ?_)
 ·refine wAc (jT (wAg rfl (wAd (jT (wAb (wAh (wAa (jp rfl (sFL rfl rfl ?_)))))))))
  refine jp rfl ?_
  have hk4 : k < x.dead.length := by omega
  have hk5 := hk1 x.dead[k] (List.getElem_mem hk4)
  obtain ⟨rb, ro, e0, hrx⟩ := (hd.mono hMk).open (by intro e; have := congrArg List.length e; rw [wBc, List.length_nil] at this; omega)
  refine wAi rfl rfl (wCf rfl rfl rfl rfl e0 (by omega)) ?_
  refine wAi rfl rfl (qLd rfl rfl rfl rfl ((hrx ((k : Int).toNat * 1) (.int .i64 x.dead[k]) (by simp [wAw, hk4])).cj _)) ?_
  refine wAv rfl rfl (wAt rfl rfl rfl rfl rfl (by kernel_rfl) (wFm x.dead[k] 2 Mk (by omega) (by omega) (by decide))) ?_; rintro _ Mk _ ⟨_, R43, rfl, ⟨rfl, o43⟩⟩
  rw [lowB_two (by omega)] at o43
  refine wDw o43 (by simp) ?_
  intro M43 a43 c43 hM43 e43 hc43 hs43
  subst e43
  refine wAv rfl rfl (wBk (R := R) (news := wAj (wGn x.dead[k])) rfl rfl rfl rfl hO (by rw [wAm]; rfl) hs43 (by rfl) (wBf _) (by show _ + 2 ≤ _; omega) (by omega)) ?_; rintro v44 _ _ ⟨rfl, R44, rfl, o44⟩
  refine jp rfl (wAc (jB (jT (wAa (jp rfl (ja rfl (by omega) ?_))))))
  refine jp rfl (wAc ?_)
  refine wAn (k + 1, M43, R44, v44) (.cons (t := 1) rfl (.cons (t := 3) rfl (.cons (t := 4) rfl .nil))) ⟨by show k + 1 ≤ x.dead.length; omega, hMk.trans hM43, ?_⟩ (by show x.dead.length - (k + 1) < x.dead.length - k; omega) (fun _ h => h.subC fun f => by simp only [List.map_append, List.map_cons, List.map_nil, List.sum_append, List.sum_cons, List.sum_nil]; omega)
  show Own _ _ _ _ (15 + 2 * (k + 1)) (_ ++ wAj ((x.dead.take (k + 1)).flatMap wGn))
  rw [twos_step hk4, show wAj ((x.dead.take k).flatMap wGn ++ wGn x.dead[k]) = wAj ((x.dead.take k).flatMap wGn) ++ wAj (wGn x.dead[k]) by simp [wAj], ← List.append_assoc]; exact o44
 refine wAc (jT (wAk rfl (wAs (jTx (jTx (jBx (jT (wAb (wAa (jp rfl ?_))))))))))
 obtain rfl : k = x.dead.length := by omega
 rw [List.take_length] at hO
 refine wDw hO (by simp) ?_
 intro M8 a8 c8 hM8 e8 hc8 hs8; cases e8
 refine wAv rfl rfl (wAt rfl rfl rfl rfl rfl (by kernel_rfl) (by have h1 := rsealed_walk (suRaw x) a8 c8 M8 (by unfold suRaw; rw [show wAj (wJr x ++ x.dead.flatMap wGn) = wAj (wJr x) ++ wAj (x.dead.flatMap wGn) by simp [wAj]]; exact hs8) (by omega); rw [hrl] at h1; exact h1)) ?_; rintro _ M46 _ ⟨hM46, R46, rfl, o46⟩
 refine jp rfl (wAc (jT (wAf (wAu (L' := R46) (by simp) ?_))))
 refine jr1 rfl rfl ?_
 exact o46
end Go.Proofs.YtbhkdjheooknfaaGreat
