/- Walks: the document's commits and cuts. -/
import Derived.Test.YtbhkdjheooknfaaGreatZKu
namespace Go.Proofs.YtbhkdjheooknfaaGreat
set_option linter.unusedSimpArgs false
set_option linter.unusedVariables false
set_option linter.unusedSectionVars false
open Go.RowKit
theorem SpecL.frz0 {P : Program} {f : FuncId} {args : Array Value} {M : Mem} {e : TypeId} {sz n : Nat} {xs : List Value} (h : SpecL P f args M [] fun u M' L' => Own u L' e sz n xs) : SpecL P f args M [] fun u M' L' => ∃ a c, u = .slice a n c ∧ n ≤ c ∧ SM M' a xs ∧ L' = [] := by
 intro w hw
 refine (h w hw).mono fun e w' hh => ?_
 obtain ⟨v, M', R', rfl, ho, hst⟩ := hh
 have hg : ∀ p ∈ R', p.1 ∉ (([] : Lc).map (·.1)) := fun p _ hm => by cases hm
 obtain ⟨M2, a, c, k1, k2, k3, k4, k5⟩ := ho.freeze (L := []) hg (by rw [List.append_nil]; exact hst)
 exact ⟨v, M2, [], rfl, ⟨a, c, k2, k3, k4, rfl⟩, k5⟩
theorem ok_more {bs : List (List By)} {ws : List Wt} (h : dkOk bs ws) (hl : ws.length < 4096) {k : Int} {xs : List By} (hk : 0 ≤ k ∧ k < 256) (hx : xs.length = 128) : dkOk bs (ws ++ [(k, xs)]) :=
 ⟨h.1, by rw [List.length_append, List.length_singleton]; omega, h.2.2.1, fun w hw => by
  rcases List.mem_append.1 hw with hw | hw
  ·exact h.2.2.2 w hw
  rw [List.mem_singleton.1 hw]; exact ⟨hk.1, hk.2, hx⟩⟩
set_option maxHeartbeats 1000000 in
theorem rput4_walk (bs : List (List By)) (ws : List Wt) (a1 : Option Addr) (c1 : Nat) (ps1 : List (List By × Value)) (a2 : Option Addr) (c2 : Nat) (ps2 : List (Wt × Value)) (M : Mem) (hc1 : bs.length ≤ c1) (hs1 : SM M a1 (ps1.map (·.2))) (hp1 : ps1.map (·.1) = bs) (hb1 : ∀ p ∈ ps1, BS M p.2 p.1) (hc2 : ws.length ≤ c2) (hs2 : SM M a2 (ps2.flatMap wBs)) (hp2 : ps2.map (·.1) = ws) (hb2 : ∀ p ∈ ps2, BS M p.2 p.1.2) (hdk : dkOk bs ws) (hw : ws.length < 4096) (x : Su) (da : Option Addr) (dc : Nat) (hd : SM M da (wAw x.dead)) (hok : suOk x) (hg : 0 ≤ x.gen ∧ x.gen < 4294967296) (hnx : 0 ≤ x.next ∧ x.next < 4294967296) (htb : 0 ≤ x.table ∧ x.table < 4294967296) :
  SpecL Tryz.prog 46 #[.agg #[.slice a1 bs.length c1, .slice a2 ws.length c2], .agg #[.int .u32 x.gen, .int .i64 x.root, .int .u32 x.next, .int .u32 x.table, .slice da x.dead.length dc]] M [] fun u M' L' => (∃ wv, u = .tuple #[.agg #[.slice a1 bs.length c1, wv], .int .i64 0] ∧ WS M' wv (ws ++ [(x.gen % 4, suB x)])) ∧ L' = [] := by
 have hk3 := hok.2.2
 refine wAe (vs := [_, _]) 24 _ Tryz.func46 rfl Tryz.ntmps46 rfl rfl ?_; intro W
 refine wAb (wAa (wAv rfl rfl (wBw (cs := [_, _]) rfl rfl rfl rfl) ?_)); rintro _ _ _ ⟨b2, rfl, rfl, rfl⟩
 refine wAv rfl rfl (wBw (cs := [_, _, _, _, _]) rfl rfl rfl rfl) ?_; rintro _ _ _ ⟨b3, rfl, rfl, rfl⟩
 refine sAl rfl fun b4 => ?_
 refine jp rfl (wAc (jT (wAb (wAb (wAa (sLL rfl ?_))))))
 refine wAi rfl rfl (wAy rfl rfl rfl rfl rfl (by kernel_rfl) (wHq bs ws _ _ M ⟨a1, c1, ps1, rfl, hc1, hs1, hp1, hb1⟩ ⟨a2, c2, ps2, rfl, hc2, hs2, hp2, hb2⟩ hdk)) ?_
 refine jp rfl (jp rfl (sLL rfl ?_))
 refine wAi rfl rfl (wAy rfl rfl rfl rfl rfl (by kernel_rfl) (by have := rmay4_walk x da dc M hd (by omega); rwa [decide_eq_true hok] at this)) ?_
 refine jp rfl (jp rfl (wAc (jT (wAk rfl (wAd (jT (wAb (wBj (p := { A := fun i => !([9].contains i), U := fun i => !([9, 10].contains i) }) [(0, true), (1, true), (2, true), (3, true), (4, true), (5, false), (6, false), (7, true), (8, true), (9, false), (10, true)] M ([(b3, .cells [.int .u32 x.gen, .int .i64 x.root, .int .u32 x.next, .int .u32 x.table, .slice da x.dead.length dc].toArray 72 (0, 0)), (b2, .cells [.slice a1 bs.length c1, .slice a2 ws.length c2].toArray 25 (0, 0))]) ([]) (by kernel_rfl) (by kernel_rfl) (by kernel_rfl) (by kernel_rfl) rfl (by simp) (MLe.refl _) (by simp) ?_))))))))
 refine dLL rfl rfl ?_
 refine dFa rfl rfl ?_
 refine dLd rfl rfl ?_
 refine wBh rfl rfl rfl (wAy rfl rfl rfl rfl rfl (by kernel_rfl) (rslot4_spec x.gen M hg)) ?_
 refine dLL rfl rfl ?_
 refine wDy rfl rfl rfl (wAt rfl rfl rfl rfl rfl (by kernel_rfl) (SpecL.frz0 (rblock4_walk x da dc M hd hok hg hnx htb))) ?_; rintro _ M1 _ ⟨hM1, _, rfl, ⟨xa, xc, rfl, hxc, hxs, rfl⟩⟩
 refine ⟨_, _, MLe.refl _, hM1, fun _ h => h, by simp, ?_⟩
 simp only [nA]
 refine wDy rfl rfl rfl (wAt rfl rfl rfl rfl rfl (by kernel_rfl) (by have h1 := wDi bs ws a1 c1 ps1 a2 c2 ps2 M1 hc1 (hs1.mono hM1) hp1 (fun q hq => (hb1 q hq).mono hM1) hc2 (hs2.mono hM1) hp2 (fun q hq => (hb2 q hq).mono hM1) hdk hw (x.gen % 4) (by omega) (suB x) xa xc (by rw [suB_len hok]; exact hxc) hxs (suB_len hok); rw [suB_len hok] at h1; exact h1)) ?_; rintro _ M2 _ ⟨hM2, _, rfl, ⟨⟨wv, rfl, hwv⟩, rfl⟩⟩
 refine ⟨_, _, MLe.refl _, (hM1.trans hM2), fun _ h => h, by simp, ?_⟩
 obtain ⟨wa, wc, wps, rfl, hwr⟩ := id hwv
 iterate 2 refine dp rfl rfl ?_
 refine jd_e rfl rfl (wBd rfl rfl rfl rfl rfl rfl rfl rfl) ?_; rintro _ _ _ ⟨rfl, rfl⟩
 refine ⟨(hM1.trans hM2), by simp, ?_⟩
 refine ep rfl rfl ?_
 refine wCn ?_
 refine jPn (jT (wAf (wBr (rs := [_, _]) ([]) (by exact List.nil_sublist _) rfl (.cons (.agg rfl rfl rfl) (.cons (.tmp rfl) .nil)) ?_)))
 exact ⟨⟨_, rfl, hwv⟩, rfl⟩
set_option maxHeartbeats 2000000 in
theorem rwrite7_walk (bs : List (List By)) (ws : List Wt) (a1 : Option Addr) (c1 : Nat) (ps1 : List (List By × Value)) (a2 : Option Addr) (c2 : Nat) (ps2 : List (Wt × Value)) (M : Mem) (hc1 : bs.length ≤ c1) (hs1 : SM M a1 (ps1.map (·.2))) (hp1 : ps1.map (·.1) = bs) (hb1 : ∀ p ∈ ps1, BS M p.2 p.1) (hc2 : ws.length ≤ c2) (hs2 : SM M a2 (ps2.flatMap wBs)) (hp2 : ps2.map (·.1) = ws) (hb2 : ∀ p ∈ ps2, BS M p.2 p.1.2) (hdk : dkOk bs ws) (hw : ws.length ≤ 4000) (side : Int) (hsd : side = 0 ∨ side = 1) (t : List By) (ta : Option Addr) (c : Nat) (hcc : t.length ≤ c) (ht : SM M ta (wAj t)) (hct : ctOk t) :
  SpecL Tryz.prog 44 #[.agg #[.slice a1 bs.length c1, .slice a2 ws.length c2], .int .i64 side, .slice ta t.length c] M [] fun u M' L' => (∃ wv, u = .tuple #[.agg #[.slice a1 bs.length c1, wv], .int .i64 0] ∧ WS M' wv (ws ++ wts (4 + 2 * side) t)) ∧ L' = [] := by
 have htl := hct.1
 obtain ⟨sb, so, e0, hx⟩ := ht.open (by intro e; have := congrArg List.length e; rw [wAm, List.length_nil] at this; omega)
 subst e0
 have hh0 : SM M (some ⟨sb, so, none⟩) (wAj (wGj t 0)) := .inr ⟨sb, so, rfl, SM.sub 0 128 hx⟩
 have hh1 : SM M (some ⟨sb, so + 128 * 1, none⟩) (wAj (wGj t 1)) := .inr ⟨sb, _, rfl, SM.sub 128 128 hx⟩
 refine wAe (vs := [_, _, _]) 48 _ Tryz.func44 rfl Tryz.ntmps44 rfl rfl ?_; intro W
 refine wAb (wAa (wAv rfl rfl (wBw (cs := [_, _]) rfl rfl rfl rfl) ?_)); rintro _ _ _ ⟨b3, rfl, rfl, rfl⟩
 refine sAl rfl fun b6 => ?_
 refine jp rfl (wAc (jT (wAb (wAb (wAa (sLL rfl ?_))))))
 refine wAi rfl rfl (wAy rfl rfl rfl rfl rfl (by kernel_rfl) (wHq bs ws _ _ M ⟨a1, c1, ps1, rfl, hc1, hs1, hp1, hb1⟩ ⟨a2, c2, ps2, rfl, hc2, hs2, hp2, hb2⟩ hdk)) ?_
 refine jp rfl (wAc (jT (wAk rfl (wAd (jT (wAb (wAb (wAa (jp rfl (js rfl (fun h15 => ?_) (fun h15 => ?_)))))))))))
 ·refine jp rfl (jp rfl (jf rfl (decide_eq_false (by omega)) ?_))
  refine jp rfl (wAc (jT (wAk rfl (wAd (jT (wAb (wAb (wAa (jp rfl ?_)))))))))
  refine wAi rfl rfl (wAy rfl rfl rfl rfl rfl (by kernel_rfl) (by have := rmay7_walk t (some ⟨sb, so, none⟩) c M ht (by omega); rwa [decide_eq_true hct] at this)) ?_
  refine jp rfl (wAc (jT (wAk rfl (wAd (jT (wAb (wEf ([(b6, .cells [Value.slice none 0 0, .slice none 0 0].toArray 25 (0, 0)), (b3, .cells [.slice a1 bs.length c1, .slice a2 ws.length c2].toArray 25 (0, 0))]) (by kernel_rfl) (by simp) ?_)))))))
  refine wDg (i := 0) rfl (by kernel_rfl) (by kernel_rfl) rfl rfl (qLdL rfl rfl rfl rfl rfl) ?_
  refine wFj (i := 1) rfl (by kernel_rfl) (by kernel_rfl) rfl ?_
  refine wDg (i := 2) rfl (by kernel_rfl) (by kernel_rfl) rfl rfl (qA rfl rfl rfl rfl rfl (by omega)) ?_
  refine wDg (i := 3) rfl (by kernel_rfl) (by kernel_rfl) rfl rfl (qA rfl rfl rfl rfl rfl (by omega)) ?_
  refine wFj (i := 4) rfl (by kernel_rfl) (by kernel_rfl) rfl ?_
  refine wDg (i := 5) rfl (by kernel_rfl) (by kernel_rfl) rfl rfl (qEq (qSl rfl rfl rfl (.no _) (.of (v := 128) rfl (by omega) rfl) (.no _) (by omega) (by simp)) (v' := .slice (some ⟨sb, so, none⟩) (wGj t 0).length (c - 0)) (by rw [wEq, wCb htl (by decide)])) ?_
  refine wEh (α := Mem × Option Addr × Nat × Nat) (fun y => MLe M y.1 ∧ WS y.1 (.slice y.2.1 (ws ++ [(4 + 2 * side, wGj t 0)]).length y.2.2.1) (ws ++ [(4 + 2 * side, wGj t 0)])) (fun y => [(1, .int .i64 side), (2, .slice (some ⟨sb, so, none⟩) t.length c), (3, .pointer (some ⟨b3, 0, none⟩)), (6, .pointer (some ⟨b6, 0, none⟩)), (8, .pointer (some ⟨y.2.2.2, 0, none⟩)), (33, .agg #[.slice a1 bs.length c1, .slice y.2.1 (ws ++ [(4 + 2 * side, wGj t 0)]).length y.2.2.1]), (34, .int .i64 0)]) (fun y => y.1) (fun y => [(y.2.2.2, .cells [Value.slice none 0 0, .slice none 0 0].toArray 25 (0, 0)), (b6, .cells [Value.slice none 0 0, .slice none 0 0].toArray 25 (0, 0)), (b3, .cells [.slice a1 bs.length c1, .slice a2 ws.length c2].toArray 25 (0, 0))]) 2 #[true, true, true, true, true, true, true, true, true, true, true, false, false] ?_ (fun rest => ?_)
  ·rintro ⟨M1, wa, wc, b8⟩ ⟨hM1, hwv⟩
   try dsimp only at hM1 hwv ⊢
   refine wFo (i := 11) (by kernel_rfl) ?_
   refine js_s rfl rfl (wBd rfl rfl rfl rfl rfl rfl rfl rfl) ?_; rintro _ _ _ ⟨rfl, rfl⟩
   refine wAp (hM1) (by simp) ?_
   refine wFj (i := 12) rfl (by kernel_rfl) (by kernel_rfl) rfl ?_
   refine wHi (by kernel_rfl) ?_
   refine jPn (jT (wAb (wAb (wAa (jp rfl (jf rfl (decide_eq_false (by omega)) ?_))))))
   refine wAc (jT (wAk rfl (wAd (jT (wAb (wBj (p := { A := fun i => !([9].contains i), U := fun i => !([9, 10].contains i) }) [(0, true), (1, true), (2, true), (3, true), (4, true), (5, true), (6, false), (7, true), (8, true), (9, false), (10, true)] M1 ([(b8, .cells [.slice a1 bs.length c1, .slice wa (ws ++ [(4 + 2 * side, wGj t 0)]).length wc].toArray 25 (0, 0)), (b6, .cells [Value.slice none 0 0, .slice none 0 0].toArray 25 (0, 0)), (b3, .cells [.slice a1 bs.length c1, .slice a2 ws.length c2].toArray 25 (0, 0))]) ([]) (by kernel_rfl) (by kernel_rfl) (by kernel_rfl) (by kernel_rfl) rfl (by simp) (MLe.refl _) (by simp) ?_))))))
   refine dLL rfl rfl ?_
   refine dp rfl rfl ?_
   refine da rfl rfl (by omega) ?_
   refine da rfl rfl (by omega) ?_
   refine dp rfl rfl ?_
   refine wBh rfl rfl rfl (qEq (qSl rfl rfl rfl (.no _) (.no _) (.of (v := 128) rfl (by omega) rfl) (by omega) (by simp)) (v' := .slice (some ⟨sb, so + 128 * 1, none⟩) (wGj t 1).length (c - 128)) (by rw [wBu (by omega), wCb htl (by decide), htl]; try rfl)) ?_
   have hok1 := ok_more (k := 4 + 2 * side) (xs := wGj t 0) hdk (by omega) (by omega) (wCb htl (by decide))
   obtain ⟨wa0, wc0, wps, e5, hwc0, hws0, hwp0, hwb0⟩ := id hwv
   cases e5
   refine wDy rfl rfl rfl (wAt rfl rfl rfl rfl rfl (by kernel_rfl) (by have h1 := wDi bs (ws ++ [(4 + 2 * side, wGj t 0)]) a1 c1 ps1 wa wc wps M1 hc1 (hs1.mono hM1) hp1 (fun q hq => (hb1 q hq).mono hM1) hwc0 hws0 hwp0 hwb0 hok1 (by rw [List.length_append, List.length_singleton]; omega) (5 + 2 * side) (by omega) (wGj t 1) (some ⟨sb, so + 128 * 1, none⟩) (c - 128) (by rw [wCb htl (by decide)]; omega) (hh1.mono hM1) (wCb htl (by decide)); exact h1)) ?_; rintro _ M2 _ ⟨hM2, _, rfl, ⟨⟨wv2, rfl, hwv2⟩, rfl⟩⟩
   refine ⟨_, _, MLe.refl _, hM2, fun _ h => h, by simp, ?_⟩
   obtain ⟨wa2, wc2, wps2, rfl, hwr2⟩ := id hwv2
   iterate 2 refine dp rfl rfl ?_
   refine jd_e rfl rfl (wBd rfl rfl rfl rfl rfl rfl rfl rfl) ?_; rintro _ _ _ ⟨rfl, rfl⟩
   refine ⟨hM2, by simp, ?_⟩
   refine ep rfl rfl ?_
   refine wCn ?_
   refine jPn (jT (wAf (wBr (rs := [_, _]) ([]) (by exact List.nil_sublist _) rfl (.cons (.agg rfl rfl rfl) (.cons (.tmp rfl) .nil)) ?_)))
   refine ⟨⟨_, rfl, ?_⟩, rfl⟩
   have e9 : ws ++ wts (4 + 2 * side) t = ws ++ [(4 + 2 * side, wGj t 0)] ++ [(5 + 2 * side, wGj t 1)] := by unfold wts; rw [show 4 + 2 * side + 1 = 5 + 2 * side by omega, List.append_assoc]; rfl
   rw [e9]; exact hwv2
  refine wBa [6, 10] (by kernel_rfl) rfl ⟨?_, ?_, trivial⟩
  ·refine wCs rfl rfl rfl (wAt rfl rfl rfl rfl rfl (by kernel_rfl) (wDi bs ws a1 c1 ps1 a2 c2 ps2 M hc1 hs1 hp1 hb1 hc2 hs2 hp2 hb2 hdk (by omega) (4 + 2 * side) (by omega) (wGj t 0) (some ⟨sb, so, none⟩) (c - 0) (by rw [wCb htl (by decide)]; omega) hh0 (wCb htl (by decide)))) ?_; rintro _ M1 _ ⟨hM6, _, rfl, ⟨⟨wv, rfl, hwv⟩, rfl⟩⟩
   refine wAp (hM6) (by simp) ?_
   simp only [nA]
   obtain ⟨wa, wc, wps, rfl, hwr⟩ := id hwv
   refine wFj (i := 7) rfl (by kernel_rfl) (by kernel_rfl) rfl ?_
   refine wFj (i := 8) rfl (by kernel_rfl) (by kernel_rfl) rfl ?_
   refine wFj (i := 9) rfl (by kernel_rfl) (by kernel_rfl) rfl ?_
   refine wBa [10] (by kernel_rfl) rfl ⟨?_, trivial⟩
   refine wCs rfl rfl rfl (wCx rfl rfl) ?_; rintro _ _ _ ⟨b8, rfl, rfl, rfl⟩
   refine wAp (by first | exact MLe.refl _ | exact hM6) (by simp) ?_
   refine wBq (listed' := #[true, true, true, true, true, true, true, true, true, true, true, false, false]) (by kernel_rfl) (wBp (.cons (t := 1) rfl (.cons (t := 2) rfl (.cons (t := 3) rfl (.cons (t := 6) rfl (.cons (t := 8) rfl (.cons (t := 33) rfl (.cons (t := 34) rfl .nil))))))) ?_)
   exact rest (M1, wa, wc, b8) ⟨hM6, hwv⟩
  refine wCs rfl rfl rfl (wCx rfl rfl) ?_; rintro _ _ _ ⟨b8, rfl, rfl, rfl⟩
  refine wAp (by first | exact MLe.refl _ | exact hM6) (by simp) ?_
  refine wBa [6] (by kernel_rfl) rfl ⟨?_, trivial⟩
  refine wCs rfl rfl rfl (wAt rfl rfl rfl rfl rfl (by kernel_rfl) (wDi bs ws a1 c1 ps1 a2 c2 ps2 M hc1 hs1 hp1 hb1 hc2 hs2 hp2 hb2 hdk (by omega) (4 + 2 * side) (by omega) (wGj t 0) (some ⟨sb, so, none⟩) (c - 0) (by rw [wCb htl (by decide)]; omega) hh0 (wCb htl (by decide)))) ?_; rintro _ M1 _ ⟨hM6, _, rfl, ⟨⟨wv, rfl, hwv⟩, rfl⟩⟩
  refine wAp (hM6) (by simp) ?_
  simp only [nA]
  obtain ⟨wa, wc, wps, rfl, hwr⟩ := id hwv
  refine wFj (i := 7) rfl (by kernel_rfl) (by kernel_rfl) rfl ?_
  refine wFj (i := 8) rfl (by kernel_rfl) (by kernel_rfl) rfl ?_
  refine wFj (i := 9) rfl (by kernel_rfl) (by kernel_rfl) rfl ?_
  refine wBq (listed' := #[true, true, true, true, true, true, true, true, true, true, true, false, false]) (by kernel_rfl) (wBp (.cons (t := 1) rfl (.cons (t := 2) rfl (.cons (t := 3) rfl (.cons (t := 6) rfl (.cons (t := 8) rfl (.cons (t := 33) rfl (.cons (t := 34) rfl .nil))))))) ?_)
  exact rest (M1, wa, wc, b8) ⟨hM6, hwv⟩
 refine jp rfl (jp rfl (jp rfl (jp rfl (wAc (jT (wAk rfl (wAd (jT (wAb (wAb (wAa (jp rfl ?_))))))))))))
 refine wAi rfl rfl (wAy rfl rfl rfl rfl rfl (by kernel_rfl) (by have := rmay7_walk t (some ⟨sb, so, none⟩) c M ht (by omega); rwa [decide_eq_true hct] at this)) ?_
 refine jp rfl (wAc (jT (wAk rfl (wAd (jT (wAb (wEf ([(b6, .cells [Value.slice none 0 0, .slice none 0 0].toArray 25 (0, 0)), (b3, .cells [.slice a1 bs.length c1, .slice a2 ws.length c2].toArray 25 (0, 0))]) (by kernel_rfl) (by simp) ?_)))))))
 refine wDg (i := 0) rfl (by kernel_rfl) (by kernel_rfl) rfl rfl (qLdL rfl rfl rfl rfl rfl) ?_
 refine wFj (i := 1) rfl (by kernel_rfl) (by kernel_rfl) rfl ?_
 refine wDg (i := 2) rfl (by kernel_rfl) (by kernel_rfl) rfl rfl (qA rfl rfl rfl rfl rfl (by omega)) ?_
 refine wDg (i := 3) rfl (by kernel_rfl) (by kernel_rfl) rfl rfl (qA rfl rfl rfl rfl rfl (by omega)) ?_
 refine wFj (i := 4) rfl (by kernel_rfl) (by kernel_rfl) rfl ?_
 refine wDg (i := 5) rfl (by kernel_rfl) (by kernel_rfl) rfl rfl (qEq (qSl rfl rfl rfl (.no _) (.of (v := 128) rfl (by omega) rfl) (.no _) (by omega) (by simp)) (v' := .slice (some ⟨sb, so, none⟩) (wGj t 0).length (c - 0)) (by rw [wEq, wCb htl (by decide)])) ?_
 refine wEh (α := Mem × Option Addr × Nat × Nat) (fun y => MLe M y.1 ∧ WS y.1 (.slice y.2.1 (ws ++ [(4 + 2 * side, wGj t 0)]).length y.2.2.1) (ws ++ [(4 + 2 * side, wGj t 0)])) (fun y => [(1, .int .i64 side), (2, .slice (some ⟨sb, so, none⟩) t.length c), (3, .pointer (some ⟨b3, 0, none⟩)), (6, .pointer (some ⟨b6, 0, none⟩)), (8, .pointer (some ⟨y.2.2.2, 0, none⟩)), (33, .agg #[.slice a1 bs.length c1, .slice y.2.1 (ws ++ [(4 + 2 * side, wGj t 0)]).length y.2.2.1]), (34, .int .i64 0)]) (fun y => y.1) (fun y => [(y.2.2.2, .cells [Value.slice none 0 0, .slice none 0 0].toArray 25 (0, 0)), (b6, .cells [Value.slice none 0 0, .slice none 0 0].toArray 25 (0, 0)), (b3, .cells [.slice a1 bs.length c1, .slice a2 ws.length c2].toArray 25 (0, 0))]) 2 #[true, true, true, true, true, true, true, true, true, true, true, false, false] ?_ (fun rest => ?_)
 ·rintro ⟨M1, wa, wc, b8⟩ ⟨hM1, hwv⟩
  try dsimp only at hM1 hwv ⊢
  refine wFo (i := 11) (by kernel_rfl) ?_
  refine js_s rfl rfl (wBd rfl rfl rfl rfl rfl rfl rfl rfl) ?_; rintro _ _ _ ⟨rfl, rfl⟩
  refine wAp (hM1) (by simp) ?_
  refine wFj (i := 12) rfl (by kernel_rfl) (by kernel_rfl) rfl ?_
  refine wHi (by kernel_rfl) ?_
  refine jPn (jT (wAb (wAb (wAa (jp rfl (jf rfl (decide_eq_false (by omega)) ?_))))))
  refine wAc (jT (wAk rfl (wAd (jT (wAb (wBj (p := { A := fun i => !([9].contains i), U := fun i => !([9, 10].contains i) }) [(0, true), (1, true), (2, true), (3, true), (4, true), (5, true), (6, false), (7, true), (8, true), (9, false), (10, true)] M1 ([(b8, .cells [.slice a1 bs.length c1, .slice wa (ws ++ [(4 + 2 * side, wGj t 0)]).length wc].toArray 25 (0, 0)), (b6, .cells [Value.slice none 0 0, .slice none 0 0].toArray 25 (0, 0)), (b3, .cells [.slice a1 bs.length c1, .slice a2 ws.length c2].toArray 25 (0, 0))]) ([]) (by kernel_rfl) (by kernel_rfl) (by kernel_rfl) (by kernel_rfl) rfl (by simp) (MLe.refl _) (by simp) ?_))))))
  refine dLL rfl rfl ?_
  refine dp rfl rfl ?_
  refine da rfl rfl (by omega) ?_
  refine da rfl rfl (by omega) ?_
  refine dp rfl rfl ?_
  refine wBh rfl rfl rfl (qEq (qSl rfl rfl rfl (.no _) (.no _) (.of (v := 128) rfl (by omega) rfl) (by omega) (by simp)) (v' := .slice (some ⟨sb, so + 128 * 1, none⟩) (wGj t 1).length (c - 128)) (by rw [wBu (by omega), wCb htl (by decide), htl]; try rfl)) ?_
  have hok1 := ok_more (k := 4 + 2 * side) (xs := wGj t 0) hdk (by omega) (by omega) (wCb htl (by decide))
  obtain ⟨wa0, wc0, wps, e5, hwc0, hws0, hwp0, hwb0⟩ := id hwv
  cases e5
  refine wDy rfl rfl rfl (wAt rfl rfl rfl rfl rfl (by kernel_rfl) (by have h1 := wDi bs (ws ++ [(4 + 2 * side, wGj t 0)]) a1 c1 ps1 wa wc wps M1 hc1 (hs1.mono hM1) hp1 (fun q hq => (hb1 q hq).mono hM1) hwc0 hws0 hwp0 hwb0 hok1 (by rw [List.length_append, List.length_singleton]; omega) (5 + 2 * side) (by omega) (wGj t 1) (some ⟨sb, so + 128 * 1, none⟩) (c - 128) (by rw [wCb htl (by decide)]; omega) (hh1.mono hM1) (wCb htl (by decide)); exact h1)) ?_; rintro _ M2 _ ⟨hM2, _, rfl, ⟨⟨wv2, rfl, hwv2⟩, rfl⟩⟩
  refine ⟨_, _, MLe.refl _, hM2, fun _ h => h, by simp, ?_⟩
  obtain ⟨wa2, wc2, wps2, rfl, hwr2⟩ := id hwv2
  iterate 2 refine dp rfl rfl ?_
  refine jd_e rfl rfl (wBd rfl rfl rfl rfl rfl rfl rfl rfl) ?_; rintro _ _ _ ⟨rfl, rfl⟩
  refine ⟨hM2, by simp, ?_⟩
  refine ep rfl rfl ?_
  refine wCn ?_
  refine jPn (jT (wAf (wBr (rs := [_, _]) ([]) (by exact List.nil_sublist _) rfl (.cons (.agg rfl rfl rfl) (.cons (.tmp rfl) .nil)) ?_)))
  refine ⟨⟨_, rfl, ?_⟩, rfl⟩
  have e9 : ws ++ wts (4 + 2 * side) t = ws ++ [(4 + 2 * side, wGj t 0)] ++ [(5 + 2 * side, wGj t 1)] := by unfold wts; rw [show 4 + 2 * side + 1 = 5 + 2 * side by omega, List.append_assoc]; rfl
  rw [e9]; exact hwv2
 refine wBa [6, 10] (by kernel_rfl) rfl ⟨?_, ?_, trivial⟩
 ·refine wCs rfl rfl rfl (wAt rfl rfl rfl rfl rfl (by kernel_rfl) (wDi bs ws a1 c1 ps1 a2 c2 ps2 M hc1 hs1 hp1 hb1 hc2 hs2 hp2 hb2 hdk (by omega) (4 + 2 * side) (by omega) (wGj t 0) (some ⟨sb, so, none⟩) (c - 0) (by rw [wCb htl (by decide)]; omega) hh0 (wCb htl (by decide)))) ?_; rintro _ M1 _ ⟨hM6, _, rfl, ⟨⟨wv, rfl, hwv⟩, rfl⟩⟩
  refine wAp (hM6) (by simp) ?_
  simp only [nA]
  obtain ⟨wa, wc, wps, rfl, hwr⟩ := id hwv
  refine wFj (i := 7) rfl (by kernel_rfl) (by kernel_rfl) rfl ?_
  refine wFj (i := 8) rfl (by kernel_rfl) (by kernel_rfl) rfl ?_
  refine wFj (i := 9) rfl (by kernel_rfl) (by kernel_rfl) rfl ?_
  refine wBa [10] (by kernel_rfl) rfl ⟨?_, trivial⟩
  refine wCs rfl rfl rfl (wCx rfl rfl) ?_; rintro _ _ _ ⟨b8, rfl, rfl, rfl⟩
  refine wAp (by first | exact MLe.refl _ | exact hM6) (by simp) ?_
  refine wBq (listed' := #[true, true, true, true, true, true, true, true, true, true, true, false, false]) (by kernel_rfl) (wBp (.cons (t := 1) rfl (.cons (t := 2) rfl (.cons (t := 3) rfl (.cons (t := 6) rfl (.cons (t := 8) rfl (.cons (t := 33) rfl (.cons (t := 34) rfl .nil))))))) ?_)
  exact rest (M1, wa, wc, b8) ⟨hM6, hwv⟩
 refine wCs rfl rfl rfl (wCx rfl rfl) ?_; rintro _ _ _ ⟨b8, rfl, rfl, rfl⟩
 refine wAp (by first | exact MLe.refl _ | exact hM6) (by simp) ?_
 refine wBa [6] (by kernel_rfl) rfl ⟨?_, trivial⟩
 refine wCs rfl rfl rfl (wAt rfl rfl rfl rfl rfl (by kernel_rfl) (wDi bs ws a1 c1 ps1 a2 c2 ps2 M hc1 hs1 hp1 hb1 hc2 hs2 hp2 hb2 hdk (by omega) (4 + 2 * side) (by omega) (wGj t 0) (some ⟨sb, so, none⟩) (c - 0) (by rw [wCb htl (by decide)]; omega) hh0 (wCb htl (by decide)))) ?_; rintro _ M1 _ ⟨hM6, _, rfl, ⟨⟨wv, rfl, hwv⟩, rfl⟩⟩
 refine wAp (hM6) (by simp) ?_
 simp only [nA]
 obtain ⟨wa, wc, wps, rfl, hwr⟩ := id hwv
 refine wFj (i := 7) rfl (by kernel_rfl) (by kernel_rfl) rfl ?_
 refine wFj (i := 8) rfl (by kernel_rfl) (by kernel_rfl) rfl ?_
 refine wFj (i := 9) rfl (by kernel_rfl) (by kernel_rfl) rfl ?_
 refine wBq (listed' := #[true, true, true, true, true, true, true, true, true, true, true, false, false]) (by kernel_rfl) (wBp (.cons (t := 1) rfl (.cons (t := 2) rfl (.cons (t := 3) rfl (.cons (t := 6) rfl (.cons (t := 8) rfl (.cons (t := 33) rfl (.cons (t := 34) rfl .nil))))))) ?_)
 exact rest (M1, wa, wc, b8) ⟨hM6, hwv⟩
theorem wFf (bs : List (List By)) (ws : List Wt) (u v : Value) (M : Mem) (h1 : LS M u bs) (h2 : WS M v ws) (hdk : dkOk bs ws) : SpecL Tryz.prog 41 #[.agg #[u, v]] M [] fun u M' L' => (∃ bv, u = .agg #[bv, .slice none 0 0] ∧ LS M' bv (wFs bs ws)) ∧ L' = [] := by
 obtain ⟨a1, c1, ps1, rfl, hc1, hs1, hp1, hb1⟩ := h1
 obtain ⟨a2, c2, ps2, rfl, hc2, hs2, hp2, hb2⟩ := h2
 exact rsettled_walk bs ws a1 c1 ps1 a2 c2 ps2 M hc1 hs1 hp1 hb1 hc2 hs2 hp2 hb2 hdk
theorem kept_dk {bs : List (List By)} {ws : List Wt} (h : dkOk bs ws) (keep : List Bool) : dkOk bs (wGc keep ws) :=
 ⟨h.1, Nat.le_trans wKc h.2.1, h.2.2.1, fun w hw => h.2.2.2 w (wKb hw)⟩
set_option maxHeartbeats 2000000 in
theorem rkept_walk (bs : List (List By)) (ws : List Wt) (a1 : Option Addr) (c1 : Nat) (ps1 : List (List By × Value)) (a2 : Option Addr) (c2 : Nat) (ps2 : List (Wt × Value)) (M : Mem) (hc1 : bs.length ≤ c1) (hs1 : SM M a1 (ps1.map (·.2))) (hp1 : ps1.map (·.1) = bs) (hb1 : ∀ p ∈ ps1, BS M p.2 p.1) (hc2 : ws.length ≤ c2) (hs2 : SM M a2 (ps2.flatMap wBs)) (hp2 : ps2.map (·.1) = ws) (hb2 : ∀ p ∈ ps2, BS M p.2 p.1.2) (hdk : dkOk bs ws) (keep : List Bool) (ka : Option Addr) (kc : Nat) (hks : SM M ka (wDd keep)) (hkl : keep.length = ws.length) :
  SpecL Tryz.prog 43 #[.agg #[.slice a1 bs.length c1, .slice a2 ws.length c2], .slice ka keep.length kc] M [] fun u M' L' => (∃ bv, u = .agg #[bv, .slice none 0 0] ∧ LS M' bv (wFs bs (wGc keep ws))) ∧ L' = [] := by
 obtain ⟨hq1, hq2, hq3, hq4⟩ := id hdk
 refine wAe (vs := [_, _]) 33 _ Tryz.func43 rfl Tryz.ntmps43 rfl rfl ?_; intro W
 refine wAb (wAa (wAv rfl rfl (wBw (cs := [_, _]) rfl rfl rfl rfl) ?_)); rintro _ _ _ ⟨b2, rfl, rfl, rfl⟩
 refine sAl rfl fun b4 => ?_
 refine wAc (jT (wAb (wAa (sFL rfl rfl ?_))))
 refine wAi rfl rfl (wAq (cs := [_, _]) rfl rfl rfl (by rfl)) ?_
 refine sAl rfl fun b5 => ?_
 refine sSt rfl ?_
 refine wAc (jT (wAb (wAb (wAa (jp rfl (wAc (jT (wAh ?_))))))))
 refine wAo (α := Nat × Nat × Option Addr × Nat × Lc × List (Wt × Value)) (fun z => [(1, .slice ka keep.length kc), (2, .pointer (some ⟨b2, 0, none⟩)), (4, .pointer (some ⟨b4, 0, none⟩)), (5, .pointer (some ⟨b5, 0, none⟩)), (6, .int .i64 z.1)]) (fun z => M) (fun z => z.2.2.2.2.1 ++ [(b5, .cells [.slice a1 bs.length c1, .slice z.2.2.1 z.2.1 z.2.2.2.1].toArray 25 (0, 0)), (b4, .cells [Value.slice none 0 0, .slice none 0 0].toArray 25 (0, 0)), (b2, .cells [.slice a1 bs.length c1, .slice a2 ws.length c2].toArray 25 (0, 0))]) (fun z => z.1 ≤ ws.length ∧ z.2.1 = (wGc (keep.take z.1) ws).length ∧ Own (.slice z.2.2.1 z.2.1 z.2.2.2.1) z.2.2.2.2.1 63 2 z.2.1 (z.2.2.2.2.2.flatMap wBs) ∧ z.2.2.2.2.2.map (·.1) = wGc (keep.take z.1) ws ∧ ∀ q ∈ z.2.2.2.2.2, BS M q.2 q.1.2) (fun z => ws.length - z.1)
  (0, 0, none, 0, [], []) (.cons (t := 1) rfl (.cons (t := 2) rfl (.cons (t := 4) rfl (.cons (t := 5) rfl (.cons (t := 6) rfl .nil))))) ⟨Nat.zero_le _, rfl, Own.nil _ _, rfl, fun _ h => by cases h⟩ (fun _ h => h.subC fun f => by simp only [List.map_append, List.map_cons, List.map_nil, List.sum_append, List.sum_cons, List.sum_nil]; omega) ?_
 rintro ⟨k, on, oa, oc, R, ps⟩ ⟨hk, hon, hO, hps, hbs⟩
 try dsimp only at hk hon hO hps hbs ⊢
 have hkl2 := wKc (bs := keep.take k) (ws := ws)
 refine wAb (wAb (wAa (jp rfl (sFL rfl rfl ?_))))
 refine wAi rfl rfl (wBe rfl rfl rfl) ?_
 refine js rfl (fun h14 => ?_) (fun h14 => ?_)
 ·refine wAc (jT (wAg rfl (wAd (jT (wAb (wAh (wAb (wAa (jp rfl (jp rfl ?_))))))))))
  have hk1 : k < ws.length := by omega
  obtain ⟨rb, ro, e0, hkx⟩ := hks.open (by intro e; have := congrArg List.length e; rw [wDd, List.length_map, List.length_nil] at this; omega)
  refine wAi rfl rfl (wCf rfl rfl rfl rfl e0 (by omega)) ?_
  refine wDf rfl rfl (qLd (v := .bool keep[k]) rfl rfl rfl rfl ((hkx _ _ (by rw [Int.toNat_natCast, Nat.mul_one]; simp [wDd, hkl, hk1])).cj _)) (fun h20 => ?_) (fun h20 => ?_)
  ·refine wAc (jT (wAg rfl ?_))
   obtain ⟨sb, so, va, vc, e0, hcl, hvc, hvs⟩ := wJn hs2 hp2 hb2 hk1
   refine wBj (p := { A := fun i => !([10].contains i), U := fun i => !([10].contains i) }) [(0, true), (1, true), (2, true), (3, true), (4, true), (5, true), (6, true), (7, false), (8, false), (9, true), (10, false)] M ([(b5, .cells [.slice a1 bs.length c1, .slice oa on oc].toArray 25 (0, 0)), (b4, .cells [Value.slice none 0 0, .slice none 0 0].toArray 25 (0, 0)), (b2, .cells [.slice a1 bs.length c1, .slice a2 ws.length c2].toArray 25 (0, 0))]) ([]) (by kernel_rfl) (by kernel_rfl) (by kernel_rfl) (by kernel_rfl) rfl (by simp) (MLe.refl _) (by simp) ?_
   refine dFa rfl rfl ?_
   refine dLd rfl rfl ?_
   refine dFa rfl rfl ?_
   refine dLd rfl rfl ?_
   refine dp rfl rfl ?_
   refine wBh rfl rfl rfl (wCf rfl rfl rfl rfl e0 (by omega)) ?_
   refine wBh rfl rfl rfl (wGp (cs := wtc ws[k] va vc) rfl rfl rfl rfl rfl (fun i v hv => (hcl i v hv).cj _)) ?_
   refine wDy rfl rfl rfl (wAr (cs := [_, _]) rfl rfl rfl (by rfl) (by rfl) (by rfl)) ?_; rintro _ _ _ ⟨b28, rfl, rfl, rfl⟩
   refine wGa (MLe.refl _) (fun _ h => List.mem_cons_of_mem _ h) (by first | exact MLe.refl _ | assumption) (by simp) ?_
   refine wDy rfl rfl rfl (wCr (R := R) (m := 1) rfl rfl rfl rfl hO rfl (fun i v hv => CJ.loc (by simpa using hv)) rfl (by rfl) (by simp [Value.oneCell']) (by omega) (by omega)) ?_; rintro v29 _ _ ⟨rfl, R29, rfl, o29, _⟩
   refine ⟨_, _, MLe.refl _, MLe.refl _, fun _ h => h, by simp, ?_⟩
   obtain ⟨a29, c29, rfl⟩ := o29.form
   refine dFa rfl rfl ?_
   refine jd_e rfl rfl (wBd rfl rfl rfl rfl rfl rfl rfl rfl) ?_; rintro _ _ _ ⟨rfl, rfl⟩
   refine ⟨MLe.refl _, by simp, ?_⟩
   refine wCn ?_
   refine jPn (jB (jT (wAa (jp rfl (ja rfl (by omega) ?_)))))
   refine jp rfl (wAc ?_)
   have hst := wHh (bs := keep) (ws := ws) (k := k) (by omega) hk1
   rw [if_pos h20] at hst
   refine wAn (k + 1, on + 1, a29, c29, R29, ps ++ [(ws[k], .slice va ws[k].2.length vc)]) (.cons (t := 1) rfl (.cons (t := 2) rfl (.cons (t := 4) rfl (.cons (t := 5) rfl (.cons (t := 6) rfl .nil))))) ⟨by show k + 1 ≤ ws.length; omega, ?_, ?_, ?_, ?_⟩ (by show ws.length - (k + 1) < ws.length - k; omega) (fun _ h => h.subC fun f => by simp only [List.map_append, List.map_cons, List.map_nil, List.sum_append, List.sum_cons, List.sum_nil]; omega)
   ·show on + 1 = (wGc (keep.take (k + 1)) ws).length; rw [hst, List.length_append, hon]; rfl
   ·exact o29.to rfl (by show _ = (ps ++ [_]).flatMap wBs; rw [List.flatMap_append]; rfl)
   ·show _ = wGc (keep.take (k + 1)) ws; rw [hst, List.map_append, hps]; rfl
   intro q hq; rcases List.mem_append.1 hq with hq | hq
   ·exact hbs q hq
   rw [List.mem_singleton.1 hq]; exact ⟨va, vc, rfl, hvc, hvs⟩
  refine wAc (jT (wAk rfl (wAd (jB (jT (wAa (jp rfl (ja rfl (by omega) ?_))))))))
  refine jp rfl (wAc ?_)
  have hst := wHh (bs := keep) (ws := ws) (k := k) (by omega) hk1
  rw [if_neg (by rw [h20]; decide), List.append_nil] at hst
  refine wAn (k + 1, on, oa, oc, R, ps) (.cons (t := 1) rfl (.cons (t := 2) rfl (.cons (t := 4) rfl (.cons (t := 5) rfl (.cons (t := 6) rfl .nil))))) ⟨by show k + 1 ≤ ws.length; omega, ?_, ?_, ?_, ?_⟩ (by show ws.length - (k + 1) < ws.length - k; omega) (fun _ h => h.subC fun f => by simp only [List.map_append, List.map_cons, List.map_nil, List.sum_append, List.sum_cons, List.sum_nil]; omega)
  ·show on = (wGc (keep.take (k + 1)) ws).length; rw [hst, hon]
  ·exact hO
  ·show _ = wGc (keep.take (k + 1)) ws; rw [hst, hps]
  exact hbs
 refine wAc (jT (wAk rfl (wAs (jTx (jTx (jBx (jT (wAb (wAa (sLL rfl ?_))))))))))
 obtain rfl : k = ws.length := by omega
 rw [show keep.take ws.length = keep from List.take_of_length_le (by omega)] at hon hps
 subst hon
 refine wDw hO (by simp) ?_
 intro Mf fa fc hMf ef hfc hfs; cases ef
 refine wAv rfl rfl (wAt rfl rfl rfl rfl rfl (by kernel_rfl) (wFf bs (wGc keep ws) _ _ Mf ⟨a1, c1, ps1, rfl, hc1, hs1.mono hMf, hp1, fun q hq => (hb1 q hq).mono hMf⟩ ⟨_, _, ps, rfl, hfc, hfs, hps, fun q hq => (hbs q hq).mono hMf⟩ (kept_dk hdk keep))) ?_; rintro _ M1 _ ⟨hM1, _, rfl, ⟨⟨bv, rfl, hB⟩, rfl⟩⟩
 obtain ⟨ba, bc, bps, rfl, _⟩ := id hB
 simp only [nA]
 refine sSt rfl ?_
 refine wAc (jT (wAf (wBr (rs := [_]) ([]) (by exact List.nil_sublist _) rfl (.cons (.agg rfl rfl rfl) .nil) ?_)))
 exact ⟨⟨_, rfl, hB⟩, rfl⟩
set_option maxHeartbeats 1000000 in
theorem rcrash_walk (bs : List (List By)) (ws : List Wt) (a1 : Option Addr) (c1 : Nat) (ps1 : List (List By × Value)) (a2 : Option Addr) (c2 : Nat) (ps2 : List (Wt × Value)) (M : Mem) (hc1 : bs.length ≤ c1) (hs1 : SM M a1 (ps1.map (·.2))) (hp1 : ps1.map (·.1) = bs) (hb1 : ∀ p ∈ ps1, BS M p.2 p.1) (hc2 : ws.length ≤ c2) (hs2 : SM M a2 (ps2.flatMap wBs)) (hp2 : ps2.map (·.1) = ws) (hb2 : ∀ p ∈ ps2, BS M p.2 p.1.2) (hdk : dkOk bs ws) (keep : List Bool) (ka : Option Addr) (kc : Nat) (hks : SM M ka (wDd keep)) (hkn : keep.length ≤ 1000000) :
  SpecL Tryz.prog 23 #[.agg #[.slice a1 bs.length c1, .slice a2 ws.length c2], .slice ka keep.length kc] M [] fun u M' L' => (if keep.length = ws.length then ∃ d, u = .tuple #[d, .int .i64 0] ∧ DK M' d (wFs bs (wGc keep ws)) [] else u = .tuple #[.agg #[.slice none 0 0, .slice none 0 0], .int .i64 2]) ∧ L' = [] := by
 obtain ⟨hq1, hq2, hq3, hq4⟩ := id hdk
 refine wAe (vs := [_, _]) 20 _ Tryz.func23 rfl Tryz.ntmps23 rfl rfl ?_; intro W
 refine wAb (wAa (wAv rfl rfl (wBw (cs := [_, _]) rfl rfl rfl rfl) ?_)); rintro _ _ _ ⟨b2, rfl, rfl, rfl⟩
 refine sAl rfl fun b4 => ?_
 refine jp rfl (wAc (jT (wAb (wAb (wAa (sLL rfl ?_))))))
 refine wAi rfl rfl (wAy rfl rfl rfl rfl rfl (by kernel_rfl) (wHq bs ws _ _ M ⟨a1, c1, ps1, rfl, hc1, hs1, hp1, hb1⟩ ⟨a2, c2, ps2, rfl, hc2, hs2, hp2, hb2⟩ hdk)) ?_
 refine jp rfl (wAc (jT (wAk rfl (wAd (jT (wAb (wAb (wAa (jp rfl (wAi rfl rfl (wBe rfl rfl rfl) ?_))))))))))
 refine sFL rfl rfl ?_
 refine wAi rfl rfl (wBe rfl rfl rfl) ?_
 refine js rfl (fun h15 => ?_) (fun h15 => ?_)
 ·refine wAc (jT (wAg rfl (wAb (wAa (wAi rfl rfl (wAq (cs := [_, _]) rfl rfl rfl (by rfl)) ?_)))))
  refine sSt rfl ?_
  refine jp rfl (wAc (jT (wAf (jTr (wBr (rs := [_, _]) ([]) (by exact List.nil_sublist _) rfl (.cons (.agg rfl rfl rfl) (.cons (.tmp rfl) .nil)) ?_)))))
  exact ⟨by rw [if_neg (by omega)]; rfl, rfl⟩
 refine wAc (jT (wAk rfl (wAd (jT (wAb (wAa (sLL rfl ?_)))))))
 refine jp rfl (wAv rfl rfl (wAt rfl rfl rfl rfl rfl (by kernel_rfl) (rkept_walk bs ws a1 c1 ps1 a2 c2 ps2 M hc1 hs1 hp1 hb1 hc2 hs2 hp2 hb2 hdk keep ka kc hks (by omega))) ?_); rintro _ M1 _ ⟨hM1, _, rfl, ⟨⟨bv, rfl, hB⟩, rfl⟩⟩
 obtain ⟨ba, bc, bps, rfl, _⟩ := id hB
 simp only [nA]
 refine sSt rfl ?_
 refine jp rfl (wAc (jT (wAf (wBr (rs := [_, _]) ([]) (by exact List.nil_sublist _) rfl (.cons (.agg rfl rfl rfl) (.cons (.tmp rfl) .nil)) ?_))))
 exact ⟨by rw [if_pos (by omega)]; exact ⟨_, rfl, _, _, rfl, hB, WS.nil⟩, rfl⟩
theorem SpecL.more {P : Program} {f : FuncId} {args : Array Value} {M : Mem} {L : Lc} {post post' : Value → Mem → Lc → Prop} (h : SpecL P f args M L post) (hp : ∀ v M' L', MLe M M' → post v M' L' → post' v M' L') : SpecL P f args M L post' := fun w hw => (h w hw).mono fun e w' hh => by
 obtain ⟨v, M', L', e1, h1, h2⟩ := hh
 refine ⟨v, M', L', e1, hp _ _ _ (fun b o hb => ?_) h1, h2⟩
 rw [h2.fresh b (wCq (hw.agree b o hb))]; exact hb
theorem rwrite7_spec (bs : List (List By)) (ws : List Wt) (u v : Value) (M : Mem) (h1 : LS M u bs) (h2 : WS M v ws) (hdk : dkOk bs ws) (hw : ws.length ≤ 4000) (side : Int) (hsd : side = 0 ∨ side = 1) (t : List By) (tv : Value) (ht : BS M tv t) (hct : ctOk t) : SpecL Tryz.prog 44 #[.agg #[u, v], .int .i64 side, tv] M [] fun u M' L' => (∃ d, u = .tuple #[d, .int .i64 0] ∧ DK M' d bs (ws ++ wts (4 + 2 * side) t)) ∧ L' = [] := by
 obtain ⟨a1, c1, ps1, rfl, hc1, hs1, hp1, hb1⟩ := h1
 obtain ⟨a2, c2, ps2, rfl, hc2, hs2, hp2, hb2⟩ := h2
 obtain ⟨ta, tc, rfl, htc, hts⟩ := ht
 refine SpecL.more (rwrite7_walk bs ws a1 c1 ps1 a2 c2 ps2 M hc1 hs1 hp1 hb1 hc2 hs2 hp2 hb2 hdk hw side hsd t ta tc htc hts hct) fun x M' L' hM h => ?_
 obtain ⟨⟨wv, rfl, hwv⟩, rfl⟩ := h
 exact ⟨⟨_, rfl, _, _, rfl, ⟨a1, c1, ps1, rfl, hc1, hs1.mono hM, hp1, fun q hq => (hb1 q hq).mono hM⟩, hwv⟩, rfl⟩
theorem rput4_spec (bs : List (List By)) (ws : List Wt) (u v : Value) (M : Mem) (h1 : LS M u bs) (h2 : WS M v ws) (hdk : dkOk bs ws) (hw : ws.length < 4096) (x : Su) (da : Option Addr) (dc : Nat) (hd : SM M da (wAw x.dead)) (hok : suOk x) (hg : 0 ≤ x.gen ∧ x.gen < 4294967296) (hnx : 0 ≤ x.next ∧ x.next < 4294967296) (htb : 0 ≤ x.table ∧ x.table < 4294967296) : SpecL Tryz.prog 46 #[.agg #[u, v], .agg #[.int .u32 x.gen, .int .i64 x.root, .int .u32 x.next, .int .u32 x.table, .slice da x.dead.length dc]] M [] fun u M' L' => (∃ d, u = .tuple #[d, .int .i64 0] ∧ DK M' d bs (ws ++ [(x.gen % 4, suB x)])) ∧ L' = [] := by
 obtain ⟨a1, c1, ps1, rfl, hc1, hs1, hp1, hb1⟩ := h1
 obtain ⟨a2, c2, ps2, rfl, hc2, hs2, hp2, hb2⟩ := h2
 refine SpecL.more (rput4_walk bs ws a1 c1 ps1 a2 c2 ps2 M hc1 hs1 hp1 hb1 hc2 hs2 hp2 hb2 hdk hw x da dc hd hok hg hnx htb) fun x M' L' hM h => ?_
 obtain ⟨⟨wv, rfl, hwv⟩, rfl⟩ := h
 exact ⟨⟨_, rfl, _, _, rfl, ⟨a1, c1, ps1, rfl, hc1, hs1.mono hM, hp1, fun q hq => (hb1 q hq).mono hM⟩, hwv⟩, rfl⟩
theorem rcrash_spec (bs : List (List By)) (ws : List Wt) (u v : Value) (M : Mem) (h1 : LS M u bs) (h2 : WS M v ws) (hdk : dkOk bs ws) (keep : List Bool) (ka : Option Addr) (kc : Nat) (hks : SM M ka (wDd keep)) (hkn : keep.length ≤ 1000000) : SpecL Tryz.prog 23 #[.agg #[u, v], .slice ka keep.length kc] M [] fun u M' L' => (if keep.length = ws.length then ∃ d, u = .tuple #[d, .int .i64 0] ∧ DK M' d (wFs bs (wGc keep ws)) [] else u = .tuple #[.agg #[.slice none 0 0, .slice none 0 0], .int .i64 2]) ∧ L' = [] := by
 obtain ⟨a1, c1, ps1, rfl, hc1, hs1, hp1, hb1⟩ := h1
 obtain ⟨a2, c2, ps2, rfl, hc2, hs2, hp2, hb2⟩ := h2
 exact rcrash_walk bs ws a1 c1 ps1 a2 c2 ps2 M hc1 hs1 hp1 hb1 hc2 hs2 hp2 hb2 hdk keep ka kc hks hkn
set_option maxHeartbeats 2000000 in
theorem rphase_walk (p : Po) (hok : PoOk p) (hn : PoN p) (hg : p.gen ≠ 4294967295) (bv wv nv lw : Value) (da : Option Addr) (dc : Nat) (M : Mem) (h1 : LS M bv p.st.blocks) (h2 : WS M wv p.st.waits) (h3 : BS M nv p.st.now) (h4 : BS M lw p.st.last) (hdc : p.dead.length ≤ dc) (hds : SM M da (wAw p.dead)) (k : Nat) (hk : k = 1 ∨ k = 2 ∨ k = 3) :
  SpecL Tryz.prog 24 #[.agg #[bv, wv, nv, lw, .int .u32 p.gen, .int .i64 p.root, .int .u32 p.next, .slice da p.dead.length dc], .int .i64 k] M [] fun u M' L' => DK M' u (dsk p k).1 (dsk p k).2 ∧ L' = [] := by
 obtain ⟨a1, c1, ps1, rfl, _⟩ := id h1
 obtain ⟨a2, c2, ps2, rfl, _⟩ := id h2
 obtain ⟨a3, c3, rfl, _⟩ := id h3
 obtain ⟨a4, c4, rfl, _⟩ := id h4
 have hgg := hn.gen
 have hd1 := wFw hok hn 1
 have hd2 := wFw hok hn 2
 have hd3 := wFw hok hn 3
 have hs1 : wFs p.st.blocks p.st.waits = (dsk p 2).1 := rfl
 refine wAe (vs := [_, _]) 52 _ Tryz.func24 rfl Tryz.ntmps24 rfl rfl ?_; intro W
 refine wAb (wAa (wAv rfl rfl (wBw (cs := [_, _, _, _, _, _, _, _]) rfl rfl rfl rfl) ?_)); rintro _ _ _ ⟨b2, rfl, rfl, rfl⟩
 refine sAl rfl fun b4 => ?_
 refine wAc (jT (wAb (wAa (sFF rfl rfl ?_))))
 refine sLL rfl ?_
 refine sAl rfl fun b5 => ?_
 refine sSt rfl ?_
 refine wAc (jT (wAb (wAb (wAa (jp rfl (js rfl (fun h11 => ?_) (fun h11 => ?_)))))))
 ·refine wAc (jT (wAg rfl (wAb (wAa (sLL rfl ?_)))))
  refine sSt rfl ?_
  refine wAc (jT (wAf (jTr (wBr (rs := [_]) ([]) (by exact List.nil_sublist _) rfl (.cons (.agg rfl rfl rfl) .nil) ?_))))
  obtain rfl : k = 1 := by omega
  exact ⟨⟨_, _, rfl, h1, h2⟩, rfl⟩
 refine wAc (jT (wAk rfl (wAd (jT (wAb (wBj (p := { A := fun i => !([14].contains i), U := fun i => !([13, 14].contains i) }) [(0, true), (2, true), (3, true), (4, true), (5, true), (6, true), (7, true), (8, true), (9, true), (1, false), (10, false), (11, true), (12, true), (13, true), (14, false)] M ([(b5, .cells [.slice a1 p.st.blocks.length c1, .slice a2 p.st.waits.length c2].toArray 25 (0, 0)), (b2, .cells [.slice a1 p.st.blocks.length c1, .slice a2 p.st.waits.length c2, .slice a3 p.st.now.length c3, .slice a4 p.st.last.length c4, .int .u32 p.gen, .int .i64 p.root, .int .u32 p.next, .slice da p.dead.length dc].toArray TPo (0, 0))]) ([]) (by kernel_rfl) (by kernel_rfl) (by kernel_rfl) (by kernel_rfl) rfl (by simp) (MLe.refl _) (by simp) ?_))))))
 refine dLL rfl rfl ?_
 refine dFa rfl rfl ?_
 refine dLd rfl rfl ?_
 refine wBh rfl rfl rfl (qEq (qP rfl rfl) (v' := .int .u32 (p.gen + 1)) (by congr 1; rw [IntKind.wrap_u32]; omega)) ?_
 refine wBh rfl rfl rfl (qRem rfl rfl rfl rfl (by omega) (by omega)) ?_
 refine wBh rfl rfl rfl (wCg rfl rfl rfl (by omega)) ?_
 refine dFa rfl rfl ?_
 refine dFa rfl rfl ?_
 refine dLd rfl rfl ?_
 refine wDy rfl rfl rfl (wAt rfl rfl rfl rfl rfl (by kernel_rfl) (wFf p.st.blocks p.st.waits _ _ M h1 h2 hok.st.1)) ?_; rintro _ M1 _ ⟨hM1, _, rfl, ⟨⟨bv1, rfl, hB1⟩, rfl⟩⟩
 refine ⟨_, _, MLe.refl _, hM1, fun _ h => h, by simp, ?_⟩
 obtain ⟨ba1, bc1, bps1, rfl, _⟩ := id hB1
 simp only [nA]
 refine wDy rfl rfl rfl (wAt rfl rfl rfl rfl rfl (by kernel_rfl) (rwrite7_spec _ [] _ _ M1 hB1 WS.nil (wGo hok.st.1 fun w h => (hok.st.1.2.2.2 w h).2.2) (by simp) ((p.gen + 1) % 2) (by omega) p.st.now _ (h3.mono hM1) hok.st.2.1)) ?_; rintro _ M2 _ ⟨hM2, _, rfl, ⟨hd, rfl⟩⟩
 refine ⟨_, _, MLe.refl _, (hM1.trans hM2), fun _ h => h, by simp, ?_⟩
 rw [List.nil_append] at hd
 replace hd : ∃ d, _ = Value.tuple #[d, .int .i64 0] ∧ DK M2 d (dsk p 2).1 (dsk p 2).2 := hd
 obtain ⟨d2, rfl, bv2, wv2, rfl, hB2, hW2⟩ := hd
 obtain ⟨ba2, bc2, bps2, rfl, _⟩ := id hB2
 obtain ⟨wa2, wc2, wps2, rfl, _⟩ := id hW2
 simp only [nA]
 iterate 3 refine dp rfl rfl ?_
 refine jd_e rfl rfl (wBd rfl rfl rfl rfl rfl rfl rfl rfl) ?_; rintro _ _ _ ⟨rfl, rfl⟩
 refine ⟨by first | exact MLe.refl _ | exact hM1.trans hM2 | exact hM3.trans hM4, by simp, ?_⟩
 refine wCn ?_
 refine jPn (jT (wAb (wAb (wAa (jp rfl (js rfl (fun h28 => ?_) (fun h28 => ?_)))))))
 ·refine wAc (jT (wAg rfl (wAb (wAa (sLL rfl ?_)))))
  refine sSt rfl ?_
  refine wAc (jT (wAf (jTr (wBr (rs := [_]) ([]) (by exact List.nil_sublist _) rfl (.cons (.agg rfl rfl rfl) .nil) ?_))))
  obtain rfl : k = 2 := by omega
  exact ⟨⟨_, _, rfl, hB2, hW2⟩, rfl⟩
 refine wAc (jT (wAk rfl (wAd (jT (wAb ?_)))))
 have hn3 : SM M2 a3 (wAj p.st.now) := by
  obtain ⟨x3, y3, e3, _, hs3⟩ := h3
  cases e3; exact hs3.mono (hM1.trans hM2)
 have hnl := hok.st.2.1.1
 refine wBj (p := { A := fun i => !([15].contains i), U := fun i => !([15].contains i) }) [(0, true), (1, true), (2, true), (3, true), (4, true), (5, true), (6, true), (7, true), (8, true), (9, true), (10, true), (11, true), (12, true), (13, true), (14, false), (15, false)] M2 ([(b2, .cells [.slice a1 p.st.blocks.length c1, .slice a2 p.st.waits.length c2, .slice a3 p.st.now.length c3, .slice a4 p.st.last.length c4, .int .u32 p.gen, .int .i64 p.root, .int .u32 p.next, .slice da p.dead.length dc].toArray TPo (0, 0))]) ([]) (by kernel_rfl) (by kernel_rfl) (by kernel_rfl) (by kernel_rfl) rfl (by simp) (MLe.refl _) (by simp) ?_
 refine dFa rfl rfl ?_
 refine dLd rfl rfl ?_
 refine wBh rfl rfl rfl (qEq (qP rfl rfl) (v' := .int .u32 (p.gen + 1)) (by congr 1; rw [IntKind.wrap_u32]; omega)) ?_
 refine dFa rfl rfl ?_
 refine dLd rfl rfl ?_
 refine dFa rfl rfl ?_
 refine dLd rfl rfl ?_
 refine dFa rfl rfl ?_
 refine dFa rfl rfl ?_
 refine dLd rfl rfl ?_
 refine wBh rfl rfl rfl (wAy rfl rfl rfl rfl rfl (by kernel_rfl) (rof_spec a3 c3 p.st.now M2 hn3 (by omega))) ?_
 refine dFa rfl rfl ?_
 refine dLd rfl rfl ?_
 refine wBh rfl rfl rfl (wAq (cs := [_, _, _, _, _]) rfl rfl rfl (by rfl)) ?_
 refine wDy rfl rfl rfl (wCx rfl rfl) ?_; rintro _ _ _ ⟨b6, rfl, rfl, rfl⟩
 refine wGa (MLe.refl _) (fun _ h => List.mem_cons_of_mem _ h) (by first | exact MLe.refl _ | assumption) (by simp) ?_
 refine jd_e rfl rfl (wBd rfl rfl rfl rfl rfl rfl rfl rfl) ?_; rintro _ _ _ ⟨rfl, rfl⟩
 refine ⟨by first | exact MLe.refl _ | exact hM1.trans hM2 | exact hM3.trans hM4, by simp, ?_⟩
 refine wCn ?_
 refine jPn (jT (wAb (wBj (p := { A := fun i => !([7].contains i), U := fun i => !([6, 7].contains i) }) [(0, true), (2, true), (1, false), (3, false), (4, true), (5, true), (6, true), (7, false)] M2 ([(b5, .cells [.slice ba2 (dsk p 2).1.length bc2, .slice wa2 (dsk p 2).2.length wc2].toArray 25 (0, 0)), (b6, .cells [.int .u32 (p.gen + 1), .int .i64 p.root, .int .u32 p.next, .int .u32 (wJe p.st.now), .slice da p.dead.length dc].toArray 72 (0, 0))]) ([]) (by kernel_rfl) (by kernel_rfl) (by kernel_rfl) (by kernel_rfl) rfl (by simp) (MLe.refl _) (by simp) ?_)))
 refine dLL rfl rfl ?_
 refine dLL rfl rfl ?_
 refine wDy rfl rfl rfl (wAt rfl rfl rfl rfl rfl (by kernel_rfl) (wFf _ _ _ _ M2 hB2 hW2 hd2)) ?_; rintro _ M3 _ ⟨hM3, _, rfl, ⟨⟨bv3, rfl, hB3⟩, rfl⟩⟩
 refine ⟨_, _, MLe.refl _, hM3, fun _ h => h, by simp, ?_⟩
 obtain ⟨ba3, bc3, bps3, rfl, _⟩ := id hB3
 simp only [nA]
 refine wDy rfl rfl rfl (wAt rfl rfl rfl rfl rfl (by kernel_rfl) (rput4_spec _ [] _ _ M3 hB3 WS.nil (wGo hd2 fun w h => (hd2.2.2.2 w h).2.2) (by simp) (sup p) da dc (hds.mono (hM1.trans (hM2.trans hM3))) (sup_ok hok) (by show 0 ≤ p.gen + 1 ∧ p.gen + 1 < 4294967296; omega) hn.next (wHy _ _))) ?_; rintro _ M4 _ ⟨hM4, _, rfl, ⟨hd, rfl⟩⟩
 refine ⟨_, _, MLe.refl _, (hM3.trans hM4), fun _ h => h, by simp, ?_⟩
 rw [List.nil_append] at hd
 replace hd : ∃ d, _ = Value.tuple #[d, .int .i64 0] ∧ DK M4 d (dsk p 3).1 (dsk p 3).2 := hd
 obtain ⟨d4, rfl, bv4, wv4, rfl, hB4, hW4⟩ := hd
 obtain ⟨ba4, bc4, bps4, rfl, _⟩ := id hB4
 obtain ⟨wa4, wc4, wps4, rfl, _⟩ := id hW4
 simp only [nA]
 iterate 3 refine dp rfl rfl ?_
 refine jd_e rfl rfl (wBd rfl rfl rfl rfl rfl rfl rfl rfl) ?_; rintro _ _ _ ⟨rfl, rfl⟩
 refine ⟨by first | exact MLe.refl _ | exact hM1.trans hM2 | exact hM3.trans hM4, by simp, ?_⟩
 refine wCn ?_
 refine jPn (jT (wAb (wAa (sLL rfl ?_))))
 refine sSt rfl ?_
 refine wAc (jT (wAf (wBr (rs := [_]) ([]) (by exact List.nil_sublist _) rfl (.cons (.agg rfl rfl rfl) .nil) ?_)))
 obtain rfl : k = 3 := by omega
 exact ⟨⟨_, _, rfl, hB4, hW4⟩, rfl⟩
def RcN (M M' : Mem) (u : Value) (q : Po) : Prop := ∃ bv wv nv lv dv Mx, u = .agg (poc bv wv nv lv q.gen q.root q.next dv).toArray ∧ LS M' bv q.st.blocks ∧ WS M' wv q.st.waits ∧ BS M' nv q.st.now ∧ BS M' lv q.st.last ∧ NI M' dv q.dead ∧ MLe M Mx ∧ MLe Mx M' ∧ BS (wDm Mx M') lv q.st.last
def ComR (p : Po) (u : Value) (M M' : Mem) : Prop := if wHm p = 0 then ∃ v, u = .tuple #[v, .int .i64 0] ∧ RcN M M' v (cmt p) else u = .tuple #[.agg poZ.toArray, .int .i64 (wHm p)]
structure Sk where
 a : Option Addr
 n : Nat
 c : Nat
abbrev Sk.v (s : Sk) : Value := .slice s.a s.n s.c
theorem crash_form {M : Mem} {b : Prop} [Decidable b] {u : Value} {bs : List (List By)} (h : if b then ∃ d, u = Value.tuple #[d, .int .i64 0] ∧ DK M d bs [] else u = .tuple #[.agg #[.slice none 0 0, .slice none 0 0], .int .i64 2]) : ∃ (x y : Sk) (e : Int), u = Value.tuple #[.agg #[x.v, y.v], .int .i64 e] ∧ (if b then e = 0 ∧ DK M (.agg #[x.v, y.v]) bs [] else e = 2 ∧ x.v = .slice none 0 0 ∧ y.v = .slice none 0 0) := by
 by_cases hb : b
 ·rw [if_pos hb] at h
  obtain ⟨d, rfl, u1, u2, rfl, ⟨z1, z2, z3, rfl, z4⟩, ⟨z5, z6, z7, rfl, z8⟩⟩ := h
  exact ⟨⟨z1, _, z2⟩, ⟨z5, _, z6⟩, 0, rfl, by rw [if_pos hb]; exact ⟨rfl, _, _, rfl, ⟨z1, z2, z3, rfl, z4⟩, ⟨z5, z6, z7, rfl, z8⟩⟩⟩
 rw [if_neg hb] at h
 exact ⟨⟨none, 0, 0⟩, ⟨none, 0, 0⟩, 2, h, by rw [if_neg hb]; exact ⟨rfl, rfl, rfl⟩⟩
set_option maxHeartbeats 2000000 in
theorem rdone_walk (p : Po) (hok : PoOk p) (hn : PoN p) (hg : p.gen ≠ 4294967295) (bv wv nv lw : Value) (da : Option Addr) (dc : Nat) (M : Mem) (h1 : LS M bv p.st.blocks) (h2 : WS M wv p.st.waits) (h3 : BS M nv p.st.now) (h4 : BS M lw p.st.last) (hdc : p.dead.length ≤ dc) (hds : SM M da (wAw p.dead)) :
  SpecL Tryz.prog 21 #[.agg #[bv, wv, nv, lw, .int .u32 p.gen, .int .i64 p.root, .int .u32 p.next, .slice da p.dead.length dc]] M [] fun u M' L' => RcN M M' u (cmt p) ∧ L' = [] := by
 obtain ⟨a1, c1, ps1, rfl, _⟩ := id h1
 obtain ⟨a2, c2, ps2, rfl, _⟩ := id h2
 obtain ⟨a3, c3, rfl, _⟩ := id h3
 obtain ⟨a4, c4, rfl, _⟩ := id h4
 have hgg := hn.gen
 have hd3 := wFw hok hn 3
 have hnl := hok.st.2.1.1
 obtain ⟨x3, y3, e3, hcc, hn3⟩ := id h3
 cases e3
 refine wAe (vs := [_]) 19 _ Tryz.func21 rfl Tryz.ntmps21 rfl rfl ?_; intro W
 refine wAb (wAa (wAv rfl rfl (wBw (cs := [_, _, _, _, _, _, _, _]) rfl rfl rfl rfl) ?_)); rintro _ _ _ ⟨b1, rfl, rfl, rfl⟩
 refine sAl rfl fun b2 => ?_
 refine wAc (jT (wAb (wAa (sLL rfl ?_))))
 refine wAv rfl rfl (wAt rfl rfl rfl rfl rfl (by kernel_rfl) (rphase_walk p hok hn hg _ _ _ _ da dc M h1 h2 h3 h4 hdc hds 3 (.inr (.inr rfl)))) ?_; rintro _ M1 _ ⟨hM1, _, rfl, ⟨⟨bv1, wv1, rfl, hB1, hW1⟩, rfl⟩⟩
 obtain ⟨ba1, bc1, bps1, rfl, _⟩ := id hB1
 obtain ⟨wa1, wc1, wps1, rfl, _⟩ := id hW1
 simp only [nA]
 refine wAv rfl rfl (wAt rfl rfl rfl rfl rfl (by kernel_rfl) (wFf _ _ _ _ M1 hB1 hW1 hd3)) ?_; rintro _ M2 _ ⟨hM2, _, rfl, ⟨⟨bv2, rfl, hB2⟩, rfl⟩⟩
 obtain ⟨ba2, bc2, bps2, rfl, _⟩ := id hB2
 simp only [nA]
 refine sFF rfl rfl ?_
 refine sSt rfl ?_
 refine wAc (jT (wAb (wAa (sFa rfl ?_))))
 refine sFL rfl rfl ?_
 refine wAv rfl rfl (wBk (R := []) rfl rfl rfl rfl (Own.nil _ _) (by rw [wAm, Nat.mul_one]) (hn3.mono (hM1.trans hM2)) rfl (wBf _) (by omega) (by omega)) ?_; rintro v11 _ _ ⟨rfl, R11, rfl, o11⟩
 rw [Nat.zero_add, List.nil_append] at o11
 obtain ⟨a11, c11, rfl⟩ := o11.form
 refine sFF rfl rfl ?_
 refine sSt rfl ?_
 refine wAc (jT (wAb (wAa (sFL rfl rfl ?_))))
 refine wAi rfl rfl (qEq (qP rfl rfl) (v' := .int .u32 (p.gen + 1)) (by congr 1; rw [IntKind.wrap_u32]; omega)) ?_
 refine sFa rfl ?_
 refine sSt rfl ?_
 refine wAc (jT (wAb (wAa (sLL rfl ?_))))
 refine sSt rfl ?_
 refine wAc (jT (wAf (jq_ownN o11 (by simp) ?_)))
 intro M3 a3b c3b hM3 e3b hc3 hs3; cases e3b
 refine wBr (rs := [_]) ([]) (by exact List.nil_sublist _) rfl (.cons (.agg rfl rfl rfl) .nil) ?_
 have hm := hM1.trans (hM2.trans hM3)
 exact ⟨⟨_, _, _, _, _, M2, rfl, hB2.mono hM3, WS.nil, h3.mono hm, ⟨_, _, rfl, hc3, hs3.mono (wHr _ _)⟩, ⟨_, _, rfl, hdc, hds.mono hm⟩, hM1.trans hM2, hM3, ⟨_, _, rfl, hc3, hs3⟩⟩, rfl⟩
set_option maxHeartbeats 1000000 in
theorem rcommit_walk (p : Po) (hn : PoN p) (bv wv nv lw : Value) (da : Option Addr) (dc : Nat) (M : Mem) (h1 : LS M bv p.st.blocks) (h2 : WS M wv p.st.waits) (h3 : BS M nv p.st.now) (h4 : BS M lw p.st.last) (hdc : p.dead.length ≤ dc) (hds : SM M da (wAw p.dead)) (hf : fewP p) (hr : -9223372036854775808 ≤ p.root ∧ p.root ≤ 9223372036854775807) (hdb : ∀ d ∈ p.dead, -9223372036854775808 ≤ d ∧ d ≤ 9223372036854775807) :
  SpecL Tryz.prog 7 #[.agg #[bv, wv, nv, lw, .int .u32 p.gen, .int .i64 p.root, .int .u32 p.next, .slice da p.dead.length dc]] M [] fun u M' L' => ComR p u M M' ∧ L' = [] := by
 have hPT : PT M (.agg #[bv, wv, nv, lw, .int .u32 p.gen, .int .i64 p.root, .int .u32 p.next, .slice da p.dead.length dc]) p := ⟨bv, wv, nv, lw, _, rfl, h1, h2, h3, h4, da, dc, rfl, hdc, hds⟩
 obtain ⟨a1, c1, ps1, rfl, _⟩ := id h1
 obtain ⟨a2, c2, ps2, rfl, _⟩ := id h2
 obtain ⟨a3, c3, rfl, _⟩ := id h3
 obtain ⟨a4, c4, rfl, _⟩ := id h4
 have hgg := hn.gen
 refine wAe (vs := [_]) 13 _ Tryz.func7 rfl Tryz.ntmps7 rfl rfl ?_; intro W
 refine wAb (wAa (wAv rfl rfl (wBw (cs := [_, _, _, _, _, _, _, _]) rfl rfl rfl rfl) ?_)); rintro _ _ _ ⟨b1, rfl, rfl, rfl⟩
 refine sAl rfl fun b2 => ?_
 refine jp rfl (wAc (jT (wAb (wAa (sLL rfl ?_)))))
 refine wAi rfl rfl (wAy rfl rfl rfl rfl rfl (by kernel_rfl) (rasked_spec p _ M hPT hf hr hdb)) ?_
 refine jp rfl (wAc (jT (wAb (wAb (wAa (jp rfl (js rfl (fun h8 => ?_) (fun h8 => ?_))))))))
 ·refine wAc (jT (wAg rfl (wAb (wAa (wAi rfl rfl (wAq (cs := [_, _, _, _, _, _, _, _]) rfl rfl rfl (by rfl)) ?_)))))
  refine jp rfl (sSt rfl ?_)
  refine jp rfl (wAc (jT (wAf (jTr (wBr (rs := [_, _]) ([]) (by exact List.nil_sublist _) rfl (.cons (.agg rfl rfl rfl) (.cons (.tmp rfl) .nil)) ?_)))))
  exact ⟨by unfold ComR; rw [if_neg h8]; rfl, rfl⟩
 refine wAc (jT (wAk rfl (wAd (jT (wAb (wAa (sLL rfl ?_)))))))
 have hak : wHm p = 0 := by omega
 have hck : wFc p = 0 := by
  rcases wJg p with h | h
  ·exact h
  unfold wHm at hak; rw [h] at hak; simp at hak
 have hgm : p.gen ≠ 4294967295 := fun e => by
  unfold wHm at hak; rw [hck] at hak; simp [e] at hak
 have hok := PoOk.of hck
 refine wAv rfl rfl (wAt rfl rfl rfl rfl rfl (by kernel_rfl) (rdone_walk p hok hn hgm _ _ _ _ da dc M h1 h2 h3 h4 hdc hds)) ?_; rintro _ M1 _ ⟨hM1, _, rfl, ⟨hdn, rfl⟩⟩
 obtain ⟨ev, ew, en, el, ed, Mx, rfl, g1, g2, g3, g4, ⟨ea, ec, rfl, hec, hes⟩, hx1, hx2, hnl⟩ := id hdn
 obtain ⟨ba, bc, bps, rfl, _⟩ := id g1
 obtain ⟨wa, wc, wps, rfl, _⟩ := id g2
 obtain ⟨na, nc, rfl, _⟩ := id g3
 obtain ⟨la, lc, rfl, _⟩ := id g4
 simp only [nA]
 refine sSt rfl ?_
 refine jp rfl (wAc (jT (wAf (wBr (rs := [_, _]) ([]) (by exact List.nil_sublist _) rfl (.cons (.agg rfl rfl rfl) (.cons (.tmp rfl) .nil)) ?_))))
 exact ⟨by unfold ComR; rw [if_pos hak]; exact ⟨_, rfl, hdn⟩, rfl⟩
set_option maxHeartbeats 1000000 in
theorem rcut_walk (p : Po) (hn : PoN p) (bv wv nv lw : Value) (da : Option Addr) (dc : Nat) (M : Mem) (h1 : LS M bv p.st.blocks) (h2 : WS M wv p.st.waits) (h3 : BS M nv p.st.now) (h4 : BS M lw p.st.last) (hdc : p.dead.length ≤ dc) (hds : SM M da (wAw p.dead)) (hf : fewP p) (hr : -9223372036854775808 ≤ p.root ∧ p.root ≤ 9223372036854775807) (hdb : ∀ d ∈ p.dead, -9223372036854775808 ≤ d ∧ d ≤ 9223372036854775807) (phase : Int) (keep : List Bool) (ka : Option Addr) (kc : Nat) (hks : SM M ka (wDd keep)) (hkl : keep.length ≤ 1000000) :
  SpecL Tryz.prog 9 #[.agg #[bv, wv, nv, lw, .int .u32 p.gen, .int .i64 p.root, .int .u32 p.next, .slice da p.dead.length dc], .int .i64 phase, .slice ka keep.length kc] M [] fun u M' L' => CutP p phase keep u M' ∧ L' = [] := by
 have hPT : PT M (.agg #[bv, wv, nv, lw, .int .u32 p.gen, .int .i64 p.root, .int .u32 p.next, .slice da p.dead.length dc]) p := ⟨bv, wv, nv, lw, _, rfl, h1, h2, h3, h4, da, dc, rfl, hdc, hds⟩
 obtain ⟨a1, c1, ps1, rfl, _⟩ := id h1
 obtain ⟨a2, c2, ps2, rfl, _⟩ := id h2
 obtain ⟨a3, c3, rfl, _⟩ := id h3
 obtain ⟨a4, c4, rfl, _⟩ := id h4
 have hgg := hn.gen
 refine wAe (vs := [_, _, _]) 29 _ Tryz.func9 rfl Tryz.ntmps9 rfl rfl ?_; intro W
 refine wAb (wAa (wAv rfl rfl (wBw (cs := [_, _, _, _, _, _, _, _]) rfl rfl rfl rfl) ?_)); rintro _ _ _ ⟨b3, rfl, rfl, rfl⟩
 refine sAl rfl fun b6 => ?_
 refine jp rfl (wAc (jT (wAb (wAa (sLL rfl ?_)))))
 refine wAi rfl rfl (wAy rfl rfl rfl rfl rfl (by kernel_rfl) (rasked_spec p _ M hPT hf hr hdb)) ?_
 refine jp rfl (wAc (jT (wAb (wAb (wAa (jp rfl (js rfl (fun h12 => ?_) (fun h12 => ?_))))))))
 ·refine wAc (jT (wAg rfl (wAb (wAa (wAi rfl rfl (wAq (cs := [_, _]) rfl rfl rfl (by rfl)) ?_)))))
  refine jp rfl (sSt rfl ?_)
  refine jp rfl (wAc (jT (wAf (jTr (wBr (rs := [_, _]) ([]) (by exact List.nil_sublist _) rfl (.cons (.agg rfl rfl rfl) (.cons (.tmp rfl) .nil)) ?_)))))
  exact ⟨by unfold CutP; rw [if_neg h12]; rfl, rfl⟩
 refine wAc (jT (wAk rfl (wAd (jT (wAb (wAb (wAa (jp rfl (js rfl (fun h16 => ?_) (fun h16 => ?_))))))))))
 ·refine jp rfl (jp rfl (jp rfl (jp rfl (wAc (jT (wAg rfl (wAb (wAa (wAi rfl rfl (wAq (cs := [_, _]) rfl rfl rfl (by rfl)) ?_)))))))))
  refine sSt rfl ?_
  refine jp rfl (wAc (jT (wAf (jTr (wBr (rs := [_, _]) ([]) (by exact List.nil_sublist _) rfl (.cons (.agg rfl rfl rfl) (.cons (.tmp rfl) .nil)) ?_)))))
  have hak : wHm p = 0 := by omega
  exact ⟨by unfold CutP; rw [if_pos hak, if_pos (by omega)]; rfl, rfl⟩
 refine jp rfl (jp rfl (js rfl (fun h19 => ?_) (fun h19 => ?_)))
 ·refine jp rfl (wAc (jT (wAg rfl (wAb (wAa (wAi rfl rfl (wAq (cs := [_, _]) rfl rfl rfl (by rfl)) ?_))))))
  refine sSt rfl ?_
  refine jp rfl (wAc (jT (wAf (jTr (wBr (rs := [_, _]) ([]) (by exact List.nil_sublist _) rfl (.cons (.agg rfl rfl rfl) (.cons (.tmp rfl) .nil)) ?_)))))
  have hak : wHm p = 0 := by omega
  exact ⟨by unfold CutP; rw [if_pos hak, if_pos (by omega)]; rfl, rfl⟩
 refine jp rfl (wAc (jT (wAk rfl (wAd (jT (wAb (wAa (sLL rfl ?_))))))))
 refine jp rfl ?_
 have hak : wHm p = 0 := by omega
 have hck : wFc p = 0 := by
  rcases wJg p with h | h
  ·exact h
  unfold wHm at hak; rw [h] at hak; simp at hak
 have hgm : p.gen ≠ 4294967295 := fun e => by
  unfold wHm at hak; rw [hck] at hak; simp [e] at hak
 have hok := PoOk.of hck
 obtain ⟨k, hk, hk2⟩ : ∃ k : Nat, phase = k ∧ (k = 1 ∨ k = 2 ∨ k = 3) := ⟨phase.toNat, by omega, by omega⟩
 subst hk
 refine wAv rfl rfl (wAt rfl rfl rfl rfl rfl (by kernel_rfl) (rphase_walk p hok hn hgm _ _ _ _ da dc M h1 h2 h3 h4 hdc hds k hk2)) ?_; rintro _ M1 _ ⟨hM1, _, rfl, ⟨⟨bv1, wv1, rfl, hB1, hW1⟩, rfl⟩⟩
 obtain ⟨ba1, bc1, bps1, rfl, _⟩ := id hB1
 obtain ⟨wa1, wc1, wps1, rfl, _⟩ := id hW1
 simp only [nA]
 refine jp rfl (wAv rfl rfl (wAt rfl rfl rfl rfl rfl (by kernel_rfl) (rcrash_spec _ _ _ _ M1 hB1 hW1 (wFw hok hn k) keep ka kc (hks.mono hM1) hkl)) ?_); rintro _ M2 _ ⟨hM2, _, rfl, ⟨hcr, rfl⟩⟩
 obtain ⟨x1, y1, e1, rfl, hx⟩ := crash_form hcr
 simp only [nA]
 refine jp rfl (jp rfl (sSt rfl ?_))
 refine jp rfl (wAc (jT (wAf (wBr (rs := [_, _]) ([]) (by exact List.nil_sublist _) rfl (.cons (.agg rfl rfl rfl) (.cons (.tmp rfl) .nil)) ?_))))
 refine ⟨?_, rfl⟩
 unfold CutP; rw [if_pos hak, if_neg (by omega), Int.toNat_natCast]
 split at hx
 ·rename_i hl; rw [if_pos hl]; obtain ⟨rfl, hx⟩ := hx; exact ⟨_, rfl, hx⟩
 rename_i hl; rw [if_neg hl]; obtain ⟨rfl, hx1, hx2⟩ := hx; rw [hx1, hx2]; rfl
end Go.Proofs.YtbhkdjheooknfaaGreat
