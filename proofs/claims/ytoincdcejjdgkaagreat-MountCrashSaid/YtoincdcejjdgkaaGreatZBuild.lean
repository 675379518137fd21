/- Walks: nodes built of a level's items. No statement of the seat is proved here. -/
import Derived.Test.YtoincdcejjdgkaaGreatZLeave
namespace Go.Proofs.YtoincdcejjdgkaaGreat
set_option linter.unusedVariables false
set_option linter.unusedSimpArgs false
open Go.RowKit
theorem mkE_ok {s : Sto} {lv : Int} {xs : List It} (h : mkE s lv xs = 0) (hw : s.waits.length ≤ 4096) : wHx lv xs = true ∧ shE s xs = 0 ∧ wGh (wBb s xs) < 256 ∧ s.waits.length < 4096 := by
 unfold mkE at h
 by_cases h1 : wHx lv xs = true
 ·rw [if_pos h1] at h
  by_cases h2 : shE s xs = 0
  ·rw [if_pos h2] at h
   by_cases h3 : wGh (wBb s xs) = 256 ∨ s.waits.length = 4096
   ·rw [if_pos h3] at h; cases h
   ·have := mkAt_le (wBb s xs)
    exact ⟨h1, h2, by omega, by omega⟩
  ·rw [if_neg h2] at h; exact absurd h h2
 ·rw [if_neg h1] at h; cases h
def PS (M : Mem) (v : Value) (ls : List (List It)) : Prop := ∃ a c, ∃ ps : List (List It × Value), v = .slice a ls.length c ∧ ls.length ≤ c ∧ SM M a (ps.map (·.2)) ∧ ps.map (·.1) = ls ∧ ∀ p ∈ ps, NS M p.2 p.1
theorem PS.mono {M M' : Mem} {v : Value} {ls : List (List It)} (h : PS M v ls) (hM : MLe M M') : PS M' v ls := by
 obtain ⟨a, c, ps, h1, h2, h3, h4, h5⟩ := h; exact ⟨a, c, ps, h1, h2, h3.mono hM, h4, fun p hp => (h5 p hp).mono hM⟩
theorem PS.get {M : Mem} {sb so : Nat} {ls : List (List It)} {ps : List (List It × Value)} (hx : ∀ i u, (ps.map (·.2))[i]? = some u → CM M sb (so + i) u) (hp : ps.map (·.1) = ls) (hb : ∀ p ∈ ps, NS M p.2 p.1) {k : Nat} (hk : k < ls.length) :
  ∃ v, CM M sb (so + k * 1) v ∧ NS M v ls[k] := by
 have hk2 : k < ps.length := by rw [← hp, List.length_map] at hk; exact hk
 have hxk : ls[k] = ps[k].1 := by simp [← hp]
 refine ⟨ps[k].2, ?_, by rw [hxk]; exact hb _ (List.getElem_mem hk2)⟩
 rw [Nat.mul_one]
 exact hx k _ (by rw [List.getElem?_map, List.getElem?_eq_getElem hk2, Option.map_some])
theorem NS.take {M : Mem} {a : Option Addr} {c n : Nat} {xs : List It} (h : NS M (.slice a xs.length c) xs) (hn : n ≤ xs.length) : NS M (.slice a n c) (xs.take n) := by
 obtain ⟨a2, c2, ps, e, h2, h3, h4, h5⟩ := h
 cases e
 refine ⟨a, c, ps.take n, by rw [List.length_take, Nat.min_eq_left hn], by rw [List.length_take]; omega, ?_, by rw [List.map_take, h4], fun p hp => h5 p (List.mem_of_mem_take hp)⟩
 rcases h3 with h3 | ⟨b, off, rfl, h3⟩
 ·left
  have : ps = [] := by
   cases ps with
   | nil => rfl
   | cons p ps => simp [wBc] at h3
  rw [this]; simp
 ·right
  refine ⟨b, off, rfl, fun i u hu => h3 i u ?_⟩
  have hi := (List.getElem?_eq_some_iff.1 hu).1
  have e : ps.flatMap wBc = (ps.take n).flatMap wBc ++ (ps.drop n).flatMap wBc := by rw [← List.flatMap_append, List.take_append_drop]
  rw [e, List.getElem?_append_left hi]; exact hu
theorem NS.drop {M : Mem} {a : Option Addr} {c n : Nat} {xs : List It} (h : NS M (.slice a xs.length c) xs) (hn : n < xs.length) : NS M (.slice (slA a n c 5) (xs.length - n) (c - n)) (xs.drop n) := by
 obtain ⟨a2, c2, ps, e, h2, h3, h4, h5⟩ := h
 cases e
 have hpl : ps.length = xs.length := by rw [← h4, List.length_map]
 refine ⟨_, _, ps.drop n, by rw [List.length_drop], by rw [List.length_drop]; omega, ?_, by rw [List.map_drop, h4], fun p hp => h5 p (List.mem_of_mem_drop hp)⟩
 rcases h3 with h3 | ⟨b, off, rfl, h3⟩
 ·exfalso
  have := congrArg List.length h3
  rw [wAy wBc 5 wBe, List.length_nil] at this; omega
 ·right
  refine ⟨b, off + n * 5, wBt (by omega), fun i u hu => ?_⟩
  have e : ps.flatMap wBc = (ps.take n).flatMap wBc ++ (ps.drop n).flatMap wBc := by rw [← List.flatMap_append, List.take_append_drop]
  have hl : ((ps.take n).flatMap wBc).length = n * 5 := by rw [wAy wBc 5 wBe, List.length_take, Nat.min_eq_left (by omega)]
  have := h3 (n * 5 + i) u (by rw [e, List.getElem?_append_right (by omega), show n * 5 + i - ((ps.take n).flatMap wBc).length = i by omega]; exact hu)
  rwa [← Nat.add_assoc] at this
def ucell (x : It) : List Value := wBc (x, .slice none 0 0)
theorem mkP_step {lv : Int} {ps : List (List It)} {j : Nat} {s : Sto} {up : List It} (h : j < ps.length) : mkP lv (ps.drop j) s up = if mkE s lv ps[j] = 0 then mkP lv (ps.drop (j + 1)) (mkS s lv ps[j]) (up ++ [upIt s ps[j]]) else .error (mkE s lv ps[j]) := by
 rw [List.drop_eq_getElem_cons h, mkP]
theorem looL_step {xs : List It} {j : Nat} {s : Sto} (h : j < xs.length) : looL (xs.drop j) s = if xs[j].ref = 0 then looL (xs.drop (j + 1)) s else if wHf s xs[j].ref.toNat = 0 then looL (xs.drop (j + 1)) (wDn s xs[j].ref.toNat) else .error (wHf s xs[j].ref.toNat) := by
 rw [List.drop_eq_getElem_cons h, looL]
theorem parts_mem {l p : List It} (h : p ∈ wDs l) : (∀ x ∈ p, x ∈ l) ∧ (l ≠ [] → p ≠ []) := by
 unfold wDs at h
 split at h
 ·rename_i hl
  simp only [List.mem_cons, List.not_mem_nil, or_false] at h
  rcases h with rfl | rfl
  ·exact ⟨fun x hx => List.mem_of_mem_take hx, fun _ e => by have := congrArg List.length e; rw [List.length_take, List.length_nil] at this; omega⟩
  ·exact ⟨fun x hx => List.mem_of_mem_drop hx, fun _ e => by have := congrArg List.length e; rw [List.length_drop, List.length_nil] at this; omega⟩
 ·rw [List.mem_singleton.1 h]; exact ⟨fun _ h => h, id⟩
theorem parts_len (l : List It) : (wDs l).length = if 5 < l.length then 2 else 1 := by unfold wDs; split <;> rfl
theorem key_itc {x : It} {va : Option Addr} {vc i : Nat} {v : Value} (hv : (wBu x.key)[i]? = some v) : (itc x va vc)[i]? = some v := by
 match i, hv with
 | 0, hv => exact hv
 | 1, hv => exact hv
 | 2, hv => exact hv
 | n + 3, hv => simp [wBu] at hv
theorem upIt_cell {s : Sto} {p : List It} (h : 0 < p.length) : ucell (upIt s p) = wBu p[0].key ++ [.int .i64 (wGh (wBb s p) : Int), .slice none 0 0] := by
 obtain ⟨x, xs, rfl⟩ := List.exists_cons_of_length_pos h
 rfl
def BdPost (r : Except Int (Sto × List It)) (bb : Nat) (Lb : Lc) (u : Value) (M' : Mem) (L' : Lc) : Prop := match r with
 | .error e => e ≠ 0 ∧ u = .tuple #[.slice none 0 0, .int .i64 e]
 | .ok (t, up) => ∃ a c Ru Lb', u = .tuple #[.slice a up.length c, .int .i64 0] ∧ L' = Ru ++ Lb' ∧ wCp t ∧ BOwn M' bb Lb' t ∧ Own (.slice a up.length c) Ru IT 5 up.length (up.flatMap ucell) ∧ (∀ x ∈ up, x.val = []) ∧ ∀ p ∈ Ru, p.1 ∉ Lb.map (·.1)
structure B1S where
 j : Nat
 s : Sto
 up : List It
 M : Mem
 L : Lc
 R : Lc
 v : Value
structure B1I (bb : Nat) (s0 : Sto) (lv : Int) (l : List It) (Mz : Mem) (W : World) (x : B1S) : Prop where
 le : x.j ≤ (wDs l).length
 mle : MLe Mz x.M
 bo : BOwn x.M bb x.L x.s
 ok : wCp x.s
 own : Own x.v x.R IT 5 x.up.length (x.up.flatMap ucell)
 eq : mkP lv (wDs l) s0 [] = mkP lv ((wDs l).drop x.j) x.s x.up
 ul : x.up.length = x.j
 val : ∀ y ∈ x.up, y.val = []
 nw : ∀ p ∈ x.R, W.heap.size ≤ p.1
set_option maxHeartbeats 4000000 in
theorem build_spec (s0 : Sto) (lv : Int) (l held : List It) (la : Option Addr) (lc : Nat) (hv : Value) (bb : Nat) (M : Mem) (Lb : Lc) (hB0 : BOwn M bb Lb s0) (hst : wCp s0) (hls : NS M (.slice la l.length lc) l) (hhs : NS M hv held) (hl0 : l ≠ []) (hkd : ∀ x ∈ l, 0 ≤ x.key.kind ∧ x.key.kind < 256) (hhr : ∀ x ∈ held, 0 ≤ x.ref ∧ (x.ref = 0 ∨ 8 ≤ x.ref) ∧ x.ref < 256) (hll : l.length ≤ 100) (hhl : held.length ≤ 100) :
  SpecL Tryz.prog 113 #[.pointer (some ⟨bb, 0, none⟩), .int .i64 lv, .slice la l.length lc, hv] M Lb (BdPost (build s0 lv l held) bb Lb) := by
 obtain ⟨ha, hc, hps, rfl, hhc, hhs1, hhp, hhb⟩ := id hhs
 have hlc : l.length ≤ lc := by obtain ⟨_, _, _, e, h, _⟩ := id hls; cases e; exact h
 refine spec_bodyN (vs := [_, _, _, _]) 73 _ Tryz.func113 rfl Tryz.ntmps113 rfl rfl ?_; intro W hX
 refine wAb (wAa (jp rfl (jp rfl (wAc (jT (wAb (wAa (jp rfl (wAw rfl rfl (wAm (cs := [_]) rfl rfl rfl (by rfl) (by rfl) (by rfl)) ?_))))))))); rintro _ _ _ ⟨b19, rfl, rfl, rfl⟩
 refine jp rfl (wAc (jT (jc_merge (α := Mem × Value) (fun z => [(0, .pointer (some ⟨bb, 0, none⟩)), (1, .int .i64 lv), (3, .slice ha held.length hc), (8, .slice none 0 0), (10, z.2)]) (fun z => z.1) (fun _ => Lb) (fun z => MLe M z.1 ∧ PS z.1 z.2 (wDs l)) ?_ ?_)))
 ·rintro ⟨Mz, pv⟩ ⟨hMz, hpv⟩
  try dsimp only at hMz hpv ⊢
  obtain ⟨pa, pc, pps, rfl, hpc, hps1, hpp, hpb⟩ := id hpv
  have hpl2 : 0 < (wDs l).length ∧ (wDs l).length ≤ 2 := by rw [parts_len]; split <;> omega
  obtain ⟨pb, po, e0, hpx⟩ := hps1.open (by intro e; have := congrArg List.length e; rw [List.length_map, List.length_nil] at this; have h2 := congrArg List.length hpp; rw [List.length_map] at h2; omega)
  cases e0
  refine wAb (wAb (wAa (jp rfl (wAi rfl rfl (wBq rfl rfl rfl) ?_))))
  refine jp rfl (wAc (jT (wAh ?_)))
  refine wAr (α := B1S) (fun x => [(0, .pointer (some ⟨bb, 0, none⟩)), (1, .int .i64 lv), (3, .slice ha held.length hc), (8, x.v), (28, .slice (some ⟨pb, po, none⟩) (wDs l).length pc), (29, .int .i64 (wDs l).length), (30, .int .i64 x.j)]) (fun x => x.M) (fun x => x.R ++ x.L) (fun x => B1I bb s0 lv l Mz W x) (fun x => (wDs l).length - x.j)
   ⟨0, s0, [], Mz, Lb, [], .slice none 0 0⟩ (.cons (t := 0) rfl (.cons (t := 1) rfl (.cons (t := 3) rfl (.cons (t := 8) rfl (.cons (t := 28) rfl (.cons (t := 29) rfl (.cons (t := 30) rfl .nil))))))) ⟨Nat.zero_le _, MLe.refl _, hB0.mono hMz, hst, Own.nil _ _, rfl, rfl, fun _ h => (by cases h), fun _ h => (by cases h)⟩ (fun w h => h) ?_
  rintro ⟨j, s, up, Mk, Lk, Rk, v⟩ hI
  try dsimp only
  obtain ⟨va0, vc0, hv0⟩ := hI.own.form
  try dsimp only at hv0
  subst hv0
  have hjle := hI.le
  try dsimp only at hjle
  refine wAb (wAa (js rfl (fun h31 => ?_) (fun h31 => ?_)))
  ·refine wAc (jT (wAb (wAg rfl (wAd (jT (wAb (wAh (wAb (wAa ?_)))))))))
   have hj1 : j < (wDs l).length := by omega
   obtain ⟨pv2, hcm, hns2⟩ := PS.get hpx hpp hpb hj1
   obtain ⟨qa, qc, qps, rfl, hqc, hqs, hqp, hqb⟩ := hns2.mono hI.mle
   have hpm := parts_mem (List.getElem_mem hj1)
   have hp0 : 0 < (wDs l)[j].length := List.length_pos_iff.2 (hpm.2 hl0)
   refine wAi rfl rfl (wBa rfl rfl rfl rfl (by omega)) ?_
   refine wAi rfl rfl (qLd rfl rfl rfl rfl ((hcm.mono hI.mle).cj _)) ?_
   refine jp rfl (wAc (jT (wAb (wAa (jp rfl (jp rfl (jp rfl (wAi rfl rfl (wAq (cs := [_, _]) rfl rfl rfl (by rfl)) ?_))))))))
   have hs256 : s.now.length = 256 ∧ s.last.length = 256 ∧ s.waits.length ≤ 4096 := ⟨hI.ok.2.1.1, hI.ok.2.2.1, hI.ok.1.2.1⟩
   refine wAw rfl rfl (wAn rfl rfl rfl rfl rfl (by kernel_rfl) (bmake_any s lv (wDs l)[j] qa qc qps Mk hqc hqs hqp hqb (fun x hx => hkd x (hpm.1 x hx)) bb Lk hI.bo hs256.1 hs256.2.1 hs256.2.2)) ?_; rintro _ Mm _ ⟨hMm, R', rfl, ⟨at_, e, rfl, he, hB2⟩⟩
   refine jp rfl (jp rfl (jp rfl (jp rfl (jp rfl (wAc (jT (wAb (wAb (wAa (jp rfl (js rfl (fun h43 => ?_) (fun h43 => ?_))))))))))))
   ·refine wAc (jT (wAg rfl (wAb (wAa (jp rfl (jp rfl (jp rfl (wAc (jT (wAe (jTr (jBr (jTr (jTr (jBr (jTr (jr2 rfl rfl rfl ?_)))))))))))))))))
    have hbe : build s0 lv l held = .error (mkE s lv (wDs l)[j]) := by
     have h9 : mkP lv (wDs l) s0 [] = .error (mkE s lv (wDs l)[j]) := by have := hI.eq; rw [this]; show mkP _ _ _ _ = _; rw [mkP_step hj1, if_neg (by rw [← he]; exact h43)]
     unfold build; rw [h9]
    rw [hbe, ← he]
    exact ⟨h43, rfl⟩
   ·refine wAc (jT (wAj rfl (wAd (jT (wAa (jp rfl (jp rfl ?_)))))))
    obtain ⟨sb, so, e0, hx⟩ := (hqs.mono hMm).open (by intro e; have := congrArg List.length e; rw [wAy wBc 5 wBe, List.length_nil] at this; have h2 := congrArg List.length hqp; rw [List.length_map] at h2; omega)
    cases e0
    obtain ⟨va, vc, hcl, hvc, hvs⟩ := wBr hx hqp (fun p hp => (hqb p hp).mono hMm) hp0
    have he0 : e = 0 := Classical.not_not.1 h43
    obtain ⟨hat, hB3⟩ := hB2 he0
    have hmk0 : mkE s lv (wDs l)[j] = 0 := he.symm.trans he0
    have hmo := mkE_ok hmk0 hI.ok.1.2.1
    have hul := hI.ul
    try dsimp only at hul
    refine wAi rfl rfl (wBa rfl rfl rfl rfl (by omega)) ?_
    refine sFa rfl ?_
    refine wAi rfl rfl (wEy (cs := wBu (wDs l)[j][0].key) rfl rfl rfl rfl rfl (fun i v hv => (hcl i v (key_itc hv)).cj _)) ?_
    refine jp rfl (wAi rfl rfl (wAq (cs := [_, _, _, _, _]) rfl rfl rfl (by rfl)) ?_)
    refine wAw rfl rfl (wAm (cs := [_, _, _, _, _]) rfl rfl rfl (by rfl) (by rfl) (by rfl)) ?_; rintro _ _ _ ⟨b52, rfl, rfl, rfl⟩
    refine wAw rfl rfl (hAppendN (R := Rk) (m := 1) (news := ucell (upIt s (wDs l)[j])) rfl rfl rfl rfl hI.own rfl (fun i v hv => CJ.loc (by rw [← hv, upIt_cell hp0, hat]; show _ = _; rw [Nat.zero_add]; rfl)) rfl (by rfl) (by simp [ucell, wBc, Value.oneCell']) (by show up.length + 1 ≤ _; omega) (by omega)) ?_; rintro s' _ _ ⟨rfl, Rq, rfl, hown', _, hnw'⟩
    obtain ⟨a4, c4, rfl⟩ := hown'.form
    refine jp rfl (wAc (jB (jT (wAa (ja rfl (by omega) ?_)))))
    refine jp rfl (wAc ?_)
    refine wAp ⟨j + 1, mkS s lv (wDs l)[j], up ++ [upIt s (wDs l)[j]], Mm, R', Rq, .slice a4 (up.length + 1) c4⟩ (.cons (t := 0) rfl (.cons (t := 1) rfl (.cons (t := 3) rfl (.cons (t := 8) rfl (.cons (t := 28) rfl (.cons (t := 29) rfl (.cons (t := 30) rfl .nil))))))) ⟨by show j + 1 ≤ _; omega, hI.mle.trans hMm, hB3, mkS_ok hI.ok hmo.1 hmo.2.2.1 hmo.2.2.2, ?_, ?_, ?_, ?_, hnw' hI.nw⟩ (by show (wDs l).length - (j + 1) < (wDs l).length - j; omega) (fun w h => h.dropAt.perm (wHd fun f => by simp only [mks, List.map_append, List.map_cons, List.map_nil, List.sum_append, List.sum_cons, List.sum_nil]; omega))
    ·show Own _ Rq IT 5 (up ++ [_]).length ((up ++ [_]).flatMap ucell)
     rw [List.length_append, List.flatMap_append]; simpa using hown'
    ·have := hI.eq; rw [this]; show mkP _ _ _ _ = _; rw [mkP_step hj1, if_pos hmk0]
    ·show (up ++ [_]).length = j + 1; rw [List.length_append, hul]; rfl
    ·intro y hy; rcases List.mem_append.1 hy with hy | hy
     ·exact hI.val y hy
     ·rw [List.mem_singleton.1 hy]; rfl
  ·refine wAc (jT (wAb (wAj rfl (wAs (jTx (jTx (jBx (jT (wAb (wAb (wAa (jp rfl (wAi rfl rfl (wBq rfl rfl rfl) ?_)))))))))))))
   refine jp rfl (wAc (jT (wAh ?_)))
   have hje : j = (wDs l).length := by omega
   have hmk : mkP lv (wDs l) s0 [] = .ok (s, up) := by have := hI.eq; rw [this]; show mkP _ ((wDs l).drop j) _ _ = _; rw [hje, List.drop_length]; rfl
   refine wAr (α := Nat × Sto × Mem × Lc) (fun x => [(0, .pointer (some ⟨bb, 0, none⟩)), (8, .slice va0 up.length vc0), (55, .slice ha held.length hc), (56, .int .i64 held.length), (57, .int .i64 x.1)]) (fun x => x.2.2.1) (fun x => Rk ++ x.2.2.2) (fun x => x.1 ≤ held.length ∧ MLe Mk x.2.2.1 ∧ BOwn x.2.2.1 bb x.2.2.2 x.2.1 ∧ wCp x.2.1 ∧ looL held s = looL (held.drop x.1) x.2.1) (fun x => held.length - x.1)
    (0, s, Mk, Lk) (.cons (t := 0) rfl (.cons (t := 8) rfl (.cons (t := 55) rfl (.cons (t := 56) rfl (.cons (t := 57) rfl .nil))))) ⟨Nat.zero_le _, MLe.refl _, hI.bo, hI.ok, rfl⟩ (fun w h => h) ?_
   rintro ⟨j, t, Mj, Lj⟩ ⟨hj, hMj, hB, htok, hloo⟩
   try dsimp only at hj hMj hB htok hloo ⊢
   refine wAb (wAa (js rfl (fun h58 => ?_) (fun h58 => ?_)))
   ·refine wAc (jT (wAb (wAg rfl (wAd (jT (wAb (wAh (wAb (wAa ?_)))))))))
    have hj1 : j < held.length := by omega
    obtain ⟨sb, so, e0, hx⟩ := (hhs1.mono (hMz.trans (hI.mle.trans hMj))).open (by intro e; have := congrArg List.length e; rw [wAy wBc 5 wBe, List.length_nil] at this; have h2 := congrArg List.length hhp; rw [List.length_map] at h2; omega)
    cases e0
    obtain ⟨va, vc, hcl, hvc, hvs⟩ := wBr hx hhp (fun p hp => (hhb p hp).mono (hMz.trans (hI.mle.trans hMj))) hj1
    have hxr := hhr held[j] (List.getElem_mem hj1)
    have ht256 : t.now.length = 256 := htok.2.1.1
    refine wAi rfl rfl (wBa rfl rfl rfl rfl (by omega)) ?_
    refine wAi rfl rfl (wEy (cs := itc held[j] va vc) rfl rfl rfl rfl rfl (fun i v hv => (hcl i v hv).cj _)) ?_
    refine sAl rfl fun b16 => ?_
    refine sSt rfl ?_
    refine wAc (jT (wAb (wAb (wAa (sFL rfl rfl ?_)))))
    refine js rfl (fun h63 => ?_) (fun h63 => ?_)
    ·refine wAc (jT (wAg rfl (wAs (jTx (jBx (jT (wAa (ja rfl (by omega) ?_))))))))
     refine jp rfl (wAc ?_)
     refine wAp (j + 1, t, Mj, Lj) (.cons (t := 0) rfl (.cons (t := 8) rfl (.cons (t := 55) rfl (.cons (t := 56) rfl (.cons (t := 57) rfl .nil))))) ⟨by show j + 1 ≤ held.length; omega, hMj, hB, htok, by show _ = looL (held.drop (j + 1)) t; rw [hloo, looL_step hj1, if_pos h63]⟩ (by show held.length - (j + 1) < held.length - j; omega) (fun w h => h.tl)
    ·refine wAc (jT (wAj rfl (wAd (jT (wAb (wAa (jp rfl (sFL rfl rfl ?_))))))))
     have hkr2 : ((held[j].ref.toNat : Nat) : Int) = held[j].ref := Int.toNat_of_nonneg (by omega)
     refine wAw rfl rfl (wAn rfl rfl rfl rfl rfl (by kernel_rfl) (by have := loose_any t held[j].ref.toNat bb (by omega) Mj Lj hB; rwa [hkr2] at this)) ?_; rintro _ Mq _ ⟨hMq, R', rfl, ⟨rfl, hB2⟩⟩
     refine jp rfl (wAc (jT (wAb (wAa (jp rfl (js rfl (fun h69 => ?_) (fun h69 => ?_)))))))
     ·refine wAc (jT (wAg rfl (wAb (wAa (jp rfl (jp rfl (jp rfl (wAc (jT (wAe (jBr (jTr (jTr (jBr (jTr (jr2 rfl rfl rfl ?_))))))))))))))))
      have hbe : build s0 lv l held = .error (wHf t held[j].ref.toNat) := by unfold build; rw [hmk]; show (match looL held s with | .error e => _ | .ok t2 => _) = _; rw [hloo, looL_step hj1, if_neg h63, if_neg h69]
      rw [hbe]
      exact ⟨h69, rfl⟩
     ·refine wAc (jT (wAj rfl (wAd (jB (jT (wAa (ja rfl (by omega) ?_)))))))
      refine jp rfl (wAc ?_)
      have h69' := Classical.not_not.1 h69
      refine wAp (j + 1, wDn t held[j].ref.toNat, Mq, R') (.cons (t := 0) rfl (.cons (t := 8) rfl (.cons (t := 55) rfl (.cons (t := 56) rfl (.cons (t := 57) rfl .nil))))) ⟨by show j + 1 ≤ held.length; omega, hMj.trans hMq, hB2 h69', wLp htok (by omega), by show _ = looL (held.drop (j + 1)) _; rw [hloo, looL_step hj1, if_neg h63, if_pos h69']⟩ (by show held.length - (j + 1) < held.length - j; omega) (fun w h => h.dropAt.perm (wHd fun f => by simp only [mks, List.map_append, List.map_cons, List.map_nil, List.sum_append, List.sum_cons, List.sum_nil]; omega))
   ·refine wAc (jT (wAb (wAj rfl (wAs (jTx (jTx (jBx (jT (wAb (wAa (jp rfl (jp rfl (jp rfl (wAc (jT (wAe (jr2 rfl rfl rfl ?_)))))))))))))))))
    have hj9 : j = held.length := by omega
    subst hj9
    rw [List.drop_length] at hloo
    have hbe : build s0 lv l held = .ok (t, up) := by unfold build; rw [hmk]; show (match looL held s with | .error e => _ | .ok t2 => _) = _; rw [hloo]; rfl
    rw [hbe]
    exact ⟨_, _, Rk, Lj, rfl, rfl, htok, hB, hI.own, hI.val, not_in hX hI.nw⟩
 ·refine wAb (wAa (jp rfl (wAi rfl rfl (wBq rfl rfl rfl) ?_)))
  refine js rfl (fun h22 => ?_) (fun h22 => ?_)
  ·refine wAc (jT (wAg rfl (wBn [(0, true), (1, true), (2, true), (3, true), (4, false), (5, true)] _ (by kernel_rfl) (by kernel_rfl) (by kernel_rfl) rfl (fun _ h => h) ?_)))
   refine dp rfl rfl ?_
   refine wBi rfl rfl rfl (qEq (qSl rfl rfl rfl (.no _) (.of (v := 3) rfl (by omega) rfl) (.no _) (by omega) (by simp)) (v' := .slice la 3 lc) (by rw [wDa]; rfl)) ?_
   refine dp rfl rfl ?_
   refine wBi rfl rfl rfl (qSl rfl rfl rfl (.no _) (.no _) (.of (v := 3) rfl (by omega) rfl) (by omega) (by simp)) ?_
   refine wHh rfl rfl rfl (wAm (cs := [_, _]) rfl rfl rfl (by rfl) (by rfl) (by rfl)) ?_; rintro _ _ _ ⟨b27, rfl, rfl, rfl⟩
   refine wEm (MLe.refl _) (fun _ h => List.mem_cons_of_mem _ h) (by first | exact MLe.refl _ | assumption) (by simp) ?_
   refine dp rfl rfl ?_
   refine wBg (jPn (wDh (M' := M) (L' := (b27, .cells [Value.slice la 3 lc, Value.slice (slA la 3 lc 5) (l.length - 3) (lc - 3)].toArray 59 (0, 0)) :: Lb) (fun w h => St.dropAt (A := [_]) h) ?_))
   refine jq_freezeX b27 (fun _ h => h) ?_
   intro Mf hMf e27
   refine wJp (Mf, .slice (some ⟨b27, 0, none⟩) 2 2) (.cons (t := 0) rfl (.cons (t := 1) rfl (.cons (t := 3) rfl (.cons (t := 8) rfl (.cons (t := 10) rfl .nil))))) ⟨hMf, ?_⟩ (fun w h => h)
   have hpe : wDs l = [l.take 3, l.drop 3] := if_pos (by omega)
   show PS Mf _ (wDs l)
   rw [hpe]
   refine ⟨_, 2, [(l.take 3, .slice la 3 lc), (l.drop 3, .slice (slA la 3 lc 5) (l.length - 3) (lc - 3))], rfl, Nat.le_refl _, SM.of_block e27, rfl, fun p hp => ?_⟩
   simp only [List.mem_cons, List.not_mem_nil, or_false] at hp
   rcases hp with rfl | rfl
   ·exact (hls.take (by omega)).mono hMf
   ·exact (hls.drop (by omega)).mono hMf
  ·refine wAc (jT (wAj rfl (wAd (jq_freezeX b19 (fun _ h => h) ?_))))
   intro Mf hMf e19
   refine wJp (Mf, .slice (some ⟨b19, 0, none⟩) 1 1) (.cons (t := 0) rfl (.cons (t := 1) rfl (.cons (t := 3) rfl (.cons (t := 8) rfl (.cons (t := 10) rfl .nil))))) ⟨hMf, ?_⟩ (fun w h => h)
   have hpe : wDs l = [l] := if_neg (by omega)
   show PS Mf _ (wDs l)
   rw [hpe]
   refine ⟨_, 1, [(l, .slice la l.length lc)], rfl, Nat.le_refl _, SM.of_block e19, rfl, fun p hp => ?_⟩
   rw [List.mem_singleton.1 hp]; exact hls.mono hMf
end Go.Proofs.YtoincdcejjdgkaaGreat
