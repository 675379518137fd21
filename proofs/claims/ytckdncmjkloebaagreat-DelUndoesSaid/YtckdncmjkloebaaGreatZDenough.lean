/- Walks: what is counted. No statement of the seat is proved here. -/
import Derived.Test.YtckdncmjkloebaaGreatZEnw
namespace Go.Proofs.YtckdncmjkloebaaGreat
set_option linter.unusedVariables false
set_option linter.unusedSimpArgs false
open Go.RowKit
set_option maxHeartbeats 8000000 in
theorem denough_walk (s : Sto) (roots : List Int) (bv wv nv lw : Value) (a1 : Option Addr) (c1 : Nat) (M : Mem) (hST : ST M (.agg #[bv, wv, nv, lw]) s) (hst : wCx s) (hs1 : SM M a1 (roots.map encZ)) (hn1 : roots.length ≤ 100000) (hroots : ∀ r ∈ roots, (wCj s r).2 = 0) :
  SpecL Tryz.prog 29 #[.agg #[bv, wv, nv, lw], .slice a1 roots.length c1] M [] fun u M' L' => (∃ b, u = .bool b ∧ (b = true ↔ EnP s roots ([] : List Int))) ∧ L' = [] := by
 obtain ⟨bv2, wv2, nv2, lw2, e0, g1, g2, g3, g4⟩ := hST.ex
 simp only [Value.agg.injEq, Array.mk.injEq, List.cons.injEq, and_true] at e0
 obtain ⟨rfl, rfl, rfl, rfl⟩ := e0
 obtain ⟨na, nc, rfl, hnc, hns⟩ := g3
 have hn256 : s.now.length = 256 := hst.2.1.1
 obtain ⟨nb, no, e0, hnow⟩ := hns.open (by intro e; have := congrArg List.length e; rw [wAy, List.length_nil] at this; omega)
 subst e0
 refine wAi (vs := [_, _]) 104 _ Tryz.func29 rfl Tryz.ntmps29 rfl rfl ?_; intro W
 refine wAb (wAa ?_)
 refine wAr rfl rfl (wDt (cs := [_, _, _, _]) rfl rfl rfl rfl) ?_; rintro _ _ _ ⟨b2, rfl, rfl, rfl⟩
 refine jp rfl ?_
 refine wAc (jT (wAb (wAa ?_)))
 refine wAr rfl rfl (wAs rfl rfl) ?_; rintro _ _ _ ⟨b5, rfl, rfl, rfl⟩
 refine wAc (jT (wAb (wAa ?_)))
 refine wAr rfl rfl (wAs rfl rfl) ?_; rintro _ _ _ ⟨b6, rfl, rfl, rfl⟩
 refine wAc (jT (wAb (wAb (wAa ?_))))
 refine jp rfl ?_
 refine wAc (jT (wAk ?_))
 rw [repl_map, bst_none, icl_zero]
 refine wBc (α := Nat × List Nat × (Nat → Nat) × Mem) (fun x => [(1, .slice a1 roots.length c1), (2, .pointer (some ⟨b2, 0, none⟩)), (5, .pointer (some ⟨b5, 0, none⟩)), (6, .pointer (some ⟨b6, 0, none⟩)), (7, .int .i64 (x.1 : Int))]) (fun x => x.2.2.2) (fun x => [(b6, .cells (icl x.2.2.1).toArray 106 (0, 0)), (b5, .cells ((bst x.2.1).map Value.bool).toArray 105 (0, 0)), (b2, .cells [bv, wv, .slice (some ⟨nb, no, none⟩) s.now.length nc, lw].toArray TSt (0, 0))]) (fun x => x.1 ≤ roots.length ∧ MLe M x.2.2.2 ∧ x.2.1.Nodup ∧ (∀ n, n ∈ x.2.1 ↔ ∃ r ∈ roots.take x.1, Rch s r.toNat n) ∧ ∀ k : Nat, x.2.2.1 k = ([] : List Int).count (k : Int) + (roots.take x.1).count (k : Int) + wS s x.2.1 k) (fun x => roots.length - x.1)
  (0, [], fun _ => 0, M) (Keep.cons (t := 1) rfl (Keep.cons (t := 2) rfl (Keep.cons (t := 5) rfl (Keep.cons (t := 6) rfl (Keep.cons (t := 7) rfl Keep.nil))))) ⟨Nat.zero_le _, MLe.refl _, List.nodup_nil, fun n => by simp, fun k => by simp [wS]⟩ (fun _ h => h) ?_
 rintro ⟨i, S, f, Mi⟩ ⟨hi, hMi, hSn, hSm, hf⟩
 try dsimp only at hi hMi hSn hSm hf ⊢
 have hS256 : ∀ k ∈ S, k < 256 := fun k hk => by
  obtain ⟨r, hr, hrc⟩ := (hSm k).1 hk
  obtain ⟨_, q8, q256, _, ql, qx, qn, qt, _⟩ := wCb (hroots r (List.mem_of_mem_take hr))
  exact (Rch.tree (by omega) qn qt hrc).1.2
 refine wAb (wAb (wAa ?_))
 iterate 2 refine jp rfl ?_
 refine wAe rfl rfl (wBt rfl rfl rfl) ?_
 refine js rfl (fun h19 => ?_) (fun h19 => ?_)
 ·refine wAc (jT (wAj rfl (wAf (jT (wAb (wAk (wAb (wAa ?_))))))))
  iterate 2 refine jp rfl ?_
  have hi1 : i < roots.length := idx_lt3 h19
  obtain ⟨rb, ro, e0, hrx⟩ := hs1.open (by intro e; have := congrArg List.length e; rw [List.length_map, List.length_nil] at this; omega)
  subst e0
  have hfo := hroots _ (List.getElem_mem hi1)
  obtain ⟨_, hr8, hr256, hrn, lev0, xs0, hnd0, htr0, _⟩ := wCb hfo
  have hfk := hf roots[i].toNat
  have hcl1 : (roots.take i).count ((roots[i].toNat : Nat) : Int) ≤ (roots.take i).length := List.count_le_length
  have hcl2 : ([] : List Int).count ((roots[i].toNat : Nat) : Int) = 0 := List.count_nil
  have hcl3 := wS_le5 s ((roots[i].toNat : Nat) : Int) S
  have hcl4 := wLx hSn hS256
  rw [List.length_take] at hcl1
  refine wAe rfl rfl (qEq (wBh rfl rfl rfl rfl (by omega)) (v' := .pointer (some ⟨rb, ro + i, none⟩)) (by congr 3; omega)) ?_
  refine wAe rfl rfl (qLd (v := .int .i64 roots[i]) rfl rfl rfl rfl ((((hrx i _ (by simp [encZ])).mono hMi).cj _))) ?_
  refine wAe rfl rfl (qEq (qIdxA rfl rfl rfl rfl (by omega)) (v' := .pointer (some ⟨b6, roots[i].toNat, none⟩)) (by congr 3; omega)) ?_
  refine wAe rfl rfl (qLd (v := .int .i64 (f roots[i].toNat : Int)) rfl rfl rfl rfl (icj (by omega))) ?_
  refine ja rfl (by omega) ?_
  refine wAe rfl rfl (qEq (qIdxA rfl rfl rfl rfl (by omega)) (v' := .pointer (some ⟨b6, roots[i].toNat, none⟩)) (by congr 3; omega)) ?_
  refine wBk rfl (hBump rfl rfl rfl rfl (by omega)) ?_; rintro _ _ _ ⟨rfl, rfl⟩
  refine wAc (jT (wAb ?_))
  refine wBp [(0, true), (1, true), (2, true), (3, true), (4, true), (5, false), (6, true), (7, true), (8, true), (9, true), (10, true), (11, true), (12, true)] _ (by kernel_rfl) (by kernel_rfl) (by kernel_rfl) rfl (fun _ h => h) ?_
  refine wAv rfl rfl rfl (wBq rfl rfl rfl rfl rfl) ?_
  iterate 2 refine dp rfl rfl ?_
  refine wAv rfl rfl rfl (qEq (wBh rfl rfl rfl rfl (by omega)) (v' := .pointer (some ⟨rb, ro + i, none⟩)) (by congr 3; omega)) ?_
  refine wAv rfl rfl rfl (qLd (v := .int .i64 roots[i]) rfl rfl rfl rfl ((((hrx i _ (by simp [encZ])).mono hMi).cj _))) ?_
  refine wGj rfl rfl rfl (wAu rfl rfl rfl rfl rfl (by kernel_rfl) (nodes_spec s _ roots[i] Mi (hST.mono hMi))) ?_; rintro _ Mn _ ⟨hMn, _, rfl, ⟨hnp, rfl⟩⟩
  refine ⟨_, _, MLe.refl _, hMn, fun _ h => h, by simp, ?_⟩
  simp only [List.nil_append]
  obtain ⟨a3, n3, c3, a4, n4, c4, rfl, hn3, hn4, hyes, _⟩ := hnp.form
  obtain ⟨ns, rs, rfl, rfl, hs3, hs4, hna⟩ := hyes hfo
  have hnl := hna.nlenE hfo
  iterate 7 refine dp rfl rfl ?_
  refine wBi (jPn (jT (wAb (wAb (wAa ?_)))))
  refine jp rfl ?_
  refine jf rfl (decide_eq_false (by omega)) ?_
  refine wAc (jT (wAm rfl (wAf (jT (wAb (wAa ?_))))))
  refine jp rfl ?_
  refine wAc (jT (wAk ?_))
  have hf1 := bump_cnt hi1 (by omega) (A := fun k => ([] : List Int).count (k : Int)) (B := fun k => wS s S k) hf
  generalize bump f roots[i].toNat = f1 at hf1
  refine wBc (α := Nat × List Nat × (Nat → Nat) × Mem) (fun x => [(1, .slice (some ⟨rb, ro, none⟩) roots.length c1), (2, .pointer (some ⟨b2, 0, none⟩)), (5, .pointer (some ⟨b5, 0, none⟩)), (6, .pointer (some ⟨b6, 0, none⟩)), (7, .int .i64 (i : Int)), (8, .slice a3 ns.length c3), (11, .int .i64 (x.1 : Int))]) (fun x => x.2.2.2) (fun x => [(b6, .cells (icl x.2.2.1).toArray 106 (0, 0)), (b5, .cells ((bst x.2.1).map Value.bool).toArray 105 (0, 0)), (b2, .cells [bv, wv, .slice (some ⟨nb, no, none⟩) s.now.length nc, lw].toArray TSt (0, 0))]) (fun x => x.1 ≤ ns.length ∧ MLe Mn x.2.2.2 ∧ x.2.1.Nodup ∧ (∀ n, n ∈ x.2.1 ↔ (∃ r ∈ roots.take i, Rch s r.toNat n) ∨ (n : Int) ∈ ns.take x.1) ∧ ∀ k : Nat, x.2.2.1 k = ([] : List Int).count (k : Int) + (roots.take (i + 1)).count (k : Int) + wS s x.2.1 k) (fun x => ns.length - x.1)
   (0, S, f1, Mn) (Keep.cons (t := 1) rfl (Keep.cons (t := 2) rfl (Keep.cons (t := 5) rfl (Keep.cons (t := 6) rfl (Keep.cons (t := 7) rfl (Keep.cons (t := 8) rfl (Keep.cons (t := 11) rfl Keep.nil))))))) ⟨Nat.zero_le _, MLe.refl _, hSn, fun n => by rw [hSm n]; simp, hf1⟩ (fun _ h => h) ?_
  rintro ⟨j, S, f, Mk⟩ ⟨hj, hMk, hSn, hSm, hf⟩
  try dsimp only at hj hMk hSn hSm hf ⊢
  have hS256 : ∀ k ∈ S, k < 256 := fun k hk => by
   rcases (hSm k).1 hk with ⟨r, hr, hrc⟩ | hk2
   ·obtain ⟨_, q8, q256, _, ql, qx, qn, qt, _⟩ := wCb (hroots r (List.mem_of_mem_take hr))
    exact (Rch.tree (by omega) qn qt hrc).1.2
   ·obtain ⟨n2, e2, hrc⟩ := (hna.is _).1 (List.mem_of_mem_take hk2)
    have := (Rch.tree (by omega) hnd0 htr0 hrc).1.2
    omega
  refine wAb (wAb (wAa ?_))
  iterate 2 refine jp rfl ?_
  refine wAe rfl rfl (wBt rfl rfl rfl) ?_
  refine js rfl (fun h45 => ?_) (fun h45 => ?_)
  ·refine wAc (jT (wAj rfl (wAf (jT (wAb (wAk (wAb ?_)))))))
   refine wKd ([(b2, .cells [bv, wv, .slice (some ⟨nb, no, none⟩) s.now.length nc, lw].toArray TSt (0, 0))]) (by kernel_rfl) (by simp) ?_
   refine wFf (i := 0) rfl (by kernel_rfl) (by kernel_rfl) rfl rfl (wBq rfl rfl rfl rfl rfl) ?_
   refine ja_p (i := 1) rfl (by kernel_rfl) (by kernel_rfl) rfl ?_
   refine ja_p (i := 2) rfl (by kernel_rfl) (by kernel_rfl) rfl ?_
   have hj1 : j < ns.length := idx_lt3 h45
   obtain ⟨sb, so, e0, hnx⟩ := hs3.open (by intro e; have := congrArg List.length e; rw [List.length_map, List.length_nil] at this; omega)
   subst e0
   obtain ⟨hask, lev, xs, hndx, hrx2⟩ := hna.readE hfo (List.getElem_mem hj1)
   have hno := wBm hndx
   have hlen := hno.len
   have hlv := hno.lev
   obtain ⟨n, hn1, hn2⟩ := (hna.is _).1 (List.getElem_mem hj1)
   have hnb := (Rch.tree (by omega) hnd0 htr0 hn2).1
   have hnn : ns[j].toNat = n := by omega
   refine wFf (i := 3) rfl (by kernel_rfl) (by kernel_rfl) rfl rfl (qEq (wBh rfl rfl rfl rfl (by omega)) (v' := .pointer (some ⟨sb, so + j, none⟩)) (by congr 3; omega)) ?_
   refine wFf (i := 4) rfl (by kernel_rfl) (by kernel_rfl) rfl rfl (qLd (v := .int .i64 ns[j]) rfl rfl rfl rfl ((((hnx j _ (by simp [encZ])).mono hMk).cj _))) ?_
   refine wKe (α := Mem × Option Addr × Nat × List (It × Value) × Nat) (fun y => MLe Mk y.1 ∧ xs.length ≤ y.2.2.1 ∧ SM y.1 y.2.1 (y.2.2.2.1.flatMap wAq) ∧ y.2.2.2.1.map (·.1) = xs ∧ ∀ p ∈ y.2.2.2.1, BS y.1 p.2 p.1.val) (fun y => [(1, .slice (some ⟨rb, ro, none⟩) roots.length c1), (2, .pointer (some ⟨b2, 0, none⟩)), (5, .pointer (some ⟨b5, 0, none⟩)), (6, .pointer (some ⟨b6, 0, none⟩)), (7, .int .i64 (i : Int)), (8, .slice (some ⟨sb, so, none⟩) ns.length c3), (11, .int .i64 (j : Int)), (12, .pointer (some ⟨y.2.2.2.2, 0, none⟩)), (55, .agg #[.int .i64 (lev : Int), .slice y.2.1 xs.length y.2.2.1]), (56, .int .i64 0)]) (fun y => y.1) (fun y => (y.2.2.2.2, .cells [.int .i64 0, .slice none 0 0].toArray 73 (0, 0)) :: [(b6, .cells (icl f).toArray 106 (0, 0)), (b5, .cells ((bst S).map Value.bool).toArray 105 (0, 0)), (b2, .cells [bv, wv, .slice (some ⟨nb, no, none⟩) s.now.length nc, lw].toArray TSt (0, 0))]) 2 #[true, true, true, true, true, true, true, true, true, true, false, false] ?_ (fun rest => ?_)
   ·rintro ⟨Mf, ua, uc, up, b12⟩ ⟨hMf, huc, hus, hup, hub⟩
    try dsimp only at hMf huc hus hup hub ⊢
    refine wMi (i := 10) (by kernel_rfl) ?_
    refine js_s rfl rfl (wAg rfl rfl rfl rfl rfl rfl rfl rfl) ?_; rintro _ _ _ ⟨rfl, rfl⟩
    refine wAw (hMf) (by simp) ?_
    refine ja_p (i := 11) rfl (by kernel_rfl) (by kernel_rfl) rfl ?_
    refine ja_end (by kernel_rfl) ?_
    refine jPn (jT (wAb (wAb (wAa ?_))))
    refine jp rfl ?_
    refine jf rfl (decide_eq_false (by omega)) ?_
    refine wAc (jT (wAm rfl (wAf (jT (wAb (wAb (wAa ?_)))))))
    refine jp rfl ?_
    refine wAc (jT (wAk ?_))
    refine wBc (α := Nat × (Nat → Nat)) (fun x => [(1, .slice (some ⟨rb, ro, none⟩) roots.length c1), (2, .pointer (some ⟨b2, 0, none⟩)), (5, .pointer (some ⟨b5, 0, none⟩)), (6, .pointer (some ⟨b6, 0, none⟩)), (7, .int .i64 (i : Int)), (8, .slice (some ⟨sb, so, none⟩) ns.length c3), (11, .int .i64 (j : Int)), (12, .pointer (some ⟨b12, 0, none⟩)), (14, .int .i64 (x.1 : Int))]) (fun _ => Mf) (fun x => (b12, .cells [.int .i64 (lev : Int), .slice ua xs.length uc].toArray 73 (0, 0)) :: [(b6, .cells (icl x.2).toArray 106 (0, 0)), (b5, .cells ((bst S).map Value.bool).toArray 105 (0, 0)), (b2, .cells [bv, wv, .slice (some ⟨nb, no, none⟩) s.now.length nc, lw].toArray TSt (0, 0))]) (fun x => x.1 ≤ xs.length ∧ (ns[j].toNat ∈ S → x.1 = 0) ∧ ∀ k : Nat, x.2 k = ([] : List Int).count (k : Int) + (roots.take (i + 1)).count (k : Int) + wS s S k + ((xs.take x.1).map (·.ref)).count (k : Int)) (fun x => xs.length - x.1)
     (0, f) (Keep.cons (t := 1) rfl (Keep.cons (t := 2) rfl (Keep.cons (t := 5) rfl (Keep.cons (t := 6) rfl (Keep.cons (t := 7) rfl (Keep.cons (t := 8) rfl (Keep.cons (t := 11) rfl (Keep.cons (t := 12) rfl (Keep.cons (t := 14) rfl Keep.nil))))))))) ⟨Nat.zero_le _, fun _ => rfl, fun k => by show f k = _; rw [hf k]; simp⟩ (fun _ h => h) ?_
    rintro ⟨m, f⟩ ⟨hm, h0, hf⟩
    try dsimp only at hm h0 hf ⊢
    refine wAb (wAb (wAa ?_))
    refine jp rfl ?_
    refine wAe rfl rfl (wAd rfl rfl rfl rfl rfl) ?_
    refine wAe rfl rfl (qLd rfl rfl rfl rfl (CJ.loc rfl)) ?_
    refine wAe rfl rfl (wBt rfl rfl rfl) ?_
    refine js rfl (fun h63 => ?_) (fun h63 => ?_)
    ·iterate 3 refine jp rfl ?_
     refine wAe rfl rfl (qEq (wBh rfl rfl rfl rfl (by omega)) (v' := .pointer (some ⟨sb, so + j, none⟩)) (by congr 3; omega)) ?_
     refine wAe rfl rfl (qLd (v := .int .i64 ns[j]) rfl rfl rfl rfl ((((hnx j _ (by simp [encZ])).mono (hMk.trans hMf)).cj _))) ?_
     refine wAe rfl rfl (qEq (qIdxA rfl rfl rfl rfl (by omega)) (v' := .pointer (some ⟨b5, ns[j].toNat, none⟩)) (by congr 3; omega)) ?_
     refine wJb rfl rfl (qLd (v := .bool (decide (ns[j].toNat ∈ S))) rfl rfl rfl rfl (bcj (bst_get S (by omega)))) (fun h70 => ?_) (fun h70 => ?_)
     ·iterate 2 refine jp rfl ?_
      refine wAc (jT (wAm rfl (wBa (jTx (jTx (jBx (jT (wAa ?_))))))))
      iterate 2 refine jp rfl ?_
      refine wAe rfl rfl (qEq (wBh rfl rfl rfl rfl (by omega)) (v' := .pointer (some ⟨sb, so + j, none⟩)) (by congr 3; omega)) ?_
      refine wAe rfl rfl (qLd (v := .int .i64 ns[j]) rfl rfl rfl rfl ((((hnx j _ (by simp [encZ])).mono (hMk.trans hMf)).cj _))) ?_
      refine wAe rfl rfl (qEq (qIdxA rfl rfl rfl rfl (by omega)) (v' := .pointer (some ⟨b5, ns[j].toNat, none⟩)) (by congr 3; omega)) ?_
      refine wBk rfl (hSetB rfl rfl rfl rfl (by rw [bst_len]; omega)) ?_; rintro _ _ _ ⟨rfl, rfl⟩
      refine wAc (jB (jT (wAa ?_)))
      refine jp rfl ?_
      refine ja rfl (by omega) ?_
      refine jp rfl ?_
      refine wAc ?_
      obtain ⟨S2, t1, t2, t3⟩ := met_step hndx hSn h0 (fun hx => absurd (of_decide_eq_true h70) hx) hf
      rw [@bst_set S S2 _ (by omega) t2]
      refine wAx (j + 1, S2, f, Mf) (Keep.cons (t := 1) rfl (Keep.cons (t := 2) rfl (Keep.cons (t := 5) rfl (Keep.cons (t := 6) rfl (Keep.cons (t := 7) rfl (Keep.cons (t := 8) rfl (Keep.cons (t := 11) rfl Keep.nil))))))) ⟨by show j + 1 ≤ ns.length; omega, hMk.trans hMf, t1, fun x => ?_, t3⟩ (by show ns.length - (j + 1) < ns.length - j; omega) (fun _ h => h.fewer (by simp))
      show x ∈ S2 ↔ _ ∨ (x : Int) ∈ ns.take (j + 1)
      rw [t2 x, hSm x, show ns.take (j + 1) = ns.take j ++ [ns[j]] from List.take_succ_eq_append_getElem hj1, List.mem_append, List.mem_singleton, or_assoc]
      exact or_congr Iff.rfl (or_congr Iff.rfl ⟨fun e => by omega, fun e => by omega⟩)
     ·iterate 2 refine jp rfl ?_
      refine wAc (jT (wAj rfl (wAf (jT (wAb (wAk (wAa ?_)))))))
      refine wAe rfl rfl (wAd rfl rfl rfl rfl rfl) ?_
      refine wAe rfl rfl (qLd rfl rfl rfl rfl (CJ.loc rfl)) ?_
      refine jp rfl ?_
      have hk1 : m < xs.length := idx_lt3 h63
      obtain ⟨ub, uo, e0, hux⟩ := hus.open (by intro e; have := congrArg List.length e; rw [wBd wAq 5 wAo, List.length_nil] at this; have h2 := congrArg List.length hup; rw [List.length_map] at h2; omega)
      subst e0
      obtain ⟨va, vc, hcl, hvc, hvs⟩ := wBj hux hup hub hk1
      have hxr := hno.ref xs[m] (List.getElem_mem hk1)
      have hfk := hf xs[m].ref.toNat
      have hcl1 : (roots.take i).count ((xs[m].ref.toNat : Nat) : Int) ≤ (roots.take i).length := List.count_le_length
      have hcl2 : ([] : List Int).count ((xs[m].ref.toNat : Nat) : Int) = 0 := List.count_nil
      have hcl3 := wS_le5 s ((xs[m].ref.toNat : Nat) : Int) S
      have hcl4 := wLx hSn hS256
      rw [List.length_take] at hcl1
      have hcl5 : ((xs.take m).map (·.ref)).count ((xs[m].ref.toNat : Nat) : Int) ≤ ((xs.take m).map (·.ref)).length := List.count_le_length
      rw [List.length_map, List.length_take] at hcl5
      have hcl6 : (roots.take (i + 1)).count ((xs[m].ref.toNat : Nat) : Int) ≤ (roots.take (i + 1)).length := List.count_le_length
      rw [List.length_take] at hcl6
      refine wAe rfl rfl (wBh rfl rfl rfl rfl (by omega)) ?_
      refine wAe rfl rfl (wAd rfl rfl rfl rfl rfl) ?_
      refine wAe rfl rfl (qLd rfl rfl rfl rfl ((hcl 3 _ rfl).cj _)) ?_
      refine wAe rfl rfl (qEq (qIdxA rfl rfl rfl rfl (by omega)) (v' := .pointer (some ⟨b6, xs[m].ref.toNat, none⟩)) (by congr 3; omega)) ?_
      refine wAe rfl rfl (qLd (v := .int .i64 (f xs[m].ref.toNat : Int)) rfl rfl rfl rfl (icj (by omega))) ?_
      refine ja rfl (by omega) ?_
      refine wAe rfl rfl (qEq (qIdxA rfl rfl rfl rfl (by omega)) (v' := .pointer (some ⟨b6, xs[m].ref.toNat, none⟩)) (by congr 3; omega)) ?_
      refine wBk rfl (hBump rfl rfl rfl rfl (by omega)) ?_; rintro _ _ _ ⟨rfl, rfl⟩
      refine wAc (jB (jT (wAa ?_)))
      refine jp rfl ?_
      refine ja rfl (by omega) ?_
      refine jp rfl ?_
      refine wAc ?_
      refine wAx (m + 1, bump f xs[m].ref.toNat) (Keep.cons (t := 1) rfl (Keep.cons (t := 2) rfl (Keep.cons (t := 5) rfl (Keep.cons (t := 6) rfl (Keep.cons (t := 7) rfl (Keep.cons (t := 8) rfl (Keep.cons (t := 11) rfl (Keep.cons (t := 12) rfl (Keep.cons (t := 14) rfl Keep.nil))))))))) ⟨by show m + 1 ≤ xs.length; omega, fun hx => absurd hx (of_decide_eq_false h70), bump_ref hk1 (by omega) (A := fun k => ([] : List Int).count (k : Int) + (roots.take (i + 1)).count (k : Int) + wS s S k) hf⟩ (by show xs.length - (m + 1) < xs.length - m; omega) (fun _ h => h)
    ·iterate 9 refine jp rfl ?_
     refine wAc (jT (wAm rfl (wBa (jTx (jTx (jBx (jT (wAa ?_))))))))
     iterate 2 refine jp rfl ?_
     refine wAe rfl rfl (qEq (wBh rfl rfl rfl rfl (by omega)) (v' := .pointer (some ⟨sb, so + j, none⟩)) (by congr 3; omega)) ?_
     refine wAe rfl rfl (qLd (v := .int .i64 ns[j]) rfl rfl rfl rfl ((((hnx j _ (by simp [encZ])).mono (hMk.trans hMf)).cj _))) ?_
     refine wAe rfl rfl (qEq (qIdxA rfl rfl rfl rfl (by omega)) (v' := .pointer (some ⟨b5, ns[j].toNat, none⟩)) (by congr 3; omega)) ?_
     refine wBk rfl (hSetB rfl rfl rfl rfl (by rw [bst_len]; omega)) ?_; rintro _ _ _ ⟨rfl, rfl⟩
     refine wAc (jB (jT (wAa ?_)))
     refine jp rfl ?_
     refine ja rfl (by omega) ?_
     refine jp rfl ?_
     refine wAc ?_
     obtain ⟨S2, t1, t2, t3⟩ := met_step hndx hSn h0 (fun _ => by omega) hf
     rw [@bst_set S S2 _ (by omega) t2]
     refine wAx (j + 1, S2, f, Mf) (Keep.cons (t := 1) rfl (Keep.cons (t := 2) rfl (Keep.cons (t := 5) rfl (Keep.cons (t := 6) rfl (Keep.cons (t := 7) rfl (Keep.cons (t := 8) rfl (Keep.cons (t := 11) rfl Keep.nil))))))) ⟨by show j + 1 ≤ ns.length; omega, hMk.trans hMf, t1, fun x => ?_, t3⟩ (by show ns.length - (j + 1) < ns.length - j; omega) (fun _ h => h.fewer (by simp))
     show x ∈ S2 ↔ _ ∨ (x : Int) ∈ ns.take (j + 1)
     rw [t2 x, hSm x, show ns.take (j + 1) = ns.take j ++ [ns[j]] from List.take_succ_eq_append_getElem hj1, List.mem_append, List.mem_singleton, or_assoc]
     exact or_congr Iff.rfl (or_congr Iff.rfl ⟨fun e => by omega, fun e => by omega⟩)
   refine wBn [5, 9] (by kernel_rfl) rfl ⟨?_, ?_, trivial⟩
   ·refine wDu rfl rfl rfl (wAu rfl rfl rfl rfl rfl (by kernel_rfl) (wJy s _ ns[j] Mk (hST.mono (hMi.trans (hMn.trans hMk))))) ?_; rintro _ M7 _ ⟨hM5, R7, rfl, hrn, rfl⟩
    refine wAw hM5 (by simp) ?_
    simp only [List.nil_append]
    obtain ⟨sl, rfl, hns7⟩ := hrn.nodeE hask hndx
    obtain ⟨ua, uc, up, rfl, huc, hus, hup, hub⟩ := hns7
    refine ja_p (i := 6) rfl (by kernel_rfl) (by kernel_rfl) rfl ?_
    refine ja_p (i := 7) rfl (by kernel_rfl) (by kernel_rfl) rfl ?_
    refine ja_p (i := 8) rfl (by kernel_rfl) (by kernel_rfl) rfl ?_
    refine wBn [9] (by kernel_rfl) rfl ⟨?_, trivial⟩
    ·refine wDu rfl rfl rfl (wAs rfl rfl) ?_; rintro _ _ _ ⟨b12, rfl, rfl, rfl⟩
     refine wAw (hM5) (by simp) ?_
     refine wCo (listed' := #[true, true, true, true, true, true, true, true, true, true, false, false]) (by kernel_rfl) (wCn (Keep.cons (t := 1) rfl (Keep.cons (t := 2) rfl (Keep.cons (t := 5) rfl (Keep.cons (t := 6) rfl (Keep.cons (t := 7) rfl (Keep.cons (t := 8) rfl (Keep.cons (t := 11) rfl (Keep.cons (t := 12) rfl (Keep.cons (t := 55) rfl (Keep.cons (t := 56) rfl Keep.nil)))))))))) ?_)
     refine wFn (M2 := M7) (L2 := (b12, .cells [.int .i64 0, .slice none 0 0].toArray 73 (0, 0)) :: [(b6, .cells (icl f).toArray 106 (0, 0)), (b5, .cells ((bst S).map Value.bool).toArray 105 (0, 0)), (b2, .cells [bv, wv, .slice (some ⟨nb, no, none⟩) s.now.length nc, lw].toArray TSt (0, 0))]) (fun w h => h.perm (Rm.perm (g := b12))) hM5 (by simp) ?_
     exact rest (M7, ua, uc, up, b12) ⟨hM5, huc, hus, hup, hub⟩
   ·refine wDu rfl rfl rfl (wAs rfl rfl) ?_; rintro _ _ _ ⟨b12, rfl, rfl, rfl⟩
    refine wAw (MLe.refl _) (by simp) ?_
    refine wBn [5] (by kernel_rfl) rfl ⟨?_, trivial⟩
    ·refine wDu rfl rfl rfl (wAu rfl rfl rfl rfl rfl (by kernel_rfl) (wJy s _ ns[j] Mk (hST.mono (hMi.trans (hMn.trans hMk))))) ?_; rintro _ M7 _ ⟨hM5, R7, rfl, hrn, rfl⟩
     refine wAw hM5 (by simp) ?_
     simp only [List.nil_append]
     obtain ⟨sl, rfl, hns7⟩ := hrn.nodeE hask hndx
     obtain ⟨ua, uc, up, rfl, huc, hus, hup, hub⟩ := hns7
     refine ja_p (i := 6) rfl (by kernel_rfl) (by kernel_rfl) rfl ?_
     refine ja_p (i := 7) rfl (by kernel_rfl) (by kernel_rfl) rfl ?_
     refine ja_p (i := 8) rfl (by kernel_rfl) (by kernel_rfl) rfl ?_
     refine wCo (listed' := #[true, true, true, true, true, true, true, true, true, true, false, false]) (by kernel_rfl) (wCn (Keep.cons (t := 1) rfl (Keep.cons (t := 2) rfl (Keep.cons (t := 5) rfl (Keep.cons (t := 6) rfl (Keep.cons (t := 7) rfl (Keep.cons (t := 8) rfl (Keep.cons (t := 11) rfl (Keep.cons (t := 12) rfl (Keep.cons (t := 55) rfl (Keep.cons (t := 56) rfl Keep.nil)))))))))) ?_)
     refine wFn (M2 := M7) (L2 := (b12, .cells [.int .i64 0, .slice none 0 0].toArray 73 (0, 0)) :: [(b6, .cells (icl f).toArray 106 (0, 0)), (b5, .cells ((bst S).map Value.bool).toArray 105 (0, 0)), (b2, .cells [bv, wv, .slice (some ⟨nb, no, none⟩) s.now.length nc, lw].toArray TSt (0, 0))]) (fun w h => h.perm (Rm.perm (g := b12))) hM5 (by simp) ?_
     exact rest (M7, ua, uc, up, b12) ⟨hM5, huc, hus, hup, hub⟩
  ·refine wAc (jT (wAm rfl (wBa (jTx (jTx (jBx (jB (jT (wAa ?_)))))))))
   refine jp rfl ?_
   refine ja rfl (by omega) ?_
   refine jp rfl ?_
   refine wAc ?_
   refine wAx (i + 1, S, f, Mk) (Keep.cons (t := 1) rfl (Keep.cons (t := 2) rfl (Keep.cons (t := 5) rfl (Keep.cons (t := 6) rfl (Keep.cons (t := 7) rfl Keep.nil))))) ⟨by show i + 1 ≤ roots.length; omega, hMi.trans (hMn.trans hMk), hSn, fun n => ?_, hf⟩ (by show roots.length - (i + 1) < roots.length - i; omega) (fun _ h => h)
   show n ∈ S ↔ ∃ r ∈ roots.take (i + 1), _
   rw [hSm n, List.take_of_length_le (show ns.length ≤ j by omega), hna.is, show roots.take (i + 1) = roots.take i ++ [roots[i]] from List.take_succ_eq_append_getElem hi1]
   constructor
   ·rintro (⟨r, h1, h2⟩ | ⟨n2, h1, h2⟩)
    ·exact ⟨r, List.mem_append.2 (.inl h1), h2⟩
    ·exact ⟨roots[i], List.mem_append.2 (.inr (List.mem_singleton.2 rfl)), by rw [show n = n2 by omega]; exact h2⟩
   ·rintro ⟨r, h1, h2⟩
    rcases List.mem_append.1 h1 with h1 | h1
    ·exact .inl ⟨r, h1, h2⟩
    ·rw [List.mem_singleton.1 h1] at h2; exact .inr ⟨n, rfl, h2⟩
 ·refine wAc (jT (wAm rfl (wBa (jTx (jTx (jBx (jT (wAb (wAb (wAa ?_))))))))))
  refine jp rfl ?_
  refine wAc (jT (wAk ?_))
  rw [List.take_of_length_le (show roots.length ≤ i by omega)] at hSm hf
  refine wBc (α := Nat) (fun x => [(2, .pointer (some ⟨b2, 0, none⟩)), (6, .pointer (some ⟨b6, 0, none⟩)), (15, .int .i64 (x : Int))]) (fun _ => Mi) (fun x => [(b6, .cells (icl f).toArray 106 (0, 0)), (b5, .cells ((bst S).map Value.bool).toArray 105 (0, 0)), (b2, .cells [bv, wv, .slice (some ⟨nb, no, none⟩) s.now.length nc, lw].toArray TSt (0, 0))]) (fun x => 1 ≤ x ∧ x ≤ 256 ∧ ∀ k, 1 ≤ k → k < x → f k ≤ (s.now.getD k 0).toNat) (fun x => 256 - x)
   1 (Keep.cons (t := 2) rfl (Keep.cons (t := 6) rfl (Keep.cons (t := 15) rfl Keep.nil))) ⟨Nat.le_refl _, by decide, fun k h1 h2 => by omega⟩ (fun _ h => h) ?_
  rintro k ⟨hk0, hk256, hall⟩
  try dsimp only at hk0 hk256 hall ⊢
  have hMk := hMi
  refine wAb (wAb (wAa ?_))
  refine jp rfl ?_
  refine js rfl (fun h91 => ?_) (fun h91 => ?_)
  ·refine wAc (jT (wAj rfl (wAf (jT (wAb (wAk (wAb ?_)))))))
   refine wBp [(0, true), (1, true), (2, true), (3, true), (4, true), (5, true), (6, true), (7, true), (8, true), (9, true)] _ (by kernel_rfl) (by kernel_rfl) (by kernel_rfl) rfl (fun _ h => h) ?_
   refine dp rfl rfl ?_
   have hk1 : k < 256 := by omega
   have hfk := hf k
   have hcl1 : (roots.take i).count ((k : Nat) : Int) ≤ (roots.take i).length := List.count_le_length
   have hcl2 : ([] : List Int).count ((k : Nat) : Int) = 0 := List.count_nil
   have hcl3 := wS_le5 s ((k : Nat) : Int) S
   have hcl4 := wLx hSn hS256
   rw [List.length_take] at hcl1
   refine wAv rfl rfl rfl (qEq (qIdxA rfl rfl rfl rfl (by omega)) (v' := .pointer (some ⟨b6, k, none⟩)) (by congr 3; omega)) ?_
   refine wAv rfl rfl rfl (qLd (v := .int .i64 (f k : Int)) rfl rfl rfl rfl (icj (by omega))) ?_
   refine wAv rfl rfl rfl (wAd rfl rfl rfl rfl rfl) ?_
   refine wAv rfl rfl rfl (qLd rfl rfl rfl rfl (CJ.loc rfl)) ?_
   refine dp rfl rfl ?_
   refine wAv rfl rfl rfl (wBh rfl rfl rfl rfl (by omega)) ?_
   have hbl := (s.now.getD k 0).toNat_lt
   refine wAv rfl rfl rfl (qLd rfl rfl rfl rfl (((hnow _ _ (by rw [Nat.mul_one]; exact wLj (j := k) (by omega))).mono hMk).cj _)) ?_
   refine wAv rfl rfl rfl (wJg rfl rfl rfl (by omega)) ?_
   refine ds rfl rfl (fun h103 => ?_) (fun h103 => ?_)
   ·refine wBi (jPn (jT (wAj rfl (wAb (wAa ?_)))))
    refine jp rfl ?_
    refine wAc (jT (wAh (jBr (jTr (jTr (jBr (jTr ?_)))))))
    refine wBg (L' := []) (List.nil_sublist _) ?_
    refine jr1 rfl rfl ?_
    refine ⟨⟨_, rfl, ⟨fun h => (by cases h), fun h => ?_⟩⟩, rfl⟩
    exfalso
    have h9 := h.any hSn hSm k (by omega) (by omega)
    rw [List.count_append] at h9
    rw [Int.toNat_natCast] at h9
    omega
   ·refine wBi (jPn (jT (wAm rfl (wAf (jB (jT (wAa ?_)))))))
    refine jp rfl ?_
    refine ja rfl (by omega) ?_
    refine jp rfl ?_
    refine wAc ?_
    refine wAx (k + 1) (Keep.cons (t := 2) rfl (Keep.cons (t := 6) rfl (Keep.cons (t := 15) rfl Keep.nil))) ⟨by omega, by omega, fun k2 h1 h2 => ?_⟩ (by omega) (fun _ h => h)
    rcases Nat.lt_succ_iff_lt_or_eq.1 h2 with h3 | rfl
    ·exact hall k2 h1 h3
    ·omega
  ·refine wAc (jT (wAm rfl (wBa (jTx (jTx (jBx (jT (wAb (wAa ?_)))))))))
   refine jp rfl ?_
   refine wAc (jT (wAh ?_))
   refine wBg (L' := []) (List.nil_sublist _) ?_
   refine jr1 rfl rfl ?_
   refine ⟨⟨_, rfl, ⟨fun _ => ⟨S, hSn, hSm, fun k2 g0 g1 => ?_⟩, fun _ => rfl⟩⟩, rfl⟩
   have h9 := hall k2.toNat (by omega) (by omega)
   rw [hf, show ((k2.toNat : Nat) : Int) = k2 by omega] at h9
   rw [List.count_append]
   omega
theorem denough (s : Sto) (roots : List Int) (v w : Value) (M : Mem) (h : ST M v s) (hst : wCx s) (h1 : IS M w roots) (hn1 : roots.length ≤ 100000) (hroots : ∀ r ∈ roots, (wCj s r).2 = 0) : SpecL Tryz.prog 29 #[v, w] M [] fun u M' L' => (∃ b, u = .bool b ∧ (b = true ↔ EnP s roots ([] : List Int))) ∧ L' = [] := by
 obtain ⟨b, w5, n, l, rfl, k1, k2, k3, k4⟩ := id h.ex
 obtain ⟨a1, c1, rfl, _, hs1⟩ := h1
 exact denough_walk s roots b w5 n l a1 c1 M h hst hs1 hn1 hroots
end Go.Proofs.YtckdncmjkloebaaGreat
