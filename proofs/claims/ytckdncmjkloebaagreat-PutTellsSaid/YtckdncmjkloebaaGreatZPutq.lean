/- What the statements on putting need of the law, without a program. No statement of the seat is proved here. -/
import Derived.Test.YtckdncmjkloebaaGreatZEnw
namespace Go.Proofs.YtckdncmjkloebaaGreat
set_option linter.unusedVariables false
set_option linter.unusedSimpArgs false
open Go.RowKit

set_option maxHeartbeats 8000000 in
theorem penough_walk (s : Sto) (roots held : List Int) (bv wv nv lw : Value) (a1 a2 : Option Addr) (c1 c2 : Nat) (M : Mem) (hST : ST M (.agg #[bv, wv, nv, lw]) s) (hst : stOk s) (hs1 : SM M a1 (roots.map encZ)) (hn1 : roots.length ≤ 100000) (hroots : ∀ r ∈ roots, (fchk s r).2 = 0) (hs2 : SM M a2 (held.map encZ)) (hn2 : held.length ≤ 100000) (hheld : ∀ r ∈ held, 0 ≤ r ∧ r < 256) :
  SpecL Tryz.prog 20 #[.agg #[bv, wv, nv, lw], .slice a1 roots.length c1, .slice a2 held.length c2] M [] fun u M' L' => (∃ b, u = .bool b ∧ (b = true ↔ EnP s roots held)) ∧ L' = [] := by
 obtain ⟨bv2, wv2, nv2, lw2, e0, g1, g2, g3, g4⟩ := hST.ex
 simp only [Value.agg.injEq, Array.mk.injEq, List.cons.injEq, and_true] at e0
 obtain ⟨rfl, rfl, rfl, rfl⟩ := e0
 obtain ⟨na, nc, rfl, hnc, hns⟩ := g3
 have hn256 : s.now.length = 256 := hst.2.1.1
 obtain ⟨nb, no, e0, hnow⟩ := hns.open (by intro e; have := congrArg List.length e; rw [bcells_len, List.length_nil] at this; omega)
 subst e0
 refine spec_body (vs := [_, _, _]) 121 _ Tryz.func20 rfl Tryz.ntmps20 rfl rfl ?_; intro W
 refine jc_seq ?_
 refine jc_region ?_
 refine jl_h rfl rfl (hBox (cs := [_, _, _, _]) rfl rfl rfl rfl) ?_; rintro _ _ _ ⟨b3, rfl, rfl, rfl⟩
 refine jp rfl ?_
 refine jl_nil ?_
 refine jT ?_
 refine jc_seq ?_
 refine jc_region ?_
 refine jl_h rfl rfl (hAlloc rfl rfl) ?_; rintro _ _ _ ⟨b7, rfl, rfl, rfl⟩
 refine jl_nil ?_
 refine jT ?_
 refine jc_seq ?_
 refine jc_region ?_
 refine jl_h rfl rfl (hAlloc rfl rfl) ?_; rintro _ _ _ ⟨b8, rfl, rfl, rfl⟩
 refine jl_nil ?_
 refine jT ?_
 refine jc_seq ?_
 refine jc_seq ?_
 refine jc_region ?_
 refine jp rfl ?_
 refine jl_nil ?_
 refine jT ?_
 refine jc_block ?_
 rw [repl_map, bst_none, icl_zero]
 refine jc_loopK (α := Nat × (Nat → Nat)) (fun x => [(1, .slice a1 roots.length c1), (2, .slice a2 held.length c2), (3, .pointer (some ⟨b3, 0, none⟩)), (7, .pointer (some ⟨b7, 0, none⟩)), (8, .pointer (some ⟨b8, 0, none⟩)), (9, .int .i64 (x.1 : Int))]) (fun _ => M) (fun x => [(b8, .cells (icl x.2).toArray 106 (0, 0)), (b7, .cells ((bst []).map Value.bool).toArray 105 (0, 0)), (b3, .cells [bv, wv, .slice (some ⟨nb, no, none⟩) s.now.length nc, lw].toArray TSt (0, 0))]) (fun x => x.1 ≤ held.length ∧ ∀ k, x.2 k = 0 + (held.take x.1).count (k : Int) + 0) (fun x => held.length - x.1)
  (0, fun _ => 0) (Keep.cons (t := 1) rfl (Keep.cons (t := 2) rfl (Keep.cons (t := 3) rfl (Keep.cons (t := 7) rfl (Keep.cons (t := 8) rfl (Keep.cons (t := 9) rfl Keep.nil)))))) ⟨Nat.zero_le _, fun k => by simp⟩ (fun _ h => h) ?_
 rintro ⟨i, f⟩ ⟨hi, hf⟩
 try dsimp only at hi hf ⊢
 refine jc_seq ?_
 refine jc_seq ?_
 refine jc_region ?_
 iterate 2 refine jp rfl ?_
 refine jl_q rfl rfl (qLen rfl rfl rfl) ?_
 refine js rfl (fun h22 => ?_) (fun h22 => ?_)
 ·refine jl_nil ?_
  refine jT ?_
  refine jc_yes rfl ?_
  refine jc_skip ?_
  refine jT ?_
  refine jc_seq ?_
  refine jc_block ?_
  refine jc_region ?_
  iterate 2 refine jp rfl ?_
  have hi1 : i < held.length := idx_lt3 h22
  obtain ⟨hb, ho, e0, hhx⟩ := hs2.open (by intro e; have := congrArg List.length e; rw [List.length_map, List.length_nil] at this; omega)
  subst e0
  have hhr := hheld _ (List.getElem_mem hi1)
  have hfk := hf held[i].toNat
  have hcl : (held.take i).count ((held[i].toNat : Nat) : Int) ≤ (held.take i).length := List.count_le_length
  rw [List.length_take] at hcl
  refine jl_q rfl rfl (qEq (qIdxS rfl rfl rfl rfl (by omega)) (v' := .pointer (some ⟨hb, ho + i, none⟩)) (by congr 3; omega)) ?_
  refine jl_q rfl rfl (qLd (v := .int .i64 held[i]) rfl rfl rfl rfl (((hhx i _ (by simp [encZ])).cj _))) ?_
  refine jl_q rfl rfl (qEq (qIdxA rfl rfl rfl rfl (by omega)) (v' := .pointer (some ⟨b8, held[i].toNat, none⟩)) (by congr 3; omega)) ?_
  refine jl_q rfl rfl (qLd (v := .int .i64 (f held[i].toNat : Int)) rfl rfl rfl rfl (icj (by omega))) ?_
  refine ja rfl (by omega) ?_
  refine jl_q rfl rfl (qEq (qIdxA rfl rfl rfl rfl (by omega)) (v' := .pointer (some ⟨b8, held[i].toNat, none⟩)) (by congr 3; omega)) ?_
  refine jl_s rfl (hBump rfl rfl rfl rfl (by omega)) ?_; rintro _ _ _ ⟨rfl, rfl⟩
  refine jl_nil ?_
  refine jB ?_
  refine jT ?_
  refine jc_region ?_
  refine jp rfl ?_
  refine ja rfl (by omega) ?_
  refine jp rfl ?_
  refine jl_nil ?_
  refine j_again (i + 1, bump f held[i].toNat) (Keep.cons (t := 1) rfl (Keep.cons (t := 2) rfl (Keep.cons (t := 3) rfl (Keep.cons (t := 7) rfl (Keep.cons (t := 8) rfl (Keep.cons (t := 9) rfl Keep.nil)))))) ⟨by show i + 1 ≤ held.length; omega, bump_cnt hi1 (by omega) (A := fun _ => 0) (B := fun _ => 0) hf⟩ (by show held.length - (i + 1) < held.length - i; omega) (fun _ h => h)
 ·refine jl_nil ?_
  refine jT ?_
  refine jc_no rfl ?_
  refine jc_exit ?_
  refine jTx ?_
  refine jTx ?_
  refine jBx ?_
  refine jT ?_
  refine jc_seq ?_
  refine jc_seq ?_
  refine jc_region ?_
  refine jp rfl ?_
  refine jl_nil ?_
  refine jT ?_
  refine jc_block ?_
  refine jc_loopK (α := Nat × List Nat × (Nat → Nat) × Mem) (fun x => [(1, .slice a1 roots.length c1), (3, .pointer (some ⟨b3, 0, none⟩)), (7, .pointer (some ⟨b7, 0, none⟩)), (8, .pointer (some ⟨b8, 0, none⟩)), (10, .int .i64 (x.1 : Int))]) (fun x => x.2.2.2) (fun x => [(b8, .cells (icl x.2.2.1).toArray 106 (0, 0)), (b7, .cells ((bst x.2.1).map Value.bool).toArray 105 (0, 0)), (b3, .cells [bv, wv, .slice (some ⟨nb, no, none⟩) s.now.length nc, lw].toArray TSt (0, 0))]) (fun x => x.1 ≤ roots.length ∧ MLe M x.2.2.2 ∧ x.2.1.Nodup ∧ (∀ n, n ∈ x.2.1 ↔ ∃ r ∈ roots.take x.1, Rch s r.toNat n) ∧ ∀ k : Nat, x.2.2.1 k = held.count (k : Int) + (roots.take x.1).count (k : Int) + wS s x.2.1 k) (fun x => roots.length - x.1)
   (0, [], f, M) (Keep.cons (t := 1) rfl (Keep.cons (t := 3) rfl (Keep.cons (t := 7) rfl (Keep.cons (t := 8) rfl (Keep.cons (t := 10) rfl Keep.nil))))) ⟨Nat.zero_le _, MLe.refl _, List.nodup_nil, fun n => by simp, fun k => by have e := hf k; rw [List.take_of_length_le (by omega)] at e; show f k = _; rw [e]; simp [wS]⟩ (fun _ h => h) ?_
  rintro ⟨i, S, f, Mi⟩ ⟨hi, hMi, hSn, hSm, hf⟩
  try dsimp only at hi hMi hSn hSm hf ⊢
  have hS256 : ∀ k ∈ S, k < 256 := fun k hk => by
   obtain ⟨r, hr, hrc⟩ := (hSm k).1 hk
   obtain ⟨_, q8, q256, _, ql, qx, qn, qt, _⟩ := fchk_ok (hroots r (List.mem_of_mem_take hr))
   exact (Rch.tree (by omega) qn qt hrc).1.2
  refine jc_seq ?_
  refine jc_seq ?_
  refine jc_region ?_
  iterate 2 refine jp rfl ?_
  refine jl_q rfl rfl (qLen rfl rfl rfl) ?_
  refine js rfl (fun h36 => ?_) (fun h36 => ?_)
  ·refine jl_nil ?_
   refine jT ?_
   refine jc_yes rfl ?_
   refine jc_skip ?_
   refine jT ?_
   refine jc_seq ?_
   refine jc_block ?_
   refine jc_seq ?_
   refine jc_region ?_
   iterate 2 refine jp rfl ?_
   have hi1 : i < roots.length := idx_lt3 h36
   obtain ⟨rb, ro, e0, hrx⟩ := hs1.open (by intro e; have := congrArg List.length e; rw [List.length_map, List.length_nil] at this; omega)
   subst e0
   have hfo := hroots _ (List.getElem_mem hi1)
   obtain ⟨_, hr8, hr256, hrn, lev0, xs0, hnd0, htr0, _⟩ := fchk_ok hfo
   have hfk := hf roots[i].toNat
   have hcl1 : (roots.take i).count ((roots[i].toNat : Nat) : Int) ≤ (roots.take i).length := List.count_le_length
   have hcl2 : (held).count ((roots[i].toNat : Nat) : Int) ≤ (held).length := List.count_le_length
   have hcl3 := wS_le5 s ((roots[i].toNat : Nat) : Int) S
   have hcl4 := nat_small hSn hS256
   rw [List.length_take] at hcl1
   refine jl_q rfl rfl (qEq (qIdxS rfl rfl rfl rfl (by omega)) (v' := .pointer (some ⟨rb, ro + i, none⟩)) (by congr 3; omega)) ?_
   refine jl_q rfl rfl (qLd (v := .int .i64 roots[i]) rfl rfl rfl rfl ((((hrx i _ (by simp [encZ])).mono hMi).cj _))) ?_
   refine jl_q rfl rfl (qEq (qIdxA rfl rfl rfl rfl (by omega)) (v' := .pointer (some ⟨b8, roots[i].toNat, none⟩)) (by congr 3; omega)) ?_
   refine jl_q rfl rfl (qLd (v := .int .i64 (f roots[i].toNat : Int)) rfl rfl rfl rfl (icj (by omega))) ?_
   refine ja rfl (by omega) ?_
   refine jl_q rfl rfl (qEq (qIdxA rfl rfl rfl rfl (by omega)) (v' := .pointer (some ⟨b8, roots[i].toNat, none⟩)) (by congr 3; omega)) ?_
   refine jl_s rfl (hBump rfl rfl rfl rfl (by omega)) ?_; rintro _ _ _ ⟨rfl, rfl⟩
   refine jl_nil ?_
   refine jT ?_
   refine jc_seq ?_
   refine jc_draw [(0, true), (1, true), (2, true), (3, true), (4, true), (5, false), (6, true), (7, true), (8, true), (9, true), (10, true), (11, true), (12, true)] _ (by kernel_rfl) (by kernel_rfl) (by kernel_rfl) rfl (fun _ h => h) ?_
   refine jd_q rfl rfl rfl (qLdL rfl rfl rfl rfl rfl) ?_
   iterate 2 refine dp rfl rfl ?_
   refine jd_q rfl rfl rfl (qEq (qIdxS rfl rfl rfl rfl (by omega)) (v' := .pointer (some ⟨rb, ro + i, none⟩)) (by congr 3; omega)) ?_
   refine jd_q rfl rfl rfl (qLd (v := .int .i64 roots[i]) rfl rfl rfl rfl ((((hrx i _ (by simp [encZ])).mono hMi).cj _))) ?_
   refine jd_h rfl rfl rfl (hCall rfl rfl rfl rfl rfl (by kernel_rfl) (nodes_spec s _ roots[i] Mi (hST.mono hMi))) ?_; rintro _ Mn _ ⟨hMn, _, rfl, ⟨hnp, rfl⟩⟩
   refine ⟨_, _, MLe.refl _, hMn, fun _ h => h, by simp, ?_⟩
   simp only [List.nil_append]
   obtain ⟨a3, n3, c3, a4, n4, c4, rfl, hn3, hn4, hyes, _⟩ := hnp.form
   obtain ⟨ns, rs, rfl, rfl, hs3, hs4, hna⟩ := hyes hfo
   have hnl := hna.nlenE hfo
   iterate 7 refine dp rfl rfl ?_
   refine jd_nil ?_
   refine jPn ?_
   refine jT ?_
   refine jc_seq ?_
   refine jc_seq ?_
   refine jc_region ?_
   refine jp rfl ?_
   refine jf rfl (decide_eq_false (by omega)) ?_
   refine jl_nil ?_
   refine jT ?_
   refine jc_no rfl ?_
   refine jc_skip ?_
   refine jT ?_
   refine jc_seq ?_
   refine jc_region ?_
   refine jp rfl ?_
   refine jl_nil ?_
   refine jT ?_
   refine jc_block ?_
   have hf1 := bump_cnt hi1 (by omega) (A := fun k => held.count (k : Int)) (B := fun k => wS s S k) hf
   generalize bump f roots[i].toNat = f1 at hf1
   refine jc_loopK (α := Nat × List Nat × (Nat → Nat) × Mem) (fun x => [(1, .slice (some ⟨rb, ro, none⟩) roots.length c1), (3, .pointer (some ⟨b3, 0, none⟩)), (7, .pointer (some ⟨b7, 0, none⟩)), (8, .pointer (some ⟨b8, 0, none⟩)), (10, .int .i64 (i : Int)), (11, .slice a3 ns.length c3), (14, .int .i64 (x.1 : Int))]) (fun x => x.2.2.2) (fun x => [(b8, .cells (icl x.2.2.1).toArray 106 (0, 0)), (b7, .cells ((bst x.2.1).map Value.bool).toArray 105 (0, 0)), (b3, .cells [bv, wv, .slice (some ⟨nb, no, none⟩) s.now.length nc, lw].toArray TSt (0, 0))]) (fun x => x.1 ≤ ns.length ∧ MLe Mn x.2.2.2 ∧ x.2.1.Nodup ∧ (∀ n, n ∈ x.2.1 ↔ (∃ r ∈ roots.take i, Rch s r.toNat n) ∨ (n : Int) ∈ ns.take x.1) ∧ ∀ k : Nat, x.2.2.1 k = held.count (k : Int) + (roots.take (i + 1)).count (k : Int) + wS s x.2.1 k) (fun x => ns.length - x.1)
    (0, S, f1, Mn) (Keep.cons (t := 1) rfl (Keep.cons (t := 3) rfl (Keep.cons (t := 7) rfl (Keep.cons (t := 8) rfl (Keep.cons (t := 10) rfl (Keep.cons (t := 11) rfl (Keep.cons (t := 14) rfl Keep.nil))))))) ⟨Nat.zero_le _, MLe.refl _, hSn, fun n => by rw [hSm n]; simp, hf1⟩ (fun _ h => h) ?_
   rintro ⟨j, S, f, Mk⟩ ⟨hj, hMk, hSn, hSm, hf⟩
   try dsimp only at hj hMk hSn hSm hf ⊢
   have hS256 : ∀ k ∈ S, k < 256 := fun k hk => by
    rcases (hSm k).1 hk with ⟨r, hr, hrc⟩ | hk2
    ·obtain ⟨_, q8, q256, _, ql, qx, qn, qt, _⟩ := fchk_ok (hroots r (List.mem_of_mem_take hr))
     exact (Rch.tree (by omega) qn qt hrc).1.2
    ·obtain ⟨n2, e2, hrc⟩ := (hna.is _).1 (List.mem_of_mem_take hk2)
     have := (Rch.tree (by omega) hnd0 htr0 hrc).1.2
     omega
   refine jc_seq ?_
   refine jc_seq ?_
   refine jc_region ?_
   iterate 2 refine jp rfl ?_
   refine jl_q rfl rfl (qLen rfl rfl rfl) ?_
   refine js rfl (fun h62 => ?_) (fun h62 => ?_)
   ·refine jl_nil ?_
    refine jT ?_
    refine jc_yes rfl ?_
    refine jc_skip ?_
    refine jT ?_
    refine jc_seq ?_
    refine jc_block ?_
    refine jc_seq ?_
    refine jc_drawA ([(b3, .cells [bv, wv, .slice (some ⟨nb, no, none⟩) s.now.length nc, lw].toArray TSt (0, 0))]) (by kernel_rfl) (by simp) ?_
    refine ja_q (i := 0) rfl (by kernel_rfl) (by kernel_rfl) rfl rfl (qLdL rfl rfl rfl rfl rfl) ?_
    refine ja_p (i := 1) rfl (by kernel_rfl) (by kernel_rfl) rfl ?_
    refine ja_p (i := 2) rfl (by kernel_rfl) (by kernel_rfl) rfl ?_
    have hj1 : j < ns.length := idx_lt3 h62
    obtain ⟨sb, so, e0, hnx⟩ := hs3.open (by intro e; have := congrArg List.length e; rw [List.length_map, List.length_nil] at this; omega)
    subst e0
    obtain ⟨hask, lev, xs, hndx, hrx2⟩ := hna.readE hfo (List.getElem_mem hj1)
    have hno := ndAt_ok hndx
    have hlen := hno.len
    have hlv := hno.lev
    obtain ⟨n, hn1, hn2⟩ := (hna.is _).1 (List.getElem_mem hj1)
    have hnb := (Rch.tree (by omega) hnd0 htr0 hn2).1
    have hnn : ns[j].toNat = n := by omega
    refine ja_q (i := 3) rfl (by kernel_rfl) (by kernel_rfl) rfl rfl (qEq (qIdxS rfl rfl rfl rfl (by omega)) (v' := .pointer (some ⟨sb, so + j, none⟩)) (by congr 3; omega)) ?_
    refine ja_q (i := 4) rfl (by kernel_rfl) (by kernel_rfl) rfl rfl (qLd (v := .int .i64 ns[j]) rfl rfl rfl rfl ((((hnx j _ (by simp [encZ])).mono hMk).cj _))) ?_
    refine ja_merge (α := Mem × Option Addr × Nat × List (It × Value) × Nat) (fun y => MLe Mk y.1 ∧ xs.length ≤ y.2.2.1 ∧ SM y.1 y.2.1 (y.2.2.2.1.flatMap icell) ∧ y.2.2.2.1.map (·.1) = xs ∧ ∀ p ∈ y.2.2.2.1, BS y.1 p.2 p.1.val) (fun y => [(1, .slice (some ⟨rb, ro, none⟩) roots.length c1), (3, .pointer (some ⟨b3, 0, none⟩)), (7, .pointer (some ⟨b7, 0, none⟩)), (8, .pointer (some ⟨b8, 0, none⟩)), (10, .int .i64 (i : Int)), (11, .slice (some ⟨sb, so, none⟩) ns.length c3), (14, .int .i64 (j : Int)), (15, .pointer (some ⟨y.2.2.2.2, 0, none⟩)), (72, .agg #[.int .i64 (lev : Int), .slice y.2.1 xs.length y.2.2.1]), (73, .int .i64 0)]) (fun y => y.1) (fun y => (y.2.2.2.2, .cells [.int .i64 0, .slice none 0 0].toArray 73 (0, 0)) :: [(b8, .cells (icl f).toArray 106 (0, 0)), (b7, .cells ((bst S).map Value.bool).toArray 105 (0, 0)), (b3, .cells [bv, wv, .slice (some ⟨nb, no, none⟩) s.now.length nc, lw].toArray TSt (0, 0))]) 2 #[true, true, true, true, true, true, true, true, true, true, false, false] ?_ (fun rest => ?_)
    ·rintro ⟨Mf, ua, uc, up, b15⟩ ⟨hMf, huc, hus, hup, hub⟩
     try dsimp only at hMf huc hus hup hub ⊢
     refine ja_one (i := 10) (by kernel_rfl) ?_
     refine js_s rfl rfl (hStoreL rfl rfl rfl rfl rfl rfl rfl rfl) ?_; rintro _ _ _ ⟨rfl, rfl⟩
     refine ja_grow (hMf) (by simp) ?_
     refine ja_p (i := 11) rfl (by kernel_rfl) (by kernel_rfl) rfl ?_
     refine ja_end (by kernel_rfl) ?_
     refine jPn ?_
     refine jT ?_
     refine jc_seq ?_
     refine jc_seq ?_
     refine jc_region ?_
     refine jp rfl ?_
     refine jf rfl (decide_eq_false (by omega)) ?_
     refine jl_nil ?_
     refine jT ?_
     refine jc_no rfl ?_
     refine jc_skip ?_
     refine jT ?_
     refine jc_seq ?_
     refine jc_seq ?_
     refine jc_region ?_
     refine jp rfl ?_
     refine jl_nil ?_
     refine jT ?_
     refine jc_block ?_
     refine jc_loopK (α := Nat × (Nat → Nat)) (fun x => [(1, .slice (some ⟨rb, ro, none⟩) roots.length c1), (3, .pointer (some ⟨b3, 0, none⟩)), (7, .pointer (some ⟨b7, 0, none⟩)), (8, .pointer (some ⟨b8, 0, none⟩)), (10, .int .i64 (i : Int)), (11, .slice (some ⟨sb, so, none⟩) ns.length c3), (14, .int .i64 (j : Int)), (15, .pointer (some ⟨b15, 0, none⟩)), (17, .int .i64 (x.1 : Int))]) (fun _ => Mf) (fun x => (b15, .cells [.int .i64 (lev : Int), .slice ua xs.length uc].toArray 73 (0, 0)) :: [(b8, .cells (icl x.2).toArray 106 (0, 0)), (b7, .cells ((bst S).map Value.bool).toArray 105 (0, 0)), (b3, .cells [bv, wv, .slice (some ⟨nb, no, none⟩) s.now.length nc, lw].toArray TSt (0, 0))]) (fun x => x.1 ≤ xs.length ∧ (ns[j].toNat ∈ S → x.1 = 0) ∧ ∀ k : Nat, x.2 k = held.count (k : Int) + (roots.take (i + 1)).count (k : Int) + wS s S k + ((xs.take x.1).map (·.ref)).count (k : Int)) (fun x => xs.length - x.1)
      (0, f) (Keep.cons (t := 1) rfl (Keep.cons (t := 3) rfl (Keep.cons (t := 7) rfl (Keep.cons (t := 8) rfl (Keep.cons (t := 10) rfl (Keep.cons (t := 11) rfl (Keep.cons (t := 14) rfl (Keep.cons (t := 15) rfl (Keep.cons (t := 17) rfl Keep.nil))))))))) ⟨Nat.zero_le _, fun _ => rfl, fun k => by show f k = _; rw [hf k]; simp⟩ (fun _ h => h) ?_
     rintro ⟨m, f⟩ ⟨hm, h0, hf⟩
     try dsimp only at hm h0 hf ⊢
     refine jc_seq ?_
     refine jc_seq ?_
     refine jc_region ?_
     refine jp rfl ?_
     refine jl_q rfl rfl (qFieldAddr rfl rfl rfl rfl rfl) ?_
     refine jl_q rfl rfl (qLd rfl rfl rfl rfl (CJ.loc rfl)) ?_
     refine jl_q rfl rfl (qLen rfl rfl rfl) ?_
     refine js rfl (fun h80 => ?_) (fun h80 => ?_)
     ·iterate 3 refine jp rfl ?_
      refine jl_q rfl rfl (qEq (qIdxS rfl rfl rfl rfl (by omega)) (v' := .pointer (some ⟨sb, so + j, none⟩)) (by congr 3; omega)) ?_
      refine jl_q rfl rfl (qLd (v := .int .i64 ns[j]) rfl rfl rfl rfl ((((hnx j _ (by simp [encZ])).mono (hMk.trans hMf)).cj _))) ?_
      refine jl_q rfl rfl (qEq (qIdxA rfl rfl rfl rfl (by omega)) (v' := .pointer (some ⟨b7, ns[j].toNat, none⟩)) (by congr 3; omega)) ?_
      refine jl_qb rfl rfl (qLd (v := .bool (decide (ns[j].toNat ∈ S))) rfl rfl rfl rfl (bcj (bst_get S (by omega)))) (fun h87 => ?_) (fun h87 => ?_)
      ·iterate 2 refine jp rfl ?_
       refine jl_nil ?_
       refine jT ?_
       refine jc_no rfl ?_
       refine jc_exit ?_
       refine jTx ?_
       refine jTx ?_
       refine jBx ?_
       refine jT ?_
       refine jc_region ?_
       iterate 2 refine jp rfl ?_
       refine jl_q rfl rfl (qEq (qIdxS rfl rfl rfl rfl (by omega)) (v' := .pointer (some ⟨sb, so + j, none⟩)) (by congr 3; omega)) ?_
       refine jl_q rfl rfl (qLd (v := .int .i64 ns[j]) rfl rfl rfl rfl ((((hnx j _ (by simp [encZ])).mono (hMk.trans hMf)).cj _))) ?_
       refine jl_q rfl rfl (qEq (qIdxA rfl rfl rfl rfl (by omega)) (v' := .pointer (some ⟨b7, ns[j].toNat, none⟩)) (by congr 3; omega)) ?_
       refine jl_s rfl (hSetB rfl rfl rfl rfl (by rw [bst_len]; omega)) ?_; rintro _ _ _ ⟨rfl, rfl⟩
       refine jl_nil ?_
       refine jB ?_
       refine jT ?_
       refine jc_region ?_
       refine jp rfl ?_
       refine ja rfl (by omega) ?_
       refine jp rfl ?_
       refine jl_nil ?_
       obtain ⟨S2, t1, t2, t3⟩ := met_step hndx hSn h0 (fun hx => absurd (of_decide_eq_true h87) hx) hf
       rw [@bst_set S S2 _ (by omega) t2]
       refine j_again (j + 1, S2, f, Mf) (Keep.cons (t := 1) rfl (Keep.cons (t := 3) rfl (Keep.cons (t := 7) rfl (Keep.cons (t := 8) rfl (Keep.cons (t := 10) rfl (Keep.cons (t := 11) rfl (Keep.cons (t := 14) rfl Keep.nil))))))) ⟨by show j + 1 ≤ ns.length; omega, hMk.trans hMf, t1, fun x => ?_, t3⟩ (by show ns.length - (j + 1) < ns.length - j; omega) (fun _ h => h.fewer (by simp))
       show x ∈ S2 ↔ _ ∨ (x : Int) ∈ ns.take (j + 1)
       rw [t2 x, hSm x, show ns.take (j + 1) = ns.take j ++ [ns[j]] from List.take_succ_eq_append_getElem hj1, List.mem_append, List.mem_singleton, or_assoc]
       exact or_congr Iff.rfl (or_congr Iff.rfl ⟨fun e => by omega, fun e => by omega⟩)
      ·iterate 2 refine jp rfl ?_
       refine jl_nil ?_
       refine jT ?_
       refine jc_yes rfl ?_
       refine jc_skip ?_
       refine jT ?_
       refine jc_seq ?_
       refine jc_block ?_
       refine jc_region ?_
       refine jl_q rfl rfl (qFieldAddr rfl rfl rfl rfl rfl) ?_
       refine jl_q rfl rfl (qLd rfl rfl rfl rfl (CJ.loc rfl)) ?_
       refine jp rfl ?_
       have hk1 : m < xs.length := idx_lt3 h80
       obtain ⟨ub, uo, e0, hux⟩ := hus.open (by intro e; have := congrArg List.length e; rw [flat_len icell 5 icell_len, List.length_nil] at this; have h2 := congrArg List.length hup; rw [List.length_map] at h2; omega)
       subst e0
       obtain ⟨va, vc, hcl, hvc, hvs⟩ := items_get hux hup hub hk1
       have hxr := hno.ref xs[m] (List.getElem_mem hk1)
       have hfk := hf xs[m].ref.toNat
       have hcl1 : (roots.take i).count ((xs[m].ref.toNat : Nat) : Int) ≤ (roots.take i).length := List.count_le_length
       have hcl2 : (held).count ((xs[m].ref.toNat : Nat) : Int) ≤ (held).length := List.count_le_length
       have hcl3 := wS_le5 s ((xs[m].ref.toNat : Nat) : Int) S
       have hcl4 := nat_small hSn hS256
       rw [List.length_take] at hcl1
       have hcl5 : ((xs.take m).map (·.ref)).count ((xs[m].ref.toNat : Nat) : Int) ≤ ((xs.take m).map (·.ref)).length := List.count_le_length
       rw [List.length_map, List.length_take] at hcl5
       have hcl6 : (roots.take (i + 1)).count ((xs[m].ref.toNat : Nat) : Int) ≤ (roots.take (i + 1)).length := List.count_le_length
       rw [List.length_take] at hcl6
       refine jl_q rfl rfl (qIdxS rfl rfl rfl rfl (by omega)) ?_
       refine jl_q rfl rfl (qFieldAddr rfl rfl rfl rfl rfl) ?_
       refine jl_q rfl rfl (qLd rfl rfl rfl rfl ((hcl 3 _ rfl).cj _)) ?_
       refine jl_q rfl rfl (qEq (qIdxA rfl rfl rfl rfl (by omega)) (v' := .pointer (some ⟨b8, xs[m].ref.toNat, none⟩)) (by congr 3; omega)) ?_
       refine jl_q rfl rfl (qLd (v := .int .i64 (f xs[m].ref.toNat : Int)) rfl rfl rfl rfl (icj (by omega))) ?_
       refine ja rfl (by omega) ?_
       refine jl_q rfl rfl (qEq (qIdxA rfl rfl rfl rfl (by omega)) (v' := .pointer (some ⟨b8, xs[m].ref.toNat, none⟩)) (by congr 3; omega)) ?_
       refine jl_s rfl (hBump rfl rfl rfl rfl (by omega)) ?_; rintro _ _ _ ⟨rfl, rfl⟩
       refine jl_nil ?_
       refine jB ?_
       refine jT ?_
       refine jc_region ?_
       refine jp rfl ?_
       refine ja rfl (by omega) ?_
       refine jp rfl ?_
       refine jl_nil ?_
       refine j_again (m + 1, bump f xs[m].ref.toNat) (Keep.cons (t := 1) rfl (Keep.cons (t := 3) rfl (Keep.cons (t := 7) rfl (Keep.cons (t := 8) rfl (Keep.cons (t := 10) rfl (Keep.cons (t := 11) rfl (Keep.cons (t := 14) rfl (Keep.cons (t := 15) rfl (Keep.cons (t := 17) rfl Keep.nil))))))))) ⟨by show m + 1 ≤ xs.length; omega, fun hx => absurd hx (of_decide_eq_false h87), bump_ref hk1 (by omega) (A := fun k => held.count (k : Int) + (roots.take (i + 1)).count (k : Int) + wS s S k) hf⟩ (by show xs.length - (m + 1) < xs.length - m; omega) (fun _ h => h)
     ·iterate 9 refine jp rfl ?_
      refine jl_nil ?_
      refine jT ?_
      refine jc_no rfl ?_
      refine jc_exit ?_
      refine jTx ?_
      refine jTx ?_
      refine jBx ?_
      refine jT ?_
      refine jc_region ?_
      iterate 2 refine jp rfl ?_
      refine jl_q rfl rfl (qEq (qIdxS rfl rfl rfl rfl (by omega)) (v' := .pointer (some ⟨sb, so + j, none⟩)) (by congr 3; omega)) ?_
      refine jl_q rfl rfl (qLd (v := .int .i64 ns[j]) rfl rfl rfl rfl ((((hnx j _ (by simp [encZ])).mono (hMk.trans hMf)).cj _))) ?_
      refine jl_q rfl rfl (qEq (qIdxA rfl rfl rfl rfl (by omega)) (v' := .pointer (some ⟨b7, ns[j].toNat, none⟩)) (by congr 3; omega)) ?_
      refine jl_s rfl (hSetB rfl rfl rfl rfl (by rw [bst_len]; omega)) ?_; rintro _ _ _ ⟨rfl, rfl⟩
      refine jl_nil ?_
      refine jB ?_
      refine jT ?_
      refine jc_region ?_
      refine jp rfl ?_
      refine ja rfl (by omega) ?_
      refine jp rfl ?_
      refine jl_nil ?_
      obtain ⟨S2, t1, t2, t3⟩ := met_step hndx hSn h0 (fun _ => by omega) hf
      rw [@bst_set S S2 _ (by omega) t2]
      refine j_again (j + 1, S2, f, Mf) (Keep.cons (t := 1) rfl (Keep.cons (t := 3) rfl (Keep.cons (t := 7) rfl (Keep.cons (t := 8) rfl (Keep.cons (t := 10) rfl (Keep.cons (t := 11) rfl (Keep.cons (t := 14) rfl Keep.nil))))))) ⟨by show j + 1 ≤ ns.length; omega, hMk.trans hMf, t1, fun x => ?_, t3⟩ (by show ns.length - (j + 1) < ns.length - j; omega) (fun _ h => h.fewer (by simp))
      show x ∈ S2 ↔ _ ∨ (x : Int) ∈ ns.take (j + 1)
      rw [t2 x, hSm x, show ns.take (j + 1) = ns.take j ++ [ns[j]] from List.take_succ_eq_append_getElem hj1, List.mem_append, List.mem_singleton, or_assoc]
      exact or_congr Iff.rfl (or_congr Iff.rfl ⟨fun e => by omega, fun e => by omega⟩)
    refine ja_fork [5, 9] (by kernel_rfl) rfl ⟨?_, ?_, trivial⟩
    ·refine js_h rfl rfl rfl (hCall rfl rfl rfl rfl rfl (by kernel_rfl) (rnode_spec s _ ns[j] Mk (hST.mono (hMi.trans (hMn.trans hMk))))) ?_; rintro _ M7 _ ⟨hM5, R7, rfl, hrn, rfl⟩
     refine ja_grow hM5 (by simp) ?_
     simp only [List.nil_append]
     obtain ⟨sl, rfl, hns7⟩ := hrn.nodeE hask hndx
     obtain ⟨ua, uc, up, rfl, huc, hus, hup, hub⟩ := hns7
     refine ja_p (i := 6) rfl (by kernel_rfl) (by kernel_rfl) rfl ?_
     refine ja_p (i := 7) rfl (by kernel_rfl) (by kernel_rfl) rfl ?_
     refine ja_p (i := 8) rfl (by kernel_rfl) (by kernel_rfl) rfl ?_
     refine ja_fork [9] (by kernel_rfl) rfl ⟨?_, trivial⟩
     ·refine js_h rfl rfl rfl (hAlloc rfl rfl) ?_; rintro _ _ _ ⟨b15, rfl, rfl, rfl⟩
      refine ja_grow (hM5) (by simp) ?_
      refine ja_cast (listed' := #[true, true, true, true, true, true, true, true, true, true, false, false]) (by kernel_rfl) (ja_keep (Keep.cons (t := 1) rfl (Keep.cons (t := 3) rfl (Keep.cons (t := 7) rfl (Keep.cons (t := 8) rfl (Keep.cons (t := 10) rfl (Keep.cons (t := 11) rfl (Keep.cons (t := 14) rfl (Keep.cons (t := 15) rfl (Keep.cons (t := 72) rfl (Keep.cons (t := 73) rfl Keep.nil)))))))))) ?_)
      refine ja_weak (M2 := M7) (L2 := (b15, .cells [.int .i64 0, .slice none 0 0].toArray 73 (0, 0)) :: [(b8, .cells (icl f).toArray 106 (0, 0)), (b7, .cells ((bst S).map Value.bool).toArray 105 (0, 0)), (b3, .cells [bv, wv, .slice (some ⟨nb, no, none⟩) s.now.length nc, lw].toArray TSt (0, 0))]) (fun w h => h.perm (Rm.perm (g := b15))) hM5 (by simp) ?_
      exact rest (M7, ua, uc, up, b15) ⟨hM5, huc, hus, hup, hub⟩
    ·refine js_h rfl rfl rfl (hAlloc rfl rfl) ?_; rintro _ _ _ ⟨b15, rfl, rfl, rfl⟩
     refine ja_grow (MLe.refl _) (by simp) ?_
     refine ja_fork [5] (by kernel_rfl) rfl ⟨?_, trivial⟩
     ·refine js_h rfl rfl rfl (hCall rfl rfl rfl rfl rfl (by kernel_rfl) (rnode_spec s _ ns[j] Mk (hST.mono (hMi.trans (hMn.trans hMk))))) ?_; rintro _ M7 _ ⟨hM5, R7, rfl, hrn, rfl⟩
      refine ja_grow hM5 (by simp) ?_
      simp only [List.nil_append]
      obtain ⟨sl, rfl, hns7⟩ := hrn.nodeE hask hndx
      obtain ⟨ua, uc, up, rfl, huc, hus, hup, hub⟩ := hns7
      refine ja_p (i := 6) rfl (by kernel_rfl) (by kernel_rfl) rfl ?_
      refine ja_p (i := 7) rfl (by kernel_rfl) (by kernel_rfl) rfl ?_
      refine ja_p (i := 8) rfl (by kernel_rfl) (by kernel_rfl) rfl ?_
      refine ja_cast (listed' := #[true, true, true, true, true, true, true, true, true, true, false, false]) (by kernel_rfl) (ja_keep (Keep.cons (t := 1) rfl (Keep.cons (t := 3) rfl (Keep.cons (t := 7) rfl (Keep.cons (t := 8) rfl (Keep.cons (t := 10) rfl (Keep.cons (t := 11) rfl (Keep.cons (t := 14) rfl (Keep.cons (t := 15) rfl (Keep.cons (t := 72) rfl (Keep.cons (t := 73) rfl Keep.nil)))))))))) ?_)
      refine ja_weak (M2 := M7) (L2 := (b15, .cells [.int .i64 0, .slice none 0 0].toArray 73 (0, 0)) :: [(b8, .cells (icl f).toArray 106 (0, 0)), (b7, .cells ((bst S).map Value.bool).toArray 105 (0, 0)), (b3, .cells [bv, wv, .slice (some ⟨nb, no, none⟩) s.now.length nc, lw].toArray TSt (0, 0))]) (fun w h => h.perm (Rm.perm (g := b15))) hM5 (by simp) ?_
      exact rest (M7, ua, uc, up, b15) ⟨hM5, huc, hus, hup, hub⟩
   ·refine jl_nil ?_
    refine jT ?_
    refine jc_no rfl ?_
    refine jc_exit ?_
    refine jTx ?_
    refine jTx ?_
    refine jBx ?_
    refine jB ?_
    refine jT ?_
    refine jc_region ?_
    refine jp rfl ?_
    refine ja rfl (by omega) ?_
    refine jp rfl ?_
    refine jl_nil ?_
    refine j_again (i + 1, S, f, Mk) (Keep.cons (t := 1) rfl (Keep.cons (t := 3) rfl (Keep.cons (t := 7) rfl (Keep.cons (t := 8) rfl (Keep.cons (t := 10) rfl Keep.nil))))) ⟨by show i + 1 ≤ roots.length; omega, hMi.trans (hMn.trans hMk), hSn, fun n => ?_, hf⟩ (by show roots.length - (i + 1) < roots.length - i; omega) (fun _ h => h)
    show n ∈ S ↔ ∃ r ∈ roots.take (i + 1), _
    rw [hSm n, List.take_of_length_le (show ns.length ≤ j by omega), hna.is, show roots.take (i + 1) = roots.take i ++ [roots[i]] from List.take_succ_eq_append_getElem hi1]
    constructor
    ·rintro (⟨r, h1, h2⟩ | ⟨n2, h1, h2⟩)
     ·exact ⟨r, List.mem_append.2 (.inl h1), h2⟩
     ·exact ⟨roots[i], List.mem_append.2 (.inr (List.mem_singleton.2 rfl)), by rw [show n = n2 by omega]; exact h2⟩
    ·rintro ⟨r, h1, h2⟩
     rcases List.mem_append.1 h1 with h1 | h1
     ·exact .inl ⟨r, h1, h2⟩
     ·rw [List.mem_singleton.1 h1] at h2; exact .inr ⟨n, rfl, h2⟩
  ·refine jl_nil ?_
   refine jT ?_
   refine jc_no rfl ?_
   refine jc_exit ?_
   refine jTx ?_
   refine jTx ?_
   refine jBx ?_
   refine jT ?_
   refine jc_seq ?_
   refine jc_seq ?_
   refine jc_region ?_
   refine jp rfl ?_
   refine jl_nil ?_
   refine jT ?_
   refine jc_block ?_
   rw [List.take_of_length_le (show roots.length ≤ i by omega)] at hSm hf
   refine jc_loopK (α := Nat) (fun x => [(3, .pointer (some ⟨b3, 0, none⟩)), (8, .pointer (some ⟨b8, 0, none⟩)), (18, .int .i64 (x : Int))]) (fun _ => Mi) (fun x => [(b8, .cells (icl f).toArray 106 (0, 0)), (b7, .cells ((bst S).map Value.bool).toArray 105 (0, 0)), (b3, .cells [bv, wv, .slice (some ⟨nb, no, none⟩) s.now.length nc, lw].toArray TSt (0, 0))]) (fun x => 1 ≤ x ∧ x ≤ 256 ∧ ∀ k, 1 ≤ k → k < x → f k ≤ (s.now.getD k 0).toNat) (fun x => 256 - x)
    1 (Keep.cons (t := 3) rfl (Keep.cons (t := 8) rfl (Keep.cons (t := 18) rfl Keep.nil))) ⟨Nat.le_refl _, by decide, fun k h1 h2 => by omega⟩ (fun _ h => h) ?_
   rintro k ⟨hk0, hk256, hall⟩
   try dsimp only at hk0 hk256 hall ⊢
   have hMk := hMi
   refine jc_seq ?_
   refine jc_seq ?_
   refine jc_region ?_
   refine jp rfl ?_
   refine js rfl (fun h108 => ?_) (fun h108 => ?_)
   ·refine jl_nil ?_
    refine jT ?_
    refine jc_yes rfl ?_
    refine jc_skip ?_
    refine jT ?_
    refine jc_seq ?_
    refine jc_block ?_
    refine jc_seq ?_
    refine jc_draw [(0, true), (1, true), (2, true), (3, true), (4, true), (5, true), (6, true), (7, true), (8, true), (9, true)] _ (by kernel_rfl) (by kernel_rfl) (by kernel_rfl) rfl (fun _ h => h) ?_
    refine dp rfl rfl ?_
    have hk1 : k < 256 := by omega
    have hfk := hf k
    have hcl1 : (roots.take i).count ((k : Nat) : Int) ≤ (roots.take i).length := List.count_le_length
    have hcl2 : (held).count ((k : Nat) : Int) ≤ (held).length := List.count_le_length
    have hcl3 := wS_le5 s ((k : Nat) : Int) S
    have hcl4 := nat_small hSn hS256
    rw [List.length_take] at hcl1
    refine jd_q rfl rfl rfl (qEq (qIdxA rfl rfl rfl rfl (by omega)) (v' := .pointer (some ⟨b8, k, none⟩)) (by congr 3; omega)) ?_
    refine jd_q rfl rfl rfl (qLd (v := .int .i64 (f k : Int)) rfl rfl rfl rfl (icj (by omega))) ?_
    refine jd_q rfl rfl rfl (qFieldAddr rfl rfl rfl rfl rfl) ?_
    refine jd_q rfl rfl rfl (qLd rfl rfl rfl rfl (CJ.loc rfl)) ?_
    refine dp rfl rfl ?_
    refine jd_q rfl rfl rfl (qIdxS rfl rfl rfl rfl (by omega)) ?_
    have hbl := (s.now.getD k 0).toNat_lt
    refine jd_q rfl rfl rfl (qLd rfl rfl rfl rfl (((hnow _ _ (by rw [Nat.mul_one]; exact bget (j := k) (by omega))).mono hMk).cj _)) ?_
    refine jd_q rfl rfl rfl (qConv64 rfl rfl rfl (by omega)) ?_
    refine ds rfl rfl (fun h120 => ?_) (fun h120 => ?_)
    ·refine jd_nil ?_
     refine jPn ?_
     refine jT ?_
     refine jc_yes rfl ?_
     refine jc_seq ?_
     refine jc_region ?_
     refine jp rfl ?_
     refine jl_nil ?_
     refine jT ?_
     refine jc_ret ?_
     refine jBr ?_
     refine jTr ?_
     refine jTr ?_
     refine jBr ?_
     refine jTr ?_
     refine jq_drop (L' := []) (List.nil_sublist _) ?_
     refine jr1 rfl rfl ?_
     refine ⟨⟨_, rfl, ⟨fun h => (by cases h), fun h => ?_⟩⟩, rfl⟩
     exfalso
     have h9 := h.any hSn hSm k (by omega) (by omega)
     rw [List.count_append] at h9
     rw [Int.toNat_natCast] at h9
     omega
    ·refine jd_nil ?_
     refine jPn ?_
     refine jT ?_
     refine jc_no rfl ?_
     refine jc_skip ?_
     refine jB ?_
     refine jT ?_
     refine jc_region ?_
     refine jp rfl ?_
     refine ja rfl (by omega) ?_
     refine jp rfl ?_
     refine jl_nil ?_
     refine j_again (k + 1) (Keep.cons (t := 3) rfl (Keep.cons (t := 8) rfl (Keep.cons (t := 18) rfl Keep.nil))) ⟨by omega, by omega, fun k2 h1 h2 => ?_⟩ (by omega) (fun _ h => h)
     rcases Nat.lt_succ_iff_lt_or_eq.1 h2 with h3 | rfl
     ·exact hall k2 h1 h3
     ·omega
   ·refine jl_nil ?_
    refine jT ?_
    refine jc_no rfl ?_
    refine jc_exit ?_
    refine jTx ?_
    refine jTx ?_
    refine jBx ?_
    refine jT ?_
    refine jc_seq ?_
    refine jc_region ?_
    refine jp rfl ?_
    refine jl_nil ?_
    refine jT ?_
    refine jc_ret ?_
    refine jq_drop (L' := []) (List.nil_sublist _) ?_
    refine jr1 rfl rfl ?_
    refine ⟨⟨_, rfl, ⟨fun _ => ⟨S, hSn, hSm, fun k2 g0 g1 => ?_⟩, fun _ => rfl⟩⟩, rfl⟩
    have h9 := hall k2.toNat (by omega) (by omega)
    rw [hf, show ((k2.toNat : Nat) : Int) = k2 by omega] at h9
    rw [List.count_append]
    omega


theorem penough (s : Sto) (roots held : List Int) (v w w2 : Value) (M : Mem) (h : ST M v s) (hst : stOk s) (h1 : IS M w roots) (hn1 : roots.length ≤ 100000) (hroots : ∀ r ∈ roots, (fchk s r).2 = 0) (h2 : IS M w2 held) (hn2 : held.length ≤ 100000) (hheld : ∀ r ∈ held, 0 ≤ r ∧ r < 256) : SpecL Tryz.prog 20 #[v, w, w2] M [] fun u M' L' => (∃ b, u = .bool b ∧ (b = true ↔ EnP s roots held)) ∧ L' = [] := by
 obtain ⟨b, w5, n, l, rfl, k1, k2, k3, k4⟩ := id h.ex
 obtain ⟨a1, c1, rfl, _, hs1⟩ := h1
 obtain ⟨a2, c2, rfl, _, hs2⟩ := h2
 exact penough_walk s roots held b w5 n l a1 a2 c1 c2 M h hst hs1 hn1 hroots hs2 hn2 hheld

end Go.Proofs.YtckdncmjkloebaaGreat
namespace Go.Proofs.YtckdncmjkloebaaGreat
set_option linter.unusedVariables false
set_option linter.unusedSimpArgs false
open Go.RowKit

/-! ### a made slice, read from then on -/
section
variable {P : Program} {ops : Array Oper} {N : Fs} {F : Fr} {M : Mem} {L : Lc} {o : Oper}
theorem HF.monoM {E : Ent} {K K' : Value → Mem → Lc → Prop} (h : HF P ops N F E M L o K) (hk : ∀ w v M' L', K v M' L' → St E M' L' w → ∃ M2 L2, St E M2 L2 w ∧ K' v M2 L2) : HF P ops N F E M L o K' := fun a w ha hw =>
 ⟨(h a w ha hw).1, fun Q => Oper.wpIn_mono (fun a' w' ⟨v, M', L', e, hs, hK⟩ => by
  obtain ⟨M2, L2, h1, h2⟩ := hk w' v M' L' hK hs
  exact ⟨v, M2, L2, e, h1, h2⟩) ((h a w ha hw).2 Q)⟩
theorem hBuildSliceM {W : World} {M0 : Mem} {t e : TypeId} {n : Nat} {ps : List (Nat × Operand)} {vs : List (Nat × Value)} {sz by_ : Nat} {z cs : List Value} (hg : gd ops F o = some true) (ho : o.op = .buildSlice t n ps.toArray) (hv : evp F ps = some vs) [ht : Und P t (.slice e)] [hl : Lay P e sz by_ z]
  (hc : fillL (fun i => some (i * sz, sz)) (List.replicate n z).flatten vs = some cs) (hsmall : Nat.ble (n * sz) 16777216 = true) (hpos : Nat.blt 0 sz = true) :
  HF P ops N F ⟨W, [], M0⟩ M L o (fun v M' L' => ∃ b, v = .slice (some ⟨b, 0, none⟩) n n ∧ L' = L ∧ MLe M M' ∧ M' b = some (.cells cs.toArray e (0, 0))) :=
 (hBuildSlice (E := ⟨W, [], M0⟩) hg ho hv hc hsmall hpos).monoM fun w v M' L' ⟨b, e1, e2, e3⟩ hs => by
  subst e2; subst e3
  obtain ⟨h1, h2, h3⟩ := St.freeze' (List.not_mem_nil) hs
  exact ⟨_, _, h1, b, e1, rfl, h2, h3⟩
end

/-! ### what is told of a put -/
def heldF (r : Int) : List Int := if 0 < r then [r] else []
theorem enough_two (s : Sto) (roots held : List Int) (v w w2 : Value) (M : Mem) (h : ST M v s) (hst : stOk s) (h1 : IS M w roots) (hn1 : roots.length ≤ 100000) (hroots : ∀ r ∈ roots, (fchk s r).2 = 0) (h2 : IS M w2 held) (hn2 : held.length ≤ 100000) (hheld : ∀ r ∈ held, 0 ≤ r ∧ r < 256) :
  SpecL Tryz.prog 20 #[v, w, w2] M [] fun u M' L' => L' = [] ∧ ((u = .bool true ∧ EnP s roots held) ∨ (u = .bool false ∧ ¬ EnP s roots held)) :=
 (penough s roots held v w w2 M h hst h1 hn1 hroots h2 hn2 hheld).mono fun u M' L' ⟨⟨b, e, hb⟩, hl⟩ => by
  refine ⟨hl, ?_⟩
  cases b
  ·exact .inr ⟨e, fun he => by have := hb.2 he; cases this⟩
  ·exact .inl ⟨e, hb.1 rfl⟩
theorem ref_of_chk {x : It} (h : itChk x = 0) : x.ref = 0 ∨ (8 ≤ x.ref ∧ x.ref < 256) := by
 have := fine_of_chk h
 unfold itChk itBad at h
 split at h
 ·cases h
 ·rename_i hb
  simp at hb
  omega
theorem put_out {s : Sto} {root : Int} {R : List Int} {x : It} (hst : stOk s) (hf : (fchk s root).2 = 0) (hic : itChk x = 0) (hkx : keyOk x.key) (he : EnP s (root :: R) (heldF x.ref)) (hr : ∀ r ∈ R, (fchk s r).2 = 0) :
  (∃ e, putF s root x = .error e ∧ (e = 9 ∨ e = 70 ∨ e = 120)) ∨ ∃ t now S S', putF s root x = .ok (t, now) ∧ PutOk s t root now x R S S' ∧ ∀ r ∈ R, r.toNat ∈ S := by
 obtain ⟨S, h1, h2⟩ := he.en hst fun r hrr => by
  rcases List.mem_cons.1 hrr with rfl | h
  ·exact hf
  ·exact hr r h
 have hx0 := ref_of_chk hic
 have he2 : En s S (x.ref :: root :: R) := h1.less fun k hk => by
  rw [List.count_append]
  unfold heldF
  by_cases h : 0 < x.ref
  ·rw [if_pos h, List.count_cons, List.count_singleton]; omega
  ·rw [if_neg h, List.count_cons]
   have : (x.ref == k) = false := by rw [beq_eq_false_iff_ne]; omega
   rw [this]
   exact Nat.le_refl _
 have hask : putAsk s root x = 0 := by
  unfold putAsk
  rw [if_pos hf, if_pos hic, if_neg]
  rintro ⟨k1, k2⟩
  exact he2.live (k := x.ref) (by omega) (by omega) (by rw [List.count_cons_self]; omega) k2
 rcases put_law hask hkx he2 (h2 root (by simp)) with h | ⟨t, now, S', k1, k2⟩
 ·exact .inl h
 ·exact .inr ⟨t, now, S, S', k1, k2, fun r hrr => h2 r (by simp [hrr])⟩
theorem PutOk.enp {s t : Sto} {root now : Int} {x : It} {R : List Int} {S S' : List Nat} (h : PutOk s t root now x R S S') (hR : ∀ r ∈ R, r.toNat ∈ S) (hr : ∀ r ∈ R, (fchk s r).2 = 0) : EnP t (now :: R) [] :=
 h.en.enp fun r hrr => by
  rcases List.mem_cons.1 hrr with rfl | hm
  ·exact ⟨h.inS, h.chk⟩
  ·obtain ⟨k1, _, k3⟩ := h.other r hm (hR r hm) (hr r hm)
   exact ⟨k3, by rw [k1]; exact hr r hm⟩
theorem allR_pos {s : Sto} {r : Int} (h : (fchk s r).2 = 0) : allR s r = allT s r := if_pos h

/-! ### the items that are wanted -/
/-- what was put together -/
def Wnt (x : It) (l : List It) (i : Nat) (p : Bool) (acc : List It) : Prop :=
 (p = false → (∀ z ∈ l.take i, kless z.key x.key = true) ∧ acc = l.take i) ∧ (p = true → (∃ z ∈ l.take i, kless z.key x.key = false) ∧ acc = insL x (l.take i))
theorem Wnt.start (x : It) (l : List It) : Wnt x l 0 false [] := ⟨fun _ => ⟨fun z hz => (by simp at hz), by simp⟩, fun h => (by cases h)⟩
theorem insL_less {x : It} {A : List It} (h : ∀ z ∈ A, kless z.key x.key = true) : insL x A = A ++ [x] := by
 have := insL_mid (x := x) (A := A) (B := []) (C := []) h (fun _ h => by cases h)
 simpa [insL] using this
theorem insL_snoc {x y : It} {A : List It} (h : kless x.key y.key = true) : insL x (A ++ [y]) = insL x A ++ [y] := by
 have h2 : kless y.key x.key = false := kl_kle h
 unfold insL
 rw [List.filter_append, List.filter_append, List.filter_cons_of_neg (by rw [h2]; decide), List.filter_cons_of_pos (p := fun (z : It) => kless x.key z.key) (a := y) h]
 simp
theorem mem_take {l : List It} {i : Nat} (hi : i < l.length) : l[i] ∈ l.take (i + 1) := by
 rw [List.take_succ_eq_append_getElem hi]; exact List.mem_append.2 (.inr (List.mem_singleton.2 rfl))
theorem kl_of {a b : Ky} (h : kless a b = false) (hn : a ≠ b) : kless b a = true := by
 rw [kl_iff]
 have h2 : ¬ (a.kind < b.kind ∨ a.kind = b.kind ∧ (a.id < b.id ∨ a.id = b.id ∧ a.off < b.off)) := fun e => by rw [kl_iff.2 e] at h; cases h
 have h3 : ¬ (a.kind = b.kind ∧ a.id = b.id ∧ a.off = b.off) := fun ⟨e1, e2, e3⟩ => hn (by cases a; cases b; simp at e1 e2 e3; rw [e1, e2, e3])
 omega
theorem Wnt.less {x : It} {l : List It} {i : Nat} {acc : List It} (h : Wnt x l i false acc) (hi : i < l.length) (hk : kless l[i].key x.key = true) : l[i].key ≠ x.key ∧ Wnt x l (i + 1) false (acc ++ [l[i]]) := by
 obtain ⟨h1, rfl⟩ := h.1 rfl
 refine ⟨fun e => (by rw [e, kl_irr] at hk; cases hk), fun _ => ⟨fun z hz => ?_, List.take_succ_eq_append_getElem hi |>.symm⟩, fun h => (by cases h)⟩
 rw [List.take_succ_eq_append_getElem hi] at hz
 rcases List.mem_append.1 hz with hz | hz
 ·exact h1 z hz
 ·rw [List.mem_singleton.1 hz]; exact hk
theorem Wnt.same {x : It} {l : List It} {i : Nat} {acc : List It} (h : Wnt x l i false acc) (hi : i < l.length) (hk : kless l[i].key x.key = false) (e : l[i].key = x.key) : Wnt x l (i + 1) true (acc ++ [x]) := by
 obtain ⟨h1, rfl⟩ := h.1 rfl
 refine ⟨fun h => (by cases h), fun _ => ⟨⟨l[i], mem_take hi, hk⟩, ?_⟩⟩
 rw [List.take_succ_eq_append_getElem hi, ← insL_less h1]
 have hf : kless x.key l[i].key = false := by rw [e]; exact kl_irr
 unfold insL
 rw [List.filter_append, List.filter_append, List.filter_cons_of_neg (by rw [hk]; decide), List.filter_cons_of_neg (by rw [hf]; decide)]
 simp
theorem Wnt.more {x : It} {l : List It} {i : Nat} {acc : List It} (h : Wnt x l i false acc) (hi : i < l.length) (hk : kless l[i].key x.key = false) (e : l[i].key ≠ x.key) : Wnt x l (i + 1) true (acc ++ [x] ++ [l[i]]) := by
 obtain ⟨h1, rfl⟩ := h.1 rfl
 refine ⟨fun h => (by cases h), fun _ => ⟨⟨l[i], mem_take hi, hk⟩, ?_⟩⟩
 rw [List.take_succ_eq_append_getElem hi, ← insL_less h1, insL_snoc (kl_of hk e)]
theorem Wnt.put {x : It} {l : List It} {i : Nat} {acc : List It} (h : Wnt x l i true acc) (hs : Srt l) (hi : i < l.length) : l[i].key ≠ x.key ∧ Wnt x l (i + 1) true (acc ++ [l[i]]) := by
 obtain ⟨⟨z, hz, hzx⟩, rfl⟩ := h.2 rfl
 have hzl : kless z.key l[i].key = true := by
  have e : l = l.take i ++ l.drop i := (List.take_append_drop i l).symm
  rw [e] at hs
  refine (List.pairwise_append.1 hs).2.2 z hz l[i] ?_
  rw [List.drop_eq_getElem_cons hi]; exact List.mem_cons_self
 have hxl : kless x.key l[i].key = true := by
  rw [kl_iff] at hzl ⊢
  have h2 : ¬ (z.key.kind < x.key.kind ∨ z.key.kind = x.key.kind ∧ (z.key.id < x.key.id ∨ z.key.id = x.key.id ∧ z.key.off < x.key.off)) := fun e => by rw [kl_iff.2 e] at hzx; cases hzx
  omega
 refine ⟨fun e => (by rw [e, kl_irr] at hxl; cases hxl), fun h => (by cases h), fun _ => ⟨⟨z, List.take_subset_take_left _ (Nat.le_succ i) hz, hzx⟩, ?_⟩⟩
 rw [List.take_succ_eq_append_getElem hi, insL_snoc hxl]
theorem Wnt.done {x : It} {l : List It} {i : Nat} {p : Bool} {acc : List It} (h : Wnt x l i p acc) (hi : l.length ≤ i) : (p = true → acc = insL x l) ∧ (p = false → acc ++ [x] = insL x l) := by
 rw [Wnt, List.take_of_length_le hi] at h
 exact ⟨fun e => (h.2 e).2, fun e => by rw [insL_less (h.1 e).1, (h.1 e).2]⟩
theorem keyD_ne {a b : Ky} (h : decide (¬ [a.kind, a.id, a.off] = [b.kind, b.id, b.off]) = true) : a ≠ b := fun e => by subst e; exact (of_decide_eq_true h) rfl
theorem keyD_eq {a b : Ky} (h : decide (¬ [a.kind, a.id, a.off] = [b.kind, b.id, b.off]) = false) : a = b := by
 have := Classical.not_not.1 (of_decide_eq_false h)
 simp only [List.cons.injEq, and_true] at this
 obtain ⟨e1, e2, e3⟩ := this
 cases a; cases b; simp only at e1 e2 e3; rw [e1, e2, e3]
theorem enough_yes (s : Sto) (roots held : List Int) (v w w2 : Value) (M : Mem) (h : ST M v s) (hst : stOk s) (h1 : IS M w roots) (hn1 : roots.length ≤ 100000) (hroots : ∀ r ∈ roots, (fchk s r).2 = 0) (h2 : IS M w2 held) (hn2 : held.length ≤ 100000) (hheld : ∀ r ∈ held, 0 ≤ r ∧ r < 256) (he : EnP s roots held) :
  SpecL Tryz.prog 20 #[v, w, w2] M [] fun u M' L' => u = .bool true ∧ L' = [] :=
 (enough_two s roots held v w w2 M h hst h1 hn1 hroots h2 hn2 hheld).mono fun u M' L' ⟨hl, h⟩ => ⟨h.elim (fun h => h.1) fun h => absurd he h.2, hl⟩
theorem IS.nil {M : Mem} : IS M (.slice none 0 0) [] := ⟨none, 0, rfl, Nat.le_refl _, .inl rfl⟩
theorem heldF_rng {x : It} (h : itChk x = 0) : ∀ r ∈ heldF x.ref, 0 ≤ r ∧ r < 256 := fun r hr => by
 have := ref_of_chk h
 unfold heldF at hr
 split at hr
 ·rw [List.mem_singleton.1 hr]; omega
 ·cases hr
theorem heldF_len (r : Int) : (heldF r).length ≤ 1 := by unfold heldF; split <;> simp
theorem two_all {p : Int → Prop} {a b : Int} (ha : p a) (hb : p b) : ∀ r ∈ [a, b], p r := fun r hr => by
 rcases List.mem_cons.1 hr with rfl | hr
 ·exact ha
 ·rw [List.mem_singleton.1 hr]; exact hb
theorem fchk_lv {s : Sto} {r : Int} (h : (fchk s r).2 = 0) : 1 ≤ (fchk s r).1 ∧ (fchk s r).1 ≤ 6 := by
 obtain ⟨_, _, _, _, lev, xs, hnd, _, e⟩ := fchk_ok h
 have := (ndAt_ok hnd).lev
 omega
theorem allR_srt {s : Sto} {r : Int} (h : (fchk s r).2 = 0) : Srt (allR s r) := by
 obtain ⟨_, _, _, _, lev, xs, hnd, ht, _⟩ := fchk_ok h
 rw [allR_pos h]
 unfold allT
 rw [hnd]
 exact tree_srt ht
end Go.Proofs.YtckdncmjkloebaaGreat
