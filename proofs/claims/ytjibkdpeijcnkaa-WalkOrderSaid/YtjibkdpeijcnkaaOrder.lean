/- WalkOrder's function is walked. -/
import Derived.Test.YtjibkdpeijcnkaaAlive
import Derived.Test.YtjibkdpeijcnkaaGreat
import Derived.Test.YtjibkdpeijcnkaaTree
namespace Go.Proofs.Ytjibkdpeijcnkaa
set_option linter.unusedVariables false
set_option linter.unusedSimpArgs false
open Go.RowKit

theorem idx_of {k : Nat} {n : Nat} (h : (k : Int) < (n : Int)) : k < n := by omega
theorem FdPost.is {s : Sto} {root : Int} {q : Ky} {x : It} {u : Value} {M' : Mem} (h : FdPost s root q u M') (h0 : (fchk s root).2 = 0) (hx : fnd s root q = Option.some x) : ∃ va vc, u = .tuple #[.agg (itc x va vc).toArray, .int .i64 0] ∧ x.val.length ≤ vc ∧ SM M' va (bcells x.val) := by
  unfold FdPost at h; rw [if_pos h0, hx] at h; exact h

set_option maxHeartbeats 8000000 in
theorem worder_walk (s : Sto) (root : Int) (a b : Ky) (bv wv nv lw : Value) (M : Mem) (hST : ST M (.agg #[bv, wv, nv, lw]) s) :
    SpecL Try.prog 4 #[.agg #[bv, wv, nv, lw], .int .i64 root, .agg (kcells a).toArray, .agg (kcells b).toArray] M [] fun u _ _ => u = .bool true := by
  refine spec_body (vs := [_, _, _, _]) 114 _ Try.func4 rfl Try.ntmps4 rfl rfl ?_; intro W
  refine jc_seq ?_
  refine jc_region ?_
  refine jl_h rfl rfl (hBox (cs := [_, _, _, _]) rfl rfl rfl rfl) ?_; rintro _ _ _ ⟨b4, rfl, rfl, rfl⟩
  refine jl_h rfl rfl (hBox (cs := [_, _, _]) rfl rfl rfl rfl) ?_; rintro _ _ _ ⟨b6, rfl, rfl, rfl⟩
  refine jl_h rfl rfl (hBox (cs := [_, _, _]) rfl rfl rfl rfl) ?_; rintro _ _ _ ⟨b7, rfl, rfl, rfl⟩
  refine jp rfl ?_
  refine jl_nil ?_
  refine jT ?_
  refine jc_seq ?_
  refine jc_region ?_
  refine jl_h rfl rfl (hCall rfl rfl rfl rfl rfl (by kernel_rfl) (alive_spec M)) ?_; rintro _ M1 _ ⟨hM1, _, rfl, ⟨rfl, rfl⟩⟩
  simp only [List.nil_append]
  refine jp rfl ?_
  refine jl_nil ?_
  refine jT ?_
  refine jc_seq ?_
  refine jc_seq ?_
  refine jc_region ?_
  refine jl_q rfl rfl (qLdL rfl rfl rfl rfl rfl (by first | (simp only [Nat.reduceAdd, Nat.zero_add, Nat.add_zero, List.drop_succ_cons, List.drop_zero, List.drop_nil, List.take_succ_cons, List.take_zero, List.take_nil, List.cons_append, List.nil_append, List.append_nil, List.length_cons, List.length_nil]; done) | (simp only [Nat.reduceAdd, Nat.zero_add, Nat.add_zero, List.drop_succ_cons, List.drop_zero, List.drop_nil, List.take_succ_cons, List.take_zero, List.take_nil, List.cons_append, List.nil_append, List.append_nil, List.length_cons, List.length_nil]; rfl) | rfl)) ?_
  refine jl_h rfl rfl (hCall rfl rfl rfl rfl rfl (by kernel_rfl) (great_spec s _ M1 (hST.mono hM1))) ?_; rintro _ M2 _ ⟨hM2, _, rfl, ⟨⟨bg, rfl⟩, rfl⟩⟩
  simp only [List.nil_append]
  refine jsb rfl (fun h18 => ?_) (fun h18 => ?_)
  · iterate 3 refine jp rfl ?_
    refine jl_nil ?_
    refine jT ?_
    refine jc_yes rfl ?_
    refine jc_seq ?_
    refine jc_region ?_
    iterate 2 refine jp rfl ?_
    refine jl_nil ?_
    refine jT ?_
    refine jc_ret ?_
    refine jTr ?_
    refine jr1 rfl rfl ?_
    rfl
  · iterate 3 refine jp rfl ?_
    refine jl_nil ?_
    refine jT ?_
    refine jc_no rfl ?_
    refine jc_skip ?_
    refine jT ?_
    refine jc_seq ?_
    refine jc_region ?_
    refine jl_q rfl rfl (qLdL rfl rfl rfl rfl rfl (by first | (simp only [Nat.reduceAdd, Nat.zero_add, Nat.add_zero, List.drop_succ_cons, List.drop_zero, List.drop_nil, List.take_succ_cons, List.take_zero, List.take_nil, List.cons_append, List.nil_append, List.append_nil, List.length_cons, List.length_nil]; done) | (simp only [Nat.reduceAdd, Nat.zero_add, Nat.add_zero, List.drop_succ_cons, List.drop_zero, List.drop_nil, List.take_succ_cons, List.take_zero, List.take_nil, List.cons_append, List.nil_append, List.append_nil, List.length_cons, List.length_nil]; rfl) | rfl)) ?_
    refine jp rfl ?_
    refine jl_q rfl rfl (qLdL rfl rfl rfl rfl rfl (by first | (simp only [Nat.reduceAdd, Nat.zero_add, Nat.add_zero, List.drop_succ_cons, List.drop_zero, List.drop_nil, List.take_succ_cons, List.take_zero, List.take_nil, List.cons_append, List.nil_append, List.append_nil, List.length_cons, List.length_nil]; done) | (simp only [Nat.reduceAdd, Nat.zero_add, Nat.add_zero, List.drop_succ_cons, List.drop_zero, List.drop_nil, List.take_succ_cons, List.take_zero, List.take_nil, List.cons_append, List.nil_append, List.append_nil, List.length_cons, List.length_nil]; rfl) | rfl)) ?_
    refine jl_q rfl rfl (qLdL rfl rfl rfl rfl rfl (by first | (simp only [Nat.reduceAdd, Nat.zero_add, Nat.add_zero, List.drop_succ_cons, List.drop_zero, List.drop_nil, List.take_succ_cons, List.take_zero, List.take_nil, List.cons_append, List.nil_append, List.append_nil, List.length_cons, List.length_nil]; done) | (simp only [Nat.reduceAdd, Nat.zero_add, Nat.add_zero, List.drop_succ_cons, List.drop_zero, List.drop_nil, List.take_succ_cons, List.take_zero, List.take_nil, List.cons_append, List.nil_append, List.append_nil, List.length_cons, List.length_nil]; rfl) | rfl)) ?_
    refine jl_h rfl rfl (hCall rfl rfl rfl rfl rfl (by kernel_rfl) (range_spec s _ root a b M2 (hST.mono (hM1.trans hM2)))) ?_; rintro _ M3 _ ⟨hM23, _, rfl, ⟨⟨v28, rfl, hns⟩, rfl⟩⟩
    simp only [List.nil_append]
    have hM3 := hM1.trans (hM2.trans hM23)
    obtain ⟨l, hl⟩ : ∃ l, l = (if (fchk s root).2 = 0 then rng s root a b else []) := ⟨_, rfl⟩
    rw [← hl] at hns
    obtain ⟨la, lc, lps, rfl, hlc, hls, hlp, hlb⟩ := hns
    iterate 5 refine jp rfl ?_
    refine jl_nil ?_
    refine jT ?_
    refine jc_seq ?_
    refine jc_seq ?_
    refine jc_region ?_
    refine jp rfl ?_
    refine js rfl (fun h32 => ?_) (fun h32 => ?_)
    · refine jl_nil ?_
      refine jT ?_
      refine jc_yes rfl ?_
      refine jc_seq ?_
      refine jc_region ?_
      iterate 3 refine jp rfl ?_
      refine jl_q rfl rfl (qLen rfl rfl rfl) ?_
      iterate 3 refine jp rfl ?_
      refine jl_nil ?_
      refine jT ?_
      refine jc_ret ?_
      refine jTr ?_
      refine jr1 rfl rfl ?_
      exact congrArg Value.bool (decide_eq_true (by rw [hl, if_neg h32]; rfl))
    · refine jl_nil ?_
      refine jT ?_
      refine jc_no rfl ?_
      refine jc_skip ?_
      refine jT ?_
      refine jc_seq ?_
      refine jc_seq ?_
      refine jc_region ?_
      refine jl_q rfl rfl (qLdL rfl rfl rfl rfl rfl (by first | (simp only [Nat.reduceAdd, Nat.zero_add, Nat.add_zero, List.drop_succ_cons, List.drop_zero, List.drop_nil, List.take_succ_cons, List.take_zero, List.take_nil, List.cons_append, List.nil_append, List.append_nil, List.length_cons, List.length_nil]; done) | (simp only [Nat.reduceAdd, Nat.zero_add, Nat.add_zero, List.drop_succ_cons, List.drop_zero, List.drop_nil, List.take_succ_cons, List.take_zero, List.take_nil, List.cons_append, List.nil_append, List.append_nil, List.length_cons, List.length_nil]; rfl) | rfl)) ?_
      refine jl_q rfl rfl (qLdL rfl rfl rfl rfl rfl (by first | (simp only [Nat.reduceAdd, Nat.zero_add, Nat.add_zero, List.drop_succ_cons, List.drop_zero, List.drop_nil, List.take_succ_cons, List.take_zero, List.take_nil, List.cons_append, List.nil_append, List.append_nil, List.length_cons, List.length_nil]; done) | (simp only [Nat.reduceAdd, Nat.zero_add, Nat.add_zero, List.drop_succ_cons, List.drop_zero, List.drop_nil, List.take_succ_cons, List.take_zero, List.take_nil, List.cons_append, List.nil_append, List.append_nil, List.length_cons, List.length_nil]; rfl) | rfl)) ?_
      refine jl_qb rfl rfl (qCall rfl rfl rfl rfl rfl (by kernel_rfl) (less_spec b a _)) (fun h41 => ?_) (fun h41 => ?_)
      · iterate 2 refine jp rfl ?_
        refine jl_q rfl rfl (qLen rfl rfl rfl) ?_
        refine js rfl (fun h45 => ?_) (fun h45 => ?_)
        · exfalso; have := (rng_facts (Classical.not_not.1 h32) a b).no h41; rw [hl, if_pos (Classical.not_not.1 h32), this] at h45; exact absurd h45 (by decide)
        · refine jp rfl ?_
          refine jl_nil ?_
          refine jT ?_
          refine jc_no rfl ?_
          refine jc_skip ?_
          refine jT ?_
          refine jc_seq ?_
          refine jc_seq ?_
          refine jc_region ?_
          refine jp rfl ?_
          refine jl_nil ?_
          refine jT ?_
          refine jc_block ?_
          have hR : RFacts s root a b l := by rw [hl, if_pos (Classical.not_not.1 h32)]; exact rng_facts (Classical.not_not.1 h32) a b
          have hll : l.length ≤ 100000 := by
            rw [hl, if_pos (Classical.not_not.1 h32)]
            obtain ⟨_, _, _, _, lev, xs, hnd, _, _⟩ := fchk_ok (Classical.not_not.1 h32)
            unfold rng; rw [hnd]
            have hno := ndAt_ok hnd
            have hsm := downL_small (s := s) (q := a) (l := lev) (by have := hno.lev; omega) hno.len
            have hpf := (List.takeWhile_prefix (fun x => !kless b x.key) (l := downL s a lev xs)).length_le
            exact Nat.le_trans hpf (by omega)
          refine jc_loopK (α := Nat × Mem) (fun x => [(1, .int .i64 root), (4, .pointer (some ⟨b4, 0, none⟩)), (6, .pointer (some ⟨b6, 0, none⟩)), (7, .pointer (some ⟨b7, 0, none⟩)), (9, .bool true), (10, .slice la l.length lc), (12, .int .i64 (x.1 : Int))]) (fun x => x.2) (fun _ => [(b7, .cells (kcells b).toArray 31 (0, 0)), (b6, .cells (kcells a).toArray 31 (0, 0)), (b4, .cells [bv, wv, nv, lw].toArray TSt (0, 0))]) (fun x => x.1 ≤ l.length ∧ MLe M3 x.2) (fun x => l.length - x.1)
            (0, M3) (Keep.cons (t := 1) rfl (Keep.cons (t := 4) rfl (Keep.cons (t := 6) rfl (Keep.cons (t := 7) rfl (Keep.cons (t := 9) rfl (Keep.cons (t := 10) rfl (Keep.cons (t := 12) rfl Keep.nil))))))) ⟨Nat.zero_le _, MLe.refl _⟩ (fun _ h => h) ?_
          rintro ⟨k, Mk⟩ ⟨hk, hMk⟩
          try dsimp only at hk hMk ⊢
          refine jc_seq ?_
          refine jc_seq ?_
          refine jc_region ?_
          iterate 2 refine jp rfl ?_
          refine jl_q rfl rfl (qLen rfl rfl rfl) ?_
          refine js rfl (fun h50 => ?_) (fun h50 => ?_)
          · refine jl_nil ?_
            refine jT ?_
            refine jc_yes rfl ?_
            refine jc_skip ?_
            refine jT ?_
            refine jc_seq ?_
            refine jc_block ?_
            refine jc_seq ?_
            refine jc_seq ?_
            refine jc_draw [(0, true), (1, true), (2, true), (3, true), (4, true), (5, true), (6, true), (7, true), (8, true), (9, true), (10, true), (11, true), (12, true), (13, true), (14, true), (15, true), (16, true), (17, true), (18, true), (19, true), (20, true), (21, true), (22, true), (23, true), (24, true), (25, true), (26, true), (27, true), (28, true), (29, true), (30, true), (31, true), (32, true), (33, true), (34, true)] _ (by kernel_rfl) (by kernel_rfl) (by kernel_rfl) rfl (fun _ h => h) ?_
            iterate 2 refine dp rfl rfl ?_
            have hk1 : k < l.length := idx_of h50
            obtain ⟨sb, so, e0, hx⟩ := (hls.mono hMk).open (by intro e; have := congrArg List.length e; rw [flat_len icell 5 icell_len, List.length_nil] at this; have h2 := congrArg List.length hlp; rw [List.length_map] at h2; omega)
            subst e0
            obtain ⟨va, vc, hcl, hvc, hvs⟩ := items_get hx hlp (fun p hp => (hlb p hp).mono hMk) hk1
            have hlo := hR.lo k hk1
            have hhi := hR.hi k hk1
            have hfd := hR.fd k hk1
            refine jd_q rfl rfl rfl (qIdxS rfl rfl rfl rfl (by omega)) ?_
            refine jd_q rfl rfl rfl (qFieldAddr rfl rfl rfl rfl rfl) ?_
            refine jd_q rfl rfl rfl (qLdA (cs := kcells l[k].key) rfl rfl rfl rfl rfl (fun i v hv => (hcl i v (by match i, hv with | 0, hv => simpa [kcells] using hv | 1, hv => simpa [kcells] using hv | 2, hv => simpa [kcells] using hv | n + 3, hv => simp [kcells] at hv)).cj _)) ?_
            refine jd_q rfl rfl rfl (qLdL rfl rfl rfl rfl rfl (by first | (simp only [Nat.reduceAdd, Nat.zero_add, Nat.add_zero, List.drop_succ_cons, List.drop_zero, List.drop_nil, List.take_succ_cons, List.take_zero, List.take_nil, List.cons_append, List.nil_append, List.append_nil, List.length_cons, List.length_nil]; done) | (simp only [Nat.reduceAdd, Nat.zero_add, Nat.add_zero, List.drop_succ_cons, List.drop_zero, List.drop_nil, List.take_succ_cons, List.take_zero, List.take_nil, List.cons_append, List.nil_append, List.append_nil, List.length_cons, List.length_nil]; rfl) | rfl)) ?_
            refine jd_q rfl rfl rfl (qEq (qCall rfl rfl rfl rfl rfl (by kernel_rfl) (less_spec l[k].key a _)) (v' := .bool false) (by rw [hlo])) ?_
            refine dp rfl rfl ?_
            refine jd_q rfl rfl rfl (qLdL rfl rfl rfl rfl rfl (by first | (simp only [Nat.reduceAdd, Nat.zero_add, Nat.add_zero, List.drop_succ_cons, List.drop_zero, List.drop_nil, List.take_succ_cons, List.take_zero, List.take_nil, List.cons_append, List.nil_append, List.append_nil, List.length_cons, List.length_nil]; done) | (simp only [Nat.reduceAdd, Nat.zero_add, Nat.add_zero, List.drop_succ_cons, List.drop_zero, List.drop_nil, List.take_succ_cons, List.take_zero, List.take_nil, List.cons_append, List.nil_append, List.append_nil, List.length_cons, List.length_nil]; rfl) | rfl)) ?_
            iterate 2 refine dp rfl rfl ?_
            refine jd_q rfl rfl rfl (qIdxS rfl rfl rfl rfl (by omega)) ?_
            refine jd_q rfl rfl rfl (qFieldAddr rfl rfl rfl rfl rfl) ?_
            refine jd_q rfl rfl rfl (qLdA (cs := kcells l[k].key) rfl rfl rfl rfl rfl (fun i v hv => (hcl i v (by match i, hv with | 0, hv => simpa [kcells] using hv | 1, hv => simpa [kcells] using hv | 2, hv => simpa [kcells] using hv | n + 3, hv => simp [kcells] at hv)).cj _)) ?_
            refine jd_q rfl rfl rfl (qEq (qCall rfl rfl rfl rfl rfl (by kernel_rfl) (less_spec b l[k].key _)) (v' := .bool false) (by rw [hhi])) ?_
            iterate 3 refine dp rfl rfl ?_
            refine ds rfl rfl (fun h71 => ?_) (fun h71 => ?_)
            · iterate 3 refine dp rfl rfl ?_
              refine da rfl rfl (by omega) ?_
              obtain ⟨j, hj⟩ : ∃ j, k = j + 1 := ⟨k - 1, by omega⟩
              have hj1 : j < l.length := by omega
              obtain ⟨wa, wc, hcj, -, -⟩ := items_get hx hlp (fun p hp => (hlb p hp).mono hMk) hj1
              have hup : kless l[j].key l[k].key = true := by subst hj; exact hR.up j hk1
              refine jd_q rfl rfl rfl (qEq (qIdxS rfl rfl rfl rfl (by omega)) (v' := .pointer (some ⟨sb, so + j * 5, none⟩)) (by congr 3; omega)) ?_
              refine jd_q rfl rfl rfl (qFieldAddr rfl rfl rfl rfl rfl) ?_
              refine jd_q rfl rfl rfl (qLdA (cs := kcells l[j].key) rfl rfl rfl rfl rfl (fun i v hv => (hcj i v (by match i, hv with | 0, hv => simpa [kcells] using hv | 1, hv => simpa [kcells] using hv | 2, hv => simpa [kcells] using hv | n + 3, hv => simp [kcells] at hv)).cj _)) ?_
              iterate 2 refine dp rfl rfl ?_
              refine jd_q rfl rfl rfl (qIdxS rfl rfl rfl rfl (by omega)) ?_
              refine jd_q rfl rfl rfl (qFieldAddr rfl rfl rfl rfl rfl) ?_
              refine jd_q rfl rfl rfl (qLdA (cs := kcells l[k].key) rfl rfl rfl rfl rfl (fun i v hv => (hcl i v (by match i, hv with | 0, hv => simpa [kcells] using hv | 1, hv => simpa [kcells] using hv | 2, hv => simpa [kcells] using hv | n + 3, hv => simp [kcells] at hv)).cj _)) ?_
              refine jd_q rfl rfl rfl (qEq (qCall rfl rfl rfl rfl rfl (by kernel_rfl) (less_spec l[j].key l[k].key _)) (v' := .bool true) (by rw [hup])) ?_
              iterate 3 refine dp rfl rfl ?_
              refine jd_nil ?_
              refine jPn ?_
              refine jT ?_
              refine jc_no rfl ?_
              refine jc_skip ?_
              refine jT ?_
              refine jc_seq ?_
              refine jc_seq ?_
              refine jc_region ?_
              refine jp rfl ?_
              refine jl_q rfl rfl (qRem rfl rfl rfl rfl (by omega) (by omega)) ?_
              refine js rfl (fun h90 => ?_) (fun h90 => ?_)
              · refine jl_nil ?_
                refine jT ?_
                refine jc_yes rfl ?_
                refine jc_exit ?_
                refine jTx ?_
                refine jBx ?_
                refine jT ?_
                refine jc_region ?_
                refine jp rfl ?_
                refine ja rfl (by omega) ?_
                refine jp rfl ?_
                refine jl_nil ?_
                refine j_again (k + 1, Mk) (Keep.cons (t := 1) rfl (Keep.cons (t := 4) rfl (Keep.cons (t := 6) rfl (Keep.cons (t := 7) rfl (Keep.cons (t := 9) rfl (Keep.cons (t := 10) rfl (Keep.cons (t := 12) rfl Keep.nil))))))) ⟨by show k + 1 ≤ l.length; omega, hMk⟩ (by show l.length - (k + 1) < l.length - k; omega) (fun _ h => h.fewer (by simp))
              · refine jl_nil ?_
                refine jT ?_
                refine jc_no rfl ?_
                refine jc_skip ?_
                refine jT ?_
                refine jc_seq ?_
                refine jc_drawA ([(b4, .cells [bv, wv, nv, lw].toArray TSt (0, 0))]) (by kernel_rfl) (by simp) ?_
                refine ja_q (i := 0) rfl (by kernel_rfl) (by kernel_rfl) rfl rfl (qLdL rfl rfl rfl rfl rfl (by first | (simp only [Nat.reduceAdd, Nat.zero_add, Nat.add_zero, List.drop_succ_cons, List.drop_zero, List.drop_nil, List.take_succ_cons, List.take_zero, List.take_nil, List.cons_append, List.nil_append, List.append_nil, List.length_cons, List.length_nil]; done) | (simp only [Nat.reduceAdd, Nat.zero_add, Nat.add_zero, List.drop_succ_cons, List.drop_zero, List.drop_nil, List.take_succ_cons, List.take_zero, List.take_nil, List.cons_append, List.nil_append, List.append_nil, List.length_cons, List.length_nil]; rfl) | rfl)) ?_
                refine ja_p (i := 1) rfl (by kernel_rfl) (by kernel_rfl) rfl ?_
                refine ja_p (i := 2) rfl (by kernel_rfl) (by kernel_rfl) rfl ?_
                refine ja_p (i := 3) rfl (by kernel_rfl) (by kernel_rfl) rfl ?_
                refine ja_q (i := 4) rfl (by kernel_rfl) (by kernel_rfl) rfl rfl (qIdxS rfl rfl rfl rfl (by omega)) ?_
                refine ja_q (i := 5) rfl (by kernel_rfl) (by kernel_rfl) rfl rfl (qFieldAddr rfl rfl rfl rfl rfl) ?_
                refine ja_q (i := 6) rfl (by kernel_rfl) (by kernel_rfl) rfl rfl (qLdA (cs := kcells l[k].key) rfl rfl rfl rfl rfl (fun i v hv => (hcl i v (by match i, hv with | 0, hv => simpa [kcells] using hv | 1, hv => simpa [kcells] using hv | 2, hv => simpa [kcells] using hv | n + 3, hv => simp [kcells] at hv)).cj _)) ?_
                refine ja_merge (α := Mem × Option Addr × Nat × Nat) (fun y => MLe Mk y.1 ∧ l[k].val.length ≤ y.2.2.1 ∧ SM y.1 y.2.1 (bcells l[k].val)) (fun y => [(1, .int .i64 root), (4, .pointer (some ⟨b4, 0, none⟩)), (6, .pointer (some ⟨b6, 0, none⟩)), (7, .pointer (some ⟨b7, 0, none⟩)), (9, .bool true), (10, .slice (some ⟨sb, so, none⟩) l.length lc), (12, .int .i64 (k : Int)), (13, .pointer (some ⟨y.2.2.2, 0, none⟩)), (100, .agg (itc l[k] y.2.1 y.2.2.1).toArray), (101, .int .i64 0)]) (fun y => y.1) (fun y => (y.2.2.2, .cells [.int .u8 0, .int .u32 0, .int .u32 0, .int .i64 0, .slice none 0 0].toArray IT (0, 0)) :: [(b7, .cells (kcells b).toArray 31 (0, 0)), (b6, .cells (kcells a).toArray 31 (0, 0)), (b4, .cells [bv, wv, nv, lw].toArray TSt (0, 0))]) 2 #[true, true, true, true, true, true, true, true, true, true, true, true, false, false] ?_ (fun rest => ?_)
                · rintro ⟨Mf, fa, fc, b13⟩ ⟨hMf, hfl, hfs⟩
                  try dsimp only at hMf hfl hfs ⊢
                  refine ja_one (i := 12) (by kernel_rfl) ?_
                  refine js_s rfl rfl (hStoreL rfl rfl rfl rfl rfl rfl rfl rfl (by first | (simp only [Nat.reduceAdd, Nat.zero_add, Nat.add_zero, List.drop_succ_cons, List.drop_zero, List.drop_nil, List.take_succ_cons, List.take_zero, List.take_nil, List.cons_append, List.nil_append, List.append_nil, List.length_cons, List.length_nil]; done) | (simp only [Nat.reduceAdd, Nat.zero_add, Nat.add_zero, List.drop_succ_cons, List.drop_zero, List.drop_nil, List.take_succ_cons, List.take_zero, List.take_nil, List.cons_append, List.nil_append, List.append_nil, List.length_cons, List.length_nil]; rfl) | rfl)) ?_; rintro _ _ _ ⟨rfl, rfl⟩
                  refine ja_grow (hMf) (by simp) ?_
                  refine ja_p (i := 13) rfl (by kernel_rfl) (by kernel_rfl) rfl ?_
                  refine ja_end (by kernel_rfl) ?_
                  refine jPn ?_
                  refine jT ?_
                  refine jc_seq ?_
                  refine jc_draw [(0, true), (1, true), (2, true), (3, true), (4, true), (5, true), (6, true), (7, true), (8, true), (9, true), (10, true)] _ (by kernel_rfl) (by kernel_rfl) (by kernel_rfl) rfl (fun _ h => h) ?_
                  refine dp rfl rfl ?_
                  refine df rfl rfl (decide_eq_false (by omega)) ?_
                  refine dp rfl rfl ?_
                  refine jd_q rfl rfl rfl (qLdL rfl rfl rfl rfl rfl (by first | (simp only [Nat.reduceAdd, Nat.zero_add, Nat.add_zero, List.drop_succ_cons, List.drop_zero, List.drop_nil, List.take_succ_cons, List.take_zero, List.take_nil, List.cons_append, List.nil_append, List.append_nil, List.length_cons, List.length_nil]; done) | (simp only [Nat.reduceAdd, Nat.zero_add, Nat.add_zero, List.drop_succ_cons, List.drop_zero, List.drop_nil, List.take_succ_cons, List.take_zero, List.take_nil, List.cons_append, List.nil_append, List.append_nil, List.length_cons, List.length_nil]; rfl) | rfl)) ?_
                  iterate 2 refine dp rfl rfl ?_
                  refine jd_q rfl rfl rfl (qIdxS rfl rfl rfl rfl (by omega)) ?_
                  refine jd_q rfl rfl rfl (qLdA (cs := itc l[k] va vc) rfl rfl rfl rfl rfl (fun i v hv => ((hcl i v hv).mono hMf).cj _)) ?_
                  refine jd_q rfl rfl rfl (qEq (qCall rfl rfl rfl rfl rfl (by kernel_rfl) (itsame_spec l[k] l[k] _ _ Mf ⟨fa, fc, rfl, hfl, hfs⟩ ⟨va, vc, rfl, hvc, hvs.mono hMf⟩)) (v' := .bool true) (by simp)) ?_
                  iterate 2 refine dp rfl rfl ?_
                  refine jd_nil ?_
                  refine jPn ?_
                  refine jT ?_
                  refine jc_no rfl ?_
                  refine jc_skip ?_
                  refine jB ?_
                  refine jT ?_
                  refine jc_region ?_
                  refine jp rfl ?_
                  refine ja rfl (by omega) ?_
                  refine jp rfl ?_
                  refine jl_nil ?_
                  refine j_again (k + 1, Mf) (Keep.cons (t := 1) rfl (Keep.cons (t := 4) rfl (Keep.cons (t := 6) rfl (Keep.cons (t := 7) rfl (Keep.cons (t := 9) rfl (Keep.cons (t := 10) rfl (Keep.cons (t := 12) rfl Keep.nil))))))) ⟨by show k + 1 ≤ l.length; omega, hMk.trans hMf⟩ (by show l.length - (k + 1) < l.length - k; omega) (fun _ h => h.fewer (by simp))
                refine ja_fork [7, 11] (by kernel_rfl) rfl ⟨?_, ?_, trivial⟩
                · refine js_h rfl rfl rfl (hCall rfl rfl rfl rfl rfl (by kernel_rfl) (find_spec s _ root l[k].key Mk (hST.mono (hM3.trans hMk)))) ?_; rintro _ M7 _ ⟨hM7, R7, rfl, hfp, rfl⟩
                  refine ja_grow (hM7) (by simp) ?_
                  simp only [List.nil_append]
                  obtain ⟨fa, fc, rfl, hfl, hfs⟩ := hfp.is (Classical.not_not.1 h32) hfd
                  refine ja_p (i := 8) rfl (by kernel_rfl) (by kernel_rfl) rfl ?_
                  refine ja_p (i := 9) rfl (by kernel_rfl) (by kernel_rfl) rfl ?_
                  refine ja_p (i := 10) rfl (by kernel_rfl) (by kernel_rfl) rfl ?_
                  refine ja_fork [11] (by kernel_rfl) rfl ⟨?_, trivial⟩
                  · refine js_h rfl rfl rfl (hAlloc rfl rfl) ?_; rintro _ _ _ ⟨b13, rfl, rfl, rfl⟩
                    refine ja_grow (hM7) (by simp) ?_
                    refine ja_cast (listed' := #[true, true, true, true, true, true, true, true, true, true, true, true, false, false]) (by kernel_rfl) (ja_keep (Keep.cons (t := 1) rfl (Keep.cons (t := 4) rfl (Keep.cons (t := 6) rfl (Keep.cons (t := 7) rfl (Keep.cons (t := 9) rfl (Keep.cons (t := 10) rfl (Keep.cons (t := 12) rfl (Keep.cons (t := 13) rfl (Keep.cons (t := 100) rfl (Keep.cons (t := 101) rfl Keep.nil)))))))))) ?_)
                    refine ja_weak (M2 := M7) (L2 := (b13, .cells [.int .u8 0, .int .u32 0, .int .u32 0, .int .i64 0, .slice none 0 0].toArray IT (0, 0)) :: [(b7, .cells (kcells b).toArray 31 (0, 0)), (b6, .cells (kcells a).toArray 31 (0, 0)), (b4, .cells [bv, wv, nv, lw].toArray TSt (0, 0))]) (fun w h => h.perm (Rm.perm (g := b13))) hM7 (by simp) ?_
                    exact rest (M7, fa, fc, b13) ⟨hM7, hfl, hfs⟩
                · refine js_h rfl rfl rfl (hAlloc rfl rfl) ?_; rintro _ _ _ ⟨b13, rfl, rfl, rfl⟩
                  refine ja_grow (MLe.refl _) (by simp) ?_
                  refine ja_fork [7] (by kernel_rfl) rfl ⟨?_, trivial⟩
                  · refine js_h rfl rfl rfl (hCall rfl rfl rfl rfl rfl (by kernel_rfl) (find_spec s _ root l[k].key Mk (hST.mono (hM3.trans hMk)))) ?_; rintro _ M7 _ ⟨hM7, R7, rfl, hfp, rfl⟩
                    refine ja_grow (hM7) (by simp) ?_
                    simp only [List.nil_append]
                    obtain ⟨fa, fc, rfl, hfl, hfs⟩ := hfp.is (Classical.not_not.1 h32) hfd
                    refine ja_p (i := 8) rfl (by kernel_rfl) (by kernel_rfl) rfl ?_
                    refine ja_p (i := 9) rfl (by kernel_rfl) (by kernel_rfl) rfl ?_
                    refine ja_p (i := 10) rfl (by kernel_rfl) (by kernel_rfl) rfl ?_
                    refine ja_cast (listed' := #[true, true, true, true, true, true, true, true, true, true, true, true, false, false]) (by kernel_rfl) (ja_keep (Keep.cons (t := 1) rfl (Keep.cons (t := 4) rfl (Keep.cons (t := 6) rfl (Keep.cons (t := 7) rfl (Keep.cons (t := 9) rfl (Keep.cons (t := 10) rfl (Keep.cons (t := 12) rfl (Keep.cons (t := 13) rfl (Keep.cons (t := 100) rfl (Keep.cons (t := 101) rfl Keep.nil)))))))))) ?_)
                    refine ja_weak (M2 := M7) (L2 := (b13, .cells [.int .u8 0, .int .u32 0, .int .u32 0, .int .i64 0, .slice none 0 0].toArray IT (0, 0)) :: [(b7, .cells (kcells b).toArray 31 (0, 0)), (b6, .cells (kcells a).toArray 31 (0, 0)), (b4, .cells [bv, wv, nv, lw].toArray TSt (0, 0))]) (fun w h => h.perm (Rm.perm (g := b13))) hM7 (by simp) ?_
                    exact rest (M7, fa, fc, b13) ⟨hM7, hfl, hfs⟩
            · iterate 16 refine dp rfl rfl ?_
              refine jd_nil ?_
              refine jPn ?_
              refine jT ?_
              refine jc_no rfl ?_
              refine jc_skip ?_
              refine jT ?_
              refine jc_seq ?_
              refine jc_seq ?_
              refine jc_region ?_
              refine jp rfl ?_
              refine jl_q rfl rfl (qRem rfl rfl rfl rfl (by omega) (by omega)) ?_
              refine js rfl (fun h90 => ?_) (fun h90 => ?_)
              · refine jl_nil ?_
                refine jT ?_
                refine jc_yes rfl ?_
                refine jc_exit ?_
                refine jTx ?_
                refine jBx ?_
                refine jT ?_
                refine jc_region ?_
                refine jp rfl ?_
                refine ja rfl (by omega) ?_
                refine jp rfl ?_
                refine jl_nil ?_
                refine j_again (k + 1, Mk) (Keep.cons (t := 1) rfl (Keep.cons (t := 4) rfl (Keep.cons (t := 6) rfl (Keep.cons (t := 7) rfl (Keep.cons (t := 9) rfl (Keep.cons (t := 10) rfl (Keep.cons (t := 12) rfl Keep.nil))))))) ⟨by show k + 1 ≤ l.length; omega, hMk⟩ (by show l.length - (k + 1) < l.length - k; omega) (fun _ h => h.fewer (by simp))
              · refine jl_nil ?_
                refine jT ?_
                refine jc_no rfl ?_
                refine jc_skip ?_
                refine jT ?_
                refine jc_seq ?_
                refine jc_drawA ([(b4, .cells [bv, wv, nv, lw].toArray TSt (0, 0))]) (by kernel_rfl) (by simp) ?_
                refine ja_q (i := 0) rfl (by kernel_rfl) (by kernel_rfl) rfl rfl (qLdL rfl rfl rfl rfl rfl (by first | (simp only [Nat.reduceAdd, Nat.zero_add, Nat.add_zero, List.drop_succ_cons, List.drop_zero, List.drop_nil, List.take_succ_cons, List.take_zero, List.take_nil, List.cons_append, List.nil_append, List.append_nil, List.length_cons, List.length_nil]; done) | (simp only [Nat.reduceAdd, Nat.zero_add, Nat.add_zero, List.drop_succ_cons, List.drop_zero, List.drop_nil, List.take_succ_cons, List.take_zero, List.take_nil, List.cons_append, List.nil_append, List.append_nil, List.length_cons, List.length_nil]; rfl) | rfl)) ?_
                refine ja_p (i := 1) rfl (by kernel_rfl) (by kernel_rfl) rfl ?_
                refine ja_p (i := 2) rfl (by kernel_rfl) (by kernel_rfl) rfl ?_
                refine ja_p (i := 3) rfl (by kernel_rfl) (by kernel_rfl) rfl ?_
                refine ja_q (i := 4) rfl (by kernel_rfl) (by kernel_rfl) rfl rfl (qIdxS rfl rfl rfl rfl (by omega)) ?_
                refine ja_q (i := 5) rfl (by kernel_rfl) (by kernel_rfl) rfl rfl (qFieldAddr rfl rfl rfl rfl rfl) ?_
                refine ja_q (i := 6) rfl (by kernel_rfl) (by kernel_rfl) rfl rfl (qLdA (cs := kcells l[k].key) rfl rfl rfl rfl rfl (fun i v hv => (hcl i v (by match i, hv with | 0, hv => simpa [kcells] using hv | 1, hv => simpa [kcells] using hv | 2, hv => simpa [kcells] using hv | n + 3, hv => simp [kcells] at hv)).cj _)) ?_
                refine ja_merge (α := Mem × Option Addr × Nat × Nat) (fun y => MLe Mk y.1 ∧ l[k].val.length ≤ y.2.2.1 ∧ SM y.1 y.2.1 (bcells l[k].val)) (fun y => [(1, .int .i64 root), (4, .pointer (some ⟨b4, 0, none⟩)), (6, .pointer (some ⟨b6, 0, none⟩)), (7, .pointer (some ⟨b7, 0, none⟩)), (9, .bool true), (10, .slice (some ⟨sb, so, none⟩) l.length lc), (12, .int .i64 (k : Int)), (13, .pointer (some ⟨y.2.2.2, 0, none⟩)), (100, .agg (itc l[k] y.2.1 y.2.2.1).toArray), (101, .int .i64 0)]) (fun y => y.1) (fun y => (y.2.2.2, .cells [.int .u8 0, .int .u32 0, .int .u32 0, .int .i64 0, .slice none 0 0].toArray IT (0, 0)) :: [(b7, .cells (kcells b).toArray 31 (0, 0)), (b6, .cells (kcells a).toArray 31 (0, 0)), (b4, .cells [bv, wv, nv, lw].toArray TSt (0, 0))]) 2 #[true, true, true, true, true, true, true, true, true, true, true, true, false, false] ?_ (fun rest => ?_)
                · rintro ⟨Mf, fa, fc, b13⟩ ⟨hMf, hfl, hfs⟩
                  try dsimp only at hMf hfl hfs ⊢
                  refine ja_one (i := 12) (by kernel_rfl) ?_
                  refine js_s rfl rfl (hStoreL rfl rfl rfl rfl rfl rfl rfl rfl (by first | (simp only [Nat.reduceAdd, Nat.zero_add, Nat.add_zero, List.drop_succ_cons, List.drop_zero, List.drop_nil, List.take_succ_cons, List.take_zero, List.take_nil, List.cons_append, List.nil_append, List.append_nil, List.length_cons, List.length_nil]; done) | (simp only [Nat.reduceAdd, Nat.zero_add, Nat.add_zero, List.drop_succ_cons, List.drop_zero, List.drop_nil, List.take_succ_cons, List.take_zero, List.take_nil, List.cons_append, List.nil_append, List.append_nil, List.length_cons, List.length_nil]; rfl) | rfl)) ?_; rintro _ _ _ ⟨rfl, rfl⟩
                  refine ja_grow (hMf) (by simp) ?_
                  refine ja_p (i := 13) rfl (by kernel_rfl) (by kernel_rfl) rfl ?_
                  refine ja_end (by kernel_rfl) ?_
                  refine jPn ?_
                  refine jT ?_
                  refine jc_seq ?_
                  refine jc_draw [(0, true), (1, true), (2, true), (3, true), (4, true), (5, true), (6, true), (7, true), (8, true), (9, true), (10, true)] _ (by kernel_rfl) (by kernel_rfl) (by kernel_rfl) rfl (fun _ h => h) ?_
                  refine dp rfl rfl ?_
                  refine df rfl rfl (decide_eq_false (by omega)) ?_
                  refine dp rfl rfl ?_
                  refine jd_q rfl rfl rfl (qLdL rfl rfl rfl rfl rfl (by first | (simp only [Nat.reduceAdd, Nat.zero_add, Nat.add_zero, List.drop_succ_cons, List.drop_zero, List.drop_nil, List.take_succ_cons, List.take_zero, List.take_nil, List.cons_append, List.nil_append, List.append_nil, List.length_cons, List.length_nil]; done) | (simp only [Nat.reduceAdd, Nat.zero_add, Nat.add_zero, List.drop_succ_cons, List.drop_zero, List.drop_nil, List.take_succ_cons, List.take_zero, List.take_nil, List.cons_append, List.nil_append, List.append_nil, List.length_cons, List.length_nil]; rfl) | rfl)) ?_
                  iterate 2 refine dp rfl rfl ?_
                  refine jd_q rfl rfl rfl (qIdxS rfl rfl rfl rfl (by omega)) ?_
                  refine jd_q rfl rfl rfl (qLdA (cs := itc l[k] va vc) rfl rfl rfl rfl rfl (fun i v hv => ((hcl i v hv).mono hMf).cj _)) ?_
                  refine jd_q rfl rfl rfl (qEq (qCall rfl rfl rfl rfl rfl (by kernel_rfl) (itsame_spec l[k] l[k] _ _ Mf ⟨fa, fc, rfl, hfl, hfs⟩ ⟨va, vc, rfl, hvc, hvs.mono hMf⟩)) (v' := .bool true) (by simp)) ?_
                  iterate 2 refine dp rfl rfl ?_
                  refine jd_nil ?_
                  refine jPn ?_
                  refine jT ?_
                  refine jc_no rfl ?_
                  refine jc_skip ?_
                  refine jB ?_
                  refine jT ?_
                  refine jc_region ?_
                  refine jp rfl ?_
                  refine ja rfl (by omega) ?_
                  refine jp rfl ?_
                  refine jl_nil ?_
                  refine j_again (k + 1, Mf) (Keep.cons (t := 1) rfl (Keep.cons (t := 4) rfl (Keep.cons (t := 6) rfl (Keep.cons (t := 7) rfl (Keep.cons (t := 9) rfl (Keep.cons (t := 10) rfl (Keep.cons (t := 12) rfl Keep.nil))))))) ⟨by show k + 1 ≤ l.length; omega, hMk.trans hMf⟩ (by show l.length - (k + 1) < l.length - k; omega) (fun _ h => h.fewer (by simp))
                refine ja_fork [7, 11] (by kernel_rfl) rfl ⟨?_, ?_, trivial⟩
                · refine js_h rfl rfl rfl (hCall rfl rfl rfl rfl rfl (by kernel_rfl) (find_spec s _ root l[k].key Mk (hST.mono (hM3.trans hMk)))) ?_; rintro _ M7 _ ⟨hM7, R7, rfl, hfp, rfl⟩
                  refine ja_grow (hM7) (by simp) ?_
                  simp only [List.nil_append]
                  obtain ⟨fa, fc, rfl, hfl, hfs⟩ := hfp.is (Classical.not_not.1 h32) hfd
                  refine ja_p (i := 8) rfl (by kernel_rfl) (by kernel_rfl) rfl ?_
                  refine ja_p (i := 9) rfl (by kernel_rfl) (by kernel_rfl) rfl ?_
                  refine ja_p (i := 10) rfl (by kernel_rfl) (by kernel_rfl) rfl ?_
                  refine ja_fork [11] (by kernel_rfl) rfl ⟨?_, trivial⟩
                  · refine js_h rfl rfl rfl (hAlloc rfl rfl) ?_; rintro _ _ _ ⟨b13, rfl, rfl, rfl⟩
                    refine ja_grow (hM7) (by simp) ?_
                    refine ja_cast (listed' := #[true, true, true, true, true, true, true, true, true, true, true, true, false, false]) (by kernel_rfl) (ja_keep (Keep.cons (t := 1) rfl (Keep.cons (t := 4) rfl (Keep.cons (t := 6) rfl (Keep.cons (t := 7) rfl (Keep.cons (t := 9) rfl (Keep.cons (t := 10) rfl (Keep.cons (t := 12) rfl (Keep.cons (t := 13) rfl (Keep.cons (t := 100) rfl (Keep.cons (t := 101) rfl Keep.nil)))))))))) ?_)
                    refine ja_weak (M2 := M7) (L2 := (b13, .cells [.int .u8 0, .int .u32 0, .int .u32 0, .int .i64 0, .slice none 0 0].toArray IT (0, 0)) :: [(b7, .cells (kcells b).toArray 31 (0, 0)), (b6, .cells (kcells a).toArray 31 (0, 0)), (b4, .cells [bv, wv, nv, lw].toArray TSt (0, 0))]) (fun w h => h.perm (Rm.perm (g := b13))) hM7 (by simp) ?_
                    exact rest (M7, fa, fc, b13) ⟨hM7, hfl, hfs⟩
                · refine js_h rfl rfl rfl (hAlloc rfl rfl) ?_; rintro _ _ _ ⟨b13, rfl, rfl, rfl⟩
                  refine ja_grow (MLe.refl _) (by simp) ?_
                  refine ja_fork [7] (by kernel_rfl) rfl ⟨?_, trivial⟩
                  · refine js_h rfl rfl rfl (hCall rfl rfl rfl rfl rfl (by kernel_rfl) (find_spec s _ root l[k].key Mk (hST.mono (hM3.trans hMk)))) ?_; rintro _ M7 _ ⟨hM7, R7, rfl, hfp, rfl⟩
                    refine ja_grow (hM7) (by simp) ?_
                    simp only [List.nil_append]
                    obtain ⟨fa, fc, rfl, hfl, hfs⟩ := hfp.is (Classical.not_not.1 h32) hfd
                    refine ja_p (i := 8) rfl (by kernel_rfl) (by kernel_rfl) rfl ?_
                    refine ja_p (i := 9) rfl (by kernel_rfl) (by kernel_rfl) rfl ?_
                    refine ja_p (i := 10) rfl (by kernel_rfl) (by kernel_rfl) rfl ?_
                    refine ja_cast (listed' := #[true, true, true, true, true, true, true, true, true, true, true, true, false, false]) (by kernel_rfl) (ja_keep (Keep.cons (t := 1) rfl (Keep.cons (t := 4) rfl (Keep.cons (t := 6) rfl (Keep.cons (t := 7) rfl (Keep.cons (t := 9) rfl (Keep.cons (t := 10) rfl (Keep.cons (t := 12) rfl (Keep.cons (t := 13) rfl (Keep.cons (t := 100) rfl (Keep.cons (t := 101) rfl Keep.nil)))))))))) ?_)
                    refine ja_weak (M2 := M7) (L2 := (b13, .cells [.int .u8 0, .int .u32 0, .int .u32 0, .int .i64 0, .slice none 0 0].toArray IT (0, 0)) :: [(b7, .cells (kcells b).toArray 31 (0, 0)), (b6, .cells (kcells a).toArray 31 (0, 0)), (b4, .cells [bv, wv, nv, lw].toArray TSt (0, 0))]) (fun w h => h.perm (Rm.perm (g := b13))) hM7 (by simp) ?_
                    exact rest (M7, fa, fc, b13) ⟨hM7, hfl, hfs⟩
          · refine jl_nil ?_
            refine jT ?_
            refine jc_no rfl ?_
            refine jc_exit ?_
            refine jTx ?_
            refine jTx ?_
            refine jBx ?_
            refine jT ?_
            refine jc_seq ?_
            refine jc_region ?_
            iterate 2 refine jp rfl ?_
            refine jl_nil ?_
            refine jT ?_
            refine jc_ret ?_
            refine jr1 rfl rfl ?_
            rfl
      · iterate 5 refine jp rfl ?_
        refine jl_nil ?_
        refine jT ?_
        refine jc_no rfl ?_
        refine jc_skip ?_
        refine jT ?_
        refine jc_seq ?_
        refine jc_seq ?_
        refine jc_region ?_
        refine jp rfl ?_
        refine jl_nil ?_
        refine jT ?_
        refine jc_block ?_
        have hR : RFacts s root a b l := by rw [hl, if_pos (Classical.not_not.1 h32)]; exact rng_facts (Classical.not_not.1 h32) a b
        have hll : l.length ≤ 100000 := by
          rw [hl, if_pos (Classical.not_not.1 h32)]
          obtain ⟨_, _, _, _, lev, xs, hnd, _, _⟩ := fchk_ok (Classical.not_not.1 h32)
          unfold rng; rw [hnd]
          have hno := ndAt_ok hnd
          have hsm := downL_small (s := s) (q := a) (l := lev) (by have := hno.lev; omega) hno.len
          have hpf := (List.takeWhile_prefix (fun x => !kless b x.key) (l := downL s a lev xs)).length_le
          exact Nat.le_trans hpf (by omega)
        refine jc_loopK (α := Nat × Mem) (fun x => [(1, .int .i64 root), (4, .pointer (some ⟨b4, 0, none⟩)), (6, .pointer (some ⟨b6, 0, none⟩)), (7, .pointer (some ⟨b7, 0, none⟩)), (9, .bool true), (10, .slice la l.length lc), (12, .int .i64 (x.1 : Int))]) (fun x => x.2) (fun _ => [(b7, .cells (kcells b).toArray 31 (0, 0)), (b6, .cells (kcells a).toArray 31 (0, 0)), (b4, .cells [bv, wv, nv, lw].toArray TSt (0, 0))]) (fun x => x.1 ≤ l.length ∧ MLe M3 x.2) (fun x => l.length - x.1)
          (0, M3) (Keep.cons (t := 1) rfl (Keep.cons (t := 4) rfl (Keep.cons (t := 6) rfl (Keep.cons (t := 7) rfl (Keep.cons (t := 9) rfl (Keep.cons (t := 10) rfl (Keep.cons (t := 12) rfl Keep.nil))))))) ⟨Nat.zero_le _, MLe.refl _⟩ (fun _ h => h) ?_
        rintro ⟨k, Mk⟩ ⟨hk, hMk⟩
        try dsimp only at hk hMk ⊢
        refine jc_seq ?_
        refine jc_seq ?_
        refine jc_region ?_
        iterate 2 refine jp rfl ?_
        refine jl_q rfl rfl (qLen rfl rfl rfl) ?_
        refine js rfl (fun h50 => ?_) (fun h50 => ?_)
        · refine jl_nil ?_
          refine jT ?_
          refine jc_yes rfl ?_
          refine jc_skip ?_
          refine jT ?_
          refine jc_seq ?_
          refine jc_block ?_
          refine jc_seq ?_
          refine jc_seq ?_
          refine jc_draw [(0, true), (1, true), (2, true), (3, true), (4, true), (5, true), (6, true), (7, true), (8, true), (9, true), (10, true), (11, true), (12, true), (13, true), (14, true), (15, true), (16, true), (17, true), (18, true), (19, true), (20, true), (21, true), (22, true), (23, true), (24, true), (25, true), (26, true), (27, true), (28, true), (29, true), (30, true), (31, true), (32, true), (33, true), (34, true)] _ (by kernel_rfl) (by kernel_rfl) (by kernel_rfl) rfl (fun _ h => h) ?_
          iterate 2 refine dp rfl rfl ?_
          have hk1 : k < l.length := idx_of h50
          obtain ⟨sb, so, e0, hx⟩ := (hls.mono hMk).open (by intro e; have := congrArg List.length e; rw [flat_len icell 5 icell_len, List.length_nil] at this; have h2 := congrArg List.length hlp; rw [List.length_map] at h2; omega)
          subst e0
          obtain ⟨va, vc, hcl, hvc, hvs⟩ := items_get hx hlp (fun p hp => (hlb p hp).mono hMk) hk1
          have hlo := hR.lo k hk1
          have hhi := hR.hi k hk1
          have hfd := hR.fd k hk1
          refine jd_q rfl rfl rfl (qIdxS rfl rfl rfl rfl (by omega)) ?_
          refine jd_q rfl rfl rfl (qFieldAddr rfl rfl rfl rfl rfl) ?_
          refine jd_q rfl rfl rfl (qLdA (cs := kcells l[k].key) rfl rfl rfl rfl rfl (fun i v hv => (hcl i v (by match i, hv with | 0, hv => simpa [kcells] using hv | 1, hv => simpa [kcells] using hv | 2, hv => simpa [kcells] using hv | n + 3, hv => simp [kcells] at hv)).cj _)) ?_
          refine jd_q rfl rfl rfl (qLdL rfl rfl rfl rfl rfl (by first | (simp only [Nat.reduceAdd, Nat.zero_add, Nat.add_zero, List.drop_succ_cons, List.drop_zero, List.drop_nil, List.take_succ_cons, List.take_zero, List.take_nil, List.cons_append, List.nil_append, List.append_nil, List.length_cons, List.length_nil]; done) | (simp only [Nat.reduceAdd, Nat.zero_add, Nat.add_zero, List.drop_succ_cons, List.drop_zero, List.drop_nil, List.take_succ_cons, List.take_zero, List.take_nil, List.cons_append, List.nil_append, List.append_nil, List.length_cons, List.length_nil]; rfl) | rfl)) ?_
          refine jd_q rfl rfl rfl (qEq (qCall rfl rfl rfl rfl rfl (by kernel_rfl) (less_spec l[k].key a _)) (v' := .bool false) (by rw [hlo])) ?_
          refine dp rfl rfl ?_
          refine jd_q rfl rfl rfl (qLdL rfl rfl rfl rfl rfl (by first | (simp only [Nat.reduceAdd, Nat.zero_add, Nat.add_zero, List.drop_succ_cons, List.drop_zero, List.drop_nil, List.take_succ_cons, List.take_zero, List.take_nil, List.cons_append, List.nil_append, List.append_nil, List.length_cons, List.length_nil]; done) | (simp only [Nat.reduceAdd, Nat.zero_add, Nat.add_zero, List.drop_succ_cons, List.drop_zero, List.drop_nil, List.take_succ_cons, List.take_zero, List.take_nil, List.cons_append, List.nil_append, List.append_nil, List.length_cons, List.length_nil]; rfl) | rfl)) ?_
          iterate 2 refine dp rfl rfl ?_
          refine jd_q rfl rfl rfl (qIdxS rfl rfl rfl rfl (by omega)) ?_
          refine jd_q rfl rfl rfl (qFieldAddr rfl rfl rfl rfl rfl) ?_
          refine jd_q rfl rfl rfl (qLdA (cs := kcells l[k].key) rfl rfl rfl rfl rfl (fun i v hv => (hcl i v (by match i, hv with | 0, hv => simpa [kcells] using hv | 1, hv => simpa [kcells] using hv | 2, hv => simpa [kcells] using hv | n + 3, hv => simp [kcells] at hv)).cj _)) ?_
          refine jd_q rfl rfl rfl (qEq (qCall rfl rfl rfl rfl rfl (by kernel_rfl) (less_spec b l[k].key _)) (v' := .bool false) (by rw [hhi])) ?_
          iterate 3 refine dp rfl rfl ?_
          refine ds rfl rfl (fun h71 => ?_) (fun h71 => ?_)
          · iterate 3 refine dp rfl rfl ?_
            refine da rfl rfl (by omega) ?_
            obtain ⟨j, hj⟩ : ∃ j, k = j + 1 := ⟨k - 1, by omega⟩
            have hj1 : j < l.length := by omega
            obtain ⟨wa, wc, hcj, -, -⟩ := items_get hx hlp (fun p hp => (hlb p hp).mono hMk) hj1
            have hup : kless l[j].key l[k].key = true := by subst hj; exact hR.up j hk1
            refine jd_q rfl rfl rfl (qEq (qIdxS rfl rfl rfl rfl (by omega)) (v' := .pointer (some ⟨sb, so + j * 5, none⟩)) (by congr 3; omega)) ?_
            refine jd_q rfl rfl rfl (qFieldAddr rfl rfl rfl rfl rfl) ?_
            refine jd_q rfl rfl rfl (qLdA (cs := kcells l[j].key) rfl rfl rfl rfl rfl (fun i v hv => (hcj i v (by match i, hv with | 0, hv => simpa [kcells] using hv | 1, hv => simpa [kcells] using hv | 2, hv => simpa [kcells] using hv | n + 3, hv => simp [kcells] at hv)).cj _)) ?_
            iterate 2 refine dp rfl rfl ?_
            refine jd_q rfl rfl rfl (qIdxS rfl rfl rfl rfl (by omega)) ?_
            refine jd_q rfl rfl rfl (qFieldAddr rfl rfl rfl rfl rfl) ?_
            refine jd_q rfl rfl rfl (qLdA (cs := kcells l[k].key) rfl rfl rfl rfl rfl (fun i v hv => (hcl i v (by match i, hv with | 0, hv => simpa [kcells] using hv | 1, hv => simpa [kcells] using hv | 2, hv => simpa [kcells] using hv | n + 3, hv => simp [kcells] at hv)).cj _)) ?_
            refine jd_q rfl rfl rfl (qEq (qCall rfl rfl rfl rfl rfl (by kernel_rfl) (less_spec l[j].key l[k].key _)) (v' := .bool true) (by rw [hup])) ?_
            iterate 3 refine dp rfl rfl ?_
            refine jd_nil ?_
            refine jPn ?_
            refine jT ?_
            refine jc_no rfl ?_
            refine jc_skip ?_
            refine jT ?_
            refine jc_seq ?_
            refine jc_seq ?_
            refine jc_region ?_
            refine jp rfl ?_
            refine jl_q rfl rfl (qRem rfl rfl rfl rfl (by omega) (by omega)) ?_
            refine js rfl (fun h90 => ?_) (fun h90 => ?_)
            · refine jl_nil ?_
              refine jT ?_
              refine jc_yes rfl ?_
              refine jc_exit ?_
              refine jTx ?_
              refine jBx ?_
              refine jT ?_
              refine jc_region ?_
              refine jp rfl ?_
              refine ja rfl (by omega) ?_
              refine jp rfl ?_
              refine jl_nil ?_
              refine j_again (k + 1, Mk) (Keep.cons (t := 1) rfl (Keep.cons (t := 4) rfl (Keep.cons (t := 6) rfl (Keep.cons (t := 7) rfl (Keep.cons (t := 9) rfl (Keep.cons (t := 10) rfl (Keep.cons (t := 12) rfl Keep.nil))))))) ⟨by show k + 1 ≤ l.length; omega, hMk⟩ (by show l.length - (k + 1) < l.length - k; omega) (fun _ h => h.fewer (by simp))
            · refine jl_nil ?_
              refine jT ?_
              refine jc_no rfl ?_
              refine jc_skip ?_
              refine jT ?_
              refine jc_seq ?_
              refine jc_drawA ([(b4, .cells [bv, wv, nv, lw].toArray TSt (0, 0))]) (by kernel_rfl) (by simp) ?_
              refine ja_q (i := 0) rfl (by kernel_rfl) (by kernel_rfl) rfl rfl (qLdL rfl rfl rfl rfl rfl (by first | (simp only [Nat.reduceAdd, Nat.zero_add, Nat.add_zero, List.drop_succ_cons, List.drop_zero, List.drop_nil, List.take_succ_cons, List.take_zero, List.take_nil, List.cons_append, List.nil_append, List.append_nil, List.length_cons, List.length_nil]; done) | (simp only [Nat.reduceAdd, Nat.zero_add, Nat.add_zero, List.drop_succ_cons, List.drop_zero, List.drop_nil, List.take_succ_cons, List.take_zero, List.take_nil, List.cons_append, List.nil_append, List.append_nil, List.length_cons, List.length_nil]; rfl) | rfl)) ?_
              refine ja_p (i := 1) rfl (by kernel_rfl) (by kernel_rfl) rfl ?_
              refine ja_p (i := 2) rfl (by kernel_rfl) (by kernel_rfl) rfl ?_
              refine ja_p (i := 3) rfl (by kernel_rfl) (by kernel_rfl) rfl ?_
              refine ja_q (i := 4) rfl (by kernel_rfl) (by kernel_rfl) rfl rfl (qIdxS rfl rfl rfl rfl (by omega)) ?_
              refine ja_q (i := 5) rfl (by kernel_rfl) (by kernel_rfl) rfl rfl (qFieldAddr rfl rfl rfl rfl rfl) ?_
              refine ja_q (i := 6) rfl (by kernel_rfl) (by kernel_rfl) rfl rfl (qLdA (cs := kcells l[k].key) rfl rfl rfl rfl rfl (fun i v hv => (hcl i v (by match i, hv with | 0, hv => simpa [kcells] using hv | 1, hv => simpa [kcells] using hv | 2, hv => simpa [kcells] using hv | n + 3, hv => simp [kcells] at hv)).cj _)) ?_
              refine ja_merge (α := Mem × Option Addr × Nat × Nat) (fun y => MLe Mk y.1 ∧ l[k].val.length ≤ y.2.2.1 ∧ SM y.1 y.2.1 (bcells l[k].val)) (fun y => [(1, .int .i64 root), (4, .pointer (some ⟨b4, 0, none⟩)), (6, .pointer (some ⟨b6, 0, none⟩)), (7, .pointer (some ⟨b7, 0, none⟩)), (9, .bool true), (10, .slice (some ⟨sb, so, none⟩) l.length lc), (12, .int .i64 (k : Int)), (13, .pointer (some ⟨y.2.2.2, 0, none⟩)), (100, .agg (itc l[k] y.2.1 y.2.2.1).toArray), (101, .int .i64 0)]) (fun y => y.1) (fun y => (y.2.2.2, .cells [.int .u8 0, .int .u32 0, .int .u32 0, .int .i64 0, .slice none 0 0].toArray IT (0, 0)) :: [(b7, .cells (kcells b).toArray 31 (0, 0)), (b6, .cells (kcells a).toArray 31 (0, 0)), (b4, .cells [bv, wv, nv, lw].toArray TSt (0, 0))]) 2 #[true, true, true, true, true, true, true, true, true, true, true, true, false, false] ?_ (fun rest => ?_)
              · rintro ⟨Mf, fa, fc, b13⟩ ⟨hMf, hfl, hfs⟩
                try dsimp only at hMf hfl hfs ⊢
                refine ja_one (i := 12) (by kernel_rfl) ?_
                refine js_s rfl rfl (hStoreL rfl rfl rfl rfl rfl rfl rfl rfl (by first | (simp only [Nat.reduceAdd, Nat.zero_add, Nat.add_zero, List.drop_succ_cons, List.drop_zero, List.drop_nil, List.take_succ_cons, List.take_zero, List.take_nil, List.cons_append, List.nil_append, List.append_nil, List.length_cons, List.length_nil]; done) | (simp only [Nat.reduceAdd, Nat.zero_add, Nat.add_zero, List.drop_succ_cons, List.drop_zero, List.drop_nil, List.take_succ_cons, List.take_zero, List.take_nil, List.cons_append, List.nil_append, List.append_nil, List.length_cons, List.length_nil]; rfl) | rfl)) ?_; rintro _ _ _ ⟨rfl, rfl⟩
                refine ja_grow (hMf) (by simp) ?_
                refine ja_p (i := 13) rfl (by kernel_rfl) (by kernel_rfl) rfl ?_
                refine ja_end (by kernel_rfl) ?_
                refine jPn ?_
                refine jT ?_
                refine jc_seq ?_
                refine jc_draw [(0, true), (1, true), (2, true), (3, true), (4, true), (5, true), (6, true), (7, true), (8, true), (9, true), (10, true)] _ (by kernel_rfl) (by kernel_rfl) (by kernel_rfl) rfl (fun _ h => h) ?_
                refine dp rfl rfl ?_
                refine df rfl rfl (decide_eq_false (by omega)) ?_
                refine dp rfl rfl ?_
                refine jd_q rfl rfl rfl (qLdL rfl rfl rfl rfl rfl (by first | (simp only [Nat.reduceAdd, Nat.zero_add, Nat.add_zero, List.drop_succ_cons, List.drop_zero, List.drop_nil, List.take_succ_cons, List.take_zero, List.take_nil, List.cons_append, List.nil_append, List.append_nil, List.length_cons, List.length_nil]; done) | (simp only [Nat.reduceAdd, Nat.zero_add, Nat.add_zero, List.drop_succ_cons, List.drop_zero, List.drop_nil, List.take_succ_cons, List.take_zero, List.take_nil, List.cons_append, List.nil_append, List.append_nil, List.length_cons, List.length_nil]; rfl) | rfl)) ?_
                iterate 2 refine dp rfl rfl ?_
                refine jd_q rfl rfl rfl (qIdxS rfl rfl rfl rfl (by omega)) ?_
                refine jd_q rfl rfl rfl (qLdA (cs := itc l[k] va vc) rfl rfl rfl rfl rfl (fun i v hv => ((hcl i v hv).mono hMf).cj _)) ?_
                refine jd_q rfl rfl rfl (qEq (qCall rfl rfl rfl rfl rfl (by kernel_rfl) (itsame_spec l[k] l[k] _ _ Mf ⟨fa, fc, rfl, hfl, hfs⟩ ⟨va, vc, rfl, hvc, hvs.mono hMf⟩)) (v' := .bool true) (by simp)) ?_
                iterate 2 refine dp rfl rfl ?_
                refine jd_nil ?_
                refine jPn ?_
                refine jT ?_
                refine jc_no rfl ?_
                refine jc_skip ?_
                refine jB ?_
                refine jT ?_
                refine jc_region ?_
                refine jp rfl ?_
                refine ja rfl (by omega) ?_
                refine jp rfl ?_
                refine jl_nil ?_
                refine j_again (k + 1, Mf) (Keep.cons (t := 1) rfl (Keep.cons (t := 4) rfl (Keep.cons (t := 6) rfl (Keep.cons (t := 7) rfl (Keep.cons (t := 9) rfl (Keep.cons (t := 10) rfl (Keep.cons (t := 12) rfl Keep.nil))))))) ⟨by show k + 1 ≤ l.length; omega, hMk.trans hMf⟩ (by show l.length - (k + 1) < l.length - k; omega) (fun _ h => h.fewer (by simp))
              refine ja_fork [7, 11] (by kernel_rfl) rfl ⟨?_, ?_, trivial⟩
              · refine js_h rfl rfl rfl (hCall rfl rfl rfl rfl rfl (by kernel_rfl) (find_spec s _ root l[k].key Mk (hST.mono (hM3.trans hMk)))) ?_; rintro _ M7 _ ⟨hM7, R7, rfl, hfp, rfl⟩
                refine ja_grow (hM7) (by simp) ?_
                simp only [List.nil_append]
                obtain ⟨fa, fc, rfl, hfl, hfs⟩ := hfp.is (Classical.not_not.1 h32) hfd
                refine ja_p (i := 8) rfl (by kernel_rfl) (by kernel_rfl) rfl ?_
                refine ja_p (i := 9) rfl (by kernel_rfl) (by kernel_rfl) rfl ?_
                refine ja_p (i := 10) rfl (by kernel_rfl) (by kernel_rfl) rfl ?_
                refine ja_fork [11] (by kernel_rfl) rfl ⟨?_, trivial⟩
                · refine js_h rfl rfl rfl (hAlloc rfl rfl) ?_; rintro _ _ _ ⟨b13, rfl, rfl, rfl⟩
                  refine ja_grow (hM7) (by simp) ?_
                  refine ja_cast (listed' := #[true, true, true, true, true, true, true, true, true, true, true, true, false, false]) (by kernel_rfl) (ja_keep (Keep.cons (t := 1) rfl (Keep.cons (t := 4) rfl (Keep.cons (t := 6) rfl (Keep.cons (t := 7) rfl (Keep.cons (t := 9) rfl (Keep.cons (t := 10) rfl (Keep.cons (t := 12) rfl (Keep.cons (t := 13) rfl (Keep.cons (t := 100) rfl (Keep.cons (t := 101) rfl Keep.nil)))))))))) ?_)
                  refine ja_weak (M2 := M7) (L2 := (b13, .cells [.int .u8 0, .int .u32 0, .int .u32 0, .int .i64 0, .slice none 0 0].toArray IT (0, 0)) :: [(b7, .cells (kcells b).toArray 31 (0, 0)), (b6, .cells (kcells a).toArray 31 (0, 0)), (b4, .cells [bv, wv, nv, lw].toArray TSt (0, 0))]) (fun w h => h.perm (Rm.perm (g := b13))) hM7 (by simp) ?_
                  exact rest (M7, fa, fc, b13) ⟨hM7, hfl, hfs⟩
              · refine js_h rfl rfl rfl (hAlloc rfl rfl) ?_; rintro _ _ _ ⟨b13, rfl, rfl, rfl⟩
                refine ja_grow (MLe.refl _) (by simp) ?_
                refine ja_fork [7] (by kernel_rfl) rfl ⟨?_, trivial⟩
                · refine js_h rfl rfl rfl (hCall rfl rfl rfl rfl rfl (by kernel_rfl) (find_spec s _ root l[k].key Mk (hST.mono (hM3.trans hMk)))) ?_; rintro _ M7 _ ⟨hM7, R7, rfl, hfp, rfl⟩
                  refine ja_grow (hM7) (by simp) ?_
                  simp only [List.nil_append]
                  obtain ⟨fa, fc, rfl, hfl, hfs⟩ := hfp.is (Classical.not_not.1 h32) hfd
                  refine ja_p (i := 8) rfl (by kernel_rfl) (by kernel_rfl) rfl ?_
                  refine ja_p (i := 9) rfl (by kernel_rfl) (by kernel_rfl) rfl ?_
                  refine ja_p (i := 10) rfl (by kernel_rfl) (by kernel_rfl) rfl ?_
                  refine ja_cast (listed' := #[true, true, true, true, true, true, true, true, true, true, true, true, false, false]) (by kernel_rfl) (ja_keep (Keep.cons (t := 1) rfl (Keep.cons (t := 4) rfl (Keep.cons (t := 6) rfl (Keep.cons (t := 7) rfl (Keep.cons (t := 9) rfl (Keep.cons (t := 10) rfl (Keep.cons (t := 12) rfl (Keep.cons (t := 13) rfl (Keep.cons (t := 100) rfl (Keep.cons (t := 101) rfl Keep.nil)))))))))) ?_)
                  refine ja_weak (M2 := M7) (L2 := (b13, .cells [.int .u8 0, .int .u32 0, .int .u32 0, .int .i64 0, .slice none 0 0].toArray IT (0, 0)) :: [(b7, .cells (kcells b).toArray 31 (0, 0)), (b6, .cells (kcells a).toArray 31 (0, 0)), (b4, .cells [bv, wv, nv, lw].toArray TSt (0, 0))]) (fun w h => h.perm (Rm.perm (g := b13))) hM7 (by simp) ?_
                  exact rest (M7, fa, fc, b13) ⟨hM7, hfl, hfs⟩
          · iterate 16 refine dp rfl rfl ?_
            refine jd_nil ?_
            refine jPn ?_
            refine jT ?_
            refine jc_no rfl ?_
            refine jc_skip ?_
            refine jT ?_
            refine jc_seq ?_
            refine jc_seq ?_
            refine jc_region ?_
            refine jp rfl ?_
            refine jl_q rfl rfl (qRem rfl rfl rfl rfl (by omega) (by omega)) ?_
            refine js rfl (fun h90 => ?_) (fun h90 => ?_)
            · refine jl_nil ?_
              refine jT ?_
              refine jc_yes rfl ?_
              refine jc_exit ?_
              refine jTx ?_
              refine jBx ?_
              refine jT ?_
              refine jc_region ?_
              refine jp rfl ?_
              refine ja rfl (by omega) ?_
              refine jp rfl ?_
              refine jl_nil ?_
              refine j_again (k + 1, Mk) (Keep.cons (t := 1) rfl (Keep.cons (t := 4) rfl (Keep.cons (t := 6) rfl (Keep.cons (t := 7) rfl (Keep.cons (t := 9) rfl (Keep.cons (t := 10) rfl (Keep.cons (t := 12) rfl Keep.nil))))))) ⟨by show k + 1 ≤ l.length; omega, hMk⟩ (by show l.length - (k + 1) < l.length - k; omega) (fun _ h => h.fewer (by simp))
            · refine jl_nil ?_
              refine jT ?_
              refine jc_no rfl ?_
              refine jc_skip ?_
              refine jT ?_
              refine jc_seq ?_
              refine jc_drawA ([(b4, .cells [bv, wv, nv, lw].toArray TSt (0, 0))]) (by kernel_rfl) (by simp) ?_
              refine ja_q (i := 0) rfl (by kernel_rfl) (by kernel_rfl) rfl rfl (qLdL rfl rfl rfl rfl rfl (by first | (simp only [Nat.reduceAdd, Nat.zero_add, Nat.add_zero, List.drop_succ_cons, List.drop_zero, List.drop_nil, List.take_succ_cons, List.take_zero, List.take_nil, List.cons_append, List.nil_append, List.append_nil, List.length_cons, List.length_nil]; done) | (simp only [Nat.reduceAdd, Nat.zero_add, Nat.add_zero, List.drop_succ_cons, List.drop_zero, List.drop_nil, List.take_succ_cons, List.take_zero, List.take_nil, List.cons_append, List.nil_append, List.append_nil, List.length_cons, List.length_nil]; rfl) | rfl)) ?_
              refine ja_p (i := 1) rfl (by kernel_rfl) (by kernel_rfl) rfl ?_
              refine ja_p (i := 2) rfl (by kernel_rfl) (by kernel_rfl) rfl ?_
              refine ja_p (i := 3) rfl (by kernel_rfl) (by kernel_rfl) rfl ?_
              refine ja_q (i := 4) rfl (by kernel_rfl) (by kernel_rfl) rfl rfl (qIdxS rfl rfl rfl rfl (by omega)) ?_
              refine ja_q (i := 5) rfl (by kernel_rfl) (by kernel_rfl) rfl rfl (qFieldAddr rfl rfl rfl rfl rfl) ?_
              refine ja_q (i := 6) rfl (by kernel_rfl) (by kernel_rfl) rfl rfl (qLdA (cs := kcells l[k].key) rfl rfl rfl rfl rfl (fun i v hv => (hcl i v (by match i, hv with | 0, hv => simpa [kcells] using hv | 1, hv => simpa [kcells] using hv | 2, hv => simpa [kcells] using hv | n + 3, hv => simp [kcells] at hv)).cj _)) ?_
              refine ja_merge (α := Mem × Option Addr × Nat × Nat) (fun y => MLe Mk y.1 ∧ l[k].val.length ≤ y.2.2.1 ∧ SM y.1 y.2.1 (bcells l[k].val)) (fun y => [(1, .int .i64 root), (4, .pointer (some ⟨b4, 0, none⟩)), (6, .pointer (some ⟨b6, 0, none⟩)), (7, .pointer (some ⟨b7, 0, none⟩)), (9, .bool true), (10, .slice (some ⟨sb, so, none⟩) l.length lc), (12, .int .i64 (k : Int)), (13, .pointer (some ⟨y.2.2.2, 0, none⟩)), (100, .agg (itc l[k] y.2.1 y.2.2.1).toArray), (101, .int .i64 0)]) (fun y => y.1) (fun y => (y.2.2.2, .cells [.int .u8 0, .int .u32 0, .int .u32 0, .int .i64 0, .slice none 0 0].toArray IT (0, 0)) :: [(b7, .cells (kcells b).toArray 31 (0, 0)), (b6, .cells (kcells a).toArray 31 (0, 0)), (b4, .cells [bv, wv, nv, lw].toArray TSt (0, 0))]) 2 #[true, true, true, true, true, true, true, true, true, true, true, true, false, false] ?_ (fun rest => ?_)
              · rintro ⟨Mf, fa, fc, b13⟩ ⟨hMf, hfl, hfs⟩
                try dsimp only at hMf hfl hfs ⊢
                refine ja_one (i := 12) (by kernel_rfl) ?_
                refine js_s rfl rfl (hStoreL rfl rfl rfl rfl rfl rfl rfl rfl (by first | (simp only [Nat.reduceAdd, Nat.zero_add, Nat.add_zero, List.drop_succ_cons, List.drop_zero, List.drop_nil, List.take_succ_cons, List.take_zero, List.take_nil, List.cons_append, List.nil_append, List.append_nil, List.length_cons, List.length_nil]; done) | (simp only [Nat.reduceAdd, Nat.zero_add, Nat.add_zero, List.drop_succ_cons, List.drop_zero, List.drop_nil, List.take_succ_cons, List.take_zero, List.take_nil, List.cons_append, List.nil_append, List.append_nil, List.length_cons, List.length_nil]; rfl) | rfl)) ?_; rintro _ _ _ ⟨rfl, rfl⟩
                refine ja_grow (hMf) (by simp) ?_
                refine ja_p (i := 13) rfl (by kernel_rfl) (by kernel_rfl) rfl ?_
                refine ja_end (by kernel_rfl) ?_
                refine jPn ?_
                refine jT ?_
                refine jc_seq ?_
                refine jc_draw [(0, true), (1, true), (2, true), (3, true), (4, true), (5, true), (6, true), (7, true), (8, true), (9, true), (10, true)] _ (by kernel_rfl) (by kernel_rfl) (by kernel_rfl) rfl (fun _ h => h) ?_
                refine dp rfl rfl ?_
                refine df rfl rfl (decide_eq_false (by omega)) ?_
                refine dp rfl rfl ?_
                refine jd_q rfl rfl rfl (qLdL rfl rfl rfl rfl rfl (by first | (simp only [Nat.reduceAdd, Nat.zero_add, Nat.add_zero, List.drop_succ_cons, List.drop_zero, List.drop_nil, List.take_succ_cons, List.take_zero, List.take_nil, List.cons_append, List.nil_append, List.append_nil, List.length_cons, List.length_nil]; done) | (simp only [Nat.reduceAdd, Nat.zero_add, Nat.add_zero, List.drop_succ_cons, List.drop_zero, List.drop_nil, List.take_succ_cons, List.take_zero, List.take_nil, List.cons_append, List.nil_append, List.append_nil, List.length_cons, List.length_nil]; rfl) | rfl)) ?_
                iterate 2 refine dp rfl rfl ?_
                refine jd_q rfl rfl rfl (qIdxS rfl rfl rfl rfl (by omega)) ?_
                refine jd_q rfl rfl rfl (qLdA (cs := itc l[k] va vc) rfl rfl rfl rfl rfl (fun i v hv => ((hcl i v hv).mono hMf).cj _)) ?_
                refine jd_q rfl rfl rfl (qEq (qCall rfl rfl rfl rfl rfl (by kernel_rfl) (itsame_spec l[k] l[k] _ _ Mf ⟨fa, fc, rfl, hfl, hfs⟩ ⟨va, vc, rfl, hvc, hvs.mono hMf⟩)) (v' := .bool true) (by simp)) ?_
                iterate 2 refine dp rfl rfl ?_
                refine jd_nil ?_
                refine jPn ?_
                refine jT ?_
                refine jc_no rfl ?_
                refine jc_skip ?_
                refine jB ?_
                refine jT ?_
                refine jc_region ?_
                refine jp rfl ?_
                refine ja rfl (by omega) ?_
                refine jp rfl ?_
                refine jl_nil ?_
                refine j_again (k + 1, Mf) (Keep.cons (t := 1) rfl (Keep.cons (t := 4) rfl (Keep.cons (t := 6) rfl (Keep.cons (t := 7) rfl (Keep.cons (t := 9) rfl (Keep.cons (t := 10) rfl (Keep.cons (t := 12) rfl Keep.nil))))))) ⟨by show k + 1 ≤ l.length; omega, hMk.trans hMf⟩ (by show l.length - (k + 1) < l.length - k; omega) (fun _ h => h.fewer (by simp))
              refine ja_fork [7, 11] (by kernel_rfl) rfl ⟨?_, ?_, trivial⟩
              · refine js_h rfl rfl rfl (hCall rfl rfl rfl rfl rfl (by kernel_rfl) (find_spec s _ root l[k].key Mk (hST.mono (hM3.trans hMk)))) ?_; rintro _ M7 _ ⟨hM7, R7, rfl, hfp, rfl⟩
                refine ja_grow (hM7) (by simp) ?_
                simp only [List.nil_append]
                obtain ⟨fa, fc, rfl, hfl, hfs⟩ := hfp.is (Classical.not_not.1 h32) hfd
                refine ja_p (i := 8) rfl (by kernel_rfl) (by kernel_rfl) rfl ?_
                refine ja_p (i := 9) rfl (by kernel_rfl) (by kernel_rfl) rfl ?_
                refine ja_p (i := 10) rfl (by kernel_rfl) (by kernel_rfl) rfl ?_
                refine ja_fork [11] (by kernel_rfl) rfl ⟨?_, trivial⟩
                · refine js_h rfl rfl rfl (hAlloc rfl rfl) ?_; rintro _ _ _ ⟨b13, rfl, rfl, rfl⟩
                  refine ja_grow (hM7) (by simp) ?_
                  refine ja_cast (listed' := #[true, true, true, true, true, true, true, true, true, true, true, true, false, false]) (by kernel_rfl) (ja_keep (Keep.cons (t := 1) rfl (Keep.cons (t := 4) rfl (Keep.cons (t := 6) rfl (Keep.cons (t := 7) rfl (Keep.cons (t := 9) rfl (Keep.cons (t := 10) rfl (Keep.cons (t := 12) rfl (Keep.cons (t := 13) rfl (Keep.cons (t := 100) rfl (Keep.cons (t := 101) rfl Keep.nil)))))))))) ?_)
                  refine ja_weak (M2 := M7) (L2 := (b13, .cells [.int .u8 0, .int .u32 0, .int .u32 0, .int .i64 0, .slice none 0 0].toArray IT (0, 0)) :: [(b7, .cells (kcells b).toArray 31 (0, 0)), (b6, .cells (kcells a).toArray 31 (0, 0)), (b4, .cells [bv, wv, nv, lw].toArray TSt (0, 0))]) (fun w h => h.perm (Rm.perm (g := b13))) hM7 (by simp) ?_
                  exact rest (M7, fa, fc, b13) ⟨hM7, hfl, hfs⟩
              · refine js_h rfl rfl rfl (hAlloc rfl rfl) ?_; rintro _ _ _ ⟨b13, rfl, rfl, rfl⟩
                refine ja_grow (MLe.refl _) (by simp) ?_
                refine ja_fork [7] (by kernel_rfl) rfl ⟨?_, trivial⟩
                · refine js_h rfl rfl rfl (hCall rfl rfl rfl rfl rfl (by kernel_rfl) (find_spec s _ root l[k].key Mk (hST.mono (hM3.trans hMk)))) ?_; rintro _ M7 _ ⟨hM7, R7, rfl, hfp, rfl⟩
                  refine ja_grow (hM7) (by simp) ?_
                  simp only [List.nil_append]
                  obtain ⟨fa, fc, rfl, hfl, hfs⟩ := hfp.is (Classical.not_not.1 h32) hfd
                  refine ja_p (i := 8) rfl (by kernel_rfl) (by kernel_rfl) rfl ?_
                  refine ja_p (i := 9) rfl (by kernel_rfl) (by kernel_rfl) rfl ?_
                  refine ja_p (i := 10) rfl (by kernel_rfl) (by kernel_rfl) rfl ?_
                  refine ja_cast (listed' := #[true, true, true, true, true, true, true, true, true, true, true, true, false, false]) (by kernel_rfl) (ja_keep (Keep.cons (t := 1) rfl (Keep.cons (t := 4) rfl (Keep.cons (t := 6) rfl (Keep.cons (t := 7) rfl (Keep.cons (t := 9) rfl (Keep.cons (t := 10) rfl (Keep.cons (t := 12) rfl (Keep.cons (t := 13) rfl (Keep.cons (t := 100) rfl (Keep.cons (t := 101) rfl Keep.nil)))))))))) ?_)
                  refine ja_weak (M2 := M7) (L2 := (b13, .cells [.int .u8 0, .int .u32 0, .int .u32 0, .int .i64 0, .slice none 0 0].toArray IT (0, 0)) :: [(b7, .cells (kcells b).toArray 31 (0, 0)), (b6, .cells (kcells a).toArray 31 (0, 0)), (b4, .cells [bv, wv, nv, lw].toArray TSt (0, 0))]) (fun w h => h.perm (Rm.perm (g := b13))) hM7 (by simp) ?_
                  exact rest (M7, fa, fc, b13) ⟨hM7, hfl, hfs⟩
        · refine jl_nil ?_
          refine jT ?_
          refine jc_no rfl ?_
          refine jc_exit ?_
          refine jTx ?_
          refine jTx ?_
          refine jBx ?_
          refine jT ?_
          refine jc_seq ?_
          refine jc_region ?_
          iterate 2 refine jp rfl ?_
          refine jl_nil ?_
          refine jT ?_
          refine jc_ret ?_
          refine jr1 rfl rfl ?_
          rfl

end Go.Proofs.Ytjibkdpeijcnkaa
