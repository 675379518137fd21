/- CommitTwice's function is walked. -/
import Derived.Test.YtjdmhbenpeedeaaAlivec
namespace Go.Proofs.Ytjdmhbenpeedeaa
set_option linter.unusedVariables false
set_option linter.unusedSimpArgs false
open Go.RowKit

/-- between two rounds -/
structure Tw where
  r : Nat
  M : Mem
  P : Po
  x : V5
  y : V5
theorem ask_err {p : Po} (h : askC p ≠ 0) : askC p = poChk p ∨ (askC p = 9 ∧ p.gen = 4294967295) := by
  unfold askC at h ⊢
  split
  · exact .inl rfl
  · rename_i h1
    rw [if_neg h1] at h
    split
    · rename_i h2; exact .inr ⟨rfl, h2⟩
    · rename_i h2; rw [if_neg h2] at h; exact absurd rfl h
theorem cmt_err {p : Po} (h : askC p = 0) (hn : PoN p) (h2 : askC (cmt p) ≠ 0) : p.gen + 1 = 4294967295 := Classical.byContradiction fun hg => h2 (cmt_ask h hn hg)

set_option maxHeartbeats 4000000 in
theorem ctwice_walk (p : Po) (x0 : V5) (M : Mem) (h : PT5 M x0 p) (hgen : 0 ≤ p.gen ∧ p.gen < 4294967296) (hnxt : 0 ≤ p.next ∧ p.next < 4294967296) :
    SpecL Try.prog 3 #[.agg (pcl x0 p.gen p.root p.next).toArray] M [] fun u M' L' => u = .bool true ∧ L' = [] := by
  refine spec_body (vs := [_]) 145 _ Try.func3 rfl Try.ntmps3 rfl rfl ?_; intro W
  refine jc_seq ?_
  refine jc_region ?_
  refine jl_h rfl rfl (hBox (cs := [_, _, _, _, _, _, _, _]) rfl rfl rfl rfl) ?_; rintro _ _ _ ⟨b1, rfl, rfl, rfl⟩
  refine jp rfl ?_
  refine jl_nil ?_
  refine jT ?_
  refine jc_seq ?_
  refine jc_region ?_
  refine jl_h rfl rfl (hCall rfl rfl rfl rfl rfl (by kernel_rfl) (alive_spec M)) ?_; rintro _ M1 _ ⟨hM1, _, rfl, ⟨rfl, rfl⟩⟩
  simp only [List.nil_append]
  refine jp rfl ?_
  refine jl_nil ?_
  refine jT ?_
  refine jc_seq ?_
  refine jc_seq ?_
  refine jc_region ?_
  refine jl_q rfl rfl (qLdL rfl rfl rfl rfl rfl (by first | (simp only [Nat.reduceAdd, Nat.zero_add, Nat.add_zero, List.drop_succ_cons, List.drop_zero, List.drop_nil, List.take_succ_cons, List.take_zero, List.take_nil, List.cons_append, List.nil_append, List.append_nil, List.length_cons, List.length_nil]; done) | (simp only [Nat.reduceAdd, Nat.zero_add, Nat.add_zero, List.drop_succ_cons, List.drop_zero, List.drop_nil, List.take_succ_cons, List.take_zero, List.take_nil, List.cons_append, List.nil_append, List.append_nil, List.length_cons, List.length_nil]; rfl) | rfl)) ?_
  refine jl_h rfl rfl (hCall rfl rfl rfl rfl rfl (by kernel_rfl) (fgreat_spec x0 p.gen p.root p.next p M1 (h.mono hM1))) ?_; rintro _ M2 _ ⟨hM2, _, rfl, ⟨⟨b, rfl, hgd⟩, rfl⟩⟩
  simp only [List.nil_append]
  refine jsb rfl (fun h13 => ?_) (fun h13 => ?_)
  · iterate 3 refine jp rfl ?_
    refine jl_nil ?_
    refine jT ?_
    refine jc_yes rfl ?_
    refine jc_seq ?_
    refine jc_region ?_
    iterate 2 refine jp rfl ?_
    refine jl_nil ?_
    refine jT ?_
    refine jc_ret ?_
    refine jTr ?_
    refine jq_drop (L' := []) (List.nil_sublist _) ?_
    refine jr1 rfl rfl ?_
    first | exact ⟨rfl, rfl⟩ | exact ⟨congrArg Value.bool (decide_eq_true (by first | rfl | (obtain ⟨he0, _⟩ | ⟨_, hne, _⟩ := hcc2; exact absurd he0 h135; exact cmt_err haP hnP hne))), rfl⟩
  · iterate 3 refine jp rfl ?_
    refine jl_nil ?_
    refine jT ?_
    refine jc_no rfl ?_
    refine jc_skip ?_
    refine jT ?_
    refine jc_seq ?_
    refine jc_region ?_
    refine jl_q rfl rfl (qLdL rfl rfl rfl rfl rfl (by first | (simp only [Nat.reduceAdd, Nat.zero_add, Nat.add_zero, List.drop_succ_cons, List.drop_zero, List.drop_nil, List.take_succ_cons, List.take_zero, List.take_nil, List.cons_append, List.nil_append, List.append_nil, List.length_cons, List.length_nil]; done) | (simp only [Nat.reduceAdd, Nat.zero_add, Nat.add_zero, List.drop_succ_cons, List.drop_zero, List.drop_nil, List.take_succ_cons, List.take_zero, List.take_nil, List.cons_append, List.nil_append, List.append_nil, List.length_cons, List.length_nil]; rfl) | rfl)) ?_
    have hn : PoN p := ⟨hgen, hnxt, by have := hgd h13; omega⟩
    refine jl_h rfl rfl (hCall rfl rfl rfl rfl rfl (by kernel_rfl) (commit_spec p _ M2 (h.mono (hM1.trans hM2)).pt hn)) ?_; rintro _ M3 _ ⟨hM3, _, rfl, ⟨hc, rfl⟩⟩
    simp only [List.nil_append]
    obtain ⟨y, g, r, n, e, rfl, hcc⟩ := hc.form
    iterate 3 refine jp rfl ?_
    refine jl_h rfl rfl (hAlloc rfl rfl) ?_; rintro _ _ _ ⟨b4, rfl, rfl, rfl⟩
    refine jl_s rfl (hStoreL rfl rfl rfl rfl rfl rfl rfl rfl (by first | (simp only [Nat.reduceAdd, Nat.zero_add, Nat.add_zero, List.drop_succ_cons, List.drop_zero, List.drop_nil, List.take_succ_cons, List.take_zero, List.take_nil, List.cons_append, List.nil_append, List.append_nil, List.length_cons, List.length_nil]; done) | (simp only [Nat.reduceAdd, Nat.zero_add, Nat.add_zero, List.drop_succ_cons, List.drop_zero, List.drop_nil, List.take_succ_cons, List.take_zero, List.take_nil, List.cons_append, List.nil_append, List.append_nil, List.length_cons, List.length_nil]; rfl) | rfl)) ?_; rintro _ _ _ ⟨rfl, rfl⟩
    refine jp rfl ?_
    refine jl_nil ?_
    refine jT ?_
    refine jc_seq ?_
    refine jc_seq ?_
    refine jc_region ?_
    refine jp rfl ?_
    refine js rfl (fun h24 => ?_) (fun h24 => ?_)
    · refine jl_nil ?_
      refine jT ?_
      refine jc_yes rfl ?_
      refine jc_seq ?_
      refine jc_region ?_
      iterate 3 refine jp rfl ?_
      refine jl_q rfl rfl (qLdL rfl rfl rfl rfl rfl (by first | (simp only [Nat.reduceAdd, Nat.zero_add, Nat.add_zero, List.drop_succ_cons, List.drop_zero, List.drop_nil, List.take_succ_cons, List.take_zero, List.take_nil, List.cons_append, List.nil_append, List.append_nil, List.length_cons, List.length_nil]; done) | (simp only [Nat.reduceAdd, Nat.zero_add, Nat.add_zero, List.drop_succ_cons, List.drop_zero, List.drop_nil, List.take_succ_cons, List.take_zero, List.take_nil, List.cons_append, List.nil_append, List.append_nil, List.length_cons, List.length_nil]; rfl) | rfl)) ?_
      obtain ⟨he0, _⟩ | ⟨rfl, hne, rfl⟩ := hcc
      · exact absurd he0 h24
      have hce := ask_err hne
      refine jl_h rfl rfl (hCall rfl rfl rfl rfl rfl (by kernel_rfl) (fochk_spec p _ M3 (h.mono ((hM1.trans hM2).trans hM3)).pt hn.dead)) ?_; rintro _ M4 _ ⟨hM4, _, rfl, ⟨rfl, rfl⟩⟩
      simp only [List.nil_append]
      refine js rfl (fun h30 => ?_) (fun h30 => ?_)
      · iterate 11 refine jp rfl ?_
        refine jl_q rfl rfl (qFieldAddr rfl rfl rfl rfl rfl) ?_
        refine jl_q rfl rfl (qFieldAddr rfl rfl rfl rfl rfl) ?_
        refine jl_q rfl rfl (qLd rfl rfl rfl rfl (CJ.loc rfl)) ?_
        refine jl_q rfl rfl (qLen rfl rfl rfl) ?_
        iterate 3 refine jp rfl ?_
        refine jl_nil ?_
        refine jT ?_
        refine jc_ret ?_
        refine jTr ?_
        refine jq_drop (L' := []) (List.nil_sublist _) ?_
        refine jr1 rfl rfl ?_
        first | exact ⟨rfl, rfl⟩ | exact ⟨congrArg Value.bool (decide_eq_true (by first | rfl | (obtain ⟨he0, _⟩ | ⟨_, hne, _⟩ := hcc2; exact absurd he0 h135; exact cmt_err haP hnP hne))), rfl⟩
      · iterate 2 refine jp rfl ?_
        refine jt rfl (decide_eq_true (by first | omega | (rcases hce with hce | ⟨hce, hce2⟩ <;> omega))) ?_
        refine jp rfl ?_
        refine jl_q rfl rfl (qFieldAddr rfl rfl rfl rfl rfl) ?_
        refine jl_q rfl rfl (qLd rfl rfl rfl rfl (CJ.loc rfl)) ?_
        refine jt rfl (decide_eq_true (by first | omega | (rcases hce with hce | ⟨hce, hce2⟩ <;> omega))) ?_
        iterate 4 refine jp rfl ?_
        refine jl_q rfl rfl (qFieldAddr rfl rfl rfl rfl rfl) ?_
        refine jl_q rfl rfl (qFieldAddr rfl rfl rfl rfl rfl) ?_
        refine jl_q rfl rfl (qLd rfl rfl rfl rfl (CJ.loc rfl)) ?_
        refine jl_q rfl rfl (qLen rfl rfl rfl) ?_
        iterate 3 refine jp rfl ?_
        refine jl_nil ?_
        refine jT ?_
        refine jc_ret ?_
        refine jTr ?_
        refine jq_drop (L' := []) (List.nil_sublist _) ?_
        refine jr1 rfl rfl ?_
        first | exact ⟨rfl, rfl⟩ | exact ⟨congrArg Value.bool (decide_eq_true (by first | rfl | (obtain ⟨he0, _⟩ | ⟨_, hne, _⟩ := hcc2; exact absurd he0 h135; exact cmt_err haP hnP hne))), rfl⟩
    · refine jl_nil ?_
      refine jT ?_
      refine jc_no rfl ?_
      refine jc_skip ?_
      refine jT ?_
      refine jc_seq ?_
      refine jc_seq ?_
      refine jc_region ?_
      refine jp rfl ?_
      refine jl_nil ?_
      refine jT ?_
      refine jc_block ?_
      obtain ⟨_, hask, hy, rfl, rfl, rfl⟩ | ⟨rfl, hne, _⟩ := hcc
      rotate_left
      · exact absurd (Classical.not_not.1 h24) hne
      refine jc_loopK (α := Tw) (fun s => [(1, .pointer (some ⟨b1, 0, none⟩)), (3, .bool true), (4, .pointer (some ⟨b4, 0, none⟩)), (6, .int .i64 (s.r : Int))]) (fun s => s.M) (fun s => [(b4, .cells (pcl s.y (s.P.gen + 1) s.P.root s.P.next).toArray TPo (0, 0)), (b1, .cells (pcl s.x s.P.gen s.P.root s.P.next).toArray TPo (0, 0))]) (fun s => s.r ≤ 2 ∧ askC s.P = 0 ∧ PoN s.P ∧ PT5 s.M s.x s.P ∧ PT5 s.M s.y (cmt s.P)) (fun s => 2 - s.r)
        (⟨0, M3, p, x0, y⟩ : Tw) (Keep.cons (t := 1) rfl (Keep.cons (t := 3) rfl (Keep.cons (t := 4) rfl (Keep.cons (t := 6) rfl Keep.nil)))) ⟨Nat.zero_le _, hask, hn, h.mono ((hM1.trans hM2).trans hM3), hy⟩ (fun _ h => h) ?_
      rintro ⟨r, Mk, P, x, y⟩ ⟨hr, haP, hnP, hx, hy⟩
      try dsimp only at hr haP hnP hx hy ⊢
      have hxd : x.d.n = P.dead.length := hx.d.len
      have hyd : y.d.n = P.dead.length := hy.d.len
      have hyw : y.w.n = 0 := hy.w.len
      have hgP := hnP.gen
      have hdlP := hnP.dead
      have hgm := (askC_ok haP).2
      have hnc := cmt_n haP hnP
      refine jc_seq ?_
      refine jc_seq ?_
      refine jc_region ?_
      refine jp rfl ?_
      refine js rfl (fun h49 => ?_) (fun h49 => ?_)
      · refine jl_nil ?_
        refine jT ?_
        refine jc_yes rfl ?_
        refine jc_skip ?_
        refine jT ?_
        refine jc_seq ?_
        refine jc_block ?_
        refine jc_seq ?_
        refine jc_seq ?_
        refine jc_region ?_
        refine jl_q rfl rfl (qFieldAddr rfl rfl rfl rfl rfl) ?_
        refine jl_q rfl rfl (qLd rfl rfl rfl rfl (CJ.loc rfl)) ?_
        refine jl_q rfl rfl (qFieldAddr rfl rfl rfl rfl rfl) ?_
        refine jl_q rfl rfl (qLd rfl rfl rfl rfl (CJ.loc rfl)) ?_
        refine jl_q rfl rfl (qEq (qP rfl rfl) (v' := .int .u32 (P.gen + 1)) (by congr 1; rw [IntKind.wrap_u32]; omega)) ?_
        refine jf rfl (decide_eq_false (by first | omega | (rcases hce with hce | ⟨hce, hce2⟩ <;> omega))) ?_
        refine jp rfl ?_
        refine jl_q rfl rfl (qFieldAddr rfl rfl rfl rfl rfl) ?_
        refine jl_q rfl rfl (qLd rfl rfl rfl rfl (CJ.loc rfl)) ?_
        refine jl_q rfl rfl (qFieldAddr rfl rfl rfl rfl rfl) ?_
        refine jl_q rfl rfl (qLd rfl rfl rfl rfl (CJ.loc rfl)) ?_
        refine jf rfl (decide_eq_false (by first | omega | (rcases hce with hce | ⟨hce, hce2⟩ <;> omega))) ?_
        iterate 2 refine jp rfl ?_
        refine jl_q rfl rfl (qFieldAddr rfl rfl rfl rfl rfl) ?_
        refine jl_q rfl rfl (qLd rfl rfl rfl rfl (CJ.loc rfl)) ?_
        refine jl_q rfl rfl (qFieldAddr rfl rfl rfl rfl rfl) ?_
        refine jl_q rfl rfl (qLd rfl rfl rfl rfl (CJ.loc rfl)) ?_
        refine jf rfl (decide_eq_false (by first | omega | (rcases hce with hce | ⟨hce, hce2⟩ <;> omega))) ?_
        iterate 2 refine jp rfl ?_
        refine jl_q rfl rfl (qFieldAddr rfl rfl rfl rfl rfl) ?_
        refine jl_q rfl rfl (qLd rfl rfl rfl rfl (CJ.loc rfl)) ?_
        refine jl_q rfl rfl (qLen rfl rfl rfl) ?_
        refine jl_q rfl rfl (qFieldAddr rfl rfl rfl rfl rfl) ?_
        refine jl_q rfl rfl (qLd rfl rfl rfl rfl (CJ.loc rfl)) ?_
        refine jl_q rfl rfl (qLen rfl rfl rfl) ?_
        refine jf rfl (decide_eq_false (by first | omega | (rcases hce with hce | ⟨hce, hce2⟩ <;> omega))) ?_
        iterate 2 refine jp rfl ?_
        refine jl_q rfl rfl (qFieldAddr rfl rfl rfl rfl rfl) ?_
        refine jl_q rfl rfl (qFieldAddr rfl rfl rfl rfl rfl) ?_
        refine jl_q rfl rfl (qLd rfl rfl rfl rfl (CJ.loc rfl)) ?_
        refine jl_q rfl rfl (qEq (qStr (xs := (cmt P).st.now.map fun b => (b.toNat : Int)) rfl rfl rfl (by rw [List.length_map, hy.n.len]) (by simpa [bcells, List.map_map, Function.comp_def] using hy.n.sm.sj _)) (v' := .string (strB (cmt P).st.now)) (by rw [strOfNums_b])) ?_
        refine jl_q rfl rfl (qFieldAddr rfl rfl rfl rfl rfl) ?_
        refine jl_q rfl rfl (qFieldAddr rfl rfl rfl rfl rfl) ?_
        refine jl_q rfl rfl (qLd rfl rfl rfl rfl (CJ.loc rfl)) ?_
        refine jl_q rfl rfl (qEq (qStr (xs := P.st.now.map fun b => (b.toNat : Int)) rfl rfl rfl (by rw [List.length_map, hx.n.len]) (by simpa [bcells, List.map_map, Function.comp_def] using hx.n.sm.sj _)) (v' := .string (strB P.st.now)) (by rw [strOfNums_b])) ?_
        refine jl_q rfl rfl (qEq (qP rfl rfl) (v' := .bool false) (by rw [strB_eq]; simp [cmt])) ?_
        iterate 2 refine jp rfl ?_
        refine jl_q rfl rfl (qFieldAddr rfl rfl rfl rfl rfl) ?_
        refine jl_q rfl rfl (qFieldAddr rfl rfl rfl rfl rfl) ?_
        refine jl_q rfl rfl (qLd rfl rfl rfl rfl (CJ.loc rfl)) ?_
        refine jl_q rfl rfl (qEq (qStr (xs := (cmt P).st.last.map fun b => (b.toNat : Int)) rfl rfl rfl (by rw [List.length_map, hy.l.len]) (by simpa [bcells, List.map_map, Function.comp_def] using hy.l.sm.sj _)) (v' := .string (strB (cmt P).st.last)) (by rw [strOfNums_b])) ?_
        refine jl_q rfl rfl (qFieldAddr rfl rfl rfl rfl rfl) ?_
        refine jl_q rfl rfl (qFieldAddr rfl rfl rfl rfl rfl) ?_
        refine jl_q rfl rfl (qLd rfl rfl rfl rfl (CJ.loc rfl)) ?_
        refine jl_q rfl rfl (qEq (qStr (xs := P.st.now.map fun b => (b.toNat : Int)) rfl rfl rfl (by rw [List.length_map, hx.n.len]) (by simpa [bcells, List.map_map, Function.comp_def] using hx.n.sm.sj _)) (v' := .string (strB P.st.now)) (by rw [strOfNums_b])) ?_
        refine jl_q rfl rfl (qEq (qP rfl rfl) (v' := .bool false) (by rw [strB_eq]; simp [cmt])) ?_
        iterate 2 refine jp rfl ?_
        refine jl_q rfl rfl (qFieldAddr rfl rfl rfl rfl rfl) ?_
        refine jl_q rfl rfl (qFieldAddr rfl rfl rfl rfl rfl) ?_
        refine jl_q rfl rfl (qFieldAddr rfl rfl rfl rfl rfl) ?_
        refine jl_q rfl rfl (qLd rfl rfl rfl rfl (CJ.loc rfl)) ?_
        refine jl_q rfl rfl (qLen rfl rfl rfl) ?_
        refine jf rfl (decide_eq_false (by first | omega | (rcases hce with hce | ⟨hce, hce2⟩ <;> omega))) ?_
        refine jp rfl ?_
        refine jl_nil ?_
        refine jT ?_
        refine jc_no rfl ?_
        refine jc_skip ?_
        refine jT ?_
        refine jc_seq ?_
        refine jc_seq ?_
        refine jc_region ?_
        refine jp rfl ?_
        refine jl_nil ?_
        refine jT ?_
        refine jc_block ?_
        refine jc_loopK (α := Nat) (fun j => [(1, .pointer (some ⟨b1, 0, none⟩)), (3, .bool true), (4, .pointer (some ⟨b4, 0, none⟩)), (6, .int .i64 (r : Int)), (7, .int .i64 (j : Int))]) (fun _ => Mk) (fun _ => [(b4, .cells (pcl y (P.gen + 1) P.root P.next).toArray TPo (0, 0)), (b1, .cells (pcl x P.gen P.root P.next).toArray TPo (0, 0))]) (fun j => j ≤ P.dead.length) (fun j => P.dead.length - j)
          0 (Keep.cons (t := 1) rfl (Keep.cons (t := 3) rfl (Keep.cons (t := 4) rfl (Keep.cons (t := 6) rfl (Keep.cons (t := 7) rfl Keep.nil))))) (Nat.zero_le _) (fun _ h => h) ?_
        rintro j hj
        try dsimp only at hj ⊢
        refine jc_seq ?_
        refine jc_seq ?_
        refine jc_region ?_
        refine jp rfl ?_
        refine jl_q rfl rfl (qFieldAddr rfl rfl rfl rfl rfl) ?_
        refine jl_q rfl rfl (qLd rfl rfl rfl rfl (CJ.loc rfl)) ?_
        refine jl_q rfl rfl (qLen rfl rfl rfl) ?_
        refine js rfl (fun h115 => ?_) (fun h115 => ?_)
        · refine jl_nil ?_
          refine jT ?_
          refine jc_yes rfl ?_
          refine jc_skip ?_
          refine jT ?_
          refine jc_seq ?_
          refine jc_block ?_
          refine jc_seq ?_
          refine jc_draw [(0, true), (1, true), (2, true), (3, true), (4, true), (5, true), (6, true), (7, true), (8, true), (9, true), (10, true)] _ (by kernel_rfl) (by kernel_rfl) (by kernel_rfl) rfl (fun _ h => h) ?_
          refine jd_q rfl rfl rfl (qFieldAddr rfl rfl rfl rfl rfl) ?_
          refine jd_q rfl rfl rfl (qLd rfl rfl rfl rfl (CJ.loc rfl)) ?_
          refine dp rfl rfl ?_
          have hj1 : j < P.dead.length := by omega
          obtain ⟨qyb, qyo, e0qy, qyx⟩ := (hy.d.sm).open (by intro e; have := congrArg List.length e; rw [icells_len, List.length_nil] at this; first | omega | (change P.dead.length = 0 at this; omega))
          refine jd_q rfl rfl rfl (qIdxS (b := qyb) (off := qyo) rfl rfl (by show some (Value.slice _ _ _) = _; rw [e0qy]) rfl (by omega)) ?_
          refine jd_q rfl rfl rfl (qLd (v := .int .i64 P.dead[j]) rfl rfl rfl rfl ((qyx _ _ (by rw [Nat.mul_one]; simp [icells, hj1, cmt])).cj _)) ?_
          refine jd_q rfl rfl rfl (qFieldAddr rfl rfl rfl rfl rfl) ?_
          refine jd_q rfl rfl rfl (qLd rfl rfl rfl rfl (CJ.loc rfl)) ?_
          refine dp rfl rfl ?_
          have hj1 : j < P.dead.length := by omega
          obtain ⟨qxb, qxo, e0qx, qxx⟩ := (hx.d.sm).open (by intro e; have := congrArg List.length e; rw [icells_len, List.length_nil] at this; first | omega | (change P.dead.length = 0 at this; omega))
          refine jd_q rfl rfl rfl (qIdxS (b := qxb) (off := qxo) rfl rfl (by show some (Value.slice _ _ _) = _; rw [e0qx]) rfl (by omega)) ?_
          refine jd_q rfl rfl rfl (qLd (v := .int .i64 P.dead[j]) rfl rfl rfl rfl ((qxx _ _ (by rw [Nat.mul_one]; simp [icells, hj1, cmt])).cj _)) ?_
          refine df rfl rfl (decide_eq_false (by first | omega | (rcases hce with hce | ⟨hce, hce2⟩ <;> omega))) ?_
          refine jd_nil ?_
          refine jPn ?_
          refine jT ?_
          refine jc_no rfl ?_
          refine jc_skip ?_
          refine jB ?_
          refine jT ?_
          refine jc_region ?_
          refine jp rfl ?_
          refine ja rfl (by first | omega | (rcases hce with hce | ⟨hce, hce2⟩ <;> omega)) ?_
          refine jp rfl ?_
          refine jl_nil ?_
          refine j_again (j + 1) (Keep.cons (t := 1) rfl (Keep.cons (t := 3) rfl (Keep.cons (t := 4) rfl (Keep.cons (t := 6) rfl (Keep.cons (t := 7) rfl Keep.nil))))) (by omega) (by omega) (fun _ h => h)
        · refine jl_nil ?_
          refine jT ?_
          refine jc_no rfl ?_
          refine jc_exit ?_
          refine jTx ?_
          refine jTx ?_
          refine jBx ?_
          refine jT ?_
          refine jc_seq ?_
          refine jc_region ?_
          refine jl_q rfl rfl (qLdL rfl rfl rfl rfl rfl (by first | (simp only [Nat.reduceAdd, Nat.zero_add, Nat.add_zero, List.drop_succ_cons, List.drop_zero, List.drop_nil, List.take_succ_cons, List.take_zero, List.take_nil, List.cons_append, List.nil_append, List.append_nil, List.length_cons, List.length_nil]; done) | (simp only [Nat.reduceAdd, Nat.zero_add, Nat.add_zero, List.drop_succ_cons, List.drop_zero, List.drop_nil, List.take_succ_cons, List.take_zero, List.take_nil, List.cons_append, List.nil_append, List.append_nil, List.length_cons, List.length_nil]; rfl) | rfl)) ?_
          refine jl_h rfl rfl (hCall rfl rfl rfl rfl rfl (by kernel_rfl) (commit_spec (cmt P) _ Mk hy.pt hnc)) ?_; rintro _ M5 _ ⟨hM5, _, rfl, ⟨hc, rfl⟩⟩
          simp only [List.nil_append]
          obtain ⟨z, g2, r2, n2, e2, rfl, hcc2⟩ := hc.form
          iterate 3 refine jp rfl ?_
          refine jl_h rfl rfl (hAlloc rfl rfl) ?_; rintro _ _ _ ⟨b8, rfl, rfl, rfl⟩
          refine jl_s rfl (hStoreL rfl rfl rfl rfl rfl rfl rfl rfl (by first | (simp only [Nat.reduceAdd, Nat.zero_add, Nat.add_zero, List.drop_succ_cons, List.drop_zero, List.drop_nil, List.take_succ_cons, List.take_zero, List.take_nil, List.cons_append, List.nil_append, List.append_nil, List.length_cons, List.length_nil]; done) | (simp only [Nat.reduceAdd, Nat.zero_add, Nat.add_zero, List.drop_succ_cons, List.drop_zero, List.drop_nil, List.take_succ_cons, List.take_zero, List.take_nil, List.cons_append, List.nil_append, List.append_nil, List.length_cons, List.length_nil]; rfl) | rfl)) ?_; rintro _ _ _ ⟨rfl, rfl⟩
          refine jp rfl ?_
          refine jl_nil ?_
          refine jT ?_
          refine jc_seq ?_
          refine jc_seq ?_
          refine jc_region ?_
          refine jp rfl ?_
          refine js rfl (fun h135 => ?_) (fun h135 => ?_)
          · refine jl_nil ?_
            refine jT ?_
            refine jc_yes rfl ?_
            refine jc_seq ?_
            refine jc_region ?_
            iterate 2 refine jp rfl ?_
            refine jl_q rfl rfl (qFieldAddr rfl rfl rfl rfl rfl) ?_
            refine jl_q rfl rfl (qLd rfl rfl rfl rfl (CJ.loc rfl)) ?_
            iterate 3 refine jp rfl ?_
            refine jl_nil ?_
            refine jT ?_
            refine jc_ret ?_
            refine jTr ?_
            refine jBr ?_
            refine jTr ?_
            refine jTr ?_
            refine jBr ?_
            refine jTr ?_
            refine jq_drop (L' := []) (List.nil_sublist _) ?_
            refine jr1 rfl rfl ?_
            first | exact ⟨rfl, rfl⟩ | exact ⟨congrArg Value.bool (decide_eq_true (by first | rfl | (obtain ⟨he0, _⟩ | ⟨_, hne, _⟩ := hcc2; exact absurd he0 h135; exact cmt_err haP hnP hne))), rfl⟩
          · refine jl_nil ?_
            refine jT ?_
            refine jc_no rfl ?_
            refine jc_skip ?_
            refine jT ?_
            refine jc_drawP (p := { A := fun i => !([3].contains i), U := fun i => !([1, 2, 3].contains i) }) [(0, true), (1, true), (2, false), (3, false)] M5 ([(b8, .cells (pcl z g2 r2 n2).toArray TPo (0, 0)), (b4, .cells (pcl y (P.gen + 1) P.root P.next).toArray TPo (0, 0))]) ([(b8, .cells (pcl z g2 r2 n2).toArray TPo (0, 0))]) (by kernel_rfl) (by kernel_rfl) (by kernel_rfl) (by kernel_rfl) rfl (by simp) (MLe.refl _) (by simp) ?_
            refine jd_q rfl rfl rfl (qLdL rfl rfl rfl rfl rfl (by first | (simp only [Nat.reduceAdd, Nat.zero_add, Nat.add_zero, List.drop_succ_cons, List.drop_zero, List.drop_nil, List.take_succ_cons, List.take_zero, List.take_nil, List.cons_append, List.nil_append, List.append_nil, List.length_cons, List.length_nil]; done) | (simp only [Nat.reduceAdd, Nat.zero_add, Nat.add_zero, List.drop_succ_cons, List.drop_zero, List.drop_nil, List.take_succ_cons, List.take_zero, List.take_nil, List.cons_append, List.nil_append, List.append_nil, List.length_cons, List.length_nil]; rfl) | rfl)) ?_
            refine jd_u rfl rfl rfl (qLdL rfl rfl rfl rfl rfl (by first | (simp only [Nat.reduceAdd, Nat.zero_add, Nat.add_zero, List.drop_succ_cons, List.drop_zero, List.drop_nil, List.take_succ_cons, List.take_zero, List.take_nil, List.cons_append, List.nil_append, List.append_nil, List.length_cons, List.length_nil]; done) | (simp only [Nat.reduceAdd, Nat.zero_add, Nat.add_zero, List.drop_succ_cons, List.drop_zero, List.drop_nil, List.take_succ_cons, List.take_zero, List.take_nil, List.cons_append, List.nil_append, List.append_nil, List.length_cons, List.length_nil]; rfl) | rfl)) ?_
            refine jd_s rfl rfl (hStoreL rfl rfl rfl rfl rfl rfl rfl rfl (by first | (simp only [Nat.reduceAdd, Nat.zero_add, Nat.add_zero, List.drop_succ_cons, List.drop_zero, List.drop_nil, List.take_succ_cons, List.take_zero, List.take_nil, List.cons_append, List.nil_append, List.append_nil, List.length_cons, List.length_nil]; done) | (simp only [Nat.reduceAdd, Nat.zero_add, Nat.add_zero, List.drop_succ_cons, List.drop_zero, List.drop_nil, List.take_succ_cons, List.take_zero, List.take_nil, List.cons_append, List.nil_append, List.append_nil, List.length_cons, List.length_nil]; rfl) | rfl)) ?_; rintro _ _ _ ⟨rfl, rfl⟩
            refine ⟨_, _, MLe.refl _, MLe.refl _, fun _ h => h, by simp, ?_⟩
            refine jd_e rfl rfl (hStoreL rfl rfl rfl rfl rfl rfl rfl rfl (by first | (simp only [Nat.reduceAdd, Nat.zero_add, Nat.add_zero, List.drop_succ_cons, List.drop_zero, List.drop_nil, List.take_succ_cons, List.take_zero, List.take_nil, List.cons_append, List.nil_append, List.append_nil, List.length_cons, List.length_nil]; done) | (simp only [Nat.reduceAdd, Nat.zero_add, Nat.add_zero, List.drop_succ_cons, List.drop_zero, List.drop_nil, List.take_succ_cons, List.take_zero, List.take_nil, List.cons_append, List.nil_append, List.append_nil, List.length_cons, List.length_nil]; rfl) | rfl)) ?_; rintro _ _ _ ⟨rfl, rfl⟩
            refine ⟨MLe.refl _, by simp, ?_⟩
            refine je_nil ?_
            refine jPn ?_
            refine jB ?_
            refine jT ?_
            refine jc_region ?_
            refine jp rfl ?_
            refine ja rfl (by first | omega | (rcases hce with hce | ⟨hce, hce2⟩ <;> omega)) ?_
            refine jp rfl ?_
            refine jl_nil ?_
            obtain ⟨_, hask2, hz, rfl, rfl, rfl⟩ | ⟨rfl, hne2, _⟩ := hcc2
            rotate_left
            · exact absurd (Classical.not_not.1 h135) hne2
            refine j_again (⟨r + 1, M5, cmt P, y, z⟩ : Tw) (Keep.cons (t := 1) rfl (Keep.cons (t := 3) rfl (Keep.cons (t := 4) rfl (Keep.cons (t := 6) rfl Keep.nil)))) ⟨by show r + 1 ≤ 2; omega, hask2, hnc, hy.mono hM5, hz⟩ (by show 2 - (r + 1) < 2 - r; omega) (fun _ h => h.fewer (.cons _ (.refl _)))
      · refine jl_nil ?_
        refine jT ?_
        refine jc_no rfl ?_
        refine jc_exit ?_
        refine jTx ?_
        refine jTx ?_
        refine jBx ?_
        refine jT ?_
        refine jc_seq ?_
        refine jc_region ?_
        iterate 2 refine jp rfl ?_
        refine jl_nil ?_
        refine jT ?_
        refine jc_ret ?_
        refine jq_drop (L' := []) (List.nil_sublist _) ?_
        refine jr1 rfl rfl ?_
        first | exact ⟨rfl, rfl⟩ | exact ⟨congrArg Value.bool (decide_eq_true (by first | rfl | (obtain ⟨he0, _⟩ | ⟨_, hne, _⟩ := hcc2; exact absurd he0 h135; exact cmt_err haP hnP hne))), rfl⟩


theorem ctwice_spec (p : Po) (x0 : V5) (M : Mem) (h : PT5 M x0 p) (hgen : 0 ≤ p.gen ∧ p.gen < 4294967296) (hnxt : 0 ≤ p.next ∧ p.next < 4294967296) : SpecL Try.prog 3 #[.agg (pcl x0 p.gen p.root p.next).toArray] M [] fun u _ _ => u = .bool true := (ctwice_walk p x0 M h hgen hnxt).mono fun _ _ _ h => h.1

end Go.Proofs.Ytjdmhbenpeedeaa
