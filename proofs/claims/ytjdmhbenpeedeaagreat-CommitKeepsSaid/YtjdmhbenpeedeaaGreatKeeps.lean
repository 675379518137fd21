/- CommitKeeps' function is walked. -/
import Derived.Test.YtjdmhbenpeedeaaGreatSlot
import Derived.Test.YtjdmhbenpeedeaaGreatFind
namespace Go.Proofs.YtjdmhbenpeedeaaGreat
set_option linter.unusedVariables false
set_option linter.unusedSimpArgs false
open Go.RowKit

theorem any_row {ys : List Sr} {k : Nat} {g r : Int} (hk : k < ys.length) : (∃ x ∈ ys.take (k + 1), x.1.gen = g ∧ x.1.root = r) ↔ (∃ x ∈ ys.take k, x.1.gen = g ∧ x.1.root = r) ∨ (ys[k].1.gen = g ∧ ys[k].1.root = r) := by
  rw [List.take_succ_eq_append_getElem hk]
  constructor
  · rintro ⟨x, hx, e⟩
    rcases List.mem_append.1 hx with hx | hx
    · exact .inl ⟨x, hx, e⟩
    · rw [List.mem_singleton.1 hx] at e; exact .inr e
  · rintro (⟨x, hx, e⟩ | e)
    · exact ⟨x, List.mem_append_left _ hx, e⟩
    · exact ⟨_, List.mem_append_right _ (by simp), e⟩

set_option maxHeartbeats 4000000 in
theorem ckeeps_walk (p : Po) (x0 : V5) (M : Mem) (h : PT5 M x0 p) (hgen : 0 ≤ p.gen ∧ p.gen < 4294967296) (hnxt : 0 ≤ p.next ∧ p.next < 4294967296) :
    SpecL Tryz.prog 4 #[.agg (pcl x0 p.gen p.root p.next).toArray] M [] fun u M' L' => u = .bool true ∧ L' = [] := by
  refine spec_body (vs := [_]) 133 _ Tryz.func4 rfl Tryz.ntmps4 rfl rfl ?_; intro W
  refine jc_seq ?_
  refine jc_region ?_
  refine jl_h rfl rfl (hBox (cs := [_, _, _, _, _, _, _, _]) rfl rfl rfl rfl) ?_; rintro _ _ _ ⟨b1, rfl, rfl, rfl⟩
  refine jp rfl ?_
  refine jl_nil ?_
  refine jT ?_
  refine jc_seq ?_
  refine jc_region ?_
  refine jl_h rfl rfl (hCall rfl rfl rfl rfl rfl (by kernel_rfl) (alive_spec M)) ?_; rintro _ M1 _ ⟨hM1, _, rfl, ⟨rfl, rfl⟩⟩
  simp only [List.nil_append]
  refine jp rfl ?_
  refine jl_nil ?_
  refine jT ?_
  refine jc_seq ?_
  refine jc_seq ?_
  refine jc_region ?_
  refine jl_q rfl rfl (qLdL rfl rfl rfl rfl rfl (by first | (simp only [Nat.reduceAdd, Nat.zero_add, Nat.add_zero, List.drop_succ_cons, List.drop_zero, List.drop_nil, List.take_succ_cons, List.take_zero, List.take_nil, List.cons_append, List.nil_append, List.append_nil, List.length_cons, List.length_nil]; try rfl) | rfl)) ?_
  refine jl_h rfl rfl (hCall rfl rfl rfl rfl rfl (by kernel_rfl) (fgreat_spec x0 p.gen p.root p.next p M1 (h.mono hM1))) ?_; rintro _ M2 _ ⟨hM2, _, rfl, ⟨⟨b, rfl, hgd⟩, rfl⟩⟩
  simp only [List.nil_append]
  refine jsb rfl (fun h19 => ?_) (fun h19 => ?_)
  · iterate 3 refine jp rfl ?_
    refine jl_nil ?_
    refine jT ?_
    refine jc_yes rfl ?_
    refine jc_seq ?_
    refine jc_region ?_
    iterate 2 refine jp rfl ?_
    refine jl_nil ?_
    refine jT ?_
    refine jc_ret ?_
    refine jTr ?_
    refine jq_drop (L' := []) (List.nil_sublist _) ?_
    refine jr1 rfl rfl ?_
    first | exact ⟨rfl, rfl⟩ | (exfalso; have hkk : k = ys.length := (by omega); subst hkk; rw [List.take_length] at h1i h2i; first | (have hq := h1i.2 ⟨x1, hx1, by rw [hxe1]; rfl, by rw [hxe1]; rfl⟩; rw [h128] at hq; cases hq; done) | (have hq := h2i.2 ⟨x2, hx2, by rw [hxe2]; rfl, by rw [hxe2]; rfl⟩; rw [h131] at hq; cases hq))
  · iterate 3 refine jp rfl ?_
    refine jl_nil ?_
    refine jT ?_
    refine jc_no rfl ?_
    refine jc_skip ?_
    refine jT ?_
    refine jc_seq ?_
    refine jc_region ?_
    refine jl_q rfl rfl (qLdL rfl rfl rfl rfl rfl (by first | (simp only [Nat.reduceAdd, Nat.zero_add, Nat.add_zero, List.drop_succ_cons, List.drop_zero, List.drop_nil, List.take_succ_cons, List.take_zero, List.take_nil, List.cons_append, List.nil_append, List.append_nil, List.length_cons, List.length_nil]; try rfl) | rfl)) ?_
    have hn : PoN p := ⟨hgen, hnxt, by have := hgd h19; omega⟩
    refine jl_h rfl rfl (hCall rfl rfl rfl rfl rfl (by kernel_rfl) (commit_spec p _ M2 (h.mono (hM1.trans hM2)).pt hn)) ?_; rintro _ M3 _ ⟨hM3, _, rfl, ⟨hc, rfl⟩⟩
    simp only [List.nil_append]
    obtain ⟨y, g, r, n, e, rfl, hcc⟩ := hc.form
    iterate 3 refine jp rfl ?_
    refine jl_h rfl rfl (hAlloc rfl rfl) ?_; rintro _ _ _ ⟨b4, rfl, rfl, rfl⟩
    refine jl_s rfl (hStoreL rfl rfl rfl rfl rfl rfl rfl rfl (by first | (simp only [Nat.reduceAdd, Nat.zero_add, Nat.add_zero, List.drop_succ_cons, List.drop_zero, List.drop_nil, List.take_succ_cons, List.take_zero, List.take_nil, List.cons_append, List.nil_append, List.append_nil, List.length_cons, List.length_nil]; try rfl) | rfl)) ?_; rintro _ _ _ ⟨rfl, rfl⟩
    refine jp rfl ?_
    refine jl_nil ?_
    refine jT ?_
    refine jc_seq ?_
    refine jc_seq ?_
    refine jc_region ?_
    refine jp rfl ?_
    refine js rfl (fun h30 => ?_) (fun h30 => ?_)
    · refine jl_nil ?_
      refine jT ?_
      refine jc_yes rfl ?_
      refine jc_seq ?_
      refine jc_region ?_
      iterate 2 refine jp rfl ?_
      refine jl_nil ?_
      refine jT ?_
      refine jc_ret ?_
      refine jTr ?_
      refine jq_drop (L' := []) (List.nil_sublist _) ?_
      refine jr1 rfl rfl ?_
      first | exact ⟨rfl, rfl⟩ | (exfalso; have hkk : k = ys.length := (by omega); subst hkk; rw [List.take_length] at h1i h2i; first | (have hq := h1i.2 ⟨x1, hx1, by rw [hxe1]; rfl, by rw [hxe1]; rfl⟩; rw [h128] at hq; cases hq; done) | (have hq := h2i.2 ⟨x2, hx2, by rw [hxe2]; rfl, by rw [hxe2]; rfl⟩; rw [h131] at hq; cases hq))
    · refine jl_nil ?_
      refine jT ?_
      refine jc_no rfl ?_
      refine jc_skip ?_
      refine jT ?_
      refine jc_seq ?_
      refine jc_seq ?_
      refine jc_region ?_
      refine jp rfl ?_
      refine jl_nil ?_
      refine jT ?_
      refine jc_block ?_
      obtain ⟨_, hask, hy, rfl, rfl, rfl⟩ | ⟨rfl, hne, _⟩ := hcc
      rotate_left
      · exact absurd (Classical.not_not.1 h30) hne
      obtain ⟨hok, hgm⟩ := askC_ok hask
      have hMM := (hM1.trans hM2).trans hM3
      refine jc_loopK (α := Int × Mem) (fun s => [(1, .pointer (some ⟨b1, 0, none⟩)), (3, .bool true), (4, .pointer (some ⟨b4, 0, none⟩)), (6, .int .i64 s.1)]) (fun s => s.2) (fun _ => [(b4, .cells (pcl y (p.gen + 1) p.root p.next).toArray TPo (0, 0)), (b1, .cells (pcl x0 p.gen p.root p.next).toArray TPo (0, 0))]) (fun s => 8 ≤ s.1 ∧ s.1 ≤ 256 ∧ MLe M3 s.2) (fun s => (256 - s.1).toNat)
        (8, M3) (Keep.cons (t := 1) rfl (Keep.cons (t := 3) rfl (Keep.cons (t := 4) rfl (Keep.cons (t := 6) rfl Keep.nil)))) ⟨by show (8 : Int) ≤ 8; omega, by show (8 : Int) ≤ 256; omega, MLe.refl _⟩ (fun _ h => h) ?_
      rintro ⟨ii, Mk⟩ ⟨hii, hii2, hMk⟩
      try dsimp only at hii hii2 hMk ⊢
      have hxk := h.mono (hMM.trans hMk)
      have hyk := hy.mono hMk
      refine jc_seq ?_
      refine jc_seq ?_
      refine jc_region ?_
      refine jp rfl ?_
      refine js rfl (fun h33 => ?_) (fun h33 => ?_)
      · refine jl_nil ?_
        refine jT ?_
        refine jc_yes rfl ?_
        refine jc_skip ?_
        refine jT ?_
        refine jc_seq ?_
        refine jc_block ?_
        refine jc_seq ?_
        refine jc_region ?_
        refine jl_q rfl rfl (qFieldAddr rfl rfl rfl rfl rfl) ?_
        refine jl_q rfl rfl (qFieldAddr rfl rfl rfl rfl rfl) ?_
        refine jl_q rfl rfl (qLdL rfl rfl rfl rfl rfl (by first | (simp only [Nat.reduceAdd, Nat.zero_add, Nat.add_zero, List.drop_succ_cons, List.drop_zero, List.drop_nil, List.take_succ_cons, List.take_zero, List.take_nil, List.cons_append, List.nil_append, List.append_nil, List.length_cons, List.length_nil]; try rfl) | rfl)) ?_
        refine jp rfl ?_
        obtain ⟨i, rfl⟩ : ∃ n : Nat, ii = (n : Int) := ⟨ii.toNat, by omega⟩
        have hi0 : 8 ≤ i := by omega
        have hi1 : i < 256 := by omega
        refine jl_h rfl rfl (hCall rfl rfl rfl rfl rfl (by kernel_rfl) (dread_spec p.st i x0.b.v x0.w.v Mk hxk.b hxk.w hok.st.1 hi1)) ?_; rintro _ M4 _ ⟨hM4, _, rfl, ⟨⟨rv, rfl, hv⟩, rfl⟩⟩
        simp only [List.nil_append]
        obtain ⟨dv, rfl⟩ := hv.sl
        iterate 5 refine jp rfl ?_
        refine jl_nil ?_
        refine jT ?_
        refine jc_seq ?_
        refine jc_draw [(0, true), (1, true), (2, true), (3, true), (4, true), (5, true), (6, true), (7, true), (8, true), (9, true), (10, true), (11, true), (12, true), (13, true), (14, true)] _ (by kernel_rfl) (by kernel_rfl) (by kernel_rfl) rfl (fun _ h => h) ?_
        refine dp rfl rfl ?_
        refine df rfl rfl (decide_eq_false (by omega)) ?_
        iterate 2 refine dp rfl rfl ?_
        refine jd_q rfl rfl rfl (qEq (qStr (xs := (seen p.st i).map fun b => (b.toNat : Int)) rfl rfl rfl (by rw [List.length_map, hv.len]) (by simpa [bcells, List.map_map, Function.comp_def] using hv.sm.sj _)) (v' := .string (strB (seen p.st i))) (by rw [strOfNums_b])) ?_
        refine jd_q rfl rfl rfl (qFieldAddr rfl rfl rfl rfl rfl) ?_
        refine jd_q rfl rfl rfl (qFieldAddr rfl rfl rfl rfl rfl) ?_
        refine jd_q rfl rfl rfl (qFieldAddr rfl rfl rfl rfl rfl) ?_
        refine jd_q rfl rfl rfl (qLd rfl rfl rfl rfl (CJ.loc rfl)) ?_
        refine dp rfl rfl ?_
        obtain ⟨qb, qo, qt, qe, qc, qs⟩ := LS.at_ (hyk.b.mono hM4) (k := i) (by show _ < (setB (dsk p 3).1 (dsk p 3).2).length; rw [setB_len, (dsk_ok hok hn 3).1]; exact hi1)
        replace qs : BS M4 qt.v ((setB (dsk p 3).1 (dsk p 3).2)[i]'(by show _ < (setB (dsk p 3).1 (dsk p 3).2).length; rw [setB_len, (dsk_ok hok hn 3).1]; exact hi1)) := qs
        have hyn : y.b.n = 256 := by
          rw [hy.b.len]; show (setB (dsk p 3).1 (dsk p 3).2).length = 256; rw [setB_len]; exact (dsk_ok hok hn 3).1
        refine jd_q rfl rfl rfl (qIdxS (b := qb) (off := qo) rfl rfl (by show some (Value.slice _ _ _) = _; rw [qe]) rfl (by omega)) ?_
        refine jd_q rfl rfl rfl (qLd rfl rfl rfl rfl (qc.cj _)) ?_
        refine jd_q rfl rfl rfl (qEq (qStr (xs := ((setB (dsk p 3).1 (dsk p 3).2)[i]'(by show _ < (setB (dsk p 3).1 (dsk p 3).2).length; rw [setB_len, (dsk_ok hok hn 3).1]; exact hi1)).map fun b => (b.toNat : Int)) rfl rfl rfl (by rw [List.length_map, qs.len]) (by simpa [bcells, List.map_map, Function.comp_def] using qs.sm.sj _)) (v' := .string (strB ((setB (dsk p 3).1 (dsk p 3).2)[i]'(by show _ < (setB (dsk p 3).1 (dsk p 3).2).length; rw [setB_len, (dsk_ok hok hn 3).1]; exact hi1)))) (by rw [strOfNums_b])) ?_
        refine jd_q rfl rfl rfl (qEq (qP rfl rfl) (v' := .bool false) (by rw [strB_eq]; simp only [Bool.not_eq_false', decide_eq_true_eq, Value.bool.injEq, Bool.not_eq_eq_eq_not, Bool.not_false]; have hs := cmt_low hok hn (k := i) hi0 hi1; rw [getD_at (by rw [setB_len, (dsk_ok hok hn 3).1]; exact hi1)] at hs; exact hs.symm)) ?_
        refine dp rfl rfl ?_
        refine jd_nil ?_
        refine jPn ?_
        refine jT ?_
        refine jc_no rfl ?_
        refine jc_skip ?_
        refine jB ?_
        refine jT ?_
        refine jc_region ?_
        refine jp rfl ?_
        refine ja rfl (by omega) ?_
        refine jp rfl ?_
        refine jl_nil ?_
        refine j_again ((i : Int) + 1, M4) (Keep.cons (t := 1) rfl (Keep.cons (t := 3) rfl (Keep.cons (t := 4) rfl (Keep.cons (t := 6) rfl Keep.nil)))) ⟨by show 8 ≤ (i : Int) + 1; omega, by show (i : Int) + 1 ≤ 256; omega, hMk.trans hM4⟩ (by show (256 - ((i : Int) + 1)).toNat < (256 - (i : Int)).toNat; omega) (fun _ h => h)
      · refine jl_nil ?_
        refine jT ?_
        refine jc_no rfl ?_
        refine jc_exit ?_
        refine jTx ?_
        refine jTx ?_
        refine jBx ?_
        refine jT ?_
        refine jc_seq ?_
        refine jc_region ?_
        refine jl_q rfl rfl (qLdL rfl rfl rfl rfl rfl (by first | (simp only [Nat.reduceAdd, Nat.zero_add, Nat.add_zero, List.drop_succ_cons, List.drop_zero, List.drop_nil, List.take_succ_cons, List.take_zero, List.take_nil, List.cons_append, List.nil_append, List.append_nil, List.length_cons, List.length_nil]; try rfl) | rfl)) ?_
        have hn2 := cmt_n hask hn
        refine jl_h rfl rfl (hCall rfl rfl rfl rfl rfl (by kernel_rfl) (commit_spec (cmt p) _ Mk hyk.pt hn2)) ?_; rintro _ M5 _ ⟨hM5, _, rfl, ⟨hc, rfl⟩⟩
        simp only [List.nil_append]
        obtain ⟨z, g2, r2, n2, e2, rfl, hcc2⟩ := hc.form
        iterate 3 refine jp rfl ?_
        refine jl_h rfl rfl (hAlloc rfl rfl) ?_; rintro _ _ _ ⟨b9, rfl, rfl, rfl⟩
        refine jl_s rfl (hStoreL rfl rfl rfl rfl rfl rfl rfl rfl (by first | (simp only [Nat.reduceAdd, Nat.zero_add, Nat.add_zero, List.drop_succ_cons, List.drop_zero, List.drop_nil, List.take_succ_cons, List.take_zero, List.take_nil, List.cons_append, List.nil_append, List.append_nil, List.length_cons, List.length_nil]; try rfl) | rfl)) ?_; rintro _ _ _ ⟨rfl, rfl⟩
        refine jp rfl ?_
        refine jl_nil ?_
        refine jT ?_
        refine jc_seq ?_
        refine jc_seq ?_
        refine jc_region ?_
        refine jp rfl ?_
        refine js rfl (fun h65 => ?_) (fun h65 => ?_)
        · refine jl_nil ?_
          refine jT ?_
          refine jc_yes rfl ?_
          refine jc_seq ?_
          refine jc_region ?_
          iterate 2 refine jp rfl ?_
          refine jl_nil ?_
          refine jT ?_
          refine jc_ret ?_
          refine jTr ?_
          refine jq_drop (L' := []) (List.nil_sublist _) ?_
          refine jr1 rfl rfl ?_
          first | exact ⟨rfl, rfl⟩ | (exfalso; have hkk : k = ys.length := (by omega); subst hkk; rw [List.take_length] at h1i h2i; first | (have hq := h1i.2 ⟨x1, hx1, by rw [hxe1]; rfl, by rw [hxe1]; rfl⟩; rw [h128] at hq; cases hq; done) | (have hq := h2i.2 ⟨x2, hx2, by rw [hxe2]; rfl, by rw [hxe2]; rfl⟩; rw [h131] at hq; cases hq))
        · refine jl_nil ?_
          refine jT ?_
          refine jc_no rfl ?_
          refine jc_skip ?_
          refine jT ?_
          refine jc_seq ?_
          refine jc_region ?_
          refine jl_q rfl rfl (qFieldAddr rfl rfl rfl rfl rfl) ?_
          refine jl_q rfl rfl (qFieldAddr rfl rfl rfl rfl rfl) ?_
          refine jl_q rfl rfl (qLdL rfl rfl rfl rfl rfl (by first | (simp only [Nat.reduceAdd, Nat.zero_add, Nat.add_zero, List.drop_succ_cons, List.drop_zero, List.drop_nil, List.take_succ_cons, List.take_zero, List.take_nil, List.cons_append, List.nil_append, List.append_nil, List.length_cons, List.length_nil]; try rfl) | rfl)) ?_
          obtain ⟨_, hask2, hz, rfl, rfl, rfl⟩ | ⟨rfl, hne2, _⟩ := hcc2
          rotate_left
          · exact absurd (Classical.not_not.1 h65) hne2
          obtain ⟨hok2, hgm2⟩ := askC_ok hask2
          refine jl_h rfl rfl (hCall rfl rfl rfl rfl rfl (by kernel_rfl) (find_spec (cmt (cmt p)).st _ _ M5 hz.b hz.w (cmt_st hok2 hn2).1)) ?_; rintro _ M6 _ ⟨hM6, _, rfl, ⟨hfi, rfl⟩⟩
          simp only [List.nil_append]
          have hm1 := fnd_old hok hn hgm hn2
          have hm2 := fnd_new hok2 hn2 hgm2
          obtain ⟨fv, fe, rfl, hfi⟩ := hfi
          rcases hfi with ⟨_, hnil, _⟩ | ⟨rfl, ys, hperm, ⟨ra, rc, rfl, hrs⟩, _⟩
          · rw [hnil] at hm1; cases hm1
          obtain ⟨x1, hx1, hxe1⟩ := List.mem_map.1 (hperm.mem_iff.2 hm1)
          obtain ⟨x2, hx2, hxe2⟩ := List.mem_map.1 (hperm.mem_iff.2 hm2)
          have hyl : ys.length ≤ 4 := by rw [← List.length_map (f := (·.1)), hperm.length_eq]; exact fndL_len _ 4
          have hy0 : 0 < ys.length := List.length_pos_of_mem hx1
          obtain ⟨rb, ro, e0, hx⟩ := hrs.open (by intro e; have := congrArg List.length e; rw [flat_len srow 5 srow_len, List.length_nil] at this; omega)
          subst e0
          iterate 5 refine jp rfl ?_
          refine jl_nil ?_
          refine jT ?_
          refine jc_seq ?_
          refine jc_region ?_
          iterate 2 refine jp rfl ?_
          refine jl_nil ?_
          refine jT ?_
          refine jc_seq ?_
          refine jc_seq ?_
          refine jc_region ?_
          refine jp rfl ?_
          refine jl_nil ?_
          refine jT ?_
          refine jc_block ?_
          refine jc_loopK (α := Nat × Bool × Bool) (fun s => [(1, .pointer (some ⟨b1, 0, none⟩)), (3, .bool true), (4, .pointer (some ⟨b4, 0, none⟩)), (9, .pointer (some ⟨b9, 0, none⟩)), (11, .slice (some ⟨rb, ro, none⟩) ys.length rc), (12, .int .i64 0), (13, .bool s.2.1), (14, .bool s.2.2), (15, .int .i64 (s.1 : Int))]) (fun _ => M6) (fun _ => [(b9, .cells (pcl z (p.gen + 1 + 1) p.root p.next).toArray TPo (0, 0)), (b4, .cells (pcl y (p.gen + 1) p.root p.next).toArray TPo (0, 0)), (b1, .cells (pcl x0 p.gen p.root p.next).toArray TPo (0, 0))]) (fun s => s.1 ≤ ys.length ∧ (s.2.1 = true ↔ ∃ x ∈ ys.take s.1, x.1.gen = p.gen + 1 ∧ x.1.root = p.root) ∧ (s.2.2 = true ↔ ∃ x ∈ ys.take s.1, x.1.gen = p.gen + 1 + 1 ∧ x.1.root = p.root)) (fun s => ys.length - s.1)
            (0, false, false) (Keep.cons (t := 1) rfl (Keep.cons (t := 3) rfl (Keep.cons (t := 4) rfl (Keep.cons (t := 9) rfl (Keep.cons (t := 11) rfl (Keep.cons (t := 12) rfl (Keep.cons (t := 13) rfl (Keep.cons (t := 14) rfl (Keep.cons (t := 15) rfl Keep.nil))))))))) ⟨Nat.zero_le _, by simp, by simp⟩ (fun _ h => h) ?_
          rintro ⟨k, one, two⟩ ⟨hk, h1i, h2i⟩
          try dsimp only at hk h1i h2i ⊢
          try have hk1c : k < ys.length ∨ k = ys.length := by omega
          refine jc_seq ?_
          refine jc_seq ?_
          refine jc_region ?_
          iterate 2 refine jp rfl ?_
          refine jl_q rfl rfl (qLen rfl rfl rfl) ?_
          refine js rfl (fun h77 => ?_) (fun h77 => ?_)
          · refine jl_nil ?_
            refine jT ?_
            refine jc_yes rfl ?_
            refine jc_skip ?_
            refine jT ?_
            refine jc_seq ?_
            refine jc_block ?_
            have hk1 : k < ys.length := by omega
            refine jc_merge (α := Bool) (fun o => [(1, .pointer (some ⟨b1, 0, none⟩)), (3, .bool true), (4, .pointer (some ⟨b4, 0, none⟩)), (9, .pointer (some ⟨b9, 0, none⟩)), (11, .slice (some ⟨rb, ro, none⟩) ys.length rc), (12, .int .i64 0), (13, .bool o), (14, .bool two), (15, .int .i64 (k : Int))]) (fun _ => M6) (fun _ => [(b9, .cells (pcl z (p.gen + 1 + 1) p.root p.next).toArray TPo (0, 0)), (b4, .cells (pcl y (p.gen + 1) p.root p.next).toArray TPo (0, 0)), (b1, .cells (pcl x0 p.gen p.root p.next).toArray TPo (0, 0))]) (fun o => o = true ↔ ∃ x ∈ ys.take (k + 1), x.1.gen = p.gen + 1 ∧ x.1.root = p.root) ?_ ?_
            · rintro o ho
              refine jc_draw [(0, true), (1, true), (2, true), (3, true), (4, true), (5, true), (6, true), (7, true), (8, true), (9, true), (10, true), (11, true), (12, true), (13, true), (14, true), (15, true), (16, true), (17, true), (18, true), (19, true), (20, true), (21, true)] _ (by kernel_rfl) (by kernel_rfl) (by kernel_rfl) rfl (fun _ h => h) ?_
              refine dp rfl rfl ?_
              refine jd_qb rfl rfl rfl (qP rfl rfl) (fun h102 => ?_) (fun h102 => ?_)
              · iterate 20 refine dp rfl rfl ?_
                refine jd_nil ?_
                refine jPn ?_
                refine jB ?_
                refine jT ?_
                refine jc_region ?_
                refine jp rfl ?_
                refine ja rfl (by omega) ?_
                refine jp rfl ?_
                refine jl_nil ?_
                refine j_again (k + 1, o, true) (Keep.cons (t := 1) rfl (Keep.cons (t := 3) rfl (Keep.cons (t := 4) rfl (Keep.cons (t := 9) rfl (Keep.cons (t := 11) rfl (Keep.cons (t := 12) rfl (Keep.cons (t := 13) rfl (Keep.cons (t := 14) rfl (Keep.cons (t := 15) rfl Keep.nil))))))))) ⟨by show k + 1 ≤ ys.length; omega, ho, by rw [any_row hk1]; simp only [true_iff]; exact .inl (h2i.1 h102)⟩ (by show ys.length - (k + 1) < ys.length - k; omega) (fun _ h => h)
              · iterate 2 refine dp rfl rfl ?_
                refine jd_q rfl rfl rfl (qIdxS rfl rfl rfl rfl (by omega)) ?_
                refine jd_q rfl rfl rfl (qFieldAddr rfl rfl rfl rfl rfl) ?_
                refine jd_q rfl rfl rfl (qLd (v := .int .u32 ys[k].1.gen) rfl rfl rfl rfl ((flat_cm srow 5 srow_len hx (List.getElem?_eq_getElem hk1) 0 _ rfl).cj _)) ?_
                refine jd_q rfl rfl rfl (qFieldAddr rfl rfl rfl rfl rfl) ?_
                refine jd_q rfl rfl rfl (qLd rfl rfl rfl rfl (CJ.loc rfl)) ?_
                refine ds rfl rfl (fun h110 => ?_) (fun h110 => ?_)
                · iterate 3 refine dp rfl rfl ?_
                  refine jd_q rfl rfl rfl (qIdxS rfl rfl rfl rfl (by omega)) ?_
                  refine jd_q rfl rfl rfl (qFieldAddr rfl rfl rfl rfl rfl) ?_
                  refine jd_q rfl rfl rfl (qLd (v := .int .i64 ys[k].1.root) rfl rfl rfl rfl ((flat_cm srow 5 srow_len hx (List.getElem?_eq_getElem hk1) 1 _ rfl).cj _)) ?_
                  refine jd_q rfl rfl rfl (qFieldAddr rfl rfl rfl rfl rfl) ?_
                  refine jd_q rfl rfl rfl (qLd rfl rfl rfl rfl (CJ.loc rfl)) ?_
                  refine ds rfl rfl (fun h119 => ?_) (fun h119 => ?_)
                  · iterate 3 refine dp rfl rfl ?_
                    refine jd_nil ?_
                    refine jPn ?_
                    refine jB ?_
                    refine jT ?_
                    refine jc_region ?_
                    refine jp rfl ?_
                    refine ja rfl (by omega) ?_
                    refine jp rfl ?_
                    refine jl_nil ?_
                    refine j_again (k + 1, o, true) (Keep.cons (t := 1) rfl (Keep.cons (t := 3) rfl (Keep.cons (t := 4) rfl (Keep.cons (t := 9) rfl (Keep.cons (t := 11) rfl (Keep.cons (t := 12) rfl (Keep.cons (t := 13) rfl (Keep.cons (t := 14) rfl (Keep.cons (t := 15) rfl Keep.nil))))))))) ⟨by show k + 1 ≤ ys.length; omega, ho, by rw [any_row hk1]; simp only [true_iff]; exact .inr ⟨h110, h119⟩⟩ (by show ys.length - (k + 1) < ys.length - k; omega) (fun _ h => h)
                  · iterate 3 refine dp rfl rfl ?_
                    refine jd_nil ?_
                    refine jPn ?_
                    refine jB ?_
                    refine jT ?_
                    refine jc_region ?_
                    refine jp rfl ?_
                    refine ja rfl (by omega) ?_
                    refine jp rfl ?_
                    refine jl_nil ?_
                    refine j_again (k + 1, o, false) (Keep.cons (t := 1) rfl (Keep.cons (t := 3) rfl (Keep.cons (t := 4) rfl (Keep.cons (t := 9) rfl (Keep.cons (t := 11) rfl (Keep.cons (t := 12) rfl (Keep.cons (t := 13) rfl (Keep.cons (t := 14) rfl (Keep.cons (t := 15) rfl Keep.nil))))))))) ⟨by show k + 1 ≤ ys.length; omega, ho, by rw [any_row hk1]; simp only [Bool.false_eq_true, false_iff]; rintro (hh | hh); (have := h2i.2 hh; rw [h102] at this; cases this); exact h119 hh.2⟩ (by show ys.length - (k + 1) < ys.length - k; omega) (fun _ h => h)
                · iterate 12 refine dp rfl rfl ?_
                  refine jd_nil ?_
                  refine jPn ?_
                  refine jB ?_
                  refine jT ?_
                  refine jc_region ?_
                  refine jp rfl ?_
                  refine ja rfl (by omega) ?_
                  refine jp rfl ?_
                  refine jl_nil ?_
                  refine j_again (k + 1, o, false) (Keep.cons (t := 1) rfl (Keep.cons (t := 3) rfl (Keep.cons (t := 4) rfl (Keep.cons (t := 9) rfl (Keep.cons (t := 11) rfl (Keep.cons (t := 12) rfl (Keep.cons (t := 13) rfl (Keep.cons (t := 14) rfl (Keep.cons (t := 15) rfl Keep.nil))))))))) ⟨by show k + 1 ≤ ys.length; omega, ho, by rw [any_row hk1]; simp only [Bool.false_eq_true, false_iff]; rintro (hh | hh); (have := h2i.2 hh; rw [h102] at this; cases this); exact h110 hh.1⟩ (by show ys.length - (k + 1) < ys.length - k; omega) (fun _ h => h)
            · refine jc_draw [(0, true), (1, true), (2, true), (3, true), (4, true), (5, true), (6, true), (7, true), (8, true), (9, true), (10, true), (11, true), (12, true), (13, true), (14, true), (15, true), (16, true), (17, true), (18, true), (19, true), (20, true), (21, true)] _ (by kernel_rfl) (by kernel_rfl) (by kernel_rfl) rfl (fun _ h => h) ?_
              refine dp rfl rfl ?_
              refine jd_qb rfl rfl rfl (qP rfl rfl) (fun h81 => ?_) (fun h81 => ?_)
              · iterate 20 refine dp rfl rfl ?_
                refine jd_nil ?_
                refine jPn ?_
                exact j_merge true (Keep.cons (t := 1) rfl (Keep.cons (t := 3) rfl (Keep.cons (t := 4) rfl (Keep.cons (t := 9) rfl (Keep.cons (t := 11) rfl (Keep.cons (t := 12) rfl (Keep.cons (t := 13) rfl (Keep.cons (t := 14) rfl (Keep.cons (t := 15) rfl Keep.nil))))))))) (by rw [any_row hk1]; simp only [true_iff]; exact .inl (h1i.1 h81)) (fun _ h => h)
              · iterate 2 refine dp rfl rfl ?_
                refine jd_q rfl rfl rfl (qIdxS rfl rfl rfl rfl (by omega)) ?_
                refine jd_q rfl rfl rfl (qFieldAddr rfl rfl rfl rfl rfl) ?_
                refine jd_q rfl rfl rfl (qLd (v := .int .u32 ys[k].1.gen) rfl rfl rfl rfl ((flat_cm srow 5 srow_len hx (List.getElem?_eq_getElem hk1) 0 _ rfl).cj _)) ?_
                refine jd_q rfl rfl rfl (qFieldAddr rfl rfl rfl rfl rfl) ?_
                refine jd_q rfl rfl rfl (qLd rfl rfl rfl rfl (CJ.loc rfl)) ?_
                refine ds rfl rfl (fun h89 => ?_) (fun h89 => ?_)
                · iterate 3 refine dp rfl rfl ?_
                  refine jd_q rfl rfl rfl (qIdxS rfl rfl rfl rfl (by omega)) ?_
                  refine jd_q rfl rfl rfl (qFieldAddr rfl rfl rfl rfl rfl) ?_
                  refine jd_q rfl rfl rfl (qLd (v := .int .i64 ys[k].1.root) rfl rfl rfl rfl ((flat_cm srow 5 srow_len hx (List.getElem?_eq_getElem hk1) 1 _ rfl).cj _)) ?_
                  refine jd_q rfl rfl rfl (qFieldAddr rfl rfl rfl rfl rfl) ?_
                  refine jd_q rfl rfl rfl (qLd rfl rfl rfl rfl (CJ.loc rfl)) ?_
                  refine ds rfl rfl (fun h98 => ?_) (fun h98 => ?_)
                  · iterate 3 refine dp rfl rfl ?_
                    refine jd_nil ?_
                    refine jPn ?_
                    exact j_merge true (Keep.cons (t := 1) rfl (Keep.cons (t := 3) rfl (Keep.cons (t := 4) rfl (Keep.cons (t := 9) rfl (Keep.cons (t := 11) rfl (Keep.cons (t := 12) rfl (Keep.cons (t := 13) rfl (Keep.cons (t := 14) rfl (Keep.cons (t := 15) rfl Keep.nil))))))))) (by rw [any_row hk1]; simp only [true_iff]; exact .inr ⟨h89, h98⟩) (fun _ h => h)
                  · iterate 3 refine dp rfl rfl ?_
                    refine jd_nil ?_
                    refine jPn ?_
                    exact j_merge false (Keep.cons (t := 1) rfl (Keep.cons (t := 3) rfl (Keep.cons (t := 4) rfl (Keep.cons (t := 9) rfl (Keep.cons (t := 11) rfl (Keep.cons (t := 12) rfl (Keep.cons (t := 13) rfl (Keep.cons (t := 14) rfl (Keep.cons (t := 15) rfl Keep.nil))))))))) (by rw [any_row hk1]; simp only [Bool.false_eq_true, false_iff]; rintro (hh | hh); (have := h1i.2 hh; rw [h81] at this; cases this); exact h98 hh.2) (fun _ h => h)
                · iterate 12 refine dp rfl rfl ?_
                  refine jd_nil ?_
                  refine jPn ?_
                  exact j_merge false (Keep.cons (t := 1) rfl (Keep.cons (t := 3) rfl (Keep.cons (t := 4) rfl (Keep.cons (t := 9) rfl (Keep.cons (t := 11) rfl (Keep.cons (t := 12) rfl (Keep.cons (t := 13) rfl (Keep.cons (t := 14) rfl (Keep.cons (t := 15) rfl Keep.nil))))))))) (by rw [any_row hk1]; simp only [Bool.false_eq_true, false_iff]; rintro (hh | hh); (have := h1i.2 hh; rw [h81] at this; cases this); exact h89 hh.1) (fun _ h => h)
          · refine jl_nil ?_
            refine jT ?_
            refine jc_no rfl ?_
            refine jc_exit ?_
            refine jTx ?_
            refine jTx ?_
            refine jBx ?_
            refine jT ?_
            refine jc_seq ?_
            refine jc_region ?_
            iterate 3 refine jp rfl ?_
            refine jt rfl (decide_eq_true (by omega)) ?_
            iterate 2 refine jp rfl ?_
            refine jsb rfl (fun h128 => ?_) (fun h128 => ?_)
            · iterate 2 refine jp rfl ?_
              refine jsb rfl (fun h131 => ?_) (fun h131 => ?_)
              · iterate 2 refine jp rfl ?_
                refine jl_nil ?_
                refine jT ?_
                refine jc_ret ?_
                refine jq_drop (L' := []) (List.nil_sublist _) ?_
                refine jr1 rfl rfl ?_
                first | exact ⟨rfl, rfl⟩ | (exfalso; have hkk : k = ys.length := (by omega); subst hkk; rw [List.take_length] at h1i h2i; first | (have hq := h1i.2 ⟨x1, hx1, by rw [hxe1]; rfl, by rw [hxe1]; rfl⟩; rw [h128] at hq; cases hq; done) | (have hq := h2i.2 ⟨x2, hx2, by rw [hxe2]; rfl, by rw [hxe2]; rfl⟩; rw [h131] at hq; cases hq))
              · iterate 2 refine jp rfl ?_
                refine jl_nil ?_
                refine jT ?_
                refine jc_ret ?_
                refine jq_drop (L' := []) (List.nil_sublist _) ?_
                refine jr1 rfl rfl ?_
                first | exact ⟨rfl, rfl⟩ | (exfalso; have hkk : k = ys.length := (by omega); subst hkk; rw [List.take_length] at h1i h2i; first | (have hq := h1i.2 ⟨x1, hx1, by rw [hxe1]; rfl, by rw [hxe1]; rfl⟩; rw [h128] at hq; cases hq; done) | (have hq := h2i.2 ⟨x2, hx2, by rw [hxe2]; rfl, by rw [hxe2]; rfl⟩; rw [h131] at hq; cases hq))
            · iterate 5 refine jp rfl ?_
              refine jl_nil ?_
              refine jT ?_
              refine jc_ret ?_
              refine jq_drop (L' := []) (List.nil_sublist _) ?_
              refine jr1 rfl rfl ?_
              first | exact ⟨rfl, rfl⟩ | (exfalso; have hkk : k = ys.length := (by omega); subst hkk; rw [List.take_length] at h1i h2i; first | (have hq := h1i.2 ⟨x1, hx1, by rw [hxe1]; rfl, by rw [hxe1]; rfl⟩; rw [h128] at hq; cases hq; done) | (have hq := h2i.2 ⟨x2, hx2, by rw [hxe2]; rfl, by rw [hxe2]; rfl⟩; rw [h131] at hq; cases hq))


theorem ckeeps_spec (p : Po) (x0 : V5) (M : Mem) (h : PT5 M x0 p) (hgen : 0 ≤ p.gen ∧ p.gen < 4294967296) (hnxt : 0 ≤ p.next ∧ p.next < 4294967296) : SpecL Tryz.prog 4 #[.agg (pcl x0 p.gen p.root p.next).toArray] M [] fun u _ _ => u = .bool true := (ckeeps_walk p x0 M h hgen hnxt).mono fun _ _ _ h => h.1

end Go.Proofs.YtjdmhbenpeedeaaGreat
