/- CommitNames' function is walked. -/
import Derived.Test.YtjdmhbenpeedeaaAlivec
namespace Go.Proofs.Ytjdmhbenpeedeaa
set_option linter.unusedVariables false
set_option linter.unusedSimpArgs false
open Go.RowKit

theorem DK.two {M : Mem} {v : Value} {bs : List (List By)} {ws : List Wt} (h : DK M v bs ws) : ∃ x y : Sl, v = .agg #[x.v, y.v] ∧ LS M x.v bs ∧ WS M y.v ws := by
  obtain ⟨bv, wv, rfl, h1, h2⟩ := h
  obtain ⟨x, rfl⟩ := h1.sl
  obtain ⟨y, rfl⟩ := h2.sl
  exact ⟨x, y, rfl, h1, h2⟩
theorem CutP.form {p : Po} {phase : Int} {keep : List Bool} {u : Value} {M' : Mem} (h : CutP p phase keep u M') : ∃ (x y : Sl) (e : Int), u = .tuple #[.agg #[x.v, y.v], .int .i64 e] ∧
    ((e = 0 ∧ askC p = 0 ∧ (1 ≤ phase ∧ phase ≤ 3) ∧ keep.length = (dsk p phase.toNat).2.length ∧ LS M' x.v (setB (dsk p phase.toNat).1 (kept keep (dsk p phase.toNat).2)) ∧ WS M' y.v []) ∨
     (e = 2 ∧ askC p = 0 ∧ ¬ ((1 ≤ phase ∧ phase ≤ 3) ∧ keep.length = (dsk p phase.toNat).2.length)) ∨ (e = askC p ∧ askC p ≠ 0)) := by
  unfold CutP at h
  split at h
  · rename_i ha
    split at h
    · exact ⟨⟨none, 0, 0⟩, ⟨none, 0, 0⟩, 2, h, .inr (.inl ⟨rfl, ha, fun hh => by omega⟩)⟩
    · rename_i hp
      split at h
      · rename_i hl
        obtain ⟨d, rfl, hd⟩ := h
        obtain ⟨x, y, rfl, h1, h2⟩ := hd.two
        exact ⟨x, y, 0, rfl, .inl ⟨rfl, ha, by omega, hl, h1, h2⟩⟩
      · rename_i hl
        exact ⟨⟨none, 0, 0⟩, ⟨none, 0, 0⟩, 2, h, .inr (.inl ⟨rfl, ha, fun hh => hl hh.2⟩)⟩
  · rename_i ha
    exact ⟨⟨none, 0, 0⟩, ⟨none, 0, 0⟩, _, h, .inr (.inr ⟨rfl, ha⟩)⟩
def pz : Po := ⟨⟨[], [], [], []⟩, 0, 0, 0, []⟩
theorem pz_pt (M : Mem) : PT M (.agg poZ.toArray) pz := ⟨_, _, _, _, _, rfl, ⟨none, 0, [], rfl, Nat.le_refl _, SM.nil, rfl, fun _ h => by cases h⟩, WS.nil, BS.nil, BS.nil, none, 0, rfl, Nat.le_refl _, SM.nil⟩
theorem pz_ask : askC pz = 8 := by
  have h : poChk pz = 8 := by unfold poChk; rw [cens_no (fun h => by have := h.1.1.1; cases this)]
  unfold askC; rw [h, if_pos (by decide)]
theorem pz_n : PoN pz := ⟨by decide, by decide, by decide⟩
def gmax (p : Po) : Po := { p with gen := 4294967295 }
theorem gmax_ask {p : Po} (h : askC p = 0) : askC (gmax p) = 9 := by
  have hc : poChk p = 0 := Classical.byContradiction fun hn => by unfold askC at h; rw [if_pos hn] at h; exact hn h
  unfold askC; rw [show poChk (gmax p) = poChk p from rfl, hc, if_neg (by decide), if_pos (show (gmax p).gen = 4294967295 from rfl)]
theorem PT5.gmax {M : Mem} {x : V5} {p : Po} (h : PT5 M x p) : PT5 M x (gmax p) := ⟨h.b, h.w, h.n, h.l, h.d⟩

set_option maxHeartbeats 2000000 in
theorem cnames_gen (p0 : Po) (hnew : ∀ M, SpecL Try.prog 11 #[] M [] fun u M' L' => PT M' u p0 ∧ L' = []) (ha : askC p0 = 0) (hn0 : PoN p0) (hg0 : p0.gen = 0) (M : Mem) :
    SpecL Try.prog 4 #[] M [] fun u M' L' => u = .bool true ∧ L' = [] := by
  refine spec_body (vs := []) 73 _ Try.func4 rfl Try.ntmps4 rfl rfl ?_; intro W
  refine jc_seq ?_
  refine jc_region ?_
  refine jp rfl ?_
  refine jl_nil ?_
  refine jT ?_
  refine jc_seq ?_
  refine jc_seq ?_
  refine jc_region ?_
  refine jl_h rfl rfl (hCall rfl rfl rfl rfl rfl (by kernel_rfl) (alive_gen p0 hnew ha hn0 hg0 M)) ?_; rintro _ M1 _ ⟨hM1, _, rfl, ⟨rfl, rfl⟩⟩
  simp only [List.nil_append]
  refine jp rfl ?_
  refine jl_nil ?_
  refine jT ?_
  refine jc_no rfl ?_
  refine jc_skip ?_
  refine jT ?_
  refine jc_seq ?_
  refine jc_region ?_
  refine jl_h rfl rfl (hCall rfl rfl rfl rfl rfl (by kernel_rfl) (hnew M1)) ?_; rintro _ N15 _ ⟨hN15, _, rfl, ⟨hp15, rfl⟩⟩
  simp only [List.nil_append]
  refine jl_h rfl rfl (hBuildSlice (cs := [.bool true, .bool false]) rfl rfl rfl (by rfl) (by rfl) (by rfl)) ?_; rintro _ _ _ ⟨b16, rfl, rfl, rfl⟩
  refine jl_freeze b16 (by simp) ?_
  intro N16 hN16 e16
  refine jl_h rfl rfl (hCall rfl rfl rfl rfl rfl (by kernel_rfl) (cut_spec p0 _ N16 (hp15.mono hN16) hn0 2 [true, false] _ _ (SM.of_block (l := bocells [true, false]) e16) (by decide))) ?_; rintro _ N17 _ ⟨hN17, _, rfl, ⟨hc17, rfl⟩⟩
  simp only [List.nil_append]
  obtain ⟨x17, y17, e17, rfl, hf17⟩ := hc17.form
  obtain ⟨rfl, _, _, _, hB, hW⟩ | ⟨_, _, hno⟩ | ⟨_, hne⟩ := hf17
  rotate_left
  · exact absurd ⟨⟨by decide, by decide⟩, rfl⟩ hno
  · exact absurd ha hne
  iterate 3 refine jp rfl ?_
  refine jl_h rfl rfl (hAlloc rfl rfl) ?_; rintro _ _ _ ⟨b1, rfl, rfl, rfl⟩
  refine jl_s rfl (hStoreL rfl rfl rfl rfl rfl rfl rfl rfl (by first | (simp only [Nat.reduceAdd, Nat.zero_add, Nat.add_zero, List.drop_succ_cons, List.drop_zero, List.drop_nil, List.take_succ_cons, List.take_zero, List.take_nil, List.cons_append, List.nil_append, List.append_nil, List.length_cons, List.length_nil]; try rfl) | rfl)) ?_; rintro _ _ _ ⟨rfl, rfl⟩
  refine jp rfl ?_
  refine jl_nil ?_
  refine jT ?_
  refine jc_seq ?_
  refine jc_region ?_
  refine jl_h rfl rfl (hCall rfl rfl rfl rfl rfl (by kernel_rfl) (hnew N17)) ?_; rintro _ N21 _ ⟨hN21, _, rfl, ⟨hp21, rfl⟩⟩
  simp only [List.nil_append]
  refine jl_h rfl rfl (hCall rfl rfl rfl rfl rfl (by kernel_rfl) (cut_spec p0 _ N21 hp21 hn0 4 [] _ _ SM.nil (by decide))) ?_; rintro _ N22 _ ⟨hN22, _, rfl, ⟨hc22, rfl⟩⟩
  simp only [List.nil_append]
  obtain ⟨x22, y22, e22, rfl, hf22⟩ := hc22.form
  have he22 : e22 = 2 := by
    obtain ⟨_, _, h, _⟩ | ⟨h, _⟩ | ⟨_, hne⟩ := hf22
    · omega
    · exact h
    · exact absurd ha hne
  iterate 3 refine jp rfl ?_
  refine jl_h rfl rfl (hAlloc rfl rfl) ?_; rintro _ _ _ ⟨b3, rfl, rfl, rfl⟩
  refine jl_s rfl (hStoreL rfl rfl rfl rfl rfl rfl rfl rfl (by first | (simp only [Nat.reduceAdd, Nat.zero_add, Nat.add_zero, List.drop_succ_cons, List.drop_zero, List.drop_nil, List.take_succ_cons, List.take_zero, List.take_nil, List.cons_append, List.nil_append, List.append_nil, List.length_cons, List.length_nil]; try rfl) | rfl)) ?_; rintro _ _ _ ⟨rfl, rfl⟩
  refine jp rfl ?_
  refine jl_nil ?_
  refine jT ?_
  refine jc_seq ?_
  refine jc_region ?_
  refine jl_h rfl rfl (hCall rfl rfl rfl rfl rfl (by kernel_rfl) (hnew N22)) ?_; rintro _ N26 _ ⟨hN26, _, rfl, ⟨hp26, rfl⟩⟩
  simp only [List.nil_append]
  refine jl_h rfl rfl (hCall rfl rfl rfl rfl rfl (by kernel_rfl) (cut_spec p0 _ N26 hp26 hn0 3 [] _ _ SM.nil (by decide))) ?_; rintro _ N27 _ ⟨hN27, _, rfl, ⟨hc27, rfl⟩⟩
  simp only [List.nil_append]
  obtain ⟨x27, y27, e27, rfl, hf27⟩ := hc27.form
  have he27 : e27 = 2 := by
    obtain ⟨_, _, _, h, _⟩ | ⟨h, _⟩ | ⟨_, hne⟩ := hf27
    · cases h
    · exact h
    · exact absurd ha hne
  iterate 3 refine jp rfl ?_
  refine jl_h rfl rfl (hAlloc rfl rfl) ?_; rintro _ _ _ ⟨b5, rfl, rfl, rfl⟩
  refine jl_s rfl (hStoreL rfl rfl rfl rfl rfl rfl rfl rfl (by first | (simp only [Nat.reduceAdd, Nat.zero_add, Nat.add_zero, List.drop_succ_cons, List.drop_zero, List.drop_nil, List.take_succ_cons, List.take_zero, List.take_nil, List.cons_append, List.nil_append, List.append_nil, List.length_cons, List.length_nil]; try rfl) | rfl)) ?_; rintro _ _ _ ⟨rfl, rfl⟩
  refine jp rfl ?_
  refine jl_nil ?_
  refine jT ?_
  refine jc_seq ?_
  refine jc_region ?_
  refine jl_q rfl rfl (qBuild (cs := [_, _, _, _, _, _, _, _]) rfl rfl rfl (by rfl)) ?_
  refine jl_h rfl rfl (hCall rfl rfl rfl rfl rfl (by kernel_rfl) (commit_spec pz _ N27 (pz_pt _) pz_n)) ?_; rintro _ N32 _ ⟨hN32, _, rfl, ⟨hc32, rfl⟩⟩
  simp only [List.nil_append]
  obtain ⟨x32, g32, r32, n32, e32, rfl, hf32⟩ := hc32.form
  have he32 : e32 = 8 := by
    have hz := pz_ask
    obtain ⟨_, h, _⟩ | ⟨h, _⟩ := hf32 <;> omega
  iterate 3 refine jp rfl ?_
  refine jl_h rfl rfl (hAlloc rfl rfl) ?_; rintro _ _ _ ⟨b7, rfl, rfl, rfl⟩
  refine jl_s rfl (hStoreL rfl rfl rfl rfl rfl rfl rfl rfl (by first | (simp only [Nat.reduceAdd, Nat.zero_add, Nat.add_zero, List.drop_succ_cons, List.drop_zero, List.drop_nil, List.take_succ_cons, List.take_zero, List.take_nil, List.cons_append, List.nil_append, List.append_nil, List.length_cons, List.length_nil]; try rfl) | rfl)) ?_; rintro _ _ _ ⟨rfl, rfl⟩
  refine jp rfl ?_
  refine jl_nil ?_
  refine jT ?_
  refine jc_seq ?_
  refine jc_region ?_
  refine jl_h rfl rfl (hCall rfl rfl rfl rfl rfl (by kernel_rfl) (hnew N32)) ?_; rintro _ N35 _ ⟨hN35, _, rfl, ⟨hp35, rfl⟩⟩
  simp only [List.nil_append]
  obtain ⟨x35, rfl, h35⟩ := hp35.five
  refine jl_h rfl rfl (hAlloc rfl rfl) ?_; rintro _ _ _ ⟨b9, rfl, rfl, rfl⟩
  refine jl_s rfl (hStoreL rfl rfl rfl rfl rfl rfl rfl rfl (by first | (simp only [Nat.reduceAdd, Nat.zero_add, Nat.add_zero, List.drop_succ_cons, List.drop_zero, List.drop_nil, List.take_succ_cons, List.take_zero, List.take_nil, List.cons_append, List.nil_append, List.append_nil, List.length_cons, List.length_nil]; try rfl) | rfl)) ?_; rintro _ _ _ ⟨rfl, rfl⟩
  refine jl_nil ?_
  refine jT ?_
  refine jc_seq ?_
  refine jc_region ?_
  refine jl_q rfl rfl (qFieldAddr rfl rfl rfl rfl rfl) ?_
  refine jl_s rfl (hStoreL rfl rfl rfl rfl rfl rfl rfl rfl (by first | (simp only [Nat.reduceAdd, Nat.zero_add, Nat.add_zero, List.drop_succ_cons, List.drop_zero, List.drop_nil, List.take_succ_cons, List.take_zero, List.take_nil, List.cons_append, List.nil_append, List.append_nil, List.length_cons, List.length_nil]; try rfl) | rfl)) ?_; rintro _ _ _ ⟨rfl, rfl⟩
  refine jl_nil ?_
  refine jT ?_
  refine jc_seq ?_
  refine jc_region ?_
  refine jl_q rfl rfl (qLdL rfl rfl rfl rfl rfl (by first | (simp only [Nat.reduceAdd, Nat.zero_add, Nat.add_zero, List.drop_succ_cons, List.drop_zero, List.drop_nil, List.take_succ_cons, List.take_zero, List.take_nil, List.cons_append, List.nil_append, List.append_nil, List.length_cons, List.length_nil]; try rfl) | rfl)) ?_
  refine jl_h rfl rfl (hCall rfl rfl rfl rfl rfl (by kernel_rfl) (commit_spec (gmax p0) _ N35 h35.gmax.pt ⟨by show (0 : Int) ≤ 4294967295 ∧ (4294967295 : Int) < 4294967296; decide, hn0.next, hn0.dead⟩)) ?_; rintro _ N39 _ ⟨hN39, _, rfl, ⟨hc39, rfl⟩⟩
  simp only [List.nil_append]
  obtain ⟨x39, g39, r39, n39, e39, rfl, hf39⟩ := hc39.form
  have he39 : e39 = 9 := by
    have hz := gmax_ask ha
    obtain ⟨_, h, _⟩ | ⟨h, _⟩ := hf39 <;> omega
  iterate 3 refine jp rfl ?_
  refine jl_h rfl rfl (hAlloc rfl rfl) ?_; rintro _ _ _ ⟨b10, rfl, rfl, rfl⟩
  refine jl_s rfl (hStoreL rfl rfl rfl rfl rfl rfl rfl rfl (by first | (simp only [Nat.reduceAdd, Nat.zero_add, Nat.add_zero, List.drop_succ_cons, List.drop_zero, List.drop_nil, List.take_succ_cons, List.take_zero, List.take_nil, List.cons_append, List.nil_append, List.append_nil, List.length_cons, List.length_nil]; try rfl) | rfl)) ?_; rintro _ _ _ ⟨rfl, rfl⟩
  refine jp rfl ?_
  refine jl_nil ?_
  refine jT ?_
  refine jc_seq ?_
  refine jc_region ?_
  iterate 2 refine jp rfl ?_
  refine jt rfl (decide_eq_true (by first | omega | exact hck | exact hW.len | exact congrArg (fun n : Nat => (n : Int)) hW.len)) ?_
  iterate 2 refine jp rfl ?_
  refine jl_q rfl rfl (qLdL rfl rfl rfl rfl rfl (by first | (simp only [Nat.reduceAdd, Nat.zero_add, Nat.add_zero, List.drop_succ_cons, List.drop_zero, List.drop_nil, List.take_succ_cons, List.take_zero, List.take_nil, List.cons_append, List.nil_append, List.append_nil, List.length_cons, List.length_nil]; try rfl) | rfl)) ?_
  have hMM := hN21.trans (hN22.trans (hN26.trans (hN27.trans (hN32.trans (hN35.trans hN39)))))
  have hok := (askC_ok ha).1
  have hck : dkChk (setB (dsk p0 2).1 (kept [true, false] (dsk p0 2).2)) [] = 0 := if_pos (setB_ok (dsk_ok hok hn0 2) fun w hw => ((dsk_ok hok hn0 2).w w (kept_mem hw)).2.2)
  refine jl_q rfl rfl (qCall rfl rfl rfl rfl rfl (by kernel_rfl) (dcheck_spec (setB (dsk p0 2).1 (kept [true, false] (dsk p0 2).2)) [] _ _ N39 (hB.mono hMM) (hW.mono hMM))) ?_
  refine jt rfl (decide_eq_true (by first | omega | exact hck | exact hW.len | exact congrArg (fun n : Nat => (n : Int)) hW.len)) ?_
  iterate 2 refine jp rfl ?_
  refine jl_q rfl rfl (qFieldAddr rfl rfl rfl rfl rfl) ?_
  refine jl_q rfl rfl (qLd rfl rfl rfl rfl (CJ.loc rfl)) ?_
  refine jl_q rfl rfl (qLen rfl rfl rfl) ?_
  refine jt rfl (decide_eq_true (by first | omega | exact hck | exact hW.len | exact congrArg (fun n : Nat => (n : Int)) hW.len)) ?_
  iterate 3 refine jp rfl ?_
  refine jt rfl (decide_eq_true (by first | omega | exact hck | exact hW.len | exact congrArg (fun n : Nat => (n : Int)) hW.len)) ?_
  iterate 3 refine jp rfl ?_
  refine jt rfl (decide_eq_true (by first | omega | exact hck | exact hW.len | exact congrArg (fun n : Nat => (n : Int)) hW.len)) ?_
  iterate 3 refine jp rfl ?_
  refine jt rfl (decide_eq_true (by first | omega | exact hck | exact hW.len | exact congrArg (fun n : Nat => (n : Int)) hW.len)) ?_
  iterate 6 refine jp rfl ?_
  refine jl_nil ?_
  refine jT ?_
  refine jc_ret ?_
  refine jq_drop (L' := []) (List.nil_sublist _) ?_
  refine jr1 rfl rfl ?_
  exact ⟨congrArg Value.bool (decide_eq_true he39), rfl⟩


theorem cnames_spec (M : Mem) : SpecL Try.prog 4 #[] M [] fun u _ _ => u = .bool true := (cnames_gen po0 fnew_spec po0_ask po0_n rfl M).mono fun _ _ _ h => h.1

end Go.Proofs.Ytjdmhbenpeedeaa
