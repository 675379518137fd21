/- Walks: calls are played. -/
import Derived.Test.YtdjaehgadehnfaaGreatDoorRs
namespace Go.Proofs.YtdjaehgadehnfaaGreatDoor
set_option linter.unusedVariables false
set_option linter.unusedSimpArgs false
open Go.RowKit Go.MapKept


def PlayP (qs : List QC) (u : Value) (M' : Mem) (L' : Lc) : Prop := (∃ a c ps, u = .tuple #[.slice a qs.length c, .int .i64 0] ∧ qs.length ≤ c ∧ c ≤ maxLen ∧ ps.map (·.1) = (runI insB partF PS0 (qs.map (·.1))).2 ∧ RsP M' a ps) ∧ L' = []
structure PlI (qs : List QC) (b13 : Nat) (M : Mem) (z : Nat × Mem × CS × Value × Lc × List QR) : Prop where
  le : z.1 ≤ qs.length
  mem : MLe M z.2.1
  ok : z.2.2.1.Ok
  blk : z.2.2.1.b = b13
  st : z.2.2.1.abs = (runI insB partF PS0 ((qs.map (·.1)).take z.1)).1
  own : Own z.2.2.2.1 z.2.2.2.2.1 36 8 z.1 (z.2.2.2.2.2.flatMap rF)
  rp : z.2.2.2.2.2.map (·.1) = (runI insB partF PS0 ((qs.map (·.1)).take z.1)).2
  rs : ∀ p ∈ z.2.2.2.2.2, BsP z.2.1 p.2.1 p.1.data ∧ NsP z.2.1 p.2.2 p.1.names

theorem play_many (qs : List QC) (la : Option Addr) (lc : Nat) (M : Mem) (hT : Tabs M) (hL : CsP M la qs) (h : 64 < qs.length) (hb : qs.length ≤ 1000000000) :
    SpecL Tryz.prog 9 #[.slice la qs.length lc] M [] fun u _ L' => u = .tuple #[.slice none 0 0, .int .i64 4] ∧ L' = [] := by
  refine spec_body (vs := [_]) 28 _ Tryz.func9 rfl Tryz.ntmps9 rfl rfl ?_; intro W
  refine jc_seq ?_
  refine jc_region ?_
  iterate 2 refine jp rfl ?_
  refine jl_nil ?_
  refine jT ?_
  refine jc_seq ?_
  refine jc_seq ?_
  refine jc_region ?_
  refine jp rfl ?_
  refine jl_q rfl rfl (qLen rfl rfl rfl) ?_
  refine jt rfl (decide_eq_true (by omega)) ?_
  refine jl_nil ?_
  refine jT ?_
  refine jc_yes rfl ?_
  refine jc_seq ?_
  refine jc_region ?_
  iterate 2 refine jp rfl ?_
  refine jl_nil ?_
  refine jT ?_
  refine jc_ret ?_
  refine jTr ?_
  refine jr2 rfl rfl rfl ?_
  exact ⟨rfl, rfl⟩

set_option maxHeartbeats 4000000 in
theorem play_few (qs : List QC) (la : Option Addr) (lc : Nat) (M : Mem) (hT : Tabs M) (hL : CsP M la qs) (h : qs.length ≤ 64) (hwf : ∀ k, k ≤ qs.length → WFS k (runI insB partF PS0 ((qs.map (·.1)).take k)).1) :
    SpecL Tryz.prog 9 #[.slice la qs.length lc] M [] (PlayP qs) := by
  refine spec_body (vs := [_]) 28 _ Tryz.func9 rfl Tryz.ntmps9 rfl rfl ?_; intro W
  refine jc_seq ?_
  refine jc_region ?_
  iterate 2 refine jp rfl ?_
  refine jl_nil ?_
  refine jT ?_
  refine jc_seq ?_
  refine jc_seq ?_
  refine jc_region ?_
  refine jp rfl ?_
  refine jl_q rfl rfl (qLen rfl rfl rfl) ?_
  refine jf rfl (decide_eq_false (by omega)) ?_
  refine jl_nil ?_
  refine jT ?_
  refine jc_no rfl ?_
  refine jc_skip ?_
  refine jT ?_
  refine jc_seq ?_
  refine jc_region ?_
  refine jl_h rfl rfl (hMakeMapO rfl rfl) ?_; rintro _ _ _ ⟨b11, rfl, rfl, rfl⟩
  refine jl_q rfl rfl (qBuild (cs := [_, _]) rfl rfl rfl (by rfl)) ?_
  refine jl_h rfl rfl (hBox (cs := [_, _]) rfl rfl rfl rfl) ?_; rintro _ _ _ ⟨b13, rfl, rfl, rfl⟩
  refine jp rfl ?_
  refine jl_nil ?_
  refine jT ?_
  refine jc_seq ?_
  refine jc_region ?_
  refine jp rfl ?_
  refine jl_nil ?_
  refine jT ?_
  refine jc_seq ?_
  refine jc_seq ?_
  refine jc_region ?_
  refine jp rfl ?_
  refine jl_q rfl rfl (qLen rfl rfl rfl) ?_
  refine jp rfl ?_
  refine jl_nil ?_
  refine jT ?_
  refine jc_block ?_
  refine jc_loopK (α := Nat × Mem × CS × Value × Lc × List QR) (fun z => [(4, pt b13), (5, z.2.2.2.1), (14, .slice la qs.length lc), (15, .int .i64 qs.length), (16, .int .i64 z.1)]) (fun z => z.2.1) (fun z => z.2.2.1.own ++ z.2.2.2.2.1) (fun z => PlI qs b13 M z) (fun z => qs.length - z.1)
    (0, M, ({ next := 0, b := b13, mb := b11, mo := .map #[] 0, vols := [] } : CS), .slice none 0 0, [], []) (Keep.cons (t := 4) rfl (Keep.cons (t := 5) rfl (Keep.cons (t := 14) rfl (Keep.cons (t := 15) rfl (Keep.cons (t := 16) rfl Keep.nil))))) ⟨Nat.zero_le _, MLe.refl _, ⟨MapOf.empty, fun _ h => by cases h⟩, rfl, rfl, Own.nil _ _, rfl, fun _ h => by cases h⟩ (fun _ h => h) ?_
  rintro ⟨k, Mk, Sk, out, R, ps⟩ hI
  have hb13 := hI.blk
  dsimp only at hb13 ⊢
  subst hb13
  refine jc_seq ?_
  refine jc_region ?_
  refine js rfl (fun h17 => ?_) (fun h17 => ?_)
  · refine jl_nil ?_
    refine jT ?_
    refine jc_seq ?_
    refine jc_yes rfl ?_
    refine jc_skip ?_
    refine jT ?_
    refine jc_seq ?_
    refine jc_block ?_
    refine jc_seq ?_
    refine jc_region ?_
    have hk1 : k < qs.length := by omega
    have hkl : k < (qs.map (·.1)).length := by rw [List.length_map]; exact hk1
    obtain ⟨qb, qo, e0, hx⟩ := flat_sm cF_len (hL.1.mono hI.mem) hk1 (by omega)
    subst e0
    obtain ⟨hC, hz1, hz2⟩ := hL.2 qs[k] (List.getElem_mem hk1)
    have hcl : (qs.map (·.1))[k] = qs[k].1 := by rw [List.getElem_map]
    have hwk : WFS k Sk.abs := by have := hI.st; simp only at this; rw [this]; exact hwf k (by omega)
    refine jl_q rfl rfl (qIdxS rfl rfl rfl rfl (by omega)) ?_
    refine jl_q rfl rfl (qLdA (cs := clCells qs[k].1 qs[k].2.1 qs[k].2.2) rfl rfl rfl rfl rfl (fun j v hv => by rw [Int.toNat_natCast]; exact (hx j v hv).cj _)) ?_
    refine jl_h rfl rfl (hAlloc rfl rfl) ?_; rintro _ _ _ ⟨b7, rfl, rfl, rfl⟩
    refine jl_s rfl (hStoreL rfl rfl rfl rfl rfl rfl rfl rfl (by first | (simp only [Nat.reduceAdd, Nat.zero_add, Nat.add_zero, List.drop_succ_cons, List.drop_zero, List.drop_nil, List.take_succ_cons, List.take_zero, List.take_nil, List.cons_append, List.nil_append, List.append_nil, List.length_cons, List.length_nil]; try rfl) | rfl)) ?_; rintro _ _ _ ⟨rfl, rfl⟩
    refine jl_nil ?_
    refine jT ?_
    refine jc_region ?_
    iterate 2 refine jp rfl ?_
    refine jl_q rfl rfl (qLdL rfl rfl rfl rfl rfl (by first | (simp only [Nat.reduceAdd, Nat.zero_add, Nat.add_zero, List.drop_succ_cons, List.drop_zero, List.drop_nil, List.take_succ_cons, List.take_zero, List.take_nil, List.cons_append, List.nil_append, List.append_nil, List.length_cons, List.length_nil]; try rfl) | rfl)) ?_
    refine jl_h rfl rfl (hCall rfl rfl rfl rfl rfl (by kernel_rfl) (do_spec Sk hI.ok k hwk (by omega) Mk (hT.mono hI.mem) qs[k].1 qs[k].2.1 qs[k].2.2 (hC.mono hI.mem) ⟨hz1, hz2⟩)) ?_; rintro _ M2 _ ⟨hM2, R9, rfl, ⟨S2, dv2, nv2, R1, R2, ⟨e1, eb⟩, e2, rfl, e3, e4, rfl⟩⟩
    obtain ⟨r, hr⟩ : ∃ r, (doI insB partF Sk.abs qs[k].1).2 = r := ⟨_, rfl⟩
    rw [hr] at e3 e4 ⊢
    obtain ⟨da2, dc2, rfl⟩ := e3.form
    obtain ⟨na2, nc2, rfl, hnc2⟩ := Nms.cap e4
    simp only [List.append_assoc]
    refine jl_byt e3 (by simp) ?_
    intro M3 hM3 hbs
    refine jl_own e4 (by simp) ?_
    intro M4 na3 nc3 hM4 e5 hc5 hs5
    cases e5
    refine jl_h rfl rfl (hBuildSlice (cs := [_, _, _, _, _, _, _, _]) rfl rfl rfl (by rfl) (by rfl) (by rfl)) ?_; rintro _ _ _ ⟨b24, rfl, rfl, rfl⟩
    refine jl_h rfl rfl (hAppend (R := R) (news := rF ((r, .slice da2 r.data.length dc2, .slice na2 r.names.length nc2) : QR)) rfl rfl rfl rfl hI.own rfl (fun j v hv => CJ.loc (by rw [Nat.zero_add]; unfold rF at hv; simpa using hv)) rfl rfl (fun u hu => List.all_eq_true.1 (rfl : ((rF ((r, .slice da2 r.data.length dc2, .slice na2 r.names.length nc2) : QR)).all fun v => v.oneCell') = true) u hu) (by omega) (by omega)) ?_; rintro out2 _ _ ⟨rfl, R3, rfl, hown2, _⟩
    refine jp rfl ?_
    refine jl_nil ?_
    refine jB ?_
    refine jT ?_
    refine jc_region ?_
    refine ja rfl (by omega) ?_
    refine jp rfl ?_
    refine jl_nil ?_
    have hst : (runI insB partF PS0 ((qs.map (·.1)).take k)).1 = Sk.abs := hI.st.symm
    have hrt := runI_take (ins := insB) (part := partF) (S := PS0) hkl
    rw [hcl, hst] at hrt
    refine j_again (k + 1, M4, S2, out2, R3, ps ++ [((r, .slice da2 r.data.length dc2, .slice na2 r.names.length nc2) : QR)]) (Keep.cons (t := 4) rfl (Keep.cons (t := 5) rfl (Keep.cons (t := 14) rfl (Keep.cons (t := 15) rfl (Keep.cons (t := 16) rfl Keep.nil))))) ⟨by show k + 1 ≤ qs.length; omega, ((hI.mem.trans hM2).trans hM3).trans hM4, e1, eb, ?_, ?_, ?_, ?_⟩ (by show qs.length - (k + 1) < qs.length - k; omega) (fun _ h => h.subC fun f => by simp only [List.map_append, List.map_cons, List.map_nil, List.sum_append, List.sum_cons, List.sum_nil]; omega)
    · show S2.abs = _; rw [hrt, e2]
    · show Own out2 R3 _ 8 (k + 1) ((ps ++ [((r, .slice da2 r.data.length dc2, .slice na2 r.names.length nc2) : QR)]).flatMap rF); rw [List.flatMap_append, List.flatMap_cons, List.flatMap_nil, List.append_nil]; exact hown2
    · show (ps ++ [((r, .slice da2 r.data.length dc2, .slice na2 r.names.length nc2) : QR)]).map (·.1) = _; rw [hrt, List.map_append, hI.rp, hr]; rfl
    · intro p hp
      rcases List.mem_append.1 hp with hp | hp
      · have := hI.rs p hp; exact ⟨this.1.mono ((hM2.trans hM3).trans hM4), this.2.mono ((hM2.trans hM3).trans hM4)⟩
      · rw [List.mem_singleton.1 hp]; exact ⟨hbs.mono hM4, ⟨_, _, rfl, hc5, hnc2, hs5⟩⟩
  · refine jl_nil ?_
    refine jT ?_
    refine jc_seq ?_
    refine jc_no rfl ?_
    refine jc_exit ?_
    refine jTx ?_
    refine jTx ?_
    refine jBx ?_
    refine jT ?_
    refine jc_seq ?_
    obtain rfl : k = qs.length := by have := hI.le; simp only at this; omega
    refine jc_own hI.own (by simp) ?_
    intro M9 a9 c9 hM9 e9 hc9 hs9
    dsimp only at e9; subst e9
    have hcm9 : c9 ≤ maxLen := by have := hI.own.capLe; simpa using this
    refine jc_region ?_
    iterate 3 refine jp rfl ?_
    refine jl_nil ?_
    refine jT ?_
    refine jc_ret ?_
    refine jq_drop (L' := []) (List.nil_sublist _) ?_
    refine jr2 rfl rfl rfl ?_
    have hrp := hI.rp
    dsimp only at hrp
    rw [show (qs.map (·.1)).take qs.length = qs.map (·.1) from List.take_of_length_le (by rw [List.length_map]; exact Nat.le_refl _)] at hrp
    exact ⟨⟨_, _, ps, rfl, hc9, hcm9, hrp, hs9, fun p hp => ⟨(hI.rs p hp).1.mono hM9, (hI.rs p hp).2.mono hM9⟩⟩, rfl⟩


end Go.Proofs.YtdjaehgadehnfaaGreatDoor
