/- Walks: tables of counts read. -/
import Derived.Test.YtjdmhbenpeedeaaGreatDread
import Derived.Test.YtjdmhbenpeedeaaGreatCnt
namespace Go.Proofs.YtjdmhbenpeedeaaGreat
set_option linter.unusedVariables false
set_option linter.unusedSimpArgs false
open Go.RowKit

theorem cread_spec (s : Sto) (bv wv : Value) (M : Mem) (h1 : LS M bv s.blocks) (h2 : WS M wv s.waits) (hdk : dkOk s.blocks s.waits) (side : Int) (hs : side = 0 ∨ side = 1) (k : Nat) (hk : (k : Int) = 4 + 2 * side) (t : List By) (ht : seen s k ++ seen s (k + 1) = t) (hct0 : ctOk t) :
    SpecL Tryz.prog 18 #[.agg #[bv, wv], .int .i64 side] M [] fun u M' L' => (∃ v, u = .tuple #[v, .int .i64 0] ∧ BS M' v t) ∧ L' = [] := by
  have hct : ctChk t = 0 := if_pos hct0
  have htl : t.length = 256 := hct0.1
  refine spec_body (vs := [_, _]) 46 _ Tryz.func18 rfl Tryz.ntmps18 rfl rfl ?_; intro W
  refine jc_seq ?_
  refine jc_region ?_
  refine jl_h rfl rfl (hBox (cs := [_, _]) rfl rfl rfl rfl) ?_; rintro _ _ _ ⟨b2, rfl, rfl, rfl⟩
  iterate 2 refine jp rfl ?_
  refine jl_nil ?_
  refine jT ?_
  refine jc_seq ?_
  refine jc_region ?_
  refine jl_q rfl rfl (qLdL rfl rfl rfl rfl rfl (by first | (simp only [Nat.reduceAdd, Nat.zero_add, Nat.add_zero, List.drop_succ_cons, List.drop_zero, List.drop_nil, List.take_succ_cons, List.take_zero, List.take_nil, List.cons_append, List.nil_append, List.append_nil, List.length_cons, List.length_nil]; try rfl) | rfl)) ?_
  refine jp rfl ?_
  refine jl_q rfl rfl (qCall rfl rfl rfl rfl rfl (by kernel_rfl) (by have hp := place_spec s.blocks s.waits bv wv M h1 h2 hdk side hs; rw [← hk] at hp; exact hp)) ?_
  iterate 5 refine jp rfl ?_
  refine jl_nil ?_
  refine jT ?_
  refine jc_seq ?_
  refine jc_seq ?_
  refine jc_region ?_
  refine jp rfl ?_
  refine jf rfl (decide_eq_false (by first | omega | (rw [hct]; decide))) ?_
  refine jl_nil ?_
  refine jT ?_
  refine jc_no rfl ?_
  refine jc_skip ?_
  refine jT ?_
  refine jc_seq ?_
  refine jc_region ?_
  refine jl_q rfl rfl (qLdL rfl rfl rfl rfl rfl (by first | (simp only [Nat.reduceAdd, Nat.zero_add, Nat.add_zero, List.drop_succ_cons, List.drop_zero, List.drop_nil, List.take_succ_cons, List.take_zero, List.take_nil, List.cons_append, List.nil_append, List.append_nil, List.length_cons, List.length_nil]; try rfl) | rfl)) ?_
  refine jp rfl ?_
  refine jl_h rfl rfl (hCall rfl rfl rfl rfl rfl (by kernel_rfl) (dread_spec s k bv wv M h1 h2 hdk (by omega))) ?_; rintro _ M1 _ ⟨hM1, _, rfl, ⟨⟨v1, rfl, hv1⟩, rfl⟩⟩
  simp only [List.nil_append]
  obtain ⟨va1, vc1, rfl, hvc1, hvs1⟩ := id hv1
  iterate 5 refine jp rfl ?_
  refine jl_nil ?_
  refine jT ?_
  refine jc_seq ?_
  refine jc_region ?_
  refine jl_q rfl rfl (qLdL rfl rfl rfl rfl rfl (by first | (simp only [Nat.reduceAdd, Nat.zero_add, Nat.add_zero, List.drop_succ_cons, List.drop_zero, List.drop_nil, List.take_succ_cons, List.take_zero, List.take_nil, List.cons_append, List.nil_append, List.append_nil, List.length_cons, List.length_nil]; try rfl) | rfl)) ?_
  refine jp rfl ?_
  refine ja rfl (by first | omega | (rw [hct]; decide)) ?_
  refine jl_h rfl rfl (hCall rfl rfl rfl rfl rfl (by kernel_rfl) (by have hp := dread_spec s (k + 1) bv wv M1 (h1.mono hM1) (h2.mono hM1) hdk (by omega); rw [show ((k + 1 : Nat) : Int) = (k : Int) + 1 from by omega] at hp; exact hp)) ?_; rintro _ M2 _ ⟨hM2, _, rfl, ⟨⟨v2, rfl, hv2⟩, rfl⟩⟩
  simp only [List.nil_append]
  obtain ⟨va2, vc2, rfl, hvc2, hvs2⟩ := id hv2
  iterate 5 refine jp rfl ?_
  refine jl_nil ?_
  refine jT ?_
  refine jc_seq ?_
  refine jc_region ?_
  iterate 2 refine jp rfl ?_
  refine jl_h rfl rfl (hBuildSlice (cs := [_, _]) rfl rfl rfl (by rfl) (by rfl) (by rfl)) ?_; rintro _ _ _ ⟨b38, rfl, rfl, rfl⟩
  refine jl_freeze b38 (by simp) ?_
  intro M4 hM4 e4
  have hls := LS.two e4 ((hv1.mono hM2).mono hM4) (hv2.mono hM4)
  have hft : [seen s k, seen s (k + 1)].flatten = t := by simp [← ht]
  refine jl_h rfl rfl (hCall rfl rfl rfl rfl rfl (by kernel_rfl) (concat_spec _ _ M4 hls (by simp) (by rw [hft]; omega))) ?_; rintro _ M5 _ ⟨hM5, R5, rfl, hown⟩
  rw [hft] at hown
  refine jl_own hown (by simp) ?_
  intro M6 ca cc hM6 ec hcc hcs; cases ec
  have hbt : BS M6 (.slice ca t.length cc) t := ⟨ca, cc, rfl, hcc, hcs⟩
  refine jp rfl ?_
  refine jl_nil ?_
  refine jT ?_
  refine jc_seq ?_
  refine jc_seq ?_
  refine jc_region ?_
  refine jp rfl ?_
  refine jl_q rfl rfl (qCall rfl rfl rfl rfl rfl (by kernel_rfl) (ccheck_spec t _ M6 hbt)) ?_
  refine jp rfl ?_
  refine jl_nil ?_
  refine jT ?_
  refine jc_seq ?_
  refine jc_region ?_
  refine jp rfl ?_
  refine jf rfl (decide_eq_false (by first | omega | (rw [hct]; decide))) ?_
  refine jl_nil ?_
  refine jT ?_
  refine jc_no rfl ?_
  refine jc_skip ?_
  refine jT ?_
  refine jc_seq ?_
  refine jc_region ?_
  iterate 3 refine jp rfl ?_
  refine jl_nil ?_
  refine jT ?_
  refine jc_ret ?_
  refine jq_drop (L' := []) (List.nil_sublist _) ?_
  refine jr2 rfl rfl rfl ?_
  exact ⟨⟨_, rfl, hbt⟩, rfl⟩

end Go.Proofs.YtjdmhbenpeedeaaGreat
