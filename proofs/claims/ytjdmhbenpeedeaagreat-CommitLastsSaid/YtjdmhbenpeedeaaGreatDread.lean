/- Walks: dev.Read. -/
import Derived.Test.YtjdmhbenpeedeaaGreatDev
namespace Go.Proofs.YtjdmhbenpeedeaaGreat
set_option linter.unusedVariables false
set_option linter.unusedSimpArgs false
open Go.RowKit

section
variable {P : Program} {ops : Array Oper} {N : Fs} {F : Fr} {W : World} {X : List Nat} {M0 M : Mem} {L : Lc} {Q : Exit → Act → World → Prop} {rest : List Oper}
theorem jl_ownX {v : Value} {R L2 : Lc} {e : TypeId} {size n : Nat} {xs : List Value} (ho : Own v R e size n xs) [hp : Pick R L L2] (hg : ∀ x ∈ X, x ∈ L2.map (·.1))
    (h : ∀ M' a cap, MLe M M' → v = .slice a n cap → n ≤ cap → SM M' a xs → JL P ops N Q rest F ⟨W, X, M0⟩ M' L2) : JL P ops N Q rest F ⟨W, X, M0⟩ M L := by
  intro a w ha hw
  have hw' := hw.perm hp.perm
  have hn := hw'.nodup
  rw [List.map_append] at hn
  have hd := (List.nodup_append.1 hn).2.2
  obtain ⟨M', ad, cap, k1, k2, k3, k4, k5⟩ := ho.freeze (fun p hpR hpX => hd _ (List.mem_map_of_mem hpR) _ (hg _ hpX) rfl) hw'
  exact h M' ad cap k1 k2 k3 k4 a w ha k5
end
theorem seen_128 {s : Sto} (h : dkOk s.blocks s.waits) {k : Nat} (hk : k < 256) : (seen s k).length = 128 := by
  obtain ⟨h1, h2, h3, h4⟩ := h
  unfold seen
  split
  · rename_i w hw
    exact (h4 w (List.mem_reverse.1 (List.mem_of_find?_eq_some hw))).2.2
  · rw [getD_at (by omega)]; exact h3 _ (List.getElem_mem _)

set_option maxHeartbeats 2000000 in
theorem dread_walk (s : Sto) (k : Nat) (hk : k < 256) (hdk : dkOk s.blocks s.waits) (bv : Value) (wa : Option Addr) (wc : Nat) (ps : List (Wt × Value)) (M : Mem) (h1 : LS M bv s.blocks) (hwc : s.waits.length ≤ wc) (hws : SM M wa (ps.flatMap wcell)) (hp : ps.map (·.1) = s.waits) (hb : ∀ q ∈ ps, BS M q.2 q.1.2) :
    SpecL Tryz.prog 15 #[.agg #[bv, .slice wa s.waits.length wc], .int .i64 k] M [] fun u M' L' => (∃ v, u = .tuple #[v, .int .i64 0] ∧ BS M' v (seen s k)) ∧ L' = [] := by
  obtain ⟨hq1, hq2, hq3, hq4⟩ := id hdk
  have h1c := h1
  obtain ⟨ba, bc, ps1, rfl, hbc, hbs, hbp, hbb⟩ := h1
  obtain ⟨bb, bo, e0, hbx⟩ := hbs.open (by intro e; have := congrArg List.length e; rw [List.length_map, List.length_nil] at this; have h2 := congrArg List.length hbp; rw [List.length_map] at h2; omega)
  subst e0
  obtain ⟨va, vc, hcl, hvc, hvs⟩ := blocks_get hbx hbp hbb (k := k) (by omega)
  have hwsw : WS M (.slice wa s.waits.length wc) s.waits := ⟨wa, wc, ps, rfl, hwc, hws, hp, hb⟩
  have hlk : s.blocks[k].length = 128 := hq3 _ (List.getElem_mem _)
  refine spec_body (vs := [_, _]) 33 _ Tryz.func15 rfl Tryz.ntmps15 rfl rfl ?_; intro W
  refine jc_seq ?_
  refine jc_region ?_
  refine jl_h rfl rfl (hBox (cs := [_, _]) rfl rfl rfl rfl) ?_; rintro _ _ _ ⟨b2, rfl, rfl, rfl⟩
  refine jl_h rfl rfl (hBox (cs := [.int .i64 k]) rfl rfl rfl rfl) ?_; rintro _ _ _ ⟨b3, rfl, rfl, rfl⟩
  refine jl_h rfl rfl (hAlloc rfl rfl) ?_; rintro _ _ _ ⟨b4, rfl, rfl, rfl⟩
  refine jl_h rfl rfl (hAlloc rfl rfl) ?_; rintro _ _ _ ⟨b5, rfl, rfl, rfl⟩
  refine jl_nil ?_
  refine jT ?_
  refine jc_seq ?_
  refine jc_seq ?_
  refine jc_region ?_
  refine jl_q rfl rfl (qLdL rfl rfl rfl rfl rfl (by first | (simp only [Nat.reduceAdd, Nat.zero_add, Nat.add_zero, List.drop_succ_cons, List.drop_zero, List.drop_nil, List.take_succ_cons, List.take_zero, List.take_nil, List.cons_append, List.nil_append, List.append_nil, List.length_cons, List.length_nil]; try rfl) | rfl)) ?_
  refine jl_q rfl rfl (qLd rfl rfl rfl rfl (CJ.loc rfl)) ?_
  refine jl_q rfl rfl (qCall rfl rfl rfl rfl rfl (by kernel_rfl) (dasked_spec s.blocks s.waits _ _ M h1c hwsw hdk k (by omega))) ?_
  refine jp rfl ?_
  refine jl_nil ?_
  refine jT ?_
  refine jc_seq ?_
  refine jc_region ?_
  refine jp rfl ?_
  refine jf rfl (decide_eq_false (by omega)) ?_
  refine jl_nil ?_
  refine jT ?_
  refine jc_no rfl ?_
  refine jc_skip ?_
  refine jT ?_
  refine jc_seq ?_
  refine jc_seq ?_
  refine jc_region ?_
  refine jl_q rfl rfl (qFieldAddr rfl rfl rfl rfl rfl) ?_
  refine jl_q rfl rfl (qLd rfl rfl rfl rfl (CJ.loc rfl)) ?_
  refine jl_h rfl rfl (hCall rfl rfl rfl rfl rfl (by kernel_rfl) (bww _ _ _ M)) ?_; rintro _ M1 _ ⟨hM1, _, rfl, ⟨b36, rfl, e36, rfl⟩⟩
  have hpl : ps.length = s.waits.length := by rw [← hp, List.length_map]
  rw [← hpl] at e36
  refine jl_nil ?_
  refine jT ?_
  refine jc_block ?_
  refine jc_freeze b2 (by simp) ?_
  intro M2f hM2f e2
  refine jc_freeze b3 (by simp) ?_
  intro M1f hM1f e3
  replace e2 := hM1f _ _ e2
  replace e36 := hM1f _ _ (hM2f _ _ e36)
  replace hM1 := hM1.trans (hM2f.trans hM1f)
  refine jc_range (R := [(b5, .cells [.int .i64 0].toArray 36 (0, 0)), (b4, .cells [.slice none 0 0].toArray 26 (0, 0))]) (xs := bw ps 0) (enc := (fun p : (Wt × Value) × Nat => [.int .i64 p.2, .agg (wcell p.1).toArray])) (ps := [18, 19]) rfl (by kernel_rfl) (bww_iter b36 wa wc ps M1f e36 (hws.mono hM1) (by omega))
    (fun pre _ R => R = [(b5, .cells [.int .i64 0].toArray 36 (0, 0)), (b4, .cells [.slice none 0 0].toArray 26 (0, 0))] ∧ ∀ q ∈ pre, q.1.1.1 ≠ (k : Int))
    (fun c _ M' R => c = .ret ∧ ∃ v, R = [(b5, .cells [.int .i64 0].toArray 36 (0, 0)), (b4, .cells [v].toArray 26 (0, 0))] ∧ BS M' v (seen s k))
    (fun _ => rfl) (by decide) ⟨rfl, fun _ h => by cases h⟩ ?_ ?_ ?_
  · intro l W2 pre y M2 R2 hM2 hI hpre
    obtain ⟨rfl, hI⟩ := hI
    have hym : y.1 ∈ ps := bw_mem (hpre.subset (by simp))
    obtain ⟨⟨yw, yv⟩, yi⟩ := y
    have hyb := hb _ hym
    obtain ⟨ya, yc, hyv, hyc, hys⟩ := id hyb
    change yv = Value.slice ya yw.2.length yc at hyv; subst hyv
    refine jc_region ?_
    refine jl_h rfl rfl (hAlloc rfl rfl) ?_; rintro _ _ _ ⟨b8, rfl, rfl, rfl⟩
    refine jl_s rfl (hStoreL rfl rfl rfl rfl rfl rfl rfl rfl (by first | (simp only [Nat.reduceAdd, Nat.zero_add, Nat.add_zero, List.drop_succ_cons, List.drop_zero, List.drop_nil, List.take_succ_cons, List.take_zero, List.take_nil, List.cons_append, List.nil_append, List.append_nil, List.length_cons, List.length_nil]; try rfl) | rfl)) ?_; rintro _ _ _ ⟨rfl, rfl⟩
    refine jl_nil ?_
    refine jK fun W' => ?_
    refine jc_block ?_
    refine jc_seq ?_
    refine jc_region ?_
    refine jl_q rfl rfl (qFieldAddr rfl rfl rfl rfl rfl) ?_
    refine jl_q rfl rfl (qLd rfl rfl rfl rfl (CJ.loc rfl)) ?_
    refine jl_q rfl rfl (qLd rfl rfl rfl rfl (CM.cj ⟨_, _, _, hM2 _ _ e3, rfl⟩ _)) ?_
    refine js rfl (fun h23 => ?_) (fun h23 => ?_)
    · refine jl_nil ?_
      refine jT ?_
      refine jc_yes rfl ?_
      refine jc_seq ?_
      refine jc_region ?_
      refine jl_q rfl rfl (qFieldAddr rfl rfl rfl rfl rfl) ?_
      refine jl_q rfl rfl (qLd rfl rfl rfl rfl (CJ.loc rfl)) ?_
      refine jl_h rfl rfl (hCall rfl rfl rfl rfl rfl (by kernel_rfl) (bclone_spec _ yw.2 M2 (hyb.mono (hM1.trans hM2)) (by have := (hq4 yw (by rw [← hp]; exact List.mem_map_of_mem hym)).2.2; omega))) ?_; rintro _ M3 _ ⟨hM3, Rc, rfl, hownc⟩
      refine jl_ownX hownc (by simp) ?_
      intro M4 ca cc hM4 ec hcc hcs; cases ec
      refine jl_s rfl (hStoreL rfl rfl rfl rfl rfl rfl rfl rfl (by first | (simp only [Nat.reduceAdd, Nat.zero_add, Nat.add_zero, List.drop_succ_cons, List.drop_zero, List.drop_nil, List.take_succ_cons, List.take_zero, List.take_nil, List.cons_append, List.nil_append, List.append_nil, List.length_cons, List.length_nil]; try rfl) | rfl)) ?_; rintro _ _ _ ⟨rfl, rfl⟩
      refine jl_s rfl (hStoreL rfl rfl rfl rfl rfl rfl rfl rfl (by first | (simp only [Nat.reduceAdd, Nat.zero_add, Nat.add_zero, List.drop_succ_cons, List.drop_zero, List.drop_nil, List.take_succ_cons, List.take_zero, List.take_nil, List.cons_append, List.nil_append, List.append_nil, List.length_cons, List.length_nil]; try rfl) | rfl)) ?_; rintro _ _ _ ⟨rfl, rfl⟩
      refine jl_nil ?_
      refine jT ?_
      refine jc_ret ?_
      refine jBr ?_
      refine jq_drop (L' := [(b5, .cells [.int .i64 0].toArray 36 (0, 0)), (b4, .cells [.slice ca yw.2.length cc].toArray 26 (0, 0))]) (by simp) ?_
      refine jQr ?_
      refine ⟨rfl, _, rfl, ?_⟩
      rw [seen_some hp hpre hI h23]
      exact ⟨ca, cc, rfl, hcc, hcs⟩
    · refine jl_nil ?_
      refine jT ?_
      refine jc_no rfl ?_
      refine jc_skip ?_
      refine jB ?_
      refine jq_drop (L' := [(b5, .cells [.int .i64 0].toArray 36 (0, 0)), (b4, .cells [.slice none 0 0].toArray 26 (0, 0))]) (by simp) ?_
      refine jQn ?_
      refine ⟨rfl, fun q hq => ?_⟩
      rcases List.mem_append.1 hq with hq | hq
      · exact hI q hq
      · rw [List.mem_singleton.1 hq]; exact h23
  · intro d M2 R2 hM2 hI
    obtain ⟨rfl, hI⟩ := hI
    have hsn := seen_none hp hI
    rw [getD_at (by omega)] at hsn
    refine jB ?_
    refine jT ?_
    refine jc_seq ?_
    refine jc_region ?_
    refine jl_q rfl rfl (qFieldAddr rfl rfl rfl rfl rfl) ?_
    refine jl_q rfl rfl (qLd rfl rfl rfl rfl (CM.cj ⟨_, _, _, hM2 _ _ e2, rfl⟩ _)) ?_
    refine jl_q rfl rfl (qLd rfl rfl rfl rfl (CM.cj ⟨_, _, _, hM2 _ _ e3, rfl⟩ _)) ?_
    refine jl_q rfl rfl (qIdxS rfl rfl rfl rfl (by omega)) ?_
    refine jl_q rfl rfl (qLd rfl rfl rfl rfl ((hcl.mono (hM1.trans hM2)).cj _)) ?_
    refine jl_h rfl rfl (hCall rfl rfl rfl rfl rfl (by kernel_rfl) (bclone_spec _ s.blocks[k] M2 ⟨va, vc, rfl, hvc, hvs.mono (hM1.trans hM2)⟩ (by omega))) ?_; rintro _ M3 _ ⟨hM3, Rc, rfl, hownc⟩
    refine jl_own hownc (by simp) ?_
    intro M4 ca cc hM4 ec hcc hcs; cases ec
    refine jl_s rfl (hStoreL rfl rfl rfl rfl rfl rfl rfl rfl (by first | (simp only [Nat.reduceAdd, Nat.zero_add, Nat.add_zero, List.drop_succ_cons, List.drop_zero, List.drop_nil, List.take_succ_cons, List.take_zero, List.take_nil, List.cons_append, List.nil_append, List.append_nil, List.length_cons, List.length_nil]; try rfl) | rfl)) ?_; rintro _ _ _ ⟨rfl, rfl⟩
    refine jl_s rfl (hStoreL rfl rfl rfl rfl rfl rfl rfl rfl (by first | (simp only [Nat.reduceAdd, Nat.zero_add, Nat.add_zero, List.drop_succ_cons, List.drop_zero, List.drop_nil, List.take_succ_cons, List.take_zero, List.take_nil, List.cons_append, List.nil_append, List.append_nil, List.length_cons, List.length_nil]; try rfl) | rfl)) ?_; rintro _ _ _ ⟨rfl, rfl⟩
    refine jl_nil ?_
    refine jT ?_
    refine jc_ret ?_
    refine jr_mark (L2 := _) Rm.perm ?_
    refine jrsd (rs := [_, _]) ([]) (by simp) rfl (.cons (.one rfl rfl rfl) (.cons (.one rfl rfl rfl) .nil)) ?_
    exact ⟨⟨_, rfl, by rw [hsn]; exact ⟨ca, cc, rfl, hcc, hcs⟩⟩, rfl⟩
  · intro d c pre M2 R2 hM2 hpre hI
    obtain ⟨rfl, v6, rfl, a6, c6, rfl, hc6, hs6⟩ := hI
    refine jc_ret ?_
    refine jBr ?_
    refine jTr ?_
    refine jr_mark (L2 := _) Rm.perm ?_
    refine jrsd (rs := [_, _]) ([]) (by simp) rfl (.cons (.one rfl rfl rfl) (.cons (.one rfl rfl rfl) .nil)) ?_
    exact ⟨⟨_, rfl, a6, c6, rfl, hc6, hs6⟩, rfl⟩


theorem dread_spec (s : Sto) (k : Nat) (bv wv : Value) (M : Mem) (h1 : LS M bv s.blocks) (h2 : WS M wv s.waits) (hdk : dkOk s.blocks s.waits) (hk : k < 256) : SpecL Tryz.prog 15 #[.agg #[bv, wv], .int .i64 k] M [] fun u M' L' => (∃ v, u = .tuple #[v, .int .i64 0] ∧ BS M' v (seen s k)) ∧ L' = [] := by
  obtain ⟨wa, wc, ps, rfl, hwc, hws, hp, hb⟩ := h2
  exact dread_walk s k hk hdk bv wa wc ps M h1 hwc hws hp hb
end Go.Proofs.YtjdmhbenpeedeaaGreat
