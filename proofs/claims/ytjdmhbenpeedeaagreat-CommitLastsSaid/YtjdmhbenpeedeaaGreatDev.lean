/- Walks: disks settled, written to. -/
import Derived.Test.YtjdmhbenpeedeaaGreatMake
namespace Go.Proofs.YtjdmhbenpeedeaaGreat
set_option linter.unusedVariables false
set_option linter.unusedSimpArgs false
open Go.RowKit

theorem Own.empty (b : Nat) (e : TypeId) (sz : Nat) : Own (.slice (some ⟨b, 0, none⟩) 0 0) [(b, .cells ([] : List Value).toArray e (0, 0))] e sz 0 [] := ⟨by simp, .inr ⟨b, 0, #[], rfl, rfl, by omega, by decide, by simp, by simp⟩⟩
abbrev TDk : TypeId := 25
/-- a disk, read-only -/
def DK (M : Mem) (v : Value) (bs : List (List By)) (ws : List Wt) : Prop := ∃ bv wv, v = .agg #[bv, wv] ∧ LS M bv bs ∧ WS M wv ws
theorem DK.mono {M M' : Mem} {v : Value} {bs : List (List By)} {ws : List Wt} (h : DK M v bs ws) (hM : MLe M M') : DK M' v bs ws := by
  obtain ⟨a, b, h0, h1, h2⟩ := h; exact ⟨a, b, h0, h1.mono hM, h2.mono hM⟩
theorem WS.nil {M : Mem} : WS M (.slice none 0 0) [] := ⟨none, 0, [], rfl, Nat.le_refl _, SM.nil, rfl, fun _ h => by cases h⟩
def setB (bs : List (List By)) (ws : List Wt) : List (List By) := ws.foldl (fun b w => b.set w.1.toNat w.2) bs
theorem setB_len (bs : List (List By)) (ws : List Wt) : (setB bs ws).length = bs.length := by
  unfold setB
  induction ws generalizing bs with
  | nil => rfl
  | cons w ws ih => rw [List.foldl_cons, ih]; simp
theorem setB_step {bs : List (List By)} {ws : List Wt} {k : Nat} (h : k < ws.length) : setB bs (ws.take (k + 1)) = (setB bs (ws.take k)).set ws[k].1.toNat ws[k].2 := by
  rw [List.take_succ_eq_append_getElem h]; unfold setB; rw [List.foldl_append]; rfl
theorem setB_128 {bs : List (List By)} {ws : List Wt} (h : ∀ b ∈ bs, b.length = 128) (hw : ∀ w ∈ ws, w.2.length = 128) : ∀ b ∈ setB bs ws, b.length = 128 := by
  unfold setB
  induction ws generalizing bs with
  | nil => exact h
  | cons w ws ih =>
    rw [List.foldl_cons]
    refine ih (fun b hb => ?_) (fun w hw' => hw w (List.mem_cons_of_mem _ hw'))
    rcases List.mem_or_eq_of_mem_set hb with hb | rfl
    · exact h b hb
    · exact hw w (by simp)
theorem setB_ok {bs : List (List By)} {ws0 ws : List Wt} (h : dkOk bs ws0) (hw : ∀ w ∈ ws, w.2.length = 128) : dkOk (setB bs ws) [] := ⟨by rw [setB_len]; exact h.1, by simp, setB_128 h.2.2.1 hw, fun _ h => by cases h⟩

theorem bsclone_nil (c : Nat) (M : Mem) :
    SpecL Tryz.prog 92 #[.slice none 0 c] M [] fun v _ L' => Own v L' 26 1 0 [] := by
  refine spec_body (vs := [_]) 8 _ Tryz.func92 rfl Tryz.ntmps92 rfl rfl ?_; intro W
  refine jc_seq ?_
  refine jc_region ?_
  refine jp rfl ?_
  refine jl_nil ?_
  refine jT ?_
  refine jc_seq ?_
  refine jc_seq ?_
  refine jc_region ?_
  refine jp rfl ?_
  refine jl_q rfl rfl (qEq (qNil rfl rfl rfl rfl) (v' := .bool true) (by simp)) ?_
  refine jl_nil ?_
  refine jT ?_
  refine jc_yes rfl ?_
  refine jc_seq ?_
  refine jc_region ?_
  refine jp rfl ?_
  refine jl_nil ?_
  refine jT ?_
  refine jc_ret ?_
  refine jTr ?_
  refine jr1 rfl rfl ?_
  exact Own.nil _ _

theorem bsclone_some (b : Addr) (n c : Nat) (vals : List Value) (M : Mem) (hs : SM M (some b) vals) (hl : vals.length = n) (h1 : ∀ v ∈ vals, v.oneCell' = true) (hn : n ≤ 1000000) :
    SpecL Tryz.prog 92 #[.slice (some b) n c] M [] fun v _ L' => Own v L' 26 1 n vals := by
  refine spec_body (vs := [_]) 8 _ Tryz.func92 rfl Tryz.ntmps92 rfl rfl ?_; intro W
  refine jc_seq ?_
  refine jc_region ?_
  refine jp rfl ?_
  refine jl_nil ?_
  refine jT ?_
  refine jc_seq ?_
  refine jc_seq ?_
  refine jc_region ?_
  refine jp rfl ?_
  refine jl_q rfl rfl (qEq (qNil rfl rfl rfl rfl) (v' := .bool false) (by simp)) ?_
  refine jl_nil ?_
  refine jT ?_
  refine jc_no rfl ?_
  refine jc_skip ?_
  refine jT ?_
  refine jc_seq ?_
  refine jc_region ?_
  refine jl_h rfl rfl (hBuildSlice (z := [.slice none 0 0]) (cs := []) rfl rfl rfl (by rfl) (by rfl) (by rfl)) ?_; rintro _ _ _ ⟨b5, rfl, rfl, rfl⟩
  refine jp rfl ?_
  refine jl_h rfl rfl (hAppendM (n := 0) (xs := []) (news := vals) rfl rfl rfl rfl (Own.empty b5 _ _) (by omega) hs rfl h1 (by omega) (by decide)) ?_; rintro v7 _ _ ⟨rfl, R7, rfl, hown⟩
  refine jp rfl ?_
  refine jl_nil ?_
  refine jT ?_
  refine jc_ret ?_
  refine jr1 rfl rfl ?_
  simpa using hown


theorem bsclone_spec (a : Option Addr) (n c : Nat) (vals : List Value) (M : Mem) (hs : SM M a vals) (hl : vals.length = n) (h1 : ∀ v ∈ vals, v.oneCell' = true) (hn : n ≤ 1000000) : SpecL Tryz.prog 92 #[.slice a n c] M [] fun v _ L' => Own v L' 26 1 n vals := by
  cases a with
  | none =>
    have h0 : vals = [] := hs.elim id (fun ⟨_, _, h, _⟩ => by cases h)
    subst h0
    have : n = 0 := by simpa using hl.symm
    subst this
    exact bsclone_nil c M
  | some b => exact bsclone_some b n c vals M hs hl h1 hn

set_option maxHeartbeats 2000000 in
theorem settle_walk (bs : List (List By)) (ws0 ws : List Wt) (a1 : Option Addr) (c1 : Nat) (ps1 : List (List By × Value)) (v0 : Value) (a2 : Option Addr) (c2 : Nat) (ps2 : List (Wt × Value)) (M : Mem) (hc1 : bs.length ≤ c1) (hs1 : SM M a1 (ps1.map (·.2))) (hp1 : ps1.map (·.1) = bs) (hb1 : ∀ p ∈ ps1, BS M p.2 p.1) (hc2 : ws.length ≤ c2) (hs2 : SM M a2 (ps2.flatMap wcell)) (hp2 : ps2.map (·.1) = ws) (hb2 : ∀ p ∈ ps2, BS M p.2 p.1.2) (hdk : dkOk bs ws0) (hw : ∀ w ∈ ws, 0 ≤ w.1 ∧ w.1 < 256 ∧ w.2.length = 128) (hwn : ws.length ≤ 4096) :
    SpecL Tryz.prog 60 #[.agg #[.slice a1 bs.length c1, v0], .slice a2 ws.length c2] M [] fun u M' L' => DK M' u (setB bs ws) [] ∧ L' = [] := by
  have hbl : bs.length = 256 := hdk.1
  have hpl : ps1.length = 256 := by rw [← List.length_map (f := fun p : List By × Value => p.1), hp1]; exact hbl
  refine spec_body (vs := [_, _]) 28 _ Tryz.func60 rfl Tryz.ntmps60 rfl rfl ?_; intro W
  refine jc_seq ?_
  refine jc_region ?_
  refine jl_h rfl rfl (hBox (cs := [_, _]) rfl rfl rfl rfl) ?_; rintro _ _ _ ⟨b2, rfl, rfl, rfl⟩
  refine jl_h rfl rfl (hAlloc rfl rfl) ?_; rintro _ _ _ ⟨b4, rfl, rfl, rfl⟩
  refine jl_nil ?_
  refine jT ?_
  refine jc_seq ?_
  refine jc_region ?_
  refine jl_q rfl rfl (qFieldAddr rfl rfl rfl rfl rfl) ?_
  refine jl_q rfl rfl (qLd rfl rfl rfl rfl (CJ.loc rfl)) ?_
  refine jl_h rfl rfl (hCall rfl rfl rfl rfl rfl (by kernel_rfl) (bsclone_spec a1 bs.length c1 (ps1.map (·.2)) M hs1 (by rw [List.length_map]; omega) (fun v hv => by obtain ⟨p, hp, rfl⟩ := List.mem_map.1 hv; obtain ⟨_, _, h, _⟩ := hb1 p hp; rw [h]; rfl) (by omega))) ?_; rintro _ M1 _ ⟨hM1, R1, rfl, hown⟩
  obtain ⟨g, cap, cur, e0, e1, hcap, _⟩ := hown.open (by omega)
  subst e0
  refine jl_q rfl rfl (qBuild (cs := [_, _]) rfl rfl rfl (by rfl)) ?_
  refine jl_h rfl rfl (hAlloc rfl rfl) ?_; rintro _ _ _ ⟨b5, rfl, rfl, rfl⟩
  refine jl_s rfl (hStoreL rfl rfl rfl rfl rfl rfl rfl rfl (by first | (simp only [Nat.reduceAdd, Nat.zero_add, Nat.add_zero, List.drop_succ_cons, List.drop_zero, List.drop_nil, List.take_succ_cons, List.take_zero, List.take_nil, List.cons_append, List.nil_append, List.append_nil, List.length_cons, List.length_nil]; try rfl) | rfl)) ?_; rintro _ _ _ ⟨rfl, rfl⟩
  refine jl_nil ?_
  refine jT ?_
  refine jc_seq ?_
  refine jc_seq ?_
  refine jc_region ?_
  refine jp rfl ?_
  refine jl_q rfl rfl (qLen rfl rfl rfl) ?_
  refine jp rfl ?_
  refine jl_nil ?_
  refine jT ?_
  refine jc_block ?_
  refine jc_loopK (α := Nat × Lc × List (List By × Value)) (fun x => [(4, .pointer (some ⟨b4, 0, none⟩)), (5, .pointer (some ⟨b5, 0, none⟩)), (12, .slice a2 ws.length c2), (13, .int .i64 ws.length), (14, .int .i64 x.1)]) (fun _ => M1) (fun x => (b5, .cells [.slice (some ⟨g, 0, none⟩) bs.length cap, .slice none 0 0].toArray TDk (0, 0)) :: (x.2.1 ++ [(b4, .cells [.slice none 0 0, .slice none 0 0].toArray TDk (0, 0)), (b2, .cells [.slice a1 bs.length c1, v0].toArray TDk (0, 0))])) (fun x => x.1 ≤ ws.length ∧ Own (.slice (some ⟨g, 0, none⟩) bs.length cap) x.2.1 26 1 bs.length (x.2.2.map (·.2)) ∧ x.2.2.map (·.1) = setB bs (ws.take x.1) ∧ ∀ p ∈ x.2.2, BS M1 p.2 p.1) (fun x => ws.length - x.1)
    (0, R1, ps1) (Keep.cons (t := 4) rfl (Keep.cons (t := 5) rfl (Keep.cons (t := 12) rfl (Keep.cons (t := 13) rfl (Keep.cons (t := 14) rfl Keep.nil))))) ⟨Nat.zero_le _, hown, by rw [List.take_zero]; exact hp1, fun p hp => (hb1 p hp).mono hM1⟩ (fun _ h => h) ?_
  rintro ⟨k, R, ps⟩ ⟨hk, hown, hps, hpb⟩
  try dsimp only at hk hown hps hpb ⊢
  refine jc_seq ?_
  refine jc_region ?_
  refine js rfl (fun h15 => ?_) (fun h15 => ?_)
  · refine jl_nil ?_
    refine jT ?_
    refine jc_seq ?_
    refine jc_yes rfl ?_
    refine jc_skip ?_
    refine jT ?_
    refine jc_seq ?_
    refine jc_block ?_
    refine jc_seq ?_
    refine jc_region ?_
    have hk1 : k < ws.length := by omega
    obtain ⟨sb, so, e0, hx⟩ := hs2.open (by intro e; have := congrArg List.length e; rw [flat_len wcell 2 wcell_len, List.length_nil] at this; have h2 := congrArg List.length hp2; rw [List.length_map] at h2; omega)
    subst e0
    obtain ⟨va, vc, hcl, hvc, hvs⟩ := waits_get hx hp2 hb2 hk1
    have hwk := hw ws[k] (List.getElem_mem hk1)
    refine jl_q rfl rfl (qIdxS rfl rfl rfl rfl (by omega)) ?_
    refine jl_q rfl rfl (qLdA (cs := wtc ws[k] va vc) rfl rfl rfl rfl rfl (fun i v hv => ((hcl i v hv).mono hM1).cj _)) ?_
    refine jl_h rfl rfl (hAlloc rfl rfl) ?_; rintro _ _ _ ⟨b7, rfl, rfl, rfl⟩
    refine jl_s rfl (hStoreL rfl rfl rfl rfl rfl rfl rfl rfl (by first | (simp only [Nat.reduceAdd, Nat.zero_add, Nat.add_zero, List.drop_succ_cons, List.drop_zero, List.drop_nil, List.take_succ_cons, List.take_zero, List.take_nil, List.cons_append, List.nil_append, List.append_nil, List.length_cons, List.length_nil]; try rfl) | rfl)) ?_; rintro _ _ _ ⟨rfl, rfl⟩
    refine jl_nil ?_
    refine jT ?_
    refine jc_region ?_
    refine jl_q rfl rfl (qFieldAddr rfl rfl rfl rfl rfl) ?_
    refine jl_q rfl rfl (qLd rfl rfl rfl rfl (CJ.loc rfl)) ?_
    refine jl_q rfl rfl (qFieldAddr rfl rfl rfl rfl rfl) ?_
    refine jl_q rfl rfl (qLd rfl rfl rfl rfl (CJ.loc rfl)) ?_
    refine jl_q rfl rfl (qFieldAddr rfl rfl rfl rfl rfl) ?_
    refine jl_q rfl rfl (qLd rfl rfl rfl rfl (CJ.loc rfl)) ?_
    refine jl_q rfl rfl (qIdxS rfl rfl rfl rfl (by omega)) ?_
    refine jl_s rfl (hStoreOwn rfl rfl rfl rfl rfl rfl hown rfl (by omega)) ?_; rintro _ _ _ ⟨rfl, R2, rfl, hown2⟩
    refine jl_nil ?_
    refine jB ?_
    refine jT ?_
    refine jc_region ?_
    refine ja rfl (by omega) ?_
    refine jp rfl ?_
    refine jl_nil ?_
    refine j_again (k + 1, R2, ps.set ws[k].1.toNat (ws[k].2, .slice va ws[k].2.length vc)) (Keep.cons (t := 4) rfl (Keep.cons (t := 5) rfl (Keep.cons (t := 12) rfl (Keep.cons (t := 13) rfl (Keep.cons (t := 14) rfl Keep.nil))))) ⟨by show k + 1 ≤ ws.length; omega, ?_, ?_, ?_⟩ (by show ws.length - (k + 1) < ws.length - k; omega) (fun w h => (h.perm (List.perm_append_comm_assoc R2 [_, _] [_, _])).fewer (.cons _ (.refl _)))
    · show Own _ _ _ _ _ ((ps.set _ _).map (·.2)); rw [List.map_set]; simpa using hown2
    · show (ps.set _ _).map (·.1) = setB bs (ws.take (k + 1)); rw [List.map_set, hps, setB_step hk1]
    · intro p hp
      rcases List.mem_or_eq_of_mem_set hp with hp | rfl
      · exact hpb p hp
      · exact BS.mono ⟨va, vc, rfl, hvc, hvs⟩ hM1
  · refine jl_nil ?_
    refine jT ?_
    refine jc_seq ?_
    refine jc_no rfl ?_
    refine jc_exit ?_
    refine jTx ?_
    refine jTx ?_
    refine jBx ?_
    refine jT ?_
    refine jc_seq ?_
    refine jc_region ?_
    refine jl_q rfl rfl (qLdL rfl rfl rfl rfl rfl (by first | (simp only [Nat.reduceAdd, Nat.zero_add, Nat.add_zero, List.drop_succ_cons, List.drop_zero, List.drop_nil, List.take_succ_cons, List.take_zero, List.take_nil, List.cons_append, List.nil_append, List.append_nil, List.length_cons, List.length_nil]; try rfl) | rfl)) ?_
    obtain rfl : k = ws.length := by omega
    rw [List.take_length] at hps
    simp only [List.cons_append, List.nil_append]
    refine jl_own hown (by simp) ?_
    intro Mf fa fc hMf ef hfc hfs; cases ef
    have hsl : (setB bs ws).length = 256 := by rw [setB_len]; exact hbl
    have hLS : LS Mf (.slice (some ⟨g, 0, none⟩) bs.length cap) (setB bs ws) := ⟨_, _, ps, by rw [setB_len], by rw [setB_len]; exact hcap, hfs, hps, fun p hp => (hpb p hp).mono hMf⟩
    refine jl_h rfl rfl (hCall rfl rfl rfl rfl rfl (by kernel_rfl) (dtwin_spec (setB bs ws) [] _ _ Mf hLS WS.nil (setB_ok hdk (fun w h => (hw w h).2.2)))) ?_; rintro _ M2 _ ⟨hM2, _, rfl, ⟨⟨bv2, wv2, rfl, hB, hW⟩, rfl⟩⟩
    obtain ⟨ba, bc, bps, rfl, _⟩ := id hB
    obtain ⟨wa, wc, wps, rfl, _⟩ := id hW
    refine jl_s rfl (hStoreL rfl rfl rfl rfl rfl rfl rfl rfl (by first | (simp only [Nat.reduceAdd, Nat.zero_add, Nat.add_zero, List.drop_succ_cons, List.drop_zero, List.drop_nil, List.take_succ_cons, List.take_zero, List.take_nil, List.cons_append, List.nil_append, List.append_nil, List.length_cons, List.length_nil]; try rfl) | rfl)) ?_; rintro _ _ _ ⟨rfl, rfl⟩
    refine jl_nil ?_
    refine jT ?_
    refine jc_ret ?_
    refine jrsd (rs := [_]) ([]) (by exact List.nil_sublist _) rfl (.cons (.agg rfl rfl rfl) .nil) ?_
    exact ⟨⟨_, _, rfl, hB, hW⟩, rfl⟩


theorem settle_spec (bs : List (List By)) (ws0 ws : List Wt) (u v0 v : Value) (M : Mem) (h1 : LS M u bs) (h2 : WS M v ws) (hdk : dkOk bs ws0) (hw : ∀ w ∈ ws, 0 ≤ w.1 ∧ w.1 < 256 ∧ w.2.length = 128) (hwn : ws.length ≤ 4096) : SpecL Tryz.prog 60 #[.agg #[u, v0], v] M [] fun u M' L' => DK M' u (setB bs ws) [] ∧ L' = [] := by
  obtain ⟨a1, c1, ps1, rfl, hc1, hs1, hp1, hb1⟩ := h1
  obtain ⟨a2, c2, ps2, rfl, hc2, hs2, hp2, hb2⟩ := h2
  exact settle_walk bs ws0 ws a1 c1 ps1 v0 a2 c2 ps2 M hc1 hs1 hp1 hb1 hc2 hs2 hp2 hb2 hdk hw hwn
theorem dkOk.w {bs : List (List By)} {ws : List Wt} (h : dkOk bs ws) : ∀ w ∈ ws, 0 ≤ w.1 ∧ w.1 < 256 ∧ w.2.length = 128 := h.2.2.2

theorem barrier_spec (bs : List (List By)) (ws : List Wt) (bv wv : Value) (M : Mem) (h1 : LS M bv bs) (h2 : WS M wv ws) (hdk : dkOk bs ws) :
    SpecL Tryz.prog 26 #[.agg #[bv, wv]] M [] fun u M' L' => (∃ d, u = .tuple #[d, .int .i64 0] ∧ DK M' d (setB bs ws) []) ∧ L' = [] := by
  have hck : dkChk bs ws = 0 := if_pos hdk
  refine spec_body (vs := [_]) 15 _ Tryz.func26 rfl Tryz.ntmps26 rfl rfl ?_; intro W
  refine jc_seq ?_
  refine jc_region ?_
  refine jl_h rfl rfl (hBox (cs := [_, _]) rfl rfl rfl rfl) ?_; rintro _ _ _ ⟨b1, rfl, rfl, rfl⟩
  refine jl_h rfl rfl (hAlloc rfl rfl) ?_; rintro _ _ _ ⟨b2, rfl, rfl, rfl⟩
  refine jp rfl ?_
  refine jl_nil ?_
  refine jT ?_
  refine jc_seq ?_
  refine jc_seq ?_
  refine jc_region ?_
  refine jl_q rfl rfl (qLdL rfl rfl rfl rfl rfl (by first | (simp only [Nat.reduceAdd, Nat.zero_add, Nat.add_zero, List.drop_succ_cons, List.drop_zero, List.drop_nil, List.take_succ_cons, List.take_zero, List.take_nil, List.cons_append, List.nil_append, List.append_nil, List.length_cons, List.length_nil]; try rfl) | rfl)) ?_
  refine jl_q rfl rfl (qCall rfl rfl rfl rfl rfl (by kernel_rfl) (dcheck_spec bs ws bv wv M h1 h2)) ?_
  refine jp rfl ?_
  refine jl_nil ?_
  refine jT ?_
  refine jc_seq ?_
  refine jc_region ?_
  refine jp rfl ?_
  refine jf rfl (decide_eq_false (by first | omega | (rw [hck]; decide))) ?_
  refine jl_nil ?_
  refine jT ?_
  refine jc_no rfl ?_
  refine jc_skip ?_
  refine jT ?_
  refine jc_seq ?_
  refine jc_region ?_
  refine jl_q rfl rfl (qLdL rfl rfl rfl rfl rfl (by first | (simp only [Nat.reduceAdd, Nat.zero_add, Nat.add_zero, List.drop_succ_cons, List.drop_zero, List.drop_nil, List.take_succ_cons, List.take_zero, List.take_nil, List.cons_append, List.nil_append, List.append_nil, List.length_cons, List.length_nil]; try rfl) | rfl)) ?_
  refine jl_q rfl rfl (qFieldAddr rfl rfl rfl rfl rfl) ?_
  refine jl_q rfl rfl (qLd rfl rfl rfl rfl (CJ.loc rfl)) ?_
  refine jl_h rfl rfl (hCall rfl rfl rfl rfl rfl (by kernel_rfl) (settle_spec bs ws ws bv wv _ M (h1) h2 hdk hdk.w (by exact hdk.2.1))) ?_; rintro _ M1 _ ⟨hM1, _, rfl, ⟨hdk2, rfl⟩⟩
  obtain ⟨bv2, wv2, rfl, hB, hW⟩ := hdk2
  obtain ⟨ba, bc, bps, rfl, _⟩ := id hB
  obtain ⟨wa, wc, wps, rfl, _⟩ := id hW
  refine jl_s rfl (hStoreL rfl rfl rfl rfl rfl rfl rfl rfl (by first | (simp only [Nat.reduceAdd, Nat.zero_add, Nat.add_zero, List.drop_succ_cons, List.drop_zero, List.drop_nil, List.take_succ_cons, List.take_zero, List.take_nil, List.cons_append, List.nil_append, List.append_nil, List.length_cons, List.length_nil]; try rfl) | rfl)) ?_; rintro _ _ _ ⟨rfl, rfl⟩
  refine jp rfl ?_
  refine jl_nil ?_
  refine jT ?_
  refine jc_ret ?_
  refine jrsd (rs := [_, _]) ([]) (by exact List.nil_sublist _) rfl (.cons (.agg rfl rfl rfl) (.cons (.tmp rfl) .nil)) ?_
  exact ⟨⟨_, rfl, _, _, rfl, hB, hW⟩, rfl⟩

theorem dasked_spec (bs : List (List By)) (ws : List Wt) (bv wv : Value) (M : Mem) (h1 : LS M bv bs) (h2 : WS M wv ws) (hdk : dkOk bs ws) (k : Int) (hk : 0 ≤ k ∧ k < 256) :
    SpecL Tryz.prog 37 #[.agg #[bv, wv], .int .i64 k] M [] fun u _ _ => u = .int .i64 0 := by
  have hck : dkChk bs ws = 0 := if_pos hdk
  refine spec_body (vs := [_, _]) 17 _ Tryz.func37 rfl Tryz.ntmps37 rfl rfl ?_; intro W
  refine jc_seq ?_
  refine jc_region ?_
  refine jl_h rfl rfl (hBox (cs := [_, _]) rfl rfl rfl rfl) ?_; rintro _ _ _ ⟨b2, rfl, rfl, rfl⟩
  refine jp rfl ?_
  refine jl_nil ?_
  refine jT ?_
  refine jc_seq ?_
  refine jc_seq ?_
  refine jc_region ?_
  refine jl_q rfl rfl (qLdL rfl rfl rfl rfl rfl (by first | (simp only [Nat.reduceAdd, Nat.zero_add, Nat.add_zero, List.drop_succ_cons, List.drop_zero, List.drop_nil, List.take_succ_cons, List.take_zero, List.take_nil, List.cons_append, List.nil_append, List.append_nil, List.length_cons, List.length_nil]; try rfl) | rfl)) ?_
  refine jl_q rfl rfl (qCall rfl rfl rfl rfl rfl (by kernel_rfl) (dcheck_spec bs ws bv wv M h1 h2)) ?_
  refine jp rfl ?_
  refine jl_nil ?_
  refine jT ?_
  refine jc_seq ?_
  refine jc_region ?_
  refine jp rfl ?_
  refine jf rfl (decide_eq_false (by first | omega | (rw [hck]; decide))) ?_
  refine jl_nil ?_
  refine jT ?_
  refine jc_no rfl ?_
  refine jc_skip ?_
  refine jT ?_
  refine jc_seq ?_
  refine jc_seq ?_
  refine jc_region ?_
  refine jp rfl ?_
  refine jf rfl (decide_eq_false (by first | omega | (rw [hck]; decide))) ?_
  iterate 2 refine jp rfl ?_
  refine jf rfl (decide_eq_false (by first | omega | (rw [hck]; decide))) ?_
  refine jp rfl ?_
  refine jl_nil ?_
  refine jT ?_
  refine jc_no rfl ?_
  refine jc_skip ?_
  refine jT ?_
  refine jc_seq ?_
  refine jc_region ?_
  refine jp rfl ?_
  refine jl_nil ?_
  refine jT ?_
  refine jc_ret ?_
  refine jr1 rfl rfl ?_
  rfl

set_option maxHeartbeats 1000000 in
theorem dwrite_spec (bs : List (List By)) (ws : List Wt) (bv wv : Value) (M : Mem) (h1 : LS M bv bs) (h2 : WS M wv ws) (hdk : dkOk bs ws) (k : Int) (hk : 0 ≤ k ∧ k < 256) (data : List By) (dv : Value) (hd : BS M dv data) (hdl : data.length = 128) (hwl : ws.length < 4096) :
    SpecL Tryz.prog 91 #[.agg #[bv, wv], .int .i64 k, dv] M [] fun u M' L' => (∃ d, u = .tuple #[d, .int .i64 0] ∧ DK M' d bs (ws ++ [(k, data)])) ∧ L' = [] := by
  have h1c := h1
  have h2c := h2
  obtain ⟨a2, c2, ps2, rfl, hc2, hs2, hp2, hb2⟩ := id h2
  obtain ⟨da, dc, rfl, hdc, hds⟩ := id hd
  refine spec_body (vs := [_, _, _]) 38 _ Tryz.func91 rfl Tryz.ntmps91 rfl rfl ?_; intro W
  refine jc_seq ?_
  refine jc_region ?_
  refine jl_h rfl rfl (hBox (cs := [_, _]) rfl rfl rfl rfl) ?_; rintro _ _ _ ⟨b3, rfl, rfl, rfl⟩
  refine jl_h rfl rfl (hAlloc rfl rfl) ?_; rintro _ _ _ ⟨b6, rfl, rfl, rfl⟩
  refine jp rfl ?_
  refine jl_nil ?_
  refine jT ?_
  refine jc_seq ?_
  refine jc_seq ?_
  refine jc_region ?_
  refine jl_q rfl rfl (qLdL rfl rfl rfl rfl rfl (by first | (simp only [Nat.reduceAdd, Nat.zero_add, Nat.add_zero, List.drop_succ_cons, List.drop_zero, List.drop_nil, List.take_succ_cons, List.take_zero, List.take_nil, List.cons_append, List.nil_append, List.append_nil, List.length_cons, List.length_nil]; try rfl) | rfl)) ?_
  refine jp rfl ?_
  refine jl_q rfl rfl (qCall rfl rfl rfl rfl rfl (by kernel_rfl) (dasked_spec bs ws bv _ M h1 h2 hdk k hk)) ?_
  refine jp rfl ?_
  refine jl_nil ?_
  refine jT ?_
  refine jc_seq ?_
  refine jc_region ?_
  refine jp rfl ?_
  refine jf rfl (decide_eq_false (by omega)) ?_
  refine jl_nil ?_
  refine jT ?_
  refine jc_no rfl ?_
  refine jc_skip ?_
  refine jT ?_
  refine jc_seq ?_
  refine jc_seq ?_
  refine jc_region ?_
  refine jp rfl ?_
  refine jl_q rfl rfl (qLen rfl rfl rfl) ?_
  refine jf rfl (decide_eq_false (by omega)) ?_
  refine jl_nil ?_
  refine jT ?_
  refine jc_no rfl ?_
  refine jc_skip ?_
  refine jT ?_
  refine jc_seq ?_
  refine jc_seq ?_
  refine jc_region ?_
  refine jl_q rfl rfl (qFieldAddr rfl rfl rfl rfl rfl) ?_
  refine jl_q rfl rfl (qLd rfl rfl rfl rfl (CJ.loc rfl)) ?_
  refine jl_q rfl rfl (qLen rfl rfl rfl) ?_
  refine jf rfl (decide_eq_false (by omega)) ?_
  refine jl_nil ?_
  refine jT ?_
  refine jc_no rfl ?_
  refine jc_skip ?_
  refine jT ?_
  refine jc_seq ?_
  refine jc_region ?_
  refine jl_q rfl rfl (qLdL rfl rfl rfl rfl rfl (by first | (simp only [Nat.reduceAdd, Nat.zero_add, Nat.add_zero, List.drop_succ_cons, List.drop_zero, List.drop_nil, List.take_succ_cons, List.take_zero, List.take_nil, List.cons_append, List.nil_append, List.append_nil, List.length_cons, List.length_nil]; try rfl) | rfl)) ?_
  obtain ⟨a1, c1, ps1, rfl, hc1, hs1, hp1, hb1⟩ := id h1
  refine jl_h rfl rfl (hCall rfl rfl rfl rfl rfl (by kernel_rfl) (dtwin_own bs ws a1 c1 ps1 a2 c2 ps2 M hc1 hs1 hp1 hb1 hc2 hs2 hp2 hb2 hdk)) ?_; rintro _ M1 _ ⟨hM1, Rw, rfl, ⟨bv2, wv2, rfl, hB, qs, hq1, hq2, hownw⟩⟩
  obtain ⟨wa2, wc2, rfl⟩ := hownw.form
  obtain ⟨ba, bc, bps, rfl, _⟩ := id hB
  refine jl_h rfl rfl (hAlloc rfl rfl) ?_; rintro _ _ _ ⟨b9, rfl, rfl, rfl⟩
  refine jl_s rfl (hStoreL rfl rfl rfl rfl rfl rfl rfl rfl (by first | (simp only [Nat.reduceAdd, Nat.zero_add, Nat.add_zero, List.drop_succ_cons, List.drop_zero, List.drop_nil, List.take_succ_cons, List.take_zero, List.take_nil, List.cons_append, List.nil_append, List.append_nil, List.length_cons, List.length_nil]; try rfl) | rfl)) ?_; rintro _ _ _ ⟨rfl, rfl⟩
  refine jl_nil ?_
  refine jT ?_
  refine jc_seq ?_
  refine jc_drawP (p := { A := fun i => !([9].contains i), U := fun i => !([9].contains i) }) [(0, true), (1, true), (2, true), (3, true), (4, false), (5, true), (6, false), (7, false), (8, true), (9, false)] M1 ([(b9, .cells [.slice ba bs.length bc, .slice wa2 ws.length wc2].toArray TDk (0, 0))]) ([]) (by kernel_rfl) (by kernel_rfl) (by kernel_rfl) (by kernel_rfl) rfl (by simp) (MLe.refl _) (by simp) ?_
  refine jd_q rfl rfl rfl (qFieldAddr rfl rfl rfl rfl rfl) ?_
  refine jd_q rfl rfl rfl (qLd rfl rfl rfl rfl (CJ.loc rfl)) ?_
  iterate 2 refine dp rfl rfl ?_
  refine jd_h rfl rfl rfl (hCall rfl rfl rfl rfl rfl (by kernel_rfl) (bclone_spec _ data M1 (hd.mono hM1) (by omega))) ?_; rintro _ M2 _ ⟨hM2, Rc, rfl, hownc⟩
  refine ⟨_, _, MLe.refl _, hM2, fun _ h => h, by simp, ?_⟩
  obtain ⟨ca, cc, rfl⟩ := hownc.form
  refine jd_q rfl rfl rfl (qBuild (cs := [_, _]) rfl rfl rfl (by rfl)) ?_
  refine jd_h rfl rfl rfl (hBuildSlice (cs := [_, _]) rfl rfl rfl (by rfl) (by rfl) (by rfl)) ?_; rintro _ _ _ ⟨b34, rfl, rfl, rfl⟩
  refine ⟨_, _, MLe.refl _, hM2, fun _ h => h, by simp, ?_⟩
  refine jd_h rfl rfl rfl (hAppend (R := Rw) (m := 1) (news := [.int .i64 k, .slice ca data.length cc]) rfl rfl rfl rfl hownw rfl (fun i v hv => CJ.loc (by simpa using hv)) rfl (by rfl) (by simp [Value.oneCell']) (by omega) (by omega)) ?_; rintro _ _ _ ⟨rfl, Rw2, rfl, hown2, _⟩
  refine ⟨_, _, MLe.refl _, hM2, fun _ h => h, by simp, ?_⟩
  obtain ⟨wa3, wc3, rfl⟩ := hown2.form
  refine jd_q rfl rfl rfl (qFieldAddr rfl rfl rfl rfl rfl) ?_
  refine jd_e rfl rfl (hStoreL rfl rfl rfl rfl rfl rfl rfl rfl (by first | (simp only [Nat.reduceAdd, Nat.zero_add, Nat.add_zero, List.drop_succ_cons, List.drop_zero, List.drop_nil, List.take_succ_cons, List.take_zero, List.take_nil, List.cons_append, List.nil_append, List.append_nil, List.length_cons, List.length_nil]; try rfl) | rfl)) ?_; rintro _ _ _ ⟨rfl, rfl⟩
  refine ⟨hM2, by simp, ?_⟩
  refine je_nil ?_
  refine jPn ?_
  refine jT ?_
  refine jc_seq ?_
  refine jc_region ?_
  refine jl_q rfl rfl (qLdL rfl rfl rfl rfl rfl (by first | (simp only [Nat.reduceAdd, Nat.zero_add, Nat.add_zero, List.drop_succ_cons, List.drop_zero, List.drop_nil, List.take_succ_cons, List.take_zero, List.take_nil, List.cons_append, List.nil_append, List.append_nil, List.length_cons, List.length_nil]; try rfl) | rfl)) ?_
  refine jl_s rfl (hStoreL rfl rfl rfl rfl rfl rfl rfl rfl (by first | (simp only [Nat.reduceAdd, Nat.zero_add, Nat.add_zero, List.drop_succ_cons, List.drop_zero, List.drop_nil, List.take_succ_cons, List.take_zero, List.take_nil, List.cons_append, List.nil_append, List.append_nil, List.length_cons, List.length_nil]; try rfl) | rfl)) ?_; rintro _ _ _ ⟨rfl, rfl⟩
  refine jp rfl ?_
  refine jl_nil ?_
  refine jT ?_
  refine jc_ret ?_
  refine jq_own hownc (by simp) ?_
  intro Ma ca2 cc2 hMa eca hcc hcs; cases eca
  refine jq_own hown2 (by simp) ?_
  intro Mb wa4 wc4 hMb ewa hwc hws; cases ewa
  refine jrsd (rs := [_, _]) ([]) (by exact List.nil_sublist _) rfl (.cons (.agg rfl rfl rfl) (.cons (.tmp rfl) .nil)) ?_
  refine ⟨⟨_, rfl, _, _, rfl, hB.mono (hM2.trans (hMa.trans hMb)), ?_⟩, rfl⟩
  refine ⟨_, _, qs ++ [((k, data), .slice ca data.length cc)], by rw [List.length_append]; rfl, by rw [List.length_append]; exact hwc, ?_, by rw [List.map_append, hq1]; rfl, ?_⟩
  · rw [List.flatMap_append]; exact hws
  · intro p hp; rcases List.mem_append.1 hp with hp | hp
    · exact (hq2 p hp).mono (hM2.trans (hMa.trans hMb))
    · rw [List.mem_singleton.1 hp]; exact ⟨_, _, rfl, hcc, hcs.mono hMb⟩


/-- the writes that are kept -/
def kept : List Bool → List Wt → List Wt
  | b :: bs, w :: ws => if b then w :: kept bs ws else kept bs ws
  | _, _ => []
theorem kept_mem : ∀ {bs : List Bool} {ws : List Wt} {w : Wt}, w ∈ kept bs ws → w ∈ ws
  | [], _, _, h => by simp [kept] at h
  | _ :: _, [], _, h => by simp [kept] at h
  | b :: bs, x :: ws, w, h => by
    unfold kept at h
    split at h
    · rcases List.mem_cons.1 h with rfl | h
      · simp
      · exact List.mem_cons_of_mem _ (kept_mem h)
    · exact List.mem_cons_of_mem _ (kept_mem h)
theorem kept_len : ∀ {bs : List Bool} {ws : List Wt}, (kept bs ws).length ≤ ws.length
  | [], _ => by simp [kept]
  | _ :: _, [] => by simp [kept]
  | b :: bs, x :: ws => by
    have := kept_len (bs := bs) (ws := ws)
    unfold kept
    split <;> simp only [List.length_cons] <;> omega
theorem kept_step : ∀ {bs : List Bool} {ws : List Wt} {k : Nat} (h : k < bs.length) (h2 : k < ws.length), kept (bs.take (k + 1)) ws = kept (bs.take k) ws ++ (if bs[k] then [ws[k]] else [])
  | [], _, _, h, _ => by cases h
  | _ :: _, [], _, _, h => by cases h
  | b :: bs, x :: ws, 0, _, _ => by cases b <;> simp [kept]
  | b :: bs, x :: ws, k + 1, h, h2 => by
    have := kept_step (bs := bs) (ws := ws) (k := k) (by simpa using h) (by simpa using h2)
    cases b <;> simp [kept, this]
def bocells (xs : List Bool) : List Value := xs.map Value.bool

set_option maxHeartbeats 1000000 in
theorem crash_spec (bs : List (List By)) (ws : List Wt) (bv wv : Value) (M : Mem) (h1 : LS M bv bs) (h2 : WS M wv ws) (hdk : dkOk bs ws) (keep : List Bool) (ka : Option Addr) (kc : Nat) (hks : SM M ka (bocells keep)) (hkl : keep.length ≤ 1000000) :
    SpecL Tryz.prog 31 #[.agg #[bv, wv], .slice ka keep.length kc] M [] fun u M' L' => (if keep.length = ws.length then ∃ d, u = .tuple #[d, .int .i64 0] ∧ DK M' d (setB bs (kept keep ws)) [] else u = .tuple #[.agg #[.slice none 0 0, .slice none 0 0], .int .i64 2]) ∧ L' = [] := by
  have hck : dkChk bs ws = 0 := if_pos hdk
  have h1c := h1
  have h2c := h2
  obtain ⟨a2, c2, ps2, rfl, hc2, hs2, hp2, hb2⟩ := id h2
  have hw4 : ws.length ≤ 4096 := hdk.2.1
  refine spec_body (vs := [_, _]) 43 _ Tryz.func31 rfl Tryz.ntmps31 rfl rfl ?_; intro W
  refine jc_seq ?_
  refine jc_region ?_
  refine jl_h rfl rfl (hBox (cs := [_, _]) rfl rfl rfl rfl) ?_; rintro _ _ _ ⟨b2, rfl, rfl, rfl⟩
  refine jl_h rfl rfl (hAlloc rfl rfl) ?_; rintro _ _ _ ⟨b4, rfl, rfl, rfl⟩
  refine jp rfl ?_
  refine jl_nil ?_
  refine jT ?_
  refine jc_seq ?_
  refine jc_seq ?_
  refine jc_region ?_
  refine jl_q rfl rfl (qLdL rfl rfl rfl rfl rfl (by first | (simp only [Nat.reduceAdd, Nat.zero_add, Nat.add_zero, List.drop_succ_cons, List.drop_zero, List.drop_nil, List.take_succ_cons, List.take_zero, List.take_nil, List.cons_append, List.nil_append, List.append_nil, List.length_cons, List.length_nil]; try rfl) | rfl)) ?_
  refine jl_q rfl rfl (qCall rfl rfl rfl rfl rfl (by kernel_rfl) (dcheck_spec bs ws bv _ M h1c h2c)) ?_
  refine jp rfl ?_
  refine jl_nil ?_
  refine jT ?_
  refine jc_seq ?_
  refine jc_region ?_
  refine jp rfl ?_
  refine jf rfl (decide_eq_false (by first | omega | (rw [hck]; decide))) ?_
  refine jl_nil ?_
  refine jT ?_
  refine jc_no rfl ?_
  refine jc_skip ?_
  refine jT ?_
  refine jc_seq ?_
  refine jc_seq ?_
  refine jc_region ?_
  refine jp rfl ?_
  refine jl_q rfl rfl (qLen rfl rfl rfl) ?_
  refine jl_q rfl rfl (qFieldAddr rfl rfl rfl rfl rfl) ?_
  refine jl_q rfl rfl (qLd rfl rfl rfl rfl (CJ.loc rfl)) ?_
  refine jl_q rfl rfl (qLen rfl rfl rfl) ?_
  refine js rfl (fun h21 => ?_) (fun h21 => ?_)
  · refine jl_nil ?_
    refine jT ?_
    refine jc_yes rfl ?_
    refine jc_seq ?_
    refine jc_region ?_
    refine jl_q rfl rfl (qBuild (cs := [_, _]) rfl rfl rfl (by rfl)) ?_
    refine jl_s rfl (hStoreL rfl rfl rfl rfl rfl rfl rfl rfl (by first | (simp only [Nat.reduceAdd, Nat.zero_add, Nat.add_zero, List.drop_succ_cons, List.drop_zero, List.drop_nil, List.take_succ_cons, List.take_zero, List.take_nil, List.cons_append, List.nil_append, List.append_nil, List.length_cons, List.length_nil]; try rfl) | rfl)) ?_; rintro _ _ _ ⟨rfl, rfl⟩
    refine jp rfl ?_
    refine jl_nil ?_
    refine jT ?_
    refine jc_ret ?_
    refine jTr ?_
    refine jrsd (rs := [_, _]) ([]) (by exact List.nil_sublist _) rfl (.cons (.agg rfl rfl rfl) (.cons (.tmp rfl) .nil)) ?_
    exact ⟨by rw [if_neg (by omega)]; rfl, rfl⟩
  · refine jl_nil ?_
    refine jT ?_
    refine jc_no rfl ?_
    refine jc_skip ?_
    refine jT ?_
    refine jc_seq ?_
    refine jc_region ?_
    refine jp rfl ?_
    refine jl_nil ?_
    refine jT ?_
    refine jc_seq ?_
    refine jc_seq ?_
    refine jc_region ?_
    refine jp rfl ?_
    refine jl_q rfl rfl (qLen rfl rfl rfl) ?_
    refine jp rfl ?_
    refine jl_nil ?_
    refine jT ?_
    refine jc_block ?_
    refine jc_loopK (α := Nat × Lc × Value × List (Wt × Value)) (fun x => [(2, .pointer (some ⟨b2, 0, none⟩)), (4, .pointer (some ⟨b4, 0, none⟩)), (7, x.2.2.1), (23, .slice ka keep.length kc), (24, .int .i64 keep.length), (25, .int .i64 x.1)]) (fun _ => M) (fun x => x.2.1 ++ [(b4, .cells [.slice none 0 0, .slice none 0 0].toArray TDk (0, 0)), (b2, .cells [bv, .slice a2 ws.length c2].toArray TDk (0, 0))]) (fun x => x.1 ≤ keep.length ∧ Own x.2.2.1 x.2.1 WT 2 (kept (keep.take x.1) ws).length (x.2.2.2.flatMap wcell) ∧ x.2.2.2.map (·.1) = kept (keep.take x.1) ws ∧ ∀ p ∈ x.2.2.2, BS M p.2 p.1.2) (fun x => keep.length - x.1)
      (0, [], .slice none 0 0, []) (Keep.cons (t := 2) rfl (Keep.cons (t := 4) rfl (Keep.cons (t := 7) rfl (Keep.cons (t := 23) rfl (Keep.cons (t := 24) rfl (Keep.cons (t := 25) rfl Keep.nil)))))) ⟨Nat.zero_le _, Own.nil _ _, rfl, fun _ h => by cases h⟩ (fun _ h => h) ?_
    rintro ⟨k, R, v, qs⟩ ⟨hk, hown, hq1, hq2⟩
    try dsimp only at hk hown hq1 hq2 ⊢
    refine jc_seq ?_
    refine jc_region ?_
    refine js rfl (fun h26 => ?_) (fun h26 => ?_)
    · refine jl_nil ?_
      refine jT ?_
      refine jc_seq ?_
      refine jc_yes rfl ?_
      refine jc_skip ?_
      refine jT ?_
      refine jc_seq ?_
      refine jc_block ?_
      refine jc_seq ?_
      refine jc_region ?_
      refine jp rfl ?_
      have hk1 : k < ws.length := by omega
      have hkk : k < keep.length := by omega
      obtain ⟨kb, ko, e0, hkx⟩ := hks.open (by intro e; have := congrArg List.length e; simp only [bocells, List.length_map, List.length_nil] at this; omega)
      subst e0
      refine jl_q rfl rfl (qIdxS rfl rfl rfl rfl (by omega)) ?_
      refine jl_qb rfl rfl (qLd (v := .bool keep[k]) rfl rfl rfl rfl ((hkx _ _ (by rw [Nat.mul_one]; simp [bocells, hkk])).cj _)) (fun h29 => ?_) (fun h29 => ?_)
      · iterate 2 refine jp rfl ?_
        refine jl_nil ?_
        refine jT ?_
        refine jc_seq ?_
        refine jc_region ?_
        refine jp rfl ?_
        refine jl_nil ?_
        refine jT ?_
        refine jc_yes rfl ?_
        refine jc_region ?_
        refine jp rfl ?_
        refine jl_q rfl rfl (qFieldAddr rfl rfl rfl rfl rfl) ?_
        refine jl_q rfl rfl (qLd rfl rfl rfl rfl (CJ.loc rfl)) ?_
        refine jp rfl ?_
        obtain ⟨sb, so, e0, hx⟩ := hs2.open (by intro e; have := congrArg List.length e; rw [flat_len wcell 2 wcell_len, List.length_nil] at this; have h2 := congrArg List.length hp2; rw [List.length_map] at h2; omega)
        subst e0
        obtain ⟨va, vc, hcl, hvc, hvs⟩ := waits_get hx hp2 hb2 hk1
        refine jl_q rfl rfl (qIdxS rfl rfl rfl rfl (by omega)) ?_
        refine jl_q rfl rfl (qLdA (cs := wtc ws[k] va vc) rfl rfl rfl rfl rfl (fun i v hv => (hcl i v hv).cj _)) ?_
        refine jl_h rfl rfl (hBuildSlice (cs := [_, _]) rfl rfl rfl (by rfl) (by rfl) (by rfl)) ?_; rintro _ _ _ ⟨b37, rfl, rfl, rfl⟩
        refine jl_h rfl rfl (hAppend (R := R) (m := 1) rfl rfl rfl rfl hown rfl (fun i v hv => CJ.loc (by simpa using hv)) rfl (by rfl) (by simp [Value.oneCell']) (by have := kept_len (bs := keep.take k) (ws := ws); omega) (by omega)) ?_; rintro rv2 _ _ ⟨rfl, R2, rfl, hown2, _⟩
        obtain ⟨ra2, rc2, rfl⟩ := hown2.form
        refine jp rfl ?_
        refine jl_nil ?_
        refine jB ?_
        refine jT ?_
        refine jc_region ?_
        refine ja rfl (by first | omega | (rw [hck]; decide)) ?_
        refine jp rfl ?_
        refine jl_nil ?_
        have hst := kept_step (ws := ws) hkk hk1
        rw [h29, if_pos rfl] at hst
        refine j_again (k + 1, R2, .slice ra2 _ rc2, qs ++ [(ws[k], .slice va ws[k].2.length vc)]) (Keep.cons (t := 2) rfl (Keep.cons (t := 4) rfl (Keep.cons (t := 7) rfl (Keep.cons (t := 23) rfl (Keep.cons (t := 24) rfl (Keep.cons (t := 25) rfl Keep.nil)))))) ⟨by show k + 1 ≤ keep.length; omega, ?_, ?_, ?_⟩ (by show keep.length - (k + 1) < keep.length - k; omega) (fun w h => (h.perm (List.perm_append_comm_assoc R2 [_] [_, _])).fewer (.cons _ (.refl _)))
        · show Own _ _ _ _ (kept (keep.take (k + 1)) ws).length _; rw [hst, List.length_append, List.flatMap_append]; exact hown2
        · show _ = kept (keep.take (k + 1)) ws; rw [hst, List.map_append, hq1]; rfl
        · intro p hp; rcases List.mem_append.1 hp with hp | hp
          · exact hq2 p hp
          · rw [List.mem_singleton.1 hp]; exact ⟨va, vc, rfl, hvc, hvs⟩
      · iterate 2 refine jp rfl ?_
        refine jl_nil ?_
        refine jT ?_
        refine jc_seq ?_
        refine jc_region ?_
        refine jp rfl ?_
        refine jl_nil ?_
        refine jT ?_
        refine jc_no rfl ?_
        refine jc_skip ?_
        refine jB ?_
        refine jT ?_
        refine jc_region ?_
        refine ja rfl (by first | omega | (rw [hck]; decide)) ?_
        refine jp rfl ?_
        refine jl_nil ?_
        have hst := kept_step (ws := ws) hkk hk1
        rw [h29, if_neg (by decide)] at hst
        rw [List.append_nil] at hst
        refine j_again (k + 1, R, v, qs) (Keep.cons (t := 2) rfl (Keep.cons (t := 4) rfl (Keep.cons (t := 7) rfl (Keep.cons (t := 23) rfl (Keep.cons (t := 24) rfl (Keep.cons (t := 25) rfl Keep.nil)))))) ⟨by show k + 1 ≤ keep.length; omega, ?_, ?_, ?_⟩ (by show keep.length - (k + 1) < keep.length - k; omega) (fun w h => h)
        · show Own _ _ _ _ (kept (keep.take (k + 1)) ws).length _; rw [hst]; exact hown
        · show _ = kept (keep.take (k + 1)) ws; rw [hst]; exact hq1
        · exact hq2
    · refine jl_nil ?_
      refine jT ?_
      refine jc_seq ?_
      refine jc_no rfl ?_
      refine jc_exit ?_
      refine jTx ?_
      refine jTx ?_
      refine jBx ?_
      refine jT ?_
      refine jc_seq ?_
      refine jc_region ?_
      refine jl_q rfl rfl (qLdL rfl rfl rfl rfl rfl (by first | (simp only [Nat.reduceAdd, Nat.zero_add, Nat.add_zero, List.drop_succ_cons, List.drop_zero, List.drop_nil, List.take_succ_cons, List.take_zero, List.take_nil, List.cons_append, List.nil_append, List.append_nil, List.length_cons, List.length_nil]; try rfl) | rfl)) ?_
      refine jp rfl ?_
      obtain rfl : k = keep.length := by omega
      rw [List.take_length] at hown hq1
      obtain ⟨fa0, fc0, rfl⟩ := hown.form
      refine jl_own hown (by simp) ?_
      intro Mf fa fc hMf ef hfc hfs; cases ef
      have hkl2 := kept_len (bs := keep) (ws := ws)
      have hql : qs.length = (kept keep ws).length := by rw [← hq1, List.length_map]
      refine jl_h rfl rfl (hCall rfl rfl rfl rfl rfl (by kernel_rfl) (settle_spec bs ws (kept keep ws) bv _ _ Mf (h1c.mono hMf) ⟨_, _, qs, rfl, hfc, hfs, hq1, fun p hp => (hq2 p hp).mono hMf⟩ hdk (fun w h => hdk.w w (kept_mem h)) (by omega))) ?_; rintro _ M1 _ ⟨hM1, _, rfl, ⟨hdk2, rfl⟩⟩
      obtain ⟨bv2, wv2, rfl, hB, hW⟩ := hdk2
      obtain ⟨ba, bc, bps, rfl, _⟩ := id hB
      obtain ⟨wa, wc, wps, rfl, _⟩ := id hW
      refine jl_s rfl (hStoreL rfl rfl rfl rfl rfl rfl rfl rfl (by first | (simp only [Nat.reduceAdd, Nat.zero_add, Nat.add_zero, List.drop_succ_cons, List.drop_zero, List.drop_nil, List.take_succ_cons, List.take_zero, List.take_nil, List.cons_append, List.nil_append, List.append_nil, List.length_cons, List.length_nil]; try rfl) | rfl)) ?_; rintro _ _ _ ⟨rfl, rfl⟩
      refine jp rfl ?_
      refine jl_nil ?_
      refine jT ?_
      refine jc_ret ?_
      refine jrsd (rs := [_, _]) ([]) (by exact List.nil_sublist _) rfl (.cons (.agg rfl rfl rfl) (.cons (.tmp rfl) .nil)) ?_
      exact ⟨by rw [if_pos (by omega)]; exact ⟨_, rfl, _, _, rfl, hB, hW⟩, rfl⟩

end Go.Proofs.YtjdmhbenpeedeaaGreat
