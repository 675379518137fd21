/- Walks: a node read. -/
import Derived.Test.YtckdncmjkloebaaGreatZNode
namespace Go.Proofs.YtckdncmjkloebaaGreat
set_option linter.unusedVariables false
set_option linter.unusedSimpArgs false
open Go.RowKit

/-- item.Read, whatever the bytes -/
theorem iread_spec (v : Value) (xs : List By) (M : Mem) (hv : BS M v xs) (hn : xs.length ≤ 100000) : SpecL Tryz.prog 131 #[v] M [] fun u M' L' => ∃ x va vc, ∃ sz : Int, u = .tuple #[.agg (itc x va vc).toArray, .int .i64 sz, .int .i64 (rdE xs)] ∧ (rdE xs = 0 → x = rdX xs ∧ sz = rdS xs ∧ x.val.length ≤ vc ∧ SM (newOf M M') va (bcells x.val)) ∧ L' = [] := by
  obtain ⟨a, c, rfl, hc, hs⟩ := hv
  have err : ∀ e : Int, e ≠ 0 → rdE xs = e → SpecL Tryz.prog 131 #[.slice a xs.length c] M [] (fun v _ L' => v = .tuple #[.agg zeroIt.toArray, .int .i64 0, .int .i64 e] ∧ L' = []) → SpecL Tryz.prog 131 #[.slice a xs.length c] M [] fun u M' L' => ∃ x va vc, ∃ sz : Int, u = .tuple #[.agg (itc x va vc).toArray, .int .i64 sz, .int .i64 (rdE xs)] ∧ (rdE xs = 0 → x = rdX xs ∧ sz = rdS xs ∧ x.val.length ≤ vc ∧ SM (newOf M M') va (bcells x.val)) ∧ L' = [] :=
    fun e he hE h => h.mono fun u M' L' hh => ⟨⟨⟨0, 0, 0⟩, 0, []⟩, none, 0, 0, by rw [hE]; exact hh.1, fun h0 => absurd (hE ▸ h0) he, hh.2⟩
  by_cases h1 : xs.length < 12
  · exact err 8 (by decide) (by unfold rdE; rw [if_pos h1]) (iread_len a c xs M hc hs hn h1)
  by_cases h2 : xs.length < rdS xs
  · exact err 8 (by decide) (by unfold rdE; rw [if_neg h1, if_pos h2]) (iread_size a c xs M hc hs hn h1 h2)
  have hE : rdE xs = itChk (rdX xs) := by unfold rdE; rw [if_neg h1, if_neg h2]
  by_cases h3 : itChk (rdX xs) = 0
  · refine (iread_ok a c xs M hc hs hn h1 h2 h3).mono fun u M' L' hh => ?_
    obtain ⟨cs, hu, ⟨s, rfl, va, vc, rfl, hvc, hvs⟩, hL⟩ := hh
    exact ⟨rdX xs, va, vc, _, by rw [hE, h3]; exact hu, fun _ => ⟨rfl, rfl, hvc, hvs⟩, hL⟩
  · exact err _ h3 hE (iread_chk a c xs M hc hs hn h1 h2 h3)
theorem rdE_zero {xs : List By} (h : rdE xs = 0) : 12 ≤ xs.length ∧ rdS xs ≤ xs.length ∧ rdS xs ≤ 24 ∧ itChk (rdX xs) = 0 := by
  unfold rdE at h
  split at h
  · cases h
  · split at h
    · cases h
    · rename_i h1 h2
      have h3 := fine_of_chk h
      have h4 := rdX_len (xs := xs) (by omega)
      unfold itBad at h3
      have h5 := of_decide_eq_false h3
      refine ⟨by omega, by omega, ?_, h⟩
      have : ¬ 12 < (rdX xs).val.length := fun hh => h5 (.inr hh)
      omega
/-- items, one behind the other -/
def rdItems : Nat → List By → List It → Option (List It × List By)
  | 0, r, acc => some (acc, r)
  | n + 1, r, acc => if rdE r = 0 then rdItems n (r.drop (rdS r)) (acc ++ [rdX r]) else none
def rdNode (blk : List By) : Option (Int × List It) :=
  if openE blk = 0 then
    if (blk.drop 4).getD 0 0 = 78 ∧ (blk.drop 4).getD 2 0 ≤ 5 then
      match rdItems ((blk.drop 4).getD 2 0).toNat ((blk.drop 4).drop 3) [] with
      | some (xs, r) => if ndChk (((blk.drop 4).getD 1 0).toNat : Int) xs = 0 ∧ noughts r = true then some ((((blk.drop 4).getD 1 0).toNat : Int), xs) else none
      | none => none
    else none
  else none
def zeroNd : List Value := [.int .i64 0, .slice none 0 0]
def NdPost (blk : List By) (u : Value) (M' : Mem) : Prop := match rdNode blk with
  | some (lv, xs) => ∃ s, u = .tuple #[.agg #[.int .i64 lv, s], .int .i64 0] ∧ NS M' s xs
  | none => ∃ e : Int, e ≠ 0 ∧ u = .tuple #[.agg zeroNd.toArray, .int .i64 e]

theorem nread_open (v : Value) (blk : List By) (M : Mem) (hv : BS M v blk) (hn : blk.length ≤ 100000) (h : openE blk ≠ 0) :
    SpecL Tryz.prog 97 #[v] M [] fun u M' L' => NdPost blk u (newOf M M') ∧ L' = [] := by
  refine spec_body (vs := [_]) 75 _ Tryz.func97 rfl Tryz.ntmps97 rfl rfl ?_; intro W
  refine jc_seq ?_
  refine jc_region ?_
  refine jl_h rfl rfl (hAlloc rfl rfl) ?_; rintro _ _ _ ⟨b2, rfl, rfl, rfl⟩
  refine jp rfl ?_
  refine jl_nil ?_
  refine jT ?_
  refine jc_seq ?_
  refine jc_region ?_
  refine jp rfl ?_
  refine jl_h rfl rfl (hCall rfl rfl rfl rfl rfl (by kernel_rfl) (open_spec v blk M hv)) ?_; rintro _ M1 _ ⟨hM1, _, rfl, ⟨s, rfl, hbs, rfl⟩⟩
  iterate 5 refine jp rfl ?_
  refine jl_nil ?_
  refine jT ?_
  refine jc_seq ?_
  refine jc_seq ?_
  refine jc_region ?_
  refine jp rfl ?_
  refine jt rfl (decide_eq_true (by omega)) ?_
  refine jl_nil ?_
  refine jT ?_
  refine jc_yes rfl ?_
  refine jc_seq ?_
  refine jc_region ?_
  refine jl_q rfl rfl (qBuild (cs := [_, _]) rfl rfl rfl (by rfl)) ?_
  refine jp rfl ?_
  refine jl_s rfl (hStoreL rfl rfl rfl rfl rfl rfl rfl rfl) ?_; rintro _ _ _ ⟨rfl, rfl⟩
  refine jp rfl ?_
  refine jl_nil ?_
  refine jT ?_
  refine jc_ret ?_
  refine jTr ?_
  refine jrsd (rs := [_, _]) ([]) (by simp) rfl (.cons (.agg rfl rfl rfl) (.cons (.tmp rfl) .nil)) ?_
  exact ⟨by unfold NdPost rdNode; rw [if_neg h]; exact ⟨_, h, rfl⟩, rfl⟩

theorem nread_mark1 (v : Value) (blk : List By) (M : Mem) (hv : BS M v blk) (hn : blk.length ≤ 100000) (h : openE blk = 0) (hm : ((blk.drop 4).getD 0 0).toNat ≠ 78) :
    SpecL Tryz.prog 97 #[v] M [] fun u M' L' => NdPost blk u (newOf M M') ∧ L' = [] := by
  refine spec_body (vs := [_]) 75 _ Tryz.func97 rfl Tryz.ntmps97 rfl rfl ?_; intro W
  refine jc_seq ?_
  refine jc_region ?_
  refine jl_h rfl rfl (hAlloc rfl rfl) ?_; rintro _ _ _ ⟨b2, rfl, rfl, rfl⟩
  refine jp rfl ?_
  refine jl_nil ?_
  refine jT ?_
  refine jc_seq ?_
  refine jc_region ?_
  refine jp rfl ?_
  refine jl_h rfl rfl (hCall rfl rfl rfl rfl rfl (by kernel_rfl) (open_spec v blk M hv)) ?_; rintro _ M1 _ ⟨hM1, _, rfl, ⟨s, rfl, hbs, rfl⟩⟩
  have hbs := hbs h
  have hb4 : (blk.drop 4).length = 124 := by
        have : blk.length = 128 := by unfold openE at h; split at h; cases h; omega
        rw [List.length_drop]; omega
  obtain ⟨sa, sc, rfl, hsc, hss⟩ := hbs
  obtain ⟨sb, so, e0, hx⟩ := hss.open (by intro e; have := congrArg List.length e; rw [bcells_len, List.length_nil] at this; omega)
  subst e0
  generalize hB : blk.drop 4 = b at *
  have q0 := (b.getD 0 0).toNat_lt
  have q1 := (b.getD 1 0).toNat_lt
  have q2 := (b.getD 2 0).toNat_lt
  iterate 5 refine jp rfl ?_
  refine jl_nil ?_
  refine jT ?_
  refine jc_seq ?_
  refine jc_seq ?_
  refine jc_region ?_
  refine jp rfl ?_
  refine jf rfl (decide_eq_false (by omega)) ?_
  refine jl_nil ?_
  refine jT ?_
  refine jc_no rfl ?_
  refine jc_skip ?_
  refine jT ?_
  refine jc_seq ?_
  refine jc_region ?_
  refine jp rfl ?_
  refine jl_q rfl rfl (qIdxS rfl rfl rfl rfl (by omega)) ?_
  refine jl_q rfl rfl (qLd rfl rfl rfl rfl ((hx ((1 : Int).toNat * 1) _ (bget (j := 1) (by omega))).cj _)) ?_
  refine jl_q rfl rfl (qConv64 rfl rfl rfl (by omega)) ?_
  refine jl_q rfl rfl (qBuild (cs := [_, _]) rfl rfl rfl (by rfl)) ?_
  refine jl_h rfl rfl (hAlloc rfl rfl) ?_; rintro _ _ _ ⟨b6, rfl, rfl, rfl⟩
  refine jl_s rfl (hStoreL rfl rfl rfl rfl rfl rfl rfl rfl) ?_; rintro _ _ _ ⟨rfl, rfl⟩
  refine jl_nil ?_
  refine jT ?_
  refine jc_seq ?_
  refine jc_region ?_
  refine jp rfl ?_
  refine jl_q rfl rfl (qEq (qSl rfl rfl rfl (.no _) (.no _) (.of (v := 3) rfl (by omega) rfl) (by omega) (by simp)) (v' := .slice (some ⟨sb, so + 3 * 1, none⟩) (b.drop 3).length (sc - 3)) (by rw [slA_some (by omega), List.length_drop])) ?_
  refine jp rfl ?_
  refine jl_nil ?_
  refine jT ?_
  refine jc_seq ?_
  refine jc_seq ?_
  refine jc_region ?_
  refine jp rfl ?_
  refine jl_q rfl rfl (qIdxS rfl rfl rfl rfl (by omega)) ?_
  refine jl_q rfl rfl (qLd rfl rfl rfl rfl ((hx ((0 : Int).toNat * 1) _ (bget (j := 0) (by omega))).cj _)) ?_
  refine jt rfl (decide_eq_true (by omega)) ?_
  iterate 6 refine jp rfl ?_
  refine jl_nil ?_
  refine jT ?_
  refine jc_yes rfl ?_
  refine jc_seq ?_
  refine jc_region ?_
  refine jl_q rfl rfl (qBuild (cs := [_, _]) rfl rfl rfl (by rfl)) ?_
  refine jl_s rfl (hStoreL rfl rfl rfl rfl rfl rfl rfl rfl) ?_; rintro _ _ _ ⟨rfl, rfl⟩
  refine jp rfl ?_
  refine jl_nil ?_
  refine jT ?_
  refine jc_ret ?_
  refine jTr ?_
  refine jrsd (rs := [_, _]) ([]) (by simp) rfl (.cons (.agg rfl rfl rfl) (.cons (.tmp rfl) .nil)) ?_
  refine ⟨?_, rfl⟩
  unfold NdPost rdNode; rw [if_pos h, hB, if_neg (by intro hh; have := congrArg UInt8.toNat hh.1; have := UInt8.le_iff_toNat_le.1 hh.2; simp at *; omega)]
  exact ⟨8, by decide, rfl⟩

theorem nread_mark2 (v : Value) (blk : List By) (M : Mem) (hv : BS M v blk) (hn : blk.length ≤ 100000) (h : openE blk = 0) (hm : ((blk.drop 4).getD 0 0).toNat = 78) (hm2 : 5 < ((blk.drop 4).getD 2 0).toNat) :
    SpecL Tryz.prog 97 #[v] M [] fun u M' L' => NdPost blk u (newOf M M') ∧ L' = [] := by
  refine spec_body (vs := [_]) 75 _ Tryz.func97 rfl Tryz.ntmps97 rfl rfl ?_; intro W
  refine jc_seq ?_
  refine jc_region ?_
  refine jl_h rfl rfl (hAlloc rfl rfl) ?_; rintro _ _ _ ⟨b2, rfl, rfl, rfl⟩
  refine jp rfl ?_
  refine jl_nil ?_
  refine jT ?_
  refine jc_seq ?_
  refine jc_region ?_
  refine jp rfl ?_
  refine jl_h rfl rfl (hCall rfl rfl rfl rfl rfl (by kernel_rfl) (open_spec v blk M hv)) ?_; rintro _ M1 _ ⟨hM1, _, rfl, ⟨s, rfl, hbs, rfl⟩⟩
  have hbs := hbs h
  have hb4 : (blk.drop 4).length = 124 := by
        have : blk.length = 128 := by unfold openE at h; split at h; cases h; omega
        rw [List.length_drop]; omega
  obtain ⟨sa, sc, rfl, hsc, hss⟩ := hbs
  obtain ⟨sb, so, e0, hx⟩ := hss.open (by intro e; have := congrArg List.length e; rw [bcells_len, List.length_nil] at this; omega)
  subst e0
  generalize hB : blk.drop 4 = b at *
  have q0 := (b.getD 0 0).toNat_lt
  have q1 := (b.getD 1 0).toNat_lt
  have q2 := (b.getD 2 0).toNat_lt
  iterate 5 refine jp rfl ?_
  refine jl_nil ?_
  refine jT ?_
  refine jc_seq ?_
  refine jc_seq ?_
  refine jc_region ?_
  refine jp rfl ?_
  refine jf rfl (decide_eq_false (by omega)) ?_
  refine jl_nil ?_
  refine jT ?_
  refine jc_no rfl ?_
  refine jc_skip ?_
  refine jT ?_
  refine jc_seq ?_
  refine jc_region ?_
  refine jp rfl ?_
  refine jl_q rfl rfl (qIdxS rfl rfl rfl rfl (by omega)) ?_
  refine jl_q rfl rfl (qLd rfl rfl rfl rfl ((hx ((1 : Int).toNat * 1) _ (bget (j := 1) (by omega))).cj _)) ?_
  refine jl_q rfl rfl (qConv64 rfl rfl rfl (by omega)) ?_
  refine jl_q rfl rfl (qBuild (cs := [_, _]) rfl rfl rfl (by rfl)) ?_
  refine jl_h rfl rfl (hAlloc rfl rfl) ?_; rintro _ _ _ ⟨b6, rfl, rfl, rfl⟩
  refine jl_s rfl (hStoreL rfl rfl rfl rfl rfl rfl rfl rfl) ?_; rintro _ _ _ ⟨rfl, rfl⟩
  refine jl_nil ?_
  refine jT ?_
  refine jc_seq ?_
  refine jc_region ?_
  refine jp rfl ?_
  refine jl_q rfl rfl (qEq (qSl rfl rfl rfl (.no _) (.no _) (.of (v := 3) rfl (by omega) rfl) (by omega) (by simp)) (v' := .slice (some ⟨sb, so + 3 * 1, none⟩) (b.drop 3).length (sc - 3)) (by rw [slA_some (by omega), List.length_drop])) ?_
  refine jp rfl ?_
  refine jl_nil ?_
  refine jT ?_
  refine jc_seq ?_
  refine jc_seq ?_
  refine jc_region ?_
  refine jp rfl ?_
  refine jl_q rfl rfl (qIdxS rfl rfl rfl rfl (by omega)) ?_
  refine jl_q rfl rfl (qLd rfl rfl rfl rfl ((hx ((0 : Int).toNat * 1) _ (bget (j := 0) (by omega))).cj _)) ?_
  refine jf rfl (decide_eq_false (by omega)) ?_
  iterate 2 refine jp rfl ?_
  refine jl_q rfl rfl (qIdxS rfl rfl rfl rfl (by omega)) ?_
  refine jl_q rfl rfl (qLd rfl rfl rfl rfl ((hx ((2 : Int).toNat * 1) _ (bget (j := 2) (by omega))).cj _)) ?_
  refine jt rfl (decide_eq_true (by omega)) ?_
  refine jp rfl ?_
  refine jl_nil ?_
  refine jT ?_
  refine jc_yes rfl ?_
  refine jc_seq ?_
  refine jc_region ?_
  refine jl_q rfl rfl (qBuild (cs := [_, _]) rfl rfl rfl (by rfl)) ?_
  refine jl_s rfl (hStoreL rfl rfl rfl rfl rfl rfl rfl rfl) ?_; rintro _ _ _ ⟨rfl, rfl⟩
  refine jp rfl ?_
  refine jl_nil ?_
  refine jT ?_
  refine jc_ret ?_
  refine jTr ?_
  refine jrsd (rs := [_, _]) ([]) (by simp) rfl (.cons (.agg rfl rfl rfl) (.cons (.tmp rfl) .nil)) ?_
  refine ⟨?_, rfl⟩
  unfold NdPost rdNode; rw [if_pos h, hB, if_neg (by intro hh; have := congrArg UInt8.toNat hh.1; have := UInt8.le_iff_toNat_le.1 hh.2; simp at *; omega)]
  exact ⟨8, by decide, rfl⟩


theorem rdItems_on {m : Nat} {r : List By} {acc : List It} (h : rdE r = 0) : rdItems (m + 1) r acc = rdItems m (r.drop (rdS r)) (acc ++ [rdX r]) := by rw [rdItems, if_pos h]
theorem rdItems_off {m : Nat} {r : List By} {acc : List It} (h : rdE r ≠ 0) : rdItems (m + 1) r acc = none := by rw [rdItems, if_neg h]
abbrev IT : TypeId := 44
theorem rdNode_in {blk b : List By} (hB : blk.drop 4 = b) (h : openE blk = 0) (hm : (b.getD 0 0).toNat = 78) (hm2 : (b.getD 2 0).toNat ≤ 5) :
    rdNode blk = match rdItems (b.getD 2 0).toNat (b.drop 3) [] with
      | some (xs, r) => if ndChk ((b.getD 1 0).toNat : Int) xs = 0 ∧ noughts r = true then some (((b.getD 1 0).toNat : Int), xs) else none
      | none => none := by
  unfold rdNode; rw [if_pos h, hB, if_pos ⟨UInt8.toNat.inj hm, UInt8.le_iff_toNat_le.2 hm2⟩]
theorem ndPost_none {blk : List By} {M : Mem} {e : Int} (h : rdNode blk = none) (he : e ≠ 0) : NdPost blk (.tuple #[.agg zeroNd.toArray, .int .i64 e]) M := by
  unfold NdPost; rw [h]; exact ⟨e, he, rfl⟩

set_option maxHeartbeats 2000000 in
theorem nread_main (v : Value) (blk : List By) (M : Mem) (hv : BS M v blk) (hn : blk.length ≤ 100000) (h : openE blk = 0) (hm : ((blk.drop 4).getD 0 0).toNat = 78) (hm2 : ((blk.drop 4).getD 2 0).toNat ≤ 5) :
    SpecL Tryz.prog 97 #[v] M [] fun u M' L' => NdPost blk u (newOf M M') ∧ L' = [] := by
  refine spec_body (vs := [_]) 75 _ Tryz.func97 rfl Tryz.ntmps97 rfl rfl ?_; intro W
  refine jc_seq ?_
  refine jc_region ?_
  refine jl_h rfl rfl (hAlloc rfl rfl) ?_; rintro _ _ _ ⟨b2, rfl, rfl, rfl⟩
  refine jp rfl ?_
  refine jl_nil ?_
  refine jT ?_
  refine jc_seq ?_
  refine jc_region ?_
  refine jp rfl ?_
  refine jl_h rfl rfl (hCall rfl rfl rfl rfl rfl (by kernel_rfl) (open_spec v blk M hv)) ?_; rintro _ M1 _ ⟨hM1, _, rfl, ⟨s, rfl, hbs, rfl⟩⟩
  have hbs := hbs h
  have hb4 : (blk.drop 4).length = 124 := by
        have : blk.length = 128 := by unfold openE at h; split at h; cases h; omega
        rw [List.length_drop]; omega
  obtain ⟨sa, sc, rfl, hsc, hss⟩ := hbs
  obtain ⟨sb, so, e0, hx⟩ := hss.open (by intro e; have := congrArg List.length e; rw [bcells_len, List.length_nil] at this; omega)
  subst e0
  generalize hB : blk.drop 4 = b at *
  have q0 := (b.getD 0 0).toNat_lt
  have q1 := (b.getD 1 0).toNat_lt
  have q2 := (b.getD 2 0).toNat_lt
  iterate 5 refine jp rfl ?_
  refine jl_nil ?_
  refine jT ?_
  refine jc_seq ?_
  refine jc_seq ?_
  refine jc_region ?_
  refine jp rfl ?_
  refine jf rfl (decide_eq_false (by omega)) ?_
  refine jl_nil ?_
  refine jT ?_
  refine jc_no rfl ?_
  refine jc_skip ?_
  refine jT ?_
  refine jc_seq ?_
  refine jc_region ?_
  refine jp rfl ?_
  refine jl_q rfl rfl (qIdxS rfl rfl rfl rfl (by omega)) ?_
  refine jl_q rfl rfl (qLd rfl rfl rfl rfl ((hx ((1 : Int).toNat * 1) _ (bget (j := 1) (by omega))).cj _)) ?_
  refine jl_q rfl rfl (qConv64 rfl rfl rfl (by omega)) ?_
  refine jl_q rfl rfl (qBuild (cs := [_, _]) rfl rfl rfl (by rfl)) ?_
  refine jl_h rfl rfl (hAlloc rfl rfl) ?_; rintro _ _ _ ⟨b6, rfl, rfl, rfl⟩
  refine jl_s rfl (hStoreL rfl rfl rfl rfl rfl rfl rfl rfl) ?_; rintro _ _ _ ⟨rfl, rfl⟩
  refine jl_nil ?_
  refine jT ?_
  refine jc_seq ?_
  refine jc_region ?_
  refine jp rfl ?_
  refine jl_q rfl rfl (qEq (qSl rfl rfl rfl (.no _) (.no _) (.of (v := 3) rfl (by omega) rfl) (by omega) (by simp)) (v' := .slice (some ⟨sb, so + 3 * 1, none⟩) (b.drop 3).length (sc - 3)) (by rw [slA_some (by omega), List.length_drop])) ?_
  refine jp rfl ?_
  refine jl_nil ?_
  refine jT ?_
  refine jc_seq ?_
  refine jc_seq ?_
  refine jc_region ?_
  refine jp rfl ?_
  refine jl_q rfl rfl (qIdxS rfl rfl rfl rfl (by omega)) ?_
  refine jl_q rfl rfl (qLd rfl rfl rfl rfl ((hx ((0 : Int).toNat * 1) _ (bget (j := 0) (by omega))).cj _)) ?_
  refine jf rfl (decide_eq_false (by omega)) ?_
  iterate 2 refine jp rfl ?_
  refine jl_q rfl rfl (qIdxS rfl rfl rfl rfl (by omega)) ?_
  refine jl_q rfl rfl (qLd rfl rfl rfl rfl ((hx ((2 : Int).toNat * 1) _ (bget (j := 2) (by omega))).cj _)) ?_
  refine jf rfl (decide_eq_false (by omega)) ?_
  refine jp rfl ?_
  refine jl_nil ?_
  refine jT ?_
  refine jc_no rfl ?_
  refine jc_skip ?_
  refine jT ?_
  refine jc_seq ?_
  refine jc_seq ?_
  refine jc_region ?_
  refine jp rfl ?_
  refine jl_q rfl rfl (qIdxS rfl rfl rfl rfl (by omega)) ?_
  refine jl_q rfl rfl (qLd rfl rfl rfl rfl ((hx ((2 : Int).toNat * 1) _ (bget (j := 2) (by omega))).cj _)) ?_
  refine jp rfl ?_
  refine jl_nil ?_
  refine jT ?_
  refine jc_block ?_
  have hl3 : (b.drop 3).length = 121 := by rw [List.length_drop, hb4]
  have hB3 : BS M1 (.slice (some ⟨sb, so + 3 * 1, none⟩) (b.drop 3).length (sc - 3)) (b.drop 3) := ⟨_, _, rfl, by omega, .inr ⟨sb, so + 3 * 1, rfl, fun i u hu => by have := SM.sub 3 (b.drop 3).length hx; rw [List.take_length] at this; exact this i u hu⟩⟩
  refine jc_loopK (α := Nat × Mem × Lc × Value × Value × List By × List (It × Value)) (fun x => [(2, .pointer (some ⟨b2, 0, none⟩)), (6, .pointer (some ⟨b6, 0, none⟩)), (7, x.2.2.2.2.1), (41, .int .u8 ((b.getD 2 0).toNat : Int)), (42, .int .u8 (x.1 : Int))]) (fun x => x.2.1) (fun x => x.2.2.1 ++ [(b6, .cells [.int .i64 ((b.getD 1 0).toNat : Int), x.2.2.2.1].toArray 73 (0, 0)), (b2, .cells [.int .i64 0, .slice none 0 0].toArray 73 (0, 0))]) (fun x => x.1 ≤ (b.getD 2 0).toNat ∧ MLe M1 x.2.1 ∧ Own x.2.2.2.1 x.2.2.1 IT 5 x.2.2.2.2.2.2.length (x.2.2.2.2.2.2.flatMap icell) ∧ (∀ p ∈ x.2.2.2.2.2.2, BS (newOf M x.2.1) p.2 p.1.val) ∧ BS x.2.1 x.2.2.2.2.1 x.2.2.2.2.2.1 ∧ 121 ≤ x.2.2.2.2.2.1.length + 24 * x.1 ∧ x.2.2.2.2.2.1.length ≤ 121 ∧ rdItems (b.getD 2 0).toNat (b.drop 3) [] = rdItems ((b.getD 2 0).toNat - x.1) x.2.2.2.2.2.1 (x.2.2.2.2.2.2.map (·.1)) ∧ x.2.2.2.2.2.2.length = x.1) (fun x => (b.getD 2 0).toNat - x.1)
    (0, M1, [], .slice none 0 0, .slice (some ⟨sb, so + 3 * 1, none⟩) (b.drop 3).length (sc - 3), b.drop 3, []) (Keep.cons (t := 2) rfl (Keep.cons (t := 6) rfl (Keep.cons (t := 7) rfl (Keep.cons (t := 41) rfl (Keep.cons (t := 42) rfl Keep.nil))))) ⟨Nat.zero_le _, MLe.refl _, Own.nil _ _, (fun _ h => by cases h), hB3, by show 121 ≤ (b.drop 3).length + 24 * 0; omega, by show (b.drop 3).length ≤ 121; omega, rfl, rfl⟩ (fun _ h => h) ?_
  rintro ⟨k, Mk, R, s, rv, r, ps⟩ ⟨hk, hMk, hown, hps, hrv, hr1, hr2, hI, hpl⟩
  try dsimp only at hk hMk hown hps hrv hr1 hr2 hI hpl ⊢
  refine jc_seq ?_
  refine jc_region ?_
  refine js rfl (fun h43 => ?_) (fun h43 => ?_)
  · refine jl_nil ?_
    refine jT ?_
    refine jc_seq ?_
    refine jc_yes rfl ?_
    refine jc_skip ?_
    refine jT ?_
    refine jc_seq ?_
    refine jc_block ?_
    refine jc_seq ?_
    refine jc_region ?_
    refine jp rfl ?_
    obtain ⟨ra, rc, rfl, hrc, hrs⟩ := hrv
    refine jl_h rfl rfl (hCall rfl rfl rfl rfl rfl (by kernel_rfl) (iread_spec _ r Mk ⟨ra, rc, rfl, hrc, hrs⟩ (by omega))) ?_; rintro _ Mi1 _ ⟨hMi1, _, rfl, ⟨x, va, vc, sz, rfl, hok, rfl⟩⟩
    iterate 4 refine jp rfl ?_
    refine jl_h rfl rfl (hAlloc rfl rfl) ?_; rintro _ _ _ ⟨b8, rfl, rfl, rfl⟩
    refine jl_s rfl (hStoreL rfl rfl rfl rfl rfl rfl rfl rfl) ?_; rintro _ _ _ ⟨rfl, rfl⟩
    iterate 2 refine jp rfl ?_
    refine jl_nil ?_
    refine jT ?_
    refine jc_seq ?_
    refine jc_seq ?_
    refine jc_region ?_
    refine jp rfl ?_
    refine js rfl (fun h51 => ?_) (fun h51 => ?_)
    · refine jl_nil ?_
      refine jT ?_
      refine jc_yes rfl ?_
      refine jc_seq ?_
      refine jc_region ?_
      refine jl_q rfl rfl (qBuild (cs := [_, _]) rfl rfl rfl (by rfl)) ?_
      refine jp rfl ?_
      refine jl_s rfl (hStoreL rfl rfl rfl rfl rfl rfl rfl rfl) ?_; rintro _ _ _ ⟨rfl, rfl⟩
      refine jp rfl ?_
      refine jl_nil ?_
      refine jT ?_
      refine jc_ret ?_
      refine jTr ?_
      refine jBr ?_
      refine jTr ?_
      refine jTr ?_
      refine jBr ?_
      refine jTr ?_
      refine jrsd (rs := [_, _]) ([]) (by simp) rfl (.cons (.agg rfl rfl rfl) (.cons (.tmp rfl) .nil)) ?_
      refine ⟨?_, rfl⟩
      refine ndPost_none ?_ h51
      rw [rdNode_in hB h hm hm2, hI, show (b.getD 2 0).toNat - k = ((b.getD 2 0).toNat - (k + 1)) + 1 by omega, rdItems_off h51]
    · refine jl_nil ?_
      refine jT ?_
      refine jc_no rfl ?_
      refine jc_skip ?_
      refine jT ?_
      have hE : rdE r = 0 := Classical.not_not.1 h51
      obtain ⟨z1, z2, z3, z4⟩ := rdE_zero hE
      obtain ⟨rfl, rfl, hvc, hvs⟩ := hok hE
      refine jc_drawP (p := { A := fun i => !([9].contains i), U := fun i => !([5, 6, 7, 9, 10].contains i) }) [(0, true), (1, true), (2, true), (5, true), (6, true), (7, true), (3, false), (4, false), (8, true), (9, false), (10, true)] Mi1 ([(b8, .cells (itc (rdX r) va vc).toArray IT (0, 0)), (b6, .cells [.int .i64 ((b.getD 1 0).toNat : Int), s].toArray 73 (0, 0)), (b2, .cells [.int .i64 0, .slice none 0 0].toArray 73 (0, 0))]) ([]) (by kernel_rfl) (by kernel_rfl) (by kernel_rfl) (by kernel_rfl) rfl (by simp) (MLe.refl _) (by simp) ?_
      refine jd_q rfl rfl rfl (qFieldAddr rfl rfl rfl rfl rfl) ?_
      refine jd_q rfl rfl rfl (qLd rfl rfl rfl rfl (CJ.loc rfl)) ?_
      refine jd_q rfl rfl rfl (qLdL rfl rfl rfl rfl rfl) ?_
      iterate 2 refine dp rfl rfl ?_
      refine jd_u rfl rfl rfl (qEq (qSl rfl rfl rfl (.no _) (.no _) (.of (v := rdS r) rfl (by omega) (by omega)) (by omega) (by simp)) (v' := .slice (slA ra (rdS r) rc 1) (r.drop (rdS r)).length (rc - rdS r)) (by rw [List.length_drop])) ?_
      refine jd_h rfl rfl rfl (hBuildSlice (cs := [_, _, _, _, _]) rfl rfl rfl (by rfl) (by rfl) (by rfl)) ?_; rintro _ _ _ ⟨b57, rfl, rfl, rfl⟩
      refine jd_grow (MLe.refl _) (fun _ h => List.mem_cons_of_mem _ h) (by first | exact MLe.refl _ | assumption) (by simp) ?_
      refine jd_h rfl rfl rfl (hAppend (R := R) (m := 1) rfl rfl rfl rfl hown rfl (fun i v hv => CJ.loc (by simpa using hv)) rfl (by rfl) (by simp [Value.oneCell']) (by omega) (by omega)) ?_; rintro s' _ _ ⟨rfl, R', rfl, hown', _⟩
      refine ⟨_, _, MLe.refl _, MLe.refl _, fun _ h => h, by simp, ?_⟩
      obtain ⟨a2, c2, rfl⟩ := hown'.form
      refine jd_q rfl rfl rfl (qFieldAddr rfl rfl rfl rfl rfl) ?_
      refine jd_e rfl rfl (hStoreL rfl rfl rfl rfl rfl rfl rfl rfl) ?_; rintro _ _ _ ⟨rfl, rfl⟩
      refine ⟨MLe.refl _, by simp, ?_⟩
      refine ep rfl rfl ?_
      refine je_nil ?_
      refine jPn ?_
      refine jB ?_
      refine jT ?_
      refine jc_region ?_
      refine jl_q rfl rfl (qAk rfl rfl rfl rfl rfl (by rw [IntKind.wrap_u8]; omega)) ?_
      refine jp rfl ?_
      refine jl_nil ?_
      refine j_again (k + 1, Mi1, R', .slice a2 (ps.length + 1) c2, .slice (slA ra (rdS r) rc 1) (r.drop (rdS r)).length (rc - rdS r), r.drop (rdS r), ps ++ [(rdX r, .slice va (rdX r).val.length vc)]) (Keep.cons (t := 2) rfl (Keep.cons (t := 6) rfl (Keep.cons (t := 7) rfl (Keep.cons (t := 41) rfl (Keep.cons (t := 42) rfl Keep.nil))))) ⟨by show k + 1 ≤ (b.getD 2 0).toNat; omega, hMk.trans hMi1, ?_, ?_, ?_, ?_, ?_, ?_, ?_⟩ (by show (b.getD 2 0).toNat - (k + 1) < (b.getD 2 0).toNat - k; omega) (fun _ h => h.fewer (by first | exact List.Sublist.refl _ | (simp)))
      · show Own _ _ _ _ (ps ++ [_]).length ((ps ++ [_]).flatMap icell)
        rw [List.length_append, List.flatMap_append]; simpa [icell] using hown'
      · intro p hp; rcases List.mem_append.1 hp with hp | hp
        · exact (hps p hp).mono (newOf_mono hMi1)
        · rw [List.mem_singleton.1 hp]; exact ⟨va, vc, rfl, hvc, hvs.mono (newOf_anti (hM1.trans hMk))⟩
      · refine ⟨_, _, rfl, ?_, ?_⟩
        · rw [List.length_drop]; omega
        · have := hrs.part (l := rdS r) (m := rc) (s := 1) (by omega) (bcells r).length
          rw [List.take_of_length_le (by rw [List.length_drop]; omega), Nat.mul_one] at this
          rw [show bcells (r.drop (rdS r)) = (bcells r).drop (rdS r) by simp [bcells, List.map_drop]]; exact this.mono hMi1
      · show 121 ≤ (r.drop (rdS r)).length + 24 * (k + 1); rw [List.length_drop]; omega
      · show (r.drop (rdS r)).length ≤ 121; rw [List.length_drop]; omega
      · show rdItems _ _ _ = rdItems ((b.getD 2 0).toNat - (k + 1)) (r.drop (rdS r)) ((ps ++ [(rdX r, Value.slice va (rdX r).val.length vc)]).map (·.1))
        rw [hI, show (b.getD 2 0).toNat - k = ((b.getD 2 0).toNat - (k + 1)) + 1 by omega, rdItems_on hE, List.map_append]; rfl
      · show (ps ++ [_]).length = k + 1; rw [List.length_append, hpl]; rfl
  · refine jl_nil ?_
    refine jT ?_
    refine jc_seq ?_
    refine jc_no rfl ?_
    refine jc_exit ?_
    refine jTx ?_
    refine jTx ?_
    refine jBx ?_
    refine jT ?_
    refine jc_seq ?_
    refine jc_seq ?_
    refine jc_region ?_
    refine jl_q rfl rfl (qLdL rfl rfl rfl rfl rfl) ?_
    have hk0 : (b.getD 2 0).toNat - k = 0 := by omega
    refine jl_ownN hown (by simp) ?_
    intro M2 a2 c2 hM2 e2 hc2 hs2; subst e2
    have hNS : NS (newOf M M2) (.slice a2 ps.length c2) (ps.map (·.1)) := ⟨a2, c2, ps, by rw [List.length_map], by rw [List.length_map]; exact hc2, hs2.mono (newOf_anti (hM1.trans hMk)), rfl, fun p hp => (hps p hp).mono (newOf_mono hM2)⟩
    refine jl_q rfl rfl (qCall rfl rfl rfl rfl rfl (by kernel_rfl) (ncheck_spec _ (ps.map (·.1)) _ M2 (hNS.mono (newOf_le _ _)))) ?_
    refine jp rfl ?_
    refine jl_nil ?_
    refine jT ?_
    refine jc_seq ?_
    refine jc_region ?_
    refine jp rfl ?_
    refine js rfl (fun h67 => ?_) (fun h67 => ?_)
    · refine jl_nil ?_
      refine jT ?_
      refine jc_yes rfl ?_
      refine jc_seq ?_
      refine jc_region ?_
      refine jl_q rfl rfl (qBuild (cs := [_, _]) rfl rfl rfl (by rfl)) ?_
      refine jp rfl ?_
      refine jl_s rfl (hStoreL rfl rfl rfl rfl rfl rfl rfl rfl) ?_; rintro _ _ _ ⟨rfl, rfl⟩
      refine jp rfl ?_
      refine jl_nil ?_
      refine jT ?_
      refine jc_ret ?_
      refine jTr ?_
      refine jrsd (rs := [_, _]) ([]) (by simp) rfl (.cons (.agg rfl rfl rfl) (.cons (.tmp rfl) .nil)) ?_
      refine ⟨?_, rfl⟩
      refine ndPost_none ?_ h67
      rw [rdNode_in hB h hm hm2, hI, hk0]; show (if _ then _ else _) = none; rw [if_neg (fun hh => h67 hh.1)]
    · refine jl_nil ?_
      refine jT ?_
      refine jc_no rfl ?_
      refine jc_skip ?_
      refine jT ?_
      refine jc_seq ?_
      refine jc_seq ?_
      refine jc_region ?_
      refine jp rfl ?_
      obtain ⟨ra, rc, rfl, hrc, hrs⟩ := hrv
      refine jl_q rfl rfl (qCall rfl rfl rfl rfl rfl (by kernel_rfl) (max_spec ra rc r M2 (hrs.mono hM2) (by omega) (by omega))) ?_
      refine js rfl (fun h72 => ?_) (fun h72 => ?_)
      · refine jl_nil ?_
        refine jT ?_
        refine jc_yes rfl ?_
        refine jc_seq ?_
        refine jc_region ?_
        refine jl_q rfl rfl (qBuild (cs := [_, _]) rfl rfl rfl (by rfl)) ?_
        refine jl_s rfl (hStoreL rfl rfl rfl rfl rfl rfl rfl rfl) ?_; rintro _ _ _ ⟨rfl, rfl⟩
        refine jp rfl ?_
        refine jl_nil ?_
        refine jT ?_
        refine jc_ret ?_
        refine jTr ?_
        refine jrsd (rs := [_, _]) ([]) (by simp) rfl (.cons (.agg rfl rfl rfl) (.cons (.tmp rfl) .nil)) ?_
        refine ⟨?_, rfl⟩
        refine ndPost_none ?_ (by decide)
        rw [rdNode_in hB h hm hm2, hI, hk0]; show (if _ then _ else _) = none; rw [if_neg (fun hh => by have := mxB_pos (xs := r) (by omega); rw [hh.2, decide_eq_true h72] at this; cases this)]
      · refine jl_nil ?_
        refine jT ?_
        refine jc_no rfl ?_
        refine jc_skip ?_
        refine jT ?_
        refine jc_seq ?_
        refine jc_region ?_
        refine jl_q rfl rfl (qLdL rfl rfl rfl rfl rfl) ?_
        refine jl_s rfl (hStoreL rfl rfl rfl rfl rfl rfl rfl rfl) ?_; rintro _ _ _ ⟨rfl, rfl⟩
        refine jp rfl ?_
        refine jl_nil ?_
        refine jT ?_
        refine jc_ret ?_
        refine jrsd (rs := [_, _]) ([]) (by simp) rfl (.cons (.agg rfl rfl rfl) (.cons (.tmp rfl) .nil)) ?_
        refine ⟨?_, rfl⟩
        unfold NdPost; rw [rdNode_in hB h hm hm2, hI, hk0]
        have hno : noughts r = true := by have := mxB_pos (xs := r) (by omega); rw [decide_eq_false h72] at this; cases hn : noughts r <;> simp_all
        rw [show rdItems 0 r (ps.map (·.1)) = some (ps.map (·.1), r) from rfl]; simp only []
        rw [if_pos ⟨Classical.not_not.1 h67, hno⟩]
        exact ⟨_, rfl, hNS⟩

end Go.Proofs.YtckdncmjkloebaaGreat
