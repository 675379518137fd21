/- Walks: replies that are the same; lists that are great. -/
import Derived.Test.YtdjaehgadehnfaaGreatDoorLw
namespace Go.Proofs.YtdjaehgadehnfaaGreatDoor
set_option linter.unusedVariables false
set_option linter.unusedSimpArgs false
open Go.RowKit Go.MapKept

theorem great_spec (qs : List QC) (la : Option Addr) (lc : Nat) (n : Int) (M : Mem) (hL : CsR M la qs) (hc : qs.length ≤ lc) (hc2 : lc ≤ maxLen) :
    SpecL Tryz.prog 13 #[.slice la qs.length lc, .int .i64 n] M [] fun u _ L' => (∃ b : Bool, u = .bool b ∧ (b = false → GrOk qs)) ∧ L' = [] := by
  have hml0 : maxLen = 9223372036854775807 := by unfold maxLen; rfl
  refine spec_body (vs := [_, _]) 60 _ Tryz.func13 rfl Tryz.ntmps13 rfl rfl ?_; intro W
  refine jc_seq ?_
  refine jc_region ?_
  refine jp rfl ?_
  refine jl_nil ?_
  refine jT ?_
  refine jc_seq ?_
  refine jc_region ?_
  refine jp rfl ?_
  refine jl_nil ?_
  refine jT ?_
  refine jc_seq ?_
  refine jc_seq ?_
  refine jc_region ?_
  refine jp rfl ?_
  refine jl_nil ?_
  refine jT ?_
  refine jc_block ?_
  refine jc_loopK (α := Nat) (fun i => [(0, .slice la qs.length lc), (1, .int .i64 n), (5, .int .i64 (gsum (qs.take i))), (6, .int .i64 i)]) (fun _ => M) (fun _ => []) (fun i => i ≤ qs.length ∧ i ≤ 100) (fun i => 100 - i)
    0 (Keep.cons (t := 0) rfl (Keep.cons (t := 1) rfl (Keep.cons (t := 5) rfl (Keep.cons (t := 6) rfl Keep.nil)))) ⟨Nat.zero_le _, Nat.zero_le _⟩ (fun _ h => h) ?_
  rintro i ⟨hi1, hi2⟩
  try dsimp only at hi1 hi2 ⊢
  refine jc_seq ?_
  refine jc_seq ?_
  refine jc_region ?_
  iterate 2 refine jp rfl ?_
  refine jl_q rfl rfl (qLen rfl rfl rfl) ?_
  refine js rfl (fun h10 => ?_) (fun h10 => ?_)
  · iterate 2 refine jp rfl ?_
    refine js rfl (fun h13 => ?_) (fun h13 => ?_)
    · refine jp rfl ?_
      refine jl_nil ?_
      refine jT ?_
      refine jc_yes rfl ?_
      refine jc_skip ?_
      refine jT ?_
      refine jc_seq ?_
      refine jc_block ?_
      refine jc_draw [(0, true), (1, true), (2, true), (3, true), (4, true), (5, true), (6, true), (7, true), (8, true), (9, true), (10, true), (11, true), (12, true), (13, true), (14, true), (15, true), (16, true), (17, true), (18, true), (19, true), (20, true), (21, true), (22, true), (23, true), (24, true), (25, true)] [] (by kernel_rfl) (by kernel_rfl) (by kernel_rfl) rfl (by simp) ?_
      iterate 3 refine dp rfl rfl ?_
      have hk1 : i < qs.length := by omega
      obtain ⟨qb, qo, e0, hx⟩ := flat_sm cF_len hL.1 hk1 (by omega)
      subst e0
      have hq := hL.2 qs[i] (List.getElem_mem hk1)
      have hq1 := hq.pz
      have hq2 := hq.cap
      have hq3 := hq.lim
      have hml : maxLen = 9223372036854775807 := by unfold maxLen; rfl
      have hgs := gsum_in (qs.take i)
      rw [List.length_take] at hgs
      have hcd : ∀ j v, (cF qs[i])[j]? = some v → CM M qb (qo + (i : Int).toNat * 7 + j) v := fun j v hv => by rw [Int.toNat_natCast]; exact hx j v hv
      refine jd_q rfl rfl rfl (qIdxS rfl rfl rfl rfl (by omega)) ?_
      refine jd_q rfl rfl rfl (qFieldAddr rfl rfl rfl rfl rfl) ?_
      refine jd_q rfl rfl rfl (qLd rfl rfl rfl rfl ((hcd 6 _ rfl).cj _)) ?_
      refine jd_q rfl rfl rfl (qLen rfl rfl rfl) ?_
      refine jd_q rfl rfl rfl (qMin rfl rfl rfl rfl) ?_
      iterate 2 refine dp rfl rfl ?_
      refine jd_q rfl rfl rfl (qIdxS rfl rfl rfl rfl (by omega)) ?_
      refine jd_q rfl rfl rfl (qFieldAddr rfl rfl rfl rfl rfl) ?_
      refine jd_q rfl rfl rfl (qLd rfl rfl rfl rfl ((hcd 1 _ rfl).cj _)) ?_
      refine jd_q rfl rfl rfl (qLenStr rfl rfl rfl) ?_
      refine jd_q rfl rfl rfl (qMin rfl rfl rfl rfl) ?_
      refine da rfl rfl (by omega) ?_
      iterate 2 refine dp rfl rfl ?_
      refine jd_q rfl rfl rfl (qIdxS rfl rfl rfl rfl (by omega)) ?_
      refine jd_q rfl rfl rfl (qFieldAddr rfl rfl rfl rfl rfl) ?_
      refine jd_q rfl rfl rfl (qLd rfl rfl rfl rfl ((hcd 2 _ rfl).cj _)) ?_
      refine jd_q rfl rfl rfl (qLenStr rfl rfl rfl) ?_
      refine jd_q rfl rfl rfl (qMin rfl rfl rfl rfl) ?_
      refine da rfl rfl (by omega) ?_
      refine da rfl rfl (by omega) ?_
      refine dp rfl rfl ?_
      refine jd_nil ?_
      refine jPn ?_
      refine jB ?_
      refine jT ?_
      refine jc_region ?_
      refine jp rfl ?_
      refine ja rfl (by omega) ?_
      refine jp rfl ?_
      refine jl_nil ?_
      have hst : gsum (qs.take (i + 1)) = gsum (qs.take i) + gsz qs[i].1 := by rw [List.take_succ_eq_append_getElem hk1, gsum_snoc]
      refine j_again (i + 1) (Keep.cons (t := 0) rfl (Keep.cons (t := 1) rfl (Keep.ceq (t := 5) rfl (by rw [hst]; rfl) (Keep.cons (t := 6) rfl Keep.nil)))) ⟨by omega, by omega⟩ (by omega) (fun _ h => h)
    · refine jp rfl ?_
      refine jl_nil ?_
      refine jT ?_
      refine jc_no rfl ?_
      refine jc_exit ?_
      refine jTx ?_
      refine jTx ?_
      refine jBx ?_
      refine jT ?_
      refine jc_seq ?_
      refine jc_region ?_
      refine jp rfl ?_
      refine jl_q rfl rfl (qLen rfl rfl rfl) ?_
      refine jp rfl ?_
      refine js rfl (fun h45 => ?_) (fun h45 => ?_)
      · iterate 2 refine jp rfl ?_
        refine jl_q rfl rfl (qLen rfl rfl rfl) ?_
        refine js rfl (fun h49 => ?_) (fun h49 => ?_)
        · iterate 11 refine jp rfl ?_
          refine jl_nil ?_
          refine jT ?_
          refine jc_ret ?_
          refine jr1 rfl rfl ?_
          exact ⟨⟨_, rfl, fun h => by cases h⟩, rfl⟩
        · iterate 3 refine jp rfl ?_
          refine jl_q rfl rfl (qLen rfl rfl rfl) ?_
          refine js rfl (fun h54 => ?_) (fun h54 => ?_)
          · iterate 6 refine jp rfl ?_
            refine jl_nil ?_
            refine jT ?_
            refine jc_ret ?_
            refine jr1 rfl rfl ?_
            exact ⟨⟨_, rfl, fun h => by cases h⟩, rfl⟩
          · iterate 6 refine jp rfl ?_
            refine jl_nil ?_
            refine jT ?_
            refine jc_ret ?_
            refine jr1 rfl rfl ?_
            refine ⟨⟨_, rfl, fun h => ?_⟩, rfl⟩
            have h58 := of_decide_eq_false h
            refine ⟨by omega, ?_⟩
            have e : qs.take 100 = qs.take i := by
              by_cases e2 : i = 100
              · rw [e2]
              · rw [List.take_of_length_le (by omega), List.take_of_length_le (by omega)]
            rw [e]; omega
      · iterate 7 refine jp rfl ?_
        refine jl_q rfl rfl (qLen rfl rfl rfl) ?_
        refine js rfl (fun h54 => ?_) (fun h54 => ?_)
        · iterate 6 refine jp rfl ?_
          refine jl_nil ?_
          refine jT ?_
          refine jc_ret ?_
          refine jr1 rfl rfl ?_
          exact ⟨⟨_, rfl, fun h => by cases h⟩, rfl⟩
        · iterate 6 refine jp rfl ?_
          refine jl_nil ?_
          refine jT ?_
          refine jc_ret ?_
          refine jr1 rfl rfl ?_
          refine ⟨⟨_, rfl, fun h => ?_⟩, rfl⟩
          have h58 := of_decide_eq_false h
          refine ⟨by omega, ?_⟩
          have e : qs.take 100 = qs.take i := by
            by_cases e2 : i = 100
            · rw [e2]
            · rw [List.take_of_length_le (by omega), List.take_of_length_le (by omega)]
          rw [e]; omega
  · iterate 4 refine jp rfl ?_
    refine jl_nil ?_
    refine jT ?_
    refine jc_no rfl ?_
    refine jc_exit ?_
    refine jTx ?_
    refine jTx ?_
    refine jBx ?_
    refine jT ?_
    refine jc_seq ?_
    refine jc_region ?_
    refine jp rfl ?_
    refine jl_q rfl rfl (qLen rfl rfl rfl) ?_
    refine jp rfl ?_
    refine js rfl (fun h45 => ?_) (fun h45 => ?_)
    · iterate 2 refine jp rfl ?_
      refine jl_q rfl rfl (qLen rfl rfl rfl) ?_
      refine js rfl (fun h49 => ?_) (fun h49 => ?_)
      · iterate 11 refine jp rfl ?_
        refine jl_nil ?_
        refine jT ?_
        refine jc_ret ?_
        refine jr1 rfl rfl ?_
        exact ⟨⟨_, rfl, fun h => by cases h⟩, rfl⟩
      · iterate 3 refine jp rfl ?_
        refine jl_q rfl rfl (qLen rfl rfl rfl) ?_
        refine js rfl (fun h54 => ?_) (fun h54 => ?_)
        · iterate 6 refine jp rfl ?_
          refine jl_nil ?_
          refine jT ?_
          refine jc_ret ?_
          refine jr1 rfl rfl ?_
          exact ⟨⟨_, rfl, fun h => by cases h⟩, rfl⟩
        · iterate 6 refine jp rfl ?_
          refine jl_nil ?_
          refine jT ?_
          refine jc_ret ?_
          refine jr1 rfl rfl ?_
          refine ⟨⟨_, rfl, fun h => ?_⟩, rfl⟩
          have h58 := of_decide_eq_false h
          refine ⟨by omega, ?_⟩
          have e : qs.take 100 = qs.take i := by
            by_cases e2 : i = 100
            · rw [e2]
            · rw [List.take_of_length_le (by omega), List.take_of_length_le (by omega)]
          rw [e]; omega
    · iterate 7 refine jp rfl ?_
      refine jl_q rfl rfl (qLen rfl rfl rfl) ?_
      refine js rfl (fun h54 => ?_) (fun h54 => ?_)
      · iterate 6 refine jp rfl ?_
        refine jl_nil ?_
        refine jT ?_
        refine jc_ret ?_
        refine jr1 rfl rfl ?_
        exact ⟨⟨_, rfl, fun h => by cases h⟩, rfl⟩
      · iterate 6 refine jp rfl ?_
        refine jl_nil ?_
        refine jT ?_
        refine jc_ret ?_
        refine jr1 rfl rfl ?_
        refine ⟨⟨_, rfl, fun h => ?_⟩, rfl⟩
        have h58 := of_decide_eq_false h
        refine ⟨by omega, ?_⟩
        have e : qs.take 100 = qs.take i := by
          by_cases e2 : i = 100
          · rw [e2]
          · rw [List.take_of_length_le (by omega), List.take_of_length_le (by omega)]
        rw [e]; omega

theorem beq_spec (a1 a2 : Option Addr) (c1 c2 : Nat) (xs : List By) (M : Mem) (s1 : SM M a1 (bcells xs)) (s2 : SM M a2 (bcells xs)) (hn : xs.length ≤ 9223372036854775807) :
    SpecL Tryz.prog 30 #[.slice a1 xs.length c1, .slice a2 xs.length c2] M [] fun u _ _ => u = .bool true := by
  refine spec_body (vs := [_, _]) 26 _ Tryz.func30 rfl Tryz.ntmps30 rfl rfl ?_; intro W
  refine jc_seq ?_
  refine jc_region ?_
  refine jp rfl ?_
  refine jl_nil ?_
  refine jT ?_
  refine jc_seq ?_
  refine jc_seq ?_
  refine jc_region ?_
  refine jp rfl ?_
  refine jl_q rfl rfl (qLen rfl rfl rfl) ?_
  refine jp rfl ?_
  refine jl_q rfl rfl (qLen rfl rfl rfl) ?_
  refine jf rfl (decide_eq_false (by omega)) ?_
  refine jl_nil ?_
  refine jT ?_
  refine jc_no rfl ?_
  refine jc_skip ?_
  refine jT ?_
  refine jc_seq ?_
  refine jc_seq ?_
  refine jc_region ?_
  refine jp rfl ?_
  refine jl_q rfl rfl (qLen rfl rfl rfl) ?_
  refine jp rfl ?_
  refine jl_nil ?_
  refine jT ?_
  refine jc_block ?_
  refine jc_loopK (α := Nat) (fun k => [(0, .slice a1 xs.length c1), (1, .slice a2 xs.length c2), (12, .int .i64 xs.length), (13, .int .i64 k)]) (fun _ => M) (fun _ => []) (fun k => k ≤ xs.length) (fun k => xs.length - k)
    0 (Keep.cons (t := 0) rfl (Keep.cons (t := 1) rfl (Keep.cons (t := 12) rfl (Keep.cons (t := 13) rfl Keep.nil)))) (Nat.zero_le _) (fun _ h => h) ?_
  intro k hk
  try dsimp only at hk ⊢
  refine jc_seq ?_
  refine jc_region ?_
  refine js rfl (fun h14 => ?_) (fun h14 => ?_)
  · refine jl_nil ?_
    refine jT ?_
    refine jc_seq ?_
    refine jc_yes rfl ?_
    refine jc_skip ?_
    refine jT ?_
    refine jc_seq ?_
    refine jc_block ?_
    refine jc_seq ?_
    refine jc_region ?_
    iterate 2 refine jp rfl ?_
    refine jl_nil ?_
    refine jT ?_
    refine jc_seq ?_
    refine jc_draw [(0, true), (1, true), (2, true), (3, true), (4, true), (5, true), (6, true), (7, true), (8, true)] [] (by kernel_rfl) (by kernel_rfl) (by kernel_rfl) rfl (by simp) ?_
    iterate 2 refine dp rfl rfl ?_
    have hk1 : k < xs.length := by omega
    have hne : bcells xs ≠ [] := by intro e; have := congrArg List.length e; simp [bcells] at this; rw [this] at hk1; simp at hk1
    obtain ⟨b1, o1, e1, x1⟩ := s1.open hne
    obtain ⟨b2, o2, e2, x2⟩ := s2.open hne
    subst e1; subst e2
    have hc1 : CM M b1 (o1 + (k : Int).toNat * 1) (.int .u8 (xs[k].toNat : Int)) := by rw [Int.toNat_natCast, Nat.mul_one]; exact x1 k _ (by simp [bcells, hk1])
    have hc2 : CM M b2 (o2 + (k : Int).toNat * 1) (.int .u8 (xs[k].toNat : Int)) := by rw [Int.toNat_natCast, Nat.mul_one]; exact x2 k _ (by simp [bcells, hk1])
    refine jd_q rfl rfl rfl (qIdxS rfl rfl rfl rfl (by omega)) ?_
    refine jd_q rfl rfl rfl (qLd rfl rfl rfl rfl (hc1.cj _)) ?_
    iterate 2 refine dp rfl rfl ?_
    refine jd_q rfl rfl rfl (qIdxS rfl rfl rfl rfl (by omega)) ?_
    refine jd_q rfl rfl rfl (qLd rfl rfl rfl rfl (hc2.cj _)) ?_
    refine df rfl rfl (decide_eq_false (by omega)) ?_
    refine jd_nil ?_
    refine jPn ?_
    refine jT ?_
    refine jc_no rfl ?_
    refine jc_skip ?_
    refine jB ?_
    refine jT ?_
    refine jc_region ?_
    refine ja rfl (by omega) ?_
    refine jp rfl ?_
    refine jl_nil ?_
    refine j_again (k + 1) (Keep.cons (t := 0) rfl (Keep.cons (t := 1) rfl (Keep.cons (t := 12) rfl (Keep.cons (t := 13) rfl Keep.nil)))) (by omega) (by omega) (fun _ h => h)
  · refine jl_nil ?_
    refine jT ?_
    refine jc_seq ?_
    refine jc_no rfl ?_
    refine jc_exit ?_
    refine jTx ?_
    refine jTx ?_
    refine jBx ?_
    refine jT ?_
    refine jc_seq ?_
    refine jc_region ?_
    refine jp rfl ?_
    refine jl_nil ?_
    refine jT ?_
    refine jc_ret ?_
    refine jr1 rfl rfl ?_
    rfl

theorem seq_spec (a1 a2 : Option Addr) (c1 c2 : Nat) (xs : List Str) (M : Mem) (s1 : SM M a1 (xs.map Value.string)) (s2 : SM M a2 (xs.map Value.string)) (hn : xs.length ≤ 9223372036854775807) :
    SpecL Tryz.prog 31 #[.slice a1 xs.length c1, .slice a2 xs.length c2] M [] fun u _ _ => u = .bool true := by
  refine spec_body (vs := [_, _]) 26 _ Tryz.func31 rfl Tryz.ntmps31 rfl rfl ?_; intro W
  refine jc_seq ?_
  refine jc_region ?_
  refine jp rfl ?_
  refine jl_nil ?_
  refine jT ?_
  refine jc_seq ?_
  refine jc_seq ?_
  refine jc_region ?_
  refine jp rfl ?_
  refine jl_q rfl rfl (qLen rfl rfl rfl) ?_
  refine jp rfl ?_
  refine jl_q rfl rfl (qLen rfl rfl rfl) ?_
  refine jf rfl (decide_eq_false (by omega)) ?_
  refine jl_nil ?_
  refine jT ?_
  refine jc_no rfl ?_
  refine jc_skip ?_
  refine jT ?_
  refine jc_seq ?_
  refine jc_seq ?_
  refine jc_region ?_
  refine jp rfl ?_
  refine jl_q rfl rfl (qLen rfl rfl rfl) ?_
  refine jp rfl ?_
  refine jl_nil ?_
  refine jT ?_
  refine jc_block ?_
  refine jc_loopK (α := Nat) (fun k => [(0, .slice a1 xs.length c1), (1, .slice a2 xs.length c2), (12, .int .i64 xs.length), (13, .int .i64 k)]) (fun _ => M) (fun _ => []) (fun k => k ≤ xs.length) (fun k => xs.length - k)
    0 (Keep.cons (t := 0) rfl (Keep.cons (t := 1) rfl (Keep.cons (t := 12) rfl (Keep.cons (t := 13) rfl Keep.nil)))) (Nat.zero_le _) (fun _ h => h) ?_
  intro k hk
  try dsimp only at hk ⊢
  refine jc_seq ?_
  refine jc_region ?_
  refine js rfl (fun h14 => ?_) (fun h14 => ?_)
  · refine jl_nil ?_
    refine jT ?_
    refine jc_seq ?_
    refine jc_yes rfl ?_
    refine jc_skip ?_
    refine jT ?_
    refine jc_seq ?_
    refine jc_block ?_
    refine jc_seq ?_
    refine jc_region ?_
    iterate 2 refine jp rfl ?_
    refine jl_nil ?_
    refine jT ?_
    refine jc_seq ?_
    refine jc_draw [(0, true), (1, true), (2, true), (3, true), (4, true), (5, true), (6, true), (7, true), (8, true)] [] (by kernel_rfl) (by kernel_rfl) (by kernel_rfl) rfl (by simp) ?_
    iterate 2 refine dp rfl rfl ?_
    have hk1 : k < xs.length := by omega
    have hne : xs.map Value.string ≠ [] := by intro e; have := congrArg List.length e; simp [bcells] at this; rw [this] at hk1; simp at hk1
    obtain ⟨b1, o1, e1, x1⟩ := s1.open hne
    obtain ⟨b2, o2, e2, x2⟩ := s2.open hne
    subst e1; subst e2
    have hc1 : CM M b1 (o1 + (k : Int).toNat * 1) (.string xs[k]) := by rw [Int.toNat_natCast, Nat.mul_one]; exact x1 k _ (by simp [bcells, hk1])
    have hc2 : CM M b2 (o2 + (k : Int).toNat * 1) (.string xs[k]) := by rw [Int.toNat_natCast, Nat.mul_one]; exact x2 k _ (by simp [bcells, hk1])
    refine jd_q rfl rfl rfl (qIdxS rfl rfl rfl rfl (by omega)) ?_
    refine jd_q rfl rfl rfl (qLd rfl rfl rfl rfl (hc1.cj _)) ?_
    iterate 2 refine dp rfl rfl ?_
    refine jd_q rfl rfl rfl (qIdxS rfl rfl rfl rfl (by omega)) ?_
    refine jd_q rfl rfl rfl (qLd rfl rfl rfl rfl (hc2.cj _)) ?_
    refine jd_q rfl rfl rfl (qEq (qStrNeq rfl rfl rfl rfl) (v' := .bool false) (by simp)) ?_
    refine jd_nil ?_
    refine jPn ?_
    refine jT ?_
    refine jc_no rfl ?_
    refine jc_skip ?_
    refine jB ?_
    refine jT ?_
    refine jc_region ?_
    refine ja rfl (by omega) ?_
    refine jp rfl ?_
    refine jl_nil ?_
    refine j_again (k + 1) (Keep.cons (t := 0) rfl (Keep.cons (t := 1) rfl (Keep.cons (t := 12) rfl (Keep.cons (t := 13) rfl Keep.nil)))) (by omega) (by omega) (fun _ h => h)
  · refine jl_nil ?_
    refine jT ?_
    refine jc_seq ?_
    refine jc_no rfl ?_
    refine jc_exit ?_
    refine jTx ?_
    refine jTx ?_
    refine jBx ?_
    refine jT ?_
    refine jc_seq ?_
    refine jc_region ?_
    refine jp rfl ?_
    refine jl_nil ?_
    refine jT ?_
    refine jc_ret ?_
    refine jr1 rfl rfl ?_
    rfl

theorem msame_spec (r : RP) (d1 n1 d2 n2 : Value) (M : Mem) (hd1 : BsP M d1 r.data) (hn1 : NsP M n1 r.names) (hd2 : BsP M d2 r.data) (hn2 : NsP M n2 r.names) :
    SpecL Tryz.prog 20 #[.agg (rpc r d1 n1).toArray, .agg (rpc r d2 n2).toArray] M [] fun u _ L' => u = .bool true ∧ L' = [] := by
  obtain ⟨a1, c1, rfl, h11, h12, s1⟩ := hd1
  obtain ⟨a2, c2, rfl, h21, h22, s2⟩ := hd2
  obtain ⟨b1, k1, rfl, h31, h32, t1⟩ := hn1
  obtain ⟨b2, k2, rfl, h41, h42, t2⟩ := hn2
  have hml : maxLen = 9223372036854775807 := by unfold maxLen; rfl
  refine spec_body (vs := [_, _]) 38 _ Tryz.func20 rfl Tryz.ntmps20 rfl rfl ?_; intro W
  refine jc_seq ?_
  refine jc_region ?_
  refine jl_h rfl rfl (hBox (cs := [_, _, _, _, _, _, _, _]) rfl rfl rfl rfl) ?_; rintro _ _ _ ⟨bx2, rfl, rfl, rfl⟩
  refine jl_h rfl rfl (hBox (cs := [_, _, _, _, _, _, _, _]) rfl rfl rfl rfl) ?_; rintro _ _ _ ⟨bx3, rfl, rfl, rfl⟩
  refine jp rfl ?_
  refine jl_nil ?_
  refine jT ?_
  refine jc_seq ?_
  refine jc_region ?_
  refine jl_q rfl rfl (qFieldAddr rfl rfl rfl rfl rfl) ?_
  refine jl_q rfl rfl (qLd rfl rfl rfl rfl (CJ.loc rfl)) ?_
  refine jl_q rfl rfl (qFieldAddr rfl rfl rfl rfl rfl) ?_
  refine jl_q rfl rfl (qLd rfl rfl rfl rfl (CJ.loc rfl)) ?_
  refine jt rfl (decide_eq_true (by omega)) ?_
  refine jp rfl ?_
  refine jl_q rfl rfl (qFieldAddr rfl rfl rfl rfl rfl) ?_
  refine jl_q rfl rfl (qLd rfl rfl rfl rfl (CJ.loc rfl)) ?_
  refine jl_q rfl rfl (qFieldAddr rfl rfl rfl rfl rfl) ?_
  refine jl_q rfl rfl (qLd rfl rfl rfl rfl (CJ.loc rfl)) ?_
  refine jt rfl (decide_eq_true (by omega)) ?_
  iterate 2 refine jp rfl ?_
  refine jl_q rfl rfl (qFieldAddr rfl rfl rfl rfl rfl) ?_
  refine jl_q rfl rfl (qLd rfl rfl rfl rfl (CJ.loc rfl)) ?_
  refine jl_q rfl rfl (qFieldAddr rfl rfl rfl rfl rfl) ?_
  refine jl_q rfl rfl (qLd rfl rfl rfl rfl (CJ.loc rfl)) ?_
  refine jl_q rfl rfl (qCall rfl rfl rfl rfl rfl (by kernel_rfl) (beq_spec a1 a2 c1 c2 r.data M s1 s2 (by omega))) ?_
  iterate 2 refine jp rfl ?_
  refine jl_q rfl rfl (qFieldAddr rfl rfl rfl rfl rfl) ?_
  refine jl_q rfl rfl (qLd rfl rfl rfl rfl (CJ.loc rfl)) ?_
  refine jl_q rfl rfl (qFieldAddr rfl rfl rfl rfl rfl) ?_
  refine jl_q rfl rfl (qLd rfl rfl rfl rfl (CJ.loc rfl)) ?_
  refine jl_q rfl rfl (qCall rfl rfl rfl rfl rfl (by kernel_rfl) (seq_spec b1 b2 k1 k2 r.names M t1 t2 (by omega))) ?_
  iterate 2 refine jp rfl ?_
  refine jl_q rfl rfl (qFieldAddr rfl rfl rfl rfl rfl) ?_
  refine jl_q rfl rfl (qLdL rfl rfl rfl rfl rfl (by first | (simp only [Nat.reduceAdd, Nat.zero_add, Nat.add_zero, List.drop_succ_cons, List.drop_zero, List.drop_nil, List.take_succ_cons, List.take_zero, List.take_nil, List.cons_append, List.nil_append, List.append_nil, List.length_cons, List.length_nil]; try rfl) | rfl)) ?_
  refine jl_q rfl rfl (qFieldAddr rfl rfl rfl rfl rfl) ?_
  refine jl_q rfl rfl (qLdL rfl rfl rfl rfl rfl (by first | (simp only [Nat.reduceAdd, Nat.zero_add, Nat.add_zero, List.drop_succ_cons, List.drop_zero, List.drop_nil, List.take_succ_cons, List.take_zero, List.take_nil, List.cons_append, List.nil_append, List.append_nil, List.length_cons, List.length_nil]; try rfl) | rfl)) ?_
  refine jl_q rfl rfl (qEqSc [.i .u32 r.sid, .b r.sdir, .i .i64 r.slinks, .i .i64 r.ssize] rfl rfl rfl rfl rfl rfl) ?_
  iterate 2 refine jp rfl ?_
  refine jl_nil ?_
  refine jT ?_
  refine jc_ret ?_
  refine jq_drop (L' := []) (List.nil_sublist _) ?_
  refine jr1 rfl rfl ?_
  exact ⟨rfl, rfl⟩

theorem rsame_spec (r : RP) (d1 n1 d2 n2 : Value) (M : Mem) (hd1 : BsP M d1 r.data) (hn1 : NsP M n1 r.names) (hd2 : BsP M d2 r.data) (hn2 : NsP M n2 r.names) :
    SpecL Tryz.prog 19 #[.agg (rpc r d1 n1).toArray, .agg (rpc r d2 n2).toArray] M [] fun u _ L' => u = .bool true ∧ L' = [] := by
  obtain ⟨a1, c1, rfl, h11, h12, s1⟩ := hd1
  obtain ⟨a2, c2, rfl, h21, h22, s2⟩ := hd2
  obtain ⟨b1, k1, rfl, h31, h32, t1⟩ := hn1
  obtain ⟨b2, k2, rfl, h41, h42, t2⟩ := hn2
  have hml : maxLen = 9223372036854775807 := by unfold maxLen; rfl
  refine spec_body (vs := [_, _]) 61 _ Tryz.func19 rfl Tryz.ntmps19 rfl rfl ?_; intro W
  refine jc_seq ?_
  refine jc_region ?_
  refine jl_h rfl rfl (hBox (cs := [_, _, _, _, _, _, _, _]) rfl rfl rfl rfl) ?_; rintro _ _ _ ⟨bx2, rfl, rfl, rfl⟩
  refine jl_h rfl rfl (hBox (cs := [_, _, _, _, _, _, _, _]) rfl rfl rfl rfl) ?_; rintro _ _ _ ⟨bx3, rfl, rfl, rfl⟩
  refine jp rfl ?_
  refine jl_nil ?_
  refine jT ?_
  refine jc_seq ?_
  refine jc_seq ?_
  refine jc_region ?_
  refine jl_q rfl rfl (qFieldAddr rfl rfl rfl rfl rfl) ?_
  refine jl_q rfl rfl (qLd rfl rfl rfl rfl (CJ.loc rfl)) ?_
  refine jl_q rfl rfl (qFieldAddr rfl rfl rfl rfl rfl) ?_
  refine jl_q rfl rfl (qLd rfl rfl rfl rfl (CJ.loc rfl)) ?_
  refine jf rfl (decide_eq_false (by omega)) ?_
  refine jp rfl ?_
  refine jl_q rfl rfl (qFieldAddr rfl rfl rfl rfl rfl) ?_
  refine jl_q rfl rfl (qLd rfl rfl rfl rfl (CJ.loc rfl)) ?_
  refine jl_q rfl rfl (qFieldAddr rfl rfl rfl rfl rfl) ?_
  refine jl_q rfl rfl (qLd rfl rfl rfl rfl (CJ.loc rfl)) ?_
  refine jf rfl (decide_eq_false (by omega)) ?_
  iterate 2 refine jp rfl ?_
  refine jl_q rfl rfl (qFieldAddr rfl rfl rfl rfl rfl) ?_
  refine jl_q rfl rfl (qLd rfl rfl rfl rfl (CJ.loc rfl)) ?_
  refine jl_q rfl rfl (qStr (xs := r.data.map fun b => (b.toNat : Int)) rfl rfl rfl (by rw [List.length_map]) (by rw [List.map_map]; exact s1.sj _)) ?_
  refine jl_q rfl rfl (qFieldAddr rfl rfl rfl rfl rfl) ?_
  refine jl_q rfl rfl (qLd rfl rfl rfl rfl (CJ.loc rfl)) ?_
  refine jl_q rfl rfl (qStr (xs := r.data.map fun b => (b.toNat : Int)) rfl rfl rfl (by rw [List.length_map]) (by rw [List.map_map]; exact s2.sj _)) ?_
  refine jl_q rfl rfl (qEq (qStrNeq rfl rfl rfl rfl) (v' := .bool false) (by simp)) ?_
  iterate 2 refine jp rfl ?_
  refine jl_q rfl rfl (qFieldAddr rfl rfl rfl rfl rfl) ?_
  refine jl_q rfl rfl (qLdL rfl rfl rfl rfl rfl (by first | (simp only [Nat.reduceAdd, Nat.zero_add, Nat.add_zero, List.drop_succ_cons, List.drop_zero, List.drop_nil, List.take_succ_cons, List.take_zero, List.take_nil, List.cons_append, List.nil_append, List.append_nil, List.length_cons, List.length_nil]; try rfl) | rfl)) ?_
  refine jl_q rfl rfl (qFieldAddr rfl rfl rfl rfl rfl) ?_
  refine jl_q rfl rfl (qLdL rfl rfl rfl rfl rfl (by first | (simp only [Nat.reduceAdd, Nat.zero_add, Nat.add_zero, List.drop_succ_cons, List.drop_zero, List.drop_nil, List.take_succ_cons, List.take_zero, List.take_nil, List.cons_append, List.nil_append, List.append_nil, List.length_cons, List.length_nil]; try rfl) | rfl)) ?_
  refine jl_q rfl rfl (qEq (qNeSc [.i .u32 r.sid, .b r.sdir, .i .i64 r.slinks, .i .i64 r.ssize] rfl rfl rfl rfl rfl rfl) (v' := .bool false) (by rfl)) ?_
  iterate 2 refine jp rfl ?_
  refine jl_q rfl rfl (qFieldAddr rfl rfl rfl rfl rfl) ?_
  refine jl_q rfl rfl (qLd rfl rfl rfl rfl (CJ.loc rfl)) ?_
  refine jl_q rfl rfl (qLen rfl rfl rfl) ?_
  refine jl_q rfl rfl (qFieldAddr rfl rfl rfl rfl rfl) ?_
  refine jl_q rfl rfl (qLd rfl rfl rfl rfl (CJ.loc rfl)) ?_
  refine jl_q rfl rfl (qLen rfl rfl rfl) ?_
  refine jf rfl (decide_eq_false (by omega)) ?_
  refine jp rfl ?_
  refine jl_nil ?_
  refine jT ?_
  refine jc_no rfl ?_
  refine jc_skip ?_
  refine jT ?_
  refine jc_seq ?_
  refine jc_seq ?_
  refine jc_region ?_
  refine jp rfl ?_
  refine jl_nil ?_
  refine jT ?_
  refine jc_block ?_
  refine jc_loopK (α := Nat) (fun k => [(2, pt bx2), (3, pt bx3), (5, .int .i64 k)]) (fun _ => M) (fun _ => [(bx3, .cells (rpc r (.slice a2 r.data.length c2) (.slice b2 r.names.length k2)).toArray 36 (0, 0)), (bx2, .cells (rpc r (.slice a1 r.data.length c1) (.slice b1 r.names.length k1)).toArray 36 (0, 0))]) (fun k => k ≤ r.names.length) (fun k => r.names.length - k)
    0 (Keep.cons (t := 2) rfl (Keep.cons (t := 3) rfl (Keep.cons (t := 5) rfl Keep.nil))) (Nat.zero_le _) (fun _ h => h) ?_
  intro k hk
  try dsimp only at hk ⊢
  refine jc_seq ?_
  refine jc_seq ?_
  refine jc_region ?_
  refine jp rfl ?_
  refine jl_q rfl rfl (qFieldAddr rfl rfl rfl rfl rfl) ?_
  refine jl_q rfl rfl (qLd rfl rfl rfl rfl (CJ.loc rfl)) ?_
  refine jl_q rfl rfl (qLen rfl rfl rfl) ?_
  refine js rfl (fun h47 => ?_) (fun h47 => ?_)
  · refine jl_nil ?_
    refine jT ?_
    refine jc_yes rfl ?_
    refine jc_skip ?_
    refine jT ?_
    refine jc_seq ?_
    refine jc_block ?_
    refine jc_seq ?_
    refine jc_draw [(0, true), (1, true), (2, true), (3, true), (4, true), (5, true), (6, true), (7, true), (8, true), (9, true), (10, true)] [(bx3, _), (bx2, _)] (by kernel_rfl) (by kernel_rfl) (by kernel_rfl) rfl (fun _ h => h) ?_
    refine jd_q rfl rfl rfl (qFieldAddr rfl rfl rfl rfl rfl) ?_
    refine jd_q rfl rfl rfl (qLd rfl rfl rfl rfl (CJ.loc rfl)) ?_
    refine dp rfl rfl ?_
    have hk1 : k < r.names.length := by omega
    have hne : r.names.map Value.string ≠ [] := by intro e; have := congrArg List.length e; simp at this; rw [this] at hk1; simp at hk1
    obtain ⟨q1, o1, e1, x1⟩ := t1.open hne
    obtain ⟨q2, o2, e2, x2⟩ := t2.open hne
    subst e1; subst e2
    have hc1 : CM M q1 (o1 + (k : Int).toNat * 1) (.string r.names[k]) := by rw [Int.toNat_natCast, Nat.mul_one]; exact x1 k _ (by simp [hk1])
    have hc2 : CM M q2 (o2 + (k : Int).toNat * 1) (.string r.names[k]) := by rw [Int.toNat_natCast, Nat.mul_one]; exact x2 k _ (by simp [hk1])
    refine jd_q rfl rfl rfl (qIdxS rfl rfl rfl rfl (by omega)) ?_
    refine jd_q rfl rfl rfl (qLd rfl rfl rfl rfl (hc1.cj _)) ?_
    refine jd_q rfl rfl rfl (qFieldAddr rfl rfl rfl rfl rfl) ?_
    refine jd_q rfl rfl rfl (qLd rfl rfl rfl rfl (CJ.loc rfl)) ?_
    refine dp rfl rfl ?_
    refine jd_q rfl rfl rfl (qIdxS rfl rfl rfl rfl (by omega)) ?_
    refine jd_q rfl rfl rfl (qLd rfl rfl rfl rfl (hc2.cj _)) ?_
    refine jd_q rfl rfl rfl (qEq (qStrNeq rfl rfl rfl rfl) (v' := .bool false) (by simp)) ?_
    refine jd_nil ?_
    refine jPn ?_
    refine jT ?_
    refine jc_no rfl ?_
    refine jc_skip ?_
    refine jB ?_
    refine jT ?_
    refine jc_region ?_
    refine jp rfl ?_
    refine ja rfl (by omega) ?_
    refine jp rfl ?_
    refine jl_nil ?_
    refine j_again (k + 1) (Keep.cons (t := 2) rfl (Keep.cons (t := 3) rfl (Keep.cons (t := 5) rfl Keep.nil))) (by omega) (by omega) (fun _ h => h)
  · refine jl_nil ?_
    refine jT ?_
    refine jc_no rfl ?_
    refine jc_exit ?_
    refine jTx ?_
    refine jTx ?_
    refine jBx ?_
    refine jT ?_
    refine jc_seq ?_
    refine jc_region ?_
    refine jp rfl ?_
    refine jl_nil ?_
    refine jT ?_
    refine jc_ret ?_
    refine jq_drop (L' := []) (List.nil_sublist _) ?_
    refine jr1 rfl rfl ?_
    exact ⟨rfl, rfl⟩

theorem sameall_spec (ps1 ps2 : List QR) (a1 a2 : Option Addr) (c1 c2 : Nat) (M : Mem) (hl : ps1.map (·.1) = ps2.map (·.1)) (h1 : RsP M a1 ps1) (h2 : RsP M a2 ps2) (hn : ps1.length ≤ 1000000) :
    SpecL Tryz.prog 14 #[.slice a1 ps1.length c1, .slice a2 ps1.length c2] M [] fun u _ L' => u = .bool true ∧ L' = [] := by
  have hlen : ps1.length = ps2.length := by have := congrArg List.length hl; simpa using this
  refine spec_body (vs := [_, _]) 27 _ Tryz.func14 rfl Tryz.ntmps14 rfl rfl ?_; intro W
  refine jc_seq ?_
  refine jc_region ?_
  refine jp rfl ?_
  refine jl_nil ?_
  refine jT ?_
  refine jc_seq ?_
  refine jc_seq ?_
  refine jc_region ?_
  refine jp rfl ?_
  refine jl_q rfl rfl (qLen rfl rfl rfl) ?_
  refine jp rfl ?_
  refine jl_q rfl rfl (qLen rfl rfl rfl) ?_
  refine jf rfl (decide_eq_false (by omega)) ?_
  refine jl_nil ?_
  refine jT ?_
  refine jc_no rfl ?_
  refine jc_skip ?_
  refine jT ?_
  refine jc_seq ?_
  refine jc_seq ?_
  refine jc_region ?_
  refine jp rfl ?_
  refine jl_nil ?_
  refine jT ?_
  refine jc_block ?_
  refine jc_loopK (α := Nat × Mem) (fun y => [(0, .slice a1 ps1.length c1), (1, .slice a2 ps1.length c2), (5, .int .i64 y.1)]) (fun y => y.2) (fun _ => []) (fun y => y.1 ≤ ps1.length ∧ MLe M y.2) (fun y => ps1.length - y.1)
    (0, M) (Keep.cons (t := 0) rfl (Keep.cons (t := 1) rfl (Keep.cons (t := 5) rfl Keep.nil))) ⟨Nat.zero_le _, MLe.refl _⟩ (fun _ h => h) ?_
  rintro ⟨k, Mk⟩ ⟨hk, hMk⟩
  try dsimp only at hk hMk ⊢
  refine jc_seq ?_
  refine jc_seq ?_
  refine jc_region ?_
  iterate 2 refine jp rfl ?_
  refine jl_q rfl rfl (qLen rfl rfl rfl) ?_
  refine js rfl (fun h14 => ?_) (fun h14 => ?_)
  · refine jl_nil ?_
    refine jT ?_
    refine jc_yes rfl ?_
    refine jc_skip ?_
    refine jT ?_
    refine jc_seq ?_
    refine jc_block ?_
    refine jc_seq ?_
    refine jc_draw [(0, true), (1, true), (2, true), (3, true), (4, true), (5, true), (6, true), (7, true), (8, false), (9, true)] [] (by kernel_rfl) (by kernel_rfl) (by kernel_rfl) rfl (by simp) ?_
    iterate 2 refine dp rfl rfl ?_
    have hk1 : k < ps1.length := by omega
    have hk2 : k < ps2.length := by omega
    have hkk : ps1[k].1 = ps2[k].1 := by have := congrArg (fun l => l[k]?) hl; simp [hk1, hk2] at this; exact this
    obtain ⟨q1, o1, e1, x1⟩ := flat_sm rF_len (h1.1.mono hMk) hk1 (by omega)
    obtain ⟨q2, o2, e2, x2⟩ := flat_sm rF_len (h2.1.mono hMk) hk2 (by omega)
    subst e1; subst e2
    have g1 := h1.2 ps1[k] (List.getElem_mem hk1)
    have g2 := h2.2 ps2[k] (List.getElem_mem hk2)
    have x2 : ∀ j v, (rpc ps1[k].1 ps2[k].2.1 ps2[k].2.2)[j]? = some v → CM Mk q2 (o2 + k * 8 + j) v := by rw [hkk]; exact x2
    rw [← hkk] at g2
    refine jd_q rfl rfl rfl (qIdxS rfl rfl rfl rfl (by omega)) ?_
    refine jd_q rfl rfl rfl (qLdA (cs := rpc ps1[k].1 ps1[k].2.1 ps1[k].2.2) rfl rfl rfl rfl rfl (fun j v hv => by rw [Int.toNat_natCast]; exact (x1 j v hv).cj _)) ?_
    iterate 2 refine dp rfl rfl ?_
    refine jd_q rfl rfl rfl (qIdxS rfl rfl rfl rfl (by omega)) ?_
    refine jd_q rfl rfl rfl (qLdA (cs := rpc ps1[k].1 ps2[k].2.1 ps2[k].2.2) rfl rfl rfl rfl rfl (fun j v hv => by rw [Int.toNat_natCast]; exact (x2 j v hv).cj _)) ?_
    refine jd_h rfl rfl rfl (hCall rfl rfl rfl rfl rfl (by kernel_rfl) (rsame_spec ps1[k].1 _ _ _ _ Mk (g1.1.mono hMk) (g1.2.mono hMk) (g2.1.mono hMk) (g2.2.mono hMk))) ?_; rintro _ M2 _ ⟨hM2, _, rfl, ⟨rfl, rfl⟩⟩
    refine ⟨_, _, MLe.refl _, hM2, fun _ h => h, by simp, ?_⟩
    refine dp rfl rfl ?_
    refine jd_nil ?_
    refine jPn ?_
    refine jT ?_
    refine jc_no rfl ?_
    refine jc_skip ?_
    refine jB ?_
    refine jT ?_
    refine jc_region ?_
    refine jp rfl ?_
    refine ja rfl (by omega) ?_
    refine jp rfl ?_
    refine jl_nil ?_
    refine j_again (k + 1, M2) (Keep.cons (t := 0) rfl (Keep.cons (t := 1) rfl (Keep.cons (t := 5) rfl Keep.nil))) ⟨by show k + 1 ≤ _; omega, hMk.trans hM2⟩ (by show ps1.length - (k + 1) < ps1.length - k; omega) (fun _ h => h)
  · refine jl_nil ?_
    refine jT ?_
    refine jc_no rfl ?_
    refine jc_exit ?_
    refine jTx ?_
    refine jTx ?_
    refine jBx ?_
    refine jT ?_
    refine jc_seq ?_
    refine jc_region ?_
    refine jp rfl ?_
    refine jl_nil ?_
    refine jT ?_
    refine jc_ret ?_
    refine jr1 rfl rfl ?_
    exact ⟨rfl, rfl⟩


end Go.Proofs.YtdjaehgadehnfaaGreatDoor
