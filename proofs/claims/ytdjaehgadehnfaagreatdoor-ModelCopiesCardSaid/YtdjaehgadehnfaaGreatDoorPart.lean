/- Walks: the reader of paths. -/
import Derived.Test.YtdjaehgadehnfaaGreatDoorQs
import Derived.Test.YtdjaehgadehnfaaGreatDoorPlace
namespace Go.Proofs.YtdjaehgadehnfaaGreatDoor
set_option linter.unusedVariables false
set_option linter.unusedSimpArgs false
open Go.RowKit Go.MapKept

theorem bad_spec (b : By) (M : Mem) :
    SpecL Tryz.prog 27 #[.int .u8 (b.toNat : Int)] M [] fun u _ _ => u = .bool (badB b) := by
  refine spec_body (vs := [_]) 9 _ Tryz.func27 rfl Tryz.ntmps27 rfl rfl ?_; intro W
  refine jc_seq ?_
  refine jc_region ?_
  refine jp rfl ?_
  refine jl_nil ?_
  refine jT ?_
  refine jc_seq ?_
  refine jc_region ?_
  refine jp rfl ?_
  refine js rfl (fun h4 => ?_) (fun h4 => ?_)
  · iterate 5 refine jp rfl ?_
    refine jl_nil ?_
    refine jT ?_
    refine jc_ret ?_
    refine jr1 rfl rfl ?_
    have : badB b = true := by unfold badB; rw [decide_eq_true (by omega : b.toNat < 33)]; rfl
    rw [this]
  · iterate 5 refine jp rfl ?_
    refine jl_nil ?_
    refine jT ?_
    refine jc_ret ?_
    refine jr1 rfl rfl ?_
    have : badB b = decide (126 < b.toNat) := by unfold badB; rw [decide_eq_false (by omega : ¬ b.toNat < 33)]; rfl
    rw [this]; exact congrArg Value.bool (decide_eq_decide.2 (by omega))

theorem idx_spec (a : Option Addr) (c : Nat) (xs : List By) (M : Mem) (hs : SM M a (bcells xs)) (hl : xs.length ≤ 1000000) :
    SpecL Tryz.prog 38 #[.slice a xs.length c, .func (.func 27) #[] #[]] M [] fun u _ L' => (∃ k : Int, u = .int .i64 k ∧ (0 ≤ k ↔ xs.any badB = true)) ∧ L' = [] := by
  refine spec_body (vs := [_, _]) 19 _ Tryz.func38 rfl Tryz.ntmps38 rfl rfl ?_; intro W
  refine jc_seq ?_
  refine jc_region ?_
  refine jp rfl ?_
  refine jl_nil ?_
  refine jT ?_
  refine jc_seq ?_
  refine jc_seq ?_
  refine jc_region ?_
  refine jp rfl ?_
  refine jl_q rfl rfl (qLen rfl rfl rfl) ?_
  refine jp rfl ?_
  refine jl_nil ?_
  refine jT ?_
  refine jc_block ?_
  refine jc_loopK (α := Nat) (fun k => [(0, .slice a xs.length c), (1, .func (.func 27) #[] #[]), (7, .int .i64 xs.length), (8, .int .i64 k)]) (fun _ => M) (fun _ => []) (fun k => k ≤ xs.length ∧ (xs.take k).any badB = false) (fun k => xs.length - k)
    0 (Keep.cons (t := 0) rfl (Keep.cons (t := 1) rfl (Keep.cons (t := 7) rfl (Keep.cons (t := 8) rfl Keep.nil)))) ⟨Nat.zero_le _, rfl⟩ (fun _ h => h) ?_
  rintro k ⟨hk, hany⟩
  try dsimp only at hk hany ⊢
  refine jc_seq ?_
  refine jc_region ?_
  refine js rfl (fun h9 => ?_) (fun h9 => ?_)
  · refine jl_nil ?_
    refine jT ?_
    refine jc_seq ?_
    refine jc_yes rfl ?_
    refine jc_skip ?_
    refine jT ?_
    refine jc_seq ?_
    refine jc_block ?_
    refine jc_seq ?_
    refine jc_region ?_
    iterate 2 refine jp rfl ?_
    refine jl_nil ?_
    refine jT ?_
    refine jc_seq ?_
    refine jc_region ?_
    iterate 3 refine jp rfl ?_
    have hk1 : k < xs.length := by omega
    obtain ⟨sb, so, e0, hx⟩ := hs.open (by intro e; have := congrArg List.length e; rw [bcells_len, List.length_nil] at this; omega)
    subst e0
    have hck : CM M sb (so + (k : Int).toNat * 1) (.int .u8 (xs[k].toNat : Int)) := by rw [Int.toNat_natCast, Nat.mul_one]; exact hx k _ (by simp [bcells, hk1])
    refine jl_q rfl rfl (qIdxS rfl rfl rfl rfl (by omega)) ?_
    refine jl_q rfl rfl (qLd rfl rfl rfl rfl (hck.cj _)) ?_
    refine jl_qb rfl rfl (qCall rfl rfl rfl rfl rfl (by kernel_rfl) (bad_spec xs[k] M)) (fun h16 => ?_) (fun h16 => ?_)
    · refine jl_nil ?_
      refine jT ?_
      refine jc_yes rfl ?_
      refine jc_seq ?_
      refine jc_region ?_
      iterate 2 refine jp rfl ?_
      refine jl_nil ?_
      refine jT ?_
      refine jc_ret ?_
      refine jBr ?_
      refine jTr ?_
      refine jTr ?_
      refine jBr ?_
      refine jTr ?_
      refine jr1 rfl rfl ?_
      refine ⟨⟨k, rfl, ?_⟩, rfl⟩
      refine ⟨fun _ => ?_, fun _ => by omega⟩
      exact List.any_eq_true.2 ⟨xs[k], List.getElem_mem hk1, h16⟩
    · refine jl_nil ?_
      refine jT ?_
      refine jc_no rfl ?_
      refine jc_skip ?_
      refine jB ?_
      refine jT ?_
      refine jc_region ?_
      refine ja rfl (by omega) ?_
      refine jp rfl ?_
      refine jl_nil ?_
      refine j_again (k + 1) (Keep.cons (t := 0) rfl (Keep.cons (t := 1) rfl (Keep.cons (t := 7) rfl (Keep.cons (t := 8) rfl Keep.nil)))) ⟨by omega, ?_⟩ (by omega) (fun _ h => h)
      rw [List.take_succ_eq_append_getElem hk1, List.any_append, hany]; simpa using h16
  · refine jl_nil ?_
    refine jT ?_
    refine jc_seq ?_
    refine jc_no rfl ?_
    refine jc_exit ?_
    refine jTx ?_
    refine jTx ?_
    refine jBx ?_
    refine jT ?_
    refine jc_seq ?_
    refine jc_region ?_
    refine jp rfl ?_
    refine jl_nil ?_
    refine jT ?_
    refine jc_ret ?_
    refine jr1 rfl rfl ?_
    obtain rfl : k = xs.length := by omega
    rw [List.take_length] at hany
    exact ⟨⟨-1, rfl, ⟨fun h => by omega, fun h => by rw [hany] at h; cases h⟩⟩, rfl⟩

theorem any_spec (a : Option Addr) (c : Nat) (xs : List By) (M : Mem) (hs : SM M a (bcells xs)) (hl : xs.length ≤ 1000000) :
    SpecL Tryz.prog 26 #[.slice a xs.length c, .func (.func 27) #[] #[]] M [] fun u _ _ => u = .bool (xs.any badB) := by
  refine spec_body (vs := [_, _]) 9 _ Tryz.func26 rfl Tryz.ntmps26 rfl rfl ?_; intro W
  refine jc_seq ?_
  refine jc_region ?_
  refine jp rfl ?_
  refine jl_nil ?_
  refine jT ?_
  refine jc_seq ?_
  refine jc_region ?_
  iterate 2 refine jp rfl ?_
  refine jl_h rfl rfl (hCall rfl rfl rfl rfl rfl (by kernel_rfl) (idx_spec a c xs M hs hl)) ?_; rintro _ _ _ ⟨_, _, rfl, ⟨⟨k, rfl, hk⟩, rfl⟩⟩
  iterate 2 refine jp rfl ?_
  refine jl_nil ?_
  refine jT ?_
  refine jc_ret ?_
  refine jr1 rfl rfl ?_
  exact congrArg Value.bool (by cases h : xs.any badB with
    | true => exact decide_eq_true (hk.2 h)
    | false => exact decide_eq_false fun h2 => by rw [hk.1 h2] at h; cases h)


theorem piece_le (sep : Str) : ∀ (k : Nat) (s : Str), ∀ p ∈ Lib.splitB sep 0 k s, p.size ≤ s.size
  | 0, s, p, h => by rw [Lib.splitB_zero, List.mem_singleton] at h; rw [h]; exact Nat.le_refl _
  | k + 1, s, p, h => by
    unfold Lib.splitB at h
    split at h
    · rw [List.mem_singleton] at h; rw [h]; exact Nat.le_refl _
    · rcases List.mem_cons.1 h with h | h
      · rw [h, ByteArray.size_extract]; omega
      · have := piece_le sep k _ p h
        rw [ByteArray.size_extract] at this; omega
theorem split_le {s p : Str} (h : p ∈ splitS s) : p.size ≤ s.size := piece_le _ _ _ p h
theorem split_two {s : Str} (h : 2 ≤ (splitS s).length) : ∃ a b l, splitS s = a :: b :: l := by
  cases h1 : splitS s with
  | nil => rw [h1] at h; simp at h
  | cons a l =>
    cases l with
    | nil => rw [h1] at h; simp at h
    | cons b l => exact ⟨a, b, l, rfl⟩
def PartP (s : Str) (u : Value) (M' : Mem) (L' : Lc) : Prop := (match partF s with
  | none => u = .tuple #[.int .i64 0, .slice none 0 0, .int .i64 270]
  | some w => ∃ a c, u = .tuple #[.int .i64 w.1, .slice a w.2.length c, .int .i64 0] ∧ WyOk M' w a c) ∧ L' = []
theorem PartP.no {s : Str} {M : Mem} (h : partF s = none) : PartP s (.tuple #[.int .i64 0, .slice none 0 0, .int .i64 270]) M [] := by unfold PartP; rw [h]; exact ⟨rfl, rfl⟩

theorem part_pre (s : Str) (M : Mem) (hT : Tabs M) (hs : s.size ≤ 100000) (h : ¬ (s.size ≤ 64 ∧ ∃ b l, splitS s = ⟨#[]⟩ :: b :: l)) :
    SpecL Tryz.prog 11 #[.string s] M [] (PartP s) := by
  refine spec_body (vs := [_]) 77 _ Tryz.func11 rfl Tryz.ntmps11 rfl rfl ?_; intro W
  refine jc_seq ?_
  refine jc_region ?_
  iterate 3 refine jp rfl ?_
  refine jl_nil ?_
  refine jT ?_
  refine jc_seq ?_
  refine jc_region ?_
  refine jp rfl ?_
  refine jl_h rfl rfl (hCall rfl rfl rfl rfl rfl (by kernel_rfl) (split_spec s M hT (by omega))) ?_; rintro _ _ _ ⟨_, _, rfl, ⟨rfl, g, rfl, rfl⟩⟩
  simp only [List.cons_append, List.nil_append]
  refine jl_freeze g (by simp) ?_
  intro M1 hM1 e1
  have hlS := splitS_le s
  refine jp rfl ?_
  refine jl_nil ?_
  refine jT ?_
  refine jc_seq ?_
  refine jc_seq ?_
  refine jc_region ?_
  refine jp rfl ?_
  refine jl_q rfl rfl (qLenStr rfl rfl rfl) ?_
  refine js rfl (fun h13 => ?_) (fun h13 => ?_)
  · iterate 11 refine jp rfl ?_
    refine jl_nil ?_
    refine jT ?_
    refine jc_yes rfl ?_
    refine jc_seq ?_
    refine jc_region ?_
    iterate 3 refine jp rfl ?_
    refine jl_nil ?_
    refine jT ?_
    refine jc_ret ?_
    refine jTr ?_
    refine jr3 rfl rfl rfl rfl ?_
    exact PartP.no (by unfold partF; rw [if_neg (by omega)])
  · iterate 2 refine jp rfl ?_
    refine jl_q rfl rfl (qLen rfl rfl rfl) ?_
    refine js rfl (fun h17 => ?_) (fun h17 => ?_)
    · iterate 7 refine jp rfl ?_
      refine jl_nil ?_
      refine jT ?_
      refine jc_yes rfl ?_
      refine jc_seq ?_
      refine jc_region ?_
      iterate 3 refine jp rfl ?_
      refine jl_nil ?_
      refine jT ?_
      refine jc_ret ?_
      refine jTr ?_
      refine jr3 rfl rfl rfl rfl ?_
      refine PartP.no ?_
      unfold partF partL
      split
      · split
        · rename_i a b l hsp; have := congrArg List.length hsp; simp only [List.length_cons] at this; omega
        · rfl
      · rfl
    · iterate 3 refine jp rfl ?_
      obtain ⟨a0, b0, ls, hsp⟩ := split_two (s := s) (by omega)
      rw [hsp] at e1
      simp only [hsp]
      have hl3 : (a0 :: b0 :: ls).length = ls.length + 2 := rfl
      refine jl_q rfl rfl (qIdxS rfl rfl rfl rfl (by omega)) ?_
      refine jl_q rfl rfl (qLd rfl rfl rfl rfl (CM.cj ⟨_, _, _, e1, rfl⟩ _)) ?_
      refine jl_qb rfl rfl (qStrNeq rfl rfl rfl rfl) (fun h23 => ?_) (fun h23 => ?_)
      · refine jp rfl ?_
        refine jl_nil ?_
        refine jT ?_
        refine jc_yes rfl ?_
        refine jc_seq ?_
        refine jc_region ?_
        iterate 3 refine jp rfl ?_
        refine jl_nil ?_
        refine jT ?_
        refine jc_ret ?_
        refine jTr ?_
        refine jr3 rfl rfl rfl rfl ?_
        refine PartP.no ?_
        unfold partF; rw [if_pos (by omega), hsp]; unfold partL; simp only
        rw [if_neg (of_decide_eq_true h23)]
      · exact absurd ⟨by have : (s.size : Int) = s.size := rfl; omega, b0, ls, by rw [hsp]; have := of_decide_eq_false h23; simp only [ne_eq, Decidable.not_not] at this; rw [this]⟩ h

theorem part_bad (s : Str) (M : Mem) (hT : Tabs M) (hs : s.size ≤ 100000) (h64 : s.size ≤ 64) (b0 : Str) (ls : List Str) (hsp : splitS s = ⟨#[]⟩ :: b0 :: ls) (hnum : numS b0 = none) :
    SpecL Tryz.prog 11 #[.string s] M [] (PartP s) := by
  refine spec_body (vs := [_]) 77 _ Tryz.func11 rfl Tryz.ntmps11 rfl rfl ?_; intro W
  refine jc_seq ?_
  refine jc_region ?_
  iterate 3 refine jp rfl ?_
  refine jl_nil ?_
  refine jT ?_
  refine jc_seq ?_
  refine jc_region ?_
  refine jp rfl ?_
  refine jl_h rfl rfl (hCall rfl rfl rfl rfl rfl (by kernel_rfl) (split_spec s M hT (by omega))) ?_; rintro _ _ _ ⟨_, _, rfl, ⟨rfl, g, rfl, rfl⟩⟩
  simp only [List.cons_append, List.nil_append]
  refine jl_freeze g (by simp) ?_
  intro M1 hM1 e1
  have hlS := splitS_le s
  rw [hsp] at e1 hlS
  simp only [hsp]
  have hl3 : ((⟨#[]⟩ : Str) :: b0 :: ls).length = ls.length + 2 := rfl
  have hb0 : b0.size ≤ s.size := split_le (s := s) (by rw [hsp]; simp)
  refine jp rfl ?_
  refine jl_nil ?_
  refine jT ?_
  refine jc_seq ?_
  refine jc_seq ?_
  refine jc_region ?_
  refine jp rfl ?_
  refine jl_q rfl rfl (qLenStr rfl rfl rfl) ?_
  refine jf rfl (decide_eq_false (by omega)) ?_
  iterate 2 refine jp rfl ?_
  refine jl_q rfl rfl (qLen rfl rfl rfl) ?_
  refine jf rfl (decide_eq_false (by omega)) ?_
  iterate 3 refine jp rfl ?_
  refine jl_q rfl rfl (qIdxS rfl rfl rfl rfl (by omega)) ?_
  refine jl_q rfl rfl (qLd rfl rfl rfl rfl (CM.cj ⟨_, _, _, e1, rfl⟩ _)) ?_
  refine jl_q rfl rfl (qEq (qStrNeq rfl rfl rfl rfl) (v' := .bool false) (by rfl)) ?_
  refine jp rfl ?_
  refine jl_nil ?_
  refine jT ?_
  refine jc_no rfl ?_
  refine jc_skip ?_
  refine jT ?_
  refine jc_seq ?_
  refine jc_region ?_
  refine jp rfl ?_
  refine jl_q rfl rfl (qIdxS rfl rfl rfl rfl (by omega)) ?_
  refine jl_q rfl rfl (qLd rfl rfl rfl rfl (CM.cj ⟨_, _, _, e1, rfl⟩ _)) ?_
  refine jl_h rfl rfl (hCall rfl rfl rfl rfl rfl (by kernel_rfl) (atoi_spec b0 M1 (hT.mono hM1) (by omega))) ?_; rintro _ _ _ ⟨_, _, rfl, ⟨hme, rfl, hat⟩⟩
  obtain rfl := hme.symm
  rcases hat with ⟨v, hv, _⟩ | ⟨_, v, N, rfl⟩
  · rw [hnum] at hv; cases hv
  simp only [List.nil_append]
  iterate 5 refine jp rfl ?_
  refine jl_nil ?_
  refine jT ?_
  refine jc_seq ?_
  refine jc_seq ?_
  refine jc_draw [(0, true), (1, true), (2, true), (3, true), (4, true), (5, true), (6, true), (7, true), (8, true), (9, true), (10, true), (12, true), (13, true), (14, true), (11, false), (15, true), (16, true), (17, true), (18, true), (19, true), (20, true)] [] (by kernel_rfl) (by kernel_rfl) (by kernel_rfl) rfl (by simp) ?_
  refine dp rfl rfl ?_
  refine jd_q rfl rfl rfl (qEq (qIfErr rfl rfl rfl (by kernel_rfl)) (v' := .bool true) (by rfl)) ?_
  iterate 12 refine dp rfl rfl ?_
  refine dk rfl rfl rfl rfl ?_
  iterate 6 refine dp rfl rfl ?_
  refine jd_nil ?_
  refine jPn ?_
  refine jT ?_
  refine jc_yes rfl ?_
  refine jc_seq ?_
  refine jc_region ?_
  iterate 3 refine jp rfl ?_
  refine jl_nil ?_
  refine jT ?_
  refine jc_ret ?_
  refine jTr ?_
  refine jr3 rfl rfl rfl rfl ?_
  refine PartP.no ?_
  unfold partF; rw [if_pos h64, hsp]; unfold partL; simp only
  rw [if_pos True.intro, hnum]

set_option maxHeartbeats 2000000 in
theorem part_ok (s : Str) (M : Mem) (hT : Tabs M) (hs : s.size ≤ 100000) (h64 : s.size ≤ 64) (b0 : Str) (ls : List Str) (hsp : splitS s = ⟨#[]⟩ :: b0 :: ls) (v : Int) (hnum : numS b0 = some v) (hv64 : InI64 v) :
    SpecL Tryz.prog 11 #[.string s] M [] (PartP s) := by
  refine spec_body (vs := [_]) 77 _ Tryz.func11 rfl Tryz.ntmps11 rfl rfl ?_; intro W
  refine jc_seq ?_
  refine jc_region ?_
  iterate 3 refine jp rfl ?_
  refine jl_nil ?_
  refine jT ?_
  refine jc_seq ?_
  refine jc_region ?_
  refine jp rfl ?_
  refine jl_h rfl rfl (hCall rfl rfl rfl rfl rfl (by kernel_rfl) (split_spec s M hT (by omega))) ?_; rintro _ _ _ ⟨_, _, rfl, ⟨rfl, g, rfl, rfl⟩⟩
  simp only [List.cons_append, List.nil_append]
  refine jl_freeze g (by simp) ?_
  intro M1 hM1 e1
  have hlS := splitS_le s
  rw [hsp] at e1 hlS
  simp only [hsp]
  have hl3 : ((⟨#[]⟩ : Str) :: b0 :: ls).length = ls.length + 2 := rfl
  have hb0 : b0.size ≤ s.size := split_le (s := s) (by rw [hsp]; simp)
  refine jp rfl ?_
  refine jl_nil ?_
  refine jT ?_
  refine jc_seq ?_
  refine jc_seq ?_
  refine jc_region ?_
  refine jp rfl ?_
  refine jl_q rfl rfl (qLenStr rfl rfl rfl) ?_
  refine jf rfl (decide_eq_false (by omega)) ?_
  iterate 2 refine jp rfl ?_
  refine jl_q rfl rfl (qLen rfl rfl rfl) ?_
  refine jf rfl (decide_eq_false (by omega)) ?_
  iterate 3 refine jp rfl ?_
  refine jl_q rfl rfl (qIdxS rfl rfl rfl rfl (by omega)) ?_
  refine jl_q rfl rfl (qLd rfl rfl rfl rfl (CM.cj ⟨_, _, _, e1, rfl⟩ _)) ?_
  refine jl_q rfl rfl (qEq (qStrNeq rfl rfl rfl rfl) (v' := .bool false) (by rfl)) ?_
  refine jp rfl ?_
  refine jl_nil ?_
  refine jT ?_
  refine jc_no rfl ?_
  refine jc_skip ?_
  refine jT ?_
  refine jc_seq ?_
  refine jc_region ?_
  refine jp rfl ?_
  refine jl_q rfl rfl (qIdxS rfl rfl rfl rfl (by omega)) ?_
  refine jl_q rfl rfl (qLd rfl rfl rfl rfl (CM.cj ⟨_, _, _, e1, rfl⟩ _)) ?_
  refine jl_h rfl rfl (hCall rfl rfl rfl rfl rfl (by kernel_rfl) (atoi_spec b0 M1 (hT.mono hM1) (by omega))) ?_; rintro _ _ _ ⟨_, _, rfl, ⟨hme, rfl, hat⟩⟩
  obtain rfl := hme.symm
  rcases hat with ⟨v2, hv, rfl⟩ | ⟨hv, _⟩
  case inr => rw [hnum] at hv; cases hv
  rw [hnum] at hv; cases hv
  simp only [List.nil_append]
  iterate 5 refine jp rfl ?_
  refine jl_nil ?_
  refine jT ?_
  refine jc_seq ?_
  refine jc_seq ?_
  refine jc_draw [(0, true), (1, true), (2, true), (3, true), (4, true), (5, true), (6, true), (7, true), (8, true), (9, true), (10, true), (11, true), (12, true), (13, true), (14, true), (15, true), (16, true), (17, true), (18, true), (19, true), (20, true)] [] (by kernel_rfl) (by kernel_rfl) (by kernel_rfl) rfl (by simp) ?_
  refine dp rfl rfl ?_
  refine jd_q rfl rfl rfl (qEq (qIfNil rfl rfl rfl (by kernel_rfl)) (v' := .bool false) (by rfl)) ?_
  iterate 2 refine dp rfl rfl ?_
  refine jd_q rfl rfl rfl (qIdxS rfl rfl rfl rfl (by omega)) ?_
  refine jd_q rfl rfl rfl (qLd rfl rfl rfl rfl (CM.cj ⟨_, _, _, e1, rfl⟩ _)) ?_
  refine jd_q rfl rfl rfl (qLenStr rfl rfl rfl) ?_
  refine ds rfl rfl (fun h39 => ?_) (fun h39 => ?_)
  · iterate 13 refine dp rfl rfl ?_
    refine jd_nil ?_
    refine jPn ?_
    refine jT ?_
    refine jc_yes rfl ?_
    refine jc_seq ?_
    refine jc_region ?_
    iterate 3 refine jp rfl ?_
    refine jl_nil ?_
    refine jT ?_
    refine jc_ret ?_
    refine jTr ?_
    refine jr3 rfl rfl rfl rfl ?_
    refine PartP.no ?_
    unfold partF; rw [if_pos h64, hsp]; unfold partL; simp only
    rw [if_pos True.intro, hnum]
    simp only
    rw [if_neg (by rintro ⟨h1, _⟩; omega)]
  · iterate 3 refine dp rfl rfl ?_
    refine jd_q rfl rfl rfl (qCall rfl rfl rfl rfl rfl (by kernel_rfl) (itoa_spec v M1 (hT.mono hM1) hv64)) ?_
    refine dp rfl rfl ?_
    refine jd_q rfl rfl rfl (qIdxS rfl rfl rfl rfl (by omega)) ?_
    refine jd_q rfl rfl rfl (qLd rfl rfl rfl rfl (CM.cj ⟨_, _, _, e1, rfl⟩ _)) ?_
    refine jd_qb rfl rfl rfl (qStrNeq rfl rfl rfl rfl) (fun h47 => ?_) (fun h47 => ?_)
    · iterate 5 refine dp rfl rfl ?_
      refine jd_nil ?_
      refine jPn ?_
      refine jT ?_
      refine jc_yes rfl ?_
      refine jc_seq ?_
      refine jc_region ?_
      iterate 3 refine jp rfl ?_
      refine jl_nil ?_
      refine jT ?_
      refine jc_ret ?_
      refine jTr ?_
      refine jr3 rfl rfl rfl rfl ?_
      refine PartP.no ?_
      unfold partF; rw [if_pos h64, hsp]; unfold partL; simp only
      rw [if_pos True.intro, hnum]
      simp only
      rw [if_neg (by rintro ⟨_, h2, _⟩; exact of_decide_eq_true h47 h2)]
    · iterate 3 refine dp rfl rfl ?_
      refine ds rfl rfl (fun h51 => ?_) (fun h51 => ?_)
      · refine dp rfl rfl ?_
        refine jd_nil ?_
        refine jPn ?_
        refine jT ?_
        refine jc_yes rfl ?_
        refine jc_seq ?_
        refine jc_region ?_
        iterate 3 refine jp rfl ?_
        refine jl_nil ?_
        refine jT ?_
        refine jc_ret ?_
        refine jTr ?_
        refine jr3 rfl rfl rfl rfl ?_
        refine PartP.no ?_
        unfold partF; rw [if_pos h64, hsp]; unfold partL; simp only
        rw [if_pos True.intro, hnum]
        simp only
        rw [if_neg (by rintro ⟨_, _, h3, _⟩; omega)]
      · refine dp rfl rfl ?_
        refine jd_nil ?_
        refine jPn ?_
        refine jT ?_
        refine jc_no rfl ?_
        refine jc_skip ?_
        refine jT ?_
        refine jc_seq ?_
        refine jc_seq ?_
        refine jc_region ?_
        refine jp rfl ?_
        refine jl_q rfl rfl (qEq (v' := .slice (slA (some ⟨g, 0, none⟩) 2 (ls.length + 2) 1) ls.length ls.length) (qSl rfl rfl rfl (.no _) (.no _) (.of rfl (by omega) rfl) (by omega) (by simp)) (by congr 1)) ?_
        refine jl_q rfl rfl (qLen rfl rfl rfl) ?_
        refine jp rfl ?_
        refine jl_nil ?_
        refine jT ?_
        refine jc_block ?_
        refine jc_loopK (α := Nat × Mem) (fun y => [(2, .int .i64 v), (5, .slice (some ⟨g, 0, none⟩) (ls.length + 2) (ls.length + 2)), (54, .slice (slA (some ⟨g, 0, none⟩) 2 (ls.length + 2) 1) ls.length ls.length), (55, .int .i64 ls.length), (56, .int .i64 y.1)]) (fun y => y.2) (fun _ => []) (fun y => y.1 ≤ ls.length ∧ MLe M1 y.2 ∧ (ls.take y.1).all okName = true) (fun y => ls.length - y.1)
          (0, M1) (Keep.cons (t := 2) rfl (Keep.cons (t := 5) rfl (Keep.cons (t := 54) rfl (Keep.cons (t := 55) rfl (Keep.cons (t := 56) rfl Keep.nil))))) ⟨Nat.zero_le _, MLe.refl _, rfl⟩ (fun _ h => h) ?_
        rintro ⟨k, Mk⟩ ⟨hk, hMk, hall⟩
        try dsimp only at hk hMk hall ⊢
        refine jc_seq ?_
        refine jc_region ?_
        refine js rfl (fun h57 => ?_) (fun h57 => ?_)
        · refine jl_nil ?_
          refine jT ?_
          refine jc_seq ?_
          refine jc_yes rfl ?_
          refine jc_skip ?_
          refine jT ?_
          refine jc_seq ?_
          refine jc_block ?_
          refine jc_seq ?_
          refine jc_region ?_
          have hk1 : k < ls.length := by omega
          have e54 : (slA (some ⟨g, 0, none⟩) 2 (ls.length + 2) 1) = some ⟨g, 2, none⟩ := slA_some (by omega)
          have hck : CM Mk g (2 + (k : Int).toNat * 1) (.string ls[k]) := (CM.mono · hMk) ⟨_, _, _, e1, by rw [Int.toNat_natCast, Nat.mul_one]; simp [Nat.add_comm 2 k, hk1]⟩
          have hpz : ls[k].size ≤ s.size := split_le (s := s) (by rw [hsp]; simp)
          refine jl_q rfl rfl (qIdxS rfl rfl (by show some (Value.slice _ _ _) = _; rw [e54]) rfl (by omega)) ?_
          refine jl_q rfl rfl (qLd rfl rfl rfl rfl (hck.cj _)) ?_
          refine jp rfl ?_
          refine jl_nil ?_
          refine jT ?_
          refine jc_seq ?_
          refine jc_region ?_
          refine jp rfl ?_
          refine jl_q rfl rfl (qLenStr rfl rfl rfl) ?_
          refine js rfl (fun h62 => ?_) (fun h62 => ?_)
          · iterate 10 refine jp rfl ?_
            refine jl_nil ?_
            refine jT ?_
            refine jc_yes rfl ?_
            refine jc_seq ?_
            refine jc_region ?_
            iterate 3 refine jp rfl ?_
            refine jl_nil ?_
            refine jT ?_
            refine jc_ret ?_
            refine jBr ?_
            refine jTr ?_
            refine jTr ?_
            refine jBr ?_
            refine jTr ?_
            refine jr3 rfl rfl rfl rfl ?_
            refine PartP.no ?_
            unfold partF; rw [if_pos h64, hsp]; unfold partL; simp only
            rw [if_pos True.intro, hnum]
            simp only
            rw [if_neg (by rintro ⟨_, _, _, h4⟩; have := List.all_eq_true.1 h4 ls[k] (List.getElem_mem hk1); unfold okName at this; simp only [Bool.and_eq_true, decide_eq_true_eq, Bool.not_eq_true'] at this; omega)]
          · iterate 2 refine jp rfl ?_
            refine jl_q rfl rfl (qLenStr rfl rfl rfl) ?_
            refine js rfl (fun h66 => ?_) (fun h66 => ?_)
            · iterate 6 refine jp rfl ?_
              refine jl_nil ?_
              refine jT ?_
              refine jc_yes rfl ?_
              refine jc_seq ?_
              refine jc_region ?_
              iterate 3 refine jp rfl ?_
              refine jl_nil ?_
              refine jT ?_
              refine jc_ret ?_
              refine jBr ?_
              refine jTr ?_
              refine jTr ?_
              refine jBr ?_
              refine jTr ?_
              refine jr3 rfl rfl rfl rfl ?_
              refine PartP.no ?_
              unfold partF; rw [if_pos h64, hsp]; unfold partL; simp only
              rw [if_pos True.intro, hnum]
              simp only
              rw [if_neg (by rintro ⟨_, _, _, h4⟩; have := List.all_eq_true.1 h4 ls[k] (List.getElem_mem hk1); unfold okName at this; simp only [Bool.and_eq_true, decide_eq_true_eq, Bool.not_eq_true'] at this; omega)]
            · iterate 3 refine jp rfl ?_
              refine jl_h rfl rfl (hConvBy rfl rfl rfl) ?_; rintro _ _ _ ⟨rfl, bb, bc, ob, rfl, rfl, hbc, cs, fz, rfl, htk⟩
              refine jl_freeze bb (by simp) ?_
              intro M2 hM2 eb
              have hsl : ls[k].data.toList.length = ls[k].size := by rw [Array.length_toList]; rfl
              have hsm : SM M2 (some ⟨bb, 0, none⟩) (bcells ls[k].data.toList) := .inr ⟨bb, 0, rfl, fun i u hu => ⟨_, _, _, eb, by rw [← htk, List.getElem?_take] at hu; split at hu; simpa using hu; cases hu⟩⟩
              refine jl_qb rfl rfl (qCall rfl rfl rfl rfl rfl (by kernel_rfl) (any_spec _ bc _ M2 hsm (by omega))) (fun h71 => ?_) (fun h71 => ?_)
              · refine jp rfl ?_
                refine jl_nil ?_
                refine jT ?_
                refine jc_yes rfl ?_
                refine jc_seq ?_
                refine jc_region ?_
                iterate 3 refine jp rfl ?_
                refine jl_nil ?_
                refine jT ?_
                refine jc_ret ?_
                refine jBr ?_
                refine jTr ?_
                refine jTr ?_
                refine jBr ?_
                refine jTr ?_
                refine jr3 rfl rfl rfl rfl ?_
                refine PartP.no ?_
                unfold partF; rw [if_pos h64, hsp]; unfold partL; simp only
                rw [if_pos True.intro, hnum]
                simp only
                rw [if_neg (by rintro ⟨_, _, _, h4⟩; have := List.all_eq_true.1 h4 ls[k] (List.getElem_mem hk1); unfold okName at this; simp only [Bool.and_eq_true, decide_eq_true_eq, Bool.not_eq_true'] at this; rw [h71] at this; exact absurd this.2 (by simp))]
              · refine jp rfl ?_
                refine jl_nil ?_
                refine jT ?_
                refine jc_no rfl ?_
                refine jc_skip ?_
                refine jB ?_
                refine jT ?_
                refine jc_region ?_
                refine ja rfl (by omega) ?_
                refine jp rfl ?_
                refine jl_nil ?_
                refine j_again (k + 1, M2) (Keep.cons (t := 2) rfl (Keep.cons (t := 5) rfl (Keep.cons (t := 54) rfl (Keep.cons (t := 55) rfl (Keep.cons (t := 56) rfl Keep.nil))))) ⟨by show k + 1 ≤ _; omega, hMk.trans hM2, ?_⟩ (by show ls.length - (k + 1) < ls.length - k; omega) (fun _ h => h)
                show (ls.take (k + 1)).all okName = true
                rw [List.take_succ_eq_append_getElem hk1, List.all_append, hall]
                have : okName ls[k] = true := by unfold okName; rw [h71]; simp only [Bool.not_false, Bool.and_true, Bool.and_eq_true, decide_eq_true_eq]; omega
                simpa using this
        · refine jl_nil ?_
          refine jT ?_
          refine jc_seq ?_
          refine jc_no rfl ?_
          refine jc_exit ?_
          refine jTx ?_
          refine jTx ?_
          refine jBx ?_
          refine jT ?_
          refine jc_seq ?_
          refine jc_draw [(0, true), (1, true), (2, true), (3, true), (4, true), (5, true)] [] (by kernel_rfl) (by kernel_rfl) (by kernel_rfl) rfl (by simp) ?_
          iterate 2 refine dp rfl rfl ?_
          refine jd_q rfl rfl rfl (qEq (v' := .slice (slA (some ⟨g, 0, none⟩) 2 (ls.length + 2) 1) ls.length ls.length) (qSl rfl rfl rfl (.no _) (.no _) (.of rfl (by omega) rfl) (by omega) (by simp)) (by congr 1)) ?_
          iterate 3 refine dp rfl rfl ?_
          refine jd_nil ?_
          refine jPn ?_
          refine jT ?_
          refine jc_ret ?_
          refine jr3 rfl rfl rfl rfl ?_
          obtain rfl : k = ls.length := by omega
          rw [List.take_length] at hall
          have hp : partF s = some (v, ls) := by
            unfold partF; rw [if_pos h64, hsp]; unfold partL; simp only
            rw [if_pos True.intro, hnum]; simp only
            rw [if_pos ⟨by omega, by have := of_decide_eq_false h47; simpa using this, by omega, hall⟩]
          unfold PartP; rw [hp]
          refine ⟨⟨_, _, rfl, ⟨?_, Nat.le_refl _, by show ls.length ≤ 1000000; omega⟩⟩, rfl⟩
          show SM _ _ _
          by_cases h0 : ls.length = 0
          · rw [List.eq_nil_of_length_eq_zero h0]; exact .inl rfl
          · rw [slA_some (by omega)]
            exact .inr ⟨g, 2, rfl, fun i u hu => (CM.mono · hMk) ⟨_, _, _, e1, by simpa [Nat.add_comm 2 i] using hu⟩⟩


theorem numS_in {s : Str} {v : Int} (h : numS s = some v) : InI64 v := by
  unfold numS at h
  split at h
  · rename_i v2 hv2
    cases h
    unfold Lib.atoiAll at hv2
    split at hv2
    · cases hv2
    · simp only at hv2
      split at hv2
      · cases hv2
      · cases hv2
      · split at hv2
        · cases hv2
        · split at hv2
          · cases hv2
          · cases hv2
            rename_i u hu h1 h2
            unfold InI64
            split <;> omega
  · cases h
theorem part_spec (s : Str) (M : Mem) (hT : Tabs M) (hs : s.size ≤ 100000) : SpecL Tryz.prog 11 #[.string s] M [] (PartP s) := by
  by_cases h : s.size ≤ 64 ∧ ∃ b l, splitS s = ⟨#[]⟩ :: b :: l
  · obtain ⟨h64, b0, ls, hsp⟩ := h
    cases hnum : numS b0 with
    | none => exact part_bad s M hT hs h64 b0 ls hsp hnum
    | some v => exact part_ok s M hT hs h64 b0 ls hsp v hnum (numS_in hnum)
  · exact part_pre s M hT hs h


end Go.Proofs.YtdjaehgadehnfaaGreatDoor
