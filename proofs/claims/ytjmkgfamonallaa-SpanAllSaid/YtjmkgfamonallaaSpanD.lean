/- The laws SpanCuts and SpanAll, walked. -/
import Derived.Test.YtjmkgfamonallaaSpanC
namespace Go.Proofs.Ytjmkgfamonallaa
open Go.RowKit

theorem rcut_no0 (a n : Int) (M : Mem) (h : a < 0) :
    SpecL Try.prog 13 #[.int .i64 a, .int .i64 n] M [] fun v _ _ => v = .tuple #[.slice none 0 0, .int .i64 2] := by
  refine spec_body (vs := [_, _]) 25 _ Try.func13 rfl Try.ntmps13 rfl rfl ?_; intro W
  refine jc_seq ?_
  refine jc_region ?_
  iterate 2 refine jp rfl ?_
  refine jl_nil ?_
  refine jT ?_
  refine jc_seq ?_
  refine jc_seq ?_
  refine jc_region ?_
  refine jp rfl ?_
  refine jt rfl (decide_eq_true (by omega)) ?_
  iterate 14 refine jp rfl ?_
  refine jl_nil ?_
  refine jT ?_
  refine jc_yes rfl ?_
  refine jc_seq ?_
  refine jc_region ?_
  iterate 2 refine jp rfl ?_
  refine jl_nil ?_
  refine jT ?_
  refine jc_ret ?_
  refine jTr ?_
  refine jr2 rfl rfl rfl ?_
  rfl

theorem rcut_no1 (a n : Int) (M : Mem) (h : 4096 < a) :
    SpecL Try.prog 13 #[.int .i64 a, .int .i64 n] M [] fun v _ _ => v = .tuple #[.slice none 0 0, .int .i64 2] := by
  refine spec_body (vs := [_, _]) 25 _ Try.func13 rfl Try.ntmps13 rfl rfl ?_; intro W
  refine jc_seq ?_
  refine jc_region ?_
  iterate 2 refine jp rfl ?_
  refine jl_nil ?_
  refine jT ?_
  refine jc_seq ?_
  refine jc_seq ?_
  refine jc_region ?_
  refine jp rfl ?_
  refine jf rfl (decide_eq_false (by omega)) ?_
  iterate 2 refine jp rfl ?_
  refine jt rfl (decide_eq_true (by omega)) ?_
  iterate 11 refine jp rfl ?_
  refine jl_nil ?_
  refine jT ?_
  refine jc_yes rfl ?_
  refine jc_seq ?_
  refine jc_region ?_
  iterate 2 refine jp rfl ?_
  refine jl_nil ?_
  refine jT ?_
  refine jc_ret ?_
  refine jTr ?_
  refine jr2 rfl rfl rfl ?_
  rfl

theorem rcut_no2 (a n : Int) (M : Mem) (h : 0 ≤ a ∧ a ≤ 4096 ∧ n < 0) :
    SpecL Try.prog 13 #[.int .i64 a, .int .i64 n] M [] fun v _ _ => v = .tuple #[.slice none 0 0, .int .i64 2] := by
  refine spec_body (vs := [_, _]) 25 _ Try.func13 rfl Try.ntmps13 rfl rfl ?_; intro W
  refine jc_seq ?_
  refine jc_region ?_
  iterate 2 refine jp rfl ?_
  refine jl_nil ?_
  refine jT ?_
  refine jc_seq ?_
  refine jc_seq ?_
  refine jc_region ?_
  refine jp rfl ?_
  refine jf rfl (decide_eq_false (by omega)) ?_
  iterate 2 refine jp rfl ?_
  refine jf rfl (decide_eq_false (by omega)) ?_
  iterate 3 refine jp rfl ?_
  refine jt rfl (decide_eq_true (by omega)) ?_
  iterate 7 refine jp rfl ?_
  refine jl_nil ?_
  refine jT ?_
  refine jc_yes rfl ?_
  refine jc_seq ?_
  refine jc_region ?_
  iterate 2 refine jp rfl ?_
  refine jl_nil ?_
  refine jT ?_
  refine jc_ret ?_
  refine jTr ?_
  refine jr2 rfl rfl rfl ?_
  rfl

theorem rcut_no3 (a n : Int) (M : Mem) (h : 0 ≤ a ∧ a ≤ 4096 ∧ 4096 - a < n) :
    SpecL Try.prog 13 #[.int .i64 a, .int .i64 n] M [] fun v _ _ => v = .tuple #[.slice none 0 0, .int .i64 2] := by
  refine spec_body (vs := [_, _]) 25 _ Try.func13 rfl Try.ntmps13 rfl rfl ?_; intro W
  refine jc_seq ?_
  refine jc_region ?_
  iterate 2 refine jp rfl ?_
  refine jl_nil ?_
  refine jT ?_
  refine jc_seq ?_
  refine jc_seq ?_
  refine jc_region ?_
  refine jp rfl ?_
  refine jf rfl (decide_eq_false (by omega)) ?_
  iterate 2 refine jp rfl ?_
  refine jf rfl (decide_eq_false (by omega)) ?_
  iterate 3 refine jp rfl ?_
  refine jf rfl (decide_eq_false (by omega)) ?_
  iterate 4 refine jp rfl ?_
  refine ja rfl (by omega) ?_
  refine jt rfl (decide_eq_true (by omega)) ?_
  refine jp rfl ?_
  refine jl_nil ?_
  refine jT ?_
  refine jc_yes rfl ?_
  refine jc_seq ?_
  refine jc_region ?_
  iterate 2 refine jp rfl ?_
  refine jl_nil ?_
  refine jT ?_
  refine jc_ret ?_
  refine jTr ?_
  refine jr2 rfl rfl rfl ?_
  rfl

theorem rcut_ok (a n : Int) (M : Mem) (hc : cutOk a n) :
    SpecL Try.prog 13 #[.int .i64 a, .int .i64 n] M [] fun v _ L' => ∃ s, v = .tuple #[s, .int .i64 0] ∧ Own s L' PT 3 (cutTo a n 32).length ((cutTo a n 32).flatMap pcells) := by
  have hc' := hc
  obtain ⟨h1, h2, h3, h4⟩ := hc'
  refine spec_body (vs := [_, _]) 25 _ Try.func13 rfl Try.ntmps13 rfl rfl ?_; intro W
  refine jc_seq ?_
  refine jc_region ?_
  iterate 2 refine jp rfl ?_
  refine jl_nil ?_
  refine jT ?_
  refine jc_seq ?_
  refine jc_seq ?_
  refine jc_region ?_
  refine jp rfl ?_
  refine jf rfl (decide_eq_false (by omega)) ?_
  iterate 2 refine jp rfl ?_
  refine jf rfl (decide_eq_false (by omega)) ?_
  iterate 3 refine jp rfl ?_
  refine jf rfl (decide_eq_false (by omega)) ?_
  iterate 4 refine jp rfl ?_
  refine ja rfl (by omega) ?_
  refine jf rfl (decide_eq_false (by omega)) ?_
  refine jp rfl ?_
  refine jl_nil ?_
  refine jT ?_
  refine jc_no rfl ?_
  refine jc_skip ?_
  refine jT ?_
  refine jc_seq ?_
  refine jc_region ?_
  iterate 2 refine jp rfl ?_
  refine jl_h rfl rfl (hCall rfl rfl rfl rfl rfl (by kernel_rfl) (pieces_spec a n M hc)) ?_; rintro _ _ _ ⟨_, _, rfl, hown⟩
  iterate 2 refine jp rfl ?_
  refine jl_nil ?_
  refine jT ?_
  refine jc_ret ?_
  refine jr2 rfl rfl rfl ?_
  exact ⟨_, rfl, by simpa using hown⟩


theorem rcut_any (a n : Int) (M : Mem) : SpecL Try.prog 13 #[.int .i64 a, .int .i64 n] M [] fun v _ L' => ∃ s, v = .tuple #[s, .int .i64 (cutE a n)] ∧ Own s L' PT 3 (cutL a n).length ((cutL a n).flatMap pcells) := by
  unfold cutE cutL
  by_cases h : cutOk a n
  · rw [if_pos h, if_pos h]; exact rcut_ok a n M h
  · rw [if_neg h, if_neg h]
    unfold cutOk at h
    have k : SpecL Try.prog 13 #[.int .i64 a, .int .i64 n] M [] fun v _ _ => v = .tuple #[.slice none 0 0, .int .i64 2] := by
      by_cases h1 : a < 0
      · exact rcut_no0 a n M h1
      by_cases h2 : 4096 < a
      · exact rcut_no1 a n M h2
      by_cases h3 : n < 0
      · exact rcut_no2 a n M (by omega)
      · exact rcut_no3 a n M (by omega)
    intro w hw
    refine (k w hw).mono fun e w' hh => ?_
    obtain ⟨v, M', L', h1, h2, h3⟩ := hh
    exact ⟨v, M', [], h1, ⟨_, h2, Own.nil _ _⟩, h3.fewer (by simp)⟩

theorem spanCuts_spec (a n : Int) (p : Pc) (M : Mem) :
    SpecL Try.prog 4 #[.int .i64 a, .int .i64 n, .agg (pcells p).toArray] M [] fun v _ _ => v = .bool true := by
  refine spec_body (vs := [_, _, _]) 62 _ Try.func4 rfl Try.ntmps4 rfl rfl ?_; intro W
  refine jc_seq ?_
  refine jc_region ?_
  refine jl_h rfl rfl (hBox rfl rfl rfl rfl) ?_; rintro _ _ _ ⟨b5, rfl, rfl, rfl⟩
  refine jp rfl ?_
  refine jl_nil ?_
  refine jT ?_
  refine jc_seq ?_
  refine jc_region ?_
  iterate 2 refine jp rfl ?_
  refine jl_h rfl rfl (hCall rfl rfl rfl rfl rfl (by kernel_rfl) (cut_any a n M)) ?_; rintro _ _ _ ⟨_, _, rfl, ⟨s, rfl, hown⟩⟩
  refine jl_own hown (by simp) ?_
  intro M1 a1 c1 hM1 e1 hc1 hs1; subst e1
  iterate 5 refine jp rfl ?_
  refine jl_nil ?_
  refine jT ?_
  refine jc_seq ?_
  refine jc_region ?_
  iterate 2 refine jp rfl ?_
  refine jl_h rfl rfl (hCall rfl rfl rfl rfl rfl (by kernel_rfl) (rcut_any a n M1)) ?_; rintro _ _ _ ⟨_, _, rfl, ⟨s, rfl, hown2⟩⟩
  refine jl_own hown2 (by simp) ?_
  intro M2 a2 c2 hM2 e2 hc2 hs2; subst e2
  have hl := cutL_len a n
  iterate 5 refine jp rfl ?_
  refine jl_nil ?_
  refine jT ?_
  refine jc_seq ?_
  refine jc_region ?_
  refine jp rfl ?_
  refine jl_q rfl rfl (qCall rfl rfl rfl rfl rfl (by kernel_rfl) (many_any n M2)) ?_
  iterate 5 refine jp rfl ?_
  refine jl_nil ?_
  refine jT ?_
  refine jc_seq ?_
  refine jc_region ?_
  refine jp rfl ?_
  refine jl_q rfl rfl (qCall rfl rfl rfl rfl rfl (by kernel_rfl) (rmany_any n M2)) ?_
  iterate 5 refine jp rfl ?_
  refine jl_nil ?_
  refine jT ?_
  refine jc_seq ?_
  refine jc_draw [(0, true), (1, true), (2, true), (3, true), (4, true), (5, true), (6, true), (7, true), (8, true), (9, true), (10, true), (11, true), (12, true), (13, true), (14, true), (15, true), (16, true), (17, true), (18, true), (19, true), (20, true), (21, true), (22, true), (23, true), (24, true), (25, true)] _ (by kernel_rfl) (by kernel_rfl) (by kernel_rfl) rfl (fun _ h => h) ?_
  iterate 2 refine dp rfl rfl ?_
  refine jd_q rfl rfl rfl (qCall rfl rfl rfl rfl rfl (by kernel_rfl) (by have := same_spec (cutL a n) (cutL a n) a1 a2 c1 c2 M2 ((hs1.mono (by assumption)).mono hM2) hs2 (by omega); simpa using this)) ?_
  iterate 3 refine dp rfl rfl ?_
  refine dt rfl rfl (decide_eq_true (by omega)) ?_
  iterate 4 refine dp rfl rfl ?_
  refine dt rfl rfl (decide_eq_true (by omega)) ?_
  iterate 4 refine dp rfl rfl ?_
  refine dt rfl rfl (decide_eq_true (by omega)) ?_
  iterate 2 refine dp rfl rfl ?_
  refine jd_q rfl rfl rfl (qLdA (cs := pcells p) rfl rfl rfl rfl rfl (fun i v hv => CJ.loc (by simpa [pcells] using hv))) ?_
  refine jd_q rfl rfl rfl (qCall rfl rfl rfl rfl rfl (by kernel_rfl) (check_spec p M2)) ?_
  refine jd_q rfl rfl rfl (qLdA (cs := pcells p) rfl rfl rfl rfl rfl (fun i v hv => CJ.loc (by simpa [pcells] using hv))) ?_
  refine jd_q rfl rfl rfl (qCall rfl rfl rfl rfl rfl (by kernel_rfl) (rcheck_spec p M2)) ?_
  iterate 3 refine dp rfl rfl ?_
  refine jd_nil ?_
  refine jPn ?_
  refine jT ?_
  refine jc_ret ?_
  refine jr1 rfl rfl ?_
  simp


/-! the pieces, one by one -/
def blk (a : Int) (j : Nat) : Int := a / 128 + j
def frm (a : Int) (j : Nat) : Int := max (a - (a / 128 + j) * 128) 0
def too (a n : Int) (j : Nat) : Int := min (a + n - (a / 128 + j) * 128) 128
def pz (a n : Int) (j : Nat) : Pc := (blk a j, frm a j, too a n j)
def cnt (a n : Int) (K : Nat) : Nat := if 0 < n then (min (K : Int) ((a + n + 127) / 128) - a / 128).toNat else 0
theorem cut_list (a n : Int) (h0 : 0 ≤ a) (hn : 0 ≤ n) : ∀ K : Nat, cutTo a n K = (List.range (cnt a n K)).map (pz a n)
  | 0 => by
    have : cnt a n 0 = 0 := by unfold cnt; split <;> omega
    rw [this]; rfl
  | K + 1 => by
    rw [cutTo, cut_list a n h0 hn K]
    unfold cutAt
    split
    · rename_i h
      have e1 : cnt a n (K + 1) = cnt a n K + 1 := by unfold cnt; split <;> omega
      have e2 : (K : Int) = a / 128 + (cnt a n K : Nat) := by unfold cnt; split <;> omega
      rw [e1, List.range_succ, List.map_append]
      congr 1
      simp only [List.map_cons, List.map_nil, List.cons.injEq, and_true]
      unfold pz blk frm too
      rw [← e2]
    · rename_i h
      have e1 : cnt a n (K + 1) = cnt a n K := by unfold cnt; split <;> omega
      rw [e1, List.append_nil]
theorem cut_get {a n : Int} (h0 : 0 ≤ a) (hn : 0 ≤ n) {k : Nat} (hk : k < (cutTo a n 32).length) : (cutTo a n 32)[k]? = some (pz a n k) := by
  have h := cut_list a n h0 hn 32
  have hl : (cutTo a n 32).length = cnt a n 32 := by rw [h]; simp
  rw [hl] at hk
  rw [h]; simp [hk]
theorem cut_count {a n : Int} (h0 : 0 ≤ a) (hn : 0 ≤ n) (h : a + n ≤ 4096) : (cutTo a n 32).length = if 0 < n then ((a + n + 127) / 128 - a / 128).toNat else 0 := by
  rw [cut_list a n h0 hn 32]; simp only [List.length_map, List.length_range]; unfold cnt; split <;> omega
def nx (a n : Int) (k : Nat) : Int := max a (min ((a / 128 + k) * 128) (a + n))
def lst (a n : Int) : Nat := (cutTo a n 32).length
theorem nx_zero (a n : Int) (hn : 0 ≤ n) : nx a n 0 = a := by unfold nx; omega
theorem lst_facts {a n : Int} (h0 : 0 ≤ a) (hn : 0 ≤ n) (h : a + n ≤ 4096) : lst a n ≤ 32 ∧ (0 < n → (lst a n : Int) = (a + n + 127) / 128 - a / 128 ∧ 1 ≤ lst a n) ∧ (n = 0 → lst a n = 0) ∧ nx a n (lst a n) = a + n := by
  have h1 := cut_count h0 hn h
  have h2 := cut_len a n 32
  unfold lst nx
  generalize (cutTo a n 32).length = L at *
  split at h1 <;> omega
theorem pz_facts {a n : Int} (h0 : 0 ≤ a) (hn : 0 ≤ n) (h : a + n ≤ 4096) {k : Nat} (hk : k < lst a n) :
    (0 ≤ frm a k ∧ frm a k < too a n k ∧ too a n k ≤ 128 ∧ 0 ≤ blk a k ∧ blk a k ≤ 32) ∧ blk a k * 128 + frm a k = nx a n k ∧ (0 < k → frm a k = 0) ∧ (k + 1 < lst a n → too a n k = 128) ∧ nx a n k + (too a n k - frm a k) = nx a n (k + 1) ∧ (0 ≤ nx a n k ∧ nx a n k ≤ 4096) ∧ (k + 1 = lst a n → blk a k = (a + n + 127) / 128 - 1) := by
  have h1 := lst_facts h0 hn h
  have h2 : 0 < n := by omega
  have h3 := h1.2.1 h2
  clear h1
  unfold blk frm too nx
  generalize lst a n = L at *
  refine ⟨⟨?_, ?_, ?_, ?_, ?_⟩, ?_, ?_, ?_, ?_, ⟨?_, ?_⟩, ?_⟩ <;> omega
theorem lst_eq (a n : Int) : (cutTo a n 32).length = lst a n := rfl
theorem cut_at {a n : Int} (h0 : 0 ≤ a) (hn : 0 ≤ n) {k : Nat} (hk : k < lst a n) : (cutTo a n 32)[k]? = some (pz a n k) := cut_get h0 hn hk
theorem pz_chk {a n : Int} (h0 : 0 ≤ a) (hn : 0 ≤ n) (h : a + n ≤ 4096) {k : Nat} (hk : k < lst a n) : chk (pz a n k) = 0 := by
  symm; apply chk_ok
  unfold pz blk frm too
  have h1 := lst_facts h0 hn h
  have h2 : 0 < n := by omega
  have h3 := h1.2.1 h2
  clear h1
  generalize lst a n = L at *
  dsimp only; omega
attribute [local irreducible] lst nx frm too blk

theorem spanAll_no (a n : Int) (M : Mem) (h : ¬ cutOk a n) :
    SpecL Try.prog 5 #[.int .i64 a, .int .i64 n] M [] fun v _ _ => v = .bool true := by
  have hE : cutE a n = 2 := if_neg h
  have hL : cutL a n = [] := if_neg h
  refine spec_body (vs := [_, _]) 140 _ Try.func5 rfl Try.ntmps5 rfl rfl ?_; intro W
  refine jc_seq ?_
  refine jc_region ?_
  refine jp rfl ?_
  refine jl_nil ?_
  refine jT ?_
  refine jc_seq ?_
  refine jc_region ?_
  refine jl_q rfl rfl (qCall rfl rfl rfl rfl rfl (by kernel_rfl) (alive_spec _)) ?_
  refine jp rfl ?_
  refine jl_nil ?_
  refine jT ?_
  refine jc_seq ?_
  refine jc_region ?_
  iterate 2 refine jp rfl ?_
  refine jl_h rfl rfl (hCall rfl rfl rfl rfl rfl (by kernel_rfl) (cut_any a n M)) ?_; rintro _ _ _ ⟨_, _, rfl, ⟨s, rfl, hown⟩⟩
  refine jl_own hown (by simp) ?_
  intro M1 a1 c1 hM1 e1 hc1 hs1; subst e1
  iterate 5 refine jp rfl ?_
  refine jl_nil ?_
  refine jT ?_
  refine jc_seq ?_
  refine jc_seq ?_
  refine jc_region ?_
  refine jp rfl ?_
  refine jt rfl (decide_eq_true (by omega)) ?_
  iterate 4 refine jp rfl ?_
  refine jl_nil ?_
  refine jT ?_
  refine jc_yes rfl ?_
  refine jc_seq ?_
  refine jc_region ?_
  iterate 3 refine jp rfl ?_
  refine jl_q rfl rfl (qLen rfl rfl rfl) ?_
  iterate 3 refine jp rfl ?_
  refine jl_nil ?_
  refine jT ?_
  refine jc_ret ?_
  refine jTr ?_
  refine jr1 rfl rfl ?_
  rw [hL]; rfl

set_option maxHeartbeats 400000 in
theorem spanAll_ok (a n : Int) (M : Mem) (h0 : 0 ≤ a) (hn0 : 0 ≤ n) (h2 : a ≤ 4096) (h4 : n ≤ 4096 - a) :
    SpecL Try.prog 5 #[.int .i64 a, .int .i64 n] M [] fun v _ _ => v = .bool true := by
  refine spec_body (vs := [_, _]) 140 _ Try.func5 rfl Try.ntmps5 rfl rfl ?_; intro W
  refine jc_seq ?_
  refine jc_region ?_
  refine jp rfl ?_
  refine jl_nil ?_
  refine jT ?_
  refine jc_seq ?_
  refine jc_region ?_
  refine jl_q rfl rfl (qCall rfl rfl rfl rfl rfl (by kernel_rfl) (alive_spec _)) ?_
  refine jp rfl ?_
  refine jl_nil ?_
  refine jT ?_
  refine jc_seq ?_
  refine jc_region ?_
  iterate 2 refine jp rfl ?_
  refine jl_h rfl rfl (hCall rfl rfl rfl rfl rfl (by kernel_rfl) (cut_ok a n M h0 h2 hn0 h4)) ?_; rintro _ _ _ ⟨_, _, rfl, ⟨s, rfl, hown⟩⟩
  rw [lst_eq] at hown
  refine jl_own hown (by simp) ?_
  intro M1 a1 c1 hM1 e1 hc1 hs1; subst e1
  obtain ⟨l1, l2, l3, l4⟩ := lst_facts h0 hn0 (show a + n ≤ 4096 by omega)
  iterate 5 refine jp rfl ?_
  refine jl_nil ?_
  refine jT ?_
  refine jc_seq ?_
  refine jc_seq ?_
  refine jc_region ?_
  refine jp rfl ?_
  refine jf rfl (decide_eq_false (by omega)) ?_
  iterate 4 refine jp rfl ?_
  refine jl_nil ?_
  refine jT ?_
  refine jc_no rfl ?_
  refine jc_skip ?_
  refine jT ?_
  refine jc_seq ?_
  refine jc_region ?_
  iterate 2 refine jp rfl ?_
  refine jl_nil ?_
  refine jT ?_
  refine jc_seq ?_
  refine jc_seq ?_
  refine jc_region ?_
  refine jp rfl ?_
  refine jl_nil ?_
  refine jT ?_
  refine jc_block ?_
  refine jc_loopK (α := Nat) (fun k => [(0, .int .i64 a), (1, .int .i64 n), (6, .slice a1 (lst a n) c1), (8, .int .i64 (nx a n k)), (9, .int .i64 k)]) (fun _ => M1) (fun _ => []) (fun k => k ≤ lst a n) (fun k => lst a n - k)
    0 (Keep.cons (t := 0) rfl (Keep.cons (t := 1) rfl (Keep.cons (t := 6) rfl (Keep.ceq (t := 8) rfl (congrArg _ (nx_zero a n hn0).symm) (Keep.cons (t := 9) rfl Keep.nil))))) (Nat.zero_le _) (fun _ h => h) ?_
  rintro k hk
  try dsimp only at hk ⊢
  refine jc_seq ?_
  refine jc_seq ?_
  refine jc_region ?_
  iterate 2 refine jp rfl ?_
  refine jl_q rfl rfl (qLen rfl rfl rfl) ?_
  refine js rfl (fun hlt => ?_) (fun hlt => ?_)
  · refine jl_nil ?_
    refine jT ?_
    refine jc_yes rfl ?_
    refine jc_skip ?_
    refine jT ?_
    refine jc_seq ?_
    refine jc_block ?_
    refine jc_seq ?_
    refine jc_seq ?_
    refine jc_draw [(0, true), (1, true), (2, true), (3, true), (4, true), (5, true), (6, true), (7, true), (8, true), (9, true), (10, true), (11, true), (12, true), (13, true), (14, true), (15, true), (16, true), (17, true), (18, true), (19, true), (20, true), (21, true), (22, true), (23, true), (24, true), (25, true), (26, true), (27, true), (28, true), (29, true), (30, true), (31, true), (32, true), (33, true), (34, true), (35, true), (36, true), (37, true), (38, true), (39, true), (40, true), (41, true), (42, true), (43, true), (44, true), (45, true), (46, true), (47, true), (48, true)] _ (by kernel_rfl) (by kernel_rfl) (by kernel_rfl) rfl (fun _ h => h) ?_
    iterate 2 refine dp rfl rfl ?_
    obtain ⟨b1, o1, e1, g1⟩ := hs1.open (by intro e; have := congrArg List.length e; rw [flat_len pcells 3 pcells_len] at this; rw [lst_eq, List.length_nil] at this; omega)
    subst e1
    have hk1 : k < lst a n := by omega
    have hgk := cut_at h0 hn0 hk1
    have hck := pz_chk h0 hn0 (by omega) hk1
    obtain ⟨⟨f1, f2, f3, f4, f5⟩, f6, f7, f8, f9, ⟨f10, f11⟩, f12⟩ := pz_facts h0 hn0 (by omega) hk1
    refine jd_q rfl rfl rfl (qIdxS rfl rfl rfl rfl (by omega)) ?_
    refine jd_q rfl rfl rfl (qLdA (cs := pcells (pz a n k)) rfl rfl rfl rfl rfl (fun i v hv => (flat_cm pcells 3 pcells_len g1 hgk i v hv).cj _)) ?_
    refine jd_q rfl rfl rfl (qCall rfl rfl rfl rfl rfl (by kernel_rfl) (check_spec (pz a n k) M1)) ?_
    refine df rfl rfl (decide_eq_false (by omega)) ?_
    iterate 3 refine dp rfl rfl ?_
    refine jd_q rfl rfl rfl (qIdxS rfl rfl rfl rfl (by omega)) ?_
    refine jd_q rfl rfl rfl (qFieldAddr rfl rfl rfl rfl rfl) ?_
    refine jd_q rfl rfl rfl (qEq (qLd rfl rfl rfl rfl ((flat_cm pcells 3 pcells_len g1 hgk 0 _ rfl).cj _)) (v' := .int .i64 (blk a k)) rfl) ?_
    refine da rfl rfl (by omega) ?_
    iterate 2 refine dp rfl rfl ?_
    refine jd_q rfl rfl rfl (qIdxS rfl rfl rfl rfl (by omega)) ?_
    refine jd_q rfl rfl rfl (qFieldAddr rfl rfl rfl rfl rfl) ?_
    refine jd_q rfl rfl rfl (qEq (qLd rfl rfl rfl rfl ((flat_cm pcells 3 pcells_len g1 hgk 1 _ rfl).cj _)) (v' := .int .i64 (frm a k)) rfl) ?_
    refine da rfl rfl (by omega) ?_
    refine dp rfl rfl ?_
    refine df rfl rfl (decide_eq_false (by omega)) ?_
    iterate 3 refine dp rfl rfl ?_
    refine ds rfl rfl (fun hk0 => ?_) (fun hk0 => ?_)
    · iterate 3 refine dp rfl rfl ?_
      refine jd_q rfl rfl rfl (qIdxS rfl rfl rfl rfl (by omega)) ?_
      refine jd_q rfl rfl rfl (qFieldAddr rfl rfl rfl rfl rfl) ?_
      refine jd_q rfl rfl rfl (qEq (qLd rfl rfl rfl rfl ((flat_cm pcells 3 pcells_len g1 hgk 1 _ rfl).cj _)) (v' := .int .i64 (frm a k)) rfl) ?_
      refine df rfl rfl (decide_eq_false (by omega)) ?_
      iterate 4 refine dp rfl rfl ?_
      refine da rfl rfl (by omega) ?_
      refine dp rfl rfl ?_
      refine jd_q rfl rfl rfl (qLen rfl rfl rfl) ?_
      refine ds rfl rfl (fun hkl => ?_) (fun hkl => ?_)
      · iterate 3 refine dp rfl rfl ?_
        refine jd_q rfl rfl rfl (qIdxS rfl rfl rfl rfl (by omega)) ?_
        refine jd_q rfl rfl rfl (qFieldAddr rfl rfl rfl rfl rfl) ?_
        refine jd_q rfl rfl rfl (qEq (qLd rfl rfl rfl rfl ((flat_cm pcells 3 pcells_len g1 hgk 2 _ rfl).cj _)) (v' := .int .i64 (too a n k)) rfl) ?_
        refine df rfl rfl (decide_eq_false (by omega)) ?_
        iterate 2 refine dp rfl rfl ?_
        refine jd_nil ?_
        refine jPn ?_
        refine jT ?_
        refine jc_no rfl ?_
        refine jc_skip ?_
        refine jT ?_
        refine jc_draw [(0, true), (1, true), (2, true), (3, true), (4, true), (5, true), (6, true), (7, true), (8, true), (9, true), (10, true), (11, true), (12, true), (13, true)] _ (by kernel_rfl) (by kernel_rfl) (by kernel_rfl) rfl (fun _ h => h) ?_
        iterate 3 refine dp rfl rfl ?_
        refine jd_q rfl rfl rfl (qIdxS rfl rfl rfl rfl (by omega)) ?_
        refine jd_q rfl rfl rfl (qFieldAddr rfl rfl rfl rfl rfl) ?_
        refine jd_q rfl rfl rfl (qEq (qLd rfl rfl rfl rfl ((flat_cm pcells 3 pcells_len g1 hgk 2 _ rfl).cj _)) (v' := .int .i64 (too a n k)) rfl) ?_
        iterate 2 refine dp rfl rfl ?_
        refine jd_q rfl rfl rfl (qIdxS rfl rfl rfl rfl (by omega)) ?_
        refine jd_q rfl rfl rfl (qFieldAddr rfl rfl rfl rfl rfl) ?_
        refine jd_q rfl rfl rfl (qEq (qLd rfl rfl rfl rfl ((flat_cm pcells 3 pcells_len g1 hgk 1 _ rfl).cj _)) (v' := .int .i64 (frm a k)) rfl) ?_
        refine da rfl rfl (by omega) ?_
        refine jd_q rfl rfl rfl (qEq (qA rfl rfl rfl rfl rfl (by omega)) (v' := .int .i64 (nx a n (k + 1))) (congrArg _ (by omega))) ?_
        refine dp rfl rfl ?_
        refine jd_nil ?_
        refine jPn ?_
        refine jB ?_
        refine jT ?_
        refine jc_region ?_
        refine jp rfl ?_
        refine ja rfl (by omega) ?_
        refine jp rfl ?_
        refine jl_nil ?_
        refine j_again (k + 1) (Keep.cons (t := 0) rfl (Keep.cons (t := 1) rfl (Keep.cons (t := 6) rfl (Keep.cons (t := 8) rfl (Keep.cons (t := 9) rfl Keep.nil))))) (by omega) (by omega) (fun _ h => h)
      · iterate 9 refine dp rfl rfl ?_
        refine jd_nil ?_
        refine jPn ?_
        refine jT ?_
        refine jc_no rfl ?_
        refine jc_skip ?_
        refine jT ?_
        refine jc_draw [(0, true), (1, true), (2, true), (3, true), (4, true), (5, true), (6, true), (7, true), (8, true), (9, true), (10, true), (11, true), (12, true), (13, true)] _ (by kernel_rfl) (by kernel_rfl) (by kernel_rfl) rfl (fun _ h => h) ?_
        iterate 3 refine dp rfl rfl ?_
        refine jd_q rfl rfl rfl (qIdxS rfl rfl rfl rfl (by omega)) ?_
        refine jd_q rfl rfl rfl (qFieldAddr rfl rfl rfl rfl rfl) ?_
        refine jd_q rfl rfl rfl (qEq (qLd rfl rfl rfl rfl ((flat_cm pcells 3 pcells_len g1 hgk 2 _ rfl).cj _)) (v' := .int .i64 (too a n k)) rfl) ?_
        iterate 2 refine dp rfl rfl ?_
        refine jd_q rfl rfl rfl (qIdxS rfl rfl rfl rfl (by omega)) ?_
        refine jd_q rfl rfl rfl (qFieldAddr rfl rfl rfl rfl rfl) ?_
        refine jd_q rfl rfl rfl (qEq (qLd rfl rfl rfl rfl ((flat_cm pcells 3 pcells_len g1 hgk 1 _ rfl).cj _)) (v' := .int .i64 (frm a k)) rfl) ?_
        refine da rfl rfl (by omega) ?_
        refine jd_q rfl rfl rfl (qEq (qA rfl rfl rfl rfl rfl (by omega)) (v' := .int .i64 (nx a n (k + 1))) (congrArg _ (by omega))) ?_
        refine dp rfl rfl ?_
        refine jd_nil ?_
        refine jPn ?_
        refine jB ?_
        refine jT ?_
        refine jc_region ?_
        refine jp rfl ?_
        refine ja rfl (by omega) ?_
        refine jp rfl ?_
        refine jl_nil ?_
        refine j_again (k + 1) (Keep.cons (t := 0) rfl (Keep.cons (t := 1) rfl (Keep.cons (t := 6) rfl (Keep.cons (t := 8) rfl (Keep.cons (t := 9) rfl Keep.nil))))) (by omega) (by omega) (fun _ h => h)
    · iterate 11 refine dp rfl rfl ?_
      refine da rfl rfl (by omega) ?_
      refine dp rfl rfl ?_
      refine jd_q rfl rfl rfl (qLen rfl rfl rfl) ?_
      refine ds rfl rfl (fun hkl => ?_) (fun hkl => ?_)
      · iterate 3 refine dp rfl rfl ?_
        refine jd_q rfl rfl rfl (qIdxS rfl rfl rfl rfl (by omega)) ?_
        refine jd_q rfl rfl rfl (qFieldAddr rfl rfl rfl rfl rfl) ?_
        refine jd_q rfl rfl rfl (qEq (qLd rfl rfl rfl rfl ((flat_cm pcells 3 pcells_len g1 hgk 2 _ rfl).cj _)) (v' := .int .i64 (too a n k)) rfl) ?_
        refine df rfl rfl (decide_eq_false (by omega)) ?_
        iterate 2 refine dp rfl rfl ?_
        refine jd_nil ?_
        refine jPn ?_
        refine jT ?_
        refine jc_no rfl ?_
        refine jc_skip ?_
        refine jT ?_
        refine jc_draw [(0, true), (1, true), (2, true), (3, true), (4, true), (5, true), (6, true), (7, true), (8, true), (9, true), (10, true), (11, true), (12, true), (13, true)] _ (by kernel_rfl) (by kernel_rfl) (by kernel_rfl) rfl (fun _ h => h) ?_
        iterate 3 refine dp rfl rfl ?_
        refine jd_q rfl rfl rfl (qIdxS rfl rfl rfl rfl (by omega)) ?_
        refine jd_q rfl rfl rfl (qFieldAddr rfl rfl rfl rfl rfl) ?_
        refine jd_q rfl rfl rfl (qEq (qLd rfl rfl rfl rfl ((flat_cm pcells 3 pcells_len g1 hgk 2 _ rfl).cj _)) (v' := .int .i64 (too a n k)) rfl) ?_
        iterate 2 refine dp rfl rfl ?_
        refine jd_q rfl rfl rfl (qIdxS rfl rfl rfl rfl (by omega)) ?_
        refine jd_q rfl rfl rfl (qFieldAddr rfl rfl rfl rfl rfl) ?_
        refine jd_q rfl rfl rfl (qEq (qLd rfl rfl rfl rfl ((flat_cm pcells 3 pcells_len g1 hgk 1 _ rfl).cj _)) (v' := .int .i64 (frm a k)) rfl) ?_
        refine da rfl rfl (by omega) ?_
        refine jd_q rfl rfl rfl (qEq (qA rfl rfl rfl rfl rfl (by omega)) (v' := .int .i64 (nx a n (k + 1))) (congrArg _ (by omega))) ?_
        refine dp rfl rfl ?_
        refine jd_nil ?_
        refine jPn ?_
        refine jB ?_
        refine jT ?_
        refine jc_region ?_
        refine jp rfl ?_
        refine ja rfl (by omega) ?_
        refine jp rfl ?_
        refine jl_nil ?_
        refine j_again (k + 1) (Keep.cons (t := 0) rfl (Keep.cons (t := 1) rfl (Keep.cons (t := 6) rfl (Keep.cons (t := 8) rfl (Keep.cons (t := 9) rfl Keep.nil))))) (by omega) (by omega) (fun _ h => h)
      · iterate 9 refine dp rfl rfl ?_
        refine jd_nil ?_
        refine jPn ?_
        refine jT ?_
        refine jc_no rfl ?_
        refine jc_skip ?_
        refine jT ?_
        refine jc_draw [(0, true), (1, true), (2, true), (3, true), (4, true), (5, true), (6, true), (7, true), (8, true), (9, true), (10, true), (11, true), (12, true), (13, true)] _ (by kernel_rfl) (by kernel_rfl) (by kernel_rfl) rfl (fun _ h => h) ?_
        iterate 3 refine dp rfl rfl ?_
        refine jd_q rfl rfl rfl (qIdxS rfl rfl rfl rfl (by omega)) ?_
        refine jd_q rfl rfl rfl (qFieldAddr rfl rfl rfl rfl rfl) ?_
        refine jd_q rfl rfl rfl (qEq (qLd rfl rfl rfl rfl ((flat_cm pcells 3 pcells_len g1 hgk 2 _ rfl).cj _)) (v' := .int .i64 (too a n k)) rfl) ?_
        iterate 2 refine dp rfl rfl ?_
        refine jd_q rfl rfl rfl (qIdxS rfl rfl rfl rfl (by omega)) ?_
        refine jd_q rfl rfl rfl (qFieldAddr rfl rfl rfl rfl rfl) ?_
        refine jd_q rfl rfl rfl (qEq (qLd rfl rfl rfl rfl ((flat_cm pcells 3 pcells_len g1 hgk 1 _ rfl).cj _)) (v' := .int .i64 (frm a k)) rfl) ?_
        refine da rfl rfl (by omega) ?_
        refine jd_q rfl rfl rfl (qEq (qA rfl rfl rfl rfl rfl (by omega)) (v' := .int .i64 (nx a n (k + 1))) (congrArg _ (by omega))) ?_
        refine dp rfl rfl ?_
        refine jd_nil ?_
        refine jPn ?_
        refine jB ?_
        refine jT ?_
        refine jc_region ?_
        refine jp rfl ?_
        refine ja rfl (by omega) ?_
        refine jp rfl ?_
        refine jl_nil ?_
        refine j_again (k + 1) (Keep.cons (t := 0) rfl (Keep.cons (t := 1) rfl (Keep.cons (t := 6) rfl (Keep.cons (t := 8) rfl (Keep.cons (t := 9) rfl Keep.nil))))) (by omega) (by omega) (fun _ h => h)
  · refine jl_nil ?_
    refine jT ?_
    refine jc_no rfl ?_
    refine jc_exit ?_
    refine jTx ?_
    refine jTx ?_
    refine jBx ?_
    refine jT ?_
    refine jc_seq ?_
    refine jc_region ?_
    iterate 2 refine jp rfl ?_
    refine ja rfl (by omega) ?_
    have hkl : k = lst a n := by omega
    subst hkl
    refine jl_q rfl rfl (qCall rfl rfl rfl rfl rfl (by kernel_rfl) (many_ok (a + n) M1 (by omega) (by omega))) ?_
    iterate 5 refine jp rfl ?_
    refine jl_nil ?_
    refine jT ?_
    refine jc_seq ?_
    refine jc_region ?_
    refine jp rfl ?_
    refine jt rfl (decide_eq_true (by omega)) ?_
    iterate 4 refine jp rfl ?_
    refine ja rfl (by omega) ?_
    refine jt rfl (decide_eq_true (by omega)) ?_
    iterate 5 refine jp rfl ?_
    refine jl_q rfl rfl (qLen rfl rfl rfl) ?_
    refine jp rfl ?_
    refine jl_q rfl rfl (qEq (qEqB rfl rfl rfl rfl) (v' := .bool true) (by have e : (n = 0) ↔ ((lst a n : Int) = 0) := (by omega); simp [e])) ?_
    iterate 3 refine jp rfl ?_
    refine js rfl (fun h126 => ?_) (fun h126 => ?_)
    · iterate 14 refine jp rfl ?_
      refine jl_nil ?_
      refine jT ?_
      refine jc_ret ?_
      refine jr1 rfl rfl ?_
      first | rfl | (simp only [Value.bool.injEq, decide_eq_true_eq]; omega)
    · iterate 3 refine jp rfl ?_
      refine jl_q rfl rfl (qLen rfl rfl rfl) ?_
      refine ja rfl (by omega) ?_
      obtain ⟨b1, o1, e1, g1⟩ := hs1.open (by intro e; have := congrArg List.length e; rw [flat_len pcells 3 pcells_len] at this; rw [lst_eq, List.length_nil] at this; omega)
      subst e1
      have hkl1 : lst a n - 1 < lst a n := by omega
      have hgk := cut_at h0 hn0 hkl1
      obtain ⟨-, -, -, -, -, -, f12⟩ := pz_facts h0 hn0 (by omega) hkl1
      refine jl_q rfl rfl (qIdxS rfl rfl rfl rfl (by omega)) ?_
      refine jl_q rfl rfl (qFieldAddr rfl rfl rfl rfl rfl) ?_
      refine jl_q rfl rfl (qEq (qLd rfl rfl rfl rfl ((flat_cm pcells 3 pcells_len g1 (by rw [show (((lst a n : Nat) : Int) - 1).toNat = lst a n - 1 by omega]; exact hgk) 0 _ rfl).cj _)) (v' := .int .i64 (blk a (lst a n - 1))) rfl) ?_
      refine jp rfl ?_
      refine ja rfl (by omega) ?_
      iterate 4 refine jp rfl ?_
      refine jl_nil ?_
      refine jT ?_
      refine jc_ret ?_
      refine jr1 rfl rfl ?_
      first | rfl | (simp only [Value.bool.injEq, decide_eq_true_eq]; omega)

end Go.Proofs.Ytjmkgfamonallaa
