/- Walks over the packages span and scionryref20. -/
import Derived.Test.YtjmkgfamonallaaTab
namespace Go.Proofs.Ytjmkgfamonallaa
open Go.RowKit

theorem many_ok (n : Int) (M : Mem) (h : 0 ≤ n) (h' : n ≤ 4096) :
    SpecL Try.prog 11 #[.int .i64 n] M [] fun v _ _ => v = .tuple #[.int .i64 ((n + 127) / 128), .int .i64 0] := by
  refine spec_body (vs := [_]) 14 _ Try.func11 rfl Try.ntmps11 rfl rfl ?_; intro W
  refine jc_seq ?_
  refine jc_region ?_
  iterate 2 refine jp rfl ?_
  refine jl_nil ?_
  refine jT ?_
  refine jc_seq ?_
  refine jc_seq ?_
  refine jc_region ?_
  refine jp rfl ?_
  refine jf rfl (decide_eq_false (by omega)) ?_
  iterate 2 refine jp rfl ?_
  refine jf rfl (decide_eq_false (by omega)) ?_
  refine jp rfl ?_
  refine jl_nil ?_
  refine jT ?_
  refine jc_no rfl ?_
  refine jc_skip ?_
  refine jT ?_
  refine jc_seq ?_
  refine jc_region ?_
  refine jp rfl ?_
  refine ja rfl (by omega) ?_
  refine ja rfl (by omega) ?_
  refine jl_q rfl rfl (qQuo rfl rfl rfl rfl (by omega) (by omega) (by omega)) ?_
  iterate 2 refine jp rfl ?_
  refine jl_nil ?_
  refine jT ?_
  refine jc_ret ?_
  refine jr2 rfl rfl rfl ?_
  rw [show n + 128 - 1 = n + 127 by omega]

theorem many_no1 (n : Int) (M : Mem) (h : n < 0) :
    SpecL Try.prog 11 #[.int .i64 n] M [] fun v _ _ => v = .tuple #[.int .i64 0, .int .i64 2] := by
  refine spec_body (vs := [_]) 14 _ Try.func11 rfl Try.ntmps11 rfl rfl ?_; intro W
  refine jc_seq ?_
  refine jc_region ?_
  iterate 2 refine jp rfl ?_
  refine jl_nil ?_
  refine jT ?_
  refine jc_seq ?_
  refine jc_seq ?_
  refine jc_region ?_
  refine jp rfl ?_
  refine jt rfl (decide_eq_true (by omega)) ?_
  iterate 4 refine jp rfl ?_
  refine jl_nil ?_
  refine jT ?_
  refine jc_yes rfl ?_
  refine jc_seq ?_
  refine jc_region ?_
  iterate 2 refine jp rfl ?_
  refine jl_nil ?_
  refine jT ?_
  refine jc_ret ?_
  refine jTr ?_
  refine jr2 rfl rfl rfl ?_
  rfl

theorem many_no2 (n : Int) (M : Mem) (h : 4096 < n) :
    SpecL Try.prog 11 #[.int .i64 n] M [] fun v _ _ => v = .tuple #[.int .i64 0, .int .i64 2] := by
  refine spec_body (vs := [_]) 14 _ Try.func11 rfl Try.ntmps11 rfl rfl ?_; intro W
  refine jc_seq ?_
  refine jc_region ?_
  iterate 2 refine jp rfl ?_
  refine jl_nil ?_
  refine jT ?_
  refine jc_seq ?_
  refine jc_seq ?_
  refine jc_region ?_
  refine jp rfl ?_
  refine jf rfl (decide_eq_false (by omega)) ?_
  iterate 2 refine jp rfl ?_
  refine jt rfl (decide_eq_true (by omega)) ?_
  refine jp rfl ?_
  refine jl_nil ?_
  refine jT ?_
  refine jc_yes rfl ?_
  refine jc_seq ?_
  refine jc_region ?_
  iterate 2 refine jp rfl ?_
  refine jl_nil ?_
  refine jT ?_
  refine jc_ret ?_
  refine jTr ?_
  refine jr2 rfl rfl rfl ?_
  rfl


abbrev Pc := Int × Int × Int
def pcells (p : Pc) : List Value := [.int .i64 p.1, .int .i64 p.2.1, .int .i64 p.2.2]
theorem pcells_len (p : Pc) : (pcells p).length = 3 := rfl
def cutAt (a n : Int) (b : Nat) : List Pc := if max (a - b * 128) 0 < min (a + n - b * 128) 128 then [((b : Int), max (a - b * 128) 0, min (a + n - b * 128) 128)] else []
def cutTo (a n : Int) : Nat → List Pc
  | 0 => []
  | k + 1 => cutTo a n k ++ cutAt a n k
theorem cut_hit {a n : Int} {k : Nat} (h : max (a - k * 128) 0 < min (a + n - k * 128) 128) : cutTo a n (k + 1) = cutTo a n k ++ [((k : Int), max (a - k * 128) 0, min (a + n - k * 128) 128)] := by simp [cutTo, cutAt, h]
theorem cut_miss {a n : Int} {k : Nat} (h : ¬ max (a - k * 128) 0 < min (a + n - k * 128) 128) : cutTo a n (k + 1) = cutTo a n k := by simp [cutTo, cutAt, h]
theorem cut_len (a n : Int) (k : Nat) : (cutTo a n k).length ≤ k := by
  induction k with
  | zero => simp [cutTo]
  | succ k ih =>
    simp only [cutTo, List.length_append]
    have : (cutAt a n k).length ≤ 1 := by unfold cutAt; split <;> simp
    omega
abbrev PT : TypeId := 31

theorem cut_no0 (a n : Int) (M : Mem) (h : a < 0) :
    SpecL Try.prog 12 #[.int .i64 a, .int .i64 n] M [] fun v _ _ => v = .tuple #[.slice none 0 0, .int .i64 2] := by
  refine spec_body (vs := [_, _]) 53 _ Try.func12 rfl Try.ntmps12 rfl rfl ?_; intro W
  refine jc_seq ?_
  refine jc_region ?_
  iterate 2 refine jp rfl ?_
  refine jl_nil ?_
  refine jT ?_
  refine jc_seq ?_
  refine jc_seq ?_
  refine jc_region ?_
  refine jp rfl ?_
  refine jt rfl (decide_eq_true (by omega)) ?_
  iterate 14 refine jp rfl ?_
  refine jl_nil ?_
  refine jT ?_
  refine jc_yes rfl ?_
  refine jc_seq ?_
  refine jc_region ?_
  iterate 2 refine jp rfl ?_
  refine jl_nil ?_
  refine jT ?_
  refine jc_ret ?_
  refine jTr ?_
  refine jr2 rfl rfl rfl ?_
  rfl

theorem cut_no1 (a n : Int) (M : Mem) (h : 4096 < a) :
    SpecL Try.prog 12 #[.int .i64 a, .int .i64 n] M [] fun v _ _ => v = .tuple #[.slice none 0 0, .int .i64 2] := by
  refine spec_body (vs := [_, _]) 53 _ Try.func12 rfl Try.ntmps12 rfl rfl ?_; intro W
  refine jc_seq ?_
  refine jc_region ?_
  iterate 2 refine jp rfl ?_
  refine jl_nil ?_
  refine jT ?_
  refine jc_seq ?_
  refine jc_seq ?_
  refine jc_region ?_
  refine jp rfl ?_
  refine jf rfl (decide_eq_false (by omega)) ?_
  iterate 2 refine jp rfl ?_
  refine jt rfl (decide_eq_true (by omega)) ?_
  iterate 11 refine jp rfl ?_
  refine jl_nil ?_
  refine jT ?_
  refine jc_yes rfl ?_
  refine jc_seq ?_
  refine jc_region ?_
  iterate 2 refine jp rfl ?_
  refine jl_nil ?_
  refine jT ?_
  refine jc_ret ?_
  refine jTr ?_
  refine jr2 rfl rfl rfl ?_
  rfl

theorem cut_no2 (a n : Int) (M : Mem) (h : 0 ≤ a ∧ a ≤ 4096 ∧ n < 0) :
    SpecL Try.prog 12 #[.int .i64 a, .int .i64 n] M [] fun v _ _ => v = .tuple #[.slice none 0 0, .int .i64 2] := by
  refine spec_body (vs := [_, _]) 53 _ Try.func12 rfl Try.ntmps12 rfl rfl ?_; intro W
  refine jc_seq ?_
  refine jc_region ?_
  iterate 2 refine jp rfl ?_
  refine jl_nil ?_
  refine jT ?_
  refine jc_seq ?_
  refine jc_seq ?_
  refine jc_region ?_
  refine jp rfl ?_
  refine jf rfl (decide_eq_false (by omega)) ?_
  iterate 2 refine jp rfl ?_
  refine jf rfl (decide_eq_false (by omega)) ?_
  iterate 3 refine jp rfl ?_
  refine jt rfl (decide_eq_true (by omega)) ?_
  iterate 7 refine jp rfl ?_
  refine jl_nil ?_
  refine jT ?_
  refine jc_yes rfl ?_
  refine jc_seq ?_
  refine jc_region ?_
  iterate 2 refine jp rfl ?_
  refine jl_nil ?_
  refine jT ?_
  refine jc_ret ?_
  refine jTr ?_
  refine jr2 rfl rfl rfl ?_
  rfl

theorem cut_no3 (a n : Int) (M : Mem) (h : 0 ≤ a ∧ a ≤ 4096 ∧ 4096 - a < n) :
    SpecL Try.prog 12 #[.int .i64 a, .int .i64 n] M [] fun v _ _ => v = .tuple #[.slice none 0 0, .int .i64 2] := by
  refine spec_body (vs := [_, _]) 53 _ Try.func12 rfl Try.ntmps12 rfl rfl ?_; intro W
  refine jc_seq ?_
  refine jc_region ?_
  iterate 2 refine jp rfl ?_
  refine jl_nil ?_
  refine jT ?_
  refine jc_seq ?_
  refine jc_seq ?_
  refine jc_region ?_
  refine jp rfl ?_
  refine jf rfl (decide_eq_false (by omega)) ?_
  iterate 2 refine jp rfl ?_
  refine jf rfl (decide_eq_false (by omega)) ?_
  iterate 3 refine jp rfl ?_
  refine jf rfl (decide_eq_false (by omega)) ?_
  iterate 4 refine jp rfl ?_
  refine ja rfl (by omega) ?_
  refine jt rfl (decide_eq_true (by omega)) ?_
  refine jp rfl ?_
  refine jl_nil ?_
  refine jT ?_
  refine jc_yes rfl ?_
  refine jc_seq ?_
  refine jc_region ?_
  iterate 2 refine jp rfl ?_
  refine jl_nil ?_
  refine jT ?_
  refine jc_ret ?_
  refine jTr ?_
  refine jr2 rfl rfl rfl ?_
  rfl

theorem cut_ok (a n : Int) (M : Mem) (h1 : 0 ≤ a) (h2 : a ≤ 4096) (h3 : 0 ≤ n) (h4 : n ≤ 4096 - a) :
    SpecL Try.prog 12 #[.int .i64 a, .int .i64 n] M [] fun v _ L' => ∃ s, v = .tuple #[s, .int .i64 0] ∧ Own s L' PT 3 (cutTo a n 32).length ((cutTo a n 32).flatMap pcells) := by
  refine spec_body (vs := [_, _]) 53 _ Try.func12 rfl Try.ntmps12 rfl rfl ?_; intro W
  refine jc_seq ?_
  refine jc_region ?_
  iterate 2 refine jp rfl ?_
  refine jl_nil ?_
  refine jT ?_
  refine jc_seq ?_
  refine jc_seq ?_
  refine jc_region ?_
  refine jp rfl ?_
  refine jf rfl (decide_eq_false (by omega)) ?_
  iterate 2 refine jp rfl ?_
  refine jf rfl (decide_eq_false (by omega)) ?_
  iterate 3 refine jp rfl ?_
  refine jf rfl (decide_eq_false (by omega)) ?_
  iterate 4 refine jp rfl ?_
  refine ja rfl (by omega) ?_
  refine jf rfl (decide_eq_false (by omega)) ?_
  refine jp rfl ?_
  refine jl_nil ?_
  refine jT ?_
  refine jc_no rfl ?_
  refine jc_skip ?_
  refine jT ?_
  refine jc_seq ?_
  refine jc_region ?_
  refine jp rfl ?_
  refine jl_nil ?_
  refine jT ?_
  refine jc_seq ?_
  refine jc_seq ?_
  refine jc_region ?_
  refine jp rfl ?_
  refine jl_nil ?_
  refine jT ?_
  refine jc_block ?_
  refine jc_loopK (α := Nat × Value × Lc) (fun x => [(0, .int .i64 a), (1, .int .i64 n), (6, x.2.1), (26, .int .i64 x.1)]) (fun _ => M) (fun x => x.2.2) (fun x => x.1 ≤ 32 ∧ Own x.2.1 x.2.2 PT 3 (cutTo a n x.1).length ((cutTo a n x.1).flatMap pcells)) (fun x => 32 - x.1)
    (0, .slice none 0 0, []) (Keep.cons (t := 0) rfl (Keep.cons (t := 1) rfl (Keep.cons (t := 6) rfl (Keep.cons (t := 26) rfl Keep.nil)))) ⟨by omega, Own.nil _ _⟩ (fun _ h => h) ?_
  rintro ⟨k, s, R⟩ ⟨hk, hown⟩
  dsimp only at hk hown ⊢
  have hl := cut_len a n k
  refine jc_seq ?_
  refine jc_region ?_
  refine js rfl (fun h27 => ?_) (fun h27 => ?_)
  · refine jl_nil ?_
    refine jT ?_
    refine jc_seq ?_
    refine jc_yes rfl ?_
    refine jc_skip ?_
    refine jT ?_
    refine jc_seq ?_
    refine jc_block ?_
    refine jc_seq ?_
    refine jc_region ?_
    iterate 2 refine jp rfl ?_
    refine jl_nil ?_
    refine jT ?_
    refine jc_seq ?_
    refine jc_region ?_
    iterate 2 refine jp rfl ?_
    refine ja rfl (by omega) ?_
    refine ja rfl (by omega) ?_
    refine jl_q rfl rfl (qMax rfl rfl rfl rfl) ?_
    iterate 2 refine jp rfl ?_
    refine ja rfl (by omega) ?_
    refine jp rfl ?_
    refine ja rfl (by omega) ?_
    refine ja rfl (by omega) ?_
    refine jl_q rfl rfl (qMin rfl rfl rfl rfl) ?_
    iterate 2 refine jp rfl ?_
    refine jl_nil ?_
    refine jT ?_
    refine jc_seq ?_
    refine jc_region ?_
    iterate 2 refine jp rfl ?_
    refine js rfl (fun h43 => ?_) (fun h43 => ?_)
    · refine jl_nil ?_
      refine jT ?_
      refine jc_yes rfl ?_
      refine jc_region ?_
      iterate 4 refine jp rfl ?_
      refine jl_q rfl rfl (qBuild (cs := [_, _, _]) rfl rfl rfl (by rfl)) ?_
      refine jl_h rfl rfl (hBuildSlice (cs := [_, _, _]) rfl rfl rfl (by rfl) (by rfl) (by rfl)) ?_; rintro _ _ _ ⟨b49, rfl, rfl, rfl⟩
      refine jl_h rfl rfl (hAppend (R := R) (m := 1) rfl rfl rfl rfl hown rfl (fun i v hv => CJ.loc (by simpa using hv)) rfl (by rfl) (by simp [Value.oneCell']) (by omega) (by omega)) ?_; rintro s' _ _ ⟨rfl, R', rfl, hown', _⟩
      refine jp rfl ?_
      refine jl_nil ?_
      refine jB ?_
      refine jT ?_
      refine jc_region ?_
      refine ja rfl (by omega) ?_
      refine jp rfl ?_
      refine jl_nil ?_
      refine j_again (k + 1, s', R') (Keep.cons (t := 0) rfl (Keep.cons (t := 1) rfl (Keep.cons (t := 6) rfl (Keep.cons (t := 26) rfl Keep.nil)))) ⟨by show k + 1 ≤ 32; omega, by show Own _ _ _ _ (cutTo a n (k + 1)).length ((cutTo a n (k + 1)).flatMap _); rw [cut_hit h43]; simpa [pcells] using hown'⟩ (by show 32 - (k + 1) < 32 - k; omega) (fun _ h => h.fewer (List.sublist_append_left _ _))
    · refine jl_nil ?_
      refine jT ?_
      refine jc_no rfl ?_
      refine jc_skip ?_
      refine jB ?_
      refine jT ?_
      refine jc_region ?_
      refine ja rfl (by omega) ?_
      refine jp rfl ?_
      refine jl_nil ?_
      refine j_again (k + 1, s, R) (Keep.cons (t := 0) rfl (Keep.cons (t := 1) rfl (Keep.cons (t := 6) rfl (Keep.cons (t := 26) rfl Keep.nil)))) ⟨by show k + 1 ≤ 32; omega, by show Own _ _ _ _ (cutTo a n (k + 1)).length ((cutTo a n (k + 1)).flatMap _); rw [cut_miss h43]; exact hown⟩ (by show 32 - (k + 1) < 32 - k; omega) (fun _ h => h)
  · refine jl_nil ?_
    refine jT ?_
    refine jc_seq ?_
    refine jc_no rfl ?_
    refine jc_exit ?_
    refine jTx ?_
    refine jTx ?_
    refine jBx ?_
    refine jT ?_
    refine jc_seq ?_
    refine jc_region ?_
    iterate 3 refine jp rfl ?_
    refine jl_nil ?_
    refine jT ?_
    refine jc_ret ?_
    refine jr2 rfl rfl rfl ?_
    obtain rfl : k = 32 := by omega
    exact ⟨s, rfl, hown⟩

theorem same_spec (xs ys : List Pc) (a1 a2 : Option Addr) (c1 c2 : Nat) (M : Mem) (h1 : SM M a1 (xs.flatMap pcells)) (h2 : SM M a2 (ys.flatMap pcells)) (hb : xs.length ≤ 1000000) :
    SpecL Try.prog 15 #[.slice a1 xs.length c1, .slice a2 ys.length c2] M [] fun v _ _ => v = .bool (decide (xs = ys)) := by
  refine spec_body (vs := [_, _]) 26 _ Try.func15 rfl Try.ntmps15 rfl rfl ?_; intro W
  refine jc_seq ?_
  refine jc_region ?_
  refine jp rfl ?_
  refine jl_nil ?_
  refine jT ?_
  refine jc_seq ?_
  refine jc_seq ?_
  refine jc_region ?_
  refine jp rfl ?_
  refine jl_q rfl rfl (qLen rfl rfl rfl) ?_
  refine jp rfl ?_
  refine jl_q rfl rfl (qLen rfl rfl rfl) ?_
  refine js rfl (fun h10 => ?_) (fun h10 => ?_)
  · refine jl_nil ?_
    refine jT ?_
    refine jc_yes rfl ?_
    refine jc_seq ?_
    refine jc_region ?_
    refine jp rfl ?_
    refine jl_nil ?_
    refine jT ?_
    refine jc_ret ?_
    refine jTr ?_
    refine jr1 rfl rfl ?_
    have : xs ≠ ys := fun e => by subst e; omega
    simp [this]
  · refine jl_nil ?_
    refine jT ?_
    refine jc_no rfl ?_
    refine jc_skip ?_
    refine jT ?_
    refine jc_seq ?_
    refine jc_seq ?_
    refine jc_region ?_
    refine jp rfl ?_
    refine jl_nil ?_
    refine jT ?_
    refine jc_block ?_
    refine jc_loopK (α := Nat) (fun k => [(0, .slice a1 xs.length c1), (1, .slice a2 ys.length c2), (5, .int .i64 k)]) (fun _ => M) (fun _ => []) (fun k => k ≤ xs.length ∧ xs.take k = ys.take k) (fun k => xs.length - k)
      0 (Keep.cons (t := 0) rfl (Keep.cons (t := 1) rfl (Keep.cons (t := 5) rfl Keep.nil))) ⟨Nat.zero_le _, rfl⟩ (fun _ h => h) ?_
    rintro k ⟨hk, heq⟩
    try dsimp only at hk heq ⊢
    have hly : (xs.length : Int) = ys.length := by omega
    refine jc_seq ?_
    refine jc_seq ?_
    refine jc_region ?_
    iterate 2 refine jp rfl ?_
    refine jl_q rfl rfl (qLen rfl rfl rfl) ?_
    refine js rfl (fun hlt => ?_) (fun hlt => ?_)
    · refine jl_nil ?_
      refine jT ?_
      refine jc_yes rfl ?_
      refine jc_skip ?_
      refine jT ?_
      refine jc_seq ?_
      refine jc_block ?_
      refine jc_seq ?_
      refine jc_draw [(0, true), (1, true), (2, true), (3, true), (4, true), (5, true), (6, true), (7, true), (8, true)] _ (by kernel_rfl) (by kernel_rfl) (by kernel_rfl) rfl (fun _ h => h) ?_
      iterate 2 refine dp rfl rfl ?_
      obtain ⟨hx0, hy0⟩ : k < xs.length ∧ k < ys.length := by omega
      have hxk : xs[k]? = some xs[k] := by simp [hx0]
      have hyk : ys[k]? = some ys[k] := by simp [hy0]
      obtain ⟨b1, o1, e1, g1⟩ := h1.open (by intro e; rw [List.flatMap_eq_nil_iff] at e; exact absurd (e _ (List.getElem_mem hx0)) (by simp [pcells]))
      subst e1
      obtain ⟨b2, o2, e2, g2⟩ := h2.open (by intro e; rw [List.flatMap_eq_nil_iff] at e; exact absurd (e _ (List.getElem_mem hy0)) (by simp [pcells]))
      subst e2
      refine jd_q rfl rfl rfl (qIdxS rfl rfl rfl rfl (by omega)) ?_
      refine jd_q rfl rfl rfl (qLdA (cs := pcells xs[k]) rfl rfl rfl rfl rfl (fun i v hv => (flat_cm pcells 3 pcells_len g1 (by assumption) i v hv).cj _)) ?_
      iterate 2 refine dp rfl rfl ?_
      refine jd_q rfl rfl rfl (qIdxS rfl rfl rfl rfl (by omega)) ?_
      refine jd_q rfl rfl rfl (qLdA (cs := pcells ys[k]) rfl rfl rfl rfl rfl (fun i v hv => (flat_cm pcells 3 pcells_len g2 (by assumption) i v hv).cj _)) ?_
      refine jd_qb rfl rfl rfl (qNeI (ns := [xs[k].1, xs[k].2.1, xs[k].2.2]) (ms := [ys[k].1, ys[k].2.1, ys[k].2.2]) rfl rfl rfl rfl rfl rfl ⟨rfl, rfl⟩) (fun h25 => ?_) (fun h25 => ?_)
      · refine jd_nil ?_
        refine jPn ?_
        refine jT ?_
        refine jc_yes rfl ?_
        refine jc_seq ?_
        refine jc_region ?_
        refine jp rfl ?_
        refine jl_nil ?_
        refine jT ?_
        refine jc_ret ?_
        refine jBr ?_
        refine jTr ?_
        refine jTr ?_
        refine jBr ?_
        refine jTr ?_
        refine jr1 rfl rfl ?_
        have : xs ≠ ys := fun e => by subst e; simp at h25
        simp [this]
      · refine jd_nil ?_
        refine jPn ?_
        refine jT ?_
        refine jc_no rfl ?_
        refine jc_skip ?_
        refine jB ?_
        refine jT ?_
        refine jc_region ?_
        refine jp rfl ?_
        refine ja rfl (by omega) ?_
        refine jp rfl ?_
        refine jl_nil ?_
        refine j_again (k + 1) (Keep.cons (t := 0) rfl (Keep.cons (t := 1) rfl (Keep.cons (t := 5) rfl Keep.nil))) ⟨by omega, ?_⟩ (by omega) (fun _ h => h)
        rw [List.take_succ_eq_append_getElem (by omega), List.take_succ_eq_append_getElem (by omega), heq]
        simp only [List.append_cancel_left_eq, List.cons.injEq, and_true]
        simp at h25
        exact Prod.ext h25.1 (Prod.ext h25.2.1 h25.2.2)
    · refine jl_nil ?_
      refine jT ?_
      refine jc_no rfl ?_
      refine jc_exit ?_
      refine jTx ?_
      refine jTx ?_
      refine jBx ?_
      refine jT ?_
      refine jc_seq ?_
      refine jc_region ?_
      refine jp rfl ?_
      refine jl_nil ?_
      refine jT ?_
      refine jc_ret ?_
      refine jr1 rfl rfl ?_
      obtain rfl : k = xs.length := by omega
      have : xs = ys := by rw [List.take_length] at heq; rw [heq, List.take_of_length_le (by omega)]
      simp [this]

theorem alive_spec (M : Mem) :
    SpecL Try.prog 10 #[] M [] fun v _ _ => v = .bool true := by
  refine spec_body (vs := []) 17 _ Try.func10 rfl Try.ntmps10 rfl rfl ?_; intro W
  refine jc_seq ?_
  refine jc_region ?_
  refine jp rfl ?_
  refine jl_nil ?_
  refine jT ?_
  refine jc_seq ?_
  refine jc_region ?_
  refine jl_h rfl rfl (hCall rfl rfl rfl rfl rfl (by kernel_rfl) (cut_ok 100 200 M (by omega) (by omega) (by omega) (by omega))) ?_; rintro _ _ _ ⟨_, _, rfl, ⟨s, rfl, hown⟩⟩
  iterate 5 refine jp rfl ?_
  refine jl_nil ?_
  refine jT ?_
  refine jc_seq ?_
  refine jc_region ?_
  refine jp rfl ?_
  refine jt rfl (decide_eq_true (by omega)) ?_
  iterate 2 refine jp rfl ?_
  refine jl_q rfl rfl (qBuild (cs := [_, _, _]) rfl rfl rfl (by rfl)) ?_
  refine jl_q rfl rfl (qBuild (cs := [_, _, _]) rfl rfl rfl (by rfl)) ?_
  refine jl_q rfl rfl (qBuild (cs := [_, _, _]) rfl rfl rfl (by rfl)) ?_
  refine jl_h rfl rfl (hBuildSlice (cs := [_, _, _, _, _, _, _, _, _]) rfl rfl rfl (by rfl) (by rfl) (by rfl)) ?_; rintro _ _ _ ⟨b14, rfl, rfl, rfl⟩
  refine jl_own hown (by simp) ?_
  intro M1 a1 c1 hM1 e1 hc1 hs1; subst e1
  refine jl_freeze b14 (by simp) ?_
  intro M2 hM2 hb14
  refine jl_q rfl rfl (qCall rfl rfl rfl rfl rfl (by kernel_rfl) (by have := same_spec (cutTo 100 200 32) [(0, 100, 128), (1, 0, 128), (2, 0, 44)] a1 (some ⟨b14, 0, none⟩) c1 3 M2 (hs1.mono hM2) (SM.of_block hb14) (by decide); rwa [show decide (cutTo 100 200 32 = [(0, 100, 128), (1, 0, 128), (2, 0, 44)]) = true by decide +kernel] at this)) ?_
  iterate 2 refine jp rfl ?_
  refine jl_nil ?_
  refine jT ?_
  refine jc_ret ?_
  refine jr1 rfl rfl ?_
  rfl

end Go.Proofs.Ytjmkgfamonallaa
