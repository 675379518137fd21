/- Walks over the packages span and scionryref20: Check, Many, Cut, Pieces. -/
import Derived.Test.YtjmkgfamonallaaSpanA
namespace Go.Proofs.Ytjmkgfamonallaa
open Go.RowKit

def chk (p : Pc) : Int := if p.1 < 0 ∨ 32 ≤ p.1 ∨ p.2.1 < 0 ∨ p.2.2 ≤ p.2.1 ∨ 128 < p.2.2 then 8 else 0
theorem chk_bad {p : Pc} (h : p.1 < 0 ∨ 32 ≤ p.1 ∨ p.2.1 < 0 ∨ p.2.2 ≤ p.2.1 ∨ 128 < p.2.2) : (8 : Int) = chk p := by unfold chk; rw [if_pos h]
theorem chk_ok {p : Pc} (h : ¬ (p.1 < 0 ∨ 32 ≤ p.1 ∨ p.2.1 < 0 ∨ p.2.2 ≤ p.2.1 ∨ 128 < p.2.2)) : (0 : Int) = chk p := by unfold chk; rw [if_neg h]

theorem check_spec (p : Pc) (M : Mem) :
    SpecL Try.prog 16 #[.agg (pcells p).toArray] M [] fun v _ _ => v = .int .i64 (chk p) := by
  refine spec_body (vs := [_]) 28 _ Try.func16 rfl Try.ntmps16 rfl rfl ?_; intro W
  refine jc_seq ?_
  refine jc_region ?_
  refine jl_h rfl rfl (hBox rfl rfl rfl rfl) ?_; rintro _ _ _ ⟨b1, rfl, rfl, rfl⟩
  refine jp rfl ?_
  refine jl_nil ?_
  refine jT ?_
  refine jc_seq ?_
  refine jc_seq ?_
  refine jc_region ?_
  refine jl_q rfl rfl (qFieldAddr rfl rfl rfl rfl rfl) ?_
  refine jl_q rfl rfl (qLd rfl rfl rfl rfl (CJ.loc rfl)) ?_
  refine js rfl (fun h5 => ?_) (fun h5 => ?_)
  · iterate 22 refine jp rfl ?_
    refine jl_nil ?_
    refine jT ?_
    refine jc_yes rfl ?_
    refine jc_seq ?_
    refine jc_region ?_
    refine jp rfl ?_
    refine jl_nil ?_
    refine jT ?_
    refine jc_ret ?_
    refine jTr ?_
    refine jr1 rfl rfl ?_
    exact congrArg _ (chk_bad (by omega))
  · refine jp rfl ?_
    refine jl_q rfl rfl (qFieldAddr rfl rfl rfl rfl rfl) ?_
    refine jl_q rfl rfl (qLd rfl rfl rfl rfl (CJ.loc rfl)) ?_
    refine js rfl (fun h9 => ?_) (fun h9 => ?_)
    · iterate 18 refine jp rfl ?_
      refine jl_nil ?_
      refine jT ?_
      refine jc_yes rfl ?_
      refine jc_seq ?_
      refine jc_region ?_
      refine jp rfl ?_
      refine jl_nil ?_
      refine jT ?_
      refine jc_ret ?_
      refine jTr ?_
      refine jr1 rfl rfl ?_
      exact congrArg _ (chk_bad (by omega))
    · iterate 2 refine jp rfl ?_
      refine jl_q rfl rfl (qFieldAddr rfl rfl rfl rfl rfl) ?_
      refine jl_q rfl rfl (qLd rfl rfl rfl rfl (CJ.loc rfl)) ?_
      refine js rfl (fun h14 => ?_) (fun h14 => ?_)
      · iterate 13 refine jp rfl ?_
        refine jl_nil ?_
        refine jT ?_
        refine jc_yes rfl ?_
        refine jc_seq ?_
        refine jc_region ?_
        refine jp rfl ?_
        refine jl_nil ?_
        refine jT ?_
        refine jc_ret ?_
        refine jTr ?_
        refine jr1 rfl rfl ?_
        exact congrArg _ (chk_bad (by omega))
      · iterate 2 refine jp rfl ?_
        refine jl_q rfl rfl (qFieldAddr rfl rfl rfl rfl rfl) ?_
        refine jl_q rfl rfl (qLd rfl rfl rfl rfl (CJ.loc rfl)) ?_
        refine jl_q rfl rfl (qFieldAddr rfl rfl rfl rfl rfl) ?_
        refine jl_q rfl rfl (qLd rfl rfl rfl rfl (CJ.loc rfl)) ?_
        refine js rfl (fun h21 => ?_) (fun h21 => ?_)
        · iterate 6 refine jp rfl ?_
          refine jl_nil ?_
          refine jT ?_
          refine jc_yes rfl ?_
          refine jc_seq ?_
          refine jc_region ?_
          refine jp rfl ?_
          refine jl_nil ?_
          refine jT ?_
          refine jc_ret ?_
          refine jTr ?_
          refine jr1 rfl rfl ?_
          exact congrArg _ (chk_bad (by omega))
        · iterate 2 refine jp rfl ?_
          refine jl_q rfl rfl (qFieldAddr rfl rfl rfl rfl rfl) ?_
          refine jl_q rfl rfl (qLd rfl rfl rfl rfl (CJ.loc rfl)) ?_
          refine js rfl (fun h26 => ?_) (fun h26 => ?_)
          · refine jp rfl ?_
            refine jl_nil ?_
            refine jT ?_
            refine jc_yes rfl ?_
            refine jc_seq ?_
            refine jc_region ?_
            refine jp rfl ?_
            refine jl_nil ?_
            refine jT ?_
            refine jc_ret ?_
            refine jTr ?_
            refine jr1 rfl rfl ?_
            exact congrArg _ (chk_bad (by omega))
          · refine jp rfl ?_
            refine jl_nil ?_
            refine jT ?_
            refine jc_no rfl ?_
            refine jc_skip ?_
            refine jT ?_
            refine jc_seq ?_
            refine jc_region ?_
            refine jp rfl ?_
            refine jl_nil ?_
            refine jT ?_
            refine jc_ret ?_
            refine jr1 rfl rfl ?_
            exact congrArg _ (chk_ok (by omega))

theorem may_ok (p : Pc) (M : Mem) (h : ¬ (p.1 < 0 ∨ 32 ≤ p.1 ∨ p.2.1 < 0 ∨ p.2.2 ≤ p.2.1 ∨ 128 < p.2.2)) :
    SpecL Try.prog 23 #[.agg (pcells p).toArray] M [] fun v _ _ => v = .bool true := by
  refine spec_body (vs := [_]) 28 _ Try.func23 rfl Try.ntmps23 rfl rfl ?_; intro W
  refine jc_seq ?_
  refine jc_region ?_
  refine jl_h rfl rfl (hBox rfl rfl rfl rfl) ?_; rintro _ _ _ ⟨b1, rfl, rfl, rfl⟩
  refine jp rfl ?_
  refine jl_nil ?_
  refine jT ?_
  refine jc_seq ?_
  refine jc_region ?_
  refine jl_q rfl rfl (qFieldAddr rfl rfl rfl rfl rfl) ?_
  refine jl_q rfl rfl (qLd rfl rfl rfl rfl (CJ.loc rfl)) ?_
  refine jt rfl (decide_eq_true (by omega)) ?_
  refine jp rfl ?_
  refine jl_q rfl rfl (qFieldAddr rfl rfl rfl rfl rfl) ?_
  refine jl_q rfl rfl (qLd rfl rfl rfl rfl (CJ.loc rfl)) ?_
  refine jt rfl (decide_eq_true (by omega)) ?_
  iterate 2 refine jp rfl ?_
  refine jl_q rfl rfl (qFieldAddr rfl rfl rfl rfl rfl) ?_
  refine jl_q rfl rfl (qLd rfl rfl rfl rfl (CJ.loc rfl)) ?_
  refine jt rfl (decide_eq_true (by omega)) ?_
  iterate 2 refine jp rfl ?_
  refine jl_q rfl rfl (qFieldAddr rfl rfl rfl rfl rfl) ?_
  refine jl_q rfl rfl (qLd rfl rfl rfl rfl (CJ.loc rfl)) ?_
  refine jt rfl (decide_eq_true (by omega)) ?_
  iterate 2 refine jp rfl ?_
  refine jl_q rfl rfl (qFieldAddr rfl rfl rfl rfl rfl) ?_
  refine jl_q rfl rfl (qLd rfl rfl rfl rfl (CJ.loc rfl)) ?_
  refine jl_q rfl rfl (qFieldAddr rfl rfl rfl rfl rfl) ?_
  refine jl_q rfl rfl (qLd rfl rfl rfl rfl (CJ.loc rfl)) ?_
  iterate 3 refine jp rfl ?_
  refine jl_nil ?_
  refine jT ?_
  refine jc_ret ?_
  refine jr1 rfl rfl ?_
  simp; omega

theorem may_no (p : Pc) (M : Mem) (h : p.1 < 0 ∨ 32 ≤ p.1 ∨ p.2.1 < 0 ∨ p.2.2 ≤ p.2.1 ∨ 128 < p.2.2) :
    SpecL Try.prog 23 #[.agg (pcells p).toArray] M [] fun v _ _ => v = .bool false := by
  refine spec_body (vs := [_]) 28 _ Try.func23 rfl Try.ntmps23 rfl rfl ?_; intro W
  refine jc_seq ?_
  refine jc_region ?_
  refine jl_h rfl rfl (hBox rfl rfl rfl rfl) ?_; rintro _ _ _ ⟨b1, rfl, rfl, rfl⟩
  refine jp rfl ?_
  refine jl_nil ?_
  refine jT ?_
  refine jc_seq ?_
  refine jc_region ?_
  refine jl_q rfl rfl (qFieldAddr rfl rfl rfl rfl rfl) ?_
  refine jl_q rfl rfl (qLd rfl rfl rfl rfl (CJ.loc rfl)) ?_
  refine js rfl (fun h5 => ?_) (fun h5 => ?_)
  · refine jp rfl ?_
    refine jl_q rfl rfl (qFieldAddr rfl rfl rfl rfl rfl) ?_
    refine jl_q rfl rfl (qLd rfl rfl rfl rfl (CJ.loc rfl)) ?_
    refine js rfl (fun h9 => ?_) (fun h9 => ?_)
    · iterate 2 refine jp rfl ?_
      refine jl_q rfl rfl (qFieldAddr rfl rfl rfl rfl rfl) ?_
      refine jl_q rfl rfl (qLd rfl rfl rfl rfl (CJ.loc rfl)) ?_
      refine js rfl (fun h14 => ?_) (fun h14 => ?_)
      · iterate 2 refine jp rfl ?_
        refine jl_q rfl rfl (qFieldAddr rfl rfl rfl rfl rfl) ?_
        refine jl_q rfl rfl (qLd rfl rfl rfl rfl (CJ.loc rfl)) ?_
        refine js rfl (fun h19 => ?_) (fun h19 => ?_)
        · iterate 2 refine jp rfl ?_
          refine jl_q rfl rfl (qFieldAddr rfl rfl rfl rfl rfl) ?_
          refine jl_q rfl rfl (qLd rfl rfl rfl rfl (CJ.loc rfl)) ?_
          refine jl_q rfl rfl (qFieldAddr rfl rfl rfl rfl rfl) ?_
          refine jl_q rfl rfl (qLd rfl rfl rfl rfl (CJ.loc rfl)) ?_
          iterate 3 refine jp rfl ?_
          refine jl_nil ?_
          refine jT ?_
          refine jc_ret ?_
          refine jr1 rfl rfl ?_
          simp; omega
        · iterate 9 refine jp rfl ?_
          refine jl_nil ?_
          refine jT ?_
          refine jc_ret ?_
          refine jr1 rfl rfl ?_
          rfl
      · iterate 14 refine jp rfl ?_
        refine jl_nil ?_
        refine jT ?_
        refine jc_ret ?_
        refine jr1 rfl rfl ?_
        rfl
    · iterate 19 refine jp rfl ?_
      refine jl_nil ?_
      refine jT ?_
      refine jc_ret ?_
      refine jr1 rfl rfl ?_
      rfl
  · iterate 23 refine jp rfl ?_
    refine jl_nil ?_
    refine jT ?_
    refine jc_ret ?_
    refine jr1 rfl rfl ?_
    rfl

theorem rcheck_ok (p : Pc) (M : Mem) (h : ¬ (p.1 < 0 ∨ 32 ≤ p.1 ∨ p.2.1 < 0 ∨ p.2.2 ≤ p.2.1 ∨ 128 < p.2.2)) :
    SpecL Try.prog 17 #[.agg (pcells p).toArray] M [] fun v _ _ => v = .int .i64 (chk p) := by
  refine spec_body (vs := [_]) 6 _ Try.func17 rfl Try.ntmps17 rfl rfl ?_; intro W
  refine jc_seq ?_
  refine jc_region ?_
  refine jl_h rfl rfl (hBox rfl rfl rfl rfl) ?_; rintro _ _ _ ⟨b1, rfl, rfl, rfl⟩
  refine jp rfl ?_
  refine jl_nil ?_
  refine jT ?_
  refine jc_seq ?_
  refine jc_seq ?_
  refine jc_region ?_
  refine jl_q rfl rfl (qLdA (cs := pcells p) rfl rfl rfl rfl rfl (fun i v hv => CJ.loc (by simpa [pcells] using hv))) ?_
  refine jl_q rfl rfl (qCall rfl rfl rfl rfl rfl (by kernel_rfl) (may_ok p M h)) ?_
  refine jp rfl ?_
  refine jl_nil ?_
  refine jT ?_
  refine jc_no rfl ?_
  refine jc_skip ?_
  refine jT ?_
  refine jc_seq ?_
  refine jc_region ?_
  refine jp rfl ?_
  refine jl_nil ?_
  refine jT ?_
  refine jc_ret ?_
  refine jr1 rfl rfl ?_
  exact congrArg _ (chk_ok h)

theorem rcheck_no (p : Pc) (M : Mem) (h : p.1 < 0 ∨ 32 ≤ p.1 ∨ p.2.1 < 0 ∨ p.2.2 ≤ p.2.1 ∨ 128 < p.2.2) :
    SpecL Try.prog 17 #[.agg (pcells p).toArray] M [] fun v _ _ => v = .int .i64 (chk p) := by
  refine spec_body (vs := [_]) 6 _ Try.func17 rfl Try.ntmps17 rfl rfl ?_; intro W
  refine jc_seq ?_
  refine jc_region ?_
  refine jl_h rfl rfl (hBox rfl rfl rfl rfl) ?_; rintro _ _ _ ⟨b1, rfl, rfl, rfl⟩
  refine jp rfl ?_
  refine jl_nil ?_
  refine jT ?_
  refine jc_seq ?_
  refine jc_seq ?_
  refine jc_region ?_
  refine jl_q rfl rfl (qLdA (cs := pcells p) rfl rfl rfl rfl rfl (fun i v hv => CJ.loc (by simpa [pcells] using hv))) ?_
  refine jl_q rfl rfl (qCall rfl rfl rfl rfl rfl (by kernel_rfl) (may_no p M h)) ?_
  refine jp rfl ?_
  refine jl_nil ?_
  refine jT ?_
  refine jc_yes rfl ?_
  refine jc_seq ?_
  refine jc_region ?_
  refine jp rfl ?_
  refine jl_nil ?_
  refine jT ?_
  refine jc_ret ?_
  refine jTr ?_
  refine jr1 rfl rfl ?_
  exact congrArg _ (chk_bad h)

theorem rmany_ok (n : Int) (M : Mem) (h : 0 ≤ n) (h' : n ≤ 4096) :
    SpecL Try.prog 14 #[.int .i64 n] M [] fun v _ _ => v = .tuple #[.int .i64 ((n + 127) / 128), .int .i64 0] := by
  refine spec_body (vs := [_]) 18 _ Try.func14 rfl Try.ntmps14 rfl rfl ?_; intro W
  refine jc_seq ?_
  refine jc_region ?_
  iterate 2 refine jp rfl ?_
  refine jl_nil ?_
  refine jT ?_
  refine jc_seq ?_
  refine jc_seq ?_
  refine jc_region ?_
  refine jp rfl ?_
  refine jf rfl (decide_eq_false (by omega)) ?_
  iterate 2 refine jp rfl ?_
  refine jf rfl (decide_eq_false (by omega)) ?_
  refine jp rfl ?_
  refine jl_nil ?_
  refine jT ?_
  refine jc_no rfl ?_
  refine jc_skip ?_
  refine jT ?_
  refine jc_seq ?_
  refine jc_region ?_
  refine jp rfl ?_
  refine jl_nil ?_
  refine jT ?_
  refine jc_seq ?_
  refine jc_block ?_
  refine jc_loopK (α := Nat) (fun k => [(0, .int .i64 n), (4, .int .i64 k)]) (fun _ => M) (fun _ => []) (fun k => (k : Int) ≤ (n + 127) / 128) (fun k => 32 - k)
    0 (Keep.cons (t := 0) rfl (Keep.cons (t := 4) rfl Keep.nil)) (by omega) (fun _ h => h) ?_
  rintro k hk
  try dsimp only at hk ⊢
  refine jc_seq ?_
  refine jc_seq ?_
  refine jc_region ?_
  refine jp rfl ?_
  refine ja rfl (by omega) ?_
  refine jp rfl ?_
  refine js rfl (fun h14 => ?_) (fun h14 => ?_)
  · refine jl_nil ?_
    refine jT ?_
    refine jc_yes rfl ?_
    refine jc_skip ?_
    refine jT ?_
    refine jc_block ?_
    refine jc_region ?_
    refine jp rfl ?_
    refine ja rfl (by omega) ?_
    refine jp rfl ?_
    refine jl_nil ?_
    refine jB ?_
    refine j_again (k + 1) (Keep.cons (t := 0) rfl (Keep.cons (t := 4) rfl Keep.nil)) (by omega) (by omega) (fun _ h => h)
  · refine jl_nil ?_
    refine jT ?_
    refine jc_no rfl ?_
    refine jc_exit ?_
    refine jTx ?_
    refine jTx ?_
    refine jBx ?_
    refine jT ?_
    refine jc_seq ?_
    refine jc_region ?_
    iterate 3 refine jp rfl ?_
    refine jl_nil ?_
    refine jT ?_
    refine jc_ret ?_
    refine jr2 rfl rfl rfl ?_
    rw [show (k : Int) = (n + 127) / 128 by omega]

theorem rmany_no1 (n : Int) (M : Mem) (h : n < 0) :
    SpecL Try.prog 14 #[.int .i64 n] M [] fun v _ _ => v = .tuple #[.int .i64 0, .int .i64 2] := by
  refine spec_body (vs := [_]) 18 _ Try.func14 rfl Try.ntmps14 rfl rfl ?_; intro W
  refine jc_seq ?_
  refine jc_region ?_
  iterate 2 refine jp rfl ?_
  refine jl_nil ?_
  refine jT ?_
  refine jc_seq ?_
  refine jc_seq ?_
  refine jc_region ?_
  refine jp rfl ?_
  refine jt rfl (decide_eq_true (by omega)) ?_
  iterate 4 refine jp rfl ?_
  refine jl_nil ?_
  refine jT ?_
  refine jc_yes rfl ?_
  refine jc_seq ?_
  refine jc_region ?_
  iterate 2 refine jp rfl ?_
  refine jl_nil ?_
  refine jT ?_
  refine jc_ret ?_
  refine jTr ?_
  refine jr2 rfl rfl rfl ?_
  rfl

theorem rmany_no2 (n : Int) (M : Mem) (h : 4096 < n) :
    SpecL Try.prog 14 #[.int .i64 n] M [] fun v _ _ => v = .tuple #[.int .i64 0, .int .i64 2] := by
  refine spec_body (vs := [_]) 18 _ Try.func14 rfl Try.ntmps14 rfl rfl ?_; intro W
  refine jc_seq ?_
  refine jc_region ?_
  iterate 2 refine jp rfl ?_
  refine jl_nil ?_
  refine jT ?_
  refine jc_seq ?_
  refine jc_seq ?_
  refine jc_region ?_
  refine jp rfl ?_
  refine jf rfl (decide_eq_false (by omega)) ?_
  iterate 2 refine jp rfl ?_
  refine jt rfl (decide_eq_true (by omega)) ?_
  refine jp rfl ?_
  refine jl_nil ?_
  refine jT ?_
  refine jc_yes rfl ?_
  refine jc_seq ?_
  refine jc_region ?_
  iterate 2 refine jp rfl ?_
  refine jl_nil ?_
  refine jT ?_
  refine jc_ret ?_
  refine jTr ?_
  refine jr2 rfl rfl rfl ?_
  rfl


theorem rcheck_spec (p : Pc) (M : Mem) : SpecL Try.prog 17 #[.agg (pcells p).toArray] M [] fun v _ _ => v = .int .i64 (chk p) := by
  by_cases h : p.1 < 0 ∨ 32 ≤ p.1 ∨ p.2.1 < 0 ∨ p.2.2 ≤ p.2.1 ∨ 128 < p.2.2
  · exact rcheck_no p M h
  · exact rcheck_ok p M h
def manyV (n : Int) : Int := if 0 ≤ n ∧ n ≤ 4096 then (n + 127) / 128 else 0
def manyE (n : Int) : Int := if 0 ≤ n ∧ n ≤ 4096 then 0 else 2
theorem many_any (n : Int) (M : Mem) : SpecL Try.prog 11 #[.int .i64 n] M [] fun v _ _ => v = .tuple #[.int .i64 (manyV n), .int .i64 (manyE n)] := by
  unfold manyV manyE
  by_cases h1 : n < 0
  · rw [if_neg (by omega), if_neg (by omega)]; exact many_no1 n M h1
  by_cases h2 : 4096 < n
  · rw [if_neg (by omega), if_neg (by omega)]; exact many_no2 n M h2
  · rw [if_pos (by omega), if_pos (by omega)]; exact many_ok n M (by omega) (by omega)
theorem rmany_any (n : Int) (M : Mem) : SpecL Try.prog 14 #[.int .i64 n] M [] fun v _ _ => v = .tuple #[.int .i64 (manyV n), .int .i64 (manyE n)] := by
  unfold manyV manyE
  by_cases h1 : n < 0
  · rw [if_neg (by omega), if_neg (by omega)]; exact rmany_no1 n M h1
  by_cases h2 : 4096 < n
  · rw [if_neg (by omega), if_neg (by omega)]; exact rmany_no2 n M h2
  · rw [if_pos (by omega), if_pos (by omega)]; exact rmany_ok n M (by omega) (by omega)
def cutOk (a n : Int) : Prop := 0 ≤ a ∧ a ≤ 4096 ∧ 0 ≤ n ∧ n ≤ 4096 - a
instance (a n : Int) : Decidable (cutOk a n) := inferInstanceAs (Decidable (_ ∧ _))
def cutE (a n : Int) : Int := if cutOk a n then 0 else 2
def cutL (a n : Int) : List Pc := if cutOk a n then cutTo a n 32 else []
theorem cutL_len (a n : Int) : (cutL a n).length ≤ 32 := by unfold cutL; split; exact cut_len _ _ _; simp
theorem cut_any (a n : Int) (M : Mem) : SpecL Try.prog 12 #[.int .i64 a, .int .i64 n] M [] fun v _ L' => ∃ s, v = .tuple #[s, .int .i64 (cutE a n)] ∧ Own s L' PT 3 (cutL a n).length ((cutL a n).flatMap pcells) := by
  unfold cutE cutL
  by_cases h : cutOk a n
  · rw [if_pos h, if_pos h]; exact cut_ok a n M h.1 h.2.1 h.2.2.1 h.2.2.2
  · rw [if_neg h, if_neg h]
    unfold cutOk at h
    have k : SpecL Try.prog 12 #[.int .i64 a, .int .i64 n] M [] fun v _ _ => v = .tuple #[.slice none 0 0, .int .i64 2] := by
      by_cases h1 : a < 0
      · exact cut_no0 a n M h1
      by_cases h2 : 4096 < a
      · exact cut_no1 a n M h2
      by_cases h3 : n < 0
      · exact cut_no2 a n M (by omega)
      · exact cut_no3 a n M (by omega)
    intro w hw
    refine (k w hw).mono fun e w' hh => ?_
    obtain ⟨v, M', L', h1, h2, h3⟩ := hh
    exact ⟨v, M', [], h1, ⟨_, h2, Own.nil _ _⟩, h3.fewer (by simp)⟩

/-! byte by byte -/
theorem cutAt_none {a n : Int} {k : Nat} (h : a + n ≤ (k : Int) * 128) : cutAt a n k = [] := by unfold cutAt; rw [if_neg (by omega)]
theorem cutTo_stop (a n : Int) (k : Nat) (h : a + n ≤ (k : Int) * 128) : ∀ m, k ≤ m → cutTo a n m = cutTo a n k
  | 0, hm => by have : k = 0 := by omega
                subst this; rfl
  | m + 1, hm => by
    by_cases e : k = m + 1
    · subst e; rfl
    · rw [cutTo, cutTo_stop a n k h m (by omega), cutAt_none (by omega)]; simp
theorem cutAt_full {a n n' : Int} {k : Nat} (h : (k : Int) * 128 + 128 ≤ a + n) (h' : (k : Int) * 128 + 128 ≤ a + n') : cutAt a n k = cutAt a n' k := by
  unfold cutAt
  have e : min (a + n - k * 128) 128 = min (a + n' - k * 128) 128 := by omega
  rw [e]
theorem cutTo_full (a n n' : Int) : ∀ k : Nat, (k : Int) * 128 ≤ a + n → (k : Int) * 128 ≤ a + n' → cutTo a n k = cutTo a n' k
  | 0, _, _ => rfl
  | k + 1, h, h' => by rw [cutTo, cutTo, cutTo_full a n n' k (by omega) (by omega), cutAt_full (n' := n') (by omega) (by omega)]
/-- the pieces end with the block of the last byte -/
theorem cut_split (a : Int) (k : Nat) (h0 : 0 ≤ a) (hk : a + k + 1 ≤ 4096) : ∃ l0, cutTo a (k + 1) 32 = l0 ++ [((a + k) / 128, max (a - (a + k) / 128 * 128) 0, (a + k) % 128 + 1)] ∧
    ((max (a - (a + k) / 128 * 128) 0 ≤ (a + k) % 128 - 1 ∧ cutTo a k 32 = l0 ++ [((a + k) / 128, max (a - (a + k) / 128 * 128) 0, (a + k) % 128)]) ∨
     (max (a - (a + k) / 128 * 128) 0 = (a + k) % 128 ∧ cutTo a k 32 = l0 ∧ ∀ q, l0.getLast? = some q → q.1 < (a + k) / 128)) := by
  obtain ⟨b, hb⟩ : ∃ b : Nat, (b : Int) = (a + k) / 128 := ⟨((a + k) / 128).toNat, by omega⟩
  have hlast : ∀ (m : Nat) (q : Pc), (cutTo a k m).getLast? = some q → q.1 < m := by
    intro m
    induction m with
    | zero => intro q h; simp [cutTo] at h
    | succ m ih =>
      intro q h
      rw [cutTo] at h
      unfold cutAt at h
      split at h
      · simp at h; subst h; simp; omega
      · rw [List.append_nil] at h; have := ih q h; omega
  rw [← hb]
  have e1 : cutTo a (k + 1) 32 = cutTo a (k + 1) b ++ cutAt a (k + 1) b := by
    rw [cutTo_stop a (k + 1) (b + 1) (by omega) 32 (by omega)]; rfl
  have e2 : cutTo a k 32 = cutTo a k b ++ cutAt a k b := by
    rw [cutTo_stop a k (b + 1) (by omega) 32 (by omega)]; rfl
  have e3 : cutTo a (k + 1) b = cutTo a k b := cutTo_full a (k + 1) k b (by omega) (by omega)
  have e4 : cutAt a (k + 1) b = [((b : Int), max (a - b * 128) 0, (a + k) % 128 + 1)] := by
    unfold cutAt; rw [if_pos (by omega)]
    have : min (a + (k + 1) - b * 128) 128 = (a + k) % 128 + 1 := by omega
    rw [this]
  refine ⟨cutTo a k b, by rw [e1, e3, e4], ?_⟩
  by_cases h : max (a - b * 128) 0 < min (a + k - b * 128) 128
  · left
    refine ⟨by omega, ?_⟩
    rw [e2]; unfold cutAt; rw [if_pos h]
    have : min (a + k - b * 128) 128 = (a + k) % 128 := by omega
    rw [this]
  · right
    refine ⟨by omega, ?_, fun q hq => hlast b q hq⟩
    rw [e2]; unfold cutAt; rw [if_neg h]; simp

end Go.Proofs.Ytjmkgfamonallaa
