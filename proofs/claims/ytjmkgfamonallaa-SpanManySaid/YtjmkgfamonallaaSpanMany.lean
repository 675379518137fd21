/- SpanMany: so many bytes have as many blocks as their pieces from the beginning on, a byte more has one more just where the last block is full; any size. -/
import Derived.Test.YtjmkgfamonallaaSpanA
import Derived.Test.YtjmkgfamonallaaLaw
namespace Go.Proofs.Ytjmkgfamonallaa
open Go.ChangeShapes Go.WideShapes Go.ChangeAt Go.RowKit

theorem cutAt_zero_len (n : Int) (k : Nat) : (cutAt 0 n k).length = if (k : Int) * 128 < n then 1 else 0 := by
  unfold cutAt
  by_cases h : (k : Int) * 128 < n
  · rw [if_pos h, if_pos (by omega)]; rfl
  · rw [if_neg h, if_neg (by omega)]; rfl
theorem cut_zero_len (n : Int) (h0 : 0 ≤ n) : ∀ k : Nat, ((cutTo 0 n k).length : Int) = min (k : Int) ((n + 127) / 128)
  | 0 => by simp [cutTo]; omega
  | k + 1 => by
    have := cut_zero_len n h0 k
    simp only [cutTo, List.length_append, cutAt_zero_len]
    split <;> omega

theorem spanMany_lo (n : Int) (M : Mem) (h : n < 0) :
    SpecL Try.prog 3 #[.int .i64 n] M [] fun v _ _ => v = .bool true := by
  refine spec_body (vs := [_]) 70 _ Try.func3 rfl Try.ntmps3 rfl rfl ?_; intro W
  refine jc_seq ?_
  refine jc_region ?_
  refine jp rfl ?_
  refine jl_nil ?_
  refine jT ?_
  refine jc_seq ?_
  refine jc_region ?_
  refine jl_q rfl rfl (qCall rfl rfl rfl rfl rfl (by kernel_rfl) (alive_spec _)) ?_
  refine jp rfl ?_
  refine jl_nil ?_
  refine jT ?_
  refine jc_seq ?_
  refine jc_region ?_
  refine jp rfl ?_
  refine jl_q rfl rfl (qCall rfl rfl rfl rfl rfl (by kernel_rfl) (many_no1 n M h)) ?_
  iterate 5 refine jp rfl ?_
  refine jl_nil ?_
  refine jT ?_
  refine jc_seq ?_
  refine jc_region ?_
  refine jp rfl ?_
  refine jl_q rfl rfl (qCall rfl rfl rfl rfl rfl (by kernel_rfl) (cut_no2 0 n M (by omega))) ?_
  iterate 5 refine jp rfl ?_
  refine jl_nil ?_
  refine jT ?_
  refine jc_seq ?_
  refine jc_seq ?_
  refine jc_region ?_
  refine jp rfl ?_
  refine jt rfl (decide_eq_true (by omega)) ?_
  iterate 8 refine jp rfl ?_
  refine jl_nil ?_
  refine jT ?_
  refine jc_yes rfl ?_
  refine jc_seq ?_
  refine jc_region ?_
  iterate 4 refine jp rfl ?_
  refine jt rfl (decide_eq_true (by omega)) ?_
  iterate 6 refine jp rfl ?_
  refine jl_nil ?_
  refine jT ?_
  refine jc_ret ?_
  refine jTr ?_
  refine jr1 rfl rfl ?_
  rfl

theorem spanMany_hi (n : Int) (M : Mem) (h : 4096 < n) :
    SpecL Try.prog 3 #[.int .i64 n] M [] fun v _ _ => v = .bool true := by
  refine spec_body (vs := [_]) 70 _ Try.func3 rfl Try.ntmps3 rfl rfl ?_; intro W
  refine jc_seq ?_
  refine jc_region ?_
  refine jp rfl ?_
  refine jl_nil ?_
  refine jT ?_
  refine jc_seq ?_
  refine jc_region ?_
  refine jl_q rfl rfl (qCall rfl rfl rfl rfl rfl (by kernel_rfl) (alive_spec _)) ?_
  refine jp rfl ?_
  refine jl_nil ?_
  refine jT ?_
  refine jc_seq ?_
  refine jc_region ?_
  refine jp rfl ?_
  refine jl_q rfl rfl (qCall rfl rfl rfl rfl rfl (by kernel_rfl) (many_no2 n M h)) ?_
  iterate 5 refine jp rfl ?_
  refine jl_nil ?_
  refine jT ?_
  refine jc_seq ?_
  refine jc_region ?_
  refine jp rfl ?_
  refine jl_q rfl rfl (qCall rfl rfl rfl rfl rfl (by kernel_rfl) (cut_no3 0 n M (by omega))) ?_
  iterate 5 refine jp rfl ?_
  refine jl_nil ?_
  refine jT ?_
  refine jc_seq ?_
  refine jc_seq ?_
  refine jc_region ?_
  refine jp rfl ?_
  refine jt rfl (decide_eq_true (by omega)) ?_
  iterate 8 refine jp rfl ?_
  refine jl_nil ?_
  refine jT ?_
  refine jc_yes rfl ?_
  refine jc_seq ?_
  refine jc_region ?_
  iterate 4 refine jp rfl ?_
  refine jt rfl (decide_eq_true (by omega)) ?_
  iterate 6 refine jp rfl ?_
  refine jl_nil ?_
  refine jT ?_
  refine jc_ret ?_
  refine jTr ?_
  refine jr1 rfl rfl ?_
  rfl

theorem spanMany_top (n : Int) (M : Mem) (h : n = 4096) :
    SpecL Try.prog 3 #[.int .i64 n] M [] fun v _ _ => v = .bool true := by
  refine spec_body (vs := [_]) 70 _ Try.func3 rfl Try.ntmps3 rfl rfl ?_; intro W
  refine jc_seq ?_
  refine jc_region ?_
  refine jp rfl ?_
  refine jl_nil ?_
  refine jT ?_
  refine jc_seq ?_
  refine jc_region ?_
  refine jl_q rfl rfl (qCall rfl rfl rfl rfl rfl (by kernel_rfl) (alive_spec _)) ?_
  refine jp rfl ?_
  refine jl_nil ?_
  refine jT ?_
  refine jc_seq ?_
  refine jc_region ?_
  refine jp rfl ?_
  refine jl_q rfl rfl (qCall rfl rfl rfl rfl rfl (by kernel_rfl) (many_ok n M (by omega) (by omega))) ?_
  iterate 5 refine jp rfl ?_
  refine jl_nil ?_
  refine jT ?_
  refine jc_seq ?_
  refine jc_region ?_
  refine jp rfl ?_
  refine jl_h rfl rfl (hCall rfl rfl rfl rfl rfl (by kernel_rfl) (cut_ok 0 n M (by omega) (by omega) (by omega) (by omega))) ?_; rintro _ _ _ ⟨_, _, rfl, ⟨s, rfl, hown⟩⟩
  have hln := cut_zero_len n (by omega) 32
  refine jl_own hown (by simp) ?_
  intro M0 a1 c1 hM1 e1 hc1 hs1; subst e1
  iterate 5 refine jp rfl ?_
  refine jl_nil ?_
  refine jT ?_
  refine jc_seq ?_
  refine jc_seq ?_
  refine jc_region ?_
  refine jp rfl ?_
  refine jf rfl (decide_eq_false (by omega)) ?_
  iterate 2 refine jp rfl ?_
  refine jf rfl (decide_eq_false (by omega)) ?_
  iterate 5 refine jp rfl ?_
  refine jl_nil ?_
  refine jT ?_
  refine jc_no rfl ?_
  refine jc_skip ?_
  refine jT ?_
  refine jc_seq ?_
  refine jc_region ?_
  refine jp rfl ?_
  refine ja rfl (by omega) ?_
  refine jl_q rfl rfl (qCall rfl rfl rfl rfl rfl (by kernel_rfl) (many_no2 (n + 1) M0 (by omega))) ?_
  iterate 5 refine jp rfl ?_
  refine jl_nil ?_
  refine jT ?_
  refine jc_seq ?_
  refine jc_region ?_
  iterate 2 refine jp rfl ?_
  refine jl_q rfl rfl (qLen rfl rfl rfl) ?_
  refine jt rfl (decide_eq_true (by omega)) ?_
  iterate 2 refine jp rfl ?_
  refine jt rfl (decide_eq_true (by omega)) ?_
  iterate 17 refine jp rfl ?_
  refine jl_nil ?_
  refine jT ?_
  refine jc_ret ?_
  refine jr1 rfl rfl ?_
  rfl

theorem spanMany_ok (n : Int) (M : Mem) (h : 0 ≤ n ∧ n < 4096) :
    SpecL Try.prog 3 #[.int .i64 n] M [] fun v _ _ => v = .bool true := by
  refine spec_body (vs := [_]) 70 _ Try.func3 rfl Try.ntmps3 rfl rfl ?_; intro W
  refine jc_seq ?_
  refine jc_region ?_
  refine jp rfl ?_
  refine jl_nil ?_
  refine jT ?_
  refine jc_seq ?_
  refine jc_region ?_
  refine jl_q rfl rfl (qCall rfl rfl rfl rfl rfl (by kernel_rfl) (alive_spec _)) ?_
  refine jp rfl ?_
  refine jl_nil ?_
  refine jT ?_
  refine jc_seq ?_
  refine jc_region ?_
  refine jp rfl ?_
  refine jl_q rfl rfl (qCall rfl rfl rfl rfl rfl (by kernel_rfl) (many_ok n M (by omega) (by omega))) ?_
  iterate 5 refine jp rfl ?_
  refine jl_nil ?_
  refine jT ?_
  refine jc_seq ?_
  refine jc_region ?_
  refine jp rfl ?_
  refine jl_h rfl rfl (hCall rfl rfl rfl rfl rfl (by kernel_rfl) (cut_ok 0 n M (by omega) (by omega) (by omega) (by omega))) ?_; rintro _ _ _ ⟨_, _, rfl, ⟨s, rfl, hown⟩⟩
  have hln := cut_zero_len n (by omega) 32
  refine jl_own hown (by simp) ?_
  intro M0 a1 c1 hM1 e1 hc1 hs1; subst e1
  iterate 5 refine jp rfl ?_
  refine jl_nil ?_
  refine jT ?_
  refine jc_seq ?_
  refine jc_seq ?_
  refine jc_region ?_
  refine jp rfl ?_
  refine jf rfl (decide_eq_false (by omega)) ?_
  iterate 2 refine jp rfl ?_
  refine jf rfl (decide_eq_false (by omega)) ?_
  iterate 5 refine jp rfl ?_
  refine jl_nil ?_
  refine jT ?_
  refine jc_no rfl ?_
  refine jc_skip ?_
  refine jT ?_
  refine jc_seq ?_
  refine jc_region ?_
  refine jp rfl ?_
  refine ja rfl (by omega) ?_
  refine jl_q rfl rfl (qCall rfl rfl rfl rfl rfl (by kernel_rfl) (many_ok (n + 1) M0 (by omega) (by omega))) ?_
  iterate 5 refine jp rfl ?_
  refine jl_nil ?_
  refine jT ?_
  refine jc_seq ?_
  refine jc_region ?_
  iterate 2 refine jp rfl ?_
  refine jl_q rfl rfl (qLen rfl rfl rfl) ?_
  refine jt rfl (decide_eq_true (by omega)) ?_
  iterate 2 refine jp rfl ?_
  refine jf rfl (decide_eq_false (by omega)) ?_
  iterate 3 refine jp rfl ?_
  refine ja rfl (by omega) ?_
  iterate 2 refine jp rfl ?_
  refine jl_q rfl rfl (qRem rfl rfl rfl rfl (by omega) (by omega)) ?_
  refine jp rfl ?_
  refine jl_q rfl rfl (qEq (qEqB rfl rfl rfl rfl) (v' := .bool true) (by have e : ((n + 1 + 127) / 128 = (n + 127) / 128 + 1) ↔ n % 128 = 0 := (by omega); simp [e])) ?_
  iterate 8 refine jp rfl ?_
  refine jl_nil ?_
  refine jT ?_
  refine jc_ret ?_
  refine jr1 rfl rfl ?_
  simp <;> omega


theorem spanMany_spec (n : Int) (M : Mem) : SpecL Try.prog 3 #[.int .i64 n] M [] fun v _ _ => v = .bool true := by
  by_cases h1 : n < 0
  · exact spanMany_lo n M h1
  by_cases h2 : 4096 < n
  · exact spanMany_hi n M h2
  by_cases h3 : n = 4096
  · exact spanMany_top n M h3
  · exact spanMany_ok n M (by omega)

set_option maxRecDepth 100000 in
theorem spanMany_lifted (os : Os) (started : os.Started) (H : Type) (enc : TypeId × Value → H) :
    ReturnsInHanded {} Try.checked os 3 .any (Rows.spanManySpec.pre6 enc Try.prog Try.f3 Rows.spanManyRow.domain false) (Rows.spanManySpec.post enc Try.prog Try.f3 false true false false) := by
  refine returnsInHanded_of_change (C := Try.checked) A.own started (by kernel_rfl) Try.func3
    (ChangeSpec.witness6 (enc := enc) (C := Try.checked) false ⟨#[], #[.int .i64 0], []⟩ 8 (by kernel_rfl) (by kernel_rfl) (by kernel_rfl) (by kernel_rfl)) ?_
  intro W base args ds gs before hval0 hW hcnd _
  have hval : ∀ (j : Nat) t v, Try.f3.params[j]? = some t → args[j]? = some v → Value.okWide Try.prog W .any base t v := hval0
  have hW' := hW
  obtain ⟨p, q, hA0, hV, rfl, hfz, hnd⟩ := hW
  have hA : DataW.TrodAll enc Try.prog W 0 (fun _ => true) true Try.f3.params.toList args.toList ds p := hA0
  rw [Try.params3] at hA hval
  obtain ⟨v0, d0, rfl, rfl, h0⟩ := trodAll_one hA
  obtain ⟨rfl, rfl⟩ := trodVars_none hV
  obtain ⟨n, rfl, rfl, rfl, w0⟩ := open_int Try.underlying3 (hval 0 3 v0 rfl rfl) h0
  refine (spanMany_spec n (memOf W)).run.mono fun e W' ⟨he, hb⟩ => ?_
  subst he
  exact ⟨_, rfl, law_post hW' (by kernel_rfl) rfl rfl rfl hb⟩

theorem spanMany_holds : Rows.SpanManySaid :=
  OpenClaim.holds_of_wide 3 Try.f3 rfl rfl rfl rfl rfl rfl rfl ⟨rfl, rfl, rfl, rfl, rfl⟩ rfl rfl rfl rfl rfl (by kernel_rfl) Try.func3 (by kernel_rfl)
    (of_decide_eq_true (by kernel_rfl)) (by unfold Func.isWrapper; first | (rw [if_pos (by decide +kernel)]; kernel_rfl) | (rw [if_neg (by decide +kernel)]; exact ⟨rfl, rfl⟩))
    (fun os started H enc _ => spanMany_lifted os started H enc)
end Go.Proofs.Ytjmkgfamonallaa
