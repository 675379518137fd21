/- Walks: superblocks written. -/
import Derived.Test.YtjdmhbenpeedeaaGreatCnt
import Derived.Test.YtjdmhbenpeedeaaGreatTake
namespace Go.Proofs.YtjdmhbenpeedeaaGreat
set_option linter.unusedVariables false
set_option linter.unusedSimpArgs false
open Go.RowKit

abbrev TSu : TypeId := 55
structure Su where
  gen : Int
  root : Int
  next : Int
  table : Int
  dead : List Int
abbrev suc (x : Su) (dv : Value) : List Value := [.int .u32 x.gen, .int .i64 x.root, .int .u32 x.next, .int .u32 x.table, dv]
def tk (x : Int) : Prop := 8 ≤ x ∧ x < 256
instance (x : Int) : Decidable (tk x) := by unfold tk; exact inferInstance
def ixB : List Int → Int → Int
  | [], _ => -1
  | x :: xs, i => if tk x then ixB xs (i + 1) else i
theorem ixB_on {xs : List Int} {k : Nat} (h : k < xs.length) (ht : tk xs[k]) : ixB (xs.drop k) k = ixB (xs.drop (k + 1)) ((k + 1 : Nat) : Int) := by
  rw [List.drop_eq_getElem_cons h, ixB, if_pos ht]; rfl
theorem ixB_off {xs : List Int} {k : Nat} (h : k < xs.length) (ht : ¬ tk xs[k]) : ixB (xs.drop k) k = k := by
  rw [List.drop_eq_getElem_cons h, ixB, if_neg ht]
theorem ixB_is : ∀ (xs : List Int) (i : Int), 0 ≤ i → (0 ≤ ixB xs i ↔ ∃ x ∈ xs, ¬ tk x)
  | [], i, _ => by simp [ixB]
  | x :: xs, i, hi => by
    rw [ixB]
    split
    · rename_i h
      rw [ixB_is xs (i + 1) (by omega)]
      simp [h]
    · rename_i h; exact ⟨fun _ => ⟨x, by simp, h⟩, fun _ => hi⟩
def suOk (x : Su) : Prop := (∀ y ∈ x.dead, tk y) ∧ tk x.root ∧ x.dead.length ≤ 40
instance (x : Su) : Decidable (suOk x) := by unfold suOk; exact inferInstance
def suChk (x : Su) : Int := if suOk x then 0 else 8
def suHead (x : Su) : List By := [fourB x.gen, twoB x.root, fourB x.next, fourB x.table, [bU x.dead.length]].flatten
def suRaw (x : Su) : List By := suHead x ++ x.dead.flatMap twoB
def suB (x : Su) : List By := sealB (suRaw x)
theorem suHead_len (x : Su) : (suHead x).length = 15 := rfl
theorem twos_len (xs : List Int) : (xs.flatMap twoB).length = 2 * xs.length := by
  induction xs with
  | nil => rfl
  | cons x xs ih => rw [List.flatMap_cons, List.length_append, ih, List.length_cons]; show 2 + _ = _; omega
theorem suRaw_len (x : Su) : (suRaw x).length = 15 + 2 * x.dead.length := by unfold suRaw; rw [List.length_append, suHead_len, twos_len]
theorem suB_len {x : Su} (h : suOk x) : (suB x).length = 128 := sealB_len (by rw [suRaw_len]; have := h.2.2; omega)
theorem twos_step {xs : List Int} {k : Nat} (h : k < xs.length) : (xs.take (k + 1)).flatMap twoB = (xs.take k).flatMap twoB ++ twoB xs[k] := by
  rw [List.take_succ_eq_append_getElem h, List.flatMap_append]; simp

theorem taken_spec (x : Int) (M : Mem) :
    SpecL Tryz.prog 142 #[.int .i64 x] M [] fun u _ _ => u = .bool (decide (tk x)) := by
  refine spec_body (vs := [_]) 9 _ Tryz.func142 rfl Tryz.ntmps142 rfl rfl ?_; intro W
  refine jc_seq ?_
  refine jc_region ?_
  refine jp rfl ?_
  refine jl_nil ?_
  refine jT ?_
  refine jc_seq ?_
  refine jc_region ?_
  refine jp rfl ?_
  refine js rfl (fun h4 => ?_) (fun h4 => ?_)
  · iterate 5 refine jp rfl ?_
    refine jl_nil ?_
    refine jT ?_
    refine jc_ret ?_
    refine jr1 rfl rfl ?_
    show Value.bool (decide (x < 256)) = _
    congr 1; exact decide_eq_decide.2 ⟨fun h => ⟨h4, h⟩, fun h => h.2⟩
  · iterate 5 refine jp rfl ?_
    refine jl_nil ?_
    refine jT ?_
    refine jc_ret ?_
    refine jr1 rfl rfl ?_
    show Value.bool false = _
    congr 1; exact (decide_eq_false (fun h => h4 h.1)).symm

theorem nottk_spec (x : Int) (M : Mem) :
    SpecL Tryz.prog 141 #[.int .i64 x] M [] fun u _ _ => u = .bool (!decide (tk x)) := by
  refine spec_body (vs := [_]) 6 _ Tryz.func141 rfl Tryz.ntmps141 rfl rfl ?_; intro W
  refine jc_seq ?_
  refine jc_region ?_
  refine jp rfl ?_
  refine jl_nil ?_
  refine jT ?_
  refine jc_seq ?_
  refine jc_region ?_
  refine jp rfl ?_
  refine jl_q rfl rfl (qCall rfl rfl rfl rfl rfl (by kernel_rfl) (taken_spec x M)) ?_
  iterate 2 refine jp rfl ?_
  refine jl_nil ?_
  refine jT ?_
  refine jc_ret ?_
  refine jr1 rfl rfl ?_
  rfl

theorem ixf_spec (xs : List Int) (a : Option Addr) (c : Nat) (M : Mem) (hs : SM M a (icells xs)) (hn : xs.length ≤ 1000000) :
    SpecL Tryz.prog 160 #[.slice a xs.length c, .func (.func 141) #[] #[]] M [] fun u _ _ => u = .int .i64 (ixB xs 0) := by
  refine spec_body (vs := [_, _]) 19 _ Tryz.func160 rfl Tryz.ntmps160 rfl rfl ?_; intro W
  refine jc_seq ?_
  refine jc_region ?_
  refine jp rfl ?_
  refine jl_nil ?_
  refine jT ?_
  refine jc_seq ?_
  refine jc_seq ?_
  refine jc_region ?_
  refine jp rfl ?_
  refine jl_q rfl rfl (qLen rfl rfl rfl) ?_
  refine jp rfl ?_
  refine jl_nil ?_
  refine jT ?_
  refine jc_block ?_
  refine jc_loopK (α := Nat) (fun k => [(0, .slice a xs.length c), (1, .func (.func 141) #[] #[]), (7, .int .i64 xs.length), (8, .int .i64 k)]) (fun _ => M) (fun _ => []) (fun k => k ≤ xs.length ∧ ixB xs 0 = ixB (xs.drop k) k) (fun k => xs.length - k)
    0 (Keep.cons (t := 0) rfl (Keep.cons (t := 1) rfl (Keep.cons (t := 7) rfl (Keep.cons (t := 8) rfl Keep.nil)))) ⟨Nat.zero_le _, rfl⟩ (fun _ h => h) ?_
  rintro k ⟨hk, hI⟩
  try dsimp only at hk hI ⊢
  refine jc_seq ?_
  refine jc_region ?_
  refine js rfl (fun h9 => ?_) (fun h9 => ?_)
  · refine jl_nil ?_
    refine jT ?_
    refine jc_seq ?_
    refine jc_yes rfl ?_
    refine jc_skip ?_
    refine jT ?_
    refine jc_seq ?_
    refine jc_block ?_
    refine jc_seq ?_
    refine jc_region ?_
    iterate 2 refine jp rfl ?_
    refine jl_nil ?_
    refine jT ?_
    refine jc_seq ?_
    refine jc_region ?_
    iterate 3 refine jp rfl ?_
    have hk1 : k < xs.length := by omega
    obtain ⟨sb, so, e0, hx⟩ := hs.open (by intro e; have := congrArg List.length e; rw [icells_len, List.length_nil] at this; omega)
    subst e0
    refine jl_q rfl rfl (qIdxS rfl rfl rfl rfl (by omega)) ?_
    refine jl_q rfl rfl (qLd (v := .int .i64 xs[k]) rfl rfl rfl rfl ((hx _ _ (by rw [Nat.mul_one]; simp [icells, hk1])).cj _)) ?_
    refine jl_qb rfl rfl (qCall rfl rfl rfl rfl rfl (by kernel_rfl) (nottk_spec xs[k] M)) (fun h16 => ?_) (fun h16 => ?_)
    · refine jl_nil ?_
      refine jT ?_
      refine jc_yes rfl ?_
      refine jc_seq ?_
      refine jc_region ?_
      iterate 2 refine jp rfl ?_
      refine jl_nil ?_
      refine jT ?_
      refine jc_ret ?_
      refine jBr ?_
      refine jTr ?_
      refine jTr ?_
      refine jBr ?_
      refine jTr ?_
      refine jr1 rfl rfl ?_
      rw [hI, ixB_off hk1 (by simpa using h16)]
    · refine jl_nil ?_
      refine jT ?_
      refine jc_no rfl ?_
      refine jc_skip ?_
      refine jB ?_
      refine jT ?_
      refine jc_region ?_
      refine ja rfl (by omega) ?_
      refine jp rfl ?_
      refine jl_nil ?_
      refine j_again (k + 1) (Keep.cons (t := 0) rfl (Keep.cons (t := 1) rfl (Keep.cons (t := 7) rfl (Keep.cons (t := 8) rfl Keep.nil)))) ⟨by omega, by rw [hI]; exact ixB_on hk1 (by simpa using h16)⟩ (by omega) (fun _ h => h)
  · refine jl_nil ?_
    refine jT ?_
    refine jc_seq ?_
    refine jc_no rfl ?_
    refine jc_exit ?_
    refine jTx ?_
    refine jTx ?_
    refine jBx ?_
    refine jT ?_
    refine jc_seq ?_
    refine jc_region ?_
    refine jp rfl ?_
    refine jl_nil ?_
    refine jT ?_
    refine jc_ret ?_
    refine jr1 rfl rfl ?_
    obtain rfl : k = xs.length := by omega
    rw [hI, List.drop_length]; rfl

theorem cof_spec (xs : List Int) (a : Option Addr) (c : Nat) (M : Mem) (hs : SM M a (icells xs)) (hn : xs.length ≤ 1000000) :
    SpecL Tryz.prog 140 #[.slice a xs.length c, .func (.func 141) #[] #[]] M [] fun u _ _ => u = .bool (decide (∃ x ∈ xs, ¬ tk x)) := by
  refine spec_body (vs := [_, _]) 9 _ Tryz.func140 rfl Tryz.ntmps140 rfl rfl ?_; intro W
  refine jc_seq ?_
  refine jc_region ?_
  refine jp rfl ?_
  refine jl_nil ?_
  refine jT ?_
  refine jc_seq ?_
  refine jc_region ?_
  iterate 2 refine jp rfl ?_
  refine jl_q rfl rfl (qCall rfl rfl rfl rfl rfl (by kernel_rfl) (ixf_spec xs a c M hs hn)) ?_
  iterate 2 refine jp rfl ?_
  refine jl_nil ?_
  refine jT ?_
  refine jc_ret ?_
  refine jr1 rfl rfl ?_
  show Value.bool (decide (0 ≤ ixB xs 0)) = _
  congr 1; exact decide_eq_decide.2 (ixB_is xs 0 (by decide))

theorem sucheck_spec (x : Su) (da : Option Addr) (dc : Nat) (M : Mem) (hdc : x.dead.length ≤ dc) (hds : SM M da (icells x.dead)) (hdl : x.dead.length ≤ 1000000) :
    SpecL Tryz.prog 107 #[.agg (suc x (.slice da x.dead.length dc)).toArray] M [] fun u _ _ => u = .int .i64 (suChk x) := by
  refine spec_body (vs := [_]) 20 _ Tryz.func107 rfl Tryz.ntmps107 rfl rfl ?_; intro W
  refine jc_seq ?_
  refine jc_region ?_
  refine jl_h rfl rfl (hBox (cs := [_, _, _, _, _]) rfl rfl rfl rfl) ?_; rintro _ _ _ ⟨b1, rfl, rfl, rfl⟩
  refine jp rfl ?_
  refine jl_nil ?_
  refine jT ?_
  refine jc_seq ?_
  refine jc_region ?_
  refine jl_q rfl rfl (qFieldAddr rfl rfl rfl rfl rfl) ?_
  refine jl_q rfl rfl (qLd rfl rfl rfl rfl (CJ.loc rfl)) ?_
  refine jl_qb rfl rfl (qCall rfl rfl rfl rfl rfl (by kernel_rfl) (cof_spec x.dead da dc M hds hdl)) (fun h6 => ?_) (fun h6 => ?_)
  · refine jp rfl ?_
    refine jl_nil ?_
    refine jT ?_
    refine jc_seq ?_
    refine jc_seq ?_
    refine jc_region ?_
    iterate 13 refine jp rfl ?_
    refine jl_nil ?_
    refine jT ?_
    refine jc_yes rfl ?_
    refine jc_seq ?_
    refine jc_region ?_
    refine jp rfl ?_
    refine jl_nil ?_
    refine jT ?_
    refine jc_ret ?_
    refine jTr ?_
    refine jr1 rfl rfl ?_
    first | (unfold suChk; rw [if_pos ⟨fun y hy => Classical.byContradiction fun hn => (of_decide_eq_false h6) ⟨y, hy, hn⟩, of_decide_eq_true h11, by omega⟩]; done) | (unfold suChk; rw [if_neg (fun h => by first | (obtain ⟨y, hy, hn⟩ := of_decide_eq_true h6; exact hn (h.1 y hy)) | exact (of_decide_eq_false h11) h.2.1 | (have := h.2.2; omega))])
  · refine jp rfl ?_
    refine jl_nil ?_
    refine jT ?_
    refine jc_seq ?_
    refine jc_seq ?_
    refine jc_region ?_
    iterate 2 refine jp rfl ?_
    refine jl_q rfl rfl (qFieldAddr rfl rfl rfl rfl rfl) ?_
    refine jl_q rfl rfl (qLd rfl rfl rfl rfl (CJ.loc rfl)) ?_
    refine jl_qb rfl rfl (qCall rfl rfl rfl rfl rfl (by kernel_rfl) (taken_spec x.root M)) (fun h11 => ?_) (fun h11 => ?_)
    · iterate 3 refine jp rfl ?_
      refine jl_q rfl rfl (qFieldAddr rfl rfl rfl rfl rfl) ?_
      refine jl_q rfl rfl (qLd rfl rfl rfl rfl (CJ.loc rfl)) ?_
      refine jl_q rfl rfl (qLen rfl rfl rfl) ?_
      refine js rfl (fun h18 => ?_) (fun h18 => ?_)
      · refine jp rfl ?_
        refine jl_nil ?_
        refine jT ?_
        refine jc_yes rfl ?_
        refine jc_seq ?_
        refine jc_region ?_
        refine jp rfl ?_
        refine jl_nil ?_
        refine jT ?_
        refine jc_ret ?_
        refine jTr ?_
        refine jr1 rfl rfl ?_
        first | (unfold suChk; rw [if_pos ⟨fun y hy => Classical.byContradiction fun hn => (of_decide_eq_false h6) ⟨y, hy, hn⟩, of_decide_eq_true h11, by omega⟩]; done) | (unfold suChk; rw [if_neg (fun h => by first | (obtain ⟨y, hy, hn⟩ := of_decide_eq_true h6; exact hn (h.1 y hy)) | exact (of_decide_eq_false h11) h.2.1 | (have := h.2.2; omega))])
      · refine jp rfl ?_
        refine jl_nil ?_
        refine jT ?_
        refine jc_no rfl ?_
        refine jc_skip ?_
        refine jT ?_
        refine jc_seq ?_
        refine jc_region ?_
        refine jp rfl ?_
        refine jl_nil ?_
        refine jT ?_
        refine jc_ret ?_
        refine jr1 rfl rfl ?_
        first | (unfold suChk; rw [if_pos ⟨fun y hy => Classical.byContradiction fun hn => (of_decide_eq_false h6) ⟨y, hy, hn⟩, of_decide_eq_true h11, by omega⟩]; done) | (unfold suChk; rw [if_neg (fun h => by first | (obtain ⟨y, hy, hn⟩ := of_decide_eq_true h6; exact hn (h.1 y hy)) | exact (of_decide_eq_false h11) h.2.1 | (have := h.2.2; omega))])
    · iterate 8 refine jp rfl ?_
      refine jl_nil ?_
      refine jT ?_
      refine jc_yes rfl ?_
      refine jc_seq ?_
      refine jc_region ?_
      refine jp rfl ?_
      refine jl_nil ?_
      refine jT ?_
      refine jc_ret ?_
      refine jTr ?_
      refine jr1 rfl rfl ?_
      first | (unfold suChk; rw [if_pos ⟨fun y hy => Classical.byContradiction fun hn => (of_decide_eq_false h6) ⟨y, hy, hn⟩, of_decide_eq_true h11, by omega⟩]; done) | (unfold suChk; rw [if_neg (fun h => by first | (obtain ⟨y, hy, hn⟩ := of_decide_eq_true h6; exact hn (h.1 y hy)) | exact (of_decide_eq_false h11) h.2.1 | (have := h.2.2; omega))])


theorem LS.five {M : Mem} {b : Nat} {u1 u2 u3 u4 u5 : Value} {x1 x2 x3 x4 x5 : List By} (h : M b = some (.cells [u1, u2, u3, u4, u5].toArray 26 (0, 0))) (h1 : BS M u1 x1) (h2 : BS M u2 x2) (h3 : BS M u3 x3) (h4 : BS M u4 x4) (h5 : BS M u5 x5) : LS M (.slice (some ⟨b, 0, none⟩) 5 5) [x1, x2, x3, x4, x5] :=
  ⟨_, 5, [(x1, u1), (x2, u2), (x3, u3), (x4, u4), (x5, u5)], rfl, Nat.le_refl _, SM.of_block (l := [u1, u2, u3, u4, u5]) h, rfl, fun p hp => by
    simp only [List.mem_cons, List.not_mem_nil, or_false] at hp
    rcases hp with rfl | rfl | rfl | rfl | rfl <;> assumption⟩

set_option maxHeartbeats 4000000 in
theorem rwrite_spec (x : Su) (da : Option Addr) (dc : Nat) (M : Mem) (hdc : x.dead.length ≤ dc) (hds : SM M da (icells x.dead)) (hdl : x.dead.length ≤ 1000000) :
    SpecL Tryz.prog 76 #[.agg (suc x (.slice da x.dead.length dc)).toArray] M [] fun u M' L' => (if suOk x then ∃ s, u = .tuple #[s, .int .i64 0] ∧ BS M' s (suB x) else u = .tuple #[.slice none 0 0, .int .i64 8]) ∧ L' = [] := by
  refine spec_body (vs := [_]) 60 _ Tryz.func76 rfl Tryz.ntmps76 rfl rfl ?_; intro W
  refine jc_seq ?_
  refine jc_region ?_
  refine jl_h rfl rfl (hBox (cs := [_, _, _, _, _]) rfl rfl rfl rfl) ?_; rintro _ _ _ ⟨b1, rfl, rfl, rfl⟩
  iterate 2 refine jp rfl ?_
  refine jl_nil ?_
  refine jT ?_
  refine jc_seq ?_
  refine jc_seq ?_
  refine jc_region ?_
  refine jl_q rfl rfl (qLdL rfl rfl rfl rfl rfl (by first | (simp only [Nat.reduceAdd, Nat.zero_add, Nat.add_zero, List.drop_succ_cons, List.drop_zero, List.drop_nil, List.take_succ_cons, List.take_zero, List.take_nil, List.cons_append, List.nil_append, List.append_nil, List.length_cons, List.length_nil]; try rfl) | rfl)) ?_
  refine jl_q rfl rfl (qCall rfl rfl rfl rfl rfl (by kernel_rfl) (sucheck_spec x da dc M hdc hds hdl)) ?_
  refine jp rfl ?_
  refine jl_nil ?_
  refine jT ?_
  refine jc_seq ?_
  refine jc_region ?_
  refine jp rfl ?_
  refine js rfl (fun h15 => ?_) (fun h15 => ?_)
  · refine jl_nil ?_
    refine jT ?_
    refine jc_yes rfl ?_
    refine jc_seq ?_
    refine jc_region ?_
    iterate 3 refine jp rfl ?_
    refine jl_nil ?_
    refine jT ?_
    refine jc_ret ?_
    refine jTr ?_
    refine jq_drop (L' := []) (List.nil_sublist _) ?_
    refine jr2 rfl rfl rfl ?_
    have hno : ¬ suOk x := fun h => h15 (if_pos h)
    exact ⟨by rw [if_neg hno]; unfold suChk; rw [if_neg hno]; try rfl, rfl⟩
  · refine jl_nil ?_
    refine jT ?_
    refine jc_no rfl ?_
    refine jc_skip ?_
    refine jT ?_
    refine jc_seq ?_
    refine jc_region ?_
    refine jl_q rfl rfl (qFieldAddr rfl rfl rfl rfl rfl) ?_
    refine jl_q rfl rfl (qLd rfl rfl rfl rfl (CJ.loc rfl)) ?_
    have hok : suOk x := Classical.byContradiction fun h => h15 (by unfold suChk; rw [if_neg h]; decide)
    have hrt := hok.2.1
    unfold tk at hrt
    refine jl_h rfl rfl (hCall rfl rfl rfl rfl rfl (by kernel_rfl) (two_spec x.root M (by omega))) ?_; rintro _ M1 _ ⟨hM1, _, rfl, ⟨⟨s2, rfl, hs2⟩, rfl⟩⟩
    simp only [List.nil_append]
    iterate 5 refine jp rfl ?_
    refine jl_nil ?_
    refine jT ?_
    refine jc_seq ?_
    refine jc_drawA ([(b1, .cells (suc x (.slice da x.dead.length dc)).toArray TSu (0, 0))]) (by kernel_rfl) (by simp) ?_
    refine ja_q (i := 0) rfl (by kernel_rfl) (by kernel_rfl) rfl rfl (qFieldAddr rfl rfl rfl rfl rfl) ?_
    refine ja_q (i := 1) rfl (by kernel_rfl) (by kernel_rfl) rfl rfl (qLd rfl rfl rfl rfl (CJ.loc rfl)) ?_
    refine ja_p (i := 3) rfl (by kernel_rfl) (by kernel_rfl) rfl ?_
    refine ja_q (i := 4) rfl (by kernel_rfl) (by kernel_rfl) rfl rfl (qFieldAddr rfl rfl rfl rfl rfl) ?_
    refine ja_q (i := 5) rfl (by kernel_rfl) (by kernel_rfl) rfl rfl (qLd rfl rfl rfl rfl (CJ.loc rfl)) ?_
    refine ja_q (i := 7) rfl (by kernel_rfl) (by kernel_rfl) rfl rfl (qFieldAddr rfl rfl rfl rfl rfl) ?_
    refine ja_q (i := 8) rfl (by kernel_rfl) (by kernel_rfl) rfl rfl (qLd rfl rfl rfl rfl (CJ.loc rfl)) ?_
    refine ja_q (i := 10) rfl (by kernel_rfl) (by kernel_rfl) rfl rfl (qFieldAddr rfl rfl rfl rfl rfl) ?_
    refine ja_q (i := 11) rfl (by kernel_rfl) (by kernel_rfl) rfl rfl (qLd rfl rfl rfl rfl (CJ.loc rfl)) ?_
    refine ja_q (i := 12) rfl (by kernel_rfl) (by kernel_rfl) rfl rfl (qLen rfl rfl rfl) ?_
    refine ja_q (i := 13) rfl (by kernel_rfl) (by kernel_rfl) rfl rfl (qEq (qConvInt rfl rfl rfl) (by rw [u8_bU])) ?_
    refine ja_merge (α := Mem × Value × Value × Value × Value) (fun y => MLe M1 y.1 ∧ BS y.1 y.2.1 (fourB x.gen) ∧ BS y.1 y.2.2.1 (fourB x.next) ∧ BS y.1 y.2.2.2.1 (fourB x.table) ∧ BS y.1 y.2.2.2.2 [bU x.dead.length]) (fun y => [(1, .pointer (some ⟨b1, 0, none⟩)), (25, y.2.1), (26, s2), (29, y.2.2.1), (32, y.2.2.2.1), (37, y.2.2.2.2)]) (fun y => y.1) (fun _ => [(b1, .cells (suc x (.slice da x.dead.length dc)).toArray TSu (0, 0))]) 3 #[true, true, true, true, true, true, true, true, true, true, true, true, true, true, true, false, false, false] ?_ (fun rest => ?_)
    · rintro ⟨Mr, v2, v6, v9, v14⟩ ⟨hMr, hB2, hB6, hB9, hB14⟩
      try dsimp only at hMr hB2 hB6 hB9 hB14 ⊢
      obtain ⟨a2, k2, rfl, _, _⟩ := id hB2
      obtain ⟨a6, k6, rfl, _, _⟩ := id hB6
      obtain ⟨a9, k9, rfl, _, _⟩ := id hB9
      obtain ⟨a14, k14, rfl, _, _⟩ := id hB14
      obtain ⟨aa2, kk2, rfl, _, _⟩ := id hs2
      refine ja_one (i := 15) (by kernel_rfl) ?_
      refine js_h rfl rfl rfl (hBuildSlice (cs := [_, _, _, _, _]) rfl rfl rfl (by rfl) (by rfl) (by rfl)) ?_; rintro _ _ _ ⟨b38, rfl, rfl, rfl⟩
      refine ja_grow (hMr) (by simp) ?_
      refine ja_freeze b38 (by simp) (by simp) ?_
      intro M15 hM15 e15
      have hls := LS.five e15 (hB2.mono hM15) ((hs2.mono hMr).mono hM15) (hB6.mono hM15) (hB9.mono hM15) (hB14.mono hM15)
      refine ja_one (i := 16) (by kernel_rfl) ?_
      refine js_h rfl rfl rfl (hCall rfl rfl rfl rfl rfl (by kernel_rfl) (concat_spec _ _ M15 hls (by simp) (by simp [fourB, twoB]))) ?_; rintro _ M16 _ ⟨hM16, R16, rfl, hown⟩
      refine ja_grow ((hMr.trans hM15).trans hM16) (by simp) ?_
      refine ja_p (i := 17) rfl (by kernel_rfl) (by kernel_rfl) rfl ?_
      refine ja_end (by kernel_rfl) ?_
      refine jPn ?_
      refine jT ?_
      refine jc_seq ?_
      refine jc_seq ?_
      refine jc_region ?_
      refine jl_q rfl rfl (qFieldAddr rfl rfl rfl rfl rfl) ?_
      refine jl_q rfl rfl (qLd rfl rfl rfl rfl (CJ.loc rfl)) ?_
      refine jl_q rfl rfl (qLen rfl rfl rfl) ?_
      refine jp rfl ?_
      refine jl_nil ?_
      refine jT ?_
      refine jc_block ?_
      have hMall := hM1.trans ((hMr.trans hM15).trans hM16)
      refine jc_loopK (α := Nat × Mem × Lc × Value) (fun y => [(1, .pointer (some ⟨b1, 0, none⟩)), (7, y.2.2.2), (41, .slice da x.dead.length dc), (42, .int .i64 x.dead.length), (43, .int .i64 y.1)]) (fun y => y.2.1) (fun y => y.2.2.1 ++ [(b1, .cells (suc x (.slice da x.dead.length dc)).toArray TSu (0, 0))]) (fun y => y.1 ≤ x.dead.length ∧ MLe M16 y.2.1 ∧ Own y.2.2.2 y.2.2.1 5 1 (15 + 2 * y.1) (bcells (suHead x) ++ bcells ((x.dead.take y.1).flatMap twoB))) (fun y => x.dead.length - y.1)
        (0, M16, R16, _) (Keep.cons (t := 1) rfl (Keep.cons (t := 7) rfl (Keep.cons (t := 41) rfl (Keep.cons (t := 42) rfl (Keep.cons (t := 43) rfl Keep.nil))))) ⟨Nat.zero_le _, MLe.refl _, hown.cast rfl (List.append_nil _).symm⟩ (fun _ h => h) ?_
      rintro ⟨k, Mk, R, s⟩ ⟨hk, hMk, hown⟩
      try dsimp only at hk hMk hown ⊢
      refine jc_seq ?_
      refine jc_region ?_
      refine js rfl (fun h44 => ?_) (fun h44 => ?_)
      · refine jl_nil ?_
        refine jT ?_
        refine jc_seq ?_
        refine jc_yes rfl ?_
        refine jc_skip ?_
        refine jT ?_
        refine jc_seq ?_
        refine jc_block ?_
        refine jc_seq ?_
        refine jc_region ?_
        have hk1 : k < x.dead.length := by omega
        obtain ⟨sb, so, e0, hx⟩ := (hds.mono hMall).open (by intro e; have := congrArg List.length e; rw [icells_len, List.length_nil] at this; omega)
        subst e0
        have htk := hok.1 x.dead[k] (List.getElem_mem hk1)
        unfold tk at htk
        refine jl_q rfl rfl (qIdxS rfl rfl rfl rfl (by omega)) ?_
        refine jl_q rfl rfl (qLd (v := .int .i64 x.dead[k]) rfl rfl rfl rfl (((hx _ _ (by rw [Nat.mul_one]; simp [icells, hk1])).mono hMk).cj _)) ?_
        refine jp rfl ?_
        refine jl_nil ?_
        refine jT ?_
        refine jc_seq ?_
        refine jc_region ?_
        refine jp rfl ?_
        refine jl_h rfl rfl (hCall rfl rfl rfl rfl rfl (by kernel_rfl) (two_spec x.dead[k] Mk (by omega))) ?_; rintro _ Mw _ ⟨hMw, _, rfl, ⟨⟨sw, rfl, wa, wc, rfl, hwc, hsw⟩, rfl⟩⟩
        simp only [List.nil_append]
        iterate 5 refine jp rfl ?_
        refine jl_nil ?_
        refine jT ?_
        refine jc_region ?_
        iterate 2 refine jp rfl ?_
        refine jl_h rfl rfl (hAppendM (R := R) (news := bcells (twoB x.dead[k])) rfl rfl rfl rfl hown (by rw [bcells_len, Nat.mul_one]) hsw (by rfl) (bcells_one _) (by show _ + 2 ≤ _; omega) (by omega)) ?_; rintro s' _ _ ⟨rfl, R', rfl, hown'⟩
        obtain ⟨a2, c2, rfl⟩ := hown'.form
        refine jp rfl ?_
        refine jl_nil ?_
        refine jB ?_
        refine jT ?_
        refine jc_region ?_
        refine ja rfl (by omega) ?_
        refine jp rfl ?_
        refine jl_nil ?_
        refine j_again (k + 1, Mw, R', .slice a2 _ c2) (Keep.cons (t := 1) rfl (Keep.cons (t := 7) rfl (Keep.cons (t := 41) rfl (Keep.cons (t := 42) rfl (Keep.cons (t := 43) rfl Keep.nil))))) ⟨by show k + 1 ≤ x.dead.length; omega, hMk.trans hMw, ?_⟩ (by show x.dead.length - (k + 1) < x.dead.length - k; omega) (fun _ h => h)
        show Own _ _ _ _ (15 + 2 * (k + 1)) (_ ++ bcells ((x.dead.take (k + 1)).flatMap twoB))
        rw [twos_step hk1, show bcells ((x.dead.take k).flatMap twoB ++ twoB x.dead[k]) = bcells ((x.dead.take k).flatMap twoB) ++ bcells (twoB x.dead[k]) by simp [bcells], ← List.append_assoc]; exact hown'
      · refine jl_nil ?_
        refine jT ?_
        refine jc_seq ?_
        refine jc_no rfl ?_
        refine jc_exit ?_
        refine jTx ?_
        refine jTx ?_
        refine jBx ?_
        refine jT ?_
        refine jc_seq ?_
        refine jc_region ?_
        refine jp rfl ?_
        obtain rfl : k = x.dead.length := by omega
        rw [List.take_length] at hown
        have hdl40 := hok.2.2
        have hrl := suRaw_len x
        refine jl_own hown (by simp) ?_
        intro M8 a8 c8 hM8 e8 hc8 hs8; cases e8
        refine jl_h rfl rfl (hCall rfl rfl rfl rfl rfl (by kernel_rfl) (by have h1 := seal_walk (suRaw x) a8 c8 M8 (by rw [hrl]; exact hc8) (by unfold suRaw; rw [show bcells (suHead x ++ x.dead.flatMap twoB) = bcells (suHead x) ++ bcells (x.dead.flatMap twoB) by simp [bcells]]; exact hs8) (by omega); rw [hrl] at h1; exact h1)) ?_; rintro _ M9 _ ⟨hM9, _, rfl, ⟨⟨s9, rfl, hs9⟩, rfl⟩⟩
        iterate 4 refine jp rfl ?_
        refine jl_nil ?_
        refine jT ?_
        refine jc_ret ?_
        refine jq_drop (L' := []) (List.nil_sublist _) ?_
        refine jr2 rfl rfl rfl ?_
        exact ⟨by rw [if_pos hok]; exact ⟨_, rfl, hs9⟩, rfl⟩
    refine ja_fork [2, 14] (by kernel_rfl) rfl ⟨?_, ?_, trivial⟩
    · refine js_h rfl rfl rfl (hCall rfl rfl rfl rfl rfl (by kernel_rfl) (four_spec x.gen _)) ?_; rintro v2 M2 _ ⟨hM2, R2, rfl, hF2, rfl⟩
      refine ja_grow (hM2) (by simp) ?_
      simp only [List.nil_append]
      refine ja_fork [6, 14] (by kernel_rfl) rfl ⟨?_, ?_, trivial⟩
      · refine js_h rfl rfl rfl (hCall rfl rfl rfl rfl rfl (by kernel_rfl) (four_spec x.next _)) ?_; rintro v6 M6 _ ⟨hM6, R6, rfl, hF6, rfl⟩
        refine ja_grow ((hM2).trans hM6) (by simp) ?_
        simp only [List.nil_append]
        refine ja_fork [9, 14] (by kernel_rfl) rfl ⟨?_, ?_, trivial⟩
        · refine js_h rfl rfl rfl (hCall rfl rfl rfl rfl rfl (by kernel_rfl) (four_spec x.table _)) ?_; rintro v9 M9 _ ⟨hM9, R9, rfl, hF9, rfl⟩
          refine ja_grow (((hM2.trans hM6)).trans hM9) (by simp) ?_
          simp only [List.nil_append]
          refine ja_fork [14] (by kernel_rfl) rfl ⟨?_, trivial⟩
          · refine js_h rfl rfl rfl (hBuildSlice (cs := [_]) rfl rfl rfl (by rfl) (by rfl) (by rfl)) ?_; rintro _ _ _ ⟨b37, rfl, rfl, rfl⟩
            refine ja_grow ((hM2.trans (hM6.trans hM9))) (by simp) ?_
            refine ja_freeze b37 (by simp) (by simp) ?_
            intro M14 hM14 e14
            have hF14 : BS M14 (.slice (some ⟨b37, 0, none⟩) 1 1) [bU x.dead.length] := ⟨_, 1, rfl, Nat.le_refl _, SM.of_block (l := bcells [bU x.dead.length]) e14⟩
            refine ja_cast (listed' := #[true, true, true, true, true, true, true, true, true, true, true, true, true, true, true, false, false, false]) (by kernel_rfl) (ja_keep (Keep.cons (t := 1) rfl (Keep.cons (t := 25) rfl (Keep.cons (t := 26) rfl (Keep.cons (t := 29) rfl (Keep.cons (t := 32) rfl (Keep.cons (t := 37) rfl Keep.nil)))))) ?_)
            exact rest (_, _, _, _, _) ⟨(hM2.trans (hM6.trans (hM9.trans hM14))), hF2.mono ((hM6.trans (hM9.trans hM14))), hF6.mono ((hM9.trans hM14)), hF9.mono (hM14), hF14.mono (MLe.refl _)⟩
        · refine js_h rfl rfl rfl (hBuildSlice (cs := [_]) rfl rfl rfl (by rfl) (by rfl) (by rfl)) ?_; rintro _ _ _ ⟨b37, rfl, rfl, rfl⟩
          refine ja_grow ((hM2.trans hM6)) (by simp) ?_
          refine ja_freeze b37 (by simp) (by simp) ?_
          intro M14 hM14 e14
          have hF14 : BS M14 (.slice (some ⟨b37, 0, none⟩) 1 1) [bU x.dead.length] := ⟨_, 1, rfl, Nat.le_refl _, SM.of_block (l := bcells [bU x.dead.length]) e14⟩
          refine ja_fork [9] (by kernel_rfl) rfl ⟨?_, trivial⟩
          · refine js_h rfl rfl rfl (hCall rfl rfl rfl rfl rfl (by kernel_rfl) (four_spec x.table _)) ?_; rintro v9 M9 _ ⟨hM9, R9, rfl, hF9, rfl⟩
            refine ja_grow (((hM2.trans (hM6.trans hM14))).trans hM9) (by simp) ?_
            simp only [List.nil_append]
            refine ja_cast (listed' := #[true, true, true, true, true, true, true, true, true, true, true, true, true, true, true, false, false, false]) (by kernel_rfl) (ja_keep (Keep.cons (t := 1) rfl (Keep.cons (t := 25) rfl (Keep.cons (t := 26) rfl (Keep.cons (t := 29) rfl (Keep.cons (t := 32) rfl (Keep.cons (t := 37) rfl Keep.nil)))))) ?_)
            exact rest (_, _, _, _, _) ⟨(hM2.trans (hM6.trans (hM14.trans hM9))), hF2.mono ((hM6.trans (hM14.trans hM9))), hF6.mono ((hM14.trans hM9)), hF9.mono (MLe.refl _), hF14.mono (hM9)⟩
      · refine js_h rfl rfl rfl (hBuildSlice (cs := [_]) rfl rfl rfl (by rfl) (by rfl) (by rfl)) ?_; rintro _ _ _ ⟨b37, rfl, rfl, rfl⟩
        refine ja_grow (hM2) (by simp) ?_
        refine ja_freeze b37 (by simp) (by simp) ?_
        intro M14 hM14 e14
        have hF14 : BS M14 (.slice (some ⟨b37, 0, none⟩) 1 1) [bU x.dead.length] := ⟨_, 1, rfl, Nat.le_refl _, SM.of_block (l := bcells [bU x.dead.length]) e14⟩
        refine ja_fork [6] (by kernel_rfl) rfl ⟨?_, trivial⟩
        · refine js_h rfl rfl rfl (hCall rfl rfl rfl rfl rfl (by kernel_rfl) (four_spec x.next _)) ?_; rintro v6 M6 _ ⟨hM6, R6, rfl, hF6, rfl⟩
          refine ja_grow (((hM2.trans hM14)).trans hM6) (by simp) ?_
          simp only [List.nil_append]
          refine ja_fork [9] (by kernel_rfl) rfl ⟨?_, trivial⟩
          · refine js_h rfl rfl rfl (hCall rfl rfl rfl rfl rfl (by kernel_rfl) (four_spec x.table _)) ?_; rintro v9 M9 _ ⟨hM9, R9, rfl, hF9, rfl⟩
            refine ja_grow (((hM2.trans (hM14.trans hM6))).trans hM9) (by simp) ?_
            simp only [List.nil_append]
            refine ja_cast (listed' := #[true, true, true, true, true, true, true, true, true, true, true, true, true, true, true, false, false, false]) (by kernel_rfl) (ja_keep (Keep.cons (t := 1) rfl (Keep.cons (t := 25) rfl (Keep.cons (t := 26) rfl (Keep.cons (t := 29) rfl (Keep.cons (t := 32) rfl (Keep.cons (t := 37) rfl Keep.nil)))))) ?_)
            exact rest (_, _, _, _, _) ⟨(hM2.trans (hM14.trans (hM6.trans hM9))), hF2.mono ((hM14.trans (hM6.trans hM9))), hF6.mono (hM9), hF9.mono (MLe.refl _), hF14.mono ((hM6.trans hM9))⟩
    · refine js_h rfl rfl rfl (hBuildSlice (cs := [_]) rfl rfl rfl (by rfl) (by rfl) (by rfl)) ?_; rintro _ _ _ ⟨b37, rfl, rfl, rfl⟩
      refine ja_grow (MLe.refl _) (by simp) ?_
      refine ja_freeze b37 (by simp) (by simp) ?_
      intro M14 hM14 e14
      have hF14 : BS M14 (.slice (some ⟨b37, 0, none⟩) 1 1) [bU x.dead.length] := ⟨_, 1, rfl, Nat.le_refl _, SM.of_block (l := bcells [bU x.dead.length]) e14⟩
      refine ja_fork [2] (by kernel_rfl) rfl ⟨?_, trivial⟩
      · refine js_h rfl rfl rfl (hCall rfl rfl rfl rfl rfl (by kernel_rfl) (four_spec x.gen _)) ?_; rintro v2 M2 _ ⟨hM2, R2, rfl, hF2, rfl⟩
        refine ja_grow ((hM14).trans hM2) (by simp) ?_
        simp only [List.nil_append]
        refine ja_fork [6] (by kernel_rfl) rfl ⟨?_, trivial⟩
        · refine js_h rfl rfl rfl (hCall rfl rfl rfl rfl rfl (by kernel_rfl) (four_spec x.next _)) ?_; rintro v6 M6 _ ⟨hM6, R6, rfl, hF6, rfl⟩
          refine ja_grow (((hM14.trans hM2)).trans hM6) (by simp) ?_
          simp only [List.nil_append]
          refine ja_fork [9] (by kernel_rfl) rfl ⟨?_, trivial⟩
          · refine js_h rfl rfl rfl (hCall rfl rfl rfl rfl rfl (by kernel_rfl) (four_spec x.table _)) ?_; rintro v9 M9 _ ⟨hM9, R9, rfl, hF9, rfl⟩
            refine ja_grow (((hM14.trans (hM2.trans hM6))).trans hM9) (by simp) ?_
            simp only [List.nil_append]
            refine ja_cast (listed' := #[true, true, true, true, true, true, true, true, true, true, true, true, true, true, true, false, false, false]) (by kernel_rfl) (ja_keep (Keep.cons (t := 1) rfl (Keep.cons (t := 25) rfl (Keep.cons (t := 26) rfl (Keep.cons (t := 29) rfl (Keep.cons (t := 32) rfl (Keep.cons (t := 37) rfl Keep.nil)))))) ?_)
            exact rest (_, _, _, _, _) ⟨(hM14.trans (hM2.trans (hM6.trans hM9))), hF2.mono ((hM6.trans hM9)), hF6.mono (hM9), hF9.mono (MLe.refl _), hF14.mono ((hM2.trans (hM6.trans hM9)))⟩

theorem slot_spec (n : Int) (M : Mem) (hn : 0 ≤ n ∧ n < 4294967296) :
    SpecL Tryz.prog 41 #[.int .u32 n] M [] fun u _ _ => u = .int .i64 (n % 4) := by
  refine spec_body (vs := [_]) 6 _ Tryz.func41 rfl Tryz.ntmps41 rfl rfl ?_; intro W
  refine jc_seq ?_
  refine jc_region ?_
  refine jp rfl ?_
  refine jl_nil ?_
  refine jT ?_
  refine jc_seq ?_
  refine jc_region ?_
  refine jp rfl ?_
  refine jl_q rfl rfl (qConv64 rfl rfl rfl (by omega)) ?_
  refine jl_q rfl rfl (qRem rfl rfl rfl rfl (by omega) (by omega)) ?_
  refine jp rfl ?_
  refine jl_nil ?_
  refine jT ?_
  refine jc_ret ?_
  refine jr1 rfl rfl ?_
  rfl

set_option maxHeartbeats 1000000 in
theorem rput_spec (bs : List (List By)) (ws : List Wt) (bv wv : Value) (M : Mem) (h1 : LS M bv bs) (h2 : WS M wv ws) (hdk : dkOk bs ws) (x : Su) (da : Option Addr) (dc : Nat) (hdc : x.dead.length ≤ dc) (hds : SM M da (icells x.dead)) (hdl : x.dead.length ≤ 1000000) (hsu : suOk x) (hg : 0 ≤ x.gen ∧ x.gen < 4294967296) (hwl : ws.length < 4096) :
    SpecL Tryz.prog 59 #[.agg #[bv, wv], .agg (suc x (.slice da x.dead.length dc)).toArray] M [] fun u M' L' => (∃ d, u = .tuple #[d, .int .i64 0] ∧ DK M' d bs (ws ++ [(x.gen % 4, suB x)])) ∧ L' = [] := by
  have hck : dkChk bs ws = 0 := if_pos hdk
  refine spec_body (vs := [_, _]) 32 _ Tryz.func59 rfl Tryz.ntmps59 rfl rfl ?_; intro W
  refine jc_seq ?_
  refine jc_region ?_
  refine jl_h rfl rfl (hBox (cs := [_, _]) rfl rfl rfl rfl) ?_; rintro _ _ _ ⟨b2, rfl, rfl, rfl⟩
  refine jl_h rfl rfl (hBox (cs := [_, _, _, _, _]) rfl rfl rfl rfl) ?_; rintro _ _ _ ⟨b3, rfl, rfl, rfl⟩
  refine jl_h rfl rfl (hAlloc rfl rfl) ?_; rintro _ _ _ ⟨b4, rfl, rfl, rfl⟩
  refine jp rfl ?_
  refine jl_nil ?_
  refine jT ?_
  refine jc_seq ?_
  refine jc_seq ?_
  refine jc_region ?_
  refine jl_q rfl rfl (qLdL rfl rfl rfl rfl rfl (by first | (simp only [Nat.reduceAdd, Nat.zero_add, Nat.add_zero, List.drop_succ_cons, List.drop_zero, List.drop_nil, List.take_succ_cons, List.take_zero, List.take_nil, List.cons_append, List.nil_append, List.append_nil, List.length_cons, List.length_nil]; try rfl) | rfl)) ?_
  refine jl_q rfl rfl (qCall rfl rfl rfl rfl rfl (by kernel_rfl) (dcheck_spec bs ws bv wv M h1 h2)) ?_
  refine jp rfl ?_
  refine jl_nil ?_
  refine jT ?_
  refine jc_seq ?_
  refine jc_region ?_
  refine jp rfl ?_
  refine jf rfl (decide_eq_false (by first | omega | (rw [hck]; decide))) ?_
  refine jl_nil ?_
  refine jT ?_
  refine jc_no rfl ?_
  refine jc_skip ?_
  refine jT ?_
  refine jc_seq ?_
  refine jc_region ?_
  refine jl_q rfl rfl (qLdL rfl rfl rfl rfl rfl (by first | (simp only [Nat.reduceAdd, Nat.zero_add, Nat.add_zero, List.drop_succ_cons, List.drop_zero, List.drop_nil, List.take_succ_cons, List.take_zero, List.take_nil, List.cons_append, List.nil_append, List.append_nil, List.length_cons, List.length_nil]; try rfl) | rfl)) ?_
  refine jl_h rfl rfl (hCall rfl rfl rfl rfl rfl (by kernel_rfl) (rwrite_spec x da dc M hdc hds hdl)) ?_; rintro _ M1 _ ⟨hM1, _, rfl, ⟨hsw, rfl⟩⟩
  rw [if_pos hsu] at hsw
  obtain ⟨s, rfl, hs⟩ := hsw
  simp only [List.nil_append]
  iterate 5 refine jp rfl ?_
  refine jl_nil ?_
  refine jT ?_
  refine jc_seq ?_
  refine jc_seq ?_
  refine jc_region ?_
  refine jp rfl ?_
  refine jf rfl (decide_eq_false (by first | omega | (rw [hck]; decide))) ?_
  refine jl_nil ?_
  refine jT ?_
  refine jc_no rfl ?_
  refine jc_skip ?_
  refine jT ?_
  refine jc_seq ?_
  refine jc_drawP (p := { A := fun i => !([8].contains i), U := fun i => !([8, 9].contains i) }) [(0, true), (1, true), (2, true), (3, true), (4, true), (5, false), (6, true), (7, true), (8, false), (9, true)] M1 ([(b3, .cells (suc x (.slice da x.dead.length dc)).toArray TSu (0, 0)), (b2, .cells [bv, wv].toArray TDk (0, 0))]) ([]) (by kernel_rfl) (by kernel_rfl) (by kernel_rfl) (by kernel_rfl) rfl (by simp) (MLe.refl _) (by simp) ?_
  refine jd_q rfl rfl rfl (qLdL rfl rfl rfl rfl rfl (by first | (simp only [Nat.reduceAdd, Nat.zero_add, Nat.add_zero, List.drop_succ_cons, List.drop_zero, List.drop_nil, List.take_succ_cons, List.take_zero, List.take_nil, List.cons_append, List.nil_append, List.append_nil, List.length_cons, List.length_nil]; try rfl) | rfl)) ?_
  refine jd_q rfl rfl rfl (qFieldAddr rfl rfl rfl rfl rfl) ?_
  refine jd_q rfl rfl rfl (qLd rfl rfl rfl rfl (CJ.loc rfl)) ?_
  refine jd_q rfl rfl rfl (qCall rfl rfl rfl rfl rfl (by kernel_rfl) (slot_spec x.gen M1 hg)) ?_
  refine dp rfl rfl ?_
  refine jd_h rfl rfl rfl (hCall rfl rfl rfl rfl rfl (by kernel_rfl) (dwrite_spec bs ws bv wv M1 (h1.mono hM1) (h2.mono hM1) hdk (x.gen % 4) (by omega) (suB x) s hs (suB_len hsu) hwl)) ?_; rintro _ M2 _ ⟨hM2, _, rfl, ⟨⟨d, rfl, bv2, wv2, rfl, hB, hW⟩, rfl⟩⟩
  refine ⟨_, _, MLe.refl _, hM2, fun _ h => h, by simp, ?_⟩
  obtain ⟨ba, bc, bps, rfl, _⟩ := id hB
  obtain ⟨wa, wc, wps, rfl, _⟩ := id hW
  iterate 2 refine dp rfl rfl ?_
  refine jd_e rfl rfl (hStoreL rfl rfl rfl rfl rfl rfl rfl rfl (by first | (simp only [Nat.reduceAdd, Nat.zero_add, Nat.add_zero, List.drop_succ_cons, List.drop_zero, List.drop_nil, List.take_succ_cons, List.take_zero, List.take_nil, List.cons_append, List.nil_append, List.append_nil, List.length_cons, List.length_nil]; try rfl) | rfl)) ?_; rintro _ _ _ ⟨rfl, rfl⟩
  refine ⟨hM2, by simp, ?_⟩
  refine ep rfl rfl ?_
  refine je_nil ?_
  refine jPn ?_
  refine jT ?_
  refine jc_ret ?_
  refine jrsd (rs := [_, _]) ([]) (by exact List.nil_sublist _) rfl (.cons (.agg rfl rfl rfl) (.cons (.tmp rfl) .nil)) ?_
  exact ⟨⟨_, rfl, _, _, rfl, hB, hW⟩, rfl⟩

end Go.Proofs.YtjdmhbenpeedeaaGreat
