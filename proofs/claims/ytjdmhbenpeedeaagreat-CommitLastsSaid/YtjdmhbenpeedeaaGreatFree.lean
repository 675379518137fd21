/- Walks: the blocks that may be taken. -/
import Derived.Test.YtjdmhbenpeedeaaGreatDev
import Derived.Test.YtjdmhbenpeedeaaGreatTake
namespace Go.Proofs.YtjdmhbenpeedeaaGreat
set_option linter.unusedVariables false
set_option linter.unusedSimpArgs false
open Go.RowKit

abbrev TSo2 : TypeId := 28
/-- the blocks below n that may be taken -/
def frOk (s : Sto) (i : Nat) : Bool := decide (8 ≤ i) && decide (bOr .u8 ((s.now.getD i 0).toNat : Int) ((s.last.getD i 0).toNat : Int) = 0)
def frN (s : Sto) (n : Nat) : List Nat := (List.range n).filter (frOk s)
theorem frN_step (s : Sto) (n : Nat) : frN s (n + 1) = frN s n ++ (if frOk s n then [n] else []) := by
  unfold frN; rw [List.range_succ, List.filter_append]; cases h : frOk s n <;> simp [h]
theorem frN_yes {s : Sto} {n : Nat} (h : frOk s n = true) : frN s (n + 1) = frN s n ++ [n] := by rw [frN_step, if_pos h]
theorem frN_no {s : Sto} {n : Nat} (h : ¬ frOk s n = true) : frN s (n + 1) = frN s n := by rw [frN_step, if_neg h, List.append_nil]
theorem frN_pre (s : Sto) (n : Nat) : ∀ k, frN s n <+: frN s (n + k)
  | 0 => List.prefix_rfl
  | k + 1 => (frN_pre s n k).trans (by rw [← Nat.add_assoc, frN_step]; exact List.prefix_append _ _)
theorem frN_8 (s : Sto) : frN s 8 = [] := by
  unfold frN; rw [List.filter_eq_nil_iff]
  intro x hx; rw [List.mem_range] at hx
  unfold frOk; rw [decide_eq_false (by omega)]; simp
theorem frN_len (s : Sto) (n : Nat) : (frN s n).length ≤ n := by
  unfold frN; exact Nat.le_trans (List.length_filter_le _ _) (by rw [List.length_range]; exact Nat.le_refl _)

theorem free_spec (bv wv nv lw : Value) (M : Mem) :
    SpecL Tryz.prog 52 #[.agg #[bv, wv, nv, lw]] M [] fun u M' L' => ∃ b, u = .func (.func 89) #[] #[.pointer (some ⟨b, 0, none⟩)] ∧ M' b = some (.cells [bv, wv, nv, lw].toArray TSo2 (0, 0)) ∧ L' = [] := by
  refine spec_body (vs := [_]) 4 _ Tryz.func52 rfl Tryz.ntmps52 rfl rfl ?_; intro W
  refine jc_seq ?_
  refine jc_region ?_
  refine jl_h rfl rfl (hBox (cs := [_, _, _, _]) rfl rfl rfl rfl) ?_; rintro _ _ _ ⟨b1, rfl, rfl, rfl⟩
  refine jp rfl ?_
  refine jl_nil ?_
  refine jT ?_
  refine jc_seq ?_
  refine jc_region ?_
  iterate 2 refine jp rfl ?_
  refine jl_nil ?_
  refine jT ?_
  refine jc_ret ?_
  refine jq_freeze b1 (by simp) ?_
  intro M1 hM1 e1
  refine jr1 rfl rfl ?_
  exact ⟨b1, rfl, e1, rfl⟩

theorem free_body (s : Sto) (bv wv nv lw : Value) (M : Mem) (h1 : LS M bv s.blocks) (h2 : WS M wv s.waits) (h3 : BS M nv s.now) (h4 : BS M lw s.last) (hst : stOk s) (b : Nat) (hb : M b = some (.cells [bv, wv, nv, lw].toArray TSo2 (0, 0))) (l : Nat) (J Jx : List Nat → Mem → Lc → Prop) (M1 : Mem) (L0 : Lc) (hM : MLe M M1) (hJ : ∀ pre y M2 L2, MLe M1 M2 → J pre M2 L2 → pre ++ [y] <+: frN s 256 → RoundL Tryz.prog l ((fun y : Nat => [Value.int .i64 (y : Int)]) y).toArray M2 L2 fun v M' L' => (v = .bool true ∧ J (pre ++ [y]) M' L') ∨ (v = .bool false ∧ Jx (pre ++ [y]) M' L')) (h0 : J [] M1 L0) :
    SpecL Tryz.prog 89 #[.func (.yield l) #[] #[], .pointer (some ⟨b, 0, none⟩)] M1 L0 fun _ M' L' => J (frN s 256) M' L' ∨ ∃ pre, pre <+: frN s 256 ∧ Jx pre M' L' := by
  have hbc : ∀ {M2 : Mem} (L : Lc) (i : Nat) (v : Value), MLe M1 M2 → [bv, wv, nv, lw][i]? = some v → CJ M2 L b i v := fun L i v h hv => (CM.cj ⟨_, _, _, h _ _ (hM _ _ hb), by simpa using hv⟩ L)
  have hnl : s.now.length = 256 := hst.2.1.1
  have hll : s.last.length = 256 := hst.2.2.1
  obtain ⟨na, nc, rfl, hnc, hns⟩ := id h3
  obtain ⟨nb, no, e0, hnx⟩ := hns.open (by intro e; have := congrArg List.length e; rw [bcells_len, List.length_nil] at this; omega)
  subst e0
  obtain ⟨la, lc, rfl, hlc, hls⟩ := id h4
  obtain ⟨lb, lo, e0, hlx⟩ := hls.open (by intro e; have := congrArg List.length e; rw [bcells_len, List.length_nil] at this; omega)
  subst e0
  refine spec_body (vs := [_, _]) 26 _ Tryz.func89 rfl Tryz.ntmps89 rfl rfl ?_; intro W
  refine jc_seq ?_
  refine jc_region ?_
  refine jp rfl ?_
  refine jl_nil ?_
  refine jT ?_
  refine jc_block ?_
  refine jc_loopK (α := Nat × Mem × Lc) (fun x => [(0, .func (.yield l) #[] #[]), (1, .pointer (some ⟨b, 0, none⟩)), (3, .int .i64 (x.1 : Int))]) (fun x => x.2.1) (fun x => x.2.2) (fun x => 8 ≤ x.1 ∧ x.1 ≤ 256 ∧ MLe M1 x.2.1 ∧ J (frN s x.1) x.2.1 x.2.2) (fun x => 256 - x.1)
    (8, M1, L0) (Keep.cons (t := 0) rfl (Keep.cons (t := 1) rfl (Keep.cons (t := 3) rfl Keep.nil))) ⟨Nat.le_refl _, by show 8 ≤ 256; omega, MLe.refl _, by show J (frN s 8) _ _; rw [frN_8]; exact h0⟩ (fun _ h => h) ?_
  rintro ⟨k, Mk, Lk⟩ ⟨hk8, hk, hMk, hJk⟩
  try dsimp only at hk8 hk hMk hJk ⊢
  refine jc_seq ?_
  refine jc_seq ?_
  refine jc_region ?_
  refine jp rfl ?_
  refine js rfl (fun h5 => ?_) (fun h5 => ?_)
  · refine jl_nil ?_
    refine jT ?_
    refine jc_yes rfl ?_
    refine jc_skip ?_
    refine jT ?_
    refine jc_seq ?_
    refine jc_block ?_
    refine jc_seq ?_
    refine jc_draw [(0, true), (1, true), (2, true), (3, true), (4, true), (5, true), (6, true), (7, true), (8, true), (9, true), (10, true), (11, true), (12, true), (13, true), (14, true), (15, false), (16, true), (17, true)] [] (by kernel_rfl) (by kernel_rfl) (by kernel_rfl) rfl (by simp) ?_
    refine jd_q rfl rfl rfl (qFieldAddr rfl rfl rfl rfl rfl) ?_
    refine jd_q rfl rfl rfl (qLd rfl rfl rfl rfl (hbc _ 2 _ hMk rfl)) ?_
    refine dp rfl rfl ?_
    refine jd_q rfl rfl rfl (qIdxS rfl rfl rfl rfl (by omega)) ?_
    refine jd_q rfl rfl rfl (qLd rfl rfl rfl rfl (((hnx _ _ (by rw [Nat.mul_one]; exact bget (j := k) (by omega))).mono (hM.trans hMk)).cj _)) ?_
    refine jd_q rfl rfl rfl (qFieldAddr rfl rfl rfl rfl rfl) ?_
    refine jd_q rfl rfl rfl (qLd rfl rfl rfl rfl (hbc _ 3 _ hMk rfl)) ?_
    refine dp rfl rfl ?_
    refine jd_q rfl rfl rfl (qIdxS rfl rfl rfl rfl (by omega)) ?_
    refine jd_q rfl rfl rfl (qLd rfl rfl rfl rfl (((hlx _ _ (by rw [Nat.mul_one]; exact bget (j := k) (by omega))).mono (hM.trans hMk)).cj _)) ?_
    refine jd_q rfl rfl rfl (qBits rfl rfl rfl rfl rfl) ?_
    refine ds rfl rfl (fun h19 => ?_) (fun h19 => ?_)
    · iterate 3 refine dp rfl rfl ?_
      have hfr : frOk s k = true := by
        unfold frOk; rw [decide_eq_true hk8, decide_eq_true h19]; rfl
      refine jd_h rfl rfl rfl (hYield rfl rfl rfl rfl (hJ (frN s k) k Mk Lk hMk hJk (by rw [← frN_yes hfr]; have hp := frN_pre s (k + 1) (256 - (k + 1)); rwa [show k + 1 + (256 - (k + 1)) = 256 by omega] at hp))) ?_; rintro _ M' _ ⟨hM', R', rfl, hy⟩
      refine ⟨_, _, MLe.refl _, hM', fun _ h => h, by simp, ?_⟩
      rw [← frN_yes hfr] at hy
      rcases hy with ⟨rfl, hy⟩ | ⟨rfl, hy⟩
      · iterate 2 refine dp rfl rfl ?_
        refine jd_nil ?_
        refine jPn ?_
        refine jT ?_
        refine jc_no rfl ?_
        refine jc_skip ?_
        refine jB ?_
        refine jT ?_
        refine jc_region ?_
        refine jp rfl ?_
        refine ja rfl (by omega) ?_
        refine jp rfl ?_
        refine jl_nil ?_
        refine j_again (k + 1, M', R') (Keep.cons (t := 0) rfl (Keep.cons (t := 1) rfl (Keep.cons (t := 3) rfl Keep.nil))) ⟨by show 8 ≤ k + 1; omega, by show k + 1 ≤ 256; omega, hMk.trans hM', hy⟩ (by show 256 - (k + 1) < 256 - k; omega) (fun _ h => h.fewer (by simp))
      · iterate 2 refine dp rfl rfl ?_
        refine jd_nil ?_
        refine jPn ?_
        refine jT ?_
        refine jc_yes rfl ?_
        refine jc_ret ?_
        refine jBr ?_
        refine jTr ?_
        refine jTr ?_
        refine jBr ?_
        refine jq_drop (L' := R') (by simp) ?_
        refine jrs (rs := []) rfl .nil ?_
        exact .inr ⟨_, (by have hp := frN_pre s (k + 1) (256 - (k + 1)); rwa [show k + 1 + (256 - (k + 1)) = 256 by omega] at hp), hy⟩
    · iterate 3 refine dp rfl rfl ?_
      refine dk rfl rfl rfl rfl ?_
      iterate 2 refine dp rfl rfl ?_
      refine jd_nil ?_
      refine jPn ?_
      refine jT ?_
      refine jc_no rfl ?_
      refine jc_skip ?_
      refine jB ?_
      refine jT ?_
      refine jc_region ?_
      refine jp rfl ?_
      refine ja rfl (by omega) ?_
      refine jp rfl ?_
      refine jl_nil ?_
      have hfr : ¬ frOk s k = true := by
        unfold frOk; rw [decide_eq_false h19]; simp
      refine j_again (k + 1, Mk, Lk) (Keep.cons (t := 0) rfl (Keep.cons (t := 1) rfl (Keep.cons (t := 3) rfl Keep.nil))) ⟨by show 8 ≤ k + 1; omega, by show k + 1 ≤ 256; omega, hMk, by show J (frN s (k + 1)) _ _; rw [frN_no hfr]; exact hJk⟩ (by show 256 - (k + 1) < 256 - k; omega) (fun _ h => h)
  · refine jl_nil ?_
    refine jT ?_
    refine jc_no rfl ?_
    refine jc_exit ?_
    refine jTx ?_
    refine jTx ?_
    refine jBx ?_
    refine jrn ?_
    refine jrs (rs := []) rfl .nil ?_
    obtain rfl : k = 256 := by omega
    exact .inl hJk


theorem free_iter (s : Sto) (bv wv nv lw : Value) (M : Mem) (h1 : LS M bv s.blocks) (h2 : WS M wv s.waits) (h3 : BS M nv s.now) (h4 : BS M lw s.last) (hst : stOk s) (b : Nat) (hb : M b = some (.cells [bv, wv, nv, lw].toArray TSo2 (0, 0))) : Iter Tryz.prog 89 [.pointer (some ⟨b, 0, none⟩)] M (fun y : Nat => [Value.int .i64 (y : Int)]) (frN s 256) :=
  fun l J Jx M1 L0 hM hJ h0 => free_body s bv wv nv lw M h1 h2 h3 h4 hst b hb l J Jx M1 L0 hM hJ h0
def icN (xs : List Nat) : List Value := xs.map fun y : Nat => .int .i64 (y : Int)
abbrev TIS : TypeId := 30
def AI (b2 : Nat) (pre : List Nat) (R : Lc) : Prop := ∃ v Rs, R = (b2, .cells [v].toArray TIS (0, 0)) :: Rs ∧ Own v Rs 3 1 pre.length (icN pre)

theorem apseq_spec (lb : List Value) (xs : List Nat) (M : Mem) (hit : Iter Tryz.prog 89 lb M (fun y : Nat => [Value.int .i64 (y : Int)]) xs) (hn : xs.length ≤ 100000) :
    SpecL Tryz.prog 88 #[.slice none 0 0, .func (.func 89) #[] lb.toArray] M [] fun v _ L' => Own v L' 3 1 xs.length (icN xs) := by
  refine spec_body (vs := [_, _]) 13 _ Tryz.func88 rfl Tryz.ntmps88 rfl rfl ?_; intro W
  refine jc_seq ?_
  refine jc_region ?_
  refine jl_h rfl rfl (hBox rfl rfl rfl rfl) ?_; rintro _ _ _ ⟨b2, rfl, rfl, rfl⟩
  refine jp rfl ?_
  refine jl_nil ?_
  refine jT ?_
  refine jc_seq ?_
  refine jc_seq ?_
  refine jc_region ?_
  refine jp rfl ?_
  refine jl_nil ?_
  refine jT ?_
  refine jc_block ?_
  refine jc_range (R := [(b2, .cells [.slice none 0 0].toArray TIS (0, 0))]) (xs := xs) (enc := (fun y : Nat => [Value.int .i64 (y : Int)])) (ps := [7]) rfl (by kernel_rfl) hit
    (fun pre _ R => AI b2 pre R)
    (fun _ _ _ _ => False)
    (fun _ => rfl) (by decide) ⟨_, [], rfl, Own.nil _ _⟩ ?_ ?_ ?_
  · intro l W2 pre y M2 R2 hM2 hI hpre
    obtain ⟨v, Rs, rfl, hown⟩ := hI
    obtain ⟨oa, oc, rfl⟩ := hown.form
    refine jc_region ?_
    refine jp rfl ?_
    refine jl_nil ?_
    refine jK fun W' => ?_
    refine jc_block ?_
    refine jc_region ?_
    refine jl_q rfl rfl (qLd rfl rfl rfl rfl (CJ.loc rfl)) ?_
    refine jp rfl ?_
    refine jl_h rfl rfl (hBuildSlice (cs := [_]) rfl rfl rfl (by rfl) (by rfl) (by rfl)) ?_; rintro _ _ _ ⟨b10, rfl, rfl, rfl⟩
    refine jl_h rfl rfl (hAppend (R := Rs) (m := 1) rfl rfl rfl rfl hown rfl (fun i v hv => CJ.loc (by simpa using hv)) rfl (by rfl) (by simp [Value.oneCell']) (by have := hpre.length_le; rw [List.length_append, List.length_singleton] at this; omega) (by omega)) ?_; rintro s' _ _ ⟨rfl, R', rfl, hown', _⟩
    obtain ⟨a2, c2, rfl⟩ := hown'.form
    refine jl_s rfl (hStoreL rfl rfl rfl rfl rfl rfl rfl rfl (by first | (simp only [Nat.reduceAdd, Nat.zero_add, Nat.add_zero, List.drop_succ_cons, List.drop_zero, List.drop_nil, List.take_succ_cons, List.take_zero, List.take_nil, List.cons_append, List.nil_append, List.append_nil, List.length_cons, List.length_nil]; try rfl) | rfl)) ?_; rintro _ _ _ ⟨rfl, rfl⟩
    refine jl_nil ?_
    refine jB ?_
    refine jq_weak (L' := (b2, .cells [.slice a2 (pre.length + 1) c2].toArray TIS (0, 0)) :: R') (fun w h => (h.perm List.perm_append_comm).fewer (.cons _ (.refl _))) ?_
    refine jQn ?_
    refine ⟨_, R', rfl, ?_⟩
    rw [List.length_append]; show Own _ _ _ _ _ (icN (pre ++ [y])); rw [show icN (pre ++ [y]) = icN pre ++ [.int .i64 (y : Int)] by simp [icN]]; exact hown'
  · intro d M2 R2 hM2 hI
    obtain ⟨v, Rs, rfl, hown⟩ := hI
    obtain ⟨oa, oc, rfl⟩ := hown.form
    simp only [List.cons_append, List.nil_append]
    refine jB ?_
    refine jT ?_
    refine jc_seq ?_
    refine jc_region ?_
    refine jl_q rfl rfl (qLd rfl rfl rfl rfl (CJ.loc rfl)) ?_
    refine jp rfl ?_
    refine jl_nil ?_
    refine jT ?_
    refine jc_ret ?_
    refine jr_mark (L2 := _) Rm.perm ?_
    refine jq_drop (L' := Rs) (by simp) ?_
    refine jr1 rfl rfl ?_
    exact hown
  · intro _ _ _ _ _ _ _ h; exact h.elim

theorem collect_spec (lb : List Value) (xs : List Nat) (M : Mem) (hit : Iter Tryz.prog 89 lb M (fun y : Nat => [Value.int .i64 (y : Int)]) xs) (hn : xs.length ≤ 100000) :
    SpecL Tryz.prog 51 #[.func (.func 89) #[] lb.toArray] M [] fun v _ L' => Own v L' 3 1 xs.length (icN xs) := by
  refine spec_body (vs := [_]) 5 _ Tryz.func51 rfl Tryz.ntmps51 rfl rfl ?_; intro W
  refine jc_seq ?_
  refine jc_region ?_
  refine jp rfl ?_
  refine jl_nil ?_
  refine jT ?_
  refine jc_seq ?_
  refine jc_region ?_
  refine jp rfl ?_
  refine jl_h rfl rfl (hCall rfl rfl rfl rfl rfl (by kernel_rfl) (apseq_spec lb xs M hit hn)) ?_; rintro _ M1 _ ⟨hM1, R1, rfl, hown⟩
  refine jp rfl ?_
  refine jl_nil ?_
  refine jT ?_
  refine jc_ret ?_
  refine jq_drop (L' := R1) (by simp) ?_
  refine jr1 rfl rfl ?_
  exact hown

theorem rfree_spec (s : Sto) (bv wv nv lw : Value) (M : Mem) (h1 : LS M bv s.blocks) (h2 : WS M wv s.waits) (h3 : BS M nv s.now) (h4 : BS M lw s.last) (hst : stOk s) :
    SpecL Tryz.prog 20 #[.agg #[bv, wv, nv, lw]] M [] fun u M' L' => (∃ a c, u = .tuple #[.slice a (frN s 256).length c, .int .i64 0]) ∧ L' = [] := by
  have hck : stChk s = 0 := if_pos hst
  refine spec_body (vs := [_]) 13 _ Tryz.func20 rfl Tryz.ntmps20 rfl rfl ?_; intro W
  refine jc_seq ?_
  refine jc_region ?_
  refine jl_h rfl rfl (hBox (cs := [_, _, _, _]) rfl rfl rfl rfl) ?_; rintro _ _ _ ⟨b1, rfl, rfl, rfl⟩
  iterate 2 refine jp rfl ?_
  refine jl_nil ?_
  refine jT ?_
  refine jc_seq ?_
  refine jc_seq ?_
  refine jc_region ?_
  refine jl_q rfl rfl (qLdL rfl rfl rfl rfl rfl (by first | (simp only [Nat.reduceAdd, Nat.zero_add, Nat.add_zero, List.drop_succ_cons, List.drop_zero, List.drop_nil, List.take_succ_cons, List.take_zero, List.take_nil, List.cons_append, List.nil_append, List.append_nil, List.length_cons, List.length_nil]; try rfl) | rfl)) ?_
  refine jl_q rfl rfl (qCall rfl rfl rfl rfl rfl (by kernel_rfl) (rcheck_spec s _ M ⟨_, _, _, _, rfl, h1, h2, h3, h4⟩)) ?_
  refine jp rfl ?_
  refine jl_nil ?_
  refine jT ?_
  refine jc_seq ?_
  refine jc_region ?_
  refine jp rfl ?_
  refine jf rfl (decide_eq_false (by first | omega | (rw [hck]; decide))) ?_
  refine jl_nil ?_
  refine jT ?_
  refine jc_no rfl ?_
  refine jc_skip ?_
  refine jT ?_
  refine jc_seq ?_
  refine jc_region ?_
  refine jl_q rfl rfl (qLdL rfl rfl rfl rfl rfl (by first | (simp only [Nat.reduceAdd, Nat.zero_add, Nat.add_zero, List.drop_succ_cons, List.drop_zero, List.drop_nil, List.take_succ_cons, List.take_zero, List.take_nil, List.cons_append, List.nil_append, List.append_nil, List.length_cons, List.length_nil]; try rfl) | rfl)) ?_
  refine jl_h rfl rfl (hCall rfl rfl rfl rfl rfl (by kernel_rfl) (free_spec bv wv nv lw M)) ?_; rintro _ M1 _ ⟨hM1, _, rfl, ⟨fb, rfl, hfb, rfl⟩⟩
  simp only [List.nil_append]
  refine jl_h rfl rfl (hCall rfl rfl rfl rfl rfl (by kernel_rfl) (collect_spec [.pointer (some ⟨fb, 0, none⟩)] (frN s 256) M1 (free_iter s bv wv nv lw M1 (h1.mono hM1) (h2.mono hM1) (h3.mono hM1) (h4.mono hM1) hst fb hfb) (by have := frN_len s 256; omega))) ?_; rintro _ M2 _ ⟨hM2, R2, rfl, hown⟩
  obtain ⟨fa, fc, rfl⟩ := hown.form
  iterate 2 refine jp rfl ?_
  refine jl_nil ?_
  refine jT ?_
  refine jc_ret ?_
  refine jq_drop (L' := []) (List.nil_sublist _) ?_
  refine jr2 rfl rfl rfl ?_
  exact ⟨⟨_, _, rfl⟩, rfl⟩

end Go.Proofs.YtjdmhbenpeedeaaGreat
