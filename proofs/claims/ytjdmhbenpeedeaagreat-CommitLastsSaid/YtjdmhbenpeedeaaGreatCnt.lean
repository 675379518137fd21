/- Walks: tables of counts written, and summed. -/
import Derived.Test.YtjdmhbenpeedeaaGreatDev
namespace Go.Proofs.YtjdmhbenpeedeaaGreat
set_option linter.unusedVariables false
set_option linter.unusedSimpArgs false
open Go.RowKit

theorem range_pre {n y : Nat} {pre : List Nat} (h : pre ++ [y] <+: List.range n) : y = pre.length ∧ y < n ∧ pre = List.range pre.length := by
  obtain ⟨r, hr⟩ := h
  have h1 : (pre ++ [y] ++ r)[pre.length]? = some y := by simp
  rw [hr] at h1
  obtain ⟨h2, h3⟩ := List.getElem?_eq_some_iff.1 h1
  rw [List.getElem_range] at h3
  rw [List.length_range] at h2
  refine ⟨h3.symm, by omega, ?_⟩
  have h4 : (pre ++ [y] ++ r).take pre.length = pre := by rw [List.append_assoc]; exact List.take_left' rfl
  rw [hr, List.take_range, Nat.min_eq_left (by omega)] at h4
  exact h4.symm
/-! ### a table in two halves -/
def half (t : List By) (i : Nat) : List By := (t.drop (128 * i)).take 128

theorem chunk_spec (a : Option Addr) (n c : Nat) (M : Mem) :
    SpecL Tryz.prog 90 #[.slice a n c, .int .i64 128] M [] fun u M' L' => ∃ b b2, u = .func (.func 125) #[] #[.pointer (some ⟨b, 0, none⟩), .pointer (some ⟨b2, 0, none⟩)] ∧ M' b = some (.cells #[.slice a n c] 26 (0, 0)) ∧ M' b2 = some (.cells #[.int .i64 128] 3 (0, 0)) ∧ L' = [] := by
  refine spec_body (vs := [_, _]) 9 _ Tryz.func90 rfl Tryz.ntmps90 rfl rfl ?_; intro W
  refine jc_seq ?_
  refine jc_region ?_
  refine jl_h rfl rfl (hBox (cs := [.slice a n c]) rfl rfl rfl rfl) ?_; rintro _ _ _ ⟨b2, rfl, rfl, rfl⟩
  refine jl_h rfl rfl (hBox (cs := [.int .i64 128]) rfl rfl rfl rfl) ?_; rintro _ _ _ ⟨b3, rfl, rfl, rfl⟩
  refine jp rfl ?_
  refine jl_nil ?_
  refine jT ?_
  refine jc_seq ?_
  refine jc_seq ?_
  refine jc_region ?_
  refine jl_q rfl rfl (qLd rfl rfl rfl rfl (CJ.loc rfl)) ?_
  refine jf rfl (decide_eq_false (by omega)) ?_
  refine jl_nil ?_
  refine jT ?_
  refine jc_no rfl ?_
  refine jc_skip ?_
  refine jT ?_
  refine jc_seq ?_
  refine jc_region ?_
  iterate 2 refine jp rfl ?_
  refine jl_nil ?_
  refine jT ?_
  refine jc_ret ?_
  refine jq_freeze b2 (by simp) ?_
  intro M1 hM1 e2
  refine jq_freeze b3 (by simp) ?_
  intro M2 hM2 e3
  refine jr1 rfl rfl ?_
  exact ⟨b2, b3, rfl, hM2 _ _ e2, e3, rfl⟩

theorem chunk_body (b b2 sb so c : Nat) (M : Mem) (hc : 256 ≤ c) (hb : M b = some (.cells #[.slice (some ⟨sb, so, none⟩) 256 c] 26 (0, 0))) (hb2 : M b2 = some (.cells #[.int .i64 128] 3 (0, 0))) (l : Nat) (J Jx : List Nat → Mem → Lc → Prop) (M1 : Mem) (L0 : Lc) (hM : MLe M M1) (hJ : ∀ pre y M2 L2, MLe M1 M2 → J pre M2 L2 → pre ++ [y] <+: List.range 2 → RoundL Tryz.prog l ((fun i : Nat => [.slice (some ⟨sb, so + 128 * i, none⟩) 128 128]) y).toArray M2 L2 fun v M' L' => (v = .bool true ∧ J (pre ++ [y]) M' L') ∨ (v = .bool false ∧ Jx (pre ++ [y]) M' L')) (h0 : J [] M1 L0) :
    SpecL Tryz.prog 125 #[.func (.yield l) #[] #[], .pointer (some ⟨b, 0, none⟩), .pointer (some ⟨b2, 0, none⟩)] M1 L0 fun _ M' L' => J (List.range 2) M' L' ∨ ∃ pre, pre <+: List.range 2 ∧ Jx pre M' L' := by
  have hbc : ∀ {M2 : Mem} (L : Lc), MLe M1 M2 → CJ M2 L b 0 (.slice (some ⟨sb, so, none⟩) 256 c) := fun L h => (CM.cj ⟨_, _, _, h _ _ (hM _ _ hb), rfl⟩ L)
  have hbn : ∀ {M2 : Mem} (L : Lc), MLe M1 M2 → CJ M2 L b2 0 (.int .i64 128) := fun L h => (CM.cj ⟨_, _, _, h _ _ (hM _ _ hb2), rfl⟩ L)
  refine spec_body (vs := [_, _, _]) 31 _ Tryz.func125 rfl Tryz.ntmps125 rfl rfl ?_; intro W
  refine jc_seq ?_
  refine jc_region ?_
  refine jp rfl ?_
  refine jl_nil ?_
  refine jT ?_
  refine jc_block ?_
  refine jc_loopK (α := Nat × Mem × Lc) (fun x => [(0, .func (.yield l) #[] #[]), (1, .pointer (some ⟨b, 0, none⟩)), (2, .pointer (some ⟨b2, 0, none⟩)), (4, .int .i64 ((128 * x.1 : Nat) : Int))]) (fun x => x.2.1) (fun x => x.2.2) (fun x => x.1 ≤ 2 ∧ MLe M1 x.2.1 ∧ J ((List.range 2).take x.1) x.2.1 x.2.2) (fun x => 2 - x.1)
    (0, M1, L0) (Keep.cons (t := 0) rfl (Keep.cons (t := 1) rfl (Keep.cons (t := 2) rfl (Keep.cons (t := 4) rfl Keep.nil)))) ⟨by show 0 ≤ 2; omega, MLe.refl _, h0⟩ (fun _ h => h) ?_
  rintro ⟨k, Mk, Lk⟩ ⟨hk, hMk, hJk⟩
  try dsimp only at hk hMk hJk ⊢
  refine jc_seq ?_
  refine jc_seq ?_
  refine jc_region ?_
  refine jp rfl ?_
  refine jl_q rfl rfl (qLd rfl rfl rfl rfl (hbc _ hMk)) ?_
  refine jl_q rfl rfl (qLen rfl rfl rfl) ?_
  refine js rfl (fun h9 => ?_) (fun h9 => ?_)
  · refine jl_nil ?_
    refine jT ?_
    refine jc_yes rfl ?_
    refine jc_skip ?_
    refine jT ?_
    refine jc_seq ?_
    refine jc_block ?_
    refine jc_seq ?_
    refine jc_draw [(0, true), (1, true), (2, true), (3, true), (4, true), (5, true), (6, true)] _ (by kernel_rfl) (by kernel_rfl) (by kernel_rfl) rfl (fun _ h => h) ?_
    refine jd_q rfl rfl rfl (qLd rfl rfl rfl rfl (hbn _ hMk)) ?_
    refine jd_q rfl rfl rfl (qLd rfl rfl rfl rfl (hbc _ hMk)) ?_
    refine dp rfl rfl ?_
    have hk1 : k < 2 := by omega
    refine jd_q rfl rfl rfl (qEq (qSl rfl rfl rfl (.no _) (.no _) (.of (v := 128 * k) rfl (by omega) (by omega)) (by omega) (by simp)) (v' := .slice (some ⟨sb, so + 128 * k, none⟩) (256 - 128 * k) (c - 128 * k)) (by rw [slA_some (by omega)]; try simp)) ?_
    refine jd_q rfl rfl rfl (qLen rfl rfl rfl) ?_
    refine jd_q rfl rfl rfl (qEq (qMin rfl rfl rfl rfl) (v' := .int .i64 128) (by congr 1; omega)) ?_
    refine dp rfl rfl ?_
    refine jd_nil ?_
    refine jPn ?_
    refine jT ?_
    refine jc_seq ?_
    refine jc_region ?_
    refine jp rfl ?_
    refine jl_q rfl rfl (qLd rfl rfl rfl rfl (hbc _ hMk)) ?_
    iterate 3 refine jp rfl ?_
    refine ja rfl (by omega) ?_
    iterate 2 refine jp rfl ?_
    refine ja rfl (by omega) ?_
    refine jl_q rfl rfl (qEq (qSl rfl rfl rfl (.of (v := 128 * k + 128) rfl (by omega) (by omega)) (.of (v := 128 * k + 128) rfl (by omega) (by omega)) (.of (v := 128 * k) rfl (by omega) (by omega)) (by omega) (by simp)) (v' := .slice (some ⟨sb, so + 128 * k, none⟩) 128 128) (by rw [slA_some (by omega)]; try simp)) ?_
    have hts : (List.range 2).take (k + 1) = (List.range 2).take k ++ [k] := by rw [List.take_succ_eq_append_getElem (by simpa using hk1), List.getElem_range]
    refine jl_h rfl rfl (hYield rfl rfl rfl rfl (hJ ((List.range 2).take k) k Mk Lk hMk hJk (by rw [← hts]; exact List.take_prefix _ _))) ?_; rintro _ M' _ ⟨hM', R', rfl, hy⟩
    rcases hy with ⟨rfl, hy⟩ | ⟨rfl, hy⟩
    · refine jp rfl ?_
      refine jl_nil ?_
      refine jT ?_
      refine jc_no rfl ?_
      refine jc_skip ?_
      refine jB ?_
      refine jT ?_
      refine jc_region ?_
      refine jp rfl ?_
      refine jl_q rfl rfl (qLd rfl rfl rfl rfl (hbn _ (hMk.trans hM'))) ?_
      refine ja rfl (by omega) ?_
      refine jp rfl ?_
      refine jl_nil ?_
      refine j_again (k + 1, M', R') (Keep.cons (t := 0) rfl (Keep.cons (t := 1) rfl (Keep.cons (t := 2) rfl (Keep.ceq (t := 4) rfl (by congr 1) Keep.nil)))) ⟨by show k + 1 ≤ 2; omega, hMk.trans hM', by show J ((List.range 2).take (k + 1)) _ _; rw [hts]; exact hy⟩ (by show 2 - (k + 1) < 2 - k; omega) (fun _ h => h.fewer (by simp))
    · refine jp rfl ?_
      refine jl_nil ?_
      refine jT ?_
      refine jc_yes rfl ?_
      refine jc_ret ?_
      refine jBr ?_
      refine jTr ?_
      refine jTr ?_
      refine jBr ?_
      refine jq_drop (L' := R') (by simp) ?_
      refine jrs (rs := []) rfl .nil ?_
      exact .inr ⟨_, by rw [← hts]; exact List.take_prefix _ _, hy⟩
  · refine jl_nil ?_
    refine jT ?_
    refine jc_no rfl ?_
    refine jc_exit ?_
    refine jTx ?_
    refine jTx ?_
    refine jBx ?_
    refine jrn ?_
    refine jrs (rs := []) rfl .nil ?_
    obtain rfl : k = 2 := by omega
    exact .inl hJk


theorem chunk_iter (b b2 sb so c : Nat) (M : Mem) (hc : 256 ≤ c) (hb : M b = some (.cells #[.slice (some ⟨sb, so, none⟩) 256 c] 26 (0, 0))) (hb2 : M b2 = some (.cells #[.int .i64 128] 3 (0, 0))) : Iter Tryz.prog 125 [.pointer (some ⟨b, 0, none⟩), .pointer (some ⟨b2, 0, none⟩)] M (fun i : Nat => [.slice (some ⟨sb, so + 128 * i, none⟩) 128 128]) (List.range 2) :=
  fun l J Jx M1 L0 hM hJ h0 => chunk_body b b2 sb so c M hc hb hb2 l J Jx M1 L0 hM hJ h0
def wts (k : Int) (t : List By) : List Wt := [(k, half t 0), (k + 1, half t 1)]

theorem place_spec (bs : List (List By)) (ws : List Wt) (bv wv : Value) (M : Mem) (h1 : LS M bv bs) (h2 : WS M wv ws) (hdk : dkOk bs ws) (side : Int) (hs : side = 0 ∨ side = 1) :
    SpecL Tryz.prog 46 #[.agg #[bv, wv], .int .i64 side] M [] fun u _ _ => u = .tuple #[.int .i64 (4 + 2 * side), .int .i64 0] := by
  have hck : dkChk bs ws = 0 := if_pos hdk
  refine spec_body (vs := [_, _]) 22 _ Tryz.func46 rfl Tryz.ntmps46 rfl rfl ?_; intro W
  refine jc_seq ?_
  refine jc_region ?_
  refine jl_h rfl rfl (hBox (cs := [_, _]) rfl rfl rfl rfl) ?_; rintro _ _ _ ⟨b2, rfl, rfl, rfl⟩
  iterate 2 refine jp rfl ?_
  refine jl_nil ?_
  refine jT ?_
  refine jc_seq ?_
  refine jc_seq ?_
  refine jc_region ?_
  refine jl_q rfl rfl (qLdL rfl rfl rfl rfl rfl (by first | (simp only [Nat.reduceAdd, Nat.zero_add, Nat.add_zero, List.drop_succ_cons, List.drop_zero, List.drop_nil, List.take_succ_cons, List.take_zero, List.take_nil, List.cons_append, List.nil_append, List.append_nil, List.length_cons, List.length_nil]; try rfl) | rfl)) ?_
  refine jl_q rfl rfl (qCall rfl rfl rfl rfl rfl (by kernel_rfl) (dcheck_spec bs ws bv wv M h1 h2)) ?_
  refine jp rfl ?_
  refine jl_nil ?_
  refine jT ?_
  refine jc_seq ?_
  refine jc_region ?_
  refine jp rfl ?_
  refine jf rfl (decide_eq_false (by first | omega | (rw [hck]; decide))) ?_
  refine jl_nil ?_
  refine jT ?_
  refine jc_no rfl ?_
  refine jc_skip ?_
  refine jT ?_
  refine jc_seq ?_
  refine jc_seq ?_
  refine jc_region ?_
  refine jp rfl ?_
  refine js rfl (fun h13 => ?_) (fun h13 => ?_)
  · iterate 2 refine jp rfl ?_
    refine jf rfl (decide_eq_false (by first | omega | (rw [hck]; decide))) ?_
    refine jp rfl ?_
    refine jl_nil ?_
    refine jT ?_
    refine jc_no rfl ?_
    refine jc_skip ?_
    refine jT ?_
    refine jc_seq ?_
    refine jc_region ?_
    refine jp rfl ?_
    refine ja rfl (by first | omega | (rw [hck]; decide)) ?_
    refine jl_q rfl rfl (qQuo rfl rfl rfl rfl (by omega) (by omega) (by omega)) ?_
    refine ja rfl (by first | omega | (rw [hck]; decide)) ?_
    iterate 2 refine jp rfl ?_
    refine jl_nil ?_
    refine jT ?_
    refine jc_ret ?_
    refine jr2 rfl rfl rfl ?_
    have e : 4 + side * 4 / 2 = 4 + 2 * side := by omega
    show Value.tuple #[.int .i64 (4 + side * 4 / 2), .int .i64 0] = _
    rw [e]
  · iterate 4 refine jp rfl ?_
    refine jl_nil ?_
    refine jT ?_
    refine jc_no rfl ?_
    refine jc_skip ?_
    refine jT ?_
    refine jc_seq ?_
    refine jc_region ?_
    refine jp rfl ?_
    refine ja rfl (by first | omega | (rw [hck]; decide)) ?_
    refine jl_q rfl rfl (qQuo rfl rfl rfl rfl (by omega) (by omega) (by omega)) ?_
    refine ja rfl (by first | omega | (rw [hck]; decide)) ?_
    iterate 2 refine jp rfl ?_
    refine jl_nil ?_
    refine jT ?_
    refine jc_ret ?_
    refine jr2 rfl rfl rfl ?_
    have e : 4 + side * 4 / 2 = 4 + 2 * side := by omega
    show Value.tuple #[.int .i64 (4 + side * 4 / 2), .int .i64 0] = _
    rw [e]

set_option maxHeartbeats 2000000 in
theorem cwrite_spec (bs : List (List By)) (ws : List Wt) (bv wv : Value) (M : Mem) (h1 : LS M bv bs) (h2 : WS M wv ws) (hdk : dkOk bs ws) (side : Int) (hs : side = 0 ∨ side = 1) (t : List By) (tv : Value) (ht : BS M tv t) (hct0 : ctOk t) (hwl : ws.length ≤ 4000) :
    SpecL Tryz.prog 57 #[.agg #[bv, wv], .int .i64 side, tv] M [] fun u M' L' => (∃ d, u = .tuple #[d, .int .i64 0] ∧ DK M' d bs (ws ++ wts (4 + 2 * side) t)) ∧ L' = [] := by
  have hct : ctChk t = 0 := if_pos hct0
  have htl : t.length = 256 := hct0.1
  obtain ⟨ta, tc, rfl, htc, hts⟩ := id ht
  obtain ⟨sb, so, e0, hx⟩ := hts.open (by intro e; have := congrArg List.length e; rw [bcells_len, List.length_nil] at this; omega)
  subst e0
  refine spec_body (vs := [_, _, _]) 45 _ Tryz.func57 rfl Tryz.ntmps57 rfl rfl ?_; intro W
  refine jc_seq ?_
  refine jc_region ?_
  refine jl_h rfl rfl (hBox (cs := [_, _]) rfl rfl rfl rfl) ?_; rintro _ _ _ ⟨b3, rfl, rfl, rfl⟩
  refine jl_h rfl rfl (hAlloc rfl rfl) ?_; rintro _ _ _ ⟨b6, rfl, rfl, rfl⟩
  refine jl_h rfl rfl (hAlloc rfl rfl) ?_; rintro _ _ _ ⟨b7, rfl, rfl, rfl⟩
  refine jl_nil ?_
  refine jT ?_
  refine jc_seq ?_
  refine jc_region ?_
  refine jl_q rfl rfl (qLdL rfl rfl rfl rfl rfl (by first | (simp only [Nat.reduceAdd, Nat.zero_add, Nat.add_zero, List.drop_succ_cons, List.drop_zero, List.drop_nil, List.take_succ_cons, List.take_zero, List.take_nil, List.cons_append, List.nil_append, List.append_nil, List.length_cons, List.length_nil]; try rfl) | rfl)) ?_
  refine jp rfl ?_
  refine jl_q rfl rfl (qCall rfl rfl rfl rfl rfl (by kernel_rfl) (place_spec bs ws bv wv M h1 h2 hdk side hs)) ?_
  iterate 3 refine jp rfl ?_
  refine jl_h rfl rfl (hAlloc rfl rfl) ?_; rintro _ _ _ ⟨b8, rfl, rfl, rfl⟩
  refine jl_h rfl rfl (hAlloc rfl rfl) ?_; rintro _ _ _ ⟨b9, rfl, rfl, rfl⟩
  refine jl_s rfl (hStoreL rfl rfl rfl rfl rfl rfl rfl rfl (by first | (simp only [Nat.reduceAdd, Nat.zero_add, Nat.add_zero, List.drop_succ_cons, List.drop_zero, List.drop_nil, List.take_succ_cons, List.take_zero, List.take_nil, List.cons_append, List.nil_append, List.append_nil, List.length_cons, List.length_nil]; try rfl) | rfl)) ?_; rintro _ _ _ ⟨rfl, rfl⟩
  refine jl_s rfl (hStoreL rfl rfl rfl rfl rfl rfl rfl rfl (by first | (simp only [Nat.reduceAdd, Nat.zero_add, Nat.add_zero, List.drop_succ_cons, List.drop_zero, List.drop_nil, List.take_succ_cons, List.take_zero, List.take_nil, List.cons_append, List.nil_append, List.append_nil, List.length_cons, List.length_nil]; try rfl) | rfl)) ?_; rintro _ _ _ ⟨rfl, rfl⟩
  refine jl_nil ?_
  refine jT ?_
  refine jc_seq ?_
  refine jc_seq ?_
  refine jc_region ?_
  refine jl_q rfl rfl (qLd rfl rfl rfl rfl (CJ.loc rfl)) ?_
  refine jf rfl (decide_eq_false (by first | omega | (rw [hck]; decide) | (rw [hct]; decide))) ?_
  refine jl_nil ?_
  refine jT ?_
  refine jc_no rfl ?_
  refine jc_skip ?_
  refine jT ?_
  refine jc_seq ?_
  refine jc_seq ?_
  refine jc_region ?_
  refine jp rfl ?_
  refine jl_q rfl rfl (qCall rfl rfl rfl rfl rfl (by kernel_rfl) (ccheck_spec t _ M ht)) ?_
  refine jp rfl ?_
  refine jl_nil ?_
  refine jT ?_
  refine jc_seq ?_
  refine jc_region ?_
  refine jp rfl ?_
  refine jf rfl (decide_eq_false (by first | omega | (rw [hck]; decide) | (rw [hct]; decide))) ?_
  refine jl_nil ?_
  refine jT ?_
  refine jc_no rfl ?_
  refine jc_skip ?_
  refine jT ?_
  refine jc_seq ?_
  refine jc_seq ?_
  refine jc_region ?_
  refine jp rfl ?_
  rw [htl]
  refine jl_h rfl rfl (hCall rfl rfl rfl rfl rfl (by kernel_rfl) (chunk_spec _ 256 tc M)) ?_; rintro _ M1 _ ⟨hM1, _, rfl, ⟨cb, cb2, rfl, ecb, ecb2, rfl⟩⟩
  simp only [List.nil_append]
  refine jl_nil ?_
  refine jT ?_
  refine jc_block ?_
  have h1m := h1.mono hM1
  have h2m := h2.mono hM1
  refine jc_weak (L' := [(b9, .cells [.int .i64 0].toArray 36 (0, 0)), (b8, .cells [.int .i64 (4 + 2 * side)].toArray 3 (0, 0)), (b7, .cells [.int .i64 0].toArray 36 (0, 0)), (b6, .cells [.slice none 0 0, .slice none 0 0].toArray TDk (0, 0)), (b3, .cells [bv, wv].toArray TDk (0, 0))]) (fun _ h => h) ?_
  refine jc_range (R := [(b9, .cells [.int .i64 0].toArray 36 (0, 0)), (b8, .cells [.int .i64 (4 + 2 * side)].toArray 3 (0, 0)), (b3, .cells [bv, wv].toArray TDk (0, 0))]) (xs := List.range 2) (enc := (fun i : Nat => [.slice (some ⟨sb, so + 128 * i, none⟩) 128 128])) (ps := [30]) rfl (by kernel_rfl) (chunk_iter cb cb2 sb so tc M1 (by omega) ecb ecb2)
    (fun pre M2 R => ∃ bv2 wv2, R = [(b9, .cells [.int .i64 0].toArray 36 (0, 0)), (b8, .cells [.int .i64 (4 + 2 * side + (pre.length : Int))].toArray 3 (0, 0)), (b3, .cells [bv2, wv2].toArray TDk (0, 0))] ∧ LS M2 bv2 bs ∧ WS M2 wv2 (ws ++ (wts (4 + 2 * side) t).take pre.length))
    (fun _ _ _ _ => False)
    (fun _ => rfl) (by decide) ⟨bv, wv, by simp, h1m, by simpa using h2m⟩ ?_ ?_ ?_
  · intro l W2 pre y M2 R2 hM2 hI hpre
    obtain ⟨bv2, wv2, rfl, hB, hW⟩ := hI
    refine jc_region ?_
    refine jp rfl ?_
    refine jl_nil ?_
    refine jK fun W' => ?_
    refine jc_block ?_
    refine jc_seq ?_
    refine jc_seq ?_
    refine jc_region ?_
    refine jl_q rfl rfl (qLdL rfl rfl rfl rfl rfl (by first | (simp only [Nat.reduceAdd, Nat.zero_add, Nat.add_zero, List.drop_succ_cons, List.drop_zero, List.drop_nil, List.take_succ_cons, List.take_zero, List.take_nil, List.cons_append, List.nil_append, List.append_nil, List.length_cons, List.length_nil]; try rfl) | rfl)) ?_
    refine jl_q rfl rfl (qLd rfl rfl rfl rfl (CJ.loc rfl)) ?_
    refine jp rfl ?_
    obtain ⟨rfl, hy2, hpr⟩ := range_pre hpre
    have hpl : pre.length < 2 := hy2
    have hhl : (half t pre.length).length = 128 := by unfold half; rw [List.length_take, List.length_drop]; omega
    have hwk : ((wts (4 + 2 * side) t).take pre.length).length ≤ 2 := by rw [List.length_take]; omega
    have hdk2 : dkOk bs (ws ++ (wts (4 + 2 * side) t).take pre.length) := ⟨hdk.1, by rw [List.length_append]; omega, hdk.2.2.1, fun w hw => by
      rcases List.mem_append.1 hw with hw | hw
      · exact hdk.w w hw
      · have := List.mem_of_mem_take hw
        simp only [wts, List.mem_cons, List.not_mem_nil, or_false] at this
        rcases this with rfl | rfl
        · exact ⟨by show 0 ≤ 4 + 2 * side; omega, by show 4 + 2 * side < 256; omega, by show (half t 0).length = 128; unfold half; simp [htl]⟩
        · exact ⟨by show 0 ≤ 4 + 2 * side + 1; omega, by show 4 + 2 * side + 1 < 256; omega, by show (half t 1).length = 128; unfold half; simp [htl]⟩⟩
    have hbs : BS M2 (.slice (some ⟨sb, so + 128 * pre.length, none⟩) 128 128) (half t pre.length) := ⟨_, _, by rw [hhl], by rw [hhl]; exact Nat.le_refl _, .inr ⟨sb, so + 128 * pre.length, rfl, fun i u hu => by have := SM.sub (128 * pre.length) 128 hx i u hu; rw [Nat.mul_one] at this; exact this.mono (hM1.trans hM2)⟩⟩
    refine jl_h rfl rfl (hCall rfl rfl rfl rfl rfl (by kernel_rfl) (dwrite_spec bs (ws ++ (wts (4 + 2 * side) t).take pre.length) bv2 wv2 M2 hB hW hdk2 (4 + 2 * side + pre.length) (by omega) (half t pre.length) _ hbs hhl (by rw [List.length_append]; omega))) ?_; rintro _ M3 _ ⟨hM3, _, rfl, ⟨⟨d, rfl, bv3, wv3, rfl, hB3, hW3⟩, rfl⟩⟩
    simp only [List.nil_append]
    obtain ⟨ba3, bc3, bps3, rfl, _⟩ := id hB3
    obtain ⟨wa3, wc3, wps3, rfl, _⟩ := id hW3
    iterate 3 refine jp rfl ?_
    refine jl_s rfl (hStoreL rfl rfl rfl rfl rfl rfl rfl rfl (by first | (simp only [Nat.reduceAdd, Nat.zero_add, Nat.add_zero, List.drop_succ_cons, List.drop_zero, List.drop_nil, List.take_succ_cons, List.take_zero, List.take_nil, List.cons_append, List.nil_append, List.append_nil, List.length_cons, List.length_nil]; try rfl) | rfl)) ?_; rintro _ _ _ ⟨rfl, rfl⟩
    refine jl_s rfl (hStoreL rfl rfl rfl rfl rfl rfl rfl rfl (by first | (simp only [Nat.reduceAdd, Nat.zero_add, Nat.add_zero, List.drop_succ_cons, List.drop_zero, List.drop_nil, List.take_succ_cons, List.take_zero, List.take_nil, List.cons_append, List.nil_append, List.append_nil, List.length_cons, List.length_nil]; try rfl) | rfl)) ?_; rintro _ _ _ ⟨rfl, rfl⟩
    refine jl_nil ?_
    refine jT ?_
    refine jc_seq ?_
    refine jc_region ?_
    refine jl_q rfl rfl (qLd rfl rfl rfl rfl (CJ.loc rfl)) ?_
    refine jf rfl (decide_eq_false (by first | omega | (rw [hck]; decide) | (rw [hct]; decide))) ?_
    refine jl_nil ?_
    refine jT ?_
    refine jc_no rfl ?_
    refine jc_skip ?_
    refine jT ?_
    refine jc_region ?_
    refine jl_q rfl rfl (qLd rfl rfl rfl rfl (CJ.loc rfl)) ?_
    refine ja rfl (by first | omega | (rw [hck]; decide) | (rw [hct]; decide)) ?_
    refine jl_s rfl (hStoreL rfl rfl rfl rfl rfl rfl rfl rfl (by first | (simp only [Nat.reduceAdd, Nat.zero_add, Nat.add_zero, List.drop_succ_cons, List.drop_zero, List.drop_nil, List.take_succ_cons, List.take_zero, List.take_nil, List.cons_append, List.nil_append, List.append_nil, List.length_cons, List.length_nil]; try rfl) | rfl)) ?_; rintro _ _ _ ⟨rfl, rfl⟩
    refine jl_nil ?_
    refine jB ?_
    refine jQn ?_
    have hwt : (wts (4 + 2 * side) t).take (pre ++ [pre.length]).length = (wts (4 + 2 * side) t).take pre.length ++ [(4 + 2 * side + (pre.length : Int), half t pre.length)] := by
      rw [List.length_append, List.length_singleton]
      rcases Nat.lt_or_ge 0 pre.length with h | h
      · rw [show pre.length = 1 by omega]; rfl
      · rw [show pre.length = 0 by omega]; simp [wts]
    have e : (4 + 2 * side + ((pre ++ [pre.length]).length : Int)) = 4 + 2 * side + pre.length + 1 := by simp; omega
    exact ⟨_, .slice wa3 _ wc3, by rw [e]; try rfl, hB3, by rw [hwt, ← List.append_assoc]; exact hW3⟩
  · intro d M2 R2 hM2 hI
    obtain ⟨bv2, wv2, rfl, hB, hW⟩ := hI
    obtain ⟨ba3, bc3, bps3, rfl, _⟩ := id hB
    obtain ⟨wa3, wc3, wps3, rfl, _⟩ := id hW
    simp only [List.cons_append, List.nil_append]
    refine jB ?_
    refine jT ?_
    refine jc_seq ?_
    refine jc_region ?_
    refine jl_q rfl rfl (qLdL rfl rfl rfl rfl rfl (by first | (simp only [Nat.reduceAdd, Nat.zero_add, Nat.add_zero, List.drop_succ_cons, List.drop_zero, List.drop_nil, List.take_succ_cons, List.take_zero, List.take_nil, List.cons_append, List.nil_append, List.append_nil, List.length_cons, List.length_nil]; try rfl) | rfl)) ?_
    refine jl_s rfl (hStoreL rfl rfl rfl rfl rfl rfl rfl rfl (by first | (simp only [Nat.reduceAdd, Nat.zero_add, Nat.add_zero, List.drop_succ_cons, List.drop_zero, List.drop_nil, List.take_succ_cons, List.take_zero, List.take_nil, List.cons_append, List.nil_append, List.append_nil, List.length_cons, List.length_nil]; try rfl) | rfl)) ?_; rintro _ _ _ ⟨rfl, rfl⟩
    refine jl_s rfl (hStoreL rfl rfl rfl rfl rfl rfl rfl rfl (by first | (simp only [Nat.reduceAdd, Nat.zero_add, Nat.add_zero, List.drop_succ_cons, List.drop_zero, List.drop_nil, List.take_succ_cons, List.take_zero, List.take_nil, List.cons_append, List.nil_append, List.append_nil, List.length_cons, List.length_nil]; try rfl) | rfl)) ?_; rintro _ _ _ ⟨rfl, rfl⟩
    refine jl_nil ?_
    refine jT ?_
    refine jc_ret ?_
    refine jr_mark (L2 := _) Rm.perm ?_
    refine jrsd (rs := [_, _]) ([]) (by exact List.nil_sublist _) rfl (.cons (.agg rfl rfl rfl) (.cons (.one rfl rfl rfl) .nil)) ?_
    exact ⟨⟨_, rfl, _, _, rfl, hB, hW⟩, rfl⟩
  · intro _ _ _ _ _ _ _ h; exact h.elim

theorem csum_spec (t : List By) (tv : Value) (M : Mem) (ht : BS M tv t) (hct0 : ctOk t) :
    SpecL Tryz.prog 19 #[tv] M [] fun u _ _ => u = .tuple #[.int .u32 (sumOf t), .int .i64 0] := by
  have hct : ctChk t = 0 := if_pos hct0
  have htl : t.length = 256 := hct0.1
  obtain ⟨ta, tc, rfl, htc, hts⟩ := id ht
  refine spec_body (vs := [_]) 12 _ Tryz.func19 rfl Tryz.ntmps19 rfl rfl ?_; intro W
  refine jc_seq ?_
  refine jc_region ?_
  iterate 2 refine jp rfl ?_
  refine jl_nil ?_
  refine jT ?_
  refine jc_seq ?_
  refine jc_seq ?_
  refine jc_region ?_
  refine jp rfl ?_
  refine jl_q rfl rfl (qCall rfl rfl rfl rfl rfl (by kernel_rfl) (ccheck_spec t _ M ht)) ?_
  refine jp rfl ?_
  refine jl_nil ?_
  refine jT ?_
  refine jc_seq ?_
  refine jc_region ?_
  refine jp rfl ?_
  refine jf rfl (decide_eq_false (by first | omega | (rw [hct]; decide))) ?_
  refine jl_nil ?_
  refine jT ?_
  refine jc_no rfl ?_
  refine jc_skip ?_
  refine jT ?_
  refine jc_seq ?_
  refine jc_region ?_
  refine jp rfl ?_
  refine jl_q rfl rfl (qCall rfl rfl rfl rfl rfl (by kernel_rfl) (of_spec ta tc t M hts (by omega))) ?_
  iterate 2 refine jp rfl ?_
  refine jl_nil ?_
  refine jT ?_
  refine jc_ret ?_
  refine jr2 rfl rfl rfl ?_
  rfl

end Go.Proofs.YtjdmhbenpeedeaaGreat
