/- Walks: what is asked ahead of a put; rows of items copied and replaced; steps told backwards. No statement of the seat is proved here. -/
import Derived.Test.YtckdncmjkloebaaGreatZWay
import Derived.Test.YtckdncmjkloebaaGreatZRep
namespace Go.Proofs.YtckdncmjkloebaaGreat
set_option linter.unusedVariables false
set_option linter.unusedSimpArgs false
open Go.RowKit


theorem bws (a : Option Addr) (n c : Nat) (M : Mem) :
  SpecL Tryz.prog 58 #[.slice a n c] M [] fun u M' L' => ∃ b, u = .func (.func 104) #[] #[.pointer (some ⟨b, 0, none⟩)] ∧ M' b = some (.cells #[.slice a n c] 111 (0, 0)) ∧ L' = [] := by
 refine spec_body (vs := [_]) 4 _ Tryz.func58 rfl Tryz.ntmps58 rfl rfl ?_; intro W
 refine jc_seq ?_
 refine jc_region ?_
 refine jl_h rfl rfl (hBox (cs := [.slice a n c]) rfl rfl rfl rfl) ?_; rintro _ _ _ ⟨b1, rfl, rfl, rfl⟩
 refine jp rfl ?_
 refine jl_nil ?_
 refine jT ?_
 refine jc_seq ?_
 refine jc_region ?_
 iterate 2 refine jp rfl ?_
 refine jl_nil ?_
 refine jT ?_
 refine jc_ret ?_
 refine jq_freeze b1 (by simp) ?_
 intro M1 hM1 e1
 refine jr1 rfl rfl ?_
 exact ⟨b1, rfl, e1, rfl⟩

theorem bws_body (b : Nat) (a : Option Addr) (c : Nat) (xs : List (Stp × Value)) (M : Mem) (hb : M b = some (.cells #[.slice a xs.length c] 111 (0, 0))) (hs : SM M a (xs.flatMap scell)) (hn : xs.length ≤ 1000000) (l : Nat) (J Jx : List ((Stp × Value) × Nat) → Mem → Lc → Prop) (M1 : Mem) (L0 : Lc) (hM : MLe M M1) (hJ : ∀ pre y M2 L2, MLe M1 M2 → J pre M2 L2 → pre ++ [y] <+: bw xs 0 → RoundL Tryz.prog l ((fun p : (Stp × Value) × Nat => [.int .i64 p.2, .agg (scell p.1).toArray]) y).toArray M2 L2 fun v M' L' => (v = .bool true ∧ J (pre ++ [y]) M' L') ∨ (v = .bool false ∧ Jx (pre ++ [y]) M' L')) (h0 : J [] M1 L0) :
  SpecL Tryz.prog 104 #[.func (.yield l) #[] #[], .pointer (some ⟨b, 0, none⟩)] M1 L0 fun _ M' L' => J (bw xs 0) M' L' ∨ ∃ pre, pre <+: bw xs 0 ∧ Jx pre M' L' := by
 have hbc : ∀ {M2 : Mem} (L : Lc), MLe M1 M2 → CJ M2 L b 0 (.slice a xs.length c) := fun L h => (CM.cj ⟨_, _, _, h _ _ (hM _ _ hb), rfl⟩ L)
 refine spec_body (vs := [_, _]) 19 _ Tryz.func104 rfl Tryz.ntmps104 rfl rfl ?_; intro W
 refine jc_seq ?_
 refine jc_region ?_
 refine jl_q rfl rfl (qLd rfl rfl rfl rfl (hbc _ (MLe.refl _))) ?_
 refine jl_q rfl rfl (qLen rfl rfl rfl) ?_
 refine ja rfl (by omega) ?_
 refine jp rfl ?_
 refine jl_nil ?_
 refine jT ?_
 refine jc_block ?_
 refine jc_loopK (α := Int × Mem × Lc) (fun x => [(0, .func (.yield l) #[] #[]), (1, .pointer (some ⟨b, 0, none⟩)), (3, .int .i64 x.1)]) (fun x => x.2.1) (fun x => x.2.2) (fun x => -1 ≤ x.1 ∧ x.1 < xs.length ∧ MLe M1 x.2.1 ∧ J (bw xs (x.1 + 1).toNat) x.2.1 x.2.2) (fun x => (x.1 + 1).toNat)
  ((xs.length : Int) - 1, M1, L0) (Keep.cons (t := 0) rfl (Keep.cons (t := 1) rfl (Keep.cons (t := 3) rfl Keep.nil))) ⟨by show -1 ≤ (xs.length : Int) - 1; omega, by show (xs.length : Int) - 1 < xs.length; omega, MLe.refl _, by show J (bw xs ((xs.length : Int) - 1 + 1).toNat) _ _; rw [show ((xs.length : Int) - 1 + 1).toNat = xs.length by omega, bw_len]; exact h0⟩ (fun _ h => h) ?_
 rintro ⟨i, Mk, Lk⟩ ⟨hk0, hk, hMk, hJk⟩
 try dsimp only at hk0 hk hMk hJk ⊢
 refine jc_seq ?_
 refine jc_seq ?_
 refine jc_region ?_
 refine jp rfl ?_
 refine js rfl (fun hge => ?_) (fun hge => ?_)
 ·refine jl_nil ?_
  refine jT ?_
  refine jc_yes rfl ?_
  refine jc_skip ?_
  refine jT ?_
  refine jc_seq ?_
  refine jc_block ?_
  refine jc_seq ?_
  refine jc_region ?_
  iterate 2 refine jp rfl ?_
  obtain ⟨k, rfl⟩ : ∃ k : Nat, i = k := ⟨i.toNat, by omega⟩
  have hk1 : k < xs.length := by omega
  obtain ⟨sb, so, e0, hx⟩ := hs.open (by intro e; have := congrArg List.length e; rw [flat_len scell 3 scell_len, List.length_nil] at this; omega)
  subst e0
  refine jl_q rfl rfl (qLd rfl rfl rfl rfl (hbc _ hMk)) ?_
  refine jp rfl ?_
  refine jl_q rfl rfl (qIdxS rfl rfl rfl rfl (by omega)) ?_
  refine jl_q rfl rfl (qLdA (cs := scell xs[k]) rfl rfl rfl rfl rfl (fun i v hv => ((flat_cm scell 3 scell_len hx (show xs[k]? = some xs[k] by simp [hk1]) i v hv).mono (hM.trans hMk)).cj _)) ?_
  refine jl_h rfl rfl (hYield rfl rfl rfl rfl (hJ (bw xs (k + 1)) (xs[k], k) Mk Lk hMk (by rwa [show ((k : Int) + 1).toNat = k + 1 by omega] at hJk) (by rw [← bw_step xs hk1]; exact bw_prefix xs k))) ?_; rintro _ M' _ ⟨hM', R', rfl, hy⟩
  rw [← bw_step xs hk1] at hy
  rcases hy with ⟨rfl, hy⟩ | ⟨rfl, hy⟩
  ·refine jp rfl ?_
   refine jl_nil ?_
   refine jT ?_
   refine jc_no rfl ?_
   refine jc_skip ?_
   refine jB ?_
   refine jT ?_
   refine jc_region ?_
   refine jp rfl ?_
   refine ja rfl (by omega) ?_
   refine jp rfl ?_
   refine jl_nil ?_
   refine j_again ((k : Int) - 1, M', R') (Keep.cons (t := 0) rfl (Keep.cons (t := 1) rfl (Keep.cons (t := 3) rfl Keep.nil))) ⟨by show -1 ≤ (k : Int) - 1; omega, by show (k : Int) - 1 < xs.length; omega, hMk.trans hM', by show J (bw xs ((k : Int) - 1 + 1).toNat) _ _; rw [show ((k : Int) - 1 + 1).toNat = k by omega]; exact hy⟩ (by show ((k : Int) - 1 + 1).toNat < ((k : Int) + 1).toNat; omega) (fun _ h => h.fewer (by simp))
  ·refine jp rfl ?_
   refine jl_nil ?_
   refine jT ?_
   refine jc_yes rfl ?_
   refine jc_ret ?_
   refine jBr ?_
   refine jTr ?_
   refine jTr ?_
   refine jBr ?_
   refine jq_drop (L' := R') (by simp) ?_
   refine jrs (rs := []) rfl .nil ?_
   exact .inr ⟨_, bw_prefix xs k, hy⟩
 ·refine jl_nil ?_
  refine jT ?_
  refine jc_no rfl ?_
  refine jc_exit ?_
  refine jTx ?_
  refine jTx ?_
  refine jBx ?_
  refine jrn ?_
  refine jrs (rs := []) rfl .nil ?_
  obtain rfl : i = -1 := by omega
  exact .inl hJk


theorem bws_iter (b : Nat) (a : Option Addr) (c : Nat) (xs : List (Stp × Value)) (M : Mem) (hb : M b = some (.cells #[.slice a xs.length c] 111 (0, 0))) (hs : SM M a (xs.flatMap scell)) (hn : xs.length ≤ 1000000) : Iter Tryz.prog 104 [.pointer (some ⟨b, 0, none⟩)] M (fun p : (Stp × Value) × Nat => [.int .i64 p.2, .agg (scell p.1).toArray]) (bw xs 0) :=
 fun l J Jx M1 L0 hM hJ h0 => bws_body b a c xs M hb hs hn l J Jx M1 L0 hM hJ h0

theorem iclone_nil (c : Nat) (M : Mem) :
  SpecL Tryz.prog 36 #[.slice none 0 c] M [] fun v _ L' => Own v L' IT 5 0 [] := by
 refine spec_body (vs := [_]) 8 _ Tryz.func36 rfl Tryz.ntmps36 rfl rfl ?_; intro W
 refine jc_seq ?_
 refine jc_region ?_
 refine jp rfl ?_
 refine jl_nil ?_
 refine jT ?_
 refine jc_seq ?_
 refine jc_seq ?_
 refine jc_region ?_
 refine jp rfl ?_
 refine jl_q rfl rfl (qEq (qNil rfl rfl rfl rfl) (v' := .bool true) (by simp)) ?_
 refine jl_nil ?_
 refine jT ?_
 refine jc_yes rfl ?_
 refine jc_seq ?_
 refine jc_region ?_
 refine jp rfl ?_
 refine jl_nil ?_
 refine jT ?_
 refine jc_ret ?_
 refine jTr ?_
 refine jr1 rfl rfl ?_
 exact Own.nil _ _

theorem own_none (b : Nat) : Own (.slice (some ⟨b, 0, none⟩) 0 0) [(b, .cells ([] : List Value).toArray IT (0, 0))] IT 5 0 [] := ⟨rfl, .inr ⟨b, 0, _, rfl, rfl, Nat.le_refl _, Nat.zero_le _, rfl, rfl⟩⟩
theorem iclone_some (b : Addr) (n c : Nat) (vals : List Value) (M : Mem) (hs : SM M (some b) vals) (hl : vals.length = n * 5) (h1 : ∀ v ∈ vals, v.oneCell' = true) (hn : n ≤ 1000000) :
  SpecL Tryz.prog 36 #[.slice (some b) n c] M [] fun v _ L' => Own v L' IT 5 n vals := by
 refine spec_body (vs := [_]) 8 _ Tryz.func36 rfl Tryz.ntmps36 rfl rfl ?_; intro W
 refine jc_seq ?_
 refine jc_region ?_
 refine jp rfl ?_
 refine jl_nil ?_
 refine jT ?_
 refine jc_seq ?_
 refine jc_seq ?_
 refine jc_region ?_
 refine jp rfl ?_
 refine jl_q rfl rfl (qEq (qNil rfl rfl rfl rfl) (v' := .bool false) (by simp)) ?_
 refine jl_nil ?_
 refine jT ?_
 refine jc_no rfl ?_
 refine jc_skip ?_
 refine jT ?_
 refine jc_seq ?_
 refine jc_region ?_
 refine jl_h rfl rfl (hBuildSlice (z := zeroIt) (cs := []) rfl rfl rfl (by rfl) (by rfl) (by rfl)) ?_; rintro _ _ _ ⟨b5, rfl, rfl, rfl⟩
 refine jp rfl ?_
 refine jl_h rfl rfl (hAppendM (n := 0) (xs := []) (news := vals) rfl rfl rfl rfl (own_none b5) hl hs rfl h1 (by omega) (by decide)) ?_; rintro v7 _ _ ⟨rfl, R7, rfl, hown⟩
 refine jp rfl ?_
 refine jl_nil ?_
 refine jT ?_
 refine jc_ret ?_
 refine jr1 rfl rfl ?_
 simpa using hown


theorem iclone_spec (a : Option Addr) (c : Nat) (ps : List Ir) (M : Mem) (hs : SM M a (ps.flatMap icell)) (h1 : ∀ x ∈ ps, x.2.oneCell' = true) (hn : ps.length ≤ 1000000) : SpecL Tryz.prog 36 #[.slice a ps.length c] M [] fun v _ L' => Own v L' IT 5 ps.length (ps.flatMap icell) := by
 cases a with
 | none =>
  have h0 : ps.flatMap icell = [] := hs.elim id (fun ⟨_, _, h, _⟩ => by cases h)
  have : ps = [] := by
   cases ps with
   | nil => rfl
   | cons p ps => simp [icell] at h0
  subst this
  exact iclone_nil c M
 | some b => exact iclone_some b ps.length c (ps.flatMap icell) M hs (fl ps) (rows_one h1) hn
theorem ns_one {M : Mem} {ps : List Ir} (h : ∀ p ∈ ps, BS M p.2 p.1.val) : ∀ x ∈ ps, x.2.oneCell' = true := fun x hx => by
 obtain ⟨_, _, e, _⟩ := h x hx; rw [e]; rfl

theorem rep_none (ps vs : List Ir) (i : Nat) (hi : i ≤ ps.length) (sa : Option Addr) (sc : Nat) (R : Lc) (hown : Own (.slice sa ps.length sc) R IT 5 ps.length (ps.flatMap icell)) (hpo : ∀ x ∈ ps, x.2.oneCell' = true) (hpc : ps.length ≤ sc) (vb vc : Nat) (vl : List Value) (ve : TypeId) (M : Mem) (hvb : M vb = some (.cells (vs.flatMap icell ++ vl).toArray ve (0, 0))) (hvo : ∀ x ∈ vs, x.2.oneCell' = true) (hm : 0 < vs.length) (hbig : ps.length + vs.length ≤ 100000) :
  SpecL Tryz.prog 41 #[.slice sa ps.length sc, .int .i64 i, .int .i64 i, .slice (some ⟨vb, 0, none⟩) vs.length vc] M R fun u _ L' => Own u L' IT 5 (ps.length + vs.length) ((ps.take i ++ vs ++ ps.drop i).flatMap icell) := by
 refine spec_body (vs := [_, _, _, _]) 224 _ Tryz.func41 rfl Tryz.ntmps41 rfl rfl ?_; intro W
 refine jc_seq ?_
 refine jc_region ?_
 refine jp rfl ?_
 refine jl_nil ?_
 refine jT ?_
 refine jc_seq ?_
 refine jc_region ?_
 iterate 3 refine jp rfl ?_
 refine jl_q rfl rfl (qSl rfl rfl rfl (.no _) (.of (v := i) rfl (by omega) rfl) (.of (v := i) rfl (by omega) rfl) (by omega) (by simp)) ?_
 refine jl_nil ?_
 refine jT ?_
 refine jc_seq ?_
 refine jc_seq ?_
 refine jc_region ?_
 iterate 2 refine jp rfl ?_
 refine jt rfl (decide_eq_true (by omega)) ?_
 refine jl_nil ?_
 refine jT ?_
 refine jc_yes rfl ?_
 refine jc_seq ?_
 refine jc_region ?_
 iterate 3 refine jp rfl ?_
 refine jl_h rfl rfl (hCall rfl rfl rfl rfl rfl (by kernel_rfl) (ins_spec ps vs i hi sa sc R hown hpo hpc vb vc vl ve M hvb hvo hm hbig)) ?_; rintro _ M2 _ ⟨_, R2, rfl, hown2⟩
 refine jp rfl ?_
 refine jl_nil ?_
 refine jT ?_
 refine jc_ret ?_
 refine jTr ?_
 refine jq_drop (L' := R2) (by simp) ?_
 refine jr1 rfl rfl ?_
 exact hown2

theorem tall1_spec (w : Stp) (a : Option Addr) (c : Nat) (M : Mem) :
  SpecL Tryz.prog 103 #[.agg #[.int .i64 w.lv, .slice a w.xs.length c, .int .i64 w.at_]] M [] fun v _ _ => v = .bool (decide (w.xs.length < 5)) := by
 refine spec_body (vs := [_]) 8 _ Tryz.func103 rfl Tryz.ntmps103 rfl rfl ?_; intro W
 refine jc_seq ?_
 refine jc_region ?_
 refine jl_h rfl rfl (hBox (cs := [.int .i64 w.lv, .slice a w.xs.length c, .int .i64 w.at_]) rfl rfl rfl rfl) ?_; rintro _ _ _ ⟨b1, rfl, rfl, rfl⟩
 refine jp rfl ?_
 refine jl_nil ?_
 refine jT ?_
 refine jc_seq ?_
 refine jc_region ?_
 refine jl_q rfl rfl (qFieldAddr rfl rfl rfl rfl rfl) ?_
 refine jl_q rfl rfl (qFieldAddr rfl rfl rfl rfl rfl) ?_
 refine jl_q rfl rfl (qLd rfl rfl rfl rfl (CJ.loc rfl)) ?_
 refine jl_q rfl rfl (qLen rfl rfl rfl) ?_
 iterate 2 refine jp rfl ?_
 refine jl_nil ?_
 refine jT ?_
 refine jc_ret ?_
 refine jr1 rfl rfl ?_
 exact congrArg _ (decide_eq_decide.2 (by omega))


theorem steps_get {M : Mem} {sb so : Nat} {ws : List Stp} {ps : List (Stp × Value)} (hx : ∀ i u, (ps.flatMap scell)[i]? = some u → CM M sb (so + i) u) (hp : ps.map (·.1) = ws) (hb : ∀ p ∈ ps, NS M p.2 p.1.xs) {k : Nat} (hk : k < ws.length) :
  ∃ a c, (∀ i v, ([.int .i64 ws[k].lv, .slice a ws[k].xs.length c, .int .i64 ws[k].at_] : List Value)[i]? = some v → CM M sb (so + k * 3 + i) v) ∧ NS M (.slice a ws[k].xs.length c) ws[k].xs := by
 have hk2 : k < ps.length := by rw [← hp, List.length_map] at hk; exact hk
 have hxk : ws[k] = ps[k].1 := by simp [← hp]
 have hn := hb ps[k] (List.getElem_mem hk2)
 obtain ⟨a, c, qs, e, h1, h2, h3, h4⟩ := id hn
 rw [← hxk] at e hn
 refine ⟨a, c, fun i v hv => flat_cm scell 3 scell_len hx (show ps[k]? = some ps[k] by simp [hk2]) i v ?_, by rw [e] at hn; exact hn⟩
 rw [← hv]
 unfold scell
 rw [← hxk, e]
theorem any_take {ws : List Stp} {k : Nat} (h : k < ws.length) : (ws.take (k + 1)).any (fun w => decide (w.xs.length < 5)) = ((ws.take k).any (fun w => decide (w.xs.length < 5)) || decide (ws[k].xs.length < 5)) := by
 rw [List.take_succ_eq_append_getElem h, List.any_append]; simp

theorem sidx_spec (ws : List Stp) (a : Option Addr) (c : Nat) (ps : List (Stp × Value)) (M : Mem) (hc : ws.length ≤ c) (hs : SM M a (ps.flatMap scell)) (hp : ps.map (·.1) = ws) (hb : ∀ p ∈ ps, NS M p.2 p.1.xs) (hn : ws.length ≤ 1000) :
  SpecL Tryz.prog 135 #[.slice a ws.length c, .func (.func 103) #[] #[]] M [] fun v _ _ => ∃ i : Int, v = .int .i64 i ∧ (0 ≤ i ↔ ws.any (fun w => decide (w.xs.length < 5)) = true) := by
 refine spec_body (vs := [_, _]) 19 _ Tryz.func135 rfl Tryz.ntmps135 rfl rfl ?_; intro W
 refine jc_seq ?_
 refine jc_region ?_
 refine jp rfl ?_
 refine jl_nil ?_
 refine jT ?_
 refine jc_seq ?_
 refine jc_seq ?_
 refine jc_region ?_
 refine jp rfl ?_
 refine jl_q rfl rfl (qLen rfl rfl rfl) ?_
 refine jp rfl ?_
 refine jl_nil ?_
 refine jT ?_
 refine jc_block ?_
 refine jc_loopK (α := Nat) (fun k => [(0, .slice a ws.length c), (1, .func (.func 103) #[] #[]), (7, .int .i64 ws.length), (8, .int .i64 k)]) (fun _ => M) (fun _ => []) (fun k => k ≤ ws.length ∧ (ws.take k).any (fun w => decide (w.xs.length < 5)) = false) (fun k => ws.length - k)
  0 (Keep.cons (t := 0) rfl (Keep.cons (t := 1) rfl (Keep.cons (t := 7) rfl (Keep.cons (t := 8) rfl Keep.nil)))) ⟨Nat.zero_le _, rfl⟩ (fun _ h => h) ?_
 rintro k ⟨hk, hI⟩
 try dsimp only at hk hI ⊢
 refine jc_seq ?_
 refine jc_region ?_
 refine js rfl (fun h9 => ?_) (fun h9 => ?_)
 ·refine jl_nil ?_
  refine jT ?_
  refine jc_seq ?_
  refine jc_yes rfl ?_
  refine jc_skip ?_
  refine jT ?_
  refine jc_seq ?_
  refine jc_block ?_
  refine jc_seq ?_
  refine jc_region ?_
  iterate 2 refine jp rfl ?_
  refine jl_nil ?_
  refine jT ?_
  refine jc_seq ?_
  refine jc_region ?_
  iterate 3 refine jp rfl ?_
  have hk1 : k < ws.length := by omega
  obtain ⟨sb, so, e0, hx⟩ := hs.open (by intro e; have := congrArg List.length e; rw [flat_len scell 3 scell_len, List.length_nil] at this; have h2 := congrArg List.length hp; rw [List.length_map] at h2; omega)
  cases e0
  obtain ⟨va, vc, hcl, hvn⟩ := steps_get hx hp hb hk1
  refine jl_q rfl rfl (qIdxS rfl rfl rfl rfl (by omega)) ?_
  refine jl_q rfl rfl (qLdA (cs := [.int .i64 ws[k].lv, .slice va ws[k].xs.length vc, .int .i64 ws[k].at_]) rfl rfl rfl rfl rfl (fun i v hv => (hcl i v hv).cj _)) ?_
  refine jl_qb rfl rfl (qCall rfl rfl rfl rfl rfl (by kernel_rfl) (tall1_spec ws[k] va vc M)) (fun h16 => ?_) (fun h16 => ?_)
  ·refine jl_nil ?_
   refine jT ?_
   refine jc_yes rfl ?_
   refine jc_seq ?_
   refine jc_region ?_
   iterate 2 refine jp rfl ?_
   refine jl_nil ?_
   refine jT ?_
   refine jc_ret ?_
   refine jBr ?_
   refine jTr ?_
   refine jTr ?_
   refine jBr ?_
   refine jTr ?_
   refine jr1 rfl rfl ?_
   refine ⟨(k : Int), rfl, fun _ => ?_, fun _ => by omega⟩
   rw [List.any_eq_true]
   exact ⟨ws[k], List.getElem_mem hk1, h16⟩
  ·refine jl_nil ?_
   refine jT ?_
   refine jc_no rfl ?_
   refine jc_skip ?_
   refine jB ?_
   refine jT ?_
   refine jc_region ?_
   refine ja rfl (by omega) ?_
   refine jp rfl ?_
   refine jl_nil ?_
   refine j_again (k + 1) (Keep.cons (t := 0) rfl (Keep.cons (t := 1) rfl (Keep.cons (t := 7) rfl (Keep.cons (t := 8) rfl Keep.nil)))) ⟨by omega, by rw [any_take hk1, hI, h16]; rfl⟩ (by omega) (fun _ h => h)
 ·refine jl_nil ?_
  refine jT ?_
  refine jc_seq ?_
  refine jc_no rfl ?_
  refine jc_exit ?_
  refine jTx ?_
  refine jTx ?_
  refine jBx ?_
  refine jT ?_
  refine jc_seq ?_
  refine jc_region ?_
  refine jp rfl ?_
  refine jl_nil ?_
  refine jT ?_
  refine jc_ret ?_
  refine jr1 rfl rfl ?_
  have hke : k = ws.length := by omega
  subst hke
  rw [List.take_length] at hI
  exact ⟨-1, rfl, by rw [hI]; simp⟩

theorem shas_spec (ws : List Stp) (a : Option Addr) (c : Nat) (ps : List (Stp × Value)) (M : Mem) (hc : ws.length ≤ c) (hs : SM M a (ps.flatMap scell)) (hp : ps.map (·.1) = ws) (hb : ∀ p ∈ ps, NS M p.2 p.1.xs) (hn : ws.length ≤ 1000) :
  SpecL Tryz.prog 102 #[.slice a ws.length c, .func (.func 103) #[] #[]] M [] fun v _ _ => v = .bool (ws.any (fun w => decide (w.xs.length < 5))) := by
 refine spec_body (vs := [_, _]) 9 _ Tryz.func102 rfl Tryz.ntmps102 rfl rfl ?_; intro W
 refine jc_seq ?_
 refine jc_region ?_
 refine jp rfl ?_
 refine jl_nil ?_
 refine jT ?_
 refine jc_seq ?_
 refine jc_region ?_
 iterate 2 refine jp rfl ?_
 refine jl_h rfl rfl (hCall rfl rfl rfl rfl rfl (by kernel_rfl) (sidx_spec ws a c ps M hc hs hp hb hn)) ?_; rintro _ M1 _ ⟨hM1, _, rfl, ⟨i, rfl, hi⟩⟩
 iterate 2 refine jp rfl ?_
 refine jl_nil ?_
 refine jT ?_
 refine jc_ret ?_
 refine jr1 rfl rfl ?_
 refine congrArg _ ?_
 cases hb2 : ws.any (fun w => decide (w.xs.length < 5))
 ·rw [hb2] at hi; exact decide_eq_false (fun h => by have := hi.1 h; cases this)
 ·rw [hb2] at hi; exact decide_eq_true (hi.2 rfl)

theorem tall_spec (ws : List Stp) (a : Option Addr) (c : Nat) (ps : List (Stp × Value)) (M : Mem) (hc : ws.length ≤ c) (hs : SM M a (ps.flatMap scell)) (hp : ps.map (·.1) = ws) (hb : ∀ p ∈ ps, NS M p.2 p.1.xs) (hn : ws.length ≤ 1000) (q : Ky) (h0 : 0 < ws.length) (hxl : ∀ w ∈ ws, w.xs.length ≤ 100) :
  SpecL Tryz.prog 57 #[.slice a ws.length c, .agg (kcells q).toArray] M [] fun v _ _ => v = .bool (tallF ws q) := by
 refine spec_body (vs := [_, _]) 33 _ Tryz.func57 rfl Tryz.ntmps57 rfl rfl ?_; intro W
 refine jc_seq ?_
 refine jc_region ?_
 refine jl_h rfl rfl (hBox (cs := [.int .u8 q.kind, .int .u32 q.id, .int .u32 q.off]) rfl rfl rfl rfl) ?_; rintro _ _ _ ⟨b3, rfl, rfl, rfl⟩
 refine jp rfl ?_
 refine jl_nil ?_
 refine jT ?_
 refine jc_seq ?_
 refine jc_region ?_
 refine jp rfl ?_
 refine jl_qb rfl rfl (qCall rfl rfl rfl rfl rfl (by kernel_rfl) (shas_spec ws a c ps M hc hs hp hb hn)) (fun h9 => ?_) (fun h9 => ?_)
 ·refine jp rfl ?_
  refine jl_nil ?_
  refine jT ?_
  refine jc_seq ?_
  refine jc_draw [(0, true), (1, true), (2, true), (3, true), (4, true), (5, true), (6, true), (7, true), (8, true), (9, true), (10, true), (11, true), (12, true), (13, true)] _ (by kernel_rfl) (by kernel_rfl) (by kernel_rfl) rfl (fun _ h => h) ?_
  iterate 2 refine dp rfl rfl ?_
  refine jd_q rfl rfl rfl (qLen rfl rfl rfl) ?_
  refine jd_q rfl rfl rfl (qEq (qA rfl rfl rfl rfl rfl (by omega)) (v' := .int .i64 ((ws.length - 1 : Nat) : Int)) (congrArg _ (by omega))) ?_
  have hk1 : ws.length - 1 < ws.length := by omega
  obtain ⟨sb, so, e0, hx⟩ := hs.open (by intro e; have := congrArg List.length e; rw [flat_len scell 3 scell_len, List.length_nil] at this; have h2 := congrArg List.length hp; rw [List.length_map] at h2; omega)
  cases e0
  obtain ⟨va, vc, hcl, hvn⟩ := steps_get hx hp hb hk1
  obtain ⟨va2, vc2, vps, ev, hvc, hvs, hvp, hvb⟩ := id hvn
  cases ev
  refine jd_q rfl rfl rfl (qIdxS rfl rfl rfl rfl (by omega)) ?_
  refine jd_q rfl rfl rfl (qFieldAddr rfl rfl rfl rfl rfl) ?_
  refine jd_q rfl rfl rfl (qLdA (cs := [.int .i64 ws[ws.length - 1].lv, .slice va ws[ws.length - 1].xs.length vc]) rfl rfl rfl rfl rfl (fun i v hv => (hcl i v (by match i, hv with | 0, hv => exact hv | 1, hv => exact hv | n + 2, hv => simp at hv)).cj _)) ?_
  refine jd_q rfl rfl rfl (qLdL rfl rfl rfl rfl rfl) ?_
  refine jd_q rfl rfl rfl (qCall rfl rfl rfl rfl rfl (by kernel_rfl) (place_walk _ ws[ws.length - 1].xs q va vc vps M hvc hvs hvp hvb (by have := hxl _ (List.getElem_mem hk1); omega))) ?_
  iterate 2 refine dp rfl rfl ?_
  refine jd_qb rfl rfl rfl (qP rfl rfl) (fun h21 => ?_) (fun h21 => ?_)
  ·iterate 2 refine dp rfl rfl ?_
   refine jd_nil ?_
   refine jPn ?_
   refine jT ?_
   refine jc_seq ?_
   refine jc_region ?_
   refine jp rfl ?_
   refine jl_q rfl rfl (qLen rfl rfl rfl) ?_
   refine js rfl (fun h24 => ?_) (fun h24 => ?_)
   ·iterate 9 refine jp rfl ?_
    refine jl_nil ?_
    refine jT ?_
    refine jc_ret ?_
    refine jr1 rfl rfl ?_
    refine congrArg _ ?_
    unfold tallF
    rw [List.getLast?_eq_getElem?, List.getElem?_eq_getElem hk1]
    simp only [h9, h21]
    have hl6 : (ws.length == 6) = decide (ws.length = 6) := by by_cases h : ws.length = 6 <;> simp [h]
    first | (rw [hl6, decide_eq_true (show ws.length = 6 by omega)]; rfl) | (rw [hl6, decide_eq_false (show ¬ ws.length = 6 by omega)]; rfl)
   ·iterate 9 refine jp rfl ?_
    refine jl_nil ?_
    refine jT ?_
    refine jc_ret ?_
    refine jr1 rfl rfl ?_
    refine congrArg _ ?_
    unfold tallF
    rw [List.getLast?_eq_getElem?, List.getElem?_eq_getElem hk1]
    simp only [h9, h21]
    have hl6 : (ws.length == 6) = decide (ws.length = 6) := by by_cases h : ws.length = 6 <;> simp [h]
    first | (rw [hl6, decide_eq_true (show ws.length = 6 by omega)]; rfl) | (rw [hl6, decide_eq_false (show ¬ ws.length = 6 by omega)]; rfl)
  ·iterate 2 refine dp rfl rfl ?_
   refine jd_nil ?_
   refine jPn ?_
   refine jT ?_
   refine jc_seq ?_
   refine jc_region ?_
   refine jp rfl ?_
   refine jl_q rfl rfl (qLen rfl rfl rfl) ?_
   refine js rfl (fun h24 => ?_) (fun h24 => ?_)
   ·iterate 9 refine jp rfl ?_
    refine jl_nil ?_
    refine jT ?_
    refine jc_ret ?_
    refine jr1 rfl rfl ?_
    refine congrArg _ ?_
    unfold tallF
    rw [List.getLast?_eq_getElem?, List.getElem?_eq_getElem hk1]
    simp only [h9, h21]
    have hl6 : (ws.length == 6) = decide (ws.length = 6) := by by_cases h : ws.length = 6 <;> simp [h]
    first | (rw [hl6, decide_eq_true (show ws.length = 6 by omega)]; rfl) | (rw [hl6, decide_eq_false (show ¬ ws.length = 6 by omega)]; rfl)
   ·iterate 9 refine jp rfl ?_
    refine jl_nil ?_
    refine jT ?_
    refine jc_ret ?_
    refine jr1 rfl rfl ?_
    refine congrArg _ ?_
    unfold tallF
    rw [List.getLast?_eq_getElem?, List.getElem?_eq_getElem hk1]
    simp only [h9, h21]
    have hl6 : (ws.length == 6) = decide (ws.length = 6) := by by_cases h : ws.length = 6 <;> simp [h]
    first | (rw [hl6, decide_eq_true (show ws.length = 6 by omega)]; rfl) | (rw [hl6, decide_eq_false (show ¬ ws.length = 6 by omega)]; rfl)
 ·refine jp rfl ?_
  refine jl_nil ?_
  refine jT ?_
  refine jc_seq ?_
  refine jc_draw [(0, true), (1, true), (2, true), (3, true), (4, true), (5, true), (6, true), (7, true), (8, true), (9, true), (10, true), (11, true), (12, true), (13, true)] _ (by kernel_rfl) (by kernel_rfl) (by kernel_rfl) rfl (fun _ h => h) ?_
  iterate 2 refine dp rfl rfl ?_
  refine jd_q rfl rfl rfl (qLen rfl rfl rfl) ?_
  refine jd_q rfl rfl rfl (qEq (qA rfl rfl rfl rfl rfl (by omega)) (v' := .int .i64 ((ws.length - 1 : Nat) : Int)) (congrArg _ (by omega))) ?_
  have hk1 : ws.length - 1 < ws.length := by omega
  obtain ⟨sb, so, e0, hx⟩ := hs.open (by intro e; have := congrArg List.length e; rw [flat_len scell 3 scell_len, List.length_nil] at this; have h2 := congrArg List.length hp; rw [List.length_map] at h2; omega)
  cases e0
  obtain ⟨va, vc, hcl, hvn⟩ := steps_get hx hp hb hk1
  obtain ⟨va2, vc2, vps, ev, hvc, hvs, hvp, hvb⟩ := id hvn
  cases ev
  refine jd_q rfl rfl rfl (qIdxS rfl rfl rfl rfl (by omega)) ?_
  refine jd_q rfl rfl rfl (qFieldAddr rfl rfl rfl rfl rfl) ?_
  refine jd_q rfl rfl rfl (qLdA (cs := [.int .i64 ws[ws.length - 1].lv, .slice va ws[ws.length - 1].xs.length vc]) rfl rfl rfl rfl rfl (fun i v hv => (hcl i v (by match i, hv with | 0, hv => exact hv | 1, hv => exact hv | n + 2, hv => simp at hv)).cj _)) ?_
  refine jd_q rfl rfl rfl (qLdL rfl rfl rfl rfl rfl) ?_
  refine jd_q rfl rfl rfl (qCall rfl rfl rfl rfl rfl (by kernel_rfl) (place_walk _ ws[ws.length - 1].xs q va vc vps M hvc hvs hvp hvb (by have := hxl _ (List.getElem_mem hk1); omega))) ?_
  iterate 2 refine dp rfl rfl ?_
  refine jd_qb rfl rfl rfl (qP rfl rfl) (fun h21 => ?_) (fun h21 => ?_)
  ·iterate 2 refine dp rfl rfl ?_
   refine jd_nil ?_
   refine jPn ?_
   refine jT ?_
   refine jc_seq ?_
   refine jc_region ?_
   refine jp rfl ?_
   refine jl_q rfl rfl (qLen rfl rfl rfl) ?_
   refine js rfl (fun h24 => ?_) (fun h24 => ?_)
   ·iterate 9 refine jp rfl ?_
    refine jl_nil ?_
    refine jT ?_
    refine jc_ret ?_
    refine jr1 rfl rfl ?_
    refine congrArg _ ?_
    unfold tallF
    rw [List.getLast?_eq_getElem?, List.getElem?_eq_getElem hk1]
    simp only [h9, h21]
    have hl6 : (ws.length == 6) = decide (ws.length = 6) := by by_cases h : ws.length = 6 <;> simp [h]
    first | (rw [hl6, decide_eq_true (show ws.length = 6 by omega)]; rfl) | (rw [hl6, decide_eq_false (show ¬ ws.length = 6 by omega)]; rfl)
   ·iterate 9 refine jp rfl ?_
    refine jl_nil ?_
    refine jT ?_
    refine jc_ret ?_
    refine jr1 rfl rfl ?_
    refine congrArg _ ?_
    unfold tallF
    rw [List.getLast?_eq_getElem?, List.getElem?_eq_getElem hk1]
    simp only [h9, h21]
    have hl6 : (ws.length == 6) = decide (ws.length = 6) := by by_cases h : ws.length = 6 <;> simp [h]
    first | (rw [hl6, decide_eq_true (show ws.length = 6 by omega)]; rfl) | (rw [hl6, decide_eq_false (show ¬ ws.length = 6 by omega)]; rfl)
  ·iterate 2 refine dp rfl rfl ?_
   refine jd_nil ?_
   refine jPn ?_
   refine jT ?_
   refine jc_seq ?_
   refine jc_region ?_
   refine jp rfl ?_
   refine jl_q rfl rfl (qLen rfl rfl rfl) ?_
   refine js rfl (fun h24 => ?_) (fun h24 => ?_)
   ·iterate 9 refine jp rfl ?_
    refine jl_nil ?_
    refine jT ?_
    refine jc_ret ?_
    refine jr1 rfl rfl ?_
    refine congrArg _ ?_
    unfold tallF
    rw [List.getLast?_eq_getElem?, List.getElem?_eq_getElem hk1]
    simp only [h9, h21]
    have hl6 : (ws.length == 6) = decide (ws.length = 6) := by by_cases h : ws.length = 6 <;> simp [h]
    first | (rw [hl6, decide_eq_true (show ws.length = 6 by omega)]; rfl) | (rw [hl6, decide_eq_false (show ¬ ws.length = 6 by omega)]; rfl)
   ·iterate 9 refine jp rfl ?_
    refine jl_nil ?_
    refine jT ?_
    refine jc_ret ?_
    refine jr1 rfl rfl ?_
    refine congrArg _ ?_
    unfold tallF
    rw [List.getLast?_eq_getElem?, List.getElem?_eq_getElem hk1]
    simp only [h9, h21]
    have hl6 : (ws.length == 6) = decide (ws.length = 6) := by by_cases h : ws.length = 6 <;> simp [h]
    first | (rw [hl6, decide_eq_true (show ws.length = 6 by omega)]; rfl) | (rw [hl6, decide_eq_false (show ¬ ws.length = 6 by omega)]; rfl)

theorem chk8 {x : It} (h : ¬ itChk x = 0) : itChk x = 8 := by
 rcases itChk_cases x with ⟨_, h2⟩ | ⟨_, h2⟩
 ·exact h2
 ·exact absurd h2 h
theorem asked_put (s : Sto) (root : Int) (x : It) (xv : Value) (bv wv nv lw : Value) (M : Mem) (h1 : LS M bv s.blocks) (h2 : WS M wv s.waits) (h3 : BS M nv s.now) (h4 : BS M lw s.last) (hx : BS M xv x.val) :
  SpecL Tryz.prog 55 #[.agg #[bv, wv, nv, lw], .int .i64 root, .agg #[.int .u8 x.key.kind, .int .u32 x.key.id, .int .u32 x.key.off, .int .i64 x.ref, xv]] M [] fun v _ _ => v = .int .i64 (putAsk s root x) := by
 have hST : ST M (.agg #[bv, wv, nv, lw]) s := ⟨_, _, _, _, rfl, h1, h2, h3, h4⟩
 obtain ⟨xa, xc, rfl, hxc, hxs⟩ := id hx
 refine spec_body (vs := [_, _, _]) 36 _ Tryz.func55 rfl Tryz.ntmps55 rfl rfl ?_; intro W
 refine jc_seq ?_
 refine jc_region ?_
 refine jl_h rfl rfl (hBox (cs := [bv, wv, nv, lw]) rfl rfl rfl rfl) ?_; rintro _ _ _ ⟨b3, rfl, rfl, rfl⟩
 refine jl_h rfl rfl (hBox (cs := itc x xa xc) rfl rfl rfl rfl) ?_; rintro _ _ _ ⟨b5, rfl, rfl, rfl⟩
 refine jp rfl ?_
 refine jl_nil ?_
 refine jT ?_
 refine jc_seq ?_
 refine jc_seq ?_
 refine jc_region ?_
 refine jl_q rfl rfl (qLdL rfl rfl rfl rfl rfl) ?_
 refine jp rfl ?_
 refine jl_q rfl rfl (qCall rfl rfl rfl rfl rfl (by kernel_rfl) (fcheck_spec s _ root M hST)) ?_
 iterate 5 refine jp rfl ?_
 refine jl_nil ?_
 refine jT ?_
 refine jc_seq ?_
 refine jc_region ?_
 refine jp rfl ?_
 refine js rfl (fun h17 => ?_) (fun h17 => ?_)
 ·refine jl_nil ?_
  refine jT ?_
  refine jc_yes rfl ?_
  refine jc_seq ?_
  refine jc_region ?_
  iterate 2 refine jp rfl ?_
  refine jl_nil ?_
  refine jT ?_
  refine jc_ret ?_
  refine jTr ?_
  refine jr1 rfl rfl ?_
  show Value.int .i64 (fchk s root).2 = _
  refine congrArg _ ?_
  unfold putAsk; rw [if_neg h17]
 ·refine jl_nil ?_
  refine jT ?_
  refine jc_no rfl ?_
  refine jc_skip ?_
  refine jT ?_
  refine jc_seq ?_
  refine jc_seq ?_
  refine jc_region ?_
  refine jl_q rfl rfl (qLdL rfl rfl rfl rfl rfl) ?_
  refine jl_q rfl rfl (qCall rfl rfl rfl rfl rfl (by kernel_rfl) (itcheck_spec x _ M hx)) ?_
  refine jp rfl ?_
  refine jl_nil ?_
  refine jT ?_
  refine jc_seq ?_
  refine jc_region ?_
  refine jp rfl ?_
  refine js rfl (fun h22 => ?_) (fun h22 => ?_)
  ·refine jl_nil ?_
   refine jT ?_
   refine jc_yes rfl ?_
   refine jc_seq ?_
   refine jc_region ?_
   iterate 2 refine jp rfl ?_
   refine jl_nil ?_
   refine jT ?_
   refine jc_ret ?_
   refine jTr ?_
   refine jr1 rfl rfl ?_
   refine congrArg _ ?_
   unfold putAsk; rw [if_pos (Classical.not_not.1 h17), if_neg h22]; exact (chk8 h22)
  ·refine jl_nil ?_
   refine jT ?_
   refine jc_no rfl ?_
   refine jc_skip ?_
   refine jT ?_
   refine jc_seq ?_
   refine jc_seq ?_
   refine jc_region ?_
   refine jl_q rfl rfl (qFieldAddr rfl rfl rfl rfl rfl) ?_
   refine jl_q rfl rfl (qLd rfl rfl rfl rfl (CJ.loc rfl)) ?_
   refine js rfl (fun h26 => ?_) (fun h26 => ?_)
   ·refine jp rfl ?_
    have hf0 : (fchk s root).2 = 0 := Classical.not_not.1 h17
    have hst := (fchk_ok hf0).1
    have hn256 : s.now.length = 256 := hst.2.1.1
    obtain ⟨na, nc, rfl, hnc, hns⟩ := id h3
    obtain ⟨nb, no, e0, hnx⟩ := hns.open (by intro e; have := congrArg List.length e; rw [bcells_len, List.length_nil] at this; omega)
    cases e0
    have hix : itChk x = 0 := Classical.not_not.1 h22
    have hfb := of_decide_eq_false (show decide _ = false from fine_of_chk hix)
    have hxr : 0 ≤ x.ref ∧ x.ref < 256 := by omega
    refine jl_q rfl rfl (qFieldAddr rfl rfl rfl rfl rfl) ?_
    refine jl_q rfl rfl (qLd rfl rfl rfl rfl (CJ.loc rfl)) ?_
    refine jl_q rfl rfl (qFieldAddr rfl rfl rfl rfl rfl) ?_
    refine jl_q rfl rfl (qLd rfl rfl rfl rfl (CJ.loc rfl)) ?_
    refine jl_q rfl rfl (qIdxS rfl rfl rfl rfl (by omega)) ?_
    refine jl_q rfl rfl (qLd rfl rfl rfl rfl ((hnx _ _ (by rw [Nat.mul_one]; exact bget (j := x.ref.toNat) (by omega))).cj _)) ?_
    refine js rfl (fun h34 => ?_) (fun h34 => ?_)
    ·refine jp rfl ?_
     refine jl_nil ?_
     refine jT ?_
     refine jc_yes rfl ?_
     refine jc_seq ?_
     refine jc_region ?_
     refine jp rfl ?_
     refine jl_nil ?_
     refine jT ?_
     refine jc_ret ?_
     refine jTr ?_
     refine jr1 rfl rfl ?_
     refine congrArg _ ?_
     unfold putAsk; rw [if_pos hf0, if_pos hix, if_pos ⟨h26, UInt8.toNat.inj (by simpa using h34)⟩]
    ·refine jp rfl ?_
     refine jl_nil ?_
     refine jT ?_
     refine jc_no rfl ?_
     refine jc_skip ?_
     refine jT ?_
     refine jc_seq ?_
     refine jc_region ?_
     refine jp rfl ?_
     refine jl_nil ?_
     refine jT ?_
     refine jc_ret ?_
     refine jr1 rfl rfl ?_
     refine congrArg _ ?_
     unfold putAsk; rw [if_pos hf0, if_pos hix, if_neg (fun h => h34 (by rw [h.2]; rfl))]
   ·iterate 9 refine jp rfl ?_
    refine jl_nil ?_
    refine jT ?_
    refine jc_no rfl ?_
    refine jc_skip ?_
    refine jT ?_
    refine jc_seq ?_
    refine jc_region ?_
    refine jp rfl ?_
    refine jl_nil ?_
    refine jT ?_
    refine jc_ret ?_
    refine jr1 rfl rfl ?_
    refine congrArg _ ?_
    unfold putAsk; rw [if_pos (Classical.not_not.1 h17), if_pos (Classical.not_not.1 h22), if_neg (fun h => h26 h.1)]

end Go.Proofs.YtckdncmjkloebaaGreat
