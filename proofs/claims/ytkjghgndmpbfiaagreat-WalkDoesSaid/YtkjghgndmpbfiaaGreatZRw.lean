/- Walks: walk.Range once more: the values of the items that it tells lie in new memory. -/
import Derived.Test.YtkjghgndmpbfiaaGreatZRk
namespace Go.Proofs.YtkjghgndmpbfiaaGreat
set_option linter.unusedVariables false
set_option linter.unusedSectionVars false
set_option linter.unusedSimpArgs false
open Go.RowKit

theorem items_get2 {M N : Mem} {sb so : Nat} {xs : List It} {ps : List (It × Value)} (hx : ∀ i u, (ps.flatMap icell)[i]? = some u → CM M sb (so + i) u) (hp : ps.map (·.1) = xs) (hb : ∀ p ∈ ps, BS N p.2 p.1.val) {k : Nat} (hk : k < xs.length) :
  ∃ va vc, (∀ i v, (itc xs[k] va vc)[i]? = some v → CM M sb (so + k * 5 + i) v) ∧ xs[k].val.length ≤ vc ∧ SM N va (bcells xs[k].val) := by
 have hk2 : k < ps.length := by rw [← hp, List.length_map] at hk; exact hk
 have hxk : xs[k] = ps[k].1 := by simp [← hp]
 obtain ⟨va, vc, hv, hc, hs⟩ := hb ps[k] (List.getElem_mem hk2)
 rw [← hxk] at hv hc hs
 refine ⟨va, vc, fun i v hv' => flat_cm icell 5 icell_len hx (show ps[k]? = some ps[k] by simp [hk2]) i v ?_, hc, hs⟩
 rw [← hv']
 unfold icell itc
 rw [← hxk, hv]
theorem KEn.mono {y : It} {M M' : Mem} {vs : List Value} (h : KEn y M vs) (hM : MLe M M') : KEn y M' vs := by
 obtain ⟨va, vc, h1, h2, h3⟩ := h; exact ⟨va, vc, h1, h2, h3.mono hM⟩
/-- items whose values lie in new memory -/
def NSn (M0 M : Mem) (v : Value) (xs : List It) : Prop := ∃ a c, ∃ ps : List (It × Value), ∃ Mi, v = .slice a xs.length c ∧ xs.length ≤ c ∧ MLe M0 Mi ∧ MLe Mi M ∧ SM (newOf Mi M) a (ps.flatMap icell) ∧ ps.map (·.1) = xs ∧ ∀ p ∈ ps, BS (newOf M0 Mi) p.2 p.1.val

set_option maxHeartbeats 2000000 in
theorem down_leafN (s : Sto) (hst : stOk s) (q : Ky) (lid c1 c2 c3 c4 : Nat) (all : List It) (J Jx : List It → Mem → Lc → Prop) (M0 : Mem) (hmono : ∀ pre M2 M3 L2, MLe M2 M3 → J pre M2 L2 → J pre M3 L2) (hJ : ∀ pre y M2 L2 vs, MLe M0 M2 → J pre M2 L2 → pre ++ [y] <+: all → KEn y (newOf M0 M2) vs → RoundL Tryz.prog lid vs.toArray M2 L2 fun v M' L' => (v = .bool true ∧ J (pre ++ [y]) M' L') ∨ (v = .bool false ∧ Jx (pre ++ [y]) M' L')) (k : Nat) (xs pre : List It) (M : Mem) (L0 : Lc) (hk256 : k < 256) (hnd : ndAt s k = some (0, xs)) (htr : treeOk s (0) xs) (hM0 : MLe M0 M) (hcf : CF M s q lid c1 c2 c3 c4) (hJ0 : J pre M L0) (hpre : pre ++ downL s q (0) xs <+: all) :
  SpecL Tryz.prog 31 #[.int .i64 k, .pointer (some ⟨c1, 0, none⟩), .pointer (some ⟨c2, 0, none⟩), .pointer (some ⟨c3, 0, none⟩), .pointer (some ⟨c4, 0, none⟩)] M L0 fun v M' L' => (v = .bool true ∧ J (pre ++ downL s q (0) xs) M' L') ∨ (v = .bool false ∧ ∃ pre', pre' <+: all ∧ Jx pre' M' L') := by
 have hno := ndAt_ok hnd
 have hlv := hno.lev
 have hlen := hno.len
 refine spec_body (vs := [_, _, _, _, _]) 68 _ Tryz.func31 rfl Tryz.ntmps31 rfl rfl ?_; intro W
 refine jc_seq ?_
 refine jc_region ?_
 refine jp rfl ?_
 refine jl_nil ?_
 refine jT ?_
 refine jc_seq ?_
 refine jc_region ?_
 obtain ⟨bp, hbp1, hbp⟩ := hcf.bn
 refine jl_q rfl rfl (qLd rfl rfl rfl rfl (CM.cj ⟨_, _, _, hbp1, rfl⟩ _)) ?_
 refine jp rfl ?_
 refine jl_h rfl rfl (hCall rfl rfl rfl rfl rfl (by kernel_rfl) (bnode_new s k _ M hst hk256 hbp)) ?_; rintro _ Mn _ ⟨hMn, _, rfl, ⟨hbn, rfl⟩⟩
 obtain ⟨sl, rfl, hns⟩ := (by unfold BnPost at hbn; rw [hnd] at hbn; exact hbn : ∃ sl, _ ∧ NS (newOf M Mn) sl xs)
 obtain ⟨a, c, ps, rfl, hc, hs, hp, hb⟩ := hns
 simp only [List.nil_append]
 iterate 3 refine jp rfl ?_
 refine jl_h rfl rfl (hAlloc rfl rfl) ?_; rintro _ _ _ ⟨b7, rfl, rfl, rfl⟩
 refine jl_s rfl (hStoreL rfl rfl rfl rfl rfl rfl rfl rfl) ?_; rintro _ _ _ ⟨rfl, rfl⟩
 refine jp rfl ?_
 refine jl_nil ?_
 refine jT ?_
 refine jc_seq ?_
 refine jc_seq ?_
 refine jc_region ?_
 refine jl_q rfl rfl (qFieldAddr rfl rfl rfl rfl rfl) ?_
 refine jl_q rfl rfl (qLd rfl rfl rfl rfl (CJ.loc rfl)) ?_
 refine jl_q rfl rfl (qLen rfl rfl rfl) ?_
 refine jp rfl ?_
 refine jl_nil ?_
 refine jT ?_
 refine jc_block ?_
 refine jc_loopK (α := Nat × Mem × Lc × List It) (fun x => [(1, .pointer (some ⟨c1, 0, none⟩)), (2, .pointer (some ⟨c2, 0, none⟩)), (3, .pointer (some ⟨c3, 0, none⟩)), (4, .pointer (some ⟨c4, 0, none⟩)), (7, .pointer (some ⟨b7, 0, none⟩)), (19, .slice a xs.length c), (20, .int .i64 xs.length), (21, .int .i64 x.1)]) (fun x => x.2.1) (fun x => (b7, .cells [.int .i64 0, .slice a xs.length c].toArray 66 (0, 0)) :: x.2.2.1) (fun x => x.1 ≤ xs.length ∧ MLe Mn x.2.1 ∧ J x.2.2.2 x.2.1 x.2.2.1 ∧ x.2.2.2 ++ (xs.drop x.1).filter (fun x => !kless x.key q) = pre ++ downL s q 0 xs) (fun x => xs.length - x.1)
  (0, Mn, L0, pre) (Keep.cons (t := 1) rfl (Keep.cons (t := 2) rfl (Keep.cons (t := 3) rfl (Keep.cons (t := 4) rfl (Keep.cons (t := 7) rfl (Keep.cons (t := 19) rfl (Keep.cons (t := 20) rfl (Keep.cons (t := 21) rfl Keep.nil)))))))) ⟨Nat.zero_le _, MLe.refl _, hmono _ _ _ _ hMn hJ0, rfl⟩ (fun _ h => h) ?_
 rintro ⟨j, Mk, Lk, pj⟩ ⟨hj, hMk, hJk, hpj⟩
 try dsimp only at hj hMk hJk hpj ⊢
 refine jc_seq ?_
 refine jc_region ?_
 refine js rfl (fun h22 => ?_) (fun h22 => ?_)
 ·refine jl_nil ?_
  refine jT ?_
  refine jc_seq ?_
  refine jc_yes rfl ?_
  refine jc_skip ?_
  refine jT ?_
  refine jc_seq ?_
  refine jc_block ?_
  refine jc_seq ?_
  refine jc_region ?_
  refine jp rfl ?_
  have hk1 : j < xs.length := by omega
  have hsk := hs.mono ((newOf_le _ _).trans hMk)
  have hbk := fun p hp => (hb p hp).mono (newOf_both hM0 hMk)
  obtain ⟨sb, so, e0, hx⟩ := hsk.open (by intro e; have := congrArg List.length e; rw [flat_len icell 5 icell_len, List.length_nil] at this; have h2 := congrArg List.length hp; rw [List.length_map] at h2; omega)
  subst e0
  obtain ⟨va, vc, hcl, hvc, hvs⟩ := items_get2 hx hp hbk hk1
  have hxr := hno.ref xs[j] (List.getElem_mem hk1)
  have hcek := hcf.mono (hMn.trans hMk)
  refine jl_q rfl rfl (qIdxS rfl rfl rfl rfl (by omega)) ?_
  refine jl_q rfl rfl (qLdA (cs := itc xs[j] va vc) rfl rfl rfl rfl rfl (fun i v hv => (hcl i v hv).cj _)) ?_
  refine jl_h rfl rfl (hAlloc rfl rfl) ?_; rintro _ _ _ ⟨b10, rfl, rfl, rfl⟩
  refine jp rfl ?_
  refine jl_s rfl (hStoreL rfl rfl rfl rfl rfl rfl rfl rfl) ?_; rintro _ _ _ ⟨rfl, rfl⟩
  refine jl_nil ?_
  refine jT ?_
  refine jc_seq ?_
  refine jc_seq ?_
  refine jc_region ?_
  refine jl_q rfl rfl (qFieldAddr rfl rfl rfl rfl rfl) ?_
  refine jl_q rfl rfl (qLd rfl rfl rfl rfl (CJ.loc rfl)) ?_
  refine jt rfl (decide_eq_true (by omega)) ?_
  refine jl_nil ?_
  refine jT ?_
  refine jc_yes rfl ?_
  refine jc_seq ?_
  refine jc_seq ?_
  refine jc_region ?_
  refine jl_q rfl rfl (qFieldAddr rfl rfl rfl rfl rfl) ?_
  refine jl_q rfl rfl (qLdL rfl rfl rfl rfl rfl) ?_
  refine jl_q rfl rfl (qLdA (cs := kcells q) rfl rfl rfl rfl rfl (fun i v hv => CM.cj ⟨_, _, _, hcek.fr, by simpa using hv⟩ _)) ?_
  refine jl_qb rfl rfl (qCall rfl rfl rfl rfl rfl (by kernel_rfl) (less_spec xs[j].key q _)) (fun h32 => ?_) (fun h32 => ?_)
  ·iterate 7 refine jp rfl ?_
   refine jl_nil ?_
   refine jT ?_
   refine jc_no rfl ?_
   refine jc_skip ?_
   refine jT ?_
   refine jc_exit ?_
   refine jTx ?_
   refine jBx ?_
   refine jT ?_
   refine jc_region ?_
   refine ja rfl (by omega) ?_
   refine jp rfl ?_
   refine jl_nil ?_
   refine j_again (j + 1, Mk, Lk, pj) (Keep.cons (t := 1) rfl (Keep.cons (t := 2) rfl (Keep.cons (t := 3) rfl (Keep.cons (t := 4) rfl (Keep.cons (t := 7) rfl (Keep.cons (t := 19) rfl (Keep.cons (t := 20) rfl (Keep.cons (t := 21) rfl Keep.nil)))))))) ⟨by show j + 1 ≤ xs.length; omega, hMk, hJk, ?_⟩ (by show xs.length - (j + 1) < xs.length - j; omega) (fun w h => h.fewer (by simp))
   show _ ++ (xs.drop (j + 1)).filter (fun x => !kless x.key q) = _
   rw [← hpj, List.drop_eq_getElem_cons hk1, List.filter_cons_of_neg (by simp [h32])]
  ·iterate 2 refine jp rfl ?_
   refine jl_q rfl rfl (qLd rfl rfl rfl rfl (CM.cj ⟨_, _, _, hcek.yi, rfl⟩ _)) ?_
   refine jl_q rfl rfl (qLdL rfl rfl rfl rfl rfl) ?_
   refine jl_h rfl rfl (hYield rfl rfl rfl rfl (hJ pj xs[j] Mk Lk _ (hM0.trans (hMn.trans hMk)) hJk (by rw [List.drop_eq_getElem_cons hk1, List.filter_cons_of_pos (by simp [h32])] at hpj; rw [← hpj] at hpre; exact prefix_of hpre) ⟨va, vc, rfl, hvc, hvs⟩)) ?_; rintro _ Mf _ ⟨hMf, R', rfl, hy⟩
   rcases hy with ⟨rfl, hy⟩ | ⟨rfl, hy⟩
   ·iterate 2 refine jp rfl ?_
    refine jl_nil ?_
    refine jT ?_
    refine jc_no rfl ?_
    refine jc_skip ?_
    refine jT ?_
    refine jc_exit ?_
    refine jTx ?_
    refine jBx ?_
    refine jT ?_
    refine jc_region ?_
    refine ja rfl (by omega) ?_
    refine jp rfl ?_
    refine jl_nil ?_
    refine j_again (j + 1, Mf, R', pj ++ [xs[j]]) (Keep.cons (t := 1) rfl (Keep.cons (t := 2) rfl (Keep.cons (t := 3) rfl (Keep.cons (t := 4) rfl (Keep.cons (t := 7) rfl (Keep.cons (t := 19) rfl (Keep.cons (t := 20) rfl (Keep.cons (t := 21) rfl Keep.nil)))))))) ⟨by show j + 1 ≤ xs.length; omega, hMk.trans hMf, hy, ?_⟩ (by show xs.length - (j + 1) < xs.length - j; omega) (fun w h => (h.perm List.perm_append_comm).fewer (by simp))
    show _ ++ (xs.drop (j + 1)).filter (fun x => !kless x.key q) = _
    rw [← hpj, List.drop_eq_getElem_cons hk1, List.filter_cons_of_pos (by simp [h32])]; simp
   ·iterate 2 refine jp rfl ?_
    refine jl_nil ?_
    refine jT ?_
    refine jc_yes rfl ?_
    refine jc_seq ?_
    refine jc_region ?_
    refine jp rfl ?_
    refine jl_nil ?_
    refine jT ?_
    refine jc_ret ?_
    refine jTr ?_
    refine jTr ?_
    refine jBr ?_
    refine jTr ?_
    refine jTr ?_
    refine jBr ?_
    refine jTr ?_
    refine jq_drop (L' := R') (by simp) ?_
    refine jr1 rfl rfl ?_
    rw [List.drop_eq_getElem_cons hk1, List.filter_cons_of_pos (by simp [h32])] at hpj
    exact .inr ⟨rfl, _, by rw [← hpj] at hpre; exact prefix_of hpre, hy⟩
 ·refine jl_nil ?_
  refine jT ?_
  refine jc_seq ?_
  refine jc_no rfl ?_
  refine jc_exit ?_
  refine jTx ?_
  refine jTx ?_
  refine jBx ?_
  refine jT ?_
  refine jc_seq ?_
  refine jc_region ?_
  refine jp rfl ?_
  refine jl_nil ?_
  refine jT ?_
  refine jc_ret ?_
  refine jq_drop (L' := Lk) (by simp) ?_
  refine jr1 rfl rfl ?_
  obtain rfl : j = xs.length := by omega
  rw [List.drop_eq_nil_of_le (Nat.le_refl _), List.filter_nil, List.append_nil] at hpj
  exact .inl ⟨rfl, hpj ▸ hJk⟩

set_option maxHeartbeats 2000000 in
theorem down_nodeN (s : Sto) (hst : stOk s) (q : Ky) (lid c1 c2 c3 c4 : Nat) (all : List It) (J Jx : List It → Mem → Lc → Prop) (M0 : Mem) (hmono : ∀ pre M2 M3 L2, MLe M2 M3 → J pre M2 L2 → J pre M3 L2) (hJ : ∀ pre y M2 L2 vs, MLe M0 M2 → J pre M2 L2 → pre ++ [y] <+: all → KEn y (newOf M0 M2) vs → RoundL Tryz.prog lid vs.toArray M2 L2 fun v M' L' => (v = .bool true ∧ J (pre ++ [y]) M' L') ∨ (v = .bool false ∧ Jx (pre ++ [y]) M' L')) (l : Nat) (lv : Int) (hl1 : lv = (l : Int) + 1) (ih : DownS Tryz.prog s q lid c1 c2 c3 c4 all J Jx M0 l) (k : Nat) (xs pre : List It) (M : Mem) (L0 : Lc) (hk256 : k < 256) (hnd : ndAt s k = some (lv, xs)) (htr : treeOk s ((l + 1)) xs) (hM0 : MLe M0 M) (hcf : CF M s q lid c1 c2 c3 c4) (hJ0 : J pre M L0) (hpre : pre ++ downL s q ((l + 1)) xs <+: all) :
  SpecL Tryz.prog 31 #[.int .i64 k, .pointer (some ⟨c1, 0, none⟩), .pointer (some ⟨c2, 0, none⟩), .pointer (some ⟨c3, 0, none⟩), .pointer (some ⟨c4, 0, none⟩)] M L0 fun v M' L' => (v = .bool true ∧ J (pre ++ downL s q ((l + 1)) xs) M' L') ∨ (v = .bool false ∧ ∃ pre', pre' <+: all ∧ Jx pre' M' L') := by
 have hno := ndAt_ok hnd
 have hlv := hno.lev
 have hlen := hno.len
 refine spec_body (vs := [_, _, _, _, _]) 68 _ Tryz.func31 rfl Tryz.ntmps31 rfl rfl ?_; intro W
 refine jc_seq ?_
 refine jc_region ?_
 refine jp rfl ?_
 refine jl_nil ?_
 refine jT ?_
 refine jc_seq ?_
 refine jc_region ?_
 obtain ⟨bp, hbp1, hbp⟩ := hcf.bn
 refine jl_q rfl rfl (qLd rfl rfl rfl rfl (CM.cj ⟨_, _, _, hbp1, rfl⟩ _)) ?_
 refine jp rfl ?_
 refine jl_h rfl rfl (hCall rfl rfl rfl rfl rfl (by kernel_rfl) (bnode_new s k _ M hst hk256 hbp)) ?_; rintro _ Mn _ ⟨hMn, _, rfl, ⟨hbn, rfl⟩⟩
 obtain ⟨sl, rfl, hns⟩ := (by unfold BnPost at hbn; rw [hnd] at hbn; exact hbn : ∃ sl, _ ∧ NS (newOf M Mn) sl xs)
 obtain ⟨a, c, ps, rfl, hc, hs, hp, hb⟩ := hns
 simp only [List.nil_append]
 iterate 3 refine jp rfl ?_
 refine jl_h rfl rfl (hAlloc rfl rfl) ?_; rintro _ _ _ ⟨b7, rfl, rfl, rfl⟩
 refine jl_s rfl (hStoreL rfl rfl rfl rfl rfl rfl rfl rfl) ?_; rintro _ _ _ ⟨rfl, rfl⟩
 refine jp rfl ?_
 refine jl_nil ?_
 refine jT ?_
 refine jc_seq ?_
 refine jc_seq ?_
 refine jc_region ?_
 refine jl_q rfl rfl (qFieldAddr rfl rfl rfl rfl rfl) ?_
 refine jl_q rfl rfl (qLd rfl rfl rfl rfl (CJ.loc rfl)) ?_
 refine jl_q rfl rfl (qLen rfl rfl rfl) ?_
 refine jp rfl ?_
 refine jl_nil ?_
 refine jT ?_
 refine jc_block ?_
 refine jc_loopK (α := Nat × Mem × Lc × List It) (fun x => [(1, .pointer (some ⟨c1, 0, none⟩)), (2, .pointer (some ⟨c2, 0, none⟩)), (3, .pointer (some ⟨c3, 0, none⟩)), (4, .pointer (some ⟨c4, 0, none⟩)), (7, .pointer (some ⟨b7, 0, none⟩)), (19, .slice a xs.length c), (20, .int .i64 xs.length), (21, .int .i64 x.1)]) (fun x => x.2.1) (fun x => (b7, .cells [.int .i64 lv, .slice a xs.length c].toArray 66 (0, 0)) :: x.2.2.1) (fun x => x.1 ≤ xs.length ∧ MLe Mn x.2.1 ∧ J x.2.2.2 x.2.1 x.2.2.1 ∧ x.2.2.2 ++ goDown (fun x => downL s q l (kid s x)) q (xs.drop x.1) = pre ++ downL s q (l + 1) xs) (fun x => xs.length - x.1)
  (0, Mn, L0, pre) (Keep.cons (t := 1) rfl (Keep.cons (t := 2) rfl (Keep.cons (t := 3) rfl (Keep.cons (t := 4) rfl (Keep.cons (t := 7) rfl (Keep.cons (t := 19) rfl (Keep.cons (t := 20) rfl (Keep.cons (t := 21) rfl Keep.nil)))))))) ⟨Nat.zero_le _, MLe.refl _, hmono _ _ _ _ hMn hJ0, rfl⟩ (fun _ h => h) ?_
 rintro ⟨j, Mk, Lk, pj⟩ ⟨hj, hMk, hJk, hpj⟩
 try dsimp only at hj hMk hJk hpj ⊢
 refine jc_seq ?_
 refine jc_region ?_
 refine js rfl (fun h22 => ?_) (fun h22 => ?_)
 ·refine jl_nil ?_
  refine jT ?_
  refine jc_seq ?_
  refine jc_yes rfl ?_
  refine jc_skip ?_
  refine jT ?_
  refine jc_seq ?_
  refine jc_block ?_
  refine jc_seq ?_
  refine jc_region ?_
  refine jp rfl ?_
  have hk1 : j < xs.length := by omega
  have hsk := hs.mono ((newOf_le _ _).trans hMk)
  have hbk := fun p hp => (hb p hp).mono (newOf_both hM0 hMk)
  obtain ⟨sb, so, e0, hx⟩ := hsk.open (by intro e; have := congrArg List.length e; rw [flat_len icell 5 icell_len, List.length_nil] at this; have h2 := congrArg List.length hp; rw [List.length_map] at h2; omega)
  subst e0
  obtain ⟨va, vc, hcl, hvc, hvs⟩ := items_get2 hx hp hbk hk1
  have hxr := hno.ref xs[j] (List.getElem_mem hk1)
  have hcek := hcf.mono (hMn.trans hMk)
  refine jl_q rfl rfl (qIdxS rfl rfl rfl rfl (by omega)) ?_
  refine jl_q rfl rfl (qLdA (cs := itc xs[j] va vc) rfl rfl rfl rfl rfl (fun i v hv => (hcl i v hv).cj _)) ?_
  refine jl_h rfl rfl (hAlloc rfl rfl) ?_; rintro _ _ _ ⟨b10, rfl, rfl, rfl⟩
  refine jp rfl ?_
  refine jl_s rfl (hStoreL rfl rfl rfl rfl rfl rfl rfl rfl) ?_; rintro _ _ _ ⟨rfl, rfl⟩
  refine jl_nil ?_
  refine jT ?_
  refine jc_seq ?_
  refine jc_seq ?_
  refine jc_region ?_
  refine jl_q rfl rfl (qFieldAddr rfl rfl rfl rfl rfl) ?_
  refine jl_q rfl rfl (qLd rfl rfl rfl rfl (CJ.loc rfl)) ?_
  refine jf rfl (decide_eq_false (by omega)) ?_
  refine jl_nil ?_
  refine jT ?_
  refine jc_no rfl ?_
  refine jc_skip ?_
  refine jT ?_
  refine jc_seq ?_
  refine jc_draw [(0, true), (1, true), (2, true), (3, true), (4, true), (5, true), (6, true), (7, true), (8, true), (9, true), (10, true), (11, true), (12, true), (13, true), (14, true), (15, true), (16, true), (17, true), (18, true)] _ (by kernel_rfl) (by kernel_rfl) (by kernel_rfl) rfl (fun _ h => h) ?_
  refine dp rfl rfl ?_
  refine da rfl rfl (by omega) ?_
  refine jd_q rfl rfl rfl (qFieldAddr rfl rfl rfl rfl rfl) ?_
  refine jd_q rfl rfl rfl (qLd rfl rfl rfl rfl (CJ.loc rfl)) ?_
  refine jd_q rfl rfl rfl (qLen rfl rfl rfl) ?_
  refine ds rfl rfl (fun h45 => ?_) (fun h45 => ?_)
  ·refine dp rfl rfl ?_
   refine jd_q rfl rfl rfl (qLdA (cs := kcells q) rfl rfl rfl rfl rfl (fun i v hv => CM.cj ⟨_, _, _, hcek.fr, by simpa using hv⟩ _)) ?_
   refine jd_q rfl rfl rfl (qFieldAddr rfl rfl rfl rfl rfl) ?_
   refine jd_q rfl rfl rfl (qLd rfl rfl rfl rfl (CJ.loc rfl)) ?_
   refine dp rfl rfl ?_
   refine da rfl rfl (by omega) ?_
   have hj1 : j + 1 < xs.length := by omega
   obtain ⟨wa, wc, hcj, -, -⟩ := items_get2 hx hp hbk hj1
   refine jd_q rfl rfl rfl (qEq (qIdxS rfl rfl rfl rfl (by omega)) (v' := .pointer (some ⟨sb, so + (j + 1) * 5, none⟩)) (by congr 3)) ?_
   refine jd_q rfl rfl rfl (qFieldAddr rfl rfl rfl rfl rfl) ?_
   refine jd_q rfl rfl rfl (qLdA (cs := kcells xs[j + 1].key) rfl rfl rfl rfl rfl (fun i v hv => (hcj i v (by match i, hv with | 0, hv => simpa [kcells] using hv | 1, hv => simpa [kcells] using hv | 2, hv => simpa [kcells] using hv | n + 3, hv => simp [kcells] at hv)).cj _)) ?_
   refine jd_qb rfl rfl rfl (qCall rfl rfl rfl rfl rfl (by kernel_rfl) (less_spec q xs[j + 1].key _)) (fun h55 => ?_) (fun h55 => ?_)
   ·iterate 3 refine dp rfl rfl ?_
    refine jd_nil ?_
    refine jPn ?_
    refine jT ?_
    refine jc_seq ?_
    refine jc_region ?_
    iterate 3 refine jp rfl ?_
    refine jl_q rfl rfl (qLd rfl rfl rfl rfl (CM.cj ⟨_, _, _, hcek.cl, rfl⟩ _)) ?_
    refine jl_q rfl rfl (qFieldAddr rfl rfl rfl rfl rfl) ?_
    refine jl_q rfl rfl (qLd rfl rfl rfl rfl (CJ.loc rfl)) ?_
    have hup := hno.up (by omega) xs[j] (List.getElem_mem hk1)
    have hkr : ((xs[j].ref.toNat : Nat) : Int) = xs[j].ref := Int.toNat_of_nonneg (by omega)
    obtain ⟨ys, hyn, hys0, hyt⟩ := tree_child htr (List.getElem_mem hk1)
    have hkid : kid s xs[j] = ys := by unfold kid; rw [hyn]
    have hgd : goDown (fun x => downL s q l (kid s x)) q (xs.drop j) = downL s q l ys ++ goDown (fun x => downL s q l (kid s x)) q (xs.drop (j + 1)) := (goDown_on hj1 h55).trans (by rw [hkid])
    rw [hgd] at hpj
    refine jl_h rfl rfl (hCall rfl rfl rfl rfl rfl (by kernel_rfl) (by have := ih xs[j].ref.toNat ys pj Mk Lk (by omega) hyn hyt (hM0.trans (hMn.trans hMk)) hcek hJk (by rw [← hpj, ← List.append_assoc] at hpre; exact (List.prefix_append _ _).trans hpre); rwa [hkr] at this)) ?_; rintro _ Mf _ ⟨hMf, R', rfl, hy⟩
    rcases hy with ⟨rfl, hy⟩ | ⟨rfl, hy⟩
    ·iterate 2 refine jp rfl ?_
     refine jl_nil ?_
     refine jT ?_
     refine jc_no rfl ?_
     refine jc_skip ?_
     refine jB ?_
     refine jT ?_
     refine jc_region ?_
     refine ja rfl (by omega) ?_
     refine jp rfl ?_
     refine jl_nil ?_
     refine j_again (j + 1, Mf, R', pj ++ downL s q l ys) (Keep.cons (t := 1) rfl (Keep.cons (t := 2) rfl (Keep.cons (t := 3) rfl (Keep.cons (t := 4) rfl (Keep.cons (t := 7) rfl (Keep.cons (t := 19) rfl (Keep.cons (t := 20) rfl (Keep.cons (t := 21) rfl Keep.nil)))))))) ⟨by show j + 1 ≤ xs.length; omega, hMk.trans hMf, hy, ?_⟩ (by show xs.length - (j + 1) < xs.length - j; omega) (fun w h => (h.perm List.perm_append_comm).fewer (by simp))
     show _ ++ goDown (fun x => downL s q l (kid s x)) q (xs.drop (j + 1)) = _
     rw [← hpj, List.append_assoc]
    ·iterate 2 refine jp rfl ?_
     refine jl_nil ?_
     refine jT ?_
     refine jc_yes rfl ?_
     refine jc_seq ?_
     refine jc_region ?_
     refine jp rfl ?_
     refine jl_nil ?_
     refine jT ?_
     refine jc_ret ?_
     refine jBr ?_
     refine jTr ?_
     refine jTr ?_
     refine jBr ?_
     refine jTr ?_
     refine jq_drop (L' := R') (by simp) ?_
     refine jr1 rfl rfl ?_
     exact .inr ⟨rfl, hy⟩
   ·iterate 3 refine dp rfl rfl ?_
    refine jd_nil ?_
    refine jPn ?_
    refine jT ?_
    refine jc_seq ?_
    refine jc_region ?_
    iterate 9 refine jp rfl ?_
    refine jl_nil ?_
    refine jT ?_
    refine jc_no rfl ?_
    refine jc_skip ?_
    refine jB ?_
    refine jT ?_
    refine jc_region ?_
    refine ja rfl (by omega) ?_
    refine jp rfl ?_
    refine jl_nil ?_
    refine j_again (j + 1, Mk, Lk, pj) (Keep.cons (t := 1) rfl (Keep.cons (t := 2) rfl (Keep.cons (t := 3) rfl (Keep.cons (t := 4) rfl (Keep.cons (t := 7) rfl (Keep.cons (t := 19) rfl (Keep.cons (t := 20) rfl (Keep.cons (t := 21) rfl Keep.nil)))))))) ⟨by show j + 1 ≤ xs.length; omega, hMk, hJk, ?_⟩ (by show xs.length - (j + 1) < xs.length - j; omega) (fun w h => h.fewer (by simp))
    show _ ++ goDown (fun x => downL s q l (kid s x)) q (xs.drop (j + 1)) = _
    rw [← hpj, goDown_off hj1 h55]
  ·iterate 13 refine dp rfl rfl ?_
   refine jd_nil ?_
   refine jPn ?_
   refine jT ?_
   refine jc_seq ?_
   refine jc_region ?_
   iterate 3 refine jp rfl ?_
   refine jl_q rfl rfl (qLd rfl rfl rfl rfl (CM.cj ⟨_, _, _, hcek.cl, rfl⟩ _)) ?_
   refine jl_q rfl rfl (qFieldAddr rfl rfl rfl rfl rfl) ?_
   refine jl_q rfl rfl (qLd rfl rfl rfl rfl (CJ.loc rfl)) ?_
   have hup := hno.up (by omega) xs[j] (List.getElem_mem hk1)
   have hkr : ((xs[j].ref.toNat : Nat) : Int) = xs[j].ref := Int.toNat_of_nonneg (by omega)
   obtain ⟨ys, hyn, hys0, hyt⟩ := tree_child htr (List.getElem_mem hk1)
   have hkid : kid s xs[j] = ys := by unfold kid; rw [hyn]
   have hgd : goDown (fun x => downL s q l (kid s x)) q (xs.drop j) = downL s q l ys ++ goDown (fun x => downL s q l (kid s x)) q (xs.drop (j + 1)) := (goDown_last hk1 (by omega)).trans (by rw [hkid])
   rw [hgd] at hpj
   refine jl_h rfl rfl (hCall rfl rfl rfl rfl rfl (by kernel_rfl) (by have := ih xs[j].ref.toNat ys pj Mk Lk (by omega) hyn hyt (hM0.trans (hMn.trans hMk)) hcek hJk (by rw [← hpj, ← List.append_assoc] at hpre; exact (List.prefix_append _ _).trans hpre); rwa [hkr] at this)) ?_; rintro _ Mf _ ⟨hMf, R', rfl, hy⟩
   rcases hy with ⟨rfl, hy⟩ | ⟨rfl, hy⟩
   ·iterate 2 refine jp rfl ?_
    refine jl_nil ?_
    refine jT ?_
    refine jc_no rfl ?_
    refine jc_skip ?_
    refine jB ?_
    refine jT ?_
    refine jc_region ?_
    refine ja rfl (by omega) ?_
    refine jp rfl ?_
    refine jl_nil ?_
    refine j_again (j + 1, Mf, R', pj ++ downL s q l ys) (Keep.cons (t := 1) rfl (Keep.cons (t := 2) rfl (Keep.cons (t := 3) rfl (Keep.cons (t := 4) rfl (Keep.cons (t := 7) rfl (Keep.cons (t := 19) rfl (Keep.cons (t := 20) rfl (Keep.cons (t := 21) rfl Keep.nil)))))))) ⟨by show j + 1 ≤ xs.length; omega, hMk.trans hMf, hy, ?_⟩ (by show xs.length - (j + 1) < xs.length - j; omega) (fun w h => (h.perm List.perm_append_comm).fewer (by simp))
    show _ ++ goDown (fun x => downL s q l (kid s x)) q (xs.drop (j + 1)) = _
    rw [← hpj, List.append_assoc]
   ·iterate 2 refine jp rfl ?_
    refine jl_nil ?_
    refine jT ?_
    refine jc_yes rfl ?_
    refine jc_seq ?_
    refine jc_region ?_
    refine jp rfl ?_
    refine jl_nil ?_
    refine jT ?_
    refine jc_ret ?_
    refine jBr ?_
    refine jTr ?_
    refine jTr ?_
    refine jBr ?_
    refine jTr ?_
    refine jq_drop (L' := R') (by simp) ?_
    refine jr1 rfl rfl ?_
    exact .inr ⟨rfl, hy⟩
 ·refine jl_nil ?_
  refine jT ?_
  refine jc_seq ?_
  refine jc_no rfl ?_
  refine jc_exit ?_
  refine jTx ?_
  refine jTx ?_
  refine jBx ?_
  refine jT ?_
  refine jc_seq ?_
  refine jc_region ?_
  refine jp rfl ?_
  refine jl_nil ?_
  refine jT ?_
  refine jc_ret ?_
  refine jq_drop (L' := Lk) (by simp) ?_
  refine jr1 rfl rfl ?_
  obtain rfl : j = xs.length := by omega
  rw [List.drop_eq_nil_of_le (Nat.le_refl _), goDown, List.append_nil] at hpj
  exact .inl ⟨rfl, hpj ▸ hJk⟩


theorem down_specN (s : Sto) (hst : stOk s) (q : Ky) (lid c1 c2 c3 c4 : Nat) (all : List It) (J Jx : List It → Mem → Lc → Prop) (M0 : Mem) (hmono : ∀ pre M2 M3 L2, MLe M2 M3 → J pre M2 L2 → J pre M3 L2) (hJ : ∀ pre y M2 L2 vs, MLe M0 M2 → J pre M2 L2 → pre ++ [y] <+: all → KEn y (newOf M0 M2) vs → RoundL Tryz.prog lid vs.toArray M2 L2 fun v M' L' => (v = .bool true ∧ J (pre ++ [y]) M' L') ∨ (v = .bool false ∧ Jx (pre ++ [y]) M' L')) : ∀ lev, DownS Tryz.prog s q lid c1 c2 c3 c4 all J Jx M0 lev
 | 0 => fun k xs pre M L hk hnd htr hM0 hcf hJ0 hpre => down_leafN s hst q lid c1 c2 c3 c4 all J Jx M0 hmono hJ k xs pre M L hk hnd htr hM0 hcf hJ0 hpre
 | l + 1 => fun k xs pre M L hk hnd htr hM0 hcf hJ0 hpre => down_nodeN s hst q lid c1 c2 c3 c4 all J Jx M0 hmono hJ l ((l + 1 : Nat) : Int) (by omega) (down_specN s hst q lid c1 c2 c3 c4 all J Jx M0 hmono hJ l) k xs pre M L hk hnd htr hM0 hcf hJ0 hpre

theorem items_bodyN (s : Sto) (hst : stOk s) (q : Ky) (k lev : Nat) (xs : List It) (hk256 : k < 256) (hnd : ndAt s k = some ((lev : Int), xs)) (htr : treeOk s lev xs) (d1 d2 d3 : Nat) (v1 : Value) (M : Mem) (bv wv nv lv : Value) (hd1 : M d1 = some (.cells [bv, wv, nv, lv].toArray 28 (0, 0))) (hST : ST M (.agg [bv, wv, nv, lv].toArray) s) (hd2 : M d2 = some (.cells (kcells q).toArray 31 (0, 0))) (hd3 : M d3 = some (.cells [.int .i64 (k : Int)].toArray 3 (0, 0))) (lid : Nat) (J Jx : List It → Mem → Lc → Prop) (M1 : Mem) (L0 : Lc) (hM : MLe M M1) (hmono : ∀ pre M2 M3 L2, MLe M2 M3 → J pre M2 L2 → J pre M3 L2) (hJ : ∀ pre y M2 L2 vs, MLe M1 M2 → J pre M2 L2 → pre ++ [y] <+: downL s q lev xs → KEn y (newOf M1 M2) vs → RoundL Tryz.prog lid vs.toArray M2 L2 fun v M' L' => (v = .bool true ∧ J (pre ++ [y]) M' L') ∨ (v = .bool false ∧ Jx (pre ++ [y]) M' L')) (h0 : J [] M1 L0) :
  SpecL Tryz.prog 30 #[.func (.yield lid) #[] #[], .pointer (some ⟨d1, 0, none⟩), .pointer (some ⟨d2, 0, none⟩), .pointer (some ⟨d3, 0, none⟩)] M1 L0 fun _ M' L' => J (downL s q lev xs) M' L' ∨ ∃ pre, pre <+: downL s q lev xs ∧ Jx pre M' L' := by
 refine spec_body (vs := [_, _, _, _]) 13 _ Tryz.func30 rfl Tryz.ntmps30 rfl rfl ?_; intro W
 refine jc_seq ?_
 refine jc_region ?_
 refine jl_h rfl rfl (hBox (cs := [.func (.yield lid) #[] #[]]) rfl rfl rfl rfl) ?_; rintro _ _ _ ⟨b4, rfl, rfl, rfl⟩
 refine jl_nil ?_
 refine jT ?_
 refine jc_seq ?_
 refine jc_region ?_
 obtain ⟨⟨_, hw4, _, _⟩, ⟨hn256, _⟩, _⟩ := id hst
 refine jl_q rfl rfl (qLdA (cs := [bv, wv, nv, lv]) rfl rfl rfl rfl rfl (fun i v hv => CM.cj ⟨_, _, _, hM _ _ hd1, by simpa using hv⟩ _)) ?_
 refine jl_h rfl rfl (hCall rfl rfl rfl rfl rfl (by kernel_rfl) (on_spec s _ M1 (hST.mono hM) (by omega) (by omega))) ?_; rintro _ M1n _ ⟨hM1n, _, rfl, ⟨hbn0, rfl⟩⟩
 have hbn1 := hbn0 M1n (MLe.refl _) hM1n
 obtain ⟨pb, _, _, _, _, rfl, _⟩ := id hbn1.ex
 simp only [List.nil_append]
 refine jl_h rfl rfl (hAlloc rfl rfl) ?_; rintro _ _ _ ⟨b5, rfl, rfl, rfl⟩
 refine jl_s rfl (hStoreL rfl rfl rfl rfl rfl rfl rfl rfl) ?_; rintro _ _ _ ⟨rfl, rfl⟩
 refine jl_nil ?_
 refine jT ?_
 refine jc_seq ?_
 refine jc_region ?_
 refine jl_h rfl rfl (hAlloc rfl rfl) ?_; rintro _ _ _ ⟨b6, rfl, rfl, rfl⟩
 refine jl_nil ?_
 refine jT ?_
 refine jc_seq ?_
 refine jc_region ?_
 refine jp rfl ?_
 refine jl_s rfl (hStoreL rfl rfl rfl rfl rfl rfl rfl rfl) ?_; rintro _ _ _ ⟨rfl, rfl⟩
 refine jl_nil ?_
 refine jT ?_
 refine jc_region ?_
 refine jl_freezeX b4 (by simp +contextual) ?_
 intro M3 hM3 e4
 refine jl_freezeX b5 (by simp +contextual) ?_
 intro M4 hM4 e5
 refine jl_freezeX b6 (by simp +contextual) ?_
 intro M5 hM5 e6
 have hM15 := hM1n.trans (hM3.trans (hM4.trans hM5))
 have hcf : CF M5 s q lid b5 d2 b4 b6 := ⟨⟨pb, hM5 _ _ e5, hbn1.mono (hM3.trans (hM4.trans hM5))⟩, hM15 _ _ (hM _ _ hd2), hM5 _ _ (hM4 _ _ e4), e6⟩
 refine jl_q rfl rfl (qLd rfl rfl rfl rfl (CM.cj ⟨_, _, _, e6, rfl⟩ _)) ?_
 refine jl_q rfl rfl (qLd rfl rfl rfl rfl (CM.cj ⟨_, _, _, hM15 _ _ (hM _ _ hd3), rfl⟩ _)) ?_
 refine jl_h rfl rfl (hCall rfl rfl rfl rfl rfl (by kernel_rfl) (down_specN s hst q lid b5 d2 b4 b6 (downL s q lev xs) J Jx M1 hmono hJ lev k xs [] M5 L0 hk256 hnd htr hM15 hcf (hmono _ _ _ _ hM15 h0) (by rw [List.nil_append]; exact List.prefix_rfl))) ?_; rintro _ Mf _ ⟨hMf, R', rfl, hy⟩
 refine jl_nil ?_
 refine jrn ?_
 refine jq_drop (L' := R') (by simp) ?_
 refine jrs (rs := []) rfl .nil ?_
 exact hy.imp (fun h => by simpa using h.2) (fun h => h.2)


theorem NSn.nil {M0 M : Mem} (hM : MLe M0 M) : NSn M0 M (.slice none 0 0) [] := ⟨none, 0, [], M, rfl, Nat.le_refl _, hM, MLe.refl _, SM.nil, rfl, fun _ h => by cases h⟩
def RIN (M0 : Mem) (b8 : Nat) (to : Ky) (pre : List It) (M' : Mem) (R : Lc) : Prop := ∃ v Rs, ∃ ps : List (It × Value), R = (b8, .cells [v].toArray ITS (0, 0)) :: Rs ∧ Own v Rs IT 5 ps.length (ps.flatMap icell) ∧ ps.map (·.1) = pre ∧ (∀ p ∈ ps, BS (newOf M0 M') p.2 p.1.val) ∧ ∀ x ∈ pre, (!kless to x.key) = true

set_option maxHeartbeats 2000000 in
theorem range_walkN (s : Sto) (root : Int) (a b : Ky) (bv wv nv lv : Value) (M : Mem) (h1 : LS M bv s.blocks) (h2 : WS M wv s.waits) (h3 : BS M nv s.now) (h4 : BS M lv s.last) :
  SpecL Tryz.prog 6 #[.agg #[bv, wv, nv, lv], .int .i64 root, .agg (kcells a).toArray, .agg (kcells b).toArray] M [] fun u M' L' => (∃ v, u = .tuple #[v, .int .i64 (fchk s root).2] ∧ NSn M M' v (if (fchk s root).2 = 0 then rng s root a b else [])) ∧ L' = [] := by
 have hST : ST M (.agg #[bv, wv, nv, lv]) s := ⟨_, _, _, _, rfl, h1, h2, h3, h4⟩
 refine spec_body (vs := [_, _, _, _]) 36 _ Tryz.func6 rfl Tryz.ntmps6 rfl rfl ?_; intro W
 refine jc_seq ?_
 refine jc_region ?_
 refine jl_h rfl rfl (hBox (cs := [_, _, _, _]) rfl rfl rfl rfl) ?_; rintro _ _ _ ⟨b4, rfl, rfl, rfl⟩
 refine jl_h rfl rfl (hBox (cs := [_, _, _]) rfl rfl rfl rfl) ?_; rintro _ _ _ ⟨b6, rfl, rfl, rfl⟩
 refine jl_h rfl rfl (hBox (cs := [_, _, _]) rfl rfl rfl rfl) ?_; rintro _ _ _ ⟨b7, rfl, rfl, rfl⟩
 refine jl_h rfl rfl (hAlloc rfl rfl) ?_; rintro _ _ _ ⟨b8, rfl, rfl, rfl⟩
 refine jp rfl ?_
 refine jl_nil ?_
 refine jT ?_
 refine jc_seq ?_
 refine jc_seq ?_
 refine jc_region ?_
 refine jl_q rfl rfl (qLdL rfl rfl rfl rfl rfl) ?_
 refine jp rfl ?_
 refine jl_q rfl rfl (qCall rfl rfl rfl rfl rfl (by kernel_rfl) (fcheck_walk s root bv wv nv lv M h1 h2 h3 h4)) ?_
 iterate 5 refine jp rfl ?_
 refine jl_nil ?_
 refine jT ?_
 refine jc_seq ?_
 refine jc_region ?_
 refine jp rfl ?_
 refine js rfl (fun h20 => ?_) (fun h20 => ?_)
 ·refine jl_nil ?_
  refine jT ?_
  refine jc_yes rfl ?_
  refine jc_seq ?_
  refine jc_region ?_
  refine jp rfl ?_
  refine jl_s rfl (hStoreL rfl rfl rfl rfl rfl rfl rfl rfl) ?_; rintro _ _ _ ⟨rfl, rfl⟩
  refine jp rfl ?_
  refine jl_nil ?_
  refine jT ?_
  refine jc_ret ?_
  refine jTr ?_
  refine jrsd (rs := [_, _]) ([]) (by simp) rfl (.cons (.one rfl rfl rfl) (.cons (.tmp rfl) .nil)) ?_
  exact ⟨⟨_, rfl, by rw [if_neg h20]; exact NSn.nil (MLe.refl _)⟩, rfl⟩
 ·refine jl_nil ?_
  refine jT ?_
  refine jc_no rfl ?_
  refine jc_skip ?_
  refine jT ?_
  refine jc_seq ?_
  refine jc_seq ?_
  refine jc_region ?_
  refine jl_q rfl rfl (qLdL rfl rfl rfl rfl rfl) ?_
  refine jp rfl ?_
  refine jl_q rfl rfl (qLdL rfl rfl rfl rfl rfl) ?_
  obtain ⟨hst, hr8, hr256, hnz, lev, xs, hnd, htr, hfl⟩ := fchk_ok (Classical.not_not.1 h20)
  have hno := ndAt_ok hnd
  have hlv := hno.lev
  have hsm := downL_small (s := s) (q := a) (l := lev) (by omega) hno.len
  obtain ⟨k, rfl⟩ : ∃ k : Nat, root = k := ⟨root.toNat, by omega⟩
  rw [Int.toNat_natCast] at hnd
  have hrng : rng s (k : Int) a b = (downL s a lev xs).takeWhile fun x => !kless b x.key := by unfold rng; rw [Int.toNat_natCast, hnd]; rfl
  obtain ⟨all, hall⟩ : ∃ all, all = downL s a lev xs := ⟨_, rfl⟩
  rw [← hall] at hsm
  refine jl_h rfl rfl (hCall rfl rfl rfl rfl rfl (by kernel_rfl) (items_walk bv wv nv lv a (k : Int) M)) ?_; rintro _ M1 _ ⟨hM1, _, rfl, ⟨⟨d1, d2, d3, rfl, hd1, hd2, hd3⟩, rfl⟩⟩
  refine jl_nil ?_
  refine jT ?_
  refine jc_block ?_
  refine jc_freeze b7 (by simp) ?_
  intro M1f hM1f e7
  replace hM1 := hM1.trans hM1f
  refine jc_rangeR (R := [(b8, .cells [.slice none 0 0].toArray ITS (0, 0))]) (xs := all) (En := (fun y M2 => KEn y (newOf M M2))) (ps := [26]) rfl (by kernel_rfl) (b := true) (lb := [.pointer (some ⟨d1, 0, none⟩), .pointer (some ⟨d2, 0, none⟩), .pointer (some ⟨d3, 0, none⟩)]) (fun l J Jx M2 L2 hM2 hmono hJ h0 => by rw [hall] at hJ ⊢; exact items_bodyN s hst a k lev xs (by omega) hnd htr d1 d2 d3 (.nilFunc) M1f bv wv nv lv (hM1f _ _ hd1) (hST.mono hM1) (hM1f _ _ hd2) (hM1f _ _ hd3) l J Jx M2 L2 hM2 (hmono rfl) (fun pre y M3 L3 vs h1 h2 h3 h4 => hJ pre y M3 L3 vs h1 h2 h3 (h4.mono (newOf_anti (hM1.trans hM2)))) h0)
   (RIN M b8 b)
   (fun c pre' M' R => c = .exit 0 ∧ ∃ pre y, pre' = pre ++ [y] ∧ RIN M b8 b pre M' R ∧ kless b y.key = true)
   (fun y _ vs ⟨va, vc, e, _⟩ => by rw [e]; rfl) (by decide) ⟨_, [], [], rfl, Own.nil _ _, rfl, (fun _ h => by cases h), (fun _ h => by cases h)⟩ (fun _ pre M2 M3 R hM ⟨v, Rs, ps, q1, q2, q3, q4, q5⟩ => ⟨v, Rs, ps, q1, q2, q3, fun p hp => (q4 p hp).mono (newOf_mono hM), q5⟩) ?_ ?_ ?_
  ·intro l W2 pre y M2 R2 vs hM2 hI hpre hE
   obtain ⟨v, Rs, ps, rfl, hown, hpm, hpb, hpl⟩ := hI
   obtain ⟨oa, oc, rfl⟩ := hown.form
   obtain ⟨va, vc, rfl, hyc, hys⟩ := hE
   refine jc_region ?_
   refine jl_h rfl rfl (hAlloc rfl rfl) ?_; rintro _ _ _ ⟨b12, rfl, rfl, rfl⟩
   refine jl_s rfl (hStoreL rfl rfl rfl rfl rfl rfl rfl rfl) ?_; rintro _ _ _ ⟨rfl, rfl⟩
   refine jl_nil ?_
   refine jK fun W' => ?_
   refine jc_block ?_
   refine jc_seq ?_
   refine jc_seq ?_
   refine jc_region ?_
   refine jl_q rfl rfl (qLdA (cs := kcells b) rfl rfl rfl rfl rfl (fun i v hv => CM.cj ⟨_, _, _, hM2 _ _ e7, by simpa [kcells] using hv⟩ _)) ?_
   refine jl_q rfl rfl (qFieldAddr rfl rfl rfl rfl rfl) ?_
   refine jl_q rfl rfl (qLdL rfl rfl rfl rfl rfl) ?_
   refine jl_qb rfl rfl (qCall rfl rfl rfl rfl rfl (by kernel_rfl) (less_spec b y.key M2)) (fun h30 => ?_) (fun h30 => ?_)
   ·refine jl_nil ?_
    refine jT ?_
    refine jc_yes rfl ?_
    refine jc_exit ?_
    refine jTx ?_
    refine jBo rfl ?_
    refine jq_drop (L' := (b8, .cells [.slice oa ps.length oc].toArray ITS (0, 0)) :: Rs) (by simp) ?_
    refine jQx ?_
    exact ⟨rfl, pre, y, rfl, ⟨_, Rs, ps, rfl, hown, hpm, hpb, hpl⟩, h30⟩
   ·refine jl_nil ?_
    refine jT ?_
    refine jc_no rfl ?_
    refine jc_skip ?_
    refine jT ?_
    refine jc_region ?_
    refine jl_q rfl rfl (qLd rfl rfl rfl rfl (CJ.loc rfl)) ?_
    refine jl_q rfl rfl (qLdL rfl rfl rfl rfl rfl) ?_
    refine jl_h rfl rfl (hBuildSlice (cs := [_, _, _, _, _]) rfl rfl rfl (by rfl) (by rfl) (by rfl)) ?_; rintro _ _ _ ⟨b33, rfl, rfl, rfl⟩
    refine jl_h rfl rfl (hAppend (R := Rs) (m := 1) rfl rfl rfl rfl hown rfl (fun i v hv => CJ.loc (by simpa using hv)) rfl (by rfl) (by simp [Value.oneCell']) (by have := hpre.length_le; rw [List.length_append, List.length_singleton] at this; have h5 := congrArg List.length hpm; rw [List.length_map] at h5; omega) (by omega)) ?_; rintro s' _ _ ⟨rfl, R', rfl, hown', _⟩
    obtain ⟨a2, c2, rfl⟩ := hown'.form
    refine jl_s rfl (hStoreL rfl rfl rfl rfl rfl rfl rfl rfl) ?_; rintro _ _ _ ⟨rfl, rfl⟩
    refine jl_nil ?_
    refine jB ?_
    refine jq_weak (L' := (b8, .cells [.slice a2 (ps.length + 1) c2].toArray ITS (0, 0)) :: R') (fun w h => (h.perm List.perm_append_comm).fewer (.cons _ (.cons _ (.refl _)))) ?_
    refine jQn ?_
    refine ⟨_, R', ps ++ [(y, .slice va y.val.length vc)], rfl, ?_, by rw [List.map_append, hpm]; rfl, ?_, ?_⟩
    ·rw [List.length_append, List.flatMap_append]; simpa [icell] using hown'
    ·intro p hp; rcases List.mem_append.1 hp with hp | hp
     ·exact hpb p hp
     ·rw [List.mem_singleton.1 hp]; exact ⟨va, vc, rfl, hyc, hys⟩
    ·intro x hx; rcases List.mem_append.1 hx with hx | hx
     ·exact hpl x hx
     ·rw [List.mem_singleton.1 hx, h30]; rfl
  ·intro d M2 R2 hM2 hI
   obtain ⟨v, Rs, ps, rfl, hown, hpm, hpb, hpl⟩ := hI
   obtain ⟨oa, oc, rfl⟩ := hown.form
   simp only [List.cons_append, List.nil_append]
   refine jB ?_
   refine jT ?_
   refine jc_seq ?_
   refine jc_region ?_
   refine jl_q rfl rfl (qLd rfl rfl rfl rfl (CJ.loc rfl)) ?_
   refine jl_s rfl (hStoreL rfl rfl rfl rfl rfl rfl rfl rfl) ?_; rintro _ _ _ ⟨rfl, rfl⟩
   refine jp rfl ?_
   refine jl_nil ?_
   refine jT ?_
   refine jc_ret ?_
   refine jr_mark (L2 := _) Rm.perm ?_
   refine jq_ownN hown (by simp) ?_
   intro M9 a9 c9 hM9 e9 hc9 hs9; cases e9
   refine jrsd (rs := [_, _]) ([]) (by simp) rfl (.cons (.one rfl rfl rfl) (.cons (.tmp rfl) .nil)) ?_
   refine ⟨⟨_, congrArg (fun e => Value.tuple #[_, Value.int .i64 e]) (Classical.not_not.1 h20).symm, ?_⟩, rfl⟩
   rw [if_pos (Classical.not_not.1 h20), hrng, ← hall, take_all hpl]
   exact ⟨_, _, ps, _, by rw [← hpm, List.length_map], by rw [← hpm, List.length_map]; exact hc9, hM1.trans hM2, hM9, hs9, hpm, fun p hp => hpb p hp⟩
  ·intro d c pre M2 R2 hM2 hpre hI
   obtain ⟨rfl, pre, y, rfl, hI, hy⟩ := hI
   obtain ⟨v, Rs, ps, rfl, hown, hpm, hpb, hpl⟩ := hI
   obtain ⟨oa, oc, rfl⟩ := hown.form
   simp only [List.cons_append, List.nil_append]
   refine jc_exit ?_
   refine jBx ?_
   refine jT ?_
   refine jc_seq ?_
   refine jc_region ?_
   refine jl_q rfl rfl (qLd rfl rfl rfl rfl (CJ.loc rfl)) ?_
   refine jl_s rfl (hStoreL rfl rfl rfl rfl rfl rfl rfl rfl) ?_; rintro _ _ _ ⟨rfl, rfl⟩
   refine jp rfl ?_
   refine jl_nil ?_
   refine jT ?_
   refine jc_ret ?_
   refine jr_mark (L2 := _) Rm.perm ?_
   refine jq_ownN hown (by simp) ?_
   intro M9 a9 c9 hM9 e9 hc9 hs9; cases e9
   refine jrsd (rs := [_, _]) ([]) (by simp) rfl (.cons (.one rfl rfl rfl) (.cons (.tmp rfl) .nil)) ?_
   refine ⟨⟨_, congrArg (fun e => Value.tuple #[_, Value.int .i64 e]) (Classical.not_not.1 h20).symm, ?_⟩, rfl⟩
   obtain ⟨r, hr⟩ := hpre
   rw [if_pos (Classical.not_not.1 h20), hrng, ← hall, ← hr, List.append_assoc, List.singleton_append, take_stop hpl (by rw [hy]; rfl)]
   exact ⟨_, _, ps, _, by rw [← hpm, List.length_map], by rw [← hpm, List.length_map]; exact hc9, hM1.trans hM2, hM9, hs9, hpm, fun p hp => hpb p hp⟩


theorem range_new (s : Sto) (v : Value) (root : Int) (a b : Ky) (M : Mem) (h : ST M v s) : SpecL Tryz.prog 6 #[v, .int .i64 root, .agg (kcells a).toArray, .agg (kcells b).toArray] M [] fun u M' L' => (∃ v, u = .tuple #[v, .int .i64 (fchk s root).2] ∧ NSn M M' v (if (fchk s root).2 = 0 then rng s root a b else [])) ∧ L' = [] := by
 obtain ⟨bv, wv, nv, lv, rfl, h1, h2, h3, h4⟩ := h.ex
 exact range_walkN s root a b bv wv nv lv M h1 h2 h3 h4

end Go.Proofs.YtkjghgndmpbfiaaGreat
