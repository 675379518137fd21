/- Trees, without a program in sight: what is between two keys rises, and is found. No statement of the seat is proved here. -/
import Derived.Test.YtkjghgndmpbfiaaGreatZFind
import Derived.Test.YtkjghgndmpbfiaaGreatZStore
namespace Go.Proofs.YtkjghgndmpbfiaaGreat
set_option linter.unusedVariables false
set_option linter.unusedSectionVars false
set_option linter.unusedSimpArgs false
open Go.RowKit

def goDown (f : It → List It) (q : Ky) : List It → List It
 | [] => []
 | x :: xs => (match xs with | [] => f x | y :: _ => if kless q y.key then f x else []) ++ goDown f q xs
/-- what walk.items tells of a node's tree -/
def downL (s : Sto) (q : Ky) : Nat → List It → List It
 | 0, xs => xs.filter fun x => !kless x.key q
 | l + 1, xs => goDown (fun x => downL s q l (kid s x)) q xs
def KEn (y : It) (M : Mem) (vs : List Value) : Prop := ∃ va vc, vs = [.agg (itc y va vc).toArray] ∧ y.val.length ≤ vc ∧ SM M va (bcells y.val)
/-- what the closure has in hand -/
structure CF (M : Mem) (s : Sto) (q : Ky) (l c1 c2 c3 c4 : Nat) : Prop where
 bn : ∃ p, M c1 = some (.cells [.pointer (some ⟨p, 0, none⟩)].toArray 62 (0, 0)) ∧ BN M (.pointer (some ⟨p, 0, none⟩)) s
 fr : M c2 = some (.cells (kcells q).toArray 31 (0, 0))
 yi : M c3 = some (.cells [.func (.yield l) #[] #[]].toArray 83 (0, 0))
 cl : M c4 = some (.cells [.func (.func 31) #[] #[.pointer (some ⟨c1, 0, none⟩), .pointer (some ⟨c2, 0, none⟩), .pointer (some ⟨c3, 0, none⟩), .pointer (some ⟨c4, 0, none⟩)]].toArray 84 (0, 0))
theorem CF.mono {M M' : Mem} {s : Sto} {q : Ky} {l c1 c2 c3 c4 : Nat} (h : CF M s q l c1 c2 c3 c4) (hM : MLe M M') : CF M' s q l c1 c2 c3 c4 := by
 obtain ⟨⟨p, h1, h2⟩, h3, h4, h5⟩ := h
 exact ⟨⟨p, hM _ _ h1, h2.mono hM⟩, hM _ _ h3, hM _ _ h4, hM _ _ h5⟩
theorem goDown_on {f : It → List It} {q : Ky} {xs : List It} {j : Nat} (h1 : j + 1 < xs.length) (h : kless q xs[j + 1].key = true) : goDown f q (xs.drop j) = f xs[j] ++ goDown f q (xs.drop (j + 1)) := by
 rw [List.drop_eq_getElem_cons (show j < xs.length by omega), List.drop_eq_getElem_cons h1, goDown]; simp [h]
theorem goDown_off {f : It → List It} {q : Ky} {xs : List It} {j : Nat} (h1 : j + 1 < xs.length) (h : kless q xs[j + 1].key = false) : goDown f q (xs.drop j) = goDown f q (xs.drop (j + 1)) := by
 rw [List.drop_eq_getElem_cons (show j < xs.length by omega), List.drop_eq_getElem_cons h1, goDown]; simp [h]
theorem goDown_last {f : It → List It} {q : Ky} {xs : List It} {j : Nat} (h1 : j < xs.length) (h2 : ¬ j + 1 < xs.length) : goDown f q (xs.drop j) = f xs[j] ++ goDown f q (xs.drop (j + 1)) := by
 rw [List.drop_eq_getElem_cons h1, List.drop_eq_nil_of_le (show xs.length ≤ j + 1 by omega)]; simp [goDown]
theorem prefix_of {α : Type} {pj r all : List α} {x : α} (h : pj ++ (x :: r) <+: all) : pj ++ [x] <+: all := by
 refine List.IsPrefix.trans ?_ h
 rw [show pj ++ x :: r = (pj ++ [x]) ++ r by simp]
 exact List.prefix_append _ _
/-- the closure's contract at a level -/
def DownS (P : Program) (s : Sto) (q : Ky) (l c1 c2 c3 c4 : Nat) (all : List It) (J Jx : List It → Mem → Lc → Prop) (M0 : Mem) (lev : Nat) : Prop :=
 ∀ (k : Nat) (xs : List It) (pre : List It) (M : Mem) (L : Lc), k < 256 → ndAt s k = some ((lev : Int), xs) → treeOk s lev xs → MLe M0 M → CF M s q l c1 c2 c3 c4 → J pre M L → pre ++ downL s q lev xs <+: all →
  SpecL P 31 #[.int .i64 k, .pointer (some ⟨c1, 0, none⟩), .pointer (some ⟨c2, 0, none⟩), .pointer (some ⟨c3, 0, none⟩), .pointer (some ⟨c4, 0, none⟩)] M L fun v M' L' => (v = .bool true ∧ J (pre ++ downL s q lev xs) M' L') ∨ (v = .bool false ∧ ∃ pre', pre' <+: all ∧ Jx pre' M' L')

set_option maxHeartbeats 2000000 in
theorem down_leaf (s : Sto) (hst : stOk s) (q : Ky) (lid c1 c2 c3 c4 : Nat) (all : List It) (J Jx : List It → Mem → Lc → Prop) (M0 : Mem) (hmono : ∀ pre M2 M3 L2, MLe M2 M3 → J pre M2 L2 → J pre M3 L2) (hJ : ∀ pre y M2 L2 vs, MLe M0 M2 → J pre M2 L2 → pre ++ [y] <+: all → KEn y M2 vs → RoundL Tryz.prog lid vs.toArray M2 L2 fun v M' L' => (v = .bool true ∧ J (pre ++ [y]) M' L') ∨ (v = .bool false ∧ Jx (pre ++ [y]) M' L')) (k : Nat) (xs pre : List It) (M : Mem) (L0 : Lc) (hk256 : k < 256) (hnd : ndAt s k = some (0, xs)) (htr : treeOk s (0) xs) (hM0 : MLe M0 M) (hcf : CF M s q lid c1 c2 c3 c4) (hJ0 : J pre M L0) (hpre : pre ++ downL s q (0) xs <+: all) :
  SpecL Tryz.prog 31 #[.int .i64 k, .pointer (some ⟨c1, 0, none⟩), .pointer (some ⟨c2, 0, none⟩), .pointer (some ⟨c3, 0, none⟩), .pointer (some ⟨c4, 0, none⟩)] M L0 fun v M' L' => (v = .bool true ∧ J (pre ++ downL s q (0) xs) M' L') ∨ (v = .bool false ∧ ∃ pre', pre' <+: all ∧ Jx pre' M' L') := by
 have hno := ndAt_ok hnd
 have hlv := hno.lev
 have hlen := hno.len
 refine spec_body (vs := [_, _, _, _, _]) 68 _ Tryz.func31 rfl Tryz.ntmps31 rfl rfl ?_; intro W
 refine jc_seq ?_
 refine jc_region ?_
 refine jp rfl ?_
 refine jl_nil ?_
 refine jT ?_
 refine jc_seq ?_
 refine jc_region ?_
 obtain ⟨bp, hbp1, hbp⟩ := hcf.bn
 refine jl_q rfl rfl (qLd rfl rfl rfl rfl (CM.cj ⟨_, _, _, hbp1, rfl⟩ _)) ?_
 refine jp rfl ?_
 refine jl_h rfl rfl (hCall rfl rfl rfl rfl rfl (by kernel_rfl) (bnode_spec s k _ M hst hk256 hbp)) ?_; rintro _ Mn _ ⟨hMn, _, rfl, ⟨hbn, rfl⟩⟩
 obtain ⟨sl, rfl, hns⟩ := (by unfold BnPost at hbn; rw [hnd] at hbn; exact hbn : ∃ sl, _ ∧ NS Mn sl xs)
 obtain ⟨a, c, ps, rfl, hc, hs, hp, hb⟩ := hns
 simp only [List.nil_append]
 iterate 3 refine jp rfl ?_
 refine jl_h rfl rfl (hAlloc rfl rfl) ?_; rintro _ _ _ ⟨b7, rfl, rfl, rfl⟩
 refine jl_s rfl (hStoreL rfl rfl rfl rfl rfl rfl rfl rfl) ?_; rintro _ _ _ ⟨rfl, rfl⟩
 refine jp rfl ?_
 refine jl_nil ?_
 refine jT ?_
 refine jc_seq ?_
 refine jc_seq ?_
 refine jc_region ?_
 refine jl_q rfl rfl (qFieldAddr rfl rfl rfl rfl rfl) ?_
 refine jl_q rfl rfl (qLd rfl rfl rfl rfl (CJ.loc rfl)) ?_
 refine jl_q rfl rfl (qLen rfl rfl rfl) ?_
 refine jp rfl ?_
 refine jl_nil ?_
 refine jT ?_
 refine jc_block ?_
 refine jc_loopK (α := Nat × Mem × Lc × List It) (fun x => [(1, .pointer (some ⟨c1, 0, none⟩)), (2, .pointer (some ⟨c2, 0, none⟩)), (3, .pointer (some ⟨c3, 0, none⟩)), (4, .pointer (some ⟨c4, 0, none⟩)), (7, .pointer (some ⟨b7, 0, none⟩)), (19, .slice a xs.length c), (20, .int .i64 xs.length), (21, .int .i64 x.1)]) (fun x => x.2.1) (fun x => (b7, .cells [.int .i64 0, .slice a xs.length c].toArray 66 (0, 0)) :: x.2.2.1) (fun x => x.1 ≤ xs.length ∧ MLe Mn x.2.1 ∧ J x.2.2.2 x.2.1 x.2.2.1 ∧ x.2.2.2 ++ (xs.drop x.1).filter (fun x => !kless x.key q) = pre ++ downL s q 0 xs) (fun x => xs.length - x.1)
  (0, Mn, L0, pre) (Keep.cons (t := 1) rfl (Keep.cons (t := 2) rfl (Keep.cons (t := 3) rfl (Keep.cons (t := 4) rfl (Keep.cons (t := 7) rfl (Keep.cons (t := 19) rfl (Keep.cons (t := 20) rfl (Keep.cons (t := 21) rfl Keep.nil)))))))) ⟨Nat.zero_le _, MLe.refl _, hmono _ _ _ _ hMn hJ0, rfl⟩ (fun _ h => h) ?_
 rintro ⟨j, Mk, Lk, pj⟩ ⟨hj, hMk, hJk, hpj⟩
 try dsimp only at hj hMk hJk hpj ⊢
 refine jc_seq ?_
 refine jc_region ?_
 refine js rfl (fun h22 => ?_) (fun h22 => ?_)
 ·refine jl_nil ?_
  refine jT ?_
  refine jc_seq ?_
  refine jc_yes rfl ?_
  refine jc_skip ?_
  refine jT ?_
  refine jc_seq ?_
  refine jc_block ?_
  refine jc_seq ?_
  refine jc_region ?_
  refine jp rfl ?_
  have hk1 : j < xs.length := by omega
  have hsk := hs.mono hMk
  have hbk := fun p hp => (hb p hp).mono hMk
  obtain ⟨sb, so, e0, hx⟩ := hsk.open (by intro e; have := congrArg List.length e; rw [flat_len icell 5 icell_len, List.length_nil] at this; have h2 := congrArg List.length hp; rw [List.length_map] at h2; omega)
  subst e0
  obtain ⟨va, vc, hcl, hvc, hvs⟩ := items_get hx hp hbk hk1
  have hxr := hno.ref xs[j] (List.getElem_mem hk1)
  have hcek := hcf.mono (hMn.trans hMk)
  refine jl_q rfl rfl (qIdxS rfl rfl rfl rfl (by omega)) ?_
  refine jl_q rfl rfl (qLdA (cs := itc xs[j] va vc) rfl rfl rfl rfl rfl (fun i v hv => (hcl i v hv).cj _)) ?_
  refine jl_h rfl rfl (hAlloc rfl rfl) ?_; rintro _ _ _ ⟨b10, rfl, rfl, rfl⟩
  refine jp rfl ?_
  refine jl_s rfl (hStoreL rfl rfl rfl rfl rfl rfl rfl rfl) ?_; rintro _ _ _ ⟨rfl, rfl⟩
  refine jl_nil ?_
  refine jT ?_
  refine jc_seq ?_
  refine jc_seq ?_
  refine jc_region ?_
  refine jl_q rfl rfl (qFieldAddr rfl rfl rfl rfl rfl) ?_
  refine jl_q rfl rfl (qLd rfl rfl rfl rfl (CJ.loc rfl)) ?_
  refine jt rfl (decide_eq_true (by omega)) ?_
  refine jl_nil ?_
  refine jT ?_
  refine jc_yes rfl ?_
  refine jc_seq ?_
  refine jc_seq ?_
  refine jc_region ?_
  refine jl_q rfl rfl (qFieldAddr rfl rfl rfl rfl rfl) ?_
  refine jl_q rfl rfl (qLdL rfl rfl rfl rfl rfl) ?_
  refine jl_q rfl rfl (qLdA (cs := kcells q) rfl rfl rfl rfl rfl (fun i v hv => CM.cj ⟨_, _, _, hcek.fr, by simpa using hv⟩ _)) ?_
  refine jl_qb rfl rfl (qCall rfl rfl rfl rfl rfl (by kernel_rfl) (less_spec xs[j].key q _)) (fun h32 => ?_) (fun h32 => ?_)
  ·iterate 7 refine jp rfl ?_
   refine jl_nil ?_
   refine jT ?_
   refine jc_no rfl ?_
   refine jc_skip ?_
   refine jT ?_
   refine jc_exit ?_
   refine jTx ?_
   refine jBx ?_
   refine jT ?_
   refine jc_region ?_
   refine ja rfl (by omega) ?_
   refine jp rfl ?_
   refine jl_nil ?_
   refine j_again (j + 1, Mk, Lk, pj) (Keep.cons (t := 1) rfl (Keep.cons (t := 2) rfl (Keep.cons (t := 3) rfl (Keep.cons (t := 4) rfl (Keep.cons (t := 7) rfl (Keep.cons (t := 19) rfl (Keep.cons (t := 20) rfl (Keep.cons (t := 21) rfl Keep.nil)))))))) ⟨by show j + 1 ≤ xs.length; omega, hMk, hJk, ?_⟩ (by show xs.length - (j + 1) < xs.length - j; omega) (fun w h => h.fewer (by simp))
   show _ ++ (xs.drop (j + 1)).filter (fun x => !kless x.key q) = _
   rw [← hpj, List.drop_eq_getElem_cons hk1, List.filter_cons_of_neg (by simp [h32])]
  ·iterate 2 refine jp rfl ?_
   refine jl_q rfl rfl (qLd rfl rfl rfl rfl (CM.cj ⟨_, _, _, hcek.yi, rfl⟩ _)) ?_
   refine jl_q rfl rfl (qLdL rfl rfl rfl rfl rfl) ?_
   refine jl_h rfl rfl (hYield rfl rfl rfl rfl (hJ pj xs[j] Mk Lk _ (hM0.trans (hMn.trans hMk)) hJk (by rw [List.drop_eq_getElem_cons hk1, List.filter_cons_of_pos (by simp [h32])] at hpj; rw [← hpj] at hpre; exact prefix_of hpre) ⟨va, vc, rfl, hvc, hvs⟩)) ?_; rintro _ Mf _ ⟨hMf, R', rfl, hy⟩
   rcases hy with ⟨rfl, hy⟩ | ⟨rfl, hy⟩
   ·iterate 2 refine jp rfl ?_
    refine jl_nil ?_
    refine jT ?_
    refine jc_no rfl ?_
    refine jc_skip ?_
    refine jT ?_
    refine jc_exit ?_
    refine jTx ?_
    refine jBx ?_
    refine jT ?_
    refine jc_region ?_
    refine ja rfl (by omega) ?_
    refine jp rfl ?_
    refine jl_nil ?_
    refine j_again (j + 1, Mf, R', pj ++ [xs[j]]) (Keep.cons (t := 1) rfl (Keep.cons (t := 2) rfl (Keep.cons (t := 3) rfl (Keep.cons (t := 4) rfl (Keep.cons (t := 7) rfl (Keep.cons (t := 19) rfl (Keep.cons (t := 20) rfl (Keep.cons (t := 21) rfl Keep.nil)))))))) ⟨by show j + 1 ≤ xs.length; omega, hMk.trans hMf, hy, ?_⟩ (by show xs.length - (j + 1) < xs.length - j; omega) (fun w h => (h.perm List.perm_append_comm).fewer (by simp))
    show _ ++ (xs.drop (j + 1)).filter (fun x => !kless x.key q) = _
    rw [← hpj, List.drop_eq_getElem_cons hk1, List.filter_cons_of_pos (by simp [h32])]; simp
   ·iterate 2 refine jp rfl ?_
    refine jl_nil ?_
    refine jT ?_
    refine jc_yes rfl ?_
    refine jc_seq ?_
    refine jc_region ?_
    refine jp rfl ?_
    refine jl_nil ?_
    refine jT ?_
    refine jc_ret ?_
    refine jTr ?_
    refine jTr ?_
    refine jBr ?_
    refine jTr ?_
    refine jTr ?_
    refine jBr ?_
    refine jTr ?_
    refine jq_drop (L' := R') (by simp) ?_
    refine jr1 rfl rfl ?_
    rw [List.drop_eq_getElem_cons hk1, List.filter_cons_of_pos (by simp [h32])] at hpj
    exact .inr ⟨rfl, _, by rw [← hpj] at hpre; exact prefix_of hpre, hy⟩
 ·refine jl_nil ?_
  refine jT ?_
  refine jc_seq ?_
  refine jc_no rfl ?_
  refine jc_exit ?_
  refine jTx ?_
  refine jTx ?_
  refine jBx ?_
  refine jT ?_
  refine jc_seq ?_
  refine jc_region ?_
  refine jp rfl ?_
  refine jl_nil ?_
  refine jT ?_
  refine jc_ret ?_
  refine jq_drop (L' := Lk) (by simp) ?_
  refine jr1 rfl rfl ?_
  obtain rfl : j = xs.length := by omega
  rw [List.drop_eq_nil_of_le (Nat.le_refl _), List.filter_nil, List.append_nil] at hpj
  exact .inl ⟨rfl, hpj ▸ hJk⟩

set_option maxHeartbeats 2000000 in
theorem down_node (s : Sto) (hst : stOk s) (q : Ky) (lid c1 c2 c3 c4 : Nat) (all : List It) (J Jx : List It → Mem → Lc → Prop) (M0 : Mem) (hmono : ∀ pre M2 M3 L2, MLe M2 M3 → J pre M2 L2 → J pre M3 L2) (hJ : ∀ pre y M2 L2 vs, MLe M0 M2 → J pre M2 L2 → pre ++ [y] <+: all → KEn y M2 vs → RoundL Tryz.prog lid vs.toArray M2 L2 fun v M' L' => (v = .bool true ∧ J (pre ++ [y]) M' L') ∨ (v = .bool false ∧ Jx (pre ++ [y]) M' L')) (l : Nat) (lv : Int) (hl1 : lv = (l : Int) + 1) (ih : DownS Tryz.prog s q lid c1 c2 c3 c4 all J Jx M0 l) (k : Nat) (xs pre : List It) (M : Mem) (L0 : Lc) (hk256 : k < 256) (hnd : ndAt s k = some (lv, xs)) (htr : treeOk s ((l + 1)) xs) (hM0 : MLe M0 M) (hcf : CF M s q lid c1 c2 c3 c4) (hJ0 : J pre M L0) (hpre : pre ++ downL s q ((l + 1)) xs <+: all) :
  SpecL Tryz.prog 31 #[.int .i64 k, .pointer (some ⟨c1, 0, none⟩), .pointer (some ⟨c2, 0, none⟩), .pointer (some ⟨c3, 0, none⟩), .pointer (some ⟨c4, 0, none⟩)] M L0 fun v M' L' => (v = .bool true ∧ J (pre ++ downL s q ((l + 1)) xs) M' L') ∨ (v = .bool false ∧ ∃ pre', pre' <+: all ∧ Jx pre' M' L') := by
 have hno := ndAt_ok hnd
 have hlv := hno.lev
 have hlen := hno.len
 refine spec_body (vs := [_, _, _, _, _]) 68 _ Tryz.func31 rfl Tryz.ntmps31 rfl rfl ?_; intro W
 refine jc_seq ?_
 refine jc_region ?_
 refine jp rfl ?_
 refine jl_nil ?_
 refine jT ?_
 refine jc_seq ?_
 refine jc_region ?_
 obtain ⟨bp, hbp1, hbp⟩ := hcf.bn
 refine jl_q rfl rfl (qLd rfl rfl rfl rfl (CM.cj ⟨_, _, _, hbp1, rfl⟩ _)) ?_
 refine jp rfl ?_
 refine jl_h rfl rfl (hCall rfl rfl rfl rfl rfl (by kernel_rfl) (bnode_spec s k _ M hst hk256 hbp)) ?_; rintro _ Mn _ ⟨hMn, _, rfl, ⟨hbn, rfl⟩⟩
 obtain ⟨sl, rfl, hns⟩ := (by unfold BnPost at hbn; rw [hnd] at hbn; exact hbn : ∃ sl, _ ∧ NS Mn sl xs)
 obtain ⟨a, c, ps, rfl, hc, hs, hp, hb⟩ := hns
 simp only [List.nil_append]
 iterate 3 refine jp rfl ?_
 refine jl_h rfl rfl (hAlloc rfl rfl) ?_; rintro _ _ _ ⟨b7, rfl, rfl, rfl⟩
 refine jl_s rfl (hStoreL rfl rfl rfl rfl rfl rfl rfl rfl) ?_; rintro _ _ _ ⟨rfl, rfl⟩
 refine jp rfl ?_
 refine jl_nil ?_
 refine jT ?_
 refine jc_seq ?_
 refine jc_seq ?_
 refine jc_region ?_
 refine jl_q rfl rfl (qFieldAddr rfl rfl rfl rfl rfl) ?_
 refine jl_q rfl rfl (qLd rfl rfl rfl rfl (CJ.loc rfl)) ?_
 refine jl_q rfl rfl (qLen rfl rfl rfl) ?_
 refine jp rfl ?_
 refine jl_nil ?_
 refine jT ?_
 refine jc_block ?_
 refine jc_loopK (α := Nat × Mem × Lc × List It) (fun x => [(1, .pointer (some ⟨c1, 0, none⟩)), (2, .pointer (some ⟨c2, 0, none⟩)), (3, .pointer (some ⟨c3, 0, none⟩)), (4, .pointer (some ⟨c4, 0, none⟩)), (7, .pointer (some ⟨b7, 0, none⟩)), (19, .slice a xs.length c), (20, .int .i64 xs.length), (21, .int .i64 x.1)]) (fun x => x.2.1) (fun x => (b7, .cells [.int .i64 lv, .slice a xs.length c].toArray 66 (0, 0)) :: x.2.2.1) (fun x => x.1 ≤ xs.length ∧ MLe Mn x.2.1 ∧ J x.2.2.2 x.2.1 x.2.2.1 ∧ x.2.2.2 ++ goDown (fun x => downL s q l (kid s x)) q (xs.drop x.1) = pre ++ downL s q (l + 1) xs) (fun x => xs.length - x.1)
  (0, Mn, L0, pre) (Keep.cons (t := 1) rfl (Keep.cons (t := 2) rfl (Keep.cons (t := 3) rfl (Keep.cons (t := 4) rfl (Keep.cons (t := 7) rfl (Keep.cons (t := 19) rfl (Keep.cons (t := 20) rfl (Keep.cons (t := 21) rfl Keep.nil)))))))) ⟨Nat.zero_le _, MLe.refl _, hmono _ _ _ _ hMn hJ0, rfl⟩ (fun _ h => h) ?_
 rintro ⟨j, Mk, Lk, pj⟩ ⟨hj, hMk, hJk, hpj⟩
 try dsimp only at hj hMk hJk hpj ⊢
 refine jc_seq ?_
 refine jc_region ?_
 refine js rfl (fun h22 => ?_) (fun h22 => ?_)
 ·refine jl_nil ?_
  refine jT ?_
  refine jc_seq ?_
  refine jc_yes rfl ?_
  refine jc_skip ?_
  refine jT ?_
  refine jc_seq ?_
  refine jc_block ?_
  refine jc_seq ?_
  refine jc_region ?_
  refine jp rfl ?_
  have hk1 : j < xs.length := by omega
  have hsk := hs.mono hMk
  have hbk := fun p hp => (hb p hp).mono hMk
  obtain ⟨sb, so, e0, hx⟩ := hsk.open (by intro e; have := congrArg List.length e; rw [flat_len icell 5 icell_len, List.length_nil] at this; have h2 := congrArg List.length hp; rw [List.length_map] at h2; omega)
  subst e0
  obtain ⟨va, vc, hcl, hvc, hvs⟩ := items_get hx hp hbk hk1
  have hxr := hno.ref xs[j] (List.getElem_mem hk1)
  have hcek := hcf.mono (hMn.trans hMk)
  refine jl_q rfl rfl (qIdxS rfl rfl rfl rfl (by omega)) ?_
  refine jl_q rfl rfl (qLdA (cs := itc xs[j] va vc) rfl rfl rfl rfl rfl (fun i v hv => (hcl i v hv).cj _)) ?_
  refine jl_h rfl rfl (hAlloc rfl rfl) ?_; rintro _ _ _ ⟨b10, rfl, rfl, rfl⟩
  refine jp rfl ?_
  refine jl_s rfl (hStoreL rfl rfl rfl rfl rfl rfl rfl rfl) ?_; rintro _ _ _ ⟨rfl, rfl⟩
  refine jl_nil ?_
  refine jT ?_
  refine jc_seq ?_
  refine jc_seq ?_
  refine jc_region ?_
  refine jl_q rfl rfl (qFieldAddr rfl rfl rfl rfl rfl) ?_
  refine jl_q rfl rfl (qLd rfl rfl rfl rfl (CJ.loc rfl)) ?_
  refine jf rfl (decide_eq_false (by omega)) ?_
  refine jl_nil ?_
  refine jT ?_
  refine jc_no rfl ?_
  refine jc_skip ?_
  refine jT ?_
  refine jc_seq ?_
  refine jc_draw [(0, true), (1, true), (2, true), (3, true), (4, true), (5, true), (6, true), (7, true), (8, true), (9, true), (10, true), (11, true), (12, true), (13, true), (14, true), (15, true), (16, true), (17, true), (18, true)] _ (by kernel_rfl) (by kernel_rfl) (by kernel_rfl) rfl (fun _ h => h) ?_
  refine dp rfl rfl ?_
  refine da rfl rfl (by omega) ?_
  refine jd_q rfl rfl rfl (qFieldAddr rfl rfl rfl rfl rfl) ?_
  refine jd_q rfl rfl rfl (qLd rfl rfl rfl rfl (CJ.loc rfl)) ?_
  refine jd_q rfl rfl rfl (qLen rfl rfl rfl) ?_
  refine ds rfl rfl (fun h45 => ?_) (fun h45 => ?_)
  ·refine dp rfl rfl ?_
   refine jd_q rfl rfl rfl (qLdA (cs := kcells q) rfl rfl rfl rfl rfl (fun i v hv => CM.cj ⟨_, _, _, hcek.fr, by simpa using hv⟩ _)) ?_
   refine jd_q rfl rfl rfl (qFieldAddr rfl rfl rfl rfl rfl) ?_
   refine jd_q rfl rfl rfl (qLd rfl rfl rfl rfl (CJ.loc rfl)) ?_
   refine dp rfl rfl ?_
   refine da rfl rfl (by omega) ?_
   have hj1 : j + 1 < xs.length := by omega
   obtain ⟨wa, wc, hcj, -, -⟩ := items_get hx hp hbk hj1
   refine jd_q rfl rfl rfl (qEq (qIdxS rfl rfl rfl rfl (by omega)) (v' := .pointer (some ⟨sb, so + (j + 1) * 5, none⟩)) (by congr 3)) ?_
   refine jd_q rfl rfl rfl (qFieldAddr rfl rfl rfl rfl rfl) ?_
   refine jd_q rfl rfl rfl (qLdA (cs := kcells xs[j + 1].key) rfl rfl rfl rfl rfl (fun i v hv => (hcj i v (by match i, hv with | 0, hv => simpa [kcells] using hv | 1, hv => simpa [kcells] using hv | 2, hv => simpa [kcells] using hv | n + 3, hv => simp [kcells] at hv)).cj _)) ?_
   refine jd_qb rfl rfl rfl (qCall rfl rfl rfl rfl rfl (by kernel_rfl) (less_spec q xs[j + 1].key _)) (fun h55 => ?_) (fun h55 => ?_)
   ·iterate 3 refine dp rfl rfl ?_
    refine jd_nil ?_
    refine jPn ?_
    refine jT ?_
    refine jc_seq ?_
    refine jc_region ?_
    iterate 3 refine jp rfl ?_
    refine jl_q rfl rfl (qLd rfl rfl rfl rfl (CM.cj ⟨_, _, _, hcek.cl, rfl⟩ _)) ?_
    refine jl_q rfl rfl (qFieldAddr rfl rfl rfl rfl rfl) ?_
    refine jl_q rfl rfl (qLd rfl rfl rfl rfl (CJ.loc rfl)) ?_
    have hup := hno.up (by omega) xs[j] (List.getElem_mem hk1)
    have hkr : ((xs[j].ref.toNat : Nat) : Int) = xs[j].ref := Int.toNat_of_nonneg (by omega)
    obtain ⟨ys, hyn, hys0, hyt⟩ := tree_child htr (List.getElem_mem hk1)
    have hkid : kid s xs[j] = ys := by unfold kid; rw [hyn]
    have hgd : goDown (fun x => downL s q l (kid s x)) q (xs.drop j) = downL s q l ys ++ goDown (fun x => downL s q l (kid s x)) q (xs.drop (j + 1)) := (goDown_on hj1 h55).trans (by rw [hkid])
    rw [hgd] at hpj
    refine jl_h rfl rfl (hCall rfl rfl rfl rfl rfl (by kernel_rfl) (by have := ih xs[j].ref.toNat ys pj Mk Lk (by omega) hyn hyt (hM0.trans (hMn.trans hMk)) hcek hJk (by rw [← hpj, ← List.append_assoc] at hpre; exact (List.prefix_append _ _).trans hpre); rwa [hkr] at this)) ?_; rintro _ Mf _ ⟨hMf, R', rfl, hy⟩
    rcases hy with ⟨rfl, hy⟩ | ⟨rfl, hy⟩
    ·iterate 2 refine jp rfl ?_
     refine jl_nil ?_
     refine jT ?_
     refine jc_no rfl ?_
     refine jc_skip ?_
     refine jB ?_
     refine jT ?_
     refine jc_region ?_
     refine ja rfl (by omega) ?_
     refine jp rfl ?_
     refine jl_nil ?_
     refine j_again (j + 1, Mf, R', pj ++ downL s q l ys) (Keep.cons (t := 1) rfl (Keep.cons (t := 2) rfl (Keep.cons (t := 3) rfl (Keep.cons (t := 4) rfl (Keep.cons (t := 7) rfl (Keep.cons (t := 19) rfl (Keep.cons (t := 20) rfl (Keep.cons (t := 21) rfl Keep.nil)))))))) ⟨by show j + 1 ≤ xs.length; omega, hMk.trans hMf, hy, ?_⟩ (by show xs.length - (j + 1) < xs.length - j; omega) (fun w h => (h.perm List.perm_append_comm).fewer (by simp))
     show _ ++ goDown (fun x => downL s q l (kid s x)) q (xs.drop (j + 1)) = _
     rw [← hpj, List.append_assoc]
    ·iterate 2 refine jp rfl ?_
     refine jl_nil ?_
     refine jT ?_
     refine jc_yes rfl ?_
     refine jc_seq ?_
     refine jc_region ?_
     refine jp rfl ?_
     refine jl_nil ?_
     refine jT ?_
     refine jc_ret ?_
     refine jBr ?_
     refine jTr ?_
     refine jTr ?_
     refine jBr ?_
     refine jTr ?_
     refine jq_drop (L' := R') (by simp) ?_
     refine jr1 rfl rfl ?_
     exact .inr ⟨rfl, hy⟩
   ·iterate 3 refine dp rfl rfl ?_
    refine jd_nil ?_
    refine jPn ?_
    refine jT ?_
    refine jc_seq ?_
    refine jc_region ?_
    iterate 9 refine jp rfl ?_
    refine jl_nil ?_
    refine jT ?_
    refine jc_no rfl ?_
    refine jc_skip ?_
    refine jB ?_
    refine jT ?_
    refine jc_region ?_
    refine ja rfl (by omega) ?_
    refine jp rfl ?_
    refine jl_nil ?_
    refine j_again (j + 1, Mk, Lk, pj) (Keep.cons (t := 1) rfl (Keep.cons (t := 2) rfl (Keep.cons (t := 3) rfl (Keep.cons (t := 4) rfl (Keep.cons (t := 7) rfl (Keep.cons (t := 19) rfl (Keep.cons (t := 20) rfl (Keep.cons (t := 21) rfl Keep.nil)))))))) ⟨by show j + 1 ≤ xs.length; omega, hMk, hJk, ?_⟩ (by show xs.length - (j + 1) < xs.length - j; omega) (fun w h => h.fewer (by simp))
    show _ ++ goDown (fun x => downL s q l (kid s x)) q (xs.drop (j + 1)) = _
    rw [← hpj, goDown_off hj1 h55]
  ·iterate 13 refine dp rfl rfl ?_
   refine jd_nil ?_
   refine jPn ?_
   refine jT ?_
   refine jc_seq ?_
   refine jc_region ?_
   iterate 3 refine jp rfl ?_
   refine jl_q rfl rfl (qLd rfl rfl rfl rfl (CM.cj ⟨_, _, _, hcek.cl, rfl⟩ _)) ?_
   refine jl_q rfl rfl (qFieldAddr rfl rfl rfl rfl rfl) ?_
   refine jl_q rfl rfl (qLd rfl rfl rfl rfl (CJ.loc rfl)) ?_
   have hup := hno.up (by omega) xs[j] (List.getElem_mem hk1)
   have hkr : ((xs[j].ref.toNat : Nat) : Int) = xs[j].ref := Int.toNat_of_nonneg (by omega)
   obtain ⟨ys, hyn, hys0, hyt⟩ := tree_child htr (List.getElem_mem hk1)
   have hkid : kid s xs[j] = ys := by unfold kid; rw [hyn]
   have hgd : goDown (fun x => downL s q l (kid s x)) q (xs.drop j) = downL s q l ys ++ goDown (fun x => downL s q l (kid s x)) q (xs.drop (j + 1)) := (goDown_last hk1 (by omega)).trans (by rw [hkid])
   rw [hgd] at hpj
   refine jl_h rfl rfl (hCall rfl rfl rfl rfl rfl (by kernel_rfl) (by have := ih xs[j].ref.toNat ys pj Mk Lk (by omega) hyn hyt (hM0.trans (hMn.trans hMk)) hcek hJk (by rw [← hpj, ← List.append_assoc] at hpre; exact (List.prefix_append _ _).trans hpre); rwa [hkr] at this)) ?_; rintro _ Mf _ ⟨hMf, R', rfl, hy⟩
   rcases hy with ⟨rfl, hy⟩ | ⟨rfl, hy⟩
   ·iterate 2 refine jp rfl ?_
    refine jl_nil ?_
    refine jT ?_
    refine jc_no rfl ?_
    refine jc_skip ?_
    refine jB ?_
    refine jT ?_
    refine jc_region ?_
    refine ja rfl (by omega) ?_
    refine jp rfl ?_
    refine jl_nil ?_
    refine j_again (j + 1, Mf, R', pj ++ downL s q l ys) (Keep.cons (t := 1) rfl (Keep.cons (t := 2) rfl (Keep.cons (t := 3) rfl (Keep.cons (t := 4) rfl (Keep.cons (t := 7) rfl (Keep.cons (t := 19) rfl (Keep.cons (t := 20) rfl (Keep.cons (t := 21) rfl Keep.nil)))))))) ⟨by show j + 1 ≤ xs.length; omega, hMk.trans hMf, hy, ?_⟩ (by show xs.length - (j + 1) < xs.length - j; omega) (fun w h => (h.perm List.perm_append_comm).fewer (by simp))
    show _ ++ goDown (fun x => downL s q l (kid s x)) q (xs.drop (j + 1)) = _
    rw [← hpj, List.append_assoc]
   ·iterate 2 refine jp rfl ?_
    refine jl_nil ?_
    refine jT ?_
    refine jc_yes rfl ?_
    refine jc_seq ?_
    refine jc_region ?_
    refine jp rfl ?_
    refine jl_nil ?_
    refine jT ?_
    refine jc_ret ?_
    refine jBr ?_
    refine jTr ?_
    refine jTr ?_
    refine jBr ?_
    refine jTr ?_
    refine jq_drop (L' := R') (by simp) ?_
    refine jr1 rfl rfl ?_
    exact .inr ⟨rfl, hy⟩
 ·refine jl_nil ?_
  refine jT ?_
  refine jc_seq ?_
  refine jc_no rfl ?_
  refine jc_exit ?_
  refine jTx ?_
  refine jTx ?_
  refine jBx ?_
  refine jT ?_
  refine jc_seq ?_
  refine jc_region ?_
  refine jp rfl ?_
  refine jl_nil ?_
  refine jT ?_
  refine jc_ret ?_
  refine jq_drop (L' := Lk) (by simp) ?_
  refine jr1 rfl rfl ?_
  obtain rfl : j = xs.length := by omega
  rw [List.drop_eq_nil_of_le (Nat.le_refl _), goDown, List.append_nil] at hpj
  exact .inl ⟨rfl, hpj ▸ hJk⟩


theorem down_spec (s : Sto) (hst : stOk s) (q : Ky) (lid c1 c2 c3 c4 : Nat) (all : List It) (J Jx : List It → Mem → Lc → Prop) (M0 : Mem) (hmono : ∀ pre M2 M3 L2, MLe M2 M3 → J pre M2 L2 → J pre M3 L2) (hJ : ∀ pre y M2 L2 vs, MLe M0 M2 → J pre M2 L2 → pre ++ [y] <+: all → KEn y M2 vs → RoundL Tryz.prog lid vs.toArray M2 L2 fun v M' L' => (v = .bool true ∧ J (pre ++ [y]) M' L') ∨ (v = .bool false ∧ Jx (pre ++ [y]) M' L')) : ∀ lev, DownS Tryz.prog s q lid c1 c2 c3 c4 all J Jx M0 lev
 | 0 => fun k xs pre M L hk hnd htr hM0 hcf hJ0 hpre => down_leaf s hst q lid c1 c2 c3 c4 all J Jx M0 hmono hJ k xs pre M L hk hnd htr hM0 hcf hJ0 hpre
 | l + 1 => fun k xs pre M L hk hnd htr hM0 hcf hJ0 hpre => down_node s hst q lid c1 c2 c3 c4 all J Jx M0 hmono hJ l ((l + 1 : Nat) : Int) (by omega) (down_spec s hst q lid c1 c2 c3 c4 all J Jx M0 hmono hJ l) k xs pre M L hk hnd htr hM0 hcf hJ0 hpre

theorem items_body (s : Sto) (hst : stOk s) (q : Ky) (k lev : Nat) (xs : List It) (hk256 : k < 256) (hnd : ndAt s k = some ((lev : Int), xs)) (htr : treeOk s lev xs) (d1 d2 d3 : Nat) (v1 : Value) (M : Mem) (bv wv nv lv : Value) (hd1 : M d1 = some (.cells [bv, wv, nv, lv].toArray 28 (0, 0))) (hST : ST M (.agg [bv, wv, nv, lv].toArray) s) (hd2 : M d2 = some (.cells (kcells q).toArray 31 (0, 0))) (hd3 : M d3 = some (.cells [.int .i64 (k : Int)].toArray 3 (0, 0))) (lid : Nat) (J Jx : List It → Mem → Lc → Prop) (M1 : Mem) (L0 : Lc) (hM : MLe M M1) (hmono : ∀ pre M2 M3 L2, MLe M2 M3 → J pre M2 L2 → J pre M3 L2) (hJ : ∀ pre y M2 L2 vs, MLe M1 M2 → J pre M2 L2 → pre ++ [y] <+: downL s q lev xs → KEn y M2 vs → RoundL Tryz.prog lid vs.toArray M2 L2 fun v M' L' => (v = .bool true ∧ J (pre ++ [y]) M' L') ∨ (v = .bool false ∧ Jx (pre ++ [y]) M' L')) (h0 : J [] M1 L0) :
  SpecL Tryz.prog 30 #[.func (.yield lid) #[] #[], .pointer (some ⟨d1, 0, none⟩), .pointer (some ⟨d2, 0, none⟩), .pointer (some ⟨d3, 0, none⟩)] M1 L0 fun _ M' L' => J (downL s q lev xs) M' L' ∨ ∃ pre, pre <+: downL s q lev xs ∧ Jx pre M' L' := by
 refine spec_body (vs := [_, _, _, _]) 13 _ Tryz.func30 rfl Tryz.ntmps30 rfl rfl ?_; intro W
 refine jc_seq ?_
 refine jc_region ?_
 refine jl_h rfl rfl (hBox (cs := [.func (.yield lid) #[] #[]]) rfl rfl rfl rfl) ?_; rintro _ _ _ ⟨b4, rfl, rfl, rfl⟩
 refine jl_nil ?_
 refine jT ?_
 refine jc_seq ?_
 refine jc_region ?_
 obtain ⟨⟨_, hw4, _, _⟩, ⟨hn256, _⟩, _⟩ := id hst
 refine jl_q rfl rfl (qLdA (cs := [bv, wv, nv, lv]) rfl rfl rfl rfl rfl (fun i v hv => CM.cj ⟨_, _, _, hM _ _ hd1, by simpa using hv⟩ _)) ?_
 refine jl_h rfl rfl (hCall rfl rfl rfl rfl rfl (by kernel_rfl) (on_spec s _ M1 (hST.mono hM) (by omega) (by omega))) ?_; rintro _ M1n _ ⟨hM1n, _, rfl, ⟨hbn0, rfl⟩⟩
 have hbn1 := hbn0 M1n (MLe.refl _) hM1n
 obtain ⟨pb, _, _, _, _, rfl, _⟩ := id hbn1.ex
 simp only [List.nil_append]
 refine jl_h rfl rfl (hAlloc rfl rfl) ?_; rintro _ _ _ ⟨b5, rfl, rfl, rfl⟩
 refine jl_s rfl (hStoreL rfl rfl rfl rfl rfl rfl rfl rfl) ?_; rintro _ _ _ ⟨rfl, rfl⟩
 refine jl_nil ?_
 refine jT ?_
 refine jc_seq ?_
 refine jc_region ?_
 refine jl_h rfl rfl (hAlloc rfl rfl) ?_; rintro _ _ _ ⟨b6, rfl, rfl, rfl⟩
 refine jl_nil ?_
 refine jT ?_
 refine jc_seq ?_
 refine jc_region ?_
 refine jp rfl ?_
 refine jl_s rfl (hStoreL rfl rfl rfl rfl rfl rfl rfl rfl) ?_; rintro _ _ _ ⟨rfl, rfl⟩
 refine jl_nil ?_
 refine jT ?_
 refine jc_region ?_
 refine jl_freezeX b4 (by simp +contextual) ?_
 intro M3 hM3 e4
 refine jl_freezeX b5 (by simp +contextual) ?_
 intro M4 hM4 e5
 refine jl_freezeX b6 (by simp +contextual) ?_
 intro M5 hM5 e6
 have hM15 := hM1n.trans (hM3.trans (hM4.trans hM5))
 have hcf : CF M5 s q lid b5 d2 b4 b6 := ⟨⟨pb, hM5 _ _ e5, hbn1.mono (hM3.trans (hM4.trans hM5))⟩, hM15 _ _ (hM _ _ hd2), hM5 _ _ (hM4 _ _ e4), e6⟩
 refine jl_q rfl rfl (qLd rfl rfl rfl rfl (CM.cj ⟨_, _, _, e6, rfl⟩ _)) ?_
 refine jl_q rfl rfl (qLd rfl rfl rfl rfl (CM.cj ⟨_, _, _, hM15 _ _ (hM _ _ hd3), rfl⟩ _)) ?_
 refine jl_h rfl rfl (hCall rfl rfl rfl rfl rfl (by kernel_rfl) (down_spec s hst q lid b5 d2 b4 b6 (downL s q lev xs) J Jx M1 hmono hJ lev k xs [] M5 L0 hk256 hnd htr hM15 hcf (hmono _ _ _ _ hM15 h0) (by rw [List.nil_append]; exact List.prefix_rfl))) ?_; rintro _ Mf _ ⟨hMf, R', rfl, hy⟩
 refine jl_nil ?_
 refine jrn ?_
 refine jq_drop (L' := R') (by simp) ?_
 refine jrs (rs := []) rfl .nil ?_
 exact hy.imp (fun h => by simpa using h.2) (fun h => h.2)

end Go.Proofs.YtkjghgndmpbfiaaGreat
namespace Go.Proofs.YtkjghgndmpbfiaaGreat
set_option linter.unusedVariables false
set_option linter.unusedSimpArgs false
open Go.RowKit

theorem fchk_ok {s : Sto} {root : Int} (h : (fchk s root).2 = 0) : stOk s ∧ 8 ≤ root ∧ root < 256 ∧ ¬ s.now.getD root.toNat 0 = 0 ∧ ∃ (lev : Nat) (xs : List It), ndAt s root.toNat = some ((lev : Int), xs) ∧ treeOk s lev xs ∧ (fchk s root).1 = lev + 1 := by
 by_cases h1 : stOk s
 ·by_cases h2 : root < 8 ∨ 256 ≤ root
  ·exfalso; unfold fchk at h; rw [if_pos h1, if_pos h2] at h; cases h
  ·by_cases h3 : s.now.getD root.toNat 0 = 0
   ·exfalso; unfold fchk at h; rw [if_pos h1, if_neg h2, if_pos h3] at h; cases h
   ·rw [fchk_nd h1 h2 h3] at h
    split at h
    ·cases h
    ·rename_i lv xs hnd
     have hlv := (ndAt_ok hnd).lev
     split at h
     ·rename_i ht
      refine ⟨h1, by omega, by omega, h3, lv.toNat, xs, by rw [hnd, Int.toNat_of_nonneg hlv.1], ht, ?_⟩
      rw [fchk_nd h1 h2 h3, hnd]
      show (if treeOk s lv.toNat xs then (lv + 1, 0) else (0, 8) : Int × Int).1 = _
      rw [if_pos ht, Int.toNat_of_nonneg hlv.1]
     ·cases h
 ·exfalso; unfold fchk at h; rw [if_neg h1] at h; cases h
theorem kid_len (s : Sto) (x : It) : (kid s x).length ≤ 5 := by
 unfold kid
 split
 ·rename_i h; exact (ndAt_ok h).len
 ·exact Nat.zero_le _
theorem goDown_len {f : It → List It} {q : Ky} {m : Nat} (h : ∀ x, (f x).length ≤ m) : ∀ xs, (goDown f q xs).length ≤ m * xs.length
 | [] => by simp [goDown]
 | x :: xs => by
  have hx := h x
  obtain ⟨g, e, hg⟩ : ∃ g, goDown f q (x :: xs) = g ++ goDown f q xs ∧ g.length ≤ m := by
   cases xs with
   | nil => exact ⟨f x, rfl, hx⟩
   | cons y ys =>
    refine ⟨if kless q y.key then f x else [], rfl, ?_⟩
    split
    ·exact hx
    ·exact Nat.zero_le _
  have ih := goDown_len h xs (q := q)
  rw [e, List.length_append, List.length_cons, Nat.mul_add, Nat.mul_one]
  omega
theorem downL_len (s : Sto) (q : Ky) : ∀ (l : Nat) (xs : List It), (downL s q l xs).length ≤ 5 ^ l * xs.length
 | 0, xs => by rw [downL, Nat.pow_zero, Nat.one_mul]; exact List.length_filter_le _ _
 | l + 1, xs => by
  rw [downL, Nat.pow_succ]
  refine goDown_len (fun x => Nat.le_trans (downL_len s q l _) (Nat.mul_le_mul_left _ (kid_len s x))) xs
theorem downL_small {s : Sto} {q : Ky} {l : Nat} {xs : List It} (hl : l < 6) (hx : xs.length ≤ 5) : (downL s q l xs).length ≤ 15625 := by
 refine Nat.le_trans (downL_len s q l xs) ?_
 have : 5 ^ l ≤ 5 ^ 5 := Nat.pow_le_pow_right (by omega) (by omega)
 exact Nat.le_trans (Nat.mul_le_mul this hx) (by decide)

theorem items_walk (bv wv nv lv : Value) (q : Ky) (root : Int) (M : Mem) :
  SpecL Tryz.prog 16 #[.agg #[bv, wv, nv, lv], .int .i64 root, .agg (kcells q).toArray] M [] fun u M' L' => (∃ d1 d2 d3, u = .func (.func 30) #[] #[.pointer (some ⟨d1, 0, none⟩), .pointer (some ⟨d2, 0, none⟩), .pointer (some ⟨d3, 0, none⟩)] ∧ M' d1 = some (.cells [bv, wv, nv, lv].toArray 28 (0, 0)) ∧ M' d2 = some (.cells (kcells q).toArray 31 (0, 0)) ∧ M' d3 = some (.cells [.int .i64 root].toArray 3 (0, 0))) ∧ L' = [] := by
 refine spec_body (vs := [_, _, _]) 8 _ Tryz.func16 rfl Tryz.ntmps16 rfl rfl ?_; intro W
 refine jc_seq ?_
 refine jc_region ?_
 refine jl_h rfl rfl (hBox (cs := [_, _, _, _]) rfl rfl rfl rfl) ?_; rintro _ _ _ ⟨b3, rfl, rfl, rfl⟩
 refine jl_h rfl rfl (hBox (cs := [.int .i64 root]) rfl rfl rfl rfl) ?_; rintro _ _ _ ⟨b4, rfl, rfl, rfl⟩
 refine jl_h rfl rfl (hBox (cs := [_, _, _]) rfl rfl rfl rfl) ?_; rintro _ _ _ ⟨b5, rfl, rfl, rfl⟩
 refine jp rfl ?_
 refine jl_nil ?_
 refine jT ?_
 refine jc_seq ?_
 refine jc_region ?_
 iterate 2 refine jp rfl ?_
 refine jl_nil ?_
 refine jT ?_
 refine jc_ret ?_
 refine jq_freeze b3 (by simp) ?_
 intro M2 hM2 e3
 refine jq_freeze b4 (by simp) ?_
 intro M3 hM3 e4
 refine jq_freeze b5 (by simp) ?_
 intro M4 hM4 e5
 refine jr1 rfl rfl ?_
 exact ⟨⟨b3, b5, b4, rfl, hM4 _ _ (hM3 _ _ e3), e5, hM4 _ _ e4⟩, rfl⟩


/-- what walk.Range tells -/
def rng (s : Sto) (root : Int) (a b : Ky) : List It := match ndAt s root.toNat with
 | some (lv, xs) => (downL s a lv.toNat xs).takeWhile fun x => !kless b x.key
 | none => []
theorem take_all {α : Type} {p : α → Bool} {xs : List α} (h : ∀ x ∈ xs, p x = true) : xs.takeWhile p = xs := by
 induction xs with
 | nil => rfl
 | cons x xs ih => rw [List.takeWhile_cons_of_pos (h x (by simp)), ih (fun y hy => h y (by simp [hy]))]
theorem take_stop {α : Type} {p : α → Bool} {pre r : List α} {y : α} (h : ∀ x ∈ pre, p x = true) (hy : p y = false) : (pre ++ y :: r).takeWhile p = pre := by
 induction pre with
 | nil => rw [List.nil_append, List.takeWhile_cons_of_neg (by simp [hy])]
 | cons x xs ih => rw [List.cons_append, List.takeWhile_cons_of_pos (h x (by simp)), ih (fun y hy => h y (by simp [hy]))]
abbrev ITS : TypeId := 34
/-- the list as it grows -/
def RI (b8 : Nat) (to : Ky) (pre : List It) (M' : Mem) (R : Lc) : Prop := ∃ v Rs, ∃ ps : List (It × Value), R = (b8, .cells [v].toArray ITS (0, 0)) :: Rs ∧ Own v Rs IT 5 ps.length (ps.flatMap icell) ∧ ps.map (·.1) = pre ∧ (∀ p ∈ ps, BS M' p.2 p.1.val) ∧ ∀ x ∈ pre, (!kless to x.key) = true

set_option maxHeartbeats 2000000 in
theorem range_walk (s : Sto) (root : Int) (a b : Ky) (bv wv nv lv : Value) (M : Mem) (h1 : LS M bv s.blocks) (h2 : WS M wv s.waits) (h3 : BS M nv s.now) (h4 : BS M lv s.last) :
  SpecL Tryz.prog 6 #[.agg #[bv, wv, nv, lv], .int .i64 root, .agg (kcells a).toArray, .agg (kcells b).toArray] M [] fun u M' L' => (∃ v, u = .tuple #[v, .int .i64 (fchk s root).2] ∧ NS M' v (if (fchk s root).2 = 0 then rng s root a b else [])) ∧ L' = [] := by
 have hST : ST M (.agg #[bv, wv, nv, lv]) s := ⟨_, _, _, _, rfl, h1, h2, h3, h4⟩
 refine spec_body (vs := [_, _, _, _]) 36 _ Tryz.func6 rfl Tryz.ntmps6 rfl rfl ?_; intro W
 refine jc_seq ?_
 refine jc_region ?_
 refine jl_h rfl rfl (hBox (cs := [_, _, _, _]) rfl rfl rfl rfl) ?_; rintro _ _ _ ⟨b4, rfl, rfl, rfl⟩
 refine jl_h rfl rfl (hBox (cs := [_, _, _]) rfl rfl rfl rfl) ?_; rintro _ _ _ ⟨b6, rfl, rfl, rfl⟩
 refine jl_h rfl rfl (hBox (cs := [_, _, _]) rfl rfl rfl rfl) ?_; rintro _ _ _ ⟨b7, rfl, rfl, rfl⟩
 refine jl_h rfl rfl (hAlloc rfl rfl) ?_; rintro _ _ _ ⟨b8, rfl, rfl, rfl⟩
 refine jp rfl ?_
 refine jl_nil ?_
 refine jT ?_
 refine jc_seq ?_
 refine jc_seq ?_
 refine jc_region ?_
 refine jl_q rfl rfl (qLdL rfl rfl rfl rfl rfl) ?_
 refine jp rfl ?_
 refine jl_q rfl rfl (qCall rfl rfl rfl rfl rfl (by kernel_rfl) (fcheck_walk s root bv wv nv lv M h1 h2 h3 h4)) ?_
 iterate 5 refine jp rfl ?_
 refine jl_nil ?_
 refine jT ?_
 refine jc_seq ?_
 refine jc_region ?_
 refine jp rfl ?_
 refine js rfl (fun h20 => ?_) (fun h20 => ?_)
 ·refine jl_nil ?_
  refine jT ?_
  refine jc_yes rfl ?_
  refine jc_seq ?_
  refine jc_region ?_
  refine jp rfl ?_
  refine jl_s rfl (hStoreL rfl rfl rfl rfl rfl rfl rfl rfl) ?_; rintro _ _ _ ⟨rfl, rfl⟩
  refine jp rfl ?_
  refine jl_nil ?_
  refine jT ?_
  refine jc_ret ?_
  refine jTr ?_
  refine jrsd (rs := [_, _]) ([]) (by simp) rfl (.cons (.one rfl rfl rfl) (.cons (.tmp rfl) .nil)) ?_
  exact ⟨⟨_, rfl, by rw [if_neg h20]; exact NS.nil⟩, rfl⟩
 ·refine jl_nil ?_
  refine jT ?_
  refine jc_no rfl ?_
  refine jc_skip ?_
  refine jT ?_
  refine jc_seq ?_
  refine jc_seq ?_
  refine jc_region ?_
  refine jl_q rfl rfl (qLdL rfl rfl rfl rfl rfl) ?_
  refine jp rfl ?_
  refine jl_q rfl rfl (qLdL rfl rfl rfl rfl rfl) ?_
  obtain ⟨hst, hr8, hr256, hnz, lev, xs, hnd, htr, hfl⟩ := fchk_ok (Classical.not_not.1 h20)
  have hno := ndAt_ok hnd
  have hlv := hno.lev
  have hsm := downL_small (s := s) (q := a) (l := lev) (by omega) hno.len
  obtain ⟨k, rfl⟩ : ∃ k : Nat, root = k := ⟨root.toNat, by omega⟩
  rw [Int.toNat_natCast] at hnd
  have hrng : rng s (k : Int) a b = (downL s a lev xs).takeWhile fun x => !kless b x.key := by unfold rng; rw [Int.toNat_natCast, hnd]; rfl
  obtain ⟨all, hall⟩ : ∃ all, all = downL s a lev xs := ⟨_, rfl⟩
  rw [← hall] at hsm
  refine jl_h rfl rfl (hCall rfl rfl rfl rfl rfl (by kernel_rfl) (items_walk bv wv nv lv a (k : Int) M)) ?_; rintro _ M1 _ ⟨hM1, _, rfl, ⟨⟨d1, d2, d3, rfl, hd1, hd2, hd3⟩, rfl⟩⟩
  refine jl_nil ?_
  refine jT ?_
  refine jc_block ?_
  refine jc_freeze b7 (by simp) ?_
  intro M1f hM1f e7
  replace hM1 := hM1.trans hM1f
  refine jc_rangeR (R := [(b8, .cells [.slice none 0 0].toArray ITS (0, 0))]) (xs := all) (En := KEn) (ps := [26]) rfl (by kernel_rfl) (b := true) (lb := [.pointer (some ⟨d1, 0, none⟩), .pointer (some ⟨d2, 0, none⟩), .pointer (some ⟨d3, 0, none⟩)]) (fun l J Jx M2 L2 hM2 hmono hJ h0 => by rw [hall] at hJ ⊢; exact items_body s hst a k lev xs (by omega) hnd htr d1 d2 d3 (.nilFunc) M1f bv wv nv lv (hM1f _ _ hd1) (hST.mono hM1) (hM1f _ _ hd2) (hM1f _ _ hd3) l J Jx M2 L2 hM2 (hmono rfl) hJ h0)
   (RI b8 b)
   (fun c pre' M' R => c = .exit 0 ∧ ∃ pre y, pre' = pre ++ [y] ∧ RI b8 b pre M' R ∧ kless b y.key = true)
   (fun y _ vs ⟨va, vc, e, _⟩ => by rw [e]; rfl) (by decide) ⟨_, [], [], rfl, Own.nil _ _, rfl, (fun _ h => by cases h), (fun _ h => by cases h)⟩ (fun _ pre M2 M3 R hM ⟨v, Rs, ps, q1, q2, q3, q4, q5⟩ => ⟨v, Rs, ps, q1, q2, q3, fun p hp => (q4 p hp).mono hM, q5⟩) ?_ ?_ ?_
  ·intro l W2 pre y M2 R2 vs hM2 hI hpre hE
   obtain ⟨v, Rs, ps, rfl, hown, hpm, hpb, hpl⟩ := hI
   obtain ⟨oa, oc, rfl⟩ := hown.form
   obtain ⟨va, vc, rfl, hyc, hys⟩ := hE
   refine jc_region ?_
   refine jl_h rfl rfl (hAlloc rfl rfl) ?_; rintro _ _ _ ⟨b12, rfl, rfl, rfl⟩
   refine jl_s rfl (hStoreL rfl rfl rfl rfl rfl rfl rfl rfl) ?_; rintro _ _ _ ⟨rfl, rfl⟩
   refine jl_nil ?_
   refine jK fun W' => ?_
   refine jc_block ?_
   refine jc_seq ?_
   refine jc_seq ?_
   refine jc_region ?_
   refine jl_q rfl rfl (qLdA (cs := kcells b) rfl rfl rfl rfl rfl (fun i v hv => CM.cj ⟨_, _, _, hM2 _ _ e7, by simpa [kcells] using hv⟩ _)) ?_
   refine jl_q rfl rfl (qFieldAddr rfl rfl rfl rfl rfl) ?_
   refine jl_q rfl rfl (qLdL rfl rfl rfl rfl rfl) ?_
   refine jl_qb rfl rfl (qCall rfl rfl rfl rfl rfl (by kernel_rfl) (less_spec b y.key M2)) (fun h30 => ?_) (fun h30 => ?_)
   ·refine jl_nil ?_
    refine jT ?_
    refine jc_yes rfl ?_
    refine jc_exit ?_
    refine jTx ?_
    refine jBo rfl ?_
    refine jq_drop (L' := (b8, .cells [.slice oa ps.length oc].toArray ITS (0, 0)) :: Rs) (by simp) ?_
    refine jQx ?_
    exact ⟨rfl, pre, y, rfl, ⟨_, Rs, ps, rfl, hown, hpm, hpb, hpl⟩, h30⟩
   ·refine jl_nil ?_
    refine jT ?_
    refine jc_no rfl ?_
    refine jc_skip ?_
    refine jT ?_
    refine jc_region ?_
    refine jl_q rfl rfl (qLd rfl rfl rfl rfl (CJ.loc rfl)) ?_
    refine jl_q rfl rfl (qLdL rfl rfl rfl rfl rfl) ?_
    refine jl_h rfl rfl (hBuildSlice (cs := [_, _, _, _, _]) rfl rfl rfl (by rfl) (by rfl) (by rfl)) ?_; rintro _ _ _ ⟨b33, rfl, rfl, rfl⟩
    refine jl_h rfl rfl (hAppend (R := Rs) (m := 1) rfl rfl rfl rfl hown rfl (fun i v hv => CJ.loc (by simpa using hv)) rfl (by rfl) (by simp [Value.oneCell']) (by have := hpre.length_le; rw [List.length_append, List.length_singleton] at this; have h5 := congrArg List.length hpm; rw [List.length_map] at h5; omega) (by omega)) ?_; rintro s' _ _ ⟨rfl, R', rfl, hown', _⟩
    obtain ⟨a2, c2, rfl⟩ := hown'.form
    refine jl_s rfl (hStoreL rfl rfl rfl rfl rfl rfl rfl rfl) ?_; rintro _ _ _ ⟨rfl, rfl⟩
    refine jl_nil ?_
    refine jB ?_
    refine jq_weak (L' := (b8, .cells [.slice a2 (ps.length + 1) c2].toArray ITS (0, 0)) :: R') (fun w h => (h.perm List.perm_append_comm).fewer (.cons _ (.cons _ (.refl _)))) ?_
    refine jQn ?_
    refine ⟨_, R', ps ++ [(y, .slice va y.val.length vc)], rfl, ?_, by rw [List.map_append, hpm]; rfl, ?_, ?_⟩
    ·rw [List.length_append, List.flatMap_append]; simpa [icell] using hown'
    ·intro p hp; rcases List.mem_append.1 hp with hp | hp
     ·exact hpb p hp
     ·rw [List.mem_singleton.1 hp]; exact ⟨va, vc, rfl, hyc, hys⟩
    ·intro x hx; rcases List.mem_append.1 hx with hx | hx
     ·exact hpl x hx
     ·rw [List.mem_singleton.1 hx, h30]; rfl
  ·intro d M2 R2 hM2 hI
   obtain ⟨v, Rs, ps, rfl, hown, hpm, hpb, hpl⟩ := hI
   obtain ⟨oa, oc, rfl⟩ := hown.form
   simp only [List.cons_append, List.nil_append]
   refine jB ?_
   refine jT ?_
   refine jc_seq ?_
   refine jc_region ?_
   refine jl_q rfl rfl (qLd rfl rfl rfl rfl (CJ.loc rfl)) ?_
   refine jl_s rfl (hStoreL rfl rfl rfl rfl rfl rfl rfl rfl) ?_; rintro _ _ _ ⟨rfl, rfl⟩
   refine jp rfl ?_
   refine jl_nil ?_
   refine jT ?_
   refine jc_ret ?_
   refine jr_mark (L2 := _) Rm.perm ?_
   refine jq_own hown (by simp) ?_
   intro M9 a9 c9 hM9 e9 hc9 hs9; cases e9
   refine jrsd (rs := [_, _]) ([]) (by simp) rfl (.cons (.one rfl rfl rfl) (.cons (.tmp rfl) .nil)) ?_
   refine ⟨⟨_, congrArg (fun e => Value.tuple #[_, Value.int .i64 e]) (Classical.not_not.1 h20).symm, ?_⟩, rfl⟩
   rw [if_pos (Classical.not_not.1 h20), hrng, ← hall, take_all hpl]
   exact ⟨_, _, ps, by rw [← hpm, List.length_map], by rw [← hpm, List.length_map]; exact hc9, hs9, hpm, fun p hp => (hpb p hp).mono hM9⟩
  ·intro d c pre M2 R2 hM2 hpre hI
   obtain ⟨rfl, pre, y, rfl, hI, hy⟩ := hI
   obtain ⟨v, Rs, ps, rfl, hown, hpm, hpb, hpl⟩ := hI
   obtain ⟨oa, oc, rfl⟩ := hown.form
   simp only [List.cons_append, List.nil_append]
   refine jc_exit ?_
   refine jBx ?_
   refine jT ?_
   refine jc_seq ?_
   refine jc_region ?_
   refine jl_q rfl rfl (qLd rfl rfl rfl rfl (CJ.loc rfl)) ?_
   refine jl_s rfl (hStoreL rfl rfl rfl rfl rfl rfl rfl rfl) ?_; rintro _ _ _ ⟨rfl, rfl⟩
   refine jp rfl ?_
   refine jl_nil ?_
   refine jT ?_
   refine jc_ret ?_
   refine jr_mark (L2 := _) Rm.perm ?_
   refine jq_own hown (by simp) ?_
   intro M9 a9 c9 hM9 e9 hc9 hs9; cases e9
   refine jrsd (rs := [_, _]) ([]) (by simp) rfl (.cons (.one rfl rfl rfl) (.cons (.tmp rfl) .nil)) ?_
   refine ⟨⟨_, congrArg (fun e => Value.tuple #[_, Value.int .i64 e]) (Classical.not_not.1 h20).symm, ?_⟩, rfl⟩
   obtain ⟨r, hr⟩ := hpre
   rw [if_pos (Classical.not_not.1 h20), hrng, ← hall, ← hr, List.append_assoc, List.singleton_append, take_stop hpl (by rw [hy]; rfl)]
   exact ⟨_, _, ps, by rw [← hpm, List.length_map], by rw [← hpm, List.length_map]; exact hc9, hs9, hpm, fun p hp => (hpb p hp).mono hM9⟩


theorem range_spec (s : Sto) (v : Value) (root : Int) (a b : Ky) (M : Mem) (h : ST M v s) : SpecL Tryz.prog 6 #[v, .int .i64 root, .agg (kcells a).toArray, .agg (kcells b).toArray] M [] fun u M' L' => (∃ v, u = .tuple #[v, .int .i64 (fchk s root).2] ∧ NS M' v (if (fchk s root).2 = 0 then rng s root a b else [])) ∧ L' = [] := by
 obtain ⟨bv, wv, nv, lv, rfl, h1, h2, h3, h4⟩ := h.ex
 exact range_walk s root a b bv wv nv lv M h1 h2 h3 h4
theorem fcheck_spec (s : Sto) (v : Value) (root : Int) (M : Mem) (h : ST M v s) : SpecL Tryz.prog 15 #[v, .int .i64 root] M [] fun u _ _ => u = .tuple #[.int .i64 (fchk s root).1, .int .i64 (fchk s root).2] := by
 obtain ⟨bv, wv, nv, lv, rfl, h1, h2, h3, h4⟩ := h.ex
 exact fcheck_walk s root bv wv nv lv M h1 h2 h3 h4

/-! ### find.Find -/
def nextIt (xs : List It) (q : Ky) : Option It := if isAt xs q then xs[place xs q]? else if place xs q = 0 then none else xs[place xs q - 1]?
def findIn (s : Sto) (q : Ky) : Nat → List It → Option It
 | 0, xs => if isAt xs q then xs[place xs q]? else none
 | l + 1, xs => match nextIt xs q with | some x => findIn s q l (kid s x) | none => none
def fnd (s : Sto) (root : Int) (q : Ky) : Option It := match ndAt s root.toNat with | some (lv, xs) => findIn s q lv.toNat xs | none => none
def FdPost (s : Sto) (root : Int) (q : Ky) (u : Value) (M' : Mem) : Prop := if (fchk s root).2 = 0 then
  match fnd s root q with
  | some x => ∃ va vc, u = .tuple #[.agg (itc x va vc).toArray, .int .i64 0] ∧ x.val.length ≤ vc ∧ SM M' va (bcells x.val)
  | none => u = .tuple #[.agg zeroIt.toArray, .int .i64 6]
 else u = .tuple #[.agg zeroIt.toArray, .int .i64 (fchk s root).2]
theorem FdPost.none {s : Sto} {root : Int} {q : Ky} {M' : Mem} (h : (fchk s root).2 = 0) (hf : fnd s root q = .none) : FdPost s root q (.tuple #[.agg zeroIt.toArray, .int .i64 6]) M' := by
 unfold FdPost; rw [if_pos h, hf]
theorem FdPost.some {s : Sto} {root : Int} {q : Ky} {M' : Mem} {x : It} {va : Option Addr} {vc : Nat} (h : (fchk s root).2 = 0) (hf : fnd s root q = .some x) (h1 : x.val.length ≤ vc) (h2 : SM M' va (bcells x.val)) : FdPost s root q (.tuple #[.agg (itc x va vc).toArray, .int .i64 0]) M' := by
 unfold FdPost; rw [if_pos h, hf]; exact ⟨va, vc, rfl, h1, h2⟩
theorem isAt_lt {xs : List It} {q : Ky} (h : isAt xs q = true) : place xs q < xs.length := by
 unfold isAt at h
 rcases Nat.lt_or_ge (place xs q) xs.length with h' | h'
 ·exact h'
 ·rw [List.getElem?_eq_none h'] at h; cases of_decide_eq_true h

end Go.Proofs.YtkjghgndmpbfiaaGreat
namespace Go.Proofs.YtkjghgndmpbfiaaGreat
set_option linter.unusedVariables false
set_option linter.unusedSimpArgs false
open Go.RowKit

/-! ### keys -/
def kle (a b : Ky) : Prop := kless b a = false
theorem kl_iff {a b : Ky} : kless a b = true ↔ (a.kind < b.kind ∨ a.kind = b.kind ∧ (a.id < b.id ∨ a.id = b.id ∧ a.off < b.off)) := by unfold kless; exact decide_eq_true_iff
theorem kle_iff {a b : Ky} : kle a b ↔ ¬ (b.kind < a.kind ∨ b.kind = a.kind ∧ (b.id < a.id ∨ b.id = a.id ∧ b.off < a.off)) := by unfold kle kless; exact decide_eq_false_iff_not
theorem kle_refl (a : Ky) : kle a a := by rw [kle_iff]; omega
theorem kl_trans {a b c : Ky} (h : kless a b = true) (k : kless b c = true) : kless a c = true := by rw [kl_iff] at *; omega
theorem kle_trans {a b c : Ky} (h : kle a b) (k : kle b c) : kle a c := by rw [kle_iff] at *; omega
theorem kl_le {a b c : Ky} (h : kless a b = true) (k : kle b c) : kless a c = true := by rw [kl_iff, kle_iff] at *; omega
theorem kle_lt {a b c : Ky} (h : kle a b) (k : kless b c = true) : kless a c = true := by rw [kl_iff, kle_iff] at *; omega
theorem kl_kle {a b : Ky} (h : kless a b = true) : kle a b := by rw [kl_iff] at h; rw [kle_iff]; omega
theorem kl_irr {a : Ky} : kless a a = false := kle_refl a
theorem kle_eq_or {a b : Ky} (h : kle a b) : a = b ∨ kless a b = true := by
 rw [kle_iff] at h; rw [kl_iff]
 by_cases e : a.kind = b.kind ∧ a.id = b.id ∧ a.off = b.off
 ·left; obtain ⟨a1, a2, a3⟩ := a; obtain ⟨b1, b2, b3⟩ := b; simp_all
 ·right; omega

/-! ### trees -/
def Srt (ys : List It) : Prop := ys.Pairwise fun x y => kless x.key y.key = true
def allOne (s : Sto) : Nat → It → List It
 | 0, x => [x]
 | l + 1, x => (kid s x).flatMap (allOne s l)
/-- the items of a tree -/
def allL (s : Sto) (l : Nat) (xs : List It) : List It := xs.flatMap (allOne s l)
structure InSp (p : Sp) (ys : List It) : Prop where
 srt : Srt ys
 btw : ∀ y ∈ ys, kle p.first y.key ∧ kle y.key p.last
 le : kle p.first p.last
structure TreeL (g : It → List It) (xs : List It) : Prop where
 pw : xs.Pairwise fun z w => (∀ y ∈ g z, kless y.key w.key = true) ∧ kless z.key w.key = true
 each : ∀ z ∈ xs, Srt (g z) ∧ ∀ y ∈ g z, kle z.key y.key
def headK : List It → Ky
 | [] => ⟨0, 0, 0⟩
 | x :: _ => x.key
theorem go_in {f : It → Sp} {g : It → List It} : ∀ {xs : List It} {o : Option Sp}, (∀ x ∈ xs, (f x).is = true → (f x).first = x.key → InSp (f x) (g x)) → (goSp f o xs).is = true → xs ≠ [] →
  TreeL g xs ∧ (∀ z ∈ xs, ∀ y ∈ g z, kle y.key (goSp f o xs).last) ∧ (∀ z ∈ xs, kle z.key (goSp f o xs).last) ∧ (∀ q, o = some q → ∀ z ∈ xs, kless q.last z.key = true) ∧ (goSp f o xs).first = (match o with | none => headK xs | some q => q.first)
 | [], _, _, _, h => absurd rfl h
 | x :: xs, o, hg, his, _ => by
  rw [goSp] at his ⊢
  split at his
  case isFalse => cases his
  rename_i hs
  rw [if_pos hs]
  unfold stepOk at hs
  rw [Bool.and_eq_true, Bool.and_eq_true, decide_eq_true_eq] at hs
  obtain ⟨⟨h1, h2⟩, h3⟩ := hs
  have hx := hg x (by simp) h1 h2
  have hxl : kle x.key (f x).last := by rw [← h2]; exact hx.le
  have hxy : ∀ y ∈ g x, kle x.key y.key := fun y hy => by rw [← h2]; exact (hx.btw y hy).1
  have ho : ∀ q, o = some q → kless q.last x.key = true := fun q e => by subst e; rw [← h2]; exact h3
  have hf0 : o = none → (stepSp (f x) o).first = x.key := fun e => by subst e; exact h2
  have hf1 : ∀ q, o = some q → (stepSp (f x) o).first = q.first := fun q e => by subst e; rfl
  cases xs with
  | nil =>
   refine ⟨⟨List.pairwise_singleton _ _, fun z hz => ?_⟩, fun z hz => ?_, fun z hz => ?_, fun q e z hz => ?_, ?_⟩
   ·rw [List.mem_singleton.1 hz]; exact ⟨hx.srt, hxy⟩
   ·rw [List.mem_singleton.1 hz]; exact fun y hy => (hx.btw y hy).2
   ·rw [List.mem_singleton.1 hz]; exact hxl
   ·rw [List.mem_singleton.1 hz]; exact ho q e
   ·show (stepSp (f x) o).first = _
    cases o with
    | none => exact hf0 rfl
    | some q => exact hf1 q rfl
  | cons y ys =>
   obtain ⟨i1, i2, i3, i4, i5⟩ := go_in (f := f) (g := g) (xs := y :: ys) (o := some (stepSp (f x) o)) (fun z hz => hg z (by simp [hz])) his (by simp)
   have hlt : ∀ z ∈ y :: ys, kless (f x).last z.key = true := fun z hz => i4 _ rfl z hz
   have hll : kle (f x).last (goSp f (some (stepSp (f x) o)) (y :: ys)).last := kl_kle (kl_le (hlt y (by simp)) (i3 y (by simp)))
   refine ⟨⟨List.pairwise_cons.2 ⟨fun w hw => ⟨fun z hz => kle_lt (hx.btw z hz).2 (hlt w hw), kle_lt hxl (hlt w hw)⟩, i1.pw⟩, fun z hz => ?_⟩, fun z hz => ?_, fun z hz => ?_, fun q e z hz => ?_, ?_⟩
   ·rcases List.mem_cons.1 hz with rfl | hz
    ·exact ⟨hx.srt, hxy⟩
    ·exact i1.each z hz
   ·rcases List.mem_cons.1 hz with rfl | hz
    ·exact fun u hu => kle_trans (hx.btw u hu).2 hll
    ·exact i2 z hz
   ·rcases List.mem_cons.1 hz with rfl | hz
    ·exact kle_trans hxl hll
    ·exact i3 z hz
   ·rcases List.mem_cons.1 hz with rfl | hz
    ·exact ho q e
    ·exact kl_trans (ho q e) (kle_lt hxl (hlt z hz))
   ·rw [i5]
    show (stepSp (f x) o).first = _
    cases o with
    | none => exact hf0 rfl
    | some q => exact hf1 q rfl
theorem TreeL.srt {g : It → List It} {xs : List It} (h : TreeL g xs) : Srt (xs.flatMap g) := by
 refine List.pairwise_flatMap.2 ⟨fun z hz => (h.each z hz).1, ?_⟩
 refine h.pw.imp_of_mem fun {z w} hz hw hr x hx y hy => ?_
 exact kl_le (hr.1 x hx) ((h.each w hw).2 y hy)
theorem one_in (s : Sto) : ∀ (l : Nat) (x : It), (oneOf s l x).is = true → (oneOf s l x).first = x.key → InSp (oneOf s l x) (allOne s l x)
 | 0, x, _, _ => ⟨List.pairwise_singleton _ _, fun y hy => by rw [List.mem_singleton.1 hy]; exact ⟨kle_refl _, kle_refl _⟩, kle_refl _⟩
 | l + 1, x, h, hf => by
  obtain ⟨ys, hnd, hys, he⟩ := one_up h
  have hk : kid s x = ys := by unfold kid; rw [hnd]
  rw [he] at h hf ⊢
  obtain ⟨i1, i2, i3, _, i5⟩ := go_in (g := allOne s l) (fun z _ a b => one_in s l z a b) h hys
  have hA : allOne s (l + 1) x = ys.flatMap (allOne s l) := by rw [allOne, hk]
  rw [hA]
  obtain ⟨y0, yr, rfl⟩ := List.exists_cons_of_ne_nil hys
  have hh : ∀ z ∈ y0 :: yr, kle y0.key z.key := fun z hz => by
   rcases List.mem_cons.1 hz with rfl | hz
   ·exact kle_refl _
   ·exact kl_kle ((List.pairwise_cons.1 i1.pw).1 z hz).2
  refine ⟨i1.srt, fun y hy => ?_, ?_⟩
  ·obtain ⟨z, hz, hyz⟩ := List.mem_flatMap.1 hy
   refine ⟨?_, i2 z hz y hyz⟩
   rw [i5]; exact kle_trans (hh z hz) ((i1.each z hz).2 y hyz)
  ·rw [i5]; exact i3 y0 (by simp)
theorem tree_l {s : Sto} {l : Nat} {xs : List It} (h : treeOk s l xs) : TreeL (allOne s l) xs := by
 by_cases hx : xs = []
 ·subst hx; exact ⟨List.Pairwise.nil, fun z hz => by cases hz⟩
 ·exact (go_in (fun z _ a b => one_in s l z a b) (h hx) hx).1
theorem kid_of {s : Sto} {l : Nat} {xs : List It} (h : treeOk s (l + 1) xs) {x : It} (hx : x ∈ xs) : treeOk s l (kid s x) := by
 obtain ⟨ys, h1, _, h3⟩ := tree_child h hx
 have hk : kid s x = ys := by unfold kid; rw [h1]
 rw [hk]; exact h3
/-- what is told from a key on -/
theorem down_is {s : Sto} {q : Ky} : ∀ {l : Nat} {xs : List It}, treeOk s l xs → downL s q l xs = (allL s l xs).filter fun x => !kless x.key q
 | 0, xs, _ => by rw [downL, allL]; simp [allOne]
 | l + 1, xs, h => by
  have ih : ∀ x ∈ xs, downL s q l (kid s x) = (allOne s (l + 1) x).filter fun x => !kless x.key q := fun x hx => down_is (kid_of h hx)
  have hT := tree_l h
  have hp := hT.pw
  clear hT h
  rw [downL, allL]
  induction xs with
  | nil => rfl
  | cons x xs ih2 =>
   have hx := ih x (by simp)
   have hr := ih2 (fun y hy => ih y (by simp [hy])) (List.pairwise_cons.1 hp).2
   rw [List.flatMap_cons, List.filter_append, ← hr]
   have e : goDown (fun x => downL s q l (kid s x)) q (x :: xs) = (match xs with | [] => downL s q l (kid s x) | y :: _ => if kless q y.key then downL s q l (kid s x) else []) ++ goDown (fun x => downL s q l (kid s x)) q xs := by cases xs <;> rfl
   rw [e]
   congr 1
   cases xs with
   | nil => exact hx
   | cons y ys =>
    show (if kless q y.key = true then _ else _) = _
    split
    ·exact hx
    ·rename_i hq
     symm
     rw [List.filter_eq_nil_iff]
     intro z hz
     have h1 := ((List.pairwise_cons.1 hp).1 y (by simp)).1 z hz
     have h2 : kle y.key q := by simpa [kle] using hq
     have := kl_le h1 h2
     simp [this]
theorem place_app (A B : List It) (q : Ky) : place (A ++ B) q = place A q + place B q := by unfold place; rw [List.filter_append, List.length_append]
theorem place_all {A : List It} {q : Ky} (h : ∀ w ∈ A, kless w.key q = true) : place A q = A.length := by
 unfold place; rw [List.filter_eq_self.2 (fun w hw => by simpa using h w hw)]
theorem place_none {A : List It} {q : Ky} (h : ∀ w ∈ A, kless w.key q = false) : place A q = 0 := by
 unfold place; rw [List.filter_eq_nil_iff.2 (fun w hw => by simp [h w hw])]; rfl
/-- each item is found -/
theorem find_in {s : Sto} : ∀ {l : Nat} {xs : List It}, treeOk s l xs → ∀ x ∈ allL s l xs, findIn s x.key l xs = some x
 | l, xs, h, x, hx => by
  have hT := tree_l h
  obtain ⟨z, hz, hxz⟩ := List.mem_flatMap.1 hx
  obtain ⟨A, B, rfl⟩ := List.append_of_mem hz
  have hp := List.pairwise_append.1 hT.pw
  have hpB := List.pairwise_cons.1 hp.2.1
  have hzx : kle z.key x.key := (hT.each z hz).2 x hxz
  have hA : ∀ w ∈ A, kless w.key x.key = true := fun w hw => kl_le (hp.2.2 w hw z (by simp)).2 hzx
  have hB : ∀ w ∈ B, kless x.key w.key = true := fun w hw => (hpB.1 w hw).1 x hxz
  have hB' : ∀ w ∈ B, kless w.key x.key = false := fun w hw => kl_kle (hB w hw)
  have hpl : place (A ++ z :: B) x.key = A.length + (if kless z.key x.key then 1 else 0) := by
   rw [place_app, place_all hA, show z :: B = [z] ++ B from rfl, place_app, place_none hB']
   unfold place
   cases hk : kless z.key x.key <;> simp [hk]
  have hg : (A ++ z :: B)[A.length]? = some z := by rw [List.getElem?_append_right (Nat.le_refl _)]; simp
  rcases kle_eq_or hzx with he | hlt
  ·have hpl2 : place (A ++ z :: B) x.key = A.length := by rw [hpl, ← he, kl_irr]; rfl
   have hat : isAt (A ++ z :: B) x.key = true := by unfold isAt; rw [hpl2, hg]; simp [he]
   cases l with
   | zero =>
    rw [findIn, if_pos hat, hpl2, hg]
    rw [allOne] at hxz
    rw [List.mem_singleton.1 hxz]
   | succ l =>
    rw [findIn, show nextIt (A ++ z :: B) x.key = some z by unfold nextIt; rw [if_pos hat, hpl2, hg]]
    exact find_in (kid_of h hz) x hxz
  ·have hpl2 : place (A ++ z :: B) x.key = A.length + 1 := by rw [hpl, hlt]; rfl
   cases l with
   | zero =>
    rw [allOne] at hxz
    rw [List.mem_singleton.1 hxz, kl_irr] at hlt
    cases hlt
   | succ l =>
    have hnat : isAt (A ++ z :: B) x.key = false := by
     unfold isAt
     rw [hpl2, List.getElem?_append_right (by omega), show A.length + 1 - A.length = 0 + 1 by omega, List.getElem?_cons_succ]
     cases B with
     | nil => rfl
     | cons b bs =>
      have := hB b (by simp)
      simp only [List.getElem?_cons_zero, Option.map_some, decide_eq_false_iff_not]
      intro e
      rw [Option.some.injEq] at e
      rw [e, kl_irr] at this; cases this
    rw [findIn, show nextIt (A ++ z :: B) x.key = some z by unfold nextIt; rw [if_neg (by rw [hnat]; decide), if_neg (by omega), hpl2, Nat.add_sub_cancel, hg]]
    exact find_in (kid_of h hz) x hxz
theorem find_back {s : Sto} {q : Ky} : ∀ {l : Nat} {xs : List It} {x : It}, findIn s q l xs = some x → x ∈ allL s l xs ∧ x.key = q
 | 0, xs, x, h => by
  rw [findIn] at h
  split at h
  ·rename_i hat
   unfold isAt at hat
   rw [h] at hat
   have := of_decide_eq_true hat
   refine ⟨?_, by simpa using this⟩
   rw [allL]; simp only [allOne]
   exact List.mem_flatMap.2 ⟨x, List.mem_of_getElem? h, by simp⟩
  ·cases h
 | l + 1, xs, x, h => by
  rw [findIn] at h
  split at h
  ·rename_i z hz
   obtain ⟨h1, h2⟩ := find_back h
   refine ⟨List.mem_flatMap.2 ⟨z, ?_, h1⟩, h2⟩
   unfold nextIt at hz
   split at hz
   ·exact List.mem_of_getElem? hz
   ·split at hz
    ·cases hz
    ·exact List.mem_of_getElem? hz
  ·cases h

/-! ### what is told -/
def allT (s : Sto) (root : Int) : List It := match ndAt s root.toNat with | some (lv, xs) => allL s lv.toNat xs | none => []
def btw (a b : Ky) (x : It) : Bool := !kless x.key a && !kless b x.key
theorem while_srt {b : Ky} : ∀ {ys : List It}, Srt ys → (ys.takeWhile fun x => !kless b x.key) = ys.filter fun x => !kless b x.key
 | [], _ => rfl
 | y :: ys, h => by
  have h2 := List.pairwise_cons.1 h
  by_cases hy : kless b y.key = true
  ·rw [List.takeWhile_cons_of_neg (by simp [hy]), List.filter_cons_of_neg (by simp [hy])]
   symm
   rw [List.filter_eq_nil_iff]
   intro z hz
   have := kl_trans hy (h2.1 z hz)
   simp [this]
  ·rw [List.takeWhile_cons_of_pos (by simp [hy]), List.filter_cons_of_pos (by simp [hy]), while_srt h2.2]
theorem Srt.filter {ys : List It} (h : Srt ys) (p : It → Bool) : Srt (ys.filter p) := List.Pairwise.filter p h
theorem all_srt {s : Sto} {root : Int} (h : (fchk s root).2 = 0) : Srt (allT s root) := by
 obtain ⟨_, _, _, _, lev, xs, hnd, ht, _⟩ := fchk_ok h
 unfold allT; rw [hnd]
 exact (tree_l ht).srt
theorem rng_is {s : Sto} {root : Int} (h : (fchk s root).2 = 0) (a b : Ky) : rng s root a b = (allT s root).filter (btw a b) := by
 have hs := all_srt h
 obtain ⟨_, _, _, _, lev, xs, hnd, ht, _⟩ := fchk_ok h
 unfold rng allT at *
 rw [hnd] at hs ⊢
 change Srt (allL s lev xs) at hs
 show ((downL s a lev xs).takeWhile fun x => !kless b x.key) = (allL s lev xs).filter (btw a b)
 rw [down_is ht, while_srt (hs.filter _), List.filter_filter]
 congr 1; funext x; unfold btw; rw [Bool.and_comm]
theorem fnd_is {s : Sto} {root : Int} (h : (fchk s root).2 = 0) {x : It} (hx : x ∈ allT s root) : fnd s root x.key = some x := by
 obtain ⟨_, _, _, _, lev, xs, hnd, ht, _⟩ := fchk_ok h
 unfold fnd; unfold allT at hx
 rw [hnd] at hx ⊢
 exact find_in ht x hx
theorem fnd_back {s : Sto} {root : Int} (h : (fchk s root).2 = 0) {q : Ky} {x : It} (hx : fnd s root q = some x) : x ∈ allT s root ∧ x.key = q := by
 obtain ⟨_, _, _, _, lev, xs, hnd, ht, _⟩ := fchk_ok h
 unfold fnd at hx; unfold allT
 rw [hnd] at hx ⊢
 exact find_back hx
structure RFacts (s : Sto) (root : Int) (a b : Ky) (l : List It) : Prop where
 lo : ∀ k (h : k < l.length), kless l[k].key a = false
 hi : ∀ k (h : k < l.length), kless b l[k].key = false
 up : ∀ k (h : k + 1 < l.length), kless l[k].key l[k + 1].key = true
 fd : ∀ k (h : k < l.length), fnd s root l[k].key = some l[k]
 no : kless b a = true → l = []
theorem rng_facts {s : Sto} {root : Int} (h : (fchk s root).2 = 0) (a b : Ky) : RFacts s root a b (rng s root a b) := by
 have hr := rng_is h a b
 have hm : ∀ x ∈ rng s root a b, x ∈ allT s root ∧ kless x.key a = false ∧ kless b x.key = false := fun x hx => by
  rw [hr] at hx
  obtain ⟨h1, h2⟩ := List.mem_filter.1 hx
  unfold btw at h2
  rw [Bool.and_eq_true, Bool.not_eq_true', Bool.not_eq_true'] at h2
  exact ⟨h1, h2⟩
 have hs : Srt (rng s root a b) := by rw [hr]; exact (all_srt h).filter _
 refine ⟨fun k hk => (hm _ (List.getElem_mem hk)).2.1, fun k hk => (hm _ (List.getElem_mem hk)).2.2, fun k hk => ?_, fun k hk => fnd_is h (hm _ (List.getElem_mem hk)).1, fun hba => ?_⟩
 ·exact List.pairwise_iff_getElem.1 hs k (k + 1) (by omega) hk (by omega)
 ·cases hl : rng s root a b with
  | nil => rfl
  | cons x xs =>
   have hx := hm x (by rw [hl]; simp)
   have h1 : kle a x.key := hx.2.1
   have h2 : kle x.key b := hx.2.2
   have := kl_le hba (kle_trans h1 h2)
   rw [kl_irr] at this; cases this

/-! ### between three keys -/
theorem srt_split {b : Ky} : ∀ {ys : List It}, Srt ys → ys = (ys.filter fun x => !kless b x.key) ++ ys.filter fun x => kless b x.key
 | [], _ => rfl
 | y :: ys, h => by
  have h2 := List.pairwise_cons.1 h
  by_cases hy : kless b y.key = true
  ·have hall : ∀ z ∈ ys, kless b z.key = true := fun z hz => kl_trans hy (h2.1 z hz)
   rw [List.filter_cons_of_neg (by simp [hy]), List.filter_cons_of_pos (by simp [hy]), List.filter_eq_nil_iff.2 (fun z hz => by simp [hall z hz]), List.filter_eq_self.2 (fun z hz => hall z hz), List.nil_append]
  ·rw [List.filter_cons_of_pos (by simp [hy]), List.filter_cons_of_neg (by simp [hy]), List.cons_append, ← srt_split h2.2]
structure PFacts (s : Sto) (root : Int) (b : Ky) (l m n one : List It) : Prop where
 eq : l = m ++ n.drop one.length
 len : m.length + n.length = l.length + one.length
 le1 : one.length ≤ 1
 on : one.length ≤ n.length
 fd : (∃ x, fnd s root b = some x) ↔ one.length = 1
theorem kl_neg {a b : Ky} (h : ¬ kless a b = true) : kle b a := by unfold kle; simpa using h
theorem rng_parts {s : Sto} {root : Int} (h : (fchk s root).2 = 0) {a b c : Ky} (hab : kless b a = false) (hbc : kless c b = false) : PFacts s root b (rng s root a c) (rng s root a b) (rng s root b c) (rng s root b b) := by
 rw [rng_is h, rng_is h, rng_is h, rng_is h]
 have hs := all_srt h
 have hf : ∀ x, x ∈ allT s root → fnd s root x.key = some x := fun x hx => fnd_is h hx
 have hk : ∀ x, fnd s root b = some x → x ∈ allT s root ∧ x.key = b := fun x hx => fnd_back h hx
 generalize allT s root = F at hs hf hk
 have hl := srt_split (b := b) (hs.filter (btw a c))
 have hn := srt_split (b := b) (hs.filter (btw b c))
 have e1 : ((F.filter (btw a c)).filter fun x => !kless b x.key) = F.filter (btw a b) := by
  rw [List.filter_filter]
  refine List.filter_congr fun x _ => ?_
  unfold btw
  cases h1 : kless b x.key <;> cases h2 : kless x.key a <;> simp
  have : kless c x.key = false := kle_trans (show kle x.key b from h1) (show kle b c from hbc)
  simp [this]
 have e2 : ((F.filter (btw b c)).filter fun x => !kless b x.key) = F.filter (btw b b) := by
  rw [List.filter_filter]
  refine List.filter_congr fun x _ => ?_
  unfold btw
  cases h1 : kless b x.key <;> cases h2 : kless x.key b <;> simp
  have : kless c x.key = false := kle_trans (show kle x.key b from h1) (show kle b c from hbc)
  simp [this]
 have e3 : ((F.filter (btw b c)).filter fun x => kless b x.key) = (F.filter (btw a c)).filter fun x => kless b x.key := by
  rw [List.filter_filter, List.filter_filter]
  refine List.filter_congr fun x _ => ?_
  unfold btw
  cases h1 : kless b x.key <;> simp
  have h2 : kless x.key b = false := kl_kle h1
  have h3 : kless x.key a = false := kl_kle (kle_lt (show kle a b from hab) h1)
  simp [h2, h3]
 rw [e1] at hl
 rw [e2, e3] at hn
 generalize hR : ((F.filter (btw a c)).filter fun x => kless b x.key) = R at hl hn
 have hkey : ∀ x ∈ F.filter (btw b b), x ∈ F ∧ x.key = b := fun x hx => by
  obtain ⟨h1, h2⟩ := List.mem_filter.1 hx
  unfold btw at h2
  rw [Bool.and_eq_true, Bool.not_eq_true', Bool.not_eq_true'] at h2
  refine ⟨h1, ?_⟩
  rcases kle_eq_or (show kle b x.key from h2.1) with e | e
  ·exact e.symm
  ·rw [e] at h2; cases h2.2
 have hle : (F.filter (btw b b)).length ≤ 1 := by
  match hone : F.filter (btw b b), hkey, hs.filter (btw b b) with
  | [], _, _ => exact Nat.zero_le _
  | [x], _, _ => exact Nat.le_refl _
  | x :: y :: zs, hkey, hs2 =>
   have := (List.pairwise_cons.1 hs2).1 y (List.mem_cons_self)
   rw [(hkey x (by simp)).2, (hkey y (by simp)).2, kl_irr] at this
   cases this
 refine ⟨?_, ?_, hle, ?_, ?_, ?_⟩
 ·rw [hn, List.drop_left]; exact hl
 ·have h1 := congrArg List.length hl
  have h2 := congrArg List.length hn
  rw [List.length_append] at h1 h2
  omega
 ·have h2 := congrArg List.length hn
  rw [List.length_append] at h2
  omega
 ·rintro ⟨x, hx⟩
  obtain ⟨h1, h2⟩ := hk x hx
  have : x ∈ F.filter (btw b b) := List.mem_filter.2 ⟨h1, by unfold btw; rw [h2, kl_irr]; rfl⟩
  have := List.length_pos_of_mem this
  omega
 ·intro h1
  match hone : F.filter (btw b b), h1 with
  | [x], _ =>
   obtain ⟨h2, h3⟩ := hkey x (by rw [hone]; simp)
   exact ⟨x, by rw [← h3]; exact hf x h2⟩
theorem rng_len {s : Sto} {root : Int} (h : (fchk s root).2 = 0) (a b : Ky) : (rng s root a b).length ≤ 15625 := by
 obtain ⟨_, _, _, _, lev, xs, hnd, _, _⟩ := fchk_ok h
 unfold rng; rw [hnd]
 have hno := ndAt_ok hnd
 have hsm := downL_small (s := s) (q := a) (l := lev) (by have := hno.lev; omega) hno.len
 have hpf := (List.takeWhile_prefix (fun x => !kless b x.key) (l := downL s a lev xs)).length_le
 exact Nat.le_trans hpf (by omega)
end Go.Proofs.YtkjghgndmpbfiaaGreat
