/- Walks: the document's blocks of a tree and what its leaves refer to. -/
import Derived.Test.YtkjghgndmpbfiaaGreatZRk
import Derived.Test.YtkjghgndmpbfiaaGreatZNodes
import Derived.Test.YtkjghgndmpbfiaaGreatZThaw
namespace Go.Proofs.YtkjghgndmpbfiaaGreat
set_option linter.unusedVariables false
set_option linter.unusedSectionVars false
set_option linter.unusedSimpArgs false
open Go.RowKit

theorem icell_one {M : Mem} {ps : List (It × Value)} (hb : ∀ p ∈ ps, BS M p.2 p.1.val) : ∀ u ∈ ps.flatMap icell, u.oneCell' = true := by
 intro u hu
 obtain ⟨p, hp, h⟩ := List.mem_flatMap.1 hu
 obtain ⟨a, c, e, _⟩ := hb p hp
 unfold icell at h
 rw [e] at h
 exact List.all_eq_true.1 (rfl : ([Value.int .u8 p.1.key.kind, .int .u32 p.1.key.id, .int .u32 p.1.key.off, .int .i64 p.1.ref, .slice a p.1.val.length c].all fun v => v.oneCell') = true) u h
theorem flat_le2 {α β : Type} {f : α → List β} {m : Nat} (h : ∀ x, (f x).length ≤ m) : ∀ xs : List α, (xs.flatMap f).length ≤ m * xs.length
 | [] => by simp
 | x :: xs => by
  rw [List.flatMap_cons, List.length_append, List.length_cons, Nat.mul_add, Nat.mul_one]
  have := h x; have := flat_le2 h xs; omega
theorem allOne_len (s : Sto) : ∀ (l : Nat) (x : It), (allOne s l x).length ≤ 5 ^ l
 | 0, x => by simp [allOne]
 | l + 1, x => by
  rw [allOne, Nat.pow_succ]
  exact Nat.le_trans (flat_le2 (allOne_len s l) _) (Nat.mul_le_mul_left _ (kid_len s x))
theorem all_small {s : Sto} {l : Nat} {xs : List It} (hl : l < 6) (hx : xs.length ≤ 5) : (xs.flatMap (allOne s l)).length ≤ 15625 := by
 refine Nat.le_trans (flat_le2 (allOne_len s l) xs) ?_
 have : 5 ^ l ≤ 5 ^ 5 := Nat.pow_le_pow_right (by omega) (by omega)
 exact Nat.le_trans (Nat.mul_le_mul this hx) (by decide)
theorem all_zero {s : Sto} {xs : List It} : allL s 0 xs = xs := by unfold allL; simp [allOne]
def ItS (s : Sto) (l : Nat) : Prop := ∀ (k : Int) (ys : List It) (u : Value) (M : Mem), ST M u s → 0 ≤ k ∧ k ≤ 100000 → ndAt s k.toNat = some ((l : Int), ys) → treeOk s l ys → SpecL Tryz.prog 37 #[u, .int .i64 k] M [] fun v M' L' => NS M' v (allL s l ys) ∧ L' = []

theorem ritems_leaf (s : Sto) (hst : stOk s) (bv wv nv lv0 : Value) (M : Mem) (hS : ST M (.agg #[bv, wv, nv, lv0]) s) (root : Int) (hk : 0 ≤ root ∧ root ≤ 100000) (xs : List It) (hnd : ndAt s root.toNat = some (0, xs)) :
  SpecL Tryz.prog 37 #[.agg #[bv, wv, nv, lv0], .int .i64 root] M [] fun u M' L' => NS M' u (allL s 0 xs) ∧ L' = [] := by
 refine spec_body (vs := [_, _]) 38 _ Tryz.func37 rfl Tryz.ntmps37 rfl rfl ?_; intro W
 refine jc_seq ?_
 refine jc_region ?_
 refine jl_h rfl rfl (hBox (cs := [_, _, _, _]) rfl rfl rfl rfl) ?_; rintro _ _ _ ⟨b2, rfl, rfl, rfl⟩
 refine jp rfl ?_
 refine jl_nil ?_
 refine jT ?_
 refine jc_seq ?_
 refine jc_region ?_
 refine jl_q rfl rfl (qLdL rfl rfl rfl rfl rfl) ?_
 refine jp rfl ?_
 refine jl_h rfl rfl (hCall rfl rfl rfl rfl rfl (by kernel_rfl) (rread8_yes s _ M hS hst root hk hnd)) ?_; rintro _ M1 _ ⟨hM1, _, rfl, ⟨⟨a, c, ps0, rfl, hc, hs, hp, hb⟩, rfl⟩⟩
 iterate 3 refine jp rfl ?_
 refine jl_h rfl rfl (hAlloc rfl rfl) ?_; rintro _ _ _ ⟨b5, rfl, rfl, rfl⟩
 refine jl_s rfl (hStoreL rfl rfl rfl rfl rfl rfl rfl rfl) ?_; rintro _ _ _ ⟨rfl, rfl⟩
 refine jp rfl ?_
 refine jl_nil ?_
 refine jT ?_
 refine jc_seq ?_
 refine jc_seq ?_
 refine jc_region ?_
 refine jl_q rfl rfl (qFieldAddr rfl rfl rfl rfl rfl) ?_
 refine jl_q rfl rfl (qLd rfl rfl rfl rfl (CJ.loc rfl)) ?_
 refine jt rfl (decide_eq_true (by omega)) ?_
 refine jl_nil ?_
 refine jT ?_
 refine jc_yes rfl ?_
 refine jc_seq ?_
 refine jc_region ?_
 refine jl_q rfl rfl (qFieldAddr rfl rfl rfl rfl rfl) ?_
 refine jl_q rfl rfl (qLd rfl rfl rfl rfl (CJ.loc rfl)) ?_
 refine jp rfl ?_
 refine jl_nil ?_
 refine jT ?_
 refine jc_ret ?_
 refine jTr ?_
 refine jq_drop (L' := []) (List.nil_sublist _) ?_
 refine jr1 rfl rfl ?_
 exact ⟨by rw [all_zero]; exact ⟨a, c, ps0, rfl, hc, hs, hp, hb⟩, rfl⟩

set_option maxHeartbeats 2000000 in
theorem ritems_up (s : Sto) (hst : stOk s) (bv wv nv lv0 : Value) (M : Mem) (hS : ST M (.agg #[bv, wv, nv, lv0]) s) (root : Int) (hk : 0 ≤ root ∧ root ≤ 100000) (xs : List It) (l : Nat) (hnd : ndAt s root.toNat = some (((l + 1 : Nat) : Int), xs)) (htr : treeOk s (l + 1) xs) (ih : ItS s l) :
  SpecL Tryz.prog 37 #[.agg #[bv, wv, nv, lv0], .int .i64 root] M [] fun u M' L' => NS M' u (allL s (l + 1) xs) ∧ L' = [] := by
 have hno := ndAt_ok hnd
 have hx5 := hno.len
 have hlv := hno.lev
 refine spec_body (vs := [_, _]) 38 _ Tryz.func37 rfl Tryz.ntmps37 rfl rfl ?_; intro W
 refine jc_seq ?_
 refine jc_region ?_
 refine jl_h rfl rfl (hBox (cs := [_, _, _, _]) rfl rfl rfl rfl) ?_; rintro _ _ _ ⟨b2, rfl, rfl, rfl⟩
 refine jp rfl ?_
 refine jl_nil ?_
 refine jT ?_
 refine jc_seq ?_
 refine jc_region ?_
 refine jl_q rfl rfl (qLdL rfl rfl rfl rfl rfl) ?_
 refine jp rfl ?_
 refine jl_h rfl rfl (hCall rfl rfl rfl rfl rfl (by kernel_rfl) (rread8_yes s _ M hS hst root hk hnd)) ?_; rintro _ M1 _ ⟨hM1, _, rfl, ⟨⟨a, c, ps0, rfl, hc, hs, hp, hb⟩, rfl⟩⟩
 iterate 3 refine jp rfl ?_
 refine jl_h rfl rfl (hAlloc rfl rfl) ?_; rintro _ _ _ ⟨b5, rfl, rfl, rfl⟩
 refine jl_s rfl (hStoreL rfl rfl rfl rfl rfl rfl rfl rfl) ?_; rintro _ _ _ ⟨rfl, rfl⟩
 refine jp rfl ?_
 refine jl_nil ?_
 refine jT ?_
 refine jc_seq ?_
 refine jc_seq ?_
 refine jc_region ?_
 refine jl_q rfl rfl (qFieldAddr rfl rfl rfl rfl rfl) ?_
 refine jl_q rfl rfl (qLd rfl rfl rfl rfl (CJ.loc rfl)) ?_
 refine jf rfl (decide_eq_false (by omega)) ?_
 refine jl_nil ?_
 refine jT ?_
 refine jc_no rfl ?_
 refine jc_skip ?_
 refine jT ?_
 refine jc_seq ?_
 refine jc_region ?_
 refine jp rfl ?_
 refine jl_nil ?_
 refine jT ?_
 refine jc_seq ?_
 refine jc_seq ?_
 refine jc_region ?_
 refine jp rfl ?_
 refine jl_nil ?_
 refine jT ?_
 refine jc_block ?_
 refine jc_loopK (α := Nat × Mem × Option Addr × Nat × Lc × List (It × Value)) (fun z => [(2, .pointer (some ⟨b2, 0, none⟩)), (5, .pointer (some ⟨b5, 0, none⟩)), (7, .slice z.2.2.1 z.2.2.2.2.2.length z.2.2.2.1), (8, .int .i64 z.1)]) (fun z => z.2.1) (fun z => z.2.2.2.2.1 ++ [(b5, .cells [Value.int .i64 ((l + 1 : Nat) : Int), .slice a xs.length c].toArray 66 (0, 0)), (b2, .cells [bv, wv, nv, lv0].toArray 28 (0, 0))]) (fun z => z.1 ≤ xs.length ∧ MLe M1 z.2.1 ∧ Own (.slice z.2.2.1 z.2.2.2.2.2.length z.2.2.2.1) z.2.2.2.2.1 IT 5 z.2.2.2.2.2.length (z.2.2.2.2.2.flatMap icell) ∧ z.2.2.2.2.2.map (·.1) = (xs.take z.1).flatMap (allOne s (l + 1)) ∧ ∀ p ∈ z.2.2.2.2.2, BS z.2.1 p.2 p.1.val) (fun z => xs.length - z.1)
  (0, M1, none, 0, [], []) (Keep.cons (t := 2) rfl (Keep.cons (t := 5) rfl (Keep.cons (t := 7) rfl (Keep.cons (t := 8) rfl Keep.nil)))) ⟨Nat.zero_le _, MLe.refl _, Own.nil _ _, by simp, fun _ h => by cases h⟩ (fun _ h => h) ?_
 rintro ⟨k, Mk, oa, oc, R, ps⟩ ⟨hk0, hMk, hO, hpm, hpb⟩
 try dsimp only at hk0 hMk hO hpm hpb ⊢
 refine jc_seq ?_
 refine jc_seq ?_
 refine jc_region ?_
 refine jp rfl ?_
 refine jl_q rfl rfl (qFieldAddr rfl rfl rfl rfl rfl) ?_
 refine jl_q rfl rfl (qLd rfl rfl rfl rfl (CJ.loc rfl)) ?_
 refine jl_q rfl rfl (qLen rfl rfl rfl) ?_
 refine js rfl (fun h24 => ?_) (fun h24 => ?_)
 ·refine jl_nil ?_
  refine jT ?_
  refine jc_yes rfl ?_
  refine jc_skip ?_
  refine jT ?_
  refine jc_seq ?_
  refine jc_block ?_
  refine jc_draw [(0, true), (1, true), (2, true), (3, true), (4, true), (5, true), (6, true), (7, true), (8, false), (9, false), (10, true)] [(b5, .cells [Value.int .i64 ((l + 1 : Nat) : Int), .slice a xs.length c].toArray 66 (0, 0)), (b2, .cells [bv, wv, nv, lv0].toArray 28 (0, 0))] (by kernel_rfl) (by kernel_rfl) (by kernel_rfl) rfl (by simp) ?_
  refine dp rfl rfl ?_
  refine jd_q rfl rfl rfl (qLdL rfl rfl rfl rfl rfl) ?_
  refine jd_q rfl rfl rfl (qFieldAddr rfl rfl rfl rfl rfl) ?_
  refine jd_q rfl rfl rfl (qLd rfl rfl rfl rfl (CJ.loc rfl)) ?_
  refine dp rfl rfl ?_
  have hk1 : k < xs.length := by omega
  obtain ⟨sb, so, va, vc, e0, hcl, hvc, hvs⟩ := it_get hs hp hb hk1 (i := (k : Int)) rfl
  have hrf := hno.ref _ (List.getElem_mem hk1)
  obtain ⟨ys, hyn, hys0, hyt⟩ := tree_child htr (List.getElem_mem hk1)
  have hkid : kid s xs[k] = ys := by unfold kid; rw [hyn]
  refine jd_q rfl rfl rfl (qIdxE rfl rfl rfl rfl e0 (by omega)) ?_
  refine jd_q rfl rfl rfl (qFieldAddr rfl rfl rfl rfl rfl) ?_
  refine jd_q rfl rfl rfl (qLd rfl rfl rfl rfl (((hcl 3 _ rfl).mono hMk).cj _)) ?_
  refine jd_h rfl rfl rfl (hCall rfl rfl rfl rfl rfl (by kernel_rfl) (ih xs[k].ref ys _ Mk (hS.mono (hM1.trans hMk)) (by omega) hyn hyt)) ?_; rintro _ M2 _ ⟨hM2, _, rfl, ⟨hns2, rfl⟩⟩
  refine ⟨_, _, MLe.refl _, hM2, fun _ h => h, by simp, ?_⟩
  obtain ⟨a2, c2, ps2, rfl, hc2, hs2, hp2, hb2⟩ := hns2
  have hl2 : ps2.length = (allL s l ys).length := by rw [← hp2, List.length_map]
  have hsm := all_small (s := s) (l := l + 1) (xs := xs.take k) (by omega) (by rw [List.length_take]; omega)
  have hsm2 := all_small (s := s) (l := l) (xs := ys) (by omega) (ndAt_ok hyn).len
  have hpl := congrArg List.length hpm
  rw [List.length_map] at hpl
  refine jd_h rfl rfl rfl (hAppendM (R := R) rfl rfl rfl rfl hO (by rw [flat_len icell 5 icell_len, hl2]) hs2 rfl (icell_one hb2) (by unfold allL; omega) (by omega)) ?_; rintro v36 _ _ ⟨rfl, R36, rfl, o36⟩
  refine ⟨_, _, MLe.refl _, hM2, fun _ h => h, by simp, ?_⟩
  obtain ⟨a36, c36, rfl⟩ := o36.form
  refine dp rfl rfl ?_
  refine jd_nil ?_
  refine jPn ?_
  refine jB ?_
  refine jT ?_
  refine jc_region ?_
  refine jp rfl ?_
  refine ja rfl (by omega) ?_
  refine jp rfl ?_
  refine jl_nil ?_
  refine j_again (k + 1, M2, a36, c36, R36, ps ++ ps2) (Keep.cons (t := 2) rfl (Keep.cons (t := 5) rfl (Keep.ceq (t := 7) rfl (by rw [List.length_append, hl2]) (Keep.cons (t := 8) rfl Keep.nil)))) ⟨by show k + 1 ≤ xs.length; omega, hMk.trans hM2, ?_, ?_, ?_⟩ (by show xs.length - (k + 1) < xs.length - k; omega) (fun _ h => h.subC fun f => by simp only [List.map_append, List.map_cons, List.map_nil, List.sum_append, List.sum_cons, List.sum_nil]; omega)
  ·show Own (.slice a36 (ps ++ ps2).length c36) R36 IT 5 (ps ++ ps2).length ((ps ++ ps2).flatMap icell)
   rw [List.length_append, hl2, List.flatMap_append]; exact o36
  ·show (ps ++ ps2).map (·.1) = (xs.take (k + 1)).flatMap (allOne s (l + 1))
   rw [List.map_append, hpm, hp2, List.take_succ_eq_append_getElem hk1, List.flatMap_append, List.flatMap_cons, List.flatMap_nil, List.append_nil, allOne, hkid]; rfl
  ·intro p hp3
   rcases List.mem_append.1 hp3 with hp3 | hp3
   ·exact (hpb p hp3).mono hM2
   ·exact hb2 p hp3
 ·refine jl_nil ?_
  refine jT ?_
  refine jc_no rfl ?_
  refine jc_exit ?_
  refine jTx ?_
  refine jTx ?_
  refine jBx ?_
  refine jT ?_
  refine jc_seq ?_
  refine jc_region ?_
  iterate 2 refine jp rfl ?_
  refine jl_nil ?_
  refine jT ?_
  refine jc_ret ?_
  refine jq_drop (L' := R) (by simp) ?_
  refine jq_own hO (by simp) ?_
  intro M9 a9 c9 hM9 e9 hc9 hs9; cases e9
  refine jr1 rfl rfl ?_
  obtain rfl : k = xs.length := by omega
  rw [List.take_length] at hpm
  have hpl : ps.length = (allL s (l + 1) xs).length := by unfold allL; rw [← hpm, List.length_map]
  exact ⟨⟨_, _, ps, by rw [hpl], by rw [← hpl]; exact hc9, hs9, hpm, fun p hp => (hpb p hp).mono hM9⟩, rfl⟩


theorem ritems_all (s : Sto) (hst : stOk s) : ∀ l, ItS s l := by
 intro l
 induction l with
 | zero =>
  intro k ys u M hS hk hnd htr
  obtain ⟨b, w, n, l0, rfl, _⟩ := hS.ex
  exact ritems_leaf s hst b w n l0 M hS k hk ys hnd
 | succ l ih =>
  intro k ys u M hS hk hnd htr
  obtain ⟨b, w, n, l0, rfl, _⟩ := hS.ex
  exact ritems_up s hst b w n l0 M hS k hk ys l hnd htr ih

set_option maxHeartbeats 2000000 in
theorem rbetween_walk (s : Sto) (bv wv nv lv0 : Value) (M : Mem) (hS : ST M (.agg #[bv, wv, nv, lv0]) s) (root : Int) (a b : Ky) (xs : List It) (hn : xs.length ≤ 1000000) (hit : SpecL Tryz.prog 37 #[.agg #[bv, wv, nv, lv0], .int .i64 root] M [] fun v M' L' => NS M' v xs ∧ L' = []) :
  SpecL Tryz.prog 19 #[.agg #[bv, wv, nv, lv0], .int .i64 root, .agg (kcells a).toArray, .agg (kcells b).toArray] M [] fun u M' L' => NS M' u (xs.filter (btw a b)) ∧ L' = [] := by
 refine spec_body (vs := [_, _, _, _]) 47 _ Tryz.func19 rfl Tryz.ntmps19 rfl rfl ?_; intro W
 refine jc_seq ?_
 refine jc_region ?_
 refine jl_h rfl rfl (hBox (cs := [_, _, _, _]) rfl rfl rfl rfl) ?_; rintro _ _ _ ⟨b4, rfl, rfl, rfl⟩
 refine jl_h rfl rfl (hBox (cs := [_, _, _]) rfl rfl rfl rfl) ?_; rintro _ _ _ ⟨b6, rfl, rfl, rfl⟩
 refine jl_h rfl rfl (hBox (cs := [_, _, _]) rfl rfl rfl rfl) ?_; rintro _ _ _ ⟨b7, rfl, rfl, rfl⟩
 refine jp rfl ?_
 refine jl_nil ?_
 refine jT ?_
 refine jc_seq ?_
 refine jc_region ?_
 refine jp rfl ?_
 refine jl_nil ?_
 refine jT ?_
 refine jc_seq ?_
 refine jc_region ?_
 refine jl_q rfl rfl (qLdL rfl rfl rfl rfl rfl) ?_
 refine jp rfl ?_
 refine jl_h rfl rfl (hCall rfl rfl rfl rfl rfl (by kernel_rfl) hit) ?_; rintro _ M1 _ ⟨hM1, _, rfl, ⟨⟨ia, ic, ps0, rfl, hc, hs, hp, hb⟩, rfl⟩⟩
 refine jp rfl ?_
 refine jl_nil ?_
 refine jT ?_
 refine jc_seq ?_
 refine jc_seq ?_
 refine jc_region ?_
 refine jp rfl ?_
 refine jl_nil ?_
 refine jT ?_
 refine jc_block ?_
 refine jc_loopK (α := Nat × Mem × Option Addr × Nat × Lc × List (It × Value)) (fun z => [(6, .pointer (some ⟨b6, 0, none⟩)), (7, .pointer (some ⟨b7, 0, none⟩)), (9, .slice z.2.2.1 z.2.2.2.2.2.length z.2.2.2.1), (10, .slice ia xs.length ic), (11, .int .i64 z.1)]) (fun z => M1) (fun z => z.2.2.2.2.1 ++ [(b7, .cells (kcells b).toArray 31 (0, 0)), (b6, .cells (kcells a).toArray 31 (0, 0)), (b4, .cells [bv, wv, nv, lv0].toArray 28 (0, 0))]) (fun z => z.1 ≤ xs.length ∧ Own (.slice z.2.2.1 z.2.2.2.2.2.length z.2.2.2.1) z.2.2.2.2.1 IT 5 z.2.2.2.2.2.length (z.2.2.2.2.2.flatMap icell) ∧ z.2.2.2.2.2.map (·.1) = (xs.take z.1).filter (btw a b) ∧ ∀ p ∈ z.2.2.2.2.2, BS M1 p.2 p.1.val) (fun z => xs.length - z.1)
  (0, M1, none, 0, [], []) (Keep.cons (t := 6) rfl (Keep.cons (t := 7) rfl (Keep.cons (t := 9) rfl (Keep.cons (t := 10) rfl (Keep.cons (t := 11) rfl Keep.nil))))) ⟨Nat.zero_le _, Own.nil _ _, rfl, fun _ h => by cases h⟩ (fun _ h => h) ?_
 rintro ⟨k, Mk, oa, oc, R, ps⟩ ⟨hk0, hO, hpm, hpb⟩
 try dsimp only at hk0 hO hpm hpb ⊢
 refine jc_seq ?_
 refine jc_seq ?_
 refine jc_region ?_
 iterate 2 refine jp rfl ?_
 refine jl_q rfl rfl (qLen rfl rfl rfl) ?_
 refine js rfl (fun h18 => ?_) (fun h18 => ?_)
 ·refine jl_nil ?_
  refine jT ?_
  refine jc_yes rfl ?_
  refine jc_skip ?_
  refine jT ?_
  refine jc_seq ?_
  refine jc_block ?_
  refine jc_seq ?_
  refine jc_draw [(0, true), (1, true), (2, true), (3, true), (4, true), (5, true), (6, true), (7, true), (8, true), (9, true), (10, true), (11, true), (12, true), (13, true), (14, true), (15, true), (16, true), (17, true)] _ (by kernel_rfl) (by kernel_rfl) (by kernel_rfl) rfl (fun _ h => h) ?_
  iterate 2 refine dp rfl rfl ?_
  have hk1 : k < xs.length := by omega
  obtain ⟨sb, so, va, vc, e0, hcl, hvc, hvs⟩ := it_get hs hp hb hk1 (i := (k : Int)) rfl
  refine jd_q rfl rfl rfl (qIdxE rfl rfl rfl rfl e0 (by omega)) ?_
  refine jd_q rfl rfl rfl (qFieldAddr rfl rfl rfl rfl rfl) ?_
  refine jd_q rfl rfl rfl (qLdA (cs := kcells xs[k].key) rfl rfl rfl rfl rfl (fun i v hv => (hcl i v (key_of_itc hv)).cj _)) ?_
  refine jd_q rfl rfl rfl (qLdL rfl rfl rfl rfl rfl) ?_
  refine jd_q rfl rfl rfl (qCall rfl rfl rfl rfl rfl (by kernel_rfl) (rless_spec xs[k].key a M1)) ?_
  refine jd_qb rfl rfl rfl (qP rfl rfl) (fun h28 => ?_) (fun h28 => ?_)
  ·refine dp rfl rfl ?_
   refine jd_q rfl rfl rfl (qLdL rfl rfl rfl rfl rfl) ?_
   iterate 2 refine dp rfl rfl ?_
   refine jd_q rfl rfl rfl (qIdxE rfl rfl rfl rfl e0 (by omega)) ?_
   refine jd_q rfl rfl rfl (qFieldAddr rfl rfl rfl rfl rfl) ?_
   refine jd_q rfl rfl rfl (qLdA (cs := kcells xs[k].key) rfl rfl rfl rfl rfl (fun i v hv => (hcl i v (key_of_itc hv)).cj _)) ?_
   refine jd_q rfl rfl rfl (qCall rfl rfl rfl rfl rfl (by kernel_rfl) (rless_spec b xs[k].key M1)) ?_
   refine jd_qb rfl rfl rfl (qP rfl rfl) (fun h37 => ?_) (fun h37 => ?_)
   ·refine dp rfl rfl ?_
    refine jd_nil ?_
    refine jPn ?_
    refine jT ?_
    refine jc_yes rfl ?_
    refine jc_region ?_
    iterate 3 refine jp rfl ?_
    refine jl_q rfl rfl (qIdxE rfl rfl rfl rfl e0 (by omega)) ?_
    refine jl_q rfl rfl (qLdA (cs := itc xs[k] va vc) rfl rfl rfl rfl rfl (fun i v hv => (hcl i v hv).cj _)) ?_
    refine jl_h rfl rfl (hBuildSlice (cs := itc xs[k] va vc) rfl rfl rfl (by rfl) (by rfl) (by rfl)) ?_; rintro _ _ _ ⟨b44, rfl, rfl, rfl⟩
    have hpl : ps.length ≤ xs.length := by have := congrArg List.length hpm; rw [List.length_map] at this; rw [this]; exact Nat.le_trans (List.length_filter_le _ _) (by rw [List.length_take]; omega)
    refine jl_h rfl rfl (hAppend (R := R) (m := 1) (news := itc xs[k] va vc) rfl rfl rfl rfl hO rfl (fun i v hv => CJ.loc (by simpa using hv)) rfl (by rfl) (fun u hu => List.all_eq_true.1 (rfl : ((itc xs[k] va vc).all fun v => v.oneCell') = true) u hu) (by omega) (by omega)) ?_; rintro v45 _ _ ⟨rfl, R45, rfl, o45, _⟩
    obtain ⟨a45, c45, rfl⟩ := o45.form
    refine jp rfl ?_
    refine jl_nil ?_
    refine jB ?_
    refine jT ?_
    refine jc_region ?_
    refine jp rfl ?_
    refine ja rfl (by omega) ?_
    refine jp rfl ?_
    refine jl_nil ?_
    refine j_again (k + 1, M1, a45, c45, R45, ps ++ [(xs[k], .slice va xs[k].val.length vc)]) (Keep.cons (t := 6) rfl (Keep.cons (t := 7) rfl (Keep.ceq (t := 9) rfl (by first | rfl | (rw [List.length_append]; rfl)) (Keep.cons (t := 10) rfl (Keep.cons (t := 11) rfl Keep.nil))))) ⟨by show k + 1 ≤ xs.length; omega, ?_, ?_, ?_⟩ (by show xs.length - (k + 1) < xs.length - k; omega) (fun _ h => h.subC fun f => by simp only [List.map_append, List.map_cons, List.map_nil, List.sum_append, List.sum_cons, List.sum_nil]; omega)
    ·show Own (.slice a45 (ps ++ [_]).length c45) R45 IT 5 (ps ++ [_]).length ((ps ++ [_]).flatMap icell)
     rw [List.length_append, List.flatMap_append]; exact o45
    ·show List.map (fun p : It × Value => p.1) (ps ++ [_]) = (xs.take (k + 1)).filter (btw a b)
     rw [List.map_append, hpm, List.take_succ_eq_append_getElem hk1, List.filter_append, List.filter_cons_of_pos (by unfold btw; simp at h28 h37; simp [h28, h37])]; rfl
    ·intro p hp3
     rcases List.mem_append.1 hp3 with hp3 | hp3
     ·exact hpb p hp3
     ·rw [List.mem_singleton.1 hp3]; exact ⟨va, vc, rfl, hvc, hvs⟩
   ·refine dp rfl rfl ?_
    refine jd_nil ?_
    refine jPn ?_
    refine jT ?_
    refine jc_no rfl ?_
    refine jc_skip ?_
    refine jB ?_
    refine jT ?_
    refine jc_region ?_
    refine jp rfl ?_
    refine ja rfl (by omega) ?_
    refine jp rfl ?_
    refine jl_nil ?_
    refine j_again (k + 1, M1, oa, oc, R, ps) (Keep.cons (t := 6) rfl (Keep.cons (t := 7) rfl (Keep.ceq (t := 9) rfl (by first | rfl | (rw [List.length_append]; rfl)) (Keep.cons (t := 10) rfl (Keep.cons (t := 11) rfl Keep.nil))))) ⟨by show k + 1 ≤ xs.length; omega, hO, ?_, hpb⟩ (by show xs.length - (k + 1) < xs.length - k; omega) (fun _ h => h)
    ·show ps.map (·.1) = (xs.take (k + 1)).filter (btw a b)
     rw [hpm, List.take_succ_eq_append_getElem hk1, List.filter_append, List.filter_cons_of_neg (by unfold btw; simp at h28 h37; simp [h28, h37])]; simp
  ·iterate 10 refine dp rfl rfl ?_
   refine jd_nil ?_
   refine jPn ?_
   refine jT ?_
   refine jc_no rfl ?_
   refine jc_skip ?_
   refine jB ?_
   refine jT ?_
   refine jc_region ?_
   refine jp rfl ?_
   refine ja rfl (by omega) ?_
   refine jp rfl ?_
   refine jl_nil ?_
   refine j_again (k + 1, M1, oa, oc, R, ps) (Keep.cons (t := 6) rfl (Keep.cons (t := 7) rfl (Keep.ceq (t := 9) rfl (by first | rfl | (rw [List.length_append]; rfl)) (Keep.cons (t := 10) rfl (Keep.cons (t := 11) rfl Keep.nil))))) ⟨by show k + 1 ≤ xs.length; omega, hO, ?_, hpb⟩ (by show xs.length - (k + 1) < xs.length - k; omega) (fun _ h => h)
   ·show ps.map (·.1) = (xs.take (k + 1)).filter (btw a b)
    rw [hpm, List.take_succ_eq_append_getElem hk1, List.filter_append, List.filter_cons_of_neg (by unfold btw; simp at h28; simp [h28])]; simp
 ·refine jl_nil ?_
  refine jT ?_
  refine jc_no rfl ?_
  refine jc_exit ?_
  refine jTx ?_
  refine jTx ?_
  refine jBx ?_
  refine jT ?_
  refine jc_seq ?_
  refine jc_region ?_
  iterate 2 refine jp rfl ?_
  refine jl_nil ?_
  refine jT ?_
  refine jc_ret ?_
  refine jq_drop (L' := R) (by simp) ?_
  refine jq_own hO (by simp) ?_
  intro M9 a9 c9 hM9 e9 hc9 hs9; cases e9
  refine jr1 rfl rfl ?_
  obtain rfl : k = xs.length := by omega
  rw [List.take_length] at hpm
  have hpl : ps.length = (xs.filter (btw a b)).length := by rw [← hpm, List.length_map]
  exact ⟨⟨_, _, ps, by rw [hpl], by rw [← hpl]; exact hc9, hs9, hpm, fun p hp => (hpb p hp).mono hM9⟩, rfl⟩


theorem rbetween_spec (s : Sto) (u : Value) (M : Mem) (hS : ST M u s) (root : Int) (a b : Ky) (xs : List It) (hn : xs.length ≤ 1000000) (hit : SpecL Tryz.prog 37 #[u, .int .i64 root] M [] fun v M' L' => NS M' v xs ∧ L' = []) : SpecL Tryz.prog 19 #[u, .int .i64 root, .agg (kcells a).toArray, .agg (kcells b).toArray] M [] fun u M' L' => NS M' u (xs.filter (btw a b)) ∧ L' = [] := by
 obtain ⟨b1, w, n, l0, rfl, _⟩ := id hS.ex
 exact rbetween_walk s b1 w n l0 M hS root a b xs hn hit

theorem rrange_walk (s : Sto) (bv wv nv lv0 : Value) (M : Mem) (hS : ST M (.agg #[bv, wv, nv, lv0]) s) (root : Int) (a b : Ky) (hf : fewS s) (hr : -9223372036854775808 ≤ root ∧ root ≤ 9223372036854775807)  :
  SpecL Tryz.prog 7 #[.agg #[bv, wv, nv, lv0], .int .i64 root, .agg (kcells a).toArray, .agg (kcells b).toArray] M [] fun u M' L' => (∃ v, u = .tuple #[v, .int .i64 (fchk s root).2] ∧ NS M' v (if (fchk s root).2 = 0 then rng s root a b else [])) ∧ L' = [] := by
 refine spec_body (vs := [_, _, _, _]) 26 _ Tryz.func7 rfl Tryz.ntmps7 rfl rfl ?_; intro W
 refine jc_seq ?_
 refine jc_region ?_
 refine jl_h rfl rfl (hBox (cs := [_, _, _, _]) rfl rfl rfl rfl) ?_; rintro _ _ _ ⟨b4, rfl, rfl, rfl⟩
 refine jl_h rfl rfl (hBox (cs := [_, _, _]) rfl rfl rfl rfl) ?_; rintro _ _ _ ⟨b6, rfl, rfl, rfl⟩
 refine jl_h rfl rfl (hBox (cs := [_, _, _]) rfl rfl rfl rfl) ?_; rintro _ _ _ ⟨b7, rfl, rfl, rfl⟩
 iterate 2 refine jp rfl ?_
 refine jl_nil ?_
 refine jT ?_
 refine jc_seq ?_
 refine jc_region ?_
 refine jl_q rfl rfl (qLdL rfl rfl rfl rfl rfl) ?_
 refine jp rfl ?_
 refine jl_h rfl rfl (hCall rfl rfl rfl rfl rfl (by kernel_rfl) (rchk10_fspec s _ root M hS hf hr)) ?_; rintro _ M1 _ ⟨hM1, _, rfl, ⟨rfl, rfl⟩⟩
 iterate 5 refine jp rfl ?_
 refine jl_nil ?_
 refine jT ?_
 refine jc_seq ?_
 refine jc_seq ?_
 refine jc_region ?_
 refine jp rfl ?_
 refine js rfl (fun h19 => ?_) (fun h19 => ?_)
 ·refine jl_nil ?_
  refine jT ?_
  refine jc_yes rfl ?_
  refine jc_seq ?_
  refine jc_region ?_
  iterate 3 refine jp rfl ?_
  refine jl_nil ?_
  refine jT ?_
  refine jc_ret ?_
  refine jTr ?_
  refine jq_drop (L' := []) (List.nil_sublist _) ?_
  refine jr2 rfl rfl rfl ?_
  exact ⟨⟨_, rfl, by rw [if_neg h19]; exact NS.nil⟩, rfl⟩
 ·refine jl_nil ?_
  refine jT ?_
  refine jc_no rfl ?_
  refine jc_skip ?_
  refine jT ?_
  refine jc_seq ?_
  refine jc_region ?_
  refine jl_q rfl rfl (qLdL rfl rfl rfl rfl rfl) ?_
  refine jp rfl ?_
  refine jl_q rfl rfl (qLdL rfl rfl rfl rfl rfl) ?_
  refine jl_q rfl rfl (qLdL rfl rfl rfl rfl rfl) ?_
  obtain ⟨hst, hr8, hr256, hnz, lev, xs, hnd, htr, hfl⟩ := fchk_ok (Classical.not_not.1 h19)
  have hno := ndAt_ok hnd
  have hlv := hno.lev
  have hsm := all_small (s := s) (l := lev) (xs := xs) (by omega) hno.len
  have hall : allT s root = allL s lev xs := by unfold allT; rw [hnd]; rfl
  refine jl_h rfl rfl (hCall rfl rfl rfl rfl rfl (by kernel_rfl) (rbetween_spec s _ M1 (hS.mono hM1) root a b (allL s lev xs) (by unfold allL; omega) (ritems_all s hst lev root xs _ M1 (hS.mono hM1) (by omega) hnd htr))) ?_; rintro _ M2 _ ⟨hM2, _, rfl, ⟨hns, rfl⟩⟩
  iterate 2 refine jp rfl ?_
  refine jl_nil ?_
  refine jT ?_
  refine jc_ret ?_
  refine jq_drop (L' := []) (List.nil_sublist _) ?_
  refine jr2 rfl rfl rfl ?_
  have h0 := Classical.not_not.1 h19
  exact ⟨⟨_, by rw [h0], by rw [if_pos h0, rng_is h0, hall]; exact hns⟩, rfl⟩


theorem rrange_spec (s : Sto) (u : Value) (M : Mem) (hS : ST M u s) (root : Int) (a b : Ky) (hf : fewS s) (hr : -9223372036854775808 ≤ root ∧ root ≤ 9223372036854775807) : SpecL Tryz.prog 7 #[u, .int .i64 root, .agg (kcells a).toArray, .agg (kcells b).toArray] M [] fun u M' L' => (∃ v, u = .tuple #[v, .int .i64 (fchk s root).2] ∧ NS M' v (if (fchk s root).2 = 0 then rng s root a b else [])) ∧ L' = [] := by
 obtain ⟨b1, w, n, l0, rfl, _⟩ := id hS.ex
 exact rrange_walk s b1 w n l0 M hS root a b hf hr

end Go.Proofs.YtkjghgndmpbfiaaGreat
namespace Go.Proofs.YtkjghgndmpbfiaaGreat
set_option linter.unusedVariables false
set_option linter.unusedSimpArgs false
open Go.RowKit

def onN (N : List Int) (j : Nat) : Prop := 0 < N.getD j 0
structure MI (T : Nat) (N : List Int) : Prop where
 len : N.length = 256
 bd : ∀ j, 0 ≤ N.getD j 0 ∧ N.getD j 0 ≤ T
def inc (N : List Int) (k : Nat) : List Int := N.set k (N.getD k 0 + 1)
theorem inc_get {N : List Int} {k : Nat} (h : k < N.length) (j : Nat) : (inc N k).getD j 0 = if j = k then N.getD k 0 + 1 else N.getD j 0 := by
 unfold inc
 by_cases e : j = k
 ·subst e; rw [if_pos rfl]; simp [List.getD, h]
 ·rw [if_neg e]; simp [List.getD, List.getElem?_set_ne (fun h => e h.symm)]
theorem MI.up {T T' : Nat} {N : List Int} (h : MI T N) (hT : T ≤ T') : MI T' N := ⟨h.len, fun j => ⟨(h.bd j).1, by have := (h.bd j).2; omega⟩⟩
theorem MI.inc {T : Nat} {N : List Int} {k : Nat} (h : MI T N) (hk : k < 256) : MI (T + 1) (inc N k) := by
 refine ⟨by rw [Proofs.YtkjghgndmpbfiaaGreat.inc, List.length_set]; exact h.len, fun j => ?_⟩
 rw [inc_get (by rw [h.len]; exact hk)]
 have h1 := h.bd j; have h2 := h.bd k
 split <;> omega
theorem on_inc {T : Nat} {N : List Int} {k : Nat} (h : MI T N) (hk : k < 256) {j : Nat} : onN (inc N k) j ↔ j = k ∨ onN N j := by
 unfold onN
 rw [inc_get (by rw [h.len]; exact hk)]
 have h2 := h.bd k
 split
 ·rename_i e; exact ⟨fun _ => .inl e, fun _ => by omega⟩
 ·rename_i e; exact ⟨.inr, fun h => h.resolve_left e⟩
theorem zget {N : List Int} {i : Int} (h : i.toNat < N.length) : (N.map encZ)[0 + i.toNat * 1]? = some (.int .i64 (N.getD i.toNat 0)) := by
 rw [Nat.zero_add, Nat.mul_one, List.getElem?_map, List.getElem?_eq_getElem h]; simp [List.getD, h]
theorem zfit {N : List Int} {i : Int} (h : i.toNat < N.length) : Nat.ble (0 + i.toNat * 1 + 1) (N.map encZ).length = true := by
 rw [List.length_map]; exact Nat.ble_eq_true_of_le (by omega)
theorem zset {N : List Int} {i : Int} (h : i.toNat < N.length) : (N.map encZ).take (0 + i.toNat * 1) ++ [Value.int .i64 (N.getD i.toNat 0 + 1)] ++ (N.map encZ).drop (0 + i.toNat * 1 + [Value.int .i64 (N.getD i.toNat 0 + 1)].length) = (inc N i.toNat).map encZ := by
 rw [Nat.zero_add, Nat.mul_one]
 unfold inc
 rw [List.map_set, List.set_eq_take_append_cons_drop, if_pos (by rw [List.length_map]; exact h)]
 simp
def Cl (s : Sto) (j : Nat) (N R : List Int) : Prop := ∀ lv ys, ndAt s j = some (lv, ys) → ∀ y ∈ ys, (0 < lv → onN N y.ref.toNat) ∧ (lv = 0 → y.ref ≠ 0 → onN R y.ref.toNat)
theorem Cl.mono {s : Sto} {j : Nat} {N R N' R' : List Int} (h : Cl s j N R) (h1 : ∀ j, onN N j → onN N' j) (h2 : ∀ j, onN R j → onN R' j) : Cl s j N' R' := fun lv ys hnd y hy => ⟨fun a => h1 _ ((h lv ys hnd y hy).1 a), fun a b => h2 _ ((h lv ys hnd y hy).2 a b)⟩
/-- what a call of Marks leaves -/
structure MkP (s : Sto) (k0 k : Nat) (N R N' R' : List Int) (T' : Nat) : Prop where
 n : MI T' N'
 r : MI T' R'
 sn : ∀ j, onN N j → onN N' j
 sr : ∀ j, onN R j → onN R' j
 me : onN N' k
 new : ∀ j, onN N' j → onN N j ∨ (Rch s k0 j ∧ Cl s j N' R')
 rnew : ∀ r : Nat, onN R' r → onN R r ∨ LRef s k0 (r : Int)
/-- .. and on the way through a node's items -/
structure MkI (s : Sto) (k0 k : Nat) (lv : Int) (xs : List It) (N0 R0 : List Int) (i : Nat) (N R : List Int) (T' : Nat) : Prop where
 n : MI T' N
 r : MI T' R
 sn : ∀ j, onN N0 j → onN N j
 sr : ∀ j, onN R0 j → onN R j
 me : onN N k
 new : ∀ j, onN N j → onN N0 j ∨ j = k ∨ (Rch s k0 j ∧ Cl s j N R)
 rnew : ∀ r : Nat, onN R r → onN R0 r ∨ LRef s k0 (r : Int)
 cl : ∀ y ∈ xs.take i, (0 < lv → onN N y.ref.toNat) ∧ (lv = 0 → y.ref ≠ 0 → onN R y.ref.toNat)
theorem MkI.start {s : Sto} {k0 k T : Nat} {lv : Int} {xs : List It} {N R : List Int} (hN : MI T N) (hR : MI T R) (hk : k < 256) : MkI s k0 k lv xs N R 0 (inc N k) R (T + 1) where
 n := hN.inc hk
 r := hR.up (Nat.le_succ _)
 sn := fun j h => (on_inc hN hk).2 (.inr h)
 sr := fun j h => h
 me := (on_inc hN hk).2 (.inl rfl)
 new := fun j h => ((on_inc hN hk).1 h).elim (fun e => .inr (.inl e)) .inl
 rnew := fun r h => .inl h
 cl := fun y h => by simp at h
theorem MkI.early {s : Sto} {k0 k T : Nat} {N R : List Int} (hN : MI T N) (hR : MI T R) (hk : k < 256) (h : 1 < N.getD k 0 + 1) {T' : Nat} (hT : T + 1 ≤ T') : MkP s k0 k N R (inc N k) R T' where
 n := (hN.inc hk).up hT
 r := hR.up (by omega)
 sn := fun j h => (on_inc hN hk).2 (.inr h)
 sr := fun j h => h
 me := (on_inc hN hk).2 (.inl rfl)
 new := fun j hj => .inl (((on_inc hN hk).1 hj).elim (fun e => by subst e; unfold onN; omega) id)
 rnew := fun r h => .inl h
theorem MkI.skip {s : Sto} {k0 k i : Nat} {xs : List It} {N0 R0 N R : List Int} {T' : Nat} (h : MkI s k0 k 0 xs N0 R0 i N R T') (hi : i < xs.length) (hx : xs[i].ref = 0) : MkI s k0 k 0 xs N0 R0 (i + 1) N R (T' + 1) where
 n := h.n.up (Nat.le_succ _)
 r := h.r.up (Nat.le_succ _)
 sn := h.sn
 sr := h.sr
 me := h.me
 new := h.new
 rnew := h.rnew
 cl := all_on hi h.cl ⟨fun a => absurd a (by decide), fun _ b => absurd hx b⟩
theorem MkI.ref {s : Sto} {k0 k i : Nat} {xs : List It} {N0 R0 N R : List Int} {T' : Nat} (h : MkI s k0 k 0 xs N0 R0 i N R T') (hi : i < xs.length) (hr : Rch s k0 k) (hnd : ndAt s k = some (0, xs)) (hx : xs[i].ref ≠ 0) (hx2 : 0 ≤ xs[i].ref ∧ xs[i].ref < 256) : MkI s k0 k 0 xs N0 R0 (i + 1) N (inc R xs[i].ref.toNat) (T' + 1) where
 n := h.n.up (Nat.le_succ _)
 r := h.r.inc (by omega)
 sn := h.sn
 sr := fun j hj => (on_inc h.r (by omega)).2 (.inr (h.sr j hj))
 me := h.me
 new := fun j hj => (h.new j hj).imp id fun h1 => h1.imp id fun h2 => ⟨h2.1, h2.2.mono (fun _ a => a) fun _ a => (on_inc h.r (by omega)).2 (.inr a)⟩
 rnew := fun r hj => ((on_inc h.r (by omega)).1 hj).elim (fun e => .inr (by subst e; rw [Int.toNat_of_nonneg hx2.1]; exact ⟨hx, k, xs, _, hr, hnd, List.getElem_mem hi, rfl⟩)) (h.rnew r)
 cl := all_on hi (fun y hy => ⟨(h.cl y hy).1, fun a b => (on_inc h.r (by omega)).2 (.inr ((h.cl y hy).2 a b))⟩) ⟨fun a => absurd a (by decide), fun _ _ => (on_inc h.r (by omega)).2 (.inl rfl)⟩
theorem MkI.kid {s : Sto} {k0 k i : Nat} {lv : Int} {xs : List It} {N0 R0 N R N' R' : List Int} {T' T2 : Nat} (h : MkI s k0 k lv xs N0 R0 i N R T') (hi : i < xs.length) (hlv : 0 < lv) (hp : MkP s k0 xs[i].ref.toNat N R N' R' T2) : MkI s k0 k lv xs N0 R0 (i + 1) N' R' T2 where
 n := hp.n
 r := hp.r
 sn := fun j hj => hp.sn j (h.sn j hj)
 sr := fun j hj => hp.sr j (h.sr j hj)
 me := hp.sn _ h.me
 new := fun j hj => (hp.new j hj).elim (fun h1 => (h.new j h1).imp id fun h1 => h1.imp id fun h2 => ⟨h2.1, h2.2.mono hp.sn hp.sr⟩) (fun h2 => .inr (.inr h2))
 rnew := fun r hj => (hp.rnew r hj).elim (h.rnew r) .inr
 cl := all_on hi (fun y hy => ⟨fun a => hp.sn _ ((h.cl y hy).1 a), fun a b => hp.sr _ ((h.cl y hy).2 a b)⟩) ⟨fun _ => hp.me, fun a => absurd a (by omega)⟩
theorem MkI.done {s : Sto} {k0 k i : Nat} {lv : Int} {xs : List It} {N0 R0 N R : List Int} {T' T2 : Nat} (h : MkI s k0 k lv xs N0 R0 i N R T') (hi : i = xs.length) (hr : Rch s k0 k) (hnd : ndAt s k = some (lv, xs)) (hT : T' ≤ T2) : MkP s k0 k N0 R0 N R T2 where
 n := h.n.up hT
 r := h.r.up hT
 sn := h.sn
 sr := h.sr
 me := h.me
 new := fun j hj => (h.new j hj).elim .inl fun h1 => .inr (h1.elim (fun e => by
  subst e
  refine ⟨hr, fun lv2 ys h2 y hy => ?_⟩
  rw [hnd] at h2; cases h2
  exact h.cl y (by rw [hi, List.take_length]; exact hy)) id)
 rnew := h.rnew
def vis : Nat → Nat
 | 0 => 6
 | l + 1 => 1 + 5 * vis l
def MkS (s : Sto) (k0 l : Nat) : Prop := ∀ (k : Int) (xs : List It) (N R : List Int) (T gN gR : Nat) (u : Value) (M : Mem), ST M u s → 8 ≤ k ∧ k < 256 → ndAt s k.toNat = some ((l : Int), xs) → treeOk s l xs → Rch s k0 k.toNat → MI T N → MI T R → T + vis l ≤ 1000000 →
 SpecL Tryz.prog 24 #[u, .int .i64 k, .slice (some ⟨gN, 0, none⟩) 256 256, .slice (some ⟨gR, 0, none⟩) 256 256] M [(gN, .cells (N.map encZ).toArray 3 (0, 0)), (gR, .cells (R.map encZ).toArray 3 (0, 0))] fun _ M' L' => ∃ N' R', L' = [(gN, .cells (N'.map encZ).toArray 3 (0, 0)), (gR, .cells (R'.map encZ).toArray 3 (0, 0))] ∧ MkP s k0 k.toNat N R N' R' (T + vis l)

set_option maxHeartbeats 2000000 in
theorem rmarks_leaf (s : Sto) (hst : stOk s) (bv wv nv lv0 : Value) (M : Mem) (hS : ST M (.agg #[bv, wv, nv, lv0]) s) (k0 : Nat) (k : Int) (hk : 8 ≤ k ∧ k < 256) (xs : List It) (N R : List Int) (T gN gR : Nat) (hr : Rch s k0 k.toNat) (hN : MI T N) (hR : MI T R) (hnd : ndAt s k.toNat = some (0, xs)) (hT : T + vis (0) ≤ 1000000) :
  SpecL Tryz.prog 24 #[.agg #[bv, wv, nv, lv0], .int .i64 k, .slice (some ⟨gN, 0, none⟩) 256 256, .slice (some ⟨gR, 0, none⟩) 256 256] M [(gN, .cells (List.map encZ N).toArray 3 (0, 0)), (gR, .cells (List.map encZ R).toArray 3 (0, 0))] fun _ M' L' => ∃ N' R', L' = [(gN, .cells (List.map encZ N').toArray 3 (0, 0)), (gR, .cells (List.map encZ R').toArray 3 (0, 0))] ∧ MkP s k0 k.toNat N R N' R' (T + vis (0)) := by
 have hno := ndAt_ok hnd
 have hx5 := hno.len
 have hlv := hno.lev
 have hvis : vis (0) = 6 := rfl
 refine spec_body (vs := [_, _, _, _]) 62 _ Tryz.func24 rfl Tryz.ntmps24 rfl rfl ?_; intro W
 refine jc_seq ?_
 refine jc_region ?_
 refine jl_h rfl rfl (hBox (cs := [_, _, _, _]) rfl rfl rfl rfl) ?_; rintro _ _ _ ⟨b4, rfl, rfl, rfl⟩
 refine jl_nil ?_
 refine jT ?_
 refine jc_seq ?_
 refine jc_region ?_
 iterate 4 refine jp rfl ?_
 have hNl := hN.len
 have hRl := hR.len
 have hb1 := hN.bd k.toNat
 refine jl_q rfl rfl (qIdxS rfl rfl rfl rfl (by omega)) ?_
 refine jl_q rfl rfl (qLd rfl rfl rfl rfl (CJ.loc (zget (N := N) (by omega)))) ?_
 refine ja rfl (by omega) ?_
 refine jl_q rfl rfl (qIdxS rfl rfl rfl rfl (by omega)) ?_
 refine jl_s rfl (hStoreL (l2 := (inc N k.toNat).map encZ) rfl rfl rfl rfl rfl rfl rfl (zfit (N := N) (by omega)) (zset (N := N) (by omega))) ?_; rintro _ _ _ ⟨rfl, rfl⟩
 have hik : (inc N k.toNat).getD k.toNat 0 = N.getD k.toNat 0 + 1 := by rw [inc_get (by omega), if_pos rfl]
 have hil := (hN.inc (k := k.toNat) (by omega)).len
 refine jl_nil ?_
 refine jT ?_
 refine jc_seq ?_
 refine jc_seq ?_
 refine jc_region ?_
 iterate 2 refine jp rfl ?_
 refine jl_q rfl rfl (qIdxS rfl rfl rfl rfl (by omega)) ?_
 refine jl_q rfl rfl (qLd rfl rfl rfl rfl (CJ.loc (zget (N := inc N k.toNat) (by omega)))) ?_
 refine js rfl (fun h24 => ?_) (fun h24 => ?_)
 ·refine jl_nil ?_
  refine jT ?_
  refine jc_yes rfl ?_
  refine jc_ret ?_
  refine jTr ?_
  refine jq_weak (L' := [(gN, .cells (List.map encZ (inc N k.toNat)).toArray 3 (0, 0)), (gR, .cells (List.map encZ R).toArray 3 (0, 0))]) (fun _ h => h.subC fun f => by simp only [List.map_append, List.map_cons, List.map_nil, List.sum_append, List.sum_cons, List.sum_nil]; omega) ?_
  refine jrs (rs := []) rfl .nil ?_
  exact ⟨_, _, rfl, MkI.early hN hR (by omega) (by omega) (by omega)⟩
 ·refine jl_nil ?_
  refine jT ?_
  refine jc_no rfl ?_
  refine jc_skip ?_
  refine jT ?_
  refine jc_seq ?_
  refine jc_region ?_
  refine jl_q rfl rfl (qLdL rfl rfl rfl rfl rfl) ?_
  refine jp rfl ?_
  refine jl_h rfl rfl (hCall rfl rfl rfl rfl rfl (by kernel_rfl) (rread8_yes s _ M hS hst k (by omega) hnd)) ?_; rintro _ M1 _ ⟨hM1, _, rfl, ⟨⟨a, c, ps0, rfl, hc, hs, hp, hb⟩, rfl⟩⟩
  iterate 3 refine jp rfl ?_
  refine jl_h rfl rfl (hAlloc rfl rfl) ?_; rintro _ _ _ ⟨b8, rfl, rfl, rfl⟩
  refine jl_s rfl (hStoreL rfl rfl rfl rfl rfl rfl rfl rfl) ?_; rintro _ _ _ ⟨rfl, rfl⟩
  refine jp rfl ?_
  refine jl_nil ?_
  refine jT ?_
  refine jc_seq ?_
  refine jc_region ?_
  refine jp rfl ?_
  refine jl_nil ?_
  refine jT ?_
  refine jc_block ?_
  refine jc_loopK (α := Nat × Mem × List Int × List Int) (fun z => [(2, .slice (some ⟨gN, 0, none⟩) 256 256), (3, .slice (some ⟨gR, 0, none⟩) 256 256), (4, .pointer (some ⟨b4, 0, none⟩)), (8, .pointer (some ⟨b8, 0, none⟩)), (10, .int .i64 z.1)]) (fun z => z.2.1) (fun z => [(b8, .cells [Value.int .i64 0, .slice a xs.length c].toArray 66 (0, 0)), (b4, .cells [bv, wv, nv, lv0].toArray 28 (0, 0)), (gN, .cells (List.map encZ z.2.2.1).toArray 3 (0, 0)), (gR, .cells (List.map encZ z.2.2.2).toArray 3 (0, 0))]) (fun z => z.1 ≤ xs.length ∧ MLe M1 z.2.1 ∧ MkI s k0 k.toNat (0) xs N R z.1 z.2.2.1 z.2.2.2 (T + 1 + z.1 * 1)) (fun z => xs.length - z.1)
   (0, M1, inc N k.toNat, R) (Keep.cons (t := 2) rfl (Keep.cons (t := 3) rfl (Keep.cons (t := 4) rfl (Keep.cons (t := 8) rfl (Keep.cons (t := 10) rfl Keep.nil))))) ⟨Nat.zero_le _, MLe.refl _, by show MkI _ _ _ _ _ _ _ 0 _ _ (T + 1 + 0 * _); rw [Nat.zero_mul]; exact MkI.start hN hR (by omega)⟩ (fun _ h => h.subC fun f => by simp only [List.map_append, List.map_cons, List.map_nil, List.sum_append, List.sum_cons, List.sum_nil]; omega) ?_
  rintro ⟨i, Mk, N2, R2⟩ ⟨hi, hMk, hI⟩
  try dsimp only at hi hMk hI ⊢
  refine jc_seq ?_
  refine jc_seq ?_
  refine jc_region ?_
  refine jp rfl ?_
  refine jl_q rfl rfl (qFieldAddr rfl rfl rfl rfl rfl) ?_
  refine jl_q rfl rfl (qLd rfl rfl rfl rfl (CJ.loc rfl)) ?_
  refine jl_q rfl rfl (qLen rfl rfl rfl) ?_
  refine js rfl (fun h35 => ?_) (fun h35 => ?_)
  ·refine jl_nil ?_
   refine jT ?_
   refine jc_yes rfl ?_
   refine jc_skip ?_
   refine jT ?_
   refine jc_seq ?_
   refine jc_block ?_
   refine jc_seq ?_
   refine jc_region ?_
   refine jl_q rfl rfl (qFieldAddr rfl rfl rfl rfl rfl) ?_
   refine jl_q rfl rfl (qLd rfl rfl rfl rfl (CJ.loc rfl)) ?_
   refine jp rfl ?_
   have hi1 : i < xs.length := by omega
   obtain ⟨sb, so, va, vc, e0, hcl, hvc, hvs⟩ := it_get hs hp hb hi1 (i := (i : Int)) rfl
   have hrf := hno.ref _ (List.getElem_mem hi1)
   refine jl_q rfl rfl (qIdxE rfl rfl rfl rfl e0 (by omega)) ?_
   refine jl_q rfl rfl (qFieldAddr rfl rfl rfl rfl rfl) ?_
   refine jl_q rfl rfl (qLd rfl rfl rfl rfl (((hcl 3 _ rfl).mono hMk).cj _)) ?_
   refine jp rfl ?_
   refine jl_nil ?_
   refine jT ?_
   refine jc_seq ?_
   refine jc_region ?_
   refine jl_q rfl rfl (qFieldAddr rfl rfl rfl rfl rfl) ?_
   refine jl_q rfl rfl (qLd rfl rfl rfl rfl (CJ.loc rfl)) ?_
   refine jf rfl (decide_eq_false (by omega)) ?_
   refine jl_nil ?_
   refine jT ?_
   refine jc_no rfl ?_
   refine jc_seq ?_
   refine jc_region ?_
   refine jp rfl ?_
   refine js rfl (fun h53 => ?_) (fun h53 => ?_)
   ·refine jl_nil ?_
    refine jT ?_
    refine jc_yes rfl ?_
    refine jc_region ?_
    iterate 4 refine jp rfl ?_
    have hRl2 := hI.r.len
    have hb3 := hI.r.bd xs[i].ref.toNat
    refine jl_q rfl rfl (qIdxS rfl rfl rfl rfl (by omega)) ?_
    refine jl_q rfl rfl (qLd rfl rfl rfl rfl (CJ.loc (zget (N := R2) (by omega)))) ?_
    refine ja rfl (by omega) ?_
    refine jl_q rfl rfl (qIdxS rfl rfl rfl rfl (by omega)) ?_
    refine jl_s rfl (hStoreL (l2 := (inc R2 xs[i].ref.toNat).map encZ) rfl rfl rfl rfl rfl rfl rfl (zfit (N := R2) (by omega)) (zset (N := R2) (by omega))) ?_; rintro _ _ _ ⟨rfl, rfl⟩
    refine jl_nil ?_
    refine jB ?_
    refine jT ?_
    refine jc_region ?_
    refine jp rfl ?_
    refine ja rfl (by omega) ?_
    refine jp rfl ?_
    refine jl_nil ?_
    refine j_again (i + 1, Mk, N2, (inc R2 xs[i].ref.toNat)) (Keep.cons (t := 2) rfl (Keep.cons (t := 3) rfl (Keep.cons (t := 4) rfl (Keep.cons (t := 8) rfl (Keep.cons (t := 10) rfl Keep.nil))))) ⟨by show i + 1 ≤ xs.length; omega, hMk, ?_⟩ (by show xs.length - (i + 1) < xs.length - i; omega) (fun _ h => h.subC fun f => by simp only [List.map_append, List.map_cons, List.map_nil, List.sum_append, List.sum_cons, List.sum_nil]; omega)
    show MkI s k0 k.toNat (0) xs N R (i + 1) N2 (inc R2 xs[i].ref.toNat) (T + 1 + (i + 1) * 1)
    rw [show T + 1 + (i + 1) * 1 = T + 1 + i * 1 + 1 by rw [Nat.add_mul, Nat.one_mul]; omega]
    exact hI.ref hi1 hr hnd h53 (by omega)
   ·refine jl_nil ?_
    refine jT ?_
    refine jc_no rfl ?_
    refine jc_skip ?_
    refine jB ?_
    refine jT ?_
    refine jc_region ?_
    refine jp rfl ?_
    refine ja rfl (by omega) ?_
    refine jp rfl ?_
    refine jl_nil ?_
    refine j_again (i + 1, Mk, N2, R2) (Keep.cons (t := 2) rfl (Keep.cons (t := 3) rfl (Keep.cons (t := 4) rfl (Keep.cons (t := 8) rfl (Keep.cons (t := 10) rfl Keep.nil))))) ⟨by show i + 1 ≤ xs.length; omega, hMk, ?_⟩ (by show xs.length - (i + 1) < xs.length - i; omega) (fun _ h => h.subC fun f => by simp only [List.map_append, List.map_cons, List.map_nil, List.sum_append, List.sum_cons, List.sum_nil]; omega)
    show MkI s k0 k.toNat (0) xs N R (i + 1) N2 R2 (T + 1 + (i + 1) * 1)
    rw [show T + 1 + (i + 1) * 1 = T + 1 + i * 1 + 1 by rw [Nat.add_mul, Nat.one_mul]; omega]
    exact hI.skip hi1 (by omega)
  ·refine jl_nil ?_
   refine jT ?_
   refine jc_no rfl ?_
   refine jc_exit ?_
   refine jTx ?_
   refine jTx ?_
   refine jBx ?_
   refine jrn ?_
   refine jq_weak (L' := [(gN, .cells (List.map encZ N2).toArray 3 (0, 0)), (gR, .cells (List.map encZ R2).toArray 3 (0, 0))]) (fun _ h => h.subC fun f => by simp only [List.map_append, List.map_cons, List.map_nil, List.sum_append, List.sum_cons, List.sum_nil]; omega) ?_
   refine jrs (rs := []) rfl .nil ?_
   have hvm : i * 1 ≤ 5 * 1 := Nat.mul_le_mul_right _ (by omega)
   exact ⟨_, _, rfl, hI.done (by omega) hr hnd (by omega)⟩

set_option maxHeartbeats 2000000 in
theorem rmarks_up (s : Sto) (hst : stOk s) (bv wv nv lv0 : Value) (M : Mem) (hS : ST M (.agg #[bv, wv, nv, lv0]) s) (k0 : Nat) (k : Int) (hk : 8 ≤ k ∧ k < 256) (xs : List It) (N R : List Int) (T gN gR : Nat) (hr : Rch s k0 k.toNat) (hN : MI T N) (hR : MI T R) (l : Nat) (hnd : ndAt s k.toNat = some (((l + 1 : Nat) : Int), xs)) (htr : treeOk s (l + 1) xs) (ih : MkS s k0 l) (hT : T + vis (l + 1) ≤ 1000000) :
  SpecL Tryz.prog 24 #[.agg #[bv, wv, nv, lv0], .int .i64 k, .slice (some ⟨gN, 0, none⟩) 256 256, .slice (some ⟨gR, 0, none⟩) 256 256] M [(gN, .cells (List.map encZ N).toArray 3 (0, 0)), (gR, .cells (List.map encZ R).toArray 3 (0, 0))] fun _ M' L' => ∃ N' R', L' = [(gN, .cells (List.map encZ N').toArray 3 (0, 0)), (gR, .cells (List.map encZ R').toArray 3 (0, 0))] ∧ MkP s k0 k.toNat N R N' R' (T + vis (l + 1)) := by
 have hno := ndAt_ok hnd
 have hx5 := hno.len
 have hlv := hno.lev
 have hvis : vis (l + 1) = 1 + 5 * vis l := rfl
 refine spec_body (vs := [_, _, _, _]) 62 _ Tryz.func24 rfl Tryz.ntmps24 rfl rfl ?_; intro W
 refine jc_seq ?_
 refine jc_region ?_
 refine jl_h rfl rfl (hBox (cs := [_, _, _, _]) rfl rfl rfl rfl) ?_; rintro _ _ _ ⟨b4, rfl, rfl, rfl⟩
 refine jl_nil ?_
 refine jT ?_
 refine jc_seq ?_
 refine jc_region ?_
 iterate 4 refine jp rfl ?_
 have hNl := hN.len
 have hRl := hR.len
 have hb1 := hN.bd k.toNat
 refine jl_q rfl rfl (qIdxS rfl rfl rfl rfl (by omega)) ?_
 refine jl_q rfl rfl (qLd rfl rfl rfl rfl (CJ.loc (zget (N := N) (by omega)))) ?_
 refine ja rfl (by omega) ?_
 refine jl_q rfl rfl (qIdxS rfl rfl rfl rfl (by omega)) ?_
 refine jl_s rfl (hStoreL (l2 := (inc N k.toNat).map encZ) rfl rfl rfl rfl rfl rfl rfl (zfit (N := N) (by omega)) (zset (N := N) (by omega))) ?_; rintro _ _ _ ⟨rfl, rfl⟩
 have hik : (inc N k.toNat).getD k.toNat 0 = N.getD k.toNat 0 + 1 := by rw [inc_get (by omega), if_pos rfl]
 have hil := (hN.inc (k := k.toNat) (by omega)).len
 refine jl_nil ?_
 refine jT ?_
 refine jc_seq ?_
 refine jc_seq ?_
 refine jc_region ?_
 iterate 2 refine jp rfl ?_
 refine jl_q rfl rfl (qIdxS rfl rfl rfl rfl (by omega)) ?_
 refine jl_q rfl rfl (qLd rfl rfl rfl rfl (CJ.loc (zget (N := inc N k.toNat) (by omega)))) ?_
 refine js rfl (fun h24 => ?_) (fun h24 => ?_)
 ·refine jl_nil ?_
  refine jT ?_
  refine jc_yes rfl ?_
  refine jc_ret ?_
  refine jTr ?_
  refine jq_weak (L' := [(gN, .cells (List.map encZ (inc N k.toNat)).toArray 3 (0, 0)), (gR, .cells (List.map encZ R).toArray 3 (0, 0))]) (fun _ h => h.subC fun f => by simp only [List.map_append, List.map_cons, List.map_nil, List.sum_append, List.sum_cons, List.sum_nil]; omega) ?_
  refine jrs (rs := []) rfl .nil ?_
  exact ⟨_, _, rfl, MkI.early hN hR (by omega) (by omega) (by omega)⟩
 ·refine jl_nil ?_
  refine jT ?_
  refine jc_no rfl ?_
  refine jc_skip ?_
  refine jT ?_
  refine jc_seq ?_
  refine jc_region ?_
  refine jl_q rfl rfl (qLdL rfl rfl rfl rfl rfl) ?_
  refine jp rfl ?_
  refine jl_h rfl rfl (hCall rfl rfl rfl rfl rfl (by kernel_rfl) (rread8_yes s _ M hS hst k (by omega) hnd)) ?_; rintro _ M1 _ ⟨hM1, _, rfl, ⟨⟨a, c, ps0, rfl, hc, hs, hp, hb⟩, rfl⟩⟩
  iterate 3 refine jp rfl ?_
  refine jl_h rfl rfl (hAlloc rfl rfl) ?_; rintro _ _ _ ⟨b8, rfl, rfl, rfl⟩
  refine jl_s rfl (hStoreL rfl rfl rfl rfl rfl rfl rfl rfl) ?_; rintro _ _ _ ⟨rfl, rfl⟩
  refine jp rfl ?_
  refine jl_nil ?_
  refine jT ?_
  refine jc_seq ?_
  refine jc_region ?_
  refine jp rfl ?_
  refine jl_nil ?_
  refine jT ?_
  refine jc_block ?_
  refine jc_loopK (α := Nat × Mem × List Int × List Int) (fun z => [(2, .slice (some ⟨gN, 0, none⟩) 256 256), (3, .slice (some ⟨gR, 0, none⟩) 256 256), (4, .pointer (some ⟨b4, 0, none⟩)), (8, .pointer (some ⟨b8, 0, none⟩)), (10, .int .i64 z.1)]) (fun z => z.2.1) (fun z => [(b8, .cells [Value.int .i64 ((l + 1 : Nat) : Int), .slice a xs.length c].toArray 66 (0, 0)), (b4, .cells [bv, wv, nv, lv0].toArray 28 (0, 0)), (gN, .cells (List.map encZ z.2.2.1).toArray 3 (0, 0)), (gR, .cells (List.map encZ z.2.2.2).toArray 3 (0, 0))]) (fun z => z.1 ≤ xs.length ∧ MLe M1 z.2.1 ∧ MkI s k0 k.toNat (((l + 1 : Nat) : Int)) xs N R z.1 z.2.2.1 z.2.2.2 (T + 1 + z.1 * vis l)) (fun z => xs.length - z.1)
   (0, M1, inc N k.toNat, R) (Keep.cons (t := 2) rfl (Keep.cons (t := 3) rfl (Keep.cons (t := 4) rfl (Keep.cons (t := 8) rfl (Keep.cons (t := 10) rfl Keep.nil))))) ⟨Nat.zero_le _, MLe.refl _, by show MkI _ _ _ _ _ _ _ 0 _ _ (T + 1 + 0 * _); rw [Nat.zero_mul]; exact MkI.start hN hR (by omega)⟩ (fun _ h => h.subC fun f => by simp only [List.map_append, List.map_cons, List.map_nil, List.sum_append, List.sum_cons, List.sum_nil]; omega) ?_
  rintro ⟨i, Mk, N2, R2⟩ ⟨hi, hMk, hI⟩
  try dsimp only at hi hMk hI ⊢
  refine jc_seq ?_
  refine jc_seq ?_
  refine jc_region ?_
  refine jp rfl ?_
  refine jl_q rfl rfl (qFieldAddr rfl rfl rfl rfl rfl) ?_
  refine jl_q rfl rfl (qLd rfl rfl rfl rfl (CJ.loc rfl)) ?_
  refine jl_q rfl rfl (qLen rfl rfl rfl) ?_
  refine js rfl (fun h35 => ?_) (fun h35 => ?_)
  ·refine jl_nil ?_
   refine jT ?_
   refine jc_yes rfl ?_
   refine jc_skip ?_
   refine jT ?_
   refine jc_seq ?_
   refine jc_block ?_
   refine jc_seq ?_
   refine jc_region ?_
   refine jl_q rfl rfl (qFieldAddr rfl rfl rfl rfl rfl) ?_
   refine jl_q rfl rfl (qLd rfl rfl rfl rfl (CJ.loc rfl)) ?_
   refine jp rfl ?_
   have hi1 : i < xs.length := by omega
   obtain ⟨sb, so, va, vc, e0, hcl, hvc, hvs⟩ := it_get hs hp hb hi1 (i := (i : Int)) rfl
   have hrf := hno.ref _ (List.getElem_mem hi1)
   have hup := hno.up (by omega) _ (List.getElem_mem hi1)
   obtain ⟨ys, hyn, hys0, hyt⟩ := tree_child htr (List.getElem_mem hi1)
   refine jl_q rfl rfl (qIdxE rfl rfl rfl rfl e0 (by omega)) ?_
   refine jl_q rfl rfl (qFieldAddr rfl rfl rfl rfl rfl) ?_
   refine jl_q rfl rfl (qLd rfl rfl rfl rfl (((hcl 3 _ rfl).mono hMk).cj _)) ?_
   refine jp rfl ?_
   refine jl_nil ?_
   refine jT ?_
   refine jc_seq ?_
   refine jc_region ?_
   refine jl_q rfl rfl (qFieldAddr rfl rfl rfl rfl rfl) ?_
   refine jl_q rfl rfl (qLd rfl rfl rfl rfl (CJ.loc rfl)) ?_
   refine jt rfl (decide_eq_true (by omega)) ?_
   refine jl_nil ?_
   refine jT ?_
   refine jc_yes rfl ?_
   refine jc_region ?_
   refine jl_q rfl rfl (qLdL rfl rfl rfl rfl rfl) ?_
   iterate 3 refine jp rfl ?_
   have hvl : 1 ≤ vis l := by cases l <;> simp only [vis] <;> omega
   have hvm : i * vis l ≤ 4 * vis l := Nat.mul_le_mul_right _ (by omega)
   refine jl_h rfl rfl (hCall rfl rfl rfl rfl rfl (by kernel_rfl) (ih xs[i].ref ys N2 R2 (T + 1 + i * vis l) gN gR _ Mk (hS.mono (hM1.trans hMk)) (by omega) hyn hyt (.kid hr hnd (by omega) (List.getElem_mem hi1)) hI.n hI.r (by omega))) ?_; rintro _ M2 _ ⟨hM2, _, rfl, ⟨N3, R3, rfl, hP⟩⟩
   refine jl_nil ?_
   refine jB ?_
   refine jT ?_
   refine jc_region ?_
   refine jp rfl ?_
   refine ja rfl (by omega) ?_
   refine jp rfl ?_
   refine jl_nil ?_
   refine j_again (i + 1, M2, N3, R3) (Keep.cons (t := 2) rfl (Keep.cons (t := 3) rfl (Keep.cons (t := 4) rfl (Keep.cons (t := 8) rfl (Keep.cons (t := 10) rfl Keep.nil))))) ⟨by show i + 1 ≤ xs.length; omega, hMk.trans hM2, ?_⟩ (by show xs.length - (i + 1) < xs.length - i; omega) (fun _ h => h.subC fun f => by simp only [List.map_append, List.map_cons, List.map_nil, List.sum_append, List.sum_cons, List.sum_nil]; omega)
   show MkI s k0 k.toNat (((l + 1 : Nat) : Int)) xs N R (i + 1) N3 R3 (T + 1 + (i + 1) * vis l)
   rw [show T + 1 + (i + 1) * vis l = T + 1 + i * vis l + vis l by rw [Nat.add_mul, Nat.one_mul]; omega]
   exact hI.kid hi1 (by omega) hP
  ·refine jl_nil ?_
   refine jT ?_
   refine jc_no rfl ?_
   refine jc_exit ?_
   refine jTx ?_
   refine jTx ?_
   refine jBx ?_
   refine jrn ?_
   refine jq_weak (L' := [(gN, .cells (List.map encZ N2).toArray 3 (0, 0)), (gR, .cells (List.map encZ R2).toArray 3 (0, 0))]) (fun _ h => h.subC fun f => by simp only [List.map_append, List.map_cons, List.map_nil, List.sum_append, List.sum_cons, List.sum_nil]; omega) ?_
   refine jrs (rs := []) rfl .nil ?_
   have hvm : i * vis l ≤ 5 * vis l := Nat.mul_le_mul_right _ (by omega)
   exact ⟨_, _, rfl, hI.done (by omega) hr hnd (by omega)⟩

end Go.Proofs.YtkjghgndmpbfiaaGreat
namespace Go.Proofs.YtkjghgndmpbfiaaGreat
set_option linter.unusedVariables false
set_option linter.unusedSimpArgs false
open Go.RowKit

theorem rmarks_all (s : Sto) (hst : stOk s) (k0 : Nat) : ∀ l, MkS s k0 l := by
 intro l
 induction l with
 | zero =>
  intro k xs N R T gN gR u M hS hk hnd htr hr hN hR hT
  obtain ⟨b, w, n, l0, rfl, _⟩ := hS.ex
  exact rmarks_leaf s hst b w n l0 M hS k0 k hk xs N R T gN gR hr hN hR hnd hT
 | succ l ih =>
  intro k xs N R T gN gR u M hS hk hnd htr hr hN hR hT
  obtain ⟨b, w, n, l0, rfl, _⟩ := hS.ex
  exact rmarks_up s hst b w n l0 M hS k0 k hk xs N R T gN gR hr hN hR l hnd htr ih hT
theorem vis_le : ∀ {l : Nat}, l < 6 → vis l ≤ 30000 := by
 intro l h
 rcases (show l = 0 ∨ l = 1 ∨ l = 2 ∨ l = 3 ∨ l = 4 ∨ l = 5 by omega) with rfl | rfl | rfl | rfl | rfl | rfl <;> decide
/-- the marked ones, in order -/
def mkd (N : List Int) (n : Nat) : List Int := List.map (fun j : Nat => (j : Int)) ((List.range n).filter fun j => decide (0 < N.getD j 0))
theorem mkd_on {N : List Int} {k : Nat} (h : 0 < N.getD k 0) : mkd N (k + 1) = mkd N k ++ [(k : Int)] := by
 unfold mkd; rw [List.range_succ, List.filter_append, List.filter_cons_of_pos (by simpa using h), List.map_append]; rfl
theorem mkd_off {N : List Int} {k : Nat} (h : ¬ 0 < N.getD k 0) : mkd N (k + 1) = mkd N k := by
 unfold mkd; rw [List.range_succ, List.filter_append, List.filter_cons_of_neg (by simpa using h)]; simp
theorem mkd_len (N : List Int) (n : Nat) : (mkd N n).length ≤ n := by
 unfold mkd; rw [List.length_map]; exact Nat.le_trans (List.length_filter_le _ _) (Nat.le_of_eq List.length_range)
theorem mkd_up (N : List Int) (n : Nat) : (mkd N n).Pairwise (· < ·) := by
 unfold mkd
 rw [List.pairwise_map]
 exact (List.pairwise_lt_range.filter _).imp fun h => by omega
theorem mkd_mem {N : List Int} (h : N.length = 256) {x : Int} : x ∈ mkd N 256 ↔ ∃ j : Nat, x = (j : Int) ∧ onN N j := by
 unfold mkd onN
 rw [List.mem_map]
 constructor
 ·rintro ⟨j, hj, rfl⟩
  rw [List.mem_filter, decide_eq_true_eq] at hj
  exact ⟨j, rfl, hj.2⟩
 ·rintro ⟨j, rfl, hj⟩
  refine ⟨j, List.mem_filter.2 ⟨List.mem_range.2 ?_, decide_eq_true hj⟩, rfl⟩
  rcases Nat.lt_or_ge j 256 with h2 | h2
  ·exact h2
  ·rw [List.getD, List.getElem?_eq_none (by omega)] at hj; exact absurd hj (by decide)
theorem nds_of {s : Sto} {k0 : Nat} {N R N' R' : List Int} {T : Nat} (hp : MkP s k0 k0 N R N' R' T) (h1 : ∀ j, ¬ onN N j) (h2 : ∀ j, ¬ onN R j) {lev : Nat} {xs : List It} (h0 : 8 ≤ k0 ∧ k0 < 256) (hnd : ndAt s k0 = some ((lev : Int), xs)) (ht : treeOk s lev xs) : NdsOk s k0 (mkd N' 256) (mkd R' 256) := by
 have hall : ∀ {n : Nat}, Rch s k0 n → onN N' n := by
  intro n hr
  induction hr with
  | root => exact hp.me
  | kid hr hnd2 hl hx ih =>
   have h3 := (hp.new _ ih).resolve_left (h1 _)
   exact (h3.2 _ _ hnd2 _ hx).1 hl
 refine ⟨mkd_up _ _, fun x => (mkd_mem hp.n.len).trans ⟨?_, ?_⟩, mkd_up _ _, fun x => (mkd_mem hp.r.len).trans ⟨?_, ?_⟩⟩
 ·rintro ⟨j, rfl, hj⟩; exact ⟨j, rfl, ((hp.new _ hj).resolve_left (h1 _)).1⟩
 ·rintro ⟨j, rfl, hj⟩; exact ⟨j, rfl, hall hj⟩
 ·rintro ⟨j, rfl, hj⟩; exact (hp.rnew _ hj).resolve_left (h2 _)
 ·intro hl
  have hl2 := hl.now h0 hnd ht
  obtain ⟨hk, n, ys, x, hr, hnd2, hx, rfl⟩ := hl
  have h3 := (hp.new _ (hall hr)).resolve_left (h1 _)
  exact ⟨x.ref.toNat, by omega, (h3.2 _ _ hnd2 _ hx).2 rfl hk⟩
theorem lt_ext : ∀ {xs ys : List Int}, xs.Pairwise (· < ·) → ys.Pairwise (· < ·) → (∀ x, x ∈ xs ↔ x ∈ ys) → xs = ys
 | [], [], _, _, _ => rfl
 | [], y :: _, _, _, h => absurd ((h y).2 (by simp)) (by simp)
 | x :: _, [], _, _, h => absurd ((h x).1 (by simp)) (by simp)
 | x :: xs, y :: ys, h1, h2, h => by
  rw [List.pairwise_cons] at h1 h2
  have e : x = y := by
   rcases List.mem_cons.1 ((h x).1 (by simp)) with e | hx
   ·exact e
   ·rcases List.mem_cons.1 ((h y).2 (by simp)) with e | hy
    ·exact e.symm
    ·have := h2.1 x hx; have := h1.1 y hy; omega
  subst e
  rw [lt_ext h1.2 h2.2 fun z => ⟨fun hz => ?_, fun hz => ?_⟩]
  ·rcases List.mem_cons.1 ((h z).1 (by simp [hz])) with e | hz2
   ·have := h1.1 z hz; omega
   ·exact hz2
  ·rcases List.mem_cons.1 ((h z).2 (by simp [hz])) with e | hz2
   ·have := h2.1 z hz; omega
   ·exact hz2
theorem nds_same {s : Sto} {k0 : Nat} {a b c d : List Int} (h1 : NdsOk s k0 a b) (h2 : NdsOk s k0 c d) : a = c ∧ b = d :=
 ⟨lt_ext h1.up h2.up fun x => (h1.is x).trans (h2.is x).symm, lt_ext h1.rup h2.rup fun x => (h1.ris x).trans (h2.ris x).symm⟩
theorem rep_z {n : Nat} : (List.replicate n [Value.int .i64 0]).flatten = (List.replicate n (0 : Int)).map encZ := by
 induction n with
 | zero => rfl
 | succ n ih => rw [List.replicate_succ, List.flatten_cons, ih, List.replicate_succ, List.map_cons]; rfl
theorem MI.zero : MI 0 (List.replicate 256 0) := by
 refine ⟨by rw [List.length_replicate], fun j => ?_⟩
 have e : (List.replicate 256 (0 : Int)).getD j 0 = 0 := by rw [List.getD, List.getElem?_replicate]; split <;> rfl
 rw [e]; omega
theorem off_zero (j : Nat) : ¬ onN (List.replicate 256 0) j := by
 unfold onN
 have e : (List.replicate 256 (0 : Int)).getD j 0 = 0 := by rw [List.getD, List.getElem?_replicate]; split <;> rfl
 rw [e]; omega

theorem rmarked_walk (g : Nat) (N : List Int) (hN : N.length = 256) (M : Mem) :
  SpecL Tryz.prog 25 #[.slice (some ⟨g, 0, none⟩) 256 256] M [(g, .cells (List.map encZ N).toArray 3 (0, 0))] fun u M' L' => IS M' u (mkd N 256) ∧ L' = [(g, .cells (List.map encZ N).toArray 3 (0, 0))] := by
 refine spec_body (vs := [_]) 21 _ Tryz.func25 rfl Tryz.ntmps25 rfl rfl ?_; intro W
 refine jc_seq ?_
 refine jc_region ?_
 refine jp rfl ?_
 refine jl_nil ?_
 refine jT ?_
 refine jc_seq ?_
 refine jc_region ?_
 refine jp rfl ?_
 refine jl_nil ?_
 refine jT ?_
 refine jc_seq ?_
 refine jc_seq ?_
 refine jc_region ?_
 refine jp rfl ?_
 refine jl_nil ?_
 refine jT ?_
 refine jc_block ?_
 refine jc_loopK (α := Nat × Option Addr × Nat × Lc) (fun z => [(0, .slice (some ⟨g, 0, none⟩) 256 256), (3, .slice z.2.1 (mkd N z.1).length z.2.2.1), (4, .int .i64 z.1)]) (fun _ => M) (fun z => z.2.2.2 ++ [(g, .cells (List.map encZ N).toArray 3 (0, 0))]) (fun z => z.1 ≤ 256 ∧ Own (.slice z.2.1 (mkd N z.1).length z.2.2.1) z.2.2.2 3 1 (mkd N z.1).length ((mkd N z.1).map encZ)) (fun z => 256 - z.1)
  (0, none, 0, []) (Keep.cons (t := 0) rfl (Keep.cons (t := 3) rfl (Keep.cons (t := 4) rfl Keep.nil))) ⟨Nat.zero_le _, Own.nil _ _⟩ (fun _ h => h) ?_
 rintro ⟨k, oa, oc, R⟩ ⟨hk, hO⟩
 try dsimp only at hk hO ⊢
 refine jc_seq ?_
 refine jc_seq ?_
 refine jc_region ?_
 iterate 2 refine jp rfl ?_
 refine jl_q rfl rfl (qLen rfl rfl rfl) ?_
 refine js rfl (fun h8 => ?_) (fun h8 => ?_)
 ·refine jl_nil ?_
  refine jT ?_
  refine jc_yes rfl ?_
  refine jc_skip ?_
  refine jT ?_
  refine jc_seq ?_
  refine jc_block ?_
  refine jc_seq ?_
  refine jc_region ?_
  iterate 2 refine jp rfl ?_
  refine jl_q rfl rfl (qIdxS rfl rfl rfl rfl (by omega)) ?_
  refine jl_q rfl rfl (qLd rfl rfl rfl rfl (CJ.loc (zget (N := N) (by omega)))) ?_
  refine js rfl (fun h15 => ?_) (fun h15 => ?_)
  ·refine jl_nil ?_
   refine jT ?_
   refine jc_yes rfl ?_
   refine jc_region ?_
   iterate 2 refine jp rfl ?_
   rw [Int.toNat_natCast] at h15
   refine jl_h rfl rfl (hBuildSlice (cs := [.int .i64 (k : Int)]) rfl rfl rfl (by rfl) (by rfl) (by rfl)) ?_; rintro _ _ _ ⟨b18, rfl, rfl, rfl⟩
   have hml := mkd_len N k
   refine jl_h rfl rfl (hAppend (R := R) (m := 1) (news := [Value.int .i64 (k : Int)]) rfl rfl rfl rfl hO rfl (fun i v hv => CJ.loc (by rw [Nat.zero_add]; simpa using hv)) rfl (by rfl) (fun u hu => by rw [List.mem_singleton.1 hu]; rfl) (by omega) (by omega)) ?_; rintro v19 _ _ ⟨rfl, R19, rfl, o19, _⟩
   obtain ⟨a19, c19, rfl⟩ := o19.form
   refine jp rfl ?_
   refine jl_nil ?_
   refine jB ?_
   refine jT ?_
   refine jc_region ?_
   refine jp rfl ?_
   refine ja rfl (by omega) ?_
   refine jp rfl ?_
   refine jl_nil ?_
   refine j_again (k + 1, a19, c19, R19) (Keep.cons (t := 0) rfl (Keep.ceq (t := 3) rfl (by first | (rw [mkd_on h15, List.length_append]; rfl) | (rw [mkd_off (by simpa using h15)])) (Keep.cons (t := 4) rfl Keep.nil))) ⟨by show k + 1 ≤ 256; omega, ?_⟩ (by show 256 - (k + 1) < 256 - k; omega) (fun _ h => h.subC fun f => by simp only [List.map_append, List.map_cons, List.map_nil, List.sum_append, List.sum_cons, List.sum_nil]; omega)
   show Own (.slice a19 (mkd N (k + 1)).length c19) R19 _ 1 (mkd N (k + 1)).length ((mkd N (k + 1)).map encZ)
   rw [mkd_on h15, List.length_append, List.map_append]; exact o19
  ·refine jl_nil ?_
   refine jT ?_
   refine jc_no rfl ?_
   refine jc_skip ?_
   refine jB ?_
   refine jT ?_
   refine jc_region ?_
   refine jp rfl ?_
   refine ja rfl (by omega) ?_
   refine jp rfl ?_
   refine jl_nil ?_
   refine j_again (k + 1, oa, oc, R) (Keep.cons (t := 0) rfl (Keep.ceq (t := 3) rfl (by first | (rw [mkd_on h15, List.length_append]; rfl) | (rw [mkd_off (by simpa using h15)])) (Keep.cons (t := 4) rfl Keep.nil))) ⟨by show k + 1 ≤ 256; omega, ?_⟩ (by show 256 - (k + 1) < 256 - k; omega) (fun _ h => h)
   show Own (.slice oa (mkd N (k + 1)).length oc) R _ 1 (mkd N (k + 1)).length ((mkd N (k + 1)).map encZ)
   rw [mkd_off (by simpa using h15)]; exact hO
 ·refine jl_nil ?_
  refine jT ?_
  refine jc_no rfl ?_
  refine jc_exit ?_
  refine jTx ?_
  refine jTx ?_
  refine jBx ?_
  refine jT ?_
  refine jc_seq ?_
  refine jc_region ?_
  iterate 2 refine jp rfl ?_
  refine jl_nil ?_
  refine jT ?_
  refine jc_ret ?_
  refine jq_ownY hO (by simp) ?_
  intro M9 a9 c9 hM9 e9 hc9 hs9; cases e9
  refine jr1 rfl rfl ?_
  obtain rfl : k = 256 := by omega
  exact ⟨⟨_, _, rfl, hc9, hs9.mono (newOf_le _ _)⟩, rfl⟩

set_option maxHeartbeats 1000000 in
theorem rnodes_walk (s : Sto) (bv wv nv lv0 : Value) (M : Mem) (hS : ST M (.agg #[bv, wv, nv, lv0]) s) (root : Int) (hf : fewS s) (hr : -9223372036854775808 ≤ root ∧ root ≤ 9223372036854775807)  :
  SpecL Tryz.prog 9 #[.agg #[bv, wv, nv, lv0], .int .i64 root] M [] fun u M' L' => NdsPost s root u M' ∧ L' = [] := by
 refine spec_body (vs := [_, _]) 31 _ Tryz.func9 rfl Tryz.ntmps9 rfl rfl ?_; intro W
 refine jc_seq ?_
 refine jc_region ?_
 refine jl_h rfl rfl (hBox (cs := [_, _, _, _]) rfl rfl rfl rfl) ?_; rintro _ _ _ ⟨b2, rfl, rfl, rfl⟩
 iterate 3 refine jp rfl ?_
 refine jl_nil ?_
 refine jT ?_
 refine jc_seq ?_
 refine jc_region ?_
 refine jl_q rfl rfl (qLdL rfl rfl rfl rfl rfl) ?_
 refine jp rfl ?_
 refine jl_h rfl rfl (hCall rfl rfl rfl rfl rfl (by kernel_rfl) (rchk10_fspec s _ root M hS hf hr)) ?_; rintro _ M1 _ ⟨hM1, _, rfl, ⟨rfl, rfl⟩⟩
 iterate 5 refine jp rfl ?_
 refine jl_nil ?_
 refine jT ?_
 refine jc_seq ?_
 refine jc_seq ?_
 refine jc_region ?_
 refine jp rfl ?_
 refine js rfl (fun h18 => ?_) (fun h18 => ?_)
 ·refine jl_nil ?_
  refine jT ?_
  refine jc_yes rfl ?_
  refine jc_seq ?_
  refine jc_region ?_
  iterate 4 refine jp rfl ?_
  refine jl_nil ?_
  refine jT ?_
  refine jc_ret ?_
  refine jTr ?_
  refine jq_drop (L' := []) (List.nil_sublist _) ?_
  refine jr3 rfl rfl rfl rfl ?_
  exact ⟨by unfold NdsPost; rw [if_neg h18]; rfl, rfl⟩
 ·refine jl_nil ?_
  refine jT ?_
  refine jc_no rfl ?_
  refine jc_skip ?_
  refine jT ?_
  refine jc_seq ?_
  refine jc_drawA ([(b2, .cells [bv, wv, nv, lv0].toArray 28 (0, 0))]) (by kernel_rfl) ((fun _ h => h)) ?_
  refine ja_merge (α := Nat × Nat) (fun _ => True) (fun q => [(1, .int .i64 root), (2, .pointer (some ⟨b2, 0, none⟩)), (9, .slice (some ⟨q.1, 0, none⟩) 256 256), (10, .slice (some ⟨q.2, 0, none⟩) 256 256)]) (fun _ => M1) (fun q => [(q.1, .cells (List.map encZ (List.replicate 256 0)).toArray 3 (0, 0)), (q.2, .cells (List.map encZ (List.replicate 256 0)).toArray 3 (0, 0)), (b2, .cells [bv, wv, nv, lv0].toArray 28 (0, 0))]) 0 #[true, true, true, true] ?_ (fun rest => ?_)
  ·rintro ⟨b20, b21⟩ _
   try dsimp only
   refine ja_end (by kernel_rfl) ?_
   refine jPn ?_
   refine jT ?_
   refine jc_seq ?_
   refine jc_region ?_
   refine jl_q rfl rfl (qLdL rfl rfl rfl rfl rfl) ?_
   iterate 3 refine jp rfl ?_
   obtain ⟨hst, hr8, hr256, hnz, lev, xs, hnd, htr, hfl⟩ := fchk_ok (Classical.not_not.1 h18)
   have hvl := vis_le (l := lev) (by have := (ndAt_ok hnd).lev.2; omega)
   refine jl_h rfl rfl (hCall rfl rfl rfl rfl rfl (by kernel_rfl) (rmarks_all s hst root.toNat lev root xs (List.replicate 256 0) (List.replicate 256 0) 0 b20 b21 _ M1 (hS.mono hM1) (by omega) hnd htr .root MI.zero MI.zero (by omega))) ?_; rintro _ M2 _ ⟨hM2, _, rfl, ⟨N2, R2, rfl, hP⟩⟩
   simp only [List.cons_append, List.nil_append]
   refine jl_nil ?_
   refine jT ?_
   refine jc_seq ?_
   refine jc_region ?_
   refine jp rfl ?_
   refine jl_h rfl rfl (hCall rfl rfl rfl rfl rfl (by kernel_rfl) (rmarked_walk b20 N2 hP.n.len M2)) ?_; rintro _ M3 _ ⟨hM3, _, rfl, ⟨hi1, rfl⟩⟩
   obtain ⟨ia, ic, rfl, _, _⟩ := id hi1
   refine jp rfl ?_
   refine jl_h rfl rfl (hCall rfl rfl rfl rfl rfl (by kernel_rfl) (rmarked_walk b21 R2 hP.r.len M3)) ?_; rintro _ M4 _ ⟨hM4, _, rfl, ⟨hi2, rfl⟩⟩
   iterate 3 refine jp rfl ?_
   refine jl_nil ?_
   refine jT ?_
   refine jc_ret ?_
   refine jq_drop (L' := []) (List.nil_sublist _) ?_
   refine jr3 rfl rfl rfl rfl ?_
   have h0 := Classical.not_not.1 h18
   exact ⟨by unfold NdsPost; rw [if_pos h0]; exact ⟨_, _, _, _, rfl, hi1.mono hM4, hi2, nds_of hP off_zero off_zero (by omega) hnd htr⟩, rfl⟩
  refine ja_fork [0, 1] (by kernel_rfl) rfl ⟨?_, ?_, trivial⟩
  ·refine js_h rfl rfl rfl (hMake rfl rfl rfl rfl (by omega) (by rfl)) ?_; rintro _ _ _ ⟨b20, rfl, rfl, rfl⟩
   refine ja_grow (MLe.refl _) (fun _ h => by first | exact List.mem_cons_of_mem _ h | exact List.mem_cons_of_mem _ (List.mem_cons_of_mem _ h)) ?_
   rw [show (List.replicate (256 : Int).toNat [Value.int .i64 0]).flatten = (List.replicate 256 0).map encZ from rep_z]
   refine ja_p (i := 2) rfl (by kernel_rfl) (by kernel_rfl) rfl ?_
   refine ja_fork [1] (by kernel_rfl) rfl ⟨?_, trivial⟩
   ·refine js_h rfl rfl rfl (hMake rfl rfl rfl rfl (by omega) (by rfl)) ?_; rintro _ _ _ ⟨b21, rfl, rfl, rfl⟩
    refine ja_grow (MLe.refl _) (fun _ h => by first | exact List.mem_cons_of_mem _ h | exact List.mem_cons_of_mem _ (List.mem_cons_of_mem _ h)) ?_
    rw [show (List.replicate (256 : Int).toNat [Value.int .i64 0]).flatten = (List.replicate 256 0).map encZ from rep_z]
    refine ja_p (i := 3) rfl (by kernel_rfl) (by kernel_rfl) rfl ?_
    refine ja_cast (listed' := #[true, true, true, true]) (by kernel_rfl) (ja_keep (Keep.cons (t := 1) rfl (Keep.cons (t := 2) rfl (Keep.cons (t := 9) rfl (Keep.cons (t := 10) rfl Keep.nil)))) ?_)
    refine ja_weak (M2 := M1) (L2 := [(b20, .cells (List.map encZ (List.replicate 256 0)).toArray 3 (0, 0)), (b21, .cells (List.map encZ (List.replicate 256 0)).toArray 3 (0, 0)), (b2, .cells [bv, wv, nv, lv0].toArray 28 (0, 0))]) (fun _ h => h.subC fun f => by simp only [List.map_append, List.map_cons, List.map_nil, List.sum_append, List.sum_cons, List.sum_nil]; omega) (MLe.refl _) (fun _ h => List.mem_cons_of_mem _ (List.mem_cons_of_mem _ h)) ?_
    exact rest (b20, b21) trivial
  ·refine js_h rfl rfl rfl (hMake rfl rfl rfl rfl (by omega) (by rfl)) ?_; rintro _ _ _ ⟨b21, rfl, rfl, rfl⟩
   refine ja_grow (MLe.refl _) (fun _ h => by first | exact List.mem_cons_of_mem _ h | exact List.mem_cons_of_mem _ (List.mem_cons_of_mem _ h)) ?_
   rw [show (List.replicate (256 : Int).toNat [Value.int .i64 0]).flatten = (List.replicate 256 0).map encZ from rep_z]
   refine ja_fork [0] (by kernel_rfl) rfl ⟨?_, trivial⟩
   ·refine js_h rfl rfl rfl (hMake rfl rfl rfl rfl (by omega) (by rfl)) ?_; rintro _ _ _ ⟨b20, rfl, rfl, rfl⟩
    refine ja_grow (MLe.refl _) (fun _ h => by first | exact List.mem_cons_of_mem _ h | exact List.mem_cons_of_mem _ (List.mem_cons_of_mem _ h)) ?_
    rw [show (List.replicate (256 : Int).toNat [Value.int .i64 0]).flatten = (List.replicate 256 0).map encZ from rep_z]
    refine ja_p (i := 2) rfl (by kernel_rfl) (by kernel_rfl) rfl ?_
    refine ja_p (i := 3) rfl (by kernel_rfl) (by kernel_rfl) rfl ?_
    refine ja_cast (listed' := #[true, true, true, true]) (by kernel_rfl) (ja_keep (Keep.cons (t := 1) rfl (Keep.cons (t := 2) rfl (Keep.cons (t := 9) rfl (Keep.cons (t := 10) rfl Keep.nil)))) ?_)
    refine ja_weak (M2 := M1) (L2 := [(b20, .cells (List.map encZ (List.replicate 256 0)).toArray 3 (0, 0)), (b21, .cells (List.map encZ (List.replicate 256 0)).toArray 3 (0, 0)), (b2, .cells [bv, wv, nv, lv0].toArray 28 (0, 0))]) (fun _ h => h.subC fun f => by simp only [List.map_append, List.map_cons, List.map_nil, List.sum_append, List.sum_cons, List.sum_nil]; omega) (MLe.refl _) (fun _ h => List.mem_cons_of_mem _ (List.mem_cons_of_mem _ h)) ?_
    exact rest (b20, b21) trivial


theorem rnodes_spec (s : Sto) (u : Value) (M : Mem) (hS : ST M u s) (root : Int) (hf : fewS s) (hr : -9223372036854775808 ≤ root ∧ root ≤ 9223372036854775807) : SpecL Tryz.prog 9 #[u, .int .i64 root] M [] fun u M' L' => NdsPost s root u M' ∧ L' = [] := by
 obtain ⟨b1, w, n, l0, rfl, _⟩ := id hS.ex
 exact rnodes_walk s b1 w n l0 M hS root hf hr

end Go.Proofs.YtkjghgndmpbfiaaGreat
