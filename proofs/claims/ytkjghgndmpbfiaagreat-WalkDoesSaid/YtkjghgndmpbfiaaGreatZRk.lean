/- The document's trees, without a program in sight: its check is the check of find. -/
import Derived.Test.YtkjghgndmpbfiaaGreatZRh
import Derived.Test.YtkjghgndmpbfiaaGreatZTree
namespace Go.Proofs.YtkjghgndmpbfiaaGreat
set_option linter.unusedVariables false
set_option linter.unusedSectionVars false
set_option linter.unusedSimpArgs false
open Go.RowKit

theorem it_get {M : Mem} {a : Option Addr} {xs : List It} {ps : List (It × Value)} (hs : SM M a (ps.flatMap icell)) (hp : ps.map (·.1) = xs) (hb : ∀ p ∈ ps, BS M p.2 p.1.val) {k : Nat} (hk : k < xs.length) {i : Int} (hi : i = (k : Int)) : ∃ sb so va vc, a = some ⟨sb, so, none⟩ ∧ (∀ j v, (itc xs[k] va vc)[j]? = some v → CM M sb (so + i.toNat * 5 + j) v) ∧ xs[k].val.length ≤ vc ∧ SM M va (bcells xs[k].val) := by
 obtain ⟨sb, so, e0, hx⟩ := hs.open (by intro e; have := congrArg List.length e; rw [flat_len icell 5 icell_len, List.length_nil] at this; have h2 := congrArg List.length hp; rw [List.length_map] at h2; omega)
 obtain ⟨va, vc, hcl, hvc, hvs⟩ := items_get hx hp hb hk
 exact ⟨sb, so, va, vc, e0, fun j v h => by rw [hi, Int.toNat_natCast]; exact hcl j v h, hvc, hvs⟩
def lastK (xs : List It) : Ky := match xs[xs.length - 1]? with | some x => x.key | none => ⟨0, 0, 0⟩
def rGo (f : It → Ky → Bool → Bool) (to : Ky) (ends : Bool) : List It → Bool
 | [] => true
 | [x] => f x to ends
 | x :: y :: r => f x y.key true && rGo f to ends (y :: r)
def rIn (s : Sto) : Nat → List It → Ky → Bool → Bool
 | 0, xs, _, _ => xs.all fun x => (oneOf s 0 x).is
 | l + 1, xs, to, ends => rGo (fun x to ends => match ndAt s x.ref.toNat with
  | some (lv, ys) => decide (lv = (l : Int)) && decide (ys ≠ []) && decide (headK ys = x.key) && (!ends || kless (lastK ys) to) && rIn s l ys to ends
  | none => false) to ends xs
def rRt (s : Sto) (l : Nat) (k : Int) (q to : Ky) (ends : Bool) : Bool := match ndAt s k.toNat with
 | some (lv, ys) => decide (lv = (l : Int)) && decide (ys ≠ []) && decide (headK ys = q) && (!ends || kless (lastK ys) to) && rIn s l ys to ends
 | none => false
theorem rIn_up {s : Sto} {l : Nat} {xs : List It} {to : Ky} {ends : Bool} : rIn s (l + 1) xs to ends = rGo (fun x => rRt s l x.ref x.key) to ends xs := rfl
theorem rgo_mid {f : It → Ky → Bool → Bool} {to : Ky} {ends : Bool} {xs : List It} {k : Nat} (h : k + 1 < xs.length) : rGo f to ends (xs.drop k) = (f xs[k] xs[k + 1].key true && rGo f to ends (xs.drop (k + 1))) := by
 rw [List.drop_eq_getElem_cons (by omega : k < xs.length), List.drop_eq_getElem_cons h, rGo]
theorem rgo_last {f : It → Ky → Bool → Bool} {to : Ky} {ends : Bool} {xs : List It} {k : Nat} (h : k < xs.length) (h2 : ¬ k + 1 < xs.length) : rGo f to ends (xs.drop k) = (f xs[k] to ends && rGo f to ends (xs.drop (k + 1))) := by
 rw [List.drop_eq_getElem_cons h, List.drop_eq_nil_of_le (by omega), rGo, rGo, Bool.and_true]
theorem rgo_end {f : It → Ky → Bool → Bool} {to : Ky} {ends : Bool} {xs : List It} {k : Nat} (h : k = xs.length) : rGo f to ends (xs.drop k) = true := by
 rw [List.drop_eq_nil_of_le (by omega), rGo]
theorem lastK_is {xs : List It} {k : Nat} (h : k < xs.length) (hk : k = xs.length - 1) : lastK xs = xs[k].key := by
 subst hk; unfold lastK; rw [List.getElem?_eq_getElem h]
theorem headK_is {xs : List It} (h : 0 < xs.length) : headK xs = xs[0].key := by cases xs with | nil => cases h | cons x r => rfl
theorem ky_ext {a b : Ky} : a = b ↔ [a.kind, a.id, a.off] = [b.kind, b.id, b.off] := by
 obtain ⟨a1, a2, a3⟩ := a; obtain ⟨b1, b2, b3⟩ := b; simp
theorem rread8_no (s : Sto) (u : Value) (M : Mem) (h : ST M u s) (hst : stOk s) (k : Int) (hk : 0 ≤ k ∧ k ≤ 100000) (hn : ndAt s k.toNat = none) : SpecL Tryz.prog 46 #[u, .int .i64 k] M [] fun u _ L' => (∃ lv a n c, u = .tuple #[.agg #[.int .i64 lv, .slice a n c], .bool false]) ∧ L' = [] := by
 have h1 := rread8_spec s u M h hst k.toNat (by omega)
 rw [show ((k.toNat : Nat) : Int) = k by omega] at h1
 exact h1.mono fun _ _ _ ⟨h2, h3⟩ => ⟨by unfold RdPost at h2; rw [hn] at h2; exact h2, h3⟩
theorem rread8_yes (s : Sto) (u : Value) (M : Mem) (h : ST M u s) (hst : stOk s) (k : Int) (hk : 0 ≤ k ∧ k ≤ 100000) {lv : Int} {ys : List It} (hn : ndAt s k.toNat = some (lv, ys)) : SpecL Tryz.prog 46 #[u, .int .i64 k] M [] fun u M' L' => (∃ a c, ∃ ps : List (It × Value), u = .tuple #[.agg #[.int .i64 lv, .slice a ys.length c], .bool true] ∧ ys.length ≤ c ∧ SM M' a (ps.flatMap icell) ∧ ps.map (·.1) = ys ∧ ∀ p ∈ ps, BS M' p.2 p.1.val) ∧ L' = [] := by
 have h1 := rread8_spec s u M h hst k.toNat (by omega)
 rw [show ((k.toNat : Nat) : Int) = k by omega] at h1
 refine h1.mono fun _ _ _ ⟨h2, h3⟩ => ⟨?_, h3⟩
 unfold RdPost at h2; rw [hn] at h2
 obtain ⟨sl, e, a, c, ps, rfl, h4, h5, h6, h7⟩ := h2
 exact ⟨a, c, ps, e, h4, h5, h6, h7⟩

set_option maxHeartbeats 1000000 in
theorem rleaf_walk (s : Sto) (hst : stOk s) (bv wv lv0 : Value) (na : Option Addr) (nc : Nat) (M : Mem) (h3 : SM M na (bcells s.now)) (lv : Int) (xs : List It) (a : Option Addr) (c : Nat) (ps : List (It × Value)) (hc : xs.length ≤ c) (hs : SM M a (ps.flatMap icell)) (hp : ps.map (·.1) = xs) (hb : ∀ p ∈ ps, BS M p.2 p.1.val) (hno : NdOk lv xs) :
  SpecL Tryz.prog 64 #[.agg #[bv, wv, .slice na s.now.length nc, lv0], .agg #[.int .i64 lv, .slice a xs.length c]] M [] fun u _ L' => u = .bool (xs.all fun x => (oneOf s 0 x).is) ∧ L' = [] := by
 have hn1 := hst.2.1.1
 have hx5 := hno.len
 refine spec_body (vs := [_, _]) 30 _ Tryz.func64 rfl Tryz.ntmps64 rfl rfl ?_; intro W
 refine jc_seq ?_
 refine jc_region ?_
 refine jl_h rfl rfl (hBox (cs := [_, _, _, _]) rfl rfl rfl rfl) ?_; rintro _ _ _ ⟨b2, rfl, rfl, rfl⟩
 refine jl_h rfl rfl (hBox (cs := [_, _]) rfl rfl rfl rfl) ?_; rintro _ _ _ ⟨b3, rfl, rfl, rfl⟩
 refine jp rfl ?_
 refine jl_nil ?_
 refine jT ?_
 refine jc_seq ?_
 refine jc_seq ?_
 refine jc_region ?_
 refine jp rfl ?_
 refine jl_nil ?_
 refine jT ?_
 refine jc_block ?_
 refine jc_loopK (α := Nat) (fun k => [(2, .pointer (some ⟨b2, 0, none⟩)), (3, .pointer (some ⟨b3, 0, none⟩)), (5, .int .i64 k)]) (fun _ => M) (fun _ => [(b3, .cells [Value.int .i64 lv, .slice a xs.length c].toArray 66 (0, 0)), (b2, .cells [bv, wv, .slice na s.now.length nc, lv0].toArray 28 (0, 0))]) (fun k => k ≤ xs.length ∧ ∀ y ∈ xs.take k, (oneOf s 0 y).is = true) (fun k => xs.length - k)
  0 (Keep.cons (t := 2) rfl (Keep.cons (t := 3) rfl (Keep.cons (t := 5) rfl Keep.nil))) ⟨Nat.zero_le _, fun y h => by simp at h⟩ (fun _ h => h) ?_
 rintro k ⟨hk, hall⟩
 try dsimp only at hk hall ⊢
 refine jc_seq ?_
 refine jc_seq ?_
 refine jc_region ?_
 refine jp rfl ?_
 refine jl_q rfl rfl (qFieldAddr rfl rfl rfl rfl rfl) ?_
 refine jl_q rfl rfl (qLd rfl rfl rfl rfl (CJ.loc rfl)) ?_
 refine jl_q rfl rfl (qLen rfl rfl rfl) ?_
 refine js rfl (fun h11 => ?_) (fun h11 => ?_)
 ·refine jl_nil ?_
  refine jT ?_
  refine jc_yes rfl ?_
  refine jc_skip ?_
  refine jT ?_
  refine jc_seq ?_
  refine jc_block ?_
  refine jc_seq ?_
  refine jc_region ?_
  refine jl_q rfl rfl (qFieldAddr rfl rfl rfl rfl rfl) ?_
  refine jl_q rfl rfl (qLd rfl rfl rfl rfl (CJ.loc rfl)) ?_
  refine jp rfl ?_
  have hk1 : k < xs.length := by omega
  obtain ⟨sb, so, va, vc, e0, hcl, hvc, hvs⟩ := it_get hs hp hb hk1 (i := (k : Int)) rfl
  have hrf := hno.ref _ (List.getElem_mem hk1)
  refine jl_q rfl rfl (qIdxE rfl rfl rfl rfl e0 (by omega)) ?_
  refine jl_q rfl rfl (qFieldAddr rfl rfl rfl rfl rfl) ?_
  refine jl_q rfl rfl (qLd rfl rfl rfl rfl ((hcl 3 _ rfl).cj _)) ?_
  refine jp rfl ?_
  refine jl_nil ?_
  refine jT ?_
  refine jc_seq ?_
  refine jc_region ?_
  refine jp rfl ?_
  refine js rfl (fun h21 => ?_) (fun h21 => ?_)
  ·refine jp rfl ?_
   refine jl_q rfl rfl (qFieldAddr rfl rfl rfl rfl rfl) ?_
   refine jl_q rfl rfl (qLd rfl rfl rfl rfl (CJ.loc rfl)) ?_
   refine jp rfl ?_
   have hkn : xs[k].ref.toNat < s.now.length := by omega
   obtain ⟨tb, to, g0, gcl⟩ := rbyte_row h3 hkn
   rw [show ((xs[k].ref.toNat : Nat) : Int) = xs[k].ref by omega] at gcl
   refine jl_q rfl rfl (qIdxE rfl rfl rfl rfl g0 (by omega)) ?_
   refine jl_q rfl rfl (qLd rfl rfl rfl rfl (gcl.cj _)) ?_
   refine js rfl (fun h28 => ?_) (fun h28 => ?_)
   ·refine jp rfl ?_
    refine jl_nil ?_
    refine jT ?_
    refine jc_yes rfl ?_
    refine jc_seq ?_
    refine jc_region ?_
    refine jp rfl ?_
    refine jl_nil ?_
    refine jT ?_
    refine jc_ret ?_
    refine jBr ?_
    refine jTr ?_
    refine jTr ?_
    refine jBr ?_
    refine jTr ?_
    refine jq_drop (L' := []) (List.nil_sublist _) ?_
    refine jr1 rfl rfl ?_
    refine ⟨?_, rfl⟩
    have e : (oneOf s 0 xs[k]).is = false := by simp only [oneOf]; rw [Bool.or_eq_false_iff, decide_eq_false_iff_not, decide_eq_false_iff_not, getD_at hkn]; omega
    rw [List.all_eq_false.2 ⟨xs[k], List.getElem_mem hk1, by rw [e]; decide⟩]
   ·refine jp rfl ?_
    refine jl_nil ?_
    refine jT ?_
    refine jc_no rfl ?_
    refine jc_skip ?_
    refine jB ?_
    refine jT ?_
    refine jc_region ?_
    refine jp rfl ?_
    refine ja rfl (by omega) ?_
    refine jp rfl ?_
    refine jl_nil ?_
    refine j_again (k + 1) (Keep.cons (t := 2) rfl (Keep.cons (t := 3) rfl (Keep.cons (t := 5) rfl Keep.nil))) ⟨by show k + 1 ≤ xs.length; omega, all_on hk1 hall (by simp only [oneOf]; rw [Bool.or_eq_true, decide_eq_true_eq, decide_eq_true_eq]; right; rw [getD_at hkn]; omega)⟩ (by show xs.length - (k + 1) < xs.length - k; omega) (fun _ h => h)
  ·iterate 8 refine jp rfl ?_
   refine jl_nil ?_
   refine jT ?_
   refine jc_no rfl ?_
   refine jc_skip ?_
   refine jB ?_
   refine jT ?_
   refine jc_region ?_
   refine jp rfl ?_
   refine ja rfl (by omega) ?_
   refine jp rfl ?_
   refine jl_nil ?_
   refine j_again (k + 1) (Keep.cons (t := 2) rfl (Keep.cons (t := 3) rfl (Keep.cons (t := 5) rfl Keep.nil))) ⟨by show k + 1 ≤ xs.length; omega, all_on hk1 hall (by simp only [oneOf]; rw [Bool.or_eq_true, decide_eq_true_eq, decide_eq_true_eq]; left; omega)⟩ (by show xs.length - (k + 1) < xs.length - k; omega) (fun _ h => h)
 ·refine jl_nil ?_
  refine jT ?_
  refine jc_no rfl ?_
  refine jc_exit ?_
  refine jTx ?_
  refine jTx ?_
  refine jBx ?_
  refine jT ?_
  refine jc_seq ?_
  refine jc_region ?_
  refine jp rfl ?_
  refine jl_nil ?_
  refine jT ?_
  refine jc_ret ?_
  refine jq_drop (L' := []) (List.nil_sublist _) ?_
  refine jr1 rfl rfl ?_
  obtain rfl : k = xs.length := by omega
  rw [List.take_length] at hall
  exact ⟨by rw [List.all_eq_true.2 hall], rfl⟩


theorem rleaf_spec (s : Sto) (hst : stOk s) (u : Value) (xs : List It) (sl : Value) (M : Mem) (lv : Int) (h : ST M u s) (hn : NS M sl xs) (hno : NdOk lv xs) : SpecL Tryz.prog 64 #[u, .agg #[.int .i64 lv, sl]] M [] fun u _ L' => u = .bool (xs.all fun x => (oneOf s 0 x).is) ∧ L' = [] := by
 obtain ⟨b, w, n, l, rfl, k1, k2, ⟨na, nc, rfl, _, k3⟩, k4⟩ := h.ex
 obtain ⟨a, c, ps, rfl, hc, hs, hp, hb⟩ := hn
 exact rleaf_walk s hst b w l na nc M k3 lv xs a c ps hc hs hp hb hno


def InS (s : Sto) (l : Nat) : Prop := ∀ (ys : List It) (u sl : Value) (M : Mem) (to : Ky) (ends : Bool), ST M u s → NS M sl ys → NdOk (l : Int) ys → SpecL Tryz.prog 53 #[u, .agg #[.int .i64 l, sl], .agg (kcells to).toArray, .bool ends] M [] fun v _ L' => v = .bool (rIn s l ys to ends) ∧ L' = []
def RtS (s : Sto) (l : Nat) : Prop := ∀ (k : Int) (u : Value) (M : Mem) (q to : Ky) (ends : Bool), ST M u s → 0 ≤ k ∧ k ≤ 100000 → SpecL Tryz.prog 65 #[u, .int .i64 k, .int .i64 l, .agg (kcells q).toArray, .agg (kcells to).toArray, .bool ends] M [] fun v _ L' => v = .bool (rRt s l k q to ends) ∧ L' = []

theorem rright_no (s : Sto) (hst : stOk s) (bv wv nv lv0 : Value) (M : Mem) (hS : ST M (.agg #[bv, wv, nv, lv0]) s) (k : Int) (hk : 0 ≤ k ∧ k ≤ 100000) (l : Nat) (q to : Ky) (ends : Bool) (hnd : ndAt s k.toNat = none) :
  SpecL Tryz.prog 65 #[.agg #[bv, wv, nv, lv0], .int .i64 k, .int .i64 l, .agg (kcells q).toArray, .agg (kcells to).toArray, .bool ends] M [] fun u _ L' => u = .bool (rRt s l k q to ends) ∧ L' = [] := by
 refine spec_body (vs := [_, _, _, _, _, _]) 64 _ Tryz.func65 rfl Tryz.ntmps65 rfl rfl ?_; intro W
 refine jc_seq ?_
 refine jc_region ?_
 refine jl_h rfl rfl (hBox (cs := [_, _, _, _]) rfl rfl rfl rfl) ?_; rintro _ _ _ ⟨b6, rfl, rfl, rfl⟩
 refine jl_h rfl rfl (hBox (cs := [_, _, _]) rfl rfl rfl rfl) ?_; rintro _ _ _ ⟨b9, rfl, rfl, rfl⟩
 refine jl_h rfl rfl (hBox (cs := [_, _, _]) rfl rfl rfl rfl) ?_; rintro _ _ _ ⟨b10, rfl, rfl, rfl⟩
 refine jp rfl ?_
 refine jl_nil ?_
 refine jT ?_
 refine jc_seq ?_
 refine jc_region ?_
 refine jl_q rfl rfl (qLdL rfl rfl rfl rfl rfl) ?_
 refine jp rfl ?_
 refine jl_h rfl rfl (hCall rfl rfl rfl rfl rfl (by kernel_rfl) (rread8_no s _ M hS hst k hk hnd)) ?_; rintro _ M1 _ ⟨hM1, _, rfl, ⟨⟨nl, na, nn, nc, rfl⟩, rfl⟩⟩
 iterate 3 refine jp rfl ?_
 refine jl_h rfl rfl (hAlloc rfl rfl) ?_; rintro _ _ _ ⟨b13, rfl, rfl, rfl⟩
 refine jl_s rfl (hStoreL rfl rfl rfl rfl rfl rfl rfl rfl) ?_; rintro _ _ _ ⟨rfl, rfl⟩
 refine jp rfl ?_
 refine jl_nil ?_
 refine jT ?_
 refine jc_seq ?_
 refine jc_seq ?_
 refine jc_draw [(0, true), (1, true), (2, true), (3, true), (4, true), (5, true), (6, true), (7, true), (8, true), (9, true), (10, true), (11, true), (12, true), (13, true), (14, true), (15, true), (16, true), (17, true), (18, true), (19, true), (20, true), (21, true), (22, true)] _ (by kernel_rfl) (by kernel_rfl) (by kernel_rfl) rfl (fun _ h => h) ?_
 iterate 23 refine dp rfl rfl ?_
 refine jd_nil ?_
 refine jPn ?_
 refine jT ?_
 refine jc_yes rfl ?_
 refine jc_seq ?_
 refine jc_region ?_
 refine jp rfl ?_
 refine jl_nil ?_
 refine jT ?_
 refine jc_ret ?_
 refine jTr ?_
 refine jq_drop (L' := []) (List.nil_sublist _) ?_
 refine jr1 rfl rfl ?_
 exact ⟨by unfold rRt; rw [hnd], rfl⟩

set_option maxHeartbeats 1000000 in
theorem rright_true (s : Sto) (hst : stOk s) (bv wv nv lv0 : Value) (M : Mem) (hS : ST M (.agg #[bv, wv, nv, lv0]) s) (k : Int) (hk : 0 ≤ k ∧ k ≤ 100000) (l : Nat) (q to : Ky) (lv : Int) (ys : List It) (hnd : ndAt s k.toNat = some (lv, ys)) (ih : InS s l) :
  SpecL Tryz.prog 65 #[.agg #[bv, wv, nv, lv0], .int .i64 k, .int .i64 l, .agg (kcells q).toArray, .agg (kcells to).toArray, .bool true] M [] fun u _ L' => u = .bool (rRt s l k q to true) ∧ L' = [] := by
 have hno := ndAt_ok hnd
 have hx5 := hno.len
 refine spec_body (vs := [_, _, _, _, _, _]) 64 _ Tryz.func65 rfl Tryz.ntmps65 rfl rfl ?_; intro W
 refine jc_seq ?_
 refine jc_region ?_
 refine jl_h rfl rfl (hBox (cs := [_, _, _, _]) rfl rfl rfl rfl) ?_; rintro _ _ _ ⟨b6, rfl, rfl, rfl⟩
 refine jl_h rfl rfl (hBox (cs := [_, _, _]) rfl rfl rfl rfl) ?_; rintro _ _ _ ⟨b9, rfl, rfl, rfl⟩
 refine jl_h rfl rfl (hBox (cs := [_, _, _]) rfl rfl rfl rfl) ?_; rintro _ _ _ ⟨b10, rfl, rfl, rfl⟩
 refine jp rfl ?_
 refine jl_nil ?_
 refine jT ?_
 refine jc_seq ?_
 refine jc_region ?_
 refine jl_q rfl rfl (qLdL rfl rfl rfl rfl rfl) ?_
 refine jp rfl ?_
 refine jl_h rfl rfl (hCall rfl rfl rfl rfl rfl (by kernel_rfl) (rread8_yes s _ M hS hst k hk hnd)) ?_; rintro _ M1 _ ⟨hM1, _, rfl, ⟨⟨a, c, ps, rfl, hc, hs, hp, hb⟩, rfl⟩⟩
 iterate 3 refine jp rfl ?_
 refine jl_h rfl rfl (hAlloc rfl rfl) ?_; rintro _ _ _ ⟨b13, rfl, rfl, rfl⟩
 refine jl_s rfl (hStoreL rfl rfl rfl rfl rfl rfl rfl rfl) ?_; rintro _ _ _ ⟨rfl, rfl⟩
 refine jp rfl ?_
 refine jl_nil ?_
 refine jT ?_
 refine jc_seq ?_
 refine jc_seq ?_
 refine jc_draw [(0, true), (1, true), (2, true), (3, true), (4, true), (5, true), (6, true), (7, true), (8, true), (9, true), (10, true), (11, true), (12, true), (13, true), (14, true), (15, true), (16, true), (17, true), (18, true), (19, true), (20, true), (21, true), (22, true)] _ (by kernel_rfl) (by kernel_rfl) (by kernel_rfl) rfl (fun _ h => h) ?_
 iterate 3 refine dp rfl rfl ?_
 refine jd_q rfl rfl rfl (qFieldAddr rfl rfl rfl rfl rfl) ?_
 refine jd_q rfl rfl rfl (qLd rfl rfl rfl rfl (CJ.loc rfl)) ?_
 refine dp rfl rfl ?_
 refine ds rfl rfl (fun h27 => ?_) (fun h27 => ?_)
 ·iterate 16 refine dp rfl rfl ?_
  refine jd_nil ?_
  refine jPn ?_
  refine jT ?_
  refine jc_yes rfl ?_
  refine jc_seq ?_
  refine jc_region ?_
  refine jp rfl ?_
  refine jl_nil ?_
  refine jT ?_
  refine jc_ret ?_
  refine jTr ?_
  refine jq_drop (L' := []) (List.nil_sublist _) ?_
  refine jr1 rfl rfl ?_
  exact ⟨by unfold rRt; rw [hnd]; simp [h27], rfl⟩
 ·iterate 2 refine dp rfl rfl ?_
  refine jd_q rfl rfl rfl (qFieldAddr rfl rfl rfl rfl rfl) ?_
  refine jd_q rfl rfl rfl (qLd rfl rfl rfl rfl (CJ.loc rfl)) ?_
  refine jd_q rfl rfl rfl (qLen rfl rfl rfl) ?_
  refine ds rfl rfl (fun h33 => ?_) (fun h33 => ?_)
  ·iterate 10 refine dp rfl rfl ?_
   refine jd_nil ?_
   refine jPn ?_
   refine jT ?_
   refine jc_yes rfl ?_
   refine jc_seq ?_
   refine jc_region ?_
   refine jp rfl ?_
   refine jl_nil ?_
   refine jT ?_
   refine jc_ret ?_
   refine jTr ?_
   refine jq_drop (L' := []) (List.nil_sublist _) ?_
   refine jr1 rfl rfl ?_
   have hy0 : ys = [] := List.eq_nil_of_length_eq_zero (by omega)
   exact ⟨by unfold rRt; rw [hnd]; simp [hy0], rfl⟩
  ·iterate 2 refine dp rfl rfl ?_
   refine jd_q rfl rfl rfl (qFieldAddr rfl rfl rfl rfl rfl) ?_
   refine jd_q rfl rfl rfl (qLd rfl rfl rfl rfl (CJ.loc rfl)) ?_
   have hy0 : 0 < ys.length := by omega
   obtain ⟨sb, so, va, vc, e0, hcl, hvc, hvs⟩ := it_get hs hp hb hy0 (i := 0) rfl
   refine jd_q rfl rfl rfl (qIdxE rfl rfl rfl rfl e0 (by omega)) ?_
   refine jd_q rfl rfl rfl (qFieldAddr rfl rfl rfl rfl rfl) ?_
   refine jd_q rfl rfl rfl (qLdA (cs := kcells ys[0].key) rfl rfl rfl rfl rfl (fun i v hv => (hcl i v (key_of_itc hv)).cj _)) ?_
   refine jd_q rfl rfl rfl (qLdL rfl rfl rfl rfl rfl) ?_
   refine jd_qb rfl rfl rfl (qNeI (ns := [ys[0].key.kind, ys[0].key.id, ys[0].key.off]) (ms := [q.kind, q.id, q.off]) rfl rfl rfl rfl rfl rfl ⟨rfl, rfl⟩) (fun h42 => ?_) (fun h42 => ?_)
   ·refine dp rfl rfl ?_
    refine jd_nil ?_
    refine jPn ?_
    refine jT ?_
    refine jc_yes rfl ?_
    refine jc_seq ?_
    refine jc_region ?_
    refine jp rfl ?_
    refine jl_nil ?_
    refine jT ?_
    refine jc_ret ?_
    refine jTr ?_
    refine jq_drop (L' := []) (List.nil_sublist _) ?_
    refine jr1 rfl rfl ?_
    have hkq : headK ys ≠ q := by rw [headK_is hy0]; intro e; exact (of_decide_eq_true h42) (ky_ext.1 e)
    exact ⟨by unfold rRt; rw [hnd]; simp [hkq], rfl⟩
   ·refine dp rfl rfl ?_
    refine jd_nil ?_
    refine jPn ?_
    refine jT ?_
    refine jc_no rfl ?_
    refine jc_skip ?_
    refine jT ?_
    refine jc_seq ?_
    refine jc_seq ?_
    refine jc_draw [(0, true), (1, true), (2, true), (3, true), (4, true), (5, true), (6, true), (7, true), (8, true), (9, true), (10, true), (11, true), (12, true), (13, true), (14, true)] _ (by kernel_rfl) (by kernel_rfl) (by kernel_rfl) rfl (fun _ h => h) ?_
    iterate 2 refine dp rfl rfl ?_
    refine jd_q rfl rfl rfl (qFieldAddr rfl rfl rfl rfl rfl) ?_
    refine jd_q rfl rfl rfl (qLd rfl rfl rfl rfl (CJ.loc rfl)) ?_
    refine jd_q rfl rfl rfl (qFieldAddr rfl rfl rfl rfl rfl) ?_
    refine jd_q rfl rfl rfl (qLd rfl rfl rfl rfl (CJ.loc rfl)) ?_
    refine jd_q rfl rfl rfl (qLen rfl rfl rfl) ?_
    refine da rfl rfl (by omega) ?_
    have hyl : ys.length - 1 < ys.length := by omega
    obtain ⟨tb, to_, wa, wc, g0, gcl, gvc, gvs⟩ := it_get hs hp hb hyl (i := (ys.length : Int) - 1) (by omega)
    refine jd_q rfl rfl rfl (qIdxE rfl rfl rfl rfl g0 (by omega)) ?_
    refine jd_q rfl rfl rfl (qFieldAddr rfl rfl rfl rfl rfl) ?_
    refine jd_q rfl rfl rfl (qLdA (cs := kcells ys[ys.length - 1].key) rfl rfl rfl rfl rfl (fun i v hv => (gcl i v (key_of_itc hv)).cj _)) ?_
    refine jd_q rfl rfl rfl (qLdL rfl rfl rfl rfl rfl) ?_
    refine jd_qb rfl rfl rfl (qCall rfl rfl rfl rfl rfl (by kernel_rfl) (rless_spec ys[ys.length - 1].key to M1)) (fun h56 => ?_) (fun h56 => ?_)
    ·iterate 2 refine dp rfl rfl ?_
     refine jd_nil ?_
     refine jPn ?_
     refine jT ?_
     refine jc_no rfl ?_
     refine jc_skip ?_
     refine jT ?_
     refine jc_seq ?_
     refine jc_region ?_
     refine jl_q rfl rfl (qLdL rfl rfl rfl rfl rfl) ?_
     refine jl_q rfl rfl (qLdL rfl rfl rfl rfl rfl) ?_
     refine jl_q rfl rfl (qLdL rfl rfl rfl rfl rfl) ?_
     refine jp rfl ?_
     have hll : lv = (l : Int) := by omega
     subst hll
     refine jl_h rfl rfl (hCall rfl rfl rfl rfl rfl (by kernel_rfl) (ih ys _ _ M1 to true (hS.mono hM1) ⟨a, c, ps, rfl, hc, hs, hp, hb⟩ hno)) ?_; rintro _ M2 _ ⟨hM2, _, rfl, ⟨rfl, rfl⟩⟩
     refine jp rfl ?_
     refine jl_nil ?_
     refine jT ?_
     refine jc_ret ?_
     refine jq_drop (L' := []) (List.nil_sublist _) ?_
     refine jr1 rfl rfl ?_
     have hlk : kless (lastK ys) to = true := by rw [lastK_is hyl rfl]; exact h56
     have hkq : headK ys = q := by rw [headK_is hy0]; exact ky_ext.2 (Classical.not_not.1 (of_decide_eq_false h42))
     have hyn : ys ≠ [] := fun e => by rw [e] at hy0; cases hy0
     refine ⟨?_, rfl⟩
     unfold rRt; rw [hnd]
     simp [hkq, hyn, *]
    ·iterate 2 refine dp rfl rfl ?_
     refine jd_nil ?_
     refine jPn ?_
     refine jT ?_
     refine jc_yes rfl ?_
     refine jc_seq ?_
     refine jc_region ?_
     refine jp rfl ?_
     refine jl_nil ?_
     refine jT ?_
     refine jc_ret ?_
     refine jTr ?_
     refine jq_drop (L' := []) (List.nil_sublist _) ?_
     refine jr1 rfl rfl ?_
     have hlk : kless (lastK ys) to = false := by rw [lastK_is hyl rfl]; exact h56
     exact ⟨by unfold rRt; rw [hnd]; simp [hlk], rfl⟩

set_option maxHeartbeats 1000000 in
theorem rright_false (s : Sto) (hst : stOk s) (bv wv nv lv0 : Value) (M : Mem) (hS : ST M (.agg #[bv, wv, nv, lv0]) s) (k : Int) (hk : 0 ≤ k ∧ k ≤ 100000) (l : Nat) (q to : Ky) (lv : Int) (ys : List It) (hnd : ndAt s k.toNat = some (lv, ys)) (ih : InS s l) :
  SpecL Tryz.prog 65 #[.agg #[bv, wv, nv, lv0], .int .i64 k, .int .i64 l, .agg (kcells q).toArray, .agg (kcells to).toArray, .bool false] M [] fun u _ L' => u = .bool (rRt s l k q to false) ∧ L' = [] := by
 have hno := ndAt_ok hnd
 have hx5 := hno.len
 refine spec_body (vs := [_, _, _, _, _, _]) 64 _ Tryz.func65 rfl Tryz.ntmps65 rfl rfl ?_; intro W
 refine jc_seq ?_
 refine jc_region ?_
 refine jl_h rfl rfl (hBox (cs := [_, _, _, _]) rfl rfl rfl rfl) ?_; rintro _ _ _ ⟨b6, rfl, rfl, rfl⟩
 refine jl_h rfl rfl (hBox (cs := [_, _, _]) rfl rfl rfl rfl) ?_; rintro _ _ _ ⟨b9, rfl, rfl, rfl⟩
 refine jl_h rfl rfl (hBox (cs := [_, _, _]) rfl rfl rfl rfl) ?_; rintro _ _ _ ⟨b10, rfl, rfl, rfl⟩
 refine jp rfl ?_
 refine jl_nil ?_
 refine jT ?_
 refine jc_seq ?_
 refine jc_region ?_
 refine jl_q rfl rfl (qLdL rfl rfl rfl rfl rfl) ?_
 refine jp rfl ?_
 refine jl_h rfl rfl (hCall rfl rfl rfl rfl rfl (by kernel_rfl) (rread8_yes s _ M hS hst k hk hnd)) ?_; rintro _ M1 _ ⟨hM1, _, rfl, ⟨⟨a, c, ps, rfl, hc, hs, hp, hb⟩, rfl⟩⟩
 iterate 3 refine jp rfl ?_
 refine jl_h rfl rfl (hAlloc rfl rfl) ?_; rintro _ _ _ ⟨b13, rfl, rfl, rfl⟩
 refine jl_s rfl (hStoreL rfl rfl rfl rfl rfl rfl rfl rfl) ?_; rintro _ _ _ ⟨rfl, rfl⟩
 refine jp rfl ?_
 refine jl_nil ?_
 refine jT ?_
 refine jc_seq ?_
 refine jc_seq ?_
 refine jc_draw [(0, true), (1, true), (2, true), (3, true), (4, true), (5, true), (6, true), (7, true), (8, true), (9, true), (10, true), (11, true), (12, true), (13, true), (14, true), (15, true), (16, true), (17, true), (18, true), (19, true), (20, true), (21, true), (22, true)] _ (by kernel_rfl) (by kernel_rfl) (by kernel_rfl) rfl (fun _ h => h) ?_
 iterate 3 refine dp rfl rfl ?_
 refine jd_q rfl rfl rfl (qFieldAddr rfl rfl rfl rfl rfl) ?_
 refine jd_q rfl rfl rfl (qLd rfl rfl rfl rfl (CJ.loc rfl)) ?_
 refine dp rfl rfl ?_
 refine ds rfl rfl (fun h27 => ?_) (fun h27 => ?_)
 ·iterate 16 refine dp rfl rfl ?_
  refine jd_nil ?_
  refine jPn ?_
  refine jT ?_
  refine jc_yes rfl ?_
  refine jc_seq ?_
  refine jc_region ?_
  refine jp rfl ?_
  refine jl_nil ?_
  refine jT ?_
  refine jc_ret ?_
  refine jTr ?_
  refine jq_drop (L' := []) (List.nil_sublist _) ?_
  refine jr1 rfl rfl ?_
  exact ⟨by unfold rRt; rw [hnd]; simp [h27], rfl⟩
 ·iterate 2 refine dp rfl rfl ?_
  refine jd_q rfl rfl rfl (qFieldAddr rfl rfl rfl rfl rfl) ?_
  refine jd_q rfl rfl rfl (qLd rfl rfl rfl rfl (CJ.loc rfl)) ?_
  refine jd_q rfl rfl rfl (qLen rfl rfl rfl) ?_
  refine ds rfl rfl (fun h33 => ?_) (fun h33 => ?_)
  ·iterate 10 refine dp rfl rfl ?_
   refine jd_nil ?_
   refine jPn ?_
   refine jT ?_
   refine jc_yes rfl ?_
   refine jc_seq ?_
   refine jc_region ?_
   refine jp rfl ?_
   refine jl_nil ?_
   refine jT ?_
   refine jc_ret ?_
   refine jTr ?_
   refine jq_drop (L' := []) (List.nil_sublist _) ?_
   refine jr1 rfl rfl ?_
   have hy0 : ys = [] := List.eq_nil_of_length_eq_zero (by omega)
   exact ⟨by unfold rRt; rw [hnd]; simp [hy0], rfl⟩
  ·iterate 2 refine dp rfl rfl ?_
   refine jd_q rfl rfl rfl (qFieldAddr rfl rfl rfl rfl rfl) ?_
   refine jd_q rfl rfl rfl (qLd rfl rfl rfl rfl (CJ.loc rfl)) ?_
   have hy0 : 0 < ys.length := by omega
   obtain ⟨sb, so, va, vc, e0, hcl, hvc, hvs⟩ := it_get hs hp hb hy0 (i := 0) rfl
   refine jd_q rfl rfl rfl (qIdxE rfl rfl rfl rfl e0 (by omega)) ?_
   refine jd_q rfl rfl rfl (qFieldAddr rfl rfl rfl rfl rfl) ?_
   refine jd_q rfl rfl rfl (qLdA (cs := kcells ys[0].key) rfl rfl rfl rfl rfl (fun i v hv => (hcl i v (key_of_itc hv)).cj _)) ?_
   refine jd_q rfl rfl rfl (qLdL rfl rfl rfl rfl rfl) ?_
   refine jd_qb rfl rfl rfl (qNeI (ns := [ys[0].key.kind, ys[0].key.id, ys[0].key.off]) (ms := [q.kind, q.id, q.off]) rfl rfl rfl rfl rfl rfl ⟨rfl, rfl⟩) (fun h42 => ?_) (fun h42 => ?_)
   ·refine dp rfl rfl ?_
    refine jd_nil ?_
    refine jPn ?_
    refine jT ?_
    refine jc_yes rfl ?_
    refine jc_seq ?_
    refine jc_region ?_
    refine jp rfl ?_
    refine jl_nil ?_
    refine jT ?_
    refine jc_ret ?_
    refine jTr ?_
    refine jq_drop (L' := []) (List.nil_sublist _) ?_
    refine jr1 rfl rfl ?_
    have hkq : headK ys ≠ q := by rw [headK_is hy0]; intro e; exact (of_decide_eq_true h42) (ky_ext.1 e)
    exact ⟨by unfold rRt; rw [hnd]; simp [hkq], rfl⟩
   ·refine dp rfl rfl ?_
    refine jd_nil ?_
    refine jPn ?_
    refine jT ?_
    refine jc_no rfl ?_
    refine jc_skip ?_
    refine jT ?_
    refine jc_seq ?_
    refine jc_seq ?_
    refine jc_draw [(0, true), (1, true), (2, true), (3, true), (4, true), (5, true), (6, true), (7, true), (8, true), (9, true), (10, true), (11, true), (12, true), (13, true), (14, true)] _ (by kernel_rfl) (by kernel_rfl) (by kernel_rfl) rfl (fun _ h => h) ?_
    iterate 15 refine dp rfl rfl ?_
    refine jd_nil ?_
    refine jPn ?_
    refine jT ?_
    refine jc_no rfl ?_
    refine jc_skip ?_
    refine jT ?_
    refine jc_seq ?_
    refine jc_region ?_
    refine jl_q rfl rfl (qLdL rfl rfl rfl rfl rfl) ?_
    refine jl_q rfl rfl (qLdL rfl rfl rfl rfl rfl) ?_
    refine jl_q rfl rfl (qLdL rfl rfl rfl rfl rfl) ?_
    refine jp rfl ?_
    have hll : lv = (l : Int) := by omega
    subst hll
    refine jl_h rfl rfl (hCall rfl rfl rfl rfl rfl (by kernel_rfl) (ih ys _ _ M1 to false (hS.mono hM1) ⟨a, c, ps, rfl, hc, hs, hp, hb⟩ hno)) ?_; rintro _ M2 _ ⟨hM2, _, rfl, ⟨rfl, rfl⟩⟩
    refine jp rfl ?_
    refine jl_nil ?_
    refine jT ?_
    refine jc_ret ?_
    refine jq_drop (L' := []) (List.nil_sublist _) ?_
    refine jr1 rfl rfl ?_
    have hkq : headK ys = q := by rw [headK_is hy0]; exact ky_ext.2 (Classical.not_not.1 (of_decide_eq_false h42))
    have hyn : ys ≠ [] := fun e => by rw [e] at hy0; cases hy0
    refine ⟨?_, rfl⟩
    unfold rRt; rw [hnd]
    simp [hkq, hyn, *]

end Go.Proofs.YtkjghgndmpbfiaaGreat
namespace Go.Proofs.YtkjghgndmpbfiaaGreat
set_option linter.unusedVariables false
set_option linter.unusedSimpArgs false
open Go.RowKit

theorem rinner_leaf (s : Sto) (hst : stOk s) (bv wv nv lv0 : Value) (M : Mem) (hS : ST M (.agg #[bv, wv, nv, lv0]) s) (xs : List It) (a : Option Addr) (c : Nat) (ps : List (It × Value)) (hc : xs.length ≤ c) (hs : SM M a (ps.flatMap icell)) (hp : ps.map (·.1) = xs) (hb : ∀ p ∈ ps, BS M p.2 p.1.val) (to : Ky) (ends : Bool) (hno : NdOk 0 xs) :
  SpecL Tryz.prog 53 #[.agg #[bv, wv, nv, lv0], .agg #[.int .i64 0, .slice a xs.length c], .agg (kcells to).toArray, .bool ends] M [] fun u _ L' => u = .bool (rIn s 0 xs to ends) ∧ L' = [] := by
 refine spec_body (vs := [_, _, _, _]) 60 _ Tryz.func53 rfl Tryz.ntmps53 rfl rfl ?_; intro W
 refine jc_seq ?_
 refine jc_region ?_
 refine jl_h rfl rfl (hBox (cs := [_, _, _, _]) rfl rfl rfl rfl) ?_; rintro _ _ _ ⟨b4, rfl, rfl, rfl⟩
 refine jl_h rfl rfl (hBox (cs := [_, _]) rfl rfl rfl rfl) ?_; rintro _ _ _ ⟨b5, rfl, rfl, rfl⟩
 refine jl_h rfl rfl (hBox (cs := [_, _, _]) rfl rfl rfl rfl) ?_; rintro _ _ _ ⟨b6, rfl, rfl, rfl⟩
 refine jp rfl ?_
 refine jl_nil ?_
 refine jT ?_
 refine jc_seq ?_
 refine jc_seq ?_
 refine jc_region ?_
 refine jl_q rfl rfl (qFieldAddr rfl rfl rfl rfl rfl) ?_
 refine jl_q rfl rfl (qLd rfl rfl rfl rfl (CJ.loc rfl)) ?_
 refine jt rfl (decide_eq_true (by omega)) ?_
 refine jl_nil ?_
 refine jT ?_
 refine jc_yes rfl ?_
 refine jc_seq ?_
 refine jc_region ?_
 refine jl_q rfl rfl (qLdL rfl rfl rfl rfl rfl) ?_
 refine jl_q rfl rfl (qLdL rfl rfl rfl rfl rfl) ?_
 refine jl_h rfl rfl (hCall rfl rfl rfl rfl rfl (by kernel_rfl) (rleaf_spec s hst _ xs _ M 0 hS ⟨a, c, ps, rfl, hc, hs, hp, hb⟩ hno)) ?_; rintro _ M1 _ ⟨hM1, _, rfl, ⟨rfl, rfl⟩⟩
 refine jp rfl ?_
 refine jl_nil ?_
 refine jT ?_
 refine jc_ret ?_
 refine jTr ?_
 refine jq_drop (L' := []) (List.nil_sublist _) ?_
 refine jr1 rfl rfl ?_
 exact ⟨rfl, rfl⟩

set_option maxHeartbeats 2000000 in
theorem rinner_up (s : Sto) (hst : stOk s) (bv wv nv lv0 : Value) (M : Mem) (hS : ST M (.agg #[bv, wv, nv, lv0]) s) (xs : List It) (a : Option Addr) (c : Nat) (ps : List (It × Value)) (hc : xs.length ≤ c) (hs : SM M a (ps.flatMap icell)) (hp : ps.map (·.1) = xs) (hb : ∀ p ∈ ps, BS M p.2 p.1.val) (to : Ky) (ends : Bool) (l : Nat) (hno : NdOk ((l + 1 : Nat) : Int) xs) (ih : RtS s l) :
  SpecL Tryz.prog 53 #[.agg #[bv, wv, nv, lv0], .agg #[.int .i64 ((l + 1 : Nat) : Int), .slice a xs.length c], .agg (kcells to).toArray, .bool ends] M [] fun u _ L' => u = .bool (rGo (fun x => rRt s l x.ref x.key) to ends xs) ∧ L' = [] := by
 have hx5 := hno.len
 have hlv := hno.lev
 refine spec_body (vs := [_, _, _, _]) 60 _ Tryz.func53 rfl Tryz.ntmps53 rfl rfl ?_; intro W
 refine jc_seq ?_
 refine jc_region ?_
 refine jl_h rfl rfl (hBox (cs := [_, _, _, _]) rfl rfl rfl rfl) ?_; rintro _ _ _ ⟨b4, rfl, rfl, rfl⟩
 refine jl_h rfl rfl (hBox (cs := [_, _]) rfl rfl rfl rfl) ?_; rintro _ _ _ ⟨b5, rfl, rfl, rfl⟩
 refine jl_h rfl rfl (hBox (cs := [_, _, _]) rfl rfl rfl rfl) ?_; rintro _ _ _ ⟨b6, rfl, rfl, rfl⟩
 refine jp rfl ?_
 refine jl_nil ?_
 refine jT ?_
 refine jc_seq ?_
 refine jc_seq ?_
 refine jc_region ?_
 refine jl_q rfl rfl (qFieldAddr rfl rfl rfl rfl rfl) ?_
 refine jl_q rfl rfl (qLd rfl rfl rfl rfl (CJ.loc rfl)) ?_
 refine jf rfl (decide_eq_false (by omega)) ?_
 refine jl_nil ?_
 refine jT ?_
 refine jc_no rfl ?_
 refine jc_skip ?_
 refine jT ?_
 refine jc_seq ?_
 refine jc_seq ?_
 refine jc_region ?_
 refine jp rfl ?_
 refine jl_nil ?_
 refine jT ?_
 refine jc_block ?_
 refine jc_loopK (α := Nat × Mem) (fun z => [(3, .bool ends), (4, .pointer (some ⟨b4, 0, none⟩)), (5, .pointer (some ⟨b5, 0, none⟩)), (6, .pointer (some ⟨b6, 0, none⟩)), (9, .int .i64 z.1)]) (fun z => z.2) (fun _ => [(b6, .cells (kcells to).toArray 31 (0, 0)), (b5, .cells [Value.int .i64 ((l + 1 : Nat) : Int), .slice a xs.length c].toArray 66 (0, 0)), (b4, .cells [bv, wv, nv, lv0].toArray 28 (0, 0))]) (fun z => z.1 ≤ xs.length ∧ MLe M z.2 ∧ rGo (fun x => rRt s l x.ref x.key) to ends xs = rGo (fun x => rRt s l x.ref x.key) to ends (xs.drop z.1)) (fun z => xs.length - z.1)
  (0, M) (Keep.cons (t := 3) rfl (Keep.cons (t := 4) rfl (Keep.cons (t := 5) rfl (Keep.cons (t := 6) rfl (Keep.cons (t := 9) rfl Keep.nil))))) ⟨Nat.zero_le _, MLe.refl _, rfl⟩ (fun _ h => h) ?_
 rintro ⟨k, Mk⟩ ⟨hk, hMk, hI⟩
 try dsimp only at hk hMk hI ⊢
 refine jc_seq ?_
 refine jc_seq ?_
 refine jc_region ?_
 refine jp rfl ?_
 refine jl_q rfl rfl (qFieldAddr rfl rfl rfl rfl rfl) ?_
 refine jl_q rfl rfl (qLd rfl rfl rfl rfl (CJ.loc rfl)) ?_
 refine jl_q rfl rfl (qLen rfl rfl rfl) ?_
 refine js rfl (fun h22 => ?_) (fun h22 => ?_)
 ·refine jl_nil ?_
  refine jT ?_
  refine jc_yes rfl ?_
  refine jc_skip ?_
  refine jT ?_
  refine jc_seq ?_
  refine jc_block ?_
  refine jc_seq ?_
  refine jc_region ?_
  refine jl_q rfl rfl (qLdL rfl rfl rfl rfl rfl) ?_
  refine jp rfl ?_
  refine jl_h rfl rfl (hAlloc rfl rfl) ?_; rintro _ _ _ ⟨b10, rfl, rfl, rfl⟩
  refine jl_s rfl (hStoreL rfl rfl rfl rfl rfl rfl rfl rfl) ?_; rintro _ _ _ ⟨rfl, rfl⟩
  refine jp rfl ?_
  refine jl_nil ?_
  refine jT ?_
  refine jc_seq ?_
  refine jc_seq ?_
  refine jc_region ?_
  refine jp rfl ?_
  refine ja rfl (by omega) ?_
  refine jl_q rfl rfl (qFieldAddr rfl rfl rfl rfl rfl) ?_
  refine jl_q rfl rfl (qLd rfl rfl rfl rfl (CJ.loc rfl)) ?_
  refine jl_q rfl rfl (qLen rfl rfl rfl) ?_
  refine js rfl (fun h32 => ?_) (fun h32 => ?_)
  ·refine jl_nil ?_
   refine jT ?_
   refine jc_yes rfl ?_
   refine jc_region ?_
   refine jl_q rfl rfl (qFieldAddr rfl rfl rfl rfl rfl) ?_
   refine jl_q rfl rfl (qLd rfl rfl rfl rfl (CJ.loc rfl)) ?_
   refine jp rfl ?_
   refine ja rfl (by omega) ?_
   have hk1 : k < xs.length := by omega
   have hk2 : k + 1 < xs.length := by omega
   obtain ⟨sb, so, va, vc, e0, hcl, hvc, hvs⟩ := it_get (k := k + 1) hs hp hb hk2 (i := (k : Int) + 1) (by omega)
   refine jl_q rfl rfl (qIdxE rfl rfl rfl rfl e0 (by omega)) ?_
   refine jl_q rfl rfl (qFieldAddr rfl rfl rfl rfl rfl) ?_
   refine jl_q rfl rfl (qLdA (cs := kcells xs[k + 1].key) rfl rfl rfl rfl rfl (fun i v hv => ((hcl i v (key_of_itc hv)).mono hMk).cj _)) ?_
   refine jl_s rfl (hStoreL rfl rfl rfl rfl rfl rfl rfl rfl) ?_; rintro _ _ _ ⟨rfl, rfl⟩
   refine jp rfl ?_
   refine jl_nil ?_
   refine jT ?_
   refine jc_seq ?_
   refine jc_draw [(0, true), (1, true), (2, true), (3, true), (4, true), (5, true), (6, true), (7, true), (8, true), (9, true), (10, true), (11, true), (12, true), (13, true), (14, true), (15, true), (16, true), (17, true), (18, false), (19, true)] _ (by kernel_rfl) (by kernel_rfl) (by kernel_rfl) rfl (fun _ h => h) ?_
   refine jd_q rfl rfl rfl (qLdL rfl rfl rfl rfl rfl) ?_
   refine jd_q rfl rfl rfl (qFieldAddr rfl rfl rfl rfl rfl) ?_
   refine jd_q rfl rfl rfl (qLd rfl rfl rfl rfl (CJ.loc rfl)) ?_
   refine dp rfl rfl ?_
   have hk1 : k < xs.length := by omega
   obtain ⟨tb, to_, wa, wc, g0, gcl, gvc, gvs⟩ := it_get hs hp hb hk1 (i := (k : Int)) rfl
   have hrf := hno.ref _ (List.getElem_mem hk1)
   refine jd_q rfl rfl rfl (qIdxE rfl rfl rfl rfl g0 (by omega)) ?_
   refine jd_q rfl rfl rfl (qFieldAddr rfl rfl rfl rfl rfl) ?_
   refine jd_q rfl rfl rfl (qLd rfl rfl rfl rfl (((gcl 3 _ rfl).mono hMk).cj _)) ?_
   refine jd_q rfl rfl rfl (qFieldAddr rfl rfl rfl rfl rfl) ?_
   refine jd_q rfl rfl rfl (qLd rfl rfl rfl rfl (CJ.loc rfl)) ?_
   refine jd_q rfl rfl rfl (qEq (qA rfl rfl rfl rfl rfl (by omega)) (v' := .int .i64 (l : Int)) (by congr 1; omega)) ?_
   refine jd_q rfl rfl rfl (qFieldAddr rfl rfl rfl rfl rfl) ?_
   refine jd_q rfl rfl rfl (qLd rfl rfl rfl rfl (CJ.loc rfl)) ?_
   refine dp rfl rfl ?_
   refine jd_q rfl rfl rfl (qIdxE rfl rfl rfl rfl g0 (by omega)) ?_
   refine jd_q rfl rfl rfl (qFieldAddr rfl rfl rfl rfl rfl) ?_
   refine jd_q rfl rfl rfl (qLdA (cs := kcells xs[k].key) rfl rfl rfl rfl rfl (fun i v hv => ((gcl i v (key_of_itc hv)).mono hMk).cj _)) ?_
   refine jd_q rfl rfl rfl (qLdL rfl rfl rfl rfl rfl) ?_
   refine dp rfl rfl ?_
   refine jd_h rfl rfl rfl (hCall rfl rfl rfl rfl rfl (by kernel_rfl) (ih xs[k].ref _ Mk xs[k].key _ _ (hS.mono hMk) (by omega))) ?_; rintro _ M1 _ ⟨hM1, _, rfl, ⟨rfl, rfl⟩⟩
   refine ⟨_, _, MLe.refl _, hM1, fun _ h => h, by simp, ?_⟩
   refine jd_qb rfl rfl rfl (qP rfl rfl) (fun h59 => ?_) (fun h59 => ?_)
   ·refine jd_nil ?_
    refine jPn ?_
    refine jT ?_
    refine jc_yes rfl ?_
    refine jc_seq ?_
    refine jc_region ?_
    refine jp rfl ?_
    refine jl_nil ?_
    refine jT ?_
    refine jc_ret ?_
    refine jBr ?_
    refine jTr ?_
    refine jTr ?_
    refine jBr ?_
    refine jTr ?_
    refine jq_drop (L' := []) (List.nil_sublist _) ?_
    refine jr1 rfl rfl ?_
    refine ⟨?_, rfl⟩
    rw [hI, rgo_mid hk2]; have hr : rRt s l xs[k].ref xs[k].key xs[k + 1].key true = false := (by simpa using h59); rw [hr, Bool.false_and]
   ·refine jd_nil ?_
    refine jPn ?_
    refine jT ?_
    refine jc_no rfl ?_
    refine jc_skip ?_
    refine jB ?_
    refine jT ?_
    refine jc_region ?_
    refine jp rfl ?_
    refine ja rfl (by omega) ?_
    refine jp rfl ?_
    refine jl_nil ?_
    refine j_again (k + 1, _) (Keep.cons (t := 3) rfl (Keep.cons (t := 4) rfl (Keep.cons (t := 5) rfl (Keep.cons (t := 6) rfl (Keep.cons (t := 9) rfl Keep.nil))))) ⟨by show k + 1 ≤ xs.length; omega, hMk.trans hM1, ?_⟩ (by show xs.length - (k + 1) < xs.length - k; omega) (fun _ h => h.fewer (by simp))
    show _ = rGo _ to ends (xs.drop (k + 1)); rw [hI, rgo_mid hk2]; have hr : rRt s l xs[k].ref xs[k].key xs[k + 1].key true = true := (by simpa using h59); rw [hr, Bool.true_and]
  ·refine jl_nil ?_
   refine jT ?_
   refine jc_no rfl ?_
   refine jc_skip ?_
   refine jT ?_
   refine jc_seq ?_
   refine jc_draw [(0, true), (1, true), (2, true), (3, true), (4, true), (5, true), (6, true), (7, true), (8, true), (9, true), (10, true), (11, true), (12, true), (13, true), (14, true), (15, true), (16, true), (17, true), (18, false), (19, true)] _ (by kernel_rfl) (by kernel_rfl) (by kernel_rfl) rfl (fun _ h => h) ?_
   refine jd_q rfl rfl rfl (qLdL rfl rfl rfl rfl rfl) ?_
   refine jd_q rfl rfl rfl (qFieldAddr rfl rfl rfl rfl rfl) ?_
   refine jd_q rfl rfl rfl (qLd rfl rfl rfl rfl (CJ.loc rfl)) ?_
   refine dp rfl rfl ?_
   have hk1 : k < xs.length := by omega
   obtain ⟨tb, to_, wa, wc, g0, gcl, gvc, gvs⟩ := it_get hs hp hb hk1 (i := (k : Int)) rfl
   have hrf := hno.ref _ (List.getElem_mem hk1)
   refine jd_q rfl rfl rfl (qIdxE rfl rfl rfl rfl g0 (by omega)) ?_
   refine jd_q rfl rfl rfl (qFieldAddr rfl rfl rfl rfl rfl) ?_
   refine jd_q rfl rfl rfl (qLd rfl rfl rfl rfl (((gcl 3 _ rfl).mono hMk).cj _)) ?_
   refine jd_q rfl rfl rfl (qFieldAddr rfl rfl rfl rfl rfl) ?_
   refine jd_q rfl rfl rfl (qLd rfl rfl rfl rfl (CJ.loc rfl)) ?_
   refine jd_q rfl rfl rfl (qEq (qA rfl rfl rfl rfl rfl (by omega)) (v' := .int .i64 (l : Int)) (by congr 1; omega)) ?_
   refine jd_q rfl rfl rfl (qFieldAddr rfl rfl rfl rfl rfl) ?_
   refine jd_q rfl rfl rfl (qLd rfl rfl rfl rfl (CJ.loc rfl)) ?_
   refine dp rfl rfl ?_
   refine jd_q rfl rfl rfl (qIdxE rfl rfl rfl rfl g0 (by omega)) ?_
   refine jd_q rfl rfl rfl (qFieldAddr rfl rfl rfl rfl rfl) ?_
   refine jd_q rfl rfl rfl (qLdA (cs := kcells xs[k].key) rfl rfl rfl rfl rfl (fun i v hv => ((gcl i v (key_of_itc hv)).mono hMk).cj _)) ?_
   refine jd_q rfl rfl rfl (qLdL rfl rfl rfl rfl rfl) ?_
   refine dp rfl rfl ?_
   refine jd_h rfl rfl rfl (hCall rfl rfl rfl rfl rfl (by kernel_rfl) (ih xs[k].ref _ Mk xs[k].key _ _ (hS.mono hMk) (by omega))) ?_; rintro _ M1 _ ⟨hM1, _, rfl, ⟨rfl, rfl⟩⟩
   refine ⟨_, _, MLe.refl _, hM1, fun _ h => h, by simp, ?_⟩
   refine jd_qb rfl rfl rfl (qP rfl rfl) (fun h59 => ?_) (fun h59 => ?_)
   ·refine jd_nil ?_
    refine jPn ?_
    refine jT ?_
    refine jc_yes rfl ?_
    refine jc_seq ?_
    refine jc_region ?_
    refine jp rfl ?_
    refine jl_nil ?_
    refine jT ?_
    refine jc_ret ?_
    refine jBr ?_
    refine jTr ?_
    refine jTr ?_
    refine jBr ?_
    refine jTr ?_
    refine jq_drop (L' := []) (List.nil_sublist _) ?_
    refine jr1 rfl rfl ?_
    refine ⟨?_, rfl⟩
    rw [hI, rgo_last hk1 (by omega)]; have hr : rRt s l xs[k].ref xs[k].key to ends = false := (by simpa using h59); rw [hr, Bool.false_and]
   ·refine jd_nil ?_
    refine jPn ?_
    refine jT ?_
    refine jc_no rfl ?_
    refine jc_skip ?_
    refine jB ?_
    refine jT ?_
    refine jc_region ?_
    refine jp rfl ?_
    refine ja rfl (by omega) ?_
    refine jp rfl ?_
    refine jl_nil ?_
    refine j_again (k + 1, _) (Keep.cons (t := 3) rfl (Keep.cons (t := 4) rfl (Keep.cons (t := 5) rfl (Keep.cons (t := 6) rfl (Keep.cons (t := 9) rfl Keep.nil))))) ⟨by show k + 1 ≤ xs.length; omega, hMk.trans hM1, ?_⟩ (by show xs.length - (k + 1) < xs.length - k; omega) (fun _ h => h.fewer (by simp))
    show _ = rGo _ to ends (xs.drop (k + 1)); rw [hI, rgo_last hk1 (by omega)]; have hr : rRt s l xs[k].ref xs[k].key to ends = true := (by simpa using h59); rw [hr, Bool.true_and]
 ·refine jl_nil ?_
  refine jT ?_
  refine jc_no rfl ?_
  refine jc_exit ?_
  refine jTx ?_
  refine jTx ?_
  refine jBx ?_
  refine jT ?_
  refine jc_seq ?_
  refine jc_region ?_
  refine jp rfl ?_
  refine jl_nil ?_
  refine jT ?_
  refine jc_ret ?_
  refine jq_drop (L' := []) (List.nil_sublist _) ?_
  refine jr1 rfl rfl ?_
  refine ⟨?_, rfl⟩
  rw [hI, rgo_end (by omega)]


theorem rin_all (s : Sto) (hst : stOk s) : ∀ l, InS s l ∧ RtS s l := by
 have hR : ∀ l, InS s l → RtS s l := fun l ih k u M q to ends hS hk => by
  obtain ⟨b, w, n, l0, rfl, _⟩ := hS.ex
  cases hnd : ndAt s k.toNat with
  | none => exact rright_no s hst b w n l0 M hS k hk l q to ends hnd
  | some p =>
   obtain ⟨lv, ys⟩ := p
   cases ends with
   | true => exact rright_true s hst b w n l0 M hS k hk l q to lv ys hnd ih
   | false => exact rright_false s hst b w n l0 M hS k hk l q to lv ys hnd ih
 have hI : ∀ l, InS s l := by
  intro l
  induction l with
  | zero =>
   intro ys u sl M to ends hS hn hno
   obtain ⟨b, w, n, l0, rfl, _⟩ := hS.ex
   obtain ⟨a, c, ps, rfl, hc, hs, hp, hb⟩ := hn
   exact rinner_leaf s hst b w n l0 M hS ys a c ps hc hs hp hb to ends hno
  | succ l ih =>
   intro ys u sl M to ends hS hn hno
   obtain ⟨b, w, n, l0, rfl, _⟩ := hS.ex
   obtain ⟨a, c, ps, rfl, hc, hs, hp, hb⟩ := hn
   exact rinner_up s hst b w n l0 M hS ys a c ps hc hs hp hb to ends l hno (hR l ih)
 exact fun l => ⟨hI l, hR l (hI l)⟩
def rTree (s : Sto) (root : Int) : Int := match ndAt s root.toNat with
 | some (lv, xs) => if rIn s lv.toNat xs ⟨0, 0, 0⟩ false = true then lv + 1 else -1
 | none => -1

theorem rtree_no (s : Sto) (hst : stOk s) (bv wv nv lv0 : Value) (M : Mem) (hS : ST M (.agg #[bv, wv, nv, lv0]) s) (root : Int) (hk : 0 ≤ root ∧ root ≤ 100000) (hnd : ndAt s root.toNat = none) :
  SpecL Tryz.prog 36 #[.agg #[bv, wv, nv, lv0], .int .i64 root] M [] fun u _ L' => u = .int .i64 (rTree s root) ∧ L' = [] := by
 refine spec_body (vs := [_, _]) 25 _ Tryz.func36 rfl Tryz.ntmps36 rfl rfl ?_; intro W
 refine jc_seq ?_
 refine jc_region ?_
 refine jl_h rfl rfl (hBox (cs := [_, _, _, _]) rfl rfl rfl rfl) ?_; rintro _ _ _ ⟨b2, rfl, rfl, rfl⟩
 refine jp rfl ?_
 refine jl_nil ?_
 refine jT ?_
 refine jc_seq ?_
 refine jc_region ?_
 refine jl_q rfl rfl (qLdL rfl rfl rfl rfl rfl) ?_
 refine jp rfl ?_
 refine jl_h rfl rfl (hCall rfl rfl rfl rfl rfl (by kernel_rfl) (rread8_no s _ M hS hst root hk hnd)) ?_; rintro _ M1 _ ⟨hM1, _, rfl, ⟨⟨nl, na, nn, nc, rfl⟩, rfl⟩⟩
 iterate 3 refine jp rfl ?_
 refine jl_h rfl rfl (hAlloc rfl rfl) ?_; rintro _ _ _ ⟨b5, rfl, rfl, rfl⟩
 refine jl_s rfl (hStoreL rfl rfl rfl rfl rfl rfl rfl rfl) ?_; rintro _ _ _ ⟨rfl, rfl⟩
 refine jp rfl ?_
 refine jl_nil ?_
 refine jT ?_
 refine jc_seq ?_
 refine jc_seq ?_
 refine jc_region ?_
 iterate 9 refine jp rfl ?_
 refine jl_nil ?_
 refine jT ?_
 refine jc_yes rfl ?_
 refine jc_seq ?_
 refine jc_region ?_
 refine jp rfl ?_
 refine jl_nil ?_
 refine jT ?_
 refine jc_ret ?_
 refine jTr ?_
 refine jq_drop (L' := []) (List.nil_sublist _) ?_
 refine jr1 rfl rfl ?_
 exact ⟨by unfold rTree; rw [hnd], rfl⟩

theorem rtree_yes (s : Sto) (hst : stOk s) (bv wv nv lv0 : Value) (M : Mem) (hS : ST M (.agg #[bv, wv, nv, lv0]) s) (root : Int) (hk : 0 ≤ root ∧ root ≤ 100000) (l : Nat) (xs : List It) (hnd : ndAt s root.toNat = some ((l : Int), xs)) :
  SpecL Tryz.prog 36 #[.agg #[bv, wv, nv, lv0], .int .i64 root] M [] fun u _ L' => u = .int .i64 (rTree s root) ∧ L' = [] := by
 have hno := ndAt_ok hnd
 have hlv := hno.lev
 refine spec_body (vs := [_, _]) 25 _ Tryz.func36 rfl Tryz.ntmps36 rfl rfl ?_; intro W
 refine jc_seq ?_
 refine jc_region ?_
 refine jl_h rfl rfl (hBox (cs := [_, _, _, _]) rfl rfl rfl rfl) ?_; rintro _ _ _ ⟨b2, rfl, rfl, rfl⟩
 refine jp rfl ?_
 refine jl_nil ?_
 refine jT ?_
 refine jc_seq ?_
 refine jc_region ?_
 refine jl_q rfl rfl (qLdL rfl rfl rfl rfl rfl) ?_
 refine jp rfl ?_
 refine jl_h rfl rfl (hCall rfl rfl rfl rfl rfl (by kernel_rfl) (rread8_yes s _ M hS hst root hk hnd)) ?_; rintro _ M1 _ ⟨hM1, _, rfl, ⟨⟨a, c, ps, rfl, hc, hs, hp, hb⟩, rfl⟩⟩
 iterate 3 refine jp rfl ?_
 refine jl_h rfl rfl (hAlloc rfl rfl) ?_; rintro _ _ _ ⟨b5, rfl, rfl, rfl⟩
 refine jl_s rfl (hStoreL rfl rfl rfl rfl rfl rfl rfl rfl) ?_; rintro _ _ _ ⟨rfl, rfl⟩
 refine jp rfl ?_
 refine jl_nil ?_
 refine jT ?_
 refine jc_seq ?_
 refine jc_seq ?_
 refine jc_region ?_
 iterate 3 refine jp rfl ?_
 refine jl_q rfl rfl (qLdL rfl rfl rfl rfl rfl) ?_
 refine jl_q rfl rfl (qLdL rfl rfl rfl rfl rfl) ?_
 refine jl_q rfl rfl (qBuild (cs := [_, _, _]) rfl rfl rfl (by rfl)) ?_
 refine jl_h rfl rfl (hCall rfl rfl rfl rfl rfl (by kernel_rfl) ((rin_all s hst l).1 xs _ _ M1 ⟨0, 0, 0⟩ false (hS.mono hM1) ⟨a, c, ps, rfl, hc, hs, hp, hb⟩ hno)) ?_; rintro _ M2 _ ⟨hM2, _, rfl, ⟨rfl, rfl⟩⟩
 refine jsb rfl (fun h20 => ?_) (fun h20 => ?_)
 ·refine jp rfl ?_
  refine jl_nil ?_
  refine jT ?_
  refine jc_yes rfl ?_
  refine jc_seq ?_
  refine jc_region ?_
  refine jp rfl ?_
  refine jl_nil ?_
  refine jT ?_
  refine jc_ret ?_
  refine jTr ?_
  refine jq_drop (L' := []) (List.nil_sublist _) ?_
  refine jr1 rfl rfl ?_
  exact ⟨by unfold rTree; rw [hnd]; simp at h20; simp [h20], rfl⟩
 ·refine jp rfl ?_
  refine jl_nil ?_
  refine jT ?_
  refine jc_no rfl ?_
  refine jc_skip ?_
  refine jT ?_
  refine jc_seq ?_
  refine jc_region ?_
  refine jl_q rfl rfl (qFieldAddr rfl rfl rfl rfl rfl) ?_
  refine jl_q rfl rfl (qLd rfl rfl rfl rfl (CJ.loc rfl)) ?_
  refine ja rfl (by omega) ?_
  refine jp rfl ?_
  refine jl_nil ?_
  refine jT ?_
  refine jc_ret ?_
  refine jq_drop (L' := []) (List.nil_sublist _) ?_
  refine jr1 rfl rfl ?_
  exact ⟨by unfold rTree; rw [hnd]; simp at h20; simp [h20], rfl⟩


theorem rtree_spec (s : Sto) (hst : stOk s) (u : Value) (root : Int) (M : Mem) (hS : ST M u s) (hk : 0 ≤ root ∧ root ≤ 100000) : SpecL Tryz.prog 36 #[u, .int .i64 root] M [] fun u _ L' => u = .int .i64 (rTree s root) ∧ L' = [] := by
 obtain ⟨b, w, n, l0, rfl, _⟩ := hS.ex
 cases hnd : ndAt s root.toNat with
 | none => exact rtree_no s hst b w n l0 M hS root hk hnd
 | some p =>
  obtain ⟨lv, xs⟩ := p
  have hl := (ndAt_ok hnd).lev
  obtain ⟨l, rfl⟩ := Int.eq_ofNat_of_zero_le hl.1
  exact rtree_yes s hst b w n l0 M hS root hk l xs hnd
def rChk (s : Sto) (root : Int) : Int × Int :=
 if stOk s then
  if root < 8 ∨ 256 ≤ root then (0, 2)
  else if s.now.getD root.toNat 0 = 0 then (0, 6)
  else if rTree s root < 0 then (0, 8) else (rTree s root, 0)
 else (0, 8)

theorem rchk10_walk (s : Sto) (bv wv lv0 : Value) (na : Option Addr) (nc : Nat) (M : Mem) (hS : ST M (.agg #[bv, wv, .slice na s.now.length nc, lv0]) s) (h3 : SM M na (bcells s.now)) (hf : fewS s) (root : Int) (hr : -9223372036854775808 ≤ root ∧ root ≤ 9223372036854775807) :
  SpecL Tryz.prog 18 #[.agg #[bv, wv, .slice na s.now.length nc, lv0], .int .i64 root] M [] fun u _ L' => u = .tuple #[.int .i64 (rChk s root).1, .int .i64 (rChk s root).2] ∧ L' = [] := by
 refine spec_body (vs := [_, _]) 28 _ Tryz.func18 rfl Tryz.ntmps18 rfl rfl ?_; intro W
 refine jc_seq ?_
 refine jc_region ?_
 refine jl_h rfl rfl (hBox (cs := [_, _, _, _]) rfl rfl rfl rfl) ?_; rintro _ _ _ ⟨b2, rfl, rfl, rfl⟩
 iterate 2 refine jp rfl ?_
 refine jl_nil ?_
 refine jT ?_
 refine jc_seq ?_
 refine jc_seq ?_
 refine jc_region ?_
 refine jl_q rfl rfl (qLdL rfl rfl rfl rfl rfl) ?_
 refine jl_q rfl rfl (qCall rfl rfl rfl rfl rfl (by kernel_rfl) (rmay8_spec s _ M hS hf)) ?_
 refine jsb rfl (fun h9 => ?_) (fun h9 => ?_)
 ·refine jl_nil ?_
  refine jT ?_
  refine jc_yes rfl ?_
  refine jc_seq ?_
  refine jc_region ?_
  iterate 2 refine jp rfl ?_
  refine jl_nil ?_
  refine jT ?_
  refine jc_ret ?_
  refine jTr ?_
  refine jq_drop (L' := []) (List.nil_sublist _) ?_
  refine jr2 rfl rfl rfl ?_
  have hst : ¬ stOk s := by simpa using h9
  exact ⟨by unfold rChk; rw [if_neg hst], rfl⟩
 ·refine jl_nil ?_
  refine jT ?_
  refine jc_no rfl ?_
  refine jc_skip ?_
  refine jT ?_
  refine jc_seq ?_
  refine jc_seq ?_
  refine jc_region ?_
  refine jp rfl ?_
  refine js rfl (fun h11 => ?_) (fun h11 => ?_)
  ·iterate 4 refine jp rfl ?_
   refine jl_nil ?_
   refine jT ?_
   refine jc_yes rfl ?_
   refine jc_seq ?_
   refine jc_region ?_
   iterate 2 refine jp rfl ?_
   refine jl_nil ?_
   refine jT ?_
   refine jc_ret ?_
   refine jTr ?_
   refine jq_drop (L' := []) (List.nil_sublist _) ?_
   refine jr2 rfl rfl rfl ?_
   have hst : stOk s := by simpa using h9
   exact ⟨by unfold rChk; rw [if_pos hst, if_pos (by omega)], rfl⟩
  ·iterate 2 refine jp rfl ?_
   refine js rfl (fun h14 => ?_) (fun h14 => ?_)
   ·refine jp rfl ?_
    refine jl_nil ?_
    refine jT ?_
    refine jc_yes rfl ?_
    refine jc_seq ?_
    refine jc_region ?_
    iterate 2 refine jp rfl ?_
    refine jl_nil ?_
    refine jT ?_
    refine jc_ret ?_
    refine jTr ?_
    refine jq_drop (L' := []) (List.nil_sublist _) ?_
    refine jr2 rfl rfl rfl ?_
    have hst : stOk s := by simpa using h9
    exact ⟨by unfold rChk; rw [if_pos hst, if_pos (by omega)], rfl⟩
   ·refine jp rfl ?_
    refine jl_nil ?_
    refine jT ?_
    refine jc_no rfl ?_
    refine jc_skip ?_
    refine jT ?_
    refine jc_seq ?_
    refine jc_seq ?_
    refine jc_region ?_
    refine jl_q rfl rfl (qFieldAddr rfl rfl rfl rfl rfl) ?_
    refine jl_q rfl rfl (qLd rfl rfl rfl rfl (CJ.loc rfl)) ?_
    refine jp rfl ?_
    have hst : stOk s := by simpa using h9
    have hn1 := hst.2.1.1
    have hkn : root.toNat < s.now.length := by omega
    obtain ⟨tb, to, g0, gcl⟩ := rbyte_row h3 hkn
    rw [show ((root.toNat : Nat) : Int) = root by omega] at gcl
    refine jl_q rfl rfl (qIdxE rfl rfl rfl rfl g0 (by omega)) ?_
    refine jl_q rfl rfl (qLd rfl rfl rfl rfl (gcl.cj _)) ?_
    refine js rfl (fun h21 => ?_) (fun h21 => ?_)
    ·refine jl_nil ?_
     refine jT ?_
     refine jc_yes rfl ?_
     refine jc_seq ?_
     refine jc_region ?_
     iterate 2 refine jp rfl ?_
     refine jl_nil ?_
     refine jT ?_
     refine jc_ret ?_
     refine jTr ?_
     refine jq_drop (L' := []) (List.nil_sublist _) ?_
     refine jr2 rfl rfl rfl ?_
     have e0 : s.now[root.toNat] = 0 := UInt8.toNat_inj.1 (by show _ = 0; omega)
     exact ⟨by unfold rChk; rw [if_pos hst, if_neg (by omega), getD_at hkn, if_pos e0], rfl⟩
    ·refine jl_nil ?_
     refine jT ?_
     refine jc_no rfl ?_
     refine jc_skip ?_
     refine jT ?_
     refine jc_seq ?_
     refine jc_region ?_
     refine jl_q rfl rfl (qLdL rfl rfl rfl rfl rfl) ?_
     refine jp rfl ?_
     refine jl_h rfl rfl (hCall rfl rfl rfl rfl rfl (by kernel_rfl) (rtree_spec s hst _ root M hS (by omega))) ?_; rintro _ M1 _ ⟨hM1, _, rfl, ⟨rfl, rfl⟩⟩
     refine jp rfl ?_
     refine jl_nil ?_
     refine jT ?_
     refine jc_seq ?_
     refine jc_seq ?_
     refine jc_region ?_
     refine jp rfl ?_
     refine js rfl (fun h26 => ?_) (fun h26 => ?_)
     ·refine jl_nil ?_
      refine jT ?_
      refine jc_yes rfl ?_
      refine jc_seq ?_
      refine jc_region ?_
      iterate 2 refine jp rfl ?_
      refine jl_nil ?_
      refine jT ?_
      refine jc_ret ?_
      refine jTr ?_
      refine jq_drop (L' := []) (List.nil_sublist _) ?_
      refine jr2 rfl rfl rfl ?_
      have e0 : ¬ s.now[root.toNat] = 0 := fun h => h21 (by rw [h]; rfl)
      exact ⟨by unfold rChk; rw [if_pos hst, if_neg (by omega), getD_at hkn, if_neg e0, if_pos h26], rfl⟩
     ·refine jl_nil ?_
      refine jT ?_
      refine jc_no rfl ?_
      refine jc_skip ?_
      refine jT ?_
      refine jc_seq ?_
      refine jc_region ?_
      iterate 3 refine jp rfl ?_
      refine jl_nil ?_
      refine jT ?_
      refine jc_ret ?_
      refine jq_drop (L' := []) (List.nil_sublist _) ?_
      refine jr2 rfl rfl rfl ?_
      have e0 : ¬ s.now[root.toNat] = 0 := fun h => h21 (by rw [h]; rfl)
      exact ⟨by unfold rChk; rw [if_pos hst, if_neg (by omega), getD_at hkn, if_neg e0, if_neg h26], rfl⟩


theorem rchk10_spec (s : Sto) (u : Value) (root : Int) (M : Mem) (hS : ST M u s) (hf : fewS s) (hr : -9223372036854775808 ≤ root ∧ root ≤ 9223372036854775807) : SpecL Tryz.prog 18 #[u, .int .i64 root] M [] fun u _ L' => u = .tuple #[.int .i64 (rChk s root).1, .int .i64 (rChk s root).2] ∧ L' = [] := by
 obtain ⟨b, w, n, l, rfl, k1, k2, ⟨na, nc, rfl, _, k3⟩, k4⟩ := id hS.ex
 exact rchk10_walk s b w l na nc M hS k3 hf root hr

end Go.Proofs.YtkjghgndmpbfiaaGreat
namespace Go.Proofs.YtkjghgndmpbfiaaGreat
set_option linter.unusedVariables false
set_option linter.unusedSimpArgs false
open Go.RowKit

theorem leaf_is {s : Sto} : ∀ {xs : List It} {o : Option Sp} {p : Option Ky}, itemsOk false p xs = true → (∀ q, o = some q → p = some q.last) → xs ≠ [] → (goSp (oneOf s 0) o xs).is = (xs.all fun x => (oneOf s 0 x).is)
 | [], _, _, _, _, h => absurd rfl h
 | x :: xs, o, p, h, ho, _ => by
  simp only [itemsOk, Bool.and_eq_true, Bool.not_eq_true', Bool.or_eq_true] at h
  rw [goSp, List.all_cons]
  by_cases hx : (oneOf s 0 x).is = true
  ·have hs : stepOk (oneOf s 0 x) o x = true := by
    unfold stepOk
    rw [hx, Bool.true_and, Bool.and_eq_true]
    refine ⟨decide_eq_true rfl, ?_⟩
    cases o with
    | none => rfl
    | some q =>
     have := ho q rfl
     subst this
     show kless q.last x.key = true
     simpa using h.1.1.2
   rw [if_pos hs, hx, Bool.true_and]
   cases xs with
   | nil => rfl
   | cons y ys => exact leaf_is (p := some x.key) h.2 (fun q hq => by cases hq; rfl) (by simp)
  ·have hs : stepOk (oneOf s 0 x) o x = false := by
    unfold stepOk
    rw [Bool.eq_false_iff.2 hx, Bool.false_and, Bool.false_and]
   rw [if_neg (by rw [hs]; decide), Bool.eq_false_iff.2 hx, Bool.false_and]; rfl
theorem go_last0 {s : Sto} : ∀ {xs : List It} {o : Option Sp}, (goSp (oneOf s 0) o xs).is = true → xs ≠ [] → (goSp (oneOf s 0) o xs).last = lastK xs
 | [], _, _, h => absurd rfl h
 | [x], o, h, _ => by
  rw [goSp] at h ⊢
  split
  ·rfl
  ·rename_i hh; rw [if_neg hh] at h; cases h
 | x :: y :: ys, o, h, _ => by
  rw [goSp] at h ⊢
  split
  ·rename_i hh
   rw [if_pos hh] at h
   rw [go_last0 h (by simp)]
   unfold lastK; simp
  ·rename_i hh; rw [if_neg hh] at h; cases h
/-- a child's check tells its span -/
def RF (s : Sto) (l : Nat) : Prop := ∀ (x : It) (to : Ky) (ends : Bool), rRt s l x.ref x.key to ends = true ↔ (oneOf s (l + 1) x).is = true ∧ (oneOf s (l + 1) x).first = x.key ∧ (ends = true → kless (oneOf s (l + 1) x).last to = true)
theorem rgo_is {s : Sto} {l : Nat} (hR : RF s l) {to : Ky} {ends : Bool} : ∀ {xs : List It} {o : Option Sp}, (∀ q, o = some q → ∀ h : 0 < xs.length, kless q.last xs[0].key = true) → xs ≠ [] → (rGo (fun x => rRt s l x.ref x.key) to ends xs = true ↔ (goSp (oneOf s (l + 1)) o xs).is = true ∧ (ends = true → kless (goSp (oneOf s (l + 1)) o xs).last to = true))
 | [], _, _, h => absurd rfl h
 | [x], o, ho, _ => by
  rw [rGo, hR, goSp]
  have hst : stepOk (oneOf s (l + 1) x) o x = true ↔ (oneOf s (l + 1) x).is = true ∧ (oneOf s (l + 1) x).first = x.key := by
   unfold stepOk
   rw [Bool.and_eq_true, Bool.and_eq_true, decide_eq_true_eq]
   refine ⟨fun h => h.1, fun h => ⟨h, ?_⟩⟩
   cases o with
   | none => rfl
   | some q => rw [h.2]; exact ho q rfl (by simp)
  by_cases hs : stepOk (oneOf s (l + 1) x) o x = true
  ·rw [if_pos hs]
   have h2 := hst.1 hs
   exact ⟨fun h => ⟨rfl, h.2.2⟩, fun h => ⟨h2.1, h2.2, h.2⟩⟩
  ·rw [if_neg hs]
   exact ⟨fun h => absurd (hst.2 ⟨h.1, h.2.1⟩) hs, fun h => by cases h.1⟩
 | x :: y :: ys, o, ho, _ => by
  rw [rGo, Bool.and_eq_true, hR, goSp]
  have hst : stepOk (oneOf s (l + 1) x) o x = true ↔ (oneOf s (l + 1) x).is = true ∧ (oneOf s (l + 1) x).first = x.key := by
   unfold stepOk
   rw [Bool.and_eq_true, Bool.and_eq_true, decide_eq_true_eq]
   refine ⟨fun h => h.1, fun h => ⟨h, ?_⟩⟩
   cases o with
   | none => rfl
   | some q => rw [h.2]; exact ho q rfl (by simp)
  by_cases hs : stepOk (oneOf s (l + 1) x) o x = true
  ·rw [if_pos hs]
   have h2 := hst.1 hs
   by_cases hl : kless (oneOf s (l + 1) x).last y.key = true
   ·have ih := rgo_is hR (to := to) (ends := ends) (xs := y :: ys) (o := some (stepSp (oneOf s (l + 1) x) o)) (fun q hq _ => by cases hq; exact hl) (by simp)
    rw [ih]
    exact ⟨fun h => h.2, fun h => ⟨⟨h2.1, h2.2, fun _ => hl⟩, h⟩⟩
   ·refine ⟨fun h => absurd (h.1.2.2 rfl) hl, fun h => ?_⟩
    exfalso
    have h3 := h.1
    rw [goSp] at h3
    split at h3
    ·rename_i hh
     unfold stepOk at hh
     rw [Bool.and_eq_true, Bool.and_eq_true, decide_eq_true_eq] at hh
     have h4 := hh.2
     rw [hh.1.2] at h4
     exact hl h4
    ·cases h3
  ·rw [if_neg hs]
   exact ⟨fun h => absurd (hst.2 ⟨h.1.1, h.1.2.1⟩) hs, fun h => by cases h.1⟩
theorem lastK_mem {xs : List It} (h : xs ≠ []) : ∃ z ∈ xs, lastK xs = z.key := by
 have : xs.length - 1 < xs.length := by have := List.length_pos_iff.2 h; omega
 exact ⟨xs[xs.length - 1], List.getElem_mem _, lastK_is this rfl⟩
theorem go_le {s : Sto} {l : Nat} {xs : List It} (h : (goSp (oneOf s l) none xs).is = true) (hx : xs ≠ []) : kle (lastK xs) (goSp (oneOf s l) none xs).last ∧ (goSp (oneOf s l) none xs).first = headK xs := by
 have h1 := go_in (f := oneOf s l) (g := allOne s l) (o := none) (xs := xs) (fun x _ h1 h2 => one_in s l x h1 h2) h hx
 obtain ⟨z, hz, e⟩ := lastK_mem hx
 exact ⟨by rw [e]; exact h1.2.2.1 z hz, h1.2.2.2.2⟩
theorem rin_is {s : Sto} : ∀ (l : Nat) {xs : List It} {to : Ky} {ends : Bool}, NdOk (l : Int) xs → xs ≠ [] → ((rIn s l xs to ends = true ∧ (ends = true → kless (lastK xs) to = true)) ↔ (goSp (oneOf s l) none xs).is = true ∧ (ends = true → kless (goSp (oneOf s l) none xs).last to = true))
 | 0, xs, to, ends, hno, hx => by
  have h1 := leaf_is (s := s) (o := none) (xs := xs) (p := none) hno.ok (fun q hq => by cases hq) hx
  show ((xs.all fun x => (oneOf s 0 x).is) = true ∧ _) ↔ _
  rw [← h1]
  refine ⟨fun h => ⟨h.1, fun he => by rw [go_last0 h.1 hx]; exact h.2 he⟩, fun h => ⟨h.1, fun he => by rw [← go_last0 h.1 hx]; exact h.2 he⟩⟩
 | l + 1, xs, to, ends, hno, hx => by
  have hR : RF s l := by
   intro x to ends
   unfold rRt
   simp only [oneOf]
   cases hnd : ndAt s x.ref.toNat with
   | none => simp [spNo]
   | some p =>
    obtain ⟨lv, ys⟩ := p
    by_cases hc : lv = (l : Int) ∧ ys ≠ []
    ·obtain ⟨rfl, hys⟩ := hc
     have ih := rin_is (s := s) l (to := to) (ends := ends) (ndAt_ok hnd) hys
     simp only [hys, ne_eq, not_false_eq_true, decide_true, Bool.true_and, and_self, if_true, Bool.and_eq_true, decide_eq_true_eq, Bool.or_eq_true, Bool.not_eq_true']
     constructor
     ·rintro ⟨⟨h1, h2⟩, h3⟩
      have h5 : ends = true → kless (lastK ys) to = true := by
       intro he
       rcases h2 with h2 | h2
       ·rw [he] at h2; cases h2
       ·exact h2
      have h4 := ih.1 ⟨h3, h5⟩
      exact ⟨h4.1, by rw [(go_le h4.1 hys).2, h1], h4.2⟩
     ·rintro ⟨h1, h2, h3⟩
      have h4 := ih.2 ⟨h1, h3⟩
      refine ⟨⟨by rw [← (go_le h1 hys).2, h2], ?_⟩, h4.1⟩
      cases ends with
      | false => exact .inl rfl
      | true => exact .inr (h4.2 rfl)
    ·simp only [if_neg hc]
     constructor
     ·intro h
      simp only [Bool.and_eq_true, decide_eq_true_eq] at h
      exact absurd ⟨h.1.1.1.1, h.1.1.1.2⟩ hc
     ·rintro ⟨h, _⟩; cases h
  rw [rIn_up]
  have h1 := rgo_is hR (to := to) (ends := ends) (xs := xs) (o := none) (fun q hq => by cases hq) hx
  rw [h1]
  refine ⟨fun h => h.1, fun h => ⟨h, fun he => kle_lt (go_le h.1 hx).1 (h.2 he)⟩⟩
theorem rin_tree {s : Sto} {l : Nat} {xs : List It} (hno : NdOk (l : Int) xs) : rIn s l xs ⟨0, 0, 0⟩ false = true ↔ treeOk s l xs := by
 by_cases hx : xs = []
 ·subst hx
  refine ⟨fun _ h => absurd rfl h, fun _ => ?_⟩
  cases l with
  | zero => rfl
  | succ l => rw [rIn_up]; rfl
 ·have h := rin_is (s := s) l (to := ⟨0, 0, 0⟩) (ends := false) hno hx
  unfold treeOk
  exact ⟨fun h1 _ => (h.1 ⟨h1, fun he => by cases he⟩).1, fun h1 => (h.2 ⟨h1 hx, fun he => by cases he⟩).1⟩
theorem rchk_is (s : Sto) (root : Int) : rChk s root = fchk s root := by
 unfold rChk fchk
 by_cases h1 : stOk s
 ·rw [if_pos h1, if_pos h1]
  by_cases h2 : root < 8 ∨ 256 ≤ root
  ·rw [if_pos h2, if_pos h2]
  ·rw [if_neg h2, if_neg h2]
   by_cases h3 : s.now.getD root.toNat 0 = 0
   ·rw [if_pos h3, if_pos h3]
   ·rw [if_neg h3, if_neg h3]
    cases hnd : ndAt s root.toNat with
    | none =>
     have hT : rTree s root = -1 := by unfold rTree; rw [hnd]
     rw [hT]; rfl
    | some p =>
     obtain ⟨lv, xs⟩ := p
     have hno := ndAt_ok hnd
     have hlv := hno.lev
     have e : ((lv.toNat : Nat) : Int) = lv := by omega
     have ht := rin_tree (s := s) (l := lv.toNat) (xs := xs) (by rw [e]; exact hno)
     dsimp only
     by_cases h4 : treeOk s lv.toNat xs
     ·have hT : rTree s root = lv + 1 := by unfold rTree; rw [hnd]; exact if_pos (ht.2 h4)
      rw [hT, if_pos h4, if_neg (by omega)]
     ·have hT : rTree s root = -1 := by unfold rTree; rw [hnd]; exact if_neg (fun h => h4 (ht.1 h))
      rw [hT, if_neg h4, if_pos (by omega)]
 ·rw [if_neg h1, if_neg h1]
theorem rchk10_fspec (s : Sto) (u : Value) (root : Int) (M : Mem) (hS : ST M u s) (hf : fewS s) (hr : -9223372036854775808 ≤ root ∧ root ≤ 9223372036854775807) : SpecL Tryz.prog 18 #[u, .int .i64 root] M [] fun u _ L' => u = .tuple #[.int .i64 (fchk s root).1, .int .i64 (fchk s root).2] ∧ L' = [] := by
 rw [← rchk_is]; exact rchk10_spec s u root M hS hf hr
end Go.Proofs.YtkjghgndmpbfiaaGreat
