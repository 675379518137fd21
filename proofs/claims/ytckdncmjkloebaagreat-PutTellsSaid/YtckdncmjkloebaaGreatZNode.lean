/- Walks: items and nodes read. -/
import Derived.Test.YtckdncmjkloebaaGreatZCode
namespace Go.Proofs.YtckdncmjkloebaaGreat
set_option linter.unusedVariables false
set_option linter.unusedSimpArgs false
open Go.RowKit

def rdS (xs : List By) : Nat := 12 + (xs.getD 11 0).toNat
def rdX (xs : List By) : It := ⟨⟨((xs.getD 0 0).toNat : Int), getN xs 1 4, getN xs 5 4⟩, getN xs 9 2, (xs.drop 12).take (rdS xs - 12)⟩
def rdE (xs : List By) : Int := if xs.length < 12 then 8 else if xs.length < rdS xs then 8 else itChk (rdX xs)
def zeroIt : List Value := [.int .u8 0, .int .u32 0, .int .u32 0, .int .i64 0, .slice none 0 0]
theorem bget {xs : List By} {j : Nat} (h : j < xs.length) : (bcells xs)[j]? = some (.int .u8 ((xs.getD j 0).toNat : Int)) := by simp [bcells, List.getD, h]
theorem rdX_len {xs : List By} (h : rdS xs ≤ xs.length) : (rdX xs).val.length = rdS xs - 12 := by
 simp only [rdX, List.length_take, List.length_drop]; unfold rdS at h ⊢; omega

theorem iread_len (sa : Option Addr) (c : Nat) (xs : List By) (M : Mem) (hc : xs.length ≤ c) (hs : SM M sa (bcells xs)) (hn : xs.length ≤ 100000) (h : xs.length < 12) :
  SpecL Tryz.prog 131 #[.slice sa xs.length c] M [] fun v _ L' => v = .tuple #[.agg zeroIt.toArray, .int .i64 0, .int .i64 (8)] ∧ L' = [] := by
 refine spec_body (vs := [_]) 59 _ Tryz.func131 rfl Tryz.ntmps131 rfl rfl ?_; intro W
 refine jc_seq ?_
 refine jc_region ?_
 refine jl_h rfl rfl (hAlloc rfl rfl) ?_; rintro _ _ _ ⟨b2, rfl, rfl, rfl⟩
 iterate 2 refine jp rfl ?_
 refine jl_nil ?_
 refine jT ?_
 refine jc_seq ?_
 refine jc_seq ?_
 refine jc_region ?_
 refine jp rfl ?_
 refine jl_q rfl rfl (qLen rfl rfl rfl) ?_
 refine jt rfl (decide_eq_true (by omega)) ?_
 refine jl_nil ?_
 refine jT ?_
 refine jc_yes rfl ?_
 refine jc_seq ?_
 refine jc_region ?_
 refine jl_q rfl rfl (qBuild (cs := [_, _, _, _, _]) rfl rfl rfl (by rfl)) ?_
 refine jl_s rfl (hStoreL rfl rfl rfl rfl rfl rfl rfl rfl) ?_; rintro _ _ _ ⟨rfl, rfl⟩
 iterate 2 refine jp rfl ?_
 refine jl_nil ?_
 refine jT ?_
 refine jc_ret ?_
 refine jTr ?_
 refine jrsd (rs := [_, _, _]) ([]) (by simp) rfl (.cons (.agg rfl rfl rfl) (.cons (.tmp rfl) (.cons (.tmp rfl) .nil))) ?_
 exact ⟨rfl, rfl⟩

theorem iread_size (sa : Option Addr) (c : Nat) (xs : List By) (M : Mem) (hc : xs.length ≤ c) (hs : SM M sa (bcells xs)) (hn : xs.length ≤ 100000) (h : ¬ xs.length < 12) (h2 : xs.length < rdS xs) :
  SpecL Tryz.prog 131 #[.slice sa xs.length c] M [] fun v _ L' => v = .tuple #[.agg zeroIt.toArray, .int .i64 0, .int .i64 (8)] ∧ L' = [] := by
 obtain ⟨sb, so, e0, hx⟩ := hs.open (by intro e; have := congrArg List.length e; rw [bcells_len, List.length_nil] at this; omega)
 subst e0
 have hbl := (xs.getD 11 0).toNat_lt
 have hS : rdS xs = 12 + (xs.getD 11 0).toNat := rfl
 refine spec_body (vs := [_]) 59 _ Tryz.func131 rfl Tryz.ntmps131 rfl rfl ?_; intro W
 refine jc_seq ?_
 refine jc_region ?_
 refine jl_h rfl rfl (hAlloc rfl rfl) ?_; rintro _ _ _ ⟨b2, rfl, rfl, rfl⟩
 iterate 2 refine jp rfl ?_
 refine jl_nil ?_
 refine jT ?_
 refine jc_seq ?_
 refine jc_seq ?_
 refine jc_region ?_
 refine jp rfl ?_
 refine jl_q rfl rfl (qLen rfl rfl rfl) ?_
 refine jf rfl (decide_eq_false (by omega)) ?_
 refine jl_nil ?_
 refine jT ?_
 refine jc_no rfl ?_
 refine jc_skip ?_
 refine jT ?_
 refine jc_seq ?_
 refine jc_seq ?_
 refine jc_region ?_
 refine jp rfl ?_
 refine jl_q rfl rfl (qIdxS rfl rfl rfl rfl (by omega)) ?_
 refine jl_q rfl rfl (qLd rfl rfl rfl rfl ((hx ((11 : Int).toNat * 1) _ (bget (j := 11) (by omega))).cj _)) ?_
 refine jl_q rfl rfl (qConv64 rfl rfl rfl (by omega)) ?_
 refine ja rfl (by omega) ?_
 refine jp rfl ?_
 refine jl_nil ?_
 refine jT ?_
 refine jc_seq ?_
 refine jc_region ?_
 iterate 2 refine jp rfl ?_
 refine jl_q rfl rfl (qLen rfl rfl rfl) ?_
 refine jt rfl (decide_eq_true (by omega)) ?_
 refine jl_nil ?_
 refine jT ?_
 refine jc_yes rfl ?_
 refine jc_seq ?_
 refine jc_region ?_
 refine jl_q rfl rfl (qBuild (cs := [_, _, _, _, _]) rfl rfl rfl (by rfl)) ?_
 refine jl_s rfl (hStoreL rfl rfl rfl rfl rfl rfl rfl rfl) ?_; rintro _ _ _ ⟨rfl, rfl⟩
 iterate 2 refine jp rfl ?_
 refine jl_nil ?_
 refine jT ?_
 refine jc_ret ?_
 refine jTr ?_
 refine jrsd (rs := [_, _, _]) ([]) (by simp) rfl (.cons (.agg rfl rfl rfl) (.cons (.tmp rfl) (.cons (.tmp rfl) .nil))) ?_
 exact ⟨rfl, rfl⟩

theorem iread_chk (sa : Option Addr) (c : Nat) (xs : List By) (M : Mem) (hc : xs.length ≤ c) (hs : SM M sa (bcells xs)) (hn : xs.length ≤ 100000) (h : ¬ xs.length < 12) (h2 : ¬ xs.length < rdS xs) (h3 : itChk (rdX xs) ≠ 0) :
  SpecL Tryz.prog 131 #[.slice sa xs.length c] M [] fun v _ L' => v = .tuple #[.agg zeroIt.toArray, .int .i64 0, .int .i64 (itChk (rdX xs))] ∧ L' = [] := by
 obtain ⟨sb, so, e0, hx⟩ := hs.open (by intro e; have := congrArg List.length e; rw [bcells_len, List.length_nil] at this; omega)
 subst e0
 have hbl := (xs.getD 11 0).toNat_lt
 have hS : rdS xs = 12 + (xs.getD 11 0).toNat := rfl
 have hvl := rdX_len (xs := xs) (by omega)
 have hsv : SM M (slA (some ⟨sb, so, none⟩) 12 (rdS xs) 1) (bcells (rdX xs).val) := by
   by_cases hz : rdS xs = 12
   ·left; have : (rdX xs).val = [] := List.eq_nil_of_length_eq_zero (by omega); rw [this]; rfl
   ·rw [slA_some (by omega)]; exact .inr ⟨sb, _, rfl, SM.sub 12 (rdS xs - 12) hx⟩
 have hbs : BS M (.slice (slA (some ⟨sb, so, none⟩) 12 (rdS xs) 1) (rdX xs).val.length (rdS xs - 12)) (rdX xs).val := ⟨_, _, rfl, by omega, hsv⟩
 refine spec_body (vs := [_]) 59 _ Tryz.func131 rfl Tryz.ntmps131 rfl rfl ?_; intro W
 refine jc_seq ?_
 refine jc_region ?_
 refine jl_h rfl rfl (hAlloc rfl rfl) ?_; rintro _ _ _ ⟨b2, rfl, rfl, rfl⟩
 iterate 2 refine jp rfl ?_
 refine jl_nil ?_
 refine jT ?_
 refine jc_seq ?_
 refine jc_seq ?_
 refine jc_region ?_
 refine jp rfl ?_
 refine jl_q rfl rfl (qLen rfl rfl rfl) ?_
 refine jf rfl (decide_eq_false (by omega)) ?_
 refine jl_nil ?_
 refine jT ?_
 refine jc_no rfl ?_
 refine jc_skip ?_
 refine jT ?_
 refine jc_seq ?_
 refine jc_seq ?_
 refine jc_region ?_
 refine jp rfl ?_
 refine jl_q rfl rfl (qIdxS rfl rfl rfl rfl (by omega)) ?_
 refine jl_q rfl rfl (qLd rfl rfl rfl rfl ((hx ((11 : Int).toNat * 1) _ (bget (j := 11) (by omega))).cj _)) ?_
 refine jl_q rfl rfl (qConv64 rfl rfl rfl (by omega)) ?_
 refine ja rfl (by omega) ?_
 refine jp rfl ?_
 refine jl_nil ?_
 refine jT ?_
 refine jc_seq ?_
 refine jc_region ?_
 iterate 2 refine jp rfl ?_
 refine jl_q rfl rfl (qLen rfl rfl rfl) ?_
 refine jf rfl (decide_eq_false (by omega)) ?_
 refine jl_nil ?_
 refine jT ?_
 refine jc_no rfl ?_
 refine jc_skip ?_
 refine jT ?_
 refine jc_seq ?_
 refine jc_region ?_
 refine jp rfl ?_
 refine jl_q rfl rfl (qIdxS rfl rfl rfl rfl (by omega)) ?_
 refine jl_q rfl rfl (qLd rfl rfl rfl rfl ((hx ((0 : Int).toNat * 1) _ (bget (j := 0) (by omega))).cj _)) ?_
 refine jl_q rfl rfl (qFieldAddr rfl rfl rfl rfl rfl) ?_
 refine jl_q rfl rfl (qFieldAddr rfl rfl rfl rfl rfl) ?_
 refine jl_s rfl (hStoreL rfl rfl rfl rfl rfl rfl rfl rfl) ?_; rintro _ _ _ ⟨rfl, rfl⟩
 refine jl_nil ?_
 refine jT ?_
 refine jc_seq ?_
 refine jc_region ?_
 refine jp rfl ?_
 refine jl_q rfl rfl (qCall rfl rfl rfl rfl rfl (by kernel_rfl) (getFour_spec _ c xs 1 M hs hc (by omega) (by omega))) ?_
 iterate 3 refine jp rfl ?_
 refine jl_q rfl rfl (qFieldAddr rfl rfl rfl rfl rfl) ?_
 refine jl_q rfl rfl (qFieldAddr rfl rfl rfl rfl rfl) ?_
 refine jl_s rfl (hStoreL rfl rfl rfl rfl rfl rfl rfl rfl) ?_; rintro _ _ _ ⟨rfl, rfl⟩
 refine jl_nil ?_
 refine jT ?_
 refine jc_seq ?_
 refine jc_region ?_
 refine jp rfl ?_
 refine jl_q rfl rfl (qCall rfl rfl rfl rfl rfl (by kernel_rfl) (getFour_spec _ c xs 5 M hs hc (by omega) (by omega))) ?_
 iterate 3 refine jp rfl ?_
 refine jl_q rfl rfl (qFieldAddr rfl rfl rfl rfl rfl) ?_
 refine jl_q rfl rfl (qFieldAddr rfl rfl rfl rfl rfl) ?_
 refine jl_s rfl (hStoreL rfl rfl rfl rfl rfl rfl rfl rfl) ?_; rintro _ _ _ ⟨rfl, rfl⟩
 refine jl_nil ?_
 refine jT ?_
 refine jc_seq ?_
 refine jc_region ?_
 refine jp rfl ?_
 refine jl_q rfl rfl (qCall rfl rfl rfl rfl rfl (by kernel_rfl) (getTwo_spec _ c xs 9 M hs hc (by omega) (by omega))) ?_
 iterate 3 refine jp rfl ?_
 refine jl_q rfl rfl (qFieldAddr rfl rfl rfl rfl rfl) ?_
 refine jl_s rfl (hStoreL rfl rfl rfl rfl rfl rfl rfl rfl) ?_; rintro _ _ _ ⟨rfl, rfl⟩
 refine jl_nil ?_
 refine jT ?_
 refine jc_seq ?_
 refine jc_region ?_
 iterate 3 refine jp rfl ?_
 refine jl_q rfl rfl (qEq (qSl rfl rfl rfl (.of (v := rdS xs) rfl (by omega) (by omega)) (.of (v := rdS xs) rfl (by omega) (by omega)) (.of (v := 12) rfl (by omega) rfl) (by omega) (by simp)) (v' := .slice (slA (some ⟨sb, so, none⟩) 12 (rdS xs) 1) (rdX xs).val.length (rdS xs - 12)) (by rw [hvl])) ?_
 refine jl_q rfl rfl (qFieldAddr rfl rfl rfl rfl rfl) ?_
 refine jl_s rfl (hStoreL rfl rfl rfl rfl rfl rfl rfl rfl) ?_; rintro _ _ _ ⟨rfl, rfl⟩
 refine jl_nil ?_
 refine jT ?_
 refine jc_seq ?_
 refine jc_seq ?_
 refine jc_region ?_
 refine jl_q rfl rfl (qLdL rfl rfl rfl rfl rfl) ?_
 refine jl_q rfl rfl (qCall rfl rfl rfl rfl rfl (by kernel_rfl) (itcheck_spec (rdX xs) _ M hbs)) ?_
 refine jp rfl ?_
 refine jl_nil ?_
 refine jT ?_
 refine jc_seq ?_
 refine jc_region ?_
 refine jp rfl ?_
 refine jt rfl (decide_eq_true (by omega)) ?_
 refine jl_nil ?_
 refine jT ?_
 refine jc_yes rfl ?_
 refine jc_seq ?_
 refine jc_region ?_
 refine jl_q rfl rfl (qBuild (cs := [_, _, _, _, _]) rfl rfl rfl (by rfl)) ?_
 refine jp rfl ?_
 refine jl_s rfl (hStoreL rfl rfl rfl rfl rfl rfl rfl rfl) ?_; rintro _ _ _ ⟨rfl, rfl⟩
 iterate 2 refine jp rfl ?_
 refine jl_nil ?_
 refine jT ?_
 refine jc_ret ?_
 refine jTr ?_
 refine jrsd (rs := [_, _, _]) ([]) (by simp) rfl (.cons (.agg rfl rfl rfl) (.cons (.tmp rfl) (.cons (.tmp rfl) .nil))) ?_
 exact ⟨rfl, rfl⟩

theorem iread_ok (sa : Option Addr) (c : Nat) (xs : List By) (M : Mem) (hc : xs.length ≤ c) (hs : SM M sa (bcells xs)) (hn : xs.length ≤ 100000) (h : ¬ xs.length < 12) (h2 : ¬ xs.length < rdS xs) (h3 : itChk (rdX xs) = 0) :
  SpecL Tryz.prog 131 #[.slice sa xs.length c] M [] fun v M' L' => ∃ cs, v = .tuple #[.agg cs.toArray, .int .i64 (rdS xs), .int .i64 0] ∧ IR (newOf M M') cs (rdX xs) ∧ L' = [] := by
 obtain ⟨sb, so, e0, hx⟩ := hs.open (by intro e; have := congrArg List.length e; rw [bcells_len, List.length_nil] at this; omega)
 subst e0
 have hbl := (xs.getD 11 0).toNat_lt
 have hS : rdS xs = 12 + (xs.getD 11 0).toNat := rfl
 have hvl := rdX_len (xs := xs) (by omega)
 have hsv : SM M (slA (some ⟨sb, so, none⟩) 12 (rdS xs) 1) (bcells (rdX xs).val) := by
   by_cases hz : rdS xs = 12
   ·left; have : (rdX xs).val = [] := List.eq_nil_of_length_eq_zero (by omega); rw [this]; rfl
   ·rw [slA_some (by omega)]; exact .inr ⟨sb, _, rfl, SM.sub 12 (rdS xs - 12) hx⟩
 have hbs : BS M (.slice (slA (some ⟨sb, so, none⟩) 12 (rdS xs) 1) (rdX xs).val.length (rdS xs - 12)) (rdX xs).val := ⟨_, _, rfl, by omega, hsv⟩
 refine spec_body (vs := [_]) 59 _ Tryz.func131 rfl Tryz.ntmps131 rfl rfl ?_; intro W
 refine jc_seq ?_
 refine jc_region ?_
 refine jl_h rfl rfl (hAlloc rfl rfl) ?_; rintro _ _ _ ⟨b2, rfl, rfl, rfl⟩
 iterate 2 refine jp rfl ?_
 refine jl_nil ?_
 refine jT ?_
 refine jc_seq ?_
 refine jc_seq ?_
 refine jc_region ?_
 refine jp rfl ?_
 refine jl_q rfl rfl (qLen rfl rfl rfl) ?_
 refine jf rfl (decide_eq_false (by omega)) ?_
 refine jl_nil ?_
 refine jT ?_
 refine jc_no rfl ?_
 refine jc_skip ?_
 refine jT ?_
 refine jc_seq ?_
 refine jc_seq ?_
 refine jc_region ?_
 refine jp rfl ?_
 refine jl_q rfl rfl (qIdxS rfl rfl rfl rfl (by omega)) ?_
 refine jl_q rfl rfl (qLd rfl rfl rfl rfl ((hx ((11 : Int).toNat * 1) _ (bget (j := 11) (by omega))).cj _)) ?_
 refine jl_q rfl rfl (qConv64 rfl rfl rfl (by omega)) ?_
 refine ja rfl (by omega) ?_
 refine jp rfl ?_
 refine jl_nil ?_
 refine jT ?_
 refine jc_seq ?_
 refine jc_region ?_
 iterate 2 refine jp rfl ?_
 refine jl_q rfl rfl (qLen rfl rfl rfl) ?_
 refine jf rfl (decide_eq_false (by omega)) ?_
 refine jl_nil ?_
 refine jT ?_
 refine jc_no rfl ?_
 refine jc_skip ?_
 refine jT ?_
 refine jc_seq ?_
 refine jc_region ?_
 refine jp rfl ?_
 refine jl_q rfl rfl (qIdxS rfl rfl rfl rfl (by omega)) ?_
 refine jl_q rfl rfl (qLd rfl rfl rfl rfl ((hx ((0 : Int).toNat * 1) _ (bget (j := 0) (by omega))).cj _)) ?_
 refine jl_q rfl rfl (qFieldAddr rfl rfl rfl rfl rfl) ?_
 refine jl_q rfl rfl (qFieldAddr rfl rfl rfl rfl rfl) ?_
 refine jl_s rfl (hStoreL rfl rfl rfl rfl rfl rfl rfl rfl) ?_; rintro _ _ _ ⟨rfl, rfl⟩
 refine jl_nil ?_
 refine jT ?_
 refine jc_seq ?_
 refine jc_region ?_
 refine jp rfl ?_
 refine jl_q rfl rfl (qCall rfl rfl rfl rfl rfl (by kernel_rfl) (getFour_spec _ c xs 1 M hs hc (by omega) (by omega))) ?_
 iterate 3 refine jp rfl ?_
 refine jl_q rfl rfl (qFieldAddr rfl rfl rfl rfl rfl) ?_
 refine jl_q rfl rfl (qFieldAddr rfl rfl rfl rfl rfl) ?_
 refine jl_s rfl (hStoreL rfl rfl rfl rfl rfl rfl rfl rfl) ?_; rintro _ _ _ ⟨rfl, rfl⟩
 refine jl_nil ?_
 refine jT ?_
 refine jc_seq ?_
 refine jc_region ?_
 refine jp rfl ?_
 refine jl_q rfl rfl (qCall rfl rfl rfl rfl rfl (by kernel_rfl) (getFour_spec _ c xs 5 M hs hc (by omega) (by omega))) ?_
 iterate 3 refine jp rfl ?_
 refine jl_q rfl rfl (qFieldAddr rfl rfl rfl rfl rfl) ?_
 refine jl_q rfl rfl (qFieldAddr rfl rfl rfl rfl rfl) ?_
 refine jl_s rfl (hStoreL rfl rfl rfl rfl rfl rfl rfl rfl) ?_; rintro _ _ _ ⟨rfl, rfl⟩
 refine jl_nil ?_
 refine jT ?_
 refine jc_seq ?_
 refine jc_region ?_
 refine jp rfl ?_
 refine jl_q rfl rfl (qCall rfl rfl rfl rfl rfl (by kernel_rfl) (getTwo_spec _ c xs 9 M hs hc (by omega) (by omega))) ?_
 iterate 3 refine jp rfl ?_
 refine jl_q rfl rfl (qFieldAddr rfl rfl rfl rfl rfl) ?_
 refine jl_s rfl (hStoreL rfl rfl rfl rfl rfl rfl rfl rfl) ?_; rintro _ _ _ ⟨rfl, rfl⟩
 refine jl_nil ?_
 refine jT ?_
 refine jc_seq ?_
 refine jc_region ?_
 iterate 3 refine jp rfl ?_
 refine jl_q rfl rfl (qEq (qSl rfl rfl rfl (.of (v := rdS xs) rfl (by omega) (by omega)) (.of (v := rdS xs) rfl (by omega) (by omega)) (.of (v := 12) rfl (by omega) rfl) (by omega) (by simp)) (v' := .slice (slA (some ⟨sb, so, none⟩) 12 (rdS xs) 1) (rdX xs).val.length (rdS xs - 12)) (by rw [hvl])) ?_
 refine jl_q rfl rfl (qFieldAddr rfl rfl rfl rfl rfl) ?_
 refine jl_s rfl (hStoreL rfl rfl rfl rfl rfl rfl rfl rfl) ?_; rintro _ _ _ ⟨rfl, rfl⟩
 refine jl_nil ?_
 refine jT ?_
 refine jc_seq ?_
 refine jc_seq ?_
 refine jc_region ?_
 refine jl_q rfl rfl (qLdL rfl rfl rfl rfl rfl) ?_
 refine jl_q rfl rfl (qCall rfl rfl rfl rfl rfl (by kernel_rfl) (itcheck_spec (rdX xs) _ M hbs)) ?_
 refine jp rfl ?_
 refine jl_nil ?_
 refine jT ?_
 refine jc_seq ?_
 refine jc_region ?_
 refine jp rfl ?_
 refine jf rfl (decide_eq_false (by omega)) ?_
 refine jl_nil ?_
 refine jT ?_
 refine jc_no rfl ?_
 refine jc_skip ?_
 refine jT ?_
 refine jc_seq ?_
 refine jc_region ?_
 refine jl_q rfl rfl (qLdL rfl rfl rfl rfl rfl) ?_
 refine jl_h rfl rfl (hCall rfl rfl rfl rfl rfl (by kernel_rfl) (twin_spec (rdX xs) _ M hbs (by omega))) ?_; rintro _ M1 _ ⟨hM1, _, rfl, ⟨cs, rfl, hir, rfl⟩⟩
 obtain ⟨s1, rfl, a1, c1, rfl, hc1, hs1⟩ := hir
 refine jp rfl ?_
 refine jl_s rfl (hStoreL rfl rfl rfl rfl rfl rfl rfl rfl) ?_; rintro _ _ _ ⟨rfl, rfl⟩
 iterate 2 refine jp rfl ?_
 refine jl_nil ?_
 refine jT ?_
 refine jc_ret ?_
 refine jrsd (rs := [_, _, _]) ([]) (by simp) rfl (.cons (.agg rfl rfl rfl) (.cons (.tmp rfl) (.cons (.tmp rfl) .nil))) ?_
 exact ⟨_, rfl, ⟨_, rfl, a1, c1, rfl, hc1, hs1⟩, rfl⟩


/-! ### Max -/
def mxB (xs : List By) : Int := (xs.drop 1).foldl (fun m x => max m (x.toNat : Int)) ((xs.getD 0 0).toNat : Int)
def mxK (xs : List By) (k : Nat) : Int := ((xs.drop 1).take k).foldl (fun m x => max m (x.toNat : Int)) ((xs.getD 0 0).toNat : Int)
theorem mxK_step {xs : List By} {k : Nat} (h : k + 1 < xs.length) : mxK xs (k + 1) = max (mxK xs k) (xs[k + 1].toNat : Int) := by
 unfold mxK
 rw [List.take_succ_eq_append_getElem (by rw [List.length_drop]; omega), List.foldl_append]
 simp [Nat.add_comm]
theorem mx_le (ys : List By) : ∀ m : Int, m ≤ ys.foldl (fun m x => max m (x.toNat : Int)) m ∧ ∀ y ∈ ys, (y.toNat : Int) ≤ ys.foldl (fun m x => max m (x.toNat : Int)) m := by
 induction ys with
 | nil => intro m; simp
 | cons y ys ih =>
  intro m
  have := ih (max m (y.toNat : Int))
  refine ⟨by simp only [List.foldl_cons]; omega, fun z hz => ?_⟩
  rcases List.mem_cons.1 hz with rfl | hz
  ·simp only [List.foldl_cons]; omega
  ·simp only [List.foldl_cons]; exact this.2 z hz
theorem mx_zero (ys : List By) (h : ∀ y ∈ ys, y = 0) : ys.foldl (fun m x => max m (x.toNat : Int)) 0 = 0 := by
 induction ys with
 | nil => rfl
 | cons y ys ih => rw [List.foldl_cons, h y (by simp)]; exact ih (fun z hz => h z (by simp [hz]))
def noughts (xs : List By) : Bool := xs.all (· == 0)
theorem mxB_pos {xs : List By} (h : 0 < xs.length) : decide (0 < mxB xs) = !noughts xs := by
 obtain ⟨x, ys, rfl⟩ := List.exists_cons_of_length_pos h
 by_cases hz : ∀ y ∈ x :: ys, y = 0
 ·have h1 : noughts (x :: ys) = true := by unfold noughts; rw [List.all_eq_true]; intro y hy; simp [hz y hy]
  have h2 : mxB (x :: ys) = 0 := by
   unfold mxB; simp only [List.drop_succ_cons, List.drop_zero, List.getD_cons_zero, hz x (by simp)]
   exact mx_zero ys (fun y hy => hz y (by simp [hy]))
  rw [h1, h2]; rfl
 ·have h1 : noughts (x :: ys) = false := by
   rw [Bool.eq_false_iff]; intro e; apply hz; intro y hy
   have := List.all_eq_true.1 e y hy; simpa using this
  have h2 : 0 < mxB (x :: ys) := by
   have hle := mx_le ys ((x.toNat : Int))
   unfold mxB; simp only [List.drop_succ_cons, List.drop_zero, List.getD_cons_zero]
   obtain ⟨y, hy0⟩ := Classical.not_forall.1 hz
   obtain ⟨hy, hne⟩ := Classical.not_imp.1 hy0
   have hp : 0 < (y.toNat : Int) := by
    have : y.toNat ≠ 0 := fun e => hne (UInt8.toNat_inj.1 e)
    omega
   rcases List.mem_cons.1 hy with rfl | hy
   ·omega
   ·have := hle.2 y hy; omega
  rw [h1]; simp [h2]

theorem max_spec (sa : Option Addr) (c : Nat) (xs : List By) (M : Mem) (hs : SM M sa (bcells xs)) (hn : xs.length ≤ 1000000) (h0 : 0 < xs.length) :
  SpecL Tryz.prog 128 #[.slice sa xs.length c] M [] fun v _ _ => v = .int .u8 (mxB xs) := by
 obtain ⟨sb, so, e0, hx⟩ := hs.open (by intro e; have := congrArg List.length e; rw [bcells_len, List.length_nil] at this; omega)
 subst e0
 refine spec_body (vs := [_]) 25 _ Tryz.func128 rfl Tryz.ntmps128 rfl rfl ?_; intro W
 refine jc_seq ?_
 refine jc_region ?_
 refine jp rfl ?_
 refine jl_nil ?_
 refine jT ?_
 refine jc_seq ?_
 refine jc_seq ?_
 refine jc_region ?_
 refine jp rfl ?_
 refine jl_q rfl rfl (qLen rfl rfl rfl) ?_
 refine jf rfl (decide_eq_false (by omega)) ?_
 refine jl_nil ?_
 refine jT ?_
 refine jc_no rfl ?_
 refine jc_skip ?_
 refine jT ?_
 refine jc_seq ?_
 refine jc_region ?_
 refine jp rfl ?_
 refine jl_q rfl rfl (qIdxS rfl rfl rfl rfl (by omega)) ?_
 refine jl_q rfl rfl (qLd rfl rfl rfl rfl ((hx ((0 : Int).toNat * 1) _ (bget (j := 0) (by omega))).cj _)) ?_
 refine jp rfl ?_
 refine jl_nil ?_
 refine jT ?_
 refine jc_seq ?_
 refine jc_seq ?_
 refine jc_region ?_
 refine jp rfl ?_
 refine jl_nil ?_
 refine jT ?_
 refine jc_block ?_
 refine jc_loopK (α := Nat) (fun k => [(0, .slice (some ⟨sb, so, none⟩) xs.length c), (3, .int .u8 (mxK xs k)), (4, .int .i64 ((k + 1 : Nat) : Int))]) (fun _ => M) (fun _ => []) (fun k => k + 1 ≤ xs.length) (fun k => xs.length - k)
  0 (Keep.cons (t := 0) rfl (Keep.cons (t := 3) rfl (Keep.cons (t := 4) rfl Keep.nil))) (by omega) (fun _ h => h) ?_
 rintro k hk
 try dsimp only at hk ⊢
 refine jc_seq ?_
 refine jc_seq ?_
 refine jc_region ?_
 iterate 2 refine jp rfl ?_
 refine jl_q rfl rfl (qLen rfl rfl rfl) ?_
 refine js rfl (fun h15 => ?_) (fun h15 => ?_)
 ·refine jl_nil ?_
  refine jT ?_
  refine jc_yes rfl ?_
  refine jc_skip ?_
  refine jT ?_
  refine jc_seq ?_
  refine jc_block ?_
  refine jc_region ?_
  iterate 3 refine jp rfl ?_
  have hk1 : k + 1 < xs.length := by omega
  refine jl_q rfl rfl (qIdxS rfl rfl rfl rfl (by omega)) ?_
  refine jl_q rfl rfl (qLd rfl rfl rfl rfl ((hx ((((k + 1 : Nat) : Int)).toNat * 1) (.int .u8 xs[k + 1].toNat) (by simp [bcells, hk1])).cj _)) ?_
  refine jl_q rfl rfl (qMax rfl rfl rfl rfl) ?_
  refine jp rfl ?_
  refine jl_nil ?_
  refine jB ?_
  refine jT ?_
  refine jc_region ?_
  refine jp rfl ?_
  refine ja rfl (by omega) ?_
  refine jp rfl ?_
  refine jl_nil ?_
  refine j_again (k + 1) (Keep.cons (t := 0) rfl (Keep.ceq (t := 3) rfl (by rw [mxK_step hk1]) (Keep.cons (t := 4) rfl Keep.nil))) (by omega) (by omega) (fun _ h => h)
 ·refine jl_nil ?_
  refine jT ?_
  refine jc_no rfl ?_
  refine jc_exit ?_
  refine jTx ?_
  refine jTx ?_
  refine jBx ?_
  refine jT ?_
  refine jc_seq ?_
  refine jc_region ?_
  iterate 2 refine jp rfl ?_
  refine jl_nil ?_
  refine jT ?_
  refine jc_ret ?_
  refine jr1 rfl rfl ?_
  show Value.int _ (mxK xs k) = _
  unfold mxK mxB; rw [List.take_of_length_le (by rw [List.length_drop]; omega)]


/-! ### nodes -/
def icell (p : It × Value) : List Value := [.int .u8 p.1.key.kind, .int .u32 p.1.key.id, .int .u32 p.1.key.off, .int .i64 p.1.ref, p.2]
theorem icell_len (p : It × Value) : (icell p).length = 5 := rfl
/-- a slice of items, read-only -/
def NS (M : Mem) (v : Value) (xs : List It) : Prop := ∃ a c, ∃ ps : List (It × Value), v = .slice a xs.length c ∧ xs.length ≤ c ∧ SM M a (ps.flatMap icell) ∧ ps.map (·.1) = xs ∧ ∀ p ∈ ps, BS M p.2 p.1.val
theorem NS.mono {M M' : Mem} {v : Value} {xs : List It} (h : NS M v xs) (hM : MLe M M') : NS M' v xs := by
 obtain ⟨a, c, ps, h1, h2, h3, h4, h5⟩ := h; exact ⟨a, c, ps, h1, h2, h3.mono hM, h4, fun p hp => (h5 p hp).mono hM⟩
theorem NS.nil {M : Mem} : NS M (.slice none 0 0) [] := ⟨none, 0, [], rfl, Nat.le_refl _, SM.nil, rfl, fun _ h => by cases h⟩
def itemsOk (above : Bool) : Option Ky → List It → Bool
 | _, [] => true
 | p, x :: xs => !itBad x && (match p with | none => true | some q => kless q x.key) && (!above || (x.ref != 0 && x.val.length == 0)) && itemsOk above (some x.key) xs
def ndOk (lv : Int) (xs : List It) : Bool := decide (0 ≤ lv ∧ lv < 6 ∧ xs.length ≤ 5 ∧ (0 < lv → xs.length ≠ 0)) && itemsOk (decide (0 < lv)) none xs
def ndChk (lv : Int) (xs : List It) : Int := if ndOk lv xs then 0 else 8
def prevK (xs : List It) (k : Nat) : Option Ky := match k with | 0 => none | j + 1 => (xs[j]?).map (·.key)
theorem itChk_cases (x : It) : (itBad x = true ∧ itChk x = 8) ∨ (itBad x = false ∧ itChk x = 0) := by
 unfold itChk; cases itBad x <;> simp

theorem ncheck_head (lv : Int) (xs : List It) (a : Option Addr) (c : Nat) (ps : List (It × Value)) (M : Mem) (hc : xs.length ≤ c) (hs : SM M a (ps.flatMap icell)) (hp : ps.map (·.1) = xs) (hb : ∀ p ∈ ps, BS M p.2 p.1.val) (h : ¬ (0 ≤ lv ∧ lv < 6 ∧ xs.length ≤ 5 ∧ (0 < lv → xs.length ≠ 0))) :
  SpecL Tryz.prog 108 #[.agg #[.int .i64 lv, .slice a xs.length c]] M [] fun v _ _ => v = .int .i64 (ndChk lv xs) := by
 refine spec_body (vs := [_]) 76 _ Tryz.func108 rfl Tryz.ntmps108 rfl rfl ?_; intro W
 refine jc_seq ?_
 refine jc_region ?_
 refine jl_h rfl rfl (hBox (cs := [_, _]) rfl rfl rfl rfl) ?_; rintro _ _ _ ⟨b1, rfl, rfl, rfl⟩
 refine jp rfl ?_
 refine jl_nil ?_
 refine jT ?_
 refine jc_seq ?_
 refine jc_region ?_
 refine jl_q rfl rfl (qFieldAddr rfl rfl rfl rfl rfl) ?_
 refine jl_q rfl rfl (qLd rfl rfl rfl rfl (CJ.loc rfl)) ?_
 refine js rfl (fun h9 => ?_) (fun h9 => ?_)
 ·refine jp rfl ?_
  refine jl_nil ?_
  refine jT ?_
  refine jc_seq ?_
  refine jc_seq ?_
  refine jc_region ?_
  refine jl_q rfl rfl (qFieldAddr rfl rfl rfl rfl rfl) ?_
  refine jl_q rfl rfl (qLd rfl rfl rfl rfl (CJ.loc rfl)) ?_
  refine js rfl (fun h12 => ?_) (fun h12 => ?_)
  ·iterate 20 refine jp rfl ?_
   refine jl_nil ?_
   refine jT ?_
   refine jc_yes rfl ?_
   refine jc_seq ?_
   refine jc_region ?_
   refine jp rfl ?_
   refine jl_nil ?_
   refine jT ?_
   refine jc_ret ?_
   refine jTr ?_
   refine jr1 rfl rfl ?_
   exact congrArg _ (by unfold ndChk ndOk; rw [if_neg]; intro e; rw [Bool.and_eq_true] at e; have := of_decide_eq_true e.1; omega)
  ·refine jp rfl ?_
   refine jl_q rfl rfl (qFieldAddr rfl rfl rfl rfl rfl) ?_
   refine jl_q rfl rfl (qLd rfl rfl rfl rfl (CJ.loc rfl)) ?_
   refine js rfl (fun h16 => ?_) (fun h16 => ?_)
   ·iterate 16 refine jp rfl ?_
    refine jl_nil ?_
    refine jT ?_
    refine jc_yes rfl ?_
    refine jc_seq ?_
    refine jc_region ?_
    refine jp rfl ?_
    refine jl_nil ?_
    refine jT ?_
    refine jc_ret ?_
    refine jTr ?_
    refine jr1 rfl rfl ?_
    exact congrArg _ (by unfold ndChk ndOk; rw [if_neg]; intro e; rw [Bool.and_eq_true] at e; have := of_decide_eq_true e.1; omega)
   ·iterate 2 refine jp rfl ?_
    refine jl_q rfl rfl (qFieldAddr rfl rfl rfl rfl rfl) ?_
    refine jl_q rfl rfl (qLd rfl rfl rfl rfl (CJ.loc rfl)) ?_
    refine jl_q rfl rfl (qLen rfl rfl rfl) ?_
    refine js rfl (fun h22 => ?_) (fun h22 => ?_)
    ·iterate 10 refine jp rfl ?_
     refine jl_nil ?_
     refine jT ?_
     refine jc_yes rfl ?_
     refine jc_seq ?_
     refine jc_region ?_
     refine jp rfl ?_
     refine jl_nil ?_
     refine jT ?_
     refine jc_ret ?_
     refine jTr ?_
     refine jr1 rfl rfl ?_
     exact congrArg _ (by unfold ndChk ndOk; rw [if_neg]; intro e; rw [Bool.and_eq_true] at e; have := of_decide_eq_true e.1; omega)
    ·iterate 4 refine jp rfl ?_
     refine jl_q rfl rfl (qFieldAddr rfl rfl rfl rfl rfl) ?_
     refine jl_q rfl rfl (qLd rfl rfl rfl rfl (CJ.loc rfl)) ?_
     refine jl_q rfl rfl (qLen rfl rfl rfl) ?_
     refine js rfl (fun h30 => ?_) (fun h30 => ?_)
     ·iterate 2 refine jp rfl ?_
      refine jl_nil ?_
      refine jT ?_
      refine jc_yes rfl ?_
      refine jc_seq ?_
      refine jc_region ?_
      refine jp rfl ?_
      refine jl_nil ?_
      refine jT ?_
      refine jc_ret ?_
      refine jTr ?_
      refine jr1 rfl rfl ?_
      exact congrArg _ (by unfold ndChk ndOk; rw [if_neg]; intro e; rw [Bool.and_eq_true] at e; have := of_decide_eq_true e.1; omega)
     ·exfalso; omega
 ·refine jp rfl ?_
  refine jl_nil ?_
  refine jT ?_
  refine jc_seq ?_
  refine jc_seq ?_
  refine jc_region ?_
  refine jl_q rfl rfl (qFieldAddr rfl rfl rfl rfl rfl) ?_
  refine jl_q rfl rfl (qLd rfl rfl rfl rfl (CJ.loc rfl)) ?_
  refine js rfl (fun h12 => ?_) (fun h12 => ?_)
  ·iterate 20 refine jp rfl ?_
   refine jl_nil ?_
   refine jT ?_
   refine jc_yes rfl ?_
   refine jc_seq ?_
   refine jc_region ?_
   refine jp rfl ?_
   refine jl_nil ?_
   refine jT ?_
   refine jc_ret ?_
   refine jTr ?_
   refine jr1 rfl rfl ?_
   exact congrArg _ (by unfold ndChk ndOk; rw [if_neg]; intro e; rw [Bool.and_eq_true] at e; have := of_decide_eq_true e.1; omega)
  ·refine jp rfl ?_
   refine jl_q rfl rfl (qFieldAddr rfl rfl rfl rfl rfl) ?_
   refine jl_q rfl rfl (qLd rfl rfl rfl rfl (CJ.loc rfl)) ?_
   refine js rfl (fun h16 => ?_) (fun h16 => ?_)
   ·iterate 16 refine jp rfl ?_
    refine jl_nil ?_
    refine jT ?_
    refine jc_yes rfl ?_
    refine jc_seq ?_
    refine jc_region ?_
    refine jp rfl ?_
    refine jl_nil ?_
    refine jT ?_
    refine jc_ret ?_
    refine jTr ?_
    refine jr1 rfl rfl ?_
    exact congrArg _ (by unfold ndChk ndOk; rw [if_neg]; intro e; rw [Bool.and_eq_true] at e; have := of_decide_eq_true e.1; omega)
   ·iterate 2 refine jp rfl ?_
    refine jl_q rfl rfl (qFieldAddr rfl rfl rfl rfl rfl) ?_
    refine jl_q rfl rfl (qLd rfl rfl rfl rfl (CJ.loc rfl)) ?_
    refine jl_q rfl rfl (qLen rfl rfl rfl) ?_
    refine js rfl (fun h22 => ?_) (fun h22 => ?_)
    ·iterate 10 refine jp rfl ?_
     refine jl_nil ?_
     refine jT ?_
     refine jc_yes rfl ?_
     refine jc_seq ?_
     refine jc_region ?_
     refine jp rfl ?_
     refine jl_nil ?_
     refine jT ?_
     refine jc_ret ?_
     refine jTr ?_
     refine jr1 rfl rfl ?_
     exact congrArg _ (by unfold ndChk ndOk; rw [if_neg]; intro e; rw [Bool.and_eq_true] at e; have := of_decide_eq_true e.1; omega)
    ·exfalso; omega


theorem prevK_succ {xs : List It} {k : Nat} (h : k < xs.length) : prevK xs (k + 1) = some xs[k].key := by simp [prevK, h]
theorem itemsOk_step {ab : Bool} {xs : List It} {k : Nat} (h : k < xs.length) : itemsOk ab (prevK xs k) (xs.drop k) = (!itBad xs[k] && (match prevK xs k with | none => true | some q => kless q xs[k].key) && (!ab || (xs[k].ref != 0 && xs[k].val.length == 0)) && itemsOk ab (prevK xs (k + 1)) (xs.drop (k + 1))) := by
 rw [List.drop_eq_getElem_cons h, prevK_succ h]; rfl


abbrev itc (x : It) (va : Option Addr) (vc : Nat) : List Value := [.int .u8 x.key.kind, .int .u32 x.key.id, .int .u32 x.key.off, .int .i64 x.ref, .slice va x.val.length vc]
theorem items_get {M : Mem} {sb so : Nat} {xs : List It} {ps : List (It × Value)} (hx : ∀ i u, (ps.flatMap icell)[i]? = some u → CM M sb (so + i) u) (hp : ps.map (·.1) = xs) (hb : ∀ p ∈ ps, BS M p.2 p.1.val) {k : Nat} (hk : k < xs.length) :
  ∃ va vc, (∀ i v, (itc xs[k] va vc)[i]? = some v → CM M sb (so + k * 5 + i) v) ∧ xs[k].val.length ≤ vc ∧ SM M va (bcells xs[k].val) := by
 have hk2 : k < ps.length := by rw [← hp, List.length_map] at hk; exact hk
 have hxk : xs[k] = ps[k].1 := by simp [← hp]
 obtain ⟨va, vc, hv, hc, hs⟩ := hb ps[k] (List.getElem_mem hk2)
 rw [← hxk] at hv hc hs
 refine ⟨va, vc, fun i v hv' => flat_cm icell 5 icell_len hx (show ps[k]? = some ps[k] by simp [hk2]) i v ?_, hc, hs⟩
 rw [← hv']
 unfold icell itc
 rw [← hxk, hv]


def okAt (ab : Bool) (xs : List It) (k : Nat) (h : k < xs.length) : Bool := !itBad xs[k] && (match prevK xs k with | none => true | some q => kless q xs[k].key) && (!ab || (xs[k].ref != 0 && xs[k].val.length == 0))
theorem nd_bad {lv : Int} {ab : Bool} {xs : List It} {k : Nat} (hab : decide (0 < lv) = ab) (hk : k < xs.length) (hI : itemsOk ab none xs = itemsOk ab (prevK xs k) (xs.drop k)) (hb : okAt ab xs k hk = false) : ndChk lv xs = 8 := by
 unfold ndChk ndOk
 rw [if_neg]
 rw [hab, hI, itemsOk_step hk]
 unfold okAt at hb
 rw [hb]; simp
theorem nd_on {ab : Bool} {xs : List It} {k : Nat} (hk : k < xs.length) (hI : itemsOk ab none xs = itemsOk ab (prevK xs k) (xs.drop k)) (hb : okAt ab xs k hk = true) : itemsOk ab none xs = itemsOk ab (prevK xs (k + 1)) (xs.drop (k + 1)) := by
 rw [hI, itemsOk_step hk]
 unfold okAt at hb
 rw [hb]; simp
theorem nd_end {lv : Int} {ab : Bool} {xs : List It} {k : Nat} (h : 0 ≤ lv ∧ lv < 6 ∧ xs.length ≤ 5 ∧ (0 < lv → xs.length ≠ 0)) (hab : decide (0 < lv) = ab) (hk : k = xs.length) (hI : itemsOk ab none xs = itemsOk ab (prevK xs k) (xs.drop k)) : ndChk lv xs = 0 := by
 unfold ndChk ndOk
 rw [if_pos]
 rw [hab, hI, List.drop_eq_nil_of_le (by omega)]
 simp only [Bool.and_eq_true, decide_eq_true_eq]
 exact ⟨h, rfl⟩
theorem bad_of_chk {x : It} (h : itChk x ≠ 0) : itBad x = true ∧ itChk x = 8 := (itChk_cases x).resolve_right fun h' => h h'.2
theorem fine_of_chk {x : It} (h : itChk x = 0) : itBad x = false := ((itChk_cases x).resolve_left fun h' => by rw [h'.2] at h; cases h).1

set_option maxHeartbeats 1000000 in
theorem ncheck_leaf (lv : Int) (xs : List It) (a : Option Addr) (c : Nat) (ps : List (It × Value)) (M : Mem) (hc : xs.length ≤ c) (hs : SM M a (ps.flatMap icell)) (hp : ps.map (·.1) = xs) (hb : ∀ p ∈ ps, BS M p.2 p.1.val) (h : 0 ≤ lv ∧ lv < 6 ∧ xs.length ≤ 5 ∧ (0 < lv → xs.length ≠ 0)) (hlv : lv = 0) :
  SpecL Tryz.prog 108 #[.agg #[.int .i64 lv, .slice a xs.length c]] M [] fun v _ _ => v = .int .i64 (ndChk lv xs) := by
 have hab : decide (0 < lv) = false := by simp; omega
 refine spec_body (vs := [_]) 76 _ Tryz.func108 rfl Tryz.ntmps108 rfl rfl ?_; intro W
 refine jc_seq ?_
 refine jc_region ?_
 refine jl_h rfl rfl (hBox (cs := [_, _]) rfl rfl rfl rfl) ?_; rintro _ _ _ ⟨b1, rfl, rfl, rfl⟩
 refine jp rfl ?_
 refine jl_nil ?_
 refine jT ?_
 refine jc_seq ?_
 refine jc_region ?_
 refine jl_q rfl rfl (qFieldAddr rfl rfl rfl rfl rfl) ?_
 refine jl_q rfl rfl (qLd rfl rfl rfl rfl (CJ.loc rfl)) ?_
 refine jf rfl (decide_eq_false (by omega)) ?_
 refine jp rfl ?_
 refine jl_nil ?_
 refine jT ?_
 refine jc_seq ?_
 refine jc_seq ?_
 refine jc_region ?_
 refine jl_q rfl rfl (qFieldAddr rfl rfl rfl rfl rfl) ?_
 refine jl_q rfl rfl (qLd rfl rfl rfl rfl (CJ.loc rfl)) ?_
 refine jf rfl (decide_eq_false (by omega)) ?_
 refine jp rfl ?_
 refine jl_q rfl rfl (qFieldAddr rfl rfl rfl rfl rfl) ?_
 refine jl_q rfl rfl (qLd rfl rfl rfl rfl (CJ.loc rfl)) ?_
 refine jf rfl (decide_eq_false (by omega)) ?_
 iterate 2 refine jp rfl ?_
 refine jl_q rfl rfl (qFieldAddr rfl rfl rfl rfl rfl) ?_
 refine jl_q rfl rfl (qLd rfl rfl rfl rfl (CJ.loc rfl)) ?_
 refine jl_q rfl rfl (qLen rfl rfl rfl) ?_
 refine jf rfl (decide_eq_false (by omega)) ?_
 iterate 10 refine jp rfl ?_
 refine jl_nil ?_
 refine jT ?_
 refine jc_no rfl ?_
 refine jc_skip ?_
 refine jT ?_
 refine jc_seq ?_
 refine jc_seq ?_
 refine jc_region ?_
 refine jl_q rfl rfl (qFieldAddr rfl rfl rfl rfl rfl) ?_
 refine jl_q rfl rfl (qLd rfl rfl rfl rfl (CJ.loc rfl)) ?_
 refine jl_q rfl rfl (qLen rfl rfl rfl) ?_
 refine jp rfl ?_
 refine jl_nil ?_
 refine jT ?_
 refine jc_block ?_
 refine jc_loopK (α := Nat) (fun k => [(1, .pointer (some ⟨b1, 0, none⟩)), (3, .bool false), (34, .slice a xs.length c), (35, .int .i64 xs.length), (36, .int .i64 k)]) (fun _ => M) (fun _ => [(b1, .cells [.int .i64 lv, .slice a xs.length c].toArray 73 (0, 0))]) (fun k => k ≤ xs.length ∧ itemsOk false none xs = itemsOk false (prevK xs k) (xs.drop k)) (fun k => xs.length - k)
  0 (Keep.cons (t := 1) rfl (Keep.cons (t := 3) rfl (Keep.cons (t := 34) rfl (Keep.cons (t := 35) rfl (Keep.cons (t := 36) rfl Keep.nil))))) ⟨Nat.zero_le _, rfl⟩ (fun _ h => h) ?_
 rintro k ⟨hk, hI⟩
 try dsimp only at hk hI ⊢
 refine jc_seq ?_
 refine jc_region ?_
 refine js rfl (fun h37 => ?_) (fun h37 => ?_)
 ·refine jl_nil ?_
  refine jT ?_
  refine jc_seq ?_
  refine jc_yes rfl ?_
  refine jc_skip ?_
  refine jT ?_
  refine jc_seq ?_
  refine jc_block ?_
  refine jc_seq ?_
  refine jc_region ?_
  refine jp rfl ?_
  have hk1 : k < xs.length := by omega
  obtain ⟨sb, so, e0, hx⟩ := hs.open (by intro e; have := congrArg List.length e; rw [flat_len icell 5 icell_len, List.length_nil] at this; have h2 := congrArg List.length hp; rw [List.length_map] at h2; omega)
  subst e0
  obtain ⟨va, vc, hcl, hvc, hvs⟩ := items_get hx hp hb hk1
  refine jl_q rfl rfl (qIdxS rfl rfl rfl rfl (by omega)) ?_
  refine jl_q rfl rfl (qLdA (cs := itc xs[k] va vc) rfl rfl rfl rfl rfl (fun i v hv => (hcl i v hv).cj _)) ?_
  refine jl_h rfl rfl (hAlloc rfl rfl) ?_; rintro _ _ _ ⟨b5, rfl, rfl, rfl⟩
  refine jp rfl ?_
  refine jl_s rfl (hStoreL rfl rfl rfl rfl rfl rfl rfl rfl) ?_; rintro _ _ _ ⟨rfl, rfl⟩
  refine jl_nil ?_
  refine jT ?_
  refine jc_seq ?_
  refine jc_seq ?_
  refine jc_region ?_
  refine jl_q rfl rfl (qLdL rfl rfl rfl rfl rfl) ?_
  refine jl_q rfl rfl (qCall rfl rfl rfl rfl rfl (by kernel_rfl) (itcheck_spec xs[k] _ M ⟨va, vc, rfl, hvc, hvs⟩)) ?_
  refine jp rfl ?_
  refine jl_nil ?_
  refine jT ?_
  refine jc_seq ?_
  refine jc_region ?_
  refine jp rfl ?_
  refine js rfl (fun h44 => ?_) (fun h44 => ?_)
  ·refine jl_nil ?_
   refine jT ?_
   refine jc_yes rfl ?_
   refine jc_seq ?_
   refine jc_region ?_
   iterate 2 refine jp rfl ?_
   refine jl_nil ?_
   refine jT ?_
   refine jc_ret ?_
   refine jTr ?_
   refine jBr ?_
   refine jTr ?_
   refine jTr ?_
   refine jBr ?_
   refine jTr ?_
   refine jr1 rfl rfl ?_
   obtain ⟨q1, q2⟩ := bad_of_chk h44
   rw [q2, nd_bad hab hk1 hI (by simp [okAt, q1])]
  ·refine jl_nil ?_
   refine jT ?_
   refine jc_no rfl ?_
   refine jc_skip ?_
   refine jT ?_
   refine jc_seq ?_
   refine jc_draw [(0, true), (1, true), (2, true), (3, true), (4, true), (5, true), (6, true), (7, true), (8, true), (9, true), (10, true), (11, true), (12, true), (13, true), (14, true), (15, true), (16, true), (17, true), (18, true), (19, true), (20, true), (21, true), (22, true), (23, true), (24, true), (25, true), (26, true), (27, true), (28, true)] _ (by kernel_rfl) (by kernel_rfl) (by kernel_rfl) rfl (fun _ h => h) ?_
   refine dp rfl rfl ?_
   refine ds rfl rfl (fun h47 => ?_) (fun h47 => ?_)
   ·refine dp rfl rfl ?_
    refine jd_q rfl rfl rfl (qFieldAddr rfl rfl rfl rfl rfl) ?_
    refine jd_q rfl rfl rfl (qLd rfl rfl rfl rfl (CJ.loc rfl)) ?_
    refine dp rfl rfl ?_
    refine da rfl rfl (by omega) ?_
    obtain ⟨j, rfl⟩ : ∃ j, k = j + 1 := ⟨k - 1, by omega⟩
    have hj1 : j < xs.length := by omega
    obtain ⟨wa, wc, hcj, -, -⟩ := items_get hx hp hb hj1
    refine jd_q rfl rfl rfl (qEq (qIdxS rfl rfl rfl rfl (by omega)) (v' := .pointer (some ⟨sb, so + j * 5, none⟩)) (by congr 3; omega)) ?_
    refine jd_q rfl rfl rfl (qFieldAddr rfl rfl rfl rfl rfl) ?_
    refine jd_q rfl rfl rfl (qLdA (cs := kcells xs[j].key) rfl rfl rfl rfl rfl (fun i v hv => (hcj i v (by match i, hv with | 0, hv => simpa [kcells] using hv | 1, hv => simpa [kcells] using hv | 2, hv => simpa [kcells] using hv | n + 3, hv => simp [kcells] at hv)).cj _)) ?_
    refine jd_q rfl rfl rfl (qFieldAddr rfl rfl rfl rfl rfl) ?_
    refine jd_q rfl rfl rfl (qLdL rfl rfl rfl rfl rfl) ?_
    refine jd_qb rfl rfl rfl (qCall rfl rfl rfl rfl rfl (by kernel_rfl) (less_spec xs[j].key xs[j + 1].key M)) (fun h58 => ?_) (fun h58 => ?_)
    ·iterate 16 refine dp rfl rfl ?_
     refine jd_nil ?_
     refine jPn ?_
     refine jT ?_
     refine jc_no rfl ?_
     refine jc_skip ?_
     refine jB ?_
     refine jT ?_
     refine jc_region ?_
     refine ja rfl (by omega) ?_
     refine jp rfl ?_
     refine jl_nil ?_
     refine j_again (j + 1 + 1) (Keep.cons (t := 1) rfl (Keep.cons (t := 3) rfl (Keep.cons (t := 34) rfl (Keep.cons (t := 35) rfl (Keep.cons (t := 36) rfl Keep.nil))))) ⟨by omega, nd_on hk1 hI ?_⟩ (by omega) (fun _ h => h.fewer (by simp))
     simp [okAt, prevK, hj1, fine_of_chk (Classical.not_not.1 h44), h58]
    ·iterate 16 refine dp rfl rfl ?_
     refine jd_nil ?_
     refine jPn ?_
     refine jT ?_
     refine jc_yes rfl ?_
     refine jc_seq ?_
     refine jc_region ?_
     refine jp rfl ?_
     refine jl_nil ?_
     refine jT ?_
     refine jc_ret ?_
     refine jBr ?_
     refine jTr ?_
     refine jTr ?_
     refine jBr ?_
     refine jTr ?_
     refine jr1 rfl rfl ?_
     rw [nd_bad hab hk1 hI (by simp [okAt, prevK, hj1, h58])]
   ·iterate 27 refine dp rfl rfl ?_
    refine jd_nil ?_
    refine jPn ?_
    refine jT ?_
    refine jc_no rfl ?_
    refine jc_skip ?_
    refine jB ?_
    refine jT ?_
    refine jc_region ?_
    refine ja rfl (by omega) ?_
    refine jp rfl ?_
    refine jl_nil ?_
    refine j_again (k + 1) (Keep.cons (t := 1) rfl (Keep.cons (t := 3) rfl (Keep.cons (t := 34) rfl (Keep.cons (t := 35) rfl (Keep.cons (t := 36) rfl Keep.nil))))) ⟨by omega, nd_on hk1 hI ?_⟩ (by omega) (fun _ h => h.fewer (by simp))
    obtain rfl : k = 0 := by omega
    simp [okAt, prevK, fine_of_chk (Classical.not_not.1 h44)]
 ·refine jl_nil ?_
  refine jT ?_
  refine jc_seq ?_
  refine jc_no rfl ?_
  refine jc_exit ?_
  refine jTx ?_
  refine jTx ?_
  refine jBx ?_
  refine jT ?_
  refine jc_seq ?_
  refine jc_region ?_
  refine jp rfl ?_
  refine jl_nil ?_
  refine jT ?_
  refine jc_ret ?_
  refine jr1 rfl rfl ?_
  rw [nd_end h hab (by omega) hI]

set_option maxHeartbeats 1000000 in
theorem ncheck_node (lv : Int) (xs : List It) (a : Option Addr) (c : Nat) (ps : List (It × Value)) (M : Mem) (hc : xs.length ≤ c) (hs : SM M a (ps.flatMap icell)) (hp : ps.map (·.1) = xs) (hb : ∀ p ∈ ps, BS M p.2 p.1.val) (h : 0 ≤ lv ∧ lv < 6 ∧ xs.length ≤ 5 ∧ (0 < lv → xs.length ≠ 0)) (hlv : 0 < lv) :
  SpecL Tryz.prog 108 #[.agg #[.int .i64 lv, .slice a xs.length c]] M [] fun v _ _ => v = .int .i64 (ndChk lv xs) := by
 have hab : decide (0 < lv) = true := by simp; omega
 refine spec_body (vs := [_]) 76 _ Tryz.func108 rfl Tryz.ntmps108 rfl rfl ?_; intro W
 refine jc_seq ?_
 refine jc_region ?_
 refine jl_h rfl rfl (hBox (cs := [_, _]) rfl rfl rfl rfl) ?_; rintro _ _ _ ⟨b1, rfl, rfl, rfl⟩
 refine jp rfl ?_
 refine jl_nil ?_
 refine jT ?_
 refine jc_seq ?_
 refine jc_region ?_
 refine jl_q rfl rfl (qFieldAddr rfl rfl rfl rfl rfl) ?_
 refine jl_q rfl rfl (qLd rfl rfl rfl rfl (CJ.loc rfl)) ?_
 refine jt rfl (decide_eq_true (by omega)) ?_
 refine jp rfl ?_
 refine jl_nil ?_
 refine jT ?_
 refine jc_seq ?_
 refine jc_seq ?_
 refine jc_region ?_
 refine jl_q rfl rfl (qFieldAddr rfl rfl rfl rfl rfl) ?_
 refine jl_q rfl rfl (qLd rfl rfl rfl rfl (CJ.loc rfl)) ?_
 refine jf rfl (decide_eq_false (by omega)) ?_
 refine jp rfl ?_
 refine jl_q rfl rfl (qFieldAddr rfl rfl rfl rfl rfl) ?_
 refine jl_q rfl rfl (qLd rfl rfl rfl rfl (CJ.loc rfl)) ?_
 refine jf rfl (decide_eq_false (by omega)) ?_
 iterate 2 refine jp rfl ?_
 refine jl_q rfl rfl (qFieldAddr rfl rfl rfl rfl rfl) ?_
 refine jl_q rfl rfl (qLd rfl rfl rfl rfl (CJ.loc rfl)) ?_
 refine jl_q rfl rfl (qLen rfl rfl rfl) ?_
 refine jf rfl (decide_eq_false (by omega)) ?_
 iterate 4 refine jp rfl ?_
 refine jl_q rfl rfl (qFieldAddr rfl rfl rfl rfl rfl) ?_
 refine jl_q rfl rfl (qLd rfl rfl rfl rfl (CJ.loc rfl)) ?_
 refine jl_q rfl rfl (qLen rfl rfl rfl) ?_
 refine jf rfl (decide_eq_false (by omega)) ?_
 iterate 2 refine jp rfl ?_
 refine jl_nil ?_
 refine jT ?_
 refine jc_no rfl ?_
 refine jc_skip ?_
 refine jT ?_
 refine jc_seq ?_
 refine jc_seq ?_
 refine jc_region ?_
 refine jl_q rfl rfl (qFieldAddr rfl rfl rfl rfl rfl) ?_
 refine jl_q rfl rfl (qLd rfl rfl rfl rfl (CJ.loc rfl)) ?_
 refine jl_q rfl rfl (qLen rfl rfl rfl) ?_
 refine jp rfl ?_
 refine jl_nil ?_
 refine jT ?_
 refine jc_block ?_
 refine jc_loopK (α := Nat) (fun k => [(1, .pointer (some ⟨b1, 0, none⟩)), (3, .bool true), (34, .slice a xs.length c), (35, .int .i64 xs.length), (36, .int .i64 k)]) (fun _ => M) (fun _ => [(b1, .cells [.int .i64 lv, .slice a xs.length c].toArray 73 (0, 0))]) (fun k => k ≤ xs.length ∧ itemsOk true none xs = itemsOk true (prevK xs k) (xs.drop k)) (fun k => xs.length - k)
  0 (Keep.cons (t := 1) rfl (Keep.cons (t := 3) rfl (Keep.cons (t := 34) rfl (Keep.cons (t := 35) rfl (Keep.cons (t := 36) rfl Keep.nil))))) ⟨Nat.zero_le _, rfl⟩ (fun _ h => h) ?_
 rintro k ⟨hk, hI⟩
 try dsimp only at hk hI ⊢
 refine jc_seq ?_
 refine jc_region ?_
 refine js rfl (fun h37 => ?_) (fun h37 => ?_)
 ·refine jl_nil ?_
  refine jT ?_
  refine jc_seq ?_
  refine jc_yes rfl ?_
  refine jc_skip ?_
  refine jT ?_
  refine jc_seq ?_
  refine jc_block ?_
  refine jc_seq ?_
  refine jc_region ?_
  refine jp rfl ?_
  have hk1 : k < xs.length := by omega
  obtain ⟨sb, so, e0, hx⟩ := hs.open (by intro e; have := congrArg List.length e; rw [flat_len icell 5 icell_len, List.length_nil] at this; have h2 := congrArg List.length hp; rw [List.length_map] at h2; omega)
  subst e0
  obtain ⟨va, vc, hcl, hvc, hvs⟩ := items_get hx hp hb hk1
  refine jl_q rfl rfl (qIdxS rfl rfl rfl rfl (by omega)) ?_
  refine jl_q rfl rfl (qLdA (cs := itc xs[k] va vc) rfl rfl rfl rfl rfl (fun i v hv => (hcl i v hv).cj _)) ?_
  refine jl_h rfl rfl (hAlloc rfl rfl) ?_; rintro _ _ _ ⟨b5, rfl, rfl, rfl⟩
  refine jp rfl ?_
  refine jl_s rfl (hStoreL rfl rfl rfl rfl rfl rfl rfl rfl) ?_; rintro _ _ _ ⟨rfl, rfl⟩
  refine jl_nil ?_
  refine jT ?_
  refine jc_seq ?_
  refine jc_seq ?_
  refine jc_region ?_
  refine jl_q rfl rfl (qLdL rfl rfl rfl rfl rfl) ?_
  refine jl_q rfl rfl (qCall rfl rfl rfl rfl rfl (by kernel_rfl) (itcheck_spec xs[k] _ M ⟨va, vc, rfl, hvc, hvs⟩)) ?_
  refine jp rfl ?_
  refine jl_nil ?_
  refine jT ?_
  refine jc_seq ?_
  refine jc_region ?_
  refine jp rfl ?_
  refine js rfl (fun h44 => ?_) (fun h44 => ?_)
  ·refine jl_nil ?_
   refine jT ?_
   refine jc_yes rfl ?_
   refine jc_seq ?_
   refine jc_region ?_
   iterate 2 refine jp rfl ?_
   refine jl_nil ?_
   refine jT ?_
   refine jc_ret ?_
   refine jTr ?_
   refine jBr ?_
   refine jTr ?_
   refine jTr ?_
   refine jBr ?_
   refine jTr ?_
   refine jr1 rfl rfl ?_
   obtain ⟨q1, q2⟩ := bad_of_chk h44
   rw [q2, nd_bad hab hk1 hI (by simp [okAt, q1])]
  ·refine jl_nil ?_
   refine jT ?_
   refine jc_no rfl ?_
   refine jc_skip ?_
   refine jT ?_
   refine jc_seq ?_
   refine jc_draw [(0, true), (1, true), (2, true), (3, true), (4, true), (5, true), (6, true), (7, true), (8, true), (9, true), (10, true), (11, true), (12, true), (13, true), (14, true), (15, true), (16, true), (17, true), (18, true), (19, true), (20, true), (21, true), (22, true), (23, true), (24, true), (25, true), (26, true), (27, true), (28, true)] _ (by kernel_rfl) (by kernel_rfl) (by kernel_rfl) rfl (fun _ h => h) ?_
   refine dp rfl rfl ?_
   refine ds rfl rfl (fun h47 => ?_) (fun h47 => ?_)
   ·refine dp rfl rfl ?_
    refine jd_q rfl rfl rfl (qFieldAddr rfl rfl rfl rfl rfl) ?_
    refine jd_q rfl rfl rfl (qLd rfl rfl rfl rfl (CJ.loc rfl)) ?_
    refine dp rfl rfl ?_
    refine da rfl rfl (by omega) ?_
    obtain ⟨j, rfl⟩ : ∃ j, k = j + 1 := ⟨k - 1, by omega⟩
    have hj1 : j < xs.length := by omega
    obtain ⟨wa, wc, hcj, -, -⟩ := items_get hx hp hb hj1
    refine jd_q rfl rfl rfl (qEq (qIdxS rfl rfl rfl rfl (by omega)) (v' := .pointer (some ⟨sb, so + j * 5, none⟩)) (by congr 3; omega)) ?_
    refine jd_q rfl rfl rfl (qFieldAddr rfl rfl rfl rfl rfl) ?_
    refine jd_q rfl rfl rfl (qLdA (cs := kcells xs[j].key) rfl rfl rfl rfl rfl (fun i v hv => (hcj i v (by match i, hv with | 0, hv => simpa [kcells] using hv | 1, hv => simpa [kcells] using hv | 2, hv => simpa [kcells] using hv | n + 3, hv => simp [kcells] at hv)).cj _)) ?_
    refine jd_q rfl rfl rfl (qFieldAddr rfl rfl rfl rfl rfl) ?_
    refine jd_q rfl rfl rfl (qLdL rfl rfl rfl rfl rfl) ?_
    refine jd_qb rfl rfl rfl (qCall rfl rfl rfl rfl rfl (by kernel_rfl) (less_spec xs[j].key xs[j + 1].key M)) (fun h58 => ?_) (fun h58 => ?_)
    ·iterate 5 refine dp rfl rfl ?_
     refine jd_q rfl rfl rfl (qFieldAddr rfl rfl rfl rfl rfl) ?_
     refine jd_q rfl rfl rfl (qLd rfl rfl rfl rfl (CJ.loc rfl)) ?_
     refine ds rfl rfl (fun h66 => ?_) (fun h66 => ?_)
     ·iterate 8 refine dp rfl rfl ?_
      refine jd_nil ?_
      refine jPn ?_
      refine jT ?_
      refine jc_yes rfl ?_
      refine jc_seq ?_
      refine jc_region ?_
      refine jp rfl ?_
      refine jl_nil ?_
      refine jT ?_
      refine jc_ret ?_
      refine jBr ?_
      refine jTr ?_
      refine jTr ?_
      refine jBr ?_
      refine jTr ?_
      refine jr1 rfl rfl ?_
      rw [nd_bad hab hk1 hI (by simp [okAt]; intros; first | omega | simp_all)]
     ·refine dp rfl rfl ?_
      refine jd_q rfl rfl rfl (qFieldAddr rfl rfl rfl rfl rfl) ?_
      refine jd_q rfl rfl rfl (qLd rfl rfl rfl rfl (CJ.loc rfl)) ?_
      refine jd_q rfl rfl rfl (qLen rfl rfl rfl) ?_
      refine ds rfl rfl (fun h71 => ?_) (fun h71 => ?_)
      ·iterate 3 refine dp rfl rfl ?_
       refine jd_nil ?_
       refine jPn ?_
       refine jT ?_
       refine jc_yes rfl ?_
       refine jc_seq ?_
       refine jc_region ?_
       refine jp rfl ?_
       refine jl_nil ?_
       refine jT ?_
       refine jc_ret ?_
       refine jBr ?_
       refine jTr ?_
       refine jTr ?_
       refine jBr ?_
       refine jTr ?_
       refine jr1 rfl rfl ?_
       rw [nd_bad hab hk1 hI (by simp [okAt]; intros; intro e; simp [e] at h71)]
      ·iterate 3 refine dp rfl rfl ?_
       refine jd_nil ?_
       refine jPn ?_
       refine jT ?_
       refine jc_no rfl ?_
       refine jc_skip ?_
       refine jB ?_
       refine jT ?_
       refine jc_region ?_
       refine ja rfl (by omega) ?_
       refine jp rfl ?_
       refine jl_nil ?_
       refine j_again (j + 1 + 1) (Keep.cons (t := 1) rfl (Keep.cons (t := 3) rfl (Keep.cons (t := 34) rfl (Keep.cons (t := 35) rfl (Keep.cons (t := 36) rfl Keep.nil))))) ⟨by omega, nd_on hk1 hI ?_⟩ (by omega) (fun _ h => h.fewer (by simp))
       simp [okAt, prevK, hj1, fine_of_chk (Classical.not_not.1 h44), h58, h66, List.eq_nil_of_length_eq_zero (show xs[j + 1].val.length = 0 by omega)]
    ·iterate 16 refine dp rfl rfl ?_
     refine jd_nil ?_
     refine jPn ?_
     refine jT ?_
     refine jc_yes rfl ?_
     refine jc_seq ?_
     refine jc_region ?_
     refine jp rfl ?_
     refine jl_nil ?_
     refine jT ?_
     refine jc_ret ?_
     refine jBr ?_
     refine jTr ?_
     refine jTr ?_
     refine jBr ?_
     refine jTr ?_
     refine jr1 rfl rfl ?_
     rw [nd_bad hab hk1 hI (by simp [okAt, prevK, hj1, h58])]
   ·iterate 16 refine dp rfl rfl ?_
    refine jd_q rfl rfl rfl (qFieldAddr rfl rfl rfl rfl rfl) ?_
    refine jd_q rfl rfl rfl (qLd rfl rfl rfl rfl (CJ.loc rfl)) ?_
    refine ds rfl rfl (fun h66 => ?_) (fun h66 => ?_)
    ·iterate 8 refine dp rfl rfl ?_
     refine jd_nil ?_
     refine jPn ?_
     refine jT ?_
     refine jc_yes rfl ?_
     refine jc_seq ?_
     refine jc_region ?_
     refine jp rfl ?_
     refine jl_nil ?_
     refine jT ?_
     refine jc_ret ?_
     refine jBr ?_
     refine jTr ?_
     refine jTr ?_
     refine jBr ?_
     refine jTr ?_
     refine jr1 rfl rfl ?_
     rw [nd_bad hab hk1 hI (by simp [okAt]; intros; first | omega | simp_all)]
    ·refine dp rfl rfl ?_
     refine jd_q rfl rfl rfl (qFieldAddr rfl rfl rfl rfl rfl) ?_
     refine jd_q rfl rfl rfl (qLd rfl rfl rfl rfl (CJ.loc rfl)) ?_
     refine jd_q rfl rfl rfl (qLen rfl rfl rfl) ?_
     refine ds rfl rfl (fun h71 => ?_) (fun h71 => ?_)
     ·iterate 3 refine dp rfl rfl ?_
      refine jd_nil ?_
      refine jPn ?_
      refine jT ?_
      refine jc_yes rfl ?_
      refine jc_seq ?_
      refine jc_region ?_
      refine jp rfl ?_
      refine jl_nil ?_
      refine jT ?_
      refine jc_ret ?_
      refine jBr ?_
      refine jTr ?_
      refine jTr ?_
      refine jBr ?_
      refine jTr ?_
      refine jr1 rfl rfl ?_
      rw [nd_bad hab hk1 hI (by simp [okAt]; intros; intro e; simp [e] at h71)]
     ·iterate 3 refine dp rfl rfl ?_
      refine jd_nil ?_
      refine jPn ?_
      refine jT ?_
      refine jc_no rfl ?_
      refine jc_skip ?_
      refine jB ?_
      refine jT ?_
      refine jc_region ?_
      refine ja rfl (by omega) ?_
      refine jp rfl ?_
      refine jl_nil ?_
      refine j_again (k + 1) (Keep.cons (t := 1) rfl (Keep.cons (t := 3) rfl (Keep.cons (t := 34) rfl (Keep.cons (t := 35) rfl (Keep.cons (t := 36) rfl Keep.nil))))) ⟨by omega, nd_on hk1 hI ?_⟩ (by omega) (fun _ h => h.fewer (by simp))
      obtain rfl : k = 0 := by omega
      simp [okAt, prevK, fine_of_chk (Classical.not_not.1 h44), h66, List.eq_nil_of_length_eq_zero (show xs[0].val.length = 0 by omega)]
 ·refine jl_nil ?_
  refine jT ?_
  refine jc_seq ?_
  refine jc_no rfl ?_
  refine jc_exit ?_
  refine jTx ?_
  refine jTx ?_
  refine jBx ?_
  refine jT ?_
  refine jc_seq ?_
  refine jc_region ?_
  refine jp rfl ?_
  refine jl_nil ?_
  refine jT ?_
  refine jc_ret ?_
  refine jr1 rfl rfl ?_
  rw [nd_end h hab (by omega) hI]


theorem ncheck_spec (lv : Int) (xs : List It) (s : Value) (M : Mem) (hv : NS M s xs) : SpecL Tryz.prog 108 #[.agg #[.int .i64 lv, s]] M [] fun v _ _ => v = .int .i64 (ndChk lv xs) := by
 obtain ⟨a, c, ps, rfl, hc, hs, hp, hb⟩ := hv
 by_cases h : 0 ≤ lv ∧ lv < 6 ∧ xs.length ≤ 5 ∧ (0 < lv → xs.length ≠ 0)
 ·by_cases hl : 0 < lv
  ·exact ncheck_node lv xs a c ps M hc hs hp hb h hl
  ·exact ncheck_leaf lv xs a c ps M hc hs hp hb h (by omega)
 ·exact ncheck_head lv xs a c ps M hc hs hp hb h

end Go.Proofs.YtckdncmjkloebaaGreat
