/- Walks: a key's way. No statement of the seat is proved here. -/
import Derived.Test.YtckdncmjkloebaaGreatZBuild
import Derived.Test.YtckdncmjkloebaaGreatZRoom
namespace Go.Proofs.YtckdncmjkloebaaGreat
set_option linter.unusedVariables false
set_option linter.unusedSimpArgs false
open Go.RowKit

theorem RnPost.nd {s : Sto} {k : Int} {u : Value} {M' : Mem} {lev : Nat} {xs : List It} (h : RnPost s k u M') (h0 : askE s k = 0) (hnd : ndAt s k.toNat = some ((lev : Int), xs)) : ∃ sl, u = .tuple #[.agg #[.int .i64 (lev : Int), sl], .int .i64 0] ∧ NS M' sl xs := by
 unfold RnPost at h; rw [if_pos h0] at h; unfold BnPost at h; rw [hnd] at h; exact h
theorem ndAt_nz {s : Sto} {k : Nat} {r : Int × List It} (h : ndAt s k = some r) : ¬ s.now.getD k 0 = 0 := fun e => by unfold ndAt at h; rw [if_pos e] at h; cases h
theorem rdNode_nd {blk : List By} {lv : Int} {xs : List It} (h : rdNode blk = some (lv, xs)) : ndOk lv xs = true := by
 unfold rdNode at h
 split at h
 ·split at h
  ·split at h
   ·split at h
    ·rename_i hh
     cases h
     have := hh.1
     unfold ndChk at this
     by_cases hn : ndOk (((blk.drop 4).getD 1 0).toNat : Int) xs = true
     ·exact hn
     ·rw [if_neg hn] at this; cases this
    ·cases h
   ·cases h
  ·cases h
 ·cases h
theorem ndAt_nd {s : Sto} {k : Nat} {lv : Int} {xs : List It} (h : ndAt s k = some (lv, xs)) : ndOk lv xs = true := by
 unfold ndAt at h
 split at h
 ·cases h
 ·exact rdNode_nd h
theorem ndAt_ne {s : Sto} {k : Nat} {lv : Int} {xs : List It} (h : ndAt s k = some (lv, xs)) (hl : 0 < lv) : xs ≠ [] := fun e => by
 have := ndAt_nd h
 unfold ndOk at this
 rw [Bool.and_eq_true, decide_eq_true_eq] at this
 exact this.1.2.2.2 hl (by rw [e]; rfl)
theorem wAt_lt {xs : List It} {q : Ky} (h : xs ≠ []) : wAt xs q < xs.length := by
 have := place_le xs q
 have h2 : 0 < xs.length := List.length_pos_iff.2 h
 unfold wAt
 split
 ·rename_i h3; exact isAt_lt h3
 ·omega
def scell (p : Stp × Value) : List Value := [.int .i64 p.1.lv, p.2, .int .i64 p.1.at_]
theorem scell_len (p : Stp × Value) : (scell p).length = 3 := rfl
/-- a slice of steps, read-only -/
def SS (M : Mem) (v : Value) (ws : List Stp) : Prop := ∃ a c, ∃ ps : List (Stp × Value), v = .slice a ws.length c ∧ ws.length ≤ c ∧ SM M a (ps.flatMap scell) ∧ ps.map (·.1) = ws ∧ ∀ p ∈ ps, NS M p.2 p.1.xs
theorem SS.mono {M M' : Mem} {v : Value} {ws : List Stp} (h : SS M v ws) (hM : MLe M M') : SS M' v ws := by
 obtain ⟨a, c, ps, h1, h2, h3, h4, h5⟩ := h; exact ⟨a, c, ps, h1, h2, h3.mono hM, h4, fun p hp => (h5 p hp).mono hM⟩
structure WyS where
 k : Int
 l : Nat
 xs : List It
 ps : List (Stp × Value)
 M : Mem
 R : Lc
 v : Value
structure WyI (s : Sto) (q : Ky) (lev : Nat) (xs0 : List It) (M0 : Mem) (x : WyS) : Prop where
 rng : 8 ≤ x.k ∧ x.k < 256
 nd : ndAt s x.k.toNat = some ((x.l : Int), x.xs)
 tr : treeOk s x.l x.xs
 mle : MLe M0 x.M
 own : Own x.v x.R 118 3 x.ps.length (x.ps.flatMap scell)
 ns : ∀ p ∈ x.ps, NS x.M p.2 p.1.xs
 eq : wayF s q lev xs0 = x.ps.map (·.1) ++ wayF s q x.l x.xs
 len : x.ps.length + x.l = lev

set_option maxHeartbeats 2000000 in
theorem way_walk (s : Sto) (root : Int) (q : Ky) (bv wv nv lw : Value) (lev : Nat) (xs0 : List It) (M : Mem) (hST : ST M (.agg #[bv, wv, nv, lw]) s) (hr : 8 ≤ root ∧ root < 256) (hst : stOk s) (hnd0 : ndAt s root.toNat = some ((lev : Int), xs0)) (ht0 : treeOk s lev xs0) :
  SpecL Tryz.prog 56 #[.agg #[bv, wv, nv, lw], .int .i64 root, .agg (kcells q).toArray] M [] fun u M' L' => SS M' u (wayF s q lev xs0) ∧ L' = [] := by
 have hlv0 := (ndAt_ok hnd0).lev
 refine spec_body (vs := [_, _, _]) 51 _ Tryz.func56 rfl Tryz.ntmps56 rfl rfl ?_; intro W
 refine jc_seq ?_
 refine jc_region ?_
 refine jl_h rfl rfl (hBox (cs := [bv, wv, nv, lw]) rfl rfl rfl rfl) ?_; rintro _ _ _ ⟨b3, rfl, rfl, rfl⟩
 refine jl_h rfl rfl (hBox (cs := [.int .u8 q.kind, .int .u32 q.id, .int .u32 q.off]) rfl rfl rfl rfl) ?_; rintro _ _ _ ⟨b5, rfl, rfl, rfl⟩
 refine jp rfl ?_
 refine jl_nil ?_
 refine jT ?_
 refine jc_seq ?_
 refine jc_region ?_
 iterate 2 refine jp rfl ?_
 refine jl_nil ?_
 refine jT ?_
 refine jc_block ?_
 refine jc_loopK (α := WyS) (fun x => [(3, .pointer (some ⟨b3, 0, none⟩)), (5, .pointer (some ⟨b5, 0, none⟩)), (6, x.v), (7, .int .i64 x.k)]) (fun x => x.M) (fun x => x.R ++ [(b5, .cells [.int .u8 q.kind, .int .u32 q.id, .int .u32 q.off].toArray 31 (0, 0)), (b3, .cells [bv, wv, nv, lw].toArray 28 (0, 0))]) (fun x => WyI s q lev xs0 M x) (fun x => x.l)
  ⟨root, lev, xs0, [], M, [], .slice none 0 0⟩ (Keep.cons (t := 3) rfl (Keep.cons (t := 5) rfl (Keep.cons (t := 6) rfl (Keep.cons (t := 7) rfl Keep.nil)))) ⟨hr, hnd0, ht0, MLe.refl _, Own.nil _ _, fun _ h => (by cases h), rfl, by show 0 + lev = lev; omega⟩ (fun w h => h) ?_
 rintro ⟨k, l, xs, ps, Mk, Rk, v⟩ hI
 try dsimp only
 obtain ⟨h1r, h1n, h1t, h1m, hown, h1s, h1e, hps6⟩ := hI
 dsimp only at h1r h1n h1t h1m hown h1s h1e hps6
 obtain ⟨va0, vc0, hv0⟩ := hown.form
 subst hv0
 have hno := ndAt_ok h1n
 have hlen := (ndAt_ok h1n).len
 have hlv := (ndAt_ok h1n).lev
 refine jc_block ?_
 refine jc_seq ?_
 refine jc_region ?_
 refine jl_q rfl rfl (qLdL rfl rfl rfl rfl rfl) ?_
 refine jp rfl ?_
 refine jl_h rfl rfl (hCall rfl rfl rfl rfl rfl (by kernel_rfl) (rnode_spec s _ k Mk (hST.mono h1m))) ?_; rintro _ Mn _ ⟨hMn, _, rfl, ⟨hrn, rfl⟩⟩
 obtain ⟨sl, rfl, hns0⟩ := hrn.nd (ask_yes hst h1r (ndAt_nz h1n)) h1n
 obtain ⟨na, nc, nps, rfl, hnc, hns, hnp, hnb⟩ := id hns0
 simp only [List.nil_append]
 iterate 3 refine jp rfl ?_
 refine jl_h rfl rfl (hAlloc rfl rfl) ?_; rintro _ _ _ ⟨b8, rfl, rfl, rfl⟩
 refine jl_s rfl (hStoreL rfl rfl rfl rfl rfl rfl rfl rfl) ?_; rintro _ _ _ ⟨rfl, rfl⟩
 refine jp rfl ?_
 refine jl_nil ?_
 refine jT ?_
 refine jc_seq ?_
 refine jc_region ?_
 refine jl_q rfl rfl (qLdL rfl rfl rfl rfl rfl) ?_
 refine jl_q rfl rfl (qLdL rfl rfl rfl rfl rfl) ?_
 refine jl_q rfl rfl (qCall rfl rfl rfl rfl rfl (by kernel_rfl) (place_walk _ xs q na nc nps Mn hnc hns hnp hnb (by omega))) ?_
 iterate 2 refine jp rfl ?_
 refine jsb rfl (fun h24 => ?_) (fun h24 => ?_)
 ·iterate 2 refine jp rfl ?_
  refine jl_nil ?_
  refine jT ?_
  refine jc_seq ?_
  refine jc_seq ?_
  refine jc_region ?_
  refine jl_q rfl rfl (qFieldAddr rfl rfl rfl rfl rfl) ?_
  refine jl_q rfl rfl (qLd rfl rfl rfl rfl (CJ.loc rfl)) ?_
  refine js rfl (fun h27 => ?_) (fun h27 => ?_)
  ·refine jl_nil ?_
   refine jT ?_
   refine jc_yes rfl ?_
   refine jc_seq ?_
   refine jc_region ?_
   refine jp rfl ?_
   refine jl_q rfl rfl (qLdL rfl rfl rfl rfl rfl) ?_
   refine jp rfl ?_
   refine jl_q rfl rfl (qBuild (cs := [_, _, _]) rfl rfl rfl (by rfl)) ?_
   refine jl_h rfl rfl (hBuildSlice (cs := [_, _, _]) rfl rfl rfl (by rfl) (by rfl) (by rfl)) ?_; rintro _ _ _ ⟨b32, rfl, rfl, rfl⟩
   have hl6 : l < 6 := by omega
   refine jl_h rfl rfl (hAppend (R := Rk) (m := 1) (news := scell (⟨((l : Nat) : Int), xs, place xs q⟩, .slice na xs.length nc)) rfl rfl rfl rfl hown rfl (fun i v hv => CJ.loc (by rw [← hv]; show _[0 + i]? = _; rw [Nat.zero_add]; rfl)) rfl (by rfl) (by simp [scell, Value.oneCell']) (by omega) (by omega)) ?_; rintro s' _ _ ⟨rfl, Rq, rfl, hown', _⟩
   obtain ⟨a4, c4, rfl⟩ := hown'.form
   refine jp rfl ?_
   refine jl_nil ?_
   refine jT ?_
   refine jc_ret ?_
   refine jTr ?_
   refine jBr ?_
   refine jTr ?_
   refine jBr ?_
   refine jq_own (R := Rq) hown' (by simp) ?_
   intro Mf af cf hMf ef hcf hsf; cases ef
   refine jq_drop (L' := []) (List.nil_sublist _) ?_
   refine jr1 rfl rfl ?_
   have hl0 : l = 0 := by omega
   subst hl0
   refine ⟨?_, rfl⟩
   rw [h1e]
   refine ⟨a4, c4, ps ++ [(⟨((0 : Nat) : Int), xs, place xs q⟩, .slice na xs.length nc)], ?_, ?_, ?_, ?_, ?_⟩
   ·rw [List.length_append, List.length_map]; rfl
   ·rw [List.length_append, List.length_map]; exact hcf
   ·rw [List.flatMap_append]; simpa using hsf
   ·rw [List.map_append]; rfl
   ·intro p hp; rcases List.mem_append.1 hp with hp | hp
    ·exact (h1s p hp).mono (hMn.trans hMf)
    ·rw [List.mem_singleton.1 hp]; exact hns0.mono hMf
  ·refine jl_nil ?_
   refine jT ?_
   refine jc_no rfl ?_
   refine jc_skip ?_
   refine jT ?_
   refine jc_seq ?_
   refine jc_seq ?_
   refine jc_region ?_
   iterate 2 refine jp rfl ?_
   refine jl_nil ?_
   refine jT ?_
   refine jc_no rfl ?_
   refine jc_skip ?_
   refine jT ?_
   refine jc_seq ?_
   have hl0 : l ≠ 0 := by omega
   obtain ⟨l, rfl⟩ : ∃ l2, l = l2 + 1 := ⟨l - 1, by omega⟩
   have hne := ndAt_ne h1n (by show (0 : Int) < ((l + 1 : Nat) : Int); omega)
   have hw2 := wAt_lt (q := q) hne
   have hwe : wAt xs q = place xs q := if_pos h24
   rw [← hwe]
   refine jc_region ?_
   refine jp rfl ?_
   refine jl_q rfl rfl (qLdL rfl rfl rfl rfl rfl) ?_
   refine jp rfl ?_
   refine jl_q rfl rfl (qBuild (cs := [_, _, _]) rfl rfl rfl (by rfl)) ?_
   refine jl_h rfl rfl (hBuildSlice (cs := [_, _, _]) rfl rfl rfl (by rfl) (by rfl) (by rfl)) ?_; rintro _ _ _ ⟨b43, rfl, rfl, rfl⟩
   have hl6 : l < 6 := by omega
   refine jl_h rfl rfl (hAppend (R := Rk) (m := 1) (news := scell (⟨((l + 1 : Nat) : Int), xs, wAt xs q⟩, .slice na xs.length nc)) rfl rfl rfl rfl hown rfl (fun i v hv => CJ.loc (by rw [← hv]; show _[0 + i]? = _; rw [Nat.zero_add]; rfl)) rfl (by rfl) (by simp [scell, Value.oneCell']) (by omega) (by omega)) ?_; rintro s' _ _ ⟨rfl, Rq, rfl, hown', _⟩
   obtain ⟨a4, c4, rfl⟩ := hown'.form
   refine jp rfl ?_
   refine jl_nil ?_
   refine jT ?_
   refine jc_region ?_
   refine jl_q rfl rfl (qFieldAddr rfl rfl rfl rfl rfl) ?_
   refine jl_q rfl rfl (qLd rfl rfl rfl rfl (CJ.loc rfl)) ?_
   refine jp rfl ?_
   obtain ⟨sb, so, e0, hx⟩ := hns.open (by intro e; have := congrArg List.length e; rw [flat_len icell 5 icell_len, List.length_nil] at this; have h2 := congrArg List.length hnp; rw [List.length_map] at h2; omega)
   cases e0
   obtain ⟨va, vc, hcl, hvc, hvs⟩ := items_get hx hnp hnb hw2
   refine jl_q rfl rfl (qIdxS rfl rfl rfl rfl (by omega)) ?_
   refine jl_q rfl rfl (qFieldAddr rfl rfl rfl rfl rfl) ?_
   refine jl_q rfl rfl (qLd rfl rfl rfl rfl ((hcl 3 _ rfl).cj _)) ?_
   refine jp rfl ?_
   refine jl_nil ?_
   refine jB ?_
   obtain ⟨ys, hy1, hy2, hy3⟩ := tree_child h1t (List.getElem_mem hw2)
   have hkid : kid s xs[wAt xs q] = ys := by unfold kid; rw [hy1]
   refine j_again ⟨xs[wAt xs q].ref, l, ys, ps ++ [(⟨((l + 1 : Nat) : Int), xs, wAt xs q⟩, .slice (some ⟨sb, so, none⟩) xs.length nc)], Mn, Rq, .slice a4 (ps.length + 1) c4⟩ (Keep.cons (t := 3) rfl (Keep.cons (t := 5) rfl (Keep.cons (t := 6) rfl (Keep.cons (t := 7) rfl Keep.nil)))) ⟨by have := hno.ref _ (List.getElem_mem hw2); have := hno.up (by omega) _ (List.getElem_mem hw2); show 8 ≤ xs[wAt xs q].ref ∧ xs[wAt xs q].ref < 256; omega, hy1, hy3, h1m.trans hMn, ?_, ?_, ?_, ?_⟩ (by show l < l + 1; omega) (fun w h => h.dropAt.dropAt.perm (permC fun f => by simp only [List.map_append, List.map_cons, List.map_nil, List.sum_append, List.sum_cons, List.sum_nil] <;> omega))
   ·show Own _ Rq _ 3 (ps ++ [_]).length ((ps ++ [_]).flatMap scell)
    rw [List.length_append, List.flatMap_append]; simpa using hown'
   ·intro p hp; rcases List.mem_append.1 hp with hp | hp
    ·exact (h1s p hp).mono hMn
    ·rw [List.mem_singleton.1 hp]; exact hns0
   ·rw [h1e]; show ps.map _ ++ wayF s q (l + 1) xs = (ps ++ [_]).map _ ++ _
    rw [wayF, List.getElem?_eq_getElem hw2, List.map_append, List.append_assoc]; show _ ++ (_ :: wayF s q l (kid s xs[wAt xs q])) = _; rw [hkid]; rfl
   ·show (ps ++ [_]).length + l = lev; rw [List.length_append]; show ps.length + 1 + l = lev; omega
 ·iterate 2 refine jp rfl ?_
  refine jl_nil ?_
  refine jT ?_
  refine jc_seq ?_
  refine jc_seq ?_
  refine jc_region ?_
  refine jl_q rfl rfl (qFieldAddr rfl rfl rfl rfl rfl) ?_
  refine jl_q rfl rfl (qLd rfl rfl rfl rfl (CJ.loc rfl)) ?_
  refine js rfl (fun h27 => ?_) (fun h27 => ?_)
  ·refine jl_nil ?_
   refine jT ?_
   refine jc_yes rfl ?_
   refine jc_seq ?_
   refine jc_region ?_
   refine jp rfl ?_
   refine jl_q rfl rfl (qLdL rfl rfl rfl rfl rfl) ?_
   refine jp rfl ?_
   refine jl_q rfl rfl (qBuild (cs := [_, _, _]) rfl rfl rfl (by rfl)) ?_
   refine jl_h rfl rfl (hBuildSlice (cs := [_, _, _]) rfl rfl rfl (by rfl) (by rfl) (by rfl)) ?_; rintro _ _ _ ⟨b32, rfl, rfl, rfl⟩
   have hl6 : l < 6 := by omega
   refine jl_h rfl rfl (hAppend (R := Rk) (m := 1) (news := scell (⟨((l : Nat) : Int), xs, place xs q⟩, .slice na xs.length nc)) rfl rfl rfl rfl hown rfl (fun i v hv => CJ.loc (by rw [← hv]; show _[0 + i]? = _; rw [Nat.zero_add]; rfl)) rfl (by rfl) (by simp [scell, Value.oneCell']) (by omega) (by omega)) ?_; rintro s' _ _ ⟨rfl, Rq, rfl, hown', _⟩
   obtain ⟨a4, c4, rfl⟩ := hown'.form
   refine jp rfl ?_
   refine jl_nil ?_
   refine jT ?_
   refine jc_ret ?_
   refine jTr ?_
   refine jBr ?_
   refine jTr ?_
   refine jBr ?_
   refine jq_own (R := Rq) hown' (by simp) ?_
   intro Mf af cf hMf ef hcf hsf; cases ef
   refine jq_drop (L' := []) (List.nil_sublist _) ?_
   refine jr1 rfl rfl ?_
   have hl0 : l = 0 := by omega
   subst hl0
   refine ⟨?_, rfl⟩
   rw [h1e]
   refine ⟨a4, c4, ps ++ [(⟨((0 : Nat) : Int), xs, place xs q⟩, .slice na xs.length nc)], ?_, ?_, ?_, ?_, ?_⟩
   ·rw [List.length_append, List.length_map]; rfl
   ·rw [List.length_append, List.length_map]; exact hcf
   ·rw [List.flatMap_append]; simpa using hsf
   ·rw [List.map_append]; rfl
   ·intro p hp; rcases List.mem_append.1 hp with hp | hp
    ·exact (h1s p hp).mono (hMn.trans hMf)
    ·rw [List.mem_singleton.1 hp]; exact hns0.mono hMf
  ·refine jl_nil ?_
   refine jT ?_
   refine jc_no rfl ?_
   refine jc_skip ?_
   refine jT ?_
   refine jc_seq ?_
   refine jc_seq ?_
   refine jc_region ?_
   iterate 2 refine jp rfl ?_
   refine jl_nil ?_
   refine jT ?_
   refine jc_yes rfl ?_
   have hl0 : l ≠ 0 := by omega
   obtain ⟨l, rfl⟩ : ∃ l2, l = l2 + 1 := ⟨l - 1, by omega⟩
   have hne := ndAt_ne h1n (by show (0 : Int) < ((l + 1 : Nat) : Int); omega)
   have hw2 := wAt_lt (q := q) hne
   have hwe : wAt xs q = place xs q - 1 := if_neg (by rw [h24]; decide)
   refine jc_region ?_
   refine jp rfl ?_
   refine ja rfl (by omega) ?_
   refine jl_q rfl rfl (qEq (qMax rfl rfl rfl rfl) (v' := .int .i64 ((wAt xs q : Nat) : Int)) (congrArg _ (by rw [hwe]; omega))) ?_
   refine jp rfl ?_
   refine jl_nil ?_
   refine jT ?_
   refine jc_seq ?_
   refine jc_region ?_
   refine jp rfl ?_
   refine jl_q rfl rfl (qLdL rfl rfl rfl rfl rfl) ?_
   refine jp rfl ?_
   refine jl_q rfl rfl (qBuild (cs := [_, _, _]) rfl rfl rfl (by rfl)) ?_
   refine jl_h rfl rfl (hBuildSlice (cs := [_, _, _]) rfl rfl rfl (by rfl) (by rfl) (by rfl)) ?_; rintro _ _ _ ⟨b43, rfl, rfl, rfl⟩
   have hl6 : l < 6 := by omega
   refine jl_h rfl rfl (hAppend (R := Rk) (m := 1) (news := scell (⟨((l + 1 : Nat) : Int), xs, wAt xs q⟩, .slice na xs.length nc)) rfl rfl rfl rfl hown rfl (fun i v hv => CJ.loc (by rw [← hv]; show _[0 + i]? = _; rw [Nat.zero_add]; rfl)) rfl (by rfl) (by simp [scell, Value.oneCell']) (by omega) (by omega)) ?_; rintro s' _ _ ⟨rfl, Rq, rfl, hown', _⟩
   obtain ⟨a4, c4, rfl⟩ := hown'.form
   refine jp rfl ?_
   refine jl_nil ?_
   refine jT ?_
   refine jc_region ?_
   refine jl_q rfl rfl (qFieldAddr rfl rfl rfl rfl rfl) ?_
   refine jl_q rfl rfl (qLd rfl rfl rfl rfl (CJ.loc rfl)) ?_
   refine jp rfl ?_
   obtain ⟨sb, so, e0, hx⟩ := hns.open (by intro e; have := congrArg List.length e; rw [flat_len icell 5 icell_len, List.length_nil] at this; have h2 := congrArg List.length hnp; rw [List.length_map] at h2; omega)
   cases e0
   obtain ⟨va, vc, hcl, hvc, hvs⟩ := items_get hx hnp hnb hw2
   refine jl_q rfl rfl (qIdxS rfl rfl rfl rfl (by omega)) ?_
   refine jl_q rfl rfl (qFieldAddr rfl rfl rfl rfl rfl) ?_
   refine jl_q rfl rfl (qLd rfl rfl rfl rfl ((hcl 3 _ rfl).cj _)) ?_
   refine jp rfl ?_
   refine jl_nil ?_
   refine jB ?_
   obtain ⟨ys, hy1, hy2, hy3⟩ := tree_child h1t (List.getElem_mem hw2)
   have hkid : kid s xs[wAt xs q] = ys := by unfold kid; rw [hy1]
   refine j_again ⟨xs[wAt xs q].ref, l, ys, ps ++ [(⟨((l + 1 : Nat) : Int), xs, wAt xs q⟩, .slice (some ⟨sb, so, none⟩) xs.length nc)], Mn, Rq, .slice a4 (ps.length + 1) c4⟩ (Keep.cons (t := 3) rfl (Keep.cons (t := 5) rfl (Keep.cons (t := 6) rfl (Keep.cons (t := 7) rfl Keep.nil)))) ⟨by have := hno.ref _ (List.getElem_mem hw2); have := hno.up (by omega) _ (List.getElem_mem hw2); show 8 ≤ xs[wAt xs q].ref ∧ xs[wAt xs q].ref < 256; omega, hy1, hy3, h1m.trans hMn, ?_, ?_, ?_, ?_⟩ (by show l < l + 1; omega) (fun w h => h.dropAt.dropAt.perm (permC fun f => by simp only [List.map_append, List.map_cons, List.map_nil, List.sum_append, List.sum_cons, List.sum_nil] <;> omega))
   ·show Own _ Rq _ 3 (ps ++ [_]).length ((ps ++ [_]).flatMap scell)
    rw [List.length_append, List.flatMap_append]; simpa using hown'
   ·intro p hp; rcases List.mem_append.1 hp with hp | hp
    ·exact (h1s p hp).mono hMn
    ·rw [List.mem_singleton.1 hp]; exact hns0
   ·rw [h1e]; show ps.map _ ++ wayF s q (l + 1) xs = (ps ++ [_]).map _ ++ _
    rw [wayF, List.getElem?_eq_getElem hw2, List.map_append, List.append_assoc]; show _ ++ (_ :: wayF s q l (kid s xs[wAt xs q])) = _; rw [hkid]; rfl
   ·show (ps ++ [_]).length + l = lev; rw [List.length_append]; show ps.length + 1 + l = lev; omega

end Go.Proofs.YtckdncmjkloebaaGreat
