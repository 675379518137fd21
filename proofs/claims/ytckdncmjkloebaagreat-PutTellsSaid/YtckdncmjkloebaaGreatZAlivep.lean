/- Walks: the example that each statement begins with; the items of a tree, compared. No statement of the seat is proved here. -/
import Derived.Test.YtckdncmjkloebaaGreatZLawb
namespace Go.Proofs.YtckdncmjkloebaaGreat
set_option linter.unusedVariables false
set_option linter.unusedSimpArgs false
open Go.RowKit


/-- a store's slices -/
structure V4 where
 ba : Option Addr
 bn : Nat
 bc : Nat
 wa : Option Addr
 wn : Nat
 wc : Nat
 na : Option Addr
 nn : Nat
 nc : Nat
 la : Option Addr
 ln : Nat
 lc : Nat
abbrev vcl (x : V4) : List Value := [.slice x.ba x.bn x.bc, .slice x.wa x.wn x.wc, .slice x.na x.nn x.nc, .slice x.la x.ln x.lc]
structure GwS where
 k : Nat
 s : Sto
 r : Int
 M : Mem
 v : V4
def kyO (n : Int) : Ky := ⟨2, 0, n⟩
def itO (n : Int) : It := ⟨kyO n, 0, []⟩
def growF : Nat → Except Int (Sto × Int)
 | 0 => .ok (mkS st0 0 [], (mkAt (shareL st0 []) : Int))
 | k + 1 => match growF k with
  | .error e => .error e
  | .ok (s, r) => putF s r (itO ((k + 1 : Nat) : Int))
def okE {α : Type} : Except Int α → Bool
 | .ok _ => true
 | .error _ => false
theorem new_ok : dmE st0 0 [] = 0 := by decide +kernel
theorem grow_zero : growF 0 = .ok (mkS st0 0 [], (mkAt (shareL st0 []) : Int)) := rfl
theorem grow_all : ∀ k, k ≤ 6 → okE (growF k) = true := by decide +kernel
theorem grow_no {k : Nat} (h : k + 1 ≤ 6) {s : Sto} {r e : Int} (hg : growF k = .ok (s, r)) (he : putF s r (itO ((k + 1 : Nat) : Int)) = .error e) : False := by
 have h1 := grow_all (k + 1) h
 rw [growF, hg] at h1
 change okE (putF s r (itO ((k + 1 : Nat) : Int))) = true at h1
 rw [he] at h1; cases h1
theorem kyO_ok {n : Int} (h : 0 ≤ n ∧ n < 4294967296) : keyOk (kyO n) := ⟨by show (0 : Int) ≤ 2 ∧ (2 : Int) < 256; omega, by show (0 : Int) ≤ 0 ∧ (0 : Int) < 4294967296; omega, h⟩


/-- the items of a tree, or none -/
def allR (s : Sto) (root : Int) : List It := if (fchk s root).2 = 0 then allT s root else []
theorem allL_key {s : Sto} : ∀ {l : Nat} {xs : List It}, (∀ x ∈ xs, keyOk x.key) → ∀ y ∈ allL s l xs, keyOk y.key
 | 0, xs, h, y, hy => by rw [allL_zero] at hy; exact h y hy
 | l + 1, xs, h, y, hy => by
  obtain ⟨z, hz, hyz⟩ := List.mem_flatMap.1 hy
  have hk : ∀ w ∈ kid s z, keyOk w.key := by
   unfold kid
   split
   ·rename_i h; exact ndAt_key h
   ·exact fun w hw => by cases hw
  exact allL_key hk y hyz
theorem allT_key {s : Sto} {root : Int} : ∀ y ∈ allT s root, keyOk y.key := by
 unfold allT
 split
 ·rename_i h; exact allL_key (ndAt_key h)
 ·exact fun y hy => by cases hy
theorem allR_rng (s : Sto) (root : Int) : (if (fchk s root).2 = 0 then rng s root ⟨0, 0, 0⟩ ⟨255, 4294967295, 4294967295⟩ else []) = allR s root := by
 unfold allR
 by_cases h : (fchk s root).2 = 0
 ·rw [if_pos h, if_pos h, rng_is h]
  refine List.filter_eq_self.2 fun y hy => ?_
  obtain ⟨k1, k2, k3⟩ := allT_key y hy
  unfold btw
  have h1 : kless y.key ⟨0, 0, 0⟩ = false := by unfold kless; exact decide_eq_false (by simp only; omega)
  have h2 : kless ⟨255, 4294967295, 4294967295⟩ y.key = false := by unfold kless; exact decide_eq_false (by simp only; omega)
  rw [h1, h2]; rfl
 ·rw [if_neg h, if_neg h]
theorem allR_len (s : Sto) (root : Int) : (allR s root).length ≤ 15625 := by
 rw [← allR_rng]
 split
 ·rename_i h; exact rng_len h _ _
 ·exact Nat.zero_le _

theorem pkey (n : Int) (M : Mem) :
  SpecL Tryz.prog 93 #[.int .u32 n] M [] fun v _ _ => v = .agg (kcells (kyO n)).toArray := by
 refine spec_body (vs := [_]) 5 _ Tryz.func93 rfl Tryz.ntmps93 rfl rfl ?_; intro W
 refine jc_seq ?_
 refine jc_region ?_
 refine jl_h rfl rfl (hAlloc rfl rfl) ?_; rintro _ _ _ ⟨b2, rfl, rfl, rfl⟩
 refine jl_nil ?_
 refine jT ?_
 refine jc_seq ?_
 refine jc_region ?_
 refine jp rfl ?_
 refine jl_q rfl rfl (qBuild (cs := [_, _, _]) rfl rfl rfl (by rfl)) ?_
 refine jl_s rfl (hStoreL rfl rfl rfl rfl rfl rfl rfl rfl) ?_; rintro _ _ _ ⟨rfl, rfl⟩
 refine jl_nil ?_
 refine jT ?_
 refine jc_ret ?_
 refine jrs (rs := [_]) rfl (.cons (.agg rfl rfl rfl) .nil) ?_
 rfl

set_option maxHeartbeats 2000000 in
theorem pgrown (n : Nat) (hn : n ≤ 6) (M : Mem) :
  SpecL Tryz.prog 49 #[.int .u32 n] M [] fun u M' L' => (∃ x r s, u = .tuple #[.agg (vcl x).toArray, .int .i64 r, .bool true] ∧ ST M' (.agg (vcl x).toArray) s ∧ stOk s ∧ growF n = .ok (s, r)) ∧ L' = [] := by
 refine spec_body (vs := [_]) 38 _ Tryz.func49 rfl Tryz.ntmps49 rfl rfl ?_; intro W
 refine jc_seq ?_
 refine jc_region ?_
 refine jl_h rfl rfl (hAlloc rfl rfl) ?_; rintro _ _ _ ⟨b2, rfl, rfl, rfl⟩
 iterate 2 refine jp rfl ?_
 refine jl_nil ?_
 refine jT ?_
 refine jc_seq ?_
 refine jc_region ?_
 refine jl_h rfl rfl (hCall rfl rfl rfl rfl rfl (by kernel_rfl) (rnew_spec M)) ?_; rintro _ M1 _ ⟨hM1, _, rfl, ⟨hs0, rfl⟩⟩
 obtain ⟨z1, z2, z3, z4, rfl, f1, f2, f3, f4⟩ := id hs0.ex
 simp only [List.nil_append]
 refine jl_h rfl rfl (hCall rfl rfl rfl rfl rfl (by kernel_rfl) (pnew_walk st0 _ _ _ _ M1 hs0)) ?_; rintro _ M2 _ ⟨hM2, _, rfl, ⟨hdm, rfl⟩⟩
 obtain ⟨ba, bn, bc, wa, wn, wc, na, nn, nc, la, ln, lc, at_, e, rfl, hq⟩ := hdm.form
 obtain ⟨he, he2, _⟩ | ⟨rfl, _, hat, _, hs1, hk1⟩ := hq
 ·exfalso; exact he (he2.trans new_ok)
 simp only [List.nil_append]
 iterate 4 refine jp rfl ?_
 refine jl_h rfl rfl (hAlloc rfl rfl) ?_; rintro _ _ _ ⟨b5, rfl, rfl, rfl⟩
 refine jl_s rfl (hStoreL rfl rfl rfl rfl rfl rfl rfl rfl) ?_; rintro _ _ _ ⟨rfl, rfl⟩
 iterate 2 refine jp rfl ?_
 refine jl_nil ?_
 refine jT ?_
 refine jc_seq ?_
 refine jc_seq ?_
 refine jc_region ?_
 refine jp rfl ?_
 refine jl_nil ?_
 refine jT ?_
 refine jc_block ?_
 refine jc_loopK (α := GwS) (fun x => [(0, .int .u32 n), (2, .pointer (some ⟨b2, 0, none⟩)), (5, .pointer (some ⟨b5, 0, none⟩)), (6, .int .i64 x.r), (7, .int .i64 0), (8, .int .u32 ((x.k + 1 : Nat) : Int))]) (fun x => x.M) (fun x => [(b5, .cells (vcl x.v).toArray TSt (0, 0)), (b2, .cells [.slice none 0 0, .slice none 0 0, .slice none 0 0, .slice none 0 0].toArray TSt (0, 0))]) (fun x => x.k ≤ n ∧ ST x.M (.agg (vcl x.v).toArray) x.s ∧ stOk x.s ∧ growF x.k = .ok (x.s, x.r)) (fun x => n - x.k)
  ⟨0, mkS st0 0 [], at_, M2, ⟨ba, bn, bc, wa, wn, wc, na, nn, nc, la, ln, lc⟩⟩ (Keep.cons (t := 0) rfl (Keep.cons (t := 2) rfl (Keep.cons (t := 5) rfl (Keep.cons (t := 6) rfl (Keep.cons (t := 7) rfl (Keep.cons (t := 8) rfl Keep.nil)))))) ⟨Nat.zero_le _, hs1, hk1, by rw [hat]; exact grow_zero⟩ (fun _ h => h) ?_
 rintro ⟨k, s, r, Mk, x⟩ ⟨hk, hs, hok, hg⟩
 try dsimp only at hk hs hok hg ⊢
 refine jc_seq ?_
 refine jc_seq ?_
 refine jc_region ?_
 iterate 2 refine jp rfl ?_
 refine js rfl (fun h17 => ?_) (fun h17 => ?_)
 ·iterate 2 refine jp rfl ?_
  refine jt rfl (decide_eq_true (by omega)) ?_
  refine jp rfl ?_
  refine jl_nil ?_
  refine jT ?_
  refine jc_yes rfl ?_
  refine jc_skip ?_
  refine jT ?_
  refine jc_seq ?_
  refine jc_block ?_
  refine jc_drawP (p := { A := fun i => !([10].contains i), U := fun i => !([8, 9, 10, 11, 12].contains i) }) [(0, true), (1, true), (2, true), (3, true), (4, true), (5, false), (6, true), (7, true), (8, true), (9, true), (10, false), (11, true), (12, true)] _ (_) ([]) (by kernel_rfl) (by kernel_rfl) (by kernel_rfl) (by kernel_rfl) rfl (fun _ h => h) (MLe.refl _) (by simp) ?_
  refine jd_q rfl rfl rfl (qLdL rfl rfl rfl rfl rfl) ?_
  iterate 2 refine dp rfl rfl ?_
  refine jd_q rfl rfl rfl (qCall rfl rfl rfl rfl rfl (by kernel_rfl) (pkey ((k + 1 : Nat) : Int) Mk)) ?_
  refine jd_q rfl rfl rfl (qBuild (cs := [_, _, _, _, _]) rfl rfl rfl (by rfl)) ?_
  have hk6 : k + 1 ≤ 6 := by omega
  refine jd_h rfl rfl rfl (hCall rfl rfl rfl rfl rfl (by kernel_rfl) (put_spec s _ (.slice none 0 0) r (itO ((k + 1 : Nat) : Int)) Mk hs BS.nil (kyO_ok (by omega)))) ?_; rintro _ Mp _ ⟨hMp, _, rfl, ⟨hpt, rfl⟩⟩
  refine ⟨_, _, MLe.refl _, hMp, fun _ h => h, by simp, ?_⟩
  obtain ⟨ba, bn, bc, wa, wn, wc, na, nn, nc, la, ln, lc, at_, e, rfl, hq⟩ := hpt.form
  obtain ⟨he, he2, _⟩ | ⟨rfl, t, ht, _, _, hs2, hk2⟩ := hq
  ·exfalso; exact grow_no hk6 hg he2
  simp only [List.nil_append]
  iterate 4 refine dp rfl rfl ?_
  refine jd_e rfl rfl (hStoreL rfl rfl rfl rfl rfl rfl rfl rfl) ?_; rintro _ _ _ ⟨rfl, rfl⟩
  refine ⟨hMp, by simp, ?_⟩
  refine ep rfl rfl ?_
  refine ep rfl rfl ?_
  refine je_nil ?_
  refine jPn ?_
  refine jB ?_
  refine jT ?_
  refine jc_region ?_
  refine jp rfl ?_
  refine jl_q rfl rfl (qEq (qAk rfl rfl rfl rfl rfl (by rw [IntKind.wrap_u32]; omega)) (v' := .int .u32 ((k + 1 + 1 : Nat) : Int)) (congrArg _ (by omega))) ?_
  refine jp rfl ?_
  refine jl_nil ?_
  refine j_again ⟨k + 1, t, at_, Mp, ⟨ba, bn, bc, wa, wn, wc, na, nn, nc, la, ln, lc⟩⟩ (Keep.cons (t := 0) rfl (Keep.cons (t := 2) rfl (Keep.cons (t := 5) rfl (Keep.cons (t := 6) rfl (Keep.cons (t := 7) rfl (Keep.cons (t := 8) rfl Keep.nil)))))) ⟨by show k + 1 ≤ n; omega, hs2, hk2, by show growF (k + 1) = _; rw [growF, hg]; exact ht⟩ (by show n - (k + 1) < n - k; omega) (fun _ h => h)
 ·iterate 4 refine jp rfl ?_
  refine jl_nil ?_
  refine jT ?_
  refine jc_no rfl ?_
  refine jc_exit ?_
  refine jTx ?_
  refine jTx ?_
  refine jBx ?_
  refine jT ?_
  refine jc_seq ?_
  refine jc_region ?_
  refine jl_q rfl rfl (qLdL rfl rfl rfl rfl rfl) ?_
  iterate 2 refine jp rfl ?_
  refine jl_q rfl rfl (qP rfl rfl) ?_
  refine jl_s rfl (hStoreL rfl rfl rfl rfl rfl rfl rfl rfl) ?_; rintro _ _ _ ⟨rfl, rfl⟩
  iterate 2 refine jp rfl ?_
  refine jl_nil ?_
  refine jT ?_
  refine jc_ret ?_
  refine jrsd (rs := [_, _, _]) ([]) (by exact List.nil_sublist _) rfl (.cons (.agg rfl rfl rfl) (.cons (.tmp rfl) (.cons (.tmp rfl) .nil))) ?_
  obtain rfl : k = n := by omega
  exact ⟨⟨x, r, s, rfl, hs, hok, hg⟩, rfl⟩

theorem pall_walk (s : Sto) (root : Int) (bv wv nv lw : Value) (M : Mem) (hST : ST M (.agg #[bv, wv, nv, lw]) s) :
  SpecL Tryz.prog 22 #[.agg #[bv, wv, nv, lw], .int .i64 root] M [] fun u M' L' => NS M' u (allR s root) ∧ L' = [] := by
 refine spec_body (vs := [_, _]) 16 _ Tryz.func22 rfl Tryz.ntmps22 rfl rfl ?_; intro W
 refine jc_seq ?_
 refine jc_region ?_
 refine jl_h rfl rfl (hBox (cs := [bv, wv, nv, lw]) rfl rfl rfl rfl) ?_; rintro _ _ _ ⟨b2, rfl, rfl, rfl⟩
 refine jp rfl ?_
 refine jl_nil ?_
 refine jT ?_
 refine jc_seq ?_
 refine jc_region ?_
 refine jl_q rfl rfl (qLdL rfl rfl rfl rfl rfl) ?_
 refine jp rfl ?_
 refine jl_q rfl rfl (qEq (qBuild (cs := [_, _, _]) rfl rfl rfl (by rfl)) (v' := .agg (kcells ⟨0, 0, 0⟩).toArray) rfl) ?_
 refine jl_q rfl rfl (qEq (qBuild (cs := [_, _, _]) rfl rfl rfl (by rfl)) (v' := .agg (kcells ⟨255, 4294967295, 4294967295⟩).toArray) rfl) ?_
 refine jl_h rfl rfl (hCall rfl rfl rfl rfl rfl (by kernel_rfl) (range_spec s _ root ⟨0, 0, 0⟩ ⟨255, 4294967295, 4294967295⟩ M hST)) ?_; rintro _ M1 _ ⟨hM1, _, rfl, ⟨⟨v, rfl, hns⟩, rfl⟩⟩
 iterate 5 refine jp rfl ?_
 refine jl_nil ?_
 refine jT ?_
 refine jc_seq ?_
 refine jc_region ?_
 iterate 2 refine jp rfl ?_
 refine jl_nil ?_
 refine jT ?_
 refine jc_ret ?_
 refine jq_drop (L' := []) (List.nil_sublist _) ?_
 refine jr1 rfl rfl ?_
 exact ⟨by rw [← allR_rng]; exact hns, rfl⟩


theorem pall (s : Sto) (v : Value) (root : Int) (M : Mem) (h : ST M v s) : SpecL Tryz.prog 22 #[v, .int .i64 root] M [] fun u M' L' => NS M' u (allR s root) ∧ L' = [] := by
 obtain ⟨b, w, n, l, rfl, h1, h2, h3, h4⟩ := id h.ex
 exact pall_walk s root b w n l M h

theorem psame_walk (xs ys : List It) (a1 a2 : Option Addr) (c1 c2 : Nat) (ps1 ps2 : List (It × Value)) (M : Mem) (hs1 : SM M a1 (ps1.flatMap icell)) (hp1 : ps1.map (·.1) = xs) (hb1 : ∀ p ∈ ps1, BS M p.2 p.1.val) (hs2 : SM M a2 (ps2.flatMap icell)) (hp2 : ps2.map (·.1) = ys) (hb2 : ∀ p ∈ ps2, BS M p.2 p.1.val) (hn1 : xs.length ≤ 1000000) (hn2 : ys.length ≤ 1000000) :
  SpecL Tryz.prog 24 #[.slice a1 xs.length c1, .slice a2 ys.length c2] M [] fun v _ _ => v = .bool (decide (xs = ys)) := by
 refine spec_body (vs := [_, _]) 33 _ Tryz.func24 rfl Tryz.ntmps24 rfl rfl ?_; intro W
 refine jc_seq ?_
 refine jc_region ?_
 refine jp rfl ?_
 refine jl_nil ?_
 refine jT ?_
 refine jc_seq ?_
 refine jc_seq ?_
 refine jc_region ?_
 refine jp rfl ?_
 refine jl_nil ?_
 refine jT ?_
 refine jc_block ?_
 refine jc_loopK (α := Nat) (fun k => [(0, .slice a1 xs.length c1), (1, .slice a2 ys.length c2), (5, .int .i64 k)]) (fun _ => M) (fun _ => []) (fun k => k ≤ xs.length ∧ k ≤ ys.length ∧ xs.take k = ys.take k) (fun k => xs.length - k)
  0 (Keep.cons (t := 0) rfl (Keep.cons (t := 1) rfl (Keep.cons (t := 5) rfl Keep.nil))) ⟨Nat.zero_le _, Nat.zero_le _, rfl⟩ (fun _ h => h) ?_
 rintro k ⟨hk1, hk2, hI⟩
 try dsimp only at hk1 hk2 hI ⊢
 refine jc_seq ?_
 refine jc_seq ?_
 refine jc_region ?_
 iterate 2 refine jp rfl ?_
 refine jl_q rfl rfl (qLen rfl rfl rfl) ?_
 refine js rfl (fun h9 => ?_) (fun h9 => ?_)
 ·iterate 3 refine jp rfl ?_
  refine jl_q rfl rfl (qLen rfl rfl rfl) ?_
  refine js rfl (fun h14 => ?_) (fun h14 => ?_)
  ·refine jp rfl ?_
   refine jl_nil ?_
   refine jT ?_
   refine jc_yes rfl ?_
   refine jc_skip ?_
   refine jT ?_
   refine jc_seq ?_
   refine jc_block ?_
   refine jc_seq ?_
   refine jc_draw [(0, true), (1, true), (2, true), (3, true), (4, true), (5, true), (6, true), (7, true), (8, true), (9, true)] _ (by kernel_rfl) (by kernel_rfl) (by kernel_rfl) rfl (fun _ h => h) ?_
   iterate 2 refine dp rfl rfl ?_
   have hk1 : k < xs.length ∧ k < ys.length := by omega
   obtain ⟨pb, po, pe, px⟩ := hs1.open (by intro e; have := congrArg List.length e; rw [flat_len icell 5 icell_len, List.length_nil] at this; have h2 := congrArg List.length hp1; rw [List.length_map] at h2; omega)
   cases pe
   obtain ⟨pva, pvc, pcl, pvh, pvs⟩ := items_get px hp1 hb1 (k := k) (by omega)
   obtain ⟨qb, qo, qe, qx⟩ := hs2.open (by intro e; have := congrArg List.length e; rw [flat_len icell 5 icell_len, List.length_nil] at this; have h2 := congrArg List.length hp2; rw [List.length_map] at h2; omega)
   cases qe
   obtain ⟨qva, qvc, qcl, qvh, qvs⟩ := items_get qx hp2 hb2 (k := k) (by omega)
   refine jd_q rfl rfl rfl (qIdxS rfl rfl rfl rfl (by omega)) ?_
   refine jd_q rfl rfl rfl (qLdA (cs := itc xs[k] pva pvc) rfl rfl rfl rfl rfl (fun i v hv => (pcl i v hv).cj _)) ?_
   iterate 2 refine dp rfl rfl ?_
   refine jd_q rfl rfl rfl (qIdxS rfl rfl rfl rfl (by omega)) ?_
   refine jd_q rfl rfl rfl (qLdA (cs := itc ys[k] qva qvc) rfl rfl rfl rfl rfl (fun i v hv => (qcl i v hv).cj _)) ?_
   refine jd_qb rfl rfl rfl (qCall rfl rfl rfl rfl rfl (by kernel_rfl) (itsame_spec xs[k] ys[k] _ _ M ⟨_, _, rfl, pvh, pvs⟩ ⟨_, _, rfl, qvh, qvs⟩)) (fun h26 => ?_) (fun h26 => ?_)
   ·refine dp rfl rfl ?_
    refine jd_nil ?_
    refine jPn ?_
    refine jT ?_
    refine jc_no rfl ?_
    refine jc_skip ?_
    refine jB ?_
    refine jT ?_
    refine jc_region ?_
    refine jp rfl ?_
    refine ja rfl (by omega) ?_
    refine jp rfl ?_
    refine jl_nil ?_
    refine j_again (k + 1) (Keep.cons (t := 0) rfl (Keep.cons (t := 1) rfl (Keep.cons (t := 5) rfl Keep.nil))) ⟨by omega, by omega, by rw [List.take_succ_eq_append_getElem hk1.1, List.take_succ_eq_append_getElem hk1.2, hI, of_decide_eq_true h26]⟩ (by omega) (fun _ h => h)
   ·refine dp rfl rfl ?_
    refine jd_nil ?_
    refine jPn ?_
    refine jT ?_
    refine jc_yes rfl ?_
    refine jc_seq ?_
    refine jc_region ?_
    refine jp rfl ?_
    refine jl_nil ?_
    refine jT ?_
    refine jc_ret ?_
    refine jBr ?_
    refine jTr ?_
    refine jTr ?_
    refine jBr ?_
    refine jTr ?_
    refine jr1 rfl rfl ?_
    refine congrArg _ (Eq.symm (decide_eq_false fun e => ?_))
    subst e
    exact of_decide_eq_false h26 rfl
  ·refine jp rfl ?_
   refine jl_nil ?_
   refine jT ?_
   refine jc_no rfl ?_
   refine jc_exit ?_
   refine jTx ?_
   refine jTx ?_
   refine jBx ?_
   refine jT ?_
   refine jc_seq ?_
   refine jc_region ?_
   refine jp rfl ?_
   refine jl_q rfl rfl (qLen rfl rfl rfl) ?_
   refine jp rfl ?_
   refine jl_q rfl rfl (qLen rfl rfl rfl) ?_
   iterate 2 refine jp rfl ?_
   refine jl_nil ?_
   refine jT ?_
   refine jc_ret ?_
   refine jr1 rfl rfl ?_
   refine congrArg _ (decide_eq_decide.2 ⟨fun hl => ?_, fun e => by rw [e]⟩)
   have e1 : k = xs.length := by omega
   rw [List.take_of_length_le (by omega), List.take_of_length_le (by omega)] at hI
   exact hI
 ·iterate 6 refine jp rfl ?_
  refine jl_nil ?_
  refine jT ?_
  refine jc_no rfl ?_
  refine jc_exit ?_
  refine jTx ?_
  refine jTx ?_
  refine jBx ?_
  refine jT ?_
  refine jc_seq ?_
  refine jc_region ?_
  refine jp rfl ?_
  refine jl_q rfl rfl (qLen rfl rfl rfl) ?_
  refine jp rfl ?_
  refine jl_q rfl rfl (qLen rfl rfl rfl) ?_
  iterate 2 refine jp rfl ?_
  refine jl_nil ?_
  refine jT ?_
  refine jc_ret ?_
  refine jr1 rfl rfl ?_
  refine congrArg _ (decide_eq_decide.2 ⟨fun hl => ?_, fun e => by rw [e]⟩)
  have e1 : k = xs.length := by omega
  rw [List.take_of_length_le (by omega), List.take_of_length_le (by omega)] at hI
  exact hI


theorem psame (xs ys : List It) (u v : Value) (M : Mem) (h1 : NS M u xs) (h2 : NS M v ys) (hn1 : xs.length ≤ 1000000) (hn2 : ys.length ≤ 1000000) : SpecL Tryz.prog 24 #[u, v] M [] fun v _ _ => v = .bool (decide (xs = ys)) := by
 obtain ⟨a1, c1, ps1, rfl, _, hs1, hp1, hb1⟩ := h1
 obtain ⟨a2, c2, ps2, rfl, _, hs2, hp2, hb2⟩ := h2
 exact psame_walk xs ys a1 a2 c1 c2 ps1 ps2 M hs1 hp1 hb1 hs2 hp2 hb2 hn1 hn2


def alF : Bool := match growF 6 with | .ok (s, r) => decide (fchk s r = (2, 0)) | .error _ => false
theorem al_yes : alF = true := by decide +kernel
theorem al_fchk {s : Sto} {r : Int} (h : growF 6 = .ok (s, r)) : fchk s r = (2, 0) := by
 have := al_yes
 unfold alF at this
 rw [h] at this
 exact of_decide_eq_true this

theorem palive (M : Mem) :
  SpecL Tryz.prog 17 #[] M [] fun u M' L' => u = .bool true ∧ L' = [] := by
 refine spec_body (vs := []) 26 _ Tryz.func17 rfl Tryz.ntmps17 rfl rfl ?_; intro W
 refine jc_seq ?_
 refine jc_region ?_
 refine jp rfl ?_
 refine jl_nil ?_
 refine jT ?_
 refine jc_seq ?_
 refine jc_region ?_
 refine jl_h rfl rfl (hCall rfl rfl rfl rfl rfl (by kernel_rfl) (pgrown 6 (by omega) M)) ?_; rintro _ M1 _ ⟨hM1, _, rfl, ⟨⟨x, r, s, rfl, hs, hok, hg⟩, rfl⟩⟩
 iterate 3 refine jp rfl ?_
 refine jsb rfl (fun h10 => ?_) (fun h10 => ?_)
 ·refine jl_h rfl rfl (hAlloc rfl rfl) ?_; rintro _ _ _ ⟨b1, rfl, rfl, rfl⟩
  refine jl_s rfl (hStoreL rfl rfl rfl rfl rfl rfl rfl rfl) ?_; rintro _ _ _ ⟨rfl, rfl⟩
  iterate 2 refine jp rfl ?_
  refine jl_nil ?_
  refine jT ?_
  refine jc_seq ?_
  refine jc_region ?_
  refine jl_q rfl rfl (qLdL rfl rfl rfl rfl rfl) ?_
  refine jp rfl ?_
  refine jl_q rfl rfl (qCall rfl rfl rfl rfl rfl (by kernel_rfl) (fcheck_spec s _ r M1 hs)) ?_
  iterate 5 refine jp rfl ?_
  refine jl_nil ?_
  refine jT ?_
  refine jc_seq ?_
  refine jc_region ?_
  iterate 3 refine jp rfl ?_
  refine jl_q rfl rfl (qEq (qEq (qP rfl rfl) (v' := .bool true) (by rw [al_fchk hg]; rfl)) (v' := .bool true) (by simp)) ?_
  iterate 3 refine jp rfl ?_
  refine jl_q rfl rfl (qEq (qP rfl rfl) (v' := .bool true) (by rw [al_fchk hg]; rfl)) ?_
  iterate 2 refine jp rfl ?_
  refine jl_nil ?_
  refine jT ?_
  refine jc_ret ?_
  refine jq_drop (L' := []) (List.nil_sublist _) ?_
  refine jr1 rfl rfl ?_
  exact ⟨rfl, rfl⟩
 ·cases h10

end Go.Proofs.YtckdncmjkloebaaGreat
