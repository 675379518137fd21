/- Walks over scionryref20: Pieces, Cut. -/
import Derived.Test.YtjmkgfamonallaaSpanB
namespace Go.Proofs.Ytjmkgfamonallaa
open Go.RowKit

theorem cutTo_zero (a : Int) : ∀ k : Nat, cutTo a 0 k = []
  | 0 => rfl
  | k + 1 => by rw [cutTo, cutTo_zero a k]; unfold cutAt; rw [if_neg (by omega)]; rfl
theorem cut_bd (a n : Int) : ∀ (k : Nat) (q : Pc), q ∈ cutTo a n k → 0 ≤ q.1 ∧ q.1 < k ∧ 0 ≤ q.2.1 ∧ q.2.1 < q.2.2 ∧ q.2.2 ≤ 128
  | 0, q, h => by simp [cutTo] at h
  | k + 1, q, h => by
    rw [cutTo, List.mem_append] at h
    rcases h with h | h
    · have := cut_bd a n k q h; omega
    · unfold cutAt at h
      split at h
      · rw [List.mem_singleton] at h; subst h; dsimp only; omega
      · cases h
theorem pc_last {l l1 : List Pc} {q : Pc} (h : l = l1 ++ [q]) {j : Nat} (hj : j < 3) : (l.flatMap pcells)[0 + ((l.length : Int) - 1).toNat * 3 + j]? = (pcells q)[j]? := by
  have e : ((l.length : Int) - 1).toNat = l1.length := by rw [h]; simp
  rw [e, Nat.zero_add, flat_get pcells 3 pcells_len l l1.length j hj, h]; simp
theorem pc_set {l l1 : List Pc} {q : Pc} (h : l = l1 ++ [q]) (t : Int) : (l.flatMap pcells).set (0 + ((l.length : Int) - 1).toNat * 3 + 2) (.int .i64 t) = (l1 ++ [(q.1, q.2.1, t)]).flatMap pcells := by
  have e : ((l.length : Int) - 1).toNat = l1.length := by rw [h]; simp
  rw [e, h, List.flatMap_append, List.flatMap_append, List.set_append_right _ _ (by rw [flat_len pcells 3 pcells_len]; omega), flat_len pcells 3 pcells_len]
  congr 1
  have : 0 + l1.length * 3 + 2 - l1.length * 3 = 2 := by omega
  rw [this]; simp [pcells]
theorem step_new {a : Int} {k : Nat} (h0 : 0 ≤ a) (hk : a + k + 1 ≤ 4096) (h : ∀ l1 q, cutTo a k 32 = l1 ++ [q] → q.1 ≠ (a + k) / 128) : cutTo a (k + 1) 32 = cutTo a k 32 ++ [((a + k) / 128, (a + k) % 128, (a + k) % 128 + 1)] := by
  obtain ⟨l0, e1, ⟨_, e2⟩ | ⟨h1, e2, _⟩⟩ := cut_split a k h0 hk
  · exact absurd rfl (h _ _ e2)
  · rw [e1, e2, h1]
theorem step_same {a : Int} {k : Nat} {l1 : List Pc} {q : Pc} (h0 : 0 ≤ a) (hk : a + k + 1 ≤ 4096) (h : cutTo a k 32 = l1 ++ [q]) (hq : q.1 = (a + k) / 128) : cutTo a (k + 1) 32 = l1 ++ [(q.1, q.2.1, q.2.2 + 1)] := by
  obtain ⟨l0, e1, ⟨_, e2⟩ | ⟨h1, e2, h3⟩⟩ := cut_split a k h0 hk
  · rw [h] at e2
    obtain ⟨rfl, e3⟩ := List.append_inj' e2 rfl
    cases e3
    exact e1
  · have := h3 q (by rw [← e2, h]; simp)
    omega

theorem own_new {v : Value} {R : Lc} {l l2 : List Pc} {x y z t : Int} (h : Own v R PT 3 (l ++ [(x, y, z)]).length (((l ++ [(x, y, z)]).flatMap pcells).set (0 + (((l ++ [(x, y, z)]).length : Int) - 1).toNat * 3 + 2) (.int .i64 t))) (e : l2 = l ++ [(x, y, t)]) : Own v R PT 3 l2.length (l2.flatMap pcells) := by
  rw [pc_set rfl] at h; subst e; simpa using h
theorem own_same {v : Value} {R : Lc} {l l1 l2 : List Pc} {q : Pc} {t : Int} (h : Own v R PT 3 l.length ((l.flatMap pcells).set (0 + ((l.length : Int) - 1).toNat * 3 + 2) (.int .i64 t))) (hq : l = l1 ++ [q]) (e : l2 = l1 ++ [(q.1, q.2.1, t)]) : Own v R PT 3 l2.length (l2.flatMap pcells) := by
  rw [pc_set hq] at h; subst e hq; simpa using h

theorem pieces_spec (a n : Int) (M : Mem) (hc : cutOk a n) :
    SpecL Try.prog 22 #[.int .i64 a, .int .i64 n] M [] fun v _ L' => Own v L' PT 3 (cutTo a n 32).length ((cutTo a n 32).flatMap pcells) := by
  obtain ⟨h1, h2, h3, h4⟩ := hc
  refine spec_body (vs := [_, _]) 52 _ Try.func22 rfl Try.ntmps22 rfl rfl ?_; intro W
  refine jc_seq ?_
  refine jc_region ?_
  refine jp rfl ?_
  refine jl_nil ?_
  refine jT ?_
  refine jc_seq ?_
  refine jc_region ?_
  refine jp rfl ?_
  refine jl_nil ?_
  refine jT ?_
  refine jc_seq ?_
  refine jc_seq ?_
  refine jc_region ?_
  iterate 2 refine jp rfl ?_
  refine jl_nil ?_
  refine jT ?_
  refine jc_block ?_
  refine jc_loopK (α := Nat × Value × Lc) (fun x => [(0, .int .i64 a), (1, .int .i64 n), (5, x.2.1), (6, .int .i64 (a + x.1))]) (fun _ => M) (fun x => x.2.2) (fun x => (x.1 : Int) ≤ n ∧ Own x.2.1 x.2.2 PT 3 (cutTo a x.1 32).length ((cutTo a x.1 32).flatMap pcells)) (fun x => n.toNat - x.1)
    (0, .slice none 0 0, []) (Keep.cons (t := 0) rfl (Keep.cons (t := 1) rfl (Keep.cons (t := 5) rfl (Keep.ceq (t := 6) rfl (by simp) Keep.nil)))) ⟨h3, by show Own _ _ _ _ (cutTo a ((0 : Nat) : Int) 32).length ((cutTo a ((0 : Nat) : Int) 32).flatMap _); rw [show ((0 : Nat) : Int) = 0 from rfl, cutTo_zero]; exact Own.nil _ _⟩ (fun _ h => h) ?_
  rintro ⟨k, s, R⟩ ⟨hk, hown⟩
  dsimp only at hk hown ⊢
  have hl := cut_len a k 32
  obtain ⟨sa, scap, rfl⟩ := hown.form
  refine jc_seq ?_
  refine jc_seq ?_
  refine jc_region ?_
  iterate 3 refine jp rfl ?_
  refine ja rfl (by omega) ?_
  refine js rfl (fun hlt => ?_) (fun hlt => ?_)
  · refine jl_nil ?_
    refine jT ?_
    refine jc_yes rfl ?_
    refine jc_skip ?_
    refine jT ?_
    refine jc_seq ?_
    refine jc_block ?_
    refine jc_seq ?_
    refine jc_region ?_
    refine jp rfl ?_
    refine jl_q rfl rfl (qQuo rfl rfl rfl rfl (by omega) (by omega) (by omega)) ?_
    refine jp rfl ?_
    refine jl_nil ?_
    refine jT ?_
    refine jc_seq ?_
    refine jc_seq ?_
    refine jc_region ?_
    refine jp rfl ?_
    refine jl_q rfl rfl (qLen rfl rfl rfl) ?_
    refine js rfl (fun hz => ?_) (fun hz => ?_)
    · iterate 11 refine jp rfl ?_
      refine jl_nil ?_
      refine jT ?_
      refine jc_yes rfl ?_
      refine jc_region ?_
      iterate 3 refine jp rfl ?_
      refine jl_q rfl rfl (qRem rfl rfl rfl rfl (by omega) (by omega)) ?_
      refine jp rfl ?_
      refine jl_q rfl rfl (qRem rfl rfl rfl rfl (by omega) (by omega)) ?_
      refine jl_q rfl rfl (qBuild (cs := [_, _, _]) rfl rfl rfl (by rfl)) ?_
      refine jl_h rfl rfl (hBuildSlice (cs := [_, _, _]) rfl rfl rfl (by rfl) (by rfl) (by rfl)) ?_; rintro _ _ _ ⟨b39, rfl, rfl, rfl⟩
      refine jl_h rfl rfl (hAppend (R := R) (m := 1) rfl rfl rfl rfl hown rfl (fun i v hv => CJ.loc (by simpa using hv)) rfl (by rfl) (by simp [Value.oneCell']) (by omega) (by omega)) ?_; rintro s' _ _ ⟨rfl, R', rfl, hown0, _⟩
      have hown' : Own s' R' PT 3 (cutTo a k 32 ++ [((a + k) / 128, (a + k) % 128, (a + k) % 128)]).length ((cutTo a k 32 ++ [((a + k) / 128, (a + k) % 128, (a + k) % 128)]).flatMap pcells) := by simpa [pcells] using hown0
      clear hown0
      obtain ⟨g2, cap2, cur2, e2, hR2, _⟩ := hown'.open (by simp)
      subst e2
      have hlx : (cutTo a k 32 ++ [((a + (k : Int)) / 128, (a + (k : Int)) % 128, (a + (k : Int)) % 128)]).length = (cutTo a k 32).length + 1 := by simp
      refine jp rfl ?_
      refine jl_nil ?_
      refine jT ?_
      refine jc_region ?_
      iterate 2 refine jp rfl ?_
      refine jl_q rfl rfl (qLen rfl rfl rfl) ?_
      refine ja rfl (by omega) ?_
      refine jl_q rfl rfl (qIdxS rfl rfl rfl rfl (by omega)) ?_
      refine jl_q rfl rfl (qFieldAddr rfl rfl rfl rfl rfl) ?_
      refine jl_q rfl rfl (qEq (qLd rfl rfl rfl rfl (hown'.cj (fun _ h => List.mem_append_left _ h) ((pc_last rfl (by omega)).trans rfl))) (v' := .int .i64 ((a + k) % 128)) rfl) ?_
      refine ja rfl (by omega) ?_
      refine jl_q rfl rfl (qIdxS rfl rfl rfl rfl (by omega)) ?_
      refine jl_q rfl rfl (qFieldAddr rfl rfl rfl rfl rfl) ?_
      refine jl_s rfl (hStoreOwn (R := R') rfl rfl rfl rfl rfl rfl hown' rfl (by omega)) ?_; rintro _ _ _ ⟨rfl, R3, rfl, hown3⟩
      refine jl_nil ?_
      refine jB ?_
      refine jT ?_
      refine jc_region ?_
      refine jp rfl ?_
      refine jl_q rfl rfl (qEq (qA rfl rfl rfl rfl rfl (by omega)) (v' := .int .i64 (a + (k + 1 : Nat))) (by rw [show a + (k : Int) + 1 = a + (k + 1 : Nat) by omega])) ?_
      refine jp rfl ?_
      refine jl_nil ?_
      refine j_again (k + 1, _, R3) (Keep.cons (t := 0) rfl (Keep.cons (t := 1) rfl (Keep.cons (t := 5) rfl (Keep.cons (t := 6) rfl Keep.nil)))) ⟨by show ((k + 1 : Nat) : Int) ≤ n; omega, ?_⟩ (by show n.toNat - (k + 1) < n.toNat - k; omega) (fun _ h => h.fewer (by first | exact List.Sublist.refl _ | exact List.sublist_append_left _ _ | simp))
      show Own _ R3 PT 3 (cutTo a ((k + 1 : Nat) : Int) 32).length ((cutTo a ((k + 1 : Nat) : Int) 32).flatMap pcells)
      rw [show ((k + 1 : Nat) : Int) = (k : Int) + 1 by omega]
      refine own_new hown3 (step_new h1 (by omega) (fun l1 q e => ?_))
      rw [e] at hz; simp at hz; omega
    · iterate 3 refine jp rfl ?_
      refine jl_q rfl rfl (qLen rfl rfl rfl) ?_
      refine ja rfl (by omega) ?_
      obtain ⟨l1, q, hq⟩ : ∃ l1 q, cutTo a k 32 = l1 ++ [q] := by
        rcases List.eq_nil_or_concat (cutTo a k 32) with e | ⟨l1, q, e⟩
        · rw [e] at hz; exact absurd rfl hz
        · exact ⟨l1, q, by simpa using e⟩
      have hqb := cut_bd a k 32 q (by rw [hq]; simp)
      obtain ⟨g1, cap1, cur1, e1, hR1, _⟩ := hown.open (by omega)
      cases e1
      refine jl_q rfl rfl (qIdxS rfl rfl rfl rfl (by omega)) ?_
      refine jl_q rfl rfl (qFieldAddr rfl rfl rfl rfl rfl) ?_
      refine jl_q rfl rfl (qLd rfl rfl rfl rfl (hown.cj (fun _ h => h) ((pc_last hq (by omega)).trans rfl))) ?_
      refine jp rfl ?_
      refine js rfl (fun hb => ?_) (fun hb => ?_)
      · refine jp rfl ?_
        refine jl_nil ?_
        refine jT ?_
        refine jc_yes rfl ?_
        refine jc_region ?_
        iterate 3 refine jp rfl ?_
        refine jl_q rfl rfl (qRem rfl rfl rfl rfl (by omega) (by omega)) ?_
        refine jp rfl ?_
        refine jl_q rfl rfl (qRem rfl rfl rfl rfl (by omega) (by omega)) ?_
        refine jl_q rfl rfl (qBuild (cs := [_, _, _]) rfl rfl rfl (by rfl)) ?_
        refine jl_h rfl rfl (hBuildSlice (cs := [_, _, _]) rfl rfl rfl (by rfl) (by rfl) (by rfl)) ?_; rintro _ _ _ ⟨b39, rfl, rfl, rfl⟩
        refine jl_h rfl rfl (hAppend (R := R) (m := 1) rfl rfl rfl rfl hown rfl (fun i v hv => CJ.loc (by simpa using hv)) rfl (by rfl) (by simp [Value.oneCell']) (by omega) (by omega)) ?_; rintro s' _ _ ⟨rfl, R', rfl, hown0, _⟩
        have hown' : Own s' R' PT 3 (cutTo a k 32 ++ [((a + k) / 128, (a + k) % 128, (a + k) % 128)]).length ((cutTo a k 32 ++ [((a + k) / 128, (a + k) % 128, (a + k) % 128)]).flatMap pcells) := by simpa [pcells] using hown0
        clear hown0
        obtain ⟨g2, cap2, cur2, e2, hR2, _⟩ := hown'.open (by simp)
        subst e2
        have hlx : (cutTo a k 32 ++ [((a + (k : Int)) / 128, (a + (k : Int)) % 128, (a + (k : Int)) % 128)]).length = (cutTo a k 32).length + 1 := by simp
        refine jp rfl ?_
        refine jl_nil ?_
        refine jT ?_
        refine jc_region ?_
        iterate 2 refine jp rfl ?_
        refine jl_q rfl rfl (qLen rfl rfl rfl) ?_
        refine ja rfl (by omega) ?_
        refine jl_q rfl rfl (qIdxS rfl rfl rfl rfl (by omega)) ?_
        refine jl_q rfl rfl (qFieldAddr rfl rfl rfl rfl rfl) ?_
        refine jl_q rfl rfl (qEq (qLd rfl rfl rfl rfl (hown'.cj (fun _ h => List.mem_append_left _ h) ((pc_last rfl (by omega)).trans rfl))) (v' := .int .i64 ((a + k) % 128)) rfl) ?_
        refine ja rfl (by omega) ?_
        refine jl_q rfl rfl (qIdxS rfl rfl rfl rfl (by omega)) ?_
        refine jl_q rfl rfl (qFieldAddr rfl rfl rfl rfl rfl) ?_
        refine jl_s rfl (hStoreOwn (R := R') rfl rfl rfl rfl rfl rfl hown' rfl (by omega)) ?_; rintro _ _ _ ⟨rfl, R3, rfl, hown3⟩
        refine jl_nil ?_
        refine jB ?_
        refine jT ?_
        refine jc_region ?_
        refine jp rfl ?_
        refine jl_q rfl rfl (qEq (qA rfl rfl rfl rfl rfl (by omega)) (v' := .int .i64 (a + (k + 1 : Nat))) (by rw [show a + (k : Int) + 1 = a + (k + 1 : Nat) by omega])) ?_
        refine jp rfl ?_
        refine jl_nil ?_
        refine j_again (k + 1, _, R3) (Keep.cons (t := 0) rfl (Keep.cons (t := 1) rfl (Keep.cons (t := 5) rfl (Keep.cons (t := 6) rfl Keep.nil)))) ⟨by show ((k + 1 : Nat) : Int) ≤ n; omega, ?_⟩ (by show n.toNat - (k + 1) < n.toNat - k; omega) (fun _ h => h.fewer (by first | exact List.Sublist.refl _ | exact List.sublist_append_left _ _ | simp))
        show Own _ R3 PT 3 (cutTo a ((k + 1 : Nat) : Int) 32).length ((cutTo a ((k + 1 : Nat) : Int) 32).flatMap pcells)
        rw [show ((k + 1 : Nat) : Int) = (k : Int) + 1 by omega]
        refine own_new hown3 (step_new h1 (by omega) (fun l1' q' e => ?_))
        rw [hq] at e; obtain ⟨rfl, e2⟩ := List.append_inj' e rfl; cases e2; exact hb
      · refine jp rfl ?_
        refine jl_nil ?_
        refine jT ?_
        refine jc_no rfl ?_
        refine jc_skip ?_
        refine jT ?_
        refine jc_region ?_
        iterate 2 refine jp rfl ?_
        refine jl_q rfl rfl (qLen rfl rfl rfl) ?_
        refine ja rfl (by omega) ?_
        refine jl_q rfl rfl (qIdxS rfl rfl rfl rfl (by omega)) ?_
        refine jl_q rfl rfl (qFieldAddr rfl rfl rfl rfl rfl) ?_
        refine jl_q rfl rfl (qEq (qLd rfl rfl rfl rfl (hown.cj (fun _ h => h) ((pc_last hq (by omega)).trans rfl))) (v' := .int .i64 (q.2.2)) rfl) ?_
        refine ja rfl (by omega) ?_
        refine jl_q rfl rfl (qIdxS rfl rfl rfl rfl (by omega)) ?_
        refine jl_q rfl rfl (qFieldAddr rfl rfl rfl rfl rfl) ?_
        refine jl_s rfl (hStoreOwn (R := R) rfl rfl rfl rfl rfl rfl hown rfl (by omega)) ?_; rintro _ _ _ ⟨rfl, R3, rfl, hown3⟩
        refine jl_nil ?_
        refine jB ?_
        refine jT ?_
        refine jc_region ?_
        refine jp rfl ?_
        refine jl_q rfl rfl (qEq (qA rfl rfl rfl rfl rfl (by omega)) (v' := .int .i64 (a + (k + 1 : Nat))) (by rw [show a + (k : Int) + 1 = a + (k + 1 : Nat) by omega])) ?_
        refine jp rfl ?_
        refine jl_nil ?_
        refine j_again (k + 1, _, R3) (Keep.cons (t := 0) rfl (Keep.cons (t := 1) rfl (Keep.cons (t := 5) rfl (Keep.cons (t := 6) rfl Keep.nil)))) ⟨by show ((k + 1 : Nat) : Int) ≤ n; omega, ?_⟩ (by show n.toNat - (k + 1) < n.toNat - k; omega) (fun _ h => h.fewer (by first | exact List.Sublist.refl _ | exact List.sublist_append_left _ _ | simp))
        show Own _ R3 PT 3 (cutTo a ((k + 1 : Nat) : Int) 32).length ((cutTo a ((k + 1 : Nat) : Int) 32).flatMap pcells)
        rw [show ((k + 1 : Nat) : Int) = (k : Int) + 1 by omega]
        exact own_same hown3 hq (step_same h1 (by omega) hq (by simpa using hb))
  · refine jl_nil ?_
    refine jT ?_
    refine jc_no rfl ?_
    refine jc_exit ?_
    refine jTx ?_
    refine jTx ?_
    refine jBx ?_
    refine jT ?_
    refine jc_seq ?_
    refine jc_region ?_
    iterate 2 refine jp rfl ?_
    refine jl_nil ?_
    refine jT ?_
    refine jc_ret ?_
    refine jr1 rfl rfl ?_
    obtain rfl : n = k := by omega
    exact hown

end Go.Proofs.Ytjmkgfamonallaa
