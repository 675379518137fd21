/- Walks: superblocks read. -/
import Derived.Test.YtjdmhbenpeedeaaGreatRnd
namespace Go.Proofs.YtjdmhbenpeedeaaGreat
set_option linter.unusedVariables false
set_option linter.unusedSimpArgs false
open Go.RowKit

def gt2 (xs : List By) (a : Nat) : Int := if a + 2 ≤ xs.length then getN xs a 2 else 0
def ge2 (xs : List By) (a : Nat) : Int := if a + 2 ≤ xs.length then 0 else 8
theorem ge2_cases (xs : List By) (a : Nat) : (ge2 xs a = 0 ∧ a + 2 ≤ xs.length ∧ gt2 xs a = getN xs a 2) ∨ (ge2 xs a = 8 ∧ ¬ a + 2 ≤ xs.length) := by
  unfold ge2 gt2
  by_cases h : a + 2 ≤ xs.length
  · rw [if_pos h, if_pos h]; exact .inl ⟨rfl, h, rfl⟩
  · rw [if_neg h]; exact .inr ⟨rfl, h⟩
theorem gtwo_any (sa : Option Addr) (c : Nat) (xs : List By) (a : Nat) (M : Mem) (hs : SM M sa (bcells xs)) (hc : xs.length ≤ c) (ha : a ≤ 1000) (hn : xs.length ≤ 1000000) (ai : Int) (hai : ai = (a : Int)) :
    SpecL Tryz.prog 75 #[.slice sa xs.length c, .int .i64 ai] M [] fun v _ _ => v = .tuple #[.int .i64 (gt2 xs a), .int .i64 (ge2 xs a)] := by
  subst hai
  unfold gt2 ge2
  by_cases h : a + 2 ≤ xs.length
  · rw [if_pos h, if_pos h]; exact getTwo_spec sa c xs a M hs hc h hn
  · rw [if_neg h, if_neg h]; exact getTwo_bad sa c xs a M hn h ha
def dsu (xs : List By) (k : Nat) : List Int := (List.range k).map fun i => getN (xs.drop 4) (15 + 2 * i) 2
theorem dsu_step (xs : List By) (k : Nat) : dsu xs (k + 1) = dsu xs k ++ [getN (xs.drop 4) (15 + 2 * k) 2] := by
  unfold dsu; rw [List.range_succ, List.map_append]; rfl
theorem rsu_dead (xs : List By) : (rsu xs).dead = dsu xs (suNo xs) := rfl
theorem dsu_len (xs : List By) (k : Nat) : (dsu xs k).length = k := by simp [dsu]
theorem rsu_len (xs : List By) : (rsu xs).dead.length = suNo xs := dsu_len _ _
/-- a block that is read as a superblock -/
def RdP (xs : List By) (u : Value) (M' : Mem) : Prop := ∃ x dv e, u = .tuple #[.agg (suc x dv).toArray, .int .i64 e] ∧ ((e = 0 ∧ suIs xs ∧ x = rsu xs ∧ NI M' dv x.dead) ∨ (e ≠ 0 ∧ ¬ suIs xs ∧ dv = .slice none 0 0))
theorem RwP.form {x : Su} {u : Value} {M' : Mem} (h : if suOk x then ∃ s, u = .tuple #[s, .int .i64 0] ∧ BS M' s (suB x) else u = .tuple #[.slice none 0 0, .int .i64 8]) :
    ∃ a n c e, u = .tuple #[.slice a n c, .int .i64 e] ∧ ((e = 0 ∧ suOk x ∧ BS M' (.slice a n c) (suB x)) ∨ (e ≠ 0 ∧ ¬ suOk x)) := by
  split at h
  · rename_i hok
    obtain ⟨s, rfl, a, c, rfl, h1, h2⟩ := h
    exact ⟨a, _, c, 0, rfl, .inl ⟨rfl, hok, a, c, rfl, h1, h2⟩⟩
  · rename_i hno
    exact ⟨none, 0, 0, 8, h, .inr ⟨by decide, hno⟩⟩
theorem suIs_no {xs : List By} (h : openE xs ≠ 0) : ¬ suIs xs := fun k => h k.1

theorem openE_len {xs : List By} (h : openE xs = 0) : xs.length = 128 := by
  unfold openE at h
  split at h
  · cases h
  · omega

set_option maxHeartbeats 2000000 in
theorem rread_walk (xs : List By) (xa : Option Addr) (xc : Nat) (M : Mem) (hv : BS M (.slice xa xs.length xc) xs) :
    SpecL Tryz.prog 40 #[.slice xa xs.length xc] M [] fun u M' L' => RdP xs u M' ∧ L' = [] := by
  refine spec_body (vs := [_]) 83 _ Tryz.func40 rfl Tryz.ntmps40 rfl rfl ?_; intro W
  refine jc_seq ?_
  refine jc_region ?_
  refine jl_h rfl rfl (hAlloc rfl rfl) ?_; rintro _ _ _ ⟨b2, rfl, rfl, rfl⟩
  refine jp rfl ?_
  refine jl_nil ?_
  refine jT ?_
  refine jc_seq ?_
  refine jc_region ?_
  refine jp rfl ?_
  refine jl_h rfl rfl (hCall rfl rfl rfl rfl rfl (by kernel_rfl) (open_spec _ xs M hv)) ?_; rintro _ M1 _ ⟨hM1, _, rfl, ⟨s, rfl, hs, rfl⟩⟩
  simp only [List.nil_append]
  iterate 5 refine jp rfl ?_
  refine jl_nil ?_
  refine jT ?_
  refine jc_seq ?_
  refine jc_seq ?_
  refine jc_region ?_
  refine jp rfl ?_
  refine js rfl (fun h16 => ?_) (fun h16 => ?_)
  · refine jl_nil ?_
    refine jT ?_
    refine jc_yes rfl ?_
    refine jc_seq ?_
    refine jc_region ?_
    refine jl_q rfl rfl (qBuild (cs := [_, _, _, _, _]) rfl rfl rfl (by rfl)) ?_
    refine jp rfl ?_
    refine jl_s rfl (hStoreL rfl rfl rfl rfl rfl rfl rfl rfl (by first | (simp only [Nat.reduceAdd, Nat.zero_add, Nat.add_zero, List.drop_succ_cons, List.drop_zero, List.drop_nil, List.take_succ_cons, List.take_zero, List.take_nil, List.cons_append, List.nil_append, List.append_nil, List.length_cons, List.length_nil]; try rfl) | rfl)) ?_; rintro _ _ _ ⟨rfl, rfl⟩
    refine jp rfl ?_
    refine jl_nil ?_
    refine jT ?_
    refine jc_ret ?_
    refine jTr ?_
    refine jrsd (rs := [_, _]) ([]) (by exact List.nil_sublist _) rfl (.cons (.agg rfl rfl rfl) (.cons (.tmp rfl) .nil)) ?_
    exact ⟨⟨⟨0, 0, 0, 0, []⟩, _, openE xs, rfl, .inr ⟨h16, suIs_no h16, rfl⟩⟩, rfl⟩
  · refine jl_nil ?_
    refine jT ?_
    refine jc_no rfl ?_
    refine jc_skip ?_
    refine jT ?_
    refine jc_seq ?_
    refine jc_region ?_
    refine jp rfl ?_
    have hoe : openE xs = 0 := Classical.not_not.1 h16
    have hxl : xs.length = 128 := openE_len hoe
    obtain ⟨sa, sc, rfl, hsc, hss⟩ := hs hoe
    have hbl : (xs.drop 4).length = 124 := by rw [List.length_drop]; omega
    obtain ⟨sb, so, e0, hx⟩ := hss.open (by intro e; have := congrArg List.length e; rw [bcells_len, List.length_nil] at this; omega)
    subst e0
    have hno : ((xs.drop 4).getD 14 0).toNat = suNo xs := by unfold suNo; simp [List.getD, List.getElem?_drop]
    have hlt := ((xs.drop 4).getD 14 0).toNat_lt
    refine jl_q rfl rfl (qCall rfl rfl rfl rfl rfl (by kernel_rfl) (getFour_spec _ sc (xs.drop 4) 0 M1 hss hsc (by omega) (by omega))) ?_
    iterate 3 refine jp rfl ?_
    refine jl_q rfl rfl (qFieldAddr rfl rfl rfl rfl rfl) ?_
    refine jl_s rfl (hStoreL rfl rfl rfl rfl rfl rfl rfl rfl (by first | (simp only [Nat.reduceAdd, Nat.zero_add, Nat.add_zero, List.drop_succ_cons, List.drop_zero, List.drop_nil, List.take_succ_cons, List.take_zero, List.take_nil, List.cons_append, List.nil_append, List.append_nil, List.length_cons, List.length_nil]; try rfl) | rfl)) ?_; rintro _ _ _ ⟨rfl, rfl⟩
    refine jl_nil ?_
    refine jT ?_
    refine jc_seq ?_
    refine jc_region ?_
    refine jp rfl ?_
    refine jl_q rfl rfl (qCall rfl rfl rfl rfl rfl (by kernel_rfl) (getTwo_spec _ sc (xs.drop 4) 4 M1 hss hsc (by omega) (by omega))) ?_
    iterate 3 refine jp rfl ?_
    refine jl_q rfl rfl (qFieldAddr rfl rfl rfl rfl rfl) ?_
    refine jl_s rfl (hStoreL rfl rfl rfl rfl rfl rfl rfl rfl (by first | (simp only [Nat.reduceAdd, Nat.zero_add, Nat.add_zero, List.drop_succ_cons, List.drop_zero, List.drop_nil, List.take_succ_cons, List.take_zero, List.take_nil, List.cons_append, List.nil_append, List.append_nil, List.length_cons, List.length_nil]; try rfl) | rfl)) ?_; rintro _ _ _ ⟨rfl, rfl⟩
    refine jl_nil ?_
    refine jT ?_
    refine jc_seq ?_
    refine jc_region ?_
    refine jp rfl ?_
    refine jl_q rfl rfl (qCall rfl rfl rfl rfl rfl (by kernel_rfl) (getFour_spec _ sc (xs.drop 4) 6 M1 hss hsc (by omega) (by omega))) ?_
    iterate 3 refine jp rfl ?_
    refine jl_q rfl rfl (qFieldAddr rfl rfl rfl rfl rfl) ?_
    refine jl_s rfl (hStoreL rfl rfl rfl rfl rfl rfl rfl rfl (by first | (simp only [Nat.reduceAdd, Nat.zero_add, Nat.add_zero, List.drop_succ_cons, List.drop_zero, List.drop_nil, List.take_succ_cons, List.take_zero, List.take_nil, List.cons_append, List.nil_append, List.append_nil, List.length_cons, List.length_nil]; try rfl) | rfl)) ?_; rintro _ _ _ ⟨rfl, rfl⟩
    refine jl_nil ?_
    refine jT ?_
    refine jc_seq ?_
    refine jc_region ?_
    refine jp rfl ?_
    refine jl_q rfl rfl (qCall rfl rfl rfl rfl rfl (by kernel_rfl) (getFour_spec _ sc (xs.drop 4) 10 M1 hss hsc (by omega) (by omega))) ?_
    iterate 3 refine jp rfl ?_
    refine jl_q rfl rfl (qFieldAddr rfl rfl rfl rfl rfl) ?_
    refine jl_s rfl (hStoreL rfl rfl rfl rfl rfl rfl rfl rfl (by first | (simp only [Nat.reduceAdd, Nat.zero_add, Nat.add_zero, List.drop_succ_cons, List.drop_zero, List.drop_nil, List.take_succ_cons, List.take_zero, List.take_nil, List.cons_append, List.nil_append, List.append_nil, List.length_cons, List.length_nil]; try rfl) | rfl)) ?_; rintro _ _ _ ⟨rfl, rfl⟩
    refine jl_nil ?_
    refine jT ?_
    refine jc_seq ?_
    refine jc_seq ?_
    refine jc_region ?_
    refine jp rfl ?_
    refine jl_q rfl rfl (qIdxS rfl rfl rfl rfl (by omega)) ?_
    refine jl_q rfl rfl (qLd rfl rfl rfl rfl ((hx ((14 : Int).toNat * 1) _ (bget (j := 14) (by omega))).cj _)) ?_
    refine jl_q rfl rfl (qEq (qConv64 rfl rfl rfl (by omega)) (v' := .int .i64 (suNo xs)) (by rw [hno])) ?_
    refine jp rfl ?_
    refine jl_nil ?_
    refine jT ?_
    refine jc_block ?_
    refine jc_loopK (α := Nat × Lc × Value) (fun y => [(0, .slice xa xs.length xc), (2, .pointer (some ⟨b2, 0, none⟩)), (4, .slice (some ⟨sb, so, none⟩) (xs.drop 4).length sc), (46, .int .i64 (suNo xs)), (47, .int .i64 y.1)]) (fun _ => M1) (fun y => y.2.1 ++ [(b2, .cells (suc ⟨getN (xs.drop 4) 0 4, getN (xs.drop 4) 4 2, getN (xs.drop 4) 6 4, getN (xs.drop 4) 10 4, []⟩ y.2.2).toArray TSu (0, 0))]) (fun y => y.1 ≤ suNo xs ∧ 15 + 2 * y.1 ≤ 124 ∧ Own y.2.2 y.2.1 3 1 y.1 (icells (dsu xs y.1))) (fun y => suNo xs - y.1)
      (0, [], .slice none 0 0) (Keep.cons (t := 0) rfl (Keep.cons (t := 2) rfl (Keep.cons (t := 4) rfl (Keep.cons (t := 46) rfl (Keep.cons (t := 47) rfl Keep.nil))))) ⟨Nat.zero_le _, by decide, Own.nil _ _⟩ (fun _ h => h) ?_
    rintro ⟨k, R, s⟩ ⟨hk, hk2, hown⟩
    try dsimp only at hk hk2 hown ⊢
    obtain ⟨a1, c1, rfl⟩ := hown.form
    refine jc_seq ?_
    refine jc_region ?_
    refine js rfl (fun h48 => ?_) (fun h48 => ?_)
    · refine jl_nil ?_
      refine jT ?_
      refine jc_seq ?_
      refine jc_yes rfl ?_
      refine jc_skip ?_
      refine jT ?_
      refine jc_seq ?_
      refine jc_block ?_
      refine jc_seq ?_
      refine jc_region ?_
      iterate 2 refine jp rfl ?_
      refine jl_nil ?_
      refine jT ?_
      refine jc_seq ?_
      refine jc_region ?_
      iterate 2 refine jp rfl ?_
      refine ja rfl (by omega) ?_
      refine ja rfl (by omega) ?_
      refine jl_q rfl rfl (qCall rfl rfl rfl rfl rfl (by kernel_rfl) (gtwo_any _ sc (xs.drop 4) (15 + 2 * k) M1 hss hsc (by omega) (by omega) _ (by omega))) ?_
      iterate 5 refine jp rfl ?_
      refine jl_nil ?_
      refine jT ?_
      refine jc_seq ?_
      refine jc_seq ?_
      refine jc_region ?_
      refine jp rfl ?_
      refine js rfl (fun h59 => ?_) (fun h59 => ?_)
      · refine jl_nil ?_
        refine jT ?_
        refine jc_yes rfl ?_
        refine jc_seq ?_
        refine jc_region ?_
        refine jl_q rfl rfl (qBuild (cs := [_, _, _, _, _]) rfl rfl rfl (by rfl)) ?_
        refine jl_s rfl (hStoreL rfl rfl rfl rfl rfl rfl rfl rfl (by first | (simp only [Nat.reduceAdd, Nat.zero_add, Nat.add_zero, List.drop_succ_cons, List.drop_zero, List.drop_nil, List.take_succ_cons, List.take_zero, List.take_nil, List.cons_append, List.nil_append, List.append_nil, List.length_cons, List.length_nil]; try rfl) | rfl)) ?_; rintro _ _ _ ⟨rfl, rfl⟩
        refine jp rfl ?_
        refine jl_nil ?_
        refine jT ?_
        refine jc_ret ?_
        refine jTr ?_
        refine jBr ?_
        refine jTr ?_
        refine jTr ?_
        refine jBr ?_
        refine jTr ?_
        refine jrsd (rs := [_, _]) ([]) (by exact List.nil_sublist _) rfl (.cons (.agg rfl rfl rfl) (.cons (.tmp rfl) .nil)) ?_
        first | (refine ⟨⟨⟨0, 0, 0, 0, []⟩, .slice none 0 0, 8, rfl, .inr ⟨by decide, fun h => (by have h1 := h.2.1; have hg := ge2_cases (xs.drop 4) (15 + 2 * k); omega), rfl⟩⟩, rfl⟩; done) | (refine ⟨⟨⟨0, 0, 0, 0, []⟩, .slice none 0 0, 8, rfl, .inr ⟨by decide, fun h => (by rcases hwf with ⟨h1, _⟩ | ⟨_, h1⟩; exact h74 h1; exact h1 h.2.2.1), rfl⟩⟩, rfl⟩; done) | (refine ⟨⟨⟨0, 0, 0, 0, []⟩, .slice none 0 0, 8, rfl, .inr ⟨by decide, fun h => (by exact (of_decide_eq_false h78) h.2.2.2), rfl⟩⟩, rfl⟩; done) | (refine ⟨⟨rsu xs, .slice a1 (suNo xs) c1, 0, rfl, .inl ⟨rfl, ⟨hoe, hk2, hok, of_decide_eq_true h78⟩, rfl, a1, c1, by rw [rsu_len], by rw [rsu_len]; exact hdc, hds.mono hM3⟩⟩, rfl⟩; done)
      · refine jl_nil ?_
        refine jT ?_
        refine jc_no rfl ?_
        refine jc_skip ?_
        refine jT ?_
        refine jc_region ?_
        refine jl_q rfl rfl (qFieldAddr rfl rfl rfl rfl rfl) ?_
        refine jl_q rfl rfl (qLd rfl rfl rfl rfl (CJ.loc rfl)) ?_
        refine jp rfl ?_
        refine jl_h rfl rfl (hBuildSlice (cs := [_]) rfl rfl rfl (by rfl) (by rfl) (by rfl)) ?_; rintro _ _ _ ⟨b64, rfl, rfl, rfl⟩
        refine jl_h rfl rfl (hAppend (R := R) (m := 1) rfl rfl rfl rfl hown rfl (fun i v hv => CJ.loc (by simpa using hv)) rfl (by rfl) (by simp [Value.oneCell']) (by omega) (by omega)) ?_; rintro s2 _ _ ⟨rfl, R2, rfl, hown2, _⟩
        obtain ⟨a2, c2, rfl⟩ := hown2.form
        refine jl_q rfl rfl (qFieldAddr rfl rfl rfl rfl rfl) ?_
        refine jl_s rfl (hStoreL rfl rfl rfl rfl rfl rfl rfl rfl (by first | (simp only [Nat.reduceAdd, Nat.zero_add, Nat.add_zero, List.drop_succ_cons, List.drop_zero, List.drop_nil, List.take_succ_cons, List.take_zero, List.take_nil, List.cons_append, List.nil_append, List.append_nil, List.length_cons, List.length_nil]; try rfl) | rfl)) ?_; rintro _ _ _ ⟨rfl, rfl⟩
        refine jl_nil ?_
        refine jB ?_
        refine jT ?_
        refine jc_region ?_
        refine ja rfl (by omega) ?_
        refine jp rfl ?_
        refine jl_nil ?_
        have hg := ge2_cases (xs.drop 4) (15 + 2 * k)
        have hg2 : 15 + 2 * k + 2 ≤ (xs.drop 4).length ∧ gt2 (xs.drop 4) (15 + 2 * k) = getN (xs.drop 4) (15 + 2 * k) 2 := by
          rcases hg with ⟨_, h1, h2⟩ | ⟨h1, _⟩
          · exact ⟨h1, h2⟩
          · exact absurd h1 (by omega)
        refine j_again (k + 1, R2, .slice a2 (k + 1) c2) (Keep.cons (t := 0) rfl (Keep.cons (t := 2) rfl (Keep.cons (t := 4) rfl (Keep.cons (t := 46) rfl (Keep.cons (t := 47) rfl Keep.nil))))) ⟨by show k + 1 ≤ suNo xs; omega, by show 15 + 2 * (k + 1) ≤ 124; omega, by show Own _ _ _ _ _ (icells (dsu xs (k + 1))); rw [dsu_step, ← hg2.2]; simpa [icells] using hown2⟩ (by show suNo xs - (k + 1) < suNo xs - k; omega) (fun _ h => h.fewer (.append (List.Sublist.refl _) (.cons _ (List.Sublist.refl _))))
    · refine jl_nil ?_
      refine jT ?_
      refine jc_seq ?_
      refine jc_no rfl ?_
      refine jc_exit ?_
      refine jTx ?_
      refine jTx ?_
      refine jBx ?_
      refine jT ?_
      refine jc_seq ?_
      refine jc_seq ?_
      refine jc_region ?_
      refine jl_q rfl rfl (qLdL rfl rfl rfl rfl rfl (by first | (simp only [Nat.reduceAdd, Nat.zero_add, Nat.add_zero, List.drop_succ_cons, List.drop_zero, List.drop_nil, List.take_succ_cons, List.take_zero, List.take_nil, List.cons_append, List.nil_append, List.append_nil, List.length_cons, List.length_nil]; try rfl) | rfl)) ?_
      obtain rfl : k = suNo xs := by omega
      refine jl_own hown (by simp) ?_
      intro M2 da dc hM2 ed hdc hds; cases ed
      refine jl_h rfl rfl (hCall rfl rfl rfl rfl rfl (by kernel_rfl) (by have h1 := rwrite_spec (rsu xs) a1 c1 M2 (by rw [rsu_len]; exact hdc) (by rw [rsu_dead]; exact hds) (by rw [rsu_len]; omega); rw [rsu_len] at h1; exact h1)) ?_; rintro _ M3 _ ⟨hM3, _, rfl, ⟨hw, rfl⟩⟩
      simp only [List.nil_append]
      obtain ⟨wa, wn, wc, we, rfl, hwf⟩ := RwP.form hw
      iterate 5 refine jp rfl ?_
      refine jl_nil ?_
      refine jT ?_
      refine jc_seq ?_
      refine jc_region ?_
      refine jp rfl ?_
      refine js rfl (fun h74 => ?_) (fun h74 => ?_)
      · iterate 6 refine jp rfl ?_
        refine jl_nil ?_
        refine jT ?_
        refine jc_yes rfl ?_
        refine jc_seq ?_
        refine jc_region ?_
        refine jl_q rfl rfl (qBuild (cs := [_, _, _, _, _]) rfl rfl rfl (by rfl)) ?_
        refine jl_s rfl (hStoreL rfl rfl rfl rfl rfl rfl rfl rfl (by first | (simp only [Nat.reduceAdd, Nat.zero_add, Nat.add_zero, List.drop_succ_cons, List.drop_zero, List.drop_nil, List.take_succ_cons, List.take_zero, List.take_nil, List.cons_append, List.nil_append, List.append_nil, List.length_cons, List.length_nil]; try rfl) | rfl)) ?_; rintro _ _ _ ⟨rfl, rfl⟩
        refine jp rfl ?_
        refine jl_nil ?_
        refine jT ?_
        refine jc_ret ?_
        refine jTr ?_
        refine jrsd (rs := [_, _]) ([]) (by exact List.nil_sublist _) rfl (.cons (.agg rfl rfl rfl) (.cons (.tmp rfl) .nil)) ?_
        first | (refine ⟨⟨⟨0, 0, 0, 0, []⟩, .slice none 0 0, 8, rfl, .inr ⟨by decide, fun h => (by have h1 := h.2.1; have hg := ge2_cases (xs.drop 4) (15 + 2 * k); omega), rfl⟩⟩, rfl⟩; done) | (refine ⟨⟨⟨0, 0, 0, 0, []⟩, .slice none 0 0, 8, rfl, .inr ⟨by decide, fun h => (by rcases hwf with ⟨h1, _⟩ | ⟨_, h1⟩; exact h74 h1; exact h1 h.2.2.1), rfl⟩⟩, rfl⟩; done) | (refine ⟨⟨⟨0, 0, 0, 0, []⟩, .slice none 0 0, 8, rfl, .inr ⟨by decide, fun h => (by exact (of_decide_eq_false h78) h.2.2.2), rfl⟩⟩, rfl⟩; done) | (refine ⟨⟨rsu xs, .slice a1 (suNo xs) c1, 0, rfl, .inl ⟨rfl, ⟨hoe, hk2, hok, of_decide_eq_true h78⟩, rfl, a1, c1, by rw [rsu_len], by rw [rsu_len]; exact hdc, hds.mono hM3⟩⟩, rfl⟩; done)
      · iterate 3 refine jp rfl ?_
        obtain ⟨_, hok, hwb⟩ | ⟨h1, _⟩ := hwf
        rotate_left
        · exact absurd (Classical.not_not.1 h74) h1
        refine jl_qb rfl rfl (qCall rfl rfl rfl rfl rfl (by kernel_rfl) (equal_spec _ _ (suB (rsu xs)) xs M3 hwb (hv.mono ((hM1.trans hM2).trans hM3)))) (fun h78 => ?_) (fun h78 => ?_)
        · iterate 2 refine jp rfl ?_
          refine jl_nil ?_
          refine jT ?_
          refine jc_no rfl ?_
          refine jc_skip ?_
          refine jT ?_
          refine jc_seq ?_
          refine jc_region ?_
          refine jl_q rfl rfl (qLdL rfl rfl rfl rfl rfl (by first | (simp only [Nat.reduceAdd, Nat.zero_add, Nat.add_zero, List.drop_succ_cons, List.drop_zero, List.drop_nil, List.take_succ_cons, List.take_zero, List.take_nil, List.cons_append, List.nil_append, List.append_nil, List.length_cons, List.length_nil]; try rfl) | rfl)) ?_
          refine jl_s rfl (hStoreL rfl rfl rfl rfl rfl rfl rfl rfl (by first | (simp only [Nat.reduceAdd, Nat.zero_add, Nat.add_zero, List.drop_succ_cons, List.drop_zero, List.drop_nil, List.take_succ_cons, List.take_zero, List.take_nil, List.cons_append, List.nil_append, List.append_nil, List.length_cons, List.length_nil]; try rfl) | rfl)) ?_; rintro _ _ _ ⟨rfl, rfl⟩
          refine jp rfl ?_
          refine jl_nil ?_
          refine jT ?_
          refine jc_ret ?_
          refine jrsd (rs := [_, _]) ([]) (by exact List.nil_sublist _) rfl (.cons (.agg rfl rfl rfl) (.cons (.tmp rfl) .nil)) ?_
          first | (refine ⟨⟨⟨0, 0, 0, 0, []⟩, .slice none 0 0, 8, rfl, .inr ⟨by decide, fun h => (by have h1 := h.2.1; have hg := ge2_cases (xs.drop 4) (15 + 2 * k); omega), rfl⟩⟩, rfl⟩; done) | (refine ⟨⟨⟨0, 0, 0, 0, []⟩, .slice none 0 0, 8, rfl, .inr ⟨by decide, fun h => (by rcases hwf with ⟨h1, _⟩ | ⟨_, h1⟩; exact h74 h1; exact h1 h.2.2.1), rfl⟩⟩, rfl⟩; done) | (refine ⟨⟨⟨0, 0, 0, 0, []⟩, .slice none 0 0, 8, rfl, .inr ⟨by decide, fun h => (by exact (of_decide_eq_false h78) h.2.2.2), rfl⟩⟩, rfl⟩; done) | (refine ⟨⟨rsu xs, .slice a1 (suNo xs) c1, 0, rfl, .inl ⟨rfl, ⟨hoe, hk2, hok, of_decide_eq_true h78⟩, rfl, a1, c1, by rw [rsu_len], by rw [rsu_len]; exact hdc, hds.mono hM3⟩⟩, rfl⟩; done)
        · iterate 2 refine jp rfl ?_
          refine jl_nil ?_
          refine jT ?_
          refine jc_yes rfl ?_
          refine jc_seq ?_
          refine jc_region ?_
          refine jl_q rfl rfl (qBuild (cs := [_, _, _, _, _]) rfl rfl rfl (by rfl)) ?_
          refine jl_s rfl (hStoreL rfl rfl rfl rfl rfl rfl rfl rfl (by first | (simp only [Nat.reduceAdd, Nat.zero_add, Nat.add_zero, List.drop_succ_cons, List.drop_zero, List.drop_nil, List.take_succ_cons, List.take_zero, List.take_nil, List.cons_append, List.nil_append, List.append_nil, List.length_cons, List.length_nil]; try rfl) | rfl)) ?_; rintro _ _ _ ⟨rfl, rfl⟩
          refine jp rfl ?_
          refine jl_nil ?_
          refine jT ?_
          refine jc_ret ?_
          refine jTr ?_
          refine jrsd (rs := [_, _]) ([]) (by exact List.nil_sublist _) rfl (.cons (.agg rfl rfl rfl) (.cons (.tmp rfl) .nil)) ?_
          first | (refine ⟨⟨⟨0, 0, 0, 0, []⟩, .slice none 0 0, 8, rfl, .inr ⟨by decide, fun h => (by have h1 := h.2.1; have hg := ge2_cases (xs.drop 4) (15 + 2 * k); omega), rfl⟩⟩, rfl⟩; done) | (refine ⟨⟨⟨0, 0, 0, 0, []⟩, .slice none 0 0, 8, rfl, .inr ⟨by decide, fun h => (by rcases hwf with ⟨h1, _⟩ | ⟨_, h1⟩; exact h74 h1; exact h1 h.2.2.1), rfl⟩⟩, rfl⟩; done) | (refine ⟨⟨⟨0, 0, 0, 0, []⟩, .slice none 0 0, 8, rfl, .inr ⟨by decide, fun h => (by exact (of_decide_eq_false h78) h.2.2.2), rfl⟩⟩, rfl⟩; done) | (refine ⟨⟨rsu xs, .slice a1 (suNo xs) c1, 0, rfl, .inl ⟨rfl, ⟨hoe, hk2, hok, of_decide_eq_true h78⟩, rfl, a1, c1, by rw [rsu_len], by rw [rsu_len]; exact hdc, hds.mono hM3⟩⟩, rfl⟩; done)


theorem rread_spec (xs : List By) (v : Value) (M : Mem) (h : BS M v xs) : SpecL Tryz.prog 40 #[v] M [] fun u M' L' => RdP xs u M' ∧ L' = [] := by
  obtain ⟨a, c, rfl, _⟩ := id h
  exact rread_walk xs a c M h
theorem RdP.form {xs : List By} {u : Value} {M' : Mem} (h : RdP xs u M') : ∃ x da dn dc e, u = .tuple #[.agg (suc x (.slice da dn dc)).toArray, .int .i64 e] ∧ ((e = 0 ∧ suIs xs ∧ x = rsu xs ∧ NI M' (.slice da dn dc) x.dead) ∨ (e ≠ 0 ∧ ¬ suIs xs)) := by
  obtain ⟨x, dv, e, rfl, ⟨h1, h2, h3, h4⟩ | ⟨h1, h2, rfl⟩⟩ := h
  · obtain ⟨a, c, rfl, _⟩ := id h4
    exact ⟨x, a, _, c, e, rfl, .inl ⟨h1, h2, h3, h4⟩⟩
  · exact ⟨x, none, 0, 0, e, rfl, .inr ⟨h1, h2⟩⟩
end Go.Proofs.YtjdmhbenpeedeaaGreat
