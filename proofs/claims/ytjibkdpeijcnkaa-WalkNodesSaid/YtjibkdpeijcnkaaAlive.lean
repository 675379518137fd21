/- Walks: the example that each statement begins with. -/
import Derived.Test.YtjibkdpeijcnkaaMake
import Derived.Test.YtjibkdpeijcnkaaRange
namespace Go.Proofs.Ytjibkdpeijcnkaa
set_option linter.unusedVariables false
set_option linter.unusedSimpArgs false
open Go.RowKit

theorem dmake_spec (s : Sto) (v sl : Value) (lv : Int) (xs : List It) (M : Mem) (hv : ST M v s) (hn : NS M sl xs) (hkd : ∀ x ∈ xs, 0 ≤ x.key.kind ∧ x.key.kind < 256) (hst : stOk s) (hok : ndOk lv xs = true) (hsh : shOk s xs) (hat : mkAt (shareL s xs) < 256) (hwl : s.waits.length < 4096) :
    SpecL Try.prog 28 #[v, .agg #[.int .i64 lv, sl]] M [] fun u M' L' => (∃ v, u = .tuple #[v, .int .i64 (mkAt (shareL s xs)), .int .i64 0] ∧ ST M' v (mkS s lv xs)) ∧ L' = [] := by
  obtain ⟨b, w, n, l, rfl, h1, ⟨wa, wc, wps, rfl, hwc, hws, hwp, hwb⟩, h3, h4⟩ := hv.ex
  obtain ⟨a, c, ps, rfl, hc, hs, hp, hb⟩ := hn
  exact dmake_walk s b n l wa wc lv xs a c ps M h1 wps hwc hws hwp hwb h3 h4 hc hs hp hb hkd hst hok hsh hat hwl
def kyOf (n : Int) : Ky := ⟨2, 0, n⟩
def al1 : List It := [⟨kyOf 2, 0, []⟩, ⟨kyOf 4, 0, []⟩]
def al2 : List It := [⟨kyOf 2, 8, []⟩]
def as1 : Sto := mkS st0 0 al1
def as2 : Sto := mkS as1 1 al2
theorem st0_ok : stOk st0 := by decide +kernel
theorem al1_ok : ndOk 0 al1 = true := by decide +kernel
theorem al2_ok : ndOk 1 al2 = true := by decide +kernel
theorem al1_at : mkAt (shareL st0 al1) = 8 := by decide +kernel
theorem al2_at : mkAt (shareL as1 al2) = 9 := by decide +kernel
theorem al1_sh : shOk st0 al1 := by
  intro k hk hr
  match k, hk with
  | 0, _ => exact absurd rfl hr
  | 1, _ => exact absurd rfl hr
theorem al2_sh : shOk as1 al2 := by
  intro k hk hr
  match k, hk with
  | 0, _ => show shareE as1 8 = 0; decide +kernel
theorem as1_ok : stOk as1 := mkS_ok st0_ok al1_ok (by rw [al1_at]; decide) (by decide)
theorem as2_ok : stOk as2 := mkS_ok as1_ok al2_ok (by rw [al2_at]; decide) (by decide +kernel)
theorem alk1 : ∀ x ∈ al1, 0 ≤ x.key.kind ∧ x.key.kind < 256 := by decide
theorem alk2 : ∀ x ∈ al2, 0 ≤ x.key.kind ∧ x.key.kind < 256 := by decide

theorem key_spec (n : Int) (M : Mem) :
    SpecL Try.prog 15 #[.int .u32 n] M [] fun v _ _ => v = .agg (kcells (kyOf n)).toArray := by
  refine spec_body (vs := [_]) 5 _ Try.func15 rfl Try.ntmps15 rfl rfl ?_; intro W
  refine jc_seq ?_
  refine jc_region ?_
  refine jl_h rfl rfl (hAlloc rfl rfl) ?_; rintro _ _ _ ⟨b2, rfl, rfl, rfl⟩
  refine jl_nil ?_
  refine jT ?_
  refine jc_seq ?_
  refine jc_region ?_
  refine jp rfl ?_
  refine jl_q rfl rfl (qBuild (cs := [_, _, _]) rfl rfl rfl (by rfl)) ?_
  refine jl_s rfl (hStoreL rfl rfl rfl rfl rfl rfl rfl rfl (by first | (simp only [Nat.reduceAdd, Nat.zero_add, Nat.add_zero, List.drop_succ_cons, List.drop_zero, List.drop_nil, List.take_succ_cons, List.take_zero, List.take_nil, List.cons_append, List.nil_append, List.append_nil, List.length_cons, List.length_nil]; done) | (simp only [Nat.reduceAdd, Nat.zero_add, Nat.add_zero, List.drop_succ_cons, List.drop_zero, List.drop_nil, List.take_succ_cons, List.take_zero, List.take_nil, List.cons_append, List.nil_append, List.append_nil, List.length_cons, List.length_nil]; rfl) | rfl)) ?_; rintro _ _ _ ⟨rfl, rfl⟩
  refine jl_nil ?_
  refine jT ?_
  refine jc_ret ?_
  refine jrs (rs := [_]) rfl (.cons (.agg rfl rfl rfl) .nil) ?_
  rfl


theorem al_rd8 : ndAt as2 8 = some (0, al1) := by decide +kernel
theorem al_rd9 : ndAt as2 9 = some (1, al2) := by decide +kernel
theorem al_rd9' : ndAt as2 ((9 : Int)).toNat = some (((1 : Nat) : Int), al2) := by decide +kernel
theorem al_tree : treeOk as2 1 al2 := fun _ => by decide +kernel
theorem fchk_val {s : Sto} {root : Int} {lev : Nat} {xs : List It} (h : stOk s) (hr : ¬ (root < 8 ∨ 256 ≤ root)) (hn : ¬ s.now.getD root.toNat 0 = 0) (hnd : ndAt s root.toNat = some ((lev : Int), xs)) (ht : treeOk s lev xs) : fchk s root = ((lev : Int) + 1, 0) := by
  rw [fchk_nd h hr hn, hnd]
  show (if treeOk s ((lev : Int)).toNat xs then _ else _) = _
  rw [if_pos (show treeOk s ((lev : Int)).toNat xs from ht)]
theorem al_chk : (fchk as2 9).2 = 0 := congrArg Prod.snd (fchk_val (lev := 1) as2_ok (by decide) (by decide +kernel) al_rd9' al_tree)
theorem al_rng : rng as2 9 (kyOf 3) (kyOf 9) = [⟨kyOf 4, 0, []⟩] := by decide +kernel

set_option maxHeartbeats 2000000 in
theorem made_spec (M : Mem) :
    SpecL Try.prog 14 #[] M [] fun u M' L' => (∃ v, u = .tuple #[v, .bool true] ∧ ST M' v as2) ∧ L' = [] := by
  refine spec_body (vs := []) 41 _ Try.func14 rfl Try.ntmps14 rfl rfl ?_; intro W
  refine jc_seq ?_
  refine jc_region ?_
  refine jl_h rfl rfl (hAlloc rfl rfl) ?_; rintro _ _ _ ⟨b0, rfl, rfl, rfl⟩
  refine jp rfl ?_
  refine jl_nil ?_
  refine jT ?_
  refine jc_seq ?_
  refine jc_region ?_
  refine jl_h rfl rfl (hCall rfl rfl rfl rfl rfl (by kernel_rfl) (rnew_spec M)) ?_; rintro _ M1 _ ⟨hM1, _, rfl, ⟨hs0, rfl⟩⟩
  obtain ⟨bv0, wv0, nv0, lv0, rfl, f1, f2, f3, f4⟩ := hs0.ex
  obtain ⟨ba0, bc0, bps0, rfl, _⟩ := id f1
  obtain ⟨wa0, wc0, wps0, rfl, _⟩ := id f2
  obtain ⟨na0, nc0, rfl, _⟩ := id f3
  obtain ⟨la0, lc0, rfl, _⟩ := id f4
  refine jl_q rfl rfl (qCall rfl rfl rfl rfl rfl (by kernel_rfl) (key_spec 2 _)) ?_
  refine jl_q rfl rfl (qBuild (cs := [_, _, _, _, _]) rfl rfl rfl (by rfl)) ?_
  refine jl_q rfl rfl (qCall rfl rfl rfl rfl rfl (by kernel_rfl) (key_spec 4 _)) ?_
  refine jl_q rfl rfl (qBuild (cs := [_, _, _, _, _]) rfl rfl rfl (by rfl)) ?_
  refine jl_h rfl rfl (hBuildSlice (cs := [_, _, _, _, _, _, _, _, _, _]) rfl rfl rfl (by rfl) (by rfl) (by rfl)) ?_; rintro _ _ _ ⟨b14, rfl, rfl, rfl⟩
  refine jl_freeze b14 (by simp) ?_
  intro M2 hM2 e2
  have hns1 : NS M2 (.slice (some ⟨b14, 0, none⟩) 2 2) al1 := ⟨_, 2, [(⟨kyOf 2, 0, []⟩, .slice none 0 0), (⟨kyOf 4, 0, []⟩, .slice none 0 0)], rfl, Nat.le_refl _, SM.of_block e2, rfl, fun p hp => by
    simp only [List.mem_cons, List.not_mem_nil, or_false] at hp
    rcases hp with rfl | rfl <;> exact BS.nil⟩
  refine jl_q rfl rfl (qBuild (cs := [_, _]) rfl rfl rfl (by rfl)) ?_
  refine jl_h rfl rfl (hCall rfl rfl rfl rfl rfl (by kernel_rfl) (dmake_spec st0 _ _ 0 al1 M2 (hs0.mono hM2) hns1 alk1 st0_ok al1_ok al1_sh (by rw [al1_at]; decide) (by decide))) ?_; rintro _ M3 _ ⟨hM3, _, rfl, ⟨⟨v16, rfl, hs1⟩, rfl⟩⟩
  obtain ⟨s1, hs1e⟩ : ∃ s, s = mkS st0 0 al1 := ⟨_, rfl⟩
  rw [← hs1e] at hs1
  obtain ⟨bv1, wv1, nv1, lv1, rfl, f1, f2, f3, f4⟩ := hs1.ex
  obtain ⟨ba1, bc1, bps1, rfl, _⟩ := id f1
  obtain ⟨wa1, wc1, wps1, rfl, _⟩ := id f2
  obtain ⟨na1, nc1, rfl, _⟩ := id f3
  obtain ⟨la1, lc1, rfl, _⟩ := id f4
  iterate 4 refine jp rfl ?_
  refine jl_h rfl rfl (hAlloc rfl rfl) ?_; rintro _ _ _ ⟨b2, rfl, rfl, rfl⟩
  refine jl_s rfl (hStoreL rfl rfl rfl rfl rfl rfl rfl rfl (by first | (simp only [Nat.reduceAdd, Nat.zero_add, Nat.add_zero, List.drop_succ_cons, List.drop_zero, List.drop_nil, List.take_succ_cons, List.take_zero, List.take_nil, List.cons_append, List.nil_append, List.append_nil, List.length_cons, List.length_nil]; done) | (simp only [Nat.reduceAdd, Nat.zero_add, Nat.add_zero, List.drop_succ_cons, List.drop_zero, List.drop_nil, List.take_succ_cons, List.take_zero, List.take_nil, List.cons_append, List.nil_append, List.append_nil, List.length_cons, List.length_nil]; rfl) | rfl)) ?_; rintro _ _ _ ⟨rfl, rfl⟩
  iterate 2 refine jp rfl ?_
  refine jl_nil ?_
  refine jT ?_
  refine jc_seq ?_
  obtain ⟨s2, hs2e⟩ : ∃ s, s = mkS s1 1 al2 := ⟨_, rfl⟩
  refine jc_drawA ([(b2, .cells [.slice ba1 s1.blocks.length bc1, .slice wa1 s1.waits.length wc1, .slice na1 s1.now.length nc1, .slice la1 s1.last.length lc1].toArray TSt (0, 0))]) (by kernel_rfl) (fun p hp => by simp at hp ⊢; simp [hp]) ?_
  refine ja_q (i := 0) rfl (by kernel_rfl) (by kernel_rfl) rfl rfl (qLdL rfl rfl rfl rfl rfl (by first | (simp only [Nat.reduceAdd, Nat.zero_add, Nat.add_zero, List.drop_succ_cons, List.drop_zero, List.drop_nil, List.take_succ_cons, List.take_zero, List.take_nil, List.cons_append, List.nil_append, List.append_nil, List.length_cons, List.length_nil]; done) | (simp only [Nat.reduceAdd, Nat.zero_add, Nat.add_zero, List.drop_succ_cons, List.drop_zero, List.drop_nil, List.take_succ_cons, List.take_zero, List.take_nil, List.cons_append, List.nil_append, List.append_nil, List.length_cons, List.length_nil]; rfl) | rfl)) ?_
  refine ja_q (i := 1) rfl (by kernel_rfl) (by kernel_rfl) rfl rfl (qCall rfl rfl rfl rfl rfl (by kernel_rfl) (key_spec 2 _)) ?_
  refine ja_q (i := 2) rfl (by kernel_rfl) (by kernel_rfl) rfl rfl (qBuild (cs := [_, _, _, _, _]) rfl rfl rfl (by rfl)) ?_
  refine ja_merge (α := Mem × Value × Nat) (fun y => MLe M3 y.1 ∧ ST y.1 y.2.1 s2) (fun y => [(0, .pointer (some ⟨b0, 0, none⟩)), (4, .int .i64 0), (5, .pointer (some ⟨y.2.2, 0, none⟩)), (27, y.2.1), (28, .int .i64 (mkAt (shareL s1 al2) : Int)), (29, .int .i64 0)]) (fun y => y.1) (fun y => [(b2, .cells [.slice ba1 s1.blocks.length bc1, .slice wa1 s1.waits.length wc1, .slice na1 s1.now.length nc1, .slice la1 s1.last.length lc1].toArray TSt (0, 0)), (y.2.2, .cells [.slice none 0 0, .slice none 0 0, .slice none 0 0, .slice none 0 0].toArray TSt (0, 0)), (b0, .cells [.slice none 0 0, .slice none 0 0, .slice none 0 0, .slice none 0 0].toArray TSt (0, 0))]) 3 #[true, true, true, true, true, true, true, true, true, true, true, false, false, false] ?_ (fun rest => ?_)
  · rintro ⟨Mr, v27, b5⟩ ⟨hMr, hs2⟩
    try dsimp only at hMr hs2 ⊢
    obtain ⟨bv2, wv2, nv2, lv2, rfl, g1, g2, g3, g4⟩ := hs2.ex
    obtain ⟨ba2, bc2, bps2, rfl, _⟩ := id g1
    obtain ⟨wa2, wc2, wps2, rfl, _⟩ := id g2
    obtain ⟨na2, nc2, rfl, _⟩ := id g3
    obtain ⟨la2, lc2, rfl, _⟩ := id g4
    refine ja_one (i := 11) (by kernel_rfl) ?_
    refine js_s rfl rfl (hStoreL rfl rfl rfl rfl rfl rfl rfl rfl (by first | (simp only [Nat.reduceAdd, Nat.zero_add, Nat.add_zero, List.drop_succ_cons, List.drop_zero, List.drop_nil, List.take_succ_cons, List.take_zero, List.take_nil, List.cons_append, List.nil_append, List.append_nil, List.length_cons, List.length_nil]; done) | (simp only [Nat.reduceAdd, Nat.zero_add, Nat.add_zero, List.drop_succ_cons, List.drop_zero, List.drop_nil, List.take_succ_cons, List.take_zero, List.take_nil, List.cons_append, List.nil_append, List.append_nil, List.length_cons, List.length_nil]; rfl) | rfl)) ?_; rintro _ _ _ ⟨rfl, rfl⟩
    refine ja_grow (hMr) (by simp) ?_
    refine ja_p (i := 12) rfl (by kernel_rfl) (by kernel_rfl) rfl ?_
    refine ja_p (i := 13) rfl (by kernel_rfl) (by kernel_rfl) rfl ?_
    refine ja_end (by kernel_rfl) ?_
    refine jPn ?_
    refine jT ?_
    refine jc_seq ?_
    refine jc_region ?_
    refine jl_q rfl rfl (qLdL rfl rfl rfl rfl rfl (by first | (simp only [Nat.reduceAdd, Nat.zero_add, Nat.add_zero, List.drop_succ_cons, List.drop_zero, List.drop_nil, List.take_succ_cons, List.take_zero, List.take_nil, List.cons_append, List.nil_append, List.append_nil, List.length_cons, List.length_nil]; done) | (simp only [Nat.reduceAdd, Nat.zero_add, Nat.add_zero, List.drop_succ_cons, List.drop_zero, List.drop_nil, List.take_succ_cons, List.take_zero, List.take_nil, List.cons_append, List.nil_append, List.append_nil, List.length_cons, List.length_nil]; rfl) | rfl)) ?_
    refine jp rfl ?_
    refine jt rfl (decide_eq_true (by omega)) ?_
    iterate 2 refine jp rfl ?_
    refine jt rfl (decide_eq_true (by omega)) ?_
    iterate 3 refine jp rfl ?_
    refine jl_q rfl rfl (qEq (qP rfl rfl) (v' := .bool true) (by rw [show mkAt (shareL s1 al2) = 9 by rw [hs1e]; exact al2_at]; rfl)) ?_
    refine jp rfl ?_
    refine jl_s rfl (hStoreL rfl rfl rfl rfl rfl rfl rfl rfl (by first | (simp only [Nat.reduceAdd, Nat.zero_add, Nat.add_zero, List.drop_succ_cons, List.drop_zero, List.drop_nil, List.take_succ_cons, List.take_zero, List.take_nil, List.cons_append, List.nil_append, List.append_nil, List.length_cons, List.length_nil]; done) | (simp only [Nat.reduceAdd, Nat.zero_add, Nat.add_zero, List.drop_succ_cons, List.drop_zero, List.drop_nil, List.take_succ_cons, List.take_zero, List.take_nil, List.cons_append, List.nil_append, List.append_nil, List.length_cons, List.length_nil]; rfl) | rfl)) ?_; rintro _ _ _ ⟨rfl, rfl⟩
    refine jp rfl ?_
    refine jl_nil ?_
    refine jT ?_
    refine jc_ret ?_
    refine jrsd (rs := [_, _]) ([]) (by exact List.nil_sublist _) rfl (.cons (.agg rfl rfl rfl) (.cons (.tmp rfl) .nil)) ?_
    have e2 : s2 = as2 := by rw [hs2e, hs1e]; rfl
    rw [← e2]
    exact ⟨⟨_, rfl, _, _, _, _, rfl, g1, g2, g3, g4⟩, rfl⟩
  refine ja_fork [3, 10] (by kernel_rfl) rfl ⟨?_, ?_, trivial⟩
  · refine js_h rfl rfl rfl (hBuildSlice (cs := [_, _, _, _, _]) rfl rfl rfl (by rfl) (by rfl) (by rfl)) ?_; rintro _ _ _ ⟨b24, rfl, rfl, rfl⟩
    refine ja_grow (MLe.refl _) (by simp) ?_
    refine ja_freeze b24 (by simp) (by simp) ?_
    intro Mb3 hM3 e24
    have hns2 : NS Mb3 (.slice (some ⟨b24, 0, none⟩) 1 1) al2 := ⟨_, 1, [(⟨kyOf 2, 8, []⟩, .slice none 0 0)], rfl, Nat.le_refl _, SM.of_block e24, rfl, fun p hp => by
      rw [List.mem_singleton.1 hp]; exact BS.nil⟩
    refine ja_q (i := 4) rfl (by kernel_rfl) (by kernel_rfl) rfl rfl (qBuild (cs := [_, _]) rfl rfl rfl (by rfl)) ?_
    refine ja_fork [5, 10] (by kernel_rfl) rfl ⟨?_, ?_, trivial⟩
    · refine js_h rfl rfl rfl (hCall rfl rfl rfl rfl rfl (by kernel_rfl) (dmake_spec s1 _ _ 1 al2 Mb3 (hs1.mono hM3) hns2 alk2 (by rw [hs1e]; exact as1_ok) al2_ok (by rw [hs1e]; exact al2_sh) (by rw [hs1e]; exact (al2_at ▸ (by decide) : mkAt (shareL as1 al2) < 256)) (by rw [hs1e]; decide +kernel))) ?_; rintro _ Mb5 _ ⟨hM5, R5, rfl, ⟨v26, rfl, hs2⟩, rfl⟩
      refine ja_grow (hM3.trans hM5) (by simp) ?_
      rw [← hs2e] at hs2
      simp only [List.nil_append]
      refine ja_p (i := 6) rfl (by kernel_rfl) (by kernel_rfl) rfl ?_
      refine ja_p (i := 7) rfl (by kernel_rfl) (by kernel_rfl) rfl ?_
      refine ja_p (i := 8) rfl (by kernel_rfl) (by kernel_rfl) rfl ?_
      refine ja_p (i := 9) rfl (by kernel_rfl) (by kernel_rfl) rfl ?_
      refine ja_fork [10] (by kernel_rfl) rfl ⟨?_, trivial⟩
      · refine js_h rfl rfl rfl (hAlloc rfl rfl) ?_; rintro _ _ _ ⟨b5, rfl, rfl, rfl⟩
        refine ja_grow ((hM3.trans hM5)) (by simp) ?_
        refine ja_cast (listed' := #[true, true, true, true, true, true, true, true, true, true, true, false, false, false]) (by kernel_rfl) (ja_keep (Keep.cons (t := 0) rfl (Keep.cons (t := 4) rfl (Keep.cons (t := 5) rfl (Keep.cons (t := 27) rfl (Keep.cons (t := 28) rfl (Keep.cons (t := 29) rfl Keep.nil)))))) ?_)
        refine ja_weak (M2 := Mb5) (L2 := [(b2, .cells [.slice ba1 s1.blocks.length bc1, .slice wa1 s1.waits.length wc1, .slice na1 s1.now.length nc1, .slice la1 s1.last.length lc1].toArray TSt (0, 0)), (b5, .cells [.slice none 0 0, .slice none 0 0, .slice none 0 0, .slice none 0 0].toArray TSt (0, 0)), (b0, .cells [.slice none 0 0, .slice none 0 0, .slice none 0 0, .slice none 0 0].toArray TSt (0, 0))]) (fun w h => h.perm ((Rm.perm (g := b2)).trans (List.Perm.cons _ (Rm.perm (g := b5))))) (hM3.trans hM5) (by simp) ?_
        exact rest (Mb5, v26, b5) ⟨hM3.trans hM5, hs2⟩
    · refine js_h rfl rfl rfl (hAlloc rfl rfl) ?_; rintro _ _ _ ⟨b5, rfl, rfl, rfl⟩
      refine ja_grow (hM3) (by simp) ?_
      refine ja_fork [5] (by kernel_rfl) rfl ⟨?_, trivial⟩
      · refine js_h rfl rfl rfl (hCall rfl rfl rfl rfl rfl (by kernel_rfl) (dmake_spec s1 _ _ 1 al2 Mb3 (hs1.mono hM3) hns2 alk2 (by rw [hs1e]; exact as1_ok) al2_ok (by rw [hs1e]; exact al2_sh) (by rw [hs1e]; exact (al2_at ▸ (by decide) : mkAt (shareL as1 al2) < 256)) (by rw [hs1e]; decide +kernel))) ?_; rintro _ Mb5 _ ⟨hM5, R5, rfl, ⟨v26, rfl, hs2⟩, rfl⟩
        refine ja_grow (hM3.trans hM5) (by simp) ?_
        rw [← hs2e] at hs2
        simp only [List.nil_append]
        refine ja_p (i := 6) rfl (by kernel_rfl) (by kernel_rfl) rfl ?_
        refine ja_p (i := 7) rfl (by kernel_rfl) (by kernel_rfl) rfl ?_
        refine ja_p (i := 8) rfl (by kernel_rfl) (by kernel_rfl) rfl ?_
        refine ja_p (i := 9) rfl (by kernel_rfl) (by kernel_rfl) rfl ?_
        refine ja_cast (listed' := #[true, true, true, true, true, true, true, true, true, true, true, false, false, false]) (by kernel_rfl) (ja_keep (Keep.cons (t := 0) rfl (Keep.cons (t := 4) rfl (Keep.cons (t := 5) rfl (Keep.cons (t := 27) rfl (Keep.cons (t := 28) rfl (Keep.cons (t := 29) rfl Keep.nil)))))) ?_)
        refine ja_weak (M2 := Mb5) (L2 := [(b2, .cells [.slice ba1 s1.blocks.length bc1, .slice wa1 s1.waits.length wc1, .slice na1 s1.now.length nc1, .slice la1 s1.last.length lc1].toArray TSt (0, 0)), (b5, .cells [.slice none 0 0, .slice none 0 0, .slice none 0 0, .slice none 0 0].toArray TSt (0, 0)), (b0, .cells [.slice none 0 0, .slice none 0 0, .slice none 0 0, .slice none 0 0].toArray TSt (0, 0))]) (fun w h => h.perm ((Rm.perm (g := b2)).trans (List.Perm.cons _ (Rm.perm (g := b5))))) (hM3.trans hM5) (by simp) ?_
        exact rest (Mb5, v26, b5) ⟨hM3.trans hM5, hs2⟩
  · refine js_h rfl rfl rfl (hAlloc rfl rfl) ?_; rintro _ _ _ ⟨b5, rfl, rfl, rfl⟩
    refine ja_grow (MLe.refl _) (by simp) ?_
    refine ja_fork [3] (by kernel_rfl) rfl ⟨?_, trivial⟩
    · refine js_h rfl rfl rfl (hBuildSlice (cs := [_, _, _, _, _]) rfl rfl rfl (by rfl) (by rfl) (by rfl)) ?_; rintro _ _ _ ⟨b24, rfl, rfl, rfl⟩
      refine ja_grow (MLe.refl _) (by simp) ?_
      refine ja_freeze b24 (by simp) (by simp) ?_
      intro Mb3 hM3 e24
      have hns2 : NS Mb3 (.slice (some ⟨b24, 0, none⟩) 1 1) al2 := ⟨_, 1, [(⟨kyOf 2, 8, []⟩, .slice none 0 0)], rfl, Nat.le_refl _, SM.of_block e24, rfl, fun p hp => by
        rw [List.mem_singleton.1 hp]; exact BS.nil⟩
      refine ja_q (i := 4) rfl (by kernel_rfl) (by kernel_rfl) rfl rfl (qBuild (cs := [_, _]) rfl rfl rfl (by rfl)) ?_
      refine ja_fork [5] (by kernel_rfl) rfl ⟨?_, trivial⟩
      · refine js_h rfl rfl rfl (hCall rfl rfl rfl rfl rfl (by kernel_rfl) (dmake_spec s1 _ _ 1 al2 Mb3 (hs1.mono hM3) hns2 alk2 (by rw [hs1e]; exact as1_ok) al2_ok (by rw [hs1e]; exact al2_sh) (by rw [hs1e]; exact (al2_at ▸ (by decide) : mkAt (shareL as1 al2) < 256)) (by rw [hs1e]; decide +kernel))) ?_; rintro _ Mb5 _ ⟨hM5, R5, rfl, ⟨v26, rfl, hs2⟩, rfl⟩
        refine ja_grow (hM3.trans hM5) (by simp) ?_
        rw [← hs2e] at hs2
        simp only [List.nil_append]
        refine ja_p (i := 6) rfl (by kernel_rfl) (by kernel_rfl) rfl ?_
        refine ja_p (i := 7) rfl (by kernel_rfl) (by kernel_rfl) rfl ?_
        refine ja_p (i := 8) rfl (by kernel_rfl) (by kernel_rfl) rfl ?_
        refine ja_p (i := 9) rfl (by kernel_rfl) (by kernel_rfl) rfl ?_
        refine ja_cast (listed' := #[true, true, true, true, true, true, true, true, true, true, true, false, false, false]) (by kernel_rfl) (ja_keep (Keep.cons (t := 0) rfl (Keep.cons (t := 4) rfl (Keep.cons (t := 5) rfl (Keep.cons (t := 27) rfl (Keep.cons (t := 28) rfl (Keep.cons (t := 29) rfl Keep.nil)))))) ?_)
        refine ja_weak (M2 := Mb5) (L2 := [(b2, .cells [.slice ba1 s1.blocks.length bc1, .slice wa1 s1.waits.length wc1, .slice na1 s1.now.length nc1, .slice la1 s1.last.length lc1].toArray TSt (0, 0)), (b5, .cells [.slice none 0 0, .slice none 0 0, .slice none 0 0, .slice none 0 0].toArray TSt (0, 0)), (b0, .cells [.slice none 0 0, .slice none 0 0, .slice none 0 0, .slice none 0 0].toArray TSt (0, 0))]) (fun w h => h.perm ((Rm.perm (g := b2)).trans (List.Perm.cons _ (Rm.perm (g := b5))))) (hM3.trans hM5) (by simp) ?_
        exact rest (Mb5, v26, b5) ⟨hM3.trans hM5, hs2⟩

set_option maxHeartbeats 2000000 in
theorem alive_spec (M : Mem) :
    SpecL Try.prog 8 #[] M [] fun u M' L' => u = .bool true ∧ L' = [] := by
  refine spec_body (vs := []) 34 _ Try.func8 rfl Try.ntmps8 rfl rfl ?_; intro W
  refine jc_seq ?_
  refine jc_region ?_
  refine jp rfl ?_
  refine jl_nil ?_
  refine jT ?_
  refine jc_seq ?_
  refine jc_region ?_
  refine jl_h rfl rfl (hCall rfl rfl rfl rfl rfl (by kernel_rfl) (made_spec M)) ?_; rintro _ M1 _ ⟨hM1, _, rfl, ⟨⟨v7, rfl, hs2⟩, rfl⟩⟩
  obtain ⟨bv2, wv2, nv2, lv2, rfl, f1, f2, f3, f4⟩ := hs2.ex
  obtain ⟨ba2, bc2, bps2, rfl, _⟩ := id f1
  obtain ⟨wa2, wc2, wps2, rfl, _⟩ := id f2
  obtain ⟨na2, nc2, rfl, _⟩ := id f3
  obtain ⟨la2, lc2, rfl, _⟩ := id f4
  iterate 2 refine jp rfl ?_
  refine jsb rfl (fun h8 => ?_) (fun h8 => ?_)
  · refine jl_h rfl rfl (hAlloc rfl rfl) ?_; rintro _ _ _ ⟨b1, rfl, rfl, rfl⟩
    refine jl_s rfl (hStoreL rfl rfl rfl rfl rfl rfl rfl rfl (by first | (simp only [Nat.reduceAdd, Nat.zero_add, Nat.add_zero, List.drop_succ_cons, List.drop_zero, List.drop_nil, List.take_succ_cons, List.take_zero, List.take_nil, List.cons_append, List.nil_append, List.append_nil, List.length_cons, List.length_nil]; done) | (simp only [Nat.reduceAdd, Nat.zero_add, Nat.add_zero, List.drop_succ_cons, List.drop_zero, List.drop_nil, List.take_succ_cons, List.take_zero, List.take_nil, List.cons_append, List.nil_append, List.append_nil, List.length_cons, List.length_nil]; rfl) | rfl)) ?_; rintro _ _ _ ⟨rfl, rfl⟩
    refine jp rfl ?_
    refine jl_nil ?_
    refine jT ?_
    refine jc_seq ?_
    refine jc_draw [(0, true), (1, true), (2, true), (3, false), (4, true), (5, true), (6, true), (7, true), (8, true)] _ (by kernel_rfl) (by kernel_rfl) (by kernel_rfl) rfl (fun _ h => h) ?_
    refine jd_q rfl rfl rfl (qLdL rfl rfl rfl rfl rfl (by first | (simp only [Nat.reduceAdd, Nat.zero_add, Nat.add_zero, List.drop_succ_cons, List.drop_zero, List.drop_nil, List.take_succ_cons, List.take_zero, List.take_nil, List.cons_append, List.nil_append, List.append_nil, List.length_cons, List.length_nil]; done) | (simp only [Nat.reduceAdd, Nat.zero_add, Nat.add_zero, List.drop_succ_cons, List.drop_zero, List.drop_nil, List.take_succ_cons, List.take_zero, List.take_nil, List.cons_append, List.nil_append, List.append_nil, List.length_cons, List.length_nil]; rfl) | rfl)) ?_
    refine jd_q rfl rfl rfl (qCall rfl rfl rfl rfl rfl (by kernel_rfl) (key_spec 3 _)) ?_
    refine jd_q rfl rfl rfl (qCall rfl rfl rfl rfl rfl (by kernel_rfl) (key_spec 9 _)) ?_
    refine jd_h rfl rfl rfl (hCall rfl rfl rfl rfl rfl (by kernel_rfl) (range_spec as2 _ 9 (kyOf 3) (kyOf 9) M1 hs2)) ?_; rintro _ M2 _ ⟨hM2, _, rfl, ⟨⟨v13, rfl, hns⟩, rfl⟩⟩
    refine ⟨_, _, MLe.refl _, hM2, fun _ h => h, by simp, ?_⟩
    rw [al_chk, if_pos rfl, al_rng] at hns
    obtain ⟨ia, ic, ips, rfl, hc, hs, hp, hb⟩ := hns
    have hck := al_chk
    have hil : ([⟨kyOf 4, 0, []⟩] : List It).length = 1 := rfl
    iterate 5 refine dp rfl rfl ?_
    refine jd_nil ?_
    refine jPn ?_
    refine jT ?_
    refine jc_seq ?_
    refine jc_draw [(0, true), (1, true), (2, true), (3, true), (4, true), (5, true), (6, true), (7, true), (8, true), (9, true), (10, true), (11, true), (12, true), (13, true), (14, true), (15, true), (16, true), (17, true), (18, true)] _ (by kernel_rfl) (by kernel_rfl) (by kernel_rfl) rfl (fun _ h => h) ?_
    iterate 3 refine dp rfl rfl ?_
    refine dt rfl rfl (decide_eq_true (by omega)) ?_
    iterate 3 refine dp rfl rfl ?_
    refine jd_q rfl rfl rfl (qLen rfl rfl rfl) ?_
    refine dt rfl rfl (decide_eq_true (by omega)) ?_
    iterate 3 refine dp rfl rfl ?_
    obtain ⟨sb, so, e0, hx⟩ := hs.open (by intro e; have := congrArg List.length e; rw [flat_len icell 5 icell_len, List.length_nil] at this; have h2 := congrArg List.length hp; rw [List.length_map] at h2; simp at h2; omega)
    subst e0
    obtain ⟨va, vc, hcl, hvc, hvs⟩ := items_get hx hp hb (k := 0) (by decide)
    refine jd_q rfl rfl rfl (qIdxS rfl rfl rfl rfl (by show (0 : Int) ≤ 0 ∧ (0 : Int) < 1; omega)) ?_
    refine jd_q rfl rfl rfl (qFieldAddr rfl rfl rfl rfl rfl) ?_
    refine jd_q rfl rfl rfl (qLdA (cs := kcells (kyOf 4)) rfl rfl rfl rfl rfl (fun i v hv => (hcl i v (by match i, hv with | 0, hv => simpa [kcells] using hv | 1, hv => simpa [kcells] using hv | 2, hv => simpa [kcells] using hv | n + 3, hv => simp [kcells] at hv)).cj _)) ?_
    refine jd_q rfl rfl rfl (qCall rfl rfl rfl rfl rfl (by kernel_rfl) (key_spec 4 _)) ?_
    refine jd_q rfl rfl rfl (qEq (qEqI (ns := [2, 0, 4]) (ms := [2, 0, 4]) rfl rfl rfl rfl rfl rfl ⟨rfl, rfl⟩) (v' := .bool true) (by rfl)) ?_
    iterate 2 refine dp rfl rfl ?_
    refine jd_nil ?_
    refine jPn ?_
    refine jT ?_
    refine jc_ret ?_
    refine jq_drop (L' := []) (List.nil_sublist _) ?_
    refine jr1 rfl rfl ?_
    exact ⟨rfl, rfl⟩
  · cases h8

end Go.Proofs.Ytjibkdpeijcnkaa
