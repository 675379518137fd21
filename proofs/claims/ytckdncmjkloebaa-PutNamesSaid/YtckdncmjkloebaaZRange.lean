/- Walks: walk.Range, find.Find. -/
import Derived.Test.YtckdncmjkloebaaZWalk
import Derived.Test.YtckdncmjkloebaaZStore
namespace Go.Proofs.Ytckdncmjkloebaa
set_option linter.unusedVariables false
set_option linter.unusedSimpArgs false
open Go.RowKit
theorem wHd {s : Sto} {root : Int} (h : (wDm s root).2 = 0) : wCr s ∧ 8 ≤ root ∧ root < 256 ∧ ¬ s.now.getD root.toNat 0 = 0 ∧ ∃ (lev : Nat) (xs : List It), wBs s root.toNat = some ((lev : Int), xs) ∧ wCd s lev xs ∧ (wDm s root).1 = lev + 1 := by
 by_cases h1 : wCr s
 ·by_cases h2 : root < 8 ∨ 256 ≤ root
  ·exfalso; unfold wDm at h; rw [if_pos h1, if_pos h2] at h; cases h
  ·by_cases h3 : s.now.getD root.toNat 0 = 0
   ·exfalso; unfold wDm at h; rw [if_pos h1, if_neg h2, if_pos h3] at h; cases h
   ·rw [wJu h1 h2 h3] at h
    split at h
    ·cases h
    ·rename_i lv xs hnd
     have hlv := (wBu hnd).lev
     split at h
     ·rename_i ht
      refine ⟨h1, by omega, by omega, h3, lv.toNat, xs, by rw [hnd, Int.toNat_of_nonneg hlv.1], ht, ?_⟩
      rw [wJu h1 h2 h3, hnd]
      show (if wCd s lv.toNat xs then (lv + 1, 0) else (0, 8) : Int × Int).1 = _
      rw [if_pos ht, Int.toNat_of_nonneg hlv.1]
     ·cases h
 ·exfalso; unfold wDm at h; rw [if_neg h1] at h; cases h
theorem kid_len (s : Sto) (x : It) : (kid s x).length ≤ 5 := by
 unfold kid
 split
 ·rename_i h; exact (wBu h).len
 ·exact Nat.zero_le _
theorem goDown_len {f : It → List It} {q : Ky} {m : Nat} (h : ∀ x, (f x).length ≤ m) : ∀ xs, (wDe f q xs).length ≤ m * xs.length
 | [] => by simp [wDe]
 | x :: xs => by
  have hx := h x
  obtain ⟨g, e, hg⟩ : ∃ g, wDe f q (x :: xs) = g ++ wDe f q xs ∧ g.length ≤ m := by
   cases xs with
   | nil => exact ⟨f x, rfl, hx⟩
   | cons y ys =>
    refine ⟨if wBm q y.key then f x else [], rfl, ?_⟩
    split
    ·exact hx
    ·exact Nat.zero_le _
  have ih := goDown_len h xs (q := q)
  rw [e, List.length_append, List.length_cons, Nat.mul_add, Nat.mul_one]
  omega
theorem downL_len (s : Sto) (q : Ky) : ∀ (l : Nat) (xs : List It), (wDd s q l xs).length ≤ 5 ^ l * xs.length
 | 0, xs => by rw [wDd, Nat.pow_zero, Nat.one_mul]; exact List.length_filter_le _ _
 | l + 1, xs => by
  rw [wDd, Nat.pow_succ]
  refine goDown_len (fun x => Nat.le_trans (downL_len s q l _) (Nat.mul_le_mul_left _ (kid_len s x))) xs
theorem downL_small {s : Sto} {q : Ky} {l : Nat} {xs : List It} (hl : l < 6) (hx : xs.length ≤ 5) : (wDd s q l xs).length ≤ 15625 := by
 refine Nat.le_trans (downL_len s q l xs) ?_
 have : 5 ^ l ≤ 5 ^ 5 := Nat.pow_le_pow_right (by omega) (by omega)
 exact Nat.le_trans (Nat.mul_le_mul this hx) (by decide)
theorem items_walk (bv wv nv lv : Value) (q : Ky) (root : Int) (M : Mem) :
  SpecL Try.prog 70 #[.agg #[bv, wv, nv, lv], .int .i64 root, .agg (wBo q).toArray] M [] fun u M' L' => (∃ d1 d2 d3, u = .func (.func 87) #[] #[.pointer (some ⟨d1, 0, none⟩), .pointer (some ⟨d2, 0, none⟩), .pointer (some ⟨d3, 0, none⟩)] ∧ M' d1 = some (.cells [bv, wv, nv, lv].toArray 29 (0, 0)) ∧ M' d2 = some (.cells (wBo q).toArray 37 (0, 0)) ∧ M' d3 = some (.cells [.int .i64 root].toArray 3 (0, 0))) ∧ L' = [] := by
 refine wAi (vs := [_, _, _]) 8 _ Try.func70 rfl Try.ntmps70 rfl rfl ?_; intro W
 refine wAb (wAa ?_)
 refine wAu rfl rfl (wEq (cs := [_, _, _, _]) rfl rfl rfl rfl) ?_; rintro _ _ _ ⟨b3, rfl, rfl, rfl⟩
 refine wAu rfl rfl (wEq (cs := [.int .i64 root]) rfl rfl rfl rfl) ?_; rintro _ _ _ ⟨b4, rfl, rfl, rfl⟩
 refine wAu rfl rfl (wEq (cs := [_, _, _]) rfl rfl rfl rfl) ?_; rintro _ _ _ ⟨b5, rfl, rfl, rfl⟩
 refine jp rfl ?_
 refine wAc (jT (wAb (wAa ?_)))
 iterate 2 refine jp rfl ?_
 refine wAc (jT (wAh ?_))
 refine wCe b3 (by simp) ?_
 intro M2 hM2 e3
 refine wCe b4 (by simp) ?_
 intro M3 hM3 e4
 refine wCe b5 (by simp) ?_
 intro M4 hM4 e5
 refine jr1 rfl rfl ?_
 exact ⟨⟨b3, b5, b4, rfl, hM4 _ _ (hM3 _ _ e3), e5, hM4 _ _ e4⟩, rfl⟩
def rng (s : Sto) (root : Int) (a b : Ky) : List It := match wBs s root.toNat with
 | some (lv, xs) => (wDd s a lv.toNat xs).takeWhile fun x => !wBm b x.key
 | none => []
theorem take_all {α : Type} {p : α → Bool} {xs : List α} (h : ∀ x ∈ xs, p x = true) : xs.takeWhile p = xs := by
 induction xs with
 | nil => rfl
 | cons x xs ih => rw [List.takeWhile_cons_of_pos (h x (by simp)), ih (fun y hy => h y (by simp [hy]))]
theorem take_stop {α : Type} {p : α → Bool} {pre r : List α} {y : α} (h : ∀ x ∈ pre, p x = true) (hy : p y = false) : (pre ++ y :: r).takeWhile p = pre := by
 induction pre with
 | nil => rw [List.nil_append, List.takeWhile_cons_of_neg (by simp [hy])]
 | cons x xs ih => rw [List.cons_append, List.takeWhile_cons_of_pos (h x (by simp)), ih (fun y hy => h y (by simp [hy]))]
abbrev ITS : TypeId := 43
def RI (b8 : Nat) (to : Ky) (pre : List It) (M' : Mem) (R : Lc) : Prop := ∃ v Rs, ∃ ps : List (It × Value), R = (b8, .cells [v].toArray ITS (0, 0)) :: Rs ∧ Own v Rs IT 5 ps.length (ps.flatMap wAs) ∧ ps.map (·.1) = pre ∧ (∀ p ∈ ps, BS M' p.2 p.1.val) ∧ ∀ x ∈ pre, (!wBm to x.key) = true
set_option maxHeartbeats 2000000 in
theorem range_walk (s : Sto) (root : Int) (a b : Ky) (bv wv nv lv : Value) (M : Mem) (h1 : LS M bv s.blocks) (h2 : WS M wv s.waits) (h3 : BS M nv s.now) (h4 : BS M lv s.last) :
  SpecL Try.prog 40 #[.agg #[bv, wv, nv, lv], .int .i64 root, .agg (wBo a).toArray, .agg (wBo b).toArray] M [] fun u M' L' => (∃ v, u = .tuple #[v, .int .i64 (wDm s root).2] ∧ NS M' v (if (wDm s root).2 = 0 then rng s root a b else [])) ∧ L' = [] := by
 have hST : ST M (.agg #[bv, wv, nv, lv]) s := ⟨_, _, _, _, rfl, h1, h2, h3, h4⟩
 refine wAi (vs := [_, _, _, _]) 36 _ Try.func40 rfl Try.ntmps40 rfl rfl ?_; intro W
 refine wAb (wAa ?_)
 refine wAu rfl rfl (wEq (cs := [_, _, _, _]) rfl rfl rfl rfl) ?_; rintro _ _ _ ⟨b4, rfl, rfl, rfl⟩
 refine wAu rfl rfl (wEq (cs := [_, _, _]) rfl rfl rfl rfl) ?_; rintro _ _ _ ⟨b6, rfl, rfl, rfl⟩
 refine wAu rfl rfl (wEq (cs := [_, _, _]) rfl rfl rfl rfl) ?_; rintro _ _ _ ⟨b7, rfl, rfl, rfl⟩
 refine wAu rfl rfl (wAr rfl rfl) ?_; rintro _ _ _ ⟨b8, rfl, rfl, rfl⟩
 refine jp rfl ?_
 refine wAc (jT (wAb (wAb (wAa ?_))))
 refine wAe rfl rfl (wCb rfl rfl rfl rfl rfl) ?_
 refine jp rfl ?_
 refine wAe rfl rfl (wBw rfl rfl rfl rfl rfl (by kernel_rfl) (wJv s root bv wv nv lv M h1 h2 h3 h4)) ?_
 iterate 5 refine jp rfl ?_
 refine wAc (jT (wAb (wAa ?_)))
 refine jp rfl ?_
 refine js rfl (fun h20 => ?_) (fun h20 => ?_)
 ·refine wAc (jT (wAj rfl (wAb (wAa ?_))))
  refine jp rfl ?_
  refine wBg rfl (wAf rfl rfl rfl rfl rfl rfl rfl rfl) ?_; rintro _ _ _ ⟨rfl, rfl⟩
  refine jp rfl ?_
  refine wAc (jT (wAh (jTr ?_)))
  refine wEm (rs := [_, _]) ([]) (by simp) rfl (.cons (.one rfl rfl rfl) (.cons (.tmp rfl) .nil)) ?_
  exact ⟨⟨_, rfl, by rw [if_neg h20]; exact NS.nil⟩, rfl⟩
 ·refine wAc (jT (wAm rfl (wAg (jT (wAb (wAb (wAa ?_)))))))
  refine wAe rfl rfl (wCb rfl rfl rfl rfl rfl) ?_
  refine jp rfl ?_
  refine wAe rfl rfl (wCb rfl rfl rfl rfl rfl) ?_
  obtain ⟨hst, hr8, hr256, hnz, lev, xs, hnd, htr, hfl⟩ := wHd (Classical.not_not.1 h20)
  have hno := wBu hnd
  have hlv := hno.lev
  have hsm := downL_small (s := s) (q := a) (l := lev) (by omega) hno.len
  obtain ⟨k, rfl⟩ : ∃ k : Nat, root = k := ⟨root.toNat, by omega⟩
  rw [Int.toNat_natCast] at hnd
  have hrng : rng s (k : Int) a b = (wDd s a lev xs).takeWhile fun x => !wBm b x.key := by unfold rng; rw [Int.toNat_natCast, hnd]; rfl
  obtain ⟨all, hall⟩ : ∃ all, all = wDd s a lev xs := ⟨_, rfl⟩
  rw [← hall] at hsm
  refine wAu rfl rfl (wAv rfl rfl rfl rfl rfl (by kernel_rfl) (items_walk bv wv nv lv a (k : Int) M)) ?_; rintro _ M1 _ ⟨hM1, _, rfl, ⟨⟨d1, d2, d3, rfl, hd1, hd2, hd3⟩, rfl⟩⟩
  refine wAc (jT (wAk ?_))
  refine wDv b7 (by simp) ?_
  intro M1f hM1f e7
  replace hM1 := hM1.trans hM1f
  refine jc_rangeR (R := [(b8, .cells [.slice none 0 0].toArray ITS (0, 0))]) (xs := all) (En := KEn) (ps := [26]) rfl (by kernel_rfl) (b := true) (lb := [.pointer (some ⟨d1, 0, none⟩), .pointer (some ⟨d2, 0, none⟩), .pointer (some ⟨d3, 0, none⟩)]) (fun l J Jx M2 L2 hM2 hmono hJ h0 => by rw [hall] at hJ ⊢; exact items_body s hst a k lev xs (by omega) hnd htr d1 d2 d3 (.nilFunc) M1f bv wv nv lv (hM1f _ _ hd1) (hST.mono hM1) (hM1f _ _ hd2) (hM1f _ _ hd3) l J Jx M2 L2 hM2 (hmono rfl) hJ h0)
   (RI b8 b)
   (fun c pre' M' R => c = .exit 0 ∧ ∃ pre y, pre' = pre ++ [y] ∧ RI b8 b pre M' R ∧ wBm b y.key = true)
   (fun y _ vs ⟨va, vc, e, _⟩ => by rw [e]; rfl) (by decide) ⟨_, [], [], rfl, Own.nil _ _, rfl, (fun _ h => by cases h), (fun _ h => by cases h)⟩ (fun _ pre M2 M3 R hM ⟨v, Rs, ps, q1, q2, q3, q4, q5⟩ => ⟨v, Rs, ps, q1, q2, q3, fun p hp => (q4 p hp).mono hM, q5⟩) ?_ ?_ ?_
  ·intro l W2 pre y M2 R2 vs hM2 hI hpre hE
   obtain ⟨v, Rs, ps, rfl, hown, hpm, hpb, hpl⟩ := hI
   obtain ⟨oa, oc, rfl⟩ := hown.form
   obtain ⟨va, vc, rfl, hyc, hys⟩ := hE
   refine wAa ?_
   refine wAu rfl rfl (wAr rfl rfl) ?_; rintro _ _ _ ⟨b12, rfl, rfl, rfl⟩
   refine wBg rfl (wAf rfl rfl rfl rfl rfl rfl rfl rfl) ?_; rintro _ _ _ ⟨rfl, rfl⟩
   refine wAc ?_
   refine jK fun W' => ?_
   refine wAk (wAb (wAb (wAa ?_)))
   refine wAe rfl rfl (wGu (cs := wBo b) rfl rfl rfl rfl rfl (fun i v hv => CM.cj ⟨_, _, _, hM2 _ _ e7, by simpa [wBo] using hv⟩ _)) ?_
   refine wAe rfl rfl (wAd rfl rfl rfl rfl rfl) ?_
   refine wAe rfl rfl (wCb rfl rfl rfl rfl rfl) ?_
   refine wHx rfl rfl (wBw rfl rfl rfl rfl rfl (by kernel_rfl) (wEk b y.key M2)) (fun h30 => ?_) (fun h30 => ?_)
   ·refine wAc (jT (wAj rfl (wBe (jTx ?_))))
    refine jBo rfl ?_
    refine wBk (L' := (b8, .cells [.slice oa ps.length oc].toArray ITS (0, 0)) :: Rs) (by simp) ?_
    refine jQx ?_
    exact ⟨rfl, pre, y, rfl, ⟨_, Rs, ps, rfl, hown, hpm, hpb, hpl⟩, h30⟩
   ·refine wAc (jT (wAm rfl (wAg (jT (wAa ?_)))))
    refine wAe rfl rfl (qLd rfl rfl rfl rfl (CJ.loc rfl)) ?_
    refine wAe rfl rfl (wCb rfl rfl rfl rfl rfl) ?_
    refine wAu rfl rfl (wAq (cs := [_, _, _, _, _]) rfl rfl rfl (by rfl) (by rfl) (by rfl)) ?_; rintro _ _ _ ⟨b33, rfl, rfl, rfl⟩
    refine wAu rfl rfl (wDs (R := Rs) (m := 1) rfl rfl rfl rfl hown rfl (fun i v hv => CJ.loc (by simpa using hv)) rfl (by rfl) (by simp [Value.oneCell']) (by have := hpre.length_le; rw [List.length_append, List.length_singleton] at this; have h5 := congrArg List.length hpm; rw [List.length_map] at h5; omega) (by omega)) ?_; rintro s' _ _ ⟨rfl, R', rfl, hown', _⟩
    obtain ⟨a2, c2, rfl⟩ := hown'.form
    refine wBg rfl (wAf rfl rfl rfl rfl rfl rfl rfl rfl) ?_; rintro _ _ _ ⟨rfl, rfl⟩
    refine wAc (jB ?_)
    refine wDk (L' := (b8, .cells [.slice a2 (ps.length + 1) c2].toArray ITS (0, 0)) :: R') (fun w h => (h.perm List.perm_append_comm).fewer (.cons _ (.cons _ (.refl _)))) ?_
    refine jQn ?_
    refine ⟨_, R', ps ++ [(y, .slice va y.val.length vc)], rfl, ?_, by rw [List.map_append, hpm]; rfl, ?_, ?_⟩
    ·rw [List.length_append, List.flatMap_append]; simpa [wAs] using hown'
    ·intro p hp; rcases List.mem_append.1 hp with hp | hp
     ·exact hpb p hp
     ·rw [List.mem_singleton.1 hp]; exact ⟨va, vc, rfl, hyc, hys⟩
    ·intro x hx; rcases List.mem_append.1 hx with hx | hx
     ·exact hpl x hx
     ·rw [List.mem_singleton.1 hx, h30]; rfl
  ·intro d M2 R2 hM2 hI
   obtain ⟨v, Rs, ps, rfl, hown, hpm, hpb, hpl⟩ := hI
   obtain ⟨oa, oc, rfl⟩ := hown.form
   simp only [List.cons_append, List.nil_append]
   refine jB (jT (wAb (wAa ?_)))
   refine wAe rfl rfl (qLd rfl rfl rfl rfl (CJ.loc rfl)) ?_
   refine wBg rfl (wAf rfl rfl rfl rfl rfl rfl rfl rfl) ?_; rintro _ _ _ ⟨rfl, rfl⟩
   refine jp rfl ?_
   refine wAc (jT (wAh ?_))
   refine wDf (L2 := _) Rm.perm ?_
   refine wHn hown (by simp) ?_
   intro M9 a9 c9 hM9 e9 hc9 hs9; cases e9
   refine wEm (rs := [_, _]) ([]) (by simp) rfl (.cons (.one rfl rfl rfl) (.cons (.tmp rfl) .nil)) ?_
   refine ⟨⟨_, congrArg (fun e => Value.tuple #[_, Value.int .i64 e]) (Classical.not_not.1 h20).symm, ?_⟩, rfl⟩
   rw [if_pos (Classical.not_not.1 h20), hrng, ← hall, take_all hpl]
   exact ⟨_, _, ps, by rw [← hpm, List.length_map], by rw [← hpm, List.length_map]; exact hc9, hs9, hpm, fun p hp => (hpb p hp).mono hM9⟩
  ·intro d c pre M2 R2 hM2 hpre hI
   obtain ⟨rfl, pre, y, rfl, hI, hy⟩ := hI
   obtain ⟨v, Rs, ps, rfl, hown, hpm, hpb, hpl⟩ := hI
   obtain ⟨oa, oc, rfl⟩ := hown.form
   simp only [List.cons_append, List.nil_append]
   refine wBe (jBx (jT (wAb (wAa ?_))))
   refine wAe rfl rfl (qLd rfl rfl rfl rfl (CJ.loc rfl)) ?_
   refine wBg rfl (wAf rfl rfl rfl rfl rfl rfl rfl rfl) ?_; rintro _ _ _ ⟨rfl, rfl⟩
   refine jp rfl ?_
   refine wAc (jT (wAh ?_))
   refine wDf (L2 := _) Rm.perm ?_
   refine wHn hown (by simp) ?_
   intro M9 a9 c9 hM9 e9 hc9 hs9; cases e9
   refine wEm (rs := [_, _]) ([]) (by simp) rfl (.cons (.one rfl rfl rfl) (.cons (.tmp rfl) .nil)) ?_
   refine ⟨⟨_, congrArg (fun e => Value.tuple #[_, Value.int .i64 e]) (Classical.not_not.1 h20).symm, ?_⟩, rfl⟩
   obtain ⟨r, hr⟩ := hpre
   rw [if_pos (Classical.not_not.1 h20), hrng, ← hall, ← hr, List.append_assoc, List.singleton_append, take_stop hpl (by rw [hy]; rfl)]
   exact ⟨_, _, ps, by rw [← hpm, List.length_map], by rw [← hpm, List.length_map]; exact hc9, hs9, hpm, fun p hp => (hpb p hp).mono hM9⟩
theorem range_spec (s : Sto) (v : Value) (root : Int) (a b : Ky) (M : Mem) (h : ST M v s) : SpecL Try.prog 40 #[v, .int .i64 root, .agg (wBo a).toArray, .agg (wBo b).toArray] M [] fun u M' L' => (∃ v, u = .tuple #[v, .int .i64 (wDm s root).2] ∧ NS M' v (if (wDm s root).2 = 0 then rng s root a b else [])) ∧ L' = [] := by
 obtain ⟨bv, wv, nv, lv, rfl, h1, h2, h3, h4⟩ := h.ex
 exact range_walk s root a b bv wv nv lv M h1 h2 h3 h4
theorem wJw (s : Sto) (v : Value) (root : Int) (M : Mem) (h : ST M v s) : SpecL Try.prog 16 #[v, .int .i64 root] M [] fun u _ _ => u = .tuple #[.int .i64 (wDm s root).1, .int .i64 (wDm s root).2] := by
 obtain ⟨bv, wv, nv, lv, rfl, h1, h2, h3, h4⟩ := h.ex
 exact wJv s root bv wv nv lv M h1 h2 h3 h4
def wHm (xs : List It) (q : Ky) : Option It := if isAt xs q then xs[place xs q]? else if place xs q = 0 then none else xs[place xs q - 1]?
def wCn (s : Sto) (q : Ky) : Nat → List It → Option It
 | 0, xs => if isAt xs q then xs[place xs q]? else none
 | l + 1, xs => match wHm xs q with | some x => wCn s q l (kid s x) | none => none
def fnd (s : Sto) (root : Int) (q : Ky) : Option It := match wBs s root.toNat with | some (lv, xs) => wCn s q lv.toNat xs | none => none
def FdPost (s : Sto) (root : Int) (q : Ky) (u : Value) (M' : Mem) : Prop := if (wDm s root).2 = 0 then
  match fnd s root q with
  | some x => ∃ va vc, u = .tuple #[.agg (itc x va vc).toArray, .int .i64 0] ∧ x.val.length ≤ vc ∧ SM M' va (wAn x.val)
  | none => u = .tuple #[.agg zeroIt.toArray, .int .i64 6]
 else u = .tuple #[.agg zeroIt.toArray, .int .i64 (wDm s root).2]
theorem FdPost.none {s : Sto} {root : Int} {q : Ky} {M' : Mem} (h : (wDm s root).2 = 0) (hf : fnd s root q = .none) : FdPost s root q (.tuple #[.agg zeroIt.toArray, .int .i64 6]) M' := by
 unfold FdPost; rw [if_pos h, hf]
theorem FdPost.some {s : Sto} {root : Int} {q : Ky} {M' : Mem} {x : It} {va : Option Addr} {vc : Nat} (h : (wDm s root).2 = 0) (hf : fnd s root q = .some x) (h1 : x.val.length ≤ vc) (h2 : SM M' va (wAn x.val)) : FdPost s root q (.tuple #[.agg (itc x va vc).toArray, .int .i64 0]) M' := by
 unfold FdPost; rw [if_pos h, hf]; exact ⟨va, vc, rfl, h1, h2⟩
theorem wJr {xs : List It} {q : Ky} (h : isAt xs q = true) : place xs q < xs.length := by
 unfold isAt at h
 rcases Nat.lt_or_ge (place xs q) xs.length with h' | h'
 ·exact h'
 ·rw [List.getElem?_eq_none h'] at h; cases of_decide_eq_true h
set_option maxHeartbeats 2000000 in
theorem find_walk (s : Sto) (root : Int) (q : Ky) (bv wv nv lv : Value) (M : Mem) (h1 : LS M bv s.blocks) (h2 : WS M wv s.waits) (h3 : BS M nv s.now) (h4 : BS M lv s.last) :
  SpecL Try.prog 9 #[.agg #[bv, wv, nv, lv], .int .i64 root, .agg (wBo q).toArray] M [] fun u M' L' => FdPost s root q u M' ∧ L' = [] := by
 have hST : ST M (.agg #[bv, wv, nv, lv]) s := ⟨_, _, _, _, rfl, h1, h2, h3, h4⟩
 refine wAi (vs := [_, _, _]) 79 _ Try.func9 rfl Try.ntmps9 rfl rfl ?_; intro W
 refine wAb (wAa ?_)
 refine wAu rfl rfl (wEq (cs := [_, _, _, _]) rfl rfl rfl rfl) ?_; rintro _ _ _ ⟨b3, rfl, rfl, rfl⟩
 refine wAu rfl rfl (wEq (cs := [_, _, _]) rfl rfl rfl rfl) ?_; rintro _ _ _ ⟨b5, rfl, rfl, rfl⟩
 refine wAu rfl rfl (wAr rfl rfl) ?_; rintro _ _ _ ⟨b6, rfl, rfl, rfl⟩
 refine jp rfl ?_
 refine wAc (jT ?_)
 refine jc_scope ?_
 refine wAb (wAb (wAa ?_))
 refine wAe rfl rfl (wCb rfl rfl rfl rfl rfl) ?_
 refine jp rfl ?_
 refine wAe rfl rfl (wBw rfl rfl rfl rfl rfl (by kernel_rfl) (wJv s root bv wv nv lv M h1 h2 h3 h4)) ?_
 iterate 5 refine jp rfl ?_
 refine wAc (jT (wAb (wAa ?_)))
 refine jp rfl ?_
 refine js rfl (fun h23 => ?_) (fun h23 => ?_)
 ·refine wAc (jT (wAj rfl (wAb (wAa ?_))))
  refine wAe rfl rfl (wAy (cs := [_, _, _, _, _]) rfl rfl rfl (by rfl)) ?_
  refine jp rfl ?_
  refine wBg rfl (wAf rfl rfl rfl rfl rfl rfl rfl rfl) ?_; rintro _ _ _ ⟨rfl, rfl⟩
  refine jp rfl ?_
  refine wAc (jT (wAh (jTr ?_)))
  refine jN (fun _ h => by cases h) ?_
  refine wEm (rs := [_, _]) ([]) (by simp) rfl (.cons (.agg rfl rfl rfl) (.cons (.tmp rfl) .nil)) ?_
  exact ⟨by unfold FdPost; rw [if_neg h23]; rfl, rfl⟩
 ·refine wAc (jT (wAm rfl (wAg (jT (wAb (wAa ?_))))))
  refine jp rfl ?_
  refine wAe rfl rfl (wCb rfl rfl rfl rfl rfl) ?_
  have hok := Classical.not_not.1 h23
  obtain ⟨hst, hr8, hr256, hnz, lev0, xs0, hnd0, htr0, hfl⟩ := wHd hok
  obtain ⟨⟨_, hw4, _, _⟩, ⟨hn256, _⟩, _⟩ := id hst
  refine wAu rfl rfl (wAv rfl rfl rfl rfl rfl (by kernel_rfl) (on_spec s _ M hST (by omega) (by omega))) ?_; rintro _ M1 _ ⟨hM1, _, rfl, ⟨hbn0, rfl⟩⟩
  have hbn1 := hbn0 M1 (MLe.refl _) hM1
  obtain ⟨pb, _, _, _, _, rfl, _⟩ := id hbn1.ex
  simp only [List.nil_append]
  iterate 2 refine jp rfl ?_
  refine wAc (jT (wAb ?_))
  refine jc_label ?_
  refine jT (wAb (wAk ?_))
  refine wBf (α := Nat × Nat × List It × Mem) (fun x => [(5, .pointer (some ⟨b5, 0, none⟩)), (6, .pointer (some ⟨b6, 0, none⟩)), (10, .int .i64 (x.1 : Int)), (11, .pointer (some ⟨pb, 0, none⟩))]) (fun x => x.2.2.2) (fun x => [(b6, .cells [.int .u8 0, .int .u32 0, .int .u32 0, .int .i64 0, .slice none 0 0].toArray IT (0, 0)), (b5, .cells [.int .u8 q.kind, .int .u32 q.id, .int .u32 q.off].toArray 37 (0, 0)), (b3, .cells [bv, wv, nv, lv].toArray 29 (0, 0))]) (fun x => x.1 < 256 ∧ wBs s x.1 = some ((x.2.1 : Int), x.2.2.1) ∧ wCd s x.2.1 x.2.2.1 ∧ MLe M1 x.2.2.2 ∧ fnd s root q = wCn s q x.2.1 x.2.2.1) (fun x => x.2.1)
   (root.toNat, lev0, xs0, M1) (Keep.cons (t := 5) rfl (Keep.cons (t := 6) rfl (Keep.ceq (t := 10) rfl (by rw [show ((root.toNat : Nat) : Int) = root from Int.toNat_of_nonneg (by omega)]) (Keep.cons (t := 11) rfl Keep.nil)))) ⟨by show root.toNat < 256; omega, hnd0, htr0, MLe.refl _, by show fnd s root q = wCn s q lev0 xs0; unfold fnd; rw [hnd0]; rfl⟩ (fun _ h => h) ?_
  rintro ⟨k, lev, xs, Mk⟩ ⟨hk256, hnd, htr, hMk, hfi⟩
  try dsimp only at hk256 hnd htr hMk hfi ⊢
  refine wAk (wAb (wAa ?_))
  iterate 2 refine jp rfl ?_
  refine wAu rfl rfl (wAv rfl rfl rfl rfl rfl (by kernel_rfl) (wGs s k _ Mk hst hk256 (hbn1.mono hMk))) ?_; rintro _ Mn _ ⟨hMn, _, rfl, ⟨hbn, rfl⟩⟩
  obtain ⟨sl, rfl, hns⟩ := (by unfold BnPost at hbn; rw [hnd] at hbn; exact hbn : ∃ sl, _ ∧ NS Mn sl xs)
  obtain ⟨a, c, ps, rfl, hc, hs, hp, hb⟩ := hns
  simp only [List.nil_append]
  have hno := wBu hnd
  have hlen := hno.len
  have hlv := hno.lev
  have hple := place_le xs q
  iterate 3 refine jp rfl ?_
  refine wAu rfl rfl (wAr rfl rfl) ?_; rintro _ _ _ ⟨b12, rfl, rfl, rfl⟩
  refine wBg rfl (wAf rfl rfl rfl rfl rfl rfl rfl rfl) ?_; rintro _ _ _ ⟨rfl, rfl⟩
  refine jp rfl ?_
  refine wAc (jT (wAb (wAa ?_)))
  refine wAe rfl rfl (wCb rfl rfl rfl rfl rfl) ?_
  refine wAe rfl rfl (wCb rfl rfl rfl rfl rfl) ?_
  refine wAe rfl rfl (wBw rfl rfl rfl rfl rfl (by kernel_rfl) (wGm _ xs q a c ps Mn hc hs hp hb (by omega))) ?_
  iterate 2 refine jp rfl ?_
  refine jsb rfl (fun h40 => ?_) (fun h40 => ?_)
  ·iterate 2 refine jp rfl ?_
   refine wAc (jT (wAk (wAb (wAa ?_))))
   refine wAe rfl rfl (wAd rfl rfl rfl rfl rfl) ?_
   refine wAe rfl rfl (qLd rfl rfl rfl rfl (CJ.loc rfl)) ?_
   refine js rfl (fun h51 => ?_) (fun h51 => ?_)
   ·iterate 4 refine jp rfl ?_
    refine wAc (jT (wAj rfl (wAb (wAa ?_))))
    refine wAe rfl rfl (wAd rfl rfl rfl rfl rfl) ?_
    refine wAe rfl rfl (qLd rfl rfl rfl rfl (CJ.loc rfl)) ?_
    refine jp rfl ?_
    have hlt := wJr h40
    obtain ⟨sb, so, e0, hx⟩ := hs.open (by intro e; have := congrArg List.length e; rw [wBd wAs 5 wAp, List.length_nil] at this; have h2 := congrArg List.length hp; rw [List.length_map] at h2; omega)
    subst e0
    obtain ⟨va, vc, hcl, hvc, hvs⟩ := wBi hx hp hb (k := place xs q) (by omega)
    refine wAe rfl rfl (wBh rfl rfl rfl rfl (by omega)) ?_
    refine wAe rfl rfl (wGu (cs := itc xs[place xs q] va vc) rfl rfl rfl rfl rfl (fun i v hv => (hcl i v hv).cj _)) ?_
    refine wBg rfl (wAf rfl rfl rfl rfl rfl rfl rfl rfl) ?_; rintro _ _ _ ⟨rfl, rfl⟩
    refine jp rfl ?_
    refine wAc (jT (wAh (jBr (jBr (jTr (jBr (jTr ?_)))))))
    refine jN (fun _ h => by cases h) ?_
    refine wEm (rs := [_, _]) ([]) (by simp) rfl (.cons (.agg rfl rfl rfl) (.cons (.tmp rfl) .nil)) ?_
    refine ⟨FdPost.some hok ?_ hvc hvs, rfl⟩
    obtain rfl : lev = 0 := by omega
    rw [hfi, wCn, if_pos h40, List.getElem?_eq_getElem hlt]
   ·iterate 4 refine jp rfl ?_
    refine wAc (jT (wAm rfl (wAb (wAb (wAa ?_)))))
    refine wAe rfl rfl (wAd rfl rfl rfl rfl rfl) ?_
    refine wAe rfl rfl (qLd rfl rfl rfl rfl (CJ.loc rfl)) ?_
    refine js rfl (fun h63 => ?_) (fun h63 => ?_)
    ·exfalso; omega
    ·refine jp rfl ?_
     refine wAc (jT (wAm rfl (wAa ?_)))
     refine jp rfl ?_
     refine js rfl (fun h65 => ?_) (fun h65 => ?_)
     ·iterate 5 refine jp rfl ?_
      refine wAc (jT (wAm rfl (wAb (wAa ?_))))
      iterate 2 refine jp rfl ?_
      refine wAc (jT (wAj rfl (wAa ?_)))
      refine wAe rfl rfl (wAd rfl rfl rfl rfl rfl) ?_
      refine wAe rfl rfl (qLd rfl rfl rfl rfl (CJ.loc rfl)) ?_
      refine jp rfl ?_
      have hlt := wJr h40
      obtain ⟨sb, so, e0, hx⟩ := hs.open (by intro e; have := congrArg List.length e; rw [wBd wAs 5 wAp, List.length_nil] at this; have h2 := congrArg List.length hp; rw [List.length_map] at h2; omega)
      subst e0
      obtain ⟨va, vc, hcl, hvc, hvs⟩ := wBi hx hp hb (k := place xs q) (by omega)
      refine wAe rfl rfl (wBh rfl rfl rfl rfl (by omega)) ?_
      refine wAe rfl rfl (wAd rfl rfl rfl rfl rfl) ?_
      refine wAe rfl rfl (qLd rfl rfl rfl rfl ((hcl 3 _ rfl).cj _)) ?_
      refine jp rfl ?_
      refine wAc (jB (jB ?_))
      obtain ⟨l, rfl⟩ : ∃ l, lev = l + 1 := ⟨lev - 1, by omega⟩
      obtain ⟨ys, hyn, hys0, hyt⟩ := wCu htr (List.getElem_mem (show place xs q < xs.length by omega))
      have hxr := hno.ref xs[place xs q] (List.getElem_mem _)
      have hup := hno.up (by omega) xs[place xs q] (List.getElem_mem _)
      have hkr : ((xs[place xs q].ref.toNat : Nat) : Int) = xs[place xs q].ref := Int.toNat_of_nonneg (by omega)
      have hkid : kid s xs[place xs q] = ys := by unfold kid; rw [hyn]
      refine wBc (xs[place xs q].ref.toNat, l, ys, Mn) (Keep.cons (t := 5) rfl (Keep.cons (t := 6) rfl (Keep.ceq (t := 10) rfl (by rw [hkr]) (Keep.cons (t := 11) rfl Keep.nil)))) ⟨by show xs[place xs q].ref.toNat < 256; omega, hyn, hyt, hMk.trans hMn, ?_⟩ (by show l < l + 1; omega) (fun w h => h.fewer (by simp))
      show fnd s root q = wCn s q l ys
      rw [hfi, wCn, show wHm xs q = some xs[place xs q] by unfold wHm; rw [if_pos h40, List.getElem?_eq_getElem hlt]]
      show wCn s q l (kid s _) = _
      rw [hkid]
     ·iterate 5 refine jp rfl ?_
      refine wAc (jT (wAm rfl (wAb (wAa ?_))))
      iterate 2 refine jp rfl ?_
      refine wAc (jT (wAj rfl (wAa ?_)))
      refine wAe rfl rfl (wAd rfl rfl rfl rfl rfl) ?_
      refine wAe rfl rfl (qLd rfl rfl rfl rfl (CJ.loc rfl)) ?_
      refine jp rfl ?_
      have hlt := wJr h40
      obtain ⟨sb, so, e0, hx⟩ := hs.open (by intro e; have := congrArg List.length e; rw [wBd wAs 5 wAp, List.length_nil] at this; have h2 := congrArg List.length hp; rw [List.length_map] at h2; omega)
      subst e0
      obtain ⟨va, vc, hcl, hvc, hvs⟩ := wBi hx hp hb (k := place xs q) (by omega)
      refine wAe rfl rfl (wBh rfl rfl rfl rfl (by omega)) ?_
      refine wAe rfl rfl (wAd rfl rfl rfl rfl rfl) ?_
      refine wAe rfl rfl (qLd rfl rfl rfl rfl ((hcl 3 _ rfl).cj _)) ?_
      refine jp rfl ?_
      refine wAc (jB (jB ?_))
      obtain ⟨l, rfl⟩ : ∃ l, lev = l + 1 := ⟨lev - 1, by omega⟩
      obtain ⟨ys, hyn, hys0, hyt⟩ := wCu htr (List.getElem_mem (show place xs q < xs.length by omega))
      have hxr := hno.ref xs[place xs q] (List.getElem_mem _)
      have hup := hno.up (by omega) xs[place xs q] (List.getElem_mem _)
      have hkr : ((xs[place xs q].ref.toNat : Nat) : Int) = xs[place xs q].ref := Int.toNat_of_nonneg (by omega)
      have hkid : kid s xs[place xs q] = ys := by unfold kid; rw [hyn]
      refine wBc (xs[place xs q].ref.toNat, l, ys, Mn) (Keep.cons (t := 5) rfl (Keep.cons (t := 6) rfl (Keep.ceq (t := 10) rfl (by rw [hkr]) (Keep.cons (t := 11) rfl Keep.nil)))) ⟨by show xs[place xs q].ref.toNat < 256; omega, hyn, hyt, hMk.trans hMn, ?_⟩ (by show l < l + 1; omega) (fun w h => h.fewer (by simp))
      show fnd s root q = wCn s q l ys
      rw [hfi, wCn, show wHm xs q = some xs[place xs q] by unfold wHm; rw [if_pos h40, List.getElem?_eq_getElem hlt]]
      show wCn s q l (kid s _) = _
      rw [hkid]
  ·iterate 2 refine jp rfl ?_
   refine wAc (jT (wAk (wAb (wAa ?_))))
   refine wAe rfl rfl (wAd rfl rfl rfl rfl rfl) ?_
   refine wAe rfl rfl (qLd rfl rfl rfl rfl (CJ.loc rfl)) ?_
   refine js rfl (fun h51 => ?_) (fun h51 => ?_)
   ·iterate 4 refine jp rfl ?_
    refine wAc (jT (wAm rfl (wAb (wAb (wAa ?_)))))
    refine wAe rfl rfl (wAd rfl rfl rfl rfl rfl) ?_
    refine wAe rfl rfl (qLd rfl rfl rfl rfl (CJ.loc rfl)) ?_
    refine js rfl (fun h63 => ?_) (fun h63 => ?_)
    ·refine jp rfl ?_
     refine wAc (jT (wAj rfl (wAg (jT (wAj rfl (wBe ?_))))))
     refine jBo rfl ?_
     refine jBo rfl ?_
     refine jTx (jBx (jT (wAb (wAa ?_))))
     refine wAe rfl rfl (wAy (cs := [_, _, _, _, _]) rfl rfl rfl (by rfl)) ?_
     refine wBg rfl (wAf rfl rfl rfl rfl rfl rfl rfl rfl) ?_; rintro _ _ _ ⟨rfl, rfl⟩
     refine jp rfl ?_
     refine wAc (jT (wAh ?_))
     refine jN (fun _ h => by cases h) ?_
     refine wEm (rs := [_, _]) ([]) (by simp) rfl (.cons (.agg rfl rfl rfl) (.cons (.tmp rfl) .nil)) ?_
     refine ⟨FdPost.none hok ?_, rfl⟩
     obtain rfl : lev = 0 := by omega
     rw [hfi, wCn, if_neg (by rw [h40]; decide)]
    ·exfalso; omega
   ·iterate 4 refine jp rfl ?_
    refine wAc (jT (wAm rfl (wAb (wAb (wAa ?_)))))
    refine wAe rfl rfl (wAd rfl rfl rfl rfl rfl) ?_
    refine wAe rfl rfl (qLd rfl rfl rfl rfl (CJ.loc rfl)) ?_
    refine js rfl (fun h63 => ?_) (fun h63 => ?_)
    ·exfalso; omega
    ·refine jp rfl ?_
     refine wAc (jT (wAm rfl (wAa ?_)))
     refine jp rfl ?_
     refine js rfl (fun h65 => ?_) (fun h65 => ?_)
     ·iterate 5 refine jp rfl ?_
      refine wAc (jT (wAj rfl (wBe ?_)))
      refine jBo rfl ?_
      refine jBo rfl ?_
      refine jTx (jBx (jT (wAb (wAa ?_))))
      refine wAe rfl rfl (wAy (cs := [_, _, _, _, _]) rfl rfl rfl (by rfl)) ?_
      refine wBg rfl (wAf rfl rfl rfl rfl rfl rfl rfl rfl) ?_; rintro _ _ _ ⟨rfl, rfl⟩
      refine jp rfl ?_
      refine wAc (jT (wAh ?_))
      refine jN (fun _ h => by cases h) ?_
      refine wEm (rs := [_, _]) ([]) (by simp) rfl (.cons (.agg rfl rfl rfl) (.cons (.tmp rfl) .nil)) ?_
      refine ⟨FdPost.none hok ?_, rfl⟩
      obtain ⟨l, rfl⟩ : ∃ l, lev = l + 1 := ⟨lev - 1, by omega⟩
      rw [hfi, wCn, show wHm xs q = none by unfold wHm; rw [if_neg (by rw [h40]; decide), if_pos (by omega)]]
     ·iterate 5 refine jp rfl ?_
      refine wAc (jT (wAm rfl (wAb (wAa ?_))))
      iterate 2 refine jp rfl ?_
      refine wAc (jT (wAm rfl (wAa ?_)))
      refine wAe rfl rfl (wAd rfl rfl rfl rfl rfl) ?_
      refine wAe rfl rfl (qLd rfl rfl rfl rfl (CJ.loc rfl)) ?_
      refine jp rfl ?_
      refine ja rfl (by omega) ?_
      have hp0 : 0 < place xs q := by omega
      obtain ⟨sb, so, e0, hx⟩ := hs.open (by intro e; have := congrArg List.length e; rw [wBd wAs 5 wAp, List.length_nil] at this; have h2 := congrArg List.length hp; rw [List.length_map] at h2; omega)
      subst e0
      obtain ⟨va, vc, hcl, hvc, hvs⟩ := wBi hx hp hb (k := place xs q - 1) (by omega)
      refine wAe rfl rfl (qEq (wBh rfl rfl rfl rfl (by omega)) (v' := .pointer (some ⟨sb, so + (place xs q - 1) * 5, none⟩)) (by congr 3; omega)) ?_
      refine wAe rfl rfl (wAd rfl rfl rfl rfl rfl) ?_
      refine wAe rfl rfl (qLd rfl rfl rfl rfl ((hcl 3 _ rfl).cj _)) ?_
      refine jp rfl ?_
      refine wAc (jB (jB ?_))
      obtain ⟨l, rfl⟩ : ∃ l, lev = l + 1 := ⟨lev - 1, by omega⟩
      obtain ⟨ys, hyn, hys0, hyt⟩ := wCu htr (List.getElem_mem (show place xs q - 1 < xs.length by omega))
      have hxr := hno.ref xs[place xs q - 1] (List.getElem_mem _)
      have hup := hno.up (by omega) xs[place xs q - 1] (List.getElem_mem _)
      have hkr : ((xs[place xs q - 1].ref.toNat : Nat) : Int) = xs[place xs q - 1].ref := Int.toNat_of_nonneg (by omega)
      have hkid : kid s xs[place xs q - 1] = ys := by unfold kid; rw [hyn]
      refine wBc (xs[place xs q - 1].ref.toNat, l, ys, Mn) (Keep.cons (t := 5) rfl (Keep.cons (t := 6) rfl (Keep.ceq (t := 10) rfl (by rw [hkr]) (Keep.cons (t := 11) rfl Keep.nil)))) ⟨by show xs[place xs q - 1].ref.toNat < 256; omega, hyn, hyt, hMk.trans hMn, ?_⟩ (by show l < l + 1; omega) (fun w h => h.fewer (by simp))
      show fnd s root q = wCn s q l ys
      rw [hfi, wCn, show wHm xs q = some xs[place xs q - 1] by unfold wHm; rw [if_neg (by rw [h40]; decide), if_neg (by omega), List.getElem?_eq_getElem (by omega)]]
      show wCn s q l (kid s _) = _
      rw [hkid]
theorem find_spec (s : Sto) (v : Value) (root : Int) (q : Ky) (M : Mem) (h : ST M v s) : SpecL Try.prog 9 #[v, .int .i64 root, .agg (wBo q).toArray] M [] fun u M' L' => FdPost s root q u M' ∧ L' = [] := by
 obtain ⟨bv, wv, nv, lv, rfl, h1, h2, h3, h4⟩ := h.ex
 exact find_walk s root q bv wv nv lv M h1 h2 h3 h4
end Go.Proofs.Ytckdncmjkloebaa
