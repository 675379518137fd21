/- PutNames' function is walked. -/
import Derived.Test.YtckdncmjkloebaaZGrowp
import Derived.Test.YtckdncmjkloebaaZHbm
namespace Go.Proofs.Ytckdncmjkloebaa
set_option linter.unusedVariables false
set_option linter.unusedSimpArgs false
open Go.RowKit
def itV : It := ⟨kyO 1, 0, [1]⟩
def it99 : It := ⟨⟨0, 0, 0⟩, 99, []⟩
def it00 : It := ⟨⟨0, 0, 0⟩, 0, []⟩
def isE {α : Type} (e : Int) : Except Int α → Bool
 | .ok _ => false
 | .error k => decide (k = e)
def pn1 : Bool := match wFx 1 with
 | .error _ => false
 | .ok (s, r) => decide (r = 9) && decide (s.now.length = 256) && decide (s.now.getD 8 0 = 0) && isE 6 (putF s 9 it99) && isE 6 (putF s 200 it00) &&
  (match putF s 9 itV with | .error _ => false | .ok (t, n) => decide (n = 8) && decide ((wDm t 8).2 = 0) && decide (fnd t 8 (kyO 1) = some itV))
theorem pn1_yes : pn1 = true := by decide +kernel
def pn6 : Bool := match wFx 6 with
 | .error _ => false
 | .ok (s, r) => decide (askE s r = 0) && (match wBs s r.toNat with
  | none => false
  | some (lv, xs) => decide (lv = 1) && decide (xs.length = 2) && (match xs with
   | [] => false
   | x :: _ => decide (askE s x.ref = 0) && (match wBs s x.ref.toNat with | none => false | some (l2, ys) => decide (l2 = 0) && decide (ys.length = 3))))
theorem pn6_yes : pn6 = true := by decide +kernel
theorem isE_is {α : Type} {e : Int} {r : Except Int α} (h : isE e r = true) : r = .error e := by
 cases r with
 | ok x => cases h
 | error k => rw [of_decide_eq_true h]
theorem pn1_is {s : Sto} {r : Int} (h : wFx 1 = .ok (s, r)) : r = 9 ∧ s.now.length = 256 ∧ s.now.getD 8 0 = 0 ∧ putF s 9 it99 = .error 6 ∧ putF s 200 it00 = .error 6 ∧ ∃ t, putF s 9 itV = .ok (t, 8) ∧ (wDm t 8).2 = 0 ∧ fnd t 8 (kyO 1) = some itV := by
 have := pn1_yes
 unfold pn1 at this
 rw [h] at this
 change (decide (r = 9) && decide (s.now.length = 256) && decide (s.now.getD 8 0 = 0) && isE 6 (putF s 9 it99) && isE 6 (putF s 200 it00) && (match putF s 9 itV with | .error _ => false | .ok (t, n) => decide (n = 8) && decide ((wDm t 8).2 = 0) && decide (fnd t 8 (kyO 1) = some itV))) = true at this
 rw [Bool.and_eq_true, Bool.and_eq_true, Bool.and_eq_true, Bool.and_eq_true, Bool.and_eq_true] at this
 obtain ⟨⟨⟨⟨⟨h1, h2⟩, h3⟩, h4⟩, h5⟩, h6⟩ := this
 refine ⟨of_decide_eq_true h1, of_decide_eq_true h2, of_decide_eq_true h3, isE_is h4, isE_is h5, ?_⟩
 split at h6
 ·cases h6
 ·rename_i t n he
  rw [Bool.and_eq_true, Bool.and_eq_true] at h6
  have e8 := of_decide_eq_true h6.1.1
  subst e8
  exact ⟨t, he, of_decide_eq_true h6.1.2, of_decide_eq_true h6.2⟩
theorem pn6_is {s : Sto} {r : Int} (h : wFx 6 = .ok (s, r)) : askE s r = 0 ∧ ∃ xs, wBs s r.toNat = some (((1 : Nat) : Int), xs) ∧ xs.length = 2 ∧ ∀ (h0 : 0 < xs.length), askE s xs[0].ref = 0 ∧ ∃ ys, wBs s xs[0].ref.toNat = some (((0 : Nat) : Int), ys) ∧ ys.length = 3 := by
 have := pn6_yes
 unfold pn6 at this
 rw [h] at this
 dsimp only at this
 rw [Bool.and_eq_true] at this
 refine ⟨of_decide_eq_true this.1, ?_⟩
 have h2 := this.2
 split at h2
 ·cases h2
 ·rename_i lv xs hnd
  rw [Bool.and_eq_true, Bool.and_eq_true] at h2
  have e1 := of_decide_eq_true h2.1.1
  subst e1
  refine ⟨xs, hnd, of_decide_eq_true h2.1.2, fun h0 => ?_⟩
  have h3 := h2.2
  cases xs with
  | nil => cases h3
  | cons x zs =>
   dsimp only at h3
   rw [Bool.and_eq_true] at h3
   refine ⟨of_decide_eq_true h3.1, ?_⟩
   have h4 := h3.2
   split at h4
   ·cases h4
   ·rename_i l2 ys hn2
    rw [Bool.and_eq_true] at h4
    have e2 := of_decide_eq_true h4.1
    subst e2
    exact ⟨ys, hn2, of_decide_eq_true h4.2⟩
theorem RnPost.nodeF {s : Sto} {k : Int} {u : Value} {M' : Mem} {lev : Nat} {xs : List It} (h : RnPost s k u M') (h0 : askE s k = 0) (hnd : wBs s k.toNat = some ((lev : Int), xs)) : ∃ a c, u = .tuple #[.agg #[.int .i64 (lev : Int), .slice a xs.length c], .int .i64 0] ∧ NS M' (.slice a xs.length c) xs := by
 obtain ⟨sl, rfl, hns⟩ := h.nd h0 hnd
 obtain ⟨a, c, ps, rfl, _⟩ := id hns
 exact ⟨a, c, rfl, hns⟩
theorem pt_ok {t0 : Sto} {n0 : Int} {M' : Mem} {v : Value} {at_ e : Int} {nn wn : Nat} {r : Except Int (Sto × Int)} (h : r = .ok (t0, n0)) (hq : (e ≠ 0 ∧ r = .error e ∧ at_ = 0 ∧ nn = 0) ∨ (e = 0 ∧ ∃ t, r = .ok (t, at_) ∧ nn = t.now.length ∧ wn = t.waits.length ∧ ST M' v t ∧ wCr t)) : ST M' v t0 ∧ e = 0 ∧ at_ = n0 := by
 rcases hq with ⟨_, h1, _⟩ | ⟨h0, t, h2, _, _, h5, _⟩
 ·rw [h] at h1; cases h1
 ·rw [h] at h2; cases h2; exact ⟨h5, h0, rfl⟩
theorem pt_no {e0 : Int} {M' : Mem} {v : Value} {at_ e : Int} {nn wn : Nat} {r : Except Int (Sto × Int)} (h : r = .error e0) (hq : (e ≠ 0 ∧ r = .error e ∧ at_ = 0 ∧ nn = 0) ∨ (e = 0 ∧ ∃ t, r = .ok (t, at_) ∧ nn = t.now.length ∧ wn = t.waits.length ∧ ST M' v t ∧ wCr t)) : e = e0 := by
 rcases hq with ⟨_, h1, _⟩ | ⟨h0, t, h2, _⟩
 ·rw [h] at h1; cases h1; rfl
 ·rw [h] at h2; cases h2
set_option maxRecDepth 100000 in
set_option maxHeartbeats 8000000 in
theorem pnames_walk (M : Mem) :
  SpecL Try.prog 3 #[] M [] fun u _ _ => u = .bool true := by
 refine wAi (vs := []) 148 _ Try.func3 rfl Try.ntmps3 rfl rfl ?_; intro W
 refine wAb (wAa ?_)
 refine jp rfl ?_
 refine wAc (jT (wAb (wAb (wAa ?_))))
 refine wAu rfl rfl (wAv rfl rfl rfl rfl rfl (by kernel_rfl) (palive M)) ?_; rintro _ M1 _ ⟨hM1, _, rfl, ⟨rfl, rfl⟩⟩
 simp only [List.nil_append]
 refine jp rfl ?_
 refine wAc (jT (wAm rfl (wAg (jT (wAb (wAa ?_))))))
 refine wAu rfl rfl (wAv rfl rfl rfl rfl rfl (by kernel_rfl) (pgrown 1 (by omega) M1)) ?_; rintro _ M2 _ ⟨hM2, _, rfl, ⟨⟨⟨ba3, bn3, bc3, wa3, wn3, wc3, na3, nn3, nc3, la3, ln3, lc3⟩, r1, s1, rfl, hs1, hok1, hg1⟩, rfl⟩⟩
 simp only [List.nil_append]
 obtain ⟨rfl, hnl, hn8, hp99, hp00, t1, hput, hfc, hfn⟩ := pn1_is hg1
 try dsimp only [vcl] at hs1 ⊢
 have hnn3 : nn3 = 256 := by obtain ⟨_, _, _, _, e, _, _, ⟨_, _, hn, _⟩, _⟩ := id hs1; cases e; cases hn; exact hnl
 iterate 4 refine jp rfl ?_
 refine wAu rfl rfl (wAr rfl rfl) ?_; rintro _ _ _ ⟨b1, rfl, rfl, rfl⟩
 refine wBg rfl (wAf rfl rfl rfl rfl rfl rfl rfl rfl) ?_; rintro _ _ _ ⟨rfl, rfl⟩
 iterate 2 refine jp rfl ?_
 refine wAc (jT (wAb (wAb (wAa ?_))))
 iterate 3 refine jp rfl ?_
 refine wAe rfl rfl (wAd rfl rfl rfl rfl rfl) ?_
 refine wAe rfl rfl (qLd rfl rfl rfl rfl (CJ.loc rfl)) ?_
 refine wAe rfl rfl (wBy rfl rfl rfl) ?_
 refine jf rfl (decide_eq_false (by omega)) ?_
 refine jp rfl ?_
 refine wAc (jT (wAm rfl (wAg (jT (wAb ?_)))))
 refine wEn ([(b1, .cells [.slice ba3 bn3 bc3, .slice wa3 wn3 wc3, .slice na3 nn3 nc3, .slice la3 ln3 lc3].toArray 29 (0, 0))]) (by kernel_rfl) (by simp) ?_
 refine wDo (i := 0) rfl (by kernel_rfl) (by kernel_rfl) rfl rfl (wCb rfl rfl rfl rfl rfl) ?_
 refine wDi (i := 1) rfl (by kernel_rfl) (by kernel_rfl) rfl ?_
 refine wDo (i := 2) rfl (by kernel_rfl) (by kernel_rfl) rfl rfl (wBw rfl rfl rfl rfl rfl (by kernel_rfl) (pkey 1 _)) ?_
 refine wEo (α := Mem × V4 × Nat) (fun y => MLe M2 y.1 ∧ ST y.1 (.agg (vcl y.2.1).toArray) t1) (fun y => [(1, .pointer (some ⟨b1, 0, none⟩)), (2, .int .i64 9), (4, .pointer (some ⟨y.2.2, 0, none⟩)), (44, .agg (vcl y.2.1).toArray), (45, .int .i64 8), (46, .int .i64 0)]) (fun y => y.1) (fun y => [(y.2.2, .cells [.slice none 0 0, .slice none 0 0, .slice none 0 0, .slice none 0 0].toArray 29 (0, 0)), (b1, .cells [.slice ba3 bn3 bc3, .slice wa3 wn3 wc3, .slice na3 nn3 nc3, .slice la3 ln3 lc3].toArray 29 (0, 0))]) 3 #[true, true, true, true, true, true, true, true, true, true, true, false, false, false] ?_ (fun rest => ?_)
 ·rintro ⟨Mp, ⟨ba4, bn4, bc4, wa4, wn4, wc4, na4, nn4, nc4, la4, ln4, lc4⟩, b4⟩ ⟨hMp, hT⟩
  try dsimp only [vcl] at hMp hT ⊢
  refine wGd (i := 11) (by kernel_rfl) ?_
  refine js_s rfl rfl (wAf rfl rfl rfl rfl rfl rfl rfl rfl) ?_; rintro _ _ _ ⟨rfl, rfl⟩
  refine wAo (hMp) (by simp) ?_
  refine wDi (i := 12) rfl (by kernel_rfl) (by kernel_rfl) rfl ?_
  refine wDi (i := 13) rfl (by kernel_rfl) (by kernel_rfl) rfl ?_
  refine wHp (by kernel_rfl) ?_
  refine jPn (jT (wAb ?_))
  refine wEn ([(b4, .cells [.slice ba4 bn4 bc4, .slice wa4 wn4 wc4, .slice na4 nn4 nc4, .slice la4 ln4 lc4].toArray 29 (0, 0))]) (by kernel_rfl) (by simp) ?_
  refine wDo (i := 0) rfl (by kernel_rfl) (by kernel_rfl) rfl rfl (wCb rfl rfl rfl rfl rfl) ?_
  refine wDi (i := 1) rfl (by kernel_rfl) (by kernel_rfl) rfl ?_
  refine wDo (i := 2) rfl (by kernel_rfl) (by kernel_rfl) rfl rfl (wBw rfl rfl rfl rfl rfl (by kernel_rfl) (pkey 1 _)) ?_
  refine wEo (α := Mem × Option Addr × Nat × Nat) (fun y => MLe Mp y.1 ∧ SM y.1 y.2.1 (wAn [1])) (fun y => [(1, .pointer (some ⟨b1, 0, none⟩)), (2, .int .i64 9), (4, .pointer (some ⟨b4, 0, none⟩)), (5, .int .i64 8), (6, .int .i64 0), (7, .pointer (some ⟨y.2.2.2, 0, none⟩)), (52, .agg #[.int .u8 2, .int .u32 0, .int .u32 1, .int .i64 0, .slice y.2.1 1 y.2.2.1]), (53, .int .i64 0)]) (fun y => y.1) (fun y => [(y.2.2.2, .cells [.int .u8 0, .int .u32 0, .int .u32 0, .int .i64 0, .slice none 0 0].toArray 40 (0, 0)), (b4, .cells [.slice ba4 bn4 bc4, .slice wa4 wn4 wc4, .slice na4 nn4 nc4, .slice la4 ln4 lc4].toArray 29 (0, 0)), (b1, .cells [.slice ba3 bn3 bc3, .slice wa3 wn3 wc3, .slice na3 nn3 nc3, .slice la3 ln3 lc3].toArray 29 (0, 0))]) 2 #[true, true, true, true, true, true, true, true, false, false] ?_ (fun rest => ?_)
  ·rintro ⟨Mf, va, vc, b7⟩ ⟨hMf, hvs⟩
   try dsimp only at hMf hvs ⊢
   refine wGd (i := 8) (by kernel_rfl) ?_
   refine js_s rfl rfl (wAf rfl rfl rfl rfl rfl rfl rfl rfl) ?_; rintro _ _ _ ⟨rfl, rfl⟩
   refine wAo (hMf) (by simp) ?_
   refine wDi (i := 9) rfl (by kernel_rfl) (by kernel_rfl) rfl ?_
   refine wHp (by kernel_rfl) ?_
   refine jPn (jT (wAb (wAa ?_)))
   refine wAu rfl rfl (wAv rfl rfl rfl rfl rfl (by kernel_rfl) (pgrown 6 (by omega) Mf)) ?_; rintro _ Mg _ ⟨hMg, _, rfl, ⟨⟨⟨ba6, bn6, bc6, wa6, wn6, wc6, na6, nn6, nc6, la6, ln6, lc6⟩, r6, s6, rfl, hs6, hok6, hg6⟩, rfl⟩⟩
   simp only [List.nil_append]
   obtain ⟨hak, xs, hnd, hxl, hnk⟩ := pn6_is hg6
   try dsimp only [vcl] at hs6 ⊢
   iterate 4 refine jp rfl ?_
   refine wAu rfl rfl (wAr rfl rfl) ?_; rintro _ _ _ ⟨b9, rfl, rfl, rfl⟩
   refine wBg rfl (wAf rfl rfl rfl rfl rfl rfl rfl rfl) ?_; rintro _ _ _ ⟨rfl, rfl⟩
   iterate 2 refine jp rfl ?_
   refine wAc (jT (wAb (wAa ?_)))
   refine wAe rfl rfl (wCb rfl rfl rfl rfl rfl) ?_
   refine jp rfl ?_
   refine wAu rfl rfl (wAv rfl rfl rfl rfl rfl (by kernel_rfl) (wGi s6 _ r6 Mg hs6)) ?_; rintro _ Mk _ ⟨hMk, _, rfl, ⟨hrn, rfl⟩⟩
   simp only [List.nil_append]
   obtain ⟨ka, kc, rfl, hkn⟩ := hrn.nodeF hak hnd
   iterate 3 refine jp rfl ?_
   refine wAu rfl rfl (wAr rfl rfl) ?_; rintro _ _ _ ⟨b12, rfl, rfl, rfl⟩
   refine wBg rfl (wAf rfl rfl rfl rfl rfl rfl rfl rfl) ?_; rintro _ _ _ ⟨rfl, rfl⟩
   refine jp rfl ?_
   refine wAc (jT (wAb (wAb (wAa ?_))))
   refine wAe rfl rfl (wAd rfl rfl rfl rfl rfl) ?_
   refine wAe rfl rfl (qLd rfl rfl rfl rfl (CJ.loc rfl)) ?_
   refine wAe rfl rfl (wBy rfl rfl rfl) ?_
   refine jf rfl (decide_eq_false (by omega)) ?_
   refine wAc (jT (wAm rfl (wAg (jT (wAb ?_)))))
   have hx0 : 0 < xs.length := by omega
   obtain ⟨ka2, kc2, kps, ek, hkc, hks, hkp, hkb⟩ := id hkn
   cases ek
   obtain ⟨sb, so, e0, hx⟩ := hks.open (by intro e; have := congrArg List.length e; rw [wBd wAs 5 wAp, List.length_nil] at this; have h2 := congrArg List.length hkp; rw [List.length_map] at h2; omega)
   cases e0
   obtain ⟨va9, vc9, hcl, hvc9, hvs9⟩ := wBi hx hkp hkb hx0
   obtain ⟨hak2, ys, hnd2, hyl⟩ := hnk hx0
   have hyl3 : (ys.length : Int) = 3 := by omega
   refine wEn ([(b12, .cells [.int .i64 ((1 : Nat) : Int), .slice (some ⟨sb, so, none⟩) xs.length kc].toArray 45 (0, 0)), (b9, .cells [.slice ba6 bn6 bc6, .slice wa6 wn6 wc6, .slice na6 nn6 nc6, .slice la6 ln6 lc6].toArray 29 (0, 0))]) (by kernel_rfl) (by simp) ?_
   refine wDo (i := 0) rfl (by kernel_rfl) (by kernel_rfl) rfl rfl (wCb rfl rfl rfl rfl rfl) ?_
   refine wDo (i := 1) rfl (by kernel_rfl) (by kernel_rfl) rfl rfl (wAd rfl rfl rfl rfl rfl) ?_
   refine wDo (i := 2) rfl (by kernel_rfl) (by kernel_rfl) rfl rfl (qLd rfl rfl rfl rfl (CJ.loc rfl)) ?_
   refine wDo (i := 3) rfl (by kernel_rfl) (by kernel_rfl) rfl rfl (wBh rfl rfl rfl rfl (by omega)) ?_
   refine wDo (i := 4) rfl (by kernel_rfl) (by kernel_rfl) rfl rfl (wAd rfl rfl rfl rfl rfl) ?_
   refine wDo (i := 5) rfl (by kernel_rfl) (by kernel_rfl) rfl rfl (qLd rfl rfl rfl rfl ((hcl 3 _ rfl).cj _)) ?_
   refine wEo (α := Mem × Option Addr × Nat × Nat) (fun y => MLe Mk y.1) (fun y => [(1, .pointer (some ⟨b1, 0, none⟩)), (2, .int .i64 9), (4, .pointer (some ⟨b4, 0, none⟩)), (5, .int .i64 8), (6, .int .i64 0), (7, .pointer (some ⟨b7, 0, none⟩)), (8, .int .i64 0), (9, .pointer (some ⟨b9, 0, none⟩)), (11, .bool true), (12, .pointer (some ⟨b12, 0, none⟩)), (13, .int .i64 0), (14, .pointer (some ⟨y.2.2.2, 0, none⟩)), (77, .agg #[.int .i64 ((0 : Nat) : Int), .slice y.2.1 ys.length y.2.2.1]), (78, .int .i64 0)]) (fun y => y.1) (fun y => [(y.2.2.2, .cells [.int .i64 0, .slice none 0 0].toArray 45 (0, 0)), (b12, .cells [.int .i64 ((1 : Nat) : Int), .slice (some ⟨sb, so, none⟩) xs.length kc].toArray 45 (0, 0)), (b9, .cells [.slice ba6 bn6 bc6, .slice wa6 wn6 wc6, .slice na6 nn6 nc6, .slice la6 ln6 lc6].toArray 29 (0, 0)), (b7, .cells [.int .u8 2, .int .u32 0, .int .u32 1, .int .i64 0, .slice va 1 vc].toArray 40 (0, 0)), (b4, .cells [.slice ba4 bn4 bc4, .slice wa4 wn4 wc4, .slice na4 nn4 nc4, .slice la4 ln4 lc4].toArray 29 (0, 0)), (b1, .cells [.slice ba3 bn3 bc3, .slice wa3 wn3 wc3, .slice na3 nn3 nc3, .slice la3 ln3 lc3].toArray 29 (0, 0))]) 2 #[true, true, true, true, true, true, true, true, true, true, true, false, false] ?_ (fun rest => ?_)
   ·rintro ⟨Mn, ja, jc, b14⟩ hMn
    try dsimp only at hMn ⊢
    refine wGd (i := 11) (by kernel_rfl) ?_
    refine js_s rfl rfl (wAf rfl rfl rfl rfl rfl rfl rfl rfl) ?_; rintro _ _ _ ⟨rfl, rfl⟩
    refine wAo (hMn) (by simp) ?_
    refine wDi (i := 12) rfl (by kernel_rfl) (by kernel_rfl) rfl ?_
    refine wHp (by kernel_rfl) ?_
    refine jPn (jT (wAb (wAa ?_)))
    refine wAe rfl rfl (wCb rfl rfl rfl rfl rfl) ?_
    refine jp rfl ?_
    refine wAe rfl rfl (qEq (wAy (cs := [_, _, _, _, _]) rfl rfl rfl (by rfl)) (v' := .agg #[.int .u8 0, .int .u32 0, .int .u32 0, .int .i64 99, .slice none 0 0]) rfl) ?_
    refine wAu rfl rfl (wAv rfl rfl rfl rfl rfl (by kernel_rfl) (wGw s1 _ (.slice none 0 0) 9 it99 Mn (hs1.mono (hMp.trans (hMf.trans (hMg.trans (hMk.trans hMn))))) BS.nil ⟨by decide, by decide, by decide⟩)) ?_; rintro _ M7 _ ⟨hM7, _, rfl, ⟨hpt7, rfl⟩⟩
    obtain ⟨ba7, bn7, bc7, wa7, wn7, wc7, na7, nn7, nc7, la7, ln7, lc7, at7, e7, rfl, hq7⟩ := hpt7.form
    simp only [List.nil_append]
    have he7 := pt_no hp99 hq7
    iterate 4 refine jp rfl ?_
    refine wAu rfl rfl (wAr rfl rfl) ?_; rintro _ _ _ ⟨b16, rfl, rfl, rfl⟩
    refine wBg rfl (wAf rfl rfl rfl rfl rfl rfl rfl rfl) ?_; rintro _ _ _ ⟨rfl, rfl⟩
    iterate 2 refine jp rfl ?_
    refine wAc (jT (wAb (wAa ?_)))
    refine wAe rfl rfl (wCb rfl rfl rfl rfl rfl) ?_
    refine wAe rfl rfl (qEq (wAy (cs := [_, _, _, _, _]) rfl rfl rfl (by rfl)) (v' := .agg #[.int .u8 0, .int .u32 0, .int .u32 0, .int .i64 0, .slice none 0 0]) rfl) ?_
    refine wAu rfl rfl (wAv rfl rfl rfl rfl rfl (by kernel_rfl) (wGw s1 _ (.slice none 0 0) 200 it00 M7 (hs1.mono (hMp.trans (hMf.trans (hMg.trans (hMk.trans (hMn.trans hM7)))))) BS.nil ⟨by decide, by decide, by decide⟩)) ?_; rintro _ M8 _ ⟨hM8, _, rfl, ⟨hpt8, rfl⟩⟩
    obtain ⟨ba8, bn8, bc8, wa8, wn8, wc8, na8, nn8, nc8, la8, ln8, lc8, at8, e8, rfl, hq8⟩ := hpt8.form
    simp only [List.nil_append]
    have he8 := pt_no hp00 hq8
    iterate 4 refine jp rfl ?_
    refine wAu rfl rfl (wAr rfl rfl) ?_; rintro _ _ _ ⟨b19, rfl, rfl, rfl⟩
    refine wBg rfl (wAf rfl rfl rfl rfl rfl rfl rfl rfl) ?_; rintro _ _ _ ⟨rfl, rfl⟩
    iterate 2 refine jp rfl ?_
    refine wAc (jT (wAb (wAa ?_)))
    iterate 2 refine jp rfl ?_
    refine jt rfl (decide_eq_true (by omega)) ?_
    iterate 2 refine jp rfl ?_
    refine wAe rfl rfl (wAd rfl rfl rfl rfl rfl) ?_
    refine wAe rfl rfl (qLd rfl rfl rfl rfl (CJ.loc rfl)) ?_
    obtain ⟨_, _, _, _, e9, _, _, ⟨_, _, en, hnc9, hns9⟩, _⟩ := id hs1
    cases e9
    cases en
    obtain ⟨gb, go, e0, hgx⟩ := hns9.open (by intro e; have := congrArg List.length e; rw [wAx, List.length_nil] at this; omega)
    cases e0
    have hLn := hMp.trans (hMf.trans (hMg.trans (hMk.trans (hMn.trans (hM7.trans hM8)))))
    refine wAe rfl rfl (wBh rfl rfl rfl rfl (by omega)) ?_
    refine wAe rfl rfl (qLd (v := .int .u8 0) rfl rfl rfl rfl (((hgx 8 _ (by have := wKa (xs := s1.now) (j := 8) (by omega); rw [hn8] at this; exact this)).mono hLn).cj _)) ?_
    refine jt rfl (decide_eq_true (by omega)) ?_
    iterate 3 refine jp rfl ?_
    refine jt rfl (decide_eq_true (by omega)) ?_
    iterate 3 refine jp rfl ?_
    refine jt rfl (decide_eq_true (by omega)) ?_
    iterate 3 refine jp rfl ?_
    refine jt rfl (decide_eq_true (by omega)) ?_
    iterate 2 refine jp rfl ?_
    refine wAe rfl rfl (wAd rfl rfl rfl rfl rfl) ?_
    refine wAe rfl rfl (qLd rfl rfl rfl rfl (CJ.loc rfl)) ?_
    refine wAe rfl rfl (qEq (qStr (xs := [1]) rfl rfl rfl rfl ((hvs.mono (hMg.trans (hMk.trans (hMn.trans (hM7.trans hM8))))).sj _)) (v' := .string (strOfNums [1])) rfl) ?_
    refine wAe rfl rfl (qEq (qEq (qP rfl rfl) (v' := .bool true) (congrArg Value.bool (by decide +kernel))) (v' := .bool true) (by simp)) ?_
    iterate 6 refine jp rfl ?_
    refine jt rfl (decide_eq_true (by omega)) ?_
    iterate 3 refine jp rfl ?_
    refine jt rfl (decide_eq_true (by omega)) ?_
    iterate 2 refine jp rfl ?_
    refine wAe rfl rfl (wAd rfl rfl rfl rfl rfl) ?_
    refine wAe rfl rfl (qLd rfl rfl rfl rfl (CJ.loc rfl)) ?_
    refine wAe rfl rfl (wBy rfl rfl rfl) ?_
    refine jt rfl (decide_eq_true (by omega)) ?_
    iterate 3 refine jp rfl ?_
    refine jt rfl (decide_eq_true (by omega)) ?_
    iterate 6 refine jp rfl ?_
    refine wAc (jT (wAh ?_))
    refine jr1 rfl rfl ?_
    first | rfl | exact congrArg Value.bool (decide_eq_true he8)
   refine wBa [6, 10] (by kernel_rfl) rfl ⟨?_, ?_, trivial⟩
   ·refine wCp rfl rfl rfl (wAv rfl rfl rfl rfl rfl (by kernel_rfl) (wGi s6 _ xs[0].ref Mk (hs6.mono hMk))) ?_; rintro _ Mn _ ⟨hM6, R6, rfl, hrn, rfl⟩
    refine wAo (hM6) (by simp) ?_
    simp only [List.nil_append]
    obtain ⟨ja, jc, rfl, hjn⟩ := hrn.nodeF hak2 hnd2
    refine wDi (i := 7) rfl (by kernel_rfl) (by kernel_rfl) rfl ?_
    refine wDi (i := 8) rfl (by kernel_rfl) (by kernel_rfl) rfl ?_
    refine wDi (i := 9) rfl (by kernel_rfl) (by kernel_rfl) rfl ?_
    refine wBa [10] (by kernel_rfl) rfl ⟨?_, trivial⟩
    ·refine wCp rfl rfl rfl (wAr rfl rfl) ?_; rintro _ _ _ ⟨b14, rfl, rfl, rfl⟩
     refine wAo (by first | exact MLe.refl _ | assumption | exact hM3.trans hM5) (by simp) ?_
     refine wBr (listed' := #[true, true, true, true, true, true, true, true, true, true, true, false, false]) (by kernel_rfl) (wBq (Keep.cons (t := 1) rfl (Keep.cons (t := 2) rfl (Keep.cons (t := 4) rfl (Keep.cons (t := 5) rfl (Keep.cons (t := 6) rfl (Keep.cons (t := 7) rfl (Keep.cons (t := 8) rfl (Keep.cons (t := 9) rfl (Keep.cons (t := 11) rfl (Keep.cons (t := 12) rfl (Keep.cons (t := 13) rfl (Keep.cons (t := 14) rfl (Keep.cons (t := 77) rfl (Keep.cons (t := 78) rfl Keep.nil)))))))))))))) ?_)
     exact rest (Mn, ja, jc, b14) hM6
   ·refine wCp rfl rfl rfl (wAr rfl rfl) ?_; rintro _ _ _ ⟨b14, rfl, rfl, rfl⟩
    refine wAo (by first | exact MLe.refl _ | assumption | exact hM3.trans hM5) (by simp) ?_
    refine wBa [6] (by kernel_rfl) rfl ⟨?_, trivial⟩
    ·refine wCp rfl rfl rfl (wAv rfl rfl rfl rfl rfl (by kernel_rfl) (wGi s6 _ xs[0].ref Mk (hs6.mono hMk))) ?_; rintro _ Mn _ ⟨hM6, R6, rfl, hrn, rfl⟩
     refine wAo (hM6) (by simp) ?_
     simp only [List.nil_append]
     obtain ⟨ja, jc, rfl, hjn⟩ := hrn.nodeF hak2 hnd2
     refine wDi (i := 7) rfl (by kernel_rfl) (by kernel_rfl) rfl ?_
     refine wDi (i := 8) rfl (by kernel_rfl) (by kernel_rfl) rfl ?_
     refine wDi (i := 9) rfl (by kernel_rfl) (by kernel_rfl) rfl ?_
     refine wBr (listed' := #[true, true, true, true, true, true, true, true, true, true, true, false, false]) (by kernel_rfl) (wBq (Keep.cons (t := 1) rfl (Keep.cons (t := 2) rfl (Keep.cons (t := 4) rfl (Keep.cons (t := 5) rfl (Keep.cons (t := 6) rfl (Keep.cons (t := 7) rfl (Keep.cons (t := 8) rfl (Keep.cons (t := 9) rfl (Keep.cons (t := 11) rfl (Keep.cons (t := 12) rfl (Keep.cons (t := 13) rfl (Keep.cons (t := 14) rfl (Keep.cons (t := 77) rfl (Keep.cons (t := 78) rfl Keep.nil)))))))))))))) ?_)
     exact rest (Mn, ja, jc, b14) hM6
  refine wBa [3, 7] (by kernel_rfl) rfl ⟨?_, ?_, trivial⟩
  ·refine wCp rfl rfl rfl (wAv rfl rfl rfl rfl rfl (by kernel_rfl) (find_spec t1 _ 8 (kyO 1) Mp hT)) ?_; rintro _ Mf _ ⟨hM3, R3, rfl, hfd, rfl⟩
   refine wAo (hM3) (by simp) ?_
   simp only [List.nil_append]
   obtain ⟨va, vc, rfl, hvc, hvs⟩ : ∃ va vc, _ = Value.tuple #[.agg #[.int .u8 2, .int .u32 0, .int .u32 1, .int .i64 0, .slice va 1 vc], .int .i64 0] ∧ 1 ≤ vc ∧ SM Mf va (wAn [1]) := by unfold FdPost at hfd; rw [if_pos hfc, hfn] at hfd; exact hfd
   refine wDi (i := 4) rfl (by kernel_rfl) (by kernel_rfl) rfl ?_
   refine wDi (i := 5) rfl (by kernel_rfl) (by kernel_rfl) rfl ?_
   refine wDi (i := 6) rfl (by kernel_rfl) (by kernel_rfl) rfl ?_
   refine wBa [7] (by kernel_rfl) rfl ⟨?_, trivial⟩
   ·refine wCp rfl rfl rfl (wAr rfl rfl) ?_; rintro _ _ _ ⟨b7, rfl, rfl, rfl⟩
    refine wAo (by first | exact MLe.refl _ | assumption | exact hM3.trans hM5) (by simp) ?_
    refine wBr (listed' := #[true, true, true, true, true, true, true, true, false, false]) (by kernel_rfl) (wBq (Keep.cons (t := 1) rfl (Keep.cons (t := 2) rfl (Keep.cons (t := 4) rfl (Keep.cons (t := 5) rfl (Keep.cons (t := 6) rfl (Keep.cons (t := 7) rfl (Keep.cons (t := 52) rfl (Keep.cons (t := 53) rfl Keep.nil)))))))) ?_)
    exact rest (Mf, va, vc, b7) ⟨hM3, hvs⟩
  ·refine wCp rfl rfl rfl (wAr rfl rfl) ?_; rintro _ _ _ ⟨b7, rfl, rfl, rfl⟩
   refine wAo (by first | exact MLe.refl _ | assumption | exact hM3.trans hM5) (by simp) ?_
   refine wBa [3] (by kernel_rfl) rfl ⟨?_, trivial⟩
   ·refine wCp rfl rfl rfl (wAv rfl rfl rfl rfl rfl (by kernel_rfl) (find_spec t1 _ 8 (kyO 1) Mp hT)) ?_; rintro _ Mf _ ⟨hM3, R3, rfl, hfd, rfl⟩
    refine wAo (hM3) (by simp) ?_
    simp only [List.nil_append]
    obtain ⟨va, vc, rfl, hvc, hvs⟩ : ∃ va vc, _ = Value.tuple #[.agg #[.int .u8 2, .int .u32 0, .int .u32 1, .int .i64 0, .slice va 1 vc], .int .i64 0] ∧ 1 ≤ vc ∧ SM Mf va (wAn [1]) := by unfold FdPost at hfd; rw [if_pos hfc, hfn] at hfd; exact hfd
    refine wDi (i := 4) rfl (by kernel_rfl) (by kernel_rfl) rfl ?_
    refine wDi (i := 5) rfl (by kernel_rfl) (by kernel_rfl) rfl ?_
    refine wDi (i := 6) rfl (by kernel_rfl) (by kernel_rfl) rfl ?_
    refine wBr (listed' := #[true, true, true, true, true, true, true, true, false, false]) (by kernel_rfl) (wBq (Keep.cons (t := 1) rfl (Keep.cons (t := 2) rfl (Keep.cons (t := 4) rfl (Keep.cons (t := 5) rfl (Keep.cons (t := 6) rfl (Keep.cons (t := 7) rfl (Keep.cons (t := 52) rfl (Keep.cons (t := 53) rfl Keep.nil)))))))) ?_)
    exact rest (Mf, va, vc, b7) ⟨hM3, hvs⟩
 refine wBa [3, 10] (by kernel_rfl) rfl ⟨?_, ?_, trivial⟩
 ·refine wCp rfl rfl rfl (hBuildSliceM (cs := [_]) rfl rfl rfl (by rfl) (by rfl) (by rfl)) ?_; rintro _ M3 _ ⟨b41, rfl, rfl, hM3, e41⟩
  refine wAo (hM3) (by simp) ?_
  have hbv : BS M3 (.slice (some ⟨b41, 0, none⟩) 1 1) [1] := ⟨_, 1, rfl, Nat.le_refl _, SM.of_block (l := wAn [1]) e41⟩
  refine wDo (i := 4) rfl (by kernel_rfl) (by kernel_rfl) rfl rfl (qEq (wAy (cs := [_, _, _, _, _]) rfl rfl rfl (by rfl)) (v' := .agg #[.int .u8 2, .int .u32 0, .int .u32 1, .int .i64 0, .slice (some ⟨b41, 0, none⟩) 1 1]) rfl) ?_
  refine wBa [5, 10] (by kernel_rfl) rfl ⟨?_, ?_, trivial⟩
  ·refine wCp rfl rfl rfl (wAv rfl rfl rfl rfl rfl (by kernel_rfl) (wGw s1 _ (.slice (some ⟨b41, 0, none⟩) 1 1) 9 itV M3 (hs1.mono hM3) hbv (kyO_ok (n := 1) (by omega)))) ?_; rintro _ Mp _ ⟨hM5, R5, rfl, hpt1, rfl⟩
   refine wAo ((hM3).trans hM5) (by simp) ?_
   obtain ⟨ba1, bn1, bc1, wa1, wn1, wc1, na1, nn1, nc1, la1, ln1, lc1, at1, e1, rfl, hq1⟩ := hpt1.form
   simp only [List.nil_append]
   obtain ⟨hT, rfl, rfl⟩ := pt_ok hput hq1
   refine wDi (i := 6) rfl (by kernel_rfl) (by kernel_rfl) rfl ?_
   refine wDi (i := 7) rfl (by kernel_rfl) (by kernel_rfl) rfl ?_
   refine wDi (i := 8) rfl (by kernel_rfl) (by kernel_rfl) rfl ?_
   refine wDi (i := 9) rfl (by kernel_rfl) (by kernel_rfl) rfl ?_
   refine wBa [10] (by kernel_rfl) rfl ⟨?_, trivial⟩
   ·refine wCp rfl rfl rfl (wAr rfl rfl) ?_; rintro _ _ _ ⟨b4, rfl, rfl, rfl⟩
    refine wAo (by first | exact MLe.refl _ | assumption | exact hM3.trans hM5) (by simp) ?_
    refine wBr (listed' := #[true, true, true, true, true, true, true, true, true, true, true, false, false, false]) (by kernel_rfl) (wBq (Keep.cons (t := 1) rfl (Keep.cons (t := 2) rfl (Keep.cons (t := 4) rfl (Keep.cons (t := 44) rfl (Keep.cons (t := 45) rfl (Keep.cons (t := 46) rfl Keep.nil)))))) ?_)
    exact rest (Mp, ⟨ba1, bn1, bc1, wa1, wn1, wc1, na1, nn1, nc1, la1, ln1, lc1⟩, b4) ⟨hM3.trans hM5, hT⟩
  ·refine wCp rfl rfl rfl (wAr rfl rfl) ?_; rintro _ _ _ ⟨b4, rfl, rfl, rfl⟩
   refine wAo (by first | exact MLe.refl _ | assumption | exact hM3.trans hM5) (by simp) ?_
   refine wBa [5] (by kernel_rfl) rfl ⟨?_, trivial⟩
   ·refine wCp rfl rfl rfl (wAv rfl rfl rfl rfl rfl (by kernel_rfl) (wGw s1 _ (.slice (some ⟨b41, 0, none⟩) 1 1) 9 itV M3 (hs1.mono hM3) hbv (kyO_ok (n := 1) (by omega)))) ?_; rintro _ Mp _ ⟨hM5, R5, rfl, hpt1, rfl⟩
    refine wAo ((hM3).trans hM5) (by simp) ?_
    obtain ⟨ba1, bn1, bc1, wa1, wn1, wc1, na1, nn1, nc1, la1, ln1, lc1, at1, e1, rfl, hq1⟩ := hpt1.form
    simp only [List.nil_append]
    obtain ⟨hT, rfl, rfl⟩ := pt_ok hput hq1
    refine wDi (i := 6) rfl (by kernel_rfl) (by kernel_rfl) rfl ?_
    refine wDi (i := 7) rfl (by kernel_rfl) (by kernel_rfl) rfl ?_
    refine wDi (i := 8) rfl (by kernel_rfl) (by kernel_rfl) rfl ?_
    refine wDi (i := 9) rfl (by kernel_rfl) (by kernel_rfl) rfl ?_
    refine wBr (listed' := #[true, true, true, true, true, true, true, true, true, true, true, false, false, false]) (by kernel_rfl) (wBq (Keep.cons (t := 1) rfl (Keep.cons (t := 2) rfl (Keep.cons (t := 4) rfl (Keep.cons (t := 44) rfl (Keep.cons (t := 45) rfl (Keep.cons (t := 46) rfl Keep.nil)))))) ?_)
    exact rest (Mp, ⟨ba1, bn1, bc1, wa1, wn1, wc1, na1, nn1, nc1, la1, ln1, lc1⟩, b4) ⟨hM3.trans hM5, hT⟩
 ·refine wCp rfl rfl rfl (wAr rfl rfl) ?_; rintro _ _ _ ⟨b4, rfl, rfl, rfl⟩
  refine wAo (by first | exact MLe.refl _ | assumption | exact hM3.trans hM5) (by simp) ?_
  refine wBa [3] (by kernel_rfl) rfl ⟨?_, trivial⟩
  ·refine wCp rfl rfl rfl (hBuildSliceM (cs := [_]) rfl rfl rfl (by rfl) (by rfl) (by rfl)) ?_; rintro _ M3 _ ⟨b41, rfl, rfl, hM3, e41⟩
   refine wAo (hM3) (by simp) ?_
   have hbv : BS M3 (.slice (some ⟨b41, 0, none⟩) 1 1) [1] := ⟨_, 1, rfl, Nat.le_refl _, SM.of_block (l := wAn [1]) e41⟩
   refine wDo (i := 4) rfl (by kernel_rfl) (by kernel_rfl) rfl rfl (qEq (wAy (cs := [_, _, _, _, _]) rfl rfl rfl (by rfl)) (v' := .agg #[.int .u8 2, .int .u32 0, .int .u32 1, .int .i64 0, .slice (some ⟨b41, 0, none⟩) 1 1]) rfl) ?_
   refine wBa [5] (by kernel_rfl) rfl ⟨?_, trivial⟩
   ·refine wCp rfl rfl rfl (wAv rfl rfl rfl rfl rfl (by kernel_rfl) (wGw s1 _ (.slice (some ⟨b41, 0, none⟩) 1 1) 9 itV M3 (hs1.mono hM3) hbv (kyO_ok (n := 1) (by omega)))) ?_; rintro _ Mp _ ⟨hM5, R5, rfl, hpt1, rfl⟩
    refine wAo ((hM3).trans hM5) (by simp) ?_
    obtain ⟨ba1, bn1, bc1, wa1, wn1, wc1, na1, nn1, nc1, la1, ln1, lc1, at1, e1, rfl, hq1⟩ := hpt1.form
    simp only [List.nil_append]
    obtain ⟨hT, rfl, rfl⟩ := pt_ok hput hq1
    refine wDi (i := 6) rfl (by kernel_rfl) (by kernel_rfl) rfl ?_
    refine wDi (i := 7) rfl (by kernel_rfl) (by kernel_rfl) rfl ?_
    refine wDi (i := 8) rfl (by kernel_rfl) (by kernel_rfl) rfl ?_
    refine wDi (i := 9) rfl (by kernel_rfl) (by kernel_rfl) rfl ?_
    refine wBr (listed' := #[true, true, true, true, true, true, true, true, true, true, true, false, false, false]) (by kernel_rfl) (wBq (Keep.cons (t := 1) rfl (Keep.cons (t := 2) rfl (Keep.cons (t := 4) rfl (Keep.cons (t := 44) rfl (Keep.cons (t := 45) rfl (Keep.cons (t := 46) rfl Keep.nil)))))) ?_)
    exact rest (Mp, ⟨ba1, bn1, bc1, wa1, wn1, wc1, na1, nn1, nc1, la1, ln1, lc1⟩, b4) ⟨hM3.trans hM5, hT⟩
end Go.Proofs.Ytckdncmjkloebaa
