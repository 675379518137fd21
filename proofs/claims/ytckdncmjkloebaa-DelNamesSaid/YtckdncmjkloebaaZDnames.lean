/- DelNames' function is walked. -/
import Derived.Test.YtckdncmjkloebaaZAlived
namespace Go.Proofs.Ytckdncmjkloebaa
set_option linter.unusedVariables false
set_option linter.unusedSimpArgs false
open Go.RowKit
def isE2 {α : Type} (e : Int) : Except Int α → Bool
 | .ok _ => false
 | .error k => decide (k = e)
theorem isE2_is {α : Type} {e : Int} {r : Except Int α} (h : isE2 e r = true) : r = .error e := by
 cases r with
 | ok x => cases h
 | error k => rw [of_decide_eq_true h]
def dn1 : Bool := match wFx 1 with
 | .error _ => false
 | .ok (s, r) => match delF s r (kyO 1) with
  | .error _ => false
  | .ok (t, n) => decide ((allR t n).length = 0) && isE2 6 (delF t n (kyO 1)) && isE2 2 (delF t 7 (kyO 1))
theorem dn1_yes : dn1 = true := by decide +kernel
theorem dn1_is {s : Sto} {r : Int} (h : wFx 1 = .ok (s, r)) : ∃ t n, delF s r (kyO 1) = .ok (t, n) ∧ (allR t n).length = 0 ∧ delF t n (kyO 1) = .error 6 ∧ delF t 7 (kyO 1) = .error 2 := by
 have := dn1_yes
 unfold dn1 at this
 rw [h] at this
 dsimp only at this
 split at this
 ·cases this
 ·rename_i t n he
  rw [Bool.and_eq_true, Bool.and_eq_true] at this
  exact ⟨t, n, he, of_decide_eq_true this.1.1, isE2_is this.1.2, isE2_is this.2⟩
theorem dt_ok {t0 : Sto} {n0 : Int} {M' : Mem} {v : Value} {at_ e : Int} {nn wn : Nat} {r : Except Int (Sto × Int)} (h : r = .ok (t0, n0)) (hq : (e ≠ 0 ∧ r = .error e ∧ at_ = 0 ∧ nn = 0) ∨ (e = 0 ∧ ∃ t, r = .ok (t, at_) ∧ nn = t.now.length ∧ wn = t.waits.length ∧ ST M' v t ∧ wCr t)) : ST M' v t0 ∧ e = 0 ∧ at_ = n0 := by
 rcases hq with ⟨_, h1, _⟩ | ⟨h0, t, h2, _, _, h5, _⟩
 ·rw [h] at h1; cases h1
 ·rw [h] at h2; cases h2; exact ⟨h5, h0, rfl⟩
theorem dt_no {e0 : Int} {M' : Mem} {v : Value} {at_ e : Int} {nn wn : Nat} {r : Except Int (Sto × Int)} (h : r = .error e0) (hq : (e ≠ 0 ∧ r = .error e ∧ at_ = 0 ∧ nn = 0) ∨ (e = 0 ∧ ∃ t, r = .ok (t, at_) ∧ nn = t.now.length ∧ wn = t.waits.length ∧ ST M' v t ∧ wCr t)) : e = e0 ∧ at_ = 0 := by
 rcases hq with ⟨_, h1, h2, _⟩ | ⟨h0, t, h2, _⟩
 ·rw [h] at h1; cases h1; exact ⟨rfl, h2⟩
 ·rw [h] at h2; cases h2
set_option maxHeartbeats 8000000 in
theorem dnames_walk (M : Mem) :
  SpecL Try.prog 4 #[] M [] fun u _ _ => u = .bool true := by
 refine wAi (vs := []) 65 _ Try.func4 rfl Try.ntmps4 rfl rfl ?_; intro W
 refine wAb (wAa ?_)
 refine jp rfl ?_
 refine wAc (jT (wAb (wAb (wAa ?_))))
 refine wAu rfl rfl (wAv rfl rfl rfl rfl rfl (by kernel_rfl) (dalive M)) ?_; rintro _ M1 _ ⟨hM1, _, rfl, ⟨rfl, rfl⟩⟩
 simp only [List.nil_append]
 refine jp rfl ?_
 refine wAc (jT (wAm rfl (wAg (jT (wAb (wAa ?_))))))
 refine wAu rfl rfl (wAv rfl rfl rfl rfl rfl (by kernel_rfl) (dgrown 1 (by omega) M1)) ?_; rintro _ M2 _ ⟨hM2, _, rfl, ⟨⟨⟨ba1, bn1, bc1, wa1, wn1, wc1, na1, nn1, nc1, la1, ln1, lc1⟩, r1, s1, rfl, hs1, hok1, hg1⟩, rfl⟩⟩
 simp only [List.nil_append]
 obtain ⟨t0, n0, hdl, hal, hd6, hd2⟩ := dn1_is hg1
 try dsimp only [vcl] at hs1 ⊢
 iterate 4 refine jp rfl ?_
 refine wAu rfl rfl (wAr rfl rfl) ?_; rintro _ _ _ ⟨b1, rfl, rfl, rfl⟩
 refine wBg rfl (wAf rfl rfl rfl rfl rfl rfl rfl rfl) ?_; rintro _ _ _ ⟨rfl, rfl⟩
 iterate 2 refine jp rfl ?_
 refine wAc (jT (wAb ?_))
 refine wEn ([(b1, .cells [.slice ba1 bn1 bc1, .slice wa1 wn1 wc1, .slice na1 nn1 nc1, .slice la1 ln1 lc1].toArray 29 (0, 0))]) (by kernel_rfl) (by simp) ?_
 refine wDo (i := 0) rfl (by kernel_rfl) (by kernel_rfl) rfl rfl (wCb rfl rfl rfl rfl rfl) ?_
 refine wDi (i := 1) rfl (by kernel_rfl) (by kernel_rfl) rfl ?_
 refine wDo (i := 2) rfl (by kernel_rfl) (by kernel_rfl) rfl rfl (wBw rfl rfl rfl rfl rfl (by kernel_rfl) (dkey 1 _)) ?_
 refine wEo (α := Mem × V4 × Nat) (fun y => MLe M2 y.1 ∧ ST y.1 (.agg (vcl y.2.1).toArray) t0) (fun y => [(1, .pointer (some ⟨b1, 0, none⟩)), (2, .int .i64 r1), (3, .bool true), (4, .pointer (some ⟨y.2.2, 0, none⟩)), (25, .agg (vcl y.2.1).toArray), (26, .int .i64 n0), (27, .int .i64 0)]) (fun y => y.1) (fun y => [(y.2.2, .cells [.slice none 0 0, .slice none 0 0, .slice none 0 0, .slice none 0 0].toArray 29 (0, 0)), (b1, .cells [.slice ba1 bn1 bc1, .slice wa1 wn1 wc1, .slice na1 nn1 nc1, .slice la1 ln1 lc1].toArray 29 (0, 0))]) 3 #[true, true, true, true, true, true, true, true, true, false, false, false] ?_ (fun rest => ?_)
 ·rintro ⟨Mq4, ⟨ba4, bn4, bc4, wa4, wn4, wc4, na4, nn4, nc4, la4, ln4, lc4⟩, b4⟩ ⟨hMq4, hT4⟩
  try dsimp only [vcl] at hMq4 hT4 ⊢
  refine wGd (i := 9) (by kernel_rfl) ?_
  refine js_s rfl rfl (wAf rfl rfl rfl rfl rfl rfl rfl rfl) ?_; rintro _ _ _ ⟨rfl, rfl⟩
  refine wAo (hMq4) (by simp) ?_
  refine wDi (i := 10) rfl (by kernel_rfl) (by kernel_rfl) rfl ?_
  refine wDi (i := 11) rfl (by kernel_rfl) (by kernel_rfl) rfl ?_
  refine wHp (by kernel_rfl) ?_
  refine jPn (jT (wAb ?_))
  refine wEn ([(b4, .cells [.slice ba4 bn4 bc4, .slice wa4 wn4 wc4, .slice na4 nn4 nc4, .slice la4 ln4 lc4].toArray 29 (0, 0))]) (by kernel_rfl) (by simp) ?_
  refine wDo (i := 0) rfl (by kernel_rfl) (by kernel_rfl) rfl rfl (wCb rfl rfl rfl rfl rfl) ?_
  refine wDi (i := 1) rfl (by kernel_rfl) (by kernel_rfl) rfl ?_
  refine wDo (i := 2) rfl (by kernel_rfl) (by kernel_rfl) rfl rfl (wBw rfl rfl rfl rfl rfl (by kernel_rfl) (dkey 1 _)) ?_
  refine wEo (α := Mem × V4 × Nat) (fun y => MLe Mq4 y.1) (fun y => [(1, .pointer (some ⟨b1, 0, none⟩)), (2, .int .i64 r1), (3, .bool true), (4, .pointer (some ⟨b4, 0, none⟩)), (5, .int .i64 n0), (6, .int .i64 0), (7, .pointer (some ⟨y.2.2, 0, none⟩)), (33, .agg (vcl y.2.1).toArray), (34, .int .i64 0), (35, .int .i64 6)]) (fun y => y.1) (fun y => [(y.2.2, .cells [.slice none 0 0, .slice none 0 0, .slice none 0 0, .slice none 0 0].toArray 29 (0, 0)), (b4, .cells [.slice ba4 bn4 bc4, .slice wa4 wn4 wc4, .slice na4 nn4 nc4, .slice la4 ln4 lc4].toArray 29 (0, 0)), (b1, .cells [.slice ba1 bn1 bc1, .slice wa1 wn1 wc1, .slice na1 nn1 nc1, .slice la1 ln1 lc1].toArray 29 (0, 0))]) 3 #[true, true, true, true, true, true, true, true, true, false, false, false] ?_ (fun rest => ?_)
  ·rintro ⟨Mq7, ⟨ba7, bn7, bc7, wa7, wn7, wc7, na7, nn7, nc7, la7, ln7, lc7⟩, b7⟩ hMq7
   try dsimp only [vcl] at hMq7  ⊢
   refine wGd (i := 9) (by kernel_rfl) ?_
   refine js_s rfl rfl (wAf rfl rfl rfl rfl rfl rfl rfl rfl) ?_; rintro _ _ _ ⟨rfl, rfl⟩
   refine wAo (hMq7) (by simp) ?_
   refine wDi (i := 10) rfl (by kernel_rfl) (by kernel_rfl) rfl ?_
   refine wDi (i := 11) rfl (by kernel_rfl) (by kernel_rfl) rfl ?_
   refine wHp (by kernel_rfl) ?_
   refine jPn (jT (wAb ?_))
   refine wEn ([(b4, .cells [.slice ba4 bn4 bc4, .slice wa4 wn4 wc4, .slice na4 nn4 nc4, .slice la4 ln4 lc4].toArray 29 (0, 0))]) (by kernel_rfl) (by simp) ?_
   refine wDo (i := 0) rfl (by kernel_rfl) (by kernel_rfl) rfl rfl (wCb rfl rfl rfl rfl rfl) ?_
   refine wDo (i := 1) rfl (by kernel_rfl) (by kernel_rfl) rfl rfl (wBw rfl rfl rfl rfl rfl (by kernel_rfl) (dkey 1 _)) ?_
   refine wEo (α := Mem × V4 × Nat) (fun y => MLe Mq7 y.1) (fun y => [(1, .pointer (some ⟨b1, 0, none⟩)), (2, .int .i64 r1), (3, .bool true), (4, .pointer (some ⟨b4, 0, none⟩)), (5, .int .i64 n0), (6, .int .i64 0), (9, .int .i64 6), (10, .pointer (some ⟨y.2.2, 0, none⟩)), (40, .agg (vcl y.2.1).toArray), (41, .int .i64 0), (42, .int .i64 2)]) (fun y => y.1) (fun y => [(y.2.2, .cells [.slice none 0 0, .slice none 0 0, .slice none 0 0, .slice none 0 0].toArray 29 (0, 0)), (b7, .cells [.slice ba7 bn7 bc7, .slice wa7 wn7 wc7, .slice na7 nn7 nc7, .slice la7 ln7 lc7].toArray 29 (0, 0)), (b4, .cells [.slice ba4 bn4 bc4, .slice wa4 wn4 wc4, .slice na4 nn4 nc4, .slice la4 ln4 lc4].toArray 29 (0, 0)), (b1, .cells [.slice ba1 bn1 bc1, .slice wa1 wn1 wc1, .slice na1 nn1 nc1, .slice la1 ln1 lc1].toArray 29 (0, 0))]) 3 #[true, true, true, true, true, true, true, true, false, false, false] ?_ (fun rest => ?_)
   ·rintro ⟨Mq10, ⟨ba10, bn10, bc10, wa10, wn10, wc10, na10, nn10, nc10, la10, ln10, lc10⟩, b10⟩ hMq10
    try dsimp only [vcl] at hMq10  ⊢
    refine wGd (i := 8) (by kernel_rfl) ?_
    refine js_s rfl rfl (wAf rfl rfl rfl rfl rfl rfl rfl rfl) ?_; rintro _ _ _ ⟨rfl, rfl⟩
    refine wAo (hMq10) (by simp) ?_
    refine wDi (i := 9) rfl (by kernel_rfl) (by kernel_rfl) rfl ?_
    refine wDi (i := 10) rfl (by kernel_rfl) (by kernel_rfl) rfl ?_
    refine wHp (by kernel_rfl) ?_
    refine jPn (jT (wAb (wAa ?_)))
    iterate 5 refine jp rfl ?_
    refine jt rfl (decide_eq_true (by omega)) ?_
    iterate 2 refine jp rfl ?_
    refine wAe rfl rfl (wCb rfl rfl rfl rfl rfl) ?_
    refine jp rfl ?_
    refine wAu rfl rfl (wAv rfl rfl rfl rfl rfl (by kernel_rfl) (dall t0 _ n0 Mq10 (hT4.mono (hMq7.trans hMq10)))) ?_; rintro _ M7 _ ⟨hM7, _, rfl, ⟨hnA, rfl⟩⟩
    simp only [List.nil_append]
    obtain ⟨aa, ac, aps, rfl, _⟩ := hnA
    rw [hal]
    refine wAe rfl rfl (wBy rfl rfl rfl) ?_
    refine jt rfl (decide_eq_true (by omega)) ?_
    iterate 3 refine jp rfl ?_
    refine jt rfl (decide_eq_true (by omega)) ?_
    iterate 6 refine jp rfl ?_
    refine wAc (jT (wAh ?_))
    refine jr1 rfl rfl ?_
    rfl
   refine wBa [2, 7] (by kernel_rfl) rfl ⟨?_, ?_, trivial⟩
   ·refine wCp rfl rfl rfl (wAv rfl rfl rfl rfl rfl (by kernel_rfl) (wFe t0 _ 7 (kyO 1) Mq7 (hT4.mono hMq7))) ?_; rintro _ Mp _ ⟨hM2, R2, rfl, hpt10, rfl⟩
    refine wAo (hM2) (by simp) ?_
    obtain ⟨ba10, bn10, bc10, wa10, wn10, wc10, na10, nn10, nc10, la10, ln10, lc10, at10, e10, rfl, hq10⟩ := hpt10.form
    simp only [List.nil_append]
    obtain ⟨rfl, rfl⟩ := dt_no hd2 hq10
    refine wDi (i := 3) rfl (by kernel_rfl) (by kernel_rfl) rfl ?_
    refine wDi (i := 4) rfl (by kernel_rfl) (by kernel_rfl) rfl ?_
    refine wDi (i := 5) rfl (by kernel_rfl) (by kernel_rfl) rfl ?_
    refine wDi (i := 6) rfl (by kernel_rfl) (by kernel_rfl) rfl ?_
    refine wBa [7] (by kernel_rfl) rfl ⟨?_, trivial⟩
    ·refine wCp rfl rfl rfl (wAr rfl rfl) ?_; rintro _ _ _ ⟨b10, rfl, rfl, rfl⟩
     refine wAo (by first | exact MLe.refl _ | exact hM2) (by simp) ?_
     refine wBr (listed' := #[true, true, true, true, true, true, true, true, false, false, false]) (by kernel_rfl) (wBq (Keep.cons (t := 1) rfl (Keep.cons (t := 2) rfl (Keep.cons (t := 3) rfl (Keep.cons (t := 4) rfl (Keep.cons (t := 5) rfl (Keep.cons (t := 6) rfl (Keep.cons (t := 9) rfl (Keep.cons (t := 10) rfl (Keep.cons (t := 40) rfl (Keep.cons (t := 41) rfl (Keep.cons (t := 42) rfl Keep.nil))))))))))) ?_)
     exact rest (Mp, ⟨ba10, bn10, bc10, wa10, wn10, wc10, na10, nn10, nc10, la10, ln10, lc10⟩, b10) hM2
   ·refine wCp rfl rfl rfl (wAr rfl rfl) ?_; rintro _ _ _ ⟨b10, rfl, rfl, rfl⟩
    refine wAo (by first | exact MLe.refl _ | exact hM2) (by simp) ?_
    refine wBa [2] (by kernel_rfl) rfl ⟨?_, trivial⟩
    ·refine wCp rfl rfl rfl (wAv rfl rfl rfl rfl rfl (by kernel_rfl) (wFe t0 _ 7 (kyO 1) Mq7 (hT4.mono hMq7))) ?_; rintro _ Mp _ ⟨hM2, R2, rfl, hpt10, rfl⟩
     refine wAo (hM2) (by simp) ?_
     obtain ⟨ba10, bn10, bc10, wa10, wn10, wc10, na10, nn10, nc10, la10, ln10, lc10, at10, e10, rfl, hq10⟩ := hpt10.form
     simp only [List.nil_append]
     obtain ⟨rfl, rfl⟩ := dt_no hd2 hq10
     refine wDi (i := 3) rfl (by kernel_rfl) (by kernel_rfl) rfl ?_
     refine wDi (i := 4) rfl (by kernel_rfl) (by kernel_rfl) rfl ?_
     refine wDi (i := 5) rfl (by kernel_rfl) (by kernel_rfl) rfl ?_
     refine wDi (i := 6) rfl (by kernel_rfl) (by kernel_rfl) rfl ?_
     refine wBr (listed' := #[true, true, true, true, true, true, true, true, false, false, false]) (by kernel_rfl) (wBq (Keep.cons (t := 1) rfl (Keep.cons (t := 2) rfl (Keep.cons (t := 3) rfl (Keep.cons (t := 4) rfl (Keep.cons (t := 5) rfl (Keep.cons (t := 6) rfl (Keep.cons (t := 9) rfl (Keep.cons (t := 10) rfl (Keep.cons (t := 40) rfl (Keep.cons (t := 41) rfl (Keep.cons (t := 42) rfl Keep.nil))))))))))) ?_)
     exact rest (Mp, ⟨ba10, bn10, bc10, wa10, wn10, wc10, na10, nn10, nc10, la10, ln10, lc10⟩, b10) hM2
  refine wBa [3, 8] (by kernel_rfl) rfl ⟨?_, ?_, trivial⟩
  ·refine wCp rfl rfl rfl (wAv rfl rfl rfl rfl rfl (by kernel_rfl) (wFe t0 _ n0 (kyO 1) Mq4 hT4)) ?_; rintro _ Mp _ ⟨hM3, R3, rfl, hpt7, rfl⟩
   refine wAo (hM3) (by simp) ?_
   obtain ⟨ba7, bn7, bc7, wa7, wn7, wc7, na7, nn7, nc7, la7, ln7, lc7, at7, e7, rfl, hq7⟩ := hpt7.form
   simp only [List.nil_append]
   obtain ⟨rfl, rfl⟩ := dt_no hd6 hq7
   refine wDi (i := 4) rfl (by kernel_rfl) (by kernel_rfl) rfl ?_
   refine wDi (i := 5) rfl (by kernel_rfl) (by kernel_rfl) rfl ?_
   refine wDi (i := 6) rfl (by kernel_rfl) (by kernel_rfl) rfl ?_
   refine wDi (i := 7) rfl (by kernel_rfl) (by kernel_rfl) rfl ?_
   refine wBa [8] (by kernel_rfl) rfl ⟨?_, trivial⟩
   ·refine wCp rfl rfl rfl (wAr rfl rfl) ?_; rintro _ _ _ ⟨b7, rfl, rfl, rfl⟩
    refine wAo (by first | exact MLe.refl _ | exact hM3) (by simp) ?_
    refine wBr (listed' := #[true, true, true, true, true, true, true, true, true, false, false, false]) (by kernel_rfl) (wBq (Keep.cons (t := 1) rfl (Keep.cons (t := 2) rfl (Keep.cons (t := 3) rfl (Keep.cons (t := 4) rfl (Keep.cons (t := 5) rfl (Keep.cons (t := 6) rfl (Keep.cons (t := 7) rfl (Keep.cons (t := 33) rfl (Keep.cons (t := 34) rfl (Keep.cons (t := 35) rfl Keep.nil)))))))))) ?_)
    exact rest (Mp, ⟨ba7, bn7, bc7, wa7, wn7, wc7, na7, nn7, nc7, la7, ln7, lc7⟩, b7) hM3
  ·refine wCp rfl rfl rfl (wAr rfl rfl) ?_; rintro _ _ _ ⟨b7, rfl, rfl, rfl⟩
   refine wAo (by first | exact MLe.refl _ | exact hM3) (by simp) ?_
   refine wBa [3] (by kernel_rfl) rfl ⟨?_, trivial⟩
   ·refine wCp rfl rfl rfl (wAv rfl rfl rfl rfl rfl (by kernel_rfl) (wFe t0 _ n0 (kyO 1) Mq4 hT4)) ?_; rintro _ Mp _ ⟨hM3, R3, rfl, hpt7, rfl⟩
    refine wAo (hM3) (by simp) ?_
    obtain ⟨ba7, bn7, bc7, wa7, wn7, wc7, na7, nn7, nc7, la7, ln7, lc7, at7, e7, rfl, hq7⟩ := hpt7.form
    simp only [List.nil_append]
    obtain ⟨rfl, rfl⟩ := dt_no hd6 hq7
    refine wDi (i := 4) rfl (by kernel_rfl) (by kernel_rfl) rfl ?_
    refine wDi (i := 5) rfl (by kernel_rfl) (by kernel_rfl) rfl ?_
    refine wDi (i := 6) rfl (by kernel_rfl) (by kernel_rfl) rfl ?_
    refine wDi (i := 7) rfl (by kernel_rfl) (by kernel_rfl) rfl ?_
    refine wBr (listed' := #[true, true, true, true, true, true, true, true, true, false, false, false]) (by kernel_rfl) (wBq (Keep.cons (t := 1) rfl (Keep.cons (t := 2) rfl (Keep.cons (t := 3) rfl (Keep.cons (t := 4) rfl (Keep.cons (t := 5) rfl (Keep.cons (t := 6) rfl (Keep.cons (t := 7) rfl (Keep.cons (t := 33) rfl (Keep.cons (t := 34) rfl (Keep.cons (t := 35) rfl Keep.nil)))))))))) ?_)
    exact rest (Mp, ⟨ba7, bn7, bc7, wa7, wn7, wc7, na7, nn7, nc7, la7, ln7, lc7⟩, b7) hM3
 refine wBa [3, 8] (by kernel_rfl) rfl ⟨?_, ?_, trivial⟩
 ·refine wCp rfl rfl rfl (wAv rfl rfl rfl rfl rfl (by kernel_rfl) (wFe s1 _ r1 (kyO 1) M2 hs1)) ?_; rintro _ Mp _ ⟨hM3, R3, rfl, hpt4, rfl⟩
  refine wAo (hM3) (by simp) ?_
  obtain ⟨ba4, bn4, bc4, wa4, wn4, wc4, na4, nn4, nc4, la4, ln4, lc4, at4, e4, rfl, hq4⟩ := hpt4.form
  simp only [List.nil_append]
  obtain ⟨hT, rfl, rfl⟩ := dt_ok hdl hq4
  refine wDi (i := 4) rfl (by kernel_rfl) (by kernel_rfl) rfl ?_
  refine wDi (i := 5) rfl (by kernel_rfl) (by kernel_rfl) rfl ?_
  refine wDi (i := 6) rfl (by kernel_rfl) (by kernel_rfl) rfl ?_
  refine wDi (i := 7) rfl (by kernel_rfl) (by kernel_rfl) rfl ?_
  refine wBa [8] (by kernel_rfl) rfl ⟨?_, trivial⟩
  ·refine wCp rfl rfl rfl (wAr rfl rfl) ?_; rintro _ _ _ ⟨b4, rfl, rfl, rfl⟩
   refine wAo (by first | exact MLe.refl _ | exact hM3) (by simp) ?_
   refine wBr (listed' := #[true, true, true, true, true, true, true, true, true, false, false, false]) (by kernel_rfl) (wBq (Keep.cons (t := 1) rfl (Keep.cons (t := 2) rfl (Keep.cons (t := 3) rfl (Keep.cons (t := 4) rfl (Keep.cons (t := 25) rfl (Keep.cons (t := 26) rfl (Keep.cons (t := 27) rfl Keep.nil))))))) ?_)
   exact rest (Mp, ⟨ba4, bn4, bc4, wa4, wn4, wc4, na4, nn4, nc4, la4, ln4, lc4⟩, b4) ⟨hM3, hT⟩
 ·refine wCp rfl rfl rfl (wAr rfl rfl) ?_; rintro _ _ _ ⟨b4, rfl, rfl, rfl⟩
  refine wAo (by first | exact MLe.refl _ | exact hM3) (by simp) ?_
  refine wBa [3] (by kernel_rfl) rfl ⟨?_, trivial⟩
  ·refine wCp rfl rfl rfl (wAv rfl rfl rfl rfl rfl (by kernel_rfl) (wFe s1 _ r1 (kyO 1) M2 hs1)) ?_; rintro _ Mp _ ⟨hM3, R3, rfl, hpt4, rfl⟩
   refine wAo (hM3) (by simp) ?_
   obtain ⟨ba4, bn4, bc4, wa4, wn4, wc4, na4, nn4, nc4, la4, ln4, lc4, at4, e4, rfl, hq4⟩ := hpt4.form
   simp only [List.nil_append]
   obtain ⟨hT, rfl, rfl⟩ := dt_ok hdl hq4
   refine wDi (i := 4) rfl (by kernel_rfl) (by kernel_rfl) rfl ?_
   refine wDi (i := 5) rfl (by kernel_rfl) (by kernel_rfl) rfl ?_
   refine wDi (i := 6) rfl (by kernel_rfl) (by kernel_rfl) rfl ?_
   refine wDi (i := 7) rfl (by kernel_rfl) (by kernel_rfl) rfl ?_
   refine wBr (listed' := #[true, true, true, true, true, true, true, true, true, false, false, false]) (by kernel_rfl) (wBq (Keep.cons (t := 1) rfl (Keep.cons (t := 2) rfl (Keep.cons (t := 3) rfl (Keep.cons (t := 4) rfl (Keep.cons (t := 25) rfl (Keep.cons (t := 26) rfl (Keep.cons (t := 27) rfl Keep.nil))))))) ?_)
   exact rest (Mp, ⟨ba4, bn4, bc4, wa4, wn4, wc4, na4, nn4, nc4, la4, ln4, lc4⟩, b4) ⟨hM3, hT⟩
end Go.Proofs.Ytckdncmjkloebaa
