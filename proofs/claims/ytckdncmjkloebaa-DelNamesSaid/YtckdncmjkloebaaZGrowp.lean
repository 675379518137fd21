/- Walks: the example that each statement begins with. No statement of the seat is proved here. -/
import Derived.Test.YtckdncmjkloebaaZLawb
namespace Go.Proofs.Ytckdncmjkloebaa
set_option linter.unusedVariables false
set_option linter.unusedSimpArgs false
open Go.RowKit
structure V4 where
 ba : Option Addr
 bn : Nat
 bc : Nat
 wa : Option Addr
 wn : Nat
 wc : Nat
 na : Option Addr
 nn : Nat
 nc : Nat
 la : Option Addr
 ln : Nat
 lc : Nat
abbrev vcl (x : V4) : List Value := [.slice x.ba x.bn x.bc, .slice x.wa x.wn x.wc, .slice x.na x.nn x.nc, .slice x.la x.ln x.lc]
structure GwS where
 k : Nat
 s : Sto
 r : Int
 M : Mem
 v : V4
def kyO (n : Int) : Ky := ⟨2, 0, n⟩
def itO (n : Int) : It := ⟨kyO n, 0, []⟩
def wFx : Nat → Except Int (Sto × Int)
 | 0 => .ok (mkS st0 0 [], (wGg (wBb st0 []) : Int))
 | k + 1 => match wFx k with
  | .error e => .error e
  | .ok (s, r) => putF s r (itO ((k + 1 : Nat) : Int))
def okE {α : Type} : Except Int α → Bool
 | .ok _ => true
 | .error _ => false
theorem new_ok : dmE st0 0 [] = 0 := by decide +kernel
theorem grow_zero : wFx 0 = .ok (mkS st0 0 [], (wGg (wBb st0 []) : Int)) := rfl
theorem grow_all : ∀ k, k ≤ 6 → okE (wFx k) = true := by decide +kernel
theorem grow_no {k : Nat} (h : k + 1 ≤ 6) {s : Sto} {r e : Int} (hg : wFx k = .ok (s, r)) (he : putF s r (itO ((k + 1 : Nat) : Int)) = .error e) : False := by
 have h1 := grow_all (k + 1) h
 rw [wFx, hg] at h1
 change okE (putF s r (itO ((k + 1 : Nat) : Int))) = true at h1
 rw [he] at h1; cases h1
theorem kyO_ok {n : Int} (h : 0 ≤ n ∧ n < 4294967296) : wEv (kyO n) := ⟨by show (0 : Int) ≤ 2 ∧ (2 : Int) < 256; omega, by show (0 : Int) ≤ 0 ∧ (0 : Int) < 4294967296; omega, h⟩
theorem pkey (n : Int) (M : Mem) :
  SpecL Try.prog 8 #[.int .u32 n] M [] fun v _ _ => v = .agg (wBo (kyO n)).toArray := by
 refine wAi (vs := [_]) 5 _ Try.func8 rfl Try.ntmps8 rfl rfl ?_; intro W
 refine wAb (wAa ?_)
 refine wAu rfl rfl (wAr rfl rfl) ?_; rintro _ _ _ ⟨b2, rfl, rfl, rfl⟩
 refine wAc (jT (wAb (wAa ?_)))
 refine jp rfl ?_
 refine wAe rfl rfl (wAy (cs := [_, _, _]) rfl rfl rfl (by rfl)) ?_
 refine wBg rfl (wAf rfl rfl rfl rfl rfl rfl rfl rfl) ?_; rintro _ _ _ ⟨rfl, rfl⟩
 refine wAc (jT (wAh ?_))
 refine jrs (rs := [_]) rfl (.cons (.agg rfl rfl rfl) .nil) ?_
 rfl
set_option maxHeartbeats 2000000 in
theorem pgrown (n : Nat) (hn : n ≤ 6) (M : Mem) :
  SpecL Try.prog 6 #[.int .u32 n] M [] fun u M' L' => (∃ x r s, u = .tuple #[.agg (vcl x).toArray, .int .i64 r, .bool true] ∧ ST M' (.agg (vcl x).toArray) s ∧ wCr s ∧ wFx n = .ok (s, r)) ∧ L' = [] := by
 refine wAi (vs := [_]) 38 _ Try.func6 rfl Try.ntmps6 rfl rfl ?_; intro W
 refine wAb (wAa ?_)
 refine wAu rfl rfl (wAr rfl rfl) ?_; rintro _ _ _ ⟨b2, rfl, rfl, rfl⟩
 iterate 2 refine jp rfl ?_
 refine wAc (jT (wAb (wAa ?_)))
 refine wAu rfl rfl (wAv rfl rfl rfl rfl rfl (by kernel_rfl) (rnew_spec M)) ?_; rintro _ M1 _ ⟨hM1, _, rfl, ⟨hs0, rfl⟩⟩
 obtain ⟨z1, z2, z3, z4, rfl, f1, f2, f3, f4⟩ := id hs0.ex
 simp only [List.nil_append]
 refine wAu rfl rfl (wAv rfl rfl rfl rfl rfl (by kernel_rfl) (pnew_walk st0 _ _ _ _ M1 hs0)) ?_; rintro _ M2 _ ⟨hM2, _, rfl, ⟨hdm, rfl⟩⟩
 obtain ⟨ba, bn, bc, wa, wn, wc, na, nn, nc, la, ln, lc, at_, e, rfl, hq⟩ := hdm.form
 obtain ⟨he, he2, _⟩ | ⟨rfl, _, hat, _, hs1, hk1⟩ := hq
 ·exfalso; exact he (he2.trans new_ok)
 simp only [List.nil_append]
 iterate 4 refine jp rfl ?_
 refine wAu rfl rfl (wAr rfl rfl) ?_; rintro _ _ _ ⟨b5, rfl, rfl, rfl⟩
 refine wBg rfl (wAf rfl rfl rfl rfl rfl rfl rfl rfl) ?_; rintro _ _ _ ⟨rfl, rfl⟩
 iterate 2 refine jp rfl ?_
 refine wAc (jT (wAb (wAb (wAa ?_))))
 refine jp rfl ?_
 refine wAc (jT (wAk ?_))
 refine wBf (α := GwS) (fun x => [(0, .int .u32 n), (2, .pointer (some ⟨b2, 0, none⟩)), (5, .pointer (some ⟨b5, 0, none⟩)), (6, .int .i64 x.r), (7, .int .i64 0), (8, .int .u32 ((x.k + 1 : Nat) : Int))]) (fun x => x.M) (fun x => [(b5, .cells (vcl x.v).toArray TSt (0, 0)), (b2, .cells [.slice none 0 0, .slice none 0 0, .slice none 0 0, .slice none 0 0].toArray TSt (0, 0))]) (fun x => x.k ≤ n ∧ ST x.M (.agg (vcl x.v).toArray) x.s ∧ wCr x.s ∧ wFx x.k = .ok (x.s, x.r)) (fun x => n - x.k)
  ⟨0, mkS st0 0 [], at_, M2, ⟨ba, bn, bc, wa, wn, wc, na, nn, nc, la, ln, lc⟩⟩ (Keep.cons (t := 0) rfl (Keep.cons (t := 2) rfl (Keep.cons (t := 5) rfl (Keep.cons (t := 6) rfl (Keep.cons (t := 7) rfl (Keep.cons (t := 8) rfl Keep.nil)))))) ⟨Nat.zero_le _, hs1, hk1, by rw [hat]; exact grow_zero⟩ (fun _ h => h) ?_
 rintro ⟨k, s, r, Mk, x⟩ ⟨hk, hs, hok, hg⟩
 try dsimp only at hk hs hok hg ⊢
 refine wAb (wAb (wAa ?_))
 iterate 2 refine jp rfl ?_
 refine js rfl (fun h17 => ?_) (fun h17 => ?_)
 ·iterate 2 refine jp rfl ?_
  refine jt rfl (decide_eq_true (by omega)) ?_
  refine jp rfl ?_
  refine wAc (jT (wAj rfl (wAg (jT (wAb (wAk ?_))))))
  refine wEy (p := { A := fun i => !([10].contains i), U := fun i => !([8, 9, 10, 11, 12].contains i) }) [(0, true), (1, true), (2, true), (3, true), (4, true), (5, false), (6, true), (7, true), (8, true), (9, true), (10, false), (11, true), (12, true)] _ (_) ([]) (by kernel_rfl) (by kernel_rfl) (by kernel_rfl) (by kernel_rfl) rfl (fun _ h => h) (MLe.refl _) (by simp) ?_
  refine wAw rfl rfl rfl (wCb rfl rfl rfl rfl rfl) ?_
  iterate 2 refine dp rfl rfl ?_
  refine wAw rfl rfl rfl (wBw rfl rfl rfl rfl rfl (by kernel_rfl) (pkey ((k + 1 : Nat) : Int) Mk)) ?_
  refine wAw rfl rfl rfl (wAy (cs := [_, _, _, _, _]) rfl rfl rfl (by rfl)) ?_
  have hk6 : k + 1 ≤ 6 := by omega
  refine wJa rfl rfl rfl (wAv rfl rfl rfl rfl rfl (by kernel_rfl) (wGw s _ (.slice none 0 0) r (itO ((k + 1 : Nat) : Int)) Mk hs BS.nil (kyO_ok (by omega)))) ?_; rintro _ Mp _ ⟨hMp, _, rfl, ⟨hpt, rfl⟩⟩
  refine ⟨_, _, MLe.refl _, hMp, fun _ h => h, by simp, ?_⟩
  obtain ⟨ba, bn, bc, wa, wn, wc, na, nn, nc, la, ln, lc, at_, e, rfl, hq⟩ := hpt.form
  obtain ⟨he, he2, _⟩ | ⟨rfl, t, ht, _, _, hs2, hk2⟩ := hq
  ·exfalso; exact grow_no hk6 hg he2
  simp only [List.nil_append]
  iterate 4 refine dp rfl rfl ?_
  refine jd_e rfl rfl (wAf rfl rfl rfl rfl rfl rfl rfl rfl) ?_; rintro _ _ _ ⟨rfl, rfl⟩
  refine ⟨hMp, by simp, ?_⟩
  refine ep rfl rfl ?_
  refine ep rfl rfl ?_
  refine wKs ?_
  refine jPn (jB (jT (wAa ?_)))
  refine jp rfl ?_
  refine wAe rfl rfl (qEq (qAk rfl rfl rfl rfl rfl (by rw [IntKind.wrap_u32]; omega)) (v' := .int .u32 ((k + 1 + 1 : Nat) : Int)) (congrArg _ (by omega))) ?_
  refine jp rfl ?_
  refine wAc ?_
  refine wBc ⟨k + 1, t, at_, Mp, ⟨ba, bn, bc, wa, wn, wc, na, nn, nc, la, ln, lc⟩⟩ (Keep.cons (t := 0) rfl (Keep.cons (t := 2) rfl (Keep.cons (t := 5) rfl (Keep.cons (t := 6) rfl (Keep.cons (t := 7) rfl (Keep.cons (t := 8) rfl Keep.nil)))))) ⟨by show k + 1 ≤ n; omega, hs2, hk2, by show wFx (k + 1) = _; rw [wFx, hg]; exact ht⟩ (by show n - (k + 1) < n - k; omega) (fun _ h => h)
 ·iterate 4 refine jp rfl ?_
  refine wAc (jT (wAm rfl (wBe (jTx (jTx (jBx (jT (wAb (wAa ?_)))))))))
  refine wAe rfl rfl (wCb rfl rfl rfl rfl rfl) ?_
  iterate 2 refine jp rfl ?_
  refine wAe rfl rfl (qP rfl rfl) ?_
  refine wBg rfl (wAf rfl rfl rfl rfl rfl rfl rfl rfl) ?_; rintro _ _ _ ⟨rfl, rfl⟩
  iterate 2 refine jp rfl ?_
  refine wAc (jT (wAh ?_))
  refine wEm (rs := [_, _, _]) ([]) (by exact List.nil_sublist _) rfl (.cons (.agg rfl rfl rfl) (.cons (.tmp rfl) (.cons (.tmp rfl) .nil))) ?_
  obtain rfl : k = n := by omega
  exact ⟨⟨x, r, s, rfl, hs, hok, hg⟩, rfl⟩
def alF : Bool := match wFx 6 with | .ok (s, r) => decide (wDm s r = (2, 0)) | .error _ => false
theorem al_yes : alF = true := by decide +kernel
theorem al_fchk {s : Sto} {r : Int} (h : wFx 6 = .ok (s, r)) : wDm s r = (2, 0) := by
 have := al_yes
 unfold alF at this
 rw [h] at this
 exact of_decide_eq_true this
theorem palive (M : Mem) :
  SpecL Try.prog 5 #[] M [] fun u M' L' => u = .bool true ∧ L' = [] := by
 refine wAi (vs := []) 26 _ Try.func5 rfl Try.ntmps5 rfl rfl ?_; intro W
 refine wAb (wAa ?_)
 refine jp rfl ?_
 refine wAc (jT (wAb (wAa ?_)))
 refine wAu rfl rfl (wAv rfl rfl rfl rfl rfl (by kernel_rfl) (pgrown 6 (by omega) M)) ?_; rintro _ M1 _ ⟨hM1, _, rfl, ⟨⟨x, r, s, rfl, hs, hok, hg⟩, rfl⟩⟩
 iterate 3 refine jp rfl ?_
 refine jsb rfl (fun h10 => ?_) (fun h10 => ?_)
 ·refine wAu rfl rfl (wAr rfl rfl) ?_; rintro _ _ _ ⟨b1, rfl, rfl, rfl⟩
  refine wBg rfl (wAf rfl rfl rfl rfl rfl rfl rfl rfl) ?_; rintro _ _ _ ⟨rfl, rfl⟩
  iterate 2 refine jp rfl ?_
  refine wAc (jT (wAb (wAa ?_)))
  refine wAe rfl rfl (wCb rfl rfl rfl rfl rfl) ?_
  refine jp rfl ?_
  refine wAe rfl rfl (wBw rfl rfl rfl rfl rfl (by kernel_rfl) (wJw s _ r M1 hs)) ?_
  iterate 5 refine jp rfl ?_
  refine wAc (jT (wAb (wAa ?_)))
  iterate 3 refine jp rfl ?_
  refine wAe rfl rfl (qEq (qEq (qP rfl rfl) (v' := .bool true) (by rw [al_fchk hg]; rfl)) (v' := .bool true) (by simp)) ?_
  iterate 3 refine jp rfl ?_
  refine wAe rfl rfl (qEq (qP rfl rfl) (v' := .bool true) (by rw [al_fchk hg]; rfl)) ?_
  iterate 2 refine jp rfl ?_
  refine wAc (jT (wAh ?_))
  refine wBk (L' := []) (List.nil_sublist _) ?_
  refine jr1 rfl rfl ?_
  exact ⟨rfl, rfl⟩
 ·cases h10
end Go.Proofs.Ytckdncmjkloebaa
