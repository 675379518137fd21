/- Walks: items told backwards. No statement of the seat is proved here. -/
import Derived.Test.YtoincdcejjdgkaaGreatZBench
namespace Go.Proofs.YtoincdcejjdgkaaGreat
set_option linter.unusedVariables false
set_option linter.unusedSimpArgs false
open Go.RowKit
theorem bwi (a : Option Addr) (n c : Nat) (M : Mem) :
  SpecL Tryz.prog 152 #[.slice a n c] M [] fun u M' L' => ∃ b, u = .func (.func 168) #[] #[.pointer (some ⟨b, 0, none⟩)] ∧ M' b = some (.cells #[.slice a n c] 59 (0, 0)) ∧ L' = [] := by
 refine wAf (vs := [_]) 4 _ Tryz.func152 rfl Tryz.ntmps152 rfl rfl ?_; intro W
 refine wAb (wAa (wAw rfl rfl (wCb (cs := [.slice a n c]) rfl rfl rfl rfl) ?_)); rintro _ _ _ ⟨b1, rfl, rfl, rfl⟩
 refine jp rfl (wAc (jT (wAb (wAa (jp rfl (jp rfl (wAc (jT (wAe (wBv b1 (by simp) ?_))))))))))
 intro M1 hM1 e1
 refine jr1 rfl rfl ?_
 exact ⟨b1, rfl, e1, rfl⟩
theorem bwi_body (b : Nat) (a : Option Addr) (c : Nat) (xs : List (It × Value)) (M : Mem) (hb : M b = some (.cells #[.slice a xs.length c] 59 (0, 0))) (hs : SM M a (xs.flatMap wBc)) (hn : xs.length ≤ 1000000) (l : Nat) (J Jx : List ((It × Value) × Nat) → Mem → Lc → Prop) (M1 : Mem) (L0 : Lc) (hM : MLe M M1) (hJ : ∀ pre y M2 L2, MLe M1 M2 → J pre M2 L2 → pre ++ [y] <+: bw xs 0 → RoundL Tryz.prog l ((fun p : (It × Value) × Nat => [.int .i64 p.2, .agg (wBc p.1).toArray]) y).toArray M2 L2 fun v M' L' => (v = .bool true ∧ J (pre ++ [y]) M' L') ∨ (v = .bool false ∧ Jx (pre ++ [y]) M' L')) (h0 : J [] M1 L0) :
  SpecL Tryz.prog 168 #[.func (.yield l) #[] #[], .pointer (some ⟨b, 0, none⟩)] M1 L0 fun _ M' L' => J (bw xs 0) M' L' ∨ ∃ pre, pre <+: bw xs 0 ∧ Jx pre M' L' := by
 have hbc : ∀ {M2 : Mem} (L : Lc), MLe M1 M2 → CJ M2 L b 0 (.slice a xs.length c) := fun L h => (CM.cj ⟨_, _, _, h _ _ (hM _ _ hb), rfl⟩ L)
 refine wAf (vs := [_, _]) 19 _ Tryz.func168 rfl Tryz.ntmps168 rfl rfl ?_; intro W
 refine wAb (wAa (wAi rfl rfl (qLd rfl rfl rfl rfl (hbc _ (MLe.refl _))) ?_))
 refine wAi rfl rfl (wBq rfl rfl rfl) ?_
 refine ja rfl (by omega) ?_
 refine jp rfl (wAc (jT (wAh ?_)))
 refine wAr (α := Int × Mem × Lc) (fun x => [(0, .func (.yield l) #[] #[]), (1, .pointer (some ⟨b, 0, none⟩)), (3, .int .i64 x.1)]) (fun x => x.2.1) (fun x => x.2.2) (fun x => -1 ≤ x.1 ∧ x.1 < xs.length ∧ MLe M1 x.2.1 ∧ J (bw xs (x.1 + 1).toNat) x.2.1 x.2.2) (fun x => (x.1 + 1).toNat)
  ((xs.length : Int) - 1, M1, L0) (.cons (t := 0) rfl (.cons (t := 1) rfl (.cons (t := 3) rfl .nil))) ⟨by show -1 ≤ (xs.length : Int) - 1; omega, by show (xs.length : Int) - 1 < xs.length; omega, MLe.refl _, by show J (bw xs ((xs.length : Int) - 1 + 1).toNat) _ _; rw [show ((xs.length : Int) - 1 + 1).toNat = xs.length by omega, bw_len]; exact h0⟩ (fun _ h => h) ?_
 rintro ⟨i, Mk, Lk⟩ ⟨hk0, hk, hMk, hJk⟩
 try dsimp only at hk0 hk hMk hJk ⊢
 refine wAb (wAb (wAa (jp rfl (js rfl (fun hge => ?_) (fun hge => ?_)))))
 ·refine wAc (jT (wAg rfl (wAd (jT (wAb (wAh (wAb (wAa (jp rfl (jp rfl ?_))))))))))
  obtain ⟨k, rfl⟩ : ∃ k : Nat, i = k := ⟨i.toNat, by omega⟩
  have hk1 : k < xs.length := by omega
  obtain ⟨sb, so, e0, hx⟩ := hs.open (by intro e; have := congrArg List.length e; rw [wAy wBc 5 wBe, List.length_nil] at this; omega)
  subst e0
  refine wAi rfl rfl (qLd rfl rfl rfl rfl (hbc _ hMk)) ?_
  refine jp rfl (wAi rfl rfl (wBa rfl rfl rfl rfl (by omega)) ?_)
  refine wAi rfl rfl (wEy (cs := wBc xs[k]) rfl rfl rfl rfl rfl (fun i v hv => ((wFf wBc 5 wBe hx (show xs[k]? = some xs[k] by simp [hk1]) i v hv).mono (hM.trans hMk)).cj _)) ?_
  refine wAw rfl rfl (hYield rfl rfl rfl rfl (hJ (bw xs (k + 1)) (xs[k], k) Mk Lk hMk (by rwa [show ((k : Int) + 1).toNat = k + 1 by omega] at hJk) (by rw [← wJv xs hk1]; exact wFq xs k))) ?_; rintro _ M' _ ⟨hM', R', rfl, hy⟩
  rw [← wJv xs hk1] at hy
  rcases hy with ⟨rfl, hy⟩ | ⟨rfl, hy⟩
  ·refine jp rfl (wAc (jT (wAj rfl (wAd (jB (jT (wAa (jp rfl (ja rfl (by omega) ?_)))))))))
   refine jp rfl (wAc ?_)
   refine wAp ((k : Int) - 1, M', R') (.cons (t := 0) rfl (.cons (t := 1) rfl (.cons (t := 3) rfl .nil))) ⟨by show -1 ≤ (k : Int) - 1; omega, by show (k : Int) - 1 < xs.length; omega, hMk.trans hM', by show J (bw xs ((k : Int) - 1 + 1).toNat) _ _; rw [show ((k : Int) - 1 + 1).toNat = k by omega]; exact hy⟩ (by show ((k : Int) - 1 + 1).toNat < ((k : Int) + 1).toNat; omega) (fun _ h => h.fewer (by simp))
  ·refine jp rfl (wAc (jT (wAg rfl (wAe (jBr (jTr (jTr (jBr (wAv (L' := R') (by simp) ?_)))))))))
   refine jrs (rs := []) rfl .nil ?_
   exact .inr ⟨_, wFq xs k, hy⟩
 ·refine wAc (jT (wAj rfl (wAs (jTx (jTx (jBx (jrn ?_)))))))
  refine jrs (rs := []) rfl .nil ?_
  obtain rfl : i = -1 := by omega
  exact .inl hJk
theorem bwi_iter (b : Nat) (a : Option Addr) (c : Nat) (xs : List (It × Value)) (M : Mem) (hb : M b = some (.cells #[.slice a xs.length c] 59 (0, 0))) (hs : SM M a (xs.flatMap wBc)) (hn : xs.length ≤ 1000000) : Iter Tryz.prog 168 [.pointer (some ⟨b, 0, none⟩)] M (fun p : (It × Value) × Nat => [.int .i64 p.2, .agg (wBc p.1).toArray]) (bw xs 0) :=
 fun l J Jx M1 L0 hM hJ h0 => bwi_body b a c xs M hb hs hn l J Jx M1 L0 hM hJ h0
end Go.Proofs.YtoincdcejjdgkaaGreat
