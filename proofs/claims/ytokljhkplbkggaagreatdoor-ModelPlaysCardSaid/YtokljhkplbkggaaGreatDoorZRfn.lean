/- Walks: a call on the document's forests. -/
import Derived.Test.YtokljhkplbkggaaGreatDoorZRfo
import Derived.Test.YtokljhkplbkggaaGreatDoorZRfp
namespace Go.Proofs.YtokljhkplbkggaaGreatDoor
set_option linter.unusedVariables false
set_option linter.unusedSectionVars false
set_option linter.unusedSimpArgs false
open Go.RowKit Go.MapKept
theorem path_no (s : Str) (M : Mem) (h : wAy s = none) : SpecL Tryz.prog 19 #[.string s] M [] (fun u _ L' => (∃ k, u = .tuple #[.agg [.int .i64 k, .slice none 0 0].toArray, .bool false]) ∧ L' = []) :=
 (path_spec s M).mono fun u M' L' hp => by unfold PathP at hp; rw [h] at hp; exact hp
theorem wFk (s : Str) (M : Mem) (w : Wy) (h : wAy s = some w) : SpecL Tryz.prog 19 #[.string s] M [] (fun u M' L' => (∃ a c, u = .tuple #[wyV w a c, .bool true] ∧ WyOk M' w a c) ∧ L' = []) :=
 (path_spec s M).mono fun u M' L' hp => by unfold PathP at hp; rw [h] at hp; exact hp
section
variable {S : PS} {c : CL} {k : Nat} (hk : c.kind = k) (h1 : 1 ≤ k) (h2 : k ≤ 18)
include hk h1 h2
theorem doI_eq0 (h : wDm k = 0) : doI insB wAy S c = opI insB S c (0, []) (0, []) k := by
 unfold doI; rw [if_neg (by omega), show c.kind.toNat = k by omega, if_pos h]
theorem doI_no1 (h : wDm k ≠ 0) (hp : wAy c.path = none) : doI insB wAy S c = (S, wCa 270) := by
 unfold doI; rw [if_neg (by omega), show c.kind.toNat = k by omega, if_neg h, hp]
theorem doI_eq1 (h : wDm k = 1) {w : Wy} (hp : wAy c.path = some w) : doI insB wAy S c = opI insB S c w (0, []) k := by
 unfold doI; rw [if_neg (by omega), show c.kind.toNat = k by omega, if_neg (by omega), hp]; simp only; rw [if_pos h]
theorem doI_no2 (h : wDm k = 2) {w : Wy} (hp : wAy c.path = some w) (ho : wAy c.other = none) : doI insB wAy S c = (S, wCa 270) := by
 unfold doI; rw [if_neg (by omega), show c.kind.toNat = k by omega, if_neg (by omega), hp]; simp only; rw [if_neg (by omega), ho]
theorem doI_eq2 (h : wDm k = 2) {w o : Wy} (hp : wAy c.path = some w) (ho : wAy c.other = some o) : doI insB wAy S c = opI insB S c w o k := by
 unfold doI; rw [if_neg (by omega), show c.kind.toNat = k by omega, if_neg (by omega), hp]; simp only; rw [if_neg (by omega), ho]
end
set_option maxHeartbeats 2000000 in
theorem rdo_out (f : GS) (n : Nat) (hwf : WFS n f.abs) (hn9 : n ≤ 90) (M : Mem) (hf : f.Ok M) (c : CL) (ca : Option Addr) (ck : Nat) (hC : CallOk M c ca ck) (hk : c.kind < 1 ∨ 18 < c.kind) :
  SpecL Tryz.prog 13 #[gsV f, clV c ca ck] M [] (RDoP (doI insB wAy f.abs c)) := by
 have hn : n ≤ 100 := by omega
 refine wAe (vs := [_, _]) 111 _ Tryz.func13 rfl Tryz.ntmps13 rfl rfl ?_; intro W
 refine wAb (wAa (sBx [_, _] rfl fun b2 => ?_))
 refine sBx [_, _, _, _, _, _, _] rfl fun b3 => ?_
 refine sAl rfl fun b4 => ?_
 refine sAl rfl fun b5 => ?_
 refine wAc (jT (wAb (wAb (wAa (sFL rfl rfl ?_)))))
 refine js rfl (fun h13 => ?_) (fun h13 => ?_)
 ·refine jp rfl (jp rfl (jp rfl (jp rfl (jp rfl (wAc (jT (wAf rfl (wAb (wCw [(0, true), (1, true), (2, false), (3, false)] _ (fun _ h => List.mem_cons_of_mem _ (List.mem_cons_of_mem _ (h))) ?_)))))))))
  refine dLL rfl rfl ?_
  refine dq rfl (qCl (wAu 2 M)) ?_
  refine dSt rfl rfl ?_
  refine dSt rfl rfl ?_
  refine wAs (jPn (jT (wAg (jTr (wEj (rs := [_, _]) rfl (.cons (.agg rfl rfl rfl) (.cons (.agg rfl rfl rfl) .nil)) ?_)))))
  exact RDoP.err hf (by unfold doI; rw [if_pos hk])
 refine jp rfl (sFL rfl rfl ?_)
 refine js rfl (fun h17 => ?_) (fun h17 => ?_)
 ·refine jp rfl (wAc (jT (wAf rfl (wAb (wCw [(0, true), (1, true), (2, false), (3, false)] _ (fun _ h => List.mem_cons_of_mem _ (List.mem_cons_of_mem _ (h))) ?_)))))
  refine dLL rfl rfl ?_
  refine dq rfl (qCl (wAu 2 M)) ?_
  refine dSt rfl rfl ?_
  refine dSt rfl rfl ?_
  refine wAs (jPn (jT (wAg (jTr (wEj (rs := [_, _]) rfl (.cons (.agg rfl rfl rfl) (.cons (.agg rfl rfl rfl) .nil)) ?_)))))
  exact RDoP.err hf (by unfold doI; rw [if_pos hk])
 omega
set_option maxHeartbeats 2000000 in
theorem rdo_vols (f : GS) (n : Nat) (hwf : WFS n f.abs) (hn9 : n ≤ 90) (M : Mem) (hf : f.Ok M) (c : CL) (ca : Option Addr) (ck : Nat) (hC : CallOk M c ca ck) (k : Nat) (hk : c.kind = k) (h1 : 1 ≤ k) (h2 : k ≤ 4) :
  SpecL Tryz.prog 13 #[gsV f, clV c ca ck] M [] (RDoP (doI insB wAy f.abs c)) := by
 have hn : n ≤ 100 := by omega
 refine wAe (vs := [_, _]) 111 _ Tryz.func13 rfl Tryz.ntmps13 rfl rfl ?_; intro W
 refine wAb (wAa (sBx [_, _] rfl fun b2 => ?_))
 refine sBx [_, _, _, _, _, _, _] rfl fun b3 => ?_
 refine sAl rfl fun b4 => ?_
 refine sAl rfl fun b5 => ?_
 refine wAc (jT (wAb (wAb (wAa (sFL rfl rfl ?_)))))
 refine jf rfl (decide_eq_false (by omega)) ?_
 refine jp rfl (sFL rfl rfl ?_)
 refine jf rfl (decide_eq_false (by omega)) ?_
 refine jp rfl (wAc (jT (wAh rfl (wAd (jT (wAb (wAb (wAa (sFL rfl rfl ?_)))))))))
 refine jt rfl (decide_eq_true (by omega)) ?_
 refine wAc (jT (wAf rfl (wAb (wAa (sLL rfl ?_)))))
 refine sLL rfl ?_
 refine wCe rfl rfl (hCl (ov_all f n hwf hn M hf c ca ck hC k hk h1 h2)) ?_; rintro _ _ _ ⟨_, _, rfl, ⟨g2, dv, nv, rfl, hg2, habs, hbs, hns, rfl⟩⟩
 obtain ⟨da9, dc9, rfl, hd1, hd2, hd3⟩ := hbs
 obtain ⟨na9, nc9, rfl, hn1, hn2, hn3⟩ := hns
 refine jp rfl (jp rfl (sSt rfl ?_))
 refine sSt rfl ?_
 refine wAc (jT (wAg (jTr (wEj (rs := [_, _]) rfl (.cons (.agg rfl rfl rfl) (.cons (.agg rfl rfl rfl) .nil)) ?_))))
 rw [doI_eq0 hk (by omega) (by omega) (by rcases (show k = 1 ∨ k = 2 ∨ k = 3 ∨ k = 4 by omega) with rfl | rfl | rfl | rfl <;> rfl)]
 exact ⟨g2, _, _, rfl, hg2, habs, ⟨_, _, rfl, hd1, hd2, hd3⟩, ⟨_, _, rfl, hn1, hn2, hn3⟩, rfl⟩
set_option maxHeartbeats 2000000 in
theorem rdo_reap (f : GS) (n : Nat) (hwf : WFS n f.abs) (hn9 : n ≤ 90) (M : Mem) (hf : f.Ok M) (c : CL) (ca : Option Addr) (ck : Nat) (hC : CallOk M c ca ck) (hk : c.kind = (18 : Nat)) :
  SpecL Tryz.prog 13 #[gsV f, clV c ca ck] M [] (RDoP (doI insB wAy f.abs c)) := by
 have hn : n ≤ 100 := by omega
 refine wAe (vs := [_, _]) 111 _ Tryz.func13 rfl Tryz.ntmps13 rfl rfl ?_; intro W
 refine wAb (wAa (sBx [_, _] rfl fun b2 => ?_))
 refine sBx [_, _, _, _, _, _, _] rfl fun b3 => ?_
 refine sAl rfl fun b4 => ?_
 refine sAl rfl fun b5 => ?_
 refine wAc (jT (wAb (wAb (wAa (sFL rfl rfl ?_)))))
 refine jf rfl (decide_eq_false (by omega)) ?_
 refine jp rfl (sFL rfl rfl ?_)
 refine jf rfl (decide_eq_false (by omega)) ?_
 refine jp rfl (wAc (jT (wAh rfl (wAd (jT (wAb (wAb (wAa (sFL rfl rfl ?_)))))))))
 refine jf rfl (decide_eq_false (by omega)) ?_
 refine wAc (jT (wAh rfl (wAd (jT (wAb (wAb (wAa (sFL rfl rfl ?_))))))))
 refine jt rfl (decide_eq_true (by omega)) ?_
 refine wAc (jT (wAf rfl (wAb (wAb (wAa (sFL rfl rfl ?_))))))
 refine wEk rfl rfl (qCl (wEh c.a 0 1000 M)) (fun h34 => ?_) (fun h34 => ?_)
 ·refine jp rfl (wAc (jT (wAh rfl (wAd (jT (wAb (wAa (sLL rfl ?_))))))))
  refine lq (wBe (cs := [_, _, _, _, _, _, _, _]) rfl rfl rfl (by rfl)) ?_
  refine sSt rfl ?_
  refine sSt rfl ?_
  refine wAc (jT (wAg (jTr (wEj (rs := [_, _]) rfl (.cons (.agg rfl rfl rfl) (.cons (.agg rfl rfl rfl) .nil)) ?_))))
  rw [doI_eq0 hk (by decide) (by decide) rfl]
  have e : reapS f.abs c = (f.abs, {}) := by unfold reapS; rw [if_pos h34]
  show RDoP (reapS f.abs c) _ _ _
  rw [e]; exact RDoP.plain hf rfl rfl rfl
 refine jp rfl (wAc (jT (wAf rfl (wAb (wCw [(0, true), (1, true), (2, false), (3, false)] _ (fun _ h => List.mem_cons_of_mem _ (List.mem_cons_of_mem _ (h))) ?_)))))
 refine dLL rfl rfl ?_
 refine dq rfl (qCl (wAu 2 M)) ?_
 refine dSt rfl rfl ?_
 refine dSt rfl rfl ?_
 refine wAs (jPn (jT (wAg (jTr (jTr (wEj (rs := [_, _]) rfl (.cons (.agg rfl rfl rfl) (.cons (.agg rfl rfl rfl) .nil)) ?_))))))
 exact RDoP.err hf (by rw [doI_eq0 hk (by decide) (by decide) rfl]; show reapS f.abs c = _; unfold reapS; rw [if_neg (by rw [h34]; simp)])
set_option maxHeartbeats 2000000 in
theorem rdo_no1 (f : GS) (n : Nat) (hwf : WFS n f.abs) (hn9 : n ≤ 90) (M : Mem) (hf : f.Ok M) (c : CL) (ca : Option Addr) (ck : Nat) (hC : CallOk M c ca ck) (k : Nat) (hk : c.kind = k) (h1 : 5 ≤ k) (h2 : k ≤ 17) (hpo : wDm k ≠ 0) (hp : wAy c.path = none) :
  SpecL Tryz.prog 13 #[gsV f, clV c ca ck] M [] (RDoP (doI insB wAy f.abs c)) := by
 have hn : n ≤ 100 := by omega
 refine wAe (vs := [_, _]) 111 _ Tryz.func13 rfl Tryz.ntmps13 rfl rfl ?_; intro W
 refine wAb (wAa (sBx [_, _] rfl fun b2 => ?_))
 refine sBx [_, _, _, _, _, _, _] rfl fun b3 => ?_
 refine sAl rfl fun b4 => ?_
 refine sAl rfl fun b5 => ?_
 refine wAc (jT (wAb (wAb (wAa (sFL rfl rfl ?_)))))
 refine jf rfl (decide_eq_false (by omega)) ?_
 refine jp rfl (sFL rfl rfl ?_)
 refine jf rfl (decide_eq_false (by omega)) ?_
 refine jp rfl (wAc (jT (wAh rfl (wAd (jT (wAb (wAb (wAa (sFL rfl rfl ?_)))))))))
 refine jf rfl (decide_eq_false (by omega)) ?_
 refine wAc (jT (wAh rfl (wAd (jT (wAb (wAb (wAa (sFL rfl rfl ?_))))))))
 refine jf rfl (decide_eq_false (by omega)) ?_
 refine wAc (jT (wAh rfl (wAd (jT (wAb (wAa (sFL rfl rfl ?_)))))))
 refine wCe rfl rfl (hCl (path_no c.path M hp)) ?_; rintro _ M2 _ ⟨hM2, _, rfl, ⟨⟨pk, rfl⟩, rfl⟩⟩
 refine jp rfl (jp rfl (jp rfl (sAl rfl fun b6 => ?_)))
 refine sSt rfl ?_
 refine jp rfl (wAc (jT (wAb (wAb (wAa (jp rfl (jp rfl (wAc (jT (wAf rfl (wAb (wCw [(0, true), (1, true), (2, false), (3, false)] [(b2, .cells (gsC f).toArray 53 (0, 0))] (by simp) ?_))))))))))))
 refine dLL rfl rfl ?_
 refine dq rfl (qCl (wAu 270 M2)) ?_
 refine dSt rfl rfl ?_
 refine dSt rfl rfl ?_
 refine wAs (jPn (jT (wAg (jTr (wEj (rs := [_, _]) rfl (.cons (.agg rfl rfl rfl) (.cons (.agg rfl rfl rfl) .nil)) ?_)))))
 exact RDoP.err (hf.mono hM2) (doI_no1 hk (by omega) (by omega) hpo hp)
set_option maxHeartbeats 2000000 in
theorem rdo_no2 (f : GS) (n : Nat) (hwf : WFS n f.abs) (hn9 : n ≤ 90) (M : Mem) (hf : f.Ok M) (c : CL) (ca : Option Addr) (ck : Nat) (hC : CallOk M c ca ck) (k : Nat) (hk : c.kind = k) (h11 : k = 11 ∨ k = 12 ∨ k = 14) (w : Wy) (hp : wAy c.path = some w) (ho : wAy c.other = none) :
  SpecL Tryz.prog 13 #[gsV f, clV c ca ck] M [] (RDoP (doI insB wAy f.abs c)) := by
 have hn : n ≤ 100 := by omega
 refine wAe (vs := [_, _]) 111 _ Tryz.func13 rfl Tryz.ntmps13 rfl rfl ?_; intro W
 refine wAb (wAa (sBx [_, _] rfl fun b2 => ?_))
 refine sBx [_, _, _, _, _, _, _] rfl fun b3 => ?_
 refine sAl rfl fun b4 => ?_
 refine sAl rfl fun b5 => ?_
 refine wAc (jT (wAb (wAb (wAa (sFL rfl rfl ?_)))))
 refine jf rfl (decide_eq_false (by omega)) ?_
 refine jp rfl (sFL rfl rfl ?_)
 refine jf rfl (decide_eq_false (by omega)) ?_
 refine jp rfl (wAc (jT (wAh rfl (wAd (jT (wAb (wAb (wAa (sFL rfl rfl ?_)))))))))
 refine jf rfl (decide_eq_false (by omega)) ?_
 refine wAc (jT (wAh rfl (wAd (jT (wAb (wAb (wAa (sFL rfl rfl ?_))))))))
 refine jf rfl (decide_eq_false (by omega)) ?_
 refine wAc (jT (wAh rfl (wAd (jT (wAb (wAa (sFL rfl rfl ?_)))))))
 refine wCe rfl rfl (hCl (wFk c.path M w hp)) ?_; rintro _ M2 _ ⟨hM2, _, rfl, ⟨⟨na, nc, rfl, hW⟩, rfl⟩⟩
 refine jp rfl (jp rfl (jp rfl (sAl rfl fun b6 => ?_)))
 refine sSt rfl ?_
 refine jp rfl (wAc (jT (wAb (wAb (wAa (jp rfl (jp rfl (wAc (jT (wAh rfl (wAd (jT (wAb (wAa (sAl rfl fun b8 => ?_)))))))))))))))
 refine wAc (jT (wAb (wAb (wAa (sFL rfl rfl ?_)))))
 refine js rfl (fun h52 => ?_) (fun h52 => ?_)
 ·iterate 10 refine jp rfl ?_
  refine wAc (jT (wAf rfl (wAb (wAa (sFL rfl rfl ?_)))))
  refine wCe rfl rfl (hCl (path_no c.other M2 ho)) ?_; rintro _ M3 _ ⟨hM3, _, rfl, ⟨⟨pk, rfl⟩, rfl⟩⟩
  have hM23 := hM2.trans hM3
  refine jp rfl (jp rfl (jp rfl (sAl rfl fun b9 => ?_)))
  refine sSt rfl ?_
  refine jp rfl (wAc (jT (wAb (wAb (wAa (jp rfl (jp rfl (wAc (jT (wAf rfl (wAb (wCw [(0, true), (1, true), (2, false), (3, false)] [(b2, .cells (gsC f).toArray 53 (0, 0))] (by simp) ?_))))))))))))
  refine dLL rfl rfl ?_
  refine dq rfl (qCl (wAu 270 M3)) ?_
  refine dSt rfl rfl ?_
  refine dSt rfl rfl ?_
  refine wAs (jPn (jT (wAg (jTr (jTr (wEj (rs := [_, _]) rfl (.cons (.agg rfl rfl rfl) (.cons (.agg rfl rfl rfl) .nil)) ?_))))))
  exact RDoP.err (hf.mono hM23) (doI_no2 hk (by omega) (by omega) (by rcases h11 with rfl | rfl | rfl <;> rfl) hp ho)
 refine jp rfl (sFL rfl rfl ?_)
 refine js rfl (fun h56 => ?_) (fun h56 => ?_)
 ·refine jp rfl (jp rfl (jp rfl (jp rfl (jp rfl (jp rfl (wAc (jT (wAf rfl (wAb (wAa (sFL rfl rfl ?_)))))))))))
  refine wCe rfl rfl (hCl (path_no c.other M2 ho)) ?_; rintro _ M3 _ ⟨hM3, _, rfl, ⟨⟨pk, rfl⟩, rfl⟩⟩
  have hM23 := hM2.trans hM3
  refine jp rfl (jp rfl (jp rfl (sAl rfl fun b9 => ?_)))
  refine sSt rfl ?_
  refine jp rfl (wAc (jT (wAb (wAb (wAa (jp rfl (jp rfl (wAc (jT (wAf rfl (wAb (wCw [(0, true), (1, true), (2, false), (3, false)] [(b2, .cells (gsC f).toArray 53 (0, 0))] (by simp) ?_))))))))))))
  refine dLL rfl rfl ?_
  refine dq rfl (qCl (wAu 270 M3)) ?_
  refine dSt rfl rfl ?_
  refine dSt rfl rfl ?_
  refine wAs (jPn (jT (wAg (jTr (jTr (wEj (rs := [_, _]) rfl (.cons (.agg rfl rfl rfl) (.cons (.agg rfl rfl rfl) .nil)) ?_))))))
  exact RDoP.err (hf.mono hM23) (doI_no2 hk (by omega) (by omega) (by rcases h11 with rfl | rfl | rfl <;> rfl) hp ho)
 refine jp rfl (jp rfl (sFL rfl rfl ?_))
 refine js rfl (fun h61 => ?_) (fun h61 => ?_)
 ·refine jp rfl (wAc (jT (wAf rfl (wAb (wAa (sFL rfl rfl ?_))))))
  refine wCe rfl rfl (hCl (path_no c.other M2 ho)) ?_; rintro _ M3 _ ⟨hM3, _, rfl, ⟨⟨pk, rfl⟩, rfl⟩⟩
  have hM23 := hM2.trans hM3
  refine jp rfl (jp rfl (jp rfl (sAl rfl fun b9 => ?_)))
  refine sSt rfl ?_
  refine jp rfl (wAc (jT (wAb (wAb (wAa (jp rfl (jp rfl (wAc (jT (wAf rfl (wAb (wCw [(0, true), (1, true), (2, false), (3, false)] [(b2, .cells (gsC f).toArray 53 (0, 0))] (by simp) ?_))))))))))))
  refine dLL rfl rfl ?_
  refine dq rfl (qCl (wAu 270 M3)) ?_
  refine dSt rfl rfl ?_
  refine dSt rfl rfl ?_
  refine wAs (jPn (jT (wAg (jTr (jTr (wEj (rs := [_, _]) rfl (.cons (.agg rfl rfl rfl) (.cons (.agg rfl rfl rfl) .nil)) ?_))))))
  exact RDoP.err (hf.mono hM23) (doI_no2 hk (by omega) (by omega) (by rcases h11 with rfl | rfl | rfl <;> rfl) hp ho)
 omega
set_option maxHeartbeats 2000000 in
theorem rdo_create (f : GS) (n : Nat) (hwf : WFS n f.abs) (hn9 : n ≤ 90) (M : Mem) (hf : f.Ok M) (c : CL) (ca : Option Addr) (ck : Nat) (hC : CallOk M c ca ck) (k : Nat) (hk : c.kind = k) (h56 : k = 5 ∨ k = 6) (w : Wy) (hp : wAy c.path = some w) :
  SpecL Tryz.prog 13 #[gsV f, clV c ca ck] M [] (RDoP (doI insB wAy f.abs c)) := by
 have hn : n ≤ 100 := by omega
 refine wAe (vs := [_, _]) 111 _ Tryz.func13 rfl Tryz.ntmps13 rfl rfl ?_; intro W
 refine wAb (wAa (sBx [_, _] rfl fun b2 => ?_))
 refine sBx [_, _, _, _, _, _, _] rfl fun b3 => ?_
 refine sAl rfl fun b4 => ?_
 refine sAl rfl fun b5 => ?_
 refine wAc (jT (wAb (wAb (wAa (sFL rfl rfl ?_)))))
 refine jf rfl (decide_eq_false (by omega)) ?_
 refine jp rfl (sFL rfl rfl ?_)
 refine jf rfl (decide_eq_false (by omega)) ?_
 refine jp rfl (wAc (jT (wAh rfl (wAd (jT (wAb (wAb (wAa (sFL rfl rfl ?_)))))))))
 refine jf rfl (decide_eq_false (by omega)) ?_
 refine wAc (jT (wAh rfl (wAd (jT (wAb (wAb (wAa (sFL rfl rfl ?_))))))))
 refine jf rfl (decide_eq_false (by omega)) ?_
 refine wAc (jT (wAh rfl (wAd (jT (wAb (wAa (sFL rfl rfl ?_)))))))
 refine wCe rfl rfl (hCl (wFk c.path M w hp)) ?_; rintro _ M2 _ ⟨hM2, _, rfl, ⟨⟨na, nc, rfl, hW⟩, rfl⟩⟩
 refine jp rfl (jp rfl (jp rfl (sAl rfl fun b6 => ?_)))
 refine sSt rfl ?_
 refine jp rfl (wAc (jT (wAb (wAb (wAa (jp rfl (jp rfl (wAc (jT (wAh rfl (wAd (jT (wAb (wAa (sAl rfl fun b8 => ?_)))))))))))))))
 refine wAc (jT (wAb (wAb (wAa (sFL rfl rfl ?_)))))
 refine jf rfl (decide_eq_false (by omega)) ?_
 refine jp rfl (sFL rfl rfl ?_)
 refine jf rfl (decide_eq_false (by omega)) ?_
 refine jp rfl (jp rfl (sFL rfl rfl ?_))
 refine jf rfl (decide_eq_false (by omega)) ?_
 refine jp rfl (wAc (jT (wAh rfl (wAd (jT (wAb (wAk (wAb (wAa (sFL rfl rfl ?_))))))))))
 refine jt rfl (decide_eq_true (by omega)) ?_
 refine jp rfl (wAc (jT (wAf rfl (wAb (wAa (sLL rfl ?_))))))
 refine sLL rfl ?_
 refine sLL rfl ?_
 refine wCe rfl rfl (hCl (cr_all f n hwf hn M2 (hf.mono hM2) c ca ck (hC.mono hM2) w na nc hW (by omega))) ?_; rintro _ _ _ ⟨_, _, rfl, ⟨g2, dv, nv, rfl, hg2, habs, hbs, hns, rfl⟩⟩
 obtain ⟨da9, dc9, rfl, hd1, hd2, hd3⟩ := hbs
 obtain ⟨na9, nc9, rfl, hn1, hn2, hn3⟩ := hns
 refine jp rfl (jp rfl (sSt rfl ?_))
 refine sSt rfl ?_
 refine wAc (jT (wAg (jBr (jTr (wEj (rs := [_, _]) rfl (.cons (.agg rfl rfl rfl) (.cons (.agg rfl rfl rfl) .nil)) ?_)))))
 rw [doI_eq1 hk (by omega) (by omega) (by rcases h56 with rfl | rfl <;> rfl) hp, show opI insB f.abs c w (0, []) k = wDg f.abs c w from by rcases h56 with rfl | rfl <;> rfl]
 exact ⟨g2, _, _, rfl, hg2, habs, ⟨_, _, rfl, hd1, hd2, hd3⟩, ⟨_, _, rfl, hn1, hn2, hn3⟩, rfl⟩
set_option maxHeartbeats 2000000 in
theorem rdo_bytes1 (f : GS) (n : Nat) (hwf : WFS n f.abs) (hn9 : n ≤ 90) (M : Mem) (hf : f.Ok M) (c : CL) (ca : Option Addr) (ck : Nat) (hC : CallOk M c ca ck) (k : Nat) (hk : c.kind = k) (h7 : k = 7 ∨ k = 8 ∨ k = 9 ∨ k = 10) (w : Wy) (hp : wAy c.path = some w) :
  SpecL Tryz.prog 13 #[gsV f, clV c ca ck] M [] (RDoP (doI insB wAy f.abs c)) := by
 have hn : n ≤ 100 := by omega
 refine wAe (vs := [_, _]) 111 _ Tryz.func13 rfl Tryz.ntmps13 rfl rfl ?_; intro W
 refine wAb (wAa (sBx [_, _] rfl fun b2 => ?_))
 refine sBx [_, _, _, _, _, _, _] rfl fun b3 => ?_
 refine sAl rfl fun b4 => ?_
 refine sAl rfl fun b5 => ?_
 refine wAc (jT (wAb (wAb (wAa (sFL rfl rfl ?_)))))
 refine jf rfl (decide_eq_false (by omega)) ?_
 refine jp rfl (sFL rfl rfl ?_)
 refine jf rfl (decide_eq_false (by omega)) ?_
 refine jp rfl (wAc (jT (wAh rfl (wAd (jT (wAb (wAb (wAa (sFL rfl rfl ?_)))))))))
 refine jf rfl (decide_eq_false (by omega)) ?_
 refine wAc (jT (wAh rfl (wAd (jT (wAb (wAb (wAa (sFL rfl rfl ?_))))))))
 refine jf rfl (decide_eq_false (by omega)) ?_
 refine wAc (jT (wAh rfl (wAd (jT (wAb (wAa (sFL rfl rfl ?_)))))))
 refine wCe rfl rfl (hCl (wFk c.path M w hp)) ?_; rintro _ M2 _ ⟨hM2, _, rfl, ⟨⟨na, nc, rfl, hW⟩, rfl⟩⟩
 refine jp rfl (jp rfl (jp rfl (sAl rfl fun b6 => ?_)))
 refine sSt rfl ?_
 refine jp rfl (wAc (jT (wAb (wAb (wAa (jp rfl (jp rfl (wAc (jT (wAh rfl (wAd (jT (wAb (wAa (sAl rfl fun b8 => ?_)))))))))))))))
 refine wAc (jT (wAb (wAb (wAa (sFL rfl rfl ?_)))))
 refine jf rfl (decide_eq_false (by omega)) ?_
 refine jp rfl (sFL rfl rfl ?_)
 refine jf rfl (decide_eq_false (by omega)) ?_
 refine jp rfl (jp rfl (sFL rfl rfl ?_))
 refine jf rfl (decide_eq_false (by omega)) ?_
 refine jp rfl (wAc (jT (wAh rfl (wAd (jT (wAb (wAk (wAb (wAa (sFL rfl rfl ?_))))))))))
 refine jf rfl (decide_eq_false (by omega)) ?_
 refine jp rfl (wAc (jT (wAh rfl (wAb (wAa (sFL rfl rfl ?_))))))
 refine jt rfl (decide_eq_true (by omega)) ?_
 refine jp rfl (wAc (jT (wAf rfl (wAb (wAa (sLL rfl ?_))))))
 refine sLL rfl ?_
 refine sLL rfl ?_
 refine sLL rfl ?_
 refine wCe rfl rfl (hCl (ob_all f n hwf hn M2 (hf.mono hM2) c ca ck (hC.mono hM2) w na nc hW (by omega) (0, []) none 0 (wy_zero M2) k hk (by omega) (by omega))) ?_; rintro _ _ _ ⟨_, _, rfl, ⟨g2, dv, nv, rfl, hg2, habs, hbs, hns, rfl⟩⟩
 obtain ⟨da9, dc9, rfl, hd1, hd2, hd3⟩ := hbs
 obtain ⟨na9, nc9, rfl, hn1, hn2, hn3⟩ := hns
 refine jp rfl (jp rfl (sSt rfl ?_))
 refine sSt rfl ?_
 refine wAc (jT (wAg (jBr (jTr (wEj (rs := [_, _]) rfl (.cons (.agg rfl rfl rfl) (.cons (.agg rfl rfl rfl) .nil)) ?_)))))
 rw [doI_eq1 hk (by omega) (by omega) (by rcases h7 with rfl | rfl | rfl | rfl <;> rfl) hp]
 exact ⟨g2, _, _, rfl, hg2, habs, ⟨_, _, rfl, hd1, hd2, hd3⟩, ⟨_, _, rfl, hn1, hn2, hn3⟩, rfl⟩
set_option maxHeartbeats 2000000 in
theorem rdo_names1 (f : GS) (n : Nat) (hwf : WFS n f.abs) (hn9 : n ≤ 90) (M : Mem) (hf : f.Ok M) (c : CL) (ca : Option Addr) (ck : Nat) (hC : CallOk M c ca ck) (k : Nat) (hk : c.kind = k) (h13 : k = 13 ∨ k = 15) (w : Wy) (hp : wAy c.path = some w) :
  SpecL Tryz.prog 13 #[gsV f, clV c ca ck] M [] (RDoP (doI insB wAy f.abs c)) := by
 have hn : n ≤ 100 := by omega
 refine wAe (vs := [_, _]) 111 _ Tryz.func13 rfl Tryz.ntmps13 rfl rfl ?_; intro W
 refine wAb (wAa (sBx [_, _] rfl fun b2 => ?_))
 refine sBx [_, _, _, _, _, _, _] rfl fun b3 => ?_
 refine sAl rfl fun b4 => ?_
 refine sAl rfl fun b5 => ?_
 refine wAc (jT (wAb (wAb (wAa (sFL rfl rfl ?_)))))
 refine jf rfl (decide_eq_false (by omega)) ?_
 refine jp rfl (sFL rfl rfl ?_)
 refine jf rfl (decide_eq_false (by omega)) ?_
 refine jp rfl (wAc (jT (wAh rfl (wAd (jT (wAb (wAb (wAa (sFL rfl rfl ?_)))))))))
 refine jf rfl (decide_eq_false (by omega)) ?_
 refine wAc (jT (wAh rfl (wAd (jT (wAb (wAb (wAa (sFL rfl rfl ?_))))))))
 refine jf rfl (decide_eq_false (by omega)) ?_
 refine wAc (jT (wAh rfl (wAd (jT (wAb (wAa (sFL rfl rfl ?_)))))))
 refine wCe rfl rfl (hCl (wFk c.path M w hp)) ?_; rintro _ M2 _ ⟨hM2, _, rfl, ⟨⟨na, nc, rfl, hW⟩, rfl⟩⟩
 refine jp rfl (jp rfl (jp rfl (sAl rfl fun b6 => ?_)))
 refine sSt rfl ?_
 refine jp rfl (wAc (jT (wAb (wAb (wAa (jp rfl (jp rfl (wAc (jT (wAh rfl (wAd (jT (wAb (wAa (sAl rfl fun b8 => ?_)))))))))))))))
 refine wAc (jT (wAb (wAb (wAa (sFL rfl rfl ?_)))))
 refine jf rfl (decide_eq_false (by omega)) ?_
 refine jp rfl (sFL rfl rfl ?_)
 refine jf rfl (decide_eq_false (by omega)) ?_
 refine jp rfl (jp rfl (sFL rfl rfl ?_))
 refine jf rfl (decide_eq_false (by omega)) ?_
 refine jp rfl (wAc (jT (wAh rfl (wAd (jT (wAb (wAk (wAb (wAa (sFL rfl rfl ?_))))))))))
 refine jf rfl (decide_eq_false (by omega)) ?_
 refine jp rfl (wAc (jT (wAh rfl (wAb (wAa (sFL rfl rfl ?_))))))
 refine jf rfl (decide_eq_false (by omega)) ?_
 refine jp rfl (wAc (jT (wAh rfl (wAb (wAa (sFL rfl rfl ?_))))))
 refine jt rfl (decide_eq_true (by omega)) ?_
 refine jp rfl (wAc (jT (wAf rfl (wAb (wAa (sLL rfl ?_))))))
 refine sLL rfl ?_
 refine sLL rfl ?_
 refine sLL rfl ?_
 refine wCe rfl rfl (hCl (on_all f n hwf hn M2 (hf.mono hM2) c ca ck (hC.mono hM2) w na nc hW (by omega) (0, []) none 0 (wy_zero M2) hn9 k hk (by omega) (by omega))) ?_; rintro _ _ _ ⟨_, _, rfl, ⟨g2, dv, nv, rfl, hg2, habs, hbs, hns, rfl⟩⟩
 obtain ⟨da9, dc9, rfl, hd1, hd2, hd3⟩ := hbs
 obtain ⟨na9, nc9, rfl, hn1, hn2, hn3⟩ := hns
 refine jp rfl (jp rfl (sSt rfl ?_))
 refine sSt rfl ?_
 refine wAc (jT (wAg (jBr (jTr (wEj (rs := [_, _]) rfl (.cons (.agg rfl rfl rfl) (.cons (.agg rfl rfl rfl) .nil)) ?_)))))
 rw [doI_eq1 hk (by omega) (by omega) (by rcases h13 with rfl | rfl <;> rfl) hp]
 exact ⟨g2, _, _, rfl, hg2, habs, ⟨_, _, rfl, hd1, hd2, hd3⟩, ⟨_, _, rfl, hn1, hn2, hn3⟩, rfl⟩
set_option maxHeartbeats 2000000 in
theorem rdo_looked (f : GS) (n : Nat) (hwf : WFS n f.abs) (hn9 : n ≤ 90) (M : Mem) (hf : f.Ok M) (c : CL) (ca : Option Addr) (ck : Nat) (hC : CallOk M c ca ck) (k : Nat) (hk : c.kind = k) (h16 : k = 16 ∨ k = 17) (w : Wy) (hp : wAy c.path = some w) :
  SpecL Tryz.prog 13 #[gsV f, clV c ca ck] M [] (RDoP (doI insB wAy f.abs c)) := by
 have hn : n ≤ 100 := by omega
 refine wAe (vs := [_, _]) 111 _ Tryz.func13 rfl Tryz.ntmps13 rfl rfl ?_; intro W
 refine wAb (wAa (sBx [_, _] rfl fun b2 => ?_))
 refine sBx [_, _, _, _, _, _, _] rfl fun b3 => ?_
 refine sAl rfl fun b4 => ?_
 refine sAl rfl fun b5 => ?_
 refine wAc (jT (wAb (wAb (wAa (sFL rfl rfl ?_)))))
 refine jf rfl (decide_eq_false (by omega)) ?_
 refine jp rfl (sFL rfl rfl ?_)
 refine jf rfl (decide_eq_false (by omega)) ?_
 refine jp rfl (wAc (jT (wAh rfl (wAd (jT (wAb (wAb (wAa (sFL rfl rfl ?_)))))))))
 refine jf rfl (decide_eq_false (by omega)) ?_
 refine wAc (jT (wAh rfl (wAd (jT (wAb (wAb (wAa (sFL rfl rfl ?_))))))))
 refine jf rfl (decide_eq_false (by omega)) ?_
 refine wAc (jT (wAh rfl (wAd (jT (wAb (wAa (sFL rfl rfl ?_)))))))
 refine wCe rfl rfl (hCl (wFk c.path M w hp)) ?_; rintro _ M2 _ ⟨hM2, _, rfl, ⟨⟨na, nc, rfl, hW⟩, rfl⟩⟩
 refine jp rfl (jp rfl (jp rfl (sAl rfl fun b6 => ?_)))
 refine sSt rfl ?_
 refine jp rfl (wAc (jT (wAb (wAb (wAa (jp rfl (jp rfl (wAc (jT (wAh rfl (wAd (jT (wAb (wAa (sAl rfl fun b8 => ?_)))))))))))))))
 refine wAc (jT (wAb (wAb (wAa (sFL rfl rfl ?_)))))
 refine jf rfl (decide_eq_false (by omega)) ?_
 refine jp rfl (sFL rfl rfl ?_)
 refine jf rfl (decide_eq_false (by omega)) ?_
 refine jp rfl (jp rfl (sFL rfl rfl ?_))
 refine jf rfl (decide_eq_false (by omega)) ?_
 refine jp rfl (wAc (jT (wAh rfl (wAd (jT (wAb (wAk (wAb (wAa (sFL rfl rfl ?_))))))))))
 refine jf rfl (decide_eq_false (by omega)) ?_
 refine jp rfl (wAc (jT (wAh rfl (wAb (wAa (sFL rfl rfl ?_))))))
 refine jf rfl (decide_eq_false (by omega)) ?_
 refine jp rfl (wAc (jT (wAh rfl (wAb (wAa (sFL rfl rfl ?_))))))
 refine jf rfl (decide_eq_false (by omega)) ?_
 refine jp rfl (wAc (jT (wAh rfl (wAd (jB (jT (wAb (wCw [(0, true), (1, true), (2, true), (3, true), (4, false), (5, false), (6, false)] [(b2, .cells (gsC f).toArray 53 (0, 0)), (b3, .cells [.int .u8 c.kind, .string c.path, .string c.other, .int .i64 c.a, .int .i64 c.b, .int .i64 c.c, .slice ca c.data.length ck].toArray 45 (0, 0)), (b6, .cells [.int .i64 w.1, .slice na w.2.length nc].toArray 65 (0, 0))] (by simp) ?_))))))))
 refine dLL rfl rfl ?_
 refine dLL rfl rfl ?_
 refine dLL rfl rfl ?_
 refine dLL rfl rfl ?_
 refine wJf rfl rfl rfl (hCl (lk_all f n hwf hn M2 (hf.mono hM2) c ca ck (hC.mono hM2) w na nc hW k hk h16).1) ?_; rintro _ M3 _ ⟨hM3, _, rfl, ⟨dv, nv, rfl, hbs, hns, rfl⟩⟩
 refine ⟨_, _, MLe.refl _, hM3, fun _ h => h, by simp, ?_⟩
 obtain ⟨da9, dc9, rfl, hd1, hd2, hd3⟩ := hbs
 obtain ⟨na9, nc9, rfl, hn1, hn2, hn3⟩ := hns
 refine jd_s rfl rfl (wBw rfl rfl rfl rfl rfl rfl rfl rfl) ?_; rintro _ _ _ ⟨rfl, rfl⟩
 refine ⟨_, _, MLe.refl _, (by first | exact MLe.refl _ | exact hM3), fun _ h => h, by simp, ?_⟩
 refine jd_s rfl rfl (wBw rfl rfl rfl rfl rfl rfl rfl rfl) ?_; rintro _ _ _ ⟨rfl, rfl⟩
 refine ⟨_, _, MLe.refl _, (by first | exact MLe.refl _ | exact hM3), fun _ h => h, by simp, ?_⟩
 refine wAs (jPn (jT (wAg (wEj (rs := [_, _]) rfl (.cons (.agg rfl rfl rfl) (.cons (.agg rfl rfl rfl) .nil)) ?_))))
 rw [doI_eq1 hk (by omega) (by omega) (by rcases h16 with rfl | rfl <;> rfl) hp]
 have h9 := (lk_all f n hwf hn M2 (hf.mono hM2) c ca ck (hC.mono hM2) w na nc hW k hk h16).2
 exact ⟨f, _, _, rfl, (hf.mono hM2).mono hM3, h9.symm, ⟨_, _, rfl, hd1, hd2, hd3⟩, ⟨_, _, rfl, hn1, hn2, hn3⟩, rfl⟩
set_option maxHeartbeats 2000000 in
theorem rdo_share (f : GS) (n : Nat) (hwf : WFS n f.abs) (hn9 : n ≤ 90) (M : Mem) (hf : f.Ok M) (c : CL) (ca : Option Addr) (ck : Nat) (hC : CallOk M c ca ck) (k : Nat) (hk : c.kind = k) (h11 : k = 11) (w : Wy) (hp : wAy c.path = some w) (o : Wy) (ho : wAy c.other = some o) :
  SpecL Tryz.prog 13 #[gsV f, clV c ca ck] M [] (RDoP (doI insB wAy f.abs c)) := by
 have hn : n ≤ 100 := by omega
 refine wAe (vs := [_, _]) 111 _ Tryz.func13 rfl Tryz.ntmps13 rfl rfl ?_; intro W
 refine wAb (wAa (sBx [_, _] rfl fun b2 => ?_))
 refine sBx [_, _, _, _, _, _, _] rfl fun b3 => ?_
 refine sAl rfl fun b4 => ?_
 refine sAl rfl fun b5 => ?_
 refine wAc (jT (wAb (wAb (wAa (sFL rfl rfl ?_)))))
 refine jf rfl (decide_eq_false (by omega)) ?_
 refine jp rfl (sFL rfl rfl ?_)
 refine jf rfl (decide_eq_false (by omega)) ?_
 refine jp rfl (wAc (jT (wAh rfl (wAd (jT (wAb (wAb (wAa (sFL rfl rfl ?_)))))))))
 refine jf rfl (decide_eq_false (by omega)) ?_
 refine wAc (jT (wAh rfl (wAd (jT (wAb (wAb (wAa (sFL rfl rfl ?_))))))))
 refine jf rfl (decide_eq_false (by omega)) ?_
 refine wAc (jT (wAh rfl (wAd (jT (wAb (wAa (sFL rfl rfl ?_)))))))
 refine wCe rfl rfl (hCl (wFk c.path M w hp)) ?_; rintro _ M2 _ ⟨hM2, _, rfl, ⟨⟨na, nc, rfl, hW⟩, rfl⟩⟩
 refine jp rfl (jp rfl (jp rfl (sAl rfl fun b6 => ?_)))
 refine sSt rfl ?_
 refine jp rfl (wAc (jT (wAb (wAb (wAa (jp rfl (jp rfl (wAc (jT (wAh rfl (wAd (jT (wAb (wAa (sAl rfl fun b8 => ?_)))))))))))))))
 refine wAc (jT (wAb (wAb (wAa (sFL rfl rfl ?_)))))
 refine jt rfl (decide_eq_true (by omega)) ?_
 iterate 10 refine jp rfl ?_
 refine wAc (jT (wAf rfl (wAb (wAa (sFL rfl rfl ?_)))))
 refine wCe rfl rfl (hCl (wFk c.other M2 o ho)) ?_; rintro _ M3 _ ⟨hM3, _, rfl, ⟨⟨oa, oc, rfl, hO⟩, rfl⟩⟩
 have hM23 := hM2.trans hM3
 refine jp rfl (jp rfl (jp rfl (sAl rfl fun b9 => ?_)))
 refine sSt rfl ?_
 refine jp rfl (wAc (jT (wAb (wAb (wAa (jp rfl (jp rfl (wAc (jT (wAh rfl (wAd (jT (wAa (sLL rfl ?_))))))))))))))
 refine sSt rfl ?_
 refine wAc (jT (wAb (wAk (wAb (wAa (sFL rfl rfl ?_))))))
 refine jf rfl (decide_eq_false (by omega)) ?_
 refine jp rfl (wAc (jT (wAh rfl (wAb (wAa (sFL rfl rfl ?_))))))
 refine jt rfl (decide_eq_true (by omega)) ?_
 refine jp rfl (wAc (jT (wAf rfl (wAb (wAa (sLL rfl ?_))))))
 refine sLL rfl ?_
 refine sLL rfl ?_
 refine sLL rfl ?_
 refine wCe rfl rfl (hCl (ob_all f n hwf hn M3 (hf.mono hM23) c ca ck (hC.mono hM23) w na nc (hW.mono hM3) (by omega) o oa oc hO k hk (by omega) (by omega))) ?_; rintro _ _ _ ⟨_, _, rfl, ⟨g2, dv, nv, rfl, hg2, habs, hbs, hns, rfl⟩⟩
 obtain ⟨da9, dc9, rfl, hd1, hd2, hd3⟩ := hbs
 obtain ⟨na9, nc9, rfl, hn1, hn2, hn3⟩ := hns
 refine jp rfl (jp rfl (sSt rfl ?_))
 refine sSt rfl ?_
 refine wAc (jT (wAg (jBr (jTr (wEj (rs := [_, _]) rfl (.cons (.agg rfl rfl rfl) (.cons (.agg rfl rfl rfl) .nil)) ?_)))))
 rw [doI_eq2 hk (by omega) (by omega) (by rw [h11]; rfl) hp ho]
 exact ⟨g2, _, _, rfl, hg2, habs, ⟨_, _, rfl, hd1, hd2, hd3⟩, ⟨_, _, rfl, hn1, hn2, hn3⟩, rfl⟩
set_option maxHeartbeats 2000000 in
theorem rdo_names2 (f : GS) (n : Nat) (hwf : WFS n f.abs) (hn9 : n ≤ 90) (M : Mem) (hf : f.Ok M) (c : CL) (ca : Option Addr) (ck : Nat) (hC : CallOk M c ca ck) (k : Nat) (hk : c.kind = k) (h12 : k = 12 ∨ k = 14) (w : Wy) (hp : wAy c.path = some w) (o : Wy) (ho : wAy c.other = some o) :
  SpecL Tryz.prog 13 #[gsV f, clV c ca ck] M [] (RDoP (doI insB wAy f.abs c)) := by
 have hn : n ≤ 100 := by omega
 refine wAe (vs := [_, _]) 111 _ Tryz.func13 rfl Tryz.ntmps13 rfl rfl ?_; intro W
 refine wAb (wAa (sBx [_, _] rfl fun b2 => ?_))
 refine sBx [_, _, _, _, _, _, _] rfl fun b3 => ?_
 refine sAl rfl fun b4 => ?_
 refine sAl rfl fun b5 => ?_
 refine wAc (jT (wAb (wAb (wAa (sFL rfl rfl ?_)))))
 refine jf rfl (decide_eq_false (by omega)) ?_
 refine jp rfl (sFL rfl rfl ?_)
 refine jf rfl (decide_eq_false (by omega)) ?_
 refine jp rfl (wAc (jT (wAh rfl (wAd (jT (wAb (wAb (wAa (sFL rfl rfl ?_)))))))))
 refine jf rfl (decide_eq_false (by omega)) ?_
 refine wAc (jT (wAh rfl (wAd (jT (wAb (wAb (wAa (sFL rfl rfl ?_))))))))
 refine jf rfl (decide_eq_false (by omega)) ?_
 refine wAc (jT (wAh rfl (wAd (jT (wAb (wAa (sFL rfl rfl ?_)))))))
 refine wCe rfl rfl (hCl (wFk c.path M w hp)) ?_; rintro _ M2 _ ⟨hM2, _, rfl, ⟨⟨na, nc, rfl, hW⟩, rfl⟩⟩
 refine jp rfl (jp rfl (jp rfl (sAl rfl fun b6 => ?_)))
 refine sSt rfl ?_
 refine jp rfl (wAc (jT (wAb (wAb (wAa (jp rfl (jp rfl (wAc (jT (wAh rfl (wAd (jT (wAb (wAa (sAl rfl fun b8 => ?_)))))))))))))))
 refine wAc (jT (wAb (wAb (wAa (sFL rfl rfl ?_)))))
 refine jf rfl (decide_eq_false (by omega)) ?_
 refine jp rfl (sFL rfl rfl ?_)
 refine js rfl (fun h56 => ?_) (fun h56 => ?_)
 ·refine jp rfl (jp rfl (jp rfl (jp rfl (jp rfl (jp rfl (wAc (jT (wAf rfl (wAb (wAa (sFL rfl rfl ?_)))))))))))
  refine wCe rfl rfl (hCl (wFk c.other M2 o ho)) ?_; rintro _ M3 _ ⟨hM3, _, rfl, ⟨⟨oa, oc, rfl, hO⟩, rfl⟩⟩
  have hM23 := hM2.trans hM3
  refine jp rfl (jp rfl (jp rfl (sAl rfl fun b9 => ?_)))
  refine sSt rfl ?_
  refine jp rfl (wAc (jT (wAb (wAb (wAa (jp rfl (jp rfl (wAc (jT (wAh rfl (wAd (jT (wAa (sLL rfl ?_))))))))))))))
  refine sSt rfl ?_
  refine wAc (jT (wAb (wAk (wAb (wAa (sFL rfl rfl ?_))))))
  refine jf rfl (decide_eq_false (by omega)) ?_
  refine jp rfl (wAc (jT (wAh rfl (wAb (wAa (sFL rfl rfl ?_))))))
  refine jf rfl (decide_eq_false (by omega)) ?_
  refine jp rfl (wAc (jT (wAh rfl (wAb (wAa (sFL rfl rfl ?_))))))
  refine jt rfl (decide_eq_true (by omega)) ?_
  refine jp rfl (wAc (jT (wAf rfl (wAb (wAa (sLL rfl ?_))))))
  refine sLL rfl ?_
  refine sLL rfl ?_
  refine sLL rfl ?_
  refine wCe rfl rfl (hCl (on_all f n hwf hn M3 (hf.mono hM23) c ca ck (hC.mono hM23) w na nc (hW.mono hM3) (by omega) o oa oc hO hn9 k hk (by omega) (by omega))) ?_; rintro _ _ _ ⟨_, _, rfl, ⟨g2, dv, nv, rfl, hg2, habs, hbs, hns, rfl⟩⟩
  obtain ⟨da9, dc9, rfl, hd1, hd2, hd3⟩ := hbs
  obtain ⟨na9, nc9, rfl, hn1, hn2, hn3⟩ := hns
  refine jp rfl (jp rfl (sSt rfl ?_))
  refine sSt rfl ?_
  refine wAc (jT (wAg (jBr (jTr (wEj (rs := [_, _]) rfl (.cons (.agg rfl rfl rfl) (.cons (.agg rfl rfl rfl) .nil)) ?_)))))
  rw [doI_eq2 hk (by omega) (by omega) (by rcases h12 with rfl | rfl <;> rfl) hp ho]
  exact ⟨g2, _, _, rfl, hg2, habs, ⟨_, _, rfl, hd1, hd2, hd3⟩, ⟨_, _, rfl, hn1, hn2, hn3⟩, rfl⟩
 refine jp rfl (jp rfl (sFL rfl rfl ?_))
 refine jt rfl (decide_eq_true (by omega)) ?_
 refine jp rfl (wAc (jT (wAf rfl (wAb (wAa (sFL rfl rfl ?_))))))
 refine wCe rfl rfl (hCl (wFk c.other M2 o ho)) ?_; rintro _ M3 _ ⟨hM3, _, rfl, ⟨⟨oa, oc, rfl, hO⟩, rfl⟩⟩
 have hM23 := hM2.trans hM3
 refine jp rfl (jp rfl (jp rfl (sAl rfl fun b9 => ?_)))
 refine sSt rfl ?_
 refine jp rfl (wAc (jT (wAb (wAb (wAa (jp rfl (jp rfl (wAc (jT (wAh rfl (wAd (jT (wAa (sLL rfl ?_))))))))))))))
 refine sSt rfl ?_
 refine wAc (jT (wAb (wAk (wAb (wAa (sFL rfl rfl ?_))))))
 refine jf rfl (decide_eq_false (by omega)) ?_
 refine jp rfl (wAc (jT (wAh rfl (wAb (wAa (sFL rfl rfl ?_))))))
 refine jf rfl (decide_eq_false (by omega)) ?_
 refine jp rfl (wAc (jT (wAh rfl (wAb (wAa (sFL rfl rfl ?_))))))
 refine jt rfl (decide_eq_true (by omega)) ?_
 refine jp rfl (wAc (jT (wAf rfl (wAb (wAa (sLL rfl ?_))))))
 refine sLL rfl ?_
 refine sLL rfl ?_
 refine sLL rfl ?_
 refine wCe rfl rfl (hCl (on_all f n hwf hn M3 (hf.mono hM23) c ca ck (hC.mono hM23) w na nc (hW.mono hM3) (by omega) o oa oc hO hn9 k hk (by omega) (by omega))) ?_; rintro _ _ _ ⟨_, _, rfl, ⟨g2, dv, nv, rfl, hg2, habs, hbs, hns, rfl⟩⟩
 obtain ⟨da9, dc9, rfl, hd1, hd2, hd3⟩ := hbs
 obtain ⟨na9, nc9, rfl, hn1, hn2, hn3⟩ := hns
 refine jp rfl (jp rfl (sSt rfl ?_))
 refine sSt rfl ?_
 refine wAc (jT (wAg (jBr (jTr (wEj (rs := [_, _]) rfl (.cons (.agg rfl rfl rfl) (.cons (.agg rfl rfl rfl) .nil)) ?_)))))
 rw [doI_eq2 hk (by omega) (by omega) (by rcases h12 with rfl | rfl <;> rfl) hp ho]
 exact ⟨g2, _, _, rfl, hg2, habs, ⟨_, _, rfl, hd1, hd2, hd3⟩, ⟨_, _, rfl, hn1, hn2, hn3⟩, rfl⟩
theorem wLf (f : GS) (n : Nat) (hwf : WFS n f.abs) (hn9 : n ≤ 90) (M : Mem) (hf : f.Ok M) (c : CL) (ca : Option Addr) (ck : Nat) (hC : CallOk M c ca ck) : SpecL Tryz.prog 13 #[gsV f, clV c ca ck] M [] (RDoP (doI insB wAy f.abs c)) := by
 by_cases ho : c.kind < 1 ∨ 18 < c.kind
 ·exact rdo_out f n hwf hn9 M hf c ca ck hC ho
 obtain ⟨k, hk⟩ : ∃ k : Nat, c.kind = k := ⟨c.kind.toNat, by omega⟩
 by_cases h4 : k ≤ 4
 ·exact rdo_vols f n hwf hn9 M hf c ca ck hC k hk (by omega) h4
 by_cases h18 : k = 18
 ·subst h18; exact rdo_reap f n hwf hn9 M hf c ca ck hC hk
 cases hp : wAy c.path with
 | none =>
  refine rdo_no1 f n hwf hn9 M hf c ca ck hC k hk (by omega) (by omega) ?_ hp
  rcases (show k = 5 ∨ k = 6 ∨ k = 7 ∨ k = 8 ∨ k = 9 ∨ k = 10 ∨ k = 11 ∨ k = 12 ∨ k = 13 ∨ k = 14 ∨ k = 15 ∨ k = 16 ∨ k = 17 by omega) with rfl | rfl | rfl | rfl | rfl | rfl | rfl | rfl | rfl | rfl | rfl | rfl | rfl <;> decide
 | some w =>
  by_cases h2 : k = 11 ∨ k = 12 ∨ k = 14
  ·cases h3 : wAy c.other with
   | none => exact rdo_no2 f n hwf hn9 M hf c ca ck hC k hk h2 w hp h3
   | some o =>
    by_cases h11 : k = 11
    ·exact rdo_share f n hwf hn9 M hf c ca ck hC k hk h11 w hp o h3
    exact rdo_names2 f n hwf hn9 M hf c ca ck hC k hk (by omega) w hp o h3
  by_cases h56 : k = 5 ∨ k = 6
  ·exact rdo_create f n hwf hn9 M hf c ca ck hC k hk h56 w hp
  by_cases h7 : k = 7 ∨ k = 8 ∨ k = 9 ∨ k = 10
  ·exact rdo_bytes1 f n hwf hn9 M hf c ca ck hC k hk h7 w hp
  by_cases h13 : k = 13 ∨ k = 15
  ·exact rdo_names1 f n hwf hn9 M hf c ca ck hC k hk h13 w hp
  exact rdo_looked f n hwf hn9 M hf c ca ck hC k hk (by omega) w hp
end Go.Proofs.YtokljhkplbkggaaGreatDoor
