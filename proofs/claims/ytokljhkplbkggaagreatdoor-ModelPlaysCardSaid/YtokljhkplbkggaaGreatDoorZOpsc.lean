/- Walks: calls that rename, and remove directories. -/
import Derived.Test.YtokljhkplbkggaaGreatDoorZOpsb
namespace Go.Proofs.YtokljhkplbkggaaGreatDoor
set_option linter.unusedVariables false
set_option linter.unusedSectionVars false
set_option linter.unusedSimpArgs false
open Go.RowKit Go.MapKept
theorem unmake_e1 (S : CS) (hS : S.Ok) (n : Nat) (hwf : WFS n S.abs) (hn : n ≤ 100) (M : Mem) (c : CL) (ca : Option Addr) (ck : Nat) (hC : CallOk M c ca ck) (w : Wy) (na : Option Addr) (nc : Nat) (hW : WyOk M w na nc) (o : Wy) (oa : Option Addr) (oc : Nat) (hO : WyOk M o oa oc) (e : Int) (hw : wBb S.abs w.1 w.2 = .error e) :
  SpecL Tryz.prog 50 #[pt S.b, clV c ca ck, wyV w na nc, wyV o oa oc] M S.own fun u M' L' => OpP S.b (wCc S.abs w) u M' L' := by
 refine SpecL.mem fun hnd hdis => ?_
 have hVa := wBf (M := M) hnd
 have hMa := wBk hdis
 have hVw : ∀ L, SubL S.own L → Vw M L S.own := fun L h => Vw.of
 have he := wEw hwf hw
 refine wAe (vs := [_, _, _, _]) 83 _ Tryz.func50 rfl Tryz.ntmps50 rfl rfl ?_; intro W
 refine wAb (wAa (sBx [_, _, _, _, _, _, _] rfl fun b5 => ?_))
 refine sBx [_, _] rfl fun b6 => ?_
 refine sBx [_, _] rfl fun b7 => ?_
 refine sAl rfl fun b8 => ?_
 refine wAc (jT (wAb (wAa (jp rfl (sFL rfl rfl ?_)))))
 refine sFL rfl rfl ?_
 refine lq (qEq (wBm (R := S.own) rfl rfl rfl rfl rfl (by kernel_rfl) (SubL.sub) (wCi S hS n hwf w.1 w.2 na nc (wDu M S.own) hVa (hW.sn.mono hMa) hW.big)) (by rw [hw]; try rfl)) ?_
 iterate 7 refine jp rfl ?_
 refine wAc (jT (wAb (wAk (wAb (wAa (jp rfl (jt rfl (decide_eq_true (by omega)) ?_)))))))
 refine jp rfl (wAc (jT (wAf rfl (wAb (wAa (jp rfl (lq (qCl (wAt e M)) ?_)))))))
 refine sSt rfl ?_
 refine wAc (jT (wAg (jBr (jTr (wFu (rs := [_]) (S.own) rfl (.cons (.agg rfl rfl rfl) .nil) ?_)))))
 have hr : wCc S.abs w = (S.abs, wCa e) := by
  unfold wCc; rw [hw]
 rw [hr]; exact OpP.plain (r := (S.abs, _)) hS rfl rfl rfl rfl
theorem unmake_nd (S : CS) (hS : S.Ok) (n : Nat) (hwf : WFS n S.abs) (hn : n ≤ 100) (M : Mem) (c : CL) (ca : Option Addr) (ck : Nat) (hC : CallOk M c ca ck) (w : Wy) (na : Option Addr) (nc : Nat) (hW : WyOk M w na nc) (o : Wy) (oa : Option Addr) (oc : Nat) (hO : WyOk M o oa oc) (id : Int) (hw : wBb S.abs w.1 w.2 = .ok id) (v : CV) (x : CF) (hv : wAm w.1 S.vols = some v) (hx : wAm id v.files = some x) (hd : x.pf.dir = false) :
  SpecL Tryz.prog 50 #[pt S.b, clV c ca ck, wyV w na nc, wyV o oa oc] M S.own fun u M' L' => OpP S.b (wCc S.abs w) u M' L' := by
 refine SpecL.mem fun hnd hdis => ?_
 have hVa := wBf (M := M) hnd
 have hMa := wBk hdis
 have hVw : ∀ L, SubL S.own L → Vw M L S.own := fun L h => Vw.of
 refine wAe (vs := [_, _, _, _]) 83 _ Tryz.func50 rfl Tryz.ntmps50 rfl rfl ?_; intro W
 refine wAb (wAa (sBx [_, _, _, _, _, _, _] rfl fun b5 => ?_))
 refine sBx [_, _] rfl fun b6 => ?_
 refine sBx [_, _] rfl fun b7 => ?_
 refine sAl rfl fun b8 => ?_
 refine wAc (jT (wAb (wAa (jp rfl (sFL rfl rfl ?_)))))
 refine sFL rfl rfl ?_
 refine lq (qEq (v' := .tuple #[.int .u32 id, pt x.b, .int .i64 0]) (wBm (R := S.own) rfl rfl rfl rfl rfl (by kernel_rfl) (SubL.sub) (wCi S hS n hwf w.1 w.2 na nc (wDu M S.own) hVa (hW.sn.mono hMa) hW.big)) (by rw [hw]; exact wBj hv hx)) ?_
 iterate 7 refine jp rfl ?_
 refine wAc (jT (wAb (wAk (wAb (wAa (jp rfl (jf rfl (decide_eq_false (by omega)) ?_)))))))
 refine jp rfl (wAc (jT (wAh rfl (wAb (wAa (jp rfl (lq (wAj rfl rfl rfl) ?_)))))))
 refine sFa rfl ?_
 refine lq (qEq (qLd rfl rfl rfl rfl ((Vw.x (Vw.file (Vw.vol Vw.of hv) hx)).cj rfl)) (v' := .bool false) (by exact congrArg Value.bool hd)) ?_
 refine jp rfl (jp rfl (wAc (jT (wAf rfl (wAb (wAa (lq (qCl (wAt 240 M)) ?_)))))))
 refine sSt rfl ?_
 refine wAc (jT (wAg (jBr (jTr (wFu (rs := [_]) (S.own) rfl (.cons (.agg rfl rfl rfl) .nil) ?_)))))
 have hr : wCc S.abs w = (S.abs, wCa 240) := by
  unfold wCc; rw [hw]; simp only; rw [wCn hv hx, hd]; rfl
 rw [hr]; exact OpP.plain (r := (S.abs, _)) hS rfl rfl rfl rfl
theorem unmake_root (S : CS) (hS : S.Ok) (n : Nat) (hwf : WFS n S.abs) (hn : n ≤ 100) (M : Mem) (c : CL) (ca : Option Addr) (ck : Nat) (hC : CallOk M c ca ck) (w : Wy) (na : Option Addr) (nc : Nat) (hW : WyOk M w na nc) (o : Wy) (oa : Option Addr) (oc : Nat) (hO : WyOk M o oa oc) (id : Int) (hw : wBb S.abs w.1 w.2 = .ok id) (v : CV) (x : CF) (hv : wAm w.1 S.vols = some v) (hx : wAm id v.files = some x) (hd : x.pf.dir = true) (he : w.2 = []) :
  SpecL Tryz.prog 50 #[pt S.b, clV c ca ck, wyV w na nc, wyV o oa oc] M S.own fun u M' L' => OpP S.b (wCc S.abs w) u M' L' := by
 refine SpecL.mem fun hnd hdis => ?_
 have hVa := wBf (M := M) hnd
 have hMa := wBk hdis
 have hVw : ∀ L, SubL S.own L → Vw M L S.own := fun L h => Vw.of
 have hl0 : w.2.length = 0 := by rw [he]; rfl
 refine wAe (vs := [_, _, _, _]) 83 _ Tryz.func50 rfl Tryz.ntmps50 rfl rfl ?_; intro W
 refine wAb (wAa (sBx [_, _, _, _, _, _, _] rfl fun b5 => ?_))
 refine sBx [_, _] rfl fun b6 => ?_
 refine sBx [_, _] rfl fun b7 => ?_
 refine sAl rfl fun b8 => ?_
 refine wAc (jT (wAb (wAa (jp rfl (sFL rfl rfl ?_)))))
 refine sFL rfl rfl ?_
 refine lq (qEq (v' := .tuple #[.int .u32 id, pt x.b, .int .i64 0]) (wBm (R := S.own) rfl rfl rfl rfl rfl (by kernel_rfl) (SubL.sub) (wCi S hS n hwf w.1 w.2 na nc (wDu M S.own) hVa (hW.sn.mono hMa) hW.big)) (by rw [hw]; exact wBj hv hx)) ?_
 iterate 7 refine jp rfl ?_
 refine wAc (jT (wAb (wAk (wAb (wAa (jp rfl (jf rfl (decide_eq_false (by omega)) ?_)))))))
 refine jp rfl (wAc (jT (wAh rfl (wAb (wAa (jp rfl (lq (wAj rfl rfl rfl) ?_)))))))
 refine sFa rfl ?_
 refine lq (qEq (qLd rfl rfl rfl rfl ((Vw.x (Vw.file (Vw.vol Vw.of hv) hx)).cj rfl)) (v' := .bool true) (by exact congrArg Value.bool hd)) ?_
 refine jp rfl (jp rfl (wAc (jT (wAh rfl (wAb (wAb (wAa (sFL rfl rfl ?_))))))))
 refine lq (wCd rfl rfl rfl) ?_
 refine jt rfl (decide_eq_true (by omega)) ?_
 refine jp rfl (wAc (jT (wAf rfl (wAd (jT (wAf rfl (wAb (wAa (lq (qCl (wAt 260 M)) ?_)))))))))
 refine sSt rfl ?_
 refine wAc (jT (wAg (jBr (jTr (wFu (rs := [_]) (S.own) rfl (.cons (.agg rfl rfl rfl) .nil) ?_)))))
 have hr : wCc S.abs w = (S.abs, wCa 260) := by
  unfold wCc; rw [hw]; simp only; rw [wCn hv hx, hd]; simp only [if_true]; rw [if_pos (.inl he)]
 rw [hr]; exact OpP.plain (r := (S.abs, _)) hS rfl rfl rfl rfl
theorem unmake_full (S : CS) (hS : S.Ok) (n : Nat) (hwf : WFS n S.abs) (hn : n ≤ 100) (M : Mem) (c : CL) (ca : Option Addr) (ck : Nat) (hC : CallOk M c ca ck) (w : Wy) (na : Option Addr) (nc : Nat) (hW : WyOk M w na nc) (o : Wy) (oa : Option Addr) (oc : Nat) (hO : WyOk M o oa oc) (id : Int) (hw : wBb S.abs w.1 w.2 = .ok id) (v : CV) (x : CF) (hv : wAm w.1 S.vols = some v) (hx : wAm id v.files = some x) (hd : x.pf.dir = true) (hne : w.2 ≠ []) (hl : 0 < x.pf.names.length) :
  SpecL Tryz.prog 50 #[pt S.b, clV c ca ck, wyV w na nc, wyV o oa oc] M S.own fun u M' L' => OpP S.b (wCc S.abs w) u M' L' := by
 refine SpecL.mem fun hnd hdis => ?_
 have hVa := wBf (M := M) hnd
 have hMa := wBk hdis
 have hVw : ∀ L, SubL S.own L → Vw M L S.own := fun L h => Vw.of
 have hl0 : 0 < w.2.length := List.length_pos_iff.2 hne
 obtain ⟨nxb, nxo, f1, f2, f3⟩ := ((hS.v hv).x hx).map hd
 refine wAe (vs := [_, _, _, _]) 83 _ Tryz.func50 rfl Tryz.ntmps50 rfl rfl ?_; intro W
 refine wAb (wAa (sBx [_, _, _, _, _, _, _] rfl fun b5 => ?_))
 refine sBx [_, _] rfl fun b6 => ?_
 refine sBx [_, _] rfl fun b7 => ?_
 refine sAl rfl fun b8 => ?_
 refine wAc (jT (wAb (wAa (jp rfl (sFL rfl rfl ?_)))))
 refine sFL rfl rfl ?_
 refine lq (qEq (v' := .tuple #[.int .u32 id, pt x.b, .int .i64 0]) (wBm (R := S.own) rfl rfl rfl rfl rfl (by kernel_rfl) (SubL.sub) (wCi S hS n hwf w.1 w.2 na nc (wDu M S.own) hVa (hW.sn.mono hMa) hW.big)) (by rw [hw]; exact wBj hv hx)) ?_
 iterate 7 refine jp rfl ?_
 refine wAc (jT (wAb (wAk (wAb (wAa (jp rfl (jf rfl (decide_eq_false (by omega)) ?_)))))))
 refine jp rfl (wAc (jT (wAh rfl (wAb (wAa (jp rfl (lq (wAj rfl rfl rfl) ?_)))))))
 refine sFa rfl ?_
 refine lq (qEq (qLd rfl rfl rfl rfl ((Vw.x (Vw.file (Vw.vol Vw.of hv) hx)).cj rfl)) (v' := .bool true) (by exact congrArg Value.bool hd)) ?_
 refine jp rfl (jp rfl (wAc (jT (wAh rfl (wAb (wAb (wAa (sFL rfl rfl ?_))))))))
 refine lq (wCd rfl rfl rfl) ?_
 refine jf rfl (decide_eq_false (by omega)) ?_
 refine jp rfl (wAc (jT (wAh rfl (wAa (jp rfl (lq (wAj rfl rfl rfl) ?_))))))
 refine sFa rfl ?_
 refine lq (qEq (qLd rfl rfl rfl rfl ((Vw.x (Vw.file (Vw.vol Vw.of hv) hx)).cj rfl)) f1) ?_
 refine lq (qEq (v' := .int .i64 x.pf.names.length) (qLenMap kS rfl rfl rfl (Vw.xn (Vw.file (Vw.vol Vw.of hv) hx) (nxb, nxo) (by rw [f2]; simp)) f3) (by rw [List.length_map])) ?_
 refine jt rfl (decide_eq_true (by omega)) ?_
 refine jp rfl (wAc (jT (wAf rfl (wAb (wAa (lq (qCl (wAt 260 M)) ?_))))))
 refine sSt rfl ?_
 refine wAc (jT (wAg (jBr (jTr (wFu (rs := [_]) (S.own) rfl (.cons (.agg rfl rfl rfl) .nil) ?_)))))
 have hr : wCc S.abs w = (S.abs, wCa 260) := by
  unfold wCc; rw [hw]; simp only; rw [wCn hv hx, hd]; simp only [if_true]; rw [wGs hv hx, if_pos (.inr hl)]
 rw [hr]; exact OpP.plain (r := (S.abs, _)) hS rfl rfl rfl rfl
theorem unmake_frz (S : CS) (hS : S.Ok) (n : Nat) (hwf : WFS n S.abs) (hn : n ≤ 100) (M : Mem) (c : CL) (ca : Option Addr) (ck : Nat) (hC : CallOk M c ca ck) (w : Wy) (na : Option Addr) (nc : Nat) (hW : WyOk M w na nc) (o : Wy) (oa : Option Addr) (oc : Nat) (hO : WyOk M o oa oc) (id : Int) (hw : wBb S.abs w.1 w.2 = .ok id) (v : CV) (x : CF) (hv : wAm w.1 S.vols = some v) (hx : wAm id v.files = some x) (hd : x.pf.dir = true) (hne : w.2 ≠ []) (hl : x.pf.names = []) (hf : wAr S.abs w.1 = true) :
  SpecL Tryz.prog 50 #[pt S.b, clV c ca ck, wyV w na nc, wyV o oa oc] M S.own fun u M' L' => OpP S.b (wCc S.abs w) u M' L' := by
 refine SpecL.mem fun hnd hdis => ?_
 have hVa := wBf (M := M) hnd
 have hMa := wBk hdis
 have hVw : ∀ L, SubL S.own L → Vw M L S.own := fun L h => Vw.of
 have hl0 : 0 < w.2.length := List.length_pos_iff.2 hne
 have hl1 : x.pf.names.length = 0 := by rw [hl]; rfl
 obtain ⟨nxb, nxo, f1, f2, f3⟩ := ((hS.v hv).x hx).map hd
 refine wAe (vs := [_, _, _, _]) 83 _ Tryz.func50 rfl Tryz.ntmps50 rfl rfl ?_; intro W
 refine wAb (wAa (sBx [_, _, _, _, _, _, _] rfl fun b5 => ?_))
 refine sBx [_, _] rfl fun b6 => ?_
 refine sBx [_, _] rfl fun b7 => ?_
 refine sAl rfl fun b8 => ?_
 refine wAc (jT (wAb (wAa (jp rfl (sFL rfl rfl ?_)))))
 refine sFL rfl rfl ?_
 refine lq (qEq (v' := .tuple #[.int .u32 id, pt x.b, .int .i64 0]) (wBm (R := S.own) rfl rfl rfl rfl rfl (by kernel_rfl) (SubL.sub) (wCi S hS n hwf w.1 w.2 na nc (wDu M S.own) hVa (hW.sn.mono hMa) hW.big)) (by rw [hw]; exact wBj hv hx)) ?_
 iterate 7 refine jp rfl ?_
 refine wAc (jT (wAb (wAk (wAb (wAa (jp rfl (jf rfl (decide_eq_false (by omega)) ?_)))))))
 refine jp rfl (wAc (jT (wAh rfl (wAb (wAa (jp rfl (lq (wAj rfl rfl rfl) ?_)))))))
 refine sFa rfl ?_
 refine lq (qEq (qLd rfl rfl rfl rfl ((Vw.x (Vw.file (Vw.vol Vw.of hv) hx)).cj rfl)) (v' := .bool true) (by exact congrArg Value.bool hd)) ?_
 refine jp rfl (jp rfl (wAc (jT (wAh rfl (wAb (wAb (wAa (sFL rfl rfl ?_))))))))
 refine lq (wCd rfl rfl rfl) ?_
 refine jf rfl (decide_eq_false (by omega)) ?_
 refine jp rfl (wAc (jT (wAh rfl (wAa (jp rfl (lq (wAj rfl rfl rfl) ?_))))))
 refine sFa rfl ?_
 refine lq (qEq (qLd rfl rfl rfl rfl ((Vw.x (Vw.file (Vw.vol Vw.of hv) hx)).cj rfl)) f1) ?_
 refine lq (qEq (v' := .int .i64 x.pf.names.length) (qLenMap kS rfl rfl rfl (Vw.xn (Vw.file (Vw.vol Vw.of hv) hx) (nxb, nxo) (by rw [f2]; simp)) f3) (by rw [List.length_map])) ?_
 refine jf rfl (decide_eq_false (by omega)) ?_
 refine jp rfl (wAc (jT (wAh rfl (wAd (jB (jT (wAb (wAb (wAa (jp rfl (sFL rfl rfl ?_)))))))))))
 refine lq (qEq (v' := .int .i64 170) (wBm (R := S.own) rfl rfl rfl rfl rfl (by kernel_rfl) (SubL.sub) (wDc S hS n hwf (wDu M S.own) hVa w.1 v hv)) (by rw [hf]; rfl)) ?_
 refine jp rfl (wAc (jT (wAb (wAa (jp rfl (jt rfl (decide_eq_true (by omega)) ?_))))))
 refine wAc (jT (wAf rfl (wAb (wAa (jp rfl (lq (qCl (wAt 170 M)) ?_))))))
 refine sSt rfl ?_
 refine wAc (jT (wAg (jTr (wFu (rs := [_]) (S.own) rfl (.cons (.agg rfl rfl rfl) .nil) ?_))))
 have hr : wCc S.abs w = (S.abs, wCa 170) := by
  unfold wCc; rw [hw]; simp only; rw [wCn hv hx, hd]; simp only [if_true]; rw [wGs hv hx, if_neg (by rw [hl]; simp [hne])]; rw [hf]; rfl
 rw [hr]; exact OpP.plain (r := (S.abs, _)) hS rfl rfl rfl rfl
theorem unmake_ok (S : CS) (hS : S.Ok) (n : Nat) (hwf : WFS n S.abs) (hn : n ≤ 100) (M : Mem) (c : CL) (ca : Option Addr) (ck : Nat) (hC : CallOk M c ca ck) (w : Wy) (na : Option Addr) (nc : Nat) (hW : WyOk M w na nc) (o : Wy) (oa : Option Addr) (oc : Nat) (hO : WyOk M o oa oc) (id : Int) (hw : wBb S.abs w.1 w.2 = .ok id) (v : CV) (x : CF) (hv : wAm w.1 S.vols = some v) (hx : wAm id v.files = some x) (hd : x.pf.dir = true) (hne : w.2 ≠ []) (hl : x.pf.names = []) (hf : wAr S.abs w.1 = false) :
  SpecL Tryz.prog 50 #[pt S.b, clV c ca ck, wyV w na nc, wyV o oa oc] M S.own fun u M' L' => OpP S.b (wCc S.abs w) u M' L' := by
 refine SpecL.mem fun hnd hdis => ?_
 have hVa := wBf (M := M) hnd
 have hMa := wBk hdis
 have hVw : ∀ L, SubL S.own L → Vw M L S.own := fun L h => Vw.of
 have hl0 : 0 < w.2.length := List.length_pos_iff.2 hne
 have hl1 : x.pf.names.length = 0 := by rw [hl]; rfl
 obtain ⟨nxb, nxo, f1, f2, f3⟩ := ((hS.v hv).x hx).map hd
 obtain ⟨d, v2, xd, hpl, hv2, hxd, hdd, hgs⟩ := wHg hwf hne hw
 rw [hv] at hv2; cases hv2
 obtain ⟨nmb, nmo, e1, e2, e3⟩ := ((hS.v hv).x hxd).map hdd
 refine wAe (vs := [_, _, _, _]) 83 _ Tryz.func50 rfl Tryz.ntmps50 rfl rfl ?_; intro W
 refine wAb (wAa (sBx [_, _, _, _, _, _, _] rfl fun b5 => ?_))
 refine sBx [_, _] rfl fun b6 => ?_
 refine sBx [_, _] rfl fun b7 => ?_
 refine sAl rfl fun b8 => ?_
 refine wAc (jT (wAb (wAa (jp rfl (sFL rfl rfl ?_)))))
 refine sFL rfl rfl ?_
 refine lq (qEq (v' := .tuple #[.int .u32 id, pt x.b, .int .i64 0]) (wBm (R := S.own) rfl rfl rfl rfl rfl (by kernel_rfl) (SubL.sub) (wCi S hS n hwf w.1 w.2 na nc (wDu M S.own) hVa (hW.sn.mono hMa) hW.big)) (by rw [hw]; exact wBj hv hx)) ?_
 iterate 7 refine jp rfl ?_
 refine wAc (jT (wAb (wAk (wAb (wAa (jp rfl (jf rfl (decide_eq_false (by omega)) ?_)))))))
 refine jp rfl (wAc (jT (wAh rfl (wAb (wAa (jp rfl (lq (wAj rfl rfl rfl) ?_)))))))
 refine sFa rfl ?_
 refine lq (qEq (qLd rfl rfl rfl rfl ((Vw.x (Vw.file (Vw.vol Vw.of hv) hx)).cj rfl)) (v' := .bool true) (by exact congrArg Value.bool hd)) ?_
 refine jp rfl (jp rfl (wAc (jT (wAh rfl (wAb (wAb (wAa (sFL rfl rfl ?_))))))))
 refine lq (wCd rfl rfl rfl) ?_
 refine jf rfl (decide_eq_false (by omega)) ?_
 refine jp rfl (wAc (jT (wAh rfl (wAa (jp rfl (lq (wAj rfl rfl rfl) ?_))))))
 refine sFa rfl ?_
 refine lq (qEq (qLd rfl rfl rfl rfl ((Vw.x (Vw.file (Vw.vol Vw.of hv) hx)).cj rfl)) f1) ?_
 refine lq (qEq (v' := .int .i64 x.pf.names.length) (qLenMap kS rfl rfl rfl (Vw.xn (Vw.file (Vw.vol Vw.of hv) hx) (nxb, nxo) (by rw [f2]; simp)) f3) (by rw [List.length_map])) ?_
 refine jf rfl (decide_eq_false (by omega)) ?_
 refine jp rfl (wAc (jT (wAh rfl (wAd (jB (jT (wAb (wAb (wAa (jp rfl (sFL rfl rfl ?_)))))))))))
 refine lq (qEq (v' := .int .i64 0) (wBm (R := S.own) rfl rfl rfl rfl rfl (by kernel_rfl) (SubL.sub) (wDc S hS n hwf (wDu M S.own) hVa w.1 v hv)) (by rw [hf]; rfl)) ?_
 refine jp rfl (wAc (jT (wAb (wAa (jp rfl (jf rfl (decide_eq_false (by omega)) ?_))))))
 refine wAc (jT (wAh rfl (wAd (jT (wAb (wAa (jp rfl (sLL rfl ?_))))))))
 refine lq (qEq (v' := .tuple #[.int .u32 d, pt xd.b, .int .i64 0]) (wBm (R := S.own) rfl rfl rfl rfl rfl (by kernel_rfl) (SubL.sub) (wFg S hS n hwf (wDu M S.own) hVa w na nc (hW.mono hMa) hne)) (by rw [hpl]; exact wBj hv hxd)) ?_
 iterate 7 refine jp rfl ?_
 refine wAc (jT (wAb (wBn (p := { A := fun i => !([6].contains i), U := fun i => !([6].contains i) }) [(0, true), (1, true), (2, true), (3, true), (4, true), (5, true), (6, false)] _ (((b8, _) :: (b7, _) :: (b6, _) :: (b5, _) :: S.own)) ([]) (by kernel_rfl) (by kernel_rfl) (by kernel_rfl) (by kernel_rfl) rfl (fun _ h => h) (MLe.refl _) (by simp) ?_)))
 refine dp rfl rfl ?_
 refine dq rfl (wAj rfl rfl rfl) ?_
 refine dFa rfl rfl ?_
 refine dq rfl (qEq (qLd rfl rfl rfl rfl ((Vw.x (Vw.file (Vw.vol Vw.of hv) hxd)).cj rfl)) e1) ?_
 refine dLL rfl rfl ?_
 refine dq rfl (qCl (wEx w na nc M hW.sn hne hW.big)) ?_
 refine wJu rfl rfl (hNmDel rfl rfl rfl rfl hv hxd ((hS.v hv).x hxd) hdd e1 e2 e3) ?_; rintro _ _ _ ⟨rfl, x2, hok2, hb2, hpf2, hnm2, rfl⟩
 refine ⟨MLe.refl _, by simp, ?_⟩
 have hv2 := wHj (id := d) (x' := x2) hv
 have hS2 := hS.setX hv hxd hb2 hok2
 refine wCu ?_
 refine jPn (jT (wAb (wBn (p := { A := fun i => !([11].contains i), U := fun i => !([11].contains i) }) [(0, true), (1, true), (2, true), (3, true), (4, true), (5, true), (6, true), (7, true), (8, true), (9, true), (10, true), (11, false)] _ (((S.setX w.1 d x2).own ++ [(b8, _), (b7, _), (b6, _), (b5, _)])) ([]) (by kernel_rfl) (by kernel_rfl) (by kernel_rfl) (by kernel_rfl) rfl (fun _ h => h) (MLe.refl _) (by simp) ?_)))
 refine dp rfl rfl ?_
 refine dq rfl (wAj rfl rfl rfl) ?_
 refine dFa rfl rfl ?_
 refine dq rfl (qLd rfl rfl rfl rfl ((Vw.sAt (S := (S.setX w.1 d x2)) Vw.of (by rw [setX_b]) (by rw [setX_mb])).cj rfl)) ?_
 refine dFa rfl rfl ?_
 refine dLd rfl rfl ?_
 refine dq rfl (qEq (v' := pt v.b) (wDk kI (z := .pointer none) rfl rfl rfl rfl (by kernel_rfl) (Vw.moAt (S := (S.setX w.1 d x2)) Vw.of (by rw [setX_mb])) hS2.mo) (by rw [wEv, hv2]; rfl)) ?_
 refine dq rfl (wAj rfl rfl rfl) ?_
 refine dFa rfl rfl ?_
 refine dq rfl (qLd rfl rfl rfl rfl ((Vw.v (Vw.vol Vw.of hv2)).cj rfl)) ?_
 refine dp rfl rfl ?_
 refine wJu rfl rfl (hFileDel (v := v.setX d x2) rfl rfl rfl rfl hv2 (hS2.v hv2)) ?_; rintro _ _ _ ⟨rfl, mo4, hmo4, rfl⟩
 refine ⟨MLe.refl _, by simp, ?_⟩
 refine wCu ?_
 refine jPn (jT (wAb (wAa (lq (wBe (cs := [_, _, _, _, _, _, _, _]) rfl rfl rfl (by rfl)) ?_))))
 refine sSt rfl ?_
 refine wAc (jT (wAg (wFu (rs := [_]) (((S.setX w.1 d x2).setV w.1 { (v.setX d x2) with mo := mo4, files := wBc id (v.setX d x2).files }).own) rfl (.cons (.agg rfl rfl rfl) .nil) ?_)))
 have hr : wCc S.abs w = (((S.setX w.1 d x2).setV w.1 { (v.setX d x2) with mo := mo4, files := wBc id (v.setX d x2).files }).abs, {}) := by
  rw [abs_fileDel hv2, wFc (f := fun x => { x with names := wBc (wAi w) x.names }) hv hxd hpf2, wFr]
  unfold wCc; rw [hw]; simp only; rw [wCn hv hx, hd]; simp only [if_true]; rw [wGs hv hx, if_neg (by rw [hl]; simp [hne])]; rw [hf]; simp only [Bool.false_eq_true, if_false]; rw [hpl]; rfl
 rw [hr]; exact OpP.plain (r := (_, _)) (hS2.fileDel hv2 hmo4) rfl rfl rfl rfl
theorem rename_root (S : CS) (hS : S.Ok) (n : Nat) (hwf : WFS n S.abs) (hn : n ≤ 100) (M : Mem) (c : CL) (ca : Option Addr) (ck : Nat) (hC : CallOk M c ca ck) (w : Wy) (na : Option Addr) (nc : Nat) (hW : WyOk M w na nc) (o : Wy) (oa : Option Addr) (oc : Nat) (hO : WyOk M o oa oc) (he : w.2 = []) :
  SpecL Tryz.prog 49 #[pt S.b, clV c ca ck, wyV w na nc, wyV o oa oc] M S.own fun u M' L' => OpP S.b (wBv insB S.abs w o) u M' L' := by
 refine SpecL.mem fun hnd hdis => ?_
 have hVa := wBf (M := M) hnd
 have hMa := wBk hdis
 have hVw : ∀ L, SubL S.own L → Vw M L S.own := fun L h => Vw.of
 have hl0 : w.2.length = 0 := by rw [he]; rfl
 refine wAe (vs := [_, _, _, _]) 99 _ Tryz.func49 rfl Tryz.ntmps49 rfl rfl ?_; intro W
 refine wAb (wAa (sBx [_, _, _, _, _, _, _] rfl fun b5 => ?_))
 refine sBx [_, _] rfl fun b6 => ?_
 refine sBx [_, _] rfl fun b7 => ?_
 refine sAl rfl fun b8 => ?_
 refine wAc (jT (wAb (wAb (wAa (sFL rfl rfl ?_)))))
 refine lq (wCd rfl rfl rfl) ?_
 refine jt rfl (decide_eq_true (by omega)) ?_
 refine wAc (jT (wAf rfl (wAb (wAa (lq (qCl (wAt 260 M)) ?_)))))
 refine sSt rfl ?_
 refine wAc (jT (wAg (jTr (wFu (rs := [_]) (S.own) rfl (.cons (.agg rfl rfl rfl) .nil) ?_))))
 have hr : wBv insB S.abs w o = (S.abs, wCa 260) := by
  unfold wBv; rw [if_pos he]
 rw [hr]; exact OpP.plain (r := (S.abs, _)) hS rfl rfl rfl rfl
theorem rename_e1 (S : CS) (hS : S.Ok) (n : Nat) (hwf : WFS n S.abs) (hn : n ≤ 100) (M : Mem) (c : CL) (ca : Option Addr) (ck : Nat) (hC : CallOk M c ca ck) (w : Wy) (na : Option Addr) (nc : Nat) (hW : WyOk M w na nc) (o : Wy) (oa : Option Addr) (oc : Nat) (hO : WyOk M o oa oc) (hne : w.2 ≠ []) (e : Int) (hw : wBb S.abs w.1 w.2 = .error e) :
  SpecL Tryz.prog 49 #[pt S.b, clV c ca ck, wyV w na nc, wyV o oa oc] M S.own fun u M' L' => OpP S.b (wBv insB S.abs w o) u M' L' := by
 refine SpecL.mem fun hnd hdis => ?_
 have hVa := wBf (M := M) hnd
 have hMa := wBk hdis
 have hVw : ∀ L, SubL S.own L → Vw M L S.own := fun L h => Vw.of
 have hl0 : 0 < w.2.length := List.length_pos_iff.2 hne
 have he := wEw hwf hw
 refine wAe (vs := [_, _, _, _]) 99 _ Tryz.func49 rfl Tryz.ntmps49 rfl rfl ?_; intro W
 refine wAb (wAa (sBx [_, _, _, _, _, _, _] rfl fun b5 => ?_))
 refine sBx [_, _] rfl fun b6 => ?_
 refine sBx [_, _] rfl fun b7 => ?_
 refine sAl rfl fun b8 => ?_
 refine wAc (jT (wAb (wAb (wAa (sFL rfl rfl ?_)))))
 refine lq (wCd rfl rfl rfl) ?_
 refine jf rfl (decide_eq_false (by omega)) ?_
 refine wAc (jT (wAh rfl (wAd (jT (wAb (wAa (jp rfl (sFL rfl rfl ?_))))))))
 refine sFL rfl rfl ?_
 refine lq (qEq (wBm (R := S.own) rfl rfl rfl rfl rfl (by kernel_rfl) (SubL.sub) (wCi S hS n hwf w.1 w.2 na nc (wDu M S.own) hVa (hW.sn.mono hMa) hW.big)) (by rw [hw]; try rfl)) ?_
 iterate 7 refine jp rfl ?_
 refine wAc (jT (wAb (wAb (wAa (jp rfl (jt rfl (decide_eq_true (by omega)) ?_))))))
 refine wAc (jT (wAf rfl (wAb (wAa (jp rfl (lq (qCl (wAt e M)) ?_))))))
 refine sSt rfl ?_
 refine wAc (jT (wAg (jTr (wFu (rs := [_]) (S.own) rfl (.cons (.agg rfl rfl rfl) .nil) ?_))))
 have hr : wBv insB S.abs w o = (S.abs, wCa e) := by
  unfold wBv; rw [if_neg hne, hw]
 rw [hr]; exact OpP.plain (r := (S.abs, _)) hS rfl rfl rfl rfl
theorem rename_e2 (S : CS) (hS : S.Ok) (n : Nat) (hwf : WFS n S.abs) (hn : n ≤ 100) (M : Mem) (c : CL) (ca : Option Addr) (ck : Nat) (hC : CallOk M c ca ck) (w : Wy) (na : Option Addr) (nc : Nat) (hW : WyOk M w na nc) (o : Wy) (oa : Option Addr) (oc : Nat) (hO : WyOk M o oa oc) (hne : w.2 ≠ []) (id : Int) (hw : wBb S.abs w.1 w.2 = .ok id) (v : CV) (x : CF) (hv : wAm w.1 S.vols = some v) (hx : wAm id v.files = some x) (d : Int) (xd : CF) (hpl : wCj S.abs w = .ok d) (hxd : wAm d v.files = some xd) (hdd : xd.pf.dir = true) (e : Int) (hf : wBo S.abs o w.1 (some d) = .error e) :
  SpecL Tryz.prog 49 #[pt S.b, clV c ca ck, wyV w na nc, wyV o oa oc] M S.own fun u M' L' => OpP S.b (wBv insB S.abs w o) u M' L' := by
 refine SpecL.mem fun hnd hdis => ?_
 have hVa := wBf (M := M) hnd
 have hMa := wBk hdis
 have hVw : ∀ L, SubL S.own L → Vw M L S.own := fun L h => Vw.of
 have hl0 : 0 < w.2.length := List.length_pos_iff.2 hne
 have he := freshS_err hwf hf
 refine wAe (vs := [_, _, _, _]) 99 _ Tryz.func49 rfl Tryz.ntmps49 rfl rfl ?_; intro W
 refine wAb (wAa (sBx [_, _, _, _, _, _, _] rfl fun b5 => ?_))
 refine sBx [_, _] rfl fun b6 => ?_
 refine sBx [_, _] rfl fun b7 => ?_
 refine sAl rfl fun b8 => ?_
 refine wAc (jT (wAb (wAb (wAa (sFL rfl rfl ?_)))))
 refine lq (wCd rfl rfl rfl) ?_
 refine jf rfl (decide_eq_false (by omega)) ?_
 refine wAc (jT (wAh rfl (wAd (jT (wAb (wAa (jp rfl (sFL rfl rfl ?_))))))))
 refine sFL rfl rfl ?_
 refine lq (qEq (v' := .tuple #[.int .u32 id, pt x.b, .int .i64 0]) (wBm (R := S.own) rfl rfl rfl rfl rfl (by kernel_rfl) (SubL.sub) (wCi S hS n hwf w.1 w.2 na nc (wDu M S.own) hVa (hW.sn.mono hMa) hW.big)) (by rw [hw]; exact wBj hv hx)) ?_
 iterate 7 refine jp rfl ?_
 refine wAc (jT (wAb (wAb (wAa (jp rfl (jf rfl (decide_eq_false (by omega)) ?_))))))
 refine wAc (jT (wAh rfl (wAd (jT (wAb (wAa (jp rfl (sLL rfl ?_))))))))
 refine lq (qEq (v' := .tuple #[.int .u32 d, pt xd.b, .int .i64 0]) (wBm (R := S.own) rfl rfl rfl rfl rfl (by kernel_rfl) (SubL.sub) (wFg S hS n hwf (wDu M S.own) hVa w na nc (hW.mono hMa) hne)) (by rw [hpl]; exact wBj hv hxd)) ?_
 iterate 7 refine jp rfl ?_
 refine wAc (jT (wAb (wAa (jp rfl (sLL rfl ?_)))))
 refine sFL rfl rfl ?_
 refine jp rfl ?_
 refine lq (qEq (wBm (R := S.own) rfl rfl rfl rfl rfl (by kernel_rfl) (SubL.sub) (wEe S hS n hwf (wDu M S.own) hVa o oa oc (hO.mono hMa) w.1 (some d) (pt xd.b) hnd (fun ho1 => .inr ⟨d, v, xd, rfl, by rw [ho1]; exact hv, hxd, rfl⟩))) (by rw [hf]; try rfl)) ?_
 iterate 7 refine jp rfl ?_
 refine wAc (jT (wAb (wAk (wAb (wAa (jp rfl (jt rfl (decide_eq_true (by omega)) ?_)))))))
 refine jp rfl (wAc (jT (wAf rfl (wAb (wAa (jp rfl (lq (qCl (wAt e M)) ?_)))))))
 refine sSt rfl ?_
 refine wAc (jT (wAg (jBr (jTr (wFu (rs := [_]) (S.own) rfl (.cons (.agg rfl rfl rfl) .nil) ?_)))))
 have hr : wBv insB S.abs w o = (S.abs, wCa e) := by
  unfold wBv; rw [if_neg hne, hw]; simp only; rw [hpl]; simp only; rw [hf]
 rw [hr]; exact OpP.plain (r := (S.abs, _)) hS rfl rfl rfl rfl
theorem rename_loop (S : CS) (hS : S.Ok) (n : Nat) (hwf : WFS n S.abs) (hn : n ≤ 100) (M : Mem) (c : CL) (ca : Option Addr) (ck : Nat) (hC : CallOk M c ca ck) (w : Wy) (na : Option Addr) (nc : Nat) (hW : WyOk M w na nc) (o : Wy) (oa : Option Addr) (oc : Nat) (hO : WyOk M o oa oc) (hne : w.2 ≠ []) (id : Int) (hw : wBb S.abs w.1 w.2 = .ok id) (v : CV) (x : CF) (hv : wAm w.1 S.vols = some v) (hx : wAm id v.files = some x) (d : Int) (xd : CF) (hpl : wCj S.abs w = .ok d) (hxd : wAm d v.files = some xd) (hdd : xd.pf.dir = true) (t : Int) (xt : CF) (hfr : wBo S.abs o w.1 (some d) = .ok t) (hxt : wAm t v.files = some xt) (h63 : x.pf.dir = true) (hi : insD (wEf v.files) t id = true) :
  SpecL Tryz.prog 49 #[pt S.b, clV c ca ck, wyV w na nc, wyV o oa oc] M S.own fun u M' L' => OpP S.b (wBv insB S.abs w o) u M' L' := by
 refine SpecL.mem fun hnd hdis => ?_
 have hVa := wBf (M := M) hnd
 have hMa := wBk hdis
 have hVw : ∀ L, SubL S.own L → Vw M L S.own := fun L h => Vw.of
 have hl0 : 0 < w.2.length := List.length_pos_iff.2 hne
 obtain ⟨hone, ho1, hop, v2, xt2, hv2, hxt2, htd, hno, hlen⟩ := wEq hwf hfr
 rw [ho1, hv] at hv2; cases hv2; rw [hxt] at hxt2; cases hxt2
 have hwb : WFB (wEf v.files) := (hwf.vol w.1 v.abs (by rw [wBp, hv]; rfl)).wf.toWFB
 have hiB : insB S.abs w.1 t id = insD (wEf v.files) t id := by unfold insB; rw [wBp, hv]; rfl
 refine wAe (vs := [_, _, _, _]) 99 _ Tryz.func49 rfl Tryz.ntmps49 rfl rfl ?_; intro W
 refine wAb (wAa (sBx [_, _, _, _, _, _, _] rfl fun b5 => ?_))
 refine sBx [_, _] rfl fun b6 => ?_
 refine sBx [_, _] rfl fun b7 => ?_
 refine sAl rfl fun b8 => ?_
 refine wAc (jT (wAb (wAb (wAa (sFL rfl rfl ?_)))))
 refine lq (wCd rfl rfl rfl) ?_
 refine jf rfl (decide_eq_false (by omega)) ?_
 refine wAc (jT (wAh rfl (wAd (jT (wAb (wAa (jp rfl (sFL rfl rfl ?_))))))))
 refine sFL rfl rfl ?_
 refine lq (qEq (v' := .tuple #[.int .u32 id, pt x.b, .int .i64 0]) (wBm (R := S.own) rfl rfl rfl rfl rfl (by kernel_rfl) (SubL.sub) (wCi S hS n hwf w.1 w.2 na nc (wDu M S.own) hVa (hW.sn.mono hMa) hW.big)) (by rw [hw]; exact wBj hv hx)) ?_
 iterate 7 refine jp rfl ?_
 refine wAc (jT (wAb (wAb (wAa (jp rfl (jf rfl (decide_eq_false (by omega)) ?_))))))
 refine wAc (jT (wAh rfl (wAd (jT (wAb (wAa (jp rfl (sLL rfl ?_))))))))
 refine lq (qEq (v' := .tuple #[.int .u32 d, pt xd.b, .int .i64 0]) (wBm (R := S.own) rfl rfl rfl rfl rfl (by kernel_rfl) (SubL.sub) (wFg S hS n hwf (wDu M S.own) hVa w na nc (hW.mono hMa) hne)) (by rw [hpl]; exact wBj hv hxd)) ?_
 iterate 7 refine jp rfl ?_
 refine wAc (jT (wAb (wAa (jp rfl (sLL rfl ?_)))))
 refine sFL rfl rfl ?_
 refine jp rfl ?_
 refine lq (qEq (v' := .tuple #[.int .u32 t, pt xt.b, .int .i64 0]) (wBm (R := S.own) rfl rfl rfl rfl rfl (by kernel_rfl) (SubL.sub) (wEe S hS n hwf (wDu M S.own) hVa o oa oc (hO.mono hMa) w.1 (some d) (pt xd.b) hnd (fun ho1 => .inr ⟨d, v, xd, rfl, by rw [ho1]; exact hv, hxd, rfl⟩))) (by rw [hfr, ho1]; exact wBj hv hxt)) ?_
 iterate 7 refine jp rfl ?_
 refine wAc (jT (wAb (wAk (wAb (wAa (jp rfl (jf rfl (decide_eq_false (by omega)) ?_)))))))
 refine jp rfl (wAc (jT (wAh rfl (wAb (wCw [(0, true), (1, true), (2, true), (3, true), (4, true), (5, true), (6, true), (7, true), (8, true), (9, true), (10, true), (11, true), (12, true), (13, true), (14, true), (15, true), (16, true)] ((b8, _) :: (b7, _) :: (b6, _) :: (b5, _) :: S.own) (fun _ h => h) ?_)))))
 refine dp rfl rfl ?_
 refine dq rfl (wAj rfl rfl rfl) ?_
 refine dFa rfl rfl ?_
 refine dq rfl (qEq (qLd rfl rfl rfl rfl ((Vw.x (Vw.file (Vw.vol Vw.of hv) hx)).cj rfl)) (v' := .bool true) (by exact congrArg Value.bool h63)) ?_
 iterate 2 refine dp rfl rfl ?_
 refine dq rfl (wAj rfl rfl rfl) ?_
 refine dFa rfl rfl ?_
 refine dq rfl (qLd rfl rfl rfl rfl ((Vw.s Vw.of).cj rfl)) ?_
 refine dFa rfl rfl ?_
 refine dLd rfl rfl ?_
 refine dq rfl (qEq (v' := pt v.b) (wDk kI (z := .pointer none) rfl rfl rfl rfl (by kernel_rfl) (Vw.mo Vw.of) hS.mo) (by rw [wEv, hv]; try rfl)) ?_
 iterate 2 refine dp rfl rfl ?_
 refine dq rfl (qEq (wBm (R := S.own) rfl rfl rfl rfl rfl (by kernel_rfl) (SubL.sub) (wKu v (hS.v hv) hwb t (wDu M S.own) (fun p hp => hVa p (by have := Vw.vol (M := fun _ => none) (L := S.own) Vw.of hv p hp; rcases this with h | h; cases h; exact h)) id x hx h63)) (v' := .bool true) (by rw [hi])) ?_
 iterate 2 refine dp rfl rfl ?_
 refine wAs (jPn (jT (wAf rfl (wAb (wAa (lq (qCl (wAt 261 M)) ?_))))))
 refine sSt rfl ?_
 refine wAc (jT (wAg (jBr (jTr (wFu (rs := [_]) (S.own) rfl (.cons (.agg rfl rfl rfl) .nil) ?_)))))
 have hr : wBv insB S.abs w o = (S.abs, wCa 261) := by
  unfold wBv; rw [if_neg hne, hw]; simp only; rw [hpl]; simp only; rw [hfr]; simp only; rw [wCn hv hx, hiB, h63, hi]; rfl
 rw [hr]; exact OpP.plain (r := (S.abs, _)) hS rfl rfl rfl rfl
theorem rename_frz (S : CS) (hS : S.Ok) (n : Nat) (hwf : WFS n S.abs) (hn : n ≤ 100) (M : Mem) (c : CL) (ca : Option Addr) (ck : Nat) (hC : CallOk M c ca ck) (w : Wy) (na : Option Addr) (nc : Nat) (hW : WyOk M w na nc) (o : Wy) (oa : Option Addr) (oc : Nat) (hO : WyOk M o oa oc) (hne : w.2 ≠ []) (id : Int) (hw : wBb S.abs w.1 w.2 = .ok id) (v : CV) (x : CF) (hv : wAm w.1 S.vols = some v) (hx : wAm id v.files = some x) (d : Int) (xd : CF) (hpl : wCj S.abs w = .ok d) (hxd : wAm d v.files = some xd) (hdd : xd.pf.dir = true) (t : Int) (xt : CF) (hfr : wBo S.abs o w.1 (some d) = .ok t) (hxt : wAm t v.files = some xt) (hi : x.pf.dir = true → insD (wEf v.files) t id = false) (hf : wAr S.abs w.1 = true) :
  SpecL Tryz.prog 49 #[pt S.b, clV c ca ck, wyV w na nc, wyV o oa oc] M S.own fun u M' L' => OpP S.b (wBv insB S.abs w o) u M' L' := by
 refine SpecL.mem fun hnd hdis => ?_
 have hVa := wBf (M := M) hnd
 have hMa := wBk hdis
 have hVw : ∀ L, SubL S.own L → Vw M L S.own := fun L h => Vw.of
 have hl0 : 0 < w.2.length := List.length_pos_iff.2 hne
 obtain ⟨hone, ho1, hop, v2, xt2, hv2, hxt2, htd, hno, hlen⟩ := wEq hwf hfr
 rw [ho1, hv] at hv2; cases hv2; rw [hxt] at hxt2; cases hxt2
 have hwb : WFB (wEf v.files) := (hwf.vol w.1 v.abs (by rw [wBp, hv]; rfl)).wf.toWFB
 have hiB : insB S.abs w.1 t id = insD (wEf v.files) t id := by unfold insB; rw [wBp, hv]; rfl
 refine wAe (vs := [_, _, _, _]) 99 _ Tryz.func49 rfl Tryz.ntmps49 rfl rfl ?_; intro W
 refine wAb (wAa (sBx [_, _, _, _, _, _, _] rfl fun b5 => ?_))
 refine sBx [_, _] rfl fun b6 => ?_
 refine sBx [_, _] rfl fun b7 => ?_
 refine sAl rfl fun b8 => ?_
 refine wAc (jT (wAb (wAb (wAa (sFL rfl rfl ?_)))))
 refine lq (wCd rfl rfl rfl) ?_
 refine jf rfl (decide_eq_false (by omega)) ?_
 refine wAc (jT (wAh rfl (wAd (jT (wAb (wAa (jp rfl (sFL rfl rfl ?_))))))))
 refine sFL rfl rfl ?_
 refine lq (qEq (v' := .tuple #[.int .u32 id, pt x.b, .int .i64 0]) (wBm (R := S.own) rfl rfl rfl rfl rfl (by kernel_rfl) (SubL.sub) (wCi S hS n hwf w.1 w.2 na nc (wDu M S.own) hVa (hW.sn.mono hMa) hW.big)) (by rw [hw]; exact wBj hv hx)) ?_
 iterate 7 refine jp rfl ?_
 refine wAc (jT (wAb (wAb (wAa (jp rfl (jf rfl (decide_eq_false (by omega)) ?_))))))
 refine wAc (jT (wAh rfl (wAd (jT (wAb (wAa (jp rfl (sLL rfl ?_))))))))
 refine lq (qEq (v' := .tuple #[.int .u32 d, pt xd.b, .int .i64 0]) (wBm (R := S.own) rfl rfl rfl rfl rfl (by kernel_rfl) (SubL.sub) (wFg S hS n hwf (wDu M S.own) hVa w na nc (hW.mono hMa) hne)) (by rw [hpl]; exact wBj hv hxd)) ?_
 iterate 7 refine jp rfl ?_
 refine wAc (jT (wAb (wAa (jp rfl (sLL rfl ?_)))))
 refine sFL rfl rfl ?_
 refine jp rfl ?_
 refine lq (qEq (v' := .tuple #[.int .u32 t, pt xt.b, .int .i64 0]) (wBm (R := S.own) rfl rfl rfl rfl rfl (by kernel_rfl) (SubL.sub) (wEe S hS n hwf (wDu M S.own) hVa o oa oc (hO.mono hMa) w.1 (some d) (pt xd.b) hnd (fun ho1 => .inr ⟨d, v, xd, rfl, by rw [ho1]; exact hv, hxd, rfl⟩))) (by rw [hfr, ho1]; exact wBj hv hxt)) ?_
 iterate 7 refine jp rfl ?_
 refine wAc (jT (wAb (wAk (wAb (wAa (jp rfl (jf rfl (decide_eq_false (by omega)) ?_)))))))
 refine jp rfl (wAc (jT (wAh rfl (wAb (wCw [(0, true), (1, true), (2, true), (3, true), (4, true), (5, true), (6, true), (7, true), (8, true), (9, true), (10, true), (11, true), (12, true), (13, true), (14, true), (15, true), (16, true)] ((b8, _) :: (b7, _) :: (b6, _) :: (b5, _) :: S.own) (fun _ h => h) ?_)))))
 refine dp rfl rfl ?_
 refine dq rfl (wAj rfl rfl rfl) ?_
 refine dFa rfl rfl ?_
 refine jd_qb rfl rfl rfl (qLd rfl rfl rfl rfl ((Vw.x (Vw.file (Vw.vol Vw.of hv) hx)).cj rfl)) (fun h63 => ?_) (fun h63 => ?_)
 ·iterate 2 refine dp rfl rfl ?_
  refine dq rfl (wAj rfl rfl rfl) ?_
  refine dFa rfl rfl ?_
  refine dq rfl (qLd rfl rfl rfl rfl ((Vw.s Vw.of).cj rfl)) ?_
  refine dFa rfl rfl ?_
  refine dLd rfl rfl ?_
  refine dq rfl (qEq (v' := pt v.b) (wDk kI (z := .pointer none) rfl rfl rfl rfl (by kernel_rfl) (Vw.mo Vw.of) hS.mo) (by rw [wEv, hv]; try rfl)) ?_
  iterate 2 refine dp rfl rfl ?_
  refine dq rfl (qEq (wBm (R := S.own) rfl rfl rfl rfl rfl (by kernel_rfl) (SubL.sub) (wKu v (hS.v hv) hwb t (wDu M S.own) (fun p hp => hVa p (by have := Vw.vol (M := fun _ => none) (L := S.own) Vw.of hv p hp; rcases this with h | h; cases h; exact h)) id x hx h63)) (v' := .bool false) (by rw [hi h63])) ?_
  iterate 2 refine dp rfl rfl ?_
  refine wAs (jPn (jT (wAh rfl (wAd (jB (jT (wAb (wAb (wAa (jp rfl (sFL rfl rfl ?_)))))))))))
  refine lq (qEq (v' := .int .i64 170) (wBm (R := S.own) rfl rfl rfl rfl rfl (by kernel_rfl) (SubL.sub) (wDc S hS n hwf (wDu M S.own) hVa w.1 v hv)) (by rw [hf]; rfl)) ?_
  refine jp rfl (wAc (jT (wAb (wAa (jp rfl (jt rfl (decide_eq_true (by omega)) ?_))))))
  refine wAc (jT (wAf rfl (wAb (wAa (jp rfl (lq (qCl (wAt 170 M)) ?_))))))
  refine sSt rfl ?_
  refine wAc (jT (wAg (jTr (wFu (rs := [_]) (S.own) rfl (.cons (.agg rfl rfl rfl) .nil) ?_))))
  have hr : wBv insB S.abs w o = (S.abs, wCa 170) := by
   unfold wBv; rw [if_neg hne, hw]; simp only; rw [hpl]; simp only; rw [hfr]; simp only; rw [wCn hv hx, hiB, if_neg (by intro h; rw [Bool.and_eq_true] at h; rw [hi h.1] at h; cases h.2)]; rw [hf]; rfl
  rw [hr]; exact OpP.plain (r := (S.abs, _)) hS rfl rfl rfl rfl
 iterate 13 refine dp rfl rfl ?_
 refine wAs (jPn (jT (wAh rfl (wAd (jB (jT (wAb (wAb (wAa (jp rfl (sFL rfl rfl ?_)))))))))))
 refine lq (qEq (v' := .int .i64 170) (wBm (R := S.own) rfl rfl rfl rfl rfl (by kernel_rfl) (SubL.sub) (wDc S hS n hwf (wDu M S.own) hVa w.1 v hv)) (by rw [hf]; rfl)) ?_
 refine jp rfl (wAc (jT (wAb (wAa (jp rfl (jt rfl (decide_eq_true (by omega)) ?_))))))
 refine wAc (jT (wAf rfl (wAb (wAa (jp rfl (lq (qCl (wAt 170 M)) ?_))))))
 refine sSt rfl ?_
 refine wAc (jT (wAg (jTr (wFu (rs := [_]) (S.own) rfl (.cons (.agg rfl rfl rfl) .nil) ?_))))
 have hr : wBv insB S.abs w o = (S.abs, wCa 170) := by
  unfold wBv; rw [if_neg hne, hw]; simp only; rw [hpl]; simp only; rw [hfr]; simp only; rw [wCn hv hx, hiB, if_neg (by intro h; rw [Bool.and_eq_true] at h; rw [hi h.1] at h; cases h.2)]; rw [hf]; rfl
 rw [hr]; exact OpP.plain (r := (S.abs, _)) hS rfl rfl rfl rfl
set_option maxHeartbeats 1000000 in
theorem rename_ok (S : CS) (hS : S.Ok) (n : Nat) (hwf : WFS n S.abs) (hn : n ≤ 100) (M : Mem) (c : CL) (ca : Option Addr) (ck : Nat) (hC : CallOk M c ca ck) (w : Wy) (na : Option Addr) (nc : Nat) (hW : WyOk M w na nc) (o : Wy) (oa : Option Addr) (oc : Nat) (hO : WyOk M o oa oc) (hne : w.2 ≠ []) (id : Int) (hw : wBb S.abs w.1 w.2 = .ok id) (v : CV) (x : CF) (hv : wAm w.1 S.vols = some v) (hx : wAm id v.files = some x) (d : Int) (xd : CF) (hpl : wCj S.abs w = .ok d) (hxd : wAm d v.files = some xd) (hdd : xd.pf.dir = true) (t : Int) (xt : CF) (hfr : wBo S.abs o w.1 (some d) = .ok t) (hxt : wAm t v.files = some xt) (hi : x.pf.dir = true → insD (wEf v.files) t id = false) (hf : wAr S.abs w.1 = false) :
  SpecL Tryz.prog 49 #[pt S.b, clV c ca ck, wyV w na nc, wyV o oa oc] M S.own fun u M' L' => OpP S.b (wBv insB S.abs w o) u M' L' := by
 refine SpecL.mem fun hnd hdis => ?_
 have hVa := wBf (M := M) hnd
 have hMa := wBk hdis
 have hVw : ∀ L, SubL S.own L → Vw M L S.own := fun L h => Vw.of
 have hl0 : 0 < w.2.length := List.length_pos_iff.2 hne
 obtain ⟨hone, ho1, hop, v2, xt2, hv2, hxt2, htd, hno, hlen⟩ := wEq hwf hfr
 rw [ho1, hv] at hv2; cases hv2; rw [hxt] at hxt2; cases hxt2
 have hwb : WFB (wEf v.files) := (hwf.vol w.1 v.abs (by rw [wBp, hv]; rfl)).wf.toWFB
 have hiB : insB S.abs w.1 t id = insD (wEf v.files) t id := by unfold insB; rw [wBp, hv]; rfl
 obtain ⟨nmb, nmo, e1, e2, e3⟩ := ((hS.v hv).x hxd).map hdd
 refine wAe (vs := [_, _, _, _]) 99 _ Tryz.func49 rfl Tryz.ntmps49 rfl rfl ?_; intro W
 refine wAb (wAa (sBx [_, _, _, _, _, _, _] rfl fun b5 => ?_))
 refine sBx [_, _] rfl fun b6 => ?_
 refine sBx [_, _] rfl fun b7 => ?_
 refine sAl rfl fun b8 => ?_
 refine wAc (jT (wAb (wAb (wAa (sFL rfl rfl ?_)))))
 refine lq (wCd rfl rfl rfl) ?_
 refine jf rfl (decide_eq_false (by omega)) ?_
 refine wAc (jT (wAh rfl (wAd (jT (wAb (wAa (jp rfl (sFL rfl rfl ?_))))))))
 refine sFL rfl rfl ?_
 refine lq (qEq (v' := .tuple #[.int .u32 id, pt x.b, .int .i64 0]) (wBm (R := S.own) rfl rfl rfl rfl rfl (by kernel_rfl) (SubL.sub) (wCi S hS n hwf w.1 w.2 na nc (wDu M S.own) hVa (hW.sn.mono hMa) hW.big)) (by rw [hw]; exact wBj hv hx)) ?_
 iterate 7 refine jp rfl ?_
 refine wAc (jT (wAb (wAb (wAa (jp rfl (jf rfl (decide_eq_false (by omega)) ?_))))))
 refine wAc (jT (wAh rfl (wAd (jT (wAb (wAa (jp rfl (sLL rfl ?_))))))))
 refine lq (qEq (v' := .tuple #[.int .u32 d, pt xd.b, .int .i64 0]) (wBm (R := S.own) rfl rfl rfl rfl rfl (by kernel_rfl) (SubL.sub) (wFg S hS n hwf (wDu M S.own) hVa w na nc (hW.mono hMa) hne)) (by rw [hpl]; exact wBj hv hxd)) ?_
 iterate 7 refine jp rfl ?_
 refine wAc (jT (wAb (wAa (jp rfl (sLL rfl ?_)))))
 refine sFL rfl rfl ?_
 refine jp rfl ?_
 refine lq (qEq (v' := .tuple #[.int .u32 t, pt xt.b, .int .i64 0]) (wBm (R := S.own) rfl rfl rfl rfl rfl (by kernel_rfl) (SubL.sub) (wEe S hS n hwf (wDu M S.own) hVa o oa oc (hO.mono hMa) w.1 (some d) (pt xd.b) hnd (fun ho1 => .inr ⟨d, v, xd, rfl, by rw [ho1]; exact hv, hxd, rfl⟩))) (by rw [hfr, ho1]; exact wBj hv hxt)) ?_
 iterate 7 refine jp rfl ?_
 refine wAc (jT (wAb (wAk (wAb (wAa (jp rfl (jf rfl (decide_eq_false (by omega)) ?_)))))))
 refine jp rfl (wAc (jT (wAh rfl (wAb (wCw [(0, true), (1, true), (2, true), (3, true), (4, true), (5, true), (6, true), (7, true), (8, true), (9, true), (10, true), (11, true), (12, true), (13, true), (14, true), (15, true), (16, true)] ((b8, _) :: (b7, _) :: (b6, _) :: (b5, _) :: S.own) (fun _ h => h) ?_)))))
 refine dp rfl rfl ?_
 refine dq rfl (wAj rfl rfl rfl) ?_
 refine dFa rfl rfl ?_
 refine jd_qb rfl rfl rfl (qLd rfl rfl rfl rfl ((Vw.x (Vw.file (Vw.vol Vw.of hv) hx)).cj rfl)) (fun h63 => ?_) (fun h63 => ?_)
 ·iterate 2 refine dp rfl rfl ?_
  refine dq rfl (wAj rfl rfl rfl) ?_
  refine dFa rfl rfl ?_
  refine dq rfl (qLd rfl rfl rfl rfl ((Vw.s Vw.of).cj rfl)) ?_
  refine dFa rfl rfl ?_
  refine dLd rfl rfl ?_
  refine dq rfl (qEq (v' := pt v.b) (wDk kI (z := .pointer none) rfl rfl rfl rfl (by kernel_rfl) (Vw.mo Vw.of) hS.mo) (by rw [wEv, hv]; try rfl)) ?_
  iterate 2 refine dp rfl rfl ?_
  refine dq rfl (qEq (wBm (R := S.own) rfl rfl rfl rfl rfl (by kernel_rfl) (SubL.sub) (wKu v (hS.v hv) hwb t (wDu M S.own) (fun p hp => hVa p (by have := Vw.vol (M := fun _ => none) (L := S.own) Vw.of hv p hp; rcases this with h | h; cases h; exact h)) id x hx h63)) (v' := .bool false) (by rw [hi h63])) ?_
  iterate 2 refine dp rfl rfl ?_
  refine wAs (jPn (jT (wAh rfl (wAd (jB (jT (wAb (wAb (wAa (jp rfl (sFL rfl rfl ?_)))))))))))
  refine lq (qEq (v' := .int .i64 0) (wBm (R := S.own) rfl rfl rfl rfl rfl (by kernel_rfl) (SubL.sub) (wDc S hS n hwf (wDu M S.own) hVa w.1 v hv)) (by rw [hf]; rfl)) ?_
  refine jp rfl (wAc (jT (wAb (wAa (jp rfl (jf rfl (decide_eq_false (by omega)) ?_))))))
  refine wAc (jT (wAh rfl (wAd (jT (wAb (wBn (p := { A := fun i => !([6].contains i), U := fun i => !([6].contains i) }) [(0, true), (1, true), (2, true), (3, true), (4, true), (5, true), (6, false)] _ (((b8, _) :: (b7, _) :: (b6, _) :: (b5, _) :: S.own)) ([]) (by kernel_rfl) (by kernel_rfl) (by kernel_rfl) (by kernel_rfl) rfl (fun _ h => h) (MLe.refl _) (by simp) ?_))))))
  refine dp rfl rfl ?_
  refine dq rfl (wAj rfl rfl rfl) ?_
  refine dFa rfl rfl ?_
  refine dq rfl (qEq (qLd rfl rfl rfl rfl ((Vw.x (Vw.file (Vw.vol Vw.of hv) hxd)).cj rfl)) e1) ?_
  refine dLL rfl rfl ?_
  refine dq rfl (qCl (wEx w na nc M hW.sn hne hW.big)) ?_
  refine wJu rfl rfl (hNmDel rfl rfl rfl rfl hv hxd ((hS.v hv).x hxd) hdd e1 e2 e3) ?_; rintro _ _ _ ⟨rfl, x2, hok2, hb2, hpf2, hnm2, rfl⟩
  refine ⟨MLe.refl _, by simp, ?_⟩
  have hv2 := wHj (id := d) (x' := x2) hv
  have hS2 := hS.setX hv hxd hb2 hok2
  obtain ⟨xt2, hxt2, hbt, hdt⟩ : ∃ xt2, wAm t (v.setX d x2).files = some xt2 ∧ xt2.b = xt.b ∧ xt2.pf.dir = true := by
   by_cases e : t = d
   ·subst e; rw [hxt] at hxd; cases hxd; exact ⟨x2, setX_get, hb2, by rw [hpf2]; exact htd⟩
   exact ⟨xt, by rw [wJx e]; exact hxt, rfl, htd⟩
  obtain ⟨ntb, nto, g1, g2, g3⟩ := ((hS2.v hv2).x hxt2).map hdt
  refine wCu ?_
  refine jPn (jT (wAb (wBn (p := { A := fun i => !([7].contains i), U := fun i => !([7].contains i) }) [(0, true), (1, true), (2, true), (3, true), (4, true), (5, true), (6, true), (7, false)] _ (((S.setX w.1 d x2).own ++ [(b8, _), (b7, _), (b6, _), (b5, _)])) ([]) (by kernel_rfl) (by kernel_rfl) (by kernel_rfl) (by kernel_rfl) rfl (fun _ h => h) (MLe.refl _) (by simp) ?_)))
  refine dp rfl rfl ?_
  refine dq rfl (wAj rfl rfl rfl) ?_
  refine dFa rfl rfl ?_
  refine dq rfl (qEq (qLd rfl rfl rfl rfl ((Vw.xAt (Vw.file (Vw.vol Vw.of hv2) hxt2) hbt).cj rfl)) g1) ?_
  refine dLL rfl rfl ?_
  refine dq rfl (qCl (wEx o oa oc M hO.sn hone hO.big)) ?_
  refine dp rfl rfl ?_
  refine wJu rfl rfl (hNmPut rfl (.inl rfl) rfl rfl rfl hv2 hxt2 ((hS2.v hv2).x hxt2) hdt g1 g2 g3) ?_; rintro _ _ _ ⟨rfl, x3, hok3, hb3, hpf3, hnm3, rfl⟩
  refine ⟨MLe.refl _, by simp, ?_⟩
  refine wCu ?_
  refine jPn (jT (wAb (wAa (lq (wBe (cs := [_, _, _, _, _, _, _, _]) rfl rfl rfl (by rfl)) ?_))))
  refine sSt rfl ?_
  refine wAc (jT (wAg (wFu (rs := [_]) (((S.setX w.1 d x2).setX w.1 t x3).own) rfl (.cons (.agg rfl rfl rfl) .nil) ?_)))
  have hr : wBv insB S.abs w o = (((S.setX w.1 d x2).setX w.1 t x3).abs, {}) := by
   rw [wFc (f := fun x => { x with names := wBq (wAi o) id x.names }) hv2 hxt2 hpf3, wFc (f := fun x => { x with names := wBc (wAi w) x.names }) hv hxd hpf2, wFr]
   unfold wBv; rw [if_neg hne, hw]; simp only; rw [hpl]; simp only; rw [hfr]; simp only; rw [wCn hv hx, hiB, if_neg (by intro h; rw [Bool.and_eq_true] at h; rw [hi h.1] at h; cases h.2)]; rw [hf]; rfl
  rw [hr]; exact OpP.plain (r := (_, _)) (hS2.setX hv2 hxt2 hb3 hok3) rfl rfl rfl rfl
 iterate 13 refine dp rfl rfl ?_
 refine wAs (jPn (jT (wAh rfl (wAd (jB (jT (wAb (wAb (wAa (jp rfl (sFL rfl rfl ?_)))))))))))
 refine lq (qEq (v' := .int .i64 0) (wBm (R := S.own) rfl rfl rfl rfl rfl (by kernel_rfl) (SubL.sub) (wDc S hS n hwf (wDu M S.own) hVa w.1 v hv)) (by rw [hf]; rfl)) ?_
 refine jp rfl (wAc (jT (wAb (wAa (jp rfl (jf rfl (decide_eq_false (by omega)) ?_))))))
 refine wAc (jT (wAh rfl (wAd (jT (wAb (wBn (p := { A := fun i => !([6].contains i), U := fun i => !([6].contains i) }) [(0, true), (1, true), (2, true), (3, true), (4, true), (5, true), (6, false)] _ (((b8, _) :: (b7, _) :: (b6, _) :: (b5, _) :: S.own)) ([]) (by kernel_rfl) (by kernel_rfl) (by kernel_rfl) (by kernel_rfl) rfl (fun _ h => h) (MLe.refl _) (by simp) ?_))))))
 refine dp rfl rfl ?_
 refine dq rfl (wAj rfl rfl rfl) ?_
 refine dFa rfl rfl ?_
 refine dq rfl (qEq (qLd rfl rfl rfl rfl ((Vw.x (Vw.file (Vw.vol Vw.of hv) hxd)).cj rfl)) e1) ?_
 refine dLL rfl rfl ?_
 refine dq rfl (qCl (wEx w na nc M hW.sn hne hW.big)) ?_
 refine wJu rfl rfl (hNmDel rfl rfl rfl rfl hv hxd ((hS.v hv).x hxd) hdd e1 e2 e3) ?_; rintro _ _ _ ⟨rfl, x2, hok2, hb2, hpf2, hnm2, rfl⟩
 refine ⟨MLe.refl _, by simp, ?_⟩
 have hv2 := wHj (id := d) (x' := x2) hv
 have hS2 := hS.setX hv hxd hb2 hok2
 obtain ⟨xt2, hxt2, hbt, hdt⟩ : ∃ xt2, wAm t (v.setX d x2).files = some xt2 ∧ xt2.b = xt.b ∧ xt2.pf.dir = true := by
  by_cases e : t = d
  ·subst e; rw [hxt] at hxd; cases hxd; exact ⟨x2, setX_get, hb2, by rw [hpf2]; exact htd⟩
  exact ⟨xt, by rw [wJx e]; exact hxt, rfl, htd⟩
 obtain ⟨ntb, nto, g1, g2, g3⟩ := ((hS2.v hv2).x hxt2).map hdt
 refine wCu ?_
 refine jPn (jT (wAb (wBn (p := { A := fun i => !([7].contains i), U := fun i => !([7].contains i) }) [(0, true), (1, true), (2, true), (3, true), (4, true), (5, true), (6, true), (7, false)] _ (((S.setX w.1 d x2).own ++ [(b8, _), (b7, _), (b6, _), (b5, _)])) ([]) (by kernel_rfl) (by kernel_rfl) (by kernel_rfl) (by kernel_rfl) rfl (fun _ h => h) (MLe.refl _) (by simp) ?_)))
 refine dp rfl rfl ?_
 refine dq rfl (wAj rfl rfl rfl) ?_
 refine dFa rfl rfl ?_
 refine dq rfl (qEq (qLd rfl rfl rfl rfl ((Vw.xAt (Vw.file (Vw.vol Vw.of hv2) hxt2) hbt).cj rfl)) g1) ?_
 refine dLL rfl rfl ?_
 refine dq rfl (qCl (wEx o oa oc M hO.sn hone hO.big)) ?_
 refine dp rfl rfl ?_
 refine wJu rfl rfl (hNmPut rfl (.inl rfl) rfl rfl rfl hv2 hxt2 ((hS2.v hv2).x hxt2) hdt g1 g2 g3) ?_; rintro _ _ _ ⟨rfl, x3, hok3, hb3, hpf3, hnm3, rfl⟩
 refine ⟨MLe.refl _, by simp, ?_⟩
 refine wCu ?_
 refine jPn (jT (wAb (wAa (lq (wBe (cs := [_, _, _, _, _, _, _, _]) rfl rfl rfl (by rfl)) ?_))))
 refine sSt rfl ?_
 refine wAc (jT (wAg (wFu (rs := [_]) (((S.setX w.1 d x2).setX w.1 t x3).own) rfl (.cons (.agg rfl rfl rfl) .nil) ?_)))
 have hr : wBv insB S.abs w o = (((S.setX w.1 d x2).setX w.1 t x3).abs, {}) := by
  rw [wFc (f := fun x => { x with names := wBq (wAi o) id x.names }) hv2 hxt2 hpf3, wFc (f := fun x => { x with names := wBc (wAi w) x.names }) hv hxd hpf2, wFr]
  unfold wBv; rw [if_neg hne, hw]; simp only; rw [hpl]; simp only; rw [hfr]; simp only; rw [wCn hv hx, hiB, if_neg (by intro h; rw [Bool.and_eq_true] at h; rw [hi h.1] at h; cases h.2)]; rw [hf]; rfl
 rw [hr]; exact OpP.plain (r := (_, _)) (hS2.setX hv2 hxt2 hb3 hok3) rfl rfl rfl rfl
end Go.Proofs.YtokljhkplbkggaaGreatDoor
