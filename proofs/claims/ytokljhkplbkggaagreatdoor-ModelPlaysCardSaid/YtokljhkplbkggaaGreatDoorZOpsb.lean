/- Walks: calls that link, unlink, rename, remove directories. -/
import Derived.Test.YtokljhkplbkggaaGreatDoorZOpsa
namespace Go.Proofs.YtokljhkplbkggaaGreatDoor
set_option linter.unusedVariables false
set_option linter.unusedSectionVars false
set_option linter.unusedSimpArgs false
open Go.RowKit Go.MapKept
theorem link_e1 (S : CS) (hS : S.Ok) (n : Nat) (hwf : WFS n S.abs) (hn : n ≤ 100) (M : Mem) (c : CL) (ca : Option Addr) (ck : Nat) (hC : CallOk M c ca ck) (w : Wy) (na : Option Addr) (nc : Nat) (hW : WyOk M w na nc) (o : Wy) (oa : Option Addr) (oc : Nat) (hO : WyOk M o oa oc) (e : Int) (hw : wCh S.abs w = .error e) :
  SpecL Tryz.prog 47 #[pt S.b, clV c ca ck, wyV w na nc, wyV o oa oc] M S.own fun u M' L' => OpP S.b (wGc S.abs w o) u M' L' := by
 refine SpecL.mem fun hnd hdis => ?_
 have hVa := wBf (M := M) hnd
 have hMa := wBk hdis
 have hVw : ∀ L, SubL S.own L → Vw M L S.own := fun L h => Vw.of
 have he := wJv hwf hw
 refine wAe (vs := [_, _, _, _]) 59 _ Tryz.func47 rfl Tryz.ntmps47 rfl rfl ?_; intro W
 refine wAb (wAa (sBx [_, _, _, _, _, _, _] rfl fun b5 => ?_))
 refine sBx [_, _] rfl fun b6 => ?_
 refine sBx [_, _] rfl fun b7 => ?_
 refine sAl rfl fun b8 => ?_
 refine wAc (jT (wAb (wAa (jp rfl (sLL rfl ?_)))))
 refine lq (qEq (wBm (R := S.own) rfl rfl rfl rfl rfl (by kernel_rfl) (SubL.sub) (wDs S hS n hwf (wDu M S.own) hVa w na nc (hW.mono hMa))) (by rw [hw]; try rfl)) ?_
 iterate 7 refine jp rfl ?_
 refine wAc (jT (wAb (wAb (wAa (jp rfl (jt rfl (decide_eq_true (by omega)) ?_))))))
 refine wAc (jT (wAf rfl (wAb (wAa (jp rfl (lq (qCl (wAt e M)) ?_))))))
 refine sSt rfl ?_
 refine wAc (jT (wAg (jTr (wFu (rs := [_]) (S.own) rfl (.cons (.agg rfl rfl rfl) .nil) ?_))))
 have hr : wGc S.abs w o = (S.abs, wCa e) := by
  unfold wGc; rw [hw]
 rw [hr]; exact OpP.plain (r := (S.abs, _)) hS rfl rfl rfl rfl
theorem link_e2 (S : CS) (hS : S.Ok) (n : Nat) (hwf : WFS n S.abs) (hn : n ≤ 100) (M : Mem) (c : CL) (ca : Option Addr) (ck : Nat) (hC : CallOk M c ca ck) (w : Wy) (na : Option Addr) (nc : Nat) (hW : WyOk M w na nc) (o : Wy) (oa : Option Addr) (oc : Nat) (hO : WyOk M o oa oc) (id : Int) (hw : wCh S.abs w = .ok id) (e : Int) (hf : wBo S.abs o w.1 none = .error e) :
  SpecL Tryz.prog 47 #[pt S.b, clV c ca ck, wyV w na nc, wyV o oa oc] M S.own fun u M' L' => OpP S.b (wGc S.abs w o) u M' L' := by
 refine SpecL.mem fun hnd hdis => ?_
 have hVa := wBf (M := M) hnd
 have hMa := wBk hdis
 have hVw : ∀ L, SubL S.own L → Vw M L S.own := fun L h => Vw.of
 obtain ⟨v, x, hv, hx, hwv, hxd⟩ := wEi hwf hw
 have he := freshS_err hwf hf
 refine wAe (vs := [_, _, _, _]) 59 _ Tryz.func47 rfl Tryz.ntmps47 rfl rfl ?_; intro W
 refine wAb (wAa (sBx [_, _, _, _, _, _, _] rfl fun b5 => ?_))
 refine sBx [_, _] rfl fun b6 => ?_
 refine sBx [_, _] rfl fun b7 => ?_
 refine sAl rfl fun b8 => ?_
 refine wAc (jT (wAb (wAa (jp rfl (sLL rfl ?_)))))
 refine lq (qEq (v' := .tuple #[.int .u32 id, pt x.b, .int .i64 0]) (wBm (R := S.own) rfl rfl rfl rfl rfl (by kernel_rfl) (SubL.sub) (wDs S hS n hwf (wDu M S.own) hVa w na nc (hW.mono hMa))) (by rw [hw]; exact wBj hv hx)) ?_
 iterate 7 refine jp rfl ?_
 refine wAc (jT (wAb (wAb (wAa (jp rfl (jf rfl (decide_eq_false (by omega)) ?_))))))
 refine wAc (jT (wAh rfl (wAd (jT (wAb (wAa (jp rfl (sLL rfl ?_))))))))
 refine sFL rfl rfl ?_
 refine lq (qEq (wBm (R := S.own) rfl rfl rfl rfl rfl (by kernel_rfl) (SubL.sub) (wEe S hS n hwf (wDu M S.own) hVa o oa oc (hO.mono hMa) w.1 none (.pointer none) hnd (fun _ => .inl ⟨rfl, rfl⟩))) (by rw [hf]; try rfl)) ?_
 iterate 7 refine jp rfl ?_
 refine wAc (jT (wAb (wAb (wAa (jp rfl (jf rfl (decide_eq_false (by omega)) ?_))))))
 refine wAc (jT (wAh rfl (wAd (jT (wAb (wAb (wAa (jp rfl (jt rfl (decide_eq_true (by omega)) ?_)))))))))
 refine wAc (jT (wAf rfl (wAb (wAa (jp rfl (lq (qCl (wAt e M)) ?_))))))
 refine sSt rfl ?_
 refine wAc (jT (wAg (jTr (wFu (rs := [_]) (S.own) rfl (.cons (.agg rfl rfl rfl) .nil) ?_))))
 have hr : wGc S.abs w o = (S.abs, wCa e) := by
  unfold wGc; rw [hw]; simp only; rw [hf]
 rw [hr]; exact OpP.plain (r := (S.abs, _)) hS rfl rfl rfl rfl
theorem link_frz (S : CS) (hS : S.Ok) (n : Nat) (hwf : WFS n S.abs) (hn : n ≤ 100) (M : Mem) (c : CL) (ca : Option Addr) (ck : Nat) (hC : CallOk M c ca ck) (w : Wy) (na : Option Addr) (nc : Nat) (hW : WyOk M w na nc) (o : Wy) (oa : Option Addr) (oc : Nat) (hO : WyOk M o oa oc) (id : Int) (hw : wCh S.abs w = .ok id) (d : Int) (hfr : wBo S.abs o w.1 none = .ok d) (v : CV) (x xd : CF) (hv : wAm w.1 S.vols = some v) (hx : wAm id v.files = some x) (hxd : wAm d v.files = some xd) (hf : wAr S.abs w.1 = true) :
  SpecL Tryz.prog 47 #[pt S.b, clV c ca ck, wyV w na nc, wyV o oa oc] M S.own fun u M' L' => OpP S.b (wGc S.abs w o) u M' L' := by
 refine SpecL.mem fun hnd hdis => ?_
 have hVa := wBf (M := M) hnd
 have hMa := wBk hdis
 have hVw : ∀ L, SubL S.own L → Vw M L S.own := fun L h => Vw.of
 obtain ⟨hone, ho1, hop, v2, xd2, hv2, hxd2, hdd, hno, hlen⟩ := wEq hwf hfr
 rw [ho1, hv] at hv2; cases hv2; rw [hxd] at hxd2; cases hxd2
 refine wAe (vs := [_, _, _, _]) 59 _ Tryz.func47 rfl Tryz.ntmps47 rfl rfl ?_; intro W
 refine wAb (wAa (sBx [_, _, _, _, _, _, _] rfl fun b5 => ?_))
 refine sBx [_, _] rfl fun b6 => ?_
 refine sBx [_, _] rfl fun b7 => ?_
 refine sAl rfl fun b8 => ?_
 refine wAc (jT (wAb (wAa (jp rfl (sLL rfl ?_)))))
 refine lq (qEq (v' := .tuple #[.int .u32 id, pt x.b, .int .i64 0]) (wBm (R := S.own) rfl rfl rfl rfl rfl (by kernel_rfl) (SubL.sub) (wDs S hS n hwf (wDu M S.own) hVa w na nc (hW.mono hMa))) (by rw [hw]; exact wBj hv hx)) ?_
 iterate 7 refine jp rfl ?_
 refine wAc (jT (wAb (wAb (wAa (jp rfl (jf rfl (decide_eq_false (by omega)) ?_))))))
 refine wAc (jT (wAh rfl (wAd (jT (wAb (wAa (jp rfl (sLL rfl ?_))))))))
 refine sFL rfl rfl ?_
 refine lq (qEq (v' := .tuple #[.int .u32 d, pt xd.b, .int .i64 0]) (wBm (R := S.own) rfl rfl rfl rfl rfl (by kernel_rfl) (SubL.sub) (wEe S hS n hwf (wDu M S.own) hVa o oa oc (hO.mono hMa) w.1 none (.pointer none) hnd (fun _ => .inl ⟨rfl, rfl⟩))) (by rw [hfr, ho1]; exact wBj hv hxd)) ?_
 iterate 7 refine jp rfl ?_
 refine wAc (jT (wAb (wAb (wAa (jp rfl (jt rfl (decide_eq_true (by omega)) ?_))))))
 refine wAc (jT (wAf rfl (wAa (jp rfl (sFL rfl rfl ?_)))))
 refine lq (qEq (v' := .int .i64 170) (wBm (R := S.own) rfl rfl rfl rfl rfl (by kernel_rfl) (SubL.sub) (wDc S hS n hwf (wDu M S.own) hVa w.1 v hv)) (by rw [hf]; rfl)) ?_
 refine jp rfl (wAc (jT (wAb (wAb (wAa (jp rfl (jt rfl (decide_eq_true (by omega)) ?_)))))))
 refine wAc (jT (wAf rfl (wAb (wAa (jp rfl (lq (qCl (wAt 170 M)) ?_))))))
 refine sSt rfl ?_
 refine wAc (jT (wAg (jTr (wFu (rs := [_]) (S.own) rfl (.cons (.agg rfl rfl rfl) .nil) ?_))))
 have hr : wGc S.abs w o = (S.abs, wCa 170) := by
  unfold wGc; rw [hw]; simp only; rw [hfr]; simp only; rw [hf]; rfl
 rw [hr]; exact OpP.plain (r := (S.abs, _)) hS rfl rfl rfl rfl
theorem link_ok (S : CS) (hS : S.Ok) (n : Nat) (hwf : WFS n S.abs) (hn : n ≤ 100) (M : Mem) (c : CL) (ca : Option Addr) (ck : Nat) (hC : CallOk M c ca ck) (w : Wy) (na : Option Addr) (nc : Nat) (hW : WyOk M w na nc) (o : Wy) (oa : Option Addr) (oc : Nat) (hO : WyOk M o oa oc) (id : Int) (hw : wCh S.abs w = .ok id) (d : Int) (hfr : wBo S.abs o w.1 none = .ok d) (v : CV) (x xd : CF) (hv : wAm w.1 S.vols = some v) (hx : wAm id v.files = some x) (hxd : wAm d v.files = some xd) (hf : wAr S.abs w.1 = false) :
  SpecL Tryz.prog 47 #[pt S.b, clV c ca ck, wyV w na nc, wyV o oa oc] M S.own fun u M' L' => OpP S.b (wGc S.abs w o) u M' L' := by
 refine SpecL.mem fun hnd hdis => ?_
 have hVa := wBf (M := M) hnd
 have hMa := wBk hdis
 have hVw : ∀ L, SubL S.own L → Vw M L S.own := fun L h => Vw.of
 obtain ⟨hone, ho1, hop, v2, xd2, hv2, hxd2, hdd, hno, hlen⟩ := wEq hwf hfr
 rw [ho1, hv] at hv2; cases hv2; rw [hxd] at hxd2; cases hxd2
 obtain ⟨v3, x3, hv3, hx3, hwv, hxnd⟩ := wEi hwf hw
 rw [hv] at hv3; cases hv3; rw [hx] at hx3; cases hx3
 have hxa : wAm id (wEf v.files) = some x.pf := by rw [wBs, hx]; rfl
 have hbnd := hwv.rng id x.pf hxa
 obtain ⟨nmb, nmo, e1, e2, e3⟩ := ((hS.v hv).x hxd).map hdd
 have hne : id ≠ d := fun e => by rw [e, hxd] at hx; cases hx; rw [hdd] at hxnd; cases hxnd
 refine wAe (vs := [_, _, _, _]) 59 _ Tryz.func47 rfl Tryz.ntmps47 rfl rfl ?_; intro W
 refine wAb (wAa (sBx [_, _, _, _, _, _, _] rfl fun b5 => ?_))
 refine sBx [_, _] rfl fun b6 => ?_
 refine sBx [_, _] rfl fun b7 => ?_
 refine sAl rfl fun b8 => ?_
 refine wAc (jT (wAb (wAa (jp rfl (sLL rfl ?_)))))
 refine lq (qEq (v' := .tuple #[.int .u32 id, pt x.b, .int .i64 0]) (wBm (R := S.own) rfl rfl rfl rfl rfl (by kernel_rfl) (SubL.sub) (wDs S hS n hwf (wDu M S.own) hVa w na nc (hW.mono hMa))) (by rw [hw]; exact wBj hv hx)) ?_
 iterate 7 refine jp rfl ?_
 refine wAc (jT (wAb (wAb (wAa (jp rfl (jf rfl (decide_eq_false (by omega)) ?_))))))
 refine wAc (jT (wAh rfl (wAd (jT (wAb (wAa (jp rfl (sLL rfl ?_))))))))
 refine sFL rfl rfl ?_
 refine lq (qEq (v' := .tuple #[.int .u32 d, pt xd.b, .int .i64 0]) (wBm (R := S.own) rfl rfl rfl rfl rfl (by kernel_rfl) (SubL.sub) (wEe S hS n hwf (wDu M S.own) hVa o oa oc (hO.mono hMa) w.1 none (.pointer none) hnd (fun _ => .inl ⟨rfl, rfl⟩))) (by rw [hfr, ho1]; exact wBj hv hxd)) ?_
 iterate 7 refine jp rfl ?_
 refine wAc (jT (wAb (wAb (wAa (jp rfl (jt rfl (decide_eq_true (by omega)) ?_))))))
 refine wAc (jT (wAf rfl (wAa (jp rfl (sFL rfl rfl ?_)))))
 refine lq (qEq (v' := .int .i64 0) (wBm (R := S.own) rfl rfl rfl rfl rfl (by kernel_rfl) (SubL.sub) (wDc S hS n hwf (wDu M S.own) hVa w.1 v hv)) (by rw [hf]; rfl)) ?_
 refine jp rfl (wAc (jT (wAb (wAb (wAa (jp rfl (jf rfl (decide_eq_false (by omega)) ?_)))))))
 refine wAc (jT (wAh rfl (wAd (jT (wAb (wBn (p := { A := fun i => !([7].contains i), U := fun i => !([7].contains i) }) [(0, true), (1, true), (2, true), (3, true), (4, true), (5, true), (6, true), (7, false)] _ (((b8, _) :: (b7, _) :: (b6, _) :: (b5, _) :: S.own)) ([]) (by kernel_rfl) (by kernel_rfl) (by kernel_rfl) (by kernel_rfl) rfl (fun _ h => h) (MLe.refl _) (by simp) ?_))))))
 refine dp rfl rfl ?_
 refine dq rfl (wAj rfl rfl rfl) ?_
 refine dFa rfl rfl ?_
 refine dq rfl (qEq (qLd rfl rfl rfl rfl ((Vw.x (Vw.file (Vw.vol Vw.of hv) hxd)).cj rfl)) e1) ?_
 refine dLL rfl rfl ?_
 refine dq rfl (qCl (wEx o oa oc M hO.sn hone hO.big)) ?_
 refine dp rfl rfl ?_
 refine wJu rfl rfl (hNmPut rfl (.inl rfl) rfl rfl rfl hv hxd ((hS.v hv).x hxd) hdd e1 e2 e3) ?_; rintro _ _ _ ⟨rfl, x2, hok2, hb2, hpf2, hnm2, rfl⟩
 refine ⟨MLe.refl _, by simp, ?_⟩
 have hv2 := wHj (id := d) (x' := x2) hv
 have hx2 : wAm id (v.setX d x2).files = some x := by rw [wJx hne]; exact hx
 refine wCu ?_
 refine jPn (jT (wAb (wAa (jp rfl (lq (wAj rfl rfl rfl) ?_)))))
 refine sFa rfl ?_
 refine lq (qLd rfl rfl rfl rfl ((Vw.x (Vw.file (Vw.vol Vw.of hv2) hx2)).cj rfl)) ?_
 refine ja rfl (by omega) ?_
 refine lq (wAj rfl rfl rfl) ?_
 refine sFa rfl ?_
 refine jl_s rfl (hStX { x with pf := { x.pf with links := x.pf.links + 1 } } rfl rfl rfl rfl rfl rfl (by omega) hv2 hx2 rfl rfl rfl rfl) ?_; rintro _ _ _ ⟨rfl, rfl⟩
 refine wAc (jT (wAb (wAa (lq (wBe (cs := [_, _, _, _, _, _, _, _]) rfl rfl rfl (by rfl)) ?_))))
 refine sSt rfl ?_
 refine wAc (jT (wAg (wFu (rs := [_]) (((S.setX w.1 d x2).setX w.1 id { x with pf := { x.pf with links := x.pf.links + 1 } }).own) rfl (.cons (.agg rfl rfl rfl) .nil) ?_)))
 have hr : wGc S.abs w o = (((S.setX w.1 d x2).setX w.1 id { x with pf := { x.pf with links := x.pf.links + 1 } }).abs, {}) := by
  unfold wGc; rw [hw]; simp only; rw [hfr]; simp only; rw [hf, wFc (f := fun x => { x with links := x.links + 1 }) hv2 hx2 rfl, wFc (f := fun x => { x with names := wBq (wAi o) id x.names }) hv hxd hpf2, wFr]; rfl
 rw [hr]; exact OpP.plain (r := (_, _)) ((hS.setX hv hxd hb2 hok2).setX (x' := { x with pf := { x.pf with links := x.pf.links + 1 } }) hv2 hx2 rfl ⟨((hS.v hv).x hx).byt, ((hS.v hv).x hx).nmo⟩) rfl rfl rfl rfl
theorem unlink_e1 (S : CS) (hS : S.Ok) (n : Nat) (hwf : WFS n S.abs) (hn : n ≤ 100) (M : Mem) (c : CL) (ca : Option Addr) (ck : Nat) (hC : CallOk M c ca ck) (w : Wy) (na : Option Addr) (nc : Nat) (hW : WyOk M w na nc) (o : Wy) (oa : Option Addr) (oc : Nat) (hO : WyOk M o oa oc) (e : Int) (hw : wCh S.abs w = .error e) :
  SpecL Tryz.prog 48 #[pt S.b, clV c ca ck, wyV w na nc, wyV o oa oc] M S.own fun u M' L' => OpP S.b (wDo S.abs w) u M' L' := by
 refine SpecL.mem fun hnd hdis => ?_
 have hVa := wBf (M := M) hnd
 have hMa := wBk hdis
 have hVw : ∀ L, SubL S.own L → Vw M L S.own := fun L h => Vw.of
 have he := wJv hwf hw
 refine wAe (vs := [_, _, _, _]) 69 _ Tryz.func48 rfl Tryz.ntmps48 rfl rfl ?_; intro W
 refine wAb (wAa (sBx [_, _, _, _, _, _, _] rfl fun b5 => ?_))
 refine sBx [_, _] rfl fun b6 => ?_
 refine sBx [_, _] rfl fun b7 => ?_
 refine sAl rfl fun b8 => ?_
 refine wAc (jT (wAb (wAa (jp rfl (sLL rfl ?_)))))
 refine lq (qEq (wBm (R := S.own) rfl rfl rfl rfl rfl (by kernel_rfl) (SubL.sub) (wDs S hS n hwf (wDu M S.own) hVa w na nc (hW.mono hMa))) (by rw [hw]; try rfl)) ?_
 iterate 7 refine jp rfl ?_
 refine wAc (jT (wAb (wAb (wAa (jp rfl (jf rfl (decide_eq_false (by omega)) ?_))))))
 refine wAc (jT (wAh rfl (wAd (jT (wAb (wAb (wAa (jp rfl (jt rfl (decide_eq_true (by omega)) ?_)))))))))
 refine wAc (jT (wAf rfl (wAb (wAa (jp rfl (lq (qCl (wAt e M)) ?_))))))
 refine sSt rfl ?_
 refine wAc (jT (wAg (jTr (wFu (rs := [_]) (S.own) rfl (.cons (.agg rfl rfl rfl) .nil) ?_))))
 have hr : wDo S.abs w = (S.abs, wCa e) := by
  unfold wDo; rw [hw]
 rw [hr]; exact OpP.plain (r := (S.abs, _)) hS rfl rfl rfl rfl
theorem unlink_frz (S : CS) (hS : S.Ok) (n : Nat) (hwf : WFS n S.abs) (hn : n ≤ 100) (M : Mem) (c : CL) (ca : Option Addr) (ck : Nat) (hC : CallOk M c ca ck) (w : Wy) (na : Option Addr) (nc : Nat) (hW : WyOk M w na nc) (o : Wy) (oa : Option Addr) (oc : Nat) (hO : WyOk M o oa oc) (id : Int) (hw : wCh S.abs w = .ok id) (v : CV) (x : CF) (hv : wAm w.1 S.vols = some v) (hx : wAm id v.files = some x) (hf : wAr S.abs w.1 = true) :
  SpecL Tryz.prog 48 #[pt S.b, clV c ca ck, wyV w na nc, wyV o oa oc] M S.own fun u M' L' => OpP S.b (wDo S.abs w) u M' L' := by
 refine SpecL.mem fun hnd hdis => ?_
 have hVa := wBf (M := M) hnd
 have hMa := wBk hdis
 have hVw : ∀ L, SubL S.own L → Vw M L S.own := fun L h => Vw.of
 refine wAe (vs := [_, _, _, _]) 69 _ Tryz.func48 rfl Tryz.ntmps48 rfl rfl ?_; intro W
 refine wAb (wAa (sBx [_, _, _, _, _, _, _] rfl fun b5 => ?_))
 refine sBx [_, _] rfl fun b6 => ?_
 refine sBx [_, _] rfl fun b7 => ?_
 refine sAl rfl fun b8 => ?_
 refine wAc (jT (wAb (wAa (jp rfl (sLL rfl ?_)))))
 refine lq (qEq (v' := .tuple #[.int .u32 id, pt x.b, .int .i64 0]) (wBm (R := S.own) rfl rfl rfl rfl rfl (by kernel_rfl) (SubL.sub) (wDs S hS n hwf (wDu M S.own) hVa w na nc (hW.mono hMa))) (by rw [hw]; exact wBj hv hx)) ?_
 iterate 7 refine jp rfl ?_
 refine wAc (jT (wAb (wAb (wAa (jp rfl (jt rfl (decide_eq_true (by omega)) ?_))))))
 refine wAc (jT (wAf rfl (wAa (jp rfl (sFL rfl rfl ?_)))))
 refine lq (qEq (v' := .int .i64 170) (wBm (R := S.own) rfl rfl rfl rfl rfl (by kernel_rfl) (SubL.sub) (wDc S hS n hwf (wDu M S.own) hVa w.1 v hv)) (by rw [hf]; rfl)) ?_
 refine jp rfl (wAc (jT (wAb (wAb (wAa (jp rfl (jt rfl (decide_eq_true (by omega)) ?_)))))))
 refine wAc (jT (wAf rfl (wAb (wAa (jp rfl (lq (qCl (wAt 170 M)) ?_))))))
 refine sSt rfl ?_
 refine wAc (jT (wAg (jTr (wFu (rs := [_]) (S.own) rfl (.cons (.agg rfl rfl rfl) .nil) ?_))))
 have hr : wDo S.abs w = (S.abs, wCa 170) := by
  unfold wDo; rw [hw]; simp only; rw [hf]; rfl
 rw [hr]; exact OpP.plain (r := (S.abs, _)) hS rfl rfl rfl rfl
theorem unlink_ok (S : CS) (hS : S.Ok) (n : Nat) (hwf : WFS n S.abs) (hn : n ≤ 100) (M : Mem) (c : CL) (ca : Option Addr) (ck : Nat) (hC : CallOk M c ca ck) (w : Wy) (na : Option Addr) (nc : Nat) (hW : WyOk M w na nc) (o : Wy) (oa : Option Addr) (oc : Nat) (hO : WyOk M o oa oc) (id : Int) (hw : wCh S.abs w = .ok id) (v : CV) (x : CF) (hv : wAm w.1 S.vols = some v) (hx : wAm id v.files = some x) (hf : wAr S.abs w.1 = false) :
  SpecL Tryz.prog 48 #[pt S.b, clV c ca ck, wyV w na nc, wyV o oa oc] M S.own fun u M' L' => OpP S.b (wDo S.abs w) u M' L' := by
 refine SpecL.mem fun hnd hdis => ?_
 have hVa := wBf (M := M) hnd
 have hMa := wBk hdis
 have hVw : ∀ L, SubL S.own L → Vw M L S.own := fun L h => Vw.of
 obtain ⟨hne, d, v2, xd, hpl, hv2, hxd, hdd, hgs⟩ := file_place hwf hw
 rw [hv] at hv2; cases hv2
 obtain ⟨v3, x3, hv3, hx3, hwv, hxnd⟩ := wEi hwf hw
 rw [hv] at hv3; cases hv3; rw [hx] at hx3; cases hx3
 have hxa : wAm id (wEf v.files) = some x.pf := by rw [wBs, hx]; rfl
 have hbnd := hwv.rng id x.pf hxa
 obtain ⟨nmb, nmo, e1, e2, e3⟩ := ((hS.v hv).x hxd).map hdd
 have hned : id ≠ d := fun e => by rw [e, hxd] at hx; cases hx; rw [hdd] at hxnd; cases hxnd
 have hla : ∀ x2 : CF, x2.pf = { xd.pf with names := wBc (wAi w) xd.pf.names } → wGt (wCg (wEf v.files) d (wAi w)) id = x.pf.links := fun _ _ => by unfold wGt wCg; rw [wFn, if_neg hned, hxa]
 refine wAe (vs := [_, _, _, _]) 69 _ Tryz.func48 rfl Tryz.ntmps48 rfl rfl ?_; intro W
 refine wAb (wAa (sBx [_, _, _, _, _, _, _] rfl fun b5 => ?_))
 refine sBx [_, _] rfl fun b6 => ?_
 refine sBx [_, _] rfl fun b7 => ?_
 refine sAl rfl fun b8 => ?_
 refine wAc (jT (wAb (wAa (jp rfl (sLL rfl ?_)))))
 refine lq (qEq (v' := .tuple #[.int .u32 id, pt x.b, .int .i64 0]) (wBm (R := S.own) rfl rfl rfl rfl rfl (by kernel_rfl) (SubL.sub) (wDs S hS n hwf (wDu M S.own) hVa w na nc (hW.mono hMa))) (by rw [hw]; exact wBj hv hx)) ?_
 iterate 7 refine jp rfl ?_
 refine wAc (jT (wAb (wAb (wAa (jp rfl (jt rfl (decide_eq_true (by omega)) ?_))))))
 refine wAc (jT (wAf rfl (wAa (jp rfl (sFL rfl rfl ?_)))))
 refine lq (qEq (v' := .int .i64 0) (wBm (R := S.own) rfl rfl rfl rfl rfl (by kernel_rfl) (SubL.sub) (wDc S hS n hwf (wDu M S.own) hVa w.1 v hv)) (by rw [hf]; rfl)) ?_
 refine jp rfl (wAc (jT (wAb (wAb (wAa (jp rfl (jf rfl (decide_eq_false (by omega)) ?_)))))))
 refine wAc (jT (wAh rfl (wAd (jT (wAb (wAa (jp rfl (sLL rfl ?_))))))))
 refine lq (qEq (v' := .tuple #[.int .u32 d, pt xd.b, .int .i64 0]) (wBm (R := S.own) rfl rfl rfl rfl rfl (by kernel_rfl) (SubL.sub) (wFg S hS n hwf (wDu M S.own) hVa w na nc (hW.mono hMa) hne)) (by rw [hpl]; exact wBj hv hxd)) ?_
 iterate 7 refine jp rfl ?_
 refine wAc (jT (wAb (wBn (p := { A := fun i => !([6].contains i), U := fun i => !([6].contains i) }) [(0, true), (1, true), (2, true), (3, true), (4, true), (5, true), (6, false)] _ (((b8, _) :: (b7, _) :: (b6, _) :: (b5, _) :: S.own)) ([]) (by kernel_rfl) (by kernel_rfl) (by kernel_rfl) (by kernel_rfl) rfl (fun _ h => h) (MLe.refl _) (by simp) ?_)))
 refine dp rfl rfl ?_
 refine dq rfl (wAj rfl rfl rfl) ?_
 refine dFa rfl rfl ?_
 refine dq rfl (qEq (qLd rfl rfl rfl rfl ((Vw.x (Vw.file (Vw.vol Vw.of hv) hxd)).cj rfl)) e1) ?_
 refine dLL rfl rfl ?_
 refine dq rfl (qCl (wEx w na nc M hW.sn hne hW.big)) ?_
 refine wJu rfl rfl (hNmDel rfl rfl rfl rfl hv hxd ((hS.v hv).x hxd) hdd e1 e2 e3) ?_; rintro _ _ _ ⟨rfl, x2, hok2, hb2, hpf2, hnm2, rfl⟩
 refine ⟨MLe.refl _, by simp, ?_⟩
 have hv2 := wHj (id := d) (x' := x2) hv
 have hx2 : wAm id (v.setX d x2).files = some x := by rw [wJx hned]; exact hx
 have hS2 := hS.setX hv hxd hb2 hok2
 refine wCu ?_
 refine jPn (jT (wAb (wAa (jp rfl (lq (wAj rfl rfl rfl) ?_)))))
 refine sFa rfl ?_
 refine lq (qLd rfl rfl rfl rfl ((Vw.x (Vw.file (Vw.vol Vw.of hv2) hx2)).cj rfl)) ?_
 refine ja rfl (by omega) ?_
 refine lq (wAj rfl rfl rfl) ?_
 refine sFa rfl ?_
 refine jl_s rfl (hStX { x with pf := { x.pf with links := x.pf.links - 1 } } rfl rfl rfl rfl rfl rfl (by omega) hv2 hx2 rfl rfl rfl rfl) ?_; rintro _ _ _ ⟨rfl, rfl⟩
 have hv3 := wHj (id := id) (x' := { x with pf := { x.pf with links := x.pf.links - 1 } }) hv2
 have hx3 := setX_get (v := v.setX d x2) (id := id) (x' := { x with pf := { x.pf with links := x.pf.links - 1 } })
 have hS3 := hS2.setX (x' := { x with pf := { x.pf with links := x.pf.links - 1 } }) hv2 hx2 rfl ⟨((hS.v hv).x hx).byt, ((hS.v hv).x hx).nmo⟩
 refine wAc (jT (wAb (wAb (wAa (jp rfl (lq (wAj rfl rfl rfl) ?_))))))
 refine sFa rfl ?_
 refine lq (qLd rfl rfl rfl rfl ((Vw.x (Vw.file (Vw.vol Vw.of hv3) hx3)).cj rfl)) ?_
 refine js rfl (fun h56 => ?_) (fun h56 => ?_)
 ·refine wAc (jT (wAf rfl (wBn (p := { A := fun i => !([11].contains i), U := fun i => !([11].contains i) }) [(0, true), (1, true), (2, true), (3, true), (4, true), (5, true), (6, true), (7, true), (8, true), (9, true), (10, true), (11, false)] _ ((((S.setX w.1 d x2).setX w.1 id { x with pf := { x.pf with links := x.pf.links - 1 } }).own ++ [(b8, _), (b7, _), (b6, _), (b5, _)])) ([]) (by kernel_rfl) (by kernel_rfl) (by kernel_rfl) (by kernel_rfl) rfl (fun _ h => h) (MLe.refl _) (by simp) ?_)))
  refine dp rfl rfl ?_
  refine dq rfl (wAj rfl rfl rfl) ?_
  refine dFa rfl rfl ?_
  refine dq rfl (qLd rfl rfl rfl rfl ((Vw.sAt (S := ((S.setX w.1 d x2).setX w.1 id { x with pf := { x.pf with links := x.pf.links - 1 } })) Vw.of (by rw [setX_b, setX_b]) (by rw [setX_mb, setX_mb])).cj rfl)) ?_
  refine dFa rfl rfl ?_
  refine dLd rfl rfl ?_
  refine dq rfl (qEq (v' := pt v.b) (wDk kI (z := .pointer none) rfl rfl rfl rfl (by kernel_rfl) (Vw.moAt (S := ((S.setX w.1 d x2).setX w.1 id { x with pf := { x.pf with links := x.pf.links - 1 } })) Vw.of (by rw [setX_mb, setX_mb])) hS3.mo) (by rw [wEv, hv3]; rfl)) ?_
  refine dq rfl (wAj rfl rfl rfl) ?_
  refine dFa rfl rfl ?_
  refine dq rfl (qLd rfl rfl rfl rfl ((Vw.v (Vw.vol Vw.of hv3)).cj rfl)) ?_
  refine dp rfl rfl ?_
  refine wJu rfl rfl (hFileDel (v := (v.setX d x2).setX id { x with pf := { x.pf with links := x.pf.links - 1 } }) rfl rfl rfl rfl hv3 (hS3.v hv3)) ?_; rintro _ _ _ ⟨rfl, mo4, hmo4, rfl⟩
  refine ⟨MLe.refl _, by simp, ?_⟩
  refine wCu ?_
  refine jPn (jT (wAb (wAa (lq (wBe (cs := [_, _, _, _, _, _, _, _]) rfl rfl rfl (by rfl)) ?_))))
  refine sSt rfl ?_
  refine wAc (jT (wAg (wFu (rs := [_]) ((((S.setX w.1 d x2).setX w.1 id { x with pf := { x.pf with links := x.pf.links - 1 } }).setV w.1 { ((v.setX d x2).setX id { x with pf := { x.pf with links := x.pf.links - 1 } }) with mo := mo4, files := wBc id ((v.setX d x2).setX id { x with pf := { x.pf with links := x.pf.links - 1 } }).files }).own) rfl (.cons (.agg rfl rfl rfl) .nil) ?_)))
  have hr : wDo S.abs w = ((((S.setX w.1 d x2).setX w.1 id { x with pf := { x.pf with links := x.pf.links - 1 } }).setV w.1 { ((v.setX d x2).setX id { x with pf := { x.pf with links := x.pf.links - 1 } }) with mo := mo4, files := wBc id ((v.setX d x2).setX id { x with pf := { x.pf with links := x.pf.links - 1 } }).files }).abs, {}) := by
   rw [abs_fileDel hv3, wFc (f := fun x => { x with links := x.links + -1 }) hv2 hx2 rfl, wFc (f := fun x => { x with names := wBc (wAi w) x.names }) hv hxd hpf2, wFr, wFr]
   unfold wDo; rw [hw]; simp only; rw [hf]; simp only [Bool.false_eq_true, if_false]; rw [hpl]; simp only; congr 1
   unfold updVF updV; rw [wBp, hv]; simp only [Option.map_some]; congr 3
   unfold wFy; rw [show wGt (wCg v.abs.files d (wAi w)) id = x.pf.links from hla x2 hpf2, if_pos h56]; rfl
  rw [hr]; exact OpP.plain (r := (_, _)) (hS3.fileDel hv3 hmo4) rfl rfl rfl rfl
 refine wAc (jT (wAh rfl (wAd (jT (wAb (wAa (lq (wBe (cs := [_, _, _, _, _, _, _, _]) rfl rfl rfl (by rfl)) ?_)))))))
 refine sSt rfl ?_
 refine wAc (jT (wAg (wFu (rs := [_]) (((S.setX w.1 d x2).setX w.1 id { x with pf := { x.pf with links := x.pf.links - 1 } }).own) rfl (.cons (.agg rfl rfl rfl) .nil) ?_)))
 have hr : wDo S.abs w = (((S.setX w.1 d x2).setX w.1 id { x with pf := { x.pf with links := x.pf.links - 1 } }).abs, {}) := by
  unfold wDo; rw [hw]; simp only; rw [hf]; simp only [Bool.false_eq_true, if_false]; rw [hpl]; simp only; rw [wFc (f := fun x => { x with links := x.links + -1 }) hv2 hx2 rfl, wFc (f := fun x => { x with names := wBc (wAi w) x.names }) hv hxd hpf2, wFr]; congr 1
  unfold updVF updV; rw [wBp, hv]; simp only [Option.map_some]; congr 3
  unfold wFy; rw [show wGt (wCg v.abs.files d (wAi w)) id = x.pf.links from hla x2 hpf2, if_neg h56]; rfl
 rw [hr]; exact OpP.plain (r := (_, _)) hS3 rfl rfl rfl rfl
end Go.Proofs.YtokljhkplbkggaaGreatDoor
