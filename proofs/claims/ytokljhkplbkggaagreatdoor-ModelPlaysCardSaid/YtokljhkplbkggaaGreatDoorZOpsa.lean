/- Plain facts for the calls on names. No statement of the seat is proved here. -/
import Derived.Test.YtokljhkplbkggaaGreatDoorZHo
namespace Go.Proofs.YtokljhkplbkggaaGreatDoor
set_option linter.unusedSimpArgs false
set_option linter.unusedVariables false
set_option linter.unusedSectionVars false
open Go.RowKit Go.MapKept
theorem reap_walk (S : CS) (hS : S.Ok) (n : Nat) (hwf : WFS n S.abs) (hn : n ≤ 100) (M : Mem) (c : CL) (ca : Option Addr) (ck : Nat) (hC : CallOk M c ca ck) (w : Wy) (na : Option Addr) (nc : Nat) (hW : WyOk M w na nc) (o : Wy) (oa : Option Addr) (oc : Nat) (hO : WyOk M o oa oc) :
  SpecL Tryz.prog 53 #[pt S.b, clV c ca ck, wyV w na nc, wyV o oa oc] M S.own fun u M' L' => OpP S.b (reapS S.abs c) u M' L' := by
 refine SpecL.mem fun hnd hdis => ?_
 have hVa := wBf (M := M) hnd
 have hMa := wBk hdis
 have hVw : ∀ L, SubL S.own L → Vw M L S.own := fun L h => Vw.of
 refine wAe (vs := [_, _, _, _]) 15 _ Tryz.func53 rfl Tryz.ntmps53 rfl rfl ?_; intro W
 refine wAb (wAa (sBx [_, _, _, _, _, _, _] rfl fun b5 => ?_))
 refine sBx [_, _] rfl fun b6 => ?_
 refine sBx [_, _] rfl fun b7 => ?_
 refine sAl rfl fun b8 => ?_
 refine wAc (jT (wAb (wAb (wAa (sFL rfl rfl ?_)))))
 refine wEk rfl rfl (qCl (wGd c.a 0 1000 M)) (fun h11 => ?_) (fun h11 => ?_)
 ·refine jp rfl (wAc (jT (wAh rfl (wAd (jT (wAb (wAa (lq (wBe (cs := [_, _, _, _, _, _, _, _]) rfl rfl rfl (by rfl)) ?_))))))))
  refine sSt rfl ?_
  refine wAc (jT (wAg (jrsd (rs := [_]) (S.own) (by repeat (first | exact List.Sublist.refl _ | exact List.sublist_append_left _ _ | apply List.Sublist.cons)) rfl (.cons (.agg rfl rfl rfl) .nil) ?_)))
  have hr : reapS S.abs c = (S.abs, {}) := by
   unfold reapS; rw [h11]; rfl
  rw [hr]; exact OpP.plain (r := (S.abs, _)) hS rfl rfl rfl rfl
 refine jp rfl (wAc (jT (wAf rfl (wAb (wAa (lq (qCl (wAt 2 M)) ?_))))))
 refine sSt rfl ?_
 refine wAc (jT (wAg (jTr (jrsd (rs := [_]) (S.own) (by repeat (first | exact List.Sublist.refl _ | exact List.sublist_append_left _ _ | apply List.Sublist.cons)) rfl (.cons (.agg rfl rfl rfl) .nil) ?_))))
 have hr : reapS S.abs c = (S.abs, wCa 2) := by
  unfold reapS; rw [h11]; rfl
 rw [hr]; exact OpP.plain (r := (S.abs, _)) hS rfl rfl rfl rfl
theorem freeze_none (S : CS) (hS : S.Ok) (n : Nat) (hwf : WFS n S.abs) (hn : n ≤ 100) (M : Mem) (c : CL) (ca : Option Addr) (ck : Nat) (hC : CallOk M c ca ck) (w : Wy) (na : Option Addr) (nc : Nat) (hW : WyOk M w na nc) (o : Wy) (oa : Option Addr) (oc : Nat) (hO : WyOk M o oa oc) (hv : wAm c.a S.vols = none) :
  SpecL Tryz.prog 39 #[pt S.b, clV c ca ck, wyV w na nc, wyV o oa oc] M S.own fun u M' L' => OpP S.b (wEa S.abs c) u M' L' := by
 refine SpecL.mem fun hnd hdis => ?_
 have hVa := wBf (M := M) hnd
 have hMa := wBk hdis
 have hVw : ∀ L, SubL S.own L → Vw M L S.own := fun L h => Vw.of
 refine wAe (vs := [_, _, _, _]) 32 _ Tryz.func39 rfl Tryz.ntmps39 rfl rfl ?_; intro W
 refine wAb (wAa (sBx [_, _, _, _, _, _, _] rfl fun b5 => ?_))
 refine sBx [_, _] rfl fun b6 => ?_
 refine sBx [_, _] rfl fun b7 => ?_
 refine sAl rfl fun b8 => ?_
 refine wAc (jT (wAb (wAb (wAa (sFL rfl rfl ?_)))))
 refine wEk rfl rfl (qCl (wGd c.b 0 1 M)) (fun h12 => ?_) (fun h12 => ?_)
 ·refine jp rfl (wAc (jT (wAh rfl (wAd (jT (wAb (wCw [(0, true), (1, true), (2, true), (3, true), (4, true), (5, true), (6, true), (7, true)] _ (fun _ h => h) ?_)))))))
  refine dp rfl rfl ?_
  refine dq rfl (wAj rfl rfl rfl) ?_
  refine dFa rfl rfl ?_
  refine dq rfl (qLd rfl rfl rfl rfl ((Vw.s Vw.of).cj rfl)) ?_
  refine dFa rfl rfl ?_
  refine dLd rfl rfl ?_
  refine dq rfl (qEq (v' := .pointer none) (wDk kI (z := .pointer none) rfl rfl rfl rfl (by kernel_rfl) (Vw.mo Vw.of) hS.mo) (by rw [wEv, hv]; try rfl)) ?_
  refine dp rfl rfl ?_
  refine wAs (jPn (jT (wAb (wAb (wAa (jp rfl (lq (qEq (wJo rfl rfl rfl rfl) (v' := .bool true) (by rfl)) ?_)))))))
  refine wAc (jT (wAf rfl (wAb (wAa (lq (qCl (wAt 6 M)) ?_)))))
  refine sSt rfl ?_
  refine wAc (jT (wAg (jTr (jrsd (rs := [_]) (S.own) (by repeat (first | exact List.Sublist.refl _ | exact List.sublist_append_left _ _ | apply List.Sublist.cons)) rfl (.cons (.agg rfl rfl rfl) .nil) ?_))))
  have hr : wEa S.abs c = (S.abs, wCa 6) := by
   unfold wEa; rw [h12, wBp, hv]; rfl
  rw [hr]; exact OpP.plain (r := (S.abs, _)) hS rfl rfl rfl rfl
 refine jp rfl (wAc (jT (wAf rfl (wAb (wAa (lq (qCl (wAt 2 M)) ?_))))))
 refine sSt rfl ?_
 refine wAc (jT (wAg (jTr (jrsd (rs := [_]) (S.own) (by repeat (first | exact List.Sublist.refl _ | exact List.sublist_append_left _ _ | apply List.Sublist.cons)) rfl (.cons (.agg rfl rfl rfl) .nil) ?_))))
 have hr : wEa S.abs c = (S.abs, wCa 2) := by
  unfold wEa; rw [h12]; rfl
 rw [hr]; exact OpP.plain (r := (S.abs, _)) hS rfl rfl rfl rfl
theorem freeze_some (S : CS) (hS : S.Ok) (n : Nat) (hwf : WFS n S.abs) (hn : n ≤ 100) (M : Mem) (c : CL) (ca : Option Addr) (ck : Nat) (hC : CallOk M c ca ck) (w : Wy) (na : Option Addr) (nc : Nat) (hW : WyOk M w na nc) (o : Wy) (oa : Option Addr) (oc : Nat) (hO : WyOk M o oa oc) (v : CV) (hv : wAm c.a S.vols = some v) :
  SpecL Tryz.prog 39 #[pt S.b, clV c ca ck, wyV w na nc, wyV o oa oc] M S.own fun u M' L' => OpP S.b (wEa S.abs c) u M' L' := by
 refine SpecL.mem fun hnd hdis => ?_
 have hVa := wBf (M := M) hnd
 have hMa := wBk hdis
 have hVw : ∀ L, SubL S.own L → Vw M L S.own := fun L h => Vw.of
 refine wAe (vs := [_, _, _, _]) 32 _ Tryz.func39 rfl Tryz.ntmps39 rfl rfl ?_; intro W
 refine wAb (wAa (sBx [_, _, _, _, _, _, _] rfl fun b5 => ?_))
 refine sBx [_, _] rfl fun b6 => ?_
 refine sBx [_, _] rfl fun b7 => ?_
 refine sAl rfl fun b8 => ?_
 refine wAc (jT (wAb (wAb (wAa (sFL rfl rfl ?_)))))
 refine wEk rfl rfl (qCl (wGd c.b 0 1 M)) (fun h12 => ?_) (fun h12 => ?_)
 ·refine jp rfl (wAc (jT (wAh rfl (wAd (jT (wAb (wCw [(0, true), (1, true), (2, true), (3, true), (4, true), (5, true), (6, true), (7, true)] _ (fun _ h => h) ?_)))))))
  refine dp rfl rfl ?_
  refine dq rfl (wAj rfl rfl rfl) ?_
  refine dFa rfl rfl ?_
  refine dq rfl (qLd rfl rfl rfl rfl ((Vw.s Vw.of).cj rfl)) ?_
  refine dFa rfl rfl ?_
  refine dLd rfl rfl ?_
  refine dq rfl (qEq (v' := pt v.b) (wDk kI (z := .pointer none) rfl rfl rfl rfl (by kernel_rfl) (Vw.mo Vw.of) hS.mo) (by rw [wEv, hv]; try rfl)) ?_
  refine dp rfl rfl ?_
  refine wAs (jPn (jT (wAb (wAb (wAa (jp rfl (lq (qEq (wJo rfl rfl rfl rfl) (v' := .bool false) (by rfl)) ?_)))))))
  refine wAc (jT (wAh rfl (wAd (jT (wAb (wAa (jp rfl (sFL rfl rfl ?_))))))))
  refine jp rfl (lq (wAj rfl rfl rfl) ?_)
  refine sFa rfl ?_
  refine jl_s rfl (hStV { v with frozen := decide (c.b = 1) } rfl rfl rfl rfl rfl rfl (by omega) hv rfl rfl rfl rfl rfl) ?_; rintro _ _ _ ⟨rfl, rfl⟩
  refine wAc (jT (wAb (wAa (lq (wBe (cs := [_, _, _, _, _, _, _, _]) rfl rfl rfl (by rfl)) ?_))))
  refine sSt rfl ?_
  refine wAc (jT (wAg (jrsd (rs := [_]) ((S.setV c.a { v with frozen := decide (c.b = 1) }).own) (by repeat (first | exact List.Sublist.refl _ | exact List.sublist_append_left _ _ | apply List.Sublist.cons)) rfl (.cons (.agg rfl rfl rfl) .nil) ?_)))
  have hr : wEa S.abs c = ((S.setV c.a { v with frozen := decide (c.b = 1) }).abs, {}) := by
   unfold wEa; rw [h12, wBp, hv, abs_setV]; rfl
  rw [hr]; exact OpP.plain (r := (_, _)) (hS.setV (v' := { v with frozen := decide (c.b = 1) }) hv rfl ⟨(hS.v hv).mo, (hS.v hv).fs⟩) rfl rfl rfl rfl
 refine jp rfl (wAc (jT (wAf rfl (wAb (wAa (lq (qCl (wAt 2 M)) ?_))))))
 refine sSt rfl ?_
 refine wAc (jT (wAg (jTr (jrsd (rs := [_]) (S.own) (by repeat (first | exact List.Sublist.refl _ | exact List.sublist_append_left _ _ | apply List.Sublist.cons)) rfl (.cons (.agg rfl rfl rfl) .nil) ?_))))
 have hr : wEa S.abs c = (S.abs, wCa 2) := by
  unfold wEa; rw [h12]; rfl
 rw [hr]; exact OpP.plain (r := (S.abs, _)) hS rfl rfl rfl rfl
theorem remove_none (S : CS) (hS : S.Ok) (n : Nat) (hwf : WFS n S.abs) (hn : n ≤ 100) (M : Mem) (c : CL) (ca : Option Addr) (ck : Nat) (hC : CallOk M c ca ck) (w : Wy) (na : Option Addr) (nc : Nat) (hW : WyOk M w na nc) (o : Wy) (oa : Option Addr) (oc : Nat) (hO : WyOk M o oa oc) (hv : wAm c.a S.vols = none) :
  SpecL Tryz.prog 40 #[pt S.b, clV c ca ck, wyV w na nc, wyV o oa oc] M S.own fun u M' L' => OpP S.b (wEu S.abs c) u M' L' := by
 refine SpecL.mem fun hnd hdis => ?_
 have hVa := wBf (M := M) hnd
 have hMa := wBk hdis
 have hVw : ∀ L, SubL S.own L → Vw M L S.own := fun L h => Vw.of
 refine wAe (vs := [_, _, _, _]) 25 _ Tryz.func40 rfl Tryz.ntmps40 rfl rfl ?_; intro W
 refine wAb (wAa (sBx [_, _, _, _, _, _, _] rfl fun b5 => ?_))
 refine sBx [_, _] rfl fun b6 => ?_
 refine sBx [_, _] rfl fun b7 => ?_
 refine sAl rfl fun b8 => ?_
 refine wAc (jT (wAb (wAb (wCw [(0, true), (1, true), (2, true), (3, true), (4, true), (5, true), (6, true), (7, true)] (_ :: _ :: _ :: _ :: S.own) (fun _ h => h) ?_))))
 refine dp rfl rfl ?_
 refine dq rfl (wAj rfl rfl rfl) ?_
 refine dFa rfl rfl ?_
 refine dq rfl (qLd rfl rfl rfl rfl ((Vw.s Vw.of).cj rfl)) ?_
 refine dFa rfl rfl ?_
 refine dLd rfl rfl ?_
 refine dq rfl (qEq (v' := .pointer none) (wDk kI (z := .pointer none) rfl rfl rfl rfl (by kernel_rfl) (Vw.mo Vw.of) hS.mo) (by rw [wEv, hv]; try rfl)) ?_
 refine dq rfl (qEq (wJo rfl rfl rfl rfl) (v' := .bool true) (by rfl)) ?_
 refine wAs (jPn (jT (wAf rfl (wAb (wAa (lq (qCl (wAt 6 M)) ?_))))))
 refine sSt rfl ?_
 refine wAc (jT (wAg (jTr (jrsd (rs := [_]) (S.own) (by repeat (first | exact List.Sublist.refl _ | exact List.sublist_append_left _ _ | apply List.Sublist.cons)) rfl (.cons (.agg rfl rfl rfl) .nil) ?_))))
 have hr : wEu S.abs c = (S.abs, wCa 6) := by
  unfold wEu; rw [wBp, hv]; rfl
 rw [hr]; exact OpP.plain (r := (S.abs, _)) hS rfl rfl rfl rfl
theorem remove_some (S : CS) (hS : S.Ok) (n : Nat) (hwf : WFS n S.abs) (hn : n ≤ 100) (M : Mem) (c : CL) (ca : Option Addr) (ck : Nat) (hC : CallOk M c ca ck) (w : Wy) (na : Option Addr) (nc : Nat) (hW : WyOk M w na nc) (o : Wy) (oa : Option Addr) (oc : Nat) (hO : WyOk M o oa oc) (v : CV) (hv : wAm c.a S.vols = some v) :
  SpecL Tryz.prog 40 #[pt S.b, clV c ca ck, wyV w na nc, wyV o oa oc] M S.own fun u M' L' => OpP S.b (wEu S.abs c) u M' L' := by
 refine SpecL.mem fun hnd hdis => ?_
 have hVa := wBf (M := M) hnd
 have hMa := wBk hdis
 have hVw : ∀ L, SubL S.own L → Vw M L S.own := fun L h => Vw.of
 refine wAe (vs := [_, _, _, _]) 25 _ Tryz.func40 rfl Tryz.ntmps40 rfl rfl ?_; intro W
 refine wAb (wAa (sBx [_, _, _, _, _, _, _] rfl fun b5 => ?_))
 refine sBx [_, _] rfl fun b6 => ?_
 refine sBx [_, _] rfl fun b7 => ?_
 refine sAl rfl fun b8 => ?_
 refine wAc (jT (wAb (wAb (wCw [(0, true), (1, true), (2, true), (3, true), (4, true), (5, true), (6, true), (7, true)] (_ :: _ :: _ :: _ :: S.own) (fun _ h => h) ?_))))
 refine dp rfl rfl ?_
 refine dq rfl (wAj rfl rfl rfl) ?_
 refine dFa rfl rfl ?_
 refine dq rfl (qLd rfl rfl rfl rfl ((Vw.s Vw.of).cj rfl)) ?_
 refine dFa rfl rfl ?_
 refine dLd rfl rfl ?_
 refine dq rfl (qEq (v' := pt v.b) (wDk kI (z := .pointer none) rfl rfl rfl rfl (by kernel_rfl) (Vw.mo Vw.of) hS.mo) (by rw [wEv, hv]; try rfl)) ?_
 refine dq rfl (qEq (wJo rfl rfl rfl rfl) (v' := .bool false) (by rfl)) ?_
 refine wAs (jPn (jT (wAh rfl (wAd (jT (wAb (wBn (p := { A := fun i => !([6].contains i), U := fun i => !([6].contains i) }) [(0, true), (1, true), (2, true), (3, true), (4, true), (5, true), (6, false)] _ (((b8, _) :: (b7, _) :: (b6, _) :: (b5, _) :: S.own)) ([]) (by kernel_rfl) (by kernel_rfl) (by kernel_rfl) (by kernel_rfl) rfl (fun _ h => h) (MLe.refl _) (by simp) ?_)))))))
 refine dp rfl rfl ?_
 refine dq rfl (wAj rfl rfl rfl) ?_
 refine dFa rfl rfl ?_
 refine dq rfl (qLd rfl rfl rfl rfl ((Vw.s Vw.of).cj rfl)) ?_
 refine dFa rfl rfl ?_
 refine dLd rfl rfl ?_
 refine wJu rfl rfl (hVolDel rfl rfl rfl rfl hS) ?_; rintro _ _ _ ⟨rfl, mo2, hmo2, rfl⟩
 refine ⟨MLe.refl _, by simp, ?_⟩
 refine wCu ?_
 refine jPn (jT (wAb (wAa (lq (wBe (cs := [_, _, _, _, _, _, _, _]) rfl rfl rfl (by rfl)) ?_))))
 refine sSt rfl ?_
 refine wAc (jT (wAg (jrsd (rs := [_]) (({ S with mo := mo2, vols := wBc c.a S.vols } : CS).own) (by repeat (first | exact List.Sublist.refl _ | exact List.sublist_append_left _ _ | apply List.Sublist.cons)) rfl (.cons (.agg rfl rfl rfl) .nil) ?_)))
 have hr : wEu S.abs c = (({ S with mo := mo2, vols := wBc c.a S.vols } : CS).abs, {}) := by
  unfold wEu; rw [wBp, hv]; unfold CS.abs; simp only [Option.map_some]; rw [delA_map (fun v : CV => v.abs)]
 rw [hr]; exact OpP.plain (r := (_, _)) ⟨hmo2, fun p hp => hS.vs p ((List.mem_filter.1 hp).1)⟩ rfl rfl rfl rfl
theorem stat_err (S : CS) (hS : S.Ok) (n : Nat) (hwf : WFS n S.abs) (hn : n ≤ 100) (M : Mem) (c : CL) (ca : Option Addr) (ck : Nat) (hC : CallOk M c ca ck) (w : Wy) (na : Option Addr) (nc : Nat) (hW : WyOk M w na nc) (o : Wy) (oa : Option Addr) (oc : Nat) (hO : WyOk M o oa oc) (e : Int) (hw : wBb S.abs w.1 w.2 = .error e) :
  SpecL Tryz.prog 52 #[pt S.b, clV c ca ck, wyV w na nc, wyV o oa oc] M S.own fun u M' L' => OpP S.b (statS S.abs w) u M' L' := by
 refine SpecL.mem fun hnd hdis => ?_
 have hVa := wBf (M := M) hnd
 have hMa := wBk hdis
 have hVw : ∀ L, SubL S.own L → Vw M L S.own := fun L h => Vw.of
 have he := wEw hwf hw
 refine wAe (vs := [_, _, _, _]) 42 _ Tryz.func52 rfl Tryz.ntmps52 rfl rfl ?_; intro W
 refine wAb (wAa (sBx [_, _, _, _, _, _, _] rfl fun b5 => ?_))
 refine sBx [_, _] rfl fun b6 => ?_
 refine sBx [_, _] rfl fun b7 => ?_
 refine sAl rfl fun b8 => ?_
 refine wAc (jT (wAb (wAa (jp rfl (sFL rfl rfl ?_)))))
 refine sFL rfl rfl ?_
 refine lq (qEq (wBm (R := S.own) rfl rfl rfl rfl rfl (by kernel_rfl) (SubL.sub) (wCi S hS n hwf w.1 w.2 na nc (wDu M S.own) hVa (hW.sn.mono hMa) hW.big)) (by rw [hw]; try rfl)) ?_
 iterate 7 refine jp rfl ?_
 refine wAc (jT (wAb (wAb (wAa (jp rfl (jt rfl (decide_eq_true (by omega)) ?_))))))
 refine wAc (jT (wAf rfl (wAb (wAa (jp rfl (lq (qCl (wAt e M)) ?_))))))
 refine sSt rfl ?_
 refine wAc (jT (wAg (jTr (jrsd (rs := [_]) (S.own) (by repeat (first | exact List.Sublist.refl _ | exact List.sublist_append_left _ _ | apply List.Sublist.cons)) rfl (.cons (.agg rfl rfl rfl) .nil) ?_))))
 have hr : statS S.abs w = (S.abs, wCa e) := by
  unfold statS; rw [hw]
 rw [hr]; exact OpP.plain (r := (S.abs, _)) hS rfl rfl rfl rfl
theorem stat_ok (S : CS) (hS : S.Ok) (n : Nat) (hwf : WFS n S.abs) (hn : n ≤ 100) (M : Mem) (c : CL) (ca : Option Addr) (ck : Nat) (hC : CallOk M c ca ck) (w : Wy) (na : Option Addr) (nc : Nat) (hW : WyOk M w na nc) (o : Wy) (oa : Option Addr) (oc : Nat) (hO : WyOk M o oa oc) (id : Int) (hw : wBb S.abs w.1 w.2 = .ok id) :
  SpecL Tryz.prog 52 #[pt S.b, clV c ca ck, wyV w na nc, wyV o oa oc] M S.own fun u M' L' => OpP S.b (statS S.abs w) u M' L' := by
 refine SpecL.mem fun hnd hdis => ?_
 have hVa := wBf (M := M) hnd
 have hMa := wBk hdis
 have hVw : ∀ L, SubL S.own L → Vw M L S.own := fun L h => Vw.of
 obtain ⟨v, x, hv, hx, hwv⟩ := wGo hwf hw
 have hxk := (hS.v hv).x hx
 refine wAe (vs := [_, _, _, _]) 42 _ Tryz.func52 rfl Tryz.ntmps52 rfl rfl ?_; intro W
 refine wAb (wAa (sBx [_, _, _, _, _, _, _] rfl fun b5 => ?_))
 refine sBx [_, _] rfl fun b6 => ?_
 refine sBx [_, _] rfl fun b7 => ?_
 refine sAl rfl fun b8 => ?_
 refine wAc (jT (wAb (wAa (jp rfl (sFL rfl rfl ?_)))))
 refine sFL rfl rfl ?_
 refine lq (qEq (v' := .tuple #[.int .u32 id, pt x.b, .int .i64 0]) (wBm (R := S.own) rfl rfl rfl rfl rfl (by kernel_rfl) (SubL.sub) (wCi S hS n hwf w.1 w.2 na nc (wDu M S.own) hVa (hW.sn.mono hMa) hW.big)) (by rw [hw]; exact wBj hv hx)) ?_
 iterate 7 refine jp rfl ?_
 refine wAc (jT (wAb (wAb (wAa (jp rfl (jf rfl (decide_eq_false (by omega)) ?_))))))
 refine wAc (jT (wAh rfl (wAd (jT (wAb (wBn (p := { A := fun i => !([16].contains i), U := fun i => !([16].contains i) }) [(0, true), (1, true), (2, true), (3, true), (4, true), (5, true), (6, true), (7, true), (8, true), (9, true), (10, true), (11, true), (12, true), (13, true), (14, true), (15, true), (16, false)] _ (((b8, _) :: (b7, _) :: (b6, _) :: (b5, _) :: S.own)) ([]) (by kernel_rfl) (by kernel_rfl) (by kernel_rfl) (by kernel_rfl) rfl (fun _ h => h) (MLe.refl _) (by simp) ?_))))))
 iterate 2 refine dp rfl rfl ?_
 refine dq rfl (wAj rfl rfl rfl) ?_
 refine dFa rfl rfl ?_
 refine dq rfl (qLd rfl rfl rfl rfl ((Vw.x (Vw.file (Vw.vol Vw.of hv) hx)).cj rfl)) ?_
 refine dp rfl rfl ?_
 refine dq rfl (wAj rfl rfl rfl) ?_
 refine dFa rfl rfl ?_
 refine dq rfl (qLd rfl rfl rfl rfl ((Vw.x (Vw.file (Vw.vol Vw.of hv) hx)).cj rfl)) ?_
 refine dp rfl rfl ?_
 refine dq rfl (wAj rfl rfl rfl) ?_
 refine dFa rfl rfl ?_
 obtain ⟨da, dc, hdv⟩ := hxk.byt.form
 refine dq rfl (qEq (qLd rfl rfl rfl rfl ((Vw.x (Vw.file (Vw.vol Vw.of hv) hx)).cj rfl)) hdv) ?_
 refine dq rfl (wCd rfl rfl rfl) ?_
 refine dq rfl (wBe (cs := [_, _, _, _]) rfl rfl rfl (by rfl)) ?_
 refine dq rfl (wBe (cs := [_, _, _, _, _, _, _, _]) rfl rfl rfl (by rfl)) ?_
 refine wJu rfl rfl (wBw rfl rfl rfl rfl rfl rfl rfl rfl) ?_; rintro _ _ _ ⟨rfl, rfl⟩
 refine ⟨MLe.refl _, by simp, ?_⟩
 refine wCu ?_
 refine jPn (jT (wAg (jrsd (rs := [_]) (S.own) (by repeat (first | exact List.Sublist.refl _ | exact List.sublist_append_left _ _ | apply List.Sublist.cons)) rfl (.cons (.agg rfl rfl rfl) .nil) ?_)))
 have hr : statS S.abs w = (S.abs, { sid := id, sdir := x.pf.dir, slinks := x.pf.links, ssize := x.pf.data.length }) := by
  unfold statS; rw [hw]; simp only; rw [wFv hv hx]
 rw [hr]; exact OpP.plain (r := (_, _)) hS rfl rfl rfl rfl
def LeftN (fs : Fls) (t : Int) (names : List (Str × Int)) (rem : List (Str × Value)) : Prop := (∀ q ∈ rem, ∃ k, q.2 = .int .u32 k ∧ wAm q.1 names = some k) ∧ ∀ s k, wAm s names = some k → (∃ u, (s, u) ∈ rem) ∨ ¬ ((∃ y, wAm k fs = some y ∧ y.dir = true) ∧ Ins fs t k)
theorem LeftN.start {fs : Fls} {t : Int} {names : List (Str × Int)} (hn : (wBg names).Nodup) : LeftN fs t names (names.map fun q => (q.1, .int .u32 q.2)) := by
 refine ⟨fun q hq => ?_, fun s k h => .inl ⟨_, List.mem_map.2 ⟨(s, k), wDy h, rfl⟩⟩⟩
 obtain ⟨p, hp, rfl⟩ := List.mem_map.1 hq
 exact ⟨p.2, rfl, wFf hn hp⟩
theorem LeftN.step {fs : Fls} {t : Int} {names : List (Str × Int)} {rem rem' : List (Str × Value)} {s : Str} {k : Int} (h : LeftN fs t names rem) (hp : rem.Perm ((s, .int .u32 k) :: rem')) (hk : wAm s names = some k) (hno : ¬ ((∃ y, wAm k fs = some y ∧ y.dir = true) ∧ Ins fs t k)) : LeftN fs t names rem' := by
 refine ⟨fun q hq => h.1 q (hp.mem_iff.2 (List.mem_cons_of_mem _ hq)), fun s2 k2 h2 => ?_⟩
 rcases h.2 s2 k2 h2 with ⟨u, hu⟩ | hu
 ·rcases List.mem_cons.1 (hp.mem_iff.1 hu) with e | hu
  ·have e1 : s2 = s := congrArg Prod.fst e
   rw [e1, hk] at h2; cases h2; exact .inr hno
  exact .inl ⟨u, hu⟩
 exact .inr hu
theorem LeftN.done {fs : Fls} {t d : Int} {x : PF} (h : LeftN fs t x.names []) (hx : wAm d fs = some x) (hd : ¬ t = d) : ¬ Ins fs t d := by
 intro hi
 cases hi with
 | here => exact hd rfl
 | down h1 h2 h3 h4 h5 =>
  rw [hx] at h1; cases h1
  rcases h.2 _ _ h2 with ⟨u, hu⟩ | hu
  ·cases hu
  exact hu ⟨⟨_, h3, h4⟩, h5⟩
set_option maxHeartbeats 2000000 in
theorem inside_step (v : CV) (hv : v.Ok) (hwb : WFB (wEf v.files)) (t d : Int) (x : CF) (hx : wAm d v.files = some x) (hd : x.pf.dir = true) (M : Mem) (hV : ∀ p ∈ v.own, M p.1 = some p.2) (ih : ∀ s k y, wAm s x.pf.names = some k → wAm k v.files = some y → y.pf.dir = true → SpecL Tryz.prog 92 #[pt v.b, .int .u32 t, .int .u32 k] M [] fun u _ _ => u = .bool (insD (wEf v.files) t k)) :
  SpecL Tryz.prog 92 #[pt v.b, .int .u32 t, .int .u32 d] M [] fun u _ _ => u = .bool (insD (wEf v.files) t d) := by
 obtain ⟨nmb, nmo, e1, e2, e3⟩ := (hv.x hx).map hd
 have hxa : wAm d (wEf v.files) = some x.pf := by rw [wBs, hx]; rfl
 have hnn := hwb.nmd _ _ hxa
 refine wAe (vs := [_, _, _]) 41 _ Tryz.func92 rfl Tryz.ntmps92 rfl rfl ?_; intro W
 refine wAb (wAa (jp rfl (wAc (jT (wAb (wAb (wAa (jp rfl (jp rfl (js rfl (fun h11 => ?_) (fun h11 => ?_)))))))))))
 ·refine wAc (jT (wAf rfl (wAb (wAa (jp rfl (wAc (jT (wAg (jTr (jr1 rfl rfl ?_))))))))))
  rw [wJb (by rw [show t = d by omega]; exact .here)]
 refine wAc (jT (wAh rfl (wAd (jT (wAb (wAb (wAa (jp rfl (lq (wAj rfl rfl rfl) ?_)))))))))
 refine sFa rfl ?_
 refine lq (qLd rfl rfl rfl rfl ((Vw.v (Vw.inM hV)).cj rfl)) ?_
 refine jp rfl ?_
 refine lq (qEq (v' := pt x.b) (wDk kU (z := .pointer none) rfl rfl rfl rfl (by kernel_rfl) (Vw.vmo (Vw.inM hV)) hv.mo) (by rw [ptF_get, hx]; try rfl)) ?_
 refine lq (wAj rfl rfl rfl) ?_
 refine sFa rfl ?_
 refine lq (qEq (qLd rfl rfl rfl rfl ((Vw.x (Vw.file (Vw.inM hV) hx)).cj rfl)) e1) ?_
 refine wCe rfl rfl (hRangeMap kS rfl rfl rfl (Vw.xn (Vw.file (Vw.inM hV) hx) (nmb, nmo) (by rw [e2]; simp)) e3) ?_; rintro _ _ _ ⟨r, it, rfl, rfl, rfl, hit⟩
 refine wAc (jT (wAk ?_))
 refine wBr (α := Obj × List (Str × Value)) (fun z => [(0, pt v.b), (1, .int .u32 t), (21, .pointer (some ⟨r, 0, none⟩))]) (fun _ => M) (fun z => [(r, z.1)]) (fun z => IterOf kS nmb nmo z.1 z.2 ∧ LeftN (wEf v.files) t x.pf.names z.2) (fun z => z.2.length)
  (it, x.pf.names.map fun q => (q.1, .int .u32 q.2)) (.cons (t := 0) rfl (.cons (t := 1) rfl (.cons (t := 21) rfl .nil))) ⟨hit, LeftN.start hnn⟩ (fun _ h => h) ?_
 rintro ⟨it2, rem⟩ ⟨hit2, hleft⟩
 dsimp only at hit2 hleft ⊢
 refine wAb (wAa ?_)
 refine wCe rfl rfl (hNextMap kS rfl rfl rfl (Vw.xn (Vw.file (Vw.inM hV) hx) (nmb, nmo) (by rw [e2]; simp)) hit2) ?_; rintro _ _ _ ⟨rfl, hy⟩
 rcases hy with ⟨hrem, rfl, rfl⟩ | ⟨s, u, rem2, it3, hpm, rfl, rfl, hit3, hcur⟩
 ·refine jp rfl (wAc (jT (wAb (wAh rfl (wBx (jTx (jTx (jBx (jT (wAb (wAa (jp rfl (wAc (jT (wAg (jr1 rfl rfl ?_))))))))))))))))
  subst hrem
  rw [insD_no (hleft.done hxa (by omega))]
 refine jp rfl (wAc (jT (wAb (wAf rfl (wAd (jT (wAk (wAb (wAa ?_)))))))))
 obtain ⟨k, hu, hk⟩ := hleft.1 (s, u) (hpm.mem_iff.2 (List.mem_cons_self ..))
 dsimp only at hu hk; subst hu
 obtain ⟨ya, hya⟩ := hwb.tgt _ _ _ _ hxa hk
 obtain ⟨y, hyx, hyd⟩ : ∃ y, wAm k v.files = some y ∧ y.pf = ya := by
  rw [wBs] at hya; cases h : wAm k v.files with
  | none => rw [h] at hya; cases hya
  | some x => rw [h] at hya; exact ⟨x, rfl, by simpa using hya⟩
 refine lq (qEntryO kS rfl rfl rfl OJ.of (Vw.xn (Vw.file (Vw.inM hV) hx) (nmb, nmo) (by rw [e2]; simp)) hcur) ?_
 refine jp rfl (jp rfl (wAc (jT (wAb (wAa (jp rfl (lq (wAj rfl rfl rfl) ?_)))))))
 refine sFa rfl ?_
 refine lq (qLd rfl rfl rfl rfl ((Vw.v (Vw.inM hV)).cj rfl)) ?_
 refine jp rfl ?_
 refine lq (qEq (v' := pt y.b) (wDk kU (z := .pointer none) rfl rfl rfl rfl (by kernel_rfl) (Vw.vmo (Vw.inM hV)) hv.mo) (by rw [ptF_get, hyx]; try rfl)) ?_
 refine lq (wAj rfl rfl rfl) ?_
 refine sFa rfl ?_
 refine wEk rfl rfl (qLd rfl rfl rfl rfl ((Vw.x (Vw.file (Vw.inM hV) hyx)).cj rfl)) (fun h34 => ?_) (fun h34 => ?_)
 ·refine jp rfl (jp rfl (jp rfl (jp rfl (wEk rfl rfl (qCl (ih s k y hk hyx h34)) (fun h39 => ?_) (fun h39 => ?_)))))
  ·refine jp rfl (wAc (jT (wAf rfl (wAb (wAa (jp rfl (wAc (jT (wAg (jBr (jTr (jBr (jTr (jr1 rfl rfl ?_))))))))))))))
   rw [wJb (.down hxa hk hya (by rw [← hyd]; exact h34) (Classical.byContradiction fun h => by rw [insD_no h] at h39; cases h39))]
  refine jp rfl (wAc (jT (wAh rfl (wAd (jB ?_)))))
  refine wBu (it3, rem2) (.cons (t := 0) rfl (.cons (t := 1) rfl (.cons (t := 21) rfl .nil))) ⟨hit3, hleft.step hpm hk ?_⟩ (by dsimp only; have := hpm.length_eq; simp at this; omega) (fun _ h => h)
  rintro ⟨_, h2⟩; rw [wJb h2] at h39; cases h39
 refine jp rfl (jp rfl (jp rfl (jp rfl (jp rfl (jp rfl (wAc (jT (wAh rfl (wAd (jB ?_))))))))))
 refine wBu (it3, rem2) (.cons (t := 0) rfl (.cons (t := 1) rfl (.cons (t := 21) rfl .nil))) ⟨hit3, hleft.step hpm hk ?_⟩ (by dsimp only; have := hpm.length_eq; simp at this; omega) (fun _ h => h)
 rintro ⟨⟨y2, h1, h2⟩, _⟩; rw [wBs, hyx] at h1; simp only [Option.map_some, Option.some.injEq] at h1; rw [← h1, h34] at h2; cases h2
theorem wKu (v : CV) (hv : v.Ok) (hwb : WFB (wEf v.files)) (t : Int) (M : Mem) (hV : ∀ p ∈ v.own, M p.1 = some p.2) (d : Int) (x : CF) (hx : wAm d v.files = some x) (hd : x.pf.dir = true) :
  SpecL Tryz.prog 92 #[pt v.b, .int .u32 t, .int .u32 d] M [] fun u _ _ => u = .bool (insD (wEf v.files) t d) := by
 obtain ⟨r, hr⟩ := hwb.rank
 have key : ∀ (m : Nat) (d : Int) (x : CF), r d < m → wAm d v.files = some x → x.pf.dir = true → SpecL Tryz.prog 92 #[pt v.b, .int .u32 t, .int .u32 d] M [] fun u _ _ => u = .bool (insD (wEf v.files) t d) := by
  intro m
  induction m with
  | zero => intro d x h; omega
  | succ m ih =>
   intro d x h hx hd
   refine inside_step v hv hwb t d x hx hd M hV fun s k y hs hy hyd => ih k y ?_ hy hyd
   have := hr d x.pf s k y.pf (by rw [wBs, hx]; rfl) hs (by rw [wBs, hy]; rfl) hyd
   omega
 exact key _ d x (Nat.lt_succ_self _) hx hd
theorem setV_get {S : CS} {vol : Int} {v' : CV} : wAm vol (S.setV vol v').vols = some v' := by unfold CS.setV; simp only; rw [wFb, if_pos rfl]
theorem wHj {S : CS} {vol id : Int} {v : CV} {x' : CF} (hv : wAm vol S.vols = some v) : wAm vol (S.setX vol id x').vols = some (v.setX id x') := by rw [setX_is hv]; exact setV_get
theorem setX_get {v : CV} {id : Int} {x' : CF} : wAm id (v.setX id x').files = some x' := by unfold CV.setX; simp only; rw [wFb, if_pos rfl]
theorem wJx {v : CV} {id k : Int} {x' : CF} (h : k ≠ id) : wAm k (v.setX id x').files = wAm k v.files := by unfold CV.setX; simp only; rw [wFb, if_neg h]
theorem setX_b {S : CS} {vol id : Int} {x' : CF} : (S.setX vol id x').b = S.b := by unfold CS.setX; split <;> rfl
theorem setX_mb {S : CS} {vol id : Int} {x' : CF} : (S.setX vol id x').mb = S.mb := by unfold CS.setX; split <;> rfl
theorem Vw.sAt {M : Mem} {L : Lc} {S : CS} {b mb : Nat} (h : Vw M L S.own) (hb : S.b = b) (hmb : S.mb = mb) : OJ M L b (.cells [.int .i64 S.next, .map (some mb)].toArray 49 (0, 0)) := by subst hb; subst hmb; exact h.s
theorem Vw.xAt {M : Mem} {L : Lc} {cf : CF} {b : Nat} (h : Vw M L cf.own) (hb : cf.b = b) : OJ M L b (fObj cf) := by subst hb; exact h.x
theorem Vw.moAt {M : Mem} {L : Lc} {S : CS} {mb : Nat} (h : Vw M L S.own) (hmb : S.mb = mb) : OJ M L mb S.mo := by subst hmb; exact h.mo
theorem putA_put {α : Type} {k : Int} {u v : α} : ∀ {l : List (Int × α)}, wBq k v (wBq k u l) = wBq k v l
 | [] => by simp [wBq]
 | p :: l => by
  rw [wBq]
  by_cases h : k = p.1
  ·rw [if_pos h, wBq, wBq, if_pos rfl, if_pos h]
  rw [if_neg h, wBq, wBq, if_neg h, if_neg h, putA_put]
theorem abs_fileDel {S : CS} {vol id : Int} {v : CV} {mo' : Obj} (hv : wAm vol S.vols = some v) : (S.setV vol { v with mo := mo', files := wBc id v.files }).abs = updVF S.abs vol (wBc id) :=
 abs_upd (v := v) (v' := { v with mo := mo', files := wBc id v.files }) hv rfl rfl (by unfold wEf; exact delA_map (fun x : CF => x.pf))
theorem CS.Ok.fileDel {S : CS} (h : S.Ok) {vol id : Int} {v : CV} {mo' : Obj} (hv : wAm vol S.vols = some v) (hmo : MapOf kU mo' (ptF (wBc id v.files))) : (S.setV vol { v with mo := mo', files := wBc id v.files }).Ok :=
 h.setV (v' := { v with mo := mo', files := wBc id v.files }) hv rfl ⟨hmo, fun p hp => (h.v hv).fs p (List.mem_filter.1 hp).1⟩
theorem wFr {S : PS} {vol : Int} {f g : Fls → Fls} : updVF (updVF S vol f) vol g = updVF S vol fun fs => g (f fs) := by
 unfold updVF updV
 cases h : wAm vol S.vols with
 | none => simp only; rw [h]
 | some v => simp only; rw [wFb, if_pos rfl]; simp only; rw [putA_put]
theorem freshS_err {n : Nat} {S : PS} (h : WFS n S) {w : Wy} {vol : Int} {old : Option Int} {e : Int} (hw : wBo S w vol old = .error e) : e ≠ 0 := by
 unfold wBo at hw
 split at hw
 ·cases hw; decide
 split at hw
 ·rename_i e' he; cases hw; have := placeS_err h he; omega
 split at hw
 ·split at hw
  ·cases hw; decide
  split at hw
  ·cases hw; decide
  cases hw
 cases hw; decide
theorem wEq {n : Nat} {S : CS} (h : WFS n S.abs) {w : Wy} {vol : Int} {old : Option Int} {d : Int} (hw : wBo S.abs w vol old = .ok d) : w.2 ≠ [] ∧ w.1 = vol ∧ wCj S.abs w = .ok d ∧ ∃ v x, wAm w.1 S.vols = some v ∧ wAm d v.files = some x ∧ x.pf.dir = true ∧ wAm (wAi w) x.pf.names = none ∧ (x.pf.names.length < 32 ∨ old = some d) := by
 unfold wBo at hw
 split at hw
 ·cases hw
 rename_i hne
 split at hw
 ·cases hw
 rename_i d' hd'
 obtain ⟨v, x, h1, h2, h3, h4⟩ := placeS_ok h hd'
 rw [wGs h1 h2] at hw
 split at hw
 ·rename_i hvol
  split at hw
  ·cases hw
  rename_i hno
  split at hw
  ·cases hw
  rename_i hlen
  cases hw
  refine ⟨hne, hvol, hd', v, x, h1, h2, h4, ?_, ?_⟩
  ·cases hg : wAm (wAi w) x.pf.names with
   | none => rfl
   | some k => rw [hg] at hno; simp at hno
  by_cases hl : 32 ≤ x.pf.names.length
  ·exact .inr (Classical.byContradiction fun h => hlen ⟨hl, h⟩)
  exact .inl (by omega)
 cases hw
theorem walkN_snoc {fs : Fls} {s : Str} : ∀ (l : List Str) (a : Int), wEt fs a (l ++ [s]) = match wEt fs a l with
  | .error e => .error e
  | .ok d => match wAm d fs with
   | none => .error 0
   | some x => if x.dir then (match wAm s x.names with
    | some k => .ok k
    | none => .error 6) else .error 240
 | [], a => by
  show wEt fs a [s] = _
  rw [wEt, wEt]
  simp only
  cases wAm a fs with
  | none => rfl
  | some x => rfl
 | t :: l, a => by
  rw [List.cons_append, wEt, wEt]
  cases wAm a fs with
  | none => rfl
  | some x =>
   simp only
   split
   ·cases wAm t x.names with
    | none => rfl
    | some k => exact walkN_snoc l k
   rfl
theorem split_last {l : List Str} (h : l ≠ []) : l = l.dropLast ++ [l.getLast?.getD .empty] := by
 rw [List.getLast?_eq_some_getLast h]; exact (List.dropLast_concat_getLast h).symm
theorem wHg {n : Nat} {S : CS} (h : WFS n S.abs) {w : Wy} {id : Int} (hne : w.2 ≠ []) (hw : wBb S.abs w.1 w.2 = .ok id) : ∃ d v xd, wCj S.abs w = .ok d ∧ wAm w.1 S.vols = some v ∧ wAm d v.files = some xd ∧ xd.pf.dir = true ∧ wAm (wAi w) xd.pf.names = some id := by
 have hsp := split_last hne
 cases hv : wAm w.1 S.vols with
 | none => unfold wBb at hw; rw [wBp, hv] at hw; cases hw
 | some v =>
  have hs : ∀ l, wBb S.abs w.1 l = wEt (wEf v.files) 1 l := fun l => by unfold wBb; rw [wBp, hv]; rfl
  rw [hs, hsp, walkN_snoc] at hw
  cases hd : wEt (wEf v.files) 1 w.2.dropLast with
  | error e => rw [hd] at hw; cases hw
  | ok d =>
   rw [hd] at hw
   simp only at hw
   cases hx : wAm d v.files with
   | none => rw [wBs, hx] at hw; cases hw
   | some xd =>
    rw [wBs, hx] at hw
    simp only [Option.map_some] at hw
    split at hw
    ·rename_i hdir
     cases hk : wAm (w.2.getLast?.getD .empty) xd.pf.names with
     | none => rw [hk] at hw; cases hw
     | some k =>
      rw [hk] at hw; cases hw
      refine ⟨d, v, xd, ?_, rfl, hx, hdir, hk⟩
      unfold wCj; rw [hs, hd]; simp only; rw [wCn hv hx, hdir]; rfl
    cases hw
theorem walk_root {n : Nat} {S : CS} (h : WFS n S.abs) {w : Wy} {id : Int} (he : w.2 = []) (hw : wBb S.abs w.1 w.2 = .ok id) : wGu S.abs w.1 id = true := by
 rw [he] at hw
 obtain ⟨v, x, hv, hx, hwv⟩ := wGo h hw
 unfold wBb at hw; rw [wBp, hv] at hw
 simp only [Option.map_some] at hw
 have h1 : id = 1 := by unfold wEt at hw; cases hw; rfl
 obtain ⟨r, hr, hd⟩ := hwv.wf.root
 have : wAm id (wEf v.files) = some r := by rw [h1]; exact hr
 rw [wBs, hx] at this
 simp only [Option.map_some, Option.some.injEq] at this
 rw [wCn hv hx, this]; exact hd
theorem fileS_walk {S : PS} {w : Wy} {id : Int} (h : wCh S w = .ok id) : wBb S w.1 w.2 = .ok id ∧ wGu S w.1 id = false := by
 unfold wCh at h
 split at h
 ·cases h
 rename_i k hk
 split at h
 ·cases h
 rename_i hd; cases h; exact ⟨hk, by simpa using hd⟩
theorem file_place {n : Nat} {S : CS} (h : WFS n S.abs) {w : Wy} {id : Int} (hw : wCh S.abs w = .ok id) : w.2 ≠ [] ∧ ∃ d v xd, wCj S.abs w = .ok d ∧ wAm w.1 S.vols = some v ∧ wAm d v.files = some xd ∧ xd.pf.dir = true ∧ wAm (wAi w) xd.pf.names = some id := by
 obtain ⟨h1, h2⟩ := fileS_walk hw
 have hne : w.2 ≠ [] := fun e => by have := walk_root h e h1; rw [h2] at this; cases this
 exact ⟨hne, wHg h hne h1⟩
end Go.Proofs.YtokljhkplbkggaaGreatDoor
