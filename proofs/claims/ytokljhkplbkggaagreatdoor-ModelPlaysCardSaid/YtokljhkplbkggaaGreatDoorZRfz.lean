/- Walks: the document's calls on names. -/
import Derived.Test.YtokljhkplbkggaaGreatDoorZRfy
namespace Go.Proofs.YtokljhkplbkggaaGreatDoor
set_option linter.unusedVariables false
set_option linter.unusedSectionVars false
set_option linter.unusedSimpArgs false
open Go.RowKit Go.MapKept
theorem wCb {n : Nat} {f : GS} (h : WFS n f.abs) {w : Wy} {id : Int} (hne : w.2 ≠ []) (hw : wBb f.abs w.1 w.2 = .ok id) : ∃ d v xd, wBb f.abs w.1 w.2.dropLast = .ok d ∧ wCj f.abs w = .ok d ∧ wAm w.1 f.abs.vols = some v ∧ wAm d v.files = some xd ∧ xd.dir = true ∧ wAm (wAi w) xd.names = some id := by
 have hsp := split_last hne
 cases hv : wAm w.1 f.abs.vols with
 | none => unfold wBb at hw; rw [hv] at hw; cases hw
 | some v =>
  have hs : ∀ l, wBb f.abs w.1 l = wEt v.files 1 l := fun l => by unfold wBb; rw [hv]
  rw [hs, hsp, walkN_snoc] at hw
  cases hd : wEt v.files 1 w.2.dropLast with
  | error e => rw [hd] at hw; cases hw
  | ok d =>
   rw [hd] at hw
   simp only at hw
   cases hx : wAm d v.files with
   | none => rw [hx] at hw; cases hw
   | some xd =>
    rw [hx] at hw
    simp only at hw
    split at hw
    ·rename_i hdir
     cases hk : wAm (w.2.getLast?.getD .empty) xd.names with
     | none => rw [hk] at hw; cases hw
     | some k =>
      rw [hk] at hw; cases hw
      refine ⟨d, v, xd, by rw [hs, hd], ?_, rfl, hx, hdir, hk⟩
      unfold wCj; rw [hs, hd]; simp only
      have : wGu f.abs w.1 d = true := by unfold wGu wEs; rw [hv]; simp only [Option.bind_some]; rw [hx]; exact hdir
      rw [this]; rfl
    cases hw
theorem reach_root {n : Nat} {f : GS} (h : WFS n f.abs) {w : Wy} {id : Int} (he : w.2 = []) (hw : wBb f.abs w.1 w.2 = .ok id) {v : PV} {x : PF} (hv : wAm w.1 f.abs.vols = some v) (hx : wAm id v.files = some x) : x.dir = true := by
 rw [he] at hw
 unfold wBb at hw; rw [hv] at hw
 have h1 : id = 1 := by unfold wEt at hw; cases hw; rfl
 obtain ⟨r, hr, hd⟩ := (h.vol _ _ hv).wf.root
 rw [h1, hr] at hx; cases hx; exact hd
theorem on_busy (f : GS) (n : Nat) (hwf : WFS n f.abs) (hn : n ≤ 100) (M : Mem) (hf : f.Ok M) (c : CL) (ca : Option Addr) (ck : Nat) (hC : CallOk M c ca ck) (h0 : 0 ≤ c.kind ∧ c.kind ≤ 255) (w : Wy) (na : Option Addr) (nc : Nat) (hW : WyOk M w na nc) (o : Wy) (oa : Option Addr) (oc : Nat) (hO : WyOk M o oa oc) (hk : c.kind = 14) (hne : w.2 = []) :
  SpecL Tryz.prog 29 #[gsV f, clV c ca ck, wyV w na nc, wyV o oa oc] M [] (RDoP (f.abs, wCa 260)) := by
 have hl0 : w.2.length = 0 := by rw [hne]; rfl
 refine wAe (vs := [_, _, _, _]) 279 _ Tryz.func29 rfl Tryz.ntmps29 rfl rfl ?_; intro W
 refine wAb (wAa (sBx [_, _] rfl fun b4 => ?_))
 refine sBx [_, _, _, _, _, _, _] rfl fun b5 => ?_
 refine sBx [_, _] rfl fun b6 => ?_
 refine sBx [_, _] rfl fun b7 => ?_
 refine sAl rfl fun b8 => ?_
 refine sAl rfl fun b9 => ?_
 refine wAc (jT (wAb (wAa (sFL rfl rfl ?_))))
 refine lq (wCd rfl rfl rfl) ?_
 refine jp rfl (wAc (jT (wAb (wAb (wAa (sFL rfl rfl ?_))))))
 refine jt rfl (decide_eq_true (by omega)) ?_
 refine jp rfl (jp rfl (jt rfl (decide_eq_true (by omega)) ?_))
 refine jp rfl (wAc (jT (wAf rfl (wAb (wCw [(0, true), (1, true), (2, false), (3, false)] [(b4, .cells (gsC f).toArray 53 (0, 0))] (by simp) ?_)))))
 refine dLL rfl rfl ?_
 refine dq rfl (qCl (wAu 260 M)) ?_
 refine dSt rfl rfl ?_
 refine dSt rfl rfl ?_
 refine wAs (jPn (jT (wAg (jTr (wEj (rs := [_, _]) rfl (.cons (.agg rfl rfl rfl) (.cons (.agg rfl rfl rfl) .nil)) ?_)))))
 exact RDoP.err hf rfl
theorem on_werr (f : GS) (n : Nat) (hwf : WFS n f.abs) (hn : n ≤ 100) (M : Mem) (hf : f.Ok M) (c : CL) (ca : Option Addr) (ck : Nat) (hC : CallOk M c ca ck) (h0 : 0 ≤ c.kind ∧ c.kind ≤ 255) (w : Wy) (na : Option Addr) (nc : Nat) (hW : WyOk M w na nc) (o : Wy) (oa : Option Addr) (oc : Nat) (hO : WyOk M o oa oc) (hk : c.kind = 14 → w.2 ≠ []) (e : Int) (hw : wBb f.abs w.1 w.2 = .error e) (he : e ≠ 0) :
  SpecL Tryz.prog 29 #[gsV f, clV c ca ck, wyV w na nc, wyV o oa oc] M [] (RDoP (f.abs, wCa e)) := by
 refine wAe (vs := [_, _, _, _]) 279 _ Tryz.func29 rfl Tryz.ntmps29 rfl rfl ?_; intro W
 refine wAb (wAa (sBx [_, _] rfl fun b4 => ?_))
 refine sBx [_, _, _, _, _, _, _] rfl fun b5 => ?_
 refine sBx [_, _] rfl fun b6 => ?_
 refine sBx [_, _] rfl fun b7 => ?_
 refine sAl rfl fun b8 => ?_
 refine sAl rfl fun b9 => ?_
 refine wAc (jT (wAb (wAa (sFL rfl rfl ?_))))
 refine lq (wCd rfl rfl rfl) ?_
 refine jp rfl (wAc (jT (wAb (wAb (wAa (sFL rfl rfl ?_))))))
 refine js rfl (fun h25 => ?_) (fun h25 => ?_)
 ·refine jp rfl (jp rfl ?_)
  refine jf rfl (decide_eq_false (by first | omega | (have hl0 := List.length_pos_iff.2 (hk (by omega)); omega))) ?_
  refine jp rfl (wAc (jT (wAh rfl (wAd (jT (wAb (wAa (sLL rfl ?_))))))))
  refine sFL rfl rfl ?_
  refine sFL rfl rfl ?_
  refine lq (qEq (v' := .tuple #[.int .i64 0, .int .i64 0, .int .i64 e]) (qCl (wAo f n hwf hn M hf w.1 w.2 na nc hW.sn hW.big)) (by rw [hw]; rfl)) ?_
  iterate 7 refine jp rfl ?_
  refine wAc (jT (wAb (wAb (wAa (jp rfl ?_)))))
  refine jt rfl (decide_eq_true (by first | omega | (have hl0 := List.length_pos_iff.2 (hk (by omega)); omega))) ?_
  refine wAc (jT (wAf rfl (wAb (wCw [(0, true), (1, true), (2, true), (3, false), (4, false)] [(b4, .cells (gsC f).toArray 53 (0, 0))] (by simp) ?_))))
  refine dLL rfl rfl ?_
  refine dp rfl rfl ?_
  refine dq rfl (qCl (wAu e M)) ?_
  refine dSt rfl rfl ?_
  refine dSt rfl rfl ?_
  refine wAs (jPn (jT (wAg (jTr (wEj (rs := [_, _]) rfl (.cons (.agg rfl rfl rfl) (.cons (.agg rfl rfl rfl) .nil)) ?_)))))
  exact RDoP.err hf rfl
 refine jp rfl (jp rfl (jp rfl (jp rfl (wAc (jT (wAh rfl (wAd (jT (wAb (wAa (sLL rfl ?_)))))))))))
 refine sFL rfl rfl ?_
 refine sFL rfl rfl ?_
 refine lq (qEq (v' := .tuple #[.int .i64 0, .int .i64 0, .int .i64 e]) (qCl (wAo f n hwf hn M hf w.1 w.2 na nc hW.sn hW.big)) (by rw [hw]; rfl)) ?_
 iterate 7 refine jp rfl ?_
 refine wAc (jT (wAb (wAb (wAa (jp rfl ?_)))))
 refine jt rfl (decide_eq_true (by first | omega | (have hl0 := List.length_pos_iff.2 (hk (by omega)); omega))) ?_
 refine wAc (jT (wAf rfl (wAb (wCw [(0, true), (1, true), (2, true), (3, false), (4, false)] [(b4, .cells (gsC f).toArray 53 (0, 0))] (by simp) ?_))))
 refine dLL rfl rfl ?_
 refine dp rfl rfl ?_
 refine dq rfl (qCl (wAu e M)) ?_
 refine dSt rfl rfl ?_
 refine dSt rfl rfl ?_
 refine wAs (jPn (jT (wAg (jTr (wEj (rs := [_, _]) rfl (.cons (.agg rfl rfl rfl) (.cons (.agg rfl rfl rfl) .nil)) ?_)))))
 exact RDoP.err hf rfl
set_option maxHeartbeats 4000000 in
theorem on_kind (f : GS) (n : Nat) (hwf : WFS n f.abs) (hn : n ≤ 100) (M : Mem) (hf : f.Ok M) (c : CL) (ca : Option Addr) (ck : Nat) (hC : CallOk M c ca ck) (h0 : 0 ≤ c.kind ∧ c.kind ≤ 255) (w : Wy) (na : Option Addr) (nc : Nat) (hW : WyOk M w na nc) (o : Wy) (oa : Option Addr) (oc : Nat) (hO : WyOk M o oa oc) (id : Int) (v : PV) (x : PF) (hw : wBb f.abs w.1 w.2 = .ok id) (hv : wAm w.1 f.abs.vols = some v) (hx : wAm id v.files = some x) (hne : w.2 ≠ []) (hk : c.kind = 12 ∨ c.kind = 13) (hdir : x.dir = true) :
  SpecL Tryz.prog 29 #[gsV f, clV c ca ck, wyV w na nc, wyV o oa oc] M [] (RDoP (f.abs, wCa 240)) := by
 have hl0 : 0 < w.2.length := List.length_pos_iff.2 hne
 have hbig := hW.big
 obtain ⟨pd, v9, xd, hwd, hplc, hv9, hxd, hxdd, hxdn⟩ := wCb hwf hne hw
 rw [hv] at hv9; cases hv9
 have hvl := wBh hwf
 obtain ⟨iv, hiv, gv, j, hj, g, vb, vo, fb, fo, rfl, rfl, rfl, eiv, hgv, hid, hwv, hfl, hgo, hnd, ev, hvx, efa, hg, hfx, hgi, hgk, hgx, hnn, hn32, hnsl, hfx2⟩ := opw hwf hf hv hx
 obtain ⟨jd, hjd, ejd, hjid, hjxd⟩ := GV.file hxd
 obtain ⟨gd, hgd⟩ : ∃ gd, gv.files[jd] = gd := ⟨_, rfl⟩
 rw [hgd] at hjid hjxd
 subst hjxd
 subst hjid
 have hfxd : wDf f.abs w.1 gd.id = (jd : Int) := by rw [wCp hv]; exact ejd
 refine wAe (vs := [_, _, _, _]) 279 _ Tryz.func29 rfl Tryz.ntmps29 rfl rfl ?_; intro W
 refine wAb (wAa (sBx [_, _] rfl fun b4 => ?_))
 refine sBx [_, _, _, _, _, _, _] rfl fun b5 => ?_
 refine sBx [_, _] rfl fun b6 => ?_
 refine sBx [_, _] rfl fun b7 => ?_
 refine sAl rfl fun b8 => ?_
 refine sAl rfl fun b9 => ?_
 refine wAc (jT (wAb (wAa (sFL rfl rfl ?_))))
 refine lq (wCd rfl rfl rfl) ?_
 refine jp rfl (wAc (jT (wAb (wAb (wAa (sFL rfl rfl ?_))))))
 refine jf rfl (decide_eq_false (by omega)) ?_
 refine jp rfl (jp rfl (jp rfl (jp rfl (wAc (jT (wAh rfl (wAd (jT (wAb (wAa (sLL rfl ?_)))))))))))
 refine sFL rfl rfl ?_
 refine sFL rfl rfl ?_
 refine lq (qEq (v' := .tuple #[.int .i64 (iv : Int), .int .i64 (j : Int), .int .i64 0]) (qCl (wAo f n hwf hn M hf w.1 w.2 na nc hW.sn hW.big)) (by rw [hw]; show Value.tuple #[.int .i64 (ixA w.1 (wAv f.vols)), .int .i64 (wDf f.abs w.1 g.id), _] = _; rw [eiv, hfx2])) ?_
 iterate 7 refine jp rfl ?_
 refine wAc (jT (wAb (wAb (wAa (jp rfl (jf rfl (decide_eq_false (by omega)) ?_))))))
 refine wAc (jT (wAh rfl (wAd (jT (wAb (wAa (sFL rfl rfl ?_)))))))
 refine jp rfl (lq (wAp rfl rfl rfl rfl ev (by omega)) ?_)
 refine sFa rfl ?_
 refine lq (qLd rfl rfl rfl rfl ((hvx 3 _ rfl).cj _)) ?_
 refine jp rfl (lq (wAp rfl rfl rfl rfl efa (by omega)) ?_)
 refine lq (wFt (cs := gfC g) rfl rfl rfl rfl rfl (fun j u hu => (hfx j u hu).cj _)) ?_
 refine sAl rfl fun b14 => ?_
 refine sSt rfl ?_
 refine wAc (jT (wAb (wAa (jp rfl (wAc (jT (wAb (wAb (wAa (jp rfl (jt rfl (decide_eq_true (by omega)) ?_)))))))))))
 refine wAc (jT (wAf rfl (wCw [(0, true), (1, true), (2, true), (3, true), (4, true), (5, true), (6, true), (7, true), (8, true), (9, true), (10, true), (11, true), (12, true), (13, true)] _ (fun _ h => h) ?_)))
 refine dLL rfl rfl ?_
 refine dFa rfl rfl ?_
 refine dLd rfl rfl ?_
 refine dFa rfl rfl ?_
 refine dLd rfl rfl ?_
 refine dp rfl rfl ?_
 refine da rfl rfl (by omega) ?_
 refine dq rfl (qEq (v' := .slice na w.2.dropLast.length nc) (qSl rfl rfl rfl (.no _) (.of rfl (by have := hW.big; omega) rfl) (.no _) (by have := hW.cap; omega) (by simp)) (by rw [wCo, List.length_dropLast, show ((w.2.length : Int) - 1).toNat = w.2.length - 1 by omega]; rfl)) ?_
 refine dq rfl (qEq (v' := .tuple #[.int .i64 (iv : Int), .int .i64 (jd : Int), .int .i64 0]) (qCl (wAo f n hwf hn M hf w.1 w.2.dropLast na nc hW.sn.init (by rw [List.length_dropLast]; have := hW.big; omega))) (by rw [hwd]; show Value.tuple #[.int .i64 (ixA w.1 (wAv f.vols)), .int .i64 (wDf f.abs w.1 gd.id), _] = _; rw [eiv, hfxd])) ?_
 iterate 5 refine dp rfl rfl ?_
 refine wAs (jPn (jT (wAb (wAa (jp rfl (wAc (jT (wAb (wAb (wAa (sFL rfl rfl ?_)))))))))))
 refine wAc (jT (wAk (wAb (wAb (wAa (js rfl (fun h74 => ?_) (fun h74 => ?_)))))))
 ·refine jp rfl (wAc (jT (wAf rfl (wAd (jT (wAf rfl (wAb (wAa (sFa rfl ?_)))))))))
  refine lq (qEq (qLd rfl rfl rfl rfl (CJ.loc rfl)) (v' := .bool true) (by rw [hdir])) ?_
  refine wAc (jT (wAf rfl (wAb (wCw [(0, true), (1, true), (2, false), (3, false)] [(b4, .cells (gsC f).toArray 53 (0, 0))] (by simp) ?_))))
  refine dLL rfl rfl ?_
  refine dq rfl (qCl (wAu 240 M)) ?_
  refine dSt rfl rfl ?_
  refine dSt rfl rfl ?_
  refine wAs (jPn (jT (wAg (jBr (jTr (wEj (rs := [_, _]) rfl (.cons (.agg rfl rfl rfl) (.cons (.agg rfl rfl rfl) .nil)) ?_))))))
  exact RDoP.err hf rfl
 refine jp rfl (wAc (jT (wAh rfl (wAa (jt rfl (decide_eq_true (by omega)) ?_)))))
 refine jp rfl (wAc (jT (wAf rfl (wAb (wAa (sFa rfl ?_))))))
 refine lq (qEq (qLd rfl rfl rfl rfl (CJ.loc rfl)) (v' := .bool true) (by rw [hdir])) ?_
 refine wAc (jT (wAf rfl (wAb (wCw [(0, true), (1, true), (2, false), (3, false)] [(b4, .cells (gsC f).toArray 53 (0, 0))] (by simp) ?_))))
 refine dLL rfl rfl ?_
 refine dq rfl (qCl (wAu 240 M)) ?_
 refine dSt rfl rfl ?_
 refine dSt rfl rfl ?_
 refine wAs (jPn (jT (wAg (jBr (jTr (wEj (rs := [_, _]) rfl (.cons (.agg rfl rfl rfl) (.cons (.agg rfl rfl rfl) .nil)) ?_))))))
 exact RDoP.err hf rfl
set_option maxHeartbeats 4000000 in
theorem on_kindr (f : GS) (n : Nat) (hwf : WFS n f.abs) (hn : n ≤ 100) (M : Mem) (hf : f.Ok M) (c : CL) (ca : Option Addr) (ck : Nat) (hC : CallOk M c ca ck) (h0 : 0 ≤ c.kind ∧ c.kind ≤ 255) (w : Wy) (na : Option Addr) (nc : Nat) (hW : WyOk M w na nc) (o : Wy) (oa : Option Addr) (oc : Nat) (hO : WyOk M o oa oc) (id : Int) (v : PV) (x : PF) (hw : wBb f.abs w.1 w.2 = .ok id) (hv : wAm w.1 f.abs.vols = some v) (hx : wAm id v.files = some x) (hne : w.2 = []) (hk : c.kind = 12 ∨ c.kind = 13) (hdir : x.dir = true) :
  SpecL Tryz.prog 29 #[gsV f, clV c ca ck, wyV w na nc, wyV o oa oc] M [] (RDoP (f.abs, wCa 240)) := by
 have hl0 : w.2.length = 0 := by rw [hne]; rfl
 have hvl := wBh hwf
 obtain ⟨iv, hiv, gv, j, hj, g, vb, vo, fb, fo, rfl, rfl, rfl, eiv, hgv, hid, hwv, hfl, hgo, hnd, ev, hvx, efa, hg, hfx, hgi, hgk, hgx, hnn, hn32, hnsl, hfx2⟩ := opw hwf hf hv hx
 refine wAe (vs := [_, _, _, _]) 279 _ Tryz.func29 rfl Tryz.ntmps29 rfl rfl ?_; intro W
 refine wAb (wAa (sBx [_, _] rfl fun b4 => ?_))
 refine sBx [_, _, _, _, _, _, _] rfl fun b5 => ?_
 refine sBx [_, _] rfl fun b6 => ?_
 refine sBx [_, _] rfl fun b7 => ?_
 refine sAl rfl fun b8 => ?_
 refine sAl rfl fun b9 => ?_
 refine wAc (jT (wAb (wAa (sFL rfl rfl ?_))))
 refine lq (wCd rfl rfl rfl) ?_
 refine jp rfl (wAc (jT (wAb (wAb (wAa (sFL rfl rfl ?_))))))
 refine jf rfl (decide_eq_false (by omega)) ?_
 refine jp rfl (jp rfl (jp rfl (jp rfl (wAc (jT (wAh rfl (wAd (jT (wAb (wAa (sLL rfl ?_)))))))))))
 refine sFL rfl rfl ?_
 refine sFL rfl rfl ?_
 refine lq (qEq (v' := .tuple #[.int .i64 (iv : Int), .int .i64 (j : Int), .int .i64 0]) (qCl (wAo f n hwf hn M hf w.1 w.2 na nc hW.sn hW.big)) (by rw [hw]; show Value.tuple #[.int .i64 (ixA w.1 (wAv f.vols)), .int .i64 (wDf f.abs w.1 g.id), _] = _; rw [eiv, hfx2])) ?_
 iterate 7 refine jp rfl ?_
 refine wAc (jT (wAb (wAb (wAa (jp rfl (jf rfl (decide_eq_false (by omega)) ?_))))))
 refine wAc (jT (wAh rfl (wAd (jT (wAb (wAa (sFL rfl rfl ?_)))))))
 refine jp rfl (lq (wAp rfl rfl rfl rfl ev (by omega)) ?_)
 refine sFa rfl ?_
 refine lq (qLd rfl rfl rfl rfl ((hvx 3 _ rfl).cj _)) ?_
 refine jp rfl (lq (wAp rfl rfl rfl rfl efa (by omega)) ?_)
 refine lq (wFt (cs := gfC g) rfl rfl rfl rfl rfl (fun j u hu => (hfx j u hu).cj _)) ?_
 refine sAl rfl fun b14 => ?_
 refine sSt rfl ?_
 refine wAc (jT (wAb (wAa (jp rfl (wAc (jT (wAb (wAb (wAa (jp rfl (jf rfl (decide_eq_false (by omega)) ?_)))))))))))
 refine wAc (jT (wAh rfl (wAd (jT (wAb (wAa (jp rfl (wAc (jT (wAb (wAb (wAa (sFL rfl rfl ?_)))))))))))))
 refine wAc (jT (wAk (wAb (wAb (wAa (js rfl (fun h74 => ?_) (fun h74 => ?_)))))))
 ·refine jp rfl (wAc (jT (wAf rfl (wAd (jT (wAf rfl (wAb (wAa (sFa rfl ?_)))))))))
  refine lq (qEq (qLd rfl rfl rfl rfl (CJ.loc rfl)) (v' := .bool true) (by rw [hdir])) ?_
  refine wAc (jT (wAf rfl (wAb (wCw [(0, true), (1, true), (2, false), (3, false)] [(b4, .cells (gsC f).toArray 53 (0, 0))] (by simp) ?_))))
  refine dLL rfl rfl ?_
  refine dq rfl (qCl (wAu 240 M)) ?_
  refine dSt rfl rfl ?_
  refine dSt rfl rfl ?_
  refine wAs (jPn (jT (wAg (jBr (jTr (wEj (rs := [_, _]) rfl (.cons (.agg rfl rfl rfl) (.cons (.agg rfl rfl rfl) .nil)) ?_))))))
  exact RDoP.err hf rfl
 refine jp rfl (wAc (jT (wAh rfl (wAa (jt rfl (decide_eq_true (by omega)) ?_)))))
 refine jp rfl (wAc (jT (wAf rfl (wAb (wAa (sFa rfl ?_))))))
 refine lq (qEq (qLd rfl rfl rfl rfl (CJ.loc rfl)) (v' := .bool true) (by rw [hdir])) ?_
 refine wAc (jT (wAf rfl (wAb (wCw [(0, true), (1, true), (2, false), (3, false)] [(b4, .cells (gsC f).toArray 53 (0, 0))] (by simp) ?_))))
 refine dLL rfl rfl ?_
 refine dq rfl (qCl (wAu 240 M)) ?_
 refine dSt rfl rfl ?_
 refine dSt rfl rfl ?_
 refine wAs (jPn (jT (wAg (jBr (jTr (wEj (rs := [_, _]) rfl (.cons (.agg rfl rfl rfl) (.cons (.agg rfl rfl rfl) .nil)) ?_))))))
 exact RDoP.err hf rfl
set_option maxHeartbeats 4000000 in
theorem on_kind15 (f : GS) (n : Nat) (hwf : WFS n f.abs) (hn : n ≤ 100) (M : Mem) (hf : f.Ok M) (c : CL) (ca : Option Addr) (ck : Nat) (hC : CallOk M c ca ck) (h0 : 0 ≤ c.kind ∧ c.kind ≤ 255) (w : Wy) (na : Option Addr) (nc : Nat) (hW : WyOk M w na nc) (o : Wy) (oa : Option Addr) (oc : Nat) (hO : WyOk M o oa oc) (id : Int) (v : PV) (x : PF) (hw : wBb f.abs w.1 w.2 = .ok id) (hv : wAm w.1 f.abs.vols = some v) (hx : wAm id v.files = some x) (hne : w.2 ≠ []) (hk : c.kind = 15) (hdir : x.dir = false) :
  SpecL Tryz.prog 29 #[gsV f, clV c ca ck, wyV w na nc, wyV o oa oc] M [] (RDoP (f.abs, wCa 240)) := by
 have hl0 : 0 < w.2.length := List.length_pos_iff.2 hne
 have hbig := hW.big
 obtain ⟨pd, v9, xd, hwd, hplc, hv9, hxd, hxdd, hxdn⟩ := wCb hwf hne hw
 rw [hv] at hv9; cases hv9
 have hvl := wBh hwf
 obtain ⟨iv, hiv, gv, j, hj, g, vb, vo, fb, fo, rfl, rfl, rfl, eiv, hgv, hid, hwv, hfl, hgo, hnd, ev, hvx, efa, hg, hfx, hgi, hgk, hgx, hnn, hn32, hnsl, hfx2⟩ := opw hwf hf hv hx
 obtain ⟨jd, hjd, ejd, hjid, hjxd⟩ := GV.file hxd
 obtain ⟨gd, hgd⟩ : ∃ gd, gv.files[jd] = gd := ⟨_, rfl⟩
 rw [hgd] at hjid hjxd
 subst hjxd
 subst hjid
 have hfxd : wDf f.abs w.1 gd.id = (jd : Int) := by rw [wCp hv]; exact ejd
 refine wAe (vs := [_, _, _, _]) 279 _ Tryz.func29 rfl Tryz.ntmps29 rfl rfl ?_; intro W
 refine wAb (wAa (sBx [_, _] rfl fun b4 => ?_))
 refine sBx [_, _, _, _, _, _, _] rfl fun b5 => ?_
 refine sBx [_, _] rfl fun b6 => ?_
 refine sBx [_, _] rfl fun b7 => ?_
 refine sAl rfl fun b8 => ?_
 refine sAl rfl fun b9 => ?_
 refine wAc (jT (wAb (wAa (sFL rfl rfl ?_))))
 refine lq (wCd rfl rfl rfl) ?_
 refine jp rfl (wAc (jT (wAb (wAb (wAa (sFL rfl rfl ?_))))))
 refine jf rfl (decide_eq_false (by omega)) ?_
 refine jp rfl (jp rfl (jp rfl (jp rfl (wAc (jT (wAh rfl (wAd (jT (wAb (wAa (sLL rfl ?_)))))))))))
 refine sFL rfl rfl ?_
 refine sFL rfl rfl ?_
 refine lq (qEq (v' := .tuple #[.int .i64 (iv : Int), .int .i64 (j : Int), .int .i64 0]) (qCl (wAo f n hwf hn M hf w.1 w.2 na nc hW.sn hW.big)) (by rw [hw]; show Value.tuple #[.int .i64 (ixA w.1 (wAv f.vols)), .int .i64 (wDf f.abs w.1 g.id), _] = _; rw [eiv, hfx2])) ?_
 iterate 7 refine jp rfl ?_
 refine wAc (jT (wAb (wAb (wAa (jp rfl (jf rfl (decide_eq_false (by omega)) ?_))))))
 refine wAc (jT (wAh rfl (wAd (jT (wAb (wAa (sFL rfl rfl ?_)))))))
 refine jp rfl (lq (wAp rfl rfl rfl rfl ev (by omega)) ?_)
 refine sFa rfl ?_
 refine lq (qLd rfl rfl rfl rfl ((hvx 3 _ rfl).cj _)) ?_
 refine jp rfl (lq (wAp rfl rfl rfl rfl efa (by omega)) ?_)
 refine lq (wFt (cs := gfC g) rfl rfl rfl rfl rfl (fun j u hu => (hfx j u hu).cj _)) ?_
 refine sAl rfl fun b14 => ?_
 refine sSt rfl ?_
 refine wAc (jT (wAb (wAa (jp rfl (wAc (jT (wAb (wAb (wAa (jp rfl (jt rfl (decide_eq_true (by omega)) ?_)))))))))))
 refine wAc (jT (wAf rfl (wCw [(0, true), (1, true), (2, true), (3, true), (4, true), (5, true), (6, true), (7, true), (8, true), (9, true), (10, true), (11, true), (12, true), (13, true)] _ (fun _ h => h) ?_)))
 refine dLL rfl rfl ?_
 refine dFa rfl rfl ?_
 refine dLd rfl rfl ?_
 refine dFa rfl rfl ?_
 refine dLd rfl rfl ?_
 refine dp rfl rfl ?_
 refine da rfl rfl (by omega) ?_
 refine dq rfl (qEq (v' := .slice na w.2.dropLast.length nc) (qSl rfl rfl rfl (.no _) (.of rfl (by have := hW.big; omega) rfl) (.no _) (by have := hW.cap; omega) (by simp)) (by rw [wCo, List.length_dropLast, show ((w.2.length : Int) - 1).toNat = w.2.length - 1 by omega]; rfl)) ?_
 refine dq rfl (qEq (v' := .tuple #[.int .i64 (iv : Int), .int .i64 (jd : Int), .int .i64 0]) (qCl (wAo f n hwf hn M hf w.1 w.2.dropLast na nc hW.sn.init (by rw [List.length_dropLast]; have := hW.big; omega))) (by rw [hwd]; show Value.tuple #[.int .i64 (ixA w.1 (wAv f.vols)), .int .i64 (wDf f.abs w.1 gd.id), _] = _; rw [eiv, hfxd])) ?_
 iterate 5 refine dp rfl rfl ?_
 refine wAs (jPn (jT (wAb (wAa (jp rfl (wAc (jT (wAb (wAb (wAa (sFL rfl rfl ?_)))))))))))
 refine wAc (jT (wAk (wAb (wAb (wAa (jf rfl (decide_eq_false (by omega)) ?_))))))
 refine jp rfl (wAc (jT (wAh rfl (wAa (jf rfl (decide_eq_false (by omega)) ?_)))))
 refine jp rfl (wAc (jT (wAh rfl (wAb (wAa (jt rfl (decide_eq_true (by omega)) ?_))))))
 refine jp rfl (wAc (jT (wAf rfl (wAb (wAb (wAa (sFa rfl ?_)))))))
 refine lq (qEq (qLd rfl rfl rfl rfl (CJ.loc rfl)) (v' := .bool false) (by rw [hdir])) ?_
 refine jp rfl (wAc (jT (wAf rfl (wAb (wCw [(0, true), (1, true), (2, false), (3, false)] [(b4, .cells (gsC f).toArray 53 (0, 0))] (by simp) ?_)))))
 refine dLL rfl rfl ?_
 refine dq rfl (qCl (wAu 240 M)) ?_
 refine dSt rfl rfl ?_
 refine dSt rfl rfl ?_
 refine wAs (jPn (jT (wAg (jTr (jBr (jTr (wEj (rs := [_, _]) rfl (.cons (.agg rfl rfl rfl) (.cons (.agg rfl rfl rfl) .nil)) ?_)))))))
 exact RDoP.err hf rfl
set_option maxHeartbeats 4000000 in
theorem on_busyr (f : GS) (n : Nat) (hwf : WFS n f.abs) (hn : n ≤ 100) (M : Mem) (hf : f.Ok M) (c : CL) (ca : Option Addr) (ck : Nat) (hC : CallOk M c ca ck) (h0 : 0 ≤ c.kind ∧ c.kind ≤ 255) (w : Wy) (na : Option Addr) (nc : Nat) (hW : WyOk M w na nc) (o : Wy) (oa : Option Addr) (oc : Nat) (hO : WyOk M o oa oc) (id : Int) (v : PV) (x : PF) (hw : wBb f.abs w.1 w.2 = .ok id) (hv : wAm w.1 f.abs.vols = some v) (hx : wAm id v.files = some x) (hne : w.2 = []) (hk : c.kind = 15) (hdir : x.dir = true) :
  SpecL Tryz.prog 29 #[gsV f, clV c ca ck, wyV w na nc, wyV o oa oc] M [] (RDoP (f.abs, wCa 260)) := by
 have hl0 : w.2.length = 0 := by rw [hne]; rfl
 have hvl := wBh hwf
 obtain ⟨iv, hiv, gv, j, hj, g, vb, vo, fb, fo, rfl, rfl, rfl, eiv, hgv, hid, hwv, hfl, hgo, hnd, ev, hvx, efa, hg, hfx, hgi, hgk, hgx, hnn, hn32, hnsl, hfx2⟩ := opw hwf hf hv hx
 refine wAe (vs := [_, _, _, _]) 279 _ Tryz.func29 rfl Tryz.ntmps29 rfl rfl ?_; intro W
 refine wAb (wAa (sBx [_, _] rfl fun b4 => ?_))
 refine sBx [_, _, _, _, _, _, _] rfl fun b5 => ?_
 refine sBx [_, _] rfl fun b6 => ?_
 refine sBx [_, _] rfl fun b7 => ?_
 refine sAl rfl fun b8 => ?_
 refine sAl rfl fun b9 => ?_
 refine wAc (jT (wAb (wAa (sFL rfl rfl ?_))))
 refine lq (wCd rfl rfl rfl) ?_
 refine jp rfl (wAc (jT (wAb (wAb (wAa (sFL rfl rfl ?_))))))
 refine jf rfl (decide_eq_false (by omega)) ?_
 refine jp rfl (jp rfl (jp rfl (jp rfl (wAc (jT (wAh rfl (wAd (jT (wAb (wAa (sLL rfl ?_)))))))))))
 refine sFL rfl rfl ?_
 refine sFL rfl rfl ?_
 refine lq (qEq (v' := .tuple #[.int .i64 (iv : Int), .int .i64 (j : Int), .int .i64 0]) (qCl (wAo f n hwf hn M hf w.1 w.2 na nc hW.sn hW.big)) (by rw [hw]; show Value.tuple #[.int .i64 (ixA w.1 (wAv f.vols)), .int .i64 (wDf f.abs w.1 g.id), _] = _; rw [eiv, hfx2])) ?_
 iterate 7 refine jp rfl ?_
 refine wAc (jT (wAb (wAb (wAa (jp rfl (jf rfl (decide_eq_false (by omega)) ?_))))))
 refine wAc (jT (wAh rfl (wAd (jT (wAb (wAa (sFL rfl rfl ?_)))))))
 refine jp rfl (lq (wAp rfl rfl rfl rfl ev (by omega)) ?_)
 refine sFa rfl ?_
 refine lq (qLd rfl rfl rfl rfl ((hvx 3 _ rfl).cj _)) ?_
 refine jp rfl (lq (wAp rfl rfl rfl rfl efa (by omega)) ?_)
 refine lq (wFt (cs := gfC g) rfl rfl rfl rfl rfl (fun j u hu => (hfx j u hu).cj _)) ?_
 refine sAl rfl fun b14 => ?_
 refine sSt rfl ?_
 refine wAc (jT (wAb (wAa (jp rfl (wAc (jT (wAb (wAb (wAa (jp rfl (jf rfl (decide_eq_false (by omega)) ?_)))))))))))
 refine wAc (jT (wAh rfl (wAd (jT (wAb (wAa (jp rfl (wAc (jT (wAb (wAb (wAa (sFL rfl rfl ?_)))))))))))))
 refine wAc (jT (wAk (wAb (wAb (wAa (jf rfl (decide_eq_false (by omega)) ?_))))))
 refine jp rfl (wAc (jT (wAh rfl (wAa (jf rfl (decide_eq_false (by omega)) ?_)))))
 refine jp rfl (wAc (jT (wAh rfl (wAb (wAa (jt rfl (decide_eq_true (by omega)) ?_))))))
 refine jp rfl (wAc (jT (wAf rfl (wAb (wAb (wAa (sFa rfl ?_)))))))
 refine lq (qEq (qLd rfl rfl rfl rfl (CJ.loc rfl)) (v' := .bool true) (by rw [hdir])) ?_
 refine jp rfl (wAc (jT (wAh rfl (wAd (jT (wAb (wAa (jp rfl (jt rfl (decide_eq_true (by omega)) ?_)))))))))
 refine jp rfl (jp rfl (jp rfl (jp rfl (jp rfl (jp rfl (wAc (jT (wAf rfl (wAb (wCw [(0, true), (1, true), (2, false), (3, false)] [(b4, .cells (gsC f).toArray 53 (0, 0))] (by simp) ?_))))))))))
 refine dLL rfl rfl ?_
 refine dq rfl (qCl (wAu 260 M)) ?_
 refine dSt rfl rfl ?_
 refine dSt rfl rfl ?_
 refine wAs (jPn (jT (wAg (jBr (jTr (wEj (rs := [_, _]) rfl (.cons (.agg rfl rfl rfl) (.cons (.agg rfl rfl rfl) .nil)) ?_))))))
 exact RDoP.err hf rfl
set_option maxHeartbeats 4000000 in
theorem on_busyn (f : GS) (n : Nat) (hwf : WFS n f.abs) (hn : n ≤ 100) (M : Mem) (hf : f.Ok M) (c : CL) (ca : Option Addr) (ck : Nat) (hC : CallOk M c ca ck) (h0 : 0 ≤ c.kind ∧ c.kind ≤ 255) (w : Wy) (na : Option Addr) (nc : Nat) (hW : WyOk M w na nc) (o : Wy) (oa : Option Addr) (oc : Nat) (hO : WyOk M o oa oc) (id : Int) (v : PV) (x : PF) (hw : wBb f.abs w.1 w.2 = .ok id) (hv : wAm w.1 f.abs.vols = some v) (hx : wAm id v.files = some x) (hne : w.2 ≠ []) (hk : c.kind = 15) (hdir : x.dir = true) (hnn0 : 0 < x.names.length) :
  SpecL Tryz.prog 29 #[gsV f, clV c ca ck, wyV w na nc, wyV o oa oc] M [] (RDoP (f.abs, wCa 260)) := by
 have hl0 : 0 < w.2.length := List.length_pos_iff.2 hne
 have hbig := hW.big
 obtain ⟨pd, v9, xd, hwd, hplc, hv9, hxd, hxdd, hxdn⟩ := wCb hwf hne hw
 rw [hv] at hv9; cases hv9
 have hvl := wBh hwf
 obtain ⟨iv, hiv, gv, j, hj, g, vb, vo, fb, fo, rfl, rfl, rfl, eiv, hgv, hid, hwv, hfl, hgo, hnd, ev, hvx, efa, hg, hfx, hgi, hgk, hgx, hnn, hn32, hnsl, hfx2⟩ := opw hwf hf hv hx
 obtain ⟨jd, hjd, ejd, hjid, hjxd⟩ := GV.file hxd
 obtain ⟨gd, hgd⟩ : ∃ gd, gv.files[jd] = gd := ⟨_, rfl⟩
 rw [hgd] at hjid hjxd
 subst hjxd
 subst hjid
 have hfxd : wDf f.abs w.1 gd.id = (jd : Int) := by rw [wCp hv]; exact ejd
 refine wAe (vs := [_, _, _, _]) 279 _ Tryz.func29 rfl Tryz.ntmps29 rfl rfl ?_; intro W
 refine wAb (wAa (sBx [_, _] rfl fun b4 => ?_))
 refine sBx [_, _, _, _, _, _, _] rfl fun b5 => ?_
 refine sBx [_, _] rfl fun b6 => ?_
 refine sBx [_, _] rfl fun b7 => ?_
 refine sAl rfl fun b8 => ?_
 refine sAl rfl fun b9 => ?_
 refine wAc (jT (wAb (wAa (sFL rfl rfl ?_))))
 refine lq (wCd rfl rfl rfl) ?_
 refine jp rfl (wAc (jT (wAb (wAb (wAa (sFL rfl rfl ?_))))))
 refine jf rfl (decide_eq_false (by omega)) ?_
 refine jp rfl (jp rfl (jp rfl (jp rfl (wAc (jT (wAh rfl (wAd (jT (wAb (wAa (sLL rfl ?_)))))))))))
 refine sFL rfl rfl ?_
 refine sFL rfl rfl ?_
 refine lq (qEq (v' := .tuple #[.int .i64 (iv : Int), .int .i64 (j : Int), .int .i64 0]) (qCl (wAo f n hwf hn M hf w.1 w.2 na nc hW.sn hW.big)) (by rw [hw]; show Value.tuple #[.int .i64 (ixA w.1 (wAv f.vols)), .int .i64 (wDf f.abs w.1 g.id), _] = _; rw [eiv, hfx2])) ?_
 iterate 7 refine jp rfl ?_
 refine wAc (jT (wAb (wAb (wAa (jp rfl (jf rfl (decide_eq_false (by omega)) ?_))))))
 refine wAc (jT (wAh rfl (wAd (jT (wAb (wAa (sFL rfl rfl ?_)))))))
 refine jp rfl (lq (wAp rfl rfl rfl rfl ev (by omega)) ?_)
 refine sFa rfl ?_
 refine lq (qLd rfl rfl rfl rfl ((hvx 3 _ rfl).cj _)) ?_
 refine jp rfl (lq (wAp rfl rfl rfl rfl efa (by omega)) ?_)
 refine lq (wFt (cs := gfC g) rfl rfl rfl rfl rfl (fun j u hu => (hfx j u hu).cj _)) ?_
 refine sAl rfl fun b14 => ?_
 refine sSt rfl ?_
 refine wAc (jT (wAb (wAa (jp rfl (wAc (jT (wAb (wAb (wAa (jp rfl (jt rfl (decide_eq_true (by omega)) ?_)))))))))))
 refine wAc (jT (wAf rfl (wCw [(0, true), (1, true), (2, true), (3, true), (4, true), (5, true), (6, true), (7, true), (8, true), (9, true), (10, true), (11, true), (12, true), (13, true)] _ (fun _ h => h) ?_)))
 refine dLL rfl rfl ?_
 refine dFa rfl rfl ?_
 refine dLd rfl rfl ?_
 refine dFa rfl rfl ?_
 refine dLd rfl rfl ?_
 refine dp rfl rfl ?_
 refine da rfl rfl (by omega) ?_
 refine dq rfl (qEq (v' := .slice na w.2.dropLast.length nc) (qSl rfl rfl rfl (.no _) (.of rfl (by have := hW.big; omega) rfl) (.no _) (by have := hW.cap; omega) (by simp)) (by rw [wCo, List.length_dropLast, show ((w.2.length : Int) - 1).toNat = w.2.length - 1 by omega]; rfl)) ?_
 refine dq rfl (qEq (v' := .tuple #[.int .i64 (iv : Int), .int .i64 (jd : Int), .int .i64 0]) (qCl (wAo f n hwf hn M hf w.1 w.2.dropLast na nc hW.sn.init (by rw [List.length_dropLast]; have := hW.big; omega))) (by rw [hwd]; show Value.tuple #[.int .i64 (ixA w.1 (wAv f.vols)), .int .i64 (wDf f.abs w.1 gd.id), _] = _; rw [eiv, hfxd])) ?_
 iterate 5 refine dp rfl rfl ?_
 refine wAs (jPn (jT (wAb (wAa (jp rfl (wAc (jT (wAb (wAb (wAa (sFL rfl rfl ?_)))))))))))
 refine wAc (jT (wAk (wAb (wAb (wAa (jf rfl (decide_eq_false (by omega)) ?_))))))
 refine jp rfl (wAc (jT (wAh rfl (wAa (jf rfl (decide_eq_false (by omega)) ?_)))))
 refine jp rfl (wAc (jT (wAh rfl (wAb (wAa (jt rfl (decide_eq_true (by omega)) ?_))))))
 refine jp rfl (wAc (jT (wAf rfl (wAb (wAb (wAa (sFa rfl ?_)))))))
 refine lq (qEq (qLd rfl rfl rfl rfl (CJ.loc rfl)) (v' := .bool true) (by rw [hdir])) ?_
 refine jp rfl (wAc (jT (wAh rfl (wAd (jT (wAb (wAa (jp rfl (jf rfl (decide_eq_false (by omega)) ?_)))))))))
 refine jp rfl (sFL rfl rfl ?_)
 refine lq (wCd rfl rfl rfl) ?_
 refine jt rfl (decide_eq_true (by omega)) ?_
 refine jp rfl (wAc (jT (wAf rfl (wAb (wCw [(0, true), (1, true), (2, false), (3, false)] [(b4, .cells (gsC f).toArray 53 (0, 0))] (by simp) ?_)))))
 refine dLL rfl rfl ?_
 refine dq rfl (qCl (wAu 260 M)) ?_
 refine dSt rfl rfl ?_
 refine dSt rfl rfl ?_
 refine wAs (jPn (jT (wAg (jBr (jTr (wEj (rs := [_, _]) rfl (.cons (.agg rfl rfl rfl) (.cons (.agg rfl rfl rfl) .nil)) ?_))))))
 exact RDoP.err hf rfl
set_option maxHeartbeats 4000000 in
theorem ln_err (f : GS) (n : Nat) (hwf : WFS n f.abs) (hn : n ≤ 100) (M : Mem) (hf : f.Ok M) (c : CL) (ca : Option Addr) (ck : Nat) (hC : CallOk M c ca ck) (h0 : 0 ≤ c.kind ∧ c.kind ≤ 255) (w : Wy) (na : Option Addr) (nc : Nat) (hW : WyOk M w na nc) (o : Wy) (oa : Option Addr) (oc : Nat) (hO : WyOk M o oa oc) (id : Int) (v : PV) (x : PF) (hw : wBb f.abs w.1 w.2 = .ok id) (hv : wAm w.1 f.abs.vols = some v) (hx : wAm id v.files = some x) (hne : w.2 ≠ []) (hk : c.kind = 12) (hdir : x.dir = false) (e : Int) (hfr : wBo f.abs o w.1 none = .error e) :
  SpecL Tryz.prog 29 #[gsV f, clV c ca ck, wyV w na nc, wyV o oa oc] M [] (RDoP (f.abs, wCa e)) := by
 have hl0 : 0 < w.2.length := List.length_pos_iff.2 hne
 have hbig := hW.big
 obtain ⟨pd, v9, xd, hwd, hplc, hv9, hxd, hxdd, hxdn⟩ := wCb hwf hne hw
 rw [hv] at hv9; cases hv9
 have hvl := wBh hwf
 obtain ⟨iv, hiv, gv, j, hj, g, vb, vo, fb, fo, rfl, rfl, rfl, eiv, hgv, hid, hwv, hfl, hgo, hnd, ev, hvx, efa, hg, hfx, hgi, hgk, hgx, hnn, hn32, hnsl, hfx2⟩ := opw hwf hf hv hx
 obtain ⟨jd, hjd, ejd, hjid, hjxd⟩ := GV.file hxd
 obtain ⟨gd, hgd⟩ : ∃ gd, gv.files[jd] = gd := ⟨_, rfl⟩
 rw [hgd] at hjid hjxd
 subst hjxd
 subst hjid
 have hfxd : wDf f.abs w.1 gd.id = (jd : Int) := by rw [wCp hv]; exact ejd
 have he := gfresh_err hwf hfr
 refine wAe (vs := [_, _, _, _]) 279 _ Tryz.func29 rfl Tryz.ntmps29 rfl rfl ?_; intro W
 refine wAb (wAa (sBx [_, _] rfl fun b4 => ?_))
 refine sBx [_, _, _, _, _, _, _] rfl fun b5 => ?_
 refine sBx [_, _] rfl fun b6 => ?_
 refine sBx [_, _] rfl fun b7 => ?_
 refine sAl rfl fun b8 => ?_
 refine sAl rfl fun b9 => ?_
 refine wAc (jT (wAb (wAa (sFL rfl rfl ?_))))
 refine lq (wCd rfl rfl rfl) ?_
 refine jp rfl (wAc (jT (wAb (wAb (wAa (sFL rfl rfl ?_))))))
 refine jf rfl (decide_eq_false (by omega)) ?_
 refine jp rfl (jp rfl (jp rfl (jp rfl (wAc (jT (wAh rfl (wAd (jT (wAb (wAa (sLL rfl ?_)))))))))))
 refine sFL rfl rfl ?_
 refine sFL rfl rfl ?_
 refine lq (qEq (v' := .tuple #[.int .i64 (iv : Int), .int .i64 (j : Int), .int .i64 0]) (qCl (wAo f n hwf hn M hf w.1 w.2 na nc hW.sn hW.big)) (by rw [hw]; show Value.tuple #[.int .i64 (ixA w.1 (wAv f.vols)), .int .i64 (wDf f.abs w.1 g.id), _] = _; rw [eiv, hfx2])) ?_
 iterate 7 refine jp rfl ?_
 refine wAc (jT (wAb (wAb (wAa (jp rfl (jf rfl (decide_eq_false (by omega)) ?_))))))
 refine wAc (jT (wAh rfl (wAd (jT (wAb (wAa (sFL rfl rfl ?_)))))))
 refine jp rfl (lq (wAp rfl rfl rfl rfl ev (by omega)) ?_)
 refine sFa rfl ?_
 refine lq (qLd rfl rfl rfl rfl ((hvx 3 _ rfl).cj _)) ?_
 refine jp rfl (lq (wAp rfl rfl rfl rfl efa (by omega)) ?_)
 refine lq (wFt (cs := gfC g) rfl rfl rfl rfl rfl (fun j u hu => (hfx j u hu).cj _)) ?_
 refine sAl rfl fun b14 => ?_
 refine sSt rfl ?_
 refine wAc (jT (wAb (wAa (jp rfl (wAc (jT (wAb (wAb (wAa (jp rfl (jt rfl (decide_eq_true (by omega)) ?_)))))))))))
 refine wAc (jT (wAf rfl (wCw [(0, true), (1, true), (2, true), (3, true), (4, true), (5, true), (6, true), (7, true), (8, true), (9, true), (10, true), (11, true), (12, true), (13, true)] _ (fun _ h => h) ?_)))
 refine dLL rfl rfl ?_
 refine dFa rfl rfl ?_
 refine dLd rfl rfl ?_
 refine dFa rfl rfl ?_
 refine dLd rfl rfl ?_
 refine dp rfl rfl ?_
 refine da rfl rfl (by omega) ?_
 refine dq rfl (qEq (v' := .slice na w.2.dropLast.length nc) (qSl rfl rfl rfl (.no _) (.of rfl (by have := hW.big; omega) rfl) (.no _) (by have := hW.cap; omega) (by simp)) (by rw [wCo, List.length_dropLast, show ((w.2.length : Int) - 1).toNat = w.2.length - 1 by omega]; rfl)) ?_
 refine dq rfl (qEq (v' := .tuple #[.int .i64 (iv : Int), .int .i64 (jd : Int), .int .i64 0]) (qCl (wAo f n hwf hn M hf w.1 w.2.dropLast na nc hW.sn.init (by rw [List.length_dropLast]; have := hW.big; omega))) (by rw [hwd]; show Value.tuple #[.int .i64 (ixA w.1 (wAv f.vols)), .int .i64 (wDf f.abs w.1 gd.id), _] = _; rw [eiv, hfxd])) ?_
 iterate 5 refine dp rfl rfl ?_
 refine wAs (jPn (jT (wAb (wAa (jp rfl (wAc (jT (wAb (wAb (wAa (sFL rfl rfl ?_)))))))))))
 refine wAc (jT (wAk (wAb (wAb (wAa (jt rfl (decide_eq_true (by omega)) ?_))))))
 refine jp rfl (wAc (jT (wAf rfl (wAd (jT (wAf rfl (wAb (wAa (sFa rfl ?_)))))))))
 refine lq (qEq (qLd rfl rfl rfl rfl (CJ.loc rfl)) (v' := .bool false) (by rw [hdir])) ?_
 refine wAc (jT (wAh rfl (wAd (jB (jT (wAb (wAb (wAa (sFL rfl rfl ?_)))))))))
 refine jt rfl (decide_eq_true (by omega)) ?_
 refine jp rfl (jp rfl (jp rfl (jp rfl (jp rfl (wAc (jT (wAf rfl (wAb (wAa (jp rfl (wAc (jT (wAb (wAb (wAa (sFL rfl rfl ?_))))))))))))))))
 refine jf rfl (decide_eq_false (by omega)) ?_
 refine wAc (jT (wAh rfl (wAd (jT (wAb (wAa (sLL rfl ?_)))))))
 refine sLL rfl ?_
 refine sFL rfl rfl ?_
 refine jp rfl ?_
 refine lq (qEq (v' := .tuple #[.int .i64 0, .int .i64 e]) (qCl (wDp f n hwf hn M hf o oa oc hO w.1 none (by intro d h; cases h))) (by rw [hfr]; rfl)) ?_
 refine jp rfl (jp rfl (jp rfl (jp rfl (jp rfl (wAc (jT (wAb (wAa (jp rfl (jt rfl (decide_eq_true (by omega)) ?_))))))))))
 refine wAc (jT (wAf rfl (wAb (wCw [(0, true), (1, true), (2, true), (3, false), (4, false)] [(b4, .cells (gsC f).toArray 53 (0, 0))] (by simp) ?_))))
 refine dLL rfl rfl ?_
 refine dp rfl rfl ?_
 refine dq rfl (qCl (wAu e M)) ?_
 refine dSt rfl rfl ?_
 refine dSt rfl rfl ?_
 refine wAs (jPn (jT (wAg (jTr (wEj (rs := [_, _]) rfl (.cons (.agg rfl rfl rfl) (.cons (.agg rfl rfl rfl) .nil)) ?_)))))
 exact RDoP.err hf rfl
set_option maxHeartbeats 4000000 in
theorem rn_err (f : GS) (n : Nat) (hwf : WFS n f.abs) (hn : n ≤ 100) (M : Mem) (hf : f.Ok M) (c : CL) (ca : Option Addr) (ck : Nat) (hC : CallOk M c ca ck) (h0 : 0 ≤ c.kind ∧ c.kind ≤ 255) (w : Wy) (na : Option Addr) (nc : Nat) (hW : WyOk M w na nc) (o : Wy) (oa : Option Addr) (oc : Nat) (hO : WyOk M o oa oc) (id : Int) (v : PV) (x : PF) (hw : wBb f.abs w.1 w.2 = .ok id) (hv : wAm w.1 f.abs.vols = some v) (hx : wAm id v.files = some x) (hne : w.2 ≠ []) (hk : c.kind = 14) (pd : Int) (hplp : wCj f.abs w = .ok pd) (e : Int) (hfr : wBo f.abs o w.1 (some pd) = .error e) :
  SpecL Tryz.prog 29 #[gsV f, clV c ca ck, wyV w na nc, wyV o oa oc] M [] (RDoP (f.abs, wCa e)) := by
 have hl0 : 0 < w.2.length := List.length_pos_iff.2 hne
 have hbig := hW.big
 obtain ⟨pd9, v9, xd, hwd, hplc, hv9, hxd, hxdd, hxdn⟩ := wCb hwf hne hw
 rw [hplp] at hplc; cases hplc
 rw [hv] at hv9; cases hv9
 have hvl := wBh hwf
 obtain ⟨iv, hiv, gv, j, hj, g, vb, vo, fb, fo, rfl, rfl, rfl, eiv, hgv, hid, hwv, hfl, hgo, hnd, ev, hvx, efa, hg, hfx, hgi, hgk, hgx, hnn, hn32, hnsl, hfx2⟩ := opw hwf hf hv hx
 obtain ⟨jd, hjd, ejd, hjid, hjxd⟩ := GV.file hxd
 obtain ⟨gd, hgd⟩ : ∃ gd, gv.files[jd] = gd := ⟨_, rfl⟩
 rw [hgd] at hjid hjxd
 subst hjxd
 subst hjid
 have hfxd : wDf f.abs w.1 gd.id = (jd : Int) := by rw [wCp hv]; exact ejd
 have he := gfresh_err hwf hfr
 refine wAe (vs := [_, _, _, _]) 279 _ Tryz.func29 rfl Tryz.ntmps29 rfl rfl ?_; intro W
 refine wAb (wAa (sBx [_, _] rfl fun b4 => ?_))
 refine sBx [_, _, _, _, _, _, _] rfl fun b5 => ?_
 refine sBx [_, _] rfl fun b6 => ?_
 refine sBx [_, _] rfl fun b7 => ?_
 refine sAl rfl fun b8 => ?_
 refine sAl rfl fun b9 => ?_
 refine wAc (jT (wAb (wAa (sFL rfl rfl ?_))))
 refine lq (wCd rfl rfl rfl) ?_
 refine jp rfl (wAc (jT (wAb (wAb (wAa (sFL rfl rfl ?_))))))
 refine jt rfl (decide_eq_true (by omega)) ?_
 refine jp rfl (jp rfl (jf rfl (decide_eq_false (by omega)) ?_))
 refine jp rfl (wAc (jT (wAh rfl (wAd (jT (wAb (wAa (sLL rfl ?_))))))))
 refine sFL rfl rfl ?_
 refine sFL rfl rfl ?_
 refine lq (qEq (v' := .tuple #[.int .i64 (iv : Int), .int .i64 (j : Int), .int .i64 0]) (qCl (wAo f n hwf hn M hf w.1 w.2 na nc hW.sn hW.big)) (by rw [hw]; show Value.tuple #[.int .i64 (ixA w.1 (wAv f.vols)), .int .i64 (wDf f.abs w.1 g.id), _] = _; rw [eiv, hfx2])) ?_
 iterate 7 refine jp rfl ?_
 refine wAc (jT (wAb (wAb (wAa (jp rfl (jf rfl (decide_eq_false (by omega)) ?_))))))
 refine wAc (jT (wAh rfl (wAd (jT (wAb (wAa (sFL rfl rfl ?_)))))))
 refine jp rfl (lq (wAp rfl rfl rfl rfl ev (by omega)) ?_)
 refine sFa rfl ?_
 refine lq (qLd rfl rfl rfl rfl ((hvx 3 _ rfl).cj _)) ?_
 refine jp rfl (lq (wAp rfl rfl rfl rfl efa (by omega)) ?_)
 refine lq (wFt (cs := gfC g) rfl rfl rfl rfl rfl (fun j u hu => (hfx j u hu).cj _)) ?_
 refine sAl rfl fun b14 => ?_
 refine sSt rfl ?_
 refine wAc (jT (wAb (wAa (jp rfl (wAc (jT (wAb (wAb (wAa (jp rfl (jt rfl (decide_eq_true (by omega)) ?_)))))))))))
 refine wAc (jT (wAf rfl (wCw [(0, true), (1, true), (2, true), (3, true), (4, true), (5, true), (6, true), (7, true), (8, true), (9, true), (10, true), (11, true), (12, true), (13, true)] _ (fun _ h => h) ?_)))
 refine dLL rfl rfl ?_
 refine dFa rfl rfl ?_
 refine dLd rfl rfl ?_
 refine dFa rfl rfl ?_
 refine dLd rfl rfl ?_
 refine dp rfl rfl ?_
 refine da rfl rfl (by omega) ?_
 refine dq rfl (qEq (v' := .slice na w.2.dropLast.length nc) (qSl rfl rfl rfl (.no _) (.of rfl (by have := hW.big; omega) rfl) (.no _) (by have := hW.cap; omega) (by simp)) (by rw [wCo, List.length_dropLast, show ((w.2.length : Int) - 1).toNat = w.2.length - 1 by omega]; rfl)) ?_
 refine dq rfl (qEq (v' := .tuple #[.int .i64 (iv : Int), .int .i64 (jd : Int), .int .i64 0]) (qCl (wAo f n hwf hn M hf w.1 w.2.dropLast na nc hW.sn.init (by rw [List.length_dropLast]; have := hW.big; omega))) (by rw [hwd]; show Value.tuple #[.int .i64 (ixA w.1 (wAv f.vols)), .int .i64 (wDf f.abs w.1 gd.id), _] = _; rw [eiv, hfxd])) ?_
 iterate 5 refine dp rfl rfl ?_
 refine wAs (jPn (jT (wAb (wAa (jp rfl (wAc (jT (wAb (wAb (wAa (sFL rfl rfl ?_)))))))))))
 refine wAc (jT (wAk (wAb (wAb (wAa (jf rfl (decide_eq_false (by omega)) ?_))))))
 refine jp rfl (wAc (jT (wAh rfl (wAa (jf rfl (decide_eq_false (by omega)) ?_)))))
 refine jp rfl (wAc (jT (wAh rfl (wAb (wAa (jf rfl (decide_eq_false (by omega)) ?_))))))
 refine jp rfl (wAc (jT (wAh rfl (wAd (jB (jT (wAb (wAb (wAa (sFL rfl rfl ?_))))))))))
 refine jf rfl (decide_eq_false (by omega)) ?_
 refine jp rfl (sFL rfl rfl ?_)
 refine jt rfl (decide_eq_true (by omega)) ?_
 refine jp rfl (wAc (jT (wAf rfl (wAb (wAa (jp rfl (wAc (jT (wAb (wAb (wAa (sFL rfl rfl ?_))))))))))))
 refine jt rfl (decide_eq_true (by omega)) ?_
 refine wAc (jT (wAf rfl (wAa (jp rfl (jp rfl (wAc (jT (wAb (wAa (sLL rfl ?_))))))))))
 refine sLL rfl ?_
 refine sFL rfl rfl ?_
 refine jp rfl ?_
 refine lq (qEq (v' := .tuple #[.int .i64 0, .int .i64 e]) (qCall rfl rfl rfl rfl rfl (by kernel_rfl) (by have := wDp f n hwf hn M hf o oa oc hO w.1 (some gd.id) (by intro d h hv0; cases h; exact ⟨_, _, (by rw [hv0]; exact hv), hxd⟩); rw [show sameI f.abs w.1 (some gd.id) = (jd : Int) from hfxd] at this; exact this)) (by rw [hfr]; rfl)) ?_
 refine jp rfl (jp rfl (jp rfl (jp rfl (jp rfl (wAc (jT (wAb (wAa (jp rfl (jt rfl (decide_eq_true (by omega)) ?_))))))))))
 refine wAc (jT (wAf rfl (wAb (wCw [(0, true), (1, true), (2, true), (3, false), (4, false)] [(b4, .cells (gsC f).toArray 53 (0, 0))] (by simp) ?_))))
 refine dLL rfl rfl ?_
 refine dp rfl rfl ?_
 refine dq rfl (qCl (wAu e M)) ?_
 refine dSt rfl rfl ?_
 refine dSt rfl rfl ?_
 refine wAs (jPn (jT (wAg (jTr (wEj (rs := [_, _]) rfl (.cons (.agg rfl rfl rfl) (.cons (.agg rfl rfl rfl) .nil)) ?_)))))
 exact RDoP.err hf rfl
set_option maxHeartbeats 4000000 in
theorem ul_frz (f : GS) (n : Nat) (hwf : WFS n f.abs) (hn : n ≤ 100) (M : Mem) (hf : f.Ok M) (c : CL) (ca : Option Addr) (ck : Nat) (hC : CallOk M c ca ck) (h0 : 0 ≤ c.kind ∧ c.kind ≤ 255) (w : Wy) (na : Option Addr) (nc : Nat) (hW : WyOk M w na nc) (o : Wy) (oa : Option Addr) (oc : Nat) (hO : WyOk M o oa oc) (id : Int) (v : PV) (x : PF) (hw : wBb f.abs w.1 w.2 = .ok id) (hv : wAm w.1 f.abs.vols = some v) (hx : wAm id v.files = some x) (hne : w.2 ≠ []) (hk : c.kind = 13) (hdir : x.dir = false) (hz : wAr f.abs w.1 = true) :
  SpecL Tryz.prog 29 #[gsV f, clV c ca ck, wyV w na nc, wyV o oa oc] M [] (RDoP (f.abs, wCa 170)) := by
 have hl0 : 0 < w.2.length := List.length_pos_iff.2 hne
 have hbig := hW.big
 obtain ⟨pd, v9, xd, hwd, hplc, hv9, hxd, hxdd, hxdn⟩ := wCb hwf hne hw
 rw [hv] at hv9; cases hv9
 have hvl := wBh hwf
 obtain ⟨iv, hiv, gv, j, hj, g, vb, vo, fb, fo, rfl, rfl, rfl, eiv, hgv, hid, hwv, hfl, hgo, hnd, ev, hvx, efa, hg, hfx, hgi, hgk, hgx, hnn, hn32, hnsl, hfx2⟩ := opw hwf hf hv hx
 obtain ⟨jd, hjd, ejd, hjid, hjxd⟩ := GV.file hxd
 obtain ⟨gd, hgd⟩ : ∃ gd, gv.files[jd] = gd := ⟨_, rfl⟩
 rw [hgd] at hjid hjxd
 subst hjxd
 subst hjid
 have hfxd : wDf f.abs w.1 gd.id = (jd : Int) := by rw [wCp hv]; exact ejd
 have hfz : wAr f.abs w.1 = gv.frozen := by unfold wAr; rw [hv]; rfl
 refine wAe (vs := [_, _, _, _]) 279 _ Tryz.func29 rfl Tryz.ntmps29 rfl rfl ?_; intro W
 refine wAb (wAa (sBx [_, _] rfl fun b4 => ?_))
 refine sBx [_, _, _, _, _, _, _] rfl fun b5 => ?_
 refine sBx [_, _] rfl fun b6 => ?_
 refine sBx [_, _] rfl fun b7 => ?_
 refine sAl rfl fun b8 => ?_
 refine sAl rfl fun b9 => ?_
 refine wAc (jT (wAb (wAa (sFL rfl rfl ?_))))
 refine lq (wCd rfl rfl rfl) ?_
 refine jp rfl (wAc (jT (wAb (wAb (wAa (sFL rfl rfl ?_))))))
 refine jf rfl (decide_eq_false (by omega)) ?_
 refine jp rfl (jp rfl (jp rfl (jp rfl (wAc (jT (wAh rfl (wAd (jT (wAb (wAa (sLL rfl ?_)))))))))))
 refine sFL rfl rfl ?_
 refine sFL rfl rfl ?_
 refine lq (qEq (v' := .tuple #[.int .i64 (iv : Int), .int .i64 (j : Int), .int .i64 0]) (qCl (wAo f n hwf hn M hf w.1 w.2 na nc hW.sn hW.big)) (by rw [hw]; show Value.tuple #[.int .i64 (ixA w.1 (wAv f.vols)), .int .i64 (wDf f.abs w.1 g.id), _] = _; rw [eiv, hfx2])) ?_
 iterate 7 refine jp rfl ?_
 refine wAc (jT (wAb (wAb (wAa (jp rfl (jf rfl (decide_eq_false (by omega)) ?_))))))
 refine wAc (jT (wAh rfl (wAd (jT (wAb (wAa (sFL rfl rfl ?_)))))))
 refine jp rfl (lq (wAp rfl rfl rfl rfl ev (by omega)) ?_)
 refine sFa rfl ?_
 refine lq (qLd rfl rfl rfl rfl ((hvx 3 _ rfl).cj _)) ?_
 refine jp rfl (lq (wAp rfl rfl rfl rfl efa (by omega)) ?_)
 refine lq (wFt (cs := gfC g) rfl rfl rfl rfl rfl (fun j u hu => (hfx j u hu).cj _)) ?_
 refine sAl rfl fun b14 => ?_
 refine sSt rfl ?_
 refine wAc (jT (wAb (wAa (jp rfl (wAc (jT (wAb (wAb (wAa (jp rfl (jt rfl (decide_eq_true (by omega)) ?_)))))))))))
 refine wAc (jT (wAf rfl (wCw [(0, true), (1, true), (2, true), (3, true), (4, true), (5, true), (6, true), (7, true), (8, true), (9, true), (10, true), (11, true), (12, true), (13, true)] _ (fun _ h => h) ?_)))
 refine dLL rfl rfl ?_
 refine dFa rfl rfl ?_
 refine dLd rfl rfl ?_
 refine dFa rfl rfl ?_
 refine dLd rfl rfl ?_
 refine dp rfl rfl ?_
 refine da rfl rfl (by omega) ?_
 refine dq rfl (qEq (v' := .slice na w.2.dropLast.length nc) (qSl rfl rfl rfl (.no _) (.of rfl (by have := hW.big; omega) rfl) (.no _) (by have := hW.cap; omega) (by simp)) (by rw [wCo, List.length_dropLast, show ((w.2.length : Int) - 1).toNat = w.2.length - 1 by omega]; rfl)) ?_
 refine dq rfl (qEq (v' := .tuple #[.int .i64 (iv : Int), .int .i64 (jd : Int), .int .i64 0]) (qCl (wAo f n hwf hn M hf w.1 w.2.dropLast na nc hW.sn.init (by rw [List.length_dropLast]; have := hW.big; omega))) (by rw [hwd]; show Value.tuple #[.int .i64 (ixA w.1 (wAv f.vols)), .int .i64 (wDf f.abs w.1 gd.id), _] = _; rw [eiv, hfxd])) ?_
 iterate 5 refine dp rfl rfl ?_
 refine wAs (jPn (jT (wAb (wAa (jp rfl (wAc (jT (wAb (wAb (wAa (sFL rfl rfl ?_)))))))))))
 refine wAc (jT (wAk (wAb (wAb (wAa (jf rfl (decide_eq_false (by omega)) ?_))))))
 refine jp rfl (wAc (jT (wAh rfl (wAa (jt rfl (decide_eq_true (by omega)) ?_)))))
 refine jp rfl (wAc (jT (wAf rfl (wAb (wAa (sFa rfl ?_))))))
 refine lq (qEq (qLd rfl rfl rfl rfl (CJ.loc rfl)) (v' := .bool false) (by rw [hdir])) ?_
 refine wAc (jT (wAh rfl (wAd (jB (jT (wAb (wAb (wAa (sFL rfl rfl ?_)))))))))
 refine jf rfl (decide_eq_false (by omega)) ?_
 refine jp rfl (sFL rfl rfl ?_)
 refine jf rfl (decide_eq_false (by omega)) ?_
 refine jp rfl (wAc (jT (wAh rfl (wAd (jT (wAb (wAb (wCw [(0, true), (1, true), (2, true), (3, true), (4, true), (5, true), (6, true), (7, true), (8, true), (9, true), (10, true), (11, true), (12, true), (13, true), (14, true), (15, true), (16, true), (17, true), (18, true), (19, true), (20, true), (21, true), (22, true), (23, true), (24, true), (25, true), (26, true)] [(b14, .cells (gfC g).toArray 93 (0, 0)), (b5, .cells (wDa c ca ck).toArray 45 (0, 0)), (b4, .cells (gsC f).toArray 53 (0, 0))] (by simp) ?_))))))))
 refine dFa rfl rfl ?_
 refine dLd rfl rfl ?_
 refine df rfl rfl (decide_eq_false (by omega)) ?_
 iterate 24 refine dp rfl rfl ?_
 refine wAs (jPn (jT (wAh rfl (wAd (jT (wAb (wAb (wAa (sFL rfl rfl ?_)))))))))
 refine jp rfl (lq (wAp rfl rfl rfl rfl ev (by omega)) ?_)
 refine sFa rfl ?_
 refine lq (qEq (qLd rfl rfl rfl rfl ((hvx 1 _ rfl).cj _)) (v' := .bool true) (by rw [hfz] at hz; rw [hz])) ?_
 refine wAc (jT (wAf rfl (wAb (wCw [(0, true), (1, true), (2, false), (3, false)] [(b4, .cells (gsC f).toArray 53 (0, 0))] (by simp) ?_))))
 refine dLL rfl rfl ?_
 refine dq rfl (qCl (wAu 170 M)) ?_
 refine dSt rfl rfl ?_
 refine dSt rfl rfl ?_
 refine wAs (jPn (jT (wAg (jTr (wEj (rs := [_, _]) rfl (.cons (.agg rfl rfl rfl) (.cons (.agg rfl rfl rfl) .nil)) ?_)))))
 exact RDoP.err hf rfl
set_option maxHeartbeats 4000000 in
theorem rm_frz (f : GS) (n : Nat) (hwf : WFS n f.abs) (hn : n ≤ 100) (M : Mem) (hf : f.Ok M) (c : CL) (ca : Option Addr) (ck : Nat) (hC : CallOk M c ca ck) (h0 : 0 ≤ c.kind ∧ c.kind ≤ 255) (w : Wy) (na : Option Addr) (nc : Nat) (hW : WyOk M w na nc) (o : Wy) (oa : Option Addr) (oc : Nat) (hO : WyOk M o oa oc) (id : Int) (v : PV) (x : PF) (hw : wBb f.abs w.1 w.2 = .ok id) (hv : wAm w.1 f.abs.vols = some v) (hx : wAm id v.files = some x) (hne : w.2 ≠ []) (hk : c.kind = 15) (hdir : x.dir = true) (h0n : x.names = []) (hz : wAr f.abs w.1 = true) :
  SpecL Tryz.prog 29 #[gsV f, clV c ca ck, wyV w na nc, wyV o oa oc] M [] (RDoP (f.abs, wCa 170)) := by
 have hl0 : 0 < w.2.length := List.length_pos_iff.2 hne
 have hbig := hW.big
 obtain ⟨pd, v9, xd, hwd, hplc, hv9, hxd, hxdd, hxdn⟩ := wCb hwf hne hw
 rw [hv] at hv9; cases hv9
 have hvl := wBh hwf
 obtain ⟨iv, hiv, gv, j, hj, g, vb, vo, fb, fo, rfl, rfl, rfl, eiv, hgv, hid, hwv, hfl, hgo, hnd, ev, hvx, efa, hg, hfx, hgi, hgk, hgx, hnn, hn32, hnsl, hfx2⟩ := opw hwf hf hv hx
 obtain ⟨jd, hjd, ejd, hjid, hjxd⟩ := GV.file hxd
 obtain ⟨gd, hgd⟩ : ∃ gd, gv.files[jd] = gd := ⟨_, rfl⟩
 rw [hgd] at hjid hjxd
 subst hjxd
 subst hjid
 have hfxd : wDf f.abs w.1 gd.id = (jd : Int) := by rw [wCp hv]; exact ejd
 have hfz : wAr f.abs w.1 = gv.frozen := by unfold wAr; rw [hv]; rfl
 have hnl0 : g.ns.length = 0 := by rw [hnsl, h0n]; rfl
 refine wAe (vs := [_, _, _, _]) 279 _ Tryz.func29 rfl Tryz.ntmps29 rfl rfl ?_; intro W
 refine wAb (wAa (sBx [_, _] rfl fun b4 => ?_))
 refine sBx [_, _, _, _, _, _, _] rfl fun b5 => ?_
 refine sBx [_, _] rfl fun b6 => ?_
 refine sBx [_, _] rfl fun b7 => ?_
 refine sAl rfl fun b8 => ?_
 refine sAl rfl fun b9 => ?_
 refine wAc (jT (wAb (wAa (sFL rfl rfl ?_))))
 refine lq (wCd rfl rfl rfl) ?_
 refine jp rfl (wAc (jT (wAb (wAb (wAa (sFL rfl rfl ?_))))))
 refine jf rfl (decide_eq_false (by omega)) ?_
 refine jp rfl (jp rfl (jp rfl (jp rfl (wAc (jT (wAh rfl (wAd (jT (wAb (wAa (sLL rfl ?_)))))))))))
 refine sFL rfl rfl ?_
 refine sFL rfl rfl ?_
 refine lq (qEq (v' := .tuple #[.int .i64 (iv : Int), .int .i64 (j : Int), .int .i64 0]) (qCl (wAo f n hwf hn M hf w.1 w.2 na nc hW.sn hW.big)) (by rw [hw]; show Value.tuple #[.int .i64 (ixA w.1 (wAv f.vols)), .int .i64 (wDf f.abs w.1 g.id), _] = _; rw [eiv, hfx2])) ?_
 iterate 7 refine jp rfl ?_
 refine wAc (jT (wAb (wAb (wAa (jp rfl (jf rfl (decide_eq_false (by omega)) ?_))))))
 refine wAc (jT (wAh rfl (wAd (jT (wAb (wAa (sFL rfl rfl ?_)))))))
 refine jp rfl (lq (wAp rfl rfl rfl rfl ev (by omega)) ?_)
 refine sFa rfl ?_
 refine lq (qLd rfl rfl rfl rfl ((hvx 3 _ rfl).cj _)) ?_
 refine jp rfl (lq (wAp rfl rfl rfl rfl efa (by omega)) ?_)
 refine lq (wFt (cs := gfC g) rfl rfl rfl rfl rfl (fun j u hu => (hfx j u hu).cj _)) ?_
 refine sAl rfl fun b14 => ?_
 refine sSt rfl ?_
 refine wAc (jT (wAb (wAa (jp rfl (wAc (jT (wAb (wAb (wAa (jp rfl (jt rfl (decide_eq_true (by omega)) ?_)))))))))))
 refine wAc (jT (wAf rfl (wCw [(0, true), (1, true), (2, true), (3, true), (4, true), (5, true), (6, true), (7, true), (8, true), (9, true), (10, true), (11, true), (12, true), (13, true)] _ (fun _ h => h) ?_)))
 refine dLL rfl rfl ?_
 refine dFa rfl rfl ?_
 refine dLd rfl rfl ?_
 refine dFa rfl rfl ?_
 refine dLd rfl rfl ?_
 refine dp rfl rfl ?_
 refine da rfl rfl (by omega) ?_
 refine dq rfl (qEq (v' := .slice na w.2.dropLast.length nc) (qSl rfl rfl rfl (.no _) (.of rfl (by have := hW.big; omega) rfl) (.no _) (by have := hW.cap; omega) (by simp)) (by rw [wCo, List.length_dropLast, show ((w.2.length : Int) - 1).toNat = w.2.length - 1 by omega]; rfl)) ?_
 refine dq rfl (qEq (v' := .tuple #[.int .i64 (iv : Int), .int .i64 (jd : Int), .int .i64 0]) (qCl (wAo f n hwf hn M hf w.1 w.2.dropLast na nc hW.sn.init (by rw [List.length_dropLast]; have := hW.big; omega))) (by rw [hwd]; show Value.tuple #[.int .i64 (ixA w.1 (wAv f.vols)), .int .i64 (wDf f.abs w.1 gd.id), _] = _; rw [eiv, hfxd])) ?_
 iterate 5 refine dp rfl rfl ?_
 refine wAs (jPn (jT (wAb (wAa (jp rfl (wAc (jT (wAb (wAb (wAa (sFL rfl rfl ?_)))))))))))
 refine wAc (jT (wAk (wAb (wAb (wAa (jf rfl (decide_eq_false (by omega)) ?_))))))
 refine jp rfl (wAc (jT (wAh rfl (wAa (jf rfl (decide_eq_false (by omega)) ?_)))))
 refine jp rfl (wAc (jT (wAh rfl (wAb (wAa (jt rfl (decide_eq_true (by omega)) ?_))))))
 refine jp rfl (wAc (jT (wAf rfl (wAb (wAb (wAa (sFa rfl ?_)))))))
 refine lq (qEq (qLd rfl rfl rfl rfl (CJ.loc rfl)) (v' := .bool true) (by rw [hdir])) ?_
 refine jp rfl (wAc (jT (wAh rfl (wAd (jT (wAb (wAa (jp rfl (jf rfl (decide_eq_false (by omega)) ?_)))))))))
 refine jp rfl (sFL rfl rfl ?_)
 refine lq (wCd rfl rfl rfl) ?_
 refine jf rfl (decide_eq_false (by omega)) ?_
 refine jp rfl (wAc (jT (wAh rfl (wAd (jB (jT (wAb (wAb (wAa (sFL rfl rfl ?_))))))))))
 refine jf rfl (decide_eq_false (by omega)) ?_
 refine jp rfl (sFL rfl rfl ?_)
 refine jf rfl (decide_eq_false (by omega)) ?_
 refine jp rfl (wAc (jT (wAh rfl (wAd (jT (wAb (wAb (wCw [(0, true), (1, true), (2, true), (3, true), (4, true), (5, true), (6, true), (7, true), (8, true), (9, true), (10, true), (11, true), (12, true), (13, true), (14, true), (15, true), (16, true), (17, true), (18, true), (19, true), (20, true), (21, true), (22, true), (23, true), (24, true), (25, true), (26, true)] [(b14, .cells (gfC g).toArray 93 (0, 0)), (b5, .cells (wDa c ca ck).toArray 45 (0, 0)), (b4, .cells (gsC f).toArray 53 (0, 0))] (by simp) ?_))))))))
 refine dFa rfl rfl ?_
 refine dLd rfl rfl ?_
 refine df rfl rfl (decide_eq_false (by omega)) ?_
 iterate 24 refine dp rfl rfl ?_
 refine wAs (jPn (jT (wAh rfl (wAd (jT (wAb (wAb (wAa (sFL rfl rfl ?_)))))))))
 refine jp rfl (lq (wAp rfl rfl rfl rfl ev (by omega)) ?_)
 refine sFa rfl ?_
 refine lq (qEq (qLd rfl rfl rfl rfl ((hvx 1 _ rfl).cj _)) (v' := .bool true) (by rw [hfz] at hz; rw [hz])) ?_
 refine wAc (jT (wAf rfl (wAb (wCw [(0, true), (1, true), (2, false), (3, false)] [(b4, .cells (gsC f).toArray 53 (0, 0))] (by simp) ?_))))
 refine dLL rfl rfl ?_
 refine dq rfl (qCl (wAu 170 M)) ?_
 refine dSt rfl rfl ?_
 refine dSt rfl rfl ?_
 refine wAs (jPn (jT (wAg (jTr (wEj (rs := [_, _]) rfl (.cons (.agg rfl rfl rfl) (.cons (.agg rfl rfl rfl) .nil)) ?_)))))
 exact RDoP.err hf rfl
set_option maxHeartbeats 4000000 in
theorem ln_frz (f : GS) (n : Nat) (hwf : WFS n f.abs) (hn : n ≤ 100) (M : Mem) (hf : f.Ok M) (c : CL) (ca : Option Addr) (ck : Nat) (hC : CallOk M c ca ck) (h0 : 0 ≤ c.kind ∧ c.kind ≤ 255) (w : Wy) (na : Option Addr) (nc : Nat) (hW : WyOk M w na nc) (o : Wy) (oa : Option Addr) (oc : Nat) (hO : WyOk M o oa oc) (id : Int) (v : PV) (x : PF) (hw : wBb f.abs w.1 w.2 = .ok id) (hv : wAm w.1 f.abs.vols = some v) (hx : wAm id v.files = some x) (hne : w.2 ≠ []) (hk : c.kind = 12) (hdir : x.dir = false) (t : Int) (hfr : wBo f.abs o w.1 none = .ok t) (hz : wAr f.abs w.1 = true) :
  SpecL Tryz.prog 29 #[gsV f, clV c ca ck, wyV w na nc, wyV o oa oc] M [] (RDoP (f.abs, wCa 170)) := by
 have hl0 : 0 < w.2.length := List.length_pos_iff.2 hne
 have hbig := hW.big
 obtain ⟨pd, v9, xd, hwd, hplc, hv9, hxd, hxdd, hxdn⟩ := wCb hwf hne hw
 rw [hv] at hv9; cases hv9
 have hvl := wBh hwf
 obtain ⟨iv, hiv, gv, j, hj, g, vb, vo, fb, fo, rfl, rfl, rfl, eiv, hgv, hid, hwv, hfl, hgo, hnd, ev, hvx, efa, hg, hfx, hgi, hgk, hgx, hnn, hn32, hnsl, hfx2⟩ := opw hwf hf hv hx
 obtain ⟨jd, hjd, ejd, hjid, hjxd⟩ := GV.file hxd
 obtain ⟨gd, hgd⟩ : ∃ gd, gv.files[jd] = gd := ⟨_, rfl⟩
 rw [hgd] at hjid hjxd
 subst hjxd
 subst hjid
 have hfxd : wDf f.abs w.1 gd.id = (jd : Int) := by rw [wCp hv]; exact ejd
 have hfz : wAr f.abs w.1 = gv.frozen := by unfold wAr; rw [hv]; rfl
 obtain ⟨v2, xt, hv2, hxt, _, htd, hns2, hlt, hvol, hneo⟩ := wFm hwf hfr
 rw [hvol, hv] at hv2; cases hv2
 obtain ⟨jtt, hjtt, ejt, hjit, hjxt⟩ := GV.file hxt
 obtain ⟨gt, hgt⟩ : ∃ gt, gv.files[jtt] = gt := ⟨_, rfl⟩
 rw [hgt] at hjit hjxt
 subst hjxt
 subst hjit
 have hfxt : wDf f.abs o.1 gt.id = (jtt : Int) := by rw [hvol, wCp hv]; exact ejt
 refine wAe (vs := [_, _, _, _]) 279 _ Tryz.func29 rfl Tryz.ntmps29 rfl rfl ?_; intro W
 refine wAb (wAa (sBx [_, _] rfl fun b4 => ?_))
 refine sBx [_, _, _, _, _, _, _] rfl fun b5 => ?_
 refine sBx [_, _] rfl fun b6 => ?_
 refine sBx [_, _] rfl fun b7 => ?_
 refine sAl rfl fun b8 => ?_
 refine sAl rfl fun b9 => ?_
 refine wAc (jT (wAb (wAa (sFL rfl rfl ?_))))
 refine lq (wCd rfl rfl rfl) ?_
 refine jp rfl (wAc (jT (wAb (wAb (wAa (sFL rfl rfl ?_))))))
 refine jf rfl (decide_eq_false (by omega)) ?_
 refine jp rfl (jp rfl (jp rfl (jp rfl (wAc (jT (wAh rfl (wAd (jT (wAb (wAa (sLL rfl ?_)))))))))))
 refine sFL rfl rfl ?_
 refine sFL rfl rfl ?_
 refine lq (qEq (v' := .tuple #[.int .i64 (iv : Int), .int .i64 (j : Int), .int .i64 0]) (qCl (wAo f n hwf hn M hf w.1 w.2 na nc hW.sn hW.big)) (by rw [hw]; show Value.tuple #[.int .i64 (ixA w.1 (wAv f.vols)), .int .i64 (wDf f.abs w.1 g.id), _] = _; rw [eiv, hfx2])) ?_
 iterate 7 refine jp rfl ?_
 refine wAc (jT (wAb (wAb (wAa (jp rfl (jf rfl (decide_eq_false (by omega)) ?_))))))
 refine wAc (jT (wAh rfl (wAd (jT (wAb (wAa (sFL rfl rfl ?_)))))))
 refine jp rfl (lq (wAp rfl rfl rfl rfl ev (by omega)) ?_)
 refine sFa rfl ?_
 refine lq (qLd rfl rfl rfl rfl ((hvx 3 _ rfl).cj _)) ?_
 refine jp rfl (lq (wAp rfl rfl rfl rfl efa (by omega)) ?_)
 refine lq (wFt (cs := gfC g) rfl rfl rfl rfl rfl (fun j u hu => (hfx j u hu).cj _)) ?_
 refine sAl rfl fun b14 => ?_
 refine sSt rfl ?_
 refine wAc (jT (wAb (wAa (jp rfl (wAc (jT (wAb (wAb (wAa (jp rfl (jt rfl (decide_eq_true (by omega)) ?_)))))))))))
 refine wAc (jT (wAf rfl (wCw [(0, true), (1, true), (2, true), (3, true), (4, true), (5, true), (6, true), (7, true), (8, true), (9, true), (10, true), (11, true), (12, true), (13, true)] _ (fun _ h => h) ?_)))
 refine dLL rfl rfl ?_
 refine dFa rfl rfl ?_
 refine dLd rfl rfl ?_
 refine dFa rfl rfl ?_
 refine dLd rfl rfl ?_
 refine dp rfl rfl ?_
 refine da rfl rfl (by omega) ?_
 refine dq rfl (qEq (v' := .slice na w.2.dropLast.length nc) (qSl rfl rfl rfl (.no _) (.of rfl (by have := hW.big; omega) rfl) (.no _) (by have := hW.cap; omega) (by simp)) (by rw [wCo, List.length_dropLast, show ((w.2.length : Int) - 1).toNat = w.2.length - 1 by omega]; rfl)) ?_
 refine dq rfl (qEq (v' := .tuple #[.int .i64 (iv : Int), .int .i64 (jd : Int), .int .i64 0]) (qCl (wAo f n hwf hn M hf w.1 w.2.dropLast na nc hW.sn.init (by rw [List.length_dropLast]; have := hW.big; omega))) (by rw [hwd]; show Value.tuple #[.int .i64 (ixA w.1 (wAv f.vols)), .int .i64 (wDf f.abs w.1 gd.id), _] = _; rw [eiv, hfxd])) ?_
 iterate 5 refine dp rfl rfl ?_
 refine wAs (jPn (jT (wAb (wAa (jp rfl (wAc (jT (wAb (wAb (wAa (sFL rfl rfl ?_)))))))))))
 refine wAc (jT (wAk (wAb (wAb (wAa (jt rfl (decide_eq_true (by omega)) ?_))))))
 refine jp rfl (wAc (jT (wAf rfl (wAd (jT (wAf rfl (wAb (wAa (sFa rfl ?_)))))))))
 refine lq (qEq (qLd rfl rfl rfl rfl (CJ.loc rfl)) (v' := .bool false) (by rw [hdir])) ?_
 refine wAc (jT (wAh rfl (wAd (jB (jT (wAb (wAb (wAa (sFL rfl rfl ?_)))))))))
 refine jt rfl (decide_eq_true (by omega)) ?_
 refine jp rfl (jp rfl (jp rfl (jp rfl (jp rfl (wAc (jT (wAf rfl (wAb (wAa (jp rfl (wAc (jT (wAb (wAb (wAa (sFL rfl rfl ?_))))))))))))))))
 refine jf rfl (decide_eq_false (by omega)) ?_
 refine wAc (jT (wAh rfl (wAd (jT (wAb (wAa (sLL rfl ?_)))))))
 refine sLL rfl ?_
 refine sFL rfl rfl ?_
 refine jp rfl ?_
 refine lq (qEq (v' := .tuple #[.int .i64 (jtt : Int), .int .i64 0]) (qCl (wDp f n hwf hn M hf o oa oc hO w.1 none (by intro d h; cases h))) (by rw [hfr]; show Value.tuple #[.int .i64 (wDf f.abs o.1 gt.id), _] = _; rw [hfxt])) ?_
 refine jp rfl (jp rfl (jp rfl (jp rfl (jp rfl (wAc (jT (wAb (wAa (jp rfl (jf rfl (decide_eq_false (by omega)) ?_))))))))))
 refine wAc (jT (wAh rfl (wAd (jT (wAb (wAb (wCw [(0, true), (1, true), (2, true), (3, true), (4, true), (5, true), (6, true), (7, true), (8, true), (9, true), (10, true), (11, true), (12, true), (13, true), (14, true), (15, true), (16, true), (17, true), (18, true), (19, true), (20, true), (21, true), (22, true), (23, true), (24, true), (25, true), (26, true)] [(b14, .cells (gfC g).toArray 93 (0, 0)), (b5, .cells (wDa c ca ck).toArray 45 (0, 0)), (b4, .cells (gsC f).toArray 53 (0, 0))] (by simp) ?_)))))))
 refine dFa rfl rfl ?_
 refine dLd rfl rfl ?_
 refine df rfl rfl (decide_eq_false (by omega)) ?_
 iterate 24 refine dp rfl rfl ?_
 refine wAs (jPn (jT (wAh rfl (wAd (jT (wAb (wAb (wAa (sFL rfl rfl ?_)))))))))
 refine jp rfl (lq (wAp rfl rfl rfl rfl ev (by omega)) ?_)
 refine sFa rfl ?_
 refine lq (qEq (qLd rfl rfl rfl rfl ((hvx 1 _ rfl).cj _)) (v' := .bool true) (by rw [hfz] at hz; rw [hz])) ?_
 refine wAc (jT (wAf rfl (wAb (wCw [(0, true), (1, true), (2, false), (3, false)] [(b4, .cells (gsC f).toArray 53 (0, 0))] (by simp) ?_))))
 refine dLL rfl rfl ?_
 refine dq rfl (qCl (wAu 170 M)) ?_
 refine dSt rfl rfl ?_
 refine dSt rfl rfl ?_
 refine wAs (jPn (jT (wAg (jTr (wEj (rs := [_, _]) rfl (.cons (.agg rfl rfl rfl) (.cons (.agg rfl rfl rfl) .nil)) ?_)))))
 exact RDoP.err hf rfl
set_option maxHeartbeats 4000000 in
theorem rn_loop (f : GS) (n : Nat) (hwf : WFS n f.abs) (hn : n ≤ 100) (M : Mem) (hf : f.Ok M) (c : CL) (ca : Option Addr) (ck : Nat) (hC : CallOk M c ca ck) (h0 : 0 ≤ c.kind ∧ c.kind ≤ 255) (w : Wy) (na : Option Addr) (nc : Nat) (hW : WyOk M w na nc) (o : Wy) (oa : Option Addr) (oc : Nat) (hO : WyOk M o oa oc) (id : Int) (v : PV) (x : PF) (hw : wBb f.abs w.1 w.2 = .ok id) (hv : wAm w.1 f.abs.vols = some v) (hx : wAm id v.files = some x) (hne : w.2 ≠ []) (hk : c.kind = 14) (hn9 : n ≤ 90) (pd : Int) (hplp : wCj f.abs w = .ok pd) (t : Int) (hfr : wBo f.abs o w.1 (some pd) = .ok t) (hdir : x.dir = true) (hin : insB f.abs w.1 t id = true) :
  SpecL Tryz.prog 29 #[gsV f, clV c ca ck, wyV w na nc, wyV o oa oc] M [] (RDoP (f.abs, wCa 261)) := by
 have hl0 : 0 < w.2.length := List.length_pos_iff.2 hne
 have hbig := hW.big
 obtain ⟨pd9, v9, xd, hwd, hplc, hv9, hxd, hxdd, hxdn⟩ := wCb hwf hne hw
 rw [hplp] at hplc; cases hplc
 rw [hv] at hv9; cases hv9
 have hvl := wBh hwf
 obtain ⟨iv, hiv, gv, j, hj, g, vb, vo, fb, fo, rfl, rfl, rfl, eiv, hgv, hid, hwv, hfl, hgo, hnd, ev, hvx, efa, hg, hfx, hgi, hgk, hgx, hnn, hn32, hnsl, hfx2⟩ := opw hwf hf hv hx
 obtain ⟨jd, hjd, ejd, hjid, hjxd⟩ := GV.file hxd
 obtain ⟨gd, hgd⟩ : ∃ gd, gv.files[jd] = gd := ⟨_, rfl⟩
 rw [hgd] at hjid hjxd
 subst hjxd
 subst hjid
 have hfxd : wDf f.abs w.1 gd.id = (jd : Int) := by rw [wCp hv]; exact ejd
 obtain ⟨v2, xt, hv2, hxt, _, htd, hns2, hlt, hvol, hneo⟩ := wFm hwf hfr
 rw [hvol, hv] at hv2; cases hv2
 obtain ⟨jtt, hjtt, ejt, hjit, hjxt⟩ := GV.file hxt
 obtain ⟨gt, hgt⟩ : ∃ gt, gv.files[jtt] = gt := ⟨_, rfl⟩
 rw [hgt] at hjit hjxt
 subst hjxt
 subst hjit
 have hfxt : wDf f.abs o.1 gt.id = (jtt : Int) := by rw [hvol, wCp hv]; exact ejt
 have hins : insD gv.abs.files gt.id g.id = true := by unfold insB at hin; rw [hv] at hin; exact hin
 refine wAe (vs := [_, _, _, _]) 279 _ Tryz.func29 rfl Tryz.ntmps29 rfl rfl ?_; intro W
 refine wAb (wAa (sBx [_, _] rfl fun b4 => ?_))
 refine sBx [_, _, _, _, _, _, _] rfl fun b5 => ?_
 refine sBx [_, _] rfl fun b6 => ?_
 refine sBx [_, _] rfl fun b7 => ?_
 refine sAl rfl fun b8 => ?_
 refine sAl rfl fun b9 => ?_
 refine wAc (jT (wAb (wAa (sFL rfl rfl ?_))))
 refine lq (wCd rfl rfl rfl) ?_
 refine jp rfl (wAc (jT (wAb (wAb (wAa (sFL rfl rfl ?_))))))
 refine jt rfl (decide_eq_true (by omega)) ?_
 refine jp rfl (jp rfl (jf rfl (decide_eq_false (by omega)) ?_))
 refine jp rfl (wAc (jT (wAh rfl (wAd (jT (wAb (wAa (sLL rfl ?_))))))))
 refine sFL rfl rfl ?_
 refine sFL rfl rfl ?_
 refine lq (qEq (v' := .tuple #[.int .i64 (iv : Int), .int .i64 (j : Int), .int .i64 0]) (qCl (wAo f n hwf hn M hf w.1 w.2 na nc hW.sn hW.big)) (by rw [hw]; show Value.tuple #[.int .i64 (ixA w.1 (wAv f.vols)), .int .i64 (wDf f.abs w.1 g.id), _] = _; rw [eiv, hfx2])) ?_
 iterate 7 refine jp rfl ?_
 refine wAc (jT (wAb (wAb (wAa (jp rfl (jf rfl (decide_eq_false (by omega)) ?_))))))
 refine wAc (jT (wAh rfl (wAd (jT (wAb (wAa (sFL rfl rfl ?_)))))))
 refine jp rfl (lq (wAp rfl rfl rfl rfl ev (by omega)) ?_)
 refine sFa rfl ?_
 refine lq (qLd rfl rfl rfl rfl ((hvx 3 _ rfl).cj _)) ?_
 refine jp rfl (lq (wAp rfl rfl rfl rfl efa (by omega)) ?_)
 refine lq (wFt (cs := gfC g) rfl rfl rfl rfl rfl (fun j u hu => (hfx j u hu).cj _)) ?_
 refine sAl rfl fun b14 => ?_
 refine sSt rfl ?_
 refine wAc (jT (wAb (wAa (jp rfl (wAc (jT (wAb (wAb (wAa (jp rfl (jt rfl (decide_eq_true (by omega)) ?_)))))))))))
 refine wAc (jT (wAf rfl (wCw [(0, true), (1, true), (2, true), (3, true), (4, true), (5, true), (6, true), (7, true), (8, true), (9, true), (10, true), (11, true), (12, true), (13, true)] _ (fun _ h => h) ?_)))
 refine dLL rfl rfl ?_
 refine dFa rfl rfl ?_
 refine dLd rfl rfl ?_
 refine dFa rfl rfl ?_
 refine dLd rfl rfl ?_
 refine dp rfl rfl ?_
 refine da rfl rfl (by omega) ?_
 refine dq rfl (qEq (v' := .slice na w.2.dropLast.length nc) (qSl rfl rfl rfl (.no _) (.of rfl (by have := hW.big; omega) rfl) (.no _) (by have := hW.cap; omega) (by simp)) (by rw [wCo, List.length_dropLast, show ((w.2.length : Int) - 1).toNat = w.2.length - 1 by omega]; rfl)) ?_
 refine dq rfl (qEq (v' := .tuple #[.int .i64 (iv : Int), .int .i64 (jd : Int), .int .i64 0]) (qCl (wAo f n hwf hn M hf w.1 w.2.dropLast na nc hW.sn.init (by rw [List.length_dropLast]; have := hW.big; omega))) (by rw [hwd]; show Value.tuple #[.int .i64 (ixA w.1 (wAv f.vols)), .int .i64 (wDf f.abs w.1 gd.id), _] = _; rw [eiv, hfxd])) ?_
 iterate 5 refine dp rfl rfl ?_
 refine wAs (jPn (jT (wAb (wAa (jp rfl (wAc (jT (wAb (wAb (wAa (sFL rfl rfl ?_)))))))))))
 refine wAc (jT (wAk (wAb (wAb (wAa (jf rfl (decide_eq_false (by omega)) ?_))))))
 refine jp rfl (wAc (jT (wAh rfl (wAa (jf rfl (decide_eq_false (by omega)) ?_)))))
 refine jp rfl (wAc (jT (wAh rfl (wAb (wAa (jf rfl (decide_eq_false (by omega)) ?_))))))
 refine jp rfl (wAc (jT (wAh rfl (wAd (jB (jT (wAb (wAb (wAa (sFL rfl rfl ?_))))))))))
 refine jf rfl (decide_eq_false (by omega)) ?_
 refine jp rfl (sFL rfl rfl ?_)
 refine jt rfl (decide_eq_true (by omega)) ?_
 refine jp rfl (wAc (jT (wAf rfl (wAb (wAa (jp rfl (wAc (jT (wAb (wAb (wAa (sFL rfl rfl ?_))))))))))))
 refine jt rfl (decide_eq_true (by omega)) ?_
 refine wAc (jT (wAf rfl (wAa (jp rfl (jp rfl (wAc (jT (wAb (wAa (sLL rfl ?_))))))))))
 refine sLL rfl ?_
 refine sFL rfl rfl ?_
 refine jp rfl ?_
 refine lq (qEq (v' := .tuple #[.int .i64 (jtt : Int), .int .i64 0]) (qCall rfl rfl rfl rfl rfl (by kernel_rfl) (by have := wDp f n hwf hn M hf o oa oc hO w.1 (some gd.id) (by intro d h hv0; cases h; exact ⟨_, _, (by rw [hv0]; exact hv), hxd⟩); rw [show sameI f.abs w.1 (some gd.id) = (jd : Int) from hfxd] at this; exact this)) (by rw [hfr]; show Value.tuple #[.int .i64 (wDf f.abs o.1 gt.id), _] = _; rw [hfxt])) ?_
 refine jp rfl (jp rfl (jp rfl (jp rfl (jp rfl (wAc (jT (wAb (wAa (jp rfl (jf rfl (decide_eq_false (by omega)) ?_))))))))))
 refine wAc (jT (wAh rfl (wAd (jT (wAb (wAb (wCw [(0, true), (1, true), (2, true), (3, true), (4, true), (5, true), (6, true), (7, true), (8, true), (9, true), (10, true), (11, true), (12, true), (13, true), (14, true), (15, true), (16, true), (17, true), (18, true), (19, true), (20, true), (21, true), (22, true), (23, true), (24, true), (25, true), (26, true)] [(b14, .cells (gfC g).toArray 93 (0, 0)), (b5, .cells (wDa c ca ck).toArray 45 (0, 0)), (b4, .cells (gsC f).toArray 53 (0, 0))] (by simp) ?_)))))))
 refine dFa rfl rfl ?_
 refine dLd rfl rfl ?_
 refine dt rfl rfl (decide_eq_true (by omega)) ?_
 refine dp rfl rfl ?_
 refine dFa rfl rfl ?_
 refine dq rfl (qEq (qLd rfl rfl rfl rfl (CJ.loc rfl)) (v' := .bool true) (by rw [hdir])) ?_
 iterate 2 refine dp rfl rfl ?_
 refine dFa rfl rfl ?_
 refine dLd rfl rfl ?_
 refine dp rfl rfl ?_
 refine dq rfl (wAp rfl rfl rfl rfl ev (by omega)) ?_
 refine dq rfl (wFt (cs := gvC gv) rfl rfl rfl rfl rfl (fun j u hu => (hvx j u hu).cj _)) ?_
 refine dFa rfl rfl ?_
 refine dLd rfl rfl ?_
 refine dp rfl rfl ?_
 refine dq rfl (wAp rfl rfl rfl rfl ev (by omega)) ?_
 refine dFa rfl rfl ?_
 refine dq rfl (qLd rfl rfl rfl rfl ((hvx 3 _ rfl).cj _)) ?_
 refine dp rfl rfl ?_
 obtain ⟨fb3, fo3, efa3, hfx3⟩ := wDh wBa hgo.fa hjtt (by omega)
 rw [hgt] at hfx3
 have hjt4 : (0 : Int) ≤ (jtt : Int) ∧ (jtt : Int) < ((gv.files.length : Nat) : Int) := ⟨by omega, by omega⟩
 refine dq rfl (wAp rfl rfl rfl rfl efa3 hjt4) ?_
 refine dFa rfl rfl ?_
 refine dq rfl (qLd rfl rfl rfl rfl ((hfx3 0 _ rfl).cj _)) ?_
 refine dFa rfl rfl ?_
 refine dLd rfl rfl ?_
 refine dq rfl (qEq (qCl (wKo gv n hwv hn9 M hgo gt.id g.id g.x hgx)) (v' := .bool true) (by rw [hins])) ?_
 refine dp rfl rfl ?_
 refine wAs (jPn (jT (wAf rfl (wAb (wCw [(0, true), (1, true), (2, false), (3, false)] [(b4, .cells (gsC f).toArray 53 (0, 0))] (by simp) ?_)))))
 refine dLL rfl rfl ?_
 refine dq rfl (qCl (wAu 261 M)) ?_
 refine dSt rfl rfl ?_
 refine dSt rfl rfl ?_
 refine wAs (jPn (jT (wAg (jTr (wEj (rs := [_, _]) rfl (.cons (.agg rfl rfl rfl) (.cons (.agg rfl rfl rfl) .nil)) ?_)))))
 exact RDoP.err hf rfl
set_option maxHeartbeats 4000000 in
theorem rn_frzf (f : GS) (n : Nat) (hwf : WFS n f.abs) (hn : n ≤ 100) (M : Mem) (hf : f.Ok M) (c : CL) (ca : Option Addr) (ck : Nat) (hC : CallOk M c ca ck) (h0 : 0 ≤ c.kind ∧ c.kind ≤ 255) (w : Wy) (na : Option Addr) (nc : Nat) (hW : WyOk M w na nc) (o : Wy) (oa : Option Addr) (oc : Nat) (hO : WyOk M o oa oc) (id : Int) (v : PV) (x : PF) (hw : wBb f.abs w.1 w.2 = .ok id) (hv : wAm w.1 f.abs.vols = some v) (hx : wAm id v.files = some x) (hne : w.2 ≠ []) (hk : c.kind = 14) (hn9 : n ≤ 90) (pd : Int) (hplp : wCj f.abs w = .ok pd) (t : Int) (hfr : wBo f.abs o w.1 (some pd) = .ok t) (hdir : x.dir = false) (hz : wAr f.abs w.1 = true) :
  SpecL Tryz.prog 29 #[gsV f, clV c ca ck, wyV w na nc, wyV o oa oc] M [] (RDoP (f.abs, wCa 170)) := by
 have hl0 : 0 < w.2.length := List.length_pos_iff.2 hne
 have hbig := hW.big
 obtain ⟨pd9, v9, xd, hwd, hplc, hv9, hxd, hxdd, hxdn⟩ := wCb hwf hne hw
 rw [hplp] at hplc; cases hplc
 rw [hv] at hv9; cases hv9
 have hvl := wBh hwf
 obtain ⟨iv, hiv, gv, j, hj, g, vb, vo, fb, fo, rfl, rfl, rfl, eiv, hgv, hid, hwv, hfl, hgo, hnd, ev, hvx, efa, hg, hfx, hgi, hgk, hgx, hnn, hn32, hnsl, hfx2⟩ := opw hwf hf hv hx
 obtain ⟨jd, hjd, ejd, hjid, hjxd⟩ := GV.file hxd
 obtain ⟨gd, hgd⟩ : ∃ gd, gv.files[jd] = gd := ⟨_, rfl⟩
 rw [hgd] at hjid hjxd
 subst hjxd
 subst hjid
 have hfxd : wDf f.abs w.1 gd.id = (jd : Int) := by rw [wCp hv]; exact ejd
 have hfz : wAr f.abs w.1 = gv.frozen := by unfold wAr; rw [hv]; rfl
 obtain ⟨v2, xt, hv2, hxt, _, htd, hns2, hlt, hvol, hneo⟩ := wFm hwf hfr
 rw [hvol, hv] at hv2; cases hv2
 obtain ⟨jtt, hjtt, ejt, hjit, hjxt⟩ := GV.file hxt
 obtain ⟨gt, hgt⟩ : ∃ gt, gv.files[jtt] = gt := ⟨_, rfl⟩
 rw [hgt] at hjit hjxt
 subst hjxt
 subst hjit
 have hfxt : wDf f.abs o.1 gt.id = (jtt : Int) := by rw [hvol, wCp hv]; exact ejt
 refine wAe (vs := [_, _, _, _]) 279 _ Tryz.func29 rfl Tryz.ntmps29 rfl rfl ?_; intro W
 refine wAb (wAa (sBx [_, _] rfl fun b4 => ?_))
 refine sBx [_, _, _, _, _, _, _] rfl fun b5 => ?_
 refine sBx [_, _] rfl fun b6 => ?_
 refine sBx [_, _] rfl fun b7 => ?_
 refine sAl rfl fun b8 => ?_
 refine sAl rfl fun b9 => ?_
 refine wAc (jT (wAb (wAa (sFL rfl rfl ?_))))
 refine lq (wCd rfl rfl rfl) ?_
 refine jp rfl (wAc (jT (wAb (wAb (wAa (sFL rfl rfl ?_))))))
 refine jt rfl (decide_eq_true (by omega)) ?_
 refine jp rfl (jp rfl (jf rfl (decide_eq_false (by omega)) ?_))
 refine jp rfl (wAc (jT (wAh rfl (wAd (jT (wAb (wAa (sLL rfl ?_))))))))
 refine sFL rfl rfl ?_
 refine sFL rfl rfl ?_
 refine lq (qEq (v' := .tuple #[.int .i64 (iv : Int), .int .i64 (j : Int), .int .i64 0]) (qCl (wAo f n hwf hn M hf w.1 w.2 na nc hW.sn hW.big)) (by rw [hw]; show Value.tuple #[.int .i64 (ixA w.1 (wAv f.vols)), .int .i64 (wDf f.abs w.1 g.id), _] = _; rw [eiv, hfx2])) ?_
 iterate 7 refine jp rfl ?_
 refine wAc (jT (wAb (wAb (wAa (jp rfl (jf rfl (decide_eq_false (by omega)) ?_))))))
 refine wAc (jT (wAh rfl (wAd (jT (wAb (wAa (sFL rfl rfl ?_)))))))
 refine jp rfl (lq (wAp rfl rfl rfl rfl ev (by omega)) ?_)
 refine sFa rfl ?_
 refine lq (qLd rfl rfl rfl rfl ((hvx 3 _ rfl).cj _)) ?_
 refine jp rfl (lq (wAp rfl rfl rfl rfl efa (by omega)) ?_)
 refine lq (wFt (cs := gfC g) rfl rfl rfl rfl rfl (fun j u hu => (hfx j u hu).cj _)) ?_
 refine sAl rfl fun b14 => ?_
 refine sSt rfl ?_
 refine wAc (jT (wAb (wAa (jp rfl (wAc (jT (wAb (wAb (wAa (jp rfl (jt rfl (decide_eq_true (by omega)) ?_)))))))))))
 refine wAc (jT (wAf rfl (wCw [(0, true), (1, true), (2, true), (3, true), (4, true), (5, true), (6, true), (7, true), (8, true), (9, true), (10, true), (11, true), (12, true), (13, true)] _ (fun _ h => h) ?_)))
 refine dLL rfl rfl ?_
 refine dFa rfl rfl ?_
 refine dLd rfl rfl ?_
 refine dFa rfl rfl ?_
 refine dLd rfl rfl ?_
 refine dp rfl rfl ?_
 refine da rfl rfl (by omega) ?_
 refine dq rfl (qEq (v' := .slice na w.2.dropLast.length nc) (qSl rfl rfl rfl (.no _) (.of rfl (by have := hW.big; omega) rfl) (.no _) (by have := hW.cap; omega) (by simp)) (by rw [wCo, List.length_dropLast, show ((w.2.length : Int) - 1).toNat = w.2.length - 1 by omega]; rfl)) ?_
 refine dq rfl (qEq (v' := .tuple #[.int .i64 (iv : Int), .int .i64 (jd : Int), .int .i64 0]) (qCl (wAo f n hwf hn M hf w.1 w.2.dropLast na nc hW.sn.init (by rw [List.length_dropLast]; have := hW.big; omega))) (by rw [hwd]; show Value.tuple #[.int .i64 (ixA w.1 (wAv f.vols)), .int .i64 (wDf f.abs w.1 gd.id), _] = _; rw [eiv, hfxd])) ?_
 iterate 5 refine dp rfl rfl ?_
 refine wAs (jPn (jT (wAb (wAa (jp rfl (wAc (jT (wAb (wAb (wAa (sFL rfl rfl ?_)))))))))))
 refine wAc (jT (wAk (wAb (wAb (wAa (jf rfl (decide_eq_false (by omega)) ?_))))))
 refine jp rfl (wAc (jT (wAh rfl (wAa (jf rfl (decide_eq_false (by omega)) ?_)))))
 refine jp rfl (wAc (jT (wAh rfl (wAb (wAa (jf rfl (decide_eq_false (by omega)) ?_))))))
 refine jp rfl (wAc (jT (wAh rfl (wAd (jB (jT (wAb (wAb (wAa (sFL rfl rfl ?_))))))))))
 refine jf rfl (decide_eq_false (by omega)) ?_
 refine jp rfl (sFL rfl rfl ?_)
 refine jt rfl (decide_eq_true (by omega)) ?_
 refine jp rfl (wAc (jT (wAf rfl (wAb (wAa (jp rfl (wAc (jT (wAb (wAb (wAa (sFL rfl rfl ?_))))))))))))
 refine jt rfl (decide_eq_true (by omega)) ?_
 refine wAc (jT (wAf rfl (wAa (jp rfl (jp rfl (wAc (jT (wAb (wAa (sLL rfl ?_))))))))))
 refine sLL rfl ?_
 refine sFL rfl rfl ?_
 refine jp rfl ?_
 refine lq (qEq (v' := .tuple #[.int .i64 (jtt : Int), .int .i64 0]) (qCall rfl rfl rfl rfl rfl (by kernel_rfl) (by have := wDp f n hwf hn M hf o oa oc hO w.1 (some gd.id) (by intro d h hv0; cases h; exact ⟨_, _, (by rw [hv0]; exact hv), hxd⟩); rw [show sameI f.abs w.1 (some gd.id) = (jd : Int) from hfxd] at this; exact this)) (by rw [hfr]; show Value.tuple #[.int .i64 (wDf f.abs o.1 gt.id), _] = _; rw [hfxt])) ?_
 refine jp rfl (jp rfl (jp rfl (jp rfl (jp rfl (wAc (jT (wAb (wAa (jp rfl (jf rfl (decide_eq_false (by omega)) ?_))))))))))
 refine wAc (jT (wAh rfl (wAd (jT (wAb (wAb (wCw [(0, true), (1, true), (2, true), (3, true), (4, true), (5, true), (6, true), (7, true), (8, true), (9, true), (10, true), (11, true), (12, true), (13, true), (14, true), (15, true), (16, true), (17, true), (18, true), (19, true), (20, true), (21, true), (22, true), (23, true), (24, true), (25, true), (26, true)] [(b14, .cells (gfC g).toArray 93 (0, 0)), (b5, .cells (wDa c ca ck).toArray 45 (0, 0)), (b4, .cells (gsC f).toArray 53 (0, 0))] (by simp) ?_)))))))
 refine dFa rfl rfl ?_
 refine dLd rfl rfl ?_
 refine dt rfl rfl (decide_eq_true (by omega)) ?_
 refine dp rfl rfl ?_
 refine dFa rfl rfl ?_
 refine dq rfl (qEq (qLd rfl rfl rfl rfl (CJ.loc rfl)) (v' := .bool false) (by rw [hdir])) ?_
 iterate 21 refine dp rfl rfl ?_
 refine wAs (jPn (jT (wAh rfl (wAd (jT (wAb (wAb (wAa (sFL rfl rfl ?_)))))))))
 refine jp rfl (lq (wAp rfl rfl rfl rfl ev (by omega)) ?_)
 refine sFa rfl ?_
 refine lq (qEq (qLd rfl rfl rfl rfl ((hvx 1 _ rfl).cj _)) (v' := .bool true) (by rw [hfz] at hz; rw [hz])) ?_
 refine wAc (jT (wAf rfl (wAb (wCw [(0, true), (1, true), (2, false), (3, false)] [(b4, .cells (gsC f).toArray 53 (0, 0))] (by simp) ?_))))
 refine dLL rfl rfl ?_
 refine dq rfl (qCl (wAu 170 M)) ?_
 refine dSt rfl rfl ?_
 refine dSt rfl rfl ?_
 refine wAs (jPn (jT (wAg (jTr (wEj (rs := [_, _]) rfl (.cons (.agg rfl rfl rfl) (.cons (.agg rfl rfl rfl) .nil)) ?_)))))
 exact RDoP.err hf rfl
set_option maxHeartbeats 4000000 in
theorem rn_frzd (f : GS) (n : Nat) (hwf : WFS n f.abs) (hn : n ≤ 100) (M : Mem) (hf : f.Ok M) (c : CL) (ca : Option Addr) (ck : Nat) (hC : CallOk M c ca ck) (h0 : 0 ≤ c.kind ∧ c.kind ≤ 255) (w : Wy) (na : Option Addr) (nc : Nat) (hW : WyOk M w na nc) (o : Wy) (oa : Option Addr) (oc : Nat) (hO : WyOk M o oa oc) (id : Int) (v : PV) (x : PF) (hw : wBb f.abs w.1 w.2 = .ok id) (hv : wAm w.1 f.abs.vols = some v) (hx : wAm id v.files = some x) (hne : w.2 ≠ []) (hk : c.kind = 14) (hn9 : n ≤ 90) (pd : Int) (hplp : wCj f.abs w = .ok pd) (t : Int) (hfr : wBo f.abs o w.1 (some pd) = .ok t) (hdir : x.dir = true) (hin : insB f.abs w.1 t id = false) (hz : wAr f.abs w.1 = true) :
  SpecL Tryz.prog 29 #[gsV f, clV c ca ck, wyV w na nc, wyV o oa oc] M [] (RDoP (f.abs, wCa 170)) := by
 have hl0 : 0 < w.2.length := List.length_pos_iff.2 hne
 have hbig := hW.big
 obtain ⟨pd9, v9, xd, hwd, hplc, hv9, hxd, hxdd, hxdn⟩ := wCb hwf hne hw
 rw [hplp] at hplc; cases hplc
 rw [hv] at hv9; cases hv9
 have hvl := wBh hwf
 obtain ⟨iv, hiv, gv, j, hj, g, vb, vo, fb, fo, rfl, rfl, rfl, eiv, hgv, hid, hwv, hfl, hgo, hnd, ev, hvx, efa, hg, hfx, hgi, hgk, hgx, hnn, hn32, hnsl, hfx2⟩ := opw hwf hf hv hx
 obtain ⟨jd, hjd, ejd, hjid, hjxd⟩ := GV.file hxd
 obtain ⟨gd, hgd⟩ : ∃ gd, gv.files[jd] = gd := ⟨_, rfl⟩
 rw [hgd] at hjid hjxd
 subst hjxd
 subst hjid
 have hfxd : wDf f.abs w.1 gd.id = (jd : Int) := by rw [wCp hv]; exact ejd
 have hfz : wAr f.abs w.1 = gv.frozen := by unfold wAr; rw [hv]; rfl
 obtain ⟨v2, xt, hv2, hxt, _, htd, hns2, hlt, hvol, hneo⟩ := wFm hwf hfr
 rw [hvol, hv] at hv2; cases hv2
 obtain ⟨jtt, hjtt, ejt, hjit, hjxt⟩ := GV.file hxt
 obtain ⟨gt, hgt⟩ : ∃ gt, gv.files[jtt] = gt := ⟨_, rfl⟩
 rw [hgt] at hjit hjxt
 subst hjxt
 subst hjit
 have hfxt : wDf f.abs o.1 gt.id = (jtt : Int) := by rw [hvol, wCp hv]; exact ejt
 have hins : insD gv.abs.files gt.id g.id = false := by unfold insB at hin; rw [hv] at hin; exact hin
 refine wAe (vs := [_, _, _, _]) 279 _ Tryz.func29 rfl Tryz.ntmps29 rfl rfl ?_; intro W
 refine wAb (wAa (sBx [_, _] rfl fun b4 => ?_))
 refine sBx [_, _, _, _, _, _, _] rfl fun b5 => ?_
 refine sBx [_, _] rfl fun b6 => ?_
 refine sBx [_, _] rfl fun b7 => ?_
 refine sAl rfl fun b8 => ?_
 refine sAl rfl fun b9 => ?_
 refine wAc (jT (wAb (wAa (sFL rfl rfl ?_))))
 refine lq (wCd rfl rfl rfl) ?_
 refine jp rfl (wAc (jT (wAb (wAb (wAa (sFL rfl rfl ?_))))))
 refine jt rfl (decide_eq_true (by omega)) ?_
 refine jp rfl (jp rfl (jf rfl (decide_eq_false (by omega)) ?_))
 refine jp rfl (wAc (jT (wAh rfl (wAd (jT (wAb (wAa (sLL rfl ?_))))))))
 refine sFL rfl rfl ?_
 refine sFL rfl rfl ?_
 refine lq (qEq (v' := .tuple #[.int .i64 (iv : Int), .int .i64 (j : Int), .int .i64 0]) (qCl (wAo f n hwf hn M hf w.1 w.2 na nc hW.sn hW.big)) (by rw [hw]; show Value.tuple #[.int .i64 (ixA w.1 (wAv f.vols)), .int .i64 (wDf f.abs w.1 g.id), _] = _; rw [eiv, hfx2])) ?_
 iterate 7 refine jp rfl ?_
 refine wAc (jT (wAb (wAb (wAa (jp rfl (jf rfl (decide_eq_false (by omega)) ?_))))))
 refine wAc (jT (wAh rfl (wAd (jT (wAb (wAa (sFL rfl rfl ?_)))))))
 refine jp rfl (lq (wAp rfl rfl rfl rfl ev (by omega)) ?_)
 refine sFa rfl ?_
 refine lq (qLd rfl rfl rfl rfl ((hvx 3 _ rfl).cj _)) ?_
 refine jp rfl (lq (wAp rfl rfl rfl rfl efa (by omega)) ?_)
 refine lq (wFt (cs := gfC g) rfl rfl rfl rfl rfl (fun j u hu => (hfx j u hu).cj _)) ?_
 refine sAl rfl fun b14 => ?_
 refine sSt rfl ?_
 refine wAc (jT (wAb (wAa (jp rfl (wAc (jT (wAb (wAb (wAa (jp rfl (jt rfl (decide_eq_true (by omega)) ?_)))))))))))
 refine wAc (jT (wAf rfl (wCw [(0, true), (1, true), (2, true), (3, true), (4, true), (5, true), (6, true), (7, true), (8, true), (9, true), (10, true), (11, true), (12, true), (13, true)] _ (fun _ h => h) ?_)))
 refine dLL rfl rfl ?_
 refine dFa rfl rfl ?_
 refine dLd rfl rfl ?_
 refine dFa rfl rfl ?_
 refine dLd rfl rfl ?_
 refine dp rfl rfl ?_
 refine da rfl rfl (by omega) ?_
 refine dq rfl (qEq (v' := .slice na w.2.dropLast.length nc) (qSl rfl rfl rfl (.no _) (.of rfl (by have := hW.big; omega) rfl) (.no _) (by have := hW.cap; omega) (by simp)) (by rw [wCo, List.length_dropLast, show ((w.2.length : Int) - 1).toNat = w.2.length - 1 by omega]; rfl)) ?_
 refine dq rfl (qEq (v' := .tuple #[.int .i64 (iv : Int), .int .i64 (jd : Int), .int .i64 0]) (qCl (wAo f n hwf hn M hf w.1 w.2.dropLast na nc hW.sn.init (by rw [List.length_dropLast]; have := hW.big; omega))) (by rw [hwd]; show Value.tuple #[.int .i64 (ixA w.1 (wAv f.vols)), .int .i64 (wDf f.abs w.1 gd.id), _] = _; rw [eiv, hfxd])) ?_
 iterate 5 refine dp rfl rfl ?_
 refine wAs (jPn (jT (wAb (wAa (jp rfl (wAc (jT (wAb (wAb (wAa (sFL rfl rfl ?_)))))))))))
 refine wAc (jT (wAk (wAb (wAb (wAa (jf rfl (decide_eq_false (by omega)) ?_))))))
 refine jp rfl (wAc (jT (wAh rfl (wAa (jf rfl (decide_eq_false (by omega)) ?_)))))
 refine jp rfl (wAc (jT (wAh rfl (wAb (wAa (jf rfl (decide_eq_false (by omega)) ?_))))))
 refine jp rfl (wAc (jT (wAh rfl (wAd (jB (jT (wAb (wAb (wAa (sFL rfl rfl ?_))))))))))
 refine jf rfl (decide_eq_false (by omega)) ?_
 refine jp rfl (sFL rfl rfl ?_)
 refine jt rfl (decide_eq_true (by omega)) ?_
 refine jp rfl (wAc (jT (wAf rfl (wAb (wAa (jp rfl (wAc (jT (wAb (wAb (wAa (sFL rfl rfl ?_))))))))))))
 refine jt rfl (decide_eq_true (by omega)) ?_
 refine wAc (jT (wAf rfl (wAa (jp rfl (jp rfl (wAc (jT (wAb (wAa (sLL rfl ?_))))))))))
 refine sLL rfl ?_
 refine sFL rfl rfl ?_
 refine jp rfl ?_
 refine lq (qEq (v' := .tuple #[.int .i64 (jtt : Int), .int .i64 0]) (qCall rfl rfl rfl rfl rfl (by kernel_rfl) (by have := wDp f n hwf hn M hf o oa oc hO w.1 (some gd.id) (by intro d h hv0; cases h; exact ⟨_, _, (by rw [hv0]; exact hv), hxd⟩); rw [show sameI f.abs w.1 (some gd.id) = (jd : Int) from hfxd] at this; exact this)) (by rw [hfr]; show Value.tuple #[.int .i64 (wDf f.abs o.1 gt.id), _] = _; rw [hfxt])) ?_
 refine jp rfl (jp rfl (jp rfl (jp rfl (jp rfl (wAc (jT (wAb (wAa (jp rfl (jf rfl (decide_eq_false (by omega)) ?_))))))))))
 refine wAc (jT (wAh rfl (wAd (jT (wAb (wAb (wCw [(0, true), (1, true), (2, true), (3, true), (4, true), (5, true), (6, true), (7, true), (8, true), (9, true), (10, true), (11, true), (12, true), (13, true), (14, true), (15, true), (16, true), (17, true), (18, true), (19, true), (20, true), (21, true), (22, true), (23, true), (24, true), (25, true), (26, true)] [(b14, .cells (gfC g).toArray 93 (0, 0)), (b5, .cells (wDa c ca ck).toArray 45 (0, 0)), (b4, .cells (gsC f).toArray 53 (0, 0))] (by simp) ?_)))))))
 refine dFa rfl rfl ?_
 refine dLd rfl rfl ?_
 refine dt rfl rfl (decide_eq_true (by omega)) ?_
 refine dp rfl rfl ?_
 refine dFa rfl rfl ?_
 refine dq rfl (qEq (qLd rfl rfl rfl rfl (CJ.loc rfl)) (v' := .bool true) (by rw [hdir])) ?_
 iterate 2 refine dp rfl rfl ?_
 refine dFa rfl rfl ?_
 refine dLd rfl rfl ?_
 refine dp rfl rfl ?_
 refine dq rfl (wAp rfl rfl rfl rfl ev (by omega)) ?_
 refine dq rfl (wFt (cs := gvC gv) rfl rfl rfl rfl rfl (fun j u hu => (hvx j u hu).cj _)) ?_
 refine dFa rfl rfl ?_
 refine dLd rfl rfl ?_
 refine dp rfl rfl ?_
 refine dq rfl (wAp rfl rfl rfl rfl ev (by omega)) ?_
 refine dFa rfl rfl ?_
 refine dq rfl (qLd rfl rfl rfl rfl ((hvx 3 _ rfl).cj _)) ?_
 refine dp rfl rfl ?_
 obtain ⟨fb3, fo3, efa3, hfx3⟩ := wDh wBa hgo.fa hjtt (by omega)
 rw [hgt] at hfx3
 have hjt4 : (0 : Int) ≤ (jtt : Int) ∧ (jtt : Int) < ((gv.files.length : Nat) : Int) := ⟨by omega, by omega⟩
 refine dq rfl (wAp rfl rfl rfl rfl efa3 hjt4) ?_
 refine dFa rfl rfl ?_
 refine dq rfl (qLd rfl rfl rfl rfl ((hfx3 0 _ rfl).cj _)) ?_
 refine dFa rfl rfl ?_
 refine dLd rfl rfl ?_
 refine dq rfl (qEq (qCl (wKo gv n hwv hn9 M hgo gt.id g.id g.x hgx)) (v' := .bool false) (by rw [hins])) ?_
 refine dp rfl rfl ?_
 refine wAs (jPn (jT (wAh rfl (wAd (jT (wAb (wAb (wAa (sFL rfl rfl ?_)))))))))
 refine jp rfl (lq (wAp rfl rfl rfl rfl ev (by omega)) ?_)
 refine sFa rfl ?_
 refine lq (qEq (qLd rfl rfl rfl rfl ((hvx 1 _ rfl).cj _)) (v' := .bool true) (by rw [hfz] at hz; rw [hz])) ?_
 refine wAc (jT (wAf rfl (wAb (wCw [(0, true), (1, true), (2, false), (3, false)] [(b4, .cells (gsC f).toArray 53 (0, 0))] (by simp) ?_))))
 refine dLL rfl rfl ?_
 refine dq rfl (qCl (wAu 170 M)) ?_
 refine dSt rfl rfl ?_
 refine dSt rfl rfl ?_
 refine wAs (jPn (jT (wAg (jTr (wEj (rs := [_, _]) rfl (.cons (.agg rfl rfl rfl) (.cons (.agg rfl rfl rfl) .nil)) ?_)))))
 exact RDoP.err hf rfl
end Go.Proofs.YtokljhkplbkggaaGreatDoor
