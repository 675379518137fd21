/- Walks: the document's calls on names: what they turn. -/
import Derived.Test.YtokljhkplbkggaaGreatDoorZRfz
namespace Go.Proofs.YtokljhkplbkggaaGreatDoor
set_option linter.unusedVariables false
set_option linter.unusedSectionVars false
set_option linter.unusedSimpArgs false
open Go.RowKit Go.MapKept
theorem wGv {l : List GF} {j : Nat} {g g' : GF} (hn : (wBg (flsOf' l)).Nodup) (hq : l[j]? = some g) (hid : g'.id = g.id) (F : PF → PF) (hx : g'.x = F g.x) : flsOf' (l.set j g') = updF (flsOf' l) g.id F := by
 obtain ⟨hj, rfl⟩ := List.getElem?_eq_some_iff.1 hq
 rw [fls_set hn hj hid, wJi (wGw hn hj).1, hid, hx]
theorem wJk {α : Type} {l : List α} {i j : Nat} {x y : α} (h : i ≠ j) (hq : l[j]? = some x) : (l.set i y)[j]? = some x := by rw [List.getElem?_set_ne h]; exact hq
theorem links_ok {M : Mem} {g : GF} (hg : g.Ok M) (k : Int) : GF.Ok M { g with x := { g.x with links := k } } := ⟨hg.da, hg.dc, hg.na, hg.nc, hg.pm, hg.st⟩
theorem without_mem {l : List GF} {id : Int} {g : GF} (h : g ∈ wCs l id) : g ∈ l := (List.mem_filter.1 h).1
theorem unlink_abs {f : GS} {w : Wy} {id d : Int} (hw : wCh f.abs w = .ok id) (hz : wAr f.abs w.1 = false) (hp : wCj f.abs w = .ok d) {v : PV} (hv : wAm w.1 f.abs.vols = some v) : wDo f.abs w = ({ f.abs with vols := wBq w.1 { v with files := wFy (wCg v.files d (wAi w)) id } f.abs.vols }, {}) := by
 unfold wDo
 rw [hw]; simp only
 rw [if_neg (by rw [hz]; simp), hp]
 unfold updVF updV
 rw [hv]
theorem unmake_abs {f : GS} {w : Wy} {id d : Int} (hw : wBb f.abs w.1 w.2 = .ok id) (hd : wGu f.abs w.1 id = true) (hne : w.2 ≠ []) (h0 : (wDx f.abs w.1 id).length = 0) (hz : wAr f.abs w.1 = false) (hp : wCj f.abs w = .ok d) {v : PV} (hv : wAm w.1 f.abs.vols = some v) : wCc f.abs w = ({ f.abs with vols := wBq w.1 { v with files := wBc id (wCg v.files d (wAi w)) } f.abs.vols }, {}) := by
 unfold wCc
 rw [hw]; simp only
 rw [hd, if_pos rfl, if_neg (by rw [h0]; simp [hne]), if_neg (by rw [hz]; simp), hp]
 simp only
 unfold updVF updV
 rw [hv]
set_option maxHeartbeats 4000000 in
theorem ul_keep (f : GS) (n : Nat) (hwf : WFS n f.abs) (hn : n ≤ 100) (M : Mem) (hf : f.Ok M) (c : CL) (ca : Option Addr) (ck : Nat) (hC : CallOk M c ca ck) (h0 : 0 ≤ c.kind ∧ c.kind ≤ 255) (w : Wy) (na : Option Addr) (nc : Nat) (hW : WyOk M w na nc) (o : Wy) (oa : Option Addr) (oc : Nat) (hO : WyOk M o oa oc) (id : Int) (v : PV) (x : PF) (hw : wBb f.abs w.1 w.2 = .ok id) (hv : wAm w.1 f.abs.vols = some v) (hx : wAm id v.files = some x) (hne : w.2 ≠ []) (hk : c.kind = 13) (hdir : x.dir = false) (hfs : wCh f.abs w = .ok id) (hz : wAr f.abs w.1 = false) (hlk : x.links ≠ 1) :
  SpecL Tryz.prog 29 #[gsV f, clV c ca ck, wyV w na nc, wyV o oa oc] M [] (RDoP (wDo f.abs w)) := by
 have hl0 : 0 < w.2.length := List.length_pos_iff.2 hne
 have hbig := hW.big
 obtain ⟨pd, v9, xd, hwd, hplc, hv9, hxd, hxdd, hxdn⟩ := wCb hwf hne hw
 rw [hv] at hv9; cases hv9
 have hvl := wBh hwf
 obtain ⟨iv, hiv, gv, j, hj, g, vb, vo, fb, fo, rfl, rfl, rfl, eiv, hgv, hid, hwv, hfl, hgo, hnd, ev, hvx, efa, hg, hfx, hgi, hgk, hgx, hnn, hn32, hnsl, hfx2⟩ := opw hwf hf hv hx
 obtain ⟨jd, hjd, ejd, hjid, hjxd⟩ := GV.file hxd
 obtain ⟨gd, hgd⟩ : ∃ gd, gv.files[jd] = gd := ⟨_, rfl⟩
 rw [hgd] at hjid hjxd
 subst hjxd
 subst hjid
 have hfxd : wDf f.abs w.1 gd.id = (jd : Int) := by rw [wCp hv]; exact ejd
 have hfz : wAr f.abs w.1 = gv.frozen := by unfold wAr; rw [hv]; rfl
 obtain ⟨nb, no, en, hnx0⟩ := wFs hW.sn (i := w.2.length - 1) (by omega)
 have hlast : w.2[w.2.length - 1] = wAi w := by unfold wAi; rw [List.getLast?_eq_getElem?, List.getElem?_eq_getElem (by omega)]; rfl
 rw [hlast, show ((w.2.length - 1 : Nat) : Int) = (w.2.length : Int) - 1 by omega] at hnx0
 obtain ⟨hsz1, hsz2⟩ := wCy hwf hf hn
 have hdx : gd.x.dir = true := hxdd
 have hjne : jd ≠ j := fun e => by subst e; rw [hgd] at hg; subst hg; rw [hdir] at hdx; cases hdx
 refine wAe (vs := [_, _, _, _]) 279 _ Tryz.func29 rfl Tryz.ntmps29 rfl rfl ?_; intro W
 refine wAb (wAa (sBx [_, _] rfl fun b4 => ?_))
 refine sBx [_, _, _, _, _, _, _] rfl fun b5 => ?_
 refine sBx [_, _] rfl fun b6 => ?_
 refine sBx [_, _] rfl fun b7 => ?_
 refine sAl rfl fun b8 => ?_
 refine sAl rfl fun b9 => ?_
 refine wAc (jT (wAb (wAa (sFL rfl rfl ?_))))
 refine lq (wCd rfl rfl rfl) ?_
 refine jp rfl (wAc (jT (wAb (wAb (wAa (sFL rfl rfl ?_))))))
 refine jf rfl (decide_eq_false (by first | omega | (rw [hkxx]; omega))) ?_
 refine jp rfl (jp rfl (jp rfl (jp rfl (wAc (jT (wAh rfl (wAd (jT (wAb (wAa (sLL rfl ?_)))))))))))
 refine sFL rfl rfl ?_
 refine sFL rfl rfl ?_
 refine lq (qEq (v' := .tuple #[.int .i64 (iv : Int), .int .i64 (j : Int), .int .i64 0]) (qCl (wAo f n hwf hn M hf w.1 w.2 na nc hW.sn hW.big)) (by rw [hw]; show Value.tuple #[.int .i64 (ixA w.1 (wAv f.vols)), .int .i64 (wDf f.abs w.1 g.id), _] = _; rw [eiv, hfx2])) ?_
 iterate 7 refine jp rfl ?_
 refine wAc (jT (wAb (wAb (wAa (jp rfl ?_)))))
 refine jf rfl (decide_eq_false (by first | omega | (rw [hkxx]; omega))) ?_
 refine wAc (jT (wAh rfl (wAd (jT (wAb (wAa (sFL rfl rfl ?_)))))))
 refine jp rfl (lq (wAp rfl rfl rfl rfl ev (by omega)) ?_)
 refine sFa rfl ?_
 refine lq (qLd rfl rfl rfl rfl ((hvx 3 _ rfl).cj _)) ?_
 refine jp rfl (lq (wAp rfl rfl rfl rfl efa (by omega)) ?_)
 refine lq (wFt (cs := gfC g) rfl rfl rfl rfl rfl (fun j u hu => (hfx j u hu).cj _)) ?_
 refine sAl rfl fun b14 => ?_
 refine sSt rfl ?_
 refine wAc (jT (wAb (wAa (jp rfl (wAc (jT (wAb (wAb (wAa (jp rfl ?_))))))))))
 refine jt rfl (decide_eq_true (by first | omega | (rw [hkxx]; omega))) ?_
 refine wAc (jT (wAf rfl (wCw [(0, true), (1, true), (2, true), (3, true), (4, true), (5, true), (6, true), (7, true), (8, true), (9, true), (10, true), (11, true), (12, true), (13, true)] _ (fun _ h => h) ?_)))
 refine dLL rfl rfl ?_
 refine dFa rfl rfl ?_
 refine dLd rfl rfl ?_
 refine dFa rfl rfl ?_
 refine dLd rfl rfl ?_
 refine dp rfl rfl ?_
 refine da rfl rfl (by first | omega | (rw [hkxx]; omega)) ?_
 refine dq rfl (qEq (v' := .slice na w.2.dropLast.length nc) (qSl rfl rfl rfl (.no _) (.of rfl (by have := hW.big; omega) rfl) (.no _) (by have := hW.cap; omega) (by simp)) (by rw [wCo, List.length_dropLast, show ((w.2.length : Int) - 1).toNat = w.2.length - 1 by omega]; rfl)) ?_
 refine dq rfl (qEq (v' := .tuple #[.int .i64 (iv : Int), .int .i64 (jd : Int), .int .i64 0]) (qCl (wAo f n hwf hn M hf w.1 w.2.dropLast na nc hW.sn.init (by rw [List.length_dropLast]; have := hW.big; omega))) (by rw [hwd]; show Value.tuple #[.int .i64 (ixA w.1 (wAv f.vols)), .int .i64 (wDf f.abs w.1 gd.id), _] = _; rw [eiv, hfxd])) ?_
 iterate 5 refine dp rfl rfl ?_
 refine wAs (jPn (jT (wAb (wAa (jp rfl (wAc (jT (wAb (wAb (wAa (sFL rfl rfl ?_)))))))))))
 refine wAc (jT (wAk (wAb (wAb (wAa ?_)))))
 refine jf rfl (decide_eq_false (by first | omega | (rw [hkxx]; omega))) ?_
 refine jp rfl (wAc (jT (wAh rfl (wAa ?_))))
 refine jt rfl (decide_eq_true (by first | omega | (rw [hkxx]; omega))) ?_
 refine jp rfl (wAc (jT (wAf rfl (wAb (wAa (sFa rfl ?_))))))
 refine lq (qEq (qLd rfl rfl rfl rfl (CJ.loc rfl)) (v' := .bool false) (by rw [hdir])) ?_
 refine wAc (jT (wAh rfl (wAd (jB (jT (wAb (wAb (wAa (sFL rfl rfl ?_)))))))))
 refine jf rfl (decide_eq_false (by first | omega | (rw [hkxx]; omega))) ?_
 refine jp rfl (sFL rfl rfl ?_)
 refine jf rfl (decide_eq_false (by first | omega | (rw [hkxx]; omega))) ?_
 refine jp rfl (wAc (jT (wAh rfl (wAd (jT (wAb (wAb (wCw [(0, true), (1, true), (2, true), (3, true), (4, true), (5, true), (6, true), (7, true), (8, true), (9, true), (10, true), (11, true), (12, true), (13, true), (14, true), (15, true), (16, true), (17, true), (18, true), (19, true), (20, true), (21, true), (22, true), (23, true), (24, true), (25, true), (26, true)] [(b14, .cells (gfC g).toArray 93 (0, 0)), (b5, .cells (wDa c ca ck).toArray 45 (0, 0)), (b4, .cells (gsC f).toArray 53 (0, 0))] (by simp) ?_))))))))
 refine dFa rfl rfl ?_
 refine dLd rfl rfl ?_
 refine df rfl rfl (decide_eq_false (by first | omega | (rw [hkxx]; omega))) ?_
 iterate 24 refine dp rfl rfl ?_
 refine wAs (jPn (jT (wAh rfl (wAd (jT (wAb (wAb (wAa (sFL rfl rfl ?_)))))))))
 refine jp rfl (lq (wAp rfl rfl rfl rfl ev (by omega)) ?_)
 refine sFa rfl ?_
 refine lq (qEq (qLd rfl rfl rfl rfl ((hvx 1 _ rfl).cj _)) (v' := .bool false) (by rw [hfz] at hz; rw [hz])) ?_
 refine wAc (jT (wAh rfl (wAd (jT (wAb (wAa (sLL rfl ?_)))))))
 refine wCe rfl rfl (hCl (wFd f M hf hsz1 hsz2)) ?_; rintro _ M2 _ ⟨hM2, _, rfl, ⟨vs, va2, vc2, Rv, rfl, hvs, hown, hall, rfl⟩⟩
 obtain ⟨hiv2, hpi, hpa⟩ := tw_at hvs hiv
 rw [hgv] at hpi hpa
 have hpl := wLq hpa
 refine wGg hiv2 hown hall (by omega) ?_
 intro M3 vb2 fb2 sp fsp hF
 obtain ⟨p, hp⟩ : ∃ p, (vs[iv]).1 = p := ⟨_, rfl⟩
 have hF2 := hF
 obtain ⟨hM3, hoth, hpfs, hva, hvc, hvlen, hvm, hpf, hpc, hplen, hpm⟩ := hF2
 subst hva
 rw [hp] at hpi hpa hpl hpfs hpf hpc hplen hpm ⊢
 have hvq : (vsF vs)[iv]? = some p := by rw [List.getElem?_map, List.getElem?_eq_getElem hiv2, Option.map_some, hp]
 have hvsl : (vsF vs).length = vs.length := List.length_map _
 have hnx : p.next = gv.next := congrArg PV.next hpa
 have hpz : p.frozen = gv.frozen := congrArg PV.frozen hpa
 have h2n : 2 ≤ gv.next := hwv.two
 have hmn : gv.next ≤ 2 + (n : Int) := hwv.most
 have hlenvs : vs.length = f.vols.length := by have := congrArg List.length hvs; simpa using this
 have hnd2 : (wBg (flsOf' p.files)).Nodup := by rw [show flsOf' p.files = flsOf' gv.files from congrArg PV.files hpa]; exact hnd
 have hfl2 : flsOf' p.files = gv.abs.files := congrArg PV.files hpa
 obtain ⟨hkd2, hkdid, hkdx⟩ := wKw hpa hjd
 rw [hgd] at hkdid hkdx
 obtain ⟨gd2, hkdg⟩ : ∃ z, p.files[jd] = z := ⟨_, rfl⟩
 rw [hkdg] at hkdid hkdx
 have hkdq : p.files[jd]? = some gd2 := by rw [List.getElem?_eq_getElem hkd2, hkdg]
 have hkdo : gd2.Ok M3 := hkdg ▸ hpfs _ (List.getElem_mem hkd2)
 have hkd32 : gd2.ns.length ≤ 32 := by rw [wCk hkdo, hkdx]; exact (hwv.wf.len _ _ hxd).2
 obtain ⟨hkx2, hkxid, hkxx⟩ := wKw hpa hj
 rw [hg] at hkxid hkxx
 obtain ⟨g2, hkxg⟩ : ∃ z, p.files[j] = z := ⟨_, rfl⟩
 rw [hkxg] at hkxid hkxx
 have hkxq : p.files[j]? = some g2 := by rw [List.getElem?_eq_getElem hkx2, hkxg]
 have hkxo : g2.Ok M3 := hkxg ▸ hpfs _ (List.getElem_mem hkx2)
 have hkx32 : g2.ns.length ≤ 32 := by rw [wCk hkxo, hkxx]; exact (hwv.wf.len _ _ hgx).2
 refine sAl rfl fun b18 => ?_
 refine sSt rfl ?_
 refine wAc (jT (wAb (wAa (sFL rfl rfl ?_))))
 refine jp rfl (lq (wAp rfl rfl rfl rfl rfl (by omega)) ?_)
 refine sFa rfl ?_
 refine lq (qLd rfl rfl rfl rfl (wCx wBy hvq 3 _ rfl)) ?_
 refine jp rfl (wAc (jT (wAb (wAb (wAa (sFL rfl rfl ?_))))))
 refine jt rfl (decide_eq_true (by first | omega | (rw [hkxx]; omega))) ?_
 refine wAc (jT (wAf rfl (wBn (p := { A := fun i => !([16].contains i), U := fun i => !([16].contains i) }) [(0, true), (1, true), (2, true), (3, true), (4, true), (5, true), (6, true), (7, true), (8, true), (9, true), (10, true), (11, true), (12, true), (13, false), (14, true), (15, true), (16, false)] M3 ([(fb2, .cells ((p.files).flatMap gfC ++ fsp).toArray 93 (0, 0)), (b6, .cells [.int .i64 w.1, .slice na w.2.length nc].toArray 65 (0, 0))]) ([]) (by kernel_rfl) (by kernel_rfl) (by kernel_rfl) (by kernel_rfl) rfl (by simp) (MLe.refl _) (by simp) ?_)))
 iterate 4 refine dp rfl rfl ?_
 refine dq rfl (wAp rfl rfl rfl rfl hpf (show (0 : Int) ≤ (jd : Int) ∧ (jd : Int) < ((p.files.length : Nat) : Int) from ⟨by omega, by omega⟩)) ?_
 refine dFa rfl rfl ?_
 refine dq rfl (qLd rfl rfl rfl rfl (wCx wBa hkdq 4 _ rfl)) ?_
 refine dFa rfl rfl ?_
 refine dLd rfl rfl ?_
 refine dp rfl rfl ?_
 refine da rfl rfl (by first | omega | (rw [hkxx]; omega)) ?_
 refine dq rfl (wAp rfl rfl rfl rfl en (by omega)) ?_
 refine dq rfl (qLd rfl rfl rfl rfl (((hnx0.mono hM2).mono hM3).cj _)) ?_
 refine wJf rfl rfl rfl (hCl (wJt gd2.ns gd2.na gd2.nc M3 hkdo.na (by omega) (wAi w))) ?_; rintro _ M7 _ ⟨hM7, _, rfl, ⟨a7, c7, rfl, hc7, hs7, rfl⟩⟩
 refine ⟨_, _, MLe.refl _, hM7, fun _ h => h, by simp, ?_⟩
 refine dq rfl (wAp rfl rfl rfl rfl hpf (show (0 : Int) ≤ (jd : Int) ∧ (jd : Int) < ((p.files.length : Nat) : Int) from ⟨by omega, by omega⟩)) ?_
 refine dFa rfl rfl ?_
 refine wJu rfl rfl (wBw (l2 := (p.files.set jd ({ gd2 with x := { gd2.x with names := wBc (wAi w) gd2.x.names }, ns := wBc (wAi w) gd2.ns, na := a7, nc := c7 } : GF)).flatMap gfC ++ fsp) rfl rfl rfl rfl rfl rfl rfl (wDj wBa hkdq (Nat.le_of_ble_eq_true rfl)) (wDi wBa hkdq (Nat.le_of_ble_eq_true rfl) rfl)) ?_; rintro _ _ _ ⟨rfl, rfl⟩
 refine ⟨(by first | exact MLe.refl _ | exact hM7), by simp, ?_⟩
 refine wCu ?_
 refine jPn (jT (wAb (wAb (wAa (sFL rfl rfl ?_)))))
 refine wAc (jT (wAk (wAb (wAa ?_))))
 refine jf rfl (decide_eq_false (by first | omega | (rw [hkxx]; omega))) ?_
 refine jp rfl (wAc (jT (wAh rfl (wAb (wAa ?_)))))
 refine jf rfl (decide_eq_false (by first | omega | (rw [hkxx]; omega))) ?_
 refine jp rfl (wAc (jT (wAh rfl (wAb (wAa ?_)))))
 refine jt rfl (decide_eq_true (by first | omega | (rw [hkxx]; omega))) ?_
 refine jp rfl (wAc (jT (wAf rfl (wAb (wAa (jp rfl (jp rfl ?_)))))))
 refine lq (wAp rfl rfl rfl rfl hpf (show (0 : Int) ≤ (j : Int) ∧ (j : Int) < ((p.files.length : Nat) : Int) from ⟨by omega, by omega⟩)) ?_
 refine sFa rfl ?_
 have hxq1 : (p.files.set jd ({ gd2 with x := { gd2.x with names := wBc (wAi w) gd2.x.names }, ns := wBc (wAi w) gd2.ns, na := a7, nc := c7 } : GF))[j]? = some g2 := wJk hjne hkxq
 have hrg : 0 ≤ g2.x.links ∧ g2.x.links ≤ 1 + (n : Int) := by rw [hkxx]; exact (hwv.rng _ _ hgx).2.2
 refine lq (qLd rfl rfl rfl rfl (wCx wBa hxq1 2 _ rfl)) ?_
 refine ja rfl (by first | omega | (rw [hkxx]; omega)) ?_
 refine lq (wAp rfl rfl rfl rfl hpf (show (0 : Int) ≤ (j : Int) ∧ (j : Int) < ((p.files.length : Nat) : Int) from ⟨by omega, by omega⟩)) ?_
 refine sFa rfl ?_
 refine jl_s rfl (wBw (l2 := ((p.files.set jd ({ gd2 with x := { gd2.x with names := wBc (wAi w) gd2.x.names }, ns := wBc (wAi w) gd2.ns, na := a7, nc := c7 } : GF)).set j ({ g2 with x := { g2.x with links := g2.x.links - 1 } } : GF)).flatMap gfC ++ fsp) rfl rfl rfl rfl rfl rfl rfl (wDj wBa hxq1 (Nat.le_of_ble_eq_true rfl)) (wDi wBa hxq1 (Nat.le_of_ble_eq_true rfl) rfl)) ?_; rintro _ _ _ ⟨rfl, rfl⟩
 refine wAc (jT (wAb (wAa (jp rfl (jp rfl ?_)))))
 refine lq (wAp rfl rfl rfl rfl hpf (show (0 : Int) ≤ (j : Int) ∧ (j : Int) < ((p.files.length : Nat) : Int) from ⟨by omega, by omega⟩)) ?_
 refine sFa rfl ?_
 have hl9 : g2.x.links ≠ 1 := by rw [hkxx]; exact hlk
 have hxq2 : ((p.files.set jd ({ gd2 with x := { gd2.x with names := wBc (wAi w) gd2.x.names }, ns := wBc (wAi w) gd2.ns, na := a7, nc := c7 } : GF)).set j ({ g2 with x := { g2.x with links := g2.x.links - 1 } } : GF))[j]? = some ({ g2 with x := { g2.x with links := g2.x.links - 1 } } : GF) := set_q hxq1
 refine lq (qEq (v' := .int .i64 (g2.x.links - 1)) (qLd rfl rfl rfl rfl (wCx wBa hxq2 2 _ rfl)) rfl) ?_
 refine jf rfl (decide_eq_false (by first | omega | (rw [hkxx]; omega))) ?_
 refine wAc (jT (wAh rfl (wAd (jB (jT (wAb (wAa (sLL rfl ?_))))))))
 refine lq (wBe (cs := [_, _, _, _, _, _, _, _]) rfl rfl rfl (by rfl)) ?_
 refine sSt rfl ?_
 refine sSt rfl ?_
 refine wAc (jT (wAg (wCt fb2 (by simp) ?_)))
 intro M9 hM9 e9
 refine wCt vb2 (by simp) ?_
 intro M10 hM10 e10
 refine wEj (rs := [_, _]) rfl (.cons (.agg rfl rfl rfl) (.cons (.agg rfl rfl rfl) .nil)) ?_
 have hF1 : flsOf' (p.files.set jd ({ gd2 with x := { gd2.x with names := wBc (wAi w) gd2.x.names }, ns := wBc (wAi w) gd2.ns, na := a7, nc := c7 } : GF)) = wCg gv.abs.files gd.id (wAi w) := by rw [wGv (g' := ({ gd2 with x := { gd2.x with names := wBc (wAi w) gd2.x.names }, ns := wBc (wAi w) gd2.ns, na := a7, nc := c7 } : GF)) hnd2 hkdq rfl (fun x => { x with names := wBc (wAi w) x.names }) rfl, hfl2, hkdid]; rfl
 have hnd3 : (wBg (flsOf' (p.files.set jd ({ gd2 with x := { gd2.x with names := wBc (wAi w) gd2.x.names }, ns := wBc (wAi w) gd2.ns, na := a7, nc := c7 } : GF)))).Nodup := by rw [hF1]; unfold wCg; rw [wGf]; exact hnd
 have hF2 : flsOf' ((p.files.set jd ({ gd2 with x := { gd2.x with names := wBc (wAi w) gd2.x.names }, ns := wBc (wAi w) gd2.ns, na := a7, nc := c7 } : GF)).set j ({ g2 with x := { g2.x with links := g2.x.links - 1 } } : GF)) = lnk (wCg gv.abs.files gd.id (wAi w)) g.id (-1) := by rw [wGv (g' := ({ g2 with x := { g2.x with links := g2.x.links - 1 } } : GF)) hnd3 hxq1 rfl (fun x => { x with links := x.links + (-1) }) rfl, hF1, hkxid]; rfl
 have hla : wGt (wCg gv.abs.files gd.id (wAi w)) g.id = g2.x.links := by
  obtain ⟨hj9, e9⟩ := List.getElem?_eq_some_iff.1 hxq1
  have := (wGw hnd3 hj9).1
  rw [e9, hF1, hkxid] at this
  unfold wGt; rw [this]
 have hM := (hM7.trans hM9).trans hM10
 rw [← wHh hvq (v2 := ({ p with files := ((p.files.set jd ({ gd2 with x := { gd2.x with names := wBc (wAi w) gd2.x.names }, ns := wBc (wAi w) gd2.ns, na := a7, nc := c7 } : GF)).set j ({ g2 with x := { g2.x with links := g2.x.links - 1 } } : GF)) } : GV)) (by show [_, _, _, Value.slice _ (((p.files.set jd ({ gd2 with x := { gd2.x with names := wBc (wAi w) gd2.x.names }, ns := wBc (wAi w) gd2.ns, na := a7, nc := c7 } : GF)).set j ({ g2 with x := { g2.x with links := g2.x.links - 1 } } : GF))).length _] = _; rw [List.length_set, List.length_set])] at e10
 refine RDoP.vol hwf hvs hiv2 (by rw [hp, hpi, hid]) (v2 := ({ p with files := ((p.files.set jd ({ gd2 with x := { gd2.x with names := wBc (wAi w) gd2.x.names }, ns := wBc (wAi w) gd2.ns, na := a7, nc := c7 } : GF)).set j ({ g2 with x := { g2.x with links := g2.x.links - 1 } } : GF)) } : GV)) (by rw [hpi, hid]) e10 hvc (fun i hi hne => (hoth i hi hne).mono hM) ⟨?_, ?_, ?_⟩ (rp := {}) ?_ rfl rfl
 ·show SM M10 p.fa (((p.files.set jd ({ gd2 with x := { gd2.x with names := wBc (wAi w) gd2.x.names }, ns := wBc (wAi w) gd2.ns, na := a7, nc := c7 } : GF)).set j ({ g2 with x := { g2.x with links := g2.x.links - 1 } } : GF)).flatMap gfC); rw [hpf]; exact (sm_of e9).mono hM10
 ·show (((p.files.set jd ({ gd2 with x := { gd2.x with names := wBc (wAi w) gd2.x.names }, ns := wBc (wAi w) gd2.ns, na := a7, nc := c7 } : GF)).set j ({ g2 with x := { g2.x with links := g2.x.links - 1 } } : GF))).length ≤ p.fc; rw [List.length_set, List.length_set]; exact hpc
 ·exact wFh (wFh (fun q hq => (hpfs q hq).mono hM) ((wKs hkdo hM7 hc7 hs7).mono (hM9.trans hM10))) ((links_ok hkxo _).mono hM)
 rw [unlink_abs hfs hz hplc hv]
 refine Prod.ext ?_ rfl
 have e3 : GV.abs ({ p with files := ((p.files.set jd ({ gd2 with x := { gd2.x with names := wBc (wAi w) gd2.x.names }, ns := wBc (wAi w) gd2.ns, na := a7, nc := c7 } : GF)).set j ({ g2 with x := { g2.x with links := g2.x.links - 1 } } : GF)) } : GV) = { gv.abs with files := wFy (wCg gv.abs.files gd.id (wAi w)) g.id } := by
  show ({ frozen := p.frozen, next := p.next, files := flsOf' ((p.files.set jd ({ gd2 with x := { gd2.x with names := wBc (wAi w) gd2.x.names }, ns := wBc (wAi w) gd2.ns, na := a7, nc := c7 } : GF)).set j ({ g2 with x := { g2.x with links := g2.x.links - 1 } } : GF)) } : PV) = _
  unfold wFy; rw [hF2, hla, if_neg (by rw [hkxx]; omega), hpz, hnx]; rfl
 exact congrArg (fun z : PV => ({ f.abs with vols := wBq w.1 z f.abs.vols } : PS)) e3.symm
set_option maxHeartbeats 4000000 in
set_option maxRecDepth 4000 in
theorem ul_gone (f : GS) (n : Nat) (hwf : WFS n f.abs) (hn : n ≤ 100) (M : Mem) (hf : f.Ok M) (c : CL) (ca : Option Addr) (ck : Nat) (hC : CallOk M c ca ck) (h0 : 0 ≤ c.kind ∧ c.kind ≤ 255) (w : Wy) (na : Option Addr) (nc : Nat) (hW : WyOk M w na nc) (o : Wy) (oa : Option Addr) (oc : Nat) (hO : WyOk M o oa oc) (id : Int) (v : PV) (x : PF) (hw : wBb f.abs w.1 w.2 = .ok id) (hv : wAm w.1 f.abs.vols = some v) (hx : wAm id v.files = some x) (hne : w.2 ≠ []) (hk : c.kind = 13) (hdir : x.dir = false) (hfs : wCh f.abs w = .ok id) (hz : wAr f.abs w.1 = false) (hlk : x.links = 1) :
  SpecL Tryz.prog 29 #[gsV f, clV c ca ck, wyV w na nc, wyV o oa oc] M [] (RDoP (wDo f.abs w)) := by
 have hl0 : 0 < w.2.length := List.length_pos_iff.2 hne
 have hbig := hW.big
 obtain ⟨pd, v9, xd, hwd, hplc, hv9, hxd, hxdd, hxdn⟩ := wCb hwf hne hw
 rw [hv] at hv9; cases hv9
 have hvl := wBh hwf
 obtain ⟨iv, hiv, gv, j, hj, g, vb, vo, fb, fo, rfl, rfl, rfl, eiv, hgv, hid, hwv, hfl, hgo, hnd, ev, hvx, efa, hg, hfx, hgi, hgk, hgx, hnn, hn32, hnsl, hfx2⟩ := opw hwf hf hv hx
 obtain ⟨jd, hjd, ejd, hjid, hjxd⟩ := GV.file hxd
 obtain ⟨gd, hgd⟩ : ∃ gd, gv.files[jd] = gd := ⟨_, rfl⟩
 rw [hgd] at hjid hjxd
 subst hjxd
 subst hjid
 have hfxd : wDf f.abs w.1 gd.id = (jd : Int) := by rw [wCp hv]; exact ejd
 have hfz : wAr f.abs w.1 = gv.frozen := by unfold wAr; rw [hv]; rfl
 obtain ⟨nb, no, en, hnx0⟩ := wFs hW.sn (i := w.2.length - 1) (by omega)
 have hlast : w.2[w.2.length - 1] = wAi w := by unfold wAi; rw [List.getLast?_eq_getElem?, List.getElem?_eq_getElem (by omega)]; rfl
 rw [hlast, show ((w.2.length - 1 : Nat) : Int) = (w.2.length : Int) - 1 by omega] at hnx0
 obtain ⟨hsz1, hsz2⟩ := wCy hwf hf hn
 have hdx : gd.x.dir = true := hxdd
 have hjne : jd ≠ j := fun e => by subst e; rw [hgd] at hg; subst hg; rw [hdir] at hdx; cases hdx
 refine wAe (vs := [_, _, _, _]) 279 _ Tryz.func29 rfl Tryz.ntmps29 rfl rfl ?_; intro W
 refine wAb (wAa (sBx [_, _] rfl fun b4 => ?_))
 refine sBx [_, _, _, _, _, _, _] rfl fun b5 => ?_
 refine sBx [_, _] rfl fun b6 => ?_
 refine sBx [_, _] rfl fun b7 => ?_
 refine sAl rfl fun b8 => ?_
 refine sAl rfl fun b9 => ?_
 refine wAc (jT (wAb (wAa (sFL rfl rfl ?_))))
 refine lq (wCd rfl rfl rfl) ?_
 refine jp rfl (wAc (jT (wAb (wAb (wAa (sFL rfl rfl ?_))))))
 refine jf rfl (decide_eq_false (by first | omega | (rw [hkxx]; omega))) ?_
 refine jp rfl (jp rfl (jp rfl (jp rfl (wAc (jT (wAh rfl (wAd (jT (wAb (wAa (sLL rfl ?_)))))))))))
 refine sFL rfl rfl ?_
 refine sFL rfl rfl ?_
 refine lq (qEq (v' := .tuple #[.int .i64 (iv : Int), .int .i64 (j : Int), .int .i64 0]) (qCl (wAo f n hwf hn M hf w.1 w.2 na nc hW.sn hW.big)) (by rw [hw]; show Value.tuple #[.int .i64 (ixA w.1 (wAv f.vols)), .int .i64 (wDf f.abs w.1 g.id), _] = _; rw [eiv, hfx2])) ?_
 iterate 7 refine jp rfl ?_
 refine wAc (jT (wAb (wAb (wAa (jp rfl ?_)))))
 refine jf rfl (decide_eq_false (by first | omega | (rw [hkxx]; omega))) ?_
 refine wAc (jT (wAh rfl (wAd (jT (wAb (wAa (sFL rfl rfl ?_)))))))
 refine jp rfl (lq (wAp rfl rfl rfl rfl ev (by omega)) ?_)
 refine sFa rfl ?_
 refine lq (qLd rfl rfl rfl rfl ((hvx 3 _ rfl).cj _)) ?_
 refine jp rfl (lq (wAp rfl rfl rfl rfl efa (by omega)) ?_)
 refine lq (wFt (cs := gfC g) rfl rfl rfl rfl rfl (fun j u hu => (hfx j u hu).cj _)) ?_
 refine sAl rfl fun b14 => ?_
 refine sSt rfl ?_
 refine wAc (jT (wAb (wAa (jp rfl (wAc (jT (wAb (wAb (wAa (jp rfl ?_))))))))))
 refine jt rfl (decide_eq_true (by first | omega | (rw [hkxx]; omega))) ?_
 refine wAc (jT (wAf rfl (wCw [(0, true), (1, true), (2, true), (3, true), (4, true), (5, true), (6, true), (7, true), (8, true), (9, true), (10, true), (11, true), (12, true), (13, true)] _ (fun _ h => h) ?_)))
 refine dLL rfl rfl ?_
 refine dFa rfl rfl ?_
 refine dLd rfl rfl ?_
 refine dFa rfl rfl ?_
 refine dLd rfl rfl ?_
 refine dp rfl rfl ?_
 refine da rfl rfl (by first | omega | (rw [hkxx]; omega)) ?_
 refine dq rfl (qEq (v' := .slice na w.2.dropLast.length nc) (qSl rfl rfl rfl (.no _) (.of rfl (by have := hW.big; omega) rfl) (.no _) (by have := hW.cap; omega) (by simp)) (by rw [wCo, List.length_dropLast, show ((w.2.length : Int) - 1).toNat = w.2.length - 1 by omega]; rfl)) ?_
 refine dq rfl (qEq (v' := .tuple #[.int .i64 (iv : Int), .int .i64 (jd : Int), .int .i64 0]) (qCl (wAo f n hwf hn M hf w.1 w.2.dropLast na nc hW.sn.init (by rw [List.length_dropLast]; have := hW.big; omega))) (by rw [hwd]; show Value.tuple #[.int .i64 (ixA w.1 (wAv f.vols)), .int .i64 (wDf f.abs w.1 gd.id), _] = _; rw [eiv, hfxd])) ?_
 iterate 5 refine dp rfl rfl ?_
 refine wAs (jPn (jT (wAb (wAa (jp rfl (wAc (jT (wAb (wAb (wAa (sFL rfl rfl ?_)))))))))))
 refine wAc (jT (wAk (wAb (wAb (wAa ?_)))))
 refine jf rfl (decide_eq_false (by first | omega | (rw [hkxx]; omega))) ?_
 refine jp rfl (wAc (jT (wAh rfl (wAa ?_))))
 refine jt rfl (decide_eq_true (by first | omega | (rw [hkxx]; omega))) ?_
 refine jp rfl (wAc (jT (wAf rfl (wAb (wAa (sFa rfl ?_))))))
 refine lq (qEq (qLd rfl rfl rfl rfl (CJ.loc rfl)) (v' := .bool false) (by rw [hdir])) ?_
 refine wAc (jT (wAh rfl (wAd (jB (jT (wAb (wAb (wAa (sFL rfl rfl ?_)))))))))
 refine jf rfl (decide_eq_false (by first | omega | (rw [hkxx]; omega))) ?_
 refine jp rfl (sFL rfl rfl ?_)
 refine jf rfl (decide_eq_false (by first | omega | (rw [hkxx]; omega))) ?_
 refine jp rfl (wAc (jT (wAh rfl (wAd (jT (wAb (wAb (wCw [(0, true), (1, true), (2, true), (3, true), (4, true), (5, true), (6, true), (7, true), (8, true), (9, true), (10, true), (11, true), (12, true), (13, true), (14, true), (15, true), (16, true), (17, true), (18, true), (19, true), (20, true), (21, true), (22, true), (23, true), (24, true), (25, true), (26, true)] [(b14, .cells (gfC g).toArray 93 (0, 0)), (b5, .cells (wDa c ca ck).toArray 45 (0, 0)), (b4, .cells (gsC f).toArray 53 (0, 0))] (by simp) ?_))))))))
 refine dFa rfl rfl ?_
 refine dLd rfl rfl ?_
 refine df rfl rfl (decide_eq_false (by first | omega | (rw [hkxx]; omega))) ?_
 iterate 24 refine dp rfl rfl ?_
 refine wAs (jPn (jT (wAh rfl (wAd (jT (wAb (wAb (wAa (sFL rfl rfl ?_)))))))))
 refine jp rfl (lq (wAp rfl rfl rfl rfl ev (by omega)) ?_)
 refine sFa rfl ?_
 refine lq (qEq (qLd rfl rfl rfl rfl ((hvx 1 _ rfl).cj _)) (v' := .bool false) (by rw [hfz] at hz; rw [hz])) ?_
 refine wAc (jT (wAh rfl (wAd (jT (wAb (wAa (sLL rfl ?_)))))))
 refine wCe rfl rfl (hCl (wFd f M hf hsz1 hsz2)) ?_; rintro _ M2 _ ⟨hM2, _, rfl, ⟨vs, va2, vc2, Rv, rfl, hvs, hown, hall, rfl⟩⟩
 obtain ⟨hiv2, hpi, hpa⟩ := tw_at hvs hiv
 rw [hgv] at hpi hpa
 have hpl := wLq hpa
 refine wGg hiv2 hown hall (by omega) ?_
 intro M3 vb2 fb2 sp fsp hF
 obtain ⟨p, hp⟩ : ∃ p, (vs[iv]).1 = p := ⟨_, rfl⟩
 have hF2 := hF
 obtain ⟨hM3, hoth, hpfs, hva, hvc, hvlen, hvm, hpf, hpc, hplen, hpm⟩ := hF2
 subst hva
 rw [hp] at hpi hpa hpl hpfs hpf hpc hplen hpm ⊢
 have hvq : (vsF vs)[iv]? = some p := by rw [List.getElem?_map, List.getElem?_eq_getElem hiv2, Option.map_some, hp]
 have hvsl : (vsF vs).length = vs.length := List.length_map _
 have hnx : p.next = gv.next := congrArg PV.next hpa
 have hpz : p.frozen = gv.frozen := congrArg PV.frozen hpa
 have h2n : 2 ≤ gv.next := hwv.two
 have hmn : gv.next ≤ 2 + (n : Int) := hwv.most
 have hlenvs : vs.length = f.vols.length := by have := congrArg List.length hvs; simpa using this
 have hnd2 : (wBg (flsOf' p.files)).Nodup := by rw [show flsOf' p.files = flsOf' gv.files from congrArg PV.files hpa]; exact hnd
 have hfl2 : flsOf' p.files = gv.abs.files := congrArg PV.files hpa
 obtain ⟨hkd2, hkdid, hkdx⟩ := wKw hpa hjd
 rw [hgd] at hkdid hkdx
 obtain ⟨gd2, hkdg⟩ : ∃ z, p.files[jd] = z := ⟨_, rfl⟩
 rw [hkdg] at hkdid hkdx
 have hkdq : p.files[jd]? = some gd2 := by rw [List.getElem?_eq_getElem hkd2, hkdg]
 have hkdo : gd2.Ok M3 := hkdg ▸ hpfs _ (List.getElem_mem hkd2)
 have hkd32 : gd2.ns.length ≤ 32 := by rw [wCk hkdo, hkdx]; exact (hwv.wf.len _ _ hxd).2
 obtain ⟨hkx2, hkxid, hkxx⟩ := wKw hpa hj
 rw [hg] at hkxid hkxx
 obtain ⟨g2, hkxg⟩ : ∃ z, p.files[j] = z := ⟨_, rfl⟩
 rw [hkxg] at hkxid hkxx
 have hkxq : p.files[j]? = some g2 := by rw [List.getElem?_eq_getElem hkx2, hkxg]
 have hkxo : g2.Ok M3 := hkxg ▸ hpfs _ (List.getElem_mem hkx2)
 have hkx32 : g2.ns.length ≤ 32 := by rw [wCk hkxo, hkxx]; exact (hwv.wf.len _ _ hgx).2
 refine sAl rfl fun b18 => ?_
 refine sSt rfl ?_
 refine wAc (jT (wAb (wAa (sFL rfl rfl ?_))))
 refine jp rfl (lq (wAp rfl rfl rfl rfl rfl (by omega)) ?_)
 refine sFa rfl ?_
 refine lq (qLd rfl rfl rfl rfl (wCx wBy hvq 3 _ rfl)) ?_
 refine jp rfl (wAc (jT (wAb (wAb (wAa (sFL rfl rfl ?_))))))
 refine jt rfl (decide_eq_true (by first | omega | (rw [hkxx]; omega))) ?_
 refine wAc (jT (wAf rfl (wBn (p := { A := fun i => !([16].contains i), U := fun i => !([16].contains i) }) [(0, true), (1, true), (2, true), (3, true), (4, true), (5, true), (6, true), (7, true), (8, true), (9, true), (10, true), (11, true), (12, true), (13, false), (14, true), (15, true), (16, false)] M3 ([(fb2, .cells ((p.files).flatMap gfC ++ fsp).toArray 93 (0, 0)), (b6, .cells [.int .i64 w.1, .slice na w.2.length nc].toArray 65 (0, 0))]) ([]) (by kernel_rfl) (by kernel_rfl) (by kernel_rfl) (by kernel_rfl) rfl (by simp) (MLe.refl _) (by simp) ?_)))
 iterate 4 refine dp rfl rfl ?_
 refine dq rfl (wAp rfl rfl rfl rfl hpf (show (0 : Int) ≤ (jd : Int) ∧ (jd : Int) < ((p.files.length : Nat) : Int) from ⟨by omega, by omega⟩)) ?_
 refine dFa rfl rfl ?_
 refine dq rfl (qLd rfl rfl rfl rfl (wCx wBa hkdq 4 _ rfl)) ?_
 refine dFa rfl rfl ?_
 refine dLd rfl rfl ?_
 refine dp rfl rfl ?_
 refine da rfl rfl (by first | omega | (rw [hkxx]; omega)) ?_
 refine dq rfl (wAp rfl rfl rfl rfl en (by omega)) ?_
 refine dq rfl (qLd rfl rfl rfl rfl (((hnx0.mono hM2).mono hM3).cj _)) ?_
 refine wJf rfl rfl rfl (hCl (wJt gd2.ns gd2.na gd2.nc M3 hkdo.na (by omega) (wAi w))) ?_; rintro _ M7 _ ⟨hM7, _, rfl, ⟨a7, c7, rfl, hc7, hs7, rfl⟩⟩
 refine ⟨_, _, MLe.refl _, hM7, fun _ h => h, by simp, ?_⟩
 refine dq rfl (wAp rfl rfl rfl rfl hpf (show (0 : Int) ≤ (jd : Int) ∧ (jd : Int) < ((p.files.length : Nat) : Int) from ⟨by omega, by omega⟩)) ?_
 refine dFa rfl rfl ?_
 refine wJu rfl rfl (wBw (l2 := (p.files.set jd ({ gd2 with x := { gd2.x with names := wBc (wAi w) gd2.x.names }, ns := wBc (wAi w) gd2.ns, na := a7, nc := c7 } : GF)).flatMap gfC ++ fsp) rfl rfl rfl rfl rfl rfl rfl (wDj wBa hkdq (Nat.le_of_ble_eq_true rfl)) (wDi wBa hkdq (Nat.le_of_ble_eq_true rfl) rfl)) ?_; rintro _ _ _ ⟨rfl, rfl⟩
 refine ⟨(by first | exact MLe.refl _ | exact hM7 | exact hM8), by simp, ?_⟩
 refine wCu ?_
 refine jPn (jT (wAb (wAb (wAa (sFL rfl rfl ?_)))))
 refine wAc (jT (wAk (wAb (wAa ?_))))
 refine jf rfl (decide_eq_false (by first | omega | (rw [hkxx]; omega))) ?_
 refine jp rfl (wAc (jT (wAh rfl (wAb (wAa ?_)))))
 refine jf rfl (decide_eq_false (by first | omega | (rw [hkxx]; omega))) ?_
 refine jp rfl (wAc (jT (wAh rfl (wAb (wAa ?_)))))
 refine jt rfl (decide_eq_true (by first | omega | (rw [hkxx]; omega))) ?_
 refine jp rfl (wAc (jT (wAf rfl (wAb (wAa (jp rfl (jp rfl ?_)))))))
 refine lq (wAp rfl rfl rfl rfl hpf (show (0 : Int) ≤ (j : Int) ∧ (j : Int) < ((p.files.length : Nat) : Int) from ⟨by omega, by omega⟩)) ?_
 refine sFa rfl ?_
 have hxq1 : (p.files.set jd ({ gd2 with x := { gd2.x with names := wBc (wAi w) gd2.x.names }, ns := wBc (wAi w) gd2.ns, na := a7, nc := c7 } : GF))[j]? = some g2 := wJk hjne hkxq
 have hrg : 0 ≤ g2.x.links ∧ g2.x.links ≤ 1 + (n : Int) := by rw [hkxx]; exact (hwv.rng _ _ hgx).2.2
 refine lq (qLd rfl rfl rfl rfl (wCx wBa hxq1 2 _ rfl)) ?_
 refine ja rfl (by first | omega | (rw [hkxx]; omega)) ?_
 refine lq (wAp rfl rfl rfl rfl hpf (show (0 : Int) ≤ (j : Int) ∧ (j : Int) < ((p.files.length : Nat) : Int) from ⟨by omega, by omega⟩)) ?_
 refine sFa rfl ?_
 refine jl_s rfl (wBw (l2 := ((p.files.set jd ({ gd2 with x := { gd2.x with names := wBc (wAi w) gd2.x.names }, ns := wBc (wAi w) gd2.ns, na := a7, nc := c7 } : GF)).set j ({ g2 with x := { g2.x with links := g2.x.links - 1 } } : GF)).flatMap gfC ++ fsp) rfl rfl rfl rfl rfl rfl rfl (wDj wBa hxq1 (Nat.le_of_ble_eq_true rfl)) (wDi wBa hxq1 (Nat.le_of_ble_eq_true rfl) rfl)) ?_; rintro _ _ _ ⟨rfl, rfl⟩
 refine wAc (jT (wAb (wAa (jp rfl (jp rfl ?_)))))
 refine lq (wAp rfl rfl rfl rfl hpf (show (0 : Int) ≤ (j : Int) ∧ (j : Int) < ((p.files.length : Nat) : Int) from ⟨by omega, by omega⟩)) ?_
 refine sFa rfl ?_
 have hl9 : g2.x.links = 1 := by rw [hkxx]; exact hlk
 have hxq2 : ((p.files.set jd ({ gd2 with x := { gd2.x with names := wBc (wAi w) gd2.x.names }, ns := wBc (wAi w) gd2.ns, na := a7, nc := c7 } : GF)).set j ({ g2 with x := { g2.x with links := g2.x.links - 1 } } : GF))[j]? = some ({ g2 with x := { g2.x with links := g2.x.links - 1 } } : GF) := set_q hxq1
 refine lq (qEq (v' := .int .i64 (g2.x.links - 1)) (qLd rfl rfl rfl rfl (wCx wBa hxq2 2 _ rfl)) rfl) ?_
 refine jt rfl (decide_eq_true (by first | omega | (rw [hkxx]; omega))) ?_
 refine wAc (jT (wAf rfl (wBn (p := { A := fun i => !([9].contains i), U := fun i => !([9].contains i) }) [(0, true), (1, true), (2, true), (3, true), (4, true), (5, true), (6, false), (7, true), (8, true), (9, false)] M7 ([(fb2, .cells ((((p.files.set jd ({ gd2 with x := { gd2.x with names := wBc (wAi w) gd2.x.names }, ns := wBc (wAi w) gd2.ns, na := a7, nc := c7 } : GF)).set j ({ g2 with x := { g2.x with links := g2.x.links - 1 } } : GF))).flatMap gfC ++ fsp).toArray 93 (0, 0)), (b18, .cells [.int .i64 f.made, .slice (some ⟨vb2, 0, none⟩) vs.length vc2].toArray 53 (0, 0)), (b14, .cells (gfC g).toArray 93 (0, 0))]) ([]) (by kernel_rfl) (by kernel_rfl) (by kernel_rfl) (by kernel_rfl) rfl (by simp) (MLe.refl _) (by simp) ?_)))
 refine dFa rfl rfl ?_
 refine dLd rfl rfl ?_
 iterate 2 refine dp rfl rfl ?_
 refine dFa rfl rfl ?_
 refine dLd rfl rfl ?_
 refine wJf rfl rfl rfl (wKh rfl rfl rfl rfl rfl (by kernel_rfl) (by have := without_spec ((p.files.set jd ({ gd2 with x := { gd2.x with names := wBc (wAi w) gd2.x.names }, ns := wBc (wAi w) gd2.ns, na := a7, nc := c7 } : GF)).set j ({ g2 with x := { g2.x with links := g2.x.links - 1 } } : GF)) fb2 p.fc fsp M7 (by rw [List.length_set, List.length_set]; omega) g.id; rw [List.length_set, List.length_set, ← hpf] at this; exact this)) ?_; rintro _ M8 _ ⟨hM8, _, rfl, ⟨a9, c9, rfl, hc9, hs9, rfl⟩⟩
 refine ⟨_, _, MLe.refl _, hM8, fun _ h => h, by simp, ?_⟩
 refine dq rfl (wAp rfl rfl rfl rfl rfl (by omega)) ?_
 refine dFa rfl rfl ?_
 refine wJu rfl rfl (wBw (l2 := ((vsF vs).set iv ({ p with files := wCs ((p.files.set jd ({ gd2 with x := { gd2.x with names := wBc (wAi w) gd2.x.names }, ns := wBc (wAi w) gd2.ns, na := a7, nc := c7 } : GF)).set j ({ g2 with x := { g2.x with links := g2.x.links - 1 } } : GF)) g.id, fa := a9, fc := c9 } : GV)).flatMap gvC ++ sp) rfl rfl rfl rfl rfl rfl rfl (wDj wBy hvq (Nat.le_of_ble_eq_true rfl)) (wDi wBy hvq (Nat.le_of_ble_eq_true rfl) rfl)) ?_; rintro _ _ _ ⟨rfl, rfl⟩
 refine ⟨(by first | exact MLe.refl _ | exact hM7 | exact hM8), by simp, ?_⟩
 refine wCu ?_
 refine jPn (jB (jT (wAb (wAa (sLL rfl ?_)))))
 refine lq (wBe (cs := [_, _, _, _, _, _, _, _]) rfl rfl rfl (by rfl)) ?_
 refine sSt rfl ?_
 refine sSt rfl ?_
 refine wAc (jT (wAg (wCt vb2 (by simp) ?_)))
 intro M10 hM10 e10
 refine wEj (rs := [_, _]) rfl (.cons (.agg rfl rfl rfl) (.cons (.agg rfl rfl rfl) .nil)) ?_
 have hF1 : flsOf' (p.files.set jd ({ gd2 with x := { gd2.x with names := wBc (wAi w) gd2.x.names }, ns := wBc (wAi w) gd2.ns, na := a7, nc := c7 } : GF)) = wCg gv.abs.files gd.id (wAi w) := by rw [wGv (g' := ({ gd2 with x := { gd2.x with names := wBc (wAi w) gd2.x.names }, ns := wBc (wAi w) gd2.ns, na := a7, nc := c7 } : GF)) hnd2 hkdq rfl (fun x => { x with names := wBc (wAi w) x.names }) rfl, hfl2, hkdid]; rfl
 have hnd3 : (wBg (flsOf' (p.files.set jd ({ gd2 with x := { gd2.x with names := wBc (wAi w) gd2.x.names }, ns := wBc (wAi w) gd2.ns, na := a7, nc := c7 } : GF)))).Nodup := by rw [hF1]; unfold wCg; rw [wGf]; exact hnd
 have hF2 : flsOf' ((p.files.set jd ({ gd2 with x := { gd2.x with names := wBc (wAi w) gd2.x.names }, ns := wBc (wAi w) gd2.ns, na := a7, nc := c7 } : GF)).set j ({ g2 with x := { g2.x with links := g2.x.links - 1 } } : GF)) = lnk (wCg gv.abs.files gd.id (wAi w)) g.id (-1) := by rw [wGv (g' := ({ g2 with x := { g2.x with links := g2.x.links - 1 } } : GF)) hnd3 hxq1 rfl (fun x => { x with links := x.links + (-1) }) rfl, hF1, hkxid]; rfl
 have hla : wGt (wCg gv.abs.files gd.id (wAi w)) g.id = g2.x.links := by
  obtain ⟨hj9, e9⟩ := List.getElem?_eq_some_iff.1 hxq1
  have := (wGw hnd3 hj9).1
  rw [e9, hF1, hkxid] at this
  unfold wGt; rw [this]
 have hM := (hM7.trans hM8).trans hM10
 refine RDoP.vol hwf hvs hiv2 (by rw [hp, hpi, hid]) (v2 := ({ p with files := wCs ((p.files.set jd ({ gd2 with x := { gd2.x with names := wBc (wAi w) gd2.x.names }, ns := wBc (wAi w) gd2.ns, na := a7, nc := c7 } : GF)).set j ({ g2 with x := { g2.x with links := g2.x.links - 1 } } : GF)) g.id, fa := a9, fc := c9 } : GV)) (by rw [hpi, hid]) e10 hvc (fun i hi hne => (hoth i hi hne).mono hM) ⟨?_, ?_, ?_⟩ (rp := {}) ?_ rfl rfl
 ·exact hs9.mono hM10
 ·exact hc9
 ·exact fun q hq => wFh (wFh (fun q hq => (hpfs q hq).mono hM) ((wKs hkdo hM7 hc7 hs7).mono (hM8.trans hM10))) ((links_ok hkxo _).mono hM) q (without_mem hq)
 rw [unlink_abs hfs hz hplc hv]
 refine Prod.ext ?_ rfl
 have e3 : GV.abs ({ p with files := wCs ((p.files.set jd ({ gd2 with x := { gd2.x with names := wBc (wAi w) gd2.x.names }, ns := wBc (wAi w) gd2.ns, na := a7, nc := c7 } : GF)).set j ({ g2 with x := { g2.x with links := g2.x.links - 1 } } : GF)) g.id, fa := a9, fc := c9 } : GV) = { gv.abs with files := wFy (wCg gv.abs.files gd.id (wAi w)) g.id } := by
  show ({ frozen := p.frozen, next := p.next, files := flsOf' (wCs ((p.files.set jd ({ gd2 with x := { gd2.x with names := wBc (wAi w) gd2.x.names }, ns := wBc (wAi w) gd2.ns, na := a7, nc := c7 } : GF)).set j ({ g2 with x := { g2.x with links := g2.x.links - 1 } } : GF)) g.id) } : PV) = _
  unfold wFy; rw [without_fls, hF2, hla, if_pos (by rw [hkxx]; omega), hpz, hnx]; rfl
 exact congrArg (fun z : PV => ({ f.abs with vols := wBq w.1 z f.abs.vols } : PS)) e3.symm
set_option maxHeartbeats 4000000 in
set_option maxRecDepth 4000 in
theorem rm_ok (f : GS) (n : Nat) (hwf : WFS n f.abs) (hn : n ≤ 100) (M : Mem) (hf : f.Ok M) (c : CL) (ca : Option Addr) (ck : Nat) (hC : CallOk M c ca ck) (h0 : 0 ≤ c.kind ∧ c.kind ≤ 255) (w : Wy) (na : Option Addr) (nc : Nat) (hW : WyOk M w na nc) (o : Wy) (oa : Option Addr) (oc : Nat) (hO : WyOk M o oa oc) (id : Int) (v : PV) (x : PF) (hw : wBb f.abs w.1 w.2 = .ok id) (hv : wAm w.1 f.abs.vols = some v) (hx : wAm id v.files = some x) (hne : w.2 ≠ []) (hk : c.kind = 15) (hdir : x.dir = true) (h0n : x.names = []) (hz : wAr f.abs w.1 = false) :
  SpecL Tryz.prog 29 #[gsV f, clV c ca ck, wyV w na nc, wyV o oa oc] M [] (RDoP (wCc f.abs w)) := by
 have hl0 : 0 < w.2.length := List.length_pos_iff.2 hne
 have hbig := hW.big
 obtain ⟨pd, v9, xd, hwd, hplc, hv9, hxd, hxdd, hxdn⟩ := wCb hwf hne hw
 rw [hv] at hv9; cases hv9
 have hvl := wBh hwf
 obtain ⟨iv, hiv, gv, j, hj, g, vb, vo, fb, fo, rfl, rfl, rfl, eiv, hgv, hid, hwv, hfl, hgo, hnd, ev, hvx, efa, hg, hfx, hgi, hgk, hgx, hnn, hn32, hnsl, hfx2⟩ := opw hwf hf hv hx
 obtain ⟨jd, hjd, ejd, hjid, hjxd⟩ := GV.file hxd
 obtain ⟨gd, hgd⟩ : ∃ gd, gv.files[jd] = gd := ⟨_, rfl⟩
 rw [hgd] at hjid hjxd
 subst hjxd
 subst hjid
 have hfxd : wDf f.abs w.1 gd.id = (jd : Int) := by rw [wCp hv]; exact ejd
 have hfz : wAr f.abs w.1 = gv.frozen := by unfold wAr; rw [hv]; rfl
 obtain ⟨nb, no, en, hnx0⟩ := wFs hW.sn (i := w.2.length - 1) (by omega)
 have hlast : w.2[w.2.length - 1] = wAi w := by unfold wAi; rw [List.getLast?_eq_getElem?, List.getElem?_eq_getElem (by omega)]; rfl
 rw [hlast, show ((w.2.length - 1 : Nat) : Int) = (w.2.length : Int) - 1 by omega] at hnx0
 obtain ⟨hsz1, hsz2⟩ := wCy hwf hf hn
 have hnl0 : g.ns.length = 0 := by rw [hnsl, h0n]; rfl
 refine wAe (vs := [_, _, _, _]) 279 _ Tryz.func29 rfl Tryz.ntmps29 rfl rfl ?_; intro W
 refine wAb (wAa (sBx [_, _] rfl fun b4 => ?_))
 refine sBx [_, _, _, _, _, _, _] rfl fun b5 => ?_
 refine sBx [_, _] rfl fun b6 => ?_
 refine sBx [_, _] rfl fun b7 => ?_
 refine sAl rfl fun b8 => ?_
 refine sAl rfl fun b9 => ?_
 refine wAc (jT (wAb (wAa (sFL rfl rfl ?_))))
 refine lq (wCd rfl rfl rfl) ?_
 refine jp rfl (wAc (jT (wAb (wAb (wAa (sFL rfl rfl ?_))))))
 refine jf rfl (decide_eq_false (by first | omega | (rw [hkxx]; omega))) ?_
 refine jp rfl (jp rfl (jp rfl (jp rfl (wAc (jT (wAh rfl (wAd (jT (wAb (wAa (sLL rfl ?_)))))))))))
 refine sFL rfl rfl ?_
 refine sFL rfl rfl ?_
 refine lq (qEq (v' := .tuple #[.int .i64 (iv : Int), .int .i64 (j : Int), .int .i64 0]) (qCl (wAo f n hwf hn M hf w.1 w.2 na nc hW.sn hW.big)) (by rw [hw]; show Value.tuple #[.int .i64 (ixA w.1 (wAv f.vols)), .int .i64 (wDf f.abs w.1 g.id), _] = _; rw [eiv, hfx2])) ?_
 iterate 7 refine jp rfl ?_
 refine wAc (jT (wAb (wAb (wAa (jp rfl ?_)))))
 refine jf rfl (decide_eq_false (by first | omega | (rw [hkxx]; omega))) ?_
 refine wAc (jT (wAh rfl (wAd (jT (wAb (wAa (sFL rfl rfl ?_)))))))
 refine jp rfl (lq (wAp rfl rfl rfl rfl ev (by omega)) ?_)
 refine sFa rfl ?_
 refine lq (qLd rfl rfl rfl rfl ((hvx 3 _ rfl).cj _)) ?_
 refine jp rfl (lq (wAp rfl rfl rfl rfl efa (by omega)) ?_)
 refine lq (wFt (cs := gfC g) rfl rfl rfl rfl rfl (fun j u hu => (hfx j u hu).cj _)) ?_
 refine sAl rfl fun b14 => ?_
 refine sSt rfl ?_
 refine wAc (jT (wAb (wAa (jp rfl (wAc (jT (wAb (wAb (wAa (jp rfl ?_))))))))))
 refine jt rfl (decide_eq_true (by first | omega | (rw [hkxx]; omega))) ?_
 refine wAc (jT (wAf rfl (wCw [(0, true), (1, true), (2, true), (3, true), (4, true), (5, true), (6, true), (7, true), (8, true), (9, true), (10, true), (11, true), (12, true), (13, true)] _ (fun _ h => h) ?_)))
 refine dLL rfl rfl ?_
 refine dFa rfl rfl ?_
 refine dLd rfl rfl ?_
 refine dFa rfl rfl ?_
 refine dLd rfl rfl ?_
 refine dp rfl rfl ?_
 refine da rfl rfl (by first | omega | (rw [hkxx]; omega)) ?_
 refine dq rfl (qEq (v' := .slice na w.2.dropLast.length nc) (qSl rfl rfl rfl (.no _) (.of rfl (by have := hW.big; omega) rfl) (.no _) (by have := hW.cap; omega) (by simp)) (by rw [wCo, List.length_dropLast, show ((w.2.length : Int) - 1).toNat = w.2.length - 1 by omega]; rfl)) ?_
 refine dq rfl (qEq (v' := .tuple #[.int .i64 (iv : Int), .int .i64 (jd : Int), .int .i64 0]) (qCl (wAo f n hwf hn M hf w.1 w.2.dropLast na nc hW.sn.init (by rw [List.length_dropLast]; have := hW.big; omega))) (by rw [hwd]; show Value.tuple #[.int .i64 (ixA w.1 (wAv f.vols)), .int .i64 (wDf f.abs w.1 gd.id), _] = _; rw [eiv, hfxd])) ?_
 iterate 5 refine dp rfl rfl ?_
 refine wAs (jPn (jT (wAb (wAa (jp rfl (wAc (jT (wAb (wAb (wAa (sFL rfl rfl ?_)))))))))))
 refine wAc (jT (wAk (wAb (wAb (wAa ?_)))))
 refine jf rfl (decide_eq_false (by first | omega | (rw [hkxx]; omega))) ?_
 refine jp rfl (wAc (jT (wAh rfl (wAa ?_))))
 refine jf rfl (decide_eq_false (by first | omega | (rw [hkxx]; omega))) ?_
 refine jp rfl (wAc (jT (wAh rfl (wAb (wAa ?_)))))
 refine jt rfl (decide_eq_true (by first | omega | (rw [hkxx]; omega))) ?_
 refine jp rfl (wAc (jT (wAf rfl (wAb (wAb (wAa (sFa rfl ?_)))))))
 refine lq (qEq (qLd rfl rfl rfl rfl (CJ.loc rfl)) (v' := .bool true) (by rw [hdir])) ?_
 refine jp rfl (wAc (jT (wAh rfl (wAd (jT (wAb (wAa (jp rfl ?_))))))))
 refine jf rfl (decide_eq_false (by first | omega | (rw [hkxx]; omega))) ?_
 refine jp rfl (sFL rfl rfl ?_)
 refine lq (wCd rfl rfl rfl) ?_
 refine jf rfl (decide_eq_false (by first | omega | (rw [hkxx]; omega))) ?_
 refine jp rfl (wAc (jT (wAh rfl (wAd (jB (jT (wAb (wAb (wAa (sFL rfl rfl ?_))))))))))
 refine jf rfl (decide_eq_false (by first | omega | (rw [hkxx]; omega))) ?_
 refine jp rfl (sFL rfl rfl ?_)
 refine jf rfl (decide_eq_false (by first | omega | (rw [hkxx]; omega))) ?_
 refine jp rfl (wAc (jT (wAh rfl (wAd (jT (wAb (wAb (wCw [(0, true), (1, true), (2, true), (3, true), (4, true), (5, true), (6, true), (7, true), (8, true), (9, true), (10, true), (11, true), (12, true), (13, true), (14, true), (15, true), (16, true), (17, true), (18, true), (19, true), (20, true), (21, true), (22, true), (23, true), (24, true), (25, true), (26, true)] [(b14, .cells (gfC g).toArray 93 (0, 0)), (b5, .cells (wDa c ca ck).toArray 45 (0, 0)), (b4, .cells (gsC f).toArray 53 (0, 0))] (by simp) ?_))))))))
 refine dFa rfl rfl ?_
 refine dLd rfl rfl ?_
 refine df rfl rfl (decide_eq_false (by first | omega | (rw [hkxx]; omega))) ?_
 iterate 24 refine dp rfl rfl ?_
 refine wAs (jPn (jT (wAh rfl (wAd (jT (wAb (wAb (wAa (sFL rfl rfl ?_)))))))))
 refine jp rfl (lq (wAp rfl rfl rfl rfl ev (by omega)) ?_)
 refine sFa rfl ?_
 refine lq (qEq (qLd rfl rfl rfl rfl ((hvx 1 _ rfl).cj _)) (v' := .bool false) (by rw [hfz] at hz; rw [hz])) ?_
 refine wAc (jT (wAh rfl (wAd (jT (wAb (wAa (sLL rfl ?_)))))))
 refine wCe rfl rfl (hCl (wFd f M hf hsz1 hsz2)) ?_; rintro _ M2 _ ⟨hM2, _, rfl, ⟨vs, va2, vc2, Rv, rfl, hvs, hown, hall, rfl⟩⟩
 obtain ⟨hiv2, hpi, hpa⟩ := tw_at hvs hiv
 rw [hgv] at hpi hpa
 have hpl := wLq hpa
 refine wGg hiv2 hown hall (by omega) ?_
 intro M3 vb2 fb2 sp fsp hF
 obtain ⟨p, hp⟩ : ∃ p, (vs[iv]).1 = p := ⟨_, rfl⟩
 have hF2 := hF
 obtain ⟨hM3, hoth, hpfs, hva, hvc, hvlen, hvm, hpf, hpc, hplen, hpm⟩ := hF2
 subst hva
 rw [hp] at hpi hpa hpl hpfs hpf hpc hplen hpm ⊢
 have hvq : (vsF vs)[iv]? = some p := by rw [List.getElem?_map, List.getElem?_eq_getElem hiv2, Option.map_some, hp]
 have hvsl : (vsF vs).length = vs.length := List.length_map _
 have hnx : p.next = gv.next := congrArg PV.next hpa
 have hpz : p.frozen = gv.frozen := congrArg PV.frozen hpa
 have h2n : 2 ≤ gv.next := hwv.two
 have hmn : gv.next ≤ 2 + (n : Int) := hwv.most
 have hlenvs : vs.length = f.vols.length := by have := congrArg List.length hvs; simpa using this
 have hnd2 : (wBg (flsOf' p.files)).Nodup := by rw [show flsOf' p.files = flsOf' gv.files from congrArg PV.files hpa]; exact hnd
 have hfl2 : flsOf' p.files = gv.abs.files := congrArg PV.files hpa
 obtain ⟨hkd2, hkdid, hkdx⟩ := wKw hpa hjd
 rw [hgd] at hkdid hkdx
 obtain ⟨gd2, hkdg⟩ : ∃ z, p.files[jd] = z := ⟨_, rfl⟩
 rw [hkdg] at hkdid hkdx
 have hkdq : p.files[jd]? = some gd2 := by rw [List.getElem?_eq_getElem hkd2, hkdg]
 have hkdo : gd2.Ok M3 := hkdg ▸ hpfs _ (List.getElem_mem hkd2)
 have hkd32 : gd2.ns.length ≤ 32 := by rw [wCk hkdo, hkdx]; exact (hwv.wf.len _ _ hxd).2
 obtain ⟨hkx2, hkxid, hkxx⟩ := wKw hpa hj
 rw [hg] at hkxid hkxx
 obtain ⟨g2, hkxg⟩ : ∃ z, p.files[j] = z := ⟨_, rfl⟩
 rw [hkxg] at hkxid hkxx
 have hkxq : p.files[j]? = some g2 := by rw [List.getElem?_eq_getElem hkx2, hkxg]
 have hkxo : g2.Ok M3 := hkxg ▸ hpfs _ (List.getElem_mem hkx2)
 have hkx32 : g2.ns.length ≤ 32 := by rw [wCk hkxo, hkxx]; exact (hwv.wf.len _ _ hgx).2
 refine sAl rfl fun b18 => ?_
 refine sSt rfl ?_
 refine wAc (jT (wAb (wAa (sFL rfl rfl ?_))))
 refine jp rfl (lq (wAp rfl rfl rfl rfl rfl (by omega)) ?_)
 refine sFa rfl ?_
 refine lq (qLd rfl rfl rfl rfl (wCx wBy hvq 3 _ rfl)) ?_
 refine jp rfl (wAc (jT (wAb (wAb (wAa (sFL rfl rfl ?_))))))
 refine jt rfl (decide_eq_true (by first | omega | (rw [hkxx]; omega))) ?_
 refine wAc (jT (wAf rfl (wBn (p := { A := fun i => !([16].contains i), U := fun i => !([16].contains i) }) [(0, true), (1, true), (2, true), (3, true), (4, true), (5, true), (6, true), (7, true), (8, true), (9, true), (10, true), (11, true), (12, true), (13, false), (14, true), (15, true), (16, false)] M3 ([(fb2, .cells ((p.files).flatMap gfC ++ fsp).toArray 93 (0, 0)), (b6, .cells [.int .i64 w.1, .slice na w.2.length nc].toArray 65 (0, 0))]) ([]) (by kernel_rfl) (by kernel_rfl) (by kernel_rfl) (by kernel_rfl) rfl (by simp) (MLe.refl _) (by simp) ?_)))
 iterate 4 refine dp rfl rfl ?_
 refine dq rfl (wAp rfl rfl rfl rfl hpf (show (0 : Int) ≤ (jd : Int) ∧ (jd : Int) < ((p.files.length : Nat) : Int) from ⟨by omega, by omega⟩)) ?_
 refine dFa rfl rfl ?_
 refine dq rfl (qLd rfl rfl rfl rfl (wCx wBa hkdq 4 _ rfl)) ?_
 refine dFa rfl rfl ?_
 refine dLd rfl rfl ?_
 refine dp rfl rfl ?_
 refine da rfl rfl (by first | omega | (rw [hkxx]; omega)) ?_
 refine dq rfl (wAp rfl rfl rfl rfl en (by omega)) ?_
 refine dq rfl (qLd rfl rfl rfl rfl (((hnx0.mono hM2).mono hM3).cj _)) ?_
 refine wJf rfl rfl rfl (hCl (wJt gd2.ns gd2.na gd2.nc M3 hkdo.na (by omega) (wAi w))) ?_; rintro _ M7 _ ⟨hM7, _, rfl, ⟨a7, c7, rfl, hc7, hs7, rfl⟩⟩
 refine ⟨_, _, MLe.refl _, hM7, fun _ h => h, by simp, ?_⟩
 refine dq rfl (wAp rfl rfl rfl rfl hpf (show (0 : Int) ≤ (jd : Int) ∧ (jd : Int) < ((p.files.length : Nat) : Int) from ⟨by omega, by omega⟩)) ?_
 refine dFa rfl rfl ?_
 refine wJu rfl rfl (wBw (l2 := (p.files.set jd ({ gd2 with x := { gd2.x with names := wBc (wAi w) gd2.x.names }, ns := wBc (wAi w) gd2.ns, na := a7, nc := c7 } : GF)).flatMap gfC ++ fsp) rfl rfl rfl rfl rfl rfl rfl (wDj wBa hkdq (Nat.le_of_ble_eq_true rfl)) (wDi wBa hkdq (Nat.le_of_ble_eq_true rfl) rfl)) ?_; rintro _ _ _ ⟨rfl, rfl⟩
 refine ⟨(by first | exact MLe.refl _ | exact hM7 | exact hM8), by simp, ?_⟩
 refine wCu ?_
 refine jPn (jT (wAb (wAb (wAa (sFL rfl rfl ?_)))))
 refine wAc (jT (wAk (wAb (wAa ?_))))
 refine jf rfl (decide_eq_false (by first | omega | (rw [hkxx]; omega))) ?_
 refine jp rfl (wAc (jT (wAh rfl (wAb (wAa ?_)))))
 refine jf rfl (decide_eq_false (by first | omega | (rw [hkxx]; omega))) ?_
 refine jp rfl (wAc (jT (wAh rfl (wAb (wAa ?_)))))
 refine jf rfl (decide_eq_false (by first | omega | (rw [hkxx]; omega))) ?_
 refine jp rfl (wAc (jT (wAh rfl (wAb (wAa ?_)))))
 refine jt rfl (decide_eq_true (by first | omega | (rw [hkxx]; omega))) ?_
 refine jp rfl (wAc (jT (wAf rfl (wBn (p := { A := fun i => !([9].contains i), U := fun i => !([9].contains i) }) [(0, true), (1, true), (2, true), (3, true), (4, true), (5, true), (6, false), (7, true), (8, true), (9, false)] M7 ([(fb2, .cells (((p.files.set jd ({ gd2 with x := { gd2.x with names := wBc (wAi w) gd2.x.names }, ns := wBc (wAi w) gd2.ns, na := a7, nc := c7 } : GF))).flatMap gfC ++ fsp).toArray 93 (0, 0)), (b18, .cells [.int .i64 f.made, .slice (some ⟨vb2, 0, none⟩) vs.length vc2].toArray 53 (0, 0)), (b14, .cells (gfC g).toArray 93 (0, 0))]) ([]) (by kernel_rfl) (by kernel_rfl) (by kernel_rfl) (by kernel_rfl) rfl (by simp) (MLe.refl _) (by simp) ?_))))
 refine dFa rfl rfl ?_
 refine dLd rfl rfl ?_
 iterate 2 refine dp rfl rfl ?_
 refine dFa rfl rfl ?_
 refine dLd rfl rfl ?_
 refine wJf rfl rfl rfl (wKh rfl rfl rfl rfl rfl (by kernel_rfl) (by have := without_spec (p.files.set jd ({ gd2 with x := { gd2.x with names := wBc (wAi w) gd2.x.names }, ns := wBc (wAi w) gd2.ns, na := a7, nc := c7 } : GF)) fb2 p.fc fsp M7 (by rw [List.length_set]; omega) g.id; rw [List.length_set, ← hpf] at this; exact this)) ?_; rintro _ M8 _ ⟨hM8, _, rfl, ⟨a9, c9, rfl, hc9, hs9, rfl⟩⟩
 refine ⟨_, _, MLe.refl _, hM8, fun _ h => h, by simp, ?_⟩
 refine dq rfl (wAp rfl rfl rfl rfl rfl (by omega)) ?_
 refine dFa rfl rfl ?_
 refine wJu rfl rfl (wBw (l2 := ((vsF vs).set iv ({ p with files := wCs (p.files.set jd ({ gd2 with x := { gd2.x with names := wBc (wAi w) gd2.x.names }, ns := wBc (wAi w) gd2.ns, na := a7, nc := c7 } : GF)) g.id, fa := a9, fc := c9 } : GV)).flatMap gvC ++ sp) rfl rfl rfl rfl rfl rfl rfl (wDj wBy hvq (Nat.le_of_ble_eq_true rfl)) (wDi wBy hvq (Nat.le_of_ble_eq_true rfl) rfl)) ?_; rintro _ _ _ ⟨rfl, rfl⟩
 refine ⟨(by first | exact MLe.refl _ | exact hM7 | exact hM8), by simp, ?_⟩
 refine wCu ?_
 refine jPn (jB (jT (wAb (wAa (sLL rfl ?_)))))
 refine lq (wBe (cs := [_, _, _, _, _, _, _, _]) rfl rfl rfl (by rfl)) ?_
 refine sSt rfl ?_
 refine sSt rfl ?_
 refine wAc (jT (wAg (wCt vb2 (by simp) ?_)))
 intro M10 hM10 e10
 refine wEj (rs := [_, _]) rfl (.cons (.agg rfl rfl rfl) (.cons (.agg rfl rfl rfl) .nil)) ?_
 have hF1 : flsOf' (p.files.set jd ({ gd2 with x := { gd2.x with names := wBc (wAi w) gd2.x.names }, ns := wBc (wAi w) gd2.ns, na := a7, nc := c7 } : GF)) = wCg gv.abs.files gd.id (wAi w) := by rw [wGv (g' := ({ gd2 with x := { gd2.x with names := wBc (wAi w) gd2.x.names }, ns := wBc (wAi w) gd2.ns, na := a7, nc := c7 } : GF)) hnd2 hkdq rfl (fun x => { x with names := wBc (wAi w) x.names }) rfl, hfl2, hkdid]; rfl
 have hnd3 : (wBg (flsOf' (p.files.set jd ({ gd2 with x := { gd2.x with names := wBc (wAi w) gd2.x.names }, ns := wBc (wAi w) gd2.ns, na := a7, nc := c7 } : GF)))).Nodup := by rw [hF1]; unfold wCg; rw [wGf]; exact hnd
 have hM := (hM7.trans hM8).trans hM10
 refine RDoP.vol hwf hvs hiv2 (by rw [hp, hpi, hid]) (v2 := ({ p with files := wCs (p.files.set jd ({ gd2 with x := { gd2.x with names := wBc (wAi w) gd2.x.names }, ns := wBc (wAi w) gd2.ns, na := a7, nc := c7 } : GF)) g.id, fa := a9, fc := c9 } : GV)) (by rw [hpi, hid]) e10 hvc (fun i hi hne => (hoth i hi hne).mono hM) ⟨?_, ?_, ?_⟩ (rp := {}) ?_ rfl rfl
 ·exact hs9.mono hM10
 ·exact hc9
 ·exact fun q hq => wFh (fun q hq => (hpfs q hq).mono hM) ((wKs hkdo hM7 hc7 hs7).mono (hM8.trans hM10)) q (without_mem hq)
 have hfa : wEs f.abs w.1 g.id = some g.x := by unfold wEs; rw [hv]; exact hgx
 rw [unmake_abs hw (by unfold wGu; rw [hfa]; exact hdir) hne (by unfold wDx; rw [hfa]; simp only; rw [h0n]; rfl) hz hplc hv]
 refine Prod.ext ?_ rfl
 have e3 : GV.abs ({ p with files := wCs (p.files.set jd ({ gd2 with x := { gd2.x with names := wBc (wAi w) gd2.x.names }, ns := wBc (wAi w) gd2.ns, na := a7, nc := c7 } : GF)) g.id, fa := a9, fc := c9 } : GV) = { gv.abs with files := wBc g.id (wCg gv.abs.files gd.id (wAi w)) } := by
  show ({ frozen := p.frozen, next := p.next, files := flsOf' (wCs (p.files.set jd ({ gd2 with x := { gd2.x with names := wBc (wAi w) gd2.x.names }, ns := wBc (wAi w) gd2.ns, na := a7, nc := c7 } : GF)) g.id) } : PV) = _
  rw [without_fls, hF1, hpz, hnx]; rfl
 exact congrArg (fun z : PV => ({ f.abs with vols := wBq w.1 z f.abs.vols } : PS)) e3.symm
end Go.Proofs.YtokljhkplbkggaaGreatDoor
