/- Walks: the document's calls that link and rename: what they turn. -/
import Derived.Test.YtokljhkplbkggaaGreatDoorZRfu
namespace Go.Proofs.YtokljhkplbkggaaGreatDoor
set_option linter.unusedVariables false
set_option linter.unusedSectionVars false
set_option linter.unusedSimpArgs false
open Go.RowKit Go.MapKept
theorem set_any {l : List GF} {jd jt : Nat} {gd2 gt2 gd1 : GF} (hd : l[jd]? = some gd2) (ht : l[jt]? = some gt2) : ∃ q, (l.set jd gd1)[jt]? = some q ∧ ((q = gd1 ∧ gt2 = gd2) ∨ q = gt2) := by
 by_cases h : jd = jt
 ·subst h; rw [hd] at ht; cases ht
  exact ⟨_, set_q hd, .inl ⟨rfl, rfl⟩⟩
 exact ⟨_, wJk h ht, .inr rfl⟩
theorem link_abs {f : GS} {w o : Wy} {id d : Int} (hw : wCh f.abs w = .ok id) (hfr : wBo f.abs o w.1 none = .ok d) (hz : wAr f.abs w.1 = false) {v : PV} (hv : wAm w.1 f.abs.vols = some v) : wGc f.abs w o = ({ f.abs with vols := wBq w.1 { v with files := lnk (wEb v.files d (wAi o) id) id 1 } f.abs.vols }, {}) := by
 unfold wGc
 rw [hw]; simp only
 rw [hfr]; simp only
 rw [if_neg (by rw [hz]; simp)]
 unfold updVF updV
 rw [hv]
theorem rename_abs {f : GS} {w o : Wy} {id d t : Int} (hne : w.2 ≠ []) (hw : wBb f.abs w.1 w.2 = .ok id) (hp : wCj f.abs w = .ok d) (hfr : wBo f.abs o w.1 (some d) = .ok t) (hi : (wGu f.abs w.1 id && insB f.abs w.1 t id) = false) (hz : wAr f.abs w.1 = false) {v : PV} (hv : wAm w.1 f.abs.vols = some v) :
  wBv insB f.abs w o = ({ f.abs with vols := wBq w.1 { v with files := wEb (wCg v.files d (wAi w)) t (wAi o) id } f.abs.vols }, {}) := by
 unfold wBv
 rw [if_neg hne, hw]; simp only
 rw [hp]; simp only
 rw [hfr]; simp only
 rw [if_neg (by rw [hi]; simp), if_neg (by rw [hz]; simp)]
 unfold updVF updV
 rw [hv]
set_option maxHeartbeats 4000000 in
set_option maxRecDepth 4000 in
theorem ln_ok (f : GS) (n : Nat) (hwf : WFS n f.abs) (hn : n ≤ 100) (M : Mem) (hf : f.Ok M) (c : CL) (ca : Option Addr) (ck : Nat) (hC : CallOk M c ca ck) (h0 : 0 ≤ c.kind ∧ c.kind ≤ 255) (w : Wy) (na : Option Addr) (nc : Nat) (hW : WyOk M w na nc) (o : Wy) (oa : Option Addr) (oc : Nat) (hO : WyOk M o oa oc) (id : Int) (v : PV) (x : PF) (hw : wBb f.abs w.1 w.2 = .ok id) (hv : wAm w.1 f.abs.vols = some v) (hx : wAm id v.files = some x) (hne : w.2 ≠ []) (hk : c.kind = 12) (hdir : x.dir = false) (hfs : wCh f.abs w = .ok id) (t : Int) (hfr : wBo f.abs o w.1 none = .ok t) (hz : wAr f.abs w.1 = false) :
  SpecL Tryz.prog 29 #[gsV f, clV c ca ck, wyV w na nc, wyV o oa oc] M [] (RDoP (wGc f.abs w o)) := by
 have hl0 : 0 < w.2.length := List.length_pos_iff.2 hne
 have hbig := hW.big
 obtain ⟨pd, v9, xd, hwd, hplc, hv9, hxd, hxdd, hxdn⟩ := wCb hwf hne hw
 rw [hv] at hv9; cases hv9
 have hvl := wBh hwf
 obtain ⟨iv, hiv, gv, j, hj, g, vb, vo, fb, fo, rfl, rfl, rfl, eiv, hgv, hid, hwv, hfl, hgo, hnd, ev, hvx, efa, hg, hfx, hgi, hgk, hgx, hnn, hn32, hnsl, hfx2⟩ := opw hwf hf hv hx
 obtain ⟨jd, hjd, ejd, hjid, hjxd⟩ := GV.file hxd
 obtain ⟨gd, hgd⟩ : ∃ gd, gv.files[jd] = gd := ⟨_, rfl⟩
 rw [hgd] at hjid hjxd
 subst hjxd
 subst hjid
 have hfxd : wDf f.abs w.1 gd.id = (jd : Int) := by rw [wCp hv]; exact ejd
 have hfz : wAr f.abs w.1 = gv.frozen := by unfold wAr; rw [hv]; rfl
 obtain ⟨v2, xt, hv2, hxt, _, htd, hns2, hlt, hvol, hneo⟩ := wFm hwf hfr
 rw [hvol, hv] at hv2; cases hv2
 obtain ⟨jtt, hjtt, ejt, hjit, hjxt⟩ := GV.file hxt
 obtain ⟨gt, hgt⟩ : ∃ gt, gv.files[jtt] = gt := ⟨_, rfl⟩
 rw [hgt] at hjit hjxt
 subst hjxt
 subst hjit
 have hfxt : wDf f.abs o.1 gt.id = (jtt : Int) := by rw [hvol, wCp hv]; exact ejt
 have hlo0 : 0 < o.2.length := List.length_pos_iff.2 hneo
 have hbigo := hO.big
 obtain ⟨oq, oo, oen, honx⟩ := wFs hO.sn (i := o.2.length - 1) (by omega)
 have hlasto : o.2[o.2.length - 1] = wAi o := by unfold wAi; rw [List.getLast?_eq_getElem?, List.getElem?_eq_getElem (by omega)]; rfl
 rw [hlasto, show ((o.2.length - 1 : Nat) : Int) = (o.2.length : Int) - 1 by omega] at honx
 obtain ⟨hsz1, hsz2⟩ := wCy hwf hf hn
 have hjnt : j ≠ jtt := fun e => by subst e; rw [hgt] at hg; subst hg; rw [hdir] at htd; cases htd
 refine wAe (vs := [_, _, _, _]) 279 _ Tryz.func29 rfl Tryz.ntmps29 rfl rfl ?_; intro W
 refine wAb (wAa (sBx [_, _] rfl fun b4 => ?_))
 refine sBx [_, _, _, _, _, _, _] rfl fun b5 => ?_
 refine sBx [_, _] rfl fun b6 => ?_
 refine sBx [_, _] rfl fun b7 => ?_
 refine sAl rfl fun b8 => ?_
 refine sAl rfl fun b9 => ?_
 refine wAc (jT (wAb (wAa (sFL rfl rfl ?_))))
 refine lq (wCd rfl rfl rfl) ?_
 refine jp rfl (wAc (jT (wAb (wAb (wAa (sFL rfl rfl ?_))))))
 refine jf rfl (decide_eq_false (by omega)) ?_
 refine jp rfl (jp rfl (jp rfl (jp rfl (wAc (jT (wAh rfl (wAd (jT (wAb (wAa (sLL rfl ?_)))))))))))
 refine sFL rfl rfl ?_
 refine sFL rfl rfl ?_
 refine lq (qEq (v' := .tuple #[.int .i64 (iv : Int), .int .i64 (j : Int), .int .i64 0]) (qCl (wAo f n hwf hn M hf w.1 w.2 na nc hW.sn hW.big)) (by rw [hw]; show Value.tuple #[.int .i64 (ixA w.1 (wAv f.vols)), .int .i64 (wDf f.abs w.1 g.id), _] = _; rw [eiv, hfx2])) ?_
 iterate 7 refine jp rfl ?_
 refine wAc (jT (wAb (wAb (wAa (jp rfl (jf rfl (decide_eq_false (by omega)) ?_))))))
 refine wAc (jT (wAh rfl (wAd (jT (wAb (wAa (sFL rfl rfl ?_)))))))
 refine jp rfl (lq (wAp rfl rfl rfl rfl ev (by omega)) ?_)
 refine sFa rfl ?_
 refine lq (qLd rfl rfl rfl rfl ((hvx 3 _ rfl).cj _)) ?_
 refine jp rfl (lq (wAp rfl rfl rfl rfl efa (by omega)) ?_)
 refine lq (wFt (cs := gfC g) rfl rfl rfl rfl rfl (fun j u hu => (hfx j u hu).cj _)) ?_
 refine sAl rfl fun b14 => ?_
 refine sSt rfl ?_
 refine wAc (jT (wAb (wAa (jp rfl (wAc (jT (wAb (wAb (wAa (jp rfl (jt rfl (decide_eq_true (by omega)) ?_)))))))))))
 refine wAc (jT (wAf rfl (wCw [(0, true), (1, true), (2, true), (3, true), (4, true), (5, true), (6, true), (7, true), (8, true), (9, true), (10, true), (11, true), (12, true), (13, true)] _ (fun _ h => h) ?_)))
 refine dLL rfl rfl ?_
 refine dFa rfl rfl ?_
 refine dLd rfl rfl ?_
 refine dFa rfl rfl ?_
 refine dLd rfl rfl ?_
 refine dp rfl rfl ?_
 refine da rfl rfl (by omega) ?_
 refine dq rfl (qEq (v' := .slice na w.2.dropLast.length nc) (qSl rfl rfl rfl (.no _) (.of rfl (by have := hW.big; omega) rfl) (.no _) (by have := hW.cap; omega) (by simp)) (by rw [wCo, List.length_dropLast, show ((w.2.length : Int) - 1).toNat = w.2.length - 1 by omega]; rfl)) ?_
 refine dq rfl (qEq (v' := .tuple #[.int .i64 (iv : Int), .int .i64 (jd : Int), .int .i64 0]) (qCl (wAo f n hwf hn M hf w.1 w.2.dropLast na nc hW.sn.init (by rw [List.length_dropLast]; have := hW.big; omega))) (by rw [hwd]; show Value.tuple #[.int .i64 (ixA w.1 (wAv f.vols)), .int .i64 (wDf f.abs w.1 gd.id), _] = _; rw [eiv, hfxd])) ?_
 iterate 5 refine dp rfl rfl ?_
 refine wAs (jPn (jT (wAb (wAa (jp rfl (wAc (jT (wAb (wAb (wAa (sFL rfl rfl ?_)))))))))))
 refine wAc (jT (wAk (wAb (wAb (wAa (jt rfl (decide_eq_true (by omega)) ?_))))))
 refine jp rfl (wAc (jT (wAf rfl (wAd (jT (wAf rfl (wAb (wAa (sFa rfl ?_)))))))))
 refine lq (qEq (qLd rfl rfl rfl rfl (CJ.loc rfl)) (v' := .bool false) (by rw [hdir])) ?_
 refine wAc (jT (wAh rfl (wAd (jB (jT (wAb (wAb (wAa (sFL rfl rfl ?_)))))))))
 refine jt rfl (decide_eq_true (by omega)) ?_
 refine jp rfl (jp rfl (jp rfl (jp rfl (jp rfl (wAc (jT (wAf rfl (wAb (wAa (jp rfl (wAc (jT (wAb (wAb (wAa (sFL rfl rfl ?_))))))))))))))))
 refine jf rfl (decide_eq_false (by omega)) ?_
 refine wAc (jT (wAh rfl (wAd (jT (wAb (wAa (sLL rfl ?_)))))))
 refine sLL rfl ?_
 refine sFL rfl rfl ?_
 refine jp rfl ?_
 refine lq (qEq (v' := .tuple #[.int .i64 (jtt : Int), .int .i64 0]) (qCl (wDp f n hwf hn M hf o oa oc hO w.1 none (by intro d h; cases h))) (by rw [hfr]; show Value.tuple #[.int .i64 (wDf f.abs o.1 gt.id), _] = _; rw [hfxt])) ?_
 refine jp rfl (jp rfl (jp rfl (jp rfl (jp rfl (wAc (jT (wAb (wAa (jp rfl (jf rfl (decide_eq_false (by omega)) ?_))))))))))
 refine wAc (jT (wAh rfl (wAd (jT (wAb (wAb (wCw [(0, true), (1, true), (2, true), (3, true), (4, true), (5, true), (6, true), (7, true), (8, true), (9, true), (10, true), (11, true), (12, true), (13, true), (14, true), (15, true), (16, true), (17, true), (18, true), (19, true), (20, true), (21, true), (22, true), (23, true), (24, true), (25, true), (26, true)] [(b14, .cells (gfC g).toArray 93 (0, 0)), (b5, .cells (wDa c ca ck).toArray 45 (0, 0)), (b4, .cells (gsC f).toArray 53 (0, 0))] (by simp) ?_)))))))
 refine dFa rfl rfl ?_
 refine dLd rfl rfl ?_
 refine df rfl rfl (decide_eq_false (by omega)) ?_
 iterate 24 refine dp rfl rfl ?_
 refine wAs (jPn (jT (wAh rfl (wAd (jT (wAb (wAb (wAa (sFL rfl rfl ?_)))))))))
 refine jp rfl (lq (wAp rfl rfl rfl rfl ev (by omega)) ?_)
 refine sFa rfl ?_
 refine lq (qEq (qLd rfl rfl rfl rfl ((hvx 1 _ rfl).cj _)) (v' := .bool false) (by rw [hfz] at hz; rw [hz])) ?_
 refine wAc (jT (wAh rfl (wAd (jT (wAb (wAa (sLL rfl ?_)))))))
 refine wCe rfl rfl (hCl (wFd f M hf hsz1 hsz2)) ?_; rintro _ M2 _ ⟨hM2, _, rfl, ⟨vs, va2, vc2, Rv, rfl, hvs, hown, hall, rfl⟩⟩
 obtain ⟨hiv2, hpi, hpa⟩ := tw_at hvs hiv
 rw [hgv] at hpi hpa
 have hpl := wLq hpa
 refine wGg hiv2 hown hall (by omega) ?_
 intro M3 vb2 fb2 sp fsp hF
 obtain ⟨p, hp⟩ : ∃ p, (vs[iv]).1 = p := ⟨_, rfl⟩
 have hF2 := hF
 obtain ⟨hM3, hoth, hpfs, hva, hvc, hvlen, hvm, hpf, hpc, hplen, hpm⟩ := hF2
 subst hva
 rw [hp] at hpi hpa hpl hpfs hpf hpc hplen hpm ⊢
 have hvq : (vsF vs)[iv]? = some p := by rw [List.getElem?_map, List.getElem?_eq_getElem hiv2, Option.map_some, hp]
 have hvsl : (vsF vs).length = vs.length := List.length_map _
 have hnx : p.next = gv.next := congrArg PV.next hpa
 have hpz : p.frozen = gv.frozen := congrArg PV.frozen hpa
 have h2n : 2 ≤ gv.next := hwv.two
 have hmn : gv.next ≤ 2 + (n : Int) := hwv.most
 have hlenvs : vs.length = f.vols.length := by have := congrArg List.length hvs; simpa using this
 have hnd2 : (wBg (flsOf' p.files)).Nodup := by rw [show flsOf' p.files = flsOf' gv.files from congrArg PV.files hpa]; exact hnd
 have hfl2 : flsOf' p.files = gv.abs.files := congrArg PV.files hpa
 obtain ⟨hkx2, hkxid, hkxx⟩ := wKw hpa hj
 rw [hg] at hkxid hkxx
 obtain ⟨g2, hkxg⟩ : ∃ z, p.files[j] = z := ⟨_, rfl⟩
 rw [hkxg] at hkxid hkxx
 have hkxq : p.files[j]? = some g2 := by rw [List.getElem?_eq_getElem hkx2, hkxg]
 have hkxo : g2.Ok M3 := hkxg ▸ hpfs _ (List.getElem_mem hkx2)
 have hkx32 : g2.ns.length ≤ 32 := by rw [wCk hkxo, hkxx]; exact (hwv.wf.len _ _ hgx).2
 obtain ⟨hkt2, hktid, hktx⟩ := wKw hpa hjtt
 rw [hgt] at hktid hktx
 obtain ⟨gt2, hktg⟩ : ∃ z, p.files[jtt] = z := ⟨_, rfl⟩
 rw [hktg] at hktid hktx
 have hktq : p.files[jtt]? = some gt2 := by rw [List.getElem?_eq_getElem hkt2, hktg]
 have hkto : gt2.Ok M3 := hktg ▸ hpfs _ (List.getElem_mem hkt2)
 have hkt32 : gt2.ns.length ≤ 32 := by rw [wCk hkto, hktx]; exact (hwv.wf.len _ _ hxt).2
 refine sAl rfl fun b18 => ?_
 refine sSt rfl ?_
 refine wAc (jT (wAb (wAa (sFL rfl rfl ?_))))
 refine jp rfl (lq (wAp rfl rfl rfl rfl rfl (by omega)) ?_)
 refine sFa rfl ?_
 refine lq (qLd rfl rfl rfl rfl (wCx wBy hvq 3 _ rfl)) ?_
 refine jp rfl (wAc (jT (wAb (wAb (wAa (sFL rfl rfl ?_))))))
 refine jf rfl (decide_eq_false (by omega)) ?_
 refine wAc (jT (wAh rfl (wAd (jT (wAb (wAb (wAa (sFL rfl rfl ?_))))))))
 refine wAc (jT (wAk (wAb (wAa (jt rfl (decide_eq_true (by omega)) ?_)))))
 refine jp rfl (wAc (jT (wAf rfl (wAb (wAa (jp rfl (jp rfl ?_)))))))
 refine lq (wAp rfl rfl rfl rfl hpf (show (0 : Int) ≤ (j : Int) ∧ (j : Int) < ((p.files.length : Nat) : Int) from ⟨by omega, by omega⟩)) ?_
 refine sFa rfl ?_
 have hrg : 0 ≤ g2.x.links ∧ g2.x.links ≤ 1 + (n : Int) := by rw [hkxx]; exact (hwv.rng _ _ hgx).2.2
 refine lq (qLd rfl rfl rfl rfl (wCx wBa hkxq 2 _ rfl)) ?_
 refine ja rfl (by omega) ?_
 refine lq (wAp rfl rfl rfl rfl hpf (show (0 : Int) ≤ (j : Int) ∧ (j : Int) < ((p.files.length : Nat) : Int) from ⟨by omega, by omega⟩)) ?_
 refine sFa rfl ?_
 refine jl_s rfl (wBw (l2 := (p.files.set j ({ g2 with x := { g2.x with links := g2.x.links + 1 } } : GF)).flatMap gfC ++ fsp) rfl rfl rfl rfl rfl rfl rfl (wDj wBa hkxq (Nat.le_of_ble_eq_true rfl)) (wDi wBa hkxq (Nat.le_of_ble_eq_true rfl) rfl)) ?_; rintro _ _ _ ⟨rfl, rfl⟩
 refine wAc (jT ?_)
 have htq1 : (p.files.set j ({ g2 with x := { g2.x with links := g2.x.links + 1 } } : GF))[jtt]? = some gt2 := wJk hjnt hktq
 refine wBn (p := { A := fun i => !([20].contains i), U := fun i => !([20].contains i) }) [(0, true), (1, true), (2, true), (3, true), (4, true), (5, true), (6, true), (7, true), (8, true), (9, true), (10, true), (11, true), (12, true), (13, true), (14, true), (15, true), (16, true), (17, false), (18, true), (19, true), (20, false)] M3 ([(fb2, .cells (((p.files.set j ({ g2 with x := { g2.x with links := g2.x.links + 1 } } : GF))).flatMap gfC ++ fsp).toArray 93 (0, 0)), (b7, .cells [.int .i64 o.1, .slice oa o.2.length oc].toArray 65 (0, 0)), (b14, .cells (gfC g).toArray 93 (0, 0))]) ([]) (by kernel_rfl) (by kernel_rfl) (by kernel_rfl) (by kernel_rfl) rfl (by simp) (MLe.refl _) (by simp) ?_
 iterate 4 refine dp rfl rfl ?_
 refine dq rfl (wAp rfl rfl rfl rfl hpf (show (0 : Int) ≤ (jtt : Int) ∧ (jtt : Int) < ((p.files.length : Nat) : Int) from ⟨by omega, by omega⟩)) ?_
 refine dFa rfl rfl ?_
 refine dq rfl (qLd rfl rfl rfl rfl (wCx wBa htq1 4 _ rfl)) ?_
 refine dFa rfl rfl ?_
 refine dLd rfl rfl ?_
 refine dFa rfl rfl ?_
 refine dLd rfl rfl ?_
 refine dq rfl (wCd rfl rfl rfl) ?_
 refine da rfl rfl (by omega) ?_
 refine dq rfl (wAp rfl rfl rfl rfl oen (by omega)) ?_
 refine dq rfl (qLd rfl rfl rfl rfl (((honx.mono hM2).mono hM3).cj _)) ?_
 refine dFa rfl rfl ?_
 refine dLd rfl rfl ?_
 refine wJf rfl rfl rfl (hCl (wJy gt2.ns gt2.na gt2.nc M3 hkto.na (by omega) (wAi o) g.id)) ?_; rintro _ M7 _ ⟨hM7, _, rfl, ⟨a7, c7, rfl, hc7, hs7, rfl⟩⟩
 refine ⟨_, _, MLe.refl _, hM7, fun _ h => h, by simp, ?_⟩
 refine dq rfl (wAp rfl rfl rfl rfl hpf (show (0 : Int) ≤ (jtt : Int) ∧ (jtt : Int) < ((p.files.length : Nat) : Int) from ⟨by omega, by omega⟩)) ?_
 refine dFa rfl rfl ?_
 refine wJu rfl rfl (wBw (l2 := ((p.files.set j ({ g2 with x := { g2.x with links := g2.x.links + 1 } } : GF)).set jtt ({ gt2 with x := { gt2.x with names := wBq (wAi o) g.id gt2.x.names }, ns := wBi gt2.ns (wAi o) g.id, na := a7, nc := c7 } : GF)).flatMap gfC ++ fsp) rfl rfl rfl rfl rfl rfl rfl (wDj wBa htq1 (Nat.le_of_ble_eq_true rfl)) (wDi wBa htq1 (Nat.le_of_ble_eq_true rfl) rfl)) ?_; rintro _ _ _ ⟨rfl, rfl⟩
 refine ⟨(by first | exact MLe.refl _ | exact hM7 | exact hM8), by simp, ?_⟩
 refine wCu ?_
 refine jPn (jB (jT (wAb (wAa (sLL rfl ?_)))))
 refine lq (wBe (cs := [_, _, _, _, _, _, _, _]) rfl rfl rfl (by rfl)) ?_
 refine sSt rfl ?_
 refine sSt rfl ?_
 refine wAc (jT (wAg (wCt fb2 (by simp) ?_)))
 intro M9 hM9 e9
 refine wCt vb2 (by simp) ?_
 intro M10 hM10 e10
 refine wEj (rs := [_, _]) rfl (.cons (.agg rfl rfl rfl) (.cons (.agg rfl rfl rfl) .nil)) ?_
 have hktn : (wBg gt2.x.names).Nodup := by rw [hktx]; exact hwv.wf.nmd _ _ hxt
 have hktz : wAm (wAi o) gt2.x.names = none := by rw [hktx]; exact hns2
 have hF1 : flsOf' (p.files.set jtt ({ gt2 with x := { gt2.x with names := wBq (wAi o) g.id gt2.x.names }, ns := wBi gt2.ns (wAi o) g.id, na := a7, nc := c7 } : GF)) = wEb gv.abs.files gt.id (wAi o) g.id := by rw [wGv (g' := ({ gt2 with x := { gt2.x with names := wBq (wAi o) g.id gt2.x.names }, ns := wBi gt2.ns (wAi o) g.id, na := a7, nc := c7 } : GF)) hnd2 hktq rfl (fun x => { x with names := wBq (wAi o) g.id x.names }) rfl, hfl2, hktid]; rfl
 have hnd3 : (wBg (flsOf' (p.files.set jtt ({ gt2 with x := { gt2.x with names := wBq (wAi o) g.id gt2.x.names }, ns := wBi gt2.ns (wAi o) g.id, na := a7, nc := c7 } : GF)))).Nodup := by rw [hF1]; unfold wEb; rw [wGf]; exact hnd
 have hF2 : flsOf' ((p.files.set jtt ({ gt2 with x := { gt2.x with names := wBq (wAi o) g.id gt2.x.names }, ns := wBi gt2.ns (wAi o) g.id, na := a7, nc := c7 } : GF)).set j ({ g2 with x := { g2.x with links := g2.x.links + 1 } } : GF)) = lnk (wEb gv.abs.files gt.id (wAi o) g.id) g.id 1 := by rw [wGv (g' := ({ g2 with x := { g2.x with links := g2.x.links + 1 } } : GF)) hnd3 (wJk (Ne.symm hjnt) hkxq) rfl (fun x => { x with links := x.links + 1 }) rfl, hF1, hkxid]; rfl
 have hcm : ((p.files.set j ({ g2 with x := { g2.x with links := g2.x.links + 1 } } : GF)).set jtt ({ gt2 with x := { gt2.x with names := wBq (wAi o) g.id gt2.x.names }, ns := wBi gt2.ns (wAi o) g.id, na := a7, nc := c7 } : GF)) = ((p.files.set jtt ({ gt2 with x := { gt2.x with names := wBq (wAi o) g.id gt2.x.names }, ns := wBi gt2.ns (wAi o) g.id, na := a7, nc := c7 } : GF)).set j ({ g2 with x := { g2.x with links := g2.x.links + 1 } } : GF)) := List.set_comm _ _ hjnt
 have hM := (hM7.trans hM9).trans hM10
 rw [← wHh hvq (v2 := ({ p with files := ((p.files.set j ({ g2 with x := { g2.x with links := g2.x.links + 1 } } : GF)).set jtt ({ gt2 with x := { gt2.x with names := wBq (wAi o) g.id gt2.x.names }, ns := wBi gt2.ns (wAi o) g.id, na := a7, nc := c7 } : GF)) } : GV)) (by show [_, _, _, Value.slice _ (((p.files.set j ({ g2 with x := { g2.x with links := g2.x.links + 1 } } : GF)).set jtt ({ gt2 with x := { gt2.x with names := wBq (wAi o) g.id gt2.x.names }, ns := wBi gt2.ns (wAi o) g.id, na := a7, nc := c7 } : GF))).length _] = _; rw [List.length_set, List.length_set])] at e10
 refine RDoP.vol hwf hvs hiv2 (by rw [hp, hpi, hid]) (v2 := ({ p with files := ((p.files.set j ({ g2 with x := { g2.x with links := g2.x.links + 1 } } : GF)).set jtt ({ gt2 with x := { gt2.x with names := wBq (wAi o) g.id gt2.x.names }, ns := wBi gt2.ns (wAi o) g.id, na := a7, nc := c7 } : GF)) } : GV)) (by rw [hpi, hid]) e10 hvc (fun i hi hne => (hoth i hi hne).mono hM) ⟨?_, ?_, ?_⟩ (rp := {}) ?_ rfl rfl
 ·show SM M10 p.fa (((p.files.set j ({ g2 with x := { g2.x with links := g2.x.links + 1 } } : GF)).set jtt ({ gt2 with x := { gt2.x with names := wBq (wAi o) g.id gt2.x.names }, ns := wBi gt2.ns (wAi o) g.id, na := a7, nc := c7 } : GF)).flatMap gfC); rw [hpf]; exact (sm_of e9).mono hM10
 ·show (((p.files.set j ({ g2 with x := { g2.x with links := g2.x.links + 1 } } : GF)).set jtt ({ gt2 with x := { gt2.x with names := wBq (wAi o) g.id gt2.x.names }, ns := wBi gt2.ns (wAi o) g.id, na := a7, nc := c7 } : GF))).length ≤ p.fc; rw [List.length_set, List.length_set]; exact hpc
 ·exact wFh (wFh (fun q hq => (hpfs q hq).mono hM) ((links_ok hkxo _).mono hM)) ((named_ok hkto hktn hktz hM7 hc7 hs7).mono (hM9.trans hM10))
 rw [link_abs hfs hfr hz hv]
 refine Prod.ext ?_ rfl
 have e3 : GV.abs ({ p with files := ((p.files.set j ({ g2 with x := { g2.x with links := g2.x.links + 1 } } : GF)).set jtt ({ gt2 with x := { gt2.x with names := wBq (wAi o) g.id gt2.x.names }, ns := wBi gt2.ns (wAi o) g.id, na := a7, nc := c7 } : GF)) } : GV) = { gv.abs with files := lnk (wEb gv.abs.files gt.id (wAi o) g.id) g.id 1 } := by
  show ({ frozen := p.frozen, next := p.next, files := flsOf' ((p.files.set j ({ g2 with x := { g2.x with links := g2.x.links + 1 } } : GF)).set jtt ({ gt2 with x := { gt2.x with names := wBq (wAi o) g.id gt2.x.names }, ns := wBi gt2.ns (wAi o) g.id, na := a7, nc := c7 } : GF)) } : PV) = _
  rw [hcm, hF2, hpz, hnx]; rfl
 exact congrArg (fun z : PV => ({ f.abs with vols := wBq w.1 z f.abs.vols } : PS)) e3.symm
set_option maxHeartbeats 4000000 in
set_option maxRecDepth 4000 in
theorem rn_okf (f : GS) (n : Nat) (hwf : WFS n f.abs) (hn : n ≤ 100) (M : Mem) (hf : f.Ok M) (c : CL) (ca : Option Addr) (ck : Nat) (hC : CallOk M c ca ck) (h0 : 0 ≤ c.kind ∧ c.kind ≤ 255) (w : Wy) (na : Option Addr) (nc : Nat) (hW : WyOk M w na nc) (o : Wy) (oa : Option Addr) (oc : Nat) (hO : WyOk M o oa oc) (id : Int) (v : PV) (x : PF) (hw : wBb f.abs w.1 w.2 = .ok id) (hv : wAm w.1 f.abs.vols = some v) (hx : wAm id v.files = some x) (hne : w.2 ≠ []) (hk : c.kind = 14) (hn9 : n ≤ 90) (pd : Int) (hplp : wCj f.abs w = .ok pd) (t : Int) (hfr : wBo f.abs o w.1 (some pd) = .ok t) (hdir : x.dir = false) (hz : wAr f.abs w.1 = false) :
  SpecL Tryz.prog 29 #[gsV f, clV c ca ck, wyV w na nc, wyV o oa oc] M [] (RDoP (wBv insB f.abs w o)) := by
 have hl0 : 0 < w.2.length := List.length_pos_iff.2 hne
 have hbig := hW.big
 obtain ⟨pd9, v9, xd, hwd, hplc, hv9, hxd, hxdd, hxdn⟩ := wCb hwf hne hw
 rw [hplp] at hplc; cases hplc
 rw [hv] at hv9; cases hv9
 have hvl := wBh hwf
 obtain ⟨iv, hiv, gv, j, hj, g, vb, vo, fb, fo, rfl, rfl, rfl, eiv, hgv, hid, hwv, hfl, hgo, hnd, ev, hvx, efa, hg, hfx, hgi, hgk, hgx, hnn, hn32, hnsl, hfx2⟩ := opw hwf hf hv hx
 obtain ⟨jd, hjd, ejd, hjid, hjxd⟩ := GV.file hxd
 obtain ⟨gd, hgd⟩ : ∃ gd, gv.files[jd] = gd := ⟨_, rfl⟩
 rw [hgd] at hjid hjxd
 subst hjxd
 subst hjid
 have hfxd : wDf f.abs w.1 gd.id = (jd : Int) := by rw [wCp hv]; exact ejd
 have hfz : wAr f.abs w.1 = gv.frozen := by unfold wAr; rw [hv]; rfl
 obtain ⟨v2, xt, hv2, hxt, _, htd, hns2, hlt, hvol, hneo⟩ := wFm hwf hfr
 rw [hvol, hv] at hv2; cases hv2
 obtain ⟨jtt, hjtt, ejt, hjit, hjxt⟩ := GV.file hxt
 obtain ⟨gt, hgt⟩ : ∃ gt, gv.files[jtt] = gt := ⟨_, rfl⟩
 rw [hgt] at hjit hjxt
 subst hjxt
 subst hjit
 have hfxt : wDf f.abs o.1 gt.id = (jtt : Int) := by rw [hvol, wCp hv]; exact ejt
 obtain ⟨nb, no, en, hnx0⟩ := wFs hW.sn (i := w.2.length - 1) (by omega)
 have hlast : w.2[w.2.length - 1] = wAi w := by unfold wAi; rw [List.getLast?_eq_getElem?, List.getElem?_eq_getElem (by omega)]; rfl
 rw [hlast, show ((w.2.length - 1 : Nat) : Int) = (w.2.length : Int) - 1 by omega] at hnx0
 obtain ⟨hsz1, hsz2⟩ := wCy hwf hf hn
 have hlo0 : 0 < o.2.length := List.length_pos_iff.2 hneo
 have hbigo := hO.big
 obtain ⟨oq, oo, oen, honx⟩ := wFs hO.sn (i := o.2.length - 1) (by omega)
 have hlasto : o.2[o.2.length - 1] = wAi o := by unfold wAi; rw [List.getLast?_eq_getElem?, List.getElem?_eq_getElem (by omega)]; rfl
 rw [hlasto, show ((o.2.length - 1 : Nat) : Int) = (o.2.length : Int) - 1 by omega] at honx
 refine wAe (vs := [_, _, _, _]) 279 _ Tryz.func29 rfl Tryz.ntmps29 rfl rfl ?_; intro W
 refine wAb (wAa (sBx [_, _] rfl fun b4 => ?_))
 refine sBx [_, _, _, _, _, _, _] rfl fun b5 => ?_
 refine sBx [_, _] rfl fun b6 => ?_
 refine sBx [_, _] rfl fun b7 => ?_
 refine sAl rfl fun b8 => ?_
 refine sAl rfl fun b9 => ?_
 refine wAc (jT (wAb (wAa (sFL rfl rfl ?_))))
 refine lq (wCd rfl rfl rfl) ?_
 refine jp rfl (wAc (jT (wAb (wAb (wAa (sFL rfl rfl ?_))))))
 refine jt rfl (decide_eq_true (by omega)) ?_
 refine jp rfl (jp rfl (jf rfl (decide_eq_false (by omega)) ?_))
 refine jp rfl (wAc (jT (wAh rfl (wAd (jT (wAb (wAa (sLL rfl ?_))))))))
 refine sFL rfl rfl ?_
 refine sFL rfl rfl ?_
 refine lq (qEq (v' := .tuple #[.int .i64 (iv : Int), .int .i64 (j : Int), .int .i64 0]) (qCl (wAo f n hwf hn M hf w.1 w.2 na nc hW.sn hW.big)) (by rw [hw]; show Value.tuple #[.int .i64 (ixA w.1 (wAv f.vols)), .int .i64 (wDf f.abs w.1 g.id), _] = _; rw [eiv, hfx2])) ?_
 iterate 7 refine jp rfl ?_
 refine wAc (jT (wAb (wAb (wAa (jp rfl (jf rfl (decide_eq_false (by omega)) ?_))))))
 refine wAc (jT (wAh rfl (wAd (jT (wAb (wAa (sFL rfl rfl ?_)))))))
 refine jp rfl (lq (wAp rfl rfl rfl rfl ev (by omega)) ?_)
 refine sFa rfl ?_
 refine lq (qLd rfl rfl rfl rfl ((hvx 3 _ rfl).cj _)) ?_
 refine jp rfl (lq (wAp rfl rfl rfl rfl efa (by omega)) ?_)
 refine lq (wFt (cs := gfC g) rfl rfl rfl rfl rfl (fun j u hu => (hfx j u hu).cj _)) ?_
 refine sAl rfl fun b14 => ?_
 refine sSt rfl ?_
 refine wAc (jT (wAb (wAa (jp rfl (wAc (jT (wAb (wAb (wAa (jp rfl (jt rfl (decide_eq_true (by omega)) ?_)))))))))))
 refine wAc (jT (wAf rfl (wCw [(0, true), (1, true), (2, true), (3, true), (4, true), (5, true), (6, true), (7, true), (8, true), (9, true), (10, true), (11, true), (12, true), (13, true)] _ (fun _ h => h) ?_)))
 refine dLL rfl rfl ?_
 refine dFa rfl rfl ?_
 refine dLd rfl rfl ?_
 refine dFa rfl rfl ?_
 refine dLd rfl rfl ?_
 refine dp rfl rfl ?_
 refine da rfl rfl (by omega) ?_
 refine dq rfl (qEq (v' := .slice na w.2.dropLast.length nc) (qSl rfl rfl rfl (.no _) (.of rfl (by have := hW.big; omega) rfl) (.no _) (by have := hW.cap; omega) (by simp)) (by rw [wCo, List.length_dropLast, show ((w.2.length : Int) - 1).toNat = w.2.length - 1 by omega]; rfl)) ?_
 refine dq rfl (qEq (v' := .tuple #[.int .i64 (iv : Int), .int .i64 (jd : Int), .int .i64 0]) (qCl (wAo f n hwf hn M hf w.1 w.2.dropLast na nc hW.sn.init (by rw [List.length_dropLast]; have := hW.big; omega))) (by rw [hwd]; show Value.tuple #[.int .i64 (ixA w.1 (wAv f.vols)), .int .i64 (wDf f.abs w.1 gd.id), _] = _; rw [eiv, hfxd])) ?_
 iterate 5 refine dp rfl rfl ?_
 refine wAs (jPn (jT (wAb (wAa (jp rfl (wAc (jT (wAb (wAb (wAa (sFL rfl rfl ?_)))))))))))
 refine wAc (jT (wAk (wAb (wAb (wAa (jf rfl (decide_eq_false (by omega)) ?_))))))
 refine jp rfl (wAc (jT (wAh rfl (wAa (jf rfl (decide_eq_false (by omega)) ?_)))))
 refine jp rfl (wAc (jT (wAh rfl (wAb (wAa (jf rfl (decide_eq_false (by omega)) ?_))))))
 refine jp rfl (wAc (jT (wAh rfl (wAd (jB (jT (wAb (wAb (wAa (sFL rfl rfl ?_))))))))))
 refine jf rfl (decide_eq_false (by omega)) ?_
 refine jp rfl (sFL rfl rfl ?_)
 refine jt rfl (decide_eq_true (by omega)) ?_
 refine jp rfl (wAc (jT (wAf rfl (wAb (wAa (jp rfl (wAc (jT (wAb (wAb (wAa (sFL rfl rfl ?_))))))))))))
 refine jt rfl (decide_eq_true (by omega)) ?_
 refine wAc (jT (wAf rfl (wAa (jp rfl (jp rfl (wAc (jT (wAb (wAa (sLL rfl ?_))))))))))
 refine sLL rfl ?_
 refine sFL rfl rfl ?_
 refine jp rfl ?_
 refine lq (qEq (v' := .tuple #[.int .i64 (jtt : Int), .int .i64 0]) (qCall rfl rfl rfl rfl rfl (by kernel_rfl) (by have := wDp f n hwf hn M hf o oa oc hO w.1 (some gd.id) (by intro d h hv0; cases h; exact ⟨_, _, (by rw [hv0]; exact hv), hxd⟩); rw [show sameI f.abs w.1 (some gd.id) = (jd : Int) from hfxd] at this; exact this)) (by rw [hfr]; show Value.tuple #[.int .i64 (wDf f.abs o.1 gt.id), _] = _; rw [hfxt])) ?_
 refine jp rfl (jp rfl (jp rfl (jp rfl (jp rfl (wAc (jT (wAb (wAa (jp rfl (jf rfl (decide_eq_false (by omega)) ?_))))))))))
 refine wAc (jT (wAh rfl (wAd (jT (wAb (wAb (wCw [(0, true), (1, true), (2, true), (3, true), (4, true), (5, true), (6, true), (7, true), (8, true), (9, true), (10, true), (11, true), (12, true), (13, true), (14, true), (15, true), (16, true), (17, true), (18, true), (19, true), (20, true), (21, true), (22, true), (23, true), (24, true), (25, true), (26, true)] [(b14, .cells (gfC g).toArray 93 (0, 0)), (b5, .cells (wDa c ca ck).toArray 45 (0, 0)), (b4, .cells (gsC f).toArray 53 (0, 0))] (by simp) ?_)))))))
 refine dFa rfl rfl ?_
 refine dLd rfl rfl ?_
 refine dt rfl rfl (decide_eq_true (by omega)) ?_
 refine dp rfl rfl ?_
 refine dFa rfl rfl ?_
 refine dq rfl (qEq (qLd rfl rfl rfl rfl (CJ.loc rfl)) (v' := .bool false) (by rw [hdir])) ?_
 iterate 21 refine dp rfl rfl ?_
 refine wAs (jPn (jT (wAh rfl (wAd (jT (wAb (wAb (wAa (sFL rfl rfl ?_)))))))))
 refine jp rfl (lq (wAp rfl rfl rfl rfl ev (by omega)) ?_)
 refine sFa rfl ?_
 refine lq (qEq (qLd rfl rfl rfl rfl ((hvx 1 _ rfl).cj _)) (v' := .bool false) (by rw [hfz] at hz; rw [hz])) ?_
 refine wAc (jT (wAh rfl (wAd (jT (wAb (wAa (sLL rfl ?_)))))))
 refine wCe rfl rfl (hCl (wFd f M hf hsz1 hsz2)) ?_; rintro _ M2 _ ⟨hM2, _, rfl, ⟨vs, va2, vc2, Rv, rfl, hvs, hown, hall, rfl⟩⟩
 obtain ⟨hiv2, hpi, hpa⟩ := tw_at hvs hiv
 rw [hgv] at hpi hpa
 have hpl := wLq hpa
 refine wGg hiv2 hown hall (by omega) ?_
 intro M3 vb2 fb2 sp fsp hF
 obtain ⟨p, hp⟩ : ∃ p, (vs[iv]).1 = p := ⟨_, rfl⟩
 have hF2 := hF
 obtain ⟨hM3, hoth, hpfs, hva, hvc, hvlen, hvm, hpf, hpc, hplen, hpm⟩ := hF2
 subst hva
 rw [hp] at hpi hpa hpl hpfs hpf hpc hplen hpm ⊢
 have hvq : (vsF vs)[iv]? = some p := by rw [List.getElem?_map, List.getElem?_eq_getElem hiv2, Option.map_some, hp]
 have hvsl : (vsF vs).length = vs.length := List.length_map _
 have hnx : p.next = gv.next := congrArg PV.next hpa
 have hpz : p.frozen = gv.frozen := congrArg PV.frozen hpa
 have h2n : 2 ≤ gv.next := hwv.two
 have hmn : gv.next ≤ 2 + (n : Int) := hwv.most
 have hlenvs : vs.length = f.vols.length := by have := congrArg List.length hvs; simpa using this
 have hnd2 : (wBg (flsOf' p.files)).Nodup := by rw [show flsOf' p.files = flsOf' gv.files from congrArg PV.files hpa]; exact hnd
 have hfl2 : flsOf' p.files = gv.abs.files := congrArg PV.files hpa
 obtain ⟨hkd2, hkdid, hkdx⟩ := wKw hpa hjd
 rw [hgd] at hkdid hkdx
 obtain ⟨gd2, hkdg⟩ : ∃ z, p.files[jd] = z := ⟨_, rfl⟩
 rw [hkdg] at hkdid hkdx
 have hkdq : p.files[jd]? = some gd2 := by rw [List.getElem?_eq_getElem hkd2, hkdg]
 have hkdo : gd2.Ok M3 := hkdg ▸ hpfs _ (List.getElem_mem hkd2)
 have hkd32 : gd2.ns.length ≤ 32 := by rw [wCk hkdo, hkdx]; exact (hwv.wf.len _ _ hxd).2
 obtain ⟨hkt2, hktid, hktx⟩ := wKw hpa hjtt
 rw [hgt] at hktid hktx
 obtain ⟨gt2, hktg⟩ : ∃ z, p.files[jtt] = z := ⟨_, rfl⟩
 rw [hktg] at hktid hktx
 have hktq : p.files[jtt]? = some gt2 := by rw [List.getElem?_eq_getElem hkt2, hktg]
 have hkto : gt2.Ok M3 := hktg ▸ hpfs _ (List.getElem_mem hkt2)
 have hkt32 : gt2.ns.length ≤ 32 := by rw [wCk hkto, hktx]; exact (hwv.wf.len _ _ hxt).2
 refine sAl rfl fun b18 => ?_
 refine sSt rfl ?_
 refine wAc (jT (wAb (wAa (sFL rfl rfl ?_))))
 refine jp rfl (lq (wAp rfl rfl rfl rfl rfl (by omega)) ?_)
 refine sFa rfl ?_
 refine lq (qLd rfl rfl rfl rfl (wCx wBy hvq 3 _ rfl)) ?_
 refine jp rfl (wAc (jT (wAb (wAb (wAa (sFL rfl rfl ?_))))))
 refine jt rfl (decide_eq_true (by omega)) ?_
 refine wAc (jT (wAf rfl (wBn (p := { A := fun i => !([16].contains i), U := fun i => !([16].contains i) }) [(0, true), (1, true), (2, true), (3, true), (4, true), (5, true), (6, true), (7, true), (8, true), (9, true), (10, true), (11, true), (12, true), (13, false), (14, true), (15, true), (16, false)] M3 ([(fb2, .cells ((p.files).flatMap gfC ++ fsp).toArray 93 (0, 0)), (b6, .cells [.int .i64 w.1, .slice na w.2.length nc].toArray 65 (0, 0))]) ([]) (by kernel_rfl) (by kernel_rfl) (by kernel_rfl) (by kernel_rfl) rfl (by simp) (MLe.refl _) (by simp) ?_)))
 iterate 4 refine dp rfl rfl ?_
 refine dq rfl (wAp rfl rfl rfl rfl hpf (show (0 : Int) ≤ (jd : Int) ∧ (jd : Int) < ((p.files.length : Nat) : Int) from ⟨by omega, by omega⟩)) ?_
 refine dFa rfl rfl ?_
 refine dq rfl (qLd rfl rfl rfl rfl (wCx wBa hkdq 4 _ rfl)) ?_
 refine dFa rfl rfl ?_
 refine dLd rfl rfl ?_
 refine dp rfl rfl ?_
 refine da rfl rfl (by omega) ?_
 refine dq rfl (wAp rfl rfl rfl rfl en (by omega)) ?_
 refine dq rfl (qLd rfl rfl rfl rfl (((hnx0.mono hM2).mono hM3).cj _)) ?_
 refine wJf rfl rfl rfl (hCl (wJt gd2.ns gd2.na gd2.nc M3 hkdo.na (by omega) (wAi w))) ?_; rintro _ M7 _ ⟨hM7, _, rfl, ⟨a7, c7, rfl, hc7, hs7, rfl⟩⟩
 refine ⟨_, _, MLe.refl _, hM7, fun _ h => h, by simp, ?_⟩
 refine dq rfl (wAp rfl rfl rfl rfl hpf (show (0 : Int) ≤ (jd : Int) ∧ (jd : Int) < ((p.files.length : Nat) : Int) from ⟨by omega, by omega⟩)) ?_
 refine dFa rfl rfl ?_
 refine wJu rfl rfl (wBw (l2 := (p.files.set jd ({ gd2 with x := { gd2.x with names := wBc (wAi w) gd2.x.names }, ns := wBc (wAi w) gd2.ns, na := a7, nc := c7 } : GF)).flatMap gfC ++ fsp) rfl rfl rfl rfl rfl rfl rfl (wDj wBa hkdq (Nat.le_of_ble_eq_true rfl)) (wDi wBa hkdq (Nat.le_of_ble_eq_true rfl) rfl)) ?_; rintro _ _ _ ⟨rfl, rfl⟩
 refine ⟨(by first | exact MLe.refl _ | exact hM7 | exact hM8), by simp, ?_⟩
 refine wCu ?_
 refine jPn (jT (wAb (wAb (wAa (sFL rfl rfl ?_)))))
 refine wAc (jT (wAk (wAb (wAa (jf rfl (decide_eq_false (by omega)) ?_)))))
 refine jp rfl (wAc (jT (wAh rfl (wAb (wAa (jt rfl (decide_eq_true (by omega)) ?_))))))
 refine jp rfl (wAc (jT (wAf rfl ?_)))
 obtain ⟨q2, hq1, hqc⟩ := set_any (gd1 := ({ gd2 with x := { gd2.x with names := wBc (wAi w) gd2.x.names }, ns := wBc (wAi w) gd2.ns, na := a7, nc := c7 } : GF)) hkdq hktq
 have hqo : q2.Ok M7 := by
  rcases hqc with ⟨rfl, _⟩ | rfl
  ·exact wKs hkdo hM7 hc7 hs7
  exact hkto.mono hM7
 have hqid : q2.id = gt.id := by
  rcases hqc with ⟨rfl, e⟩ | rfl
  ·rw [← hktid, e]
  exact hktid
 have hq32 : q2.ns.length ≤ 32 := by
  rcases hqc with ⟨rfl, _⟩ | rfl
  ·exact Nat.le_trans (List.length_filter_le _ _) hkd32
  exact hkt32
 have hqnd : (wBg q2.x.names).Nodup := by
  rcases hqc with ⟨rfl, _⟩ | rfl
  ·show (wBg (wBc (wAi w) gd2.x.names)).Nodup; rw [hkdx]; exact (hwv.wf.nmd _ _ hxd).sublist (List.Sublist.map _ List.filter_sublist)
  rw [hktx]; exact hwv.wf.nmd _ _ hxt
 have hqno : wAm (wAi o) q2.x.names = none := by
  rcases hqc with ⟨rfl, e⟩ | rfl
  ·show wAm (wAi o) (wBc (wAi w) gd2.x.names) = none; rw [← e, hktx, wFo, hns2]; split <;> rfl
  rw [hktx]; exact hns2
 refine wBn (p := { A := fun i => !([20].contains i), U := fun i => !([20].contains i) }) [(0, true), (1, true), (2, true), (3, true), (4, true), (5, true), (6, true), (7, true), (8, true), (9, true), (10, true), (11, true), (12, true), (13, true), (14, true), (15, true), (16, true), (17, false), (18, true), (19, true), (20, false)] M7 ([(fb2, .cells (((p.files.set jd ({ gd2 with x := { gd2.x with names := wBc (wAi w) gd2.x.names }, ns := wBc (wAi w) gd2.ns, na := a7, nc := c7 } : GF))).flatMap gfC ++ fsp).toArray 93 (0, 0)), (b7, .cells [.int .i64 o.1, .slice oa o.2.length oc].toArray 65 (0, 0)), (b14, .cells (gfC g).toArray 93 (0, 0))]) ([]) (by kernel_rfl) (by kernel_rfl) (by kernel_rfl) (by kernel_rfl) rfl (by simp) (MLe.refl _) (by simp) ?_
 iterate 4 refine dp rfl rfl ?_
 refine dq rfl (wAp rfl rfl rfl rfl hpf (show (0 : Int) ≤ (jtt : Int) ∧ (jtt : Int) < ((p.files.length : Nat) : Int) from ⟨by omega, by omega⟩)) ?_
 refine dFa rfl rfl ?_
 refine dq rfl (qLd rfl rfl rfl rfl (wCx wBa hq1 4 _ rfl)) ?_
 refine dFa rfl rfl ?_
 refine dLd rfl rfl ?_
 refine dFa rfl rfl ?_
 refine dLd rfl rfl ?_
 refine dq rfl (wCd rfl rfl rfl) ?_
 refine da rfl rfl (by omega) ?_
 refine dq rfl (wAp rfl rfl rfl rfl oen (by omega)) ?_
 refine dq rfl (qLd rfl rfl rfl rfl ((((honx.mono hM2).mono hM3).mono hM7).cj _)) ?_
 refine dFa rfl rfl ?_
 refine dLd rfl rfl ?_
 refine wJf rfl rfl rfl (hCl (wJy q2.ns q2.na q2.nc M7 hqo.na (by omega) (wAi o) g.id)) ?_; rintro _ M8 _ ⟨hM8, _, rfl, ⟨a9, c9, rfl, hc9, hs9, rfl⟩⟩
 refine ⟨_, _, MLe.refl _, hM8, fun _ h => h, by simp, ?_⟩
 refine dq rfl (wAp rfl rfl rfl rfl hpf (show (0 : Int) ≤ (jtt : Int) ∧ (jtt : Int) < ((p.files.length : Nat) : Int) from ⟨by omega, by omega⟩)) ?_
 refine dFa rfl rfl ?_
 refine wJu rfl rfl (wBw (l2 := ((p.files.set jd ({ gd2 with x := { gd2.x with names := wBc (wAi w) gd2.x.names }, ns := wBc (wAi w) gd2.ns, na := a7, nc := c7 } : GF)).set jtt ({ q2 with x := { q2.x with names := wBq (wAi o) g.id q2.x.names }, ns := wBi q2.ns (wAi o) g.id, na := a9, nc := c9 } : GF)).flatMap gfC ++ fsp) rfl rfl rfl rfl rfl rfl rfl (wDj wBa hq1 (Nat.le_of_ble_eq_true rfl)) (wDi wBa hq1 (Nat.le_of_ble_eq_true rfl) rfl)) ?_; rintro _ _ _ ⟨rfl, rfl⟩
 refine ⟨(by first | exact MLe.refl _ | exact hM7 | exact hM8), by simp, ?_⟩
 refine wCu ?_
 refine jPn (jB (jT (wAb (wAa (sLL rfl ?_)))))
 refine lq (wBe (cs := [_, _, _, _, _, _, _, _]) rfl rfl rfl (by rfl)) ?_
 refine sSt rfl ?_
 refine sSt rfl ?_
 refine wAc (jT (wAg (wCt fb2 (by simp) ?_)))
 intro M11 hM11 e11
 refine wCt vb2 (by simp) ?_
 intro M10 hM10 e10
 refine wEj (rs := [_, _]) rfl (.cons (.agg rfl rfl rfl) (.cons (.agg rfl rfl rfl) .nil)) ?_
 have hF1 : flsOf' (p.files.set jd ({ gd2 with x := { gd2.x with names := wBc (wAi w) gd2.x.names }, ns := wBc (wAi w) gd2.ns, na := a7, nc := c7 } : GF)) = wCg gv.abs.files gd.id (wAi w) := by rw [wGv (g' := ({ gd2 with x := { gd2.x with names := wBc (wAi w) gd2.x.names }, ns := wBc (wAi w) gd2.ns, na := a7, nc := c7 } : GF)) hnd2 hkdq rfl (fun x => { x with names := wBc (wAi w) x.names }) rfl, hfl2, hkdid]; rfl
 have hnd3 : (wBg (flsOf' (p.files.set jd ({ gd2 with x := { gd2.x with names := wBc (wAi w) gd2.x.names }, ns := wBc (wAi w) gd2.ns, na := a7, nc := c7 } : GF)))).Nodup := by rw [hF1]; unfold wCg; rw [wGf]; exact hnd
 have hF2 : flsOf' ((p.files.set jd ({ gd2 with x := { gd2.x with names := wBc (wAi w) gd2.x.names }, ns := wBc (wAi w) gd2.ns, na := a7, nc := c7 } : GF)).set jtt ({ q2 with x := { q2.x with names := wBq (wAi o) g.id q2.x.names }, ns := wBi q2.ns (wAi o) g.id, na := a9, nc := c9 } : GF)) = wEb (wCg gv.abs.files gd.id (wAi w)) gt.id (wAi o) g.id := by rw [wGv (g' := ({ q2 with x := { q2.x with names := wBq (wAi o) g.id q2.x.names }, ns := wBi q2.ns (wAi o) g.id, na := a9, nc := c9 } : GF)) hnd3 hq1 rfl (fun x => { x with names := wBq (wAi o) g.id x.names }) rfl, hF1, hqid]; rfl
 have hM := ((hM7.trans hM8).trans hM11).trans hM10
 have hM2_ := (hM8.trans hM11).trans hM10
 rw [← wHh hvq (v2 := ({ p with files := ((p.files.set jd ({ gd2 with x := { gd2.x with names := wBc (wAi w) gd2.x.names }, ns := wBc (wAi w) gd2.ns, na := a7, nc := c7 } : GF)).set jtt ({ q2 with x := { q2.x with names := wBq (wAi o) g.id q2.x.names }, ns := wBi q2.ns (wAi o) g.id, na := a9, nc := c9 } : GF)) } : GV)) (by show [_, _, _, Value.slice _ (((p.files.set jd ({ gd2 with x := { gd2.x with names := wBc (wAi w) gd2.x.names }, ns := wBc (wAi w) gd2.ns, na := a7, nc := c7 } : GF)).set jtt ({ q2 with x := { q2.x with names := wBq (wAi o) g.id q2.x.names }, ns := wBi q2.ns (wAi o) g.id, na := a9, nc := c9 } : GF))).length _] = _; rw [List.length_set, List.length_set])] at e10
 refine RDoP.vol hwf hvs hiv2 (by rw [hp, hpi, hid]) (v2 := ({ p with files := ((p.files.set jd ({ gd2 with x := { gd2.x with names := wBc (wAi w) gd2.x.names }, ns := wBc (wAi w) gd2.ns, na := a7, nc := c7 } : GF)).set jtt ({ q2 with x := { q2.x with names := wBq (wAi o) g.id q2.x.names }, ns := wBi q2.ns (wAi o) g.id, na := a9, nc := c9 } : GF)) } : GV)) (by rw [hpi, hid]) e10 hvc (fun i hi hne => (hoth i hi hne).mono hM) ⟨?_, ?_, ?_⟩ (rp := {}) ?_ rfl rfl
 ·show SM M10 p.fa (((p.files.set jd ({ gd2 with x := { gd2.x with names := wBc (wAi w) gd2.x.names }, ns := wBc (wAi w) gd2.ns, na := a7, nc := c7 } : GF)).set jtt ({ q2 with x := { q2.x with names := wBq (wAi o) g.id q2.x.names }, ns := wBi q2.ns (wAi o) g.id, na := a9, nc := c9 } : GF)).flatMap gfC); rw [hpf]; exact (sm_of e11).mono hM10
 ·show (((p.files.set jd ({ gd2 with x := { gd2.x with names := wBc (wAi w) gd2.x.names }, ns := wBc (wAi w) gd2.ns, na := a7, nc := c7 } : GF)).set jtt ({ q2 with x := { q2.x with names := wBq (wAi o) g.id q2.x.names }, ns := wBi q2.ns (wAi o) g.id, na := a9, nc := c9 } : GF))).length ≤ p.fc; rw [List.length_set, List.length_set]; exact hpc
 ·exact wFh (wFh (fun q hq => (hpfs q hq).mono hM) ((wKs hkdo hM7 hc7 hs7).mono hM2_)) ((named_ok hqo hqnd hqno hM8 hc9 hs9).mono (hM11.trans hM10))
 have hfa : wEs f.abs w.1 g.id = some g.x := by unfold wEs; rw [hv]; exact hgx
 rw [rename_abs hne hw hplp hfr (by unfold wGu; rw [hfa]; simp [hdir]) hz hv]
 refine Prod.ext ?_ rfl
 have e3 : GV.abs ({ p with files := ((p.files.set jd ({ gd2 with x := { gd2.x with names := wBc (wAi w) gd2.x.names }, ns := wBc (wAi w) gd2.ns, na := a7, nc := c7 } : GF)).set jtt ({ q2 with x := { q2.x with names := wBq (wAi o) g.id q2.x.names }, ns := wBi q2.ns (wAi o) g.id, na := a9, nc := c9 } : GF)) } : GV) = { gv.abs with files := wEb (wCg gv.abs.files gd.id (wAi w)) gt.id (wAi o) g.id } := by
  show ({ frozen := p.frozen, next := p.next, files := flsOf' ((p.files.set jd ({ gd2 with x := { gd2.x with names := wBc (wAi w) gd2.x.names }, ns := wBc (wAi w) gd2.ns, na := a7, nc := c7 } : GF)).set jtt ({ q2 with x := { q2.x with names := wBq (wAi o) g.id q2.x.names }, ns := wBi q2.ns (wAi o) g.id, na := a9, nc := c9 } : GF)) } : PV) = _
  rw [hF2, hpz, hnx]; rfl
 exact congrArg (fun z : PV => ({ f.abs with vols := wBq w.1 z f.abs.vols } : PS)) e3.symm
set_option maxHeartbeats 4000000 in
set_option maxRecDepth 4000 in
theorem rn_okd (f : GS) (n : Nat) (hwf : WFS n f.abs) (hn : n ≤ 100) (M : Mem) (hf : f.Ok M) (c : CL) (ca : Option Addr) (ck : Nat) (hC : CallOk M c ca ck) (h0 : 0 ≤ c.kind ∧ c.kind ≤ 255) (w : Wy) (na : Option Addr) (nc : Nat) (hW : WyOk M w na nc) (o : Wy) (oa : Option Addr) (oc : Nat) (hO : WyOk M o oa oc) (id : Int) (v : PV) (x : PF) (hw : wBb f.abs w.1 w.2 = .ok id) (hv : wAm w.1 f.abs.vols = some v) (hx : wAm id v.files = some x) (hne : w.2 ≠ []) (hk : c.kind = 14) (hn9 : n ≤ 90) (pd : Int) (hplp : wCj f.abs w = .ok pd) (t : Int) (hfr : wBo f.abs o w.1 (some pd) = .ok t) (hdir : x.dir = true) (hin : insB f.abs w.1 t id = false) (hz : wAr f.abs w.1 = false) :
  SpecL Tryz.prog 29 #[gsV f, clV c ca ck, wyV w na nc, wyV o oa oc] M [] (RDoP (wBv insB f.abs w o)) := by
 have hl0 : 0 < w.2.length := List.length_pos_iff.2 hne
 have hbig := hW.big
 obtain ⟨pd9, v9, xd, hwd, hplc, hv9, hxd, hxdd, hxdn⟩ := wCb hwf hne hw
 rw [hplp] at hplc; cases hplc
 rw [hv] at hv9; cases hv9
 have hvl := wBh hwf
 obtain ⟨iv, hiv, gv, j, hj, g, vb, vo, fb, fo, rfl, rfl, rfl, eiv, hgv, hid, hwv, hfl, hgo, hnd, ev, hvx, efa, hg, hfx, hgi, hgk, hgx, hnn, hn32, hnsl, hfx2⟩ := opw hwf hf hv hx
 obtain ⟨jd, hjd, ejd, hjid, hjxd⟩ := GV.file hxd
 obtain ⟨gd, hgd⟩ : ∃ gd, gv.files[jd] = gd := ⟨_, rfl⟩
 rw [hgd] at hjid hjxd
 subst hjxd
 subst hjid
 have hfxd : wDf f.abs w.1 gd.id = (jd : Int) := by rw [wCp hv]; exact ejd
 have hfz : wAr f.abs w.1 = gv.frozen := by unfold wAr; rw [hv]; rfl
 obtain ⟨v2, xt, hv2, hxt, _, htd, hns2, hlt, hvol, hneo⟩ := wFm hwf hfr
 rw [hvol, hv] at hv2; cases hv2
 obtain ⟨jtt, hjtt, ejt, hjit, hjxt⟩ := GV.file hxt
 obtain ⟨gt, hgt⟩ : ∃ gt, gv.files[jtt] = gt := ⟨_, rfl⟩
 rw [hgt] at hjit hjxt
 subst hjxt
 subst hjit
 have hfxt : wDf f.abs o.1 gt.id = (jtt : Int) := by rw [hvol, wCp hv]; exact ejt
 obtain ⟨nb, no, en, hnx0⟩ := wFs hW.sn (i := w.2.length - 1) (by omega)
 have hlast : w.2[w.2.length - 1] = wAi w := by unfold wAi; rw [List.getLast?_eq_getElem?, List.getElem?_eq_getElem (by omega)]; rfl
 rw [hlast, show ((w.2.length - 1 : Nat) : Int) = (w.2.length : Int) - 1 by omega] at hnx0
 obtain ⟨hsz1, hsz2⟩ := wCy hwf hf hn
 have hlo0 : 0 < o.2.length := List.length_pos_iff.2 hneo
 have hbigo := hO.big
 obtain ⟨oq, oo, oen, honx⟩ := wFs hO.sn (i := o.2.length - 1) (by omega)
 have hlasto : o.2[o.2.length - 1] = wAi o := by unfold wAi; rw [List.getLast?_eq_getElem?, List.getElem?_eq_getElem (by omega)]; rfl
 rw [hlasto, show ((o.2.length - 1 : Nat) : Int) = (o.2.length : Int) - 1 by omega] at honx
 have hins : insD gv.abs.files gt.id g.id = false := by unfold insB at hin; rw [hv] at hin; exact hin
 refine wAe (vs := [_, _, _, _]) 279 _ Tryz.func29 rfl Tryz.ntmps29 rfl rfl ?_; intro W
 refine wAb (wAa (sBx [_, _] rfl fun b4 => ?_))
 refine sBx [_, _, _, _, _, _, _] rfl fun b5 => ?_
 refine sBx [_, _] rfl fun b6 => ?_
 refine sBx [_, _] rfl fun b7 => ?_
 refine sAl rfl fun b8 => ?_
 refine sAl rfl fun b9 => ?_
 refine wAc (jT (wAb (wAa (sFL rfl rfl ?_))))
 refine lq (wCd rfl rfl rfl) ?_
 refine jp rfl (wAc (jT (wAb (wAb (wAa (sFL rfl rfl ?_))))))
 refine jt rfl (decide_eq_true (by omega)) ?_
 refine jp rfl (jp rfl (jf rfl (decide_eq_false (by omega)) ?_))
 refine jp rfl (wAc (jT (wAh rfl (wAd (jT (wAb (wAa (sLL rfl ?_))))))))
 refine sFL rfl rfl ?_
 refine sFL rfl rfl ?_
 refine lq (qEq (v' := .tuple #[.int .i64 (iv : Int), .int .i64 (j : Int), .int .i64 0]) (qCl (wAo f n hwf hn M hf w.1 w.2 na nc hW.sn hW.big)) (by rw [hw]; show Value.tuple #[.int .i64 (ixA w.1 (wAv f.vols)), .int .i64 (wDf f.abs w.1 g.id), _] = _; rw [eiv, hfx2])) ?_
 iterate 7 refine jp rfl ?_
 refine wAc (jT (wAb (wAb (wAa (jp rfl (jf rfl (decide_eq_false (by omega)) ?_))))))
 refine wAc (jT (wAh rfl (wAd (jT (wAb (wAa (sFL rfl rfl ?_)))))))
 refine jp rfl (lq (wAp rfl rfl rfl rfl ev (by omega)) ?_)
 refine sFa rfl ?_
 refine lq (qLd rfl rfl rfl rfl ((hvx 3 _ rfl).cj _)) ?_
 refine jp rfl (lq (wAp rfl rfl rfl rfl efa (by omega)) ?_)
 refine lq (wFt (cs := gfC g) rfl rfl rfl rfl rfl (fun j u hu => (hfx j u hu).cj _)) ?_
 refine sAl rfl fun b14 => ?_
 refine sSt rfl ?_
 refine wAc (jT (wAb (wAa (jp rfl (wAc (jT (wAb (wAb (wAa (jp rfl (jt rfl (decide_eq_true (by omega)) ?_)))))))))))
 refine wAc (jT (wAf rfl (wCw [(0, true), (1, true), (2, true), (3, true), (4, true), (5, true), (6, true), (7, true), (8, true), (9, true), (10, true), (11, true), (12, true), (13, true)] _ (fun _ h => h) ?_)))
 refine dLL rfl rfl ?_
 refine dFa rfl rfl ?_
 refine dLd rfl rfl ?_
 refine dFa rfl rfl ?_
 refine dLd rfl rfl ?_
 refine dp rfl rfl ?_
 refine da rfl rfl (by omega) ?_
 refine dq rfl (qEq (v' := .slice na w.2.dropLast.length nc) (qSl rfl rfl rfl (.no _) (.of rfl (by have := hW.big; omega) rfl) (.no _) (by have := hW.cap; omega) (by simp)) (by rw [wCo, List.length_dropLast, show ((w.2.length : Int) - 1).toNat = w.2.length - 1 by omega]; rfl)) ?_
 refine dq rfl (qEq (v' := .tuple #[.int .i64 (iv : Int), .int .i64 (jd : Int), .int .i64 0]) (qCl (wAo f n hwf hn M hf w.1 w.2.dropLast na nc hW.sn.init (by rw [List.length_dropLast]; have := hW.big; omega))) (by rw [hwd]; show Value.tuple #[.int .i64 (ixA w.1 (wAv f.vols)), .int .i64 (wDf f.abs w.1 gd.id), _] = _; rw [eiv, hfxd])) ?_
 iterate 5 refine dp rfl rfl ?_
 refine wAs (jPn (jT (wAb (wAa (jp rfl (wAc (jT (wAb (wAb (wAa (sFL rfl rfl ?_)))))))))))
 refine wAc (jT (wAk (wAb (wAb (wAa (jf rfl (decide_eq_false (by omega)) ?_))))))
 refine jp rfl (wAc (jT (wAh rfl (wAa (jf rfl (decide_eq_false (by omega)) ?_)))))
 refine jp rfl (wAc (jT (wAh rfl (wAb (wAa (jf rfl (decide_eq_false (by omega)) ?_))))))
 refine jp rfl (wAc (jT (wAh rfl (wAd (jB (jT (wAb (wAb (wAa (sFL rfl rfl ?_))))))))))
 refine jf rfl (decide_eq_false (by omega)) ?_
 refine jp rfl (sFL rfl rfl ?_)
 refine jt rfl (decide_eq_true (by omega)) ?_
 refine jp rfl (wAc (jT (wAf rfl (wAb (wAa (jp rfl (wAc (jT (wAb (wAb (wAa (sFL rfl rfl ?_))))))))))))
 refine jt rfl (decide_eq_true (by omega)) ?_
 refine wAc (jT (wAf rfl (wAa (jp rfl (jp rfl (wAc (jT (wAb (wAa (sLL rfl ?_))))))))))
 refine sLL rfl ?_
 refine sFL rfl rfl ?_
 refine jp rfl ?_
 refine lq (qEq (v' := .tuple #[.int .i64 (jtt : Int), .int .i64 0]) (qCall rfl rfl rfl rfl rfl (by kernel_rfl) (by have := wDp f n hwf hn M hf o oa oc hO w.1 (some gd.id) (by intro d h hv0; cases h; exact ⟨_, _, (by rw [hv0]; exact hv), hxd⟩); rw [show sameI f.abs w.1 (some gd.id) = (jd : Int) from hfxd] at this; exact this)) (by rw [hfr]; show Value.tuple #[.int .i64 (wDf f.abs o.1 gt.id), _] = _; rw [hfxt])) ?_
 refine jp rfl (jp rfl (jp rfl (jp rfl (jp rfl (wAc (jT (wAb (wAa (jp rfl (jf rfl (decide_eq_false (by omega)) ?_))))))))))
 refine wAc (jT (wAh rfl (wAd (jT (wAb (wAb (wCw [(0, true), (1, true), (2, true), (3, true), (4, true), (5, true), (6, true), (7, true), (8, true), (9, true), (10, true), (11, true), (12, true), (13, true), (14, true), (15, true), (16, true), (17, true), (18, true), (19, true), (20, true), (21, true), (22, true), (23, true), (24, true), (25, true), (26, true)] [(b14, .cells (gfC g).toArray 93 (0, 0)), (b5, .cells (wDa c ca ck).toArray 45 (0, 0)), (b4, .cells (gsC f).toArray 53 (0, 0))] (by simp) ?_)))))))
 refine dFa rfl rfl ?_
 refine dLd rfl rfl ?_
 refine dt rfl rfl (decide_eq_true (by omega)) ?_
 refine dp rfl rfl ?_
 refine dFa rfl rfl ?_
 refine dq rfl (qEq (qLd rfl rfl rfl rfl (CJ.loc rfl)) (v' := .bool true) (by rw [hdir])) ?_
 iterate 2 refine dp rfl rfl ?_
 refine dFa rfl rfl ?_
 refine dLd rfl rfl ?_
 refine dp rfl rfl ?_
 refine dq rfl (wAp rfl rfl rfl rfl ev (by omega)) ?_
 refine dq rfl (wFt (cs := gvC gv) rfl rfl rfl rfl rfl (fun j u hu => (hvx j u hu).cj _)) ?_
 refine dFa rfl rfl ?_
 refine dLd rfl rfl ?_
 refine dp rfl rfl ?_
 refine dq rfl (wAp rfl rfl rfl rfl ev (by omega)) ?_
 refine dFa rfl rfl ?_
 refine dq rfl (qLd rfl rfl rfl rfl ((hvx 3 _ rfl).cj _)) ?_
 refine dp rfl rfl ?_
 obtain ⟨fb3, fo3, efa3, hfx3⟩ := wDh wBa hgo.fa hjtt (by omega)
 rw [hgt] at hfx3
 have hjt4 : (0 : Int) ≤ (jtt : Int) ∧ (jtt : Int) < ((gv.files.length : Nat) : Int) := ⟨by omega, by omega⟩
 refine dq rfl (wAp rfl rfl rfl rfl efa3 hjt4) ?_
 refine dFa rfl rfl ?_
 refine dq rfl (qLd rfl rfl rfl rfl ((hfx3 0 _ rfl).cj _)) ?_
 refine dFa rfl rfl ?_
 refine dLd rfl rfl ?_
 refine dq rfl (qEq (qCl (wKo gv n hwv hn9 M hgo gt.id g.id g.x hgx)) (v' := .bool false) (by rw [hins])) ?_
 refine dp rfl rfl ?_
 refine wAs (jPn (jT (wAh rfl (wAd (jT (wAb (wAb (wAa (sFL rfl rfl ?_)))))))))
 refine jp rfl (lq (wAp rfl rfl rfl rfl ev (by omega)) ?_)
 refine sFa rfl ?_
 refine lq (qEq (qLd rfl rfl rfl rfl ((hvx 1 _ rfl).cj _)) (v' := .bool false) (by rw [hfz] at hz; rw [hz])) ?_
 refine wAc (jT (wAh rfl (wAd (jT (wAb (wAa (sLL rfl ?_)))))))
 refine wCe rfl rfl (hCl (wFd f M hf hsz1 hsz2)) ?_; rintro _ M2 _ ⟨hM2, _, rfl, ⟨vs, va2, vc2, Rv, rfl, hvs, hown, hall, rfl⟩⟩
 obtain ⟨hiv2, hpi, hpa⟩ := tw_at hvs hiv
 rw [hgv] at hpi hpa
 have hpl := wLq hpa
 refine wGg hiv2 hown hall (by omega) ?_
 intro M3 vb2 fb2 sp fsp hF
 obtain ⟨p, hp⟩ : ∃ p, (vs[iv]).1 = p := ⟨_, rfl⟩
 have hF2 := hF
 obtain ⟨hM3, hoth, hpfs, hva, hvc, hvlen, hvm, hpf, hpc, hplen, hpm⟩ := hF2
 subst hva
 rw [hp] at hpi hpa hpl hpfs hpf hpc hplen hpm ⊢
 have hvq : (vsF vs)[iv]? = some p := by rw [List.getElem?_map, List.getElem?_eq_getElem hiv2, Option.map_some, hp]
 have hvsl : (vsF vs).length = vs.length := List.length_map _
 have hnx : p.next = gv.next := congrArg PV.next hpa
 have hpz : p.frozen = gv.frozen := congrArg PV.frozen hpa
 have h2n : 2 ≤ gv.next := hwv.two
 have hmn : gv.next ≤ 2 + (n : Int) := hwv.most
 have hlenvs : vs.length = f.vols.length := by have := congrArg List.length hvs; simpa using this
 have hnd2 : (wBg (flsOf' p.files)).Nodup := by rw [show flsOf' p.files = flsOf' gv.files from congrArg PV.files hpa]; exact hnd
 have hfl2 : flsOf' p.files = gv.abs.files := congrArg PV.files hpa
 obtain ⟨hkd2, hkdid, hkdx⟩ := wKw hpa hjd
 rw [hgd] at hkdid hkdx
 obtain ⟨gd2, hkdg⟩ : ∃ z, p.files[jd] = z := ⟨_, rfl⟩
 rw [hkdg] at hkdid hkdx
 have hkdq : p.files[jd]? = some gd2 := by rw [List.getElem?_eq_getElem hkd2, hkdg]
 have hkdo : gd2.Ok M3 := hkdg ▸ hpfs _ (List.getElem_mem hkd2)
 have hkd32 : gd2.ns.length ≤ 32 := by rw [wCk hkdo, hkdx]; exact (hwv.wf.len _ _ hxd).2
 obtain ⟨hkt2, hktid, hktx⟩ := wKw hpa hjtt
 rw [hgt] at hktid hktx
 obtain ⟨gt2, hktg⟩ : ∃ z, p.files[jtt] = z := ⟨_, rfl⟩
 rw [hktg] at hktid hktx
 have hktq : p.files[jtt]? = some gt2 := by rw [List.getElem?_eq_getElem hkt2, hktg]
 have hkto : gt2.Ok M3 := hktg ▸ hpfs _ (List.getElem_mem hkt2)
 have hkt32 : gt2.ns.length ≤ 32 := by rw [wCk hkto, hktx]; exact (hwv.wf.len _ _ hxt).2
 refine sAl rfl fun b18 => ?_
 refine sSt rfl ?_
 refine wAc (jT (wAb (wAa (sFL rfl rfl ?_))))
 refine jp rfl (lq (wAp rfl rfl rfl rfl rfl (by omega)) ?_)
 refine sFa rfl ?_
 refine lq (qLd rfl rfl rfl rfl (wCx wBy hvq 3 _ rfl)) ?_
 refine jp rfl (wAc (jT (wAb (wAb (wAa (sFL rfl rfl ?_))))))
 refine jt rfl (decide_eq_true (by omega)) ?_
 refine wAc (jT (wAf rfl (wBn (p := { A := fun i => !([16].contains i), U := fun i => !([16].contains i) }) [(0, true), (1, true), (2, true), (3, true), (4, true), (5, true), (6, true), (7, true), (8, true), (9, true), (10, true), (11, true), (12, true), (13, false), (14, true), (15, true), (16, false)] M3 ([(fb2, .cells ((p.files).flatMap gfC ++ fsp).toArray 93 (0, 0)), (b6, .cells [.int .i64 w.1, .slice na w.2.length nc].toArray 65 (0, 0))]) ([]) (by kernel_rfl) (by kernel_rfl) (by kernel_rfl) (by kernel_rfl) rfl (by simp) (MLe.refl _) (by simp) ?_)))
 iterate 4 refine dp rfl rfl ?_
 refine dq rfl (wAp rfl rfl rfl rfl hpf (show (0 : Int) ≤ (jd : Int) ∧ (jd : Int) < ((p.files.length : Nat) : Int) from ⟨by omega, by omega⟩)) ?_
 refine dFa rfl rfl ?_
 refine dq rfl (qLd rfl rfl rfl rfl (wCx wBa hkdq 4 _ rfl)) ?_
 refine dFa rfl rfl ?_
 refine dLd rfl rfl ?_
 refine dp rfl rfl ?_
 refine da rfl rfl (by omega) ?_
 refine dq rfl (wAp rfl rfl rfl rfl en (by omega)) ?_
 refine dq rfl (qLd rfl rfl rfl rfl (((hnx0.mono hM2).mono hM3).cj _)) ?_
 refine wJf rfl rfl rfl (hCl (wJt gd2.ns gd2.na gd2.nc M3 hkdo.na (by omega) (wAi w))) ?_; rintro _ M7 _ ⟨hM7, _, rfl, ⟨a7, c7, rfl, hc7, hs7, rfl⟩⟩
 refine ⟨_, _, MLe.refl _, hM7, fun _ h => h, by simp, ?_⟩
 refine dq rfl (wAp rfl rfl rfl rfl hpf (show (0 : Int) ≤ (jd : Int) ∧ (jd : Int) < ((p.files.length : Nat) : Int) from ⟨by omega, by omega⟩)) ?_
 refine dFa rfl rfl ?_
 refine wJu rfl rfl (wBw (l2 := (p.files.set jd ({ gd2 with x := { gd2.x with names := wBc (wAi w) gd2.x.names }, ns := wBc (wAi w) gd2.ns, na := a7, nc := c7 } : GF)).flatMap gfC ++ fsp) rfl rfl rfl rfl rfl rfl rfl (wDj wBa hkdq (Nat.le_of_ble_eq_true rfl)) (wDi wBa hkdq (Nat.le_of_ble_eq_true rfl) rfl)) ?_; rintro _ _ _ ⟨rfl, rfl⟩
 refine ⟨(by first | exact MLe.refl _ | exact hM7 | exact hM8), by simp, ?_⟩
 refine wCu ?_
 refine jPn (jT (wAb (wAb (wAa (sFL rfl rfl ?_)))))
 refine wAc (jT (wAk (wAb (wAa (jf rfl (decide_eq_false (by omega)) ?_)))))
 refine jp rfl (wAc (jT (wAh rfl (wAb (wAa (jt rfl (decide_eq_true (by omega)) ?_))))))
 refine jp rfl (wAc (jT (wAf rfl ?_)))
 obtain ⟨q2, hq1, hqc⟩ := set_any (gd1 := ({ gd2 with x := { gd2.x with names := wBc (wAi w) gd2.x.names }, ns := wBc (wAi w) gd2.ns, na := a7, nc := c7 } : GF)) hkdq hktq
 have hqo : q2.Ok M7 := by
  rcases hqc with ⟨rfl, _⟩ | rfl
  ·exact wKs hkdo hM7 hc7 hs7
  exact hkto.mono hM7
 have hqid : q2.id = gt.id := by
  rcases hqc with ⟨rfl, e⟩ | rfl
  ·rw [← hktid, e]
  exact hktid
 have hq32 : q2.ns.length ≤ 32 := by
  rcases hqc with ⟨rfl, _⟩ | rfl
  ·exact Nat.le_trans (List.length_filter_le _ _) hkd32
  exact hkt32
 have hqnd : (wBg q2.x.names).Nodup := by
  rcases hqc with ⟨rfl, _⟩ | rfl
  ·show (wBg (wBc (wAi w) gd2.x.names)).Nodup; rw [hkdx]; exact (hwv.wf.nmd _ _ hxd).sublist (List.Sublist.map _ List.filter_sublist)
  rw [hktx]; exact hwv.wf.nmd _ _ hxt
 have hqno : wAm (wAi o) q2.x.names = none := by
  rcases hqc with ⟨rfl, e⟩ | rfl
  ·show wAm (wAi o) (wBc (wAi w) gd2.x.names) = none; rw [← e, hktx, wFo, hns2]; split <;> rfl
  rw [hktx]; exact hns2
 refine wBn (p := { A := fun i => !([20].contains i), U := fun i => !([20].contains i) }) [(0, true), (1, true), (2, true), (3, true), (4, true), (5, true), (6, true), (7, true), (8, true), (9, true), (10, true), (11, true), (12, true), (13, true), (14, true), (15, true), (16, true), (17, false), (18, true), (19, true), (20, false)] M7 ([(fb2, .cells (((p.files.set jd ({ gd2 with x := { gd2.x with names := wBc (wAi w) gd2.x.names }, ns := wBc (wAi w) gd2.ns, na := a7, nc := c7 } : GF))).flatMap gfC ++ fsp).toArray 93 (0, 0)), (b7, .cells [.int .i64 o.1, .slice oa o.2.length oc].toArray 65 (0, 0)), (b14, .cells (gfC g).toArray 93 (0, 0))]) ([]) (by kernel_rfl) (by kernel_rfl) (by kernel_rfl) (by kernel_rfl) rfl (by simp) (MLe.refl _) (by simp) ?_
 iterate 4 refine dp rfl rfl ?_
 refine dq rfl (wAp rfl rfl rfl rfl hpf (show (0 : Int) ≤ (jtt : Int) ∧ (jtt : Int) < ((p.files.length : Nat) : Int) from ⟨by omega, by omega⟩)) ?_
 refine dFa rfl rfl ?_
 refine dq rfl (qLd rfl rfl rfl rfl (wCx wBa hq1 4 _ rfl)) ?_
 refine dFa rfl rfl ?_
 refine dLd rfl rfl ?_
 refine dFa rfl rfl ?_
 refine dLd rfl rfl ?_
 refine dq rfl (wCd rfl rfl rfl) ?_
 refine da rfl rfl (by omega) ?_
 refine dq rfl (wAp rfl rfl rfl rfl oen (by omega)) ?_
 refine dq rfl (qLd rfl rfl rfl rfl ((((honx.mono hM2).mono hM3).mono hM7).cj _)) ?_
 refine dFa rfl rfl ?_
 refine dLd rfl rfl ?_
 refine wJf rfl rfl rfl (hCl (wJy q2.ns q2.na q2.nc M7 hqo.na (by omega) (wAi o) g.id)) ?_; rintro _ M8 _ ⟨hM8, _, rfl, ⟨a9, c9, rfl, hc9, hs9, rfl⟩⟩
 refine ⟨_, _, MLe.refl _, hM8, fun _ h => h, by simp, ?_⟩
 refine dq rfl (wAp rfl rfl rfl rfl hpf (show (0 : Int) ≤ (jtt : Int) ∧ (jtt : Int) < ((p.files.length : Nat) : Int) from ⟨by omega, by omega⟩)) ?_
 refine dFa rfl rfl ?_
 refine wJu rfl rfl (wBw (l2 := ((p.files.set jd ({ gd2 with x := { gd2.x with names := wBc (wAi w) gd2.x.names }, ns := wBc (wAi w) gd2.ns, na := a7, nc := c7 } : GF)).set jtt ({ q2 with x := { q2.x with names := wBq (wAi o) g.id q2.x.names }, ns := wBi q2.ns (wAi o) g.id, na := a9, nc := c9 } : GF)).flatMap gfC ++ fsp) rfl rfl rfl rfl rfl rfl rfl (wDj wBa hq1 (Nat.le_of_ble_eq_true rfl)) (wDi wBa hq1 (Nat.le_of_ble_eq_true rfl) rfl)) ?_; rintro _ _ _ ⟨rfl, rfl⟩
 refine ⟨(by first | exact MLe.refl _ | exact hM7 | exact hM8), by simp, ?_⟩
 refine wCu ?_
 refine jPn (jB (jT (wAb (wAa (sLL rfl ?_)))))
 refine lq (wBe (cs := [_, _, _, _, _, _, _, _]) rfl rfl rfl (by rfl)) ?_
 refine sSt rfl ?_
 refine sSt rfl ?_
 refine wAc (jT (wAg (wCt fb2 (by simp) ?_)))
 intro M11 hM11 e11
 refine wCt vb2 (by simp) ?_
 intro M10 hM10 e10
 refine wEj (rs := [_, _]) rfl (.cons (.agg rfl rfl rfl) (.cons (.agg rfl rfl rfl) .nil)) ?_
 have hF1 : flsOf' (p.files.set jd ({ gd2 with x := { gd2.x with names := wBc (wAi w) gd2.x.names }, ns := wBc (wAi w) gd2.ns, na := a7, nc := c7 } : GF)) = wCg gv.abs.files gd.id (wAi w) := by rw [wGv (g' := ({ gd2 with x := { gd2.x with names := wBc (wAi w) gd2.x.names }, ns := wBc (wAi w) gd2.ns, na := a7, nc := c7 } : GF)) hnd2 hkdq rfl (fun x => { x with names := wBc (wAi w) x.names }) rfl, hfl2, hkdid]; rfl
 have hnd3 : (wBg (flsOf' (p.files.set jd ({ gd2 with x := { gd2.x with names := wBc (wAi w) gd2.x.names }, ns := wBc (wAi w) gd2.ns, na := a7, nc := c7 } : GF)))).Nodup := by rw [hF1]; unfold wCg; rw [wGf]; exact hnd
 have hF2 : flsOf' ((p.files.set jd ({ gd2 with x := { gd2.x with names := wBc (wAi w) gd2.x.names }, ns := wBc (wAi w) gd2.ns, na := a7, nc := c7 } : GF)).set jtt ({ q2 with x := { q2.x with names := wBq (wAi o) g.id q2.x.names }, ns := wBi q2.ns (wAi o) g.id, na := a9, nc := c9 } : GF)) = wEb (wCg gv.abs.files gd.id (wAi w)) gt.id (wAi o) g.id := by rw [wGv (g' := ({ q2 with x := { q2.x with names := wBq (wAi o) g.id q2.x.names }, ns := wBi q2.ns (wAi o) g.id, na := a9, nc := c9 } : GF)) hnd3 hq1 rfl (fun x => { x with names := wBq (wAi o) g.id x.names }) rfl, hF1, hqid]; rfl
 have hM := ((hM7.trans hM8).trans hM11).trans hM10
 have hM2_ := (hM8.trans hM11).trans hM10
 rw [← wHh hvq (v2 := ({ p with files := ((p.files.set jd ({ gd2 with x := { gd2.x with names := wBc (wAi w) gd2.x.names }, ns := wBc (wAi w) gd2.ns, na := a7, nc := c7 } : GF)).set jtt ({ q2 with x := { q2.x with names := wBq (wAi o) g.id q2.x.names }, ns := wBi q2.ns (wAi o) g.id, na := a9, nc := c9 } : GF)) } : GV)) (by show [_, _, _, Value.slice _ (((p.files.set jd ({ gd2 with x := { gd2.x with names := wBc (wAi w) gd2.x.names }, ns := wBc (wAi w) gd2.ns, na := a7, nc := c7 } : GF)).set jtt ({ q2 with x := { q2.x with names := wBq (wAi o) g.id q2.x.names }, ns := wBi q2.ns (wAi o) g.id, na := a9, nc := c9 } : GF))).length _] = _; rw [List.length_set, List.length_set])] at e10
 refine RDoP.vol hwf hvs hiv2 (by rw [hp, hpi, hid]) (v2 := ({ p with files := ((p.files.set jd ({ gd2 with x := { gd2.x with names := wBc (wAi w) gd2.x.names }, ns := wBc (wAi w) gd2.ns, na := a7, nc := c7 } : GF)).set jtt ({ q2 with x := { q2.x with names := wBq (wAi o) g.id q2.x.names }, ns := wBi q2.ns (wAi o) g.id, na := a9, nc := c9 } : GF)) } : GV)) (by rw [hpi, hid]) e10 hvc (fun i hi hne => (hoth i hi hne).mono hM) ⟨?_, ?_, ?_⟩ (rp := {}) ?_ rfl rfl
 ·show SM M10 p.fa (((p.files.set jd ({ gd2 with x := { gd2.x with names := wBc (wAi w) gd2.x.names }, ns := wBc (wAi w) gd2.ns, na := a7, nc := c7 } : GF)).set jtt ({ q2 with x := { q2.x with names := wBq (wAi o) g.id q2.x.names }, ns := wBi q2.ns (wAi o) g.id, na := a9, nc := c9 } : GF)).flatMap gfC); rw [hpf]; exact (sm_of e11).mono hM10
 ·show (((p.files.set jd ({ gd2 with x := { gd2.x with names := wBc (wAi w) gd2.x.names }, ns := wBc (wAi w) gd2.ns, na := a7, nc := c7 } : GF)).set jtt ({ q2 with x := { q2.x with names := wBq (wAi o) g.id q2.x.names }, ns := wBi q2.ns (wAi o) g.id, na := a9, nc := c9 } : GF))).length ≤ p.fc; rw [List.length_set, List.length_set]; exact hpc
 ·exact wFh (wFh (fun q hq => (hpfs q hq).mono hM) ((wKs hkdo hM7 hc7 hs7).mono hM2_)) ((named_ok hqo hqnd hqno hM8 hc9 hs9).mono (hM11.trans hM10))
 have hfa : wEs f.abs w.1 g.id = some g.x := by unfold wEs; rw [hv]; exact hgx
 rw [rename_abs hne hw hplp hfr (by rw [hin, Bool.and_false]) hz hv]
 refine Prod.ext ?_ rfl
 have e3 : GV.abs ({ p with files := ((p.files.set jd ({ gd2 with x := { gd2.x with names := wBc (wAi w) gd2.x.names }, ns := wBc (wAi w) gd2.ns, na := a7, nc := c7 } : GF)).set jtt ({ q2 with x := { q2.x with names := wBq (wAi o) g.id q2.x.names }, ns := wBi q2.ns (wAi o) g.id, na := a9, nc := c9 } : GF)) } : GV) = { gv.abs with files := wEb (wCg gv.abs.files gd.id (wAi w)) gt.id (wAi o) g.id } := by
  show ({ frozen := p.frozen, next := p.next, files := flsOf' ((p.files.set jd ({ gd2 with x := { gd2.x with names := wBc (wAi w) gd2.x.names }, ns := wBc (wAi w) gd2.ns, na := a7, nc := c7 } : GF)).set jtt ({ q2 with x := { q2.x with names := wBq (wAi o) g.id q2.x.names }, ns := wBi q2.ns (wAi o) g.id, na := a9, nc := c9 } : GF)) } : PV) = _
  rw [hF2, hpz, hnx]; rfl
 exact congrArg (fun z : PV => ({ f.abs with vols := wBq w.1 z f.abs.vols } : PS)) e3.symm
end Go.Proofs.YtokljhkplbkggaaGreatDoor
