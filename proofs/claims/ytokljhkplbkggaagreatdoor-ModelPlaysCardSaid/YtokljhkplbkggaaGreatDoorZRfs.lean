/- Walks: the document's call that shares bytes. -/
import Derived.Test.YtokljhkplbkggaaGreatDoorZRfy
import Derived.Test.YtokljhkplbkggaaGreatDoorZRfv
namespace Go.Proofs.YtokljhkplbkggaaGreatDoor
set_option linter.unusedVariables false
set_option linter.unusedSectionVars false
set_option linter.unusedSimpArgs false
open Go.RowKit Go.MapKept
theorem share_sm {M : Mem} {b : Nat} {S : List By} (h : M b = some (.cells (wAn S).toArray 5 (0, 0))) {a k n : Nat} (hn : S.length = n) (ha : a ≤ n) : SM M (slA (some ⟨b, 0, none⟩) a n 1) (wAn ((S.drop a).take k)) := by
 have h1 := SM.dropS (m := 1) (n := n) (SM.of_block h) (by rw [wBd, hn, Nat.mul_one]) (k := a) (c := n) ha (Nat.le_refl _)
 have h2 := SM.take h1 k
 have e : wAn ((S.drop a).take k) = ((wAn S).drop (a * 1)).take k := by unfold wAn; rw [Nat.mul_one, List.map_take, List.map_drop]
 rw [e]; exact h2
set_option maxHeartbeats 4000000 in
theorem sh_werr (f : GS) (n : Nat) (hwf : WFS n f.abs) (hn : n ≤ 100) (M : Mem) (hf : f.Ok M) (c : CL) (ca : Option Addr) (ck : Nat) (hC : CallOk M c ca ck) (h0 : 0 ≤ c.kind ∧ c.kind ≤ 255) (w : Wy) (na : Option Addr) (nc : Nat) (hW : WyOk M w na nc) (o : Wy) (oa : Option Addr) (oc : Nat) (hO : WyOk M o oa oc) (hl : wCm c = true) (hk : c.kind = 11) (a b cc : Nat) (ea : c.a = a) (eb : c.b = b) (ec : c.c = cc) (hab : a + cc ≤ 4096 ∧ b + cc ≤ 4096) (id9 : Int) (v9 : PV) (x9 : PF) (hw9 : wBb f.abs w.1 w.2 = .ok id9) (hv9 : wAm w.1 f.abs.vols = some v9) (hx9 : wAm id9 v9.files = some x9) (hdir9 : x9.dir = false) (e : Int) (hw : wBb f.abs o.1 o.2 = .error e) (he : e ≠ 0) :
  SpecL Tryz.prog 28 #[gsV f, clV c ca ck, wyV w na nc, wyV o oa oc] M [] (RDoP (f.abs, wCa e)) := by
 have hvl := wBh hwf
 obtain ⟨iv9, hiv9, eiv9, hid9, hab9⟩ := GS.vol hv9
 subst hab9
 obtain ⟨gv9, hgv9⟩ : ∃ z, f.vols[iv9] = z := ⟨_, rfl⟩
 rw [hgv9] at hid9 hv9 hx9
 have hwv9 : WFV n gv9.abs := hwf.vol w.1 _ hv9
 have hfl9 := wEc hwv9
 have hgo9 : gv9.Ok M := hgv9 ▸ hf.all _ (List.getElem_mem hiv9)
 have hnd9 : (wBg (flsOf' gv9.files)).Nodup := hwv9.wf.nd
 obtain ⟨vb9, vo9, ev9, hvx9⟩ := wDh wBy hf.va hiv9 (by omega)
 rw [hgv9] at hvx9
 obtain ⟨j9, hj9, ej9, hji9, hjx9⟩ := GV.file hx9
 obtain ⟨fb9, fo9, efa9, hfx9⟩ := wDh wBa hgo9.fa hj9 (by omega)
 obtain ⟨g9, hg9⟩ : ∃ z, gv9.files[j9] = z := ⟨_, rfl⟩
 rw [hg9] at hfx9 hji9 hjx9
 subst hjx9
 subst hji9
 have hgk9 : g9.Ok M := hg9 ▸ hgo9.all _ (List.getElem_mem hj9)
 have hfx29 : wDf f.abs w.1 g9.id = (j9 : Int) := by rw [wCp hv9]; exact (hg9 ▸ (wGw hnd9 hj9).2)
 have h4k9 := (hwv9.wf.len _ _ hx9).1
 have hdl9 : (((wAx g9.x.data 4096).drop a).take cc).length = cc := by rw [List.length_take, List.length_drop, wAq]; omega
 refine wAe (vs := [_, _, _, _]) 178 _ Tryz.func28 rfl Tryz.ntmps28 rfl rfl ?_; intro W
 refine wAb (wAa (sBx [_, _] rfl fun b4 => ?_))
 refine sBx [_, _, _, _, _, _, _] rfl fun b5 => ?_
 refine sBx [_, _] rfl fun b6 => ?_
 refine sBx [_, _] rfl fun b7 => ?_
 refine sAl rfl fun b8 => ?_
 refine sAl rfl fun b9 => ?_
 refine wAc (jT (wAb (wAb (wAa (sLL rfl ?_)))))
 refine lq (qEq (qCl (wEd c ca ck M hC h0)) (v' := .bool true) (by rw [hl])) ?_
 refine jp rfl (wAc (jT (wAh rfl (wAd (jT (wAb (wAa (sLL rfl ?_))))))))
 refine sFL rfl rfl ?_
 refine sFL rfl rfl ?_
 refine lq (qEq (v' := .tuple #[.int .i64 (iv9 : Int), .int .i64 (j9 : Int), .int .i64 0]) (qCl (wAo f n hwf hn M hf w.1 w.2 na nc hW.sn hW.big)) (by rw [hw9]; show Value.tuple #[.int .i64 (ixA w.1 (wAv f.vols)), .int .i64 (wDf f.abs w.1 g9.id), _] = _; rw [eiv9, hfx29])) ?_
 iterate 7 refine jp rfl ?_
 refine wAc (jT (wAb (wAb (wAa (jp rfl (jt rfl (decide_eq_true (by omega)) ?_))))))
 refine jp rfl (sFL rfl rfl ?_)
 refine jp rfl (lq (wAp rfl rfl rfl rfl ev9 (by omega)) ?_)
 refine sFa rfl ?_
 refine lq (qLd rfl rfl rfl rfl ((hvx9 3 _ rfl).cj _)) ?_
 refine jp rfl (lq (wAp rfl rfl rfl rfl efa9 (by omega)) ?_)
 refine sFa rfl ?_
 refine lq (qEq (qLd rfl rfl rfl rfl ((hfx9 1 _ rfl).cj _)) (v' := .bool false) (by rw [hdir9])) ?_
 refine jp rfl (wAc (jT (wAh rfl (wAd (jT (wAb (wAb (wAa (jp rfl (jf rfl (decide_eq_false (by omega)) ?_))))))))))
 refine wAc (jT (wAh rfl (wAd (jT (wAb (wAa (sFL rfl rfl ?_)))))))
 refine jp rfl (lq (wAp rfl rfl rfl rfl ev9 (by omega)) ?_)
 refine sFa rfl ?_
 refine lq (qLd rfl rfl rfl rfl ((hvx9 3 _ rfl).cj _)) ?_
 refine jp rfl (lq (wAp rfl rfl rfl rfl efa9 (by omega)) ?_)
 refine lq (wFt (cs := gfC g9) rfl rfl rfl rfl rfl (fun j u hu => (hfx9 j u hu).cj _)) ?_
 refine sAl rfl fun b13 => ?_
 refine sSt rfl ?_
 refine wAc (jT (wAb (wAa (sFL rfl rfl ?_))))
 refine jp rfl (wAc (jT (wAb (wAa (sFL rfl rfl ?_)))))
 refine jp rfl (wAc (jT (wAb (wAb (wAa (sFL rfl rfl ?_))))))
 refine jf rfl (decide_eq_false (by omega)) ?_
 refine wAc (jT (wAh rfl (wAd (jT (wAb (wAb (wAa (sFL rfl rfl ?_))))))))
 refine jt rfl (decide_eq_true (by omega)) ?_
 refine wAc (jT (wAf rfl (wAb (wCw [(0, true), (1, true), (3, true), (4, true), (5, true), (6, true), (7, true), (8, true), (9, true), (2, false), (10, true), (11, true)] [(b13, .cells (gfC g9).toArray 93 (0, 0)), (b5, .cells (wDa c ca ck).toArray 45 (0, 0))] (by simp) ?_))))
 refine dFa rfl rfl ?_
 refine dLd rfl rfl ?_
 refine dFa rfl rfl ?_
 refine dLd rfl rfl ?_
 refine dFa rfl rfl ?_
 refine dLd rfl rfl ?_
 refine dFa rfl rfl ?_
 refine dLd rfl rfl ?_
 refine da rfl rfl (by omega) ?_
 refine wJf rfl rfl rfl (hCl (wGb g9.x.data g9.da g9.dc M hgk9.da (by omega) 4096 (by omega))) ?_; rintro _ M _ ⟨_, _, rfl, ⟨b103, rfl, rfl, rfl⟩⟩
 refine wHf (MLe.refl _) (fun _ h => List.mem_cons_of_mem _ h) (by first | exact MLe.refl _ | assumption) (by simp) ?_
 rw [wAq]
 refine dq rfl (qEq (v' := .slice (slA (some ⟨b103, 0, none⟩) a 4096 1) (((wAx g9.x.data 4096).drop a).take cc).length (4096 - a)) (qSl rfl rfl rfl (.no _) (.of (v := a + cc) rfl (by omega) (by omega)) (.of (v := a) rfl (by omega) (by omega)) (by omega) (by simp)) (by rw [hdl9, Nat.add_sub_cancel_left])) ?_
 refine dp rfl rfl ?_
 refine wAs (jPn (jT (wAb (wLn b103 (by simp) ?_))))
 intro M1 hM1 e103
 have hds := share_sm e103 (a := a) (k := cc) wAq (by omega)
 refine wAa (sFL rfl rfl ?_)
 refine jp rfl (wAc (jT (wAb (wAa (sLL rfl ?_)))))
 refine sFL rfl rfl ?_
 refine sFL rfl rfl ?_
 refine lq (qEq (v' := .tuple #[.int .i64 0, .int .i64 0, .int .i64 e]) (qCl (wAo f n hwf hn M1 (hf.mono hM1) o.1 o.2 oa oc (hO.sn.mono hM1) hO.big)) (by rw [hw]; rfl)) ?_
 iterate 7 refine jp rfl ?_
 refine wAc (jT (wAb (wAb (wAa (jp rfl (jf rfl (decide_eq_false (by omega)) ?_))))))
 iterate 12 refine jp rfl ?_
 refine wAc (jT (wAh rfl (wAd (jT (wAb (wAa (jp rfl (jt rfl (decide_eq_true (by omega)) ?_))))))))
 refine wAc (jT (wAf rfl (wAb (wCw [(0, true), (1, true), (2, true), (3, false), (4, false)] [(b4, .cells (gsC f).toArray 53 (0, 0))] (by simp) ?_))))
 refine dLL rfl rfl ?_
 refine dp rfl rfl ?_
 refine dq rfl (qCl (wAu e M1)) ?_
 refine dSt rfl rfl ?_
 refine dSt rfl rfl ?_
 refine wAs (jPn (jT (wAg (jTr (wEj (rs := [_, _]) rfl (.cons (.agg rfl rfl rfl) (.cons (.agg rfl rfl rfl) .nil)) ?_)))))
 exact RDoP.err (hf.mono hM1) rfl
set_option maxHeartbeats 4000000 in
theorem sh_wdir (f : GS) (n : Nat) (hwf : WFS n f.abs) (hn : n ≤ 100) (M : Mem) (hf : f.Ok M) (c : CL) (ca : Option Addr) (ck : Nat) (hC : CallOk M c ca ck) (h0 : 0 ≤ c.kind ∧ c.kind ≤ 255) (w : Wy) (na : Option Addr) (nc : Nat) (hW : WyOk M w na nc) (o : Wy) (oa : Option Addr) (oc : Nat) (hO : WyOk M o oa oc) (hl : wCm c = true) (hk : c.kind = 11) (a b cc : Nat) (ea : c.a = a) (eb : c.b = b) (ec : c.c = cc) (hab : a + cc ≤ 4096 ∧ b + cc ≤ 4096) (id9 : Int) (v9 : PV) (x9 : PF) (hw9 : wBb f.abs w.1 w.2 = .ok id9) (hv9 : wAm w.1 f.abs.vols = some v9) (hx9 : wAm id9 v9.files = some x9) (hdir9 : x9.dir = false) (id : Int) (v : PV) (x : PF) (hw : wBb f.abs o.1 o.2 = .ok id) (hv : wAm o.1 f.abs.vols = some v) (hx : wAm id v.files = some x) (hdir : x.dir = true) :
  SpecL Tryz.prog 28 #[gsV f, clV c ca ck, wyV w na nc, wyV o oa oc] M [] (RDoP (f.abs, wCa 240)) := by
 have hvl := wBh hwf
 obtain ⟨iv9, hiv9, eiv9, hid9, hab9⟩ := GS.vol hv9
 subst hab9
 obtain ⟨gv9, hgv9⟩ : ∃ z, f.vols[iv9] = z := ⟨_, rfl⟩
 rw [hgv9] at hid9 hv9 hx9
 have hwv9 : WFV n gv9.abs := hwf.vol w.1 _ hv9
 have hfl9 := wEc hwv9
 have hgo9 : gv9.Ok M := hgv9 ▸ hf.all _ (List.getElem_mem hiv9)
 have hnd9 : (wBg (flsOf' gv9.files)).Nodup := hwv9.wf.nd
 obtain ⟨vb9, vo9, ev9, hvx9⟩ := wDh wBy hf.va hiv9 (by omega)
 rw [hgv9] at hvx9
 obtain ⟨j9, hj9, ej9, hji9, hjx9⟩ := GV.file hx9
 obtain ⟨fb9, fo9, efa9, hfx9⟩ := wDh wBa hgo9.fa hj9 (by omega)
 obtain ⟨g9, hg9⟩ : ∃ z, gv9.files[j9] = z := ⟨_, rfl⟩
 rw [hg9] at hfx9 hji9 hjx9
 subst hjx9
 subst hji9
 have hgk9 : g9.Ok M := hg9 ▸ hgo9.all _ (List.getElem_mem hj9)
 have hfx29 : wDf f.abs w.1 g9.id = (j9 : Int) := by rw [wCp hv9]; exact (hg9 ▸ (wGw hnd9 hj9).2)
 have h4k9 := (hwv9.wf.len _ _ hx9).1
 have hdl9 : (((wAx g9.x.data 4096).drop a).take cc).length = cc := by rw [List.length_take, List.length_drop, wAq]; omega
 obtain ⟨iv, hiv, gv, j, hj, g, vb, vo, fb, fo, rfl, rfl, rfl, eiv, hgv, hid, hwv, hfl, hgo, hnd, ev, hvx, efa, hg, hfx, hgi, hgk, hgx, hnn, hn32, hnsl, hfx2⟩ := opw hwf hf hv hx
 refine wAe (vs := [_, _, _, _]) 178 _ Tryz.func28 rfl Tryz.ntmps28 rfl rfl ?_; intro W
 refine wAb (wAa (sBx [_, _] rfl fun b4 => ?_))
 refine sBx [_, _, _, _, _, _, _] rfl fun b5 => ?_
 refine sBx [_, _] rfl fun b6 => ?_
 refine sBx [_, _] rfl fun b7 => ?_
 refine sAl rfl fun b8 => ?_
 refine sAl rfl fun b9 => ?_
 refine wAc (jT (wAb (wAb (wAa (sLL rfl ?_)))))
 refine lq (qEq (qCl (wEd c ca ck M hC h0)) (v' := .bool true) (by rw [hl])) ?_
 refine jp rfl (wAc (jT (wAh rfl (wAd (jT (wAb (wAa (sLL rfl ?_))))))))
 refine sFL rfl rfl ?_
 refine sFL rfl rfl ?_
 refine lq (qEq (v' := .tuple #[.int .i64 (iv9 : Int), .int .i64 (j9 : Int), .int .i64 0]) (qCl (wAo f n hwf hn M hf w.1 w.2 na nc hW.sn hW.big)) (by rw [hw9]; show Value.tuple #[.int .i64 (ixA w.1 (wAv f.vols)), .int .i64 (wDf f.abs w.1 g9.id), _] = _; rw [eiv9, hfx29])) ?_
 iterate 7 refine jp rfl ?_
 refine wAc (jT (wAb (wAb (wAa (jp rfl (jt rfl (decide_eq_true (by omega)) ?_))))))
 refine jp rfl (sFL rfl rfl ?_)
 refine jp rfl (lq (wAp rfl rfl rfl rfl ev9 (by omega)) ?_)
 refine sFa rfl ?_
 refine lq (qLd rfl rfl rfl rfl ((hvx9 3 _ rfl).cj _)) ?_
 refine jp rfl (lq (wAp rfl rfl rfl rfl efa9 (by omega)) ?_)
 refine sFa rfl ?_
 refine lq (qEq (qLd rfl rfl rfl rfl ((hfx9 1 _ rfl).cj _)) (v' := .bool false) (by rw [hdir9])) ?_
 refine jp rfl (wAc (jT (wAh rfl (wAd (jT (wAb (wAb (wAa (jp rfl (jf rfl (decide_eq_false (by omega)) ?_))))))))))
 refine wAc (jT (wAh rfl (wAd (jT (wAb (wAa (sFL rfl rfl ?_)))))))
 refine jp rfl (lq (wAp rfl rfl rfl rfl ev9 (by omega)) ?_)
 refine sFa rfl ?_
 refine lq (qLd rfl rfl rfl rfl ((hvx9 3 _ rfl).cj _)) ?_
 refine jp rfl (lq (wAp rfl rfl rfl rfl efa9 (by omega)) ?_)
 refine lq (wFt (cs := gfC g9) rfl rfl rfl rfl rfl (fun j u hu => (hfx9 j u hu).cj _)) ?_
 refine sAl rfl fun b13 => ?_
 refine sSt rfl ?_
 refine wAc (jT (wAb (wAa (sFL rfl rfl ?_))))
 refine jp rfl (wAc (jT (wAb (wAa (sFL rfl rfl ?_)))))
 refine jp rfl (wAc (jT (wAb (wAb (wAa (sFL rfl rfl ?_))))))
 refine jf rfl (decide_eq_false (by omega)) ?_
 refine wAc (jT (wAh rfl (wAd (jT (wAb (wAb (wAa (sFL rfl rfl ?_))))))))
 refine jt rfl (decide_eq_true (by omega)) ?_
 refine wAc (jT (wAf rfl (wAb (wCw [(0, true), (1, true), (3, true), (4, true), (5, true), (6, true), (7, true), (8, true), (9, true), (2, false), (10, true), (11, true)] [(b13, .cells (gfC g9).toArray 93 (0, 0)), (b5, .cells (wDa c ca ck).toArray 45 (0, 0))] (by simp) ?_))))
 refine dFa rfl rfl ?_
 refine dLd rfl rfl ?_
 refine dFa rfl rfl ?_
 refine dLd rfl rfl ?_
 refine dFa rfl rfl ?_
 refine dLd rfl rfl ?_
 refine dFa rfl rfl ?_
 refine dLd rfl rfl ?_
 refine da rfl rfl (by omega) ?_
 refine wJf rfl rfl rfl (hCl (wGb g9.x.data g9.da g9.dc M hgk9.da (by omega) 4096 (by omega))) ?_; rintro _ M _ ⟨_, _, rfl, ⟨b103, rfl, rfl, rfl⟩⟩
 refine wHf (MLe.refl _) (fun _ h => List.mem_cons_of_mem _ h) (by first | exact MLe.refl _ | assumption) (by simp) ?_
 rw [wAq]
 refine dq rfl (qEq (v' := .slice (slA (some ⟨b103, 0, none⟩) a 4096 1) (((wAx g9.x.data 4096).drop a).take cc).length (4096 - a)) (qSl rfl rfl rfl (.no _) (.of (v := a + cc) rfl (by omega) (by omega)) (.of (v := a) rfl (by omega) (by omega)) (by omega) (by simp)) (by rw [hdl9, Nat.add_sub_cancel_left])) ?_
 refine dp rfl rfl ?_
 refine wAs (jPn (jT (wAb (wLn b103 (by simp) ?_))))
 intro M1 hM1 e103
 have hds := share_sm e103 (a := a) (k := cc) wAq (by omega)
 refine wAa (sFL rfl rfl ?_)
 refine jp rfl (wAc (jT (wAb (wAa (sLL rfl ?_)))))
 refine sFL rfl rfl ?_
 refine sFL rfl rfl ?_
 refine lq (qEq (v' := .tuple #[.int .i64 (iv : Int), .int .i64 (j : Int), .int .i64 0]) (qCl (wAo f n hwf hn M1 (hf.mono hM1) o.1 o.2 oa oc (hO.sn.mono hM1) hO.big)) (by rw [hw]; show Value.tuple #[.int .i64 (ixA o.1 (wAv f.vols)), .int .i64 (wDf f.abs o.1 g.id), _] = _; rw [eiv, hfx2])) ?_
 iterate 7 refine jp rfl ?_
 refine wAc (jT (wAb (wAb (wAa (jp rfl (jt rfl (decide_eq_true (by omega)) ?_))))))
 refine jp rfl (sFL rfl rfl ?_)
 refine jp rfl (lq (wAp rfl rfl rfl rfl ev (by omega)) ?_)
 refine sFa rfl ?_
 refine lq (qLd rfl rfl rfl rfl (((hvx 3 _ rfl).mono hM1).cj _)) ?_
 refine jp rfl (lq (wAp rfl rfl rfl rfl efa (by omega)) ?_)
 refine sFa rfl ?_
 refine lq (qEq (qLd rfl rfl rfl rfl (((hfx 1 _ rfl).mono hM1).cj _)) (v' := .bool true) (by rw [hdir])) ?_
 refine jp rfl (wAc (jT (wAf rfl (wAa (jp rfl (wAc (jT (wAb (wAa (jp rfl (jt rfl (decide_eq_true (by omega)) ?_)))))))))))
 refine wAc (jT (wAf rfl (wAb (wCw [(0, true), (1, true), (2, true), (3, false), (4, false)] [(b4, .cells (gsC f).toArray 53 (0, 0))] (by simp) ?_))))
 refine dLL rfl rfl ?_
 refine dp rfl rfl ?_
 refine dq rfl (qCl (wAu 240 M1)) ?_
 refine dSt rfl rfl ?_
 refine dSt rfl rfl ?_
 refine wAs (jPn (jT (wAg (jTr (wEj (rs := [_, _]) rfl (.cons (.agg rfl rfl rfl) (.cons (.agg rfl rfl rfl) .nil)) ?_)))))
 exact RDoP.err (hf.mono hM1) rfl
set_option maxHeartbeats 4000000 in
theorem sh_frz (f : GS) (n : Nat) (hwf : WFS n f.abs) (hn : n ≤ 100) (M : Mem) (hf : f.Ok M) (c : CL) (ca : Option Addr) (ck : Nat) (hC : CallOk M c ca ck) (h0 : 0 ≤ c.kind ∧ c.kind ≤ 255) (w : Wy) (na : Option Addr) (nc : Nat) (hW : WyOk M w na nc) (o : Wy) (oa : Option Addr) (oc : Nat) (hO : WyOk M o oa oc) (hl : wCm c = true) (hk : c.kind = 11) (a b cc : Nat) (ea : c.a = a) (eb : c.b = b) (ec : c.c = cc) (hab : a + cc ≤ 4096 ∧ b + cc ≤ 4096) (id9 : Int) (v9 : PV) (x9 : PF) (hw9 : wBb f.abs w.1 w.2 = .ok id9) (hv9 : wAm w.1 f.abs.vols = some v9) (hx9 : wAm id9 v9.files = some x9) (hdir9 : x9.dir = false) (id : Int) (v : PV) (x : PF) (hw : wBb f.abs o.1 o.2 = .ok id) (hv : wAm o.1 f.abs.vols = some v) (hx : wAm id v.files = some x) (hdir : x.dir = false) (hz : wAr f.abs o.1 = true) :
  SpecL Tryz.prog 28 #[gsV f, clV c ca ck, wyV w na nc, wyV o oa oc] M [] (RDoP (f.abs, wCa 170)) := by
 have hvl := wBh hwf
 obtain ⟨iv9, hiv9, eiv9, hid9, hab9⟩ := GS.vol hv9
 subst hab9
 obtain ⟨gv9, hgv9⟩ : ∃ z, f.vols[iv9] = z := ⟨_, rfl⟩
 rw [hgv9] at hid9 hv9 hx9
 have hwv9 : WFV n gv9.abs := hwf.vol w.1 _ hv9
 have hfl9 := wEc hwv9
 have hgo9 : gv9.Ok M := hgv9 ▸ hf.all _ (List.getElem_mem hiv9)
 have hnd9 : (wBg (flsOf' gv9.files)).Nodup := hwv9.wf.nd
 obtain ⟨vb9, vo9, ev9, hvx9⟩ := wDh wBy hf.va hiv9 (by omega)
 rw [hgv9] at hvx9
 obtain ⟨j9, hj9, ej9, hji9, hjx9⟩ := GV.file hx9
 obtain ⟨fb9, fo9, efa9, hfx9⟩ := wDh wBa hgo9.fa hj9 (by omega)
 obtain ⟨g9, hg9⟩ : ∃ z, gv9.files[j9] = z := ⟨_, rfl⟩
 rw [hg9] at hfx9 hji9 hjx9
 subst hjx9
 subst hji9
 have hgk9 : g9.Ok M := hg9 ▸ hgo9.all _ (List.getElem_mem hj9)
 have hfx29 : wDf f.abs w.1 g9.id = (j9 : Int) := by rw [wCp hv9]; exact (hg9 ▸ (wGw hnd9 hj9).2)
 have h4k9 := (hwv9.wf.len _ _ hx9).1
 have hdl9 : (((wAx g9.x.data 4096).drop a).take cc).length = cc := by rw [List.length_take, List.length_drop, wAq]; omega
 obtain ⟨iv, hiv, gv, j, hj, g, vb, vo, fb, fo, rfl, rfl, rfl, eiv, hgv, hid, hwv, hfl, hgo, hnd, ev, hvx, efa, hg, hfx, hgi, hgk, hgx, hnn, hn32, hnsl, hfx2⟩ := opw hwf hf hv hx
 have hfz : wAr f.abs o.1 = gv.frozen := by unfold wAr; rw [hv]; rfl
 refine wAe (vs := [_, _, _, _]) 178 _ Tryz.func28 rfl Tryz.ntmps28 rfl rfl ?_; intro W
 refine wAb (wAa (sBx [_, _] rfl fun b4 => ?_))
 refine sBx [_, _, _, _, _, _, _] rfl fun b5 => ?_
 refine sBx [_, _] rfl fun b6 => ?_
 refine sBx [_, _] rfl fun b7 => ?_
 refine sAl rfl fun b8 => ?_
 refine sAl rfl fun b9 => ?_
 refine wAc (jT (wAb (wAb (wAa (sLL rfl ?_)))))
 refine lq (qEq (qCl (wEd c ca ck M hC h0)) (v' := .bool true) (by rw [hl])) ?_
 refine jp rfl (wAc (jT (wAh rfl (wAd (jT (wAb (wAa (sLL rfl ?_))))))))
 refine sFL rfl rfl ?_
 refine sFL rfl rfl ?_
 refine lq (qEq (v' := .tuple #[.int .i64 (iv9 : Int), .int .i64 (j9 : Int), .int .i64 0]) (qCl (wAo f n hwf hn M hf w.1 w.2 na nc hW.sn hW.big)) (by rw [hw9]; show Value.tuple #[.int .i64 (ixA w.1 (wAv f.vols)), .int .i64 (wDf f.abs w.1 g9.id), _] = _; rw [eiv9, hfx29])) ?_
 iterate 7 refine jp rfl ?_
 refine wAc (jT (wAb (wAb (wAa (jp rfl (jt rfl (decide_eq_true (by omega)) ?_))))))
 refine jp rfl (sFL rfl rfl ?_)
 refine jp rfl (lq (wAp rfl rfl rfl rfl ev9 (by omega)) ?_)
 refine sFa rfl ?_
 refine lq (qLd rfl rfl rfl rfl ((hvx9 3 _ rfl).cj _)) ?_
 refine jp rfl (lq (wAp rfl rfl rfl rfl efa9 (by omega)) ?_)
 refine sFa rfl ?_
 refine lq (qEq (qLd rfl rfl rfl rfl ((hfx9 1 _ rfl).cj _)) (v' := .bool false) (by rw [hdir9])) ?_
 refine jp rfl (wAc (jT (wAh rfl (wAd (jT (wAb (wAb (wAa (jp rfl (jf rfl (decide_eq_false (by omega)) ?_))))))))))
 refine wAc (jT (wAh rfl (wAd (jT (wAb (wAa (sFL rfl rfl ?_)))))))
 refine jp rfl (lq (wAp rfl rfl rfl rfl ev9 (by omega)) ?_)
 refine sFa rfl ?_
 refine lq (qLd rfl rfl rfl rfl ((hvx9 3 _ rfl).cj _)) ?_
 refine jp rfl (lq (wAp rfl rfl rfl rfl efa9 (by omega)) ?_)
 refine lq (wFt (cs := gfC g9) rfl rfl rfl rfl rfl (fun j u hu => (hfx9 j u hu).cj _)) ?_
 refine sAl rfl fun b13 => ?_
 refine sSt rfl ?_
 refine wAc (jT (wAb (wAa (sFL rfl rfl ?_))))
 refine jp rfl (wAc (jT (wAb (wAa (sFL rfl rfl ?_)))))
 refine jp rfl (wAc (jT (wAb (wAb (wAa (sFL rfl rfl ?_))))))
 refine jf rfl (decide_eq_false (by omega)) ?_
 refine wAc (jT (wAh rfl (wAd (jT (wAb (wAb (wAa (sFL rfl rfl ?_))))))))
 refine jt rfl (decide_eq_true (by omega)) ?_
 refine wAc (jT (wAf rfl (wAb (wCw [(0, true), (1, true), (3, true), (4, true), (5, true), (6, true), (7, true), (8, true), (9, true), (2, false), (10, true), (11, true)] [(b13, .cells (gfC g9).toArray 93 (0, 0)), (b5, .cells (wDa c ca ck).toArray 45 (0, 0))] (by simp) ?_))))
 refine dFa rfl rfl ?_
 refine dLd rfl rfl ?_
 refine dFa rfl rfl ?_
 refine dLd rfl rfl ?_
 refine dFa rfl rfl ?_
 refine dLd rfl rfl ?_
 refine dFa rfl rfl ?_
 refine dLd rfl rfl ?_
 refine da rfl rfl (by omega) ?_
 refine wJf rfl rfl rfl (hCl (wGb g9.x.data g9.da g9.dc M hgk9.da (by omega) 4096 (by omega))) ?_; rintro _ M _ ⟨_, _, rfl, ⟨b103, rfl, rfl, rfl⟩⟩
 refine wHf (MLe.refl _) (fun _ h => List.mem_cons_of_mem _ h) (by first | exact MLe.refl _ | assumption) (by simp) ?_
 rw [wAq]
 refine dq rfl (qEq (v' := .slice (slA (some ⟨b103, 0, none⟩) a 4096 1) (((wAx g9.x.data 4096).drop a).take cc).length (4096 - a)) (qSl rfl rfl rfl (.no _) (.of (v := a + cc) rfl (by omega) (by omega)) (.of (v := a) rfl (by omega) (by omega)) (by omega) (by simp)) (by rw [hdl9, Nat.add_sub_cancel_left])) ?_
 refine dp rfl rfl ?_
 refine wAs (jPn (jT (wAb (wLn b103 (by simp) ?_))))
 intro M1 hM1 e103
 have hds := share_sm e103 (a := a) (k := cc) wAq (by omega)
 refine wAa (sFL rfl rfl ?_)
 refine jp rfl (wAc (jT (wAb (wAa (sLL rfl ?_)))))
 refine sFL rfl rfl ?_
 refine sFL rfl rfl ?_
 refine lq (qEq (v' := .tuple #[.int .i64 (iv : Int), .int .i64 (j : Int), .int .i64 0]) (qCl (wAo f n hwf hn M1 (hf.mono hM1) o.1 o.2 oa oc (hO.sn.mono hM1) hO.big)) (by rw [hw]; show Value.tuple #[.int .i64 (ixA o.1 (wAv f.vols)), .int .i64 (wDf f.abs o.1 g.id), _] = _; rw [eiv, hfx2])) ?_
 iterate 7 refine jp rfl ?_
 refine wAc (jT (wAb (wAb (wAa (jp rfl (jt rfl (decide_eq_true (by omega)) ?_))))))
 refine jp rfl (sFL rfl rfl ?_)
 refine jp rfl (lq (wAp rfl rfl rfl rfl ev (by omega)) ?_)
 refine sFa rfl ?_
 refine lq (qLd rfl rfl rfl rfl (((hvx 3 _ rfl).mono hM1).cj _)) ?_
 refine jp rfl (lq (wAp rfl rfl rfl rfl efa (by omega)) ?_)
 refine sFa rfl ?_
 refine lq (qEq (qLd rfl rfl rfl rfl (((hfx 1 _ rfl).mono hM1).cj _)) (v' := .bool false) (by rw [hdir])) ?_
 refine jp rfl (wAc (jT (wAh rfl (wAd (jT (wAb (wAa (jp rfl (jf rfl (decide_eq_false (by omega)) ?_)))))))))
 refine wAc (jT (wAh rfl (wAd (jT (wAb (wAb (wAa (sFL rfl rfl ?_))))))))
 refine jp rfl (lq (wAp rfl rfl rfl rfl ev (by omega)) ?_)
 refine sFa rfl ?_
 refine lq (qEq (qLd rfl rfl rfl rfl (((hvx 1 _ rfl).mono hM1).cj _)) (v' := .bool true) (by rw [hfz] at hz; rw [hz])) ?_
 refine wAc (jT (wAf rfl (wAb (wCw [(0, true), (1, true), (2, false), (3, false)] [(b4, .cells (gsC f).toArray 53 (0, 0))] (by simp) ?_))))
 refine dLL rfl rfl ?_
 refine dq rfl (qCl (wAu 170 M1)) ?_
 refine dSt rfl rfl ?_
 refine dSt rfl rfl ?_
 refine wAs (jPn (jT (wAg (jTr (wEj (rs := [_, _]) rfl (.cons (.agg rfl rfl rfl) (.cons (.agg rfl rfl rfl) .nil)) ?_)))))
 exact RDoP.err (hf.mono hM1) rfl
set_option maxHeartbeats 4000000 in
theorem sh_turn (f : GS) (n : Nat) (hwf : WFS n f.abs) (hn : n ≤ 100) (M : Mem) (hf : f.Ok M) (c : CL) (ca : Option Addr) (ck : Nat) (hC : CallOk M c ca ck) (h0 : 0 ≤ c.kind ∧ c.kind ≤ 255) (w : Wy) (na : Option Addr) (nc : Nat) (hW : WyOk M w na nc) (o : Wy) (oa : Option Addr) (oc : Nat) (hO : WyOk M o oa oc) (hl : wCm c = true) (hk : c.kind = 11) (a b cc : Nat) (ea : c.a = a) (eb : c.b = b) (ec : c.c = cc) (hab : a + cc ≤ 4096 ∧ b + cc ≤ 4096) (id9 : Int) (v9 : PV) (x9 : PF) (hw9 : wBb f.abs w.1 w.2 = .ok id9) (hv9 : wAm w.1 f.abs.vols = some v9) (hx9 : wAm id9 v9.files = some x9) (hdir9 : x9.dir = false) (id : Int) (v : PV) (x : PF) (hw : wBb f.abs o.1 o.2 = .ok id) (hv : wAm o.1 f.abs.vols = some v) (hx : wAm id v.files = some x) (hdir : x.dir = false) (hfs : wCh f.abs o = .ok id) (hz : wAr f.abs o.1 = false) (hL : LegK c x.data (((wAx x9.data 4096).drop a).take cc) c.b.toNat) :
  SpecL Tryz.prog 28 #[gsV f, clV c ca ck, wyV w na nc, wyV o oa oc] M [] (RDoP (wDv f.abs o true (fun b => wAw c b (((wAx x9.data 4096).drop a).take cc) c.b.toNat))) := by
 have hvl := wBh hwf
 obtain ⟨iv9, hiv9, eiv9, hid9, hab9⟩ := GS.vol hv9
 subst hab9
 obtain ⟨gv9, hgv9⟩ : ∃ z, f.vols[iv9] = z := ⟨_, rfl⟩
 rw [hgv9] at hid9 hv9 hx9
 have hwv9 : WFV n gv9.abs := hwf.vol w.1 _ hv9
 have hfl9 := wEc hwv9
 have hgo9 : gv9.Ok M := hgv9 ▸ hf.all _ (List.getElem_mem hiv9)
 have hnd9 : (wBg (flsOf' gv9.files)).Nodup := hwv9.wf.nd
 obtain ⟨vb9, vo9, ev9, hvx9⟩ := wDh wBy hf.va hiv9 (by omega)
 rw [hgv9] at hvx9
 obtain ⟨j9, hj9, ej9, hji9, hjx9⟩ := GV.file hx9
 obtain ⟨fb9, fo9, efa9, hfx9⟩ := wDh wBa hgo9.fa hj9 (by omega)
 obtain ⟨g9, hg9⟩ : ∃ z, gv9.files[j9] = z := ⟨_, rfl⟩
 rw [hg9] at hfx9 hji9 hjx9
 subst hjx9
 subst hji9
 have hgk9 : g9.Ok M := hg9 ▸ hgo9.all _ (List.getElem_mem hj9)
 have hfx29 : wDf f.abs w.1 g9.id = (j9 : Int) := by rw [wCp hv9]; exact (hg9 ▸ (wGw hnd9 hj9).2)
 have h4k9 := (hwv9.wf.len _ _ hx9).1
 have hdl9 : (((wAx g9.x.data 4096).drop a).take cc).length = cc := by rw [List.length_take, List.length_drop, wAq]; omega
 obtain ⟨iv, hiv, gv, j, hj, g, vb, vo, fb, fo, rfl, rfl, rfl, eiv, hgv, hid, hwv, hfl, hgo, hnd, ev, hvx, efa, hg, hfx, hgi, hgk, hgx, hnn, hn32, hnsl, hfx2⟩ := opw hwf hf hv hx
 have hfz : wAr f.abs o.1 = gv.frozen := by unfold wAr; rw [hv]; rfl
 obtain ⟨hsz1, hsz2⟩ := wCy hwf hf hn
 have h4k := (hwv.wf.len _ _ hgx).1
 have hkk : ((c.b.toNat : Nat) : Int) = c.b := by omega
 have hcap := hC.cap
 refine wAe (vs := [_, _, _, _]) 178 _ Tryz.func28 rfl Tryz.ntmps28 rfl rfl ?_; intro W
 refine wAb (wAa (sBx [_, _] rfl fun b4 => ?_))
 refine sBx [_, _, _, _, _, _, _] rfl fun b5 => ?_
 refine sBx [_, _] rfl fun b6 => ?_
 refine sBx [_, _] rfl fun b7 => ?_
 refine sAl rfl fun b8 => ?_
 refine sAl rfl fun b9 => ?_
 refine wAc (jT (wAb (wAb (wAa (sLL rfl ?_)))))
 refine lq (qEq (qCl (wEd c ca ck M hC h0)) (v' := .bool true) (by rw [hl])) ?_
 refine jp rfl (wAc (jT (wAh rfl (wAd (jT (wAb (wAa (sLL rfl ?_))))))))
 refine sFL rfl rfl ?_
 refine sFL rfl rfl ?_
 refine lq (qEq (v' := .tuple #[.int .i64 (iv9 : Int), .int .i64 (j9 : Int), .int .i64 0]) (qCl (wAo f n hwf hn M hf w.1 w.2 na nc hW.sn hW.big)) (by rw [hw9]; show Value.tuple #[.int .i64 (ixA w.1 (wAv f.vols)), .int .i64 (wDf f.abs w.1 g9.id), _] = _; rw [eiv9, hfx29])) ?_
 iterate 7 refine jp rfl ?_
 refine wAc (jT (wAb (wAb (wAa (jp rfl (jt rfl (decide_eq_true (by omega)) ?_))))))
 refine jp rfl (sFL rfl rfl ?_)
 refine jp rfl (lq (wAp rfl rfl rfl rfl ev9 (by omega)) ?_)
 refine sFa rfl ?_
 refine lq (qLd rfl rfl rfl rfl ((hvx9 3 _ rfl).cj _)) ?_
 refine jp rfl (lq (wAp rfl rfl rfl rfl efa9 (by omega)) ?_)
 refine sFa rfl ?_
 refine lq (qEq (qLd rfl rfl rfl rfl ((hfx9 1 _ rfl).cj _)) (v' := .bool false) (by rw [hdir9])) ?_
 refine jp rfl (wAc (jT (wAh rfl (wAd (jT (wAb (wAb (wAa (jp rfl (jf rfl (decide_eq_false (by omega)) ?_))))))))))
 refine wAc (jT (wAh rfl (wAd (jT (wAb (wAa (sFL rfl rfl ?_)))))))
 refine jp rfl (lq (wAp rfl rfl rfl rfl ev9 (by omega)) ?_)
 refine sFa rfl ?_
 refine lq (qLd rfl rfl rfl rfl ((hvx9 3 _ rfl).cj _)) ?_
 refine jp rfl (lq (wAp rfl rfl rfl rfl efa9 (by omega)) ?_)
 refine lq (wFt (cs := gfC g9) rfl rfl rfl rfl rfl (fun j u hu => (hfx9 j u hu).cj _)) ?_
 refine sAl rfl fun b13 => ?_
 refine sSt rfl ?_
 refine wAc (jT (wAb (wAa (sFL rfl rfl ?_))))
 refine jp rfl (wAc (jT (wAb (wAa (sFL rfl rfl ?_)))))
 refine jp rfl (wAc (jT (wAb (wAb (wAa (sFL rfl rfl ?_))))))
 refine jf rfl (decide_eq_false (by omega)) ?_
 refine wAc (jT (wAh rfl (wAd (jT (wAb (wAb (wAa (sFL rfl rfl ?_))))))))
 refine jt rfl (decide_eq_true (by omega)) ?_
 refine wAc (jT (wAf rfl (wAb (wCw [(0, true), (1, true), (3, true), (4, true), (5, true), (6, true), (7, true), (8, true), (9, true), (2, false), (10, true), (11, true)] [(b13, .cells (gfC g9).toArray 93 (0, 0)), (b5, .cells (wDa c ca ck).toArray 45 (0, 0))] (by simp) ?_))))
 refine dFa rfl rfl ?_
 refine dLd rfl rfl ?_
 refine dFa rfl rfl ?_
 refine dLd rfl rfl ?_
 refine dFa rfl rfl ?_
 refine dLd rfl rfl ?_
 refine dFa rfl rfl ?_
 refine dLd rfl rfl ?_
 refine da rfl rfl (by omega) ?_
 refine wJf rfl rfl rfl (hCl (wGb g9.x.data g9.da g9.dc M hgk9.da (by omega) 4096 (by omega))) ?_; rintro _ M _ ⟨_, _, rfl, ⟨b103, rfl, rfl, rfl⟩⟩
 refine wHf (MLe.refl _) (fun _ h => List.mem_cons_of_mem _ h) (by first | exact MLe.refl _ | assumption) (by simp) ?_
 rw [wAq]
 refine dq rfl (qEq (v' := .slice (slA (some ⟨b103, 0, none⟩) a 4096 1) (((wAx g9.x.data 4096).drop a).take cc).length (4096 - a)) (qSl rfl rfl rfl (.no _) (.of (v := a + cc) rfl (by omega) (by omega)) (.of (v := a) rfl (by omega) (by omega)) (by omega) (by simp)) (by rw [hdl9, Nat.add_sub_cancel_left])) ?_
 refine dp rfl rfl ?_
 refine wAs (jPn (jT (wAb (wLn b103 (by simp) ?_))))
 intro M1 hM1 e103
 have hds := share_sm e103 (a := a) (k := cc) wAq (by omega)
 refine wAa (sFL rfl rfl ?_)
 refine jp rfl (wAc (jT (wAb (wAa (sLL rfl ?_)))))
 refine sFL rfl rfl ?_
 refine sFL rfl rfl ?_
 refine lq (qEq (v' := .tuple #[.int .i64 (iv : Int), .int .i64 (j : Int), .int .i64 0]) (qCl (wAo f n hwf hn M1 (hf.mono hM1) o.1 o.2 oa oc (hO.sn.mono hM1) hO.big)) (by rw [hw]; show Value.tuple #[.int .i64 (ixA o.1 (wAv f.vols)), .int .i64 (wDf f.abs o.1 g.id), _] = _; rw [eiv, hfx2])) ?_
 iterate 7 refine jp rfl ?_
 refine wAc (jT (wAb (wAb (wAa (jp rfl (jt rfl (decide_eq_true (by omega)) ?_))))))
 refine jp rfl (sFL rfl rfl ?_)
 refine jp rfl (lq (wAp rfl rfl rfl rfl ev (by omega)) ?_)
 refine sFa rfl ?_
 refine lq (qLd rfl rfl rfl rfl (((hvx 3 _ rfl).mono hM1).cj _)) ?_
 refine jp rfl (lq (wAp rfl rfl rfl rfl efa (by omega)) ?_)
 refine sFa rfl ?_
 refine lq (qEq (qLd rfl rfl rfl rfl (((hfx 1 _ rfl).mono hM1).cj _)) (v' := .bool false) (by rw [hdir])) ?_
 refine jp rfl (wAc (jT (wAh rfl (wAd (jT (wAb (wAa (jp rfl (jf rfl (decide_eq_false (by omega)) ?_)))))))))
 refine wAc (jT (wAh rfl (wAd (jT (wAb (wAb (wAa (sFL rfl rfl ?_))))))))
 refine jp rfl (lq (wAp rfl rfl rfl rfl ev (by omega)) ?_)
 refine sFa rfl ?_
 refine lq (qEq (qLd rfl rfl rfl rfl (((hvx 1 _ rfl).mono hM1).cj _)) (v' := .bool false) (by rw [hfz] at hz; rw [hz])) ?_
 refine wAc (jT (wAh rfl (wAd (jT (wAb (wAa (sLL rfl ?_)))))))
 refine wCe rfl rfl (hCl (wFd f M1 (hf.mono hM1) hsz1 hsz2)) ?_; rintro _ M2 _ ⟨hM2, _, rfl, ⟨vs, va2, vc2, Rv, rfl, hvs, hown, hall, rfl⟩⟩
 obtain ⟨hiv2, hpi, hpa⟩ := tw_at hvs hiv
 rw [hgv] at hpi hpa
 have hpl := wLq hpa
 refine wGg hiv2 hown hall (by omega) ?_
 intro M3 vb2 fb2 sp fsp hF
 obtain ⟨p, hp⟩ : ∃ p, (vs[iv]).1 = p := ⟨_, rfl⟩
 have hF2 := hF
 obtain ⟨hM3, hoth, hpfs, hva, hvc, hvlen, hvm, hpf, hpc, hplen, hpm⟩ := hF2
 subst hva
 rw [hp] at hpi hpa hpl hpfs hpf hpc hplen hpm ⊢
 have hvq : (vsF vs)[iv]? = some p := by rw [List.getElem?_map, List.getElem?_eq_getElem hiv2, Option.map_some, hp]
 have hvsl : (vsF vs).length = vs.length := List.length_map _
 obtain ⟨hj2, hgid, hgx2⟩ := wKw hpa hj
 rw [hg] at hgid hgx2
 obtain ⟨g2, hg2⟩ : ∃ g2, p.files[j] = g2 := ⟨_, rfl⟩
 rw [hg2] at hgid hgx2
 have hfq : p.files[j]? = some g2 := by rw [List.getElem?_eq_getElem hj2, hg2]
 have hgo2 : g2.Ok M3 := hg2 ▸ hpfs _ (List.getElem_mem hj2)
 have hns2 := wCk hgo2
 have hn2l : g2.ns.length ≤ 32 := by rw [hns2, hgx2]; exact hn32
 have hnx : p.next = gv.next := congrArg PV.next hpa
 have hpz : p.frozen = gv.frozen := congrArg PV.frozen hpa
 have h2n : 2 ≤ gv.next := hwv.two
 have hmn : gv.next ≤ 2 + (n : Int) := hwv.most
 have hlenvs : vs.length = f.vols.length := by have := congrArg List.length hvs; simpa using this
 refine sAl rfl fun b18 => ?_
 refine sSt rfl ?_
 refine wAc (jT (wAb (wBn (p := { A := fun i => !([23].contains i), U := fun i => !([23].contains i) }) [(0, true), (1, true), (2, true), (3, true), (4, true), (5, true), (6, true), (7, true), (8, true), (9, true), (10, true), (11, true), (12, true), (13, true), (14, true), (15, true), (16, true), (17, true), (18, true), (19, true), (20, false), (21, true), (22, true), (23, false)] M3 ([(b18, .cells [.int .i64 f.made, .slice (some ⟨vb2, 0, none⟩) vs.length vc2].toArray 53 (0, 0)), (vb2, .cells ((vsF vs).flatMap gvC ++ sp).toArray 96 (0, 0)), (b5, .cells (wDa c ca ck).toArray 45 (0, 0)), (b4, .cells (gsC f).toArray 53 (0, 0))]) ([]) (by kernel_rfl) (by kernel_rfl) (by kernel_rfl) (by kernel_rfl) rfl (by simp) (MLe.refl _) (by simp) ?_)))
 refine dFa rfl rfl ?_
 refine dLd rfl rfl ?_
 refine dp rfl rfl ?_
 refine dq rfl (wAp rfl rfl rfl rfl rfl (by omega)) ?_
 refine dFa rfl rfl ?_
 refine dq rfl (qLd rfl rfl rfl rfl (wCx wBy hvq 3 _ rfl)) ?_
 refine dp rfl rfl ?_
 refine dFa rfl rfl ?_
 refine dLd rfl rfl ?_
 refine dp rfl rfl ?_
 refine dq rfl (wAp rfl rfl rfl rfl ev (by omega)) ?_
 refine dFa rfl rfl ?_
 refine dq rfl (qLd rfl rfl rfl rfl (((((hvx 3 _ rfl).mono hM1).mono hM2).mono hM3).cj _)) ?_
 refine dp rfl rfl ?_
 refine dq rfl (wAp rfl rfl rfl rfl efa (by omega)) ?_
 refine dFa rfl rfl ?_
 refine dq rfl (qLd rfl rfl rfl rfl (((((hfx 3 _ rfl).mono hM1).mono hM2).mono hM3).cj _)) ?_
 refine dLL rfl rfl ?_
 iterate 2 refine dp rfl rfl ?_
 refine wJf rfl rfl rfl (wKh rfl rfl rfl rfl rfl (by kernel_rfl) (by have := changed_any g.x.data g.da g.dc M3 (((hgk.da.mono hM1).mono hM2).mono hM3) h4k c ca ck (((hC.mono hM1).mono hM2).mono hM3) (((wAx g9.x.data 4096).drop a).take cc) (slA (some ⟨b103, 0, none⟩) a 4096 1) (4096 - a) ((hds.mono hM2).mono hM3) (c.b.toNat) hL; rw [hkk] at this; exact this)) ?_; rintro _ M3 _ ⟨_, _, rfl, ⟨b173, rfl, rfl, rfl⟩⟩
 refine ⟨_, _, MLe.refl _, MLe.refl _, fun _ h => h, by simp, ?_⟩
 refine dq rfl (wAp rfl rfl rfl rfl hpf (show (0 : Int) ≤ (j : Int) ∧ (j : Int) < ((p.files.length : Nat) : Int) from ⟨by omega, by omega⟩)) ?_
 refine dFa rfl rfl ?_
 refine wJu rfl rfl (wBw (l2 := (p.files.set j ({ g2 with x := { g2.x with data := wAw c g.x.data (((wAx g9.x.data 4096).drop a).take cc) (c.b.toNat) }, da := some ⟨b173, 0, none⟩, dc := (wAw c g.x.data (((wAx g9.x.data 4096).drop a).take cc) (c.b.toNat)).length } : GF)).flatMap gfC ++ fsp) rfl rfl rfl rfl rfl rfl rfl (wDj wBa hfq (Nat.le_of_ble_eq_true rfl)) (wDi wBa hfq (Nat.le_of_ble_eq_true rfl) rfl)) ?_; rintro _ _ _ ⟨rfl, rfl⟩
 refine ⟨MLe.refl _, by simp, ?_⟩
 refine wCu ?_
 refine jPn (jT (wAb (wAa (sLL rfl ?_))))
 refine lq (wBe (cs := [_, _, _, _, _, _, _, _]) rfl rfl rfl (by rfl)) ?_
 refine sSt rfl ?_
 refine sSt rfl ?_
 refine wAc (jT (wAg (wCt b173 (by simp) ?_)))
 intro M8 hM8 e8
 refine wCt fb2 (by simp) ?_
 intro M9 hM9 e9
 refine wCt vb2 (by simp) ?_
 intro M10 hM10 e10
 refine wEj (rs := [_, _]) rfl (.cons (.agg rfl rfl rfl) (.cons (.agg rfl rfl rfl) .nil)) ?_
 have hM := (hM8.trans hM9).trans hM10
 rw [← wHh hvq (v2 := ({ p with files := (p.files.set j ({ g2 with x := { g2.x with data := wAw c g.x.data (((wAx g9.x.data 4096).drop a).take cc) (c.b.toNat) }, da := some ⟨b173, 0, none⟩, dc := (wAw c g.x.data (((wAx g9.x.data 4096).drop a).take cc) (c.b.toNat)).length } : GF)) } : GV)) (by show [_, _, _, Value.slice _ ((p.files.set j ({ g2 with x := { g2.x with data := wAw c g.x.data (((wAx g9.x.data 4096).drop a).take cc) (c.b.toNat) }, da := some ⟨b173, 0, none⟩, dc := (wAw c g.x.data (((wAx g9.x.data 4096).drop a).take cc) (c.b.toNat)).length } : GF))).length _] = _; rw [List.length_set])] at e10
 refine RDoP.vol hwf hvs hiv2 (by rw [hp, hpi, hid]) (v2 := ({ p with files := (p.files.set j ({ g2 with x := { g2.x with data := wAw c g.x.data (((wAx g9.x.data 4096).drop a).take cc) (c.b.toNat) }, da := some ⟨b173, 0, none⟩, dc := (wAw c g.x.data (((wAx g9.x.data 4096).drop a).take cc) (c.b.toNat)).length } : GF)) } : GV)) (by rw [hpi, hid]) e10 hvc (fun i hi hne => (hoth i hi hne).mono hM) ⟨?_, ?_, ?_⟩ (rp := {}) ?_ rfl rfl
 ·show SM M10 p.fa ((p.files.set j ({ g2 with x := { g2.x with data := wAw c g.x.data (((wAx g9.x.data 4096).drop a).take cc) (c.b.toNat) }, da := some ⟨b173, 0, none⟩, dc := (wAw c g.x.data (((wAx g9.x.data 4096).drop a).take cc) (c.b.toNat)).length } : GF)).flatMap gfC); rw [hpf]; exact (sm_of e9).mono hM10
 ·show ((p.files.set j ({ g2 with x := { g2.x with data := wAw c g.x.data (((wAx g9.x.data 4096).drop a).take cc) (c.b.toNat) }, da := some ⟨b173, 0, none⟩, dc := (wAw c g.x.data (((wAx g9.x.data 4096).drop a).take cc) (c.b.toNat)).length } : GF))).length ≤ p.fc; rw [List.length_set]; exact hpc
 ·exact wFh (fun q hq => (hpfs q hq).mono hM) ((data_ok hgo2 hM8 e8).mono (hM9.trans hM10))
 rw [turn_abs hfs hz hv hx]
 have hnd2 : (wBg (flsOf' p.files)).Nodup := by rw [show flsOf' p.files = flsOf' gv.files from congrArg PV.files hpa]; exact hnd
 have e := fls_set (l := p.files) (j := j) (g' := ({ g2 with x := { g2.x with data := wAw c g.x.data (((wAx g9.x.data 4096).drop a).take cc) (c.b.toNat) }, da := some ⟨b173, 0, none⟩, dc := (wAw c g.x.data (((wAx g9.x.data 4096).drop a).take cc) (c.b.toNat)).length } : GF)) hnd2 hj2 (by rw [hg2])
 have e2 : flsOf' p.files = gv.abs.files := congrArg PV.files hpa
 have e3 : GV.abs ({ p with files := (p.files.set j ({ g2 with x := { g2.x with data := wAw c g.x.data (((wAx g9.x.data 4096).drop a).take cc) (c.b.toNat) }, da := some ⟨b173, 0, none⟩, dc := (wAw c g.x.data (((wAx g9.x.data 4096).drop a).take cc) (c.b.toNat)).length } : GF)) } : GV) = { gv.abs with files := wBq g.id { g.x with data := wAw c g.x.data (((wAx g9.x.data 4096).drop a).take cc) (c.b.toNat) } gv.abs.files } := by
  show ({ frozen := p.frozen, next := p.next, files := flsOf' (p.files.set j ({ g2 with x := { g2.x with data := wAw c g.x.data (((wAx g9.x.data 4096).drop a).take cc) (c.b.toNat) }, da := some ⟨b173, 0, none⟩, dc := (wAw c g.x.data (((wAx g9.x.data 4096).drop a).take cc) (c.b.toNat)).length } : GF)) } : PV) = _
  rw [e, e2, hpz, hnx, hgid, hgx2]; rfl
 refine Prod.ext ?_ rfl
 exact congrArg (fun z : PV => ({ f.abs with vols := wBq o.1 z f.abs.vols } : PS)) e3.symm
end Go.Proofs.YtokljhkplbkggaaGreatDoor
