/- Walks: the document's calls that look. -/
import Derived.Test.YtokljhkplbkggaaGreatDoorZRfy
namespace Go.Proofs.YtokljhkplbkggaaGreatDoor
set_option linter.unusedVariables false
set_option linter.unusedSectionVars false
set_option linter.unusedSimpArgs false
open Go.RowKit Go.MapKept
def RepP (r : RP) (u : Value) (M' : Mem) (L' : Lc) : Prop := ∃ dv nv, u = .agg (rpc r dv nv).toArray ∧ BsP M' dv r.data ∧ NsP M' nv r.names ∧ L' = []
theorem RepP.plain {r : RP} {M : Mem} (h1 : r.data = []) (h2 : r.names = []) : RepP r (rp0 r) M [] := ⟨_, _, rfl, by rw [h1]; exact BsP.nil, by rw [h2]; exact NsP.nil, rfl⟩
theorem lk_err (f : GS) (n : Nat) (hwf : WFS n f.abs) (hn : n ≤ 100) (M : Mem) (hf : f.Ok M) (c : CL) (ca : Option Addr) (ck : Nat) (hC : CallOk M c ca ck) (w : Wy) (na : Option Addr) (nc : Nat) (hW : WyOk M w na nc) (e : Int) (hw : wBb f.abs w.1 w.2 = .error e) (he : e ≠ 0) :
  SpecL Tryz.prog 30 #[gsV f, clV c ca ck, wyV w na nc] M [] (RepP (wCa e)) := by
 refine wAe (vs := [_, _, _]) 72 _ Tryz.func30 rfl Tryz.ntmps30 rfl rfl ?_; intro W
 refine wAb (wAa (sBx [_, _] rfl fun b3 => ?_))
 refine sBx [_, _, _, _, _, _, _] rfl fun b4 => ?_
 refine sBx [_, _] rfl fun b5 => ?_
 refine sAl rfl fun b6 => ?_
 refine wAc (jT (wAb (wAa (sLL rfl ?_))))
 refine sFL rfl rfl ?_
 refine sFL rfl rfl ?_
 refine lq (qEq (v' := .tuple #[.int .i64 0, .int .i64 0, .int .i64 e]) (qCl (wAo f n hwf hn M hf w.1 w.2 na nc hW.sn hW.big)) (by rw [hw]; rfl)) ?_
 iterate 7 refine jp rfl ?_
 refine wAc (jT (wAb (wAb (wAa (jp rfl (jt rfl (decide_eq_true (by omega)) ?_))))))
 refine wAc (jT (wAf rfl (wAb (wAa (jp rfl (lq (qCl (wAu e M)) ?_))))))
 refine sSt rfl ?_
 refine wAc (jT (wAg (jTr (wEj (rs := [_]) rfl (.cons (.agg rfl rfl rfl) .nil) ?_))))
 exact RepP.plain rfl rfl
set_option maxHeartbeats 2000000 in
theorem lk_stat (f : GS) (n : Nat) (hwf : WFS n f.abs) (hn : n ≤ 100) (M : Mem) (hf : f.Ok M) (c : CL) (ca : Option Addr) (ck : Nat) (hC : CallOk M c ca ck) (w : Wy) (na : Option Addr) (nc : Nat) (hW : WyOk M w na nc) (id : Int) (v : PV) (x : PF) (hw : wBb f.abs w.1 w.2 = .ok id) (hv : wAm w.1 f.abs.vols = some v) (hx : wAm id v.files = some x) (hk : c.kind = 17) :
  SpecL Tryz.prog 30 #[gsV f, clV c ca ck, wyV w na nc] M [] (RepP { sid := id, sdir := x.dir, slinks := x.links, ssize := x.data.length }) := by
 have hvl := wBh hwf
 obtain ⟨iv, hiv, gv, j, hj, g, vb, vo, fb, fo, rfl, rfl, rfl, eiv, hgv, hid, hwv, hfl, hgo, hnd, ev, hvx, efa, hg, hfx, hgi, hgk, hgx, hnn, hn32, hnsl, hfx2⟩ := opw hwf hf hv hx
 refine wAe (vs := [_, _, _]) 72 _ Tryz.func30 rfl Tryz.ntmps30 rfl rfl ?_; intro W
 refine wAb (wAa (sBx [_, _] rfl fun b3 => ?_))
 refine sBx [_, _, _, _, _, _, _] rfl fun b4 => ?_
 refine sBx [_, _] rfl fun b5 => ?_
 refine sAl rfl fun b6 => ?_
 refine wAc (jT (wAb (wAa (sLL rfl ?_))))
 refine sFL rfl rfl ?_
 refine sFL rfl rfl ?_
 refine lq (qEq (v' := .tuple #[.int .i64 (iv : Int), .int .i64 (j : Int), .int .i64 0]) (qCl (wAo f n hwf hn M hf w.1 w.2 na nc hW.sn hW.big)) (by rw [hw]; show Value.tuple #[.int .i64 (ixA w.1 (wAv f.vols)), .int .i64 (wDf f.abs w.1 g.id), _] = _; rw [eiv, hfx2])) ?_
 iterate 7 refine jp rfl ?_
 refine wAc (jT (wAb (wAb (wAa (jp rfl (jf rfl (decide_eq_false (by omega)) ?_))))))
 refine wAc (jT (wAh rfl (wAd (jT (wAb (wAa (sFL rfl rfl ?_)))))))
 refine jp rfl (lq (wAp rfl rfl rfl rfl ev (by omega)) ?_)
 refine sFa rfl ?_
 refine lq (qLd rfl rfl rfl rfl ((hvx 3 _ rfl).cj _)) ?_
 refine jp rfl (lq (wAp rfl rfl rfl rfl efa (by omega)) ?_)
 refine lq (wFt (cs := gfC g) rfl rfl rfl rfl rfl (fun j u hu => (hfx j u hu).cj _)) ?_
 refine sAl rfl fun b10 => ?_
 refine sSt rfl ?_
 refine wAc (jT (wAb (wAb (wAa (sFL rfl rfl ?_)))))
 refine jt rfl (decide_eq_true (by omega)) ?_
 refine wAc (jT (wAf rfl (wAb (wAa (sFL rfl rfl ?_)))))
 refine sFL rfl rfl ?_
 refine sFL rfl rfl ?_
 refine sFL rfl rfl ?_
 refine lq (wCd rfl rfl rfl) ?_
 refine lq (wBe (cs := [_, _, _, _]) rfl rfl rfl (by rfl)) ?_
 refine lq (wBe (cs := [_, _, _, _, _, _, _, _]) rfl rfl rfl (by rfl)) ?_
 refine sSt rfl ?_
 refine wAc (jT (wAg (jTr (wEj (rs := [_]) rfl (.cons (.agg rfl rfl rfl) .nil) ?_))))
 exact RepP.plain rfl rfl
set_option maxHeartbeats 2000000 in
theorem lk_nd (f : GS) (n : Nat) (hwf : WFS n f.abs) (hn : n ≤ 100) (M : Mem) (hf : f.Ok M) (c : CL) (ca : Option Addr) (ck : Nat) (hC : CallOk M c ca ck) (w : Wy) (na : Option Addr) (nc : Nat) (hW : WyOk M w na nc) (id : Int) (v : PV) (x : PF) (hw : wBb f.abs w.1 w.2 = .ok id) (hv : wAm w.1 f.abs.vols = some v) (hx : wAm id v.files = some x) (hk : c.kind = 16) (hdir : x.dir = false) :
  SpecL Tryz.prog 30 #[gsV f, clV c ca ck, wyV w na nc] M [] (RepP (wCa 240)) := by
 have hvl := wBh hwf
 obtain ⟨iv, hiv, gv, j, hj, g, vb, vo, fb, fo, rfl, rfl, rfl, eiv, hgv, hid, hwv, hfl, hgo, hnd, ev, hvx, efa, hg, hfx, hgi, hgk, hgx, hnn, hn32, hnsl, hfx2⟩ := opw hwf hf hv hx
 refine wAe (vs := [_, _, _]) 72 _ Tryz.func30 rfl Tryz.ntmps30 rfl rfl ?_; intro W
 refine wAb (wAa (sBx [_, _] rfl fun b3 => ?_))
 refine sBx [_, _, _, _, _, _, _] rfl fun b4 => ?_
 refine sBx [_, _] rfl fun b5 => ?_
 refine sAl rfl fun b6 => ?_
 refine wAc (jT (wAb (wAa (sLL rfl ?_))))
 refine sFL rfl rfl ?_
 refine sFL rfl rfl ?_
 refine lq (qEq (v' := .tuple #[.int .i64 (iv : Int), .int .i64 (j : Int), .int .i64 0]) (qCl (wAo f n hwf hn M hf w.1 w.2 na nc hW.sn hW.big)) (by rw [hw]; show Value.tuple #[.int .i64 (ixA w.1 (wAv f.vols)), .int .i64 (wDf f.abs w.1 g.id), _] = _; rw [eiv, hfx2])) ?_
 iterate 7 refine jp rfl ?_
 refine wAc (jT (wAb (wAb (wAa (jp rfl (jf rfl (decide_eq_false (by omega)) ?_))))))
 refine wAc (jT (wAh rfl (wAd (jT (wAb (wAa (sFL rfl rfl ?_)))))))
 refine jp rfl (lq (wAp rfl rfl rfl rfl ev (by omega)) ?_)
 refine sFa rfl ?_
 refine lq (qLd rfl rfl rfl rfl ((hvx 3 _ rfl).cj _)) ?_
 refine jp rfl (lq (wAp rfl rfl rfl rfl efa (by omega)) ?_)
 refine lq (wFt (cs := gfC g) rfl rfl rfl rfl rfl (fun j u hu => (hfx j u hu).cj _)) ?_
 refine sAl rfl fun b10 => ?_
 refine sSt rfl ?_
 refine wAc (jT (wAb (wAb (wAa (sFL rfl rfl ?_)))))
 refine jf rfl (decide_eq_false (by omega)) ?_
 refine wAc (jT (wAh rfl (wAd (jT (wAb (wAb (wAa (sFa rfl ?_))))))))
 refine lq (qEq (qLd rfl rfl rfl rfl (CJ.loc rfl)) (v' := .bool false) (by rw [hdir])) ?_
 refine jp rfl (wAc (jT (wAf rfl (wAb (wAa (lq (qCl (wAu 240 M)) ?_))))))
 refine sSt rfl ?_
 refine wAc (jT (wAg (jTr (wEj (rs := [_]) rfl (.cons (.agg rfl rfl rfl) .nil) ?_))))
 exact RepP.plain rfl rfl
set_option maxHeartbeats 4000000 in
theorem lk_list (f : GS) (n : Nat) (hwf : WFS n f.abs) (hn : n ≤ 100) (M : Mem) (hf : f.Ok M) (c : CL) (ca : Option Addr) (ck : Nat) (hC : CallOk M c ca ck) (w : Wy) (na : Option Addr) (nc : Nat) (hW : WyOk M w na nc) (id : Int) (v : PV) (x : PF) (hw : wBb f.abs w.1 w.2 = .ok id) (hv : wAm w.1 f.abs.vols = some v) (hx : wAm id v.files = some x) (hk : c.kind = 16) (hdir : x.dir = true) :
  SpecL Tryz.prog 30 #[gsV f, clV c ca ck, wyV w na nc] M [] (RepP { names := (x.names.map (·.1)).mergeSort wHw }) := by
 have hvl := wBh hwf
 obtain ⟨iv, hiv, gv, j, hj, g, vb, vo, fb, fo, rfl, rfl, rfl, eiv, hgv, hid, hwv, hfl, hgo, hnd, ev, hvx, efa, hg, hfx, hgi, hgk, hgx, hnn, hn32, hnsl, hfx2⟩ := opw hwf hf hv hx
 refine wAe (vs := [_, _, _]) 72 _ Tryz.func30 rfl Tryz.ntmps30 rfl rfl ?_; intro W
 refine wAb (wAa (sBx [_, _] rfl fun b3 => ?_))
 refine sBx [_, _, _, _, _, _, _] rfl fun b4 => ?_
 refine sBx [_, _] rfl fun b5 => ?_
 refine sAl rfl fun b6 => ?_
 refine wAc (jT (wAb (wAa (sLL rfl ?_))))
 refine sFL rfl rfl ?_
 refine sFL rfl rfl ?_
 refine lq (qEq (v' := .tuple #[.int .i64 (iv : Int), .int .i64 (j : Int), .int .i64 0]) (qCl (wAo f n hwf hn M hf w.1 w.2 na nc hW.sn hW.big)) (by rw [hw]; show Value.tuple #[.int .i64 (ixA w.1 (wAv f.vols)), .int .i64 (wDf f.abs w.1 g.id), _] = _; rw [eiv, hfx2])) ?_
 iterate 7 refine jp rfl ?_
 refine wAc (jT (wAb (wAb (wAa (jp rfl (jf rfl (decide_eq_false (by omega)) ?_))))))
 refine wAc (jT (wAh rfl (wAd (jT (wAb (wAa (sFL rfl rfl ?_)))))))
 refine jp rfl (lq (wAp rfl rfl rfl rfl ev (by omega)) ?_)
 refine sFa rfl ?_
 refine lq (qLd rfl rfl rfl rfl ((hvx 3 _ rfl).cj _)) ?_
 refine jp rfl (lq (wAp rfl rfl rfl rfl efa (by omega)) ?_)
 refine lq (wFt (cs := gfC g) rfl rfl rfl rfl rfl (fun j u hu => (hfx j u hu).cj _)) ?_
 refine sAl rfl fun b10 => ?_
 refine sSt rfl ?_
 refine wAc (jT (wAb (wAb (wAa (sFL rfl rfl ?_)))))
 refine jf rfl (decide_eq_false (by omega)) ?_
 refine wAc (jT (wAh rfl (wAd (jT (wAb (wAb (wAa (sFa rfl ?_))))))))
 refine lq (qEq (qLd rfl rfl rfl rfl (CJ.loc rfl)) (v' := .bool true) (by rw [hdir])) ?_
 refine jp rfl (wAc (jT (wAh rfl (wAd (jT (wAb (wAa (jp rfl (wAc (jT (wAb (wAb (wAa (jp rfl (wAc (jT (wAk ?_)))))))))))))))))
 refine wBr (α := Nat × Value × Lc) (fun z => [(6, pt b6), (10, pt b10), (11, z.2.1), (12, .int .i64 z.1)]) (fun _ => M) (fun z => [(b10, .cells (gfC g).toArray 93 (0, 0)), (b6, .cells (rpc {} (.slice none 0 0) (.slice none 0 0)).toArray 30 (0, 0)), (b5, .cells [.int .i64 w.1, .slice na w.2.length nc].toArray 65 (0, 0)), (b4, .cells (wDa c ca ck).toArray 45 (0, 0)), (b3, .cells (gsC f).toArray 53 (0, 0))] ++ z.2.2) (fun z => z.1 ≤ g.ns.length ∧ Own z.2.1 z.2.2 9 1 z.1 (((g.ns.take z.1).map (·.1)).map Value.string)) (fun z => g.ns.length - z.1)
  (0, .slice none 0 0, []) (.cons (t := 6) rfl (.cons (t := 10) rfl (.cons (t := 11) rfl (.cons (t := 12) rfl .nil)))) ⟨Nat.zero_le _, Own.nil _ _⟩ (fun _ h => h) ?_
 rintro ⟨i, out, R⟩ hI
 have hi := hI.1
 dsimp only at hi hI ⊢
 refine wAb (wAb (wAa (jp rfl (sFL rfl rfl ?_))))
 refine lq (wCd rfl rfl rfl) ?_
 refine js rfl (fun h58 => ?_) (fun h58 => ?_)
 ·refine wAc (jT (wAf rfl (wAd (jT (wAb (wAk (wAa (jp rfl (sFL rfl rfl ?_)))))))))
  refine jp rfl ?_
  have hk1 : i < g.ns.length := by omega
  obtain ⟨eb, eo, ee, hex⟩ := wDh eC_len hgk.na hk1 (by omega)
  refine lq (wAp rfl rfl rfl rfl ee (by omega)) ?_
  refine sFa rfl ?_
  refine lq (qLd rfl rfl rfl rfl ((hex 0 _ rfl).cj _)) ?_
  refine wCe rfl rfl (wBt (cs := [_]) rfl rfl rfl (by rfl) (by rfl) (by rfl)) ?_; rintro _ _ _ ⟨b68, rfl, rfl, rfl⟩
  refine wCe rfl rfl (wDt (R := R) (news := [Value.string g.ns[i].1]) rfl rfl rfl rfl hI.2 rfl (fun j v hv => CJ.loc (by rw [Nat.zero_add]; simpa using hv)) rfl rfl (fun u hu => by rw [List.mem_singleton.1 hu]; rfl) (by omega) (by omega)) ?_; rintro out2 _ _ ⟨rfl, R3, rfl, hown2, _⟩
  refine jp rfl (wAc (jB (jT (wAa (jp rfl (ja rfl (by omega) ?_))))))
  refine jp rfl (wAc ?_)
  refine wBu (i + 1, out2, R3) (.cons (t := 6) rfl (.cons (t := 10) rfl (.cons (t := 11) rfl (.cons (t := 12) rfl .nil)))) ⟨by show i + 1 ≤ _; omega, ?_⟩ (by show g.ns.length - (i + 1) < g.ns.length - i; omega) (fun _ h => h.subC fun f => by simp only [List.map_append, List.map_cons, List.map_nil, List.sum_append, List.sum_cons, List.sum_nil]; omega)
  dsimp only
  rw [List.take_succ_eq_append_getElem hk1, List.map_append, List.map_append]; exact hown2
 refine wAc (jT (wAh rfl (wBx (jTx (jTx (jBx (jT (wAb ?_))))))))
 obtain rfl : i = g.ns.length := by omega
 refine jc_own hI.2 (by simp) ?_
 intro M9 a9 c9 hM9 e9 hc9 hs9
 subst e9
 have hcl := hI.2.capLe
 rw [List.take_length] at hs9
 refine wAa (jp rfl (lq (wBe (cs := [_, _, _, _, _, _, _, _]) rfl rfl rfl (by rfl)) ?_))
 refine sSt rfl ?_
 refine wAc (jT (wAg (wEj (rs := [_]) rfl (.cons (.agg rfl rfl rfl) .nil) ?_)))
 have hsr := srt_names hgk.pm hgk.st
 have hsl : ((g.x.names.map (·.1)).mergeSort wHw).length = g.ns.length := by rw [← hsr, List.length_map]
 refine ⟨.slice none 0 0, .slice a9 ((g.x.names.map (·.1)).mergeSort wHw).length c9, by rw [hsl]; rfl, BsP.nil, ⟨a9, c9, rfl, by rw [hsl]; exact hc9, hcl, by rw [← hsr]; exact hs9⟩, rfl⟩
end Go.Proofs.YtokljhkplbkggaaGreatDoor
