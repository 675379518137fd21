/- Walks: the document's calls that make files. -/
import Derived.Test.YtokljhkplbkggaaGreatDoorZRfw
namespace Go.Proofs.YtokljhkplbkggaaGreatDoor
set_option linter.unusedVariables false
set_option linter.unusedSectionVars false
set_option linter.unusedSimpArgs false
open Go.RowKit Go.MapKept
theorem row_cjq {α : Type} {f : α → List Value} {m : Nat} (hf : ∀ x, (f x).length = m) {M : Mem} {L : Lc} {b : Nat} {e : TypeId} {qs : List α} {q : α} {sp : List Value} {i : Nat} (hm : (b, Obj.cells (qs.flatMap f ++ sp).toArray e (0, 0)) ∈ L) (hq : qs[i]? = some q) : ∀ j v, (f q)[j]? = some v → CJ M L b (0 + ((i : Int)).toNat * m + j) v := by
 obtain ⟨hi, rfl⟩ := List.getElem?_eq_some_iff.1 hq
 exact row_cj hf hm hi
theorem wCx {α : Type} {f : α → List Value} {m : Nat} (hf : ∀ x, (f x).length = m) {M : Mem} {L : Lc} {b : Nat} {e : TypeId} {qs : List α} {q : α} {sp : List Value} {i : Nat} [hm : At b (Obj.cells (qs.flatMap f ++ sp).toArray e (0, 0)) L] (hq : qs[i]? = some q) : ∀ j v, (f q)[j]? = some v → CJ M L b (0 + ((i : Int)).toNat * m + j) v := row_cjq hf hm.mem hq
theorem wDi {α : Type} {f : α → List Value} {m : Nat} (hf : ∀ x, (f x).length = m) {qs : List α} {q : α} {sp : List Value} {i j : Nat} (hq : qs[i]? = some q) (hj : j < m) {q' : α} {u : Value} (h : f q' = (f q).set j u) :
  (qs.flatMap f ++ sp).take (0 + ((i : Int)).toNat * m + j) ++ [u] ++ (qs.flatMap f ++ sp).drop (0 + ((i : Int)).toNat * m + j + 1) = (qs.set i q').flatMap f ++ sp := by
 obtain ⟨hi, rfl⟩ := List.getElem?_eq_some_iff.1 hq
 exact row_set hf hi hj h
theorem wDj {α : Type} {f : α → List Value} {m : Nat} (hf : ∀ x, (f x).length = m) {qs : List α} {q : α} {sp : List Value} {i j k : Nat} (hq : qs[i]? = some q) (hj : j + k ≤ m) : Nat.ble (0 + ((i : Int)).toNat * m + j + k) (qs.flatMap f ++ sp).length = true := by
 obtain ⟨hi, rfl⟩ := List.getElem?_eq_some_iff.1 hq
 exact row_fit hf hi hj
theorem set_q {α : Type} {qs : List α} {i : Nat} {q q' : α} (hq : qs[i]? = some q) : (qs.set i q')[i]? = some q' := by
 obtain ⟨hi, rfl⟩ := List.getElem?_eq_some_iff.1 hq
 rw [List.getElem?_set_self hi]
theorem tw_at {f : GS} {vs : List GO} (hvs : wAv (vsF vs) = wAv f.vols) {i : Nat} (hi : i < f.vols.length) : ∃ hi' : i < vs.length, (vs[i]).1.id = f.vols[i].id ∧ (vs[i]).1.abs = f.vols[i].abs := by
 have hl : vs.length = f.vols.length := by have := congrArg List.length hvs; simpa using this
 refine ⟨by omega, ?_⟩
 have h1 : (wAv (vsF vs))[i]? = (wAv f.vols)[i]? := by rw [hvs]
 simp only [List.getElem?_map, List.getElem?_eq_getElem hi, List.getElem?_eq_getElem (show i < vs.length by omega), Option.map_some, Option.some.injEq, Prod.mk.injEq] at h1
 exact h1
theorem wKw {p v : GV} (h : p.abs = v.abs) {j : Nat} (hj : j < v.files.length) : ∃ hj' : j < p.files.length, p.files[j].id = v.files[j].id ∧ p.files[j].x = v.files[j].x := by
 have h2 : flsOf' p.files = flsOf' v.files := congrArg PV.files h
 have hl : p.files.length = v.files.length := by have := congrArg List.length h2; simpa using this
 refine ⟨by omega, ?_⟩
 have h1 : (flsOf' p.files)[j]? = (flsOf' v.files)[j]? := by rw [h2]
 simp only [List.getElem?_map, List.getElem?_eq_getElem hj, List.getElem?_eq_getElem (show j < p.files.length by omega), Option.map_some, Option.some.injEq, Prod.mk.injEq] at h1
 exact h1
theorem wLq {p v : GV} (h : p.abs = v.abs) : p.files.length = v.files.length := by
 have h2 : flsOf' p.files = flsOf' v.files := congrArg PV.files h
 have := congrArg List.length h2; simpa using this
theorem fls_set {l : List GF} {j : Nat} {g' : GF} (hn : (wBg (flsOf' l)).Nodup) (hj : j < l.length) (hid : g'.id = l[j].id) : flsOf' (l.set j g') = wBq g'.id g'.x (flsOf' l) := by
 have hj' : j < (flsOf' l).length := by simpa using hj
 rw [putA_at hn hj' (by simp [hid])]
 show List.map _ (List.set _ _ _) = _
 rw [List.map_set]
theorem wFm {n : Nat} {f : GS} (h : WFS n f.abs) {w : Wy} {vol d : Int} {old : Option Int} (hw : wBo f.abs w vol old = .ok d) : ∃ v x, wAm w.1 f.abs.vols = some v ∧ wAm d v.files = some x ∧ WFV n v ∧ x.dir = true ∧ wAm (wAi w) x.names = none ∧ (x.names.length < 32 ∨ old = some d) ∧ w.1 = vol ∧ w.2 ≠ [] := by
 unfold wBo at hw
 split at hw
 ·cases hw
 rename_i hne
 split at hw
 ·cases hw
 rename_i k hk
 unfold wCj at hk
 split at hk
 ·cases hk
 rename_i id hid
 split at hk
 ·rename_i hd
  cases hk
  obtain ⟨v, x, h1, h2, h3⟩ := wHr h hid
  have hdi : x.dir = true := by
   unfold wGu wEs at hd; rw [h1] at hd; simp only [Option.bind_some] at hd; rw [h2] at hd; exact hd
  have hna : wDx f.abs w.1 k = x.names := by unfold wDx wEs; rw [h1]; simp only [Option.bind_some]; rw [h2]
  rw [hna] at hw
  split at hw
  ·rename_i hv
   split at hw
   ·cases hw
   rename_i hs
   split at hw
   ·cases hw
   rename_i h4
   cases hw
   refine ⟨v, x, h1, h2, h3, hdi, by simpa using hs, ?_, hv, hne⟩
   by_cases h5 : old = some d
   ·exact .inr h5
   left
   refine Nat.lt_of_not_le fun h6 => h4 ⟨h6, h5⟩
  cases hw
 cases hk
theorem gfresh_err {n : Nat} {f : GS} (h : WFS n f.abs) {w : Wy} {vol e : Int} {old : Option Int} (hw : wBo f.abs w vol old = .error e) : e ≠ 0 := by
 unfold wBo at hw
 split at hw
 ·cases hw; decide
 split at hw
 ·rename_i e' he; cases hw; rcases placeS_err h he with rfl | rfl <;> decide
 split at hw
 ·split at hw
  ·cases hw; decide
  split at hw
  ·cases hw; decide
  cases hw
 cases hw; decide
theorem RDoP.vol {f : GS} {n : Nat} (hwf : WFS n f.abs) {vs : List GO} (hvs : wAv (vsF vs) = wAv f.vols) {iv : Nat} (hiv : iv < vs.length) {vol : Int} (hid : (vs[iv]).1.id = vol) {v2 : GV} (h2id : v2.id = vol) {M' : Mem} {vb c : Nat} {sp : List Value}
  (hb : M' vb = some (.cells (((vsF vs).set iv v2).flatMap gvC ++ sp).toArray 96 (0, 0))) (hc : vs.length ≤ c) (hoth : ∀ j (hj : j < vs.length), j ≠ iv → (vs[j]).1.Ok M') (hv2 : v2.Ok M') {r : PS × RP} {rp : RP}
  (hr : r = ({ f.abs with vols := wBq vol v2.abs f.abs.vols }, rp)) (h1 : rp.data = []) (h2 : rp.names = []) : RDoP r (.tuple #[.agg [.int .i64 f.made, .slice (some ⟨vb, 0, none⟩) vs.length c].toArray, rp0 rp]) M' [] := by
 have hl : ((vsF vs).set iv v2).length = vs.length := by rw [List.length_set, List.length_map]
 have hg : GS.Ok M' { made := f.made, vols := (vsF vs).set iv v2, va := some ⟨vb, 0, none⟩, vc := c } := GS.Ok.of_set (hi := hiv) hoth hv2 rfl (sm_of hb) hc
 have hab : GS.abs { made := f.made, vols := (vsF vs).set iv v2, va := some ⟨vb, 0, none⟩, vc := c } = { f.abs with vols := wBq vol v2.abs f.abs.vols } := by
  show ({ next := f.made, vols := wAv ((vsF vs).set iv v2) } : PS) = _
  rw [vols_set hwf hvs hiv hid h2id]; rfl
 subst hr
 refine ⟨_, .slice none 0 0, .slice none 0 0, ?_, hg, hab, by rw [h1]; exact BsP.nil, by rw [h2]; exact NsP.nil, rfl⟩
 show _ = Value.tuple #[.agg [_, .slice _ ((vsF vs).set iv v2).length _].toArray, _]
 rw [hl]
theorem putA_app {α : Type} {d : Int} {x y : α} {fs B : List (Int × α)} (h : wAm d fs = some x) : wBq d y (fs ++ B) = wBq d y fs ++ B := by
 obtain ⟨A, C, e, hA⟩ := wCf h
 subst e
 rw [List.append_assoc, List.cons_append, wFa hA, wFa hA, List.append_assoc, List.cons_append]
theorem create_abs {f : GS} {n : Nat} (hwf : WFS n f.abs) {c : CL} {w : Wy} {d : Int} (hw : wBo f.abs w w.1 none = .ok d) (hz : wAr f.abs w.1 = false) {v : PV} {x : PF} (hv : wAm w.1 f.abs.vols = some v) (hx : wAm d v.files = some x) :
  wDg f.abs c w = ({ f.abs with vols := wBq w.1 { v with next := v.next + 1, files := wBq d { x with names := wBq (wAi w) v.next x.names } v.files ++ [(v.next, { dir := decide (c.kind = 6), links := 1, data := [], names := [] })] } f.abs.vols }, { id := v.next }) := by
 unfold wDg
 rw [hw]; simp only
 rw [if_neg (by rw [hz]; simp), hv]
 simp only
 have e : wEb (v.files ++ [(v.next, { dir := decide (c.kind = 6), links := 1, data := [], names := [] })]) d (wAi w) v.next = wBq d { x with names := wBq (wAi w) v.next x.names } v.files ++ [(v.next, { dir := decide (c.kind = 6), links := 1, data := [], names := [] })] := by
  unfold wEb
  have hx2 : wAm d (v.files ++ [(v.next, ({ dir := decide (c.kind = 6), links := 1, data := [], names := [] } : PF))]) = some x := by
   obtain ⟨A, C, e, hA⟩ := wCf hx
   rw [e, List.append_assoc, List.cons_append, getA_mid hA]
  rw [wJi hx2, putA_app hx]
 rw [e]
theorem named_ok {M : Mem} {g : GF} (hg : g.Ok M) {s : Str} {k : Int} (hn : (wBg g.x.names).Nodup) (hs : wAm s g.x.names = none) {M' : Mem} (hM : MLe M M') {a : Option Addr} {c : Nat} (hc : (wBi g.ns s k).length ≤ c) (ha : SM M' a ((wBi g.ns s k).flatMap eC)) : GF.Ok M' { g with x := { g.x with names := wBq s k g.x.names }, ns := wBi g.ns s k, na := a, nc := c } := by
 have hs2 : s ∉ wBg g.ns := getA_none.1 (by rw [wHt hg hn]; exact hs)
 refine ⟨hg.da.mono hM, hg.dc, ha, hc, ?_, namedL_srt hg.st hs2⟩
 show (wBi g.ns s k).Perm (wBq s k g.x.names)
 rw [wEy (getA_none.1 hs)]
 exact namedL_perm.trans (hg.pm.append_right _)
theorem wKs {M : Mem} {g : GF} (hg : g.Ok M) {s : Str} {M' : Mem} (hM : MLe M M') {a : Option Addr} {c : Nat} (hc : (wBc s g.ns).length ≤ c) (ha : SM M' a ((wBc s g.ns).flatMap eC)) : GF.Ok M' { g with x := { g.x with names := wBc s g.x.names }, ns := wBc s g.ns, na := a, nc := c } :=
 ⟨hg.da.mono hM, hg.dc, ha, hc, hg.pm.filter _, hg.st.sublist List.filter_sublist⟩
theorem wFh {M : Mem} {l : List GF} {j : Nat} {g' : GF} (h : ∀ g ∈ l, g.Ok M) (hg : g'.Ok M) : ∀ g ∈ l.set j g', g.Ok M := fun g hm => by
 rcases List.mem_or_eq_of_mem_set hm with hm | rfl
 ·exact h g hm
 exact hg
theorem newf_ok {M : Mem} {k : Int} {b : Bool} : GF.Ok M { id := k, x := { dir := b, links := 1, data := [], names := [] }, da := none, dc := 0, ns := [], na := none, nc := 0 } := ⟨.inl rfl, Nat.le_refl _, .inl rfl, Nat.le_refl _, List.Perm.refl _, List.Pairwise.nil⟩
theorem rcreate_err (f : GS) (n : Nat) (hwf : WFS n f.abs) (hn : n ≤ 100) (M : Mem) (hf : f.Ok M) (c : CL) (ca : Option Addr) (ck : Nat) (hC : CallOk M c ca ck) (w : Wy) (na : Option Addr) (nc : Nat) (hW : WyOk M w na nc) (e : Int) (hw : wBo f.abs w w.1 none = .error e) :
  SpecL Tryz.prog 27 #[gsV f, clV c ca ck, wyV w na nc] M [] (RDoP (wDg f.abs c w)) := by
 have he := gfresh_err hwf hw
 refine wAe (vs := [_, _, _]) 99 _ Tryz.func27 rfl Tryz.ntmps27 rfl rfl ?_; intro W
 refine wAb (wAa (sBx [_, _] rfl fun b3 => ?_))
 refine sBx [_, _, _, _, _, _, _] rfl fun b4 => ?_
 refine sBx [_, _] rfl fun b5 => ?_
 refine sAl rfl fun b6 => ?_
 refine sAl rfl fun b7 => ?_
 refine wAc (jT (wAb (wAa (sLL rfl ?_))))
 refine sLL rfl ?_
 refine sFL rfl rfl ?_
 refine lq (qEq (v' := .tuple #[.int .i64 0, .int .i64 e]) (qCl (wDp f n hwf hn M hf w na nc hW w.1 none (fun _ h => by cases h))) (by rw [hw]; rfl)) ?_
 refine jp rfl (jp rfl (jp rfl (jp rfl (jp rfl (wAc (jT (wAb (wAb (wAa (jp rfl (jt rfl (decide_eq_true (by omega)) ?_)))))))))))
 refine wAc (jT (wAf rfl (wAb (wCw [(0, true), (1, true), (2, true), (3, false), (4, false)] _ (fun _ h => List.mem_cons_of_mem _ (List.mem_cons_of_mem _ (h))) ?_))))
 refine dLL rfl rfl ?_
 refine dp rfl rfl ?_
 refine dq rfl (qCl (wAu e M)) ?_
 refine dSt rfl rfl ?_
 refine dSt rfl rfl ?_
 refine wAs (jPn (jT (wAg (jTr (wEj (rs := [_, _]) rfl (.cons (.agg rfl rfl rfl) (.cons (.agg rfl rfl rfl) .nil)) ?_)))))
 exact RDoP.err hf (by unfold wDg; rw [hw])
theorem rcreate_frz (f : GS) (n : Nat) (hwf : WFS n f.abs) (hn : n ≤ 100) (M : Mem) (hf : f.Ok M) (c : CL) (ca : Option Addr) (ck : Nat) (hC : CallOk M c ca ck) (w : Wy) (na : Option Addr) (nc : Nat) (hW : WyOk M w na nc) (d : Int) (hw : wBo f.abs w w.1 none = .ok d) (hz : wAr f.abs w.1 = true) :
  SpecL Tryz.prog 27 #[gsV f, clV c ca ck, wyV w na nc] M [] (RDoP (wDg f.abs c w)) := by
 have hvl := wBh hwf
 obtain ⟨v, x, hv, hx, _, hdir, hns, hlen32, _, hne⟩ := wFm hwf hw
 have hlen32 : x.names.length < 32 := hlen32.resolve_right (by simp)
 obtain ⟨iv, hiv, gv, j, hj, g, vb, vo, fb, fo, rfl, rfl, rfl, eiv, hgv, hid, hwv, hfl, hgo, hnd, ev, hvx, efa, hg, hfx, hgi, hgk, hgx, hnn, hn32, hnsl, hfx2⟩ := opw hwf hf hv hx
 have hfz : wAr f.abs w.1 = gv.frozen := by unfold wAr; rw [hv]; rfl
 refine wAe (vs := [_, _, _]) 99 _ Tryz.func27 rfl Tryz.ntmps27 rfl rfl ?_; intro W
 refine wAb (wAa (sBx [_, _] rfl fun b3 => ?_))
 refine sBx [_, _, _, _, _, _, _] rfl fun b4 => ?_
 refine sBx [_, _] rfl fun b5 => ?_
 refine sAl rfl fun b6 => ?_
 refine sAl rfl fun b7 => ?_
 refine wAc (jT (wAb (wAa (sLL rfl ?_))))
 refine sLL rfl ?_
 refine sFL rfl rfl ?_
 refine lq (qEq (v' := .tuple #[.int .i64 (j : Int), .int .i64 0]) (qCl (wDp f n hwf hn M hf w na nc hW w.1 none (fun _ h => by cases h))) (by rw [hw]; show Value.tuple #[.int .i64 (wDf f.abs w.1 g.id), _] = _; rw [hfx2])) ?_
 refine jp rfl (jp rfl (jp rfl (jp rfl (jp rfl (wAc (jT (wAb (wAb (wAa (jp rfl (jf rfl (decide_eq_false (by omega)) ?_)))))))))))
 refine wAc (jT (wAh rfl (wAd (jT (wAb (wAa (sLL rfl ?_)))))))
 refine sFL rfl rfl ?_
 refine lq (qEq (v' := .int .i64 (iv : Int)) (qCl (wFi f w.1 M hf (by omega))) (by rw [eiv])) ?_
 refine jp rfl (wAc (jT (wAb (wAb (wAa (sFL rfl rfl ?_))))))
 refine jp rfl (lq (wAp rfl rfl rfl rfl ev (by omega)) ?_)
 refine sFa rfl ?_
 refine lq (qEq (qLd rfl rfl rfl rfl ((hvx 1 _ rfl).cj _)) (v' := .bool true) (by rw [hfz] at hz; rw [hz])) ?_
 refine wAc (jT (wAf rfl (wAb (wCw [(0, true), (1, true), (2, false), (3, false)] _ (fun _ h => List.mem_cons_of_mem _ (List.mem_cons_of_mem _ (h))) ?_))))
 refine dLL rfl rfl ?_
 refine dq rfl (qCl (wAu 170 M)) ?_
 refine dSt rfl rfl ?_
 refine dSt rfl rfl ?_
 refine wAs (jPn (jT (wAg (jTr (wEj (rs := [_, _]) rfl (.cons (.agg rfl rfl rfl) (.cons (.agg rfl rfl rfl) .nil)) ?_)))))
 exact RDoP.err hf (by unfold wDg; rw [hw]; simp only; rw [if_pos hz])
set_option maxHeartbeats 4000000 in
theorem rcreate_ok (f : GS) (n : Nat) (hwf : WFS n f.abs) (hn : n ≤ 100) (M : Mem) (hf : f.Ok M) (c : CL) (ca : Option Addr) (ck : Nat) (hC : CallOk M c ca ck) (w : Wy) (na : Option Addr) (nc : Nat) (hW : WyOk M w na nc) (d : Int) (hw : wBo f.abs w w.1 none = .ok d) (hz : wAr f.abs w.1 = false) (hck : c.kind = 5 ∨ c.kind = 6) :
  SpecL Tryz.prog 27 #[gsV f, clV c ca ck, wyV w na nc] M [] (RDoP (wDg f.abs c w)) := by
 have hvl := wBh hwf
 obtain ⟨v, x, hv, hx, _, hdir, hns, hlen32, _, hne⟩ := wFm hwf hw
 have hlen32 : x.names.length < 32 := hlen32.resolve_right (by simp)
 obtain ⟨iv, hiv, gv, j, hj, g, vb, vo, fb, fo, rfl, rfl, rfl, eiv, hgv, hid, hwv, hfl, hgo, hnd, ev, hvx, efa, hg, hfx, hgi, hgk, hgx, hnn, hn32, hnsl, hfx2⟩ := opw hwf hf hv hx
 have hfz : wAr f.abs w.1 = gv.frozen := by unfold wAr; rw [hv]; rfl
 have hbig := hW.big
 have hl0 : 0 < w.2.length := List.length_pos_iff.2 hne
 obtain ⟨nb, no, en, hnx0⟩ := wFs hW.sn (i := w.2.length - 1) (by omega)
 have hlast : w.2[w.2.length - 1] = wAi w := by unfold wAi; rw [List.getLast?_eq_getElem?, List.getElem?_eq_getElem (by omega)]; rfl
 rw [hlast, show ((w.2.length - 1 : Nat) : Int) = (w.2.length : Int) - 1 by omega] at hnx0
 obtain ⟨hsz1, hsz2⟩ := wCy hwf hf hn
 refine wAe (vs := [_, _, _]) 99 _ Tryz.func27 rfl Tryz.ntmps27 rfl rfl ?_; intro W
 refine wAb (wAa (sBx [_, _] rfl fun b3 => ?_))
 refine sBx [_, _, _, _, _, _, _] rfl fun b4 => ?_
 refine sBx [_, _] rfl fun b5 => ?_
 refine sAl rfl fun b6 => ?_
 refine sAl rfl fun b7 => ?_
 refine wAc (jT (wAb (wAa (sLL rfl ?_))))
 refine sLL rfl ?_
 refine sFL rfl rfl ?_
 refine lq (qEq (v' := .tuple #[.int .i64 (j : Int), .int .i64 0]) (qCl (wDp f n hwf hn M hf w na nc hW w.1 none (fun _ h => by cases h))) (by rw [hw]; show Value.tuple #[.int .i64 (wDf f.abs w.1 g.id), _] = _; rw [hfx2])) ?_
 refine jp rfl (jp rfl (jp rfl (jp rfl (jp rfl (wAc (jT (wAb (wAb (wAa (jp rfl (jf rfl (decide_eq_false (by omega)) ?_)))))))))))
 refine wAc (jT (wAh rfl (wAd (jT (wAb (wAa (sLL rfl ?_)))))))
 refine sFL rfl rfl ?_
 refine lq (qEq (v' := .int .i64 (iv : Int)) (qCl (wFi f w.1 M hf (by omega))) (by rw [eiv])) ?_
 refine jp rfl (wAc (jT (wAb (wAb (wAa (sFL rfl rfl ?_))))))
 refine jp rfl (lq (wAp rfl rfl rfl rfl ev (by omega)) ?_)
 refine sFa rfl ?_
 refine lq (qEq (qLd rfl rfl rfl rfl ((hvx 1 _ rfl).cj _)) (v' := .bool false) (by rw [hfz] at hz; rw [hz])) ?_
 refine wAc (jT (wAh rfl (wAd (jT (wAb (wAa (sLL rfl ?_)))))))
 refine wCe rfl rfl (hCl (wFd f M hf hsz1 hsz2)) ?_; rintro _ M2 _ ⟨hM2, _, rfl, ⟨vs, va2, vc2, Rv, rfl, hvs, hown, hall, rfl⟩⟩
 obtain ⟨hiv2, hpi, hpa⟩ := tw_at hvs hiv
 rw [hgv] at hpi hpa
 have hpl := wLq hpa
 refine wGg hiv2 hown hall (by omega) ?_
 intro M3 vb2 fb2 sp fsp hF
 obtain ⟨p, hp⟩ : ∃ p, (vs[iv]).1 = p := ⟨_, rfl⟩
 have hF2 := hF
 obtain ⟨hM3, hoth, hpfs, hva, hvc, hvlen, hvm, hpf, hpc, hplen, hpm⟩ := hF2
 subst hva
 rw [hp] at hpi hpa hpl hpfs hpf hpc hplen hpm ⊢
 have hvq : (vsF vs)[iv]? = some p := by rw [List.getElem?_map, List.getElem?_eq_getElem hiv2, Option.map_some, hp]
 have hvsl : (vsF vs).length = vs.length := List.length_map _
 obtain ⟨hj2, hgid, hgx2⟩ := wKw hpa hj
 rw [hg] at hgid hgx2
 obtain ⟨g2, hg2⟩ : ∃ g2, p.files[j] = g2 := ⟨_, rfl⟩
 rw [hg2] at hgid hgx2
 have hfq : p.files[j]? = some g2 := by rw [List.getElem?_eq_getElem hj2, hg2]
 have hgo2 : g2.Ok M3 := hg2 ▸ hpfs _ (List.getElem_mem hj2)
 have hns2 := wCk hgo2
 have hn2l : g2.ns.length ≤ 32 := by rw [hns2, hgx2]; exact hn32
 have hnx : p.next = gv.next := congrArg PV.next hpa
 have hpz : p.frozen = gv.frozen := congrArg PV.frozen hpa
 have h2n : 2 ≤ gv.next := hwv.two
 have hmn : gv.next ≤ 2 + (n : Int) := hwv.most
 have hlenvs : vs.length = f.vols.length := by have := congrArg List.length hvs; simpa using this
 refine sAl rfl fun b11 => ?_
 refine sSt rfl ?_
 refine wAc (jT (wAb (wAa (sFL rfl rfl ?_))))
 refine jp rfl (lq (wAp rfl rfl rfl rfl rfl (by omega)) ?_)
 refine jp rfl (wAc (jT (wAb (wAa (jp rfl (lq (wAj rfl rfl rfl) ?_))))))
 refine sFa rfl ?_
 refine lq (qLd rfl rfl rfl rfl (wCx wBy hvq 2 _ rfl)) ?_
 refine jp rfl (wAc (jT (wAb (wAa (jp rfl (lq (wAj rfl rfl rfl) ?_))))))
 refine sFa rfl ?_
 refine lq (qLd rfl rfl rfl rfl (wCx wBy hvq 2 _ rfl)) ?_
 refine lq (qAk rfl rfl rfl rfl rfl (by rw [IntKind.wrap_u32]; omega)) ?_
 refine lq (wAj rfl rfl rfl) ?_
 refine sFa rfl ?_
 refine jl_s rfl (wBw (l2 := ((vsF vs).set iv { p with next := p.next + 1 }).flatMap gvC ++ sp) rfl rfl rfl rfl rfl rfl rfl (wDj wBy hvq (Nat.le_of_ble_eq_true rfl)) (wDi wBy hvq (Nat.le_of_ble_eq_true rfl) rfl)) ?_; rintro _ _ _ ⟨rfl, rfl⟩
 refine wAc (jT (wAb (wBn (p := { A := fun i => !([25].contains i), U := fun i => !([25].contains i) }) [(0, true), (1, true), (2, true), (3, true), (4, true), (5, true), (6, true), (7, true), (8, true), (9, true), (10, true), (11, true), (12, true), (13, true), (14, true), (15, true), (16, true), (17, true), (18, true), (19, true), (20, true), (21, true), (22, false), (23, true), (24, true), (25, false)] M3 ([(vb2, .cells ((((vsF vs).set iv { p with next := p.next + 1 })).flatMap gvC ++ sp).toArray 96 (0, 0)), (fb2, .cells ((p.files).flatMap gfC ++ fsp).toArray 93 (0, 0)), (b5, .cells [.int .i64 w.1, .slice na w.2.length nc].toArray 65 (0, 0))]) ([]) (by kernel_rfl) (by kernel_rfl) (by kernel_rfl) (by kernel_rfl) rfl (by simp) (MLe.refl _) (by simp) ?_)))
 refine dp rfl rfl ?_
 refine dq rfl (wAj rfl rfl rfl) ?_
 refine dFa rfl rfl ?_
 have hvq1 : ((vsF vs).set iv { p with next := p.next + 1 })[iv]? = some { p with next := p.next + 1 } := set_q hvq
 refine dq rfl (qLd rfl rfl rfl rfl (wCx wBy hvq1 3 _ rfl)) ?_
 iterate 2 refine dp rfl rfl ?_
 refine dq rfl (wAj rfl rfl rfl) ?_
 refine dFa rfl rfl ?_
 refine dq rfl (qLd rfl rfl rfl rfl (wCx wBy hvq1 3 _ rfl)) ?_
 refine dp rfl rfl ?_
 refine dq rfl (wAp rfl rfl rfl rfl hpf (show (0 : Int) ≤ (j : Int) ∧ (j : Int) < ((p.files.length : Nat) : Int) from ⟨by omega, by omega⟩)) ?_
 refine dFa rfl rfl ?_
 refine dq rfl (qLd rfl rfl rfl rfl (wCx wBa hfq 4 _ rfl)) ?_
 refine dFa rfl rfl ?_
 refine dLd rfl rfl ?_
 refine dFa rfl rfl ?_
 refine dLd rfl rfl ?_
 refine dq rfl (wCd rfl rfl rfl) ?_
 refine da rfl rfl (by omega) ?_
 refine dq rfl (wAp rfl rfl rfl rfl en (by omega)) ?_
 refine dq rfl (qLd rfl rfl rfl rfl (((hnx0.mono hM2).mono hM3).cj _)) ?_
 refine dp rfl rfl ?_
 refine wJf rfl rfl rfl (hCl (wJy g2.ns g2.na g2.nc M3 hgo2.na (by omega) (wAi w) p.next)) ?_; rintro _ M7 _ ⟨hM7, _, rfl, ⟨a7, c7, rfl, hc7, hs7, rfl⟩⟩
 refine ⟨_, _, MLe.refl _, hM7, fun _ h => h, by simp, ?_⟩
 refine dq rfl (wAp rfl rfl rfl rfl hpf (show (0 : Int) ≤ (j : Int) ∧ (j : Int) < ((p.files.length : Nat) : Int) from ⟨by omega, by omega⟩)) ?_
 refine dFa rfl rfl ?_
 refine wJu rfl rfl (wBw (l2 := (p.files.set j ({ g2 with x := { g2.x with names := wBq (wAi w) p.next g2.x.names }, ns := wBi g2.ns (wAi w) p.next, na := a7, nc := c7 } : GF)).flatMap gfC ++ fsp) rfl rfl rfl rfl rfl rfl rfl (wDj wBa hfq (Nat.le_of_ble_eq_true rfl)) (wDi wBa hfq (Nat.le_of_ble_eq_true rfl) rfl)) ?_; rintro _ _ _ ⟨rfl, rfl⟩
 refine ⟨(by first | exact MLe.refl _ | exact hM7), by simp, ?_⟩
 refine wCu ?_
 refine jPn (jT (wAb (wBn (p := { A := fun i => !([14].contains i), U := fun i => !([14].contains i) }) [(0, true), (1, true), (2, true), (3, true), (4, true), (5, true), (6, true), (7, true), (8, true), (9, true), (10, false), (11, false), (12, true), (13, true), (14, false)] M7 ([(vb2, .cells ((((vsF vs).set iv { p with next := p.next + 1 })).flatMap gvC ++ sp).toArray 96 (0, 0)), (b4, .cells (wDa c ca ck).toArray 45 (0, 0))]) ([]) (by kernel_rfl) (by kernel_rfl) (by kernel_rfl) (by kernel_rfl) rfl (by simp) (MLe.refl _) (by simp) ?_)))
 iterate 2 refine dp rfl rfl ?_
 refine dq rfl (wAj rfl rfl rfl) ?_
 refine dFa rfl rfl ?_
 refine dq rfl (qLd rfl rfl rfl rfl (wCx wBy hvq1 3 _ rfl)) ?_
 refine dp rfl rfl ?_
 refine dFa rfl rfl ?_
 refine dLd rfl rfl ?_
 refine dp rfl rfl ?_
 refine dq rfl (wBe (cs := [_, _, _, _, _]) rfl rfl rfl (by rfl)) ?_
 refine wJf rfl rfl rfl (wBt (cs := [_, _, _, _, _]) rfl rfl rfl (by rfl) (by rfl) (by rfl)) ?_; rintro _ _ _ ⟨b91, rfl, rfl, rfl⟩
 refine ⟨_, _, MLe.refl _, MLe.refl _, fun _ h => h, by simp, ?_⟩
 have hpf2 : ((p.files.set j ({ g2 with x := { g2.x with names := wBq (wAi w) p.next g2.x.names }, ns := wBi g2.ns (wAi w) p.next, na := a7, nc := c7 } : GF))).length = p.files.length := List.length_set
 have hlx : ((p.files.set j ({ g2 with x := { g2.x with names := wBq (wAi w) p.next g2.x.names }, ns := wBi g2.ns (wAi w) p.next, na := a7, nc := c7 } : GF)).flatMap gfC ++ fsp).length = p.fc * 5 := by rw [← hplen, List.length_append, List.length_append, wDr gfC 5 wBa, wDr gfC 5 wBa, hpf2]
 have hown9 := own_of (b := fb2) (e := 93) (by rw [wDr gfC 5 wBa, hpf2]) hpc hpm hlx
 refine wJf rfl rfl rfl (wDt (R := [(fb2, .cells (((p.files.set j ({ g2 with x := { g2.x with names := wBq (wAi w) p.next g2.x.names }, ns := wBi g2.ns (wAi w) p.next, na := a7, nc := c7 } : GF))).flatMap gfC ++ fsp).toArray 93 (0, 0))]) (news := gfC ({ id := p.next, x := { dir := decide (c.kind = 6), links := 1, data := [], names := [] }, da := none, dc := 0, ns := [], na := none, nc := 0 } : GF)) rfl rfl (by show some (Value.slice p.fa p.files.length p.fc) = _; rw [hpf]) rfl hown9 rfl (fun j v hv => CJ.loc (by rw [Nat.zero_add]; exact hv)) rfl rfl (fun u hu => List.all_eq_true.1 (rfl : ((gfC ({ id := p.next, x := { dir := decide (c.kind = 6), links := 1, data := [], names := [] }, da := none, dc := 0, ns := [], na := none, nc := 0 } : GF)).all fun v => v.oneCell') = true) u hu) (by omega) (by omega)) ?_; rintro out9 _ _ ⟨rfl, R9, rfl, hown9b, _⟩
 obtain ⟨a9, c9, rfl⟩ := hown9b.form
 refine ⟨_, _, MLe.refl _, MLe.refl _, fun _ h => h, by simp, ?_⟩
 refine dq rfl (wAj rfl rfl rfl) ?_
 refine dFa rfl rfl ?_
 have hnl : ((p.files.set j ({ g2 with x := { g2.x with names := wBq (wAi w) p.next g2.x.names }, ns := wBi g2.ns (wAi w) p.next, na := a7, nc := c7 } : GF)) ++ [({ id := p.next, x := { dir := decide (c.kind = 6), links := 1, data := [], names := [] }, da := none, dc := 0, ns := [], na := none, nc := 0 } : GF)]).length = p.files.length + 1 := by rw [List.length_append, hpf2]; rfl
 refine wJu rfl rfl (wBw (l2 := ((vsF vs).set iv ({ p with next := p.next + 1, files := (p.files.set j ({ g2 with x := { g2.x with names := wBq (wAi w) p.next g2.x.names }, ns := wBi g2.ns (wAi w) p.next, na := a7, nc := c7 } : GF)) ++ [({ id := p.next, x := { dir := decide (c.kind = 6), links := 1, data := [], names := [] }, da := none, dc := 0, ns := [], na := none, nc := 0 } : GF)], fa := a9, fc := c9 } : GV)).flatMap gvC ++ sp) rfl rfl rfl rfl rfl rfl rfl (wDj wBy hvq1 (Nat.le_of_ble_eq_true rfl)) (by have := wDi (sp := sp) wBy hvq1 (j := 3) (by omega) (q' := ({ p with next := p.next + 1, files := (p.files.set j ({ g2 with x := { g2.x with names := wBq (wAi w) p.next g2.x.names }, ns := wBi g2.ns (wAi w) p.next, na := a7, nc := c7 } : GF)) ++ [({ id := p.next, x := { dir := decide (c.kind = 6), links := 1, data := [], names := [] }, da := none, dc := 0, ns := [], na := none, nc := 0 } : GF)], fa := a9, fc := c9 } : GV)) (u := .slice a9 (p.files.length + 1) c9) (by show [_, _, _, Value.slice a9 ((p.files.set j ({ g2 with x := { g2.x with names := wBq (wAi w) p.next g2.x.names }, ns := wBi g2.ns (wAi w) p.next, na := a7, nc := c7 } : GF)) ++ [({ id := p.next, x := { dir := decide (c.kind = 6), links := 1, data := [], names := [] }, da := none, dc := 0, ns := [], na := none, nc := 0 } : GF)]).length c9] = _; rw [hnl]; rfl); rw [List.set_set] at this; exact this)) ?_; rintro _ _ _ ⟨rfl, rfl⟩
 refine ⟨(by first | exact MLe.refl _ | exact hM7), by simp, ?_⟩
 refine wCu ?_
 refine jPn (jT (wAb (wAa (sLL rfl ?_))))
 refine jp rfl (lq (qConv64 rfl rfl rfl (by omega)) ?_)
 refine lq (wBe (cs := [_, _, _, _, _, _, _, _]) rfl rfl rfl (by rfl)) ?_
 refine sSt rfl ?_
 refine sSt rfl ?_
 refine wAc (jT (wAg (wLk hown9b (by simp) ?_)))
 intro M10 a10 c10 hM10 e10 hc10 hs10
 simp only [Value.slice.injEq] at e10
 obtain ⟨rfl, _, rfl⟩ := e10
 refine wCt vb2 (by simp) ?_
 intro M11 hM11 e11
 refine wEj (rs := [_, _]) rfl (.cons (.agg rfl rfl rfl) (.cons (.agg rfl rfl rfl) .nil)) ?_
 have hM := (hM7.trans hM10).trans hM11
 have hxn : wAm (wAi w) g2.x.names = none := by rw [hgx2]; exact hns
 have hnn2 : (wBg g2.x.names).Nodup := by rw [hgx2]; exact hnn
 have hpid : (vs[iv]).1.id = w.1 := by rw [hp, hpi, hid]
 refine RDoP.vol hwf hvs hiv2 hpid (v2 := ({ p with next := p.next + 1, files := (p.files.set j ({ g2 with x := { g2.x with names := wBq (wAi w) p.next g2.x.names }, ns := wBi g2.ns (wAi w) p.next, na := a7, nc := c7 } : GF)) ++ [({ id := p.next, x := { dir := decide (c.kind = 6), links := 1, data := [], names := [] }, da := none, dc := 0, ns := [], na := none, nc := 0 } : GF)], fa := a9, fc := c9 } : GV)) (by rw [hpi, hid]) e11 hvc (fun i hi hne => (hoth i hi hne).mono hM) ⟨?_, ?_, ?_⟩ (rp := { id := p.next }) ?_ rfl rfl
 ·show SM M11 _ (((p.files.set j ({ g2 with x := { g2.x with names := wBq (wAi w) p.next g2.x.names }, ns := wBi g2.ns (wAi w) p.next, na := a7, nc := c7 } : GF)) ++ [({ id := p.next, x := { dir := decide (c.kind = 6), links := 1, data := [], names := [] }, da := none, dc := 0, ns := [], na := none, nc := 0 } : GF)]).flatMap gfC); rw [gfC_snoc]; exact hs10.mono hM11
 ·show ((p.files.set j ({ g2 with x := { g2.x with names := wBq (wAi w) p.next g2.x.names }, ns := wBi g2.ns (wAi w) p.next, na := a7, nc := c7 } : GF)) ++ [({ id := p.next, x := { dir := decide (c.kind = 6), links := 1, data := [], names := [] }, da := none, dc := 0, ns := [], na := none, nc := 0 } : GF)]).length ≤ _; rw [hnl]; exact hc10
 ·intro q hq
  rcases List.mem_append.1 hq with hq | hq
  ·exact wFh (fun q hq => (hpfs q hq).mono hM) ((named_ok hgo2 hnn2 hxn hM7 hc7 hs7).mono (hM10.trans hM11)) q hq
  rw [List.mem_singleton.1 hq]; exact newf_ok
 rw [create_abs hwf hw hz hv hx]
 have hnd2 : (wBg (flsOf' p.files)).Nodup := by rw [show flsOf' p.files = flsOf' gv.files from congrArg PV.files hpa]; exact hnd
 have e := fls_set (l := p.files) (j := j) (g' := ({ g2 with x := { g2.x with names := wBq (wAi w) p.next g2.x.names }, ns := wBi g2.ns (wAi w) p.next, na := a7, nc := c7 } : GF)) hnd2 hj2 (by rw [hg2])
 have e2 : flsOf' p.files = gv.abs.files := congrArg PV.files hpa
 have e3 : GV.abs ({ p with next := p.next + 1, files := (p.files.set j ({ g2 with x := { g2.x with names := wBq (wAi w) p.next g2.x.names }, ns := wBi g2.ns (wAi w) p.next, na := a7, nc := c7 } : GF)) ++ [({ id := p.next, x := { dir := decide (c.kind = 6), links := 1, data := [], names := [] }, da := none, dc := 0, ns := [], na := none, nc := 0 } : GF)], fa := a9, fc := c9 } : GV) = { gv.abs with next := gv.next + 1, files := wBq g.id { g.x with names := wBq (wAi w) gv.next g.x.names } gv.abs.files ++ [(gv.next, { dir := decide (c.kind = 6), links := 1, data := [], names := [] })] } := by
  show ({ frozen := p.frozen, next := p.next + 1, files := flsOf' ((p.files.set j ({ g2 with x := { g2.x with names := wBq (wAi w) p.next g2.x.names }, ns := wBi g2.ns (wAi w) p.next, na := a7, nc := c7 } : GF)) ++ [({ id := p.next, x := { dir := decide (c.kind = 6), links := 1, data := [], names := [] }, da := none, dc := 0, ns := [], na := none, nc := 0 } : GF)]) } : PV) = _
  rw [flsOf', List.map_append, ← flsOf', e, e2, hpz, hnx, hgid, hgx2]; rfl
 have e4 : ({ id := gv.abs.next } : RP) = { id := p.next } := by rw [hnx]; rfl
 refine Prod.ext ?_ e4
 exact congrArg (fun z : PV => ({ f.abs with vols := wBq w.1 z f.abs.vols } : PS)) e3.symm
end Go.Proofs.YtokljhkplbkggaaGreatDoor
