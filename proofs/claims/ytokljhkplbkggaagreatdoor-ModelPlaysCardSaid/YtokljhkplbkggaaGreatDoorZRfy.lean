/- Walks: the document's calls on bytes. -/
import Derived.Test.YtokljhkplbkggaaGreatDoorZRfx
namespace Go.Proofs.YtokljhkplbkggaaGreatDoor
set_option linter.unusedVariables false
set_option linter.unusedSectionVars false
set_option linter.unusedSimpArgs false
open Go.RowKit Go.MapKept
theorem wHh {l : List GV} {i : Nat} {p v2 : GV} (hq : l[i]? = some p) (h : gvC v2 = gvC p) : (l.set i v2).flatMap gvC = l.flatMap gvC := by
 obtain ⟨hi, rfl⟩ := List.getElem?_eq_some_iff.1 hq
 have e : l = l.take i ++ l[i] :: l.drop (i + 1) := by rw [List.getElem_cons_drop, List.take_append_drop]
 rw [List.set_eq_take_append_cons_drop, if_pos hi]
 conv => rhs; rw [e]
 rw [List.flatMap_append, List.flatMap_append, List.flatMap_cons, List.flatMap_cons, h]
theorem wHq {n : Nat} {f : GS} (h : WFS n f.abs) {w : Wy} {id : Int} (hw : wCh f.abs w = .ok id) : ∃ v x, wBb f.abs w.1 w.2 = .ok id ∧ wAm w.1 f.abs.vols = some v ∧ wAm id v.files = some x ∧ WFV n v ∧ x.dir = false := by
 unfold wCh at hw
 split at hw
 ·cases hw
 rename_i k hk
 split at hw
 ·cases hw
 rename_i hd
 cases hw
 obtain ⟨v, x, h1, h2, h3⟩ := wHr h hk
 refine ⟨v, x, hk, h1, h2, h3, ?_⟩
 unfold wGu wEs at hd; rw [h1] at hd; simp only [Option.bind_some] at hd; rw [h2] at hd; simpa using hd
theorem wGm {n : Nat} {f : GS} (h : WFS n f.abs) {w : Wy} {e : Int} (hw : wCh f.abs w = .error e) : (wBb f.abs w.1 w.2 = .error e ∧ e ≠ 0) ∨ (e = 240 ∧ ∃ id v x, wBb f.abs w.1 w.2 = .ok id ∧ wAm w.1 f.abs.vols = some v ∧ wAm id v.files = some x ∧ x.dir = true) := by
 unfold wCh at hw
 split at hw
 ·rename_i e' he; cases hw
  exact .inl ⟨he, by rcases wEw h he with rfl | rfl <;> decide⟩
 rename_i k hk
 split at hw
 ·rename_i hd
  cases hw
  obtain ⟨v, x, h1, h2, h3⟩ := wHr h hk
  refine .inr ⟨rfl, k, v, x, hk, h1, h2, ?_⟩
  unfold wGu wEs at hd; rw [h1] at hd; simp only [Option.bind_some] at hd; rw [h2] at hd; exact hd
 cases hw
theorem turn_abs {f : GS} {w : Wy} {id : Int} (hw : wCh f.abs w = .ok id) (hz : wAr f.abs w.1 = false) {v : PV} {x : PF} (hv : wAm w.1 f.abs.vols = some v) (hx : wAm id v.files = some x) (g : List By → List By) :
  wDv f.abs w true g = ({ f.abs with vols := wBq w.1 { v with files := wBq id { x with data := g x.data } v.files } f.abs.vols }, {}) := by
 unfold wDv
 rw [if_pos rfl, hw]; simp only
 rw [if_neg (by rw [hz]; simp)]
 unfold updVF updV
 rw [hv]; simp only
 rw [wJi hx]
theorem data_ok {M : Mem} {g : GF} (hg : g.Ok M) {M' : Mem} (hM : MLe M M') {nd : List By} {b : Nat} (hb : M' b = some (.cells (wAn nd).toArray 5 (0, 0))) : GF.Ok M' { g with x := { g.x with data := nd }, da := some ⟨b, 0, none⟩, dc := nd.length } :=
 ⟨SM.of_block hb, Nat.le_refl _, hg.na.mono hM, hg.nc, hg.pm, hg.st⟩
theorem readB_end {xs : List By} {a b i : Nat} (h1 : a ≤ i) (h2 : i = a ∨ (i ≤ a + b ∧ i ≤ xs.length)) (h3 : a + b ≤ i ∨ xs.length ≤ i) : wJn a b xs = (xs.drop a).take (i - a) := by
 unfold wJn
 by_cases hl : xs.length ≤ a
 ·rw [List.drop_of_length_le hl, List.drop_of_length_le (by omega : xs.length ≤ min a xs.length)]; simp
 rw [show min a xs.length = a by omega]
 congr 1; omega
structure LegK (c : CL) (old d : List By) (k : Nat) : Prop where
 big : d.length ≤ 1000000
 r : (c.kind = 9 ∧ 0 ≤ c.a ∧ c.a ≤ 4096) ∨ (c.kind = 10 ∧ 0 ≤ c.a ∧ c.a ≤ c.b ∧ c.b ≤ 4096) ∨ ((c.kind = 7 ∨ c.kind = 11) ∧ k + d.length ≤ 4096)
theorem changed_any (old : List By) (da : Option Addr) (dc : Nat) (M : Mem) (hx : SM M da (wAn old)) (ho : old.length ≤ 4096) (c : CL) (ca : Option Addr) (ck : Nat) (hC : CallOk M c ca ck) (d : List By) (na : Option Addr) (nc : Nat) (hd : SM M na (wAn d)) (k : Nat) (hL : LegK c old d k) :
  SpecL Tryz.prog 62 #[.slice da old.length dc, clV c ca ck, .slice na d.length nc, .int .i64 k] M [] (fun u M' L' => LngP (wAw c old d k) u M M' L') := by
 have hdl : d.length ≤ 1000000 := by have := hL.big; omega
 rcases hL.r with ⟨h1, h2, h3⟩ | ⟨h1, h2, h3, h4⟩ | ⟨h1, h2⟩
 ·have := changed_size old da dc M hx ho c ca ck hC d na nc hd hdl k h1 ⟨h2, h3⟩
  have e : wAw c old d k = wAx old c.a.toNat := by unfold wAw; rw [if_pos h1]
  rw [e]; exact this
 ·have := changed_punch old da dc M hx ho c ca ck hC d na nc hd hdl k h1 c.a.toNat c.b.toNat (by omega) (by omega) (by omega)
  have e : wAw c old d k = wCr c.a.toNat c.b.toNat old := by unfold wAw; rw [if_neg (by omega), if_pos h1]
  rw [e]; exact this
 have := changed_wr old da dc M hx ho c ca ck hC d na nc hd hdl k h1 h2
 have e : wAw c old d k = wDn k d old := by unfold wAw; rw [if_neg (by omega), if_neg (by omega)]
 rw [e]; exact this
theorem ob_illegal (f : GS) (n : Nat) (hwf : WFS n f.abs) (hn : n ≤ 100) (M : Mem) (hf : f.Ok M) (c : CL) (ca : Option Addr) (ck : Nat) (hC : CallOk M c ca ck) (h0 : 0 ≤ c.kind ∧ c.kind ≤ 255) (w : Wy) (na : Option Addr) (nc : Nat) (hW : WyOk M w na nc) (o : Wy) (oa : Option Addr) (oc : Nat) (hO : WyOk M o oa oc) (hl : wCm c = false) :
  SpecL Tryz.prog 28 #[gsV f, clV c ca ck, wyV w na nc, wyV o oa oc] M [] (RDoP (f.abs, wCa 2)) := by
 refine wAe (vs := [_, _, _, _]) 178 _ Tryz.func28 rfl Tryz.ntmps28 rfl rfl ?_; intro W
 refine wAb (wAa (sBx [_, _] rfl fun b4 => ?_))
 refine sBx [_, _, _, _, _, _, _] rfl fun b5 => ?_
 refine sBx [_, _] rfl fun b6 => ?_
 refine sBx [_, _] rfl fun b7 => ?_
 refine sAl rfl fun b8 => ?_
 refine sAl rfl fun b9 => ?_
 refine wAc (jT (wAb (wAb (wAa (sLL rfl ?_)))))
 refine lq (qEq (qCl (wEd c ca ck M hC h0)) (v' := .bool false) (by rw [hl])) ?_
 refine jp rfl (wAc (jT (wAf rfl (wAb (wCw [(0, true), (1, true), (2, false), (3, false)] [(b4, .cells (gsC f).toArray 53 (0, 0))] (by simp) ?_)))))
 refine dLL rfl rfl ?_
 refine dq rfl (qCl (wAu 2 M)) ?_
 refine dSt rfl rfl ?_
 refine dSt rfl rfl ?_
 refine wAs (jPn (jT (wAg (jTr (wEj (rs := [_, _]) rfl (.cons (.agg rfl rfl rfl) (.cons (.agg rfl rfl rfl) .nil)) ?_)))))
 exact RDoP.err hf rfl
theorem ob_werr (f : GS) (n : Nat) (hwf : WFS n f.abs) (hn : n ≤ 100) (M : Mem) (hf : f.Ok M) (c : CL) (ca : Option Addr) (ck : Nat) (hC : CallOk M c ca ck) (h0 : 0 ≤ c.kind ∧ c.kind ≤ 255) (w : Wy) (na : Option Addr) (nc : Nat) (hW : WyOk M w na nc) (o : Wy) (oa : Option Addr) (oc : Nat) (hO : WyOk M o oa oc) (hl : wCm c = true) (e : Int) (hw : wBb f.abs w.1 w.2 = .error e) (he : e ≠ 0) :
  SpecL Tryz.prog 28 #[gsV f, clV c ca ck, wyV w na nc, wyV o oa oc] M [] (RDoP (f.abs, wCa e)) := by
 refine wAe (vs := [_, _, _, _]) 178 _ Tryz.func28 rfl Tryz.ntmps28 rfl rfl ?_; intro W
 refine wAb (wAa (sBx [_, _] rfl fun b4 => ?_))
 refine sBx [_, _, _, _, _, _, _] rfl fun b5 => ?_
 refine sBx [_, _] rfl fun b6 => ?_
 refine sBx [_, _] rfl fun b7 => ?_
 refine sAl rfl fun b8 => ?_
 refine sAl rfl fun b9 => ?_
 refine wAc (jT (wAb (wAb (wAa (sLL rfl ?_)))))
 refine lq (qEq (qCl (wEd c ca ck M hC h0)) (v' := .bool true) (by rw [hl])) ?_
 refine jp rfl (wAc (jT (wAh rfl (wAd (jT (wAb (wAa (sLL rfl ?_))))))))
 refine sFL rfl rfl ?_
 refine sFL rfl rfl ?_
 refine lq (qEq (v' := .tuple #[.int .i64 0, .int .i64 0, .int .i64 e]) (qCl (wAo f n hwf hn M hf w.1 w.2 na nc hW.sn hW.big)) (by rw [hw]; rfl)) ?_
 iterate 7 refine jp rfl ?_
 refine wAc (jT (wAb (wAb (wAa (jp rfl (jf rfl (decide_eq_false (by omega)) ?_))))))
 iterate 12 refine jp rfl ?_
 refine wAc (jT (wAh rfl (wAd (jT (wAb (wAb (wAa (jp rfl (jt rfl (decide_eq_true (by omega)) ?_)))))))))
 refine wAc (jT (wAf rfl (wAb (wCw [(0, true), (1, true), (2, true), (3, false), (4, false)] [(b4, .cells (gsC f).toArray 53 (0, 0))] (by simp) ?_))))
 refine dLL rfl rfl ?_
 refine dp rfl rfl ?_
 refine dq rfl (qCl (wAu e M)) ?_
 refine dSt rfl rfl ?_
 refine dSt rfl rfl ?_
 refine wAs (jPn (jT (wAg (jTr (wEj (rs := [_, _]) rfl (.cons (.agg rfl rfl rfl) (.cons (.agg rfl rfl rfl) .nil)) ?_)))))
 exact RDoP.err hf rfl
set_option maxHeartbeats 2000000 in
theorem ob_wdir (f : GS) (n : Nat) (hwf : WFS n f.abs) (hn : n ≤ 100) (M : Mem) (hf : f.Ok M) (c : CL) (ca : Option Addr) (ck : Nat) (hC : CallOk M c ca ck) (h0 : 0 ≤ c.kind ∧ c.kind ≤ 255) (w : Wy) (na : Option Addr) (nc : Nat) (hW : WyOk M w na nc) (o : Wy) (oa : Option Addr) (oc : Nat) (hO : WyOk M o oa oc) (hl : wCm c = true) (id : Int) (v : PV) (x : PF) (hw : wBb f.abs w.1 w.2 = .ok id) (hv : wAm w.1 f.abs.vols = some v) (hx : wAm id v.files = some x) (hdir : x.dir = true) :
  SpecL Tryz.prog 28 #[gsV f, clV c ca ck, wyV w na nc, wyV o oa oc] M [] (RDoP (f.abs, wCa 240)) := by
 have hvl := wBh hwf
 obtain ⟨iv, hiv, gv, j, hj, g, vb, vo, fb, fo, rfl, rfl, rfl, eiv, hgv, hid, hwv, hfl, hgo, hnd, ev, hvx, efa, hg, hfx, hgi, hgk, hgx, hnn, hn32, hnsl, hfx2⟩ := opw hwf hf hv hx
 refine wAe (vs := [_, _, _, _]) 178 _ Tryz.func28 rfl Tryz.ntmps28 rfl rfl ?_; intro W
 refine wAb (wAa (sBx [_, _] rfl fun b4 => ?_))
 refine sBx [_, _, _, _, _, _, _] rfl fun b5 => ?_
 refine sBx [_, _] rfl fun b6 => ?_
 refine sBx [_, _] rfl fun b7 => ?_
 refine sAl rfl fun b8 => ?_
 refine sAl rfl fun b9 => ?_
 refine wAc (jT (wAb (wAb (wAa (sLL rfl ?_)))))
 refine lq (qEq (qCl (wEd c ca ck M hC h0)) (v' := .bool true) (by rw [hl])) ?_
 refine jp rfl (wAc (jT (wAh rfl (wAd (jT (wAb (wAa (sLL rfl ?_))))))))
 refine sFL rfl rfl ?_
 refine sFL rfl rfl ?_
 refine lq (qEq (v' := .tuple #[.int .i64 (iv : Int), .int .i64 (j : Int), .int .i64 0]) (qCl (wAo f n hwf hn M hf w.1 w.2 na nc hW.sn hW.big)) (by rw [hw]; show Value.tuple #[.int .i64 (ixA w.1 (wAv f.vols)), .int .i64 (wDf f.abs w.1 g.id), _] = _; rw [eiv, hfx2])) ?_
 iterate 7 refine jp rfl ?_
 refine wAc (jT (wAb (wAb (wAa (jp rfl (jt rfl (decide_eq_true (by omega)) ?_))))))
 refine jp rfl (sFL rfl rfl ?_)
 refine jp rfl (lq (wAp rfl rfl rfl rfl ev (by omega)) ?_)
 refine sFa rfl ?_
 refine lq (qLd rfl rfl rfl rfl ((hvx 3 _ rfl).cj _)) ?_
 refine jp rfl (lq (wAp rfl rfl rfl rfl efa (by omega)) ?_)
 refine sFa rfl ?_
 refine lq (qEq (qLd rfl rfl rfl rfl ((hfx 1 _ rfl).cj _)) (v' := .bool true) (by rw [hdir])) ?_
 refine jp rfl (wAc (jT (wAf rfl (wAa (jp rfl (wAc (jT (wAb (wAb (wAa (jp rfl (jt rfl (decide_eq_true (by omega)) ?_))))))))))))
 refine wAc (jT (wAf rfl (wAb (wCw [(0, true), (1, true), (2, true), (3, false), (4, false)] [(b4, .cells (gsC f).toArray 53 (0, 0))] (by simp) ?_))))
 refine dLL rfl rfl ?_
 refine dp rfl rfl ?_
 refine dq rfl (qCl (wAu 240 M)) ?_
 refine dSt rfl rfl ?_
 refine dSt rfl rfl ?_
 refine wAs (jPn (jT (wAg (jTr (wEj (rs := [_, _]) rfl (.cons (.agg rfl rfl rfl) (.cons (.agg rfl rfl rfl) .nil)) ?_)))))
 exact RDoP.err hf rfl
set_option maxHeartbeats 4000000 in
theorem ob_read (f : GS) (n : Nat) (hwf : WFS n f.abs) (hn : n ≤ 100) (M : Mem) (hf : f.Ok M) (c : CL) (ca : Option Addr) (ck : Nat) (hC : CallOk M c ca ck) (h0 : 0 ≤ c.kind ∧ c.kind ≤ 255) (w : Wy) (na : Option Addr) (nc : Nat) (hW : WyOk M w na nc) (o : Wy) (oa : Option Addr) (oc : Nat) (hO : WyOk M o oa oc) (hl : wCm c = true) (id : Int) (v : PV) (x : PF) (hw : wBb f.abs w.1 w.2 = .ok id) (hv : wAm w.1 f.abs.vols = some v) (hx : wAm id v.files = some x) (hdir : x.dir = false) (hk : c.kind = 8) (a b : Nat) (ea : c.a = a) (eb : c.b = b) (hab : a ≤ 4096 ∧ b ≤ 4096) :
  SpecL Tryz.prog 28 #[gsV f, clV c ca ck, wyV w na nc, wyV o oa oc] M [] (RDoP (f.abs, { data := wJn a b x.data })) := by
 have hvl := wBh hwf
 obtain ⟨iv, hiv, gv, j, hj, g, vb, vo, fb, fo, rfl, rfl, rfl, eiv, hgv, hid, hwv, hfl, hgo, hnd, ev, hvx, efa, hg, hfx, hgi, hgk, hgx, hnn, hn32, hnsl, hfx2⟩ := opw hwf hf hv hx
 have ka := hC.ka
 have kb := hC.kb
 have kc := hC.kc
 unfold wJw at ka kb kc
 have h4k := (hwv.wf.len _ _ hgx).1
 refine wAe (vs := [_, _, _, _]) 178 _ Tryz.func28 rfl Tryz.ntmps28 rfl rfl ?_; intro W
 refine wAb (wAa (sBx [_, _] rfl fun b4 => ?_))
 refine sBx [_, _, _, _, _, _, _] rfl fun b5 => ?_
 refine sBx [_, _] rfl fun b6 => ?_
 refine sBx [_, _] rfl fun b7 => ?_
 refine sAl rfl fun b8 => ?_
 refine sAl rfl fun b9 => ?_
 refine wAc (jT (wAb (wAb (wAa (sLL rfl ?_)))))
 refine lq (qEq (qCl (wEd c ca ck M hC h0)) (v' := .bool true) (by rw [hl])) ?_
 refine jp rfl (wAc (jT (wAh rfl (wAd (jT (wAb (wAa (sLL rfl ?_))))))))
 refine sFL rfl rfl ?_
 refine sFL rfl rfl ?_
 refine lq (qEq (v' := .tuple #[.int .i64 (iv : Int), .int .i64 (j : Int), .int .i64 0]) (qCl (wAo f n hwf hn M hf w.1 w.2 na nc hW.sn hW.big)) (by rw [hw]; show Value.tuple #[.int .i64 (ixA w.1 (wAv f.vols)), .int .i64 (wDf f.abs w.1 g.id), _] = _; rw [eiv, hfx2])) ?_
 iterate 7 refine jp rfl ?_
 refine wAc (jT (wAb (wAb (wAa (jp rfl (jt rfl (decide_eq_true (by omega)) ?_))))))
 refine jp rfl (sFL rfl rfl ?_)
 refine jp rfl (lq (wAp rfl rfl rfl rfl ev (by omega)) ?_)
 refine sFa rfl ?_
 refine lq (qLd rfl rfl rfl rfl ((hvx 3 _ rfl).cj _)) ?_
 refine jp rfl (lq (wAp rfl rfl rfl rfl efa (by omega)) ?_)
 refine sFa rfl ?_
 refine lq (qEq (qLd rfl rfl rfl rfl ((hfx 1 _ rfl).cj _)) (v' := .bool false) (by rw [hdir])) ?_
 refine jp rfl (wAc (jT (wAh rfl (wAd (jT (wAb (wAb (wAa (jp rfl (jf rfl (decide_eq_false (by omega)) ?_))))))))))
 refine wAc (jT (wAh rfl (wAd (jT (wAb (wAa (sFL rfl rfl ?_)))))))
 refine jp rfl (lq (wAp rfl rfl rfl rfl ev (by omega)) ?_)
 refine sFa rfl ?_
 refine lq (qLd rfl rfl rfl rfl ((hvx 3 _ rfl).cj _)) ?_
 refine jp rfl (lq (wAp rfl rfl rfl rfl efa (by omega)) ?_)
 refine lq (wFt (cs := gfC g) rfl rfl rfl rfl rfl (fun j u hu => (hfx j u hu).cj _)) ?_
 refine sAl rfl fun b13 => ?_
 refine sSt rfl ?_
 refine wAc (jT (wAb (wAa (sFL rfl rfl ?_))))
 refine jp rfl (wAc (jT (wAb (wAa (sFL rfl rfl ?_)))))
 refine jp rfl (wAc (jT (wAb (wAb (wAa (sFL rfl rfl ?_))))))
 refine jt rfl (decide_eq_true (by omega)) ?_
 refine wAc (jT (wAf rfl (wAb (wAa (jp rfl (wAc (jT (wAb (wAb (wAa (sFL rfl rfl ?_)))))))))))
 refine jp rfl (wAc (jT (wAk ?_)))
 refine wBr (α := Nat × Value × Lc) (fun z => [(4, pt b4), (5, pt b5), (8, pt b8), (9, pt b9), (13, pt b13), (16, z.2.1), (17, .int .i64 z.1)]) (fun _ => M) (fun z => [(b13, .cells (gfC g).toArray 93 (0, 0)), (b9, .cells (rpc {} (.slice none 0 0) (.slice none 0 0)).toArray 30 (0, 0)), (b8, .cells [.int .i64 0, .slice none 0 0].toArray 53 (0, 0)), (b7, .cells [.int .i64 o.1, .slice oa o.2.length oc].toArray 65 (0, 0)), (b6, .cells [.int .i64 w.1, .slice na w.2.length nc].toArray 65 (0, 0)), (b5, .cells (wDa c ca ck).toArray 45 (0, 0)), (b4, .cells (gsC f).toArray 53 (0, 0))] ++ z.2.2) (fun z => (a ≤ z.1 ∧ (z.1 = a ∨ (z.1 ≤ a + b ∧ z.1 ≤ g.x.data.length))) ∧ Own z.2.1 z.2.2 5 1 (z.1 - a) (wAn ((g.x.data.drop a).take (z.1 - a)))) (fun z => a + b - z.1)
  (a, .slice none 0 0, []) (.cons (t := 4) rfl (.cons (t := 5) rfl (.cons (t := 8) rfl (.cons (t := 9) rfl (.cons (t := 13) rfl (.cons (t := 16) rfl (Keep.ceq (t := 17) rfl (by rw [ea]) Keep.nil))))))) ⟨⟨Nat.le_refl _, .inl rfl⟩, by dsimp only; rw [Nat.sub_self, List.take_zero]; exact Own.nil _ _⟩ (fun _ h => h) ?_
 rintro ⟨i, out, R⟩ hI
 have hi := hI.1
 dsimp only at hi hI ⊢
 refine wAb (wAb (wAa (jp rfl (sFL rfl rfl ?_))))
 refine sFL rfl rfl ?_
 refine ja rfl (by omega) ?_
 refine js rfl (fun h77 => ?_) (fun h77 => ?_)
 ·refine jp rfl (jp rfl (sFL rfl rfl ?_))
  refine lq (wCd rfl rfl rfl) ?_
  refine js rfl (fun h83 => ?_) (fun h83 => ?_)
  ·refine jp rfl (wAc (jT (wAf rfl (wAd (jT (wAb (wAk (wAa (jp rfl (sFL rfl rfl ?_))))))))))
   refine jp rfl ?_
   have hk1 : i < g.x.data.length := by omega
   obtain ⟨qb, qo, e0, hc⟩ := byte_at hgk.da hk1
   refine lq (wAp rfl rfl rfl rfl e0 (by omega)) ?_
   refine lq (qLd rfl rfl rfl rfl (hc.cj _)) ?_
   refine wCe rfl rfl (wBt (cs := [_]) rfl rfl rfl (by rfl) (by rfl) (by rfl)) ?_; rintro _ _ _ ⟨b93, rfl, rfl, rfl⟩
   refine wCe rfl rfl (wDt (R := R) (news := [Value.int .u8 (g.x.data[i].toNat : Int)]) rfl rfl rfl rfl hI.2 rfl (fun j v hv => CJ.loc (by rw [Nat.zero_add]; simpa using hv)) rfl rfl (fun u hu => by rw [List.mem_singleton.1 hu]; rfl) (by omega) (by omega)) ?_; rintro out2 _ _ ⟨rfl, R3, rfl, hown2, _⟩
   refine jp rfl (wAc (jB (jT (wAa (jp rfl (ja rfl (by omega) ?_))))))
   refine jp rfl (wAc ?_)
   refine wBu (i + 1, out2, R3) (.cons (t := 4) rfl (.cons (t := 5) rfl (.cons (t := 8) rfl (.cons (t := 9) rfl (.cons (t := 13) rfl (.cons (t := 16) rfl (.cons (t := 17) rfl .nil))))))) ⟨⟨by show a ≤ i + 1; omega, .inr ⟨by show i + 1 ≤ a + b; omega, by show i + 1 ≤ _; omega⟩⟩, ?_⟩ (by show a + b - (i + 1) < a + b - i; omega) (fun _ h => h.subC fun f => by simp only [List.map_append, List.map_cons, List.map_nil, List.sum_append, List.sum_cons, List.sum_nil]; omega)
   dsimp only
   have e1 : i + 1 - a = i - a + 1 := by omega
   have h2 : i - a < (g.x.data.drop a).length := by rw [List.length_drop]; omega
   have e2 : (g.x.data.drop a)[i - a] = g.x.data[i] := by rw [List.getElem_drop]; congr 1; omega
   rw [e1, List.take_succ_eq_append_getElem h2, e2]
   have e3 : wAn ((g.x.data.drop a).take (i - a) ++ [g.x.data[i]]) = wAn ((g.x.data.drop a).take (i - a)) ++ [Value.int .u8 (g.x.data[i].toNat : Int)] := by simp [wAn]
   rw [e3]; exact hown2
  refine jp rfl (wAc (jT (wAh rfl (wBx (jTx (jTx (jBx (jT (wAb (jc_own hI.2 (by simp) ?_))))))))))
  intro M9 a9 c9 hM9 e9 hc9 hs9
  subst e9
  have hcl := hI.2.capLe
  refine wAa (sLL rfl ?_)
  refine jp rfl (lq (wBe (cs := [_, _, _, _, _, _, _, _]) rfl rfl rfl (by rfl)) ?_)
  refine sSt rfl ?_
  refine sSt rfl ?_
  refine wAc (jT (wAg (jTr (wEj (rs := [_, _]) rfl (.cons (.agg rfl rfl rfl) (.cons (.agg rfl rfl rfl) .nil)) ?_))))
  have hr : wJn a b g.x.data = (g.x.data.drop a).take (i - a) := readB_end hi.1 hi.2 (by omega)
  have hrl : (wJn a b g.x.data).length = i - a := by rw [hr, List.length_take, List.length_drop]; omega
  refine ⟨f, .slice a9 (wJn a b g.x.data).length c9, .slice none 0 0, by rw [hrl]; rfl, hf.mono hM9, rfl, ⟨a9, c9, rfl, by rw [hrl]; exact hc9, hcl, by rw [hr]; exact hs9⟩, NsP.nil, rfl⟩
 iterate 7 refine jp rfl ?_
 refine wAc (jT (wAh rfl (wBx (jTx (jTx (jBx (jT (wAb (jc_own hI.2 (by simp) ?_)))))))))
 intro M9 a9 c9 hM9 e9 hc9 hs9
 subst e9
 have hcl := hI.2.capLe
 refine wAa (sLL rfl ?_)
 refine jp rfl (lq (wBe (cs := [_, _, _, _, _, _, _, _]) rfl rfl rfl (by rfl)) ?_)
 refine sSt rfl ?_
 refine sSt rfl ?_
 refine wAc (jT (wAg (jTr (wEj (rs := [_, _]) rfl (.cons (.agg rfl rfl rfl) (.cons (.agg rfl rfl rfl) .nil)) ?_))))
 have hr : wJn a b g.x.data = (g.x.data.drop a).take (i - a) := readB_end hi.1 hi.2 (by omega)
 have hrl : (wJn a b g.x.data).length = i - a := by rw [hr, List.length_take, List.length_drop]; omega
 refine ⟨f, .slice a9 (wJn a b g.x.data).length c9, .slice none 0 0, by rw [hrl]; rfl, hf.mono hM9, rfl, ⟨a9, c9, rfl, by rw [hrl]; exact hc9, hcl, by rw [hr]; exact hs9⟩, NsP.nil, rfl⟩
set_option maxHeartbeats 2000000 in
theorem ob_frz (f : GS) (n : Nat) (hwf : WFS n f.abs) (hn : n ≤ 100) (M : Mem) (hf : f.Ok M) (c : CL) (ca : Option Addr) (ck : Nat) (hC : CallOk M c ca ck) (h0 : 0 ≤ c.kind ∧ c.kind ≤ 255) (w : Wy) (na : Option Addr) (nc : Nat) (hW : WyOk M w na nc) (o : Wy) (oa : Option Addr) (oc : Nat) (hO : WyOk M o oa oc) (hl : wCm c = true) (id : Int) (v : PV) (x : PF) (hw : wBb f.abs w.1 w.2 = .ok id) (hv : wAm w.1 f.abs.vols = some v) (hx : wAm id v.files = some x) (hdir : x.dir = false) (hk : c.kind = 7 ∨ c.kind = 9 ∨ c.kind = 10) (hz : wAr f.abs w.1 = true) :
  SpecL Tryz.prog 28 #[gsV f, clV c ca ck, wyV w na nc, wyV o oa oc] M [] (RDoP (f.abs, wCa 170)) := by
 have hvl := wBh hwf
 obtain ⟨iv, hiv, gv, j, hj, g, vb, vo, fb, fo, rfl, rfl, rfl, eiv, hgv, hid, hwv, hfl, hgo, hnd, ev, hvx, efa, hg, hfx, hgi, hgk, hgx, hnn, hn32, hnsl, hfx2⟩ := opw hwf hf hv hx
 have hfz : wAr f.abs w.1 = gv.frozen := by unfold wAr; rw [hv]; rfl
 refine wAe (vs := [_, _, _, _]) 178 _ Tryz.func28 rfl Tryz.ntmps28 rfl rfl ?_; intro W
 refine wAb (wAa (sBx [_, _] rfl fun b4 => ?_))
 refine sBx [_, _, _, _, _, _, _] rfl fun b5 => ?_
 refine sBx [_, _] rfl fun b6 => ?_
 refine sBx [_, _] rfl fun b7 => ?_
 refine sAl rfl fun b8 => ?_
 refine sAl rfl fun b9 => ?_
 refine wAc (jT (wAb (wAb (wAa (sLL rfl ?_)))))
 refine lq (qEq (qCl (wEd c ca ck M hC h0)) (v' := .bool true) (by rw [hl])) ?_
 refine jp rfl (wAc (jT (wAh rfl (wAd (jT (wAb (wAa (sLL rfl ?_))))))))
 refine sFL rfl rfl ?_
 refine sFL rfl rfl ?_
 refine lq (qEq (v' := .tuple #[.int .i64 (iv : Int), .int .i64 (j : Int), .int .i64 0]) (qCl (wAo f n hwf hn M hf w.1 w.2 na nc hW.sn hW.big)) (by rw [hw]; show Value.tuple #[.int .i64 (ixA w.1 (wAv f.vols)), .int .i64 (wDf f.abs w.1 g.id), _] = _; rw [eiv, hfx2])) ?_
 iterate 7 refine jp rfl ?_
 refine wAc (jT (wAb (wAb (wAa (jp rfl (jt rfl (decide_eq_true (by omega)) ?_))))))
 refine jp rfl (sFL rfl rfl ?_)
 refine jp rfl (lq (wAp rfl rfl rfl rfl ev (by omega)) ?_)
 refine sFa rfl ?_
 refine lq (qLd rfl rfl rfl rfl ((hvx 3 _ rfl).cj _)) ?_
 refine jp rfl (lq (wAp rfl rfl rfl rfl efa (by omega)) ?_)
 refine sFa rfl ?_
 refine lq (qEq (qLd rfl rfl rfl rfl ((hfx 1 _ rfl).cj _)) (v' := .bool false) (by rw [hdir])) ?_
 refine jp rfl (wAc (jT (wAh rfl (wAd (jT (wAb (wAb (wAa (jp rfl (jf rfl (decide_eq_false (by omega)) ?_))))))))))
 refine wAc (jT (wAh rfl (wAd (jT (wAb (wAa (sFL rfl rfl ?_)))))))
 refine jp rfl (lq (wAp rfl rfl rfl rfl ev (by omega)) ?_)
 refine sFa rfl ?_
 refine lq (qLd rfl rfl rfl rfl ((hvx 3 _ rfl).cj _)) ?_
 refine jp rfl (lq (wAp rfl rfl rfl rfl efa (by omega)) ?_)
 refine lq (wFt (cs := gfC g) rfl rfl rfl rfl rfl (fun j u hu => (hfx j u hu).cj _)) ?_
 refine sAl rfl fun b13 => ?_
 refine sSt rfl ?_
 refine wAc (jT (wAb (wAa (sFL rfl rfl ?_))))
 refine jp rfl (wAc (jT (wAb (wAa (sFL rfl rfl ?_)))))
 refine jp rfl (wAc (jT (wAb (wAb (wAa (sFL rfl rfl ?_))))))
 refine jf rfl (decide_eq_false (by omega)) ?_
 refine wAc (jT (wAh rfl (wAd (jT (wAb (wAb (wAa (sFL rfl rfl ?_))))))))
 refine jf rfl (decide_eq_false (by omega)) ?_
 refine wAc (jT (wAh rfl (wAd (jT (wAb (wAb (wAa (sFL rfl rfl ?_))))))))
 refine jp rfl (lq (wAp rfl rfl rfl rfl ev (by omega)) ?_)
 refine sFa rfl ?_
 refine lq (qEq (qLd rfl rfl rfl rfl ((hvx 1 _ rfl).cj _)) (v' := .bool true) (by rw [hfz] at hz; rw [hz])) ?_
 refine wAc (jT (wAf rfl (wAb (wCw [(0, true), (1, true), (2, false), (3, false)] [(b4, .cells (gsC f).toArray 53 (0, 0))] (by simp) ?_))))
 refine dLL rfl rfl ?_
 refine dq rfl (qCl (wAu 170 M)) ?_
 refine dSt rfl rfl ?_
 refine dSt rfl rfl ?_
 refine wAs (jPn (jT (wAg (jTr (wEj (rs := [_, _]) rfl (.cons (.agg rfl rfl rfl) (.cons (.agg rfl rfl rfl) .nil)) ?_)))))
 exact RDoP.err hf rfl
set_option maxHeartbeats 4000000 in
theorem ob_turn (f : GS) (n : Nat) (hwf : WFS n f.abs) (hn : n ≤ 100) (M : Mem) (hf : f.Ok M) (c : CL) (ca : Option Addr) (ck : Nat) (hC : CallOk M c ca ck) (h0 : 0 ≤ c.kind ∧ c.kind ≤ 255) (w : Wy) (na : Option Addr) (nc : Nat) (hW : WyOk M w na nc) (o : Wy) (oa : Option Addr) (oc : Nat) (hO : WyOk M o oa oc) (hl : wCm c = true) (id : Int) (v : PV) (x : PF) (hw : wBb f.abs w.1 w.2 = .ok id) (hv : wAm w.1 f.abs.vols = some v) (hx : wAm id v.files = some x) (hdir : x.dir = false) (hk : c.kind = 7 ∨ c.kind = 9 ∨ c.kind = 10) (hfs : wCh f.abs w = .ok id) (hz : wAr f.abs w.1 = false) (ha : 0 ≤ c.a) (hL : LegK c x.data c.data c.a.toNat) :
  SpecL Tryz.prog 28 #[gsV f, clV c ca ck, wyV w na nc, wyV o oa oc] M [] (RDoP (wDv f.abs w true (fun b => wAw c b c.data c.a.toNat))) := by
 have hvl := wBh hwf
 obtain ⟨iv, hiv, gv, j, hj, g, vb, vo, fb, fo, rfl, rfl, rfl, eiv, hgv, hid, hwv, hfl, hgo, hnd, ev, hvx, efa, hg, hfx, hgi, hgk, hgx, hnn, hn32, hnsl, hfx2⟩ := opw hwf hf hv hx
 have hfz : wAr f.abs w.1 = gv.frozen := by unfold wAr; rw [hv]; rfl
 obtain ⟨hsz1, hsz2⟩ := wCy hwf hf hn
 have h4k := (hwv.wf.len _ _ hgx).1
 have hkk : ((c.a.toNat : Nat) : Int) = c.a := Int.toNat_of_nonneg ha
 have hcap := hC.cap
 refine wAe (vs := [_, _, _, _]) 178 _ Tryz.func28 rfl Tryz.ntmps28 rfl rfl ?_; intro W
 refine wAb (wAa (sBx [_, _] rfl fun b4 => ?_))
 refine sBx [_, _, _, _, _, _, _] rfl fun b5 => ?_
 refine sBx [_, _] rfl fun b6 => ?_
 refine sBx [_, _] rfl fun b7 => ?_
 refine sAl rfl fun b8 => ?_
 refine sAl rfl fun b9 => ?_
 refine wAc (jT (wAb (wAb (wAa (sLL rfl ?_)))))
 refine lq (qEq (qCl (wEd c ca ck M hC h0)) (v' := .bool true) (by rw [hl])) ?_
 refine jp rfl (wAc (jT (wAh rfl (wAd (jT (wAb (wAa (sLL rfl ?_))))))))
 refine sFL rfl rfl ?_
 refine sFL rfl rfl ?_
 refine lq (qEq (v' := .tuple #[.int .i64 (iv : Int), .int .i64 (j : Int), .int .i64 0]) (qCl (wAo f n hwf hn M hf w.1 w.2 na nc hW.sn hW.big)) (by rw [hw]; show Value.tuple #[.int .i64 (ixA w.1 (wAv f.vols)), .int .i64 (wDf f.abs w.1 g.id), _] = _; rw [eiv, hfx2])) ?_
 iterate 7 refine jp rfl ?_
 refine wAc (jT (wAb (wAb (wAa (jp rfl (jt rfl (decide_eq_true (by omega)) ?_))))))
 refine jp rfl (sFL rfl rfl ?_)
 refine jp rfl (lq (wAp rfl rfl rfl rfl ev (by omega)) ?_)
 refine sFa rfl ?_
 refine lq (qLd rfl rfl rfl rfl ((hvx 3 _ rfl).cj _)) ?_
 refine jp rfl (lq (wAp rfl rfl rfl rfl efa (by omega)) ?_)
 refine sFa rfl ?_
 refine lq (qEq (qLd rfl rfl rfl rfl ((hfx 1 _ rfl).cj _)) (v' := .bool false) (by rw [hdir])) ?_
 refine jp rfl (wAc (jT (wAh rfl (wAd (jT (wAb (wAb (wAa (jp rfl (jf rfl (decide_eq_false (by omega)) ?_))))))))))
 refine wAc (jT (wAh rfl (wAd (jT (wAb (wAa (sFL rfl rfl ?_)))))))
 refine jp rfl (lq (wAp rfl rfl rfl rfl ev (by omega)) ?_)
 refine sFa rfl ?_
 refine lq (qLd rfl rfl rfl rfl ((hvx 3 _ rfl).cj _)) ?_
 refine jp rfl (lq (wAp rfl rfl rfl rfl efa (by omega)) ?_)
 refine lq (wFt (cs := gfC g) rfl rfl rfl rfl rfl (fun j u hu => (hfx j u hu).cj _)) ?_
 refine sAl rfl fun b13 => ?_
 refine sSt rfl ?_
 refine wAc (jT (wAb (wAa (sFL rfl rfl ?_))))
 refine jp rfl (wAc (jT (wAb (wAa (sFL rfl rfl ?_)))))
 refine jp rfl (wAc (jT (wAb (wAb (wAa (sFL rfl rfl ?_))))))
 refine jf rfl (decide_eq_false (by omega)) ?_
 refine wAc (jT (wAh rfl (wAd (jT (wAb (wAb (wAa (sFL rfl rfl ?_))))))))
 refine jf rfl (decide_eq_false (by omega)) ?_
 refine wAc (jT (wAh rfl (wAd (jT (wAb (wAb (wAa (sFL rfl rfl ?_))))))))
 refine jp rfl (lq (wAp rfl rfl rfl rfl ev (by omega)) ?_)
 refine sFa rfl ?_
 refine lq (qEq (qLd rfl rfl rfl rfl ((hvx 1 _ rfl).cj _)) (v' := .bool false) (by rw [hfz] at hz; rw [hz])) ?_
 refine wAc (jT (wAh rfl (wAd (jT (wAb (wAa (sLL rfl ?_)))))))
 refine wCe rfl rfl (hCl (wFd f M hf hsz1 hsz2)) ?_; rintro _ M2 _ ⟨hM2, _, rfl, ⟨vs, va2, vc2, Rv, rfl, hvs, hown, hall, rfl⟩⟩
 obtain ⟨hiv2, hpi, hpa⟩ := tw_at hvs hiv
 rw [hgv] at hpi hpa
 have hpl := wLq hpa
 refine wGg hiv2 hown hall (by omega) ?_
 intro M3 vb2 fb2 sp fsp hF
 obtain ⟨p, hp⟩ : ∃ p, (vs[iv]).1 = p := ⟨_, rfl⟩
 have hF2 := hF
 obtain ⟨hM3, hoth, hpfs, hva, hvc, hvlen, hvm, hpf, hpc, hplen, hpm⟩ := hF2
 subst hva
 rw [hp] at hpi hpa hpl hpfs hpf hpc hplen hpm ⊢
 have hvq : (vsF vs)[iv]? = some p := by rw [List.getElem?_map, List.getElem?_eq_getElem hiv2, Option.map_some, hp]
 have hvsl : (vsF vs).length = vs.length := List.length_map _
 obtain ⟨hj2, hgid, hgx2⟩ := wKw hpa hj
 rw [hg] at hgid hgx2
 obtain ⟨g2, hg2⟩ : ∃ g2, p.files[j] = g2 := ⟨_, rfl⟩
 rw [hg2] at hgid hgx2
 have hfq : p.files[j]? = some g2 := by rw [List.getElem?_eq_getElem hj2, hg2]
 have hgo2 : g2.Ok M3 := hg2 ▸ hpfs _ (List.getElem_mem hj2)
 have hns2 := wCk hgo2
 have hn2l : g2.ns.length ≤ 32 := by rw [hns2, hgx2]; exact hn32
 have hnx : p.next = gv.next := congrArg PV.next hpa
 have hpz : p.frozen = gv.frozen := congrArg PV.frozen hpa
 have h2n : 2 ≤ gv.next := hwv.two
 have hmn : gv.next ≤ 2 + (n : Int) := hwv.most
 have hlenvs : vs.length = f.vols.length := by have := congrArg List.length hvs; simpa using this
 refine sAl rfl fun b18 => ?_
 refine sSt rfl ?_
 refine wAc (jT (wAb (wBn (p := { A := fun i => !([23].contains i), U := fun i => !([23].contains i) }) [(0, true), (1, true), (2, true), (3, true), (4, true), (5, true), (6, true), (7, true), (8, true), (9, true), (10, true), (11, true), (12, true), (13, true), (14, true), (15, true), (16, true), (17, true), (18, true), (19, true), (20, false), (21, true), (22, true), (23, false)] M3 ([(b18, .cells [.int .i64 f.made, .slice (some ⟨vb2, 0, none⟩) vs.length vc2].toArray 53 (0, 0)), (vb2, .cells ((vsF vs).flatMap gvC ++ sp).toArray 96 (0, 0)), (b5, .cells (wDa c ca ck).toArray 45 (0, 0)), (b4, .cells (gsC f).toArray 53 (0, 0))]) ([]) (by kernel_rfl) (by kernel_rfl) (by kernel_rfl) (by kernel_rfl) rfl (by simp) (MLe.refl _) (by simp) ?_)))
 refine dFa rfl rfl ?_
 refine dLd rfl rfl ?_
 refine dp rfl rfl ?_
 refine dq rfl (wAp rfl rfl rfl rfl rfl (by omega)) ?_
 refine dFa rfl rfl ?_
 refine dq rfl (qLd rfl rfl rfl rfl (wCx wBy hvq 3 _ rfl)) ?_
 refine dp rfl rfl ?_
 refine dFa rfl rfl ?_
 refine dLd rfl rfl ?_
 refine dp rfl rfl ?_
 refine dq rfl (wAp rfl rfl rfl rfl ev (by omega)) ?_
 refine dFa rfl rfl ?_
 refine dq rfl (qLd rfl rfl rfl rfl ((((hvx 3 _ rfl).mono hM2).mono hM3).cj _)) ?_
 refine dp rfl rfl ?_
 refine dq rfl (wAp rfl rfl rfl rfl efa (by omega)) ?_
 refine dFa rfl rfl ?_
 refine dq rfl (qLd rfl rfl rfl rfl ((((hfx 3 _ rfl).mono hM2).mono hM3).cj _)) ?_
 refine dLL rfl rfl ?_
 iterate 2 refine dp rfl rfl ?_
 refine wJf rfl rfl rfl (wKh rfl rfl rfl rfl rfl (by kernel_rfl) (by have := changed_any g.x.data g.da g.dc M3 ((hgk.da.mono hM2).mono hM3) h4k c ca ck ((hC.mono hM2).mono hM3) c.data ca ck ((hC.sm.mono hM2).mono hM3) (c.a.toNat) hL; rw [hkk] at this; exact this)) ?_; rintro _ M3 _ ⟨_, _, rfl, ⟨b173, rfl, rfl, rfl⟩⟩
 refine ⟨_, _, MLe.refl _, MLe.refl _, fun _ h => h, by simp, ?_⟩
 refine dq rfl (wAp rfl rfl rfl rfl hpf (show (0 : Int) ≤ (j : Int) ∧ (j : Int) < ((p.files.length : Nat) : Int) from ⟨by omega, by omega⟩)) ?_
 refine dFa rfl rfl ?_
 refine wJu rfl rfl (wBw (l2 := (p.files.set j ({ g2 with x := { g2.x with data := wAw c g.x.data c.data (c.a.toNat) }, da := some ⟨b173, 0, none⟩, dc := (wAw c g.x.data c.data (c.a.toNat)).length } : GF)).flatMap gfC ++ fsp) rfl rfl rfl rfl rfl rfl rfl (wDj wBa hfq (Nat.le_of_ble_eq_true rfl)) (wDi wBa hfq (Nat.le_of_ble_eq_true rfl) rfl)) ?_; rintro _ _ _ ⟨rfl, rfl⟩
 refine ⟨MLe.refl _, by simp, ?_⟩
 refine wCu ?_
 refine jPn (jT (wAb (wAa (sLL rfl ?_))))
 refine lq (wBe (cs := [_, _, _, _, _, _, _, _]) rfl rfl rfl (by rfl)) ?_
 refine sSt rfl ?_
 refine sSt rfl ?_
 refine wAc (jT (wAg (wCt b173 (by simp) ?_)))
 intro M8 hM8 e8
 refine wCt fb2 (by simp) ?_
 intro M9 hM9 e9
 refine wCt vb2 (by simp) ?_
 intro M10 hM10 e10
 refine wEj (rs := [_, _]) rfl (.cons (.agg rfl rfl rfl) (.cons (.agg rfl rfl rfl) .nil)) ?_
 have hM := (hM8.trans hM9).trans hM10
 rw [← wHh hvq (v2 := ({ p with files := (p.files.set j ({ g2 with x := { g2.x with data := wAw c g.x.data c.data (c.a.toNat) }, da := some ⟨b173, 0, none⟩, dc := (wAw c g.x.data c.data (c.a.toNat)).length } : GF)) } : GV)) (by show [_, _, _, Value.slice _ ((p.files.set j ({ g2 with x := { g2.x with data := wAw c g.x.data c.data (c.a.toNat) }, da := some ⟨b173, 0, none⟩, dc := (wAw c g.x.data c.data (c.a.toNat)).length } : GF))).length _] = _; rw [List.length_set])] at e10
 refine RDoP.vol hwf hvs hiv2 (by rw [hp, hpi, hid]) (v2 := ({ p with files := (p.files.set j ({ g2 with x := { g2.x with data := wAw c g.x.data c.data (c.a.toNat) }, da := some ⟨b173, 0, none⟩, dc := (wAw c g.x.data c.data (c.a.toNat)).length } : GF)) } : GV)) (by rw [hpi, hid]) e10 hvc (fun i hi hne => (hoth i hi hne).mono hM) ⟨?_, ?_, ?_⟩ (rp := {}) ?_ rfl rfl
 ·show SM M10 p.fa ((p.files.set j ({ g2 with x := { g2.x with data := wAw c g.x.data c.data (c.a.toNat) }, da := some ⟨b173, 0, none⟩, dc := (wAw c g.x.data c.data (c.a.toNat)).length } : GF)).flatMap gfC); rw [hpf]; exact (sm_of e9).mono hM10
 ·show ((p.files.set j ({ g2 with x := { g2.x with data := wAw c g.x.data c.data (c.a.toNat) }, da := some ⟨b173, 0, none⟩, dc := (wAw c g.x.data c.data (c.a.toNat)).length } : GF))).length ≤ p.fc; rw [List.length_set]; exact hpc
 ·exact wFh (fun q hq => (hpfs q hq).mono hM) ((data_ok hgo2 hM8 e8).mono (hM9.trans hM10))
 rw [turn_abs hfs hz hv hx]
 have hnd2 : (wBg (flsOf' p.files)).Nodup := by rw [show flsOf' p.files = flsOf' gv.files from congrArg PV.files hpa]; exact hnd
 have e := fls_set (l := p.files) (j := j) (g' := ({ g2 with x := { g2.x with data := wAw c g.x.data c.data (c.a.toNat) }, da := some ⟨b173, 0, none⟩, dc := (wAw c g.x.data c.data (c.a.toNat)).length } : GF)) hnd2 hj2 (by rw [hg2])
 have e2 : flsOf' p.files = gv.abs.files := congrArg PV.files hpa
 have e3 : GV.abs ({ p with files := (p.files.set j ({ g2 with x := { g2.x with data := wAw c g.x.data c.data (c.a.toNat) }, da := some ⟨b173, 0, none⟩, dc := (wAw c g.x.data c.data (c.a.toNat)).length } : GF)) } : GV) = { gv.abs with files := wBq g.id { g.x with data := wAw c g.x.data c.data (c.a.toNat) } gv.abs.files } := by
  show ({ frozen := p.frozen, next := p.next, files := flsOf' (p.files.set j ({ g2 with x := { g2.x with data := wAw c g.x.data c.data (c.a.toNat) }, da := some ⟨b173, 0, none⟩, dc := (wAw c g.x.data c.data (c.a.toNat)).length } : GF)) } : PV) = _
  rw [e, e2, hpz, hnx, hgid, hgx2]; rfl
 refine Prod.ext ?_ rfl
 exact congrArg (fun z : PV => ({ f.abs with vols := wBq w.1 z f.abs.vols } : PS)) e3.symm
end Go.Proofs.YtokljhkplbkggaaGreatDoor
