/- Walks: the document's calls on volumes. -/
import Derived.Test.YtokljhkplbkggaaGreatDoorZRfx
namespace Go.Proofs.YtokljhkplbkggaaGreatDoor
set_option linter.unusedVariables false
set_option linter.unusedSectionVars false
set_option linter.unusedSimpArgs false
open Go.RowKit Go.MapKept
theorem RDoP.add {f : GS} {vs : List GO} (hvs : wAv (vsF vs) = wAv f.vols) {M' : Mem} (hok : ∀ p ∈ vs, p.1.Ok M') {nv : GV} (hnv : nv.Ok M') (hid : nv.id = f.made + 1) {a : Option Addr} {c : Nat} (ha : SM M' a ((vsF vs).flatMap gvC ++ gvC nv)) (hc : vs.length + 1 ≤ c) {r : PS × RP} (hr : r = addS f.abs nv.abs) :
  RDoP r (.tuple #[.agg [.int .i64 (f.made + 1), .slice a (vs.length + 1) c].toArray, rp0 { id := f.made + 1 }]) M' [] := by
 have hl : (vsF vs ++ [nv]).length = vs.length + 1 := by simp
 subst hr
 refine ⟨{ made := f.made + 1, vols := vsF vs ++ [nv], va := a, vc := c }, .slice none 0 0, .slice none 0 0, ?_, ⟨?_, ?_, ?_⟩, ?_, BsP.nil, NsP.nil, rfl⟩
 ·show _ = Value.tuple #[.agg [_, .slice _ (vsF vs ++ [nv]).length _].toArray, _]
  rw [hl]; rfl
 ·show SM M' a ((vsF vs ++ [nv]).flatMap gvC)
  rw [List.flatMap_append, List.flatMap_cons, List.flatMap_nil, List.append_nil]; exact ha
 ·show (vsF vs ++ [nv]).length ≤ c; rw [hl]; exact hc
 ·intro v hv
  rcases List.mem_append.1 hv with hv | hv
  ·obtain ⟨p, hp, rfl⟩ := List.mem_map.1 hv; exact hok p hp
  rw [List.mem_singleton.1 hv]; exact hnv
 show ({ next := f.made + 1, vols := wAv (vsF vs ++ [nv]) } : PS) = { next := f.made + 1, vols := wAv f.vols ++ [(f.made + 1, nv.abs)] }
 rw [wAv, List.map_append, ← wAv, hvs, List.map_cons, List.map_nil, hid]
theorem SM.dropS {M : Mem} {a : Option Addr} {cs : List Value} {m n : Nat} (h : SM M a cs) (hl : cs.length = n * m) {k c : Nat} (hk : k ≤ n) (hc : n ≤ c) : SM M (slA a k c m) (cs.drop (k * m)) := by
 rcases h with h | ⟨b, off, rfl, hx⟩
 ·subst h; exact .inl (by simp)
 by_cases e : k = c
 ·have : cs.drop (k * m) = [] := List.drop_of_length_le (by rw [hl]; exact Nat.mul_le_mul_right _ (by omega))
  exact .inl this
 refine .inr ⟨b, off + k * m, wGy (by omega), fun i u hu => ?_⟩
 rw [List.getElem?_drop] at hu
 rw [Nat.add_assoc]; exact hx _ u hu
theorem delA_at {α : Type} {k : Int} {l : List (Int × α)} (hn : (wBg l).Nodup) {i : Nat} (h : i < l.length) (he : l[i].1 = k) : wBc k l = l.take i ++ l.drop (i + 1) := by
 have e : l = l.take i ++ (k, l[i].2) :: l.drop (i + 1) := by
  have e2 : (k, l[i].2) = l[i] := by rw [← he]
  rw [e2, List.getElem_cons_drop, List.take_append_drop]
 conv => lhs; rw [e]
 exact wLr (by rw [← e]; exact hn)
theorem gvC_one (l : List GV) : ∀ u ∈ l.flatMap gvC, u.oneCell' = true := fun u hu => by
 obtain ⟨q, _, h⟩ := List.mem_flatMap.1 hu
 exact List.all_eq_true.1 (rfl : ((gvC q).all fun v => v.oneCell') = true) u h
set_option maxHeartbeats 4000000 in
theorem ov_make (f : GS) (n : Nat) (hwf : WFS n f.abs) (hn : n ≤ 100) (M : Mem) (hf : f.Ok M) (c : CL) (ca : Option Addr) (ck : Nat) (hC : CallOk M c ca ck) (hk : c.kind = 1) :
  SpecL Tryz.prog 25 #[gsV f, clV c ca ck] M [] (RDoP (makeS f.abs)) := by
 have hvl := wBh hwf
 obtain ⟨hsz1, hsz2⟩ := wCy hwf hf hn
 have hmade : 0 ≤ f.made ∧ f.made ≤ (n : Int) := ⟨hwf.low, hwf.most⟩
 refine wAe (vs := [_, _]) 111 _ Tryz.func25 rfl Tryz.ntmps25 rfl rfl ?_; intro W
 refine wAb (wAa (sBx [_, _] rfl fun b2 => ?_))
 refine sBx [_, _, _, _, _, _, _] rfl fun b3 => ?_
 refine sAl rfl fun b4 => ?_
 refine sAl rfl fun b5 => ?_
 refine wAc (jT (wAb (wAa (sLL rfl ?_))))
 refine wCe rfl rfl (hCl (wFd f M hf hsz1 hsz2)) ?_; rintro _ M2 _ ⟨hM2, _, rfl, ⟨vs, va2, vc2, Rv, rfl, hvs, hown, hall, rfl⟩⟩
 have hlenvs : vs.length = f.vols.length := by have := congrArg List.length hvs; simpa using this
 refine wHo hall ?_
 intro M3 hM3 hvok
 have hM23 := hM2.trans hM3
 refine sAl rfl fun b6 => ?_
 refine sSt rfl ?_
 refine wAc (jT (wAb (wAb (wAa (sFL rfl rfl ?_)))))
 refine jt rfl (decide_eq_true (by omega)) ?_
 refine wAc (jT (wAf rfl (wAb (wAa (sFL rfl rfl ?_)))))
 refine ja rfl (by omega) ?_
 refine sFa rfl ?_
 refine sSt rfl ?_
 refine wAc (jT (wAb (wAa (sFL rfl rfl ?_))))
 refine sFL rfl rfl ?_
 refine lq (wBe (cs := [_, _, _, _, _]) rfl rfl rfl (by rfl)) ?_
 refine wCe rfl rfl (wBt (cs := [_, _, _, _, _]) rfl rfl rfl (by rfl) (by rfl) (by rfl)) ?_; rintro _ _ _ ⟨b24, rfl, rfl, rfl⟩
 refine lq (wBe (cs := [_, _, _, _]) rfl rfl rfl (by rfl)) ?_
 refine wCe rfl rfl (wBt (cs := [_, _, _, _]) rfl rfl rfl (by rfl) (by rfl) (by rfl)) ?_; rintro _ _ _ ⟨b26, rfl, rfl, rfl⟩
 refine wCe rfl rfl (wDt (R := Rv) (news := gvC ({ id := f.made + 1, frozen := false, next := 2, files := [({ id := 1, x := { dir := true, links := 1, data := [], names := [] }, da := none, dc := 0, ns := [], na := none, nc := 0 } : GF)], fa := some ⟨b24, 0, none⟩, fc := 1 } : GV)) rfl rfl rfl rfl hown rfl (fun j v hv => CJ.loc (by rw [Nat.zero_add]; exact hv)) rfl rfl (fun u hu => List.all_eq_true.1 (rfl : ((gvC ({ id := f.made + 1, frozen := false, next := 2, files := [({ id := 1, x := { dir := true, links := 1, data := [], names := [] }, da := none, dc := 0, ns := [], na := none, nc := 0 } : GF)], fa := some ⟨b24, 0, none⟩, fc := 1 } : GV)).all fun v => v.oneCell') = true) u hu) (by omega) (by omega)) ?_; rintro out7 _ _ ⟨rfl, R7, rfl, hown7, _⟩
 obtain ⟨a7, c7, rfl⟩ := hown7.form
 refine sFa rfl ?_
 refine sSt rfl ?_
 refine wAc (jT (wAb (wCw [(0, true), (1, true), (2, true), (3, true), (4, false), (5, false)] [(b6, .cells [.int .i64 (f.made + 1), .slice a7 (vs.length + 1) c7].toArray 53 (0, 0))] (by simp) ?_)))
 refine dLL rfl rfl ?_
 refine dFa rfl rfl ?_
 refine dLd rfl rfl ?_
 refine dq rfl (wBe (cs := [_, _, _, _, _, _, _, _]) rfl rfl rfl (by rfl)) ?_
 refine dSt rfl rfl ?_
 refine dSt rfl rfl ?_
 refine wAs (jPn (jT (wAg (jTr (wCt b24 (by simp) ?_)))))
 intro M4 hM4 e4
 refine wLk hown7 (by simp) ?_
 intro M10 a10 c10 hM10 e10 hc10 hs10
 simp only [Value.slice.injEq] at e10
 obtain ⟨rfl, _, rfl⟩ := e10
 refine wEj (rs := [_, _]) rfl (.cons (.agg rfl rfl rfl) (.cons (.agg rfl rfl rfl) .nil)) ?_
 have hM := hM4.trans hM10
 refine RDoP.add hvs (fun p hp => (hvok p hp).mono hM) (nv := ({ id := f.made + 1, frozen := false, next := 2, files := [({ id := 1, x := { dir := true, links := 1, data := [], names := [] }, da := none, dc := 0, ns := [], na := none, nc := 0 } : GF)], fa := some ⟨b24, 0, none⟩, fc := 1 } : GV)) ⟨?_, Nat.le_refl _, ?_⟩ rfl hs10 hc10 ?_
 ·exact (SM.of_block (l := gfC ({ id := 1, x := { dir := true, links := 1, data := [], names := [] }, da := none, dc := 0, ns := [], na := none, nc := 0 } : GF)) e4).mono hM10
 ·intro g hg; rw [List.mem_singleton.1 hg]; exact newf_ok
 rfl
set_option maxHeartbeats 2000000 in
theorem ov_arg (f : GS) (n : Nat) (hwf : WFS n f.abs) (hn : n ≤ 100) (M : Mem) (hf : f.Ok M) (c : CL) (ca : Option Addr) (ck : Nat) (hC : CallOk M c ca ck) (hk : c.kind = 2 ∨ c.kind = 3) (hb : inI c.b 0 1 = false) :
  SpecL Tryz.prog 25 #[gsV f, clV c ca ck] M [] (RDoP (f.abs, wCa 2)) := by
 have hvl := wBh hwf
 obtain ⟨hsz1, hsz2⟩ := wCy hwf hf hn
 have hmade : 0 ≤ f.made ∧ f.made ≤ (n : Int) := ⟨hwf.low, hwf.most⟩
 refine wAe (vs := [_, _]) 111 _ Tryz.func25 rfl Tryz.ntmps25 rfl rfl ?_; intro W
 refine wAb (wAa (sBx [_, _] rfl fun b2 => ?_))
 refine sBx [_, _, _, _, _, _, _] rfl fun b3 => ?_
 refine sAl rfl fun b4 => ?_
 refine sAl rfl fun b5 => ?_
 refine wAc (jT (wAb (wAa (sLL rfl ?_))))
 refine wCe rfl rfl (hCl (wFd f M hf hsz1 hsz2)) ?_; rintro _ M2 _ ⟨hM2, _, rfl, ⟨vs, va2, vc2, Rv, rfl, hvs, hown, hall, rfl⟩⟩
 have hlenvs : vs.length = f.vols.length := by have := congrArg List.length hvs; simpa using this
 refine wHo hall ?_
 intro M3 hM3 hvok
 have hM23 := hM2.trans hM3
 refine sAl rfl fun b6 => ?_
 refine sSt rfl ?_
 refine wAc (jT (wAb (wAb (wAa (sFL rfl rfl ?_)))))
 refine jf rfl (decide_eq_false (by omega)) ?_
 refine wAc (jT (wAh rfl (wAd (jT (wAb (wAb (wAa (sFL rfl rfl ?_))))))))
 refine jt rfl (decide_eq_true (by omega)) ?_
 refine jp rfl (sFL rfl rfl ?_)
 refine lq (qEq (qCl (wEh c.b 0 1 M3)) (v' := .bool false) (by rw [hb])) ?_
 refine jp rfl (jp rfl (wAc (jT (wAf rfl (wAb (wCw [(0, true), (1, true), (2, false), (3, false)] [(b2, .cells (gsC f).toArray 53 (0, 0))] (by simp) ?_))))))
 refine dLL rfl rfl ?_
 refine dq rfl (qCl (wAu 2 M3)) ?_
 refine dSt rfl rfl ?_
 refine dSt rfl rfl ?_
 refine wAs (jPn (jT (wAg (jTr (wEj (rs := [_, _]) rfl (.cons (.agg rfl rfl rfl) (.cons (.agg rfl rfl rfl) .nil)) ?_)))))
 exact RDoP.err (hf.mono hM23) rfl
set_option maxHeartbeats 2000000 in
theorem ov_none (f : GS) (n : Nat) (hwf : WFS n f.abs) (hn : n ≤ 100) (M : Mem) (hf : f.Ok M) (c : CL) (ca : Option Addr) (ck : Nat) (hC : CallOk M c ca ck) (hk : c.kind = 4 ∨ ((c.kind = 2 ∨ c.kind = 3) ∧ inI c.b 0 1 = true)) (hv : wAm c.a f.abs.vols = none) :
  SpecL Tryz.prog 25 #[gsV f, clV c ca ck] M [] (RDoP (f.abs, wCa 6)) := by
 have hvl := wBh hwf
 obtain ⟨hsz1, hsz2⟩ := wCy hwf hf hn
 have hmade : 0 ≤ f.made ∧ f.made ≤ (n : Int) := ⟨hwf.low, hwf.most⟩
 refine wAe (vs := [_, _]) 111 _ Tryz.func25 rfl Tryz.ntmps25 rfl rfl ?_; intro W
 refine wAb (wAa (sBx [_, _] rfl fun b2 => ?_))
 refine sBx [_, _, _, _, _, _, _] rfl fun b3 => ?_
 refine sAl rfl fun b4 => ?_
 refine sAl rfl fun b5 => ?_
 refine wAc (jT (wAb (wAa (sLL rfl ?_))))
 refine wCe rfl rfl (hCl (wFd f M hf hsz1 hsz2)) ?_; rintro _ M2 _ ⟨hM2, _, rfl, ⟨vs, va2, vc2, Rv, rfl, hvs, hown, hall, rfl⟩⟩
 have hlenvs : vs.length = f.vols.length := by have := congrArg List.length hvs; simpa using this
 refine wHo hall ?_
 intro M3 hM3 hvok
 have hM23 := hM2.trans hM3
 refine sAl rfl fun b6 => ?_
 refine sSt rfl ?_
 refine wAc (jT (wAb (wAb (wAa (sFL rfl rfl ?_)))))
 refine jf rfl (decide_eq_false (by omega)) ?_
 refine wAc (jT (wAh rfl (wAd (jT (wAb (wAb (wAa (sFL rfl rfl ?_))))))))
 refine js rfl (fun h35 => ?_) (fun h35 => ?_)
 ·refine jp rfl (sFL rfl rfl ?_)
  refine lq (qEq (qCl (wEh c.b 0 1 M3)) (v' := .bool true) (by rw [(hk.resolve_left (by omega)).2])) ?_
  refine jp rfl (jp rfl (wAc (jT (wAh rfl (wAd (jT (wAb (wAa (sLL rfl ?_)))))))))
  refine sFL rfl rfl ?_
  refine lq (qEq (v' := .int .i64 (-1)) (qCl (wFi f c.a M3 (hf.mono hM23) (by omega))) (by rw [wLo (show wAm c.a (wAv f.vols) = none from hv)])) ?_
  refine jp rfl (wAc (jT (wAb (wAb (wAa (jp rfl (jt rfl (decide_eq_true (by omega)) ?_)))))))
  refine wAc (jT (wAf rfl (wAb (wCw [(0, true), (1, true), (2, false), (3, false)] [(b2, .cells (gsC f).toArray 53 (0, 0))] (by simp) ?_))))
  refine dLL rfl rfl ?_
  refine dq rfl (qCl (wAu 6 M3)) ?_
  refine dSt rfl rfl ?_
  refine dSt rfl rfl ?_
  refine wAs (jPn (jT (wAg (jTr (wEj (rs := [_, _]) rfl (.cons (.agg rfl rfl rfl) (.cons (.agg rfl rfl rfl) .nil)) ?_)))))
  exact RDoP.err (hf.mono hM23) rfl
 refine jp rfl (jp rfl (jp rfl (jp rfl (jp rfl (jp rfl (wAc (jT (wAh rfl (wAd (jT (wAb (wAa (sLL rfl ?_)))))))))))))
 refine sFL rfl rfl ?_
 refine lq (qEq (v' := .int .i64 (-1)) (qCl (wFi f c.a M3 (hf.mono hM23) (by omega))) (by rw [wLo (show wAm c.a (wAv f.vols) = none from hv)])) ?_
 refine jp rfl (wAc (jT (wAb (wAb (wAa (jp rfl (jt rfl (decide_eq_true (by omega)) ?_)))))))
 refine wAc (jT (wAf rfl (wAb (wCw [(0, true), (1, true), (2, false), (3, false)] [(b2, .cells (gsC f).toArray 53 (0, 0))] (by simp) ?_))))
 refine dLL rfl rfl ?_
 refine dq rfl (qCl (wAu 6 M3)) ?_
 refine dSt rfl rfl ?_
 refine dSt rfl rfl ?_
 refine wAs (jPn (jT (wAg (jTr (wEj (rs := [_, _]) rfl (.cons (.agg rfl rfl rfl) (.cons (.agg rfl rfl rfl) .nil)) ?_)))))
 exact RDoP.err (hf.mono hM23) rfl
set_option maxHeartbeats 4000000 in
theorem ov_snap (f : GS) (n : Nat) (hwf : WFS n f.abs) (hn : n ≤ 100) (M : Mem) (hf : f.Ok M) (c : CL) (ca : Option Addr) (ck : Nat) (hC : CallOk M c ca ck) (hk : c.kind = 2) (hb : inI c.b 0 1 = true) (v : PV) (hv : wAm c.a f.abs.vols = some v) :
  SpecL Tryz.prog 25 #[gsV f, clV c ca ck] M [] (RDoP (wHi f.abs c)) := by
 have hvl := wBh hwf
 obtain ⟨hsz1, hsz2⟩ := wCy hwf hf hn
 have hmade : 0 ≤ f.made ∧ f.made ≤ (n : Int) := ⟨hwf.low, hwf.most⟩
 obtain ⟨iv, hiv, eiv, hid, hab⟩ := GS.vol hv
 subst hab
 obtain ⟨gv, hgv⟩ : ∃ gv, f.vols[iv] = gv := ⟨_, rfl⟩
 rw [hgv] at hid hv
 have hwv : WFV n gv.abs := hwf.vol c.a _ hv
 have hfl := wEc hwv
 have hgo : gv.Ok M := hgv ▸ hf.all _ (List.getElem_mem hiv)
 have hnd : (wBg (flsOf' gv.files)).Nodup := hwv.wf.nd
 obtain ⟨vb, vo, ev, hvx⟩ := wDh wBy hf.va hiv (by omega)
 rw [hgv] at hvx
 have hgz := hsz2 gv (hgv ▸ List.getElem_mem hiv)
 refine wAe (vs := [_, _]) 111 _ Tryz.func25 rfl Tryz.ntmps25 rfl rfl ?_; intro W
 refine wAb (wAa (sBx [_, _] rfl fun b2 => ?_))
 refine sBx [_, _, _, _, _, _, _] rfl fun b3 => ?_
 refine sAl rfl fun b4 => ?_
 refine sAl rfl fun b5 => ?_
 refine wAc (jT (wAb (wAa (sLL rfl ?_))))
 refine wCe rfl rfl (hCl (wFd f M hf hsz1 hsz2)) ?_; rintro _ M2 _ ⟨hM2, _, rfl, ⟨vs, va2, vc2, Rv, rfl, hvs, hown, hall, rfl⟩⟩
 have hlenvs : vs.length = f.vols.length := by have := congrArg List.length hvs; simpa using this
 refine wHo hall ?_
 intro M3 hM3 hvok
 have hM23 := hM2.trans hM3
 refine sAl rfl fun b6 => ?_
 refine sSt rfl ?_
 refine wAc (jT (wAb (wAb (wAa (sFL rfl rfl ?_)))))
 refine jf rfl (decide_eq_false (by omega)) ?_
 refine wAc (jT (wAh rfl (wAd (jT (wAb (wAb (wAa (sFL rfl rfl ?_))))))))
 refine jt rfl (decide_eq_true (by omega)) ?_
 refine jp rfl (sFL rfl rfl ?_)
 refine lq (qEq (qCl (wEh c.b 0 1 M3)) (v' := .bool true) (by rw [hb])) ?_
 refine jp rfl (jp rfl (wAc (jT (wAh rfl (wAd (jT (wAb (wAa (sLL rfl ?_)))))))))
 refine sFL rfl rfl ?_
 refine lq (qEq (v' := .int .i64 (iv : Int)) (qCl (wFi f c.a M3 (hf.mono hM23) (by omega))) (by rw [eiv])) ?_
 refine jp rfl (wAc (jT (wAb (wAb (wAa (jp rfl (jf rfl (decide_eq_false (by omega)) ?_)))))))
 refine wAc (jT (wAh rfl (wAd (jT (wAb (wAb (wAa (sFL rfl rfl ?_))))))))
 refine wAc (jT (wAk (wAb (wAa (jt rfl (decide_eq_true (by omega)) ?_)))))
 refine jp rfl (wAc (jT (wAf rfl (wAb (wAa (sFL rfl rfl ?_))))))
 refine ja rfl (by omega) ?_
 refine sFa rfl ?_
 refine sSt rfl ?_
 refine wAc (jT (wAb (wAa (sFL rfl rfl ?_))))
 refine jp rfl (lq (wAp rfl rfl rfl rfl ev (by omega)) ?_)
 refine lq (wFt (cs := gvC gv) rfl rfl rfl rfl rfl (fun j u hu => ((hvx j u hu).mono hM23).cj _)) ?_
 refine wCe rfl rfl (hCl (rtwin_spec gv M3 (hgo.mono hM23) hgz.1 hgz.2)) ?_; rintro _ M5 _ ⟨hM5, R8, rfl, ⟨fs, a8, c8, _, rfl, hfl8, hown8, hall8, rfl⟩⟩
 refine sAl rfl fun b8 => ?_
 refine sSt rfl ?_
 refine wAc (jT (wAb (wAa (sFL rfl rfl ?_))))
 refine sFa rfl ?_
 refine sSt rfl ?_
 refine wAc (jT (wAb (wAa (sFL rfl rfl ?_))))
 refine jp rfl (sFa rfl ?_)
 refine sSt rfl ?_
 refine wAc (jT (wAb (wAa (sFL rfl rfl ?_))))
 refine sLL rfl ?_
 refine wCe rfl rfl (wBt (cs := [_, _, _, _]) rfl rfl rfl (by rfl) (by rfl) (by rfl)) ?_; rintro _ _ _ ⟨b76, rfl, rfl, rfl⟩
 refine wCe rfl rfl (wDt (R := Rv) (news := gvC ({ gv with id := f.made + 1, frozen := decide (c.b = 1), files := fs, fa := a8, fc := c8 } : GV)) rfl rfl rfl rfl hown rfl (fun j v hv => CJ.loc (by rw [Nat.zero_add]; exact hv)) rfl rfl (fun u hu => List.all_eq_true.1 (rfl : ((gvC ({ gv with id := f.made + 1, frozen := decide (c.b = 1), files := fs, fa := a8, fc := c8 } : GV)).all fun v => v.oneCell') = true) u hu) (by omega) (by omega)) ?_; rintro out7 _ _ ⟨rfl, R7, rfl, hown7, _⟩
 obtain ⟨a7, c7, rfl⟩ := hown7.form
 refine sFa rfl ?_
 refine sSt rfl ?_
 refine wAc (jT (wAb (wCw [(0, true), (1, true), (2, true), (3, true), (4, false), (5, false)] [(b6, .cells [.int .i64 (f.made + 1), .slice a7 (vs.length + 1) c7].toArray 53 (0, 0))] (by simp) ?_)))
 refine dLL rfl rfl ?_
 refine dFa rfl rfl ?_
 refine dLd rfl rfl ?_
 refine dq rfl (wBe (cs := [_, _, _, _, _, _, _, _]) rfl rfl rfl (by rfl)) ?_
 refine dSt rfl rfl ?_
 refine dSt rfl rfl ?_
 refine wAs (jPn (jT (wAg (jBr (jTr (wLk hown8 (by simp) ?_))))))
 intro M9 a9 c9 hM9 e9 hc9 hs9
 simp only [Value.slice.injEq] at e9
 obtain ⟨rfl, _, rfl⟩ := e9
 refine wLk hown7 (by simp) ?_
 intro M10 a10 c10 hM10 e10 hc10 hs10
 simp only [Value.slice.injEq] at e10
 obtain ⟨rfl, _, rfl⟩ := e10
 refine wEj (rs := [_, _]) rfl (.cons (.agg rfl rfl rfl) (.cons (.agg rfl rfl rfl) .nil)) ?_
 have hM := hM9.trans hM10
 refine RDoP.add hvs (fun p hp => ((hvok p hp).mono hM5).mono hM) (nv := ({ gv with id := f.made + 1, frozen := decide (c.b = 1), files := fs, fa := a8, fc := c8 } : GV)) ⟨hs9.mono hM10, hc9, fun g hg => (hall8 g hg).mono hM⟩ rfl hs10 hc10 ?_
 unfold wHi; rw [if_pos hb, hv]; simp only; congr 1
 show _ = ({ frozen := decide (c.b = 1), next := gv.next, files := flsOf' fs } : PV)
 rw [hfl8]; rfl
set_option maxHeartbeats 4000000 in
theorem ov_freeze (f : GS) (n : Nat) (hwf : WFS n f.abs) (hn : n ≤ 100) (M : Mem) (hf : f.Ok M) (c : CL) (ca : Option Addr) (ck : Nat) (hC : CallOk M c ca ck) (hk : c.kind = 3) (hb : inI c.b 0 1 = true) (v : PV) (hv : wAm c.a f.abs.vols = some v) :
  SpecL Tryz.prog 25 #[gsV f, clV c ca ck] M [] (RDoP (wEa f.abs c)) := by
 have hvl := wBh hwf
 obtain ⟨hsz1, hsz2⟩ := wCy hwf hf hn
 have hmade : 0 ≤ f.made ∧ f.made ≤ (n : Int) := ⟨hwf.low, hwf.most⟩
 obtain ⟨iv, hiv, eiv, hid, hab⟩ := GS.vol hv
 subst hab
 obtain ⟨gv, hgv⟩ : ∃ gv, f.vols[iv] = gv := ⟨_, rfl⟩
 rw [hgv] at hid hv
 have hwv : WFV n gv.abs := hwf.vol c.a _ hv
 have hfl := wEc hwv
 have hgo : gv.Ok M := hgv ▸ hf.all _ (List.getElem_mem hiv)
 have hnd : (wBg (flsOf' gv.files)).Nodup := hwv.wf.nd
 obtain ⟨vb, vo, ev, hvx⟩ := wDh wBy hf.va hiv (by omega)
 rw [hgv] at hvx
 refine wAe (vs := [_, _]) 111 _ Tryz.func25 rfl Tryz.ntmps25 rfl rfl ?_; intro W
 refine wAb (wAa (sBx [_, _] rfl fun b2 => ?_))
 refine sBx [_, _, _, _, _, _, _] rfl fun b3 => ?_
 refine sAl rfl fun b4 => ?_
 refine sAl rfl fun b5 => ?_
 refine wAc (jT (wAb (wAa (sLL rfl ?_))))
 refine wCe rfl rfl (hCl (wFd f M hf hsz1 hsz2)) ?_; rintro _ M2 _ ⟨hM2, _, rfl, ⟨vs, va2, vc2, Rv, rfl, hvs, hown, hall, rfl⟩⟩
 have hlenvs : vs.length = f.vols.length := by have := congrArg List.length hvs; simpa using this
 refine wHo hall ?_
 intro M3 hM3 hvok
 have hM23 := hM2.trans hM3
 obtain ⟨hiv2, hpi, hpa⟩ := tw_at hvs hiv
 rw [hgv] at hpi hpa
 obtain ⟨p, hp⟩ : ∃ p, (vs[iv]).1 = p := ⟨_, rfl⟩
 rw [hp] at hpi hpa
 have hvq : (vsF vs)[iv]? = some p := by rw [List.getElem?_map, List.getElem?_eq_getElem hiv2, Option.map_some, hp]
 obtain ⟨vb2, c2, sp, e1, rfl, k1, k2, k3⟩ := hown.opn (by omega)
 simp only [Value.slice.injEq] at e1
 obtain ⟨rfl, _, rfl⟩ := e1
 refine sAl rfl fun b6 => ?_
 refine sSt rfl ?_
 refine wAc (jT (wAb (wAb (wAa (sFL rfl rfl ?_)))))
 refine jf rfl (decide_eq_false (by omega)) ?_
 refine wAc (jT (wAh rfl (wAd (jT (wAb (wAb (wAa (sFL rfl rfl ?_))))))))
 refine jt rfl (decide_eq_true (by omega)) ?_
 refine jp rfl (sFL rfl rfl ?_)
 refine lq (qEq (qCl (wEh c.b 0 1 M3)) (v' := .bool true) (by rw [hb])) ?_
 refine jp rfl (jp rfl (wAc (jT (wAh rfl (wAd (jT (wAb (wAa (sLL rfl ?_)))))))))
 refine sFL rfl rfl ?_
 refine lq (qEq (v' := .int .i64 (iv : Int)) (qCl (wFi f c.a M3 (hf.mono hM23) (by omega))) (by rw [eiv])) ?_
 refine jp rfl (wAc (jT (wAb (wAb (wAa (jp rfl (jf rfl (decide_eq_false (by omega)) ?_)))))))
 refine wAc (jT (wAh rfl (wAd (jT (wAb (wAb (wAa (sFL rfl rfl ?_))))))))
 refine wAc (jT (wAk (wAb (wAa (jf rfl (decide_eq_false (by omega)) ?_)))))
 refine jp rfl (wAc (jT (wAh rfl (wAb (wAa (jt rfl (decide_eq_true (by omega)) ?_))))))
 refine jp rfl (wAc (jT (wAf rfl (wAa (sFL rfl rfl ?_)))))
 refine jp rfl (sFL rfl rfl ?_)
 refine jp rfl (lq (wAp rfl rfl rfl rfl rfl (by omega)) ?_)
 refine sFa rfl ?_
 refine jl_s rfl (wBw (l2 := ((vsF vs).set iv ({ p with frozen := decide (c.b = 1) } : GV)).flatMap gvC ++ sp) rfl rfl rfl rfl rfl rfl rfl (wDj wBy hvq (Nat.le_of_ble_eq_true rfl)) (wDi wBy hvq (Nat.le_of_ble_eq_true rfl) rfl)) ?_; rintro _ _ _ ⟨rfl, rfl⟩
 refine wAc (jB (jT (wAb (wAa (sLL rfl ?_)))))
 refine lq (wBe (cs := [_, _, _, _, _, _, _, _]) rfl rfl rfl (by rfl)) ?_
 refine sSt rfl ?_
 refine sSt rfl ?_
 refine wAc (jT (wAg (wCt vb2 (by simp) ?_)))
 intro M11 hM11 e11
 refine wEj (rs := [_, _]) rfl (.cons (.agg rfl rfl rfl) (.cons (.agg rfl rfl rfl) .nil)) ?_
 have hpo := hvok _ (List.getElem_mem hiv2)
 rw [hp] at hpo
 have hpo2 := hpo.mono hM11
 refine RDoP.vol hwf hvs hiv2 (by rw [hp, hpi, hid]) (v2 := ({ p with frozen := decide (c.b = 1) } : GV)) (by rw [hpi, hid]) e11 k1 (fun i hi hne => (hvok _ (List.getElem_mem hi)).mono hM11) ⟨hpo2.fa, hpo2.fc, hpo2.all⟩ (rp := {}) ?_ rfl rfl
 unfold wEa; rw [if_pos hb, hv]; simp only; congr 3
 show _ = ({ frozen := decide (c.b = 1), next := p.next, files := flsOf' p.files } : PV)
 rw [show p.next = gv.next from congrArg PV.next hpa, show flsOf' p.files = flsOf' gv.files from congrArg PV.files hpa]; rfl
set_option maxHeartbeats 4000000 in
theorem ov_delete (f : GS) (n : Nat) (hwf : WFS n f.abs) (hn : n ≤ 100) (M : Mem) (hf : f.Ok M) (c : CL) (ca : Option Addr) (ck : Nat) (hC : CallOk M c ca ck) (hk : c.kind = 4) (v : PV) (hv : wAm c.a f.abs.vols = some v) :
  SpecL Tryz.prog 25 #[gsV f, clV c ca ck] M [] (RDoP (wEu f.abs c)) := by
 have hvl := wBh hwf
 obtain ⟨hsz1, hsz2⟩ := wCy hwf hf hn
 have hmade : 0 ≤ f.made ∧ f.made ≤ (n : Int) := ⟨hwf.low, hwf.most⟩
 obtain ⟨iv, hiv, eiv, hid, hab⟩ := GS.vol hv
 subst hab
 obtain ⟨gv, hgv⟩ : ∃ gv, f.vols[iv] = gv := ⟨_, rfl⟩
 rw [hgv] at hid hv
 have hwv : WFV n gv.abs := hwf.vol c.a _ hv
 have hfl := wEc hwv
 have hgo : gv.Ok M := hgv ▸ hf.all _ (List.getElem_mem hiv)
 have hnd : (wBg (flsOf' gv.files)).Nodup := hwv.wf.nd
 obtain ⟨vb, vo, ev, hvx⟩ := wDh wBy hf.va hiv (by omega)
 rw [hgv] at hvx
 refine wAe (vs := [_, _]) 111 _ Tryz.func25 rfl Tryz.ntmps25 rfl rfl ?_; intro W
 refine wAb (wAa (sBx [_, _] rfl fun b2 => ?_))
 refine sBx [_, _, _, _, _, _, _] rfl fun b3 => ?_
 refine sAl rfl fun b4 => ?_
 refine sAl rfl fun b5 => ?_
 refine wAc (jT (wAb (wAa (sLL rfl ?_))))
 refine wCe rfl rfl (hCl (wFd f M hf hsz1 hsz2)) ?_; rintro _ M2 _ ⟨hM2, _, rfl, ⟨vs, va2, vc2, Rv, rfl, hvs, hown, hall, rfl⟩⟩
 have hlenvs : vs.length = f.vols.length := by have := congrArg List.length hvs; simpa using this
 refine wHo hall ?_
 intro M3 hM3 hvok
 have hM23 := hM2.trans hM3
 obtain ⟨hiv2, hpi, hpa⟩ := tw_at hvs hiv
 rw [hgv] at hpi hpa
 obtain ⟨p, hp⟩ : ∃ p, (vs[iv]).1 = p := ⟨_, rfl⟩
 rw [hp] at hpi hpa
 refine jl_own hown (by simp) ?_
 intro M4 a4 c4 hM4 e4 hc4 hs4
 simp only [Value.slice.injEq] at e4
 obtain ⟨rfl, _, rfl⟩ := e4
 have hvl2 : ((vsF vs).flatMap gvC).length = vs.length * 4 := by rw [wDr gvC 4 wBy, List.length_map]
 refine sAl rfl fun b6 => ?_
 refine sSt rfl ?_
 refine wAc (jT (wAb (wAb (wAa (sFL rfl rfl ?_)))))
 refine jf rfl (decide_eq_false (by omega)) ?_
 refine wAc (jT (wAh rfl (wAd (jT (wAb (wAb (wAa (sFL rfl rfl ?_))))))))
 refine jf rfl (decide_eq_false (by omega)) ?_
 refine jp rfl (jp rfl (jp rfl (jp rfl (jp rfl (jp rfl (wAc (jT (wAh rfl (wAd (jT (wAb (wAa (sLL rfl ?_)))))))))))))
 refine sFL rfl rfl ?_
 refine lq (qEq (v' := .int .i64 (iv : Int)) (qCl (wFi f c.a M4 ((hf.mono hM23).mono hM4) (by omega))) (by rw [eiv])) ?_
 refine jp rfl (wAc (jT (wAb (wAb (wAa (jp rfl (jf rfl (decide_eq_false (by omega)) ?_)))))))
 refine wAc (jT (wAh rfl (wAd (jT (wAb (wAb (wAa (sFL rfl rfl ?_))))))))
 refine wAc (jT (wAk (wAb (wAa (jf rfl (decide_eq_false (by omega)) ?_)))))
 refine jp rfl (wAc (jT (wAh rfl (wAb (wAa (jf rfl (decide_eq_false (by omega)) ?_))))))
 refine jp rfl (wAc (jT (wAh rfl (wAb (wAa (jt rfl (decide_eq_true (by omega)) ?_))))))
 refine jp rfl (wAc (jT (wAf rfl (wAb (wAa (jp rfl (wAc (jT (wAb (wAa (jp rfl (sFL rfl rfl ?_))))))))))))
 refine jp rfl ?_
 refine lq (qEq (v' := .slice va2 iv vc2) (qSl rfl rfl rfl (.no _) (.of rfl (by omega) (Int.toNat_natCast _)) (.no _) (by omega) (by simp)) (by rw [wCo]; rfl)) ?_
 refine wCe rfl rfl (wLp (R := []) (news := ((vsF vs).take iv).flatMap gvC) rfl rfl rfl rfl (Own.nil _ _) (by rw [wDr gvC 4 wBy, List.length_take, List.length_map]; congr 1; omega) (by rw [flat_take wBy]; exact SM.take hs4 _) rfl (gvC_one _) (by omega) (by omega)) ?_; rintro v8 _ _ ⟨rfl, R8, rfl, hown8⟩
 refine jp rfl (wAc (jT (wAa (jp rfl (sFL rfl rfl ?_)))))
 refine jp rfl (ja rfl (by omega) ?_)
 refine lq (qSl rfl rfl rfl (.no _) (.no _) (.of rfl (by omega) (show ((iv : Int) + 1).toNat = iv + 1 by omega)) (by omega) (by simp)) ?_
 refine wCe rfl rfl (wLp (R := R8) (news := ((vsF vs).drop (iv + 1)).flatMap gvC) rfl rfl rfl rfl hown8 (by rw [wDr gvC 4 wBy, List.length_drop, List.length_map]) (by rw [flat_drop wBy]; exact SM.dropS hs4 hvl2 (by omega) hc4) rfl (gvC_one _) (by omega) (by omega)) ?_; rintro v7 _ _ ⟨rfl, R7, rfl, hown7⟩
 obtain ⟨a7, c7, rfl⟩ := hown7.form
 refine sFa rfl ?_
 refine sSt rfl ?_
 refine wAc (jB (jT (wAb (wAa (sLL rfl ?_)))))
 refine lq (wBe (cs := [_, _, _, _, _, _, _, _]) rfl rfl rfl (by rfl)) ?_
 refine sSt rfl ?_
 refine sSt rfl ?_
 refine wAc (jT (wAg (wLk hown7 (by simp) ?_)))
 intro M10 a10 c10 hM10 e10 hc10 hs10
 simp only [Value.slice.injEq] at e10
 obtain ⟨rfl, _, rfl⟩ := e10
 refine wEj (rs := [_, _]) rfl (.cons (.agg rfl rfl rfl) (.cons (.agg rfl rfl rfl) .nil)) ?_
 have hnl : ((vsF vs).take iv ++ (vsF vs).drop (iv + 1)).length = iv + (vs.length - (iv + 1)) := by rw [List.length_append, List.length_take, List.length_drop, List.length_map]; omega
 refine ⟨{ made := f.made, vols := (vsF vs).take iv ++ (vsF vs).drop (iv + 1), va := a7, vc := c7 }, .slice none 0 0, .slice none 0 0, ?_, ⟨?_, ?_, ?_⟩, ?_, ?_, ?_, rfl⟩
 ·show _ = Value.tuple #[.agg [_, .slice _ ((vsF vs).take iv ++ (vsF vs).drop (iv + 1)).length _].toArray, _]; rw [hnl]; unfold wEu; rw [hv]; rfl
 ·show SM M10 a7 (((vsF vs).take iv ++ (vsF vs).drop (iv + 1)).flatMap gvC); rw [List.flatMap_append]; simpa using hs10
 ·show ((vsF vs).take iv ++ (vsF vs).drop (iv + 1)).length ≤ c7; rw [hnl]; omega
 ·intro q hq
  have hq2 : q ∈ vsF vs := by
   rcases List.mem_append.1 hq with h | h
   ·exact List.mem_of_mem_take h
   exact List.mem_of_mem_drop h
  obtain ⟨p2, hp2, rfl⟩ := List.mem_map.1 hq2
  exact ((hvok p2 hp2).mono hM4).mono hM10
 ·have hi2 : iv < f.abs.vols.length := by simpa [GS.abs] using hiv
  have hd := delA_at hwf.nd hi2 (k := c.a) (by simpa [GS.abs, hgv] using hid)
  unfold wEu; rw [hv]; simp only; rw [hd]
  show ({ next := f.made, vols := wAv ((vsF vs).take iv ++ (vsF vs).drop (iv + 1)) } : PS) = { next := f.made, vols := (wAv f.vols).take iv ++ (wAv f.vols).drop (iv + 1) }
  rw [← hvs, wAv, List.map_append, List.map_take, List.map_drop]
 ·unfold wEu; rw [hv]; exact BsP.nil
 unfold wEu; rw [hv]; exact NsP.nil
end Go.Proofs.YtokljhkplbkggaaGreatDoor
