/- Walks: volumes that are made. -/
import Derived.Test.YtokljhkplbkggaaGreatDoorZOpsc
import Derived.Test.YtokljhkplbkggaaGreatDoorZHo
namespace Go.Proofs.YtokljhkplbkggaaGreatDoor
set_option linter.unusedSimpArgs false
set_option linter.unusedVariables false
set_option linter.unusedSectionVars false
open Go.RowKit Go.MapKept
theorem sub_list {α : Type} : ∀ (A L : List α), (∀ f : α → Nat, (A.map f).sum ≤ (L.map f).sum) → ∃ G, L.Perm (A ++ G)
 | [], L, _ => ⟨L, List.Perm.refl _⟩
 | a :: A, L, h => by
  classical
  have hm : a ∈ L := by
   refine Classical.byContradiction fun hn => ?_
   have h1 := h fun x => if x = a then 1 else 0
   have h2 : ∀ (l : List α), a ∉ l → (l.map fun x => if x = a then 1 else 0).sum = 0 := fun l => by
    induction l with
    | nil => intro _; rfl
    | cons y l ih => intro hy; simp only [List.mem_cons, not_or] at hy; rw [List.map_cons, List.sum_cons, ih hy.2, if_neg (Ne.symm hy.1)]
   rw [h2 L hn] at h1
   simp at h1
  obtain ⟨X, Y, rfl⟩ := List.append_of_mem hm
  obtain ⟨G, hG⟩ := sub_list A (X ++ Y) fun f => by
   have := h f
   simp only [List.map_append, List.map_cons, List.sum_append, List.sum_cons] at this ⊢
   omega
  exact ⟨G, List.perm_middle.trans (List.Perm.cons a hG)⟩
theorem St.subC {E : Ent} {M : Mem} {L L' : Lc} {w : World} (h : St E M L w) (hc : ∀ f : Nat × Obj → Nat, (L'.map f).sum ≤ (L.map f).sum) : St E M L' w := by
 obtain ⟨G, hG⟩ := sub_list _ _ hc
 exact (h.perm hG).fewer (List.sublist_append_left _ _)
theorem perm_sum {L L' : Lc} (h : L.Perm L') (f : Nat × Obj → Nat) : (L.map f).sum = (L'.map f).sum := (h.map f).sum_nat
theorem putA_putG {κ α : Type} [DecidableEq κ] {k : κ} {u v : α} : ∀ {l : List (κ × α)}, wBq k v (wBq k u l) = wBq k v l
 | [] => by simp [wBq]
 | p :: l => by
  rw [wBq]
  by_cases h : k = p.1
  ·rw [if_pos h, wBq, wBq, if_pos rfl, if_pos h]
  rw [if_neg h, wBq, wBq, if_neg h, if_neg h, putA_putG]
theorem create_foc {S : CS} {vol d : Int} {v : CV} {xd : CF} {nmb : Nat} {nmo : Obj} (hv : wAm vol S.vols = some v) (hxd : wAm d v.files = some xd) (e2 : xd.nR = [(nmb, nmo)]) : ∃ R : Lc,
  (S.setV vol { v with next := v.next + 1 }).own.Perm ((v.mb, v.mo) :: (nmb, nmo) :: (v.b, vObj { v with next := v.next + 1 }) :: (xd.b, fObj xd) :: R) ∧
  ∀ (mo2 nmo2 : Obj) (ns : List (Str × Int)) (id : Int) (xn : CF), (S.setV vol { v with next := v.next + 1, mo := mo2, files := wBq d { xd with nR := [(nmb, nmo2)], pf := { xd.pf with names := ns } } v.files ++ [(id, xn)] }).own.Perm ((v.mb, mo2) :: (nmb, nmo2) :: (v.b, vObj { v with next := v.next + 1 }) :: (xd.b, fObj xd) :: (xn.own ++ R)) := by
 obtain ⟨R, h1, h2⟩ := CS.focV hv
 obtain ⟨A, B, hAB, hA⟩ := wCf hxd
 refine ⟨xd.dR ++ (wJr (A ++ B) ++ R), ?_, fun mo2 nmo2 ns id xn => ?_⟩
 ·refine (h2 _).trans (((CV.foc (v := { v with next := v.next + 1 }) hAB).append_right R).trans ?_)
  refine wJq fun f => ?_
  unfold CF.own; rw [e2]
  simp only [List.map_append, List.sum_append, List.map_cons, List.map_nil, List.sum_cons, List.sum_nil, List.cons_append]; omega
 refine (h2 _).trans (((CV.foc (A := A) (B := B ++ [(id, xn)]) (id := d) (x := { xd with nR := [(nmb, nmo2)], pf := { xd.pf with names := ns } }) (by simp only; rw [hAB, wFa hA]; simp)).append_right R).trans ?_)
 refine wJq fun f => ?_
 unfold CF.own wJr
 simp only [List.map_append, List.sum_append, List.map_cons, List.map_nil, List.sum_cons, List.sum_nil, List.cons_append, List.flatMap_append, List.flatMap_cons, List.flatMap_nil]
 unfold CF.own fObj vObj
 simp only [List.map_append, List.sum_append, List.map_cons, List.map_nil, List.sum_cons, List.sum_nil, List.cons_append]
 omega
theorem create_ok2 {S : CS} (hS : S.Ok) {vol d : Int} {v : CV} {xd : CF} {nmb : Nat} {nmo2 mo2 : Obj} {s : Str} {xn : CF} (hv : wAm vol S.vols = some v) (hxd : wAm d v.files = some xd) (hdd : xd.pf.dir = true) (e1 : xd.nm = .map (some nmb))
  (hnew : wAm v.next v.files = none) (hmo : MapOf kU mo2 (wBq v.next (pt xn.b) (ptF v.files))) (hnm : MapOf kS nmo2 ((wBq s v.next xd.pf.names).map fun q => (q.1, .int .u32 q.2))) (hxn : xn.Ok) :
  (S.setV vol { v with next := v.next + 1, mo := mo2, files := wBq d { xd with nR := [(nmb, nmo2)], pf := { xd.pf with names := wBq s v.next xd.pf.names } } v.files ++ [(v.next, xn)] }).Ok ∧
  (S.setV vol { v with next := v.next + 1, mo := mo2, files := wBq d { xd with nR := [(nmb, nmo2)], pf := { xd.pf with names := wBq s v.next xd.pf.names } } v.files ++ [(v.next, xn)] }).abs = { S.abs with vols := wBq vol { v.abs with next := v.next + 1, files := wEb (v.abs.files ++ [(v.next, xn.pf)]) d s v.next } S.abs.vols } := by
 refine ⟨hS.setV (v' := { v with next := v.next + 1, mo := mo2, files := wBq d { xd with nR := [(nmb, nmo2)], pf := { xd.pf with names := wBq s v.next xd.pf.names } } v.files ++ [(v.next, xn)] }) hv rfl ⟨?_, fun p hp => ?_⟩, ?_⟩
 ·simp only
  have h1 := putA_ptF (v' := { xd with nR := [(nmb, nmo2)], pf := { xd.pf with names := wBq s v.next xd.pf.names } }) hxd rfl
  have h2 : ptF (wBq d { xd with nR := [(nmb, nmo2)], pf := { xd.pf with names := wBq s v.next xd.pf.names } } v.files ++ [(v.next, xn)]) = ptF v.files ++ [(v.next, pt xn.b)] := by
   rw [← h1]; unfold ptF; rw [List.map_append]; rfl
  rw [h2, ← wEy (getA_none.1 (by rw [ptF_get, hnew]; rfl))]
  exact hmo
 ·rcases List.mem_append.1 hp with hp | hp
  ·rcases mem_putA p hp with rfl | hp
   ·exact ⟨((hS.v hv).x hxd).byt, .inl ⟨hdd, nmb, nmo2, e1, rfl, hnm⟩⟩
   exact (hS.v hv).fs p hp
  rw [List.mem_singleton.1 hp]; exact hxn
 rw [abs_setV]
 congr 2
 unfold CV.abs
 simp only [PV.mk.injEq, true_and]
 have hxa : wAm d (wEf v.files) = some xd.pf := by rw [wBs, hxd]; rfl
 obtain ⟨A, B, hAB, hA⟩ := wCf hxa
 have h1 : wAm d (wEf v.files ++ [(v.next, xn.pf)]) = some xd.pf := by rw [hAB, List.append_assoc, List.cons_append]; exact getA_mid hA
 unfold wEb; rw [wJi h1]
 unfold wEf at hAB ⊢
 rw [List.map_append, putA_map (fun x : CF => x.pf)]
 rw [hAB]; simp only [List.append_assoc, List.cons_append, wFa hA]; rfl
theorem vol_new {n : Nat} {S : CS} (hwf : WFS n S.abs) {vol : Int} {v : CV} (hv : wAm vol S.vols = some v) : wAm v.next v.files = none ∧ 2 ≤ v.next ∧ v.next ≤ 2 + n := by
 have hw := hwf.vol vol v.abs (by rw [wBp, hv]; rfl)
 refine ⟨?_, hw.two, hw.most⟩
 cases h : wAm v.next v.files with
 | none => rfl
 | some x =>
  have := hw.rng v.next x.pf (by show wAm v.next (wEf v.files) = _; rw [wBs, h]; rfl)
  have h2 : v.next < v.next := this.2.1
  omega
theorem create_e (S : CS) (hS : S.Ok) (n : Nat) (hwf : WFS n S.abs) (hn : n ≤ 100) (M : Mem) (c : CL) (ca : Option Addr) (ck : Nat) (hC : CallOk M c ca ck) (w : Wy) (na : Option Addr) (nc : Nat) (hW : WyOk M w na nc) (o : Wy) (oa : Option Addr) (oc : Nat) (hO : WyOk M o oa oc) (e : Int) (hf : wBo S.abs w w.1 none = .error e) :
  SpecL Tryz.prog 41 #[pt S.b, clV c ca ck, wyV w na nc, wyV o oa oc] M S.own fun u M' L' => OpP S.b (wDg S.abs c w) u M' L' := by
 refine SpecL.mem fun hnd hdis => ?_
 have hVa := wBf (M := M) hnd
 have hMa := wBk hdis
 have hVw : ∀ L, SubL S.own L → Vw M L S.own := fun L h => Vw.of
 have he := freshS_err hwf hf
 refine wAe (vs := [_, _, _, _]) 84 _ Tryz.func41 rfl Tryz.ntmps41 rfl rfl ?_; intro W
 refine wAb (wAa (sBx [_, _, _, _, _, _, _] rfl fun b5 => ?_))
 refine sBx [_, _] rfl fun b6 => ?_
 refine sBx [_, _] rfl fun b7 => ?_
 refine sAl rfl fun b8 => ?_
 refine wAc (jT (wAb (wAa (jp rfl (sLL rfl ?_)))))
 refine sFL rfl rfl ?_
 refine lq (qEq (wBm (R := S.own) rfl rfl rfl rfl rfl (by kernel_rfl) (SubL.sub) (wEe S hS n hwf (wDu M S.own) hVa w na nc (hW.mono hMa) w.1 none (.pointer none) hnd (fun _ => .inl ⟨rfl, rfl⟩))) (by rw [hf]; try rfl)) ?_
 iterate 7 refine jp rfl ?_
 refine wAc (jT (wAb (wAb (wAa (jp rfl (jf rfl (decide_eq_false (by omega)) ?_))))))
 refine wAc (jT (wAh rfl (wAd (jT (wAb (wAb (wAa (jp rfl (jt rfl (decide_eq_true (by omega)) ?_)))))))))
 refine wAc (jT (wAf rfl (wAb (wAa (jp rfl (lq (qCl (wAt e M)) ?_))))))
 refine sSt rfl ?_
 refine wAc (jT (wAg (jTr (wFu (rs := [_]) (S.own) rfl (.cons (.agg rfl rfl rfl) .nil) ?_))))
 have hr : wDg S.abs c w = (S.abs, wCa e) := by
  unfold wDg; rw [hf]
 rw [hr]; exact OpP.plain (r := (S.abs, _)) hS rfl rfl rfl rfl
theorem create_frz (S : CS) (hS : S.Ok) (n : Nat) (hwf : WFS n S.abs) (hn : n ≤ 100) (M : Mem) (c : CL) (ca : Option Addr) (ck : Nat) (hC : CallOk M c ca ck) (w : Wy) (na : Option Addr) (nc : Nat) (hW : WyOk M w na nc) (o : Wy) (oa : Option Addr) (oc : Nat) (hO : WyOk M o oa oc) (d : Int) (hfr : wBo S.abs w w.1 none = .ok d) (v : CV) (xd : CF) (hv : wAm w.1 S.vols = some v) (hxd : wAm d v.files = some xd) (hf : wAr S.abs w.1 = true) :
  SpecL Tryz.prog 41 #[pt S.b, clV c ca ck, wyV w na nc, wyV o oa oc] M S.own fun u M' L' => OpP S.b (wDg S.abs c w) u M' L' := by
 refine SpecL.mem fun hnd hdis => ?_
 have hVa := wBf (M := M) hnd
 have hMa := wBk hdis
 have hVw : ∀ L, SubL S.own L → Vw M L S.own := fun L h => Vw.of
 refine wAe (vs := [_, _, _, _]) 84 _ Tryz.func41 rfl Tryz.ntmps41 rfl rfl ?_; intro W
 refine wAb (wAa (sBx [_, _, _, _, _, _, _] rfl fun b5 => ?_))
 refine sBx [_, _] rfl fun b6 => ?_
 refine sBx [_, _] rfl fun b7 => ?_
 refine sAl rfl fun b8 => ?_
 refine wAc (jT (wAb (wAa (jp rfl (sLL rfl ?_)))))
 refine sFL rfl rfl ?_
 refine lq (qEq (v' := .tuple #[.int .u32 d, pt xd.b, .int .i64 0]) (wBm (R := S.own) rfl rfl rfl rfl rfl (by kernel_rfl) (SubL.sub) (wEe S hS n hwf (wDu M S.own) hVa w na nc (hW.mono hMa) w.1 none (.pointer none) hnd (fun _ => .inl ⟨rfl, rfl⟩))) (by rw [hfr]; exact wBj hv hxd)) ?_
 iterate 7 refine jp rfl ?_
 refine wAc (jT (wAb (wAb (wAa (jp rfl (jt rfl (decide_eq_true (by omega)) ?_))))))
 refine wAc (jT (wAf rfl (wAa (jp rfl (sFL rfl rfl ?_)))))
 refine lq (qEq (v' := .int .i64 170) (wBm (R := S.own) rfl rfl rfl rfl rfl (by kernel_rfl) (SubL.sub) (wDc S hS n hwf (wDu M S.own) hVa w.1 v hv)) (by rw [hf]; rfl)) ?_
 refine jp rfl (wAc (jT (wAb (wAb (wAa (jp rfl (jt rfl (decide_eq_true (by omega)) ?_)))))))
 refine wAc (jT (wAf rfl (wAb (wAa (jp rfl (lq (qCl (wAt 170 M)) ?_))))))
 refine sSt rfl ?_
 refine wAc (jT (wAg (jTr (wFu (rs := [_]) (S.own) rfl (.cons (.agg rfl rfl rfl) .nil) ?_))))
 have hr : wDg S.abs c w = (S.abs, wCa 170) := by
  unfold wDg; rw [hfr]; simp only; rw [hf]; rfl
 rw [hr]; exact OpP.plain (r := (S.abs, _)) hS rfl rfl rfl rfl
set_option maxHeartbeats 1000000 in
theorem create_ok (S : CS) (hS : S.Ok) (n : Nat) (hwf : WFS n S.abs) (hn : n ≤ 100) (M : Mem) (c : CL) (ca : Option Addr) (ck : Nat) (hC : CallOk M c ca ck) (w : Wy) (na : Option Addr) (nc : Nat) (hW : WyOk M w na nc) (o : Wy) (oa : Option Addr) (oc : Nat) (hO : WyOk M o oa oc) (d : Int) (hfr : wBo S.abs w w.1 none = .ok d) (v : CV) (xd : CF) (hv : wAm w.1 S.vols = some v) (hxd : wAm d v.files = some xd) (hdd : xd.pf.dir = true) (hno : wAm (wAi w) xd.pf.names = none) (hne : w.2 ≠ []) (hf : wAr S.abs w.1 = false) :
  SpecL Tryz.prog 41 #[pt S.b, clV c ca ck, wyV w na nc, wyV o oa oc] M S.own fun u M' L' => OpP S.b (wDg S.abs c w) u M' L' := by
 refine SpecL.mem fun hnd hdis => ?_
 have hVa := wBf (M := M) hnd
 have hMa := wBk hdis
 have hVw : ∀ L, SubL S.own L → Vw M L S.own := fun L h => Vw.of
 obtain ⟨nmb, nmo, e1, e2, e3⟩ := ((hS.v hv).x hxd).map hdd
 obtain ⟨hnew, hn2, hn3⟩ := vol_new hwf hv
 refine wAe (vs := [_, _, _, _]) 84 _ Tryz.func41 rfl Tryz.ntmps41 rfl rfl ?_; intro W
 refine wAb (wAa (sBx [_, _, _, _, _, _, _] rfl fun b5 => ?_))
 refine sBx [_, _] rfl fun b6 => ?_
 refine sBx [_, _] rfl fun b7 => ?_
 refine sAl rfl fun b8 => ?_
 refine wAc (jT (wAb (wAa (jp rfl (sLL rfl ?_)))))
 refine sFL rfl rfl ?_
 refine lq (qEq (v' := .tuple #[.int .u32 d, pt xd.b, .int .i64 0]) (wBm (R := S.own) rfl rfl rfl rfl rfl (by kernel_rfl) (SubL.sub) (wEe S hS n hwf (wDu M S.own) hVa w na nc (hW.mono hMa) w.1 none (.pointer none) hnd (fun _ => .inl ⟨rfl, rfl⟩))) (by rw [hfr]; exact wBj hv hxd)) ?_
 iterate 7 refine jp rfl ?_
 refine wAc (jT (wAb (wAb (wAa (jp rfl (jt rfl (decide_eq_true (by omega)) ?_))))))
 refine wAc (jT (wAf rfl (wAa (jp rfl (sFL rfl rfl ?_)))))
 refine lq (qEq (v' := .int .i64 0) (wBm (R := S.own) rfl rfl rfl rfl rfl (by kernel_rfl) (SubL.sub) (wDc S hS n hwf (wDu M S.own) hVa w.1 v hv)) (by rw [hf]; rfl)) ?_
 refine jp rfl (wAc (jT (wAb (wAb (wAa (jp rfl (jf rfl (decide_eq_false (by omega)) ?_)))))))
 refine wAc (jT (wAh rfl (wAd (jT (wAb (wCw [(0, true), (1, true), (2, true), (3, true), (4, true), (5, true), (6, true), (7, true)] _ (fun _ h => h) ?_))))))
 refine dp rfl rfl ?_
 refine dq rfl (wAj rfl rfl rfl) ?_
 refine dFa rfl rfl ?_
 refine dq rfl (qLd rfl rfl rfl rfl ((Vw.s Vw.of).cj rfl)) ?_
 refine dFa rfl rfl ?_
 refine dLd rfl rfl ?_
 refine dq rfl (qEq (v' := pt v.b) (wDk kI (z := .pointer none) rfl rfl rfl rfl (by kernel_rfl) (Vw.mo Vw.of) hS.mo) (by rw [wEv, hv]; try rfl)) ?_
 refine dp rfl rfl ?_
 refine wAs (jPn (jT (wAb (wAa (lq (wBe (cs := [_, _, _, _]) rfl rfl rfl (by rfl)) ?_)))))
 refine sBx [_, _, _, _] rfl fun b42 => ?_
 refine jp rfl (wAc (jT (wAb (wAb (wAa (sFL rfl rfl ?_))))))
 refine js rfl (fun h45 => ?_) (fun h45 => ?_)
 ·refine wAc (jT (wAf rfl (wAa (jp rfl (jp rfl (wCe rfl rfl (wHp rfl rfl) ?_)))))); rintro _ _ _ ⟨b48, rfl, rfl, rfl⟩
  refine lq (wAj rfl rfl rfl) ?_
  refine sFa rfl ?_
  refine sSt rfl ?_
  refine lq (wAj rfl rfl rfl) ?_
  refine sFa rfl ?_
  refine sSt rfl ?_
  refine wAc (jT (wAb (wAa (jp rfl (lq (wAj rfl rfl rfl) ?_)))))
  refine sFa rfl ?_
  refine lq (qLd rfl rfl rfl rfl ((Vw.v (Vw.vol Vw.of hv)).cj rfl)) ?_
  refine jp rfl (wAc (jT (wAb (wAa (jp rfl (lq (wAj rfl rfl rfl) ?_))))))
  refine sFa rfl ?_
  refine lq (qLd rfl rfl rfl rfl ((Vw.v (Vw.vol Vw.of hv)).cj rfl)) ?_
  refine lq (qAk rfl rfl rfl rfl rfl (by rw [IntKind.wrap_u32]; omega)) ?_
  refine lq (wAj rfl rfl rfl) ?_
  refine sFa rfl ?_
  refine jl_s rfl (hStV { v with next := v.next + 1 } rfl rfl rfl rfl rfl rfl (by omega) hv rfl rfl rfl rfl rfl) ?_; rintro _ _ _ ⟨rfl, rfl⟩
  refine wAc (jT (wAb ?_))
  obtain ⟨R, hp1, hp2⟩ := create_foc hv hxd e2
  refine jc_weak (L' := (v.mb, v.mo) :: (nmb, nmo) :: (v.b, vObj { v with next := v.next + 1 }) :: (xd.b, fObj xd) :: (R ++ _)) (fun _ h => h.perm (hp1.append_right _)) ?_
  refine wBn (p := { A := fun i => !([13, 15, 16, 18].contains i), U := fun i => !([11, 12, 13, 14, 15, 16, 17, 18].contains i) }) [(0, true), (1, true), (2, true), (3, true), (4, true), (5, true), (6, true), (7, true), (8, true), (9, true), (10, true), (11, true), (12, true), (13, false), (14, true), (15, false), (16, false), (17, true), (18, false)] _ (_) ([]) (by kernel_rfl) (by kernel_rfl) (by kernel_rfl) (by kernel_rfl) rfl (fun _ h => h) (MLe.refl _) (by simp) ?_
  refine dp rfl rfl ?_
  refine dq rfl (wAj rfl rfl rfl) ?_
  refine dFa rfl rfl ?_
  refine dq rfl (qLd rfl rfl rfl rfl (OJ.cj OJ.of rfl)) ?_
  iterate 2 refine dp rfl rfl ?_
  refine dq rfl (wAj rfl rfl rfl) ?_
  refine dFa rfl rfl ?_
  refine dq rfl (qEq (qLd rfl rfl rfl rfl (OJ.cj OJ.of rfl)) e1) ?_
  refine dLL rfl rfl ?_
  refine dq rfl (qCl (wEx w na nc M hW.sn hne hW.big)) ?_
  iterate 2 refine dp rfl rfl ?_
  refine jd_eh rfl rfl rfl (wKc kU (z := .pointer none) rfl rfl rfl rfl (by kernel_rfl) (hS.v hv).mo) ?_; rintro _ _ _ ⟨rfl, mo2, born1, rfl, rfl, hmo2, hst2⟩
  refine ⟨MLe.refl _, by simp, ?_⟩
  refine ep rfl rfl ?_
  refine je_s rfl rfl (wHb kU rfl rfl rfl rfl rfl hmo2 hst2) ?_; rintro _ _ _ ⟨rfl, mo3, rfl, hmo3⟩
  refine ⟨MLe.refl _, by simp, ?_⟩
  rw [putA_put] at hmo3
  refine je_h rfl rfl rfl (wKc kS (z := .int .u32 0) rfl rfl rfl rfl (by kernel_rfl) e3) ?_; rintro _ _ _ ⟨rfl, nmo2, born2, rfl, rfl, hnm2, hst3⟩
  refine ⟨MLe.refl _, by simp, ?_⟩
  refine ep rfl rfl ?_
  refine je_s rfl rfl (wHb kS rfl rfl rfl rfl rfl hnm2 hst3) ?_; rintro _ _ _ ⟨rfl, nmo3, rfl, hnm3⟩
  refine ⟨MLe.refl _, by simp, ?_⟩
  rw [putA_putG] at hnm3
  refine wCu ?_
  refine jPn (jT (wAb (wAa (jp rfl (lq (qConv64 rfl rfl rfl (by omega)) ?_)))))
  refine lq (wBe (cs := [_, _, _, _, _, _, _, _]) rfl rfl rfl (by rfl)) ?_
  refine sSt rfl ?_
  refine wAc (jT (wAg (wKt (L' := (S.setV w.1 { v with next := v.next + 1, mo := mo3, files := wBq d { xd with nR := [(nmb, nmo3)], pf := { xd.pf with names := wBq (wAi w) v.next xd.pf.names } } v.files ++ [(v.next, (⟨⟨true, 1, [], []⟩, b42, .slice none 0 0, [], .map (some b48), [(b48, .map #[] 0)]⟩ : CF))] }).own ++ [(b8, .cells [.int .i64 0, .int .i64 v.next, .slice none 0 0, .slice none 0 0, .int .u32 0, .bool false, .int .i64 0, .int .i64 0].toArray 30 (0, 0))]) (fun _ h => h.subC fun f => ?_) ?_)))
  ·have hs := perm_sum (hp2 mo3 nmo3 (wBq (wAi w) v.next xd.pf.names) v.next (⟨⟨true, 1, [], []⟩, b42, .slice none 0 0, [], .map (some b48), [(b48, .map #[] 0)]⟩ : CF)) f
   have he : f (b42, fObj (⟨⟨true, 1, [], []⟩, b42, .slice none 0 0, [], .map (some b48), [(b48, .map #[] 0)]⟩ : CF)) = f (b42, .cells [.bool true, .int .i64 1, .slice none 0 0, .map (some b48)].toArray 127 (0, 0)) := rfl
   unfold CF.own at hs; simp only [List.map_append, List.sum_append, List.map_cons, List.map_nil, List.sum_cons, List.sum_nil, List.cons_append, List.nil_append, List.append_nil] at hs ⊢; omega
  refine wFu (rs := [_]) ((S.setV w.1 { v with next := v.next + 1, mo := mo3, files := wBq d { xd with nR := [(nmb, nmo3)], pf := { xd.pf with names := wBq (wAi w) v.next xd.pf.names } } v.files ++ [(v.next, (⟨⟨true, 1, [], []⟩, b42, .slice none 0 0, [], .map (some b48), [(b48, .map #[] 0)]⟩ : CF))] }).own) rfl (.cons (.agg rfl rfl rfl) .nil) ?_
  obtain ⟨k1, k2⟩ := create_ok2 (xn := (⟨⟨true, 1, [], []⟩, b42, .slice none 0 0, [], .map (some b48), [(b48, .map #[] 0)]⟩ : CF)) hS hv hxd hdd e1 hnew hmo3 (by rw [← names_put]; exact hnm3) ⟨Byt.nil, .inl ⟨rfl, b48, _, rfl, rfl, MapOf.empty⟩⟩
  have hr : wDg S.abs c w = ((S.setV w.1 { v with next := v.next + 1, mo := mo3, files := wBq d { xd with nR := [(nmb, nmo3)], pf := { xd.pf with names := wBq (wAi w) v.next xd.pf.names } } v.files ++ [(v.next, (⟨⟨true, 1, [], []⟩, b42, .slice none 0 0, [], .map (some b48), [(b48, .map #[] 0)]⟩ : CF))] }).abs, { id := v.next }) := by
   rw [k2]; unfold wDg; rw [hfr]; simp only; rw [hf]; simp only [Bool.false_eq_true, if_false]; rw [wBp, hv]; simp only [Option.map_some]; rw [decide_eq_true (by omega)]; rfl
  rw [hr]; exact OpP.plain (r := (_, _)) k1 rfl rfl rfl rfl
 refine wAc (jT (wAh rfl (wAd (jT (wAb (wAa (jp rfl (lq (wAj rfl rfl rfl) ?_))))))))
 refine sFa rfl ?_
 refine lq (qLd rfl rfl rfl rfl ((Vw.v (Vw.vol Vw.of hv)).cj rfl)) ?_
 refine jp rfl (wAc (jT (wAb (wAa (jp rfl (lq (wAj rfl rfl rfl) ?_))))))
 refine sFa rfl ?_
 refine lq (qLd rfl rfl rfl rfl ((Vw.v (Vw.vol Vw.of hv)).cj rfl)) ?_
 refine lq (qAk rfl rfl rfl rfl rfl (by rw [IntKind.wrap_u32]; omega)) ?_
 refine lq (wAj rfl rfl rfl) ?_
 refine sFa rfl ?_
 refine jl_s rfl (hStV { v with next := v.next + 1 } rfl rfl rfl rfl rfl rfl (by omega) hv rfl rfl rfl rfl rfl) ?_; rintro _ _ _ ⟨rfl, rfl⟩
 refine wAc (jT (wAb ?_))
 obtain ⟨R, hp1, hp2⟩ := create_foc hv hxd e2
 refine jc_weak (L' := (v.mb, v.mo) :: (nmb, nmo) :: (v.b, vObj { v with next := v.next + 1 }) :: (xd.b, fObj xd) :: (R ++ _)) (fun _ h => h.perm (hp1.append_right _)) ?_
 refine wBn (p := { A := fun i => !([13, 15, 16, 18].contains i), U := fun i => !([11, 12, 13, 14, 15, 16, 17, 18].contains i) }) [(0, true), (1, true), (2, true), (3, true), (4, true), (5, true), (6, true), (7, true), (8, true), (9, true), (10, true), (11, true), (12, true), (13, false), (14, true), (15, false), (16, false), (17, true), (18, false)] _ (_) ([]) (by kernel_rfl) (by kernel_rfl) (by kernel_rfl) (by kernel_rfl) rfl (fun _ h => h) (MLe.refl _) (by simp) ?_
 refine dp rfl rfl ?_
 refine dq rfl (wAj rfl rfl rfl) ?_
 refine dFa rfl rfl ?_
 refine dq rfl (qLd rfl rfl rfl rfl (OJ.cj OJ.of rfl)) ?_
 iterate 2 refine dp rfl rfl ?_
 refine dq rfl (wAj rfl rfl rfl) ?_
 refine dFa rfl rfl ?_
 refine dq rfl (qEq (qLd rfl rfl rfl rfl (OJ.cj OJ.of rfl)) e1) ?_
 refine dLL rfl rfl ?_
 refine dq rfl (qCl (wEx w na nc M hW.sn hne hW.big)) ?_
 iterate 2 refine dp rfl rfl ?_
 refine jd_eh rfl rfl rfl (wKc kU (z := .pointer none) rfl rfl rfl rfl (by kernel_rfl) (hS.v hv).mo) ?_; rintro _ _ _ ⟨rfl, mo2, born1, rfl, rfl, hmo2, hst2⟩
 refine ⟨MLe.refl _, by simp, ?_⟩
 refine ep rfl rfl ?_
 refine je_s rfl rfl (wHb kU rfl rfl rfl rfl rfl hmo2 hst2) ?_; rintro _ _ _ ⟨rfl, mo3, rfl, hmo3⟩
 refine ⟨MLe.refl _, by simp, ?_⟩
 rw [putA_put] at hmo3
 refine je_h rfl rfl rfl (wKc kS (z := .int .u32 0) rfl rfl rfl rfl (by kernel_rfl) e3) ?_; rintro _ _ _ ⟨rfl, nmo2, born2, rfl, rfl, hnm2, hst3⟩
 refine ⟨MLe.refl _, by simp, ?_⟩
 refine ep rfl rfl ?_
 refine je_s rfl rfl (wHb kS rfl rfl rfl rfl rfl hnm2 hst3) ?_; rintro _ _ _ ⟨rfl, nmo3, rfl, hnm3⟩
 refine ⟨MLe.refl _, by simp, ?_⟩
 rw [putA_putG] at hnm3
 refine wCu ?_
 refine jPn (jT (wAb (wAa (jp rfl (lq (qConv64 rfl rfl rfl (by omega)) ?_)))))
 refine lq (wBe (cs := [_, _, _, _, _, _, _, _]) rfl rfl rfl (by rfl)) ?_
 refine sSt rfl ?_
 refine wAc (jT (wAg (wKt (L' := (S.setV w.1 { v with next := v.next + 1, mo := mo3, files := wBq d { xd with nR := [(nmb, nmo3)], pf := { xd.pf with names := wBq (wAi w) v.next xd.pf.names } } v.files ++ [(v.next, (⟨⟨false, 1, [], []⟩, b42, .slice none 0 0, [], .map none, []⟩ : CF))] }).own ++ [(b8, .cells [.int .i64 0, .int .i64 v.next, .slice none 0 0, .slice none 0 0, .int .u32 0, .bool false, .int .i64 0, .int .i64 0].toArray 30 (0, 0))]) (fun _ h => h.subC fun f => ?_) ?_)))
 ·have hs := perm_sum (hp2 mo3 nmo3 (wBq (wAi w) v.next xd.pf.names) v.next (⟨⟨false, 1, [], []⟩, b42, .slice none 0 0, [], .map none, []⟩ : CF)) f
  have he : f (b42, fObj (⟨⟨false, 1, [], []⟩, b42, .slice none 0 0, [], .map none, []⟩ : CF)) = f (b42, .cells [.bool false, .int .i64 1, .slice none 0 0, .map none].toArray 127 (0, 0)) := rfl
  unfold CF.own at hs; simp only [List.map_append, List.sum_append, List.map_cons, List.map_nil, List.sum_cons, List.sum_nil, List.cons_append, List.nil_append, List.append_nil] at hs ⊢; omega
 refine wFu (rs := [_]) ((S.setV w.1 { v with next := v.next + 1, mo := mo3, files := wBq d { xd with nR := [(nmb, nmo3)], pf := { xd.pf with names := wBq (wAi w) v.next xd.pf.names } } v.files ++ [(v.next, (⟨⟨false, 1, [], []⟩, b42, .slice none 0 0, [], .map none, []⟩ : CF))] }).own) rfl (.cons (.agg rfl rfl rfl) .nil) ?_
 obtain ⟨k1, k2⟩ := create_ok2 (xn := (⟨⟨false, 1, [], []⟩, b42, .slice none 0 0, [], .map none, []⟩ : CF)) hS hv hxd hdd e1 hnew hmo3 (by rw [← names_put]; exact hnm3) ⟨Byt.nil, .inr ⟨rfl, rfl, rfl, rfl⟩⟩
 have hr : wDg S.abs c w = ((S.setV w.1 { v with next := v.next + 1, mo := mo3, files := wBq d { xd with nR := [(nmb, nmo3)], pf := { xd.pf with names := wBq (wAi w) v.next xd.pf.names } } v.files ++ [(v.next, (⟨⟨false, 1, [], []⟩, b42, .slice none 0 0, [], .map none, []⟩ : CF))] }).abs, { id := v.next }) := by
  rw [k2]; unfold wDg; rw [hfr]; simp only; rw [hf]; simp only [Bool.false_eq_true, if_false]; rw [wBp, hv]; simp only [Option.map_some]; rw [decide_eq_false (by omega)]; rfl
 rw [hr]; exact OpP.plain (r := (_, _)) k1 rfl rfl rfl rfl
theorem vols_new {n : Nat} {S : CS} (hwf : WFS n S.abs) : wAm (S.next + 1) S.vols = none := by
 cases h : wAm (S.next + 1) S.vols with
 | none => rfl
 | some v =>
  have := (hwf.rng (S.next + 1) v.abs (by rw [wBp, h]; rfl)).2
  have e : S.abs.next = S.next := rfl
  omega
theorem add_ok {S : CS} (hS : S.Ok) {v : CV} (hv : v.Ok) {mo2 : Obj} (h : MapOf kI mo2 (ptV (S.vols ++ [(S.next + 1, v)]))) : ({ S with next := S.next + 1, mo := mo2, vols := S.vols ++ [(S.next + 1, v)] } : CS).Ok ∧ ({ S with next := S.next + 1, mo := mo2, vols := S.vols ++ [(S.next + 1, v)] } : CS).abs = (addS S.abs v.abs).1 := by
 refine ⟨⟨h, fun p hp => ?_⟩, ?_⟩
 ·rcases List.mem_append.1 hp with hp | hp
  ·exact hS.vs p hp
  rw [List.mem_singleton.1 hp]; exact hv
 unfold addS CS.abs; simp
theorem add_spec (S : CS) (hS : S.Ok) (n : Nat) (hwf : WFS n S.abs) (hn : n ≤ 100) (v : CV) (hv : v.Ok) (M : Mem) :
  SpecL Tryz.prog 75 #[pt S.b, pt v.b] M (S.own ++ v.own) fun u M' L' => OpP S.b (addS S.abs v.abs) u M' L' := by
 have hnx := vols_new hwf
 have h1 := hwf.most
 have h2 := hwf.low
 have h3 : S.abs.next = S.next := rfl
 refine wAe (vs := [_, _]) 26 _ Tryz.func75 rfl Tryz.ntmps75 rfl rfl ?_; intro W
 refine wAb (wAa (sAl rfl fun b4 => ?_))
 refine wAc (jT (wAb (wAa (jp rfl (lq (wAj rfl rfl rfl) ?_)))))
 refine sFa rfl ?_
 refine lq (qLd rfl rfl rfl rfl ((Vw.s (Vw.of (R := S.own))).cj rfl)) ?_
 refine ja rfl (by omega) ?_
 refine lq (wAj rfl rfl rfl) ?_
 refine sFa rfl ?_
 refine jl_s rfl (hStS (S := S) (S.next + 1) rfl rfl rfl rfl rfl rfl (by omega) rfl) ?_; rintro _ _ _ ⟨rfl, rfl⟩
 refine wAc (jT (wAb (wBn (p := { A := fun i => !([9].contains i), U := fun i => !([9].contains i) }) [(0, true), (1, true), (2, true), (3, true), (4, true), (5, true), (6, true), (7, true), (8, true), (9, false)] _ (_) ([]) (by kernel_rfl) (by kernel_rfl) (by kernel_rfl) (by kernel_rfl) rfl (fun _ h => h) (MLe.refl _) (by simp) ?_)))
 refine dp rfl rfl ?_
 refine dq rfl (wAj rfl rfl rfl) ?_
 refine dFa rfl rfl ?_
 refine dq rfl (qLd rfl rfl rfl rfl ((Vw.s (Vw.of (R := ({ S with next := S.next + 1 } : CS).own))).cj rfl)) ?_
 refine dp rfl rfl ?_
 refine dq rfl (wAj rfl rfl rfl) ?_
 refine dFa rfl rfl ?_
 refine dq rfl (qLd rfl rfl rfl rfl ((Vw.s (Vw.of (R := ({ S with next := S.next + 1 } : CS).own))).cj rfl)) ?_
 refine dp rfl rfl ?_
 refine wJu rfl rfl (hVolPut (S := ({ S with next := S.next + 1 } : CS)) (v := v) rfl (.inl rfl) rfl rfl rfl ⟨hS.mo, hS.vs⟩ hnx) ?_; rintro _ _ _ ⟨rfl, mo2, hmo2, rfl⟩
 refine ⟨MLe.refl _, by simp, ?_⟩
 refine wCu ?_
 refine jPn (jT (wAb (wAa (jp rfl (lq (wAj rfl rfl rfl) ?_)))))
 refine sFa rfl ?_
 refine lq (qLd rfl rfl rfl rfl ((Vw.s (Vw.of (R := ({ S with next := S.next + 1, mo := mo2, vols := S.vols ++ [(S.next + 1, v)] } : CS).own))).cj rfl)) ?_
 refine lq (wBe (cs := [_, _, _, _, _, _, _, _]) rfl rfl rfl (by rfl)) ?_
 refine sSt rfl ?_
 refine wAc (jT (wAg (jrsd (rs := [_]) (({ S with next := S.next + 1, mo := mo2, vols := S.vols ++ [(S.next + 1, v)] } : CS).own) (by repeat (first | exact List.Sublist.refl _ | exact List.sublist_append_left _ _ | apply List.Sublist.cons)) rfl (.cons (.agg rfl rfl rfl) .nil) ?_)))
 obtain ⟨k1, k2⟩ := add_ok hS hv hmo2
 have hr : addS S.abs v.abs = (({ S with next := S.next + 1, mo := mo2, vols := S.vols ++ [(S.next + 1, v)] } : CS).abs, { id := S.next + 1 }) := by
  rw [k2]; rfl
 rw [hr]; exact OpP.plain (r := (_, _)) k1 rfl rfl rfl rfl
theorem makeP {S : Lc} {p13 p11 p10 p16 a b c d : Nat × Obj} : (p16 :: p10 :: p13 :: p11 :: a :: b :: c :: d :: S).Perm ((S ++ (p16 :: p10 :: [(1, (0 : Nat))].flatMap fun _ => p13 :: ([] ++ [p11]))) ++ [a, b, c, d]) := wJq fun f => by simp only [List.flatMap_cons, List.flatMap_nil, List.nil_append, List.append_nil, List.cons_append, List.map_append, List.map_cons, List.map_nil, List.sum_append, List.sum_cons, List.sum_nil]; omega
theorem make_spec (S : CS) (hS : S.Ok) (n : Nat) (hwf : WFS n S.abs) (hn : n ≤ 100) (M : Mem) (c : CL) (ca : Option Addr) (ck : Nat) (hC : CallOk M c ca ck) (w : Wy) (na : Option Addr) (nc : Nat) (hW : WyOk M w na nc) (o : Wy) (oa : Option Addr) (oc : Nat) (hO : WyOk M o oa oc) :
  SpecL Tryz.prog 37 #[pt S.b, clV c ca ck, wyV w na nc, wyV o oa oc] M S.own fun u M' L' => OpP S.b (makeS S.abs) u M' L' := by
 refine SpecL.mem fun hnd hdis => ?_
 have hVa := wBf (M := M) hnd
 have hMa := wBk hdis
 have hVw : ∀ L, SubL S.own L → Vw M L S.own := fun L h => Vw.of
 refine wAe (vs := [_, _, _, _]) 18 _ Tryz.func37 rfl Tryz.ntmps37 rfl rfl ?_; intro W
 refine wAb (wAa (sBx [_, _, _, _, _, _, _] rfl fun b5 => ?_))
 refine sBx [_, _] rfl fun b6 => ?_
 refine sBx [_, _] rfl fun b7 => ?_
 refine sAl rfl fun b8 => ?_
 refine wAc (jT (wAb (wAa (jp rfl (wCe rfl rfl (wHp rfl rfl) ?_))))); rintro _ _ _ ⟨b10, rfl, rfl, rfl⟩
 refine wCe rfl rfl (wHp rfl rfl) ?_; rintro _ _ _ ⟨b11, rfl, rfl, rfl⟩
 refine lq (wBe (cs := [_, _, _, _]) rfl rfl rfl (by rfl)) ?_
 refine sBx [_, _, _, _] rfl fun b13 => ?_
 refine jl_s rfl (hMapPutO kU (k := 1) rfl (.inr rfl) rfl rfl rfl MapOf.empty) ?_; rintro _ _ _ ⟨rfl, mo3, rfl, hmo3⟩
 refine jp rfl (lq (wBe (cs := [_, _, _]) rfl rfl rfl (by rfl)) ?_)
 refine sBx [_, _, _] rfl fun b16 => ?_
 have hvk : ({ frozen := false, next := 2, b := b16, mb := b10, mo := mo3, files := [(1, ({ pf := { dir := true, links := 1, data := [], names := [] }, b := b13, dv := .slice none 0 0, dR := [], nm := .map (some b11), nR := [(b11, .map #[] 0)] } : CF))] } : CV).Ok := ⟨hmo3, fun p hp => by rw [List.mem_singleton.1 hp]; exact ⟨Byt.nil, .inl ⟨rfl, b11, _, rfl, rfl, MapOf.empty⟩⟩⟩
 refine jl_weak (L' := (S.own ++ ({ frozen := false, next := 2, b := b16, mb := b10, mo := mo3, files := [(1, ({ pf := { dir := true, links := 1, data := [], names := [] }, b := b13, dv := .slice none 0 0, dR := [], nm := .map (some b11), nR := [(b11, .map #[] 0)] } : CF))] } : CV).own) ++ [(b8, _), (b7, _), (b6, _), (b5, _)]) (fun _ h => h.perm (by unfold CV.own wJr CF.own vObj fObj; exact makeP)) ?_
 refine wCe rfl rfl (hCl (add_spec S hS n hwf hn ({ frozen := false, next := 2, b := b16, mb := b10, mo := mo3, files := [(1, ({ pf := { dir := true, links := 1, data := [], names := [] }, b := b13, dv := .slice none 0 0, dR := [], nm := .map (some b11), nR := [(b11, .map #[] 0)] } : CF))] } : CV) hvk M)) ?_; rintro _ M2 _ ⟨hM2, R3, rfl, ⟨S2, dv2, nv2, R1, R2, hk1, hk2, rfl, hk3, hk4, rfl⟩⟩
 obtain ⟨da2, dc2, rfl⟩ := hk3.form
 obtain ⟨na2, nc2, rfl⟩ := Nms.nform hk4
 refine sSt rfl ?_
 refine wAc (jT (wAg (wFu (rs := [_]) (S2.own ++ (R1 ++ R2)) rfl (.cons (.agg rfl rfl rfl) .nil) ?_)))
 exact ⟨S2, _, _, R1, R2, hk1, hk2, rfl, hk3, hk4, rfl⟩
end Go.Proofs.YtokljhkplbkggaaGreatDoor
