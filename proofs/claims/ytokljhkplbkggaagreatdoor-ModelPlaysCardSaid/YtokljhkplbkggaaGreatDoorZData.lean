/- Walks: sizes, holes, shared bytes, reads. -/
import Derived.Test.YtokljhkplbkggaaGreatDoorZTurn
namespace Go.Proofs.YtokljhkplbkggaaGreatDoor
set_option linter.unusedVariables false
set_option linter.unusedSectionVars false
set_option linter.unusedSimpArgs false
open Go.RowKit Go.MapKept
theorem pf_mono {k n m : Nat} (h : k ≤ m) : wDe k n ≤ wDe m n := by unfold wDe; omega
theorem readB_is {k n : Nat} {b : List By} : wJn k n b = (b.drop (wDe k b.length)).take (wDe (k + n) b.length - wDe k b.length) := by unfold wJn wDe; rfl
theorem Byt.sub {a : Option Addr} {c l n : Nat} {R : Lc} {xs : List By} {M : Mem} (h : Byt (.slice a xs.length c) R xs) (hR : ∀ p ∈ R, M p.1 = some p.2) (hl : l + n ≤ xs.length) : SM M (slA a l c 1) (wAn ((xs.drop l).take n)) := by
 obtain ⟨a2, c2, e, h1, h2, h3⟩ := h.sm hR
 cases e
 by_cases hn : n = 0
 ·subst hn; exact .inl (by simp [wAn])
 have := h3.part (l := l) (m := c) (s := 1) (by omega) n
 rw [Nat.mul_one] at this
 unfold wAn at this ⊢
 rw [List.map_take, List.map_drop]; exact this
theorem clone_lent {M : Mem} {R : Lc} {a : Option Addr} {c : Nat} {xs : List By} (hs : ∀ M', (∀ p ∈ R, M' p.1 = some p.2) → SM M' a (wAn xs)) (hl : xs.length ≤ 1000000) :
  SpecL Tryz.prog 85 #[.slice a xs.length c] M R fun u M' L' => M' = M ∧ ∃ L1, L' = R ++ L1 ∧ Byt u L1 xs :=
 SpecL.lendM fun hn hd => (clone_spec a c xs (wDu M R) (hs _ (wBf hn)) hl)
theorem size_spec (S : CS) (hS : S.Ok) (n : Nat) (hwf : WFS n S.abs) (hn : n ≤ 100) (M : Mem) (c : CL) (ca : Option Addr) (ck : Nat) (hC : CallOk M c ca ck) (w : Wy) (na : Option Addr) (nc : Nat) (hW : WyOk M w na nc) (o : Wy) (oa : Option Addr) (oc : Nat) (hO : WyOk M o oa oc) :
  SpecL Tryz.prog 44 #[pt S.b, clV c ca ck, wyV w na nc, wyV o oa oc] M S.own fun u M' L' => OpP S.b (sizeS S.abs c w) u M' L' := by
 refine SpecL.mem fun hnd hdis => ?_
 have hVa := wBf (M := M) hnd
 have hMa := wBk hdis
 have hVw : ∀ L, SubL S.own L → Vw M L S.own := fun L h => Vw.of
 refine wAe (vs := [_, _, _, _]) 16 _ Tryz.func44 rfl Tryz.ntmps44 rfl rfl ?_; intro W
 refine wAb (wAa (sBx [_, _, _, _, _, _, _] rfl fun b5 => ?_))
 refine sBx [_, _] rfl fun b6 => ?_
 refine sBx [_, _] rfl fun b7 => ?_
 refine sAl rfl fun b8 => ?_
 refine wAc (jT (wAb ?_))
 refine wKb b5 (fun x hx => by obtain ⟨p, hp, rfl⟩ := List.mem_map.1 hx; exact List.mem_map_of_mem (SubL.sub (R := S.own) p hp)) ?_
 intro M1 hM1 e5
 refine wBn (p := { A := fun i => !([6, 7].contains i), U := fun i => !([6, 7].contains i) }) [(0, true), (1, true), (2, true), (3, true), (4, true), (5, true), (6, false), (7, false)] M1 ((_ :: _ :: _ :: S.own)) ([]) (by kernel_rfl) (by kernel_rfl) (by kernel_rfl) (by kernel_rfl) rfl (fun _ h => h) (MLe.refl _) (by simp) ?_
 refine dp rfl rfl ?_
 refine dLL rfl rfl ?_
 refine dFa rfl rfl ?_
 refine dq rfl (qLd rfl rfl rfl rfl (CM.cj ⟨_, _, _, e5, rfl⟩ _)) ?_
 refine dq rfl (qCl (wGd c.a 0 4096 M1)) ?_
 refine dp rfl rfl ?_
 refine jd_eh rfl rfl rfl (hCl (wGa S hS n hwf hn M1 w na nc (hW.mono hM1) ((fun b => wAx b c.a.toNat)) 86 [pt b5] _ (by kernel_rfl) (fun hh x hx hl => size1_spec x hx hl c ca ck M1 (hC.mono hM1) b5 e5 (of_decide_eq_true ((Bool.and_eq_true _ _).mp hh).1) (of_decide_eq_true ((Bool.and_eq_true _ _).mp hh).2)))) ?_; rintro _ M2 _ ⟨hM2, R3, rfl, ⟨S2, dv2, nv2, R1, R2, hk1, hk2, rfl, hk3, hk4, rfl⟩⟩
 refine ⟨hM2, by simp, ?_⟩
 obtain ⟨da2, dc2, rfl⟩ := hk3.form
 obtain ⟨na2, nc2, rfl⟩ := Nms.nform hk4
 refine je_s rfl rfl (wBw rfl rfl rfl rfl rfl rfl rfl rfl) ?_; rintro _ _ _ ⟨rfl, rfl⟩
 refine ⟨hM2, by simp, ?_⟩
 refine wCu ?_
 refine jPn (jT (wAg (wFu (rs := [_]) (S2.own ++ (R1 ++ R2)) rfl (.cons (.agg rfl rfl rfl) .nil) ?_)))
 exact ⟨S2, _, _, R1, R2, hk1, hk2, rfl, hk3, hk4, rfl⟩
theorem punch_spec (S : CS) (hS : S.Ok) (n : Nat) (hwf : WFS n S.abs) (hn : n ≤ 100) (M : Mem) (c : CL) (ca : Option Addr) (ck : Nat) (hC : CallOk M c ca ck) (w : Wy) (na : Option Addr) (nc : Nat) (hW : WyOk M w na nc) (o : Wy) (oa : Option Addr) (oc : Nat) (hO : WyOk M o oa oc) :
  SpecL Tryz.prog 45 #[pt S.b, clV c ca ck, wyV w na nc, wyV o oa oc] M S.own fun u M' L' => OpP S.b (wJp S.abs c w) u M' L' := by
 refine SpecL.mem fun hnd hdis => ?_
 have hVa := wBf (M := M) hnd
 have hMa := wBk hdis
 have hVw : ∀ L, SubL S.own L → Vw M L S.own := fun L h => Vw.of
 refine wAe (vs := [_, _, _, _]) 28 _ Tryz.func45 rfl Tryz.ntmps45 rfl rfl ?_; intro W
 refine wAb (wAa (sBx [_, _, _, _, _, _, _] rfl fun b5 => ?_))
 refine sBx [_, _] rfl fun b6 => ?_
 refine sBx [_, _] rfl fun b7 => ?_
 refine sAl rfl fun b8 => ?_
 refine wAc (jT (wAb (wAa (jp rfl (sLL rfl ?_)))))
 refine sFL rfl rfl ?_
 refine js rfl (fun h13 => ?_) (fun h13 => ?_)
 ·refine jp rfl (sFL rfl rfl ?_)
  refine sFL rfl rfl ?_
  refine js rfl (fun h19 => ?_) (fun h19 => ?_)
  ·refine jp rfl (jp rfl (sFL rfl rfl ?_))
   refine jp rfl (jp rfl (jp rfl ?_))
   refine wGk b5 (fun x hx => by obtain ⟨p, hp, rfl⟩ := List.mem_map.1 hx; exact List.mem_map_of_mem (SubL.sub (R := S.own) p hp)) ?_
   intro M1 hM1 e5
   refine wCe rfl rfl (wKh rfl rfl rfl rfl rfl (by kernel_rfl) (wGa S hS n hwf hn M1 w na nc (hW.mono hM1) (wCr c.a.toNat c.b.toNat) 88 [pt b5] _ (by kernel_rfl) (fun hh x hx hl => by first | cases hh | exact wKp x hx hl c ca ck M1 (hC.mono hM1) b5 e5 (by omega) (by omega) (of_decide_eq_true hh)))) ?_; rintro _ M2 _ ⟨hM2, R3, rfl, ⟨S2, dv2, nv2, R1, R2, hk1, hk2, rfl, hk3, hk4, rfl⟩⟩
   obtain ⟨da2, dc2, rfl⟩ := hk3.form
   obtain ⟨na2, nc2, rfl⟩ := Nms.nform hk4
   refine sSt rfl ?_
   refine wAc (jT (wAg (wFu (rs := [_]) (S2.own ++ (R1 ++ R2)) rfl (.cons (.agg rfl rfl rfl) .nil) ?_)))
   have hr : wJp S.abs c w = wDv S.abs w (decide (c.b ≤ 4096)) (wCr c.a.toNat c.b.toNat) := by unfold wJp; rw [decide_eq_true (by omega : 0 ≤ c.a), decide_eq_true (by omega : c.a ≤ c.b)]; rfl
   rw [hr]; exact ⟨S2, _, _, R1, R2, hk1, hk2, rfl, hk3, hk4, rfl⟩
  iterate 7 refine jp rfl ?_
  refine wGk b5 (fun x hx => by obtain ⟨p, hp, rfl⟩ := List.mem_map.1 hx; exact List.mem_map_of_mem (SubL.sub (R := S.own) p hp)) ?_
  intro M1 hM1 e5
  refine wCe rfl rfl (wKh rfl rfl rfl rfl rfl (by kernel_rfl) (wGa S hS n hwf hn M1 w na nc (hW.mono hM1) (wCr c.a.toNat c.b.toNat) 88 [pt b5] _ (by kernel_rfl) (fun hh x hx hl => by first | cases hh | exact wKp x hx hl c ca ck M1 (hC.mono hM1) b5 e5 (by omega) (by omega) (of_decide_eq_true hh)))) ?_; rintro _ M2 _ ⟨hM2, R3, rfl, ⟨S2, dv2, nv2, R1, R2, hk1, hk2, rfl, hk3, hk4, rfl⟩⟩
  obtain ⟨da2, dc2, rfl⟩ := hk3.form
  obtain ⟨na2, nc2, rfl⟩ := Nms.nform hk4
  refine sSt rfl ?_
  refine wAc (jT (wAg (wFu (rs := [_]) (S2.own ++ (R1 ++ R2)) rfl (.cons (.agg rfl rfl rfl) .nil) ?_)))
  have hr : wJp S.abs c w = wDv S.abs w false (wCr c.a.toNat c.b.toNat) := by unfold wJp; rw [decide_eq_true (by omega : 0 ≤ c.a), decide_eq_false (by omega : ¬ (c.a ≤ c.b))]; rfl
  rw [hr]; exact ⟨S2, _, _, R1, R2, hk1, hk2, rfl, hk3, hk4, rfl⟩
 iterate 13 refine jp rfl ?_
 refine wGk b5 (fun x hx => by obtain ⟨p, hp, rfl⟩ := List.mem_map.1 hx; exact List.mem_map_of_mem (SubL.sub (R := S.own) p hp)) ?_
 intro M1 hM1 e5
 refine wCe rfl rfl (wKh rfl rfl rfl rfl rfl (by kernel_rfl) (wGa S hS n hwf hn M1 w na nc (hW.mono hM1) (wCr c.a.toNat c.b.toNat) 88 [pt b5] _ (by kernel_rfl) (fun hh x hx hl => by first | cases hh | exact wKp x hx hl c ca ck M1 (hC.mono hM1) b5 e5 (by omega) (by omega) (of_decide_eq_true hh)))) ?_; rintro _ M2 _ ⟨hM2, R3, rfl, ⟨S2, dv2, nv2, R1, R2, hk1, hk2, rfl, hk3, hk4, rfl⟩⟩
 obtain ⟨da2, dc2, rfl⟩ := hk3.form
 obtain ⟨na2, nc2, rfl⟩ := Nms.nform hk4
 refine sSt rfl ?_
 refine wAc (jT (wAg (wFu (rs := [_]) (S2.own ++ (R1 ++ R2)) rfl (.cons (.agg rfl rfl rfl) .nil) ?_)))
 have hr : wJp S.abs c w = wDv S.abs w false (wCr c.a.toNat c.b.toNat) := by unfold wJp; rw [decide_eq_false (by omega : ¬ (0 ≤ c.a))]; rfl
 rw [hr]; exact ⟨S2, _, _, R1, R2, hk1, hk2, rfl, hk3, hk4, rfl⟩
theorem read_no (S : CS) (hS : S.Ok) (n : Nat) (hwf : WFS n S.abs) (hn : n ≤ 100) (M : Mem) (c : CL) (ca : Option Addr) (ck : Nat) (hC : CallOk M c ca ck) (w : Wy) (na : Option Addr) (nc : Nat) (hW : WyOk M w na nc) (o : Wy) (oa : Option Addr) (oc : Nat) (hO : WyOk M o oa oc) (hno : (inI c.a 0 4096 && inI c.b 0 4096) = false) :
  SpecL Tryz.prog 43 #[pt S.b, clV c ca ck, wyV w na nc, wyV o oa oc] M S.own fun u M' L' => OpP S.b (wHk S.abs c w) u M' L' := by
 refine SpecL.mem fun hnd hdis => ?_
 have hVa := wBf (M := M) hnd
 have hMa := wBk hdis
 have hVw : ∀ L, SubL S.own L → Vw M L S.own := fun L h => Vw.of
 refine wAe (vs := [_, _, _, _]) 62 _ Tryz.func43 rfl Tryz.ntmps43 rfl rfl ?_; intro W
 refine wAb (wAa (sBx [_, _, _, _, _, _, _] rfl fun b5 => ?_))
 refine sBx [_, _] rfl fun b6 => ?_
 refine sBx [_, _] rfl fun b7 => ?_
 refine sAl rfl fun b8 => ?_
 refine wAc (jT (wAb (wAb (wAa (sFL rfl rfl ?_)))))
 refine wEk rfl rfl (qCl (wGd c.a 0 4096 M)) (fun h15 => ?_) (fun h15 => ?_)
 ·refine jp rfl (jp rfl (sFL rfl rfl ?_))
  refine wEk rfl rfl (qCl (wGd c.b 0 4096 M)) (fun h20 => ?_) (fun h20 => ?_)
  ·rw [h15, h20] at hno; cases hno
  refine jp rfl (jp rfl (wAc (jT (wAf rfl (wAb (wAa (lq (qCl (wAt 2 M)) ?_)))))))
  refine sSt rfl ?_
  refine wAc (jT (wAg (jTr (wFu (rs := [_]) (S.own) rfl (.cons (.agg rfl rfl rfl) .nil) ?_))))
  have hr : wHk S.abs c w = (S.abs, wCa 2) := by
   unfold wHk; rw [if_neg (by rw [hno]; exact Bool.false_ne_true)]
  rw [hr]; exact OpP.plain (r := (S.abs, _)) hS rfl rfl rfl rfl
 iterate 7 refine jp rfl ?_
 refine wAc (jT (wAf rfl (wAb (wAa (lq (qCl (wAt 2 M)) ?_)))))
 refine sSt rfl ?_
 refine wAc (jT (wAg (jTr (wFu (rs := [_]) (S.own) rfl (.cons (.agg rfl rfl rfl) .nil) ?_))))
 have hr : wHk S.abs c w = (S.abs, wCa 2) := by
  unfold wHk; rw [if_neg (by rw [hno]; exact Bool.false_ne_true)]
 rw [hr]; exact OpP.plain (r := (S.abs, _)) hS rfl rfl rfl rfl
theorem read_e (S : CS) (hS : S.Ok) (n : Nat) (hwf : WFS n S.abs) (hn : n ≤ 100) (M : Mem) (c : CL) (ca : Option Addr) (ck : Nat) (hC : CallOk M c ca ck) (w : Wy) (na : Option Addr) (nc : Nat) (hW : WyOk M w na nc) (o : Wy) (oa : Option Addr) (oc : Nat) (hO : WyOk M o oa oc) (hyes : (inI c.a 0 4096 && inI c.b 0 4096) = true) (e : Int) (hw : wCh S.abs w = .error e) :
  SpecL Tryz.prog 43 #[pt S.b, clV c ca ck, wyV w na nc, wyV o oa oc] M S.own fun u M' L' => OpP S.b (wHk S.abs c w) u M' L' := by
 refine SpecL.mem fun hnd hdis => ?_
 have hVa := wBf (M := M) hnd
 have hMa := wBk hdis
 have hVw : ∀ L, SubL S.own L → Vw M L S.own := fun L h => Vw.of
 have he := wJv hwf hw
 obtain ⟨ya, yb⟩ := (Bool.and_eq_true _ _).mp hyes
 refine wAe (vs := [_, _, _, _]) 62 _ Tryz.func43 rfl Tryz.ntmps43 rfl rfl ?_; intro W
 refine wAb (wAa (sBx [_, _, _, _, _, _, _] rfl fun b5 => ?_))
 refine sBx [_, _] rfl fun b6 => ?_
 refine sBx [_, _] rfl fun b7 => ?_
 refine sAl rfl fun b8 => ?_
 refine wAc (jT (wAb (wAb (wAa (sFL rfl rfl ?_)))))
 refine lq (qEq (qCl (wGd c.a 0 4096 M)) (v' := .bool true) (by rw [ya])) ?_
 refine jp rfl (jp rfl (sFL rfl rfl ?_))
 refine lq (qEq (qCl (wGd c.b 0 4096 M)) (v' := .bool true) (by rw [yb])) ?_
 refine jp rfl (jp rfl (wAc (jT (wAh rfl (wAd (jT (wAb (wAa (jp rfl (sLL rfl ?_))))))))))
 refine lq (qEq (wBm (R := S.own) rfl rfl rfl rfl rfl (by kernel_rfl) (SubL.sub) (wDs S hS n hwf (wDu M S.own) hVa w na nc (hW.mono hMa))) (by rw [hw]; try rfl)) ?_
 iterate 7 refine jp rfl ?_
 refine wAc (jT (wAb (wAb (wAa (jp rfl (jt rfl (decide_eq_true (by omega)) ?_))))))
 refine wAc (jT (wAf rfl (wAb (wAa (jp rfl (lq (qCl (wAt e M)) ?_))))))
 refine sSt rfl ?_
 refine wAc (jT (wAg (jTr (wFu (rs := [_]) (S.own) rfl (.cons (.agg rfl rfl rfl) .nil) ?_))))
 have hr : wHk S.abs c w = (S.abs, wCa e) := by
  unfold wHk; rw [if_pos hyes, hw]
 rw [hr]; exact OpP.plain (r := (S.abs, _)) hS rfl rfl rfl rfl
theorem read_ok (S : CS) (hS : S.Ok) (n : Nat) (hwf : WFS n S.abs) (hn : n ≤ 100) (M : Mem) (c : CL) (ca : Option Addr) (ck : Nat) (hC : CallOk M c ca ck) (w : Wy) (na : Option Addr) (nc : Nat) (hW : WyOk M w na nc) (o : Wy) (oa : Option Addr) (oc : Nat) (hO : WyOk M o oa oc) (hyes : (inI c.a 0 4096 && inI c.b 0 4096) = true) (id : Int) (hw : wCh S.abs w = .ok id) (v : CV) (x : CF) (hv : wAm w.1 S.vols = some v) (hx : wAm id v.files = some x) :
  SpecL Tryz.prog 43 #[pt S.b, clV c ca ck, wyV w na nc, wyV o oa oc] M S.own fun u M' L' => OpP S.b (wHk S.abs c w) u M' L' := by
 refine SpecL.mem fun hnd hdis => ?_
 have hVa := wBf (M := M) hnd
 have hMa := wBk hdis
 have hVw : ∀ L, SubL S.own L → Vw M L S.own := fun L h => Vw.of
 obtain ⟨ya, yb⟩ := (Bool.and_eq_true _ _).mp hyes
 have hxk := (hS.v hv).x hx
 obtain ⟨dad, dc, hdv⟩ := hxk.byt.form
 have hB : Byt (.slice dad x.pf.data.length dc) x.dR x.pf.data := hdv ▸ hxk.byt
 have hcap := hB.cap.2
 obtain ⟨v3, x3, hv3, hx3, hwv, hxnd⟩ := wEi hwf hw
 rw [hv] at hv3; cases hv3; rw [hx] at hx3; cases hx3
 have hlen : x.pf.data.length ≤ 4096 := (hwv.wf.len id x.pf (by show wAm id (wEf v.files) = _; rw [wBs, hx]; rfl)).1
 have ha := of_decide_eq_true ((Bool.and_eq_true _ _).mp ya).1
 have hb := of_decide_eq_true ((Bool.and_eq_true _ _).mp yb).1
 have ha2 := of_decide_eq_true ((Bool.and_eq_true _ _).mp ya).2
 have hb2 := of_decide_eq_true ((Bool.and_eq_true _ _).mp yb).2
 have q1 : (wDe c.a.toNat x.pf.data.length) ≤ (wDe (c.a.toNat + c.b.toNat) x.pf.data.length) := pf_mono (by omega)
 have q2 := pf_is c.a.toNat 0 x.pf.data.length
 have q3 := pf_is (c.a.toNat + c.b.toNat) 0 x.pf.data.length
 have hrl : (wJn c.a.toNat c.b.toNat x.pf.data).length = (wDe (c.a.toNat + c.b.toNat) x.pf.data.length) - (wDe c.a.toNat x.pf.data.length) := by rw [readB_is, List.length_take, List.length_drop]; omega
 have hsm : ∀ M', (∀ p ∈ S.own, M' p.1 = some p.2) → SM M' (slA dad (wDe c.a.toNat x.pf.data.length) dc 1) (wAn (wJn c.a.toNat c.b.toNat x.pf.data)) := fun M' h => by
  rw [readB_is]
  refine hB.sub (fun p hp => ?_) (by omega)
  have := Vw.xd (Vw.file (Vw.vol (Vw.inM (L := []) h) hv) hx) p hp
  rcases this with h | h
  ·exact h
  cases h
 refine wAe (vs := [_, _, _, _]) 62 _ Tryz.func43 rfl Tryz.ntmps43 rfl rfl ?_; intro W
 refine wAb (wAa (sBx [_, _, _, _, _, _, _] rfl fun b5 => ?_))
 refine sBx [_, _] rfl fun b6 => ?_
 refine sBx [_, _] rfl fun b7 => ?_
 refine sAl rfl fun b8 => ?_
 refine wAc (jT (wAb (wAb (wAa (sFL rfl rfl ?_)))))
 refine lq (qEq (qCl (wGd c.a 0 4096 M)) (v' := .bool true) (by rw [ya])) ?_
 refine jp rfl (jp rfl (sFL rfl rfl ?_))
 refine lq (qEq (qCl (wGd c.b 0 4096 M)) (v' := .bool true) (by rw [yb])) ?_
 refine jp rfl (jp rfl (wAc (jT (wAh rfl (wAd (jT (wAb (wAa (jp rfl (sLL rfl ?_))))))))))
 refine lq (qEq (v' := .tuple #[.int .u32 id, pt x.b, .int .i64 0]) (wBm (R := S.own) rfl rfl rfl rfl rfl (by kernel_rfl) (SubL.sub) (wDs S hS n hwf (wDu M S.own) hVa w na nc (hW.mono hMa))) (by rw [hw]; exact wBj hv hx)) ?_
 iterate 7 refine jp rfl ?_
 refine wAc (jT (wAb (wAb (wAa (jp rfl (jf rfl (decide_eq_false (by omega)) ?_))))))
 refine wAc (jT (wAh rfl (wAd (jT (wAb (wCw [(0, true), (1, true), (2, true), (3, true), (4, true), (5, true), (6, true), (7, true), (8, true)] ((b8, _) :: (b7, _) :: (b6, _) :: (b5, _) :: S.own) (fun _ h => h) ?_))))))
 refine dFa rfl rfl ?_
 refine dLd rfl rfl ?_
 refine dp rfl rfl ?_
 refine dq rfl (wAj rfl rfl rfl) ?_
 refine dFa rfl rfl ?_
 refine dq rfl (qEq (qLd rfl rfl rfl rfl ((Vw.x (Vw.file (Vw.vol (Vw.of (R := S.own)) hv) hx)).cj rfl)) hdv) ?_
 refine dq rfl (wCd rfl rfl rfl) ?_
 refine dq rfl (qEq (v' := .int .i64 ((wDe c.a.toNat x.pf.data.length) : Nat)) (qMin rfl rfl rfl rfl) (congrArg (Value.int .i64) (pf_int (by omega) rfl))) ?_
 refine dp rfl rfl ?_
 refine wAs (jPn (jT (wAb (wCw [(0, true), (1, true), (2, true), (3, true), (4, true), (5, true), (6, true), (7, true), (8, true), (9, true), (10, true), (11, true), (12, true), (13, true), (14, true), (15, true), (16, true), (17, false), (18, true), (19, false)] ((b7, _) :: (b6, _) :: (b5, _) :: S.own) (fun _ h => List.mem_cons_of_mem _ h) ?_))))
 refine dp rfl rfl ?_
 refine dq rfl (wAj rfl rfl rfl) ?_
 refine dFa rfl rfl ?_
 refine dq rfl (qEq (qLd rfl rfl rfl rfl ((Vw.x (Vw.file (Vw.vol (Vw.of (R := S.own)) hv) hx)).cj rfl)) hdv) ?_
 refine dp rfl rfl ?_
 refine dFa rfl rfl ?_
 refine dLd rfl rfl ?_
 refine dFa rfl rfl ?_
 refine dLd rfl rfl ?_
 refine da rfl rfl (by omega) ?_
 refine dp rfl rfl ?_
 refine dq rfl (wAj rfl rfl rfl) ?_
 refine dFa rfl rfl ?_
 refine dq rfl (qEq (qLd rfl rfl rfl rfl ((Vw.x (Vw.file (Vw.vol (Vw.of (R := S.own)) hv) hx)).cj rfl)) hdv) ?_
 refine dq rfl (wCd rfl rfl rfl) ?_
 refine dq rfl (qEq (v' := .int .i64 ((wDe (c.a.toNat + c.b.toNat) x.pf.data.length) : Nat)) (qMin rfl rfl rfl rfl) (congrArg (Value.int .i64) (pf_int (by omega) rfl))) ?_
 refine dq rfl (qEq (v' := .slice (slA dad (wDe c.a.toNat x.pf.data.length) dc 1) (wJn c.a.toNat c.b.toNat x.pf.data).length (dc - (wDe c.a.toNat x.pf.data.length))) (qSl rfl rfl rfl (.no _) (.of rfl (by omega) (Int.toNat_natCast _)) (.of rfl (by omega) (Int.toNat_natCast _)) (by omega) (by simp)) (by rw [hrl])) ?_
 refine wJf rfl rfl rfl (hCl (clone_lent hsm (by omega))) ?_; rintro _ _ _ ⟨hM2, _, rfl, ⟨rfl, R5, rfl, hB5⟩⟩
 refine ⟨_, _, MLe.refl _, MLe.refl _, fun _ h => h, by intro p hp; simp only [List.mem_cons, List.mem_append, List.not_mem_nil, or_false] at hp ⊢; rcases hp with h | h | h | h <;> simp only [h, true_or, or_true], ?_⟩
 obtain ⟨da5, dc5, rfl⟩ := hB5.form
 refine dq rfl (wBe (cs := [_, _, _, _, _, _, _, _]) rfl rfl rfl (by rfl)) ?_
 refine jd_s rfl rfl (wBw rfl rfl rfl rfl rfl rfl rfl rfl) ?_; rintro _ _ _ ⟨rfl, rfl⟩
 refine ⟨_, _, MLe.refl _, MLe.refl _, fun _ h => h, by intro p hp; simp only [List.mem_cons, List.mem_append, List.not_mem_nil, or_false] at hp ⊢; rcases hp with h | h | h | h <;> simp only [h, true_or, or_true], ?_⟩
 refine wAs (jPn (jT (wAg (wFu (rs := [_]) (S.own ++ (R5 ++ [])) rfl (.cons (.agg rfl rfl rfl) .nil) ?_))))
 have hr : wHk S.abs c w = (S.abs, { data := wJn c.a.toNat c.b.toNat x.pf.data }) := by
  unfold wHk; rw [if_pos hyes, hw]; simp only; unfold dataAt; rw [wFv hv hx]
 rw [hr]; exact ⟨S, _, _, R5, [], ⟨hS, rfl⟩, rfl, rfl, hB5, Nms.nil, rfl⟩
end Go.Proofs.YtokljhkplbkggaaGreatDoor
