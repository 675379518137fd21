/- Walks: shared bytes. -/
import Derived.Test.YtokljhkplbkggaaGreatDoorZData
namespace Go.Proofs.YtokljhkplbkggaaGreatDoor
set_option linter.unusedVariables false
set_option linter.unusedSectionVars false
set_option linter.unusedSimpArgs false
open Go.RowKit Go.MapKept
theorem share_all {c : CL} : wGp c = true ↔ 0 ≤ c.a ∧ 0 ≤ c.b ∧ 0 ≤ c.c ∧ c.c ≤ 4096 ∧ c.a ≤ 4096 - c.c ∧ c.b ≤ 4096 - c.c ∧ c.a % 128 = 0 ∧ c.b % 128 = 0 ∧ c.c % 128 = 0 := by
 unfold wGp; simp only [Bool.and_eq_true, decide_eq_true_eq, and_assoc]
theorem shA {S : Lc} {p g a b c d : Nat × Obj} : (p :: g :: (S ++ [a, b, c, d])).Perm (p :: g :: a :: b :: c :: d :: S) := wJq fun f => by simp only [List.map_append, List.map_cons, List.map_nil, List.sum_append, List.sum_cons, List.sum_nil]; omega
theorem shB {S : Lc} {p g a b c d : Nat × Obj} : (g :: p :: (S ++ [a, b, c, d])).Perm (p :: g :: a :: b :: c :: d :: S) := wJq fun f => by simp only [List.map_append, List.map_cons, List.map_nil, List.sum_append, List.sum_cons, List.sum_nil]; omega
theorem shC {S : Lc} {p g a b c d : Nat × Obj} : (g :: (S ++ [p, a, b, c, d])).Perm (p :: g :: a :: b :: c :: d :: S) := wJq fun f => by simp only [List.map_append, List.map_cons, List.map_nil, List.sum_append, List.sum_cons, List.sum_nil]; omega
theorem share_no (S : CS) (hS : S.Ok) (n : Nat) (hwf : WFS n S.abs) (hn : n ≤ 100) (M : Mem) (c : CL) (ca : Option Addr) (ck : Nat) (hC : CallOk M c ca ck) (w : Wy) (na : Option Addr) (nc : Nat) (hW : WyOk M w na nc) (o : Wy) (oa : Option Addr) (oc : Nat) (hO : WyOk M o oa oc) (hno : wGp c = false) :
  SpecL Tryz.prog 46 #[pt S.b, clV c ca ck, wyV w na nc, wyV o oa oc] M S.own fun u M' L' => OpP S.b (wDd S.abs c w o) u M' L' := by
 refine SpecL.mem fun hnd hdis => ?_
 have hVa := wBf (M := M) hnd
 have hMa := wBk hdis
 have hVw : ∀ L, SubL S.own L → Vw M L S.own := fun L h => Vw.of
 refine wAe (vs := [_, _, _, _]) 98 _ Tryz.func46 rfl Tryz.ntmps46 rfl rfl ?_; intro W
 refine wAb (wAa (sBx [_, _, _, _, _, _, _] rfl fun b5 => ?_))
 refine sBx [_, _] rfl fun b6 => ?_
 refine sBx [_, _] rfl fun b7 => ?_
 refine sAl rfl fun b8 => ?_
 refine wAc (jT (wAb (wAa (sFL rfl rfl ?_))))
 refine js rfl (fun h16 => ?_) (fun h16 => ?_)
 ·refine jp rfl (sFL rfl rfl ?_)
  refine js rfl (fun h20 => ?_) (fun h20 => ?_)
  ·refine jp rfl (jp rfl (sFL rfl rfl ?_))
   refine js rfl (fun h25 => ?_) (fun h25 => ?_)
   ·refine jp rfl (jp rfl (sFL rfl rfl ?_))
    refine js rfl (fun h30 => ?_) (fun h30 => ?_)
    ·refine jp rfl (jp rfl (sFL rfl rfl ?_))
     refine sFL rfl rfl ?_
     refine ja rfl (by omega) ?_
     refine js rfl (fun h38 => ?_) (fun h38 => ?_)
     ·refine jp rfl (jp rfl (sFL rfl rfl ?_))
      refine sFL rfl rfl ?_
      refine ja rfl (by omega) ?_
      refine js rfl (fun h46 => ?_) (fun h46 => ?_)
      ·refine jp rfl (jp rfl (sFL rfl rfl ?_))
       refine lq (qRem rfl rfl rfl rfl (by omega) (by omega)) ?_
       refine js rfl (fun h52 => ?_) (fun h52 => ?_)
       ·refine jp rfl (jp rfl (sFL rfl rfl ?_))
        refine lq (qRem rfl rfl rfl rfl (by omega) (by omega)) ?_
        refine js rfl (fun h58 => ?_) (fun h58 => ?_)
        ·refine jp rfl (jp rfl (sFL rfl rfl ?_))
         refine lq (qRem rfl rfl rfl rfl (by omega) (by omega)) ?_
         refine js rfl (fun h64 => ?_) (fun h64 => ?_)
         ·exact absurd (share_all.2 ⟨h16, h20, h25, h30, h38, h46, h52, h58, h64⟩) (by rw [hno]; exact Bool.false_ne_true)
         refine jp rfl (jp rfl (wAc (jT (wAb (wAb (wAa (jp rfl (jp rfl (wAc (jT (wAf rfl (wAb (wAa (lq (qCl (wAt 2 M)) ?_))))))))))))))
         refine sSt rfl ?_
         refine wAc (jT (wAg (jTr (wFu (rs := [_]) (S.own) rfl (.cons (.agg rfl rfl rfl) .nil) ?_))))
         have hr : wDd S.abs c w o = (S.abs, wCa 2) := by
          unfold wDd; rw [if_neg (by rw [hno]; exact Bool.false_ne_true)]
         rw [hr]; exact OpP.plain (r := (S.abs, _)) hS rfl rfl rfl rfl
        iterate 8 refine jp rfl ?_
        refine wAc (jT (wAb (wAb (wAa (jp rfl (jp rfl (wAc (jT (wAf rfl (wAb (wAa (lq (qCl (wAt 2 M)) ?_))))))))))))
        refine sSt rfl ?_
        refine wAc (jT (wAg (jTr (wFu (rs := [_]) (S.own) rfl (.cons (.agg rfl rfl rfl) .nil) ?_))))
        have hr : wDd S.abs c w o = (S.abs, wCa 2) := by
         unfold wDd; rw [if_neg (by rw [hno]; exact Bool.false_ne_true)]
        rw [hr]; exact OpP.plain (r := (S.abs, _)) hS rfl rfl rfl rfl
       iterate 14 refine jp rfl ?_
       refine wAc (jT (wAb (wAb (wAa (jp rfl (jp rfl (wAc (jT (wAf rfl (wAb (wAa (lq (qCl (wAt 2 M)) ?_))))))))))))
       refine sSt rfl ?_
       refine wAc (jT (wAg (jTr (wFu (rs := [_]) (S.own) rfl (.cons (.agg rfl rfl rfl) .nil) ?_))))
       have hr : wDd S.abs c w o = (S.abs, wCa 2) := by
        unfold wDd; rw [if_neg (by rw [hno]; exact Bool.false_ne_true)]
       rw [hr]; exact OpP.plain (r := (S.abs, _)) hS rfl rfl rfl rfl
      iterate 20 refine jp rfl ?_
      refine wAc (jT (wAb (wAb (wAa (jp rfl (jp rfl (wAc (jT (wAf rfl (wAb (wAa (lq (qCl (wAt 2 M)) ?_))))))))))))
      refine sSt rfl ?_
      refine wAc (jT (wAg (jTr (wFu (rs := [_]) (S.own) rfl (.cons (.agg rfl rfl rfl) .nil) ?_))))
      have hr : wDd S.abs c w o = (S.abs, wCa 2) := by
       unfold wDd; rw [if_neg (by rw [hno]; exact Bool.false_ne_true)]
      rw [hr]; exact OpP.plain (r := (S.abs, _)) hS rfl rfl rfl rfl
     iterate 28 refine jp rfl ?_
     refine wAc (jT (wAb (wAb (wAa (jp rfl (jp rfl (wAc (jT (wAf rfl (wAb (wAa (lq (qCl (wAt 2 M)) ?_))))))))))))
     refine sSt rfl ?_
     refine wAc (jT (wAg (jTr (wFu (rs := [_]) (S.own) rfl (.cons (.agg rfl rfl rfl) .nil) ?_))))
     have hr : wDd S.abs c w o = (S.abs, wCa 2) := by
      unfold wDd; rw [if_neg (by rw [hno]; exact Bool.false_ne_true)]
     rw [hr]; exact OpP.plain (r := (S.abs, _)) hS rfl rfl rfl rfl
    iterate 36 refine jp rfl ?_
    refine wAc (jT (wAb (wAb (wAa (jp rfl (jp rfl (wAc (jT (wAf rfl (wAb (wAa (lq (qCl (wAt 2 M)) ?_))))))))))))
    refine sSt rfl ?_
    refine wAc (jT (wAg (jTr (wFu (rs := [_]) (S.own) rfl (.cons (.agg rfl rfl rfl) .nil) ?_))))
    have hr : wDd S.abs c w o = (S.abs, wCa 2) := by
     unfold wDd; rw [if_neg (by rw [hno]; exact Bool.false_ne_true)]
    rw [hr]; exact OpP.plain (r := (S.abs, _)) hS rfl rfl rfl rfl
   iterate 41 refine jp rfl ?_
   refine wAc (jT (wAb (wAb (wAa (jp rfl (jp rfl (wAc (jT (wAf rfl (wAb (wAa (lq (qCl (wAt 2 M)) ?_))))))))))))
   refine sSt rfl ?_
   refine wAc (jT (wAg (jTr (wFu (rs := [_]) (S.own) rfl (.cons (.agg rfl rfl rfl) .nil) ?_))))
   have hr : wDd S.abs c w o = (S.abs, wCa 2) := by
    unfold wDd; rw [if_neg (by rw [hno]; exact Bool.false_ne_true)]
   rw [hr]; exact OpP.plain (r := (S.abs, _)) hS rfl rfl rfl rfl
  iterate 46 refine jp rfl ?_
  refine wAc (jT (wAb (wAb (wAa (jp rfl (jp rfl (wAc (jT (wAf rfl (wAb (wAa (lq (qCl (wAt 2 M)) ?_))))))))))))
  refine sSt rfl ?_
  refine wAc (jT (wAg (jTr (wFu (rs := [_]) (S.own) rfl (.cons (.agg rfl rfl rfl) .nil) ?_))))
  have hr : wDd S.abs c w o = (S.abs, wCa 2) := by
   unfold wDd; rw [if_neg (by rw [hno]; exact Bool.false_ne_true)]
  rw [hr]; exact OpP.plain (r := (S.abs, _)) hS rfl rfl rfl rfl
 iterate 50 refine jp rfl ?_
 refine wAc (jT (wAb (wAb (wAa (jp rfl (jp rfl (wAc (jT (wAf rfl (wAb (wAa (lq (qCl (wAt 2 M)) ?_))))))))))))
 refine sSt rfl ?_
 refine wAc (jT (wAg (jTr (wFu (rs := [_]) (S.own) rfl (.cons (.agg rfl rfl rfl) .nil) ?_))))
 have hr : wDd S.abs c w o = (S.abs, wCa 2) := by
  unfold wDd; rw [if_neg (by rw [hno]; exact Bool.false_ne_true)]
 rw [hr]; exact OpP.plain (r := (S.abs, _)) hS rfl rfl rfl rfl
theorem share_e (S : CS) (hS : S.Ok) (n : Nat) (hwf : WFS n S.abs) (hn : n ≤ 100) (M : Mem) (c : CL) (ca : Option Addr) (ck : Nat) (hC : CallOk M c ca ck) (w : Wy) (na : Option Addr) (nc : Nat) (hW : WyOk M w na nc) (o : Wy) (oa : Option Addr) (oc : Nat) (hO : WyOk M o oa oc) (hyes : wGp c = true) (e : Int) (hw : wCh S.abs w = .error e) :
  SpecL Tryz.prog 46 #[pt S.b, clV c ca ck, wyV w na nc, wyV o oa oc] M S.own fun u M' L' => OpP S.b (wDd S.abs c w o) u M' L' := by
 refine SpecL.mem fun hnd hdis => ?_
 have hVa := wBf (M := M) hnd
 have hMa := wBk hdis
 have hVw : ∀ L, SubL S.own L → Vw M L S.own := fun L h => Vw.of
 have he := wJv hwf hw
 obtain ⟨y0, y1, y2, y3, y4, y5, y6, y7, y8⟩ := share_all.1 hyes
 refine wAe (vs := [_, _, _, _]) 98 _ Tryz.func46 rfl Tryz.ntmps46 rfl rfl ?_; intro W
 refine wAb (wAa (sBx [_, _, _, _, _, _, _] rfl fun b5 => ?_))
 refine sBx [_, _] rfl fun b6 => ?_
 refine sBx [_, _] rfl fun b7 => ?_
 refine sAl rfl fun b8 => ?_
 refine wAc (jT (wAb (wAa (sFL rfl rfl ?_))))
 refine jt rfl (decide_eq_true (by omega)) ?_
 refine jp rfl (sFL rfl rfl ?_)
 refine jt rfl (decide_eq_true (by omega)) ?_
 refine jp rfl (jp rfl (sFL rfl rfl ?_))
 refine jt rfl (decide_eq_true (by omega)) ?_
 refine jp rfl (jp rfl (sFL rfl rfl ?_))
 refine jt rfl (decide_eq_true (by omega)) ?_
 refine jp rfl (jp rfl (sFL rfl rfl ?_))
 refine sFL rfl rfl ?_
 refine ja rfl (by omega) ?_
 refine jt rfl (decide_eq_true (by omega)) ?_
 refine jp rfl (jp rfl (sFL rfl rfl ?_))
 refine sFL rfl rfl ?_
 refine ja rfl (by omega) ?_
 refine jt rfl (decide_eq_true (by omega)) ?_
 refine jp rfl (jp rfl (sFL rfl rfl ?_))
 refine lq (qRem rfl rfl rfl rfl (by omega) (by omega)) ?_
 refine jt rfl (decide_eq_true (by omega)) ?_
 refine jp rfl (jp rfl (sFL rfl rfl ?_))
 refine lq (qRem rfl rfl rfl rfl (by omega) (by omega)) ?_
 refine jt rfl (decide_eq_true (by omega)) ?_
 refine jp rfl (jp rfl (sFL rfl rfl ?_))
 refine lq (qRem rfl rfl rfl rfl (by omega) (by omega)) ?_
 refine jt rfl (decide_eq_true (by omega)) ?_
 refine jp rfl (jp rfl (wAc (jT (wAb (wAb (wAa (jp rfl (jp rfl (wAc (jT (wAh rfl (wAd (jT (wAb (wAa (jp rfl (sLL rfl ?_)))))))))))))))))
 refine lq (qEq (wBm (R := S.own) rfl rfl rfl rfl rfl (by kernel_rfl) (SubL.sub) (wDs S hS n hwf (wDu M S.own) hVa w na nc (hW.mono hMa))) (by rw [hw]; try rfl)) ?_
 iterate 7 refine jp rfl ?_
 refine wAc (jT (wAb (wAb (wAa (jp rfl (jt rfl (decide_eq_true (by omega)) ?_))))))
 refine wAc (jT (wAf rfl (wAb (wAa (jp rfl (lq (qCl (wAt e M)) ?_))))))
 refine sSt rfl ?_
 refine wAc (jT (wAg (jTr (wFu (rs := [_]) (S.own) rfl (.cons (.agg rfl rfl rfl) .nil) ?_))))
 have hr : wDd S.abs c w o = (S.abs, wCa e) := by
  unfold wDd; rw [if_pos hyes, hw]
 rw [hr]; exact OpP.plain (r := (S.abs, _)) hS rfl rfl rfl rfl
set_option maxHeartbeats 2000000 in
theorem share_ok (S : CS) (hS : S.Ok) (n : Nat) (hwf : WFS n S.abs) (hn : n ≤ 100) (M : Mem) (c : CL) (ca : Option Addr) (ck : Nat) (hC : CallOk M c ca ck) (w : Wy) (na : Option Addr) (nc : Nat) (hW : WyOk M w na nc) (o : Wy) (oa : Option Addr) (oc : Nat) (hO : WyOk M o oa oc) (hyes : wGp c = true) (id : Int) (hw : wCh S.abs w = .ok id) (v : CV) (x : CF) (hv : wAm w.1 S.vols = some v) (hx : wAm id v.files = some x) :
  SpecL Tryz.prog 46 #[pt S.b, clV c ca ck, wyV w na nc, wyV o oa oc] M S.own fun u M' L' => OpP S.b (wDd S.abs c w o) u M' L' := by
 refine SpecL.mem fun hnd hdis => ?_
 have hVa := wBf (M := M) hnd
 have hMa := wBk hdis
 have hVw : ∀ L, SubL S.own L → Vw M L S.own := fun L h => Vw.of
 obtain ⟨y0, y1, y2, y3, y4, y5, y6, y7, y8⟩ := share_all.1 hyes
 have hxk := (hS.v hv).x hx
 obtain ⟨dad, dc, hdv⟩ := hxk.byt.form
 have hB : Byt (.slice dad x.pf.data.length dc) x.dR x.pf.data := hdv ▸ hxk.byt
 have hcap := hB.cap.2
 obtain ⟨v3, x3, hv3, hx3, hwv, hxnd⟩ := wEi hwf hw
 rw [hv] at hv3; cases hv3; rw [hx] at hx3; cases hx3
 have hlen : x.pf.data.length ≤ 4096 := (hwv.wf.len id x.pf (by show wAm id (wEf v.files) = _; rw [wBs, hx]; rfl)).1
 have hsm : ∀ M', (∀ p ∈ S.own, M' p.1 = some p.2) → SM M' dad (wAn x.pf.data) := fun M' h => by
  obtain ⟨a9, c9, e9, _, _, h9⟩ := hB.sm (M := M') (fun p hp => by
   have := Vw.xd (Vw.file (Vw.vol (Vw.inM (L := []) h) hv) hx) p hp
   rcases this with h | h
   ·exact h
   cases h)
  cases e9; exact h9
 have hdl : (((wAx x.pf.data 4096).drop c.a.toNat).take c.c.toNat).length = c.c.toNat := by rw [List.length_take, List.length_drop, wAq]; omega
 refine wAe (vs := [_, _, _, _]) 98 _ Tryz.func46 rfl Tryz.ntmps46 rfl rfl ?_; intro W
 refine wAb (wAa (sBx [_, _, _, _, _, _, _] rfl fun b5 => ?_))
 refine sBx [_, _] rfl fun b6 => ?_
 refine sBx [_, _] rfl fun b7 => ?_
 refine sAl rfl fun b8 => ?_
 refine wAc (jT (wAb (wAa (sFL rfl rfl ?_))))
 refine jt rfl (decide_eq_true (by omega)) ?_
 refine jp rfl (sFL rfl rfl ?_)
 refine jt rfl (decide_eq_true (by omega)) ?_
 refine jp rfl (jp rfl (sFL rfl rfl ?_))
 refine jt rfl (decide_eq_true (by omega)) ?_
 refine jp rfl (jp rfl (sFL rfl rfl ?_))
 refine jt rfl (decide_eq_true (by omega)) ?_
 refine jp rfl (jp rfl (sFL rfl rfl ?_))
 refine sFL rfl rfl ?_
 refine ja rfl (by omega) ?_
 refine jt rfl (decide_eq_true (by omega)) ?_
 refine jp rfl (jp rfl (sFL rfl rfl ?_))
 refine sFL rfl rfl ?_
 refine ja rfl (by omega) ?_
 refine jt rfl (decide_eq_true (by omega)) ?_
 refine jp rfl (jp rfl (sFL rfl rfl ?_))
 refine lq (qRem rfl rfl rfl rfl (by omega) (by omega)) ?_
 refine jt rfl (decide_eq_true (by omega)) ?_
 refine jp rfl (jp rfl (sFL rfl rfl ?_))
 refine lq (qRem rfl rfl rfl rfl (by omega) (by omega)) ?_
 refine jt rfl (decide_eq_true (by omega)) ?_
 refine jp rfl (jp rfl (sFL rfl rfl ?_))
 refine lq (qRem rfl rfl rfl rfl (by omega) (by omega)) ?_
 refine jt rfl (decide_eq_true (by omega)) ?_
 refine jp rfl (jp rfl (wAc (jT (wAb (wAb (wAa (jp rfl (jp rfl (wAc (jT (wAh rfl (wAd (jT (wAb (wAa (jp rfl (sLL rfl ?_)))))))))))))))))
 refine lq (qEq (v' := .tuple #[.int .u32 id, pt x.b, .int .i64 0]) (wBm (R := S.own) rfl rfl rfl rfl rfl (by kernel_rfl) (SubL.sub) (wDs S hS n hwf (wDu M S.own) hVa w na nc (hW.mono hMa))) (by rw [hw]; exact wBj hv hx)) ?_
 iterate 7 refine jp rfl ?_
 refine wAc (jT (wAb (wAb (wAa (jp rfl (jf rfl (decide_eq_false (by omega)) ?_))))))
 refine wAc (jT (wAh rfl (wAd (jT (wAb (jc_drawA (_) (by kernel_rfl) (fun _ h => h) ?_))))))
 refine ja_p (i := 0) rfl (by kernel_rfl) (by kernel_rfl) rfl ?_
 refine ja_q (i := 1) rfl (by kernel_rfl) (by kernel_rfl) rfl rfl (wAj rfl rfl rfl) ?_
 refine ja_q (i := 2) rfl (by kernel_rfl) (by kernel_rfl) rfl rfl (wGj rfl rfl rfl rfl rfl) ?_
 refine ja_q (i := 3) rfl (by kernel_rfl) (by kernel_rfl) rfl rfl (qEq (qLd rfl rfl rfl rfl ((Vw.x (Vw.file (Vw.vol (Vw.of (R := S.own)) hv) hx)).cj rfl)) hdv) ?_
 refine ja_q (i := 6) rfl (by kernel_rfl) (by kernel_rfl) rfl rfl (wGj rfl rfl rfl rfl rfl) ?_
 refine ja_q (i := 7) rfl (by kernel_rfl) (by kernel_rfl) rfl rfl (qLd rfl rfl rfl rfl (CJ.loc rfl)) ?_
 refine ja_q (i := 8) rfl (by kernel_rfl) (by kernel_rfl) rfl rfl (wGj rfl rfl rfl rfl rfl) ?_
 refine ja_q (i := 9) rfl (by kernel_rfl) (by kernel_rfl) rfl rfl (qLd rfl rfl rfl rfl (CJ.loc rfl)) ?_
 refine ja_q (i := 10) rfl (by kernel_rfl) (by kernel_rfl) rfl rfl (wGj rfl rfl rfl rfl rfl) ?_
 refine ja_q (i := 11) rfl (by kernel_rfl) (by kernel_rfl) rfl rfl (qLd rfl rfl rfl rfl (CJ.loc rfl)) ?_
 refine ja_q (i := 12) rfl (by kernel_rfl) (by kernel_rfl) rfl rfl (qA rfl rfl rfl rfl rfl (by omega)) ?_
 refine ja_merge (α := Nat × Nat × Nat × Array Value) (fun y => 4096 ≤ y.2.2.1 ∧ y.2.2.1 ≤ y.2.2.2.size ∧ y.2.2.1 ≤ maxLen ∧ y.2.2.2.toList.take 4096 = wAn (wAx x.pf.data 4096)) (fun y => [(0, pt S.b), (5, pt b5), (6, pt b6), (7, pt b7), (8, pt b8), (13, pt y.1), (93, .slice (slA (some ⟨y.2.1, 0, none⟩) c.a.toNat y.2.2.1 1) c.c.toNat (y.2.2.1 - c.a.toNat))]) (fun y => M) (fun y => (y.1, .cells [.slice none 0 0].toArray 24 (0, 0)) :: (y.2.1, .cells y.2.2.2 5 (0, 0)) :: ((b8, .cells (rpc {} (.slice none 0 0) (.slice none 0 0)).toArray 30 (0, 0)) :: (b7, .cells [.int .i64 o.1, .slice oa o.2.length oc].toArray 77 (0, 0)) :: (b6, .cells [.int .i64 w.1, .slice na w.2.length nc].toArray 77 (0, 0)) :: (b5, clO c ca ck) :: S.own)) 1 #[true, true, true, true, true, true, true, true, true, true, true, true, true, true, true, false] ?_ (fun rest => ?_)
 ·rintro ⟨b13, gb, cap, cur⟩ ⟨k1, k2, k3, k4⟩
  try dsimp only at k1 k2 k3 k4 ⊢
  refine ja_one (i := 15) (by kernel_rfl) ?_
  refine js_s rfl rfl (wBw rfl rfl rfl rfl rfl rfl rfl rfl) ?_; rintro _ _ _ ⟨rfl, rfl⟩
  refine wDb (MLe.refl _) (by intro p hp; simp only [List.mem_cons, List.mem_append, List.not_mem_nil, or_false] at hp ⊢; rcases hp with h | h | h | h | h <;> simp only [h, true_or, or_true]) ?_
  refine ja_end (by kernel_rfl) ?_
  refine jPn (jT (wAb ?_))
  refine wKb b5 (fun x hx => by obtain ⟨p, hp, rfl⟩ := List.mem_map.1 hx; exact List.mem_map_of_mem (SubL.sub (R := S.own) p hp)) ?_
  intro M1 hM1 e5
  refine wKb b13 (fun x hx => by obtain ⟨p, hp, rfl⟩ := List.mem_map.1 hx; exact List.mem_map_of_mem (SubL.sub (R := S.own) p hp)) ?_
  intro M2 hM2 e13
  refine wKb gb (fun x hx => by obtain ⟨p, hp, rfl⟩ := List.mem_map.1 hx; exact List.mem_map_of_mem (SubL.sub (R := S.own) p hp)) ?_
  intro M3 hM3 eg
  have hsd : SM M3 (slA (some ⟨gb, 0, none⟩) c.a.toNat cap 1) (wAn (((wAx x.pf.data 4096).drop c.a.toNat).take c.c.toNat)) := Byt.sub (.inr ⟨gb, cap, cur, by rw [wAq], rfl, by rw [wAq]; exact k1, k2, k3, by rw [wAq]; exact k4⟩) (fun p hp => by rw [List.mem_singleton.1 hp]; exact eg) (by rw [wAq]; omega)
  refine wAa (jp rfl (sLL rfl ?_))
  refine jp rfl ?_
  refine wCe rfl rfl (hCl (wGa S hS n hwf hn M3 o oa oc (((hO.mono hM1).mono hM2).mono hM3) (wDn c.b.toNat (((wAx x.pf.data 4096).drop c.a.toNat).take c.c.toNat)) 89 [pt b5, pt b13] _ (by kernel_rfl) (fun _ xx hxx hl => share1_spec xx hxx hl c ca ck M3 (((hC.mono hM1).mono hM2).mono hM3) b5 (hM3 _ _ (hM2 _ _ e5)) (((wAx x.pf.data 4096).drop c.a.toNat).take c.c.toNat) (slA (some ⟨gb, 0, none⟩) c.a.toNat cap 1) (cap - c.a.toNat) hsd b13 (by rw [hdl]; exact hM3 _ _ e13) (by rw [hdl]; omega) y1 y3 y5))) ?_; rintro _ M4 _ ⟨hM4, R3, rfl, ⟨S2, dv2, nv2, R1, R2, hk1, hk2, rfl, hk3, hk4, rfl⟩⟩
  obtain ⟨da2, dc2, rfl⟩ := hk3.form
  obtain ⟨na2, nc2, rfl⟩ := Nms.nform hk4
  refine sSt rfl ?_
  refine wAc (jT (wAg (wFu (rs := [_]) (S2.own ++ (R1 ++ R2)) rfl (.cons (.agg rfl rfl rfl) .nil) ?_)))
  have hr : wDd S.abs c w o = wDv S.abs o true (wDn c.b.toNat (((wAx x.pf.data 4096).drop c.a.toNat).take c.c.toNat)) := by
   unfold wDd; rw [if_pos hyes, hw]; simp only; unfold dataAt; rw [wFv hv hx]
  rw [hr]; exact ⟨S2, _, _, R1, R2, hk1, hk2, rfl, hk3, hk4, rfl⟩
 refine wEo [4, 14] (by kernel_rfl) rfl ⟨?_, ?_, trivial⟩
 ·refine js_h rfl rfl rfl (hCl (clone_lent hsm (by omega))) ?_; rintro _ _ _ ⟨_, _, rfl, ⟨rfl, R4, rfl, hB4⟩⟩
  refine wDb (MLe.refl _) (by intro p hp; simp only [List.mem_cons, List.mem_append, List.not_mem_nil, or_false] at hp ⊢; rcases hp with h | h | h | h | h <;> simp only [h, true_or, or_true]) ?_
  obtain ⟨da4, dc4, rfl⟩ := hB4.form
  simp only [List.append_assoc, List.cons_append, List.nil_append]
  refine wEo [5, 14] (by kernel_rfl) rfl ⟨?_, ?_, trivial⟩
  ·refine js_h rfl rfl rfl (hCl (wGi da4 dc4 R4 x.pf.data 4096 _ hB4 (by omega) (by omega) hlen)) ?_; rintro _ _ _ ⟨_, R5, rfl, ⟨rfl, hB5⟩⟩
   refine wDb (MLe.refl _) (by intro p hp; simp only [List.mem_cons, List.mem_append, List.not_mem_nil, or_false] at hp ⊢; rcases hp with h | h | h | h | h <;> simp only [h, true_or, or_true]) ?_
   obtain ⟨gb, cap, cur, rfl, rfl, k1, k2, k3, k4⟩ := hB5.block (fun e => absurd (congrArg List.length e) (by rw [wAq]; decide))
   rw [wAq] at k1 k4
   simp only [wAq]
   simp only [List.append_assoc, List.cons_append, List.nil_append]
   refine ja_q (i := 13) rfl (by kernel_rfl) (by kernel_rfl) rfl rfl (qEq (v' := .slice (slA (some ⟨gb, 0, none⟩) c.a.toNat cap 1) c.c.toNat (cap - c.a.toNat)) (qSl rfl rfl rfl (.no _) (.of rfl (by omega) rfl) (.of rfl (by omega) rfl) (by omega) (by simp)) (by congr 1; omega)) ?_
   refine wEo [14] (by kernel_rfl) rfl ⟨?_, trivial⟩
   refine js_h rfl rfl rfl (wGe rfl rfl) ?_; rintro _ _ _ ⟨b13, rfl, rfl, rfl⟩
   refine wDb (MLe.refl _) (by intro p hp; simp only [List.mem_cons, List.mem_append, List.not_mem_nil, or_false] at hp ⊢; rcases hp with h | h | h | h | h <;> simp only [h, true_or, or_true]) ?_
   refine wJa (listed' := #[true, true, true, true, true, true, true, true, true, true, true, true, true, true, true, false]) (by kernel_rfl) (wHy (.cons (t := 0) rfl (.cons (t := 5) rfl (.cons (t := 6) rfl (.cons (t := 7) rfl (.cons (t := 8) rfl (.cons (t := 13) rfl (.cons (t := 93) rfl .nil))))))) ?_)
   exact wHx (fun _ h => h.perm (by first | exact shA | exact shB | exact shC)) (MLe.refl _) (by intro p hp; simp only [List.mem_cons, List.mem_append, List.not_mem_nil, or_false] at hp ⊢; rcases hp with h | h | h | h | h <;> simp only [h, true_or, or_true]) (rest (b13, gb, cap, cur) ⟨k1, k2, k3, k4⟩)
  refine js_h rfl rfl rfl (wGe rfl rfl) ?_; rintro _ _ _ ⟨b13, rfl, rfl, rfl⟩
  refine wDb (MLe.refl _) (by intro p hp; simp only [List.mem_cons, List.mem_append, List.not_mem_nil, or_false] at hp ⊢; rcases hp with h | h | h | h | h <;> simp only [h, true_or, or_true]) ?_
  refine wEo [5] (by kernel_rfl) rfl ⟨?_, trivial⟩
  refine js_h rfl rfl rfl (hCl (wGi da4 dc4 R4 x.pf.data 4096 _ hB4 (by omega) (by omega) hlen)) ?_; rintro _ _ _ ⟨_, R5, rfl, ⟨rfl, hB5⟩⟩
  refine wDb (MLe.refl _) (by intro p hp; simp only [List.mem_cons, List.mem_append, List.not_mem_nil, or_false] at hp ⊢; rcases hp with h | h | h | h | h <;> simp only [h, true_or, or_true]) ?_
  obtain ⟨gb, cap, cur, rfl, rfl, k1, k2, k3, k4⟩ := hB5.block (fun e => absurd (congrArg List.length e) (by rw [wAq]; decide))
  rw [wAq] at k1 k4
  simp only [wAq]
  simp only [List.append_assoc, List.cons_append, List.nil_append]
  refine ja_q (i := 13) rfl (by kernel_rfl) (by kernel_rfl) rfl rfl (qEq (v' := .slice (slA (some ⟨gb, 0, none⟩) c.a.toNat cap 1) c.c.toNat (cap - c.a.toNat)) (qSl rfl rfl rfl (.no _) (.of rfl (by omega) rfl) (.of rfl (by omega) rfl) (by omega) (by simp)) (by congr 1; omega)) ?_
  refine wJa (listed' := #[true, true, true, true, true, true, true, true, true, true, true, true, true, true, true, false]) (by kernel_rfl) (wHy (.cons (t := 0) rfl (.cons (t := 5) rfl (.cons (t := 6) rfl (.cons (t := 7) rfl (.cons (t := 8) rfl (.cons (t := 13) rfl (.cons (t := 93) rfl .nil))))))) ?_)
  exact wHx (fun _ h => h.perm (by first | exact shA | exact shB | exact shC)) (MLe.refl _) (by intro p hp; simp only [List.mem_cons, List.mem_append, List.not_mem_nil, or_false] at hp ⊢; rcases hp with h | h | h | h | h <;> simp only [h, true_or, or_true]) (rest (b13, gb, cap, cur) ⟨k1, k2, k3, k4⟩)
 refine js_h rfl rfl rfl (wGe rfl rfl) ?_; rintro _ _ _ ⟨b13, rfl, rfl, rfl⟩
 refine wDb (MLe.refl _) (by intro p hp; simp only [List.mem_cons, List.mem_append, List.not_mem_nil, or_false] at hp ⊢; rcases hp with h | h | h | h | h <;> simp only [h, true_or, or_true]) ?_
 refine wEo [4] (by kernel_rfl) rfl ⟨?_, trivial⟩
 refine js_h rfl rfl rfl (hCl (clone_lent hsm (by omega))) ?_; rintro _ _ _ ⟨_, _, rfl, ⟨rfl, R4, rfl, hB4⟩⟩
 refine wDb (MLe.refl _) (by intro p hp; simp only [List.mem_cons, List.mem_append, List.not_mem_nil, or_false] at hp ⊢; rcases hp with h | h | h | h | h <;> simp only [h, true_or, or_true]) ?_
 obtain ⟨da4, dc4, rfl⟩ := hB4.form
 simp only [List.append_assoc, List.cons_append, List.nil_append]
 refine wEo [5] (by kernel_rfl) rfl ⟨?_, trivial⟩
 refine js_h rfl rfl rfl (hCl (wGi da4 dc4 R4 x.pf.data 4096 _ hB4 (by omega) (by omega) hlen)) ?_; rintro _ _ _ ⟨_, R5, rfl, ⟨rfl, hB5⟩⟩
 refine wDb (MLe.refl _) (by intro p hp; simp only [List.mem_cons, List.mem_append, List.not_mem_nil, or_false] at hp ⊢; rcases hp with h | h | h | h | h <;> simp only [h, true_or, or_true]) ?_
 obtain ⟨gb, cap, cur, rfl, rfl, k1, k2, k3, k4⟩ := hB5.block (fun e => absurd (congrArg List.length e) (by rw [wAq]; decide))
 rw [wAq] at k1 k4
 simp only [wAq]
 simp only [List.append_assoc, List.cons_append, List.nil_append]
 refine ja_q (i := 13) rfl (by kernel_rfl) (by kernel_rfl) rfl rfl (qEq (v' := .slice (slA (some ⟨gb, 0, none⟩) c.a.toNat cap 1) c.c.toNat (cap - c.a.toNat)) (qSl rfl rfl rfl (.no _) (.of rfl (by omega) rfl) (.of rfl (by omega) rfl) (by omega) (by simp)) (by congr 1; omega)) ?_
 refine wJa (listed' := #[true, true, true, true, true, true, true, true, true, true, true, true, true, true, true, false]) (by kernel_rfl) (wHy (.cons (t := 0) rfl (.cons (t := 5) rfl (.cons (t := 6) rfl (.cons (t := 7) rfl (.cons (t := 8) rfl (.cons (t := 13) rfl (.cons (t := 93) rfl .nil))))))) ?_)
 exact wHx (fun _ h => h.perm (by first | exact shA | exact shB | exact shC)) (MLe.refl _) (by intro p hp; simp only [List.mem_cons, List.mem_append, List.not_mem_nil, or_false] at hp ⊢; rcases hp with h | h | h | h | h <;> simp only [h, true_or, or_true]) (rest (b13, gb, cap, cur) ⟨k1, k2, k3, k4⟩)
end Go.Proofs.YtokljhkplbkggaaGreatDoor
