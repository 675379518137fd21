/- Walks: what a directory lists. -/
import Derived.Test.YtokljhkplbkggaaGreatDoorZOpsa
import Derived.Test.YtokljhkplbkggaaGreatDoorZQs
import Derived.Test.YtokljhkplbkggaaGreatDoorZTurn
import Derived.Test.YtokljhkplbkggaaGreatDoorZMake
namespace Go.Proofs.YtokljhkplbkggaaGreatDoor
set_option linter.unusedSimpArgs false
set_option linter.unusedVariables false
set_option linter.unusedSectionVars false
open Go.RowKit Go.MapKept
theorem perm_lift {α β : Type} (f : α → β) : ∀ {m : List β} {l : List α}, (l.map f).Perm m → ∃ l', l.Perm l' ∧ l'.map f = m
 | [], l, h => ⟨l, List.Perm.refl _, h.eq_nil⟩
 | b :: m, l, h => by
  have hb : b ∈ l.map f := h.mem_iff.2 (List.mem_cons_self ..)
  obtain ⟨a, ha, rfl⟩ := List.mem_map.1 hb
  obtain ⟨X, Y, rfl⟩ := List.append_of_mem ha
  have h2 : ((X ++ Y).map f).Perm m := by
   refine List.Perm.cons_inv (a := f a) ?_
   refine List.Perm.trans ?_ h
   simp only [List.map_append, List.map_cons]
   exact List.perm_middle.symm
  obtain ⟨l', h3, h4⟩ := perm_lift f h2
  exact ⟨a :: l', List.perm_middle.trans (List.Perm.cons a h3), by rw [List.map_cons, h4]⟩
def TwL (v : CV) (rem : List (Int × Value)) (dn : List (Int × CF)) : Prop := ∃ rf : List (Int × CF), rem.Perm (ptF rf) ∧ (wEf dn ++ wEf rf).Perm (wEf v.files) ∧ ∀ p ∈ rf, p ∈ v.files
theorem TwL.start (v : CV) : TwL v (ptF v.files) [] := ⟨v.files, List.Perm.refl _, List.Perm.refl _, fun _ h => h⟩
theorem TwL.step {v : CV} {rem rem2 : List (Int × Value)} {dn : List (Int × CF)} {k : Int} {u : Value} (h : TwL v rem dn) (hn : (wBg (wEf v.files)).Nodup) (hp : rem.Perm ((k, u) :: rem2)) : ∃ x, u = pt x.b ∧ wAm k v.files = some x ∧ wAm k dn = none ∧ ∀ x' : CF, x'.pf = x.pf → TwL v rem2 (dn ++ [(k, x')]) := by
 obtain ⟨rf, h1, h2, h3⟩ := h
 have hm : (k, u) ∈ ptF rf := h1.mem_iff.1 (hp.mem_iff.2 (List.mem_cons_self ..))
 obtain ⟨q, hq, hqe⟩ := List.mem_map.1 hm
 obtain ⟨k', x⟩ := q
 simp only [Prod.mk.injEq] at hqe
 obtain ⟨rfl, rfl⟩ := hqe
 obtain ⟨X, Y, rfl⟩ := List.append_of_mem hq
 have hnk : (wBg v.files).Nodup := by
  have e : wBg (wEf v.files) = wBg v.files := by simp [wBg, wEf]
  rw [← e]; exact hn
 refine ⟨x, rfl, wFf hnk (h3 _ hq), ?_, fun x' hx' => ⟨X ++ Y, ?_, ?_, fun p hp => h3 p ?_⟩⟩
 ·have h4 : (wBg (wEf dn ++ wEf (X ++ (k', x) :: Y))).Nodup := (h2.map (·.1)).nodup_iff.2 hn
  rw [wBg, List.map_append] at h4
  refine getA_none.2 fun hk => ?_
  refine (List.nodup_append.1 h4).2.2 k' ?_ k' ?_ rfl
  ·have e : (wEf dn).map (·.1) = wBg dn := by simp [wBg, wEf]
   rw [e]; exact hk
  simp [wEf]
 ·have h5 : (ptF (X ++ (k', x) :: Y)).Perm ((k', pt x.b) :: ptF (X ++ Y)) := by
   unfold ptF; simp only [List.map_append, List.map_cons]; exact List.perm_middle
  exact List.Perm.cons_inv ((hp.symm.trans h1).trans h5)
 ·refine List.Perm.trans ?_ h2
  unfold wEf
  simp only [List.map_append, List.map_cons, List.map_nil, hx', List.append_assoc, List.cons_append, List.nil_append]
  refine List.Perm.append_left _ ?_
  exact List.perm_middle.symm
 rcases List.mem_append.1 hp with h | h
 ·exact List.mem_append_left _ h
 exact List.mem_append_right _ (List.mem_cons_of_mem _ h)
theorem TwL.done {v : CV} {dn : List (Int × CF)} (h : TwL v [] dn) : ∃ fs, dn.Perm fs ∧ wEf fs = wEf v.files := by
 obtain ⟨rf, h1, h2, h3⟩ := h
 have : rf = [] := by have := h1.length_eq; exact List.eq_nil_of_length_eq_zero (by simpa [ptF] using this.symm)
 subst this
 exact perm_lift (fun p : Int × CF => (p.1, p.2.pf)) (by simpa [wEf] using h2)
theorem ownFs_snoc {l : List (Int × CF)} {k : Int} {x : CF} : wJr (l ++ [(k, x)]) = wJr l ++ x.own := by unfold wJr; rw [List.flatMap_append]; simp
theorem twP {r p12 p10 p47 : Nat × Obj} {D N F : Lc} : (p10 :: p47 :: (N ++ (D ++ (r :: p12 :: F)))).Perm (r :: p12 :: p10 :: (F ++ (p47 :: (D ++ N)))) := wJq fun f => by simp only [List.map_append, List.map_cons, List.sum_append, List.sum_cons]; omega
set_option maxHeartbeats 2000000 in
theorem twin_spec (v : CV) (hv : v.Ok) (n : Nat) (hwv : WFV n v.abs) (M : Mem) (hV : ∀ p ∈ v.own, M p.1 = some p.2) :
  SpecL Tryz.prog 77 #[pt v.b] M [] fun u M' L' => M' = M ∧ ∃ v' : CV, v'.Ok ∧ v'.abs = { v.abs with frozen := false } ∧ u = pt v'.b ∧ L' = v'.own := by
 have hnn : (wBg (wEf v.files)).Nodup := hwv.wf.nd
 refine wAe (vs := [_]) 49 _ Tryz.func77 rfl Tryz.ntmps77 rfl rfl ?_; intro W
 refine wAb (wAa (jp rfl (wAc (jT (wAb (wAa (jp rfl (lq (wAj rfl rfl rfl) ?_))))))))
 refine sFa rfl ?_
 refine lq (qLd rfl rfl rfl rfl ((Vw.v (Vw.inM hV)).cj rfl)) ?_
 refine wCe rfl rfl (wHp rfl rfl) ?_; rintro _ _ _ ⟨b10, rfl, rfl, rfl⟩
 refine lq (wBe (cs := [_, _, _]) rfl rfl rfl (by rfl)) ?_
 refine sBx [_, _, _] rfl fun b12 => ?_
 refine jp rfl (wAc (jT (wAb (wAb (wAa (jp rfl (lq (wAj rfl rfl rfl) ?_)))))))
 refine sFa rfl ?_
 refine lq (qLd rfl rfl rfl rfl ((Vw.v (Vw.inM hV)).cj rfl)) ?_
 refine wCe rfl rfl (hRangeMap kU rfl rfl rfl (Vw.vmo (Vw.inM hV)) hv.mo) ?_; rintro _ _ _ ⟨r, it, rfl, rfl, rfl, hit⟩
 refine wAc (jT (wAk ?_))
 refine wBr (α := Obj × List (Int × Value) × List (Int × CF) × Obj) (fun z => [(0, pt v.b), (3, pt b12), (17, .pointer (some ⟨r, 0, none⟩))]) (fun _ => M) (fun z => (r, z.1) :: (b12, .cells [.bool false, .int .u32 v.next, .map (some b10)].toArray 130 (0, 0)) :: (b10, z.2.2.2) :: wJr z.2.2.1) (fun z => IterOf kU v.mb v.mo z.1 z.2.1 ∧ MapOf kU z.2.2.2 (ptF z.2.2.1) ∧ (∀ p ∈ z.2.2.1, p.2.Ok) ∧ TwL v z.2.1 z.2.2.1) (fun z => z.2.1.length)
  (it, ptF v.files, [], .map #[] 0) (.cons (t := 0) rfl (.cons (t := 3) rfl (.cons (t := 17) rfl .nil))) ⟨hit, MapOf.empty, (fun _ h => by cases h), TwL.start v⟩ (fun _ h => h) ?_
 rintro ⟨it2, rem, dn, mo2⟩ ⟨hit2, hmo, hdn, htw⟩
 dsimp only at hit2 hmo hdn htw ⊢
 refine wAb (wAa (wCe rfl rfl (hNextMap kU rfl rfl rfl (Vw.vmo (Vw.inM hV)) hit2) ?_)); rintro _ _ _ ⟨rfl, hy⟩
 rcases hy with ⟨hrem, rfl, rfl⟩ | ⟨k, u, rem2, it3, hpm, rfl, rfl, hit3, hcur⟩
 ·refine jp rfl (wAc (jT (wAb (wAh rfl (wBx (jTx (jTx (jBx (jT (wAb (wAa (jp rfl (jp rfl (wAc (jT (wAg ?_))))))))))))))))
  subst hrem
  obtain ⟨fs, hpf, haf⟩ := htw.done
  refine wKt (L' := ((b12, .cells [.bool false, .int .u32 v.next, .map (some b10)].toArray 130 (0, 0)) :: (b10, mo2) :: wJr fs)) (fun _ h => (h.fewer (List.sublist_cons_self _ _)).perm (List.Perm.cons _ (List.Perm.cons _ (List.Perm.flatMap_right _ hpf)))) ?_
  refine jr1 rfl rfl ?_
  exact ⟨rfl, { frozen := false, next := v.next, b := b12, mb := b10, mo := mo2, files := fs }, ⟨hmo.perm (hpf.map _), fun p hp => hdn p (hpf.mem_iff.2 hp)⟩, by unfold CV.abs; simp only; rw [haf], rfl, rfl⟩
 refine jp rfl (wAc (jT (wAb (wAf rfl (wAd (jT (wAk (wAb (wAa ?_)))))))))
 obtain ⟨x, rfl, hxk, hkd, hstep⟩ := htw.step hnn hpm
 refine lq (qEntryO kU rfl rfl rfl OJ.of (Vw.vmo (Vw.inM hV)) hcur) ?_
 refine jp rfl (jp rfl (jp rfl (jp rfl (wAc (jT ?_)))))
 have hxok := hv.x hxk
 obtain ⟨dad, dc, hdv⟩ := hxok.byt.form
 have hB : Byt (.slice dad x.pf.data.length dc) x.dR x.pf.data := hdv ▸ hxok.byt
 have hVx : ∀ p ∈ x.own, M p.1 = some p.2 := fun p hp => by
  have := Vw.file (Vw.inM (L := []) hV) hxk p hp
  rcases this with h | h
  ·exact h
  cases h
 have hsm : SM M dad (wAn x.pf.data) := by
  obtain ⟨a9, c9, e9, _, _, h9⟩ := hB.sm (M := M) (fun p hp => hVx p (by unfold CF.own; simp [hp]))
  cases e9; exact h9
 have hlen : x.pf.data.length ≤ 4096 := (hwv.wf.len k x.pf (by show wAm k (wEf v.files) = _; rw [wBs, hxk]; rfl)).1
 refine wBn (p := { A := fun i => !([25].contains i), U := fun i => !([25].contains i) }) [(0, true), (1, true), (2, true), (3, true), (4, true), (5, true), (6, true), (7, true), (8, true), (9, true), (10, true), (11, true), (12, true), (13, true), (14, true), (15, true), (16, true), (18, true), (19, true), (20, true), (21, true), (17, false), (22, false), (23, true), (24, false), (25, false)] M ([(b12, .cells [.bool false, .int .u32 v.next, .map (some b10)].toArray 130 (0, 0))]) ([]) (by kernel_rfl) (by kernel_rfl) (by kernel_rfl) (by kernel_rfl) rfl (by simp) (MLe.refl _) (by simp) ?_
 refine dp rfl rfl ?_
 refine dq rfl (wAj rfl rfl rfl) ?_
 refine dFa rfl rfl ?_
 refine dLd rfl rfl ?_
 iterate 2 refine dp rfl rfl ?_
 refine dq rfl (wAj rfl rfl rfl) ?_
 refine dFa rfl rfl ?_
 refine dq rfl (qLd rfl rfl rfl rfl ((Vw.x (Vw.file (Vw.inM hV) hxk)).cj rfl)) ?_
 refine dp rfl rfl ?_
 refine dq rfl (wAj rfl rfl rfl) ?_
 refine dFa rfl rfl ?_
 refine dq rfl (qLd rfl rfl rfl rfl ((Vw.x (Vw.file (Vw.inM hV) hxk)).cj rfl)) ?_
 refine dp rfl rfl ?_
 refine dq rfl (wAj rfl rfl rfl) ?_
 refine dFa rfl rfl ?_
 refine dq rfl (qEq (qLd rfl rfl rfl rfl ((Vw.x (Vw.file (Vw.inM hV) hxk)).cj rfl)) hdv) ?_
 refine dp rfl rfl ?_
 refine dq rfl (wAj rfl rfl rfl) ?_
 refine dFa rfl rfl ?_
 refine dq rfl (qLd rfl rfl rfl rfl ((Vw.x (Vw.file (Vw.inM hV) hxk)).cj rfl)) ?_
 refine wJf rfl rfl rfl (hCl (clone_spec dad dc x.pf.data M hsm (by omega))) ?_; rintro _ _ _ ⟨_, R40, rfl, ⟨rfl, hB40⟩⟩
 refine ⟨_, _, MLe.refl _, MLe.refl _, fun _ h => h, by simp, ?_⟩
 obtain ⟨da40, dc40, rfl⟩ := hB40.form
 refine wJf rfl rfl rfl (hCl (clonenm_spec _ x hxok (fun p hp => hVx p (by unfold CF.own; simp [hp])))) ?_; rintro _ _ _ ⟨_, R45, rfl, ⟨rfl, o45, rfl, hN45⟩⟩
 refine ⟨_, _, MLe.refl _, MLe.refl _, fun _ h => h, by simp, ?_⟩
 refine dq rfl (wBe (cs := [_, _, _, _]) rfl rfl rfl (by rfl)) ?_
 refine wJf rfl rfl rfl (hBox (cs := [_, _, _, _]) rfl rfl rfl rfl) ?_; rintro _ _ _ ⟨b47, rfl, rfl, rfl⟩
 refine ⟨_, _, MLe.refl _, MLe.refl _, fun _ h => h, by simp, ?_⟩
 refine wJu rfl rfl (hMapPutO kU (k := k) rfl (.inl rfl) rfl rfl rfl hmo) ?_; rintro _ _ _ ⟨rfl, mo3, rfl, hmo3⟩
 refine ⟨MLe.refl _, by simp, ?_⟩
 refine wCu ?_
 refine jPn (jB ?_)
 refine wBu (it3, rem2, dn ++ [(k, ({ x with b := b47, dv := .slice da40 x.pf.data.length dc40, dR := R40, nm := .map o45, nR := R45 } : CF))], mo3) (.cons (t := 0) rfl (.cons (t := 3) rfl (.cons (t := 17) rfl .nil))) ⟨hit3, ?_, fun p hp => ?_, hstep _ rfl⟩ (by dsimp only; have := hpm.length_eq; simp at this; omega) (fun _ h => by dsimp only; rw [ownFs_snoc]; exact h.perm twP)
 ·dsimp only; rw [wEy (getA_none.1 (by rw [ptF_get, hkd]; rfl))] at hmo3; unfold ptF at hmo3 ⊢; rw [List.map_append]; exact hmo3
 rcases List.mem_append.1 hp with hp | hp
 ·exact hdn p hp
 rw [List.mem_singleton.1 hp]; exact ⟨hB40, hN45 _ _ _⟩
theorem twin_lent {S : CS} (hS : S.Ok) {n : Nat} {vol : Int} {v : CV} (hv : wAm vol S.vols = some v) (hwv : WFV n v.abs) (M : Mem) : SpecL Tryz.prog 77 #[pt v.b] M S.own fun u M' L' => M' = M ∧ ∃ L1, L' = S.own ++ L1 ∧ ∃ v' : CV, v'.Ok ∧ v'.abs = { v.abs with frozen := false } ∧ u = pt v'.b ∧ L1 = v'.own :=
 SpecL.lendM fun hn hd => twin_spec v (hS.v hv) n hwv _ fun p hp => by
  have := Vw.vol (Vw.inM (L := []) (wBf (M := M) hn)) hv p hp
  rcases this with h | h
  ·exact h
  cases h
theorem snapP {S F : Lc} {p q a b c d : Nat × Obj} : ((S ++ (p :: q :: F)) ++ [a, b, c, d]).Perm (p :: q :: (F ++ (S ++ [a, b, c, d]))) := wJq fun f => by simp only [List.cons_append, List.map_append, List.map_cons, List.map_nil, List.sum_append, List.sum_cons, List.sum_nil]; omega
theorem snap_none (S : CS) (hS : S.Ok) (n : Nat) (hwf : WFS n S.abs) (hn : n ≤ 100) (M : Mem) (c : CL) (ca : Option Addr) (ck : Nat) (hC : CallOk M c ca ck) (w : Wy) (na : Option Addr) (nc : Nat) (hW : WyOk M w na nc) (o : Wy) (oa : Option Addr) (oc : Nat) (hO : WyOk M o oa oc) (hv : wAm c.a S.vols = none) :
  SpecL Tryz.prog 38 #[pt S.b, clV c ca ck, wyV w na nc, wyV o oa oc] M S.own fun u M' L' => OpP S.b (wHi S.abs c) u M' L' := by
 refine SpecL.mem fun hnd hdis => ?_
 have hVa := wBf (M := M) hnd
 have hMa := wBk hdis
 have hVw : ∀ L, SubL S.own L → Vw M L S.own := fun L h => Vw.of
 refine wAe (vs := [_, _, _, _]) 37 _ Tryz.func38 rfl Tryz.ntmps38 rfl rfl ?_; intro W
 refine wAb (wAa (sBx [_, _, _, _, _, _, _] rfl fun b5 => ?_))
 refine sBx [_, _] rfl fun b6 => ?_
 refine sBx [_, _] rfl fun b7 => ?_
 refine sAl rfl fun b8 => ?_
 refine wAc (jT (wAb (wAb (wAa (sFL rfl rfl ?_)))))
 refine wEk rfl rfl (qCl (wGd c.b 0 1 M)) (fun h13 => ?_) (fun h13 => ?_)
 ·refine jp rfl (wAc (jT (wAh rfl (wAd (jT (wAb (wCw [(0, true), (1, true), (2, true), (3, true), (4, true), (5, true), (6, true), (7, true)] ((b8, _) :: (b7, _) :: (b6, _) :: (b5, _) :: S.own) (fun _ h => h) ?_)))))))
  refine dp rfl rfl ?_
  refine dq rfl (wAj rfl rfl rfl) ?_
  refine dFa rfl rfl ?_
  refine dq rfl (qLd rfl rfl rfl rfl ((Vw.s Vw.of).cj rfl)) ?_
  refine dFa rfl rfl ?_
  refine dLd rfl rfl ?_
  refine dq rfl (qEq (v' := .pointer none) (wDk kI (z := .pointer none) rfl rfl rfl rfl (by kernel_rfl) (Vw.mo Vw.of) hS.mo) (by rw [wEv, hv]; try rfl)) ?_
  refine dp rfl rfl ?_
  refine wAs (jPn (jT (wAb (wAb (wAa (jp rfl (lq (qEq (wJo rfl rfl rfl rfl) (v' := .bool true) (by rfl)) ?_)))))))
  refine wAc (jT (wAf rfl (wAb (wAa (lq (qCl (wAt 6 M)) ?_)))))
  refine sSt rfl ?_
  refine wAc (jT (wAg (jTr (wFu (rs := [_]) (S.own) rfl (.cons (.agg rfl rfl rfl) .nil) ?_))))
  have hr : wHi S.abs c = (S.abs, wCa 6) := by
   unfold wHi; rw [h13, wBp, hv]; rfl
  rw [hr]; exact OpP.plain (r := (S.abs, _)) hS rfl rfl rfl rfl
 refine jp rfl (wAc (jT (wAf rfl (wAb (wAa (lq (qCl (wAt 2 M)) ?_))))))
 refine sSt rfl ?_
 refine wAc (jT (wAg (jTr (wFu (rs := [_]) (S.own) rfl (.cons (.agg rfl rfl rfl) .nil) ?_))))
 have hr : wHi S.abs c = (S.abs, wCa 2) := by
  unfold wHi; rw [h13]; rfl
 rw [hr]; exact OpP.plain (r := (S.abs, _)) hS rfl rfl rfl rfl
set_option maxHeartbeats 1000000 in
theorem snap_some (S : CS) (hS : S.Ok) (n : Nat) (hwf : WFS n S.abs) (hn : n ≤ 100) (M : Mem) (c : CL) (ca : Option Addr) (ck : Nat) (hC : CallOk M c ca ck) (w : Wy) (na : Option Addr) (nc : Nat) (hW : WyOk M w na nc) (o : Wy) (oa : Option Addr) (oc : Nat) (hO : WyOk M o oa oc) (v : CV) (hv : wAm c.a S.vols = some v) :
  SpecL Tryz.prog 38 #[pt S.b, clV c ca ck, wyV w na nc, wyV o oa oc] M S.own fun u M' L' => OpP S.b (wHi S.abs c) u M' L' := by
 refine SpecL.mem fun hnd hdis => ?_
 have hVa := wBf (M := M) hnd
 have hMa := wBk hdis
 have hVw : ∀ L, SubL S.own L → Vw M L S.own := fun L h => Vw.of
 have hwv : WFV n v.abs := hwf.vol c.a v.abs (by rw [wBp, hv]; rfl)
 refine wAe (vs := [_, _, _, _]) 37 _ Tryz.func38 rfl Tryz.ntmps38 rfl rfl ?_; intro W
 refine wAb (wAa (sBx [_, _, _, _, _, _, _] rfl fun b5 => ?_))
 refine sBx [_, _] rfl fun b6 => ?_
 refine sBx [_, _] rfl fun b7 => ?_
 refine sAl rfl fun b8 => ?_
 refine wAc (jT (wAb (wAb (wAa (sFL rfl rfl ?_)))))
 refine wEk rfl rfl (qCl (wGd c.b 0 1 M)) (fun h13 => ?_) (fun h13 => ?_)
 ·refine jp rfl (wAc (jT (wAh rfl (wAd (jT (wAb (wCw [(0, true), (1, true), (2, true), (3, true), (4, true), (5, true), (6, true), (7, true)] ((b8, _) :: (b7, _) :: (b6, _) :: (b5, _) :: S.own) (fun _ h => h) ?_)))))))
  refine dp rfl rfl ?_
  refine dq rfl (wAj rfl rfl rfl) ?_
  refine dFa rfl rfl ?_
  refine dq rfl (qLd rfl rfl rfl rfl ((Vw.s Vw.of).cj rfl)) ?_
  refine dFa rfl rfl ?_
  refine dLd rfl rfl ?_
  refine dq rfl (qEq (v' := pt v.b) (wDk kI (z := .pointer none) rfl rfl rfl rfl (by kernel_rfl) (Vw.mo Vw.of) hS.mo) (by rw [wEv, hv]; try rfl)) ?_
  refine dp rfl rfl ?_
  refine wAs (jPn (jT (wAb (wAb (wAa (jp rfl (lq (qEq (wJo rfl rfl rfl rfl) (v' := .bool false) (by rfl)) ?_)))))))
  refine wAc (jT (wAh rfl (wAd (jT (wAb (wAa (jp rfl (wCe rfl rfl (hCl (twin_lent hS hv hwv M)) ?_)))))))); rintro _ _ _ ⟨_, _, rfl, ⟨rfl, L1, rfl, v', hvo, hva, rfl, rfl⟩⟩
  refine jl_weak (L' := ((v'.b, .cells [.bool v'.frozen, .int .u32 v'.next, .map (some v'.mb)].toArray 130 (0, 0)) :: (v'.mb, v'.mo) :: (wJr v'.files ++ (S.own ++ [(b8, _), (b7, _), (b6, _), (b5, _)])))) (fun _ h => h.perm snapP) ?_
  refine jp rfl (wAc (jT (wAb (wAa (jp rfl (sFL rfl rfl ?_))))))
  refine jp rfl (lq (wAj rfl rfl rfl) ?_)
  refine sFa rfl ?_
  refine sSt rfl ?_
  refine wAc (jT (wAb (wAa (jp rfl (jp rfl (jl_weak (L' := (S.own ++ ({ v' with frozen := decide (c.b = 1) } : CV).own) ++ [(b8, _), (b7, _), (b6, _), (b5, _)]) (fun _ h => h.perm (snapP (S := S.own)).symm) ?_))))))
  refine wCe rfl rfl (hCl (add_spec S hS n hwf hn ({ v' with frozen := decide (c.b = 1) } : CV) ⟨hvo.mo, hvo.fs⟩ _)) ?_; rintro _ M2 _ ⟨hM2, R3, rfl, ⟨S2, dv2, nv2, R1, R2, hk1, hk2, rfl, hk3, hk4, rfl⟩⟩
  obtain ⟨da2, dc2, rfl⟩ := hk3.form
  obtain ⟨na2, nc2, rfl⟩ := Nms.nform hk4
  refine sSt rfl ?_
  refine wAc (jT (wAg (wFu (rs := [_]) (S2.own ++ (R1 ++ R2)) rfl (.cons (.agg rfl rfl rfl) .nil) ?_)))
  have hr : wHi S.abs c = addS S.abs ({ v' with frozen := decide (c.b = 1) } : CV).abs := by
   unfold wHi; rw [h13, wBp, hv]; simp only [if_true, Option.map_some]
   have e : ({ v' with frozen := decide (c.b = 1) } : CV).abs = { v'.abs with frozen := decide (c.b = 1) } := rfl
   rw [e, hva]
  rw [hr]; exact ⟨S2, _, _, R1, R2, hk1, hk2, rfl, hk3, hk4, rfl⟩
 refine jp rfl (wAc (jT (wAf rfl (wAb (wAa (lq (qCl (wAt 2 M)) ?_))))))
 refine sSt rfl ?_
 refine wAc (jT (wAg (jTr (wFu (rs := [_]) (S.own) rfl (.cons (.agg rfl rfl rfl) .nil) ?_))))
 have hr : wHi S.abs c = (S.abs, wCa 2) := by
  unfold wHi; rw [h13]; rfl
 rw [hr]; exact OpP.plain (r := (S.abs, _)) hS rfl rfl rfl rfl
theorem snap_spec (S : CS) (hS : S.Ok) (n : Nat) (hwf : WFS n S.abs) (hn : n ≤ 100) (M : Mem) (c : CL) (ca : Option Addr) (ck : Nat) (hC : CallOk M c ca ck) (w : Wy) (na : Option Addr) (nc : Nat) (hW : WyOk M w na nc) (o : Wy) (oa : Option Addr) (oc : Nat) (hO : WyOk M o oa oc) : SpecL Tryz.prog 38 #[pt S.b, clV c ca ck, wyV w na nc, wyV o oa oc] M S.own fun u M' L' => OpP S.b (wHi S.abs c) u M' L' := by
 cases hv : wAm c.a S.vols with
 | none => exact snap_none S hS n hwf hn M c ca ck hC w na nc hW o oa oc hO hv
 | some v => exact snap_some S hS n hwf hn M c ca ck hC w na nc hW o oa oc hO v hv
theorem keys_spec (b : Nat) (M : Mem) :
  SpecL Tryz.prog 94 #[.map (some b)] M [] fun u M' L' => M' = M ∧ ∃ c, u = .func (.func 111) #[] #[.pointer (some ⟨c, 0, none⟩)] ∧ L' = [(c, .cells [.map (some b)].toArray 125 (0, 0))] := by
 refine wAe (vs := [_]) 4 _ Tryz.func94 rfl Tryz.ntmps94 rfl rfl ?_; intro W
 refine wAb (wAa (wCe rfl rfl (hBox rfl rfl rfl rfl) ?_)); rintro _ _ _ ⟨b1, rfl, rfl, rfl⟩
 refine jp rfl (wAc (jT (wAb (wAa (jp rfl (jp rfl (wAc (jT (wAg (jr1 rfl rfl ?_))))))))))
 exact ⟨rfl, _, rfl, rfl⟩
theorem sorted_lent {M : Mem} {R : Lc} {b c : Nat} {mo : Obj} {l : List (Str × Value)} (hb : (b, mo) ∈ R) (hc : (c, Obj.cells [.map (some b)].toArray 125 (0, 0)) ∈ R) (hm : MapOf kS mo l) (hw : ∀ p ∈ l, p.1.size ≤ 64) (hlen : l.length ≤ 1000000) :
  SpecL Tryz.prog 93 #[.func (.func 111) #[] #[.pointer (some ⟨c, 0, none⟩)]] M R fun v M' L' => M' = M ∧ ∃ L1, L' = R ++ L1 ∧ Nms v L1 ((l.map (·.1)).mergeSort wHw) :=
 SpecL.lendM fun hn hd => sortedS_spec (wDu M R) b c mo l (wBf hn _ hb) (wBf hn _ hc) hm hw hlen
theorem list_e (S : CS) (hS : S.Ok) (n : Nat) (hwf : WFS n S.abs) (hn : n ≤ 100) (M : Mem) (c : CL) (ca : Option Addr) (ck : Nat) (hC : CallOk M c ca ck) (w : Wy) (na : Option Addr) (nc : Nat) (hW : WyOk M w na nc) (o : Wy) (oa : Option Addr) (oc : Nat) (hO : WyOk M o oa oc) (e : Int) (hw : wBb S.abs w.1 w.2 = .error e) :
  SpecL Tryz.prog 51 #[pt S.b, clV c ca ck, wyV w na nc, wyV o oa oc] M S.own fun u M' L' => OpP S.b (wHv S.abs w) u M' L' := by
 refine SpecL.mem fun hnd hdis => ?_
 have hVa := wBf (M := M) hnd
 have hMa := wBk hdis
 have hVw : ∀ L, SubL S.own L → Vw M L S.own := fun L h => Vw.of
 have he := wEw hwf hw
 refine wAe (vs := [_, _, _, _]) 41 _ Tryz.func51 rfl Tryz.ntmps51 rfl rfl ?_; intro W
 refine wAb (wAa (sBx [_, _, _, _, _, _, _] rfl fun b5 => ?_))
 refine sBx [_, _] rfl fun b6 => ?_
 refine sBx [_, _] rfl fun b7 => ?_
 refine sAl rfl fun b8 => ?_
 refine wAc (jT (wAb (wAa (jp rfl (sFL rfl rfl ?_)))))
 refine sFL rfl rfl ?_
 refine lq (qEq (wBm (R := S.own) rfl rfl rfl rfl rfl (by kernel_rfl) (SubL.sub) (wCi S hS n hwf w.1 w.2 na nc (wDu M S.own) hVa (hW.sn.mono hMa) hW.big)) (by rw [hw]; try rfl)) ?_
 iterate 7 refine jp rfl ?_
 refine wAc (jT (wAb (wAk (wAb (wAa (jp rfl (jt rfl (decide_eq_true (by omega)) ?_)))))))
 refine jp rfl (wAc (jT (wAf rfl (wAb (wAa (jp rfl (lq (qCl (wAt e M)) ?_)))))))
 refine sSt rfl ?_
 refine wAc (jT (wAg (jBr (jTr (wFu (rs := [_]) (S.own) rfl (.cons (.agg rfl rfl rfl) .nil) ?_)))))
 have hr : wHv S.abs w = (S.abs, wCa e) := by
  unfold wHv; rw [hw]
 rw [hr]; exact OpP.plain (r := (S.abs, _)) hS rfl rfl rfl rfl
theorem list_nd (S : CS) (hS : S.Ok) (n : Nat) (hwf : WFS n S.abs) (hn : n ≤ 100) (M : Mem) (c : CL) (ca : Option Addr) (ck : Nat) (hC : CallOk M c ca ck) (w : Wy) (na : Option Addr) (nc : Nat) (hW : WyOk M w na nc) (o : Wy) (oa : Option Addr) (oc : Nat) (hO : WyOk M o oa oc) (id : Int) (hw : wBb S.abs w.1 w.2 = .ok id) (v : CV) (x : CF) (hv : wAm w.1 S.vols = some v) (hx : wAm id v.files = some x) (hd : x.pf.dir = false) :
  SpecL Tryz.prog 51 #[pt S.b, clV c ca ck, wyV w na nc, wyV o oa oc] M S.own fun u M' L' => OpP S.b (wHv S.abs w) u M' L' := by
 refine SpecL.mem fun hnd hdis => ?_
 have hVa := wBf (M := M) hnd
 have hMa := wBk hdis
 have hVw : ∀ L, SubL S.own L → Vw M L S.own := fun L h => Vw.of
 refine wAe (vs := [_, _, _, _]) 41 _ Tryz.func51 rfl Tryz.ntmps51 rfl rfl ?_; intro W
 refine wAb (wAa (sBx [_, _, _, _, _, _, _] rfl fun b5 => ?_))
 refine sBx [_, _] rfl fun b6 => ?_
 refine sBx [_, _] rfl fun b7 => ?_
 refine sAl rfl fun b8 => ?_
 refine wAc (jT (wAb (wAa (jp rfl (sFL rfl rfl ?_)))))
 refine sFL rfl rfl ?_
 refine lq (qEq (v' := .tuple #[.int .u32 id, pt x.b, .int .i64 0]) (wBm (R := S.own) rfl rfl rfl rfl rfl (by kernel_rfl) (SubL.sub) (wCi S hS n hwf w.1 w.2 na nc (wDu M S.own) hVa (hW.sn.mono hMa) hW.big)) (by rw [hw]; exact wBj hv hx)) ?_
 iterate 7 refine jp rfl ?_
 refine wAc (jT (wAb (wAk (wAb (wAa (jp rfl (jf rfl (decide_eq_false (by omega)) ?_)))))))
 refine jp rfl (wAc (jT (wAh rfl (wAb (wAa (jp rfl (lq (wAj rfl rfl rfl) ?_)))))))
 refine sFa rfl ?_
 refine lq (qEq (qLd rfl rfl rfl rfl ((Vw.x (Vw.file (Vw.vol Vw.of hv) hx)).cj rfl)) (v' := .bool false) (by exact congrArg Value.bool hd)) ?_
 refine jp rfl (jp rfl (wAc (jT (wAf rfl (wAb (wAa (lq (qCl (wAt 240 M)) ?_)))))))
 refine sSt rfl ?_
 refine wAc (jT (wAg (jBr (jTr (wFu (rs := [_]) (S.own) rfl (.cons (.agg rfl rfl rfl) .nil) ?_)))))
 have hr : wHv S.abs w = (S.abs, wCa 240) := by
  unfold wHv; rw [hw]; simp only; rw [wCn hv hx, hd]; rfl
 rw [hr]; exact OpP.plain (r := (S.abs, _)) hS rfl rfl rfl rfl
theorem listP {S : Lc} {p a b c d : Nat × Obj} : (p :: a :: b :: c :: d :: S).Perm ((p :: S) ++ [a, b, c, d]) := wJq fun f => by simp only [List.cons_append, List.map_append, List.map_cons, List.map_nil, List.sum_append, List.sum_cons, List.sum_nil]; omega
theorem list_ok (S : CS) (hS : S.Ok) (n : Nat) (hwf : WFS n S.abs) (hn : n ≤ 100) (M : Mem) (c : CL) (ca : Option Addr) (ck : Nat) (hC : CallOk M c ca ck) (w : Wy) (na : Option Addr) (nc : Nat) (hW : WyOk M w na nc) (o : Wy) (oa : Option Addr) (oc : Nat) (hO : WyOk M o oa oc) (id : Int) (hw : wBb S.abs w.1 w.2 = .ok id) (v : CV) (x : CF) (hv : wAm w.1 S.vols = some v) (hx : wAm id v.files = some x) (hd : x.pf.dir = true) (hwv : WFV n v.abs) :
  SpecL Tryz.prog 51 #[pt S.b, clV c ca ck, wyV w na nc, wyV o oa oc] M S.own fun u M' L' => OpP S.b (wHv S.abs w) u M' L' := by
 refine SpecL.mem fun hnd hdis => ?_
 have hVa := wBf (M := M) hnd
 have hMa := wBk hdis
 have hVw : ∀ L, SubL S.own L → Vw M L S.own := fun L h => Vw.of
 obtain ⟨nmb, nmo, e1, e2, e3⟩ := ((hS.v hv).x hx).map hd
 have hxa : wAm id (wEf v.files) = some x.pf := by rw [wBs, hx]; rfl
 have hmem : (nmb, nmo) ∈ S.own := by
  have := Vw.xn (Vw.file (Vw.vol (Vw.of (M := fun _ => none) (R := S.own) (L := S.own)) hv) hx) (nmb, nmo) (by rw [e2]; exact List.mem_singleton.2 rfl)
  rcases this with h | h
  ·cases h
  exact h
 have hz : ∀ p ∈ (x.pf.names.map fun q => (q.1, Value.int .u32 q.2)), p.1.size ≤ 64 := fun p hp => by obtain ⟨q, hq, rfl⟩ := List.mem_map.1 hp; exact hwv.nmz id x.pf q hxa hq
 have hlen : (x.pf.names.map fun q => (q.1, Value.int .u32 q.2)).length ≤ 1000000 := by rw [List.length_map]; have := (hwv.wf.len id x.pf hxa).2; omega
 have hkk : (x.pf.names.map fun q => (q.1, Value.int .u32 q.2)).map (·.1) = x.pf.names.map (·.1) := by rw [List.map_map]; rfl
 refine wAe (vs := [_, _, _, _]) 41 _ Tryz.func51 rfl Tryz.ntmps51 rfl rfl ?_; intro W
 refine wAb (wAa (sBx [_, _, _, _, _, _, _] rfl fun b5 => ?_))
 refine sBx [_, _] rfl fun b6 => ?_
 refine sBx [_, _] rfl fun b7 => ?_
 refine sAl rfl fun b8 => ?_
 refine wAc (jT (wAb (wAa (jp rfl (sFL rfl rfl ?_)))))
 refine sFL rfl rfl ?_
 refine lq (qEq (v' := .tuple #[.int .u32 id, pt x.b, .int .i64 0]) (wBm (R := S.own) rfl rfl rfl rfl rfl (by kernel_rfl) (SubL.sub) (wCi S hS n hwf w.1 w.2 na nc (wDu M S.own) hVa (hW.sn.mono hMa) hW.big)) (by rw [hw]; exact wBj hv hx)) ?_
 iterate 7 refine jp rfl ?_
 refine wAc (jT (wAb (wAk (wAb (wAa (jp rfl (jf rfl (decide_eq_false (by omega)) ?_)))))))
 refine jp rfl (wAc (jT (wAh rfl (wAb (wAa (jp rfl (lq (wAj rfl rfl rfl) ?_)))))))
 refine sFa rfl ?_
 refine lq (qEq (qLd rfl rfl rfl rfl ((Vw.x (Vw.file (Vw.vol Vw.of hv) hx)).cj rfl)) (v' := .bool true) (by exact congrArg Value.bool hd)) ?_
 refine jp rfl (jp rfl (wAc (jT (wAh rfl (wAd (jB (jT (wAb (wAa (jp rfl (lq (wAj rfl rfl rfl) ?_)))))))))))
 refine sFa rfl ?_
 refine lq (qEq (qLd rfl rfl rfl rfl ((Vw.x (Vw.file (Vw.vol Vw.of hv) hx)).cj rfl)) e1) ?_
 refine wCe rfl rfl (hCl (keys_spec nmb M)) ?_; rintro _ _ _ ⟨_, _, rfl, ⟨rfl, c9, rfl, rfl⟩⟩
 simp only [List.cons_append, List.nil_append]
 refine jl_weak (L' := ((c9, Obj.cells [.map (some nmb)].toArray 125 (0, 0)) :: S.own) ++ [(b8, _), (b7, _), (b6, _), (b5, _)]) (fun _ h => h.perm listP) ?_
 refine wCe rfl rfl (hCl (sorted_lent (R := (c9, Obj.cells [.map (some nmb)].toArray 125 (0, 0)) :: S.own) (List.mem_cons_of_mem _ hmem) (List.mem_cons_self ..) e3 hz hlen)) ?_; rintro _ _ _ ⟨_, _, rfl, ⟨rfl, R9, rfl, hN9⟩⟩
 rw [hkk] at hN9
 obtain ⟨na9, nc9, rfl⟩ := Nms.nform hN9
 rw [List.cons_append, List.cons_append]
 refine lq (wBe (cs := [_, _, _, _, _, _, _, _]) rfl rfl rfl (by rfl)) ?_
 refine sSt rfl ?_
 refine wAc (jT (wAg ?_))
 refine jrsd (rs := [_]) (S.own ++ ([] ++ R9)) (by rw [List.nil_append]; exact List.Sublist.trans (List.sublist_append_left _ _) (by repeat (first | exact List.Sublist.refl _ | apply List.Sublist.cons))) rfl (.cons (.agg rfl rfl rfl) .nil) ?_
 have hr : wHv S.abs w = (S.abs, { names := (x.pf.names.map (·.1)).mergeSort wHw }) := by
  unfold wHv; rw [hw]; simp only; rw [wCn hv hx, hd]; unfold wDx; rw [wFv hv hx]; rfl
 rw [hr]; exact ⟨S, _, _, [], R9, ⟨hS, rfl⟩, rfl, rfl, Byt.nil, hN9, rfl⟩
theorem list_spec (S : CS) (hS : S.Ok) (n : Nat) (hwf : WFS n S.abs) (hn : n ≤ 100) (M : Mem) (c : CL) (ca : Option Addr) (ck : Nat) (hC : CallOk M c ca ck) (w : Wy) (na : Option Addr) (nc : Nat) (hW : WyOk M w na nc) (o : Wy) (oa : Option Addr) (oc : Nat) (hO : WyOk M o oa oc)  : SpecL Tryz.prog 51 #[pt S.b, clV c ca ck, wyV w na nc, wyV o oa oc] M S.own fun u M' L' => OpP S.b (wHv S.abs w) u M' L' := by
 cases hw : wBb S.abs w.1 w.2 with
 | error e => exact list_e S hS n hwf hn M c ca ck hC w na nc hW o oa oc hO e hw
 | ok id =>
  obtain ⟨v, x, hv, hx, hwv⟩ := wGo hwf hw
  cases hd : x.pf.dir with
  | false => exact list_nd S hS n hwf hn M c ca ck hC w na nc hW o oa oc hO id hw v x hv hx hd
  | true => exact list_ok S hS n hwf hn M c ca ck hC w na nc hW o oa oc hO id hw v x hv hx hd hwv
end Go.Proofs.YtokljhkplbkggaaGreatDoor
