/- THE WALKING LAYER, one part more: a struct of numbers and truths is not unlike itself. No statement of the seat is proved here. -/
import Derived.Test.YtoincdcejjdgkaaGreatZWith
import Derived.Test.YtoincdcejjdgkaaGreatZTree
import Derived.Test.YtoincdcejjdgkaaGreatZHg
namespace Go.Proofs.YtoincdcejjdgkaaGreat
set_option linter.unusedSimpArgs false
set_option linter.unusedVariables false
open Go.RowKit
def wCg (p : Po) : Sto := ⟨p.st.blocks, [], [], []⟩
structure BeH (p : Po) (x : Su) : Prop where
 mem : x ∈ wJs (wCg p) 4
 ok : TryOk (wCg p) x
 dk : dkOk (wCg p).blocks (wCg p).waits
 max : ∀ z ∈ wJs (wCg p) 4, z.gen ≤ x.gen
 tab : wCw (wCg p) x.gen = p.st.last
 wts : ∀ w ∈ p.st.waits, 8 ≤ w.1 ∧ w.1 < 256 ∧ p.st.last.getD w.1.toNat 0 = 0
def BeP (p : Po) (u : Value) (M' : Mem) : Prop := ∃ (z : V5) (g r n : Int) (b : Bool), u = .tuple #[.agg (pcl z g r n).toArray, .bool b] ∧ (b = true → ∃ x, BeH p x ∧ PT5 M' z (wEq (wCg p) x) ∧ g = x.gen ∧ r = x.root ∧ n = x.next)
def FiA (s : Sto) (u : Value) (M' : Mem) : Prop := ∃ (a : Option Addr) (n c : Nat) (e : Int), u = .tuple #[.slice a n c, .int .i64 e] ∧ (e ≠ 0 ∨ (e = 0 ∧ ∃ ys : List Sr, n = ys.length ∧ (ys.map (·.1)).Perm (wJs s 4) ∧ Dsc ys ys.length ∧ SM M' a (ys.flatMap wDx)))
theorem rA0 (s : Sto) (bv wv : Value) (M : Mem) (h1 : LS M bv s.blocks) (h2 : WS M wv s.waits) : SpecL Tryz.prog 33 #[.agg #[bv, wv]] M [] fun u M' L' => FiA s u M' ∧ L' = [] := by
 by_cases hdk : dkOk s.blocks s.waits
 ·refine (rfind_spec s bv wv M h1 h2 hdk).mono fun u M' L' hh => ?_
  obtain ⟨⟨v, e, rfl, hc⟩, hL⟩ := hh
  rcases hc with ⟨rfl, _, rfl⟩ | ⟨rfl, ys, hp, hd, ⟨a, c, rfl, hs⟩, _⟩
  ·exact ⟨⟨none, 0, 0, 40, rfl, .inl (by decide)⟩, hL⟩
  ·exact ⟨⟨a, _, c, 0, rfl, .inr ⟨rfl, ys, rfl, hp, hd, hs⟩⟩, hL⟩
 ·refine (rfind_bad s.blocks s.waits bv wv M h1 h2 hdk).mono fun u M' L' hh => ?_
  exact ⟨⟨none, 0, 0, 8, hh.1, .inl (by decide)⟩, hh.2⟩
set_option maxHeartbeats 4000000 in
theorem bS0 (p : Po) (x0 : V5) (M : Mem) (h : PT5 M x0 p) (hdk : dkOk p.st.blocks p.st.waits) :
  SpecL Tryz.prog 24 #[.agg (pcl x0 p.gen p.root p.next).toArray] M [] fun u M' L' => BeP p u M' ∧ L' = [] := by
 refine wAf (vs := [_]) 101 _ Tryz.func24 rfl Tryz.ntmps24 rfl rfl ?_; intro W
 refine wAb (wAa (wAw rfl rfl (wCb (cs := [_, _, _, _, _, _, _, _]) rfl rfl rfl rfl) ?_)); rintro _ _ _ ⟨b1, rfl, rfl, rfl⟩
 refine sAl rfl fun b2 => ?_
 refine jp rfl (wAc (jT (wAb (wAa (sFF rfl rfl ?_)))))
 refine sFL rfl rfl ?_
 refine wAi rfl rfl (wAq (cs := [_, _]) rfl rfl rfl (by rfl)) ?_
 refine sAl rfl fun b4 => ?_
 refine sSt rfl ?_
 refine wAc (jT (wAb (wAa (sLL rfl ?_))))
 refine wAw rfl rfl (wAn rfl rfl rfl rfl rfl (by kernel_rfl) (mopen_spec (wCg p) M _ ⟨_, _, rfl, h.b, WS.nil⟩)) ?_; rintro _ M1 _ ⟨hM1, _, rfl, ⟨hop, rfl⟩⟩
 simp only [nA]
 obtain ⟨z, og, orr, on, oe, rfl, hoc⟩ := hop
 refine jp rfl (jp rfl (jp rfl (sAl rfl fun b5 => ?_)))
 refine sSt rfl ?_
 refine jp rfl (wAc (jT (wAb (wAa (sLL rfl ?_)))))
 refine wAw rfl rfl (wAn rfl rfl rfl rfl rfl (by kernel_rfl) (rA0 (wCg p) x0.b.v (.slice none 0 0) M1 (h.mono hM1).b WS.nil)) ?_; rintro _ M2 _ ⟨hM2, _, rfl, ⟨hfi, rfl⟩⟩
 simp only [nA]
 obtain ⟨fa, fnn, fc, fe, rfl, hfa⟩ := hfi
 refine jp rfl (jp rfl (jp rfl (jp rfl (jp rfl (wAc (jT (wAb (wAb (wBn [(0, true), (1, true), (2, true), (3, true), (4, true), (5, true), (6, true), (7, true), (8, true), (9, true), (10, true), (11, true), (12, true), (13, true), (14, true), (15, true), (16, true), (17, true), (18, true), (19, true), (20, true), (21, true), (22, true), (23, true), (24, true), (25, true), (26, true), (27, true), (28, true), (29, true), (30, true), (31, true), (32, true), (33, true), (34, true), (35, true), (36, true), (37, true), (38, true), (39, true)] _ (by kernel_rfl) (by kernel_rfl) (by kernel_rfl) rfl (fun _ h => h) ?_)))))))))
 refine dp rfl rfl ?_
 refine ds rfl rfl (fun h27 => ?_) (fun h27 => ?_)
 ·iterate 38 refine dp rfl rfl ?_
  refine wBg (jPn (jT (wAg rfl (wAb (wAa (wAi rfl rfl (wAq (cs := [_, _, _, _, _, _, _, _]) rfl rfl rfl (by rfl)) ?_))))))
  refine sSt rfl ?_
  refine jp rfl (wAc (jT (wAe (jTr (wCd (rs := [_, _]) ([]) (by exact List.nil_sublist _) rfl (.cons (.agg rfl rfl rfl) (.cons (.tmp rfl) .nil)) ?_)))))
  exact ⟨⟨v5Z, 0, 0, 0, false, rfl, fun h => by cases h⟩, rfl⟩
 ·iterate 2 refine dp rfl rfl ?_
  refine ds rfl rfl (fun h30 => ?_) (fun h30 => ?_)
  ·iterate 35 refine dp rfl rfl ?_
   refine wBg (jPn (jT (wAg rfl (wAb (wAa (wAi rfl rfl (wAq (cs := [_, _, _, _, _, _, _, _]) rfl rfl rfl (by rfl)) ?_))))))
   refine sSt rfl ?_
   refine jp rfl (wAc (jT (wAe (jTr (wCd (rs := [_, _]) ([]) (by exact List.nil_sublist _) rfl (.cons (.agg rfl rfl rfl) (.cons (.tmp rfl) .nil)) ?_)))))
   exact ⟨⟨v5Z, 0, 0, 0, false, rfl, fun h => by cases h⟩, rfl⟩
  ·iterate 3 refine dp rfl rfl ?_
   obtain hne | ⟨rfl, ys, rfl, hperm, hdsc, hsm⟩ := hfa
   ·exact absurd (Classical.not_not.1 h30) hne
   obtain ⟨hne, _⟩ | ⟨rfl, hdk0, xx, hxx, hto, hmax, hz, rfl, rfl, rfl⟩ := hoc
   ·exact absurd (Classical.not_not.1 h27) hne
   have hy0 : 0 < ys.length := by rw [← List.length_map (f := (·.1)), hperm.length_eq]; exact List.length_pos_of_mem hxx
   obtain ⟨rb, ro, e0, hx⟩ := hsm.open (by intro e; have := congrArg List.length e; rw [wAy wDx 5 wFj, List.length_nil] at this; omega)
   subst e0
   have hz2 := hz.mono hM2
   have h2 := h.mono (hM1.trans hM2)
   have hln : x0.l.n = p.st.last.length := h.l.len
   refine wBi rfl rfl rfl (wBa rfl rfl rfl rfl (by omega)) ?_
   refine dFa rfl rfl ?_
   refine wBi rfl rfl rfl (qLd (v := .int .u32 ys[0].1.gen) rfl rfl rfl rfl ((wFf wDx 5 wFj hx (List.getElem?_eq_getElem hy0) 0 _ rfl).cj _)) ?_
   refine dFa rfl rfl ?_
   refine dLd rfl rfl ?_
   refine ds rfl rfl (fun h39 => ?_) (fun h39 => ?_)
   ·iterate 26 refine dp rfl rfl ?_
    refine wBg (jPn (jT (wAg rfl (wAb (wAa (wAi rfl rfl (wAq (cs := [_, _, _, _, _, _, _, _]) rfl rfl rfl (by rfl)) ?_))))))
    refine sSt rfl ?_
    refine jp rfl (wAc (jT (wAe (jTr (wCd (rs := [_, _]) ([]) (by exact List.nil_sublist _) rfl (.cons (.agg rfl rfl rfl) (.cons (.tmp rfl) .nil)) ?_)))))
    exact ⟨⟨v5Z, 0, 0, 0, false, rfl, fun h => by cases h⟩, rfl⟩
   ·iterate 2 refine dp rfl rfl ?_
    refine dFa rfl rfl ?_
    refine dLd rfl rfl ?_
    refine dFa rfl rfl ?_
    refine dLd rfl rfl ?_
    refine ds rfl rfl (fun h46 => ?_) (fun h46 => ?_)
    ·iterate 19 refine dp rfl rfl ?_
     refine wBg (jPn (jT (wAg rfl (wAb (wAa (wAi rfl rfl (wAq (cs := [_, _, _, _, _, _, _, _]) rfl rfl rfl (by rfl)) ?_))))))
     refine sSt rfl ?_
     refine jp rfl (wAc (jT (wAe (jTr (wCd (rs := [_, _]) ([]) (by exact List.nil_sublist _) rfl (.cons (.agg rfl rfl rfl) (.cons (.tmp rfl) .nil)) ?_)))))
     exact ⟨⟨v5Z, 0, 0, 0, false, rfl, fun h => by cases h⟩, rfl⟩
    ·iterate 2 refine dp rfl rfl ?_
     refine dFa rfl rfl ?_
     refine dFa rfl rfl ?_
     refine dLd rfl rfl ?_
     refine wBi rfl rfl rfl (qEq (qStr (xs := (wEq (wCg p) xx).st.now.map fun b => (b.toNat : Int)) rfl rfl rfl (by rw [List.length_map, hz2.n.len]) (by simpa [wAk, List.map_map, Function.comp_def] using hz2.n.sm.sj _)) (v' := .string (strB (wEq (wCg p) xx).st.now)) (by rw [wCi])) ?_
     refine dFa rfl rfl ?_
     refine dFa rfl rfl ?_
     refine dLd rfl rfl ?_
     refine wBi rfl rfl rfl (qEq (qStr (xs := p.st.last.map fun b => (b.toNat : Int)) rfl rfl rfl (by rw [List.length_map, h2.l.len]) (by simpa [wAk, List.map_map, Function.comp_def] using h2.l.sm.sj _)) (v' := .string (strB p.st.last)) (by rw [wCi])) ?_
     refine jd_qb rfl rfl rfl (qEq (qP rfl rfl) (v' := .bool (decide (¬ (wEq (wCg p) xx).st.now = p.st.last))) (by rw [strB_eq]; simp)) (fun h57 => ?_) (fun h57 => ?_)
     ·iterate 8 refine dp rfl rfl ?_
      refine wBg (jPn (jT (wAg rfl (wAb (wAa (wAi rfl rfl (wAq (cs := [_, _, _, _, _, _, _, _]) rfl rfl rfl (by rfl)) ?_))))))
      refine sSt rfl ?_
      refine jp rfl (wAc (jT (wAe (jTr (wCd (rs := [_, _]) ([]) (by exact List.nil_sublist _) rfl (.cons (.agg rfl rfl rfl) (.cons (.tmp rfl) .nil)) ?_)))))
      exact ⟨⟨v5Z, 0, 0, 0, false, rfl, fun h => by cases h⟩, rfl⟩
     ·iterate 2 refine dp rfl rfl ?_
      refine dFa rfl rfl ?_
      refine dFa rfl rfl ?_
      refine dLd rfl rfl ?_
      refine wBi rfl rfl rfl (wBq rfl rfl rfl) ?_
      refine ds rfl rfl (fun h64 => ?_) (fun h64 => ?_)
      ·refine dp rfl rfl ?_
       refine wBg (jPn (jT (wAg rfl (wAb (wAa (wAi rfl rfl (wAq (cs := [_, _, _, _, _, _, _, _]) rfl rfl rfl (by rfl)) ?_))))))
       refine sSt rfl ?_
       refine jp rfl (wAc (jT (wAe (jTr (wCd (rs := [_, _]) ([]) (by exact List.nil_sublist _) rfl (.cons (.agg rfl rfl rfl) (.cons (.tmp rfl) .nil)) ?_)))))
       exact ⟨⟨v5Z, 0, 0, 0, false, rfl, fun h => by cases h⟩, rfl⟩
      ·refine dp rfl rfl ?_
       refine wBg (jPn (jT (wAj rfl (wAd (jT (wAb (wAb (wAa (jp rfl (wAc (jT (wAh ?_))))))))))))
       have h57n : wCw (wCg p) xx.gen = p.st.last := Classical.not_not.1 (of_decide_eq_false h57)
       obtain ⟨wa, wc, wps, ew, hwc, hws, hwp, hwb⟩ := id h2.w
       have hwn : x0.w.n = p.st.waits.length := h.w.len
       have hw4 : p.st.waits.length ≤ 4096 := hdk.2.1
       have ewa : x0.w.a = wa := congrArg (fun v => match v with | Value.slice a _ _ => a | _ => none) ew
       subst ewa
       refine wAr (α := Nat) (fun k => [(1, .pointer (some ⟨b1, 0, none⟩)), (2, .pointer (some ⟨b2, 0, none⟩)), (5, .pointer (some ⟨b5, 0, none⟩)), (9, .int .i64 (k : Int))]) (fun _ => M2) (fun _ => [(b5, .cells (pcl z xx.gen xx.root xx.next).toArray 32 (0, 0)), (b4, .cells [x0.b.v, .slice none 0 0].toArray 25 (0, 0)), (b2, .cells poZ.toArray 32 (0, 0)), (b1, .cells (pcl x0 p.gen p.root p.next).toArray 32 (0, 0))]) (fun k => k ≤ p.st.waits.length ∧ ∀ j (hj : j < p.st.waits.length), j < k → 8 ≤ p.st.waits[j].1 ∧ p.st.waits[j].1 < 256 ∧ p.st.last.getD p.st.waits[j].1.toNat 0 = 0) (fun k => p.st.waits.length - k)
        0 (.cons (t := 1) rfl (.cons (t := 2) rfl (.cons (t := 5) rfl (.cons (t := 9) rfl .nil)))) ⟨Nat.zero_le _, fun j _ h => absurd h (Nat.not_lt_zero _)⟩ (fun _ h => h) ?_
       rintro k ⟨hk, hkw⟩
       try dsimp only at hk hkw ⊢
       refine wAb (wAb (wAa (jp rfl (sFF rfl rfl ?_))))
       refine sFL rfl rfl ?_
       refine wAi rfl rfl (wBq rfl rfl rfl) ?_
       refine js rfl (fun h73 => ?_) (fun h73 => ?_)
       ·refine wAc (jT (wAg rfl (wAd (jT (wAb (wAh (wAb (wAa (sFF rfl rfl ?_)))))))))
        refine sFL rfl rfl ?_
        refine jp rfl ?_
        have hk1 : k < p.st.waits.length := by omega
        obtain ⟨wb, wo, e0w, hwx⟩ := hws.open (by intro e; have := congrArg List.length e; rw [wAy wCf 2 wCc, List.length_nil] at this; have h2 := congrArg List.length hwp; rw [List.length_map] at h2; omega)
        obtain ⟨wva, wvc, hw1, hw2, hw3⟩ := wDw hwx hwp hwb hk1
        refine wAi rfl rfl (wBa (b := wb) (off := wo) rfl rfl (by show some (Value.slice _ _ _) = _; rw [e0w]) rfl (by omega)) ?_
        refine sFa rfl ?_
        refine wAi rfl rfl (qLd (v := .int .i64 p.st.waits[k].1) rfl rfl rfl rfl ((hw1 0 _ rfl).cj _)) ?_
        refine jp rfl (wAc (jT (wAb (wAa (jp rfl (js rfl (fun h85 => ?_) (fun h85 => ?_)))))))
        ·iterate 13 refine jp rfl ?_
         refine wAc (jT (wAg rfl (wAb (wAa (wAi rfl rfl (wAq (cs := [_, _, _, _, _, _, _, _]) rfl rfl rfl (by rfl)) ?_)))))
         refine sSt rfl ?_
         refine jp rfl (wAc (jT (wAe (jBr (jTr (jTr (jBr (jTr (wCd (rs := [_, _]) ([]) (by exact List.nil_sublist _) rfl (.cons (.agg rfl rfl rfl) (.cons (.tmp rfl) .nil)) ?_)))))))))
         exact ⟨⟨v5Z, 0, 0, 0, false, rfl, fun h => by cases h⟩, rfl⟩
        ·refine jp rfl (jp rfl (js rfl (fun h88 => ?_) (fun h88 => ?_)))
         ·iterate 10 refine jp rfl ?_
          refine wAc (jT (wAg rfl (wAb (wAa (wAi rfl rfl (wAq (cs := [_, _, _, _, _, _, _, _]) rfl rfl rfl (by rfl)) ?_)))))
          refine sSt rfl ?_
          refine jp rfl (wAc (jT (wAe (jBr (jTr (jTr (jBr (jTr (wCd (rs := [_, _]) ([]) (by exact List.nil_sublist _) rfl (.cons (.agg rfl rfl rfl) (.cons (.tmp rfl) .nil)) ?_)))))))))
          exact ⟨⟨v5Z, 0, 0, 0, false, rfl, fun h => by cases h⟩, rfl⟩
         ·refine jp rfl (jp rfl (sFa rfl ?_))
          refine sFL rfl rfl ?_
          refine jp rfl ?_
          obtain ⟨lb, lo, e0l, hlx⟩ := h2.l.sm.open (by intro e; have := congrArg List.length e; rw [wAu, List.length_nil] at this; omega)
          have hby := (p.st.last.getD p.st.waits[k].1.toNat 0).toNat_lt
          refine wAi rfl rfl (wBa (b := lb) (off := lo) rfl rfl (by show some (Value.slice _ _ _) = _; rw [e0l]) rfl (by omega)) ?_
          refine wAi rfl rfl (qLd (v := .int .u8 ((p.st.last.getD p.st.waits[k].1.toNat 0).toNat : Int)) rfl rfl rfl rfl ((hlx _ _ (by rw [Nat.mul_one]; exact wHu (xs := p.st.last) (j := p.st.waits[k].1.toNat) (by omega))).cj _)) ?_
          refine js rfl (fun h97 => ?_) (fun h97 => ?_)
          ·refine jp rfl (wAc (jT (wAg rfl (wAb (wAa (wAi rfl rfl (wAq (cs := [_, _, _, _, _, _, _, _]) rfl rfl rfl (by rfl)) ?_))))))
           refine sSt rfl ?_
           refine jp rfl (wAc (jT (wAe (jBr (jTr (jTr (jBr (jTr (wCd (rs := [_, _]) ([]) (by exact List.nil_sublist _) rfl (.cons (.agg rfl rfl rfl) (.cons (.tmp rfl) .nil)) ?_)))))))))
           exact ⟨⟨v5Z, 0, 0, 0, false, rfl, fun h => by cases h⟩, rfl⟩
          ·refine jp rfl (wAc (jT (wAj rfl (wAd (jB (jT (wAa (jp rfl (ja rfl (by omega) ?_)))))))))
           refine jp rfl (wAc ?_)
           refine wAp (k + 1) (.cons (t := 1) rfl (.cons (t := 2) rfl (.cons (t := 5) rfl (.cons (t := 9) rfl .nil)))) ⟨by omega, fun j hj hjk => by
            by_cases hjk2 : j = k
            ·subst hjk2; exact ⟨by omega, by omega, UInt8.toNat_inj.1 (by show (p.st.last.getD p.st.waits[j].1.toNat 0).toNat = 0; omega)⟩
            ·exact hkw j hj (by omega)⟩ (by omega) (fun _ h => h)
       ·refine wAc (jT (wAj rfl (wAs (jTx (jTx (jBx (jT (wAb (wAa (sLL rfl ?_))))))))))
        refine sSt rfl ?_
        refine jp rfl (wAc (jT (wAe (wCd (rs := [_, _]) ([]) (by exact List.nil_sublist _) rfl (.cons (.agg rfl rfl rfl) (.cons (.tmp rfl) .nil)) ?_))))
        refine ⟨⟨z, xx.gen, xx.root, xx.next, true, rfl, fun _ => ⟨xx, ⟨hxx, hto, hdk0, fun w hw => ?_, h57n, fun w hw => ?_⟩, hz2, rfl, rfl, rfl⟩⟩, rfl⟩
        ·obtain ⟨q, hq, rfl⟩ := List.mem_map.1 (hperm.mem_iff.2 hw)
         obtain ⟨j, hj, rfl⟩ := List.mem_iff_getElem.1 hq
         by_cases hj0 : j = 0
         ·subst hj0; omega
         ·have := hdsc 0 j (by omega) hj hj; omega
        ·obtain ⟨j, hj, rfl⟩ := List.mem_iff_getElem.1 hw
         exact hkw j hj (by omega)
theorem Eqv.down {s t : Sto} (h : Eqv s t) (q : Ky) : ∀ l, wDj s q l = wDj t q l
 | 0 => rfl
 | l + 1 => by funext xs; simp only [wDj, h.kid, h.down q l]
theorem Eqv.rng {s t : Sto} (h : Eqv s t) (root : Int) (a b : Ky) : rng s root a b = Go.Proofs.YtoincdcejjdgkaaGreat.rng t root a b := by unfold Go.Proofs.YtoincdcejjdgkaaGreat.rng; simp only [h.nd, h.down]
theorem rC0 {s : Sto} (hst : wCp s) {r : Int} (h : rtOk s r = true) : (wGo s r).2 = 0 := by
 obtain ⟨h1, h2, lv, xs, _, h3, h4⟩ := rtOk_in h
 have hn : ¬ s.now.getD r.toNat 0 = 0 := fun e => by unfold wCa at h3; rw [if_pos e] at h3; cases h3
 rw [wKy hst (by omega) hn, h3]
 have ht : wCx s lv.toNat xs := fun hx => by unfold wGb at h4; rw [if_neg hx] at h4; exact h4
 show (if wCx s lv.toNat xs then (lv + 1, 0) else (0, 8) : Int × Int).2 = 0
 rw [if_pos ht]
theorem vC0 {s : Sto} {root next : Int} {dead : List Int} {vs : List Vo} {refs nodes : List Int} (h : cens s root next dead = some (vs, refs, nodes)) : ∀ v ∈ vs, (wGo s v.root).2 = 0 := fun v hv => by
 unfold cens at h
 split at h
 ·rename_i hc
  split at h
  ·cases h
  ·split at h
   ·cases h
   ·split at h
    ·cases h
    ·rename_i ht
     split at h
     ·cases h
      exact rC0 hc.1 (treesF_all ht v.root (by unfold wKo; exact List.mem_append_right _ (List.mem_map_of_mem hv)))
     ·cases h
 ·cases h
def crS (p : Po) (kp : List Bool) : Sto := ⟨wFn p.st.blocks (wLc kp p.st.waits), [], p.st.now, p.st.last⟩
theorem cS0 {p : Po} {x : Su} (h : BeH p x) (kp : List Bool) {j : Nat} (hj : ∀ w ∈ p.st.waits, w.1 ≠ (j : Int)) : wCo (wCg p) j = wCo (crS p kp) j := by
 show p.st.blocks.getD j [] = (wFn p.st.blocks (wLc kp p.st.waits)).getD j []
 rw [wJf _ j _ fun w hw => ⟨by have := (h.wts w (wKe hw)).1; omega, hj w (wKe hw)⟩]
theorem cT0 {p : Po} {x : Su} (h : BeH p x) (kp : List Bool) : Oth (wCg p) (crS p kp) (wCw (wCg p) x.gen) := by
 refine ⟨fun j hj => cS0 h kp fun w hw => by have := (h.wts w hw).1; omega, fun j _ hn => cS0 h kp fun w hw e => hn ?_⟩
 have := (h.wts w hw).2.2
 rw [h.tab, show j = w.1.toNat by omega]; exact this
structure CrH (p : Po) (x : Su) (s : Sto) : Prop where
 dk : dkOk s.blocks s.waits
 tab : wCw s x.gen = wCw (wCg p) x.gen
 eqv : Eqv (wEq s x).st (wEq (wCg p) x).st
 st : wCp (wEq s x).st
 ok : TryOk s x
 mem : x ∈ wJs s 4
theorem cH0 {p : Po} {x : Su} (h : BeH p x) (hdk : dkOk p.st.blocks p.st.waits) (kp : List Bool) : CrH p x (crS p kp) := by
 have ho := cT0 h kp
 have hd : dkOk (crS p kp).blocks (crS p kp).waits := setB_ok (ws := wLc kp p.st.waits) h.dk fun w hw => (hdk.w w (wKe hw)).2.2
 have hto := ho.tryOk hd h.ok
 have he := ho.eqv h.ok.ct
 exact ⟨hd, (tabOf_q (fun k _ hk => ho.low k hk) _).symm, ⟨he.now.symm, fun k => (he.nd k).symm⟩, hto.st, hto, by rw [← fndL_q fun k hk => ho.low k (by omega)]; exact h.mem⟩
theorem cO0 {p : Po} {x y : Su} (h : BeH p x) (kp : List Bool) (hc : CrH p x (crS p kp)) (hy : y ∈ wJs (crS p kp) 4) (hm : ∀ z ∈ wJs (crS p kp) 4, y.gen < z.gen → ¬ TryOk (crS p kp) z) : y = x := by
 have ho := cT0 h kp
 have hf := fndL_q (s := wCg p) (t := crS p kp) fun k hk => ho.low k (by omega)
 have h1 : ¬ y.gen < x.gen := fun hl => hm x hc.mem hl hc.ok
 rw [← hf] at hy
 exact fndL_gen hy h.mem (by have := h.max y hy; omega)
theorem cC0 {p : Po} {x : Su} {s : Sto} (h : BeH p x) (hc : CrH p x s) : cens (wEq s x).st x.root x.next x.dead = cens (wEq (wCg p) x).st x.root x.next x.dead := hc.eqv.cens hc.st h.ok.st _ _ _
def FitV : Value → TypeDesc → Prop
 | .int k _, .int k' => k = k'
 | .bool _, .bool => True
 | _, _ => False
theorem wGx {P : Program} (d : Nat) (xs : Array Value) (w : World) : ∀ (fs : List Field) (ds : List TypeDesc) (vs : List Value) (i : Nat), vs.length = ds.length →
  fs.map (fun f => (f.name != "_", f.offset, P.underlying f.type)) = (ds.zipIdx i).map (fun (k, i) => (true, i, some k)) →
  (∀ (j : Nat) v k, vs[j]? = some v → ds[j]? = some k → FitV v k) → (∀ (j : Nat) v, vs[j]? = some v → xs[i + j]? = some v) → (Op.eqFields (d + 1) xs xs fs).run P w = .ok true w
 | [], ds, vs, i, h1, hf, _, _ => by simp [Op.eqFields]
 | f :: fs, [], vs, i, h1, hf, _, _ => by simp at hf
 | f :: fs, k :: ds, [], i, h1, hf, _, _ => by simp at h1
 | f :: fs, k :: ds, v :: vs, i, h1, hf, hk, hx => by
  simp only [List.map_cons, List.zipIdx_cons, List.cons.injEq, Prod.mk.injEq] at hf
  obtain ⟨⟨hn, ho, hu⟩, hrest⟩ := hf
  have x0 := hx 0 v rfl
  simp only [Nat.add_zero] at x0
  have hfit := hk 0 v k rfl rfl
  have hne : f.name ≠ "_" := by simpa using hn
  have ih := wGx d xs w fs ds vs (i + 1) (by simpa using h1) hrest (fun j v' k' hv hk' => hk (j + 1) v' k' (by simpa using hv) (by simpa using hk'))
   (fun j v' hv => by have := hx (j + 1) v' (by simpa using hv); rwa [show i + (j + 1) = i + 1 + j by omega] at this)
  cases k with
  | int kk =>
   cases v with
   | int k' n =>
    have hkk : k' = kk := hfit
    subst hkk
    have hp : (part f.type xs f.offset).run P w = .ok (.int k' n) w := by simp [part, wEa hu, aggD, ho, x0]
    have hq : (Op.equalIn (d + 1) f.type (.int k' n) (.int k' n)).run P w = .ok (n == n) w := run_equalIn_int w d f.type k' k' n n hu
    unfold Op.eqFields
    simp only [hne, ne_eq, not_false_eq_true, if_true, Sem.run_bind, hp, Result.andThen_ok, hq]
    simp [ih]
   | _ => exact hfit.elim
  | bool =>
   cases v with
   | bool b =>
    have hp : (part f.type xs f.offset).run P w = .ok (.bool b) w := by simp [part, wEa hu, aggD, ho, x0]
    have hq : (Op.equalIn (d + 1) f.type (.bool b) (.bool b)).run P w = .ok (b == b) w := run_equalIn_bool' w d f.type b b hu
    unfold Op.eqFields
    simp only [hne, ne_eq, not_false_eq_true, if_true, Sem.run_bind, hp, Result.andThen_ok, hq]
    simp [ih]
   | _ => exact hfit.elim
  | _ => cases v <;> exact hfit.elim
section
variable {P : Program} {ops : Array Oper} {N : Fs} {F : Fr} {M : Mem} {L : Lc} {o : Oper}
theorem qN0 {x y : Operand} {t t' : TypeId} {ds : List TypeDesc} {vs : List Value} (hg : gd ops F o = some true) (ho : o.op = .binOp .neq t x y t') (hx : ev F x = some (.agg vs.toArray)) (hy : ev F y = some (.agg vs.toArray))
  (hu : P.underlying t = some (.struct (P.fieldsOf t))) (hf : (P.fieldsOf t).toList.map (fun f => (f.name != "_", f.offset, P.underlying f.type)) = ds.zipIdx.map fun (k, i) => (true, i, some k)) (hs : P.stoodInHeld t = false) (hgt : P.eqGuardType P.depth t = false)
  (hl : vs.length = ds.length) (hk : ∀ (j : Nat) v k, vs[j]? = some v → ds[j]? = some k → FitV v k) : QF P ops N F M L o (.bool false) := wDr hg fun ac ha w _ => by
 have hr := wGx (P := P) 9998 vs.toArray w _ ds vs 0 hl hf hk (fun j v hv => by simpa using hv)
 have e1 : (binOp .neq t (.agg vs.toArray) (.agg vs.toArray)).run P w = .ok (.bool false) w := by
  rw [run_neq_struct w t, run_equalIn_struct w 9999 t _ _ hu hs, hr]; simp
 simp only [execOp, ho, ha.ev hx, ha.ev hy]
 simp only [Sem.run_bind, run_eqGuard_agg w _ t x y _ _ hgt, Result.andThen_ok, e1, Sem.run_pure]
end
end Go.Proofs.YtoincdcejjdgkaaGreat
