/- Walks: whether a tree may be. -/
import Derived.Test.YtkcpllhggofloaaGreatZSp
namespace Go.Proofs.YtkcpllhggofloaaGreat
set_option linter.unusedVariables false
set_option linter.unusedSectionVars false
set_option linter.unusedSimpArgs false
open Go.RowKit
structure CE (M : Mem) (s : Sto) (b1 b2 b3 : Nat) : Prop where
  st : ∃ bv wv nv lv, M b1 = some (.cells [bv, wv, nv, lv].toArray 28 (0, 0)) ∧ BS M nv s.now
  bn : ∃ v, M b2 = some (.cells [v].toArray 58 (0, 0)) ∧ BN M v s
  cl : M b3 = some (.cells [.func (.func 55) #[] #[.pointer (some ⟨b1, 0, none⟩), .pointer (some ⟨b2, 0, none⟩), .pointer (some ⟨b3, 0, none⟩)]].toArray 114 (0, 0))
theorem CE.mono {M M' : Mem} {s : Sto} {b1 b2 b3 : Nat} (h : CE M s b1 b2 b3) (hM : MLe M M') : CE M' s b1 b2 b3 := by
  obtain ⟨⟨a, b, c, d, h1, h2⟩, ⟨v, h3, h4⟩, h5⟩ := h
  exact ⟨⟨a, b, c, d, hM _ _ h1, h2.mono hM⟩, ⟨v, hM _ _ h3, h4.mono hM⟩, hM _ _ h5⟩
set_option maxHeartbeats 4000000 in
theorem fwalk_leaf (s : Sto) (hst : wCc s) (c1 c2 c3 : Nat) (xs : List It) (a : Option Addr) (c : Nat) (ps : List (It × Value)) (M : Mem) (hce : CE M s c1 c2 c3) (hc : xs.length ≤ c) (hs : SM M a (ps.flatMap wAs)) (hp : ps.map (·.1) = xs) (hb : ∀ p ∈ ps, BS M p.2 p.1.val) (hno : NdOk 0 xs) :
    SpecL Tryz.prog 55 #[.agg #[.int .i64 0, .slice a xs.length c], .pointer (some ⟨c1, 0, none⟩), .pointer (some ⟨c2, 0, none⟩), .pointer (some ⟨c3, 0, none⟩)] M [] fun v _ _ => v = .agg (spc (wEf (wBu s 0) none xs)).toArray := by
  have hlv := hno.lev
  have hlen := hno.len
  refine wAf (vs := [_, _, _, _]) 101 _ Tryz.func55 rfl Tryz.ntmps55 rfl rfl ?_; intro W
  refine wAb (wAa (wAy rfl rfl (wCm (cs := [_, _]) rfl rfl rfl rfl) ?_)); rintro _ _ _ ⟨b4, rfl, rfl, rfl⟩
  refine sAl rfl fun b5 => ?_
  refine wAc (jT (wAb (wAa (sAl rfl fun b6 => ?_))))
  refine wAc (jT (wAb (wAb (wAa (sFL rfl rfl ?_)))))
  refine wAi rfl rfl (wBj rfl rfl rfl) ?_
  refine jp rfl (wAc (jT (wAh ?_)))
  refine wAv (α := Nat × Mem × Option Sp) (fun x => [(1, .pointer (some ⟨c1, 0, none⟩)), (2, .pointer (some ⟨c2, 0, none⟩)), (3, .pointer (some ⟨c3, 0, none⟩)), (4, .pointer (some ⟨b4, 0, none⟩)), (5, .pointer (some ⟨b5, 0, none⟩)), (6, .pointer (some ⟨b6, 0, none⟩)), (13, .slice a xs.length c), (14, .int .i64 xs.length), (15, .int .i64 x.1)]) (fun x => x.2.1) (fun x => [(b6, .cells (spc (x.2.2.getD wKs)).toArray 116 (0, 0)), (b5, .cells (spc wKs).toArray 116 (0, 0)), (b4, .cells [.int .i64 0, .slice a xs.length c].toArray 53 (0, 0))]) (fun x => x.1 ≤ xs.length ∧ MLe M x.2.1 ∧ (x.2.2 = none ↔ x.1 = 0) ∧ wEf (wBu s 0) none xs = wEf (wBu s 0) x.2.2 (xs.drop x.1)) (fun x => xs.length - x.1)
    (0, M, none) (.cons (t := 1) rfl (.cons (t := 2) rfl (.cons (t := 3) rfl (.cons (t := 4) rfl (.cons (t := 5) rfl (.cons (t := 6) rfl (.cons (t := 13) rfl (.cons (t := 14) rfl (.cons (t := 15) rfl .nil))))))))) ⟨Nat.zero_le _, MLe.refl _, by simp, rfl⟩ (fun _ h => h) ?_
  rintro ⟨k, Mk, o⟩ ⟨hk, hMk, hok0, hI⟩
  try dsimp only at hk hMk hok0 hI ⊢
  have hcek := hce.mono hMk
  have hsk := hs.mono hMk
  have hbk := fun p hp => (hb p hp).mono hMk
  refine wAb (wAa (js rfl (fun h16 => ?_) (fun h16 => ?_)))
  · refine wAc ?_
    refine jT (wAb (wAg rfl (wAd (jT (wAb (wAh (wAb (wAa (jp rfl ?_)))))))))
    have hk1 : k < xs.length := by omega
    obtain ⟨sb, so, e0, hx⟩ := hsk.open (by intro e; have := congrArg List.length e; rw [wBi wAs 5 wAq, List.length_nil] at this; have h2 := congrArg List.length hp; rw [List.length_map] at h2; omega)
    subst e0
    obtain ⟨va, vc, hcl, hvc, hvs⟩ := wBt hx hp hbk hk1
    have hxr := hno.ref xs[k] (List.getElem_mem hk1)
    refine wAi rfl rfl (wBe rfl rfl rfl rfl (by omega)) ?_
    refine wAi rfl rfl (wGx (cs := itc xs[k] va vc) rfl rfl rfl rfl rfl (fun i v hv => (hcl i v hv).cj _)) ?_
    refine sAl rfl fun b8 => ?_
    refine jp rfl (sSt rfl ?_)
    refine wAc (jT (wAb (wBp [(0, true), (1, true), (2, true), (3, true), (4, true), (5, true), (6, true), (7, true), (8, true), (9, true), (10, true), (11, true), (12, true), (13, true), (14, true), (15, true), (16, true), (17, false), (18, false)] _ (by kernel_rfl) (by kernel_rfl) (by kernel_rfl) rfl (fun _ h => h) ?_)))
    refine dFa rfl rfl ?_
    refine dLL rfl rfl ?_
    refine dFa rfl rfl ?_
    refine dLL rfl rfl ?_
    refine dFa rfl rfl ?_
    refine dLd rfl rfl ?_
    refine ds rfl rfl (fun h26 => ?_) (fun h26 => ?_)
    · iterate 9 refine dp rfl rfl ?_
      refine wBq rfl rfl rfl (wBa (cs := [_, _, _, _, _, _, _]) rfl rfl rfl (by rfl)) ?_
      refine wHc rfl rfl rfl (wDy rfl rfl) ?_; rintro _ _ _ ⟨b9, rfl, rfl, rfl⟩
      refine wGn (MLe.refl _) (fun _ h => List.mem_cons_of_mem _ h) (by first | exact MLe.refl _ | assumption) (by simp) ?_
      refine jd_s rfl rfl (wBm rfl rfl rfl rfl rfl rfl rfl rfl) ?_; rintro _ _ _ ⟨rfl, rfl⟩
      refine wGn (MLe.refl _) (fun _ h => List.mem_cons_of_mem _ h) (by first | exact MLe.refl _ | assumption) (by simp) ?_
      refine wBd (jPn (jT (wAb (wAb (wAa (sFL rfl rfl ?_))))))
      refine jf rfl (decide_eq_false (by omega)) ?_
      refine wAc (jT (wAk rfl (wAd (jT (wAb (wAb (wAa (sFa rfl ?_))))))))
      obtain ⟨p, hpe⟩ : ∃ p : Sp, p = wBu s 0 xs[k] := ⟨_, rfl⟩
      rw [show ([.int .u8 xs[k].key.kind, .int .u32 xs[k].key.id, .int .u32 xs[k].key.off, .int .u8 xs[k].key.kind, .int .u32 xs[k].key.id, .int .u32 xs[k].key.off, .bool true] : List Value) = spc p by rw [hpe]; simp [spc, wBu, h26]]
      refine wJj rfl rfl (qLd rfl rfl rfl rfl (CJ.loc rfl)) (fun h68 => ?_) (fun h68 => ?_)
      · refine jp rfl ?_
        refine jp rfl (sFa rfl ?_)
        refine sLL rfl ?_
        refine sFa rfl ?_
        refine sLL rfl ?_
        refine wJj rfl rfl (qNeI (ns := [p.first.kind, p.first.id, p.first.off]) (ms := [xs[k].key.kind, xs[k].key.id, xs[k].key.off]) rfl rfl rfl rfl rfl rfl ⟨rfl, rfl⟩) (fun h75 => ?_) (fun h75 => ?_)
        · iterate 13 refine jp rfl ?_
          refine wAc (jT (wAg rfl (wAb (wAa (wAi rfl rfl (wBa (cs := [_, _, _, _, _, _, _]) rfl rfl rfl (by rfl)) ?_)))))
          refine sSt rfl ?_
          refine wAc (jT (wAe (jTr (jBr (jTr (jTr (jBr (jTr (jrs (rs := [_]) rfl (.cons (.agg rfl rfl rfl) .nil) ?_)))))))))
          show Value.agg (spc wKs).toArray = _
          rw [wGq hk1 hI (by first | (rw [← hpe]; simp [wBs, h68]; done) | (rw [← hpe]; simp [wBs, show ¬ p.first = xs[k].key from fun e => of_decide_eq_true h75 (by rw [e])]; done) | (obtain ⟨q, rfl⟩ := Option.ne_none_iff_exists'.1 (fun e => by have := hok0.1 e; omega : o ≠ none); rw [← hpe]; simp [wBs, show wBf q.last p.first = false from h85]))]
        refine jp rfl (jp rfl (jp rfl (js rfl (fun h79 => ?_) (fun h79 => ?_))))
        · refine jp rfl ?_
          refine sFa rfl ?_
          refine sLL rfl ?_
          refine sFa rfl ?_
          refine sLL rfl ?_
          refine wJj rfl rfl (wBr rfl rfl rfl rfl rfl (by kernel_rfl) (wHj (o.getD wKs).last p.first _)) (fun h85 => ?_) (fun h85 => ?_)
          · refine jp rfl ?_
            refine jp rfl (jp rfl (wAc (jT (wAk rfl (wAd (jT (wAb (wAb (wAa (jp rfl (js rfl (fun h91 => ?_) (fun h91 => ?_))))))))))))
            · exfalso; omega
            refine wAc (jT (wAk rfl (wAd (jT (wAa (sFa rfl ?_))))))
            refine sLL rfl ?_
            refine sFa rfl ?_
            refine sSt rfl ?_
            refine sFa rfl ?_
            refine sSt rfl ?_
            refine wAc (jB (jT (wAa (ja rfl (by omega) ?_))))
            refine jp rfl (wAc ?_)
            have hfk : p.first = xs[k].key := by have := key_eq p.first xs[k].key; rw [decide_eq_true (Classical.not_not.1 (of_decide_eq_false h75))] at this; exact of_decide_eq_true this.symm
            obtain ⟨q, rfl⟩ : ∃ q, o = some q := by
                cases o with
                | none => have := hok0.1 rfl; omega
                | some q => exact ⟨q, rfl⟩
            refine wAp (k + 1, Mk, some (wEd p (some q))) (.cons (t := 1) rfl (.cons (t := 2) rfl (.cons (t := 3) rfl (.cons (t := 4) rfl (.cons (t := 5) rfl (.cons (t := 6) rfl (.cons (t := 13) rfl (.cons (t := 14) rfl (.cons (t := 15) rfl .nil))))))))) ⟨by show k + 1 ≤ xs.length; omega, hMk, by simp, ?_⟩ (by show xs.length - (k + 1) < xs.length - k; omega) ?_
            · show wEf _ _ _ = wEf _ (some (wEd p _)) _
              rw [hpe]; exact go_on hk1 hI (by rw [← hpe]; simp [wBs, h68, ← hfk, show wBf q.last p.first = true from h85])
            intro w h; refine (h.fewer ?_ : St _ _ _ w)
            first | exact .refl _ | exact .cons _ (.refl _) | exact .cons _ (.cons _ (.refl _)) | exact .cons _ (.cons _ (.cons _ (.refl _))) | exact .cons _ (.cons _ (.cons _ (.cons _ (.refl _)))) | exact .cons _ (.cons _ (.cons _ (.cons _ (.cons _ (.refl _)))))
          refine jp rfl (jp rfl (jp rfl (wAc (jT (wAg rfl (wAb (wAa (wAi rfl rfl (wBa (cs := [_, _, _, _, _, _, _]) rfl rfl rfl (by rfl)) ?_))))))))
          refine sSt rfl ?_
          refine wAc (jT (wAe (jTr (jBr (jTr (jTr (jBr (jTr (jrs (rs := [_]) rfl (.cons (.agg rfl rfl rfl) .nil) ?_)))))))))
          show Value.agg (spc wKs).toArray = _
          rw [wGq hk1 hI (by first | (rw [← hpe]; simp [wBs, h68]; done) | (rw [← hpe]; simp [wBs, show ¬ p.first = xs[k].key from fun e => of_decide_eq_true h75 (by rw [e])]; done) | (obtain ⟨q, rfl⟩ := Option.ne_none_iff_exists'.1 (fun e => by have := hok0.1 e; omega : o ≠ none); rw [← hpe]; simp [wBs, show wBf q.last p.first = false from h85]))]
        iterate 9 refine jp rfl ?_
        refine wAc (jT (wAk rfl (wAd (jT (wAb (wAb (wAa (jp rfl (js rfl (fun h91 => ?_) (fun h91 => ?_))))))))))
        · refine wAc ?_
          refine jT (wAg rfl (wAa (sFa rfl ?_)))
          refine sLL rfl ?_
          refine sFa rfl ?_
          refine sSt rfl ?_
          refine wAc (jT (wAa (sFa rfl ?_)))
          refine sLL rfl ?_
          refine sFa rfl ?_
          refine sSt rfl ?_
          refine sFa rfl ?_
          refine sSt rfl ?_
          refine wAc (jB (jT (wAa (ja rfl (by omega) ?_))))
          refine jp rfl (wAc ?_)
          have hfk : p.first = xs[k].key := by have := key_eq p.first xs[k].key; rw [decide_eq_true (Classical.not_not.1 (of_decide_eq_false h75))] at this; exact of_decide_eq_true this.symm
          obtain rfl : o = none := hok0.2 (by omega)
          refine wAp (k + 1, Mk, some (wEd p none)) (.cons (t := 1) rfl (.cons (t := 2) rfl (.cons (t := 3) rfl (.cons (t := 4) rfl (.cons (t := 5) rfl (.cons (t := 6) rfl (.cons (t := 13) rfl (.cons (t := 14) rfl (.cons (t := 15) rfl .nil))))))))) ⟨by show k + 1 ≤ xs.length; omega, hMk, by simp, ?_⟩ (by show xs.length - (k + 1) < xs.length - k; omega) ?_
          · show wEf _ _ _ = wEf _ (some (wEd p _)) _
            rw [hpe]; exact go_on hk1 hI (by rw [← hpe]; simp [wBs, h68, hfk])
          intro w h; refine (h.fewer ?_ : St _ _ _ w)
          first | exact .refl _ | exact .cons _ (.refl _) | exact .cons _ (.cons _ (.refl _)) | exact .cons _ (.cons _ (.cons _ (.refl _))) | exact .cons _ (.cons _ (.cons _ (.cons _ (.refl _)))) | exact .cons _ (.cons _ (.cons _ (.cons _ (.cons _ (.refl _)))))
        exfalso; omega
      iterate 20 refine jp rfl ?_
      refine wAc (jT (wAg rfl (wAb (wAa (wAi rfl rfl (wBa (cs := [_, _, _, _, _, _, _]) rfl rfl rfl (by rfl)) ?_)))))
      refine sSt rfl ?_
      refine wAc (jT (wAe (jTr (jBr (jTr (jTr (jBr (jTr (jrs (rs := [_]) rfl (.cons (.agg rfl rfl rfl) .nil) ?_)))))))))
      show Value.agg (spc wKs).toArray = _
      rw [wGq hk1 hI (by first | (rw [← hpe]; simp [wBs, h68]; done) | (rw [← hpe]; simp [wBs, show ¬ p.first = xs[k].key from fun e => of_decide_eq_true h75 (by rw [e])]; done) | (obtain ⟨q, rfl⟩ := Option.ne_none_iff_exists'.1 (fun e => by have := hok0.1 e; omega : o ≠ none); rw [← hpe]; simp [wBs, show wBf q.last p.first = false from h85]))]
    refine dp rfl rfl ?_
    refine dFa rfl rfl ?_
    obtain ⟨bv, wv, nv, lw, hst1, hnow⟩ := hcek.st
    obtain ⟨na, nc, rfl, hnc, hns⟩ := hnow
    have hn256 : s.now.length = 256 := hst.2.1.1
    obtain ⟨nb, no, e0, hnx⟩ := hns.open (by intro e; have := congrArg List.length e; rw [wAm, List.length_nil] at this; omega)
    subst e0
    refine wBq rfl rfl rfl (qLd rfl rfl rfl rfl (CM.cj ⟨_, _, _, hst1, rfl⟩ _)) ?_
    refine dFa rfl rfl ?_
    refine dLd rfl rfl ?_
    have hxr2 : 0 ≤ xs[k].ref ∧ xs[k].ref < 256 := by omega
    refine wBq rfl rfl rfl (wBe rfl rfl rfl rfl (by omega)) ?_
    refine wBq rfl rfl rfl (qLd rfl rfl rfl rfl ((hnx _ _ (by rw [Nat.mul_one]; exact wHy (j := xs[k].ref.toNat) (by omega))).cj _)) ?_
    iterate 2 refine dp rfl rfl ?_
    refine wBq rfl rfl rfl (wBa (cs := [_, _, _, _, _, _, _]) rfl rfl rfl (by rfl)) ?_
    refine wHc rfl rfl rfl (wDy rfl rfl) ?_; rintro _ _ _ ⟨b9, rfl, rfl, rfl⟩
    refine wGn (MLe.refl _) (fun _ h => List.mem_cons_of_mem _ h) (by first | exact MLe.refl _ | assumption) (by simp) ?_
    refine jd_s rfl rfl (wBm rfl rfl rfl rfl rfl rfl rfl rfl) ?_; rintro _ _ _ ⟨rfl, rfl⟩
    refine wGn (MLe.refl _) (fun _ h => List.mem_cons_of_mem _ h) (by first | exact MLe.refl _ | assumption) (by simp) ?_
    refine wBd (jPn (jT (wAb (wAb (wAa (sFL rfl rfl ?_))))))
    refine jf rfl (decide_eq_false (by omega)) ?_
    refine wAc (jT (wAk rfl (wAd (jT (wAb (wAb (wAa (sFa rfl ?_))))))))
    obtain ⟨p, hpe⟩ : ∃ p : Sp, p = wBu s 0 xs[k] := ⟨_, rfl⟩
    rw [show ([.int .u8 xs[k].key.kind, .int .u32 xs[k].key.id, .int .u32 xs[k].key.off, .int .u8 xs[k].key.kind, .int .u32 xs[k].key.id, .int .u32 xs[k].key.off, .bool (decide (0 < ((s.now.getD xs[k].ref.toNat 0).toNat : Int)))] : List Value) = spc p by rw [hpe]; simp [spc, wBu, h26]]
    refine wJj rfl rfl (qLd rfl rfl rfl rfl (CJ.loc rfl)) (fun h68 => ?_) (fun h68 => ?_)
    · refine jp rfl ?_
      refine jp rfl (sFa rfl ?_)
      refine sLL rfl ?_
      refine sFa rfl ?_
      refine sLL rfl ?_
      refine wJj rfl rfl (qNeI (ns := [p.first.kind, p.first.id, p.first.off]) (ms := [xs[k].key.kind, xs[k].key.id, xs[k].key.off]) rfl rfl rfl rfl rfl rfl ⟨rfl, rfl⟩) (fun h75 => ?_) (fun h75 => ?_)
      · iterate 13 refine jp rfl ?_
        refine wAc (jT (wAg rfl (wAb (wAa (wAi rfl rfl (wBa (cs := [_, _, _, _, _, _, _]) rfl rfl rfl (by rfl)) ?_)))))
        refine sSt rfl ?_
        refine wAc (jT (wAe (jTr (jBr (jTr (jTr (jBr (jTr (jrs (rs := [_]) rfl (.cons (.agg rfl rfl rfl) .nil) ?_)))))))))
        show Value.agg (spc wKs).toArray = _
        rw [wGq hk1 hI (by first | (rw [← hpe]; simp [wBs, h68]; done) | (rw [← hpe]; simp [wBs, show ¬ p.first = xs[k].key from fun e => of_decide_eq_true h75 (by rw [e])]; done) | (obtain ⟨q, rfl⟩ := Option.ne_none_iff_exists'.1 (fun e => by have := hok0.1 e; omega : o ≠ none); rw [← hpe]; simp [wBs, show wBf q.last p.first = false from h85]))]
      refine jp rfl (jp rfl (jp rfl (js rfl (fun h79 => ?_) (fun h79 => ?_))))
      · refine jp rfl ?_
        refine sFa rfl ?_
        refine sLL rfl ?_
        refine sFa rfl ?_
        refine sLL rfl ?_
        refine wJj rfl rfl (wBr rfl rfl rfl rfl rfl (by kernel_rfl) (wHj (o.getD wKs).last p.first _)) (fun h85 => ?_) (fun h85 => ?_)
        · refine jp rfl ?_
          refine jp rfl (jp rfl (wAc (jT (wAk rfl (wAd (jT (wAb (wAb (wAa (jp rfl (js rfl (fun h91 => ?_) (fun h91 => ?_))))))))))))
          · exfalso; omega
          refine wAc (jT (wAk rfl (wAd (jT (wAa (sFa rfl ?_))))))
          refine sLL rfl ?_
          refine sFa rfl ?_
          refine sSt rfl ?_
          refine sFa rfl ?_
          refine sSt rfl ?_
          refine wAc (jB (jT (wAa (ja rfl (by omega) ?_))))
          refine jp rfl (wAc ?_)
          have hfk : p.first = xs[k].key := by have := key_eq p.first xs[k].key; rw [decide_eq_true (Classical.not_not.1 (of_decide_eq_false h75))] at this; exact of_decide_eq_true this.symm
          obtain ⟨q, rfl⟩ : ∃ q, o = some q := by
              cases o with
              | none => have := hok0.1 rfl; omega
              | some q => exact ⟨q, rfl⟩
          refine wAp (k + 1, Mk, some (wEd p (some q))) (.cons (t := 1) rfl (.cons (t := 2) rfl (.cons (t := 3) rfl (.cons (t := 4) rfl (.cons (t := 5) rfl (.cons (t := 6) rfl (.cons (t := 13) rfl (.cons (t := 14) rfl (.cons (t := 15) rfl .nil))))))))) ⟨by show k + 1 ≤ xs.length; omega, hMk, by simp, ?_⟩ (by show xs.length - (k + 1) < xs.length - k; omega) ?_
          · show wEf _ _ _ = wEf _ (some (wEd p _)) _
            rw [hpe]; exact go_on hk1 hI (by rw [← hpe]; simp [wBs, h68, ← hfk, show wBf q.last p.first = true from h85])
          intro w h; refine (h.fewer ?_ : St _ _ _ w)
          first | exact .refl _ | exact .cons _ (.refl _) | exact .cons _ (.cons _ (.refl _)) | exact .cons _ (.cons _ (.cons _ (.refl _))) | exact .cons _ (.cons _ (.cons _ (.cons _ (.refl _)))) | exact .cons _ (.cons _ (.cons _ (.cons _ (.cons _ (.refl _)))))
        refine jp rfl (jp rfl (jp rfl (wAc (jT (wAg rfl (wAb (wAa (wAi rfl rfl (wBa (cs := [_, _, _, _, _, _, _]) rfl rfl rfl (by rfl)) ?_))))))))
        refine sSt rfl ?_
        refine wAc (jT (wAe (jTr (jBr (jTr (jTr (jBr (jTr (jrs (rs := [_]) rfl (.cons (.agg rfl rfl rfl) .nil) ?_)))))))))
        show Value.agg (spc wKs).toArray = _
        rw [wGq hk1 hI (by first | (rw [← hpe]; simp [wBs, h68]; done) | (rw [← hpe]; simp [wBs, show ¬ p.first = xs[k].key from fun e => of_decide_eq_true h75 (by rw [e])]; done) | (obtain ⟨q, rfl⟩ := Option.ne_none_iff_exists'.1 (fun e => by have := hok0.1 e; omega : o ≠ none); rw [← hpe]; simp [wBs, show wBf q.last p.first = false from h85]))]
      iterate 9 refine jp rfl ?_
      refine wAc (jT (wAk rfl (wAd (jT (wAb (wAb (wAa (jp rfl (js rfl (fun h91 => ?_) (fun h91 => ?_))))))))))
      · refine wAc ?_
        refine jT (wAg rfl (wAa (sFa rfl ?_)))
        refine sLL rfl ?_
        refine sFa rfl ?_
        refine sSt rfl ?_
        refine wAc (jT (wAa (sFa rfl ?_)))
        refine sLL rfl ?_
        refine sFa rfl ?_
        refine sSt rfl ?_
        refine sFa rfl ?_
        refine sSt rfl ?_
        refine wAc (jB (jT (wAa (ja rfl (by omega) ?_))))
        refine jp rfl (wAc ?_)
        have hfk : p.first = xs[k].key := by have := key_eq p.first xs[k].key; rw [decide_eq_true (Classical.not_not.1 (of_decide_eq_false h75))] at this; exact of_decide_eq_true this.symm
        obtain rfl : o = none := hok0.2 (by omega)
        refine wAp (k + 1, Mk, some (wEd p none)) (.cons (t := 1) rfl (.cons (t := 2) rfl (.cons (t := 3) rfl (.cons (t := 4) rfl (.cons (t := 5) rfl (.cons (t := 6) rfl (.cons (t := 13) rfl (.cons (t := 14) rfl (.cons (t := 15) rfl .nil))))))))) ⟨by show k + 1 ≤ xs.length; omega, hMk, by simp, ?_⟩ (by show xs.length - (k + 1) < xs.length - k; omega) ?_
        · show wEf _ _ _ = wEf _ (some (wEd p _)) _
          rw [hpe]; exact go_on hk1 hI (by rw [← hpe]; simp [wBs, h68, hfk])
        intro w h; refine (h.fewer ?_ : St _ _ _ w)
        first | exact .refl _ | exact .cons _ (.refl _) | exact .cons _ (.cons _ (.refl _)) | exact .cons _ (.cons _ (.cons _ (.refl _))) | exact .cons _ (.cons _ (.cons _ (.cons _ (.refl _)))) | exact .cons _ (.cons _ (.cons _ (.cons _ (.cons _ (.refl _)))))
      exfalso; omega
    iterate 20 refine jp rfl ?_
    refine wAc (jT (wAg rfl (wAb (wAa (wAi rfl rfl (wBa (cs := [_, _, _, _, _, _, _]) rfl rfl rfl (by rfl)) ?_)))))
    refine sSt rfl ?_
    refine wAc (jT (wAe (jTr (jBr (jTr (jTr (jBr (jTr (jrs (rs := [_]) rfl (.cons (.agg rfl rfl rfl) .nil) ?_)))))))))
    show Value.agg (spc wKs).toArray = _
    rw [wGq hk1 hI (by first | (rw [← hpe]; simp [wBs, h68]; done) | (rw [← hpe]; simp [wBs, show ¬ p.first = xs[k].key from fun e => of_decide_eq_true h75 (by rw [e])]; done) | (obtain ⟨q, rfl⟩ := Option.ne_none_iff_exists'.1 (fun e => by have := hok0.1 e; omega : o ≠ none); rw [← hpe]; simp [wBs, show wBf q.last p.first = false from h85]))]
  refine wAc (jT (wAb (wAk rfl (wAw (jTx (jTx (jBx (jT (wAb (wAa (sLL rfl ?_)))))))))))
  refine sSt rfl ?_
  refine wAc (jT (wAe (jrs (rs := [_]) rfl (.cons (.agg rfl rfl rfl) .nil) ?_)))
  show Value.agg (spc (o.getD wKs)).toArray = _
  rw [go_end (by omega) hI]
set_option maxHeartbeats 4000000 in
theorem fwalk_node (s : Sto) (hst : wCc s) (c1 c2 c3 : Nat) (xs : List It) (a : Option Addr) (c : Nat) (ps : List (It × Value)) (M : Mem) (hce : CE M s c1 c2 c3) (hc : xs.length ≤ c) (hs : SM M a (ps.flatMap wAs)) (hp : ps.map (·.1) = xs) (hb : ∀ p ∈ ps, BS M p.2 p.1.val) (l : Nat) (lv : Int) (hl1 : lv = (l : Int) + 1) (hno : NdOk lv xs) (ih : ∀ (ys : List It) (v : Value) (M : Mem), CE M s c1 c2 c3 → NS M v ys → NdOk (l : Int) ys → SpecL Tryz.prog 55 #[.agg #[.int .i64 (l : Int), v], .pointer (some ⟨c1, 0, none⟩), .pointer (some ⟨c2, 0, none⟩), .pointer (some ⟨c3, 0, none⟩)] M [] fun u _ _ => u = .agg (spc (wEf (wBu s l) none ys)).toArray) :
    SpecL Tryz.prog 55 #[.agg #[.int .i64 lv, .slice a xs.length c], .pointer (some ⟨c1, 0, none⟩), .pointer (some ⟨c2, 0, none⟩), .pointer (some ⟨c3, 0, none⟩)] M [] fun v _ _ => v = .agg (spc (wEf (wBu s (l + 1)) none xs)).toArray := by
  have hlv := hno.lev
  have hlen := hno.len
  refine wAf (vs := [_, _, _, _]) 101 _ Tryz.func55 rfl Tryz.ntmps55 rfl rfl ?_; intro W
  refine wAb (wAa (wAy rfl rfl (wCm (cs := [_, _]) rfl rfl rfl rfl) ?_)); rintro _ _ _ ⟨b4, rfl, rfl, rfl⟩
  refine sAl rfl fun b5 => ?_
  refine wAc (jT (wAb (wAa (sAl rfl fun b6 => ?_))))
  refine wAc (jT (wAb (wAb (wAa (sFL rfl rfl ?_)))))
  refine wAi rfl rfl (wBj rfl rfl rfl) ?_
  refine jp rfl (wAc (jT (wAh ?_)))
  refine wAv (α := Nat × Mem × Option Sp) (fun x => [(1, .pointer (some ⟨c1, 0, none⟩)), (2, .pointer (some ⟨c2, 0, none⟩)), (3, .pointer (some ⟨c3, 0, none⟩)), (4, .pointer (some ⟨b4, 0, none⟩)), (5, .pointer (some ⟨b5, 0, none⟩)), (6, .pointer (some ⟨b6, 0, none⟩)), (13, .slice a xs.length c), (14, .int .i64 xs.length), (15, .int .i64 x.1)]) (fun x => x.2.1) (fun x => [(b6, .cells (spc (x.2.2.getD wKs)).toArray 116 (0, 0)), (b5, .cells (spc wKs).toArray 116 (0, 0)), (b4, .cells [.int .i64 lv, .slice a xs.length c].toArray 53 (0, 0))]) (fun x => x.1 ≤ xs.length ∧ MLe M x.2.1 ∧ (x.2.2 = none ↔ x.1 = 0) ∧ wEf (wBu s (l + 1)) none xs = wEf (wBu s (l + 1)) x.2.2 (xs.drop x.1)) (fun x => xs.length - x.1)
    (0, M, none) (.cons (t := 1) rfl (.cons (t := 2) rfl (.cons (t := 3) rfl (.cons (t := 4) rfl (.cons (t := 5) rfl (.cons (t := 6) rfl (.cons (t := 13) rfl (.cons (t := 14) rfl (.cons (t := 15) rfl .nil))))))))) ⟨Nat.zero_le _, MLe.refl _, by simp, rfl⟩ (fun _ h => h) ?_
  rintro ⟨k, Mk, o⟩ ⟨hk, hMk, hok0, hI⟩
  try dsimp only at hk hMk hok0 hI ⊢
  have hcek := hce.mono hMk
  have hsk := hs.mono hMk
  have hbk := fun p hp => (hb p hp).mono hMk
  refine wAb (wAa (js rfl (fun h16 => ?_) (fun h16 => ?_)))
  · refine wAc ?_
    refine jT (wAb (wAg rfl (wAd (jT (wAb (wAh (wAb (wAa (jp rfl ?_)))))))))
    have hk1 : k < xs.length := by omega
    obtain ⟨sb, so, e0, hx⟩ := hsk.open (by intro e; have := congrArg List.length e; rw [wBi wAs 5 wAq, List.length_nil] at this; have h2 := congrArg List.length hp; rw [List.length_map] at h2; omega)
    subst e0
    obtain ⟨va, vc, hcl, hvc, hvs⟩ := wBt hx hp hbk hk1
    have hxr := hno.ref xs[k] (List.getElem_mem hk1)
    refine wAi rfl rfl (wBe rfl rfl rfl rfl (by omega)) ?_
    refine wAi rfl rfl (wGx (cs := itc xs[k] va vc) rfl rfl rfl rfl rfl (fun i v hv => (hcl i v hv).cj _)) ?_
    refine sAl rfl fun b8 => ?_
    refine jp rfl (sSt rfl ?_)
    refine wAc (jT (wAb (wBp [(0, true), (1, true), (2, true), (3, true), (4, true), (5, true), (6, true), (7, true), (8, true), (9, true), (10, true), (11, true), (12, true), (13, true), (14, true), (15, true), (16, true), (17, false), (18, false)] _ (by kernel_rfl) (by kernel_rfl) (by kernel_rfl) rfl (fun _ h => h) ?_)))
    refine dFa rfl rfl ?_
    refine dLL rfl rfl ?_
    refine dFa rfl rfl ?_
    refine dLL rfl rfl ?_
    refine dFa rfl rfl ?_
    refine dLd rfl rfl ?_
    refine ds rfl rfl (fun h26 => ?_) (fun h26 => ?_)
    · exfalso; exact hno.up (by omega) xs[k] (List.getElem_mem hk1) h26
    refine dp rfl rfl ?_
    refine dFa rfl rfl ?_
    obtain ⟨bv, wv, nv, lw, hst1, hnow⟩ := hcek.st
    obtain ⟨na, nc, rfl, hnc, hns⟩ := hnow
    have hn256 : s.now.length = 256 := hst.2.1.1
    obtain ⟨nb, no, e0, hnx⟩ := hns.open (by intro e; have := congrArg List.length e; rw [wAm, List.length_nil] at this; omega)
    subst e0
    refine wBq rfl rfl rfl (qLd rfl rfl rfl rfl (CM.cj ⟨_, _, _, hst1, rfl⟩ _)) ?_
    refine dFa rfl rfl ?_
    refine dLd rfl rfl ?_
    have hxr2 : 0 ≤ xs[k].ref ∧ xs[k].ref < 256 := by omega
    refine wBq rfl rfl rfl (wBe rfl rfl rfl rfl (by omega)) ?_
    refine wBq rfl rfl rfl (qLd rfl rfl rfl rfl ((hnx _ _ (by rw [Nat.mul_one]; exact wHy (j := xs[k].ref.toNat) (by omega))).cj _)) ?_
    iterate 2 refine dp rfl rfl ?_
    refine wBq rfl rfl rfl (wBa (cs := [_, _, _, _, _, _, _]) rfl rfl rfl (by rfl)) ?_
    refine wHc rfl rfl rfl (wDy rfl rfl) ?_; rintro _ _ _ ⟨b9, rfl, rfl, rfl⟩
    refine wGn (MLe.refl _) (fun _ h => List.mem_cons_of_mem _ h) (by first | exact MLe.refl _ | assumption) (by simp) ?_
    refine jd_s rfl rfl (wBm rfl rfl rfl rfl rfl rfl rfl rfl) ?_; rintro _ _ _ ⟨rfl, rfl⟩
    refine wGn (MLe.refl _) (fun _ h => List.mem_cons_of_mem _ h) (by first | exact MLe.refl _ | assumption) (by simp) ?_
    refine wBd (jPn (jT (wAb (wAb (wAa (sFL rfl rfl ?_))))))
    refine jt rfl (decide_eq_true (by omega)) ?_
    refine wAc (jT (wAg rfl (wAb (wAa ?_))))
    obtain ⟨bp, hbp1, hbp⟩ := hcek.bn
    refine wAi rfl rfl (qLd rfl rfl rfl rfl (CM.cj ⟨_, _, _, hbp1, rfl⟩ _)) ?_
    refine sFL rfl rfl ?_
    have hup := hno.up (by omega) xs[k] (List.getElem_mem hk1)
    have hkr : ((xs[k].ref.toNat : Nat) : Int) = xs[k].ref := Int.toNat_of_nonneg (by omega)
    refine wAy rfl rfl (wAu rfl rfl rfl rfl rfl (by kernel_rfl) (by have := bnode_spec s xs[k].ref.toNat bp Mk hst (by omega) hbp; rwa [hkr] at this)) ?_; rintro _ Mn _ ⟨hMn, _, rfl, ⟨hbn, rfl⟩⟩
    obtain ⟨nl, ya, yn, yc, e, rfl, hbn2⟩ := BnPost.form hbn
    refine jp rfl (jp rfl (jp rfl (sAl rfl fun b10 => ?_)))
    refine sSt rfl ?_
    refine jp rfl (wAc (jT (wAb (wAb (wAa (jp rfl (js rfl (fun h48 => ?_) (fun h48 => ?_))))))))
    · iterate 14 refine jp rfl ?_
      refine wAc (jT (wAg rfl (wAb (wAa (wAi rfl rfl (wBa (cs := [_, _, _, _, _, _, _]) rfl rfl rfl (by rfl)) ?_)))))
      refine sSt rfl ?_
      refine wAc (jT (wAe (jTr (jTr (jBr (jTr (jTr (jBr (jTr (jrs (rs := [_]) rfl (.cons (.agg rfl rfl rfl) .nil) ?_))))))))))
      show Value.agg (spc wKs).toArray = _
      obtain ⟨he, hnd⟩ | ⟨he, ys, hnd, hyl, hys⟩ := hbn2
      · rw [wGq hk1 hI (step_none hnd)]
      rw [wGq hk1 hI (step_some hnd (by omega))]
    refine jp rfl (sFL rfl rfl ?_)
    refine sFL rfl rfl ?_
    refine ja rfl (by omega) ?_
    refine js rfl (fun h55 => ?_) (fun h55 => ?_)
    · iterate 7 refine jp rfl ?_
      refine wAc (jT (wAg rfl (wAb (wAa (wAi rfl rfl (wBa (cs := [_, _, _, _, _, _, _]) rfl rfl rfl (by rfl)) ?_)))))
      refine sSt rfl ?_
      refine wAc (jT (wAe (jTr (jTr (jBr (jTr (jTr (jBr (jTr (jrs (rs := [_]) rfl (.cons (.agg rfl rfl rfl) .nil) ?_))))))))))
      show Value.agg (spc wKs).toArray = _
      obtain ⟨he, hnd⟩ | ⟨he, ys, hnd, hyl, hys⟩ := hbn2
      · rw [wGq hk1 hI (step_none hnd)]
      rw [wGq hk1 hI (step_some hnd (by omega))]
    refine jp rfl (jp rfl (sFL rfl rfl ?_))
    refine wAi rfl rfl (wBj rfl rfl rfl) ?_
    refine js rfl (fun h61 => ?_) (fun h61 => ?_)
    · refine jp rfl ?_
      refine wAc (jT (wAg rfl (wAb (wAa (wAi rfl rfl (wBa (cs := [_, _, _, _, _, _, _]) rfl rfl rfl (by rfl)) ?_)))))
      refine sSt rfl ?_
      refine wAc (jT (wAe (jTr (jTr (jBr (jTr (jTr (jBr (jTr (jrs (rs := [_]) rfl (.cons (.agg rfl rfl rfl) .nil) ?_))))))))))
      show Value.agg (spc wKs).toArray = _
      obtain ⟨he, hnd⟩ | ⟨he, ys, hnd, hyl, hys⟩ := hbn2
      · rw [wGq hk1 hI (step_none hnd)]
      rw [wGq hk1 hI (step_some hnd (by intro hh; exact hh.2 (List.eq_nil_of_length_eq_zero (by omega))))]
    refine jp rfl (wAc (jT (wAk rfl (wAd (jT (wAa (wAi rfl rfl (qLd rfl rfl rfl rfl (CM.cj ⟨_, _, _, (hcek.mono hMn).cl, rfl⟩ _)) ?_)))))))
    refine sLL rfl ?_
    obtain ⟨_, hnd⟩ | ⟨rfl, ys, hnd, rfl, hys⟩ := hbn2
    · omega
    have hnl : nl = (l : Int) := by omega
    subst hnl
    have hys0 : ys ≠ [] := fun e => h61 (by rw [e]; rfl)
    refine wAi rfl rfl (wBr rfl rfl rfl rfl rfl (by kernel_rfl) (ih ys _ Mn (hcek.mono hMn) hys (wBo hnd))) ?_
    refine sSt rfl ?_
    refine wAc (jT (wAb (wAb (wAa (sFa rfl ?_)))))
    obtain ⟨p, hpe⟩ : ∃ p : Sp, p = wBu s (l + 1) xs[k] := ⟨_, rfl⟩
    have hone : wEf (wBu s l) none ys = p := by rw [hpe]; simp only [wBu]; rw [hnd]; exact (if_pos ⟨by omega, hys0⟩).symm
    rw [hone]
    refine wJj rfl rfl (qLd rfl rfl rfl rfl (CJ.loc rfl)) (fun h68 => ?_) (fun h68 => ?_)
    · refine jp rfl ?_
      refine jp rfl (sFa rfl ?_)
      refine sLL rfl ?_
      refine sFa rfl ?_
      refine sLL rfl ?_
      refine wJj rfl rfl (qNeI (ns := [p.first.kind, p.first.id, p.first.off]) (ms := [xs[k].key.kind, xs[k].key.id, xs[k].key.off]) rfl rfl rfl rfl rfl rfl ⟨rfl, rfl⟩) (fun h75 => ?_) (fun h75 => ?_)
      · iterate 13 refine jp rfl ?_
        refine wAc (jT (wAg rfl (wAb (wAa (wAi rfl rfl (wBa (cs := [_, _, _, _, _, _, _]) rfl rfl rfl (by rfl)) ?_)))))
        refine sSt rfl ?_
        refine wAc (jT (wAe (jTr (jBr (jTr (jTr (jBr (jTr (jrs (rs := [_]) rfl (.cons (.agg rfl rfl rfl) .nil) ?_)))))))))
        show Value.agg (spc wKs).toArray = _
        rw [wGq hk1 hI (by first | (rw [← hpe]; simp [wBs, h68]; done) | (rw [← hpe]; simp [wBs, show ¬ p.first = xs[k].key from fun e => of_decide_eq_true h75 (by rw [e])]; done) | (obtain ⟨q, rfl⟩ := Option.ne_none_iff_exists'.1 (fun e => by have := hok0.1 e; omega : o ≠ none); rw [← hpe]; simp [wBs, show wBf q.last p.first = false from h85]))]
      refine jp rfl (jp rfl (jp rfl (js rfl (fun h79 => ?_) (fun h79 => ?_))))
      · refine jp rfl ?_
        refine sFa rfl ?_
        refine sLL rfl ?_
        refine sFa rfl ?_
        refine sLL rfl ?_
        refine wJj rfl rfl (wBr rfl rfl rfl rfl rfl (by kernel_rfl) (wHj (o.getD wKs).last p.first _)) (fun h85 => ?_) (fun h85 => ?_)
        · refine jp rfl ?_
          refine jp rfl (jp rfl (wAc (jT (wAk rfl (wAd (jT (wAb (wAb (wAa (jp rfl (js rfl (fun h91 => ?_) (fun h91 => ?_))))))))))))
          · exfalso; omega
          refine wAc (jT (wAk rfl (wAd (jT (wAa (sFa rfl ?_))))))
          refine sLL rfl ?_
          refine sFa rfl ?_
          refine sSt rfl ?_
          refine sFa rfl ?_
          refine sSt rfl ?_
          refine wAc (jB (jT (wAa (ja rfl (by omega) ?_))))
          refine jp rfl (wAc ?_)
          have hfk : p.first = xs[k].key := by have := key_eq p.first xs[k].key; rw [decide_eq_true (Classical.not_not.1 (of_decide_eq_false h75))] at this; exact of_decide_eq_true this.symm
          obtain ⟨q, rfl⟩ : ∃ q, o = some q := by
              cases o with
              | none => have := hok0.1 rfl; omega
              | some q => exact ⟨q, rfl⟩
          refine wAp (k + 1, Mn, some (wEd p (some q))) (.cons (t := 1) rfl (.cons (t := 2) rfl (.cons (t := 3) rfl (.cons (t := 4) rfl (.cons (t := 5) rfl (.cons (t := 6) rfl (.cons (t := 13) rfl (.cons (t := 14) rfl (.cons (t := 15) rfl .nil))))))))) ⟨by show k + 1 ≤ xs.length; omega, hMk.trans hMn, by simp, ?_⟩ (by show xs.length - (k + 1) < xs.length - k; omega) ?_
          · show wEf _ _ _ = wEf _ (some (wEd p _)) _
            rw [hpe]; exact go_on hk1 hI (by rw [← hpe]; simp [wBs, h68, ← hfk, show wBf q.last p.first = true from h85])
          intro w h; refine (h.fewer ?_ : St _ _ _ w)
          first | exact .refl _ | exact .cons _ (.refl _) | exact .cons _ (.cons _ (.refl _)) | exact .cons _ (.cons _ (.cons _ (.refl _))) | exact .cons _ (.cons _ (.cons _ (.cons _ (.refl _)))) | exact .cons _ (.cons _ (.cons _ (.cons _ (.cons _ (.refl _)))))
        refine jp rfl (jp rfl (jp rfl (wAc (jT (wAg rfl (wAb (wAa (wAi rfl rfl (wBa (cs := [_, _, _, _, _, _, _]) rfl rfl rfl (by rfl)) ?_))))))))
        refine sSt rfl ?_
        refine wAc (jT (wAe (jTr (jBr (jTr (jTr (jBr (jTr (jrs (rs := [_]) rfl (.cons (.agg rfl rfl rfl) .nil) ?_)))))))))
        show Value.agg (spc wKs).toArray = _
        rw [wGq hk1 hI (by first | (rw [← hpe]; simp [wBs, h68]; done) | (rw [← hpe]; simp [wBs, show ¬ p.first = xs[k].key from fun e => of_decide_eq_true h75 (by rw [e])]; done) | (obtain ⟨q, rfl⟩ := Option.ne_none_iff_exists'.1 (fun e => by have := hok0.1 e; omega : o ≠ none); rw [← hpe]; simp [wBs, show wBf q.last p.first = false from h85]))]
      iterate 9 refine jp rfl ?_
      refine wAc (jT (wAk rfl (wAd (jT (wAb (wAb (wAa (jp rfl (js rfl (fun h91 => ?_) (fun h91 => ?_))))))))))
      · refine wAc ?_
        refine jT (wAg rfl (wAa (sFa rfl ?_)))
        refine sLL rfl ?_
        refine sFa rfl ?_
        refine sSt rfl ?_
        refine wAc (jT (wAa (sFa rfl ?_)))
        refine sLL rfl ?_
        refine sFa rfl ?_
        refine sSt rfl ?_
        refine sFa rfl ?_
        refine sSt rfl ?_
        refine wAc (jB (jT (wAa (ja rfl (by omega) ?_))))
        refine jp rfl (wAc ?_)
        have hfk : p.first = xs[k].key := by have := key_eq p.first xs[k].key; rw [decide_eq_true (Classical.not_not.1 (of_decide_eq_false h75))] at this; exact of_decide_eq_true this.symm
        obtain rfl : o = none := hok0.2 (by omega)
        refine wAp (k + 1, Mn, some (wEd p none)) (.cons (t := 1) rfl (.cons (t := 2) rfl (.cons (t := 3) rfl (.cons (t := 4) rfl (.cons (t := 5) rfl (.cons (t := 6) rfl (.cons (t := 13) rfl (.cons (t := 14) rfl (.cons (t := 15) rfl .nil))))))))) ⟨by show k + 1 ≤ xs.length; omega, hMk.trans hMn, by simp, ?_⟩ (by show xs.length - (k + 1) < xs.length - k; omega) ?_
        · show wEf _ _ _ = wEf _ (some (wEd p _)) _
          rw [hpe]; exact go_on hk1 hI (by rw [← hpe]; simp [wBs, h68, hfk])
        intro w h; refine (h.fewer ?_ : St _ _ _ w)
        first | exact .refl _ | exact .cons _ (.refl _) | exact .cons _ (.cons _ (.refl _)) | exact .cons _ (.cons _ (.cons _ (.refl _))) | exact .cons _ (.cons _ (.cons _ (.cons _ (.refl _)))) | exact .cons _ (.cons _ (.cons _ (.cons _ (.cons _ (.refl _)))))
      exfalso; omega
    iterate 20 refine jp rfl ?_
    refine wAc (jT (wAg rfl (wAb (wAa (wAi rfl rfl (wBa (cs := [_, _, _, _, _, _, _]) rfl rfl rfl (by rfl)) ?_)))))
    refine sSt rfl ?_
    refine wAc (jT (wAe (jTr (jBr (jTr (jTr (jBr (jTr (jrs (rs := [_]) rfl (.cons (.agg rfl rfl rfl) .nil) ?_)))))))))
    show Value.agg (spc wKs).toArray = _
    rw [wGq hk1 hI (by first | (rw [← hpe]; simp [wBs, h68]; done) | (rw [← hpe]; simp [wBs, show ¬ p.first = xs[k].key from fun e => of_decide_eq_true h75 (by rw [e])]; done) | (obtain ⟨q, rfl⟩ := Option.ne_none_iff_exists'.1 (fun e => by have := hok0.1 e; omega : o ≠ none); rw [← hpe]; simp [wBs, show wBf q.last p.first = false from h85]))]
  refine wAc (jT (wAb (wAk rfl (wAw (jTx (jTx (jBx (jT (wAb (wAa (sLL rfl ?_)))))))))))
  refine sSt rfl ?_
  refine wAc (jT (wAe (jrs (rs := [_]) rfl (.cons (.agg rfl rfl rfl) .nil) ?_)))
  show Value.agg (spc (o.getD wKs)).toArray = _
  rw [go_end (by omega) hI]
theorem fwalk_spec (s : Sto) (hst : wCc s) (c1 c2 c3 : Nat) : ∀ (l : Nat) (ys : List It) (v : Value) (M : Mem), CE M s c1 c2 c3 → NS M v ys → NdOk (l : Int) ys →
    SpecL Tryz.prog 55 #[.agg #[.int .i64 (l : Int), v], .pointer (some ⟨c1, 0, none⟩), .pointer (some ⟨c2, 0, none⟩), .pointer (some ⟨c3, 0, none⟩)] M [] fun u _ _ => u = .agg (spc (wEf (wBu s l) none ys)).toArray
  | 0, ys, v, M, hce, hv, hno => by
    obtain ⟨a, c, ps, rfl, hc, hs, hp, hb⟩ := hv
    exact fwalk_leaf s hst c1 c2 c3 ys a c ps M hce hc hs hp hb hno
  | l + 1, ys, v, M, hce, hv, hno => by
    obtain ⟨a, c, ps, rfl, hc, hs, hp, hb⟩ := hv
    exact fwalk_node s hst c1 c2 c3 ys a c ps M hce hc hs hp hb l ((l + 1 : Nat) : Int) (by omega) hno (fwalk_spec s hst c1 c2 c3 l)
def wFh (s : Sto) (root : Int) : Int × Int :=
  if wCc s then
    if root < 8 ∨ 256 ≤ root then (0, 2)
    else if s.now.getD root.toNat 0 = 0 then (0, 6)
    else match wBk s root.toNat with
      | none => (0, 8)
      | some (lv, xs) => if wCq s lv.toNat xs then (lv + 1, 0) else (0, 8)
  else (0, 8)
theorem wKq {s : Sto} {root : Int} (h : wCc s) (hr : ¬ (root < 8 ∨ 256 ≤ root)) (hn : ¬ s.now.getD root.toNat 0 = 0) : wFh s root = match wBk s root.toNat with
      | none => (0, 8)
      | some (lv, xs) => if wCq s lv.toNat xs then (lv + 1, 0) else (0, 8) := by
  unfold wFh; rw [if_pos h, if_neg hr, if_neg hn]
set_option maxHeartbeats 2000000 in
theorem fcheck_walk (s : Sto) (root : Int) (bv wv nv lv : Value) (M : Mem) (h1 : LS M bv s.blocks) (h2 : WS M wv s.waits) (h3 : BS M nv s.now) (h4 : BS M lv s.last) :
    SpecL Tryz.prog 27 #[.agg #[bv, wv, nv, lv], .int .i64 root] M [] fun u _ L' => u = .tuple #[.int .i64 (wFh s root).1, .int .i64 (wFh s root).2] := by
  have hST : ST M (.agg #[bv, wv, nv, lv]) s := ⟨_, _, _, _, rfl, h1, h2, h3, h4⟩
  refine wAf (vs := [_, _]) 53 _ Tryz.func27 rfl Tryz.ntmps27 rfl rfl ?_; intro W
  refine wAb (wAa (wAy rfl rfl (wCm (cs := [_, _, _, _]) rfl rfl rfl rfl) ?_)); rintro _ _ _ ⟨b2, rfl, rfl, rfl⟩
  refine jp rfl (jp rfl (wAc (jT (wAb (wAb (wAa (sLL rfl ?_)))))))
  refine wAi rfl rfl (wBr rfl rfl rfl rfl rfl (by kernel_rfl) (rcheck_spec s _ M hST)) ?_
  refine jp rfl (wAc (jT (wAb (wAa (jp rfl (js rfl (fun h13 => ?_) (fun h13 => ?_)))))))
  · refine wAc ?_
    refine jT (wAg rfl (wAb (wAa (jp rfl (jp rfl (jp rfl (wAc (jT (wAe (jTr (jr2 rfl rfl rfl ?_)))))))))))
    have hno : ¬ wCc s := fun k => h13 (if_pos k)
    unfold wFh stChk; rw [if_neg hno, if_neg hno]
  refine wAc (jT (wAk rfl (wAd (jT (wAb (wAb (wAa (jp rfl (js rfl (fun h16 => ?_) (fun h16 => ?_))))))))))
  · refine jp rfl ?_
    refine jp rfl (jp rfl (jp rfl (wAc (jT (wAg rfl (wAb (wAa (jp rfl (jp rfl (wAc (jT (wAe (jTr (jr2 rfl rfl rfl ?_))))))))))))))
    have hst : wCc s := Classical.byContradiction fun k => h13 (by unfold stChk; rw [if_neg k]; decide)
    unfold wFh; rw [if_pos hst, if_pos (by omega)]
  refine jp rfl (jp rfl (js rfl (fun h19 => ?_) (fun h19 => ?_)))
  · refine jp rfl ?_
    refine wAc (jT (wAg rfl (wAb (wAa (jp rfl (jp rfl (wAc (jT (wAe (jTr (jr2 rfl rfl rfl ?_)))))))))))
    have hst : wCc s := Classical.byContradiction fun k => h13 (by unfold stChk; rw [if_neg k]; decide)
    unfold wFh; rw [if_pos hst, if_pos (by omega)]
  refine jp rfl (wAc (jT (wAk rfl (wAd (jT (wAb (wAb (wAa (sFa rfl ?_)))))))))
  have hst : wCc s := Classical.byContradiction fun k => h13 (by unfold stChk; rw [if_neg k]; decide)
  have hn256 : s.now.length = 256 := hst.2.1.1
  have hw4 : s.waits.length ≤ 4096 := hst.1.2.1
  obtain ⟨na, nc, rfl, hnc, hns⟩ := id h3
  obtain ⟨nb, no, e0, hnx⟩ := hns.open (by intro e; have := congrArg List.length e; rw [wAm, List.length_nil] at this; omega)
  subst e0
  obtain ⟨k, rfl⟩ : ∃ k : Nat, root = k := ⟨root.toNat, by omega⟩
  refine sLd rfl ?_
  refine jp rfl (wAi rfl rfl (wBe rfl rfl rfl rfl (by omega)) ?_)
  refine wAi rfl rfl (qLd rfl rfl rfl rfl ((hnx _ _ (by rw [Nat.mul_one]; exact wHy (j := k) (by omega))).cj _)) ?_
  refine js rfl (fun h26 => ?_) (fun h26 => ?_)
  · refine wAc ?_
    refine jT (wAg rfl (wAb (wAa (jp rfl (jp rfl (wAc (jT (wAe (jTr (jr2 rfl rfl rfl ?_))))))))))
    unfold wFh; rw [if_pos hst, if_neg (by omega), if_pos (UInt8.toNat.inj (by simpa using h26))]
  refine wAc (jT (wAk rfl (wAd (jT (wAb (wAa (sLL rfl ?_)))))))
  refine wAy rfl rfl (wAu rfl rfl rfl rfl rfl (by kernel_rfl) (on_spec s _ M hST (by omega) (by omega))) ?_; rintro _ M1 _ ⟨hM1, _, rfl, ⟨hbn0, rfl⟩⟩
  have hbn1 := hbn0 M1 (MLe.refl _) hM1
  obtain ⟨pb, _, _, _, _, rfl, _⟩ := id hbn1.ex
  refine sAl rfl fun b7 => ?_
  refine sSt rfl ?_
  refine wAc (jT (wAb (wAa (sLd rfl ?_))))
  refine jp rfl (wAy rfl rfl (wAu rfl rfl rfl rfl rfl (by kernel_rfl) (bnode_spec s k _ M1 hst (by omega) hbn1)) ?_); rintro _ Mn _ ⟨hMn, _, rfl, ⟨hbn, rfl⟩⟩
  obtain ⟨nl, ya, yn, yc, e, rfl, hbn2⟩ := BnPost.form hbn
  refine jp rfl (jp rfl (jp rfl (sAl rfl fun b8 => ?_)))
  refine sSt rfl ?_
  refine jp rfl (wAc (jT (wAb (wAb (wAa (jp rfl (js rfl (fun h36 => ?_) (fun h36 => ?_))))))))
  · refine wAc ?_
    refine jT (wAg rfl (wAb (wAa (jp rfl (jp rfl (jp rfl (wAc (jT (wAe (jTr (jr2 rfl rfl rfl ?_)))))))))))
    rw [wKq hst (by omega) (fun e => h26 (by rw [show s.now.getD k 0 = 0 from e]; rfl))]
    obtain ⟨rfl, hnd⟩ | ⟨rfl, ys, hnd, rfl, hys⟩ := hbn2
    · rw [show wBk s ((k : Int)).toNat = none from hnd]; rfl
    omega
  refine wAc (jT (wAk rfl (wAd (jT (wAb (wAa (sAl rfl fun b9 => ?_)))))))
  refine wAc (jT (wAb (wAa (jp rfl (sSt rfl ?_)))))
  refine wAc (jT (wAb (wAb (wAa (sFL rfl rfl ?_)))))
  refine wAi rfl rfl (wBj rfl rfl rfl) ?_
  refine js rfl (fun h42 => ?_) (fun h42 => ?_)
  · refine jp rfl ?_
    refine wJk b2 (by simp) ?_
    intro Mg hMg e2f
    refine wJk b7 (by simp) ?_
    intro Mh hMh e7f
    refine wJk b9 (by simp) ?_
    intro Mi hMi e9f
    have hce : CE Mi s b2 b7 b9 := ⟨⟨_, _, _, _, hMi _ _ (hMh _ _ e2f), (h3.mono ((hM1.trans hMn).trans (hMg.trans (hMh.trans hMi))))⟩, ⟨_, hMi _ _ e7f, hbn1.mono (hMn.trans (hMg.trans (hMh.trans hMi)))⟩, e9f⟩
    refine wAi rfl rfl (qLd rfl rfl rfl rfl (CM.cj ⟨_, _, _, hce.cl, rfl⟩ _)) ?_
    refine sLL rfl ?_
    obtain ⟨_, hnd⟩ | ⟨rfl, ys, hnd, rfl, hys⟩ := hbn2
    · omega
    have hno := wBo hnd
    have hlv := hno.lev
    obtain ⟨l, rfl⟩ : ∃ l : Nat, nl = l := ⟨nl.toNat, by omega⟩
    refine wAi rfl rfl (wBr rfl rfl rfl rfl rfl (by kernel_rfl) (fwalk_spec s hst b2 b7 b9 l ys _ Mi hce (hys.mono (hMg.trans (hMh.trans hMi))) hno)) ?_
    refine wJj rfl rfl (qField rfl rfl rfl rfl rfl) (fun h47 => ?_) (fun h47 => ?_)
    · refine jp rfl ?_
      refine jp rfl (wAc (jT (wAk rfl (wAd (jT (wAb (wAa (sFL rfl rfl ?_))))))))
      refine ja rfl (by omega) ?_
      refine jp rfl (jp rfl (wAc (jT (wAe (jr2 rfl rfl rfl ?_)))))
      rw [wKq hst (by omega) (fun e => h26 (by rw [show s.now.getD k 0 = 0 from e]; rfl)), show wBk s ((k : Int)).toNat = some ((l : Int), ys) from hnd]
      show _ = Value.tuple #[.int .i64 (if wCq s ((l : Int)).toNat ys then _ else _ : Int × Int).1, .int .i64 (if wCq s ((l : Int)).toNat ys then _ else _ : Int × Int).2]
      rw [if_pos (show wCq s ((l : Int)).toNat ys from fun _ => h47)]
    refine jp rfl (jp rfl (wAc (jT (wAg rfl (wAb (wAa (jp rfl (jp rfl (wAc (jT (wAe (jTr (jr2 rfl rfl rfl ?_)))))))))))))
    rw [wKq hst (by omega) (fun e => h26 (by rw [show s.now.getD k 0 = 0 from e]; rfl)), show wBk s ((k : Int)).toNat = some ((l : Int), ys) from hnd]
    show _ = Value.tuple #[.int .i64 (if wCq s ((l : Int)).toNat ys then _ else _ : Int × Int).1, .int .i64 (if wCq s ((l : Int)).toNat ys then _ else _ : Int × Int).2]
    rw [if_neg (show ¬ wCq s ((l : Int)).toNat ys from fun hh => by have := hh (fun e => by rw [e] at h42; exact absurd h42 (by decide)); rw [show (wEf (wBu s ((l : Int)).toNat) none ys).is = false from h47] at this; cases this)]
  iterate 7 refine jp rfl ?_
  refine wAc (jT (wAk rfl (wAd (jT (wAb (wAa (sFa rfl ?_)))))))
  have hnl6 : 0 ≤ nl ∧ nl < 6 := by
    obtain ⟨_, hnd⟩ | ⟨_, ys, hnd, _, _⟩ := hbn2
    · omega
    exact (wBo hnd).lev
  refine sLd rfl ?_
  refine ja rfl (by omega) ?_
  refine jp rfl (jp rfl (wAc (jT (wAe (jr2 rfl rfl rfl ?_)))))
  obtain ⟨he, hnd⟩ | ⟨rfl, ys, hnd, rfl, hys⟩ := hbn2
  · omega
  obtain rfl : ys = [] := List.eq_nil_of_length_eq_zero (by omega)
  rw [wKq hst (by omega) (fun e => h26 (by rw [show s.now.getD k 0 = 0 from e]; rfl)), show wBk s ((k : Int)).toNat = some (nl, []) from hnd]
  show _ = Value.tuple #[.int .i64 (if wCq s nl.toNat [] then _ else _ : Int × Int).1, .int .i64 (if wCq s nl.toNat [] then _ else _ : Int × Int).2]
  rw [if_pos (show wCq s nl.toNat [] from fun hh => absurd rfl hh)]
end Go.Proofs.YtkcpllhggofloaaGreat
