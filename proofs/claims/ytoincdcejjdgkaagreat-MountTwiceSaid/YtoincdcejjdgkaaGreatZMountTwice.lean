/- MountTwice: the law is lifted. -/
import Derived.Test.YtoincdcejjdgkaaGreatZWith
import Derived.Test.YtoincdcejjdgkaaGreatZOpenp
import Derived.Test.YtoincdcejjdgkaaGreatRows
import Derived.Lib.SmallJoins
namespace Go.Proofs.YtoincdcejjdgkaaGreat
set_option linter.unusedVariables false
set_option linter.unusedSimpArgs false
open Go.RowKit
theorem opn_same {s : Sto} {x z : Su} (hx : x ∈ wJj s 4) (tx : TryOk s x) (mx : ∀ w ∈ wJj s 4, x.gen < w.gen → ¬ TryOk s w) (hz : z ∈ wJj s 4) (tz : TryOk s z) (mz : ∀ w ∈ wJj s 4, z.gen < w.gen → ¬ TryOk s w) : x = z := by
 by_cases h1 : x.gen < z.gen
 ·exact absurd tz (mx z hz h1)
 ·by_cases h2 : z.gen < x.gen
  ·exact absurd tx (mz x hx h2)
  ·exact fndL_gen hx hz (by omega)
set_option maxHeartbeats 4000000 in
theorem mtwice_walk (p : Po) (x0 : V5) (M : Mem) (h : PT5 M x0 p) (hgen : 0 ≤ p.gen ∧ p.gen < 4294967296) (hnxt : 0 ≤ p.next ∧ p.next < 4294967296) :
  SpecL Tryz.prog 5 #[.agg (pcl x0 p.gen p.root p.next).toArray] M [] fun u M' L' => u = .bool true ∧ L' = [] := by
 refine wAh (vs := [_]) 94 _ Tryz.func5 rfl Tryz.ntmps5 rfl rfl ?_; intro W
 refine wAb (wAa ?_)
 refine wAp rfl rfl (wCc (cs := [_, _, _, _, _, _, _, _]) rfl rfl rfl rfl) ?_; rintro _ _ _ ⟨b1, rfl, rfl, rfl⟩
 refine jp rfl ?_
 refine wAc (jT (wAb (wAa ?_)))
 refine wAp rfl rfl (wAs rfl rfl rfl rfl rfl (by kernel_rfl) (malive_spec M)) ?_; rintro _ M1 _ ⟨hM1, _, rfl, ⟨rfl, rfl⟩⟩
 simp only [List.nil_append]
 refine jp rfl ?_
 refine wAc (jT (wAb (wAb (wAa ?_))))
 refine wAe rfl rfl (wBi rfl rfl rfl rfl rfl) ?_
 refine wAp rfl rfl (wAs rfl rfl rfl rfl rfl (by kernel_rfl) (fgreat_spec x0 p.gen p.root p.next p M1 (h.mono hM1))) ?_; rintro _ M2 _ ⟨hM2, _, rfl, ⟨⟨b, rfl, hgd⟩, rfl⟩⟩
 simp only [List.nil_append]
 have hwn : x0.w.n = p.st.waits.length := h.w.len
 refine jsb rfl (fun h13 => ?_) (fun h13 => ?_)
 ·iterate 11 refine jp rfl ?_
  refine wAc (jT (wAj rfl (wAb (wAa ?_))))
  iterate 2 refine jp rfl ?_
  refine wAc (jT (wAi (jTr ?_)))
  refine wBa (L' := []) (List.nil_sublist _) ?_
  refine jr1 rfl rfl ?_
  exact ⟨rfl, rfl⟩
 ·iterate 4 refine jp rfl ?_
  refine wAe rfl rfl (wAd rfl rfl rfl rfl rfl) ?_
  refine wAe rfl rfl (wAd rfl rfl rfl rfl rfl) ?_
  refine wAe rfl rfl (wAd rfl rfl rfl rfl rfl) ?_
  refine wAe rfl rfl (qLd rfl rfl rfl rfl (CJ.loc rfl)) ?_
  refine wAe rfl rfl (wBt rfl rfl rfl) ?_
  refine js rfl (fun h23 => ?_) (fun h23 => ?_)
  ·refine jp rfl ?_
   refine wAc (jT (wAj rfl (wAb (wAa ?_))))
   iterate 2 refine jp rfl ?_
   refine wAc (jT (wAi (jTr ?_)))
   refine wBa (L' := []) (List.nil_sublist _) ?_
   refine jr1 rfl rfl ?_
   exact ⟨rfl, rfl⟩
  ·refine jp rfl ?_
   refine wAc (jT (wAm rfl (wAf (jT (wAb (wAa ?_))))))
   refine wAe rfl rfl (wAd rfl rfl rfl rfl rfl) ?_
   refine wAe rfl rfl (wAd rfl rfl rfl rfl rfl) ?_
   refine wAe rfl rfl (wBi rfl rfl rfl rfl rfl) ?_
   refine wAp rfl rfl (wAs rfl rfl rfl rfl rfl (by kernel_rfl) (wJu p.st M2 _ ⟨_, _, rfl, (h.mono (hM1.trans hM2)).b, (h.mono (hM1.trans hM2)).w⟩)) ?_; rintro _ M3 _ ⟨hM3, _, rfl, ⟨hop, rfl⟩⟩
   simp only [List.nil_append]
   obtain ⟨z, og, orr, on, oe, rfl, hoc⟩ := hop
   iterate 3 refine jp rfl ?_
   refine wAp rfl rfl (wAq rfl rfl) ?_; rintro _ _ _ ⟨b4, rfl, rfl, rfl⟩
   refine wBe rfl (wAg rfl rfl rfl rfl rfl rfl rfl rfl) ?_; rintro _ _ _ ⟨rfl, rfl⟩
   refine jp rfl ?_
   refine wAc (jT (wAb (wAb (wAa ?_))))
   refine jp rfl ?_
   refine js rfl (fun h34 => ?_) (fun h34 => ?_)
   ·refine wAc (jT (wAj rfl (wAb ?_)))
    obtain ⟨_, rfl, _⟩ | ⟨h0, _⟩ := hoc
    rotate_left
    ·exact absurd h0 h34
    refine wAa ?_
    iterate 2 refine jp rfl ?_
    refine wAe rfl rfl (wAd rfl rfl rfl rfl rfl) ?_
    refine wAe rfl rfl (wAd rfl rfl rfl rfl rfl) ?_
    refine wAe rfl rfl (qLd rfl rfl rfl rfl (CJ.loc rfl)) ?_
    refine wAe rfl rfl (wBt rfl rfl rfl) ?_
    iterate 3 refine jp rfl ?_
    refine wAc (jT (wAi (jTr ?_)))
    refine wBa (L' := []) (List.nil_sublist _) ?_
    refine jr1 rfl rfl ?_
    exact ⟨rfl, rfl⟩
   ·refine wAc (jT (wAm rfl (wAf (jT (wAb ?_)))))
    obtain ⟨hne, _⟩ | ⟨rfl, hdk, xx, hxx, hto, hmax, hz, rfl, rfl, rfl⟩ := hoc
    ·exact absurd (Classical.not_not.1 h34) hne
    refine wAa ?_
    refine wAe rfl rfl (wAd rfl rfl rfl rfl rfl) ?_
    refine wAe rfl rfl (wAd rfl rfl rfl rfl rfl) ?_
    refine wAe rfl rfl (wBi rfl rfl rfl rfl rfl) ?_
    refine wAp rfl rfl (wAs rfl rfl rfl rfl rfl (by kernel_rfl) (wJu (poOf p.st xx).st M3 _ ⟨_, _, rfl, hz.b, hz.w⟩)) ?_; rintro _ M4 _ ⟨hM4, _, rfl, ⟨hop2, rfl⟩⟩
    simp only [List.nil_append]
    obtain ⟨z2, og2, orr2, on2, oe2, rfl, hoc2⟩ := hop2
    obtain ⟨_, _, hno⟩ | ⟨rfl, hdk2, x2, hx2, hto2, hmax2, hz2, rfl, rfl, rfl⟩ := hoc2
    ·exact absurd (⟨hto.ct, hto.sum, hto.chk⟩ : TryOk (poOf p.st xx).st xx) ((hno hdk).2 _ hxx)
    obtain rfl : x2 = xx := opn_same (s := p.st) hx2 ⟨hto2.ct, hto2.sum, hto2.chk⟩ (fun w hw hg ht => hmax2 w hw hg ⟨ht.ct, ht.sum, ht.chk⟩) hxx hto hmax
    iterate 3 refine jp rfl ?_
    refine wAp rfl rfl (wAq rfl rfl) ?_; rintro _ _ _ ⟨b6, rfl, rfl, rfl⟩
    refine wBe rfl (wAg rfl rfl rfl rfl rfl rfl rfl rfl) ?_; rintro _ _ _ ⟨rfl, rfl⟩
    refine jp rfl ?_
    refine wAc (jT (wAb (wAa ?_)))
    refine wAe rfl rfl (wBi rfl rfl rfl rfl rfl) ?_
    refine wAp rfl rfl (wAs rfl rfl rfl rfl rfl (by kernel_rfl) (fvols_spec (poOf p.st x2) z M4 (hz.mono hM4) (by have := (PoOk.of hto.chk).len; omega))) ?_; rintro _ M5 _ ⟨hM5, _, rfl, ⟨⟨vl, rfl, _⟩, rfl⟩⟩
    simp only [List.nil_append]
    have hck := hto.chk
    have hdl : (poOf p.st x2).dead.length ≤ 1000000 := by have := (PoOk.of hck).len; omega
    iterate 5 refine jp rfl ?_
    refine wAc (jT (wAb (wAa ?_)))
    iterate 3 refine jp rfl ?_
    refine jt rfl (decide_eq_true (by omega)) ?_
    iterate 3 refine jp rfl ?_
    refine jt rfl (decide_eq_true (by omega)) ?_
    iterate 2 refine jp rfl ?_
    refine wAe rfl rfl (wBi rfl rfl rfl rfl rfl) ?_
    refine wAe rfl rfl (wBi rfl rfl rfl rfl rfl) ?_
    refine wAp rfl rfl (wAs rfl rfl rfl rfl rfl (by kernel_rfl) (fsame_spec z z2 (poOf p.st x2) M5 (hz.mono (hM4.trans hM5)) (hz2.mono hM5) hdk hdl)) ?_; rintro _ M6 _ ⟨hM6, _, rfl, ⟨rfl, rfl⟩⟩
    simp only [List.nil_append]
    iterate 2 refine jp rfl ?_
    refine wAe rfl rfl (wBi rfl rfl rfl rfl rfl) ?_
    refine wAp rfl rfl (wAs rfl rfl rfl rfl rfl (by kernel_rfl) (wJy (poOf p.st x2) _ M6 (hz.mono (hM4.trans (hM5.trans hM6))).pt hdl)) ?_; rintro _ M7 _ ⟨hM7, _, rfl, ⟨rfl, rfl⟩⟩
    simp only [List.nil_append]
    have hz7 := hz.mono (hM4.trans (hM5.trans (hM6.trans hM7)))
    have h7 := h.mono (hM1.trans (hM2.trans (hM3.trans (hM4.trans (hM5.trans (hM6.trans hM7))))))
    refine jt rfl (decide_eq_true (by omega)) ?_
    iterate 2 refine jp rfl ?_
    refine wAe rfl rfl (wAd rfl rfl rfl rfl rfl) ?_
    refine wAe rfl rfl (wAd rfl rfl rfl rfl rfl) ?_
    refine wAe rfl rfl (qLd rfl rfl rfl rfl (CJ.loc rfl)) ?_
    refine wAe rfl rfl (qEq (qStr (xs := (poOf p.st x2).st.now.map fun b => (b.toNat : Int)) rfl rfl rfl (by rw [List.length_map, hz7.n.len]) (by simpa [wAn, List.map_map, Function.comp_def] using hz7.n.sm.sj _)) (v' := .string (strB (poOf p.st x2).st.now)) (by rw [wHe])) ?_
    refine wAe rfl rfl (wAd rfl rfl rfl rfl rfl) ?_
    refine wAe rfl rfl (wAd rfl rfl rfl rfl rfl) ?_
    refine wAe rfl rfl (qLd rfl rfl rfl rfl (CJ.loc rfl)) ?_
    refine wAe rfl rfl (qEq (qStr (xs := (poOf p.st x2).st.last.map fun b => (b.toNat : Int)) rfl rfl rfl (by rw [List.length_map, hz7.l.len]) (by simpa [wAn, List.map_map, Function.comp_def] using hz7.l.sm.sj _)) (v' := .string (strB (poOf p.st x2).st.last)) (by rw [wHe])) ?_
    refine wAe rfl rfl (qEq (qP rfl rfl) (v' := .bool true) (by rw [strB_eq]; simp [poOf])) ?_
    iterate 2 refine jp rfl ?_
    refine wAe rfl rfl (wAd rfl rfl rfl rfl rfl) ?_
    refine wAe rfl rfl (wAd rfl rfl rfl rfl rfl) ?_
    refine wAe rfl rfl (wBi rfl rfl rfl rfl rfl) ?_
    refine wAe rfl rfl (wAd rfl rfl rfl rfl rfl) ?_
    refine wAe rfl rfl (wAd rfl rfl rfl rfl rfl) ?_
    refine wAe rfl rfl (wBi rfl rfl rfl rfl rfl) ?_
    refine wAp rfl rfl (wAs rfl rfl rfl rfl rfl (by kernel_rfl) (dsame_spec z.b z.w x0.b x0.w p.st.blocks p.st.waits M7 hz7.b hz7.w h7.b h7.w hdk)) ?_; rintro _ M8 _ ⟨hM8, _, rfl, ⟨rfl, rfl⟩⟩
    simp only [List.nil_append]
    iterate 2 refine jp rfl ?_
    refine wAc (jT (wAi ?_))
    refine wBa (L' := []) (List.nil_sublist _) ?_
    refine jr1 rfl rfl ?_
    exact ⟨rfl, rfl⟩
end Go.Proofs.YtoincdcejjdgkaaGreat
namespace Go.Proofs.YtoincdcejjdgkaaGreat
set_option linter.unusedVariables false
set_option linter.unusedSimpArgs false
open Go.ChangeShapes Go.WideShapes Go.ChangeAt Go.RowKit Go.Joins
set_option maxRecDepth 100000 in
theorem mountTwice_lifted (os : Os) (started : os.Started) (H : Type) (enc : TypeId × Value → H) :
  ReturnsInHanded {} Tryz.checked os 5 .any (Rows.mountTwiceSpec.pre6 enc Tryz.prog Tryz.f5 Rows.mountTwiceRow.domain false) (Rows.mountTwiceSpec.post enc Tryz.prog Tryz.f5 false true false false) := by
 refine returnsInHanded_of_change (C := Tryz.checked) A.own started (by kernel_rfl) Tryz.func5
  (ChangeSpec.witness6 (enc := enc) (C := Tryz.checked) false ⟨#[], #[.agg #[.slice none 0 0, .slice none 0 0, .slice none 0 0, .slice none 0 0, .int .u32 0, .int .i64 0, .int .u32 0, .slice none 0 0]], []⟩ 8 (by kernel_rfl) (by kernel_rfl) (by kernel_rfl) (by kernel_rfl)) ?_
 intro W base args ds gs before hval0 hW hcnd _
 have hval : ∀ (j : Nat) t v, Tryz.f5.params[j]? = some t → args[j]? = some v → Value.okWide Tryz.prog W .any base t v := hval0
 have hW' := hW
 obtain ⟨p, q, hA0, hV, rfl, hfz, hnd⟩ := hW
 have hA : DataW.TrodAll enc Tryz.prog W 0 (fun _ => true) true Tryz.f5.params.toList args.toList ds p := hA0
 rw [Tryz.params5] at hA hval
 obtain ⟨v0, d0, rfl, rfl, h0⟩ := trodAll_one hA
 obtain ⟨rfl, rfl⟩ := trodVars_none hV
 obtain ⟨q, hPT, hgen, hnxt⟩ := open_pool (hval 0 32 v0 rfl rfl) h0
 obtain ⟨x, e0, h5⟩ := hPT.five
 subst e0
 refine (mtwice_walk q x (wJa W) h5 hgen hnxt |>.mono fun _ _ _ h => h.1).run.mono fun e W' ⟨he, hb⟩ => ?_
 subst he
 exact ⟨_, rfl, law_post hW' (by kernel_rfl) rfl rfl rfl hb⟩
theorem mountTwice_holds : Rows.MountTwiceSaid :=
 OpenClaim.holds_of_wide 5 Tryz.f5 rfl rfl rfl rfl rfl rfl rfl ⟨rfl, rfl, rfl, rfl, rfl⟩ rfl rfl rfl rfl rfl (by kernel_rfl) Tryz.func5 (by kernel_rfl)
  (of_decide_eq_true (by kernel_rfl)) (by unfold Func.isWrapper; first | (rw [if_pos (by decide +kernel)]; kernel_rfl) | (rw [if_neg (by decide +kernel)]; exact ⟨rfl, rfl⟩))
  (fun os started H enc _ => mountTwice_lifted os started H enc)
end Go.Proofs.YtoincdcejjdgkaaGreat
