/- MountCommits: the law is lifted. -/
import Derived.Test.YtoincdcejjdgkaaGreatZWith
import Derived.Test.YtoincdcejjdgkaaGreatZOpenp
import Derived.Test.YtoincdcejjdgkaaGreatRows
import Derived.Lib.SmallJoins
namespace Go.Proofs.YtoincdcejjdgkaaGreat
set_option linter.unusedVariables false
set_option linter.unusedSimpArgs false
open Go.RowKit
set_option maxHeartbeats 4000000 in
theorem mcommits_walk (p : Po) (x0 : V5) (M : Mem) (h : PT5 M x0 p) (hgen : 0 ≤ p.gen ∧ p.gen < 4294967296) (hnxt : 0 ≤ p.next ∧ p.next < 4294967296) :
  SpecL Tryz.prog 3 #[.agg (pcl x0 p.gen p.root p.next).toArray] M [] fun u M' L' => u = .bool true ∧ L' = [] := by
 refine wAh (vs := [_]) 44 _ Tryz.func3 rfl Tryz.ntmps3 rfl rfl ?_; intro W
 refine wAb (wAa ?_)
 refine wAp rfl rfl (wCc (cs := [_, _, _, _, _, _, _, _]) rfl rfl rfl rfl) ?_; rintro _ _ _ ⟨b1, rfl, rfl, rfl⟩
 refine jp rfl ?_
 refine wAc (jT (wAb (wAa ?_)))
 refine wAp rfl rfl (wAs rfl rfl rfl rfl rfl (by kernel_rfl) (malive_spec M)) ?_; rintro _ M1 _ ⟨hM1, _, rfl, ⟨rfl, rfl⟩⟩
 simp only [List.nil_append]
 refine jp rfl ?_
 refine wAc (jT (wAb (wAb (wAa ?_))))
 iterate 2 refine jp rfl ?_
 refine wAc (jT (wAm rfl (wAf (jT (wAb (wAb (wAa ?_)))))))
 refine wAe rfl rfl (wBi rfl rfl rfl rfl rfl) ?_
 refine wAp rfl rfl (wAs rfl rfl rfl rfl rfl (by kernel_rfl) (fgreat_spec x0 p.gen p.root p.next p M1 (h.mono hM1))) ?_; rintro _ M2 _ ⟨hM2, _, rfl, ⟨⟨b, rfl, hgd⟩, rfl⟩⟩
 simp only [List.nil_append]
 refine wAc (jT ?_)
 refine jc_if rfl (fun h12 => ?_) (fun h12 => ?_)
 ·refine wAb (wAa ?_)
  iterate 2 refine jp rfl ?_
  refine wAc (jT (wAi (jTr ?_)))
  refine wBa (L' := []) (List.nil_sublist _) ?_
  refine jr1 rfl rfl ?_
  exact ⟨rfl, rfl⟩
 ·refine wAf (jT (wAb (wAa ?_)))
  refine wAe rfl rfl (wBi rfl rfl rfl rfl rfl) ?_
  have hn : PoN p := ⟨hgen, hnxt, by have := hgd h12; omega⟩
  refine wAp rfl rfl (wAs rfl rfl rfl rfl rfl (by kernel_rfl) (commit_spec p _ M2 (h.mono (hM1.trans hM2)).pt hn)) ?_; rintro _ M3 _ ⟨hM3, _, rfl, ⟨hc, rfl⟩⟩
  simp only [List.nil_append]
  obtain ⟨y, g, r, n, e, rfl, hcc⟩ := hc.form
  iterate 3 refine jp rfl ?_
  refine wAp rfl rfl (wAq rfl rfl) ?_; rintro _ _ _ ⟨b4, rfl, rfl, rfl⟩
  refine wBe rfl (wAg rfl rfl rfl rfl rfl rfl rfl rfl) ?_; rintro _ _ _ ⟨rfl, rfl⟩
  refine jp rfl ?_
  refine wAc (jT (wAb (wAb (wAa ?_))))
  refine jp rfl ?_
  refine js rfl (fun h20 => ?_) (fun h20 => ?_)
  ·refine wAc (jT (wAj rfl (wAb (wAa ?_))))
   iterate 2 refine jp rfl ?_
   refine wAc (jT (wAi (jTr ?_)))
   refine wBa (L' := []) (List.nil_sublist _) ?_
   refine jr1 rfl rfl ?_
   exact ⟨rfl, rfl⟩
  ·refine wAc (jT (wAm rfl (wAf (jT (wAb (wAa ?_))))))
   refine wAe rfl rfl (wAd rfl rfl rfl rfl rfl) ?_
   refine wAe rfl rfl (wAd rfl rfl rfl rfl rfl) ?_
   refine wAe rfl rfl (wBi rfl rfl rfl rfl rfl) ?_
   obtain ⟨_, hask, hy, rfl, rfl, rfl⟩ | ⟨rfl, hne, _⟩ := hcc
   rotate_left
   ·exact absurd (Classical.not_not.1 h20) hne
   obtain ⟨hok, hgm⟩ := wGk hask
   refine wAp rfl rfl (wAs rfl rfl rfl rfl rfl (by kernel_rfl) (wJu (cmt p).st M3 _ ⟨_, _, rfl, hy.b, hy.w⟩)) ?_; rintro _ M4 _ ⟨hM4, _, rfl, ⟨hop, rfl⟩⟩
   simp only [List.nil_append]
   obtain ⟨z, og, orr, on, oe, rfl, hoc⟩ := hop
   obtain ⟨hne, _, hno⟩ | ⟨rfl, hdk, xx, hxx, _, hmax, hz, rfl, rfl, rfl⟩ := hoc
   ·exact absurd (cmt_try hask hn) ((hno (cmt_st hok hn).1).2 _ (fnd_new hok hn hgm))
   iterate 3 refine jp rfl ?_
   refine wAp rfl rfl (wAq rfl rfl) ?_; rintro _ _ _ ⟨b6, rfl, rfl, rfl⟩
   refine wBe rfl (wAg rfl rfl rfl rfl rfl rfl rfl rfl) ?_; rintro _ _ _ ⟨rfl, rfl⟩
   refine jp rfl ?_
   refine wAc (jT (wAb (wAb (wAa ?_))))
   refine jp rfl ?_
   refine jf rfl (decide_eq_false (by omega)) ?_
   refine wAc (jT (wAm rfl (wAf (jT (wAb (wAa ?_))))))
   iterate 2 refine jp rfl ?_
   refine wAe rfl rfl (wAd rfl rfl rfl rfl rfl) ?_
   refine wAe rfl rfl (qLd rfl rfl rfl rfl (CJ.loc rfl)) ?_
   refine wAe rfl rfl (wAd rfl rfl rfl rfl rfl) ?_
   refine wAe rfl rfl (qLd rfl rfl rfl rfl (CJ.loc rfl)) ?_
   refine js rfl (fun h37 => ?_) (fun h37 => ?_)
   ·iterate 7 refine jp rfl ?_
    refine wAc (jT (wAi ?_))
    refine wBa (L' := []) (List.nil_sublist _) ?_
    refine jr1 rfl rfl ?_
    exact ⟨rfl, rfl⟩
   ·refine jp rfl ?_
    refine wAe rfl rfl (wBi rfl rfl rfl rfl rfl) ?_
    refine wAe rfl rfl (wBi rfl rfl rfl rfl rfl) ?_
    obtain ⟨he, rfl⟩ := cmt_open hask hn hxx hmax (by omega)
    rw [he] at hz
    refine wAp rfl rfl (wAs rfl rfl rfl rfl rfl (by kernel_rfl) (fsame_spec z y (cmt p) M4 hz (hy.mono hM4) hdk hn.dead)) ?_; rintro _ M5 _ ⟨hM5, _, rfl, ⟨rfl, rfl⟩⟩
    simp only [List.nil_append]
    iterate 3 refine jp rfl ?_
    refine wAc (jT (wAi ?_))
    refine wBa (L' := []) (List.nil_sublist _) ?_
    refine jr1 rfl rfl ?_
    exact ⟨rfl, rfl⟩
end Go.Proofs.YtoincdcejjdgkaaGreat
namespace Go.Proofs.YtoincdcejjdgkaaGreat
set_option linter.unusedVariables false
set_option linter.unusedSimpArgs false
open Go.ChangeShapes Go.WideShapes Go.ChangeAt Go.RowKit Go.Joins
set_option maxRecDepth 100000 in
theorem mountCommits_lifted (os : Os) (started : os.Started) (H : Type) (enc : TypeId × Value → H) :
  ReturnsInHanded {} Tryz.checked os 3 .any (Rows.mountCommitsSpec.pre6 enc Tryz.prog Tryz.f3 Rows.mountCommitsRow.domain false) (Rows.mountCommitsSpec.post enc Tryz.prog Tryz.f3 false true false false) := by
 refine returnsInHanded_of_change (C := Tryz.checked) A.own started (by kernel_rfl) Tryz.func3
  (ChangeSpec.witness6 (enc := enc) (C := Tryz.checked) false ⟨#[], #[.agg #[.slice none 0 0, .slice none 0 0, .slice none 0 0, .slice none 0 0, .int .u32 0, .int .i64 0, .int .u32 0, .slice none 0 0]], []⟩ 8 (by kernel_rfl) (by kernel_rfl) (by kernel_rfl) (by kernel_rfl)) ?_
 intro W base args ds gs before hval0 hW hcnd _
 have hval : ∀ (j : Nat) t v, Tryz.f3.params[j]? = some t → args[j]? = some v → Value.okWide Tryz.prog W .any base t v := hval0
 have hW' := hW
 obtain ⟨p, q, hA0, hV, rfl, hfz, hnd⟩ := hW
 have hA : DataW.TrodAll enc Tryz.prog W 0 (fun _ => true) true Tryz.f3.params.toList args.toList ds p := hA0
 rw [Tryz.params3] at hA hval
 obtain ⟨v0, d0, rfl, rfl, h0⟩ := trodAll_one hA
 obtain ⟨rfl, rfl⟩ := trodVars_none hV
 obtain ⟨q, hPT, hgen, hnxt⟩ := open_pool (hval 0 32 v0 rfl rfl) h0
 obtain ⟨x, e0, h5⟩ := hPT.five
 subst e0
 refine (mcommits_walk q x (wJa W) h5 hgen hnxt |>.mono fun _ _ _ h => h.1).run.mono fun e W' ⟨he, hb⟩ => ?_
 subst he
 exact ⟨_, rfl, law_post hW' (by kernel_rfl) rfl rfl rfl hb⟩
theorem mountCommits_holds : Rows.MountCommitsSaid :=
 OpenClaim.holds_of_wide 3 Tryz.f3 rfl rfl rfl rfl rfl rfl rfl ⟨rfl, rfl, rfl, rfl, rfl⟩ rfl rfl rfl rfl rfl (by kernel_rfl) Tryz.func3 (by kernel_rfl)
  (of_decide_eq_true (by kernel_rfl)) (by unfold Func.isWrapper; first | (rw [if_pos (by decide +kernel)]; kernel_rfl) | (rw [if_neg (by decide +kernel)]; exact ⟨rfl, rfl⟩))
  (fun os started H enc _ => mountCommits_lifted os started H enc)
end Go.Proofs.YtoincdcejjdgkaaGreat
