/- Walks: calls that reap, look, freeze, remove. -/
import Derived.Test.YtdjaehgadehnfaaGreatDoorHo
namespace Go.Proofs.YtdjaehgadehnfaaGreatDoor
set_option linter.unusedVariables false
set_option linter.unusedSimpArgs false
open Go.RowKit Go.MapKept

theorem reap_walk (S : CS) (hS : S.Ok) (n : Nat) (hwf : WFS n S.abs) (hn : n ≤ 100) (M : Mem) (c : CL) (ca : Option Addr) (ck : Nat) (hC : CallOk M c ca ck) (w : Wy) (na : Option Addr) (nc : Nat) (hW : WyOk M w na nc) (o : Wy) (oa : Option Addr) (oc : Nat) (hO : WyOk M o oa oc) :
    SpecL Tryz.prog 63 #[pt S.b, clV c ca ck, wyV w na nc, wyV o oa oc] M S.own fun u M' L' => OpP S.b (reapS S.abs c) u M' L' := by
  refine SpecL.mem fun hnd hdis => ?_
  have hVa := addL_in (M := M) hnd
  have hMa := addL_le hdis
  have hVw : ∀ L, SubL S.own L → Vw M L S.own := fun L h => Vw.of
  refine spec_body (vs := [_, _, _, _]) 15 _ Tryz.func63 rfl Tryz.ntmps63 rfl rfl ?_; intro W
  refine jc_seq ?_
  refine jc_region ?_
  refine jl_h rfl rfl (hBox (cs := [_, _, _, _, _, _, _]) rfl rfl rfl rfl) ?_; rintro _ _ _ ⟨b5, rfl, rfl, rfl⟩
  refine jl_h rfl rfl (hBox (cs := [_, _]) rfl rfl rfl rfl) ?_; rintro _ _ _ ⟨b6, rfl, rfl, rfl⟩
  refine jl_h rfl rfl (hBox (cs := [_, _]) rfl rfl rfl rfl) ?_; rintro _ _ _ ⟨b7, rfl, rfl, rfl⟩
  refine jl_h rfl rfl (hAlloc rfl rfl) ?_; rintro _ _ _ ⟨b8, rfl, rfl, rfl⟩
  refine jl_nil ?_
  refine jT ?_
  refine jc_seq ?_
  refine jc_seq ?_
  refine jc_region ?_
  refine jl_q rfl rfl (qFieldAddr rfl rfl rfl rfl rfl) ?_
  refine jl_q rfl rfl (qLd rfl rfl rfl rfl (CJ.loc rfl)) ?_
  refine jl_qb rfl rfl (qCall rfl rfl rfl rfl rfl (by kernel_rfl) (in_walk c.a 0 1000 M)) (fun h11 => ?_) (fun h11 => ?_)
  · refine jp rfl ?_
    refine jl_nil ?_
    refine jT ?_
    refine jc_no rfl ?_
    refine jc_skip ?_
    refine jT ?_
    refine jc_seq ?_
    refine jc_region ?_
    refine jl_q rfl rfl (qBuild (cs := [_, _, _, _, _, _, _, _]) rfl rfl rfl (by rfl)) ?_
    refine jl_s rfl (hStoreL rfl rfl rfl rfl rfl rfl rfl rfl (by first | (simp only [Nat.reduceAdd, Nat.zero_add, Nat.add_zero, List.drop_succ_cons, List.drop_zero, List.drop_nil, List.take_succ_cons, List.take_zero, List.take_nil, List.cons_append, List.nil_append, List.append_nil, List.length_cons, List.length_nil]; try rfl) | rfl)) ?_; rintro _ _ _ ⟨rfl, rfl⟩
    refine jl_nil ?_
    refine jT ?_
    refine jc_ret ?_
    refine jrsd (rs := [_]) (S.own) (by repeat (first | exact List.Sublist.refl _ | exact List.sublist_append_left _ _ | apply List.Sublist.cons)) rfl (.cons (.agg rfl rfl rfl) .nil) ?_
    have hr : reapS S.abs c = (S.abs, {}) := by
      unfold reapS; rw [h11]; rfl
    rw [hr]; exact OpP.plain (r := (S.abs, _)) hS rfl rfl rfl rfl
  · refine jp rfl ?_
    refine jl_nil ?_
    refine jT ?_
    refine jc_yes rfl ?_
    refine jc_seq ?_
    refine jc_region ?_
    refine jl_q rfl rfl (qCall rfl rfl rfl rfl rfl (by kernel_rfl) (told_walk 2 M)) ?_
    refine jl_s rfl (hStoreL rfl rfl rfl rfl rfl rfl rfl rfl (by first | (simp only [Nat.reduceAdd, Nat.zero_add, Nat.add_zero, List.drop_succ_cons, List.drop_zero, List.drop_nil, List.take_succ_cons, List.take_zero, List.take_nil, List.cons_append, List.nil_append, List.append_nil, List.length_cons, List.length_nil]; try rfl) | rfl)) ?_; rintro _ _ _ ⟨rfl, rfl⟩
    refine jl_nil ?_
    refine jT ?_
    refine jc_ret ?_
    refine jTr ?_
    refine jrsd (rs := [_]) (S.own) (by repeat (first | exact List.Sublist.refl _ | exact List.sublist_append_left _ _ | apply List.Sublist.cons)) rfl (.cons (.agg rfl rfl rfl) .nil) ?_
    have hr : reapS S.abs c = (S.abs, told 2) := by
      unfold reapS; rw [h11]; rfl
    rw [hr]; exact OpP.plain (r := (S.abs, _)) hS rfl rfl rfl rfl

theorem freeze_none (S : CS) (hS : S.Ok) (n : Nat) (hwf : WFS n S.abs) (hn : n ≤ 100) (M : Mem) (c : CL) (ca : Option Addr) (ck : Nat) (hC : CallOk M c ca ck) (w : Wy) (na : Option Addr) (nc : Nat) (hW : WyOk M w na nc) (o : Wy) (oa : Option Addr) (oc : Nat) (hO : WyOk M o oa oc) (hv : getA c.a S.vols = none) :
    SpecL Tryz.prog 49 #[pt S.b, clV c ca ck, wyV w na nc, wyV o oa oc] M S.own fun u M' L' => OpP S.b (freezeS S.abs c) u M' L' := by
  refine SpecL.mem fun hnd hdis => ?_
  have hVa := addL_in (M := M) hnd
  have hMa := addL_le hdis
  have hVw : ∀ L, SubL S.own L → Vw M L S.own := fun L h => Vw.of
  refine spec_body (vs := [_, _, _, _]) 32 _ Tryz.func49 rfl Tryz.ntmps49 rfl rfl ?_; intro W
  refine jc_seq ?_
  refine jc_region ?_
  refine jl_h rfl rfl (hBox (cs := [_, _, _, _, _, _, _]) rfl rfl rfl rfl) ?_; rintro _ _ _ ⟨b5, rfl, rfl, rfl⟩
  refine jl_h rfl rfl (hBox (cs := [_, _]) rfl rfl rfl rfl) ?_; rintro _ _ _ ⟨b6, rfl, rfl, rfl⟩
  refine jl_h rfl rfl (hBox (cs := [_, _]) rfl rfl rfl rfl) ?_; rintro _ _ _ ⟨b7, rfl, rfl, rfl⟩
  refine jl_h rfl rfl (hAlloc rfl rfl) ?_; rintro _ _ _ ⟨b8, rfl, rfl, rfl⟩
  refine jl_nil ?_
  refine jT ?_
  refine jc_seq ?_
  refine jc_seq ?_
  refine jc_region ?_
  refine jl_q rfl rfl (qFieldAddr rfl rfl rfl rfl rfl) ?_
  refine jl_q rfl rfl (qLd rfl rfl rfl rfl (CJ.loc rfl)) ?_
  refine jl_qb rfl rfl (qCall rfl rfl rfl rfl rfl (by kernel_rfl) (in_walk c.b 0 1 M)) (fun h12 => ?_) (fun h12 => ?_)
  · refine jp rfl ?_
    refine jl_nil ?_
    refine jT ?_
    refine jc_no rfl ?_
    refine jc_skip ?_
    refine jT ?_
    refine jc_seq ?_
    refine jc_draw [(0, true), (1, true), (2, true), (3, true), (4, true), (5, true), (6, true), (7, true)] _ (by kernel_rfl) (by kernel_rfl) (by kernel_rfl) rfl (fun _ h => h) ?_
    refine dp rfl rfl ?_
    refine jd_q rfl rfl rfl (qNilCheck rfl rfl rfl) ?_
    refine jd_q rfl rfl rfl (qFieldAddr rfl rfl rfl rfl rfl) ?_
    refine jd_q rfl rfl rfl (qLd rfl rfl rfl rfl ((Vw.s Vw.of).cj rfl)) ?_
    refine jd_q rfl rfl rfl (qFieldAddr rfl rfl rfl rfl rfl) ?_
    refine jd_q rfl rfl rfl (qLd rfl rfl rfl rfl (CJ.loc rfl)) ?_
    refine jd_q rfl rfl rfl (qEq (v' := .pointer none) (qLookupO kI (z := .pointer none) rfl rfl rfl rfl (by kernel_rfl) (Vw.mo Vw.of) hS.mo) (by rw [ptV_get, hv]; try rfl)) ?_
    refine dp rfl rfl ?_
    refine jd_nil ?_
    refine jPn ?_
    refine jT ?_
    refine jc_seq ?_
    refine jc_seq ?_
    refine jc_region ?_
    refine jp rfl ?_
    refine jl_q rfl rfl (qEq (qPtrNil rfl rfl rfl rfl) (v' := .bool true) (by rfl)) ?_
    refine jl_nil ?_
    refine jT ?_
    refine jc_yes rfl ?_
    refine jc_seq ?_
    refine jc_region ?_
    refine jl_q rfl rfl (qCall rfl rfl rfl rfl rfl (by kernel_rfl) (told_walk 6 M)) ?_
    refine jl_s rfl (hStoreL rfl rfl rfl rfl rfl rfl rfl rfl (by first | (simp only [Nat.reduceAdd, Nat.zero_add, Nat.add_zero, List.drop_succ_cons, List.drop_zero, List.drop_nil, List.take_succ_cons, List.take_zero, List.take_nil, List.cons_append, List.nil_append, List.append_nil, List.length_cons, List.length_nil]; try rfl) | rfl)) ?_; rintro _ _ _ ⟨rfl, rfl⟩
    refine jl_nil ?_
    refine jT ?_
    refine jc_ret ?_
    refine jTr ?_
    refine jrsd (rs := [_]) (S.own) (by repeat (first | exact List.Sublist.refl _ | exact List.sublist_append_left _ _ | apply List.Sublist.cons)) rfl (.cons (.agg rfl rfl rfl) .nil) ?_
    have hr : freezeS S.abs c = (S.abs, told 6) := by
      unfold freezeS; rw [h12, absV_get, hv]; rfl
    rw [hr]; exact OpP.plain (r := (S.abs, _)) hS rfl rfl rfl rfl
  · refine jp rfl ?_
    refine jl_nil ?_
    refine jT ?_
    refine jc_yes rfl ?_
    refine jc_seq ?_
    refine jc_region ?_
    refine jl_q rfl rfl (qCall rfl rfl rfl rfl rfl (by kernel_rfl) (told_walk 2 M)) ?_
    refine jl_s rfl (hStoreL rfl rfl rfl rfl rfl rfl rfl rfl (by first | (simp only [Nat.reduceAdd, Nat.zero_add, Nat.add_zero, List.drop_succ_cons, List.drop_zero, List.drop_nil, List.take_succ_cons, List.take_zero, List.take_nil, List.cons_append, List.nil_append, List.append_nil, List.length_cons, List.length_nil]; try rfl) | rfl)) ?_; rintro _ _ _ ⟨rfl, rfl⟩
    refine jl_nil ?_
    refine jT ?_
    refine jc_ret ?_
    refine jTr ?_
    refine jrsd (rs := [_]) (S.own) (by repeat (first | exact List.Sublist.refl _ | exact List.sublist_append_left _ _ | apply List.Sublist.cons)) rfl (.cons (.agg rfl rfl rfl) .nil) ?_
    have hr : freezeS S.abs c = (S.abs, told 2) := by
      unfold freezeS; rw [h12]; rfl
    rw [hr]; exact OpP.plain (r := (S.abs, _)) hS rfl rfl rfl rfl

theorem freeze_some (S : CS) (hS : S.Ok) (n : Nat) (hwf : WFS n S.abs) (hn : n ≤ 100) (M : Mem) (c : CL) (ca : Option Addr) (ck : Nat) (hC : CallOk M c ca ck) (w : Wy) (na : Option Addr) (nc : Nat) (hW : WyOk M w na nc) (o : Wy) (oa : Option Addr) (oc : Nat) (hO : WyOk M o oa oc) (v : CV) (hv : getA c.a S.vols = some v) :
    SpecL Tryz.prog 49 #[pt S.b, clV c ca ck, wyV w na nc, wyV o oa oc] M S.own fun u M' L' => OpP S.b (freezeS S.abs c) u M' L' := by
  refine SpecL.mem fun hnd hdis => ?_
  have hVa := addL_in (M := M) hnd
  have hMa := addL_le hdis
  have hVw : ∀ L, SubL S.own L → Vw M L S.own := fun L h => Vw.of
  refine spec_body (vs := [_, _, _, _]) 32 _ Tryz.func49 rfl Tryz.ntmps49 rfl rfl ?_; intro W
  refine jc_seq ?_
  refine jc_region ?_
  refine jl_h rfl rfl (hBox (cs := [_, _, _, _, _, _, _]) rfl rfl rfl rfl) ?_; rintro _ _ _ ⟨b5, rfl, rfl, rfl⟩
  refine jl_h rfl rfl (hBox (cs := [_, _]) rfl rfl rfl rfl) ?_; rintro _ _ _ ⟨b6, rfl, rfl, rfl⟩
  refine jl_h rfl rfl (hBox (cs := [_, _]) rfl rfl rfl rfl) ?_; rintro _ _ _ ⟨b7, rfl, rfl, rfl⟩
  refine jl_h rfl rfl (hAlloc rfl rfl) ?_; rintro _ _ _ ⟨b8, rfl, rfl, rfl⟩
  refine jl_nil ?_
  refine jT ?_
  refine jc_seq ?_
  refine jc_seq ?_
  refine jc_region ?_
  refine jl_q rfl rfl (qFieldAddr rfl rfl rfl rfl rfl) ?_
  refine jl_q rfl rfl (qLd rfl rfl rfl rfl (CJ.loc rfl)) ?_
  refine jl_qb rfl rfl (qCall rfl rfl rfl rfl rfl (by kernel_rfl) (in_walk c.b 0 1 M)) (fun h12 => ?_) (fun h12 => ?_)
  · refine jp rfl ?_
    refine jl_nil ?_
    refine jT ?_
    refine jc_no rfl ?_
    refine jc_skip ?_
    refine jT ?_
    refine jc_seq ?_
    refine jc_draw [(0, true), (1, true), (2, true), (3, true), (4, true), (5, true), (6, true), (7, true)] _ (by kernel_rfl) (by kernel_rfl) (by kernel_rfl) rfl (fun _ h => h) ?_
    refine dp rfl rfl ?_
    refine jd_q rfl rfl rfl (qNilCheck rfl rfl rfl) ?_
    refine jd_q rfl rfl rfl (qFieldAddr rfl rfl rfl rfl rfl) ?_
    refine jd_q rfl rfl rfl (qLd rfl rfl rfl rfl ((Vw.s Vw.of).cj rfl)) ?_
    refine jd_q rfl rfl rfl (qFieldAddr rfl rfl rfl rfl rfl) ?_
    refine jd_q rfl rfl rfl (qLd rfl rfl rfl rfl (CJ.loc rfl)) ?_
    refine jd_q rfl rfl rfl (qEq (v' := pt v.b) (qLookupO kI (z := .pointer none) rfl rfl rfl rfl (by kernel_rfl) (Vw.mo Vw.of) hS.mo) (by rw [ptV_get, hv]; try rfl)) ?_
    refine dp rfl rfl ?_
    refine jd_nil ?_
    refine jPn ?_
    refine jT ?_
    refine jc_seq ?_
    refine jc_seq ?_
    refine jc_region ?_
    refine jp rfl ?_
    refine jl_q rfl rfl (qEq (qPtrNil rfl rfl rfl rfl) (v' := .bool false) (by rfl)) ?_
    refine jl_nil ?_
    refine jT ?_
    refine jc_no rfl ?_
    refine jc_skip ?_
    refine jT ?_
    refine jc_seq ?_
    refine jc_region ?_
    refine jp rfl ?_
    refine jl_q rfl rfl (qFieldAddr rfl rfl rfl rfl rfl) ?_
    refine jl_q rfl rfl (qLd rfl rfl rfl rfl (CJ.loc rfl)) ?_
    refine jp rfl ?_
    refine jl_q rfl rfl (qNilCheck rfl rfl rfl) ?_
    refine jl_q rfl rfl (qFieldAddr rfl rfl rfl rfl rfl) ?_
    refine jl_s rfl (hStV { v with frozen := decide (c.b = 1) } rfl rfl rfl rfl rfl rfl (by omega) hv rfl rfl rfl rfl rfl) ?_; rintro _ _ _ ⟨rfl, rfl⟩
    refine jl_nil ?_
    refine jT ?_
    refine jc_seq ?_
    refine jc_region ?_
    refine jl_q rfl rfl (qBuild (cs := [_, _, _, _, _, _, _, _]) rfl rfl rfl (by rfl)) ?_
    refine jl_s rfl (hStoreL rfl rfl rfl rfl rfl rfl rfl rfl (by first | (simp only [Nat.reduceAdd, Nat.zero_add, Nat.add_zero, List.drop_succ_cons, List.drop_zero, List.drop_nil, List.take_succ_cons, List.take_zero, List.take_nil, List.cons_append, List.nil_append, List.append_nil, List.length_cons, List.length_nil]; try rfl) | rfl)) ?_; rintro _ _ _ ⟨rfl, rfl⟩
    refine jl_nil ?_
    refine jT ?_
    refine jc_ret ?_
    refine jrsd (rs := [_]) ((S.setV c.a { v with frozen := decide (c.b = 1) }).own) (by repeat (first | exact List.Sublist.refl _ | exact List.sublist_append_left _ _ | apply List.Sublist.cons)) rfl (.cons (.agg rfl rfl rfl) .nil) ?_
    have hr : freezeS S.abs c = ((S.setV c.a { v with frozen := decide (c.b = 1) }).abs, {}) := by
      unfold freezeS; rw [h12, absV_get, hv, abs_setV]; rfl
    rw [hr]; exact OpP.plain (r := (_, _)) (hS.setV (v' := { v with frozen := decide (c.b = 1) }) hv rfl ⟨(hS.v hv).mo, (hS.v hv).fs⟩) rfl rfl rfl rfl
  · refine jp rfl ?_
    refine jl_nil ?_
    refine jT ?_
    refine jc_yes rfl ?_
    refine jc_seq ?_
    refine jc_region ?_
    refine jl_q rfl rfl (qCall rfl rfl rfl rfl rfl (by kernel_rfl) (told_walk 2 M)) ?_
    refine jl_s rfl (hStoreL rfl rfl rfl rfl rfl rfl rfl rfl (by first | (simp only [Nat.reduceAdd, Nat.zero_add, Nat.add_zero, List.drop_succ_cons, List.drop_zero, List.drop_nil, List.take_succ_cons, List.take_zero, List.take_nil, List.cons_append, List.nil_append, List.append_nil, List.length_cons, List.length_nil]; try rfl) | rfl)) ?_; rintro _ _ _ ⟨rfl, rfl⟩
    refine jl_nil ?_
    refine jT ?_
    refine jc_ret ?_
    refine jTr ?_
    refine jrsd (rs := [_]) (S.own) (by repeat (first | exact List.Sublist.refl _ | exact List.sublist_append_left _ _ | apply List.Sublist.cons)) rfl (.cons (.agg rfl rfl rfl) .nil) ?_
    have hr : freezeS S.abs c = (S.abs, told 2) := by
      unfold freezeS; rw [h12]; rfl
    rw [hr]; exact OpP.plain (r := (S.abs, _)) hS rfl rfl rfl rfl

theorem remove_none (S : CS) (hS : S.Ok) (n : Nat) (hwf : WFS n S.abs) (hn : n ≤ 100) (M : Mem) (c : CL) (ca : Option Addr) (ck : Nat) (hC : CallOk M c ca ck) (w : Wy) (na : Option Addr) (nc : Nat) (hW : WyOk M w na nc) (o : Wy) (oa : Option Addr) (oc : Nat) (hO : WyOk M o oa oc) (hv : getA c.a S.vols = none) :
    SpecL Tryz.prog 50 #[pt S.b, clV c ca ck, wyV w na nc, wyV o oa oc] M S.own fun u M' L' => OpP S.b (removeS S.abs c) u M' L' := by
  refine SpecL.mem fun hnd hdis => ?_
  have hVa := addL_in (M := M) hnd
  have hMa := addL_le hdis
  have hVw : ∀ L, SubL S.own L → Vw M L S.own := fun L h => Vw.of
  refine spec_body (vs := [_, _, _, _]) 25 _ Tryz.func50 rfl Tryz.ntmps50 rfl rfl ?_; intro W
  refine jc_seq ?_
  refine jc_region ?_
  refine jl_h rfl rfl (hBox (cs := [_, _, _, _, _, _, _]) rfl rfl rfl rfl) ?_; rintro _ _ _ ⟨b5, rfl, rfl, rfl⟩
  refine jl_h rfl rfl (hBox (cs := [_, _]) rfl rfl rfl rfl) ?_; rintro _ _ _ ⟨b6, rfl, rfl, rfl⟩
  refine jl_h rfl rfl (hBox (cs := [_, _]) rfl rfl rfl rfl) ?_; rintro _ _ _ ⟨b7, rfl, rfl, rfl⟩
  refine jl_h rfl rfl (hAlloc rfl rfl) ?_; rintro _ _ _ ⟨b8, rfl, rfl, rfl⟩
  refine jl_nil ?_
  refine jT ?_
  refine jc_seq ?_
  refine jc_seq ?_
  refine jc_draw [(0, true), (1, true), (2, true), (3, true), (4, true), (5, true), (6, true), (7, true)] (_ :: _ :: _ :: _ :: S.own) (by kernel_rfl) (by kernel_rfl) (by kernel_rfl) rfl (fun _ h => h) ?_
  refine dp rfl rfl ?_
  refine jd_q rfl rfl rfl (qNilCheck rfl rfl rfl) ?_
  refine jd_q rfl rfl rfl (qFieldAddr rfl rfl rfl rfl rfl) ?_
  refine jd_q rfl rfl rfl (qLd rfl rfl rfl rfl ((Vw.s Vw.of).cj rfl)) ?_
  refine jd_q rfl rfl rfl (qFieldAddr rfl rfl rfl rfl rfl) ?_
  refine jd_q rfl rfl rfl (qLd rfl rfl rfl rfl (CJ.loc rfl)) ?_
  refine jd_q rfl rfl rfl (qEq (v' := .pointer none) (qLookupO kI (z := .pointer none) rfl rfl rfl rfl (by kernel_rfl) (Vw.mo Vw.of) hS.mo) (by rw [ptV_get, hv]; try rfl)) ?_
  refine jd_q rfl rfl rfl (qEq (qPtrNil rfl rfl rfl rfl) (v' := .bool true) (by rfl)) ?_
  refine jd_nil ?_
  refine jPn ?_
  refine jT ?_
  refine jc_yes rfl ?_
  refine jc_seq ?_
  refine jc_region ?_
  refine jl_q rfl rfl (qCall rfl rfl rfl rfl rfl (by kernel_rfl) (told_walk 6 M)) ?_
  refine jl_s rfl (hStoreL rfl rfl rfl rfl rfl rfl rfl rfl (by first | (simp only [Nat.reduceAdd, Nat.zero_add, Nat.add_zero, List.drop_succ_cons, List.drop_zero, List.drop_nil, List.take_succ_cons, List.take_zero, List.take_nil, List.cons_append, List.nil_append, List.append_nil, List.length_cons, List.length_nil]; try rfl) | rfl)) ?_; rintro _ _ _ ⟨rfl, rfl⟩
  refine jl_nil ?_
  refine jT ?_
  refine jc_ret ?_
  refine jTr ?_
  refine jrsd (rs := [_]) (S.own) (by repeat (first | exact List.Sublist.refl _ | exact List.sublist_append_left _ _ | apply List.Sublist.cons)) rfl (.cons (.agg rfl rfl rfl) .nil) ?_
  have hr : removeS S.abs c = (S.abs, told 6) := by
    unfold removeS; rw [absV_get, hv]; rfl
  rw [hr]; exact OpP.plain (r := (S.abs, _)) hS rfl rfl rfl rfl

theorem remove_some (S : CS) (hS : S.Ok) (n : Nat) (hwf : WFS n S.abs) (hn : n ≤ 100) (M : Mem) (c : CL) (ca : Option Addr) (ck : Nat) (hC : CallOk M c ca ck) (w : Wy) (na : Option Addr) (nc : Nat) (hW : WyOk M w na nc) (o : Wy) (oa : Option Addr) (oc : Nat) (hO : WyOk M o oa oc) (v : CV) (hv : getA c.a S.vols = some v) :
    SpecL Tryz.prog 50 #[pt S.b, clV c ca ck, wyV w na nc, wyV o oa oc] M S.own fun u M' L' => OpP S.b (removeS S.abs c) u M' L' := by
  refine SpecL.mem fun hnd hdis => ?_
  have hVa := addL_in (M := M) hnd
  have hMa := addL_le hdis
  have hVw : ∀ L, SubL S.own L → Vw M L S.own := fun L h => Vw.of
  refine spec_body (vs := [_, _, _, _]) 25 _ Tryz.func50 rfl Tryz.ntmps50 rfl rfl ?_; intro W
  refine jc_seq ?_
  refine jc_region ?_
  refine jl_h rfl rfl (hBox (cs := [_, _, _, _, _, _, _]) rfl rfl rfl rfl) ?_; rintro _ _ _ ⟨b5, rfl, rfl, rfl⟩
  refine jl_h rfl rfl (hBox (cs := [_, _]) rfl rfl rfl rfl) ?_; rintro _ _ _ ⟨b6, rfl, rfl, rfl⟩
  refine jl_h rfl rfl (hBox (cs := [_, _]) rfl rfl rfl rfl) ?_; rintro _ _ _ ⟨b7, rfl, rfl, rfl⟩
  refine jl_h rfl rfl (hAlloc rfl rfl) ?_; rintro _ _ _ ⟨b8, rfl, rfl, rfl⟩
  refine jl_nil ?_
  refine jT ?_
  refine jc_seq ?_
  refine jc_seq ?_
  refine jc_draw [(0, true), (1, true), (2, true), (3, true), (4, true), (5, true), (6, true), (7, true)] (_ :: _ :: _ :: _ :: S.own) (by kernel_rfl) (by kernel_rfl) (by kernel_rfl) rfl (fun _ h => h) ?_
  refine dp rfl rfl ?_
  refine jd_q rfl rfl rfl (qNilCheck rfl rfl rfl) ?_
  refine jd_q rfl rfl rfl (qFieldAddr rfl rfl rfl rfl rfl) ?_
  refine jd_q rfl rfl rfl (qLd rfl rfl rfl rfl ((Vw.s Vw.of).cj rfl)) ?_
  refine jd_q rfl rfl rfl (qFieldAddr rfl rfl rfl rfl rfl) ?_
  refine jd_q rfl rfl rfl (qLd rfl rfl rfl rfl (CJ.loc rfl)) ?_
  refine jd_q rfl rfl rfl (qEq (v' := pt v.b) (qLookupO kI (z := .pointer none) rfl rfl rfl rfl (by kernel_rfl) (Vw.mo Vw.of) hS.mo) (by rw [ptV_get, hv]; try rfl)) ?_
  refine jd_q rfl rfl rfl (qEq (qPtrNil rfl rfl rfl rfl) (v' := .bool false) (by rfl)) ?_
  refine jd_nil ?_
  refine jPn ?_
  refine jT ?_
  refine jc_no rfl ?_
  refine jc_skip ?_
  refine jT ?_
  refine jc_seq ?_
  refine jc_drawP (p := { A := fun i => !([6].contains i), U := fun i => !([6].contains i) }) [(0, true), (1, true), (2, true), (3, true), (4, true), (5, true), (6, false)] _ (((b8, _) :: (b7, _) :: (b6, _) :: (b5, _) :: S.own)) ([]) (by kernel_rfl) (by kernel_rfl) (by kernel_rfl) (by kernel_rfl) rfl (fun _ h => h) (MLe.refl _) (by simp) ?_
  refine dp rfl rfl ?_
  refine jd_q rfl rfl rfl (qNilCheck rfl rfl rfl) ?_
  refine jd_q rfl rfl rfl (qFieldAddr rfl rfl rfl rfl rfl) ?_
  refine jd_q rfl rfl rfl (qLd rfl rfl rfl rfl ((Vw.s Vw.of).cj rfl)) ?_
  refine jd_q rfl rfl rfl (qFieldAddr rfl rfl rfl rfl rfl) ?_
  refine jd_q rfl rfl rfl (qLd rfl rfl rfl rfl (CJ.loc rfl)) ?_
  refine jd_e rfl rfl (hVolDel rfl rfl rfl rfl hS) ?_; rintro _ _ _ ⟨rfl, mo2, hmo2, rfl⟩
  refine ⟨MLe.refl _, by simp, ?_⟩
  refine je_nil ?_
  refine jPn ?_
  refine jT ?_
  refine jc_seq ?_
  refine jc_region ?_
  refine jl_q rfl rfl (qBuild (cs := [_, _, _, _, _, _, _, _]) rfl rfl rfl (by rfl)) ?_
  refine jl_s rfl (hStoreL rfl rfl rfl rfl rfl rfl rfl rfl (by first | (simp only [Nat.reduceAdd, Nat.zero_add, Nat.add_zero, List.drop_succ_cons, List.drop_zero, List.drop_nil, List.take_succ_cons, List.take_zero, List.take_nil, List.cons_append, List.nil_append, List.append_nil, List.length_cons, List.length_nil]; try rfl) | rfl)) ?_; rintro _ _ _ ⟨rfl, rfl⟩
  refine jl_nil ?_
  refine jT ?_
  refine jc_ret ?_
  refine jrsd (rs := [_]) (({ S with mo := mo2, vols := delA c.a S.vols } : CS).own) (by repeat (first | exact List.Sublist.refl _ | exact List.sublist_append_left _ _ | apply List.Sublist.cons)) rfl (.cons (.agg rfl rfl rfl) .nil) ?_
  have hr : removeS S.abs c = (({ S with mo := mo2, vols := delA c.a S.vols } : CS).abs, {}) := by
    unfold removeS; rw [absV_get, hv]; unfold CS.abs; simp only [Option.map_some]; rw [delA_map (fun v : CV => v.abs)]
  rw [hr]; exact OpP.plain (r := (_, _)) ⟨hmo2, fun p hp => hS.vs p ((List.mem_filter.1 hp).1)⟩ rfl rfl rfl rfl

theorem stat_err (S : CS) (hS : S.Ok) (n : Nat) (hwf : WFS n S.abs) (hn : n ≤ 100) (M : Mem) (c : CL) (ca : Option Addr) (ck : Nat) (hC : CallOk M c ca ck) (w : Wy) (na : Option Addr) (nc : Nat) (hW : WyOk M w na nc) (o : Wy) (oa : Option Addr) (oc : Nat) (hO : WyOk M o oa oc) (e : Int) (hw : walkS S.abs w.1 w.2 = .error e) :
    SpecL Tryz.prog 62 #[pt S.b, clV c ca ck, wyV w na nc, wyV o oa oc] M S.own fun u M' L' => OpP S.b (statS S.abs w) u M' L' := by
  refine SpecL.mem fun hnd hdis => ?_
  have hVa := addL_in (M := M) hnd
  have hMa := addL_le hdis
  have hVw : ∀ L, SubL S.own L → Vw M L S.own := fun L h => Vw.of
  have he := walkS_err hwf hw
  refine spec_body (vs := [_, _, _, _]) 42 _ Tryz.func62 rfl Tryz.ntmps62 rfl rfl ?_; intro W
  refine jc_seq ?_
  refine jc_region ?_
  refine jl_h rfl rfl (hBox (cs := [_, _, _, _, _, _, _]) rfl rfl rfl rfl) ?_; rintro _ _ _ ⟨b5, rfl, rfl, rfl⟩
  refine jl_h rfl rfl (hBox (cs := [_, _]) rfl rfl rfl rfl) ?_; rintro _ _ _ ⟨b6, rfl, rfl, rfl⟩
  refine jl_h rfl rfl (hBox (cs := [_, _]) rfl rfl rfl rfl) ?_; rintro _ _ _ ⟨b7, rfl, rfl, rfl⟩
  refine jl_h rfl rfl (hAlloc rfl rfl) ?_; rintro _ _ _ ⟨b8, rfl, rfl, rfl⟩
  refine jl_nil ?_
  refine jT ?_
  refine jc_seq ?_
  refine jc_region ?_
  refine jp rfl ?_
  refine jl_q rfl rfl (qFieldAddr rfl rfl rfl rfl rfl) ?_
  refine jl_q rfl rfl (qLd rfl rfl rfl rfl (CJ.loc rfl)) ?_
  refine jl_q rfl rfl (qFieldAddr rfl rfl rfl rfl rfl) ?_
  refine jl_q rfl rfl (qLd rfl rfl rfl rfl (CJ.loc rfl)) ?_
  refine jl_q rfl rfl (qEq (qCallM (R := S.own) rfl rfl rfl rfl rfl (by kernel_rfl) (SubL.sub) (walk_spec S hS n hwf w.1 w.2 na nc (addL M S.own) hVa (hW.sn.mono hMa) hW.big)) (by rw [hw]; try rfl)) ?_
  iterate 7 refine jp rfl ?_
  refine jl_nil ?_
  refine jT ?_
  refine jc_seq ?_
  refine jc_seq ?_
  refine jc_region ?_
  refine jp rfl ?_
  refine jt rfl (decide_eq_true (by omega)) ?_
  refine jl_nil ?_
  refine jT ?_
  refine jc_yes rfl ?_
  refine jc_seq ?_
  refine jc_region ?_
  refine jp rfl ?_
  refine jl_q rfl rfl (qCall rfl rfl rfl rfl rfl (by kernel_rfl) (told_walk e M)) ?_
  refine jl_s rfl (hStoreL rfl rfl rfl rfl rfl rfl rfl rfl (by first | (simp only [Nat.reduceAdd, Nat.zero_add, Nat.add_zero, List.drop_succ_cons, List.drop_zero, List.drop_nil, List.take_succ_cons, List.take_zero, List.take_nil, List.cons_append, List.nil_append, List.append_nil, List.length_cons, List.length_nil]; try rfl) | rfl)) ?_; rintro _ _ _ ⟨rfl, rfl⟩
  refine jl_nil ?_
  refine jT ?_
  refine jc_ret ?_
  refine jTr ?_
  refine jrsd (rs := [_]) (S.own) (by repeat (first | exact List.Sublist.refl _ | exact List.sublist_append_left _ _ | apply List.Sublist.cons)) rfl (.cons (.agg rfl rfl rfl) .nil) ?_
  have hr : statS S.abs w = (S.abs, told e) := by
    unfold statS; rw [hw]
  rw [hr]; exact OpP.plain (r := (S.abs, _)) hS rfl rfl rfl rfl

theorem stat_ok (S : CS) (hS : S.Ok) (n : Nat) (hwf : WFS n S.abs) (hn : n ≤ 100) (M : Mem) (c : CL) (ca : Option Addr) (ck : Nat) (hC : CallOk M c ca ck) (w : Wy) (na : Option Addr) (nc : Nat) (hW : WyOk M w na nc) (o : Wy) (oa : Option Addr) (oc : Nat) (hO : WyOk M o oa oc) (id : Int) (hw : walkS S.abs w.1 w.2 = .ok id) :
    SpecL Tryz.prog 62 #[pt S.b, clV c ca ck, wyV w na nc, wyV o oa oc] M S.own fun u M' L' => OpP S.b (statS S.abs w) u M' L' := by
  refine SpecL.mem fun hnd hdis => ?_
  have hVa := addL_in (M := M) hnd
  have hMa := addL_le hdis
  have hVw : ∀ L, SubL S.own L → Vw M L S.own := fun L h => Vw.of
  obtain ⟨v, x, hv, hx, hwv⟩ := walk_ok hwf hw
  have hxk := (hS.v hv).x hx
  refine spec_body (vs := [_, _, _, _]) 42 _ Tryz.func62 rfl Tryz.ntmps62 rfl rfl ?_; intro W
  refine jc_seq ?_
  refine jc_region ?_
  refine jl_h rfl rfl (hBox (cs := [_, _, _, _, _, _, _]) rfl rfl rfl rfl) ?_; rintro _ _ _ ⟨b5, rfl, rfl, rfl⟩
  refine jl_h rfl rfl (hBox (cs := [_, _]) rfl rfl rfl rfl) ?_; rintro _ _ _ ⟨b6, rfl, rfl, rfl⟩
  refine jl_h rfl rfl (hBox (cs := [_, _]) rfl rfl rfl rfl) ?_; rintro _ _ _ ⟨b7, rfl, rfl, rfl⟩
  refine jl_h rfl rfl (hAlloc rfl rfl) ?_; rintro _ _ _ ⟨b8, rfl, rfl, rfl⟩
  refine jl_nil ?_
  refine jT ?_
  refine jc_seq ?_
  refine jc_region ?_
  refine jp rfl ?_
  refine jl_q rfl rfl (qFieldAddr rfl rfl rfl rfl rfl) ?_
  refine jl_q rfl rfl (qLd rfl rfl rfl rfl (CJ.loc rfl)) ?_
  refine jl_q rfl rfl (qFieldAddr rfl rfl rfl rfl rfl) ?_
  refine jl_q rfl rfl (qLd rfl rfl rfl rfl (CJ.loc rfl)) ?_
  refine jl_q rfl rfl (qEq (v' := .tuple #[.int .u32 id, pt x.b, .int .i64 0]) (qCallM (R := S.own) rfl rfl rfl rfl rfl (by kernel_rfl) (SubL.sub) (walk_spec S hS n hwf w.1 w.2 na nc (addL M S.own) hVa (hW.sn.mono hMa) hW.big)) (by rw [hw]; exact walkV_at hv hx)) ?_
  iterate 7 refine jp rfl ?_
  refine jl_nil ?_
  refine jT ?_
  refine jc_seq ?_
  refine jc_seq ?_
  refine jc_region ?_
  refine jp rfl ?_
  refine jf rfl (decide_eq_false (by omega)) ?_
  refine jl_nil ?_
  refine jT ?_
  refine jc_no rfl ?_
  refine jc_skip ?_
  refine jT ?_
  refine jc_seq ?_
  refine jc_drawP (p := { A := fun i => !([16].contains i), U := fun i => !([16].contains i) }) [(0, true), (1, true), (2, true), (3, true), (4, true), (5, true), (6, true), (7, true), (8, true), (9, true), (10, true), (11, true), (12, true), (13, true), (14, true), (15, true), (16, false)] _ (((b8, _) :: (b7, _) :: (b6, _) :: (b5, _) :: S.own)) ([]) (by kernel_rfl) (by kernel_rfl) (by kernel_rfl) (by kernel_rfl) rfl (fun _ h => h) (MLe.refl _) (by simp) ?_
  iterate 2 refine dp rfl rfl ?_
  refine jd_q rfl rfl rfl (qNilCheck rfl rfl rfl) ?_
  refine jd_q rfl rfl rfl (qFieldAddr rfl rfl rfl rfl rfl) ?_
  refine jd_q rfl rfl rfl (qLd rfl rfl rfl rfl ((Vw.x (Vw.file (Vw.vol Vw.of hv) hx)).cj rfl)) ?_
  refine dp rfl rfl ?_
  refine jd_q rfl rfl rfl (qNilCheck rfl rfl rfl) ?_
  refine jd_q rfl rfl rfl (qFieldAddr rfl rfl rfl rfl rfl) ?_
  refine jd_q rfl rfl rfl (qLd rfl rfl rfl rfl ((Vw.x (Vw.file (Vw.vol Vw.of hv) hx)).cj rfl)) ?_
  refine dp rfl rfl ?_
  refine jd_q rfl rfl rfl (qNilCheck rfl rfl rfl) ?_
  refine jd_q rfl rfl rfl (qFieldAddr rfl rfl rfl rfl rfl) ?_
  obtain ⟨da, dc, hdv⟩ := hxk.byt.form
  refine jd_q rfl rfl rfl (qEq (qLd rfl rfl rfl rfl ((Vw.x (Vw.file (Vw.vol Vw.of hv) hx)).cj rfl)) hdv) ?_
  refine jd_q rfl rfl rfl (qLen rfl rfl rfl) ?_
  refine jd_q rfl rfl rfl (qBuild (cs := [_, _, _, _]) rfl rfl rfl (by rfl)) ?_
  refine jd_q rfl rfl rfl (qBuild (cs := [_, _, _, _, _, _, _, _]) rfl rfl rfl (by rfl)) ?_
  refine jd_e rfl rfl (hStoreL rfl rfl rfl rfl rfl rfl rfl rfl (by first | (simp only [Nat.reduceAdd, Nat.zero_add, Nat.add_zero, List.drop_succ_cons, List.drop_zero, List.drop_nil, List.take_succ_cons, List.take_zero, List.take_nil, List.cons_append, List.nil_append, List.append_nil, List.length_cons, List.length_nil]; try rfl) | rfl)) ?_; rintro _ _ _ ⟨rfl, rfl⟩
  refine ⟨MLe.refl _, by simp, ?_⟩
  refine je_nil ?_
  refine jPn ?_
  refine jT ?_
  refine jc_ret ?_
  refine jrsd (rs := [_]) (S.own) (by repeat (first | exact List.Sublist.refl _ | exact List.sublist_append_left _ _ | apply List.Sublist.cons)) rfl (.cons (.agg rfl rfl rfl) .nil) ?_
  have hr : statS S.abs w = (S.abs, { sid := id, sdir := x.pf.dir, slinks := x.pf.links, ssize := x.pf.data.length }) := by
    unfold statS; rw [hw]; simp only; rw [fileAt_abs hv hx]
  rw [hr]; exact OpP.plain (r := (_, _)) hS rfl rfl rfl rfl


end Go.Proofs.YtdjaehgadehnfaaGreatDoor
