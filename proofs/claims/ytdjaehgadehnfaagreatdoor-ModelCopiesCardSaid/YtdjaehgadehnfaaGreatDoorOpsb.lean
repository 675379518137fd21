/- Walks: calls that link, unlink, rename, remove directories. -/
import Derived.Test.YtdjaehgadehnfaaGreatDoorHp
namespace Go.Proofs.YtdjaehgadehnfaaGreatDoor
set_option linter.unusedVariables false
set_option linter.unusedSimpArgs false
open Go.RowKit Go.MapKept

theorem link_e1 (S : CS) (hS : S.Ok) (n : Nat) (hwf : WFS n S.abs) (hn : n ≤ 100) (M : Mem) (c : CL) (ca : Option Addr) (ck : Nat) (hC : CallOk M c ca ck) (w : Wy) (na : Option Addr) (nc : Nat) (hW : WyOk M w na nc) (o : Wy) (oa : Option Addr) (oc : Nat) (hO : WyOk M o oa oc) (e : Int) (hw : fileS S.abs w = .error e) :
    SpecL Tryz.prog 57 #[pt S.b, clV c ca ck, wyV w na nc, wyV o oa oc] M S.own fun u M' L' => OpP S.b (linkS S.abs w o) u M' L' := by
  refine SpecL.mem fun hnd hdis => ?_
  have hVa := addL_in (M := M) hnd
  have hMa := addL_le hdis
  have hVw : ∀ L, SubL S.own L → Vw M L S.own := fun L h => Vw.of
  have he := fileS_err hwf hw
  refine spec_body (vs := [_, _, _, _]) 59 _ Tryz.func57 rfl Tryz.ntmps57 rfl rfl ?_; intro W
  refine jc_seq ?_
  refine jc_region ?_
  refine jl_h rfl rfl (hBox (cs := [_, _, _, _, _, _, _]) rfl rfl rfl rfl) ?_; rintro _ _ _ ⟨b5, rfl, rfl, rfl⟩
  refine jl_h rfl rfl (hBox (cs := [_, _]) rfl rfl rfl rfl) ?_; rintro _ _ _ ⟨b6, rfl, rfl, rfl⟩
  refine jl_h rfl rfl (hBox (cs := [_, _]) rfl rfl rfl rfl) ?_; rintro _ _ _ ⟨b7, rfl, rfl, rfl⟩
  refine jl_h rfl rfl (hAlloc rfl rfl) ?_; rintro _ _ _ ⟨b8, rfl, rfl, rfl⟩
  refine jl_nil ?_
  refine jT ?_
  refine jc_seq ?_
  refine jc_region ?_
  refine jp rfl ?_
  refine jl_q rfl rfl (qLdL rfl rfl rfl rfl rfl (by first | (simp only [Nat.reduceAdd, Nat.zero_add, Nat.add_zero, List.drop_succ_cons, List.drop_zero, List.drop_nil, List.take_succ_cons, List.take_zero, List.take_nil, List.cons_append, List.nil_append, List.append_nil, List.length_cons, List.length_nil]; try rfl) | rfl)) ?_
  refine jl_q rfl rfl (qEq (qCallM (R := S.own) rfl rfl rfl rfl rfl (by kernel_rfl) (SubL.sub) (file_spec S hS n hwf (addL M S.own) hVa w na nc (hW.mono hMa))) (by rw [hw]; try rfl)) ?_
  iterate 7 refine jp rfl ?_
  refine jl_nil ?_
  refine jT ?_
  refine jc_seq ?_
  refine jc_seq ?_
  refine jc_region ?_
  refine jp rfl ?_
  refine jt rfl (decide_eq_true (by omega)) ?_
  refine jl_nil ?_
  refine jT ?_
  refine jc_yes rfl ?_
  refine jc_seq ?_
  refine jc_region ?_
  refine jp rfl ?_
  refine jl_q rfl rfl (qCall rfl rfl rfl rfl rfl (by kernel_rfl) (told_walk e M)) ?_
  refine jl_s rfl (hStoreL rfl rfl rfl rfl rfl rfl rfl rfl (by first | (simp only [Nat.reduceAdd, Nat.zero_add, Nat.add_zero, List.drop_succ_cons, List.drop_zero, List.drop_nil, List.take_succ_cons, List.take_zero, List.take_nil, List.cons_append, List.nil_append, List.append_nil, List.length_cons, List.length_nil]; try rfl) | rfl)) ?_; rintro _ _ _ ⟨rfl, rfl⟩
  refine jl_nil ?_
  refine jT ?_
  refine jc_ret ?_
  refine jTr ?_
  refine jrsd (rs := [_]) (S.own) (by first | (rw [List.append_nil]; exact List.sublist_append_left _ _) | repeat (first | exact List.Sublist.refl _ | exact List.sublist_append_left _ _ | apply List.Sublist.cons)) rfl (.cons (.agg rfl rfl rfl) .nil) ?_
  have hr : linkS S.abs w o = (S.abs, told e) := by
    unfold linkS; rw [hw]
  rw [hr]; exact OpP.plain (r := (S.abs, _)) hS rfl rfl rfl rfl

theorem link_e2 (S : CS) (hS : S.Ok) (n : Nat) (hwf : WFS n S.abs) (hn : n ≤ 100) (M : Mem) (c : CL) (ca : Option Addr) (ck : Nat) (hC : CallOk M c ca ck) (w : Wy) (na : Option Addr) (nc : Nat) (hW : WyOk M w na nc) (o : Wy) (oa : Option Addr) (oc : Nat) (hO : WyOk M o oa oc) (id : Int) (hw : fileS S.abs w = .ok id) (e : Int) (hf : freshS S.abs o w.1 none = .error e) :
    SpecL Tryz.prog 57 #[pt S.b, clV c ca ck, wyV w na nc, wyV o oa oc] M S.own fun u M' L' => OpP S.b (linkS S.abs w o) u M' L' := by
  refine SpecL.mem fun hnd hdis => ?_
  have hVa := addL_in (M := M) hnd
  have hMa := addL_le hdis
  have hVw : ∀ L, SubL S.own L → Vw M L S.own := fun L h => Vw.of
  obtain ⟨v, x, hv, hx, hwv, hxd⟩ := fileS_ok hwf hw
  have he := freshS_err hwf hf
  refine spec_body (vs := [_, _, _, _]) 59 _ Tryz.func57 rfl Tryz.ntmps57 rfl rfl ?_; intro W
  refine jc_seq ?_
  refine jc_region ?_
  refine jl_h rfl rfl (hBox (cs := [_, _, _, _, _, _, _]) rfl rfl rfl rfl) ?_; rintro _ _ _ ⟨b5, rfl, rfl, rfl⟩
  refine jl_h rfl rfl (hBox (cs := [_, _]) rfl rfl rfl rfl) ?_; rintro _ _ _ ⟨b6, rfl, rfl, rfl⟩
  refine jl_h rfl rfl (hBox (cs := [_, _]) rfl rfl rfl rfl) ?_; rintro _ _ _ ⟨b7, rfl, rfl, rfl⟩
  refine jl_h rfl rfl (hAlloc rfl rfl) ?_; rintro _ _ _ ⟨b8, rfl, rfl, rfl⟩
  refine jl_nil ?_
  refine jT ?_
  refine jc_seq ?_
  refine jc_region ?_
  refine jp rfl ?_
  refine jl_q rfl rfl (qLdL rfl rfl rfl rfl rfl (by first | (simp only [Nat.reduceAdd, Nat.zero_add, Nat.add_zero, List.drop_succ_cons, List.drop_zero, List.drop_nil, List.take_succ_cons, List.take_zero, List.take_nil, List.cons_append, List.nil_append, List.append_nil, List.length_cons, List.length_nil]; try rfl) | rfl)) ?_
  refine jl_q rfl rfl (qEq (v' := .tuple #[.int .u32 id, pt x.b, .int .i64 0]) (qCallM (R := S.own) rfl rfl rfl rfl rfl (by kernel_rfl) (SubL.sub) (file_spec S hS n hwf (addL M S.own) hVa w na nc (hW.mono hMa))) (by rw [hw]; exact walkV_at hv hx)) ?_
  iterate 7 refine jp rfl ?_
  refine jl_nil ?_
  refine jT ?_
  refine jc_seq ?_
  refine jc_seq ?_
  refine jc_region ?_
  refine jp rfl ?_
  refine jf rfl (decide_eq_false (by omega)) ?_
  refine jl_nil ?_
  refine jT ?_
  refine jc_no rfl ?_
  refine jc_skip ?_
  refine jT ?_
  refine jc_seq ?_
  refine jc_region ?_
  refine jp rfl ?_
  refine jl_q rfl rfl (qLdL rfl rfl rfl rfl rfl (by first | (simp only [Nat.reduceAdd, Nat.zero_add, Nat.add_zero, List.drop_succ_cons, List.drop_zero, List.drop_nil, List.take_succ_cons, List.take_zero, List.take_nil, List.cons_append, List.nil_append, List.append_nil, List.length_cons, List.length_nil]; try rfl) | rfl)) ?_
  refine jl_q rfl rfl (qFieldAddr rfl rfl rfl rfl rfl) ?_
  refine jl_q rfl rfl (qLd rfl rfl rfl rfl (CJ.loc rfl)) ?_
  refine jl_q rfl rfl (qEq (qCallM (R := S.own) rfl rfl rfl rfl rfl (by kernel_rfl) (SubL.sub) (fresh_spec S hS n hwf (addL M S.own) hVa o oa oc (hO.mono hMa) w.1 none (.pointer none) hnd (fun _ => .inl ⟨rfl, rfl⟩))) (by rw [hf]; try rfl)) ?_
  iterate 7 refine jp rfl ?_
  refine jl_nil ?_
  refine jT ?_
  refine jc_seq ?_
  refine jc_seq ?_
  refine jc_region ?_
  refine jp rfl ?_
  refine jf rfl (decide_eq_false (by omega)) ?_
  refine jl_nil ?_
  refine jT ?_
  refine jc_no rfl ?_
  refine jc_skip ?_
  refine jT ?_
  refine jc_seq ?_
  refine jc_seq ?_
  refine jc_region ?_
  refine jp rfl ?_
  refine jt rfl (decide_eq_true (by omega)) ?_
  refine jl_nil ?_
  refine jT ?_
  refine jc_yes rfl ?_
  refine jc_seq ?_
  refine jc_region ?_
  refine jp rfl ?_
  refine jl_q rfl rfl (qCall rfl rfl rfl rfl rfl (by kernel_rfl) (told_walk e M)) ?_
  refine jl_s rfl (hStoreL rfl rfl rfl rfl rfl rfl rfl rfl (by first | (simp only [Nat.reduceAdd, Nat.zero_add, Nat.add_zero, List.drop_succ_cons, List.drop_zero, List.drop_nil, List.take_succ_cons, List.take_zero, List.take_nil, List.cons_append, List.nil_append, List.append_nil, List.length_cons, List.length_nil]; try rfl) | rfl)) ?_; rintro _ _ _ ⟨rfl, rfl⟩
  refine jl_nil ?_
  refine jT ?_
  refine jc_ret ?_
  refine jTr ?_
  refine jrsd (rs := [_]) (S.own) (by first | (rw [List.append_nil]; exact List.sublist_append_left _ _) | repeat (first | exact List.Sublist.refl _ | exact List.sublist_append_left _ _ | apply List.Sublist.cons)) rfl (.cons (.agg rfl rfl rfl) .nil) ?_
  have hr : linkS S.abs w o = (S.abs, told e) := by
    unfold linkS; rw [hw]; simp only; rw [hf]
  rw [hr]; exact OpP.plain (r := (S.abs, _)) hS rfl rfl rfl rfl

theorem link_frz (S : CS) (hS : S.Ok) (n : Nat) (hwf : WFS n S.abs) (hn : n ≤ 100) (M : Mem) (c : CL) (ca : Option Addr) (ck : Nat) (hC : CallOk M c ca ck) (w : Wy) (na : Option Addr) (nc : Nat) (hW : WyOk M w na nc) (o : Wy) (oa : Option Addr) (oc : Nat) (hO : WyOk M o oa oc) (id : Int) (hw : fileS S.abs w = .ok id) (d : Int) (hfr : freshS S.abs o w.1 none = .ok d) (v : CV) (x xd : CF) (hv : getA w.1 S.vols = some v) (hx : getA id v.files = some x) (hxd : getA d v.files = some xd) (hf : frozenS S.abs w.1 = true) :
    SpecL Tryz.prog 57 #[pt S.b, clV c ca ck, wyV w na nc, wyV o oa oc] M S.own fun u M' L' => OpP S.b (linkS S.abs w o) u M' L' := by
  refine SpecL.mem fun hnd hdis => ?_
  have hVa := addL_in (M := M) hnd
  have hMa := addL_le hdis
  have hVw : ∀ L, SubL S.own L → Vw M L S.own := fun L h => Vw.of
  obtain ⟨hone, ho1, hop, v2, xd2, hv2, hxd2, hdd, hno, hlen⟩ := freshS_ok hwf hfr
  rw [ho1, hv] at hv2; cases hv2; rw [hxd] at hxd2; cases hxd2
  refine spec_body (vs := [_, _, _, _]) 59 _ Tryz.func57 rfl Tryz.ntmps57 rfl rfl ?_; intro W
  refine jc_seq ?_
  refine jc_region ?_
  refine jl_h rfl rfl (hBox (cs := [_, _, _, _, _, _, _]) rfl rfl rfl rfl) ?_; rintro _ _ _ ⟨b5, rfl, rfl, rfl⟩
  refine jl_h rfl rfl (hBox (cs := [_, _]) rfl rfl rfl rfl) ?_; rintro _ _ _ ⟨b6, rfl, rfl, rfl⟩
  refine jl_h rfl rfl (hBox (cs := [_, _]) rfl rfl rfl rfl) ?_; rintro _ _ _ ⟨b7, rfl, rfl, rfl⟩
  refine jl_h rfl rfl (hAlloc rfl rfl) ?_; rintro _ _ _ ⟨b8, rfl, rfl, rfl⟩
  refine jl_nil ?_
  refine jT ?_
  refine jc_seq ?_
  refine jc_region ?_
  refine jp rfl ?_
  refine jl_q rfl rfl (qLdL rfl rfl rfl rfl rfl (by first | (simp only [Nat.reduceAdd, Nat.zero_add, Nat.add_zero, List.drop_succ_cons, List.drop_zero, List.drop_nil, List.take_succ_cons, List.take_zero, List.take_nil, List.cons_append, List.nil_append, List.append_nil, List.length_cons, List.length_nil]; try rfl) | rfl)) ?_
  refine jl_q rfl rfl (qEq (v' := .tuple #[.int .u32 id, pt x.b, .int .i64 0]) (qCallM (R := S.own) rfl rfl rfl rfl rfl (by kernel_rfl) (SubL.sub) (file_spec S hS n hwf (addL M S.own) hVa w na nc (hW.mono hMa))) (by rw [hw]; exact walkV_at hv hx)) ?_
  iterate 7 refine jp rfl ?_
  refine jl_nil ?_
  refine jT ?_
  refine jc_seq ?_
  refine jc_seq ?_
  refine jc_region ?_
  refine jp rfl ?_
  refine jf rfl (decide_eq_false (by omega)) ?_
  refine jl_nil ?_
  refine jT ?_
  refine jc_no rfl ?_
  refine jc_skip ?_
  refine jT ?_
  refine jc_seq ?_
  refine jc_region ?_
  refine jp rfl ?_
  refine jl_q rfl rfl (qLdL rfl rfl rfl rfl rfl (by first | (simp only [Nat.reduceAdd, Nat.zero_add, Nat.add_zero, List.drop_succ_cons, List.drop_zero, List.drop_nil, List.take_succ_cons, List.take_zero, List.take_nil, List.cons_append, List.nil_append, List.append_nil, List.length_cons, List.length_nil]; try rfl) | rfl)) ?_
  refine jl_q rfl rfl (qFieldAddr rfl rfl rfl rfl rfl) ?_
  refine jl_q rfl rfl (qLd rfl rfl rfl rfl (CJ.loc rfl)) ?_
  refine jl_q rfl rfl (qEq (v' := .tuple #[.int .u32 d, pt xd.b, .int .i64 0]) (qCallM (R := S.own) rfl rfl rfl rfl rfl (by kernel_rfl) (SubL.sub) (fresh_spec S hS n hwf (addL M S.own) hVa o oa oc (hO.mono hMa) w.1 none (.pointer none) hnd (fun _ => .inl ⟨rfl, rfl⟩))) (by rw [hfr, ho1]; exact walkV_at hv hxd)) ?_
  iterate 7 refine jp rfl ?_
  refine jl_nil ?_
  refine jT ?_
  refine jc_seq ?_
  refine jc_seq ?_
  refine jc_region ?_
  refine jp rfl ?_
  refine jt rfl (decide_eq_true (by omega)) ?_
  refine jl_nil ?_
  refine jT ?_
  refine jc_yes rfl ?_
  refine jc_region ?_
  refine jp rfl ?_
  refine jl_q rfl rfl (qFieldAddr rfl rfl rfl rfl rfl) ?_
  refine jl_q rfl rfl (qLd rfl rfl rfl rfl (CJ.loc rfl)) ?_
  refine jl_q rfl rfl (qEq (v' := .int .i64 170) (qCallM (R := S.own) rfl rfl rfl rfl rfl (by kernel_rfl) (SubL.sub) (turns_spec S hS n hwf (addL M S.own) hVa w.1 v hv)) (by rw [hf]; rfl)) ?_
  refine jp rfl ?_
  refine jl_nil ?_
  refine jT ?_
  refine jc_seq ?_
  refine jc_seq ?_
  refine jc_region ?_
  refine jp rfl ?_
  refine jt rfl (decide_eq_true (by omega)) ?_
  refine jl_nil ?_
  refine jT ?_
  refine jc_yes rfl ?_
  refine jc_seq ?_
  refine jc_region ?_
  refine jp rfl ?_
  refine jl_q rfl rfl (qCall rfl rfl rfl rfl rfl (by kernel_rfl) (told_walk 170 M)) ?_
  refine jl_s rfl (hStoreL rfl rfl rfl rfl rfl rfl rfl rfl (by first | (simp only [Nat.reduceAdd, Nat.zero_add, Nat.add_zero, List.drop_succ_cons, List.drop_zero, List.drop_nil, List.take_succ_cons, List.take_zero, List.take_nil, List.cons_append, List.nil_append, List.append_nil, List.length_cons, List.length_nil]; try rfl) | rfl)) ?_; rintro _ _ _ ⟨rfl, rfl⟩
  refine jl_nil ?_
  refine jT ?_
  refine jc_ret ?_
  refine jTr ?_
  refine jrsd (rs := [_]) (S.own) (by first | (rw [List.append_nil]; exact List.sublist_append_left _ _) | repeat (first | exact List.Sublist.refl _ | exact List.sublist_append_left _ _ | apply List.Sublist.cons)) rfl (.cons (.agg rfl rfl rfl) .nil) ?_
  have hr : linkS S.abs w o = (S.abs, told 170) := by
    unfold linkS; rw [hw]; simp only; rw [hfr]; simp only; rw [hf]; rfl
  rw [hr]; exact OpP.plain (r := (S.abs, _)) hS rfl rfl rfl rfl

theorem link_ok (S : CS) (hS : S.Ok) (n : Nat) (hwf : WFS n S.abs) (hn : n ≤ 100) (M : Mem) (c : CL) (ca : Option Addr) (ck : Nat) (hC : CallOk M c ca ck) (w : Wy) (na : Option Addr) (nc : Nat) (hW : WyOk M w na nc) (o : Wy) (oa : Option Addr) (oc : Nat) (hO : WyOk M o oa oc) (id : Int) (hw : fileS S.abs w = .ok id) (d : Int) (hfr : freshS S.abs o w.1 none = .ok d) (v : CV) (x xd : CF) (hv : getA w.1 S.vols = some v) (hx : getA id v.files = some x) (hxd : getA d v.files = some xd) (hf : frozenS S.abs w.1 = false) :
    SpecL Tryz.prog 57 #[pt S.b, clV c ca ck, wyV w na nc, wyV o oa oc] M S.own fun u M' L' => OpP S.b (linkS S.abs w o) u M' L' := by
  refine SpecL.mem fun hnd hdis => ?_
  have hVa := addL_in (M := M) hnd
  have hMa := addL_le hdis
  have hVw : ∀ L, SubL S.own L → Vw M L S.own := fun L h => Vw.of
  obtain ⟨hone, ho1, hop, v2, xd2, hv2, hxd2, hdd, hno, hlen⟩ := freshS_ok hwf hfr
  rw [ho1, hv] at hv2; cases hv2; rw [hxd] at hxd2; cases hxd2
  obtain ⟨v3, x3, hv3, hx3, hwv, hxnd⟩ := fileS_ok hwf hw
  rw [hv] at hv3; cases hv3; rw [hx] at hx3; cases hx3
  have hxa : getA id (absF v.files) = some x.pf := by rw [absF_get, hx]; rfl
  have hbnd := hwv.rng id x.pf hxa
  obtain ⟨nmb, nmo, e1, e2, e3⟩ := ((hS.v hv).x hxd).map hdd
  have hne : id ≠ d := fun e => by rw [e, hxd] at hx; cases hx; rw [hdd] at hxnd; cases hxnd
  refine spec_body (vs := [_, _, _, _]) 59 _ Tryz.func57 rfl Tryz.ntmps57 rfl rfl ?_; intro W
  refine jc_seq ?_
  refine jc_region ?_
  refine jl_h rfl rfl (hBox (cs := [_, _, _, _, _, _, _]) rfl rfl rfl rfl) ?_; rintro _ _ _ ⟨b5, rfl, rfl, rfl⟩
  refine jl_h rfl rfl (hBox (cs := [_, _]) rfl rfl rfl rfl) ?_; rintro _ _ _ ⟨b6, rfl, rfl, rfl⟩
  refine jl_h rfl rfl (hBox (cs := [_, _]) rfl rfl rfl rfl) ?_; rintro _ _ _ ⟨b7, rfl, rfl, rfl⟩
  refine jl_h rfl rfl (hAlloc rfl rfl) ?_; rintro _ _ _ ⟨b8, rfl, rfl, rfl⟩
  refine jl_nil ?_
  refine jT ?_
  refine jc_seq ?_
  refine jc_region ?_
  refine jp rfl ?_
  refine jl_q rfl rfl (qLdL rfl rfl rfl rfl rfl (by first | (simp only [Nat.reduceAdd, Nat.zero_add, Nat.add_zero, List.drop_succ_cons, List.drop_zero, List.drop_nil, List.take_succ_cons, List.take_zero, List.take_nil, List.cons_append, List.nil_append, List.append_nil, List.length_cons, List.length_nil]; try rfl) | rfl)) ?_
  refine jl_q rfl rfl (qEq (v' := .tuple #[.int .u32 id, pt x.b, .int .i64 0]) (qCallM (R := S.own) rfl rfl rfl rfl rfl (by kernel_rfl) (SubL.sub) (file_spec S hS n hwf (addL M S.own) hVa w na nc (hW.mono hMa))) (by rw [hw]; exact walkV_at hv hx)) ?_
  iterate 7 refine jp rfl ?_
  refine jl_nil ?_
  refine jT ?_
  refine jc_seq ?_
  refine jc_seq ?_
  refine jc_region ?_
  refine jp rfl ?_
  refine jf rfl (decide_eq_false (by omega)) ?_
  refine jl_nil ?_
  refine jT ?_
  refine jc_no rfl ?_
  refine jc_skip ?_
  refine jT ?_
  refine jc_seq ?_
  refine jc_region ?_
  refine jp rfl ?_
  refine jl_q rfl rfl (qLdL rfl rfl rfl rfl rfl (by first | (simp only [Nat.reduceAdd, Nat.zero_add, Nat.add_zero, List.drop_succ_cons, List.drop_zero, List.drop_nil, List.take_succ_cons, List.take_zero, List.take_nil, List.cons_append, List.nil_append, List.append_nil, List.length_cons, List.length_nil]; try rfl) | rfl)) ?_
  refine jl_q rfl rfl (qFieldAddr rfl rfl rfl rfl rfl) ?_
  refine jl_q rfl rfl (qLd rfl rfl rfl rfl (CJ.loc rfl)) ?_
  refine jl_q rfl rfl (qEq (v' := .tuple #[.int .u32 d, pt xd.b, .int .i64 0]) (qCallM (R := S.own) rfl rfl rfl rfl rfl (by kernel_rfl) (SubL.sub) (fresh_spec S hS n hwf (addL M S.own) hVa o oa oc (hO.mono hMa) w.1 none (.pointer none) hnd (fun _ => .inl ⟨rfl, rfl⟩))) (by rw [hfr, ho1]; exact walkV_at hv hxd)) ?_
  iterate 7 refine jp rfl ?_
  refine jl_nil ?_
  refine jT ?_
  refine jc_seq ?_
  refine jc_seq ?_
  refine jc_region ?_
  refine jp rfl ?_
  refine jt rfl (decide_eq_true (by omega)) ?_
  refine jl_nil ?_
  refine jT ?_
  refine jc_yes rfl ?_
  refine jc_region ?_
  refine jp rfl ?_
  refine jl_q rfl rfl (qFieldAddr rfl rfl rfl rfl rfl) ?_
  refine jl_q rfl rfl (qLd rfl rfl rfl rfl (CJ.loc rfl)) ?_
  refine jl_q rfl rfl (qEq (v' := .int .i64 0) (qCallM (R := S.own) rfl rfl rfl rfl rfl (by kernel_rfl) (SubL.sub) (turns_spec S hS n hwf (addL M S.own) hVa w.1 v hv)) (by rw [hf]; rfl)) ?_
  refine jp rfl ?_
  refine jl_nil ?_
  refine jT ?_
  refine jc_seq ?_
  refine jc_seq ?_
  refine jc_region ?_
  refine jp rfl ?_
  refine jf rfl (decide_eq_false (by omega)) ?_
  refine jl_nil ?_
  refine jT ?_
  refine jc_no rfl ?_
  refine jc_skip ?_
  refine jT ?_
  refine jc_seq ?_
  refine jc_drawP (p := { A := fun i => !([7].contains i), U := fun i => !([7].contains i) }) [(0, true), (1, true), (2, true), (3, true), (4, true), (5, true), (6, true), (7, false)] _ (((b8, _) :: (b7, _) :: (b6, _) :: (b5, _) :: S.own)) ([]) (by kernel_rfl) (by kernel_rfl) (by kernel_rfl) (by kernel_rfl) rfl (fun _ h => h) (MLe.refl _) (by simp) ?_
  refine dp rfl rfl ?_
  refine jd_q rfl rfl rfl (qNilCheck rfl rfl rfl) ?_
  refine jd_q rfl rfl rfl (qFieldAddr rfl rfl rfl rfl rfl) ?_
  refine jd_q rfl rfl rfl (qEq (qLd rfl rfl rfl rfl ((Vw.x (Vw.file (Vw.vol Vw.of hv) hxd)).cj rfl)) e1) ?_
  refine jd_q rfl rfl rfl (qLdL rfl rfl rfl rfl rfl (by first | (simp only [Nat.reduceAdd, Nat.zero_add, Nat.add_zero, List.drop_succ_cons, List.drop_zero, List.drop_nil, List.take_succ_cons, List.take_zero, List.take_nil, List.cons_append, List.nil_append, List.append_nil, List.length_cons, List.length_nil]; try rfl) | rfl)) ?_
  refine jd_q rfl rfl rfl (qCall rfl rfl rfl rfl rfl (by kernel_rfl) (last_walk o oa oc M hO.sn hone hO.big)) ?_
  refine dp rfl rfl ?_
  refine jd_e rfl rfl (hNmPut rfl (.inl rfl) rfl rfl rfl hv hxd ((hS.v hv).x hxd) hdd e1 e2 e3) ?_; rintro _ _ _ ⟨rfl, x2, hok2, hb2, hpf2, hnm2, rfl⟩
  refine ⟨MLe.refl _, by simp, ?_⟩
  have hv2 := setX_getV (id := d) (x' := x2) hv
  have hx2 : getA id (v.setX d x2).files = some x := by rw [setX_other hne]; exact hx
  refine je_nil ?_
  refine jPn ?_
  refine jT ?_
  refine jc_seq ?_
  refine jc_region ?_
  refine jp rfl ?_
  refine jl_q rfl rfl (qNilCheck rfl rfl rfl) ?_
  refine jl_q rfl rfl (qFieldAddr rfl rfl rfl rfl rfl) ?_
  refine jl_q rfl rfl (qLd rfl rfl rfl rfl ((Vw.x (Vw.file (Vw.vol Vw.of hv2) hx2)).cj rfl)) ?_
  refine ja rfl (by omega) ?_
  refine jl_q rfl rfl (qNilCheck rfl rfl rfl) ?_
  refine jl_q rfl rfl (qFieldAddr rfl rfl rfl rfl rfl) ?_
  refine jl_s rfl (hStX { x with pf := { x.pf with links := x.pf.links + 1 } } rfl rfl rfl rfl rfl rfl (by omega) hv2 hx2 rfl rfl rfl rfl) ?_; rintro _ _ _ ⟨rfl, rfl⟩
  refine jl_nil ?_
  refine jT ?_
  refine jc_seq ?_
  refine jc_region ?_
  refine jl_q rfl rfl (qBuild (cs := [_, _, _, _, _, _, _, _]) rfl rfl rfl (by rfl)) ?_
  refine jl_s rfl (hStoreL rfl rfl rfl rfl rfl rfl rfl rfl (by first | (simp only [Nat.reduceAdd, Nat.zero_add, Nat.add_zero, List.drop_succ_cons, List.drop_zero, List.drop_nil, List.take_succ_cons, List.take_zero, List.take_nil, List.cons_append, List.nil_append, List.append_nil, List.length_cons, List.length_nil]; try rfl) | rfl)) ?_; rintro _ _ _ ⟨rfl, rfl⟩
  refine jl_nil ?_
  refine jT ?_
  refine jc_ret ?_
  refine jrsd (rs := [_]) (((S.setX w.1 d x2).setX w.1 id { x with pf := { x.pf with links := x.pf.links + 1 } }).own) (by first | (rw [List.append_nil]; exact List.sublist_append_left _ _) | repeat (first | exact List.Sublist.refl _ | exact List.sublist_append_left _ _ | apply List.Sublist.cons)) rfl (.cons (.agg rfl rfl rfl) .nil) ?_
  have hr : linkS S.abs w o = (((S.setX w.1 d x2).setX w.1 id { x with pf := { x.pf with links := x.pf.links + 1 } }).abs, {}) := by
    unfold linkS; rw [hw]; simp only; rw [hfr]; simp only; rw [hf, abs_setX (f := fun x => { x with links := x.links + 1 }) hv2 hx2 rfl, abs_setX (f := fun x => { x with names := putA (lastN o) id x.names }) hv hxd hpf2, updVF_comp]; rfl
  rw [hr]; exact OpP.plain (r := (_, _)) ((hS.setX hv hxd hb2 hok2).setX (x' := { x with pf := { x.pf with links := x.pf.links + 1 } }) hv2 hx2 rfl ⟨((hS.v hv).x hx).byt, ((hS.v hv).x hx).nmo⟩) rfl rfl rfl rfl

theorem unlink_e1 (S : CS) (hS : S.Ok) (n : Nat) (hwf : WFS n S.abs) (hn : n ≤ 100) (M : Mem) (c : CL) (ca : Option Addr) (ck : Nat) (hC : CallOk M c ca ck) (w : Wy) (na : Option Addr) (nc : Nat) (hW : WyOk M w na nc) (o : Wy) (oa : Option Addr) (oc : Nat) (hO : WyOk M o oa oc) (e : Int) (hw : fileS S.abs w = .error e) :
    SpecL Tryz.prog 58 #[pt S.b, clV c ca ck, wyV w na nc, wyV o oa oc] M S.own fun u M' L' => OpP S.b (unlinkS S.abs w) u M' L' := by
  refine SpecL.mem fun hnd hdis => ?_
  have hVa := addL_in (M := M) hnd
  have hMa := addL_le hdis
  have hVw : ∀ L, SubL S.own L → Vw M L S.own := fun L h => Vw.of
  have he := fileS_err hwf hw
  refine spec_body (vs := [_, _, _, _]) 69 _ Tryz.func58 rfl Tryz.ntmps58 rfl rfl ?_; intro W
  refine jc_seq ?_
  refine jc_region ?_
  refine jl_h rfl rfl (hBox (cs := [_, _, _, _, _, _, _]) rfl rfl rfl rfl) ?_; rintro _ _ _ ⟨b5, rfl, rfl, rfl⟩
  refine jl_h rfl rfl (hBox (cs := [_, _]) rfl rfl rfl rfl) ?_; rintro _ _ _ ⟨b6, rfl, rfl, rfl⟩
  refine jl_h rfl rfl (hBox (cs := [_, _]) rfl rfl rfl rfl) ?_; rintro _ _ _ ⟨b7, rfl, rfl, rfl⟩
  refine jl_h rfl rfl (hAlloc rfl rfl) ?_; rintro _ _ _ ⟨b8, rfl, rfl, rfl⟩
  refine jl_nil ?_
  refine jT ?_
  refine jc_seq ?_
  refine jc_region ?_
  refine jp rfl ?_
  refine jl_q rfl rfl (qLdL rfl rfl rfl rfl rfl (by first | (simp only [Nat.reduceAdd, Nat.zero_add, Nat.add_zero, List.drop_succ_cons, List.drop_zero, List.drop_nil, List.take_succ_cons, List.take_zero, List.take_nil, List.cons_append, List.nil_append, List.append_nil, List.length_cons, List.length_nil]; try rfl) | rfl)) ?_
  refine jl_q rfl rfl (qEq (qCallM (R := S.own) rfl rfl rfl rfl rfl (by kernel_rfl) (SubL.sub) (file_spec S hS n hwf (addL M S.own) hVa w na nc (hW.mono hMa))) (by rw [hw]; try rfl)) ?_
  iterate 7 refine jp rfl ?_
  refine jl_nil ?_
  refine jT ?_
  refine jc_seq ?_
  refine jc_seq ?_
  refine jc_region ?_
  refine jp rfl ?_
  refine jf rfl (decide_eq_false (by omega)) ?_
  refine jl_nil ?_
  refine jT ?_
  refine jc_no rfl ?_
  refine jc_skip ?_
  refine jT ?_
  refine jc_seq ?_
  refine jc_seq ?_
  refine jc_region ?_
  refine jp rfl ?_
  refine jt rfl (decide_eq_true (by omega)) ?_
  refine jl_nil ?_
  refine jT ?_
  refine jc_yes rfl ?_
  refine jc_seq ?_
  refine jc_region ?_
  refine jp rfl ?_
  refine jl_q rfl rfl (qCall rfl rfl rfl rfl rfl (by kernel_rfl) (told_walk e M)) ?_
  refine jl_s rfl (hStoreL rfl rfl rfl rfl rfl rfl rfl rfl (by first | (simp only [Nat.reduceAdd, Nat.zero_add, Nat.add_zero, List.drop_succ_cons, List.drop_zero, List.drop_nil, List.take_succ_cons, List.take_zero, List.take_nil, List.cons_append, List.nil_append, List.append_nil, List.length_cons, List.length_nil]; try rfl) | rfl)) ?_; rintro _ _ _ ⟨rfl, rfl⟩
  refine jl_nil ?_
  refine jT ?_
  refine jc_ret ?_
  refine jTr ?_
  refine jrsd (rs := [_]) (S.own) (by first | (rw [List.append_nil]; exact List.sublist_append_left _ _) | repeat (first | exact List.Sublist.refl _ | exact List.sublist_append_left _ _ | apply List.Sublist.cons)) rfl (.cons (.agg rfl rfl rfl) .nil) ?_
  have hr : unlinkS S.abs w = (S.abs, told e) := by
    unfold unlinkS; rw [hw]
  rw [hr]; exact OpP.plain (r := (S.abs, _)) hS rfl rfl rfl rfl

theorem unlink_frz (S : CS) (hS : S.Ok) (n : Nat) (hwf : WFS n S.abs) (hn : n ≤ 100) (M : Mem) (c : CL) (ca : Option Addr) (ck : Nat) (hC : CallOk M c ca ck) (w : Wy) (na : Option Addr) (nc : Nat) (hW : WyOk M w na nc) (o : Wy) (oa : Option Addr) (oc : Nat) (hO : WyOk M o oa oc) (id : Int) (hw : fileS S.abs w = .ok id) (v : CV) (x : CF) (hv : getA w.1 S.vols = some v) (hx : getA id v.files = some x) (hf : frozenS S.abs w.1 = true) :
    SpecL Tryz.prog 58 #[pt S.b, clV c ca ck, wyV w na nc, wyV o oa oc] M S.own fun u M' L' => OpP S.b (unlinkS S.abs w) u M' L' := by
  refine SpecL.mem fun hnd hdis => ?_
  have hVa := addL_in (M := M) hnd
  have hMa := addL_le hdis
  have hVw : ∀ L, SubL S.own L → Vw M L S.own := fun L h => Vw.of
  refine spec_body (vs := [_, _, _, _]) 69 _ Tryz.func58 rfl Tryz.ntmps58 rfl rfl ?_; intro W
  refine jc_seq ?_
  refine jc_region ?_
  refine jl_h rfl rfl (hBox (cs := [_, _, _, _, _, _, _]) rfl rfl rfl rfl) ?_; rintro _ _ _ ⟨b5, rfl, rfl, rfl⟩
  refine jl_h rfl rfl (hBox (cs := [_, _]) rfl rfl rfl rfl) ?_; rintro _ _ _ ⟨b6, rfl, rfl, rfl⟩
  refine jl_h rfl rfl (hBox (cs := [_, _]) rfl rfl rfl rfl) ?_; rintro _ _ _ ⟨b7, rfl, rfl, rfl⟩
  refine jl_h rfl rfl (hAlloc rfl rfl) ?_; rintro _ _ _ ⟨b8, rfl, rfl, rfl⟩
  refine jl_nil ?_
  refine jT ?_
  refine jc_seq ?_
  refine jc_region ?_
  refine jp rfl ?_
  refine jl_q rfl rfl (qLdL rfl rfl rfl rfl rfl (by first | (simp only [Nat.reduceAdd, Nat.zero_add, Nat.add_zero, List.drop_succ_cons, List.drop_zero, List.drop_nil, List.take_succ_cons, List.take_zero, List.take_nil, List.cons_append, List.nil_append, List.append_nil, List.length_cons, List.length_nil]; try rfl) | rfl)) ?_
  refine jl_q rfl rfl (qEq (v' := .tuple #[.int .u32 id, pt x.b, .int .i64 0]) (qCallM (R := S.own) rfl rfl rfl rfl rfl (by kernel_rfl) (SubL.sub) (file_spec S hS n hwf (addL M S.own) hVa w na nc (hW.mono hMa))) (by rw [hw]; exact walkV_at hv hx)) ?_
  iterate 7 refine jp rfl ?_
  refine jl_nil ?_
  refine jT ?_
  refine jc_seq ?_
  refine jc_seq ?_
  refine jc_region ?_
  refine jp rfl ?_
  refine jt rfl (decide_eq_true (by omega)) ?_
  refine jl_nil ?_
  refine jT ?_
  refine jc_yes rfl ?_
  refine jc_region ?_
  refine jp rfl ?_
  refine jl_q rfl rfl (qFieldAddr rfl rfl rfl rfl rfl) ?_
  refine jl_q rfl rfl (qLd rfl rfl rfl rfl (CJ.loc rfl)) ?_
  refine jl_q rfl rfl (qEq (v' := .int .i64 170) (qCallM (R := S.own) rfl rfl rfl rfl rfl (by kernel_rfl) (SubL.sub) (turns_spec S hS n hwf (addL M S.own) hVa w.1 v hv)) (by rw [hf]; rfl)) ?_
  refine jp rfl ?_
  refine jl_nil ?_
  refine jT ?_
  refine jc_seq ?_
  refine jc_seq ?_
  refine jc_region ?_
  refine jp rfl ?_
  refine jt rfl (decide_eq_true (by omega)) ?_
  refine jl_nil ?_
  refine jT ?_
  refine jc_yes rfl ?_
  refine jc_seq ?_
  refine jc_region ?_
  refine jp rfl ?_
  refine jl_q rfl rfl (qCall rfl rfl rfl rfl rfl (by kernel_rfl) (told_walk 170 M)) ?_
  refine jl_s rfl (hStoreL rfl rfl rfl rfl rfl rfl rfl rfl (by first | (simp only [Nat.reduceAdd, Nat.zero_add, Nat.add_zero, List.drop_succ_cons, List.drop_zero, List.drop_nil, List.take_succ_cons, List.take_zero, List.take_nil, List.cons_append, List.nil_append, List.append_nil, List.length_cons, List.length_nil]; try rfl) | rfl)) ?_; rintro _ _ _ ⟨rfl, rfl⟩
  refine jl_nil ?_
  refine jT ?_
  refine jc_ret ?_
  refine jTr ?_
  refine jrsd (rs := [_]) (S.own) (by first | (rw [List.append_nil]; exact List.sublist_append_left _ _) | repeat (first | exact List.Sublist.refl _ | exact List.sublist_append_left _ _ | apply List.Sublist.cons)) rfl (.cons (.agg rfl rfl rfl) .nil) ?_
  have hr : unlinkS S.abs w = (S.abs, told 170) := by
    unfold unlinkS; rw [hw]; simp only; rw [hf]; rfl
  rw [hr]; exact OpP.plain (r := (S.abs, _)) hS rfl rfl rfl rfl

theorem unlink_ok (S : CS) (hS : S.Ok) (n : Nat) (hwf : WFS n S.abs) (hn : n ≤ 100) (M : Mem) (c : CL) (ca : Option Addr) (ck : Nat) (hC : CallOk M c ca ck) (w : Wy) (na : Option Addr) (nc : Nat) (hW : WyOk M w na nc) (o : Wy) (oa : Option Addr) (oc : Nat) (hO : WyOk M o oa oc) (id : Int) (hw : fileS S.abs w = .ok id) (v : CV) (x : CF) (hv : getA w.1 S.vols = some v) (hx : getA id v.files = some x) (hf : frozenS S.abs w.1 = false) :
    SpecL Tryz.prog 58 #[pt S.b, clV c ca ck, wyV w na nc, wyV o oa oc] M S.own fun u M' L' => OpP S.b (unlinkS S.abs w) u M' L' := by
  refine SpecL.mem fun hnd hdis => ?_
  have hVa := addL_in (M := M) hnd
  have hMa := addL_le hdis
  have hVw : ∀ L, SubL S.own L → Vw M L S.own := fun L h => Vw.of
  obtain ⟨hne, d, v2, xd, hpl, hv2, hxd, hdd, hgs⟩ := file_place hwf hw
  rw [hv] at hv2; cases hv2
  obtain ⟨v3, x3, hv3, hx3, hwv, hxnd⟩ := fileS_ok hwf hw
  rw [hv] at hv3; cases hv3; rw [hx] at hx3; cases hx3
  have hxa : getA id (absF v.files) = some x.pf := by rw [absF_get, hx]; rfl
  have hbnd := hwv.rng id x.pf hxa
  obtain ⟨nmb, nmo, e1, e2, e3⟩ := ((hS.v hv).x hxd).map hdd
  have hned : id ≠ d := fun e => by rw [e, hxd] at hx; cases hx; rw [hdd] at hxnd; cases hxnd
  have hla : ∀ x2 : CF, x2.pf = { xd.pf with names := delA (lastN w) xd.pf.names } → linksAt (nmDel (absF v.files) d (lastN w)) id = x.pf.links := fun _ _ => by unfold linksAt nmDel; rw [getA_upd, if_neg hned, hxa]
  refine spec_body (vs := [_, _, _, _]) 69 _ Tryz.func58 rfl Tryz.ntmps58 rfl rfl ?_; intro W
  refine jc_seq ?_
  refine jc_region ?_
  refine jl_h rfl rfl (hBox (cs := [_, _, _, _, _, _, _]) rfl rfl rfl rfl) ?_; rintro _ _ _ ⟨b5, rfl, rfl, rfl⟩
  refine jl_h rfl rfl (hBox (cs := [_, _]) rfl rfl rfl rfl) ?_; rintro _ _ _ ⟨b6, rfl, rfl, rfl⟩
  refine jl_h rfl rfl (hBox (cs := [_, _]) rfl rfl rfl rfl) ?_; rintro _ _ _ ⟨b7, rfl, rfl, rfl⟩
  refine jl_h rfl rfl (hAlloc rfl rfl) ?_; rintro _ _ _ ⟨b8, rfl, rfl, rfl⟩
  refine jl_nil ?_
  refine jT ?_
  refine jc_seq ?_
  refine jc_region ?_
  refine jp rfl ?_
  refine jl_q rfl rfl (qLdL rfl rfl rfl rfl rfl (by first | (simp only [Nat.reduceAdd, Nat.zero_add, Nat.add_zero, List.drop_succ_cons, List.drop_zero, List.drop_nil, List.take_succ_cons, List.take_zero, List.take_nil, List.cons_append, List.nil_append, List.append_nil, List.length_cons, List.length_nil]; try rfl) | rfl)) ?_
  refine jl_q rfl rfl (qEq (v' := .tuple #[.int .u32 id, pt x.b, .int .i64 0]) (qCallM (R := S.own) rfl rfl rfl rfl rfl (by kernel_rfl) (SubL.sub) (file_spec S hS n hwf (addL M S.own) hVa w na nc (hW.mono hMa))) (by rw [hw]; exact walkV_at hv hx)) ?_
  iterate 7 refine jp rfl ?_
  refine jl_nil ?_
  refine jT ?_
  refine jc_seq ?_
  refine jc_seq ?_
  refine jc_region ?_
  refine jp rfl ?_
  refine jt rfl (decide_eq_true (by omega)) ?_
  refine jl_nil ?_
  refine jT ?_
  refine jc_yes rfl ?_
  refine jc_region ?_
  refine jp rfl ?_
  refine jl_q rfl rfl (qFieldAddr rfl rfl rfl rfl rfl) ?_
  refine jl_q rfl rfl (qLd rfl rfl rfl rfl (CJ.loc rfl)) ?_
  refine jl_q rfl rfl (qEq (v' := .int .i64 0) (qCallM (R := S.own) rfl rfl rfl rfl rfl (by kernel_rfl) (SubL.sub) (turns_spec S hS n hwf (addL M S.own) hVa w.1 v hv)) (by rw [hf]; rfl)) ?_
  refine jp rfl ?_
  refine jl_nil ?_
  refine jT ?_
  refine jc_seq ?_
  refine jc_seq ?_
  refine jc_region ?_
  refine jp rfl ?_
  refine jf rfl (decide_eq_false (by omega)) ?_
  refine jl_nil ?_
  refine jT ?_
  refine jc_no rfl ?_
  refine jc_skip ?_
  refine jT ?_
  refine jc_seq ?_
  refine jc_region ?_
  refine jp rfl ?_
  refine jl_q rfl rfl (qLdL rfl rfl rfl rfl rfl (by first | (simp only [Nat.reduceAdd, Nat.zero_add, Nat.add_zero, List.drop_succ_cons, List.drop_zero, List.drop_nil, List.take_succ_cons, List.take_zero, List.take_nil, List.cons_append, List.nil_append, List.append_nil, List.length_cons, List.length_nil]; try rfl) | rfl)) ?_
  refine jl_q rfl rfl (qEq (v' := .tuple #[.int .u32 d, pt xd.b, .int .i64 0]) (qCallM (R := S.own) rfl rfl rfl rfl rfl (by kernel_rfl) (SubL.sub) (place_spec S hS n hwf (addL M S.own) hVa w na nc (hW.mono hMa) hne)) (by rw [hpl]; exact walkV_at hv hxd)) ?_
  iterate 7 refine jp rfl ?_
  refine jl_nil ?_
  refine jT ?_
  refine jc_seq ?_
  refine jc_drawP (p := { A := fun i => !([6].contains i), U := fun i => !([6].contains i) }) [(0, true), (1, true), (2, true), (3, true), (4, true), (5, true), (6, false)] _ (((b8, _) :: (b7, _) :: (b6, _) :: (b5, _) :: S.own)) ([]) (by kernel_rfl) (by kernel_rfl) (by kernel_rfl) (by kernel_rfl) rfl (fun _ h => h) (MLe.refl _) (by simp) ?_
  refine dp rfl rfl ?_
  refine jd_q rfl rfl rfl (qNilCheck rfl rfl rfl) ?_
  refine jd_q rfl rfl rfl (qFieldAddr rfl rfl rfl rfl rfl) ?_
  refine jd_q rfl rfl rfl (qEq (qLd rfl rfl rfl rfl ((Vw.x (Vw.file (Vw.vol Vw.of hv) hxd)).cj rfl)) e1) ?_
  refine jd_q rfl rfl rfl (qLdL rfl rfl rfl rfl rfl (by first | (simp only [Nat.reduceAdd, Nat.zero_add, Nat.add_zero, List.drop_succ_cons, List.drop_zero, List.drop_nil, List.take_succ_cons, List.take_zero, List.take_nil, List.cons_append, List.nil_append, List.append_nil, List.length_cons, List.length_nil]; try rfl) | rfl)) ?_
  refine jd_q rfl rfl rfl (qCall rfl rfl rfl rfl rfl (by kernel_rfl) (last_walk w na nc M hW.sn hne hW.big)) ?_
  refine jd_e rfl rfl (hNmDel rfl rfl rfl rfl hv hxd ((hS.v hv).x hxd) hdd e1 e2 e3) ?_; rintro _ _ _ ⟨rfl, x2, hok2, hb2, hpf2, hnm2, rfl⟩
  refine ⟨MLe.refl _, by simp, ?_⟩
  have hv2 := setX_getV (id := d) (x' := x2) hv
  have hx2 : getA id (v.setX d x2).files = some x := by rw [setX_other hned]; exact hx
  have hS2 := hS.setX hv hxd hb2 hok2
  refine je_nil ?_
  refine jPn ?_
  refine jT ?_
  refine jc_seq ?_
  refine jc_region ?_
  refine jp rfl ?_
  refine jl_q rfl rfl (qNilCheck rfl rfl rfl) ?_
  refine jl_q rfl rfl (qFieldAddr rfl rfl rfl rfl rfl) ?_
  refine jl_q rfl rfl (qLd rfl rfl rfl rfl ((Vw.x (Vw.file (Vw.vol Vw.of hv2) hx2)).cj rfl)) ?_
  refine ja rfl (by omega) ?_
  refine jl_q rfl rfl (qNilCheck rfl rfl rfl) ?_
  refine jl_q rfl rfl (qFieldAddr rfl rfl rfl rfl rfl) ?_
  refine jl_s rfl (hStX { x with pf := { x.pf with links := x.pf.links - 1 } } rfl rfl rfl rfl rfl rfl (by omega) hv2 hx2 rfl rfl rfl rfl) ?_; rintro _ _ _ ⟨rfl, rfl⟩
  have hv3 := setX_getV (id := id) (x' := { x with pf := { x.pf with links := x.pf.links - 1 } }) hv2
  have hx3 := setX_get (v := v.setX d x2) (id := id) (x' := { x with pf := { x.pf with links := x.pf.links - 1 } })
  have hS3 := hS2.setX (x' := { x with pf := { x.pf with links := x.pf.links - 1 } }) hv2 hx2 rfl ⟨((hS.v hv).x hx).byt, ((hS.v hv).x hx).nmo⟩
  refine jl_nil ?_
  refine jT ?_
  refine jc_seq ?_
  refine jc_seq ?_
  refine jc_region ?_
  refine jp rfl ?_
  refine jl_q rfl rfl (qNilCheck rfl rfl rfl) ?_
  refine jl_q rfl rfl (qFieldAddr rfl rfl rfl rfl rfl) ?_
  refine jl_q rfl rfl (qLd rfl rfl rfl rfl ((Vw.x (Vw.file (Vw.vol Vw.of hv3) hx3)).cj rfl)) ?_
  refine js rfl (fun h56 => ?_) (fun h56 => ?_)
  · refine jl_nil ?_
    refine jT ?_
    refine jc_yes rfl ?_
    refine jc_drawP (p := { A := fun i => !([11].contains i), U := fun i => !([11].contains i) }) [(0, true), (1, true), (2, true), (3, true), (4, true), (5, true), (6, true), (7, true), (8, true), (9, true), (10, true), (11, false)] _ ((((S.setX w.1 d x2).setX w.1 id { x with pf := { x.pf with links := x.pf.links - 1 } }).own ++ [(b8, _), (b7, _), (b6, _), (b5, _)])) ([]) (by kernel_rfl) (by kernel_rfl) (by kernel_rfl) (by kernel_rfl) rfl (fun _ h => h) (MLe.refl _) (by simp) ?_
    refine dp rfl rfl ?_
    refine jd_q rfl rfl rfl (qNilCheck rfl rfl rfl) ?_
    refine jd_q rfl rfl rfl (qFieldAddr rfl rfl rfl rfl rfl) ?_
    refine jd_q rfl rfl rfl (qLd rfl rfl rfl rfl ((Vw.sAt (S := ((S.setX w.1 d x2).setX w.1 id { x with pf := { x.pf with links := x.pf.links - 1 } })) Vw.of (by rw [setX_b, setX_b]) (by rw [setX_mb, setX_mb])).cj rfl)) ?_
    refine jd_q rfl rfl rfl (qFieldAddr rfl rfl rfl rfl rfl) ?_
    refine jd_q rfl rfl rfl (qLd rfl rfl rfl rfl (CJ.loc rfl)) ?_
    refine jd_q rfl rfl rfl (qEq (v' := pt v.b) (qLookupO kI (z := .pointer none) rfl rfl rfl rfl (by kernel_rfl) (Vw.moAt (S := ((S.setX w.1 d x2).setX w.1 id { x with pf := { x.pf with links := x.pf.links - 1 } })) Vw.of (by rw [setX_mb, setX_mb])) hS3.mo) (by rw [ptV_get, hv3]; rfl)) ?_
    refine jd_q rfl rfl rfl (qNilCheck rfl rfl rfl) ?_
    refine jd_q rfl rfl rfl (qFieldAddr rfl rfl rfl rfl rfl) ?_
    refine jd_q rfl rfl rfl (qLd rfl rfl rfl rfl ((Vw.v (Vw.vol Vw.of hv3)).cj rfl)) ?_
    refine dp rfl rfl ?_
    refine jd_e rfl rfl (hFileDel (v := (v.setX d x2).setX id { x with pf := { x.pf with links := x.pf.links - 1 } }) rfl rfl rfl rfl hv3 (hS3.v hv3)) ?_; rintro _ _ _ ⟨rfl, mo4, hmo4, rfl⟩
    refine ⟨MLe.refl _, by simp, ?_⟩
    refine je_nil ?_
    refine jPn ?_
    refine jT ?_
    refine jc_seq ?_
    refine jc_region ?_
    refine jl_q rfl rfl (qBuild (cs := [_, _, _, _, _, _, _, _]) rfl rfl rfl (by rfl)) ?_
    refine jl_s rfl (hStoreL rfl rfl rfl rfl rfl rfl rfl rfl (by first | (simp only [Nat.reduceAdd, Nat.zero_add, Nat.add_zero, List.drop_succ_cons, List.drop_zero, List.drop_nil, List.take_succ_cons, List.take_zero, List.take_nil, List.cons_append, List.nil_append, List.append_nil, List.length_cons, List.length_nil]; try rfl) | rfl)) ?_; rintro _ _ _ ⟨rfl, rfl⟩
    refine jl_nil ?_
    refine jT ?_
    refine jc_ret ?_
    refine jrsd (rs := [_]) ((((S.setX w.1 d x2).setX w.1 id { x with pf := { x.pf with links := x.pf.links - 1 } }).setV w.1 { ((v.setX d x2).setX id { x with pf := { x.pf with links := x.pf.links - 1 } }) with mo := mo4, files := delA id ((v.setX d x2).setX id { x with pf := { x.pf with links := x.pf.links - 1 } }).files }).own) (by first | (rw [List.append_nil]; exact List.sublist_append_left _ _) | repeat (first | exact List.Sublist.refl _ | exact List.sublist_append_left _ _ | apply List.Sublist.cons)) rfl (.cons (.agg rfl rfl rfl) .nil) ?_
    have hr : unlinkS S.abs w = ((((S.setX w.1 d x2).setX w.1 id { x with pf := { x.pf with links := x.pf.links - 1 } }).setV w.1 { ((v.setX d x2).setX id { x with pf := { x.pf with links := x.pf.links - 1 } }) with mo := mo4, files := delA id ((v.setX d x2).setX id { x with pf := { x.pf with links := x.pf.links - 1 } }).files }).abs, {}) := by
      rw [abs_fileDel hv3, abs_setX (f := fun x => { x with links := x.links + -1 }) hv2 hx2 rfl, abs_setX (f := fun x => { x with names := delA (lastN w) x.names }) hv hxd hpf2, updVF_comp, updVF_comp]
      unfold unlinkS; rw [hw]; simp only; rw [hf]; simp only [Bool.false_eq_true, if_false]; rw [hpl]; simp only; congr 1
      unfold updVF updV; rw [absV_get, hv]; simp only [Option.map_some]; congr 3
      unfold dropLink; rw [show linksAt (nmDel v.abs.files d (lastN w)) id = x.pf.links from hla x2 hpf2, if_pos h56]; rfl
    rw [hr]; exact OpP.plain (r := (_, _)) (hS3.fileDel hv3 hmo4) rfl rfl rfl rfl
  · refine jl_nil ?_
    refine jT ?_
    refine jc_no rfl ?_
    refine jc_skip ?_
    refine jT ?_
    refine jc_seq ?_
    refine jc_region ?_
    refine jl_q rfl rfl (qBuild (cs := [_, _, _, _, _, _, _, _]) rfl rfl rfl (by rfl)) ?_
    refine jl_s rfl (hStoreL rfl rfl rfl rfl rfl rfl rfl rfl (by first | (simp only [Nat.reduceAdd, Nat.zero_add, Nat.add_zero, List.drop_succ_cons, List.drop_zero, List.drop_nil, List.take_succ_cons, List.take_zero, List.take_nil, List.cons_append, List.nil_append, List.append_nil, List.length_cons, List.length_nil]; try rfl) | rfl)) ?_; rintro _ _ _ ⟨rfl, rfl⟩
    refine jl_nil ?_
    refine jT ?_
    refine jc_ret ?_
    refine jrsd (rs := [_]) (((S.setX w.1 d x2).setX w.1 id { x with pf := { x.pf with links := x.pf.links - 1 } }).own) (by first | (rw [List.append_nil]; exact List.sublist_append_left _ _) | repeat (first | exact List.Sublist.refl _ | exact List.sublist_append_left _ _ | apply List.Sublist.cons)) rfl (.cons (.agg rfl rfl rfl) .nil) ?_
    have hr : unlinkS S.abs w = (((S.setX w.1 d x2).setX w.1 id { x with pf := { x.pf with links := x.pf.links - 1 } }).abs, {}) := by
      unfold unlinkS; rw [hw]; simp only; rw [hf]; simp only [Bool.false_eq_true, if_false]; rw [hpl]; simp only; rw [abs_setX (f := fun x => { x with links := x.links + -1 }) hv2 hx2 rfl, abs_setX (f := fun x => { x with names := delA (lastN w) x.names }) hv hxd hpf2, updVF_comp]; congr 1
      unfold updVF updV; rw [absV_get, hv]; simp only [Option.map_some]; congr 3
      unfold dropLink; rw [show linksAt (nmDel v.abs.files d (lastN w)) id = x.pf.links from hla x2 hpf2, if_neg h56]; rfl
    rw [hr]; exact OpP.plain (r := (_, _)) hS3 rfl rfl rfl rfl


end Go.Proofs.YtdjaehgadehnfaaGreatDoor
