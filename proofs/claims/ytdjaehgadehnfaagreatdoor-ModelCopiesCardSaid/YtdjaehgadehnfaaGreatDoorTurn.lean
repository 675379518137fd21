/- Walks: calls that read and turn bytes. -/
import Derived.Test.YtdjaehgadehnfaaGreatDoorBytes
namespace Go.Proofs.YtdjaehgadehnfaaGreatDoor
set_option linter.unusedVariables false
set_option linter.unusedSimpArgs false
open Go.RowKit Go.MapKept

theorem turn_no (S : CS) (hS : S.Ok) (n : Nat) (hwf : WFS n S.abs) (hn : n ≤ 100) (M : Mem) (w : Wy) (na : Option Addr) (nc : Nat) (hW : WyOk M w na nc) (f : List By → List By) (fid : FuncId) (caps : List Value) (ok : Bool) (hgo : isGo Tryz.prog fid = true) (hcl : ok = true → ∀ x : CF, x.Ok → x.pf.data.length ≤ 4096 → SpecL Tryz.prog fid (pt x.b :: caps).toArray M x.own fun _ _ L' => ClP x f L') (hok : ok = false) :
    SpecL Tryz.prog 91 #[pt S.b, wyV w na nc, .bool ok, .func (.func fid) #[] caps.toArray] M S.own fun u M' L' => OpP S.b (turnS S.abs w ok f) u M' L' := by
  refine SpecL.mem fun hnd hdis => ?_
  have hVa := addL_in (M := M) hnd
  have hMa := addL_le hdis
  have hVw : ∀ L, SubL S.own L → Vw M L S.own := fun L h => Vw.of
  subst hok
  refine spec_body (vs := [_, _, _, _]) 36 _ Tryz.func91 rfl Tryz.ntmps91 rfl rfl ?_; intro W
  refine jc_seq ?_
  refine jc_region ?_
  refine jl_h rfl rfl (hBox (cs := [_, _]) rfl rfl rfl rfl) ?_; rintro _ _ _ ⟨b6, rfl, rfl, rfl⟩
  refine jl_h rfl rfl (hAlloc rfl rfl) ?_; rintro _ _ _ ⟨b8, rfl, rfl, rfl⟩
  refine jl_nil ?_
  refine jT ?_
  refine jc_seq ?_
  refine jc_seq ?_
  refine jc_region ?_
  iterate 2 refine jp rfl ?_
  refine jl_nil ?_
  refine jT ?_
  refine jc_if rfl (fun h13 => ?_) (fun h13 => ?_)
  · refine jc_seq ?_
    refine jc_region ?_
    refine jl_q rfl rfl (qCall rfl rfl rfl rfl rfl (by kernel_rfl) (told_walk 2 M)) ?_
    refine jl_s rfl (hStoreL rfl rfl rfl rfl rfl rfl rfl rfl (by first | (simp only [Nat.reduceAdd, Nat.zero_add, Nat.add_zero, List.drop_succ_cons, List.drop_zero, List.drop_nil, List.take_succ_cons, List.take_zero, List.take_nil, List.cons_append, List.nil_append, List.append_nil, List.length_cons, List.length_nil]; try rfl) | rfl)) ?_; rintro _ _ _ ⟨rfl, rfl⟩
    refine jl_nil ?_
    refine jT ?_
    refine jc_ret ?_
    refine jTr ?_
    refine jrsd (rs := [_]) (S.own) (by repeat (first | exact List.Sublist.refl _ | exact List.sublist_append_left _ _ | apply List.Sublist.cons)) rfl (.cons (.agg rfl rfl rfl) .nil) ?_
    have hr : turnS S.abs w false f = (S.abs, told 2) := by
      unfold turnS; rfl
    rw [hr]; exact OpP.plain (r := (S.abs, _)) hS rfl rfl rfl rfl
  · refine jc_skip ?_
    refine jT ?_
    refine jc_seq ?_
    refine jc_region ?_
    cases h13

theorem turn_e (S : CS) (hS : S.Ok) (n : Nat) (hwf : WFS n S.abs) (hn : n ≤ 100) (M : Mem) (w : Wy) (na : Option Addr) (nc : Nat) (hW : WyOk M w na nc) (f : List By → List By) (fid : FuncId) (caps : List Value) (ok : Bool) (hgo : isGo Tryz.prog fid = true) (hcl : ok = true → ∀ x : CF, x.Ok → x.pf.data.length ≤ 4096 → SpecL Tryz.prog fid (pt x.b :: caps).toArray M x.own fun _ _ L' => ClP x f L') (hok : ok = true) (e : Int) (hw : fileS S.abs w = .error e) :
    SpecL Tryz.prog 91 #[pt S.b, wyV w na nc, .bool ok, .func (.func fid) #[] caps.toArray] M S.own fun u M' L' => OpP S.b (turnS S.abs w ok f) u M' L' := by
  refine SpecL.mem fun hnd hdis => ?_
  have hVa := addL_in (M := M) hnd
  have hMa := addL_le hdis
  have hVw : ∀ L, SubL S.own L → Vw M L S.own := fun L h => Vw.of
  subst hok
  have he := fileS_err hwf hw
  refine spec_body (vs := [_, _, _, _]) 36 _ Tryz.func91 rfl Tryz.ntmps91 rfl rfl ?_; intro W
  refine jc_seq ?_
  refine jc_region ?_
  refine jl_h rfl rfl (hBox (cs := [_, _]) rfl rfl rfl rfl) ?_; rintro _ _ _ ⟨b6, rfl, rfl, rfl⟩
  refine jl_h rfl rfl (hAlloc rfl rfl) ?_; rintro _ _ _ ⟨b8, rfl, rfl, rfl⟩
  refine jl_nil ?_
  refine jT ?_
  refine jc_seq ?_
  refine jc_seq ?_
  refine jc_region ?_
  iterate 2 refine jp rfl ?_
  refine jl_nil ?_
  refine jT ?_
  refine jc_if rfl (fun h13 => ?_) (fun h13 => ?_)
  · refine jc_seq ?_
    refine jc_region ?_
    cases h13
  · refine jc_skip ?_
    refine jT ?_
    refine jc_seq ?_
    refine jc_region ?_
    refine jp rfl ?_
    refine jl_q rfl rfl (qLdL rfl rfl rfl rfl rfl (by first | (simp only [Nat.reduceAdd, Nat.zero_add, Nat.add_zero, List.drop_succ_cons, List.drop_zero, List.drop_nil, List.take_succ_cons, List.take_zero, List.take_nil, List.cons_append, List.nil_append, List.append_nil, List.length_cons, List.length_nil]; try rfl) | rfl)) ?_
    refine jl_q rfl rfl (qEq (qCallM (R := S.own) rfl rfl rfl rfl rfl (by kernel_rfl) (SubL.sub) (file_spec S hS n hwf (addL M S.own) hVa w na nc (hW.mono hMa))) (by rw [hw]; try rfl)) ?_
    iterate 7 refine jp rfl ?_
    refine jl_nil ?_
    refine jT ?_
    refine jc_seq ?_
    refine jc_seq ?_
    refine jc_region ?_
    refine jp rfl ?_
    refine jf rfl (decide_eq_false (by omega)) ?_
    refine jl_nil ?_
    refine jT ?_
    refine jc_no rfl ?_
    refine jc_skip ?_
    refine jT ?_
    refine jc_seq ?_
    refine jc_seq ?_
    refine jc_region ?_
    refine jp rfl ?_
    refine jt rfl (decide_eq_true (by omega)) ?_
    refine jl_nil ?_
    refine jT ?_
    refine jc_yes rfl ?_
    refine jc_seq ?_
    refine jc_region ?_
    refine jp rfl ?_
    refine jl_q rfl rfl (qCall rfl rfl rfl rfl rfl (by kernel_rfl) (told_walk e M)) ?_
    refine jl_s rfl (hStoreL rfl rfl rfl rfl rfl rfl rfl rfl (by first | (simp only [Nat.reduceAdd, Nat.zero_add, Nat.add_zero, List.drop_succ_cons, List.drop_zero, List.drop_nil, List.take_succ_cons, List.take_zero, List.take_nil, List.cons_append, List.nil_append, List.append_nil, List.length_cons, List.length_nil]; try rfl) | rfl)) ?_; rintro _ _ _ ⟨rfl, rfl⟩
    refine jl_nil ?_
    refine jT ?_
    refine jc_ret ?_
    refine jTr ?_
    refine jrsd (rs := [_]) (S.own) (by repeat (first | exact List.Sublist.refl _ | exact List.sublist_append_left _ _ | apply List.Sublist.cons)) rfl (.cons (.agg rfl rfl rfl) .nil) ?_
    have hr : turnS S.abs w true f = (S.abs, told e) := by
      unfold turnS; rw [hw]; rfl
    rw [hr]; exact OpP.plain (r := (S.abs, _)) hS rfl rfl rfl rfl

theorem turn_frz (S : CS) (hS : S.Ok) (n : Nat) (hwf : WFS n S.abs) (hn : n ≤ 100) (M : Mem) (w : Wy) (na : Option Addr) (nc : Nat) (hW : WyOk M w na nc) (f : List By → List By) (fid : FuncId) (caps : List Value) (ok : Bool) (hgo : isGo Tryz.prog fid = true) (hcl : ok = true → ∀ x : CF, x.Ok → x.pf.data.length ≤ 4096 → SpecL Tryz.prog fid (pt x.b :: caps).toArray M x.own fun _ _ L' => ClP x f L') (hok : ok = true) (id : Int) (hw : fileS S.abs w = .ok id) (v : CV) (x : CF) (hv : getA w.1 S.vols = some v) (hx : getA id v.files = some x) (hf : frozenS S.abs w.1 = true) :
    SpecL Tryz.prog 91 #[pt S.b, wyV w na nc, .bool ok, .func (.func fid) #[] caps.toArray] M S.own fun u M' L' => OpP S.b (turnS S.abs w ok f) u M' L' := by
  refine SpecL.mem fun hnd hdis => ?_
  have hVa := addL_in (M := M) hnd
  have hMa := addL_le hdis
  have hVw : ∀ L, SubL S.own L → Vw M L S.own := fun L h => Vw.of
  subst hok
  refine spec_body (vs := [_, _, _, _]) 36 _ Tryz.func91 rfl Tryz.ntmps91 rfl rfl ?_; intro W
  refine jc_seq ?_
  refine jc_region ?_
  refine jl_h rfl rfl (hBox (cs := [_, _]) rfl rfl rfl rfl) ?_; rintro _ _ _ ⟨b6, rfl, rfl, rfl⟩
  refine jl_h rfl rfl (hAlloc rfl rfl) ?_; rintro _ _ _ ⟨b8, rfl, rfl, rfl⟩
  refine jl_nil ?_
  refine jT ?_
  refine jc_seq ?_
  refine jc_seq ?_
  refine jc_region ?_
  iterate 2 refine jp rfl ?_
  refine jl_nil ?_
  refine jT ?_
  refine jc_if rfl (fun h13 => ?_) (fun h13 => ?_)
  · refine jc_seq ?_
    refine jc_region ?_
    cases h13
  · refine jc_skip ?_
    refine jT ?_
    refine jc_seq ?_
    refine jc_region ?_
    refine jp rfl ?_
    refine jl_q rfl rfl (qLdL rfl rfl rfl rfl rfl (by first | (simp only [Nat.reduceAdd, Nat.zero_add, Nat.add_zero, List.drop_succ_cons, List.drop_zero, List.drop_nil, List.take_succ_cons, List.take_zero, List.take_nil, List.cons_append, List.nil_append, List.append_nil, List.length_cons, List.length_nil]; try rfl) | rfl)) ?_
    refine jl_q rfl rfl (qEq (v' := .tuple #[.int .u32 id, pt x.b, .int .i64 0]) (qCallM (R := S.own) rfl rfl rfl rfl rfl (by kernel_rfl) (SubL.sub) (file_spec S hS n hwf (addL M S.own) hVa w na nc (hW.mono hMa))) (by rw [hw]; exact walkV_at hv hx)) ?_
    iterate 7 refine jp rfl ?_
    refine jl_nil ?_
    refine jT ?_
    refine jc_seq ?_
    refine jc_seq ?_
    refine jc_region ?_
    refine jp rfl ?_
    refine jt rfl (decide_eq_true (by omega)) ?_
    refine jl_nil ?_
    refine jT ?_
    refine jc_yes rfl ?_
    refine jc_region ?_
    refine jp rfl ?_
    refine jl_q rfl rfl (qFieldAddr rfl rfl rfl rfl rfl) ?_
    refine jl_q rfl rfl (qLd rfl rfl rfl rfl (CJ.loc rfl)) ?_
    refine jl_q rfl rfl (qEq (v' := .int .i64 170) (qCallM (R := S.own) rfl rfl rfl rfl rfl (by kernel_rfl) (SubL.sub) (turns_spec S hS n hwf (addL M S.own) hVa w.1 v hv)) (by rw [hf]; rfl)) ?_
    refine jp rfl ?_
    refine jl_nil ?_
    refine jT ?_
    refine jc_seq ?_
    refine jc_seq ?_
    refine jc_region ?_
    refine jp rfl ?_
    refine jt rfl (decide_eq_true (by omega)) ?_
    refine jl_nil ?_
    refine jT ?_
    refine jc_yes rfl ?_
    refine jc_seq ?_
    refine jc_region ?_
    refine jp rfl ?_
    refine jl_q rfl rfl (qCall rfl rfl rfl rfl rfl (by kernel_rfl) (told_walk 170 M)) ?_
    refine jl_s rfl (hStoreL rfl rfl rfl rfl rfl rfl rfl rfl (by first | (simp only [Nat.reduceAdd, Nat.zero_add, Nat.add_zero, List.drop_succ_cons, List.drop_zero, List.drop_nil, List.take_succ_cons, List.take_zero, List.take_nil, List.cons_append, List.nil_append, List.append_nil, List.length_cons, List.length_nil]; try rfl) | rfl)) ?_; rintro _ _ _ ⟨rfl, rfl⟩
    refine jl_nil ?_
    refine jT ?_
    refine jc_ret ?_
    refine jTr ?_
    refine jrsd (rs := [_]) (S.own) (by repeat (first | exact List.Sublist.refl _ | exact List.sublist_append_left _ _ | apply List.Sublist.cons)) rfl (.cons (.agg rfl rfl rfl) .nil) ?_
    have hr : turnS S.abs w true f = (S.abs, told 170) := by
      unfold turnS; rw [hw]; simp only [if_true]; rw [hf]; rfl
    rw [hr]; exact OpP.plain (r := (S.abs, _)) hS rfl rfl rfl rfl

theorem turn_ok (S : CS) (hS : S.Ok) (n : Nat) (hwf : WFS n S.abs) (hn : n ≤ 100) (M : Mem) (w : Wy) (na : Option Addr) (nc : Nat) (hW : WyOk M w na nc) (f : List By → List By) (fid : FuncId) (caps : List Value) (ok : Bool) (hgo : isGo Tryz.prog fid = true) (hcl : ok = true → ∀ x : CF, x.Ok → x.pf.data.length ≤ 4096 → SpecL Tryz.prog fid (pt x.b :: caps).toArray M x.own fun _ _ L' => ClP x f L') (hok : ok = true) (id : Int) (hw : fileS S.abs w = .ok id) (v : CV) (x : CF) (hv : getA w.1 S.vols = some v) (hx : getA id v.files = some x) (hf : frozenS S.abs w.1 = false) :
    SpecL Tryz.prog 91 #[pt S.b, wyV w na nc, .bool ok, .func (.func fid) #[] caps.toArray] M S.own fun u M' L' => OpP S.b (turnS S.abs w ok f) u M' L' := by
  refine SpecL.mem fun hnd hdis => ?_
  have hVa := addL_in (M := M) hnd
  have hMa := addL_le hdis
  have hVw : ∀ L, SubL S.own L → Vw M L S.own := fun L h => Vw.of
  subst hok
  obtain ⟨v3, x3, hv3, hx3, hwv, hxnd⟩ := fileS_ok hwf hw
  rw [hv] at hv3; cases hv3; rw [hx] at hx3; cases hx3
  have hlen : x.pf.data.length ≤ 4096 := (hwv.wf.len id x.pf (by show getA id (absF v.files) = _; rw [absF_get, hx]; rfl)).1
  refine spec_body (vs := [_, _, _, _]) 36 _ Tryz.func91 rfl Tryz.ntmps91 rfl rfl ?_; intro W
  refine jc_seq ?_
  refine jc_region ?_
  refine jl_h rfl rfl (hBox (cs := [_, _]) rfl rfl rfl rfl) ?_; rintro _ _ _ ⟨b6, rfl, rfl, rfl⟩
  refine jl_h rfl rfl (hAlloc rfl rfl) ?_; rintro _ _ _ ⟨b8, rfl, rfl, rfl⟩
  refine jl_nil ?_
  refine jT ?_
  refine jc_seq ?_
  refine jc_seq ?_
  refine jc_region ?_
  iterate 2 refine jp rfl ?_
  refine jl_nil ?_
  refine jT ?_
  refine jc_if rfl (fun h13 => ?_) (fun h13 => ?_)
  · refine jc_seq ?_
    refine jc_region ?_
    cases h13
  · refine jc_skip ?_
    refine jT ?_
    refine jc_seq ?_
    refine jc_region ?_
    refine jp rfl ?_
    refine jl_q rfl rfl (qLdL rfl rfl rfl rfl rfl (by first | (simp only [Nat.reduceAdd, Nat.zero_add, Nat.add_zero, List.drop_succ_cons, List.drop_zero, List.drop_nil, List.take_succ_cons, List.take_zero, List.take_nil, List.cons_append, List.nil_append, List.append_nil, List.length_cons, List.length_nil]; try rfl) | rfl)) ?_
    refine jl_q rfl rfl (qEq (v' := .tuple #[.int .u32 id, pt x.b, .int .i64 0]) (qCallM (R := S.own) rfl rfl rfl rfl rfl (by kernel_rfl) (SubL.sub) (file_spec S hS n hwf (addL M S.own) hVa w na nc (hW.mono hMa))) (by rw [hw]; exact walkV_at hv hx)) ?_
    iterate 7 refine jp rfl ?_
    refine jl_nil ?_
    refine jT ?_
    refine jc_seq ?_
    refine jc_seq ?_
    refine jc_region ?_
    refine jp rfl ?_
    refine jt rfl (decide_eq_true (by omega)) ?_
    refine jl_nil ?_
    refine jT ?_
    refine jc_yes rfl ?_
    refine jc_region ?_
    refine jp rfl ?_
    refine jl_q rfl rfl (qFieldAddr rfl rfl rfl rfl rfl) ?_
    refine jl_q rfl rfl (qLd rfl rfl rfl rfl (CJ.loc rfl)) ?_
    refine jl_q rfl rfl (qEq (v' := .int .i64 0) (qCallM (R := S.own) rfl rfl rfl rfl rfl (by kernel_rfl) (SubL.sub) (turns_spec S hS n hwf (addL M S.own) hVa w.1 v hv)) (by rw [hf]; rfl)) ?_
    refine jp rfl ?_
    refine jl_nil ?_
    refine jT ?_
    refine jc_seq ?_
    refine jc_seq ?_
    refine jc_region ?_
    refine jp rfl ?_
    refine jf rfl (decide_eq_false (by omega)) ?_
    refine jl_nil ?_
    refine jT ?_
    refine jc_no rfl ?_
    refine jc_skip ?_
    refine jT ?_
    refine jc_seq ?_
    obtain ⟨R, hp1, hp2⟩ := CS.focX hv hx
    refine jc_weak (L' := x.own ++ (R ++ _)) (fun _ h => h.perm (foc_pick hp1)) ?_
    refine jc_region ?_
    iterate 2 refine jp rfl ?_
    refine jl_h rfl rfl (hCall rfl rfl rfl rfl rfl hgo (hcl rfl x ((hS.v hv).x hx) hlen)) ?_; rintro _ M2 _ ⟨hM2, R2, rfl, ⟨x2, hok2, hb2, hpf2, rfl⟩⟩
    refine jl_weak (fun _ h => h.perm (foc_back (hp2 x2))) ?_
    refine jl_nil ?_
    refine jT ?_
    refine jc_seq ?_
    refine jc_region ?_
    refine jl_q rfl rfl (qBuild (cs := [_, _, _, _, _, _, _, _]) rfl rfl rfl (by rfl)) ?_
    refine jl_s rfl (hStoreL rfl rfl rfl rfl rfl rfl rfl rfl (by first | (simp only [Nat.reduceAdd, Nat.zero_add, Nat.add_zero, List.drop_succ_cons, List.drop_zero, List.drop_nil, List.take_succ_cons, List.take_zero, List.take_nil, List.cons_append, List.nil_append, List.append_nil, List.length_cons, List.length_nil]; try rfl) | rfl)) ?_; rintro _ _ _ ⟨rfl, rfl⟩
    refine jl_nil ?_
    refine jT ?_
    refine jc_ret ?_
    refine jrsd (rs := [_]) ((S.setX w.1 id x2).own) (by repeat (first | exact List.Sublist.refl _ | exact List.sublist_append_left _ _ | apply List.Sublist.cons)) rfl (.cons (.agg rfl rfl rfl) .nil) ?_
    have hr : turnS S.abs w true f = ((S.setX w.1 id x2).abs, {}) := by
      unfold turnS; rw [hw]; simp only [if_true]; rw [hf, abs_setX (f := fun x => { x with data := f x.data }) hv hx hpf2]; rfl
    rw [hr]; exact OpP.plain (r := (_, _)) (hS.setX hv hx hb2 hok2) rfl rfl rfl rfl


theorem turn_spec (S : CS) (hS : S.Ok) (n : Nat) (hwf : WFS n S.abs) (hn : n ≤ 100) (M : Mem) (w : Wy) (na : Option Addr) (nc : Nat) (hW : WyOk M w na nc) (f : List By → List By) (fid : FuncId) (caps : List Value) (ok : Bool) (hgo : isGo Tryz.prog fid = true) (hcl : ok = true → ∀ x : CF, x.Ok → x.pf.data.length ≤ 4096 → SpecL Tryz.prog fid (pt x.b :: caps).toArray M x.own fun _ _ L' => ClP x f L') : SpecL Tryz.prog 91 #[pt S.b, wyV w na nc, .bool ok, .func (.func fid) #[] caps.toArray] M S.own fun u M' L' => OpP S.b (turnS S.abs w ok f) u M' L' := by
  cases hok : ok with
  | false => exact turn_no S hS n hwf hn M w na nc hW f fid caps false hgo (fun h => by cases h) rfl
  | true =>
    subst hok
    cases hw : fileS S.abs w with
    | error e => exact turn_e S hS n hwf hn M w na nc hW f fid caps true hgo hcl rfl e hw
    | ok id =>
      obtain ⟨v, x, hv, hx, hwv, hxd⟩ := fileS_ok hwf hw
      cases hf : frozenS S.abs w.1 with
      | true => exact turn_frz S hS n hwf hn M w na nc hW f fid caps true hgo hcl rfl id hw v x hv hx hf
      | false => exact turn_ok S hS n hwf hn M w na nc hW f fid caps true hgo hcl rfl id hw v x hv hx hf

theorem write_spec (S : CS) (hS : S.Ok) (n : Nat) (hwf : WFS n S.abs) (hn : n ≤ 100) (M : Mem) (c : CL) (ca : Option Addr) (ck : Nat) (hC : CallOk M c ca ck) (w : Wy) (na : Option Addr) (nc : Nat) (hW : WyOk M w na nc) (o : Wy) (oa : Option Addr) (oc : Nat) (hO : WyOk M o oa oc) :
    SpecL Tryz.prog 52 #[pt S.b, clV c ca ck, wyV w na nc, wyV o oa oc] M S.own fun u M' L' => OpP S.b (writeS S.abs c w) u M' L' := by
  refine SpecL.mem fun hnd hdis => ?_
  have hVa := addL_in (M := M) hnd
  have hMa := addL_le hdis
  have hVw : ∀ L, SubL S.own L → Vw M L S.own := fun L h => Vw.of
  have hcb := hC.big
  refine spec_body (vs := [_, _, _, _]) 30 _ Tryz.func52 rfl Tryz.ntmps52 rfl rfl ?_; intro W
  refine jc_seq ?_
  refine jc_region ?_
  refine jl_h rfl rfl (hBox (cs := [_, _, _, _, _, _, _]) rfl rfl rfl rfl) ?_; rintro _ _ _ ⟨b5, rfl, rfl, rfl⟩
  refine jl_h rfl rfl (hBox (cs := [_, _]) rfl rfl rfl rfl) ?_; rintro _ _ _ ⟨b6, rfl, rfl, rfl⟩
  refine jl_h rfl rfl (hBox (cs := [_, _]) rfl rfl rfl rfl) ?_; rintro _ _ _ ⟨b7, rfl, rfl, rfl⟩
  refine jl_h rfl rfl (hAlloc rfl rfl) ?_; rintro _ _ _ ⟨b8, rfl, rfl, rfl⟩
  refine jl_nil ?_
  refine jT ?_
  refine jc_seq ?_
  refine jc_region ?_
  refine jp rfl ?_
  refine jl_q rfl rfl (qLdL rfl rfl rfl rfl rfl (by first | (simp only [Nat.reduceAdd, Nat.zero_add, Nat.add_zero, List.drop_succ_cons, List.drop_zero, List.drop_nil, List.take_succ_cons, List.take_zero, List.take_nil, List.cons_append, List.nil_append, List.append_nil, List.length_cons, List.length_nil]; try rfl) | rfl)) ?_
  refine jl_q rfl rfl (qFieldAddr rfl rfl rfl rfl rfl) ?_
  refine jl_q rfl rfl (qLd rfl rfl rfl rfl (CJ.loc rfl)) ?_
  refine js rfl (fun h13 => ?_) (fun h13 => ?_)
  · refine jp rfl ?_
    refine jl_q rfl rfl (qFieldAddr rfl rfl rfl rfl rfl) ?_
    refine jl_q rfl rfl (qLd rfl rfl rfl rfl (CJ.loc rfl)) ?_
    refine js rfl (fun h17 => ?_) (fun h17 => ?_)
    · iterate 2 refine jp rfl ?_
      refine jl_q rfl rfl (qFieldAddr rfl rfl rfl rfl rfl) ?_
      refine jl_q rfl rfl (qLd rfl rfl rfl rfl (CJ.loc rfl)) ?_
      refine jl_q rfl rfl (qLen rfl rfl rfl) ?_
      refine jl_q rfl rfl (qFieldAddr rfl rfl rfl rfl rfl) ?_
      refine jl_q rfl rfl (qLd rfl rfl rfl rfl (CJ.loc rfl)) ?_
      refine ja rfl (by omega) ?_
      iterate 3 refine jp rfl ?_
      refine jl_freezeX b5 (fun x hx => by obtain ⟨p, hp, rfl⟩ := List.mem_map.1 hx; exact List.mem_map_of_mem (SubL.sub (R := S.own) p hp)) ?_
      intro M1 hM1 e5
      refine jl_h rfl rfl (hCall rfl rfl rfl rfl rfl (by kernel_rfl) (turn_spec S hS n hwf hn M1 w na nc (hW.mono hM1) (writeB c.a.toNat c.data) 92 [pt b5] _ (by kernel_rfl) (fun hh x hx hl => by first | cases hh | exact write1_spec x hx hl c ca ck M1 (hC.mono hM1) b5 e5 (by omega) (by omega) (of_decide_eq_true hh)))) ?_; rintro _ M2 _ ⟨hM2, R3, rfl, ⟨S2, dv2, nv2, R1, R2, hk1, hk2, rfl, hk3, hk4, rfl⟩⟩
      obtain ⟨da2, dc2, rfl⟩ := hk3.form
      obtain ⟨na2, nc2, rfl⟩ := Nms.nform hk4
      refine jl_s rfl (hStoreL rfl rfl rfl rfl rfl rfl rfl rfl (by first | (simp only [Nat.reduceAdd, Nat.zero_add, Nat.add_zero, List.drop_succ_cons, List.drop_zero, List.drop_nil, List.take_succ_cons, List.take_zero, List.take_nil, List.cons_append, List.nil_append, List.append_nil, List.length_cons, List.length_nil]; try rfl) | rfl)) ?_; rintro _ _ _ ⟨rfl, rfl⟩
      refine jl_nil ?_
      refine jT ?_
      refine jc_ret ?_
      refine jrsd (rs := [_]) (S2.own ++ (R1 ++ R2)) (by first | (rw [List.append_nil]; exact List.sublist_append_left _ _) | repeat (first | exact List.Sublist.refl _ | exact List.sublist_append_left _ _ | apply List.Sublist.cons)) rfl (.cons (.agg rfl rfl rfl) .nil) ?_
      have hr : writeS S.abs c w = turnS S.abs w (decide ((c.data.length : Int) ≤ 4096 - c.a)) (writeB c.a.toNat c.data) := by unfold writeS; rw [decide_eq_true (by omega : 0 ≤ c.a), decide_eq_true (by omega : c.a ≤ 4096)]; rfl
      rw [hr]; exact ⟨S2, _, _, R1, R2, hk1, hk2, rfl, hk3, hk4, rfl⟩
    · iterate 11 refine jp rfl ?_
      refine jl_freezeX b5 (fun x hx => by obtain ⟨p, hp, rfl⟩ := List.mem_map.1 hx; exact List.mem_map_of_mem (SubL.sub (R := S.own) p hp)) ?_
      intro M1 hM1 e5
      refine jl_h rfl rfl (hCall rfl rfl rfl rfl rfl (by kernel_rfl) (turn_spec S hS n hwf hn M1 w na nc (hW.mono hM1) (writeB c.a.toNat c.data) 92 [pt b5] _ (by kernel_rfl) (fun hh x hx hl => by first | cases hh | exact write1_spec x hx hl c ca ck M1 (hC.mono hM1) b5 e5 (by omega) (by omega) (of_decide_eq_true hh)))) ?_; rintro _ M2 _ ⟨hM2, R3, rfl, ⟨S2, dv2, nv2, R1, R2, hk1, hk2, rfl, hk3, hk4, rfl⟩⟩
      obtain ⟨da2, dc2, rfl⟩ := hk3.form
      obtain ⟨na2, nc2, rfl⟩ := Nms.nform hk4
      refine jl_s rfl (hStoreL rfl rfl rfl rfl rfl rfl rfl rfl (by first | (simp only [Nat.reduceAdd, Nat.zero_add, Nat.add_zero, List.drop_succ_cons, List.drop_zero, List.drop_nil, List.take_succ_cons, List.take_zero, List.take_nil, List.cons_append, List.nil_append, List.append_nil, List.length_cons, List.length_nil]; try rfl) | rfl)) ?_; rintro _ _ _ ⟨rfl, rfl⟩
      refine jl_nil ?_
      refine jT ?_
      refine jc_ret ?_
      refine jrsd (rs := [_]) (S2.own ++ (R1 ++ R2)) (by first | (rw [List.append_nil]; exact List.sublist_append_left _ _) | repeat (first | exact List.Sublist.refl _ | exact List.sublist_append_left _ _ | apply List.Sublist.cons)) rfl (.cons (.agg rfl rfl rfl) .nil) ?_
      have hr : writeS S.abs c w = turnS S.abs w false (writeB c.a.toNat c.data) := by unfold writeS; rw [decide_eq_true (by omega : 0 ≤ c.a), decide_eq_false (by omega : ¬ (c.a ≤ 4096))]; rfl
      rw [hr]; exact ⟨S2, _, _, R1, R2, hk1, hk2, rfl, hk3, hk4, rfl⟩
  · iterate 15 refine jp rfl ?_
    refine jl_freezeX b5 (fun x hx => by obtain ⟨p, hp, rfl⟩ := List.mem_map.1 hx; exact List.mem_map_of_mem (SubL.sub (R := S.own) p hp)) ?_
    intro M1 hM1 e5
    refine jl_h rfl rfl (hCall rfl rfl rfl rfl rfl (by kernel_rfl) (turn_spec S hS n hwf hn M1 w na nc (hW.mono hM1) (writeB c.a.toNat c.data) 92 [pt b5] _ (by kernel_rfl) (fun hh x hx hl => by first | cases hh | exact write1_spec x hx hl c ca ck M1 (hC.mono hM1) b5 e5 (by omega) (by omega) (of_decide_eq_true hh)))) ?_; rintro _ M2 _ ⟨hM2, R3, rfl, ⟨S2, dv2, nv2, R1, R2, hk1, hk2, rfl, hk3, hk4, rfl⟩⟩
    obtain ⟨da2, dc2, rfl⟩ := hk3.form
    obtain ⟨na2, nc2, rfl⟩ := Nms.nform hk4
    refine jl_s rfl (hStoreL rfl rfl rfl rfl rfl rfl rfl rfl (by first | (simp only [Nat.reduceAdd, Nat.zero_add, Nat.add_zero, List.drop_succ_cons, List.drop_zero, List.drop_nil, List.take_succ_cons, List.take_zero, List.take_nil, List.cons_append, List.nil_append, List.append_nil, List.length_cons, List.length_nil]; try rfl) | rfl)) ?_; rintro _ _ _ ⟨rfl, rfl⟩
    refine jl_nil ?_
    refine jT ?_
    refine jc_ret ?_
    refine jrsd (rs := [_]) (S2.own ++ (R1 ++ R2)) (by first | (rw [List.append_nil]; exact List.sublist_append_left _ _) | repeat (first | exact List.Sublist.refl _ | exact List.sublist_append_left _ _ | apply List.Sublist.cons)) rfl (.cons (.agg rfl rfl rfl) .nil) ?_
    have hr : writeS S.abs c w = turnS S.abs w false (writeB c.a.toNat c.data) := by unfold writeS; rw [decide_eq_false (by omega : ¬ (0 ≤ c.a))]; rfl
    rw [hr]; exact ⟨S2, _, _, R1, R2, hk1, hk2, rfl, hk3, hk4, rfl⟩


end Go.Proofs.YtdjaehgadehnfaaGreatDoor
