/- Walks: what a directory lists. -/
import Derived.Test.YtdjaehgadehnfaaGreatDoorHp
import Derived.Test.YtdjaehgadehnfaaGreatDoorCtr
import Derived.Test.YtdjaehgadehnfaaGreatDoorBy
namespace Go.Proofs.YtdjaehgadehnfaaGreatDoor
set_option linter.unusedVariables false
set_option linter.unusedSimpArgs false
open Go.RowKit Go.MapKept

theorem keys_spec (b : Nat) (M : Mem) :
    SpecL Tryz.prog 104 #[.map (some b)] M [] fun u M' L' => M' = M ∧ ∃ c, u = .func (.func 121) #[] #[.pointer (some ⟨c, 0, none⟩)] ∧ L' = [(c, .cells [.map (some b)].toArray 133 (0, 0))] := by
  refine spec_body (vs := [_]) 4 _ Tryz.func104 rfl Tryz.ntmps104 rfl rfl ?_; intro W
  refine jc_seq ?_
  refine jc_region ?_
  refine jl_h rfl rfl (hBox rfl rfl rfl rfl) ?_; rintro _ _ _ ⟨b1, rfl, rfl, rfl⟩
  refine jp rfl ?_
  refine jl_nil ?_
  refine jT ?_
  refine jc_seq ?_
  refine jc_region ?_
  iterate 2 refine jp rfl ?_
  refine jl_nil ?_
  refine jT ?_
  refine jc_ret ?_
  refine jr1 rfl rfl ?_
  exact ⟨rfl, _, rfl, rfl⟩


/-- .. of a map that is the caller's own -/
theorem sorted_lent {M : Mem} {R : Lc} {b c : Nat} {mo : Obj} {l : List (Str × Value)} (hb : (b, mo) ∈ R) (hc : (c, Obj.cells [.map (some b)].toArray 133 (0, 0)) ∈ R) (hm : MapOf kS mo l) (hw : ∀ p ∈ l, p.1.size ≤ 64) (hlen : l.length ≤ 1000000) :
    SpecL Tryz.prog 103 #[.func (.func 121) #[] #[.pointer (some ⟨c, 0, none⟩)]] M R fun v M' L' => M' = M ∧ ∃ L1, L' = R ++ L1 ∧ Nms v L1 ((l.map (·.1)).mergeSort leStr) :=
  SpecL.lendM fun hn hd => sortedS_spec (addL M R) b c mo l (addL_in hn _ hb) (addL_in hn _ hc) hm hw hlen

theorem list_e (S : CS) (hS : S.Ok) (n : Nat) (hwf : WFS n S.abs) (hn : n ≤ 100) (M : Mem) (c : CL) (ca : Option Addr) (ck : Nat) (hC : CallOk M c ca ck) (w : Wy) (na : Option Addr) (nc : Nat) (hW : WyOk M w na nc) (o : Wy) (oa : Option Addr) (oc : Nat) (hO : WyOk M o oa oc) (e : Int) (hw : walkS S.abs w.1 w.2 = .error e) :
    SpecL Tryz.prog 61 #[pt S.b, clV c ca ck, wyV w na nc, wyV o oa oc] M S.own fun u M' L' => OpP S.b (listS S.abs w) u M' L' := by
  refine SpecL.mem fun hnd hdis => ?_
  have hVa := addL_in (M := M) hnd
  have hMa := addL_le hdis
  have hVw : ∀ L, SubL S.own L → Vw M L S.own := fun L h => Vw.of
  have he := walkS_err hwf hw
  refine spec_body (vs := [_, _, _, _]) 41 _ Tryz.func61 rfl Tryz.ntmps61 rfl rfl ?_; intro W
  refine jc_seq ?_
  refine jc_region ?_
  refine jl_h rfl rfl (hBox (cs := [_, _, _, _, _, _, _]) rfl rfl rfl rfl) ?_; rintro _ _ _ ⟨b5, rfl, rfl, rfl⟩
  refine jl_h rfl rfl (hBox (cs := [_, _]) rfl rfl rfl rfl) ?_; rintro _ _ _ ⟨b6, rfl, rfl, rfl⟩
  refine jl_h rfl rfl (hBox (cs := [_, _]) rfl rfl rfl rfl) ?_; rintro _ _ _ ⟨b7, rfl, rfl, rfl⟩
  refine jl_h rfl rfl (hAlloc rfl rfl) ?_; rintro _ _ _ ⟨b8, rfl, rfl, rfl⟩
  refine jl_nil ?_
  refine jT ?_
  refine jc_seq ?_
  refine jc_region ?_
  refine jp rfl ?_
  refine jl_q rfl rfl (qFieldAddr rfl rfl rfl rfl rfl) ?_
  refine jl_q rfl rfl (qLd rfl rfl rfl rfl (CJ.loc rfl)) ?_
  refine jl_q rfl rfl (qFieldAddr rfl rfl rfl rfl rfl) ?_
  refine jl_q rfl rfl (qLd rfl rfl rfl rfl (CJ.loc rfl)) ?_
  refine jl_q rfl rfl (qEq (qCallM (R := S.own) rfl rfl rfl rfl rfl (by kernel_rfl) (SubL.sub) (walk_spec S hS n hwf w.1 w.2 na nc (addL M S.own) hVa (hW.sn.mono hMa) hW.big)) (by rw [hw]; try rfl)) ?_
  iterate 7 refine jp rfl ?_
  refine jl_nil ?_
  refine jT ?_
  refine jc_seq ?_
  refine jc_block ?_
  refine jc_seq ?_
  refine jc_region ?_
  refine jp rfl ?_
  refine jt rfl (decide_eq_true (by omega)) ?_
  refine jp rfl ?_
  refine jl_nil ?_
  refine jT ?_
  refine jc_yes rfl ?_
  refine jc_seq ?_
  refine jc_region ?_
  refine jp rfl ?_
  refine jl_q rfl rfl (qCall rfl rfl rfl rfl rfl (by kernel_rfl) (told_walk e M)) ?_
  refine jl_s rfl (hStoreL rfl rfl rfl rfl rfl rfl rfl rfl (by first | (simp only [Nat.reduceAdd, Nat.zero_add, Nat.add_zero, List.drop_succ_cons, List.drop_zero, List.drop_nil, List.take_succ_cons, List.take_zero, List.take_nil, List.cons_append, List.nil_append, List.append_nil, List.length_cons, List.length_nil]; try rfl) | rfl)) ?_; rintro _ _ _ ⟨rfl, rfl⟩
  refine jl_nil ?_
  refine jT ?_
  refine jc_ret ?_
  refine jBr ?_
  refine jTr ?_
  refine jrsd (rs := [_]) (S.own) (by first | (rw [List.append_nil]; exact List.sublist_append_left _ _) | repeat (first | exact List.Sublist.refl _ | exact List.sublist_append_left _ _ | apply List.Sublist.cons)) rfl (.cons (.agg rfl rfl rfl) .nil) ?_
  have hr : listS S.abs w = (S.abs, told e) := by
    unfold listS; rw [hw]
  rw [hr]; exact OpP.plain (r := (S.abs, _)) hS rfl rfl rfl rfl

theorem list_nd (S : CS) (hS : S.Ok) (n : Nat) (hwf : WFS n S.abs) (hn : n ≤ 100) (M : Mem) (c : CL) (ca : Option Addr) (ck : Nat) (hC : CallOk M c ca ck) (w : Wy) (na : Option Addr) (nc : Nat) (hW : WyOk M w na nc) (o : Wy) (oa : Option Addr) (oc : Nat) (hO : WyOk M o oa oc) (id : Int) (hw : walkS S.abs w.1 w.2 = .ok id) (v : CV) (x : CF) (hv : getA w.1 S.vols = some v) (hx : getA id v.files = some x) (hd : x.pf.dir = false) :
    SpecL Tryz.prog 61 #[pt S.b, clV c ca ck, wyV w na nc, wyV o oa oc] M S.own fun u M' L' => OpP S.b (listS S.abs w) u M' L' := by
  refine SpecL.mem fun hnd hdis => ?_
  have hVa := addL_in (M := M) hnd
  have hMa := addL_le hdis
  have hVw : ∀ L, SubL S.own L → Vw M L S.own := fun L h => Vw.of
  refine spec_body (vs := [_, _, _, _]) 41 _ Tryz.func61 rfl Tryz.ntmps61 rfl rfl ?_; intro W
  refine jc_seq ?_
  refine jc_region ?_
  refine jl_h rfl rfl (hBox (cs := [_, _, _, _, _, _, _]) rfl rfl rfl rfl) ?_; rintro _ _ _ ⟨b5, rfl, rfl, rfl⟩
  refine jl_h rfl rfl (hBox (cs := [_, _]) rfl rfl rfl rfl) ?_; rintro _ _ _ ⟨b6, rfl, rfl, rfl⟩
  refine jl_h rfl rfl (hBox (cs := [_, _]) rfl rfl rfl rfl) ?_; rintro _ _ _ ⟨b7, rfl, rfl, rfl⟩
  refine jl_h rfl rfl (hAlloc rfl rfl) ?_; rintro _ _ _ ⟨b8, rfl, rfl, rfl⟩
  refine jl_nil ?_
  refine jT ?_
  refine jc_seq ?_
  refine jc_region ?_
  refine jp rfl ?_
  refine jl_q rfl rfl (qFieldAddr rfl rfl rfl rfl rfl) ?_
  refine jl_q rfl rfl (qLd rfl rfl rfl rfl (CJ.loc rfl)) ?_
  refine jl_q rfl rfl (qFieldAddr rfl rfl rfl rfl rfl) ?_
  refine jl_q rfl rfl (qLd rfl rfl rfl rfl (CJ.loc rfl)) ?_
  refine jl_q rfl rfl (qEq (v' := .tuple #[.int .u32 id, pt x.b, .int .i64 0]) (qCallM (R := S.own) rfl rfl rfl rfl rfl (by kernel_rfl) (SubL.sub) (walk_spec S hS n hwf w.1 w.2 na nc (addL M S.own) hVa (hW.sn.mono hMa) hW.big)) (by rw [hw]; exact walkV_at hv hx)) ?_
  iterate 7 refine jp rfl ?_
  refine jl_nil ?_
  refine jT ?_
  refine jc_seq ?_
  refine jc_block ?_
  refine jc_seq ?_
  refine jc_region ?_
  refine jp rfl ?_
  refine jf rfl (decide_eq_false (by omega)) ?_
  refine jp rfl ?_
  refine jl_nil ?_
  refine jT ?_
  refine jc_no rfl ?_
  refine jc_seq ?_
  refine jc_region ?_
  refine jp rfl ?_
  refine jl_q rfl rfl (qNilCheck rfl rfl rfl) ?_
  refine jl_q rfl rfl (qFieldAddr rfl rfl rfl rfl rfl) ?_
  refine jl_q rfl rfl (qEq (qLd rfl rfl rfl rfl ((Vw.x (Vw.file (Vw.vol Vw.of hv) hx)).cj rfl)) (v' := .bool false) (by exact congrArg Value.bool hd)) ?_
  iterate 2 refine jp rfl ?_
  refine jl_nil ?_
  refine jT ?_
  refine jc_yes rfl ?_
  refine jc_seq ?_
  refine jc_region ?_
  refine jl_q rfl rfl (qCall rfl rfl rfl rfl rfl (by kernel_rfl) (told_walk 240 M)) ?_
  refine jl_s rfl (hStoreL rfl rfl rfl rfl rfl rfl rfl rfl (by first | (simp only [Nat.reduceAdd, Nat.zero_add, Nat.add_zero, List.drop_succ_cons, List.drop_zero, List.drop_nil, List.take_succ_cons, List.take_zero, List.take_nil, List.cons_append, List.nil_append, List.append_nil, List.length_cons, List.length_nil]; try rfl) | rfl)) ?_; rintro _ _ _ ⟨rfl, rfl⟩
  refine jl_nil ?_
  refine jT ?_
  refine jc_ret ?_
  refine jBr ?_
  refine jTr ?_
  refine jrsd (rs := [_]) (S.own) (by first | (rw [List.append_nil]; exact List.sublist_append_left _ _) | repeat (first | exact List.Sublist.refl _ | exact List.sublist_append_left _ _ | apply List.Sublist.cons)) rfl (.cons (.agg rfl rfl rfl) .nil) ?_
  have hr : listS S.abs w = (S.abs, told 240) := by
    unfold listS; rw [hw]; simp only; rw [isDir_abs hv hx, hd]; rfl
  rw [hr]; exact OpP.plain (r := (S.abs, _)) hS rfl rfl rfl rfl

theorem listP {S : Lc} {p a b c d : Nat × Obj} : (p :: a :: b :: c :: d :: S).Perm ((p :: S) ++ [a, b, c, d]) := permC fun f => by simp only [List.cons_append, List.map_append, List.map_cons, List.map_nil, List.sum_append, List.sum_cons, List.sum_nil]; omega
theorem list_ok (S : CS) (hS : S.Ok) (n : Nat) (hwf : WFS n S.abs) (hn : n ≤ 100) (M : Mem) (c : CL) (ca : Option Addr) (ck : Nat) (hC : CallOk M c ca ck) (w : Wy) (na : Option Addr) (nc : Nat) (hW : WyOk M w na nc) (o : Wy) (oa : Option Addr) (oc : Nat) (hO : WyOk M o oa oc) (id : Int) (hw : walkS S.abs w.1 w.2 = .ok id) (v : CV) (x : CF) (hv : getA w.1 S.vols = some v) (hx : getA id v.files = some x) (hd : x.pf.dir = true) (hwv : WFV n v.abs) :
    SpecL Tryz.prog 61 #[pt S.b, clV c ca ck, wyV w na nc, wyV o oa oc] M S.own fun u M' L' => OpP S.b (listS S.abs w) u M' L' := by
  refine SpecL.mem fun hnd hdis => ?_
  have hVa := addL_in (M := M) hnd
  have hMa := addL_le hdis
  have hVw : ∀ L, SubL S.own L → Vw M L S.own := fun L h => Vw.of
  obtain ⟨nmb, nmo, e1, e2, e3⟩ := ((hS.v hv).x hx).map hd
  have hxa : getA id (absF v.files) = some x.pf := by rw [absF_get, hx]; rfl
  have hmem : (nmb, nmo) ∈ S.own := by
    have := Vw.xn (Vw.file (Vw.vol (Vw.of (M := fun _ => none) (R := S.own) (L := S.own)) hv) hx) (nmb, nmo) (by rw [e2]; exact List.mem_singleton.2 rfl)
    rcases this with h | h
    · cases h
    · exact h
  have hz : ∀ p ∈ (x.pf.names.map fun q => (q.1, Value.int .u32 q.2)), p.1.size ≤ 64 := fun p hp => by obtain ⟨q, hq, rfl⟩ := List.mem_map.1 hp; exact hwv.nmz id x.pf q hxa hq
  have hlen : (x.pf.names.map fun q => (q.1, Value.int .u32 q.2)).length ≤ 1000000 := by rw [List.length_map]; have := (hwv.wf.len id x.pf hxa).2; omega
  have hkk : (x.pf.names.map fun q => (q.1, Value.int .u32 q.2)).map (·.1) = x.pf.names.map (·.1) := by rw [List.map_map]; rfl
  refine spec_body (vs := [_, _, _, _]) 41 _ Tryz.func61 rfl Tryz.ntmps61 rfl rfl ?_; intro W
  refine jc_seq ?_
  refine jc_region ?_
  refine jl_h rfl rfl (hBox (cs := [_, _, _, _, _, _, _]) rfl rfl rfl rfl) ?_; rintro _ _ _ ⟨b5, rfl, rfl, rfl⟩
  refine jl_h rfl rfl (hBox (cs := [_, _]) rfl rfl rfl rfl) ?_; rintro _ _ _ ⟨b6, rfl, rfl, rfl⟩
  refine jl_h rfl rfl (hBox (cs := [_, _]) rfl rfl rfl rfl) ?_; rintro _ _ _ ⟨b7, rfl, rfl, rfl⟩
  refine jl_h rfl rfl (hAlloc rfl rfl) ?_; rintro _ _ _ ⟨b8, rfl, rfl, rfl⟩
  refine jl_nil ?_
  refine jT ?_
  refine jc_seq ?_
  refine jc_region ?_
  refine jp rfl ?_
  refine jl_q rfl rfl (qFieldAddr rfl rfl rfl rfl rfl) ?_
  refine jl_q rfl rfl (qLd rfl rfl rfl rfl (CJ.loc rfl)) ?_
  refine jl_q rfl rfl (qFieldAddr rfl rfl rfl rfl rfl) ?_
  refine jl_q rfl rfl (qLd rfl rfl rfl rfl (CJ.loc rfl)) ?_
  refine jl_q rfl rfl (qEq (v' := .tuple #[.int .u32 id, pt x.b, .int .i64 0]) (qCallM (R := S.own) rfl rfl rfl rfl rfl (by kernel_rfl) (SubL.sub) (walk_spec S hS n hwf w.1 w.2 na nc (addL M S.own) hVa (hW.sn.mono hMa) hW.big)) (by rw [hw]; exact walkV_at hv hx)) ?_
  iterate 7 refine jp rfl ?_
  refine jl_nil ?_
  refine jT ?_
  refine jc_seq ?_
  refine jc_block ?_
  refine jc_seq ?_
  refine jc_region ?_
  refine jp rfl ?_
  refine jf rfl (decide_eq_false (by omega)) ?_
  refine jp rfl ?_
  refine jl_nil ?_
  refine jT ?_
  refine jc_no rfl ?_
  refine jc_seq ?_
  refine jc_region ?_
  refine jp rfl ?_
  refine jl_q rfl rfl (qNilCheck rfl rfl rfl) ?_
  refine jl_q rfl rfl (qFieldAddr rfl rfl rfl rfl rfl) ?_
  refine jl_q rfl rfl (qEq (qLd rfl rfl rfl rfl ((Vw.x (Vw.file (Vw.vol Vw.of hv) hx)).cj rfl)) (v' := .bool true) (by exact congrArg Value.bool hd)) ?_
  iterate 2 refine jp rfl ?_
  refine jl_nil ?_
  refine jT ?_
  refine jc_no rfl ?_
  refine jc_skip ?_
  refine jB ?_
  refine jT ?_
  refine jc_seq ?_
  refine jc_region ?_
  refine jp rfl ?_
  refine jl_q rfl rfl (qNilCheck rfl rfl rfl) ?_
  refine jl_q rfl rfl (qFieldAddr rfl rfl rfl rfl rfl) ?_
  refine jl_q rfl rfl (qEq (qLd rfl rfl rfl rfl ((Vw.x (Vw.file (Vw.vol Vw.of hv) hx)).cj rfl)) e1) ?_
  refine jl_h rfl rfl (hCall rfl rfl rfl rfl rfl (by kernel_rfl) (keys_spec nmb M)) ?_; rintro _ _ _ ⟨_, _, rfl, ⟨rfl, c9, rfl, rfl⟩⟩
  simp only [List.cons_append, List.nil_append]
  refine jl_weak (L' := ((c9, Obj.cells [.map (some nmb)].toArray 133 (0, 0)) :: S.own) ++ [(b8, _), (b7, _), (b6, _), (b5, _)]) (fun _ h => h.perm listP) ?_
  refine jl_h rfl rfl (hCall rfl rfl rfl rfl rfl (by kernel_rfl) (sorted_lent (R := (c9, Obj.cells [.map (some nmb)].toArray 133 (0, 0)) :: S.own) (List.mem_cons_of_mem _ hmem) (List.mem_cons_self ..) e3 hz hlen)) ?_; rintro _ _ _ ⟨_, _, rfl, ⟨rfl, R9, rfl, hN9⟩⟩
  rw [hkk] at hN9
  obtain ⟨na9, nc9, rfl⟩ := Nms.nform hN9
  rw [List.cons_append, List.cons_append]
  refine jl_q rfl rfl (qBuild (cs := [_, _, _, _, _, _, _, _]) rfl rfl rfl (by rfl)) ?_
  refine jl_s rfl (hStoreL rfl rfl rfl rfl rfl rfl rfl rfl (by first | (simp only [Nat.reduceAdd, Nat.zero_add, Nat.add_zero, List.drop_succ_cons, List.drop_zero, List.drop_nil, List.take_succ_cons, List.take_zero, List.take_nil, List.cons_append, List.nil_append, List.append_nil, List.length_cons, List.length_nil]; try rfl) | rfl)) ?_; rintro _ _ _ ⟨rfl, rfl⟩
  refine jl_nil ?_
  refine jT ?_
  refine jc_ret ?_
  refine jrsd (rs := [_]) (S.own ++ ([] ++ R9)) (by rw [List.nil_append]; exact List.Sublist.trans (List.sublist_append_left _ _) (by repeat (first | exact List.Sublist.refl _ | apply List.Sublist.cons))) rfl (.cons (.agg rfl rfl rfl) .nil) ?_
  have hr : listS S.abs w = (S.abs, { names := (x.pf.names.map (·.1)).mergeSort leStr }) := by
    unfold listS; rw [hw]; simp only; rw [isDir_abs hv hx, hd]; unfold namesAt; rw [fileAt_abs hv hx]; rfl
  rw [hr]; exact ⟨S, _, _, [], R9, ⟨hS, rfl⟩, rfl, rfl, Byt.nil, hN9, rfl⟩


theorem list_spec (S : CS) (hS : S.Ok) (n : Nat) (hwf : WFS n S.abs) (hn : n ≤ 100) (M : Mem) (c : CL) (ca : Option Addr) (ck : Nat) (hC : CallOk M c ca ck) (w : Wy) (na : Option Addr) (nc : Nat) (hW : WyOk M w na nc) (o : Wy) (oa : Option Addr) (oc : Nat) (hO : WyOk M o oa oc)  : SpecL Tryz.prog 61 #[pt S.b, clV c ca ck, wyV w na nc, wyV o oa oc] M S.own fun u M' L' => OpP S.b (listS S.abs w) u M' L' := by
  cases hw : walkS S.abs w.1 w.2 with
  | error e => exact list_e S hS n hwf hn M c ca ck hC w na nc hW o oa oc hO e hw
  | ok id =>
    obtain ⟨v, x, hv, hx, hwv⟩ := walk_ok hwf hw
    cases hd : x.pf.dir with
    | false => exact list_nd S hS n hwf hn M c ca ck hC w na nc hW o oa oc hO id hw v x hv hx hd
    | true => exact list_ok S hS n hwf hn M c ca ck hC w na nc hW o oa oc hO id hw v x hv hx hd hwv
end Go.Proofs.YtdjaehgadehnfaaGreatDoor
