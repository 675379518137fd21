/- Walks: calls that make files and directories. -/
import Derived.Test.YtdjaehgadehnfaaGreatDoorOpsc
namespace Go.Proofs.YtdjaehgadehnfaaGreatDoor
set_option linter.unusedVariables false
set_option linter.unusedSimpArgs false
open Go.RowKit Go.MapKept


theorem sub_list {α : Type} : ∀ (A L : List α), (∀ f : α → Nat, (A.map f).sum ≤ (L.map f).sum) → ∃ G, L.Perm (A ++ G)
  | [], L, _ => ⟨L, List.Perm.refl _⟩
  | a :: A, L, h => by
    classical
    have hm : a ∈ L := by
      refine Classical.byContradiction fun hn => ?_
      have h1 := h fun x => if x = a then 1 else 0
      have h2 : ∀ (l : List α), a ∉ l → (l.map fun x => if x = a then 1 else 0).sum = 0 := fun l => by
        induction l with
        | nil => intro _; rfl
        | cons y l ih => intro hy; simp only [List.mem_cons, not_or] at hy; rw [List.map_cons, List.sum_cons, ih hy.2, if_neg (Ne.symm hy.1)]
      rw [h2 L hn] at h1
      simp at h1
    obtain ⟨X, Y, rfl⟩ := List.append_of_mem hm
    obtain ⟨G, hG⟩ := sub_list A (X ++ Y) fun f => by
      have := h f
      simp only [List.map_append, List.map_cons, List.sum_append, List.sum_cons] at this ⊢
      omega
    exact ⟨G, List.perm_middle.trans (List.Perm.cons a hG)⟩
theorem St.subC {E : Ent} {M : Mem} {L L' : Lc} {w : World} (h : St E M L w) (hc : ∀ f : Nat × Obj → Nat, (L'.map f).sum ≤ (L.map f).sum) : St E M L' w := by
  obtain ⟨G, hG⟩ := sub_list _ _ hc
  exact (h.perm hG).fewer (List.sublist_append_left _ _)
theorem perm_sum {L L' : Lc} (h : L.Perm L') (f : Nat × Obj → Nat) : (L.map f).sum = (L'.map f).sum := (h.map f).sum_nat
theorem putA_putG {κ α : Type} [DecidableEq κ] {k : κ} {u v : α} : ∀ {l : List (κ × α)}, putA k v (putA k u l) = putA k v l
  | [] => by simp [putA]
  | p :: l => by
    rw [putA]
    by_cases h : k = p.1
    · rw [if_pos h, putA, putA, if_pos rfl, if_pos h]
    · rw [if_neg h, putA, putA, if_neg h, if_neg h, putA_putG]
theorem create_foc {S : CS} {vol d : Int} {v : CV} {xd : CF} {nmb : Nat} {nmo : Obj} (hv : getA vol S.vols = some v) (hxd : getA d v.files = some xd) (e2 : xd.nR = [(nmb, nmo)]) : ∃ R : Lc,
    (S.setV vol { v with next := v.next + 1 }).own.Perm ((v.mb, v.mo) :: (nmb, nmo) :: (v.b, vObj { v with next := v.next + 1 }) :: (xd.b, fObj xd) :: R) ∧
    ∀ (mo2 nmo2 : Obj) (ns : List (Str × Int)) (id : Int) (xn : CF), (S.setV vol { v with next := v.next + 1, mo := mo2, files := putA d { xd with nR := [(nmb, nmo2)], pf := { xd.pf with names := ns } } v.files ++ [(id, xn)] }).own.Perm ((v.mb, mo2) :: (nmb, nmo2) :: (v.b, vObj { v with next := v.next + 1 }) :: (xd.b, fObj xd) :: (xn.own ++ R)) := by
  obtain ⟨R, h1, h2⟩ := CS.focV hv
  obtain ⟨A, B, hAB, hA⟩ := getA_split hxd
  refine ⟨xd.dR ++ (ownFs (A ++ B) ++ R), ?_, fun mo2 nmo2 ns id xn => ?_⟩
  · refine (h2 _).trans (((CV.foc (v := { v with next := v.next + 1 }) hAB).append_right R).trans ?_)
    refine permC fun f => ?_
    unfold CF.own; rw [e2]
    simp only [List.map_append, List.sum_append, List.map_cons, List.map_nil, List.sum_cons, List.sum_nil, List.cons_append]; omega
  · refine (h2 _).trans (((CV.foc (A := A) (B := B ++ [(id, xn)]) (id := d) (x := { xd with nR := [(nmb, nmo2)], pf := { xd.pf with names := ns } }) (by simp only; rw [hAB, putA_mid hA]; simp)).append_right R).trans ?_)
    refine permC fun f => ?_
    unfold CF.own ownFs
    simp only [List.map_append, List.sum_append, List.map_cons, List.map_nil, List.sum_cons, List.sum_nil, List.cons_append, List.flatMap_append, List.flatMap_cons, List.flatMap_nil]
    unfold CF.own fObj vObj
    simp only [List.map_append, List.sum_append, List.map_cons, List.map_nil, List.sum_cons, List.sum_nil, List.cons_append]
    omega
theorem create_ok2 {S : CS} (hS : S.Ok) {vol d : Int} {v : CV} {xd : CF} {nmb : Nat} {nmo2 mo2 : Obj} {s : Str} {xn : CF} (hv : getA vol S.vols = some v) (hxd : getA d v.files = some xd) (hdd : xd.pf.dir = true) (e1 : xd.nm = .map (some nmb))
    (hnew : getA v.next v.files = none) (hmo : MapOf kU mo2 (putA v.next (pt xn.b) (ptF v.files))) (hnm : MapOf kS nmo2 ((putA s v.next xd.pf.names).map fun q => (q.1, .int .u32 q.2))) (hxn : xn.Ok) :
    (S.setV vol { v with next := v.next + 1, mo := mo2, files := putA d { xd with nR := [(nmb, nmo2)], pf := { xd.pf with names := putA s v.next xd.pf.names } } v.files ++ [(v.next, xn)] }).Ok ∧
    (S.setV vol { v with next := v.next + 1, mo := mo2, files := putA d { xd with nR := [(nmb, nmo2)], pf := { xd.pf with names := putA s v.next xd.pf.names } } v.files ++ [(v.next, xn)] }).abs = { S.abs with vols := putA vol { v.abs with next := v.next + 1, files := nmPut (v.abs.files ++ [(v.next, xn.pf)]) d s v.next } S.abs.vols } := by
  refine ⟨hS.setV (v' := { v with next := v.next + 1, mo := mo2, files := putA d { xd with nR := [(nmb, nmo2)], pf := { xd.pf with names := putA s v.next xd.pf.names } } v.files ++ [(v.next, xn)] }) hv rfl ⟨?_, fun p hp => ?_⟩, ?_⟩
  · simp only
    have h1 := putA_ptF (v' := { xd with nR := [(nmb, nmo2)], pf := { xd.pf with names := putA s v.next xd.pf.names } }) hxd rfl
    have h2 : ptF (putA d { xd with nR := [(nmb, nmo2)], pf := { xd.pf with names := putA s v.next xd.pf.names } } v.files ++ [(v.next, xn)]) = ptF v.files ++ [(v.next, pt xn.b)] := by
      rw [← h1]; unfold ptF; rw [List.map_append]; rfl
    rw [h2, ← putA_new (getA_none.1 (by rw [ptF_get, hnew]; rfl))]
    exact hmo
  · rcases List.mem_append.1 hp with hp | hp
    · rcases mem_putA p hp with rfl | hp
      · exact ⟨((hS.v hv).x hxd).byt, .inl ⟨hdd, nmb, nmo2, e1, rfl, hnm⟩⟩
      · exact (hS.v hv).fs p hp
    · rw [List.mem_singleton.1 hp]; exact hxn
  · rw [abs_setV]
    congr 2
    unfold CV.abs
    simp only [PV.mk.injEq, true_and]
    have hxa : getA d (absF v.files) = some xd.pf := by rw [absF_get, hxd]; rfl
    obtain ⟨A, B, hAB, hA⟩ := getA_split hxa
    have h1 : getA d (absF v.files ++ [(v.next, xn.pf)]) = some xd.pf := by rw [hAB, List.append_assoc, List.cons_append]; exact getA_mid hA
    unfold nmPut; rw [updF_at h1]
    unfold absF at hAB ⊢
    rw [List.map_append, putA_map (fun x : CF => x.pf)]
    rw [hAB]; simp only [List.append_assoc, List.cons_append, putA_mid hA]; rfl
theorem vol_new {n : Nat} {S : CS} (hwf : WFS n S.abs) {vol : Int} {v : CV} (hv : getA vol S.vols = some v) : getA v.next v.files = none ∧ 2 ≤ v.next ∧ v.next ≤ 2 + n := by
  have hw := hwf.vol vol v.abs (by rw [absV_get, hv]; rfl)
  refine ⟨?_, hw.two, hw.most⟩
  cases h : getA v.next v.files with
  | none => rfl
  | some x =>
    have := hw.rng v.next x.pf (by show getA v.next (absF v.files) = _; rw [absF_get, h]; rfl)
    have h2 : v.next < v.next := this.2.1
    omega

theorem create_e (S : CS) (hS : S.Ok) (n : Nat) (hwf : WFS n S.abs) (hn : n ≤ 100) (M : Mem) (c : CL) (ca : Option Addr) (ck : Nat) (hC : CallOk M c ca ck) (w : Wy) (na : Option Addr) (nc : Nat) (hW : WyOk M w na nc) (o : Wy) (oa : Option Addr) (oc : Nat) (hO : WyOk M o oa oc) (e : Int) (hf : freshS S.abs w w.1 none = .error e) :
    SpecL Tryz.prog 51 #[pt S.b, clV c ca ck, wyV w na nc, wyV o oa oc] M S.own fun u M' L' => OpP S.b (createS S.abs c w) u M' L' := by
  refine SpecL.mem fun hnd hdis => ?_
  have hVa := addL_in (M := M) hnd
  have hMa := addL_le hdis
  have hVw : ∀ L, SubL S.own L → Vw M L S.own := fun L h => Vw.of
  have he := freshS_err hwf hf
  refine spec_body (vs := [_, _, _, _]) 84 _ Tryz.func51 rfl Tryz.ntmps51 rfl rfl ?_; intro W
  refine jc_seq ?_
  refine jc_region ?_
  refine jl_h rfl rfl (hBox (cs := [_, _, _, _, _, _, _]) rfl rfl rfl rfl) ?_; rintro _ _ _ ⟨b5, rfl, rfl, rfl⟩
  refine jl_h rfl rfl (hBox (cs := [_, _]) rfl rfl rfl rfl) ?_; rintro _ _ _ ⟨b6, rfl, rfl, rfl⟩
  refine jl_h rfl rfl (hBox (cs := [_, _]) rfl rfl rfl rfl) ?_; rintro _ _ _ ⟨b7, rfl, rfl, rfl⟩
  refine jl_h rfl rfl (hAlloc rfl rfl) ?_; rintro _ _ _ ⟨b8, rfl, rfl, rfl⟩
  refine jl_nil ?_
  refine jT ?_
  refine jc_seq ?_
  refine jc_region ?_
  refine jp rfl ?_
  refine jl_q rfl rfl (qLdL rfl rfl rfl rfl rfl (by first | (simp only [Nat.reduceAdd, Nat.zero_add, Nat.add_zero, List.drop_succ_cons, List.drop_zero, List.drop_nil, List.take_succ_cons, List.take_zero, List.take_nil, List.cons_append, List.nil_append, List.append_nil, List.length_cons, List.length_nil]; try rfl) | rfl)) ?_
  refine jl_q rfl rfl (qFieldAddr rfl rfl rfl rfl rfl) ?_
  refine jl_q rfl rfl (qLd rfl rfl rfl rfl (CJ.loc rfl)) ?_
  refine jl_q rfl rfl (qEq (qCallM (R := S.own) rfl rfl rfl rfl rfl (by kernel_rfl) (SubL.sub) (fresh_spec S hS n hwf (addL M S.own) hVa w na nc (hW.mono hMa) w.1 none (.pointer none) hnd (fun _ => .inl ⟨rfl, rfl⟩))) (by rw [hf]; try rfl)) ?_
  iterate 7 refine jp rfl ?_
  refine jl_nil ?_
  refine jT ?_
  refine jc_seq ?_
  refine jc_seq ?_
  refine jc_region ?_
  refine jp rfl ?_
  refine jf rfl (decide_eq_false (by omega)) ?_
  refine jl_nil ?_
  refine jT ?_
  refine jc_no rfl ?_
  refine jc_skip ?_
  refine jT ?_
  refine jc_seq ?_
  refine jc_seq ?_
  refine jc_region ?_
  refine jp rfl ?_
  refine jt rfl (decide_eq_true (by omega)) ?_
  refine jl_nil ?_
  refine jT ?_
  refine jc_yes rfl ?_
  refine jc_seq ?_
  refine jc_region ?_
  refine jp rfl ?_
  refine jl_q rfl rfl (qCall rfl rfl rfl rfl rfl (by kernel_rfl) (told_walk e M)) ?_
  refine jl_s rfl (hStoreL rfl rfl rfl rfl rfl rfl rfl rfl (by first | (simp only [Nat.reduceAdd, Nat.zero_add, Nat.add_zero, List.drop_succ_cons, List.drop_zero, List.drop_nil, List.take_succ_cons, List.take_zero, List.take_nil, List.cons_append, List.nil_append, List.append_nil, List.length_cons, List.length_nil]; try rfl) | rfl)) ?_; rintro _ _ _ ⟨rfl, rfl⟩
  refine jl_nil ?_
  refine jT ?_
  refine jc_ret ?_
  refine jTr ?_
  refine jrsd (rs := [_]) (S.own) (by first | (rw [List.append_nil]; exact List.sublist_append_left _ _) | repeat (first | exact List.Sublist.refl _ | exact List.sublist_append_left _ _ | apply List.Sublist.cons)) rfl (.cons (.agg rfl rfl rfl) .nil) ?_
  have hr : createS S.abs c w = (S.abs, told e) := by
    unfold createS; rw [hf]
  rw [hr]; exact OpP.plain (r := (S.abs, _)) hS rfl rfl rfl rfl

theorem create_frz (S : CS) (hS : S.Ok) (n : Nat) (hwf : WFS n S.abs) (hn : n ≤ 100) (M : Mem) (c : CL) (ca : Option Addr) (ck : Nat) (hC : CallOk M c ca ck) (w : Wy) (na : Option Addr) (nc : Nat) (hW : WyOk M w na nc) (o : Wy) (oa : Option Addr) (oc : Nat) (hO : WyOk M o oa oc) (d : Int) (hfr : freshS S.abs w w.1 none = .ok d) (v : CV) (xd : CF) (hv : getA w.1 S.vols = some v) (hxd : getA d v.files = some xd) (hf : frozenS S.abs w.1 = true) :
    SpecL Tryz.prog 51 #[pt S.b, clV c ca ck, wyV w na nc, wyV o oa oc] M S.own fun u M' L' => OpP S.b (createS S.abs c w) u M' L' := by
  refine SpecL.mem fun hnd hdis => ?_
  have hVa := addL_in (M := M) hnd
  have hMa := addL_le hdis
  have hVw : ∀ L, SubL S.own L → Vw M L S.own := fun L h => Vw.of
  refine spec_body (vs := [_, _, _, _]) 84 _ Tryz.func51 rfl Tryz.ntmps51 rfl rfl ?_; intro W
  refine jc_seq ?_
  refine jc_region ?_
  refine jl_h rfl rfl (hBox (cs := [_, _, _, _, _, _, _]) rfl rfl rfl rfl) ?_; rintro _ _ _ ⟨b5, rfl, rfl, rfl⟩
  refine jl_h rfl rfl (hBox (cs := [_, _]) rfl rfl rfl rfl) ?_; rintro _ _ _ ⟨b6, rfl, rfl, rfl⟩
  refine jl_h rfl rfl (hBox (cs := [_, _]) rfl rfl rfl rfl) ?_; rintro _ _ _ ⟨b7, rfl, rfl, rfl⟩
  refine jl_h rfl rfl (hAlloc rfl rfl) ?_; rintro _ _ _ ⟨b8, rfl, rfl, rfl⟩
  refine jl_nil ?_
  refine jT ?_
  refine jc_seq ?_
  refine jc_region ?_
  refine jp rfl ?_
  refine jl_q rfl rfl (qLdL rfl rfl rfl rfl rfl (by first | (simp only [Nat.reduceAdd, Nat.zero_add, Nat.add_zero, List.drop_succ_cons, List.drop_zero, List.drop_nil, List.take_succ_cons, List.take_zero, List.take_nil, List.cons_append, List.nil_append, List.append_nil, List.length_cons, List.length_nil]; try rfl) | rfl)) ?_
  refine jl_q rfl rfl (qFieldAddr rfl rfl rfl rfl rfl) ?_
  refine jl_q rfl rfl (qLd rfl rfl rfl rfl (CJ.loc rfl)) ?_
  refine jl_q rfl rfl (qEq (v' := .tuple #[.int .u32 d, pt xd.b, .int .i64 0]) (qCallM (R := S.own) rfl rfl rfl rfl rfl (by kernel_rfl) (SubL.sub) (fresh_spec S hS n hwf (addL M S.own) hVa w na nc (hW.mono hMa) w.1 none (.pointer none) hnd (fun _ => .inl ⟨rfl, rfl⟩))) (by rw [hfr]; exact walkV_at hv hxd)) ?_
  iterate 7 refine jp rfl ?_
  refine jl_nil ?_
  refine jT ?_
  refine jc_seq ?_
  refine jc_seq ?_
  refine jc_region ?_
  refine jp rfl ?_
  refine jt rfl (decide_eq_true (by omega)) ?_
  refine jl_nil ?_
  refine jT ?_
  refine jc_yes rfl ?_
  refine jc_region ?_
  refine jp rfl ?_
  refine jl_q rfl rfl (qFieldAddr rfl rfl rfl rfl rfl) ?_
  refine jl_q rfl rfl (qLd rfl rfl rfl rfl (CJ.loc rfl)) ?_
  refine jl_q rfl rfl (qEq (v' := .int .i64 170) (qCallM (R := S.own) rfl rfl rfl rfl rfl (by kernel_rfl) (SubL.sub) (turns_spec S hS n hwf (addL M S.own) hVa w.1 v hv)) (by rw [hf]; rfl)) ?_
  refine jp rfl ?_
  refine jl_nil ?_
  refine jT ?_
  refine jc_seq ?_
  refine jc_seq ?_
  refine jc_region ?_
  refine jp rfl ?_
  refine jt rfl (decide_eq_true (by omega)) ?_
  refine jl_nil ?_
  refine jT ?_
  refine jc_yes rfl ?_
  refine jc_seq ?_
  refine jc_region ?_
  refine jp rfl ?_
  refine jl_q rfl rfl (qCall rfl rfl rfl rfl rfl (by kernel_rfl) (told_walk 170 M)) ?_
  refine jl_s rfl (hStoreL rfl rfl rfl rfl rfl rfl rfl rfl (by first | (simp only [Nat.reduceAdd, Nat.zero_add, Nat.add_zero, List.drop_succ_cons, List.drop_zero, List.drop_nil, List.take_succ_cons, List.take_zero, List.take_nil, List.cons_append, List.nil_append, List.append_nil, List.length_cons, List.length_nil]; try rfl) | rfl)) ?_; rintro _ _ _ ⟨rfl, rfl⟩
  refine jl_nil ?_
  refine jT ?_
  refine jc_ret ?_
  refine jTr ?_
  refine jrsd (rs := [_]) (S.own) (by first | (rw [List.append_nil]; exact List.sublist_append_left _ _) | repeat (first | exact List.Sublist.refl _ | exact List.sublist_append_left _ _ | apply List.Sublist.cons)) rfl (.cons (.agg rfl rfl rfl) .nil) ?_
  have hr : createS S.abs c w = (S.abs, told 170) := by
    unfold createS; rw [hfr]; simp only; rw [hf]; rfl
  rw [hr]; exact OpP.plain (r := (S.abs, _)) hS rfl rfl rfl rfl

set_option maxHeartbeats 1000000 in
theorem create_ok (S : CS) (hS : S.Ok) (n : Nat) (hwf : WFS n S.abs) (hn : n ≤ 100) (M : Mem) (c : CL) (ca : Option Addr) (ck : Nat) (hC : CallOk M c ca ck) (w : Wy) (na : Option Addr) (nc : Nat) (hW : WyOk M w na nc) (o : Wy) (oa : Option Addr) (oc : Nat) (hO : WyOk M o oa oc) (d : Int) (hfr : freshS S.abs w w.1 none = .ok d) (v : CV) (xd : CF) (hv : getA w.1 S.vols = some v) (hxd : getA d v.files = some xd) (hdd : xd.pf.dir = true) (hno : getA (lastN w) xd.pf.names = none) (hne : w.2 ≠ []) (hf : frozenS S.abs w.1 = false) :
    SpecL Tryz.prog 51 #[pt S.b, clV c ca ck, wyV w na nc, wyV o oa oc] M S.own fun u M' L' => OpP S.b (createS S.abs c w) u M' L' := by
  refine SpecL.mem fun hnd hdis => ?_
  have hVa := addL_in (M := M) hnd
  have hMa := addL_le hdis
  have hVw : ∀ L, SubL S.own L → Vw M L S.own := fun L h => Vw.of
  obtain ⟨nmb, nmo, e1, e2, e3⟩ := ((hS.v hv).x hxd).map hdd
  obtain ⟨hnew, hn2, hn3⟩ := vol_new hwf hv
  refine spec_body (vs := [_, _, _, _]) 84 _ Tryz.func51 rfl Tryz.ntmps51 rfl rfl ?_; intro W
  refine jc_seq ?_
  refine jc_region ?_
  refine jl_h rfl rfl (hBox (cs := [_, _, _, _, _, _, _]) rfl rfl rfl rfl) ?_; rintro _ _ _ ⟨b5, rfl, rfl, rfl⟩
  refine jl_h rfl rfl (hBox (cs := [_, _]) rfl rfl rfl rfl) ?_; rintro _ _ _ ⟨b6, rfl, rfl, rfl⟩
  refine jl_h rfl rfl (hBox (cs := [_, _]) rfl rfl rfl rfl) ?_; rintro _ _ _ ⟨b7, rfl, rfl, rfl⟩
  refine jl_h rfl rfl (hAlloc rfl rfl) ?_; rintro _ _ _ ⟨b8, rfl, rfl, rfl⟩
  refine jl_nil ?_
  refine jT ?_
  refine jc_seq ?_
  refine jc_region ?_
  refine jp rfl ?_
  refine jl_q rfl rfl (qLdL rfl rfl rfl rfl rfl (by first | (simp only [Nat.reduceAdd, Nat.zero_add, Nat.add_zero, List.drop_succ_cons, List.drop_zero, List.drop_nil, List.take_succ_cons, List.take_zero, List.take_nil, List.cons_append, List.nil_append, List.append_nil, List.length_cons, List.length_nil]; try rfl) | rfl)) ?_
  refine jl_q rfl rfl (qFieldAddr rfl rfl rfl rfl rfl) ?_
  refine jl_q rfl rfl (qLd rfl rfl rfl rfl (CJ.loc rfl)) ?_
  refine jl_q rfl rfl (qEq (v' := .tuple #[.int .u32 d, pt xd.b, .int .i64 0]) (qCallM (R := S.own) rfl rfl rfl rfl rfl (by kernel_rfl) (SubL.sub) (fresh_spec S hS n hwf (addL M S.own) hVa w na nc (hW.mono hMa) w.1 none (.pointer none) hnd (fun _ => .inl ⟨rfl, rfl⟩))) (by rw [hfr]; exact walkV_at hv hxd)) ?_
  iterate 7 refine jp rfl ?_
  refine jl_nil ?_
  refine jT ?_
  refine jc_seq ?_
  refine jc_seq ?_
  refine jc_region ?_
  refine jp rfl ?_
  refine jt rfl (decide_eq_true (by omega)) ?_
  refine jl_nil ?_
  refine jT ?_
  refine jc_yes rfl ?_
  refine jc_region ?_
  refine jp rfl ?_
  refine jl_q rfl rfl (qFieldAddr rfl rfl rfl rfl rfl) ?_
  refine jl_q rfl rfl (qLd rfl rfl rfl rfl (CJ.loc rfl)) ?_
  refine jl_q rfl rfl (qEq (v' := .int .i64 0) (qCallM (R := S.own) rfl rfl rfl rfl rfl (by kernel_rfl) (SubL.sub) (turns_spec S hS n hwf (addL M S.own) hVa w.1 v hv)) (by rw [hf]; rfl)) ?_
  refine jp rfl ?_
  refine jl_nil ?_
  refine jT ?_
  refine jc_seq ?_
  refine jc_seq ?_
  refine jc_region ?_
  refine jp rfl ?_
  refine jf rfl (decide_eq_false (by omega)) ?_
  refine jl_nil ?_
  refine jT ?_
  refine jc_no rfl ?_
  refine jc_skip ?_
  refine jT ?_
  refine jc_seq ?_
  refine jc_draw [(0, true), (1, true), (2, true), (3, true), (4, true), (5, true), (6, true), (7, true)] _ (by kernel_rfl) (by kernel_rfl) (by kernel_rfl) rfl (fun _ h => h) ?_
  refine dp rfl rfl ?_
  refine jd_q rfl rfl rfl (qNilCheck rfl rfl rfl) ?_
  refine jd_q rfl rfl rfl (qFieldAddr rfl rfl rfl rfl rfl) ?_
  refine jd_q rfl rfl rfl (qLd rfl rfl rfl rfl ((Vw.s Vw.of).cj rfl)) ?_
  refine jd_q rfl rfl rfl (qFieldAddr rfl rfl rfl rfl rfl) ?_
  refine jd_q rfl rfl rfl (qLd rfl rfl rfl rfl (CJ.loc rfl)) ?_
  refine jd_q rfl rfl rfl (qEq (v' := pt v.b) (qLookupO kI (z := .pointer none) rfl rfl rfl rfl (by kernel_rfl) (Vw.mo Vw.of) hS.mo) (by rw [ptV_get, hv]; try rfl)) ?_
  refine dp rfl rfl ?_
  refine jd_nil ?_
  refine jPn ?_
  refine jT ?_
  refine jc_seq ?_
  refine jc_region ?_
  refine jl_q rfl rfl (qBuild (cs := [_, _, _, _]) rfl rfl rfl (by rfl)) ?_
  refine jl_h rfl rfl (hBox (cs := [_, _, _, _]) rfl rfl rfl rfl) ?_; rintro _ _ _ ⟨b42, rfl, rfl, rfl⟩
  refine jp rfl ?_
  refine jl_nil ?_
  refine jT ?_
  refine jc_seq ?_
  refine jc_seq ?_
  refine jc_region ?_
  refine jl_q rfl rfl (qFieldAddr rfl rfl rfl rfl rfl) ?_
  refine jl_q rfl rfl (qLd rfl rfl rfl rfl (CJ.loc rfl)) ?_
  refine js rfl (fun h45 => ?_) (fun h45 => ?_)
  · refine jl_nil ?_
    refine jT ?_
    refine jc_yes rfl ?_
    refine jc_region ?_
    iterate 2 refine jp rfl ?_
    refine jl_h rfl rfl (hMakeMapO rfl rfl) ?_; rintro _ _ _ ⟨b48, rfl, rfl, rfl⟩
    refine jl_q rfl rfl (qNilCheck rfl rfl rfl) ?_
    refine jl_q rfl rfl (qFieldAddr rfl rfl rfl rfl rfl) ?_
    refine jl_s rfl (hStoreL rfl rfl rfl rfl rfl rfl rfl rfl (by first | (simp only [Nat.reduceAdd, Nat.zero_add, Nat.add_zero, List.drop_succ_cons, List.drop_zero, List.drop_nil, List.take_succ_cons, List.take_zero, List.take_nil, List.cons_append, List.nil_append, List.append_nil, List.length_cons, List.length_nil]; try rfl) | rfl)) ?_; rintro _ _ _ ⟨rfl, rfl⟩
    refine jl_q rfl rfl (qNilCheck rfl rfl rfl) ?_
    refine jl_q rfl rfl (qFieldAddr rfl rfl rfl rfl rfl) ?_
    refine jl_s rfl (hStoreL rfl rfl rfl rfl rfl rfl rfl rfl (by first | (simp only [Nat.reduceAdd, Nat.zero_add, Nat.add_zero, List.drop_succ_cons, List.drop_zero, List.drop_nil, List.take_succ_cons, List.take_zero, List.take_nil, List.cons_append, List.nil_append, List.append_nil, List.length_cons, List.length_nil]; try rfl) | rfl)) ?_; rintro _ _ _ ⟨rfl, rfl⟩
    refine jl_nil ?_
    refine jT ?_
    refine jc_seq ?_
    refine jc_region ?_
    refine jp rfl ?_
    refine jl_q rfl rfl (qNilCheck rfl rfl rfl) ?_
    refine jl_q rfl rfl (qFieldAddr rfl rfl rfl rfl rfl) ?_
    refine jl_q rfl rfl (qLd rfl rfl rfl rfl ((Vw.v (Vw.vol Vw.of hv)).cj rfl)) ?_
    refine jp rfl ?_
    refine jl_nil ?_
    refine jT ?_
    refine jc_seq ?_
    refine jc_region ?_
    refine jp rfl ?_
    refine jl_q rfl rfl (qNilCheck rfl rfl rfl) ?_
    refine jl_q rfl rfl (qFieldAddr rfl rfl rfl rfl rfl) ?_
    refine jl_q rfl rfl (qLd rfl rfl rfl rfl ((Vw.v (Vw.vol Vw.of hv)).cj rfl)) ?_
    refine jl_q rfl rfl (qAk rfl rfl rfl rfl rfl (by rw [IntKind.wrap_u32]; omega)) ?_
    refine jl_q rfl rfl (qNilCheck rfl rfl rfl) ?_
    refine jl_q rfl rfl (qFieldAddr rfl rfl rfl rfl rfl) ?_
    refine jl_s rfl (hStV { v with next := v.next + 1 } rfl rfl rfl rfl rfl rfl (by omega) hv rfl rfl rfl rfl rfl) ?_; rintro _ _ _ ⟨rfl, rfl⟩
    refine jl_nil ?_
    refine jT ?_
    refine jc_seq ?_
    obtain ⟨R, hp1, hp2⟩ := create_foc hv hxd e2
    refine jc_weak (L' := (v.mb, v.mo) :: (nmb, nmo) :: (v.b, vObj { v with next := v.next + 1 }) :: (xd.b, fObj xd) :: (R ++ _)) (fun _ h => h.perm (hp1.append_right _)) ?_
    refine jc_drawP (p := { A := fun i => !([13, 15, 16, 18].contains i), U := fun i => !([11, 12, 13, 14, 15, 16, 17, 18].contains i) }) [(0, true), (1, true), (2, true), (3, true), (4, true), (5, true), (6, true), (7, true), (8, true), (9, true), (10, true), (11, true), (12, true), (13, false), (14, true), (15, false), (16, false), (17, true), (18, false)] _ (_) ([]) (by kernel_rfl) (by kernel_rfl) (by kernel_rfl) (by kernel_rfl) rfl (fun _ h => h) (MLe.refl _) (by simp) ?_
    refine dp rfl rfl ?_
    refine jd_q rfl rfl rfl (qNilCheck rfl rfl rfl) ?_
    refine jd_q rfl rfl rfl (qFieldAddr rfl rfl rfl rfl rfl) ?_
    refine jd_q rfl rfl rfl (qLd rfl rfl rfl rfl (OJ.cj OJ.of rfl)) ?_
    iterate 2 refine dp rfl rfl ?_
    refine jd_q rfl rfl rfl (qNilCheck rfl rfl rfl) ?_
    refine jd_q rfl rfl rfl (qFieldAddr rfl rfl rfl rfl rfl) ?_
    refine jd_q rfl rfl rfl (qEq (qLd rfl rfl rfl rfl (OJ.cj OJ.of rfl)) e1) ?_
    refine jd_q rfl rfl rfl (qLdL rfl rfl rfl rfl rfl (by first | (simp only [Nat.reduceAdd, Nat.zero_add, Nat.add_zero, List.drop_succ_cons, List.drop_zero, List.drop_nil, List.take_succ_cons, List.take_zero, List.take_nil, List.cons_append, List.nil_append, List.append_nil, List.length_cons, List.length_nil]; try rfl) | rfl)) ?_
    refine jd_q rfl rfl rfl (qCall rfl rfl rfl rfl rfl (by kernel_rfl) (last_walk w na nc M hW.sn hne hW.big)) ?_
    iterate 2 refine dp rfl rfl ?_
    refine jd_eh rfl rfl rfl (hMapEntryO kU (z := .pointer none) rfl rfl rfl rfl (by kernel_rfl) (hS.v hv).mo) ?_; rintro _ _ _ ⟨rfl, mo2, born1, rfl, rfl, hmo2, hst2⟩
    refine ⟨MLe.refl _, by simp, ?_⟩
    refine ep rfl rfl ?_
    refine je_s rfl rfl (hEntryStoreO kU rfl rfl rfl rfl rfl hmo2 hst2) ?_; rintro _ _ _ ⟨rfl, mo3, rfl, hmo3⟩
    refine ⟨MLe.refl _, by simp, ?_⟩
    rw [putA_put] at hmo3
    refine je_h rfl rfl rfl (hMapEntryO kS (z := .int .u32 0) rfl rfl rfl rfl (by kernel_rfl) e3) ?_; rintro _ _ _ ⟨rfl, nmo2, born2, rfl, rfl, hnm2, hst3⟩
    refine ⟨MLe.refl _, by simp, ?_⟩
    refine ep rfl rfl ?_
    refine je_s rfl rfl (hEntryStoreO kS rfl rfl rfl rfl rfl hnm2 hst3) ?_; rintro _ _ _ ⟨rfl, nmo3, rfl, hnm3⟩
    refine ⟨MLe.refl _, by simp, ?_⟩
    rw [putA_putG] at hnm3
    refine je_nil ?_
    refine jPn ?_
    refine jT ?_
    refine jc_seq ?_
    refine jc_region ?_
    refine jp rfl ?_
    refine jl_q rfl rfl (qConv64 rfl rfl rfl (by omega)) ?_
    refine jl_q rfl rfl (qBuild (cs := [_, _, _, _, _, _, _, _]) rfl rfl rfl (by rfl)) ?_
    refine jl_s rfl (hStoreL rfl rfl rfl rfl rfl rfl rfl rfl (by first | (simp only [Nat.reduceAdd, Nat.zero_add, Nat.add_zero, List.drop_succ_cons, List.drop_zero, List.drop_nil, List.take_succ_cons, List.take_zero, List.take_nil, List.cons_append, List.nil_append, List.append_nil, List.length_cons, List.length_nil]; try rfl) | rfl)) ?_; rintro _ _ _ ⟨rfl, rfl⟩
    refine jl_nil ?_
    refine jT ?_
    refine jc_ret ?_
    refine jq_weak (L' := (S.setV w.1 { v with next := v.next + 1, mo := mo3, files := putA d { xd with nR := [(nmb, nmo3)], pf := { xd.pf with names := putA (lastN w) v.next xd.pf.names } } v.files ++ [(v.next, (⟨⟨true, 1, [], []⟩, b42, .slice none 0 0, [], .map (some b48), [(b48, .map #[] 0)]⟩ : CF))] }).own ++ [(b8, .cells [.int .i64 0, .int .i64 v.next, .slice none 0 0, .slice none 0 0, .int .u32 0, .bool false, .int .i64 0, .int .i64 0].toArray 36 (0, 0))]) (fun _ h => h.subC fun f => ?_) ?_
    · have hs := perm_sum (hp2 mo3 nmo3 (putA (lastN w) v.next xd.pf.names) v.next (⟨⟨true, 1, [], []⟩, b42, .slice none 0 0, [], .map (some b48), [(b48, .map #[] 0)]⟩ : CF)) f
      have he : f (b42, fObj (⟨⟨true, 1, [], []⟩, b42, .slice none 0 0, [], .map (some b48), [(b48, .map #[] 0)]⟩ : CF)) = f (b42, .cells [.bool true, .int .i64 1, .slice none 0 0, .map (some b48)].toArray 135 (0, 0)) := rfl
      unfold CF.own at hs; simp only [List.map_append, List.sum_append, List.map_cons, List.map_nil, List.sum_cons, List.sum_nil, List.cons_append, List.nil_append, List.append_nil] at hs ⊢; omega
    refine jrsd (rs := [_]) ((S.setV w.1 { v with next := v.next + 1, mo := mo3, files := putA d { xd with nR := [(nmb, nmo3)], pf := { xd.pf with names := putA (lastN w) v.next xd.pf.names } } v.files ++ [(v.next, (⟨⟨true, 1, [], []⟩, b42, .slice none 0 0, [], .map (some b48), [(b48, .map #[] 0)]⟩ : CF))] }).own) (by first | (rw [List.append_nil]; exact List.sublist_append_left _ _) | repeat (first | exact List.Sublist.refl _ | exact List.sublist_append_left _ _ | apply List.Sublist.cons)) rfl (.cons (.agg rfl rfl rfl) .nil) ?_
    obtain ⟨k1, k2⟩ := create_ok2 (xn := (⟨⟨true, 1, [], []⟩, b42, .slice none 0 0, [], .map (some b48), [(b48, .map #[] 0)]⟩ : CF)) hS hv hxd hdd e1 hnew hmo3 (by rw [← names_put]; exact hnm3) ⟨Byt.nil, .inl ⟨rfl, b48, _, rfl, rfl, MapOf.empty⟩⟩
    have hr : createS S.abs c w = ((S.setV w.1 { v with next := v.next + 1, mo := mo3, files := putA d { xd with nR := [(nmb, nmo3)], pf := { xd.pf with names := putA (lastN w) v.next xd.pf.names } } v.files ++ [(v.next, (⟨⟨true, 1, [], []⟩, b42, .slice none 0 0, [], .map (some b48), [(b48, .map #[] 0)]⟩ : CF))] }).abs, { id := v.next }) := by
      rw [k2]; unfold createS; rw [hfr]; simp only; rw [hf]; simp only [Bool.false_eq_true, if_false]; rw [absV_get, hv]; simp only [Option.map_some]; rw [decide_eq_true (by omega)]; rfl
    rw [hr]; exact OpP.plain (r := (_, _)) k1 rfl rfl rfl rfl
  · refine jl_nil ?_
    refine jT ?_
    refine jc_no rfl ?_
    refine jc_skip ?_
    refine jT ?_
    refine jc_seq ?_
    refine jc_region ?_
    refine jp rfl ?_
    refine jl_q rfl rfl (qNilCheck rfl rfl rfl) ?_
    refine jl_q rfl rfl (qFieldAddr rfl rfl rfl rfl rfl) ?_
    refine jl_q rfl rfl (qLd rfl rfl rfl rfl ((Vw.v (Vw.vol Vw.of hv)).cj rfl)) ?_
    refine jp rfl ?_
    refine jl_nil ?_
    refine jT ?_
    refine jc_seq ?_
    refine jc_region ?_
    refine jp rfl ?_
    refine jl_q rfl rfl (qNilCheck rfl rfl rfl) ?_
    refine jl_q rfl rfl (qFieldAddr rfl rfl rfl rfl rfl) ?_
    refine jl_q rfl rfl (qLd rfl rfl rfl rfl ((Vw.v (Vw.vol Vw.of hv)).cj rfl)) ?_
    refine jl_q rfl rfl (qAk rfl rfl rfl rfl rfl (by rw [IntKind.wrap_u32]; omega)) ?_
    refine jl_q rfl rfl (qNilCheck rfl rfl rfl) ?_
    refine jl_q rfl rfl (qFieldAddr rfl rfl rfl rfl rfl) ?_
    refine jl_s rfl (hStV { v with next := v.next + 1 } rfl rfl rfl rfl rfl rfl (by omega) hv rfl rfl rfl rfl rfl) ?_; rintro _ _ _ ⟨rfl, rfl⟩
    refine jl_nil ?_
    refine jT ?_
    refine jc_seq ?_
    obtain ⟨R, hp1, hp2⟩ := create_foc hv hxd e2
    refine jc_weak (L' := (v.mb, v.mo) :: (nmb, nmo) :: (v.b, vObj { v with next := v.next + 1 }) :: (xd.b, fObj xd) :: (R ++ _)) (fun _ h => h.perm (hp1.append_right _)) ?_
    refine jc_drawP (p := { A := fun i => !([13, 15, 16, 18].contains i), U := fun i => !([11, 12, 13, 14, 15, 16, 17, 18].contains i) }) [(0, true), (1, true), (2, true), (3, true), (4, true), (5, true), (6, true), (7, true), (8, true), (9, true), (10, true), (11, true), (12, true), (13, false), (14, true), (15, false), (16, false), (17, true), (18, false)] _ (_) ([]) (by kernel_rfl) (by kernel_rfl) (by kernel_rfl) (by kernel_rfl) rfl (fun _ h => h) (MLe.refl _) (by simp) ?_
    refine dp rfl rfl ?_
    refine jd_q rfl rfl rfl (qNilCheck rfl rfl rfl) ?_
    refine jd_q rfl rfl rfl (qFieldAddr rfl rfl rfl rfl rfl) ?_
    refine jd_q rfl rfl rfl (qLd rfl rfl rfl rfl (OJ.cj OJ.of rfl)) ?_
    iterate 2 refine dp rfl rfl ?_
    refine jd_q rfl rfl rfl (qNilCheck rfl rfl rfl) ?_
    refine jd_q rfl rfl rfl (qFieldAddr rfl rfl rfl rfl rfl) ?_
    refine jd_q rfl rfl rfl (qEq (qLd rfl rfl rfl rfl (OJ.cj OJ.of rfl)) e1) ?_
    refine jd_q rfl rfl rfl (qLdL rfl rfl rfl rfl rfl (by first | (simp only [Nat.reduceAdd, Nat.zero_add, Nat.add_zero, List.drop_succ_cons, List.drop_zero, List.drop_nil, List.take_succ_cons, List.take_zero, List.take_nil, List.cons_append, List.nil_append, List.append_nil, List.length_cons, List.length_nil]; try rfl) | rfl)) ?_
    refine jd_q rfl rfl rfl (qCall rfl rfl rfl rfl rfl (by kernel_rfl) (last_walk w na nc M hW.sn hne hW.big)) ?_
    iterate 2 refine dp rfl rfl ?_
    refine jd_eh rfl rfl rfl (hMapEntryO kU (z := .pointer none) rfl rfl rfl rfl (by kernel_rfl) (hS.v hv).mo) ?_; rintro _ _ _ ⟨rfl, mo2, born1, rfl, rfl, hmo2, hst2⟩
    refine ⟨MLe.refl _, by simp, ?_⟩
    refine ep rfl rfl ?_
    refine je_s rfl rfl (hEntryStoreO kU rfl rfl rfl rfl rfl hmo2 hst2) ?_; rintro _ _ _ ⟨rfl, mo3, rfl, hmo3⟩
    refine ⟨MLe.refl _, by simp, ?_⟩
    rw [putA_put] at hmo3
    refine je_h rfl rfl rfl (hMapEntryO kS (z := .int .u32 0) rfl rfl rfl rfl (by kernel_rfl) e3) ?_; rintro _ _ _ ⟨rfl, nmo2, born2, rfl, rfl, hnm2, hst3⟩
    refine ⟨MLe.refl _, by simp, ?_⟩
    refine ep rfl rfl ?_
    refine je_s rfl rfl (hEntryStoreO kS rfl rfl rfl rfl rfl hnm2 hst3) ?_; rintro _ _ _ ⟨rfl, nmo3, rfl, hnm3⟩
    refine ⟨MLe.refl _, by simp, ?_⟩
    rw [putA_putG] at hnm3
    refine je_nil ?_
    refine jPn ?_
    refine jT ?_
    refine jc_seq ?_
    refine jc_region ?_
    refine jp rfl ?_
    refine jl_q rfl rfl (qConv64 rfl rfl rfl (by omega)) ?_
    refine jl_q rfl rfl (qBuild (cs := [_, _, _, _, _, _, _, _]) rfl rfl rfl (by rfl)) ?_
    refine jl_s rfl (hStoreL rfl rfl rfl rfl rfl rfl rfl rfl (by first | (simp only [Nat.reduceAdd, Nat.zero_add, Nat.add_zero, List.drop_succ_cons, List.drop_zero, List.drop_nil, List.take_succ_cons, List.take_zero, List.take_nil, List.cons_append, List.nil_append, List.append_nil, List.length_cons, List.length_nil]; try rfl) | rfl)) ?_; rintro _ _ _ ⟨rfl, rfl⟩
    refine jl_nil ?_
    refine jT ?_
    refine jc_ret ?_
    refine jq_weak (L' := (S.setV w.1 { v with next := v.next + 1, mo := mo3, files := putA d { xd with nR := [(nmb, nmo3)], pf := { xd.pf with names := putA (lastN w) v.next xd.pf.names } } v.files ++ [(v.next, (⟨⟨false, 1, [], []⟩, b42, .slice none 0 0, [], .map none, []⟩ : CF))] }).own ++ [(b8, .cells [.int .i64 0, .int .i64 v.next, .slice none 0 0, .slice none 0 0, .int .u32 0, .bool false, .int .i64 0, .int .i64 0].toArray 36 (0, 0))]) (fun _ h => h.subC fun f => ?_) ?_
    · have hs := perm_sum (hp2 mo3 nmo3 (putA (lastN w) v.next xd.pf.names) v.next (⟨⟨false, 1, [], []⟩, b42, .slice none 0 0, [], .map none, []⟩ : CF)) f
      have he : f (b42, fObj (⟨⟨false, 1, [], []⟩, b42, .slice none 0 0, [], .map none, []⟩ : CF)) = f (b42, .cells [.bool false, .int .i64 1, .slice none 0 0, .map none].toArray 135 (0, 0)) := rfl
      unfold CF.own at hs; simp only [List.map_append, List.sum_append, List.map_cons, List.map_nil, List.sum_cons, List.sum_nil, List.cons_append, List.nil_append, List.append_nil] at hs ⊢; omega
    refine jrsd (rs := [_]) ((S.setV w.1 { v with next := v.next + 1, mo := mo3, files := putA d { xd with nR := [(nmb, nmo3)], pf := { xd.pf with names := putA (lastN w) v.next xd.pf.names } } v.files ++ [(v.next, (⟨⟨false, 1, [], []⟩, b42, .slice none 0 0, [], .map none, []⟩ : CF))] }).own) (by first | (rw [List.append_nil]; exact List.sublist_append_left _ _) | repeat (first | exact List.Sublist.refl _ | exact List.sublist_append_left _ _ | apply List.Sublist.cons)) rfl (.cons (.agg rfl rfl rfl) .nil) ?_
    obtain ⟨k1, k2⟩ := create_ok2 (xn := (⟨⟨false, 1, [], []⟩, b42, .slice none 0 0, [], .map none, []⟩ : CF)) hS hv hxd hdd e1 hnew hmo3 (by rw [← names_put]; exact hnm3) ⟨Byt.nil, .inr ⟨rfl, rfl, rfl, rfl⟩⟩
    have hr : createS S.abs c w = ((S.setV w.1 { v with next := v.next + 1, mo := mo3, files := putA d { xd with nR := [(nmb, nmo3)], pf := { xd.pf with names := putA (lastN w) v.next xd.pf.names } } v.files ++ [(v.next, (⟨⟨false, 1, [], []⟩, b42, .slice none 0 0, [], .map none, []⟩ : CF))] }).abs, { id := v.next }) := by
      rw [k2]; unfold createS; rw [hfr]; simp only; rw [hf]; simp only [Bool.false_eq_true, if_false]; rw [absV_get, hv]; simp only [Option.map_some]; rw [decide_eq_false (by omega)]; rfl
    rw [hr]; exact OpP.plain (r := (_, _)) k1 rfl rfl rfl rfl


end Go.Proofs.YtdjaehgadehnfaaGreatDoor
