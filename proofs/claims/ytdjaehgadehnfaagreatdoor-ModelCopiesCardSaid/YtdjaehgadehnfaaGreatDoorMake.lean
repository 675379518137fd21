/- Walks: volumes that are made. -/
import Derived.Test.YtdjaehgadehnfaaGreatDoorHo
namespace Go.Proofs.YtdjaehgadehnfaaGreatDoor
set_option linter.unusedVariables false
set_option linter.unusedSimpArgs false
open Go.RowKit Go.MapKept


theorem vols_new {n : Nat} {S : CS} (hwf : WFS n S.abs) : getA (S.next + 1) S.vols = none := by
  cases h : getA (S.next + 1) S.vols with
  | none => rfl
  | some v =>
    have := (hwf.rng (S.next + 1) v.abs (by rw [absV_get, h]; rfl)).2
    have e : S.abs.next = S.next := rfl
    omega
theorem add_ok {S : CS} (hS : S.Ok) {v : CV} (hv : v.Ok) {mo2 : Obj} (h : MapOf kI mo2 (ptV (S.vols ++ [(S.next + 1, v)]))) : ({ S with next := S.next + 1, mo := mo2, vols := S.vols ++ [(S.next + 1, v)] } : CS).Ok ∧ ({ S with next := S.next + 1, mo := mo2, vols := S.vols ++ [(S.next + 1, v)] } : CS).abs = (addS S.abs v.abs).1 := by
  refine ⟨⟨h, fun p hp => ?_⟩, ?_⟩
  · rcases List.mem_append.1 hp with hp | hp
    · exact hS.vs p hp
    · rw [List.mem_singleton.1 hp]; exact hv
  · unfold addS CS.abs; simp

theorem add_spec (S : CS) (hS : S.Ok) (n : Nat) (hwf : WFS n S.abs) (hn : n ≤ 100) (v : CV) (hv : v.Ok) (M : Mem) :
    SpecL Tryz.prog 85 #[pt S.b, pt v.b] M (S.own ++ v.own) fun u M' L' => OpP S.b (addS S.abs v.abs) u M' L' := by
  have hnx := vols_new hwf
  have h1 := hwf.most
  have h2 := hwf.low
  have h3 : S.abs.next = S.next := rfl
  refine spec_body (vs := [_, _]) 26 _ Tryz.func85 rfl Tryz.ntmps85 rfl rfl ?_; intro W
  refine jc_seq ?_
  refine jc_region ?_
  refine jl_h rfl rfl (hAlloc rfl rfl) ?_; rintro _ _ _ ⟨b4, rfl, rfl, rfl⟩
  refine jl_nil ?_
  refine jT ?_
  refine jc_seq ?_
  refine jc_region ?_
  refine jp rfl ?_
  refine jl_q rfl rfl (qNilCheck rfl rfl rfl) ?_
  refine jl_q rfl rfl (qFieldAddr rfl rfl rfl rfl rfl) ?_
  refine jl_q rfl rfl (qLd rfl rfl rfl rfl ((Vw.s (Vw.of (R := S.own))).cj rfl)) ?_
  refine ja rfl (by omega) ?_
  refine jl_q rfl rfl (qNilCheck rfl rfl rfl) ?_
  refine jl_q rfl rfl (qFieldAddr rfl rfl rfl rfl rfl) ?_
  refine jl_s rfl (hStS (S := S) (S.next + 1) rfl rfl rfl rfl rfl rfl (by omega) rfl) ?_; rintro _ _ _ ⟨rfl, rfl⟩
  refine jl_nil ?_
  refine jT ?_
  refine jc_seq ?_
  refine jc_drawP (p := { A := fun i => !([9].contains i), U := fun i => !([9].contains i) }) [(0, true), (1, true), (2, true), (3, true), (4, true), (5, true), (6, true), (7, true), (8, true), (9, false)] _ (_) ([]) (by kernel_rfl) (by kernel_rfl) (by kernel_rfl) (by kernel_rfl) rfl (fun _ h => h) (MLe.refl _) (by simp) ?_
  refine dp rfl rfl ?_
  refine jd_q rfl rfl rfl (qNilCheck rfl rfl rfl) ?_
  refine jd_q rfl rfl rfl (qFieldAddr rfl rfl rfl rfl rfl) ?_
  refine jd_q rfl rfl rfl (qLd rfl rfl rfl rfl ((Vw.s (Vw.of (R := ({ S with next := S.next + 1 } : CS).own))).cj rfl)) ?_
  refine dp rfl rfl ?_
  refine jd_q rfl rfl rfl (qNilCheck rfl rfl rfl) ?_
  refine jd_q rfl rfl rfl (qFieldAddr rfl rfl rfl rfl rfl) ?_
  refine jd_q rfl rfl rfl (qLd rfl rfl rfl rfl ((Vw.s (Vw.of (R := ({ S with next := S.next + 1 } : CS).own))).cj rfl)) ?_
  refine dp rfl rfl ?_
  refine jd_e rfl rfl (hVolPut (S := ({ S with next := S.next + 1 } : CS)) (v := v) rfl (.inl rfl) rfl rfl rfl ⟨hS.mo, hS.vs⟩ hnx) ?_; rintro _ _ _ ⟨rfl, mo2, hmo2, rfl⟩
  refine ⟨MLe.refl _, by simp, ?_⟩
  refine je_nil ?_
  refine jPn ?_
  refine jT ?_
  refine jc_seq ?_
  refine jc_region ?_
  refine jp rfl ?_
  refine jl_q rfl rfl (qNilCheck rfl rfl rfl) ?_
  refine jl_q rfl rfl (qFieldAddr rfl rfl rfl rfl rfl) ?_
  refine jl_q rfl rfl (qLd rfl rfl rfl rfl ((Vw.s (Vw.of (R := ({ S with next := S.next + 1, mo := mo2, vols := S.vols ++ [(S.next + 1, v)] } : CS).own))).cj rfl)) ?_
  refine jl_q rfl rfl (qBuild (cs := [_, _, _, _, _, _, _, _]) rfl rfl rfl (by rfl)) ?_
  refine jl_s rfl (hStoreL rfl rfl rfl rfl rfl rfl rfl rfl (by first | (simp only [Nat.reduceAdd, Nat.zero_add, Nat.add_zero, List.drop_succ_cons, List.drop_zero, List.drop_nil, List.take_succ_cons, List.take_zero, List.take_nil, List.cons_append, List.nil_append, List.append_nil, List.length_cons, List.length_nil]; try rfl) | rfl)) ?_; rintro _ _ _ ⟨rfl, rfl⟩
  refine jl_nil ?_
  refine jT ?_
  refine jc_ret ?_
  refine jrsd (rs := [_]) (({ S with next := S.next + 1, mo := mo2, vols := S.vols ++ [(S.next + 1, v)] } : CS).own) (by repeat (first | exact List.Sublist.refl _ | exact List.sublist_append_left _ _ | apply List.Sublist.cons)) rfl (.cons (.agg rfl rfl rfl) .nil) ?_
  obtain ⟨k1, k2⟩ := add_ok hS hv hmo2
  have hr : addS S.abs v.abs = (({ S with next := S.next + 1, mo := mo2, vols := S.vols ++ [(S.next + 1, v)] } : CS).abs, { id := S.next + 1 }) := by
    rw [k2]; rfl
  rw [hr]; exact OpP.plain (r := (_, _)) k1 rfl rfl rfl rfl

theorem makeP {S : Lc} {p13 p11 p10 p16 a b c d : Nat × Obj} : (p16 :: p10 :: p13 :: p11 :: a :: b :: c :: d :: S).Perm ((S ++ (p16 :: p10 :: [(1, (0 : Nat))].flatMap fun _ => p13 :: ([] ++ [p11]))) ++ [a, b, c, d]) := permC fun f => by simp only [List.flatMap_cons, List.flatMap_nil, List.nil_append, List.append_nil, List.cons_append, List.map_append, List.map_cons, List.map_nil, List.sum_append, List.sum_cons, List.sum_nil]; omega
theorem make_spec (S : CS) (hS : S.Ok) (n : Nat) (hwf : WFS n S.abs) (hn : n ≤ 100) (M : Mem) (c : CL) (ca : Option Addr) (ck : Nat) (hC : CallOk M c ca ck) (w : Wy) (na : Option Addr) (nc : Nat) (hW : WyOk M w na nc) (o : Wy) (oa : Option Addr) (oc : Nat) (hO : WyOk M o oa oc) :
    SpecL Tryz.prog 47 #[pt S.b, clV c ca ck, wyV w na nc, wyV o oa oc] M S.own fun u M' L' => OpP S.b (makeS S.abs) u M' L' := by
  refine SpecL.mem fun hnd hdis => ?_
  have hVa := addL_in (M := M) hnd
  have hMa := addL_le hdis
  have hVw : ∀ L, SubL S.own L → Vw M L S.own := fun L h => Vw.of
  refine spec_body (vs := [_, _, _, _]) 18 _ Tryz.func47 rfl Tryz.ntmps47 rfl rfl ?_; intro W
  refine jc_seq ?_
  refine jc_region ?_
  refine jl_h rfl rfl (hBox (cs := [_, _, _, _, _, _, _]) rfl rfl rfl rfl) ?_; rintro _ _ _ ⟨b5, rfl, rfl, rfl⟩
  refine jl_h rfl rfl (hBox (cs := [_, _]) rfl rfl rfl rfl) ?_; rintro _ _ _ ⟨b6, rfl, rfl, rfl⟩
  refine jl_h rfl rfl (hBox (cs := [_, _]) rfl rfl rfl rfl) ?_; rintro _ _ _ ⟨b7, rfl, rfl, rfl⟩
  refine jl_h rfl rfl (hAlloc rfl rfl) ?_; rintro _ _ _ ⟨b8, rfl, rfl, rfl⟩
  refine jl_nil ?_
  refine jT ?_
  refine jc_seq ?_
  refine jc_region ?_
  refine jp rfl ?_
  refine jl_h rfl rfl (hMakeMapO rfl rfl) ?_; rintro _ _ _ ⟨b10, rfl, rfl, rfl⟩
  refine jl_h rfl rfl (hMakeMapO rfl rfl) ?_; rintro _ _ _ ⟨b11, rfl, rfl, rfl⟩
  refine jl_q rfl rfl (qBuild (cs := [_, _, _, _]) rfl rfl rfl (by rfl)) ?_
  refine jl_h rfl rfl (hBox (cs := [_, _, _, _]) rfl rfl rfl rfl) ?_; rintro _ _ _ ⟨b13, rfl, rfl, rfl⟩
  refine jl_s rfl (hMapPutO kU (k := 1) rfl (.inr rfl) rfl rfl rfl MapOf.empty) ?_; rintro _ _ _ ⟨rfl, mo3, rfl, hmo3⟩
  refine jp rfl ?_
  refine jl_q rfl rfl (qBuild (cs := [_, _, _]) rfl rfl rfl (by rfl)) ?_
  refine jl_h rfl rfl (hBox (cs := [_, _, _]) rfl rfl rfl rfl) ?_; rintro _ _ _ ⟨b16, rfl, rfl, rfl⟩
  have hvk : ({ frozen := false, next := 2, b := b16, mb := b10, mo := mo3, files := [(1, ({ pf := { dir := true, links := 1, data := [], names := [] }, b := b13, dv := .slice none 0 0, dR := [], nm := .map (some b11), nR := [(b11, .map #[] 0)] } : CF))] } : CV).Ok := ⟨hmo3, fun p hp => by rw [List.mem_singleton.1 hp]; exact ⟨Byt.nil, .inl ⟨rfl, b11, _, rfl, rfl, MapOf.empty⟩⟩⟩
  refine jl_weak (L' := (S.own ++ ({ frozen := false, next := 2, b := b16, mb := b10, mo := mo3, files := [(1, ({ pf := { dir := true, links := 1, data := [], names := [] }, b := b13, dv := .slice none 0 0, dR := [], nm := .map (some b11), nR := [(b11, .map #[] 0)] } : CF))] } : CV).own) ++ [(b8, _), (b7, _), (b6, _), (b5, _)]) (fun _ h => h.perm (by unfold CV.own ownFs CF.own vObj fObj; exact makeP)) ?_
  refine jl_h rfl rfl (hCall rfl rfl rfl rfl rfl (by kernel_rfl) (add_spec S hS n hwf hn ({ frozen := false, next := 2, b := b16, mb := b10, mo := mo3, files := [(1, ({ pf := { dir := true, links := 1, data := [], names := [] }, b := b13, dv := .slice none 0 0, dR := [], nm := .map (some b11), nR := [(b11, .map #[] 0)] } : CF))] } : CV) hvk M)) ?_; rintro _ M2 _ ⟨hM2, R3, rfl, ⟨S2, dv2, nv2, R1, R2, hk1, hk2, rfl, hk3, hk4, rfl⟩⟩
  obtain ⟨da2, dc2, rfl⟩ := hk3.form
  obtain ⟨na2, nc2, rfl⟩ := Nms.nform hk4
  refine jl_s rfl (hStoreL rfl rfl rfl rfl rfl rfl rfl rfl (by first | (simp only [Nat.reduceAdd, Nat.zero_add, Nat.add_zero, List.drop_succ_cons, List.drop_zero, List.drop_nil, List.take_succ_cons, List.take_zero, List.take_nil, List.cons_append, List.nil_append, List.append_nil, List.length_cons, List.length_nil]; try rfl) | rfl)) ?_; rintro _ _ _ ⟨rfl, rfl⟩
  refine jl_nil ?_
  refine jT ?_
  refine jc_ret ?_
  refine jrsd (rs := [_]) (S2.own ++ (R1 ++ R2)) (by first | (rw [List.append_nil]; exact List.sublist_append_left _ _) | repeat (first | exact List.Sublist.refl _ | exact List.sublist_append_left _ _ | apply List.Sublist.cons)) rfl (.cons (.agg rfl rfl rfl) .nil) ?_
  exact ⟨S2, _, _, R1, R2, hk1, hk2, rfl, hk3, hk4, rfl⟩


end Go.Proofs.YtdjaehgadehnfaaGreatDoor
