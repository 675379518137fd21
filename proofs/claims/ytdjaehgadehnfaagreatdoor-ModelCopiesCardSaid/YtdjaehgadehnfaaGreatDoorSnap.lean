/- Walks: volumes that are made of others. -/
import Derived.Test.YtdjaehgadehnfaaGreatDoorHp
import Derived.Test.YtdjaehgadehnfaaGreatDoorCtr
import Derived.Test.YtdjaehgadehnfaaGreatDoorBytes
import Derived.Test.YtdjaehgadehnfaaGreatDoorMake
namespace Go.Proofs.YtdjaehgadehnfaaGreatDoor
set_option linter.unusedVariables false
set_option linter.unusedSimpArgs false
open Go.RowKit Go.MapKept


theorem perm_lift {α β : Type} (f : α → β) : ∀ {m : List β} {l : List α}, (l.map f).Perm m → ∃ l', l.Perm l' ∧ l'.map f = m
  | [], l, h => ⟨l, List.Perm.refl _, h.eq_nil⟩
  | b :: m, l, h => by
    have hb : b ∈ l.map f := h.mem_iff.2 (List.mem_cons_self ..)
    obtain ⟨a, ha, rfl⟩ := List.mem_map.1 hb
    obtain ⟨X, Y, rfl⟩ := List.append_of_mem ha
    have h2 : ((X ++ Y).map f).Perm m := by
      refine List.Perm.cons_inv (a := f a) ?_
      refine List.Perm.trans ?_ h
      simp only [List.map_append, List.map_cons]
      exact List.perm_middle.symm
    obtain ⟨l', h3, h4⟩ := perm_lift f h2
    exact ⟨a :: l', List.perm_middle.trans (List.Perm.cons a h3), by rw [List.map_cons, h4]⟩
/-- what of a volume is still to be copied -/
def TwL (v : CV) (rem : List (Int × Value)) (dn : List (Int × CF)) : Prop := ∃ rf : List (Int × CF), rem.Perm (ptF rf) ∧ (absF dn ++ absF rf).Perm (absF v.files) ∧ ∀ p ∈ rf, p ∈ v.files
theorem TwL.start (v : CV) : TwL v (ptF v.files) [] := ⟨v.files, List.Perm.refl _, List.Perm.refl _, fun _ h => h⟩
theorem TwL.step {v : CV} {rem rem2 : List (Int × Value)} {dn : List (Int × CF)} {k : Int} {u : Value} (h : TwL v rem dn) (hn : (keysA (absF v.files)).Nodup) (hp : rem.Perm ((k, u) :: rem2)) : ∃ x, u = pt x.b ∧ getA k v.files = some x ∧ getA k dn = none ∧ ∀ x' : CF, x'.pf = x.pf → TwL v rem2 (dn ++ [(k, x')]) := by
  obtain ⟨rf, h1, h2, h3⟩ := h
  have hm : (k, u) ∈ ptF rf := h1.mem_iff.1 (hp.mem_iff.2 (List.mem_cons_self ..))
  obtain ⟨q, hq, hqe⟩ := List.mem_map.1 hm
  obtain ⟨k', x⟩ := q
  simp only [Prod.mk.injEq] at hqe
  obtain ⟨rfl, rfl⟩ := hqe
  obtain ⟨X, Y, rfl⟩ := List.append_of_mem hq
  have hnk : (keysA v.files).Nodup := by
    have e : keysA (absF v.files) = keysA v.files := by simp [keysA, absF]
    rw [← e]; exact hn
  refine ⟨x, rfl, getA_of hnk (h3 _ hq), ?_, fun x' hx' => ⟨X ++ Y, ?_, ?_, fun p hp => h3 p ?_⟩⟩
  · have h4 : (keysA (absF dn ++ absF (X ++ (k', x) :: Y))).Nodup := (h2.map (·.1)).nodup_iff.2 hn
    rw [keysA, List.map_append] at h4
    refine getA_none.2 fun hk => ?_
    refine (List.nodup_append.1 h4).2.2 k' ?_ k' ?_ rfl
    · have e : (absF dn).map (·.1) = keysA dn := by simp [keysA, absF]
      rw [e]; exact hk
    · simp [absF]
  · have h5 : (ptF (X ++ (k', x) :: Y)).Perm ((k', pt x.b) :: ptF (X ++ Y)) := by
      unfold ptF; simp only [List.map_append, List.map_cons]; exact List.perm_middle
    exact List.Perm.cons_inv ((hp.symm.trans h1).trans h5)
  · refine List.Perm.trans ?_ h2
    unfold absF
    simp only [List.map_append, List.map_cons, List.map_nil, hx', List.append_assoc, List.cons_append, List.nil_append]
    refine List.Perm.append_left _ ?_
    exact List.perm_middle.symm
  · rcases List.mem_append.1 hp with h | h
    · exact List.mem_append_left _ h
    · exact List.mem_append_right _ (List.mem_cons_of_mem _ h)
theorem TwL.done {v : CV} {dn : List (Int × CF)} (h : TwL v [] dn) : ∃ fs, dn.Perm fs ∧ absF fs = absF v.files := by
  obtain ⟨rf, h1, h2, h3⟩ := h
  have : rf = [] := by have := h1.length_eq; exact List.eq_nil_of_length_eq_zero (by simpa [ptF] using this.symm)
  subst this
  exact perm_lift (fun p : Int × CF => (p.1, p.2.pf)) (by simpa [absF] using h2)
theorem ownFs_snoc {l : List (Int × CF)} {k : Int} {x : CF} : ownFs (l ++ [(k, x)]) = ownFs l ++ x.own := by unfold ownFs; rw [List.flatMap_append]; simp
theorem twP {r p12 p10 p47 : Nat × Obj} {D N F : Lc} : (p10 :: p47 :: (N ++ (D ++ (r :: p12 :: F)))).Perm (r :: p12 :: p10 :: (F ++ (p47 :: (D ++ N)))) := permC fun f => by simp only [List.map_append, List.map_cons, List.sum_append, List.sum_cons]; omega

set_option maxHeartbeats 2000000 in
theorem twin_spec (v : CV) (hv : v.Ok) (n : Nat) (hwv : WFV n v.abs) (M : Mem) (hV : ∀ p ∈ v.own, M p.1 = some p.2) :
    SpecL Tryz.prog 87 #[pt v.b] M [] fun u M' L' => M' = M ∧ ∃ v' : CV, v'.Ok ∧ v'.abs = { v.abs with frozen := false } ∧ u = pt v'.b ∧ L' = v'.own := by
  have hnn : (keysA (absF v.files)).Nodup := hwv.wf.nd
  refine spec_body (vs := [_]) 49 _ Tryz.func87 rfl Tryz.ntmps87 rfl rfl ?_; intro W
  refine jc_seq ?_
  refine jc_region ?_
  refine jp rfl ?_
  refine jl_nil ?_
  refine jT ?_
  refine jc_seq ?_
  refine jc_region ?_
  refine jp rfl ?_
  refine jl_q rfl rfl (qNilCheck rfl rfl rfl) ?_
  refine jl_q rfl rfl (qFieldAddr rfl rfl rfl rfl rfl) ?_
  refine jl_q rfl rfl (qLd rfl rfl rfl rfl ((Vw.v (Vw.inM hV)).cj rfl)) ?_
  refine jl_h rfl rfl (hMakeMapO rfl rfl) ?_; rintro _ _ _ ⟨b10, rfl, rfl, rfl⟩
  refine jl_q rfl rfl (qBuild (cs := [_, _, _]) rfl rfl rfl (by rfl)) ?_
  refine jl_h rfl rfl (hBox (cs := [_, _, _]) rfl rfl rfl rfl) ?_; rintro _ _ _ ⟨b12, rfl, rfl, rfl⟩
  refine jp rfl ?_
  refine jl_nil ?_
  refine jT ?_
  refine jc_seq ?_
  refine jc_seq ?_
  refine jc_region ?_
  refine jp rfl ?_
  refine jl_q rfl rfl (qNilCheck rfl rfl rfl) ?_
  refine jl_q rfl rfl (qFieldAddr rfl rfl rfl rfl rfl) ?_
  refine jl_q rfl rfl (qLd rfl rfl rfl rfl ((Vw.v (Vw.inM hV)).cj rfl)) ?_
  refine jl_h rfl rfl (hRangeMap kU rfl rfl rfl (Vw.vmo (Vw.inM hV)) hv.mo) ?_; rintro _ _ _ ⟨r, it, rfl, rfl, rfl, hit⟩
  refine jl_nil ?_
  refine jT ?_
  refine jc_block ?_
  refine jc_loopK (α := Obj × List (Int × Value) × List (Int × CF) × Obj) (fun z => [(0, pt v.b), (3, pt b12), (17, .pointer (some ⟨r, 0, none⟩))]) (fun _ => M) (fun z => (r, z.1) :: (b12, .cells [.bool false, .int .u32 v.next, .map (some b10)].toArray 138 (0, 0)) :: (b10, z.2.2.2) :: ownFs z.2.2.1) (fun z => IterOf kU v.mb v.mo z.1 z.2.1 ∧ MapOf kU z.2.2.2 (ptF z.2.2.1) ∧ (∀ p ∈ z.2.2.1, p.2.Ok) ∧ TwL v z.2.1 z.2.2.1) (fun z => z.2.1.length)
    (it, ptF v.files, [], .map #[] 0) (Keep.cons (t := 0) rfl (Keep.cons (t := 3) rfl (Keep.cons (t := 17) rfl Keep.nil))) ⟨hit, MapOf.empty, (fun _ h => by cases h), TwL.start v⟩ (fun _ h => h) ?_
  rintro ⟨it2, rem, dn, mo2⟩ ⟨hit2, hmo, hdn, htw⟩
  dsimp only at hit2 hmo hdn htw ⊢
  refine jc_seq ?_
  refine jc_region ?_
  refine jl_h rfl rfl (hNextMap kU rfl rfl rfl (Vw.vmo (Vw.inM hV)) hit2) ?_; rintro _ _ _ ⟨rfl, hy⟩
  rcases hy with ⟨hrem, rfl, rfl⟩ | ⟨k, u, rem2, it3, hpm, rfl, rfl, hit3, hcur⟩
  · refine jp rfl ?_
    refine jl_nil ?_
    refine jT ?_
    refine jc_seq ?_
    refine jc_no rfl ?_
    refine jc_exit ?_
    refine jTx ?_
    refine jTx ?_
    refine jBx ?_
    refine jT ?_
    refine jc_seq ?_
    refine jc_region ?_
    iterate 2 refine jp rfl ?_
    refine jl_nil ?_
    refine jT ?_
    refine jc_ret ?_
    subst hrem
    obtain ⟨fs, hpf, haf⟩ := htw.done
    refine jq_weak (L' := ((b12, .cells [.bool false, .int .u32 v.next, .map (some b10)].toArray 138 (0, 0)) :: (b10, mo2) :: ownFs fs)) (fun _ h => (h.fewer (List.sublist_cons_self _ _)).perm (List.Perm.cons _ (List.Perm.cons _ (List.Perm.flatMap_right _ hpf)))) ?_
    refine jr1 rfl rfl ?_
    exact ⟨rfl, { frozen := false, next := v.next, b := b12, mb := b10, mo := mo2, files := fs }, ⟨hmo.perm (hpf.map _), fun p hp => hdn p (hpf.mem_iff.2 hp)⟩, by unfold CV.abs; simp only; rw [haf], rfl, rfl⟩
  · refine jp rfl ?_
    refine jl_nil ?_
    refine jT ?_
    refine jc_seq ?_
    refine jc_yes rfl ?_
    refine jc_skip ?_
    refine jT ?_
    refine jc_block ?_
    refine jc_seq ?_
    refine jc_region ?_
    obtain ⟨x, rfl, hxk, hkd, hstep⟩ := htw.step hnn hpm
    refine jl_q rfl rfl (qEntryO kU rfl rfl rfl OJ.of (Vw.vmo (Vw.inM hV)) hcur) ?_
    iterate 4 refine jp rfl ?_
    refine jl_nil ?_
    refine jT ?_
    have hxok := hv.x hxk
    obtain ⟨dad, dc, hdv⟩ := hxok.byt.form
    have hB : Byt (.slice dad x.pf.data.length dc) x.dR x.pf.data := hdv ▸ hxok.byt
    have hVx : ∀ p ∈ x.own, M p.1 = some p.2 := fun p hp => by
      have := Vw.file (Vw.inM (L := []) hV) hxk p hp
      rcases this with h | h
      · exact h
      · cases h
    have hsm : SM M dad (bcells x.pf.data) := by
      obtain ⟨a9, c9, e9, _, _, h9⟩ := hB.sm (M := M) (fun p hp => hVx p (by unfold CF.own; simp [hp]))
      cases e9; exact h9
    have hlen : x.pf.data.length ≤ 4096 := (hwv.wf.len k x.pf (by show getA k (absF v.files) = _; rw [absF_get, hxk]; rfl)).1
    refine jc_drawP (p := { A := fun i => !([25].contains i), U := fun i => !([25].contains i) }) [(0, true), (1, true), (2, true), (3, true), (4, true), (5, true), (6, true), (7, true), (8, true), (9, true), (10, true), (11, true), (12, true), (13, true), (14, true), (15, true), (16, true), (18, true), (19, true), (20, true), (21, true), (17, false), (22, false), (23, true), (24, false), (25, false)] M ([(b12, .cells [.bool false, .int .u32 v.next, .map (some b10)].toArray 138 (0, 0))]) ([]) (by kernel_rfl) (by kernel_rfl) (by kernel_rfl) (by kernel_rfl) rfl (by simp) (MLe.refl _) (by simp) ?_
    refine dp rfl rfl ?_
    refine jd_q rfl rfl rfl (qNilCheck rfl rfl rfl) ?_
    refine jd_q rfl rfl rfl (qFieldAddr rfl rfl rfl rfl rfl) ?_
    refine jd_q rfl rfl rfl (qLd rfl rfl rfl rfl (CJ.loc rfl)) ?_
    iterate 2 refine dp rfl rfl ?_
    refine jd_q rfl rfl rfl (qNilCheck rfl rfl rfl) ?_
    refine jd_q rfl rfl rfl (qFieldAddr rfl rfl rfl rfl rfl) ?_
    refine jd_q rfl rfl rfl (qLd rfl rfl rfl rfl ((Vw.x (Vw.file (Vw.inM hV) hxk)).cj rfl)) ?_
    refine dp rfl rfl ?_
    refine jd_q rfl rfl rfl (qNilCheck rfl rfl rfl) ?_
    refine jd_q rfl rfl rfl (qFieldAddr rfl rfl rfl rfl rfl) ?_
    refine jd_q rfl rfl rfl (qLd rfl rfl rfl rfl ((Vw.x (Vw.file (Vw.inM hV) hxk)).cj rfl)) ?_
    refine dp rfl rfl ?_
    refine jd_q rfl rfl rfl (qNilCheck rfl rfl rfl) ?_
    refine jd_q rfl rfl rfl (qFieldAddr rfl rfl rfl rfl rfl) ?_
    refine jd_q rfl rfl rfl (qEq (qLd rfl rfl rfl rfl ((Vw.x (Vw.file (Vw.inM hV) hxk)).cj rfl)) hdv) ?_
    refine dp rfl rfl ?_
    refine jd_q rfl rfl rfl (qNilCheck rfl rfl rfl) ?_
    refine jd_q rfl rfl rfl (qFieldAddr rfl rfl rfl rfl rfl) ?_
    refine jd_q rfl rfl rfl (qLd rfl rfl rfl rfl ((Vw.x (Vw.file (Vw.inM hV) hxk)).cj rfl)) ?_
    refine jd_h rfl rfl rfl (hCall rfl rfl rfl rfl rfl (by kernel_rfl) (clone_spec dad dc x.pf.data M hsm (by omega))) ?_; rintro _ _ _ ⟨_, R40, rfl, ⟨rfl, hB40⟩⟩
    refine ⟨_, _, MLe.refl _, MLe.refl _, fun _ h => h, by simp, ?_⟩
    obtain ⟨da40, dc40, rfl⟩ := hB40.form
    refine jd_h rfl rfl rfl (hCall rfl rfl rfl rfl rfl (by kernel_rfl) (clonenm_spec _ x hxok (fun p hp => hVx p (by unfold CF.own; simp [hp])))) ?_; rintro _ _ _ ⟨_, R45, rfl, ⟨rfl, o45, rfl, hN45⟩⟩
    refine ⟨_, _, MLe.refl _, MLe.refl _, fun _ h => h, by simp, ?_⟩
    refine jd_q rfl rfl rfl (qBuild (cs := [_, _, _, _]) rfl rfl rfl (by rfl)) ?_
    refine jd_h rfl rfl rfl (hBox (cs := [_, _, _, _]) rfl rfl rfl rfl) ?_; rintro _ _ _ ⟨b47, rfl, rfl, rfl⟩
    refine ⟨_, _, MLe.refl _, MLe.refl _, fun _ h => h, by simp, ?_⟩
    refine jd_e rfl rfl (hMapPutO kU (k := k) rfl (.inl rfl) rfl rfl rfl hmo) ?_; rintro _ _ _ ⟨rfl, mo3, rfl, hmo3⟩
    refine ⟨MLe.refl _, by simp, ?_⟩
    refine je_nil ?_
    refine jPn ?_
    refine jB ?_
    refine j_again (it3, rem2, dn ++ [(k, ({ x with b := b47, dv := .slice da40 x.pf.data.length dc40, dR := R40, nm := .map o45, nR := R45 } : CF))], mo3) (Keep.cons (t := 0) rfl (Keep.cons (t := 3) rfl (Keep.cons (t := 17) rfl Keep.nil))) ⟨hit3, ?_, fun p hp => ?_, hstep _ rfl⟩ (by dsimp only; have := hpm.length_eq; simp at this; omega) (fun _ h => by dsimp only; rw [ownFs_snoc]; exact h.perm twP)
    · dsimp only; rw [putA_new (getA_none.1 (by rw [ptF_get, hkd]; rfl))] at hmo3; unfold ptF at hmo3 ⊢; rw [List.map_append]; exact hmo3
    · rcases List.mem_append.1 hp with hp | hp
      · exact hdn p hp
      · rw [List.mem_singleton.1 hp]; exact ⟨hB40, hN45 _ _ _⟩


theorem twin_lent {S : CS} (hS : S.Ok) {n : Nat} {vol : Int} {v : CV} (hv : getA vol S.vols = some v) (hwv : WFV n v.abs) (M : Mem) : SpecL Tryz.prog 87 #[pt v.b] M S.own fun u M' L' => M' = M ∧ ∃ L1, L' = S.own ++ L1 ∧ ∃ v' : CV, v'.Ok ∧ v'.abs = { v.abs with frozen := false } ∧ u = pt v'.b ∧ L1 = v'.own :=
  SpecL.lendM fun hn hd => twin_spec v (hS.v hv) n hwv _ fun p hp => by
    have := Vw.vol (Vw.inM (L := []) (addL_in (M := M) hn)) hv p hp
    rcases this with h | h
    · exact h
    · cases h
theorem snapP {S F : Lc} {p q a b c d : Nat × Obj} : ((S ++ (p :: q :: F)) ++ [a, b, c, d]).Perm (p :: q :: (F ++ (S ++ [a, b, c, d]))) := permC fun f => by simp only [List.cons_append, List.map_append, List.map_cons, List.map_nil, List.sum_append, List.sum_cons, List.sum_nil]; omega

theorem snap_none (S : CS) (hS : S.Ok) (n : Nat) (hwf : WFS n S.abs) (hn : n ≤ 100) (M : Mem) (c : CL) (ca : Option Addr) (ck : Nat) (hC : CallOk M c ca ck) (w : Wy) (na : Option Addr) (nc : Nat) (hW : WyOk M w na nc) (o : Wy) (oa : Option Addr) (oc : Nat) (hO : WyOk M o oa oc) (hv : getA c.a S.vols = none) :
    SpecL Tryz.prog 48 #[pt S.b, clV c ca ck, wyV w na nc, wyV o oa oc] M S.own fun u M' L' => OpP S.b (snapS S.abs c) u M' L' := by
  refine SpecL.mem fun hnd hdis => ?_
  have hVa := addL_in (M := M) hnd
  have hMa := addL_le hdis
  have hVw : ∀ L, SubL S.own L → Vw M L S.own := fun L h => Vw.of
  refine spec_body (vs := [_, _, _, _]) 37 _ Tryz.func48 rfl Tryz.ntmps48 rfl rfl ?_; intro W
  refine jc_seq ?_
  refine jc_region ?_
  refine jl_h rfl rfl (hBox (cs := [_, _, _, _, _, _, _]) rfl rfl rfl rfl) ?_; rintro _ _ _ ⟨b5, rfl, rfl, rfl⟩
  refine jl_h rfl rfl (hBox (cs := [_, _]) rfl rfl rfl rfl) ?_; rintro _ _ _ ⟨b6, rfl, rfl, rfl⟩
  refine jl_h rfl rfl (hBox (cs := [_, _]) rfl rfl rfl rfl) ?_; rintro _ _ _ ⟨b7, rfl, rfl, rfl⟩
  refine jl_h rfl rfl (hAlloc rfl rfl) ?_; rintro _ _ _ ⟨b8, rfl, rfl, rfl⟩
  refine jl_nil ?_
  refine jT ?_
  refine jc_seq ?_
  refine jc_seq ?_
  refine jc_region ?_
  refine jl_q rfl rfl (qFieldAddr rfl rfl rfl rfl rfl) ?_
  refine jl_q rfl rfl (qLd rfl rfl rfl rfl (CJ.loc rfl)) ?_
  refine jl_qb rfl rfl (qCall rfl rfl rfl rfl rfl (by kernel_rfl) (in_walk c.b 0 1 M)) (fun h13 => ?_) (fun h13 => ?_)
  · refine jp rfl ?_
    refine jl_nil ?_
    refine jT ?_
    refine jc_no rfl ?_
    refine jc_skip ?_
    refine jT ?_
    refine jc_seq ?_
    refine jc_draw [(0, true), (1, true), (2, true), (3, true), (4, true), (5, true), (6, true), (7, true)] ((b8, _) :: (b7, _) :: (b6, _) :: (b5, _) :: S.own) (by kernel_rfl) (by kernel_rfl) (by kernel_rfl) rfl (fun _ h => h) ?_
    refine dp rfl rfl ?_
    refine jd_q rfl rfl rfl (qNilCheck rfl rfl rfl) ?_
    refine jd_q rfl rfl rfl (qFieldAddr rfl rfl rfl rfl rfl) ?_
    refine jd_q rfl rfl rfl (qLd rfl rfl rfl rfl ((Vw.s Vw.of).cj rfl)) ?_
    refine jd_q rfl rfl rfl (qFieldAddr rfl rfl rfl rfl rfl) ?_
    refine jd_q rfl rfl rfl (qLd rfl rfl rfl rfl (CJ.loc rfl)) ?_
    refine jd_q rfl rfl rfl (qEq (v' := .pointer none) (qLookupO kI (z := .pointer none) rfl rfl rfl rfl (by kernel_rfl) (Vw.mo Vw.of) hS.mo) (by rw [ptV_get, hv]; try rfl)) ?_
    refine dp rfl rfl ?_
    refine jd_nil ?_
    refine jPn ?_
    refine jT ?_
    refine jc_seq ?_
    refine jc_seq ?_
    refine jc_region ?_
    refine jp rfl ?_
    refine jl_q rfl rfl (qEq (qPtrNil rfl rfl rfl rfl) (v' := .bool true) (by rfl)) ?_
    refine jl_nil ?_
    refine jT ?_
    refine jc_yes rfl ?_
    refine jc_seq ?_
    refine jc_region ?_
    refine jl_q rfl rfl (qCall rfl rfl rfl rfl rfl (by kernel_rfl) (told_walk 6 M)) ?_
    refine jl_s rfl (hStoreL rfl rfl rfl rfl rfl rfl rfl rfl (by first | (simp only [Nat.reduceAdd, Nat.zero_add, Nat.add_zero, List.drop_succ_cons, List.drop_zero, List.drop_nil, List.take_succ_cons, List.take_zero, List.take_nil, List.cons_append, List.nil_append, List.append_nil, List.length_cons, List.length_nil]; try rfl) | rfl)) ?_; rintro _ _ _ ⟨rfl, rfl⟩
    refine jl_nil ?_
    refine jT ?_
    refine jc_ret ?_
    refine jTr ?_
    refine jrsd (rs := [_]) (S.own) (by first | (rw [List.append_nil]; exact List.sublist_append_left _ _) | repeat (first | exact List.Sublist.refl _ | exact List.sublist_append_left _ _ | apply List.Sublist.cons)) rfl (.cons (.agg rfl rfl rfl) .nil) ?_
    have hr : snapS S.abs c = (S.abs, told 6) := by
      unfold snapS; rw [h13, absV_get, hv]; rfl
    rw [hr]; exact OpP.plain (r := (S.abs, _)) hS rfl rfl rfl rfl
  · refine jp rfl ?_
    refine jl_nil ?_
    refine jT ?_
    refine jc_yes rfl ?_
    refine jc_seq ?_
    refine jc_region ?_
    refine jl_q rfl rfl (qCall rfl rfl rfl rfl rfl (by kernel_rfl) (told_walk 2 M)) ?_
    refine jl_s rfl (hStoreL rfl rfl rfl rfl rfl rfl rfl rfl (by first | (simp only [Nat.reduceAdd, Nat.zero_add, Nat.add_zero, List.drop_succ_cons, List.drop_zero, List.drop_nil, List.take_succ_cons, List.take_zero, List.take_nil, List.cons_append, List.nil_append, List.append_nil, List.length_cons, List.length_nil]; try rfl) | rfl)) ?_; rintro _ _ _ ⟨rfl, rfl⟩
    refine jl_nil ?_
    refine jT ?_
    refine jc_ret ?_
    refine jTr ?_
    refine jrsd (rs := [_]) (S.own) (by first | (rw [List.append_nil]; exact List.sublist_append_left _ _) | repeat (first | exact List.Sublist.refl _ | exact List.sublist_append_left _ _ | apply List.Sublist.cons)) rfl (.cons (.agg rfl rfl rfl) .nil) ?_
    have hr : snapS S.abs c = (S.abs, told 2) := by
      unfold snapS; rw [h13]; rfl
    rw [hr]; exact OpP.plain (r := (S.abs, _)) hS rfl rfl rfl rfl

set_option maxHeartbeats 1000000 in
theorem snap_some (S : CS) (hS : S.Ok) (n : Nat) (hwf : WFS n S.abs) (hn : n ≤ 100) (M : Mem) (c : CL) (ca : Option Addr) (ck : Nat) (hC : CallOk M c ca ck) (w : Wy) (na : Option Addr) (nc : Nat) (hW : WyOk M w na nc) (o : Wy) (oa : Option Addr) (oc : Nat) (hO : WyOk M o oa oc) (v : CV) (hv : getA c.a S.vols = some v) :
    SpecL Tryz.prog 48 #[pt S.b, clV c ca ck, wyV w na nc, wyV o oa oc] M S.own fun u M' L' => OpP S.b (snapS S.abs c) u M' L' := by
  refine SpecL.mem fun hnd hdis => ?_
  have hVa := addL_in (M := M) hnd
  have hMa := addL_le hdis
  have hVw : ∀ L, SubL S.own L → Vw M L S.own := fun L h => Vw.of
  have hwv : WFV n v.abs := hwf.vol c.a v.abs (by rw [absV_get, hv]; rfl)
  refine spec_body (vs := [_, _, _, _]) 37 _ Tryz.func48 rfl Tryz.ntmps48 rfl rfl ?_; intro W
  refine jc_seq ?_
  refine jc_region ?_
  refine jl_h rfl rfl (hBox (cs := [_, _, _, _, _, _, _]) rfl rfl rfl rfl) ?_; rintro _ _ _ ⟨b5, rfl, rfl, rfl⟩
  refine jl_h rfl rfl (hBox (cs := [_, _]) rfl rfl rfl rfl) ?_; rintro _ _ _ ⟨b6, rfl, rfl, rfl⟩
  refine jl_h rfl rfl (hBox (cs := [_, _]) rfl rfl rfl rfl) ?_; rintro _ _ _ ⟨b7, rfl, rfl, rfl⟩
  refine jl_h rfl rfl (hAlloc rfl rfl) ?_; rintro _ _ _ ⟨b8, rfl, rfl, rfl⟩
  refine jl_nil ?_
  refine jT ?_
  refine jc_seq ?_
  refine jc_seq ?_
  refine jc_region ?_
  refine jl_q rfl rfl (qFieldAddr rfl rfl rfl rfl rfl) ?_
  refine jl_q rfl rfl (qLd rfl rfl rfl rfl (CJ.loc rfl)) ?_
  refine jl_qb rfl rfl (qCall rfl rfl rfl rfl rfl (by kernel_rfl) (in_walk c.b 0 1 M)) (fun h13 => ?_) (fun h13 => ?_)
  · refine jp rfl ?_
    refine jl_nil ?_
    refine jT ?_
    refine jc_no rfl ?_
    refine jc_skip ?_
    refine jT ?_
    refine jc_seq ?_
    refine jc_draw [(0, true), (1, true), (2, true), (3, true), (4, true), (5, true), (6, true), (7, true)] ((b8, _) :: (b7, _) :: (b6, _) :: (b5, _) :: S.own) (by kernel_rfl) (by kernel_rfl) (by kernel_rfl) rfl (fun _ h => h) ?_
    refine dp rfl rfl ?_
    refine jd_q rfl rfl rfl (qNilCheck rfl rfl rfl) ?_
    refine jd_q rfl rfl rfl (qFieldAddr rfl rfl rfl rfl rfl) ?_
    refine jd_q rfl rfl rfl (qLd rfl rfl rfl rfl ((Vw.s Vw.of).cj rfl)) ?_
    refine jd_q rfl rfl rfl (qFieldAddr rfl rfl rfl rfl rfl) ?_
    refine jd_q rfl rfl rfl (qLd rfl rfl rfl rfl (CJ.loc rfl)) ?_
    refine jd_q rfl rfl rfl (qEq (v' := pt v.b) (qLookupO kI (z := .pointer none) rfl rfl rfl rfl (by kernel_rfl) (Vw.mo Vw.of) hS.mo) (by rw [ptV_get, hv]; try rfl)) ?_
    refine dp rfl rfl ?_
    refine jd_nil ?_
    refine jPn ?_
    refine jT ?_
    refine jc_seq ?_
    refine jc_seq ?_
    refine jc_region ?_
    refine jp rfl ?_
    refine jl_q rfl rfl (qEq (qPtrNil rfl rfl rfl rfl) (v' := .bool false) (by rfl)) ?_
    refine jl_nil ?_
    refine jT ?_
    refine jc_no rfl ?_
    refine jc_skip ?_
    refine jT ?_
    refine jc_seq ?_
    refine jc_region ?_
    refine jp rfl ?_
    refine jl_h rfl rfl (hCall rfl rfl rfl rfl rfl (by kernel_rfl) (twin_lent hS hv hwv M)) ?_; rintro _ _ _ ⟨_, _, rfl, ⟨rfl, L1, rfl, v', hvo, hva, rfl, rfl⟩⟩
    refine jl_weak (L' := ((v'.b, .cells [.bool v'.frozen, .int .u32 v'.next, .map (some v'.mb)].toArray 138 (0, 0)) :: (v'.mb, v'.mo) :: (ownFs v'.files ++ (S.own ++ [(b8, _), (b7, _), (b6, _), (b5, _)])))) (fun _ h => h.perm snapP) ?_
    refine jp rfl ?_
    refine jl_nil ?_
    refine jT ?_
    refine jc_seq ?_
    refine jc_region ?_
    refine jp rfl ?_
    refine jl_q rfl rfl (qFieldAddr rfl rfl rfl rfl rfl) ?_
    refine jl_q rfl rfl (qLd rfl rfl rfl rfl (CJ.loc rfl)) ?_
    refine jp rfl ?_
    refine jl_q rfl rfl (qNilCheck rfl rfl rfl) ?_
    refine jl_q rfl rfl (qFieldAddr rfl rfl rfl rfl rfl) ?_
    refine jl_s rfl (hStoreL rfl rfl rfl rfl rfl rfl rfl rfl (by first | (simp only [Nat.reduceAdd, Nat.zero_add, Nat.add_zero, List.drop_succ_cons, List.drop_zero, List.drop_nil, List.take_succ_cons, List.take_zero, List.take_nil, List.cons_append, List.nil_append, List.append_nil, List.length_cons, List.length_nil]; try rfl) | rfl)) ?_; rintro _ _ _ ⟨rfl, rfl⟩
    refine jl_nil ?_
    refine jT ?_
    refine jc_seq ?_
    refine jc_region ?_
    iterate 2 refine jp rfl ?_
    refine jl_weak (L' := (S.own ++ ({ v' with frozen := decide (c.b = 1) } : CV).own) ++ [(b8, _), (b7, _), (b6, _), (b5, _)]) (fun _ h => h.perm (snapP (S := S.own)).symm) ?_
    refine jl_h rfl rfl (hCall rfl rfl rfl rfl rfl (by kernel_rfl) (add_spec S hS n hwf hn ({ v' with frozen := decide (c.b = 1) } : CV) ⟨hvo.mo, hvo.fs⟩ _)) ?_; rintro _ M2 _ ⟨hM2, R3, rfl, ⟨S2, dv2, nv2, R1, R2, hk1, hk2, rfl, hk3, hk4, rfl⟩⟩
    obtain ⟨da2, dc2, rfl⟩ := hk3.form
    obtain ⟨na2, nc2, rfl⟩ := Nms.nform hk4
    refine jl_s rfl (hStoreL rfl rfl rfl rfl rfl rfl rfl rfl (by first | (simp only [Nat.reduceAdd, Nat.zero_add, Nat.add_zero, List.drop_succ_cons, List.drop_zero, List.drop_nil, List.take_succ_cons, List.take_zero, List.take_nil, List.cons_append, List.nil_append, List.append_nil, List.length_cons, List.length_nil]; try rfl) | rfl)) ?_; rintro _ _ _ ⟨rfl, rfl⟩
    refine jl_nil ?_
    refine jT ?_
    refine jc_ret ?_
    refine jrsd (rs := [_]) (S2.own ++ (R1 ++ R2)) (by first | (rw [List.append_nil]; exact List.sublist_append_left _ _) | repeat (first | exact List.Sublist.refl _ | exact List.sublist_append_left _ _ | apply List.Sublist.cons)) rfl (.cons (.agg rfl rfl rfl) .nil) ?_
    have hr : snapS S.abs c = addS S.abs ({ v' with frozen := decide (c.b = 1) } : CV).abs := by
      unfold snapS; rw [h13, absV_get, hv]; simp only [if_true, Option.map_some]
      have e : ({ v' with frozen := decide (c.b = 1) } : CV).abs = { v'.abs with frozen := decide (c.b = 1) } := rfl
      rw [e, hva]
    rw [hr]; exact ⟨S2, _, _, R1, R2, hk1, hk2, rfl, hk3, hk4, rfl⟩
  · refine jp rfl ?_
    refine jl_nil ?_
    refine jT ?_
    refine jc_yes rfl ?_
    refine jc_seq ?_
    refine jc_region ?_
    refine jl_q rfl rfl (qCall rfl rfl rfl rfl rfl (by kernel_rfl) (told_walk 2 M)) ?_
    refine jl_s rfl (hStoreL rfl rfl rfl rfl rfl rfl rfl rfl (by first | (simp only [Nat.reduceAdd, Nat.zero_add, Nat.add_zero, List.drop_succ_cons, List.drop_zero, List.drop_nil, List.take_succ_cons, List.take_zero, List.take_nil, List.cons_append, List.nil_append, List.append_nil, List.length_cons, List.length_nil]; try rfl) | rfl)) ?_; rintro _ _ _ ⟨rfl, rfl⟩
    refine jl_nil ?_
    refine jT ?_
    refine jc_ret ?_
    refine jTr ?_
    refine jrsd (rs := [_]) (S.own) (by first | (rw [List.append_nil]; exact List.sublist_append_left _ _) | repeat (first | exact List.Sublist.refl _ | exact List.sublist_append_left _ _ | apply List.Sublist.cons)) rfl (.cons (.agg rfl rfl rfl) .nil) ?_
    have hr : snapS S.abs c = (S.abs, told 2) := by
      unfold snapS; rw [h13]; rfl
    rw [hr]; exact OpP.plain (r := (S.abs, _)) hS rfl rfl rfl rfl


theorem snap_spec (S : CS) (hS : S.Ok) (n : Nat) (hwf : WFS n S.abs) (hn : n ≤ 100) (M : Mem) (c : CL) (ca : Option Addr) (ck : Nat) (hC : CallOk M c ca ck) (w : Wy) (na : Option Addr) (nc : Nat) (hW : WyOk M w na nc) (o : Wy) (oa : Option Addr) (oc : Nat) (hO : WyOk M o oa oc) : SpecL Tryz.prog 48 #[pt S.b, clV c ca ck, wyV w na nc, wyV o oa oc] M S.own fun u M' L' => OpP S.b (snapS S.abs c) u M' L' := by
  cases hv : getA c.a S.vols with
  | none => exact snap_none S hS n hwf hn M c ca ck hC w na nc hW o oa oc hO hv
  | some v => exact snap_some S hS n hwf hn M c ca ck hC w na nc hW o oa oc hO v hv
end Go.Proofs.YtdjaehgadehnfaaGreatDoor
