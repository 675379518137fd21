/- Walks: places, files, fresh names. -/
import Derived.Test.YtdjaehgadehnfaaGreatDoorWay
namespace Go.Proofs.YtdjaehgadehnfaaGreatDoor
set_option linter.unusedVariables false
set_option linter.unusedSimpArgs false
open Go.RowKit Go.MapKept

structure WyOk (M : Mem) (w : Wy) (a : Option Addr) (c : Nat) : Prop where
  sn : SN M a w.2
  cap : w.2.length ≤ c
  big : w.2.length ≤ 1000000
theorem WyOk.mono {M M' : Mem} {w : Wy} {a : Option Addr} {c : Nat} (h : WyOk M w a c) (hM : MLe M M') : WyOk M' w a c := ⟨h.sn.mono hM, h.cap, h.big⟩
theorem SN.init {M : Mem} {a : Option Addr} {l : List Str} (h : SN M a l) : SN M a l.dropLast := by
  rcases h with h | ⟨b, off, h1, h2⟩
  · left; rw [List.map_eq_nil_iff] at h ⊢; rw [h]; rfl
  · refine .inr ⟨b, off, h1, fun i u hu => h2 i u ?_⟩
    rw [List.dropLast_eq_take, List.map_take, List.getElem?_take] at hu
    split at hu
    · exact hu
    · cases hu
theorem walkV_at {S : CS} {vol id : Int} {v : CV} {x : CF} (hv : getA vol S.vols = some v) (hx : getA id v.files = some x) : walkV S vol (.ok id) = .tuple #[.int .u32 id, pt x.b, .int .i64 0] := by
  show Value.tuple #[.int .u32 id, pt (blkOf S vol id), .int .i64 0] = _; rw [blkOf_is hv hx]
theorem isDir_abs {S : CS} {vol id : Int} {v : CV} {x : CF} (hv : getA vol S.vols = some v) (hx : getA id v.files = some x) : isDir S.abs vol id = x.pf.dir := by unfold isDir; rw [fileAt_abs hv hx]
theorem namesAt_abs {S : CS} {vol id : Int} {v : CV} {x : CF} (hv : getA vol S.vols = some v) (hx : getA id v.files = some x) : namesAt S.abs vol id = x.pf.names := by unfold namesAt; rw [fileAt_abs hv hx]
theorem placeS_err {n : Nat} {S : PS} (h : WFS n S) {w : Wy} {e : Int} (hw : placeS S w = .error e) : e = 6 ∨ e = 240 := by
  unfold placeS at hw
  split at hw
  · rename_i e' he; cases hw; exact walkS_err h he
  · split at hw
    · cases hw
    · cases hw; exact .inr rfl
theorem fileS_err {n : Nat} {S : PS} (h : WFS n S) {w : Wy} {e : Int} (hw : fileS S w = .error e) : e = 6 ∨ e = 240 := by
  unfold fileS at hw
  split at hw
  · rename_i e' he; cases hw; exact walkS_err h he
  · split at hw
    · cases hw; exact .inr rfl
    · cases hw
theorem placeS_ok {n : Nat} {S : CS} (h : WFS n S.abs) {w : Wy} {id : Int} (hw : placeS S.abs w = .ok id) : ∃ v x, getA w.1 S.vols = some v ∧ getA id v.files = some x ∧ WFV n v.abs ∧ x.pf.dir = true := by
  unfold placeS at hw
  split at hw
  · cases hw
  · rename_i k hk
    split at hw
    · rename_i hd
      cases hw
      obtain ⟨v, x, h1, h2, h3⟩ := walk_ok h hk
      exact ⟨v, x, h1, h2, h3, by rw [← isDir_abs h1 h2]; exact hd⟩
    · cases hw
theorem fileS_ok {n : Nat} {S : CS} (h : WFS n S.abs) {w : Wy} {id : Int} (hw : fileS S.abs w = .ok id) : ∃ v x, getA w.1 S.vols = some v ∧ getA id v.files = some x ∧ WFV n v.abs ∧ x.pf.dir = false := by
  unfold fileS at hw
  split at hw
  · cases hw
  · rename_i k hk
    split at hw
    · cases hw
    · rename_i hd
      cases hw
      obtain ⟨v, x, h1, h2, h3⟩ := walk_ok h hk
      exact ⟨v, x, h1, h2, h3, by rw [← isDir_abs h1 h2]; simpa using hd⟩

theorem place_err (S : CS) (hS : S.Ok) (n : Nat) (hwf : WFS n S.abs) (M : Mem) (hV : ∀ p ∈ S.own, M p.1 = some p.2) (w : Wy) (na : Option Addr) (nc : Nat) (hW : WyOk M w na nc) (hne : w.2 ≠ []) (e : Int) (hw : walkS S.abs w.1 w.2.dropLast = .error e) :
    SpecL Tryz.prog 100 #[pt S.b, wyV w na nc] M [] fun u _ _ => u = walkV S w.1 (placeS S.abs w) := by
  have hl0 : 0 < w.2.length := List.length_pos_iff.2 hne
  have hbig := hW.big
  have he := walkS_err hwf hw
  have hpl : placeS S.abs w = .error e := by unfold placeS; rw [hw]
  refine spec_body (vs := [_, _]) 37 _ Tryz.func100 rfl Tryz.ntmps100 rfl rfl ?_; intro W
  refine jc_seq ?_
  refine jc_region ?_
  refine jl_h rfl rfl (hBox (cs := [_, _]) rfl rfl rfl rfl) ?_; rintro _ _ _ ⟨b3, rfl, rfl, rfl⟩
  iterate 3 refine jp rfl ?_
  refine jl_nil ?_
  refine jT ?_
  refine jc_seq ?_
  refine jc_draw [(0, true), (1, true), (2, true), (3, true), (4, true), (5, true), (6, true), (7, true), (8, true), (9, true), (10, true), (11, true), (12, true), (13, true), (14, true), (15, true), (16, true), (17, true)] _ (by kernel_rfl) (by kernel_rfl) (by kernel_rfl) rfl (fun _ h => h) ?_
  refine dp rfl rfl ?_
  refine jd_q rfl rfl rfl (qFieldAddr rfl rfl rfl rfl rfl) ?_
  refine jd_q rfl rfl rfl (qLd rfl rfl rfl rfl (CJ.loc rfl)) ?_
  refine jd_q rfl rfl rfl (qFieldAddr rfl rfl rfl rfl rfl) ?_
  refine jd_q rfl rfl rfl (qLd rfl rfl rfl rfl (CJ.loc rfl)) ?_
  refine jd_q rfl rfl rfl (qFieldAddr rfl rfl rfl rfl rfl) ?_
  refine jd_q rfl rfl rfl (qLd rfl rfl rfl rfl (CJ.loc rfl)) ?_
  refine jd_q rfl rfl rfl (qLen rfl rfl rfl) ?_
  refine da rfl rfl (by omega) ?_
  refine jd_q rfl rfl rfl (qEq (v' := .slice na w.2.dropLast.length nc) (qSl rfl rfl rfl (.no _) (.of rfl (by have := hW.big; omega) rfl) (.no _) (by have := hW.cap; omega) (by simp)) (by rw [slA_zero, List.length_dropLast, show ((w.2.length : Int) - 1).toNat = w.2.length - 1 by omega]; rfl)) ?_
  refine jd_q rfl rfl rfl (qEq (qCall rfl rfl rfl rfl rfl (by kernel_rfl) (walk_spec S hS n hwf w.1 w.2.dropLast na nc M hV hW.sn.init (by rw [List.length_dropLast]; omega))) (by rw [hw]; try rfl)) ?_
  iterate 7 refine dp rfl rfl ?_
  refine jd_nil ?_
  refine jPn ?_
  refine jT ?_
  refine jc_seq ?_
  refine jc_seq ?_
  refine jc_region ?_
  refine jp rfl ?_
  refine jf rfl (decide_eq_false (by omega)) ?_
  iterate 7 refine jp rfl ?_
  refine jl_nil ?_
  refine jT ?_
  refine jc_no rfl ?_
  refine jc_skip ?_
  refine jT ?_
  refine jc_seq ?_
  refine jc_region ?_
  iterate 6 refine jp rfl ?_
  refine jl_nil ?_
  refine jT ?_
  refine jc_ret ?_
  refine jr3 rfl rfl rfl rfl ?_
  rw [hpl]; rfl

theorem place_ok (S : CS) (hS : S.Ok) (n : Nat) (hwf : WFS n S.abs) (M : Mem) (hV : ∀ p ∈ S.own, M p.1 = some p.2) (w : Wy) (na : Option Addr) (nc : Nat) (hW : WyOk M w na nc) (hne : w.2 ≠ []) (id : Int) (hw : walkS S.abs w.1 w.2.dropLast = .ok id) :
    SpecL Tryz.prog 100 #[pt S.b, wyV w na nc] M [] fun u _ _ => u = walkV S w.1 (placeS S.abs w) := by
  have hl0 : 0 < w.2.length := List.length_pos_iff.2 hne
  have hbig := hW.big
  obtain ⟨v, x, hv, hx, hwv⟩ := walk_ok hwf hw
  have hpl : placeS S.abs w = if x.pf.dir then .ok id else .error 240 := by unfold placeS; rw [hw]; simp only; rw [isDir_abs hv hx]
  refine spec_body (vs := [_, _]) 37 _ Tryz.func100 rfl Tryz.ntmps100 rfl rfl ?_; intro W
  refine jc_seq ?_
  refine jc_region ?_
  refine jl_h rfl rfl (hBox (cs := [_, _]) rfl rfl rfl rfl) ?_; rintro _ _ _ ⟨b3, rfl, rfl, rfl⟩
  iterate 3 refine jp rfl ?_
  refine jl_nil ?_
  refine jT ?_
  refine jc_seq ?_
  refine jc_draw [(0, true), (1, true), (2, true), (3, true), (4, true), (5, true), (6, true), (7, true), (8, true), (9, true), (10, true), (11, true), (12, true), (13, true), (14, true), (15, true), (16, true), (17, true)] _ (by kernel_rfl) (by kernel_rfl) (by kernel_rfl) rfl (fun _ h => h) ?_
  refine dp rfl rfl ?_
  refine jd_q rfl rfl rfl (qFieldAddr rfl rfl rfl rfl rfl) ?_
  refine jd_q rfl rfl rfl (qLd rfl rfl rfl rfl (CJ.loc rfl)) ?_
  refine jd_q rfl rfl rfl (qFieldAddr rfl rfl rfl rfl rfl) ?_
  refine jd_q rfl rfl rfl (qLd rfl rfl rfl rfl (CJ.loc rfl)) ?_
  refine jd_q rfl rfl rfl (qFieldAddr rfl rfl rfl rfl rfl) ?_
  refine jd_q rfl rfl rfl (qLd rfl rfl rfl rfl (CJ.loc rfl)) ?_
  refine jd_q rfl rfl rfl (qLen rfl rfl rfl) ?_
  refine da rfl rfl (by omega) ?_
  refine jd_q rfl rfl rfl (qEq (v' := .slice na w.2.dropLast.length nc) (qSl rfl rfl rfl (.no _) (.of rfl (by have := hW.big; omega) rfl) (.no _) (by have := hW.cap; omega) (by simp)) (by rw [slA_zero, List.length_dropLast, show ((w.2.length : Int) - 1).toNat = w.2.length - 1 by omega]; rfl)) ?_
  refine jd_q rfl rfl rfl (qEq (v' := .tuple #[.int .u32 id, pt x.b, .int .i64 0]) (qCall rfl rfl rfl rfl rfl (by kernel_rfl) (walk_spec S hS n hwf w.1 w.2.dropLast na nc M hV hW.sn.init (by rw [List.length_dropLast]; omega))) (by rw [hw]; exact walkV_at hv hx)) ?_
  iterate 7 refine dp rfl rfl ?_
  refine jd_nil ?_
  refine jPn ?_
  refine jT ?_
  refine jc_seq ?_
  refine jc_seq ?_
  refine jc_region ?_
  refine jp rfl ?_
  refine jt rfl (decide_eq_true (by omega)) ?_
  iterate 2 refine jp rfl ?_
  refine jl_q rfl rfl (qNilCheck rfl rfl rfl) ?_
  refine jl_q rfl rfl (qFieldAddr rfl rfl rfl rfl rfl) ?_
  refine jl_qb rfl rfl (qLd rfl rfl rfl rfl ((Vw.x (Vw.file (Vw.vol (Vw.inM hV) hv) hx)).cj rfl)) (fun h31 => ?_) (fun h31 => ?_)
  · iterate 2 refine jp rfl ?_
    refine jl_nil ?_
    refine jT ?_
    refine jc_no rfl ?_
    refine jc_skip ?_
    refine jT ?_
    refine jc_seq ?_
    refine jc_region ?_
    iterate 6 refine jp rfl ?_
    refine jl_nil ?_
    refine jT ?_
    refine jc_ret ?_
    refine jr3 rfl rfl rfl rfl ?_
    rw [hpl, if_pos h31]; exact (walkV_at hv hx).symm
  · iterate 2 refine jp rfl ?_
    refine jl_nil ?_
    refine jT ?_
    refine jc_yes rfl ?_
    refine jc_seq ?_
    refine jc_region ?_
    iterate 3 refine jp rfl ?_
    refine jl_nil ?_
    refine jT ?_
    refine jc_ret ?_
    refine jTr ?_
    refine jr3 rfl rfl rfl rfl ?_
    rw [hpl, if_neg (by rw [h31]; simp)]; rfl

theorem file_err (S : CS) (hS : S.Ok) (n : Nat) (hwf : WFS n S.abs) (M : Mem) (hV : ∀ p ∈ S.own, M p.1 = some p.2) (w : Wy) (na : Option Addr) (nc : Nat) (hW : WyOk M w na nc) (e : Int) (hw : walkS S.abs w.1 w.2 = .error e) :
    SpecL Tryz.prog 94 #[pt S.b, wyV w na nc] M [] fun u _ _ => u = walkV S w.1 (fileS S.abs w) := by
  have he := walkS_err hwf hw
  have hpl : fileS S.abs w = .error e := by unfold fileS; rw [hw]
  refine spec_body (vs := [_, _]) 31 _ Tryz.func94 rfl Tryz.ntmps94 rfl rfl ?_; intro W
  refine jc_seq ?_
  refine jc_region ?_
  refine jl_h rfl rfl (hBox (cs := [_, _]) rfl rfl rfl rfl) ?_; rintro _ _ _ ⟨b3, rfl, rfl, rfl⟩
  iterate 3 refine jp rfl ?_
  refine jl_nil ?_
  refine jT ?_
  refine jc_seq ?_
  refine jc_region ?_
  refine jp rfl ?_
  refine jl_q rfl rfl (qFieldAddr rfl rfl rfl rfl rfl) ?_
  refine jl_q rfl rfl (qLd rfl rfl rfl rfl (CJ.loc rfl)) ?_
  refine jl_q rfl rfl (qFieldAddr rfl rfl rfl rfl rfl) ?_
  refine jl_q rfl rfl (qLd rfl rfl rfl rfl (CJ.loc rfl)) ?_
  refine jl_q rfl rfl (qEq (qCall rfl rfl rfl rfl rfl (by kernel_rfl) (walk_spec S hS n hwf w.1 w.2 na nc M hV hW.sn hW.big)) (by rw [hw]; try rfl)) ?_
  iterate 7 refine jp rfl ?_
  refine jl_nil ?_
  refine jT ?_
  refine jc_seq ?_
  refine jc_seq ?_
  refine jc_region ?_
  refine jp rfl ?_
  refine jf rfl (decide_eq_false (by omega)) ?_
  iterate 6 refine jp rfl ?_
  refine jl_nil ?_
  refine jT ?_
  refine jc_no rfl ?_
  refine jc_skip ?_
  refine jT ?_
  refine jc_seq ?_
  refine jc_region ?_
  iterate 6 refine jp rfl ?_
  refine jl_nil ?_
  refine jT ?_
  refine jc_ret ?_
  refine jr3 rfl rfl rfl rfl ?_
  rw [hpl]; rfl

theorem file_ok (S : CS) (hS : S.Ok) (n : Nat) (hwf : WFS n S.abs) (M : Mem) (hV : ∀ p ∈ S.own, M p.1 = some p.2) (w : Wy) (na : Option Addr) (nc : Nat) (hW : WyOk M w na nc) (id : Int) (hw : walkS S.abs w.1 w.2 = .ok id) :
    SpecL Tryz.prog 94 #[pt S.b, wyV w na nc] M [] fun u _ _ => u = walkV S w.1 (fileS S.abs w) := by
  obtain ⟨v, x, hv, hx, hwv⟩ := walk_ok hwf hw
  have hpl : fileS S.abs w = if x.pf.dir then .error 240 else .ok id := by unfold fileS; rw [hw]; simp only; rw [isDir_abs hv hx]
  refine spec_body (vs := [_, _]) 31 _ Tryz.func94 rfl Tryz.ntmps94 rfl rfl ?_; intro W
  refine jc_seq ?_
  refine jc_region ?_
  refine jl_h rfl rfl (hBox (cs := [_, _]) rfl rfl rfl rfl) ?_; rintro _ _ _ ⟨b3, rfl, rfl, rfl⟩
  iterate 3 refine jp rfl ?_
  refine jl_nil ?_
  refine jT ?_
  refine jc_seq ?_
  refine jc_region ?_
  refine jp rfl ?_
  refine jl_q rfl rfl (qFieldAddr rfl rfl rfl rfl rfl) ?_
  refine jl_q rfl rfl (qLd rfl rfl rfl rfl (CJ.loc rfl)) ?_
  refine jl_q rfl rfl (qFieldAddr rfl rfl rfl rfl rfl) ?_
  refine jl_q rfl rfl (qLd rfl rfl rfl rfl (CJ.loc rfl)) ?_
  refine jl_q rfl rfl (qEq (v' := .tuple #[.int .u32 id, pt x.b, .int .i64 0]) (qCall rfl rfl rfl rfl rfl (by kernel_rfl) (walk_spec S hS n hwf w.1 w.2 na nc M hV hW.sn hW.big)) (by rw [hw]; exact walkV_at hv hx)) ?_
  iterate 7 refine jp rfl ?_
  refine jl_nil ?_
  refine jT ?_
  refine jc_seq ?_
  refine jc_seq ?_
  refine jc_region ?_
  refine jp rfl ?_
  refine jt rfl (decide_eq_true (by omega)) ?_
  iterate 2 refine jp rfl ?_
  refine jl_q rfl rfl (qNilCheck rfl rfl rfl) ?_
  refine jl_q rfl rfl (qFieldAddr rfl rfl rfl rfl rfl) ?_
  refine jl_qb rfl rfl (qLd rfl rfl rfl rfl ((Vw.x (Vw.file (Vw.vol (Vw.inM hV) hv) hx)).cj rfl)) (fun h26 => ?_) (fun h26 => ?_)
  · refine jp rfl ?_
    refine jl_nil ?_
    refine jT ?_
    refine jc_yes rfl ?_
    refine jc_seq ?_
    refine jc_region ?_
    iterate 3 refine jp rfl ?_
    refine jl_nil ?_
    refine jT ?_
    refine jc_ret ?_
    refine jTr ?_
    refine jr3 rfl rfl rfl rfl ?_
    rw [hpl, if_pos h26]; rfl
  · refine jp rfl ?_
    refine jl_nil ?_
    refine jT ?_
    refine jc_no rfl ?_
    refine jc_skip ?_
    refine jT ?_
    refine jc_seq ?_
    refine jc_region ?_
    iterate 6 refine jp rfl ?_
    refine jl_nil ?_
    refine jT ?_
    refine jc_ret ?_
    refine jr3 rfl rfl rfl rfl ?_
    rw [hpl, if_neg (by rw [h26]; simp)]; exact (walkV_at hv hx).symm


theorem place_spec (S : CS) (hS : S.Ok) (n : Nat) (hwf : WFS n S.abs) (M : Mem) (hV : ∀ p ∈ S.own, M p.1 = some p.2) (w : Wy) (na : Option Addr) (nc : Nat) (hW : WyOk M w na nc) (hne : w.2 ≠ []) : SpecL Tryz.prog 100 #[pt S.b, wyV w na nc] M [] fun u _ _ => u = walkV S w.1 (placeS S.abs w) := by
  cases hw : walkS S.abs w.1 w.2.dropLast with
  | error e => exact place_err S hS n hwf M hV w na nc hW hne e hw
  | ok id => exact place_ok S hS n hwf M hV w na nc hW hne id hw
theorem file_spec (S : CS) (hS : S.Ok) (n : Nat) (hwf : WFS n S.abs) (M : Mem) (hV : ∀ p ∈ S.own, M p.1 = some p.2) (w : Wy) (na : Option Addr) (nc : Nat) (hW : WyOk M w na nc) : SpecL Tryz.prog 94 #[pt S.b, wyV w na nc] M [] fun u _ _ => u = walkV S w.1 (fileS S.abs w) := by
  cases hw : walkS S.abs w.1 w.2 with
  | error e => exact file_err S hS n hwf M hV w na nc hW e hw
  | ok id => exact file_ok S hS n hwf M hV w na nc hW id hw
theorem turns_spec (S : CS) (hS : S.Ok) (n : Nat) (hwf : WFS n S.abs) (M : Mem) (hV : ∀ p ∈ S.own, M p.1 = some p.2) (vol : Int) (v : CV) (hv : getA vol S.vols = some v) :
    SpecL Tryz.prog 89 #[pt S.b, .int .i64 vol] M [] fun u _ _ => u = .int .i64 (if frozenS S.abs vol then 170 else 0) := by
  have hfr : frozenS S.abs vol = v.frozen := by unfold frozenS; rw [absV_get, hv]; rfl
  refine spec_body (vs := [_, _]) 14 _ Tryz.func89 rfl Tryz.ntmps89 rfl rfl ?_; intro W
  refine jc_seq ?_
  refine jc_region ?_
  refine jp rfl ?_
  refine jl_nil ?_
  refine jT ?_
  refine jc_seq ?_
  refine jc_seq ?_
  refine jc_region ?_
  refine jp rfl ?_
  refine jl_q rfl rfl (qNilCheck rfl rfl rfl) ?_
  refine jl_q rfl rfl (qFieldAddr rfl rfl rfl rfl rfl) ?_
  refine jl_q rfl rfl (qLd rfl rfl rfl rfl ((Vw.s (Vw.inM hV)).cj rfl)) ?_
  refine jp rfl ?_
  refine jl_q rfl rfl (qEq (v' := pt v.b) (qLookupO kI (z := .pointer none) rfl rfl rfl rfl (by kernel_rfl) (Vw.mo (Vw.inM hV)) hS.mo) (by rw [ptV_get, hv]; try rfl)) ?_
  refine jl_q rfl rfl (qNilCheck rfl rfl rfl) ?_
  refine jl_q rfl rfl (qFieldAddr rfl rfl rfl rfl rfl) ?_
  refine jl_qb rfl rfl (qLd rfl rfl rfl rfl ((Vw.v (Vw.vol (Vw.inM hV) hv)).cj rfl)) (fun h13 => ?_) (fun h13 => ?_)
  · refine jl_nil ?_
    refine jT ?_
    refine jc_yes rfl ?_
    refine jc_seq ?_
    refine jc_region ?_
    refine jp rfl ?_
    refine jl_nil ?_
    refine jT ?_
    refine jc_ret ?_
    refine jTr ?_
    refine jr1 rfl rfl ?_
    rw [hfr, if_pos h13]
  · refine jl_nil ?_
    refine jT ?_
    refine jc_no rfl ?_
    refine jc_skip ?_
    refine jT ?_
    refine jc_seq ?_
    refine jc_region ?_
    refine jp rfl ?_
    refine jl_nil ?_
    refine jT ?_
    refine jc_ret ?_
    refine jr1 rfl rfl ?_
    rw [hfr, if_neg (by rw [h13]; simp)]


def oldV (S : CS) (vol : Int) : Option Int → Value
  | none => .pointer none
  | some d => pt (blkOf S vol d)
theorem oldV_at {S : CS} {vol d : Int} {v : CV} {x : CF} (hv : getA vol S.vols = some v) (hx : getA d v.files = some x) : oldV S vol (some d) = pt x.b := by
  show pt (blkOf S vol d) = _; rw [blkOf_is hv hx]
theorem flat_nd {α : Type} {f : α → Lc} : ∀ {l : List α}, ((l.flatMap f).map (·.1)).Nodup → (∀ y ∈ l, ((f y).map (·.1)).Nodup) ∧ l.Pairwise fun y z => ∀ p ∈ f y, ∀ q ∈ f z, p.1 ≠ q.1
  | [], _ => ⟨fun _ h => (by cases h), .nil⟩
  | y :: l, h => by
    rw [List.flatMap_cons, List.map_append] at h
    obtain ⟨h1, h2, h3⟩ := List.nodup_append.1 h
    obtain ⟨h4, h5⟩ := flat_nd h2
    refine ⟨fun z hz => ?_, List.pairwise_cons.2 ⟨fun z hz p hp q hq e => h3 p.1 (List.mem_map_of_mem hp) q.1 (List.mem_map_of_mem (List.mem_flatMap.2 ⟨z, hz, hq⟩)) e, h5⟩⟩
    rcases List.mem_cons.1 hz with rfl | hz
    · exact h1
    · exact h4 z hz
theorem own_v_nd {S : CS} (h : (S.own.map (·.1)).Nodup) {vol : Int} {v : CV} (hv : getA vol S.vols = some v) : (v.own.map (·.1)).Nodup := by
  unfold CS.own at h
  simp only [List.map_cons] at h
  have := (List.nodup_cons.1 (List.nodup_cons.1 h).2).2
  exact (flat_nd this).1 _ (getA_mem hv)
/-- two files of one volume lie in two blocks -/
theorem blk_inj {S : CS} (h : (S.own.map (·.1)).Nodup) {vol : Int} {v : CV} (hv : getA vol S.vols = some v) {a b : Int} {x y : CF} (hx : getA a v.files = some x) (hy : getA b v.files = some y) (hab : a ≠ b) : x.b ≠ y.b := by
  have h2 := own_v_nd h hv
  unfold CV.own at h2
  simp only [List.map_cons] at h2
  have h3 := (flat_nd (List.nodup_cons.1 (List.nodup_cons.1 h2).2).2).2
  have hn : (a, x) ≠ (b, y) := fun e => hab (congrArg Prod.fst e)
  have key : ∀ {l : List (Int × CF)}, l.Pairwise (fun y z => ∀ p ∈ y.2.own, ∀ q ∈ z.2.own, p.1 ≠ q.1) → (a, x) ∈ l → (b, y) ∈ l → x.b ≠ y.b := by
    intro l hl
    induction hl with
    | nil => intro h; cases h
    | cons hp _ ih =>
      intro m1 m2
      rcases List.mem_cons.1 m1 with k1 | k1
      · rcases List.mem_cons.1 m2 with k2 | k2
        · exact absurd (k1.trans k2.symm) hn
        · rw [← k1] at hp; exact hp _ k2 _ (List.mem_cons_self ..) _ (List.mem_cons_self ..)
      · rcases List.mem_cons.1 m2 with k2 | k2
        · rw [← k2] at hp; exact fun e => hp (a, x) k1 (y.b, fObj y) (List.mem_cons_self ..) (x.b, fObj x) (List.mem_cons_self ..) e.symm
        · exact ih k1 k2
  exact key h3 (getA_mem hx) (getA_mem hy)
section
variable {P : Program} {ops : Array Oper} {N : Fs} {F : Fr} {E : Ent} {M : Mem} {L : Lc} {o : Oper}
theorem qPtrNe {x y : Operand} {t t' e : TypeId} {b : Nat} {p : Value} {r : Bool} {sz by_ : Nat} {z : List Value} (hg : gd ops F o = some true) (ho : o.op = .binOp .neq t x y t') (hx : ev F x = some (pt b)) (hy : ev F y = some p) [ht : Und P t (.pointer e)] [hl : Lay P e sz by_ z] (hz : Nat.beq sz 0 = false)
    (h : (p = .pointer none ∧ r = true) ∨ (p = pt b ∧ r = false) ∨ ∃ b2 c1 t1 c2 t2, p = pt b2 ∧ b ≠ b2 ∧ r = true ∧ OJ M L b (.cells c1 t1 (0, 0)) ∧ OJ M L b2 (.cells c2 t2 (0, 0))) : QF P ops N F M L o (.bool r) := qf_of hg fun ac ha w hw => by
  obtain ⟨ti, zv, hi, hi2, _⟩ := hl.info
  have hz' : ti.size ≠ 0 := fun e => by rw [hi2] at e; rw [e] at hz; simp at hz
  simp only [execOp, ho, ha.ev hx, ha.ev hy]
  rcases h with ⟨rfl, rfl⟩ | ⟨rfl, rfl⟩ | ⟨b2, c1, t1, c2, t2, rfl, hb, rfl, h1, h2⟩
  · have hp : P.underlying t = some (.pointer (P.pointee t)) := by rw [ht.h]; simp [Program.pointee, ht.h]
    have := run_neq_pointer_nil (P := P) w t (some ⟨b, 0, none⟩) hp
    simp [eqGuard, this]
  · have := run_eql_ptr_same (P := P) w ⟨b, 0, none⟩ ht.h hi
    have e1 : (binOp .neq t (pt b) (pt b)).run P w = .ok (.bool false) w := by
      have h0 : ∀ d : Nat, (Op.equalIn (d + 1) t (pt b) (pt b)).run P w = .ok true w := fun d => by
        simp [Op.equalIn, run_underlying ht.h, sizeOf, typeInfo, hi, run_sameAddr_same]
      simp only [binOp]
      simp [Op.equal, Op.maxDepth, h0 9999]
    simp [eqGuard, e1]
  · have hne : (⟨b, 0, none⟩ : Addr) ≠ ⟨b2, 0, none⟩ := fun e => hb (by injection e)
    have e1 : (binOp .neq t (pt b) (pt b2)).run P w = .ok (.bool true) w := by
      have h0 : ∀ d : Nat, (Op.equalIn (d + 1) t (pt b) (pt b2)).run P w = .ok false w := fun d => by
        simp [Op.equalIn, run_underlying ht.h, sizeOf, typeInfo, hi, hz', run_sameAddr_other w hne (h1.heap hw) (h2.heap hw)]
      simp only [binOp]
      simp [Op.equal, Op.maxDepth, h0 9999]
    simp [eqGuard, e1]
end

theorem fresh_empty (S : CS) (hS : S.Ok) (n : Nat) (hwf : WFS n S.abs) (M : Mem) (hV : ∀ p ∈ S.own, M p.1 = some p.2) (w : Wy) (na : Option Addr) (nc : Nat) (hW : WyOk M w na nc) (vol : Int) (old : Option Int) (p : Value) (he : w.2 = []) :
    SpecL Tryz.prog 88 #[pt S.b, wyV w na nc, .int .i64 vol, p] M [] fun u _ _ => u = walkV S w.1 (freshS S.abs w vol old) := by
  have hl0 : w.2.length = 0 := by rw [he]; rfl
  refine spec_body (vs := [_, _, _, _]) 60 _ Tryz.func88 rfl Tryz.ntmps88 rfl rfl ?_; intro W
  refine jc_seq ?_
  refine jc_region ?_
  refine jl_h rfl rfl (hBox (cs := [_, _]) rfl rfl rfl rfl) ?_; rintro _ _ _ ⟨b5, rfl, rfl, rfl⟩
  iterate 3 refine jp rfl ?_
  refine jl_nil ?_
  refine jT ?_
  refine jc_seq ?_
  refine jc_seq ?_
  refine jc_region ?_
  refine jl_q rfl rfl (qFieldAddr rfl rfl rfl rfl rfl) ?_
  refine jl_q rfl rfl (qLd rfl rfl rfl rfl (CJ.loc rfl)) ?_
  refine jl_q rfl rfl (qLen rfl rfl rfl) ?_
  refine jt rfl (decide_eq_true (by omega)) ?_
  refine jl_nil ?_
  refine jT ?_
  refine jc_yes rfl ?_
  refine jc_seq ?_
  refine jc_region ?_
  iterate 3 refine jp rfl ?_
  refine jl_nil ?_
  refine jT ?_
  refine jc_ret ?_
  refine jTr ?_
  refine jr3 rfl rfl rfl rfl ?_
  have : freshS S.abs w vol old = .error 251 := by unfold freshS; rw [if_pos he]
  rw [this]; rfl

theorem fresh_perr (S : CS) (hS : S.Ok) (n : Nat) (hwf : WFS n S.abs) (M : Mem) (hV : ∀ p ∈ S.own, M p.1 = some p.2) (w : Wy) (na : Option Addr) (nc : Nat) (hW : WyOk M w na nc) (vol : Int) (old : Option Int) (p : Value) (hne : w.2 ≠ []) (e : Int) (hp : placeS S.abs w = .error e) :
    SpecL Tryz.prog 88 #[pt S.b, wyV w na nc, .int .i64 vol, p] M [] fun u _ _ => u = walkV S w.1 (freshS S.abs w vol old) := by
  have hl0 : 0 < w.2.length := List.length_pos_iff.2 hne
  have he := placeS_err hwf hp
  refine spec_body (vs := [_, _, _, _]) 60 _ Tryz.func88 rfl Tryz.ntmps88 rfl rfl ?_; intro W
  refine jc_seq ?_
  refine jc_region ?_
  refine jl_h rfl rfl (hBox (cs := [_, _]) rfl rfl rfl rfl) ?_; rintro _ _ _ ⟨b5, rfl, rfl, rfl⟩
  iterate 3 refine jp rfl ?_
  refine jl_nil ?_
  refine jT ?_
  refine jc_seq ?_
  refine jc_seq ?_
  refine jc_region ?_
  refine jl_q rfl rfl (qFieldAddr rfl rfl rfl rfl rfl) ?_
  refine jl_q rfl rfl (qLd rfl rfl rfl rfl (CJ.loc rfl)) ?_
  refine jl_q rfl rfl (qLen rfl rfl rfl) ?_
  refine jf rfl (decide_eq_false (by omega)) ?_
  refine jl_nil ?_
  refine jT ?_
  refine jc_no rfl ?_
  refine jc_skip ?_
  refine jT ?_
  refine jc_seq ?_
  refine jc_region ?_
  refine jp rfl ?_
  refine jl_q rfl rfl (qLdL rfl rfl rfl rfl rfl (by first | (simp only [Nat.reduceAdd, Nat.zero_add, Nat.add_zero, List.drop_succ_cons, List.drop_zero, List.drop_nil, List.take_succ_cons, List.take_zero, List.take_nil, List.cons_append, List.nil_append, List.append_nil, List.length_cons, List.length_nil]; try rfl) | rfl)) ?_
  refine jl_q rfl rfl (qEq (qCall rfl rfl rfl rfl rfl (by kernel_rfl) (place_spec S hS n hwf M hV w na nc hW hne)) (by rw [hp]; try rfl)) ?_
  iterate 7 refine jp rfl ?_
  refine jl_nil ?_
  refine jT ?_
  refine jc_seq ?_
  refine jc_block ?_
  refine jc_seq ?_
  refine jc_region ?_
  refine jp rfl ?_
  refine jt rfl (decide_eq_true (by omega)) ?_
  refine jp rfl ?_
  refine jl_nil ?_
  refine jT ?_
  refine jc_yes rfl ?_
  refine jc_seq ?_
  refine jc_region ?_
  iterate 4 refine jp rfl ?_
  refine jl_nil ?_
  refine jT ?_
  refine jc_ret ?_
  refine jBr ?_
  refine jTr ?_
  refine jr3 rfl rfl rfl rfl ?_
  have : freshS S.abs w vol old = .error e := by unfold freshS; rw [if_neg hne, hp]
  rw [this]; rfl

set_option maxHeartbeats 1000000 in
theorem fresh_ok (S : CS) (hS : S.Ok) (n : Nat) (hwf : WFS n S.abs) (M : Mem) (hV : ∀ p ∈ S.own, M p.1 = some p.2) (w : Wy) (na : Option Addr) (nc : Nat) (hW : WyOk M w na nc) (vol : Int) (old : Option Int) (p : Value) (hne : w.2 ≠ []) (id : Int) (hp : placeS S.abs w = .ok id) (v : CV) (x : CF) (hv : getA w.1 S.vols = some v) (hx : getA id v.files = some x) (hd : x.pf.dir = true) (hnd : (S.own.map (·.1)).Nodup) (hold : w.1 = vol → (old = none ∧ p = .pointer none) ∨ ∃ d y, old = some d ∧ getA d v.files = some y ∧ p = pt y.b) :
    SpecL Tryz.prog 88 #[pt S.b, wyV w na nc, .int .i64 vol, p] M [] fun u _ _ => u = walkV S w.1 (freshS S.abs w vol old) := by
  have hl0 : 0 < w.2.length := List.length_pos_iff.2 hne
  obtain ⟨nmb, nmo, e1, e2, e3⟩ := ((hS.v hv).x hx).map hd
  have hbig := hW.big
  have hfr : freshS S.abs w vol old = if w.1 = vol then (if (getA (lastN w) x.pf.names).isSome then .error 251 else if 32 ≤ x.pf.names.length ∧ old ≠ some id then .error 4 else .ok id) else .error 2 := by unfold freshS; rw [if_neg hne, hp]; simp only; rw [namesAt_abs hv hx]
  have hlen : x.pf.names.length ≤ 32 := ((hwf.vol w.1 v.abs (by rw [absV_get, hv]; rfl)).wf.len id x.pf (by show getA id (absF v.files) = _; rw [absF_get, hx]; rfl)).2
  refine spec_body (vs := [_, _, _, _]) 60 _ Tryz.func88 rfl Tryz.ntmps88 rfl rfl ?_; intro W
  refine jc_seq ?_
  refine jc_region ?_
  refine jl_h rfl rfl (hBox (cs := [_, _]) rfl rfl rfl rfl) ?_; rintro _ _ _ ⟨b5, rfl, rfl, rfl⟩
  iterate 3 refine jp rfl ?_
  refine jl_nil ?_
  refine jT ?_
  refine jc_seq ?_
  refine jc_seq ?_
  refine jc_region ?_
  refine jl_q rfl rfl (qFieldAddr rfl rfl rfl rfl rfl) ?_
  refine jl_q rfl rfl (qLd rfl rfl rfl rfl (CJ.loc rfl)) ?_
  refine jl_q rfl rfl (qLen rfl rfl rfl) ?_
  refine jf rfl (decide_eq_false (by omega)) ?_
  refine jl_nil ?_
  refine jT ?_
  refine jc_no rfl ?_
  refine jc_skip ?_
  refine jT ?_
  refine jc_seq ?_
  refine jc_region ?_
  refine jp rfl ?_
  refine jl_q rfl rfl (qLdL rfl rfl rfl rfl rfl (by first | (simp only [Nat.reduceAdd, Nat.zero_add, Nat.add_zero, List.drop_succ_cons, List.drop_zero, List.drop_nil, List.take_succ_cons, List.take_zero, List.take_nil, List.cons_append, List.nil_append, List.append_nil, List.length_cons, List.length_nil]; try rfl) | rfl)) ?_
  refine jl_q rfl rfl (qEq (v' := .tuple #[.int .u32 id, pt x.b, .int .i64 0]) (qCall rfl rfl rfl rfl rfl (by kernel_rfl) (place_spec S hS n hwf M hV w na nc hW hne)) (by rw [hp]; exact walkV_at hv hx)) ?_
  iterate 7 refine jp rfl ?_
  refine jl_nil ?_
  refine jT ?_
  refine jc_seq ?_
  refine jc_block ?_
  refine jc_seq ?_
  refine jc_region ?_
  refine jp rfl ?_
  refine jf rfl (decide_eq_false (by omega)) ?_
  refine jp rfl ?_
  refine jl_nil ?_
  refine jT ?_
  refine jc_no rfl ?_
  refine jc_seq ?_
  refine jc_region ?_
  refine jl_q rfl rfl (qFieldAddr rfl rfl rfl rfl rfl) ?_
  refine jl_q rfl rfl (qLd rfl rfl rfl rfl (CJ.loc rfl)) ?_
  refine jp rfl ?_
  refine js rfl (fun h35 => ?_) (fun h35 => ?_)
  · refine jp rfl ?_
    refine jl_nil ?_
    refine jT ?_
    refine jc_yes rfl ?_
    refine jc_seq ?_
    refine jc_region ?_
    iterate 3 refine jp rfl ?_
    refine jl_nil ?_
    refine jT ?_
    refine jc_ret ?_
    refine jBr ?_
    refine jTr ?_
    refine jr3 rfl rfl rfl rfl ?_
    rw [hfr, if_neg h35]; rfl
  · refine jp rfl ?_
    refine jl_nil ?_
    refine jT ?_
    refine jc_no rfl ?_
    refine jc_skip ?_
    refine jB ?_
    refine jT ?_
    refine jc_seq ?_
    refine jc_seq ?_
    refine jc_draw [(0, true), (1, true), (2, true), (3, true), (4, true), (5, true), (6, true), (7, true), (8, true), (9, true), (10, true), (11, true)] _ (by kernel_rfl) (by kernel_rfl) (by kernel_rfl) rfl (fun _ h => h) ?_
    refine dp rfl rfl ?_
    refine jd_q rfl rfl rfl (qNilCheck rfl rfl rfl) ?_
    refine jd_q rfl rfl rfl (qFieldAddr rfl rfl rfl rfl rfl) ?_
    refine jd_q rfl rfl rfl (qEq (qLd rfl rfl rfl rfl ((Vw.x (Vw.file (Vw.vol (Vw.inM hV) hv) hx)).cj rfl)) e1) ?_
    refine jd_q rfl rfl rfl (qLdL rfl rfl rfl rfl rfl (by first | (simp only [Nat.reduceAdd, Nat.zero_add, Nat.add_zero, List.drop_succ_cons, List.drop_zero, List.drop_nil, List.take_succ_cons, List.take_zero, List.take_nil, List.cons_append, List.nil_append, List.append_nil, List.length_cons, List.length_nil]; try rfl) | rfl)) ?_
    refine jd_q rfl rfl rfl (qCall rfl rfl rfl rfl rfl (by kernel_rfl) (last_walk w na nc M hW.sn hne hW.big)) ?_
    refine jd_q rfl rfl rfl (qEq (v' := .tuple #[.int .u32 ((getA (lastN w) x.pf.names).getD 0), .bool (getA (lastN w) x.pf.names).isSome]) (qLookup2 kS (z := .int .u32 0) rfl rfl rfl rfl (by kernel_rfl) (Vw.xn (Vw.file (Vw.vol (Vw.inM hV) hv) hx) (nmb, nmo) (by rw [e2]; simp)) e3) (by rw [names_get]; cases getA (lastN w) x.pf.names <;> rfl)) ?_
    iterate 5 refine dp rfl rfl ?_
    refine jd_nil ?_
    refine jPn ?_
    refine jT ?_
    refine jc_seq ?_
    refine jc_region ?_
    refine jp rfl ?_
    refine jl_nil ?_
    refine jT ?_
    refine jc_if rfl (fun h46 => ?_) (fun h46 => ?_)
    · refine jc_seq ?_
      refine jc_region ?_
      iterate 3 refine jp rfl ?_
      refine jl_nil ?_
      refine jT ?_
      refine jc_ret ?_
      refine jTr ?_
      refine jr3 rfl rfl rfl rfl ?_
      rw [hfr, if_pos (by omega), if_pos h46]; rfl
    · refine jc_skip ?_
      refine jT ?_
      refine jc_seq ?_
      refine jc_seq ?_
      refine jc_region ?_
      refine jp rfl ?_
      refine jl_q rfl rfl (qNilCheck rfl rfl rfl) ?_
      refine jl_q rfl rfl (qFieldAddr rfl rfl rfl rfl rfl) ?_
      refine jl_q rfl rfl (qEq (qLd rfl rfl rfl rfl ((Vw.x (Vw.file (Vw.vol (Vw.inM hV) hv) hx)).cj rfl)) e1) ?_
      refine jl_q rfl rfl (qEq (v' := .int .i64 x.pf.names.length) (qLenMap kS rfl rfl rfl (Vw.xn (Vw.file (Vw.vol (Vw.inM hV) hv) hx) (nmb, nmo) (by rw [e2]; simp)) e3) (by rw [List.length_map])) ?_
      refine js rfl (fun h52 => ?_) (fun h52 => ?_)
      · iterate 3 refine jp rfl ?_
        refine jl_qb rfl rfl (qPtrNe (r := decide (old ≠ some id)) rfl rfl rfl rfl rfl (by
          rcases hold (by omega) with ⟨ho, hp⟩ | ⟨d, y, ho, hy, hp⟩
          · exact .inl ⟨hp, by rw [ho]; simp⟩
          · by_cases e : d = id
            · subst e; rw [hx] at hy; cases hy; exact .inr (.inl ⟨hp, by rw [ho]; simp⟩)
            · exact .inr (.inr ⟨y.b, _, _, _, _, hp, blk_inj hnd hv hx hy (Ne.symm e), by rw [ho]; simp [e], Vw.x (Vw.file (Vw.vol (Vw.inM hV) hv) hx), Vw.x (Vw.file (Vw.vol (Vw.inM hV) hv) hy)⟩))) (fun h56 => ?_) (fun h56 => ?_)
        · refine jp rfl ?_
          refine jl_nil ?_
          refine jT ?_
          refine jc_yes rfl ?_
          refine jc_seq ?_
          refine jc_region ?_
          iterate 3 refine jp rfl ?_
          refine jl_nil ?_
          refine jT ?_
          refine jc_ret ?_
          refine jTr ?_
          refine jr3 rfl rfl rfl rfl ?_
          rw [hfr, if_pos (by omega), if_neg (by rw [h46]; simp), if_pos ⟨by omega, by simpa using h56⟩]; rfl
        · refine jp rfl ?_
          refine jl_nil ?_
          refine jT ?_
          refine jc_no rfl ?_
          refine jc_skip ?_
          refine jT ?_
          refine jc_seq ?_
          refine jc_region ?_
          iterate 5 refine jp rfl ?_
          refine jl_nil ?_
          refine jT ?_
          refine jc_ret ?_
          refine jr3 rfl rfl rfl rfl ?_
          rw [hfr, if_pos (by omega), if_neg (by rw [h46]; simp), if_neg (fun h => h.2 (by simpa using h56))]; exact (walkV_at hv hx).symm
      · iterate 5 refine jp rfl ?_
        refine jl_nil ?_
        refine jT ?_
        refine jc_no rfl ?_
        refine jc_skip ?_
        refine jT ?_
        refine jc_seq ?_
        refine jc_region ?_
        iterate 5 refine jp rfl ?_
        refine jl_nil ?_
        refine jT ?_
        refine jc_ret ?_
        refine jr3 rfl rfl rfl rfl ?_
        rw [hfr, if_pos (by omega), if_neg (by rw [h46]; simp), if_neg (fun h => by have := h.1; omega)]; exact (walkV_at hv hx).symm


theorem fresh_spec (S : CS) (hS : S.Ok) (n : Nat) (hwf : WFS n S.abs) (M : Mem) (hV : ∀ p ∈ S.own, M p.1 = some p.2) (w : Wy) (na : Option Addr) (nc : Nat) (hW : WyOk M w na nc) (vol : Int) (old : Option Int) (p : Value) (hnd : (S.own.map (·.1)).Nodup) (hold : w.1 = vol → (old = none ∧ p = .pointer none) ∨ ∃ d v y, old = some d ∧ getA w.1 S.vols = some v ∧ getA d v.files = some y ∧ p = pt y.b) : SpecL Tryz.prog 88 #[pt S.b, wyV w na nc, .int .i64 vol, p] M [] fun u _ _ => u = walkV S w.1 (freshS S.abs w vol old) := by
  by_cases hne : w.2 = []
  · exact fresh_empty S hS n hwf M hV w na nc hW vol old p hne
  · cases hp : placeS S.abs w with
    | error e => exact fresh_perr S hS n hwf M hV w na nc hW vol old p hne e hp
    | ok id =>
      obtain ⟨v, x, hv, hx, hwv, hd⟩ := placeS_ok hwf hp
      exact fresh_ok S hS n hwf M hV w na nc hW vol old p hne id hp v x hv hx hd hnd fun hvol => (hold hvol).imp_right fun ⟨d, v2, y, h0, h1, h2, h3⟩ => by
        rw [hv] at h1; cases h1; exact ⟨d, y, h0, h2, h3⟩
end Go.Proofs.YtdjaehgadehnfaaGreatDoor
