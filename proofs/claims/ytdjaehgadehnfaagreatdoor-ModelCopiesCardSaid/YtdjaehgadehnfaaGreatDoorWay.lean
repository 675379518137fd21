/- Walks: small parts of the model, ways, places. -/
import Derived.Test.YtdjaehgadehnfaaGreatDoorRp
namespace Go.Proofs.YtdjaehgadehnfaaGreatDoor
set_option linter.unusedVariables false
set_option linter.unusedSimpArgs false
open Go.RowKit Go.MapKept

/-! ### replies -/
abbrev rpc (r : RP) (dv nv : Value) : List Value := [.int .i64 r.err, .int .i64 r.id, dv, nv, .int .u32 r.sid, .bool r.sdir, .int .i64 r.slinks, .int .i64 r.ssize]
abbrev rp0 (r : RP) : Value := .agg (rpc r (.slice none 0 0) (.slice none 0 0)).toArray
abbrev wyV (w : Wy) (a : Option Addr) (c : Nat) : Value := .agg [.int .i64 w.1, .slice a w.2.length c].toArray
def SN (M : Mem) (a : Option Addr) (l : List Str) : Prop := SM M a (l.map Value.string)
theorem SN.mono {M M' : Mem} {a : Option Addr} {l : List Str} (h : SN M a l) (hM : MLe M M') : SN M' a l := SM.mono h hM
theorem SN.open {M : Mem} {a : Option Addr} {l : List Str} (h : SN M a l) (hne : l ≠ []) : ∃ b off, a = some ⟨b, off, none⟩ ∧ ∀ (i : Nat) s, l[i]? = some s → CM M b (off + i) (.string s) := by
  obtain ⟨b, off, h1, h2⟩ := SM.open h (by simpa using hne)
  exact ⟨b, off, h1, fun i s hs => h2 i _ (by rw [List.getElem?_map, hs]; rfl)⟩
def walkV (S : CS) (vol : Int) : Except Int Int → Value
  | .error e => .tuple #[.int .u32 0, .pointer none, .int .i64 e]
  | .ok id => .tuple #[.int .u32 id, pt (blkOf S vol id), .int .i64 0]
theorem drop_at {α : Type} {l : List α} {i : Nat} {s : α} (h : l[i]? = some s) : l.drop i = s :: l.drop (i + 1) := by
  obtain ⟨h1, h2⟩ := List.getElem?_eq_some_iff.1 h
  rw [← h2]; exact (List.drop_eq_getElem_cons h1)

theorem told_walk (e : Int) (M : Mem) :
    SpecL Tryz.prog 32 #[.int .i64 e] M [] fun u _ _ => u = rp0 (told e) := by
  refine spec_body (vs := [_]) 5 _ Tryz.func32 rfl Tryz.ntmps32 rfl rfl ?_; intro W
  refine jc_seq ?_
  refine jc_region ?_
  refine jl_h rfl rfl (hAlloc rfl rfl) ?_; rintro _ _ _ ⟨b2, rfl, rfl, rfl⟩
  refine jl_nil ?_
  refine jT ?_
  refine jc_seq ?_
  refine jc_region ?_
  refine jp rfl ?_
  refine jl_q rfl rfl (qBuild (cs := [_, _, _, _, _, _, _, _]) rfl rfl rfl (by rfl)) ?_
  refine jl_s rfl (hStoreL rfl rfl rfl rfl rfl rfl rfl rfl (by first | (simp only [Nat.reduceAdd, Nat.zero_add, Nat.add_zero, List.drop_succ_cons, List.drop_zero, List.drop_nil, List.take_succ_cons, List.take_zero, List.take_nil, List.cons_append, List.nil_append, List.append_nil, List.length_cons, List.length_nil]; try rfl) | rfl)) ?_; rintro _ _ _ ⟨rfl, rfl⟩
  refine jl_nil ?_
  refine jT ?_
  refine jc_ret ?_
  refine jrs (rs := [_]) rfl (.cons (.agg rfl rfl rfl) .nil) ?_
  rfl

theorem in_walk (n a b : Int) (M : Mem) :
    SpecL Tryz.prog 86 #[.int .i64 n, .int .i64 a, .int .i64 b] M [] fun u _ _ => u = .bool (inI n a b) := by
  refine spec_body (vs := [_, _, _]) 15 _ Tryz.func86 rfl Tryz.ntmps86 rfl rfl ?_; intro W
  refine jc_seq ?_
  refine jc_region ?_
  refine jp rfl ?_
  refine jl_nil ?_
  refine jT ?_
  refine jc_seq ?_
  refine jc_region ?_
  iterate 2 refine jp rfl ?_
  refine js rfl (fun h9 => ?_) (fun h9 => ?_)
  · iterate 6 refine jp rfl ?_
    refine jl_nil ?_
    refine jT ?_
    refine jc_ret ?_
    refine jr1 rfl rfl ?_
    first | (show Value.bool _ = Value.bool _; congr 1; unfold inI; simp [h9]) | (show Value.bool _ = Value.bool _; congr 1; unfold inI; simp; omega)
  · iterate 6 refine jp rfl ?_
    refine jl_nil ?_
    refine jT ?_
    refine jc_ret ?_
    refine jr1 rfl rfl ?_
    first | (show Value.bool _ = Value.bool _; congr 1; unfold inI; simp [h9]) | (show Value.bool _ = Value.bool _; congr 1; unfold inI; simp; omega)

theorem last_walk (w : Wy) (na : Option Addr) (nc : Nat) (M : Mem) (hN : SN M na w.2) (hne : w.2 ≠ []) (hnl : w.2.length ≤ 1000000) :
    SpecL Tryz.prog 90 #[wyV w na nc] M [] fun u _ _ => u = .string (lastN w) := by
  obtain ⟨nb, no, rfl, hnx⟩ := hN.open hne
  have hl0 : 0 < w.2.length := List.length_pos_iff.2 hne
  refine spec_body (vs := [_]) 11 _ Tryz.func90 rfl Tryz.ntmps90 rfl rfl ?_; intro W
  refine jc_seq ?_
  refine jc_region ?_
  refine jl_h rfl rfl (hBox (cs := [_, _]) rfl rfl rfl rfl) ?_; rintro _ _ _ ⟨b1, rfl, rfl, rfl⟩
  refine jp rfl ?_
  refine jl_nil ?_
  refine jT ?_
  refine jc_seq ?_
  refine jc_region ?_
  refine jl_q rfl rfl (qFieldAddr rfl rfl rfl rfl rfl) ?_
  refine jl_q rfl rfl (qLd rfl rfl rfl rfl (CJ.loc rfl)) ?_
  refine jl_q rfl rfl (qFieldAddr rfl rfl rfl rfl rfl) ?_
  refine jl_q rfl rfl (qLd rfl rfl rfl rfl (CJ.loc rfl)) ?_
  refine jl_q rfl rfl (qLen rfl rfl rfl) ?_
  refine ja rfl (by omega) ?_
  refine jl_q rfl rfl (qIdxS rfl rfl rfl rfl (by omega)) ?_
  have hlast : w.2[w.2.length - 1]? = some (lastN w) := by unfold lastN; rw [← List.getLast?_eq_getElem?]; obtain ⟨y, hy⟩ : ∃ y, w.2.getLast? = some y := ⟨w.2.getLast hne, List.getLast?_eq_some_getLast hne⟩; rw [hy]; rfl
  refine jl_q rfl rfl (qLd rfl rfl rfl rfl ((hnx _ (lastN w) (by rw [Nat.mul_one, show ((w.2.length : Int) - 1).toNat = w.2.length - 1 by omega]; exact hlast)).cj _)) ?_
  refine jp rfl ?_
  refine jl_nil ?_
  refine jT ?_
  refine jc_ret ?_
  refine jr1 rfl rfl ?_
  rfl

theorem walk_none (S : CS) (hS : S.Ok) (n : Nat) (hwf : WFS n S.abs) (vol : Int) (names : List Str) (na : Option Addr) (nc : Nat) (M : Mem) (hV : ∀ p ∈ S.own, M p.1 = some p.2) (hN : SN M na names) (hnl : names.length ≤ 1000000) (hv : getA vol S.vols = none) :
    SpecL Tryz.prog 101 #[pt S.b, .int .i64 vol, .slice na names.length nc] M [] fun u _ _ => u = walkV S vol (walkS S.abs vol names) := by
  refine spec_body (vs := [_, _, _]) 61 _ Tryz.func101 rfl Tryz.ntmps101 rfl rfl ?_; intro W
  refine jc_seq ?_
  refine jc_region ?_
  iterate 3 refine jp rfl ?_
  refine jl_nil ?_
  refine jT ?_
  refine jc_seq ?_
  refine jc_region ?_
  refine jp rfl ?_
  refine jl_q rfl rfl (qNilCheck rfl rfl rfl) ?_
  refine jl_q rfl rfl (qFieldAddr rfl rfl rfl rfl rfl) ?_
  refine jl_q rfl rfl (qLd rfl rfl rfl rfl ((Vw.s (Vw.inM hV)).cj rfl)) ?_
  refine jp rfl ?_
  refine jl_q rfl rfl (qEq (v' := .pointer none) (qLookupO kI (z := .pointer none) rfl rfl rfl rfl (by kernel_rfl) (Vw.mo (Vw.inM hV)) hS.mo) (by rw [ptV_get, hv]; try rfl)) ?_
  refine jp rfl ?_
  refine jl_nil ?_
  refine jT ?_
  refine jc_seq ?_
  refine jc_seq ?_
  refine jc_region ?_
  refine jp rfl ?_
  refine jl_q rfl rfl (qEq (qPtrNil rfl rfl rfl rfl) (v' := .bool true) (by rfl)) ?_
  refine jl_nil ?_
  refine jT ?_
  refine jc_yes rfl ?_
  refine jc_seq ?_
  refine jc_region ?_
  iterate 3 refine jp rfl ?_
  refine jl_nil ?_
  refine jT ?_
  refine jc_ret ?_
  refine jTr ?_
  refine jr3 rfl rfl rfl rfl ?_
  have : walkS S.abs vol names = .error 6 := by unfold walkS; rw [absV_get, hv]; rfl
  rw [this]; rfl

set_option maxHeartbeats 2000000 in
theorem walk_some (S : CS) (hS : S.Ok) (n : Nat) (hwf : WFS n S.abs) (vol : Int) (names : List Str) (na : Option Addr) (nc : Nat) (M : Mem) (hV : ∀ p ∈ S.own, M p.1 = some p.2) (hN : SN M na names) (hnl : names.length ≤ 1000000) (v : CV) (hv : getA vol S.vols = some v) :
    SpecL Tryz.prog 101 #[pt S.b, .int .i64 vol, .slice na names.length nc] M [] fun u _ _ => u = walkV S vol (walkS S.abs vol names) := by
  have hwv := hwf.vol vol v.abs (by rw [absV_get, hv]; rfl)
  have hwb : WFB (absF v.files) := hwv.wf.toWFB
  have hws : walkS S.abs vol names = walkN (absF v.files) 1 names := by unfold walkS; rw [absV_get, hv]; rfl
  obtain ⟨r0, hr0, _⟩ := hwb.root
  obtain ⟨x0, hx0⟩ : ∃ x0, getA 1 v.files = some x0 := by
    rw [absF_get] at hr0; cases h : getA 1 v.files with
    | none => rw [h] at hr0; cases hr0
    | some x => exact ⟨x, rfl⟩
  refine spec_body (vs := [_, _, _]) 61 _ Tryz.func101 rfl Tryz.ntmps101 rfl rfl ?_; intro W
  refine jc_seq ?_
  refine jc_region ?_
  iterate 3 refine jp rfl ?_
  refine jl_nil ?_
  refine jT ?_
  refine jc_seq ?_
  refine jc_region ?_
  refine jp rfl ?_
  refine jl_q rfl rfl (qNilCheck rfl rfl rfl) ?_
  refine jl_q rfl rfl (qFieldAddr rfl rfl rfl rfl rfl) ?_
  refine jl_q rfl rfl (qLd rfl rfl rfl rfl ((Vw.s (Vw.inM hV)).cj rfl)) ?_
  refine jp rfl ?_
  refine jl_q rfl rfl (qEq (v' := pt v.b) (qLookupO kI (z := .pointer none) rfl rfl rfl rfl (by kernel_rfl) (Vw.mo (Vw.inM hV)) hS.mo) (by rw [ptV_get, hv]; try rfl)) ?_
  refine jp rfl ?_
  refine jl_nil ?_
  refine jT ?_
  refine jc_seq ?_
  refine jc_seq ?_
  refine jc_region ?_
  refine jp rfl ?_
  refine jl_q rfl rfl (qEq (qPtrNil rfl rfl rfl rfl) (v' := .bool false) (by rfl)) ?_
  refine jl_nil ?_
  refine jT ?_
  refine jc_no rfl ?_
  refine jc_skip ?_
  refine jT ?_
  refine jc_seq ?_
  refine jc_region ?_
  refine jp rfl ?_
  refine jl_nil ?_
  refine jT ?_
  refine jc_seq ?_
  refine jc_seq ?_
  refine jc_region ?_
  refine jp rfl ?_
  refine jl_q rfl rfl (qLen rfl rfl rfl) ?_
  refine jp rfl ?_
  refine jl_nil ?_
  refine jT ?_
  refine jc_block ?_
  refine jc_loopK (α := Nat × Int) (fun y => [(9, pt v.b), (10, .int .u32 y.2), (24, .slice na names.length nc), (25, .int .i64 names.length), (26, .int .i64 y.1)]) (fun _ => M) (fun _ => []) (fun y => y.1 ≤ names.length ∧ ∃ x, getA y.2 v.files = some x ∧ walkN (absF v.files) 1 names = walkN (absF v.files) y.2 (names.drop y.1)) (fun y => names.length - y.1)
    (0, 1) (Keep.cons (t := 9) rfl (Keep.cons (t := 10) rfl (Keep.cons (t := 24) rfl (Keep.cons (t := 25) rfl (Keep.cons (t := 26) rfl Keep.nil))))) ⟨Nat.zero_le _, x0, hx0, rfl⟩ (fun _ h => h) ?_
  rintro ⟨i, id⟩ ⟨hi, x, hx, hw⟩
  dsimp only at hi hx hw ⊢
  refine jc_seq ?_
  refine jc_region ?_
  refine js rfl (fun h27 => ?_) (fun h27 => ?_)
  · refine jl_nil ?_
    refine jT ?_
    refine jc_seq ?_
    refine jc_yes rfl ?_
    refine jc_skip ?_
    refine jT ?_
    refine jc_seq ?_
    refine jc_block ?_
    refine jc_seq ?_
    refine jc_region ?_
    have hiN : i < names.length := by omega
    obtain ⟨nb, no, e, hnx⟩ := hN.open (by intro e; rw [e] at hiN; simp at hiN)
    subst e
    obtain ⟨s, hs⟩ : ∃ s, names[i]? = some s := ⟨names[i], List.getElem?_eq_getElem hiN⟩
    refine jl_q rfl rfl (qIdxS rfl rfl rfl rfl (by omega)) ?_
    refine jl_q rfl rfl (qLd rfl rfl rfl rfl ((hnx _ s (by rw [Nat.mul_one, Int.toNat_natCast]; exact hs)).cj _)) ?_
    refine jp rfl ?_
    refine jl_nil ?_
    refine jT ?_
    refine jc_seq ?_
    refine jc_region ?_
    refine jp rfl ?_
    refine jl_q rfl rfl (qNilCheck rfl rfl rfl) ?_
    refine jl_q rfl rfl (qFieldAddr rfl rfl rfl rfl rfl) ?_
    refine jl_q rfl rfl (qLd rfl rfl rfl rfl ((Vw.v (Vw.vol (Vw.inM hV) hv)).cj rfl)) ?_
    refine jp rfl ?_
    refine jl_q rfl rfl (qEq (qLookupO kU (z := .pointer none) rfl rfl rfl rfl (by kernel_rfl) (Vw.vmo (Vw.vol (Vw.inM hV) hv)) (hS.v hv).mo) (v' := pt x.b) (by rw [ptF_get, hx]; try rfl)) ?_
    refine jp rfl ?_
    refine jl_nil ?_
    refine jT ?_
    refine jc_seq ?_
    refine jc_seq ?_
    refine jc_region ?_
    refine jp rfl ?_
    refine jl_q rfl rfl (qNilCheck rfl rfl rfl) ?_
    refine jl_q rfl rfl (qFieldAddr rfl rfl rfl rfl rfl) ?_
    refine jl_qb rfl rfl (qLd rfl rfl rfl rfl ((Vw.x (Vw.file (Vw.vol (Vw.inM hV) hv) hx)).cj rfl)) (fun h39 => ?_) (fun h39 => ?_)
    · refine jp rfl ?_
      refine jl_nil ?_
      refine jT ?_
      refine jc_no rfl ?_
      refine jc_skip ?_
      refine jT ?_
      refine jc_seq ?_
      refine jc_region ?_
      refine jp rfl ?_
      refine jl_q rfl rfl (qNilCheck rfl rfl rfl) ?_
      refine jl_q rfl rfl (qFieldAddr rfl rfl rfl rfl rfl) ?_
      have hdir : x.pf.dir = true := h39
      obtain ⟨nmb, nmo, e1, e2, e3⟩ := ((hS.v hv).x hx).map hdir
      refine jl_q rfl rfl (qEq (qLd rfl rfl rfl rfl ((Vw.x (Vw.file (Vw.vol (Vw.inM hV) hv) hx)).cj rfl)) e1) ?_
      refine jp rfl ?_
      refine jl_q rfl rfl (qEq (qEq (qLookup2 kS (z := .int .u32 0) rfl rfl rfl rfl (by kernel_rfl) (Vw.xn (Vw.file (Vw.vol (Vw.inM hV) hv) hx) (nmb, nmo) (by rw [e2]; simp)) e3) (by rw [names_get])) (v' := .tuple #[.int .u32 ((getA s x.pf.names).getD 0), .bool (getA s x.pf.names).isSome]) (by cases getA s x.pf.names <;> rfl)) ?_
      iterate 5 refine jp rfl ?_
      refine jl_nil ?_
      refine jT ?_
      refine jc_seq ?_
      refine jc_seq ?_
      refine jc_region ?_
      iterate 2 refine jp rfl ?_
      refine jl_nil ?_
      refine jT ?_
      refine jc_if rfl (fun h51 => ?_) (fun h51 => ?_)
      · refine jc_seq ?_
        refine jc_region ?_
        iterate 3 refine jp rfl ?_
        refine jl_nil ?_
        refine jT ?_
        refine jc_ret ?_
        refine jTr ?_
        refine jBr ?_
        refine jTr ?_
        refine jTr ?_
        refine jBr ?_
        refine jTr ?_
        refine jr3 rfl rfl rfl rfl ?_
        have hxa : getA id (absF v.files) = some x.pf := by rw [absF_get, hx]; rfl
        have hno : getA s x.pf.names = none := by
          cases h : getA s x.pf.names with
          | none => rfl
          | some k => rw [h] at h51; simp at h51
        rw [hws, hw, drop_at hs, walkN, hxa]; simp only [hdir, if_true, hno]; rfl
      · refine jc_skip ?_
        refine jT ?_
        refine jc_region ?_
        iterate 2 refine jp rfl ?_
        refine jl_nil ?_
        refine jB ?_
        refine jT ?_
        refine jc_region ?_
        refine ja rfl (by omega) ?_
        refine jp rfl ?_
        refine jl_nil ?_
        obtain ⟨k, hk⟩ : ∃ k, getA s x.pf.names = some k := by
          cases h : getA s x.pf.names with
          | none => rw [h] at h51; simp at h51
          | some k => exact ⟨k, rfl⟩
        have hxa : getA id (absF v.files) = some x.pf := by rw [absF_get, hx]; rfl
        obtain ⟨y, hy⟩ := hwb.tgt _ _ _ _ hxa hk
        obtain ⟨x2, hx2⟩ : ∃ x2, getA k v.files = some x2 := by
          rw [absF_get] at hy; cases h : getA k v.files with
          | none => rw [h] at hy; cases hy
          | some x => exact ⟨x, rfl⟩
        refine j_again (i + 1, k) (Keep.cons (t := 9) rfl (Keep.ceq (t := 10) rfl (by rw [hk]; rfl) (Keep.cons (t := 24) rfl (Keep.cons (t := 25) rfl (Keep.cons (t := 26) rfl Keep.nil))))) ⟨by dsimp only; omega, x2, hx2, ?_⟩ (by dsimp only; omega) (fun _ h => h)
        dsimp only; rw [hw, drop_at hs, walkN, hxa]; simp only [hdir, if_true, hk]
    · refine jp rfl ?_
      refine jl_nil ?_
      refine jT ?_
      refine jc_yes rfl ?_
      refine jc_seq ?_
      refine jc_region ?_
      iterate 3 refine jp rfl ?_
      refine jl_nil ?_
      refine jT ?_
      refine jc_ret ?_
      refine jTr ?_
      refine jBr ?_
      refine jTr ?_
      refine jTr ?_
      refine jBr ?_
      refine jTr ?_
      refine jr3 rfl rfl rfl rfl ?_
      have hxa : getA id (absF v.files) = some x.pf := by rw [absF_get, hx]; rfl
      have hnd : x.pf.dir = false := h39
      rw [hws, hw, drop_at hs, walkN, hxa]; simp only [hnd, Bool.false_eq_true, if_false]; rfl
  · refine jl_nil ?_
    refine jT ?_
    refine jc_seq ?_
    refine jc_no rfl ?_
    refine jc_exit ?_
    refine jTx ?_
    refine jTx ?_
    refine jBx ?_
    refine jT ?_
    refine jc_seq ?_
    refine jc_draw [(0, true), (1, true), (2, true), (3, true), (4, true), (5, true), (6, true), (7, true), (8, true), (9, true)] _ (by kernel_rfl) (by kernel_rfl) (by kernel_rfl) rfl (fun _ h => h) ?_
    iterate 2 refine dp rfl rfl ?_
    refine jd_q rfl rfl rfl (qNilCheck rfl rfl rfl) ?_
    refine jd_q rfl rfl rfl (qFieldAddr rfl rfl rfl rfl rfl) ?_
    refine jd_q rfl rfl rfl (qLd rfl rfl rfl rfl ((Vw.v (Vw.vol (Vw.inM hV) hv)).cj rfl)) ?_
    refine dp rfl rfl ?_
    refine jd_q rfl rfl rfl (qEq (qLookupO kU (z := .pointer none) rfl rfl rfl rfl (by kernel_rfl) (Vw.vmo (Vw.vol (Vw.inM hV) hv)) (hS.v hv).mo) (v' := pt x.b) (by rw [ptF_get, hx]; try rfl)) ?_
    iterate 3 refine dp rfl rfl ?_
    refine jd_nil ?_
    refine jPn ?_
    refine jT ?_
    refine jc_ret ?_
    refine jr3 rfl rfl rfl rfl ?_
    have hie : i = names.length := by omega
    rw [hws, hw, hie, List.drop_length]; unfold walkN; show _ = Value.tuple #[.int .u32 id, pt (blkOf S vol id), .int .i64 0]; rw [blkOf_is hv hx]


/-- (*forest).walk -/
theorem walk_spec (S : CS) (hS : S.Ok) (n : Nat) (hwf : WFS n S.abs) (vol : Int) (names : List Str) (na : Option Addr) (nc : Nat) (M : Mem) (hV : ∀ p ∈ S.own, M p.1 = some p.2) (hN : SN M na names) (hnl : names.length ≤ 1000000) : SpecL Tryz.prog 101 #[pt S.b, .int .i64 vol, .slice na names.length nc] M [] fun u _ _ => u = walkV S vol (walkS S.abs vol names) := by
  cases hv : getA vol S.vols with
  | none => exact walk_none S hS n hwf vol names na nc M hV hN hnl hv
  | some v => exact walk_some S hS n hwf vol names na nc M hV hN hnl v hv
end Go.Proofs.YtdjaehgadehnfaaGreatDoor
