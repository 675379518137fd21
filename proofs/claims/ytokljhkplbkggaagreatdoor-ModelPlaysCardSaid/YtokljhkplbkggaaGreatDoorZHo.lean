/- Operations on forests in memory. No statement of the seat is proved here. -/
import Derived.Test.YtokljhkplbkggaaGreatDoorZRp
namespace Go.Proofs.YtokljhkplbkggaaGreatDoor
set_option linter.unusedSimpArgs false
set_option linter.unusedVariables false
set_option linter.unusedSectionVars false
open Go.RowKit Go.MapKept
abbrev rpc (r : RP) (dv nv : Value) : List Value := [.int .i64 r.err, .int .i64 r.id, dv, nv, .int .u32 r.sid, .bool r.sdir, .int .i64 r.slinks, .int .i64 r.ssize]
abbrev rp0 (r : RP) : Value := .agg (rpc r (.slice none 0 0) (.slice none 0 0)).toArray
abbrev wyV (w : Wy) (a : Option Addr) (c : Nat) : Value := .agg [.int .i64 w.1, .slice a w.2.length c].toArray
def SN (M : Mem) (a : Option Addr) (l : List Str) : Prop := SM M a (l.map Value.string)
theorem SN.mono {M M' : Mem} {a : Option Addr} {l : List Str} (h : SN M a l) (hM : MLe M M') : SN M' a l := SM.mono h hM
theorem SN.open {M : Mem} {a : Option Addr} {l : List Str} (h : SN M a l) (hne : l ≠ []) : ∃ b off, a = some ⟨b, off, none⟩ ∧ ∀ (i : Nat) s, l[i]? = some s → CM M b (off + i) (.string s) := by
 obtain ⟨b, off, h1, h2⟩ := SM.open h (by simpa using hne)
 exact ⟨b, off, h1, fun i s hs => h2 i _ (by rw [List.getElem?_map, hs]; rfl)⟩
def wKy (S : CS) (vol : Int) : Except Int Int → Value
 | .error e => .tuple #[.int .u32 0, .pointer none, .int .i64 e]
 | .ok id => .tuple #[.int .u32 id, pt (blkOf S vol id), .int .i64 0]
theorem drop_at {α : Type} {l : List α} {i : Nat} {s : α} (h : l[i]? = some s) : l.drop i = s :: l.drop (i + 1) := by
 obtain ⟨h1, h2⟩ := List.getElem?_eq_some_iff.1 h
 rw [← h2]; exact (List.drop_eq_getElem_cons h1)
theorem wAt (e : Int) (M : Mem) :
  SpecL Tryz.prog 22 #[.int .i64 e] M [] fun u _ _ => u = rp0 (wCa e) := by
 refine wAe (vs := [_]) 5 _ Tryz.func22 rfl Tryz.ntmps22 rfl rfl ?_; intro W
 refine wAb (wAa (sAl rfl fun b2 => ?_))
 refine wAc (jT (wAb (wAa (jp rfl (lq (wBe (cs := [_, _, _, _, _, _, _, _]) rfl rfl rfl (by rfl)) ?_)))))
 refine sSt rfl ?_
 refine wAc (jT (wAg (jrs (rs := [_]) rfl (.cons (.agg rfl rfl rfl) .nil) ?_)))
 rfl
theorem wGd (n a b : Int) (M : Mem) :
  SpecL Tryz.prog 76 #[.int .i64 n, .int .i64 a, .int .i64 b] M [] fun u _ _ => u = .bool (inI n a b) := by
 refine wAe (vs := [_, _, _]) 15 _ Tryz.func76 rfl Tryz.ntmps76 rfl rfl ?_; intro W
 refine wAb (wAa (jp rfl (wAc (jT (wAb (wAa (jp rfl (jp rfl (js rfl (fun h9 => ?_) (fun h9 => ?_))))))))))
 ·refine jp rfl (jp rfl (jp rfl (jp rfl (jp rfl (jp rfl (wAc (jT (wAg (jr1 rfl rfl ?_)))))))))
  first | (show Value.bool _ = Value.bool _; congr 1; unfold inI; simp [h9]) | (show Value.bool _ = Value.bool _; congr 1; unfold inI; simp; omega)
 refine jp rfl (jp rfl (jp rfl (jp rfl (jp rfl (jp rfl (wAc (jT (wAg (jr1 rfl rfl ?_)))))))))
 first | (show Value.bool _ = Value.bool _; congr 1; unfold inI; simp [h9]) | (show Value.bool _ = Value.bool _; congr 1; unfold inI; simp; omega)
theorem wEx (w : Wy) (na : Option Addr) (nc : Nat) (M : Mem) (hN : SN M na w.2) (hne : w.2 ≠ []) (hnl : w.2.length ≤ 1000000) :
  SpecL Tryz.prog 80 #[wyV w na nc] M [] fun u _ _ => u = .string (wAi w) := by
 obtain ⟨nb, no, rfl, hnx⟩ := hN.open hne
 have hl0 : 0 < w.2.length := List.length_pos_iff.2 hne
 refine wAe (vs := [_]) 11 _ Tryz.func80 rfl Tryz.ntmps80 rfl rfl ?_; intro W
 refine wAb (wAa (sBx [_, _] rfl fun b1 => ?_))
 refine jp rfl (wAc (jT (wAb (wAa (sFL rfl rfl ?_)))))
 refine sFL rfl rfl ?_
 refine lq (wCd rfl rfl rfl) ?_
 refine ja rfl (by omega) ?_
 refine lq (wEn rfl rfl rfl rfl (by omega)) ?_
 have hlast : w.2[w.2.length - 1]? = some (wAi w) := by unfold wAi; rw [← List.getLast?_eq_getElem?]; obtain ⟨y, hy⟩ : ∃ y, w.2.getLast? = some y := ⟨w.2.getLast hne, List.getLast?_eq_some_getLast hne⟩; rw [hy]; rfl
 refine lq (qLd rfl rfl rfl rfl ((hnx _ (wAi w) (by rw [Nat.mul_one, show ((w.2.length : Int) - 1).toNat = w.2.length - 1 by omega]; exact hlast)).cj _)) ?_
 refine jp rfl (wAc (jT (wAg (jr1 rfl rfl ?_))))
 rfl
theorem walk_none (S : CS) (hS : S.Ok) (n : Nat) (hwf : WFS n S.abs) (vol : Int) (names : List Str) (na : Option Addr) (nc : Nat) (M : Mem) (hV : ∀ p ∈ S.own, M p.1 = some p.2) (hN : SN M na names) (hnl : names.length ≤ 1000000) (hv : wAm vol S.vols = none) :
  SpecL Tryz.prog 91 #[pt S.b, .int .i64 vol, .slice na names.length nc] M [] fun u _ _ => u = wKy S vol (wBb S.abs vol names) := by
 refine wAe (vs := [_, _, _]) 61 _ Tryz.func91 rfl Tryz.ntmps91 rfl rfl ?_; intro W
 refine wAb (wAa (jp rfl (jp rfl (jp rfl (wAc (jT (wAb (wAa (jp rfl (lq (wAj rfl rfl rfl) ?_))))))))))
 refine sFa rfl ?_
 refine lq (qLd rfl rfl rfl rfl ((Vw.s (Vw.inM hV)).cj rfl)) ?_
 refine jp rfl ?_
 refine lq (qEq (v' := .pointer none) (wDk kI (z := .pointer none) rfl rfl rfl rfl (by kernel_rfl) (Vw.mo (Vw.inM hV)) hS.mo) (by rw [wEv, hv]; try rfl)) ?_
 refine jp rfl (wAc (jT (wAb (wAb (wAa (jp rfl (lq (qEq (wJo rfl rfl rfl rfl) (v' := .bool true) (by rfl)) ?_)))))))
 refine wAc (jT (wAf rfl (wAb (wAa (jp rfl (jp rfl (jp rfl (wAc (jT (wAg (jTr (jr3 rfl rfl rfl rfl ?_))))))))))))
 have : wBb S.abs vol names = .error 6 := by unfold wBb; rw [wBp, hv]; rfl
 rw [this]; rfl
set_option maxHeartbeats 2000000 in
theorem walk_some (S : CS) (hS : S.Ok) (n : Nat) (hwf : WFS n S.abs) (vol : Int) (names : List Str) (na : Option Addr) (nc : Nat) (M : Mem) (hV : ∀ p ∈ S.own, M p.1 = some p.2) (hN : SN M na names) (hnl : names.length ≤ 1000000) (v : CV) (hv : wAm vol S.vols = some v) :
  SpecL Tryz.prog 91 #[pt S.b, .int .i64 vol, .slice na names.length nc] M [] fun u _ _ => u = wKy S vol (wBb S.abs vol names) := by
 have hwv := hwf.vol vol v.abs (by rw [wBp, hv]; rfl)
 have hwb : WFB (wEf v.files) := hwv.wf.toWFB
 have hws : wBb S.abs vol names = wEt (wEf v.files) 1 names := by unfold wBb; rw [wBp, hv]; rfl
 obtain ⟨r0, hr0, _⟩ := hwb.root
 obtain ⟨x0, hx0⟩ : ∃ x0, wAm 1 v.files = some x0 := by
  rw [wBs] at hr0; cases h : wAm 1 v.files with
  | none => rw [h] at hr0; cases hr0
  | some x => exact ⟨x, rfl⟩
 refine wAe (vs := [_, _, _]) 61 _ Tryz.func91 rfl Tryz.ntmps91 rfl rfl ?_; intro W
 refine wAb (wAa (jp rfl (jp rfl (jp rfl (wAc (jT (wAb (wAa (jp rfl (lq (wAj rfl rfl rfl) ?_))))))))))
 refine sFa rfl ?_
 refine lq (qLd rfl rfl rfl rfl ((Vw.s (Vw.inM hV)).cj rfl)) ?_
 refine jp rfl ?_
 refine lq (qEq (v' := pt v.b) (wDk kI (z := .pointer none) rfl rfl rfl rfl (by kernel_rfl) (Vw.mo (Vw.inM hV)) hS.mo) (by rw [wEv, hv]; try rfl)) ?_
 refine jp rfl (wAc (jT (wAb (wAb (wAa (jp rfl (lq (qEq (wJo rfl rfl rfl rfl) (v' := .bool false) (by rfl)) ?_)))))))
 refine wAc (jT (wAh rfl (wAd (jT (wAb (wAa (jp rfl (wAc (jT (wAb (wAb (wAa (jp rfl (lq (wCd rfl rfl rfl) ?_))))))))))))))
 refine jp rfl (wAc (jT (wAk ?_)))
 refine wBr (α := Nat × Int) (fun y => [(9, pt v.b), (10, .int .u32 y.2), (24, .slice na names.length nc), (25, .int .i64 names.length), (26, .int .i64 y.1)]) (fun _ => M) (fun _ => []) (fun y => y.1 ≤ names.length ∧ ∃ x, wAm y.2 v.files = some x ∧ wEt (wEf v.files) 1 names = wEt (wEf v.files) y.2 (names.drop y.1)) (fun y => names.length - y.1)
  (0, 1) (.cons (t := 9) rfl (.cons (t := 10) rfl (.cons (t := 24) rfl (.cons (t := 25) rfl (.cons (t := 26) rfl .nil))))) ⟨Nat.zero_le _, x0, hx0, rfl⟩ (fun _ h => h) ?_
 rintro ⟨i, id⟩ ⟨hi, x, hx, hw⟩
 dsimp only at hi hx hw ⊢
 refine wAb (wAa (js rfl (fun h27 => ?_) (fun h27 => ?_)))
 ·refine wAc (jT (wAb (wAf rfl (wAd (jT (wAb (wAk (wAb (wAa ?_)))))))))
  have hiN : i < names.length := by omega
  obtain ⟨nb, no, e, hnx⟩ := hN.open (by intro e; rw [e] at hiN; simp at hiN)
  subst e
  obtain ⟨s, hs⟩ : ∃ s, names[i]? = some s := ⟨names[i], List.getElem?_eq_getElem hiN⟩
  refine lq (wEn rfl rfl rfl rfl (by omega)) ?_
  refine lq (qLd rfl rfl rfl rfl ((hnx _ s (by rw [Nat.mul_one, Int.toNat_natCast]; exact hs)).cj _)) ?_
  refine jp rfl (wAc (jT (wAb (wAa (jp rfl (lq (wAj rfl rfl rfl) ?_))))))
  refine sFa rfl ?_
  refine lq (qLd rfl rfl rfl rfl ((Vw.v (Vw.vol (Vw.inM hV) hv)).cj rfl)) ?_
  refine jp rfl ?_
  refine lq (qEq (wDk kU (z := .pointer none) rfl rfl rfl rfl (by kernel_rfl) (Vw.vmo (Vw.vol (Vw.inM hV) hv)) (hS.v hv).mo) (v' := pt x.b) (by rw [ptF_get, hx]; try rfl)) ?_
  refine jp rfl (wAc (jT (wAb (wAb (wAa (jp rfl (lq (wAj rfl rfl rfl) ?_)))))))
  refine sFa rfl ?_
  refine wEk rfl rfl (qLd rfl rfl rfl rfl ((Vw.x (Vw.file (Vw.vol (Vw.inM hV) hv) hx)).cj rfl)) (fun h39 => ?_) (fun h39 => ?_)
  ·refine jp rfl (wAc (jT (wAh rfl (wAd (jT (wAb (wAa (jp rfl (lq (wAj rfl rfl rfl) ?_)))))))))
   refine sFa rfl ?_
   have hdir : x.pf.dir = true := h39
   obtain ⟨nmb, nmo, e1, e2, e3⟩ := ((hS.v hv).x hx).map hdir
   refine lq (qEq (qLd rfl rfl rfl rfl ((Vw.x (Vw.file (Vw.vol (Vw.inM hV) hv) hx)).cj rfl)) e1) ?_
   refine jp rfl ?_
   refine lq (qEq (qEq (qLookup2 kS (z := .int .u32 0) rfl rfl rfl rfl (by kernel_rfl) (Vw.xn (Vw.file (Vw.vol (Vw.inM hV) hv) hx) (nmb, nmo) (by rw [e2]; simp)) e3) (by rw [names_get])) (v' := .tuple #[.int .u32 ((wAm s x.pf.names).getD 0), .bool (wAm s x.pf.names).isSome]) (by cases wAm s x.pf.names <;> rfl)) ?_
   refine jp rfl (jp rfl (jp rfl (jp rfl (jp rfl (wAc (jT (wAb (wAb (wAa (jp rfl (jp rfl (wAc (jT (jc_if rfl (fun h51 => ?_) (fun h51 => ?_)))))))))))))))
   ·refine wAb (wAa (jp rfl (jp rfl (jp rfl (wAc (jT (wAg (jTr (jBr (jTr (jTr (jBr (jTr (jr3 rfl rfl rfl rfl ?_))))))))))))))
    have hxa : wAm id (wEf v.files) = some x.pf := by rw [wBs, hx]; rfl
    have hno : wAm s x.pf.names = none := by
     cases h : wAm s x.pf.names with
     | none => rfl
     | some k => rw [h] at h51; simp at h51
    rw [hws, hw, drop_at hs, wEt, hxa]; simp only [hdir, if_true, hno]; rfl
   refine wAd (jT (wAa (jp rfl (jp rfl (wAc (jB (jT (wAa (ja rfl (by omega) ?_)))))))))
   refine jp rfl (wAc ?_)
   obtain ⟨k, hk⟩ : ∃ k, wAm s x.pf.names = some k := by
    cases h : wAm s x.pf.names with
    | none => rw [h] at h51; simp at h51
    | some k => exact ⟨k, rfl⟩
   have hxa : wAm id (wEf v.files) = some x.pf := by rw [wBs, hx]; rfl
   obtain ⟨y, hy⟩ := hwb.tgt _ _ _ _ hxa hk
   obtain ⟨x2, hx2⟩ : ∃ x2, wAm k v.files = some x2 := by
    rw [wBs] at hy; cases h : wAm k v.files with
    | none => rw [h] at hy; cases hy
    | some x => exact ⟨x, rfl⟩
   refine wBu (i + 1, k) (.cons (t := 9) rfl (Keep.ceq (t := 10) rfl (by rw [hk]; rfl) (.cons (t := 24) rfl (.cons (t := 25) rfl (.cons (t := 26) rfl .nil))))) ⟨by dsimp only; omega, x2, hx2, ?_⟩ (by dsimp only; omega) (fun _ h => h)
   dsimp only; rw [hw, drop_at hs, wEt, hxa]; simp only [hdir, if_true, hk]
  refine jp rfl (wAc (jT (wAf rfl (wAb (wAa (jp rfl (jp rfl (jp rfl (wAc (jT (wAg (jTr (jBr (jTr (jTr (jBr (jTr (jr3 rfl rfl rfl rfl ?_))))))))))))))))))
  have hxa : wAm id (wEf v.files) = some x.pf := by rw [wBs, hx]; rfl
  have hnd : x.pf.dir = false := h39
  rw [hws, hw, drop_at hs, wEt, hxa]; simp only [hnd, Bool.false_eq_true, if_false]; rfl
 refine wAc (jT (wAb (wAh rfl (wBx (jTx (jTx (jBx (jT (wAb (wCw [(0, true), (1, true), (2, true), (3, true), (4, true), (5, true), (6, true), (7, true), (8, true), (9, true)] _ (fun _ h => h) ?_))))))))))
 iterate 2 refine dp rfl rfl ?_
 refine dq rfl (wAj rfl rfl rfl) ?_
 refine dFa rfl rfl ?_
 refine dq rfl (qLd rfl rfl rfl rfl ((Vw.v (Vw.vol (Vw.inM hV) hv)).cj rfl)) ?_
 refine dp rfl rfl ?_
 refine dq rfl (qEq (wDk kU (z := .pointer none) rfl rfl rfl rfl (by kernel_rfl) (Vw.vmo (Vw.vol (Vw.inM hV) hv)) (hS.v hv).mo) (v' := pt x.b) (by rw [ptF_get, hx]; try rfl)) ?_
 iterate 3 refine dp rfl rfl ?_
 refine wAs (jPn (jT (wAg (jr3 rfl rfl rfl rfl ?_))))
 have hie : i = names.length := by omega
 rw [hws, hw, hie, List.drop_length]; unfold wEt; show _ = Value.tuple #[.int .u32 id, pt (blkOf S vol id), .int .i64 0]; rw [blkOf_is hv hx]
theorem wCi (S : CS) (hS : S.Ok) (n : Nat) (hwf : WFS n S.abs) (vol : Int) (names : List Str) (na : Option Addr) (nc : Nat) (M : Mem) (hV : ∀ p ∈ S.own, M p.1 = some p.2) (hN : SN M na names) (hnl : names.length ≤ 1000000) : SpecL Tryz.prog 91 #[pt S.b, .int .i64 vol, .slice na names.length nc] M [] fun u _ _ => u = wKy S vol (wBb S.abs vol names) := by
 cases hv : wAm vol S.vols with
 | none => exact walk_none S hS n hwf vol names na nc M hV hN hnl hv
 | some v => exact walk_some S hS n hwf vol names na nc M hV hN hnl v hv
structure WyOk (M : Mem) (w : Wy) (a : Option Addr) (c : Nat) : Prop where
 sn : SN M a w.2
 cap : w.2.length ≤ c
 big : w.2.length ≤ 1000000
theorem WyOk.mono {M M' : Mem} {w : Wy} {a : Option Addr} {c : Nat} (h : WyOk M w a c) (hM : MLe M M') : WyOk M' w a c := ⟨h.sn.mono hM, h.cap, h.big⟩
theorem SN.init {M : Mem} {a : Option Addr} {l : List Str} (h : SN M a l) : SN M a l.dropLast := by
 rcases h with h | ⟨b, off, h1, h2⟩
 ·left; rw [List.map_eq_nil_iff] at h ⊢; rw [h]; rfl
 refine .inr ⟨b, off, h1, fun i u hu => h2 i u ?_⟩
 rw [List.dropLast_eq_take, List.map_take, List.getElem?_take] at hu
 split at hu
 ·exact hu
 cases hu
theorem wBj {S : CS} {vol id : Int} {v : CV} {x : CF} (hv : wAm vol S.vols = some v) (hx : wAm id v.files = some x) : wKy S vol (.ok id) = .tuple #[.int .u32 id, pt x.b, .int .i64 0] := by
 show Value.tuple #[.int .u32 id, pt (blkOf S vol id), .int .i64 0] = _; rw [blkOf_is hv hx]
theorem wCn {S : CS} {vol id : Int} {v : CV} {x : CF} (hv : wAm vol S.vols = some v) (hx : wAm id v.files = some x) : wGu S.abs vol id = x.pf.dir := by unfold wGu; rw [wFv hv hx]
theorem wGs {S : CS} {vol id : Int} {v : CV} {x : CF} (hv : wAm vol S.vols = some v) (hx : wAm id v.files = some x) : wDx S.abs vol id = x.pf.names := by unfold wDx; rw [wFv hv hx]
theorem placeS_err {n : Nat} {S : PS} (h : WFS n S) {w : Wy} {e : Int} (hw : wCj S w = .error e) : e = 6 ∨ e = 240 := by
 unfold wCj at hw
 split at hw
 ·rename_i e' he; cases hw; exact wEw h he
 split at hw
 ·cases hw
 cases hw; exact .inr rfl
theorem wJv {n : Nat} {S : PS} (h : WFS n S) {w : Wy} {e : Int} (hw : wCh S w = .error e) : e = 6 ∨ e = 240 := by
 unfold wCh at hw
 split at hw
 ·rename_i e' he; cases hw; exact wEw h he
 split at hw
 ·cases hw; exact .inr rfl
 cases hw
theorem placeS_ok {n : Nat} {S : CS} (h : WFS n S.abs) {w : Wy} {id : Int} (hw : wCj S.abs w = .ok id) : ∃ v x, wAm w.1 S.vols = some v ∧ wAm id v.files = some x ∧ WFV n v.abs ∧ x.pf.dir = true := by
 unfold wCj at hw
 split at hw
 ·cases hw
 rename_i k hk
 split at hw
 ·rename_i hd
  cases hw
  obtain ⟨v, x, h1, h2, h3⟩ := wGo h hk
  exact ⟨v, x, h1, h2, h3, by rw [← wCn h1 h2]; exact hd⟩
 cases hw
theorem wEi {n : Nat} {S : CS} (h : WFS n S.abs) {w : Wy} {id : Int} (hw : wCh S.abs w = .ok id) : ∃ v x, wAm w.1 S.vols = some v ∧ wAm id v.files = some x ∧ WFV n v.abs ∧ x.pf.dir = false := by
 unfold wCh at hw
 split at hw
 ·cases hw
 rename_i k hk
 split at hw
 ·cases hw
 rename_i hd
 cases hw
 obtain ⟨v, x, h1, h2, h3⟩ := wGo h hk
 exact ⟨v, x, h1, h2, h3, by rw [← wCn h1 h2]; simpa using hd⟩
theorem place_err (S : CS) (hS : S.Ok) (n : Nat) (hwf : WFS n S.abs) (M : Mem) (hV : ∀ p ∈ S.own, M p.1 = some p.2) (w : Wy) (na : Option Addr) (nc : Nat) (hW : WyOk M w na nc) (hne : w.2 ≠ []) (e : Int) (hw : wBb S.abs w.1 w.2.dropLast = .error e) :
  SpecL Tryz.prog 90 #[pt S.b, wyV w na nc] M [] fun u _ _ => u = wKy S w.1 (wCj S.abs w) := by
 have hl0 : 0 < w.2.length := List.length_pos_iff.2 hne
 have hbig := hW.big
 have he := wEw hwf hw
 have hpl : wCj S.abs w = .error e := by unfold wCj; rw [hw]
 refine wAe (vs := [_, _]) 37 _ Tryz.func90 rfl Tryz.ntmps90 rfl rfl ?_; intro W
 refine wAb (wAa (sBx [_, _] rfl fun b3 => ?_))
 refine jp rfl (jp rfl (jp rfl (wAc (jT (wAb (wCw [(0, true), (1, true), (2, true), (3, true), (4, true), (5, true), (6, true), (7, true), (8, true), (9, true), (10, true), (11, true), (12, true), (13, true), (14, true), (15, true), (16, true), (17, true)] _ (fun _ h => h) ?_))))))
 refine dp rfl rfl ?_
 refine dFa rfl rfl ?_
 refine dLd rfl rfl ?_
 refine dFa rfl rfl ?_
 refine dLd rfl rfl ?_
 refine dFa rfl rfl ?_
 refine dLd rfl rfl ?_
 refine dq rfl (wCd rfl rfl rfl) ?_
 refine da rfl rfl (by omega) ?_
 refine dq rfl (qEq (v' := .slice na w.2.dropLast.length nc) (qSl rfl rfl rfl (.no _) (.of rfl (by have := hW.big; omega) rfl) (.no _) (by have := hW.cap; omega) (by simp)) (by rw [wCo, List.length_dropLast, show ((w.2.length : Int) - 1).toNat = w.2.length - 1 by omega]; rfl)) ?_
 refine dq rfl (qEq (qCl (wCi S hS n hwf w.1 w.2.dropLast na nc M hV hW.sn.init (by rw [List.length_dropLast]; omega))) (by rw [hw]; try rfl)) ?_
 iterate 7 refine dp rfl rfl ?_
 refine wAs (jPn (jT (wAb (wAb (wAa (jp rfl (jf rfl (decide_eq_false (by omega)) ?_)))))))
 iterate 7 refine jp rfl ?_
 refine wAc (jT (wAh rfl (wAd (jT (wAb (wAa (jp rfl (jp rfl (jp rfl (jp rfl (jp rfl (jp rfl (wAc (jT (wAg (jr3 rfl rfl rfl rfl ?_))))))))))))))))
 rw [hpl]; rfl
theorem place_ok (S : CS) (hS : S.Ok) (n : Nat) (hwf : WFS n S.abs) (M : Mem) (hV : ∀ p ∈ S.own, M p.1 = some p.2) (w : Wy) (na : Option Addr) (nc : Nat) (hW : WyOk M w na nc) (hne : w.2 ≠ []) (id : Int) (hw : wBb S.abs w.1 w.2.dropLast = .ok id) :
  SpecL Tryz.prog 90 #[pt S.b, wyV w na nc] M [] fun u _ _ => u = wKy S w.1 (wCj S.abs w) := by
 have hl0 : 0 < w.2.length := List.length_pos_iff.2 hne
 have hbig := hW.big
 obtain ⟨v, x, hv, hx, hwv⟩ := wGo hwf hw
 have hpl : wCj S.abs w = if x.pf.dir then .ok id else .error 240 := by unfold wCj; rw [hw]; simp only; rw [wCn hv hx]
 refine wAe (vs := [_, _]) 37 _ Tryz.func90 rfl Tryz.ntmps90 rfl rfl ?_; intro W
 refine wAb (wAa (sBx [_, _] rfl fun b3 => ?_))
 refine jp rfl (jp rfl (jp rfl (wAc (jT (wAb (wCw [(0, true), (1, true), (2, true), (3, true), (4, true), (5, true), (6, true), (7, true), (8, true), (9, true), (10, true), (11, true), (12, true), (13, true), (14, true), (15, true), (16, true), (17, true)] _ (fun _ h => h) ?_))))))
 refine dp rfl rfl ?_
 refine dFa rfl rfl ?_
 refine dLd rfl rfl ?_
 refine dFa rfl rfl ?_
 refine dLd rfl rfl ?_
 refine dFa rfl rfl ?_
 refine dLd rfl rfl ?_
 refine dq rfl (wCd rfl rfl rfl) ?_
 refine da rfl rfl (by omega) ?_
 refine dq rfl (qEq (v' := .slice na w.2.dropLast.length nc) (qSl rfl rfl rfl (.no _) (.of rfl (by have := hW.big; omega) rfl) (.no _) (by have := hW.cap; omega) (by simp)) (by rw [wCo, List.length_dropLast, show ((w.2.length : Int) - 1).toNat = w.2.length - 1 by omega]; rfl)) ?_
 refine dq rfl (qEq (v' := .tuple #[.int .u32 id, pt x.b, .int .i64 0]) (qCl (wCi S hS n hwf w.1 w.2.dropLast na nc M hV hW.sn.init (by rw [List.length_dropLast]; omega))) (by rw [hw]; exact wBj hv hx)) ?_
 iterate 7 refine dp rfl rfl ?_
 refine wAs (jPn (jT (wAb (wAb (wAa (jp rfl (jt rfl (decide_eq_true (by omega)) ?_)))))))
 refine jp rfl (jp rfl (lq (wAj rfl rfl rfl) ?_))
 refine sFa rfl ?_
 refine wEk rfl rfl (qLd rfl rfl rfl rfl ((Vw.x (Vw.file (Vw.vol (Vw.inM hV) hv) hx)).cj rfl)) (fun h31 => ?_) (fun h31 => ?_)
 ·refine jp rfl (jp rfl (wAc (jT (wAh rfl (wAd (jT (wAb (wAa (jp rfl (jp rfl (jp rfl (jp rfl (jp rfl (jp rfl (wAc (jT (wAg (jr3 rfl rfl rfl rfl ?_))))))))))))))))))
  rw [hpl, if_pos h31]; exact (wBj hv hx).symm
 refine jp rfl (jp rfl (wAc (jT (wAf rfl (wAb (wAa (jp rfl (jp rfl (jp rfl (wAc (jT (wAg (jTr (jr3 rfl rfl rfl rfl ?_))))))))))))))
 rw [hpl, if_neg (by rw [h31]; simp)]; rfl
theorem file_err (S : CS) (hS : S.Ok) (n : Nat) (hwf : WFS n S.abs) (M : Mem) (hV : ∀ p ∈ S.own, M p.1 = some p.2) (w : Wy) (na : Option Addr) (nc : Nat) (hW : WyOk M w na nc) (e : Int) (hw : wBb S.abs w.1 w.2 = .error e) :
  SpecL Tryz.prog 84 #[pt S.b, wyV w na nc] M [] fun u _ _ => u = wKy S w.1 (wCh S.abs w) := by
 have he := wEw hwf hw
 have hpl : wCh S.abs w = .error e := by unfold wCh; rw [hw]
 refine wAe (vs := [_, _]) 31 _ Tryz.func84 rfl Tryz.ntmps84 rfl rfl ?_; intro W
 refine wAb (wAa (sBx [_, _] rfl fun b3 => ?_))
 refine jp rfl (jp rfl (jp rfl (wAc (jT (wAb (wAa (jp rfl (sFL rfl rfl ?_))))))))
 refine sFL rfl rfl ?_
 refine lq (qEq (qCl (wCi S hS n hwf w.1 w.2 na nc M hV hW.sn hW.big)) (by rw [hw]; try rfl)) ?_
 iterate 7 refine jp rfl ?_
 refine wAc (jT (wAb (wAb (wAa (jp rfl (jf rfl (decide_eq_false (by omega)) ?_))))))
 refine jp rfl (jp rfl (jp rfl (jp rfl (jp rfl (jp rfl (wAc (jT (wAh rfl (wAd (jT (wAb (wAa (jp rfl (jp rfl (jp rfl (jp rfl (jp rfl (jp rfl (wAc (jT (wAg (jr3 rfl rfl rfl rfl ?_))))))))))))))))))))))
 rw [hpl]; rfl
theorem file_ok (S : CS) (hS : S.Ok) (n : Nat) (hwf : WFS n S.abs) (M : Mem) (hV : ∀ p ∈ S.own, M p.1 = some p.2) (w : Wy) (na : Option Addr) (nc : Nat) (hW : WyOk M w na nc) (id : Int) (hw : wBb S.abs w.1 w.2 = .ok id) :
  SpecL Tryz.prog 84 #[pt S.b, wyV w na nc] M [] fun u _ _ => u = wKy S w.1 (wCh S.abs w) := by
 obtain ⟨v, x, hv, hx, hwv⟩ := wGo hwf hw
 have hpl : wCh S.abs w = if x.pf.dir then .error 240 else .ok id := by unfold wCh; rw [hw]; simp only; rw [wCn hv hx]
 refine wAe (vs := [_, _]) 31 _ Tryz.func84 rfl Tryz.ntmps84 rfl rfl ?_; intro W
 refine wAb (wAa (sBx [_, _] rfl fun b3 => ?_))
 refine jp rfl (jp rfl (jp rfl (wAc (jT (wAb (wAa (jp rfl (sFL rfl rfl ?_))))))))
 refine sFL rfl rfl ?_
 refine lq (qEq (v' := .tuple #[.int .u32 id, pt x.b, .int .i64 0]) (qCl (wCi S hS n hwf w.1 w.2 na nc M hV hW.sn hW.big)) (by rw [hw]; exact wBj hv hx)) ?_
 iterate 7 refine jp rfl ?_
 refine wAc (jT (wAb (wAb (wAa (jp rfl (jt rfl (decide_eq_true (by omega)) ?_))))))
 refine jp rfl (jp rfl (lq (wAj rfl rfl rfl) ?_))
 refine sFa rfl ?_
 refine wEk rfl rfl (qLd rfl rfl rfl rfl ((Vw.x (Vw.file (Vw.vol (Vw.inM hV) hv) hx)).cj rfl)) (fun h26 => ?_) (fun h26 => ?_)
 ·refine jp rfl (wAc (jT (wAf rfl (wAb (wAa (jp rfl (jp rfl (jp rfl (wAc (jT (wAg (jTr (jr3 rfl rfl rfl rfl ?_)))))))))))))
  rw [hpl, if_pos h26]; rfl
 refine jp rfl (wAc (jT (wAh rfl (wAd (jT (wAb (wAa (jp rfl (jp rfl (jp rfl (jp rfl (jp rfl (jp rfl (wAc (jT (wAg (jr3 rfl rfl rfl rfl ?_)))))))))))))))))
 rw [hpl, if_neg (by rw [h26]; simp)]; exact (wBj hv hx).symm
theorem wFg (S : CS) (hS : S.Ok) (n : Nat) (hwf : WFS n S.abs) (M : Mem) (hV : ∀ p ∈ S.own, M p.1 = some p.2) (w : Wy) (na : Option Addr) (nc : Nat) (hW : WyOk M w na nc) (hne : w.2 ≠ []) : SpecL Tryz.prog 90 #[pt S.b, wyV w na nc] M [] fun u _ _ => u = wKy S w.1 (wCj S.abs w) := by
 cases hw : wBb S.abs w.1 w.2.dropLast with
 | error e => exact place_err S hS n hwf M hV w na nc hW hne e hw
 | ok id => exact place_ok S hS n hwf M hV w na nc hW hne id hw
theorem wDs (S : CS) (hS : S.Ok) (n : Nat) (hwf : WFS n S.abs) (M : Mem) (hV : ∀ p ∈ S.own, M p.1 = some p.2) (w : Wy) (na : Option Addr) (nc : Nat) (hW : WyOk M w na nc) : SpecL Tryz.prog 84 #[pt S.b, wyV w na nc] M [] fun u _ _ => u = wKy S w.1 (wCh S.abs w) := by
 cases hw : wBb S.abs w.1 w.2 with
 | error e => exact file_err S hS n hwf M hV w na nc hW e hw
 | ok id => exact file_ok S hS n hwf M hV w na nc hW id hw
theorem wDc (S : CS) (hS : S.Ok) (n : Nat) (hwf : WFS n S.abs) (M : Mem) (hV : ∀ p ∈ S.own, M p.1 = some p.2) (vol : Int) (v : CV) (hv : wAm vol S.vols = some v) :
  SpecL Tryz.prog 79 #[pt S.b, .int .i64 vol] M [] fun u _ _ => u = .int .i64 (if wAr S.abs vol then 170 else 0) := by
 have hfr : wAr S.abs vol = v.frozen := by unfold wAr; rw [wBp, hv]; rfl
 refine wAe (vs := [_, _]) 14 _ Tryz.func79 rfl Tryz.ntmps79 rfl rfl ?_; intro W
 refine wAb (wAa (jp rfl (wAc (jT (wAb (wAb (wAa (jp rfl (lq (wAj rfl rfl rfl) ?_)))))))))
 refine sFa rfl ?_
 refine lq (qLd rfl rfl rfl rfl ((Vw.s (Vw.inM hV)).cj rfl)) ?_
 refine jp rfl ?_
 refine lq (qEq (v' := pt v.b) (wDk kI (z := .pointer none) rfl rfl rfl rfl (by kernel_rfl) (Vw.mo (Vw.inM hV)) hS.mo) (by rw [wEv, hv]; try rfl)) ?_
 refine lq (wAj rfl rfl rfl) ?_
 refine sFa rfl ?_
 refine wEk rfl rfl (qLd rfl rfl rfl rfl ((Vw.v (Vw.vol (Vw.inM hV) hv)).cj rfl)) (fun h13 => ?_) (fun h13 => ?_)
 ·refine wAc (jT (wAf rfl (wAb (wAa (jp rfl (wAc (jT (wAg (jTr (jr1 rfl rfl ?_))))))))))
  rw [hfr, if_pos h13]
 refine wAc (jT (wAh rfl (wAd (jT (wAb (wAa (jp rfl (wAc (jT (wAg (jr1 rfl rfl ?_)))))))))))
 rw [hfr, if_neg (by rw [h13]; simp)]
theorem flat_nd {α : Type} {f : α → Lc} : ∀ {l : List α}, ((l.flatMap f).map (·.1)).Nodup → (∀ y ∈ l, ((f y).map (·.1)).Nodup) ∧ l.Pairwise fun y z => ∀ p ∈ f y, ∀ q ∈ f z, p.1 ≠ q.1
 | [], _ => ⟨fun _ h => (by cases h), .nil⟩
 | y :: l, h => by
  rw [List.flatMap_cons, List.map_append] at h
  obtain ⟨h1, h2, h3⟩ := List.nodup_append.1 h
  obtain ⟨h4, h5⟩ := flat_nd h2
  refine ⟨fun z hz => ?_, List.pairwise_cons.2 ⟨fun z hz p hp q hq e => h3 p.1 (List.mem_map_of_mem hp) q.1 (List.mem_map_of_mem (List.mem_flatMap.2 ⟨z, hz, hq⟩)) e, h5⟩⟩
  rcases List.mem_cons.1 hz with rfl | hz
  ·exact h1
  exact h4 z hz
theorem own_v_nd {S : CS} (h : (S.own.map (·.1)).Nodup) {vol : Int} {v : CV} (hv : wAm vol S.vols = some v) : (v.own.map (·.1)).Nodup := by
 unfold CS.own at h
 simp only [List.map_cons] at h
 have := (List.nodup_cons.1 (List.nodup_cons.1 h).2).2
 exact (flat_nd this).1 _ (wDy hv)
theorem blk_inj {S : CS} (h : (S.own.map (·.1)).Nodup) {vol : Int} {v : CV} (hv : wAm vol S.vols = some v) {a b : Int} {x y : CF} (hx : wAm a v.files = some x) (hy : wAm b v.files = some y) (hab : a ≠ b) : x.b ≠ y.b := by
 have h2 := own_v_nd h hv
 unfold CV.own at h2
 simp only [List.map_cons] at h2
 have h3 := (flat_nd (List.nodup_cons.1 (List.nodup_cons.1 h2).2).2).2
 have hn : (a, x) ≠ (b, y) := fun e => hab (congrArg Prod.fst e)
 have key : ∀ {l : List (Int × CF)}, l.Pairwise (fun y z => ∀ p ∈ y.2.own, ∀ q ∈ z.2.own, p.1 ≠ q.1) → (a, x) ∈ l → (b, y) ∈ l → x.b ≠ y.b := by
  intro l hl
  induction hl with
  | nil => intro h; cases h
  | cons hp _ ih =>
   intro m1 m2
   rcases List.mem_cons.1 m1 with k1 | k1
   ·rcases List.mem_cons.1 m2 with k2 | k2
    ·exact absurd (k1.trans k2.symm) hn
    rw [← k1] at hp; exact hp _ k2 _ (List.mem_cons_self ..) _ (List.mem_cons_self ..)
   rcases List.mem_cons.1 m2 with k2 | k2
   ·rw [← k2] at hp; exact fun e => hp (a, x) k1 (y.b, fObj y) (List.mem_cons_self ..) (x.b, fObj x) (List.mem_cons_self ..) e.symm
   exact ih k1 k2
 exact key h3 (wDy hx) (wDy hy)
section
variable {P : Program} {ops : Array Oper} {N : Fs} {F : Fr} {E : Ent} {M : Mem} {L : Lc} {o : Oper}
theorem qPtrNe {x y : Operand} {t t' e : TypeId} {b : Nat} {p : Value} {r : Bool} {sz by_ : Nat} {z : List Value} (hg : gd ops F o = some true) (ho : o.op = .binOp .neq t x y t') (hx : ev F x = some (pt b)) (hy : ev F y = some p) [ht : Und P t (.pointer e)] [hl : Lay P e sz by_ z] (hz : Nat.beq sz 0 = false)
  (h : (p = .pointer none ∧ r = true) ∨ (p = pt b ∧ r = false) ∨ ∃ b2 c1 t1 c2 t2, p = pt b2 ∧ b ≠ b2 ∧ r = true ∧ OJ M L b (.cells c1 t1 (0, 0)) ∧ OJ M L b2 (.cells c2 t2 (0, 0))) : QF P ops N F M L o (.bool r) := wDw hg fun ac ha w hw => by
 obtain ⟨ti, zv, hi, hi2, _⟩ := hl.info
 have hz' : ti.size ≠ 0 := fun e => by rw [hi2] at e; rw [e] at hz; simp at hz
 simp only [execOp, ho, ha.ev hx, ha.ev hy]
 rcases h with ⟨rfl, rfl⟩ | ⟨rfl, rfl⟩ | ⟨b2, c1, t1, c2, t2, rfl, hb, rfl, h1, h2⟩
 ·have hp : P.underlying t = some (.pointer (P.pointee t)) := by rw [ht.h]; simp [Program.pointee, ht.h]
  have := run_neq_pointer_nil (P := P) w t (some ⟨b, 0, none⟩) hp
  simp [eqGuard, this]
 ·have := run_eql_ptr_same (P := P) w ⟨b, 0, none⟩ ht.h hi
  have e1 : (binOp .neq t (pt b) (pt b)).run P w = .ok (.bool false) w := by
   have h0 : ∀ d : Nat, (Op.equalIn (d + 1) t (pt b) (pt b)).run P w = .ok true w := fun d => by
    simp [Op.equalIn, run_underlying ht.h, sizeOf, typeInfo, hi, run_sameAddr_same]
   simp only [binOp]
   simp [Op.equal, Op.maxDepth, h0 9999]
  simp [eqGuard, e1]
 have hne : (⟨b, 0, none⟩ : Addr) ≠ ⟨b2, 0, none⟩ := fun e => hb (by injection e)
 have e1 : (binOp .neq t (pt b) (pt b2)).run P w = .ok (.bool true) w := by
  have h0 : ∀ d : Nat, (Op.equalIn (d + 1) t (pt b) (pt b2)).run P w = .ok false w := fun d => by
   simp [Op.equalIn, run_underlying ht.h, sizeOf, typeInfo, hi, hz', run_sameAddr_other w hne (h1.heap hw) (h2.heap hw)]
  simp only [binOp]
  simp [Op.equal, Op.maxDepth, h0 9999]
 simp [eqGuard, e1]
end
theorem fresh_empty (S : CS) (hS : S.Ok) (n : Nat) (hwf : WFS n S.abs) (M : Mem) (hV : ∀ p ∈ S.own, M p.1 = some p.2) (w : Wy) (na : Option Addr) (nc : Nat) (hW : WyOk M w na nc) (vol : Int) (old : Option Int) (p : Value) (he : w.2 = []) :
  SpecL Tryz.prog 78 #[pt S.b, wyV w na nc, .int .i64 vol, p] M [] fun u _ _ => u = wKy S w.1 (wBo S.abs w vol old) := by
 have hl0 : w.2.length = 0 := by rw [he]; rfl
 refine wAe (vs := [_, _, _, _]) 60 _ Tryz.func78 rfl Tryz.ntmps78 rfl rfl ?_; intro W
 refine wAb (wAa (sBx [_, _] rfl fun b5 => ?_))
 refine jp rfl (jp rfl (jp rfl (wAc (jT (wAb (wAb (wAa (sFL rfl rfl ?_))))))))
 refine lq (wCd rfl rfl rfl) ?_
 refine jt rfl (decide_eq_true (by omega)) ?_
 refine wAc (jT (wAf rfl (wAb (wAa (jp rfl (jp rfl (jp rfl (wAc (jT (wAg (jTr (jr3 rfl rfl rfl rfl ?_))))))))))))
 have : wBo S.abs w vol old = .error 251 := by unfold wBo; rw [if_pos he]
 rw [this]; rfl
theorem fresh_perr (S : CS) (hS : S.Ok) (n : Nat) (hwf : WFS n S.abs) (M : Mem) (hV : ∀ p ∈ S.own, M p.1 = some p.2) (w : Wy) (na : Option Addr) (nc : Nat) (hW : WyOk M w na nc) (vol : Int) (old : Option Int) (p : Value) (hne : w.2 ≠ []) (e : Int) (hp : wCj S.abs w = .error e) :
  SpecL Tryz.prog 78 #[pt S.b, wyV w na nc, .int .i64 vol, p] M [] fun u _ _ => u = wKy S w.1 (wBo S.abs w vol old) := by
 have hl0 : 0 < w.2.length := List.length_pos_iff.2 hne
 have he := placeS_err hwf hp
 refine wAe (vs := [_, _, _, _]) 60 _ Tryz.func78 rfl Tryz.ntmps78 rfl rfl ?_; intro W
 refine wAb (wAa (sBx [_, _] rfl fun b5 => ?_))
 refine jp rfl (jp rfl (jp rfl (wAc (jT (wAb (wAb (wAa (sFL rfl rfl ?_))))))))
 refine lq (wCd rfl rfl rfl) ?_
 refine jf rfl (decide_eq_false (by omega)) ?_
 refine wAc (jT (wAh rfl (wAd (jT (wAb (wAa (jp rfl (sLL rfl ?_))))))))
 refine lq (qEq (qCl (wFg S hS n hwf M hV w na nc hW hne)) (by rw [hp]; try rfl)) ?_
 iterate 7 refine jp rfl ?_
 refine wAc (jT (wAb (wAk (wAb (wAa (jp rfl (jt rfl (decide_eq_true (by omega)) ?_)))))))
 refine jp rfl (wAc (jT (wAf rfl (wAb (wAa (jp rfl (jp rfl (jp rfl (jp rfl (wAc (jT (wAg (jBr (jTr (jr3 rfl rfl rfl rfl ?_)))))))))))))))
 have : wBo S.abs w vol old = .error e := by unfold wBo; rw [if_neg hne, hp]
 rw [this]; rfl
set_option maxHeartbeats 1000000 in
theorem fresh_ok (S : CS) (hS : S.Ok) (n : Nat) (hwf : WFS n S.abs) (M : Mem) (hV : ∀ p ∈ S.own, M p.1 = some p.2) (w : Wy) (na : Option Addr) (nc : Nat) (hW : WyOk M w na nc) (vol : Int) (old : Option Int) (p : Value) (hne : w.2 ≠ []) (id : Int) (hp : wCj S.abs w = .ok id) (v : CV) (x : CF) (hv : wAm w.1 S.vols = some v) (hx : wAm id v.files = some x) (hd : x.pf.dir = true) (hnd : (S.own.map (·.1)).Nodup) (hold : w.1 = vol → (old = none ∧ p = .pointer none) ∨ ∃ d y, old = some d ∧ wAm d v.files = some y ∧ p = pt y.b) :
  SpecL Tryz.prog 78 #[pt S.b, wyV w na nc, .int .i64 vol, p] M [] fun u _ _ => u = wKy S w.1 (wBo S.abs w vol old) := by
 have hl0 : 0 < w.2.length := List.length_pos_iff.2 hne
 obtain ⟨nmb, nmo, e1, e2, e3⟩ := ((hS.v hv).x hx).map hd
 have hbig := hW.big
 have hfr : wBo S.abs w vol old = if w.1 = vol then (if (wAm (wAi w) x.pf.names).isSome then .error 251 else if 32 ≤ x.pf.names.length ∧ old ≠ some id then .error 4 else .ok id) else .error 2 := by unfold wBo; rw [if_neg hne, hp]; simp only; rw [wGs hv hx]
 have hlen : x.pf.names.length ≤ 32 := ((hwf.vol w.1 v.abs (by rw [wBp, hv]; rfl)).wf.len id x.pf (by show wAm id (wEf v.files) = _; rw [wBs, hx]; rfl)).2
 refine wAe (vs := [_, _, _, _]) 60 _ Tryz.func78 rfl Tryz.ntmps78 rfl rfl ?_; intro W
 refine wAb (wAa (sBx [_, _] rfl fun b5 => ?_))
 refine jp rfl (jp rfl (jp rfl (wAc (jT (wAb (wAb (wAa (sFL rfl rfl ?_))))))))
 refine lq (wCd rfl rfl rfl) ?_
 refine jf rfl (decide_eq_false (by omega)) ?_
 refine wAc (jT (wAh rfl (wAd (jT (wAb (wAa (jp rfl (sLL rfl ?_))))))))
 refine lq (qEq (v' := .tuple #[.int .u32 id, pt x.b, .int .i64 0]) (qCl (wFg S hS n hwf M hV w na nc hW hne)) (by rw [hp]; exact wBj hv hx)) ?_
 iterate 7 refine jp rfl ?_
 refine wAc (jT (wAb (wAk (wAb (wAa (jp rfl (jf rfl (decide_eq_false (by omega)) ?_)))))))
 refine jp rfl (wAc (jT (wAh rfl (wAb (wAa (sFL rfl rfl ?_))))))
 refine jp rfl (js rfl (fun h35 => ?_) (fun h35 => ?_))
 ·refine jp rfl (wAc (jT (wAf rfl (wAb (wAa (jp rfl (jp rfl (jp rfl (wAc (jT (wAg (jBr (jTr (jr3 rfl rfl rfl rfl ?_))))))))))))))
  rw [hfr, if_neg h35]; rfl
 refine jp rfl (wAc (jT (wAh rfl (wAd (jB (jT (wAb (wAb (wCw [(0, true), (1, true), (2, true), (3, true), (4, true), (5, true), (6, true), (7, true), (8, true), (9, true), (10, true), (11, true)] _ (fun _ h => h) ?_)))))))))
 refine dp rfl rfl ?_
 refine dq rfl (wAj rfl rfl rfl) ?_
 refine dFa rfl rfl ?_
 refine dq rfl (qEq (qLd rfl rfl rfl rfl ((Vw.x (Vw.file (Vw.vol (Vw.inM hV) hv) hx)).cj rfl)) e1) ?_
 refine dLL rfl rfl ?_
 refine dq rfl (qCl (wEx w na nc M hW.sn hne hW.big)) ?_
 refine dq rfl (qEq (v' := .tuple #[.int .u32 ((wAm (wAi w) x.pf.names).getD 0), .bool (wAm (wAi w) x.pf.names).isSome]) (qLookup2 kS (z := .int .u32 0) rfl rfl rfl rfl (by kernel_rfl) (Vw.xn (Vw.file (Vw.vol (Vw.inM hV) hv) hx) (nmb, nmo) (by rw [e2]; simp)) e3) (by rw [names_get]; cases wAm (wAi w) x.pf.names <;> rfl)) ?_
 iterate 5 refine dp rfl rfl ?_
 refine wAs (jPn (jT (wAb (wAa (jp rfl (wAc (jT (jc_if rfl (fun h46 => ?_) (fun h46 => ?_)))))))))
 ·refine wAb (wAa (jp rfl (jp rfl (jp rfl (wAc (jT (wAg (jTr (jr3 rfl rfl rfl rfl ?_)))))))))
  rw [hfr, if_pos (by omega), if_pos h46]; rfl
 refine wAd (jT (wAb (wAb (wAa (jp rfl (lq (wAj rfl rfl rfl) ?_))))))
 refine sFa rfl ?_
 refine lq (qEq (qLd rfl rfl rfl rfl ((Vw.x (Vw.file (Vw.vol (Vw.inM hV) hv) hx)).cj rfl)) e1) ?_
 refine lq (qEq (v' := .int .i64 x.pf.names.length) (qLenMap kS rfl rfl rfl (Vw.xn (Vw.file (Vw.vol (Vw.inM hV) hv) hx) (nmb, nmo) (by rw [e2]; simp)) e3) (by rw [List.length_map])) ?_
 refine js rfl (fun h52 => ?_) (fun h52 => ?_)
 ·refine jp rfl (jp rfl (jp rfl ?_))
  refine wEk rfl rfl (qPtrNe (r := decide (old ≠ some id)) rfl rfl rfl rfl rfl (by
   rcases hold (by omega) with ⟨ho, hp⟩ | ⟨d, y, ho, hy, hp⟩
   ·exact .inl ⟨hp, by rw [ho]; simp⟩
   by_cases e : d = id
   ·subst e; rw [hx] at hy; cases hy; exact .inr (.inl ⟨hp, by rw [ho]; simp⟩)
   exact .inr (.inr ⟨y.b, _, _, _, _, hp, blk_inj hnd hv hx hy (Ne.symm e), by rw [ho]; simp [e], Vw.x (Vw.file (Vw.vol (Vw.inM hV) hv) hx), Vw.x (Vw.file (Vw.vol (Vw.inM hV) hv) hy)⟩))) (fun h56 => ?_) (fun h56 => ?_)
  ·refine jp rfl (wAc (jT (wAf rfl (wAb (wAa (jp rfl (jp rfl (jp rfl (wAc (jT (wAg (jTr (jr3 rfl rfl rfl rfl ?_)))))))))))))
   rw [hfr, if_pos (by omega), if_neg (by rw [h46]; simp), if_pos ⟨by omega, by simpa using h56⟩]; rfl
  refine jp rfl (wAc (jT (wAh rfl (wAd (jT (wAb (wAa (jp rfl (jp rfl (jp rfl (jp rfl (jp rfl (wAc (jT (wAg (jr3 rfl rfl rfl rfl ?_))))))))))))))))
  rw [hfr, if_pos (by omega), if_neg (by rw [h46]; simp), if_neg (fun h => h.2 (by simpa using h56))]; exact (wBj hv hx).symm
 refine jp rfl (jp rfl (jp rfl (jp rfl (jp rfl (wAc (jT (wAh rfl (wAd (jT (wAb (wAa (jp rfl (jp rfl (jp rfl (jp rfl (jp rfl (wAc (jT (wAg (jr3 rfl rfl rfl rfl ?_))))))))))))))))))))
 rw [hfr, if_pos (by omega), if_neg (by rw [h46]; simp), if_neg (fun h => by have := h.1; omega)]; exact (wBj hv hx).symm
theorem wEe (S : CS) (hS : S.Ok) (n : Nat) (hwf : WFS n S.abs) (M : Mem) (hV : ∀ p ∈ S.own, M p.1 = some p.2) (w : Wy) (na : Option Addr) (nc : Nat) (hW : WyOk M w na nc) (vol : Int) (old : Option Int) (p : Value) (hnd : (S.own.map (·.1)).Nodup) (hold : w.1 = vol → (old = none ∧ p = .pointer none) ∨ ∃ d v y, old = some d ∧ wAm w.1 S.vols = some v ∧ wAm d v.files = some y ∧ p = pt y.b) : SpecL Tryz.prog 78 #[pt S.b, wyV w na nc, .int .i64 vol, p] M [] fun u _ _ => u = wKy S w.1 (wBo S.abs w vol old) := by
 by_cases hne : w.2 = []
 ·exact fresh_empty S hS n hwf M hV w na nc hW vol old p hne
 cases hp : wCj S.abs w with
 | error e => exact fresh_perr S hS n hwf M hV w na nc hW vol old p hne e hp
 | ok id =>
  obtain ⟨v, x, hv, hx, hwv, hd⟩ := placeS_ok hwf hp
  exact fresh_ok S hS n hwf M hV w na nc hW vol old p hne id hp v x hv hx hd hnd fun hvol => (hold hvol).imp_right fun ⟨d, v2, y, h0, h1, h2, h3⟩ => by
   rw [hv] at h1; cases h1; exact ⟨d, y, h0, h2, h3⟩
section
variable {P : Program} {ops : Array Oper} {N : Fs} {Q : Exit → Act → World → Prop} {F : Fr} {E : Ent} {M : Mem} {L : Lc} {Mw : Mem} {Lw : Lc} {p : Ph}
theorem je_h {i : Nat} {rest : List (Nat × Bool)} {o : Oper} {K : Value → Mem → Lc → Prop} {d : Nat} (ho : ops[i]? = some o) (hd : o.dst = some d) (hN : Nat.blt d N.n = true)
  (hh : HF P ops N F E M L o K)
  (h : ∀ v M' L', K v M' L' → MLe Mw M' ∧ (∀ p ∈ Lw, p ∈ L') ∧ JE P ops N p Mw Lw Q rest ((d, v) :: F) E M' L') : JE P ops N p Mw Lw Q ((i, false) :: rest) F E M L := fun kM kL J =>
 ⟨o, ho, by unfold dstOk; rw [hd]; exact hN, St.closed _ _ _, fun _ hw => hw.js.sub kM kL, (fun h => by cases h), .inl fun a w ha hw => by
  obtain ⟨h1, h2⟩ := hh a w ha hw
  refine ⟨h1, Oper.wpIn_mono (fun a' w' hk => ?_) (h2 Q)⟩
  obtain ⟨v, M', L', rfl, hs, hK⟩ := hk
  obtain ⟨k1, k2, k3⟩ := h v M' L' hK
  refine ⟨v, rfl, J, Js Mw Lw, St E M' L', St.closed _ _ _, fun _ hx => hx.js.sub k1 k2, fun _ hx => hx, (fun h => by cases h), fun _ hx => hx, hs, ?_⟩
  rw [hd]; exact k3 k1 k2 J⟩
end
section
variable {P : Program} {ops : Array Oper} {N : Fs} {F : Fr} {E : Ent} {M : Mem} {L : Lc} {o : Oper}
theorem hStFront {t : TypeId} {x y : Operand} {u : Value} {b off : Nat} {l l2 : List Value} {e : TypeId} {R : Lc} {by_ : Nat} {z : List Value} (hg : gd ops F o = some true) (ho : o.op = .store t x y) (hx : ev F x = some (.pointer (some ⟨b, off, none⟩))) (hy : ev F y = some u)
  (hl : Lay P t 1 by_ z) (hc : u.cells = #[u]) (h1 : u.oneCell' = true) (hoff : off < l.length) (h2 : l.take off ++ [u] ++ l.drop (off + 1) = l2) (hp : L.Perm ((b, .cells l.toArray e (0, 0)) :: R)) :
  HF P ops N F E M L o (fun _ M' L' => M = M' ∧ L' = (b, .cells l2.toArray e (0, 0)) :: R) := by
 subst h2
 exact HF.weakL hp (hStore (cs := [u]) hg ho hx hy hc rfl (fun v hv => by rw [List.mem_singleton.1 hv]; exact h1) (Nat.succ_le_of_lt hoff))
theorem hStX {t : TypeId} {x y : Operand} {u : Value} {off : Nat} {S : CS} {vol id : Int} {v : CV} {cf : CF} {L2 : Lc} {by_ : Nat} {z : List Value} (x' : CF) (hg : gd ops F o = some true) (ho : o.op = .store t x y) (hx : ev F x = some (.pointer (some ⟨cf.b, off, none⟩))) (hy : ev F y = some u)
  [hl : Lay P t 1 by_ z] (hc : u.cells = #[u]) (h1 : u.oneCell' = true) (hoff : off < 4) (hv : wAm vol S.vols = some v) (hxx : wAm id v.files = some cf) (hb : x'.b = cf.b) (hd : x'.dR = cf.dR) (hn : x'.nR = cf.nR)
  (hcs : [Value.bool cf.pf.dir, .int .i64 cf.pf.links, cf.dv, cf.nm].take off ++ [u] ++ [Value.bool cf.pf.dir, .int .i64 cf.pf.links, cf.dv, cf.nm].drop (off + 1) = [.bool x'.pf.dir, .int .i64 x'.pf.links, x'.dv, x'.nm]) [hp : Pick S.own L L2] :
  HF P ops N F E M L o (fun _ M' L' => M = M' ∧ L' = (S.setX vol id x').own ++ L2) := by
 obtain ⟨R, h3, h4⟩ := CS.focX hv hxx
 refine (hStFront (l := [Value.bool cf.pf.dir, .int .i64 cf.pf.links, cf.dv, cf.nm]) (R := cf.dR ++ cf.nR ++ R ++ L2) hg ho hx hy hl hc h1 (by simpa using hoff) hcs (e := 127) ?_).mono fun w v' M' L' hK hs => ?_
 ·refine hp.perm.trans ((h3.append_right L2).trans ?_)
  unfold CF.own fObj; simp
 obtain ⟨rfl, rfl⟩ := hK
 refine ⟨_, hs.perm ?_, rfl, rfl⟩
 refine List.Perm.trans ?_ ((h4 x').append_right L2).symm
 unfold CF.own fObj; rw [hb, hd, hn]; simp
theorem hStV {t : TypeId} {x y : Operand} {u : Value} {off : Nat} {S : CS} {vol : Int} {v : CV} {L2 : Lc} {by_ : Nat} {z : List Value} (v' : CV) (hg : gd ops F o = some true) (ho : o.op = .store t x y) (hx : ev F x = some (.pointer (some ⟨v.b, off, none⟩))) (hy : ev F y = some u)
  [hl : Lay P t 1 by_ z] (hc : u.cells = #[u]) (h1 : u.oneCell' = true) (hoff : off < 3) (hv : wAm vol S.vols = some v) (hb : v'.b = v.b) (hmb : v'.mb = v.mb) (hmo : v'.mo = v.mo) (hfs : v'.files = v.files)
  (hcs : [Value.bool v.frozen, .int .u32 v.next, .map (some v.mb)].take off ++ [u] ++ [Value.bool v.frozen, .int .u32 v.next, .map (some v.mb)].drop (off + 1) = [.bool v'.frozen, .int .u32 v'.next, .map (some v'.mb)]) [hp : Pick S.own L L2] :
  HF P ops N F E M L o (fun _ M' L' => M = M' ∧ L' = (S.setV vol v').own ++ L2) := by
 obtain ⟨R, h3, h4⟩ := CS.focV hv
 refine (hStFront (l := [Value.bool v.frozen, .int .u32 v.next, .map (some v.mb)]) (R := (v.mb, v.mo) :: (wJr v.files ++ R ++ L2)) hg ho hx hy hl hc h1 (by simpa using hoff) hcs (e := 130) ?_).mono fun w v'' M' L' hK hs => ?_
 ·refine hp.perm.trans ((h3.append_right L2).trans ?_)
  unfold CV.own vObj; simp
 obtain ⟨rfl, rfl⟩ := hK
 refine ⟨_, hs.perm ?_, rfl, rfl⟩
 refine List.Perm.trans ?_ ((h4 v').append_right L2).symm
 unfold CV.own vObj; rw [hb, hmb, hmo, hfs]; simp
theorem hStS {t : TypeId} {x y : Operand} {u : Value} {off : Nat} {S : CS} {L2 : Lc} {by_ : Nat} {z : List Value} (n' : Int) (hg : gd ops F o = some true) (ho : o.op = .store t x y) (hx : ev F x = some (.pointer (some ⟨S.b, off, none⟩))) (hy : ev F y = some u)
  [hl : Lay P t 1 by_ z] (hc : u.cells = #[u]) (h1 : u.oneCell' = true) (hoff : off < 2)
  (hcs : [Value.int .i64 S.next, .map (some S.mb)].take off ++ [u] ++ [Value.int .i64 S.next, .map (some S.mb)].drop (off + 1) = [.int .i64 n', .map (some S.mb)]) [hp : Pick S.own L L2] :
  HF P ops N F E M L o (fun _ M' L' => M = M' ∧ L' = ({ S with next := n' } : CS).own ++ L2) := by
 refine (hStFront (l := [Value.int .i64 S.next, .map (some S.mb)]) (R := (S.mb, S.mo) :: (ownVs S.vols ++ L2)) hg ho hx hy hl hc h1 (by simpa using hoff) hcs (e := 49) ?_).mono fun w v'' M' L' hK hs => ?_
 ·refine hp.perm.trans ?_
  unfold CS.own sObj; simp
 obtain ⟨rfl, rfl⟩ := hK
 refine ⟨_, hs.perm ?_, rfl, rfl⟩
 unfold CS.own sObj; simp
theorem hNmPut {t kt et : TypeId} {x y z : Operand} {S : CS} {vol id k : Int} {s : Str} {v : CV} {cf : CF} {L2 : Lc} {nmb : Nat} {nmo : Obj} (hg : gd ops F o = some true) (ho : o.op = .mapUpdate t x y z ∨ o.op = .insert t x y z) (hx : ev F x = some (.map (some nmb))) (hy : ev F y = some (.string s)) (hz : ev F z = some (.int .u32 k))
  [ht : Und P t (.map kt et)] [hk : Und P kt .string] (hv : wAm vol S.vols = some v) (hxx : wAm id v.files = some cf) (hok : cf.Ok) (hdir : cf.pf.dir = true) (e1 : cf.nm = .map (some nmb)) (e2 : cf.nR = [(nmb, nmo)]) (e3 : MapOf kS nmo (cf.pf.names.map fun q => (q.1, .int .u32 q.2))) [hp : Pick S.own L L2] :
  HF P ops N F E M L o (fun _ M' L' => M = M' ∧ ∃ x' : CF, x'.Ok ∧ x'.b = cf.b ∧ x'.pf = { cf.pf with names := wBq s k cf.pf.names } ∧ x'.nm = cf.nm ∧ L' = (S.setX vol id x').own ++ L2) := by
 obtain ⟨R, h3, h4⟩ := CS.focX hv hxx
 have hp1 : L.Perm ((nmb, nmo) :: ((cf.b, fObj cf) :: (cf.dR ++ R ++ L2))) := by
  refine hp.perm.trans ((h3.append_right L2).trans ?_)
  unfold CF.own; rw [e2]
  refine (List.Perm.trans ?_ (List.Perm.swap (cf.b, fObj cf) (nmb, nmo) (cf.dR ++ R ++ L2)).symm)
  simp only [List.cons_append, List.append_assoc, List.nil_append]
  exact List.Perm.cons _ List.perm_middle
 refine (HF.weakL hp1 (hMapPutO kS hg ho hx hy hz (ht := ht) (hk := hk) e3)).mono fun w v'' M' L' hK hs => ?_
 obtain ⟨rfl, mo', rfl, hmo⟩ := hK
 refine ⟨_, hs.perm ?_, rfl, { cf with pf := { cf.pf with names := wBq s k cf.pf.names }, nR := [(nmb, mo')] }, ⟨hok.byt, .inl ⟨hdir, nmb, mo', e1, rfl, by rw [← names_put]; exact hmo⟩⟩, rfl, rfl, rfl, rfl⟩
 refine List.Perm.trans ?_ ((h4 _).append_right L2).symm
 unfold CF.own
 refine (List.Perm.swap _ _ _).trans ?_
 simp only [List.cons_append, List.append_assoc, List.nil_append]
 exact List.Perm.cons _ List.perm_middle.symm
theorem hNmDel {t kt kt' et : TypeId} {x y : Operand} {S : CS} {vol id : Int} {s : Str} {v : CV} {cf : CF} {L2 : Lc} {nmb : Nat} {nmo : Obj} (hg : gd ops F o = some true) (ho : o.op = .call { callee := .builtin .delete, args := #[x, y], argTypes := #[t, kt'] }) (hx : ev F x = some (.map (some nmb))) (hy : ev F y = some (.string s))
  [ht : Und P t (.map kt et)] [hk : Und P kt .string] (hv : wAm vol S.vols = some v) (hxx : wAm id v.files = some cf) (hok : cf.Ok) (hdir : cf.pf.dir = true) (e1 : cf.nm = .map (some nmb)) (e2 : cf.nR = [(nmb, nmo)]) (e3 : MapOf kS nmo (cf.pf.names.map fun q => (q.1, .int .u32 q.2))) [hp : Pick S.own L L2] :
  HF P ops N F E M L o (fun _ M' L' => M = M' ∧ ∃ x' : CF, x'.Ok ∧ x'.b = cf.b ∧ x'.pf = { cf.pf with names := wBc s cf.pf.names } ∧ x'.nm = cf.nm ∧ L' = (S.setX vol id x').own ++ L2) := by
 obtain ⟨R, h3, h4⟩ := CS.focX hv hxx
 have hp1 : L.Perm ((nmb, nmo) :: ((cf.b, fObj cf) :: (cf.dR ++ R ++ L2))) := by
  refine hp.perm.trans ((h3.append_right L2).trans ?_)
  unfold CF.own; rw [e2]
  refine (List.Perm.trans ?_ (List.Perm.swap (cf.b, fObj cf) (nmb, nmo) (cf.dR ++ R ++ L2)).symm)
  simp only [List.cons_append, List.append_assoc, List.nil_append]
  exact List.Perm.cons _ List.perm_middle
 refine (HF.weakL hp1 (hMapDelO kS hg ho hx hy (ht := ht) (hk := hk) e3)).mono fun w v'' M' L' hK hs => ?_
 obtain ⟨rfl, mo', rfl, hmo⟩ := hK
 refine ⟨_, hs.perm ?_, rfl, { cf with pf := { cf.pf with names := wBc s cf.pf.names }, nR := [(nmb, mo')] }, ⟨hok.byt, .inl ⟨hdir, nmb, mo', e1, rfl, by rw [← names_del]; exact hmo⟩⟩, rfl, rfl, rfl, rfl⟩
 refine List.Perm.trans ?_ ((h4 _).append_right L2).symm
 unfold CF.own
 refine (List.Perm.swap _ _ _).trans ?_
 simp only [List.cons_append, List.append_assoc, List.nil_append]
 exact List.Perm.cons _ List.perm_middle.symm
theorem ptF_del {l : List (Int × CF)} {k : Int} : ptF (wBc k l) = wBc k (ptF l) := delA_map (fun v : CF => pt v.b)
theorem ptV_del {l : List (Int × CV)} {k : Int} : ptV (wBc k l) = wBc k (ptV l) := delA_map (fun v : CV => pt v.b)
theorem flat_del {α : Type} {f : Int × α → Lc} {k : Int} : ∀ {l : List (Int × α)}, ∃ G, (l.flatMap f).Perm ((wBc k l).flatMap f ++ G)
 | [] => ⟨[], by simp [wBc]⟩
 | p :: l => by
  obtain ⟨G, hG⟩ := flat_del (f := f) (k := k) (l := l)
  unfold wBc at hG ⊢
  rw [List.flatMap_cons, List.filter_cons]
  split
  ·exact ⟨G, by rw [List.flatMap_cons, List.append_assoc]; exact List.Perm.append_left _ hG⟩
  refine ⟨f p ++ G, (List.Perm.append_left _ hG).trans ?_⟩
  rw [← List.append_assoc, ← List.append_assoc]
  exact List.Perm.append_right _ List.perm_append_comm
theorem hFileDel {t kt kt' et : TypeId} {x y : Operand} {S : CS} {vol id : Int} {v : CV} {L2 : Lc} (hg : gd ops F o = some true) (ho : o.op = .call { callee := .builtin .delete, args := #[x, y], argTypes := #[t, kt'] }) (hx : ev F x = some (.map (some v.mb))) (hy : ev F y = some (.int .u32 id))
  [ht : Und P t (.map kt et)] [hk : Und P kt (.int .u32)] (hv : wAm vol S.vols = some v) (hok : v.Ok) [hp : Pick S.own L L2] :
  HF P ops N F E M L o (fun _ M' L' => M = M' ∧ ∃ mo', MapOf kU mo' (ptF (wBc id v.files)) ∧ L' = (S.setV vol { v with mo := mo', files := wBc id v.files }).own ++ L2) := by
 obtain ⟨R, h3, h4⟩ := CS.focV hv
 have hp1 : L.Perm ((v.mb, v.mo) :: ((v.b, vObj v) :: (wJr v.files ++ R ++ L2))) := by
  refine hp.perm.trans ((h3.append_right L2).trans ?_)
  unfold CV.own
  simp only [List.cons_append, List.append_assoc]
  exact List.Perm.swap _ _ _
 refine (HF.weakL hp1 (hMapDelO kU hg ho hx hy (ht := ht) (hk := hk) hok.mo)).mono fun w v'' M' L' hK hs => ?_
 obtain ⟨rfl, mo', rfl, hmo⟩ := hK
 rw [← ptF_del] at hmo
 obtain ⟨G, hG⟩ := flat_del (f := fun p : Int × CF => p.2.own) (k := id) (l := v.files)
 have h5 := hs.perm (L' := ((v.mb, mo') :: ((v.b, vObj v) :: (wJr (wBc id v.files) ++ R ++ L2))) ++ G) (by
  simp only [List.cons_append]
  refine List.Perm.cons _ (List.Perm.cons _ ?_)
  unfold wJr
  refine ((hG.append_right R).append_right L2).trans ?_
  simp only [List.append_assoc]
  refine List.Perm.append_left _ ?_
  rw [← List.append_assoc R L2 G]
  exact List.perm_append_comm)
 refine ⟨_, (h5.fewer (List.sublist_append_left _ G)).perm ?_, rfl, mo', hmo, rfl⟩
 refine List.Perm.trans ?_ ((h4 _).append_right L2).symm
 unfold CV.own vObj
 simp only [List.cons_append, List.append_assoc]
 exact List.Perm.swap _ _ _
theorem hVolDel {t kt kt' et : TypeId} {x y : Operand} {S : CS} {vol : Int} {L2 : Lc} (hg : gd ops F o = some true) (ho : o.op = .call { callee := .builtin .delete, args := #[x, y], argTypes := #[t, kt'] }) (hx : ev F x = some (.map (some S.mb))) (hy : ev F y = some (.int .i64 vol))
  [ht : Und P t (.map kt et)] [hk : Und P kt (.int .i64)] (hok : S.Ok) [hp : Pick S.own L L2] :
  HF P ops N F E M L o (fun _ M' L' => M = M' ∧ ∃ mo', MapOf kI mo' (ptV (wBc vol S.vols)) ∧ L' = ({ S with mo := mo', vols := wBc vol S.vols } : CS).own ++ L2) := by
 have hp1 : L.Perm ((S.mb, S.mo) :: ((S.b, sObj S) :: (ownVs S.vols ++ L2))) := by
  refine hp.perm.trans ?_
  unfold CS.own
  simp only [List.cons_append, List.append_assoc]
  exact List.Perm.swap _ _ _
 refine (HF.weakL hp1 (hMapDelO kI hg ho hx hy (ht := ht) (hk := hk) hok.mo)).mono fun w v'' M' L' hK hs => ?_
 obtain ⟨rfl, mo', rfl, hmo⟩ := hK
 rw [← ptV_del] at hmo
 obtain ⟨G, hG⟩ := flat_del (f := fun p : Int × CV => p.2.own) (k := vol) (l := S.vols)
 have h5 := hs.perm (L' := ((S.mb, mo') :: ((S.b, sObj S) :: (ownVs (wBc vol S.vols) ++ L2))) ++ G) (by
  simp only [List.cons_append]
  refine List.Perm.cons _ (List.Perm.cons _ ?_)
  unfold ownVs
  refine (hG.append_right L2).trans ?_
  simp only [List.append_assoc]
  exact List.Perm.append_left _ List.perm_append_comm)
 refine ⟨_, (h5.fewer (List.sublist_append_left _ G)).perm ?_, rfl, mo', hmo, rfl⟩
 unfold CS.own sObj
 simp only [List.cons_append]
 exact List.Perm.swap _ _ _
theorem hVolPut {t kt et : TypeId} {x y z : Operand} {S : CS} {k : Int} {v : CV} {L2 L3 : Lc} (hg : gd ops F o = some true) (ho : o.op = .mapUpdate t x y z ∨ o.op = .insert t x y z) (hx : ev F x = some (.map (some S.mb))) (hy : ev F y = some (.int .i64 k)) (hz : ev F z = some (pt v.b))
  [ht : Und P t (.map kt et)] [hk : Und P kt (.int .i64)] (hok : S.Ok) (hnew : wAm k S.vols = none) [hp : Pick S.own L L2] [hp2 : Pick v.own L2 L3] :
  HF P ops N F E M L o (fun _ M' L' => M = M' ∧ ∃ mo', MapOf kI mo' (ptV (S.vols ++ [(k, v)])) ∧ L' = ({ S with mo := mo', vols := S.vols ++ [(k, v)] } : CS).own ++ L3) := by
 have hp1 : L.Perm ((S.mb, S.mo) :: ((S.b, sObj S) :: (ownVs S.vols ++ (v.own ++ L3)))) := by
  refine (hp.perm.trans (List.Perm.append_left _ hp2.perm)).trans ?_
  unfold CS.own
  simp only [List.cons_append, List.append_assoc]
  exact List.Perm.swap _ _ _
 refine (HF.weakL hp1 (hMapPutO kI hg ho hx hy hz (ht := ht) (hk := hk) hok.mo)).mono fun w v'' M' L' hK hs => ?_
 obtain ⟨rfl, mo', rfl, hmo⟩ := hK
 have hnk : k ∉ wBg (ptV S.vols) := getA_none.1 (by rw [wEv, hnew]; rfl)
 rw [wEy hnk] at hmo
 refine ⟨_, hs.perm ?_, rfl, mo', by unfold ptV at hmo ⊢; rw [List.map_append]; exact hmo, rfl⟩
 unfold CS.own sObj ownVs
 simp only [List.cons_append, List.flatMap_append, List.flatMap_cons, List.flatMap_nil, List.append_nil, List.append_assoc]
 exact List.Perm.swap _ _ _
end
def wJw (n : Int) : Prop := -9223372036854775808 ≤ n ∧ n ≤ 9223372036854775807
structure CallOk (M : Mem) (c : CL) (a : Option Addr) (k : Nat) : Prop where
 sm : SM M a (wAn c.data)
 cap : c.data.length ≤ k
 big : c.data.length ≤ 1000000
 ka : wJw c.a
 kb : wJw c.b
 kc : wJw c.c
theorem CallOk.mono {M M' : Mem} {c : CL} {a : Option Addr} {k : Nat} (h : CallOk M c a k) (hM : MLe M M') : CallOk M' c a k := ⟨h.sm.mono hM, h.cap, h.big, h.ka, h.kb, h.kc⟩
abbrev clV (c : CL) (a : Option Addr) (k : Nat) : Value := .agg [.int .u8 c.kind, .string c.path, .string c.other, .int .i64 c.a, .int .i64 c.b, .int .i64 c.c, .slice a c.data.length k].toArray
def Nms (v : Value) (R : Lc) (l : List Str) : Prop := Own v R 9 1 l.length (l.map Value.string)
def OpP (b : Nat) (r : PS × RP) (u : Value) (M' : Mem) (L' : Lc) : Prop := ∃ (S' : CS) (dv nv : Value) (R1 R2 : Lc), (S'.Ok ∧ S'.b = b) ∧ S'.abs = r.1 ∧ u = .agg (rpc r.2 dv nv).toArray ∧ Byt dv R1 r.2.data ∧ Nms nv R2 r.2.names ∧ L' = S'.own ++ (R1 ++ R2)
theorem setX_blk {S : CS} {vol id : Int} {x : CF} : (S.setX vol id x).b = S.b := by unfold CS.setX; split <;> rfl
theorem setV_blk {S : CS} {vol : Int} {v : CV} : (S.setV vol v).b = S.b := rfl
theorem Byt.form {v : Value} {R : Lc} {xs : List By} (h : Byt v R xs) : ∃ a c, v = .slice a xs.length c := by
 rcases h with ⟨rfl, _, rfl⟩ | ⟨g, cap, cur, rfl, _⟩
 ·exact ⟨none, 0, rfl⟩
 exact ⟨_, cap, rfl⟩
theorem Nms.nform {v : Value} {R : Lc} {l : List Str} (h : Nms v R l) : ∃ a c, v = .slice a l.length c := by
 rcases h.2 with ⟨rfl, h0, _⟩ | ⟨g, cap, cur, rfl, _⟩
 ·exact ⟨none, 0, by rw [h0]⟩
 exact ⟨_, cap, rfl⟩
theorem Byt.nil : Byt (.slice none 0 0) [] [] := .inl ⟨rfl, rfl, rfl⟩
theorem Nms.nil : Nms (.slice none 0 0) [] [] := Own.nil _ _
theorem OpP.plain {S' : CS} {b : Nat} {r : PS × RP} {M' : Mem} {L' : Lc} (h : S'.Ok) (h1 : S'.abs = r.1) (h2 : r.2.data = []) (h3 : r.2.names = []) (hL : L' = S'.own) (hb : S'.b = b := by first | rfl | simp only [setX_blk, setV_blk]) : OpP b r (rp0 r.2) M' L' :=
 ⟨S', _, _, [], [], ⟨h, hb⟩, h1, rfl, by rw [h2]; exact Byt.nil, by rw [h3]; exact Nms.nil, by rw [hL]; simp⟩
end Go.Proofs.YtokljhkplbkggaaGreatDoor
