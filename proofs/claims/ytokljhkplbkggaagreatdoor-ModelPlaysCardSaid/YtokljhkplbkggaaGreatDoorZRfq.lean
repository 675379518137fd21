/- Walks: calls are played, and the bytes that they tell are still one's own. -/
import Derived.Test.YtokljhkplbkggaaGreatDoorZRfn
import Derived.Test.YtokljhkplbkggaaGreatDoorZPlay
namespace Go.Proofs.YtokljhkplbkggaaGreatDoor
set_option linter.unusedSimpArgs false
set_option linter.unusedVariables false
set_option linter.unusedSectionVars false
open Go.RowKit Go.MapKept
noncomputable def plL (qs : List QC) : List RP := if qs.length ≤ 64 then (wKj insB wAy PS0 (qs.map (·.1))).2 else []
def plE (qs : List QC) : Int := if qs.length ≤ 64 then 0 else 4
theorem plL_len (qs : List QC) : (plL qs).length ≤ 64 := by
 unfold plL
 split
 ·rw [wLe, List.length_map]; assumption
 exact Nat.zero_le _
theorem plL_few {qs : List QC} (h : qs.length ≤ 64) : plL qs = (wKj insB wAy PS0 (qs.map (·.1))).2 := by unfold plL; rw [if_pos h]
theorem plE_few {qs : List QC} (h : qs.length ≤ 64) : plE qs = 0 := by unfold plE; rw [if_pos h]
theorem plL_many {qs : List QC} (h : 64 < qs.length) : plL qs = [] := by unfold plL; rw [if_neg (by omega)]
theorem plE_many {qs : List QC} (h : 64 < qs.length) : plE qs = 4 := by unfold plE; rw [if_neg (by omega)]
def PlP (qs : List QC) (u : Value) (M' : Mem) (L' : Lc) : Prop := (∃ a c ps, u = .tuple #[.slice a ps.length c, .int .i64 (plE qs)] ∧ ps.length ≤ c ∧ c ≤ maxLen ∧ ps.map (·.1) = plL qs ∧ RsP M' a ps) ∧ L' = []
theorem PlP.no {qs : List QC} {M : Mem} (h : 64 < qs.length) : PlP qs (.tuple #[.slice none 0 0, .int .i64 4]) M [] :=
 ⟨⟨none, 0, [], by rw [plE_many h]; rfl, Nat.le_refl _, Nat.zero_le _, by rw [plL_many h]; rfl, .inl rfl, fun _ h => by cases h⟩, rfl⟩
structure RPlI (qs : List QC) (M : Mem) (z : Nat × Mem × GS × Value × Lc × List QR) : Prop where
 le : z.1 ≤ qs.length
 mem : MLe M z.2.1
 ok : z.2.2.1.Ok z.2.1
 st : z.2.2.1.abs = (wKj insB wAy PS0 ((qs.map (·.1)).take z.1)).1
 own : Own z.2.2.2.1 z.2.2.2.2.1 30 8 z.1 (z.2.2.2.2.2.flatMap rF)
 rp : z.2.2.2.2.2.map (·.1) = (wKj insB wAy PS0 ((qs.map (·.1)).take z.1)).2
 rs : ∀ p ∈ z.2.2.2.2.2, BsP z.2.1 p.2.1 p.1.data ∧ NsP z.2.1 p.2.2 p.1.names
theorem rplay_many (qs : List QC) (la : Option Addr) (lc : Nat) (M : Mem) (h : 64 < qs.length) (hb : qs.length ≤ 1000000000) :
  SpecL Tryz.prog 6 #[.slice la qs.length lc] M [] (PlP qs) := by
 refine wAe (vs := [_]) 33 _ Tryz.func6 rfl Tryz.ntmps6 rfl rfl ?_; intro W
 refine wAb (wAa (jp rfl (jp rfl (wAc (jT (wAb (wAb (wAa (jp rfl (lq (wCd rfl rfl rfl) ?_))))))))))
 refine jt rfl (decide_eq_true (by omega)) ?_
 refine wAc (jT (wAf rfl (wAb (wAa (jp rfl (jp rfl (wAc (jT (wAg (jTr (jr2 rfl rfl rfl ?_)))))))))))
 exact PlP.no h
set_option maxHeartbeats 4000000 in
theorem rplay_few (qs : List QC) (la : Option Addr) (lc : Nat) (M : Mem) (hL : CsP M la qs) (h : qs.length ≤ 64) (hwf : ∀ k, k ≤ qs.length → WFS k (wKj insB wAy PS0 ((qs.map (·.1)).take k)).1) :
  SpecL Tryz.prog 6 #[.slice la qs.length lc] M [] (PlP qs) := by
 refine wAe (vs := [_]) 33 _ Tryz.func6 rfl Tryz.ntmps6 rfl rfl ?_; intro W
 refine wAb (wAa (jp rfl (jp rfl (wAc (jT (wAb (wAb (wAa (jp rfl (lq (wCd rfl rfl rfl) ?_))))))))))
 refine jf rfl (decide_eq_false (by omega)) ?_
 refine wAc (jT (wAh rfl (wAd (jT (wAb (wAa (sAl rfl fun b4 => ?_)))))))
 refine wAc (jT (wAb (wAa (jp rfl (wAc (jT (wAb (wAb (wAa (jp rfl (wAc (jT (wAk ?_)))))))))))))
 refine wBr (α := Nat × Mem × GS × Value × Lc × List QR) (fun z => [(0, .slice la qs.length lc), (4, pt b4), (5, z.2.2.2.1), (6, .int .i64 z.1)]) (fun z => z.2.1) (fun z => (b4, .cells (gsC z.2.2.1).toArray 53 (0, 0)) :: z.2.2.2.2.1) (fun z => RPlI qs M z) (fun z => qs.length - z.1)
  (0, M, ({ made := 0, vols := [], va := none, vc := 0 } : GS), .slice none 0 0, [], []) (.cons (t := 0) rfl (.cons (t := 4) rfl (.cons (t := 5) rfl (.cons (t := 6) rfl .nil)))) ⟨Nat.zero_le _, MLe.refl _, GS.Ok.zero _, rfl, Own.nil _ _, rfl, fun _ h => by cases h⟩ (fun _ h => h) ?_
 rintro ⟨k, Mk, Gk, out, R, ps⟩ hI
 try dsimp only
 refine wAb (wAb (wAa (jp rfl (jp rfl (lq (wCd rfl rfl rfl) ?_)))))
 refine js rfl (fun h15 => ?_) (fun h15 => ?_)
 ·refine wAc (jT (wAf rfl (wAd (jT (wAb (wAk (wAb (jc_drawA ([(b4, .cells (gsC Gk).toArray 53 (0, 0))]) (by kernel_rfl) (by simp) ?_))))))))
  refine ja_q (i := 0) rfl (by kernel_rfl) (by kernel_rfl) rfl rfl (qLdL rfl rfl rfl rfl rfl) ?_
  refine ja_p (i := 1) rfl (by kernel_rfl) (by kernel_rfl) rfl ?_
  refine ja_p (i := 2) rfl (by kernel_rfl) (by kernel_rfl) rfl ?_
  have hk1 : k < qs.length := by omega
  have hkl : k < (qs.map (·.1)).length := by rw [List.length_map]; exact hk1
  obtain ⟨qb, qo, e0, hx⟩ := wJd cF_len (hL.1.mono hI.mem) hk1 (by omega)
  subst e0
  obtain ⟨hC, hz1, hz2⟩ := hL.2 qs[k] (List.getElem_mem hk1)
  have hcl : (qs.map (·.1))[k] = qs[k].1 := by rw [List.getElem_map]
  have hwk : WFS k Gk.abs := by have := hI.st; simp only at this; rw [this]; exact hwf k (by omega)
  refine ja_q (i := 3) rfl (by kernel_rfl) (by kernel_rfl) rfl rfl (wEn rfl rfl rfl rfl (by omega)) ?_
  refine ja_q (i := 4) rfl (by kernel_rfl) (by kernel_rfl) rfl rfl (wFt (cs := wDa qs[k].1 qs[k].2.1 qs[k].2.2) rfl rfl rfl rfl rfl (fun j v hv => by rw [Int.toNat_natCast]; exact (hx j v hv).cj _)) ?_
  refine ja_merge (α := Mem × GS × Value × Value × Nat × Nat) (fun y => MLe Mk y.1 ∧ y.2.1.Ok y.1 ∧ y.2.1.abs = (doI insB wAy Gk.abs qs[k].1).1 ∧ BsP y.1 y.2.2.1 (doI insB wAy Gk.abs qs[k].1).2.data ∧ NsP y.1 y.2.2.2.1 (doI insB wAy Gk.abs qs[k].1).2.names) (fun y => [(0, .slice (some ⟨qb, qo, none⟩) qs.length lc), (4, pt b4), (5, out), (6, .int .i64 k), (7, pt y.2.2.2.2.1), (8, pt y.2.2.2.2.2), (25, gsV y.2.1), (26, .agg (rpc (doI insB wAy Gk.abs qs[k].1).2 y.2.2.1 y.2.2.2.1).toArray)]) (fun y => y.1) (fun y => (y.2.2.2.2.2, .cells [Value.int .i64 0, .int .i64 0, .slice none 0 0, .slice none 0 0, .int .u32 0, .bool false, .int .i64 0, .int .i64 0].toArray 30 (0, 0)) :: (y.2.2.2.2.1, .cells [Value.int .i64 0, .slice none 0 0].toArray 53 (0, 0)) :: (b4, .cells (gsC Gk).toArray 53 (0, 0)) :: R) 2 #[true, true, true, true, true, true, true, true, true, true, true, false, false] ?_ (fun rest => ?_)
  ·rintro ⟨M2, g2, dv2, nv2, b7, b8⟩ ⟨hMr, hg2, e2, hbs2, hns2⟩
   try dsimp only at hMr hg2 e2 hbs2 hns2 ⊢
   obtain ⟨da2, dc2, rfl, hd1, hd2, hd3⟩ := hbs2
   obtain ⟨na2, nc2, rfl, hn1, hn2, hn3⟩ := hns2
   refine ja_one (i := 11) (by kernel_rfl) ?_
   refine js_s rfl rfl (wBw rfl rfl rfl rfl rfl rfl rfl rfl) ?_; rintro _ _ _ ⟨rfl, rfl⟩
   refine wDb hMr (by simp) ?_
   refine ja_one (i := 12) (by kernel_rfl) ?_
   refine js_s rfl rfl (wBw rfl rfl rfl rfl rfl rfl rfl rfl) ?_; rintro _ _ _ ⟨rfl, rfl⟩
   refine wDb hMr (by simp) ?_
   refine ja_end (by kernel_rfl) ?_
   refine jPn (jT (wAb (wAa (sLL rfl ?_))))
   refine sSt rfl ?_
   refine wAc (jT (wAa (jp rfl (sLL rfl ?_))))
   refine wCe rfl rfl (wBt (cs := [_, _, _, _, _, _, _, _]) rfl rfl rfl (by rfl) (by rfl) (by rfl)) ?_; rintro _ _ _ ⟨b30, rfl, rfl, rfl⟩
   refine wCe rfl rfl (wDt (R := R) (news := rF (((doI insB wAy Gk.abs qs[k].1).2, .slice da2 (doI insB wAy Gk.abs qs[k].1).2.data.length dc2, .slice na2 (doI insB wAy Gk.abs qs[k].1).2.names.length nc2) : QR)) rfl rfl rfl rfl hI.own rfl (fun j v hv => CJ.loc (by rw [Nat.zero_add]; unfold rF at hv; simpa using hv)) rfl rfl (fun u hu => List.all_eq_true.1 (rfl : ((rF (((doI insB wAy Gk.abs qs[k].1).2, .slice da2 (doI insB wAy Gk.abs qs[k].1).2.data.length dc2, .slice na2 (doI insB wAy Gk.abs qs[k].1).2.names.length nc2) : QR)).all fun v => v.oneCell') = true) u hu) (by omega) (by omega)) ?_; rintro out2 _ _ ⟨rfl, R3, rfl, hown2, _⟩
   refine jp rfl (wAc (jB (jT (wAa (jp rfl (ja rfl (by omega) ?_))))))
   refine jp rfl (wAc ?_)
   have hst : (wKj insB wAy PS0 ((qs.map (·.1)).take k)).1 = Gk.abs := hI.st.symm
   have hrt := runI_take (ins := insB) (part := wAy) (S := PS0) hkl
   rw [hcl, hst] at hrt
   refine wBu (k + 1, M2, g2, out2, R3, ps ++ [(((doI insB wAy Gk.abs qs[k].1).2, .slice da2 (doI insB wAy Gk.abs qs[k].1).2.data.length dc2, .slice na2 (doI insB wAy Gk.abs qs[k].1).2.names.length nc2) : QR)]) (.cons (t := 0) rfl (.cons (t := 4) rfl (.cons (t := 5) rfl (.cons (t := 6) rfl .nil)))) ⟨by show k + 1 ≤ qs.length; omega, hI.mem.trans hMr, hg2, ?_, ?_, ?_, ?_⟩ (by show qs.length - (k + 1) < qs.length - k; omega) (fun _ h => h.subC fun f => by simp only [gsC, List.map_append, List.map_cons, List.map_nil, List.sum_append, List.sum_cons, List.sum_nil]; omega)
   ·show g2.abs = _; rw [hrt, e2]
   ·show Own out2 R3 _ 8 (k + 1) ((ps ++ [(((doI insB wAy Gk.abs qs[k].1).2, .slice da2 (doI insB wAy Gk.abs qs[k].1).2.data.length dc2, .slice na2 (doI insB wAy Gk.abs qs[k].1).2.names.length nc2) : QR)]).flatMap rF); rw [List.flatMap_append, List.flatMap_cons, List.flatMap_nil, List.append_nil]; exact hown2
   ·show (ps ++ [(((doI insB wAy Gk.abs qs[k].1).2, .slice da2 (doI insB wAy Gk.abs qs[k].1).2.data.length dc2, .slice na2 (doI insB wAy Gk.abs qs[k].1).2.names.length nc2) : QR)]).map (·.1) = _; rw [hrt, List.map_append, hI.rp]; rfl
   intro p hp
   rcases List.mem_append.1 hp with hp | hp
   ·have := hI.rs p hp; exact ⟨this.1.mono hMr, this.2.mono hMr⟩
   rw [List.mem_singleton.1 hp]; exact ⟨⟨_, _, rfl, hd1, hd2, hd3⟩, ⟨_, _, rfl, hn1, hn2, hn3⟩⟩
  refine wEo [5, 9, 10] (by kernel_rfl) rfl ⟨?_, ?_, ?_, trivial⟩
  ·refine js_h rfl rfl rfl (hCl (wLf Gk k hwk (by omega) Mk hI.ok qs[k].1 qs[k].2.1 qs[k].2.2 (hC.mono hI.mem))) ?_; rintro _ M2 _ ⟨hM5, R9, rfl, ⟨g2, dv2, nv2, rfl, hg2, e2, hbs2, hns2, rfl⟩⟩
   refine wDb (hM5) (by simp) ?_
   simp only [nA]
   refine ja_p (i := 6) rfl (by kernel_rfl) (by kernel_rfl) rfl ?_
   refine ja_p (i := 7) rfl (by kernel_rfl) (by kernel_rfl) rfl ?_
   refine ja_p (i := 8) rfl (by kernel_rfl) (by kernel_rfl) rfl ?_
   refine wEo [9, 10] (by kernel_rfl) rfl ⟨?_, ?_, trivial⟩
   ·refine js_h rfl rfl rfl (wGe rfl rfl) ?_; rintro _ _ _ ⟨b7, rfl, rfl, rfl⟩
    refine wDb (by first | exact MLe.refl _ | exact hM5) (by simp) ?_
    refine wEo [10] (by kernel_rfl) rfl ⟨?_, trivial⟩
    refine js_h rfl rfl rfl (wGe rfl rfl) ?_; rintro _ _ _ ⟨b8, rfl, rfl, rfl⟩
    refine wDb (by first | exact MLe.refl _ | exact hM5) (by simp) ?_
    refine wJa (listed' := #[true, true, true, true, true, true, true, true, true, true, true, false, false]) (by kernel_rfl) (wHy (.cons (t := 0) rfl (.cons (t := 4) rfl (.cons (t := 5) rfl (.cons (t := 6) rfl (.cons (t := 7) rfl (.cons (t := 8) rfl (.cons (t := 25) rfl (.cons (t := 26) rfl .nil)))))))) ?_)
    refine wHx (M2 := M2) (L2 := (b8, .cells [Value.int .i64 0, .int .i64 0, .slice none 0 0, .slice none 0 0, .int .u32 0, .bool false, .int .i64 0, .int .i64 0].toArray 30 (0, 0)) :: (b7, .cells [Value.int .i64 0, .slice none 0 0].toArray 53 (0, 0)) :: (b4, .cells (gsC Gk).toArray 53 (0, 0)) :: R) (fun w h => h.perm (wJq fun f => by simp only [List.getElem_toArray, List.getElem_cons_zero, List.getElem_cons_succ, List.map_append, List.map_cons, List.map_nil, List.sum_append, List.sum_cons, List.sum_nil] <;> omega)) hM5 (by simp) ?_
    exact rest (M2, g2, dv2, nv2, b7, b8) ⟨hM5, hg2, e2, hbs2, hns2⟩
   refine js_h rfl rfl rfl (wGe rfl rfl) ?_; rintro _ _ _ ⟨b8, rfl, rfl, rfl⟩
   refine wDb (by first | exact MLe.refl _ | exact hM5) (by simp) ?_
   refine wEo [9] (by kernel_rfl) rfl ⟨?_, trivial⟩
   refine js_h rfl rfl rfl (wGe rfl rfl) ?_; rintro _ _ _ ⟨b7, rfl, rfl, rfl⟩
   refine wDb (by first | exact MLe.refl _ | exact hM5) (by simp) ?_
   refine wJa (listed' := #[true, true, true, true, true, true, true, true, true, true, true, false, false]) (by kernel_rfl) (wHy (.cons (t := 0) rfl (.cons (t := 4) rfl (.cons (t := 5) rfl (.cons (t := 6) rfl (.cons (t := 7) rfl (.cons (t := 8) rfl (.cons (t := 25) rfl (.cons (t := 26) rfl .nil)))))))) ?_)
   refine wHx (M2 := M2) (L2 := (b8, .cells [Value.int .i64 0, .int .i64 0, .slice none 0 0, .slice none 0 0, .int .u32 0, .bool false, .int .i64 0, .int .i64 0].toArray 30 (0, 0)) :: (b7, .cells [Value.int .i64 0, .slice none 0 0].toArray 53 (0, 0)) :: (b4, .cells (gsC Gk).toArray 53 (0, 0)) :: R) (fun w h => h.perm (wJq fun f => by simp only [List.getElem_toArray, List.getElem_cons_zero, List.getElem_cons_succ, List.map_append, List.map_cons, List.map_nil, List.sum_append, List.sum_cons, List.sum_nil] <;> omega)) hM5 (by simp) ?_
   exact rest (M2, g2, dv2, nv2, b7, b8) ⟨hM5, hg2, e2, hbs2, hns2⟩
  ·refine js_h rfl rfl rfl (wGe rfl rfl) ?_; rintro _ _ _ ⟨b7, rfl, rfl, rfl⟩
   refine wDb (by first | exact MLe.refl _ | exact hM5) (by simp) ?_
   refine wEo [5, 10] (by kernel_rfl) rfl ⟨?_, ?_, trivial⟩
   ·refine js_h rfl rfl rfl (hCl (wLf Gk k hwk (by omega) Mk hI.ok qs[k].1 qs[k].2.1 qs[k].2.2 (hC.mono hI.mem))) ?_; rintro _ M2 _ ⟨hM5, R9, rfl, ⟨g2, dv2, nv2, rfl, hg2, e2, hbs2, hns2, rfl⟩⟩
    refine wDb (hM5) (by simp) ?_
    simp only [nA]
    refine ja_p (i := 6) rfl (by kernel_rfl) (by kernel_rfl) rfl ?_
    refine ja_p (i := 7) rfl (by kernel_rfl) (by kernel_rfl) rfl ?_
    refine ja_p (i := 8) rfl (by kernel_rfl) (by kernel_rfl) rfl ?_
    refine wEo [10] (by kernel_rfl) rfl ⟨?_, trivial⟩
    refine js_h rfl rfl rfl (wGe rfl rfl) ?_; rintro _ _ _ ⟨b8, rfl, rfl, rfl⟩
    refine wDb (by first | exact MLe.refl _ | exact hM5) (by simp) ?_
    refine wJa (listed' := #[true, true, true, true, true, true, true, true, true, true, true, false, false]) (by kernel_rfl) (wHy (.cons (t := 0) rfl (.cons (t := 4) rfl (.cons (t := 5) rfl (.cons (t := 6) rfl (.cons (t := 7) rfl (.cons (t := 8) rfl (.cons (t := 25) rfl (.cons (t := 26) rfl .nil)))))))) ?_)
    refine wHx (M2 := M2) (L2 := (b8, .cells [Value.int .i64 0, .int .i64 0, .slice none 0 0, .slice none 0 0, .int .u32 0, .bool false, .int .i64 0, .int .i64 0].toArray 30 (0, 0)) :: (b7, .cells [Value.int .i64 0, .slice none 0 0].toArray 53 (0, 0)) :: (b4, .cells (gsC Gk).toArray 53 (0, 0)) :: R) (fun w h => h.perm (wJq fun f => by simp only [List.getElem_toArray, List.getElem_cons_zero, List.getElem_cons_succ, List.map_append, List.map_cons, List.map_nil, List.sum_append, List.sum_cons, List.sum_nil] <;> omega)) hM5 (by simp) ?_
    exact rest (M2, g2, dv2, nv2, b7, b8) ⟨hM5, hg2, e2, hbs2, hns2⟩
   refine js_h rfl rfl rfl (wGe rfl rfl) ?_; rintro _ _ _ ⟨b8, rfl, rfl, rfl⟩
   refine wDb (by first | exact MLe.refl _ | exact hM5) (by simp) ?_
   refine wEo [5] (by kernel_rfl) rfl ⟨?_, trivial⟩
   refine js_h rfl rfl rfl (hCl (wLf Gk k hwk (by omega) Mk hI.ok qs[k].1 qs[k].2.1 qs[k].2.2 (hC.mono hI.mem))) ?_; rintro _ M2 _ ⟨hM5, R9, rfl, ⟨g2, dv2, nv2, rfl, hg2, e2, hbs2, hns2, rfl⟩⟩
   refine wDb (hM5) (by simp) ?_
   simp only [nA]
   refine ja_p (i := 6) rfl (by kernel_rfl) (by kernel_rfl) rfl ?_
   refine ja_p (i := 7) rfl (by kernel_rfl) (by kernel_rfl) rfl ?_
   refine ja_p (i := 8) rfl (by kernel_rfl) (by kernel_rfl) rfl ?_
   refine wJa (listed' := #[true, true, true, true, true, true, true, true, true, true, true, false, false]) (by kernel_rfl) (wHy (.cons (t := 0) rfl (.cons (t := 4) rfl (.cons (t := 5) rfl (.cons (t := 6) rfl (.cons (t := 7) rfl (.cons (t := 8) rfl (.cons (t := 25) rfl (.cons (t := 26) rfl .nil)))))))) ?_)
   refine wHx (M2 := M2) (L2 := (b8, .cells [Value.int .i64 0, .int .i64 0, .slice none 0 0, .slice none 0 0, .int .u32 0, .bool false, .int .i64 0, .int .i64 0].toArray 30 (0, 0)) :: (b7, .cells [Value.int .i64 0, .slice none 0 0].toArray 53 (0, 0)) :: (b4, .cells (gsC Gk).toArray 53 (0, 0)) :: R) (fun w h => h.perm (wJq fun f => by simp only [List.getElem_toArray, List.getElem_cons_zero, List.getElem_cons_succ, List.map_append, List.map_cons, List.map_nil, List.sum_append, List.sum_cons, List.sum_nil] <;> omega)) hM5 (by simp) ?_
   exact rest (M2, g2, dv2, nv2, b7, b8) ⟨hM5, hg2, e2, hbs2, hns2⟩
  refine js_h rfl rfl rfl (wGe rfl rfl) ?_; rintro _ _ _ ⟨b8, rfl, rfl, rfl⟩
  refine wDb (by first | exact MLe.refl _ | exact hM5) (by simp) ?_
  refine wEo [5, 9] (by kernel_rfl) rfl ⟨?_, ?_, trivial⟩
  ·refine js_h rfl rfl rfl (hCl (wLf Gk k hwk (by omega) Mk hI.ok qs[k].1 qs[k].2.1 qs[k].2.2 (hC.mono hI.mem))) ?_; rintro _ M2 _ ⟨hM5, R9, rfl, ⟨g2, dv2, nv2, rfl, hg2, e2, hbs2, hns2, rfl⟩⟩
   refine wDb (hM5) (by simp) ?_
   simp only [nA]
   refine ja_p (i := 6) rfl (by kernel_rfl) (by kernel_rfl) rfl ?_
   refine ja_p (i := 7) rfl (by kernel_rfl) (by kernel_rfl) rfl ?_
   refine ja_p (i := 8) rfl (by kernel_rfl) (by kernel_rfl) rfl ?_
   refine wEo [9] (by kernel_rfl) rfl ⟨?_, trivial⟩
   refine js_h rfl rfl rfl (wGe rfl rfl) ?_; rintro _ _ _ ⟨b7, rfl, rfl, rfl⟩
   refine wDb (by first | exact MLe.refl _ | exact hM5) (by simp) ?_
   refine wJa (listed' := #[true, true, true, true, true, true, true, true, true, true, true, false, false]) (by kernel_rfl) (wHy (.cons (t := 0) rfl (.cons (t := 4) rfl (.cons (t := 5) rfl (.cons (t := 6) rfl (.cons (t := 7) rfl (.cons (t := 8) rfl (.cons (t := 25) rfl (.cons (t := 26) rfl .nil)))))))) ?_)
   refine wHx (M2 := M2) (L2 := (b8, .cells [Value.int .i64 0, .int .i64 0, .slice none 0 0, .slice none 0 0, .int .u32 0, .bool false, .int .i64 0, .int .i64 0].toArray 30 (0, 0)) :: (b7, .cells [Value.int .i64 0, .slice none 0 0].toArray 53 (0, 0)) :: (b4, .cells (gsC Gk).toArray 53 (0, 0)) :: R) (fun w h => h.perm (wJq fun f => by simp only [List.getElem_toArray, List.getElem_cons_zero, List.getElem_cons_succ, List.map_append, List.map_cons, List.map_nil, List.sum_append, List.sum_cons, List.sum_nil] <;> omega)) hM5 (by simp) ?_
   exact rest (M2, g2, dv2, nv2, b7, b8) ⟨hM5, hg2, e2, hbs2, hns2⟩
  refine js_h rfl rfl rfl (wGe rfl rfl) ?_; rintro _ _ _ ⟨b7, rfl, rfl, rfl⟩
  refine wDb (by first | exact MLe.refl _ | exact hM5) (by simp) ?_
  refine wEo [5] (by kernel_rfl) rfl ⟨?_, trivial⟩
  refine js_h rfl rfl rfl (hCl (wLf Gk k hwk (by omega) Mk hI.ok qs[k].1 qs[k].2.1 qs[k].2.2 (hC.mono hI.mem))) ?_; rintro _ M2 _ ⟨hM5, R9, rfl, ⟨g2, dv2, nv2, rfl, hg2, e2, hbs2, hns2, rfl⟩⟩
  refine wDb (hM5) (by simp) ?_
  simp only [nA]
  refine ja_p (i := 6) rfl (by kernel_rfl) (by kernel_rfl) rfl ?_
  refine ja_p (i := 7) rfl (by kernel_rfl) (by kernel_rfl) rfl ?_
  refine ja_p (i := 8) rfl (by kernel_rfl) (by kernel_rfl) rfl ?_
  refine wJa (listed' := #[true, true, true, true, true, true, true, true, true, true, true, false, false]) (by kernel_rfl) (wHy (.cons (t := 0) rfl (.cons (t := 4) rfl (.cons (t := 5) rfl (.cons (t := 6) rfl (.cons (t := 7) rfl (.cons (t := 8) rfl (.cons (t := 25) rfl (.cons (t := 26) rfl .nil)))))))) ?_)
  refine wHx (M2 := M2) (L2 := (b8, .cells [Value.int .i64 0, .int .i64 0, .slice none 0 0, .slice none 0 0, .int .u32 0, .bool false, .int .i64 0, .int .i64 0].toArray 30 (0, 0)) :: (b7, .cells [Value.int .i64 0, .slice none 0 0].toArray 53 (0, 0)) :: (b4, .cells (gsC Gk).toArray 53 (0, 0)) :: R) (fun w h => h.perm (wJq fun f => by simp only [List.getElem_toArray, List.getElem_cons_zero, List.getElem_cons_succ, List.map_append, List.map_cons, List.map_nil, List.sum_append, List.sum_cons, List.sum_nil] <;> omega)) hM5 (by simp) ?_
  exact rest (M2, g2, dv2, nv2, b7, b8) ⟨hM5, hg2, e2, hbs2, hns2⟩
 refine wAc (jT (wAh rfl (wBx (jTx (jTx (jBx (jT (wAb ?_))))))))
 obtain rfl : k = qs.length := by have := hI.le; simp only at this; omega
 refine jc_own hI.own (by simp) ?_
 intro M9 a9 c9 hM9 e9 hc9 hs9
 dsimp only at e9; subst e9
 have hcm9 : c9 ≤ maxLen := by have := hI.own.capLe; simpa using this
 refine wAa (jp rfl (jp rfl (jp rfl (wAc (jT (wAg (wCv (L' := []) (List.nil_sublist _) ?_)))))))
 refine jr2 rfl rfl rfl ?_
 have hrp := hI.rp
 dsimp only at hrp
 rw [show (qs.map (·.1)).take qs.length = qs.map (·.1) from List.take_of_length_le (by rw [List.length_map]; exact Nat.le_refl _)] at hrp
 have hpl : ps.length = qs.length := by have := congrArg List.length hrp; rw [List.length_map, wLe, List.length_map] at this; exact this
 exact ⟨⟨_, _, ps, by rw [hpl, plE_few h], by rw [hpl]; exact hc9, hcm9, by rw [plL_few h]; exact hrp, hs9, fun p hp => ⟨(hI.rs p hp).1.mono hM9, (hI.rs p hp).2.mono hM9⟩⟩, rfl⟩
theorem rpart_no (s : Str) (M : Mem) (hp : wAy s = none) :
  SpecL Tryz.prog 9 #[.string s] M [] (PartP s) := by
 refine wAe (vs := [_]) 18 _ Tryz.func9 rfl Tryz.ntmps9 rfl rfl ?_; intro W
 refine wAb (wAa (jp rfl (jp rfl (jp rfl (wAc (jT (wAb (wAa (jp rfl (wCe rfl rfl (hCl (path_no s M hp)) ?_)))))))))); rintro _ M2 _ ⟨hM2, _, rfl, ⟨⟨pk, rfl⟩, rfl⟩⟩
 refine jp rfl (jp rfl (jp rfl (sAl rfl fun b5 => ?_)))
 refine sSt rfl ?_
 refine jp rfl (wAc (jT (wAb (wAb (wAa (jp rfl (jp rfl (wAc (jT (wAf rfl (wAb (wAa (jp rfl (jp rfl (jp rfl (wAc (jT (wAg (jTr (wCv (L' := []) (List.nil_sublist _) ?_))))))))))))))))))))
 refine jr3 rfl rfl rfl rfl ?_
 exact PartP.no hp
theorem rpart_yes (s : Str) (M : Mem) (w : Wy) (hp : wAy s = some w) :
  SpecL Tryz.prog 9 #[.string s] M [] (PartP s) := by
 refine wAe (vs := [_]) 18 _ Tryz.func9 rfl Tryz.ntmps9 rfl rfl ?_; intro W
 refine wAb (wAa (jp rfl (jp rfl (jp rfl (wAc (jT (wAb (wAa (jp rfl (wCe rfl rfl (hCl (wFk s M w hp)) ?_)))))))))); rintro _ M2 _ ⟨hM2, _, rfl, ⟨⟨na, nc, rfl, hW⟩, rfl⟩⟩
 refine jp rfl (jp rfl (jp rfl (sAl rfl fun b5 => ?_)))
 refine sSt rfl ?_
 refine jp rfl (wAc (jT (wAb (wAb (wAa (jp rfl (jp rfl (wAc (jT (wAh rfl (wAd (jT (wAb (wCw [(0, true), (1, true), (2, true), (3, true), (4, true), (5, true), (6, true)] [(b5, .cells [.int .i64 w.1, .slice na w.2.length nc].toArray 65 (0, 0))] (by simp) ?_))))))))))))))
 refine dFa rfl rfl ?_
 refine dLd rfl rfl ?_
 refine dFa rfl rfl ?_
 refine dLd rfl rfl ?_
 iterate 3 refine dp rfl rfl ?_
 refine wAs (jPn (jT (wAg (wCv (L' := []) (List.nil_sublist _) ?_))))
 refine jr3 rfl rfl rfl rfl ?_
 unfold PartP; rw [hp]; exact ⟨⟨na, nc, rfl, hW⟩, rfl⟩
theorem rpart_spec (s : Str) (M : Mem) : SpecL Tryz.prog 9 #[.string s] M [] (PartP s) := by
 cases hp : wAy s with
 | none => exact rpart_no s M hp
 | some w => exact rpart_yes s M w hp
theorem rplay_spec (qs : List QC) (la : Option Addr) (lc : Nat) (M : Mem) (hL : qs.length ≤ 64 → CsP M la qs) (hb : qs.length ≤ 1000000000) : SpecL Tryz.prog 6 #[.slice la qs.length lc] M [] (PlP qs) := by
 by_cases h : qs.length ≤ 64
 ·exact rplay_few qs la lc M (hL h) h fun k hk => play_wfs (qs.map (·.1)) k (by rw [List.length_map]; exact hk)
 exact rplay_many qs la lc M (by omega) hb
abbrev QO := QR × Lc
abbrev rG (p : QO) : List Value := rF p.1
theorem rG_len (p : QO) : (rG p).length = 8 := rfl
abbrev dtL (ps : List QO) : Lc := ps.flatMap (·.2)
def PlO (qs : List QC) (u : Value) (M' : Mem) (L' : Lc) : Prop := ∃ a c ps, u = .tuple #[.slice a ps.length c, .int .i64 (plE qs)] ∧ ps.length ≤ c ∧ c ≤ maxLen ∧ ps.map (·.1.1) = plL qs ∧ SM M' a (ps.flatMap rG) ∧ (∀ p ∈ ps, Byt p.1.2.1 p.2 p.1.1.data ∧ NsP M' p.1.2.2 p.1.1.names) ∧ L' = dtL ps
theorem PlO.no {qs : List QC} {M : Mem} (h : 64 < qs.length) : PlO qs (.tuple #[.slice none 0 0, .int .i64 4]) M [] :=
 ⟨none, 0, [], by rw [plE_many h]; rfl, Nat.le_refl _, Nat.zero_le _, by rw [plL_many h]; rfl, .inl rfl, (fun _ h => by cases h), rfl⟩
structure PlJ (qs : List QC) (b13 : Nat) (M : Mem) (z : Nat × Mem × CS × Value × Lc × List QO) : Prop where
 le : z.1 ≤ qs.length
 mem : MLe M z.2.1
 ok : z.2.2.1.Ok
 blk : z.2.2.1.b = b13
 st : z.2.2.1.abs = (wKj insB wAy PS0 ((qs.map (·.1)).take z.1)).1
 own : Own z.2.2.2.1 z.2.2.2.2.1 30 8 z.1 (z.2.2.2.2.2.flatMap rG)
 rp : z.2.2.2.2.2.map (·.1.1) = (wKj insB wAy PS0 ((qs.map (·.1)).take z.1)).2
 rs : ∀ p ∈ z.2.2.2.2.2, Byt p.1.2.1 p.2 p.1.1.data ∧ NsP z.2.1 p.1.2.2 p.1.1.names
theorem mplay_many (qs : List QC) (la : Option Addr) (lc : Nat) (M : Mem) (h : 64 < qs.length) (hb : qs.length ≤ 1000000000) :
  SpecL Tryz.prog 5 #[.slice la qs.length lc] M [] fun u _ L' => u = .tuple #[.slice none 0 0, .int .i64 4] ∧ L' = [] := by
 refine wAe (vs := [_]) 28 _ Tryz.func5 rfl Tryz.ntmps5 rfl rfl ?_; intro W
 refine wAb (wAa (jp rfl (jp rfl (wAc (jT (wAb (wAb (wAa (jp rfl (lq (wCd rfl rfl rfl) ?_))))))))))
 refine jt rfl (decide_eq_true (by omega)) ?_
 refine wAc (jT (wAf rfl (wAb (wAa (jp rfl (jp rfl (wAc (jT (wAg (jTr (jr2 rfl rfl rfl ?_)))))))))))
 exact ⟨rfl, rfl⟩
set_option maxHeartbeats 4000000 in
theorem play_own (qs : List QC) (la : Option Addr) (lc : Nat) (M : Mem) (hT : Tabs M) (hL : CsP M la qs) (h : qs.length ≤ 64) (hwf : ∀ k, k ≤ qs.length → WFS k (wKj insB wAy PS0 ((qs.map (·.1)).take k)).1) :
  SpecL Tryz.prog 5 #[.slice la qs.length lc] M [] (PlO qs) := by
 refine wAe (vs := [_]) 28 _ Tryz.func5 rfl Tryz.ntmps5 rfl rfl ?_; intro W
 refine wAb (wAa (jp rfl (jp rfl (wAc (jT (wAb (wAb (wAa (jp rfl (lq (wCd rfl rfl rfl) ?_))))))))))
 refine jf rfl (decide_eq_false (by omega)) ?_
 refine wAc (jT (wAh rfl (wAd (jT (wAb (wAa (wCe rfl rfl (wHp rfl rfl) ?_))))))); rintro _ _ _ ⟨b11, rfl, rfl, rfl⟩
 refine lq (wBe (cs := [_, _]) rfl rfl rfl (by rfl)) ?_
 refine sBx [_, _] rfl fun b13 => ?_
 refine jp rfl (wAc (jT (wAb (wAa (jp rfl (wAc (jT (wAb (wAb (wAa (jp rfl (lq (wCd rfl rfl rfl) ?_))))))))))))
 refine jp rfl (wAc (jT (wAk ?_)))
 refine wBr (α := Nat × Mem × CS × Value × Lc × List QO) (fun z => [(4, pt b13), (5, z.2.2.2.1), (14, .slice la qs.length lc), (15, .int .i64 qs.length), (16, .int .i64 z.1)]) (fun z => z.2.1) (fun z => z.2.2.1.own ++ (z.2.2.2.2.1 ++ dtL z.2.2.2.2.2)) (fun z => PlJ qs b13 M z) (fun z => qs.length - z.1)
  (0, M, ({ next := 0, b := b13, mb := b11, mo := .map #[] 0, vols := [] } : CS), .slice none 0 0, [], []) (.cons (t := 4) rfl (.cons (t := 5) rfl (.cons (t := 14) rfl (.cons (t := 15) rfl (.cons (t := 16) rfl .nil))))) ⟨Nat.zero_le _, MLe.refl _, ⟨MapOf.empty, fun _ h => by cases h⟩, rfl, rfl, Own.nil _ _, rfl, fun _ h => by cases h⟩ (fun _ h => h) ?_
 rintro ⟨k, Mk, Sk, out, R, ps⟩ hI
 have hb13 := hI.blk
 dsimp only at hb13 ⊢
 subst hb13
 refine wAb (wAa (js rfl (fun h17 => ?_) (fun h17 => ?_)))
 ·refine wAc (jT (wAb (wAf rfl (wAd (jT (wAb (wAk (wAb (wAa ?_)))))))))
  have hk1 : k < qs.length := by omega
  have hkl : k < (qs.map (·.1)).length := by rw [List.length_map]; exact hk1
  obtain ⟨qb, qo, e0, hx⟩ := wJd cF_len (hL.1.mono hI.mem) hk1 (by omega)
  subst e0
  obtain ⟨hC, hz1, hz2⟩ := hL.2 qs[k] (List.getElem_mem hk1)
  have hcl : (qs.map (·.1))[k] = qs[k].1 := by rw [List.getElem_map]
  have hwk : WFS k Sk.abs := by have := hI.st; simp only at this; rw [this]; exact hwf k (by omega)
  refine lq (wEn rfl rfl rfl rfl (by omega)) ?_
  refine lq (wFt (cs := wDa qs[k].1 qs[k].2.1 qs[k].2.2) rfl rfl rfl rfl rfl (fun j v hv => by rw [Int.toNat_natCast]; exact (hx j v hv).cj _)) ?_
  refine sAl rfl fun b7 => ?_
  refine sSt rfl ?_
  refine wAc (jT (wAa (jp rfl (jp rfl (sLL rfl ?_)))))
  refine wCe rfl rfl (hCl (do_spec Sk hI.ok k hwk (by omega) Mk (hT.mono hI.mem) qs[k].1 qs[k].2.1 qs[k].2.2 (hC.mono hI.mem) ⟨hz1, hz2⟩)) ?_; rintro _ M2 _ ⟨hM2, R9, rfl, ⟨S2, dv2, nv2, R1, R2, ⟨e1, eb⟩, e2, rfl, e3, e4, rfl⟩⟩
  obtain ⟨r, hr⟩ : ∃ r, (doI insB wAy Sk.abs qs[k].1).2 = r := ⟨_, rfl⟩
  rw [hr] at e3 e4 ⊢
  obtain ⟨da2, dc2, rfl⟩ := e3.form
  obtain ⟨na2, nc2, rfl, hnc2⟩ := Nms.cap e4
  simp only [List.append_assoc]
  refine jl_own e4 (by simp) ?_
  intro M4 na3 nc3 hM4 e5 hc5 hs5
  cases e5
  refine wCe rfl rfl (wBt (cs := [_, _, _, _, _, _, _, _]) rfl rfl rfl (by rfl) (by rfl) (by rfl)) ?_; rintro _ _ _ ⟨b24, rfl, rfl, rfl⟩
  refine wCe rfl rfl (wDt (R := R) (news := rF ((r, .slice da2 r.data.length dc2, .slice na2 r.names.length nc2) : QR)) rfl rfl rfl rfl hI.own rfl (fun j v hv => CJ.loc (by rw [Nat.zero_add]; unfold rF at hv; simpa using hv)) rfl rfl (fun u hu => List.all_eq_true.1 (rfl : ((rF ((r, .slice da2 r.data.length dc2, .slice na2 r.names.length nc2) : QR)).all fun v => v.oneCell') = true) u hu) (by omega) (by omega)) ?_; rintro out2 _ _ ⟨rfl, R3, rfl, hown2, _⟩
  refine jp rfl (wAc (jB (jT (wAa (ja rfl (by omega) ?_)))))
  refine jp rfl (wAc ?_)
  have hst : (wKj insB wAy PS0 ((qs.map (·.1)).take k)).1 = Sk.abs := hI.st.symm
  have hrt := runI_take (ins := insB) (part := wAy) (S := PS0) hkl
  rw [hcl, hst] at hrt
  refine wBu (k + 1, M4, S2, out2, R3, ps ++ [((((r, .slice da2 r.data.length dc2, .slice na2 r.names.length nc2) : QR), R1) : QO)]) (.cons (t := 4) rfl (.cons (t := 5) rfl (.cons (t := 14) rfl (.cons (t := 15) rfl (.cons (t := 16) rfl .nil))))) ⟨by show k + 1 ≤ qs.length; omega, (hI.mem.trans hM2).trans hM4, e1, eb, ?_, ?_, ?_, ?_⟩ (by show qs.length - (k + 1) < qs.length - k; omega) (fun _ h => h.subC fun f => by simp only [dtL, List.map_append, List.map_cons, List.map_nil, List.flatMap_append, List.flatMap_cons, List.flatMap_nil, List.append_nil, List.sum_append, List.sum_cons, List.sum_nil]; omega)
  ·show S2.abs = _; rw [hrt, e2]
  ·show Own out2 R3 _ 8 (k + 1) ((ps ++ [((((r, .slice da2 r.data.length dc2, .slice na2 r.names.length nc2) : QR), R1) : QO)]).flatMap rG); rw [List.flatMap_append, List.flatMap_cons, List.flatMap_nil, List.append_nil]; exact hown2
  ·show (ps ++ [((((r, .slice da2 r.data.length dc2, .slice na2 r.names.length nc2) : QR), R1) : QO)]).map (·.1.1) = _; rw [hrt, List.map_append, hI.rp, hr]; rfl
  intro p hp
  rcases List.mem_append.1 hp with hp | hp
  ·have := hI.rs p hp; exact ⟨this.1, this.2.mono (hM2.trans hM4)⟩
  rw [List.mem_singleton.1 hp]; exact ⟨e3, ⟨_, _, rfl, hc5, hnc2, hs5⟩⟩
 refine wAc (jT (wAb (wAh rfl (wBx (jTx (jTx (jBx (jT (wAb ?_)))))))))
 obtain rfl : k = qs.length := by have := hI.le; simp only at this; omega
 refine jc_own hI.own (by simp) ?_
 intro M9 a9 c9 hM9 e9 hc9 hs9
 dsimp only at e9; subst e9
 have hcm9 : c9 ≤ maxLen := by have := hI.own.capLe; simpa using this
 refine wAa (jp rfl (jp rfl (jp rfl (wAc (jT (wAg (wCv (L' := dtL ps) (by first | exact List.sublist_append_right _ _ | simp) ?_)))))))
 refine jr2 rfl rfl rfl ?_
 have hrp := hI.rp
 dsimp only at hrp
 rw [show (qs.map (·.1)).take qs.length = qs.map (·.1) from List.take_of_length_le (by rw [List.length_map]; exact Nat.le_refl _)] at hrp
 have hpl : ps.length = qs.length := by have := congrArg List.length hrp; rw [List.length_map, wLe, List.length_map] at this; exact this
 exact ⟨_, _, ps, by rw [hpl, plE_few h], by rw [hpl]; exact hc9, hcm9, by rw [plL_few h]; exact hrp, hs9, fun p hp => ⟨(hI.rs p hp).1, (hI.rs p hp).2.mono hM9⟩, rfl⟩
theorem mplay_own (qs : List QC) (la : Option Addr) (lc : Nat) (M : Mem) (hT : Tabs M) (hL : qs.length ≤ 64 → CsP M la qs) (hb : qs.length ≤ 1000000000) : SpecL Tryz.prog 5 #[.slice la qs.length lc] M [] (PlO qs) := by
 by_cases h : qs.length ≤ 64
 ·exact play_own qs la lc M hT (hL h) h fun k hk => play_wfs (qs.map (·.1)) k (by rw [List.length_map]; exact hk)
 exact (mplay_many qs la lc M (by omega) hb).mono fun u M' L' ⟨e, e2⟩ => by rw [e, e2]; exact PlO.no (by omega)
theorem mplay_spec (qs : List QC) (la : Option Addr) (lc : Nat) (M : Mem) (hT : Tabs M) (hL : qs.length ≤ 64 → CsP M la qs) (hb : qs.length ≤ 1000000000) : SpecL Tryz.prog 5 #[.slice la qs.length lc] M [] (PlP qs) := by
 by_cases h : qs.length ≤ 64
 ·refine (play_few qs la lc M hT (hL h) h fun k hk => play_wfs (qs.map (·.1)) k (by rw [List.length_map]; exact hk)).mono fun u M' L' ⟨⟨a, c, ps, e, h1, h2, h3, h4⟩, h5⟩ => ⟨⟨a, c, ps, ?_, ?_, h2, by rw [plL_few h]; exact h3, h4⟩, h5⟩
  all_goals have hpl : ps.length = qs.length := by have := congrArg List.length h3; rw [List.length_map, wLe, List.length_map] at this; exact this
  ·rw [e, hpl, plE_few h]
  rw [hpl]; exact h1
 exact (mplay_many qs la lc M (by omega) hb).mono fun u M' L' ⟨e, e2⟩ => by rw [e, e2]; exact PlP.no (by omega)
end Go.Proofs.YtokljhkplbkggaaGreatDoor
