/- Walks: the law that the replies are the document's. -/
import Derived.Test.YtokljhkplbkggaaGreatDoorZRfq
import Derived.Test.YtokljhkplbkggaaGreatDoorZRfg
import Derived.Test.YtokljhkplbkggaaGreatDoorZSame
namespace Go.Proofs.YtokljhkplbkggaaGreatDoor
set_option linter.unusedVariables false
set_option linter.unusedSectionVars false
set_option linter.unusedSimpArgs false
open Go.RowKit Go.MapKept
section
variable {P : Program} {ops : Array Oper} {N : Fs} {F : Fr} {M : Mem} {L : Lc} {o : Oper}
theorem qNeB {x y : Operand} {t t' : TypeId} {a b : Bool} (hg : gd ops F o = some true) (ho : o.op = .binOp .neq t x y t') (hx : ev F x = some (.bool a)) (hy : ev F y = some (.bool b)) [ht : Und P t .bool] : QF P ops N F M L o (.bool (!(a == b))) := wDw hg fun ac ha w _ => by
 have : (binOp .neq t (.bool a) (.bool b)).run P w = .ok (.bool (!(a == b))) w := by
  show ((do pure (.bool (!(← Op.equal t (.bool a) (.bool b)))) : Sem Value)).run P w = _
  rw [Sem.run_bind, show (Op.equal t (.bool a) (.bool b)).run P w = .ok (a == b) w from run_equalIn_bool' w 9999 t a b ht.h]; rfl
 simp only [execOp, ho, ha.ev hx, ha.ev hy]
 simp [eqGuard, this]
theorem qAkW {op : BinOp} {xT yT : TypeId} {x y : Operand} {k : IntKind} {a b r : Int} (hg : gd ops F o = some true) (ho : o.op = .binOp op xT x y yT) (hx : ev F x = some (.int k a)) (hy : ev F y = some (.int k b))
  (hr : ar op a b = some r) : QF P ops N F M L o (.int k (k.wrap r)) := wDw hg fun ac ha w _ => by
 simp only [execOp, ho, ha.ev hx, ha.ev hy]
 unfold ar at hr
 split at hr <;> first | cases hr | skip
 all_goals simp [eqGuard, binOp, Op.intArith]
end
theorem u8_inc (x : By) : IntKind.u8.wrap ((x.toNat : Int) + 1) = ((x + 1).toNat : Int) := by
 rw [IntKind.wrap_u8, UInt8.toNat_add]
 have := x.toNat_lt
 show _ = (((x.toNat + 1) % 256 : Nat) : Int)
 omega
theorem Byt.bsp {v : Value} {R : Lc} {xs : List By} {Mx : Mem} (h : Byt v R xs) (hin : ∀ p ∈ R, Mx p.1 = some p.2) : BsP Mx v xs := by
 rcases h with ⟨rfl, rfl, rfl⟩ | ⟨g, cap, cur, rfl, rfl, h1, h2, h3, h4⟩
 ·exact BsP.nil
 refine ⟨_, cap, rfl, h1, h3, .inr ⟨g, 0, rfl, fun i u hu => ⟨cur, _, (0, 0), hin _ (List.mem_singleton.2 rfl), ?_⟩⟩⟩
 rw [← h4, List.getElem?_take] at hu
 split at hu
 ·simpa using hu
 cases hu
theorem Byt.opn {v : Value} {R : Lc} {xs : List By} (h : Byt v R xs) (hn : 0 < xs.length) : ∃ g cap sp, v = .slice (some ⟨g, 0, none⟩) xs.length cap ∧ R = [(g, .cells (wAn xs ++ sp).toArray 5 (0, 0))] ∧ xs.length ≤ cap ∧ cap ≤ (wAn xs ++ sp).length ∧ cap ≤ maxLen := by
 rcases h with ⟨_, _, rfl⟩ | ⟨g, cap, cur, rfl, rfl, h1, h2, h3, h4⟩
 ·exact absurd hn (Nat.lt_irrefl 0)
 have e : wAn xs ++ cur.toList.drop xs.length = cur.toList := by rw [← h4, List.take_append_drop]
 exact ⟨g, cap, cur.toList.drop xs.length, rfl, by rw [e], h1, by rw [e]; simpa using h2, h3⟩
theorem Byt.mk' {g cap : Nat} {sp : List Value} {xs ys : List By} {n : Nat} (hl : ys.length = xs.length) (hn : n = ys.length) (h1 : xs.length ≤ cap) (h2 : cap ≤ (wAn xs ++ sp).length) (h3 : cap ≤ maxLen) : Byt (.slice (some ⟨g, 0, none⟩) n cap) [(g, .cells (wAn ys ++ sp).toArray 5 (0, 0))] ys := by
 subst hn
 refine .inr ⟨g, cap, (wAn ys ++ sp).toArray, rfl, rfl, by omega, ?_, h3, ?_⟩
 ·rw [List.length_append, wBd] at h2
  simp only [List.size_toArray, List.length_append, wBd]; omega
 exact List.take_left' (wBd ys)
theorem inc_cells {xs : List By} {sp : List Value} {k : Nat} (h : k < xs.length) : (wAn xs ++ sp).take (0 + ((k : Int)).toNat * 1) ++ [Value.int .u8 ((xs[k] + 1).toNat : Int)] ++ (wAn xs ++ sp).drop (0 + ((k : Int)).toNat * 1 + 1) = wAn (xs.set k (xs[k] + 1)) ++ sp := by
 rw [Int.toNat_natCast, Nat.mul_one, Nat.zero_add]
 have hk : k < (wAn xs ++ sp).length := by rw [List.length_append, wBd]; omega
 have e := List.set_eq_take_append_cons_drop (l := wAn xs ++ sp) (i := k) (a := Value.int .u8 ((xs[k] + 1).toNat : Int))
 rw [if_pos hk] at e
 rw [List.append_assoc]
 refine Eq.trans e.symm ?_
 rw [List.set_append_left _ _ (by rw [wBd]; exact h)]
 unfold wAn
 rw [List.map_set]
def prV (s : Str) : Int := match wAy s with | none => 0 | some w => w.1
def prN (s : Str) : List Str := match wAy s with | none => [] | some w => w.2
def prE (s : Str) : Int := match wAy s with | none => 270 | some w => 0
theorem PartP.one {s : Str} {u : Value} {M' : Mem} {L' : Lc} (h : PartP s u M' L') : ∃ a c, u = .tuple #[.int .i64 (prV s), .slice a (prN s).length c, .int .i64 (prE s)] ∧ NsQ M' (.slice a (prN s).length c) (prN s) ∧ L' = [] := by
 unfold prV prN prE
 rcases h.cases with ⟨h1, h2, h3⟩ | ⟨w, a, c, h1, h2, h3, h4⟩
 ·rw [h1]; exact ⟨none, 0, h2, NsQ.nil, h3⟩
 rw [h1]; exact ⟨a, c, h2, ⟨a, c, rfl, by have := h3.big; unfold maxLen; show w.2.length ≤ _; omega, h3.sn⟩, h4⟩
theorem dt_drop {ps : List QO} {i : Nat} (h : i < ps.length) {p : QO} (hp : ps[i] = p) : dtL (ps.drop i) = p.2 ++ dtL (ps.drop (i + 1)) := by
 unfold dtL; rw [List.drop_eq_getElem_cons h, List.flatMap_cons, hp]
set_option maxHeartbeats 8000000 in
theorem modelPlays_spec (qs : List QC) (la : Option Addr) (lc : Nat) (s : Str) (ro : RP) (od on : Value) (M : Mem) (hT : Tabs M) (hL : CsR M la qs) (hc : qs.length ≤ lc) (hc2 : lc ≤ maxLen) (hod : BsP M od ro.data) (hon : NsP M on ro.names) :
  SpecL Tryz.prog 3 #[.slice la qs.length lc, .string s, .agg (rpc ro od on).toArray] M [] fun u _ L' => u = .bool true ∧ L' = [] := by
 have hml : maxLen = 9223372036854775807 := by unfold maxLen; rfl
 obtain ⟨oda, odc, rfl, o1, o2, o3⟩ := hod
 obtain ⟨ona, onc, rfl, o4, o5, o6⟩ := hon
 refine wAe (vs := [_, _, _]) 165 _ Tryz.func3 rfl Tryz.ntmps3 rfl rfl ?_; intro W
 refine wAb (wAa (sBx [_, _, _, _, _, _, _, _] rfl fun b5 => ?_))
 refine jp rfl (wAc (jT (wAb (wAb (wAa (jp rfl (wCe rfl rfl (hCl (great_spec qs la lc 40 M hL hc hc2)) ?_))))))); rintro _ M1 _ ⟨hM1, _, rfl, ⟨⟨g1, rfl, hg1⟩, rfl⟩⟩
 refine jsb rfl (fun h25 => ?_) (fun h25 => ?_)
 ·iterate 16 refine jp rfl ?_
  refine wAc (jT (wAf rfl (wAb (wAa (jp rfl (wAc (jT (wAg (jTr (wCv (L' := []) (List.nil_sublist _) ?_))))))))))
  refine jr1 rfl rfl ?_
  exact ⟨rfl, rfl⟩
 refine jp rfl (lq (wEg rfl rfl rfl) ?_)
 refine js rfl (fun h28 => ?_) (fun h28 => ?_)
 ·iterate 13 refine jp rfl ?_
  refine wAc (jT (wAf rfl (wAb (wAa (jp rfl (wAc (jT (wAg (jTr (wCv (L' := []) (List.nil_sublist _) ?_))))))))))
  refine jr1 rfl rfl ?_
  exact ⟨rfl, rfl⟩
 refine jp rfl (jp rfl (sFL rfl rfl ?_))
 refine lq (wCd rfl rfl rfl) ?_
 refine js rfl (fun h34 => ?_) (fun h34 => ?_)
 ·iterate 7 refine jp rfl ?_
  refine wAc (jT (wAf rfl (wAb (wAa (jp rfl (wAc (jT (wAg (jTr (wCv (L' := []) (List.nil_sublist _) ?_))))))))))
  refine jr1 rfl rfl ?_
  exact ⟨rfl, rfl⟩
 refine jp rfl (jp rfl (sFL rfl rfl ?_))
 refine lq (wCd rfl rfl rfl) ?_
 refine js rfl (fun h40 => ?_) (fun h40 => ?_)
 ·refine jp rfl (wAc (jT (wAf rfl (wAb (wAa (jp rfl (wAc (jT (wAg (jTr (wCv (L' := []) (List.nil_sublist _) ?_)))))))))))
  refine jr1 rfl rfl ?_
  exact ⟨rfl, rfl⟩
 refine jp rfl (wAc (jT (wAh rfl (wAd (jT (wAb ?_))))))
 have hgr := hg1 h25
 have hqn : qs.length ≤ 1000000000 := by have := hgr.1; omega
 have hcs : qs.length ≤ 64 → CsP M1 la qs := fun h => (hL.mono hM1).ok (hgr.all (by omega))
 refine wAa (jp rfl (wCe rfl rfl (hCl (mplay_own qs la lc M1 (hT.mono hM1) hcs hqn)) ?_)); rintro _ M2 _ ⟨hM2, R2, rfl, ⟨a7, c7, ps, rfl, hc7, hcm7, hps, hsm, hrs, rfl⟩⟩
 have hpn : ps.length ≤ 64 := by have := plL_len qs; rw [← hps, List.length_map] at this; exact this
 refine jp rfl (jp rfl (jp rfl (jp rfl (jp rfl (wAc (jT (wAb (wAa (jp rfl (wCe rfl rfl (hCl (rplay_spec qs la lc M2 (fun h => (hcs h).mono hM2) hqn)) ?_)))))))))); rintro _ M3 _ ⟨hM3, R3, rfl, ⟨⟨a9, c9, ps2, rfl, hc9, hcm9, hps2, hrs2⟩, rfl⟩⟩
 have hl2 : ps2.length = ps.length := by have := congrArg List.length (hps2.trans hps.symm); simpa using this
 rw [hl2]
 simp only [nA]
 refine jp rfl (jp rfl (jp rfl (jp rfl (jp rfl (wAc (jT (wAb (wAb (jc_fact fun hnd hdis => ?_)))))))))
 have hnR : ((dtL ps).map (·.1)).Nodup := hnd.sublist (List.Sublist.map _ (by first | exact List.sublist_append_left _ _ | simp))
 have hdR : ∀ p ∈ dtL ps, M3 p.1 = none := fun p hp => hdis p (List.mem_append_left _ hp)
 have hA := wBf (M := M3) hnR
 have hAM := wBk hdR
 refine wAa (jp rfl (jp rfl ?_))
 have hSA : SpecL Tryz.prog 7 #[.slice a7 ps.length c7, .slice a9 ps.length c9] (wDu M3 (dtL ps)) [] (fun u _ _ => u = .bool true) := by
  have := sameall_spec (ps.map (·.1)) ps2 a7 a9 c7 c9 (wDu M3 (dtL ps)) (by rw [List.map_map]; exact hps.trans hps2.symm) ⟨by rw [List.flatMap_map]; exact (hsm.mono hM3).mono hAM, fun p hp => by obtain ⟨q, hq, rfl⟩ := List.mem_map.1 hp; exact ⟨(hrs q hq).1.bsp fun x hx => hA x (List.mem_flatMap.2 ⟨q, hq, hx⟩), ((hrs q hq).2.mono hM3).mono hAM⟩⟩ (hrs2.mono hAM) (by rw [List.length_map]; omega)
  rw [List.length_map] at this
  exact this.mono fun _ _ _ h => h.1
 refine lq (qEq (wBm (R := dtL ps) rfl rfl rfl rfl rfl (by kernel_rfl) (fun p hp => List.mem_append_left _ hp) hSA) (v' := .bool true) (by rfl)) ?_
 refine jp rfl (jp rfl (jp rfl (jp rfl (jf rfl (decide_eq_false (by omega)) ?_))))
 refine jp rfl (wAc (jT (wAh rfl (wAd (jT (wAb (wAa (jp rfl (wCe rfl rfl (hCl (part_spec s M3 (hT.mono (hM1.trans (hM2.trans hM3))) (by omega))) ?_))))))))); rintro _ M4 _ ⟨hM4, R4, rfl, hpp⟩
 obtain ⟨a12, c12, rfl, hq12, rfl⟩ := hpp.one
 simp only [nA]
 iterate 7 refine jp rfl ?_
 refine wAc (jT (wAb (wAa (jp rfl (wCe rfl rfl (hCl (rpart_spec s M4)) ?_))))); rintro _ M5 _ ⟨hM5, R5, rfl, hpr⟩
 obtain ⟨a15, c15, rfl, hq15, rfl⟩ := hpr.one
 simp only [nA]
 iterate 7 refine jp rfl ?_
 refine wAc (jT (wAb (wAa (jp rfl (lq (wBe (cs := [_, _, _, _, _, _, _, _]) rfl rfl rfl (by rfl)) ?_)))))
 refine sAl rfl fun b17 => ?_
 refine sSt rfl ?_
 refine wAc (jT (wAb (wAa (jp rfl (lq (wBe (cs := [_, _, _, _, _, _, _, _]) rfl rfl rfl (by rfl)) ?_)))))
 refine sAl rfl fun b18 => ?_
 refine sSt rfl ?_
 refine wAc (jT (wAb (wAb (wCw [(0, true), (1, true), (2, true), (3, true), (4, true), (5, true), (6, true), (7, true), (8, true), (9, true), (10, true), (11, true), (12, true), (13, true), (14, true), (15, true), (16, true), (17, true), (18, true), (19, true), (20, true), (21, true), (22, true), (23, true), (24, true), (25, true), (26, true), (27, true), (28, true)] [(b18, .cells (rpc ({ names := prN s } : RP) (.slice none 0 0) (.slice a15 (prN s).length c15)).toArray 30 (0, 0)), (b17, .cells (rpc ({ names := prN s } : RP) (.slice none 0 0) (.slice a12 (prN s).length c12)).toArray 30 (0, 0)), (b5, .cells (rpc ro (.slice oda ro.data.length odc) (.slice ona ro.names.length onc)).toArray 30 (0, 0))] (by simp) ?_))))
 iterate 2 refine dp rfl rfl ?_
 refine df rfl rfl (decide_eq_false (by omega)) ?_
 iterate 3 refine dp rfl rfl ?_
 refine df rfl rfl (decide_eq_false (by omega)) ?_
 iterate 2 refine dp rfl rfl ?_
 refine dLL rfl rfl ?_
 refine dLL rfl rfl ?_
 refine dq rfl (qEq (qCl (rsame_q ({ names := prN s } : RP) ({ names := prN s } : RP) (.slice none 0 0) (.slice a12 (prN s).length c12) (.slice none 0 0) (.slice a15 (prN s).length c15) M5 BsP.nil (hq12.mono hM5) BsP.nil hq15)) (v' := .bool true) (by rw [decide_eq_true rfl])) ?_
 iterate 3 refine dp rfl rfl ?_
 refine dLL rfl rfl ?_
 refine dLL rfl rfl ?_
 refine dq rfl (qCl (msame_q ({ names := prN s } : RP) ro (.slice none 0 0) (.slice a12 (prN s).length c12) (.slice oda ro.data.length odc) (.slice ona ro.names.length onc) M5 BsP.nil (hq12.mono hM5) ⟨_, _, rfl, o1, o2, o3.mono (hM1.trans (hM2.trans (hM3.trans (hM4.trans hM5))))⟩ (NsP.q ⟨_, _, rfl, o4, o5, o6.mono (hM1.trans (hM2.trans (hM3.trans (hM4.trans hM5))))⟩))) ?_
 refine dLL rfl rfl ?_
 refine dLL rfl rfl ?_
 refine dq rfl (qCl (rsame_q ({ names := prN s } : RP) ro (.slice none 0 0) (.slice a12 (prN s).length c12) (.slice oda ro.data.length odc) (.slice ona ro.names.length onc) M5 BsP.nil (hq12.mono hM5) ⟨_, _, rfl, o1, o2, o3.mono (hM1.trans (hM2.trans (hM3.trans (hM4.trans hM5))))⟩ (NsP.q ⟨_, _, rfl, o4, o5, o6.mono (hM1.trans (hM2.trans (hM3.trans (hM4.trans hM5))))⟩))) ?_
 refine dq rfl (qEq (qNeB rfl rfl rfl rfl) (v' := .bool false) (by simp)) ?_
 iterate 2 refine dp rfl rfl ?_
 refine dLL rfl rfl ?_
 refine dLL rfl rfl ?_
 refine dq rfl (qEq (qCl (msame_q ro ro (.slice oda ro.data.length odc) (.slice ona ro.names.length onc) (.slice oda ro.data.length odc) (.slice ona ro.names.length onc) M5 ⟨_, _, rfl, o1, o2, o3.mono (hM1.trans (hM2.trans (hM3.trans (hM4.trans hM5))))⟩ (NsP.q ⟨_, _, rfl, o4, o5, o6.mono (hM1.trans (hM2.trans (hM3.trans (hM4.trans hM5))))⟩) ⟨_, _, rfl, o1, o2, o3.mono (hM1.trans (hM2.trans (hM3.trans (hM4.trans hM5))))⟩ (NsP.q ⟨_, _, rfl, o4, o5, o6.mono (hM1.trans (hM2.trans (hM3.trans (hM4.trans hM5))))⟩))) (v' := .bool true) (by rw [decide_eq_true rfl])) ?_
 iterate 2 refine dp rfl rfl ?_
 refine wAs (jPn (jT (wAh rfl (wAd (jT (wAb (wAb (wAa (jp rfl (wAc (jT (wAk ?_))))))))))))
 refine wBr (α := Nat) (fun i => [(0, .slice la qs.length lc), (5, pt b5), (7, .slice a7 ps.length c7), (9, .slice a9 ps.length c9), (19, .int .i64 i)]) (fun _ => M5) (fun i => dtL (ps.drop i) ++ [(b5, .cells (rpc ro (.slice oda ro.data.length odc) (.slice ona ro.names.length onc)).toArray 30 (0, 0))]) (fun i => i ≤ ps.length) (fun i => ps.length - i)
  0 (.cons (t := 0) rfl (.cons (t := 5) rfl (.cons (t := 7) rfl (.cons (t := 9) rfl (.cons (t := 19) rfl .nil))))) (Nat.zero_le _) (fun _ h => h.subC fun f => by simp only [rpc, List.drop_zero, List.map_append, List.map_cons, List.map_nil, List.sum_append, List.sum_cons, List.sum_nil]; omega) ?_
 intro i hi0
 try dsimp only at hi0 ⊢
 refine wAb (wAb (wAa (jp rfl (jp rfl (lq (wCd rfl rfl rfl) ?_)))))
 refine js rfl (fun h109 => ?_) (fun h109 => ?_)
 ·refine wAc (jT (wAf rfl (wAd (jT (wAb (wAk (wAb (wAb ?_))))))))
  have hi : i < ps.length := by omega
  have hi2 : i < ps2.length := by omega
  obtain ⟨⟨⟨ri, dvi, nvi⟩, Ri⟩, hpi⟩ : ∃ p, ps[i] = p := ⟨_, rfl⟩
  have hrsi := hrs _ (List.getElem_mem hi)
  rw [hpi] at hrsi
  obtain ⟨hby, hna⟩ := hrsi
  dsimp only at hby hna
  obtain ⟨da, dc, rfl⟩ := hby.form
  obtain ⟨q1, o1_, e1, x1⟩ := wJd rG_len (hsm.mono (hM3.trans (hM4.trans hM5))) hi (by omega)
  obtain ⟨q2, o2_, e2, x2⟩ := wJd rF_len (hrs2.1.mono (hM4.trans hM5)) hi2 (by omega)
  subst e1; subst e2
  rw [hpi] at x1
  obtain ⟨⟨r2, dv2, nv2⟩, hp2⟩ : ∃ p, ps2[i] = p := ⟨_, rfl⟩
  have hr2 := hrs2.2 _ (List.getElem_mem hi2)
  rw [hp2] at hr2 x2
  obtain rfl : ri = r2 := by have := congrArg (fun l => l[i]?) (hps.trans hps2.symm); simp [hi, hi2, hpi, hp2] at this; exact this
  dsimp only at hr2
  rw [dt_drop hi hpi]
  simp only [List.append_assoc]
  refine jc_fact fun hnd hdis => ?_
  have hnR : ((Ri).map (·.1)).Nodup := hnd.sublist (List.Sublist.map _ (by first | exact List.sublist_append_left _ _ | simp))
  have hdR : ∀ p ∈ Ri, M5 p.1 = none := fun p hp => hdis p (List.mem_append_left _ hp)
  have hA := wBf (M := M5) hnR
  have hAM := wBk hdR
  refine wCw [(0, true), (1, true), (2, true), (3, true), (4, true), (5, true), (6, true), (7, true), (8, true), (9, true), (10, true), (11, true), (12, true), (13, true), (14, true), (15, true), (16, true), (17, true), (18, true), (19, true), (20, true), (21, true), (22, true), (23, true), (24, true)] (Ri ++ [(b5, .cells (rpc ro (.slice oda ro.data.length odc) (.slice ona ro.names.length onc)).toArray 30 (0, 0))]) (fun p hp => by simp only [List.mem_append, List.mem_singleton] at hp ⊢; rcases hp with h | h; exact .inl h; exact .inr (.inr h)) ?_
  iterate 2 refine dp rfl rfl ?_
  refine dq rfl (wEn rfl rfl rfl rfl (by omega)) ?_
  refine dq rfl (wFt (cs := rpc ri (.slice da ri.data.length dc) nvi) rfl rfl rfl rfl rfl (fun j v hv => by rw [Int.toNat_natCast]; exact (x1 j v hv).cj _)) ?_
  refine dLL rfl rfl ?_
  refine dq rfl (wBm (R := Ri) rfl rfl rfl rfl rfl (by kernel_rfl) (fun p hp => List.mem_append_left _ hp) (msame_q ri ro (.slice da ri.data.length dc) nvi (.slice oda ro.data.length odc) (.slice ona ro.names.length onc) (wDu M5 Ri) (hby.bsp hA) (NsQ.mono hna.q (hM3.trans (hM4.trans (hM5.trans hAM)))) ⟨_, _, rfl, o1, o2, o3.mono ((hM1.trans (hM2.trans (hM3.trans (hM4.trans hM5)))).trans hAM)⟩ (NsP.q ⟨_, _, rfl, o4, o5, o6.mono ((hM1.trans (hM2.trans (hM3.trans (hM4.trans hM5)))).trans hAM)⟩))) ?_
  iterate 2 refine dp rfl rfl ?_
  refine dq rfl (wEn rfl rfl rfl rfl (by omega)) ?_
  refine dq rfl (wFt (cs := rpc ri (.slice da ri.data.length dc) nvi) rfl rfl rfl rfl rfl (fun j v hv => by rw [Int.toNat_natCast]; exact (x1 j v hv).cj _)) ?_
  refine dLL rfl rfl ?_
  refine dq rfl (wBm (R := Ri) rfl rfl rfl rfl rfl (by kernel_rfl) (fun p hp => List.mem_append_left _ hp) (rsame_q ri ro (.slice da ri.data.length dc) nvi (.slice oda ro.data.length odc) (.slice ona ro.names.length onc) (wDu M5 Ri) (hby.bsp hA) (NsQ.mono hna.q (hM3.trans (hM4.trans (hM5.trans hAM)))) ⟨_, _, rfl, o1, o2, o3.mono ((hM1.trans (hM2.trans (hM3.trans (hM4.trans hM5)))).trans hAM)⟩ (NsP.q ⟨_, _, rfl, o4, o5, o6.mono ((hM1.trans (hM2.trans (hM3.trans (hM4.trans hM5)))).trans hAM)⟩))) ?_
  refine dq rfl (qEq (qNeB rfl rfl rfl rfl) (v' := .bool false) (by simp)) ?_
  iterate 3 refine dp rfl rfl ?_
  refine dq rfl (wEn rfl rfl rfl rfl (by omega)) ?_
  refine dq rfl (wFt (cs := rpc ri (.slice da ri.data.length dc) nvi) rfl rfl rfl rfl rfl (fun j v hv => by rw [Int.toNat_natCast]; exact (x1 j v hv).cj _)) ?_
  iterate 2 refine dp rfl rfl ?_
  refine dq rfl (wEn rfl rfl rfl rfl (by omega)) ?_
  refine dq rfl (wFt (cs := rpc ri dv2 nv2) rfl rfl rfl rfl rfl (fun j v hv => by rw [Int.toNat_natCast]; exact (x2 j v hv).cj _)) ?_
  refine dq rfl (qEq (wBm (R := Ri) rfl rfl rfl rfl rfl (by kernel_rfl) (fun p hp => List.mem_append_left _ hp) (msame_q ri ri (.slice da ri.data.length dc) nvi dv2 nv2 (wDu M5 Ri) (hby.bsp hA) (NsQ.mono hna.q (hM3.trans (hM4.trans (hM5.trans hAM)))) (hr2.1.mono (hM4.trans (hM5.trans hAM))) (NsQ.mono hr2.2.q (hM4.trans (hM5.trans hAM))))) (v' := .bool true) (by rw [decide_eq_true rfl])) ?_
  iterate 2 refine dp rfl rfl ?_
  refine wAs (jPn (jT (wAh rfl (wAd (jT (wAb (wAa (jp rfl (wAc (jT (wAk ?_)))))))))))
  refine wBr (α := Nat × Lc × List By) (fun y => [(0, .slice la qs.length lc), (5, pt b5), (7, .slice (some ⟨q1, o1_, none⟩) ps.length c7), (9, .slice (some ⟨q2, o2_, none⟩) ps.length c9), (19, .int .i64 i), (20, .int .i64 y.1)]) (fun _ => M5) (fun y => y.2.1 ++ (dtL (ps.drop (i + 1)) ++ [(b5, .cells (rpc ro (.slice oda ro.data.length odc) (.slice ona ro.names.length onc)).toArray 30 (0, 0))])) (fun y => y.1 ≤ ri.data.length ∧ y.2.2.length = ri.data.length ∧ Byt (.slice da ri.data.length dc) y.2.1 y.2.2) (fun y => ri.data.length - y.1)
   (0, Ri, ri.data) (.cons (t := 0) rfl (.cons (t := 5) rfl (.cons (t := 7) rfl (.cons (t := 9) rfl (.cons (t := 19) rfl (.cons (t := 20) rfl .nil)))))) ⟨Nat.zero_le _, rfl, hby⟩ (fun _ h => h) ?_
  rintro ⟨k, Rk, xs⟩ ⟨hk0, hxl, hB⟩
  try dsimp only at hk0 hxl hB ⊢
  refine wAb (wAb (wAa (jp rfl (jp rfl (jp rfl (lq (wEn rfl rfl rfl rfl (by omega)) ?_))))))
  refine sFa rfl ?_
  refine lq (qLd rfl rfl rfl rfl ((x1 2 _ rfl).cj _)) ?_
  refine lq (wCd rfl rfl rfl) ?_
  refine js rfl (fun h144 => ?_) (fun h144 => ?_)
  ·refine wAc (jT (wAf rfl (wAd (jT (wAb (wAk ?_))))))
   have hkn : k < xs.length := by omega
   obtain ⟨g, cap, sp, hsl, rfl, w1, w2, w3⟩ := hB.opn (by omega)
   simp only [Value.slice.injEq] at hsl
   obtain ⟨hda, _, hdc⟩ := hsl
   have hkx : k < xs.length := hkn
   simp only [List.cons_append, List.nil_append]
   refine wAa (jp rfl (jp rfl (lq (wEn rfl rfl rfl rfl (by omega)) ?_)))
   refine sFa rfl ?_
   refine lq (qLd rfl rfl rfl rfl ((x1 2 _ rfl).cj _)) ?_
   refine jp rfl (lq (wAp rfl rfl rfl rfl hda (by omega)) ?_)
   refine lq (qLd rfl rfl rfl rfl (CJ.loc (v := .int .u8 (xs[k].toNat : Int)) (by rw [Int.toNat_natCast, Nat.mul_one, Nat.zero_add, List.getElem?_append_left (by rw [wBd]; omega)]; simp [wAn, hkx]))) ?_
   refine lq (qEq (v' := .int .u8 ((xs[k] + 1).toNat : Int)) (qAkW rfl rfl rfl rfl rfl) (by rw [u8_inc])) ?_
   refine lq (wAp rfl rfl rfl rfl hda (by omega)) ?_
   refine jl_s rfl (wBw (l2 := wAn (xs.set k (xs[k] + 1)) ++ sp) rfl rfl rfl rfl rfl rfl rfl (Nat.ble_eq_true_of_le (by rw [Int.toNat_natCast, List.length_append, wBd]; simp only [List.length_cons, List.length_nil]; omega)) (inc_cells hkx)) ?_; rintro _ _ _ ⟨rfl, rfl⟩
   refine wAc (jB (jT (wAa (jp rfl (ja rfl (by omega) ?_)))))
   refine jp rfl (wAc ?_)
   refine wBu (k + 1, [(g, .cells (wAn (xs.set k (xs[k] + 1)) ++ sp).toArray 5 (0, 0))], xs.set k (xs[k] + 1)) (.cons (t := 0) rfl (.cons (t := 5) rfl (.cons (t := 7) rfl (.cons (t := 9) rfl (.cons (t := 19) rfl (.cons (t := 20) rfl .nil)))))) ⟨by show k + 1 ≤ _; omega, by show (xs.set k _).length = _; rw [List.length_set]; exact hxl, ?_⟩ (by show ri.data.length - (k + 1) < ri.data.length - k; omega) (fun _ h => h)
   show Byt (.slice da ri.data.length dc) _ _
   rw [hda, hdc]
   exact Byt.mk' (by rw [List.length_set]) (by rw [List.length_set, hxl]) w1 w2 w3
  refine wAc (jT (wAh rfl (wBx (jTx (jTx (jBx (jB (jT (wAa (jp rfl (ja rfl (by omega) ?_)))))))))))
  refine jp rfl (wAc ?_)
  refine wBu (i + 1) (.cons (t := 0) rfl (.cons (t := 5) rfl (.cons (t := 7) rfl (.cons (t := 9) rfl (.cons (t := 19) rfl .nil))))) (by omega) (by omega) (fun _ h => h.subC fun f => by simp only [rpc, List.map_append, List.map_cons, List.map_nil, List.sum_append, List.sum_cons, List.sum_nil]; omega)
 refine wAc (jT (wAh rfl (wBx (jTx (jTx (jBx (jT (wAb ?_))))))))
 obtain rfl : i = ps.length := by omega
 refine wAa (jp rfl (wCe rfl rfl (hCl (mplay_spec qs la lc M5 (hT.mono (hM1.trans (hM2.trans (hM3.trans (hM4.trans hM5))))) (fun h => (hcs h).mono (hM2.trans (hM3.trans (hM4.trans hM5)))) hqn)) ?_)); rintro _ M6 _ ⟨hM6, R6, rfl, ⟨⟨a10, c10, ps3, rfl, hc10, hcm10, hps3, hrs3⟩, rfl⟩⟩
 have hl3 : ps3.length = ps.length := by have := congrArg List.length (hps3.trans hps.symm); simpa using this
 rw [hl3]
 simp only [nA]
 refine jp rfl (jp rfl (jp rfl (jp rfl (jp rfl (wAc (jT (wAb (wAa (jp rfl (jp rfl ?_))))))))))
 refine wCe rfl rfl (wKh rfl rfl rfl rfl rfl (by kernel_rfl) (by have := sameall_spec ps3 ps2 a10 a9 c10 c9 M6 (hps3.trans hps2.symm) hrs3 (hrs2.mono (hM4.trans (hM5.trans hM6))) (by omega); rw [hl3] at this; exact this)) ?_; rintro _ _ _ ⟨_, _, rfl, ⟨rfl, rfl⟩⟩
 refine jp rfl (wAc (jT (wAg (wCv (L' := []) (List.nil_sublist _) ?_))))
 refine jr1 rfl rfl ?_
 exact ⟨rfl, rfl⟩
end Go.Proofs.YtokljhkplbkggaaGreatDoor
