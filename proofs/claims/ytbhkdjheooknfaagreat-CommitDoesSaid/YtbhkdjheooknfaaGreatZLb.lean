/- Walks: pools in new memory, told so; commits and cuts. -/
import Derived.Test.YtbhkdjheooknfaaGreatZLa
namespace Go.Proofs.YtbhkdjheooknfaaGreat
set_option linter.unusedVariables false
set_option linter.unusedSectionVars false
set_option linter.unusedSimpArgs false
open Go.RowKit
def StN (M M' : Mem) (u : Value) (s : Sto) : Prop := ∃ bv wv nv lv Mx My, u = .agg #[bv, wv, nv, lv] ∧ LS M' bv s.blocks ∧ WS M' wv s.waits ∧ BS M' nv s.now ∧ BS M' lv s.last ∧ MLe M Mx ∧ MLe Mx My ∧ MLe My M' ∧ BS (wDm Mx My) nv s.now
def PtN (M M' : Mem) (u : Value) (p : Po) : Prop := ∃ bv wv nv lv dv Mx My Mz, u = .agg (poc bv wv nv lv p.gen p.root p.next dv).toArray ∧ LS M' bv p.st.blocks ∧ WS M' wv p.st.waits ∧ BS M' nv p.st.now ∧ BS M' lv p.st.last ∧ NI M' dv p.dead ∧ MLe M Mx ∧ MLe Mx My ∧ MLe My Mz ∧ MLe Mz M' ∧ BS (wDm Mx My) nv p.st.now ∧ NI (wDm Mz M') dv p.dead
structure CmN (M Mb Mx My Mz Mt Mc M' : Mem) (hb rb : Nat) (wv nv lv dv : Value) (q : Po) : Prop where
 dn : DkN M Mb hb rb q.st.blocks.length
 b : LS M' (.slice (some ⟨rb, 0, none⟩) q.st.blocks.length q.st.blocks.length) q.st.blocks
 w : WS M' wv q.st.waits
 n : BS M' nv q.st.now
 l : BS M' lv q.st.last
 d : NI M' dv q.dead
 mb : MLe M Mb
 mx : MLe Mb Mx
 my : MLe Mx My
 mz : MLe My Mz
 mt : MLe Mz Mt
 mc : MLe Mt Mc
 m' : MLe Mc M'
 nn : BS (wDm Mx My) nv q.st.now
 nd : NI (wDm Mz Mt) dv q.dead
 nl : BS (wDm Mc M') lv q.st.last
set_option maxHeartbeats 1000000 in
theorem rtwin_walkN (s : Sto) (bv wv nv lv : Value) (M : Mem) (h1 : LS M bv s.blocks) (h2 : WS M wv s.waits) (h3 : BS M nv s.now) (h4 : BS M lv s.last) (hdk : dkOk s.blocks s.waits) (hn : s.now.length ≤ 100000) (hl : s.last.length ≤ 100000) :
  SpecL Tryz.prog 38 #[.agg #[bv, wv, nv, lv]] M [] fun u M' L' => StN M M' u s ∧ L' = [] := by
 refine wAe (vs := [_]) 13 _ Tryz.func38 rfl Tryz.ntmps38 rfl rfl ?_; intro W
 refine wAb (wAa (wAv rfl rfl (wBw (cs := [_, _, _, _]) rfl rfl rfl rfl) ?_)); rintro _ _ _ ⟨b1, rfl, rfl, rfl⟩
 refine sAl rfl fun b2 => ?_
 refine wAc (jT (wAb (wBn [(0, true), (1, true), (3, true), (4, true), (6, true), (7, true), (2, false), (5, false), (8, false), (9, true), (10, false)] [(b1, .cells [bv, wv, nv, lv].toArray TSt (0, 0))] (by kernel_rfl) (by kernel_rfl) (by kernel_rfl) rfl (by simp) ?_)))
 refine dFa rfl rfl ?_
 refine dLL rfl rfl ?_
 refine dFa rfl rfl ?_
 refine dLd rfl rfl ?_
 refine dFa rfl rfl ?_
 refine dLd rfl rfl ?_
 refine wDy rfl rfl rfl (wAt rfl rfl rfl rfl rfl (by kernel_rfl) (dtwin_spec s.blocks s.waits bv wv M h1 h2 hdk)) ?_; rintro _ M1 _ ⟨hM1, _, rfl, ⟨⟨bv2, wv2, rfl, hB, hW⟩, rfl⟩⟩
 refine ⟨_, _, MLe.refl _, hM1, fun _ h => h, by simp, ?_⟩
 obtain ⟨ba, bc, bps, rfl, _⟩ := id hB
 obtain ⟨wa, wc, wps, rfl, _⟩ := id hW
 refine wDy rfl rfl rfl (wAt rfl rfl rfl rfl rfl (by kernel_rfl) (wEo nv s.now M1 (h3.mono hM1) hn)) ?_; rintro _ M2 _ ⟨hM2, R8, rfl, hown8⟩
 refine ⟨_, _, MLe.refl _, hM1.trans hM2, fun _ h => h, by simp, ?_⟩
 obtain ⟨na, nc, rfl⟩ := hown8.form
 refine wDy rfl rfl rfl (wAt rfl rfl rfl rfl rfl (by kernel_rfl) (wEo lv s.last M2 (h4.mono (hM1.trans hM2)) hl)) ?_; rintro _ M3 _ ⟨hM3, R11, rfl, hown11⟩
 refine ⟨_, _, MLe.refl _, (hM1.trans hM2).trans hM3, fun _ h => h, by simp, ?_⟩
 obtain ⟨la, lc, rfl⟩ := hown11.form
 refine wBh rfl rfl rfl (wAq (cs := [_, _, _, _]) rfl rfl rfl (by rfl)) ?_
 refine jd_s rfl rfl (wBd rfl rfl rfl rfl rfl rfl rfl rfl) ?_; rintro _ _ _ ⟨rfl, rfl⟩
 refine ⟨_, _, MLe.refl _, (hM1.trans hM2).trans hM3, fun _ h => h, by simp, ?_⟩
 refine wBg (jPn (jT (wAf (jq_ownN hown8 (by simp) ?_))))
 intro M4 a4 c4 hM4 e4 hc4 hs4; cases e4
 refine wGi hown11 (by simp) ?_
 intro M5 a5 c5 hM5 e5 hc5 hs5; cases e5
 refine wBr (rs := [_]) ([]) (by exact List.nil_sublist _) rfl (.cons (.agg rfl rfl rfl) .nil) ?_
 exact ⟨⟨_, _, _, _, M3, M4, rfl, hB.mono (hM2.trans (hM3.trans (hM4.trans hM5))), hW.mono (hM2.trans (hM3.trans (hM4.trans hM5))), ⟨_, _, rfl, hc4, (hs4.mono (wHr _ _)).mono hM5⟩, ⟨_, _, rfl, hc5, hs5⟩, hM1.trans (hM2.trans hM3), hM4, hM5, _, _, rfl, hc4, hs4⟩, rfl⟩
set_option maxHeartbeats 1000000 in
theorem ftwin_walkN (p : Po) (pv pw pn pl : Value) (da : Option Addr) (dc : Nat) (M : Mem) (h1 : LS M pv p.st.blocks) (h2 : WS M pw p.st.waits) (h3 : BS M pn p.st.now) (h4 : BS M pl p.st.last) (hdc : p.dead.length ≤ dc) (hds : SM M da (wAw p.dead)) (hst0 : wDr p.st) (hdl : p.dead.length ≤ 1000000) :
  SpecL Tryz.prog 18 #[.agg (poc pv pw pn pl p.gen p.root p.next (.slice da p.dead.length dc)).toArray] M [] fun u M' L' => PtN M M' u p ∧ L' = [] := by
 have hdk := hst0.1
 have hnl : p.st.now.length = 256 := hst0.2.1.1
 have hll : p.st.last.length = 256 := hst0.2.2.1
 refine wAe (vs := [_]) 12 _ Tryz.func18 rfl Tryz.ntmps18 rfl rfl ?_; intro W
 refine wAb (wAa (wAv rfl rfl (wBw (cs := [_, _, _, _, _, _, _, _]) rfl rfl rfl rfl) ?_)); rintro _ _ _ ⟨b1, rfl, rfl, rfl⟩
 refine sAl rfl fun b2 => ?_
 refine wAc (jT (wAb (wBj (p := { A := fun i => !([7, 9].contains i), U := fun i => !([7, 8, 9].contains i) }) [(0, true), (1, true), (3, true), (4, true), (2, false), (6, true), (5, false), (7, false), (8, true), (9, false)] M ([(b1, .cells (poc pv pw pn pl p.gen p.root p.next (.slice da p.dead.length dc)).toArray TPo (0, 0))]) ([]) (by kernel_rfl) (by kernel_rfl) (by kernel_rfl) (by kernel_rfl) rfl (by simp) (MLe.refl _) (by simp) ?_)))
 refine dFa rfl rfl ?_
 refine dLL rfl rfl ?_
 refine dFa rfl rfl ?_
 refine dLd rfl rfl ?_
 refine wDy rfl rfl rfl (wAt rfl rfl rfl rfl rfl (by kernel_rfl) (rtwin_walkN p.st pv pw pn pl M h1 h2 h3 h4 hdk (by omega) (by omega))) ?_; rintro _ M1 _ ⟨hM1, _, rfl, ⟨hst, rfl⟩⟩
 refine ⟨_, _, MLe.refl _, hM1, fun _ h => h, by simp, ?_⟩
 obtain ⟨q1, q2, q3, q4, Mx, My, rfl, g1, g2, g3, g4, hx1, hx2, hx3, hnn⟩ := hst
 obtain ⟨ba, bc, bps, rfl, _⟩ := id g1
 obtain ⟨wa, wc, wps, rfl, _⟩ := id g2
 obtain ⟨na, nc, rfl, _⟩ := id g3
 obtain ⟨la, lc, rfl, _⟩ := id g4
 refine dFa rfl rfl ?_
 refine wDy rfl rfl rfl (wAt rfl rfl rfl rfl rfl (by kernel_rfl) (niclone_spec da _ dc (wAw p.dead) M1 (hds.mono hM1) (wBc _) (wHu _) hdl)) ?_; rintro _ M2 _ ⟨hM2, R2, rfl, hown⟩
 refine ⟨_, _, MLe.refl _, (hM1.trans hM2), fun _ h => h, by simp, ?_⟩
 obtain ⟨ea, ec, rfl⟩ := hown.form
 refine jd_e rfl rfl (wBd rfl rfl rfl rfl rfl rfl rfl rfl) ?_; rintro _ _ _ ⟨rfl, rfl⟩
 refine ⟨hM1.trans hM2, by simp, ?_⟩
 refine je_q rfl rfl rfl (wBi rfl rfl rfl rfl rfl) ?_
 refine je_s rfl rfl (wBd rfl rfl rfl rfl rfl rfl rfl rfl) ?_; rintro _ _ _ ⟨rfl, rfl⟩
 refine ⟨hM1.trans hM2, by simp, ?_⟩
 refine wCn ?_
 refine jPn (jT (wAb (wAa (sLL rfl ?_))))
 refine sSt rfl ?_
 refine wAc (jT (wAf (jq_ownN hown (by simp) ?_)))
 intro M4 a4 c4 hM4 e4 hc4 hs4; cases e4
 refine wBr (rs := [_]) ([]) (by exact List.nil_sublist _) rfl (.cons (.agg rfl rfl rfl) .nil) ?_
 have hMM := hM2.trans hM4
 exact ⟨⟨_, _, _, _, _, Mx, My, M2, rfl, g1.mono hMM, g2.mono hMM, g3.mono hMM, g4.mono hMM, ⟨_, _, rfl, hc4, hs4.mono (wHr _ _)⟩, hx1, hx2, hx3.trans hM2, hM4, hnn, _, _, rfl, hc4, hs4⟩, rfl⟩
def ComN (p : Po) (u : Value) (M M' : Mem) : Prop := if wHm p = 0 then ∃ v hb rb wv nv lv dv Mb Mx My Mz Mt Mc, u = .tuple #[v, .int .i64 0] ∧ v = .agg (poc (.slice (some ⟨rb, 0, none⟩) (cmt p).st.blocks.length (cmt p).st.blocks.length) wv nv lv (cmt p).gen (cmt p).root (cmt p).next dv).toArray ∧ CmN M Mb Mx My Mz Mt Mc M' hb rb wv nv lv dv (cmt p) else u = .tuple #[.agg poZ.toArray, .int .i64 (wHm p)]
def CutN (p : Po) (phase : Int) (keep : List Bool) (u : Value) (M M' : Mem) : Prop :=
 if wHm p = 0 then if phase < 1 ∨ 3 < phase then u = .tuple #[dskZ, .int .i64 2]
  else if keep.length = (dsk p phase.toNat).2.length then ∃ d, u = .tuple #[d, .int .i64 0] ∧ DkP M M' d (wFs (dsk p phase.toNat).1 (wGc keep (dsk p phase.toNat).2)) [] else u = .tuple #[dskZ, .int .i64 2]
 else u = .tuple #[dskZ, .int .i64 (wHm p)]
set_option maxHeartbeats 2000000 in
theorem commit_walkN (p : Po) (pv pw pn pl : Value) (da : Option Addr) (dc : Nat) (M : Mem) (h1 : LS M pv p.st.blocks) (h2 : WS M pw p.st.waits) (h3 : BS M pn p.st.now) (h4 : BS M pl p.st.last) (hdc : p.dead.length ≤ dc) (hds : SM M da (wAw p.dead)) (hn : PoN p) :
  SpecL Tryz.prog 6 #[.agg (poc pv pw pn pl p.gen p.root p.next (.slice da p.dead.length dc)).toArray] M [] fun u M' L' => ComN p u M M' ∧ L' = [] := by
 have hPT : PT M (.agg (poc pv pw pn pl p.gen p.root p.next (.slice da p.dead.length dc)).toArray) p := ⟨pv, pw, pn, pl, _, rfl, h1, h2, h3, h4, da, dc, rfl, hdc, hds⟩
 have hgg := hn.gen
 refine wAe (vs := [_]) 47 _ Tryz.func6 rfl Tryz.ntmps6 rfl rfl ?_; intro W
 refine wAb (wAa (wAv rfl rfl (wBw (cs := [_, _, _, _, _, _, _, _]) rfl rfl rfl rfl) ?_)); rintro _ _ _ ⟨b1, rfl, rfl, rfl⟩
 refine sAl rfl fun b2 => ?_
 refine jp rfl (wAc (jT (wAb (wAb (wAa (sLL rfl ?_))))))
 refine wAv rfl rfl (wAt rfl rfl rfl rfl rfl (by kernel_rfl) (casked_spec p _ M hPT hn)) ?_; rintro _ M0 _ ⟨hM0, _, rfl, ⟨rfl, rfl⟩⟩
 simp only [nA]
 refine jp rfl (wAc (jT (wAb (wAa (jp rfl (js rfl (fun h10 => ?_) (fun h10 => ?_)))))))
 ·refine wAc (jT (wAg rfl (wAb (wAa (wAi rfl rfl (wAq (cs := [_, _, _, _, _, _, _, _]) rfl rfl rfl (by rfl)) ?_)))))
  refine jp rfl (sSt rfl ?_)
  refine jp rfl (wAc (jT (wAf (jTr (wBr (rs := [_, _]) ([]) (by exact List.nil_sublist _) rfl (.cons (.agg rfl rfl rfl) (.cons (.tmp rfl) .nil)) ?_)))))
  exact ⟨by unfold ComN; rw [if_neg h10]; rfl, rfl⟩
 refine wAc (jT (wAk rfl (wAd (jT (wAb ?_)))))
 have hak : wHm p = 0 := Classical.not_not.1 h10
 obtain ⟨hok, hg⟩ := askC_ok hak
 replace h1 := h1.mono hM0
 replace h2 := h2.mono hM0
 replace h3 := h3.mono hM0
 replace h4 := h4.mono hM0
 replace hds := hds.mono hM0
 refine wEf ([(b2, .cells poZ.toArray TPo (0, 0)), (b1, .cells (poc pv pw pn pl p.gen p.root p.next (.slice da p.dead.length dc)).toArray TPo (0, 0))]) (by kernel_rfl) (by simp) ?_
 refine wDg (i := 0) rfl (by kernel_rfl) (by kernel_rfl) rfl rfl (qLdL rfl rfl rfl rfl rfl) ?_
 refine wDg (i := 1) rfl (by kernel_rfl) (by kernel_rfl) rfl rfl (qLdL rfl rfl rfl rfl rfl) ?_
 refine wEh (α := Mem × Value × Value × Nat) (fun y => MLe M0 y.1 ∧ LS y.1 y.2.1 (dsk p 3).1 ∧ WS y.1 y.2.2.1 (dsk p 3).2) (fun y => [(1, .pointer (some ⟨b1, 0, none⟩)), (2, .pointer (some ⟨b2, 0, none⟩)), (5, .pointer (some ⟨y.2.2.2, 0, none⟩)), (18, .agg [y.2.1, y.2.2.1].toArray), (19, .int .i64 0)]) (fun y => y.1) (fun y => [(y.2.2.2, .cells [.slice none 0 0, .slice none 0 0].toArray TDk (0, 0)), (b2, .cells poZ.toArray TPo (0, 0)), (b1, .cells (poc pv pw pn pl p.gen p.root p.next (.slice da p.dead.length dc)).toArray TPo (0, 0))]) 2 #[true, true, true, true, true, true, true, true, false, false] ?_ (fun rest => ?_)
 ·rintro ⟨Mr, bvd, wvd, b5⟩ ⟨hMr, hBd, hWd⟩
  try dsimp only at hMr hBd hWd ⊢
  obtain ⟨xa, xc, xps, rfl, _⟩ := id hBd
  obtain ⟨ya, yc, yps, rfl, _⟩ := id hWd
  refine wFo (i := 8) (by kernel_rfl) ?_
  refine js_s rfl rfl (wBd rfl rfl rfl rfl rfl rfl rfl rfl) ?_; rintro _ _ _ ⟨rfl, rfl⟩
  refine wAp (hMr) (by simp) ?_
  refine wFj (i := 9) rfl (by kernel_rfl) (by kernel_rfl) rfl ?_
  refine wHi (by kernel_rfl) ?_
  refine jPn (jT (wAb (wAb (wAa (jp rfl (jt rfl (decide_eq_true (by omega)) ?_))))))
  refine wAc (jT (wAg rfl (wAa (sLL rfl ?_))))
  refine wAv rfl rfl (wAt rfl rfl rfl rfl rfl (by kernel_rfl) (barrier_newspec (dsk p 3).1 (dsk p 3).2 _ _ Mr hBd hWd (wFw hok hn 3))) ?_; rintro _ Mb _ ⟨hMb, _, rfl, ⟨⟨d, rfl, nhb, nrb, wvb, rfl, hdn, hBb, hWb⟩, rfl⟩⟩
  simp only [nA]
  obtain ⟨zwa, zwc, zwps, rfl, _⟩ := id hWb
  refine jp rfl (jp rfl (jp rfl (sSt rfl ?_)))
  refine jp rfl (wAc (jT (wAb (wAb (wAa (jp rfl (jf rfl (decide_eq_false (by omega)) ?_)))))))
  refine wAc (jT (wAk rfl (wAd (jT (wAb (wAa (sLL rfl ?_)))))))
  have hMM := hMr.trans hMb
  refine wAv rfl rfl (wAt rfl rfl rfl rfl rfl (by kernel_rfl) (ftwin_walkN p pv pw pn pl da dc Mb (h1.mono hMM) (h2.mono hMM) (h3.mono hMM) (h4.mono hMM) hdc (hds.mono hMM) hok.st hn.dead)) ?_; rintro _ Mt _ ⟨hMt, _, rfl, ⟨hpt, rfl⟩⟩
  simp only [nA]
  obtain ⟨q1, q2, q3, q4, q5, Mx, My, Mz, rfl, g1, g2, g3, g4, ⟨ga, gc, rfl, hgc, hgs⟩, hx1, hx2, hx3, hx4, hnn, hnd⟩ := hpt
  obtain ⟨ba, bc, bps, rfl, _⟩ := id g1
  obtain ⟨wa, wc, wps, rfl, _⟩ := id g2
  obtain ⟨na, nc, rfl, _⟩ := id g3
  obtain ⟨la, lc, rfl, _⟩ := id g4
  refine sSt rfl ?_
  refine wAc (jT (wAb (wBj (p := { A := fun i => !([7, 10].contains i), U := fun i => !([7, 8, 9, 10].contains i) }) [(0, true), (1, true), (2, true), (3, true), (5, true), (6, true), (4, false), (7, false), (8, true), (9, true), (10, false)] Mt ([(b5, .cells [.slice (some ⟨nrb, 0, none⟩) (wFs (dsk p 3).1 (dsk p 3).2).length (wFs (dsk p 3).1 (dsk p 3).2).length, .slice zwa ([] : List Wt).length zwc].toArray TDk (0, 0)), (b1, .cells (poc (.slice ba p.st.blocks.length bc) (.slice wa p.st.waits.length wc) (.slice na p.st.now.length nc) (.slice la p.st.last.length lc) p.gen p.root p.next (.slice ga p.dead.length gc)).toArray TPo (0, 0))]) ([]) (by kernel_rfl) (by kernel_rfl) (by kernel_rfl) (by kernel_rfl) rfl (by simp) (MLe.refl _) (by simp) ?_)))
  refine dLL rfl rfl ?_
  refine dFa rfl rfl ?_
  refine dFa rfl rfl ?_
  refine dLd rfl rfl ?_
  refine dFa rfl rfl ?_
  refine dFa rfl rfl ?_
  have hnl : p.st.now.length = 256 := hok.st.2.1.1
  refine wDy rfl rfl rfl (wAt rfl rfl rfl rfl rfl (by kernel_rfl) (wEo _ p.st.now Mt g3 (by omega))) ?_; rintro _ Mc _ ⟨hMc, Rc, rfl, hownc⟩
  refine ⟨_, _, MLe.refl _, hMc, fun _ h => h, by simp, ?_⟩
  obtain ⟨ca, cc, rfl⟩ := hownc.form
  refine jd_e rfl rfl (wBd rfl rfl rfl rfl rfl rfl rfl rfl) ?_; rintro _ _ _ ⟨rfl, rfl⟩
  refine ⟨hMc, by simp, ?_⟩
  refine je_q rfl rfl rfl (wBi rfl rfl rfl rfl rfl) ?_
  refine je_q rfl rfl rfl (wBi rfl rfl rfl rfl rfl) ?_
  refine je_s rfl rfl (wBd rfl rfl rfl rfl rfl rfl rfl rfl) ?_; rintro _ _ _ ⟨rfl, rfl⟩
  refine ⟨hMc, by simp, ?_⟩
  refine wCn ?_
  refine jPn (jT (wAb (wAa (sFL rfl rfl ?_))))
  refine wAi rfl rfl (qEq (qP rfl rfl) (v' := .int .u32 (p.gen + 1)) (by congr 1; rw [IntKind.wrap_u32]; omega)) ?_
  refine sFa rfl ?_
  refine sSt rfl ?_
  refine wAc (jT (wAb (wAa (sLL rfl ?_))))
  refine sSt rfl ?_
  refine jp rfl (wAc (jT (wAf (jq_ownN hownc (by simp) ?_))))
  intro M4 a4 c4 hM4 e4 hc4 hs4; cases e4
  refine wBr (rs := [_, _]) ([]) (by exact List.nil_sublist _) rfl (.cons (.agg rfl rfl rfl) (.cons (.tmp rfl) .nil)) ?_
  have hm := hMc.trans hM4
  exact ⟨by unfold ComN; rw [if_pos hak]; exact ⟨_, nhb, nrb, _, _, _, _, Mb, Mx, My, Mz, Mt, Mc, rfl, rfl, hdn.anti (hM0.trans hMr), hBb.mono (hMt.trans hm), hWb.mono (hMt.trans hm), g3.mono hm, ⟨_, _, rfl, hc4, hs4.mono (wHr _ _)⟩, ⟨_, _, rfl, hgc, hgs.mono hm⟩, (hM0.trans hMr).trans hMb, hx1, hx2, hx3, hx4, hMc, hM4, hnn, hnd, ⟨_, _, rfl, hc4, hs4⟩⟩, rfl⟩
 refine wBa [2, 7] (by kernel_rfl) rfl ⟨?_, ?_, trivial⟩
 ·refine wCs rfl rfl rfl (wAt rfl rfl rfl rfl rfl (by kernel_rfl) (steps_spec p pv pw pn pl da dc _)) ?_; rintro _ M2 _ ⟨hM2, R2, rfl, sb, sb1, rfl, esb, esb1, rfl⟩
  refine wAp (hM2) (by simp) ?_
  simp only [nA]
  refine wBa [3, 7] (by kernel_rfl) rfl ⟨?_, ?_, trivial⟩
  ·refine wCs rfl rfl rfl (wAt rfl rfl rfl rfl rfl (by kernel_rfl) (wGk p hok hn hg pv pw pn pl da dc M2 (h3.mono hM2) hdc (hds.mono hM2) (h1.mono hM2) (h2.mono hM2) 3 (by decide) 3 sb sb1 esb esb1)) ?_; rintro _ M3 _ ⟨hM3, R3, rfl, ⟨d, rfl, bvd, wvd, rfl, hBd, hWd⟩, rfl⟩
   refine wAp ((hM2).trans hM3) (by simp) ?_
   simp only [nA]
   refine wFj (i := 4) rfl (by kernel_rfl) (by kernel_rfl) rfl ?_
   refine wFj (i := 5) rfl (by kernel_rfl) (by kernel_rfl) rfl ?_
   refine wFj (i := 6) rfl (by kernel_rfl) (by kernel_rfl) rfl ?_
   refine wBa [7] (by kernel_rfl) rfl ⟨?_, trivial⟩
   refine wCs rfl rfl rfl (wCx rfl rfl) ?_; rintro _ _ _ ⟨b5, rfl, rfl, rfl⟩
   refine wAp ((hM2.trans hM3)) (by simp) ?_
   refine wBq (listed' := #[true, true, true, true, true, true, true, true, false, false]) (by kernel_rfl) (wBp (.cons (t := 1) rfl (.cons (t := 2) rfl (.cons (t := 5) rfl (.cons (t := 18) rfl (.cons (t := 19) rfl .nil))))) ?_)
   exact rest (_, _, _, _) ⟨(hM2.trans hM3), hBd, hWd⟩
  refine wCs rfl rfl rfl (wCx rfl rfl) ?_; rintro _ _ _ ⟨b5, rfl, rfl, rfl⟩
  refine wAp (hM2) (by simp) ?_
  refine wBa [3] (by kernel_rfl) rfl ⟨?_, trivial⟩
  refine wCs rfl rfl rfl (wAt rfl rfl rfl rfl rfl (by kernel_rfl) (wGk p hok hn hg pv pw pn pl da dc M2 (h3.mono hM2) hdc (hds.mono hM2) (h1.mono hM2) (h2.mono hM2) 3 (by decide) 3 sb sb1 esb esb1)) ?_; rintro _ M3 _ ⟨hM3, R3, rfl, ⟨d, rfl, bvd, wvd, rfl, hBd, hWd⟩, rfl⟩
  refine wAp ((hM2).trans hM3) (by simp) ?_
  simp only [nA]
  refine wFj (i := 4) rfl (by kernel_rfl) (by kernel_rfl) rfl ?_
  refine wFj (i := 5) rfl (by kernel_rfl) (by kernel_rfl) rfl ?_
  refine wFj (i := 6) rfl (by kernel_rfl) (by kernel_rfl) rfl ?_
  refine wBq (listed' := #[true, true, true, true, true, true, true, true, false, false]) (by kernel_rfl) (wBp (.cons (t := 1) rfl (.cons (t := 2) rfl (.cons (t := 5) rfl (.cons (t := 18) rfl (.cons (t := 19) rfl .nil))))) ?_)
  exact rest (_, _, _, _) ⟨(hM2.trans hM3), hBd, hWd⟩
 refine wCs rfl rfl rfl (wCx rfl rfl) ?_; rintro _ _ _ ⟨b5, rfl, rfl, rfl⟩
 refine wAp (MLe.refl _) (by simp) ?_
 refine wBa [2] (by kernel_rfl) rfl ⟨?_, trivial⟩
 refine wCs rfl rfl rfl (wAt rfl rfl rfl rfl rfl (by kernel_rfl) (steps_spec p pv pw pn pl da dc _)) ?_; rintro _ M2 _ ⟨hM2, R2, rfl, sb, sb1, rfl, esb, esb1, rfl⟩
 refine wAp (hM2) (by simp) ?_
 simp only [nA]
 refine wBa [3] (by kernel_rfl) rfl ⟨?_, trivial⟩
 refine wCs rfl rfl rfl (wAt rfl rfl rfl rfl rfl (by kernel_rfl) (wGk p hok hn hg pv pw pn pl da dc M2 (h3.mono hM2) hdc (hds.mono hM2) (h1.mono hM2) (h2.mono hM2) 3 (by decide) 3 sb sb1 esb esb1)) ?_; rintro _ M3 _ ⟨hM3, R3, rfl, ⟨d, rfl, bvd, wvd, rfl, hBd, hWd⟩, rfl⟩
 refine wAp ((hM2).trans hM3) (by simp) ?_
 simp only [nA]
 refine wFj (i := 4) rfl (by kernel_rfl) (by kernel_rfl) rfl ?_
 refine wFj (i := 5) rfl (by kernel_rfl) (by kernel_rfl) rfl ?_
 refine wFj (i := 6) rfl (by kernel_rfl) (by kernel_rfl) rfl ?_
 refine wBq (listed' := #[true, true, true, true, true, true, true, true, false, false]) (by kernel_rfl) (wBp (.cons (t := 1) rfl (.cons (t := 2) rfl (.cons (t := 5) rfl (.cons (t := 18) rfl (.cons (t := 19) rfl .nil))))) ?_)
 exact rest (_, _, _, _) ⟨(hM2.trans hM3), hBd, hWd⟩
theorem CrN.form {bs : List (List By)} {ws : List Wt} {keep : List Bool} {u : Value} {M M' : Mem} (h : if keep.length = ws.length then ∃ d, u = .tuple #[d, .int .i64 0] ∧ DkP M M' d (wFs bs (wGc keep ws)) [] else u = .tuple #[.agg #[.slice none 0 0, .slice none 0 0], .int .i64 2]) :
  ∃ va vn vc wa wn wc e, u = .tuple #[.agg #[.slice va vn vc, .slice wa wn wc], .int .i64 e] ∧ (if keep.length = ws.length then e = 0 ∧ DkP M M' (.agg #[.slice va vn vc, .slice wa wn wc]) (wFs bs (wGc keep ws)) [] else e = 2 ∧ (.agg #[.slice va vn vc, .slice wa wn wc] : Value) = dskZ) := by
 by_cases hl : keep.length = ws.length
 ·rw [if_pos hl] at h
  obtain ⟨d, rfl, hb, rb, wv, rfl, h0, h1, h2⟩ := h
  obtain ⟨b, e, _, rfl, _⟩ := id h2
  exact ⟨_, _, _, b, _, e, 0, rfl, by rw [if_pos hl]; exact ⟨rfl, hb, rb, _, rfl, h0, h1, h2⟩⟩
 rw [if_neg hl] at h
 exact ⟨none, 0, 0, none, 0, 0, 2, h, by rw [if_neg hl]; exact ⟨rfl, rfl⟩⟩
set_option maxHeartbeats 2000000 in
theorem cut_walkN (p : Po) (pv pw pn pl : Value) (da : Option Addr) (dc : Nat) (M : Mem) (h1 : LS M pv p.st.blocks) (h2 : WS M pw p.st.waits) (h3 : BS M pn p.st.now) (h4 : BS M pl p.st.last) (hdc : p.dead.length ≤ dc) (hds : SM M da (wAw p.dead)) (hn : PoN p) (phase : Int) (keep : List Bool) (ka : Option Addr) (kc : Nat) (hks : SM M ka (wDd keep)) (hkl : keep.length ≤ 1000000) :
  SpecL Tryz.prog 8 #[.agg (poc pv pw pn pl p.gen p.root p.next (.slice da p.dead.length dc)).toArray, .int .i64 phase, .slice ka keep.length kc] M [] fun u M' L' => CutN p phase keep u M M' ∧ L' = [] := by
 have hPT : PT M (.agg (poc pv pw pn pl p.gen p.root p.next (.slice da p.dead.length dc)).toArray) p := ⟨pv, pw, pn, pl, _, rfl, h1, h2, h3, h4, da, dc, rfl, hdc, hds⟩
 have hgg := hn.gen
 refine wAe (vs := [_, _, _]) 46 _ Tryz.func8 rfl Tryz.ntmps8 rfl rfl ?_; intro W
 refine wAb (wAa (wAv rfl rfl (wBw (cs := [_, _, _, _, _, _, _, _]) rfl rfl rfl rfl) ?_)); rintro _ _ _ ⟨b3, rfl, rfl, rfl⟩
 refine sAl rfl fun b6 => ?_
 refine jp rfl (wAc (jT (wAb (wAb (wAa (sLL rfl ?_))))))
 refine wAv rfl rfl (wAt rfl rfl rfl rfl rfl (by kernel_rfl) (casked_spec p _ M hPT hn)) ?_; rintro _ M0 _ ⟨hM0, _, rfl, ⟨rfl, rfl⟩⟩
 simp only [nA]
 refine jp rfl (wAc (jT (wAb (wAa (jp rfl (js rfl (fun h15 => ?_) (fun h15 => ?_)))))))
 ·refine wAc (jT (wAg rfl (wAb (wAa (wAi rfl rfl (wAq (cs := [_, _]) rfl rfl rfl (by rfl)) ?_)))))
  refine jp rfl (sSt rfl ?_)
  refine jp rfl (wAc (jT (wAf (jTr (wBr (rs := [_, _]) ([]) (by exact List.nil_sublist _) rfl (.cons (.agg rfl rfl rfl) (.cons (.tmp rfl) .nil)) ?_)))))
  exact ⟨by unfold CutN; rw [if_neg h15]; rfl, rfl⟩
 refine wAc (jT (wAk rfl (wAd (jT (wAb (wAa (sLL rfl ?_)))))))
 have hak : wHm p = 0 := Classical.not_not.1 h15
 obtain ⟨hok, hg⟩ := askC_ok hak
 replace h1 := h1.mono hM0
 replace h2 := h2.mono hM0
 replace h3 := h3.mono hM0
 replace h4 := h4.mono hM0
 replace hds := hds.mono hM0
 refine wAv rfl rfl (wAt rfl rfl rfl rfl rfl (by kernel_rfl) (steps_spec p pv pw pn pl da dc M0)) ?_; rintro _ M2 _ ⟨hM2, _, rfl, ⟨sb, sb1, rfl, esb, esb1, rfl⟩⟩
 simp only [nA]
 refine jp rfl (wAc (jT (wAb (wAb (wAa (jp rfl (js rfl (fun h21 => ?_) (fun h21 => ?_))))))))
 ·refine jp rfl (jp rfl (jp rfl (jp rfl (jp rfl (jp rfl (wAc (jT (wAg rfl (wAb (wAa (wAi rfl rfl (wAq (cs := [_, _]) rfl rfl rfl (by rfl)) ?_)))))))))))
  refine sSt rfl ?_
  refine jp rfl (wAc (jT (wAf (jTr (wBr (rs := [_, _]) ([]) (by exact List.nil_sublist _) rfl (.cons (.agg rfl rfl rfl) (.cons (.tmp rfl) .nil)) ?_)))))
  exact ⟨by unfold CutN; rw [if_pos hak, if_pos (by omega)]; rfl, rfl⟩
 refine jp rfl (jp rfl (jp rfl (wAi rfl rfl (wBe rfl rfl rfl) ?_)))
 refine js rfl (fun h26 => ?_) (fun h26 => ?_)
 ·refine jp rfl (wAc (jT (wAg rfl (wAb (wAa (wAi rfl rfl (wAq (cs := [_, _]) rfl rfl rfl (by rfl)) ?_))))))
  refine sSt rfl ?_
  refine jp rfl (wAc (jT (wAf (jTr (wBr (rs := [_, _]) ([]) (by exact List.nil_sublist _) rfl (.cons (.agg rfl rfl rfl) (.cons (.tmp rfl) .nil)) ?_)))))
  exact ⟨by unfold CutN; rw [if_pos hak, if_pos (by omega)]; rfl, rfl⟩
 refine jp rfl (wAc (jT (wAk rfl (wAd (jT (wAb (wEf ([(b6, .cells [.slice none 0 0, .slice none 0 0].toArray TDk (0, 0)), (b3, .cells (poc pv pw pn pl p.gen p.root p.next (.slice da p.dead.length dc)).toArray TPo (0, 0))]) (by kernel_rfl) (by simp) ?_)))))))
 refine wDg (i := 0) rfl (by kernel_rfl) (by kernel_rfl) rfl rfl (qLdL rfl rfl rfl rfl rfl) ?_
 refine wFj (i := 1) rfl (by kernel_rfl) (by kernel_rfl) rfl ?_
 refine wFj (i := 2) rfl (by kernel_rfl) (by kernel_rfl) rfl ?_
 refine wDg (i := 3) rfl (by kernel_rfl) (by kernel_rfl) rfl rfl (qEq (qSl rfl rfl rfl (.no _) (.of (v := phase.toNat) rfl (by omega) rfl) (.no _) (by omega) (by simp)) (v' := .slice (some ⟨sb, 0, none⟩) phase.toNat 3) (by rw [wEq]; rfl)) ?_
 refine wEh (α := Mem × Value × Value × Nat) (fun y => MLe M2 y.1 ∧ LS y.1 y.2.1 (dsk p phase.toNat).1 ∧ WS y.1 y.2.2.1 (dsk p phase.toNat).2) (fun y => [(2, .slice ka keep.length kc), (6, .pointer (some ⟨b6, 0, none⟩)), (10, .pointer (some ⟨y.2.2.2, 0, none⟩)), (35, .agg [y.2.1, y.2.2.1].toArray), (36, .int .i64 0)]) (fun y => y.1) (fun y => [(y.2.2.2, .cells [.slice none 0 0, .slice none 0 0].toArray TDk (0, 0)), (b6, .cells [.slice none 0 0, .slice none 0 0].toArray TDk (0, 0)), (b3, .cells (poc pv pw pn pl p.gen p.root p.next (.slice da p.dead.length dc)).toArray TPo (0, 0))]) 2 #[true, true, true, true, true, true, true, true, true, false, false] ?_ (fun rest => ?_)
 ·rintro ⟨Mr, bvd, wvd, b10⟩ ⟨hMr, hBd, hWd⟩
  try dsimp only at hMr hBd hWd ⊢
  obtain ⟨xa, xc, xps, rfl, _⟩ := id hBd
  obtain ⟨ya, yc, yps, rfl, _⟩ := id hWd
  refine wFo (i := 9) (by kernel_rfl) ?_
  refine js_s rfl rfl (wBd rfl rfl rfl rfl rfl rfl rfl rfl) ?_; rintro _ _ _ ⟨rfl, rfl⟩
  refine wAp (hMr) (by simp) ?_
  refine wFj (i := 10) rfl (by kernel_rfl) (by kernel_rfl) rfl ?_
  refine wHi (by kernel_rfl) ?_
  refine jPn (jT (wAb (wAb (wAa (jp rfl (jf rfl (decide_eq_false (by omega)) ?_))))))
  refine wAc (jT (wAk rfl (wAd (jT (wAb (wAa (sLL rfl ?_)))))))
  refine jp rfl (wAv rfl rfl (wAt rfl rfl rfl rfl rfl (by kernel_rfl) (crash_newspec (dsk p phase.toNat).1 (dsk p phase.toNat).2 _ _ Mr hBd hWd (wFw hok hn _) keep ka kc (hks.mono (hM0.trans (hM2.trans hMr))) hkl)) ?_); rintro _ Mc _ ⟨hMc, _, rfl, ⟨hcr, rfl⟩⟩
  simp only [nA]
  obtain ⟨va, vn, vc, wa, wn, wc, e, rfl, hcr2⟩ := CrN.form hcr
  refine jp rfl (jp rfl (sSt rfl ?_))
  refine jp rfl (wAc (jT (wAf (wBr (rs := [_, _]) ([]) (by exact List.nil_sublist _) rfl (.cons (.agg rfl rfl rfl) (.cons (.tmp rfl) .nil)) ?_))))
  refine ⟨?_, rfl⟩
  unfold CutN; rw [if_pos hak, if_neg (by omega)]
  by_cases hl : keep.length = (dsk p phase.toNat).2.length
  ·rw [if_pos hl] at hcr2 ⊢; obtain ⟨rfl, hd⟩ := hcr2; exact ⟨_, rfl, hd.anti (hM0.trans (hM2.trans hMr))⟩
  rw [if_neg hl] at hcr2 ⊢; obtain ⟨rfl, hd⟩ := hcr2; show Value.tuple #[.agg #[.slice va vn vc, .slice wa wn wc], .int .i64 2] = _; rw [hd]
 refine wBa [4, 8] (by kernel_rfl) rfl ⟨?_, ?_, trivial⟩
 ·refine wCs rfl rfl rfl (wAt rfl rfl rfl rfl rfl (by kernel_rfl) (wGk p hok hn hg pv pw pn pl da dc M2 (h3.mono hM2) hdc (hds.mono hM2) (h1.mono hM2) (h2.mono hM2) phase.toNat (by omega) 3 sb sb1 esb esb1)) ?_; rintro _ M4 _ ⟨hM4, R4, rfl, ⟨d, rfl, bvd, wvd, rfl, hBd, hWd⟩, rfl⟩
  refine wAp (hM4) (by simp) ?_
  simp only [nA]
  refine wFj (i := 5) rfl (by kernel_rfl) (by kernel_rfl) rfl ?_
  refine wFj (i := 6) rfl (by kernel_rfl) (by kernel_rfl) rfl ?_
  refine wFj (i := 7) rfl (by kernel_rfl) (by kernel_rfl) rfl ?_
  refine wBa [8] (by kernel_rfl) rfl ⟨?_, trivial⟩
  refine wCs rfl rfl rfl (wCx rfl rfl) ?_; rintro _ _ _ ⟨b10, rfl, rfl, rfl⟩
  refine wAp (hM4) (by simp) ?_
  refine wBq (listed' := #[true, true, true, true, true, true, true, true, true, false, false]) (by kernel_rfl) (wBp (.cons (t := 2) rfl (.cons (t := 6) rfl (.cons (t := 10) rfl (.cons (t := 35) rfl (.cons (t := 36) rfl .nil))))) ?_)
  exact rest (_, _, _, _) ⟨hM4, hBd, hWd⟩
 refine wCs rfl rfl rfl (wCx rfl rfl) ?_; rintro _ _ _ ⟨b10, rfl, rfl, rfl⟩
 refine wAp (MLe.refl _) (by simp) ?_
 refine wBa [4] (by kernel_rfl) rfl ⟨?_, trivial⟩
 refine wCs rfl rfl rfl (wAt rfl rfl rfl rfl rfl (by kernel_rfl) (wGk p hok hn hg pv pw pn pl da dc M2 (h3.mono hM2) hdc (hds.mono hM2) (h1.mono hM2) (h2.mono hM2) phase.toNat (by omega) 3 sb sb1 esb esb1)) ?_; rintro _ M4 _ ⟨hM4, R4, rfl, ⟨d, rfl, bvd, wvd, rfl, hBd, hWd⟩, rfl⟩
 refine wAp (hM4) (by simp) ?_
 simp only [nA]
 refine wFj (i := 5) rfl (by kernel_rfl) (by kernel_rfl) rfl ?_
 refine wFj (i := 6) rfl (by kernel_rfl) (by kernel_rfl) rfl ?_
 refine wFj (i := 7) rfl (by kernel_rfl) (by kernel_rfl) rfl ?_
 refine wBq (listed' := #[true, true, true, true, true, true, true, true, true, false, false]) (by kernel_rfl) (wBp (.cons (t := 2) rfl (.cons (t := 6) rfl (.cons (t := 10) rfl (.cons (t := 35) rfl (.cons (t := 36) rfl .nil))))) ?_)
 exact rest (_, _, _, _) ⟨hM4, hBd, hWd⟩
theorem wJd (p : Po) (v : Value) (M : Mem) (h : PT M v p) (hn : PoN p) : SpecL Tryz.prog 6 #[v] M [] fun u M' L' => ComN p u M M' ∧ L' = [] := by
 obtain ⟨pv, pw, pn, pl, dv, rfl, h1, h2, h3, h4, da, dc, rfl, hdc, hds⟩ := h
 exact commit_walkN p pv pw pn pl da dc M h1 h2 h3 h4 hdc hds hn
theorem cut_newspec (p : Po) (v : Value) (M : Mem) (h : PT M v p) (hn : PoN p) (phase : Int) (keep : List Bool) (ka : Option Addr) (kc : Nat) (hks : SM M ka (wDd keep)) (hkl : keep.length ≤ 1000000) : SpecL Tryz.prog 8 #[v, .int .i64 phase, .slice ka keep.length kc] M [] fun u M' L' => CutN p phase keep u M M' ∧ L' = [] := by
 obtain ⟨pv, pw, pn, pl, dv, rfl, h1, h2, h3, h4, da, dc, rfl, hdc, hds⟩ := h
 exact cut_walkN p pv pw pn pl da dc M h1 h2 h3 h4 hdc hds hn phase keep ka kc hks hkl
end Go.Proofs.YtbhkdjheooknfaaGreat
