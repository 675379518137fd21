/- Walks: the law CommitDoes. -/
import Derived.Test.YtbhkdjheooknfaaGreatZLc
namespace Go.Proofs.YtbhkdjheooknfaaGreat
set_option linter.unusedVariables false
set_option linter.unusedSectionVars false
set_option linter.unusedSimpArgs false
open Go.RowKit
set_option maxHeartbeats 4000000 in
theorem commitdoes_bad (p : Po) (hgen : 0 ≤ p.gen ∧ p.gen < 4294967296) (hnxt : 0 ≤ p.next ∧ p.next < 4294967296) (hr : -9223372036854775808 ≤ p.root ∧ p.root ≤ 9223372036854775807) (hdb : ∀ d ∈ p.dead, -9223372036854775808 ≤ d ∧ d ≤ 9223372036854775807) (bv wv nv lw : Value) (da : Option Addr) (dc : Nat) (M : Mem) (hP : PT M (.agg #[bv, wv, nv, lw, .int .u32 p.gen, .int .i64 p.root, .int .u32 p.next, .slice da p.dead.length dc]) p) (phase : Int) (keep : List Bool) (ka : Option Addr) (kc : Nat) (hks : SM M ka (wDd keep)) (hak : ¬ wHm p = 0) :
  SpecL Tryz.prog 3 #[.agg #[bv, wv, nv, lw, .int .u32 p.gen, .int .i64 p.root, .int .u32 p.next, .slice da p.dead.length dc], .int .i64 phase, .slice ka keep.length kc] M [] fun u _ _ => u = .bool true := by
 refine wAe (vs := [_, _, _]) 165 _ Tryz.func3 rfl Tryz.ntmps3 rfl rfl ?_; intro W
 refine wAb (wAa (wAv rfl rfl (wBw (cs := [_, _, _, _, _, _, _, _]) rfl rfl rfl rfl) ?_)); rintro _ _ _ ⟨b3, rfl, rfl, rfl⟩
 refine jp rfl (wAc (jT (wAb (wAb (wAa (sLL rfl ?_))))))
 refine wAv rfl rfl (wAt rfl rfl rfl rfl rfl (by kernel_rfl) (rgreat14_or p _ M hP)) ?_; rintro _ M1 _ ⟨hM1, Rg, rfl, hy⟩
 rcases hy with ⟨rfl, hy⟩ | ⟨rfl, hy⟩
 ·refine jp rfl (jp rfl (jp rfl (jp rfl (jp rfl (wAc (jT (wAg rfl (wAb (wAa (jp rfl (wAc (jT (wAf (jTr (jr1 rfl rfl ?_)))))))))))))))
  rfl
 refine jp rfl (jp rfl (wAi rfl rfl (wBe rfl rfl rfl) ?_))
 refine js rfl (fun h25 => ?_) (fun h25 => ?_)
 ·refine jp rfl (wAc (jT (wAg rfl (wAb (wAa (jp rfl (wAc (jT (wAf (jTr (jr1 rfl rfl ?_)))))))))))
  rfl
 refine jp rfl (wAc (jT (wAk rfl (wAd (jT (wAb ?_))))))
 obtain ⟨rfl, hf⟩ := hy
 simp only [nA]
 have hn : PoN p := ⟨hgen, hnxt, by have := hf.2; omega⟩
 refine wAa (sLL rfl ?_)
 have hP1 := hP.mono hM1
 refine wAv rfl rfl (wAt rfl rfl rfl rfl rfl (by kernel_rfl) (rtwin14_spec p _ M1 hP1 hf)) ?_; rintro _ Mt _ ⟨hMt, _, rfl, ⟨hT, rfl⟩⟩
 obtain ⟨ov, ow, on, ol, od, rfl, k1, k2, k3, k4, oa5, oc5, rfl, _⟩ := id hT
 obtain ⟨oa1, oc1, _, rfl, _⟩ := id k1
 obtain ⟨oa2, oc2, _, rfl, _⟩ := id k2
 obtain ⟨oa3, oc3, rfl, _⟩ := id k3
 obtain ⟨oa4, oc4, rfl, _⟩ := id k4
 clear k1 k2 k3 k4
 simp only [nA]
 refine sAl rfl fun b7 => ?_
 refine sSt rfl ?_
 refine wAc (jT (wAb (wAa (sLL rfl ?_))))
 refine wAv rfl rfl (wAt rfl rfl rfl rfl rfl (by kernel_rfl) (wJd p _ Mt hT hn)) ?_; rintro _ M2 _ ⟨hM2, _, rfl, ⟨hcm, rfl⟩⟩
 unfold ComN at hcm
 simp only [nA]
 rw [if_neg hak] at hcm
 subst hcm
 refine jp rfl (jp rfl (jp rfl (sAl rfl fun b8 => ?_)))
 refine sSt rfl ?_
 refine jp rfl (wAc (jT (wAb (wAa (sLL rfl ?_)))))
 refine wAv rfl rfl (wAt rfl rfl rfl rfl rfl (by kernel_rfl) (rcommit_spec p _ M2 ((hP1.mono hMt).mono hM2) hn hf hr hdb)) ?_; rintro _ M3 _ ⟨hM3, _, rfl, ⟨hrc, rfl⟩⟩
 unfold ComR at hrc
 simp only [nA]
 rw [if_neg hak] at hrc
 subst hrc
 refine jp rfl (jp rfl (jp rfl (sAl rfl fun b10 => ?_)))
 refine sSt rfl ?_
 refine jp rfl (wAc (jT (wAb (wAa (sLL rfl ?_)))))
 refine jp rfl (jp rfl (wAv rfl rfl (wAt rfl rfl rfl rfl rfl (by kernel_rfl) (cut_newspec p _ M3 ((hT.mono hM2).mono hM3) hn phase keep ka kc (hks.mono (hM1.trans (hMt.trans (hM2.trans hM3)))) (by omega))) ?_)); rintro _ M4 _ ⟨hM4, _, rfl, ⟨hct, rfl⟩⟩
 obtain ⟨cba, cwa3, cbc, cwc3, rfl, hCt⟩ := cut_out hct
 simp only [nA]
 refine jp rfl (jp rfl (jp rfl (sAl rfl fun b12 => ?_)))
 refine sSt rfl ?_
 refine jp rfl (wAc (jT (wAb (wAa (sLL rfl ?_)))))
 refine jp rfl (jp rfl (wAv rfl rfl (wAt rfl rfl rfl rfl rfl (by kernel_rfl) (rcut_spec p _ M4 ((((hP1.mono hMt).mono hM2).mono hM3).mono hM4) hn hf hr hdb phase keep ka kc (hks.mono (hM1.trans (hMt.trans (hM2.trans (hM3.trans hM4))))) (by omega))) ?_)); rintro _ M5 _ ⟨hM5, _, rfl, ⟨hrt, rfl⟩⟩
 obtain ⟨dba, dwa3, dbc, dwc3, rfl, hd1, hd2⟩ := cut_ref hrt
 simp only [nA]
 refine jp rfl (jp rfl (jp rfl (sAl rfl fun b14 => ?_)))
 refine sSt rfl ?_
 refine jp rfl (wAc (jT (wAb (wAb (wAa (sLL rfl ?_))))))
 refine sLL rfl ?_
 refine wAi rfl rfl (wAy rfl rfl rfl rfl rfl (by kernel_rfl) (wFu po0 _ _ M5 pt_zero pt_zero few_zero)) ?_
 refine jp rfl (jp rfl (jp rfl (jp rfl (jf rfl (decide_eq_false (by first | omega | simp)) ?_))))
 refine jp rfl (jp rfl (sLL rfl ?_))
 refine sLL rfl ?_
 refine wAi rfl rfl (wAy rfl rfl rfl rfl rfl (by kernel_rfl) ((wJf (wKf p phase keep) [] _ _ _ _ M5 (hCt.b.mono hM5) (hCt.w.mono hM5) hd1 hd2 (cut_few hn)).mono fun _ _ _ h => h.1)) ?_
 refine jp rfl (jp rfl (jp rfl (jp rfl (jp rfl (jf rfl (decide_eq_false (by first | omega | simp)) ?_)))))
 refine jp rfl (wAc (jT (wAk rfl (wAd (jT (wAb (wAb (wAa (jp rfl (wAc (jT (wAh ?_))))))))))))
 refine wAo (α := Unit) (fun _ => [(3, .pointer (some ⟨b3, 0, none⟩)), (7, .pointer (some ⟨b7, 0, none⟩)), (8, .pointer (some ⟨b8, 0, none⟩)), (12, .pointer (some ⟨b12, 0, none⟩)), (16, .int .i64 0)]) (fun _ => M5) (fun _ => [(b14, .cells [.slice dba (wKf p phase keep).length dbc, .slice dwa3 0 dwc3].toArray 25 (0, 0)), (b12, .cells [.slice cba (wKf p phase keep).length cbc, .slice cwa3 0 cwc3].toArray 25 (0, 0)), (b10, .cells [.slice none 0 0, .slice none 0 0, .slice none 0 0, .slice none 0 0, .int .u32 0, .int .i64 0, .int .u32 0, .slice none 0 0].toArray 32 (0, 0)), (b8, .cells [.slice none 0 0, .slice none 0 0, .slice none 0 0, .slice none 0 0, .int .u32 0, .int .i64 0, .int .u32 0, .slice none 0 0].toArray 32 (0, 0)), (b7, .cells [.slice oa1 p.st.blocks.length oc1, .slice oa2 p.st.waits.length oc2, .slice oa3 p.st.now.length oc3, .slice oa4 p.st.last.length oc4, .int .u32 p.gen, .int .i64 p.root, .int .u32 p.next, .slice oa5 p.dead.length oc5].toArray 32 (0, 0)), (b3, .cells [bv, wv, nv, lw, .int .u32 p.gen, .int .i64 p.root, .int .u32 p.next, .slice da p.dead.length dc].toArray 32 (0, 0))]) (fun _ => True) (fun _ => 0)
  () (.cons (t := 3) rfl (.cons (t := 7) rfl (.cons (t := 8) rfl (.cons (t := 12) rfl (.cons (t := 16) rfl .nil))))) trivial (fun _ h => h) ?_
 rintro ⟨⟩ _
 try dsimp only
 refine wAb (wAb (wAa (jp rfl (sFa rfl ?_))))
 refine sFL rfl rfl ?_
 refine wAi rfl rfl (wBe rfl rfl rfl) ?_
 refine jf rfl (decide_eq_false (by first | omega | simp)) ?_
 refine wAc (jT (wAk rfl (wAs (jTx (jTx (jBx (jT (wAb (wAb (wAa (jp rfl (wAc (jT (wAh ?_))))))))))))))
 refine wAo (α := Unit) (fun _ => [(3, .pointer (some ⟨b3, 0, none⟩)), (7, .pointer (some ⟨b7, 0, none⟩)), (8, .pointer (some ⟨b8, 0, none⟩)), (12, .pointer (some ⟨b12, 0, none⟩)), (17, .int .i64 0)]) (fun _ => M5) (fun _ => [(b14, .cells [.slice dba (wKf p phase keep).length dbc, .slice dwa3 0 dwc3].toArray 25 (0, 0)), (b12, .cells [.slice cba (wKf p phase keep).length cbc, .slice cwa3 0 cwc3].toArray 25 (0, 0)), (b10, .cells [.slice none 0 0, .slice none 0 0, .slice none 0 0, .slice none 0 0, .int .u32 0, .int .i64 0, .int .u32 0, .slice none 0 0].toArray 32 (0, 0)), (b8, .cells [.slice none 0 0, .slice none 0 0, .slice none 0 0, .slice none 0 0, .int .u32 0, .int .i64 0, .int .u32 0, .slice none 0 0].toArray 32 (0, 0)), (b7, .cells [.slice oa1 p.st.blocks.length oc1, .slice oa2 p.st.waits.length oc2, .slice oa3 p.st.now.length oc3, .slice oa4 p.st.last.length oc4, .int .u32 p.gen, .int .i64 p.root, .int .u32 p.next, .slice oa5 p.dead.length oc5].toArray 32 (0, 0)), (b3, .cells [bv, wv, nv, lw, .int .u32 p.gen, .int .i64 p.root, .int .u32 p.next, .slice da p.dead.length dc].toArray 32 (0, 0))]) (fun _ => True) (fun _ => 0)
  () (.cons (t := 3) rfl (.cons (t := 7) rfl (.cons (t := 8) rfl (.cons (t := 12) rfl (.cons (t := 17) rfl .nil))))) trivial (fun _ h => h) ?_
 rintro ⟨⟩ _
 try dsimp only
 refine wAb (wAb (wAa (jp rfl (sFa rfl ?_))))
 refine sFL rfl rfl ?_
 refine wAi rfl rfl (wBe rfl rfl rfl) ?_
 refine jf rfl (decide_eq_false (by first | omega | simp)) ?_
 refine wAc (jT (wAk rfl (wAs (jTx (jTx (jBx (jT (wAb (wAb (wAa (jp rfl (wAc (jT (wAh ?_))))))))))))))
 refine wAo (α := Unit) (fun _ => [(3, .pointer (some ⟨b3, 0, none⟩)), (7, .pointer (some ⟨b7, 0, none⟩)), (8, .pointer (some ⟨b8, 0, none⟩)), (12, .pointer (some ⟨b12, 0, none⟩)), (18, .int .i64 0)]) (fun _ => M5) (fun _ => [(b14, .cells [.slice dba (wKf p phase keep).length dbc, .slice dwa3 0 dwc3].toArray 25 (0, 0)), (b12, .cells [.slice cba (wKf p phase keep).length cbc, .slice cwa3 0 cwc3].toArray 25 (0, 0)), (b10, .cells [.slice none 0 0, .slice none 0 0, .slice none 0 0, .slice none 0 0, .int .u32 0, .int .i64 0, .int .u32 0, .slice none 0 0].toArray 32 (0, 0)), (b8, .cells [.slice none 0 0, .slice none 0 0, .slice none 0 0, .slice none 0 0, .int .u32 0, .int .i64 0, .int .u32 0, .slice none 0 0].toArray 32 (0, 0)), (b7, .cells [.slice oa1 p.st.blocks.length oc1, .slice oa2 p.st.waits.length oc2, .slice oa3 p.st.now.length oc3, .slice oa4 p.st.last.length oc4, .int .u32 p.gen, .int .i64 p.root, .int .u32 p.next, .slice oa5 p.dead.length oc5].toArray 32 (0, 0)), (b3, .cells [bv, wv, nv, lw, .int .u32 p.gen, .int .i64 p.root, .int .u32 p.next, .slice da p.dead.length dc].toArray 32 (0, 0))]) (fun _ => True) (fun _ => 0)
  () (.cons (t := 3) rfl (.cons (t := 7) rfl (.cons (t := 8) rfl (.cons (t := 12) rfl (.cons (t := 18) rfl .nil))))) trivial (fun _ h => h) ?_
 rintro ⟨⟩ _
 try dsimp only
 refine wAb (wAb (wAa (jp rfl (sFF rfl rfl ?_))))
 refine sFL rfl rfl ?_
 refine wAi rfl rfl (wBe rfl rfl rfl) ?_
 refine jf rfl (decide_eq_false (by first | omega | simp)) ?_
 refine wAc (jT (wAk rfl (wAs (jTx (jTx (jBx (jT (wAb (wAb (wAa (jp rfl (wAc (jT (wAh ?_))))))))))))))
 refine wAo (α := Unit) (fun _ => [(3, .pointer (some ⟨b3, 0, none⟩)), (7, .pointer (some ⟨b7, 0, none⟩)), (8, .pointer (some ⟨b8, 0, none⟩)), (12, .pointer (some ⟨b12, 0, none⟩)), (19, .int .i64 0)]) (fun _ => M5) (fun _ => [(b14, .cells [.slice dba (wKf p phase keep).length dbc, .slice dwa3 0 dwc3].toArray 25 (0, 0)), (b12, .cells [.slice cba (wKf p phase keep).length cbc, .slice cwa3 0 cwc3].toArray 25 (0, 0)), (b10, .cells [.slice none 0 0, .slice none 0 0, .slice none 0 0, .slice none 0 0, .int .u32 0, .int .i64 0, .int .u32 0, .slice none 0 0].toArray 32 (0, 0)), (b8, .cells [.slice none 0 0, .slice none 0 0, .slice none 0 0, .slice none 0 0, .int .u32 0, .int .i64 0, .int .u32 0, .slice none 0 0].toArray 32 (0, 0)), (b7, .cells [.slice oa1 p.st.blocks.length oc1, .slice oa2 p.st.waits.length oc2, .slice oa3 p.st.now.length oc3, .slice oa4 p.st.last.length oc4, .int .u32 p.gen, .int .i64 p.root, .int .u32 p.next, .slice oa5 p.dead.length oc5].toArray 32 (0, 0)), (b3, .cells [bv, wv, nv, lw, .int .u32 p.gen, .int .i64 p.root, .int .u32 p.next, .slice da p.dead.length dc].toArray 32 (0, 0))]) (fun _ => True) (fun _ => 0)
  () (.cons (t := 3) rfl (.cons (t := 7) rfl (.cons (t := 8) rfl (.cons (t := 12) rfl (.cons (t := 19) rfl .nil))))) trivial (fun _ h => h) ?_
 rintro ⟨⟩ _
 try dsimp only
 refine wAb (wAb (wAa (jp rfl (sFL rfl rfl ?_))))
 refine wAi rfl rfl (wBe rfl rfl rfl) ?_
 refine jf rfl (decide_eq_false (by first | omega | simp)) ?_
 refine wAc (jT (wAk rfl (wAs (jTx (jTx (jBx (jT (wAb (wAa (sLL rfl ?_))))))))))
 refine sLL rfl ?_
 refine wAi rfl rfl (wAy rfl rfl rfl rfl rfl (by kernel_rfl) (wFu p _ _ M5 (hT.mono (hM2.trans (hM3.trans (hM4.trans hM5)))) (hP1.mono (hMt.trans (hM2.trans (hM3.trans (hM4.trans hM5))))) hf)) ?_
 refine jp rfl (wAc (jT (wAf (jr1 rfl rfl ?_))))
 rfl
set_option maxHeartbeats 8000000 in
theorem commitdoes_ok (p : Po) (hgen : 0 ≤ p.gen ∧ p.gen < 4294967296) (hnxt : 0 ≤ p.next ∧ p.next < 4294967296) (hr : -9223372036854775808 ≤ p.root ∧ p.root ≤ 9223372036854775807) (hdb : ∀ d ∈ p.dead, -9223372036854775808 ≤ d ∧ d ≤ 9223372036854775807) (bv wv nv lw : Value) (da : Option Addr) (dc : Nat) (M : Mem) (hP : PT M (.agg #[bv, wv, nv, lw, .int .u32 p.gen, .int .i64 p.root, .int .u32 p.next, .slice da p.dead.length dc]) p) (phase : Int) (keep : List Bool) (ka : Option Addr) (kc : Nat) (hks : SM M ka (wDd keep)) (hak : wHm p = 0) :
  SpecL Tryz.prog 3 #[.agg #[bv, wv, nv, lw, .int .u32 p.gen, .int .i64 p.root, .int .u32 p.next, .slice da p.dead.length dc], .int .i64 phase, .slice ka keep.length kc] M [] fun u _ _ => u = .bool true := by
 obtain ⟨hok, hgm⟩ := askC_ok hak
 refine wAe (vs := [_, _, _]) 165 _ Tryz.func3 rfl Tryz.ntmps3 rfl rfl ?_; intro W
 refine wAb (wAa (wAv rfl rfl (wBw (cs := [_, _, _, _, _, _, _, _]) rfl rfl rfl rfl) ?_)); rintro _ _ _ ⟨b3, rfl, rfl, rfl⟩
 refine jp rfl (wAc (jT (wAb (wAb (wAa (sLL rfl ?_))))))
 refine wAv rfl rfl (wAt rfl rfl rfl rfl rfl (by kernel_rfl) (rgreat14_or p _ M hP)) ?_; rintro _ M1 _ ⟨hM1, Rg, rfl, hy⟩
 rcases hy with ⟨rfl, hy⟩ | ⟨rfl, hy⟩
 ·refine jp rfl (jp rfl (jp rfl (jp rfl (jp rfl (wAc (jT (wAg rfl (wAb (wAa (jp rfl (wAc (jT (wAf (jTr (jr1 rfl rfl ?_)))))))))))))))
  rfl
 refine jp rfl (jp rfl (wAi rfl rfl (wBe rfl rfl rfl) ?_))
 refine js rfl (fun h25 => ?_) (fun h25 => ?_)
 ·refine jp rfl (wAc (jT (wAg rfl (wAb (wAa (jp rfl (wAc (jT (wAf (jTr (jr1 rfl rfl ?_)))))))))))
  rfl
 refine jp rfl (wAc (jT (wAk rfl (wAd (jT (wAb ?_))))))
 obtain ⟨rfl, hf⟩ := hy
 simp only [nA]
 have hn : PoN p := ⟨hgen, hnxt, by have := hf.2; omega⟩
 refine wAa (sLL rfl ?_)
 have hP1 := hP.mono hM1
 refine wAv rfl rfl (wAt rfl rfl rfl rfl rfl (by kernel_rfl) (rtwin14_spec p _ M1 hP1 hf)) ?_; rintro _ Mt _ ⟨hMt, _, rfl, ⟨hT, rfl⟩⟩
 obtain ⟨ov, ow, on, ol, od, rfl, k1, k2, k3, k4, oa5, oc5, rfl, _⟩ := id hT
 obtain ⟨oa1, oc1, _, rfl, _⟩ := id k1
 obtain ⟨oa2, oc2, _, rfl, _⟩ := id k2
 obtain ⟨oa3, oc3, rfl, _⟩ := id k3
 obtain ⟨oa4, oc4, rfl, _⟩ := id k4
 clear k1 k2 k3 k4
 simp only [nA]
 refine sAl rfl fun b7 => ?_
 refine sSt rfl ?_
 refine wAc (jT (wAb (wAa (sLL rfl ?_))))
 refine wAv rfl rfl (wAt rfl rfl rfl rfl rfl (by kernel_rfl) (wJd p _ Mt hT hn)) ?_; rintro _ M2 _ ⟨hM2, _, rfl, ⟨hcm, rfl⟩⟩
 unfold ComN at hcm
 simp only [nA]
 rw [if_pos hak] at hcm
 obtain ⟨_, hb, rb, cw, cn, cl, cd, Mb, Mx, My, Mz, Mu, Mc, rfl, rfl, hC⟩ := hcm
 have hcn : (cmt p).st.now.length = 256 := hok.st.2.1.1
 have hcl : (cmt p).st.last.length = 256 := hok.st.2.1.1
 obtain ⟨cwa, cwc, _, rfl, _⟩ := id hC.w
 obtain ⟨gn, qn, nc, ln, en, rfl, hnc, hgn0, hgn1, hgnl⟩ := wr_bytes hC.nn (by omega)
 obtain ⟨gl, ql, lc, ll, el, rfl, hlc, hgl0, hgl1, hgll⟩ := wr_bytes hC.nl (by omega)
 obtain ⟨dda, ddc, rfl, _⟩ := id hC.d
 have hA2 := hC.pt
 refine jp rfl (jp rfl (jp rfl (sAl rfl fun b8 => ?_)))
 refine sSt rfl ?_
 refine jp rfl (wAc (jT (wAb (wAa (sLL rfl ?_)))))
 refine wAv rfl rfl (wAt rfl rfl rfl rfl rfl (by kernel_rfl) (rcommit_spec p _ M2 ((hP1.mono hMt).mono hM2) hn hf hr hdb)) ?_; rintro _ M3 _ ⟨hM3, _, rfl, ⟨hrc, rfl⟩⟩
 unfold ComR at hrc
 simp only [nA]
 rw [if_pos hak] at hrc
 obtain ⟨_, rfl, rv1, rv2, rv3, rv4, rv5, Mr, rfl, r1, r2, r3, r4, r5, hr1, hr2, hrl⟩ := hrc
 have hB3 : PT M3 _ (cmt p) := ⟨_, _, _, _, _, rfl, r1, r2, r3, r4, r5⟩
 obtain ⟨ra1, rc1, _, rfl, _⟩ := id r1
 obtain ⟨ra2, rc2, _, rfl, _⟩ := id r2
 obtain ⟨ra3, rc3, rfl, _⟩ := id r3
 obtain ⟨gr, qr, rc4, lr, er, rfl, hrcc, hgr0, hgr1, hgrl⟩ := wr_bytes hrl (by omega)
 obtain ⟨ra5, rc5, rfl, _⟩ := id r5
 clear r1 r2 r3 r4 r5
 refine jp rfl (jp rfl (jp rfl (sAl rfl fun b10 => ?_)))
 refine sSt rfl ?_
 refine jp rfl (wAc (jT (wAb (wAa (sLL rfl ?_)))))
 refine jp rfl (jp rfl (wAv rfl rfl (wAt rfl rfl rfl rfl rfl (by kernel_rfl) (cut_newspec p _ M3 ((hT.mono hM2).mono hM3) hn phase keep ka kc (hks.mono (hM1.trans (hMt.trans (hM2.trans hM3)))) (by omega))) ?_)); rintro _ M4 _ ⟨hM4, _, rfl, ⟨hct, rfl⟩⟩
 obtain ⟨cba, cwa3, cbc, cwc3, rfl, hCt⟩ := cut_out hct
 simp only [nA]
 refine jp rfl (jp rfl (jp rfl (sAl rfl fun b12 => ?_)))
 refine sSt rfl ?_
 refine jp rfl (wAc (jT (wAb (wAa (sLL rfl ?_)))))
 refine jp rfl (jp rfl (wAv rfl rfl (wAt rfl rfl rfl rfl rfl (by kernel_rfl) (rcut_spec p _ M4 ((((hP1.mono hMt).mono hM2).mono hM3).mono hM4) hn hf hr hdb phase keep ka kc (hks.mono (hM1.trans (hMt.trans (hM2.trans (hM3.trans hM4))))) (by omega))) ?_)); rintro _ M5 _ ⟨hM5, _, rfl, ⟨hrt, rfl⟩⟩
 obtain ⟨dba, dwa3, dbc, dwc3, rfl, hd1, hd2⟩ := cut_ref hrt
 simp only [nA]
 refine jp rfl (jp rfl (jp rfl (sAl rfl fun b14 => ?_)))
 refine sSt rfl ?_
 refine jp rfl (wAc (jT (wAb (wAb ?_))))
 have hA5 := hA2.mono (hM3.trans (hM4.trans hM5))
 have hB5 := hB3.mono (hM4.trans hM5)
 refine wAa (sLL rfl ?_)
 refine sLL rfl ?_
 refine wAi rfl rfl (wAy rfl rfl rfl rfl rfl (by kernel_rfl) (wFu (cmt p) _ _ M5 hA5 hB5 (few_cmt hok hn hf.2))) ?_
 refine jp rfl (jp rfl (jp rfl (jp rfl (jf rfl (decide_eq_false (by omega)) ?_))))
 refine jp rfl (jp rfl (sLL rfl ?_))
 refine sLL rfl ?_
 refine wAi rfl rfl (wAy rfl rfl rfl rfl rfl (by kernel_rfl) ((wJf (wKf p phase keep) [] _ _ _ _ M5 (hCt.b.mono hM5) (hCt.w.mono hM5) hd1 hd2 (cut_few hn)).mono fun _ _ _ h => h.1)) ?_
 refine jp rfl (jp rfl (jp rfl (jp rfl (jp rfl (jf rfl (decide_eq_false (by omega)) ?_)))))
 refine jp rfl (wAc (jT (wAk rfl (wAd (jT (wAb (wAb (wAa (jp rfl (wAc (jT (wAh ?_))))))))))))
 have h25 : MLe M2 M5 := hM3.trans (hM4.trans hM5)
 have hz2 : MLe Mz M2 := hC.mt.trans (hC.mc.trans hC.m')
 have hy2 : MLe My M2 := hC.mz.trans hz2
 have hxc : MLe My Mc := hC.mz.trans (hC.mt.trans hC.mc)
 have hyt : MLe Mb My := hC.mx.trans hC.my
 have en2 := hy2 _ _ hgn1
 have tn : Mt gn = none := wFn (hC.mb.trans hC.mx) hgn0
 have tl : Mt gl = none := wFn ((hC.mb.trans hyt).trans hxc) hgl0
 have nl : gn ≠ gl := wFy (hxc _ _ hgn1) hgl0
 have gr2 : M2 gr = none := wFn hr1 hgr0
 have rn : gr ≠ gn := (wFy en2 gr2).symm
 have rl : gr ≠ gl := (wFy hgl1 gr2).symm
 obtain ⟨lh, hlh, ehb⟩ := hC.dn.h1
 have hbn : hb ≠ gn := wFy (hC.mx _ _ ehb) hgn0
 have hbl : hb ≠ gl := wFy ((hyt.trans hxc) _ _ ehb) hgl0
 have rbn : rb ≠ gn := wFy (hC.mx _ _ hC.dn.r1) hgn0
 have rbl : rb ≠ gl := wFy ((hyt.trans hxc) _ _ hC.dn.r1) hgl0
 have hb2 : MLe Mb M2 := hyt.trans hy2
 have thb : Mt hb = none := hC.dn.h0
 have hM0n : M gn = none := wFn (hM1.trans hMt) tn
 have hM0l : M gl = none := wFn (hM1.trans hMt) tl
 have hM0h : M hb = none := wFn (hM1.trans hMt) thb
 have hcb : (cmt p).st.blocks.length = 256 := (wGo (wFw hok hn 3) fun w hw => ((wFw hok hn 3).2.2.2 w hw).2.2).1
 have hWn : Wr M5 gn qn 256 .u8 := ⟨ln, en, h25 _ _ en2, fun i hi => ⟨_, hgnl i (by omega)⟩⟩
 have ht5 : MLe Mt M5 := hM2.trans h25
 have hdl : (cmt p).dead.length ≤ 1000 := hf.2
 refine wAo (α := Nat × Mem) (fun z => [(3, .pointer (some ⟨b3, 0, none⟩)), (7, .pointer (some ⟨b7, 0, none⟩)), (8, .pointer (some ⟨b8, 0, none⟩)), (10, .pointer (some ⟨b10, 0, none⟩)), (12, .pointer (some ⟨b12, 0, none⟩)), (16, .int .i64 z.1)]) (fun z => z.2) (fun _ => [(b14, .cells [.slice dba (wKf p phase keep).length dbc, .slice dwa3 0 dwc3].toArray 25 (0, 0)), (b12, .cells [.slice cba (wKf p phase keep).length cbc, .slice cwa3 0 cwc3].toArray 25 (0, 0)), (b10, .cells [.slice ra1 (cmt p).st.blocks.length rc1, .slice ra2 (cmt p).st.waits.length rc2, .slice ra3 (cmt p).st.now.length rc3, .slice (some ⟨gr, qr, none⟩) (cmt p).st.last.length rc4, .int .u32 (cmt p).gen, .int .i64 (cmt p).root, .int .u32 (cmt p).next, .slice ra5 (cmt p).dead.length rc5].toArray 32 (0, 0)), (b8, .cells [.slice (some ⟨rb, 0, none⟩) (cmt p).st.blocks.length (cmt p).st.blocks.length, .slice cwa (cmt p).st.waits.length cwc, .slice (some ⟨gn, qn, none⟩) (cmt p).st.now.length nc, .slice (some ⟨gl, ql, none⟩) (cmt p).st.last.length lc, .int .u32 (cmt p).gen, .int .i64 (cmt p).root, .int .u32 (cmt p).next, .slice dda (cmt p).dead.length ddc].toArray 32 (0, 0)), (b7, .cells [.slice oa1 p.st.blocks.length oc1, .slice oa2 p.st.waits.length oc2, .slice oa3 p.st.now.length oc3, .slice oa4 p.st.last.length oc4, .int .u32 p.gen, .int .i64 p.root, .int .u32 p.next, .slice oa5 p.dead.length oc5].toArray 32 (0, 0)), (b3, .cells [bv, wv, nv, lw, .int .u32 p.gen, .int .i64 p.root, .int .u32 p.next, .slice da p.dead.length dc].toArray 32 (0, 0))]) (fun z => z.1 ≤ 256 ∧ Wr z.2 gn qn 256 .u8 ∧ Els gn M5 z.2) (fun z => 256 - z.1)
  (0, M5) (.cons (t := 3) rfl (.cons (t := 7) rfl (.cons (t := 8) rfl (.cons (t := 10) rfl (.cons (t := 12) rfl (.cons (t := 16) rfl .nil)))))) ⟨Nat.zero_le _, hWn, Els.refl _ _⟩ (fun _ h => h) ?_
 rintro ⟨i, Mi⟩ ⟨hi, hW, hE1⟩
 try dsimp only at hi hW hE1 ⊢
 refine wAb (wAb (wAa (jp rfl (sFa rfl ?_))))
 refine sFL rfl rfl ?_
 refine wAi rfl rfl (wBe rfl rfl rfl) ?_
 refine js rfl (fun h78 => ?_) (fun h78 => ?_)
 ·refine wAc (jT (wAg rfl (wAd (jT (wAb (wAh ?_))))))
  have hi1 : i < 256 := by omega
  obtain ⟨l, e, x, hMg, hl, hall⟩ := hW.at hi1
  have hll := (List.getElem?_eq_some_iff.1 hl).1
  have hfit : Nat.ble (qn + ((i : Nat) : Int).toNat * 1 + 1) l.length = true := Nat.ble_eq_true_of_le hll
  refine jc_thaw hMg hM0n ?_
  refine wBj (p := { A := fun i => !([12].contains i), U := fun i => !([12].contains i) }) [(0, true), (1, true), (2, true), (3, true), (4, true), (5, true), (6, true), (7, true), (8, true), (9, true), (10, true), (11, true), (12, false)] (Mi.del gn) ([(gn, .cells l.toArray e (0, 0)), (b14, .cells [.slice dba (wKf p phase keep).length dbc, .slice dwa3 0 dwc3].toArray 25 (0, 0)), (b12, .cells [.slice cba (wKf p phase keep).length cbc, .slice cwa3 0 cwc3].toArray 25 (0, 0)), (b10, .cells [.slice ra1 (cmt p).st.blocks.length rc1, .slice ra2 (cmt p).st.waits.length rc2, .slice ra3 (cmt p).st.now.length rc3, .slice (some ⟨gr, qr, none⟩) (cmt p).st.last.length rc4, .int .u32 (cmt p).gen, .int .i64 (cmt p).root, .int .u32 (cmt p).next, .slice ra5 (cmt p).dead.length rc5].toArray 32 (0, 0)), (b8, .cells [.slice (some ⟨rb, 0, none⟩) (cmt p).st.blocks.length (cmt p).st.blocks.length, .slice cwa (cmt p).st.waits.length cwc, .slice (some ⟨gn, qn, none⟩) (cmt p).st.now.length nc, .slice (some ⟨gl, ql, none⟩) (cmt p).st.last.length lc, .int .u32 (cmt p).gen, .int .i64 (cmt p).root, .int .u32 (cmt p).next, .slice dda (cmt p).dead.length ddc].toArray 32 (0, 0)), (b7, .cells [.slice oa1 p.st.blocks.length oc1, .slice oa2 p.st.waits.length oc2, .slice oa3 p.st.now.length oc3, .slice oa4 p.st.last.length oc4, .int .u32 p.gen, .int .i64 p.root, .int .u32 p.next, .slice oa5 p.dead.length oc5].toArray 32 (0, 0)), (b3, .cells [bv, wv, nv, lw, .int .u32 p.gen, .int .i64 p.root, .int .u32 p.next, .slice da p.dead.length dc].toArray 32 (0, 0))]) ([]) (by kernel_rfl) (by kernel_rfl) (by kernel_rfl) (by kernel_rfl) rfl (fun _ h => h) (MLe.refl _) (by simp) ?_
  refine dFa rfl rfl ?_
  refine dFa rfl rfl ?_
  refine dLd rfl rfl ?_
  refine dp rfl rfl ?_
  refine dFa rfl rfl ?_
  refine dFa rfl rfl ?_
  refine dLd rfl rfl ?_
  refine dp rfl rfl ?_
  refine wBh rfl rfl rfl (wBb rfl rfl rfl rfl (by omega)) ?_
  refine wBh rfl rfl rfl (qLd rfl rfl rfl rfl (CJ.loc hl)) ?_
  refine wBh rfl rfl rfl (qAw rfl rfl rfl rfl rfl) ?_
  refine wBh rfl rfl rfl (wBb rfl rfl rfl rfl (by omega)) ?_
  refine jd_e rfl rfl (wBd (l2 := put1 l (qn + ((i : Nat) : Int).toNat * 1) (.int .u8 (IntKind.u8.wrap (x + 1)))) rfl rfl rfl rfl rfl rfl rfl hfit rfl) ?_; rintro _ _ _ ⟨rfl, rfl⟩
  refine ⟨MLe.refl _, by simp, ?_⟩
  refine wCn ?_
  refine jPn (jB (jT (wAa (jp rfl (ja rfl (by omega) ?_)))))
  refine jp rfl (wAc (wCa gn (by simp) ?_))
  intro M7 hM7 e7
  refine wAn (i + 1, M7) (.cons (t := 3) rfl (.cons (t := 7) rfl (.cons (t := 8) rfl (.cons (t := 10) rfl (.cons (t := 12) rfl (.cons (t := 16) rfl .nil)))))) ⟨by show i + 1 ≤ 256; omega, Wr.put hall hll e7, hE1.put hM7⟩ (by show 256 - (i + 1) < 256 - i; omega) (fun _ h => h)
 refine wAc (jT (wAk rfl (wAs (jTx (jTx (jBx (jT (wAb (wAb (wAa (jp rfl (wAc (jT (wAh ?_))))))))))))))
 have hLl : Lr Mi gl ql 256 0 p.st.now := ⟨ll, el, hE1 _ _ nl.symm (h25 _ _ hgl1), fun i hi => ⟨(List.getElem?_eq_some_iff.1 (hgll i (by omega))).1, fun _ => hgll i (by omega)⟩⟩
 have hRi := hE1 _ _ rn ((hM4.trans hM5) _ _ hgr1)
 have hti : MLe Mt Mi := hE1.le tn ht5
 refine wAo (α := Nat × Mem) (fun z => [(3, .pointer (some ⟨b3, 0, none⟩)), (7, .pointer (some ⟨b7, 0, none⟩)), (8, .pointer (some ⟨b8, 0, none⟩)), (10, .pointer (some ⟨b10, 0, none⟩)), (12, .pointer (some ⟨b12, 0, none⟩)), (17, .int .i64 z.1)]) (fun z => z.2) (fun _ => [(b14, .cells [.slice dba (wKf p phase keep).length dbc, .slice dwa3 0 dwc3].toArray 25 (0, 0)), (b12, .cells [.slice cba (wKf p phase keep).length cbc, .slice cwa3 0 cwc3].toArray 25 (0, 0)), (b10, .cells [.slice ra1 (cmt p).st.blocks.length rc1, .slice ra2 (cmt p).st.waits.length rc2, .slice ra3 (cmt p).st.now.length rc3, .slice (some ⟨gr, qr, none⟩) (cmt p).st.last.length rc4, .int .u32 (cmt p).gen, .int .i64 (cmt p).root, .int .u32 (cmt p).next, .slice ra5 (cmt p).dead.length rc5].toArray 32 (0, 0)), (b8, .cells [.slice (some ⟨rb, 0, none⟩) (cmt p).st.blocks.length (cmt p).st.blocks.length, .slice cwa (cmt p).st.waits.length cwc, .slice (some ⟨gn, qn, none⟩) (cmt p).st.now.length nc, .slice (some ⟨gl, ql, none⟩) (cmt p).st.last.length lc, .int .u32 (cmt p).gen, .int .i64 (cmt p).root, .int .u32 (cmt p).next, .slice dda (cmt p).dead.length ddc].toArray 32 (0, 0)), (b7, .cells [.slice oa1 p.st.blocks.length oc1, .slice oa2 p.st.waits.length oc2, .slice oa3 p.st.now.length oc3, .slice oa4 p.st.last.length oc4, .int .u32 p.gen, .int .i64 p.root, .int .u32 p.next, .slice oa5 p.dead.length oc5].toArray 32 (0, 0)), (b3, .cells [bv, wv, nv, lw, .int .u32 p.gen, .int .i64 p.root, .int .u32 p.next, .slice da p.dead.length dc].toArray 32 (0, 0))]) (fun z => z.1 ≤ 256 ∧ Lr z.2 gl ql 256 z.1 p.st.now ∧ Els gl Mi z.2) (fun z => 256 - z.1)
  (0, Mi) (.cons (t := 3) rfl (.cons (t := 7) rfl (.cons (t := 8) rfl (.cons (t := 10) rfl (.cons (t := 12) rfl (.cons (t := 17) rfl .nil)))))) ⟨Nat.zero_le _, hLl, Els.refl _ _⟩ (fun _ h => h) ?_
 rintro ⟨j, Mj⟩ ⟨hj, hLr, hE2⟩
 try dsimp only at hj hLr hE2 ⊢
 refine wAb (wAb (wAa (jp rfl (sFa rfl ?_))))
 refine sFL rfl rfl ?_
 refine wAi rfl rfl (wBe rfl rfl rfl) ?_
 refine js rfl (fun h98 => ?_) (fun h98 => ?_)
 ·refine wAc (jT (wAg rfl (wAd (jT (wAb (wAh (wAb (wAb ?_))))))))
  have hj1 : j < 256 := by omega
  obtain ⟨l, e, hMg, hl, hL2⟩ := hLr.at hj1
  have hrc2 : CM Mj gr (qr + ((j : Nat) : Int).toNat * 1) (.int .u8 ((p.st.now.getD j 0).toNat : Int)) := ⟨_, _, _, hE2 _ _ rl hRi, by rw [Int.toNat_natCast, Nat.mul_one]; simpa using (show lr[qr + j]? = some (.int .u8 ((p.st.now.getD j 0).toNat : Int)) from hgrl j (by omega))⟩
  refine wBn [(0, true), (1, true), (2, true), (3, true), (4, true), (5, true), (6, true), (7, true), (8, true), (9, true), (10, true), (11, true), (12, true)] _ (by kernel_rfl) (by kernel_rfl) (by kernel_rfl) rfl (fun _ h => h) ?_
  refine dFa rfl rfl ?_
  refine dFa rfl rfl ?_
  refine dLd rfl rfl ?_
  refine dp rfl rfl ?_
  refine wBh rfl rfl rfl (wBb rfl rfl rfl rfl (by omega)) ?_
  refine wBh rfl rfl rfl (qLd (v := .int .u8 ((p.st.now.getD j 0).toNat : Int)) rfl rfl rfl rfl (CM.cj ⟨_, _, _, hMg, by simpa using hl⟩ _)) ?_
  refine dFa rfl rfl ?_
  refine dFa rfl rfl ?_
  refine dLd rfl rfl ?_
  refine dp rfl rfl ?_
  refine wBh rfl rfl rfl (wBb rfl rfl rfl rfl (by omega)) ?_
  refine wBh rfl rfl rfl (qLd rfl rfl rfl rfl (hrc2.cj _)) ?_
  refine df rfl rfl (decide_eq_false (by omega)) ?_
  refine wBg (jPn (jT (wAk rfl (wAd (jT ?_)))))
  have hll := (List.getElem?_eq_some_iff.1 hl).1
  have hfit : Nat.ble (ql + ((j : Nat) : Int).toNat * 1 + 1) l.length = true := Nat.ble_eq_true_of_le hll
  refine jc_thaw hMg hM0l ?_
  refine wAa (sFa rfl ?_)
  refine sFL rfl rfl ?_
  refine jp rfl (wAi rfl rfl (wBb rfl rfl rfl rfl (by omega)) ?_)
  refine jl_s rfl (wBd (l2 := put1 l (ql + ((j : Nat) : Int).toNat * 1) (.int .u8 9)) rfl rfl rfl rfl rfl rfl rfl hfit rfl) ?_; rintro _ _ _ ⟨rfl, rfl⟩
  refine wAc (jB (jT (wAa (jp rfl (ja rfl (by omega) ?_)))))
  refine jp rfl (wAc (wCa gl (by simp) ?_))
  intro M7 hM7 e7
  refine wAn (j + 1, M7) (.cons (t := 3) rfl (.cons (t := 7) rfl (.cons (t := 8) rfl (.cons (t := 10) rfl (.cons (t := 12) rfl (.cons (t := 17) rfl .nil)))))) ⟨by show j + 1 ≤ 256; omega, Lr.put hL2 hll e7, hE2.put hM7⟩ (by show 256 - (j + 1) < 256 - j; omega) (fun _ h => h)
 refine wAc (jT (wAk rfl (wAs (jTx (jTx (jBx (jT (wAb (wAb (wAa (jp rfl (wAc (jT (wAh ?_))))))))))))))
 have htj : MLe Mt Mj := hE2.le tl hti
 have hWh : Wr Mj hb 0 32768 .u8 := ⟨_, _, hE2 _ _ hbl (hE1 _ _ hbn ((hb2.trans h25) _ _ ehb)), fun i hi => by rw [Nat.zero_add]; exact ⟨_, by rw [wAj, List.getElem?_map, List.getElem?_eq_getElem (show i < lh.length by omega)]; rfl⟩⟩
 obtain ⟨xs0, hAp0⟩ := ap_start hCt (hM3 _ _ (hb2 _ _ ehb)) (M := Mj) fun b o h0 h4 => hE2 _ _ (fun e => by subst e; rw [hM3 _ _ hgl1] at h0; cases h0) (hE1 _ _ (fun e => by subst e; rw [hM3 _ _ en2] at h0; cases h0) (hM5 _ _ h4))
 have hcfl := (cut_few (phase := phase) (keep := keep) hn).1
 obtain ⟨nn, hnn⟩ : ∃ n, n = (wKf p phase keep).length := ⟨_, rfl⟩
 refine wAo (α := Nat × Mem × Value × Lc × List Value) (fun z => [(3, .pointer (some ⟨b3, 0, none⟩)), (7, .pointer (some ⟨b7, 0, none⟩)), (8, .pointer (some ⟨b8, 0, none⟩)), (10, .pointer (some ⟨b10, 0, none⟩)), (12, .pointer (some ⟨b12, 0, none⟩)), (18, .int .i64 z.1)]) (fun z => z.2.1) (fun z => z.2.2.2.1 ++ [(b14, .cells [.slice dba (wKf p phase keep).length dbc, .slice dwa3 0 dwc3].toArray 25 (0, 0)), (b12, .cells [z.2.2.1, .slice cwa3 0 cwc3].toArray 25 (0, 0)), (b10, .cells [.slice ra1 (cmt p).st.blocks.length rc1, .slice ra2 (cmt p).st.waits.length rc2, .slice ra3 (cmt p).st.now.length rc3, .slice (some ⟨gr, qr, none⟩) (cmt p).st.last.length rc4, .int .u32 (cmt p).gen, .int .i64 (cmt p).root, .int .u32 (cmt p).next, .slice ra5 (cmt p).dead.length rc5].toArray 32 (0, 0)), (b8, .cells [.slice (some ⟨rb, 0, none⟩) (cmt p).st.blocks.length (cmt p).st.blocks.length, .slice cwa (cmt p).st.waits.length cwc, .slice (some ⟨gn, qn, none⟩) (cmt p).st.now.length nc, .slice (some ⟨gl, ql, none⟩) (cmt p).st.last.length lc, .int .u32 (cmt p).gen, .int .i64 (cmt p).root, .int .u32 (cmt p).next, .slice dda (cmt p).dead.length ddc].toArray 32 (0, 0)), (b7, .cells [.slice oa1 p.st.blocks.length oc1, .slice oa2 p.st.waits.length oc2, .slice oa3 p.st.now.length oc3, .slice oa4 p.st.last.length oc4, .int .u32 p.gen, .int .i64 p.root, .int .u32 p.next, .slice oa5 p.dead.length oc5].toArray 32 (0, 0)), (b3, .cells [bv, wv, nv, lw, .int .u32 p.gen, .int .i64 p.root, .int .u32 p.next, .slice da p.dead.length dc].toArray 32 (0, 0))]) (fun z => z.1 ≤ 256 ∧ Wr z.2.1 hb 0 32768 .u8 ∧ Els hb Mj z.2.1 ∧ Ap hb z.2.1 z.2.2.1 z.2.2.2.1 (nn + z.1) z.2.2.2.2) (fun z => 256 - z.1)
  (0, Mj, .slice cba (wKf p phase keep).length cbc, [], xs0) (.cons (t := 3) rfl (.cons (t := 7) rfl (.cons (t := 8) rfl (.cons (t := 10) rfl (.cons (t := 12) rfl (.cons (t := 18) rfl .nil)))))) ⟨Nat.zero_le _, hWh, Els.refl _ _, by rw [hnn]; exact hAp0⟩ (fun _ h => h) ?_
 rintro ⟨k, Mk, cv, R, xs⟩ ⟨hk, hW3, hE3, hAp⟩
 try dsimp only at hk hW3 hE3 hAp ⊢
 refine wAb (wAb (wAa (jp rfl (sFF rfl rfl ?_))))
 refine sFL rfl rfl ?_
 refine wAi rfl rfl (wBe rfl rfl rfl) ?_
 refine js rfl (fun h125 => ?_) (fun h125 => ?_)
 ·refine wAc (jT (wAg rfl (wAd (jT (wAb (wAh (wAb ?_)))))))
  have hk1 : k < 256 := by omega
  obtain ⟨l, e, hMg, hall⟩ := hW3
  obtain ⟨x, hl0⟩ := hall (128 * k) (by omega)
  have hl : l[128 * k + (0 : Int).toNat * 1]? = some (.int .u8 x) := by simpa using hl0
  have hrow : CM (Mk.del hb) rb (0 + ((k : Nat) : Int).toNat * 1) (.slice (some ⟨hb, 128 * k, none⟩) 128 128) := row_get (hE3.del (hE2 _ _ rbl (hE1 _ _ rbn ((hb2.trans h25) _ _ hC.dn.r1))) hC.dn.ne.symm) (by omega)
  have hll := (List.getElem?_eq_some_iff.1 hl).1
  have hfit : Nat.ble (128 * k + (0 : Int).toNat * 1 + 1) l.length = true := Nat.ble_eq_true_of_le hll
  have hOl := (hAp.els (els_del hb Mk)).old
  refine jc_thaw hMg hM0h ?_
  refine wBj (p := { A := fun i => !([18].contains i), U := fun i => !([18].contains i) }) [(0, true), (1, true), (2, true), (3, true), (4, true), (5, true), (6, true), (7, true), (8, true), (9, true), (10, true), (11, true), (12, true), (13, true), (14, true), (15, true), (16, true), (17, true), (18, false)] (Mk.del hb) ([(hb, .cells l.toArray e (0, 0)), (b8, .cells [.slice (some ⟨rb, 0, none⟩) (cmt p).st.blocks.length (cmt p).st.blocks.length, .slice cwa (cmt p).st.waits.length cwc, .slice (some ⟨gn, qn, none⟩) (cmt p).st.now.length nc, .slice (some ⟨gl, ql, none⟩) (cmt p).st.last.length lc, .int .u32 (cmt p).gen, .int .i64 (cmt p).root, .int .u32 (cmt p).next, .slice dda (cmt p).dead.length ddc].toArray 32 (0, 0))]) ([]) (by kernel_rfl) (by kernel_rfl) (by kernel_rfl) (by kernel_rfl) rfl (by simp) (MLe.refl _) (by simp) ?_
  refine dFa rfl rfl ?_
  refine dFa rfl rfl ?_
  refine dFa rfl rfl ?_
  refine dLd rfl rfl ?_
  refine dp rfl rfl ?_
  refine wBh rfl rfl rfl (wBb rfl rfl rfl rfl (by omega)) ?_
  refine wBh rfl rfl rfl (qLd rfl rfl rfl rfl (hrow.cj _)) ?_
  refine dFa rfl rfl ?_
  refine dFa rfl rfl ?_
  refine dFa rfl rfl ?_
  refine dLd rfl rfl ?_
  refine dp rfl rfl ?_
  refine wBh rfl rfl rfl (wBb rfl rfl rfl rfl (by omega)) ?_
  refine wBh rfl rfl rfl (qLd rfl rfl rfl rfl (hrow.cj _)) ?_
  refine wBh rfl rfl rfl (wBb rfl rfl rfl rfl (by omega)) ?_
  refine wBh rfl rfl rfl (qLd rfl rfl rfl rfl (CJ.loc hl)) ?_
  refine wBh rfl rfl rfl (qAw rfl rfl rfl rfl rfl) ?_
  refine wBh rfl rfl rfl (wBb rfl rfl rfl rfl (by omega)) ?_
  refine jd_e rfl rfl (wBd (l2 := put1 l (128 * k + (0 : Int).toNat * 1) (.int .u8 (IntKind.u8.wrap (x + 1)))) rfl rfl rfl rfl rfl rfl rfl hfit rfl) ?_; rintro _ _ _ ⟨rfl, rfl⟩
  refine ⟨MLe.refl _, by simp, ?_⟩
  refine wCn ?_
  refine jPn (jT (wAa (sFL rfl rfl ?_)))
  refine wAv rfl rfl (wAr (cs := [_]) rfl rfl rfl (by rfl) (by rfl) (by rfl)) ?_; rintro _ _ _ ⟨b148, rfl, rfl, rfl⟩
  refine wAv rfl rfl (hAppendE (R := R) (m := 1) (xs := xs) (news := [Value.slice none 0 0]) rfl rfl rfl rfl hOl rfl (fun j u hu => CJ.loc (by rw [Nat.zero_add]; simpa using hu)) rfl rfl (fun u hu => by rw [List.mem_singleton.1 hu]; rfl) (by omega) (by omega) (by omega)) ?_; rintro v149 _ _ ⟨rfl, R149, rfl, o149⟩
  obtain ⟨a149, c149, rfl⟩ := o149.form
  refine sFa rfl ?_
  refine sSt rfl ?_
  refine wAc (jB (jT (wAa (jp rfl (ja rfl (by omega) ?_)))))
  refine jp rfl (wAc (wCa hb (by simp) ?_))
  intro M7 hM7 e7
  refine wAn (k + 1, M7, .slice a149 (nn + k + 1) c149, R149, xs ++ [Value.slice none 0 0]) (.cons (t := 3) rfl (.cons (t := 7) rfl (.cons (t := 8) rfl (.cons (t := 10) rfl (.cons (t := 12) rfl (.cons (t := 18) rfl .nil)))))) ⟨by show k + 1 ≤ 256; omega, Wr.put hall hll e7, hE3.put hM7, .inl (o149.to (by show nn + k + 1 = nn + (k + 1); omega) rfl)⟩ (by show 256 - (k + 1) < 256 - k; omega) (fun _ h => h.subC fun f => by simp only [List.map_append, List.map_cons, List.map_nil, List.sum_append, List.sum_cons, List.sum_nil]; omega)
 refine wAc (jT (wAk rfl (wAs (jTx (jTx (jBx (jT (wAb (wAb (wAa (jp rfl (wAc (jT (wAh ?_))))))))))))))
 have htk : MLe Mt Mk := hE3.le thb htj
 have hD0 : 0 < (cmt p).dead.length → ∃ gd off, dda = some ⟨gd, off, none⟩ ∧ Mt gd = none ∧ Wr Mk gd off (cmt p).dead.length .i64 := fun hl0 => by
  obtain ⟨gd, off, c, e, h0, l, e2, h1, h2⟩ := wr_ints hC.nd hl0
  cases e
  have dn : gd ≠ gn := (wFy (hC.mz _ _ hgn1) h0).symm
  have dl : gd ≠ gl := wFy (hC.mc _ _ h1) hgl0
  have dh : gd ≠ hb := (wFy ((hyt.trans hC.mz) _ _ ehb) h0).symm
  exact ⟨gd, off, rfl, wFn ((hC.mb.trans hyt).trans hC.mz) h0, l, e2, hE3 _ _ dh (hE2 _ _ dl (hE1 _ _ dn (h25 _ _ ((hC.mc.trans hC.m') _ _ h1)))), h2⟩
 refine wAo (α := Nat × Mem) (fun z => [(3, .pointer (some ⟨b3, 0, none⟩)), (7, .pointer (some ⟨b7, 0, none⟩)), (8, .pointer (some ⟨b8, 0, none⟩)), (10, .pointer (some ⟨b10, 0, none⟩)), (12, .pointer (some ⟨b12, 0, none⟩)), (19, .int .i64 z.1)]) (fun z => z.2) (fun _ => [(b14, .cells [.slice dba (wKf p phase keep).length dbc, .slice dwa3 0 dwc3].toArray 25 (0, 0)), (b12, .cells [cv, .slice cwa3 0 cwc3].toArray 25 (0, 0)), (b10, .cells [.slice ra1 (cmt p).st.blocks.length rc1, .slice ra2 (cmt p).st.waits.length rc2, .slice ra3 (cmt p).st.now.length rc3, .slice (some ⟨gr, qr, none⟩) (cmt p).st.last.length rc4, .int .u32 (cmt p).gen, .int .i64 (cmt p).root, .int .u32 (cmt p).next, .slice ra5 (cmt p).dead.length rc5].toArray 32 (0, 0)), (b8, .cells [.slice (some ⟨rb, 0, none⟩) (cmt p).st.blocks.length (cmt p).st.blocks.length, .slice cwa (cmt p).st.waits.length cwc, .slice (some ⟨gn, qn, none⟩) (cmt p).st.now.length nc, .slice (some ⟨gl, ql, none⟩) (cmt p).st.last.length lc, .int .u32 (cmt p).gen, .int .i64 (cmt p).root, .int .u32 (cmt p).next, .slice dda (cmt p).dead.length ddc].toArray 32 (0, 0)), (b7, .cells [.slice oa1 p.st.blocks.length oc1, .slice oa2 p.st.waits.length oc2, .slice oa3 p.st.now.length oc3, .slice oa4 p.st.last.length oc4, .int .u32 p.gen, .int .i64 p.root, .int .u32 p.next, .slice oa5 p.dead.length oc5].toArray 32 (0, 0)), (b3, .cells [bv, wv, nv, lw, .int .u32 p.gen, .int .i64 p.root, .int .u32 p.next, .slice da p.dead.length dc].toArray 32 (0, 0))]) (fun z => z.1 ≤ (cmt p).dead.length ∧ MLe Mt z.2 ∧ (0 < (cmt p).dead.length → ∃ gd off, dda = some ⟨gd, off, none⟩ ∧ Mt gd = none ∧ Wr z.2 gd off (cmt p).dead.length .i64)) (fun z => (cmt p).dead.length - z.1)
  (0, Mk) (.cons (t := 3) rfl (.cons (t := 7) rfl (.cons (t := 8) rfl (.cons (t := 10) rfl (.cons (t := 12) rfl (.cons (t := 19) rfl .nil)))))) ⟨Nat.zero_le _, htk, hD0⟩ (fun _ h => h.subC fun f => by simp only [List.map_append, List.map_cons, List.map_nil, List.sum_append, List.sum_cons, List.sum_nil]; omega) ?_
 rintro ⟨m, Mm⟩ ⟨hm, htm, hD⟩
 try dsimp only at hm htm hD ⊢
 refine wAb (wAb (wAa (jp rfl (sFL rfl rfl ?_))))
 refine wAi rfl rfl (wBe rfl rfl rfl) ?_
 refine js rfl (fun h155 => ?_) (fun h155 => ?_)
 ·refine wAc (jT (wAg rfl (wAd (jT (wAb (wAh ?_))))))
  have hm1 : m < (cmt p).dead.length := by omega
  obtain ⟨gd, off, e0, hd0, hWd⟩ := hD (by omega)
  obtain ⟨l, e, x, hMg, hl, hall⟩ := hWd.at hm1
  have hll := (List.getElem?_eq_some_iff.1 hl).1
  have hfit : Nat.ble (off + ((m : Nat) : Int).toNat * 1 + 1) l.length = true := Nat.ble_eq_true_of_le hll
  refine jc_thaw hMg (wFn (hM1.trans hMt) hd0) ?_
  refine wAa (sFL rfl rfl ?_)
  refine jp rfl (wAi rfl rfl (wCf rfl rfl rfl rfl e0 (by omega)) ?_)
  refine jl_s rfl (wBd (l2 := put1 l (off + ((m : Nat) : Int).toNat * 1) (.int .i64 7)) rfl rfl rfl rfl rfl rfl rfl hfit rfl) ?_; rintro _ _ _ ⟨rfl, rfl⟩
  refine wAc (jB (jT (wAa (jp rfl (ja rfl (by omega) ?_)))))
  refine jp rfl (wAc (wCa gd (by simp) ?_))
  intro M7 hM7 e7
  refine wAn (m + 1, M7) (.cons (t := 3) rfl (.cons (t := 7) rfl (.cons (t := 8) rfl (.cons (t := 10) rfl (.cons (t := 12) rfl (.cons (t := 19) rfl .nil)))))) ⟨by show m + 1 ≤ (cmt p).dead.length; omega, ((Els.refl gd Mm).put hM7).le hd0 htm, fun _ => ⟨gd, off, e0, hd0, Wr.put hall hll e7⟩⟩ (by show (cmt p).dead.length - (m + 1) < (cmt p).dead.length - m; omega) (fun _ h => h)
 refine wAc (jT (wAk rfl (wAs (jTx (jTx (jBx (jT (wAb (wAa (sLL rfl ?_))))))))))
 refine sLL rfl ?_
 refine wAi rfl rfl (wAy rfl rfl rfl rfl rfl (by kernel_rfl) (wFu p _ _ Mm (hT.mono htm) ((hP1.mono hMt).mono htm) hf)) ?_
 refine jp rfl (wAc (jT (wAf (jr1 rfl rfl ?_))))
 rfl
theorem commitdoes_spec (p : Po) (u : Value) (M : Mem) (h : PT M u p) (hgen : 0 ≤ p.gen ∧ p.gen < 4294967296) (hnxt : 0 ≤ p.next ∧ p.next < 4294967296) (hr : -9223372036854775808 ≤ p.root ∧ p.root ≤ 9223372036854775807) (hdb : ∀ d ∈ p.dead, -9223372036854775808 ≤ d ∧ d ≤ 9223372036854775807) (phase : Int) (keep : List Bool) (ka : Option Addr) (kc : Nat) (hks : SM M ka (wDd keep)) : SpecL Tryz.prog 3 #[u, .int .i64 phase, .slice ka keep.length kc] M [] fun u _ _ => u = .bool true := by
 obtain ⟨pv, pw, pn, pl, dv, rfl, _, _, _, _, da, dc, rfl, _, _⟩ := id h
 by_cases hak : wHm p = 0
 ·exact commitdoes_ok p hgen hnxt hr hdb pv pw pn pl da dc M h phase keep ka kc hks hak
 exact commitdoes_bad p hgen hnxt hr hdb pv pw pn pl da dc M h phase keep ka kc hks hak
end Go.Proofs.YtbhkdjheooknfaaGreat
