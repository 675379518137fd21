/- Walks: a volume is put into a pool that has none. -/
import Derived.Test.YtoincdcejjdgkaaGreatZSame
import Derived.Test.YtoincdcejjdgkaaGreatZLawb
namespace Go.Proofs.YtoincdcejjdgkaaGreat
set_option linter.unusedVariables false
set_option linter.unusedSimpArgs false
open Go.RowKit
structure SetOk (p : Po) (v : Vo) (t : Sto) (n : Int) (refs nodes : List Int) : Prop where
 cen : cens p.st p.root p.next p.dead = some ([], refs, nodes)
 id : 0 < v.id ∧ v.id < p.next
 root : 8 ≤ v.root ∧ v.root < 256
 nowl : p.st.now.length = 256
 more : refs.getD v.root.toNat 0 < ((p.st.now.getD v.root.toNat 0).toNat : Int)
 chk : (wGo p.st v.root).2 = 0
 key : wJn (wKr v).key
 put : putF p.st p.root (wKr v) = .ok (t, n)
 all : wHc ⟨t, p.gen, n, p.next, p.dead⟩ = 0
theorem cm_list {M : Mem} {b off : Nat} {xs : List Value} {e : TypeId} {g : Nat × Nat} {v : Value} (h : M b = some (.cells xs.toArray e g)) (hv : xs[off]? = some v) : CM M b off v := ⟨_, _, _, h, by rw [List.getElem?_toArray]; exact hv⟩
theorem PT5.st {M : Mem} {x : V5} {p : Po} (h : PT5 M x p) : ST M (.agg #[x.b.v, x.w.v, x.n.v, x.l.v]) p.st := ⟨_, _, _, _, rfl, h.b, h.w, h.n, h.l⟩
theorem ST.four {M : Mem} {v : Value} {s : Sto} (h : ST M v s) : ∃ a b c d : Sl, v = .agg #[a.v, b.v, c.v, d.v] ∧ LS M a.v s.blocks ∧ WS M b.v s.waits ∧ BS M c.v s.now ∧ BS M d.v s.last := by
 obtain ⟨a, b, c, d, rfl, h1, h2, h3, h4⟩ := h.ex
 obtain ⟨a, rfl⟩ := h1.sl
 obtain ⟨b, rfl⟩ := h2.sl
 obtain ⟨c, rfl⟩ := h3.sl
 obtain ⟨d, rfl⟩ := h4.sl
 exact ⟨a, b, c, d, rfl, h1, h2, h3, h4⟩
theorem PtPost.ok {r : Except Int (Sto × Int)} {u : Value} {M' : Mem} {t : Sto} {n : Int} (h : PtPost r u M') (hr : r = .ok (t, n)) : ∃ a b c d : Sl, u = .tuple #[.agg #[a.v, b.v, c.v, d.v], .int .i64 n, .int .i64 0] ∧ LS M' a.v t.blocks ∧ WS M' b.v t.waits ∧ BS M' c.v t.now ∧ BS M' d.v t.last := by
 obtain ⟨ba, bn, bc, wa, wn, wc, na, nn, nc, la, ln, lc, at_, e, rfl, hq⟩ := h.form
 rcases hq with ⟨_, h1, _⟩ | ⟨h0, t2, h2, _, _, h5, _⟩
 ·rw [hr] at h1; cases h1
 ·rw [hr] at h2; cases h2
  subst h0
  obtain ⟨a, b, c, d, e, h1, h2, h3, h4⟩ := h5.four
  cases e
  exact ⟨a, b, c, d, rfl, h1, h2, h3, h4⟩
theorem vix_nil (a : Option Addr) (c : Nat) (f : Value) (M : Mem) :
  SpecL Tryz.prog 141 #[.slice a 0 c, f] M [] fun r _ _ => r = .int .i64 (-1) := by
 refine wAf (vs := [_, _]) 19 _ Tryz.func141 rfl Tryz.ntmps141 rfl rfl ?_; intro W
 refine wAb (wAa (jp rfl (wAc (jT (wAb (wAb (wAa (jp rfl (wAi rfl rfl (wBq rfl rfl rfl) ?_)))))))))
 refine jp rfl (wAc (jT (wAh ?_)))
 refine wAr (α := Unit) (fun _ => [(0, .slice a 0 c), (1, f), (7, .int .i64 0), (8, .int .i64 0)]) (fun _ => M) (fun _ => []) (fun _ => True) (fun _ => 0)
  () (.cons (t := 0) rfl (.cons (t := 1) rfl (.cons (t := 7) rfl (.cons (t := 8) rfl .nil)))) trivial (fun _ h => h) ?_
 rintro _ _
 refine wAb (wAa (jf rfl (decide_eq_false (by omega)) ?_))
 refine wAc (jT (wAb (wAj rfl (wAs (jTx (jTx (jBx (jT (wAb (wAa (jp rfl (wAc (jT (wAe (jr1 rfl rfl ?_)))))))))))))))
 rfl
theorem vcof_nil (a : Option Addr) (c : Nat) (f : Value) (M : Mem) :
  SpecL Tryz.prog 105 #[.slice a 0 c, f] M [] fun r _ _ => r = .bool false := by
 refine wAf (vs := [_, _]) 9 _ Tryz.func105 rfl Tryz.ntmps105 rfl rfl ?_; intro W
 refine wAb (wAa (jp rfl (wAc (jT (wAb (wAa (jp rfl (jp rfl (wAi rfl rfl (wBf rfl rfl rfl rfl rfl (by kernel_rfl) (vix_nil a c f M)) ?_)))))))))
 refine jp rfl (jp rfl (wAc (jT (wAe (jr1 rfl rfl ?_)))))
 rfl
set_option maxHeartbeats 1000000 in
theorem fasked_spec (x : V5) (p : Po) (v : Vo) (M : Mem) (h : PT5 M x p) (hd : p.dead.length ≤ 1000000) (t : Sto) (n : Int) (refs nodes : List Int) (hs : SetOk p v t n refs nodes) :
  SpecL Tryz.prog 76 #[.agg (pcl x p.gen p.root p.next).toArray, .agg (voc v).toArray] M [] fun u M' L' => u = .int .i64 0 ∧ L' = [] := by
 obtain ⟨hcen, ⟨hi1, hi2⟩, ⟨hr1, hr2⟩, hnl, hmore, hck, hkey, hput, hall⟩ := hs
 refine wAf (vs := [_, _]) 80 _ Tryz.func76 rfl Tryz.ntmps76 rfl rfl ?_; intro W
 refine wAb (wAa (wAw rfl rfl (wCb (cs := [_, _, _, _, _, _, _, _]) rfl rfl rfl rfl) ?_)); rintro _ _ _ ⟨b2, rfl, rfl, rfl⟩
 refine wAw rfl rfl (wCb (cs := [_, _, _, _]) rfl rfl rfl rfl) ?_; rintro _ _ _ ⟨b3, rfl, rfl, rfl⟩
 refine jp rfl (wAc (jT (wAb (wAa (sLL rfl ?_)))))
 refine wAw rfl rfl (wAn rfl rfl rfl rfl rfl (by kernel_rfl) (wLh p _ M h.pt hd)) ?_; rintro _ M1 _ ⟨hM1, _, rfl, ⟨htk, rfl⟩⟩
 simp only [nA]
 unfold TakeP at htk
 rw [hcen] at htk
 obtain ⟨cb, kb, kw, kn, kl, kp, km, ka, kc, rfl, hcb, _, _, hrl, hnl2⟩ := htk
 refine jp rfl (jp rfl (jp rfl (jp rfl (jp rfl (wAc (jT (wAb (wAb (wAa (jp rfl (jf rfl (decide_eq_false (by first | omega | simp)) ?_)))))))))))
 refine wAc (jT (wAj rfl (wAd (jT (wAb (wAb (wAa (sFL rfl rfl ?_))))))))
 refine jf rfl (decide_eq_false (by first | omega | simp)) ?_
 refine jp rfl (sFL rfl rfl ?_)
 refine sFL rfl rfl ?_
 refine jf rfl (decide_eq_false (by first | omega | simp)) ?_
 refine jp rfl (jp rfl (sFL rfl rfl ?_))
 refine jf rfl (decide_eq_false (by first | omega | simp)) ?_
 refine jp rfl (jp rfl (sFL rfl rfl ?_))
 refine jf rfl (decide_eq_false (by first | omega | simp)) ?_
 refine jp rfl (wAc (jT (wAj rfl (wAd (jT (wAb (wAa (jp rfl (wAi rfl rfl (wAx rfl rfl rfl) ?_)))))))))
 refine sFa rfl ?_
 refine wAi rfl rfl (qLd rfl rfl rfl rfl ((cm_list hcb (cen_vol hrl hnl2)).cj _)) ?_
 refine jp rfl (wAi rfl rfl (wBf rfl rfl rfl rfl rfl (by kernel_rfl) (vcof_nil ka kc _ M1)) ?_)
 refine jp rfl (wAc (jT (wAb (wAb (wAa (jp rfl (jp rfl (jp rfl (jp rfl (wAi rfl rfl (wAx rfl rfl rfl) ?_))))))))))
 refine sFa rfl ?_
 refine wAi rfl rfl (qLd rfl rfl rfl rfl ((cm_list hcb (cen_vol hrl hnl2)).cj _)) ?_
 refine wAi rfl rfl (wBq rfl rfl rfl) ?_
 refine jf rfl (decide_eq_false (by first | omega | simp)) ?_
 refine jp rfl (wAc (jT (wAj rfl (wAd (jT (wAb (wAb (wBn [(0, true), (1, true), (2, true), (3, true), (4, true), (5, true), (6, true), (7, true), (8, true), (9, true), (10, true), (11, true), (12, true), (13, true), (14, true), (15, true)] _ (by kernel_rfl) (by kernel_rfl) (by kernel_rfl) rfl (fun _ h => h) ?_))))))))
 refine dFa rfl rfl ?_
 refine dFa rfl rfl ?_
 refine dLd rfl rfl ?_
 refine dFa rfl rfl ?_
 refine dLd rfl rfl ?_
 obtain ⟨nb, no, e0n, nx⟩ := h.n.sm.open (by intro e; have := congrArg List.length e; rw [wAu, List.length_nil] at this; omega)
 have hxn : x.n.n = p.st.now.length := h.n.len
 have hby := (p.st.now.getD v.root.toNat 0).toNat_lt
 refine wBi rfl rfl rfl (wBa (b := nb) (off := no) rfl rfl (by show some (Value.slice _ _ _) = _; rw [e0n]) rfl (by omega)) ?_
 refine wBi rfl rfl rfl (qLd (v := .int .u8 ((p.st.now.getD v.root.toNat 0).toNat : Int)) rfl rfl rfl rfl (((nx _ _ (by rw [Nat.mul_one]; exact wHu (xs := p.st.now) (j := v.root.toNat) (by omega))).mono hM1).cj _)) ?_
 refine wBi rfl rfl rfl (wEj rfl rfl rfl (by omega)) ?_
 refine dp rfl rfl ?_
 refine dFa rfl rfl ?_
 refine dLd rfl rfl ?_
 refine wBi rfl rfl rfl (wAx rfl rfl rfl) ?_
 refine dFa rfl rfl ?_
 refine wBi rfl rfl rfl (qIdxA rfl rfl rfl rfl (by omega)) ?_
 refine wBi rfl rfl rfl (qLd rfl rfl rfl rfl ((cm_list hcb (cen_ref hrl (i := v.root.toNat) (by omega) (by omega))).cj _)) ?_
 refine df rfl rfl (decide_eq_false (by first | omega | simp)) ?_
 refine wBg (jPn (jT (wAj rfl (wAd (jT (wAb (wAb (wAa (sFa rfl ?_)))))))))
 refine sLL rfl ?_
 refine sFL rfl rfl ?_
 refine wAi rfl rfl (wBf rfl rfl rfl rfl rfl (by kernel_rfl) (fcheck_spec p.st _ v.root M1 (h.mono hM1).st)) ?_
 refine jp rfl (jp rfl (jp rfl (jp rfl (jp rfl (wAc (jT (wAb (wAa (jp rfl (jf rfl (decide_eq_false (by first | omega | simp)) ?_))))))))))
 refine wAc (jT (wAj rfl (wAd (jT (wAb (wAa (jp rfl (wAc (jT (wAe (wAv (L' := []) (List.nil_sublist _) ?_)))))))))))
 refine jr1 rfl rfl ?_
 exact ⟨rfl, rfl⟩
set_option maxHeartbeats 2000000 in
theorem fset_spec (x : V5) (p : Po) (v : Vo) (M : Mem) (h : PT5 M x p) (hd : p.dead.length ≤ 1000000) (t : Sto) (n : Int) (refs nodes : List Int) (hs : SetOk p v t n refs nodes) :
  SpecL Tryz.prog 46 #[.agg (pcl x p.gen p.root p.next).toArray, .agg (voc v).toArray] M [] fun u M' L' => (∃ y, u = .tuple #[.agg (pcl y p.gen n p.next).toArray, .int .i64 0] ∧ PT5 M' y ⟨t, p.gen, n, p.next, p.dead⟩) ∧ L' = [] := by
 have hs0 := hs
 obtain ⟨hcen, ⟨hi1, hi2⟩, ⟨hr1, hr2⟩, hnl, hmore, hck, hkey, hput, hall⟩ := hs
 refine wAf (vs := [_, _]) 45 _ Tryz.func46 rfl Tryz.ntmps46 rfl rfl ?_; intro W
 refine wAb (wAa (wAw rfl rfl (wCb (cs := [_, _, _, _, _, _, _, _]) rfl rfl rfl rfl) ?_)); rintro _ _ _ ⟨b2, rfl, rfl, rfl⟩
 refine wAw rfl rfl (wCb (cs := [_, _, _, _]) rfl rfl rfl rfl) ?_; rintro _ _ _ ⟨b3, rfl, rfl, rfl⟩
 refine sAl rfl fun b4 => ?_
 refine jp rfl (wAc (jT (wAb (wAb (wAa (sLL rfl ?_))))))
 refine sLL rfl ?_
 refine wAw rfl rfl (wAn rfl rfl rfl rfl rfl (by kernel_rfl) (fasked_spec x p v M h hd t n refs nodes hs0)) ?_; rintro _ M1 _ ⟨hM1, _, rfl, ⟨rfl, rfl⟩⟩
 simp only [nA]
 refine jp rfl (wAc (jT (wAb (wAa (jp rfl (jf rfl (decide_eq_false (by omega)) ?_))))))
 refine wAc (jT (wAj rfl (wAd (jT (wAb (wGk ([(b2, .cells (pcl x p.gen p.root p.next).toArray 32 (0, 0)), (b3, .cells (voc v).toArray 63 (0, 0))]) (by kernel_rfl) (by simp) ?_))))))
 refine wDu (i := 0) rfl (by kernel_rfl) (by kernel_rfl) rfl rfl (wBk rfl rfl rfl rfl rfl) ?_
 refine wDu (i := 1) rfl (by kernel_rfl) (by kernel_rfl) rfl rfl (qLdL rfl rfl rfl rfl rfl) ?_
 refine wDu (i := 2) rfl (by kernel_rfl) (by kernel_rfl) rfl rfl (wBk rfl rfl rfl rfl rfl) ?_
 refine wDu (i := 3) rfl (by kernel_rfl) (by kernel_rfl) rfl rfl (qLd rfl rfl rfl rfl (CJ.loc rfl)) ?_
 refine wDu (i := 4) rfl (by kernel_rfl) (by kernel_rfl) rfl rfl (qLdL rfl rfl rfl rfl rfl) ?_
 refine wGn (α := Mem × Sl × Sl × Sl × Sl × Nat) (fun y => MLe M1 y.1 ∧ LS y.1 y.2.1.v t.blocks ∧ WS y.1 y.2.2.1.v t.waits ∧ BS y.1 y.2.2.2.1.v t.now ∧ BS y.1 y.2.2.2.2.1.v t.last) (fun y => [(2, .pointer (some ⟨b2, 0, none⟩)), (3, .pointer (some ⟨b3, 0, none⟩)), (4, .pointer (some ⟨b4, 0, none⟩)), (7, .pointer (some ⟨y.2.2.2.2.2, 0, none⟩)), (25, .agg #[y.2.1.v, y.2.2.1.v, y.2.2.2.1.v, y.2.2.2.2.1.v]), (26, .int .i64 n), (27, .int .i64 0)]) (fun y => y.1) (fun y => [(y.2.2.2.2.2, .cells [.slice none 0 0, .slice none 0 0, .slice none 0 0, .slice none 0 0].toArray 28 (0, 0)), (b4, .cells poZ.toArray 32 (0, 0)), (b3, .cells (voc v).toArray 63 (0, 0)), (b2, .cells (pcl x p.gen p.root p.next).toArray 32 (0, 0))]) 3 #[true, true, true, true, true, true, true, true, true, true, true, true, false, false, false] ?_ (fun rest => ?_)
 ·rintro ⟨M3, qa, qb, qc, qd, b7⟩ ⟨hM3, g1, g2, g3, g4⟩
  try dsimp only at hM3 g1 g2 g3 g4 ⊢
  refine wGm (i := 12) (by kernel_rfl) ?_
  refine js_s rfl rfl (wBs rfl rfl rfl rfl rfl rfl rfl rfl) ?_; rintro _ _ _ ⟨rfl, rfl⟩
  refine wAo (hM3) (by simp) ?_
  refine wKf (i := 13) rfl (by kernel_rfl) (by kernel_rfl) rfl ?_
  refine wKf (i := 14) rfl (by kernel_rfl) (by kernel_rfl) rfl ?_
  refine ja_end (by kernel_rfl) ?_
  refine jPn (jT (wAb (wAb (wAa (jp rfl (jf rfl (decide_eq_false (by omega)) ?_))))))
  refine wAc (jT (wAj rfl (wAd (jT (wAb (wCh (p := { A := fun i => !([6, 8, 10].contains i), U := fun i => !([1, 6, 7, 8, 9, 10].contains i) }) [(0, true), (1, true), (2, true), (3, true), (5, true), (4, false), (6, false), (7, true), (8, false), (9, true), (10, false)] M3 ([(b7, .cells #[qa.v, qb.v, qc.v, qd.v] 28 (0, 0)), (b2, .cells (pcl x p.gen p.root p.next).toArray 32 (0, 0))]) ([]) (by kernel_rfl) (by kernel_rfl) (by kernel_rfl) (by kernel_rfl) rfl (by simp) (MLe.refl _) (by simp) ?_))))))
  refine dLL rfl rfl ?_
  refine dp rfl rfl ?_
  refine dFa rfl rfl ?_
  refine dLd rfl rfl ?_
  refine dFa rfl rfl ?_
  obtain ⟨xda, xdc, exd, hxdc, hxds⟩ := h.d
  refine wHh rfl rfl rfl (wAn rfl rfl rfl rfl rfl (by kernel_rfl) (by rw [exd]; exact niclone_spec xda _ xdc (wBj p.dead) M3 (hxds.mono (hM1.trans hM3)) (wBm _) (icells_one _) hd)) ?_; rintro _ M4 _ ⟨hM4, R4, rfl, hown⟩
  refine ⟨_, _, MLe.refl _, hM4, fun _ h => h, by simp, ?_⟩
  obtain ⟨da0, dc0, rfl⟩ := hown.form
  refine jd_e rfl rfl (wBs rfl rfl rfl rfl rfl rfl rfl rfl) ?_; rintro _ _ _ ⟨rfl, rfl⟩
  refine ⟨hM4, by simp, ?_⟩
  refine je_q rfl rfl rfl (wBk rfl rfl rfl rfl rfl) ?_
  refine je_s rfl rfl (wBs rfl rfl rfl rfl rfl rfl rfl rfl) ?_; rintro _ _ _ ⟨rfl, rfl⟩
  refine ⟨hM4, by simp, ?_⟩
  refine je_q rfl rfl rfl (wBk rfl rfl rfl rfl rfl) ?_
  refine je_s rfl rfl (wBs rfl rfl rfl rfl rfl rfl rfl rfl) ?_; rintro _ _ _ ⟨rfl, rfl⟩
  refine ⟨hM4, by simp, ?_⟩
  refine wEv ?_
  refine jPn (jT (wAb (wAb (jc_own hown (by simp) ?_))))
  intro M5 da1 dc1 hM5 ed hdc hds; cases ed
  have hL := hM4.trans hM5
  have hp5 : PT5 M5 ⟨qa, qb, qc, qd, ⟨da0, p.dead.length, dc0⟩⟩ ⟨t, p.gen, n, p.next, p.dead⟩ := ⟨g1.mono hL, g2.mono hL, g3.mono hL, g4.mono hL, ⟨da0, dc0, rfl, hdc, hds⟩⟩
  refine wAa (sLL rfl ?_)
  refine wAw rfl rfl (wAn rfl rfl rfl rfl rfl (by kernel_rfl) (fochk_spec ⟨t, p.gen, n, p.next, p.dead⟩ _ M5 hp5.pt hd)) ?_; rintro _ M6 _ ⟨hM6, _, rfl, ⟨rfl, rfl⟩⟩
  simp only [nA]
  refine jf rfl (decide_eq_false (by omega)) ?_
  refine wAc (jT (wAj rfl (wAd (jT (wAb (wAa (sLL rfl ?_)))))))
  refine sSt rfl ?_
  refine jp rfl (wAc (jT (wAe (wCd (rs := [_, _]) ([]) (by exact List.nil_sublist _) rfl (.cons (.agg rfl rfl rfl) (.cons (.tmp rfl) .nil)) ?_))))
  exact ⟨⟨_, rfl, hp5.mono hM6⟩, rfl⟩
 refine wBd [5, 11] (by kernel_rfl) rfl ⟨?_, ?_, trivial⟩
 ·refine wCk rfl rfl rfl (wAn rfl rfl rfl rfl rfl (by kernel_rfl) (one_spec v M1 (by omega))) ?_; rintro _ M2 _ ⟨hM5, R5, rfl, ⟨va, vc, rfl, hvc, hvs⟩, rfl⟩
  refine wAo (hM5) (by simp) ?_
  simp only [nA]
  refine wBd [6, 11] (by kernel_rfl) rfl ⟨?_, ?_, trivial⟩
  ·refine wCk rfl rfl rfl (wAn rfl rfl rfl rfl rfl (by kernel_rfl) (put_spec p.st _ (.slice va (wKr v).val.length vc) p.root (wKr v) M2 ((h.mono (hM1.trans hM5)).st) ⟨va, vc, rfl, hvc, hvs⟩ hkey)) ?_; rintro _ M3 _ ⟨hM6, R6, rfl, hpt, rfl⟩
   refine wAo ((hM5).trans hM6) (by simp) ?_
   simp only [nA]
   obtain ⟨qa, qb, qc, qd, rfl, g1, g2, g3, g4⟩ := hpt.ok hput
   refine wKf (i := 7) rfl (by kernel_rfl) (by kernel_rfl) rfl ?_
   refine wKf (i := 8) rfl (by kernel_rfl) (by kernel_rfl) rfl ?_
   refine wKf (i := 9) rfl (by kernel_rfl) (by kernel_rfl) rfl ?_
   refine wKf (i := 10) rfl (by kernel_rfl) (by kernel_rfl) rfl ?_
   refine wBd [11] (by kernel_rfl) rfl ⟨?_, trivial⟩
   ·refine wCk rfl rfl rfl (wEx rfl rfl) ?_; rintro _ _ _ ⟨b7, rfl, rfl, rfl⟩
    refine wAo ((hM5.trans hM6)) (by simp) ?_
    refine wBx (listed' := #[true, true, true, true, true, true, true, true, true, true, true, true, false, false, false]) (by kernel_rfl) (wBw (.cons (t := 2) rfl (.cons (t := 3) rfl (.cons (t := 4) rfl (.cons (t := 7) rfl (.cons (t := 25) rfl (.cons (t := 26) rfl (.cons (t := 27) rfl .nil))))))) ?_)
    exact rest (M3, qa, qb, qc, qd, b7) ⟨hM5.trans hM6, g1, g2, g3, g4⟩
  ·refine wCk rfl rfl rfl (wEx rfl rfl) ?_; rintro _ _ _ ⟨b7, rfl, rfl, rfl⟩
   refine wAo (hM5) (by simp) ?_
   refine wBd [6] (by kernel_rfl) rfl ⟨?_, trivial⟩
   ·refine wCk rfl rfl rfl (wAn rfl rfl rfl rfl rfl (by kernel_rfl) (put_spec p.st _ (.slice va (wKr v).val.length vc) p.root (wKr v) M2 ((h.mono (hM1.trans hM5)).st) ⟨va, vc, rfl, hvc, hvs⟩ hkey)) ?_; rintro _ M3 _ ⟨hM6, R6, rfl, hpt, rfl⟩
    refine wAo ((hM5).trans hM6) (by simp) ?_
    simp only [nA]
    obtain ⟨qa, qb, qc, qd, rfl, g1, g2, g3, g4⟩ := hpt.ok hput
    refine wKf (i := 7) rfl (by kernel_rfl) (by kernel_rfl) rfl ?_
    refine wKf (i := 8) rfl (by kernel_rfl) (by kernel_rfl) rfl ?_
    refine wKf (i := 9) rfl (by kernel_rfl) (by kernel_rfl) rfl ?_
    refine wKf (i := 10) rfl (by kernel_rfl) (by kernel_rfl) rfl ?_
    refine wBx (listed' := #[true, true, true, true, true, true, true, true, true, true, true, true, false, false, false]) (by kernel_rfl) (wBw (.cons (t := 2) rfl (.cons (t := 3) rfl (.cons (t := 4) rfl (.cons (t := 7) rfl (.cons (t := 25) rfl (.cons (t := 26) rfl (.cons (t := 27) rfl .nil))))))) ?_)
    exact rest (M3, qa, qb, qc, qd, b7) ⟨hM5.trans hM6, g1, g2, g3, g4⟩
 ·refine wCk rfl rfl rfl (wEx rfl rfl) ?_; rintro _ _ _ ⟨b7, rfl, rfl, rfl⟩
  refine wAo (MLe.refl _) (by simp) ?_
  refine wBd [5] (by kernel_rfl) rfl ⟨?_, trivial⟩
  ·refine wCk rfl rfl rfl (wAn rfl rfl rfl rfl rfl (by kernel_rfl) (one_spec v M1 (by omega))) ?_; rintro _ M2 _ ⟨hM5, R5, rfl, ⟨va, vc, rfl, hvc, hvs⟩, rfl⟩
   refine wAo (hM5) (by simp) ?_
   simp only [nA]
   refine wBd [6] (by kernel_rfl) rfl ⟨?_, trivial⟩
   ·refine wCk rfl rfl rfl (wAn rfl rfl rfl rfl rfl (by kernel_rfl) (put_spec p.st _ (.slice va (wKr v).val.length vc) p.root (wKr v) M2 ((h.mono (hM1.trans hM5)).st) ⟨va, vc, rfl, hvc, hvs⟩ hkey)) ?_; rintro _ M3 _ ⟨hM6, R6, rfl, hpt, rfl⟩
    refine wAo ((hM5).trans hM6) (by simp) ?_
    simp only [nA]
    obtain ⟨qa, qb, qc, qd, rfl, g1, g2, g3, g4⟩ := hpt.ok hput
    refine wKf (i := 7) rfl (by kernel_rfl) (by kernel_rfl) rfl ?_
    refine wKf (i := 8) rfl (by kernel_rfl) (by kernel_rfl) rfl ?_
    refine wKf (i := 9) rfl (by kernel_rfl) (by kernel_rfl) rfl ?_
    refine wKf (i := 10) rfl (by kernel_rfl) (by kernel_rfl) rfl ?_
    refine wBx (listed' := #[true, true, true, true, true, true, true, true, true, true, true, true, false, false, false]) (by kernel_rfl) (wBw (.cons (t := 2) rfl (.cons (t := 3) rfl (.cons (t := 4) rfl (.cons (t := 7) rfl (.cons (t := 25) rfl (.cons (t := 26) rfl (.cons (t := 27) rfl .nil))))))) ?_)
    exact rest (M3, qa, qb, qc, qd, b7) ⟨hM5.trans hM6, g1, g2, g3, g4⟩
end Go.Proofs.YtoincdcejjdgkaaGreat
