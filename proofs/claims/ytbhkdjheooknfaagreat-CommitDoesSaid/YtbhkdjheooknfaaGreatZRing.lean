/- Walks: superblocks written. -/
import Derived.Test.YtbhkdjheooknfaaGreatZCnt
import Derived.Test.YtbhkdjheooknfaaGreatZTake
namespace Go.Proofs.YtbhkdjheooknfaaGreat
set_option linter.unusedVariables false
set_option linter.unusedSectionVars false
set_option linter.unusedSimpArgs false
open Go.RowKit
abbrev TSu : TypeId := 72
structure Su where
 gen : Int
 root : Int
 next : Int
 table : Int
 dead : List Int
abbrev suc (x : Su) (dv : Value) : List Value := [.int .u32 x.gen, .int .i64 x.root, .int .u32 x.next, .int .u32 x.table, dv]
def tk (x : Int) : Prop := 8 ≤ x ∧ x < 256
instance (x : Int) : Decidable (tk x) := by unfold tk; exact inferInstance
def ixB : List Int → Int → Int
 | [], _ => -1
 | x :: xs, i => if tk x then ixB xs (i + 1) else i
theorem ixB_on {xs : List Int} {k : Nat} (h : k < xs.length) (ht : tk xs[k]) : ixB (xs.drop k) k = ixB (xs.drop (k + 1)) ((k + 1 : Nat) : Int) := by
 rw [List.drop_eq_getElem_cons h, ixB, if_pos ht]; rfl
theorem ixB_off {xs : List Int} {k : Nat} (h : k < xs.length) (ht : ¬ tk xs[k]) : ixB (xs.drop k) k = k := by
 rw [List.drop_eq_getElem_cons h, ixB, if_neg ht]
theorem ixB_is : ∀ (xs : List Int) (i : Int), 0 ≤ i → (0 ≤ ixB xs i ↔ ∃ x ∈ xs, ¬ tk x)
 | [], i, _ => by simp [ixB]
 | x :: xs, i, hi => by
  rw [ixB]
  split
  ·rename_i h
   rw [ixB_is xs (i + 1) (by omega)]
   simp [h]
  rename_i h; exact ⟨fun _ => ⟨x, by simp, h⟩, fun _ => hi⟩
def suOk (x : Su) : Prop := (∀ y ∈ x.dead, tk y) ∧ tk x.root ∧ x.dead.length ≤ 40
instance (x : Su) : Decidable (suOk x) := by unfold suOk; exact inferInstance
def suChk (x : Su) : Int := if suOk x then 0 else 8
def wJr (x : Su) : List By := [wEj x.gen, wGn x.root, wEj x.next, wEj x.table, [bU x.dead.length]].flatten
def suRaw (x : Su) : List By := wJr x ++ x.dead.flatMap wGn
def suB (x : Su) : List By := sealB (suRaw x)
theorem suHead_len (x : Su) : (wJr x).length = 15 := rfl
theorem twos_len (xs : List Int) : (xs.flatMap wGn).length = 2 * xs.length := by
 induction xs with
 | nil => rfl
 | cons x xs ih => rw [List.flatMap_cons, List.length_append, ih, List.length_cons]; show 2 + _ = _; omega
theorem suRaw_len (x : Su) : (suRaw x).length = 15 + 2 * x.dead.length := by unfold suRaw; rw [List.length_append, suHead_len, twos_len]
theorem suB_len {x : Su} (h : suOk x) : (suB x).length = 128 := sealB_len (by rw [suRaw_len]; have := h.2.2; omega)
theorem twos_step {xs : List Int} {k : Nat} (h : k < xs.length) : (xs.take (k + 1)).flatMap wGn = (xs.take k).flatMap wGn ++ wGn xs[k] := by
 rw [List.take_succ_eq_append_getElem h, List.flatMap_append]; simp
theorem taken_spec (x : Int) (M : Mem) :
  SpecL Tryz.prog 95 #[.int .i64 x] M [] fun u _ _ => u = .bool (decide (tk x)) := by
 refine wAe (vs := [_]) 9 _ Tryz.func95 rfl Tryz.ntmps95 rfl rfl ?_; intro W
 refine wAb (wAa (jp rfl (wAc (jT (wAb (wAa (jp rfl (js rfl (fun h4 => ?_) (fun h4 => ?_)))))))))
 ·refine jp rfl (jp rfl (jp rfl (jp rfl (jp rfl (wAc (jT (wAf (jr1 rfl rfl ?_))))))))
  show Value.bool (decide (x < 256)) = _
  congr 1; exact decide_eq_decide.2 ⟨fun h => ⟨h4, h⟩, fun h => h.2⟩
 refine jp rfl (jp rfl (jp rfl (jp rfl (jp rfl (wAc (jT (wAf (jr1 rfl rfl ?_))))))))
 show Value.bool false = _
 congr 1; exact (decide_eq_false (fun h => h4 h.1)).symm
theorem nottk_spec (x : Int) (M : Mem) :
  SpecL Tryz.prog 94 #[.int .i64 x] M [] fun u _ _ => u = .bool (!decide (tk x)) := by
 refine wAe (vs := [_]) 6 _ Tryz.func94 rfl Tryz.ntmps94 rfl rfl ?_; intro W
 refine wAb (wAa (jp rfl (wAc (jT (wAb (wAa (jp rfl (wAi rfl rfl (wAy rfl rfl rfl rfl rfl (by kernel_rfl) (taken_spec x M)) ?_))))))))
 refine jp rfl (jp rfl (wAc (jT (wAf (jr1 rfl rfl ?_)))))
 rfl
theorem ixf_spec (xs : List Int) (a : Option Addr) (c : Nat) (M : Mem) (hs : SM M a (wAw xs)) (hn : xs.length ≤ 1000000) :
  SpecL Tryz.prog 108 #[.slice a xs.length c, .func (.func 94) #[] #[]] M [] fun u _ _ => u = .int .i64 (ixB xs 0) := by
 refine wAe (vs := [_, _]) 19 _ Tryz.func108 rfl Tryz.ntmps108 rfl rfl ?_; intro W
 refine wAb (wAa (jp rfl (wAc (jT (wAb (wAb (wAa (jp rfl (wAi rfl rfl (wBe rfl rfl rfl) ?_)))))))))
 refine jp rfl (wAc (jT (wAh ?_)))
 refine wAo (α := Nat) (fun k => [(0, .slice a xs.length c), (1, .func (.func 94) #[] #[]), (7, .int .i64 xs.length), (8, .int .i64 k)]) (fun _ => M) (fun _ => []) (fun k => k ≤ xs.length ∧ ixB xs 0 = ixB (xs.drop k) k) (fun k => xs.length - k)
  0 (.cons (t := 0) rfl (.cons (t := 1) rfl (.cons (t := 7) rfl (.cons (t := 8) rfl .nil)))) ⟨Nat.zero_le _, rfl⟩ (fun _ h => h) ?_
 rintro k ⟨hk, hI⟩
 try dsimp only at hk hI ⊢
 refine wAb (wAa (js rfl (fun h9 => ?_) (fun h9 => ?_)))
 ·refine wAc (jT (wAb (wAg rfl (wAd (jT (wAb (wAh (wAb (wAa (jp rfl (jp rfl (wAc (jT (wAb (wAa (jp rfl (jp rfl (jp rfl ?_))))))))))))))))))
  have hk1 : k < xs.length := by omega
  obtain ⟨sb, so, e0, hx⟩ := hs.open (by intro e; have := congrArg List.length e; rw [wBc, List.length_nil] at this; omega)
  subst e0
  refine wAi rfl rfl (wBb rfl rfl rfl rfl (by omega)) ?_
  refine wAi rfl rfl (qLd (v := .int .i64 xs[k]) rfl rfl rfl rfl ((hx _ _ (by rw [Nat.mul_one]; simp [wAw, hk1])).cj _)) ?_
  refine wDf rfl rfl (wAy rfl rfl rfl rfl rfl (by kernel_rfl) (nottk_spec xs[k] M)) (fun h16 => ?_) (fun h16 => ?_)
  ·refine wAc (jT (wAg rfl (wAb (wAa (jp rfl (jp rfl (wAc (jT (wAf (jBr (jTr (jTr (jBr (jTr (jr1 rfl rfl ?_)))))))))))))))
   rw [hI, ixB_off hk1 (by simpa using h16)]
  refine wAc (jT (wAk rfl (wAd (jB (jT (wAa (ja rfl (by omega) ?_)))))))
  refine jp rfl (wAc ?_)
  refine wAn (k + 1) (.cons (t := 0) rfl (.cons (t := 1) rfl (.cons (t := 7) rfl (.cons (t := 8) rfl .nil)))) ⟨by omega, by rw [hI]; exact ixB_on hk1 (by simpa using h16)⟩ (by omega) (fun _ h => h)
 refine wAc (jT (wAb (wAk rfl (wAs (jTx (jTx (jBx (jT (wAb (wAa (jp rfl (wAc (jT (wAf (jr1 rfl rfl ?_)))))))))))))))
 obtain rfl : k = xs.length := by omega
 rw [hI, List.drop_length]; rfl
theorem cof_spec (xs : List Int) (a : Option Addr) (c : Nat) (M : Mem) (hs : SM M a (wAw xs)) (hn : xs.length ≤ 1000000) :
  SpecL Tryz.prog 93 #[.slice a xs.length c, .func (.func 94) #[] #[]] M [] fun u _ _ => u = .bool (decide (∃ x ∈ xs, ¬ tk x)) := by
 refine wAe (vs := [_, _]) 9 _ Tryz.func93 rfl Tryz.ntmps93 rfl rfl ?_; intro W
 refine wAb (wAa (jp rfl (wAc (jT (wAb (wAa (jp rfl (jp rfl (wAi rfl rfl (wAy rfl rfl rfl rfl rfl (by kernel_rfl) (ixf_spec xs a c M hs hn)) ?_)))))))))
 refine jp rfl (jp rfl (wAc (jT (wAf (jr1 rfl rfl ?_)))))
 show Value.bool (decide (0 ≤ ixB xs 0)) = _
 congr 1; exact decide_eq_decide.2 (ixB_is xs 0 (by decide))
theorem sucheck_spec (x : Su) (da : Option Addr) (dc : Nat) (M : Mem) (hdc : x.dead.length ≤ dc) (hds : SM M da (wAw x.dead)) (hdl : x.dead.length ≤ 1000000) :
  SpecL Tryz.prog 74 #[.agg (suc x (.slice da x.dead.length dc)).toArray] M [] fun u _ _ => u = .int .i64 (suChk x) := by
 refine wAe (vs := [_]) 20 _ Tryz.func74 rfl Tryz.ntmps74 rfl rfl ?_; intro W
 refine wAb (wAa (wAv rfl rfl (wBw (cs := [_, _, _, _, _]) rfl rfl rfl rfl) ?_)); rintro _ _ _ ⟨b1, rfl, rfl, rfl⟩
 refine jp rfl (wAc (jT (wAb (wAa (sFL rfl rfl ?_)))))
 refine wDf rfl rfl (wAy rfl rfl rfl rfl rfl (by kernel_rfl) (cof_spec x.dead da dc M hds hdl)) (fun h6 => ?_) (fun h6 => ?_)
 ·refine jp rfl (wAc (jT (wAb (wAb (wAa ?_)))))
  iterate 13 refine jp rfl ?_
  refine wAc (jT (wAg rfl (wAb (wAa (jp rfl (wAc (jT (wAf (jTr (jr1 rfl rfl ?_))))))))))
  first | (unfold suChk; rw [if_pos ⟨fun y hy => Classical.byContradiction fun hn => (of_decide_eq_false h6) ⟨y, hy, hn⟩, of_decide_eq_true h11, by omega⟩]; done) | (unfold suChk; rw [if_neg (fun h => by first | (obtain ⟨y, hy, hn⟩ := of_decide_eq_true h6; exact hn (h.1 y hy)) | exact (of_decide_eq_false h11) h.2.1 | (have := h.2.2; omega))])
 refine jp rfl (wAc (jT (wAb (wAb (wAa (jp rfl (jp rfl (sFL rfl rfl ?_))))))))
 refine wDf rfl rfl (wAy rfl rfl rfl rfl rfl (by kernel_rfl) (taken_spec x.root M)) (fun h11 => ?_) (fun h11 => ?_)
 ·refine jp rfl (jp rfl (jp rfl (sFL rfl rfl ?_)))
  refine wAi rfl rfl (wBe rfl rfl rfl) ?_
  refine js rfl (fun h18 => ?_) (fun h18 => ?_)
  ·refine jp rfl (wAc (jT (wAg rfl (wAb (wAa (jp rfl (wAc (jT (wAf (jTr (jr1 rfl rfl ?_)))))))))))
   first | (unfold suChk; rw [if_pos ⟨fun y hy => Classical.byContradiction fun hn => (of_decide_eq_false h6) ⟨y, hy, hn⟩, of_decide_eq_true h11, by omega⟩]; done) | (unfold suChk; rw [if_neg (fun h => by first | (obtain ⟨y, hy, hn⟩ := of_decide_eq_true h6; exact hn (h.1 y hy)) | exact (of_decide_eq_false h11) h.2.1 | (have := h.2.2; omega))])
  refine jp rfl (wAc (jT (wAk rfl (wAd (jT (wAb (wAa (jp rfl (wAc (jT (wAf (jr1 rfl rfl ?_))))))))))))
  first | (unfold suChk; rw [if_pos ⟨fun y hy => Classical.byContradiction fun hn => (of_decide_eq_false h6) ⟨y, hy, hn⟩, of_decide_eq_true h11, by omega⟩]; done) | (unfold suChk; rw [if_neg (fun h => by first | (obtain ⟨y, hy, hn⟩ := of_decide_eq_true h6; exact hn (h.1 y hy)) | exact (of_decide_eq_false h11) h.2.1 | (have := h.2.2; omega))])
 iterate 8 refine jp rfl ?_
 refine wAc (jT (wAg rfl (wAb (wAa (jp rfl (wAc (jT (wAf (jTr (jr1 rfl rfl ?_))))))))))
 first | (unfold suChk; rw [if_pos ⟨fun y hy => Classical.byContradiction fun hn => (of_decide_eq_false h6) ⟨y, hy, hn⟩, of_decide_eq_true h11, by omega⟩]; done) | (unfold suChk; rw [if_neg (fun h => by first | (obtain ⟨y, hy, hn⟩ := of_decide_eq_true h6; exact hn (h.1 y hy)) | exact (of_decide_eq_false h11) h.2.1 | (have := h.2.2; omega))])
theorem LS.five {M : Mem} {b : Nat} {u1 u2 u3 u4 u5 : Value} {x1 x2 x3 x4 x5 : List By} (h : M b = some (.cells [u1, u2, u3, u4, u5].toArray 26 (0, 0))) (h1 : BS M u1 x1) (h2 : BS M u2 x2) (h3 : BS M u3 x3) (h4 : BS M u4 x4) (h5 : BS M u5 x5) : LS M (.slice (some ⟨b, 0, none⟩) 5 5) [x1, x2, x3, x4, x5] :=
 ⟨_, 5, [(x1, u1), (x2, u2), (x3, u3), (x4, u4), (x5, u5)], rfl, Nat.le_refl _, SM.of_block (l := [u1, u2, u3, u4, u5]) h, rfl, fun p hp => by
  simp only [List.mem_cons, List.not_mem_nil, or_false] at hp
  rcases hp with rfl | rfl | rfl | rfl | rfl <;> assumption⟩
set_option maxHeartbeats 4000000 in
theorem rwrite_spec (x : Su) (da : Option Addr) (dc : Nat) (M : Mem) (hdc : x.dead.length ≤ dc) (hds : SM M da (wAw x.dead)) (hdl : x.dead.length ≤ 1000000) :
  SpecL Tryz.prog 53 #[.agg (suc x (.slice da x.dead.length dc)).toArray] M [] fun u M' L' => (if suOk x then ∃ s, u = .tuple #[s, .int .i64 0] ∧ BS M' s (suB x) else u = .tuple #[.slice none 0 0, .int .i64 8]) ∧ L' = [] := by
 refine wAe (vs := [_]) 60 _ Tryz.func53 rfl Tryz.ntmps53 rfl rfl ?_; intro W
 refine wAb (wAa (wAv rfl rfl (wBw (cs := [_, _, _, _, _]) rfl rfl rfl rfl) ?_)); rintro _ _ _ ⟨b1, rfl, rfl, rfl⟩
 refine jp rfl (jp rfl (wAc (jT (wAb (wAb (wAa (sLL rfl ?_)))))))
 refine wAi rfl rfl (wAy rfl rfl rfl rfl rfl (by kernel_rfl) (sucheck_spec x da dc M hdc hds hdl)) ?_
 refine jp rfl (wAc (jT (wAb (wAa (jp rfl (js rfl (fun h15 => ?_) (fun h15 => ?_)))))))
 ·refine wAc (jT (wAg rfl (wAb (wAa (jp rfl (jp rfl (jp rfl (wAc (jT (wAf (jTr (wAu (L' := []) (List.nil_sublist _) ?_))))))))))))
  refine jr2 rfl rfl rfl ?_
  have hno : ¬ suOk x := fun h => h15 (if_pos h)
  exact ⟨by rw [if_neg hno]; unfold suChk; rw [if_neg hno]; try rfl, rfl⟩
 refine wAc (jT (wAk rfl (wAd (jT (wAb (wAa (sFL rfl rfl ?_)))))))
 have hok : suOk x := Classical.byContradiction fun h => h15 (by unfold suChk; rw [if_neg h]; decide)
 have hrt := hok.2.1
 unfold tk at hrt
 refine wAv rfl rfl (wAt rfl rfl rfl rfl rfl (by kernel_rfl) (two_spec x.root M (by omega))) ?_; rintro _ M1 _ ⟨hM1, _, rfl, ⟨⟨s2, rfl, hs2⟩, rfl⟩⟩
 simp only [nA]
 refine jp rfl (jp rfl (jp rfl (jp rfl (jp rfl (wAc (jT (wAb (wEf ([(b1, .cells (suc x (.slice da x.dead.length dc)).toArray TSu (0, 0))]) (by kernel_rfl) (by simp) ?_))))))))
 refine wDg (i := 0) rfl (by kernel_rfl) (by kernel_rfl) rfl rfl (wBi rfl rfl rfl rfl rfl) ?_
 refine wDg (i := 1) rfl (by kernel_rfl) (by kernel_rfl) rfl rfl (qLd rfl rfl rfl rfl (CJ.loc rfl)) ?_
 refine wFj (i := 3) rfl (by kernel_rfl) (by kernel_rfl) rfl ?_
 refine wDg (i := 4) rfl (by kernel_rfl) (by kernel_rfl) rfl rfl (wBi rfl rfl rfl rfl rfl) ?_
 refine wDg (i := 5) rfl (by kernel_rfl) (by kernel_rfl) rfl rfl (qLd rfl rfl rfl rfl (CJ.loc rfl)) ?_
 refine wDg (i := 7) rfl (by kernel_rfl) (by kernel_rfl) rfl rfl (wBi rfl rfl rfl rfl rfl) ?_
 refine wDg (i := 8) rfl (by kernel_rfl) (by kernel_rfl) rfl rfl (qLd rfl rfl rfl rfl (CJ.loc rfl)) ?_
 refine wDg (i := 10) rfl (by kernel_rfl) (by kernel_rfl) rfl rfl (wBi rfl rfl rfl rfl rfl) ?_
 refine wDg (i := 11) rfl (by kernel_rfl) (by kernel_rfl) rfl rfl (qLd rfl rfl rfl rfl (CJ.loc rfl)) ?_
 refine wDg (i := 12) rfl (by kernel_rfl) (by kernel_rfl) rfl rfl (wBe rfl rfl rfl) ?_
 refine wDg (i := 13) rfl (by kernel_rfl) (by kernel_rfl) rfl rfl (qEq (wDe rfl rfl rfl) (by rw [u8_bU])) ?_
 refine wEh (α := Mem × Value × Value × Value × Value) (fun y => MLe M1 y.1 ∧ BS y.1 y.2.1 (wEj x.gen) ∧ BS y.1 y.2.2.1 (wEj x.next) ∧ BS y.1 y.2.2.2.1 (wEj x.table) ∧ BS y.1 y.2.2.2.2 [bU x.dead.length]) (fun y => [(1, .pointer (some ⟨b1, 0, none⟩)), (25, y.2.1), (26, s2), (29, y.2.2.1), (32, y.2.2.2.1), (37, y.2.2.2.2)]) (fun y => y.1) (fun _ => [(b1, .cells (suc x (.slice da x.dead.length dc)).toArray TSu (0, 0))]) 3 #[true, true, true, true, true, true, true, true, true, true, true, true, true, true, true, false, false, false] ?_ (fun rest => ?_)
 ·rintro ⟨Mr, v2, v6, v9, v14⟩ ⟨hMr, hB2, hB6, hB9, hB14⟩
  try dsimp only at hMr hB2 hB6 hB9 hB14 ⊢
  obtain ⟨a2, k2, rfl, _, _⟩ := id hB2
  obtain ⟨a6, k6, rfl, _, _⟩ := id hB6
  obtain ⟨a9, k9, rfl, _, _⟩ := id hB9
  obtain ⟨a14, k14, rfl, _, _⟩ := id hB14
  obtain ⟨aa2, kk2, rfl, _, _⟩ := id hs2
  refine wFo (i := 15) (by kernel_rfl) ?_
  refine wCs rfl rfl rfl (wAr (cs := [_, _, _, _, _]) rfl rfl rfl (by rfl) (by rfl) (by rfl)) ?_; rintro _ _ _ ⟨b38, rfl, rfl, rfl⟩
  refine wAp (hMr) (by simp) ?_
  refine wDn b38 (by simp) (by simp) ?_
  intro M15 hM15 e15
  have hls := LS.five e15 (hB2.mono hM15) ((hs2.mono hMr).mono hM15) (hB6.mono hM15) (hB9.mono hM15) (hB14.mono hM15)
  refine wFo (i := 16) (by kernel_rfl) ?_
  refine wCs rfl rfl rfl (wAt rfl rfl rfl rfl rfl (by kernel_rfl) (wGv _ _ M15 hls (by simp) (by simp [wEj, wGn]))) ?_; rintro _ M16 _ ⟨hM16, R16, rfl, hown⟩
  refine wAp ((hMr.trans hM15).trans hM16) (by simp) ?_
  refine wFj (i := 17) rfl (by kernel_rfl) (by kernel_rfl) rfl ?_
  refine wHi (by kernel_rfl) ?_
  refine jPn (jT (wAb (wAb (wAa (sFL rfl rfl ?_)))))
  refine wAi rfl rfl (wBe rfl rfl rfl) ?_
  refine jp rfl (wAc (jT (wAh ?_)))
  have hMall := hM1.trans ((hMr.trans hM15).trans hM16)
  refine wAo (α := Nat × Mem × Lc × Value) (fun y => [(1, .pointer (some ⟨b1, 0, none⟩)), (7, y.2.2.2), (41, .slice da x.dead.length dc), (42, .int .i64 x.dead.length), (43, .int .i64 y.1)]) (fun y => y.2.1) (fun y => y.2.2.1 ++ [(b1, .cells (suc x (.slice da x.dead.length dc)).toArray TSu (0, 0))]) (fun y => y.1 ≤ x.dead.length ∧ MLe M16 y.2.1 ∧ Own y.2.2.2 y.2.2.1 5 1 (15 + 2 * y.1) (wAj (wJr x) ++ wAj ((x.dead.take y.1).flatMap wGn))) (fun y => x.dead.length - y.1)
   (0, M16, R16, _) (.cons (t := 1) rfl (.cons (t := 7) rfl (.cons (t := 41) rfl (.cons (t := 42) rfl (.cons (t := 43) rfl .nil))))) ⟨Nat.zero_le _, MLe.refl _, hown.cast rfl (List.append_nil _).symm⟩ (fun _ h => h) ?_
  rintro ⟨k, Mk, R, s⟩ ⟨hk, hMk, hown⟩
  try dsimp only at hk hMk hown ⊢
  refine wAb (wAa (js rfl (fun h44 => ?_) (fun h44 => ?_)))
  ·refine wAc (jT (wAb (wAg rfl (wAd (jT (wAb (wAh (wAb (wAa ?_)))))))))
   have hk1 : k < x.dead.length := by omega
   obtain ⟨sb, so, e0, hx⟩ := (hds.mono hMall).open (by intro e; have := congrArg List.length e; rw [wBc, List.length_nil] at this; omega)
   subst e0
   have htk := hok.1 x.dead[k] (List.getElem_mem hk1)
   unfold tk at htk
   refine wAi rfl rfl (wBb rfl rfl rfl rfl (by omega)) ?_
   refine wAi rfl rfl (qLd (v := .int .i64 x.dead[k]) rfl rfl rfl rfl (((hx _ _ (by rw [Nat.mul_one]; simp [wAw, hk1])).mono hMk).cj _)) ?_
   refine jp rfl (wAc (jT (wAb (wAa (jp rfl (wAv rfl rfl (wAt rfl rfl rfl rfl rfl (by kernel_rfl) (two_spec x.dead[k] Mk (by omega))) ?_)))))); rintro _ Mw _ ⟨hMw, _, rfl, ⟨⟨sw, rfl, wa, wc, rfl, hwc, hsw⟩, rfl⟩⟩
   simp only [nA]
   refine jp rfl (jp rfl (jp rfl (jp rfl (jp rfl (wAc (jT (wAa (jp rfl (jp rfl ?_)))))))))
   refine wAv rfl rfl (wBk (R := R) (news := wAj (wGn x.dead[k])) rfl rfl rfl rfl hown (by rw [wAm, Nat.mul_one]) hsw (by rfl) (wBf _) (by show _ + 2 ≤ _; omega) (by omega)) ?_; rintro s' _ _ ⟨rfl, R', rfl, hown'⟩
   obtain ⟨a2, c2, rfl⟩ := hown'.form
   refine jp rfl (wAc (jB (jT (wAa (ja rfl (by omega) ?_)))))
   refine jp rfl (wAc ?_)
   refine wAn (k + 1, Mw, R', .slice a2 _ c2) (.cons (t := 1) rfl (.cons (t := 7) rfl (.cons (t := 41) rfl (.cons (t := 42) rfl (.cons (t := 43) rfl .nil))))) ⟨by show k + 1 ≤ x.dead.length; omega, hMk.trans hMw, ?_⟩ (by show x.dead.length - (k + 1) < x.dead.length - k; omega) (fun _ h => h)
   show Own _ _ _ _ (15 + 2 * (k + 1)) (_ ++ wAj ((x.dead.take (k + 1)).flatMap wGn))
   rw [twos_step hk1, show wAj ((x.dead.take k).flatMap wGn ++ wGn x.dead[k]) = wAj ((x.dead.take k).flatMap wGn) ++ wAj (wGn x.dead[k]) by simp [wAj], ← List.append_assoc]; exact hown'
  refine wAc (jT (wAb (wAk rfl (wAs (jTx (jTx (jBx (jT (wAb (wAa (jp rfl ?_)))))))))))
  obtain rfl : k = x.dead.length := by omega
  rw [List.take_length] at hown
  have hdl40 := hok.2.2
  have hrl := suRaw_len x
  refine wDw hown (by simp) ?_
  intro M8 a8 c8 hM8 e8 hc8 hs8; cases e8
  refine wAv rfl rfl (wAt rfl rfl rfl rfl rfl (by kernel_rfl) (by have h1 := seal_walk (suRaw x) a8 c8 M8 (by rw [hrl]; exact hc8) (by unfold suRaw; rw [show wAj (wJr x ++ x.dead.flatMap wGn) = wAj (wJr x) ++ wAj (x.dead.flatMap wGn) by simp [wAj]]; exact hs8) (by omega); rw [hrl] at h1; exact h1)) ?_; rintro _ M9 _ ⟨hM9, _, rfl, ⟨⟨s9, rfl, hs9⟩, rfl⟩⟩
  refine jp rfl (jp rfl (jp rfl (jp rfl (wAc (jT (wAf (wAu (L' := []) (List.nil_sublist _) ?_)))))))
  refine jr2 rfl rfl rfl ?_
  exact ⟨by rw [if_pos hok]; exact ⟨_, rfl, hs9⟩, rfl⟩
 refine wBa [2, 14] (by kernel_rfl) rfl ⟨?_, ?_, trivial⟩
 ·refine wCs rfl rfl rfl (wAt rfl rfl rfl rfl rfl (by kernel_rfl) (wCo x.gen _)) ?_; rintro v2 M2 _ ⟨hM2, R2, rfl, hF2, rfl⟩
  refine wAp (hM2) (by simp) ?_
  simp only [nA]
  refine wBa [6, 14] (by kernel_rfl) rfl ⟨?_, ?_, trivial⟩
  ·refine wCs rfl rfl rfl (wAt rfl rfl rfl rfl rfl (by kernel_rfl) (wCo x.next _)) ?_; rintro v6 M6 _ ⟨hM6, R6, rfl, hF6, rfl⟩
   refine wAp ((hM2).trans hM6) (by simp) ?_
   simp only [nA]
   refine wBa [9, 14] (by kernel_rfl) rfl ⟨?_, ?_, trivial⟩
   ·refine wCs rfl rfl rfl (wAt rfl rfl rfl rfl rfl (by kernel_rfl) (wCo x.table _)) ?_; rintro v9 M9 _ ⟨hM9, R9, rfl, hF9, rfl⟩
    refine wAp (((hM2.trans hM6)).trans hM9) (by simp) ?_
    simp only [nA]
    refine wBa [14] (by kernel_rfl) rfl ⟨?_, trivial⟩
    refine wCs rfl rfl rfl (wAr (cs := [_]) rfl rfl rfl (by rfl) (by rfl) (by rfl)) ?_; rintro _ _ _ ⟨b37, rfl, rfl, rfl⟩
    refine wAp ((hM2.trans (hM6.trans hM9))) (by simp) ?_
    refine wDn b37 (by simp) (by simp) ?_
    intro M14 hM14 e14
    have hF14 : BS M14 (.slice (some ⟨b37, 0, none⟩) 1 1) [bU x.dead.length] := ⟨_, 1, rfl, Nat.le_refl _, SM.of_block (l := wAj [bU x.dead.length]) e14⟩
    refine wBq (listed' := #[true, true, true, true, true, true, true, true, true, true, true, true, true, true, true, false, false, false]) (by kernel_rfl) (wBp (.cons (t := 1) rfl (.cons (t := 25) rfl (.cons (t := 26) rfl (.cons (t := 29) rfl (.cons (t := 32) rfl (.cons (t := 37) rfl .nil)))))) ?_)
    exact rest (_, _, _, _, _) ⟨(hM2.trans (hM6.trans (hM9.trans hM14))), hF2.mono ((hM6.trans (hM9.trans hM14))), hF6.mono ((hM9.trans hM14)), hF9.mono (hM14), hF14.mono (MLe.refl _)⟩
   refine wCs rfl rfl rfl (wAr (cs := [_]) rfl rfl rfl (by rfl) (by rfl) (by rfl)) ?_; rintro _ _ _ ⟨b37, rfl, rfl, rfl⟩
   refine wAp ((hM2.trans hM6)) (by simp) ?_
   refine wDn b37 (by simp) (by simp) ?_
   intro M14 hM14 e14
   have hF14 : BS M14 (.slice (some ⟨b37, 0, none⟩) 1 1) [bU x.dead.length] := ⟨_, 1, rfl, Nat.le_refl _, SM.of_block (l := wAj [bU x.dead.length]) e14⟩
   refine wBa [9] (by kernel_rfl) rfl ⟨?_, trivial⟩
   refine wCs rfl rfl rfl (wAt rfl rfl rfl rfl rfl (by kernel_rfl) (wCo x.table _)) ?_; rintro v9 M9 _ ⟨hM9, R9, rfl, hF9, rfl⟩
   refine wAp (((hM2.trans (hM6.trans hM14))).trans hM9) (by simp) ?_
   simp only [nA]
   refine wBq (listed' := #[true, true, true, true, true, true, true, true, true, true, true, true, true, true, true, false, false, false]) (by kernel_rfl) (wBp (.cons (t := 1) rfl (.cons (t := 25) rfl (.cons (t := 26) rfl (.cons (t := 29) rfl (.cons (t := 32) rfl (.cons (t := 37) rfl .nil)))))) ?_)
   exact rest (_, _, _, _, _) ⟨(hM2.trans (hM6.trans (hM14.trans hM9))), hF2.mono ((hM6.trans (hM14.trans hM9))), hF6.mono ((hM14.trans hM9)), hF9.mono (MLe.refl _), hF14.mono (hM9)⟩
  refine wCs rfl rfl rfl (wAr (cs := [_]) rfl rfl rfl (by rfl) (by rfl) (by rfl)) ?_; rintro _ _ _ ⟨b37, rfl, rfl, rfl⟩
  refine wAp (hM2) (by simp) ?_
  refine wDn b37 (by simp) (by simp) ?_
  intro M14 hM14 e14
  have hF14 : BS M14 (.slice (some ⟨b37, 0, none⟩) 1 1) [bU x.dead.length] := ⟨_, 1, rfl, Nat.le_refl _, SM.of_block (l := wAj [bU x.dead.length]) e14⟩
  refine wBa [6] (by kernel_rfl) rfl ⟨?_, trivial⟩
  refine wCs rfl rfl rfl (wAt rfl rfl rfl rfl rfl (by kernel_rfl) (wCo x.next _)) ?_; rintro v6 M6 _ ⟨hM6, R6, rfl, hF6, rfl⟩
  refine wAp (((hM2.trans hM14)).trans hM6) (by simp) ?_
  simp only [nA]
  refine wBa [9] (by kernel_rfl) rfl ⟨?_, trivial⟩
  refine wCs rfl rfl rfl (wAt rfl rfl rfl rfl rfl (by kernel_rfl) (wCo x.table _)) ?_; rintro v9 M9 _ ⟨hM9, R9, rfl, hF9, rfl⟩
  refine wAp (((hM2.trans (hM14.trans hM6))).trans hM9) (by simp) ?_
  simp only [nA]
  refine wBq (listed' := #[true, true, true, true, true, true, true, true, true, true, true, true, true, true, true, false, false, false]) (by kernel_rfl) (wBp (.cons (t := 1) rfl (.cons (t := 25) rfl (.cons (t := 26) rfl (.cons (t := 29) rfl (.cons (t := 32) rfl (.cons (t := 37) rfl .nil)))))) ?_)
  exact rest (_, _, _, _, _) ⟨(hM2.trans (hM14.trans (hM6.trans hM9))), hF2.mono ((hM14.trans (hM6.trans hM9))), hF6.mono (hM9), hF9.mono (MLe.refl _), hF14.mono ((hM6.trans hM9))⟩
 refine wCs rfl rfl rfl (wAr (cs := [_]) rfl rfl rfl (by rfl) (by rfl) (by rfl)) ?_; rintro _ _ _ ⟨b37, rfl, rfl, rfl⟩
 refine wAp (MLe.refl _) (by simp) ?_
 refine wDn b37 (by simp) (by simp) ?_
 intro M14 hM14 e14
 have hF14 : BS M14 (.slice (some ⟨b37, 0, none⟩) 1 1) [bU x.dead.length] := ⟨_, 1, rfl, Nat.le_refl _, SM.of_block (l := wAj [bU x.dead.length]) e14⟩
 refine wBa [2] (by kernel_rfl) rfl ⟨?_, trivial⟩
 refine wCs rfl rfl rfl (wAt rfl rfl rfl rfl rfl (by kernel_rfl) (wCo x.gen _)) ?_; rintro v2 M2 _ ⟨hM2, R2, rfl, hF2, rfl⟩
 refine wAp ((hM14).trans hM2) (by simp) ?_
 simp only [nA]
 refine wBa [6] (by kernel_rfl) rfl ⟨?_, trivial⟩
 refine wCs rfl rfl rfl (wAt rfl rfl rfl rfl rfl (by kernel_rfl) (wCo x.next _)) ?_; rintro v6 M6 _ ⟨hM6, R6, rfl, hF6, rfl⟩
 refine wAp (((hM14.trans hM2)).trans hM6) (by simp) ?_
 simp only [nA]
 refine wBa [9] (by kernel_rfl) rfl ⟨?_, trivial⟩
 refine wCs rfl rfl rfl (wAt rfl rfl rfl rfl rfl (by kernel_rfl) (wCo x.table _)) ?_; rintro v9 M9 _ ⟨hM9, R9, rfl, hF9, rfl⟩
 refine wAp (((hM14.trans (hM2.trans hM6))).trans hM9) (by simp) ?_
 simp only [nA]
 refine wBq (listed' := #[true, true, true, true, true, true, true, true, true, true, true, true, true, true, true, false, false, false]) (by kernel_rfl) (wBp (.cons (t := 1) rfl (.cons (t := 25) rfl (.cons (t := 26) rfl (.cons (t := 29) rfl (.cons (t := 32) rfl (.cons (t := 37) rfl .nil)))))) ?_)
 exact rest (_, _, _, _, _) ⟨(hM14.trans (hM2.trans (hM6.trans hM9))), hF2.mono ((hM6.trans hM9)), hF6.mono (hM9), hF9.mono (MLe.refl _), hF14.mono ((hM2.trans (hM6.trans hM9)))⟩
theorem slot_spec (n : Int) (M : Mem) (hn : 0 ≤ n ∧ n < 4294967296) :
  SpecL Tryz.prog 54 #[.int .u32 n] M [] fun u _ _ => u = .int .i64 (n % 4) := by
 refine wAe (vs := [_]) 6 _ Tryz.func54 rfl Tryz.ntmps54 rfl rfl ?_; intro W
 refine wAb (wAa (jp rfl (wAc (jT (wAb (wAa (jp rfl (wAi rfl rfl (wCg rfl rfl rfl (by omega)) ?_))))))))
 refine wAi rfl rfl (qRem rfl rfl rfl rfl (by omega) (by omega)) ?_
 refine jp rfl (wAc (jT (wAf (jr1 rfl rfl ?_))))
 rfl
set_option maxHeartbeats 1000000 in
theorem rput_spec (bs : List (List By)) (ws : List Wt) (bv wv : Value) (M : Mem) (h1 : LS M bv bs) (h2 : WS M wv ws) (hdk : dkOk bs ws) (x : Su) (da : Option Addr) (dc : Nat) (hdc : x.dead.length ≤ dc) (hds : SM M da (wAw x.dead)) (hdl : x.dead.length ≤ 1000000) (hsu : suOk x) (hg : 0 ≤ x.gen ∧ x.gen < 4294967296) (hwl : ws.length < 4096) :
  SpecL Tryz.prog 35 #[.agg #[bv, wv], .agg (suc x (.slice da x.dead.length dc)).toArray] M [] fun u M' L' => (∃ d, u = .tuple #[d, .int .i64 0] ∧ DK M' d bs (ws ++ [(x.gen % 4, suB x)])) ∧ L' = [] := by
 have hck : dkChk bs ws = 0 := if_pos hdk
 refine wAe (vs := [_, _]) 32 _ Tryz.func35 rfl Tryz.ntmps35 rfl rfl ?_; intro W
 refine wAb (wAa (wAv rfl rfl (wBw (cs := [_, _]) rfl rfl rfl rfl) ?_)); rintro _ _ _ ⟨b2, rfl, rfl, rfl⟩
 refine wAv rfl rfl (wBw (cs := [_, _, _, _, _]) rfl rfl rfl rfl) ?_; rintro _ _ _ ⟨b3, rfl, rfl, rfl⟩
 refine sAl rfl fun b4 => ?_
 refine jp rfl (wAc (jT (wAb (wAb (wAa (sLL rfl ?_))))))
 refine wAi rfl rfl (wAy rfl rfl rfl rfl rfl (by kernel_rfl) (wDu bs ws bv wv M h1 h2)) ?_
 refine jp rfl (wAc (jT (wAb (wAa (jp rfl ?_)))))
 refine jf rfl (decide_eq_false (by first | omega | (rw [hck]; decide))) ?_
 refine wAc (jT (wAk rfl (wAd (jT (wAb (wAa (sLL rfl ?_)))))))
 refine wAv rfl rfl (wAt rfl rfl rfl rfl rfl (by kernel_rfl) (rwrite_spec x da dc M hdc hds hdl)) ?_; rintro _ M1 _ ⟨hM1, _, rfl, ⟨hsw, rfl⟩⟩
 rw [if_pos hsu] at hsw
 obtain ⟨s, rfl, hs⟩ := hsw
 simp only [nA]
 refine jp rfl (jp rfl (jp rfl (jp rfl (jp rfl (wAc (jT (wAb (wAb (wAa (jp rfl ?_))))))))))
 refine jf rfl (decide_eq_false (by first | omega | (rw [hck]; decide))) ?_
 refine wAc (jT (wAk rfl (wAd (jT (wAb (wBj (p := { A := fun i => !([8].contains i), U := fun i => !([8, 9].contains i) }) [(0, true), (1, true), (2, true), (3, true), (4, true), (5, false), (6, true), (7, true), (8, false), (9, true)] M1 ([(b3, .cells (suc x (.slice da x.dead.length dc)).toArray TSu (0, 0)), (b2, .cells [bv, wv].toArray TDk (0, 0))]) ([]) (by kernel_rfl) (by kernel_rfl) (by kernel_rfl) (by kernel_rfl) rfl (by simp) (MLe.refl _) (by simp) ?_))))))
 refine dLL rfl rfl ?_
 refine dFa rfl rfl ?_
 refine dLd rfl rfl ?_
 refine wBh rfl rfl rfl (wAy rfl rfl rfl rfl rfl (by kernel_rfl) (slot_spec x.gen M1 hg)) ?_
 refine dp rfl rfl ?_
 refine wDy rfl rfl rfl (wAt rfl rfl rfl rfl rfl (by kernel_rfl) (dwrite_spec bs ws bv wv M1 (h1.mono hM1) (h2.mono hM1) hdk (x.gen % 4) (by omega) (suB x) s hs (suB_len hsu) hwl)) ?_; rintro _ M2 _ ⟨hM2, _, rfl, ⟨⟨d, rfl, bv2, wv2, rfl, hB, hW⟩, rfl⟩⟩
 refine ⟨_, _, MLe.refl _, hM2, fun _ h => h, by simp, ?_⟩
 obtain ⟨ba, bc, bps, rfl, _⟩ := id hB
 obtain ⟨wa, wc, wps, rfl, _⟩ := id hW
 iterate 2 refine dp rfl rfl ?_
 refine jd_e rfl rfl (wBd rfl rfl rfl rfl rfl rfl rfl rfl) ?_; rintro _ _ _ ⟨rfl, rfl⟩
 refine ⟨hM2, by simp, ?_⟩
 refine ep rfl rfl ?_
 refine wCn ?_
 refine jPn (jT (wAf (wBr (rs := [_, _]) ([]) (by exact List.nil_sublist _) rfl (.cons (.agg rfl rfl rfl) (.cons (.tmp rfl) .nil)) ?_)))
 exact ⟨⟨_, rfl, _, _, rfl, hB, hW⟩, rfl⟩
end Go.Proofs.YtbhkdjheooknfaaGreat
