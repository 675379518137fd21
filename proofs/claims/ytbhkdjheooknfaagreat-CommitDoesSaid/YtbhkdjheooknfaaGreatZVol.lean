/- Walks: a volume told by its item. -/
import Derived.Test.YtbhkdjheooknfaaGreatZSp
import Derived.Test.YtbhkdjheooknfaaGreatZCat
namespace Go.Proofs.YtbhkdjheooknfaaGreat
set_option linter.unusedVariables false
set_option linter.unusedSectionVars false
set_option linter.unusedSimpArgs false
open Go.RowKit
theorem get_bad (sa : Option Addr) (c : Nat) (xs : List By) (a m : Nat) (M : Mem) (h : ¬ a + m ≤ xs.length) (hm : m ≤ 100) (ha : a ≤ 1000) (hn : xs.length ≤ 1000000) :
  SpecL Tryz.prog 123 #[.slice sa xs.length c, .int .i64 a, .int .i64 m] M [] fun v _ L' => v = .tuple #[.int .u32 0, .int .i64 8] ∧ L' = [] := by
 refine wAe (vs := [_, _, _]) 35 _ Tryz.func123 rfl Tryz.ntmps123 rfl rfl ?_; intro W
 refine wAb (wAa (sAl rfl fun b6 => ?_))
 refine jp rfl (wAc (jT (wAb (wAb (wAa (jp rfl (jf rfl (decide_eq_false (by omega)) ?_)))))))
 refine jp rfl (jp rfl (jp rfl (wAi rfl rfl (wBe rfl rfl rfl) ?_)))
 refine jp rfl (ja rfl (by omega) ?_)
 refine jt rfl (decide_eq_true (by omega)) ?_
 refine jp rfl (wAc (jT (wAg rfl (wAb (wAa (sSt rfl ?_))))))
 refine jp rfl (wAc (jT (wAf (jTr (wBr (rs := [_, _]) ([]) (by exact List.nil_sublist _) rfl (.cons (.one rfl rfl rfl) (.cons (.tmp rfl) .nil)) ?_)))))
 exact ⟨rfl, rfl⟩
theorem getFour_bad (sa : Option Addr) (c : Nat) (xs : List By) (a : Nat) (M : Mem) (hn : xs.length ≤ 1000000) (h : ¬ a + 4 ≤ xs.length) (ha : a ≤ 1000) :
  SpecL Tryz.prog 105 #[.slice sa xs.length c, .int .i64 a] M [] fun v _ _ => v = .tuple #[.int .u32 0, .int .i64 8] := by
 refine wAe (vs := [_, _]) 11 _ Tryz.func105 rfl Tryz.ntmps105 rfl rfl ?_; intro W
 refine wAb (wAa (jp rfl (jp rfl (wAc (jT (wAb (wAa (jp rfl (jp rfl (wAv rfl rfl (wAt rfl rfl rfl rfl rfl (by kernel_rfl) (get_bad sa c xs a 4 M h (by omega) ha hn)) ?_)))))))))); rintro _ _ _ ⟨_, _, rfl, ⟨rfl, rfl⟩⟩
 refine jp rfl (jp rfl (jp rfl (jp rfl (wAc (jT (wAf (jr2 rfl rfl rfl ?_)))))))
 rfl
theorem getTwo_bad (sa : Option Addr) (c : Nat) (xs : List By) (a : Nat) (M : Mem) (hn : xs.length ≤ 1000000) (h : ¬ a + 2 ≤ xs.length) (ha : a ≤ 1000) :
  SpecL Tryz.prog 104 #[.slice sa xs.length c, .int .i64 a] M [] fun v _ _ => v = .tuple #[.int .i64 0, .int .i64 8] := by
 refine wAe (vs := [_, _]) 17 _ Tryz.func104 rfl Tryz.ntmps104 rfl rfl ?_; intro W
 refine wAb (wAa (jp rfl (jp rfl (wAc (jT (wAb (wAa (jp rfl (jp rfl (wAv rfl rfl (wAt rfl rfl rfl rfl rfl (by kernel_rfl) (get_bad sa c xs a 2 M h (by omega) ha hn)) ?_)))))))))); rintro _ _ _ ⟨_, _, rfl, ⟨rfl, rfl⟩⟩
 refine jp rfl (jp rfl (jp rfl (jp rfl (jp rfl (wAc (jT (wAb (wAa (jp rfl (wAi rfl rfl (wCg rfl rfl rfl (by omega)) ?_))))))))))
 refine jp rfl (jp rfl (jp rfl (wAc (jT (wAf (jr2 rfl rfl rfl ?_))))))
 rfl
structure Vo where
 id : Int
 root : Int
 frz : Bool
 frm : Int
abbrev voc (v : Vo) : List Value := [.int .u32 v.id, .int .i64 v.root, .bool v.frz, .int .u32 v.frm]
def bB (b : Bool) : By := if b then 1 else 0
def voB (v : Vo) : List By := [wGn v.root, [bB v.frz], wEj v.frm].flatten
def oneIt (v : Vo) : It := ⟨⟨1, v.id, 0⟩, 0, voB v⟩
def wCm (x : It) : Vo := ⟨x.key.id, wGm x.val 0 2, decide (((x.val.getD 2 0).toNat : Int) = 1), wGm x.val 3 4⟩
def wCy (x : It) : Prop := 7 ≤ x.val.length ∧ oneIt (wCm x) = x
instance (x : It) : Decidable (wCy x) := by unfold wCy; exact inferInstance
theorem LS.three {M : Mem} {b : Nat} {u1 u2 u3 : Value} {x1 x2 x3 : List By} (h : M b = some (.cells [u1, u2, u3].toArray 26 (0, 0))) (h1 : BS M u1 x1) (h2 : BS M u2 x2) (h3 : BS M u3 x3) : LS M (.slice (some ⟨b, 0, none⟩) 3 3) [x1, x2, x3] :=
 ⟨some ⟨b, 0, none⟩, 3, [(x1, u1), (x2, u2), (x3, u3)], rfl, Nat.le_refl _, SM.of_block (l := [u1, u2, u3]) h, rfl, fun p hp => by
  simp only [List.mem_cons, List.not_mem_nil, or_false] at hp
  rcases hp with rfl | rfl | rfl
  ·exact h1
  ·exact h2
  exact h3⟩
theorem getN_two (xs : List By) (a : Nat) : 0 ≤ wGm xs a 2 ∧ wGm xs a 2 < 65536 := by
 have h1 : ∀ x : By, 0 ≤ wHj [x] ∧ wHj [x] < 256 := fun x => by
  have : ∀ n : Nat, n < 256 → 0 ≤ wHj [UInt8.ofNat n] ∧ wHj [UInt8.ofNat n] < 256 := by decide +kernel
  have h := this x.toNat x.toNat_lt
  rwa [UInt8.ofNat_toNat] at h
 have h : ∀ ys : List By, ys.length ≤ 2 → 0 ≤ wHj ys ∧ wHj ys < 65536 := fun ys hy => by
  match ys, hy with
  | [], _ => exact ⟨by decide, by decide⟩
  | [x], _ =>
   have := h1 x; omega
  | [x, y], _ =>
   have hx := h1 x
   show 0 ≤ wHj ([x] ++ [y]) ∧ wHj ([x] ++ [y]) < 65536
   rw [wFp]
   generalize wHj [x] = a at hx
   have hy := y.toNat_lt
   have h8 : bShl .u32 a 8 = a * 256 := by
    unfold bShl
    rw [IntKind.wrap_u32, show (2 : Int) ^ (min 8 IntKind.u32.bits) = 256 by decide]; omega
   rw [h8]
   refine ⟨(bOr_u32 _ _).1, ?_⟩
   unfold bOr
   rw [IntKind.wrap_u32]
   have e1 : (BitVec.ofInt IntKind.u32.bits (a * 256)).toNat < 2 ^ 16 := by
    rw [BitVec.toNat_ofInt]; show ((a * 256) % 4294967296).toNat < _; omega
   have e2 : (BitVec.ofInt IntKind.u32.bits (y.toNat : Int)).toNat < 2 ^ 16 := by
    rw [BitVec.toNat_ofInt]; show (((y.toNat : Int)) % 4294967296).toNat < _; omega
   have e3 : (BitVec.ofInt IntKind.u32.bits (a * 256) ||| BitVec.ofInt IntKind.u32.bits (y.toNat : Int)).toNat < 2 ^ 16 := by
    rw [BitVec.toNat_or]; exact Nat.or_lt_two_pow e1 e2
   omega
 unfold wGm
 refine h _ ?_
 rw [List.length_reverse, List.length_take]; omega
set_option maxHeartbeats 1000000 in
theorem one_spec (v : Vo) (M : Mem) (h : 0 ≤ v.root ∧ v.root < 65536) :
  SpecL Tryz.prog 107 #[.agg (voc v).toArray] M [] fun u M' L' => (∃ va vc, u = .agg (itc (oneIt v) va vc).toArray ∧ (oneIt v).val.length ≤ vc ∧ SM M' va (wAj (oneIt v).val)) ∧ L' = [] := by
 refine wAe (vs := [_]) 26 _ Tryz.func107 rfl Tryz.ntmps107 rfl rfl ?_; intro W
 refine wAb (wAa (wAv rfl rfl (wBw (cs := [_, _, _, _]) rfl rfl rfl rfl) ?_)); rintro _ _ _ ⟨b1, rfl, rfl, rfl⟩
 refine sAl rfl fun b2 => ?_
 refine wAc (jT (wAb (wAa (sFL rfl rfl ?_))))
 refine wAv rfl rfl (wAt rfl rfl rfl rfl rfl (by kernel_rfl) (two_spec v.root M h)) ?_; rintro _ M2 _ ⟨hM2, _, rfl, ⟨⟨s2, rfl, hs2⟩, rfl⟩⟩
 simp only [nA]
 refine jp rfl (jp rfl (jp rfl (jp rfl (jp rfl (wAc (jT (wAb (wAa (jp rfl (wAc (jT (wAb (wAb (wAa (sFa rfl ?_)))))))))))))))
 refine wDf rfl rfl (qLd rfl rfl rfl rfl (CJ.loc rfl)) (fun h13 => ?_) (fun h13 => ?_)
 ·refine wAc (jT (wAg rfl (wAa (jp rfl (wAc (jT (wAb (wEf ([(b1, .cells (voc v).toArray 119 (0, 0))]) (by kernel_rfl) (by simp) ?_))))))))
  refine wDg (i := 0) rfl (by kernel_rfl) (by kernel_rfl) rfl rfl (wBi rfl rfl rfl rfl rfl) ?_
  refine wDg (i := 1) rfl (by kernel_rfl) (by kernel_rfl) rfl rfl (qLd rfl rfl rfl rfl (CJ.loc rfl)) ?_
  refine wDg (i := 2) rfl (by kernel_rfl) (by kernel_rfl) rfl rfl (wAq (cs := [_, _, _]) rfl rfl rfl (by rfl)) ?_
  refine wFj (i := 3) rfl (by kernel_rfl) (by kernel_rfl) rfl ?_
  refine wFj (i := 4) rfl (by kernel_rfl) (by kernel_rfl) rfl ?_
  refine wDg (i := 6) rfl (by kernel_rfl) (by kernel_rfl) rfl rfl (wBi rfl rfl rfl rfl rfl) ?_
  refine wDg (i := 7) rfl (by kernel_rfl) (by kernel_rfl) rfl rfl (qLd rfl rfl rfl rfl (CJ.loc rfl)) ?_
  refine wEh (α := Mem × Value × Value) (fun y => MLe M2 y.1 ∧ BS y.1 y.2.1 [bB v.frz] ∧ BS y.1 y.2.2 (wEj v.frm)) (fun y => [(2, .pointer (some ⟨b2, 0, none⟩)), (16, .agg #[.int .u8 1, .int .u32 v.id, .int .u32 0]), (17, s2), (19, y.2.1), (22, y.2.2)]) (fun y => y.1) (fun _ => [(b2, .cells zeroIt.toArray IT (0, 0)), (b1, .cells (voc v).toArray 119 (0, 0))]) 4 #[true, true, true, true, true, true, true, true, true, false, false, false, false] ?_ (fun rest => ?_)
  ·rintro ⟨Mr, v5, v8⟩ ⟨hMr, hB5, hB8⟩
   try dsimp only at hMr hB5 hB8 ⊢
   obtain ⟨a5, k5, rfl, _, _⟩ := id hB5
   obtain ⟨a8, k8, rfl, _, _⟩ := id hB8
   obtain ⟨aa2, kk2, rfl, _, _⟩ := id hs2
   refine wFo (i := 9) (by kernel_rfl) ?_
   refine wCs rfl rfl rfl (wAr (cs := [_, _, _]) rfl rfl rfl (by rfl) (by rfl) (by rfl)) ?_; rintro _ _ _ ⟨b23, rfl, rfl, rfl⟩
   refine wAp (hMr) (by simp) ?_
   refine wDn b23 (by simp) (by simp) ?_
   intro M9 hM9 e9
   have hls := LS.three e9 (((hs2.mono hMr).mono hM9)) (hB5.mono hM9) (hB8.mono hM9)
   refine wFo (i := 10) (by kernel_rfl) ?_
   refine wCs rfl rfl rfl (wAt rfl rfl rfl rfl rfl (by kernel_rfl) (wGv _ _ M9 hls (by simp) (by simp [wEj, wGn]))) ?_; rintro _ M10 _ ⟨hM10, R10, rfl, hown⟩
   refine wAp ((hMr.trans hM9).trans hM10) (by simp) ?_
   refine ja_own hown (by simp) (by simp) ?_
   intro M11 a11 c11 hM11 e11 hc11 hs11; subst e11
   refine wDg (i := 11) rfl (by kernel_rfl) (by kernel_rfl) rfl rfl (wAq (cs := [_, _, _, _, _]) rfl rfl rfl (by rfl)) ?_
   refine wFo (i := 12) (by kernel_rfl) ?_
   refine js_s rfl rfl (wBd rfl rfl rfl rfl rfl rfl rfl rfl) ?_; rintro _ _ _ ⟨rfl, rfl⟩
   refine wAp (((hMr.trans hM9).trans hM10).trans hM11) (by simp) ?_
   refine wHi (by kernel_rfl) ?_
   refine jPn (jT (wAf (wBr (rs := [_]) ([]) (by exact List.nil_sublist _) rfl (.cons (.agg rfl rfl rfl) .nil) ?_)))
   exact ⟨⟨_, _, rfl, hc11, hs11⟩, rfl⟩
  refine wBa [5, 8] (by kernel_rfl) rfl ⟨?_, ?_, trivial⟩
  ·refine wCs rfl rfl rfl (wAr (cs := [_]) rfl rfl rfl (by rfl) (by rfl) (by rfl)) ?_; rintro _ _ _ ⟨b19, rfl, rfl, rfl⟩
   refine wAp (MLe.refl _) (by simp) ?_
   refine wDn b19 (by simp) (by simp) ?_
   intro M5 hM5 e5
   have hF5 : BS M5 (.slice (some ⟨b19, 0, none⟩) 1 1) [bB v.frz] := ⟨_, 1, rfl, Nat.le_refl _, SM.of_block (l := wAj [bB v.frz]) (by rw [h13]; exact e5)⟩
   refine wBa [8] (by kernel_rfl) rfl ⟨?_, trivial⟩
   refine wCs rfl rfl rfl (wAt rfl rfl rfl rfl rfl (by kernel_rfl) (wCo v.frm _)) ?_; rintro v8 M8 _ ⟨hM8, R8, rfl, hF8, rfl⟩
   refine wAp ((hM5).trans hM8) (by simp) ?_
   simp only [nA]
   refine wBq (listed' := #[true, true, true, true, true, true, true, true, true, false, false, false, false]) (by kernel_rfl) (wBp (.cons (t := 2) rfl (.cons (t := 16) rfl (.cons (t := 17) rfl (.cons (t := 19) rfl (.cons (t := 22) rfl .nil))))) ?_)
   exact rest (_, _, _) ⟨(hM5.trans hM8), hF5.mono (hM8), hF8.mono (MLe.refl _)⟩
  refine wCs rfl rfl rfl (wAt rfl rfl rfl rfl rfl (by kernel_rfl) (wCo v.frm _)) ?_; rintro v8 M8 _ ⟨hM8, R8, rfl, hF8, rfl⟩
  refine wAp (hM8) (by simp) ?_
  simp only [nA]
  refine wBa [5] (by kernel_rfl) rfl ⟨?_, trivial⟩
  refine wCs rfl rfl rfl (wAr (cs := [_]) rfl rfl rfl (by rfl) (by rfl) (by rfl)) ?_; rintro _ _ _ ⟨b19, rfl, rfl, rfl⟩
  refine wAp (hM8) (by simp) ?_
  refine wDn b19 (by simp) (by simp) ?_
  intro M5 hM5 e5
  have hF5 : BS M5 (.slice (some ⟨b19, 0, none⟩) 1 1) [bB v.frz] := ⟨_, 1, rfl, Nat.le_refl _, SM.of_block (l := wAj [bB v.frz]) (by rw [h13]; exact e5)⟩
  refine wBq (listed' := #[true, true, true, true, true, true, true, true, true, false, false, false, false]) (by kernel_rfl) (wBp (.cons (t := 2) rfl (.cons (t := 16) rfl (.cons (t := 17) rfl (.cons (t := 19) rfl (.cons (t := 22) rfl .nil))))) ?_)
  exact rest (_, _, _) ⟨(hM8.trans hM5), hF5.mono (MLe.refl _), hF8.mono (hM5)⟩
 refine wAc (jT (wAk rfl (wAd (jT (wAb (wEf ([(b1, .cells (voc v).toArray 119 (0, 0))]) (by kernel_rfl) (by simp) ?_))))))
 refine wDg (i := 0) rfl (by kernel_rfl) (by kernel_rfl) rfl rfl (wBi rfl rfl rfl rfl rfl) ?_
 refine wDg (i := 1) rfl (by kernel_rfl) (by kernel_rfl) rfl rfl (qLd rfl rfl rfl rfl (CJ.loc rfl)) ?_
 refine wDg (i := 2) rfl (by kernel_rfl) (by kernel_rfl) rfl rfl (wAq (cs := [_, _, _]) rfl rfl rfl (by rfl)) ?_
 refine wFj (i := 3) rfl (by kernel_rfl) (by kernel_rfl) rfl ?_
 refine wFj (i := 4) rfl (by kernel_rfl) (by kernel_rfl) rfl ?_
 refine wDg (i := 6) rfl (by kernel_rfl) (by kernel_rfl) rfl rfl (wBi rfl rfl rfl rfl rfl) ?_
 refine wDg (i := 7) rfl (by kernel_rfl) (by kernel_rfl) rfl rfl (qLd rfl rfl rfl rfl (CJ.loc rfl)) ?_
 refine wEh (α := Mem × Value × Value) (fun y => MLe M2 y.1 ∧ BS y.1 y.2.1 [bB v.frz] ∧ BS y.1 y.2.2 (wEj v.frm)) (fun y => [(2, .pointer (some ⟨b2, 0, none⟩)), (16, .agg #[.int .u8 1, .int .u32 v.id, .int .u32 0]), (17, s2), (19, y.2.1), (22, y.2.2)]) (fun y => y.1) (fun _ => [(b2, .cells zeroIt.toArray IT (0, 0)), (b1, .cells (voc v).toArray 119 (0, 0))]) 4 #[true, true, true, true, true, true, true, true, true, false, false, false, false] ?_ (fun rest => ?_)
 ·rintro ⟨Mr, v5, v8⟩ ⟨hMr, hB5, hB8⟩
  try dsimp only at hMr hB5 hB8 ⊢
  obtain ⟨a5, k5, rfl, _, _⟩ := id hB5
  obtain ⟨a8, k8, rfl, _, _⟩ := id hB8
  obtain ⟨aa2, kk2, rfl, _, _⟩ := id hs2
  refine wFo (i := 9) (by kernel_rfl) ?_
  refine wCs rfl rfl rfl (wAr (cs := [_, _, _]) rfl rfl rfl (by rfl) (by rfl) (by rfl)) ?_; rintro _ _ _ ⟨b23, rfl, rfl, rfl⟩
  refine wAp (hMr) (by simp) ?_
  refine wDn b23 (by simp) (by simp) ?_
  intro M9 hM9 e9
  have hls := LS.three e9 (((hs2.mono hMr).mono hM9)) (hB5.mono hM9) (hB8.mono hM9)
  refine wFo (i := 10) (by kernel_rfl) ?_
  refine wCs rfl rfl rfl (wAt rfl rfl rfl rfl rfl (by kernel_rfl) (wGv _ _ M9 hls (by simp) (by simp [wEj, wGn]))) ?_; rintro _ M10 _ ⟨hM10, R10, rfl, hown⟩
  refine wAp ((hMr.trans hM9).trans hM10) (by simp) ?_
  refine ja_own hown (by simp) (by simp) ?_
  intro M11 a11 c11 hM11 e11 hc11 hs11; subst e11
  refine wDg (i := 11) rfl (by kernel_rfl) (by kernel_rfl) rfl rfl (wAq (cs := [_, _, _, _, _]) rfl rfl rfl (by rfl)) ?_
  refine wFo (i := 12) (by kernel_rfl) ?_
  refine js_s rfl rfl (wBd rfl rfl rfl rfl rfl rfl rfl rfl) ?_; rintro _ _ _ ⟨rfl, rfl⟩
  refine wAp (((hMr.trans hM9).trans hM10).trans hM11) (by simp) ?_
  refine wHi (by kernel_rfl) ?_
  refine jPn (jT (wAf (wBr (rs := [_]) ([]) (by exact List.nil_sublist _) rfl (.cons (.agg rfl rfl rfl) .nil) ?_)))
  exact ⟨⟨_, _, rfl, hc11, hs11⟩, rfl⟩
 refine wBa [5, 8] (by kernel_rfl) rfl ⟨?_, ?_, trivial⟩
 ·refine wCs rfl rfl rfl (wAr (cs := [_]) rfl rfl rfl (by rfl) (by rfl) (by rfl)) ?_; rintro _ _ _ ⟨b19, rfl, rfl, rfl⟩
  refine wAp (MLe.refl _) (by simp) ?_
  refine wDn b19 (by simp) (by simp) ?_
  intro M5 hM5 e5
  have hF5 : BS M5 (.slice (some ⟨b19, 0, none⟩) 1 1) [bB v.frz] := ⟨_, 1, rfl, Nat.le_refl _, SM.of_block (l := wAj [bB v.frz]) (by rw [h13]; exact e5)⟩
  refine wBa [8] (by kernel_rfl) rfl ⟨?_, trivial⟩
  refine wCs rfl rfl rfl (wAt rfl rfl rfl rfl rfl (by kernel_rfl) (wCo v.frm _)) ?_; rintro v8 M8 _ ⟨hM8, R8, rfl, hF8, rfl⟩
  refine wAp ((hM5).trans hM8) (by simp) ?_
  simp only [nA]
  refine wBq (listed' := #[true, true, true, true, true, true, true, true, true, false, false, false, false]) (by kernel_rfl) (wBp (.cons (t := 2) rfl (.cons (t := 16) rfl (.cons (t := 17) rfl (.cons (t := 19) rfl (.cons (t := 22) rfl .nil))))) ?_)
  exact rest (_, _, _) ⟨(hM5.trans hM8), hF5.mono (hM8), hF8.mono (MLe.refl _)⟩
 refine wCs rfl rfl rfl (wAt rfl rfl rfl rfl rfl (by kernel_rfl) (wCo v.frm _)) ?_; rintro v8 M8 _ ⟨hM8, R8, rfl, hF8, rfl⟩
 refine wAp (hM8) (by simp) ?_
 simp only [nA]
 refine wBa [5] (by kernel_rfl) rfl ⟨?_, trivial⟩
 refine wCs rfl rfl rfl (wAr (cs := [_]) rfl rfl rfl (by rfl) (by rfl) (by rfl)) ?_; rintro _ _ _ ⟨b19, rfl, rfl, rfl⟩
 refine wAp (hM8) (by simp) ?_
 refine wDn b19 (by simp) (by simp) ?_
 intro M5 hM5 e5
 have hF5 : BS M5 (.slice (some ⟨b19, 0, none⟩) 1 1) [bB v.frz] := ⟨_, 1, rfl, Nat.le_refl _, SM.of_block (l := wAj [bB v.frz]) (by rw [h13]; exact e5)⟩
 refine wBq (listed' := #[true, true, true, true, true, true, true, true, true, false, false, false, false]) (by kernel_rfl) (wBp (.cons (t := 2) rfl (.cons (t := 16) rfl (.cons (t := 17) rfl (.cons (t := 19) rfl (.cons (t := 22) rfl .nil))))) ?_)
 exact rest (_, _, _) ⟨(hM8.trans hM5), hF5.mono (MLe.refl _), hF8.mono (hM5)⟩
theorem vol_a (x : It) (va : Option Addr) (vc : Nat) (M : Mem) (hc : x.val.length ≤ vc) (hs : SM M va (wAj x.val)) (hn : x.val.length ≤ 1000000) (h : x.val.length < 2) :
  SpecL Tryz.prog 92 #[.agg (itc x va vc).toArray] M [] fun u M' L' => (∃ v, u = .tuple #[.agg (voc v).toArray, .bool (decide (wCy x))] ∧ (wCy x → v = wCm x)) ∧ L' = [] := by
 refine wAe (vs := [_]) 46 _ Tryz.func92 rfl Tryz.ntmps92 rfl rfl ?_; intro W
 refine wAb (wAa (wAv rfl rfl (wBw (cs := [_, _, _, _, _]) rfl rfl rfl rfl) ?_)); rintro _ _ _ ⟨b1, rfl, rfl, rfl⟩
 refine sAl rfl fun b2 => ?_
 refine jp rfl (wAc (jT (wAb (wAa (sFa rfl ?_)))))
 refine sFL rfl rfl ?_
 refine sFa rfl ?_
 refine sSt rfl ?_
 refine wAc (jT (wAb (wAa (sFL rfl rfl ?_))))
 refine wAi rfl rfl (wAy rfl rfl rfl rfl rfl (by kernel_rfl) (getTwo_bad va vc x.val 0 M hn (by omega) (by omega))) ?_
 refine jp rfl (jp rfl (jp rfl (jp rfl (jp rfl (wAc (jT (wAb (wAa (sFL rfl rfl ?_)))))))))
 refine wAi rfl rfl (wAy rfl rfl rfl rfl rfl (by kernel_rfl) (getFour_bad va vc x.val 3 M hn (by omega) (by omega))) ?_
 refine jp rfl (jp rfl (jp rfl (jp rfl (jp rfl (wAc (jT (wAb (wAb (wAa (jp rfl (jt rfl (decide_eq_true (by omega)) ?_)))))))))))
 refine jp rfl (jp rfl (jp rfl (jp rfl (wAc (jT (wAg rfl (wAb (wAa (wAi rfl rfl (wAq (cs := [_, _, _, _]) rfl rfl rfl (by rfl)) ?_)))))))))
 refine sSt rfl ?_
 refine jp rfl (wAc (jT (wAf (jTr (wBr (rs := [_, _]) ([]) (by exact List.nil_sublist _) rfl (.cons (.agg rfl rfl rfl) (.cons (.tmp rfl) .nil)) ?_)))))
 have hno : ¬ wCy x := fun h => by have := h.1; omega
 rw [show decide (wCy x) = false from decide_eq_false hno]
 exact ⟨⟨⟨0, 0, false, 0⟩, rfl, fun h => absurd h hno⟩, rfl⟩
theorem vol_b (x : It) (va : Option Addr) (vc : Nat) (M : Mem) (hc : x.val.length ≤ vc) (hs : SM M va (wAj x.val)) (hn : x.val.length ≤ 1000000) (h : 2 ≤ x.val.length) (h7 : x.val.length < 7) :
  SpecL Tryz.prog 92 #[.agg (itc x va vc).toArray] M [] fun u M' L' => (∃ v, u = .tuple #[.agg (voc v).toArray, .bool (decide (wCy x))] ∧ (wCy x → v = wCm x)) ∧ L' = [] := by
 refine wAe (vs := [_]) 46 _ Tryz.func92 rfl Tryz.ntmps92 rfl rfl ?_; intro W
 refine wAb (wAa (wAv rfl rfl (wBw (cs := [_, _, _, _, _]) rfl rfl rfl rfl) ?_)); rintro _ _ _ ⟨b1, rfl, rfl, rfl⟩
 refine sAl rfl fun b2 => ?_
 refine jp rfl (wAc (jT (wAb (wAa (sFa rfl ?_)))))
 refine sFL rfl rfl ?_
 refine sFa rfl ?_
 refine sSt rfl ?_
 refine wAc (jT (wAb (wAa (sFL rfl rfl ?_))))
 refine wAi rfl rfl (wAy rfl rfl rfl rfl rfl (by kernel_rfl) (wGs va vc x.val 0 M hs hc (by omega) hn)) ?_
 refine jp rfl (jp rfl (jp rfl (jp rfl (jp rfl (wAc (jT (wAb (wAa (sFL rfl rfl ?_)))))))))
 refine wAi rfl rfl (wAy rfl rfl rfl rfl rfl (by kernel_rfl) (getFour_bad va vc x.val 3 M hn (by omega) (by omega))) ?_
 refine jp rfl (jp rfl (jp rfl (jp rfl (jp rfl (wAc (jT (wAb (wAb (wAa (jp rfl (jf rfl (decide_eq_false (by omega)) ?_)))))))))))
 refine jp rfl (jp rfl (jt rfl (decide_eq_true (by omega)) ?_))
 refine jp rfl (wAc (jT (wAg rfl (wAb (wAa (wAi rfl rfl (wAq (cs := [_, _, _, _]) rfl rfl rfl (by rfl)) ?_))))))
 refine sSt rfl ?_
 refine jp rfl (wAc (jT (wAf (jTr (wBr (rs := [_, _]) ([]) (by exact List.nil_sublist _) rfl (.cons (.agg rfl rfl rfl) (.cons (.tmp rfl) .nil)) ?_)))))
 have hno : ¬ wCy x := fun h => by have := h.1; omega
 rw [show decide (wCy x) = false from decide_eq_false hno]
 exact ⟨⟨⟨0, 0, false, 0⟩, rfl, fun h => absurd h hno⟩, rfl⟩
set_option maxHeartbeats 1000000 in
theorem vol_ok (x : It) (va : Option Addr) (vc : Nat) (M : Mem) (hc : x.val.length ≤ vc) (hs : SM M va (wAj x.val)) (hn : x.val.length ≤ 1000000) (h7 : 7 ≤ x.val.length) :
  SpecL Tryz.prog 92 #[.agg (itc x va vc).toArray] M [] fun u M' L' => (∃ v, u = .tuple #[.agg (voc v).toArray, .bool (decide (wCy x))] ∧ (wCy x → v = wCm x)) ∧ L' = [] := by
 obtain ⟨sb, so, e0, hx⟩ := hs.open (by intro e; have := congrArg List.length e; rw [wAm, List.length_nil] at this; omega)
 subst e0
 refine wAe (vs := [_]) 46 _ Tryz.func92 rfl Tryz.ntmps92 rfl rfl ?_; intro W
 refine wAb (wAa (wAv rfl rfl (wBw (cs := [_, _, _, _, _]) rfl rfl rfl rfl) ?_)); rintro _ _ _ ⟨b1, rfl, rfl, rfl⟩
 refine sAl rfl fun b2 => ?_
 refine jp rfl (wAc (jT (wAb (wAa (sFa rfl ?_)))))
 refine sFL rfl rfl ?_
 refine sFa rfl ?_
 refine sSt rfl ?_
 refine wAc (jT (wAb (wAa (sFL rfl rfl ?_))))
 refine wAi rfl rfl (wAy rfl rfl rfl rfl rfl (by kernel_rfl) (wGs _ vc x.val 0 M hs hc (by omega) hn)) ?_
 refine jp rfl (jp rfl (jp rfl (jp rfl (jp rfl (wAc (jT (wAb (wAa (sFL rfl rfl ?_)))))))))
 refine wAi rfl rfl (wAy rfl rfl rfl rfl rfl (by kernel_rfl) (wDo _ vc x.val 3 M hs hc (by omega) hn)) ?_
 refine jp rfl (jp rfl (jp rfl (jp rfl (jp rfl (wAc (jT (wAb (wAb (wAa (jp rfl (jf rfl (decide_eq_false (by omega)) ?_)))))))))))
 refine jp rfl (jp rfl (jf rfl (decide_eq_false (by omega)) ?_))
 refine jp rfl (wAc (jT (wAk rfl (wAd (jT (wAb (wBn [(0, true), (1, true), (2, true), (3, true), (4, true), (5, true), (6, true), (7, true), (8, false), (9, true), (10, false), (11, true), (12, false)] [(b1, .cells (itc x (some ⟨sb, so, none⟩) vc).toArray IT (0, 0))] (by kernel_rfl) (by kernel_rfl) (by kernel_rfl) rfl (by simp) ?_)))))))
 refine dp rfl rfl ?_
 refine dFa rfl rfl ?_
 refine dLd rfl rfl ?_
 refine wBh rfl rfl rfl (wBb rfl rfl rfl rfl (by omega)) ?_
 refine wBh rfl rfl rfl (qLd rfl rfl rfl rfl ((hx ((2 : Int).toNat * 1) _ (wKh (j := 2) (by omega))).cj _)) ?_
 iterate 2 refine dp rfl rfl ?_
 refine dFa rfl rfl ?_
 refine jd_s rfl rfl (wBd rfl rfl rfl rfl rfl rfl rfl rfl) ?_; rintro _ _ _ ⟨rfl, rfl⟩
 refine ⟨_, _, MLe.refl _, MLe.refl _, fun _ h => h, by simp, ?_⟩
 refine dFa rfl rfl ?_
 refine jd_s rfl rfl (wBd rfl rfl rfl rfl rfl rfl rfl rfl) ?_; rintro _ _ _ ⟨rfl, rfl⟩
 refine ⟨_, _, MLe.refl _, MLe.refl _, fun _ h => h, by simp, ?_⟩
 refine dFa rfl rfl ?_
 refine jd_s rfl rfl (wBd rfl rfl rfl rfl rfl rfl rfl rfl) ?_; rintro _ _ _ ⟨rfl, rfl⟩
 refine ⟨_, _, MLe.refl _, MLe.refl _, fun _ h => h, by simp, ?_⟩
 refine wBg (jPn (jT (wAb (wBj (p := { A := fun i => !([5].contains i), U := fun i => !([2, 3, 5, 6].contains i) }) [(0, true), (1, true), (3, true), (2, false), (4, true), (5, false), (6, true)] M ([(b2, .cells [.int .u32 x.key.id, .int .i64 (wGm x.val 0 2), .bool (decide (((x.val.getD 2 0).toNat : Int) = 1)), .int .u32 (wGm x.val 3 4)].toArray 119 (0, 0)), (b1, .cells (itc x (some ⟨sb, so, none⟩) vc).toArray IT (0, 0))]) ([(b1, .cells (itc x (some ⟨sb, so, none⟩) vc).toArray IT (0, 0))]) (by kernel_rfl) (by kernel_rfl) (by kernel_rfl) (by kernel_rfl) rfl (by simp) (MLe.refl _) (by simp) ?_))))
 refine dLL rfl rfl ?_
 refine dLL rfl rfl ?_
 refine jd_u rfl rfl rfl (qLdL rfl rfl rfl rfl rfl) ?_
 refine wDy rfl rfl rfl (wAt rfl rfl rfl rfl rfl (by kernel_rfl) (one_spec (wCm x) M (getN_two _ _))) ?_; rintro _ M1 _ ⟨hM1, _, rfl, ⟨⟨wa, wc, rfl, hwc, hws⟩, rfl⟩⟩
 refine ⟨M1, _, hM1, MLe.refl _, fun _ h => h, by simp, ?_⟩
 refine wBh rfl rfl rfl (wAy rfl rfl rfl rfl rfl (by kernel_rfl) (itsame_spec (oneIt (wCm x)) x _ _ M1 ⟨_, _, rfl, hwc, hws⟩ ⟨_, _, rfl, hc, hs.mono hM1⟩)) ?_
 refine jd_e rfl rfl (wBd rfl rfl rfl rfl rfl rfl rfl rfl) ?_; rintro _ _ _ ⟨rfl, rfl⟩
 refine ⟨hM1, by simp, ?_⟩
 refine ep rfl rfl ?_
 refine wCn ?_
 refine jPn (jT (wAf (wBr (rs := [_, _]) ([]) (by exact List.nil_sublist _) rfl (.cons (.agg rfl rfl rfl) (.cons (.tmp rfl) .nil)) ?_)))
 have hd : decide (wCy x) = decide (oneIt (wCm x) = x) := decide_eq_decide.2 ⟨fun h => h.2, fun h => ⟨h7, h⟩⟩
 rw [hd]
 exact ⟨⟨wCm x, rfl, fun _ => rfl⟩, rfl⟩
theorem volume_spec (x : It) (va : Option Addr) (vc : Nat) (M : Mem) (hc : x.val.length ≤ vc) (hs : SM M va (wAj x.val)) (hn : x.val.length ≤ 1000000) : SpecL Tryz.prog 92 #[.agg (itc x va vc).toArray] M [] fun u M' L' => (∃ v, u = .tuple #[.agg (voc v).toArray, .bool (decide (wCy x))] ∧ (wCy x → v = wCm x)) ∧ L' = [] := by
 by_cases h2 : x.val.length < 2
 ·exact vol_a x va vc M hc hs hn h2
 by_cases h7 : x.val.length < 7
 ·exact vol_b x va vc M hc hs hn (by omega) h7
 exact vol_ok x va vc M hc hs hn (by omega)
end Go.Proofs.YtbhkdjheooknfaaGreat
