/- Walks: the reader of paths. -/
import Derived.Test.YtokljhkplbkggaaGreatDoorZQs
import Derived.Test.YtokljhkplbkggaaGreatDoorZHo
namespace Go.Proofs.YtokljhkplbkggaaGreatDoor
set_option linter.unusedVariables false
set_option linter.unusedSectionVars false
set_option linter.unusedSimpArgs false
open Go.RowKit Go.MapKept
theorem bad_spec (b : By) (M : Mem) :
  SpecL Tryz.prog 18 #[.int .u8 (b.toNat : Int)] M [] fun u _ _ => u = .bool (badB b) := by
 refine wAe (vs := [_]) 9 _ Tryz.func18 rfl Tryz.ntmps18 rfl rfl ?_; intro W
 refine wAb (wAa (jp rfl (wAc (jT (wAb (wAa (jp rfl (js rfl (fun h4 => ?_) (fun h4 => ?_)))))))))
 ·refine jp rfl (jp rfl (jp rfl (jp rfl (jp rfl (wAc (jT (wAg (jr1 rfl rfl ?_))))))))
  have : badB b = true := by unfold badB; rw [decide_eq_true (by omega : b.toNat < 33)]; rfl
  rw [this]
 refine jp rfl (jp rfl (jp rfl (jp rfl (jp rfl (wAc (jT (wAg (jr1 rfl rfl ?_))))))))
 have : badB b = decide (126 < b.toNat) := by unfold badB; rw [decide_eq_false (by omega : ¬ b.toNat < 33)]; rfl
 rw [this]; exact congrArg Value.bool (decide_eq_decide.2 (by omega))
theorem idx_spec (a : Option Addr) (c : Nat) (xs : List By) (M : Mem) (hs : SM M a (wAn xs)) (hl : xs.length ≤ 1000000) :
  SpecL Tryz.prog 35 #[.slice a xs.length c, .func (.func 18) #[] #[]] M [] fun u _ L' => (∃ k : Int, u = .int .i64 k ∧ (0 ≤ k ↔ xs.any badB = true)) ∧ L' = [] := by
 refine wAe (vs := [_, _]) 19 _ Tryz.func35 rfl Tryz.ntmps35 rfl rfl ?_; intro W
 refine wAb (wAa (jp rfl (wAc (jT (wAb (wAb (wAa (jp rfl (lq (wCd rfl rfl rfl) ?_)))))))))
 refine jp rfl (wAc (jT (wAk ?_)))
 refine wBr (α := Nat) (fun k => [(0, .slice a xs.length c), (1, .func (.func 18) #[] #[]), (7, .int .i64 xs.length), (8, .int .i64 k)]) (fun _ => M) (fun _ => []) (fun k => k ≤ xs.length ∧ (xs.take k).any badB = false) (fun k => xs.length - k)
  0 (.cons (t := 0) rfl (.cons (t := 1) rfl (.cons (t := 7) rfl (.cons (t := 8) rfl .nil)))) ⟨Nat.zero_le _, rfl⟩ (fun _ h => h) ?_
 rintro k ⟨hk, hany⟩
 try dsimp only at hk hany ⊢
 refine wAb (wAa (js rfl (fun h9 => ?_) (fun h9 => ?_)))
 ·refine wAc (jT (wAb (wAf rfl (wAd (jT (wAb (wAk (wAb (wAa (jp rfl (jp rfl (wAc (jT (wAb (wAa (jp rfl (jp rfl (jp rfl ?_))))))))))))))))))
  have hk1 : k < xs.length := by omega
  obtain ⟨sb, so, e0, hx⟩ := hs.open (by intro e; have := congrArg List.length e; rw [wBd, List.length_nil] at this; omega)
  subst e0
  have hck : CM M sb (so + (k : Int).toNat * 1) (.int .u8 (xs[k].toNat : Int)) := by rw [Int.toNat_natCast, Nat.mul_one]; exact hx k _ (by simp [wAn, hk1])
  refine lq (wEn rfl rfl rfl rfl (by omega)) ?_
  refine lq (qLd rfl rfl rfl rfl (hck.cj _)) ?_
  refine wEk rfl rfl (qCl (bad_spec xs[k] M)) (fun h16 => ?_) (fun h16 => ?_)
  ·refine wAc (jT (wAf rfl (wAb (wAa (jp rfl (jp rfl (wAc (jT (wAg (jBr (jTr (jTr (jBr (jTr (jr1 rfl rfl ?_)))))))))))))))
   refine ⟨⟨k, rfl, ?_⟩, rfl⟩
   refine ⟨fun _ => ?_, fun _ => by omega⟩
   exact List.any_eq_true.2 ⟨xs[k], List.getElem_mem hk1, h16⟩
  refine wAc (jT (wAh rfl (wAd (jB (jT (wAa (ja rfl (by omega) ?_)))))))
  refine jp rfl (wAc (wBu (k + 1) (.cons (t := 0) rfl (.cons (t := 1) rfl (.cons (t := 7) rfl (.cons (t := 8) rfl .nil)))) ⟨by omega, ?_⟩ (by omega) (fun _ h => h)))
  rw [List.take_succ_eq_append_getElem hk1, List.any_append, hany]; simpa using h16
 refine wAc (jT (wAb (wAh rfl (wBx (jTx (jTx (jBx (jT (wAb (wAa (jp rfl (wAc (jT (wAg (jr1 rfl rfl ?_)))))))))))))))
 obtain rfl : k = xs.length := by omega
 rw [List.take_length] at hany
 exact ⟨⟨-1, rfl, ⟨fun h => by omega, fun h => by rw [hany] at h; cases h⟩⟩, rfl⟩
theorem any_spec (a : Option Addr) (c : Nat) (xs : List By) (M : Mem) (hs : SM M a (wAn xs)) (hl : xs.length ≤ 1000000) :
  SpecL Tryz.prog 17 #[.slice a xs.length c, .func (.func 18) #[] #[]] M [] fun u _ _ => u = .bool (xs.any badB) := by
 refine wAe (vs := [_, _]) 9 _ Tryz.func17 rfl Tryz.ntmps17 rfl rfl ?_; intro W
 refine wAb (wAa (jp rfl (wAc (jT (wAb (wAa (jp rfl (jp rfl (wCe rfl rfl (hCl (idx_spec a c xs M hs hl)) ?_))))))))); rintro _ _ _ ⟨_, _, rfl, ⟨⟨k, rfl, hk⟩, rfl⟩⟩
 refine jp rfl (jp rfl (wAc (jT (wAg (jr1 rfl rfl ?_)))))
 exact congrArg Value.bool (by cases h : xs.any badB with
  | true => exact decide_eq_true (hk.2 h)
  | false => exact decide_eq_false fun h2 => by rw [hk.1 h2] at h; cases h)
theorem piece_le (sep : Str) : ∀ (k : Nat) (s : Str), ∀ p ∈ Lib.splitB sep 0 k s, p.size ≤ s.size
 | 0, s, p, h => by rw [Lib.splitB_zero, List.mem_singleton] at h; rw [h]; exact Nat.le_refl _
 | k + 1, s, p, h => by
  unfold Lib.splitB at h
  split at h
  ·rw [List.mem_singleton] at h; rw [h]; exact Nat.le_refl _
  rcases List.mem_cons.1 h with h | h
  ·rw [h, ByteArray.size_extract]; omega
  have := piece_le sep k _ p h
  rw [ByteArray.size_extract] at this; omega
theorem split_le {s p : Str} (h : p ∈ wFp s) : p.size ≤ s.size := piece_le _ _ _ p h
theorem split_two {s : Str} (h : 2 ≤ (wFp s).length) : ∃ a b l, wFp s = a :: b :: l := by
 cases h1 : wFp s with
 | nil => rw [h1] at h; simp at h
 | cons a l =>
  cases l with
  | nil => rw [h1] at h; simp at h
  | cons b l => exact ⟨a, b, l, rfl⟩
def PartP (s : Str) (u : Value) (M' : Mem) (L' : Lc) : Prop := (match wAy s with
 | none => u = .tuple #[.int .i64 0, .slice none 0 0, .int .i64 270]
 | some w => ∃ a c, u = .tuple #[.int .i64 w.1, .slice a w.2.length c, .int .i64 0] ∧ WyOk M' w a c) ∧ L' = []
theorem PartP.no {s : Str} {M : Mem} (h : wAy s = none) : PartP s (.tuple #[.int .i64 0, .slice none 0 0, .int .i64 270]) M [] := by unfold PartP; rw [h]; exact ⟨rfl, rfl⟩
theorem part_pre (s : Str) (M : Mem) (hT : Tabs M) (hs : s.size ≤ 100000) (h : ¬ (s.size ≤ 64 ∧ ∃ b l, wFp s = ⟨#[]⟩ :: b :: l)) :
  SpecL Tryz.prog 8 #[.string s] M [] (PartP s) := by
 refine wAe (vs := [_]) 77 _ Tryz.func8 rfl Tryz.ntmps8 rfl rfl ?_; intro W
 refine wAb (wAa (jp rfl (jp rfl (jp rfl (wAc (jT (wAb (wAa (jp rfl (wCe rfl rfl (hCl (split_spec s M hT (by omega))) ?_)))))))))); rintro _ _ _ ⟨_, _, rfl, ⟨rfl, g, rfl, rfl⟩⟩
 simp only [List.cons_append, List.nil_append]
 refine wLm g (by simp) ?_
 intro M1 hM1 e1
 have hlS := splitS_le s
 refine jp rfl (wAc (jT (wAb (wAb (wAa (jp rfl (lq (wEg rfl rfl rfl) ?_)))))))
 refine js rfl (fun h13 => ?_) (fun h13 => ?_)
 ·iterate 11 refine jp rfl ?_
  refine wAc (jT (wAf rfl (wAb (wAa (jp rfl (jp rfl (jp rfl (wAc (jT (wAg (jTr (jr3 rfl rfl rfl rfl ?_))))))))))))
  exact PartP.no (by unfold wAy; rw [if_neg (by omega)])
 refine jp rfl (jp rfl (lq (wCd rfl rfl rfl) ?_))
 refine js rfl (fun h17 => ?_) (fun h17 => ?_)
 ·iterate 7 refine jp rfl ?_
  refine wAc (jT (wAf rfl (wAb (wAa (jp rfl (jp rfl (jp rfl (wAc (jT (wAg (jTr (jr3 rfl rfl rfl rfl ?_))))))))))))
  refine PartP.no ?_
  unfold wAy wLh
  split
  ·split
   ·rename_i a b l hsp; have := congrArg List.length hsp; simp only [List.length_cons] at this; omega
   rfl
  rfl
 refine jp rfl (jp rfl (jp rfl ?_))
 obtain ⟨a0, b0, ls, hsp⟩ := split_two (s := s) (by omega)
 rw [hsp] at e1
 simp only [hsp]
 have hl3 : (a0 :: b0 :: ls).length = ls.length + 2 := rfl
 refine lq (wEn rfl rfl rfl rfl (by omega)) ?_
 refine lq (qLd rfl rfl rfl rfl (CM.cj ⟨_, _, _, e1, rfl⟩ _)) ?_
 refine wEk rfl rfl (wGq rfl rfl rfl rfl) (fun h23 => ?_) (fun h23 => ?_)
 ·refine jp rfl (wAc (jT (wAf rfl (wAb (wAa (jp rfl (jp rfl (jp rfl (wAc (jT (wAg (jTr (jr3 rfl rfl rfl rfl ?_)))))))))))))
  refine PartP.no ?_
  unfold wAy; rw [if_pos (by omega), hsp]; unfold wLh; simp only
  rw [if_neg (of_decide_eq_true h23)]
 exact absurd ⟨by have : (s.size : Int) = s.size := rfl; omega, b0, ls, by rw [hsp]; have := of_decide_eq_false h23; simp only [ne_eq, Decidable.not_not] at this; rw [this]⟩ h
theorem part_bad (s : Str) (M : Mem) (hT : Tabs M) (hs : s.size ≤ 100000) (h64 : s.size ≤ 64) (b0 : Str) (ls : List Str) (hsp : wFp s = ⟨#[]⟩ :: b0 :: ls) (hnum : numS b0 = none) :
  SpecL Tryz.prog 8 #[.string s] M [] (PartP s) := by
 refine wAe (vs := [_]) 77 _ Tryz.func8 rfl Tryz.ntmps8 rfl rfl ?_; intro W
 refine wAb (wAa (jp rfl (jp rfl (jp rfl (wAc (jT (wAb (wAa (jp rfl (wCe rfl rfl (hCl (split_spec s M hT (by omega))) ?_)))))))))); rintro _ _ _ ⟨_, _, rfl, ⟨rfl, g, rfl, rfl⟩⟩
 simp only [List.cons_append, List.nil_append]
 refine wLm g (by simp) ?_
 intro M1 hM1 e1
 have hlS := splitS_le s
 rw [hsp] at e1 hlS
 simp only [hsp]
 have hl3 : ((⟨#[]⟩ : Str) :: b0 :: ls).length = ls.length + 2 := rfl
 have hb0 : b0.size ≤ s.size := split_le (s := s) (by rw [hsp]; simp)
 refine jp rfl (wAc (jT (wAb (wAb (wAa (jp rfl (lq (wEg rfl rfl rfl) ?_)))))))
 refine jf rfl (decide_eq_false (by omega)) ?_
 refine jp rfl (jp rfl (lq (wCd rfl rfl rfl) ?_))
 refine jf rfl (decide_eq_false (by omega)) ?_
 refine jp rfl (jp rfl (jp rfl (lq (wEn rfl rfl rfl rfl (by omega)) ?_)))
 refine lq (qLd rfl rfl rfl rfl (CM.cj ⟨_, _, _, e1, rfl⟩ _)) ?_
 refine lq (qEq (wGq rfl rfl rfl rfl) (v' := .bool false) (by rfl)) ?_
 refine jp rfl (wAc (jT (wAh rfl (wAd (jT (wAb (wAa (jp rfl (lq (wEn rfl rfl rfl rfl (by omega)) ?_)))))))))
 refine lq (qLd rfl rfl rfl rfl (CM.cj ⟨_, _, _, e1, rfl⟩ _)) ?_
 refine wCe rfl rfl (hCl (atoi_spec b0 M1 (hT.mono hM1) (by omega))) ?_; rintro _ _ _ ⟨_, _, rfl, ⟨hme, rfl, hat⟩⟩
 obtain rfl := hme.symm
 rcases hat with ⟨v, hv, _⟩ | ⟨_, v, N, rfl⟩
 ·rw [hnum] at hv; cases hv
 simp only [nA]
 refine jp rfl (jp rfl (jp rfl (jp rfl (jp rfl (wAc (jT (wAb (wAb (wCw [(0, true), (1, true), (2, true), (3, true), (4, true), (5, true), (6, true), (7, true), (8, true), (9, true), (10, true), (12, true), (13, true), (14, true), (11, false), (15, true), (16, true), (17, true), (18, true), (19, true), (20, true)] [] (by simp) ?_)))))))))
 refine dp rfl rfl ?_
 refine dq rfl (qEq (qIfErr rfl rfl rfl (by kernel_rfl)) (v' := .bool true) (by rfl)) ?_
 iterate 12 refine dp rfl rfl ?_
 refine dk rfl rfl rfl rfl ?_
 iterate 6 refine dp rfl rfl ?_
 refine wAs (jPn (jT (wAf rfl (wAb (wAa (jp rfl (jp rfl (jp rfl (wAc (jT (wAg (jTr (jr3 rfl rfl rfl rfl ?_)))))))))))))
 refine PartP.no ?_
 unfold wAy; rw [if_pos h64, hsp]; unfold wLh; simp only
 rw [if_pos True.intro, hnum]
set_option maxHeartbeats 2000000 in
theorem part_ok (s : Str) (M : Mem) (hT : Tabs M) (hs : s.size ≤ 100000) (h64 : s.size ≤ 64) (b0 : Str) (ls : List Str) (hsp : wFp s = ⟨#[]⟩ :: b0 :: ls) (v : Int) (hnum : numS b0 = some v) (hv64 : wJw v) :
  SpecL Tryz.prog 8 #[.string s] M [] (PartP s) := by
 refine wAe (vs := [_]) 77 _ Tryz.func8 rfl Tryz.ntmps8 rfl rfl ?_; intro W
 refine wAb (wAa (jp rfl (jp rfl (jp rfl (wAc (jT (wAb (wAa (jp rfl (wCe rfl rfl (hCl (split_spec s M hT (by omega))) ?_)))))))))); rintro _ _ _ ⟨_, _, rfl, ⟨rfl, g, rfl, rfl⟩⟩
 simp only [List.cons_append, List.nil_append]
 refine wLm g (by simp) ?_
 intro M1 hM1 e1
 have hlS := splitS_le s
 rw [hsp] at e1 hlS
 simp only [hsp]
 have hl3 : ((⟨#[]⟩ : Str) :: b0 :: ls).length = ls.length + 2 := rfl
 have hb0 : b0.size ≤ s.size := split_le (s := s) (by rw [hsp]; simp)
 refine jp rfl (wAc (jT (wAb (wAb (wAa (jp rfl (lq (wEg rfl rfl rfl) ?_)))))))
 refine jf rfl (decide_eq_false (by omega)) ?_
 refine jp rfl (jp rfl (lq (wCd rfl rfl rfl) ?_))
 refine jf rfl (decide_eq_false (by omega)) ?_
 refine jp rfl (jp rfl (jp rfl (lq (wEn rfl rfl rfl rfl (by omega)) ?_)))
 refine lq (qLd rfl rfl rfl rfl (CM.cj ⟨_, _, _, e1, rfl⟩ _)) ?_
 refine lq (qEq (wGq rfl rfl rfl rfl) (v' := .bool false) (by rfl)) ?_
 refine jp rfl (wAc (jT (wAh rfl (wAd (jT (wAb (wAa (jp rfl (lq (wEn rfl rfl rfl rfl (by omega)) ?_)))))))))
 refine lq (qLd rfl rfl rfl rfl (CM.cj ⟨_, _, _, e1, rfl⟩ _)) ?_
 refine wCe rfl rfl (hCl (atoi_spec b0 M1 (hT.mono hM1) (by omega))) ?_; rintro _ _ _ ⟨_, _, rfl, ⟨hme, rfl, hat⟩⟩
 obtain rfl := hme.symm
 rcases hat with ⟨v2, hv, rfl⟩ | ⟨hv, _⟩
 case inr => rw [hnum] at hv; cases hv
 rw [hnum] at hv; cases hv
 simp only [nA]
 refine jp rfl (jp rfl (jp rfl (jp rfl (jp rfl (wAc (jT (wAb (wAb (wCw [(0, true), (1, true), (2, true), (3, true), (4, true), (5, true), (6, true), (7, true), (8, true), (9, true), (10, true), (11, true), (12, true), (13, true), (14, true), (15, true), (16, true), (17, true), (18, true), (19, true), (20, true)] [] (by simp) ?_)))))))))
 refine dp rfl rfl ?_
 refine dq rfl (qEq (qIfNil rfl rfl rfl (by kernel_rfl)) (v' := .bool false) (by rfl)) ?_
 iterate 2 refine dp rfl rfl ?_
 refine dq rfl (wEn rfl rfl rfl rfl (by omega)) ?_
 refine dq rfl (qLd rfl rfl rfl rfl (CM.cj ⟨_, _, _, e1, rfl⟩ _)) ?_
 refine dq rfl (wEg rfl rfl rfl) ?_
 refine ds rfl rfl (fun h39 => ?_) (fun h39 => ?_)
 ·iterate 13 refine dp rfl rfl ?_
  refine wAs (jPn (jT (wAf rfl (wAb (wAa (jp rfl (jp rfl (jp rfl (wAc (jT (wAg (jTr (jr3 rfl rfl rfl rfl ?_)))))))))))))
  refine PartP.no ?_
  unfold wAy; rw [if_pos h64, hsp]; unfold wLh; simp only
  rw [if_pos True.intro, hnum]
  simp only
  rw [if_neg (by rintro ⟨h1, _⟩; omega)]
 iterate 3 refine dp rfl rfl ?_
 refine dq rfl (qCl (itoa_spec v M1 (hT.mono hM1) hv64)) ?_
 refine dp rfl rfl ?_
 refine dq rfl (wEn rfl rfl rfl rfl (by omega)) ?_
 refine dq rfl (qLd rfl rfl rfl rfl (CM.cj ⟨_, _, _, e1, rfl⟩ _)) ?_
 refine jd_qb rfl rfl rfl (wGq rfl rfl rfl rfl) (fun h47 => ?_) (fun h47 => ?_)
 ·iterate 5 refine dp rfl rfl ?_
  refine wAs (jPn (jT (wAf rfl (wAb (wAa (jp rfl (jp rfl (jp rfl (wAc (jT (wAg (jTr (jr3 rfl rfl rfl rfl ?_)))))))))))))
  refine PartP.no ?_
  unfold wAy; rw [if_pos h64, hsp]; unfold wLh; simp only
  rw [if_pos True.intro, hnum]
  simp only
  rw [if_neg (by rintro ⟨_, h2, _⟩; exact of_decide_eq_true h47 h2)]
 iterate 3 refine dp rfl rfl ?_
 refine ds rfl rfl (fun h51 => ?_) (fun h51 => ?_)
 ·refine dp rfl rfl ?_
  refine wAs (jPn (jT (wAf rfl (wAb (wAa (jp rfl (jp rfl (jp rfl (wAc (jT (wAg (jTr (jr3 rfl rfl rfl rfl ?_)))))))))))))
  refine PartP.no ?_
  unfold wAy; rw [if_pos h64, hsp]; unfold wLh; simp only
  rw [if_pos True.intro, hnum]
  simp only
  rw [if_neg (by rintro ⟨_, _, h3, _⟩; omega)]
 refine dp rfl rfl ?_
 refine wAs (jPn (jT (wAh rfl (wAd (jT (wAb (wAb (wAa (jp rfl (lq (qEq (v' := .slice (slA (some ⟨g, 0, none⟩) 2 (ls.length + 2) 1) ls.length ls.length) (qSl rfl rfl rfl (.no _) (.no _) (.of rfl (by omega) rfl) (by omega) (by simp)) (by congr 1)) ?_))))))))))
 refine lq (wCd rfl rfl rfl) ?_
 refine jp rfl (wAc (jT (wAk ?_)))
 refine wBr (α := Nat × Mem) (fun y => [(2, .int .i64 v), (5, .slice (some ⟨g, 0, none⟩) (ls.length + 2) (ls.length + 2)), (54, .slice (slA (some ⟨g, 0, none⟩) 2 (ls.length + 2) 1) ls.length ls.length), (55, .int .i64 ls.length), (56, .int .i64 y.1)]) (fun y => y.2) (fun _ => []) (fun y => y.1 ≤ ls.length ∧ MLe M1 y.2 ∧ (ls.take y.1).all wFq = true) (fun y => ls.length - y.1)
  (0, M1) (.cons (t := 2) rfl (.cons (t := 5) rfl (.cons (t := 54) rfl (.cons (t := 55) rfl (.cons (t := 56) rfl .nil))))) ⟨Nat.zero_le _, MLe.refl _, rfl⟩ (fun _ h => h) ?_
 rintro ⟨k, Mk⟩ ⟨hk, hMk, hall⟩
 try dsimp only at hk hMk hall ⊢
 refine wAb (wAa (js rfl (fun h57 => ?_) (fun h57 => ?_)))
 ·refine wAc (jT (wAb (wAf rfl (wAd (jT (wAb (wAk (wAb (wAa ?_)))))))))
  have hk1 : k < ls.length := by omega
  have e54 : (slA (some ⟨g, 0, none⟩) 2 (ls.length + 2) 1) = some ⟨g, 2, none⟩ := wGy (by omega)
  have hck : CM Mk g (2 + (k : Int).toNat * 1) (.string ls[k]) := (CM.mono · hMk) ⟨_, _, _, e1, by rw [Int.toNat_natCast, Nat.mul_one]; simp [Nat.add_comm 2 k, hk1]⟩
  have hpz : ls[k].size ≤ s.size := split_le (s := s) (by rw [hsp]; simp)
  refine lq (wEn rfl rfl (by show some (Value.slice _ _ _) = _; rw [e54]) rfl (by omega)) ?_
  refine lq (qLd rfl rfl rfl rfl (hck.cj _)) ?_
  refine jp rfl (wAc (jT (wAb (wAa (jp rfl (lq (wEg rfl rfl rfl) ?_))))))
  refine js rfl (fun h62 => ?_) (fun h62 => ?_)
  ·iterate 10 refine jp rfl ?_
   refine wAc (jT (wAf rfl (wAb (wAa (jp rfl (jp rfl (jp rfl (wAc (jT (wAg (jBr (jTr (jTr (jBr (jTr (jr3 rfl rfl rfl rfl ?_))))))))))))))))
   refine PartP.no ?_
   unfold wAy; rw [if_pos h64, hsp]; unfold wLh; simp only
   rw [if_pos True.intro, hnum]
   simp only
   rw [if_neg (by rintro ⟨_, _, _, h4⟩; have := List.all_eq_true.1 h4 ls[k] (List.getElem_mem hk1); unfold wFq at this; simp only [Bool.and_eq_true, decide_eq_true_eq, Bool.not_eq_true'] at this; omega)]
  refine jp rfl (jp rfl (lq (wEg rfl rfl rfl) ?_))
  refine js rfl (fun h66 => ?_) (fun h66 => ?_)
  ·refine jp rfl (jp rfl (jp rfl (jp rfl (jp rfl (jp rfl (wAc (jT (wAf rfl (wAb (wAa (jp rfl (jp rfl (jp rfl (wAc (jT (wAg (jBr (jTr (jTr (jBr (jTr (jr3 rfl rfl rfl rfl ?_))))))))))))))))))))))
   refine PartP.no ?_
   unfold wAy; rw [if_pos h64, hsp]; unfold wLh; simp only
   rw [if_pos True.intro, hnum]
   simp only
   rw [if_neg (by rintro ⟨_, _, _, h4⟩; have := List.all_eq_true.1 h4 ls[k] (List.getElem_mem hk1); unfold wFq at this; simp only [Bool.and_eq_true, decide_eq_true_eq, Bool.not_eq_true'] at this; omega)]
  refine jp rfl (jp rfl (jp rfl (wCe rfl rfl (hConvBy rfl rfl rfl) ?_))); rintro _ _ _ ⟨rfl, bb, bc, ob, rfl, rfl, hbc, cs, fz, rfl, htk⟩
  refine wLm bb (by simp) ?_
  intro M2 hM2 eb
  have hsl : ls[k].data.toList.length = ls[k].size := by rw [Array.length_toList]; rfl
  have hsm : SM M2 (some ⟨bb, 0, none⟩) (wAn ls[k].data.toList) := .inr ⟨bb, 0, rfl, fun i u hu => ⟨_, _, _, eb, by rw [← htk, List.getElem?_take] at hu; split at hu; simpa using hu; cases hu⟩⟩
  refine wEk rfl rfl (qCl (any_spec _ bc _ M2 hsm (by omega))) (fun h71 => ?_) (fun h71 => ?_)
  ·refine jp rfl (wAc (jT (wAf rfl (wAb (wAa (jp rfl (jp rfl (jp rfl (wAc (jT (wAg (jBr (jTr (jTr (jBr (jTr (jr3 rfl rfl rfl rfl ?_)))))))))))))))))
   refine PartP.no ?_
   unfold wAy; rw [if_pos h64, hsp]; unfold wLh; simp only
   rw [if_pos True.intro, hnum]
   simp only
   rw [if_neg (by rintro ⟨_, _, _, h4⟩; have := List.all_eq_true.1 h4 ls[k] (List.getElem_mem hk1); unfold wFq at this; simp only [Bool.and_eq_true, decide_eq_true_eq, Bool.not_eq_true'] at this; rw [h71] at this; exact absurd this.2 (by simp))]
  refine jp rfl (wAc (jT (wAh rfl (wAd (jB (jT (wAa (ja rfl (by omega) ?_))))))))
  refine jp rfl (wAc ?_)
  refine wBu (k + 1, M2) (.cons (t := 2) rfl (.cons (t := 5) rfl (.cons (t := 54) rfl (.cons (t := 55) rfl (.cons (t := 56) rfl .nil))))) ⟨by show k + 1 ≤ _; omega, hMk.trans hM2, ?_⟩ (by show ls.length - (k + 1) < ls.length - k; omega) (fun _ h => h)
  show (ls.take (k + 1)).all wFq = true
  rw [List.take_succ_eq_append_getElem hk1, List.all_append, hall]
  have : wFq ls[k] = true := by unfold wFq; rw [h71]; simp only [Bool.not_false, Bool.and_true, Bool.and_eq_true, decide_eq_true_eq]; omega
  simpa using this
 refine wAc (jT (wAb (wAh rfl (wBx (jTx (jTx (jBx (jT (wAb (wCw [(0, true), (1, true), (2, true), (3, true), (4, true), (5, true)] [] (by simp) ?_))))))))))
 iterate 2 refine dp rfl rfl ?_
 refine dq rfl (qEq (v' := .slice (slA (some ⟨g, 0, none⟩) 2 (ls.length + 2) 1) ls.length ls.length) (qSl rfl rfl rfl (.no _) (.no _) (.of rfl (by omega) rfl) (by omega) (by simp)) (by congr 1)) ?_
 iterate 3 refine dp rfl rfl ?_
 refine wAs (jPn (jT (wAg (jr3 rfl rfl rfl rfl ?_))))
 obtain rfl : k = ls.length := by omega
 rw [List.take_length] at hall
 have hp : wAy s = some (v, ls) := by
  unfold wAy; rw [if_pos h64, hsp]; unfold wLh; simp only
  rw [if_pos True.intro, hnum]; simp only
  rw [if_pos ⟨by omega, by have := of_decide_eq_false h47; simpa using this, by omega, hall⟩]
 unfold PartP; rw [hp]
 refine ⟨⟨_, _, rfl, ⟨?_, Nat.le_refl _, by show ls.length ≤ 1000000; omega⟩⟩, rfl⟩
 show SM _ _ _
 by_cases h0 : ls.length = 0
 ·rw [List.eq_nil_of_length_eq_zero h0]; exact .inl rfl
 rw [wGy (by omega)]
 exact .inr ⟨g, 2, rfl, fun i u hu => (CM.mono · hMk) ⟨_, _, _, e1, by simpa [Nat.add_comm 2 i] using hu⟩⟩
theorem numS_in {s : Str} {v : Int} (h : numS s = some v) : wJw v := by
 unfold numS at h
 split at h
 ·rename_i v2 hv2
  cases h
  unfold Lib.atoiAll at hv2
  split at hv2
  ·cases hv2
  simp only at hv2
  split at hv2
  ·cases hv2
  ·cases hv2
  split at hv2
  ·cases hv2
  split at hv2
  ·cases hv2
  cases hv2
  rename_i u hu h1 h2
  unfold wJw
  split <;> omega
 cases h
theorem part_spec (s : Str) (M : Mem) (hT : Tabs M) (hs : s.size ≤ 100000) : SpecL Tryz.prog 8 #[.string s] M [] (PartP s) := by
 by_cases h : s.size ≤ 64 ∧ ∃ b l, wFp s = ⟨#[]⟩ :: b :: l
 ·obtain ⟨h64, b0, ls, hsp⟩ := h
  cases hnum : numS b0 with
  | none => exact part_bad s M hT hs h64 b0 ls hsp hnum
  | some v => exact part_ok s M hT hs h64 b0 ls hsp v hnum (numS_in hnum)
 exact part_pre s M hT hs h
end Go.Proofs.YtokljhkplbkggaaGreatDoor
