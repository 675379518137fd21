/- Walks: the document's nodes read: what the program reads. -/
import Derived.Test.YtkcpllhggofloaaGreatZRd
namespace Go.Proofs.YtkcpllhggofloaaGreat
set_option linter.unusedVariables false
set_option linter.unusedSectionVars false
set_option linter.unusedSimpArgs false
open Go.RowKit
theorem bU_byte (b : By) : bU (b.toNat : Int) = b := by
 have := b.toNat_lt
 unfold bU
 rw [show ((b.toNat : Int) % 256).toNat = b.toNat by omega]; exact UInt8.ofNat_toNat
theorem bU_of {n : Int} {b : By} (h : n % 256 = (b.toNat : Int)) : bU n = b := by
 have e : bU n = bU (n % 256) := (bU_mod n).symm
 rw [e, h]; exact bU_byte b
theorem four_of (a b c d : By) : wFe (wLw [d, c, b, a]) = [a, b, c, d] := by
 have ha := a.toNat_lt
 have hb := b.toNat_lt
 have hc := c.toNat_lt
 have hd := d.toNat_lt
 rw [getF_four]
 unfold wFe
 rw [show ∀ n : Int, bShr .u32 n 8 = n / 256 from fun n => wEi n (by decide), show ∀ n : Int, bShr .u32 n 16 = n / 65536 from fun n => wEi n (by decide), show ∀ n : Int, bShr .u32 n 24 = n / 16777216 from fun n => wEi n (by decide)]
 rw [bU_of (b := a) (by omega), bU_of (b := b) (by omega), bU_of (b := c) (by omega), bU_of (b := d) (by omega)]
theorem two_of (a b : By) : twoB (wLw [b, a]) = [a, b] := by
 have ha := a.toNat_lt
 have hb := b.toNat_lt
 rw [wLv]
 unfold twoB
 rw [show ∀ n : Int, bShr .i64 n 8 = n / 256 from fun n => wEi n (by decide)]
 rw [bU_of (b := a) (by omega), bU_of (b := b) (by omega)]
theorem it_back {r : List By} (h : rdE r = 0) : itB (rdX r) = r.take (rdS r) ∧ fineIt (rdX r) := by
 obtain ⟨h1, h2, h3, h4⟩ := rdE_zero h
 have hvl := rdX_len h2
 have hrd : rdS r = 12 + (r.getD 11 0).toNat := rfl
 match r, h1 with
 | b0 :: b1 :: b2 :: b3 :: b4 :: b5 :: b6 :: b7 :: b8 :: b9 :: b10 :: b11 :: t, _ =>
  have hb0 := b0.toNat_lt
  have hv : (rdX (b0 :: b1 :: b2 :: b3 :: b4 :: b5 :: b6 :: b7 :: b8 :: b9 :: b10 :: b11 :: t)).val = t.take b11.toNat := by
   show t.take (12 + b11.toNat - 12) = _
   rw [Nat.add_sub_cancel_left]
  have hS : rdS (b0 :: b1 :: b2 :: b3 :: b4 :: b5 :: b6 :: b7 :: b8 :: b9 :: b10 :: b11 :: t) = 12 + b11.toNat := rfl
  have hl : (t.take b11.toNat).length = b11.toNat := by rw [← hv, hvl, hS]; omega
  refine ⟨?_, ⟨⟨by show (0 : Int) ≤ (b0.toNat : Int); omega, by show (b0.toNat : Int) < 256; omega⟩, wJu _, wJu _, ?_, by rw [hvl]; omega⟩⟩
  ·have e1 : itB (rdX (b0 :: b1 :: b2 :: b3 :: b4 :: b5 :: b6 :: b7 :: b8 :: b9 :: b10 :: b11 :: t)) = [bU (b0.toNat : Int)] ++ wFe (wLw [b4, b3, b2, b1]) ++ wFe (wLw [b8, b7, b6, b5]) ++ twoB (wLw [b10, b9]) ++ [bU ((t.take b11.toNat).length : Int)] ++ t.take b11.toNat := by
    rw [← hv]; rfl
   rw [e1, four_of, four_of, two_of, hl, bU_byte, bU_byte, hS, Nat.add_comm]
   rfl
  show 0 ≤ wLw [b10, b9] ∧ wLw [b10, b9] < 65536
  have h9 := b9.toNat_lt
  have h10 := b10.toNat_lt
  rw [wLv]; omega
theorem rd_back : ∀ {n : Nat} {r : List By} {acc ys : List It} {r' : List By}, wCi n r acc = some (ys, r') → ∃ zs, ys = acc ++ zs ∧ zs.length = n ∧ r = zs.flatMap itB ++ r' ∧ ∀ z ∈ zs, fineIt z
 | 0, r, acc, ys, r', h => by rw [wCi] at h; cases h; exact ⟨[], by simp, rfl, rfl, fun _ h => by cases h⟩
 | n + 1, r, acc, ys, r', h => by
  rw [wCi] at h
  split at h
  ·rename_i hE
   obtain ⟨zs, e1, e2, e3, e4⟩ := rd_back h
   obtain ⟨f1, f2⟩ := it_back hE
   refine ⟨rdX r :: zs, by rw [e1, List.append_assoc]; rfl, by rw [List.length_cons, e2], ?_, fun z hz => ?_⟩
   ·rw [List.flatMap_cons, f1, List.append_assoc, ← e3, List.take_append_drop]
   rcases List.mem_cons.1 hz with rfl | hz
   ·exact f2
   exact e4 z hz
  cases h
theorem rep_nought {r : List By} : wDq r = true ↔ r = List.replicate r.length 0 := by
 unfold wDq
 rw [List.all_eq_true, List.eq_replicate_iff]
 exact ⟨fun h => ⟨rfl, fun b hb => by simpa using h b hb⟩, fun h b hb => by simpa using h.2 b hb⟩
theorem same_node {b0 b1 b2 : By} {ys : List It} {r' : List By} (hm : b2.toNat = ys.length) : sameB (b0 :: b1 :: b2 :: (ys.flatMap itB ++ r')) (wDr (b1.toNat : Int) ys) = (decide (b0 = 78) && wDq r') := by
 have e : wDr (b1.toNat : Int) ys = 78 :: b1 :: b2 :: ys.flatMap itB := by
  unfold wDr
  rw [bU_byte, show ((ys.length : Nat) : Int) = (b2.toNat : Int) by omega, bU_byte]; rfl
 rw [e]
 unfold sameB
 have hl : (b0 :: b1 :: b2 :: (ys.flatMap itB ++ r')).length - (78 :: b1 :: b2 :: ys.flatMap itB : List By).length = r'.length := by
  simp only [List.length_cons, List.length_append]; omega
 rw [hl]
 cases hn : wDq r' with
 | true =>
  rw [Bool.and_true]
  refine decide_eq_decide.2 ⟨fun h => by have := h.2; simp at this; exact this.1, fun h => ⟨by simp, ?_⟩⟩
  rw [h]
  have := rep_nought.1 hn
  conv => lhs; rw [this]
  simp
 | false =>
  rw [Bool.and_false]
  refine decide_eq_false fun h => ?_
  have h2 := h.2
  simp at h2
  rw [rep_nought.2 h2.2] at hn; cases hn
section
variable {blk b : List By} (hB : blk.drop 4 = b) (ho : wFa blk = 0) (hl : b.length = 124)
include hB ho hl
theorem rdn_none (h : wCi (min (b.getD 2 0).toNat 6) (b.drop 3) [] = none) : wDg blk = none := by
 subst hB
 unfold wDg
 rw [if_pos ho]
 split
 ·rename_i h2
  have hm : ((blk.drop 4).getD 2 0).toNat ≤ 5 := h2.2
  rw [Nat.min_eq_left (by omega)] at h
  rw [h]
 rfl
theorem rdn_ok {ys : List It} {r : List By} (h : wCi (min (b.getD 2 0).toNat 6) (b.drop 3) [] = some (ys, r)) (hk : wEv ((b.getD 1 0).toNat : Int) ys = true) (hs : sameB b (wDr ((b.getD 1 0).toNat : Int) ys) = true) : wDg blk = some (((b.getD 1 0).toNat : Int), ys) := by
 obtain ⟨zs, e1, e2, e3, _⟩ := rd_back h
 rw [List.nil_append] at e1; subst e1
 have hlen : ys.length ≤ 5 := by
  unfold wEv at hk
  rw [Bool.and_eq_true] at hk
  exact (of_decide_eq_true hk.1).2.2.1
 have hm5 : (b.getD 2 0).toNat ≤ 5 := by rw [Nat.min_def] at e2; split at e2 <;> omega
 rw [Nat.min_eq_left (by omega)] at h e2
 have hb : b = b.getD 0 0 :: b.getD 1 0 :: b.getD 2 0 :: (ys.flatMap itB ++ r) := by
  rw [← e3]
  match b, hl with
  | c0 :: c1 :: c2 :: t, _ => rfl
 rw [hb] at hs
 have hs2 := hs
 rw [show (((b.getD 0 0 :: b.getD 1 0 :: b.getD 2 0 :: (ys.flatMap itB ++ r)).getD 1 0).toNat : Int) = ((b.getD 1 0).toNat : Int) from rfl, same_node e2.symm, Bool.and_eq_true] at hs2
 have h78 := of_decide_eq_true hs2.1
 have hnc : wEp ((b.getD 1 0).toNat : Int) ys = 0 := by unfold wEp; rw [hk]; rfl
 subst hB
 unfold wDg
 rw [if_pos ho, if_pos ⟨h78, hm5⟩, h]
 simp only
 rw [if_pos ⟨hnc, hs2.2⟩]
theorem rdn_bad {ys : List It} {r : List By} (h : wCi (min (b.getD 2 0).toNat 6) (b.drop 3) [] = some (ys, r)) (hk : wEv ((b.getD 1 0).toNat : Int) ys = false ∨ sameB b (wDr ((b.getD 1 0).toNat : Int) ys) = false) : wDg blk = none := by
 obtain ⟨zs, e1, e2, e3, _⟩ := rd_back h
 rw [List.nil_append] at e1; subst e1
 have hb : b = b.getD 0 0 :: b.getD 1 0 :: b.getD 2 0 :: (ys.flatMap itB ++ r) := by
  rw [← e3]
  match b, hl with
  | c0 :: c1 :: c2 :: t, _ => rfl
 unfold wDg
 rw [if_pos ho, hB]
 split
 ·rename_i h2
  have hm : (b.getD 2 0).toNat ≤ 5 := h2.2
  rw [Nat.min_eq_left (by omega)] at h e2
  rw [h]
  simp only
  rw [if_neg]
  rintro ⟨h3, h4⟩
  rcases hk with hk | hk
  ·unfold wEp at h3; rw [hk] at h3; simp at h3
  rw [hb] at hk
  rw [show (((b.getD 0 0 :: b.getD 1 0 :: b.getD 2 0 :: (ys.flatMap itB ++ r)).getD 1 0).toNat : Int) = ((b.getD 1 0).toNat : Int) from rfl, same_node e2.symm, h2.1, h4] at hk
  simp at hk
 rfl
end
theorem SM.dropB {M : Mem} {a : Option Addr} {xs : List By} {k c : Nat} (h : SM M a (wAj xs)) (hk : k ≤ xs.length) (hc : xs.length ≤ c) : SM M (slA a k c 1) (wAj (xs.drop k)) := by
 rcases h with h | ⟨b, off, rfl, hx⟩
 ·have : xs.drop k = [] := by
   have h2 := congrArg List.length h
   rw [wAm] at h2
   exact List.drop_of_length_le (by rw [h2]; exact Nat.zero_le _)
  rw [this]; exact .inl rfl
 by_cases e : k = c
 ·have : xs.drop k = [] := List.drop_of_length_le (by omega)
  rw [this]; exact .inl rfl
 refine .inr ⟨b, off + k * 1, wBn (by omega), fun i u hu => ?_⟩
 have := hx (k + i) u (by simpa [wAj] using hu)
 rw [Nat.mul_one, Nat.add_assoc]; exact this
abbrev R6S := Nat × Mem × Option Addr × Nat × List By × Option Addr × Nat × Lc × List (It × Value)
structure R6I (b : List By) (M : Mem) (z : R6S) : Prop where
 i6 : z.1 ≤ 6
 im : z.1 ≤ min (b.getD 2 0).toNat 6
 mem : MLe M z.2.1
 sm : SM z.2.1 z.2.2.1 (wAj z.2.2.2.2.1)
 cap : z.2.2.2.2.1.length ≤ z.2.2.2.1
 le : z.2.2.2.2.1.length ≤ 124
 eq : wCi (min (b.getD 2 0).toNat 6) (b.drop 3) [] = wCi (min (b.getD 2 0).toNat 6 - z.1) z.2.2.2.2.1 (z.2.2.2.2.2.2.2.2.map (·.1))
 own : Own (.slice z.2.2.2.2.2.1 z.1 z.2.2.2.2.2.2.1) z.2.2.2.2.2.2.2.1 46 5 z.1 (z.2.2.2.2.2.2.2.2.flatMap wAs)
 len : z.2.2.2.2.2.2.2.2.length = z.1
 bs : ∀ p ∈ z.2.2.2.2.2.2.2.2, BS z.2.1 p.2 p.1.val
theorem NdPost.no {blk : List By} {M : Mem} {e : Int} (h : wDg blk = none) (he : e ≠ 0) : NdPost blk (.tuple #[.agg zeroNd.toArray, .int .i64 e]) M := by
 unfold NdPost; rw [h]; exact ⟨e, he, rfl⟩
theorem rread6_len (v : Value) (blk : List By) (M : Mem) (hv : BS M v blk) (hn : blk.length ≤ 100000) (h : blk.length ≠ 128) :
  SpecL Tryz.prog 69 #[v] M [] fun u M' L' => NdPost blk u M' ∧ L' = [] := by
 obtain ⟨ba, bc, rfl, hbc, hbs⟩ := hv
 refine wAf (vs := [_]) 70 _ Tryz.func69 rfl Tryz.ntmps69 rfl rfl ?_; intro W
 refine wAb (wAa (sAl rfl fun b2 => ?_))
 refine jp rfl (wAc (jT (wAb (wAa (jp rfl (wAy rfl rfl (wAu rfl rfl rfl rfl rfl (by kernel_rfl) (ropen_len ba bc blk M hbc hbs hn h)) ?_)))))); rintro _ M2 _ ⟨hM2, _, rfl, ⟨rfl, rfl⟩⟩
 refine jp rfl (jp rfl (jp rfl (jp rfl (jp rfl (wAc (jT (wAb (wAb (wAa (jp rfl (jt rfl (decide_eq_true (by omega)) ?_)))))))))))
 refine wAc (jT (wAg rfl (wAb (wAa (wAi rfl rfl (wBa (cs := [_, _]) rfl rfl rfl (by rfl)) ?_)))))
 refine jp rfl (sSt rfl ?_)
 refine jp rfl (wAc (jT (wAe (jTr (wDa (rs := [_, _]) ([]) (by exact List.nil_sublist _) rfl (.cons (.agg rfl rfl rfl) (.cons (.tmp rfl) .nil)) ?_)))))
 exact ⟨NdPost.no (by unfold wDg; rw [if_neg (by unfold wFa; rw [if_pos h]; decide)]) (by decide), rfl⟩
theorem rread6_sum (v : Value) (blk : List By) (M : Mem) (hv : BS M v blk) (hn : blk.length ≤ 100000) (h : blk.length = 128) (hb : wJa blk 0 4 ≠ wJv (blk.drop 4)) :
  SpecL Tryz.prog 69 #[v] M [] fun u M' L' => NdPost blk u M' ∧ L' = [] := by
 obtain ⟨ba, bc, rfl, hbc, hbs⟩ := hv
 refine wAf (vs := [_]) 70 _ Tryz.func69 rfl Tryz.ntmps69 rfl rfl ?_; intro W
 refine wAb (wAa (sAl rfl fun b2 => ?_))
 refine jp rfl (wAc (jT (wAb (wAa (jp rfl (wAy rfl rfl (wAu rfl rfl rfl rfl rfl (by kernel_rfl) (ropen_bad ba bc blk M hbc hbs hn h hb)) ?_)))))); rintro _ M2 _ ⟨hM2, _, rfl, ⟨rfl, rfl⟩⟩
 refine jp rfl (jp rfl (jp rfl (jp rfl (jp rfl (wAc (jT (wAb (wAb (wAa (jp rfl (jt rfl (decide_eq_true (by omega)) ?_)))))))))))
 refine wAc (jT (wAg rfl (wAb (wAa (wAi rfl rfl (wBa (cs := [_, _]) rfl rfl rfl (by rfl)) ?_)))))
 refine jp rfl (sSt rfl ?_)
 refine jp rfl (wAc (jT (wAe (jTr (wDa (rs := [_, _]) ([]) (by exact List.nil_sublist _) rfl (.cons (.agg rfl rfl rfl) (.cons (.tmp rfl) .nil)) ?_)))))
 exact ⟨NdPost.no (by unfold wDg; rw [if_neg (by unfold wFa; rw [if_neg (by omega), if_pos hb]; decide)]) (by decide), rfl⟩
set_option maxHeartbeats 4000000 in
theorem rread6_main (v : Value) (blk : List By) (M : Mem) (hv : BS M v blk) (hn : blk.length ≤ 100000) (h : blk.length = 128) (hb : wJa blk 0 4 = wJv (blk.drop 4)) :
  SpecL Tryz.prog 69 #[v] M [] fun u M' L' => NdPost blk u M' ∧ L' = [] := by
 obtain ⟨ba, bc, rfl, hbc, hbs⟩ := hv
 refine wAf (vs := [_]) 70 _ Tryz.func69 rfl Tryz.ntmps69 rfl rfl ?_; intro W
 refine wAb (wAa (sAl rfl fun b2 => ?_))
 refine jp rfl (wAc (jT (wAb (wAa (jp rfl (wAy rfl rfl (wAu rfl rfl rfl rfl rfl (by kernel_rfl) (ropen_ok ba bc blk M hbc hbs hn h hb)) ?_)))))); rintro _ M2 _ ⟨hM2, _, rfl, ⟨⟨vb, rfl, hvb⟩, rfl⟩⟩
 obtain ⟨b, hB⟩ : ∃ b, blk.drop 4 = b := ⟨_, rfl⟩
 have hbl : b.length = 124 := by rw [← hB, List.length_drop]; omega
 rw [hB] at hvb
 obtain ⟨va, vc, rfl, hvc, hvs⟩ := hvb
 obtain ⟨sb, so, e0, hx⟩ := hvs.open (by intro e; have := congrArg List.length e; rw [wAm, List.length_nil] at this; omega)
 subst e0
 have ho : wFa blk = 0 := by unfold wFa; rw [if_neg (by omega), if_neg (by omega)]
 have h1b := (b.getD 1 0).toNat_lt
 have h2b := (b.getD 2 0).toNat_lt
 simp only [nA]
 refine jp rfl (jp rfl (jp rfl (jp rfl (jp rfl (wAc (jT (wAb (wAb (wAa (jp rfl (jf rfl (decide_eq_false (by omega)) ?_)))))))))))
 refine wAc (jT (wAk rfl (wAd (jT (wAb (wAa (jp rfl (wAi rfl rfl (wBe rfl rfl rfl rfl (by omega)) ?_))))))))
 refine wAi rfl rfl (qLd rfl rfl rfl rfl ((id (hx ((1 : Int).toNat * 1) _ (wHy (j := 1) (by omega)))).cj _)) ?_
 refine wAi rfl rfl (wEm rfl rfl rfl (by omega)) ?_
 refine wAi rfl rfl (wBa (cs := [_, _]) rfl rfl rfl (by rfl)) ?_
 refine sAl rfl fun b6 => ?_
 refine sSt rfl ?_
 refine wAc (jT (wAb (wAa (jp rfl (wAi rfl rfl (qEq (qSl rfl rfl rfl (.no _) (.no _) (.of (v := 3) rfl (by omega) rfl) (by omega) (by simp)) (v' := .slice (slA (some ⟨sb, so, none⟩) 3 vc 1) (b.drop 3).length (vc - 3)) (by rw [List.length_drop])) ?_)))))
 refine jp rfl (wAc (jT (wAb (wAb (wAa (jp rfl (wAc (jT (wAh ?_)))))))))
 obtain ⟨m, hm⟩ : ∃ m, m = min (b.getD 2 0).toNat 6 := ⟨_, rfl⟩
 have hm2 : m ≤ (b.getD 2 0).toNat ∧ m ≤ 6 ∧ (m = (b.getD 2 0).toNat ∨ m = 6) := by rw [Nat.min_def] at hm; split at hm <;> omega
 refine wAv (α := R6S) (fun z => [(2, .pointer (some ⟨b2, 0, none⟩)), (4, .slice (some ⟨sb, so, none⟩) b.length vc), (6, .pointer (some ⟨b6, 0, none⟩)), (7, .slice z.2.2.1 z.2.2.2.2.1.length z.2.2.2.1), (8, .int .i64 z.1)]) (fun z => z.2.1) (fun z => (b6, .cells [Value.int .i64 ((b.getD 1 0).toNat : Int), .slice z.2.2.2.2.2.1 z.1 z.2.2.2.2.2.2.1].toArray 53 (0, 0)) :: (z.2.2.2.2.2.2.2.1 ++ [(b2, .cells [Value.int .i64 0, .slice none 0 0].toArray 53 (0, 0))])) (fun z => R6I b M2 z) (fun z => 6 - z.1)
  (0, M2, slA (some ⟨sb, so, none⟩) 3 vc 1, vc - 3, b.drop 3, none, 0, [], []) (.cons (t := 2) rfl (.cons (t := 4) rfl (.cons (t := 6) rfl (.cons (t := 7) rfl (.cons (t := 8) rfl .nil))))) ⟨Nat.zero_le _, Nat.zero_le _, MLe.refl _, hvs.dropB (by omega) hvc, by show (b.drop 3).length ≤ vc - 3; rw [List.length_drop]; omega, by show (b.drop 3).length ≤ 124; rw [List.length_drop]; omega, rfl, Own.nil _ _, rfl, fun _ h => by cases h⟩ (fun _ h => h) ?_
 rintro ⟨i, Mk, ra, rc, r, xa, xc, R, ps⟩ hI
 have him := hI.im
 rw [← hm] at him
 dsimp only at him ⊢
 refine wAb (wAb (wAa (jp rfl (jp rfl (wAi rfl rfl (wBe rfl rfl rfl rfl (by omega)) ?_)))))
 refine wAi rfl rfl (qLd rfl rfl rfl rfl (((CM.mono · hI.mem) (hx ((2 : Int).toNat * 1) _ (wHy (j := 2) (by omega)))).cj _)) ?_
 refine wAi rfl rfl (wEm rfl rfl rfl (by omega)) ?_
 refine js rfl (fun h33 => ?_) (fun h33 => ?_)
 ·refine jp rfl (jp rfl (js rfl (fun h36 => ?_) (fun h36 => ?_)))
  ·refine jp rfl (wAc (jT (wAg rfl (wAd (jT (wAb (wAh (wAb (wAa (jp rfl ?_))))))))))
   refine wAy rfl rfl (wAu rfl rfl rfl rfl rfl (by kernel_rfl) (rread5_spec (.slice ra r.length rc) r Mk ⟨ra, rc, rfl, hI.cap, hI.sm⟩ (by have := hI.le; dsimp only at this; omega))) ?_; rintro _ M3 _ ⟨hM3, _, rfl, ⟨x, xva, xvc, sz, rfl, hok, rfl⟩⟩
   simp only [nA]
   refine jp rfl (jp rfl (jp rfl (jp rfl (sAl rfl fun b9 => ?_))))
   refine sSt rfl ?_
   refine jp rfl (jp rfl (wAc (jT (wAb (wAb ?_)))))
   have hE0 : rdE r = 0 ∨ rdE r ≠ 0 := by by_cases hh : rdE r = 0; exact .inl hh; exact .inr hh
   refine wAa (jp rfl (js rfl (fun h47 => ?_) (fun h47 => ?_)))
   ·refine wAc (jT (wAg rfl (wAb (wAa (wAi rfl rfl (wBa (cs := [_, _]) rfl rfl rfl (by rfl)) ?_)))))
    refine sSt rfl ?_
    refine jp rfl (wAc (jT (wAe (jTr (jBr (jTr (jTr (jBr (jTr (wDa (rs := [_, _]) ([]) (by exact List.nil_sublist _) rfl (.cons (.agg rfl rfl rfl) (.cons (.tmp rfl) .nil)) ?_))))))))))
    refine ⟨NdPost.no (rdn_none hB ho hbl ?_) (by decide), rfl⟩
    have e := hI.eq
    dsimp only at e
    rw [e, ← hm, show m - i = (m - (i + 1)) + 1 by omega, wCi, if_neg h47]
   refine wAc (jT (wAk rfl (wAd (jT (wAb ?_)))))
   have hE : rdE r = 0 := by omega
   obtain ⟨rfl, rfl, hvc3, hvs3⟩ := hok hE
   obtain ⟨z1, z2, z3, z4⟩ := rdE_zero hE
   have hcap := hI.cap
   dsimp only at hcap
   refine wAa (sFL rfl rfl ?_)
   refine sLL rfl ?_
   refine wAy rfl rfl (wAn (cs := [_, _, _, _, _]) rfl rfl rfl (by rfl) (by rfl) (by rfl)) ?_; rintro _ _ _ ⟨b52, rfl, rfl, rfl⟩
   refine wAy rfl rfl (wDv (R := R) (news := itc (rdX r) xva xvc) rfl rfl rfl rfl hI.own rfl (fun j v hv => CJ.loc (by rw [Nat.zero_add]; simpa using hv)) rfl rfl (fun u hu => List.all_eq_true.1 (rfl : ((itc (rdX r) xva xvc).all fun v => v.oneCell') = true) u hu) (by have := hI.i6; dsimp only at this; omega) (by omega)) ?_; rintro v53 _ _ ⟨rfl, R53, rfl, o53, _⟩
   obtain ⟨a53, c53, rfl⟩ := o53.form
   refine sFa rfl ?_
   refine sSt rfl ?_
   refine wAc (jT (wAa (jp rfl (jp rfl (wAi rfl rfl (qEq (qSl rfl rfl rfl (.no _) (.no _) (.of (v := rdS r) rfl (by omega) (by omega)) (by omega) (by simp)) (v' := .slice (slA ra (rdS r) rc 1) (r.drop (rdS r)).length (rc - rdS r)) (by rw [List.length_drop])) ?_)))))
   refine jp rfl (wAc (jB (jT (wAa (jp rfl (ja rfl (by omega) ?_))))))
   refine jp rfl (wAc ?_)
   have hI6 := hI.le
   dsimp only at hI6
   refine wAp (i + 1, M3, slA ra (rdS r) rc 1, rc - rdS r, r.drop (rdS r), a53, c53, R53, ps ++ [((rdX r, .slice xva (rdX r).val.length xvc) : It × Value)]) (.cons (t := 2) rfl (.cons (t := 4) rfl (.cons (t := 6) rfl (.cons (t := 7) rfl (.cons (t := 8) rfl .nil))))) ⟨by show i + 1 ≤ 6; omega, by show i + 1 ≤ min _ _; rw [← hm]; omega, hI.mem.trans hM3, SM.dropB (hI.sm.mono hM3) z2 hcap, by show (r.drop (rdS r)).length ≤ rc - rdS r; rw [List.length_drop]; omega, by show (r.drop (rdS r)).length ≤ 124; rw [List.length_drop]; omega, ?_, ?_, ?_, ?_⟩ (by show 6 - (i + 1) < 6 - i; omega) (fun _ h => h.subC fun f => by simp only [List.map_append, List.map_cons, List.map_nil, List.sum_append, List.sum_cons, List.sum_nil]; omega)
   ·have e := hI.eq; dsimp only at e ⊢; rw [e, ← hm, show m - i = (m - (i + 1)) + 1 by omega, rdItems_on hE, List.map_append]; rfl
   ·show Own (.slice a53 (i + 1) c53) R53 _ 5 (i + 1) ((ps ++ [((rdX r, .slice xva (rdX r).val.length xvc) : It × Value)]).flatMap wAs); rw [List.flatMap_append, List.flatMap_cons, List.flatMap_nil, List.append_nil]; exact o53
   ·show (ps ++ [((rdX r, .slice xva (rdX r).val.length xvc) : It × Value)]).length = i + 1; have := hI.len; dsimp only at this; rw [List.length_append, this]; rfl
   intro p hp
   rcases List.mem_append.1 hp with hp | hp
   ·exact (hI.bs p hp).mono hM3
   rw [List.mem_singleton.1 hp]; exact ⟨xva, xvc, rfl, hvc3, hvs3⟩
  refine jp rfl (wAc (jT (wAk rfl (wAw (jTx (jTx (jBx (jT (wAb (wAb ?_))))))))))
  obtain rfl : i = m := by omega
  have hq := hI.eq
  dsimp only at hq
  rw [← hm, Nat.sub_self, wCi, hm] at hq
  refine jc_own hI.own (by simp) ?_
  intro M9 a9 c9 hM9 e9 hc9 hs9
  dsimp only at e9 hs9
  cases e9
  have hlen := hI.len
  dsimp only at hlen
  have hns : NS M9 (.slice xa i xc) (ps.map (·.1)) := ⟨xa, xc, ps, by rw [List.length_map, hlen], by rw [List.length_map, hlen]; exact hc9, hs9, rfl, fun p hp => (hI.bs p hp).mono hM9⟩
  have hl2 : (ps.map (·.1)).length = i := by rw [List.length_map, hlen]
  obtain ⟨zs, f1, f2, f3, hfine⟩ := rd_back hq
  rw [List.nil_append] at f1
  subst f1
  refine wAa (sLL rfl ?_)
  refine wJj rfl rfl (wBr rfl rfl rfl rfl rfl (by kernel_rfl) (rmay6_spec ((b.getD 1 0).toNat : Int) (ps.map (·.1)) (.slice xa i xc) M9 hns (by rw [hl2]; have := hI.i6; dsimp only at this; omega))) (fun h59 => ?_) (fun h59 => ?_)
  ·refine jp rfl (jp rfl (jp rfl (sLL rfl ?_)))
   refine wAy rfl rfl (wAu rfl rfl rfl rfl rfl (by kernel_rfl) (by have := wKc ((b.getD 1 0).toNat : Int) (ps.map (·.1)) xa xc ps M9 hs9 rfl (fun p hp => (hI.bs p hp).mono hM9) (by rw [hl2]; exact hI.i6) hfine; rw [hl2] at this; exact this)) ?_; rintro _ M64 _ ⟨hM64, R64, rfl, o64⟩
   refine wLp o64 (by simp) ?_
   intro M65 a65 c65 hM65 e65 hc65 hs65
   subst e65
   have hbb := itBs_le hfine
   rw [hl2] at hbb
   have hi6 := hI.i6
   dsimp only at hi6
   have hrl : (wDr ((b.getD 1 0).toNat : Int) (ps.map (·.1))).length ≤ 100000 := by unfold wDr; simp only [List.length_append, List.length_cons, List.length_nil]; omega
   have hsmq := rsame6_spec (some ⟨sb, so, none⟩) a65 vc c65 b (wDr ((b.getD 1 0).toNat : Int) (ps.map (·.1))) M65 (.inr ⟨sb, so, rfl, fun i v hv => (hx i v hv).mono (hI.mem.trans (hM9.trans (hM64.trans hM65)))⟩) hs65 (by omega) hrl
   obtain ⟨rw_, hrw⟩ : ∃ x, x = wDr ((b.getD 1 0).toNat : Int) (ps.map (·.1)) := ⟨_, rfl⟩
   rw [← hrw] at hsmq hrl ⊢
   refine wJj rfl rfl (wBr rfl rfl rfl rfl rfl (by kernel_rfl) hsmq) (fun h65 => ?_) (fun h65 => ?_)
   ·refine jp rfl (jp rfl (wAc (jT (wAk rfl (wAd (jT (wAb (wAa (sLL rfl ?_)))))))))
    refine sSt rfl ?_
    refine jp rfl (wAc (jT (wAe (wDa (rs := [_, _]) ([]) (by exact List.nil_sublist _) rfl (.cons (.agg rfl rfl rfl) (.cons (.tmp rfl) .nil)) ?_))))
    refine ⟨?_, rfl⟩
    unfold NdPost
    rw [rdn_ok hB ho hbl hq h59 (by rw [← hrw]; exact h65)]
    exact ⟨_, rfl, hns.mono (hM64.trans hM65)⟩
   refine jp rfl (jp rfl (wAc (jT (wAg rfl (wAb (wAa (wAi rfl rfl (wBa (cs := [_, _]) rfl rfl rfl (by rfl)) ?_)))))))
   refine sSt rfl ?_
   refine jp rfl (wAc (jT (wAe (jTr (wDa (rs := [_, _]) ([]) (by exact List.nil_sublist _) rfl (.cons (.agg rfl rfl rfl) (.cons (.tmp rfl) .nil)) ?_)))))
   exact ⟨NdPost.no (rdn_bad hB ho hbl hq (.inr (by rw [← hrw]; exact h65))) (by decide), rfl⟩
  iterate 8 refine jp rfl ?_
  refine wAc (jT (wAg rfl (wAb (wAa (wAi rfl rfl (wBa (cs := [_, _]) rfl rfl rfl (by rfl)) ?_)))))
  refine sSt rfl ?_
  refine jp rfl (wAc (jT (wAe (jTr (wDa (rs := [_, _]) ([]) (by exact List.nil_sublist _) rfl (.cons (.agg rfl rfl rfl) (.cons (.tmp rfl) .nil)) ?_)))))
  exact ⟨NdPost.no (rdn_bad hB ho hbl hq (.inl h59)) (by decide), rfl⟩
 refine jp rfl (jp rfl (jp rfl (jp rfl (wAc (jT (wAk rfl (wAw (jTx (jTx (jBx (jT (wAb (wAb ?_)))))))))))))
 obtain rfl : i = m := by omega
 have hq := hI.eq
 dsimp only at hq
 rw [← hm, Nat.sub_self, wCi, hm] at hq
 refine jc_own hI.own (by simp) ?_
 intro M9 a9 c9 hM9 e9 hc9 hs9
 dsimp only at e9 hs9
 cases e9
 have hlen := hI.len
 dsimp only at hlen
 have hns : NS M9 (.slice xa i xc) (ps.map (·.1)) := ⟨xa, xc, ps, by rw [List.length_map, hlen], by rw [List.length_map, hlen]; exact hc9, hs9, rfl, fun p hp => (hI.bs p hp).mono hM9⟩
 have hl2 : (ps.map (·.1)).length = i := by rw [List.length_map, hlen]
 obtain ⟨zs, f1, f2, f3, hfine⟩ := rd_back hq
 rw [List.nil_append] at f1
 subst f1
 refine wAa (sLL rfl ?_)
 refine wJj rfl rfl (wBr rfl rfl rfl rfl rfl (by kernel_rfl) (rmay6_spec ((b.getD 1 0).toNat : Int) (ps.map (·.1)) (.slice xa i xc) M9 hns (by rw [hl2]; have := hI.i6; dsimp only at this; omega))) (fun h59 => ?_) (fun h59 => ?_)
 ·refine jp rfl (jp rfl (jp rfl (sLL rfl ?_)))
  refine wAy rfl rfl (wAu rfl rfl rfl rfl rfl (by kernel_rfl) (by have := wKc ((b.getD 1 0).toNat : Int) (ps.map (·.1)) xa xc ps M9 hs9 rfl (fun p hp => (hI.bs p hp).mono hM9) (by rw [hl2]; exact hI.i6) hfine; rw [hl2] at this; exact this)) ?_; rintro _ M64 _ ⟨hM64, R64, rfl, o64⟩
  refine wLp o64 (by simp) ?_
  intro M65 a65 c65 hM65 e65 hc65 hs65
  subst e65
  have hbb := itBs_le hfine
  rw [hl2] at hbb
  have hi6 := hI.i6
  dsimp only at hi6
  have hrl : (wDr ((b.getD 1 0).toNat : Int) (ps.map (·.1))).length ≤ 100000 := by unfold wDr; simp only [List.length_append, List.length_cons, List.length_nil]; omega
  have hsmq := rsame6_spec (some ⟨sb, so, none⟩) a65 vc c65 b (wDr ((b.getD 1 0).toNat : Int) (ps.map (·.1))) M65 (.inr ⟨sb, so, rfl, fun i v hv => (hx i v hv).mono (hI.mem.trans (hM9.trans (hM64.trans hM65)))⟩) hs65 (by omega) hrl
  obtain ⟨rw_, hrw⟩ : ∃ x, x = wDr ((b.getD 1 0).toNat : Int) (ps.map (·.1)) := ⟨_, rfl⟩
  rw [← hrw] at hsmq hrl ⊢
  refine wJj rfl rfl (wBr rfl rfl rfl rfl rfl (by kernel_rfl) hsmq) (fun h65 => ?_) (fun h65 => ?_)
  ·refine jp rfl (jp rfl (wAc (jT (wAk rfl (wAd (jT (wAb (wAa (sLL rfl ?_)))))))))
   refine sSt rfl ?_
   refine jp rfl (wAc (jT (wAe (wDa (rs := [_, _]) ([]) (by exact List.nil_sublist _) rfl (.cons (.agg rfl rfl rfl) (.cons (.tmp rfl) .nil)) ?_))))
   refine ⟨?_, rfl⟩
   unfold NdPost
   rw [rdn_ok hB ho hbl hq h59 (by rw [← hrw]; exact h65)]
   exact ⟨_, rfl, hns.mono (hM64.trans hM65)⟩
  refine jp rfl (jp rfl (wAc (jT (wAg rfl (wAb (wAa (wAi rfl rfl (wBa (cs := [_, _]) rfl rfl rfl (by rfl)) ?_)))))))
  refine sSt rfl ?_
  refine jp rfl (wAc (jT (wAe (jTr (wDa (rs := [_, _]) ([]) (by exact List.nil_sublist _) rfl (.cons (.agg rfl rfl rfl) (.cons (.tmp rfl) .nil)) ?_)))))
  exact ⟨NdPost.no (rdn_bad hB ho hbl hq (.inr (by rw [← hrw]; exact h65))) (by decide), rfl⟩
 iterate 8 refine jp rfl ?_
 refine wAc (jT (wAg rfl (wAb (wAa (wAi rfl rfl (wBa (cs := [_, _]) rfl rfl rfl (by rfl)) ?_)))))
 refine sSt rfl ?_
 refine jp rfl (wAc (jT (wAe (jTr (wDa (rs := [_, _]) ([]) (by exact List.nil_sublist _) rfl (.cons (.agg rfl rfl rfl) (.cons (.tmp rfl) .nil)) ?_)))))
 exact ⟨NdPost.no (rdn_bad hB ho hbl hq (.inl h59)) (by decide), rfl⟩
theorem rread6_spec (v : Value) (blk : List By) (M : Mem) (hv : BS M v blk) (hn : blk.length ≤ 100000) : SpecL Tryz.prog 69 #[v] M [] fun u M' L' => NdPost blk u M' ∧ L' = [] := by
 by_cases h : blk.length = 128
 ·by_cases hb : wJa blk 0 4 = wJv (blk.drop 4)
  ·exact rread6_main v blk M hv hn h hb
  exact rread6_sum v blk M hv hn h hb
 exact rread6_len v blk M hv hn h
end Go.Proofs.YtkcpllhggofloaaGreat
