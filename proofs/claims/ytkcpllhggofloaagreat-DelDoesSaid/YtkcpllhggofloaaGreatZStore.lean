/- Walks: what a store is; whether one may be. -/
import Derived.Test.YtkcpllhggofloaaGreatZNode
namespace Go.Proofs.YtkcpllhggofloaaGreat
set_option linter.unusedSimpArgs false
set_option linter.unusedVariables false
set_option linter.unusedSectionVars false
open Go.RowKit
theorem iread_spec (v : Value) (xs : List By) (M : Mem) (hv : BS M v xs) (hn : xs.length ≤ 100000) : SpecL Tryz.prog 85 #[v] M [] fun u M' L' => ∃ x va vc, ∃ sz : Int, u = .tuple #[.agg (itc x va vc).toArray, .int .i64 sz, .int .i64 (rdE xs)] ∧ (rdE xs = 0 → x = rdX xs ∧ sz = rdS xs ∧ x.val.length ≤ vc ∧ SM (wEn M M') va (wAj x.val)) ∧ L' = [] := by
  obtain ⟨a, c, rfl, hc, hs⟩ := hv
  have err : ∀ e : Int, e ≠ 0 → rdE xs = e → SpecL Tryz.prog 85 #[.slice a xs.length c] M [] (fun v _ L' => v = .tuple #[.agg zeroIt.toArray, .int .i64 0, .int .i64 e] ∧ L' = []) → SpecL Tryz.prog 85 #[.slice a xs.length c] M [] fun u M' L' => ∃ x va vc, ∃ sz : Int, u = .tuple #[.agg (itc x va vc).toArray, .int .i64 sz, .int .i64 (rdE xs)] ∧ (rdE xs = 0 → x = rdX xs ∧ sz = rdS xs ∧ x.val.length ≤ vc ∧ SM (wEn M M') va (wAj x.val)) ∧ L' = [] :=
    fun e he hE h => h.mono fun u M' L' hh => ⟨⟨⟨0, 0, 0⟩, 0, []⟩, none, 0, 0, by rw [hE]; exact hh.1, fun h0 => absurd (hE ▸ h0) he, hh.2⟩
  by_cases h1 : xs.length < 12
  · exact err 8 (by decide) (by unfold rdE; rw [if_pos h1]) (iread_len a c xs M hc hs hn h1)
  by_cases h2 : xs.length < rdS xs
  · exact err 8 (by decide) (by unfold rdE; rw [if_neg h1, if_pos h2]) (iread_size a c xs M hc hs hn h1 h2)
  have hE : rdE xs = wGc (rdX xs) := by unfold rdE; rw [if_neg h1, if_neg h2]
  by_cases h3 : wGc (rdX xs) = 0
  · refine (iread_ok a c xs M hc hs hn h1 h2 h3).mono fun u M' L' hh => ?_
    obtain ⟨cs, hu, ⟨s, rfl, va, vc, rfl, hvc, hvs⟩, hL⟩ := hh
    exact ⟨rdX xs, va, vc, _, by rw [hE, h3]; exact hu, fun _ => ⟨rfl, rfl, hvc, hvs⟩, hL⟩
  exact err _ h3 hE (iread_chk a c xs M hc hs hn h1 h2 h3)
theorem rdE_zero {xs : List By} (h : rdE xs = 0) : 12 ≤ xs.length ∧ rdS xs ≤ xs.length ∧ rdS xs ≤ 24 ∧ wGc (rdX xs) = 0 := by
  unfold rdE at h
  split at h
  · cases h
  split at h
  · cases h
  rename_i h1 h2
  have h3 := wGr h
  have h4 := rdX_len (xs := xs) (by omega)
  unfold wDu at h3
  have h5 := of_decide_eq_false h3
  refine ⟨by omega, by omega, ?_, h⟩
  have : ¬ 12 < (rdX xs).val.length := fun hh => h5 (.inr hh)
  omega
def wCi : Nat → List By → List It → Option (List It × List By)
  | 0, r, acc => some (acc, r)
  | n + 1, r, acc => if rdE r = 0 then wCi n (r.drop (rdS r)) (acc ++ [rdX r]) else none
def wDg (blk : List By) : Option (Int × List It) :=
  if wFa blk = 0 then
    if (blk.drop 4).getD 0 0 = 78 ∧ (blk.drop 4).getD 2 0 ≤ 5 then
      match wCi ((blk.drop 4).getD 2 0).toNat ((blk.drop 4).drop 3) [] with
      | some (xs, r) => if wEp (((blk.drop 4).getD 1 0).toNat : Int) xs = 0 ∧ wDq r = true then some ((((blk.drop 4).getD 1 0).toNat : Int), xs) else none
      | none => none
    else none
  else none
def zeroNd : List Value := [.int .i64 0, .slice none 0 0]
def NdPost (blk : List By) (u : Value) (M' : Mem) : Prop := match wDg blk with
  | some (lv, xs) => ∃ s, u = .tuple #[.agg #[.int .i64 lv, s], .int .i64 0] ∧ NS M' s xs
  | none => ∃ e : Int, e ≠ 0 ∧ u = .tuple #[.agg zeroNd.toArray, .int .i64 e]
theorem nread_open (v : Value) (blk : List By) (M : Mem) (hv : BS M v blk) (hn : blk.length ≤ 100000) (h : wFa blk ≠ 0) :
    SpecL Tryz.prog 58 #[v] M [] fun u M' L' => NdPost blk u (wEn M M') ∧ L' = [] := by
  refine wAf (vs := [_]) 75 _ Tryz.func58 rfl Tryz.ntmps58 rfl rfl ?_; intro W
  refine wAb (wAa (sAl rfl fun b2 => ?_))
  refine jp rfl (wAc (jT (wAb (wAa (jp rfl (wAy rfl rfl (wAu rfl rfl rfl rfl rfl (by kernel_rfl) (wLi v blk M hv)) ?_)))))); rintro _ M1 _ ⟨hM1, _, rfl, ⟨s, rfl, hbs, rfl⟩⟩
  refine jp rfl (jp rfl (jp rfl (jp rfl (jp rfl (wAc (jT (wAb (wAb (wAa (jp rfl (jt rfl (decide_eq_true (by omega)) ?_)))))))))))
  refine wAc (jT (wAg rfl (wAb (wAa (wAi rfl rfl (wBa (cs := [_, _]) rfl rfl rfl (by rfl)) ?_)))))
  refine jp rfl (sSt rfl ?_)
  refine jp rfl (wAc (jT (wAe (jTr (wDa (rs := [_, _]) ([]) (by simp) rfl (.cons (.agg rfl rfl rfl) (.cons (.tmp rfl) .nil)) ?_)))))
  exact ⟨by unfold NdPost wDg; rw [if_neg h]; exact ⟨_, h, rfl⟩, rfl⟩
theorem nread_mark1 (v : Value) (blk : List By) (M : Mem) (hv : BS M v blk) (hn : blk.length ≤ 100000) (h : wFa blk = 0) (hm : ((blk.drop 4).getD 0 0).toNat ≠ 78) :
    SpecL Tryz.prog 58 #[v] M [] fun u M' L' => NdPost blk u (wEn M M') ∧ L' = [] := by
  refine wAf (vs := [_]) 75 _ Tryz.func58 rfl Tryz.ntmps58 rfl rfl ?_; intro W
  refine wAb (wAa (sAl rfl fun b2 => ?_))
  refine jp rfl (wAc (jT (wAb (wAa (jp rfl (wAy rfl rfl (wAu rfl rfl rfl rfl rfl (by kernel_rfl) (wLi v blk M hv)) ?_)))))); rintro _ M1 _ ⟨hM1, _, rfl, ⟨s, rfl, hbs, rfl⟩⟩
  have hbs := hbs h
  have hb4 : (blk.drop 4).length = 124 := by
        have : blk.length = 128 := by unfold wFa at h; split at h; cases h; omega
        rw [List.length_drop]; omega
  obtain ⟨sa, sc, rfl, hsc, hss⟩ := hbs
  obtain ⟨sb, so, e0, hx⟩ := hss.open (by intro e; have := congrArg List.length e; rw [wAm, List.length_nil] at this; omega)
  subst e0
  generalize hB : blk.drop 4 = b at *
  have q0 := (b.getD 0 0).toNat_lt
  have q1 := (b.getD 1 0).toNat_lt
  have q2 := (b.getD 2 0).toNat_lt
  refine jp rfl (jp rfl (jp rfl (jp rfl (jp rfl (wAc (jT (wAb (wAb (wAa (jp rfl (jf rfl (decide_eq_false (by omega)) ?_)))))))))))
  refine wAc (jT (wAk rfl (wAd (jT (wAb (wAa (jp rfl (wAi rfl rfl (wBe rfl rfl rfl rfl (by omega)) ?_))))))))
  refine wAi rfl rfl (qLd rfl rfl rfl rfl ((hx ((1 : Int).toNat * 1) _ (wHy (j := 1) (by omega))).cj _)) ?_
  refine wAi rfl rfl (wEm rfl rfl rfl (by omega)) ?_
  refine wAi rfl rfl (wBa (cs := [_, _]) rfl rfl rfl (by rfl)) ?_
  refine sAl rfl fun b6 => ?_
  refine sSt rfl ?_
  refine wAc (jT (wAb (wAa (jp rfl (wAi rfl rfl (qEq (qSl rfl rfl rfl (.no _) (.no _) (.of (v := 3) rfl (by omega) rfl) (by omega) (by simp)) (v' := .slice (some ⟨sb, so + 3 * 1, none⟩) (b.drop 3).length (sc - 3)) (by rw [wBn (by omega), List.length_drop])) ?_)))))
  refine jp rfl (wAc (jT (wAb (wAb (wAa (jp rfl (wAi rfl rfl (wBe rfl rfl rfl rfl (by omega)) ?_)))))))
  refine wAi rfl rfl (qLd rfl rfl rfl rfl ((hx ((0 : Int).toNat * 1) _ (wHy (j := 0) (by omega))).cj _)) ?_
  refine jt rfl (decide_eq_true (by omega)) ?_
  refine jp rfl (jp rfl (jp rfl (jp rfl (jp rfl (jp rfl (wAc (jT (wAg rfl (wAb (wAa (wAi rfl rfl (wBa (cs := [_, _]) rfl rfl rfl (by rfl)) ?_)))))))))))
  refine sSt rfl ?_
  refine jp rfl (wAc (jT (wAe (jTr (wDa (rs := [_, _]) ([]) (by simp) rfl (.cons (.agg rfl rfl rfl) (.cons (.tmp rfl) .nil)) ?_)))))
  refine ⟨?_, rfl⟩
  unfold NdPost wDg; rw [if_pos h, hB, if_neg (by intro hh; have := congrArg UInt8.toNat hh.1; have := UInt8.le_iff_toNat_le.1 hh.2; simp at *; omega)]
  exact ⟨8, by decide, rfl⟩
theorem nread_mark2 (v : Value) (blk : List By) (M : Mem) (hv : BS M v blk) (hn : blk.length ≤ 100000) (h : wFa blk = 0) (hm : ((blk.drop 4).getD 0 0).toNat = 78) (hm2 : 5 < ((blk.drop 4).getD 2 0).toNat) :
    SpecL Tryz.prog 58 #[v] M [] fun u M' L' => NdPost blk u (wEn M M') ∧ L' = [] := by
  refine wAf (vs := [_]) 75 _ Tryz.func58 rfl Tryz.ntmps58 rfl rfl ?_; intro W
  refine wAb (wAa (sAl rfl fun b2 => ?_))
  refine jp rfl (wAc (jT (wAb (wAa (jp rfl (wAy rfl rfl (wAu rfl rfl rfl rfl rfl (by kernel_rfl) (wLi v blk M hv)) ?_)))))); rintro _ M1 _ ⟨hM1, _, rfl, ⟨s, rfl, hbs, rfl⟩⟩
  have hbs := hbs h
  have hb4 : (blk.drop 4).length = 124 := by
        have : blk.length = 128 := by unfold wFa at h; split at h; cases h; omega
        rw [List.length_drop]; omega
  obtain ⟨sa, sc, rfl, hsc, hss⟩ := hbs
  obtain ⟨sb, so, e0, hx⟩ := hss.open (by intro e; have := congrArg List.length e; rw [wAm, List.length_nil] at this; omega)
  subst e0
  generalize hB : blk.drop 4 = b at *
  have q0 := (b.getD 0 0).toNat_lt
  have q1 := (b.getD 1 0).toNat_lt
  have q2 := (b.getD 2 0).toNat_lt
  refine jp rfl (jp rfl (jp rfl (jp rfl (jp rfl (wAc (jT (wAb (wAb (wAa (jp rfl (jf rfl (decide_eq_false (by omega)) ?_)))))))))))
  refine wAc (jT (wAk rfl (wAd (jT (wAb (wAa (jp rfl (wAi rfl rfl (wBe rfl rfl rfl rfl (by omega)) ?_))))))))
  refine wAi rfl rfl (qLd rfl rfl rfl rfl ((hx ((1 : Int).toNat * 1) _ (wHy (j := 1) (by omega))).cj _)) ?_
  refine wAi rfl rfl (wEm rfl rfl rfl (by omega)) ?_
  refine wAi rfl rfl (wBa (cs := [_, _]) rfl rfl rfl (by rfl)) ?_
  refine sAl rfl fun b6 => ?_
  refine sSt rfl ?_
  refine wAc (jT (wAb (wAa (jp rfl (wAi rfl rfl (qEq (qSl rfl rfl rfl (.no _) (.no _) (.of (v := 3) rfl (by omega) rfl) (by omega) (by simp)) (v' := .slice (some ⟨sb, so + 3 * 1, none⟩) (b.drop 3).length (sc - 3)) (by rw [wBn (by omega), List.length_drop])) ?_)))))
  refine jp rfl (wAc (jT (wAb (wAb (wAa (jp rfl (wAi rfl rfl (wBe rfl rfl rfl rfl (by omega)) ?_)))))))
  refine wAi rfl rfl (qLd rfl rfl rfl rfl ((hx ((0 : Int).toNat * 1) _ (wHy (j := 0) (by omega))).cj _)) ?_
  refine jf rfl (decide_eq_false (by omega)) ?_
  refine jp rfl (jp rfl (wAi rfl rfl (wBe rfl rfl rfl rfl (by omega)) ?_))
  refine wAi rfl rfl (qLd rfl rfl rfl rfl ((hx ((2 : Int).toNat * 1) _ (wHy (j := 2) (by omega))).cj _)) ?_
  refine jt rfl (decide_eq_true (by omega)) ?_
  refine jp rfl (wAc (jT (wAg rfl (wAb (wAa (wAi rfl rfl (wBa (cs := [_, _]) rfl rfl rfl (by rfl)) ?_))))))
  refine sSt rfl ?_
  refine jp rfl (wAc (jT (wAe (jTr (wDa (rs := [_, _]) ([]) (by simp) rfl (.cons (.agg rfl rfl rfl) (.cons (.tmp rfl) .nil)) ?_)))))
  refine ⟨?_, rfl⟩
  unfold NdPost wDg; rw [if_pos h, hB, if_neg (by intro hh; have := congrArg UInt8.toNat hh.1; have := UInt8.le_iff_toNat_le.1 hh.2; simp at *; omega)]
  exact ⟨8, by decide, rfl⟩
theorem rdItems_on {m : Nat} {r : List By} {acc : List It} (h : rdE r = 0) : wCi (m + 1) r acc = wCi m (r.drop (rdS r)) (acc ++ [rdX r]) := by rw [wCi, if_pos h]
theorem rdItems_off {m : Nat} {r : List By} {acc : List It} (h : rdE r ≠ 0) : wCi (m + 1) r acc = none := by rw [wCi, if_neg h]
abbrev IT : TypeId := 46
theorem wJd {blk b : List By} (hB : blk.drop 4 = b) (h : wFa blk = 0) (hm : (b.getD 0 0).toNat = 78) (hm2 : (b.getD 2 0).toNat ≤ 5) :
    wDg blk = match wCi (b.getD 2 0).toNat (b.drop 3) [] with
      | some (xs, r) => if wEp ((b.getD 1 0).toNat : Int) xs = 0 ∧ wDq r = true then some (((b.getD 1 0).toNat : Int), xs) else none
      | none => none := by
  unfold wDg; rw [if_pos h, hB, if_pos ⟨UInt8.toNat.inj hm, UInt8.le_iff_toNat_le.2 hm2⟩]
theorem wKe {blk : List By} {M : Mem} {e : Int} (h : wDg blk = none) (he : e ≠ 0) : NdPost blk (.tuple #[.agg zeroNd.toArray, .int .i64 e]) M := by
  unfold NdPost; rw [h]; exact ⟨e, he, rfl⟩
set_option maxHeartbeats 2000000 in
theorem nread_main (v : Value) (blk : List By) (M : Mem) (hv : BS M v blk) (hn : blk.length ≤ 100000) (h : wFa blk = 0) (hm : ((blk.drop 4).getD 0 0).toNat = 78) (hm2 : ((blk.drop 4).getD 2 0).toNat ≤ 5) :
    SpecL Tryz.prog 58 #[v] M [] fun u M' L' => NdPost blk u (wEn M M') ∧ L' = [] := by
  refine wAf (vs := [_]) 75 _ Tryz.func58 rfl Tryz.ntmps58 rfl rfl ?_; intro W
  refine wAb (wAa (sAl rfl fun b2 => ?_))
  refine jp rfl (wAc (jT (wAb (wAa (jp rfl (wAy rfl rfl (wAu rfl rfl rfl rfl rfl (by kernel_rfl) (wLi v blk M hv)) ?_)))))); rintro _ M1 _ ⟨hM1, _, rfl, ⟨s, rfl, hbs, rfl⟩⟩
  have hbs := hbs h
  have hb4 : (blk.drop 4).length = 124 := by
        have : blk.length = 128 := by unfold wFa at h; split at h; cases h; omega
        rw [List.length_drop]; omega
  obtain ⟨sa, sc, rfl, hsc, hss⟩ := hbs
  obtain ⟨sb, so, e0, hx⟩ := hss.open (by intro e; have := congrArg List.length e; rw [wAm, List.length_nil] at this; omega)
  subst e0
  generalize hB : blk.drop 4 = b at *
  have q0 := (b.getD 0 0).toNat_lt
  have q1 := (b.getD 1 0).toNat_lt
  have q2 := (b.getD 2 0).toNat_lt
  refine jp rfl (jp rfl (jp rfl (jp rfl (jp rfl (wAc (jT (wAb (wAb (wAa (jp rfl (jf rfl (decide_eq_false (by omega)) ?_)))))))))))
  refine wAc (jT (wAk rfl (wAd (jT (wAb (wAa (jp rfl (wAi rfl rfl (wBe rfl rfl rfl rfl (by omega)) ?_))))))))
  refine wAi rfl rfl (qLd rfl rfl rfl rfl ((hx ((1 : Int).toNat * 1) _ (wHy (j := 1) (by omega))).cj _)) ?_
  refine wAi rfl rfl (wEm rfl rfl rfl (by omega)) ?_
  refine wAi rfl rfl (wBa (cs := [_, _]) rfl rfl rfl (by rfl)) ?_
  refine sAl rfl fun b6 => ?_
  refine sSt rfl ?_
  refine wAc (jT (wAb (wAa (jp rfl (wAi rfl rfl (qEq (qSl rfl rfl rfl (.no _) (.no _) (.of (v := 3) rfl (by omega) rfl) (by omega) (by simp)) (v' := .slice (some ⟨sb, so + 3 * 1, none⟩) (b.drop 3).length (sc - 3)) (by rw [wBn (by omega), List.length_drop])) ?_)))))
  refine jp rfl (wAc (jT (wAb (wAb (wAa (jp rfl (wAi rfl rfl (wBe rfl rfl rfl rfl (by omega)) ?_)))))))
  refine wAi rfl rfl (qLd rfl rfl rfl rfl ((hx ((0 : Int).toNat * 1) _ (wHy (j := 0) (by omega))).cj _)) ?_
  refine jf rfl (decide_eq_false (by omega)) ?_
  refine jp rfl (jp rfl (wAi rfl rfl (wBe rfl rfl rfl rfl (by omega)) ?_))
  refine wAi rfl rfl (qLd rfl rfl rfl rfl ((hx ((2 : Int).toNat * 1) _ (wHy (j := 2) (by omega))).cj _)) ?_
  refine jf rfl (decide_eq_false (by omega)) ?_
  refine jp rfl (wAc (jT (wAk rfl (wAd (jT (wAb (wAb (wAa (jp rfl (wAi rfl rfl (wBe rfl rfl rfl rfl (by omega)) ?_))))))))))
  refine wAi rfl rfl (qLd rfl rfl rfl rfl ((hx ((2 : Int).toNat * 1) _ (wHy (j := 2) (by omega))).cj _)) ?_
  refine jp rfl (wAc (jT (wAh ?_)))
  have hl3 : (b.drop 3).length = 121 := by rw [List.length_drop, hb4]
  have hB3 : BS M1 (.slice (some ⟨sb, so + 3 * 1, none⟩) (b.drop 3).length (sc - 3)) (b.drop 3) := ⟨_, _, rfl, by omega, .inr ⟨sb, so + 3 * 1, rfl, fun i u hu => by have := SM.sub 3 (b.drop 3).length hx; rw [List.take_length] at this; exact this i u hu⟩⟩
  refine wAv (α := Nat × Mem × Lc × Value × Value × List By × List (It × Value)) (fun x => [(2, .pointer (some ⟨b2, 0, none⟩)), (6, .pointer (some ⟨b6, 0, none⟩)), (7, x.2.2.2.2.1), (41, .int .u8 ((b.getD 2 0).toNat : Int)), (42, .int .u8 (x.1 : Int))]) (fun x => x.2.1) (fun x => x.2.2.1 ++ [(b6, .cells [.int .i64 ((b.getD 1 0).toNat : Int), x.2.2.2.1].toArray 53 (0, 0)), (b2, .cells [.int .i64 0, .slice none 0 0].toArray 53 (0, 0))]) (fun x => x.1 ≤ (b.getD 2 0).toNat ∧ MLe M1 x.2.1 ∧ Own x.2.2.2.1 x.2.2.1 IT 5 x.2.2.2.2.2.2.length (x.2.2.2.2.2.2.flatMap wAs) ∧ (∀ p ∈ x.2.2.2.2.2.2, BS (wEn M x.2.1) p.2 p.1.val) ∧ BS x.2.1 x.2.2.2.2.1 x.2.2.2.2.2.1 ∧ 121 ≤ x.2.2.2.2.2.1.length + 24 * x.1 ∧ x.2.2.2.2.2.1.length ≤ 121 ∧ wCi (b.getD 2 0).toNat (b.drop 3) [] = wCi ((b.getD 2 0).toNat - x.1) x.2.2.2.2.2.1 (x.2.2.2.2.2.2.map (·.1)) ∧ x.2.2.2.2.2.2.length = x.1) (fun x => (b.getD 2 0).toNat - x.1)
    (0, M1, [], .slice none 0 0, .slice (some ⟨sb, so + 3 * 1, none⟩) (b.drop 3).length (sc - 3), b.drop 3, []) (.cons (t := 2) rfl (.cons (t := 6) rfl (.cons (t := 7) rfl (.cons (t := 41) rfl (.cons (t := 42) rfl .nil))))) ⟨Nat.zero_le _, MLe.refl _, Own.nil _ _, (fun _ h => by cases h), hB3, by show 121 ≤ (b.drop 3).length + 24 * 0; omega, by show (b.drop 3).length ≤ 121; omega, rfl, rfl⟩ (fun _ h => h) ?_
  rintro ⟨k, Mk, R, s, rv, r, ps⟩ ⟨hk, hMk, hown, hps, hrv, hr1, hr2, hI, hpl⟩
  try dsimp only at hk hMk hown hps hrv hr1 hr2 hI hpl ⊢
  refine wAb (wAa (js rfl (fun h43 => ?_) (fun h43 => ?_)))
  · refine wAc ?_
    refine jT (wAb (wAg rfl (wAd (jT (wAb (wAh (wAb (wAa (jp rfl ?_)))))))))
    obtain ⟨ra, rc, rfl, hrc, hrs⟩ := hrv
    refine wAy rfl rfl (wAu rfl rfl rfl rfl rfl (by kernel_rfl) (iread_spec _ r Mk ⟨ra, rc, rfl, hrc, hrs⟩ (by omega))) ?_; rintro _ Mi1 _ ⟨hMi1, _, rfl, ⟨x, va, vc, sz, rfl, hok, rfl⟩⟩
    refine jp rfl (jp rfl (jp rfl (jp rfl (sAl rfl fun b8 => ?_))))
    refine sSt rfl ?_
    refine jp rfl (jp rfl (wAc (jT (wAb (wAb (wAa (jp rfl (js rfl (fun h51 => ?_) (fun h51 => ?_)))))))))
    · refine wAc ?_
      refine jT (wAg rfl (wAb (wAa (wAi rfl rfl (wBa (cs := [_, _]) rfl rfl rfl (by rfl)) ?_))))
      refine jp rfl (sSt rfl ?_)
      refine jp rfl (wAc (jT (wAe (jTr (jBr (jTr (jTr (jBr (jTr (wDa (rs := [_, _]) ([]) (by simp) rfl (.cons (.agg rfl rfl rfl) (.cons (.tmp rfl) .nil)) ?_))))))))))
      refine ⟨?_, rfl⟩
      refine wKe ?_ h51
      rw [wJd hB h hm hm2, hI, show (b.getD 2 0).toNat - k = ((b.getD 2 0).toNat - (k + 1)) + 1 by omega, rdItems_off h51]
    refine wAc (jT (wAk rfl (wAd (jT ?_))))
    have hE : rdE r = 0 := Classical.not_not.1 h51
    obtain ⟨z1, z2, z3, z4⟩ := rdE_zero hE
    obtain ⟨rfl, rfl, hvc, hvs⟩ := hok hE
    refine wDb (p := { A := fun i => !([9].contains i), U := fun i => !([5, 6, 7, 9, 10].contains i) }) [(0, true), (1, true), (2, true), (5, true), (6, true), (7, true), (3, false), (4, false), (8, true), (9, false), (10, true)] Mi1 ([(b8, .cells (itc (rdX r) va vc).toArray IT (0, 0)), (b6, .cells [.int .i64 ((b.getD 1 0).toNat : Int), s].toArray 53 (0, 0)), (b2, .cells [.int .i64 0, .slice none 0 0].toArray 53 (0, 0))]) ([]) (by kernel_rfl) (by kernel_rfl) (by kernel_rfl) (by kernel_rfl) rfl (by simp) (MLe.refl _) (by simp) ?_
    refine dFa rfl rfl ?_
    refine dLd rfl rfl ?_
    refine dLL rfl rfl ?_
    iterate 2 refine dp rfl rfl ?_
    refine jd_u rfl rfl rfl (qEq (qSl rfl rfl rfl (.no _) (.no _) (.of (v := rdS r) rfl (by omega) (by omega)) (by omega) (by simp)) (v' := .slice (slA ra (rdS r) rc 1) (r.drop (rdS r)).length (rc - rdS r)) (by rw [List.length_drop])) ?_
    refine wHc rfl rfl rfl (wAn (cs := [_, _, _, _, _]) rfl rfl rfl (by rfl) (by rfl) (by rfl)) ?_; rintro _ _ _ ⟨b57, rfl, rfl, rfl⟩
    refine wGn (MLe.refl _) (fun _ h => List.mem_cons_of_mem _ h) (by first | exact MLe.refl _ | assumption) (by simp) ?_
    refine wHc rfl rfl rfl (wDv (R := R) (m := 1) rfl rfl rfl rfl hown rfl (fun i v hv => CJ.loc (by simpa using hv)) rfl (by rfl) (by simp [Value.oneCell']) (by omega) (by omega)) ?_; rintro s' _ _ ⟨rfl, R', rfl, hown', _⟩
    refine ⟨_, _, MLe.refl _, MLe.refl _, fun _ h => h, by simp, ?_⟩
    obtain ⟨a2, c2, rfl⟩ := hown'.form
    refine dFa rfl rfl ?_
    refine jd_e rfl rfl (wBm rfl rfl rfl rfl rfl rfl rfl rfl) ?_; rintro _ _ _ ⟨rfl, rfl⟩
    refine ⟨MLe.refl _, by simp, ?_⟩
    refine ep rfl rfl ?_
    refine wFf ?_
    refine jPn (jB (jT (wAa ?_)))
    refine wAi rfl rfl (qAk rfl rfl rfl rfl rfl (by rw [IntKind.wrap_u8]; omega)) ?_
    refine jp rfl (wAc ?_)
    refine wAp (k + 1, Mi1, R', .slice a2 (ps.length + 1) c2, .slice (slA ra (rdS r) rc 1) (r.drop (rdS r)).length (rc - rdS r), r.drop (rdS r), ps ++ [(rdX r, .slice va (rdX r).val.length vc)]) (.cons (t := 2) rfl (.cons (t := 6) rfl (.cons (t := 7) rfl (.cons (t := 41) rfl (.cons (t := 42) rfl .nil))))) ⟨by show k + 1 ≤ (b.getD 2 0).toNat; omega, hMk.trans hMi1, ?_, ?_, ?_, ?_, ?_, ?_, ?_⟩ (by show (b.getD 2 0).toNat - (k + 1) < (b.getD 2 0).toNat - k; omega) (fun _ h => h.fewer (by first | exact List.Sublist.refl _ | (simp)))
    · show Own _ _ _ _ (ps ++ [_]).length ((ps ++ [_]).flatMap wAs)
      rw [List.length_append, List.flatMap_append]; simpa [wAs] using hown'
    · intro p hp; rcases List.mem_append.1 hp with hp | hp
      · exact (hps p hp).mono (newOf_mono hMi1)
      rw [List.mem_singleton.1 hp]; exact ⟨va, vc, rfl, hvc, hvs.mono (wHi (hM1.trans hMk))⟩
    · refine ⟨_, _, rfl, ?_, ?_⟩
      · rw [List.length_drop]; omega
      have := hrs.part (l := rdS r) (m := rc) (s := 1) (by omega) (wAj r).length
      rw [List.take_of_length_le (by rw [List.length_drop]; omega), Nat.mul_one] at this
      rw [show wAj (r.drop (rdS r)) = (wAj r).drop (rdS r) by simp [wAj, List.map_drop]]; exact this.mono hMi1
    · show 121 ≤ (r.drop (rdS r)).length + 24 * (k + 1); rw [List.length_drop]; omega
    · show (r.drop (rdS r)).length ≤ 121; rw [List.length_drop]; omega
    · show wCi _ _ _ = wCi ((b.getD 2 0).toNat - (k + 1)) (r.drop (rdS r)) ((ps ++ [(rdX r, Value.slice va (rdX r).val.length vc)]).map (·.1))
      rw [hI, show (b.getD 2 0).toNat - k = ((b.getD 2 0).toNat - (k + 1)) + 1 by omega, rdItems_on hE, List.map_append]; rfl
    show (ps ++ [_]).length = k + 1; rw [List.length_append, hpl]; rfl
  refine wAc (jT (wAb (wAk rfl (wAw (jTx (jTx (jBx (jT (wAb (wAb (wAa (sLL rfl ?_))))))))))))
  have hk0 : (b.getD 2 0).toNat - k = 0 := by omega
  refine jl_ownN hown (by simp) ?_
  intro M2 a2 c2 hM2 e2 hc2 hs2; subst e2
  have hNS : NS (wEn M M2) (.slice a2 ps.length c2) (ps.map (·.1)) := ⟨a2, c2, ps, by rw [List.length_map], by rw [List.length_map]; exact hc2, hs2.mono (wHi (hM1.trans hMk)), rfl, fun p hp => (hps p hp).mono (newOf_mono hM2)⟩
  refine wAi rfl rfl (wBr rfl rfl rfl rfl rfl (by kernel_rfl) (ncheck_spec _ (ps.map (·.1)) _ M2 (hNS.mono (wGf _ _)))) ?_
  refine jp rfl (wAc (jT (wAb (wAa (jp rfl (js rfl (fun h67 => ?_) (fun h67 => ?_)))))))
  · refine wAc ?_
    refine jT (wAg rfl (wAb (wAa (wAi rfl rfl (wBa (cs := [_, _]) rfl rfl rfl (by rfl)) ?_))))
    refine jp rfl (sSt rfl ?_)
    refine jp rfl (wAc (jT (wAe (jTr (wDa (rs := [_, _]) ([]) (by simp) rfl (.cons (.agg rfl rfl rfl) (.cons (.tmp rfl) .nil)) ?_)))))
    refine ⟨?_, rfl⟩
    refine wKe ?_ h67
    rw [wJd hB h hm hm2, hI, hk0]; show (if _ then _ else _) = none; rw [if_neg (fun hh => h67 hh.1)]
  refine wAc (jT (wAk rfl (wAd (jT (wAb (wAb (wAa (jp rfl ?_))))))))
  obtain ⟨ra, rc, rfl, hrc, hrs⟩ := hrv
  refine wAi rfl rfl (wBr rfl rfl rfl rfl rfl (by kernel_rfl) (max_spec ra rc r M2 (hrs.mono hM2) (by omega) (by omega))) ?_
  refine js rfl (fun h72 => ?_) (fun h72 => ?_)
  · refine wAc ?_
    refine jT (wAg rfl (wAb (wAa (wAi rfl rfl (wBa (cs := [_, _]) rfl rfl rfl (by rfl)) ?_))))
    refine sSt rfl ?_
    refine jp rfl (wAc (jT (wAe (jTr (wDa (rs := [_, _]) ([]) (by simp) rfl (.cons (.agg rfl rfl rfl) (.cons (.tmp rfl) .nil)) ?_)))))
    refine ⟨?_, rfl⟩
    refine wKe ?_ (by decide)
    rw [wJd hB h hm hm2, hI, hk0]; show (if _ then _ else _) = none; rw [if_neg (fun hh => by have := mxB_pos (xs := r) (by omega); rw [hh.2, decide_eq_true h72] at this; cases this)]
  refine wAc (jT (wAk rfl (wAd (jT (wAb (wAa (sLL rfl ?_)))))))
  refine sSt rfl ?_
  refine jp rfl (wAc (jT (wAe (wDa (rs := [_, _]) ([]) (by simp) rfl (.cons (.agg rfl rfl rfl) (.cons (.tmp rfl) .nil)) ?_))))
  refine ⟨?_, rfl⟩
  unfold NdPost; rw [wJd hB h hm hm2, hI, hk0]
  have hno : wDq r = true := by have := mxB_pos (xs := r) (by omega); rw [decide_eq_false h72] at this; cases hn : wDq r <;> simp_all
  rw [show wCi 0 r (ps.map (·.1)) = some (ps.map (·.1), r) from rfl]; simp only []
  rw [if_pos ⟨Classical.not_not.1 h67, hno⟩]
  exact ⟨_, rfl, hNS⟩
theorem nread_new (v : Value) (blk : List By) (M : Mem) (hv : BS M v blk) (hn : blk.length ≤ 100000) : SpecL Tryz.prog 58 #[v] M [] fun u M' L' => NdPost blk u (wEn M M') ∧ L' = [] := by
 by_cases h : wFa blk = 0
 ·by_cases hm : ((blk.drop 4).getD 0 0).toNat = 78
  ·by_cases hm2 : ((blk.drop 4).getD 2 0).toNat ≤ 5
   ·exact nread_main v blk M hv hn h hm hm2
   exact nread_mark2 v blk M hv hn h hm (by omega)
  exact nread_mark1 v blk M hv hn h hm
 exact nread_open v blk M hv hn h
theorem NdPost.mono {blk : List By} {u : Value} {M M' : Mem} (h : NdPost blk u M) (hM : MLe M M') : NdPost blk u M' := by
 unfold NdPost at *
 split at h
 ·obtain ⟨s, e, h2⟩ := h; exact ⟨s, e, h2.mono hM⟩
 exact h
theorem nread_spec (v : Value) (blk : List By) (M : Mem) (hv : BS M v blk) (hn : blk.length ≤ 100000) : SpecL Tryz.prog 58 #[v] M [] fun u M' L' => NdPost blk u M' ∧ L' = [] :=
 (nread_new v blk M hv hn).mono fun _ _ _ ⟨h1, h2⟩ => ⟨h1.mono (wGf _ _), h2⟩
abbrev Wt := Int × List By
structure Sto where
 blocks : List (List By)
 waits : List Wt
 now : List By
 last : List By
def wCv (p : Wt × Value) : List Value := [.int .i64 p.1.1, p.2]
theorem wDn (p : Wt × Value) : (wCv p).length = 2 := rfl
abbrev wtc (w : Wt) (va : Option Addr) (vc : Nat) : List Value := [.int .i64 w.1, .slice va w.2.length vc]
def LS (M : Mem) (v : Value) (bs : List (List By)) : Prop := ∃ a c, ∃ ps : List (List By × Value), v = .slice a bs.length c ∧ bs.length ≤ c ∧ SM M a (ps.map (·.2)) ∧ ps.map (·.1) = bs ∧ ∀ p ∈ ps, BS M p.2 p.1
def WS (M : Mem) (v : Value) (ws : List Wt) : Prop := ∃ a c, ∃ ps : List (Wt × Value), v = .slice a ws.length c ∧ ws.length ≤ c ∧ SM M a (ps.flatMap wCv) ∧ ps.map (·.1) = ws ∧ ∀ p ∈ ps, BS M p.2 p.1.2
theorem LS.mono {M M' : Mem} {v : Value} {xs : List (List By)} (h : LS M v xs) (hM : MLe M M') : LS M' v xs := by
 obtain ⟨a, c, ps, h1, h2, h3, h4, h5⟩ := h; exact ⟨a, c, ps, h1, h2, h3.mono hM, h4, fun p hp => (h5 p hp).mono hM⟩
theorem WS.mono {M M' : Mem} {v : Value} {xs : List Wt} (h : WS M v xs) (hM : MLe M M') : WS M' v xs := by
 obtain ⟨a, c, ps, h1, h2, h3, h4, h5⟩ := h; exact ⟨a, c, ps, h1, h2, h3.mono hM, h4, fun p hp => (h5 p hp).mono hM⟩
theorem wEy {M : Mem} {sb so : Nat} {bs : List (List By)} {ps : List (List By × Value)} (hx : ∀ i u, (ps.map (·.2))[i]? = some u → CM M sb (so + i) u) (hp : ps.map (·.1) = bs) (hb : ∀ p ∈ ps, BS M p.2 p.1) {k : Nat} (hk : k < bs.length) :
  ∃ va vc, CM M sb (so + k * 1) (.slice va bs[k].length vc) ∧ bs[k].length ≤ vc ∧ SM M va (wAj bs[k]) := by
 have hk2 : k < ps.length := by rw [← hp, List.length_map] at hk; exact hk
 have hxk : bs[k] = ps[k].1 := by simp [← hp]
 obtain ⟨va, vc, hv, hc, hs⟩ := hb ps[k] (List.getElem_mem hk2)
 rw [← hxk] at hv hc hs
 refine ⟨va, vc, ?_, hc, hs⟩
 rw [Nat.mul_one]
 exact hx k _ (by rw [List.getElem?_map, List.getElem?_eq_getElem hk2, Option.map_some, hv])
theorem wKv {M : Mem} {sb so : Nat} {ws : List Wt} {ps : List (Wt × Value)} (hx : ∀ i u, (ps.flatMap wCv)[i]? = some u → CM M sb (so + i) u) (hp : ps.map (·.1) = ws) (hb : ∀ p ∈ ps, BS M p.2 p.1.2) {k : Nat} (hk : k < ws.length) :
  ∃ va vc, (∀ i v, (wtc ws[k] va vc)[i]? = some v → CM M sb (so + k * 2 + i) v) ∧ ws[k].2.length ≤ vc ∧ SM M va (wAj ws[k].2) := by
 have hk2 : k < ps.length := by rw [← hp, List.length_map] at hk; exact hk
 have hxk : ws[k] = ps[k].1 := by simp [← hp]
 obtain ⟨va, vc, hv, hc, hs⟩ := hb ps[k] (List.getElem_mem hk2)
 rw [← hxk] at hv hc hs
 refine ⟨va, vc, fun i v hv' => wKo wCv 2 wDn hx (show ps[k]? = some ps[k] by simp [hk2]) i v ?_, hc, hs⟩
 rw [← hv']
 unfold wCv wtc
 rw [← hxk, hv]
def dkOk (bs : List (List By)) (ws : List Wt) : Prop := bs.length = 256 ∧ ws.length ≤ 4096 ∧ (∀ b ∈ bs, b.length = 128) ∧ ∀ w ∈ ws, 0 ≤ w.1 ∧ w.1 < 256 ∧ w.2.length = 128
instance (bs : List (List By)) (ws : List Wt) : Decidable (dkOk bs ws) := by unfold dkOk; exact inferInstance
def dkChk (bs : List (List By)) (ws : List Wt) : Int := if dkOk bs ws then 0 else 8
theorem wJp {α : Type} {p : α → Prop} {xs : List α} {k : Nat} (hk : k < xs.length) (h : ∀ x ∈ xs.take k, p x) (h1 : p xs[k]) : ∀ x ∈ xs.take (k + 1), p x := by
 rw [List.take_succ_eq_append_getElem hk]
 intro x hx
 rcases List.mem_append.1 hx with hx | hx
 ·exact h x hx
 rw [List.mem_singleton.1 hx]; exact h1
set_option maxHeartbeats 1000000 in
theorem dcheck_walk (bs : List (List By)) (ws : List Wt) (a1 : Option Addr) (c1 : Nat) (ps1 : List (List By × Value)) (a2 : Option Addr) (c2 : Nat) (ps2 : List (Wt × Value)) (M : Mem) (hc1 : bs.length ≤ c1) (hs1 : SM M a1 (ps1.map (·.2))) (hp1 : ps1.map (·.1) = bs) (hb1 : ∀ p ∈ ps1, BS M p.2 p.1) (hc2 : ws.length ≤ c2) (hs2 : SM M a2 (ps2.flatMap wCv)) (hp2 : ps2.map (·.1) = ws) (hb2 : ∀ p ∈ ps2, BS M p.2 p.1.2) :
  SpecL Tryz.prog 78 #[.agg #[.slice a1 bs.length c1, .slice a2 ws.length c2]] M [] fun v _ _ => v = .int .i64 (dkChk bs ws) := by
 refine wAf (vs := [_]) 50 _ Tryz.func78 rfl Tryz.ntmps78 rfl rfl ?_; intro W
 refine wAb (wAa (wAy rfl rfl (wCm (cs := [_, _]) rfl rfl rfl rfl) ?_)); rintro _ _ _ ⟨b1, rfl, rfl, rfl⟩
 refine jp rfl (wAc (jT (wAb (wAb (wAa (sFL rfl rfl ?_))))))
 refine wAi rfl rfl (wBj rfl rfl rfl) ?_
 refine js rfl (fun h10 => ?_) (fun h10 => ?_)
 ·refine jp rfl (jp rfl (jp rfl (jp rfl (jp rfl (jp rfl (wAc (jT (wAg rfl (wAb (wAa (jp rfl (wAc (jT (wAe (jTr (jr1 rfl rfl ?_))))))))))))))))
  exact congrArg _ (Eq.symm (if_neg (fun ⟨q1, q2, q3, q4⟩ => by omega)))
 refine jp rfl (sFL rfl rfl ?_)
 refine wAi rfl rfl (wBj rfl rfl rfl) ?_
 refine js rfl (fun h15 => ?_) (fun h15 => ?_)
 ·refine jp rfl (wAc (jT (wAg rfl (wAb (wAa (jp rfl (wAc (jT (wAe (jTr (jr1 rfl rfl ?_)))))))))))
  exact congrArg _ (Eq.symm (if_neg (fun ⟨q1, q2, q3, q4⟩ => by omega)))
 refine jp rfl (wAc (jT (wAk rfl (wAd (jT (wAb (wAb (wAa (sFL rfl rfl ?_)))))))))
 refine wAi rfl rfl (wBj rfl rfl rfl) ?_
 refine jp rfl (wAc (jT (wAh ?_)))
 refine wAv (α := Nat) (fun k => [(1, .pointer (some ⟨b1, 0, none⟩)), (18, .slice a1 bs.length c1), (19, .int .i64 bs.length), (20, .int .i64 k)]) (fun _ => M) (fun _ => [(b1, .cells [.slice a1 bs.length c1, .slice a2 ws.length c2].toArray 25 (0, 0))]) (fun k => k ≤ bs.length ∧ ∀ b ∈ bs.take k, b.length = 128) (fun k => bs.length - k)
  0 (.cons (t := 1) rfl (.cons (t := 18) rfl (.cons (t := 19) rfl (.cons (t := 20) rfl .nil)))) ⟨Nat.zero_le _, fun _ h => by cases h⟩ (fun _ h => h) ?_
 rintro k ⟨hk, hI⟩
 try dsimp only at hk hI ⊢
 refine wAb (wAa (js rfl (fun h21 => ?_) (fun h21 => ?_)))
 ·refine wAc (jT (wAb (wAg rfl (wAd (jT (wAb (wAh (wAb (wAa ?_)))))))))
  have hk1 : k < bs.length := by omega
  obtain ⟨sb, so, e0, hx⟩ := hs1.open (by intro e; have := congrArg List.length e; rw [List.length_map, List.length_nil] at this; have h2 := congrArg List.length hp1; rw [List.length_map] at h2; omega)
  subst e0
  obtain ⟨va, vc, hcl, hvc, hvs⟩ := wEy hx hp1 hb1 hk1
  refine wAi rfl rfl (wBe rfl rfl rfl rfl (by omega)) ?_
  refine wAi rfl rfl (qLd rfl rfl rfl rfl (hcl.cj _)) ?_
  refine jp rfl (wAc (jT (wAb (wAa (jp rfl (wAi rfl rfl (wBj rfl rfl rfl) ?_))))))
  refine js rfl (fun h26 => ?_) (fun h26 => ?_)
  ·refine wAc (jT (wAg rfl (wAb (wAa (jp rfl (wAc (jT (wAe (jBr (jTr (jTr (jBr (jTr (jr1 rfl rfl ?_))))))))))))))
   exact congrArg _ (Eq.symm (if_neg (fun ⟨q1, q2, q3, q4⟩ => by have := q3 bs[k] (List.getElem_mem _); omega)))
  refine wAc (jT (wAk rfl (wAd (jB (jT (wAa (ja rfl (by omega) ?_)))))))
  refine jp rfl (wAc ?_)
  refine wAp (k + 1) (.cons (t := 1) rfl (.cons (t := 18) rfl (.cons (t := 19) rfl (.cons (t := 20) rfl .nil)))) ⟨by omega, wJp hk1 hI (by omega)⟩ (by omega) (fun _ h => h.fewer (by simp))
 refine wAc (jT (wAb (wAk rfl (wAw (jTx (jTx (jBx (jT (wAb (wAb (wAa (sFL rfl rfl ?_))))))))))))
 refine wAi rfl rfl (wBj rfl rfl rfl) ?_
 refine jp rfl (wAc (jT (wAh ?_)))
 obtain rfl : k = bs.length := by omega
 rw [List.take_length] at hI
 have hB := hI; clear hI
 refine wAv (α := Nat) (fun k => [(1, .pointer (some ⟨b1, 0, none⟩)), (29, .slice a2 ws.length c2), (30, .int .i64 ws.length), (31, .int .i64 k)]) (fun _ => M) (fun _ => [(b1, .cells [.slice a1 bs.length c1, .slice a2 ws.length c2].toArray 25 (0, 0))]) (fun k => k ≤ ws.length ∧ ∀ w ∈ ws.take k, 0 ≤ w.1 ∧ w.1 < 256 ∧ w.2.length = 128) (fun k => ws.length - k)
  0 (.cons (t := 1) rfl (.cons (t := 29) rfl (.cons (t := 30) rfl (.cons (t := 31) rfl .nil)))) ⟨Nat.zero_le _, fun _ h => by cases h⟩ (fun _ h => h) ?_
 rintro k ⟨hk, hI⟩
 try dsimp only at hk hI ⊢
 refine wAb (wAa (js rfl (fun h32 => ?_) (fun h32 => ?_)))
 ·refine wAc (jT (wAb (wAg rfl (wAd (jT (wAb (wAh (wAb (wAa ?_)))))))))
  have hk1 : k < ws.length := by omega
  obtain ⟨sb, so, e0, hx⟩ := hs2.open (by intro e; have := congrArg List.length e; rw [wBi wCv 2 wDn, List.length_nil] at this; have h2 := congrArg List.length hp2; rw [List.length_map] at h2; omega)
  subst e0
  obtain ⟨va, vc, hcl, hvc, hvs⟩ := wKv hx hp2 hb2 hk1
  refine wAi rfl rfl (wBe rfl rfl rfl rfl (by omega)) ?_
  refine wAi rfl rfl (wGx (cs := wtc ws[k] va vc) rfl rfl rfl rfl rfl (fun i v hv => (hcl i v hv).cj _)) ?_
  refine sAl rfl fun b6 => ?_
  refine sSt rfl ?_
  refine wAc (jT (wAb (wAa (sFL rfl rfl ?_))))
  refine js rfl (fun h37 => ?_) (fun h37 => ?_)
  ·iterate 11 refine jp rfl ?_
   refine wAc (jT (wAg rfl (wAb (wAa (jp rfl (wAc (jT (wAe (jBr (jTr (jTr (jBr (jTr (jr1 rfl rfl ?_))))))))))))))
   exact congrArg _ (Eq.symm (if_neg (fun ⟨q1, q2, q3, q4⟩ => by have := q4 ws[k] (List.getElem_mem _); omega)))
  refine jp rfl (sFL rfl rfl ?_)
  refine js rfl (fun h41 => ?_) (fun h41 => ?_)
  ·iterate 7 refine jp rfl ?_
   refine wAc (jT (wAg rfl (wAb (wAa (jp rfl (wAc (jT (wAe (jBr (jTr (jTr (jBr (jTr (jr1 rfl rfl ?_))))))))))))))
   exact congrArg _ (Eq.symm (if_neg (fun ⟨q1, q2, q3, q4⟩ => by have := q4 ws[k] (List.getElem_mem _); omega)))
  refine jp rfl (jp rfl (sFL rfl rfl ?_))
  refine wAi rfl rfl (wBj rfl rfl rfl) ?_
  refine js rfl (fun h47 => ?_) (fun h47 => ?_)
  ·refine jp rfl (wAc (jT (wAg rfl (wAb (wAa (jp rfl (wAc (jT (wAe (jBr (jTr (jTr (jBr (jTr (jr1 rfl rfl ?_)))))))))))))))
   exact congrArg _ (Eq.symm (if_neg (fun ⟨q1, q2, q3, q4⟩ => by have := q4 ws[k] (List.getElem_mem _); omega)))
  refine jp rfl (wAc (jT (wAk rfl (wAd (jB (jT (wAa (ja rfl (by omega) ?_))))))))
  refine jp rfl (wAc ?_)
  refine wAp (k + 1) (.cons (t := 1) rfl (.cons (t := 29) rfl (.cons (t := 30) rfl (.cons (t := 31) rfl .nil)))) ⟨by omega, wJp hk1 hI ⟨by omega, by omega, by omega⟩⟩ (by omega) (fun _ h => h.fewer (by simp))
 refine wAc (jT (wAb (wAk rfl (wAw (jTx (jTx (jBx (jT (wAb (wAa (jp rfl (wAc (jT (wAe (jr1 rfl rfl ?_)))))))))))))))
 obtain rfl : k = ws.length := by omega
 rw [List.take_length] at hI
 exact congrArg _ (Eq.symm (if_pos ⟨by omega, by omega, hB, hI⟩))
theorem dcheck_spec (bs : List (List By)) (ws : List Wt) (u v : Value) (M : Mem) (h1 : LS M u bs) (h2 : WS M v ws) : SpecL Tryz.prog 78 #[.agg #[u, v]] M [] fun v _ _ => v = .int .i64 (dkChk bs ws) := by
 obtain ⟨a1, c1, ps1, rfl, hc1, hs1, hp1, hb1⟩ := h1
 obtain ⟨a2, c2, ps2, rfl, hc2, hs2, hp2, hb2⟩ := h2
 exact dcheck_walk bs ws a1 c1 ps1 a2 c2 ps2 M hc1 hs1 hp1 hb1 hc2 hs2 hp2 hb2
def ctOk (xs : List By) : Prop := xs.length = 256 ∧ wDq (xs.take 8) = true
instance (xs : List By) : Decidable (ctOk xs) := by unfold ctOk; exact inferInstance
def ctChk (xs : List By) : Int := if ctOk xs then 0 else 8
theorem ccheck_walk (xs : List By) (a : Option Addr) (c : Nat) (M : Mem) (hc : xs.length ≤ c) (hs : SM M a (wAj xs)) :
  SpecL Tryz.prog 79 #[.slice a xs.length c] M [] fun v _ _ => v = .int .i64 (ctChk xs) := by
 refine wAf (vs := [_]) 12 _ Tryz.func79 rfl Tryz.ntmps79 rfl rfl ?_; intro W
 refine wAb (wAa (jp rfl (wAc (jT (wAb (wAb (wAa (jp rfl (wAi rfl rfl (wBj rfl rfl rfl) ?_)))))))))
 refine js rfl (fun h5 => ?_) (fun h5 => ?_)
 ·refine jp rfl (jp rfl (jp rfl (jp rfl (jp rfl (jp rfl (wAc (jT (wAg rfl (wAb (wAa (jp rfl (wAc (jT (wAe (jTr (jr1 rfl rfl ?_))))))))))))))))
  exact congrArg _ (Eq.symm (if_neg (fun ⟨q1, q2⟩ => by omega)))
 refine jp rfl (jp rfl ?_)
 have hl8 : (xs.take 8).length = 8 := by rw [List.length_take]; omega
 refine wAi rfl rfl (qEq (qSl rfl rfl rfl (.no _) (.of (v := 8) rfl (by omega) rfl) (.no _) (by omega) (by simp)) (v' := .slice a (xs.take 8).length c) (by rw [hl8, wCx]; rfl)) ?_
 refine wAi rfl rfl (wBr rfl rfl rfl rfl rfl (by kernel_rfl) (max_spec a c (xs.take 8) M (by have := hs.part (l := 0) (m := c) (s := 1) (by omega) 8; rw [wCx] at this; simpa [wAj, List.map_take] using this) (by omega) (by omega))) ?_
 refine js rfl (fun h10 => ?_) (fun h10 => ?_)
 ·refine jp rfl (wAc (jT (wAg rfl (wAb (wAa (jp rfl (wAc (jT (wAe (jTr (jr1 rfl rfl ?_)))))))))))
  exact congrArg _ (Eq.symm (if_neg (fun ⟨q1, q2⟩ => by have := mxB_pos (xs := xs.take 8) (by omega); rw [q2, decide_eq_true h10] at this; cases this)))
 refine jp rfl (wAc (jT (wAk rfl (wAd (jT (wAb (wAa (jp rfl (wAc (jT (wAe (jr1 rfl rfl ?_))))))))))))
 exact congrArg _ (Eq.symm (if_pos ⟨by omega, by have := mxB_pos (xs := xs.take 8) (by omega); rw [decide_eq_false h10] at this; cases hn : wDq (xs.take 8) <;> simp_all⟩))
theorem ccheck_spec (xs : List By) (v : Value) (M : Mem) (h : BS M v xs) : SpecL Tryz.prog 79 #[v] M [] fun v _ _ => v = .int .i64 (ctChk xs) := by
 obtain ⟨a, c, rfl, hc, hs⟩ := h
 exact ccheck_walk xs a c M hc hs
structure ST (M : Mem) (v : Value) (s : Sto) : Prop where
 ex : ∃ b w n l, v = .agg #[b, w, n, l] ∧ LS M b s.blocks ∧ WS M w s.waits ∧ BS M n s.now ∧ BS M l s.last
theorem ST.mono {M M' : Mem} {v : Value} {s : Sto} (h : ST M v s) (hM : MLe M M') : ST M' v s := by
 obtain ⟨b, w, n, l, h1, h2, h3, h4, h5⟩ := h.ex; exact ⟨b, w, n, l, h1, h2.mono hM, h3.mono hM, h4.mono hM, h5.mono hM⟩
def wCc (s : Sto) : Prop := dkOk s.blocks s.waits ∧ ctOk s.now ∧ ctOk s.last
instance (s : Sto) : Decidable (wCc s) := by unfold wCc; exact inferInstance
def stChk (s : Sto) : Int := if wCc s then 0 else 8
theorem dk_not {bs : List (List By)} {ws : List Wt} (h : dkChk bs ws ≠ 0) : ¬ dkOk bs ws := fun k => h (if_pos k)
theorem ct_not {xs : List By} (h : ctChk xs ≠ 0) : ¬ ctOk xs := fun k => h (if_pos k)
theorem dk_is {bs : List (List By)} {ws : List Wt} (h : ¬ dkChk bs ws ≠ 0) : dkOk bs ws := Classical.byContradiction fun k => h (by unfold dkChk; rw [if_neg k]; decide)
theorem ct_is {xs : List By} (h : ¬ ctChk xs ≠ 0) : ctOk xs := Classical.byContradiction fun k => h (by unfold ctChk; rw [if_neg k]; decide)
theorem rcheck_walk (s : Sto) (b w n l : Value) (M : Mem) (h1 : LS M b s.blocks) (h2 : WS M w s.waits) (h3 : BS M n s.now) (h4 : BS M l s.last) :
  SpecL Tryz.prog 54 #[.agg #[b, w, n, l]] M [] fun v _ _ => v = .int .i64 (stChk s) := by
 refine wAf (vs := [_]) 19 _ Tryz.func54 rfl Tryz.ntmps54 rfl rfl ?_; intro W
 refine wAb (wAa (wAy rfl rfl (wCm (cs := [_, _, _, _]) rfl rfl rfl rfl) ?_)); rintro _ _ _ ⟨b1, rfl, rfl, rfl⟩
 refine jp rfl (wAc (jT (wAb (wAb (wAa (sFa rfl ?_))))))
 refine sLL rfl ?_
 refine wAi rfl rfl (wBr rfl rfl rfl rfl rfl (by kernel_rfl) (dcheck_spec s.blocks s.waits b w M h1 h2)) ?_
 refine js rfl (fun h6 => ?_) (fun h6 => ?_)
 ·iterate 12 refine jp rfl ?_
  refine wAc (jT (wAg rfl (wAb (wAa (jp rfl (wAc (jT (wAe (jTr (jr1 rfl rfl ?_))))))))))
  exact congrArg _ (Eq.symm (if_neg (fun q => dk_not h6 q.1)))
 refine jp rfl (sFL rfl rfl ?_)
 refine wAi rfl rfl (wBr rfl rfl rfl rfl rfl (by kernel_rfl) (ccheck_spec s.now n M h3)) ?_
 refine js rfl (fun h11 => ?_) (fun h11 => ?_)
 ·iterate 7 refine jp rfl ?_
  refine wAc (jT (wAg rfl (wAb (wAa (jp rfl (wAc (jT (wAe (jTr (jr1 rfl rfl ?_))))))))))
  exact congrArg _ (Eq.symm (if_neg (fun q => ct_not h11 q.2.1)))
 refine jp rfl (jp rfl (sFL rfl rfl ?_))
 refine wAi rfl rfl (wBr rfl rfl rfl rfl rfl (by kernel_rfl) (ccheck_spec s.last l M h4)) ?_
 refine js rfl (fun h17 => ?_) (fun h17 => ?_)
 ·refine jp rfl (wAc (jT (wAg rfl (wAb (wAa (jp rfl (wAc (jT (wAe (jTr (jr1 rfl rfl ?_)))))))))))
  exact congrArg _ (Eq.symm (if_neg (fun q => ct_not h17 q.2.2)))
 refine jp rfl (wAc (jT (wAk rfl (wAd (jT (wAb (wAa (jp rfl (wAc (jT (wAe (jr1 rfl rfl ?_))))))))))))
 exact congrArg _ (Eq.symm (if_pos ⟨dk_is h6, ct_is h11, ct_is h17⟩))
theorem rcheck_spec (s : Sto) (v : Value) (M : Mem) (h : ST M v s) : SpecL Tryz.prog 54 #[v] M [] fun v _ _ => v = .int .i64 (stChk s) := by
 obtain ⟨b, w, n, l, rfl, h1, h2, h3, h4⟩ := h.ex
 exact rcheck_walk s b w n l M h1 h2 h3 h4
end Go.Proofs.YtkcpllhggofloaaGreat
