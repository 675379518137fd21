/- THE WALKING LAYER, one part more: parts of rows cleared, appended in place. No statement of the seat is proved here. -/
import Derived.Test.YtkcpllhggofloaaGreatZLfd
import Derived.Test.YtkcpllhggofloaaGreatZPut
import Derived.Test.YtkcpllhggofloaaGreatZTree
namespace Go.Proofs.YtkcpllhggofloaaGreat
set_option linter.unusedSimpArgs false
set_option linter.unusedVariables false
set_option linter.unusedSectionVars false
open Go.RowKit
theorem wLm {now n : List By} {k : Nat} (h : lessT now k = some n) : n.length = now.length := by
 unfold lessT at h
 split at h
 ·cases h
 cases h; rw [List.length_set]
theorem leftG_len {sub : List By → Int → Option (List By)} {lv : Int} (hsub : ∀ n r n', sub n r = some n' → n'.length = n.length) : ∀ (xs : List It) (now n : List By), wEo sub lv xs now = some n → n.length = now.length
 | [], now, n, h => by rw [wEo] at h; cases h; rfl
 | x :: xs, now, n, h => by
  rw [wEo] at h
  split at h
  ·exact leftG_len hsub xs _ _ h
  split at h
  ·cases h
  rename_i m hm
  have h2 := leftG_len hsub xs _ _ h
  split at hm
  ·rw [h2, wLm hm]
  rw [h2, hsub _ _ _ hm]
theorem leftF_len {s : Sto} : ∀ (f : Nat) (now : List By) (k l : Int) (n : List By), wCy s f now k l = some n → n.length = now.length
 | 0, _, _, _, _, h => by rw [wCy] at h; cases h
 | f + 1, now, k, l, n, h => by
  rw [wCy] at h
  cases hl : lessT now k.toNat with
  | none => rw [hl] at h; cases h
  | some out =>
   rw [hl] at h
   change (if _ then some _ else _) = _ at h
   have h1 := wLm hl
   split at h
   ·cases h; exact h1
   split at h
   ·cases h
   split at h
   ·cases h
   rw [leftG_len (fun n r n' hn => leftF_len f n r _ n' hn) _ _ _ h, h1]
theorem LsP.form {r : Option (List By)} {u : Value} {M' : Mem} (h : LsP r u M') : ∃ b a n c, u = .tuple #[.slice a n c, .bool b] ∧ ((b = true ∧ ∃ t : List By, r = some t ∧ n = t.length ∧ t.length ≤ c ∧ SM M' a (wAj t)) ∨ (b = false ∧ r = none ∧ a = none ∧ n = 0 ∧ c = 0)) := by
 cases r with
 | none => exact ⟨false, none, 0, 0, h, .inr ⟨rfl, rfl, rfl, rfl, rfl⟩⟩
 | some t => obtain ⟨a, c, e, h1, h2⟩ := h; exact ⟨true, a, _, c, e, .inl ⟨rfl, t, rfl, rfl, h1, h2⟩⟩
theorem leftF_zero {s : Sto} {f : Nat} {now : List By} {k l : Int} (h : now.getD k.toNat 0 = 0) : wCy s (f + 1) now k l = none := by rw [wCy, wFo h]
theorem leftF_more {s : Sto} {f : Nat} {now : List By} {k l : Int} (h : ¬ now.getD k.toNat 0 = 0) (h1 : now.getD k.toNat 0 ≠ 1) : wCy s (f + 1) now k l = some (now.set k.toNat (now.getD k.toNat 0 - 1)) := by
 rw [wCy, wDt h]; exact if_pos h1
theorem leftF_none {s : Sto} {f : Nat} {now : List By} {k l : Int} (h : now.getD k.toNat 0 = 1) (hnd : wBk s k.toNat = none) : wCy s (f + 1) now k l = none := by
 rw [wCy, wDt (by rw [h]; decide), hnd]; exact if_neg (by simpa using h)
theorem leftF_some {s : Sto} {f : Nat} {now : List By} {k l lv : Int} {xs : List It} (h : now.getD k.toNat 0 = 1) (hnd : wBk s k.toNat = some (lv, xs)) : wCy s (f + 1) now k l = if 0 ≤ l ∧ lv ≠ l then none else wEo (fun n r => wCy s f n r (lv - 1)) lv xs (now.set k.toNat (now.getD k.toNat 0 - 1)) := by
 rw [wCy, wDt (by rw [h]; decide), hnd]; exact if_neg (by simpa using h)
theorem wEa {sub : List By → Int → Option (List By)} {lv : Int} {xs : List It} {k : Nat} (hk : k < xs.length) (now : List By) : wEo sub lv (xs.drop k) now = if xs[k].ref = 0 then wEo sub lv (xs.drop (k + 1)) now else match (if lv = 0 then lessT now xs[k].ref.toNat else sub now xs[k].ref) with | none => none | some n => wEo sub lv (xs.drop (k + 1)) n := by
 rw [List.drop_eq_getElem_cons hk, wEo]; rfl
def LfS (s : Sto) (f : Nat) : Prop := ∀ (now : List By) (u nv : Value) (M : Mem) (k l : Int), ST M u s → BS M nv now → now.length = 256 → 0 ≤ k ∧ k < 256 → -1 ≤ l ∧ l < 6 → Fl f l → SpecL Tryz.prog 77 #[u, nv, .int .i64 k, .int .i64 l] M [] fun u M' L' => LsP (wCy s f now k l) u M' ∧ L' = []
theorem rleft_zero (s : Sto) (hst : wCc s) (bv wv nv lv0 : Value) (M : Mem) (hS : ST M (.agg #[bv, wv, nv, lv0]) s) (now : List By) (ta : Option Addr) (tc : Nat) (htc : now.length ≤ tc) (ht : SM M ta (wAj now)) (hnl : now.length = 256) (k : Int) (hk : 0 ≤ k ∧ k < 256) (l : Int) (hl : -1 ≤ l ∧ l < 6) (f : Nat) (hz : now.getD k.toNat 0 = 0) :
  SpecL Tryz.prog 77 #[.agg #[bv, wv, nv, lv0], .slice ta now.length tc, .int .i64 k, .int .i64 l] M [] fun u M' L' => LsP (wCy s (f + 1) now k l) u M' ∧ L' = [] := by
 obtain ⟨tb, to, e0, hcl⟩ := wCw ht (k := k.toNat) (by omega)
 rw [show ((k.toNat : Nat) : Int) = k by omega] at hcl
 have hgd := wCp (xs := now) (k := k.toNat) (by omega) 0
 refine wAf (vs := [_, _, _, _]) 92 _ Tryz.func77 rfl Tryz.ntmps77 rfl rfl ?_; intro W
 refine wAb (wAa (wAy rfl rfl (wCm (cs := [_, _, _, _]) rfl rfl rfl rfl) ?_)); rintro _ _ _ ⟨b4, rfl, rfl, rfl⟩
 refine jp rfl (jp rfl (wAc (jT (wAb (wAa (jp rfl (jp rfl ?_)))))))
 refine wAy rfl rfl (wAu rfl rfl rfl rfl rfl (by kernel_rfl) (by have h1 := wFj now ta tc M ht htc k (by omega) (by omega); rw [wFo hz] at h1; exact h1)) ?_; rintro _ M1 _ ⟨hM1, _, rfl, ⟨hls, rfl⟩⟩
 simp only [nA]
 have hls2 : _ = Value.tuple #[.slice none 0 0, .bool false] := hls
 subst hls2
 refine jp rfl (jp rfl (jp rfl (jp rfl (jp rfl (wAc (jT (wAb (wAb (wAa ?_)))))))))
 iterate 9 refine jp rfl ?_
 refine wAc (jT (wAg rfl (wAb (wAa (jp rfl (jp rfl (jp rfl (jp rfl (wAc (jT (wAe (jTr (wAr (L' := []) (List.nil_sublist _) ?_)))))))))))))
 refine jr2 rfl rfl rfl ?_
 exact ⟨by rw [leftF_zero hz]; rfl, rfl⟩
theorem rleft_more (s : Sto) (hst : wCc s) (bv wv nv lv0 : Value) (M : Mem) (hS : ST M (.agg #[bv, wv, nv, lv0]) s) (now : List By) (ta : Option Addr) (tc : Nat) (htc : now.length ≤ tc) (ht : SM M ta (wAj now)) (hnl : now.length = 256) (k : Int) (hk : 0 ≤ k ∧ k < 256) (l : Int) (hl : -1 ≤ l ∧ l < 6) (f : Nat) (hz : ¬ now.getD k.toNat 0 = 0) (h1 : now.getD k.toNat 0 ≠ 1) :
  SpecL Tryz.prog 77 #[.agg #[bv, wv, nv, lv0], .slice ta now.length tc, .int .i64 k, .int .i64 l] M [] fun u M' L' => LsP (wCy s (f + 1) now k l) u M' ∧ L' = [] := by
 obtain ⟨tb, to, e0, hcl⟩ := wCw ht (k := k.toNat) (by omega)
 rw [show ((k.toNat : Nat) : Int) = k by omega] at hcl
 have hgd := wCp (xs := now) (k := k.toNat) (by omega) 0
 have hgt : (1 : Int) < (now[k.toNat].toNat : Int) := by
  rw [hgd] at hz h1
  have a0 : now[k.toNat].toNat ≠ 0 := fun e => hz (UInt8.toNat.inj e)
  have a1 : now[k.toNat].toNat ≠ 1 := fun e => h1 (UInt8.toNat.inj e)
  omega
 refine wAf (vs := [_, _, _, _]) 92 _ Tryz.func77 rfl Tryz.ntmps77 rfl rfl ?_; intro W
 refine wAb (wAa (wAy rfl rfl (wCm (cs := [_, _, _, _]) rfl rfl rfl rfl) ?_)); rintro _ _ _ ⟨b4, rfl, rfl, rfl⟩
 refine jp rfl (jp rfl (wAc (jT (wAb (wAa (jp rfl (jp rfl ?_)))))))
 refine wAy rfl rfl (wAu rfl rfl rfl rfl rfl (by kernel_rfl) (by have h1 := wFj now ta tc M ht htc k (by omega) (by omega); rw [wDt hz] at h1; exact h1)) ?_; rintro _ M1 _ ⟨hM1, _, rfl, ⟨hls, rfl⟩⟩
 simp only [nA]
 obtain ⟨la, lc, rfl, hlc, hls2⟩ := id (show LsP (some _) _ M1 from hls)
 refine jp rfl (jp rfl (jp rfl (jp rfl (jp rfl (wAc (jT (wAb (wAb (wAa (jp rfl (jp rfl (jp rfl (jp rfl (jp rfl (wAi rfl rfl (wCe rfl rfl rfl rfl e0 (by omega)) ?_)))))))))))))))
 refine wAi rfl rfl (qLd rfl rfl rfl rfl ((hcl.mono hM1).cj _)) ?_
 refine jt rfl (decide_eq_true (by omega)) ?_
 refine jp rfl (wAc (jT (wAg rfl (wAb (wAa (jp rfl (jp rfl (jp rfl (jp rfl (wAc (jT (wAe (jTr (wAr (L' := []) (List.nil_sublist _) ?_))))))))))))))
 refine jr2 rfl rfl rfl ?_
 exact ⟨by rw [leftF_more hz h1]; exact ⟨_, _, rfl, hlc, hls2⟩, rfl⟩
theorem rleft_none (s : Sto) (hst : wCc s) (bv wv nv lv0 : Value) (M : Mem) (hS : ST M (.agg #[bv, wv, nv, lv0]) s) (now : List By) (ta : Option Addr) (tc : Nat) (htc : now.length ≤ tc) (ht : SM M ta (wAj now)) (hnl : now.length = 256) (k : Int) (hk : 0 ≤ k ∧ k < 256) (l : Int) (hl : -1 ≤ l ∧ l < 6) (f : Nat) (h1 : now.getD k.toNat 0 = 1) (hnd : wBk s k.toNat = none) :
  SpecL Tryz.prog 77 #[.agg #[bv, wv, nv, lv0], .slice ta now.length tc, .int .i64 k, .int .i64 l] M [] fun u M' L' => LsP (wCy s (f + 1) now k l) u M' ∧ L' = [] := by
 obtain ⟨tb, to, e0, hcl⟩ := wCw ht (k := k.toNat) (by omega)
 rw [show ((k.toNat : Nat) : Int) = k by omega] at hcl
 have hgd := wCp (xs := now) (k := k.toNat) (by omega) 0
 have hz : ¬ now.getD k.toNat 0 = 0 := by rw [h1]; decide
 have hgt : (now[k.toNat].toNat : Int) = 1 := by rw [hgd] at h1; rw [h1]; rfl
 refine wAf (vs := [_, _, _, _]) 92 _ Tryz.func77 rfl Tryz.ntmps77 rfl rfl ?_; intro W
 refine wAb (wAa (wAy rfl rfl (wCm (cs := [_, _, _, _]) rfl rfl rfl rfl) ?_)); rintro _ _ _ ⟨b4, rfl, rfl, rfl⟩
 refine jp rfl (jp rfl (wAc (jT (wAb (wAa (jp rfl (jp rfl ?_)))))))
 refine wAy rfl rfl (wAu rfl rfl rfl rfl rfl (by kernel_rfl) (by have h1 := wFj now ta tc M ht htc k (by omega) (by omega); rw [wDt hz] at h1; exact h1)) ?_; rintro _ M1 _ ⟨hM1, _, rfl, ⟨hls, rfl⟩⟩
 simp only [nA]
 obtain ⟨la, lc, rfl, hlc, hls2⟩ := id (show LsP (some _) _ M1 from hls)
 refine jp rfl (jp rfl (jp rfl (jp rfl (jp rfl (wAc (jT (wAb (wAb (wAa (jp rfl (jp rfl (jp rfl (jp rfl (jp rfl (wAi rfl rfl (wCe rfl rfl rfl rfl e0 (by omega)) ?_)))))))))))))))
 refine wAi rfl rfl (qLd rfl rfl rfl rfl ((hcl.mono hM1).cj _)) ?_
 refine jf rfl (decide_eq_false (by omega)) ?_
 refine jp rfl (wAc (jT (wAk rfl (wAd (jT (wAb (wAa (sLL rfl ?_))))))))
 refine jp rfl (wAy rfl rfl (wAu rfl rfl rfl rfl rfl (by kernel_rfl) (rread8_no s _ M1 (hS.mono hM1) hst k (by omega) hnd)) ?_); rintro _ M2 _ ⟨hM2, _, rfl, ⟨⟨nl, na, nn, nc, rfl⟩, rfl⟩⟩
 simp only [nA]
 refine jp rfl (jp rfl (jp rfl (sAl rfl fun b12 => ?_)))
 refine sSt rfl ?_
 refine jp rfl (wAc (jT (wAb (wAb (wAa ?_)))))
 iterate 12 refine jp rfl ?_
 refine wAc (jT (wAg rfl (wAb (wAa (jp rfl (jp rfl (wAc (jT (wAe (jTr (wAr (L' := []) (List.nil_sublist _) ?_)))))))))))
 refine jr2 rfl rfl rfl ?_
 exact ⟨by rw [leftF_none h1 hnd]; rfl, rfl⟩
set_option maxHeartbeats 4000000 in
theorem rleft_some (s : Sto) (hst : wCc s) (bv wv nv lv0 : Value) (M : Mem) (hS : ST M (.agg #[bv, wv, nv, lv0]) s) (now : List By) (ta : Option Addr) (tc : Nat) (htc : now.length ≤ tc) (ht : SM M ta (wAj now)) (hnl : now.length = 256) (k : Int) (hk : 0 ≤ k ∧ k < 256) (l : Int) (hl : -1 ≤ l ∧ l < 6) (f : Nat) (hfl : Fl (f + 1) l) (ih : LfS s f) (h1 : now.getD k.toNat 0 = 1) (lv : Int) (xs : List It) (hnd : wBk s k.toNat = some (lv, xs)) :
  SpecL Tryz.prog 77 #[.agg #[bv, wv, nv, lv0], .slice ta now.length tc, .int .i64 k, .int .i64 l] M [] fun u M' L' => LsP (wCy s (f + 1) now k l) u M' ∧ L' = [] := by
 obtain ⟨tb, to, e0, hcl⟩ := wCw ht (k := k.toNat) (by omega)
 rw [show ((k.toNat : Nat) : Int) = k by omega] at hcl
 have hgd := wCp (xs := now) (k := k.toNat) (by omega) 0
 have hz : ¬ now.getD k.toNat 0 = 0 := by rw [h1]; decide
 have hgt : (now[k.toNat].toNat : Int) = 1 := by rw [hgd] at h1; rw [h1]; rfl
 have hno := wBo hnd
 have hx5 := hno.len
 have hlv := hno.lev
 obtain ⟨out, hout⟩ : ∃ o, o = now.set k.toNat (now.getD k.toNat 0 - 1) := ⟨_, rfl⟩
 have hol : out.length = 256 := by rw [hout, List.length_set]; exact hnl
 refine wAf (vs := [_, _, _, _]) 92 _ Tryz.func77 rfl Tryz.ntmps77 rfl rfl ?_; intro W
 refine wAb (wAa (wAy rfl rfl (wCm (cs := [_, _, _, _]) rfl rfl rfl rfl) ?_)); rintro _ _ _ ⟨b4, rfl, rfl, rfl⟩
 refine jp rfl (jp rfl (wAc (jT (wAb (wAa (jp rfl (jp rfl ?_)))))))
 refine wAy rfl rfl (wAu rfl rfl rfl rfl rfl (by kernel_rfl) (by have h1 := wFj now ta tc M ht htc k (by omega) (by omega); rw [wDt hz, ← hout] at h1; exact h1)) ?_; rintro _ M1 _ ⟨hM1, _, rfl, ⟨hls, rfl⟩⟩
 simp only [nA]
 obtain ⟨la, lc, rfl, hlc, hls2⟩ := id (show LsP (some _) _ M1 from hls)
 refine jp rfl (jp rfl (jp rfl (jp rfl (jp rfl (wAc (jT (wAb (wAb (wAa (jp rfl (jp rfl (jp rfl (jp rfl (jp rfl (wAi rfl rfl (wCe rfl rfl rfl rfl e0 (by omega)) ?_)))))))))))))))
 refine wAi rfl rfl (qLd rfl rfl rfl rfl ((hcl.mono hM1).cj _)) ?_
 refine jf rfl (decide_eq_false (by omega)) ?_
 refine jp rfl (wAc (jT (wAk rfl (wAd (jT (wAb (wAa (sLL rfl ?_))))))))
 refine jp rfl (wAy rfl rfl (wAu rfl rfl rfl rfl rfl (by kernel_rfl) (wDk s _ M1 (hS.mono hM1) hst k (by omega) hnd)) ?_); rintro _ M2 _ ⟨hM2, _, rfl, ⟨⟨a, c, ps, rfl, hc, hs, hp, hb⟩, rfl⟩⟩
 simp only [nA]
 refine jp rfl (jp rfl (jp rfl (sAl rfl fun b12 => ?_)))
 refine sSt rfl ?_
 refine jp rfl (wAc (jT (wAb (wAb (wAa (jp rfl (jp rfl (jp rfl (jp rfl (js rfl (fun h43 => ?_) (fun h43 => ?_)))))))))))
 ·refine jp rfl (sFL rfl rfl ?_)
  refine jp rfl (js rfl (fun h48 => ?_) (fun h48 => ?_))
  ·refine jp rfl (jp rfl (wAc (jT (wAg rfl (wAb (wAa (jp rfl (jp rfl (wAc (jT (wAe (jTr (wAr (L' := []) (List.nil_sublist _) ?_)))))))))))))
   refine jr2 rfl rfl rfl ?_
   exact ⟨by rw [leftF_some h1 hnd, if_pos (by omega)]; rfl, rfl⟩
  refine jp rfl (jp rfl (wAc (jT (wAk rfl (wAd (jT (wAb (wAb (wAa (jp rfl (wAc (jT (wAh ?_)))))))))))))
  have hbad : ¬ (0 ≤ l ∧ lv ≠ l) := by omega
  have hgoal : wCy s (f + 1) now k l = wEo (fun n r => wCy s f n r (lv - 1)) lv xs out := by rw [leftF_some h1 hnd, if_neg hbad, ← hout]
  refine wAv (α := Nat × Mem × Bool × Option Addr × Nat × Nat × List By) (fun z => [(4, .pointer (some ⟨b4, 0, none⟩)), (10, .slice z.2.2.2.1 z.2.2.2.2.1 z.2.2.2.2.2.1), (11, .bool z.2.2.1), (12, .pointer (some ⟨b12, 0, none⟩)), (14, .int .i64 z.1)]) (fun z => z.2.1) (fun _ => [(b12, .cells [Value.int .i64 lv, .slice a xs.length c].toArray 53 (0, 0)), (b4, .cells [bv, wv, nv, lv0].toArray 28 (0, 0))]) (fun z => z.1 ≤ xs.length ∧ MLe M2 z.2.1 ∧ (z.2.2.1 = true → z.2.2.2.2.1 = z.2.2.2.2.2.2.length ∧ z.2.2.2.2.2.2.length = 256 ∧ z.2.2.2.2.2.2.length ≤ z.2.2.2.2.2.1 ∧ SM z.2.1 z.2.2.2.1 (wAj z.2.2.2.2.2.2) ∧ wEo (fun n r => wCy s f n r (lv - 1)) lv xs out = wEo (fun n r => wCy s f n r (lv - 1)) lv (xs.drop z.1) z.2.2.2.2.2.2) ∧ (z.2.2.1 = false → z.2.2.2.1 = none ∧ z.2.2.2.2.1 = 0 ∧ z.2.2.2.2.2.1 = 0 ∧ wEo (fun n r => wCy s f n r (lv - 1)) lv xs out = none)) (fun z => xs.length - z.1)
   (0, M2, true, la, out.length, lc, out) (.cons (t := 4) rfl (.cons (t := 10) rfl (.cons (t := 11) rfl (.cons (t := 12) rfl (.cons (t := 14) rfl .nil))))) ⟨Nat.zero_le _, MLe.refl _, fun _ => ⟨rfl, hol, hlc, hls2.mono hM2, rfl⟩, fun h => by cases h⟩ (fun _ h => h.subC fun f => by simp only [List.map_append, List.map_cons, List.map_nil, List.sum_append, List.sum_cons, List.sum_nil]; omega) ?_
  rintro ⟨i, Mi, cb, ca0, cn, cc0, cur⟩ ⟨hi, hMi, hT, hF⟩
  try dsimp only at hi hMi hT hF ⊢
  refine wAb (wAb (wAa (jp rfl (sFL rfl rfl ?_))))
  refine wAi rfl rfl (wBj rfl rfl rfl) ?_
  refine js rfl (fun h55 => ?_) (fun h55 => ?_)
  ·refine jp rfl (jsb rfl (fun h57 => ?_) (fun h57 => ?_))
   ·refine jp rfl (wAc (jT (wAg rfl (wAd (jT (wAb (wAh (wAb (wAa (sFL rfl rfl ?_))))))))))
    refine jp rfl ?_
    have hk1 : i < xs.length := by omega
    obtain ⟨sb, so, va, vc, e1, hcx, hvc, hvs⟩ := wFg hs hp hb hk1 (i := (i : Int)) rfl
    have hrf := hno.ref _ (List.getElem_mem hk1)
    obtain ⟨rfl, hcl2, hct, hcs, hG⟩ := hT (by simpa using h57)
    refine wAi rfl rfl (wCe rfl rfl rfl rfl e1 (by omega)) ?_
    refine sFa rfl ?_
    refine wAi rfl rfl (qLd rfl rfl rfl rfl (((hcx 3 _ rfl).mono hMi).cj _)) ?_
    refine jp rfl (wAc (jT (wAh (wAb (wAa (jp rfl (js rfl (fun h79 => ?_) (fun h79 => ?_))))))))
    ·refine jp rfl (wAc (jT (wAg rfl (wAd (jB (jB (jT (wAa (jp rfl (ja rfl (by omega) ?_))))))))))
     refine jp rfl (wAc ?_)
     refine wAp (i + 1, Mi, cb, ca0, cur.length, cc0, cur) (.cons (t := 4) rfl (.cons (t := 10) rfl (.cons (t := 11) rfl (.cons (t := 12) rfl (.cons (t := 14) rfl .nil))))) ⟨by show i + 1 ≤ xs.length; omega, ?_, ?_, ?_⟩ (by show xs.length - (i + 1) < xs.length - i; omega) (fun _ h => h.subC fun f => by simp only [List.map_append, List.map_cons, List.map_nil, List.sum_append, List.sum_cons, List.sum_nil]; omega)
     ·exact hMi
     ·intro _; exact ⟨rfl, hcl2, hct, hcs, by rw [hG, wEa hk1, if_pos h79]⟩
     intro h; rw [h57] at h; cases h
    refine jp rfl (wAc (jT (wAk rfl (wAb (wAa (sFL rfl rfl ?_))))))
    refine js rfl (fun h83 => ?_) (fun h83 => ?_)
    ·refine jp rfl (wAc (jT (wAg rfl ?_)))
     have hnz9 : ¬ xs[i].ref = 0 := h79
     refine wAa (jp rfl (jp rfl (wAy rfl rfl (wAu rfl rfl rfl rfl rfl (by kernel_rfl) (wFj cur ca0 cc0 Mi hcs hct xs[i].ref (by omega) (by omega))) ?_))); rintro _ M4 _ ⟨hM4, _, rfl, ⟨hls9, rfl⟩⟩
     simp only [nA]
     obtain ⟨cb9, ca, cn9, cc, rfl, hcd⟩ := hls9.form
     refine jp rfl (jp rfl (jp rfl (jp rfl (jp rfl (wAc (jB (jB (jT (wAa (jp rfl (ja rfl (by omega) ?_)))))))))))
     refine jp rfl (wAc ?_)
     rcases hcd with ⟨rfl, t, hr, rfl, htc2, hts2⟩ | ⟨rfl, hr, rfl, rfl, rfl⟩
     ·refine wAp (i + 1, _, true, ca, t.length, cc, t) (.cons (t := 4) rfl (.cons (t := 10) rfl (.cons (t := 11) rfl (.cons (t := 12) rfl (.cons (t := 14) rfl .nil))))) ⟨by show i + 1 ≤ xs.length; omega, ?_, ?_, ?_⟩ (by show xs.length - (i + 1) < xs.length - i; omega) (fun _ h => h.subC fun f => by simp only [List.map_append, List.map_cons, List.map_nil, List.sum_append, List.sum_cons, List.sum_nil]; omega)
      ·exact hMi.trans hM4
      ·intro _; exact ⟨rfl, by rw [wLm hr]; exact hcl2, htc2, hts2, by rw [hG, wEa hk1, if_neg h79, if_pos h83, hr] <;> rfl⟩
      intro h; cases h
     refine wAp (i + 1, _, false, none, 0, 0, cur) (.cons (t := 4) rfl (.cons (t := 10) rfl (.cons (t := 11) rfl (.cons (t := 12) rfl (.cons (t := 14) rfl .nil))))) ⟨by show i + 1 ≤ xs.length; omega, ?_, ?_, ?_⟩ (by show xs.length - (i + 1) < xs.length - i; omega) (fun _ h => h.subC fun f => by simp only [List.map_append, List.map_cons, List.map_nil, List.sum_append, List.sum_cons, List.sum_nil]; omega)
     ·exact hMi.trans hM4
     ·intro h; cases h
     intro _; exact ⟨rfl, rfl, rfl, by rw [hG, wEa hk1, if_neg h79, if_pos h83, hr] <;> rfl⟩
    refine jp rfl (wAc (jT (wAk rfl ?_)))
    have hnz9 : ¬ xs[i].ref = 0 := h79
    have hfl2 : Fl f (lv - 1) := by
     rcases hfl with h | h
     ·right; omega
     right; have : lv = l := Classical.byContradiction fun e => hbad ⟨h.1, e⟩
     omega
    refine wAa (sLL rfl ?_)
    refine jp rfl (jp rfl (sFL rfl rfl ?_))
    refine ja rfl (by omega) ?_
    refine wAy rfl rfl (wAu rfl rfl rfl rfl rfl (by kernel_rfl) (ih cur _ _ Mi xs[i].ref (lv - 1) (hS.mono ((hM1.trans hM2).trans hMi)) ⟨ca0, cc0, rfl, hct, hcs⟩ hcl2 (by omega) (by omega) hfl2)) ?_; rintro _ M4 _ ⟨hM4, _, rfl, ⟨hls9, rfl⟩⟩
    simp only [nA]
    obtain ⟨cb9, ca, cn9, cc, rfl, hcd⟩ := hls9.form
    refine jp rfl (jp rfl (jp rfl (jp rfl (jp rfl (wAc (jB (jB (jT (wAa (jp rfl (ja rfl (by omega) ?_)))))))))))
    refine jp rfl (wAc ?_)
    rcases hcd with ⟨rfl, t, hr, rfl, htc2, hts2⟩ | ⟨rfl, hr, rfl, rfl, rfl⟩
    ·refine wAp (i + 1, _, true, ca, t.length, cc, t) (.cons (t := 4) rfl (.cons (t := 10) rfl (.cons (t := 11) rfl (.cons (t := 12) rfl (.cons (t := 14) rfl .nil))))) ⟨by show i + 1 ≤ xs.length; omega, ?_, ?_, ?_⟩ (by show xs.length - (i + 1) < xs.length - i; omega) (fun _ h => h.subC fun f => by simp only [List.map_append, List.map_cons, List.map_nil, List.sum_append, List.sum_cons, List.sum_nil]; omega)
     ·exact hMi.trans hM4
     ·intro _; exact ⟨rfl, by rw [leftF_len _ _ _ _ _ hr]; exact hcl2, htc2, hts2, by rw [hG, wEa hk1, if_neg h79, if_neg h83]; show (match wCy s f cur xs[i].ref (lv - 1) with | none => none | some n => wEo (fun n r => wCy s f n r (lv - 1)) lv (xs.drop (i + 1)) n) = _; rw [hr] <;> rfl⟩
     intro h; cases h
    refine wAp (i + 1, _, false, none, 0, 0, cur) (.cons (t := 4) rfl (.cons (t := 10) rfl (.cons (t := 11) rfl (.cons (t := 12) rfl (.cons (t := 14) rfl .nil))))) ⟨by show i + 1 ≤ xs.length; omega, ?_, ?_, ?_⟩ (by show xs.length - (i + 1) < xs.length - i; omega) (fun _ h => h.subC fun f => by simp only [List.map_append, List.map_cons, List.map_nil, List.sum_append, List.sum_cons, List.sum_nil]; omega)
    ·exact hMi.trans hM4
    ·intro h; cases h
    intro _; exact ⟨rfl, rfl, rfl, by rw [hG, wEa hk1, if_neg h79, if_neg h83]; show (match wCy s f cur xs[i].ref (lv - 1) with | none => none | some n => wEo (fun n r => wCy s f n r (lv - 1)) lv (xs.drop (i + 1)) n) = _; rw [hr] <;> rfl⟩
   refine jp rfl (wAc (jT (wAk rfl (wAw (jTx (jTx (jBx (jT (wAb (wAa (jp rfl (jp rfl (jp rfl (jp rfl (wAc (jT (wAe (wAr (L' := []) (List.nil_sublist _) ?_))))))))))))))))))
   refine jr2 rfl rfl rfl ?_
   obtain ⟨rfl, rfl, rfl, hG⟩ := hF (by simpa using h57)
   have hcb : cb = false := by simpa using h57
   subst hcb
   exact ⟨by rw [hgoal, hG]; rfl, rfl⟩
  refine jp rfl (jp rfl (jp rfl (wAc (jT (wAk rfl (wAw (jTx (jTx (jBx (jT (wAb (wAa (jp rfl (jp rfl (jp rfl (jp rfl (wAc (jT (wAe (wAr (L' := []) (List.nil_sublist _) ?_))))))))))))))))))))
  refine jr2 rfl rfl rfl ?_
  refine ⟨?_, rfl⟩
  rw [hgoal]
  cases cb with
  | true =>
   obtain ⟨rfl, hcl2, hct, hcs, hG⟩ := hT rfl
   rw [hG, List.drop_eq_nil_of_le (by omega)]; exact ⟨_, _, rfl, hct, hcs⟩
  | false =>
   obtain ⟨rfl, rfl, rfl, hG⟩ := hF rfl
   rw [hG]; rfl
 iterate 7 refine jp rfl ?_
 refine wAc (jT (wAk rfl (wAd (jT (wAb (wAb (wAa (jp rfl (wAc (jT (wAh ?_)))))))))))
 have hbad : ¬ (0 ≤ l ∧ lv ≠ l) := by omega
 have hgoal : wCy s (f + 1) now k l = wEo (fun n r => wCy s f n r (lv - 1)) lv xs out := by rw [leftF_some h1 hnd, if_neg hbad, ← hout]
 refine wAv (α := Nat × Mem × Bool × Option Addr × Nat × Nat × List By) (fun z => [(4, .pointer (some ⟨b4, 0, none⟩)), (10, .slice z.2.2.2.1 z.2.2.2.2.1 z.2.2.2.2.2.1), (11, .bool z.2.2.1), (12, .pointer (some ⟨b12, 0, none⟩)), (14, .int .i64 z.1)]) (fun z => z.2.1) (fun _ => [(b12, .cells [Value.int .i64 lv, .slice a xs.length c].toArray 53 (0, 0)), (b4, .cells [bv, wv, nv, lv0].toArray 28 (0, 0))]) (fun z => z.1 ≤ xs.length ∧ MLe M2 z.2.1 ∧ (z.2.2.1 = true → z.2.2.2.2.1 = z.2.2.2.2.2.2.length ∧ z.2.2.2.2.2.2.length = 256 ∧ z.2.2.2.2.2.2.length ≤ z.2.2.2.2.2.1 ∧ SM z.2.1 z.2.2.2.1 (wAj z.2.2.2.2.2.2) ∧ wEo (fun n r => wCy s f n r (lv - 1)) lv xs out = wEo (fun n r => wCy s f n r (lv - 1)) lv (xs.drop z.1) z.2.2.2.2.2.2) ∧ (z.2.2.1 = false → z.2.2.2.1 = none ∧ z.2.2.2.2.1 = 0 ∧ z.2.2.2.2.2.1 = 0 ∧ wEo (fun n r => wCy s f n r (lv - 1)) lv xs out = none)) (fun z => xs.length - z.1)
  (0, M2, true, la, out.length, lc, out) (.cons (t := 4) rfl (.cons (t := 10) rfl (.cons (t := 11) rfl (.cons (t := 12) rfl (.cons (t := 14) rfl .nil))))) ⟨Nat.zero_le _, MLe.refl _, fun _ => ⟨rfl, hol, hlc, hls2.mono hM2, rfl⟩, fun h => by cases h⟩ (fun _ h => h.subC fun f => by simp only [List.map_append, List.map_cons, List.map_nil, List.sum_append, List.sum_cons, List.sum_nil]; omega) ?_
 rintro ⟨i, Mi, cb, ca0, cn, cc0, cur⟩ ⟨hi, hMi, hT, hF⟩
 try dsimp only at hi hMi hT hF ⊢
 refine wAb (wAb (wAa (jp rfl (sFL rfl rfl ?_))))
 refine wAi rfl rfl (wBj rfl rfl rfl) ?_
 refine js rfl (fun h55 => ?_) (fun h55 => ?_)
 ·refine jp rfl (jsb rfl (fun h57 => ?_) (fun h57 => ?_))
  ·refine jp rfl (wAc (jT (wAg rfl (wAd (jT (wAb (wAh (wAb (wAa (sFL rfl rfl ?_))))))))))
   refine jp rfl ?_
   have hk1 : i < xs.length := by omega
   obtain ⟨sb, so, va, vc, e1, hcx, hvc, hvs⟩ := wFg hs hp hb hk1 (i := (i : Int)) rfl
   have hrf := hno.ref _ (List.getElem_mem hk1)
   obtain ⟨rfl, hcl2, hct, hcs, hG⟩ := hT (by simpa using h57)
   refine wAi rfl rfl (wCe rfl rfl rfl rfl e1 (by omega)) ?_
   refine sFa rfl ?_
   refine wAi rfl rfl (qLd rfl rfl rfl rfl (((hcx 3 _ rfl).mono hMi).cj _)) ?_
   refine jp rfl (wAc (jT (wAh (wAb (wAa (jp rfl (js rfl (fun h79 => ?_) (fun h79 => ?_))))))))
   ·refine jp rfl (wAc (jT (wAg rfl (wAd (jB (jB (jT (wAa (jp rfl (ja rfl (by omega) ?_))))))))))
    refine jp rfl (wAc ?_)
    refine wAp (i + 1, Mi, cb, ca0, cur.length, cc0, cur) (.cons (t := 4) rfl (.cons (t := 10) rfl (.cons (t := 11) rfl (.cons (t := 12) rfl (.cons (t := 14) rfl .nil))))) ⟨by show i + 1 ≤ xs.length; omega, ?_, ?_, ?_⟩ (by show xs.length - (i + 1) < xs.length - i; omega) (fun _ h => h.subC fun f => by simp only [List.map_append, List.map_cons, List.map_nil, List.sum_append, List.sum_cons, List.sum_nil]; omega)
    ·exact hMi
    ·intro _; exact ⟨rfl, hcl2, hct, hcs, by rw [hG, wEa hk1, if_pos h79]⟩
    intro h; rw [h57] at h; cases h
   refine jp rfl (wAc (jT (wAk rfl (wAb (wAa (sFL rfl rfl ?_))))))
   refine js rfl (fun h83 => ?_) (fun h83 => ?_)
   ·refine jp rfl (wAc (jT (wAg rfl ?_)))
    have hnz9 : ¬ xs[i].ref = 0 := h79
    refine wAa (jp rfl (jp rfl (wAy rfl rfl (wAu rfl rfl rfl rfl rfl (by kernel_rfl) (wFj cur ca0 cc0 Mi hcs hct xs[i].ref (by omega) (by omega))) ?_))); rintro _ M4 _ ⟨hM4, _, rfl, ⟨hls9, rfl⟩⟩
    simp only [nA]
    obtain ⟨cb9, ca, cn9, cc, rfl, hcd⟩ := hls9.form
    refine jp rfl (jp rfl (jp rfl (jp rfl (jp rfl (wAc (jB (jB (jT (wAa (jp rfl (ja rfl (by omega) ?_)))))))))))
    refine jp rfl (wAc ?_)
    rcases hcd with ⟨rfl, t, hr, rfl, htc2, hts2⟩ | ⟨rfl, hr, rfl, rfl, rfl⟩
    ·refine wAp (i + 1, _, true, ca, t.length, cc, t) (.cons (t := 4) rfl (.cons (t := 10) rfl (.cons (t := 11) rfl (.cons (t := 12) rfl (.cons (t := 14) rfl .nil))))) ⟨by show i + 1 ≤ xs.length; omega, ?_, ?_, ?_⟩ (by show xs.length - (i + 1) < xs.length - i; omega) (fun _ h => h.subC fun f => by simp only [List.map_append, List.map_cons, List.map_nil, List.sum_append, List.sum_cons, List.sum_nil]; omega)
     ·exact hMi.trans hM4
     ·intro _; exact ⟨rfl, by rw [wLm hr]; exact hcl2, htc2, hts2, by rw [hG, wEa hk1, if_neg h79, if_pos h83, hr] <;> rfl⟩
     intro h; cases h
    refine wAp (i + 1, _, false, none, 0, 0, cur) (.cons (t := 4) rfl (.cons (t := 10) rfl (.cons (t := 11) rfl (.cons (t := 12) rfl (.cons (t := 14) rfl .nil))))) ⟨by show i + 1 ≤ xs.length; omega, ?_, ?_, ?_⟩ (by show xs.length - (i + 1) < xs.length - i; omega) (fun _ h => h.subC fun f => by simp only [List.map_append, List.map_cons, List.map_nil, List.sum_append, List.sum_cons, List.sum_nil]; omega)
    ·exact hMi.trans hM4
    ·intro h; cases h
    intro _; exact ⟨rfl, rfl, rfl, by rw [hG, wEa hk1, if_neg h79, if_pos h83, hr] <;> rfl⟩
   refine jp rfl (wAc (jT (wAk rfl ?_)))
   have hnz9 : ¬ xs[i].ref = 0 := h79
   have hfl2 : Fl f (lv - 1) := by
    rcases hfl with h | h
    ·right; omega
    right; have : lv = l := Classical.byContradiction fun e => hbad ⟨h.1, e⟩
    omega
   refine wAa (sLL rfl ?_)
   refine jp rfl (jp rfl (sFL rfl rfl ?_))
   refine ja rfl (by omega) ?_
   refine wAy rfl rfl (wAu rfl rfl rfl rfl rfl (by kernel_rfl) (ih cur _ _ Mi xs[i].ref (lv - 1) (hS.mono ((hM1.trans hM2).trans hMi)) ⟨ca0, cc0, rfl, hct, hcs⟩ hcl2 (by omega) (by omega) hfl2)) ?_; rintro _ M4 _ ⟨hM4, _, rfl, ⟨hls9, rfl⟩⟩
   simp only [nA]
   obtain ⟨cb9, ca, cn9, cc, rfl, hcd⟩ := hls9.form
   refine jp rfl (jp rfl (jp rfl (jp rfl (jp rfl (wAc (jB (jB (jT (wAa (jp rfl (ja rfl (by omega) ?_)))))))))))
   refine jp rfl (wAc ?_)
   rcases hcd with ⟨rfl, t, hr, rfl, htc2, hts2⟩ | ⟨rfl, hr, rfl, rfl, rfl⟩
   ·refine wAp (i + 1, _, true, ca, t.length, cc, t) (.cons (t := 4) rfl (.cons (t := 10) rfl (.cons (t := 11) rfl (.cons (t := 12) rfl (.cons (t := 14) rfl .nil))))) ⟨by show i + 1 ≤ xs.length; omega, ?_, ?_, ?_⟩ (by show xs.length - (i + 1) < xs.length - i; omega) (fun _ h => h.subC fun f => by simp only [List.map_append, List.map_cons, List.map_nil, List.sum_append, List.sum_cons, List.sum_nil]; omega)
    ·exact hMi.trans hM4
    ·intro _; exact ⟨rfl, by rw [leftF_len _ _ _ _ _ hr]; exact hcl2, htc2, hts2, by rw [hG, wEa hk1, if_neg h79, if_neg h83]; show (match wCy s f cur xs[i].ref (lv - 1) with | none => none | some n => wEo (fun n r => wCy s f n r (lv - 1)) lv (xs.drop (i + 1)) n) = _; rw [hr] <;> rfl⟩
    intro h; cases h
   refine wAp (i + 1, _, false, none, 0, 0, cur) (.cons (t := 4) rfl (.cons (t := 10) rfl (.cons (t := 11) rfl (.cons (t := 12) rfl (.cons (t := 14) rfl .nil))))) ⟨by show i + 1 ≤ xs.length; omega, ?_, ?_, ?_⟩ (by show xs.length - (i + 1) < xs.length - i; omega) (fun _ h => h.subC fun f => by simp only [List.map_append, List.map_cons, List.map_nil, List.sum_append, List.sum_cons, List.sum_nil]; omega)
   ·exact hMi.trans hM4
   ·intro h; cases h
   intro _; exact ⟨rfl, rfl, rfl, by rw [hG, wEa hk1, if_neg h79, if_neg h83]; show (match wCy s f cur xs[i].ref (lv - 1) with | none => none | some n => wEo (fun n r => wCy s f n r (lv - 1)) lv (xs.drop (i + 1)) n) = _; rw [hr] <;> rfl⟩
  refine jp rfl (wAc (jT (wAk rfl (wAw (jTx (jTx (jBx (jT (wAb (wAa (jp rfl (jp rfl (jp rfl (jp rfl (wAc (jT (wAe (wAr (L' := []) (List.nil_sublist _) ?_))))))))))))))))))
  refine jr2 rfl rfl rfl ?_
  obtain ⟨rfl, rfl, rfl, hG⟩ := hF (by simpa using h57)
  have hcb : cb = false := by simpa using h57
  subst hcb
  exact ⟨by rw [hgoal, hG]; rfl, rfl⟩
 refine jp rfl (jp rfl (jp rfl (wAc (jT (wAk rfl (wAw (jTx (jTx (jBx (jT (wAb (wAa (jp rfl (jp rfl (jp rfl (jp rfl (wAc (jT (wAe (wAr (L' := []) (List.nil_sublist _) ?_))))))))))))))))))))
 refine jr2 rfl rfl rfl ?_
 refine ⟨?_, rfl⟩
 rw [hgoal]
 cases cb with
 | true =>
  obtain ⟨rfl, hcl2, hct, hcs, hG⟩ := hT rfl
  rw [hG, List.drop_eq_nil_of_le (by omega)]; exact ⟨_, _, rfl, hct, hcs⟩
 | false =>
  obtain ⟨rfl, rfl, rfl, hG⟩ := hF rfl
  rw [hG]; rfl
section
variable {P : Program} {ops : Array Oper} {N : Fs} {F : Fr} {M : Mem} {L : Lc} {o : Oper}
theorem HF.monoB {E : Ent} {K K' : Value → Mem → Lc → Prop} (h : HF P ops N F E M L o K) (hk : ∀ w v M' L', K v M' L' → St E M' L' w → ∃ M2 L2, St E M2 L2 w ∧ K' v M2 L2) : HF P ops N F E M L o K' := fun a w ha hw =>
 ⟨(h a w ha hw).1, fun Q => Oper.wpIn_mono (fun a' w' ⟨v, M', L', e, hs, hK⟩ => by
  obtain ⟨M2, L2, h1, h2⟩ := hk w' v M' L' hK hs
  exact ⟨v, M2, L2, e, h1, h2⟩) ((h a w ha hw).2 Q)⟩
end
def zeroI : It := ⟨⟨0, 0, 0⟩, 0, []⟩
theorem fdForm {s : Sto} {root : Int} {q : Ky} {u : Value} {M' : Mem} (h : FdPost s root q u M') : ∃ (y : It) (yv : Value) (code : Int), u = .tuple #[.agg #[.int .u8 y.key.kind, .int .u32 y.key.id, .int .u32 y.key.off, .int .i64 y.ref, yv], .int .i64 code] ∧ BS M' yv y.val ∧
  ((wFh s root).2 = 0 → (fnd s root q = some y ∧ code = 0) ∨ (fnd s root q = none ∧ code = 6 ∧ y = zeroI)) := by
 unfold FdPost at h
 by_cases h0 : (wFh s root).2 = 0
 ·rw [if_pos h0] at h
  revert h
  cases hf : fnd s root q with
  | none => exact fun h => ⟨zeroI, .slice none 0 0, 6, h, BS.nil, fun _ => .inr ⟨rfl, rfl, rfl⟩⟩
  | some y => exact fun ⟨va, vc, h1, h2, h3⟩ => ⟨y, .slice va y.val.length vc, 0, h1, ⟨va, vc, rfl, h2, h3⟩, fun _ => .inl ⟨rfl, rfl⟩⟩
 rw [if_neg h0] at h
 exact ⟨zeroI, .slice none 0 0, _, h, BS.nil, fun h => absurd h h0⟩
section
variable {P : Program} {ops : Array Oper} {N : Fs} {F : Fr} {E : Ent} {M : Mem} {L : Lc} {o : Oper}
theorem zeroCells_rep (z : List Value) (sz : Nat) (hz : z.length = sz) : ∀ n, (Builtin.zeroCells z.toArray n).toList = (List.replicate n z).flatten := fun n => by
 have hk : ∀ n, (List.range (n * sz)).map (fun i => z[i % sz]!) = (List.replicate n z).flatten := by
  intro n
  induction n with
  | zero => simp
  | succ n ih =>
   rw [Nat.succ_mul, List.range_add, List.map_append, ih, List.replicate_succ', List.flatten_append]
   congr 1
   rw [List.map_map]
   apply List.ext_getElem
   ·simp [hz]
   intro i h1 h2
   have hlt : i < sz := by simpa using h1
   have : (n * sz + i) % sz = i := by rw [Nat.mul_comm, Nat.mul_add_mod, Nat.mod_eq_of_lt hlt]
   simp [this, hz, hlt]
 rw [← hk]
 simp only [Builtin.zeroCells, Array.toList_map, Array.toList_range]
 simp only [List.size_toArray, hz]
 apply List.map_congr_left
 intro i hi
 simp
theorem hClear {x : Operand} {t e : TypeId} {b off n c sz by_ : Nat} {z l : List Value} {eb : TypeId} {L' : Lc} (hg : gd ops F o = some true)
  (ho : o.op = .call { callee := .builtin .clear, args := #[x], argTypes := #[t] }) (hx : ev F x = some (.slice (some ⟨b, off, none⟩) n c)) [ht : Und P t (.slice e)] [hl : Lay P e sz by_ z]
  (h0 : 0 < n) (h1 : ∀ v ∈ z, v.oneCell' = true) [at_ : At b (.cells l.toArray eb (0, 0)) L] (hfit : off + n * sz ≤ l.length)
  [hp : PutAt b (.cells l.toArray eb (0, 0)) (.cells (l.take off ++ (List.replicate n z).flatten ++ l.drop (off + ((List.replicate n z).flatten).length)).toArray eb (0, 0)) L L'] :
  HF P ops N F E M L o (fun _ M' L'' => M = M' ∧ L'' = L') := wHw hg fun a w ha hw => by
 obtain ⟨ti, zv, hi, hi2, hi3, hz, hz2⟩ := hl.info
 have hb := (hw.locs _ at_.mem).1
 have hzl := hl.len
 have hlen : ((List.replicate n z).flatten).length = n * sz := by simp [hzl]
 refine ⟨.tuple #[], _, M, L', .inl ?_, hw.put hp, rfl, rfl⟩
 have hst := run_storeCells_at P b off eb ((List.replicate n z).flatten) 0 l.toArray w hb (by simp [hzl]; omega) (fun v hv => by
  obtain ⟨y, hy, hv⟩ := List.mem_flatten.1 hv
  rw [(List.mem_replicate.1 hy).2] at hv; exact h1 v hv)
 obtain ⟨k, rfl⟩ : ∃ k, n = k + 1 := ⟨n - 1, by omega⟩
 simp [execOp, ho, resolve, invoke, builtin, ha.ev hx, Builtin.clear_, run_underlying ht.h, zeroValue, typeInfo, hi, hz, hz2, zeroCells_rep z sz hzl, hst]
theorem hAppendFit {x y : Operand} {t e : TypeId} {b off n c m mc : Nat} {sa : Option Addr} {sz : Nat} {l cs : List Value} {eb : TypeId} {L' : Lc} {by_ : Nat} {z : List Value} (hg : gd ops F o = some true)
  (ho : o.op = .call { callee := .builtin .append, args := #[x, y], argTypes := #[t, t] }) (hx : ev F x = some (.slice (some ⟨b, off, none⟩) n c)) (hy : ev F y = some (.slice sa m mc)) [ht : Und P t (.slice e)] [hl : Lay P e sz by_ z]
  (hn : cs.length = m * sz) (hcs : SJ M L sa cs) (h1 : ∀ v ∈ cs, v.oneCell' = true) (hroom : n + m ≤ c) [at_ : At b (.cells l.toArray eb (0, 0)) L] (hfit : off + n * sz + cs.length ≤ l.length)
  [hp : PutAt b (.cells l.toArray eb (0, 0)) (.cells (l.take (off + n * sz) ++ cs ++ l.drop (off + n * sz + cs.length)).toArray eb (0, 0)) L L'] :
  HF P ops N F E M L o (fun v M' L'' => v = .slice (some ⟨b, off, none⟩) (n + m) c ∧ M = M' ∧ L'' = L') := wHw hg fun a w ha hw => by
 obtain ⟨ti, zv, hi, hi2, _⟩ := hl.info
 have hb := (hw.locs _ at_.mem).1
 refine ⟨_, _, M, L', .inl ?_, hw.put hp, rfl, rfl, rfl⟩
 have hst := run_storeCells_at P b (off + n * sz) eb cs 0 l.toArray w hb (by simp; omega) h1
 have hfc : (Builtin.firstCells sz m (.slice sa m mc)).run P w = .ok cs.toArray w := by
  rcases hcs with rfl | ⟨sb, so, rfl, hc⟩
  ·rw [List.length_nil] at hn
   have h0 : m * sz = 0 := hn.symm
   cases sa <;> simp [Builtin.firstCells, h0, loadCells, loadCellsFrom]
  have hadd : ∀ j, (⟨sb, so, none⟩ : Addr).add j = ⟨sb, so + j, none⟩ := fun j => by unfold Addr.add; split <;> simp_all
  exact run_firstCells_some (P := P) w sz m ⟨sb, so, none⟩ m mc cs hn (fun j v hv => by rw [hadd]; exact (hc j v hv).cell hw.js)
 simp [execOp, ho, resolve, invoke, builtin, ha.ev hx, ha.ev hy, Builtin.append_, run_underlying ht.h, sizeOf, typeInfo, hi, hi2, Builtin.lenOf, hroom, hfc, Addr.add_lit, hst]
theorem hAppendZs {x y : Operand} {t tn e : TypeId} {k kn : IntKind} {n size bytes : Nat} {z : List Value} (hg : gd ops F o = some true)
  (ho : o.op = .call { callee := .builtin .append, args := #[x, y], argTypes := #[t, tn] }) (hx : ev F x = some (.slice none 0 0)) (hy : ev F y = some (.int k n)) [ht : Und P t (.slice e)] [htn : Und P tn (.int kn)] [hl : Lay P e size bytes z]
  (hz0 : Nat.blt 0 size = true) (h0 : 0 < n) (hn : n ≤ 1000000000) (hby : bytes ≤ 100000) :
  HF P ops N F E M L o (fun v' M' L' => M = M' ∧ ∃ b cap cur, v' = .slice (some ⟨b, 0, none⟩) n cap ∧ L' = (b, .cells cur e (0, 0)) :: L ∧ n ≤ cap ∧ cap ≤ maxLen ∧ cur.size = cap * size) := wHw hg fun a w ha hw => by
 obtain ⟨ti, zv, hi, hi2, hi3, hz, hz2⟩ := hl.info
 have hzl : zv.cells.size = size := by rw [hz2]; simpa using hl.len
 have hsz : 0 < size := by simpa [Nat.blt_eq] using hz0
 have hb : n * bytes ≤ 1000000000 * 100000 := Nat.mul_le_mul hn hby
 have hr := Go.Lib.run_append_nil_zeros (P := P) w t tn o.type e ti zv k kn ht.h htn.h hi hz n h0 (by omega) (by omega) (by rw [hi3]; omega)
 have hge := grownCap_ge w n 0 e
 have hsz2 : (Builtin.zeroCells zv.cells n ++ Builtin.zeroCells zv.cells (grownCap w n 0 e - n)).size = grownCap w n 0 e * size := by
  simp only [Array.size_append, size_zeroCells, hzl, ← Nat.add_mul]; congr 1; omega
 generalize Builtin.zeroCells zv.cells n ++ Builtin.zeroCells zv.cells (grownCap w n 0 e - n) = cur at hr hsz2
 have hd : St E M L w.drew := { hw with }
 refine ⟨_, w.drew.alloc (.cells cur e), M, (w.drew.heap.size, .cells cur e (0, 0)) :: L, .inl ?_, hd.alloc (.cells cur e), rfl, w.heap.size, _, cur, rfl, rfl, hge, grownCap_le_maxLen w n 0 e (by unfold maxLen; omega), hsz2⟩
 simp [execOp, ho, resolve, invoke, builtin, ha.ev hx, ha.ev hy, hr]
theorem hBuildSliceN {t e : TypeId} {n : Nat} {ps : List (Nat × Operand)} {vs : List (Nat × Value)} {sz by_ : Nat} {z cs : List Value} (hg : gd ops F o = some true) (ho : o.op = .buildSlice t n ps.toArray) (hv : evp F ps = some vs) [ht : Und P t (.slice e)] [hl : Lay P e sz by_ z]
  (hc : fillL (fun i => some (i * sz, sz)) (List.replicate n z).flatten vs = some cs) (hsmall : Nat.ble (n * sz) 16777216 = true) (hpos : Nat.blt 0 sz = true) :
  HF P ops N F E M L o (fun v M' L' => ∃ b, v = .slice (some ⟨b, 0, none⟩) n n ∧ M = M' ∧ L' = (b, .cells cs.toArray e (0, 0)) :: L ∧ E.W.heap.size ≤ b) := wHw hg fun a w ha hw => by
 have hzl := hl.len
 obtain ⟨ti, zv, hi, hi2, _, hz, hz2⟩ := hl.info
 refine ⟨_, _, M, _, .inl ?_, hw.alloc (.cells cs.toArray e (0, 0)), _, rfl, rfl, rfl, hw.size⟩
 have h3 := ha.evp hv
 have h4 : ((ps.toArray).map fun x => (x.1, a.eval x.2)).toList = vs := by rw [← h3]; simp
 have hs : ¬ (16777216 < n * sz) := by simpa [Nat.ble_eq] using hsmall
 have h0 : 0 < sz := by simpa [Nat.blt_eq] using hpos
 have hzz : (Array.range (n * sz)).map (fun i => z.toArray[i % z.toArray.size]!) = ((List.replicate n z).flatten).toArray := by
  have hk : ∀ n, (List.range (n * sz)).map (fun i => z[i % sz]!) = (List.replicate n z).flatten := by
   intro n
   induction n with
   | zero => simp
   | succ n ih =>
    rw [Nat.succ_mul, List.range_add, List.map_append, ih, List.replicate_succ', List.flatten_append]
    congr 1
    rw [List.map_map]
    apply List.ext_getElem
    ·simp [hzl]
    intro i h1 h2
    have hlt : i < sz := by simpa using h1
    have : (n * sz + i) % sz = i := by rw [Nat.mul_comm, Nat.mul_add_mod, Nat.mod_eq_of_lt hlt]
    simp [this, hzl, hlt]
  apply Array.ext'
  simp only [Array.toList_map, Array.toList_range]
  rw [← hk n]
  apply List.map_congr_left
  intro i hi
  simp [hzl]
 have hf := fill_eq (fun i => some (i * sz, sz)) vs _ _ hc
 by_cases hn : n * sz = 0
 ·have hn0 : n = 0 := by rcases Nat.mul_eq_zero.1 hn with h | h <;> omega
  subst hn0
  simp only [List.replicate_zero, List.flatten_nil] at hf
  simp [execOp, ho, Instr.buildSlice, run_underlying ht.h, sizeOf, typeInfo, hi, hi2, h3, hf, newRow, Array.range_zero']
 have hs' : ¬ (n * sz > 2 ^ 24) := hs
 simp only [execOp, ho, Instr.buildSlice, Sem.run_bind, run_underlying ht.h, Result.andThen_ok, sizeOf, typeInfo, run_program, hi, Sem.run_pure, hi2, if_neg hs', if_neg hn, zeroValue, hz, hz2, h4, hzz, hf]
 simp [newRow]
theorem wLt {W : World} {X : List Nat} {M0 : Mem} {t e : TypeId} {n : Nat} {ps : List (Nat × Operand)} {vs : List (Nat × Value)} {sz by_ : Nat} {z cs : List Value} (hX : ∀ x ∈ X, x < W.heap.size) (hg : gd ops F o = some true) (ho : o.op = .buildSlice t n ps.toArray) (hv : evp F ps = some vs) [ht : Und P t (.slice e)] [hl : Lay P e sz by_ z]
  (hc : fillL (fun i => some (i * sz, sz)) (List.replicate n z).flatten vs = some cs) (hsmall : Nat.ble (n * sz) 16777216 = true) (hpos : Nat.blt 0 sz = true) :
  HF P ops N F ⟨W, X, M0⟩ M L o (fun v M' L' => ∃ b, v = .slice (some ⟨b, 0, none⟩) n n ∧ L' = L ∧ MLe M M' ∧ M' b = some (.cells cs.toArray e (0, 0))) :=
 (hBuildSliceN (E := ⟨W, X, M0⟩) hg ho hv hc hsmall hpos).monoB fun w v M' L' ⟨b, e1, e2, e3, e4⟩ hs => by
  subst e2; subst e3
  obtain ⟨h1, h2, h3⟩ := St.freeze' (fun hx => by have := hX b hx; have h4 : W.heap.size ≤ b := e4; omega) hs
  exact ⟨_, _, h1, b, e1, rfl, h2, h3⟩
end
end Go.Proofs.YtkcpllhggofloaaGreat
