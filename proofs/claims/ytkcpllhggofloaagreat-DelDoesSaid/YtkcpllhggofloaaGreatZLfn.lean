/- Walks: what del.Del answers lies in new memory, told so. -/
import Derived.Test.YtkcpllhggofloaaGreatZDel
import Derived.Test.YtkcpllhggofloaaGreatZThaw
namespace Go.Proofs.YtkcpllhggofloaaGreat
set_option linter.unusedVariables false
set_option linter.unusedSectionVars false
set_option linter.unusedSimpArgs false
open Go.RowKit
section
variable {P : Program} {N : Fs} {F : Fr} {W : World} {X : List Nat} {M0 M : Mem} {L : Lc} {Q : Exit → Act → World → Prop}
theorem jq_freezeN {ex : Exit} {ob : Obj} {L2 : Lc} (g : Nat) [hp : Rm g ob L L2] (hg : g ∉ X) (h : ∀ M', MLe M M' → M g = none → M' g = some ob → JQ N ex F ⟨W, X, M0⟩ M' L2 Q) : JQ N ex F ⟨W, X, M0⟩ M L Q := by
 intro a w ha hw
 have hw' := hw.perm hp.perm
 obtain ⟨h1, h2, h3⟩ := St.freeze' hg hw'
 exact h _ h2 (hw'.locs (g, ob) (by simp)).2.2 h3 a w ha h1
end
theorem none_le {M M' : Mem} {g : Nat} (h : MLe M M') (hn : M' g = none) : M g = none := by
 cases e : M g with
 | none => rfl
 | some x => rw [h _ _ e] at hn; cases hn
def HbN (M M' : Mem) (hb n : Nat) : Prop := M hb = none ∧ ∃ l : List By, 128 * n ≤ l.length ∧ M' hb = some (.cells (wAj l).toArray 5 (0, 0))
def HbW (M M' : Mem) (hb : Nat) (wa : Option Addr) (n m : Nat) : Prop := HbN M M' hb (n + m) ∧ ∀ j, j < m → ∃ rw ro, wa = some ⟨rw, ro, none⟩ ∧ rw ≠ hb ∧ CM M' rw (ro + ((j : Nat) : Int).toNat * 2 + 1) (cutV hb (n + j))
theorem HbN.mono {M0 M M' : Mem} {hb n : Nat} (h : HbN M0 M hb n) (hM : MLe M M') : HbN M0 M' hb n := ⟨h.1, by obtain ⟨l, h1, h2⟩ := h.2; exact ⟨l, h1, hM _ _ h2⟩⟩
theorem HbW.mono {M0 M M' : Mem} {hb n m : Nat} {wa : Option Addr} (h : HbW M0 M hb wa n m) (hM : MLe M M') : HbW M0 M' hb wa n m := ⟨h.1.mono hM, fun j hj => by obtain ⟨a, b, h1, h2, h3⟩ := h.2 j hj; exact ⟨a, b, h1, h2, h3.mono hM⟩⟩
theorem HbW.anti {M0 M1 M : Mem} {hb n m : Nat} {wa : Option Addr} (h : HbW M1 M hb wa n m) (hM : MLe M0 M1) : HbW M0 M hb wa n m := ⟨⟨none_le hM h.1.1, h.1.2⟩, h.2⟩
theorem HbW.of {M0 M : Mem} {hb n : Nat} {wa : Option Addr} {ws : List Wt} {ps : List (Wt × Value)} (h : HbN M0 M hb (n + ws.length)) (hp : ps.map (·.1) = ws) (hs : SM M wa (ps.flatMap wCv)) (hj : ∀ j, j < ws.length → ∃ w, ps[j]? = some (w, cutV hb (n + j))) : HbW M0 M hb wa n ws.length := by
 refine ⟨h, fun j hjl => ?_⟩
 have hpl : ps.length = ws.length := by rw [← hp, List.length_map]
 obtain ⟨sb, so, e0, hx⟩ := hs.open (by intro e; have := congrArg List.length e; rw [wBi wCv 2 wDn, List.length_nil] at this; omega)
 obtain ⟨w, hw⟩ := hj j hjl
 have hc := wKo wCv 2 wDn hx hw 1 (cutV hb (n + j)) rfl
 refine ⟨sb, so, e0, fun e => ?_, by rw [Int.toNat_natCast]; exact hc⟩
 subst e
 obtain ⟨l, _, hl⟩ := h.2
 obtain ⟨c, t, fz, h1, h2⟩ := hc
 rw [hl] at h1
 cases h1
 rw [List.getElem?_toArray, wAj, List.getElem?_map] at h2
 cases h3 : l[so + j * 2 + 1]? with
 | none => rw [h3] at h2; cases h2
 | some y => rw [h3] at h2; cases h2
def StW (M M' : Mem) (u : Value) (s : Sto) : Prop := ∃ rb wa wc na nc la lc hb Mx My, u = .agg #[.slice (some ⟨rb, 0, none⟩) s.blocks.length s.blocks.length, .slice wa s.waits.length wc, .slice na s.now.length nc, .slice la s.last.length lc] ∧ LS M' (.slice (some ⟨rb, 0, none⟩) s.blocks.length s.blocks.length) s.blocks ∧ WS M' (.slice wa s.waits.length wc) s.waits ∧ BS M' (.slice na s.now.length nc) s.now ∧ BS M' (.slice la s.last.length lc) s.last ∧
 HbW M Mx hb wa s.blocks.length s.waits.length ∧ MLe M Mx ∧ MLe Mx My ∧ MLe My M' ∧ BS (wEn Mx My) (.slice na s.now.length nc) s.now ∧ BS (wEn My M') (.slice la s.last.length lc) s.last
theorem StW.anti {M0 M M' : Mem} {u : Value} {s : Sto} (h : StW M M' u s) (hM : MLe M0 M) : StW M0 M' u s := by
 obtain ⟨rb, wa, wc, na, nc, la, lc, hb, Mx, My, h1, h2, h3, h4, h5, h6, h7, h8⟩ := h
 exact ⟨rb, wa, wc, na, nc, la, lc, hb, Mx, My, h1, h2, h3, h4, h5, h6.anti hM, hM.trans h7, h8⟩
set_option maxHeartbeats 4000000 in
theorem dtwin_ownW (bs : List (List By)) (ws : List Wt) (a1 : Option Addr) (c1 : Nat) (ps1 : List (List By × Value)) (a2 : Option Addr) (c2 : Nat) (ps2 : List (Wt × Value)) (M : Mem) (hc1 : bs.length ≤ c1) (hs1 : SM M a1 (ps1.map (·.2))) (hp1 : ps1.map (·.1) = bs) (hb1 : ∀ p ∈ ps1, BS M p.2 p.1) (hc2 : ws.length ≤ c2) (hs2 : SM M a2 (ps2.flatMap wCv)) (hp2 : ps2.map (·.1) = ws) (hb2 : ∀ p ∈ ps2, BS M p.2 p.1.2) (hdk : dkOk bs ws) :
  SpecL Tryz.prog 65 #[.agg #[.slice a1 bs.length c1, .slice a2 ws.length c2]] M [] fun u M' L' => ∃ hb rb wv', u = .agg #[.slice (some ⟨rb, 0, none⟩) bs.length bs.length, wv'] ∧ LS M' (.slice (some ⟨rb, 0, none⟩) bs.length bs.length) bs ∧ HbN M M' hb (bs.length + ws.length) ∧ ∃ ps : List (Wt × Value), ps.map (·.1) = ws ∧ (∀ p ∈ ps, BS M' p.2 p.1.2) ∧ (∀ j, j < ws.length → ∃ w, ps[j]? = some (w, cutV hb (bs.length + j))) ∧ Own wv' L' WT 2 ws.length (ps.flatMap wCv) := by
 obtain ⟨hq1, hq2, hq3, hq4⟩ := id hdk
 have hds : ∀ d ∈ bs ++ ws.map (·.2), d.length = 128 := fun d hd => by
  rcases List.mem_append.1 hd with hd | hd
  ·exact hq3 d hd
  obtain ⟨w, hw, rfl⟩ := List.mem_map.1 hd; exact (hq4 w hw).2.2
 have hdl : (bs ++ ws.map (·.2)).length = bs.length + ws.length := by simp
 have hpl : ∀ i, i ≤ bs.length + ws.length → (((bs ++ ws.map (·.2)).take i).flatten).length = 128 * i := fun i hi => by rw [wKp (fun d hd => hds d (List.mem_of_mem_take hd)), List.length_take]; congr 1; omega
 refine wAf (vs := [_]) 89 _ Tryz.func65 rfl Tryz.ntmps65 rfl rfl ?_; intro W
 refine wAb (wAa (wAy rfl rfl (wCm (cs := [_, _]) rfl rfl rfl rfl) ?_)); rintro _ _ _ ⟨b1, rfl, rfl, rfl⟩
 refine sAl rfl fun b2 => ?_
 refine wAc (jT (wAb (wAa (jp rfl (wAc (jT (wAb (wAb (wAa (sFL rfl rfl ?_))))))))))
 refine wAi rfl rfl (wBj rfl rfl rfl) ?_
 refine jp rfl (wAc (jT (wAh ?_)))
 refine wAv (α := Nat) (fun k => [(1, .pointer (some ⟨b1, 0, none⟩)), (2, .pointer (some ⟨b2, 0, none⟩)), (3, .int .i64 ((128 * k : Nat) : Int)), (15, .slice a1 bs.length c1), (16, .int .i64 bs.length), (17, .int .i64 k)]) (fun _ => M) (fun _ => [(b2, .cells [.slice none 0 0, .slice none 0 0].toArray 25 (0, 0)), (b1, .cells [.slice a1 bs.length c1, .slice a2 ws.length c2].toArray 25 (0, 0))]) (fun k => k ≤ bs.length) (fun k => bs.length - k)
  0 (.cons (t := 1) rfl (.cons (t := 2) rfl (.cons (t := 3) rfl (.cons (t := 15) rfl (.cons (t := 16) rfl (.cons (t := 17) rfl .nil)))))) (Nat.zero_le _) (fun _ h => h) ?_
 rintro k hk
 try dsimp only at hk ⊢
 refine wAb (wAa (js rfl (fun h18 => ?_) (fun h18 => ?_)))
 ·refine wAc (jT (wAb (wAg rfl (wAd (jT (wAb (wAh (wAb (wAa ?_)))))))))
  have hk1 : k < bs.length := by omega
  obtain ⟨sb, so, e0, hx⟩ := hs1.open (by intro e; have := congrArg List.length e; rw [List.length_map, List.length_nil] at this; have h2 := congrArg List.length hp1; rw [List.length_map] at h2; omega)
  subst e0
  obtain ⟨va, vc, hcl, hvc, hvs⟩ := wEy hx hp1 hb1 hk1
  have hl1 := hq3 bs[k] (List.getElem_mem _)
  refine wAi rfl rfl (wBe rfl rfl rfl rfl (by omega)) ?_
  refine wAi rfl rfl (qLd rfl rfl rfl rfl (hcl.cj _)) ?_
  refine jp rfl (wAc (jT (wAa (jp rfl (jp rfl (wAi rfl rfl (wBj rfl rfl rfl) ?_))))))
  refine ja rfl (by omega) ?_
  refine jp rfl (wAc (jB (jT (wAa (ja rfl (by omega) ?_)))))
  refine jp rfl (wAc ?_)
  refine wAp (k + 1) (.cons (t := 1) rfl (.cons (t := 2) rfl (Keep.ceq (t := 3) rfl (by rw [hl1]; congr 1) (.cons (t := 15) rfl (.cons (t := 16) rfl (.cons (t := 17) rfl .nil)))))) (by show k + 1 ≤ bs.length; omega) (by show bs.length - (k + 1) < bs.length - k; omega) (fun _ h => h)
 refine wAc (jT (wAb (wAk rfl (wAw (jTx (jTx (jBx (jT (wAb (wAb (wAa (sFL rfl rfl ?_))))))))))))
 refine wAi rfl rfl (wBj rfl rfl rfl) ?_
 refine jp rfl (wAc (jT (wAh ?_)))
 obtain rfl : k = bs.length := by omega
 refine wAv (α := Nat) (fun k => [(1, .pointer (some ⟨b1, 0, none⟩)), (2, .pointer (some ⟨b2, 0, none⟩)), (3, .int .i64 ((128 * (bs.length + k) : Nat) : Int)), (27, .slice a2 ws.length c2), (28, .int .i64 ws.length), (29, .int .i64 k)]) (fun _ => M) (fun _ => [(b2, .cells [.slice none 0 0, .slice none 0 0].toArray 25 (0, 0)), (b1, .cells [.slice a1 bs.length c1, .slice a2 ws.length c2].toArray 25 (0, 0))]) (fun k => k ≤ ws.length) (fun k => ws.length - k)
  0 (.cons (t := 1) rfl (.cons (t := 2) rfl (.cons (t := 3) rfl (.cons (t := 27) rfl (.cons (t := 28) rfl (.cons (t := 29) rfl .nil)))))) (Nat.zero_le _) (fun _ h => h) ?_
 rintro k hk
 try dsimp only at hk ⊢
 refine wAb (wAa (js rfl (fun h30 => ?_) (fun h30 => ?_)))
 ·refine wAc (jT (wAb (wAg rfl (wAd (jT (wAb (wAh (wAb (wAa ?_)))))))))
  have hk1 : k < ws.length := by omega
  obtain ⟨sb, so, e0, hx⟩ := hs2.open (by intro e; have := congrArg List.length e; rw [wBi wCv 2 wDn, List.length_nil] at this; have h2 := congrArg List.length hp2; rw [List.length_map] at h2; omega)
  subst e0
  obtain ⟨va, vc, hcl, hvc, hvs⟩ := wKv hx hp2 hb2 hk1
  have hl1 := (hq4 ws[k] (List.getElem_mem _)).2.2
  refine wAi rfl rfl (wBe rfl rfl rfl rfl (by omega)) ?_
  refine wAi rfl rfl (wGx (cs := wtc ws[k] va vc) rfl rfl rfl rfl rfl (fun i v hv => (hcl i v hv).cj _)) ?_
  refine sAl rfl fun b7 => ?_
  refine sSt rfl ?_
  refine wAc (jT (wAa (jp rfl (sFL rfl rfl ?_))))
  refine wAi rfl rfl (wBj rfl rfl rfl) ?_
  refine ja rfl (by omega) ?_
  refine jp rfl (wAc (jB (jT (wAa (ja rfl (by omega) ?_)))))
  refine jp rfl (wAc ?_)
  refine wAp (k + 1) (.cons (t := 1) rfl (.cons (t := 2) rfl (Keep.ceq (t := 3) rfl (by rw [hl1]; congr 1) (.cons (t := 27) rfl (.cons (t := 28) rfl (.cons (t := 29) rfl .nil)))))) (by show k + 1 ≤ ws.length; omega) (by show ws.length - (k + 1) < ws.length - k; omega) (fun _ h => h.fewer (by simp))
 refine wAc (jT (wAb (wAk rfl (wAw (jTx (jTx (jBx (jT (wAb (wAa (jp rfl ?_)))))))))))
 obtain rfl : k = ws.length := by omega
 refine wAy rfl rfl (hMake rfl rfl rfl rfl (by omega) (by rfl)) ?_; rintro _ _ _ ⟨b40, rfl, rfl, rfl⟩
 rw [hcells_zero]
 refine sAl rfl fun b8 => ?_
 refine sSt rfl ?_
 refine wAc (jT (wAb (wFr ([(b1, .cells [.slice a1 bs.length c1, .slice a2 ws.length c2].toArray 25 (0, 0))]) (by kernel_rfl) (by simp) ?_)))
 refine wDx (i := 0) rfl (by kernel_rfl) (by kernel_rfl) rfl rfl (wBg rfl rfl rfl rfl rfl) ?_
 refine wDx (i := 1) rfl (by kernel_rfl) (by kernel_rfl) rfl rfl (qLd rfl rfl rfl rfl (CJ.loc rfl)) ?_
 refine wDx (i := 2) rfl (by kernel_rfl) (by kernel_rfl) rfl rfl (wBj rfl rfl rfl) ?_
 refine wDx (i := 4) rfl (by kernel_rfl) (by kernel_rfl) rfl rfl (wBg rfl rfl rfl rfl rfl) ?_
 refine wDx (i := 5) rfl (by kernel_rfl) (by kernel_rfl) rfl rfl (qLd rfl rfl rfl rfl (CJ.loc rfl)) ?_
 refine wDx (i := 6) rfl (by kernel_rfl) (by kernel_rfl) rfl rfl (wBj rfl rfl rfl) ?_
 refine wDx (i := 7) rfl (by kernel_rfl) (by kernel_rfl) rfl rfl (wBg rfl rfl rfl rfl rfl) ?_
 refine wDx (i := 8) rfl (by kernel_rfl) (by kernel_rfl) rfl rfl (qLd rfl rfl rfl rfl (CJ.loc rfl)) ?_
 refine wDx (i := 9) rfl (by kernel_rfl) (by kernel_rfl) rfl rfl (wBj rfl rfl rfl) ?_
 refine wDx (i := 10) rfl (by kernel_rfl) (by kernel_rfl) rfl rfl (qA rfl rfl rfl rfl rfl (by omega)) ?_
 refine wFs (α := Nat × Nat × Nat) (fun _ => True) (fun x => [(1, .pointer (some ⟨b1, 0, none⟩)), (2, .pointer (some ⟨b2, 0, none⟩)), (8, .pointer (some ⟨b8, 0, none⟩)), (9, .pointer (some ⟨x.2.2, 0, none⟩)), (53, .agg [.slice (some ⟨x.1, 0, none⟩) bs.length bs.length, .slice (some ⟨x.2.1, 0, none⟩) ws.length (ws.length + 1)].toArray)]) (fun _ => M) (fun x => [(b8, .cells [.slice (some ⟨b40, 0, none⟩) (128 * (bs.length + ws.length - (0))) (128 * (bs.length + ws.length - (0)))].toArray THp (0, 0)), (b40, .cells (wEk ((bs ++ ws.map (·.2)).take (0)).flatten (128 * (bs.length + ws.length - (0)))).toArray 5 (0, 0)), (x.1, .cells (blC b40 bs.length 0).toArray 26 (0, 0)), (x.2.1, .cells (wrC b40 bs.length ws 0).toArray WT (0, 0)), (x.2.2, .cells [.slice none 0 0, .slice none 0 0].toArray 25 (0, 0)), (b2, .cells [.slice none 0 0, .slice none 0 0].toArray 25 (0, 0)), (b1, .cells [.slice a1 bs.length c1, .slice a2 ws.length c2].toArray 25 (0, 0))]) 1 #[true, true, true, true, true, true, true, true, true, true, true, true, true, true, false] ?_ (fun rest => ?_)
 ·rintro ⟨b44, b52, b9⟩ _
  try dsimp only
  refine wHa (i := 14) (by kernel_rfl) ?_
  refine js_s rfl rfl (wBm rfl rfl rfl rfl rfl rfl rfl rfl) ?_; rintro _ _ _ ⟨rfl, rfl⟩
  refine wAo (MLe.refl _) (by simp) ?_
  refine wJy (by kernel_rfl) ?_
  refine jPn (jT (wAb (wAb (wAa (sFL rfl rfl ?_)))))
  refine wAi rfl rfl (wBj rfl rfl rfl) ?_
  refine jp rfl (wAc (jT (wAh ?_)))
  refine wAv (α := Nat × Option Addr) (fun x => [(1, .pointer (some ⟨b1, 0, none⟩)), (2, .pointer (some ⟨b2, 0, none⟩)), (8, .pointer (some ⟨b8, 0, none⟩)), (9, .pointer (some ⟨b9, 0, none⟩)), (55, .slice a1 bs.length c1), (56, .int .i64 bs.length), (57, .int .i64 (x.1 : Int))]) (fun _ => M) (fun x => [(b8, .cells [.slice x.2 (128 * (bs.length + ws.length - (x.1))) (128 * (bs.length + ws.length - (x.1)))].toArray THp (0, 0)), (b40, .cells (wEk ((bs ++ ws.map (·.2)).take (x.1)).flatten (128 * (bs.length + ws.length - (x.1)))).toArray 5 (0, 0)), (b44, .cells (blC b40 bs.length (x.1)).toArray 26 (0, 0)), (b52, .cells (wrC b40 bs.length ws (0)).toArray WT (0, 0)), (b9, .cells [.slice (some ⟨b44, 0, none⟩) bs.length bs.length, .slice (some ⟨b52, 0, none⟩) ws.length (ws.length + 1)].toArray 25 (0, 0)), (b2, .cells [.slice none 0 0, .slice none 0 0].toArray 25 (0, 0)), (b1, .cells [.slice a1 bs.length c1, .slice a2 ws.length c2].toArray 25 (0, 0))]) (fun x => x.1 ≤ bs.length ∧ (0 < 128 * (bs.length + ws.length - x.1) → x.2 = some ⟨b40, ((bs ++ ws.map (·.2)).take (x.1)).flatten.length, none⟩)) (fun x => bs.length - x.1)
   (0, some ⟨b40, 0, none⟩) (.cons (t := 1) rfl (.cons (t := 2) rfl (.cons (t := 8) rfl (.cons (t := 9) rfl (.cons (t := 55) rfl (.cons (t := 56) rfl (.cons (t := 57) rfl .nil))))))) ⟨Nat.zero_le _, fun _ => rfl⟩ (fun _ h => h) ?_
  rintro ⟨k, A⟩ ⟨hk, hA⟩
  try dsimp only at hk hA ⊢
  refine wAb (wAa (js rfl (fun h58 => ?_) (fun h58 => ?_)))
  ·refine wAc (jT (wAb (wAg rfl (wAd (jT (wAb (wAh (wAb (wAa (jp rfl ?_))))))))))
   have hk1 : k < bs.length := by omega
   obtain ⟨sb, so, e0, hx⟩ := hs1.open (by intro e; have := congrArg List.length e; rw [List.length_map, List.length_nil] at this; have h2 := congrArg List.length hp1; rw [List.length_map] at h2; omega)
   subst e0
   obtain ⟨va, vc, hcl, hvc, hvs⟩ := wEy hx hp1 hb1 hk1
   have hl1 := hq3 bs[k] (List.getElem_mem _)
   refine wAi rfl rfl (wBe rfl rfl rfl rfl (by omega)) ?_
   refine wAi rfl rfl (qLd rfl rfl rfl rfl (hcl.cj _)) ?_
   refine jp rfl (jp rfl (wAc (jT (wBp [(0, true), (1, true), (2, true), (3, true), (4, false), (5, true), (6, false)] [(b9, .cells [.slice (some ⟨b44, 0, none⟩) bs.length bs.length, .slice (some ⟨b52, 0, none⟩) ws.length (ws.length + 1)].toArray 25 (0, 0))] (by kernel_rfl) (by kernel_rfl) (by kernel_rfl) rfl (by simp) ?_))))
   refine dFa rfl rfl ?_
   refine dLd rfl rfl ?_
   iterate 2 refine dp rfl rfl ?_
   obtain rfl : A = some ⟨b40, ((bs ++ ws.map (·.2)).take (k)).flatten.length, none⟩ := hA (by omega)
   have hst := wJn (bs := bs ++ ws.map (·.2)) (k := k) (by omega)
   rw [List.getElem_append_left hk1] at hst
   have hp1' := hpl k (by omega)
   refine wHc rfl rfl rfl (wAu rfl rfl rfl rfl rfl (by kernel_rfl) (clone_walk b8 b40 ((bs ++ ws.map (·.2)).take (k)).flatten bs[k] (128 * (bs.length + ws.length - (k))) va vc M hvc hvs (by omega) (by omega) (by omega))) ?_; rintro _ M' _ ⟨_, _, rfl, ⟨rfl, rfl, rfl⟩⟩
   refine ⟨_, _, MLe.refl _, MLe.refl _, fun _ h => h, by simp, ?_⟩
   rw [hp1', hl1, ← hst, show 128 * (bs.length + ws.length - k) - 128 = 128 * (bs.length + ws.length - (k + 1)) by omega, show (Value.slice (some ⟨b40, 128 * k, none⟩) 128 128) = cutV b40 k from rfl]
   refine wBq rfl rfl rfl (wBe rfl rfl rfl rfl (by omega)) ?_
   refine jd_s rfl rfl (hStore rfl rfl rfl rfl rfl rfl (by simp [Value.oneCell', cutV]) (by rw [blC_len (by omega)]; show _ + 1 ≤ _; omega)) ?_; rintro _ _ _ ⟨rfl, rfl⟩
   refine ⟨_, _, MLe.refl _, MLe.refl _, fun _ h => h, by simp, ?_⟩
   rw [blC_step (by omega) (by omega)]
   refine wBd (jPn (jB (jT (wAa (ja rfl (by omega) ?_)))))
   refine jp rfl (wAc ?_)
   refine wAp (k + 1, slA (some ⟨b40, 128 * k, none⟩) 128 (128 * (bs.length + ws.length - k)) 1) (.cons (t := 1) rfl (.cons (t := 2) rfl (.cons (t := 8) rfl (.cons (t := 9) rfl (.cons (t := 55) rfl (.cons (t := 56) rfl (.cons (t := 57) rfl .nil))))))) ⟨by show k + 1 ≤ bs.length; omega, ?_⟩ (by show bs.length - (k + 1) < bs.length - k; omega) (fun _ h => h)
   intro h0; replace h0 : 0 < 128 * (bs.length + ws.length - (k + 1)) := h0; show slA _ _ _ _ = some ⟨b40, ((bs ++ ws.map (·.2)).take (k + 1)).flatten.length, none⟩
   rw [wBn (by omega), hpl (k + 1) (by omega)]; congr 2
  refine wAc (jT (wAb (wAk rfl (wAw (jTx (jTx (jBx (jT (wAb (wAb (wAa (sFL rfl rfl ?_))))))))))))
  refine wAi rfl rfl (wBj rfl rfl rfl) ?_
  refine jp rfl (wAc (jT (wAh ?_)))
  obtain rfl : k = bs.length := by omega
  refine wAv (α := Nat × Option Addr) (fun x => [(1, .pointer (some ⟨b1, 0, none⟩)), (2, .pointer (some ⟨b2, 0, none⟩)), (8, .pointer (some ⟨b8, 0, none⟩)), (9, .pointer (some ⟨b9, 0, none⟩)), (70, .slice a2 ws.length c2), (71, .int .i64 ws.length), (72, .int .i64 (x.1 : Int))]) (fun _ => M) (fun x => [(b8, .cells [.slice x.2 (128 * (bs.length + ws.length - (bs.length + x.1))) (128 * (bs.length + ws.length - (bs.length + x.1)))].toArray THp (0, 0)), (b40, .cells (wEk ((bs ++ ws.map (·.2)).take (bs.length + x.1)).flatten (128 * (bs.length + ws.length - (bs.length + x.1)))).toArray 5 (0, 0)), (b44, .cells (blC b40 bs.length (bs.length)).toArray 26 (0, 0)), (b52, .cells (wrC b40 bs.length ws (x.1)).toArray WT (0, 0)), (b9, .cells [.slice (some ⟨b44, 0, none⟩) bs.length bs.length, .slice (some ⟨b52, 0, none⟩) ws.length (ws.length + 1)].toArray 25 (0, 0)), (b2, .cells [.slice none 0 0, .slice none 0 0].toArray 25 (0, 0)), (b1, .cells [.slice a1 bs.length c1, .slice a2 ws.length c2].toArray 25 (0, 0))]) (fun x => x.1 ≤ ws.length ∧ (0 < 128 * (bs.length + ws.length - (bs.length + x.1)) → x.2 = some ⟨b40, ((bs ++ ws.map (·.2)).take (bs.length + x.1)).flatten.length, none⟩)) (fun x => ws.length - x.1)
   (0, A) (.cons (t := 1) rfl (.cons (t := 2) rfl (.cons (t := 8) rfl (.cons (t := 9) rfl (.cons (t := 70) rfl (.cons (t := 71) rfl (.cons (t := 72) rfl .nil))))))) ⟨Nat.zero_le _, hA⟩ (fun _ h => h) ?_
  rintro ⟨k, A⟩ ⟨hk, hA⟩
  try dsimp only at hk hA ⊢
  refine wAb (wAa (js rfl (fun h73 => ?_) (fun h73 => ?_)))
  ·refine wAc (jT (wAb (wAg rfl (wAd (jT (wAb (wAh (wAb (wAa (jp rfl ?_))))))))))
   have hk1 : k < ws.length := by omega
   obtain ⟨sb, so, e0, hx⟩ := hs2.open (by intro e; have := congrArg List.length e; rw [wBi wCv 2 wDn, List.length_nil] at this; have h2 := congrArg List.length hp2; rw [List.length_map] at h2; omega)
   subst e0
   obtain ⟨va, vc, hcl, hvc, hvs⟩ := wKv hx hp2 hb2 hk1
   have hl1 := (hq4 ws[k] (List.getElem_mem _)).2.2
   refine wAi rfl rfl (wBe rfl rfl rfl rfl (by omega)) ?_
   refine wAi rfl rfl (wGx (cs := wtc ws[k] va vc) rfl rfl rfl rfl rfl (fun i v hv => (hcl i v hv).cj _)) ?_
   refine sAl rfl fun b13 => ?_
   refine jp rfl (sSt rfl ?_)
   refine wAc (jT (wBp [(0, true), (1, true), (2, true), (3, true), (4, true), (5, true), (6, true), (7, false), (8, true), (9, true), (10, false)] [(b13, .cells (wtc ws[k] va vc).toArray WT (0, 0)), (b9, .cells [.slice (some ⟨b44, 0, none⟩) bs.length bs.length, .slice (some ⟨b52, 0, none⟩) ws.length (ws.length + 1)].toArray 25 (0, 0))] (by kernel_rfl) (by kernel_rfl) (by kernel_rfl) rfl (by simp) ?_))
   refine dFa rfl rfl ?_
   refine dLd rfl rfl ?_
   refine dp rfl rfl ?_
   refine dFa rfl rfl ?_
   refine dLd rfl rfl ?_
   refine dFa rfl rfl ?_
   refine dLd rfl rfl ?_
   obtain rfl : A = some ⟨b40, ((bs ++ ws.map (·.2)).take (bs.length + k)).flatten.length, none⟩ := hA (by omega)
   have hst := wJn (bs := bs ++ ws.map (·.2)) (k := bs.length + k) (by omega)
   rw [List.getElem_append_right (by omega)] at hst
   simp only [Nat.add_sub_cancel_left, List.getElem_map] at hst
   have hp1' := hpl (bs.length + k) (by omega)
   refine wHc rfl rfl rfl (wAu rfl rfl rfl rfl rfl (by kernel_rfl) (clone_walk b8 b40 ((bs ++ ws.map (·.2)).take (bs.length + k)).flatten ws[k].2 (128 * (bs.length + ws.length - (bs.length + k))) va vc M hvc hvs (by omega) (by omega) (by omega))) ?_; rintro _ M' _ ⟨_, _, rfl, ⟨rfl, rfl, rfl⟩⟩
   refine ⟨_, _, MLe.refl _, MLe.refl _, fun _ h => h, by simp, ?_⟩
   rw [hp1', hl1, ← hst, show 128 * (bs.length + ws.length - (bs.length + k)) - 128 = 128 * (bs.length + ws.length - (bs.length + (k + 1))) by omega, show (Value.slice (some ⟨b40, 128 * (bs.length + k), none⟩) 128 128) = cutV b40 (bs.length + k) from rfl]
   refine wBq rfl rfl rfl (wBa (cs := [_, _]) rfl rfl rfl (by rfl)) ?_
   refine wBq rfl rfl rfl (wBe rfl rfl rfl rfl (by omega)) ?_
   refine jd_s rfl rfl (hStore (cs := [.int .i64 ws[k].1, cutV b40 (bs.length + k)]) rfl rfl rfl rfl rfl rfl (by simp [Value.oneCell', cutV]) (by rw [wrC_len (by omega)]; show _ + 2 ≤ _; omega)) ?_; rintro _ _ _ ⟨rfl, rfl⟩
   refine ⟨_, _, MLe.refl _, MLe.refl _, fun _ h => h, by simp, ?_⟩
   rw [wrC_step (by omega) (by omega) (by rw [show ws.getD k (0, []) = ws[k] from wCp hk1 _])]
   refine wBd (jPn (jB (jT (wAa (ja rfl (by omega) ?_)))))
   refine jp rfl (wAc ?_)
   refine wAp (k + 1, slA (some ⟨b40, 128 * (bs.length + k), none⟩) 128 (128 * (bs.length + ws.length - (bs.length + k))) 1) (.cons (t := 1) rfl (.cons (t := 2) rfl (.cons (t := 8) rfl (.cons (t := 9) rfl (.cons (t := 70) rfl (.cons (t := 71) rfl (.cons (t := 72) rfl .nil))))))) ⟨by show k + 1 ≤ ws.length; omega, ?_⟩ (by show ws.length - (k + 1) < ws.length - k; omega) (fun _ h => h.fewer (.cons_cons _ (.cons_cons _ (.cons _ (.refl _)))))
   intro h0; replace h0 : 0 < 128 * (bs.length + ws.length - (bs.length + (k + 1))) := h0; show slA _ _ _ _ = some ⟨b40, ((bs ++ ws.map (·.2)).take (bs.length + (k + 1))).flatten.length, none⟩
   rw [wBn (by omega), hpl (bs.length + (k + 1)) (by omega)]; congr 2
  refine wAc (jT (wAb (wAk rfl (wAw (jTx (jTx (jBx (jT (wAb (wAa (sLL rfl ?_)))))))))))
  refine sSt rfl ?_
  refine wAc (jT (wAe ?_))
  obtain rfl : k = ws.length := by omega
  refine jq_freezeN b40 (by simp) ?_
  intro Ma hMa n40 e40
  refine wEe b44 (by simp) ?_
  intro Mb hMb e44
  refine wDa (rs := [_]) ([(b52, .cells (wrC b40 bs.length ws (ws.length)).toArray WT (0, 0))]) (by first | exact List.sublist_append_of_sublist_left (.refl _) | simp) rfl (.cons (.agg rfl rfl rfl) .nil) ?_
  have e40c := hMb _ _ e40
  rw [Nat.sub_self, Nat.mul_zero, List.take_of_length_le (by omega)] at e40c
  have e44c := e44
  have hhn : HbN M Mb b40 (bs.length + ws.length) := ⟨n40, (bs ++ ws.map (·.2)).flatten, by rw [wKp hds, hdl]; omega, by have e := e40c; unfold wEk at e; rw [List.replicate_zero, List.append_nil] at e; exact e⟩
  refine ⟨b40, b44, _, rfl, ?_, hhn, (List.range ws.length).map (fun j => (ws.getD j (0, []), cutV b40 (bs.length + j))), ?_, ?_, ?_, ?_⟩
  ·refine ⟨_, _, (List.range bs.length).map (fun j => (bs.getD j [], cutV b40 j)), rfl, Nat.le_refl _, ?_, ?_, ?_⟩
   ·rw [List.map_map]; have := SM.of_block e44c; unfold blC at this; rw [Nat.sub_self, List.replicate_zero, List.append_nil] at this; exact this
   ·rw [List.map_map]; exact range_getD bs
   intro p hp; obtain ⟨j, hj, rfl⟩ := List.mem_map.1 hp
   have hj1 := List.mem_range.1 hj
   have := cut_bs hds e40c (j := j) (by omega)
   rw [List.getElem_append_left hj1] at this
   show BS _ _ (bs.getD j []); rw [wCp hj1]; exact this
  ·rw [List.map_map]; exact range_getW ws
  ·intro p hp; obtain ⟨j, hj, rfl⟩ := List.mem_map.1 hp
   have hj1 := List.mem_range.1 hj
   have := cut_bs hds e40c (j := bs.length + j) (by omega)
   rw [List.getElem_append_right (by omega)] at this
   simp only [Nat.add_sub_cancel_left, List.getElem_map] at this
   show BS _ _ (ws.getD j (0, [])).2; rw [wCp hj1]; exact this
  ·intro j hj; exact ⟨_, by rw [List.getElem?_map, List.getElem?_range hj]; rfl⟩
  have hfl : ((List.range ws.length).map (fun j => (ws.getD j (0, []), cutV b40 (bs.length + j)))).flatMap wCv = (List.range ws.length).flatMap (fun j => [Value.int .i64 (ws.getD j (0, [])).1, cutV b40 (bs.length + j)]) := by rw [List.flatMap_map]; rfl
  have hl2 : ((List.range ws.length).flatMap (fun j => [Value.int .i64 (ws.getD j (0, [])).1, cutV b40 (bs.length + j)])).length = ws.length * 2 := by rw [← hfl, wBi wCv 2 wDn]; simp
  rw [hfl]
  refine ⟨hl2, .inr ⟨b52, ws.length + 1, _, rfl, rfl, Nat.le_succ _, ?_, ?_, ?_⟩⟩
  ·unfold maxLen; omega
  ·rw [show (wrC b40 bs.length ws ws.length).toArray.size = (wrC b40 bs.length ws ws.length).length from rfl, wrC_len (Nat.le_refl _)]; omega
  show (wrC b40 bs.length ws ws.length).take (ws.length * 2) = _
  unfold wrC; exact List.take_left' hl2
 refine wBc [3, 11, 13] (by kernel_rfl) rfl ⟨?_, ?_, ?_, trivial⟩
 ·refine wDe rfl rfl rfl (hMake rfl rfl rfl rfl (by omega) (by rfl)) ?_; rintro _ _ _ ⟨b44, rfl, rfl, rfl⟩
  refine wAo (MLe.refl _) (by simp) ?_
  rw [wMb b40]
  refine wBc [11, 13] (by kernel_rfl) rfl ⟨?_, ?_, trivial⟩
  ·refine wDe rfl rfl rfl (hMake rfl rfl rfl rfl (by omega) (by rfl)) ?_; rintro _ _ _ ⟨b52, rfl, rfl, rfl⟩
   refine wAo (MLe.refl _) (by simp) ?_
   rw [wKt b40 bs.length ws _ (by omega)]
   refine wDx (i := 12) rfl (by kernel_rfl) (by kernel_rfl) rfl rfl (wBa (cs := [_, _]) rfl rfl rfl (by rfl)) ?_
   refine wBc [13] (by kernel_rfl) rfl ⟨?_, trivial⟩
   refine wDe rfl rfl rfl (wDy rfl rfl) ?_; rintro _ _ _ ⟨b9, rfl, rfl, rfl⟩
   refine wAo (MLe.refl _) (by simp) ?_
   refine wCa (listed' := #[true, true, true, true, true, true, true, true, true, true, true, true, true, true, false]) (by kernel_rfl) (wBy (.cons (t := 1) rfl (.cons (t := 2) rfl (.cons (t := 8) rfl (.cons (t := 9) rfl (.cons (t := 53) rfl .nil))))) ?_)
   refine wGo (M2 := M) (L2 := [(b8, .cells [.slice (some ⟨b40, 0, none⟩) (128 * (bs.length + ws.length - (0))) (128 * (bs.length + ws.length - (0)))].toArray THp (0, 0)), (b40, .cells (wEk ((bs ++ ws.map (·.2)).take (0)).flatten (128 * (bs.length + ws.length - (0)))).toArray 5 (0, 0)), (b44, .cells (blC b40 bs.length (0)).toArray 26 (0, 0)), (b52, .cells (wrC b40 bs.length ws (0)).toArray WT (0, 0)), (b9, .cells [.slice none 0 0, .slice none 0 0].toArray 25 (0, 0)), (b2, .cells [.slice none 0 0, .slice none 0 0].toArray 25 (0, 0)), (b1, .cells [.slice a1 bs.length c1, .slice a2 ws.length c2].toArray 25 (0, 0))]) (fun w h => h.perm ((Rm.perm (g := b8)).trans (List.Perm.cons _ ((Rm.perm (g := b40)).trans (List.Perm.cons _ ((Rm.perm (g := b44)).trans (List.Perm.cons _ ((Rm.perm (g := b52)).trans (List.Perm.cons _ (Rm.perm (g := b9))))))))))) (MLe.refl _) (by simp) ?_
   exact rest (b44, b52, b9) trivial
  refine wDe rfl rfl rfl (wDy rfl rfl) ?_; rintro _ _ _ ⟨b9, rfl, rfl, rfl⟩
  refine wAo (MLe.refl _) (by simp) ?_
  refine wBc [11] (by kernel_rfl) rfl ⟨?_, trivial⟩
  refine wDe rfl rfl rfl (hMake rfl rfl rfl rfl (by omega) (by rfl)) ?_; rintro _ _ _ ⟨b52, rfl, rfl, rfl⟩
  refine wAo (MLe.refl _) (by simp) ?_
  rw [wKt b40 bs.length ws _ (by omega)]
  refine wDx (i := 12) rfl (by kernel_rfl) (by kernel_rfl) rfl rfl (wBa (cs := [_, _]) rfl rfl rfl (by rfl)) ?_
  refine wCa (listed' := #[true, true, true, true, true, true, true, true, true, true, true, true, true, true, false]) (by kernel_rfl) (wBy (.cons (t := 1) rfl (.cons (t := 2) rfl (.cons (t := 8) rfl (.cons (t := 9) rfl (.cons (t := 53) rfl .nil))))) ?_)
  refine wGo (M2 := M) (L2 := [(b8, .cells [.slice (some ⟨b40, 0, none⟩) (128 * (bs.length + ws.length - (0))) (128 * (bs.length + ws.length - (0)))].toArray THp (0, 0)), (b40, .cells (wEk ((bs ++ ws.map (·.2)).take (0)).flatten (128 * (bs.length + ws.length - (0)))).toArray 5 (0, 0)), (b44, .cells (blC b40 bs.length (0)).toArray 26 (0, 0)), (b52, .cells (wrC b40 bs.length ws (0)).toArray WT (0, 0)), (b9, .cells [.slice none 0 0, .slice none 0 0].toArray 25 (0, 0)), (b2, .cells [.slice none 0 0, .slice none 0 0].toArray 25 (0, 0)), (b1, .cells [.slice a1 bs.length c1, .slice a2 ws.length c2].toArray 25 (0, 0))]) (fun w h => h.perm ((Rm.perm (g := b8)).trans (List.Perm.cons _ ((Rm.perm (g := b40)).trans (List.Perm.cons _ ((Rm.perm (g := b44)).trans (List.Perm.cons _ ((Rm.perm (g := b52)).trans (List.Perm.cons _ (Rm.perm (g := b9))))))))))) (MLe.refl _) (by simp) ?_
  exact rest (b44, b52, b9) trivial
 ·refine wDe rfl rfl rfl (hMake rfl rfl rfl rfl (by omega) (by rfl)) ?_; rintro _ _ _ ⟨b52, rfl, rfl, rfl⟩
  refine wAo (MLe.refl _) (by simp) ?_
  rw [wKt b40 bs.length ws _ (by omega)]
  refine wBc [3, 13] (by kernel_rfl) rfl ⟨?_, ?_, trivial⟩
  ·refine wDe rfl rfl rfl (hMake rfl rfl rfl rfl (by omega) (by rfl)) ?_; rintro _ _ _ ⟨b44, rfl, rfl, rfl⟩
   refine wAo (MLe.refl _) (by simp) ?_
   rw [wMb b40]
   refine wDx (i := 12) rfl (by kernel_rfl) (by kernel_rfl) rfl rfl (wBa (cs := [_, _]) rfl rfl rfl (by rfl)) ?_
   refine wBc [13] (by kernel_rfl) rfl ⟨?_, trivial⟩
   refine wDe rfl rfl rfl (wDy rfl rfl) ?_; rintro _ _ _ ⟨b9, rfl, rfl, rfl⟩
   refine wAo (MLe.refl _) (by simp) ?_
   refine wCa (listed' := #[true, true, true, true, true, true, true, true, true, true, true, true, true, true, false]) (by kernel_rfl) (wBy (.cons (t := 1) rfl (.cons (t := 2) rfl (.cons (t := 8) rfl (.cons (t := 9) rfl (.cons (t := 53) rfl .nil))))) ?_)
   refine wGo (M2 := M) (L2 := [(b8, .cells [.slice (some ⟨b40, 0, none⟩) (128 * (bs.length + ws.length - (0))) (128 * (bs.length + ws.length - (0)))].toArray THp (0, 0)), (b40, .cells (wEk ((bs ++ ws.map (·.2)).take (0)).flatten (128 * (bs.length + ws.length - (0)))).toArray 5 (0, 0)), (b44, .cells (blC b40 bs.length (0)).toArray 26 (0, 0)), (b52, .cells (wrC b40 bs.length ws (0)).toArray WT (0, 0)), (b9, .cells [.slice none 0 0, .slice none 0 0].toArray 25 (0, 0)), (b2, .cells [.slice none 0 0, .slice none 0 0].toArray 25 (0, 0)), (b1, .cells [.slice a1 bs.length c1, .slice a2 ws.length c2].toArray 25 (0, 0))]) (fun w h => h.perm ((Rm.perm (g := b8)).trans (List.Perm.cons _ ((Rm.perm (g := b40)).trans (List.Perm.cons _ ((Rm.perm (g := b44)).trans (List.Perm.cons _ ((Rm.perm (g := b52)).trans (List.Perm.cons _ (Rm.perm (g := b9))))))))))) (MLe.refl _) (by simp) ?_
   exact rest (b44, b52, b9) trivial
  refine wDe rfl rfl rfl (wDy rfl rfl) ?_; rintro _ _ _ ⟨b9, rfl, rfl, rfl⟩
  refine wAo (MLe.refl _) (by simp) ?_
  refine wBc [3] (by kernel_rfl) rfl ⟨?_, trivial⟩
  refine wDe rfl rfl rfl (hMake rfl rfl rfl rfl (by omega) (by rfl)) ?_; rintro _ _ _ ⟨b44, rfl, rfl, rfl⟩
  refine wAo (MLe.refl _) (by simp) ?_
  rw [wMb b40]
  refine wDx (i := 12) rfl (by kernel_rfl) (by kernel_rfl) rfl rfl (wBa (cs := [_, _]) rfl rfl rfl (by rfl)) ?_
  refine wCa (listed' := #[true, true, true, true, true, true, true, true, true, true, true, true, true, true, false]) (by kernel_rfl) (wBy (.cons (t := 1) rfl (.cons (t := 2) rfl (.cons (t := 8) rfl (.cons (t := 9) rfl (.cons (t := 53) rfl .nil))))) ?_)
  refine wGo (M2 := M) (L2 := [(b8, .cells [.slice (some ⟨b40, 0, none⟩) (128 * (bs.length + ws.length - (0))) (128 * (bs.length + ws.length - (0)))].toArray THp (0, 0)), (b40, .cells (wEk ((bs ++ ws.map (·.2)).take (0)).flatten (128 * (bs.length + ws.length - (0)))).toArray 5 (0, 0)), (b44, .cells (blC b40 bs.length (0)).toArray 26 (0, 0)), (b52, .cells (wrC b40 bs.length ws (0)).toArray WT (0, 0)), (b9, .cells [.slice none 0 0, .slice none 0 0].toArray 25 (0, 0)), (b2, .cells [.slice none 0 0, .slice none 0 0].toArray 25 (0, 0)), (b1, .cells [.slice a1 bs.length c1, .slice a2 ws.length c2].toArray 25 (0, 0))]) (fun w h => h.perm ((Rm.perm (g := b8)).trans (List.Perm.cons _ ((Rm.perm (g := b40)).trans (List.Perm.cons _ ((Rm.perm (g := b44)).trans (List.Perm.cons _ ((Rm.perm (g := b52)).trans (List.Perm.cons _ (Rm.perm (g := b9))))))))))) (MLe.refl _) (by simp) ?_
  exact rest (b44, b52, b9) trivial
 refine wDe rfl rfl rfl (wDy rfl rfl) ?_; rintro _ _ _ ⟨b9, rfl, rfl, rfl⟩
 refine wAo (MLe.refl _) (by simp) ?_
 refine wBc [3, 11] (by kernel_rfl) rfl ⟨?_, ?_, trivial⟩
 ·refine wDe rfl rfl rfl (hMake rfl rfl rfl rfl (by omega) (by rfl)) ?_; rintro _ _ _ ⟨b44, rfl, rfl, rfl⟩
  refine wAo (MLe.refl _) (by simp) ?_
  rw [wMb b40]
  refine wBc [11] (by kernel_rfl) rfl ⟨?_, trivial⟩
  refine wDe rfl rfl rfl (hMake rfl rfl rfl rfl (by omega) (by rfl)) ?_; rintro _ _ _ ⟨b52, rfl, rfl, rfl⟩
  refine wAo (MLe.refl _) (by simp) ?_
  rw [wKt b40 bs.length ws _ (by omega)]
  refine wDx (i := 12) rfl (by kernel_rfl) (by kernel_rfl) rfl rfl (wBa (cs := [_, _]) rfl rfl rfl (by rfl)) ?_
  refine wCa (listed' := #[true, true, true, true, true, true, true, true, true, true, true, true, true, true, false]) (by kernel_rfl) (wBy (.cons (t := 1) rfl (.cons (t := 2) rfl (.cons (t := 8) rfl (.cons (t := 9) rfl (.cons (t := 53) rfl .nil))))) ?_)
  refine wGo (M2 := M) (L2 := [(b8, .cells [.slice (some ⟨b40, 0, none⟩) (128 * (bs.length + ws.length - (0))) (128 * (bs.length + ws.length - (0)))].toArray THp (0, 0)), (b40, .cells (wEk ((bs ++ ws.map (·.2)).take (0)).flatten (128 * (bs.length + ws.length - (0)))).toArray 5 (0, 0)), (b44, .cells (blC b40 bs.length (0)).toArray 26 (0, 0)), (b52, .cells (wrC b40 bs.length ws (0)).toArray WT (0, 0)), (b9, .cells [.slice none 0 0, .slice none 0 0].toArray 25 (0, 0)), (b2, .cells [.slice none 0 0, .slice none 0 0].toArray 25 (0, 0)), (b1, .cells [.slice a1 bs.length c1, .slice a2 ws.length c2].toArray 25 (0, 0))]) (fun w h => h.perm ((Rm.perm (g := b8)).trans (List.Perm.cons _ ((Rm.perm (g := b40)).trans (List.Perm.cons _ ((Rm.perm (g := b44)).trans (List.Perm.cons _ ((Rm.perm (g := b52)).trans (List.Perm.cons _ (Rm.perm (g := b9))))))))))) (MLe.refl _) (by simp) ?_
  exact rest (b44, b52, b9) trivial
 refine wDe rfl rfl rfl (hMake rfl rfl rfl rfl (by omega) (by rfl)) ?_; rintro _ _ _ ⟨b52, rfl, rfl, rfl⟩
 refine wAo (MLe.refl _) (by simp) ?_
 rw [wKt b40 bs.length ws _ (by omega)]
 refine wBc [3] (by kernel_rfl) rfl ⟨?_, trivial⟩
 refine wDe rfl rfl rfl (hMake rfl rfl rfl rfl (by omega) (by rfl)) ?_; rintro _ _ _ ⟨b44, rfl, rfl, rfl⟩
 refine wAo (MLe.refl _) (by simp) ?_
 rw [wMb b40]
 refine wDx (i := 12) rfl (by kernel_rfl) (by kernel_rfl) rfl rfl (wBa (cs := [_, _]) rfl rfl rfl (by rfl)) ?_
 refine wCa (listed' := #[true, true, true, true, true, true, true, true, true, true, true, true, true, true, false]) (by kernel_rfl) (wBy (.cons (t := 1) rfl (.cons (t := 2) rfl (.cons (t := 8) rfl (.cons (t := 9) rfl (.cons (t := 53) rfl .nil))))) ?_)
 refine wGo (M2 := M) (L2 := [(b8, .cells [.slice (some ⟨b40, 0, none⟩) (128 * (bs.length + ws.length - (0))) (128 * (bs.length + ws.length - (0)))].toArray THp (0, 0)), (b40, .cells (wEk ((bs ++ ws.map (·.2)).take (0)).flatten (128 * (bs.length + ws.length - (0)))).toArray 5 (0, 0)), (b44, .cells (blC b40 bs.length (0)).toArray 26 (0, 0)), (b52, .cells (wrC b40 bs.length ws (0)).toArray WT (0, 0)), (b9, .cells [.slice none 0 0, .slice none 0 0].toArray 25 (0, 0)), (b2, .cells [.slice none 0 0, .slice none 0 0].toArray 25 (0, 0)), (b1, .cells [.slice a1 bs.length c1, .slice a2 ws.length c2].toArray 25 (0, 0))]) (fun w h => h.perm ((Rm.perm (g := b8)).trans (List.Perm.cons _ ((Rm.perm (g := b40)).trans (List.Perm.cons _ ((Rm.perm (g := b44)).trans (List.Perm.cons _ ((Rm.perm (g := b52)).trans (List.Perm.cons _ (Rm.perm (g := b9))))))))))) (MLe.refl _) (by simp) ?_
 exact rest (b44, b52, b9) trivial
theorem dtwin_wspec (bs : List (List By)) (ws : List Wt) (u v : Value) (M : Mem) (h1 : LS M u bs) (h2 : WS M v ws) (h : dkOk bs ws) : SpecL Tryz.prog 65 #[.agg #[u, v]] M [] fun u M' L' => (∃ hb rb wa wc, u = .agg #[.slice (some ⟨rb, 0, none⟩) bs.length bs.length, .slice wa ws.length wc] ∧ LS M' (.slice (some ⟨rb, 0, none⟩) bs.length bs.length) bs ∧ WS M' (.slice wa ws.length wc) ws ∧ HbW M M' hb wa bs.length ws.length) ∧ L' = [] := by
 obtain ⟨a1, c1, ps1, rfl, hc1, hs1, hp1, hb1⟩ := h1
 obtain ⟨a2, c2, ps2, rfl, hc2, hs2, hp2, hb2⟩ := h2
 exact (dtwin_ownW bs ws a1 c1 ps1 a2 c2 ps2 M hc1 hs1 hp1 hb1 hc2 hs2 hp2 hb2 h).own fun v M' L' ⟨hb, rb, wv', h1, h2, hd, ps, h3, h4, hj, h5⟩ =>
  ⟨_, _, _, _, _, h5, fun M'' a c k1 k2 k3 k4 => ⟨⟨hb, rb, a, c, by rw [h1, k2], h2.mono k1, ⟨a, c, ps, rfl, k3, k4, h3, fun p hp => (h4 p hp).mono k1⟩, HbW.of (hd.mono k1) h3 k4 hj⟩, rfl⟩⟩
set_option maxHeartbeats 1000000 in
theorem rtwin_walkW (s : Sto) (bv wv nv lv : Value) (M : Mem) (h1 : LS M bv s.blocks) (h2 : WS M wv s.waits) (h3 : BS M nv s.now) (h4 : BS M lv s.last) (hdk : dkOk s.blocks s.waits) (hn : s.now.length ≤ 100000) (hl : s.last.length ≤ 100000) :
  SpecL Tryz.prog 44 #[.agg #[bv, wv, nv, lv]] M [] fun u M' L' => StW M M' u s ∧ L' = [] := by
 refine wAf (vs := [_]) 13 _ Tryz.func44 rfl Tryz.ntmps44 rfl rfl ?_; intro W
 refine wAb (wAa (wAy rfl rfl (wCm (cs := [_, _, _, _]) rfl rfl rfl rfl) ?_)); rintro _ _ _ ⟨b1, rfl, rfl, rfl⟩
 refine sAl rfl fun b2 => ?_
 refine wAc (jT (wAb (wBp [(0, true), (1, true), (3, true), (4, true), (6, true), (7, true), (2, false), (5, false), (8, false), (9, true), (10, false)] [(b1, .cells [bv, wv, nv, lv].toArray TSt (0, 0))] (by kernel_rfl) (by kernel_rfl) (by kernel_rfl) rfl (by simp) ?_)))
 refine dFa rfl rfl ?_
 refine dLL rfl rfl ?_
 refine dFa rfl rfl ?_
 refine dLd rfl rfl ?_
 refine dFa rfl rfl ?_
 refine dLd rfl rfl ?_
 refine wHc rfl rfl rfl (wAu rfl rfl rfl rfl rfl (by kernel_rfl) (dtwin_wspec s.blocks s.waits bv wv M h1 h2 hdk)) ?_; rintro _ M1 _ ⟨hM1, _, rfl, ⟨⟨hb, rb, wa, wc, rfl, hB, hW, hhw⟩, rfl⟩⟩
 refine ⟨_, _, MLe.refl _, hM1, fun _ h => h, by simp, ?_⟩
 refine wHc rfl rfl rfl (wAu rfl rfl rfl rfl rfl (by kernel_rfl) (wGt nv s.now M1 (h3.mono hM1) hn)) ?_; rintro _ M2 _ ⟨hM2, R8, rfl, hown8⟩
 refine ⟨_, _, MLe.refl _, hM1.trans hM2, fun _ h => h, by simp, ?_⟩
 obtain ⟨na, nc, rfl⟩ := hown8.form
 refine wHc rfl rfl rfl (wAu rfl rfl rfl rfl rfl (by kernel_rfl) (wGt lv s.last M2 (h4.mono (hM1.trans hM2)) hl)) ?_; rintro _ M3 _ ⟨hM3, R11, rfl, hown11⟩
 refine ⟨_, _, MLe.refl _, (hM1.trans hM2).trans hM3, fun _ h => h, by simp, ?_⟩
 obtain ⟨la, lc, rfl⟩ := hown11.form
 refine wBq rfl rfl rfl (wBa (cs := [_, _, _, _]) rfl rfl rfl (by rfl)) ?_
 refine jd_s rfl rfl (wBm rfl rfl rfl rfl rfl rfl rfl rfl) ?_; rintro _ _ _ ⟨rfl, rfl⟩
 refine ⟨_, _, MLe.refl _, (hM1.trans hM2).trans hM3, fun _ h => h, by simp, ?_⟩
 refine wBd (jPn (jT (wAe (jq_ownN hown8 (by simp) ?_))))
 intro M4 a4 c4 hM4 e4 hc4 hs4; cases e4
 refine jq_ownN hown11 (by simp) ?_
 intro M5 a5 c5 hM5 e5 hc5 hs5; cases e5
 refine wDa (rs := [_]) ([]) (by exact List.nil_sublist _) rfl (.cons (.agg rfl rfl rfl) .nil) ?_
 exact ⟨⟨rb, wa, wc, _, _, _, _, hb, M3, M4, rfl, hB.mono (hM2.trans (hM3.trans (hM4.trans hM5))), hW.mono (hM2.trans (hM3.trans (hM4.trans hM5))), ⟨_, _, rfl, hc4, (hs4.mono (wGf _ _)).mono hM5⟩, ⟨_, _, rfl, hc5, hs5.mono (wGf _ _)⟩, hhw.mono (hM2.trans hM3), hM1.trans (hM2.trans hM3), hM4, hM5, ⟨_, _, rfl, hc4, hs4⟩, _, _, rfl, hc5, hs5⟩, rfl⟩
theorem bstore_walkW (s : Sto) (p : Nat) (bv wv nv lv : Value) (M : Mem) (hpm : M p = some (.cells [bv, wv, nv, lv].toArray TBn (0, 0))) (h1 : LS M bv s.blocks) (h2 : WS M wv s.waits) (h3 : BS M nv s.now) (h4 : BS M lv s.last) (hdk : dkOk s.blocks s.waits) (hn : s.now.length ≤ 100000) (hl : s.last.length ≤ 100000) :
  SpecL Tryz.prog 22 #[.pointer (some ⟨p, 0, none⟩)] M [] fun u M' L' => StW M M' u s ∧ L' = [] := by
 refine wAf (vs := [_]) 8 _ Tryz.func22 rfl Tryz.ntmps22 rfl rfl ?_; intro W
 refine wAb (wAa (sAl rfl fun b2 => ?_))
 refine wAc (jT (wAb (wAa (jp rfl (wAi rfl rfl (wBw rfl rfl rfl) ?_)))))
 refine sFa rfl ?_
 refine wAi rfl rfl (wGx (cs := [bv, wv, nv, lv]) rfl rfl rfl rfl rfl (fun i v hv => CM.cj ⟨_, _, _, hpm, by simpa using hv⟩ _)) ?_
 refine wAy rfl rfl (wAu rfl rfl rfl rfl rfl (by kernel_rfl) (rtwin_walkW s bv wv nv lv M h1 h2 h3 h4 hdk hn hl)) ?_; rintro _ M1 _ ⟨hM1, _, rfl, ⟨hst, rfl⟩⟩
 obtain ⟨rb, wa, wc, na, nc, la, lc, hb, Mx, My, rfl, hstr⟩ := id hst
 refine sSt rfl ?_
 refine wAc (jT (wAe (wDa (rs := [_]) ([]) (by exact List.nil_sublist _) rfl (.cons (.agg rfl rfl rfl) .nil) ?_)))
 exact ⟨hst, rfl⟩
def PtW (r : Except Int (Sto × Int)) (u : Value) (M M' : Mem) : Prop := match r with
 | .error e => e ≠ 0 ∧ u = .tuple #[.agg zeroSt.toArray, .int .i64 0, .int .i64 e]
 | .ok (t, now) => ∃ v, u = .tuple #[v, .int .i64 now, .int .i64 0] ∧ StW M M' v t ∧ wCc t
set_option maxHeartbeats 8000000 in
theorem del_walkW (s : Sto) (root : Int) (q : Ky) (bv nv lw : Value) (wa : Option Addr) (wc : Nat) (wps0 : List (Wt × Value)) (M : Mem) (h1 : LS M bv s.blocks) (hwc : s.waits.length ≤ wc) (hws : SM M wa (wps0.flatMap wCv)) (hwp0 : wps0.map (·.1) = s.waits) (hwb0 : ∀ p ∈ wps0, BS M p.2 p.1.2) (h3 : BS M nv s.now) (h4 : BS M lw s.last) :
  SpecL Tryz.prog 6 #[.agg #[bv, .slice wa s.waits.length wc, nv, lw], .int .i64 root, .agg (wBb q).toArray] M [] fun u M' L' => PtW (delF s root q) u M M' ∧ L' = [] := by
 have h2 : WS M (.slice wa s.waits.length wc) s.waits := ⟨wa, wc, wps0, rfl, hwc, hws, hwp0, hwb0⟩
 have hST : ST M (.agg #[bv, .slice wa s.waits.length wc, nv, lw]) s := ⟨_, _, _, _, rfl, h1, h2, h3, h4⟩
 refine wAf (vs := [_, _, _]) 161 _ Tryz.func6 rfl Tryz.ntmps6 rfl rfl ?_; intro W
 refine wAb (wAa (wAy rfl rfl (wCm (cs := [bv, .slice wa s.waits.length wc, nv, lw]) rfl rfl rfl rfl) ?_)); rintro _ _ _ ⟨b3, rfl, rfl, rfl⟩
 refine wAy rfl rfl (wCm (cs := [.int .u8 q.kind, .int .u32 q.id, .int .u32 q.off]) rfl rfl rfl rfl) ?_; rintro _ _ _ ⟨b5, rfl, rfl, rfl⟩
 refine sAl rfl fun b6 => ?_
 refine sAl rfl fun b7 => ?_
 refine sAl rfl fun b8 => ?_
 refine wAc (jT (jc_scope ?_))
 refine wAb (wAb (wAa (sLL rfl ?_)))
 refine jp rfl (sLL rfl ?_)
 refine wAy rfl rfl (wAu rfl rfl rfl rfl rfl (by kernel_rfl) (find_spec s _ root q M hST)) ?_; rintro _ M1 _ ⟨hM1, _, rfl, ⟨hfd, rfl⟩⟩
 simp only [nA]
 obtain ⟨y0, ya, yn, yc, code, rfl, hcode⟩ := dfForm hfd
 refine jp rfl (jp rfl (jp rfl (sAl rfl fun b9 => ?_)))
 refine sSt rfl ?_
 refine jp rfl (wAc (jT (wAb (wAa (jp rfl (js rfl (fun h33 => ?_) (fun h33 => ?_)))))))
 ·refine wAc (jT (wAg rfl (wAb (wAa (wAi rfl rfl (wBa (cs := [_, _, _, _]) rfl rfl rfl (by rfl)) ?_)))))
  refine jp rfl (sSt rfl ?_)
  refine sSt rfl ?_
  refine sSt rfl ?_
  refine wAc (jT (wAe (jTr (jN (fun _ h => by cases h) ?_))))
  refine wDa (rs := [_, _, _]) ([]) (by exact List.nil_sublist _) rfl (.cons (.agg rfl rfl rfl) (.cons (.one rfl rfl rfl) (.cons (.one rfl rfl rfl) .nil))) ?_
  refine ⟨?_, rfl⟩
  obtain ⟨hc0, hde⟩ | ⟨hc0, _⟩ := hcode
  rotate_left
  ·exact absurd hc0 h33
  rw [hde]; exact ⟨hc0, rfl⟩
 refine wAc (jT (wAk rfl (wAd (jT (wAb (wAa (sLL rfl ?_)))))))
 refine jp rfl (sLL rfl ?_)
 obtain ⟨hc0, _⟩ | ⟨_, hf0, y1, hfy⟩ := hcode
 ·exfalso; exact hc0 (Classical.not_not.1 h33)
 obtain ⟨hst, hr8, hr256, hnz, lev, xs0, hnd0, ht0, _⟩ := fchk_ok hf0
 obtain ⟨hdk, ⟨hn256, _⟩, ⟨hl256, _⟩⟩ := id hst
 have hw4 : s.waits.length ≤ 4096 := hdk.2.1
 have hlv0 := (wBo hnd0).lev
 have hwl0 := way_len (s := s) (q := q) lev xs0
 have hfd0 : ∃ y, wCn s q lev xs0 = some y := ⟨y1, by unfold fnd at hfy; rw [hnd0] at hfy; exact hfy⟩
 have hdel := delF_in hf0 hfy hnd0
 refine wAy rfl rfl (wAu rfl rfl rfl rfl rfl (by kernel_rfl) (dway_walk s root q bv _ nv lw lev xs0 M1 (hST.mono hM1) ⟨hr8, hr256⟩ hst hnd0 ht0 hfd0)) ?_; rintro _ Mw _ ⟨hMw9, _, rfl, ⟨hss, rfl⟩⟩
 have hMw := hM1.trans hMw9
 obtain ⟨wa2, wc2, wps, rfl, hwc2, hws2, hwp, hwb⟩ := id hss
 have hwpl : wps.length = (wDf s q lev xs0).length := by rw [← hwp, List.length_map]
 simp only [nA]
 refine sAl rfl fun b11 => ?_
 refine sSt rfl ?_
 refine wAc (jT (wAb (wAa (sLd rfl ?_))))
 refine sLd rfl ?_
 refine wAi rfl rfl (wBj rfl rfl rfl) ?_
 refine wAi rfl rfl (qEq (qA rfl rfl rfl rfl rfl (by omega)) (v' := .int .i64 (((wDf s q lev xs0).length - 1 : Nat) : Int)) (congrArg _ (by omega))) ?_
 have hk1 : (wDf s q lev xs0).length - 1 < (wDf s q lev xs0).length := by omega
 obtain ⟨sb, so, e0, hx⟩ := hws2.open (by intro e; have := congrArg List.length e; rw [wBi wFi 3 wLd, List.length_nil] at this; have h2 := congrArg List.length hwp; rw [List.length_map] at h2; omega)
 cases e0
 obtain ⟨ea, ec, hcl, hvn⟩ := steps_get hx hwp hwb hk1
 obtain ⟨w0, hw0, hw0l⟩ := way_leaf hnd0 ht0 hfd0
 have hw0e : (wDf s q lev xs0)[(wDf s q lev xs0).length - 1] = w0 := by rw [List.getLast?_eq_getElem?, List.getElem?_eq_getElem hk1] at hw0; exact Option.some.inj hw0
 rw [hw0e] at hcl hvn
 have hw0m : w0 ∈ wDf s q lev xs0 := by rw [← hw0e]; exact List.getElem_mem _
 obtain ⟨ea2, ec2, eps, ev, hec, hes, hep, heb⟩ := id hvn
 cases ev
 obtain ⟨⟨j0, hnd9⟩, _⟩ := way_facts hnd0 ht0 w0 hw0m
 have hno0 := wBo hnd9
 have hx05 := hno0.len
 have hky0 : KyL w0.xs := ndAt_key hnd9
 have hl0e : wJi (wDf s q lev xs0) = cutF w0 := by unfold wJi; rw [hw0]
 obtain ⟨hcu1, hcu2, hcu3⟩ := cutF_all hw0l hky0 hx05
 have hepl : eps.length = w0.xs.length := by rw [← hep, List.length_map]
 refine wAi rfl rfl (wBe rfl rfl rfl rfl (by omega)) ?_
 refine wAi rfl rfl (wGx (cs := [.int .i64 w0.lv, .slice ea w0.xs.length ec, .int .i64 w0.at_]) rfl rfl rfl rfl rfl (fun i v hv => (hcl i v hv).cj _)) ?_
 refine sAl rfl fun b12 => ?_
 refine sSt rfl ?_
 refine wAc (jT (wAb (wFr ([(b12, .cells [.int .i64 w0.lv, .slice ea w0.xs.length ec, .int .i64 w0.at_].toArray 55 (0, 0))]) (by kernel_rfl) (by simp) ?_)))
 refine wDx (i := 0) rfl (by kernel_rfl) (by kernel_rfl) rfl rfl (wBg rfl rfl rfl rfl rfl) ?_
 refine wDx (i := 1) rfl (by kernel_rfl) (by kernel_rfl) rfl rfl (wBg rfl rfl rfl rfl rfl) ?_
 refine wDx (i := 2) rfl (by kernel_rfl) (by kernel_rfl) rfl rfl (qLd rfl rfl rfl rfl (CJ.loc rfl)) ?_
 refine wDx (i := 4) rfl (by kernel_rfl) (by kernel_rfl) rfl rfl (wBg rfl rfl rfl rfl rfl) ?_
 refine wDx (i := 5) rfl (by kernel_rfl) (by kernel_rfl) rfl rfl (qLd rfl rfl rfl rfl (CJ.loc rfl)) ?_
 refine wDx (i := 6) rfl (by kernel_rfl) (by kernel_rfl) rfl rfl (wBg rfl rfl rfl rfl rfl) ?_
 refine wDx (i := 7) rfl (by kernel_rfl) (by kernel_rfl) rfl rfl (qLd rfl rfl rfl rfl (CJ.loc rfl)) ?_
 refine wDx (i := 8) rfl (by kernel_rfl) (by kernel_rfl) rfl rfl (qEq (qA rfl rfl rfl rfl rfl (by omega)) (v' := .int .i64 ((w0.at_ + 1 : Nat) : Int)) (congrArg _ (by omega))) ?_
 refine wFs (α := Mem × Option Addr × Nat × Lc × Nat) (fun y => MLe Mw y.1 ∧ Own (.slice y.2.1 (w0.xs.length - 1) y.2.2.1) y.2.2.2.1 IT 5 (w0.xs.length - 1) ((eps.take w0.at_ ++ eps.drop (w0.at_ + 1)).flatMap wAs)) (fun y => [(1, .int .i64 root), (3, .pointer (some ⟨b3, 0, none⟩)), (6, .pointer (some ⟨b6, 0, none⟩)), (7, .pointer (some ⟨b7, 0, none⟩)), (8, .pointer (some ⟨b8, 0, none⟩)), (11, .pointer (some ⟨b11, 0, none⟩)), (13, .pointer (some ⟨y.2.2.2.2, 0, none⟩)), (55, .slice y.2.1 (w0.xs.length - 1) y.2.2.1)]) (fun y => y.1) (fun y => (y.2.2.2.2, .cells [Value.slice none 0 0].toArray 51 (0, 0)) :: (y.2.2.2.1 ++ (b12, .cells [.int .i64 w0.lv, .slice ea w0.xs.length ec, .int .i64 w0.at_].toArray 55 (0, 0)) :: (b11, .cells [.slice (some ⟨sb, so, none⟩) (wDf s q lev xs0).length wc2].toArray 49 (0, 0)) :: (b9, .cells [.int .u8 y0.key.kind, .int .u32 y0.key.id, .int .u32 y0.key.off, .int .i64 y0.ref, .slice ya yn yc].toArray 46 (0, 0)) :: (b8, .cells [Value.int .i64 0].toArray 34 (0, 0)) :: (b7, .cells [Value.int .i64 0].toArray 3 (0, 0)) :: (b6, .cells [Value.slice none 0 0, Value.slice none 0 0, Value.slice none 0 0, Value.slice none 0 0].toArray 28 (0, 0)) :: (b5, .cells [.int .u8 q.kind, .int .u32 q.id, .int .u32 q.off].toArray 31 (0, 0)) :: (b3, .cells [bv, .slice wa s.waits.length wc, nv, lw].toArray 28 (0, 0)) :: [])) 1 #[true, true, true, true, true, true, true, true, true, true, true, false] ?_ (fun rest => ?_)
 ·rintro ⟨Mf, da, dc, Rd, b13⟩ ⟨hMf, hownd⟩
  try dsimp only at hMf hownd ⊢
  refine wHa (i := 11) (by kernel_rfl) ?_
  refine js_s rfl rfl (wBm rfl rfl rfl rfl rfl rfl rfl rfl) ?_; rintro _ _ _ ⟨rfl, rfl⟩
  refine wAo (hMf) (by simp) ?_
  refine wJy (by kernel_rfl) ?_
  refine jPn (jT (wAb (jc_own hownd (by simp) ?_)))
  intro Ml la2 lc2 hMl el hlc0 hls0
  cases el
  have hMwl := hMf.trans hMl
  have hnl0 : NS Ml (.slice da (cutF w0).length dc) (cutF w0) := by
   refine ⟨da, dc, (eps.take w0.at_ ++ eps.drop (w0.at_ + 1)), rfl, by rw [hcu3]; exact hlc0, hls0, ?_, fun p hp => ?_⟩
   ·rw [List.map_append, List.map_take, List.map_drop, hep]; rfl
   exact (heb p ((List.mem_append.1 hp).elim List.mem_of_mem_take List.mem_of_mem_drop)).mono hMwl
  rw [← hcu3]
  refine wAa (sAl rfl fun b14 => ?_)
  refine sSt rfl ?_
  refine wAc (jT (wAb (wAa (sLL rfl ?_))))
  refine wAy rfl rfl (wAu rfl rfl rfl rfl rfl (by kernel_rfl) (on_own s bv nv lw wa wc Ml hwc (by omega) (h3.mono (hMw.trans hMwl)) (by omega))) ?_; rintro _ Mb _ ⟨hMb, _, rfl, ⟨bb, Rn, na, nc, rfl, rfl, hown⟩⟩
  have hMwb := hMw.trans (hMwl.trans hMb)
  have hB0 : BOwn Mb bb ((bb, .cells [bv, .slice wa s.waits.length s.waits.length, .slice na s.now.length nc, lw].toArray TBn (0, 0)) :: Rn) s := by
   refine ⟨bv, _, na, nc, lw, [], Rn, rfl, h1.mono hMwb, h4.mono hMwb, hown, wps0, hwp0, fun p hp => (hwb0 p hp).mono hMwb, ?_⟩
   have hfl : (wps0.flatMap wCv).length = s.waits.length * 2 := by rw [wBi wCv 2 wDn, ← hwp0, List.length_map]
   rcases hws with h0 | ⟨wb, wo, rfl, hwx⟩
   ·have hz : s.waits.length = 0 := by rw [h0, List.length_nil] at hfl; omega
    rw [h0, hz]
    cases wa with
    | none => exact .inl (Own.nil _ _)
    | some ba => exact .inr ⟨rfl, rfl, ba, rfl, .inl rfl, fun i u hu => by cases hu⟩
   exact .inr ⟨rfl, hfl, _, rfl, .inr rfl, fun i u hu => (hwx i u hu).mono hMwb⟩
  refine sAl rfl fun b15 => ?_
  refine sSt rfl ?_
  refine wAc (jT (wAb (jc_label ?_)))
  refine jT (wAb (wAb (wHk b15 (by simp) ?_)))
  intro Ma hMa e15
  refine wHk b11 (by simp) ?_
  intro Me hMe0 e11
  have hMf0 := hMa.trans hMe0
  replace e15 := hMe0 _ _ e15
  refine wKj (M' := Me) (L' := (b13, .cells [.slice da (cutF w0).length dc].toArray 51 (0, 0)) :: (b14, .cells [.int .i64 (0)].toArray 3 (0, 0)) :: (b8, .cells [Value.int .i64 (0)].toArray 34 (0, 0)) :: (b7, .cells [Value.int .i64 0].toArray 3 (0, 0)) :: (b6, .cells [Value.slice none 0 0, Value.slice none 0 0, Value.slice none 0 0, Value.slice none 0 0].toArray 28 (0, 0)) :: ((bb, .cells [bv, .slice wa s.waits.length s.waits.length, .slice na s.now.length nc, lw].toArray TBn (0, 0)) :: Rn)) (fun w h => ((((h.perm (L' := (b12, .cells [.int .i64 w0.lv, .slice ea w0.xs.length ec, .int .i64 w0.at_].toArray 55 (0, 0)) :: (b9, .cells [.int .u8 y0.key.kind, .int .u32 y0.key.id, .int .u32 y0.key.off, .int .i64 y0.ref, .slice ya yn yc].toArray 46 (0, 0)) :: (b5, .cells [.int .u8 q.kind, .int .u32 q.id, .int .u32 q.off].toArray 31 (0, 0)) :: (b3, .cells [bv, .slice wa s.waits.length wc, nv, lw].toArray 28 (0, 0)) :: (b13, .cells [.slice da (cutF w0).length dc].toArray 51 (0, 0)) :: (b14, .cells [.int .i64 (0)].toArray 3 (0, 0)) :: (b8, .cells [Value.int .i64 (0)].toArray 34 (0, 0)) :: (b7, .cells [Value.int .i64 0].toArray 3 (0, 0)) :: (b6, .cells [Value.slice none 0 0, Value.slice none 0 0, Value.slice none 0 0, Value.slice none 0 0].toArray 28 (0, 0)) :: ((bb, .cells [bv, .slice wa s.waits.length s.waits.length, .slice na s.now.length nc, lw].toArray TBn (0, 0)) :: Rn)) (wGe fun f => by simp only [mks, List.getElem_toArray, List.getElem_cons_zero, List.getElem_cons_succ, List.map_append, List.map_cons, List.map_nil, List.sum_append, List.sum_cons, List.sum_nil] <;> omega)).tl).tl).tl).tl) ?_
  have hWSl : ((wDf s q lev xs0).dropLast).length = lev := by rw [List.length_dropLast]; omega
  have hwl9 : (wps.take lev).length = lev := by rw [List.length_take]; omega
  have hwp9 : (wps.take lev).map (·.1) = (wDf s q lev xs0).dropLast := by rw [List.map_take, hwp, List.dropLast_eq_take]; congr 1; omega
  refine wAa (wAi rfl rfl (qLd rfl rfl rfl rfl (CM.cj ⟨_, _, _, e11, rfl⟩ _)) ?_)
  refine wAi rfl rfl (qLd rfl rfl rfl rfl (CM.cj ⟨_, _, _, e11, rfl⟩ _)) ?_
  refine wAi rfl rfl (wBj rfl rfl rfl) ?_
  refine ja rfl (by omega) ?_
  refine wAi rfl rfl (qEq (qSl rfl rfl rfl (.no _) (.of (v := lev) rfl (by omega) (by omega)) (.no _) (by omega) (by simp)) (v' := .slice (some ⟨sb, so, none⟩) lev wc2) (by rw [wCx]; exact wJx rfl (by omega) (by omega))) ?_
  refine wAy rfl rfl (wAu rfl rfl rfl rfl rfl (by kernel_rfl) (bwd _ _ _ Me)) ?_; rintro _ Mg _ ⟨hMg0, _, rfl, ⟨b63, rfl, e63, rfl⟩⟩
  rw [← hwl9] at e63
  simp only [nA]
  have hMg : MLe Mw Mg := hMwl.trans (hMb.trans (hMf0.trans hMg0))
  have hs63 : SM Mg (some ⟨sb, so, none⟩) ((wps.take lev).flatMap wFi) := by
   have := hws2.mono hMg
   rw [← List.take_append_drop lev wps, List.flatMap_append] at this
   exact this.pre
  refine wAc (jT (wAh ?_))
  refine jc_rangeN (R := (b13, .cells [.slice da (cutF w0).length dc].toArray 51 (0, 0)) :: (b14, .cells [.int .i64 (0)].toArray 3 (0, 0)) :: (b8, .cells [Value.int .i64 (0)].toArray 34 (0, 0)) :: (b7, .cells [Value.int .i64 0].toArray 3 (0, 0)) :: (b6, .cells [Value.slice none 0 0, Value.slice none 0 0, Value.slice none 0 0, Value.slice none 0 0].toArray 28 (0, 0)) :: ((bb, .cells [bv, .slice wa s.waits.length s.waits.length, .slice na s.now.length nc, lw].toArray TBn (0, 0)) :: Rn)) (xs := bw (wps.take lev) 0) (enc := (fun p : (Stp × Value) × Nat => [.int .i64 p.2, .agg (wFi p.1).toArray])) (ps := [64, 65]) rfl (by kernel_rfl) (bwd_iter b63 (some ⟨sb, so, none⟩) wc2 (wps.take lev) Mg e63 hs63 (by omega))
   (fun pre M' R => ∃ t l la lc held Lb, R = (b13, .cells [.slice la l.length lc].toArray 51 (0, 0)) :: (b14, .cells [.int .i64 (held)].toArray 3 (0, 0)) :: (b8, .cells [Value.int .i64 (0)].toArray 34 (0, 0)) :: (b7, .cells [Value.int .i64 0].toArray 3 (0, 0)) :: (b6, .cells [Value.slice none 0 0, Value.slice none 0 0, Value.slice none 0 0, Value.slice none 0 0].toArray 28 (0, 0)) :: Lb ∧ dn s (wJi (wDf s q lev xs0)) (((wDf s q lev xs0).dropLast).drop (lev - pre.length)) = .ok (t, l, held) ∧ BOwn M' bb Lb t ∧ wCc t ∧ NS M' (.slice la l.length lc) l ∧ KyL l ∧ l.length ≤ 5 ∧ (held = 0 ∨ 8 ≤ held ∧ held < 256))
   (fun c pre M' R => ∃ (e held : Int) (lv : Value) (Lb : Lc), c = .ret ∧ e ≠ 0 ∧ R = (b13, .cells [lv].toArray 51 (0, 0)) :: (b14, .cells [.int .i64 (held)].toArray 3 (0, 0)) :: (b8, .cells [Value.int .i64 (e)].toArray 34 (0, 0)) :: (b7, .cells [Value.int .i64 0].toArray 3 (0, 0)) :: (b6, .cells [Value.slice none 0 0, Value.slice none 0 0, Value.slice none 0 0, Value.slice none 0 0].toArray 28 (0, 0)) :: Lb ∧ dn s (wJi (wDf s q lev xs0)) ((wDf s q lev xs0).dropLast) = .error e)
   (fun _ => rfl) (by decide) ⟨s, cutF w0, da, dc, 0, ((bb, .cells [bv, .slice wa s.waits.length s.waits.length, .slice na s.now.length nc, lw].toArray TBn (0, 0)) :: Rn), rfl, (by rw [List.length_nil, Nat.sub_zero, List.drop_eq_nil_of_le (by omega), hl0e]; rfl), hB0.mono (hMf0.trans hMg0), hst, hnl0.mono (hMb.trans (hMf0.trans hMg0)), hcu1, hcu2, .inl rfl⟩ ?_ ?_ ?_
  ·intro l2 W2 pre y M2 R2 hXW hM2 hI2 hpre
   obtain ⟨t, l, la, lc, held, Lb2, rfl, hdn, hB2, ht2, hnl, hkl, hll, hhd⟩ := hI2
   obtain ⟨hlt, hy⟩ := bw_at hpre
   have hyi := bw_idx hpre
   rw [hwl9] at hlt hyi
   obtain ⟨⟨w, wv⟩, yi⟩ := y
   dsimp only at hy hyi
   subst hyi
   have hn9 : lev - 1 - pre.length < (wDf s q lev xs0).length := by omega
   have hwe : w = (wDf s q lev xs0)[lev - 1 - pre.length] := by
    have e1 : w = (wps.take lev)[(wps.take lev).length - 1 - pre.length].1 := by rw [← hy]
    rw [e1]; simp only [List.getElem_take, ← hwp, List.getElem_map, hwl9]
   have hwm : (w, wv) ∈ wps := by rw [hy]; exact List.mem_of_mem_take (List.getElem_mem _)
   have hww : w ∈ wDf s q lev xs0 := by rw [hwe]; exact List.getElem_mem _
   have hwn := (hwb _ hwm).mono (hMg.trans hM2)
   dsimp only at hwn
   obtain ⟨ia, ic, ips, hwv, hic, his, hip, hib⟩ := id hwn
   subst hwv
   obtain ⟨⟨jw, hnw⟩, hwl, hwl2⟩ := way_facts hnd0 ht0 w hww
   have hnow := wBo hnw
   have hwx := hnow.len
   have hwlv := hnow.lev
   have hkw : KyL w.xs := ndAt_key hnw
   have hlvw : w.lv = (pre.length : Int) + 1 := by rw [hwe, way_lv hn9]; omega
   have hat := hwl2 (by omega)
   have hxr9 : ∀ x ∈ w.xs, 8 ≤ x.ref ∧ x.ref < 256 := fun x hx => by have := hnow.ref x hx; have := hnow.up (by omega) x hx; omega
   have hdrop : ((wDf s q lev xs0).dropLast).drop (lev - (pre.length + 1)) = w :: ((wDf s q lev xs0).dropLast).drop (lev - pre.length) := by
    have hk9 : lev - (pre.length + 1) < ((wDf s q lev xs0).dropLast).length := by omega
    rw [List.drop_eq_getElem_cons hk9]
    congr 1
    ·rw [hwe, List.getElem_dropLast]; congr 1; omega
    congr 1; omega
   have hipl : ips.length = w.xs.length := by rw [← hip, List.length_map]
   simp only [wFi]
   refine wAb (wAa (jp rfl (wAc (jT (wAa (sAl rfl fun b17 => ?_))))))
   refine sSt rfl ?_
   refine wAc (jKN fun W' hW' => ?_)
   refine wAh (wAb (wAb ?_))
   have hX9 : ∀ x ∈ ((b13, .cells [.slice la l.length lc].toArray 51 (0, 0)) :: (b14, .cells [.int .i64 (held)].toArray 3 (0, 0)) :: (b8, .cells [Value.int .i64 (0)].toArray 34 (0, 0)) :: (b7, .cells [Value.int .i64 0].toArray 3 (0, 0)) :: (b6, .cells [Value.slice none 0 0, Value.slice none 0 0, Value.slice none 0 0, Value.slice none 0 0].toArray 28 (0, 0)) :: Lb2 : Lc).map (·.1), x < W'.heap.size := by rw [hW']; exact hXW
   refine wAa (sLd rfl ?_)
   refine wAi rfl rfl (wBj rfl rfl rfl) ?_
   refine js rfl (fun h68 => ?_) (fun h68 => ?_)
   ·refine wAc (jT (wAg rfl (wAb (wBp [(0, true), (1, true), (2, true), (4, true), (5, true), (6, true), (7, true), (8, true), (3, false), (9, false), (10, false), (11, false)] [(b17, .cells [.int .i64 w.lv, .slice ia w.xs.length ic, .int .i64 w.at_].toArray 55 (0, 0))] (by kernel_rfl) (by kernel_rfl) (by kernel_rfl) rfl (by simp) ?_))))
    refine dFa rfl rfl ?_
    refine dFa rfl rfl ?_
    refine dLd rfl rfl ?_
    refine dFa rfl rfl ?_
    refine dLd rfl rfl ?_
    refine dFa rfl rfl ?_
    refine dLd rfl rfl ?_
    refine wBq rfl rfl rfl (qEq (qA rfl rfl rfl rfl rfl (by omega)) (v' := .int .i64 ((w.at_ + 1 : Nat) : Int)) (congrArg _ (by omega))) ?_
    refine wHc rfl rfl rfl (hCallN rfl rfl rfl rfl rfl (by kernel_rfl) (by have := wHv ia ic ips M2 his (wHg hib) (by omega); rwa [hipl] at this)) ?_; rintro _ Mc _ ⟨hMc, Rc, rfl, hownc, hnw1⟩
    refine ⟨_, _, MLe.refl _, hMc, fun _ h => h, by simp, ?_⟩
    obtain ⟨ca, cc, hcv⟩ := hownc.form
    subst hcv
    refine wHc rfl rfl rfl (hCallN rfl rfl rfl rfl rfl (by kernel_rfl) (by have := del_spec ips w.at_ (by omega) ca cc Rc (by rw [hipl]; exact hownc) (wHg hib) Mc (by omega); rwa [hipl] at this)) ?_; rintro _ Md _ ⟨hMd, Rd, rfl, hownd, hnw2⟩
    refine ⟨_, _, MLe.refl _, (hMc.trans hMd), fun _ h => h, by simp, ?_⟩
    obtain ⟨da9, dc9, hdv⟩ := hownd.form
    subst hdv
    refine jd_s rfl rfl (wBm rfl rfl rfl rfl rfl rfl rfl rfl) ?_; rintro _ _ _ ⟨rfl, rfl⟩
    refine ⟨_, _, MLe.refl _, (by first | exact MLe.refl _ | assumption | exact hMc.trans hMd | exact hMc.trans (hMu.trans hMp)), fun _ h => h, by simp, ?_⟩
    refine jd_s rfl rfl (wBm rfl rfl rfl rfl rfl rfl rfl rfl) ?_; rintro _ _ _ ⟨rfl, rfl⟩
    refine ⟨_, _, MLe.refl _, (by first | exact MLe.refl _ | assumption | exact hMc.trans hMd | exact hMc.trans (hMu.trans hMp)), fun _ h => h, by simp, ?_⟩
    refine wBd (jPn (jT (wAw (jTx (jBx ?_)))))
    have hnl9 : ∀ p ∈ Rd, W'.heap.size ≤ p.1 := fun p hp => (hnw2 p hp).elim (fun h => by obtain ⟨q, hq, e⟩ := List.mem_map.1 h; rw [← e]; exact (hnw1 q hq).elim (fun h => by cases h) id) id
    refine jq_ownN hownd (not_in hX9 hnl9) ?_
    intro Mr ra2 rc2 hMr er hrc hrs; cases er
    replace hrs := hrs.mono (wGf _ _)
    refine wGb (M' := Mr) (L' := (b13, .cells [.slice da9 (w.xs.length - 1) dc9].toArray 51 (0, 0)) :: (b14, .cells [.int .i64 (0)].toArray 3 (0, 0)) :: (b8, .cells [Value.int .i64 (0)].toArray 34 (0, 0)) :: (b7, .cells [Value.int .i64 0].toArray 3 (0, 0)) :: (b6, .cells [Value.slice none 0 0, Value.slice none 0 0, Value.slice none 0 0, Value.slice none 0 0].toArray 28 (0, 0)) :: Lb2) (fun w9 h => (h.perm (L' := (b17, .cells [.int .i64 w.lv, .slice ia w.xs.length ic, .int .i64 w.at_].toArray 55 (0, 0)) :: (b13, .cells [.slice da9 (w.xs.length - 1) dc9].toArray 51 (0, 0)) :: (b14, .cells [.int .i64 (0)].toArray 3 (0, 0)) :: (b8, .cells [Value.int .i64 (0)].toArray 34 (0, 0)) :: (b7, .cells [Value.int .i64 0].toArray 3 (0, 0)) :: (b6, .cells [Value.slice none 0 0, Value.slice none 0 0, Value.slice none 0 0, Value.slice none 0 0].toArray 28 (0, 0)) :: Lb2) (wGe fun f => by simp only [mks, List.getElem_toArray, List.getElem_cons_zero, List.getElem_cons_succ, List.map_append, List.map_cons, List.map_nil, List.sum_append, List.sum_cons, List.sum_nil] <;> omega)).tl) ?_
    refine jQn ?_
    obtain ⟨hcw1, hcw2, hcw3⟩ := cutF_all hat hkw hwx
    refine ⟨t, cutF w, da9, dc9, 0, Lb2, by rw [hcw3], ?_, hB2.mono (hMc.trans (hMd.trans hMr)), ht2, ⟨da9, dc9, ips.take w.at_ ++ ips.drop (w.at_ + 1), rfl, by rw [hcw3]; exact hrc, hrs, by rw [List.map_append, List.map_take, List.map_drop, hip]; rfl, fun p hp => (hib p ((List.mem_append.1 hp).elim List.mem_of_mem_take List.mem_of_mem_drop)).mono (hMc.trans (hMd.trans hMr))⟩, hcw1, hcw2, .inl rfl⟩
    rw [List.length_append, List.length_singleton, hdrop, dn, hdn]
    show upD t w l held = _
    unfold upD; rw [if_pos (List.eq_nil_of_length_eq_zero (by omega))]
   refine wAc (jT (wAk rfl (wAd (jT (wAb (wAa (wAi rfl rfl (qLd rfl rfl rfl rfl (CM.cj ⟨_, _, _, (hMg0.trans hM2) _ _ e15, rfl⟩ _)) ?_)))))))
   refine sLL rfl ?_
   refine sLd rfl ?_
   have hl0 : l ≠ [] := fun e => h68 (by rw [e]; rfl)
   refine wAy rfl rfl (wAu rfl rfl rfl rfl rfl (by kernel_rfl) (join_spec t w l ia ic la lc bb M2 Lb2 hB2 ht2 hwn hnl hat hwx (by omega) hxr9)) ?_; rintro _ Mj _ ⟨hMj, Rj, rfl, ⟨jva, jvc, rfl, hnj, hLj⟩⟩
   rw [hLj]
   obtain ⟨hj1, hj2, hj3, hj4, hj5⟩ := joinF_all (s := t) hat hkl hl0 hll
   refine jp rfl (jp rfl (jp rfl (sAl rfl fun b19 => ?_)))
   refine jp rfl (sSt rfl ?_)
   refine wAc (jT (wAb (wAa (wAi rfl rfl (qLd rfl rfl rfl rfl (CM.cj ⟨_, _, _, (hMg0.trans (hM2.trans hMj)) _ _ e15, rfl⟩ _)) ?_))))
   refine wAi rfl rfl (qLd rfl rfl rfl rfl (CM.cj ⟨_, _, _, (hMg0.trans (hM2.trans hMj)) _ _ e11, rfl⟩ _)) ?_
   refine wAi rfl rfl (wBj rfl rfl rfl) ?_
   refine ja rfl (by omega) ?_
   refine jp rfl (wAi rfl rfl (qEq (qA rfl rfl rfl rfl rfl (by omega)) (v' := .int .i64 (pre.length : Int)) (congrArg _ (by omega))) ?_)
   refine jp rfl (sLd rfl ?_)
   refine wAy rfl rfl (hCallN rfl rfl rfl rfl rfl (by kernel_rfl) (single_spec t (pre.length : Int) (wBh t w l).1 held jva jvc bb Mj Lb2 (hB2.mono hMj) ht2 hnj (fun y hy => (hj1 y hy).1) hhd)) ?_; rintro _ Ms _ ⟨hMs, Rs, rfl, hsg, hnw3⟩
   obtain ⟨a9, e, rfl, hsg2⟩ := hsg
   refine jp rfl (jp rfl (jp rfl (jp rfl (jp rfl (wAc (jT (wAb (wAb (wAa (jp rfl (js rfl (fun h99 => ?_) (fun h99 => ?_))))))))))))
   ·refine wAc (jT (wAg rfl (wAb (wAa (wAi rfl rfl (wBa (cs := [_, _, _, _]) rfl rfl rfl (by rfl)) ?_)))))
    refine jp rfl (sSt rfl ?_)
    refine sSt rfl ?_
    refine sSt rfl ?_
    refine wAc (jT (wAe (jTr (jBr ?_))))
    obtain ⟨he9, hbe⟩ | ⟨rfl, _⟩ := hsg2
    rotate_left
    ·exact absurd rfl h99
    refine wGb (M' := Ms) (L' := (b13, .cells [.slice la l.length lc].toArray 51 (0, 0)) :: (b14, .cells [.int .i64 (held)].toArray 3 (0, 0)) :: (b8, .cells [Value.int .i64 (e)].toArray 34 (0, 0)) :: (b7, .cells [Value.int .i64 0].toArray 3 (0, 0)) :: (b6, .cells [Value.slice none 0 0, Value.slice none 0 0, Value.slice none 0 0, Value.slice none 0 0].toArray 28 (0, 0)) :: Rs) (fun w9 h => ((h.perm (L' := (b19, .cells [.int .i64 ((wBh t w l).2.1 : Int), .int .i64 ((wBh t w l).2.2 : Int)].toArray 64 (0, 0)) :: (b17, .cells [.int .i64 w.lv, .slice ia w.xs.length ic, .int .i64 w.at_].toArray 55 (0, 0)) :: (b13, .cells [.slice la l.length lc].toArray 51 (0, 0)) :: (b14, .cells [.int .i64 (held)].toArray 3 (0, 0)) :: (b8, .cells [Value.int .i64 (e)].toArray 34 (0, 0)) :: (b7, .cells [Value.int .i64 0].toArray 3 (0, 0)) :: (b6, .cells [Value.slice none 0 0, Value.slice none 0 0, Value.slice none 0 0, Value.slice none 0 0].toArray 28 (0, 0)) :: Rs) (wGe fun f => by simp only [mks, List.getElem_toArray, List.getElem_cons_zero, List.getElem_cons_succ, List.map_append, List.map_cons, List.map_nil, List.sum_append, List.sum_cons, List.sum_nil] <;> omega)).tl).tl) ?_
    refine jQr ?_
    refine ⟨e, held, _, Rs, rfl, he9, rfl, ?_⟩
    refine dn_err (lev - (pre.length + 1)) ?_
    rw [hdrop, dn, hdn]
    show upD t w l held = _
    unfold upD; rw [if_neg hl0, show w.lv - 1 = (pre.length : Int) by omega, hbe]
   refine wAc (jT (wAk rfl (wAd (jT (wAb ?_)))))
   obtain ⟨he9, _⟩ | ⟨rfl, t9, hsok, hts, hBs⟩ := hsg2
   ·exact absurd (Classical.not_not.1 h99) he9
   have hr9 := single_rng ht2 hsok
   refine wAa (jp rfl ?_)
   obtain ⟨_, _, jps, ej, hjc, hjs, hjp, hjb⟩ := id (hnj.mono hMs)
   cases ej
   have hj0 : 0 < (wBh t w l).1.length := List.length_pos_iff.2 hj2
   obtain ⟨jb, jo, e0, hjx⟩ := hjs.open (by intro e; have := congrArg List.length e; rw [wBi wAs 5 wAq, List.length_nil] at this; have h2 := congrArg List.length hjp; rw [List.length_map] at h2; omega)
   cases e0
   obtain ⟨va, vc, hcl9, hvc, hvs⟩ := wBt hjx hjp hjb hj0
   refine wAi rfl rfl (wBe rfl rfl rfl rfl (by omega)) ?_
   refine sFa rfl ?_
   refine wAi rfl rfl (wGx (cs := wBb (wBh t w l).1[0].key) rfl rfl rfl rfl rfl (fun i v hv => (hcl9 i v (key_itc hv)).cj _)) ?_
   refine jp rfl ?_
   refine wAi rfl rfl (qEq (wBa (cs := [_, _, _, _, _]) rfl rfl rfl (by rfl)) (v' := .agg #[.int .u8 (wDc (wBh t w l).1).kind, .int .u32 (wDc (wBh t w l).1).id, .int .u32 (wDc (wBh t w l).1).off, .int .i64 a9, .slice none 0 0]) (by rw [headI hj0]; rfl)) ?_
   refine sAl rfl fun b22 => ?_
   refine sSt rfl ?_
   refine wAc (jT ?_)
   have hib2 := fun p hp => (hib p hp).mono (hMj.trans hMs)
   refine wFr ([(b17, .cells [.int .i64 w.lv, .slice ia w.xs.length ic, .int .i64 w.at_].toArray 55 (0, 0)), (b19, .cells [.int .i64 ((wBh t w l).2.1 : Int), .int .i64 ((wBh t w l).2.2 : Int)].toArray 64 (0, 0)), (b22, .cells [.int .u8 (wDc (wBh t w l).1).kind, .int .u32 (wDc (wBh t w l).1).id, .int .u32 (wDc (wBh t w l).1).off, .int .i64 a9, .slice none 0 0].toArray 46 (0, 0))]) (by kernel_rfl) (by simp) ?_
   refine wDx (i := 0) rfl (by kernel_rfl) (by kernel_rfl) rfl rfl (wBg rfl rfl rfl rfl rfl) ?_
   refine wDx (i := 1) rfl (by kernel_rfl) (by kernel_rfl) rfl rfl (wBg rfl rfl rfl rfl rfl) ?_
   refine wDx (i := 2) rfl (by kernel_rfl) (by kernel_rfl) rfl rfl (qLd rfl rfl rfl rfl (CJ.loc rfl)) ?_
   refine wDx (i := 4) rfl (by kernel_rfl) (by kernel_rfl) rfl rfl (wBg rfl rfl rfl rfl rfl) ?_
   refine wDx (i := 5) rfl (by kernel_rfl) (by kernel_rfl) rfl rfl (qLd rfl rfl rfl rfl (CJ.loc rfl)) ?_
   refine wDx (i := 6) rfl (by kernel_rfl) (by kernel_rfl) rfl rfl (wBg rfl rfl rfl rfl rfl) ?_
   refine wDx (i := 7) rfl (by kernel_rfl) (by kernel_rfl) rfl rfl (qLd rfl rfl rfl rfl (CJ.loc rfl)) ?_
   refine wDx (i := 8) rfl (by kernel_rfl) (by kernel_rfl) rfl rfl (wBg rfl rfl rfl rfl rfl) ?_
   refine wDx (i := 9) rfl (by kernel_rfl) (by kernel_rfl) rfl rfl (qLd rfl rfl rfl rfl (CJ.loc rfl)) ?_
   refine wDx (i := 10) rfl (by kernel_rfl) (by kernel_rfl) rfl rfl (qEq (qA rfl rfl rfl rfl rfl (by omega)) (v' := .int .i64 (((wBh t w l).2.1 + (wBh t w l).2.2 : Nat) : Int)) (congrArg _ (by omega))) ?_
   refine wDx (i := 11) rfl (by kernel_rfl) (by kernel_rfl) rfl rfl (qLdL rfl rfl rfl rfl rfl) ?_
   refine wEg (i := 14) rfl (by kernel_rfl) (by kernel_rfl) rfl ?_
   refine wFs (α := Mem × Option Addr × Nat × Lc × Nat) (fun y => MLe Ms y.1 ∧ Own (.slice y.2.1 w.xs.length y.2.2.1) y.2.2.2.1 IT 5 w.xs.length (ips.flatMap wAs) ∧ (∀ p ∈ y.2.2.2.1, p.1 ∈ ([] : Lc).map (·.1) ∨ W'.heap.size ≤ p.1) ∧ y.1 y.2.2.2.2 = some (.cells [.int .u8 (wDc (wBh t w l).1).kind, .int .u32 (wDc (wBh t w l).1).id, .int .u32 (wDc (wBh t w l).1).off, .int .i64 a9, .slice none 0 0].toArray IT (0, 0))) (fun y => [(13, .pointer (some ⟨b13, 0, none⟩)), (14, .pointer (some ⟨b14, 0, none⟩)), (20, .int .i64 a9), (111, .slice y.2.1 w.xs.length y.2.2.1), (113, .int .i64 ((wBh t w l).2.1 : Int)), (118, .int .i64 (((wBh t w l).2.1 + (wBh t w l).2.2 : Nat) : Int)), (120, .slice (some ⟨y.2.2.2.2, 0, none⟩) 1 1), (122, .int .i64 a9)]) (fun y => y.1) (fun y => y.2.2.2.1 ++ (b22, .cells [.int .u8 (wDc (wBh t w l).1).kind, .int .u32 (wDc (wBh t w l).1).id, .int .u32 (wDc (wBh t w l).1).off, .int .i64 a9, .slice none 0 0].toArray 46 (0, 0)) :: (b19, .cells [.int .i64 ((wBh t w l).2.1 : Int), .int .i64 ((wBh t w l).2.2 : Int)].toArray 64 (0, 0)) :: (b17, .cells [.int .i64 w.lv, .slice ia w.xs.length ic, .int .i64 w.at_].toArray 55 (0, 0)) :: (b13, .cells [.slice la l.length lc].toArray 51 (0, 0)) :: (b14, .cells [.int .i64 (held)].toArray 3 (0, 0)) :: (b8, .cells [Value.int .i64 (0)].toArray 34 (0, 0)) :: (b7, .cells [Value.int .i64 0].toArray 3 (0, 0)) :: (b6, .cells [Value.slice none 0 0, Value.slice none 0 0, Value.slice none 0 0, Value.slice none 0 0].toArray 28 (0, 0)) :: Rs) 3 #[true, true, true, true, true, true, true, true, true, true, true, true, true, false, true, false, false] ?_ (fun rest => ?_)
   ·rintro ⟨Mf, ca, cc, Rc, b120⟩ ⟨hMf, hownc, hnw1, e120⟩
    try dsimp only at hMf hownc hnw1 e120 ⊢
    refine wHa (i := 13) (by kernel_rfl) ?_
    refine wDe rfl rfl rfl (hCallN rfl rfl rfl rfl rfl (by kernel_rfl) (by have := rep_any ips (⟨wDc (wBh t w l).1, a9, []⟩, .slice none 0 0) (wBh t w l).2.1 (wBh t w l).2.2 hj4 (by omega) ca cc Rc (by rw [hipl]; exact hownc) (wHg hib) b120 _ Mf e120 rfl (by omega); rwa [hipl] at this)) ?_; rintro _ Mp _ ⟨hMp, Rd, rfl, hownd, hnw2⟩
    refine wAo (hMf.trans hMp) (by simp) ?_
    obtain ⟨da9, dc9, hdv⟩ := hownd.form
    subst hdv
    refine wHa (i := 15) (by kernel_rfl) ?_
    refine js_s rfl rfl (wBm rfl rfl rfl rfl rfl rfl rfl rfl) ?_; rintro _ _ _ ⟨rfl, rfl⟩
    refine wAo (hMf.trans hMp) (by simp) ?_
    refine wHa (i := 16) (by kernel_rfl) ?_
    refine js_s rfl rfl (wBm rfl rfl rfl rfl rfl rfl rfl rfl) ?_; rintro _ _ _ ⟨rfl, rfl⟩
    refine wAo (hMf.trans hMp) (by simp) ?_
    refine wJy (by kernel_rfl) ?_
    refine jPn (jB ?_)
    have hnl9 : ∀ p ∈ Rd, W'.heap.size ≤ p.1 := fun p hp => (hnw2 p hp).elim (fun h => by obtain ⟨q, hq, e⟩ := List.mem_map.1 h; rw [← e]; exact (hnw1 q hq).elim (fun h => by cases h) id) id
    refine jq_ownN hownd (not_in hX9 hnl9) ?_
    intro Mr ra2 rc2 hMr er hrc hrs; cases er
    replace hrs := hrs.mono (wGf _ _)
    refine wGb (M' := Mr) (L' := (b13, .cells [.slice da9 (w.xs.length - (wBh t w l).2.2 + 1) dc9].toArray 51 (0, 0)) :: (b14, .cells [.int .i64 (a9)].toArray 3 (0, 0)) :: (b8, .cells [Value.int .i64 (0)].toArray 34 (0, 0)) :: (b7, .cells [Value.int .i64 0].toArray 3 (0, 0)) :: (b6, .cells [Value.slice none 0 0, Value.slice none 0 0, Value.slice none 0 0, Value.slice none 0 0].toArray 28 (0, 0)) :: Rs) (fun w9 h => (((h.perm (L' := (b22, .cells [.int .u8 (wDc (wBh t w l).1).kind, .int .u32 (wDc (wBh t w l).1).id, .int .u32 (wDc (wBh t w l).1).off, .int .i64 a9, .slice none 0 0].toArray 46 (0, 0)) :: (b19, .cells [.int .i64 ((wBh t w l).2.1 : Int), .int .i64 ((wBh t w l).2.2 : Int)].toArray 64 (0, 0)) :: (b17, .cells [.int .i64 w.lv, .slice ia w.xs.length ic, .int .i64 w.at_].toArray 55 (0, 0)) :: (b13, .cells [.slice da9 (w.xs.length - (wBh t w l).2.2 + 1) dc9].toArray 51 (0, 0)) :: (b14, .cells [.int .i64 (a9)].toArray 3 (0, 0)) :: (b8, .cells [Value.int .i64 (0)].toArray 34 (0, 0)) :: (b7, .cells [Value.int .i64 0].toArray 3 (0, 0)) :: (b6, .cells [Value.slice none 0 0, Value.slice none 0 0, Value.slice none 0 0, Value.slice none 0 0].toArray 28 (0, 0)) :: Rs) (wGe fun f => by simp only [mks, List.getElem_toArray, List.getElem_cons_zero, List.getElem_cons_succ, List.map_append, List.map_cons, List.map_nil, List.sum_append, List.sum_cons, List.sum_nil] <;> omega)).tl).tl).tl) ?_
    refine jQn ?_
    obtain ⟨hsf1, hsf2, hsf3⟩ := setF_all (a := a9) hkw hj1 hj2 hwx hj4 hj5
    refine ⟨t9, setF w (wBh t w l) a9, da9, dc9, a9, Rs, by rw [hsf3], ?_, hBs.mono (hMf.trans (hMp.trans hMr)), hts, ⟨da9, dc9, ips.take (wBh t w l).2.1 ++ [(⟨wDc (wBh t w l).1, a9, []⟩, .slice none 0 0)] ++ ips.drop ((wBh t w l).2.1 + (wBh t w l).2.2), rfl, by rw [hsf3]; exact hrc, hrs, by rw [List.map_append, List.map_append, List.map_take, List.map_drop, hip]; rfl, fun p hp => ?_⟩, hsf1, hsf2, .inr hr9⟩
    ·rw [List.length_append, List.length_singleton, hdrop, dn, hdn]
     show upD t w l held = _
     unfold upD; rw [if_neg hl0, show w.lv - 1 = (pre.length : Int) by omega, hsok]
    rcases List.mem_append.1 hp with hp | hp
    ·rcases List.mem_append.1 hp with hp | hp
     ·exact (hib2 p (List.mem_of_mem_take hp)).mono (hMf.trans (hMp.trans hMr))
     rw [List.mem_singleton.1 hp]; exact BS.nil
    exact (hib2 p (List.mem_of_mem_drop hp)).mono (hMf.trans (hMp.trans hMr))
   refine wBc [3, 12] (by kernel_rfl) rfl ⟨?_, ?_, trivial⟩
   ·refine wDe rfl rfl rfl (hCallN rfl rfl rfl rfl rfl (by kernel_rfl) (iclone_ips ia ic w.xs ips hipl _ (by first | exact his.mono (hMj.trans hMs) | exact his.mono (hMj.trans (hMs.trans hM12))) (by first | exact hib2 | exact fun p hp => (hib2 p hp).mono hM12) (by omega))) ?_; rintro _ M3 _ ⟨hM3, Rc, rfl, hownc, hnw1⟩
    refine wAo (hM3) (by simp) ?_
    obtain ⟨ca, cc, hcv⟩ := hownc.form
    subst hcv
    refine wBc [12] (by kernel_rfl) rfl ⟨?_, trivial⟩
    refine wDe rfl rfl rfl (wLt hX9 rfl rfl rfl (by rfl) (by rfl) (by rfl)) ?_; rintro _ M12 _ ⟨b120, rfl, rfl, hM12, e120⟩
    refine wAo ((hM3).trans hM12) (by simp) ?_
    refine wCa (listed' := #[true, true, true, true, true, true, true, true, true, true, true, true, true, false, true, false, false]) (by kernel_rfl) (wBy (.cons (t := 13) rfl (.cons (t := 14) rfl (.cons (t := 20) rfl (.cons (t := 111) rfl (.cons (t := 113) rfl (.cons (t := 118) rfl (.cons (t := 120) rfl (.cons (t := 122) rfl .nil)))))))) ?_)
    refine wGo (M2 := _) (L2 := Rc ++ (b22, .cells [.int .u8 (wDc (wBh t w l).1).kind, .int .u32 (wDc (wBh t w l).1).id, .int .u32 (wDc (wBh t w l).1).off, .int .i64 a9, .slice none 0 0].toArray 46 (0, 0)) :: (b19, .cells [.int .i64 ((wBh t w l).2.1 : Int), .int .i64 ((wBh t w l).2.2 : Int)].toArray 64 (0, 0)) :: (b17, .cells [.int .i64 w.lv, .slice ia w.xs.length ic, .int .i64 w.at_].toArray 55 (0, 0)) :: (b13, .cells [.slice la l.length lc].toArray 51 (0, 0)) :: (b14, .cells [.int .i64 (held)].toArray 3 (0, 0)) :: (b8, .cells [Value.int .i64 (0)].toArray 34 (0, 0)) :: (b7, .cells [Value.int .i64 0].toArray 3 (0, 0)) :: (b6, .cells [Value.slice none 0 0, Value.slice none 0 0, Value.slice none 0 0, Value.slice none 0 0].toArray 28 (0, 0)) :: Rs) (fun w h => h.perm (wGe fun f => by simp only [mks, List.getElem_toArray, List.getElem_cons_zero, List.getElem_cons_succ, List.map_append, List.map_cons, List.map_nil, List.sum_append, List.sum_cons, List.sum_nil] <;> omega)) (by first | exact hM3.trans hM12 | exact hM12.trans hM3) (by simp) ?_
    exact rest (_, ca, cc, Rc, b120) ⟨by first | exact hM3.trans hM12 | exact hM12.trans hM3, hownc, hnw1, by first | exact e120 | exact hM3 _ _ e120⟩
   refine wDe rfl rfl rfl (wLt hX9 rfl rfl rfl (by rfl) (by rfl) (by rfl)) ?_; rintro _ M12 _ ⟨b120, rfl, rfl, hM12, e120⟩
   refine wAo (hM12) (by simp) ?_
   refine wBc [3] (by kernel_rfl) rfl ⟨?_, trivial⟩
   refine wDe rfl rfl rfl (hCallN rfl rfl rfl rfl rfl (by kernel_rfl) (iclone_ips ia ic w.xs ips hipl _ (by first | exact his.mono (hMj.trans hMs) | exact his.mono (hMj.trans (hMs.trans hM12))) (by first | exact hib2 | exact fun p hp => (hib2 p hp).mono hM12) (by omega))) ?_; rintro _ M3 _ ⟨hM3, Rc, rfl, hownc, hnw1⟩
   refine wAo ((hM12).trans hM3) (by simp) ?_
   obtain ⟨ca, cc, hcv⟩ := hownc.form
   subst hcv
   refine wCa (listed' := #[true, true, true, true, true, true, true, true, true, true, true, true, true, false, true, false, false]) (by kernel_rfl) (wBy (.cons (t := 13) rfl (.cons (t := 14) rfl (.cons (t := 20) rfl (.cons (t := 111) rfl (.cons (t := 113) rfl (.cons (t := 118) rfl (.cons (t := 120) rfl (.cons (t := 122) rfl .nil)))))))) ?_)
   refine wGo (M2 := _) (L2 := Rc ++ (b22, .cells [.int .u8 (wDc (wBh t w l).1).kind, .int .u32 (wDc (wBh t w l).1).id, .int .u32 (wDc (wBh t w l).1).off, .int .i64 a9, .slice none 0 0].toArray 46 (0, 0)) :: (b19, .cells [.int .i64 ((wBh t w l).2.1 : Int), .int .i64 ((wBh t w l).2.2 : Int)].toArray 64 (0, 0)) :: (b17, .cells [.int .i64 w.lv, .slice ia w.xs.length ic, .int .i64 w.at_].toArray 55 (0, 0)) :: (b13, .cells [.slice la l.length lc].toArray 51 (0, 0)) :: (b14, .cells [.int .i64 (held)].toArray 3 (0, 0)) :: (b8, .cells [Value.int .i64 (0)].toArray 34 (0, 0)) :: (b7, .cells [Value.int .i64 0].toArray 3 (0, 0)) :: (b6, .cells [Value.slice none 0 0, Value.slice none 0 0, Value.slice none 0 0, Value.slice none 0 0].toArray 28 (0, 0)) :: Rs) (fun w h => h.perm (wGe fun f => by simp only [mks, List.getElem_toArray, List.getElem_cons_zero, List.getElem_cons_succ, List.map_append, List.map_cons, List.map_nil, List.sum_append, List.sum_cons, List.sum_nil] <;> omega)) (by first | exact hM3.trans hM12 | exact hM12.trans hM3) (by simp) ?_
   exact rest (_, ca, cc, Rc, b120) ⟨by first | exact hM3.trans hM12 | exact hM12.trans hM3, hownc, hnw1, by first | exact e120 | exact hM3 _ _ e120⟩
  ·intro d M3 R3 hM3 hI3
   obtain ⟨t3, l3, la3, lc3, held3, Lb3, rfl, hdn3, hB3, ht3, hnl3, hkl3, hll3, hhd3⟩ := hI3
   rw [wGs, hwl9, Nat.sub_self, List.drop_zero] at hdn3
   refine wGb (M' := M3) (L' := (d, .deferred (some [])) :: (b13, .cells [.slice la3 l3.length lc3].toArray 51 (0, 0)) :: (b14, .cells [.int .i64 (held3)].toArray 3 (0, 0)) :: (b8, .cells [Value.int .i64 (0)].toArray 34 (0, 0)) :: (b7, .cells [Value.int .i64 0].toArray 3 (0, 0)) :: (b6, .cells [Value.slice none 0 0, Value.slice none 0 0, Value.slice none 0 0, Value.slice none 0 0].toArray 28 (0, 0)) :: Lb3) (fun w9 h => by rw [List.append_nil] at h; exact h) ?_
   refine jB (jT (wAb (wAa (wAi rfl rfl (qLd rfl rfl rfl rfl (CM.cj ⟨_, _, _, (hMg0.trans hM3) _ _ e11, rfl⟩ _)) ?_))))
   refine wAi rfl rfl (wBj rfl rfl rfl) ?_
   refine ja rfl (by omega) ?_
   refine jp rfl (wAc (jT (jc_merge (α := Int) (fun z => [(1, .int .i64 root), (6, .pointer (some ⟨b6, 0, none⟩)), (7, .pointer (some ⟨b7, 0, none⟩)), (8, .pointer (some ⟨b8, 0, none⟩)), (13, .pointer (some ⟨b13, 0, none⟩)), (14, .pointer (some ⟨b14, 0, none⟩)), (15, .pointer (some ⟨b15, 0, none⟩)), (23, .int .i64 z)]) (fun _ => M3) (fun _ => (d, .deferred (some [])) :: (b13, .cells [.slice la3 l3.length lc3].toArray 51 (0, 0)) :: (b14, .cells [.int .i64 (held3)].toArray 3 (0, 0)) :: (b8, .cells [Value.int .i64 (0)].toArray 34 (0, 0)) :: (b7, .cells [Value.int .i64 0].toArray 3 (0, 0)) :: (b6, .cells [Value.slice none 0 0, Value.slice none 0 0, Value.slice none 0 0, Value.slice none 0 0].toArray 28 (0, 0)) :: Lb3) (fun z => z = if l3 = [] then 0 else ((wDf s q lev xs0).length : Int) - 1) ?_ ?_)))
   ·rintro z hz
    try dsimp only at hz ⊢
    refine wAb (wAb (wAa (wAi rfl rfl (qLd rfl rfl rfl rfl (CM.cj ⟨_, _, _, (hMg0.trans hM3) _ _ e15, rfl⟩ _)) ?_)))
    refine jp rfl (sLd rfl ?_)
    refine sLd rfl ?_
    refine wAy rfl rfl (wAu rfl rfl rfl rfl rfl (by kernel_rfl) (single_spec t3 z l3 held3 la3 lc3 bb M3 Lb3 hB3 ht3 hnl3 (fun y hy => (hkl3 y hy).1) hhd3)) ?_; rintro _ Mt _ ⟨hMt, Rs, rfl, hsg⟩
    obtain ⟨a9, e, rfl, hsg2⟩ := hsg
    refine jp rfl (jp rfl (jp rfl (sSt rfl ?_)))
    refine sSt rfl ?_
    refine wAc (jT (wAb (wAa (sLd rfl ?_))))
    refine js rfl (fun h138 => ?_) (fun h138 => ?_)
    ·refine wAc (jT (wAg rfl (wAb (wDb (p := { A := fun i => !([4].contains i), U := fun i => !([4].contains i) }) [(0, true), (1, true), (2, false), (3, false), (4, false)] _ ([(b8, .cells [Value.int .i64 e].toArray 34 (0, 0))]) ([]) (by kernel_rfl) (by kernel_rfl) (by kernel_rfl) (by kernel_rfl) rfl (by simp) (MLe.refl _) (by simp) ?_))))
     refine wBq rfl rfl rfl (wBa (cs := [_, _, _, _]) rfl rfl rfl (by rfl)) ?_
     refine dLd rfl rfl ?_
     refine jd_s rfl rfl (wBm rfl rfl rfl rfl rfl rfl rfl rfl) ?_; rintro _ _ _ ⟨rfl, rfl⟩
     refine ⟨_, _, MLe.refl _, (by first | exact MLe.refl _ | assumption | exact hMc.trans hMd | exact hMc.trans (hMu.trans hMp)), fun _ h => h, by simp, ?_⟩
     refine jd_s rfl rfl (wBm rfl rfl rfl rfl rfl rfl rfl rfl) ?_; rintro _ _ _ ⟨rfl, rfl⟩
     refine ⟨_, _, MLe.refl _, (by first | exact MLe.refl _ | assumption | exact hMc.trans hMd | exact hMc.trans (hMu.trans hMp)), fun _ h => h, by simp, ?_⟩
     refine jd_e rfl rfl (wBm rfl rfl rfl rfl rfl rfl rfl rfl) ?_; rintro _ _ _ ⟨rfl, rfl⟩
     refine ⟨MLe.refl _, by simp, ?_⟩
     refine wFf ?_
     refine jPn (jT (wAe (jTr (jN (fun _ h => by cases h) ?_))))
     refine wFq (L2 := _) Rm.perm ?_
     refine wDa (rs := [_, _, _]) ([]) (by exact List.nil_sublist _) rfl (.cons (.agg rfl rfl rfl) (.cons (.one rfl rfl rfl) (.cons (.one rfl rfl rfl) .nil))) ?_
     refine ⟨?_, rfl⟩
     obtain ⟨he9, hbe⟩ | ⟨rfl, _⟩ := hsg2
     rotate_left
     ·exact absurd rfl h138
     rw [hdel]; unfold delIn; rw [hdn3]; show PtW (wLy root (delLow (wEb t3 (if l3 = [] then 0 else ((wDf s q lev xs0).length : Int) - 1) l3 held3))) _ _ _; rw [← hz, hbe]; exact ⟨he9, rfl⟩
    refine wAc (jT (wAk rfl (wAd (jT (wAb (wAb ?_))))))
    obtain ⟨he9, _⟩ | ⟨rfl, t4, hsok, ht4, hB4⟩ := hsg2
    ·exact absurd (Classical.not_not.1 h138) he9
    have hdt : delTop (((wDf s q lev xs0).length : Int) - 1) (dn s (wJi (wDf s q lev xs0)) ((wDf s q lev xs0).dropLast)) = .ok (t4, a9) := by rw [hdn3]; show wEb t3 (if l3 = [] then 0 else ((wDf s q lev xs0).length : Int) - 1) l3 held3 = _; rw [← hz]; exact hsok
    obtain ⟨y2, hy2⟩ := hfd0
    obtain ⟨L9, l9, htop⟩ : ∃ L9 l9, TopOk s t4 q lev xs0 root.toNat a9 L9 l9 := by
     have hback := find_back hy2
     rcases top_law (q := q) hst hnd0 (shp_of ht0) (tree_srt ht0) ⟨y2, hback.1, hback.2⟩ with ⟨e, k1, _⟩ | ⟨u, a, L, l, k1, k2⟩
     ·rw [hdt] at k1; cases k1
     rw [hdt] at k1; cases k1; exact ⟨L, l, k2⟩
    refine wAa (wAi rfl rfl (qLd rfl rfl rfl rfl (CM.cj ⟨_, _, _, (hMg0.trans (hM3.trans hMt)) _ _ e15, rfl⟩ _)) ?_)
    refine sLd rfl ?_
    refine wAy rfl rfl (wAu rfl rfl rfl rfl rfl (by kernel_rfl) (lower_spec t4 a9 L9 7 l9 bb Mt Rs hB4 ht4 htop.rng htop.nd (lev_of htop.shp) (by have := htop.le; omega))) ?_; rintro _ Mlo _ ⟨hMlo, Rlo, rfl, hsg⟩
    obtain ⟨r5, e5, rfl, hsg3⟩ := hsg
    refine jp rfl (jp rfl (jp rfl (sSt rfl ?_)))
    refine sSt rfl ?_
    refine wAc (jT (wAb (wAa (sLd rfl ?_))))
    refine js rfl (fun h148 => ?_) (fun h148 => ?_)
    ·refine wAc (jT (wAg rfl (wAb (wDb (p := { A := fun i => !([4].contains i), U := fun i => !([4].contains i) }) [(0, true), (1, true), (2, false), (3, false), (4, false)] _ ([(b8, .cells [Value.int .i64 e5].toArray 34 (0, 0))]) ([]) (by kernel_rfl) (by kernel_rfl) (by kernel_rfl) (by kernel_rfl) rfl (by simp) (MLe.refl _) (by simp) ?_))))
     refine wBq rfl rfl rfl (wBa (cs := [_, _, _, _]) rfl rfl rfl (by rfl)) ?_
     refine dLd rfl rfl ?_
     refine jd_s rfl rfl (wBm rfl rfl rfl rfl rfl rfl rfl rfl) ?_; rintro _ _ _ ⟨rfl, rfl⟩
     refine ⟨_, _, MLe.refl _, (by first | exact MLe.refl _ | assumption | exact hMc.trans hMd | exact hMc.trans (hMu.trans hMp)), fun _ h => h, by simp, ?_⟩
     refine jd_s rfl rfl (wBm rfl rfl rfl rfl rfl rfl rfl rfl) ?_; rintro _ _ _ ⟨rfl, rfl⟩
     refine ⟨_, _, MLe.refl _, (by first | exact MLe.refl _ | assumption | exact hMc.trans hMd | exact hMc.trans (hMu.trans hMp)), fun _ h => h, by simp, ?_⟩
     refine jd_e rfl rfl (wBm rfl rfl rfl rfl rfl rfl rfl rfl) ?_; rintro _ _ _ ⟨rfl, rfl⟩
     refine ⟨MLe.refl _, by simp, ?_⟩
     refine wFf ?_
     refine jPn (jT (wAe (jTr (jN (fun _ h => by cases h) ?_))))
     refine wFq (L2 := _) Rm.perm ?_
     refine wDa (rs := [_, _, _]) ([]) (by exact List.nil_sublist _) rfl (.cons (.agg rfl rfl rfl) (.cons (.one rfl rfl rfl) (.cons (.one rfl rfl rfl) .nil))) ?_
     refine ⟨?_, rfl⟩
     obtain ⟨he9, hbe⟩ | ⟨rfl, _⟩ := hsg3
     rotate_left
     ·exact absurd rfl h148
     rw [hdel]; unfold delIn; rw [hdt]; show PtW (wLy root (lowF 7 t4 a9)) _ _ _; rw [hbe]; exact ⟨he9, rfl⟩
    refine wAc (jT (wAk rfl (wAd (jT (wAb (wAb ?_))))))
    obtain ⟨he9, _⟩ | ⟨rfl, t5, hlow, ht5, hB5⟩ := hsg3
    ·exact absurd (Classical.not_not.1 h148) he9
    refine wAa (wAi rfl rfl (qLd rfl rfl rfl rfl (CM.cj ⟨_, _, _, (hMg0.trans (hM3.trans (hMt.trans hMlo))) _ _ e15, rfl⟩ _)) ?_)
    refine jp rfl (wAy rfl rfl (wAu rfl rfl rfl rfl rfl (by kernel_rfl) (leave_spec t5 root ⟨hr8, hr256⟩ ht5 bb Mlo Rlo hB5)) ?_); rintro _ Mv _ ⟨hMv, Rv, rfl, hlp⟩
    obtain ⟨e, rfl, hlp2⟩ := LvPost.form hlp
    refine jp rfl (wAc (jT (wAb (wAa (jp rfl (js rfl (fun h155 => ?_) (fun h155 => ?_)))))))
    ·refine wAc (jT (wAg rfl (wAb (wAa (wAi rfl rfl (wBa (cs := [_, _, _, _]) rfl rfl rfl (by rfl)) ?_)))))
     refine jp rfl (sSt rfl ?_)
     refine sSt rfl ?_
     refine sSt rfl ?_
     refine wAc (jT (wAe (jTr (jN (fun _ h => by cases h) ?_))))
     refine wFq (L2 := _) Rm.perm ?_
     refine wDa (rs := [_, _, _]) ([]) (by exact List.nil_sublist _) rfl (.cons (.agg rfl rfl rfl) (.cons (.one rfl rfl rfl) (.cons (.one rfl rfl rfl) .nil))) ?_
     refine ⟨?_, rfl⟩
     obtain ⟨rfl, hlv⟩ | ⟨rfl, _⟩ := hlp2
     rotate_left
     ·exact absurd rfl h155
     rw [hdel]; unfold delIn; rw [hdt]; show PtW (wLy root (lowF 7 t4 a9)) _ _ _; rw [hlow]; show PtW (match wGv t5 root with | none => .error 8 | some u => .ok (u, r5)) _ _ _; rw [hlv]; exact ⟨by decide, rfl⟩
    refine wAc (jT (wAk rfl (wAd (jT (wAb ?_)))))
    obtain ⟨_, _⟩ | ⟨_, tv, hlv, hokv, hbov⟩ := hlp2
    ·exfalso; omega
    obtain ⟨hdk9, ⟨hn9, _⟩, ⟨hl9, _⟩⟩ := id hokv
    refine jc_bench (s := tv) hbov (by simp) ?_
    intro M9 pbv pwv pnv plv hM9 e9 k1 k2 k3 k4
    refine wBp [(0, true), (2, true), (1, false), (3, false), (4, false), (5, false)] [(b7, .cells [Value.int .i64 r5].toArray 3 (0, 0))] (by kernel_rfl) (by kernel_rfl) (by kernel_rfl) rfl (by simp) ?_
    refine wBq rfl rfl rfl (qLd rfl rfl rfl rfl (CM.cj ⟨_, _, _, (hMg0.trans (hM3.trans (hMt.trans (hMlo.trans (hMv.trans hM9))))) _ _ e15, rfl⟩ _)) ?_
    refine dLd rfl rfl ?_
    refine wHc rfl rfl rfl (wAu rfl rfl rfl rfl rfl (by kernel_rfl) (bstore_walkW tv bb pbv pwv pnv plv M9 e9 k1 k2 k3 k4 hdk9 (by omega) (by omega))) ?_; rintro _ Ms _ ⟨hMs, _, rfl, ⟨hst4, rfl⟩⟩
    refine ⟨_, _, MLe.refl _, hMs, fun _ h => h, by simp, ?_⟩
    obtain ⟨rb5, wa5, wc5, na5, nc5, la5, lc5, hb5, Mx5, My5, rfl, hstr5⟩ := id hst4
    refine jd_s rfl rfl (wBm rfl rfl rfl rfl rfl rfl rfl rfl) ?_; rintro _ _ _ ⟨rfl, rfl⟩
    refine ⟨_, _, MLe.refl _, (by first | exact MLe.refl _ | assumption | exact hMc.trans hMd | exact hMc.trans (hMu.trans hMp)), fun _ h => h, by simp, ?_⟩
    refine jd_s rfl rfl (wBm rfl rfl rfl rfl rfl rfl rfl rfl) ?_; rintro _ _ _ ⟨rfl, rfl⟩
    refine ⟨_, _, MLe.refl _, (by first | exact MLe.refl _ | assumption | exact hMc.trans hMd | exact hMc.trans (hMu.trans hMp)), fun _ h => h, by simp, ?_⟩
    refine jd_s rfl rfl (wBm rfl rfl rfl rfl rfl rfl rfl rfl) ?_; rintro _ _ _ ⟨rfl, rfl⟩
    refine ⟨_, _, MLe.refl _, (by first | exact MLe.refl _ | assumption | exact hMc.trans hMd | exact hMc.trans (hMu.trans hMp)), fun _ h => h, by simp, ?_⟩
    refine wBd (jPn (jT (wAe (jN (fun _ h => by cases h) ?_))))
    refine wFq (L2 := _) Rm.perm ?_
    refine wDa (rs := [_, _, _]) ([]) (by exact List.nil_sublist _) rfl (.cons (.agg rfl rfl rfl) (.cons (.one rfl rfl rfl) (.cons (.one rfl rfl rfl) .nil))) ?_
    refine ⟨?_, rfl⟩
    rw [hdel]; unfold delIn; rw [hdt]; show PtW (wLy root (lowF 7 t4 a9)) _ _ _; rw [hlow]; show PtW (match wGv t5 root with | none => .error 8 | some u => .ok (u, r5)) _ _ _; rw [hlv]
    exact ⟨_, rfl, hst4.anti (hMw.trans (hMg.trans (hM3.trans (hMt.trans (hMlo.trans (hMv.trans hM9)))))), hokv⟩
   refine wAb (wAa (sLd rfl ?_))
   refine wAi rfl rfl (wBj rfl rfl rfl) ?_
   refine js rfl (fun h128 => ?_) (fun h128 => ?_)
   ·refine wAc (jT (wAg rfl (wAa (jp rfl (wAc ?_)))))
    exact wHb 0 (.cons (t := 1) rfl (.cons (t := 6) rfl (.cons (t := 7) rfl (.cons (t := 8) rfl (.cons (t := 13) rfl (.cons (t := 14) rfl (.cons (t := 15) rfl (.cons (t := 23) rfl .nil)))))))) (by show 0 = if l3 = [] then 0 else _; rw [if_pos (List.eq_nil_of_length_eq_zero (by omega))]) (fun w h => h)
   refine wAc (jT (wAk rfl (wAd ?_)))
   exact wHb (((wDf s q lev xs0).length : Int) - 1) (.cons (t := 1) rfl (.cons (t := 6) rfl (.cons (t := 7) rfl (.cons (t := 8) rfl (.cons (t := 13) rfl (.cons (t := 14) rfl (.cons (t := 15) rfl (.cons (t := 23) rfl .nil)))))))) (by show _ = if l3 = [] then 0 else _; rw [if_neg (fun e => h128 (by rw [e]; rfl))]) (fun w h => h)
  intro d c pre M2 R2 hM2 hpre hI
  obtain ⟨e, held3, lv3, Lb3, rfl, he0, rfl, hdn3⟩ := hI
  refine wAe (jBr (jTr (jN (fun _ h => by cases h) ?_)))
  refine wFq (L2 := _) Rm.perm ?_
  refine wDa (rs := [_, _, _]) ([]) (by exact List.nil_sublist _) rfl (.cons (.agg rfl rfl rfl) (.cons (.one rfl rfl rfl) (.cons (.one rfl rfl rfl) .nil))) ?_
  refine ⟨?_, rfl⟩
  rw [hdel]; unfold delIn; rw [hdn3]; exact ⟨he0, rfl⟩
 refine wBc [3, 10] (by kernel_rfl) rfl ⟨?_, ?_, trivial⟩
 ·refine wDe rfl rfl rfl (wAu rfl rfl rfl rfl rfl (by kernel_rfl) (by have := wHv ea ec eps Mw hes (wHg heb) (by omega); rwa [hepl] at this)) ?_; rintro _ Mc _ ⟨hMc, Rc, rfl, hownc⟩
  refine wAo hMc (by simp) ?_
  obtain ⟨ca, cc, hcv⟩ := hownc.form
  subst hcv
  refine wBc [9, 10] (by kernel_rfl) rfl ⟨?_, ?_, trivial⟩
  ·refine wDe rfl rfl rfl (wAu rfl rfl rfl rfl rfl (by kernel_rfl) (by have := del_spec eps w0.at_ (by omega) ca cc Rc (by rw [hepl]; exact hownc) (wHg heb) Mc (by omega); rwa [hepl] at this)) ?_; rintro _ Md _ ⟨hMd, Rd, rfl, hownd⟩
   refine wAo (hMc.trans hMd) (by simp) ?_
   obtain ⟨da, dc, hdv⟩ := hownd.form
   subst hdv
   refine wBc [10] (by kernel_rfl) rfl ⟨?_, trivial⟩
   refine wDe rfl rfl rfl (wDy rfl rfl) ?_; rintro _ _ _ ⟨b13, rfl, rfl, rfl⟩
   refine wAo (by first | exact MLe.refl _ | exact hMc | exact hMc.trans hMd) (by simp) ?_
   refine wCa (listed' := #[true, true, true, true, true, true, true, true, true, true, true, false]) (by kernel_rfl) (wBy (.cons (t := 1) rfl (.cons (t := 3) rfl (.cons (t := 6) rfl (.cons (t := 7) rfl (.cons (t := 8) rfl (.cons (t := 11) rfl (.cons (t := 13) rfl (.cons (t := 55) rfl .nil)))))))) ?_)
   refine wGo (M2 := Md) (L2 := (b13, .cells [Value.slice none 0 0].toArray 51 (0, 0)) :: (Rd ++ (b12, .cells [.int .i64 w0.lv, .slice ea w0.xs.length ec, .int .i64 w0.at_].toArray 55 (0, 0)) :: (b11, .cells [.slice (some ⟨sb, so, none⟩) (wDf s q lev xs0).length wc2].toArray 49 (0, 0)) :: (b9, .cells [.int .u8 y0.key.kind, .int .u32 y0.key.id, .int .u32 y0.key.off, .int .i64 y0.ref, .slice ya yn yc].toArray 46 (0, 0)) :: (b8, .cells [Value.int .i64 0].toArray 34 (0, 0)) :: (b7, .cells [Value.int .i64 0].toArray 3 (0, 0)) :: (b6, .cells [Value.slice none 0 0, Value.slice none 0 0, Value.slice none 0 0, Value.slice none 0 0].toArray 28 (0, 0)) :: (b5, .cells [.int .u8 q.kind, .int .u32 q.id, .int .u32 q.off].toArray 31 (0, 0)) :: (b3, .cells [bv, .slice wa s.waits.length wc, nv, lw].toArray 28 (0, 0)) :: [])) (fun w h => h.perm (wGe fun f => by simp only [mks, List.getElem_toArray, List.getElem_cons_zero, List.getElem_cons_succ, List.map_append, List.map_cons, List.map_nil, List.sum_append, List.sum_cons, List.sum_nil] <;> omega)) (hMc.trans hMd) (by simp) ?_
   exact rest (Md, da, dc, Rd, b13) ⟨hMc.trans hMd, hownd⟩
  refine wDe rfl rfl rfl (wDy rfl rfl) ?_; rintro _ _ _ ⟨b13, rfl, rfl, rfl⟩
  refine wAo (by first | exact MLe.refl _ | exact hMc | exact hMc.trans hMd) (by simp) ?_
  refine wBc [9] (by kernel_rfl) rfl ⟨?_, trivial⟩
  refine wDe rfl rfl rfl (wAu rfl rfl rfl rfl rfl (by kernel_rfl) (by have := del_spec eps w0.at_ (by omega) ca cc Rc (by rw [hepl]; exact hownc) (wHg heb) Mc (by omega); rwa [hepl] at this)) ?_; rintro _ Md _ ⟨hMd, Rd, rfl, hownd⟩
  refine wAo (hMc.trans hMd) (by simp) ?_
  obtain ⟨da, dc, hdv⟩ := hownd.form
  subst hdv
  refine wCa (listed' := #[true, true, true, true, true, true, true, true, true, true, true, false]) (by kernel_rfl) (wBy (.cons (t := 1) rfl (.cons (t := 3) rfl (.cons (t := 6) rfl (.cons (t := 7) rfl (.cons (t := 8) rfl (.cons (t := 11) rfl (.cons (t := 13) rfl (.cons (t := 55) rfl .nil)))))))) ?_)
  refine wGo (M2 := Md) (L2 := (b13, .cells [Value.slice none 0 0].toArray 51 (0, 0)) :: (Rd ++ (b12, .cells [.int .i64 w0.lv, .slice ea w0.xs.length ec, .int .i64 w0.at_].toArray 55 (0, 0)) :: (b11, .cells [.slice (some ⟨sb, so, none⟩) (wDf s q lev xs0).length wc2].toArray 49 (0, 0)) :: (b9, .cells [.int .u8 y0.key.kind, .int .u32 y0.key.id, .int .u32 y0.key.off, .int .i64 y0.ref, .slice ya yn yc].toArray 46 (0, 0)) :: (b8, .cells [Value.int .i64 0].toArray 34 (0, 0)) :: (b7, .cells [Value.int .i64 0].toArray 3 (0, 0)) :: (b6, .cells [Value.slice none 0 0, Value.slice none 0 0, Value.slice none 0 0, Value.slice none 0 0].toArray 28 (0, 0)) :: (b5, .cells [.int .u8 q.kind, .int .u32 q.id, .int .u32 q.off].toArray 31 (0, 0)) :: (b3, .cells [bv, .slice wa s.waits.length wc, nv, lw].toArray 28 (0, 0)) :: [])) (fun w h => h.perm (wGe fun f => by simp only [mks, List.getElem_toArray, List.getElem_cons_zero, List.getElem_cons_succ, List.map_append, List.map_cons, List.map_nil, List.sum_append, List.sum_cons, List.sum_nil] <;> omega)) (hMc.trans hMd) (by simp) ?_
  exact rest (Md, da, dc, Rd, b13) ⟨hMc.trans hMd, hownd⟩
 refine wDe rfl rfl rfl (wDy rfl rfl) ?_; rintro _ _ _ ⟨b13, rfl, rfl, rfl⟩
 refine wAo (by first | exact MLe.refl _ | exact hMc | exact hMc.trans hMd) (by simp) ?_
 refine wBc [3] (by kernel_rfl) rfl ⟨?_, trivial⟩
 refine wDe rfl rfl rfl (wAu rfl rfl rfl rfl rfl (by kernel_rfl) (by have := wHv ea ec eps Mw hes (wHg heb) (by omega); rwa [hepl] at this)) ?_; rintro _ Mc _ ⟨hMc, Rc, rfl, hownc⟩
 refine wAo hMc (by simp) ?_
 obtain ⟨ca, cc, hcv⟩ := hownc.form
 subst hcv
 refine wBc [9] (by kernel_rfl) rfl ⟨?_, trivial⟩
 refine wDe rfl rfl rfl (wAu rfl rfl rfl rfl rfl (by kernel_rfl) (by have := del_spec eps w0.at_ (by omega) ca cc Rc (by rw [hepl]; exact hownc) (wHg heb) Mc (by omega); rwa [hepl] at this)) ?_; rintro _ Md _ ⟨hMd, Rd, rfl, hownd⟩
 refine wAo (hMc.trans hMd) (by simp) ?_
 obtain ⟨da, dc, hdv⟩ := hownd.form
 subst hdv
 refine wCa (listed' := #[true, true, true, true, true, true, true, true, true, true, true, false]) (by kernel_rfl) (wBy (.cons (t := 1) rfl (.cons (t := 3) rfl (.cons (t := 6) rfl (.cons (t := 7) rfl (.cons (t := 8) rfl (.cons (t := 11) rfl (.cons (t := 13) rfl (.cons (t := 55) rfl .nil)))))))) ?_)
 refine wGo (M2 := Md) (L2 := (b13, .cells [Value.slice none 0 0].toArray 51 (0, 0)) :: (Rd ++ (b12, .cells [.int .i64 w0.lv, .slice ea w0.xs.length ec, .int .i64 w0.at_].toArray 55 (0, 0)) :: (b11, .cells [.slice (some ⟨sb, so, none⟩) (wDf s q lev xs0).length wc2].toArray 49 (0, 0)) :: (b9, .cells [.int .u8 y0.key.kind, .int .u32 y0.key.id, .int .u32 y0.key.off, .int .i64 y0.ref, .slice ya yn yc].toArray 46 (0, 0)) :: (b8, .cells [Value.int .i64 0].toArray 34 (0, 0)) :: (b7, .cells [Value.int .i64 0].toArray 3 (0, 0)) :: (b6, .cells [Value.slice none 0 0, Value.slice none 0 0, Value.slice none 0 0, Value.slice none 0 0].toArray 28 (0, 0)) :: (b5, .cells [.int .u8 q.kind, .int .u32 q.id, .int .u32 q.off].toArray 31 (0, 0)) :: (b3, .cells [bv, .slice wa s.waits.length wc, nv, lw].toArray 28 (0, 0)) :: [])) (fun w h => h.perm (wGe fun f => by simp only [mks, List.getElem_toArray, List.getElem_cons_zero, List.getElem_cons_succ, List.map_append, List.map_cons, List.map_nil, List.sum_append, List.sum_cons, List.sum_nil] <;> omega)) (hMc.trans hMd) (by simp) ?_
 exact rest (Md, da, dc, Rd, b13) ⟨hMc.trans hMd, hownd⟩
theorem deld_wspec (s : Sto) (v : Value) (root : Int) (q : Ky) (M : Mem) (hv : ST M v s) : SpecL Tryz.prog 6 #[v, .int .i64 root, .agg (wBb q).toArray] M [] fun u M' L' => PtW (delF s root q) u M M' ∧ L' = [] := by
 obtain ⟨b, w, n, l, rfl, h1, ⟨wa, wc, wps, rfl, hwc, hws, hwp, hwb⟩, h3, h4⟩ := hv.ex
 exact del_walkW s root q b n l wa wc wps M h1 hwc hws hwp hwb h3 h4
end Go.Proofs.YtkcpllhggofloaaGreat
