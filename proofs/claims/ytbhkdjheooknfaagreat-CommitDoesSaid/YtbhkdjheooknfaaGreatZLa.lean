/- Walks: disks in new memory, told so. -/
import Derived.Test.YtbhkdjheooknfaaGreatZKy
namespace Go.Proofs.YtbhkdjheooknfaaGreat
set_option linter.unusedVariables false
set_option linter.unusedSectionVars false
set_option linter.unusedSimpArgs false
open Go.RowKit
section
variable {P : Program} {N : Fs} {F : Fr} {W : World} {X : List Nat} {M0 M : Mem} {L : Lc} {Q : Exit → Act → World → Prop}
theorem jq_freezeN {ex : Exit} {ob : Obj} {L2 : Lc} (g : Nat) [hp : Rm g ob L L2] (hg : g ∉ X) (h : ∀ M', MLe M M' → M g = none → M' g = some ob → JQ N ex F ⟨W, X, M0⟩ M' L2 Q) : JQ N ex F ⟨W, X, M0⟩ M L Q := by
 intro a w ha hw
 have hw' := hw.perm hp.perm
 obtain ⟨h1, h2, h3⟩ := St.freeze' hg hw'
 exact h _ h2 (hw'.locs (g, ob) (by simp)).2.2 h3 a w ha h1
end
theorem wFn {M M' : Mem} {g : Nat} (h : MLe M M') (hn : M' g = none) : M g = none := by
 cases e : M g with
 | none => rfl
 | some x => rw [h _ _ e] at hn; cases hn
structure DkN (M0 M' : Mem) (hb rb n : Nat) : Prop where
 h0 : M0 hb = none
 r0 : M0 rb = none
 ne : hb ≠ rb
 h1 : ∃ l : List By, 128 * n ≤ l.length ∧ M' hb = some (.cells (wAj l).toArray 5 (0, 0))
 r1 : M' rb = some (.cells (blC hb n n).toArray 26 (0, 0))
theorem DkN.mono {M0 M M' : Mem} {hb rb n : Nat} (h : DkN M0 M hb rb n) (hM : MLe M M') : DkN M0 M' hb rb n :=
 ⟨h.h0, h.r0, h.ne, by obtain ⟨l, h1, h2⟩ := h.h1; exact ⟨l, h1, hM _ _ h2⟩, hM _ _ h.r1⟩
theorem DkN.anti {M0 M1 M : Mem} {hb rb n : Nat} (h : DkN M1 M hb rb n) (hM : MLe M0 M1) : DkN M0 M hb rb n := ⟨wFn hM h.h0, wFn hM h.r0, h.ne, h.h1, h.r1⟩
def DkP (M0 M' : Mem) (u : Value) (bs : List (List By)) (ws : List Wt) : Prop := ∃ hb rb wv, u = .agg #[.slice (some ⟨rb, 0, none⟩) bs.length bs.length, wv] ∧ DkN M0 M' hb rb bs.length ∧ LS M' (.slice (some ⟨rb, 0, none⟩) bs.length bs.length) bs ∧ WS M' wv ws
theorem DkP.mono {M0 M M' : Mem} {u : Value} {bs : List (List By)} {ws : List Wt} (h : DkP M0 M u bs ws) (hM : MLe M M') : DkP M0 M' u bs ws := by
 obtain ⟨hb, rb, wv, h0, h1, h2, h3⟩ := h; exact ⟨hb, rb, wv, h0, h1.mono hM, h2.mono hM, h3.mono hM⟩
theorem DkP.anti {M0 M1 M : Mem} {u : Value} {bs : List (List By)} {ws : List Wt} (h : DkP M1 M u bs ws) (hM : MLe M0 M1) : DkP M0 M u bs ws := by
 obtain ⟨hb, rb, wv, h0, h1, h2, h3⟩ := h; exact ⟨hb, rb, wv, h0, h1.anti hM, h2, h3⟩
set_option maxHeartbeats 4000000 in
theorem dtwin_ownN (bs : List (List By)) (ws : List Wt) (a1 : Option Addr) (c1 : Nat) (ps1 : List (List By × Value)) (a2 : Option Addr) (c2 : Nat) (ps2 : List (Wt × Value)) (M : Mem) (hc1 : bs.length ≤ c1) (hs1 : SM M a1 (ps1.map (·.2))) (hp1 : ps1.map (·.1) = bs) (hb1 : ∀ p ∈ ps1, BS M p.2 p.1) (hc2 : ws.length ≤ c2) (hs2 : SM M a2 (ps2.flatMap wBs)) (hp2 : ps2.map (·.1) = ws) (hb2 : ∀ p ∈ ps2, BS M p.2 p.1.2) (hdk : dkOk bs ws) :
  SpecL Tryz.prog 56 #[.agg #[.slice a1 bs.length c1, .slice a2 ws.length c2]] M [] fun u M' L' => ∃ hb rb wv', u = .agg #[.slice (some ⟨rb, 0, none⟩) bs.length bs.length, wv'] ∧ DkN M M' hb rb bs.length ∧ LS M' (.slice (some ⟨rb, 0, none⟩) bs.length bs.length) bs ∧ ∃ ps : List (Wt × Value), ps.map (·.1) = ws ∧ (∀ p ∈ ps, BS M' p.2 p.1.2) ∧ Own wv' L' WT 2 ws.length (ps.flatMap wBs) := by
 obtain ⟨hq1, hq2, hq3, hq4⟩ := id hdk
 have hds : ∀ d ∈ bs ++ ws.map (·.2), d.length = 128 := fun d hd => by
  rcases List.mem_append.1 hd with hd | hd
  ·exact hq3 d hd
  obtain ⟨w, hw, rfl⟩ := List.mem_map.1 hd; exact (hq4 w hw).2.2
 have hdl : (bs ++ ws.map (·.2)).length = bs.length + ws.length := by simp
 have hpl : ∀ i, i ≤ bs.length + ws.length → (((bs ++ ws.map (·.2)).take i).flatten).length = 128 * i := fun i hi => by rw [wGt (fun d hd => hds d (List.mem_of_mem_take hd)), List.length_take]; congr 1; omega
 refine wAe (vs := [_]) 89 _ Tryz.func56 rfl Tryz.ntmps56 rfl rfl ?_; intro W
 refine wAb (wAa (wAv rfl rfl (wBw (cs := [_, _]) rfl rfl rfl rfl) ?_)); rintro _ _ _ ⟨b1, rfl, rfl, rfl⟩
 refine sAl rfl fun b2 => ?_
 refine wAc (jT (wAb (wAa (jp rfl (wAc (jT (wAb (wAb (wAa (sFL rfl rfl ?_))))))))))
 refine wAi rfl rfl (wBe rfl rfl rfl) ?_
 refine jp rfl (wAc (jT (wAh ?_)))
 refine wAo (α := Nat) (fun k => [(1, .pointer (some ⟨b1, 0, none⟩)), (2, .pointer (some ⟨b2, 0, none⟩)), (3, .int .i64 ((128 * k : Nat) : Int)), (15, .slice a1 bs.length c1), (16, .int .i64 bs.length), (17, .int .i64 k)]) (fun _ => M) (fun _ => [(b2, .cells [.slice none 0 0, .slice none 0 0].toArray 25 (0, 0)), (b1, .cells [.slice a1 bs.length c1, .slice a2 ws.length c2].toArray 25 (0, 0))]) (fun k => k ≤ bs.length) (fun k => bs.length - k)
  0 (.cons (t := 1) rfl (.cons (t := 2) rfl (.cons (t := 3) rfl (.cons (t := 15) rfl (.cons (t := 16) rfl (.cons (t := 17) rfl .nil)))))) (Nat.zero_le _) (fun _ h => h) ?_
 rintro k hk
 try dsimp only at hk ⊢
 refine wAb (wAa (js rfl (fun h18 => ?_) (fun h18 => ?_)))
 ·refine wAc (jT (wAb (wAg rfl (wAd (jT (wAb (wAh (wAb (wAa ?_)))))))))
  have hk1 : k < bs.length := by omega
  obtain ⟨sb, so, e0, hx⟩ := hs1.open (by intro e; have := congrArg List.length e; rw [List.length_map, List.length_nil] at this; have h2 := congrArg List.length hp1; rw [List.length_map] at h2; omega)
  subst e0
  obtain ⟨va, vc, hcl, hvc, hvs⟩ := wDp hx hp1 hb1 hk1
  have hl1 := hq3 bs[k] (List.getElem_mem _)
  refine wAi rfl rfl (wBb rfl rfl rfl rfl (by omega)) ?_
  refine wAi rfl rfl (qLd rfl rfl rfl rfl (hcl.cj _)) ?_
  refine jp rfl (wAc (jT (wAa (jp rfl (jp rfl (wAi rfl rfl (wBe rfl rfl rfl) ?_))))))
  refine ja rfl (by omega) ?_
  refine jp rfl (wAc (jB (jT (wAa (ja rfl (by omega) ?_)))))
  refine jp rfl (wAc ?_)
  refine wAn (k + 1) (.cons (t := 1) rfl (.cons (t := 2) rfl (Keep.ceq (t := 3) rfl (by rw [hl1]; congr 1) (.cons (t := 15) rfl (.cons (t := 16) rfl (.cons (t := 17) rfl .nil)))))) (by show k + 1 ≤ bs.length; omega) (by show bs.length - (k + 1) < bs.length - k; omega) (fun _ h => h)
 refine wAc (jT (wAb (wAk rfl (wAs (jTx (jTx (jBx (jT (wAb (wAb (wAa (sFL rfl rfl ?_))))))))))))
 refine wAi rfl rfl (wBe rfl rfl rfl) ?_
 refine jp rfl (wAc (jT (wAh ?_)))
 obtain rfl : k = bs.length := by omega
 refine wAo (α := Nat) (fun k => [(1, .pointer (some ⟨b1, 0, none⟩)), (2, .pointer (some ⟨b2, 0, none⟩)), (3, .int .i64 ((128 * (bs.length + k) : Nat) : Int)), (27, .slice a2 ws.length c2), (28, .int .i64 ws.length), (29, .int .i64 k)]) (fun _ => M) (fun _ => [(b2, .cells [.slice none 0 0, .slice none 0 0].toArray 25 (0, 0)), (b1, .cells [.slice a1 bs.length c1, .slice a2 ws.length c2].toArray 25 (0, 0))]) (fun k => k ≤ ws.length) (fun k => ws.length - k)
  0 (.cons (t := 1) rfl (.cons (t := 2) rfl (.cons (t := 3) rfl (.cons (t := 27) rfl (.cons (t := 28) rfl (.cons (t := 29) rfl .nil)))))) (Nat.zero_le _) (fun _ h => h) ?_
 rintro k hk
 try dsimp only at hk ⊢
 refine wAb (wAa (js rfl (fun h30 => ?_) (fun h30 => ?_)))
 ·refine wAc (jT (wAb (wAg rfl (wAd (jT (wAb (wAh (wAb (wAa ?_)))))))))
  have hk1 : k < ws.length := by omega
  obtain ⟨sb, so, e0, hx⟩ := hs2.open (by intro e; have := congrArg List.length e; rw [wBm wBs 2 wBx, List.length_nil] at this; have h2 := congrArg List.length hp2; rw [List.length_map] at h2; omega)
  subst e0
  obtain ⟨va, vc, hcl, hvc, hvs⟩ := wEc hx hp2 hb2 hk1
  have hl1 := (hq4 ws[k] (List.getElem_mem _)).2.2
  refine wAi rfl rfl (wBb rfl rfl rfl rfl (by omega)) ?_
  refine wAi rfl rfl (wGp (cs := wtc ws[k] va vc) rfl rfl rfl rfl rfl (fun i v hv => (hcl i v hv).cj _)) ?_
  refine sAl rfl fun b7 => ?_
  refine sSt rfl ?_
  refine wAc (jT (wAa (jp rfl (sFL rfl rfl ?_))))
  refine wAi rfl rfl (wBe rfl rfl rfl) ?_
  refine ja rfl (by omega) ?_
  refine jp rfl (wAc (jB (jT (wAa (ja rfl (by omega) ?_)))))
  refine jp rfl (wAc ?_)
  refine wAn (k + 1) (.cons (t := 1) rfl (.cons (t := 2) rfl (Keep.ceq (t := 3) rfl (by rw [hl1]; congr 1) (.cons (t := 27) rfl (.cons (t := 28) rfl (.cons (t := 29) rfl .nil)))))) (by show k + 1 ≤ ws.length; omega) (by show ws.length - (k + 1) < ws.length - k; omega) (fun _ h => h.fewer (by simp))
 refine wAc (jT (wAb (wAk rfl (wAs (jTx (jTx (jBx (jT (wAb (wAa (jp rfl ?_)))))))))))
 obtain rfl : k = ws.length := by omega
 refine wAv rfl rfl (wEa rfl rfl rfl rfl (by omega) (by rfl)) ?_; rintro _ _ _ ⟨b40, rfl, rfl, rfl⟩
 rw [hcells_zero]
 refine sAl rfl fun b8 => ?_
 refine sSt rfl ?_
 refine wAc (jT (wAb (wEf ([(b1, .cells [.slice a1 bs.length c1, .slice a2 ws.length c2].toArray 25 (0, 0))]) (by kernel_rfl) (by simp) ?_)))
 refine wDg (i := 0) rfl (by kernel_rfl) (by kernel_rfl) rfl rfl (wBi rfl rfl rfl rfl rfl) ?_
 refine wDg (i := 1) rfl (by kernel_rfl) (by kernel_rfl) rfl rfl (qLd rfl rfl rfl rfl (CJ.loc rfl)) ?_
 refine wDg (i := 2) rfl (by kernel_rfl) (by kernel_rfl) rfl rfl (wBe rfl rfl rfl) ?_
 refine wDg (i := 4) rfl (by kernel_rfl) (by kernel_rfl) rfl rfl (wBi rfl rfl rfl rfl rfl) ?_
 refine wDg (i := 5) rfl (by kernel_rfl) (by kernel_rfl) rfl rfl (qLd rfl rfl rfl rfl (CJ.loc rfl)) ?_
 refine wDg (i := 6) rfl (by kernel_rfl) (by kernel_rfl) rfl rfl (wBe rfl rfl rfl) ?_
 refine wDg (i := 7) rfl (by kernel_rfl) (by kernel_rfl) rfl rfl (wBi rfl rfl rfl rfl rfl) ?_
 refine wDg (i := 8) rfl (by kernel_rfl) (by kernel_rfl) rfl rfl (qLd rfl rfl rfl rfl (CJ.loc rfl)) ?_
 refine wDg (i := 9) rfl (by kernel_rfl) (by kernel_rfl) rfl rfl (wBe rfl rfl rfl) ?_
 refine wDg (i := 10) rfl (by kernel_rfl) (by kernel_rfl) rfl rfl (qA rfl rfl rfl rfl rfl (by omega)) ?_
 refine wEh (α := Nat × Nat × Nat) (fun _ => True) (fun x => [(1, .pointer (some ⟨b1, 0, none⟩)), (2, .pointer (some ⟨b2, 0, none⟩)), (8, .pointer (some ⟨b8, 0, none⟩)), (9, .pointer (some ⟨x.2.2, 0, none⟩)), (53, .agg [.slice (some ⟨x.1, 0, none⟩) bs.length bs.length, .slice (some ⟨x.2.1, 0, none⟩) ws.length (ws.length + 1)].toArray)]) (fun _ => M) (fun x => [(b8, .cells [.slice (some ⟨b40, 0, none⟩) (128 * (bs.length + ws.length - (0))) (128 * (bs.length + ws.length - (0)))].toArray THp (0, 0)), (b40, .cells (wCi ((bs ++ ws.map (·.2)).take (0)).flatten (128 * (bs.length + ws.length - (0)))).toArray 5 (0, 0)), (x.1, .cells (blC b40 bs.length 0).toArray 26 (0, 0)), (x.2.1, .cells (wrC b40 bs.length ws 0).toArray WT (0, 0)), (x.2.2, .cells [.slice none 0 0, .slice none 0 0].toArray 25 (0, 0)), (b2, .cells [.slice none 0 0, .slice none 0 0].toArray 25 (0, 0)), (b1, .cells [.slice a1 bs.length c1, .slice a2 ws.length c2].toArray 25 (0, 0))]) 1 #[true, true, true, true, true, true, true, true, true, true, true, true, true, true, false] ?_ (fun rest => ?_)
 ·rintro ⟨b44, b52, b9⟩ _
  try dsimp only
  refine wFo (i := 14) (by kernel_rfl) ?_
  refine js_s rfl rfl (wBd rfl rfl rfl rfl rfl rfl rfl rfl) ?_; rintro _ _ _ ⟨rfl, rfl⟩
  refine wAp (MLe.refl _) (by simp) ?_
  refine wHi (by kernel_rfl) ?_
  refine jPn (jT (wAb (wAb (wAa (sFL rfl rfl ?_)))))
  refine wAi rfl rfl (wBe rfl rfl rfl) ?_
  refine jp rfl (wAc (jT (wAh ?_)))
  refine wAo (α := Nat × Option Addr) (fun x => [(1, .pointer (some ⟨b1, 0, none⟩)), (2, .pointer (some ⟨b2, 0, none⟩)), (8, .pointer (some ⟨b8, 0, none⟩)), (9, .pointer (some ⟨b9, 0, none⟩)), (55, .slice a1 bs.length c1), (56, .int .i64 bs.length), (57, .int .i64 (x.1 : Int))]) (fun _ => M) (fun x => [(b8, .cells [.slice x.2 (128 * (bs.length + ws.length - (x.1))) (128 * (bs.length + ws.length - (x.1)))].toArray THp (0, 0)), (b40, .cells (wCi ((bs ++ ws.map (·.2)).take (x.1)).flatten (128 * (bs.length + ws.length - (x.1)))).toArray 5 (0, 0)), (b44, .cells (blC b40 bs.length (x.1)).toArray 26 (0, 0)), (b52, .cells (wrC b40 bs.length ws (0)).toArray WT (0, 0)), (b9, .cells [.slice (some ⟨b44, 0, none⟩) bs.length bs.length, .slice (some ⟨b52, 0, none⟩) ws.length (ws.length + 1)].toArray 25 (0, 0)), (b2, .cells [.slice none 0 0, .slice none 0 0].toArray 25 (0, 0)), (b1, .cells [.slice a1 bs.length c1, .slice a2 ws.length c2].toArray 25 (0, 0))]) (fun x => x.1 ≤ bs.length ∧ (0 < 128 * (bs.length + ws.length - x.1) → x.2 = some ⟨b40, ((bs ++ ws.map (·.2)).take (x.1)).flatten.length, none⟩)) (fun x => bs.length - x.1)
   (0, some ⟨b40, 0, none⟩) (.cons (t := 1) rfl (.cons (t := 2) rfl (.cons (t := 8) rfl (.cons (t := 9) rfl (.cons (t := 55) rfl (.cons (t := 56) rfl (.cons (t := 57) rfl .nil))))))) ⟨Nat.zero_le _, fun _ => rfl⟩ (fun _ h => h) ?_
  rintro ⟨k, A⟩ ⟨hk, hA⟩
  try dsimp only at hk hA ⊢
  refine wAb (wAa (js rfl (fun h58 => ?_) (fun h58 => ?_)))
  ·refine wAc (jT (wAb (wAg rfl (wAd (jT (wAb (wAh (wAb (wAa (jp rfl ?_))))))))))
   have hk1 : k < bs.length := by omega
   obtain ⟨sb, so, e0, hx⟩ := hs1.open (by intro e; have := congrArg List.length e; rw [List.length_map, List.length_nil] at this; have h2 := congrArg List.length hp1; rw [List.length_map] at h2; omega)
   subst e0
   obtain ⟨va, vc, hcl, hvc, hvs⟩ := wDp hx hp1 hb1 hk1
   have hl1 := hq3 bs[k] (List.getElem_mem _)
   refine wAi rfl rfl (wBb rfl rfl rfl rfl (by omega)) ?_
   refine wAi rfl rfl (qLd rfl rfl rfl rfl (hcl.cj _)) ?_
   refine jp rfl (jp rfl (wAc (jT (wBn [(0, true), (1, true), (2, true), (3, true), (4, false), (5, true), (6, false)] [(b9, .cells [.slice (some ⟨b44, 0, none⟩) bs.length bs.length, .slice (some ⟨b52, 0, none⟩) ws.length (ws.length + 1)].toArray 25 (0, 0))] (by kernel_rfl) (by kernel_rfl) (by kernel_rfl) rfl (by simp) ?_))))
   refine dFa rfl rfl ?_
   refine dLd rfl rfl ?_
   iterate 2 refine dp rfl rfl ?_
   obtain rfl : A = some ⟨b40, ((bs ++ ws.map (·.2)).take (k)).flatten.length, none⟩ := hA (by omega)
   have hst := wFq (bs := bs ++ ws.map (·.2)) (k := k) (by omega)
   rw [List.getElem_append_left hk1] at hst
   have hp1' := hpl k (by omega)
   refine wDy rfl rfl rfl (wAt rfl rfl rfl rfl rfl (by kernel_rfl) (wHx b8 b40 ((bs ++ ws.map (·.2)).take (k)).flatten bs[k] (128 * (bs.length + ws.length - (k))) va vc M hvc hvs (by omega) (by omega) (by omega))) ?_; rintro _ M' _ ⟨_, _, rfl, ⟨rfl, rfl, rfl⟩⟩
   refine ⟨_, _, MLe.refl _, MLe.refl _, fun _ h => h, by simp, ?_⟩
   rw [hp1', hl1, ← hst, show 128 * (bs.length + ws.length - k) - 128 = 128 * (bs.length + ws.length - (k + 1)) by omega, show (Value.slice (some ⟨b40, 128 * k, none⟩) 128 128) = wJm b40 k from rfl]
   refine wBh rfl rfl rfl (wBb rfl rfl rfl rfl (by omega)) ?_
   refine jd_s rfl rfl (hStore rfl rfl rfl rfl rfl rfl (by simp [Value.oneCell', wJm]) (by rw [blC_len (by omega)]; show _ + 1 ≤ _; omega)) ?_; rintro _ _ _ ⟨rfl, rfl⟩
   refine ⟨_, _, MLe.refl _, MLe.refl _, fun _ h => h, by simp, ?_⟩
   rw [blC_step (by omega) (by omega)]
   refine wBg (jPn (jB (jT (wAa (ja rfl (by omega) ?_)))))
   refine jp rfl (wAc ?_)
   refine wAn (k + 1, slA (some ⟨b40, 128 * k, none⟩) 128 (128 * (bs.length + ws.length - k)) 1) (.cons (t := 1) rfl (.cons (t := 2) rfl (.cons (t := 8) rfl (.cons (t := 9) rfl (.cons (t := 55) rfl (.cons (t := 56) rfl (.cons (t := 57) rfl .nil))))))) ⟨by show k + 1 ≤ bs.length; omega, ?_⟩ (by show bs.length - (k + 1) < bs.length - k; omega) (fun _ h => h)
   intro h0; replace h0 : 0 < 128 * (bs.length + ws.length - (k + 1)) := h0; show slA _ _ _ _ = some ⟨b40, ((bs ++ ws.map (·.2)).take (k + 1)).flatten.length, none⟩
   rw [wBu (by omega), hpl (k + 1) (by omega)]; congr 2
  refine wAc (jT (wAb (wAk rfl (wAs (jTx (jTx (jBx (jT (wAb (wAb (wAa (sFL rfl rfl ?_))))))))))))
  refine wAi rfl rfl (wBe rfl rfl rfl) ?_
  refine jp rfl (wAc (jT (wAh ?_)))
  obtain rfl : k = bs.length := by omega
  refine wAo (α := Nat × Option Addr) (fun x => [(1, .pointer (some ⟨b1, 0, none⟩)), (2, .pointer (some ⟨b2, 0, none⟩)), (8, .pointer (some ⟨b8, 0, none⟩)), (9, .pointer (some ⟨b9, 0, none⟩)), (70, .slice a2 ws.length c2), (71, .int .i64 ws.length), (72, .int .i64 (x.1 : Int))]) (fun _ => M) (fun x => [(b8, .cells [.slice x.2 (128 * (bs.length + ws.length - (bs.length + x.1))) (128 * (bs.length + ws.length - (bs.length + x.1)))].toArray THp (0, 0)), (b40, .cells (wCi ((bs ++ ws.map (·.2)).take (bs.length + x.1)).flatten (128 * (bs.length + ws.length - (bs.length + x.1)))).toArray 5 (0, 0)), (b44, .cells (blC b40 bs.length (bs.length)).toArray 26 (0, 0)), (b52, .cells (wrC b40 bs.length ws (x.1)).toArray WT (0, 0)), (b9, .cells [.slice (some ⟨b44, 0, none⟩) bs.length bs.length, .slice (some ⟨b52, 0, none⟩) ws.length (ws.length + 1)].toArray 25 (0, 0)), (b2, .cells [.slice none 0 0, .slice none 0 0].toArray 25 (0, 0)), (b1, .cells [.slice a1 bs.length c1, .slice a2 ws.length c2].toArray 25 (0, 0))]) (fun x => x.1 ≤ ws.length ∧ (0 < 128 * (bs.length + ws.length - (bs.length + x.1)) → x.2 = some ⟨b40, ((bs ++ ws.map (·.2)).take (bs.length + x.1)).flatten.length, none⟩)) (fun x => ws.length - x.1)
   (0, A) (.cons (t := 1) rfl (.cons (t := 2) rfl (.cons (t := 8) rfl (.cons (t := 9) rfl (.cons (t := 70) rfl (.cons (t := 71) rfl (.cons (t := 72) rfl .nil))))))) ⟨Nat.zero_le _, hA⟩ (fun _ h => h) ?_
  rintro ⟨k, A⟩ ⟨hk, hA⟩
  try dsimp only at hk hA ⊢
  refine wAb (wAa (js rfl (fun h73 => ?_) (fun h73 => ?_)))
  ·refine wAc (jT (wAb (wAg rfl (wAd (jT (wAb (wAh (wAb (wAa (jp rfl ?_))))))))))
   have hk1 : k < ws.length := by omega
   obtain ⟨sb, so, e0, hx⟩ := hs2.open (by intro e; have := congrArg List.length e; rw [wBm wBs 2 wBx, List.length_nil] at this; have h2 := congrArg List.length hp2; rw [List.length_map] at h2; omega)
   subst e0
   obtain ⟨va, vc, hcl, hvc, hvs⟩ := wEc hx hp2 hb2 hk1
   have hl1 := (hq4 ws[k] (List.getElem_mem _)).2.2
   refine wAi rfl rfl (wBb rfl rfl rfl rfl (by omega)) ?_
   refine wAi rfl rfl (wGp (cs := wtc ws[k] va vc) rfl rfl rfl rfl rfl (fun i v hv => (hcl i v hv).cj _)) ?_
   refine sAl rfl fun b13 => ?_
   refine jp rfl (sSt rfl ?_)
   refine wAc (jT (wBn [(0, true), (1, true), (2, true), (3, true), (4, true), (5, true), (6, true), (7, false), (8, true), (9, true), (10, false)] [(b13, .cells (wtc ws[k] va vc).toArray WT (0, 0)), (b9, .cells [.slice (some ⟨b44, 0, none⟩) bs.length bs.length, .slice (some ⟨b52, 0, none⟩) ws.length (ws.length + 1)].toArray 25 (0, 0))] (by kernel_rfl) (by kernel_rfl) (by kernel_rfl) rfl (by simp) ?_))
   refine dFa rfl rfl ?_
   refine dLd rfl rfl ?_
   refine dp rfl rfl ?_
   refine dFa rfl rfl ?_
   refine dLd rfl rfl ?_
   refine dFa rfl rfl ?_
   refine dLd rfl rfl ?_
   obtain rfl : A = some ⟨b40, ((bs ++ ws.map (·.2)).take (bs.length + k)).flatten.length, none⟩ := hA (by omega)
   have hst := wFq (bs := bs ++ ws.map (·.2)) (k := bs.length + k) (by omega)
   rw [List.getElem_append_right (by omega)] at hst
   simp only [Nat.add_sub_cancel_left, List.getElem_map] at hst
   have hp1' := hpl (bs.length + k) (by omega)
   refine wDy rfl rfl rfl (wAt rfl rfl rfl rfl rfl (by kernel_rfl) (wHx b8 b40 ((bs ++ ws.map (·.2)).take (bs.length + k)).flatten ws[k].2 (128 * (bs.length + ws.length - (bs.length + k))) va vc M hvc hvs (by omega) (by omega) (by omega))) ?_; rintro _ M' _ ⟨_, _, rfl, ⟨rfl, rfl, rfl⟩⟩
   refine ⟨_, _, MLe.refl _, MLe.refl _, fun _ h => h, by simp, ?_⟩
   rw [hp1', hl1, ← hst, show 128 * (bs.length + ws.length - (bs.length + k)) - 128 = 128 * (bs.length + ws.length - (bs.length + (k + 1))) by omega, show (Value.slice (some ⟨b40, 128 * (bs.length + k), none⟩) 128 128) = wJm b40 (bs.length + k) from rfl]
   refine wBh rfl rfl rfl (wAq (cs := [_, _]) rfl rfl rfl (by rfl)) ?_
   refine wBh rfl rfl rfl (wBb rfl rfl rfl rfl (by omega)) ?_
   refine jd_s rfl rfl (hStore (cs := [.int .i64 ws[k].1, wJm b40 (bs.length + k)]) rfl rfl rfl rfl rfl rfl (by simp [Value.oneCell', wJm]) (by rw [wrC_len (by omega)]; show _ + 2 ≤ _; omega)) ?_; rintro _ _ _ ⟨rfl, rfl⟩
   refine ⟨_, _, MLe.refl _, MLe.refl _, fun _ h => h, by simp, ?_⟩
   rw [wrC_step (by omega) (by omega) (by rw [show ws.getD k (0, []) = ws[k] from wDb hk1 _])]
   refine wBg (jPn (jB (jT (wAa (ja rfl (by omega) ?_)))))
   refine jp rfl (wAc ?_)
   refine wAn (k + 1, slA (some ⟨b40, 128 * (bs.length + k), none⟩) 128 (128 * (bs.length + ws.length - (bs.length + k))) 1) (.cons (t := 1) rfl (.cons (t := 2) rfl (.cons (t := 8) rfl (.cons (t := 9) rfl (.cons (t := 70) rfl (.cons (t := 71) rfl (.cons (t := 72) rfl .nil))))))) ⟨by show k + 1 ≤ ws.length; omega, ?_⟩ (by show ws.length - (k + 1) < ws.length - k; omega) (fun _ h => h.fewer (.cons_cons _ (.cons_cons _ (.cons _ (.refl _)))))
   intro h0; replace h0 : 0 < 128 * (bs.length + ws.length - (bs.length + (k + 1))) := h0; show slA _ _ _ _ = some ⟨b40, ((bs ++ ws.map (·.2)).take (bs.length + (k + 1))).flatten.length, none⟩
   rw [wBu (by omega), hpl (bs.length + (k + 1)) (by omega)]; congr 2
  refine wAc (jT (wAb (wAk rfl (wAs (jTx (jTx (jBx (jT (wAb (wAa (sLL rfl ?_)))))))))))
  refine sSt rfl ?_
  refine wAc (jT (wAf ?_))
  obtain rfl : k = ws.length := by omega
  refine jq_freezeN b40 (by simp) ?_
  intro Ma hMa n40 e40
  refine jq_freezeN b44 (by simp) ?_
  intro Mb hMb n44 e44
  refine wBr (rs := [_]) ([(b52, .cells (wrC b40 bs.length ws (ws.length)).toArray WT (0, 0))]) (by first | exact List.sublist_append_of_sublist_left (.refl _) | simp) rfl (.cons (.agg rfl rfl rfl) .nil) ?_
  have e40c := hMb _ _ e40
  rw [Nat.sub_self, Nat.mul_zero, List.take_of_length_le (by omega)] at e40c
  have e44c := e44
  have hdn : DkN M Mb b40 b44 bs.length := ⟨n40, wFn hMa n44, (fun e => by rw [e, n44] at e40; cases e40), ⟨(bs ++ ws.map (·.2)).flatten, by rw [wGt hds, hdl]; omega, by have e := e40c; unfold wCi at e; rw [List.replicate_zero, List.append_nil] at e; exact e⟩, e44c⟩
  refine ⟨b40, b44, _, rfl, hdn, ?_, (List.range ws.length).map (fun j => (ws.getD j (0, []), wJm b40 (bs.length + j))), ?_, ?_, ?_⟩
  ·refine ⟨_, _, (List.range bs.length).map (fun j => (bs.getD j [], wJm b40 j)), rfl, Nat.le_refl _, ?_, ?_, ?_⟩
   ·rw [List.map_map]; have := SM.of_block e44c; unfold blC at this; rw [Nat.sub_self, List.replicate_zero, List.append_nil] at this; exact this
   ·rw [List.map_map]; exact range_getD bs
   intro p hp; obtain ⟨j, hj, rfl⟩ := List.mem_map.1 hp
   have hj1 := List.mem_range.1 hj
   have := cut_bs hds e40c (j := j) (by omega)
   rw [List.getElem_append_left hj1] at this
   show BS _ _ (bs.getD j []); rw [wDb hj1]; exact this
  ·rw [List.map_map]; exact range_getW ws
  ·intro p hp; obtain ⟨j, hj, rfl⟩ := List.mem_map.1 hp
   have hj1 := List.mem_range.1 hj
   have := cut_bs hds e40c (j := bs.length + j) (by omega)
   rw [List.getElem_append_right (by omega)] at this
   simp only [Nat.add_sub_cancel_left, List.getElem_map] at this
   show BS _ _ (ws.getD j (0, [])).2; rw [wDb hj1]; exact this
  have hfl : ((List.range ws.length).map (fun j => (ws.getD j (0, []), wJm b40 (bs.length + j)))).flatMap wBs = (List.range ws.length).flatMap (fun j => [Value.int .i64 (ws.getD j (0, [])).1, wJm b40 (bs.length + j)]) := by rw [List.flatMap_map]; rfl
  have hl2 : ((List.range ws.length).flatMap (fun j => [Value.int .i64 (ws.getD j (0, [])).1, wJm b40 (bs.length + j)])).length = ws.length * 2 := by rw [← hfl, wBm wBs 2 wBx]; simp
  rw [hfl]
  refine ⟨hl2, .inr ⟨b52, ws.length + 1, _, rfl, rfl, Nat.le_succ _, ?_, ?_, ?_⟩⟩
  ·unfold maxLen; omega
  ·rw [show (wrC b40 bs.length ws ws.length).toArray.size = (wrC b40 bs.length ws ws.length).length from rfl, wrC_len (Nat.le_refl _)]; omega
  show (wrC b40 bs.length ws ws.length).take (ws.length * 2) = _
  unfold wrC; exact List.take_left' hl2
 refine wBa [3, 11, 13] (by kernel_rfl) rfl ⟨?_, ?_, ?_, trivial⟩
 ·refine wCs rfl rfl rfl (wEa rfl rfl rfl rfl (by omega) (by rfl)) ?_; rintro _ _ _ ⟨b44, rfl, rfl, rfl⟩
  refine wAp (MLe.refl _) (by simp) ?_
  rw [wEs b40]
  refine wBa [11, 13] (by kernel_rfl) rfl ⟨?_, ?_, trivial⟩
  ·refine wCs rfl rfl rfl (wEa rfl rfl rfl rfl (by omega) (by rfl)) ?_; rintro _ _ _ ⟨b52, rfl, rfl, rfl⟩
   refine wAp (MLe.refl _) (by simp) ?_
   rw [wEp b40 bs.length ws _ (by omega)]
   refine wDg (i := 12) rfl (by kernel_rfl) (by kernel_rfl) rfl rfl (wAq (cs := [_, _]) rfl rfl rfl (by rfl)) ?_
   refine wBa [13] (by kernel_rfl) rfl ⟨?_, trivial⟩
   refine wCs rfl rfl rfl (wCx rfl rfl) ?_; rintro _ _ _ ⟨b9, rfl, rfl, rfl⟩
   refine wAp (MLe.refl _) (by simp) ?_
   refine wBq (listed' := #[true, true, true, true, true, true, true, true, true, true, true, true, true, true, false]) (by kernel_rfl) (wBp (.cons (t := 1) rfl (.cons (t := 2) rfl (.cons (t := 8) rfl (.cons (t := 9) rfl (.cons (t := 53) rfl .nil))))) ?_)
   refine wEg (M2 := M) (L2 := [(b8, .cells [.slice (some ⟨b40, 0, none⟩) (128 * (bs.length + ws.length - (0))) (128 * (bs.length + ws.length - (0)))].toArray THp (0, 0)), (b40, .cells (wCi ((bs ++ ws.map (·.2)).take (0)).flatten (128 * (bs.length + ws.length - (0)))).toArray 5 (0, 0)), (b44, .cells (blC b40 bs.length (0)).toArray 26 (0, 0)), (b52, .cells (wrC b40 bs.length ws (0)).toArray WT (0, 0)), (b9, .cells [.slice none 0 0, .slice none 0 0].toArray 25 (0, 0)), (b2, .cells [.slice none 0 0, .slice none 0 0].toArray 25 (0, 0)), (b1, .cells [.slice a1 bs.length c1, .slice a2 ws.length c2].toArray 25 (0, 0))]) (fun w h => h.perm ((Rm.perm (g := b8)).trans (List.Perm.cons _ ((Rm.perm (g := b40)).trans (List.Perm.cons _ ((Rm.perm (g := b44)).trans (List.Perm.cons _ ((Rm.perm (g := b52)).trans (List.Perm.cons _ (Rm.perm (g := b9))))))))))) (MLe.refl _) (by simp) ?_
   exact rest (b44, b52, b9) trivial
  refine wCs rfl rfl rfl (wCx rfl rfl) ?_; rintro _ _ _ ⟨b9, rfl, rfl, rfl⟩
  refine wAp (MLe.refl _) (by simp) ?_
  refine wBa [11] (by kernel_rfl) rfl ⟨?_, trivial⟩
  refine wCs rfl rfl rfl (wEa rfl rfl rfl rfl (by omega) (by rfl)) ?_; rintro _ _ _ ⟨b52, rfl, rfl, rfl⟩
  refine wAp (MLe.refl _) (by simp) ?_
  rw [wEp b40 bs.length ws _ (by omega)]
  refine wDg (i := 12) rfl (by kernel_rfl) (by kernel_rfl) rfl rfl (wAq (cs := [_, _]) rfl rfl rfl (by rfl)) ?_
  refine wBq (listed' := #[true, true, true, true, true, true, true, true, true, true, true, true, true, true, false]) (by kernel_rfl) (wBp (.cons (t := 1) rfl (.cons (t := 2) rfl (.cons (t := 8) rfl (.cons (t := 9) rfl (.cons (t := 53) rfl .nil))))) ?_)
  refine wEg (M2 := M) (L2 := [(b8, .cells [.slice (some ⟨b40, 0, none⟩) (128 * (bs.length + ws.length - (0))) (128 * (bs.length + ws.length - (0)))].toArray THp (0, 0)), (b40, .cells (wCi ((bs ++ ws.map (·.2)).take (0)).flatten (128 * (bs.length + ws.length - (0)))).toArray 5 (0, 0)), (b44, .cells (blC b40 bs.length (0)).toArray 26 (0, 0)), (b52, .cells (wrC b40 bs.length ws (0)).toArray WT (0, 0)), (b9, .cells [.slice none 0 0, .slice none 0 0].toArray 25 (0, 0)), (b2, .cells [.slice none 0 0, .slice none 0 0].toArray 25 (0, 0)), (b1, .cells [.slice a1 bs.length c1, .slice a2 ws.length c2].toArray 25 (0, 0))]) (fun w h => h.perm ((Rm.perm (g := b8)).trans (List.Perm.cons _ ((Rm.perm (g := b40)).trans (List.Perm.cons _ ((Rm.perm (g := b44)).trans (List.Perm.cons _ ((Rm.perm (g := b52)).trans (List.Perm.cons _ (Rm.perm (g := b9))))))))))) (MLe.refl _) (by simp) ?_
  exact rest (b44, b52, b9) trivial
 ·refine wCs rfl rfl rfl (wEa rfl rfl rfl rfl (by omega) (by rfl)) ?_; rintro _ _ _ ⟨b52, rfl, rfl, rfl⟩
  refine wAp (MLe.refl _) (by simp) ?_
  rw [wEp b40 bs.length ws _ (by omega)]
  refine wBa [3, 13] (by kernel_rfl) rfl ⟨?_, ?_, trivial⟩
  ·refine wCs rfl rfl rfl (wEa rfl rfl rfl rfl (by omega) (by rfl)) ?_; rintro _ _ _ ⟨b44, rfl, rfl, rfl⟩
   refine wAp (MLe.refl _) (by simp) ?_
   rw [wEs b40]
   refine wDg (i := 12) rfl (by kernel_rfl) (by kernel_rfl) rfl rfl (wAq (cs := [_, _]) rfl rfl rfl (by rfl)) ?_
   refine wBa [13] (by kernel_rfl) rfl ⟨?_, trivial⟩
   refine wCs rfl rfl rfl (wCx rfl rfl) ?_; rintro _ _ _ ⟨b9, rfl, rfl, rfl⟩
   refine wAp (MLe.refl _) (by simp) ?_
   refine wBq (listed' := #[true, true, true, true, true, true, true, true, true, true, true, true, true, true, false]) (by kernel_rfl) (wBp (.cons (t := 1) rfl (.cons (t := 2) rfl (.cons (t := 8) rfl (.cons (t := 9) rfl (.cons (t := 53) rfl .nil))))) ?_)
   refine wEg (M2 := M) (L2 := [(b8, .cells [.slice (some ⟨b40, 0, none⟩) (128 * (bs.length + ws.length - (0))) (128 * (bs.length + ws.length - (0)))].toArray THp (0, 0)), (b40, .cells (wCi ((bs ++ ws.map (·.2)).take (0)).flatten (128 * (bs.length + ws.length - (0)))).toArray 5 (0, 0)), (b44, .cells (blC b40 bs.length (0)).toArray 26 (0, 0)), (b52, .cells (wrC b40 bs.length ws (0)).toArray WT (0, 0)), (b9, .cells [.slice none 0 0, .slice none 0 0].toArray 25 (0, 0)), (b2, .cells [.slice none 0 0, .slice none 0 0].toArray 25 (0, 0)), (b1, .cells [.slice a1 bs.length c1, .slice a2 ws.length c2].toArray 25 (0, 0))]) (fun w h => h.perm ((Rm.perm (g := b8)).trans (List.Perm.cons _ ((Rm.perm (g := b40)).trans (List.Perm.cons _ ((Rm.perm (g := b44)).trans (List.Perm.cons _ ((Rm.perm (g := b52)).trans (List.Perm.cons _ (Rm.perm (g := b9))))))))))) (MLe.refl _) (by simp) ?_
   exact rest (b44, b52, b9) trivial
  refine wCs rfl rfl rfl (wCx rfl rfl) ?_; rintro _ _ _ ⟨b9, rfl, rfl, rfl⟩
  refine wAp (MLe.refl _) (by simp) ?_
  refine wBa [3] (by kernel_rfl) rfl ⟨?_, trivial⟩
  refine wCs rfl rfl rfl (wEa rfl rfl rfl rfl (by omega) (by rfl)) ?_; rintro _ _ _ ⟨b44, rfl, rfl, rfl⟩
  refine wAp (MLe.refl _) (by simp) ?_
  rw [wEs b40]
  refine wDg (i := 12) rfl (by kernel_rfl) (by kernel_rfl) rfl rfl (wAq (cs := [_, _]) rfl rfl rfl (by rfl)) ?_
  refine wBq (listed' := #[true, true, true, true, true, true, true, true, true, true, true, true, true, true, false]) (by kernel_rfl) (wBp (.cons (t := 1) rfl (.cons (t := 2) rfl (.cons (t := 8) rfl (.cons (t := 9) rfl (.cons (t := 53) rfl .nil))))) ?_)
  refine wEg (M2 := M) (L2 := [(b8, .cells [.slice (some ⟨b40, 0, none⟩) (128 * (bs.length + ws.length - (0))) (128 * (bs.length + ws.length - (0)))].toArray THp (0, 0)), (b40, .cells (wCi ((bs ++ ws.map (·.2)).take (0)).flatten (128 * (bs.length + ws.length - (0)))).toArray 5 (0, 0)), (b44, .cells (blC b40 bs.length (0)).toArray 26 (0, 0)), (b52, .cells (wrC b40 bs.length ws (0)).toArray WT (0, 0)), (b9, .cells [.slice none 0 0, .slice none 0 0].toArray 25 (0, 0)), (b2, .cells [.slice none 0 0, .slice none 0 0].toArray 25 (0, 0)), (b1, .cells [.slice a1 bs.length c1, .slice a2 ws.length c2].toArray 25 (0, 0))]) (fun w h => h.perm ((Rm.perm (g := b8)).trans (List.Perm.cons _ ((Rm.perm (g := b40)).trans (List.Perm.cons _ ((Rm.perm (g := b44)).trans (List.Perm.cons _ ((Rm.perm (g := b52)).trans (List.Perm.cons _ (Rm.perm (g := b9))))))))))) (MLe.refl _) (by simp) ?_
  exact rest (b44, b52, b9) trivial
 refine wCs rfl rfl rfl (wCx rfl rfl) ?_; rintro _ _ _ ⟨b9, rfl, rfl, rfl⟩
 refine wAp (MLe.refl _) (by simp) ?_
 refine wBa [3, 11] (by kernel_rfl) rfl ⟨?_, ?_, trivial⟩
 ·refine wCs rfl rfl rfl (wEa rfl rfl rfl rfl (by omega) (by rfl)) ?_; rintro _ _ _ ⟨b44, rfl, rfl, rfl⟩
  refine wAp (MLe.refl _) (by simp) ?_
  rw [wEs b40]
  refine wBa [11] (by kernel_rfl) rfl ⟨?_, trivial⟩
  refine wCs rfl rfl rfl (wEa rfl rfl rfl rfl (by omega) (by rfl)) ?_; rintro _ _ _ ⟨b52, rfl, rfl, rfl⟩
  refine wAp (MLe.refl _) (by simp) ?_
  rw [wEp b40 bs.length ws _ (by omega)]
  refine wDg (i := 12) rfl (by kernel_rfl) (by kernel_rfl) rfl rfl (wAq (cs := [_, _]) rfl rfl rfl (by rfl)) ?_
  refine wBq (listed' := #[true, true, true, true, true, true, true, true, true, true, true, true, true, true, false]) (by kernel_rfl) (wBp (.cons (t := 1) rfl (.cons (t := 2) rfl (.cons (t := 8) rfl (.cons (t := 9) rfl (.cons (t := 53) rfl .nil))))) ?_)
  refine wEg (M2 := M) (L2 := [(b8, .cells [.slice (some ⟨b40, 0, none⟩) (128 * (bs.length + ws.length - (0))) (128 * (bs.length + ws.length - (0)))].toArray THp (0, 0)), (b40, .cells (wCi ((bs ++ ws.map (·.2)).take (0)).flatten (128 * (bs.length + ws.length - (0)))).toArray 5 (0, 0)), (b44, .cells (blC b40 bs.length (0)).toArray 26 (0, 0)), (b52, .cells (wrC b40 bs.length ws (0)).toArray WT (0, 0)), (b9, .cells [.slice none 0 0, .slice none 0 0].toArray 25 (0, 0)), (b2, .cells [.slice none 0 0, .slice none 0 0].toArray 25 (0, 0)), (b1, .cells [.slice a1 bs.length c1, .slice a2 ws.length c2].toArray 25 (0, 0))]) (fun w h => h.perm ((Rm.perm (g := b8)).trans (List.Perm.cons _ ((Rm.perm (g := b40)).trans (List.Perm.cons _ ((Rm.perm (g := b44)).trans (List.Perm.cons _ ((Rm.perm (g := b52)).trans (List.Perm.cons _ (Rm.perm (g := b9))))))))))) (MLe.refl _) (by simp) ?_
  exact rest (b44, b52, b9) trivial
 refine wCs rfl rfl rfl (wEa rfl rfl rfl rfl (by omega) (by rfl)) ?_; rintro _ _ _ ⟨b52, rfl, rfl, rfl⟩
 refine wAp (MLe.refl _) (by simp) ?_
 rw [wEp b40 bs.length ws _ (by omega)]
 refine wBa [3] (by kernel_rfl) rfl ⟨?_, trivial⟩
 refine wCs rfl rfl rfl (wEa rfl rfl rfl rfl (by omega) (by rfl)) ?_; rintro _ _ _ ⟨b44, rfl, rfl, rfl⟩
 refine wAp (MLe.refl _) (by simp) ?_
 rw [wEs b40]
 refine wDg (i := 12) rfl (by kernel_rfl) (by kernel_rfl) rfl rfl (wAq (cs := [_, _]) rfl rfl rfl (by rfl)) ?_
 refine wBq (listed' := #[true, true, true, true, true, true, true, true, true, true, true, true, true, true, false]) (by kernel_rfl) (wBp (.cons (t := 1) rfl (.cons (t := 2) rfl (.cons (t := 8) rfl (.cons (t := 9) rfl (.cons (t := 53) rfl .nil))))) ?_)
 refine wEg (M2 := M) (L2 := [(b8, .cells [.slice (some ⟨b40, 0, none⟩) (128 * (bs.length + ws.length - (0))) (128 * (bs.length + ws.length - (0)))].toArray THp (0, 0)), (b40, .cells (wCi ((bs ++ ws.map (·.2)).take (0)).flatten (128 * (bs.length + ws.length - (0)))).toArray 5 (0, 0)), (b44, .cells (blC b40 bs.length (0)).toArray 26 (0, 0)), (b52, .cells (wrC b40 bs.length ws (0)).toArray WT (0, 0)), (b9, .cells [.slice none 0 0, .slice none 0 0].toArray 25 (0, 0)), (b2, .cells [.slice none 0 0, .slice none 0 0].toArray 25 (0, 0)), (b1, .cells [.slice a1 bs.length c1, .slice a2 ws.length c2].toArray 25 (0, 0))]) (fun w h => h.perm ((Rm.perm (g := b8)).trans (List.Perm.cons _ ((Rm.perm (g := b40)).trans (List.Perm.cons _ ((Rm.perm (g := b44)).trans (List.Perm.cons _ ((Rm.perm (g := b52)).trans (List.Perm.cons _ (Rm.perm (g := b9))))))))))) (MLe.refl _) (by simp) ?_
 exact rest (b44, b52, b9) trivial
theorem dtwin_newspec (bs : List (List By)) (ws : List Wt) (u v : Value) (M : Mem) (h1 : LS M u bs) (h2 : WS M v ws) (h : dkOk bs ws) : SpecL Tryz.prog 56 #[.agg #[u, v]] M [] fun u M' L' => DkP M M' u bs ws ∧ L' = [] := by
 obtain ⟨a1, c1, ps1, rfl, hc1, hs1, hp1, hb1⟩ := h1
 obtain ⟨a2, c2, ps2, rfl, hc2, hs2, hp2, hb2⟩ := h2
 exact (dtwin_ownN bs ws a1 c1 ps1 a2 c2 ps2 M hc1 hs1 hp1 hb1 hc2 hs2 hp2 hb2 h).own fun v M' L' ⟨hb, rb, wv', h1, hd, h2, ps, h3, h4, h5⟩ =>
  ⟨_, _, _, _, _, h5, fun M'' a c k1 k2 k3 k4 => ⟨⟨hb, rb, wv', h1, hd.mono k1, h2.mono k1, a, c, ps, k2, k3, k4, h3, fun p hp => (h4 p hp).mono k1⟩, rfl⟩⟩
set_option maxHeartbeats 2000000 in
theorem settle_walkN (bs : List (List By)) (ws0 ws : List Wt) (a1 : Option Addr) (c1 : Nat) (ps1 : List (List By × Value)) (v0 : Value) (a2 : Option Addr) (c2 : Nat) (ps2 : List (Wt × Value)) (M : Mem) (hc1 : bs.length ≤ c1) (hs1 : SM M a1 (ps1.map (·.2))) (hp1 : ps1.map (·.1) = bs) (hb1 : ∀ p ∈ ps1, BS M p.2 p.1) (hc2 : ws.length ≤ c2) (hs2 : SM M a2 (ps2.flatMap wBs)) (hp2 : ps2.map (·.1) = ws) (hb2 : ∀ p ∈ ps2, BS M p.2 p.1.2) (hdk : dkOk bs ws0) (hw : ∀ w ∈ ws, 0 ≤ w.1 ∧ w.1 < 256 ∧ w.2.length = 128) (hwn : ws.length ≤ 4096) :
  SpecL Tryz.prog 37 #[.agg #[.slice a1 bs.length c1, v0], .slice a2 ws.length c2] M [] fun u M' L' => DkP M M' u (wFs bs ws) [] ∧ L' = [] := by
 have hbl : bs.length = 256 := hdk.1
 have hpl : ps1.length = 256 := by rw [← List.length_map (f := fun p : List By × Value => p.1), hp1]; exact hbl
 refine wAe (vs := [_, _]) 28 _ Tryz.func37 rfl Tryz.ntmps37 rfl rfl ?_; intro W
 refine wAb (wAa (wAv rfl rfl (wBw (cs := [_, _]) rfl rfl rfl rfl) ?_)); rintro _ _ _ ⟨b2, rfl, rfl, rfl⟩
 refine sAl rfl fun b4 => ?_
 refine wAc (jT (wAb (wAa (sFL rfl rfl ?_))))
 refine wAv rfl rfl (wAt rfl rfl rfl rfl rfl (by kernel_rfl) (bsclone_spec a1 bs.length c1 (ps1.map (·.2)) M hs1 (by rw [List.length_map]; omega) (fun v hv => by obtain ⟨p, hp, rfl⟩ := List.mem_map.1 hv; obtain ⟨_, _, h, _⟩ := hb1 p hp; rw [h]; rfl) (by omega))) ?_; rintro _ M1 _ ⟨hM1, R1, rfl, hown⟩
 obtain ⟨g, cap, cur, e0, e1, hcap, _⟩ := hown.open (by omega)
 subst e0
 refine wAi rfl rfl (wAq (cs := [_, _]) rfl rfl rfl (by rfl)) ?_
 refine sAl rfl fun b5 => ?_
 refine sSt rfl ?_
 refine wAc (jT (wAb (wAb (wAa (jp rfl (wAi rfl rfl (wBe rfl rfl rfl) ?_))))))
 refine jp rfl (wAc (jT (wAh ?_)))
 refine wAo (α := Nat × Lc × List (List By × Value)) (fun x => [(4, .pointer (some ⟨b4, 0, none⟩)), (5, .pointer (some ⟨b5, 0, none⟩)), (12, .slice a2 ws.length c2), (13, .int .i64 ws.length), (14, .int .i64 x.1)]) (fun _ => M1) (fun x => (b5, .cells [.slice (some ⟨g, 0, none⟩) bs.length cap, .slice none 0 0].toArray TDk (0, 0)) :: (x.2.1 ++ [(b4, .cells [.slice none 0 0, .slice none 0 0].toArray TDk (0, 0)), (b2, .cells [.slice a1 bs.length c1, v0].toArray TDk (0, 0))])) (fun x => x.1 ≤ ws.length ∧ Own (.slice (some ⟨g, 0, none⟩) bs.length cap) x.2.1 26 1 bs.length (x.2.2.map (·.2)) ∧ x.2.2.map (·.1) = wFs bs (ws.take x.1) ∧ ∀ p ∈ x.2.2, BS M1 p.2 p.1) (fun x => ws.length - x.1)
  (0, R1, ps1) (.cons (t := 4) rfl (.cons (t := 5) rfl (.cons (t := 12) rfl (.cons (t := 13) rfl (.cons (t := 14) rfl .nil))))) ⟨Nat.zero_le _, hown, by rw [List.take_zero]; exact hp1, fun p hp => (hb1 p hp).mono hM1⟩ (fun _ h => h) ?_
 rintro ⟨k, R, ps⟩ ⟨hk, hown, hps, hpb⟩
 try dsimp only at hk hown hps hpb ⊢
 refine wAb (wAa (js rfl (fun h15 => ?_) (fun h15 => ?_)))
 ·refine wAc (jT (wAb (wAg rfl (wAd (jT (wAb (wAh (wAb (wAa ?_)))))))))
  have hk1 : k < ws.length := by omega
  obtain ⟨sb, so, e0, hx⟩ := hs2.open (by intro e; have := congrArg List.length e; rw [wBm wBs 2 wBx, List.length_nil] at this; have h2 := congrArg List.length hp2; rw [List.length_map] at h2; omega)
  subst e0
  obtain ⟨va, vc, hcl, hvc, hvs⟩ := wEc hx hp2 hb2 hk1
  have hwk := hw ws[k] (List.getElem_mem hk1)
  refine wAi rfl rfl (wBb rfl rfl rfl rfl (by omega)) ?_
  refine wAi rfl rfl (wGp (cs := wtc ws[k] va vc) rfl rfl rfl rfl rfl (fun i v hv => ((hcl i v hv).mono hM1).cj _)) ?_
  refine sAl rfl fun b7 => ?_
  refine sSt rfl ?_
  refine wAc (jT (wAa (sFL rfl rfl ?_)))
  refine sFL rfl rfl ?_
  refine sFL rfl rfl ?_
  refine wAi rfl rfl (wBb rfl rfl rfl rfl (by omega)) ?_
  refine jl_s rfl (hStoreOwn rfl rfl rfl rfl rfl rfl hown rfl (by omega)) ?_; rintro _ _ _ ⟨rfl, R2, rfl, hown2⟩
  refine wAc (jB (jT (wAa (ja rfl (by omega) ?_))))
  refine jp rfl (wAc ?_)
  refine wAn (k + 1, R2, ps.set ws[k].1.toNat (ws[k].2, .slice va ws[k].2.length vc)) (.cons (t := 4) rfl (.cons (t := 5) rfl (.cons (t := 12) rfl (.cons (t := 13) rfl (.cons (t := 14) rfl .nil))))) ⟨by show k + 1 ≤ ws.length; omega, ?_, ?_, ?_⟩ (by show ws.length - (k + 1) < ws.length - k; omega) (fun w h => (h.perm (List.perm_append_comm_assoc R2 [_, _] [_, _])).fewer (.cons _ (.refl _)))
  ·show Own _ _ _ _ _ ((ps.set _ _).map (·.2)); rw [List.map_set]; simpa using hown2
  ·show (ps.set _ _).map (·.1) = wFs bs (ws.take (k + 1)); rw [List.map_set, hps, setB_step hk1]
  intro p hp
  rcases List.mem_or_eq_of_mem_set hp with hp | rfl
  ·exact hpb p hp
  exact BS.mono ⟨va, vc, rfl, hvc, hvs⟩ hM1
 refine wAc (jT (wAb (wAk rfl (wAs (jTx (jTx (jBx (jT (wAb (wAa (sLL rfl ?_)))))))))))
 obtain rfl : k = ws.length := by omega
 rw [List.take_length] at hps
 simp only [List.cons_append, List.nil_append]
 refine wDw hown (by simp) ?_
 intro Mf fa fc hMf ef hfc hfs; cases ef
 have hsl : (wFs bs ws).length = 256 := by rw [wFe]; exact hbl
 have hLS : LS Mf (.slice (some ⟨g, 0, none⟩) bs.length cap) (wFs bs ws) := ⟨_, _, ps, by rw [wFe], by rw [wFe]; exact hcap, hfs, hps, fun p hp => (hpb p hp).mono hMf⟩
 refine wAv rfl rfl (wAt rfl rfl rfl rfl rfl (by kernel_rfl) (dtwin_newspec (wFs bs ws) [] _ _ Mf hLS WS.nil (wGo hdk (fun w h => (hw w h).2.2)))) ?_; rintro _ M2 _ ⟨hM2, _, rfl, ⟨⟨nhb, nrb, wv2, rfl, hdn, hB, hW⟩, rfl⟩⟩
 obtain ⟨wa, wc, wps, rfl, _⟩ := id hW
 refine sSt rfl ?_
 refine wAc (jT (wAf (wBr (rs := [_]) ([]) (by exact List.nil_sublist _) rfl (.cons (.agg rfl rfl rfl) .nil) ?_)))
 exact ⟨⟨_, _, _, rfl, hdn.anti (hM1.trans hMf), hB, hW⟩, rfl⟩
theorem wJb (bs : List (List By)) (ws0 ws : List Wt) (u v0 v : Value) (M : Mem) (h1 : LS M u bs) (h2 : WS M v ws) (hdk : dkOk bs ws0) (hw : ∀ w ∈ ws, 0 ≤ w.1 ∧ w.1 < 256 ∧ w.2.length = 128) (hwn : ws.length ≤ 4096) : SpecL Tryz.prog 37 #[.agg #[u, v0], v] M [] fun u M' L' => DkP M M' u (wFs bs ws) [] ∧ L' = [] := by
 obtain ⟨a1, c1, ps1, rfl, hc1, hs1, hp1, hb1⟩ := h1
 obtain ⟨a2, c2, ps2, rfl, hc2, hs2, hp2, hb2⟩ := h2
 exact settle_walkN bs ws0 ws a1 c1 ps1 v0 a2 c2 ps2 M hc1 hs1 hp1 hb1 hc2 hs2 hp2 hb2 hdk hw hwn
theorem barrier_newspec (bs : List (List By)) (ws : List Wt) (bv wv : Value) (M : Mem) (h1 : LS M bv bs) (h2 : WS M wv ws) (hdk : dkOk bs ws) :
  SpecL Tryz.prog 17 #[.agg #[bv, wv]] M [] fun u M' L' => (∃ d, u = .tuple #[d, .int .i64 0] ∧ DkP M M' d (wFs bs ws) []) ∧ L' = [] := by
 have hck : dkChk bs ws = 0 := if_pos hdk
 refine wAe (vs := [_]) 15 _ Tryz.func17 rfl Tryz.ntmps17 rfl rfl ?_; intro W
 refine wAb (wAa (wAv rfl rfl (wBw (cs := [_, _]) rfl rfl rfl rfl) ?_)); rintro _ _ _ ⟨b1, rfl, rfl, rfl⟩
 refine sAl rfl fun b2 => ?_
 refine jp rfl (wAc (jT (wAb (wAb (wAa (sLL rfl ?_))))))
 refine wAi rfl rfl (wAy rfl rfl rfl rfl rfl (by kernel_rfl) (wDu bs ws bv wv M h1 h2)) ?_
 refine jp rfl (wAc (jT (wAb (wAa (jp rfl ?_)))))
 refine jf rfl (decide_eq_false (by first | omega | (rw [hck]; decide))) ?_
 refine wAc (jT (wAk rfl (wAd (jT (wAb (wAa (sLL rfl ?_)))))))
 refine sFL rfl rfl ?_
 refine wAv rfl rfl (wAt rfl rfl rfl rfl rfl (by kernel_rfl) (wJb bs ws ws bv wv _ M (h1) h2 hdk hdk.w (by exact hdk.2.1))) ?_; rintro _ M1 _ ⟨hM1, _, rfl, ⟨hdk2, rfl⟩⟩
 obtain ⟨nhb, nrb, wv2, rfl, hdn, hB, hW⟩ := hdk2
 obtain ⟨wa, wc, wps, rfl, _⟩ := id hW
 refine sSt rfl ?_
 refine jp rfl (wAc (jT (wAf (wBr (rs := [_, _]) ([]) (by exact List.nil_sublist _) rfl (.cons (.agg rfl rfl rfl) (.cons (.tmp rfl) .nil)) ?_))))
 exact ⟨⟨_, rfl, _, _, _, rfl, hdn, hB, hW⟩, rfl⟩
set_option maxHeartbeats 1000000 in
theorem crash_newspec (bs : List (List By)) (ws : List Wt) (bv wv : Value) (M : Mem) (h1 : LS M bv bs) (h2 : WS M wv ws) (hdk : dkOk bs ws) (keep : List Bool) (ka : Option Addr) (kc : Nat) (hks : SM M ka (wDd keep)) (hkl : keep.length ≤ 1000000) :
  SpecL Tryz.prog 22 #[.agg #[bv, wv], .slice ka keep.length kc] M [] fun u M' L' => (if keep.length = ws.length then ∃ d, u = .tuple #[d, .int .i64 0] ∧ DkP M M' d (wFs bs (wGc keep ws)) [] else u = .tuple #[.agg #[.slice none 0 0, .slice none 0 0], .int .i64 2]) ∧ L' = [] := by
 have hck : dkChk bs ws = 0 := if_pos hdk
 have h1c := h1
 have h2c := h2
 obtain ⟨a2, c2, ps2, rfl, hc2, hs2, hp2, hb2⟩ := id h2
 have hw4 : ws.length ≤ 4096 := hdk.2.1
 refine wAe (vs := [_, _]) 43 _ Tryz.func22 rfl Tryz.ntmps22 rfl rfl ?_; intro W
 refine wAb (wAa (wAv rfl rfl (wBw (cs := [_, _]) rfl rfl rfl rfl) ?_)); rintro _ _ _ ⟨b2, rfl, rfl, rfl⟩
 refine sAl rfl fun b4 => ?_
 refine jp rfl (wAc (jT (wAb (wAb (wAa (sLL rfl ?_))))))
 refine wAi rfl rfl (wAy rfl rfl rfl rfl rfl (by kernel_rfl) (wDu bs ws bv _ M h1c h2c)) ?_
 refine jp rfl (wAc (jT (wAb (wAa (jp rfl ?_)))))
 refine jf rfl (decide_eq_false (by first | omega | (rw [hck]; decide))) ?_
 refine wAc (jT (wAk rfl (wAd (jT (wAb (wAb (wAa (jp rfl (wAi rfl rfl (wBe rfl rfl rfl) ?_)))))))))
 refine sFL rfl rfl ?_
 refine wAi rfl rfl (wBe rfl rfl rfl) ?_
 refine js rfl (fun h21 => ?_) (fun h21 => ?_)
 ·refine wAc (jT (wAg rfl (wAb (wAa (wAi rfl rfl (wAq (cs := [_, _]) rfl rfl rfl (by rfl)) ?_)))))
  refine sSt rfl ?_
  refine jp rfl (wAc (jT (wAf (jTr (wBr (rs := [_, _]) ([]) (by exact List.nil_sublist _) rfl (.cons (.agg rfl rfl rfl) (.cons (.tmp rfl) .nil)) ?_)))))
  exact ⟨by rw [if_neg (by omega)]; rfl, rfl⟩
 refine wAc (jT (wAk rfl (wAd (jT (wAb (wAa (jp rfl (wAc (jT (wAb (wAb (wAa (jp rfl (wAi rfl rfl (wBe rfl rfl rfl) ?_))))))))))))))
 refine jp rfl (wAc (jT (wAh ?_)))
 refine wAo (α := Nat × Lc × Value × List (Wt × Value)) (fun x => [(2, .pointer (some ⟨b2, 0, none⟩)), (4, .pointer (some ⟨b4, 0, none⟩)), (7, x.2.2.1), (23, .slice ka keep.length kc), (24, .int .i64 keep.length), (25, .int .i64 x.1)]) (fun _ => M) (fun x => x.2.1 ++ [(b4, .cells [.slice none 0 0, .slice none 0 0].toArray TDk (0, 0)), (b2, .cells [bv, .slice a2 ws.length c2].toArray TDk (0, 0))]) (fun x => x.1 ≤ keep.length ∧ Own x.2.2.1 x.2.1 WT 2 (wGc (keep.take x.1) ws).length (x.2.2.2.flatMap wBs) ∧ x.2.2.2.map (·.1) = wGc (keep.take x.1) ws ∧ ∀ p ∈ x.2.2.2, BS M p.2 p.1.2) (fun x => keep.length - x.1)
  (0, [], .slice none 0 0, []) (.cons (t := 2) rfl (.cons (t := 4) rfl (.cons (t := 7) rfl (.cons (t := 23) rfl (.cons (t := 24) rfl (.cons (t := 25) rfl .nil)))))) ⟨Nat.zero_le _, Own.nil _ _, rfl, fun _ h => by cases h⟩ (fun _ h => h) ?_
 rintro ⟨k, R, v, qs⟩ ⟨hk, hown, hq1, hq2⟩
 try dsimp only at hk hown hq1 hq2 ⊢
 refine wAb (wAa (js rfl (fun h26 => ?_) (fun h26 => ?_)))
 ·refine wAc (jT (wAb (wAg rfl (wAd (jT (wAb (wAh (wAb (wAa (jp rfl ?_))))))))))
  have hk1 : k < ws.length := by omega
  have hkk : k < keep.length := by omega
  obtain ⟨kb, ko, e0, hkx⟩ := hks.open (by intro e; have := congrArg List.length e; simp only [wDd, List.length_map, List.length_nil] at this; omega)
  subst e0
  refine wAi rfl rfl (wBb rfl rfl rfl rfl (by omega)) ?_
  refine wDf rfl rfl (qLd (v := .bool keep[k]) rfl rfl rfl rfl ((hkx _ _ (by rw [Nat.mul_one]; simp [wDd, hkk])).cj _)) (fun h29 => ?_) (fun h29 => ?_)
  ·refine jp rfl (jp rfl (wAc (jT (wAb (wAa (jp rfl (wAc (jT (wAg rfl (wAa (jp rfl (sFL rfl rfl ?_))))))))))))
   refine jp rfl ?_
   obtain ⟨sb, so, e0, hx⟩ := hs2.open (by intro e; have := congrArg List.length e; rw [wBm wBs 2 wBx, List.length_nil] at this; have h2 := congrArg List.length hp2; rw [List.length_map] at h2; omega)
   subst e0
   obtain ⟨va, vc, hcl, hvc, hvs⟩ := wEc hx hp2 hb2 hk1
   refine wAi rfl rfl (wBb rfl rfl rfl rfl (by omega)) ?_
   refine wAi rfl rfl (wGp (cs := wtc ws[k] va vc) rfl rfl rfl rfl rfl (fun i v hv => (hcl i v hv).cj _)) ?_
   refine wAv rfl rfl (wAr (cs := [_, _]) rfl rfl rfl (by rfl) (by rfl) (by rfl)) ?_; rintro _ _ _ ⟨b37, rfl, rfl, rfl⟩
   refine wAv rfl rfl (wCr (R := R) (m := 1) rfl rfl rfl rfl hown rfl (fun i v hv => CJ.loc (by simpa using hv)) rfl (by rfl) (by simp [Value.oneCell']) (by have := wKc (bs := keep.take k) (ws := ws); omega) (by omega)) ?_; rintro rv2 _ _ ⟨rfl, R2, rfl, hown2, _⟩
   obtain ⟨ra2, rc2, rfl⟩ := hown2.form
   refine jp rfl (wAc (jB (jT (wAa ?_))))
   refine ja rfl (by first | omega | (rw [hck]; decide)) ?_
   refine jp rfl (wAc ?_)
   have hst := wHh (ws := ws) hkk hk1
   rw [h29, if_pos rfl] at hst
   refine wAn (k + 1, R2, .slice ra2 _ rc2, qs ++ [(ws[k], .slice va ws[k].2.length vc)]) (.cons (t := 2) rfl (.cons (t := 4) rfl (.cons (t := 7) rfl (.cons (t := 23) rfl (.cons (t := 24) rfl (.cons (t := 25) rfl .nil)))))) ⟨by show k + 1 ≤ keep.length; omega, ?_, ?_, ?_⟩ (by show keep.length - (k + 1) < keep.length - k; omega) (fun w h => (h.perm (List.perm_append_comm_assoc R2 [_] [_, _])).fewer (.cons _ (.refl _)))
   ·show Own _ _ _ _ (wGc (keep.take (k + 1)) ws).length _; rw [hst, List.length_append, List.flatMap_append]; exact hown2
   ·show _ = wGc (keep.take (k + 1)) ws; rw [hst, List.map_append, hq1]; rfl
   intro p hp; rcases List.mem_append.1 hp with hp | hp
   ·exact hq2 p hp
   rw [List.mem_singleton.1 hp]; exact ⟨va, vc, rfl, hvc, hvs⟩
  refine jp rfl (jp rfl (wAc (jT (wAb (wAa (jp rfl (wAc (jT (wAk rfl (wAd (jB (jT (wAa ?_)))))))))))))
  refine ja rfl (by first | omega | (rw [hck]; decide)) ?_
  refine jp rfl (wAc ?_)
  have hst := wHh (ws := ws) hkk hk1
  rw [h29, if_neg (by decide)] at hst
  rw [List.append_nil] at hst
  refine wAn (k + 1, R, v, qs) (.cons (t := 2) rfl (.cons (t := 4) rfl (.cons (t := 7) rfl (.cons (t := 23) rfl (.cons (t := 24) rfl (.cons (t := 25) rfl .nil)))))) ⟨by show k + 1 ≤ keep.length; omega, ?_, ?_, ?_⟩ (by show keep.length - (k + 1) < keep.length - k; omega) (fun w h => h)
  ·show Own _ _ _ _ (wGc (keep.take (k + 1)) ws).length _; rw [hst]; exact hown
  ·show _ = wGc (keep.take (k + 1)) ws; rw [hst]; exact hq1
  exact hq2
 refine wAc (jT (wAb (wAk rfl (wAs (jTx (jTx (jBx (jT (wAb (wAa (sLL rfl ?_)))))))))))
 refine jp rfl ?_
 obtain rfl : k = keep.length := by omega
 rw [List.take_length] at hown hq1
 obtain ⟨fa0, fc0, rfl⟩ := hown.form
 refine wDw hown (by simp) ?_
 intro Mf fa fc hMf ef hfc hfs; cases ef
 have hkl2 := wKc (bs := keep) (ws := ws)
 have hql : qs.length = (wGc keep ws).length := by rw [← hq1, List.length_map]
 refine wAv rfl rfl (wAt rfl rfl rfl rfl rfl (by kernel_rfl) (wJb bs ws (wGc keep ws) bv _ _ Mf (h1c.mono hMf) ⟨_, _, qs, rfl, hfc, hfs, hq1, fun p hp => (hq2 p hp).mono hMf⟩ hdk (fun w h => hdk.w w (wKb h)) (by omega))) ?_; rintro _ M1 _ ⟨hM1, _, rfl, ⟨hdk2, rfl⟩⟩
 obtain ⟨nhb, nrb, wv2, rfl, hdn, hB, hW⟩ := hdk2
 obtain ⟨wa, wc, wps, rfl, _⟩ := id hW
 refine sSt rfl ?_
 refine jp rfl (wAc (jT (wAf (wBr (rs := [_, _]) ([]) (by exact List.nil_sublist _) rfl (.cons (.agg rfl rfl rfl) (.cons (.tmp rfl) .nil)) ?_))))
 exact ⟨by rw [if_pos (by omega)]; exact ⟨_, rfl, _, _, _, rfl, hdn.anti hMf, hB, hW⟩, rfl⟩
end Go.Proofs.YtbhkdjheooknfaaGreat
