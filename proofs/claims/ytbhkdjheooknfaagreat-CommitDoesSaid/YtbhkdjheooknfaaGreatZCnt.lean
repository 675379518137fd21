/- Walks: tables of counts written, and summed. -/
import Derived.Test.YtbhkdjheooknfaaGreatZMake
namespace Go.Proofs.YtbhkdjheooknfaaGreat
set_option linter.unusedSimpArgs false
set_option linter.unusedVariables false
set_option linter.unusedSectionVars false
open Go.RowKit
theorem Own.empty (b : Nat) (e : TypeId) (sz : Nat) : Own (.slice (some ⟨b, 0, none⟩) 0 0) [(b, .cells ([] : List Value).toArray e (0, 0))] e sz 0 [] := ⟨by simp, .inr ⟨b, 0, #[], rfl, rfl, by omega, by decide, by simp, by simp⟩⟩
abbrev TDk : TypeId := 25
def DK (M : Mem) (v : Value) (bs : List (List By)) (ws : List Wt) : Prop := ∃ bv wv, v = .agg #[bv, wv] ∧ LS M bv bs ∧ WS M wv ws
theorem DK.mono {M M' : Mem} {v : Value} {bs : List (List By)} {ws : List Wt} (h : DK M v bs ws) (hM : MLe M M') : DK M' v bs ws := by
 obtain ⟨a, b, h0, h1, h2⟩ := h; exact ⟨a, b, h0, h1.mono hM, h2.mono hM⟩
theorem WS.nil {M : Mem} : WS M (.slice none 0 0) [] := ⟨none, 0, [], rfl, Nat.le_refl _, SM.nil, rfl, fun _ h => by cases h⟩
def wFs (bs : List (List By)) (ws : List Wt) : List (List By) := ws.foldl (fun b w => b.set w.1.toNat w.2) bs
theorem wFe (bs : List (List By)) (ws : List Wt) : (wFs bs ws).length = bs.length := by
 unfold wFs
 induction ws generalizing bs with
 | nil => rfl
 | cons w ws ih => rw [List.foldl_cons, ih]; simp
theorem setB_step {bs : List (List By)} {ws : List Wt} {k : Nat} (h : k < ws.length) : wFs bs (ws.take (k + 1)) = (wFs bs (ws.take k)).set ws[k].1.toNat ws[k].2 := by
 rw [List.take_succ_eq_append_getElem h]; unfold wFs; rw [List.foldl_append]; rfl
theorem setB_128 {bs : List (List By)} {ws : List Wt} (h : ∀ b ∈ bs, b.length = 128) (hw : ∀ w ∈ ws, w.2.length = 128) : ∀ b ∈ wFs bs ws, b.length = 128 := by
 unfold wFs
 induction ws generalizing bs with
 | nil => exact h
 | cons w ws ih =>
  rw [List.foldl_cons]
  refine ih (fun b hb => ?_) (fun w hw' => hw w (List.mem_cons_of_mem _ hw'))
  rcases List.mem_or_eq_of_mem_set hb with hb | rfl
  ·exact h b hb
  exact hw w (by simp)
theorem wGo {bs : List (List By)} {ws0 ws : List Wt} (h : dkOk bs ws0) (hw : ∀ w ∈ ws, w.2.length = 128) : dkOk (wFs bs ws) [] := ⟨by rw [wFe]; exact h.1, by simp, setB_128 h.2.2.1 hw, fun _ h => by cases h⟩
theorem bsclone_nil (c : Nat) (M : Mem) :
  SpecL Tryz.prog 55 #[.slice none 0 c] M [] fun v _ L' => Own v L' 26 1 0 [] := by
 refine wAe (vs := [_]) 8 _ Tryz.func55 rfl Tryz.ntmps55 rfl rfl ?_; intro W
 refine wAb (wAa (jp rfl (wAc (jT (wAb (wAb (wAa (jp rfl (wAi rfl rfl (qEq (qNil rfl rfl rfl rfl) (v' := .bool true) (by simp)) ?_)))))))))
 refine wAc (jT (wAg rfl (wAb (wAa (jp rfl (wAc (jT (wAf (jTr (jr1 rfl rfl ?_))))))))))
 exact Own.nil _ _
theorem bsclone_some (b : Addr) (n c : Nat) (vals : List Value) (M : Mem) (hs : SM M (some b) vals) (hl : vals.length = n) (h1 : ∀ v ∈ vals, v.oneCell' = true) (hn : n ≤ 1000000) :
  SpecL Tryz.prog 55 #[.slice (some b) n c] M [] fun v _ L' => Own v L' 26 1 n vals := by
 refine wAe (vs := [_]) 8 _ Tryz.func55 rfl Tryz.ntmps55 rfl rfl ?_; intro W
 refine wAb (wAa (jp rfl (wAc (jT (wAb (wAb (wAa (jp rfl (wAi rfl rfl (qEq (qNil rfl rfl rfl rfl) (v' := .bool false) (by simp)) ?_)))))))))
 refine wAc (jT (wAk rfl (wAd (jT (wAb (wAa (wAv rfl rfl (wAr (z := [.slice none 0 0]) (cs := []) rfl rfl rfl (by rfl) (by rfl) (by rfl)) ?_))))))); rintro _ _ _ ⟨b5, rfl, rfl, rfl⟩
 refine jp rfl (wAv rfl rfl (wBk (n := 0) (xs := []) (news := vals) rfl rfl rfl rfl (Own.empty b5 _ _) (by omega) hs rfl h1 (by omega) (by decide)) ?_); rintro v7 _ _ ⟨rfl, R7, rfl, hown⟩
 refine jp rfl (wAc (jT (wAf (jr1 rfl rfl ?_))))
 simpa using hown
theorem bsclone_spec (a : Option Addr) (n c : Nat) (vals : List Value) (M : Mem) (hs : SM M a vals) (hl : vals.length = n) (h1 : ∀ v ∈ vals, v.oneCell' = true) (hn : n ≤ 1000000) : SpecL Tryz.prog 55 #[.slice a n c] M [] fun v _ L' => Own v L' 26 1 n vals := by
 cases a with
 | none =>
  have h0 : vals = [] := hs.elim id (fun ⟨_, _, h, _⟩ => by cases h)
  subst h0
  have : n = 0 := by simpa using hl.symm
  subst this
  exact bsclone_nil c M
 | some b => exact bsclone_some b n c vals M hs hl h1 hn
set_option maxHeartbeats 2000000 in
theorem settle_walk (bs : List (List By)) (ws0 ws : List Wt) (a1 : Option Addr) (c1 : Nat) (ps1 : List (List By × Value)) (v0 : Value) (a2 : Option Addr) (c2 : Nat) (ps2 : List (Wt × Value)) (M : Mem) (hc1 : bs.length ≤ c1) (hs1 : SM M a1 (ps1.map (·.2))) (hp1 : ps1.map (·.1) = bs) (hb1 : ∀ p ∈ ps1, BS M p.2 p.1) (hc2 : ws.length ≤ c2) (hs2 : SM M a2 (ps2.flatMap wBs)) (hp2 : ps2.map (·.1) = ws) (hb2 : ∀ p ∈ ps2, BS M p.2 p.1.2) (hdk : dkOk bs ws0) (hw : ∀ w ∈ ws, 0 ≤ w.1 ∧ w.1 < 256 ∧ w.2.length = 128) (hwn : ws.length ≤ 4096) :
  SpecL Tryz.prog 37 #[.agg #[.slice a1 bs.length c1, v0], .slice a2 ws.length c2] M [] fun u M' L' => DK M' u (wFs bs ws) [] ∧ L' = [] := by
 have hbl : bs.length = 256 := hdk.1
 have hpl : ps1.length = 256 := by rw [← List.length_map (f := fun p : List By × Value => p.1), hp1]; exact hbl
 refine wAe (vs := [_, _]) 28 _ Tryz.func37 rfl Tryz.ntmps37 rfl rfl ?_; intro W
 refine wAb (wAa (wAv rfl rfl (wBw (cs := [_, _]) rfl rfl rfl rfl) ?_)); rintro _ _ _ ⟨b2, rfl, rfl, rfl⟩
 refine sAl rfl fun b4 => ?_
 refine wAc (jT (wAb (wAa (sFL rfl rfl ?_))))
 refine wAv rfl rfl (wAt rfl rfl rfl rfl rfl (by kernel_rfl) (bsclone_spec a1 bs.length c1 (ps1.map (·.2)) M hs1 (by rw [List.length_map]; omega) (fun v hv => by obtain ⟨p, hp, rfl⟩ := List.mem_map.1 hv; obtain ⟨_, _, h, _⟩ := hb1 p hp; rw [h]; rfl) (by omega))) ?_; rintro _ M1 _ ⟨hM1, R1, rfl, hown⟩
 obtain ⟨g, cap, cur, e0, e1, hcap, _⟩ := hown.open (by omega)
 subst e0
 refine wAi rfl rfl (wAq (cs := [_, _]) rfl rfl rfl (by rfl)) ?_
 refine sAl rfl fun b5 => ?_
 refine sSt rfl ?_
 refine wAc (jT (wAb (wAb (wAa (jp rfl (wAi rfl rfl (wBe rfl rfl rfl) ?_))))))
 refine jp rfl (wAc (jT (wAh ?_)))
 refine wAo (α := Nat × Lc × List (List By × Value)) (fun x => [(4, .pointer (some ⟨b4, 0, none⟩)), (5, .pointer (some ⟨b5, 0, none⟩)), (12, .slice a2 ws.length c2), (13, .int .i64 ws.length), (14, .int .i64 x.1)]) (fun _ => M1) (fun x => (b5, .cells [.slice (some ⟨g, 0, none⟩) bs.length cap, .slice none 0 0].toArray TDk (0, 0)) :: (x.2.1 ++ [(b4, .cells [.slice none 0 0, .slice none 0 0].toArray TDk (0, 0)), (b2, .cells [.slice a1 bs.length c1, v0].toArray TDk (0, 0))])) (fun x => x.1 ≤ ws.length ∧ Own (.slice (some ⟨g, 0, none⟩) bs.length cap) x.2.1 26 1 bs.length (x.2.2.map (·.2)) ∧ x.2.2.map (·.1) = wFs bs (ws.take x.1) ∧ ∀ p ∈ x.2.2, BS M1 p.2 p.1) (fun x => ws.length - x.1)
  (0, R1, ps1) (.cons (t := 4) rfl (.cons (t := 5) rfl (.cons (t := 12) rfl (.cons (t := 13) rfl (.cons (t := 14) rfl .nil))))) ⟨Nat.zero_le _, hown, by rw [List.take_zero]; exact hp1, fun p hp => (hb1 p hp).mono hM1⟩ (fun _ h => h) ?_
 rintro ⟨k, R, ps⟩ ⟨hk, hown, hps, hpb⟩
 try dsimp only at hk hown hps hpb ⊢
 refine wAb (wAa (js rfl (fun h15 => ?_) (fun h15 => ?_)))
 ·refine wAc (jT (wAb (wAg rfl (wAd (jT (wAb (wAh (wAb (wAa ?_)))))))))
  have hk1 : k < ws.length := by omega
  obtain ⟨sb, so, e0, hx⟩ := hs2.open (by intro e; have := congrArg List.length e; rw [wBm wBs 2 wBx, List.length_nil] at this; have h2 := congrArg List.length hp2; rw [List.length_map] at h2; omega)
  subst e0
  obtain ⟨va, vc, hcl, hvc, hvs⟩ := wEc hx hp2 hb2 hk1
  have hwk := hw ws[k] (List.getElem_mem hk1)
  refine wAi rfl rfl (wBb rfl rfl rfl rfl (by omega)) ?_
  refine wAi rfl rfl (wGp (cs := wtc ws[k] va vc) rfl rfl rfl rfl rfl (fun i v hv => ((hcl i v hv).mono hM1).cj _)) ?_
  refine sAl rfl fun b7 => ?_
  refine sSt rfl ?_
  refine wAc (jT (wAa (sFL rfl rfl ?_)))
  refine sFL rfl rfl ?_
  refine sFL rfl rfl ?_
  refine wAi rfl rfl (wBb rfl rfl rfl rfl (by omega)) ?_
  refine jl_s rfl (hStoreOwn rfl rfl rfl rfl rfl rfl hown rfl (by omega)) ?_; rintro _ _ _ ⟨rfl, R2, rfl, hown2⟩
  refine wAc (jB (jT (wAa (ja rfl (by omega) ?_))))
  refine jp rfl (wAc ?_)
  refine wAn (k + 1, R2, ps.set ws[k].1.toNat (ws[k].2, .slice va ws[k].2.length vc)) (.cons (t := 4) rfl (.cons (t := 5) rfl (.cons (t := 12) rfl (.cons (t := 13) rfl (.cons (t := 14) rfl .nil))))) ⟨by show k + 1 ≤ ws.length; omega, ?_, ?_, ?_⟩ (by show ws.length - (k + 1) < ws.length - k; omega) (fun w h => (h.perm (List.perm_append_comm_assoc R2 [_, _] [_, _])).fewer (.cons _ (.refl _)))
  ·show Own _ _ _ _ _ ((ps.set _ _).map (·.2)); rw [List.map_set]; simpa using hown2
  ·show (ps.set _ _).map (·.1) = wFs bs (ws.take (k + 1)); rw [List.map_set, hps, setB_step hk1]
  intro p hp
  rcases List.mem_or_eq_of_mem_set hp with hp | rfl
  ·exact hpb p hp
  exact BS.mono ⟨va, vc, rfl, hvc, hvs⟩ hM1
 refine wAc (jT (wAb (wAk rfl (wAs (jTx (jTx (jBx (jT (wAb (wAa (sLL rfl ?_)))))))))))
 obtain rfl : k = ws.length := by omega
 rw [List.take_length] at hps
 simp only [List.cons_append, List.nil_append]
 refine wDw hown (by simp) ?_
 intro Mf fa fc hMf ef hfc hfs; cases ef
 have hsl : (wFs bs ws).length = 256 := by rw [wFe]; exact hbl
 have hLS : LS Mf (.slice (some ⟨g, 0, none⟩) bs.length cap) (wFs bs ws) := ⟨_, _, ps, by rw [wFe], by rw [wFe]; exact hcap, hfs, hps, fun p hp => (hpb p hp).mono hMf⟩
 refine wAv rfl rfl (wAt rfl rfl rfl rfl rfl (by kernel_rfl) (dtwin_spec (wFs bs ws) [] _ _ Mf hLS WS.nil (wGo hdk (fun w h => (hw w h).2.2)))) ?_; rintro _ M2 _ ⟨hM2, _, rfl, ⟨⟨bv2, wv2, rfl, hB, hW⟩, rfl⟩⟩
 obtain ⟨ba, bc, bps, rfl, _⟩ := id hB
 obtain ⟨wa, wc, wps, rfl, _⟩ := id hW
 refine sSt rfl ?_
 refine wAc (jT (wAf (wBr (rs := [_]) ([]) (by exact List.nil_sublist _) rfl (.cons (.agg rfl rfl rfl) .nil) ?_)))
 exact ⟨⟨_, _, rfl, hB, hW⟩, rfl⟩
theorem settle_spec (bs : List (List By)) (ws0 ws : List Wt) (u v0 v : Value) (M : Mem) (h1 : LS M u bs) (h2 : WS M v ws) (hdk : dkOk bs ws0) (hw : ∀ w ∈ ws, 0 ≤ w.1 ∧ w.1 < 256 ∧ w.2.length = 128) (hwn : ws.length ≤ 4096) : SpecL Tryz.prog 37 #[.agg #[u, v0], v] M [] fun u M' L' => DK M' u (wFs bs ws) [] ∧ L' = [] := by
 obtain ⟨a1, c1, ps1, rfl, hc1, hs1, hp1, hb1⟩ := h1
 obtain ⟨a2, c2, ps2, rfl, hc2, hs2, hp2, hb2⟩ := h2
 exact settle_walk bs ws0 ws a1 c1 ps1 v0 a2 c2 ps2 M hc1 hs1 hp1 hb1 hc2 hs2 hp2 hb2 hdk hw hwn
theorem dkOk.w {bs : List (List By)} {ws : List Wt} (h : dkOk bs ws) : ∀ w ∈ ws, 0 ≤ w.1 ∧ w.1 < 256 ∧ w.2.length = 128 := h.2.2.2
theorem barrier_spec (bs : List (List By)) (ws : List Wt) (bv wv : Value) (M : Mem) (h1 : LS M bv bs) (h2 : WS M wv ws) (hdk : dkOk bs ws) :
  SpecL Tryz.prog 17 #[.agg #[bv, wv]] M [] fun u M' L' => (∃ d, u = .tuple #[d, .int .i64 0] ∧ DK M' d (wFs bs ws) []) ∧ L' = [] := by
 have hck : dkChk bs ws = 0 := if_pos hdk
 refine wAe (vs := [_]) 15 _ Tryz.func17 rfl Tryz.ntmps17 rfl rfl ?_; intro W
 refine wAb (wAa (wAv rfl rfl (wBw (cs := [_, _]) rfl rfl rfl rfl) ?_)); rintro _ _ _ ⟨b1, rfl, rfl, rfl⟩
 refine sAl rfl fun b2 => ?_
 refine jp rfl (wAc (jT (wAb (wAb (wAa (sLL rfl ?_))))))
 refine wAi rfl rfl (wAy rfl rfl rfl rfl rfl (by kernel_rfl) (wDu bs ws bv wv M h1 h2)) ?_
 refine jp rfl (wAc (jT (wAb (wAa (jp rfl ?_)))))
 refine jf rfl (decide_eq_false (by first | omega | (rw [hck]; decide))) ?_
 refine wAc (jT (wAk rfl (wAd (jT (wAb (wAa (sLL rfl ?_)))))))
 refine sFL rfl rfl ?_
 refine wAv rfl rfl (wAt rfl rfl rfl rfl rfl (by kernel_rfl) (settle_spec bs ws ws bv wv _ M (h1) h2 hdk hdk.w (by exact hdk.2.1))) ?_; rintro _ M1 _ ⟨hM1, _, rfl, ⟨hdk2, rfl⟩⟩
 obtain ⟨bv2, wv2, rfl, hB, hW⟩ := hdk2
 obtain ⟨ba, bc, bps, rfl, _⟩ := id hB
 obtain ⟨wa, wc, wps, rfl, _⟩ := id hW
 refine sSt rfl ?_
 refine jp rfl (wAc (jT (wAf (wBr (rs := [_, _]) ([]) (by exact List.nil_sublist _) rfl (.cons (.agg rfl rfl rfl) (.cons (.tmp rfl) .nil)) ?_))))
 exact ⟨⟨_, rfl, _, _, rfl, hB, hW⟩, rfl⟩
theorem dasked_spec (bs : List (List By)) (ws : List Wt) (bv wv : Value) (M : Mem) (h1 : LS M bv bs) (h2 : WS M wv ws) (hdk : dkOk bs ws) (k : Int) (hk : 0 ≤ k ∧ k < 256) :
  SpecL Tryz.prog 72 #[.agg #[bv, wv], .int .i64 k] M [] fun u _ _ => u = .int .i64 0 := by
 have hck : dkChk bs ws = 0 := if_pos hdk
 refine wAe (vs := [_, _]) 17 _ Tryz.func72 rfl Tryz.ntmps72 rfl rfl ?_; intro W
 refine wAb (wAa (wAv rfl rfl (wBw (cs := [_, _]) rfl rfl rfl rfl) ?_)); rintro _ _ _ ⟨b2, rfl, rfl, rfl⟩
 refine jp rfl (wAc (jT (wAb (wAb (wAa (sLL rfl ?_))))))
 refine wAi rfl rfl (wAy rfl rfl rfl rfl rfl (by kernel_rfl) (wDu bs ws bv wv M h1 h2)) ?_
 refine jp rfl (wAc (jT (wAb (wAa (jp rfl ?_)))))
 refine jf rfl (decide_eq_false (by first | omega | (rw [hck]; decide))) ?_
 refine wAc (jT (wAk rfl (wAd (jT (wAb (wAb (wAa (jp rfl ?_))))))))
 refine jf rfl (decide_eq_false (by first | omega | (rw [hck]; decide))) ?_
 refine jp rfl (jp rfl ?_)
 refine jf rfl (decide_eq_false (by first | omega | (rw [hck]; decide))) ?_
 refine jp rfl (wAc (jT (wAk rfl (wAd (jT (wAb (wAa (jp rfl (wAc (jT (wAf (jr1 rfl rfl ?_))))))))))))
 rfl
set_option maxHeartbeats 1000000 in
theorem dwrite_spec (bs : List (List By)) (ws : List Wt) (bv wv : Value) (M : Mem) (h1 : LS M bv bs) (h2 : WS M wv ws) (hdk : dkOk bs ws) (k : Int) (hk : 0 ≤ k ∧ k < 256) (data : List By) (dv : Value) (hd : BS M dv data) (hdl : data.length = 128) (hwl : ws.length < 4096) :
  SpecL Tryz.prog 51 #[.agg #[bv, wv], .int .i64 k, dv] M [] fun u M' L' => (∃ d, u = .tuple #[d, .int .i64 0] ∧ DK M' d bs (ws ++ [(k, data)])) ∧ L' = [] := by
 have h1c := h1
 have h2c := h2
 obtain ⟨a2, c2, ps2, rfl, hc2, hs2, hp2, hb2⟩ := id h2
 obtain ⟨da, dc, rfl, hdc, hds⟩ := id hd
 refine wAe (vs := [_, _, _]) 38 _ Tryz.func51 rfl Tryz.ntmps51 rfl rfl ?_; intro W
 refine wAb (wAa (wAv rfl rfl (wBw (cs := [_, _]) rfl rfl rfl rfl) ?_)); rintro _ _ _ ⟨b3, rfl, rfl, rfl⟩
 refine sAl rfl fun b6 => ?_
 refine jp rfl (wAc (jT (wAb (wAb (wAa (sLL rfl ?_))))))
 refine jp rfl (wAi rfl rfl (wAy rfl rfl rfl rfl rfl (by kernel_rfl) (dasked_spec bs ws bv _ M h1 h2 hdk k hk)) ?_)
 refine jp rfl (wAc (jT (wAb (wAa (jp rfl (jf rfl (decide_eq_false (by omega)) ?_))))))
 refine wAc (jT (wAk rfl (wAd (jT (wAb (wAb (wAa (jp rfl (wAi rfl rfl (wBe rfl rfl rfl) ?_)))))))))
 refine jf rfl (decide_eq_false (by omega)) ?_
 refine wAc (jT (wAk rfl (wAd (jT (wAb (wAb (wAa (sFL rfl rfl ?_))))))))
 refine wAi rfl rfl (wBe rfl rfl rfl) ?_
 refine jf rfl (decide_eq_false (by omega)) ?_
 refine wAc (jT (wAk rfl (wAd (jT (wAb (wAa (sLL rfl ?_)))))))
 obtain ⟨a1, c1, ps1, rfl, hc1, hs1, hp1, hb1⟩ := id h1
 refine wAv rfl rfl (wAt rfl rfl rfl rfl rfl (by kernel_rfl) (dtwin_own bs ws a1 c1 ps1 a2 c2 ps2 M hc1 hs1 hp1 hb1 hc2 hs2 hp2 hb2 hdk)) ?_; rintro _ M1 _ ⟨hM1, Rw, rfl, ⟨bv2, wv2, rfl, hB, qs, hq1, hq2, hownw⟩⟩
 obtain ⟨wa2, wc2, rfl⟩ := hownw.form
 obtain ⟨ba, bc, bps, rfl, _⟩ := id hB
 refine sAl rfl fun b9 => ?_
 refine sSt rfl ?_
 refine wAc (jT (wAb (wBj (p := { A := fun i => !([9].contains i), U := fun i => !([9].contains i) }) [(0, true), (1, true), (2, true), (3, true), (4, false), (5, true), (6, false), (7, false), (8, true), (9, false)] M1 ([(b9, .cells [.slice ba bs.length bc, .slice wa2 ws.length wc2].toArray TDk (0, 0))]) ([]) (by kernel_rfl) (by kernel_rfl) (by kernel_rfl) (by kernel_rfl) rfl (by simp) (MLe.refl _) (by simp) ?_)))
 refine dFa rfl rfl ?_
 refine dLd rfl rfl ?_
 iterate 2 refine dp rfl rfl ?_
 refine wDy rfl rfl rfl (wAt rfl rfl rfl rfl rfl (by kernel_rfl) (wEo _ data M1 (hd.mono hM1) (by omega))) ?_; rintro _ M2 _ ⟨hM2, Rc, rfl, hownc⟩
 refine ⟨_, _, MLe.refl _, hM2, fun _ h => h, by simp, ?_⟩
 obtain ⟨ca, cc, rfl⟩ := hownc.form
 refine wBh rfl rfl rfl (wAq (cs := [_, _]) rfl rfl rfl (by rfl)) ?_
 refine wDy rfl rfl rfl (wAr (cs := [_, _]) rfl rfl rfl (by rfl) (by rfl) (by rfl)) ?_; rintro _ _ _ ⟨b34, rfl, rfl, rfl⟩
 refine ⟨_, _, MLe.refl _, hM2, fun _ h => h, by simp, ?_⟩
 refine wDy rfl rfl rfl (wCr (R := Rw) (m := 1) (news := [.int .i64 k, .slice ca data.length cc]) rfl rfl rfl rfl hownw rfl (fun i v hv => CJ.loc (by simpa using hv)) rfl (by rfl) (by simp [Value.oneCell']) (by omega) (by omega)) ?_; rintro _ _ _ ⟨rfl, Rw2, rfl, hown2, _⟩
 refine ⟨_, _, MLe.refl _, hM2, fun _ h => h, by simp, ?_⟩
 obtain ⟨wa3, wc3, rfl⟩ := hown2.form
 refine dFa rfl rfl ?_
 refine jd_e rfl rfl (wBd rfl rfl rfl rfl rfl rfl rfl rfl) ?_; rintro _ _ _ ⟨rfl, rfl⟩
 refine ⟨hM2, by simp, ?_⟩
 refine wCn ?_
 refine jPn (jT (wAb (wAa (sLL rfl ?_))))
 refine sSt rfl ?_
 refine jp rfl (wAc (jT (wAf (wGi hownc (by simp) ?_))))
 intro Ma ca2 cc2 hMa eca hcc hcs; cases eca
 refine wGi hown2 (by simp) ?_
 intro Mb wa4 wc4 hMb ewa hwc hws; cases ewa
 refine wBr (rs := [_, _]) ([]) (by exact List.nil_sublist _) rfl (.cons (.agg rfl rfl rfl) (.cons (.tmp rfl) .nil)) ?_
 refine ⟨⟨_, rfl, _, _, rfl, hB.mono (hM2.trans (hMa.trans hMb)), ?_⟩, rfl⟩
 refine ⟨_, _, qs ++ [((k, data), .slice ca data.length cc)], by rw [List.length_append]; rfl, by rw [List.length_append]; exact hwc, ?_, by rw [List.map_append, hq1]; rfl, ?_⟩
 ·rw [List.flatMap_append]; exact hws
 intro p hp; rcases List.mem_append.1 hp with hp | hp
 ·exact (hq2 p hp).mono (hM2.trans (hMa.trans hMb))
 rw [List.mem_singleton.1 hp]; exact ⟨_, _, rfl, hcc, hcs.mono hMb⟩
def wGc : List Bool → List Wt → List Wt
 | b :: bs, w :: ws => if b then w :: wGc bs ws else wGc bs ws
 | _, _ => []
theorem wKb : ∀ {bs : List Bool} {ws : List Wt} {w : Wt}, w ∈ wGc bs ws → w ∈ ws
 | [], _, _, h => by simp [wGc] at h
 | _ :: _, [], _, h => by simp [wGc] at h
 | b :: bs, x :: ws, w, h => by
  unfold wGc at h
  split at h
  ·rcases List.mem_cons.1 h with rfl | h
   ·simp
   exact List.mem_cons_of_mem _ (wKb h)
  exact List.mem_cons_of_mem _ (wKb h)
theorem wKc : ∀ {bs : List Bool} {ws : List Wt}, (wGc bs ws).length ≤ ws.length
 | [], _ => by simp [wGc]
 | _ :: _, [] => by simp [wGc]
 | b :: bs, x :: ws => by
  have := wKc (bs := bs) (ws := ws)
  unfold wGc
  split <;> simp only [List.length_cons] <;> omega
theorem wHh : ∀ {bs : List Bool} {ws : List Wt} {k : Nat} (h : k < bs.length) (h2 : k < ws.length), wGc (bs.take (k + 1)) ws = wGc (bs.take k) ws ++ (if bs[k] then [ws[k]] else [])
 | [], _, _, h, _ => by cases h
 | _ :: _, [], _, _, h => by cases h
 | b :: bs, x :: ws, 0, _, _ => by cases b <;> simp [wGc]
 | b :: bs, x :: ws, k + 1, h, h2 => by
  have := wHh (bs := bs) (ws := ws) (k := k) (by simpa using h) (by simpa using h2)
  cases b <;> simp [wGc, this]
def wDd (xs : List Bool) : List Value := xs.map Value.bool
theorem range_pre {n y : Nat} {pre : List Nat} (h : pre ++ [y] <+: List.range n) : y = pre.length ∧ y < n ∧ pre = List.range pre.length := by
 obtain ⟨r, hr⟩ := h
 have h1 : (pre ++ [y] ++ r)[pre.length]? = some y := by simp
 rw [hr] at h1
 obtain ⟨h2, h3⟩ := List.getElem?_eq_some_iff.1 h1
 rw [List.getElem_range] at h3
 rw [List.length_range] at h2
 refine ⟨h3.symm, by omega, ?_⟩
 have h4 : (pre ++ [y] ++ r).take pre.length = pre := by rw [List.append_assoc]; exact List.take_left' rfl
 rw [hr, List.take_range, Nat.min_eq_left (by omega)] at h4
 exact h4.symm
def wGj (t : List By) (i : Nat) : List By := (t.drop (128 * i)).take 128
theorem chunk_spec (a : Option Addr) (n c : Nat) (M : Mem) :
  SpecL Tryz.prog 50 #[.slice a n c, .int .i64 128] M [] fun u M' L' => ∃ b b2, u = .func (.func 71) #[] #[.pointer (some ⟨b, 0, none⟩), .pointer (some ⟨b2, 0, none⟩)] ∧ M' b = some (.cells #[.slice a n c] 26 (0, 0)) ∧ M' b2 = some (.cells #[.int .i64 128] 3 (0, 0)) ∧ L' = [] := by
 refine wAe (vs := [_, _]) 9 _ Tryz.func50 rfl Tryz.ntmps50 rfl rfl ?_; intro W
 refine wAb (wAa (wAv rfl rfl (wBw (cs := [.slice a n c]) rfl rfl rfl rfl) ?_)); rintro _ _ _ ⟨b2, rfl, rfl, rfl⟩
 refine wAv rfl rfl (wBw (cs := [.int .i64 128]) rfl rfl rfl rfl) ?_; rintro _ _ _ ⟨b3, rfl, rfl, rfl⟩
 refine jp rfl (wAc (jT (wAb (wAb (wAa (sLd rfl ?_))))))
 refine jf rfl (decide_eq_false (by omega)) ?_
 refine wAc (jT (wAk rfl (wAd (jT (wAb (wAa (jp rfl (jp rfl (wAc (jT (wAf (wCa b2 (by simp) ?_))))))))))))
 intro M1 hM1 e2
 refine wCa b3 (by simp) ?_
 intro M2 hM2 e3
 refine jr1 rfl rfl ?_
 exact ⟨b2, b3, rfl, hM2 _ _ e2, e3, rfl⟩
theorem chunk_body (b b2 sb so c : Nat) (M : Mem) (hc : 256 ≤ c) (hb : M b = some (.cells #[.slice (some ⟨sb, so, none⟩) 256 c] 26 (0, 0))) (hb2 : M b2 = some (.cells #[.int .i64 128] 3 (0, 0))) (l : Nat) (J Jx : List Nat → Mem → Lc → Prop) (M1 : Mem) (L0 : Lc) (hM : MLe M M1) (hJ : ∀ pre y M2 L2, MLe M1 M2 → J pre M2 L2 → pre ++ [y] <+: List.range 2 → RoundL Tryz.prog l ((fun i : Nat => [.slice (some ⟨sb, so + 128 * i, none⟩) 128 128]) y).toArray M2 L2 fun v M' L' => (v = .bool true ∧ J (pre ++ [y]) M' L') ∨ (v = .bool false ∧ Jx (pre ++ [y]) M' L')) (h0 : J [] M1 L0) :
  SpecL Tryz.prog 71 #[.func (.yield l) #[] #[], .pointer (some ⟨b, 0, none⟩), .pointer (some ⟨b2, 0, none⟩)] M1 L0 fun _ M' L' => J (List.range 2) M' L' ∨ ∃ pre, pre <+: List.range 2 ∧ Jx pre M' L' := by
 have hbc : ∀ {M2 : Mem} (L : Lc), MLe M1 M2 → CJ M2 L b 0 (.slice (some ⟨sb, so, none⟩) 256 c) := fun L h => (CM.cj ⟨_, _, _, h _ _ (hM _ _ hb), rfl⟩ L)
 have hbn : ∀ {M2 : Mem} (L : Lc), MLe M1 M2 → CJ M2 L b2 0 (.int .i64 128) := fun L h => (CM.cj ⟨_, _, _, h _ _ (hM _ _ hb2), rfl⟩ L)
 refine wAe (vs := [_, _, _]) 31 _ Tryz.func71 rfl Tryz.ntmps71 rfl rfl ?_; intro W
 refine wAb (wAa (jp rfl (wAc (jT (wAh ?_)))))
 refine wAo (α := Nat × Mem × Lc) (fun x => [(0, .func (.yield l) #[] #[]), (1, .pointer (some ⟨b, 0, none⟩)), (2, .pointer (some ⟨b2, 0, none⟩)), (4, .int .i64 ((128 * x.1 : Nat) : Int))]) (fun x => x.2.1) (fun x => x.2.2) (fun x => x.1 ≤ 2 ∧ MLe M1 x.2.1 ∧ J ((List.range 2).take x.1) x.2.1 x.2.2) (fun x => 2 - x.1)
  (0, M1, L0) (.cons (t := 0) rfl (.cons (t := 1) rfl (.cons (t := 2) rfl (.cons (t := 4) rfl .nil)))) ⟨by show 0 ≤ 2; omega, MLe.refl _, h0⟩ (fun _ h => h) ?_
 rintro ⟨k, Mk, Lk⟩ ⟨hk, hMk, hJk⟩
 try dsimp only at hk hMk hJk ⊢
 refine wAb (wAb (wAa (jp rfl (wAi rfl rfl (qLd rfl rfl rfl rfl (hbc _ hMk)) ?_))))
 refine wAi rfl rfl (wBe rfl rfl rfl) ?_
 refine js rfl (fun h9 => ?_) (fun h9 => ?_)
 ·refine wAc (jT (wAg rfl (wAd (jT (wAb (wAh (wAb (wBn [(0, true), (1, true), (2, true), (3, true), (4, true), (5, true), (6, true)] _ (by kernel_rfl) (by kernel_rfl) (by kernel_rfl) rfl (fun _ h => h) ?_))))))))
  refine wBh rfl rfl rfl (qLd rfl rfl rfl rfl (hbn _ hMk)) ?_
  refine wBh rfl rfl rfl (qLd rfl rfl rfl rfl (hbc _ hMk)) ?_
  refine dp rfl rfl ?_
  have hk1 : k < 2 := by omega
  refine wBh rfl rfl rfl (qEq (qSl rfl rfl rfl (.no _) (.no _) (.of (v := 128 * k) rfl (by omega) (by omega)) (by omega) (by simp)) (v' := .slice (some ⟨sb, so + 128 * k, none⟩) (256 - 128 * k) (c - 128 * k)) (by rw [wBu (by omega)]; try simp)) ?_
  refine wBh rfl rfl rfl (wBe rfl rfl rfl) ?_
  refine wBh rfl rfl rfl (qEq (qMin rfl rfl rfl rfl) (v' := .int .i64 128) (by congr 1; omega)) ?_
  refine dp rfl rfl ?_
  refine wBg (jPn (jT (wAb (wAa (jp rfl (wAi rfl rfl (qLd rfl rfl rfl rfl (hbc _ hMk)) ?_))))))
  refine jp rfl (jp rfl (jp rfl (ja rfl (by omega) ?_)))
  refine jp rfl (jp rfl (ja rfl (by omega) ?_))
  refine wAi rfl rfl (qEq (qSl rfl rfl rfl (.of (v := 128 * k + 128) rfl (by omega) (by omega)) (.of (v := 128 * k + 128) rfl (by omega) (by omega)) (.of (v := 128 * k) rfl (by omega) (by omega)) (by omega) (by simp)) (v' := .slice (some ⟨sb, so + 128 * k, none⟩) 128 128) (by rw [wBu (by omega)]; try simp)) ?_
  have hts : (List.range 2).take (k + 1) = (List.range 2).take k ++ [k] := by rw [List.take_succ_eq_append_getElem (by simpa using hk1), List.getElem_range]
  refine wAv rfl rfl (hYield rfl rfl rfl rfl (hJ ((List.range 2).take k) k Mk Lk hMk hJk (by rw [← hts]; exact List.take_prefix _ _))) ?_; rintro _ M' _ ⟨hM', R', rfl, hy⟩
  rcases hy with ⟨rfl, hy⟩ | ⟨rfl, hy⟩
  ·refine jp rfl (wAc (jT (wAk rfl (wAd (jB (jT (wAa (jp rfl (wAi rfl rfl (qLd rfl rfl rfl rfl (hbn _ (hMk.trans hM'))) ?_)))))))))
   refine ja rfl (by omega) ?_
   refine jp rfl (wAc ?_)
   refine wAn (k + 1, M', R') (.cons (t := 0) rfl (.cons (t := 1) rfl (.cons (t := 2) rfl (Keep.ceq (t := 4) rfl (by congr 1) Keep.nil)))) ⟨by show k + 1 ≤ 2; omega, hMk.trans hM', by show J ((List.range 2).take (k + 1)) _ _; rw [hts]; exact hy⟩ (by show 2 - (k + 1) < 2 - k; omega) (fun _ h => h.fewer (by simp))
  refine jp rfl (wAc (jT (wAg rfl (wAf (jBr (jTr (jTr (jBr (wAu (L' := R') (by simp) ?_)))))))))
  refine jrs (rs := []) rfl .nil ?_
  exact .inr ⟨_, by rw [← hts]; exact List.take_prefix _ _, hy⟩
 refine wAc (jT (wAk rfl (wAs (jTx (jTx (jBx (jrn ?_)))))))
 refine jrs (rs := []) rfl .nil ?_
 obtain rfl : k = 2 := by omega
 exact .inl hJk
theorem chunk_iter (b b2 sb so c : Nat) (M : Mem) (hc : 256 ≤ c) (hb : M b = some (.cells #[.slice (some ⟨sb, so, none⟩) 256 c] 26 (0, 0))) (hb2 : M b2 = some (.cells #[.int .i64 128] 3 (0, 0))) : Iter Tryz.prog 71 [.pointer (some ⟨b, 0, none⟩), .pointer (some ⟨b2, 0, none⟩)] M (fun i : Nat => [.slice (some ⟨sb, so + 128 * i, none⟩) 128 128]) (List.range 2) :=
 fun l J Jx M1 L0 hM hJ h0 => chunk_body b b2 sb so c M hc hb hb2 l J Jx M1 L0 hM hJ h0
def wts (k : Int) (t : List By) : List Wt := [(k, wGj t 0), (k + 1, wGj t 1)]
theorem place_spec (bs : List (List By)) (ws : List Wt) (bv wv : Value) (M : Mem) (h1 : LS M bv bs) (h2 : WS M wv ws) (hdk : dkOk bs ws) (side : Int) (hs : side = 0 ∨ side = 1) :
  SpecL Tryz.prog 48 #[.agg #[bv, wv], .int .i64 side] M [] fun u _ _ => u = .tuple #[.int .i64 (4 + 2 * side), .int .i64 0] := by
 have hck : dkChk bs ws = 0 := if_pos hdk
 refine wAe (vs := [_, _]) 22 _ Tryz.func48 rfl Tryz.ntmps48 rfl rfl ?_; intro W
 refine wAb (wAa (wAv rfl rfl (wBw (cs := [_, _]) rfl rfl rfl rfl) ?_)); rintro _ _ _ ⟨b2, rfl, rfl, rfl⟩
 refine jp rfl (jp rfl (wAc (jT (wAb (wAb (wAa (sLL rfl ?_)))))))
 refine wAi rfl rfl (wAy rfl rfl rfl rfl rfl (by kernel_rfl) (wDu bs ws bv wv M h1 h2)) ?_
 refine jp rfl (wAc (jT (wAb (wAa (jp rfl ?_)))))
 refine jf rfl (decide_eq_false (by first | omega | (rw [hck]; decide))) ?_
 refine wAc (jT (wAk rfl (wAd (jT (wAb (wAb (wAa (jp rfl (js rfl (fun h13 => ?_) (fun h13 => ?_))))))))))
 ·refine jp rfl (jp rfl ?_)
  refine jf rfl (decide_eq_false (by first | omega | (rw [hck]; decide))) ?_
  refine jp rfl (wAc (jT (wAk rfl (wAd (jT (wAb (wAa (jp rfl ?_))))))))
  refine ja rfl (by first | omega | (rw [hck]; decide)) ?_
  refine wAi rfl rfl (qQuo rfl rfl rfl rfl (by omega) (by omega) (by omega)) ?_
  refine ja rfl (by first | omega | (rw [hck]; decide)) ?_
  refine jp rfl (jp rfl (wAc (jT (wAf (jr2 rfl rfl rfl ?_)))))
  have e : 4 + side * 4 / 2 = 4 + 2 * side := by omega
  show Value.tuple #[.int .i64 (4 + side * 4 / 2), .int .i64 0] = _
  rw [e]
 refine jp rfl (jp rfl (jp rfl (jp rfl (wAc (jT (wAk rfl (wAd (jT (wAb (wAa (jp rfl ?_)))))))))))
 refine ja rfl (by first | omega | (rw [hck]; decide)) ?_
 refine wAi rfl rfl (qQuo rfl rfl rfl rfl (by omega) (by omega) (by omega)) ?_
 refine ja rfl (by first | omega | (rw [hck]; decide)) ?_
 refine jp rfl (jp rfl (wAc (jT (wAf (jr2 rfl rfl rfl ?_)))))
 have e : 4 + side * 4 / 2 = 4 + 2 * side := by omega
 show Value.tuple #[.int .i64 (4 + side * 4 / 2), .int .i64 0] = _
 rw [e]
set_option maxHeartbeats 2000000 in
theorem cwrite_spec (bs : List (List By)) (ws : List Wt) (bv wv : Value) (M : Mem) (h1 : LS M bv bs) (h2 : WS M wv ws) (hdk : dkOk bs ws) (side : Int) (hs : side = 0 ∨ side = 1) (t : List By) (tv : Value) (ht : BS M tv t) (hct0 : ctOk t) (hwl : ws.length ≤ 4000) :
  SpecL Tryz.prog 32 #[.agg #[bv, wv], .int .i64 side, tv] M [] fun u M' L' => (∃ d, u = .tuple #[d, .int .i64 0] ∧ DK M' d bs (ws ++ wts (4 + 2 * side) t)) ∧ L' = [] := by
 have hct : ctChk t = 0 := if_pos hct0
 have htl : t.length = 256 := hct0.1
 obtain ⟨ta, tc, rfl, htc, hts⟩ := id ht
 obtain ⟨sb, so, e0, hx⟩ := hts.open (by intro e; have := congrArg List.length e; rw [wAm, List.length_nil] at this; omega)
 subst e0
 refine wAe (vs := [_, _, _]) 45 _ Tryz.func32 rfl Tryz.ntmps32 rfl rfl ?_; intro W
 refine wAb (wAa (wAv rfl rfl (wBw (cs := [_, _]) rfl rfl rfl rfl) ?_)); rintro _ _ _ ⟨b3, rfl, rfl, rfl⟩
 refine sAl rfl fun b6 => ?_
 refine sAl rfl fun b7 => ?_
 refine wAc (jT (wAb (wAa (sLL rfl ?_))))
 refine jp rfl (wAi rfl rfl (wAy rfl rfl rfl rfl rfl (by kernel_rfl) (place_spec bs ws bv wv M h1 h2 hdk side hs)) ?_)
 refine jp rfl (jp rfl (jp rfl (sAl rfl fun b8 => ?_)))
 refine sAl rfl fun b9 => ?_
 refine sSt rfl ?_
 refine sSt rfl ?_
 refine wAc (jT (wAb (wAb (wAa (sLd rfl ?_)))))
 refine jf rfl (decide_eq_false (by first | omega | (rw [hck]; decide) | (rw [hct]; decide))) ?_
 refine wAc (jT (wAk rfl (wAd (jT (wAb (wAb (wAa (jp rfl (wAi rfl rfl (wAy rfl rfl rfl rfl rfl (by kernel_rfl) (wGw t _ M ht)) ?_)))))))))
 refine jp rfl (wAc (jT (wAb (wAa (jp rfl ?_)))))
 refine jf rfl (decide_eq_false (by first | omega | (rw [hck]; decide) | (rw [hct]; decide))) ?_
 refine wAc (jT (wAk rfl (wAd (jT (wAb (wAb (wAa (jp rfl ?_))))))))
 rw [htl]
 refine wAv rfl rfl (wAt rfl rfl rfl rfl rfl (by kernel_rfl) (chunk_spec _ 256 tc M)) ?_; rintro _ M1 _ ⟨hM1, _, rfl, ⟨cb, cb2, rfl, ecb, ecb2, rfl⟩⟩
 simp only [nA]
 refine wAc (jT (wAh ?_))
 have h1m := h1.mono hM1
 have h2m := h2.mono hM1
 refine jc_weak (L' := [(b9, .cells [.int .i64 0].toArray 36 (0, 0)), (b8, .cells [.int .i64 (4 + 2 * side)].toArray 3 (0, 0)), (b7, .cells [.int .i64 0].toArray 36 (0, 0)), (b6, .cells [.slice none 0 0, .slice none 0 0].toArray TDk (0, 0)), (b3, .cells [bv, wv].toArray TDk (0, 0))]) (fun _ h => h) ?_
 refine jc_range (R := [(b9, .cells [.int .i64 0].toArray 36 (0, 0)), (b8, .cells [.int .i64 (4 + 2 * side)].toArray 3 (0, 0)), (b3, .cells [bv, wv].toArray TDk (0, 0))]) (xs := List.range 2) (enc := (fun i : Nat => [.slice (some ⟨sb, so + 128 * i, none⟩) 128 128])) (ps := [30]) rfl (by kernel_rfl) (chunk_iter cb cb2 sb so tc M1 (by omega) ecb ecb2)
  (fun pre M2 R => ∃ bv2 wv2, R = [(b9, .cells [.int .i64 0].toArray 36 (0, 0)), (b8, .cells [.int .i64 (4 + 2 * side + (pre.length : Int))].toArray 3 (0, 0)), (b3, .cells [bv2, wv2].toArray TDk (0, 0))] ∧ LS M2 bv2 bs ∧ WS M2 wv2 (ws ++ (wts (4 + 2 * side) t).take pre.length))
  (fun _ _ _ _ => False)
  (fun _ => rfl) (by decide) ⟨bv, wv, by simp, h1m, by simpa using h2m⟩ ?_ ?_ ?_
 ·intro l W2 pre y M2 R2 hM2 hI hpre
  obtain ⟨bv2, wv2, rfl, hB, hW⟩ := hI
  refine wAa (jp rfl (wAc (jK fun W' => ?_)))
  refine wAh (wAb (wAb (wAa (sLL rfl ?_))))
  refine sLd rfl ?_
  refine jp rfl ?_
  obtain ⟨rfl, hy2, hpr⟩ := range_pre hpre
  have hpl : pre.length < 2 := hy2
  have hhl : (wGj t pre.length).length = 128 := by unfold wGj; rw [List.length_take, List.length_drop]; omega
  have hwk : ((wts (4 + 2 * side) t).take pre.length).length ≤ 2 := by rw [List.length_take]; omega
  have hdk2 : dkOk bs (ws ++ (wts (4 + 2 * side) t).take pre.length) := ⟨hdk.1, by rw [List.length_append]; omega, hdk.2.2.1, fun w hw => by
   rcases List.mem_append.1 hw with hw | hw
   ·exact hdk.w w hw
   have := List.mem_of_mem_take hw
   simp only [wts, List.mem_cons, List.not_mem_nil, or_false] at this
   rcases this with rfl | rfl
   ·exact ⟨by show 0 ≤ 4 + 2 * side; omega, by show 4 + 2 * side < 256; omega, by show (wGj t 0).length = 128; unfold wGj; simp [htl]⟩
   exact ⟨by show 0 ≤ 4 + 2 * side + 1; omega, by show 4 + 2 * side + 1 < 256; omega, by show (wGj t 1).length = 128; unfold wGj; simp [htl]⟩⟩
  have hbs : BS M2 (.slice (some ⟨sb, so + 128 * pre.length, none⟩) 128 128) (wGj t pre.length) := ⟨_, _, by rw [hhl], by rw [hhl]; exact Nat.le_refl _, .inr ⟨sb, so + 128 * pre.length, rfl, fun i u hu => by have := SM.sub (128 * pre.length) 128 hx i u hu; rw [Nat.mul_one] at this; exact this.mono (hM1.trans hM2)⟩⟩
  refine wAv rfl rfl (wAt rfl rfl rfl rfl rfl (by kernel_rfl) (dwrite_spec bs (ws ++ (wts (4 + 2 * side) t).take pre.length) bv2 wv2 M2 hB hW hdk2 (4 + 2 * side + pre.length) (by omega) (wGj t pre.length) _ hbs hhl (by rw [List.length_append]; omega))) ?_; rintro _ M3 _ ⟨hM3, _, rfl, ⟨⟨d, rfl, bv3, wv3, rfl, hB3, hW3⟩, rfl⟩⟩
  simp only [nA]
  obtain ⟨ba3, bc3, bps3, rfl, _⟩ := id hB3
  obtain ⟨wa3, wc3, wps3, rfl, _⟩ := id hW3
  refine jp rfl (jp rfl (jp rfl (sSt rfl ?_)))
  refine sSt rfl ?_
  refine wAc (jT (wAb (wAa (sLd rfl ?_))))
  refine jf rfl (decide_eq_false (by first | omega | (rw [hck]; decide) | (rw [hct]; decide))) ?_
  refine wAc (jT (wAk rfl (wAd (jT (wAa (sLd rfl ?_))))))
  refine ja rfl (by first | omega | (rw [hck]; decide) | (rw [hct]; decide)) ?_
  refine sSt rfl ?_
  refine wAc (jB (jQn ?_))
  have hwt : (wts (4 + 2 * side) t).take (pre ++ [pre.length]).length = (wts (4 + 2 * side) t).take pre.length ++ [(4 + 2 * side + (pre.length : Int), wGj t pre.length)] := by
   rw [List.length_append, List.length_singleton]
   rcases Nat.lt_or_ge 0 pre.length with h | h
   ·rw [show pre.length = 1 by omega]; rfl
   rw [show pre.length = 0 by omega]; simp [wts]
  have e : (4 + 2 * side + ((pre ++ [pre.length]).length : Int)) = 4 + 2 * side + pre.length + 1 := by simp; omega
  exact ⟨_, .slice wa3 _ wc3, by rw [e]; try rfl, hB3, by rw [hwt, ← List.append_assoc]; exact hW3⟩
 ·intro d M2 R2 hM2 hI
  obtain ⟨bv2, wv2, rfl, hB, hW⟩ := hI
  obtain ⟨ba3, bc3, bps3, rfl, _⟩ := id hB
  obtain ⟨wa3, wc3, wps3, rfl, _⟩ := id hW
  simp only [List.cons_append, List.nil_append]
  refine jB (jT (wAb (wAa (sLL rfl ?_))))
  refine sSt rfl ?_
  refine sSt rfl ?_
  refine wAc (jT (wAf (jr_mark (L2 := _) Rm.perm ?_)))
  refine wBr (rs := [_, _]) ([]) (by exact List.nil_sublist _) rfl (.cons (.agg rfl rfl rfl) (.cons (.one rfl rfl rfl) .nil)) ?_
  exact ⟨⟨_, rfl, _, _, rfl, hB, hW⟩, rfl⟩
 intro _ _ _ _ _ _ _ h; exact h.elim
theorem csum_spec (t : List By) (tv : Value) (M : Mem) (ht : BS M tv t) (hct0 : ctOk t) :
  SpecL Tryz.prog 34 #[tv] M [] fun u _ _ => u = .tuple #[.int .u32 (wJe t), .int .i64 0] := by
 have hct : ctChk t = 0 := if_pos hct0
 have htl : t.length = 256 := hct0.1
 obtain ⟨ta, tc, rfl, htc, hts⟩ := id ht
 refine wAe (vs := [_]) 12 _ Tryz.func34 rfl Tryz.ntmps34 rfl rfl ?_; intro W
 refine wAb (wAa (jp rfl (jp rfl (wAc (jT (wAb (wAb (wAa (jp rfl (wAi rfl rfl (wAy rfl rfl rfl rfl rfl (by kernel_rfl) (wGw t _ M ht)) ?_))))))))))
 refine jp rfl (wAc (jT (wAb (wAa (jp rfl ?_)))))
 refine jf rfl (decide_eq_false (by first | omega | (rw [hct]; decide))) ?_
 refine wAc (jT (wAk rfl (wAd (jT (wAb (wAa (jp rfl (wAi rfl rfl (wAy rfl rfl rfl rfl rfl (by kernel_rfl) (of_spec ta tc t M hts (by omega))) ?_))))))))
 refine jp rfl (jp rfl (wAc (jT (wAf (jr2 rfl rfl rfl ?_)))))
 rfl
end Go.Proofs.YtbhkdjheooknfaaGreat
