/- Walks: whether a store is great. -/
import Derived.Test.YtoincdcejjdgkaaGreatZStore
namespace Go.Proofs.YtoincdcejjdgkaaGreat
set_option linter.unusedVariables false
set_option linter.unusedSimpArgs false
open Go.RowKit
set_option maxHeartbeats 2000000 in
theorem dgreat_walk (bs : List (List By)) (ws : List Wt) (a1 : Option Addr) (c1 : Nat) (ps1 : List (List By × Value)) (a2 : Option Addr) (c2 : Nat) (ps2 : List (Wt × Value)) (M : Mem) (hc1 : bs.length ≤ c1) (hs1 : SM M a1 (ps1.map (·.2))) (hp1 : ps1.map (·.1) = bs) (hb1 : ∀ p ∈ ps1, BS M p.2 p.1) (hc2 : ws.length ≤ c2) (hs2 : SM M a2 (ps2.flatMap wCf)) (hp2 : ps2.map (·.1) = ws) (hb2 : ∀ p ∈ ps2, BS M p.2 p.1.2) :
  SpecL Tryz.prog 52 #[.agg #[.slice a1 bs.length c1, .slice a2 ws.length c2]] M [] fun u M' L' => (∃ b, u = .bool b) ∧ L' = [] := by
 refine wAf (vs := [_]) 63 _ Tryz.func52 rfl Tryz.ntmps52 rfl rfl ?_; intro W
 refine wAb (wAa (wAw rfl rfl (wCb (cs := [_, _]) rfl rfl rfl rfl) ?_)); rintro _ _ _ ⟨b1, rfl, rfl, rfl⟩
 refine jp rfl (wAc (jT (wAb (wAb (wAa (sFL rfl rfl ?_))))))
 refine wAi rfl rfl (wBq rfl rfl rfl) ?_
 refine js rfl (fun h9 => ?_) (fun h9 => ?_)
 ·iterate 18 refine jp rfl ?_
  refine wAc (jT (wAg rfl (wAb (wAa (jp rfl (wAc (jT (wAe (jTr (wAv (L' := []) (List.nil_sublist _) ?_))))))))))
  refine jr1 rfl rfl ?_
  exact ⟨⟨_, rfl⟩, rfl⟩
 ·refine jp rfl (sFL rfl rfl ?_)
  refine wAi rfl rfl (wBq rfl rfl rfl) ?_
  refine js rfl (fun h14 => ?_) (fun h14 => ?_)
  ·iterate 13 refine jp rfl ?_
   refine wAc (jT (wAg rfl (wAb (wAa (jp rfl (wAc (jT (wAe (jTr (wAv (L' := []) (List.nil_sublist _) ?_))))))))))
   refine jr1 rfl rfl ?_
   exact ⟨⟨_, rfl⟩, rfl⟩
  ·refine jp rfl (jp rfl (sFL rfl rfl ?_))
   refine wAi rfl rfl (wBq rfl rfl rfl) ?_
   refine js rfl (fun h20 => ?_) (fun h20 => ?_)
   ·refine jp rfl (sFL rfl rfl ?_)
    refine wAi rfl rfl (wBq rfl rfl rfl) ?_
    refine js rfl (fun h25 => ?_) (fun h25 => ?_)
    ·refine jp rfl (jp rfl (wAc (jT (wAg rfl (wAb (wAa (jp rfl (wAc (jT (wAe (jTr (wAv (L' := []) (List.nil_sublist _) ?_))))))))))))
     refine jr1 rfl rfl ?_
     exact ⟨⟨_, rfl⟩, rfl⟩
    ·refine jp rfl (jp rfl (wAc (jT (wAj rfl (wAd (jT (wAb (wAa (jp rfl (wAc (jT (wAb (wAb (wAa (jp rfl (wAc (jT (wAh ?_))))))))))))))))))
     refine wAr (α := Nat × Int) (fun x => [(1, .pointer (some ⟨b1, 0, none⟩)), (3, .int .i64 x.2), (4, .int .i64 (x.1 : Int))]) (fun _ => M) (fun _ => [(b1, .cells [.slice a1 bs.length c1, .slice a2 ws.length c2].toArray 25 (0, 0))]) (fun x => x.1 ≤ bs.length ∧ 0 ≤ x.2 ∧ x.2 ≤ 1000000 * (x.1 : Int)) (fun x => bs.length - x.1)
      (0, 0) (.cons (t := 1) rfl (.cons (t := 3) rfl (.cons (t := 4) rfl .nil))) ⟨Nat.zero_le _, by decide, by decide⟩ (fun _ h => h) ?_
     rintro ⟨k, n⟩ ⟨hk, hn0, hn1⟩
     try dsimp only at hk hn0 hn1 ⊢
     refine wAb (wAb (wAa (jp rfl (sFL rfl rfl ?_))))
     refine wAi rfl rfl (wBq rfl rfl rfl) ?_
     refine js rfl (fun h32 => ?_) (fun h32 => ?_)
     ·refine wAc (jT (wAg rfl (wAd (jT (wAb (wAh (wAa (jp rfl (sFL rfl rfl ?_)))))))))
      refine jp rfl ?_
      have hk1 : k < bs.length := by omega
      obtain ⟨sb, so, e0, hx⟩ := hs1.open (by intro e; have := congrArg List.length e; rw [List.length_map, List.length_nil] at this; have h2 := congrArg List.length hp1; rw [List.length_map] at h2; omega)
      subst e0
      obtain ⟨va, vc, hcl, hvc, hvs⟩ := wCn hx hp1 hb1 hk1
      refine wAi rfl rfl (wBa rfl rfl rfl rfl (by omega)) ?_
      refine wAi rfl rfl (qLd rfl rfl rfl rfl (hcl.cj _)) ?_
      refine wAi rfl rfl (wBq rfl rfl rfl) ?_
      refine wAi rfl rfl (qMin rfl rfl rfl rfl) ?_
      refine ja rfl (by omega) ?_
      refine jp rfl (wAc (jB (jT (wAa (jp rfl (ja rfl (by omega) ?_))))))
      refine jp rfl (wAc ?_)
      refine wAp (k + 1, _) (.cons (t := 1) rfl (.cons (t := 3) rfl (.cons (t := 4) rfl .nil))) ⟨by show k + 1 ≤ bs.length; omega, ?_⟩ (by show bs.length - (k + 1) < bs.length - k; omega) (fun _ h => h)
      show 0 ≤ _ ∧ _ ≤ 1000000 * ((k + 1 : Nat) : Int); omega
     ·refine wAc (jT (wAj rfl (wAs (jTx (jTx (jBx (jT (wAb (wAb (wAa (jp rfl (wAc (jT (wAh ?_))))))))))))))
      obtain rfl : k = bs.length := by omega
      refine wAr (α := Nat × Int) (fun x => [(1, .pointer (some ⟨b1, 0, none⟩)), (3, .int .i64 x.2), (5, .int .i64 (x.1 : Int))]) (fun _ => M) (fun _ => [(b1, .cells [.slice a1 bs.length c1, .slice a2 ws.length c2].toArray 25 (0, 0))]) (fun x => x.1 ≤ ws.length ∧ 0 ≤ x.2 ∧ x.2 ≤ 1000000 * (x.1 : Int) + 300000000) (fun x => ws.length - x.1)
       (0, n) (.cons (t := 1) rfl (.cons (t := 3) rfl (.cons (t := 5) rfl .nil))) ⟨Nat.zero_le _, hn0, by show n ≤ 1000000 * ((0 : Nat) : Int) + 300000000; omega⟩ (fun _ h => h) ?_
      rintro ⟨k, n⟩ ⟨hk, hn0, hn1⟩
      try dsimp only at hk hn0 hn1 ⊢
      refine wAb (wAb (wAa (jp rfl (sFL rfl rfl ?_))))
      refine wAi rfl rfl (wBq rfl rfl rfl) ?_
      refine js rfl (fun h48 => ?_) (fun h48 => ?_)
      ·refine wAc (jT (wAg rfl (wAd (jT (wAb (wAh (wAa (jp rfl (sFL rfl rfl ?_)))))))))
       refine jp rfl ?_
       have hk1 : k < ws.length := by omega
       obtain ⟨sb, so, e0, hx⟩ := hs2.open (by intro e; have := congrArg List.length e; rw [wAy wCf 2 wCc, List.length_nil] at this; have h2 := congrArg List.length hp2; rw [List.length_map] at h2; omega)
       subst e0
       obtain ⟨va, vc, hcl, hvc, hvs⟩ := wDw hx hp2 hb2 hk1
       refine wAi rfl rfl (wBa rfl rfl rfl rfl (by omega)) ?_
       refine sFa rfl ?_
       refine wAi rfl rfl (qLd rfl rfl rfl rfl ((hcl 1 _ rfl).cj _)) ?_
       refine wAi rfl rfl (wBq rfl rfl rfl) ?_
       refine wAi rfl rfl (qMin rfl rfl rfl rfl) ?_
       refine ja rfl (by omega) ?_
       refine jp rfl (wAc (jB (jT (wAa (jp rfl (ja rfl (by omega) ?_))))))
       refine jp rfl (wAc ?_)
       refine wAp (k + 1, _) (.cons (t := 1) rfl (.cons (t := 3) rfl (.cons (t := 5) rfl .nil))) ⟨by show k + 1 ≤ ws.length; omega, ?_⟩ (by show ws.length - (k + 1) < ws.length - k; omega) (fun _ h => h)
       show 0 ≤ _ ∧ _ ≤ 1000000 * ((k + 1 : Nat) : Int) + 300000000; omega
      ·refine wAc (jT (wAj rfl (wAs (jTx (jTx (jBx (jT (wAb (wAa (jp rfl (jp rfl (jp rfl (wAc (jT (wAe (wAv (L' := []) (List.nil_sublist _) ?_))))))))))))))))
       refine jr1 rfl rfl ?_
       exact ⟨⟨_, rfl⟩, rfl⟩
   ·iterate 7 refine jp rfl ?_
    refine wAc (jT (wAj rfl (wAd (jT (wAb (wAa (jp rfl (wAc (jT (wAb (wAb (wAa (jp rfl (wAc (jT (wAh ?_))))))))))))))))
    refine wAr (α := Nat × Int) (fun x => [(1, .pointer (some ⟨b1, 0, none⟩)), (3, .int .i64 x.2), (4, .int .i64 (x.1 : Int))]) (fun _ => M) (fun _ => [(b1, .cells [.slice a1 bs.length c1, .slice a2 ws.length c2].toArray 25 (0, 0))]) (fun x => x.1 ≤ bs.length ∧ 0 ≤ x.2 ∧ x.2 ≤ 1000000 * (x.1 : Int)) (fun x => bs.length - x.1)
     (0, 0) (.cons (t := 1) rfl (.cons (t := 3) rfl (.cons (t := 4) rfl .nil))) ⟨Nat.zero_le _, by decide, by decide⟩ (fun _ h => h) ?_
    rintro ⟨k, n⟩ ⟨hk, hn0, hn1⟩
    try dsimp only at hk hn0 hn1 ⊢
    refine wAb (wAb (wAa (jp rfl (sFL rfl rfl ?_))))
    refine wAi rfl rfl (wBq rfl rfl rfl) ?_
    refine js rfl (fun h32 => ?_) (fun h32 => ?_)
    ·refine wAc (jT (wAg rfl (wAd (jT (wAb (wAh (wAa (jp rfl (sFL rfl rfl ?_)))))))))
     refine jp rfl ?_
     have hk1 : k < bs.length := by omega
     obtain ⟨sb, so, e0, hx⟩ := hs1.open (by intro e; have := congrArg List.length e; rw [List.length_map, List.length_nil] at this; have h2 := congrArg List.length hp1; rw [List.length_map] at h2; omega)
     subst e0
     obtain ⟨va, vc, hcl, hvc, hvs⟩ := wCn hx hp1 hb1 hk1
     refine wAi rfl rfl (wBa rfl rfl rfl rfl (by omega)) ?_
     refine wAi rfl rfl (qLd rfl rfl rfl rfl (hcl.cj _)) ?_
     refine wAi rfl rfl (wBq rfl rfl rfl) ?_
     refine wAi rfl rfl (qMin rfl rfl rfl rfl) ?_
     refine ja rfl (by omega) ?_
     refine jp rfl (wAc (jB (jT (wAa (jp rfl (ja rfl (by omega) ?_))))))
     refine jp rfl (wAc ?_)
     refine wAp (k + 1, _) (.cons (t := 1) rfl (.cons (t := 3) rfl (.cons (t := 4) rfl .nil))) ⟨by show k + 1 ≤ bs.length; omega, ?_⟩ (by show bs.length - (k + 1) < bs.length - k; omega) (fun _ h => h)
     show 0 ≤ _ ∧ _ ≤ 1000000 * ((k + 1 : Nat) : Int); omega
    ·refine wAc (jT (wAj rfl (wAs (jTx (jTx (jBx (jT (wAb (wAb (wAa (jp rfl (wAc (jT (wAh ?_))))))))))))))
     obtain rfl : k = bs.length := by omega
     refine wAr (α := Nat × Int) (fun x => [(1, .pointer (some ⟨b1, 0, none⟩)), (3, .int .i64 x.2), (5, .int .i64 (x.1 : Int))]) (fun _ => M) (fun _ => [(b1, .cells [.slice a1 bs.length c1, .slice a2 ws.length c2].toArray 25 (0, 0))]) (fun x => x.1 ≤ ws.length ∧ 0 ≤ x.2 ∧ x.2 ≤ 1000000 * (x.1 : Int) + 300000000) (fun x => ws.length - x.1)
      (0, n) (.cons (t := 1) rfl (.cons (t := 3) rfl (.cons (t := 5) rfl .nil))) ⟨Nat.zero_le _, hn0, by show n ≤ 1000000 * ((0 : Nat) : Int) + 300000000; omega⟩ (fun _ h => h) ?_
     rintro ⟨k, n⟩ ⟨hk, hn0, hn1⟩
     try dsimp only at hk hn0 hn1 ⊢
     refine wAb (wAb (wAa (jp rfl (sFL rfl rfl ?_))))
     refine wAi rfl rfl (wBq rfl rfl rfl) ?_
     refine js rfl (fun h48 => ?_) (fun h48 => ?_)
     ·refine wAc (jT (wAg rfl (wAd (jT (wAb (wAh (wAa (jp rfl (sFL rfl rfl ?_)))))))))
      refine jp rfl ?_
      have hk1 : k < ws.length := by omega
      obtain ⟨sb, so, e0, hx⟩ := hs2.open (by intro e; have := congrArg List.length e; rw [wAy wCf 2 wCc, List.length_nil] at this; have h2 := congrArg List.length hp2; rw [List.length_map] at h2; omega)
      subst e0
      obtain ⟨va, vc, hcl, hvc, hvs⟩ := wDw hx hp2 hb2 hk1
      refine wAi rfl rfl (wBa rfl rfl rfl rfl (by omega)) ?_
      refine sFa rfl ?_
      refine wAi rfl rfl (qLd rfl rfl rfl rfl ((hcl 1 _ rfl).cj _)) ?_
      refine wAi rfl rfl (wBq rfl rfl rfl) ?_
      refine wAi rfl rfl (qMin rfl rfl rfl rfl) ?_
      refine ja rfl (by omega) ?_
      refine jp rfl (wAc (jB (jT (wAa (jp rfl (ja rfl (by omega) ?_))))))
      refine jp rfl (wAc ?_)
      refine wAp (k + 1, _) (.cons (t := 1) rfl (.cons (t := 3) rfl (.cons (t := 5) rfl .nil))) ⟨by show k + 1 ≤ ws.length; omega, ?_⟩ (by show ws.length - (k + 1) < ws.length - k; omega) (fun _ h => h)
      show 0 ≤ _ ∧ _ ≤ 1000000 * ((k + 1 : Nat) : Int) + 300000000; omega
     ·refine wAc (jT (wAj rfl (wAs (jTx (jTx (jBx (jT (wAb (wAa (jp rfl (jp rfl (jp rfl (wAc (jT (wAe (wAv (L' := []) (List.nil_sublist _) ?_))))))))))))))))
      refine jr1 rfl rfl ?_
      exact ⟨⟨_, rfl⟩, rfl⟩
theorem dgreat_spec (bs : List (List By)) (ws : List Wt) (u v : Value) (M : Mem) (h1 : LS M u bs) (h2 : WS M v ws) : SpecL Tryz.prog 52 #[.agg #[u, v]] M [] fun u M' L' => (∃ b, u = .bool b) ∧ L' = [] := by
 obtain ⟨a1, c1, ps1, rfl, hc1, hs1, hp1, hb1⟩ := h1
 obtain ⟨a2, c2, ps2, rfl, hc2, hs2, hp2, hb2⟩ := h2
 exact dgreat_walk bs ws a1 c1 ps1 a2 c2 ps2 M hc1 hs1 hp1 hb1 hc2 hs2 hp2 hb2
theorem sgreat_walk (s : Sto) (bv wv nv lv : Value) (M : Mem) (h1 : LS M bv s.blocks) (h2 : WS M wv s.waits) (h3 : BS M nv s.now) (h4 : BS M lv s.last) :
  SpecL Tryz.prog 27 #[.agg #[bv, wv, nv, lv]] M [] fun u M' L' => (∃ b, u = .bool b) ∧ L' = [] := by
 obtain ⟨na, nc, rfl, _⟩ := id h3
 obtain ⟨la, lc, rfl, _⟩ := id h4
 refine wAf (vs := [_]) 18 _ Tryz.func27 rfl Tryz.ntmps27 rfl rfl ?_; intro W
 refine wAb (wAa (wAw rfl rfl (wCb (cs := [_, _, _, _]) rfl rfl rfl rfl) ?_)); rintro _ _ _ ⟨b1, rfl, rfl, rfl⟩
 refine jp rfl (wAc (jT (wAb (wAa (sFa rfl ?_)))))
 refine sLL rfl ?_
 refine wAw rfl rfl (wAn rfl rfl rfl rfl rfl (by kernel_rfl) (dgreat_spec s.blocks s.waits bv wv M h1 h2)) ?_; rintro _ M1 _ ⟨hM1, _, rfl, ⟨⟨b, rfl⟩, rfl⟩⟩
 refine jsb rfl (fun h6 => ?_) (fun h6 => ?_)
 ·iterate 12 refine jp rfl ?_
  refine wAc (jT (wAe (wAv (L' := []) (List.nil_sublist _) ?_)))
  refine jr1 rfl rfl ?_
  exact ⟨⟨_, rfl⟩, rfl⟩
 ·refine sFL rfl rfl ?_
  refine wAi rfl rfl (wBq rfl rfl rfl) ?_
  refine js rfl (fun h10 => ?_) (fun h10 => ?_)
  ·iterate 8 refine jp rfl ?_
   refine wAc (jT (wAe (wAv (L' := []) (List.nil_sublist _) ?_)))
   refine jr1 rfl rfl ?_
   exact ⟨⟨_, rfl⟩, rfl⟩
  ·refine jp rfl (jp rfl (sFL rfl rfl ?_))
   refine wAi rfl rfl (wBq rfl rfl rfl) ?_
   refine jp rfl (jp rfl (jp rfl (wAc (jT (wAe (wAv (L' := []) (List.nil_sublist _) ?_))))))
   refine jr1 rfl rfl ?_
   exact ⟨⟨_, rfl⟩, rfl⟩
theorem great_spec (s : Sto) (v : Value) (M : Mem) (h : ST M v s) : SpecL Tryz.prog 27 #[v] M [] fun u M' L' => (∃ b, u = .bool b) ∧ L' = [] := by
 obtain ⟨bv, wv, nv, lv, rfl, h1, h2, h3, h4⟩ := h.ex
 exact sgreat_walk s bv wv nv lv M h1 h2 h3 h4
end Go.Proofs.YtoincdcejjdgkaaGreat
