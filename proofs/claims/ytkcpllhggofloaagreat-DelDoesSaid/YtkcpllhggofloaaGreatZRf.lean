/- Walks: the document's stores: whether they may be, twins, whether two are the same, what is seen. -/
import Derived.Test.YtkcpllhggofloaaGreatZRe
import Derived.Test.YtkcpllhggofloaaGreatZSp
namespace Go.Proofs.YtkcpllhggofloaaGreat
set_option linter.unusedVariables false
set_option linter.unusedSectionVars false
set_option linter.unusedSimpArgs false
open Go.RowKit
section
variable {P : Program} {ops : Array Oper} {N : Fs} {F : Fr} {M : Mem} {L : Lc} {o : Oper}
theorem HF.monoM {E : Ent} {K K' : Value → Mem → Lc → Prop} (h : HF P ops N F E M L o K) (hk : ∀ w v M' L', K v M' L' → St E M' L' w → ∃ M2 L2, St E M2 L2 w ∧ K' v M2 L2) : HF P ops N F E M L o K' := fun a w ha hw =>
 ⟨(h a w ha hw).1, fun Q => Oper.wpIn_mono (fun a' w' ⟨v, M', L', e, hs, hK⟩ => by
  obtain ⟨M2, L2, h1, h2⟩ := hk w' v M' L' hK hs
  exact ⟨v, M2, L2, e, h1, h2⟩) ((h a w ha hw).2 Q)⟩
theorem hBuildSliceM {W : World} {M0 : Mem} {t e : TypeId} {n : Nat} {ps : List (Nat × Operand)} {vs : List (Nat × Value)} {sz by_ : Nat} {z cs : List Value} (hg : gd ops F o = some true) (ho : o.op = .buildSlice t n ps.toArray) (hv : evp F ps = some vs) [ht : Und P t (.slice e)] [hl : Lay P e sz by_ z]
  (hc : fillL (fun i => some (i * sz, sz)) (List.replicate n z).flatten vs = some cs) (hsmall : Nat.ble (n * sz) 16777216 = true) (hpos : Nat.blt 0 sz = true) :
  HF P ops N F ⟨W, [], M0⟩ M L o (fun v M' L' => ∃ b, v = .slice (some ⟨b, 0, none⟩) n n ∧ L' = L ∧ MLe M M' ∧ M' b = some (.cells cs.toArray e (0, 0))) :=
 (wAn (E := ⟨W, [], M0⟩) hg ho hv hc hsmall hpos).monoM fun w v M' L' ⟨b, e1, e2, e3⟩ hs => by
  subst e2; subst e3
  obtain ⟨h1, h2, h3⟩ := St.freeze' (List.not_mem_nil) hs
  exact ⟨_, _, h1, b, e1, rfl, h2, h3⟩
theorem hAppFz {W : World} {M0 : Mem} {x y : Operand} {t e : TypeId} {size bytes m c : Nat} {z news : List Value} {ya : Option Addr} (hg : gd ops F o = some true)
  (ho : o.op = .call { callee := .builtin .append, args := #[x, y], argTypes := #[t, t] }) (hx : ev F x = some (.slice none 0 0)) (hy : ev F y = some (.slice ya m c)) [ht : Und P t (.slice e)] [hl : Lay P e size bytes z]
  (hl1 : news.length = m * size) (hnews : SM M ya news) (hz0 : Nat.blt 0 size = true) (h1 : ∀ u ∈ news, u.oneCell' = true) (hbig : m ≤ 1000000000) (hby : bytes ≤ 100000) :
  HF P ops N F ⟨W, [], M0⟩ M L o (fun v' M' L' => L' = L ∧ MLe M M' ∧ ∃ a c', v' = .slice a m c' ∧ m ≤ c' ∧ SM M' a news) :=
 (wCg (R := []) (E := ⟨W, [], M0⟩) hg ho hx hy (Own.nil _ _) hl1 hnews hz0 h1 (by omega) hby).monoM fun w v M' L' ⟨e1, R', e2, e3⟩ hs => by
  subst e1; subst e2
  obtain ⟨M2, a, c', k1, k2, k3, k4, k5⟩ := e3.freeze (fun p _ h => by cases h) hs
  rw [Nat.zero_add] at k2 k3
  rw [List.nil_append] at k4
  exact ⟨M2, _, k5, rfl, k1, a, c', k2, k3, k4⟩
end
theorem bs_get {M : Mem} {a1 : Option Addr} {bs : List (List By)} {ps1 : List (List By × Value)} (hs1 : SM M a1 (ps1.map (·.2))) (hp1 : ps1.map (·.1) = bs) (hb1 : ∀ p ∈ ps1, BS M p.2 p.1) {k : Nat} (hk : k < bs.length) : ∃ sb so va vc, a1 = some ⟨sb, so, none⟩ ∧ CM M sb (so + ((k : Int)).toNat * 1) (.slice va bs[k].length vc) ∧ bs[k].length ≤ vc ∧ SM M va (wAj bs[k]) := by
 obtain ⟨sb, so, e0, hx⟩ := hs1.open (by intro e; have := congrArg List.length e; rw [List.length_map, List.length_nil] at this; have h2 := congrArg List.length hp1; rw [List.length_map] at h2; omega)
 obtain ⟨va, vc, hcl, hvc, hvs⟩ := wEy hx hp1 hb1 hk
 exact ⟨sb, so, va, vc, e0, by rw [Int.toNat_natCast]; exact hcl, hvc, hvs⟩
theorem ws_get {M : Mem} {a2 : Option Addr} {ws : List Wt} {ps2 : List (Wt × Value)} (hs2 : SM M a2 (ps2.flatMap wCv)) (hp2 : ps2.map (·.1) = ws) (hb2 : ∀ p ∈ ps2, BS M p.2 p.1.2) {k : Nat} (hk : k < ws.length) : ∃ sb so va vc, a2 = some ⟨sb, so, none⟩ ∧ (∀ i v, (wtc ws[k] va vc)[i]? = some v → CM M sb (so + ((k : Int)).toNat * 2 + i) v) ∧ ws[k].2.length ≤ vc ∧ SM M va (wAj ws[k].2) := by
 obtain ⟨sb, so, e0, hx⟩ := hs2.open (by intro e; have := congrArg List.length e; rw [wBi wCv 2 wDn, List.length_nil] at this; have h2 := congrArg List.length hp2; rw [List.length_map] at h2; omega)
 obtain ⟨va, vc, hcl, hvc, hvs⟩ := wKv hx hp2 hb2 hk
 exact ⟨sb, so, va, vc, e0, fun i v h => by rw [Int.toNat_natCast]; exact hcl i v h, hvc, hvs⟩
def few (bs : List (List By)) (ws : List Wt) : Prop := bs.length ≤ 300 ∧ ws.length ≤ 5000 ∧ (∀ b ∈ bs, b.length ≤ 800000) ∧ ∀ w ∈ ws, w.2.length ≤ 800000
section
variable {P : Program} {ops : Array Oper} {N : Fs} {F : Fr} {E : Ent} {M : Mem} {L : Lc} {o : Oper}
theorem wCe {x ix : Operand} {t e : TypeId} {a : Option Addr} {b off n c sz by_ : Nat} {z : List Value} {k : IntKind} {i : Int} (hg : gd ops F o = some true) (ho : o.op = .indexAddr t x ix) (hx : ev F x = some (.slice a n c)) (hi : ev F ix = some (.int k i))
  [ht : Und P t (.slice e)] [hl : Lay P e sz by_ z] (ha : a = some ⟨b, off, none⟩) (h : 0 ≤ i ∧ i < n) : QF P ops N F M L o (.pointer (some ⟨b, off + i.toNat * sz, none⟩)) := by
 subst ha; exact wBe hg ho hx hi h
end
set_option maxHeartbeats 2000000 in
theorem rgreat3_walk (bs : List (List By)) (ws : List Wt) (a1 : Option Addr) (c1 : Nat) (ps1 : List (List By × Value)) (a2 : Option Addr) (c2 : Nat) (ps2 : List (Wt × Value)) (M : Mem) (hc1 : bs.length ≤ c1) (hs1 : SM M a1 (ps1.map (·.2))) (hp1 : ps1.map (·.1) = bs) (hb1 : ∀ p ∈ ps1, BS M p.2 p.1) (hc2 : ws.length ≤ c2) (hs2 : SM M a2 (ps2.flatMap wCv)) (hp2 : ps2.map (·.1) = ws) (hb2 : ∀ p ∈ ps2, BS M p.2 p.1.2) :
  SpecL Tryz.prog 9 #[.agg #[.slice a1 bs.length c1, .slice a2 ws.length c2]] M [] fun u _ L' => (∃ b : Bool, u = .bool b ∧ (b = false → few bs ws)) ∧ L' = [] := by
 refine wAf (vs := [_]) 63 _ Tryz.func9 rfl Tryz.ntmps9 rfl rfl ?_; intro W
 refine wAb (wAa (wAy rfl rfl (wCm (cs := [_, _]) rfl rfl rfl rfl) ?_)); rintro _ _ _ ⟨b1, rfl, rfl, rfl⟩
 refine jp rfl (wAc (jT (wAb (wAb (wAa (sFL rfl rfl ?_))))))
 refine wAi rfl rfl (wBj rfl rfl rfl) ?_
 refine js rfl (fun h9 => ?_) (fun h9 => ?_)
 ·iterate 18 refine jp rfl ?_
  refine wAc (jT (wAg rfl (wAb (wAa (jp rfl (wAc (jT (wAe (jTr (wAr (L' := []) (List.nil_sublist _) ?_))))))))))
  refine jr1 rfl rfl ?_
  first | exact ⟨⟨true, rfl, fun h => by cases h⟩, rfl⟩ | (refine ⟨⟨_, rfl, fun h => ?_⟩, rfl⟩; have h2 := of_decide_eq_false h; obtain rfl : k = ws.length := (by omega); rw [List.take_length] at hall; exact ⟨by omega, by omega, fun y hy => by have := hallb y hy; omega, fun y hy => by have := hall y hy; omega⟩)
 refine jp rfl (sFL rfl rfl ?_)
 refine wAi rfl rfl (wBj rfl rfl rfl) ?_
 refine js rfl (fun h14 => ?_) (fun h14 => ?_)
 ·iterate 13 refine jp rfl ?_
  refine wAc (jT (wAg rfl (wAb (wAa (jp rfl (wAc (jT (wAe (jTr (wAr (L' := []) (List.nil_sublist _) ?_))))))))))
  refine jr1 rfl rfl ?_
  first | exact ⟨⟨true, rfl, fun h => by cases h⟩, rfl⟩ | (refine ⟨⟨_, rfl, fun h => ?_⟩, rfl⟩; have h2 := of_decide_eq_false h; obtain rfl : k = ws.length := (by omega); rw [List.take_length] at hall; exact ⟨by omega, by omega, fun y hy => by have := hallb y hy; omega, fun y hy => by have := hall y hy; omega⟩)
 refine jp rfl (jp rfl (sFL rfl rfl ?_))
 refine wAi rfl rfl (wBj rfl rfl rfl) ?_
 refine js rfl (fun h20 => ?_) (fun h20 => ?_)
 ·refine jp rfl (sFL rfl rfl ?_)
  refine wAi rfl rfl (wBj rfl rfl rfl) ?_
  refine js rfl (fun h25 => ?_) (fun h25 => ?_)
  ·refine jp rfl (jp rfl (wAc (jT (wAg rfl (wAb (wAa (jp rfl (wAc (jT (wAe (jTr (wAr (L' := []) (List.nil_sublist _) ?_))))))))))))
   refine jr1 rfl rfl ?_
   first | exact ⟨⟨true, rfl, fun h => by cases h⟩, rfl⟩ | (refine ⟨⟨_, rfl, fun h => ?_⟩, rfl⟩; have h2 := of_decide_eq_false h; obtain rfl : k = ws.length := (by omega); rw [List.take_length] at hall; exact ⟨by omega, by omega, fun y hy => by have := hallb y hy; omega, fun y hy => by have := hall y hy; omega⟩)
  refine jp rfl (jp rfl (wAc (jT (wAk rfl (wAd (jT (wAb (wAa (jp rfl (wAc (jT (wAb (wAb (wAa (jp rfl (wAc (jT (wAh ?_))))))))))))))))))
  refine wAv (α := Nat × Int) (fun x => [(1, .pointer (some ⟨b1, 0, none⟩)), (3, .int .i64 x.2), (4, .int .i64 (x.1 : Int))]) (fun _ => M) (fun _ => [(b1, .cells [.slice a1 bs.length c1, .slice a2 ws.length c2].toArray 25 (0, 0))]) (fun x => x.1 ≤ bs.length ∧ 0 ≤ x.2 ∧ x.2 ≤ 1000000 * (x.1 : Int) ∧ ∀ y ∈ bs.take x.1, min (y.length : Int) 1000000 ≤ x.2) (fun x => bs.length - x.1)
   (0, 0) (.cons (t := 1) rfl (.cons (t := 3) rfl (.cons (t := 4) rfl .nil))) ⟨Nat.zero_le _, by decide, by decide, fun y h => by simp at h⟩ (fun _ h => h) ?_
  rintro ⟨k, n⟩ ⟨hk, hn0, hn1, hall⟩
  try dsimp only at hk hn0 hn1 hall ⊢
  refine wAb (wAb (wAa (jp rfl (sFL rfl rfl ?_))))
  refine wAi rfl rfl (wBj rfl rfl rfl) ?_
  refine js rfl (fun h32 => ?_) (fun h32 => ?_)
  ·refine wAc (jT (wAg rfl (wAd (jT (wAb (wAh (wAa (jp rfl (sFL rfl rfl ?_)))))))))
   refine jp rfl ?_
   have hk1 : k < bs.length := by omega
   obtain ⟨sb, so, va, vc, e0, hcl, hvc, hvs⟩ := bs_get hs1 hp1 hb1 hk1
   refine wAi rfl rfl (wCe rfl rfl rfl rfl e0 (by omega)) ?_
   refine wAi rfl rfl (qLd rfl rfl rfl rfl (hcl.cj _)) ?_
   refine wAi rfl rfl (wBj rfl rfl rfl) ?_
   refine wAi rfl rfl (qMin rfl rfl rfl rfl) ?_
   refine ja rfl (by omega) ?_
   refine jp rfl (wAc (jB (jT (wAa (jp rfl (ja rfl (by omega) ?_))))))
   refine jp rfl (wAc ?_)
   refine wAp (k + 1, _) (.cons (t := 1) rfl (.cons (t := 3) rfl (.cons (t := 4) rfl .nil))) ⟨by show k + 1 ≤ bs.length; omega, by show 0 ≤ _; omega, by show _ ≤ 1000000 * ((k + 1 : Nat) : Int); omega, ?_⟩ (by show bs.length - (k + 1) < bs.length - k; omega) (fun _ h => h)
   show ∀ y ∈ bs.take (k + 1), min (y.length : Int) 1000000 ≤ n + _
   exact wJp hk1 (fun y hy => by have := hall y hy; omega) (by omega)
  refine wAc (jT (wAk rfl (wAw (jTx (jTx (jBx (jT (wAb (wAb (wAa (jp rfl (wAc (jT (wAh ?_))))))))))))))
  obtain rfl : k = bs.length := by omega
  rw [List.take_length] at hall
  refine wAv (α := Nat × Int) (fun x => [(1, .pointer (some ⟨b1, 0, none⟩)), (3, .int .i64 x.2), (5, .int .i64 (x.1 : Int))]) (fun _ => M) (fun _ => [(b1, .cells [.slice a1 bs.length c1, .slice a2 ws.length c2].toArray 25 (0, 0))]) (fun x => x.1 ≤ ws.length ∧ 0 ≤ x.2 ∧ x.2 ≤ 1000000 * (x.1 : Int) + 300000000 ∧ (∀ y ∈ bs, min (y.length : Int) 1000000 ≤ x.2) ∧ ∀ y ∈ ws.take x.1, min (y.2.length : Int) 1000000 ≤ x.2) (fun x => ws.length - x.1)
   (0, n) (.cons (t := 1) rfl (.cons (t := 3) rfl (.cons (t := 5) rfl .nil))) ⟨Nat.zero_le _, hn0, by show n ≤ 1000000 * ((0 : Nat) : Int) + 300000000; omega, hall, fun y h => by simp at h⟩ (fun _ h => h) ?_
  rintro ⟨k, n⟩ ⟨hk, hn0, hn1, hallb, hall⟩
  try dsimp only at hk hn0 hn1 hallb hall ⊢
  refine wAb (wAb (wAa (jp rfl (sFL rfl rfl ?_))))
  refine wAi rfl rfl (wBj rfl rfl rfl) ?_
  refine js rfl (fun h48 => ?_) (fun h48 => ?_)
  ·refine wAc (jT (wAg rfl (wAd (jT (wAb (wAh (wAa (jp rfl (sFL rfl rfl ?_)))))))))
   refine jp rfl ?_
   have hk1 : k < ws.length := by omega
   obtain ⟨sb, so, va, vc, e0, hcl, hvc, hvs⟩ := ws_get hs2 hp2 hb2 hk1
   refine wAi rfl rfl (wCe rfl rfl rfl rfl e0 (by omega)) ?_
   refine sFa rfl ?_
   refine wAi rfl rfl (qLd rfl rfl rfl rfl ((hcl 1 _ rfl).cj _)) ?_
   refine wAi rfl rfl (wBj rfl rfl rfl) ?_
   refine wAi rfl rfl (qMin rfl rfl rfl rfl) ?_
   refine ja rfl (by omega) ?_
   refine jp rfl (wAc (jB (jT (wAa (jp rfl (ja rfl (by omega) ?_))))))
   refine jp rfl (wAc ?_)
   refine wAp (k + 1, _) (.cons (t := 1) rfl (.cons (t := 3) rfl (.cons (t := 5) rfl .nil))) ⟨by show k + 1 ≤ ws.length; omega, by show 0 ≤ _; omega, by show _ ≤ 1000000 * ((k + 1 : Nat) : Int) + 300000000; omega, ?_⟩ (by show ws.length - (k + 1) < ws.length - k; omega) (fun _ h => h)
   refine ⟨?_, ?_⟩
   ·show ∀ y ∈ bs, min (y.length : Int) 1000000 ≤ n + _
    exact fun y hy => by have := hallb y hy; omega
   show ∀ y ∈ ws.take (k + 1), min (y.2.length : Int) 1000000 ≤ n + _
   exact wJp hk1 (fun y hy => by have := hall y hy; omega) (by omega)
  refine wAc (jT (wAk rfl (wAw (jTx (jTx (jBx (jT (wAb (wAa (jp rfl (jp rfl (jp rfl (wAc (jT (wAe (wAr (L' := []) (List.nil_sublist _) ?_))))))))))))))))
  refine jr1 rfl rfl ?_
  first | exact ⟨⟨true, rfl, fun h => by cases h⟩, rfl⟩ | (refine ⟨⟨_, rfl, fun h => ?_⟩, rfl⟩; have h2 := of_decide_eq_false h; obtain rfl : k = ws.length := (by omega); rw [List.take_length] at hall; exact ⟨by omega, by omega, fun y hy => by have := hallb y hy; omega, fun y hy => by have := hall y hy; omega⟩)
 iterate 7 refine jp rfl ?_
 refine wAc (jT (wAk rfl (wAd (jT (wAb (wAa (jp rfl (wAc (jT (wAb (wAb (wAa (jp rfl (wAc (jT (wAh ?_))))))))))))))))
 refine wAv (α := Nat × Int) (fun x => [(1, .pointer (some ⟨b1, 0, none⟩)), (3, .int .i64 x.2), (4, .int .i64 (x.1 : Int))]) (fun _ => M) (fun _ => [(b1, .cells [.slice a1 bs.length c1, .slice a2 ws.length c2].toArray 25 (0, 0))]) (fun x => x.1 ≤ bs.length ∧ 0 ≤ x.2 ∧ x.2 ≤ 1000000 * (x.1 : Int) ∧ ∀ y ∈ bs.take x.1, min (y.length : Int) 1000000 ≤ x.2) (fun x => bs.length - x.1)
  (0, 0) (.cons (t := 1) rfl (.cons (t := 3) rfl (.cons (t := 4) rfl .nil))) ⟨Nat.zero_le _, by decide, by decide, fun y h => by simp at h⟩ (fun _ h => h) ?_
 rintro ⟨k, n⟩ ⟨hk, hn0, hn1, hall⟩
 try dsimp only at hk hn0 hn1 hall ⊢
 refine wAb (wAb (wAa (jp rfl (sFL rfl rfl ?_))))
 refine wAi rfl rfl (wBj rfl rfl rfl) ?_
 refine js rfl (fun h32 => ?_) (fun h32 => ?_)
 ·refine wAc (jT (wAg rfl (wAd (jT (wAb (wAh (wAa (jp rfl (sFL rfl rfl ?_)))))))))
  refine jp rfl ?_
  have hk1 : k < bs.length := by omega
  obtain ⟨sb, so, va, vc, e0, hcl, hvc, hvs⟩ := bs_get hs1 hp1 hb1 hk1
  refine wAi rfl rfl (wCe rfl rfl rfl rfl e0 (by omega)) ?_
  refine wAi rfl rfl (qLd rfl rfl rfl rfl (hcl.cj _)) ?_
  refine wAi rfl rfl (wBj rfl rfl rfl) ?_
  refine wAi rfl rfl (qMin rfl rfl rfl rfl) ?_
  refine ja rfl (by omega) ?_
  refine jp rfl (wAc (jB (jT (wAa (jp rfl (ja rfl (by omega) ?_))))))
  refine jp rfl (wAc ?_)
  refine wAp (k + 1, _) (.cons (t := 1) rfl (.cons (t := 3) rfl (.cons (t := 4) rfl .nil))) ⟨by show k + 1 ≤ bs.length; omega, by show 0 ≤ _; omega, by show _ ≤ 1000000 * ((k + 1 : Nat) : Int); omega, ?_⟩ (by show bs.length - (k + 1) < bs.length - k; omega) (fun _ h => h)
  show ∀ y ∈ bs.take (k + 1), min (y.length : Int) 1000000 ≤ n + _
  exact wJp hk1 (fun y hy => by have := hall y hy; omega) (by omega)
 refine wAc (jT (wAk rfl (wAw (jTx (jTx (jBx (jT (wAb (wAb (wAa (jp rfl (wAc (jT (wAh ?_))))))))))))))
 obtain rfl : k = bs.length := by omega
 rw [List.take_length] at hall
 refine wAv (α := Nat × Int) (fun x => [(1, .pointer (some ⟨b1, 0, none⟩)), (3, .int .i64 x.2), (5, .int .i64 (x.1 : Int))]) (fun _ => M) (fun _ => [(b1, .cells [.slice a1 bs.length c1, .slice a2 ws.length c2].toArray 25 (0, 0))]) (fun x => x.1 ≤ ws.length ∧ 0 ≤ x.2 ∧ x.2 ≤ 1000000 * (x.1 : Int) + 300000000 ∧ (∀ y ∈ bs, min (y.length : Int) 1000000 ≤ x.2) ∧ ∀ y ∈ ws.take x.1, min (y.2.length : Int) 1000000 ≤ x.2) (fun x => ws.length - x.1)
  (0, n) (.cons (t := 1) rfl (.cons (t := 3) rfl (.cons (t := 5) rfl .nil))) ⟨Nat.zero_le _, hn0, by show n ≤ 1000000 * ((0 : Nat) : Int) + 300000000; omega, hall, fun y h => by simp at h⟩ (fun _ h => h) ?_
 rintro ⟨k, n⟩ ⟨hk, hn0, hn1, hallb, hall⟩
 try dsimp only at hk hn0 hn1 hallb hall ⊢
 refine wAb (wAb (wAa (jp rfl (sFL rfl rfl ?_))))
 refine wAi rfl rfl (wBj rfl rfl rfl) ?_
 refine js rfl (fun h48 => ?_) (fun h48 => ?_)
 ·refine wAc (jT (wAg rfl (wAd (jT (wAb (wAh (wAa (jp rfl (sFL rfl rfl ?_)))))))))
  refine jp rfl ?_
  have hk1 : k < ws.length := by omega
  obtain ⟨sb, so, va, vc, e0, hcl, hvc, hvs⟩ := ws_get hs2 hp2 hb2 hk1
  refine wAi rfl rfl (wCe rfl rfl rfl rfl e0 (by omega)) ?_
  refine sFa rfl ?_
  refine wAi rfl rfl (qLd rfl rfl rfl rfl ((hcl 1 _ rfl).cj _)) ?_
  refine wAi rfl rfl (wBj rfl rfl rfl) ?_
  refine wAi rfl rfl (qMin rfl rfl rfl rfl) ?_
  refine ja rfl (by omega) ?_
  refine jp rfl (wAc (jB (jT (wAa (jp rfl (ja rfl (by omega) ?_))))))
  refine jp rfl (wAc ?_)
  refine wAp (k + 1, _) (.cons (t := 1) rfl (.cons (t := 3) rfl (.cons (t := 5) rfl .nil))) ⟨by show k + 1 ≤ ws.length; omega, by show 0 ≤ _; omega, by show _ ≤ 1000000 * ((k + 1 : Nat) : Int) + 300000000; omega, ?_⟩ (by show ws.length - (k + 1) < ws.length - k; omega) (fun _ h => h)
  refine ⟨?_, ?_⟩
  ·show ∀ y ∈ bs, min (y.length : Int) 1000000 ≤ n + _
   exact fun y hy => by have := hallb y hy; omega
  show ∀ y ∈ ws.take (k + 1), min (y.2.length : Int) 1000000 ≤ n + _
  exact wJp hk1 (fun y hy => by have := hall y hy; omega) (by omega)
 refine wAc (jT (wAk rfl (wAw (jTx (jTx (jBx (jT (wAb (wAa (jp rfl (jp rfl (jp rfl (wAc (jT (wAe (wAr (L' := []) (List.nil_sublist _) ?_))))))))))))))))
 refine jr1 rfl rfl ?_
 first | exact ⟨⟨true, rfl, fun h => by cases h⟩, rfl⟩ | (refine ⟨⟨_, rfl, fun h => ?_⟩, rfl⟩; have h2 := of_decide_eq_false h; obtain rfl : k = ws.length := (by omega); rw [List.take_length] at hall; exact ⟨by omega, by omega, fun y hy => by have := hallb y hy; omega, fun y hy => by have := hall y hy; omega⟩)
set_option maxHeartbeats 2000000 in
theorem rmay3_walk (bs : List (List By)) (ws : List Wt) (a1 : Option Addr) (c1 : Nat) (ps1 : List (List By × Value)) (a2 : Option Addr) (c2 : Nat) (ps2 : List (Wt × Value)) (M : Mem) (hc1 : bs.length ≤ c1) (hs1 : SM M a1 (ps1.map (·.2))) (hp1 : ps1.map (·.1) = bs) (hb1 : ∀ p ∈ ps1, BS M p.2 p.1) (hc2 : ws.length ≤ c2) (hs2 : SM M a2 (ps2.flatMap wCv)) (hp2 : ps2.map (·.1) = ws) (hb2 : ∀ p ∈ ps2, BS M p.2 p.1.2) (hf : few bs ws) :
  SpecL Tryz.prog 66 #[.agg #[.slice a1 bs.length c1, .slice a2 ws.length c2]] M [] fun u _ _ => u = .bool (decide (dkOk bs ws)) := by
 obtain ⟨f1, f2, f3, f4⟩ := hf
 refine wAf (vs := [_]) 62 _ Tryz.func66 rfl Tryz.ntmps66 rfl rfl ?_; intro W
 refine wAb (wAa (wAy rfl rfl (wCm (cs := [_, _]) rfl rfl rfl rfl) ?_)); rintro _ _ _ ⟨b1, rfl, rfl, rfl⟩
 refine jp rfl (wAc (jT (wAb (wAb (wAa (sFL rfl rfl ?_))))))
 refine wAi rfl rfl (wBj rfl rfl rfl) ?_
 refine js rfl (fun h8 => ?_) (fun h8 => ?_)
 ·refine jp rfl (jp rfl (jp rfl (jp rfl (jp rfl (jp rfl (wAc (jT (wAg rfl (wAb (wAa (jp rfl (wAc (jT (wAe (jTr (wAr (L' := []) (List.nil_sublist _) ?_))))))))))))))))
  refine jr1 rfl rfl ?_
  refine congrArg Value.bool (Eq.symm ?_)
  first | (refine decide_eq_true ⟨by omega, by omega, hall, ?_⟩; obtain rfl : k = ws.length := (by omega); rw [List.take_length] at hallw; exact hallw) | exact decide_eq_false fun h => by have := h.1; have := h.2.1; omega | exact decide_eq_false fun h => by have := h.2.2.1 _ (List.getElem_mem hk1); omega | exact decide_eq_false fun h => by have := h.2.2.2 _ (List.getElem_mem hk1); omega
 refine jp rfl (sFL rfl rfl ?_)
 refine wAi rfl rfl (wBj rfl rfl rfl) ?_
 refine js rfl (fun h13 => ?_) (fun h13 => ?_)
 ·refine jp rfl (wAc (jT (wAg rfl (wAb (wAa (jp rfl (wAc (jT (wAe (jTr (wAr (L' := []) (List.nil_sublist _) ?_)))))))))))
  refine jr1 rfl rfl ?_
  refine congrArg Value.bool (Eq.symm ?_)
  first | (refine decide_eq_true ⟨by omega, by omega, hall, ?_⟩; obtain rfl : k = ws.length := (by omega); rw [List.take_length] at hallw; exact hallw) | exact decide_eq_false fun h => by have := h.1; have := h.2.1; omega | exact decide_eq_false fun h => by have := h.2.2.1 _ (List.getElem_mem hk1); omega | exact decide_eq_false fun h => by have := h.2.2.2 _ (List.getElem_mem hk1); omega
 refine jp rfl (wAc (jT (wAk rfl (wAd (jT (wAb (wAb (wAa (jp rfl (wAc (jT (wAh ?_))))))))))))
 refine wAv (α := Nat) (fun k => [(1, .pointer (some ⟨b1, 0, none⟩)), (3, .int .i64 k)]) (fun _ => M) (fun _ => [(b1, .cells [.slice a1 bs.length c1, .slice a2 ws.length c2].toArray 25 (0, 0))]) (fun k => k ≤ bs.length ∧ ∀ y ∈ bs.take k, y.length = 128) (fun k => bs.length - k)
  0 (.cons (t := 1) rfl (.cons (t := 3) rfl .nil)) ⟨Nat.zero_le _, fun y h => by simp at h⟩ (fun _ h => h) ?_
 rintro k ⟨hk, hall⟩
 try dsimp only at hk hall ⊢
 refine wAb (wAb (wAa (jp rfl (sFL rfl rfl ?_))))
 refine wAi rfl rfl (wBj rfl rfl rfl) ?_
 refine js rfl (fun h19 => ?_) (fun h19 => ?_)
 ·refine wAc (jT (wAg rfl (wAd (jT (wAb (wAh (wAb (wAa (sFL rfl rfl ?_)))))))))
  refine jp rfl ?_
  have hk1 : k < bs.length := by omega
  obtain ⟨sb, so, va, vc, e0, hcl, hvc, hvs⟩ := bs_get hs1 hp1 hb1 hk1
  refine wAi rfl rfl (wCe rfl rfl rfl rfl e0 (by omega)) ?_
  refine wAi rfl rfl (qLd rfl rfl rfl rfl (hcl.cj _)) ?_
  refine wAi rfl rfl (wBj rfl rfl rfl) ?_
  refine js rfl (fun h28 => ?_) (fun h28 => ?_)
  ·refine wAc (jT (wAg rfl (wAb (wAa (jp rfl (wAc (jT (wAe (jBr (jTr (jTr (jBr (jTr (wAr (L' := []) (List.nil_sublist _) ?_))))))))))))))
   refine jr1 rfl rfl ?_
   refine congrArg Value.bool (Eq.symm ?_)
   first | (refine decide_eq_true ⟨by omega, by omega, hall, ?_⟩; obtain rfl : k = ws.length := (by omega); rw [List.take_length] at hallw; exact hallw) | exact decide_eq_false fun h => by have := h.1; have := h.2.1; omega | exact decide_eq_false fun h => by have := h.2.2.1 _ (List.getElem_mem hk1); omega | exact decide_eq_false fun h => by have := h.2.2.2 _ (List.getElem_mem hk1); omega
  refine wAc (jT (wAk rfl (wAd (jB (jT (wAa (jp rfl (ja rfl (by omega) ?_))))))))
  refine jp rfl (wAc ?_)
  refine wAp (k + 1) (.cons (t := 1) rfl (.cons (t := 3) rfl .nil)) ⟨by omega, wJp hk1 hall (by omega)⟩ (by omega) (fun _ h => h)
 refine wAc (jT (wAk rfl (wAw (jTx (jTx (jBx (jT (wAb (wAb (wAa (jp rfl (wAc (jT (wAh ?_))))))))))))))
 obtain rfl : k = bs.length := by omega
 rw [List.take_length] at hall
 refine wAv (α := Nat) (fun k => [(1, .pointer (some ⟨b1, 0, none⟩)), (4, .int .i64 k)]) (fun _ => M) (fun _ => [(b1, .cells [.slice a1 bs.length c1, .slice a2 ws.length c2].toArray 25 (0, 0))]) (fun k => k ≤ ws.length ∧ ∀ w ∈ ws.take k, 0 ≤ w.1 ∧ w.1 < 256 ∧ w.2.length = 128) (fun k => ws.length - k)
  0 (.cons (t := 1) rfl (.cons (t := 4) rfl .nil)) ⟨Nat.zero_le _, fun y h => by simp at h⟩ (fun _ h => h) ?_
 rintro k ⟨hk, hallw⟩
 try dsimp only at hk hallw ⊢
 refine wAb (wAb (wAa (jp rfl (sFL rfl rfl ?_))))
 refine wAi rfl rfl (wBj rfl rfl rfl) ?_
 refine js rfl (fun h33 => ?_) (fun h33 => ?_)
 ·refine wAc (jT (wAg rfl (wAd (jT (wAb (wAh (wAb (wAa (sFL rfl rfl ?_)))))))))
  refine jp rfl ?_
  have hk1 : k < ws.length := by omega
  obtain ⟨sb, so, va, vc, e0, hcl, hvc, hvs⟩ := ws_get hs2 hp2 hb2 hk1
  refine wAi rfl rfl (wCe rfl rfl rfl rfl e0 (by omega)) ?_
  refine sFa rfl ?_
  refine wAi rfl rfl (qLd rfl rfl rfl rfl ((hcl 0 _ rfl).cj _)) ?_
  refine js rfl (fun h42 => ?_) (fun h42 => ?_)
  ·iterate 19 refine jp rfl ?_
   refine wAc (jT (wAg rfl (wAb (wAa (jp rfl (wAc (jT (wAe (jBr (jTr (jTr (jBr (jTr (wAr (L' := []) (List.nil_sublist _) ?_))))))))))))))
   refine jr1 rfl rfl ?_
   refine congrArg Value.bool (Eq.symm ?_)
   first | (refine decide_eq_true ⟨by omega, by omega, hall, ?_⟩; obtain rfl : k = ws.length := (by omega); rw [List.take_length] at hallw; exact hallw) | exact decide_eq_false fun h => by have := h.1; have := h.2.1; omega | exact decide_eq_false fun h => by have := h.2.2.1 _ (List.getElem_mem hk1); omega | exact decide_eq_false fun h => by have := h.2.2.2 _ (List.getElem_mem hk1); omega
  refine jp rfl (sFL rfl rfl ?_)
  refine jp rfl (wAi rfl rfl (wCe rfl rfl rfl rfl e0 (by omega)) ?_)
  refine sFa rfl ?_
  refine wAi rfl rfl (qLd rfl rfl rfl rfl ((hcl 0 _ rfl).cj _)) ?_
  refine js rfl (fun h50 => ?_) (fun h50 => ?_)
  ·iterate 11 refine jp rfl ?_
   refine wAc (jT (wAg rfl (wAb (wAa (jp rfl (wAc (jT (wAe (jBr (jTr (jTr (jBr (jTr (wAr (L' := []) (List.nil_sublist _) ?_))))))))))))))
   refine jr1 rfl rfl ?_
   refine congrArg Value.bool (Eq.symm ?_)
   first | (refine decide_eq_true ⟨by omega, by omega, hall, ?_⟩; obtain rfl : k = ws.length := (by omega); rw [List.take_length] at hallw; exact hallw) | exact decide_eq_false fun h => by have := h.1; have := h.2.1; omega | exact decide_eq_false fun h => by have := h.2.2.1 _ (List.getElem_mem hk1); omega | exact decide_eq_false fun h => by have := h.2.2.2 _ (List.getElem_mem hk1); omega
  refine jp rfl (jp rfl (sFL rfl rfl ?_))
  refine jp rfl (wAi rfl rfl (wCe rfl rfl rfl rfl e0 (by omega)) ?_)
  refine sFa rfl ?_
  refine wAi rfl rfl (qLd rfl rfl rfl rfl ((hcl 1 _ rfl).cj _)) ?_
  refine wAi rfl rfl (wBj rfl rfl rfl) ?_
  refine js rfl (fun h60 => ?_) (fun h60 => ?_)
  ·refine jp rfl (wAc (jT (wAg rfl (wAb (wAa (jp rfl (wAc (jT (wAe (jBr (jTr (jTr (jBr (jTr (wAr (L' := []) (List.nil_sublist _) ?_)))))))))))))))
   refine jr1 rfl rfl ?_
   refine congrArg Value.bool (Eq.symm ?_)
   first | (refine decide_eq_true ⟨by omega, by omega, hall, ?_⟩; obtain rfl : k = ws.length := (by omega); rw [List.take_length] at hallw; exact hallw) | exact decide_eq_false fun h => by have := h.1; have := h.2.1; omega | exact decide_eq_false fun h => by have := h.2.2.1 _ (List.getElem_mem hk1); omega | exact decide_eq_false fun h => by have := h.2.2.2 _ (List.getElem_mem hk1); omega
  refine jp rfl (wAc (jT (wAk rfl (wAd (jB (jT (wAa (jp rfl (ja rfl (by omega) ?_)))))))))
  refine jp rfl (wAc ?_)
  refine wAp (k + 1) (.cons (t := 1) rfl (.cons (t := 4) rfl .nil)) ⟨by omega, wJp hk1 hallw ⟨by omega, by omega, by omega⟩⟩ (by omega) (fun _ h => h)
 refine wAc (jT (wAk rfl (wAw (jTx (jTx (jBx (jT (wAb (wAa (jp rfl (wAc (jT (wAe (wAr (L' := []) (List.nil_sublist _) ?_))))))))))))))
 refine jr1 rfl rfl ?_
 refine congrArg Value.bool (Eq.symm ?_)
 first | (refine decide_eq_true ⟨by omega, by omega, hall, ?_⟩; obtain rfl : k = ws.length := (by omega); rw [List.take_length] at hallw; exact hallw) | exact decide_eq_false fun h => by have := h.1; have := h.2.1; omega | exact decide_eq_false fun h => by have := h.2.2.1 _ (List.getElem_mem hk1); omega | exact decide_eq_false fun h => by have := h.2.2.2 _ (List.getElem_mem hk1); omega
theorem rmay7_walk (xs : List By) (a : Option Addr) (c : Nat) (M : Mem) (hs : SM M a (wAj xs)) (hn : xs.length ≤ 1000000) :
  SpecL Tryz.prog 67 #[.slice a xs.length c] M [] fun u _ _ => u = .bool (decide (ctOk xs)) := by
 refine wAf (vs := [_]) 16 _ Tryz.func67 rfl Tryz.ntmps67 rfl rfl ?_; intro W
 refine wAb (wAa (jp rfl (wAc (jT (wAb (wAb (wAa (jp rfl (wAi rfl rfl (wBj rfl rfl rfl) ?_)))))))))
 refine js rfl (fun h6 => ?_) (fun h6 => ?_)
 ·refine wAc (jT (wAg rfl (wAb (wAa (jp rfl (wAc (jT (wAe (jTr (jr1 rfl rfl ?_))))))))))
  rw [decide_eq_false fun h => by have := h.1; omega]
 refine wAc (jT (wAk rfl (wAd (jT (wAb (wAb (wAa (jp rfl (wAc (jT (wAh ?_)))))))))))
 refine wAv (α := Nat) (fun k => [(0, .slice a xs.length c), (3, .int .i64 k)]) (fun _ => M) (fun _ => []) (fun k => k ≤ 8 ∧ ∀ y ∈ xs.take k, y = 0) (fun k => 8 - k)
  0 (.cons (t := 0) rfl (.cons (t := 3) rfl .nil)) ⟨by omega, fun y h => by simp at h⟩ (fun _ h => h) ?_
 rintro k ⟨hk, hall⟩
 try dsimp only at hk hall ⊢
 refine wAb (wAb (wAa (jp rfl (js rfl (fun h8 => ?_) (fun h8 => ?_)))))
 ·refine wAc (jT (wAg rfl (wAd (jT (wAb (wAh (wAb (wAa (jp rfl (jp rfl ?_))))))))))
  have hk1 : k < xs.length := by omega
  obtain ⟨sb, so, e0, hcl⟩ := wCw hs hk1
  refine wAi rfl rfl (wCe rfl rfl rfl rfl e0 (by omega)) ?_
  refine wAi rfl rfl (qLd rfl rfl rfl rfl (hcl.cj _)) ?_
  refine js rfl (fun h15 => ?_) (fun h15 => ?_)
  ·refine wAc (jT (wAg rfl (wAb (wAa (jp rfl (wAc (jT (wAe (jBr (jTr (jTr (jBr (jTr (jr1 rfl rfl ?_))))))))))))))
   rw [decide_eq_false fun h => by
    have h2 := h.2
    unfold wDq at h2; rw [List.all_eq_true] at h2
    have h3 := h2 xs[k] (List.mem_iff_getElem.2 ⟨k, by rw [List.length_take]; omega, by rw [List.getElem_take]⟩)
    have h4 : xs[k] = 0 := by simpa using h3
    exact h15 (by rw [h4]; rfl)]
  refine wAc (jT (wAk rfl (wAd (jB (jT (wAa (jp rfl (ja rfl (by omega) ?_))))))))
  refine jp rfl (wAc ?_)
  refine wAp (k + 1) (.cons (t := 0) rfl (.cons (t := 3) rfl .nil)) ⟨by omega, wJp hk1 hall (UInt8.toNat_inj.1 (by show _ = 0; omega))⟩ (by omega) (fun _ h => h)
 refine wAc (jT (wAk rfl (wAw (jTx (jTx (jBx (jT (wAb (wAa (jp rfl (wAc (jT (wAe (jr1 rfl rfl ?_))))))))))))))
 obtain rfl : k = 8 := by omega
 rw [decide_eq_true ⟨by omega, by unfold wDq; rw [List.all_eq_true]; intro y hy; simpa using hall y hy⟩]
theorem rmay3_spec (bs : List (List By)) (ws : List Wt) (u v : Value) (M : Mem) (h1 : LS M u bs) (h2 : WS M v ws) (hf : few bs ws) : SpecL Tryz.prog 66 #[.agg #[u, v]] M [] fun u _ _ => u = .bool (decide (dkOk bs ws)) := by
 obtain ⟨a1, c1, ps1, rfl, hc1, hs1, hp1, hb1⟩ := h1
 obtain ⟨a2, c2, ps2, rfl, hc2, hs2, hp2, hb2⟩ := h2
 exact rmay3_walk bs ws a1 c1 ps1 a2 c2 ps2 M hc1 hs1 hp1 hb1 hc2 hs2 hp2 hb2 hf
theorem rgreat3_spec (bs : List (List By)) (ws : List Wt) (u v : Value) (M : Mem) (h1 : LS M u bs) (h2 : WS M v ws) : SpecL Tryz.prog 9 #[.agg #[u, v]] M [] fun u _ L' => (∃ b : Bool, u = .bool b ∧ (b = false → few bs ws)) ∧ L' = [] := by
 obtain ⟨a1, c1, ps1, rfl, hc1, hs1, hp1, hb1⟩ := h1
 obtain ⟨a2, c2, ps2, rfl, hc2, hs2, hp2, hb2⟩ := h2
 exact rgreat3_walk bs ws a1 c1 ps1 a2 c2 ps2 M hc1 hs1 hp1 hb1 hc2 hs2 hp2 hb2
theorem rmay7_spec (xs : List By) (v : Value) (M : Mem) (h : BS M v xs) (hn : xs.length ≤ 1000000) : SpecL Tryz.prog 67 #[v] M [] fun u _ _ => u = .bool (decide (ctOk xs)) := by
 obtain ⟨a, c, rfl, _, hs⟩ := h
 exact rmay7_walk xs a c M hs hn
def fewS (s : Sto) : Prop := few s.blocks s.waits ∧ s.now.length ≤ 10000 ∧ s.last.length ≤ 10000
theorem rgreat8_walk (s : Sto) (bv wv nv lv : Value) (M : Mem) (h1 : LS M bv s.blocks) (h2 : WS M wv s.waits) (h3 : BS M nv s.now) (h4 : BS M lv s.last) :
  SpecL Tryz.prog 4 #[.agg #[bv, wv, nv, lv]] M [] fun u _ L' => (∃ b : Bool, u = .bool b ∧ (b = false → fewS s)) ∧ L' = [] := by
 obtain ⟨na, nc, rfl, _⟩ := id h3
 obtain ⟨la, lc, rfl, _⟩ := id h4
 refine wAf (vs := [_]) 18 _ Tryz.func4 rfl Tryz.ntmps4 rfl rfl ?_; intro W
 refine wAb (wAa (wAy rfl rfl (wCm (cs := [_, _, _, _]) rfl rfl rfl rfl) ?_)); rintro _ _ _ ⟨b1, rfl, rfl, rfl⟩
 refine jp rfl (wAc (jT (wAb (wAa (sFa rfl ?_)))))
 refine sLL rfl ?_
 refine wAy rfl rfl (wAu rfl rfl rfl rfl rfl (by kernel_rfl) (rgreat3_spec s.blocks s.waits bv wv M h1 h2)) ?_; rintro _ M1 _ ⟨hM1, _, rfl, ⟨⟨b, rfl, hfw⟩, rfl⟩⟩
 refine jsb rfl (fun h6 => ?_) (fun h6 => ?_)
 ·iterate 12 refine jp rfl ?_
  refine wAc (jT (wAe (wAr (L' := []) (List.nil_sublist _) ?_)))
  refine jr1 rfl rfl ?_
  first | exact ⟨⟨true, rfl, fun h => by cases h⟩, rfl⟩ | exact ⟨⟨_, rfl, fun h => ⟨hfw (by assumption), by have := of_decide_eq_false h; omega, by have := of_decide_eq_false h; omega⟩⟩, rfl⟩
 refine sFL rfl rfl ?_
 refine wAi rfl rfl (wBj rfl rfl rfl) ?_
 refine js rfl (fun h10 => ?_) (fun h10 => ?_)
 ·iterate 8 refine jp rfl ?_
  refine wAc (jT (wAe (wAr (L' := []) (List.nil_sublist _) ?_)))
  refine jr1 rfl rfl ?_
  first | exact ⟨⟨true, rfl, fun h => by cases h⟩, rfl⟩ | exact ⟨⟨_, rfl, fun h => ⟨hfw (by assumption), by have := of_decide_eq_false h; omega, by have := of_decide_eq_false h; omega⟩⟩, rfl⟩
 refine jp rfl (jp rfl (sFL rfl rfl ?_))
 refine wAi rfl rfl (wBj rfl rfl rfl) ?_
 refine jp rfl (jp rfl (jp rfl (wAc (jT (wAe (wAr (L' := []) (List.nil_sublist _) ?_))))))
 refine jr1 rfl rfl ?_
 first | exact ⟨⟨true, rfl, fun h => by cases h⟩, rfl⟩ | exact ⟨⟨_, rfl, fun h => ⟨hfw (by assumption), by have := of_decide_eq_false h; omega, by have := of_decide_eq_false h; omega⟩⟩, rfl⟩
theorem rmay8_walk (s : Sto) (bv wv nv lv : Value) (M : Mem) (h1 : LS M bv s.blocks) (h2 : WS M wv s.waits) (h3 : BS M nv s.now) (h4 : BS M lv s.last) (hf : fewS s) :
  SpecL Tryz.prog 45 #[.agg #[bv, wv, nv, lv]] M [] fun u _ _ => u = .bool (decide (wCc s)) := by
 obtain ⟨f1, f2, f3⟩ := hf
 refine wAf (vs := [_]) 16 _ Tryz.func45 rfl Tryz.ntmps45 rfl rfl ?_; intro W
 refine wAb (wAa (wAy rfl rfl (wCm (cs := [_, _, _, _]) rfl rfl rfl rfl) ?_)); rintro _ _ _ ⟨b1, rfl, rfl, rfl⟩
 refine jp rfl (wAc (jT (wAb (wAa (sFa rfl ?_)))))
 refine sLL rfl ?_
 refine wJj rfl rfl (wBr rfl rfl rfl rfl rfl (by kernel_rfl) (rmay3_spec s.blocks s.waits bv wv M h1 h2 f1)) (fun h5 => ?_) (fun h5 => ?_)
 ·refine jp rfl (sFL rfl rfl ?_)
  refine wJj rfl rfl (wBr rfl rfl rfl rfl rfl (by kernel_rfl) (rmay7_spec s.now nv M h3 (by omega))) (fun h9 => ?_) (fun h9 => ?_)
  ·refine jp rfl (jp rfl (sFL rfl rfl ?_))
   refine wAi rfl rfl (wBr rfl rfl rfl rfl rfl (by kernel_rfl) (rmay7_spec s.last lv M h4 (by omega))) ?_
   refine jp rfl (jp rfl (wAc (jT (wAe (jr1 rfl rfl ?_)))))
   exact congrArg Value.bool (decide_eq_decide.2 ⟨fun h => ⟨of_decide_eq_true h5, of_decide_eq_true h9, h⟩, fun h => h.2.2⟩)
  iterate 7 refine jp rfl ?_
  refine wAc (jT (wAe (jr1 rfl rfl ?_)))
  rw [decide_eq_false fun h : wCc s => (of_decide_eq_false h9) h.2.1]
 iterate 11 refine jp rfl ?_
 refine wAc (jT (wAe (jr1 rfl rfl ?_)))
 rw [decide_eq_false fun h : wCc s => (of_decide_eq_false h5) h.1]
end Go.Proofs.YtkcpllhggofloaaGreat
