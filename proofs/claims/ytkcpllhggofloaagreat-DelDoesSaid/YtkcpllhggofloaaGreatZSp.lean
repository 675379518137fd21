/- Trees of nodes, without a program in sight. No statement of the seat is proved here. -/
import Derived.Test.YtkcpllhggofloaaGreatZLaw
import Derived.Test.YtkcpllhggofloaaGreatZStore
import Derived.Lib.SmallJoins
namespace Go.Proofs.YtkcpllhggofloaaGreat
set_option linter.unusedVariables false
set_option linter.unusedSectionVars false
set_option linter.unusedSimpArgs false
open Go.ChangeShapes Go.WideShapes Go.ChangeAt Go.RowKit Go.Joins
theorem cell_spot {W : World} {a : Addr} {v : Value} (h : W.cell? a = some v) : ∃ c e fz, W.heap[a.block]? = some (.cells c e fz) ∧ a.spot = none ∧ c[a.off]? = some v := by
 unfold World.cell? at h
 split at h
 ·rename_i c e fz hh
  split at h
  ·cases h
  rename_i hs; exact ⟨c, e, fz, hh, by simpa using hs, h⟩
 cases h
theorem add_none {b off j : Nat} : (⟨b, off, none⟩ : Addr).add j = ⟨b, off + j, none⟩ := by unfold Addr.add; split <;> simp_all
theorem sm_cells {W : World} {a : Addr} {cs : List Value} (h : ∀ i u, cs[i]? = some u → W.cell? (a.add i) = some u) : SM (memOf W) (some a) cs := by
 cases cs with
 | nil => exact .inl rfl
 | cons u us =>
  obtain ⟨c0, e0, fz0, hb, hs, _⟩ := cell_spot (h 0 u rfl)
  obtain ⟨b, off, spot⟩ := a
  simp [Addr.add] at hs
  subst hs
  refine .inr ⟨b, off, rfl, fun i v hv => ?_⟩
  obtain ⟨c1, e1, fz1, hb1, _, hg⟩ := cell_spot (h i v hv)
  rw [add_none] at hb1 hg
  exact ⟨c1, e1, fz1, hb1, hg⟩
theorem list_of {α : Type} {p : Nat → α → Prop} : ∀ {n : Nat}, (∀ i, i < n → ∃ x, p i x) → ∃ l : List α, l.length = n ∧ ∀ i (h : i < l.length), p i l[i]
 | 0, _ => ⟨[], rfl, fun i h => absurd h (Nat.not_lt_zero i)⟩
 | n + 1, h => by
  obtain ⟨l, h1, h2⟩ := list_of (n := n) (fun i hi => h i (by omega))
  obtain ⟨x, hx⟩ := h n (by omega)
  refine ⟨l ++ [x], by simp [h1], fun i hi => ?_⟩
  by_cases h3 : i < l.length
  ·rw [List.getElem_append_left h3]; exact h2 i h3
  obtain rfl : i = n := by rw [List.length_append, List.length_singleton] at hi; omega
  rw [List.getElem_append_right (by omega)]; simpa using hx
def bOf (x : Int) : By := UInt8.ofNat x.toNat
theorem bOf_is {x : Int} (h : 0 ≤ x ∧ x < 256) : ((bOf x).toNat : Int) = x := by
 unfold bOf
 rw [UInt8.toNat_ofNat_of_lt' (by show x.toNat < 256; omega)]; omega
section
variable {H : Type} {enc : TypeId × Value → H} {W : World}
theorem open_bs {fuel : Nat} {v : Value} {x : DataW H × List MemPlace} (h : DataW.trod enc Tryz.prog W 0 (fun _ => true) true fuel 26 [v] = some x) : ∃ xs : List By, BS (memOf W) v xs := by
 rcases open_ints Tryz.underlying26 Tryz.underlying5 (by kernel_rfl) h with ⟨h0, _⟩ | ⟨a, len, cap, zs, h0, _, hle, _, hall, _, hcell, hwf⟩
 ·cases h0; exact ⟨[], BS.nil⟩
 cases h0
 simp only [if_true] at hall
 have hw : ∀ n ∈ zs, ((bOf n).toNat : Int) = n := fun n hn => bOf_is (u8_wf (hwf n hn))
 have hl : ((zs.take len).map bOf).length = len := by rw [List.length_map, List.length_take]; omega
 refine ⟨(zs.take len).map bOf, some a, cap, by rw [hl], by rw [hl]; exact hle, sm_cells fun i u hu => ?_⟩
 have hi : i < len := by
  have := (List.getElem?_eq_some_iff.1 hu).1
  rw [wAm, hl] at this; exact this
 rw [hcell i (by omega)]
 simp only [wAj, List.getElem?_map, List.getElem?_take, hi, if_true, List.getElem?_eq_getElem (show i < zs.length by omega), Option.map_some, Option.some.injEq] at hu
 rw [← hu, hw _ (List.getElem_mem _)]
 simp [List.getD, List.getElem?_eq_getElem (show i < zs.length by omega)]
theorem open_ls {fuel : Nat} {v : Value} {x : DataW H × List MemPlace} (h : DataW.trod enc Tryz.prog W 0 (fun _ => true) true fuel 22 [v] = some x) : ∃ bs : List (List By), LS (memOf W) v bs := by
 rcases DataW.trod_slice Tryz.underlying22 h with ⟨h0, _⟩ | ⟨a, len, cap, elems, rest, n, _, h0, _, _, hle, _, hel, hE, _⟩
 ·cases h0; exact ⟨[], none, 0, [], rfl, Nat.le_refl _, SM.nil, rfl, fun _ h => by cases h⟩
 cases h0
 have hc : Tryz.prog.cellsOf 26 = 1 := by kernel_rfl
 rw [hc] at hE
 obtain ⟨ps, hp1, hp2⟩ := list_of (p := fun i (p : List By × Value) => W.cell? (a.add i) = some p.2 ∧ BS (memOf W) p.2 p.1) (n := len) (fun i hi => by
  have h1 := hE i hi
  rw [List.getElem?_eq_getElem (by omega), Option.bind_eq_some_iff, Nat.mul_one] at h1
  obtain ⟨cs, h2, h3⟩ := h1
  obtain ⟨_, h4, h5⟩ := World.cells?_some h2
  obtain ⟨c, rfl⟩ : ∃ c, cs = [c] := by
   match cs, h4 with
   | [c], _ => exact ⟨c, rfl⟩
  obtain ⟨xs, hxs⟩ := open_bs h3
  have h6 := h5 0 (by omega)
  have e0 : (a.add i).add 0 = a.add i := by simp [Addr.add]
  rw [e0] at h6
  exact ⟨(xs, c), h6, hxs⟩)
 refine ⟨ps.map (·.1), some a, cap, ps, by rw [List.length_map, hp1], by rw [List.length_map]; omega, sm_cells fun i u hu => ?_, rfl, fun p hp => ?_⟩
 ·have hi := (List.getElem?_eq_some_iff.1 hu).1
  rw [List.length_map] at hi
  rw [List.getElem?_map, List.getElem?_eq_getElem hi, Option.map_some, Option.some.injEq] at hu
  rw [(hp2 i hi).1, hu]
 obtain ⟨i, hi, rfl⟩ := List.mem_iff_getElem.1 hp
 exact (hp2 i hi).2
theorem open_ws {fuel : Nat} {v : Value} {x : DataW H × List MemPlace} (h : DataW.trod enc Tryz.prog W 0 (fun _ => true) true fuel 23 [v] = some x) : ∃ ws : List Wt, WS (memOf W) v ws := by
 rcases DataW.trod_slice Tryz.underlying23 h with ⟨h0, _⟩ | ⟨a, len, cap, elems, rest, n, _, h0, _, _, hle, _, hel, hE, _⟩
 ·cases h0; exact ⟨[], none, 0, [], rfl, Nat.le_refl _, SM.nil, rfl, fun _ h => by cases h⟩
 cases h0
 have hc : Tryz.prog.cellsOf 41 = 2 := by kernel_rfl
 rw [hc] at hE
 obtain ⟨ps, hp1, hp2⟩ := list_of (p := fun i (p : Wt × Value) => W.cell? ((a.add (i * 2)).add 0) = some (.int .i64 p.1.1) ∧ W.cell? ((a.add (i * 2)).add 1) = some p.2 ∧ BS (memOf W) p.2 p.1.2) (n := len) (fun i hi => by
  have h1 := hE i hi
  rw [List.getElem?_eq_getElem (by omega), Option.bind_eq_some_iff] at h1
  obtain ⟨cs, h2, h3⟩ := h1
  obtain ⟨_, h4, h5⟩ := World.cells?_some h2
  obtain ⟨c0, c1, rfl⟩ : ∃ c0 c1, cs = [c0, c1] := by
   match cs, h4 with
   | [c0, c1], _ => exact ⟨c0, c1, rfl⟩
  obtain ⟨y0, y1, m, _, _, g0, g1⟩ := trod_struct2 Tryz.underlying41 h3
  have g0' : DataW.trod enc Tryz.prog W 0 (fun _ => true) true m 3 [c0] = some y0 := by
   have e : Tryz.prog.cellsOf 3 = 1 := by kernel_rfl
   simpa [e] using g0
  have g1' : DataW.trod enc Tryz.prog W 0 (fun _ => true) true m 26 [c1] = some y1 := by
   have e : Tryz.prog.cellsOf 26 = 1 := by kernel_rfl
   simpa [e] using g1
  obtain ⟨z, e1, -, -⟩ := DataW.trod_int Tryz.underlying3 g0'
  cases e1
  obtain ⟨xs, hxs⟩ := open_bs g1'
  exact ⟨((z, xs), c1), h5 0 (by omega), h5 1 (by omega), hxs⟩)
 have hadd : ∀ (b : Addr) (x y : Nat), (b.add x).add y = b.add (x + y) := fun b x y => by
  obtain ⟨bb, off, sp⟩ := b
  cases sp <;> simp [Addr.add] <;> (try split) <;> (try split) <;> simp_all <;> omega
 refine ⟨ps.map (·.1), some a, cap, ps, by rw [List.length_map, hp1], by rw [List.length_map]; omega, sm_cells fun i u hu => ?_, rfl, fun p hp => ?_⟩
 ·have hi := (List.getElem?_eq_some_iff.1 hu).1
  rw [wBi wCv 2 wDn] at hi
  have hk : i / 2 < ps.length := by omega
  have hij : i = (i / 2) * 2 + i % 2 := by omega
  have hm : i % 2 < 2 := by omega
  have h1 := flat_get wCv 2 wDn ps (i / 2) (i % 2) hm
  rw [← hij, hu, List.getElem?_eq_getElem hk, Option.bind_some] at h1
  obtain ⟨q0, q1, _⟩ := hp2 (i / 2) hk
  rw [hadd] at q0 q1
  have h01 : i % 2 = 0 ∨ i % 2 = 1 := by omega
  rcases h01 with h0 | h0
  ·rw [h0] at h1
   rw [show (i / 2) * 2 + 0 = i by omega] at q0
   rw [q0]; simpa [wCv] using h1.symm
  rw [h0] at h1
  rw [show (i / 2) * 2 + 1 = i by omega] at q1
  rw [q1]; simpa [wCv] using h1.symm
 obtain ⟨i, hi, rfl⟩ := List.mem_iff_getElem.1 hp
 exact (hp2 i hi).2.2
set_option maxRecDepth 100000 in
theorem open_store {base : Nat} {v : Value} {d : DataW H} {p : List MemPlace} (hval : Value.okWide Tryz.prog W .any base 28 v) (h : DataW.Trod enc Tryz.prog W 0 (fun _ => true) true 28 v d p) : ∃ s, ST (memOf W) v s := by
 obtain ⟨cs, rfl, hsz⟩ := okWide_struct Tryz.underlying28 hval
 obtain ⟨c0, c1, c2, c3, rfl⟩ := array4 (hsz.trans (by kernel_rfl))
 obtain ⟨fuel, hf⟩ := h
 obtain ⟨y0, y1, y2, n, _, _, h0, h1, h2⟩ := Go.Deep.trod_struct3 Tryz.underlying28 hf
 have e25 : Tryz.prog.cellsOf 25 = 2 := by kernel_rfl
 have e26 : Tryz.prog.cellsOf 26 = 1 := by kernel_rfl
 have e22 : Tryz.prog.cellsOf 22 = 1 := by kernel_rfl
 have e23 : Tryz.prog.cellsOf 23 = 1 := by kernel_rfl
 have h0' : DataW.trod enc Tryz.prog W 0 (fun _ => true) true n 25 [c0, c1] = some y0 := by simpa [e25, Value.cells] using h0
 have h1' : DataW.trod enc Tryz.prog W 0 (fun _ => true) true n 26 [c2] = some y1 := by simpa [e26, Value.cells] using h1
 have h2' : DataW.trod enc Tryz.prog W 0 (fun _ => true) true n 26 [c3] = some y2 := by simpa [e26, Value.cells] using h2
 obtain ⟨z0, z1, m, _, _, g0, g1⟩ := trod_struct2 Tryz.underlying25 h0'
 have g0' : DataW.trod enc Tryz.prog W 0 (fun _ => true) true m 22 [c0] = some z0 := by simpa [e22] using g0
 have g1' : DataW.trod enc Tryz.prog W 0 (fun _ => true) true m 23 [c1] = some z1 := by simpa [e23] using g1
 obtain ⟨bs, hbs⟩ := open_ls g0'
 obtain ⟨ws, hws⟩ := open_ws g1'
 obtain ⟨ns, hns⟩ := open_bs h1'
 obtain ⟨ls, hls⟩ := open_bs h2'
 exact ⟨⟨bs, ws, ns, ls⟩, ⟨c0, c1, c2, c3, rfl, hbs, hws, hns, hls⟩⟩
set_option maxRecDepth 100000 in
theorem open_key {base : Nat} {v : Value} {d : DataW H} {p : List MemPlace} (hval : Value.okWide Tryz.prog W .any base 31 v) (h : DataW.Trod enc Tryz.prog W 0 (fun _ => true) true 31 v d p) : ∃ k : Ky, v = .agg (wBb k).toArray := by
 obtain ⟨u0, u1, u2, y0, y1, y2, n, rfl, rfl, rfl, g0, g1, g2⟩ := open_agg3 Tryz.underlying31 (by kernel_rfl) (by kernel_rfl) hval h
 obtain ⟨x, e0, -, -⟩ := DataW.trod_int Tryz.underlying5 g0
 cases e0
 obtain ⟨y, e1, -, -⟩ := DataW.trod_int Tryz.underlying29 g1
 cases e1
 obtain ⟨z, e2, -, -⟩ := DataW.trod_int Tryz.underlying29 g2
 cases e2
 exact ⟨⟨x, y, z⟩, rfl⟩
end
end Go.Proofs.YtkcpllhggofloaaGreat
namespace Go.Proofs.YtkcpllhggofloaaGreat
set_option linter.unusedVariables false
set_option linter.unusedSimpArgs false
open Go.RowKit
theorem bww (a : Option Addr) (n c : Nat) (M : Mem) :
  SpecL Tryz.prog 57 #[.slice a n c] M [] fun u M' L' => ∃ b, u = .func (.func 83) #[] #[.pointer (some ⟨b, 0, none⟩)] ∧ M' b = some (.cells #[.slice a n c] 23 (0, 0)) ∧ L' = [] := by
 refine wAf (vs := [_]) 4 _ Tryz.func57 rfl Tryz.ntmps57 rfl rfl ?_; intro W
 refine wAb (wAa (wAy rfl rfl (wCm (cs := [.slice a n c]) rfl rfl rfl rfl) ?_)); rintro _ _ _ ⟨b1, rfl, rfl, rfl⟩
 refine jp rfl (wAc (jT (wAb (wAa (jp rfl (jp rfl (wAc (jT (wAe (wEe b1 (by simp) ?_))))))))))
 intro M1 hM1 e1
 refine jr1 rfl rfl ?_
 exact ⟨b1, rfl, e1, rfl⟩
theorem bww_body (b : Nat) (a : Option Addr) (c : Nat) (xs : List (Wt × Value)) (M : Mem) (hb : M b = some (.cells #[.slice a xs.length c] 23 (0, 0))) (hs : SM M a (xs.flatMap wCv)) (hn : xs.length ≤ 1000000) (l : Nat) (J Jx : List ((Wt × Value) × Nat) → Mem → Lc → Prop) (M1 : Mem) (L0 : Lc) (hM : MLe M M1) (hJ : ∀ pre y M2 L2, MLe M1 M2 → J pre M2 L2 → pre ++ [y] <+: bw xs 0 → RoundL Tryz.prog l ((fun p : (Wt × Value) × Nat => [.int .i64 p.2, .agg (wCv p.1).toArray]) y).toArray M2 L2 fun v M' L' => (v = .bool true ∧ J (pre ++ [y]) M' L') ∨ (v = .bool false ∧ Jx (pre ++ [y]) M' L')) (h0 : J [] M1 L0) :
  SpecL Tryz.prog 83 #[.func (.yield l) #[] #[], .pointer (some ⟨b, 0, none⟩)] M1 L0 fun _ M' L' => J (bw xs 0) M' L' ∨ ∃ pre, pre <+: bw xs 0 ∧ Jx pre M' L' := by
 have hbc : ∀ {M2 : Mem} (L : Lc), MLe M1 M2 → CJ M2 L b 0 (.slice a xs.length c) := fun L h => (CM.cj ⟨_, _, _, h _ _ (hM _ _ hb), rfl⟩ L)
 refine wAf (vs := [_, _]) 19 _ Tryz.func83 rfl Tryz.ntmps83 rfl rfl ?_; intro W
 refine wAb (wAa (wAi rfl rfl (qLd rfl rfl rfl rfl (hbc _ (MLe.refl _))) ?_))
 refine wAi rfl rfl (wBj rfl rfl rfl) ?_
 refine ja rfl (by omega) ?_
 refine jp rfl (wAc (jT (wAh ?_)))
 refine wAv (α := Int × Mem × Lc) (fun x => [(0, .func (.yield l) #[] #[]), (1, .pointer (some ⟨b, 0, none⟩)), (3, .int .i64 x.1)]) (fun x => x.2.1) (fun x => x.2.2) (fun x => -1 ≤ x.1 ∧ x.1 < xs.length ∧ MLe M1 x.2.1 ∧ J (bw xs (x.1 + 1).toNat) x.2.1 x.2.2) (fun x => (x.1 + 1).toNat)
  ((xs.length : Int) - 1, M1, L0) (.cons (t := 0) rfl (.cons (t := 1) rfl (.cons (t := 3) rfl .nil))) ⟨by show -1 ≤ (xs.length : Int) - 1; omega, by show (xs.length : Int) - 1 < xs.length; omega, MLe.refl _, by show J (bw xs ((xs.length : Int) - 1 + 1).toNat) _ _; rw [show ((xs.length : Int) - 1 + 1).toNat = xs.length by omega, bw_len]; exact h0⟩ (fun _ h => h) ?_
 rintro ⟨i, Mk, Lk⟩ ⟨hk0, hk, hMk, hJk⟩
 try dsimp only at hk0 hk hMk hJk ⊢
 refine wAb (wAb (wAa (jp rfl (js rfl (fun hge => ?_) (fun hge => ?_)))))
 ·refine wAc (jT (wAg rfl (wAd (jT (wAb (wAh (wAb (wAa (jp rfl (jp rfl ?_))))))))))
  obtain ⟨k, rfl⟩ : ∃ k : Nat, i = k := ⟨i.toNat, by omega⟩
  have hk1 : k < xs.length := by omega
  obtain ⟨sb, so, e0, hx⟩ := hs.open (by intro e; have := congrArg List.length e; rw [wBi wCv 2 wDn, List.length_nil] at this; omega)
  subst e0
  refine wAi rfl rfl (qLd rfl rfl rfl rfl (hbc _ hMk)) ?_
  refine jp rfl (wAi rfl rfl (wBe rfl rfl rfl rfl (by omega)) ?_)
  refine wAi rfl rfl (wGx (cs := wCv xs[k]) rfl rfl rfl rfl rfl (fun i v hv => ((wKo wCv 2 wDn hx (show xs[k]? = some xs[k] by simp [hk1]) i v hv).mono (hM.trans hMk)).cj _)) ?_
  refine wAy rfl rfl (hYield rfl rfl rfl rfl (hJ (bw xs (k + 1)) (xs[k], k) Mk Lk hMk (by rwa [show ((k : Int) + 1).toNat = k + 1 by omega] at hJk) (by rw [← wJo xs hk1]; exact wFx xs k))) ?_; rintro _ M' _ ⟨hM', R', rfl, hy⟩
  rw [← wJo xs hk1] at hy
  rcases hy with ⟨rfl, hy⟩ | ⟨rfl, hy⟩
  ·refine jp rfl (wAc (jT (wAk rfl (wAd (jB (jT (wAa (jp rfl (ja rfl (by omega) ?_)))))))))
   refine jp rfl (wAc ?_)
   refine wAp ((k : Int) - 1, M', R') (.cons (t := 0) rfl (.cons (t := 1) rfl (.cons (t := 3) rfl .nil))) ⟨by show -1 ≤ (k : Int) - 1; omega, by show (k : Int) - 1 < xs.length; omega, hMk.trans hM', by show J (bw xs ((k : Int) - 1 + 1).toNat) _ _; rw [show ((k : Int) - 1 + 1).toNat = k by omega]; exact hy⟩ (by show ((k : Int) - 1 + 1).toNat < ((k : Int) + 1).toNat; omega) (fun _ h => h.fewer (by simp))
  refine jp rfl (wAc (jT (wAg rfl (wAe (jBr (jTr (jTr (jBr (wAr (L' := R') (by simp) ?_)))))))))
  refine jrs (rs := []) rfl .nil ?_
  exact .inr ⟨_, wFx xs k, hy⟩
 refine wAc (jT (wAk rfl (wAw (jTx (jTx (jBx (jrn ?_)))))))
 refine jrs (rs := []) rfl .nil ?_
 obtain rfl : i = -1 := by omega
 exact .inl hJk
theorem bww_iter (b : Nat) (a : Option Addr) (c : Nat) (xs : List (Wt × Value)) (M : Mem) (hb : M b = some (.cells #[.slice a xs.length c] 23 (0, 0))) (hs : SM M a (xs.flatMap wCv)) (hn : xs.length ≤ 1000000) : Iter Tryz.prog 83 [.pointer (some ⟨b, 0, none⟩)] M (fun p : (Wt × Value) × Nat => [.int .i64 p.2, .agg (wCv p.1).toArray]) (bw xs 0) :=
 fun l J Jx M1 L0 hM hJ h0 => bww_body b a c xs M hb hs hn l J Jx M1 L0 hM hJ h0
theorem clip_spec (a : Option Addr) (n c : Nat) (M : Mem) (h : n ≤ c) (hn : n ≤ 1000000) :
  SpecL Tryz.prog 32 #[.slice a n c] M [] fun v _ _ => v = .slice a n n := by
 refine wAf (vs := [_]) 9 _ Tryz.func32 rfl Tryz.ntmps32 rfl rfl ?_; intro W
 refine wAb (wAa (jp rfl (wAc (jT (wAb (wAa (jp rfl (jp rfl (wAi rfl rfl (wBj rfl rfl rfl) ?_)))))))))
 refine jp rfl (wAi rfl rfl (wBj rfl rfl rfl) ?_)
 refine wAi rfl rfl (qEq (qSl rfl rfl rfl (.of (v := n) rfl (by omega) (by omega)) (.of (v := n) rfl (by omega) (by omega)) (.no _) (by omega) (by simp)) (v' := .slice a n n) (by rw [wCx]; rfl)) ?_
 refine jp rfl (wAc (jT (wAe (jr1 rfl rfl ?_))))
 rfl
abbrev TBn : TypeId := 87
structure BN (M : Mem) (v : Value) (s : Sto) : Prop where
 ex : ∃ p bv wv nv lv, v = .pointer (some ⟨p, 0, none⟩) ∧ M p = some (.cells [bv, wv, nv, lv].toArray TBn (0, 0)) ∧ LS M bv s.blocks ∧ WS M wv s.waits ∧ BS M nv s.now ∧ BS M lv s.last
theorem BN.mono {M M' : Mem} {v : Value} {s : Sto} (h : BN M v s) (hM : MLe M M') : BN M' v s := by
 obtain ⟨p, b, w, n, l, h1, h0, h2, h3, h4, h5⟩ := h.ex; exact ⟨p, b, w, n, l, h1, hM _ _ h0, h2.mono hM, h3.mono hM, h4.mono hM, h5.mono hM⟩
theorem on_own (s : Sto) (bv nv lv : Value) (wa : Option Addr) (wc : Nat) (M : Mem) (hw : s.waits.length ≤ wc) (hwl : s.waits.length ≤ 1000000) (hn : BS M nv s.now) (hnl : s.now.length ≤ 100000) :
  SpecL Tryz.prog 15 #[.agg #[bv, .slice wa s.waits.length wc, nv, lv]] M [] fun u M' L' => ∃ b R na nc, u = .pointer (some ⟨b, 0, none⟩) ∧ L' = (b, .cells [bv, .slice wa s.waits.length s.waits.length, .slice na s.now.length nc, lv].toArray TBn (0, 0)) :: R ∧ Own (.slice na s.now.length nc) R 5 1 s.now.length (wAj s.now) := by
 refine wAf (vs := [_]) 16 _ Tryz.func15 rfl Tryz.ntmps15 rfl rfl ?_; intro W
 refine wAb (wAa (wAy rfl rfl (wCm (cs := [_, _, _, _]) rfl rfl rfl rfl) ?_)); rintro _ _ _ ⟨b1, rfl, rfl, rfl⟩
 refine jp rfl (wAc (jT (wAb (wAa (sFL rfl rfl ?_)))))
 refine wAy rfl rfl (wAu rfl rfl rfl rfl rfl (by kernel_rfl) (wGt nv s.now M hn hnl)) ?_; rintro _ M1 _ ⟨hM1, R5, rfl, hown⟩
 obtain ⟨na, nc, rfl⟩ := hown.form
 refine sFa rfl ?_
 refine sSt rfl ?_
 refine wAc (jT (wAb (wAa (sFa rfl ?_))))
 refine sFL rfl rfl ?_
 refine wAi rfl rfl (wBr rfl rfl rfl rfl rfl (by kernel_rfl) (clip_spec wa s.waits.length wc M1 hw hwl)) ?_
 refine sFF rfl rfl ?_
 refine sSt rfl ?_
 refine wAc (jT (wAb (wAa (sLL rfl ?_))))
 refine wAi rfl rfl (wBa (cs := [_, _, _, _]) rfl rfl rfl (by rfl)) ?_
 refine wAy rfl rfl (wCm (cs := [_, _, _, _]) rfl rfl rfl rfl) ?_; rintro _ _ _ ⟨b15, rfl, rfl, rfl⟩
 refine jp rfl (wAc (jT (wAe (wAr (L' := (b15, .cells [bv, .slice wa s.waits.length s.waits.length, .slice na s.now.length nc, lv].toArray TBn (0, 0)) :: R5) (by simp) ?_))))
 refine jr1 rfl rfl ?_
 exact ⟨b15, R5, na, nc, rfl, rfl, hown⟩
theorem on_ro (s : Sto) (bv nv lv : Value) (wa : Option Addr) (wc : Nat) (M : Mem) (hw : s.waits.length ≤ wc) (hwl : s.waits.length ≤ 1000000) (hn : BS M nv s.now) (hnl : s.now.length ≤ 100000) :
  SpecL Tryz.prog 15 #[.agg #[bv, .slice wa s.waits.length wc, nv, lv]] M [] fun u M' L' => (∃ b na nc, u = .pointer (some ⟨b, 0, none⟩) ∧ M' b = some (.cells [bv, .slice wa s.waits.length s.waits.length, .slice na s.now.length nc, lv].toArray TBn (0, 0)) ∧ BS M' (.slice na s.now.length nc) s.now) ∧ L' = [] := by
 refine wAf (vs := [_]) 16 _ Tryz.func15 rfl Tryz.ntmps15 rfl rfl ?_; intro W
 refine wAb (wAa (wAy rfl rfl (wCm (cs := [_, _, _, _]) rfl rfl rfl rfl) ?_)); rintro _ _ _ ⟨b1, rfl, rfl, rfl⟩
 refine jp rfl (wAc (jT (wAb (wAa (sFL rfl rfl ?_)))))
 refine wAy rfl rfl (wAu rfl rfl rfl rfl rfl (by kernel_rfl) (wGt nv s.now M hn hnl)) ?_; rintro _ M1 _ ⟨hM1, R5, rfl, hown⟩
 obtain ⟨na, nc, rfl⟩ := hown.form
 refine sFa rfl ?_
 refine sSt rfl ?_
 refine wAc (jT (wAb (wAa (sFa rfl ?_))))
 refine sFL rfl rfl ?_
 refine wAi rfl rfl (wBr rfl rfl rfl rfl rfl (by kernel_rfl) (clip_spec wa s.waits.length wc M1 hw hwl)) ?_
 refine sFF rfl rfl ?_
 refine sSt rfl ?_
 refine wAc (jT (wAb (wAa (sLL rfl ?_))))
 refine wAi rfl rfl (wBa (cs := [_, _, _, _]) rfl rfl rfl (by rfl)) ?_
 refine wAy rfl rfl (wCm (cs := [_, _, _, _]) rfl rfl rfl rfl) ?_; rintro _ _ _ ⟨b15, rfl, rfl, rfl⟩
 refine jp rfl (wAc (jT (wAe (wGy hown (by simp) ?_))))
 intro M2 a2 c2 hM2 e2 hc2 hs2; cases e2
 refine wEe b15 (by simp) ?_
 intro M3 hM3 e3
 refine wAr (L' := []) (by simp) ?_
 refine jr1 rfl rfl ?_
 exact ⟨⟨b15, _, _, rfl, e3, ⟨_, _, rfl, hc2, hs2.mono hM3⟩⟩, rfl⟩
theorem on_spec (s : Sto) (v : Value) (M : Mem) (h : ST M v s) (hwl : s.waits.length ≤ 1000000) (hnl : s.now.length ≤ 100000) :
  SpecL Tryz.prog 15 #[v] M [] fun u M' L' => (∀ M0, MLe M' M0 → MLe M M0 → BN M0 u s) ∧ L' = [] := by
 obtain ⟨b, w, n, l, rfl, h1, ⟨wa, wc, ps, rfl, hwc, hws, hp, hb⟩, h3, h4⟩ := h.ex
 refine (on_ro s b n l wa wc M hwc hwl h3 hnl).mono fun u M' L' hh => ?_
 obtain ⟨⟨p, na, nc, rfl, hp', hn'⟩, rfl⟩ := hh
 exact ⟨fun M0 k1 k2 => ⟨p, b, _, _, l, rfl, k1 _ _ hp', h1.mono k2, ⟨wa, _, ps, rfl, Nat.le_refl _, hws.mono k2, hp, fun p hp => (hb p hp).mono k2⟩, hn'.mono k1, h4.mono k2⟩, rfl⟩
def seen (s : Sto) (k : Nat) : List By := match s.waits.reverse.find? (fun w => w.1 == (k : Int)) with
 | some w => w.2
 | none => s.blocks.getD k []
def wBk (s : Sto) (k : Nat) : Option (Int × List It) := if s.now.getD k 0 = 0 then none else wDg (seen s k)
def BnPost (s : Sto) (k : Nat) (u : Value) (M' : Mem) : Prop := match wBk s k with
 | some (lv, xs) => ∃ sl, u = .tuple #[.agg #[.int .i64 lv, sl], .int .i64 0] ∧ NS M' sl xs
 | none => u = .tuple #[.agg zeroNd.toArray, .int .i64 8]
theorem NdPost.form {blk : List By} {u : Value} {M' : Mem} (h : NdPost blk u M') : ∃ lv a n c e, u = .tuple #[.agg #[.int .i64 lv, .slice a n c], .int .i64 e] ∧ ((e ≠ 0 ∧ wDg blk = none) ∨ (e = 0 ∧ ∃ xs, wDg blk = some (lv, xs) ∧ NS M' (.slice a n c) xs)) := by
 unfold NdPost at h
 split at h
 ·rename_i lv xs hr
  obtain ⟨sl, rfl, hns⟩ := h
  obtain ⟨a, c, ps, rfl, h1, h2, h3, h4⟩ := id hns
  exact ⟨lv, a, _, c, 0, rfl, .inr ⟨rfl, xs, hr, hns⟩⟩
 rename_i hr
 obtain ⟨e, he, rfl⟩ := h
 exact ⟨0, none, 0, 0, e, rfl, .inl ⟨he, hr⟩⟩
theorem wCp {α : Type} {xs : List α} {k : Nat} (h : k < xs.length) (d : α) : xs.getD k d = xs[k] := by simp [List.getD, h]
theorem seen_none {s : Sto} {k : Nat} {ps : List (Wt × Value)} (hp : ps.map (·.1) = s.waits) (h : ∀ p ∈ bw ps 0, p.1.1.1 ≠ (k : Int)) : seen s k = s.blocks.getD k [] := by
 unfold seen
 have : s.waits.reverse.find? (fun w => w.1 == (k : Int)) = none := by
  rw [List.find?_eq_none]
  intro w hw
  rw [← hp, ← List.map_reverse, ← bw_fst, List.map_map] at hw
  obtain ⟨p, hp1, rfl⟩ := List.mem_map.1 hw
  simpa using h p hp1
 rw [this]
theorem seen_some {s : Sto} {k : Nat} {ps : List (Wt × Value)} (hp : ps.map (·.1) = s.waits) {pre : List ((Wt × Value) × Nat)} {y : (Wt × Value) × Nat} (hpre : pre ++ [y] <+: bw ps 0) (h : ∀ p ∈ pre, p.1.1.1 ≠ (k : Int)) (hy : y.1.1.1 = (k : Int)) : seen s k = y.1.1.2 := by
 unfold seen
 obtain ⟨r, hr⟩ := hpre
 have : s.waits.reverse.find? (fun w => w.1 == (k : Int)) = some y.1.1 := by
  rw [← hp, ← List.map_reverse, ← bw_fst, List.map_map, ← hr, List.map_append, List.map_append, List.append_assoc, List.find?_append, List.find?_eq_none.2]
  ·simp [hy]
  intro w hw
  obtain ⟨p, hp1, rfl⟩ := List.mem_map.1 hw
  simpa using h p hp1
 rw [this]
theorem seen_len {s : Sto} (h : wCc s) {k : Nat} (hk : k < 256) : (seen s k).length = 128 := by
 obtain ⟨⟨h1, h2, h3, h4⟩, _⟩ := h
 unfold seen
 split
 ·rename_i w hw
  exact (h4 w (List.mem_reverse.1 (List.mem_of_find?_eq_some hw))).2.2
 rw [wCp (by omega)]; exact h3 _ (List.getElem_mem _)
theorem bw_mem {α : Type} {xs : List α} {y : α × Nat} (h : y ∈ bw xs 0) : y.1 ∈ xs := by
 have : y.1 ∈ (bw xs 0).map (·.1) := List.mem_map_of_mem h
 rw [bw_fst] at this; exact List.mem_reverse.1 this
set_option maxHeartbeats 2000000 in
theorem bnode_walk (s : Sto) (k : Nat) (hk : k < 256) (hst : wCc s) (p : Nat) (bv nv lv : Value) (wa : Option Addr) (wc : Nat) (ps : List (Wt × Value)) (M : Mem) (hpm : M p = some (.cells [bv, .slice wa s.waits.length wc, nv, lv].toArray TBn (0, 0))) (h1 : LS M bv s.blocks) (hwc : s.waits.length ≤ wc) (hws : SM M wa (ps.flatMap wCv)) (hp : ps.map (·.1) = s.waits) (hb : ∀ q ∈ ps, BS M q.2 q.1.2) (h3 : BS M nv s.now) :
  SpecL Tryz.prog 28 #[.pointer (some ⟨p, 0, none⟩), .int .i64 k] M [] fun u M' L' => BnPost s k u (wEn M M') ∧ L' = [] := by
 have hp0 : ∀ {M2 : Mem} (L : Lc) (i : Nat) (v : Value), MLe M M2 → [bv, .slice wa s.waits.length wc, nv, lv][i]? = some v → CJ M2 L p i v := fun L i v h hv => (CM.cj ⟨_, _, _, h _ _ hpm, by simpa using hv⟩ L)
 obtain ⟨⟨hq1, hq2, hq3, hq4⟩, ⟨hn1, _⟩, _⟩ := id hst
 obtain ⟨na, nc, rfl, hnc, hns⟩ := h3
 obtain ⟨nb, no, e0, hnx⟩ := hns.open (by intro e; have := congrArg List.length e; rw [wAm, List.length_nil] at this; omega)
 subst e0
 obtain ⟨ba, bc, ps1, rfl, hbc, hbs, hbp, hbb⟩ := h1
 obtain ⟨bb, bo, e0, hbx⟩ := hbs.open (by intro e; have := congrArg List.length e; rw [List.length_map, List.length_nil] at this; have h2 := congrArg List.length hbp; rw [List.length_map] at h2; omega)
 subst e0
 obtain ⟨va, vc, hcl, hvc, hvs⟩ := wEy hbx hbp hbb (k := k) (by omega)
 refine wAf (vs := [_, _]) 54 _ Tryz.func28 rfl Tryz.ntmps28 rfl rfl ?_; intro W
 refine wAb (wAa (wAy rfl rfl (wCm (cs := [.int .i64 k]) rfl rfl rfl rfl) ?_)); rintro _ _ _ ⟨b3, rfl, rfl, rfl⟩
 refine sAl rfl fun b4 => ?_
 refine jp rfl (wAc (jT (wAb (wAb (wBp [(0, true), (1, true), (2, true), (3, true), (4, true), (5, true), (6, true), (7, true), (8, true)] _ (by kernel_rfl) (by kernel_rfl) (by kernel_rfl) rfl (fun _ h => h) ?_)))))
 refine dp rfl rfl ?_
 refine wBq rfl rfl rfl (wBw rfl rfl rfl) ?_
 refine dFa rfl rfl ?_
 refine dFa rfl rfl ?_
 refine wBq rfl rfl rfl (qLd rfl rfl rfl rfl (hp0 _ 2 _ (by first | exact MLe.refl _ | assumption) rfl)) ?_
 refine dLd rfl rfl ?_
 refine wBq rfl rfl rfl (wBe rfl rfl rfl rfl (by omega)) ?_
 refine wBq rfl rfl rfl (qLd rfl rfl rfl rfl ((hnx _ _ (by rw [Nat.mul_one]; exact wHy (j := k) (by omega))).cj _)) ?_
 refine ds rfl rfl (fun h19 => ?_) (fun h19 => ?_)
 ·refine wBd (jPn (jT (wAg rfl (wAb (wAa (wAi rfl rfl (wBa (cs := [_, _]) rfl rfl rfl (by rfl)) ?_))))))
  refine sSt rfl ?_
  refine jp rfl (wAc (jT (wAe (jTr (wDa (rs := [_, _]) ([]) (by simp) rfl (.cons (.agg rfl rfl rfl) (.cons (.tmp rfl) .nil)) ?_)))))
  refine ⟨?_, rfl⟩
  unfold BnPost wBk; rw [if_pos (UInt8.toNat.inj (by simpa using h19))]; rfl
 refine wBd (jPn (jT (wAk rfl (wAd (jT (wAb (wBp [(0, true), (1, true), (2, true), (3, true), (4, true), (5, true), (6, true), (7, true), (8, true), (9, false), (10, false)] _ (by kernel_rfl) (by kernel_rfl) (by kernel_rfl) rfl (fun _ h => h) ?_)))))))
 refine dp rfl rfl ?_
 refine wBq rfl rfl rfl (wBw rfl rfl rfl) ?_
 refine dFa rfl rfl ?_
 refine dFa rfl rfl ?_
 refine dFa rfl rfl ?_
 refine wBq rfl rfl rfl (qLd rfl rfl rfl rfl (hp0 _ 0 _ (by first | exact MLe.refl _ | assumption) rfl)) ?_
 refine dLd rfl rfl ?_
 refine wBq rfl rfl rfl (wBe rfl rfl rfl rfl (by omega)) ?_
 refine wBq rfl rfl rfl (qLd rfl rfl rfl rfl (hcl.cj _)) ?_
 refine wHc rfl rfl rfl (wDy rfl rfl) ?_; rintro _ _ _ ⟨b6, rfl, rfl, rfl⟩
 refine wGn (MLe.refl _) (fun _ h => List.mem_cons_of_mem _ h) (by first | exact MLe.refl _ | assumption) (by simp) ?_
 refine jd_s rfl rfl (wBm rfl rfl rfl rfl rfl rfl rfl rfl) ?_; rintro _ _ _ ⟨rfl, rfl⟩
 refine wGn (MLe.refl _) (fun _ h => List.mem_cons_of_mem _ h) (by first | exact MLe.refl _ | assumption) (by simp) ?_
 refine wBd (jPn (jT (wAb (wAb (wAa (jp rfl (wAi rfl rfl (wBw rfl rfl rfl) ?_)))))))
 refine sFF rfl rfl ?_
 refine sFa rfl ?_
 refine wAi rfl rfl (qLd rfl rfl rfl rfl (hp0 _ 1 _ (by first | exact MLe.refl _ | assumption) rfl)) ?_
 refine wAy rfl rfl (wAu rfl rfl rfl rfl rfl (by kernel_rfl) (bww _ _ _ M)) ?_; rintro _ M1 _ ⟨hM1, _, rfl, ⟨b36, rfl, e36, rfl⟩⟩
 have hpl : ps.length = s.waits.length := by rw [← hp, List.length_map]
 rw [← hpl] at e36
 refine wAc (jT (wAh (wHk b3 (by simp) ?_)))
 intro M1f hM1f e3
 replace e36 := hM1f _ _ e36
 replace hM1 := hM1.trans hM1f
 refine wLq (R := [(b6, .cells [.slice va s.blocks[k].length vc].toArray 26 (0, 0))]) (xs := bw ps 0) (enc := (fun p : (Wt × Value) × Nat => [.int .i64 p.2, .agg (wCv p.1).toArray])) (ps := [37, 38]) rfl (by kernel_rfl) (bww_iter b36 wa wc ps M1f e36 (hws.mono hM1) (by omega))
  (fun pre _ R => R = [(b6, .cells [.slice va s.blocks[k].length vc].toArray 26 (0, 0))] ∧ ∀ q ∈ pre, q.1.1.1 ≠ (k : Int))
  (fun c _ M' R => c = .exit 0 ∧ ∃ v, R = [(b6, .cells [v].toArray 26 (0, 0))] ∧ BS M' v (seen s k))
  (fun _ => rfl) (by decide) ⟨rfl, fun _ h => by cases h⟩ ?_ ?_ ?_
 ·intro l W2 pre y M2 R2 hM2 hI hpre
  obtain ⟨rfl, hI⟩ := hI
  have hym : y.1 ∈ ps := bw_mem (hpre.subset (by simp))
  obtain ⟨⟨yw, yv⟩, yi⟩ := y
  have hyb := hb _ hym
  obtain ⟨ya, yc, hyv, hyc, hys⟩ := id hyb
  change yv = Value.slice ya yw.2.length yc at hyv; subst hyv
  refine wAa (sAl rfl fun b8 => ?_)
  refine sSt rfl ?_
  refine wAc (jK fun W' => ?_)
  refine wAh (wAb (wAa (sFL rfl rfl ?_)))
  refine wAi rfl rfl (qLd rfl rfl rfl rfl (CM.cj ⟨_, _, _, hM2 _ _ e3, rfl⟩ _)) ?_
  refine js rfl (fun h42 => ?_) (fun h42 => ?_)
  ·refine wAc (jT (wAg rfl (wAb (wAa (sFL rfl rfl ?_)))))
   refine sSt rfl ?_
   refine wAc (jT (wAw (jBo rfl ?_)))
   refine wAr (L' := [(b6, .cells [.slice ya yw.2.length yc].toArray 26 (0, 0))]) (by simp) ?_
   refine jQx ?_
   refine ⟨rfl, _, rfl, ?_⟩
   rw [seen_some hp hpre hI h42]
   exact hyb.mono (hM1.trans hM2)
  refine wAc (jT (wAk rfl (wAd (jB (wAr (L' := [(b6, .cells [.slice va s.blocks[k].length vc].toArray 26 (0, 0))]) (by simp) ?_)))))
  refine jQn ?_
  refine ⟨rfl, fun q hq => ?_⟩
  rcases List.mem_append.1 hq with hq | hq
  ·exact hI q hq
  rw [List.mem_singleton.1 hq]; exact h42
 ·intro d M2 R2 hM2 hI
  obtain ⟨rfl, hI⟩ := hI
  have hsn := seen_none hp hI
  rw [wCp (by omega)] at hsn
  obtain ⟨v6, hv6e⟩ : ∃ v6, v6 = Value.slice va s.blocks[k].length vc := ⟨_, rfl⟩
  have hv6 : BS M2 v6 (seen s k) := by rw [hsn, hv6e]; exact ⟨va, vc, rfl, hvc, hvs.mono (hM1.trans hM2)⟩
  rw [← hv6e]
  refine jB (jT (wAb (wAa (sLd rfl ?_))))
  refine wAy rfl rfl (wAu rfl rfl rfl rfl rfl (by kernel_rfl) (nread_new v6 (seen s k) M2 hv6 (by rw [seen_len hst hk]; omega))) ?_; rintro _ M3 _ ⟨hM3, _, rfl, ⟨hnd, rfl⟩⟩
  replace hnd := hnd.mono (wHi (hM1.trans hM2) : MLe _ (wEn M M3))
  obtain ⟨nl, la, ln, lc, e, rfl, hnd2⟩ := NdPost.form hnd
  refine jp rfl (jp rfl (jp rfl (sAl rfl fun b9 => ?_)))
  refine sSt rfl ?_
  refine jp rfl (wAc (jT (wAb (wAb (wAa (jp rfl (js rfl (fun h51 => ?_) (fun h51 => ?_))))))))
  ·refine wAc (jT (wAg rfl (wAb (wAa (wAi rfl rfl (wBa (cs := [_, _]) rfl rfl rfl (by rfl)) ?_)))))
   refine sSt rfl ?_
   refine jp rfl (wAc (jT (wAe (jTr (wFq (L2 := _) Rm.perm ?_)))))
   refine wDa (rs := [_, _]) ([]) (by simp) rfl (.cons (.agg rfl rfl rfl) (.cons (.tmp rfl) .nil)) ?_
   refine ⟨?_, rfl⟩
   have hne : ¬ s.now.getD k 0 = 0 := fun e => h19 (by rw [e]; rfl)
   unfold BnPost wBk; rw [if_neg hne]
   rcases hnd2 with ⟨he, hr⟩ | ⟨rfl, xs, hr, hns⟩
   ·rw [hr]; first | rfl | exact absurd he h51
   rw [hr]; first | exact ⟨_, rfl, hns⟩ | exact absurd rfl h51
  refine wAc (jT (wAk rfl (wAd (jT (wAb (wAa (sLL rfl ?_)))))))
  refine sSt rfl ?_
  refine jp rfl (wAc (jT (wAe (wFq (L2 := _) Rm.perm ?_))))
  refine wDa (rs := [_, _]) ([]) (by simp) rfl (.cons (.agg rfl rfl rfl) (.cons (.tmp rfl) .nil)) ?_
  refine ⟨?_, rfl⟩
  have hne : ¬ s.now.getD k 0 = 0 := fun e => h19 (by rw [e]; rfl)
  unfold BnPost wBk; rw [if_neg hne]
  rcases hnd2 with ⟨he, hr⟩ | ⟨rfl, xs, hr, hns⟩
  ·rw [hr]; first | rfl | exact absurd he h51
  rw [hr]; first | exact ⟨_, rfl, hns⟩ | exact absurd rfl h51
 intro d c pre M2 R2 hM2 hpre hI
 obtain ⟨rfl, v6, rfl, hv6⟩ := hI
 refine wAw (jBx (jT (wAb (wAa (sLd rfl ?_)))))
 refine wAy rfl rfl (wAu rfl rfl rfl rfl rfl (by kernel_rfl) (nread_new v6 (seen s k) M2 hv6 (by rw [seen_len hst hk]; omega))) ?_; rintro _ M3 _ ⟨hM3, _, rfl, ⟨hnd, rfl⟩⟩
 replace hnd := hnd.mono (wHi (hM1.trans hM2) : MLe _ (wEn M M3))
 obtain ⟨nl, la, ln, lc, e, rfl, hnd2⟩ := NdPost.form hnd
 refine jp rfl (jp rfl (jp rfl (sAl rfl fun b9 => ?_)))
 refine sSt rfl ?_
 refine jp rfl (wAc (jT (wAb (wAb (wAa (jp rfl (js rfl (fun h51 => ?_) (fun h51 => ?_))))))))
 ·refine wAc (jT (wAg rfl (wAb (wAa (wAi rfl rfl (wBa (cs := [_, _]) rfl rfl rfl (by rfl)) ?_)))))
  refine sSt rfl ?_
  refine jp rfl (wAc (jT (wAe (jTr (wFq (L2 := _) Rm.perm ?_)))))
  refine wDa (rs := [_, _]) ([]) (by simp) rfl (.cons (.agg rfl rfl rfl) (.cons (.tmp rfl) .nil)) ?_
  refine ⟨?_, rfl⟩
  have hne : ¬ s.now.getD k 0 = 0 := fun e => h19 (by rw [e]; rfl)
  unfold BnPost wBk; rw [if_neg hne]
  rcases hnd2 with ⟨he, hr⟩ | ⟨rfl, xs, hr, hns⟩
  ·rw [hr]; first | rfl | exact absurd he h51
  rw [hr]; first | exact ⟨_, rfl, hns⟩ | exact absurd rfl h51
 refine wAc (jT (wAk rfl (wAd (jT (wAb (wAa (sLL rfl ?_)))))))
 refine sSt rfl ?_
 refine jp rfl (wAc (jT (wAe (wFq (L2 := _) Rm.perm ?_))))
 refine wDa (rs := [_, _]) ([]) (by simp) rfl (.cons (.agg rfl rfl rfl) (.cons (.tmp rfl) .nil)) ?_
 refine ⟨?_, rfl⟩
 have hne : ¬ s.now.getD k 0 = 0 := fun e => h19 (by rw [e]; rfl)
 unfold BnPost wBk; rw [if_neg hne]
 rcases hnd2 with ⟨he, hr⟩ | ⟨rfl, xs, hr, hns⟩
 ·rw [hr]; first | rfl | exact absurd he h51
 rw [hr]; first | exact ⟨_, rfl, hns⟩ | exact absurd rfl h51
theorem BnPost.mono {s : Sto} {k : Nat} {u : Value} {M M' : Mem} (h : BnPost s k u M) (hM : MLe M M') : BnPost s k u M' := by
 unfold BnPost at *
 split at h
 ·obtain ⟨s, e, h2⟩ := h; exact ⟨s, e, h2.mono hM⟩
 exact h
theorem bnode_new (s : Sto) (k : Nat) (v : Value) (M : Mem) (hst : wCc s) (hk : k < 256) (h : BN M v s) : SpecL Tryz.prog 28 #[v, .int .i64 k] M [] fun u M' L' => BnPost s k u (wEn M M') ∧ L' = [] := by
 obtain ⟨p, b, w, n, l, rfl, hpm, h1, ⟨wa, wc, ps, rfl, hwc, hws, hp, hb⟩, h3, h4⟩ := h.ex
 exact bnode_walk s k hk hst p b n l wa wc ps M hpm h1 hwc hws hp hb h3
theorem bnode_spec (s : Sto) (k : Nat) (v : Value) (M : Mem) (hst : wCc s) (hk : k < 256) (h : BN M v s) : SpecL Tryz.prog 28 #[v, .int .i64 k] M [] fun u M' L' => BnPost s k u M' ∧ L' = [] :=
 (bnode_new s k v M hst hk h).mono fun _ _ _ ⟨h1, h2⟩ => ⟨h1.mono (wGf _ _), h2⟩
end Go.Proofs.YtkcpllhggofloaaGreat
namespace Go.Proofs.YtkcpllhggofloaaGreat
set_option linter.unusedVariables false
set_option linter.unusedSimpArgs false
open Go.RowKit
structure Sp where
 first : Ky
 last : Ky
 is : Bool
abbrev spc (p : Sp) : List Value := [.int .u8 p.first.kind, .int .u32 p.first.id, .int .u32 p.first.off, .int .u8 p.last.kind, .int .u32 p.last.id, .int .u32 p.last.off, .bool p.is]
def wKs : Sp := ⟨⟨0, 0, 0⟩, ⟨0, 0, 0⟩, false⟩
def wBs (one : Sp) (o : Option Sp) (x : It) : Bool := one.is && decide (one.first = x.key) && (match o with | none => true | some p => wBf p.last one.first)
def wEd (one : Sp) (o : Option Sp) : Sp := ⟨(match o with | none => one.first | some p => p.first), one.last, true⟩
def wEf (f : It → Sp) : Option Sp → List It → Sp
 | o, [] => o.getD wKs
 | o, x :: xs => if wBs (f x) o x then wEf f (some (wEd (f x) o)) xs else wKs
def wBu (s : Sto) : Nat → It → Sp
 | 0, x => ⟨x.key, x.key, decide (x.ref = 0) || decide (0 < ((s.now.getD x.ref.toNat 0).toNat : Int))⟩
 | l + 1, x => match wBk s x.ref.toNat with
  | some (lv, ys) => if lv = (l : Int) ∧ ys ≠ [] then wEf (wBu s l) none ys else wKs
  | none => wKs
theorem wGq {f : It → Sp} {o : Option Sp} {xs : List It} {k : Nat} (hk : k < xs.length) (hI : wEf f none xs = wEf f o (xs.drop k)) (h : wBs (f xs[k]) o xs[k] = false) : wEf f none xs = wKs := by
 rw [hI, List.drop_eq_getElem_cons hk, wEf, if_neg (by rw [h]; decide)]
theorem go_on {f : It → Sp} {o : Option Sp} {xs : List It} {k : Nat} (hk : k < xs.length) (hI : wEf f none xs = wEf f o (xs.drop k)) (h : wBs (f xs[k]) o xs[k] = true) : wEf f none xs = wEf f (some (wEd (f xs[k]) o)) (xs.drop (k + 1)) := by
 rw [hI, List.drop_eq_getElem_cons hk, wEf, if_pos h]
theorem go_end {f : It → Sp} {o : Option Sp} {xs : List It} {k : Nat} (hk : k = xs.length) (hI : wEf f none xs = wEf f o (xs.drop k)) : wEf f none xs = o.getD wKs := by
 rw [hI, List.drop_eq_nil_of_le (by omega), wEf]
theorem step_none {s : Sto} {l : Nat} {x : It} {o : Option Sp} (h : wBk s x.ref.toNat = none) : wBs (wBu s (l + 1) x) o x = false := by simp only [wBu, h]; simp [wBs, wKs]
theorem step_some {s : Sto} {l : Nat} {x : It} {o : Option Sp} {lv : Int} {ys : List It} (h : wBk s x.ref.toNat = some (lv, ys)) (hn : ¬ (lv = (l : Int) ∧ ys ≠ [])) : wBs (wBu s (l + 1) x) o x = false := by
 simp only [wBu, h]; rw [if_neg hn]; simp [wBs, wKs]
theorem wDh : ∀ {ab : Bool} {p : Option Ky} {xs : List It}, wCj ab p xs = true → ∀ x ∈ xs, wDu x = false ∧ (ab = true → x.ref ≠ 0 ∧ x.val = [])
 | _, _, [], _, x, hx => by cases hx
 | ab, p, y :: ys, h, x, hx => by
  simp only [wCj, Bool.and_eq_true, Bool.not_eq_true', Bool.or_eq_true] at h
  rcases List.mem_cons.1 hx with rfl | hx
  ·refine ⟨h.1.1.1, fun ha => ?_⟩
   rcases h.1.2 with h2 | h2
   ·rw [ha] at h2; cases h2
   refine ⟨by simpa using h2.1, ?_⟩
   have h3 := h2.2
   exact List.eq_nil_of_length_eq_zero (by simpa using h3)
  exact wDh h.2 x hx
structure NdOk (lv : Int) (xs : List It) : Prop where
 lev : 0 ≤ lv ∧ lv < 6
 len : xs.length ≤ 5
 ref : ∀ x ∈ xs, x.ref = 0 ∨ 8 ≤ x.ref ∧ x.ref < 256
 up : 0 < lv → ∀ x ∈ xs, x.ref ≠ 0
 ok : wCj (decide (0 < lv)) none xs = true
theorem NdOk.of {lv : Int} {xs : List It} (h : wEv lv xs = true) : NdOk lv xs := by
 unfold wEv at h
 rw [Bool.and_eq_true, decide_eq_true_eq] at h
 refine ⟨⟨h.1.1, h.1.2.1⟩, h.1.2.2.1, fun x hx => ?_, fun hl x hx => ((wDh h.2 x hx).2 (by simpa using hl)).1, h.2⟩
 have := (wDh h.2 x hx).1
 unfold wDu at this
 have := of_decide_eq_false this
 omega
theorem rdNode_ok {blk : List By} {lv : Int} {xs : List It} (h : wDg blk = some (lv, xs)) : NdOk lv xs := by
 unfold wDg at h
 split at h
 ·split at h
  ·split at h
   ·split at h
    ·rename_i hh
     cases h
     refine NdOk.of ?_
     have := hh.1
     unfold wEp at this
     by_cases hn : wEv (((blk.drop 4).getD 1 0).toNat : Int) xs = true
     ·exact hn
     rw [if_neg hn] at this; cases this
    cases h
   cases h
  cases h
 cases h
theorem wBo {s : Sto} {k : Nat} {lv : Int} {xs : List It} (h : wBk s k = some (lv, xs)) : NdOk lv xs := by
 unfold wBk at h
 split at h
 ·cases h
 exact rdNode_ok h
def wCq (s : Sto) (l : Nat) (xs : List It) : Prop := xs ≠ [] → (wEf (wBu s l) none xs).is = true
instance (s : Sto) (l : Nat) (xs : List It) : Decidable (wCq s l xs) := by unfold wCq; exact inferInstance
theorem wLu {f : It → Sp} : ∀ {xs : List It} {o : Option Sp}, (wEf f o xs).is = true → ∀ x ∈ xs, (f x).is = true ∧ (f x).first = x.key
 | [], _, _, x, hx => by cases hx
 | y :: ys, o, h, x, hx => by
  rw [wEf] at h
  split at h
  ·rename_i hs
   rcases List.mem_cons.1 hx with rfl | hx
   ·unfold wBs at hs
    rw [Bool.and_eq_true, Bool.and_eq_true, decide_eq_true_eq] at hs
    exact hs.1
   exact wLu h x hx
  cases h
theorem one_up {s : Sto} {l : Nat} {x : It} (h : (wBu s (l + 1) x).is = true) : ∃ ys, wBk s x.ref.toNat = some ((l : Int), ys) ∧ ys ≠ [] ∧ wBu s (l + 1) x = wEf (wBu s l) none ys := by
 simp only [wBu] at h ⊢
 split at h
 ·rename_i lv ys hnd
  split at h
  ·rename_i hc
   obtain ⟨rfl, hys⟩ := hc
   exact ⟨ys, hnd, hys, if_pos ⟨rfl, hys⟩⟩
  cases h
 cases h
theorem wEu {s : Sto} {l : Nat} {xs : List It} (h : wCq s (l + 1) xs) {x : It} (hx : x ∈ xs) : ∃ ys, wBk s x.ref.toNat = some ((l : Int), ys) ∧ ys ≠ [] ∧ wCq s l ys := by
 have h1 := (wLu (h (List.ne_nil_of_mem hx)) x hx).1
 obtain ⟨ys, h2, h3, h4⟩ := one_up h1
 exact ⟨ys, h2, h3, fun _ => by rw [← h4]; exact h1⟩
def kid (s : Sto) (x : It) : List It := match wBk s x.ref.toNat with | some (_, ys) => ys | none => []
theorem BnPost.form {s : Sto} {k : Nat} {u : Value} {M' : Mem} (h : BnPost s k u M') : ∃ lv a n c e, u = .tuple #[.agg #[.int .i64 lv, .slice a n c], .int .i64 e] ∧ ((e = 8 ∧ wBk s k = none) ∨ (e = 0 ∧ ∃ xs, wBk s k = some (lv, xs) ∧ n = xs.length ∧ NS M' (.slice a xs.length c) xs)) := by
 unfold BnPost at h
 split at h
 ·rename_i lv xs hr
  obtain ⟨sl, rfl, hns⟩ := h
  obtain ⟨a, c, ps, rfl, h1, h2, h3, h4⟩ := id hns
  exact ⟨lv, a, _, c, 0, rfl, .inr ⟨rfl, xs, hr, rfl, hns⟩⟩
 rename_i hr
 exact ⟨0, none, 0, 0, 8, h, .inl ⟨rfl, hr⟩⟩
end Go.Proofs.YtkcpllhggofloaaGreat
