/- Opening arguments that are stores and keys. No statement of the seat is proved here. -/
import Derived.Test.YtkjghgndmpbfiaaGreatZLaw
import Derived.Test.YtkjghgndmpbfiaaGreatZStore
import Derived.Lib.SmallJoins
namespace Go.Proofs.YtkjghgndmpbfiaaGreat
set_option linter.unusedVariables false
set_option linter.unusedSectionVars false
set_option linter.unusedSimpArgs false
open Go.ChangeShapes Go.WideShapes Go.ChangeAt Go.RowKit Go.Joins

theorem cell_spot {W : World} {a : Addr} {v : Value} (h : W.cell? a = some v) : ∃ c e fz, W.heap[a.block]? = some (.cells c e fz) ∧ a.spot = none ∧ c[a.off]? = some v := by
 unfold World.cell? at h
 split at h
 ·rename_i c e fz hh
  split at h
  ·cases h
  ·rename_i hs; exact ⟨c, e, fz, hh, by simpa using hs, h⟩
 ·cases h
theorem add_none {b off j : Nat} : (⟨b, off, none⟩ : Addr).add j = ⟨b, off + j, none⟩ := by unfold Addr.add; split <;> simp_all
theorem sm_cells {W : World} {a : Addr} {cs : List Value} (h : ∀ i u, cs[i]? = some u → W.cell? (a.add i) = some u) : SM (memOf W) (some a) cs := by
 cases cs with
 | nil => exact .inl rfl
 | cons u us =>
  obtain ⟨c0, e0, fz0, hb, hs, _⟩ := cell_spot (h 0 u rfl)
  obtain ⟨b, off, spot⟩ := a
  simp [Addr.add] at hs
  subst hs
  refine .inr ⟨b, off, rfl, fun i v hv => ?_⟩
  obtain ⟨c1, e1, fz1, hb1, _, hg⟩ := cell_spot (h i v hv)
  rw [add_none] at hb1 hg
  exact ⟨c1, e1, fz1, hb1, hg⟩
theorem list_of {α : Type} {p : Nat → α → Prop} : ∀ {n : Nat}, (∀ i, i < n → ∃ x, p i x) → ∃ l : List α, l.length = n ∧ ∀ i (h : i < l.length), p i l[i]
 | 0, _ => ⟨[], rfl, fun i h => absurd h (Nat.not_lt_zero i)⟩
 | n + 1, h => by
  obtain ⟨l, h1, h2⟩ := list_of (n := n) (fun i hi => h i (by omega))
  obtain ⟨x, hx⟩ := h n (by omega)
  refine ⟨l ++ [x], by simp [h1], fun i hi => ?_⟩
  by_cases h3 : i < l.length
  ·rw [List.getElem_append_left h3]; exact h2 i h3
  ·obtain rfl : i = n := by rw [List.length_append, List.length_singleton] at hi; omega
   rw [List.getElem_append_right (by omega)]; simpa using hx
def bOf (x : Int) : By := UInt8.ofNat x.toNat
theorem bOf_is {x : Int} (h : 0 ≤ x ∧ x < 256) : ((bOf x).toNat : Int) = x := by
 unfold bOf
 rw [UInt8.toNat_ofNat_of_lt' (by show x.toNat < 256; omega)]; omega

theorem trodAll_five {H : Type} {enc : TypeId × Value → H} {P : Program} {w : World} {base : Nat} {spare : Nat → Bool} {held : Bool} {t0 t1 t2 t3 t4 : TypeId} {args : Array Value} {ds : List (DataW H)} {ps : List MemPlace} (h : DataW.TrodAll enc P w base spare held [t0, t1, t2, t3, t4] args.toList ds ps) :
  ∃ v0 v1 v2 v3 v4 d0 d1 d2 d3 d4 p0 p1 p2 p3 p4, args = #[v0, v1, v2, v3, v4] ∧ ds = [d0, d1, d2, d3, d4] ∧ ps = p0 ++ p1 ++ p2 ++ p3 ++ p4 ∧ DataW.Trod enc P w base spare held t0 v0 d0 p0 ∧ DataW.Trod enc P w base spare held t1 v1 d1 p1 ∧ DataW.Trod enc P w base spare held t2 v2 d2 p2 ∧ DataW.Trod enc P w base spare held t3 v3 d3 p3 ∧ DataW.Trod enc P w base spare held t4 v4 d4 p4 := by
 obtain ⟨v0, w0, d0, e0, p0, q0, hargs, rfl, rfl, k0, r0⟩ := trodAll_cons h
 obtain ⟨v1, w1, d1, e1, p1, q1, rfl, rfl, rfl, k1, r1⟩ := trodAll_cons r0
 obtain ⟨v2, w2, d2, e2, p2, q2, rfl, rfl, rfl, k2, r2⟩ := trodAll_cons r1
 obtain ⟨v3, w3, d3, e3, p3, q3, rfl, rfl, rfl, k3, r3⟩ := trodAll_cons r2
 obtain ⟨v4, w4, d4, e4, p4, q4, rfl, rfl, rfl, k4, r4⟩ := trodAll_cons r3
 obtain ⟨rfl, rfl, rfl⟩ := trodAll_nil r4
 exact ⟨v0, v1, v2, v3, v4, d0, d1, d2, d3, d4, p0, p1, p2, p3, p4, by cases args; simp_all, rfl, by simp, k0, k1, k2, k3, k4⟩
theorem trodAll_six {H : Type} {enc : TypeId × Value → H} {P : Program} {w : World} {base : Nat} {spare : Nat → Bool} {held : Bool} {t0 t1 t2 t3 t4 t5 : TypeId} {args : Array Value} {ds : List (DataW H)} {ps : List MemPlace} (h : DataW.TrodAll enc P w base spare held [t0, t1, t2, t3, t4, t5] args.toList ds ps) :
  ∃ v0 v1 v2 v3 v4 v5 d0 d1 d2 d3 d4 d5 p0 p1 p2 p3 p4 p5, args = #[v0, v1, v2, v3, v4, v5] ∧ ds = [d0, d1, d2, d3, d4, d5] ∧ ps = p0 ++ p1 ++ p2 ++ p3 ++ p4 ++ p5 ∧ DataW.Trod enc P w base spare held t0 v0 d0 p0 ∧ DataW.Trod enc P w base spare held t1 v1 d1 p1 ∧ DataW.Trod enc P w base spare held t2 v2 d2 p2 ∧ DataW.Trod enc P w base spare held t3 v3 d3 p3 ∧ DataW.Trod enc P w base spare held t4 v4 d4 p4 ∧ DataW.Trod enc P w base spare held t5 v5 d5 p5 := by
 obtain ⟨v0, w0, d0, e0, p0, q0, hargs, rfl, rfl, k0, r0⟩ := trodAll_cons h
 obtain ⟨v1, w1, d1, e1, p1, q1, rfl, rfl, rfl, k1, r1⟩ := trodAll_cons r0
 obtain ⟨v2, w2, d2, e2, p2, q2, rfl, rfl, rfl, k2, r2⟩ := trodAll_cons r1
 obtain ⟨v3, w3, d3, e3, p3, q3, rfl, rfl, rfl, k3, r3⟩ := trodAll_cons r2
 obtain ⟨v4, w4, d4, e4, p4, q4, rfl, rfl, rfl, k4, r4⟩ := trodAll_cons r3
 obtain ⟨v5, w5, d5, e5, p5, q5, rfl, rfl, rfl, k5, r5⟩ := trodAll_cons r4
 obtain ⟨rfl, rfl, rfl⟩ := trodAll_nil r5
 exact ⟨v0, v1, v2, v3, v4, v5, d0, d1, d2, d3, d4, d5, p0, p1, p2, p3, p4, p5, by cases args; simp_all, rfl, by simp, k0, k1, k2, k3, k4, k5⟩

section
variable {H : Type} {enc : TypeId × Value → H} {W : World}
theorem open_bs {fuel : Nat} {v : Value} {x : DataW H × List MemPlace} (h : DataW.trod enc Tryz.prog W 0 (fun _ => true) true fuel 26 [v] = some x) : ∃ xs : List By, BS (memOf W) v xs := by
 rcases open_ints Tryz.underlying26 Tryz.underlying5 (by kernel_rfl) h with ⟨h0, _⟩ | ⟨a, len, cap, zs, h0, _, hle, _, hall, _, hcell, hwf⟩
 ·cases h0; exact ⟨[], BS.nil⟩
 ·cases h0
  simp only [if_true] at hall
  have hw : ∀ n ∈ zs, ((bOf n).toNat : Int) = n := fun n hn => bOf_is (u8_wf (hwf n hn))
  have hl : ((zs.take len).map bOf).length = len := by rw [List.length_map, List.length_take]; omega
  refine ⟨(zs.take len).map bOf, some a, cap, by rw [hl], by rw [hl]; exact hle, sm_cells fun i u hu => ?_⟩
  have hi : i < len := by
   have := (List.getElem?_eq_some_iff.1 hu).1
   rw [bcells_len, hl] at this; exact this
  rw [hcell i (by omega)]
  simp only [bcells, List.getElem?_map, List.getElem?_take, hi, if_true, List.getElem?_eq_getElem (show i < zs.length by omega), Option.map_some, Option.some.injEq] at hu
  rw [← hu, hw _ (List.getElem_mem _)]
  simp [List.getD, List.getElem?_eq_getElem (show i < zs.length by omega)]
theorem open_ls {fuel : Nat} {v : Value} {x : DataW H × List MemPlace} (h : DataW.trod enc Tryz.prog W 0 (fun _ => true) true fuel 22 [v] = some x) : ∃ bs : List (List By), LS (memOf W) v bs := by
 rcases DataW.trod_slice Tryz.underlying22 h with ⟨h0, _⟩ | ⟨a, len, cap, elems, rest, n, _, h0, _, _, hle, _, hel, hE, _⟩
 ·cases h0; exact ⟨[], none, 0, [], rfl, Nat.le_refl _, SM.nil, rfl, fun _ h => by cases h⟩
 ·cases h0
  have hc : Tryz.prog.cellsOf 26 = 1 := by kernel_rfl
  rw [hc] at hE
  obtain ⟨ps, hp1, hp2⟩ := list_of (p := fun i (p : List By × Value) => W.cell? (a.add i) = some p.2 ∧ BS (memOf W) p.2 p.1) (n := len) (fun i hi => by
   have h1 := hE i hi
   rw [List.getElem?_eq_getElem (by omega), Option.bind_eq_some_iff, Nat.mul_one] at h1
   obtain ⟨cs, h2, h3⟩ := h1
   obtain ⟨_, h4, h5⟩ := World.cells?_some h2
   obtain ⟨c, rfl⟩ : ∃ c, cs = [c] := by
    match cs, h4 with
    | [c], _ => exact ⟨c, rfl⟩
   obtain ⟨xs, hxs⟩ := open_bs h3
   have h6 := h5 0 (by omega)
   have e0 : (a.add i).add 0 = a.add i := by simp [Addr.add]
   rw [e0] at h6
   exact ⟨(xs, c), h6, hxs⟩)
  refine ⟨ps.map (·.1), some a, cap, ps, by rw [List.length_map, hp1], by rw [List.length_map]; omega, sm_cells fun i u hu => ?_, rfl, fun p hp => ?_⟩
  ·have hi := (List.getElem?_eq_some_iff.1 hu).1
   rw [List.length_map] at hi
   rw [List.getElem?_map, List.getElem?_eq_getElem hi, Option.map_some, Option.some.injEq] at hu
   rw [(hp2 i hi).1, hu]
  ·obtain ⟨i, hi, rfl⟩ := List.mem_iff_getElem.1 hp
   exact (hp2 i hi).2
theorem open_ws {fuel : Nat} {v : Value} {x : DataW H × List MemPlace} (h : DataW.trod enc Tryz.prog W 0 (fun _ => true) true fuel 23 [v] = some x) : ∃ ws : List Wt, WS (memOf W) v ws := by
 rcases DataW.trod_slice Tryz.underlying23 h with ⟨h0, _⟩ | ⟨a, len, cap, elems, rest, n, _, h0, _, _, hle, _, hel, hE, _⟩
 ·cases h0; exact ⟨[], none, 0, [], rfl, Nat.le_refl _, SM.nil, rfl, fun _ h => by cases h⟩
 ·cases h0
  have hc : Tryz.prog.cellsOf 78 = 2 := by kernel_rfl
  rw [hc] at hE
  obtain ⟨ps, hp1, hp2⟩ := list_of (p := fun i (p : Wt × Value) => W.cell? ((a.add (i * 2)).add 0) = some (.int .i64 p.1.1) ∧ W.cell? ((a.add (i * 2)).add 1) = some p.2 ∧ BS (memOf W) p.2 p.1.2) (n := len) (fun i hi => by
   have h1 := hE i hi
   rw [List.getElem?_eq_getElem (by omega), Option.bind_eq_some_iff] at h1
   obtain ⟨cs, h2, h3⟩ := h1
   obtain ⟨_, h4, h5⟩ := World.cells?_some h2
   obtain ⟨c0, c1, rfl⟩ : ∃ c0 c1, cs = [c0, c1] := by
    match cs, h4 with
    | [c0, c1], _ => exact ⟨c0, c1, rfl⟩
   obtain ⟨y0, y1, m, _, _, g0, g1⟩ := trod_struct2 Tryz.underlying78 h3
   have g0' : DataW.trod enc Tryz.prog W 0 (fun _ => true) true m 3 [c0] = some y0 := by
    have e : Tryz.prog.cellsOf 3 = 1 := by kernel_rfl
    simpa [e] using g0
   have g1' : DataW.trod enc Tryz.prog W 0 (fun _ => true) true m 26 [c1] = some y1 := by
    have e : Tryz.prog.cellsOf 26 = 1 := by kernel_rfl
    simpa [e] using g1
   obtain ⟨z, e1, -, -⟩ := DataW.trod_int Tryz.underlying3 g0'
   cases e1
   obtain ⟨xs, hxs⟩ := open_bs g1'
   exact ⟨((z, xs), c1), h5 0 (by omega), h5 1 (by omega), hxs⟩)
  have hadd : ∀ (b : Addr) (x y : Nat), (b.add x).add y = b.add (x + y) := fun b x y => by
   obtain ⟨bb, off, sp⟩ := b
   cases sp <;> simp [Addr.add] <;> (try split) <;> (try split) <;> simp_all <;> omega
  refine ⟨ps.map (·.1), some a, cap, ps, by rw [List.length_map, hp1], by rw [List.length_map]; omega, sm_cells fun i u hu => ?_, rfl, fun p hp => ?_⟩
  ·have hi := (List.getElem?_eq_some_iff.1 hu).1
   rw [flat_len wcell 2 wcell_len] at hi
   have hk : i / 2 < ps.length := by omega
   have hij : i = (i / 2) * 2 + i % 2 := by omega
   have hm : i % 2 < 2 := by omega
   have h1 := flat_get wcell 2 wcell_len ps (i / 2) (i % 2) hm
   rw [← hij, hu, List.getElem?_eq_getElem hk, Option.bind_some] at h1
   obtain ⟨q0, q1, _⟩ := hp2 (i / 2) hk
   rw [hadd] at q0 q1
   have h01 : i % 2 = 0 ∨ i % 2 = 1 := by omega
   rcases h01 with h0 | h0
   ·rw [h0] at h1
    rw [show (i / 2) * 2 + 0 = i by omega] at q0
    rw [q0]; simpa [wcell] using h1.symm
   ·rw [h0] at h1
    rw [show (i / 2) * 2 + 1 = i by omega] at q1
    rw [q1]; simpa [wcell] using h1.symm
  ·obtain ⟨i, hi, rfl⟩ := List.mem_iff_getElem.1 hp
   exact (hp2 i hi).2.2
set_option maxRecDepth 100000 in
theorem open_store {base : Nat} {v : Value} {d : DataW H} {p : List MemPlace} (hval : Value.okWide Tryz.prog W .any base 28 v) (h : DataW.Trod enc Tryz.prog W 0 (fun _ => true) true 28 v d p) : ∃ s, ST (memOf W) v s := by
 obtain ⟨cs, rfl, hsz⟩ := okWide_struct Tryz.underlying28 hval
 obtain ⟨c0, c1, c2, c3, rfl⟩ := array4 (hsz.trans (by kernel_rfl))
 obtain ⟨fuel, hf⟩ := h
 obtain ⟨y0, y1, y2, n, _, _, h0, h1, h2⟩ := Go.Deep.trod_struct3 Tryz.underlying28 hf
 have e25 : Tryz.prog.cellsOf 25 = 2 := by kernel_rfl
 have e26 : Tryz.prog.cellsOf 26 = 1 := by kernel_rfl
 have e22 : Tryz.prog.cellsOf 22 = 1 := by kernel_rfl
 have e23 : Tryz.prog.cellsOf 23 = 1 := by kernel_rfl
 have h0' : DataW.trod enc Tryz.prog W 0 (fun _ => true) true n 25 [c0, c1] = some y0 := by simpa [e25, Value.cells] using h0
 have h1' : DataW.trod enc Tryz.prog W 0 (fun _ => true) true n 26 [c2] = some y1 := by simpa [e26, Value.cells] using h1
 have h2' : DataW.trod enc Tryz.prog W 0 (fun _ => true) true n 26 [c3] = some y2 := by simpa [e26, Value.cells] using h2
 obtain ⟨z0, z1, m, _, _, g0, g1⟩ := trod_struct2 Tryz.underlying25 h0'
 have g0' : DataW.trod enc Tryz.prog W 0 (fun _ => true) true m 22 [c0] = some z0 := by simpa [e22] using g0
 have g1' : DataW.trod enc Tryz.prog W 0 (fun _ => true) true m 23 [c1] = some z1 := by simpa [e23] using g1
 obtain ⟨bs, hbs⟩ := open_ls g0'
 obtain ⟨ws, hws⟩ := open_ws g1'
 obtain ⟨ns, hns⟩ := open_bs h1'
 obtain ⟨ls, hls⟩ := open_bs h2'
 exact ⟨⟨bs, ws, ns, ls⟩, ⟨c0, c1, c2, c3, rfl, hbs, hws, hns, hls⟩⟩
set_option maxRecDepth 100000 in
theorem open_key {base : Nat} {v : Value} {d : DataW H} {p : List MemPlace} (hval : Value.okWide Tryz.prog W .any base 31 v) (h : DataW.Trod enc Tryz.prog W 0 (fun _ => true) true 31 v d p) : ∃ k : Ky, v = .agg (kcells k).toArray := by
 obtain ⟨u0, u1, u2, y0, y1, y2, n, rfl, rfl, rfl, g0, g1, g2⟩ := open_agg3 Tryz.underlying31 (by kernel_rfl) (by kernel_rfl) hval h
 obtain ⟨x, e0, -, -⟩ := DataW.trod_int Tryz.underlying5 g0
 cases e0
 obtain ⟨y, e1, -, -⟩ := DataW.trod_int Tryz.underlying29 g1
 cases e1
 obtain ⟨z, e2, -, -⟩ := DataW.trod_int Tryz.underlying29 g2
 cases e2
 exact ⟨⟨x, y, z⟩, rfl⟩
end
end Go.Proofs.YtkjghgndmpbfiaaGreat
