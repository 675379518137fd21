/- Opening arguments that are stores and keys. No statement of the seat is proved here. -/
import Derived.Test.YtbhkdjheooknfaaGreatZLaw
import Derived.Test.YtbhkdjheooknfaaGreatZStore
import Derived.Lib.SmallJoins
namespace Go.Proofs.YtbhkdjheooknfaaGreat
set_option linter.unusedVariables false
set_option linter.unusedSectionVars false
set_option linter.unusedSimpArgs false
open Go.ChangeShapes Go.WideShapes Go.ChangeAt Go.RowKit Go.Joins
theorem cell_spot {W : World} {a : Addr} {v : Value} (h : W.cell? a = some v) : ∃ c e fz, W.heap[a.block]? = some (.cells c e fz) ∧ a.spot = none ∧ c[a.off]? = some v := by
 unfold World.cell? at h
 split at h
 ·rename_i c e fz hh
  split at h
  ·cases h
  rename_i hs; exact ⟨c, e, fz, hh, by simpa using hs, h⟩
 cases h
theorem add_none {b off j : Nat} : (⟨b, off, none⟩ : Addr).add j = ⟨b, off + j, none⟩ := by unfold Addr.add; split <;> simp_all
theorem wJs {W : World} {a : Addr} {cs : List Value} (h : ∀ i u, cs[i]? = some u → W.cell? (a.add i) = some u) : SM (wHf W) (some a) cs := by
 cases cs with
 | nil => exact .inl rfl
 | cons u us =>
  obtain ⟨c0, e0, fz0, hb, hs, _⟩ := cell_spot (h 0 u rfl)
  obtain ⟨b, off, spot⟩ := a
  simp [Addr.add] at hs
  subst hs
  refine .inr ⟨b, off, rfl, fun i v hv => ?_⟩
  obtain ⟨c1, e1, fz1, hb1, _, hg⟩ := cell_spot (h i v hv)
  rw [add_none] at hb1 hg
  exact ⟨c1, e1, fz1, hb1, hg⟩
theorem list_of {α : Type} {p : Nat → α → Prop} : ∀ {n : Nat}, (∀ i, i < n → ∃ x, p i x) → ∃ l : List α, l.length = n ∧ ∀ i (h : i < l.length), p i l[i]
 | 0, _ => ⟨[], rfl, fun i h => absurd h (Nat.not_lt_zero i)⟩
 | n + 1, h => by
  obtain ⟨l, h1, h2⟩ := list_of (n := n) (fun i hi => h i (by omega))
  obtain ⟨x, hx⟩ := h n (by omega)
  refine ⟨l ++ [x], by simp [h1], fun i hi => ?_⟩
  by_cases h3 : i < l.length
  ·rw [List.getElem_append_left h3]; exact h2 i h3
  obtain rfl : i = n := by rw [List.length_append, List.length_singleton] at hi; omega
  rw [List.getElem_append_right (by omega)]; simpa using hx
def bOf (x : Int) : By := UInt8.ofNat x.toNat
theorem bOf_is {x : Int} (h : 0 ≤ x ∧ x < 256) : ((bOf x).toNat : Int) = x := by
 unfold bOf
 rw [UInt8.toNat_ofNat_of_lt' (by show x.toNat < 256; omega)]; omega
section
variable {H : Type} {enc : TypeId × Value → H} {W : World}
theorem open_bs {fuel : Nat} {v : Value} {x : DataW H × List MemPlace} (h : DataW.trod enc Tryz.prog W 0 (fun _ => true) true fuel 26 [v] = some x) : ∃ xs : List By, BS (wHf W) v xs := by
 rcases open_ints Tryz.underlying26 Tryz.underlying5 (by kernel_rfl) h with ⟨h0, _⟩ | ⟨a, len, cap, zs, h0, _, hle, _, hall, _, hcell, hwf⟩
 ·cases h0; exact ⟨[], BS.nil⟩
 cases h0
 simp only [if_true] at hall
 have hw : ∀ n ∈ zs, ((bOf n).toNat : Int) = n := fun n hn => bOf_is (u8_wf (hwf n hn))
 have hl : ((zs.take len).map bOf).length = len := by rw [List.length_map, List.length_take]; omega
 refine ⟨(zs.take len).map bOf, some a, cap, by rw [hl], by rw [hl]; exact hle, wJs fun i u hu => ?_⟩
 have hi : i < len := by
  have := (List.getElem?_eq_some_iff.1 hu).1
  rw [wAm, hl] at this; exact this
 rw [hcell i (by omega)]
 simp only [wAj, List.getElem?_map, List.getElem?_take, hi, if_true, List.getElem?_eq_getElem (show i < zs.length by omega), Option.map_some, Option.some.injEq] at hu
 rw [← hu, hw _ (List.getElem_mem _)]
 simp [List.getD, List.getElem?_eq_getElem (show i < zs.length by omega)]
theorem open_ls {fuel : Nat} {v : Value} {x : DataW H × List MemPlace} (h : DataW.trod enc Tryz.prog W 0 (fun _ => true) true fuel 22 [v] = some x) : ∃ bs : List (List By), LS (wHf W) v bs := by
 rcases DataW.trod_slice Tryz.underlying22 h with ⟨h0, _⟩ | ⟨a, len, cap, elems, rest, n, _, h0, _, _, hle, _, hel, hE, _⟩
 ·cases h0; exact ⟨[], none, 0, [], rfl, Nat.le_refl _, SM.nil, rfl, fun _ h => by cases h⟩
 cases h0
 have hc : Tryz.prog.cellsOf 26 = 1 := by kernel_rfl
 rw [hc] at hE
 obtain ⟨ps, hp1, hp2⟩ := list_of (p := fun i (p : List By × Value) => W.cell? (a.add i) = some p.2 ∧ BS (wHf W) p.2 p.1) (n := len) (fun i hi => by
  have h1 := hE i hi
  rw [List.getElem?_eq_getElem (by omega), Option.bind_eq_some_iff, Nat.mul_one] at h1
  obtain ⟨cs, h2, h3⟩ := h1
  obtain ⟨_, h4, h5⟩ := World.cells?_some h2
  obtain ⟨c, rfl⟩ : ∃ c, cs = [c] := by
   match cs, h4 with
   | [c], _ => exact ⟨c, rfl⟩
  obtain ⟨xs, hxs⟩ := open_bs h3
  have h6 := h5 0 (by omega)
  have e0 : (a.add i).add 0 = a.add i := by simp [Addr.add]
  rw [e0] at h6
  exact ⟨(xs, c), h6, hxs⟩)
 refine ⟨ps.map (·.1), some a, cap, ps, by rw [List.length_map, hp1], by rw [List.length_map]; omega, wJs fun i u hu => ?_, rfl, fun p hp => ?_⟩
 ·have hi := (List.getElem?_eq_some_iff.1 hu).1
  rw [List.length_map] at hi
  rw [List.getElem?_map, List.getElem?_eq_getElem hi, Option.map_some, Option.some.injEq] at hu
  rw [(hp2 i hi).1, hu]
 obtain ⟨i, hi, rfl⟩ := List.mem_iff_getElem.1 hp
 exact (hp2 i hi).2
theorem open_ws {fuel : Nat} {v : Value} {x : DataW H × List MemPlace} (h : DataW.trod enc Tryz.prog W 0 (fun _ => true) true fuel 23 [v] = some x) : ∃ ws : List Wt, WS (wHf W) v ws := by
 rcases DataW.trod_slice Tryz.underlying23 h with ⟨h0, _⟩ | ⟨a, len, cap, elems, rest, n, _, h0, _, _, hle, _, hel, hE, _⟩
 ·cases h0; exact ⟨[], none, 0, [], rfl, Nat.le_refl _, SM.nil, rfl, fun _ h => by cases h⟩
 cases h0
 have hc : Tryz.prog.cellsOf 63 = 2 := by kernel_rfl
 rw [hc] at hE
 obtain ⟨ps, hp1, hp2⟩ := list_of (p := fun i (p : Wt × Value) => W.cell? ((a.add (i * 2)).add 0) = some (.int .i64 p.1.1) ∧ W.cell? ((a.add (i * 2)).add 1) = some p.2 ∧ BS (wHf W) p.2 p.1.2) (n := len) (fun i hi => by
  have h1 := hE i hi
  rw [List.getElem?_eq_getElem (by omega), Option.bind_eq_some_iff] at h1
  obtain ⟨cs, h2, h3⟩ := h1
  obtain ⟨_, h4, h5⟩ := World.cells?_some h2
  obtain ⟨c0, c1, rfl⟩ : ∃ c0 c1, cs = [c0, c1] := by
   match cs, h4 with
   | [c0, c1], _ => exact ⟨c0, c1, rfl⟩
  obtain ⟨y0, y1, m, _, _, g0, g1⟩ := trod_struct2 Tryz.underlying63 h3
  have g0' : DataW.trod enc Tryz.prog W 0 (fun _ => true) true m 3 [c0] = some y0 := by
   have e : Tryz.prog.cellsOf 3 = 1 := by kernel_rfl
   simpa [e] using g0
  have g1' : DataW.trod enc Tryz.prog W 0 (fun _ => true) true m 26 [c1] = some y1 := by
   have e : Tryz.prog.cellsOf 26 = 1 := by kernel_rfl
   simpa [e] using g1
  obtain ⟨z, e1, -, -⟩ := DataW.trod_int Tryz.underlying3 g0'
  cases e1
  obtain ⟨xs, hxs⟩ := open_bs g1'
  exact ⟨((z, xs), c1), h5 0 (by omega), h5 1 (by omega), hxs⟩)
 have hadd : ∀ (b : Addr) (x y : Nat), (b.add x).add y = b.add (x + y) := fun b x y => by
  obtain ⟨bb, off, sp⟩ := b
  cases sp <;> simp [Addr.add] <;> (try split) <;> (try split) <;> simp_all <;> omega
 refine ⟨ps.map (·.1), some a, cap, ps, by rw [List.length_map, hp1], by rw [List.length_map]; omega, wJs fun i u hu => ?_, rfl, fun p hp => ?_⟩
 ·have hi := (List.getElem?_eq_some_iff.1 hu).1
  rw [wBm wBs 2 wBx] at hi
  have hk : i / 2 < ps.length := by omega
  have hij : i = (i / 2) * 2 + i % 2 := by omega
  have hm : i % 2 < 2 := by omega
  have h1 := flat_get wBs 2 wBx ps (i / 2) (i % 2) hm
  rw [← hij, hu, List.getElem?_eq_getElem hk, Option.bind_some] at h1
  obtain ⟨q0, q1, _⟩ := hp2 (i / 2) hk
  rw [hadd] at q0 q1
  have h01 : i % 2 = 0 ∨ i % 2 = 1 := by omega
  rcases h01 with h0 | h0
  ·rw [h0] at h1
   rw [show (i / 2) * 2 + 0 = i by omega] at q0
   rw [q0]; simpa [wBs] using h1.symm
  rw [h0] at h1
  rw [show (i / 2) * 2 + 1 = i by omega] at q1
  rw [q1]; simpa [wBs] using h1.symm
 obtain ⟨i, hi, rfl⟩ := List.mem_iff_getElem.1 hp
 exact (hp2 i hi).2.2
end
end Go.Proofs.YtbhkdjheooknfaaGreat
