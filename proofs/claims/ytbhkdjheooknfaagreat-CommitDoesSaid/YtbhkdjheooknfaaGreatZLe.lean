/- Pools as a statement's arguments are opened, with bounds of all their numbers. No statement of the seat is proved here. -/
import Derived.Test.YtbhkdjheooknfaaGreatZOpen
import Derived.Test.YtbhkdjheooknfaaGreatZCom
namespace Go.Proofs.YtbhkdjheooknfaaGreat
set_option linter.unusedSimpArgs false
set_option linter.unusedVariables false
set_option linter.unusedSectionVars false
open Go.ChangeShapes Go.WideShapes Go.ChangeAt Go.RowKit Go.Joins
theorem array8 {α : Type} {cs : Array α} (h : cs.size = 8) : ∃ c0 c1 c2 c3 c4 c5 c6 c7, cs = #[c0, c1, c2, c3, c4, c5, c6, c7] := by
 obtain ⟨l⟩ := cs
 match l, h with
 | [c0, c1, c2, c3, c4, c5, c6, c7], _ => exact ⟨c0, c1, c2, c3, c4, c5, c6, c7, rfl⟩
theorem u32_wf {n : Int} (h : (Lit.int .u32 n).wf = true) : 0 ≤ n ∧ n < 4294967296 := by
 simp [Lit.wf, IntKind.min, IntKind.max, IntKind.signed, IntKind.bits] at h; omega
theorem trod_struct5 {H : Type} {enc : TypeId × Value → H} {P : Program} {w : World} {base : Nat} {spare : Nat → Bool} {held : Bool} {t : TypeId} {f0 f1 f2 f3 f4 : Field} {fuel : Nat} {cs : List Value} {x : DataW H × List MemPlace} (ht : P.underlying t = some (.struct #[f0, f1, f2, f3, f4])) (h : DataW.trod enc P w base spare held fuel t cs = some x) :
  ∃ y0 y1 y2 y3 y4 n, cs.length = P.cellsOf t ∧ DataW.trod enc P w base spare held n f0.type ((cs.drop f0.offset).take (P.cellsOf f0.type)) = some y0 ∧
   DataW.trod enc P w base spare held n f1.type ((cs.drop f1.offset).take (P.cellsOf f1.type)) = some y1 ∧ DataW.trod enc P w base spare held n f2.type ((cs.drop f2.offset).take (P.cellsOf f2.type)) = some y2 ∧
   DataW.trod enc P w base spare held n f3.type ((cs.drop f3.offset).take (P.cellsOf f3.type)) = some y3 ∧ DataW.trod enc P w base spare held n f4.type ((cs.drop f4.offset).take (P.cellsOf f4.type)) = some y4 := by
 obtain ⟨xs, n, _, rfl, hl, hlen, hf⟩ := DataW.trod_struct ht h
 match xs, hlen with
 | [y0, y1, y2, y3, y4], _ => exact ⟨y0, y1, y2, y3, y4, n, hl, by simpa using hf 0 f0 rfl, by simpa using hf 1 f1 rfl, by simpa using hf 2 f2 rfl, by simpa using hf 3 f3 rfl, by simpa using hf 4 f4 rfl⟩
section
variable {H : Type} {enc : TypeId × Value → H} {W : World}
theorem open_st {fuel : Nat} {c0 c1 c2 c3 : Value} {x : DataW H × List MemPlace} (hf : DataW.trod enc Tryz.prog W 0 (fun _ => true) true fuel 28 [c0, c1, c2, c3] = some x) : ∃ s : Sto, LS (wHf W) c0 s.blocks ∧ WS (wHf W) c1 s.waits ∧ BS (wHf W) c2 s.now ∧ BS (wHf W) c3 s.last := by
 obtain ⟨y0, y1, y2, n, _, _, h0, h1, h2⟩ := Go.Deep.trod_struct3 Tryz.underlying28 hf
 have e25 : Tryz.prog.cellsOf 25 = 2 := by kernel_rfl
 have e26 : Tryz.prog.cellsOf 26 = 1 := by kernel_rfl
 have e22 : Tryz.prog.cellsOf 22 = 1 := by kernel_rfl
 have e23 : Tryz.prog.cellsOf 23 = 1 := by kernel_rfl
 have h0' : DataW.trod enc Tryz.prog W 0 (fun _ => true) true n 25 [c0, c1] = some y0 := by simpa [e25, Value.cells] using h0
 have h1' : DataW.trod enc Tryz.prog W 0 (fun _ => true) true n 26 [c2] = some y1 := by simpa [e26, Value.cells] using h1
 have h2' : DataW.trod enc Tryz.prog W 0 (fun _ => true) true n 26 [c3] = some y2 := by simpa [e26, Value.cells] using h2
 obtain ⟨z0, z1, m, _, _, g0, g1⟩ := trod_struct2 Tryz.underlying25 h0'
 have g0' : DataW.trod enc Tryz.prog W 0 (fun _ => true) true m 22 [c0] = some z0 := by simpa [e22] using g0
 have g1' : DataW.trod enc Tryz.prog W 0 (fun _ => true) true m 23 [c1] = some z1 := by simpa [e23] using g1
 obtain ⟨bs, hbs⟩ := open_ls g0'
 obtain ⟨ws, hws⟩ := open_ws g1'
 obtain ⟨ns, hns⟩ := open_bs h1'
 obtain ⟨ls, hls⟩ := open_bs h2'
 exact ⟨⟨bs, ws, ns, ls⟩, hbs, hws, hns, hls⟩
set_option maxRecDepth 100000 in
theorem open_bools {base : Nat} {v : Value} {d : DataW H} {p : List MemPlace} (hval : Value.okWide Tryz.prog W .any base 33 v) (h : DataW.Trod enc Tryz.prog W 0 (fun _ => true) true 33 v d p) : ∃ (keep : List Bool) (a : Option Addr) (c : Nat), v = .slice a keep.length c ∧ SM (wHf W) a (wDd keep) := by
 obtain ⟨a0, len0, cap0, rfl⟩ := okWide_slice Tryz.underlying33 hval
 obtain ⟨fuel, hf⟩ := h
 rcases DataW.trod_slice Tryz.underlying33 hf with ⟨h0, _⟩ | ⟨a, len, cap, elems, rest, n, _, h0, _, _, hle, _, hel, hE, _⟩
 ·simp [Value.cells] at h0
  obtain ⟨rfl, rfl, rfl⟩ := h0
  exact ⟨[], none, 0, rfl, SM.nil⟩
 simp [Value.cells] at h0
 obtain ⟨rfl, rfl, rfl⟩ := h0
 have hc : Tryz.prog.cellsOf 4 = 1 := by kernel_rfl
 rw [hc] at hE
 obtain ⟨bs, hb1, hb2⟩ := list_of (p := fun i (b : Bool) => W.cell? (a.add i) = some (.bool b)) (n := len0) (fun i hi => by
  have h1 := hE i hi
  rw [List.getElem?_eq_getElem (by omega), Option.bind_eq_some_iff, Nat.mul_one] at h1
  obtain ⟨cs, h2, h3⟩ := h1
  obtain ⟨_, h4, h5⟩ := World.cells?_some h2
  obtain ⟨c, rfl⟩ : ∃ c, cs = [c] := by
   match cs, h4 with
   | [c], _ => exact ⟨c, rfl⟩
  obtain ⟨b, e, _⟩ := DataW.trod_bool Tryz.underlying4 h3
  cases e
  have h6 := h5 0 (by omega)
  have e0 : (a.add i).add 0 = a.add i := by simp [Addr.add]
  rw [e0] at h6
  exact ⟨b, h6⟩)
 refine ⟨bs, some a, cap0, by rw [hb1], wJs fun i u hu => ?_⟩
 have hi := (List.getElem?_eq_some_iff.1 hu).1
 rw [wDd, List.length_map] at hi
 rw [wDd, List.getElem?_map, List.getElem?_eq_getElem hi, Option.map_some, Option.some.injEq] at hu
 rw [hb2 i hi, hu]
end
section
variable {H : Type} {enc : TypeId × Value → H} {W : World}
theorem open_ni2 {fuel : Nat} {v : Value} {x : DataW H × List MemPlace} (h : DataW.trod enc Tryz.prog W 0 (fun _ => true) true fuel 30 [v] = some x) : ∃ xs : List Int, NI (wHf W) v xs ∧ ∀ d ∈ xs, -9223372036854775808 ≤ d ∧ d ≤ 9223372036854775807 := by
 rcases open_ints Tryz.underlying30 Tryz.underlying3 (by kernel_rfl) h with ⟨h0, _⟩ | ⟨a, len, cap, zs, h0, _, hle, _, hall, _, hcell, hwf⟩
 ·cases h0; exact ⟨[], ⟨none, 0, rfl, Nat.le_refl _, SM.nil⟩, fun _ h => by cases h⟩
 cases h0
 simp only [if_true] at hall
 have hl : (zs.take len).length = len := by rw [List.length_take]; omega
 refine ⟨zs.take len, ⟨some a, cap, by rw [hl], by rw [hl]; exact hle, wJs fun i u hu => ?_⟩, fun d hd => int_wf (hwf d (List.mem_of_mem_take hd))⟩
 have hi : i < len := by
  have := (List.getElem?_eq_some_iff.1 hu).1
  rw [wBc, hl] at this; exact this
 rw [hcell i (by omega)]
 simp only [wAw, List.getElem?_map, List.getElem?_take, hi, if_true, List.getElem?_eq_getElem (show i < zs.length by omega), Option.map_some, Option.some.injEq] at hu
 rw [← hu]
 simp [List.getD, List.getElem?_eq_getElem (show i < zs.length by omega)]
set_option maxRecDepth 100000 in
theorem open_pool2 {base : Nat} {v : Value} {d : DataW H} {p : List MemPlace} (hval : Value.okWide Tryz.prog W .any base 32 v) (h : DataW.Trod enc Tryz.prog W 0 (fun _ => true) true 32 v d p) : ∃ q : Po, PT (wHf W) v q ∧ (0 ≤ q.gen ∧ q.gen < 4294967296) ∧ (0 ≤ q.next ∧ q.next < 4294967296) ∧ (-9223372036854775808 ≤ q.root ∧ q.root ≤ 9223372036854775807) ∧ ∀ d ∈ q.dead, -9223372036854775808 ≤ d ∧ d ≤ 9223372036854775807 := by
 obtain ⟨cs, rfl, hsz⟩ := okWide_struct Tryz.underlying32 hval
 obtain ⟨c0, c1, c2, c3, c4, c5, c6, c7, rfl⟩ := array8 (hsz.trans (by kernel_rfl))
 obtain ⟨fuel, hf⟩ := h
 obtain ⟨y0, y1, y2, y3, y4, n, _, h0, h1, h2, h3, h4⟩ := trod_struct5 Tryz.underlying32 hf
 have e28 : Tryz.prog.cellsOf 28 = 4 := by kernel_rfl
 have e29 : Tryz.prog.cellsOf 29 = 1 := by kernel_rfl
 have e3 : Tryz.prog.cellsOf 3 = 1 := by kernel_rfl
 have e30 : Tryz.prog.cellsOf 30 = 1 := by kernel_rfl
 have h0' : DataW.trod enc Tryz.prog W 0 (fun _ => true) true n 28 [c0, c1, c2, c3] = some y0 := by simpa [e28, Value.cells] using h0
 have h1' : DataW.trod enc Tryz.prog W 0 (fun _ => true) true n 29 [c4] = some y1 := by simpa [e29, Value.cells] using h1
 have h2' : DataW.trod enc Tryz.prog W 0 (fun _ => true) true n 3 [c5] = some y2 := by simpa [e3, Value.cells] using h2
 have h3' : DataW.trod enc Tryz.prog W 0 (fun _ => true) true n 29 [c6] = some y3 := by simpa [e29, Value.cells] using h3
 have h4' : DataW.trod enc Tryz.prog W 0 (fun _ => true) true n 30 [c7] = some y4 := by simpa [e30, Value.cells] using h4
 obtain ⟨s, g1, g2, g3, g4⟩ := open_st h0'
 obtain ⟨gen, e1, -, hw1⟩ := DataW.trod_int Tryz.underlying29 h1'
 cases e1
 obtain ⟨root, e2, -, hw2⟩ := DataW.trod_int Tryz.underlying3 h2'
 cases e2
 obtain ⟨next, e3', -, hw3⟩ := DataW.trod_int Tryz.underlying29 h3'
 cases e3'
 obtain ⟨dead, g5, g6⟩ := open_ni2 h4'
 exact ⟨⟨s, gen, root, next, dead⟩, ⟨c0, c1, c2, c3, c7, rfl, g1, g2, g3, g4, g5⟩, u32_wf hw1, u32_wf hw3, int_wf hw2, g6⟩
end
end Go.Proofs.YtbhkdjheooknfaaGreat
