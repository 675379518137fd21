/- Opening arguments: texts in a row; a reply. No statement of the seat is proved here. -/
import Derived.Test.YtokljhkplbkggaaGreatDoorZLaw
import Derived.Test.YtokljhkplbkggaaGreatDoorZSame
import Derived.Test.YtokljhkplbkggaaGreatDoorRows
import Derived.Lib.SmallJoins
import Derived.Handed
import Derived.HandedShaped
import Derived.LaidMore
import Derived.MakeChecks
import Derived.Lib.LaidTab
import Derived.Stop.LaidErr
import Derived.Stop.Joined
import Derived.OpenShut
import Derived.Test.YtokljhkplbkggaaGreatDoorZPlay
namespace Go.Proofs.YtokljhkplbkggaaGreatDoor
set_option linter.unusedSimpArgs false
set_option linter.unusedVariables false
set_option linter.unusedSectionVars false
open Go.ChangeShapes Go.WideShapes Go.ChangeAt Go.RowKit Go.Joins Go.MapKept
section
variable {H : Type} {enc : TypeId × Value → H}
theorem returns_sh {a : Assume} {C : Checked} {os : Os} {f : FuncId} {fn : Func} {s : ChangeSpec} {conds : List PathCond} {apart fresh handsOn again : Bool} {X : World → Array Value → Prop}
  (hX : ∀ (w w' : World) (args : Array Value), w.heap = w'.heap → X w args → X w' args)
  (own : ownKnob C.prog.godebug = none) (started : os.Started) (noInit : C.prog.inits.idxOf? f = none) (hfn : C.prog.funcs[f]? = some fn)
  (witness : ∃ (w : World) (tape : Tape) (i : Input), w.os = os ∧ (w.forCall tape i).Shaped C.prog ∧ i.vars = [] ∧ Input.okWide C.prog (w.forCall tape i) .any w.heap.size f i ∧
   ((s.pre enc C.prog fn conds apart (w.forCall tape i).memory i.args ∧ X (w.forCall tape i).memory i.args) ∧ sizedMet enc C.prog fn (OpenSpec.ofChange s) apart (w.forCall tape i).memory i.args) ∧ a.holds C.prog (lone (Frame.enter C.prog f i.args .normal) [] (w.forCall tape i)))
  (contract : ∀ (W : World) (base : Nat) (args : Array Value) (ds gs : List (DataW H)) (before : List MemPlace),
   (∀ (j : Nat) t v, fn.params[j]? = some t → args[j]? = some v → Value.okWide C.prog W .any base t v) →
   DataW.Whole enc C.prog fn.params.toList s.vars apart W args.toList ds gs before → X W args → W.ShapedOpen C.prog →
   Calls C.prog f args W fun e W' => ∃ v, e = .returned v ∧ s.post enc C.prog fn apart fresh handsOn again W args v W') :
  ReturnsInHanded a C os f .any (fun w args => (s.pre enc C.prog fn conds apart w args ∧ X w args) ∧ sizedMet enc C.prog fn (OpenSpec.ofChange s) apart w args) (s.post enc C.prog fn apart fresh handsOn again) := by
 refine returnsInHanded_of_calls own started noInit witness ?_
 intro w tape i _ hsh _ hok hpre _
 obtain ⟨_, _, _, fn', hfn', _, _, _, _, hval⟩ := hok
 have e : fn' = fn := Option.some.inj (hfn'.symm.trans hfn)
 subst e
 obtain ⟨⟨⟨ds, gs, before, hw, _⟩, hx⟩, _⟩ := hpre
 have hw' := DataW.Whole.of_heap (w' := w.forCall tape i) (by rfl) hw
 refine (contract (w.forCall tape i) w.heap.size i.args ds gs before hval hw' (hX _ _ _ (by rfl) hx) hsh).mono fun e W' ⟨v, he, hp⟩ => ?_
 subst he
 exact ChangeSpec.post_blind hp
end
theorem cell_spot {W : World} {a : Addr} {v : Value} (h : W.cell? a = some v) : ∃ c e fz, W.heap[a.block]? = some (.cells c e fz) ∧ a.spot = none ∧ c[a.off]? = some v := by
 unfold World.cell? at h
 split at h
 ·rename_i c e fz hh
  split at h
  ·cases h
  rename_i hs; exact ⟨c, e, fz, hh, by simpa using hs, h⟩
 cases h
theorem add_none {b off j : Nat} : (⟨b, off, none⟩ : Addr).add j = ⟨b, off + j, none⟩ := by unfold Addr.add; split <;> simp_all
theorem sm_cells {W : World} {a : Addr} {cs : List Value} (h : ∀ i u, cs[i]? = some u → W.cell? (a.add i) = some u) : SM (wLj W) (some a) cs := by
 cases cs with
 | nil => exact .inl rfl
 | cons u us =>
  obtain ⟨c0, e0, fz0, hb, hs, _⟩ := cell_spot (h 0 u rfl)
  obtain ⟨b, off, spot⟩ := a
  simp [Addr.add] at hs
  subst hs
  refine .inr ⟨b, off, rfl, fun i v hv => ?_⟩
  obtain ⟨c1, e1, fz1, hb1, _, hg⟩ := cell_spot (h i v hv)
  rw [add_none] at hb1 hg
  exact ⟨c1, e1, fz1, hb1, hg⟩
theorem list_of {α : Type} {p : Nat → α → Prop} : ∀ {n : Nat}, (∀ i, i < n → ∃ x, p i x) → ∃ l : List α, l.length = n ∧ ∀ i (h : i < l.length), p i l[i]
 | 0, _ => ⟨[], rfl, fun i h => absurd h (Nat.not_lt_zero i)⟩
 | n + 1, h => by
  obtain ⟨l, h1, h2⟩ := list_of (n := n) (fun i hi => h i (by omega))
  obtain ⟨x, hx⟩ := h n (by omega)
  refine ⟨l ++ [x], by simp [h1], fun i hi => ?_⟩
  by_cases h3 : i < l.length
  ·rw [List.getElem_append_left h3]; exact h2 i h3
  obtain rfl : i = n := by rw [List.length_append, List.length_singleton] at hi; omega
  rw [List.getElem_append_right (by omega)]; simpa using hx
def bOf (x : Int) : By := UInt8.ofNat x.toNat
theorem bOf_is {x : Int} (h : 0 ≤ x ∧ x < 256) : ((bOf x).toNat : Int) = x := by
 unfold bOf
 rw [UInt8.toNat_ofNat_of_lt' (by show x.toNat < 256; omega)]; omega
section
variable {H : Type} {enc : TypeId × Value → H} {W : World}
theorem open_bsm {fuel : Nat} {v : Value} {x : DataW H × List MemPlace} (h : DataW.trod enc Tryz.prog W 0 (fun _ => true) true fuel 24 [v] = some x) : ∃ (xs : List By) (a : Option Addr) (c : Nat), v = .slice a xs.length c ∧ xs.length ≤ c ∧ c ≤ maxLen ∧ SM (wLj W) a (wAn xs) := by
 rcases open_ints Tryz.underlying24 Tryz.underlying5 (by kernel_rfl) h with ⟨h0, _⟩ | ⟨a, len, cap, zs, h0, _, hle, hmx, hall, _, hcell, hwf⟩
 ·cases h0; exact ⟨[], none, 0, rfl, Nat.le_refl _, Nat.zero_le _, .inl rfl⟩
 cases h0
 simp only [if_true] at hall
 have hw : ∀ n ∈ zs, ((bOf n).toNat : Int) = n := fun n hn => bOf_is (u8_wf (hwf n hn))
 have hl : ((zs.take len).map bOf).length = len := by rw [List.length_map, List.length_take]; omega
 refine ⟨(zs.take len).map bOf, some a, cap, by rw [hl], by rw [hl]; exact hle, hmx, sm_cells fun i u hu => ?_⟩
 have hi : i < len := by
  have := (List.getElem?_eq_some_iff.1 hu).1
  rw [wBd, hl] at this; exact this
 rw [hcell i (by omega)]
 simp only [wAn, List.getElem?_map, List.getElem?_take, hi, if_true, List.getElem?_eq_getElem (show i < zs.length by omega), Option.map_some, Option.some.injEq] at hu
 rw [← hu, hw _ (List.getElem_mem _)]
 simp [List.getD, List.getElem?_eq_getElem (show i < zs.length by omega)]
set_option maxRecDepth 100000 in
theorem open_call {fuel : Nat} {cs : List Value} {x : DataW H × List MemPlace} (h : DataW.trod enc Tryz.prog W 0 (fun _ => true) true fuel 45 cs = some x) : ∃ q : QC, cs = cF q ∧ RawC (wLj W) q := by
 obtain ⟨xs, n, _, rfl, hl, hlen, hf⟩ := DataW.trod_struct Tryz.underlying45 h
 rw [show Tryz.prog.cellsOf 45 = 7 by kernel_rfl] at hl
 have e1 : Tryz.prog.cellsOf 5 = 1 := by kernel_rfl
 have e2 : Tryz.prog.cellsOf 9 = 1 := by kernel_rfl
 have e3 : Tryz.prog.cellsOf 3 = 1 := by kernel_rfl
 have e4 : Tryz.prog.cellsOf 24 = 1 := by kernel_rfl
 match cs, hl, xs, hlen with
 | [c0, c1, c2, c3, c4, c5, c6], _, [y0, y1, y2, y3, y4, y5, y6], _ =>
  have g0 := hf 0 _ rfl
  have g1 := hf 1 _ rfl
  have g2 := hf 2 _ rfl
  have g3 := hf 3 _ rfl
  have g4 := hf 4 _ rfl
  have g5 := hf 5 _ rfl
  have g6 := hf 6 _ rfl
  simp only [e1, e2, e3, e4, List.drop_succ_cons, List.drop_zero, List.take_succ_cons, List.take_zero, List.getElem?_cons_zero, List.getElem?_cons_succ] at g0 g1 g2 g3 g4 g5 g6
  obtain ⟨k, r0, -, w0⟩ := DataW.trod_int Tryz.underlying5 g0
  obtain ⟨p, r1, -, w1⟩ := DataW.trod_string Tryz.underlying9 g1
  obtain ⟨o, r2, -, w2⟩ := DataW.trod_string Tryz.underlying9 g2
  obtain ⟨a, r3, -, w3⟩ := DataW.trod_int Tryz.underlying3 g3
  obtain ⟨b, r4, -, w4⟩ := DataW.trod_int Tryz.underlying3 g4
  obtain ⟨c, r5, -, w5⟩ := DataW.trod_int Tryz.underlying3 g5
  obtain ⟨bs, ba, bc, r6, k1, k2, k3⟩ := open_bsm g6
  cases r0; cases r1; cases r2; cases r3; cases r4; cases r5; cases r6
  have := u8_wf w0
  exact ⟨({ kind := k, path := p, other := o, a := a, b := b, c := c, data := bs }, ba, bc), rfl, ⟨k3, k1, k2, ⟨w1, w2⟩, ⟨this.1, by show k ≤ 255; omega⟩, int_wf w3, int_wf w4, int_wf w5⟩⟩
theorem open_calls {fuel : Nat} {v : Value} {x : DataW H × List MemPlace} (h : DataW.trod enc Tryz.prog W 0 (fun _ => true) true fuel 22 [v] = some x) : ∃ (qs : List QC) (a : Option Addr) (c : Nat), v = .slice a qs.length c ∧ qs.length ≤ c ∧ c ≤ maxLen ∧ CsR (wLj W) a qs := by
 rcases DataW.trod_slice Tryz.underlying22 h with ⟨h0, _⟩ | ⟨a, len, cap, elems, rest, n, _, h0, _, _, hle, hmx, hel, hE, _⟩
 ·cases h0; exact ⟨[], none, 0, rfl, Nat.le_refl _, Nat.zero_le _, .inl rfl, fun _ h => by cases h⟩
 cases h0
 have hc : Tryz.prog.cellsOf 45 = 7 := by kernel_rfl
 rw [hc] at hE
 have hadd : ∀ (b : Addr) (x y : Nat), (b.add x).add y = b.add (x + y) := fun b x y => by
  obtain ⟨bb, off, sp⟩ := b
  cases sp <;> simp [Addr.add] <;> (try split) <;> (try split) <;> simp_all <;> omega
 obtain ⟨qs, hp1, hp2⟩ := list_of (p := fun i (q : QC) => (∀ j u, (cF q)[j]? = some u → W.cell? (a.add (i * 7 + j)) = some u) ∧ RawC (wLj W) q) (n := len) (fun i hi => by
  have h1 := hE i hi
  rw [List.getElem?_eq_getElem (by omega), Option.bind_eq_some_iff] at h1
  obtain ⟨cs, h2, h3⟩ := h1
  obtain ⟨_, h4, h5⟩ := World.cells?_some h2
  obtain ⟨q, rfl, hq⟩ := open_call h3
  refine ⟨q, fun j u hu => ?_, hq⟩
  have hj : j < 7 := (List.getElem?_eq_some_iff.1 hu).1
  have h6 := h5 j hj
  rw [hadd] at h6
  rw [h6, ← hu])
 refine ⟨qs, some a, cap, by rw [hp1], by omega, hmx, sm_cells fun i u hu => ?_, fun q hq => ?_⟩
 ·have hi := (List.getElem?_eq_some_iff.1 hu).1
  rw [wDr cF 7 cF_len] at hi
  have hk : i / 7 < qs.length := by omega
  have hij : i = (i / 7) * 7 + i % 7 := by omega
  have hm : i % 7 < 7 := by omega
  have h1 := flat_at cF 7 cF_len qs (i / 7) hk (i % 7) hm
  rw [← hij, hu] at h1
  have := (hp2 (i / 7) hk).1 (i % 7) u h1.symm
  rw [← hij] at this; exact this
 obtain ⟨i, hi, rfl⟩ := List.mem_iff_getElem.1 hq
 exact (hp2 i hi).2
end
abbrev laidA : List (String × DataW Unit) := [("math/bits.deBruijn32tab", Rows.laid_math_bits_deBruijn32tab), ("math/bits.deBruijn64tab", Rows.laid_math_bits_deBruijn64tab), ("internal/strconv.uint64pow10", Rows.laid_internal_strconv_uint64pow10), ("unicode/utf8.acceptRanges", Rows.laid_unicode_utf8_acceptRanges), ("strconv.ErrRange", Rows.laid_strconv_ErrRange), ("strconv.ErrSyntax", Rows.laid_strconv_ErrSyntax), ("unicode/utf8.first", Rows.laid_unicode_utf8_first)]
theorem row_err (u : TypeId) (h : Tryz.prog.typeName? 3 u = some "*errors.errorString") : u = 171 :=
 typeName_ptr_named (nm := "errors.errorString") (by rw [show "*" ++ "errors.errorString" = "*errors.errorString" by decide]; kernel_rfl) (by kernel_rfl) (by decide) u (by rw [show "*" ++ "errors.errorString" = "*errors.errorString" by decide]; exact h)
theorem cell_mem {W w : World} {a : Addr} {v : Value} (h : W.cell? a = some v) (hw : ∀ (b : Nat) (o : Obj), W.heap[b]? = some o → w.heap[b]? = some o) : w.cell? a = some v := by
 obtain ⟨c, e, fz, h1, h2, h3⟩ := cell_spot h
 have := hw _ _ h1
 obtain ⟨b, off, sp⟩ := a
 simp only at h2; subst h2
 simp only at this h3
 simp [World.cell?, this, h3]
theorem var_mem {W w : World} {n : String} {cs : Array Value} (h : W.var? Tryz.prog n = some cs) (hw : ∀ (b : Nat) (o : Obj), W.heap[b]? = some o → w.heap[b]? = some o) : w.var? Tryz.prog n = some cs := by
 unfold World.var? at h ⊢
 cases hg : Tryz.prog.globalNamed n with
 | none => rw [hg] at h; cases h
 | some g =>
  rw [hg] at h
  simp only [Option.bind_some] at h ⊢
  cases ho : W.heap[g]? with
  | none => rw [ho] at h; cases h
  | some o => rw [ho] at h; rw [hw g o ho]; exact h
set_option maxRecDepth 100000 in
theorem tabs_of {W : World} (hL : laidMetH Tryz.prog laidA W) (hsh : W.ShapedOpen Tryz.prog) : Tabs (wLj W) := by
 rw [MakeChecks.laidMetH_plain _ _ _ (by kernel_rfl)] at hL
 have hp : Lib.TabIs Tryz.prog W "internal/strconv.uint64pow10" .u64 Lib.pow10Tab :=
  Lib.tabIs_of_head (g := 3) (t := 175) (e := 152) (n := 20) (by kernel_rfl) (by kernel_rfl) Tryz.underlying175 Tryz.underlying152 (by kernel_rfl) (by kernel_rfl) hL.tail.tail
 obtain ⟨a1, s1, hv1, _⟩ := laid_sentinel hL.tail.tail.tail.tail (g := 1) (ti := 58) (tp := 171) (te := 173) (ts := 9) (by kernel_rfl) (by kernel_rfl) Tryz.underlying58 row_err Tryz.underlying171 Tryz.underlying173 rfl rfl Tryz.underlying9 (by kernel_rfl) (by kernel_rfl)
 obtain ⟨a2, s2, hv2, _⟩ := laid_sentinel hL.tail.tail.tail.tail.tail (g := 0) (ti := 58) (tp := 171) (te := 173) (ts := 9) (by kernel_rfl) (by kernel_rfl) Tryz.underlying58 row_err Tryz.underlying171 Tryz.underlying173 rfl rfl Tryz.underlying9 (by kernel_rfl) (by kernel_rfl)
 have c1 : W.cell? ⟨1, 0, none⟩ = some (.iface 171 (.pointer (some a1))) := by simpa using World.var?_cell (show Tryz.prog.globalNamed "strconv.ErrRange" = some 1 by kernel_rfl) hv1 0
 have c2 : W.cell? ⟨0, 0, none⟩ = some (.iface 171 (.pointer (some a2))) := by simpa using World.var?_cell (show Tryz.prog.globalNamed "strconv.ErrSyntax" = some 0 by kernel_rfl) hv2 0
 obtain ⟨m, hm⟩ := splitA.s1_3 W hsh
 intro w hw
 exact ⟨⟨m, cell_mem hm hw⟩, ⟨_, cell_mem c2 hw, .inr ⟨_, _, rfl⟩⟩, ⟨_, cell_mem c1 hw, .inr ⟨_, _, rfl⟩⟩, var_mem hp hw⟩
section
variable {H : Type} {enc : TypeId × Value → H} {W : World}
theorem open_strs {fuel : Nat} {v : Value} {x : DataW H × List MemPlace} (h : DataW.trod enc Tryz.prog W 0 (fun _ => true) true fuel 25 [v] = some x) : ∃ l, NsP (wLj W) v l := by
 rcases DataW.trod_slice Tryz.underlying25 h with ⟨h0, _⟩ | ⟨a, len, cap, elems, rest, n, _, h0, _, _, hle, hmx, hel, hE, _⟩
 ·cases h0; exact ⟨[], none, 0, rfl, Nat.le_refl _, Nat.zero_le _, .inl rfl⟩
 cases h0
 have hc : Tryz.prog.cellsOf 9 = 1 := by kernel_rfl
 rw [hc] at hE
 obtain ⟨l, hp1, hp2⟩ := list_of (p := fun i (q : Str) => W.cell? (a.add i) = some (.string q)) (n := len) (fun i hi => by
  have h1 := hE i hi
  rw [List.getElem?_eq_getElem (by omega), Option.bind_eq_some_iff] at h1
  obtain ⟨cs, h2, h3⟩ := h1
  obtain ⟨_, h4, h5⟩ := World.cells?_some h2
  obtain ⟨q, e, _⟩ := DataW.trod_string Tryz.underlying9 h3
  subst e
  have h6 := h5 0 (by omega)
  have hadd : (a.add (i * 1)).add 0 = a.add i := by
   obtain ⟨bb, off, sp⟩ := a
   cases sp <;> simp [Addr.add]
  rw [hadd] at h6
  exact ⟨q, h6⟩)
 refine ⟨l, some a, cap, by rw [hp1], by omega, hmx, sm_cells fun i u hu => ?_⟩
 rw [List.getElem?_map] at hu
 cases hi : l[i]? with
 | none => rw [hi] at hu; cases hu
 | some q =>
  rw [hi] at hu; cases hu
  obtain ⟨h1, h2⟩ := List.getElem?_eq_some_iff.1 hi
  have := hp2 i h1
  rw [h2] at this; exact this
set_option maxRecDepth 100000 in
theorem open_reply {fuel : Nat} {cs : List Value} {x : DataW H × List MemPlace} (h : DataW.trod enc Tryz.prog W 0 (fun _ => true) true fuel 30 cs = some x) : ∃ (r : RP) (dv nv : Value), cs = rpc r dv nv ∧ BsP (wLj W) dv r.data ∧ NsP (wLj W) nv r.names := by
 obtain ⟨xs, n, _, rfl, hl, hlen, hf⟩ := DataW.trod_struct Tryz.underlying30 h
 rw [show Tryz.prog.cellsOf 30 = 8 by kernel_rfl] at hl
 have e1 : Tryz.prog.cellsOf 23 = 1 := by kernel_rfl
 have e2 : Tryz.prog.cellsOf 3 = 1 := by kernel_rfl
 have e3 : Tryz.prog.cellsOf 24 = 1 := by kernel_rfl
 have e4 : Tryz.prog.cellsOf 25 = 1 := by kernel_rfl
 have e5 : Tryz.prog.cellsOf 28 = 4 := by kernel_rfl
 have e6 : Tryz.prog.cellsOf 26 = 1 := by kernel_rfl
 have e7 : Tryz.prog.cellsOf 4 = 1 := by kernel_rfl
 match cs, hl, xs, hlen with
 | [c0, c1, c2, c3, c4, c5, c6, c7], _, [y0, y1, y2, y3, y4], _ =>
  have g0 := hf 0 _ rfl
  have g1 := hf 1 _ rfl
  have g2 := hf 2 _ rfl
  have g3 := hf 3 _ rfl
  have g4 := hf 4 _ rfl
  simp only [e1, e2, e3, e4, e5, List.drop_succ_cons, List.drop_zero, List.take_succ_cons, List.take_zero, List.getElem?_cons_zero, List.getElem?_cons_succ] at g0 g1 g2 g3 g4
  obtain ⟨k0, r0, -, _⟩ := DataW.trod_int Tryz.underlying23 g0
  obtain ⟨k1, r1, -, _⟩ := DataW.trod_int Tryz.underlying3 g1
  obtain ⟨bs, ba, bc, r2, w1, w2, w3⟩ := open_bsm g2
  obtain ⟨l, w4⟩ := open_strs g3
  obtain ⟨ys, m, _, rfl, hl2, hlen2, hf2⟩ := DataW.trod_struct Tryz.underlying28 g4
  match ys, hlen2 with
  | [z0, z1, z2, z3], _ =>
   have u0 := hf2 0 _ rfl
   have u1 := hf2 1 _ rfl
   have u2 := hf2 2 _ rfl
   have u3 := hf2 3 _ rfl
   simp only [e2, e6, e7, List.drop_succ_cons, List.drop_zero, List.take_succ_cons, List.take_zero, List.getElem?_cons_zero, List.getElem?_cons_succ] at u0 u1 u2 u3
   obtain ⟨k2, r4, -, _⟩ := DataW.trod_int Tryz.underlying26 u0
   obtain ⟨bd, r5, _⟩ := DataW.trod_bool Tryz.underlying4 u1
   obtain ⟨k3, r6, -, _⟩ := DataW.trod_int Tryz.underlying3 u2
   obtain ⟨k4, r7, -, _⟩ := DataW.trod_int Tryz.underlying3 u3
   cases r0; cases r1; cases r4; cases r5; cases r6; cases r7
   exact ⟨{ err := k0, id := k1, data := bs, names := l, sid := k2, sdir := bd, slinks := k3, ssize := k4 }, c2, c3, rfl, ⟨_, _, by cases r2; rfl, w1, w2, w3⟩, w4⟩
end
end Go.Proofs.YtokljhkplbkggaaGreatDoor
