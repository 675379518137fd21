/- Quiet operations on strings and interfaces; bytes of a string. No statement of the seat is proved here. -/
import Derived.Test.YtokljhkplbkggaaGreatDoorZHo
import Derived.Test.YtokljhkplbkggaaGreatDoorZRp
import Derived.Test.YtokljhkplbkggaaGreatDoorZShelf
import Derived.StringKeys
import Derived.Lib.ConvBytes
namespace Go.Proofs.YtokljhkplbkggaaGreatDoor
set_option linter.unusedVariables false
set_option linter.unusedSectionVars false
set_option linter.unusedSimpArgs false
open Go.RowKit Go.Maps Go.Sort Go.Shelf Go.MapKept
theorem clonemap_spec (M : Mem) (mb : Nat) (mo : Obj) (l : List (Str × Value)) (hb : M mb = some mo) (hm : MapOf kS mo l) :
    SpecL Tryz.prog 108 #[.map (some mb)] M [] fun u M' L' => M' = M ∧ ∃ b, u = .map (some b) ∧ L' = [(b, mo)] := by
  intro w hw
  obtain ⟨es, clock, rfl, _⟩ := hm
  have h := AnyW.maps_Clone cloneA mb es clock w (hw.agree _ _ hb)
  change Calls Tryz.prog 108 _ _ _ at h
  refine h.mono ?_
  rintro e w' ⟨rfl, rfl⟩
  exact ⟨_, M, _, rfl, ⟨rfl, _, rfl, rfl⟩, hw.alloc (.map es clock)⟩
theorem clonenil_spec (M : Mem) : SpecL Tryz.prog 108 #[.map none] M [] fun u M' L' => M' = M ∧ u = .map none ∧ L' = [] := by
  intro w hw
  have h := AnyW.maps_Clone_nil cloneA w
  change Calls Tryz.prog 108 _ _ _ at h
  refine h.mono ?_
  rintro e w' ⟨rfl, rfl⟩
  exact ⟨_, M, [], rfl, ⟨rfl, rfl, rfl⟩, hw⟩
theorem clonenm_spec (M : Mem) (x : CF) (hx : x.Ok) (hV : ∀ p ∈ x.nR, M p.1 = some p.2) :
    SpecL Tryz.prog 108 #[x.nm] M [] fun u M' L' => M' = M ∧ ∃ o, u = .map o ∧ ∀ b dv dR, NmOk { x with b := b, dv := dv, dR := dR, nm := .map o, nR := L' } := by
  rcases hx.nmo with ⟨h1, mb, mo, h2, h3, h4⟩ | ⟨h1, h2, h3, h4⟩
  · rw [h2]
    refine (clonemap_spec M mb mo _ (hV (mb, mo) (by rw [h3]; simp)) h4).mono ?_
    rintro u M' L' ⟨rfl, b, rfl, rfl⟩
    exact ⟨rfl, _, rfl, fun b dv dR => .inl ⟨h1, _, mo, rfl, rfl, h4⟩⟩
  rw [h2]
  refine (clonenil_spec M).mono ?_
  rintro u M' L' ⟨rfl, rfl, rfl⟩
  exact ⟨rfl, _, rfl, fun b dv dR => .inr ⟨h1, rfl, rfl, h4⟩⟩
theorem sortsA (m : Nat) : AnyZ.SortsIn Tryz.prog sortedA_ren Fence.wide m :=
  ⟨fun blk off cap ss W hH hblk hsz => callsIn_wide.2 (AnyM.slices_Sort_string sortA blk off cap ss W hH hblk hsz),
   fun p cap W => callsIn_wide.2 (AnyM.slices_Sort_string_none sortA p cap W)⟩
theorem und_str : Tryz.prog.underlying 9 = some .string := by kernel_rfl
abbrev Rnil : Value → Option (DataW Unit × List MemPlace) := fun _ => some (.nil, [])
theorem encStr_of (s : Str) : encStr s.data.toList = .string s := by simp [encStr]
theorem leStr_is (x y : Str) : wHw x y = decide (x.data.toList ≤ y.data.toList) := by
  have h : ∀ z : Str, z.toList = z.data.toList := fun z => by
    show ByteArray.toList z = _
    simp [ByteArray.toList_eq]
  unfold wHw; rw [h, h]
def keyStr (e : MapEntry) : Str := match e.key with
  | .string s => s
  | _ => .empty
theorem owns_of {w : World} {b : Nat} {mo : Obj} {l : List (Str × Value)} (hb : w.heap[b]? = some mo) (hm : MapOf kS mo l) (hw : ∀ p ∈ l, p.1.size ≤ 64) (hlen : l.length ≤ 1000000) :
    ∃ D0 : DataW Unit, w.ownsMap Tryz.prog 9 Rnil b l.length D0 ∧ (strKeys D0).Perm (l.map fun p => p.1.data.toList) ∧ Maps.size D0 = l.length := by
  obtain ⟨es, clock, rfl, h1, h2, h3⟩ := hm
  have hmem : ∀ e ∈ es.toList, e.key = .string (keyStr e) ∧ (keyStr e).size ≤ 64 := fun e he => by
    have := h3.mem_iff.1 (List.mem_map_of_mem he)
    obtain ⟨q, hq, hqe⟩ := List.mem_map.1 this
    have hk : e.key = .string q.1 := (congrArg Prod.fst hqe).symm
    have : keyStr e = q.1 := by unfold keyStr; rw [hk]
    exact ⟨by rw [this]; exact hk, by rw [this]; exact hw q hq⟩
  have hl : es.size = l.length := by have := h3.length_eq; simpa [wKm] using this
  have hrd : ∀ e ∈ es.toList, keyOf Tryz.prog 9 e.key = some (.string (keyStr e).data.toList) := fun e he => by
    rw [(hmem e he).1]; exact Go.WideMaps.keyOf_string_mk und_str (by have := (hmem e he).2; unfold maxLen; omega)
  have hrg : es.toList.map (Go.WideElems.rg Tryz.prog 9 Rnil) = es.toList.map fun e => (Lit.string (keyStr e).data.toList, (DataW.nil : DataW Unit)) := by
    refine List.map_congr_left fun e he => ?_
    simp [Go.WideElems.rg, Go.WideElems.rd, hrd e he]
  refine ⟨_, ⟨es, clock, hb, ⟨?_, h1, ?_⟩, by omega, rfl⟩, ?_, ?_⟩
  · rw [hl]; unfold maxLen; omega
  · intro x hx
    exact ⟨(.string (keyStr x).data.toList, .nil), by simp [Go.WideElems.rd, hrd x hx]⟩
  · show (List.map _ _).Perm _
    rw [hrg]
    refine ((WideShapes.sorted_perm _).map _).trans ?_
    simp only [List.map_map, Function.comp_def, strOf]
    have h4 : (es.toList.map (fun e => (keyStr e).data.toList)) = ((es.toList.map kv).map fun q => (match q.1 with | .string s => s | _ => ByteArray.empty).data.toList) := by
      rw [List.map_map]; rfl
    rw [h4]
    refine (h3.map _).trans ?_
    unfold wKm
    rw [List.map_map]
    exact List.Perm.refl _
  show List.length _ = _
  rw [length_sorted]; simp [hl]
theorem sortedS_spec (M : Mem) (b c : Nat) (mo : Obj) (l : List (Str × Value)) (hb : M b = some mo) (hc : M c = some (.cells [.map (some b)].toArray 125 (0, 0))) (hm : MapOf kS mo l) (hw : ∀ p ∈ l, p.1.size ≤ 64) (hlen : l.length ≤ 1000000) :
    SpecL Tryz.prog 93 #[.func (.func 111) #[] #[.pointer (some ⟨c, 0, none⟩)]] M [] fun v M' L' => M' = M ∧ Nms v L' ((l.map (·.1)).mergeSort wHw) := by
  intro w hst
  have hbw := hst.agree _ _ hb
  have hcw := hst.agree _ _ hc
  obtain ⟨D0, hown, hperm, hsize⟩ := owns_of hbw hm hw hlen
  have hseq : SeqGives Fence.wide 2 Tryz.prog 111 #[.pointer (some ⟨c, 0, none⟩)] encStr (fun ss => ss.Perm (strKeys D0)) (Maps.size D0) w :=
    AnyZ.keys_gives (ρ := mkeysA_ren) { mkeysA with } Fence.wide _ trivial rfl (by omega) c b _ D0 w (wEp hcw) (by simp [World.cell?, hcw]) hown
  have cS := AnyZ.sorted_in sortedA Fence.wide 5 trivial trivial trivial trivial rfl (by omega) (sortsA _) (enters_of Tryz.func110 (by kernel_rfl) rfl) 111 #[.pointer (some ⟨c, 0, none⟩)] trivial (enters_of Tryz.func111 (by kernel_rfl) rfl) (fun ss => ss.Perm (strKeys D0)) (Maps.size D0) (by rw [hsize]; unfold maxLen; omega) (by rw [hsize]; omega) w hseq
  change CallsIn _ _ Tryz.prog 93 _ _ _ at cS
  refine ((callsIn_wide (n := 5)).1 cS).mono ?_
  rintro e w' ⟨v, ss, rfl, hS, hrow, hnil, hbel⟩
  have hst' := St.closed _ _ _ _ _ hst hbel
  have hsort : (ss.mergeSort fun x y => decide (x ≤ y)).map encStr = ((l.map (·.1)).mergeSort wHw).map Value.string := by
    have h1 : (ss.mergeSort fun x y => decide (x ≤ y)) = (l.map fun p => p.1.data.toList).mergeSort leB := mergeSort_of_perm (hS.trans hperm)
    have h2 : ((l.map (·.1)).mergeSort wHw).map (fun s : Str => s.data.toList) = (l.map fun p => p.1.data.toList).mergeSort leB := by
      rw [List.map_mergeSort (s := leB) (fun a _ b _ => leStr_is a b), List.map_map]; rfl
    rw [h1, ← h2, List.map_map]
    refine List.map_congr_left fun s _ => encStr_of s
  have hlss : ss.length = ((l.map (·.1)).mergeSort wHw).length := by
    have := (hS.trans hperm).length_eq
    rw [List.length_mergeSort]; simpa using this
  rw [hsort, hlss] at hrow
  have hlen2 := hrow.1
  rcases hrow.2 with ⟨rfl, hz⟩ | ⟨g, cap, cur, rfl, hbase, hg, r1, r2, r3, r4⟩
  · exact ⟨_, M, [], rfl, ⟨rfl, hlen2, .inl ⟨rfl, hz, rfl⟩⟩, hst'⟩
  refine ⟨_, M, [(g, .cells cur 9 (0, 0))], rfl, ⟨rfl, hlen2, .inr ⟨g, cap, cur, rfl, rfl, r1, r2, r3, r4⟩⟩, ?_⟩
  refine { hst' with locs := fun p hp => ?_, nodup := by simp }
  rw [List.mem_singleton.1 hp]
  refine ⟨hg, .inl hbase, ?_⟩
  cases hm : M g with
  | none => rfl
  | some x => exact absurd (wEp (hst.agree _ _ hm)) (by have : w.heap.size ≤ g := hbase; omega)
end Go.Proofs.YtokljhkplbkggaaGreatDoor
namespace Go.Proofs.YtokljhkplbkggaaGreatDoor
set_option linter.unusedVariables false
set_option linter.unusedSimpArgs false
open Go.RowKit Go.Maps Go.Sort Go.Shelf Go.MapKept
structure TabsW (w : World) : Prop where
 mx : ∃ m, w.cell? ⟨splitA_ren.g 1, 0, none⟩ = some (.int .i64 m)
 e1 : ∃ ev, w.cell? ⟨atoiA_ren.g 15, 0, none⟩ = some ev ∧ (ev = .nilIface ∨ ∃ te pe, ev = .iface te pe)
 e2 : ∃ ev, w.cell? ⟨atoiA_ren.g 16, 0, none⟩ = some ev ∧ (ev = .nilIface ∨ ∃ te pe, ev = .iface te pe)
 p10 : Lib.TabIs Tryz.prog w "internal/strconv.uint64pow10" .u64 Lib.pow10Tab
def Tabs (M : Mem) : Prop := ∀ w : World, (∀ b o, M b = some o → w.heap[b]? = some o) → TabsW w
theorem Tabs.mono {M M' : Mem} (h : Tabs M) (hM : MLe M M') : Tabs M' := fun w hw => h w fun b o hb => hw b o (hM b o hb)
abbrev wHc : Str := ⟨#[47]⟩
def wFp (s : Str) : List Str := Lib.splitB wHc 0 (Lib.countB s wHc) s
theorem splitS_len (s : Str) : (wFp s).length = Lib.countB s wHc + 1 := Lib.splitB_all wHc (by decide) 0 _ s rfl
theorem splitS_le (s : Str) : (wFp s).length ≤ s.size + 1 := by have := Lib.countB_le wHc (by decide) s.size s (Nat.le_refl _); rw [splitS_len]; omega
theorem split_spec (s : Str) (M : Mem) (hT : Tabs M) (hs : s.size ≤ 1000000) :
  SpecL Tryz.prog 14 #[.string s, .string wHc] M [] fun u M' L' => M' = M ∧ ∃ g, u = .slice (some ⟨g, 0, none⟩) (wFp s).length (wFp s).length ∧ L' = [(g, .cells ((wFp s).map Value.string).toArray 9 (0, 0))] := by
 intro w hw
 obtain ⟨m, hm⟩ := (hT w hw.agree).mx
 have h := Any.strings_Split { splitA with } splitA.i9 s wHc m w (by omega) hm (by decide)
 change Calls Tryz.prog 14 _ _ _ at h
 rw [← splitS_len] at h
 refine h.mono ?_
 rintro e w' ⟨rfl, rfl⟩
 exact ⟨_, M, _, rfl, ⟨rfl, _, rfl, rfl⟩, hw.alloc (.cells ((wFp s).map Value.string).toArray 9 (0, 0))⟩
theorem itoa_spec (n : Int) (M : Mem) (hT : Tabs M) (h0 : wJw n) :
  SpecL Tryz.prog 16 #[.int .i64 n] M [] fun u _ _ => u = .string ⟨(Lib.itoa n).toArray⟩ := by
 intro w hw
 have h := Any.strconv_Itoa itoaA n h0.1 h0.2 w (hT w hw.agree).p10
 change Calls Tryz.prog 16 _ _ _ at h
 refine h.mono ?_
 rintro e w' ⟨rfl, k, os, rfl⟩
 have hb : Below w.heap.size w (grow (w.drewN k) os) := ⟨rfl, rfl, rfl, by simp [grow, World.drewN], fun j hj => by simp [grow, World.drewN, Array.getElem?_append_left hj]⟩
 exact ⟨_, M, [], rfl, rfl, St.closed _ _ _ _ _ hw hb⟩
def numS (s : Str) : Option Int := match Lib.atoiAll s.data.toList with
 | .ok v => some v
 | _ => none
theorem atoi_spec (s : Str) (M : Mem) (hT : Tabs M) (hs : s.size ≤ 1000000) :
  SpecL Tryz.prog 15 #[.string s] M [] fun u M' L' => M' = M ∧ L' = [] ∧ ((∃ v, numS s = some v ∧ u = .tuple #[.int .i64 v, .nilIface]) ∨ (numS s = none ∧ ∃ v N, u = .tuple #[.int .i64 v, .iface (atoiA_ren.t 168) (.pointer (some ⟨N, 0, none⟩))])) := by
 intro w hw
 rcases hn : Lib.atoiAll s.data.toList with v | _ | _
 ·have h := Any.strconv_Atoi_ok atoiA s (by omega) v hn w
  change Calls Tryz.prog 15 _ _ _ at h
  refine h.mono ?_
  rintro e w' ⟨rfl, hw'⟩
  refine ⟨_, M, [], rfl, ⟨rfl, rfl, .inl ⟨v, by unfold numS; rw [hn], rfl⟩⟩, ?_⟩
  rcases hw' with rfl | ⟨t, rfl⟩
  ·exact hw
  exact St.closed _ _ _ _ _ hw (Lib.bytesWorld_below w _ t)
 ·obtain ⟨ev, h1, h2⟩ := (hT w hw.agree).e1
  have h := Any.strconv_Atoi_syntax atoiA s (by omega) hn ev w h1 h2
  change Calls Tryz.prog 15 _ _ _ at h
  refine h.mono ?_
  rintro e w' ⟨N, rfl, _, _, hb⟩
  exact ⟨_, M, [], rfl, ⟨rfl, rfl, .inr ⟨by unfold numS; rw [hn], _, N, rfl⟩⟩, St.closed _ _ _ _ _ hw hb⟩
 obtain ⟨ev, h1, h2⟩ := (hT w hw.agree).e2
 have h := Any.strconv_Atoi_range atoiA s (by omega) hn ev w h1 h2
 change Calls Tryz.prog 15 _ _ _ at h
 refine h.mono ?_
 rintro e w' ⟨N, rfl, _, _, hb⟩
 exact ⟨_, M, [], rfl, ⟨rfl, rfl, .inr ⟨by unfold numS; rw [hn], _, N, rfl⟩⟩, St.closed _ _ _ _ _ hw hb⟩
def badB (b : UInt8) : Bool := decide (b.toNat < 33) || decide (126 < b.toNat)
def wFq (s : Str) : Bool := decide (1 ≤ s.size) && decide (s.size ≤ 8) && !(s.data.toList.any badB)
def wLh : List Str → Option Wy
 | a :: b :: l => if a = ⟨#[]⟩ then (match numS b with
  | none => none
  | some v => if b.size ≤ 9 ∧ (⟨(Lib.itoa v).toArray⟩ : Str) = b ∧ 0 ≤ v ∧ l.all wFq = true then some (v, l) else none) else none
 | _ => none
def wAy (s : Str) : Option Wy := if s.size ≤ 64 then wLh (wFp s) else none
end Go.Proofs.YtokljhkplbkggaaGreatDoor
namespace Go.Proofs.YtokljhkplbkggaaGreatDoor
set_option linter.unusedVariables false
set_option linter.unusedSimpArgs false
open Go.RowKit Go.MapKept
section
variable {P : Program} {ops : Array Oper} {N : Fs} {F : Fr} {E : Ent} {M : Mem} {L : Lc} {o : Oper}
theorem toList_beq (a b : Str) : (a.toList == b.toList) = decide (a = b) := by
 have h : ∀ z : Str, z.toList = z.data.toList := fun z => by
  show ByteArray.toList z = _
  simp [ByteArray.toList_eq]
 rw [h, h]
 by_cases e : a = b
 ·subst e; simp
 rw [decide_eq_false e]
 simp only [beq_eq_false_iff_ne, ne_eq]
 intro h2; exact e (by cases a; cases b; congr 1; exact Array.toList_inj.1 h2)
theorem qStrEql {x y : Operand} {t t' : TypeId} {a b : Str} (hg : gd ops F o = some true) (ho : o.op = .binOp .eql t x y t') (hx : ev F x = some (.string a)) (hy : ev F y = some (.string b)) [ht : Und P t .string] : QF P ops N F M L o (.bool (decide (a = b))) := wDw hg fun ac ha w _ => by
 have : (binOp .eql t (.string a) (.string b)).run P w = .ok (.bool (decide (a = b))) w := by
  simp [binOp, Op.stringOp, ← toList_beq]
 simp only [execOp, ho, ha.ev hx, ha.ev hy]
 simp [eqGuard, this]
theorem wGq {x y : Operand} {t t' : TypeId} {a b : Str} (hg : gd ops F o = some true) (ho : o.op = .binOp .neq t x y t') (hx : ev F x = some (.string a)) (hy : ev F y = some (.string b)) [ht : Und P t .string] : QF P ops N F M L o (.bool (decide (a ≠ b))) := wDw hg fun ac ha w _ => by
 have : (binOp .neq t (.string a) (.string b)).run P w = .ok (.bool (!decide (a = b))) w := by
  simp [binOp, Op.stringOp, ← toList_beq]
 simp only [execOp, ho, ha.ev hx, ha.ev hy, ne_eq, decide_not]
 simp [eqGuard, this]
class UndI (P : Program) (t : TypeId) : Prop where
 h : P.underlying t = some (.interface (P.methodsAt t))
theorem qIfNil {x : Operand} {t t' : TypeId} (hg : gd ops F o = some true) (ho : o.op = .binOp .neq t x (.const .nilIface) t') (hx : ev F x = some .nilIface) (ht : P.underlying t = some (.interface (P.methodsAt t))) : QF P ops N F M L o (.bool false) := wDw hg fun ac ha w _ => by
 have := run_neq_nil_nil (P := P) w t ht
 simp only [execOp, ho, ha.ev hx, show ac.eval (.const .nilIface) = .nilIface from rfl]
 simp [eqGuard, this]
theorem qIfErr {x : Operand} {t t' u : TypeId} {p : Value} (hg : gd ops F o = some true) (ho : o.op = .binOp .neq t x (.const .nilIface) t') (hx : ev F x = some (.iface u p)) (ht : P.underlying t = some (.interface (P.methodsAt t))) : QF P ops N F M L o (.bool true) := wDw hg fun ac ha w _ => by
 have := run_neq_held_nil (P := P) w t u p ht
 simp only [execOp, ho, ha.ev hx, show ac.eval (.const .nilIface) = .nilIface from rfl]
 simp [eqGuard, this]
theorem hConvBy {x : Operand} {s d e : TypeId} {st : Str} (hg : gd ops F o = some true) (ho : o.op = .convert s d x) (hx : ev F x = some (.string st)) [hs : Und P s .string] [hd : Und P d (.slice e)] [he : Und P e (.int .u8)] :
  HF P ops N F E M L o (fun v M' L' => M = M' ∧ ∃ b c ob, v = .slice (some ⟨b, 0, none⟩) st.data.toList.length c ∧ L' = (b, ob) :: L ∧ st.data.toList.length ≤ c ∧ ∃ (cs : List Value) (fz : Nat × Nat), ob = .cells cs.toArray e fz ∧ cs.take st.data.toList.length = wAn st.data.toList) := wJc hg fun a w ha hw => by
 have hr := Lib.run_convert_string_bytes (P := P) w s d e st hs.h hd.h he.h
 have hb := Lib.bytesWorld_at_new w e st
 have hsz := Lib.bytesWorld_size w e st
 have hbl : Below w.heap.size w (Lib.bytesWorld w e st) := Lib.bytesWorld_below w e st
 refine ⟨_, Lib.bytesWorld w e st, M, (w.heap.size, .cells (Lib.bytesCells w e st) e ((Lib.bytesCells w e st).size, (Lib.bytesCells w e st).size + 1)) :: L, .inl ?_, ?_, rfl, w.heap.size, grownCap w st.size 0 e, _, by rw [Array.length_toList], rfl, by rw [Array.length_toList]; exact grownCap_ge w st.size 0 e, (Lib.bytesCells w e st).toList, _, rfl, ?_⟩
 ·simp [execOp, ho, ha.ev hx, hr]
 ·have h1 := St.closed _ _ _ _ _ hw hbl
  refine { h1 with locs := fun p hp => ?_, nodup := ?_ }
  ·rcases List.mem_cons.1 hp with rfl | hp
   ·refine ⟨hb, .inl hw.size, ?_⟩
    cases hm : M w.heap.size with
    | none => rfl
    | some y => exact absurd (wEp (hw.agree _ _ hm)) (by omega)
   exact h1.locs p hp
  rw [List.map_cons, List.nodup_cons]
  refine ⟨fun h => ?_, hw.nodup⟩
  obtain ⟨p, hp, e2⟩ := List.mem_map.1 h
  have := wEp (hw.locs p hp).1
  rw [e2] at this; omega
 unfold Lib.bytesCells
 have hl : (st.data.map fun b => Value.int .u8 b.toNat).toList = wAn st.data.toList := by unfold wAn; rw [Array.toList_map]
 rw [Array.toList_append, hl]
 exact List.take_left' (by rw [wBd])
theorem qIdxV {x ix : Operand} {t e : TypeId} {n sz by_ : Nat} {z cs : List Value} {k : IntKind} {i : Int} {v : Value} {d : TypeDesc} (hg : gd ops F o = some true) (ho : o.op = .index t x ix) (hx : ev F x = some (.agg cs.toArray)) (hi : ev F ix = some (.int k i))
  [ht : Und P t (.array n e)] [hl : Lay P e sz by_ z] [hd : Und P e d] (h : 0 ≤ i ∧ i < n) (hv : (match aggD d with | true => Value.agg ((cs.drop (i.toNat * sz)).take sz).toArray | false => (cs[i.toNat * sz]?).getD undef) = v) (hin : i.toNat * sz < cs.length) : QF P ops N F M L o v := wDw hg fun ac hac w hw => by
 obtain ⟨ti, zv, hi1, hi2, _⟩ := hl.info
 have e1 : execOp ac.eval o = (do let v ← Instr.index t (ac.eval x) (ac.eval ix); pure (.value v)) := by simp [execOp, ho]
 cases hagg : aggD d with
 | true =>
  rw [hagg] at hv
  subst hv
  have hex : cs.toArray.extract (i.toNat * sz) (i.toNat * sz + sz) = ((cs.drop (i.toNat * sz)).take sz).toArray := by
   apply Array.ext'
   simp [List.drop_take]
  simp [execOp, ho, hac.ev hx, hac.ev hi, Instr.index, asIntOf, run_underlying ht.h, h, sizeOf, typeInfo, hi1, hi2, part, wEm hd.h, hagg, hex]
 | false =>
  rw [hagg] at hv
  have hv2 : cs[i.toNat * sz]? = some v := by
   subst hv
   simp [hin]
  simp [execOp, ho, hac.ev hx, hac.ev hi, Instr.index, asIntOf, run_underlying ht.h, h, sizeOf, typeInfo, hi1, hi2, part, wEm hd.h, hagg, hv2]
theorem qBuildA {t e : TypeId} {n : Nat} {ps : List (Nat × Operand)} {vs : List (Nat × Value)} {sz by_ sz2 by2 : Nat} {z z2 cs : List Value} (hg : gd ops F o = some true) (ho : o.op = .build t ps.toArray) (hv : evp F ps = some vs) [ht : Und P t (.array n e)] [hl : Lay P t sz by_ z] [he : Lay P e sz2 by2 z2]
  (hc : fillL (fun i => some (i * sz2, sz2)) z vs = some cs) : QF P ops N F M L o (.agg cs.toArray) := wDw hg fun a ha w _ => by
 obtain ⟨ti, zv, hi, _, _, hz, hz2⟩ := hl.info
 obtain ⟨ti2, zv2, hi2, hs2, _⟩ := he.info
 have h3 := ha.evp hv
 have h4 : ((ps.toArray).map fun x => (x.1, a.eval x.2)).toList = vs := by rw [← h3]; simp
 have h5 := fill_eq _ _ _ _ hc
 simp only [execOp, ho]
 simp [Instr.build, zeroValue, typeInfo, hi, hz, hz2, run_underlying ht.h, sizeOf, hi2, hs2, h4, h3, h5]
end
end Go.Proofs.YtokljhkplbkggaaGreatDoor
