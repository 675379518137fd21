/- Quiet operations on strings and interfaces; bytes of a string. No statement of the seat is proved here. -/
import Derived.Test.YtdjaehgadehnfaaGreatDoorCtq
import Derived.Lib.ConvBytes
namespace Go.Proofs.YtdjaehgadehnfaaGreatDoor
set_option linter.unusedVariables false
set_option linter.unusedSimpArgs false
open Go.RowKit Go.MapKept

section
variable {P : Program} {ops : Array Oper} {N : Fs} {F : Fr} {E : Ent} {M : Mem} {L : Lc} {o : Oper}
theorem toList_beq (a b : Str) : (a.toList == b.toList) = decide (a = b) := by
  have h : ∀ z : Str, z.toList = z.data.toList := fun z => by
    show ByteArray.toList z = _
    simp [ByteArray.toList_eq]
  rw [h, h]
  by_cases e : a = b
  · subst e; simp
  · rw [decide_eq_false e]
    simp only [beq_eq_false_iff_ne, ne_eq]
    intro h2; exact e (by cases a; cases b; congr 1; exact Array.toList_inj.1 h2)
theorem qStrEql {x y : Operand} {t t' : TypeId} {a b : Str} (hg : gd ops F o = some true) (ho : o.op = .binOp .eql t x y t') (hx : ev F x = some (.string a)) (hy : ev F y = some (.string b)) [ht : Und P t .string] : QF P ops N F M L o (.bool (decide (a = b))) := qf_of hg fun ac ha w _ => by
  have : (binOp .eql t (.string a) (.string b)).run P w = .ok (.bool (decide (a = b))) w := by
    simp [binOp, Op.stringOp, ← toList_beq]
  simp only [execOp, ho, ha.ev hx, ha.ev hy]
  simp [eqGuard, this]
theorem qStrNeq {x y : Operand} {t t' : TypeId} {a b : Str} (hg : gd ops F o = some true) (ho : o.op = .binOp .neq t x y t') (hx : ev F x = some (.string a)) (hy : ev F y = some (.string b)) [ht : Und P t .string] : QF P ops N F M L o (.bool (decide (a ≠ b))) := qf_of hg fun ac ha w _ => by
  have : (binOp .neq t (.string a) (.string b)).run P w = .ok (.bool (!decide (a = b))) w := by
    simp [binOp, Op.stringOp, ← toList_beq]
  simp only [execOp, ho, ha.ev hx, ha.ev hy, ne_eq, decide_not]
  simp [eqGuard, this]
class UndI (P : Program) (t : TypeId) : Prop where
  h : P.underlying t = some (.interface (P.methodsAt t))
theorem qIfNil {x : Operand} {t t' : TypeId} (hg : gd ops F o = some true) (ho : o.op = .binOp .neq t x (.const .nilIface) t') (hx : ev F x = some .nilIface) (ht : P.underlying t = some (.interface (P.methodsAt t))) : QF P ops N F M L o (.bool false) := qf_of hg fun ac ha w _ => by
  have := run_neq_nil_nil (P := P) w t ht
  simp only [execOp, ho, ha.ev hx, show ac.eval (.const .nilIface) = .nilIface from rfl]
  simp [eqGuard, this]
theorem qIfErr {x : Operand} {t t' u : TypeId} {p : Value} (hg : gd ops F o = some true) (ho : o.op = .binOp .neq t x (.const .nilIface) t') (hx : ev F x = some (.iface u p)) (ht : P.underlying t = some (.interface (P.methodsAt t))) : QF P ops N F M L o (.bool true) := qf_of hg fun ac ha w _ => by
  have := run_neq_held_nil (P := P) w t u p ht
  simp only [execOp, ho, ha.ev hx, show ac.eval (.const .nilIface) = .nilIface from rfl]
  simp [eqGuard, this]
/-- bytes of a string -/
theorem hConvBy {x : Operand} {s d e : TypeId} {st : Str} (hg : gd ops F o = some true) (ho : o.op = .convert s d x) (hx : ev F x = some (.string st)) [hs : Und P s .string] [hd : Und P d (.slice e)] [he : Und P e (.int .u8)] :
    HF P ops N F E M L o (fun v M' L' => M = M' ∧ ∃ b c ob, v = .slice (some ⟨b, 0, none⟩) st.data.toList.length c ∧ L' = (b, ob) :: L ∧ st.data.toList.length ≤ c ∧ ∃ (cs : List Value) (fz : Nat × Nat), ob = .cells cs.toArray e fz ∧ cs.take st.data.toList.length = bcells st.data.toList) := hf_of hg fun a w ha hw => by
  have hr := Lib.run_convert_string_bytes (P := P) w s d e st hs.h hd.h he.h
  have hb := Lib.bytesWorld_at_new w e st
  have hsz := Lib.bytesWorld_size w e st
  have hbl : Below w.heap.size w (Lib.bytesWorld w e st) := Lib.bytesWorld_below w e st
  refine ⟨_, Lib.bytesWorld w e st, M, (w.heap.size, .cells (Lib.bytesCells w e st) e ((Lib.bytesCells w e st).size, (Lib.bytesCells w e st).size + 1)) :: L, .inl ?_, ?_, rfl, w.heap.size, grownCap w st.size 0 e, _, by rw [Array.length_toList], rfl, by rw [Array.length_toList]; exact grownCap_ge w st.size 0 e, (Lib.bytesCells w e st).toList, _, rfl, ?_⟩
  · simp [execOp, ho, ha.ev hx, hr]
  · have h1 := St.closed _ _ _ _ _ hw hbl
    refine { h1 with locs := fun p hp => ?_, nodup := ?_ }
    · rcases List.mem_cons.1 hp with rfl | hp
      · refine ⟨hb, .inl hw.size, ?_⟩
        cases hm : M w.heap.size with
        | none => rfl
        | some y => exact absurd (heap_lt (hw.agree _ _ hm)) (by omega)
      · exact h1.locs p hp
    · rw [List.map_cons, List.nodup_cons]
      refine ⟨fun h => ?_, hw.nodup⟩
      obtain ⟨p, hp, e2⟩ := List.mem_map.1 h
      have := heap_lt (hw.locs p hp).1
      rw [e2] at this; omega
  · unfold Lib.bytesCells
    have hl : (st.data.map fun b => Value.int .u8 b.toNat).toList = bcells st.data.toList := by unfold bcells; rw [Array.toList_map]
    rw [Array.toList_append, hl]
    exact List.take_left' (by rw [bcells_len])
/-- an element of an array that is no block -/
theorem qIdxV {x ix : Operand} {t e : TypeId} {n sz by_ : Nat} {z cs : List Value} {k : IntKind} {i : Int} {v : Value} {d : TypeDesc} (hg : gd ops F o = some true) (ho : o.op = .index t x ix) (hx : ev F x = some (.agg cs.toArray)) (hi : ev F ix = some (.int k i))
    [ht : Und P t (.array n e)] [hl : Lay P e sz by_ z] [hd : Und P e d] (h : 0 ≤ i ∧ i < n) (hv : (match aggD d with | true => Value.agg ((cs.drop (i.toNat * sz)).take sz).toArray | false => (cs[i.toNat * sz]?).getD undef) = v) (hin : i.toNat * sz < cs.length) : QF P ops N F M L o v := qf_of hg fun ac hac w hw => by
  obtain ⟨ti, zv, hi1, hi2, _⟩ := hl.info
  have e1 : execOp ac.eval o = (do let v ← Instr.index t (ac.eval x) (ac.eval ix); pure (.value v)) := by simp [execOp, ho]
  cases hagg : aggD d with
  | true =>
    rw [hagg] at hv
    subst hv
    have hex : cs.toArray.extract (i.toNat * sz) (i.toNat * sz + sz) = ((cs.drop (i.toNat * sz)).take sz).toArray := by
      apply Array.ext'
      simp [List.drop_take]
    simp [execOp, ho, hac.ev hx, hac.ev hi, Instr.index, asIntOf, run_underlying ht.h, h, sizeOf, typeInfo, hi1, hi2, part, run_isAgg hd.h, hagg, hex]
  | false =>
    rw [hagg] at hv
    have hv2 : cs[i.toNat * sz]? = some v := by
      subst hv
      simp [hin]
    simp [execOp, ho, hac.ev hx, hac.ev hi, Instr.index, asIntOf, run_underlying ht.h, h, sizeOf, typeInfo, hi1, hi2, part, run_isAgg hd.h, hagg, hv2]
/-- an array literal -/
theorem qBuildA {t e : TypeId} {n : Nat} {ps : List (Nat × Operand)} {vs : List (Nat × Value)} {sz by_ sz2 by2 : Nat} {z z2 cs : List Value} (hg : gd ops F o = some true) (ho : o.op = .build t ps.toArray) (hv : evp F ps = some vs) [ht : Und P t (.array n e)] [hl : Lay P t sz by_ z] [he : Lay P e sz2 by2 z2]
    (hc : fillL (fun i => some (i * sz2, sz2)) z vs = some cs) : QF P ops N F M L o (.agg cs.toArray) := qf_of hg fun a ha w _ => by
  obtain ⟨ti, zv, hi, _, _, hz, hz2⟩ := hl.info
  obtain ⟨ti2, zv2, hi2, hs2, _⟩ := he.info
  have h3 := ha.evp hv
  have h4 : ((ps.toArray).map fun x => (x.1, a.eval x.2)).toList = vs := by rw [← h3]; simp
  have h5 := fill_eq _ _ _ _ hc
  simp only [execOp, ho]
  simp [Instr.build, zeroValue, typeInfo, hi, hz, hz2, run_underlying ht.h, sizeOf, hi2, hs2, h4, h3, h5]
end
end Go.Proofs.YtdjaehgadehnfaaGreatDoor
