/- THE WALKING LAYER: maps from int to any values. No statement of the seat is proved here. -/
import Derived.Test.YtjdmhbenpeedeaaGreatHm
namespace Go.Proofs.YtjdmhbenpeedeaaGreat
set_option linter.unusedVariables false
set_option linter.unusedSimpArgs false
open Go.RowKit

def entsV : Nat → List (Int × Value) → List MapEntry
  | _, [] => []
  | j, p :: l => { key := .int .i64 p.1, val := p.2, born := j } :: entsV (j + 1) l
def vObj (l : List (Int × Value)) : Obj := .map (entsV 0 l).toArray l.length
def fndV (k : Int) : List (Int × Value) → Nat → Option (Nat × Value)
  | [], _ => none
  | p :: l, i => if k = p.1 then some (i, p.2) else fndV k l (i + 1)
def getV (k : Int) : List (Int × Value) → Option Value
  | [] => none
  | p :: l => if k = p.1 then some p.2 else getV k l
def putV (k : Int) (v : Value) : List (Int × Value) → List (Int × Value)
  | [] => [(k, v)]
  | p :: l => if k = p.1 then (k, v) :: l else p :: putV k v l
theorem findNow_entsV {q : IntKind} (k : Int) : ∀ (l : List (Int × Value)) (j i : Nat), Instr.findNow (.int q) (.int .i64 k) (entsV j l) i = some (fndV k l i)
  | [], _, _ => rfl
  | p :: l, j, i => by
    rw [entsV, Instr.findNow, fndV]
    by_cases h : k = p.1
    · simp [Instr.sameNow, h]
    · have h2 : (k == p.1) = false := by simpa using h
      simp only [Instr.sameNow, if_true, h2, if_neg h]
      exact findNow_entsV k l (j + 1) (i + 1)
theorem fndV_get (k : Int) : ∀ (l : List (Int × Value)) (i : Nat), (fndV k l i = none ∧ getV k l = none) ∨ ∃ j v, fndV k l i = some (i + j, v) ∧ getV k l = some v ∧ j < l.length
  | [], _ => .inl ⟨rfl, rfl⟩
  | p :: l, i => by
    rw [fndV, getV]
    by_cases h : k = p.1
    · rw [if_pos h, if_pos h]; exact .inr ⟨0, p.2, rfl, rfl, by simp⟩
    · rw [if_neg h, if_neg h]
      rcases fndV_get k l (i + 1) with h1 | ⟨j, v, h1, h2, h3⟩
      · exact .inl h1
      · exact .inr ⟨j + 1, v, by rw [h1]; congr 2; omega, h2, by simp; omega⟩
theorem entsV_len : ∀ (l : List (Int × Value)) (j : Nat), (entsV j l).length = l.length
  | [], _ => rfl
  | p :: l, j => by simp [entsV, entsV_len l]
theorem putV_new (k : Int) (v : Value) : ∀ (l : List (Int × Value)) (i j : Nat), fndV k l i = none → entsV j (putV k v l) = entsV j l ++ [{ key := .int .i64 k, val := v, born := j + l.length }] ∧ (putV k v l).length = l.length + 1
  | [], _, j, _ => ⟨by simp [putV, entsV], rfl⟩
  | p :: l, i, j, h => by
    rw [fndV] at h
    split at h
    · cases h
    rename_i hk
    obtain ⟨h1, h2⟩ := putV_new k v l (i + 1) (j + 1) h
    rw [putV, if_neg hk]
    refine ⟨?_, by simp [h2]⟩
    rw [entsV, h1, entsV]; simp [Nat.add_comm, Nat.add_left_comm]
theorem putV_old (k : Int) (v : Value) : ∀ (l : List (Int × Value)) (i j n : Nat) (u : Value), fndV k l i = some (n, u) → i ≤ n ∧ entsV j (putV k v l) = (entsV j l).modify (n - i) (fun e => { e with key := .int .i64 k, val := v }) ∧ (putV k v l).length = l.length ∧ ∃ e, (entsV j l)[n - i]? = some e ∧ e.key = .int .i64 k
  | [], _, _, _, _, h => by cases h
  | p :: l, i, j, n, u, h => by
    rw [fndV] at h
    rw [putV]
    split at h
    · rename_i hk
      cases h
      rw [if_pos hk]
      exact ⟨Nat.le_refl _, by simp [entsV], rfl, _, by simp [entsV]; rfl, by simp [hk]⟩
    · rename_i hk
      rw [if_neg hk]
      obtain ⟨h1, h2, h3, e, h4, h5⟩ := putV_old k v l (i + 1) (j + 1) n u h
      have hn : n - i = (n - (i + 1)) + 1 := by omega
      refine ⟨by omega, ?_, by simp [h3], e, ?_, h5⟩
      · rw [entsV, h2, entsV, hn]; rfl
      · rw [entsV, hn]; simpa using h4
theorem getV_put (k : Int) (v : Value) : ∀ (l : List (Int × Value)) (x : Int), getV x (putV k v l) = if x = k then some v else getV x l
  | [], x => by simp [putV, getV]
  | p :: l, x => by
    rw [putV]
    by_cases h : k = p.1
    · rw [if_pos h, getV, getV]
      by_cases hx : x = k
      · simp [hx]
      · simp [hx, ← h]
    · rw [if_neg h, getV, getV, getV_put k v l x]
      by_cases hx : x = p.1
      · rw [if_pos hx, if_pos hx, if_neg (fun e => h (by rw [← e, hx]))]
      · rw [if_neg hx, if_neg hx]

section
variable {P : Program} {ops : Array Oper} {N : Fs} {F : Fr} {E : Ent} {M : Mem} {L : Lc} {o : Oper}
theorem hMakeMapV {t : TypeId} (hg : gd ops F o = some true) (ho : o.op = .makeMap t none) :
    HF P ops N F E M L o (fun v M' L' => ∃ b, v = .map (some b) ∧ M = M' ∧ L' = (b, vObj []) :: L) := hf_of hg fun a w ha hw =>
  ⟨_, _, M, _, .inl (by simp [execOp, ho, Instr.makeMap, newObj]; rfl), hw.alloc (vObj []), _, rfl, rfl, rfl⟩
theorem run_lookupV {t kt et : TypeId} (ht : P.underlying t = some (.map kt et)) (hk : P.underlying kt = some (.int .i64)) {w : World} {z : Value} (hz : (zeroValue et).run P w = .ok z w) {b : Nat} {l : List (Int × Value)} (hb : w.heap[b]? = some (vObj l)) (k : Int) (c : Bool) :
    (Instr.lookup t (.map (some b)) (.int .i64 k) c).run P w = .ok (if c then .tuple #[(getV k l).getD z, .bool (getV k l).isSome] else (getV k l).getD z) w := by
  have hik : MapKept.IsKey (.int .i64) (.int .i64 k) := by simp [MapKept.IsKey]
  have hf : Instr.findNow (.int .i64) (.int .i64 k) (entsV 0 l).toArray.toList 0 = some (fndV k l 0) := findNow_entsV k l 0 0
  have h1 := MapKept.run_getObj_map (P := P) (w := w) (r := b) (es := (entsV 0 l).toArray) (clock := l.length) hb
  rcases fndV_get k l 0 with ⟨h2, h3⟩ | ⟨j, v, h2, h3, _⟩
  · rw [h2] at hf
    simp [Instr.lookup, run_underlying ht, h1, MapKept.run_checkKey hk hik, MapKept.run_findKey hk hf, Result.andThen, hz, h3]
  · rw [h2] at hf
    simp [Instr.lookup, run_underlying ht, h1, MapKept.run_checkKey hk hik, MapKept.run_findKey hk hf, Result.andThen, h3]
theorem zero_run {et : TypeId} {z : Value} (he : (P.info? et).bind (·.zero) = some z) (w : World) : (zeroValue et).run P w = .ok z w := by
  cases hi : P.info? et with
  | none => rw [hi] at he; cases he
  | some ti =>
    rw [hi] at he
    have hz : ti.zero = some z := he
    simp [zeroValue, typeInfo, hi, hz]
theorem qLookupV {t kt et : TypeId} {x y : Operand} {b : Nat} {k : Int} {l : List (Int × Value)} {z : Value} (hg : gd ops F o = some true) (ho : o.op = .lookup t x y false) (hx : ev F x = some (.map (some b))) (hy : ev F y = some (.int .i64 k))
    [ht : Und P t (.map kt et)] [hk : Und P kt (.int .i64)] [at_ : At b (vObj l) L] (he : (P.info? et).bind (·.zero) = some z) : QF P ops N F M L o ((getV k l).getD z) := qf_of hg fun a ha w hw => by
  have := run_lookupV (P := P) ht.h hk.h (zero_run he w) (hw.locs _ at_.mem) k false
  simp only [Bool.false_eq_true, if_false] at this
  simp [execOp, ho, ha.ev hx, ha.ev hy, this]
theorem qLookupOk {t kt et : TypeId} {x y : Operand} {b : Nat} {k : Int} {l : List (Int × Value)} {z : Value} (hg : gd ops F o = some true) (ho : o.op = .lookup t x y true) (hx : ev F x = some (.map (some b))) (hy : ev F y = some (.int .i64 k))
    [ht : Und P t (.map kt et)] [hk : Und P kt (.int .i64)] [at_ : At b (vObj l) L] (he : (P.info? et).bind (·.zero) = some z) : QF P ops N F M L o (.tuple #[(getV k l).getD z, .bool (getV k l).isSome]) := qf_of hg fun a ha w hw => by
  have := run_lookupV (P := P) ht.h hk.h (zero_run he w) (hw.locs _ at_.mem) k true
  simp only [if_true] at this
  simp [execOp, ho, ha.ev hx, ha.ev hy, this]
theorem run_mapPutV {t kt et : TypeId} (ht : P.underlying t = some (.map kt et)) (hk : P.underlying kt = some (.int .i64)) {w : World} {b : Nat} {l : List (Int × Value)} (hb : w.heap[b]? = some (vObj l)) (k : Int) (v : Value) :
    (Instr.mapUpdate t (.map (some b)) (.int .i64 k) v).run P w = .ok () { w with heap := w.heap.setIfInBounds b (vObj (putV k v l)) } := by
  have hik : MapKept.IsKey (.int .i64) (.int .i64 k) := by simp [MapKept.IsKey]
  have hf : Instr.findNow (.int .i64) (.int .i64 k) (entsV 0 l).toArray.toList 0 = some (fndV k l 0) := findNow_entsV k l 0 0
  have h1 := MapKept.run_getObj_map (P := P) (w := w) (r := b) (es := (entsV 0 l).toArray) (clock := l.length) hb
  cases h2 : fndV k l 0 with
  | none =>
    rw [h2] at hf
    obtain ⟨e1, e2⟩ := putV_new k v l 0 0 h2
    have e3 : vObj (putV k v l) = .map ((entsV 0 l).toArray.push { key := .int .i64 k, val := v, born := l.length }) (l.length + 1) := by
      unfold vObj; rw [e1, e2]; simp
    simp [Instr.mapUpdate, run_underlying ht, h1, MapKept.run_checkKey hk hik, MapKept.run_findKey hk hf, Result.andThen, MapKept.run_setObj_map _ (show w.heap[b]? = some (.map (entsV 0 l).toArray l.length) from hb), e3]
  | some r =>
    obtain ⟨n, u⟩ := r
    rw [h2] at hf
    obtain ⟨_, e1, e2, e, e4, e5⟩ := putV_old k v l 0 0 n u h2
    have e3 : vObj (putV k v l) = .map ((entsV 0 l).toArray.modify n (fun e => { e with key := .int .i64 k, val := v })) l.length := by
      unfold vObj; rw [e1, e2]; simp
    have e6 : (entsV 0 l)[n]? = some e := by simpa using e4
    simp [Instr.mapUpdate, run_underlying ht, h1, MapKept.run_checkKey hk hik, MapKept.run_findKey hk hf, Result.andThen, e6, e5, MapKept.run_keyThatStays hik, MapKept.run_setObj_map _ (show w.heap[b]? = some (.map (entsV 0 l).toArray l.length) from hb), e3]
theorem hMapPutV {t kt et : TypeId} {x y z : Operand} {b : Nat} {k : Int} {v : Value} {l : List (Int × Value)} {L' : Lc} (hg : gd ops F o = some true) (ho : o.op = .mapUpdate t x y z ∨ o.op = .insert t x y z) (hx : ev F x = some (.map (some b))) (hy : ev F y = some (.int .i64 k)) (hz : ev F z = some v)
    [ht : Und P t (.map kt et)] [hk : Und P kt (.int .i64)] [at_ : At b (vObj l) L] [hp : PutAt b (vObj l) (vObj (putV k v l)) L L'] : HF P ops N F E M L o (fun _ M' L'' => M = M' ∧ L'' = L') := hf_of hg fun a w ha hw => by
  have hb : w.heap[b]? = some (vObj l) := (hw.locs (b, vObj l) at_.mem).1
  obtain ⟨A, B, rfl, rfl⟩ := hp.ex
  have hr := run_mapPutV (P := P) ht.h hk.h hb k v
  refine ⟨undef, { w with heap := w.heap.setIfInBounds b (vObj (putV k v l)) }, M, _, .inr ⟨rfl, ?_⟩, hw.setObj rfl rfl rfl (by simp) (MapKept.heap_set hb).1 (fun k hk => (MapKept.heap_set hb).2 k hk), rfl, rfl⟩
  rcases ho with ho | ho <;> simp [execOp, ho, ha.ev hx, ha.ev hy, ha.ev hz, hr]
end
end Go.Proofs.YtjdmhbenpeedeaaGreat
