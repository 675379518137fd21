/- THE WALKING LAYER, fifth part: slices of slices, literals, copy, make, strings. No statement of the seat is proved here. -/
import Derived.Test.YtdjaehgadehnfaaGreatDoorHd
namespace Go.Proofs.YtdjaehgadehnfaaGreatDoor
set_option linter.unusedVariables false
set_option linter.unusedSimpArgs false
open Go.RowKit

/-- a bound of a slice expression -/
inductive Bd (F : Fr) : Option Operand → Nat → Nat → Prop
  | no (d : Nat) : Bd F none d d
  | of {y : Operand} {k : IntKind} {i : Int} {d v : Nat} (h : ev F y = some (.int k i)) (h0 : 0 ≤ i) (hv : i.toNat = v) : Bd F (some y) d v
def slA (a : Option Addr) (l m s : Nat) : Option Addr := if m = l then a else a.map (·.add (l * s))
theorem slA_some {b off l m s : Nat} (h : l < m) : slA (some ⟨b, off, none⟩) l m s = some ⟨b, off + l * s, none⟩ := by
  have : m ≠ l := by omega
  have hadd : ∀ j, (⟨b, off, none⟩ : Addr).add j = ⟨b, off + j, none⟩ := fun j => by unfold Addr.add; split <;> simp_all
  simp [slA, this, hadd]
theorem slA_zero {a : Option Addr} {m s : Nat} : slA a 0 m s = a := by
  unfold slA; split
  · rfl
  · cases a <;> simp [Addr.add]

section
variable {P : Program} {ops : Array Oper} {N : Fs} {F : Fr} {E : Ent} {M : Mem} {L : Lc} {o : Oper}

theorem run_bound {y : Value} {k : IntKind} {i : Int} {v d : Nat} {code : BoundsCode} (hy : y = .int k i) (h0 : 0 ≤ i) (hv : i.toNat = v) (hle : v ≤ d) (w : World) : (Instr.sliceBound y d code).run P w = .ok v w := by
  subst hy hv
  have : 0 ≤ i ∧ i ≤ d := ⟨h0, by omega⟩
  simp [Instr.sliceBound, asIntOf, this]
theorem run_bounds {a : Act} (ha : Has N F a) {isS : Bool} {len cap l h m : Nat} {lo hi mx : Option Operand} (hm : Bd F mx cap m) (hh : Bd F hi len h) (hl : Bd F lo 0 l) (hlh : l ≤ h) (hhm : h ≤ m) (hmc : m ≤ cap) (hok : mx = none ∨ hi ≠ none) (w : World) :
    (Instr.sliceBounds isS len cap (lo.map a.eval) (hi.map a.eval) (mx.map a.eval)).run P w = .ok (l, h, m) w := by
  unfold Instr.sliceBounds
  cases hm with
  | no =>
    cases hh with
    | no => cases hl with
      | no => simp
      | of e1 e2 e3 => simp [run_bound (P := P) (ha.ev e1) e2 e3 hlh]
    | of f1 f2 f3 => cases hl with
      | no => simp [run_bound (P := P) (ha.ev f1) f2 f3 hhm]
      | of e1 e2 e3 => simp [run_bound (P := P) (ha.ev e1) e2 e3 hlh, run_bound (P := P) (ha.ev f1) f2 f3 hhm]
  | of g1 g2 g3 =>
    cases hh with
    | no => simp at hok
    | of f1 f2 f3 => cases hl with
      | no => simp [run_bound (P := P) (ha.ev f1) f2 f3 hhm, run_bound (P := P) (ha.ev g1) g2 g3 hmc]
      | of e1 e2 e3 => simp [run_bound (P := P) (ha.ev e1) e2 e3 hlh, run_bound (P := P) (ha.ev f1) f2 f3 hhm, run_bound (P := P) (ha.ev g1) g2 g3 hmc]
/-- a slice of a slice -/
theorem qSl {x : Operand} {t e : TypeId} {lo hi mx : Option Operand} {a : Option Addr} {len cap l h m sz by_ : Nat} {z : List Value} (hg : gd ops F o = some true) (ho : o.op = .slice t x lo hi mx) (hx : ev F x = some (.slice a len cap)) [ht : Und P t (.slice e)] [hs : Lay P e sz by_ z]
    (hm : Bd F mx cap m) (hh : Bd F hi len h) (hl : Bd F lo 0 l) (hle : l ≤ h ∧ h ≤ m ∧ m ≤ cap) (hok : mx = none ∨ hi ≠ none) : QF P ops N F M L o (.slice (slA a l m sz) (h - l) (m - l)) := qf_of hg fun ac hac w _ => by
  obtain ⟨ti, v, hi1, hi2, _⟩ := hs.info
  have hb := run_bounds (P := P) hac (isS := true) hm hh hl hle.1 hle.2.1 hle.2.2 hok w
  simp only [execOp, ho, Instr.sliceAt, Sem.run_bind, run_underlying ht.h, Result.andThen_ok, Instr.slice, hac.ev hx, hb, sizeOf, typeInfo, run_program, hi1, Sem.run_pure, hi2, slA]
/-- a slice of an array -/
theorem qSlA {x : Operand} {t e : TypeId} {lo hi mx : Option Operand} {b off n l h m sz by_ : Nat} {z : List Value} (hg : gd ops F o = some true) (ho : o.op = .slice t x lo hi mx) (hx : ev F x = some (.pointer (some ⟨b, off, none⟩))) [ht : Und P t (.array n e)] [hs : Lay P e sz by_ z]
    (hm : Bd F mx n m) (hh : Bd F hi n h) (hl : Bd F lo 0 l) (hle : l ≤ h ∧ h ≤ m ∧ m ≤ n) (hok : mx = none ∨ hi ≠ none) : QF P ops N F M L o (.slice (slA (some ⟨b, off, none⟩) l m sz) (h - l) (m - l)) := qf_of hg fun ac hac w _ => by
  obtain ⟨ti, v, hi1, hi2, _⟩ := hs.info
  have hb := run_bounds (P := P) hac (isS := false) hm hh hl hle.1 hle.2.1 hle.2.2 hok w
  have e : slA (some ⟨b, off, none⟩) l m sz = some (if m = l then (⟨b, off, none⟩ : Addr) else (⟨b, off, none⟩ : Addr).add (l * sz)) := by unfold slA; split <;> rfl
  simp only [execOp, ho, Instr.sliceAt, Sem.run_bind, run_underlying ht.h, Result.andThen_ok, Instr.sureAddr, hac.ev hx, hb, sizeOf, typeInfo, run_program, hi1, Sem.run_pure, hi2, e]

/-! ### struct literals, slice literals -/
/-- v's cells laid at their places -/
def fillL (place : Nat → Option (Nat × Nat)) : List Value → List (Nat × Value) → Option (List Value)
  | cs, [] => some cs
  | cs, (i, v) :: rest => match place i with
    | some (off, size) => bif Nat.beq v.cells.toList.length size && Nat.ble (off + size) cs.length then fillL place (cs.take off ++ v.cells.toList ++ cs.drop (off + size)) rest else none
    | none => none
theorem foldl_put (off : Nat) : ∀ (vs : List Value) (j : Nat) (cs : List Value), off + j + vs.length ≤ cs.length →
    ((vs.zipIdx j).foldl (fun (a : Array Value) (p : Value × Nat) => a.setIfInBounds (off + p.2) p.1) cs.toArray) = (cs.take (off + j) ++ vs ++ cs.drop (off + j + vs.length)).toArray
  | [], j, cs, h => by simp
  | v :: vs, j, cs, h => by
    simp only [List.zipIdx_cons, List.foldl_cons, List.setIfInBounds_toArray]
    simp only [List.length_cons] at h
    rw [foldl_put off vs (j + 1) (cs.set (off + j) v) (by simp; omega)]
    have hlt : off + j < cs.length := by omega
    have e1 : (cs.set (off + j) v).take (off + (j + 1)) = cs.take (off + j) ++ [v] := by
      rw [← Nat.add_assoc, List.take_succ_eq_append_getElem (by simpa using hlt), List.take_set_of_le (Nat.le_refl _)]; simp
    have e2 : (cs.set (off + j) v).drop (off + (j + 1) + vs.length) = cs.drop (off + j + (vs.length + 1)) := by
      rw [List.drop_set_of_lt (by omega)]; congr 1; omega
    rw [e1, e2]; simp
theorem fill_eq (place : Nat → Option (Nat × Nat)) : ∀ (ps : List (Nat × Value)) (cs r : List Value), fillL place cs ps = some r → Instr.fill place cs.toArray ps = some r.toArray
  | [], cs, r, h => by simp [fillL] at h; simp [Instr.fill, h]
  | (i, v) :: ps, cs, r, h => by
    unfold fillL at h
    unfold Instr.fill
    cases hp : place i with
    | none => simp [hp] at h
    | some os =>
      obtain ⟨off, size⟩ := os
      simp only [hp] at h ⊢
      cases hb : (Nat.beq v.cells.toList.length size && Nat.ble (off + size) cs.length) with
      | false => rw [hb] at h; cases h
      | true =>
        rw [hb] at h
        simp only [cond_true] at h
        simp only [Bool.and_eq_true, Nat.ble_eq] at hb
        have h1 : v.cells.size = size := by rw [← Array.length_toList]; exact Nat.eq_of_beq_eq_true hb.1
        have h2 : ¬ (v.cells.size ≠ size || decide (off + v.cells.size > cs.toArray.size)) = true := by simp [h1]; omega
        have h3 := foldl_put off v.cells.toList 0 cs (by simp [h1]; omega)
        rw [if_neg (by simpa using h2)]
        simp only [Nat.add_zero, Array.length_toList, h1] at h3
        have h4 : v.cells.zipIdx.foldl (fun (a : Array Value) (p : Value × Nat) => a.setIfInBounds (off + p.2) p.1) cs.toArray = (cs.take off ++ v.cells.toList ++ cs.drop (off + size)).toArray := by
          rw [← h3, ← Array.foldl_toList]; simp
        have h5 := fill_eq place ps _ r h
        rw [← h4] at h5
        exact h5
end

/-- a struct type's fields: offset, size -/
class Plc (P : Program) (t : TypeId) (pl : outParam (List (Nat × Nat))) : Prop where
  h : (match P.underlying t with | some (.struct fs) => fs.toList.mapM (fun f => (P.info? f.type).map fun i => (f.offset, i.size)) | _ => none) = some pl
def evp (F : Fr) : List (Nat × Operand) → Option (List (Nat × Value))
  | [] => some []
  | (i, x) :: ps => match ev F x, evp F ps with
    | some v, some vs => some ((i, v) :: vs)
    | _, _ => none
theorem Has.evp {N : Fs} {F : Fr} {a : Act} (h : Has N F a) : ∀ {ps : List (Nat × Operand)} {vs : List (Nat × Value)}, evp F ps = some vs → ps.map (fun (i, x) => (i, a.eval x)) = vs
  | [], vs, hx => by simpa [Go.Proofs.YtdjaehgadehnfaaGreatDoor.evp] using hx
  | (i, x) :: ps, vs, hx => by
    unfold Go.Proofs.YtdjaehgadehnfaaGreatDoor.evp at hx
    split at hx
    · rename_i v us h1 h2
      cases hx
      simp [h.ev h1, h.evp h2]
    · cases hx

section
variable {P : Program} {ops : Array Oper} {N : Fs} {F : Fr} {E : Ent} {M : Mem} {L : Lc} {o : Oper}

theorem qBuild {t : TypeId} {ps : List (Nat × Operand)} {vs : List (Nat × Value)} {sz by_ : Nat} {z cs : List Value} {pl : List (Nat × Nat)} (hg : gd ops F o = some true) (ho : o.op = .build t ps.toArray) (hv : evp F ps = some vs) [hl : Lay P t sz by_ z] [hp : Plc P t pl]
    (hc : fillL (pl[·]?) z vs = some cs) : QF P ops N F M L o (.agg cs.toArray) := qf_of hg fun a ha w _ => by
  obtain ⟨ti, zv, hi, _, _, hz, hz2⟩ := hl.info
  have hp' := hp.h
  split at hp'
  · rename_i fs hu
    have h1 : P.built t vs = some cs.toArray := by
      have h2 : (fun i : Nat => pl.toArray[i]?) = (fun i : Nat => pl[i]?) := by funext i; simp
      simp only [Program.built, hi, hu, hz, hp', h2, hz2]
      exact fill_eq _ _ _ _ hc
    have h3 := ha.evp hv
    have h4 : ((ps.toArray).map fun x => (x.1, a.eval x.2)).toList = vs := by rw [← h3]; simp
    have h5 := run_build (P := P) w t ((ps.toArray).map fun x => (x.1, a.eval x.2)) cs.toArray (by rw [h4]; exact h1)
    simp only [execOp, ho, Sem.run_bind, h5, Result.andThen_ok, Sem.run_pure]
  · cases hp'

theorem hBuildSlice {t e : TypeId} {n : Nat} {ps : List (Nat × Operand)} {vs : List (Nat × Value)} {sz by_ : Nat} {z cs : List Value} (hg : gd ops F o = some true) (ho : o.op = .buildSlice t n ps.toArray) (hv : evp F ps = some vs) [ht : Und P t (.slice e)] [hl : Lay P e sz by_ z]
    (hc : fillL (fun i => some (i * sz, sz)) (List.replicate n z).flatten vs = some cs) (hsmall : Nat.ble (n * sz) 16777216 = true) (hpos : Nat.blt 0 sz = true) :
    HF P ops N F E M L o (fun v M' L' => ∃ b, v = .slice (some ⟨b, 0, none⟩) n n ∧ M = M' ∧ L' = (b, .cells cs.toArray e (0, 0)) :: L) := hf_of hg fun a w ha hw => by
  have hzl := hl.len
  obtain ⟨ti, zv, hi, hi2, _, hz, hz2⟩ := hl.info
  refine ⟨_, _, M, _, .inl ?_, hw.alloc (.cells cs.toArray e (0, 0)), _, rfl, rfl, rfl⟩
  have h3 := ha.evp hv
  have h4 : ((ps.toArray).map fun x => (x.1, a.eval x.2)).toList = vs := by rw [← h3]; simp
  have hs : ¬ (16777216 < n * sz) := by simpa [Nat.ble_eq] using hsmall
  have h0 : 0 < sz := by simpa [Nat.blt_eq] using hpos
  have hzz : (Array.range (n * sz)).map (fun i => z.toArray[i % z.toArray.size]!) = ((List.replicate n z).flatten).toArray := by
    have hk : ∀ n, (List.range (n * sz)).map (fun i => z[i % sz]!) = (List.replicate n z).flatten := by
      intro n
      induction n with
      | zero => simp
      | succ n ih =>
        rw [Nat.succ_mul, List.range_add, List.map_append, ih, List.replicate_succ', List.flatten_append]
        congr 1
        rw [List.map_map]
        apply List.ext_getElem
        · simp [hzl]
        · intro i h1 h2
          have hlt : i < sz := by simpa using h1
          have : (n * sz + i) % sz = i := by rw [Nat.mul_comm, Nat.mul_add_mod, Nat.mod_eq_of_lt hlt]
          simp [this, hzl, hlt]
    apply Array.ext'
    simp only [Array.toList_map, Array.toList_range]
    rw [← hk n]
    apply List.map_congr_left
    intro i hi
    simp [hzl]
  have hf := fill_eq (fun i => some (i * sz, sz)) vs _ _ hc
  by_cases hn : n * sz = 0
  · have hn0 : n = 0 := by rcases Nat.mul_eq_zero.1 hn with h | h <;> omega
    subst hn0
    simp only [List.replicate_zero, List.flatten_nil] at hf
    simp [execOp, ho, Instr.buildSlice, run_underlying ht.h, sizeOf, typeInfo, hi, hi2, h3, hf, newRow, Array.range_zero']
  · have hs' : ¬ (n * sz > 2 ^ 24) := hs
    simp only [execOp, ho, Instr.buildSlice, Sem.run_bind, run_underlying ht.h, Result.andThen_ok, sizeOf, typeInfo, run_program, hi, Sem.run_pure, hi2, if_neg hs', if_neg hn, zeroValue, hz, hz2, h4, hzz, hf]
    simp [newRow]

/-- copy into a block of one's own (elements of one cell) -/
theorem hCopy {x y : Operand} {t u e : TypeId} {b off dn dc : Nat} {sa : Option Addr} {sn sc : Nat} {l cs : List Value} {eb : TypeId} {L' : Lc} {by_ : Nat} {z : List Value} (hg : gd ops F o = some true)
    (ho : o.op = .call { callee := .builtin .copy, args := #[x, y], argTypes := #[t, u] }) (hx : ev F x = some (.slice (some ⟨b, off, none⟩) dn dc)) (hy : ev F y = some (.slice sa sn sc)) [ht : Und P t (.slice e)] [hl : Lay P e 1 by_ z]
    (hn : cs.length = min sn dn) (hcs : SJ M L sa cs) (h1 : ∀ v ∈ cs, v.oneCell' = true) [at_ : At b (.cells l.toArray eb (0, 0)) L] (hfit : off + cs.length ≤ l.length)
    [hp : PutAt b (.cells l.toArray eb (0, 0)) (.cells (l.take off ++ cs ++ l.drop (off + cs.length)).toArray eb (0, 0)) L L'] :
    HF P ops N F E M L o (fun v M' L'' => v = .int .i64 cs.length ∧ M = M' ∧ L'' = L') := hf_of hg fun a w ha hw => by
  obtain ⟨ti, zv, hi, hi2, _⟩ := hl.info
  have hb := (hw.locs _ at_.mem).1
  refine ⟨.int .i64 cs.length, _, M, L', .inl ?_, hw.put hp, rfl, rfl, rfl⟩
  have hsz : (P.info? e).map (·.size) = some 1 := by simp [hi, hi2]
  have hst := run_storeCells_at P b off eb cs 0 l.toArray w hb (by simp; omega) h1
  have hfc : (Builtin.firstCells 1 cs.length (.slice sa sn sc)).run P w = .ok cs.toArray w := by
    rcases hcs with rfl | ⟨sb, so, rfl, hc⟩
    · cases sa <;> simp [Builtin.firstCells, loadCells, loadCellsFrom]
    · have hadd : ∀ j, (⟨sb, so, none⟩ : Addr).add j = ⟨sb, so + j, none⟩ := fun j => by unfold Addr.add; split <;> simp_all
      exact run_firstCells_some (P := P) w 1 cs.length ⟨sb, so, none⟩ sn sc cs (by simp) (fun j v hv => by rw [hadd]; exact (hc j v hv).cell hw.js)
  simp [execOp, ho, resolve, invoke, builtin, ha.ev hx, ha.ev hy, Builtin.copy_, run_underlying ht.h, sizeOf, typeInfo, hi, hi2, Builtin.lenOf, ← hn, hfc, hst, goInt]

/-- make -/
theorem hMake {x y : Operand} {t e : TypeId} {k k' : IntKind} {n c : Int} {sz by_ : Nat} {z : List Value} (hg : gd ops F o = some true) (ho : o.op = .makeSlice t x y) (hx : ev F x = some (.int k n)) (hy : ev F y = some (.int k' c)) [ht : Und P t (.slice e)] [hl : Lay P e sz by_ z]
    (h : 0 ≤ n ∧ n ≤ c ∧ c ≤ 1000000000) (hby : Nat.ble by_ 100000 = true) :
    HF P ops N F E M L o (fun v M' L' => ∃ b, v = .slice (some ⟨b, 0, none⟩) n.toNat c.toNat ∧ M = M' ∧ L' = (b, .cells ((List.replicate c.toNat z).flatten).toArray e (0, 0)) :: L) := hf_of hg fun a w ha hw => by
  have hzl := hl.len
  obtain ⟨ti, zv, hi, hi2, hi3, hz, hz2⟩ := hl.info
  refine ⟨_, _, M, _, .inl ?_, hw.alloc (.cells ((List.replicate c.toNat z).flatten).toArray e (0, 0)), _, rfl, rfl, rfl⟩
  have hb : (ti.bytes : Int) * c ≤ 281474976710656 := by
    rw [hi3]
    have h1 : by_ ≤ 100000 := by simpa [Nat.ble_eq] using hby
    have h2 : (by_ : Int) * c ≤ 100000 * c := Int.mul_le_mul_of_nonneg_right (by omega) (by omega)
    omega
  have hr := run_make (P := P) w t e ti zv ht.h hi hz k k' n c h.1 h.2.1 hb (by omega)
  have hm : madeCells zv.cells (c.toNat * ti.size) = ((List.replicate c.toNat z).flatten).toArray := by
    rw [hz2, hi2]
    rcases Nat.eq_zero_or_pos sz with h0 | h0
    · subst h0
      have : z = [] := List.eq_nil_of_length_eq_zero hzl
      subst this
      simp [madeCells]
    · have hk : ∀ n, (List.range (n * sz)).map (fun i => z[i % sz]!) = (List.replicate n z).flatten := by
        intro n
        induction n with
        | zero => simp
        | succ n ih =>
          rw [Nat.succ_mul, List.range_add, List.map_append, ih, List.replicate_succ', List.flatten_append]
          congr 1
          rw [List.map_map]
          apply List.ext_getElem
          · simp [hzl]
          · intro i h1 h2
            have hlt : i < sz := by simpa using h1
            have : (n * sz + i) % sz = i := by rw [Nat.mul_comm, Nat.mul_add_mod, Nat.mod_eq_of_lt hlt]
            simp [this, hzl, hlt]
      apply Array.ext'
      rw [← hk]
      simp only [madeCells, Array.toList_map, Array.toList_range]
      apply List.map_congr_left
      intro i hi
      simp [hzl]
  rw [hm] at hr
  simp [execOp, ho, ha.ev hx, ha.ev hy, hr]

/-- the text of some bytes -/
theorem qStr {x : Operand} {s d e : TypeId} {sa : Option Addr} {n c : Nat} {xs : List Int} (hg : gd ops F o = some true) (ho : o.op = .convert s d x) (hx : ev F x = some (.slice sa n c)) [hs : Und P s (.slice e)] [he : Und P e (.int .u8)] [hd : Und P d .string]
    (hn : xs.length = n) (hc : SJ M L sa (xs.map (Value.int .u8))) : QF P ops N F M L o (.string (strOfNums xs)) := qf_of hg fun a ha w hw => by
  cases sa with
  | none =>
    have : xs = [] := by
      rcases hc with h | ⟨b, off, h, _⟩
      · simpa using h
      · cases h
    subst this
    have hr := run_convert_bytes_nil (P := P) w s e hs.h he.h n c d hd.h
    simp [execOp, ho, ha.ev hx, hr, strOfNums, ByteArray.empty, ByteArray.emptyWithCapacity]; rfl
  | some ad =>
    rcases hc with h | ⟨b, off, h, hcell⟩
    · have : xs = [] := by simpa using h
      subst this
      subst hn
      have : (convert s d (.slice (some ad) 0 c)).run P w = .ok (.string (strOfNums [])) w := by
        obtain ⟨b, off, sp⟩ := ad
        simp [convert, run_underlying hs.h, run_underlying hd.h, run_underlying he.h, Conv.bytesToString, loadCells, loadCellsFrom, strOfNums, ByteArray.empty, ByteArray.emptyWithCapacity]; rfl
      simp [execOp, ho, ha.ev hx, this]
    · cases h
      have hr := run_convert_bytes_arg (P := P) w s e hs.h he.h b off n c xs hn (fun i hi => (hcell i _ (by
        have hlt : i < xs.length := by omega
        simp [List.getD_eq_getElem?_getD, hlt])).cell hw) d hd.h
      simp [execOp, ho, ha.ev hx, hr]
end
end Go.Proofs.YtdjaehgadehnfaaGreatDoor
