/- From a contract of the law's function to what a row asks. No statement of the seat is proved here. -/
import Derived.Test.YtkcpllhggofloaaGreatZHd
import Derived.WalkSpells
import Derived.ProofKit
import Derived.Carry
namespace Go.Proofs.YtkcpllhggofloaaGreat
set_option linter.unusedVariables false
set_option linter.unusedSectionVars false
set_option linter.unusedSimpArgs false
open Go.RowKit
inductive Bd (F : Fr) : Option Operand → Nat → Nat → Prop
 | no (d : Nat) : Bd F none d d
 | of {y : Operand} {k : IntKind} {i : Int} {d v : Nat} (h : ev F y = some (.int k i)) (h0 : 0 ≤ i) (hv : i.toNat = v) : Bd F (some y) d v
def slA (a : Option Addr) (l m s : Nat) : Option Addr := if m = l then a else a.map (·.add (l * s))
theorem wBn {b off l m s : Nat} (h : l < m) : slA (some ⟨b, off, none⟩) l m s = some ⟨b, off + l * s, none⟩ := by
 have : m ≠ l := by omega
 have hadd : ∀ j, (⟨b, off, none⟩ : Addr).add j = ⟨b, off + j, none⟩ := fun j => by unfold Addr.add; split <;> simp_all
 simp [slA, this, hadd]
theorem wCx {a : Option Addr} {m s : Nat} : slA a 0 m s = a := by
 unfold slA; split
 ·rfl
 cases a <;> simp [Addr.add]
section
variable {P : Program} {ops : Array Oper} {N : Fs} {F : Fr} {E : Ent} {M : Mem} {L : Lc} {o : Oper}
theorem wFb {y : Value} {k : IntKind} {i : Int} {v d : Nat} {code : BoundsCode} (hy : y = .int k i) (h0 : 0 ≤ i) (hv : i.toNat = v) (hle : v ≤ d) (w : World) : (Instr.sliceBound y d code).run P w = .ok v w := by
 subst hy hv
 have : 0 ≤ i ∧ i ≤ d := ⟨h0, by omega⟩
 simp [Instr.sliceBound, asIntOf, this]
theorem run_bounds {a : Act} (ha : Has N F a) {isS : Bool} {len cap l h m : Nat} {lo hi mx : Option Operand} (hm : Bd F mx cap m) (hh : Bd F hi len h) (hl : Bd F lo 0 l) (hlh : l ≤ h) (hhm : h ≤ m) (hmc : m ≤ cap) (hok : mx = none ∨ hi ≠ none) (w : World) :
  (Instr.sliceBounds isS len cap (lo.map a.eval) (hi.map a.eval) (mx.map a.eval)).run P w = .ok (l, h, m) w := by
 unfold Instr.sliceBounds
 cases hm with
 | no =>
  cases hh with
  | no => cases hl with
   | no => simp
   | of e1 e2 e3 => simp [wFb (P := P) (ha.ev e1) e2 e3 hlh]
  | of f1 f2 f3 => cases hl with
   | no => simp [wFb (P := P) (ha.ev f1) f2 f3 hhm]
   | of e1 e2 e3 => simp [wFb (P := P) (ha.ev e1) e2 e3 hlh, wFb (P := P) (ha.ev f1) f2 f3 hhm]
 | of g1 g2 g3 =>
  cases hh with
  | no => simp at hok
  | of f1 f2 f3 => cases hl with
   | no => simp [wFb (P := P) (ha.ev f1) f2 f3 hhm, wFb (P := P) (ha.ev g1) g2 g3 hmc]
   | of e1 e2 e3 => simp [wFb (P := P) (ha.ev e1) e2 e3 hlh, wFb (P := P) (ha.ev f1) f2 f3 hhm, wFb (P := P) (ha.ev g1) g2 g3 hmc]
theorem qSl {x : Operand} {t e : TypeId} {lo hi mx : Option Operand} {a : Option Addr} {len cap l h m sz by_ : Nat} {z : List Value} (hg : gd ops F o = some true) (ho : o.op = .slice t x lo hi mx) (hx : ev F x = some (.slice a len cap)) [ht : Und P t (.slice e)] [hs : Lay P e sz by_ z]
  (hm : Bd F mx cap m) (hh : Bd F hi len h) (hl : Bd F lo 0 l) (hle : l ≤ h ∧ h ≤ m ∧ m ≤ cap) (hok : mx = none ∨ hi ≠ none) : QF P ops N F M L o (.slice (slA a l m sz) (h - l) (m - l)) := wFd hg fun ac hac w _ => by
 obtain ⟨ti, v, hi1, hi2, _⟩ := hs.info
 have hb := run_bounds (P := P) hac (isS := true) hm hh hl hle.1 hle.2.1 hle.2.2 hok w
 simp only [execOp, ho, Instr.sliceAt, Sem.run_bind, run_underlying ht.h, Result.andThen_ok, Instr.slice, hac.ev hx, hb, sizeOf, typeInfo, run_program, hi1, Sem.run_pure, hi2, slA]
def fillL (place : Nat → Option (Nat × Nat)) : List Value → List (Nat × Value) → Option (List Value)
 | cs, [] => some cs
 | cs, (i, v) :: rest => match place i with
  | some (off, size) => bif Nat.beq v.cells.toList.length size && Nat.ble (off + size) cs.length then fillL place (cs.take off ++ v.cells.toList ++ cs.drop (off + size)) rest else none
  | none => none
theorem foldl_put (off : Nat) : ∀ (vs : List Value) (j : Nat) (cs : List Value), off + j + vs.length ≤ cs.length →
  ((vs.zipIdx j).foldl (fun (a : Array Value) (p : Value × Nat) => a.setIfInBounds (off + p.2) p.1) cs.toArray) = (cs.take (off + j) ++ vs ++ cs.drop (off + j + vs.length)).toArray
 | [], j, cs, h => by simp
 | v :: vs, j, cs, h => by
  simp only [List.zipIdx_cons, List.foldl_cons, List.setIfInBounds_toArray]
  simp only [List.length_cons] at h
  rw [foldl_put off vs (j + 1) (cs.set (off + j) v) (by simp; omega)]
  have hlt : off + j < cs.length := by omega
  have e1 : (cs.set (off + j) v).take (off + (j + 1)) = cs.take (off + j) ++ [v] := by
   rw [← Nat.add_assoc, List.take_succ_eq_append_getElem (by simpa using hlt), List.take_set_of_le (Nat.le_refl _)]; simp
  have e2 : (cs.set (off + j) v).drop (off + (j + 1) + vs.length) = cs.drop (off + j + (vs.length + 1)) := by
   rw [List.drop_set_of_lt (by omega)]; congr 1; omega
  rw [e1, e2]; simp
theorem fill_eq (place : Nat → Option (Nat × Nat)) : ∀ (ps : List (Nat × Value)) (cs r : List Value), fillL place cs ps = some r → Instr.fill place cs.toArray ps = some r.toArray
 | [], cs, r, h => by simp [fillL] at h; simp [Instr.fill, h]
 | (i, v) :: ps, cs, r, h => by
  unfold fillL at h
  unfold Instr.fill
  cases hp : place i with
  | none => simp [hp] at h
  | some os =>
   obtain ⟨off, size⟩ := os
   simp only [hp] at h ⊢
   cases hb : (Nat.beq v.cells.toList.length size && Nat.ble (off + size) cs.length) with
   | false => rw [hb] at h; cases h
   | true =>
    rw [hb] at h
    simp only [cond_true] at h
    simp only [Bool.and_eq_true, Nat.ble_eq] at hb
    have h1 : v.cells.size = size := by rw [← Array.length_toList]; exact Nat.eq_of_beq_eq_true hb.1
    have h2 : ¬ (v.cells.size ≠ size || decide (off + v.cells.size > cs.toArray.size)) = true := by simp [h1]; omega
    have h3 := foldl_put off v.cells.toList 0 cs (by simp [h1]; omega)
    rw [if_neg (by simpa using h2)]
    simp only [Nat.add_zero, Array.length_toList, h1] at h3
    have h4 : v.cells.zipIdx.foldl (fun (a : Array Value) (p : Value × Nat) => a.setIfInBounds (off + p.2) p.1) cs.toArray = (cs.take off ++ v.cells.toList ++ cs.drop (off + size)).toArray := by
     rw [← h3, ← Array.foldl_toList]; simp
    have h5 := fill_eq place ps _ r h
    rw [← h4] at h5
    exact h5
end
class Plc (P : Program) (t : TypeId) (pl : outParam (List (Nat × Nat))) : Prop where
 h : (match P.underlying t with | some (.struct fs) => fs.toList.mapM (fun f => (P.info? f.type).map fun i => (f.offset, i.size)) | _ => none) = some pl
def evp (F : Fr) : List (Nat × Operand) → Option (List (Nat × Value))
 | [] => some []
 | (i, x) :: ps => match ev F x, evp F ps with
  | some v, some vs => some ((i, v) :: vs)
  | _, _ => none
theorem Has.evp {N : Fs} {F : Fr} {a : Act} (h : Has N F a) : ∀ {ps : List (Nat × Operand)} {vs : List (Nat × Value)}, evp F ps = some vs → ps.map (fun (i, x) => (i, a.eval x)) = vs
 | [], vs, hx => by simpa [Go.Proofs.YtkcpllhggofloaaGreat.evp] using hx
 | (i, x) :: ps, vs, hx => by
  unfold Go.Proofs.YtkcpllhggofloaaGreat.evp at hx
  split at hx
  ·rename_i v us h1 h2
   cases hx
   simp [h.ev h1, h.evp h2]
  cases hx
section
variable {P : Program} {ops : Array Oper} {N : Fs} {F : Fr} {E : Ent} {M : Mem} {L : Lc} {o : Oper}
theorem wBa {t : TypeId} {ps : List (Nat × Operand)} {vs : List (Nat × Value)} {sz by_ : Nat} {z cs : List Value} {pl : List (Nat × Nat)} (hg : gd ops F o = some true) (ho : o.op = .build t ps.toArray) (hv : evp F ps = some vs) [hl : Lay P t sz by_ z] [hp : Plc P t pl]
  (hc : fillL (pl[·]?) z vs = some cs) : QF P ops N F M L o (.agg cs.toArray) := wFd hg fun a ha w _ => by
 obtain ⟨ti, zv, hi, _, _, hz, hz2⟩ := hl.info
 have hp' := hp.h
 split at hp'
 ·rename_i fs hu
  have h1 : P.built t vs = some cs.toArray := by
   have h2 : (fun i : Nat => pl.toArray[i]?) = (fun i : Nat => pl[i]?) := by funext i; simp
   simp only [Program.built, hi, hu, hz, hp', h2, hz2]
   exact fill_eq _ _ _ _ hc
  have h3 := ha.evp hv
  have h4 : ((ps.toArray).map fun x => (x.1, a.eval x.2)).toList = vs := by rw [← h3]; simp
  have h5 := run_build (P := P) w t ((ps.toArray).map fun x => (x.1, a.eval x.2)) cs.toArray (by rw [h4]; exact h1)
  simp only [execOp, ho, Sem.run_bind, h5, Result.andThen_ok, Sem.run_pure]
 cases hp'
theorem wAn {t e : TypeId} {n : Nat} {ps : List (Nat × Operand)} {vs : List (Nat × Value)} {sz by_ : Nat} {z cs : List Value} (hg : gd ops F o = some true) (ho : o.op = .buildSlice t n ps.toArray) (hv : evp F ps = some vs) [ht : Und P t (.slice e)] [hl : Lay P e sz by_ z]
  (hc : fillL (fun i => some (i * sz, sz)) (List.replicate n z).flatten vs = some cs) (hsmall : Nat.ble (n * sz) 16777216 = true) (hpos : Nat.blt 0 sz = true) :
  HF P ops N F E M L o (fun v M' L' => ∃ b, v = .slice (some ⟨b, 0, none⟩) n n ∧ M = M' ∧ L' = (b, .cells cs.toArray e (0, 0)) :: L) := wHw hg fun a w ha hw => by
 have hzl := hl.len
 obtain ⟨ti, zv, hi, hi2, _, hz, hz2⟩ := hl.info
 refine ⟨_, _, M, _, .inl ?_, hw.alloc (.cells cs.toArray e (0, 0)), _, rfl, rfl, rfl⟩
 have h3 := ha.evp hv
 have h4 : ((ps.toArray).map fun x => (x.1, a.eval x.2)).toList = vs := by rw [← h3]; simp
 have hs : ¬ (16777216 < n * sz) := by simpa [Nat.ble_eq] using hsmall
 have h0 : 0 < sz := by simpa [Nat.blt_eq] using hpos
 have hzz : (Array.range (n * sz)).map (fun i => z.toArray[i % z.toArray.size]!) = ((List.replicate n z).flatten).toArray := by
  have hk : ∀ n, (List.range (n * sz)).map (fun i => z[i % sz]!) = (List.replicate n z).flatten := by
   intro n
   induction n with
   | zero => simp
   | succ n ih =>
    rw [Nat.succ_mul, List.range_add, List.map_append, ih, List.replicate_succ', List.flatten_append]
    congr 1
    rw [List.map_map]
    apply List.ext_getElem
    ·simp [hzl]
    intro i h1 h2
    have hlt : i < sz := by simpa using h1
    have : (n * sz + i) % sz = i := by rw [Nat.mul_comm, Nat.mul_add_mod, Nat.mod_eq_of_lt hlt]
    simp [this, hzl, hlt]
  apply Array.ext'
  simp only [Array.toList_map, Array.toList_range]
  rw [← hk n]
  apply List.map_congr_left
  intro i hi
  simp [hzl]
 have hf := fill_eq (fun i => some (i * sz, sz)) vs _ _ hc
 by_cases hn : n * sz = 0
 ·have hn0 : n = 0 := by rcases Nat.mul_eq_zero.1 hn with h | h <;> omega
  subst hn0
  simp only [List.replicate_zero, List.flatten_nil] at hf
  simp [execOp, ho, Instr.buildSlice, run_underlying ht.h, sizeOf, typeInfo, hi, hi2, h3, hf, newRow, Array.range_zero']
 have hs' : ¬ (n * sz > 2 ^ 24) := hs
 simp only [execOp, ho, Instr.buildSlice, Sem.run_bind, run_underlying ht.h, Result.andThen_ok, sizeOf, typeInfo, run_program, hi, Sem.run_pure, hi2, if_neg hs', if_neg hn, zeroValue, hz, hz2, h4, hzz, hf]
 simp [newRow]
theorem hCopy {x y : Operand} {t u e : TypeId} {b off dn dc : Nat} {sa : Option Addr} {sn sc : Nat} {l cs : List Value} {eb : TypeId} {L' : Lc} {by_ : Nat} {z : List Value} (hg : gd ops F o = some true)
  (ho : o.op = .call { callee := .builtin .copy, args := #[x, y], argTypes := #[t, u] }) (hx : ev F x = some (.slice (some ⟨b, off, none⟩) dn dc)) (hy : ev F y = some (.slice sa sn sc)) [ht : Und P t (.slice e)] [hl : Lay P e 1 by_ z]
  (hn : cs.length = min sn dn) (hcs : SJ M L sa cs) (h1 : ∀ v ∈ cs, v.oneCell' = true) [at_ : At b (.cells l.toArray eb (0, 0)) L] (hfit : off + cs.length ≤ l.length)
  [hp : PutAt b (.cells l.toArray eb (0, 0)) (.cells (l.take off ++ cs ++ l.drop (off + cs.length)).toArray eb (0, 0)) L L'] :
  HF P ops N F E M L o (fun v M' L'' => v = .int .i64 cs.length ∧ M = M' ∧ L'' = L') := wHw hg fun a w ha hw => by
 obtain ⟨ti, zv, hi, hi2, _⟩ := hl.info
 have hb := (hw.locs _ at_.mem).1
 refine ⟨.int .i64 cs.length, _, M, L', .inl ?_, hw.put hp, rfl, rfl, rfl⟩
 have hsz : (P.info? e).map (·.size) = some 1 := by simp [hi, hi2]
 have hst := run_storeCells_at P b off eb cs 0 l.toArray w hb (by simp; omega) h1
 have hfc : (Builtin.firstCells 1 cs.length (.slice sa sn sc)).run P w = .ok cs.toArray w := by
  rcases hcs with rfl | ⟨sb, so, rfl, hc⟩
  ·cases sa <;> simp [Builtin.firstCells, loadCells, loadCellsFrom]
  have hadd : ∀ j, (⟨sb, so, none⟩ : Addr).add j = ⟨sb, so + j, none⟩ := fun j => by unfold Addr.add; split <;> simp_all
  exact run_firstCells_some (P := P) w 1 cs.length ⟨sb, so, none⟩ sn sc cs (by simp) (fun j v hv => by rw [hadd]; exact (hc j v hv).cell hw.js)
 simp [execOp, ho, resolve, invoke, builtin, ha.ev hx, ha.ev hy, Builtin.copy_, run_underlying ht.h, sizeOf, typeInfo, hi, hi2, Builtin.lenOf, ← hn, hfc, hst, goInt]
theorem hMake {x y : Operand} {t e : TypeId} {k k' : IntKind} {n c : Int} {sz by_ : Nat} {z : List Value} (hg : gd ops F o = some true) (ho : o.op = .makeSlice t x y) (hx : ev F x = some (.int k n)) (hy : ev F y = some (.int k' c)) [ht : Und P t (.slice e)] [hl : Lay P e sz by_ z]
  (h : 0 ≤ n ∧ n ≤ c ∧ c ≤ 1000000000) (hby : Nat.ble by_ 100000 = true) :
  HF P ops N F E M L o (fun v M' L' => ∃ b, v = .slice (some ⟨b, 0, none⟩) n.toNat c.toNat ∧ M = M' ∧ L' = (b, .cells ((List.replicate c.toNat z).flatten).toArray e (0, 0)) :: L) := wHw hg fun a w ha hw => by
 have hzl := hl.len
 obtain ⟨ti, zv, hi, hi2, hi3, hz, hz2⟩ := hl.info
 refine ⟨_, _, M, _, .inl ?_, hw.alloc (.cells ((List.replicate c.toNat z).flatten).toArray e (0, 0)), _, rfl, rfl, rfl⟩
 have hb : (ti.bytes : Int) * c ≤ 281474976710656 := by
  rw [hi3]
  have h1 : by_ ≤ 100000 := by simpa [Nat.ble_eq] using hby
  have h2 : (by_ : Int) * c ≤ 100000 * c := Int.mul_le_mul_of_nonneg_right (by omega) (by omega)
  omega
 have hr := run_make (P := P) w t e ti zv ht.h hi hz k k' n c h.1 h.2.1 hb (by omega)
 have hm : madeCells zv.cells (c.toNat * ti.size) = ((List.replicate c.toNat z).flatten).toArray := by
  rw [hz2, hi2]
  rcases Nat.eq_zero_or_pos sz with h0 | h0
  ·subst h0
   have : z = [] := List.eq_nil_of_length_eq_zero hzl
   subst this
   simp [madeCells]
  have hk : ∀ n, (List.range (n * sz)).map (fun i => z[i % sz]!) = (List.replicate n z).flatten := by
   intro n
   induction n with
   | zero => simp
   | succ n ih =>
    rw [Nat.succ_mul, List.range_add, List.map_append, ih, List.replicate_succ', List.flatten_append]
    congr 1
    rw [List.map_map]
    apply List.ext_getElem
    ·simp [hzl]
    intro i h1 h2
    have hlt : i < sz := by simpa using h1
    have : (n * sz + i) % sz = i := by rw [Nat.mul_comm, Nat.mul_add_mod, Nat.mod_eq_of_lt hlt]
    simp [this, hzl, hlt]
  apply Array.ext'
  rw [← hk]
  simp only [madeCells, Array.toList_map, Array.toList_range]
  apply List.map_congr_left
  intro i hi
  simp [hzl]
 rw [hm] at hr
 simp [execOp, ho, ha.ev hx, ha.ev hy, hr]
theorem qStr {x : Operand} {s d e : TypeId} {sa : Option Addr} {n c : Nat} {xs : List Int} (hg : gd ops F o = some true) (ho : o.op = .convert s d x) (hx : ev F x = some (.slice sa n c)) [hs : Und P s (.slice e)] [he : Und P e (.int .u8)] [hd : Und P d .string]
  (hn : xs.length = n) (hc : SJ M L sa (xs.map (Value.int .u8))) : QF P ops N F M L o (.string (strOfNums xs)) := wFd hg fun a ha w hw => by
 cases sa with
 | none =>
  have : xs = [] := by
   rcases hc with h | ⟨b, off, h, _⟩
   ·simpa using h
   cases h
  subst this
  have hr := run_convert_bytes_nil (P := P) w s e hs.h he.h n c d hd.h
  simp [execOp, ho, ha.ev hx, hr, strOfNums, ByteArray.empty, ByteArray.emptyWithCapacity]; rfl
 | some ad =>
  rcases hc with h | ⟨b, off, h, hcell⟩
  ·have : xs = [] := by simpa using h
   subst this
   subst hn
   have : (convert s d (.slice (some ad) 0 c)).run P w = .ok (.string (strOfNums [])) w := by
    obtain ⟨b, off, sp⟩ := ad
    simp [convert, run_underlying hs.h, run_underlying hd.h, run_underlying he.h, Conv.bytesToString, loadCells, loadCellsFrom, strOfNums, ByteArray.empty, ByteArray.emptyWithCapacity]; rfl
   simp [execOp, ho, ha.ev hx, this]
  cases h
  have hr := run_convert_bytes_arg (P := P) w s e hs.h he.h b off n c xs hn (fun i hi => (hcell i _ (by
   have hlt : i < xs.length := by omega
   simp [List.getD_eq_getElem?_getD, hlt])).cell hw) d hd.h
  simp [execOp, ho, ha.ev hx, hr]
end
end Go.Proofs.YtkcpllhggofloaaGreat
namespace Go.Proofs.YtkcpllhggofloaaGreat
set_option linter.unusedVariables false
set_option linter.unusedSimpArgs false
open Go.RowKit
def CM (M : Mem) (b off : Nat) (v : Value) : Prop := ∃ c e fz, M b = some (.cells c e fz) ∧ c[off]? = some v
theorem CM.cj {M : Mem} {b off : Nat} {v : Value} (h : CM M b off v) (L : Lc) : CJ M L b off v := by
  obtain ⟨c, e, fz, h1, h2⟩ := h; exact ⟨c, e, fz, .inl h1, h2⟩
theorem CM.mono {M M' : Mem} {b off : Nat} {v : Value} (h : CM M b off v) (hM : MLe M M') : CM M' b off v := by
  obtain ⟨c, e, fz, h1, h2⟩ := h; exact ⟨c, e, fz, hM _ _ h1, h2⟩
def SM (M : Mem) (a : Option Addr) (cs : List Value) : Prop := cs = [] ∨ ∃ b off, a = some ⟨b, off, none⟩ ∧ ∀ i u, cs[i]? = some u → CM M b (off + i) u
theorem SM.mono {M M' : Mem} {a : Option Addr} {cs : List Value} (h : SM M a cs) (hM : MLe M M') : SM M' a cs := by
  rcases h with h | ⟨b, off, h1, h2⟩
  · exact .inl h
  exact .inr ⟨b, off, h1, fun i u hu => (h2 i u hu).mono hM⟩
theorem SM.nil {M : Mem} {a : Option Addr} : SM M a [] := .inl rfl
theorem SM.sj {M : Mem} {a : Option Addr} {cs : List Value} (h : SM M a cs) (L : Lc) : SJ M L a cs := by
  rcases h with h | ⟨b, off, h1, h2⟩
  · exact .inl h
  exact .inr ⟨b, off, h1, fun i u hu => (h2 i u hu).cj L⟩
theorem SM.open {M : Mem} {a : Option Addr} {cs : List Value} (h : SM M a cs) (hne : cs ≠ []) : ∃ b off, a = some ⟨b, off, none⟩ ∧ ∀ i u, cs[i]? = some u → CM M b (off + i) u :=
  h.resolve_left hne
theorem SM.part {M : Mem} {a : Option Addr} {cs : List Value} (h : SM M a cs) {l m s : Nat} (hlm : l < m) (k : Nat) : SM M (slA a l m s) ((cs.drop (l * s)).take k) := by
  rcases h with rfl | ⟨b, off, rfl, h2⟩
  · left; simp
  right
  refine ⟨b, off + l * s, wBn hlm, fun i u hu => ?_⟩
  rw [List.getElem?_take] at hu
  split at hu
  · rw [List.getElem?_drop] at hu
    have := h2 _ _ hu
    rwa [← Nat.add_assoc] at this
  cases hu
class Rm (g : Nat) (ob : outParam Obj) (L : Lc) (L2 : outParam Lc) : Prop where
  perm : L.Perm ((g, ob) :: L2)
instance (priority := high) Rm.head {g : Nat} {ob : Obj} {L : Lc} : Rm g ob ((g, ob) :: L) L := ⟨List.Perm.refl _⟩
instance Rm.tail {g : Nat} {ob : Obj} {p : Nat × Obj} {L L2 : Lc} [h : Rm g ob L L2] : Rm g ob (p :: L) (p :: L2) := ⟨(List.Perm.cons p h.perm).trans (List.Perm.swap _ _ _)⟩
instance Rm.right {g : Nat} {ob : Obj} {R L L2 : Lc} [h : Rm g ob L L2] : Rm g ob (R ++ L) (R ++ L2) := ⟨(List.Perm.append_left R h.perm).trans List.perm_middle⟩
theorem flat_get {α : Type} (f : α → List Value) (s : Nat) (hf : ∀ x, (f x).length = s) : ∀ (l : List α) (i j : Nat), j < s → (l.flatMap f)[i * s + j]? = (l[i]?).bind fun x => (f x)[j]?
  | [], i, j, _ => by simp
  | x :: l, 0, j, hj => by
    simp only [List.flatMap_cons, Nat.zero_mul, Nat.zero_add, List.getElem?_cons_zero, Option.bind_some]
    rw [List.getElem?_append_left (by rw [hf]; exact hj)]
  | x :: l, i + 1, j, hj => by
    simp only [List.flatMap_cons, List.getElem?_cons_succ]
    rw [List.getElem?_append_right (by rw [hf, Nat.add_mul]; omega), hf]
    have : (i + 1) * s + j - s = i * s + j := by rw [Nat.add_mul]; omega
    rw [this]
    exact flat_get f s hf l i j hj
theorem wBi {α : Type} (f : α → List Value) (s : Nat) (hf : ∀ x, (f x).length = s) (l : List α) : (l.flatMap f).length = l.length * s := by
  induction l with
  | nil => simp
  | cons x l ih => simp [List.flatMap_cons, ih, hf, Nat.add_mul]; omega
theorem wKo {α : Type} (f : α → List Value) (s : Nat) (hf : ∀ x, (f x).length = s) {l : List α} {M : Mem} {b off k : Nat} {x : α} (hc : ∀ i u, (l.flatMap f)[i]? = some u → CM M b (off + i) u) (hk : l[k]? = some x) : ∀ i v, (f x)[i]? = some v → CM M b (off + k * s + i) v := fun i v hv => by
  have hi : i < s := by rw [← hf x]; exact (List.getElem?_eq_some_iff.1 hv).1
  have := hc (k * s + i) v (by rw [flat_get f s hf l k i hi, hk]; exact hv)
  rwa [← Nat.add_assoc] at this
section
variable {P : Program} {ops : Array Oper} {N : Fs} {F : Fr} {W : World} {X : List Nat} {M0 M : Mem} {L : Lc} {o : Oper} {Q : Exit → Act → World → Prop} {rest : List Oper}
theorem St.freeze' {g : Nat} {ob : Obj} (hg : g ∉ X) {w : World} (h : St ⟨W, X, M0⟩ M ((g, ob) :: L) w) : St ⟨W, X, M0⟩ (M.set g ob) L w ∧ MLe M (M.set g ob) ∧ (M.set g ob) g = some ob :=
  ⟨(h.freeze hg).1, (h.freeze hg).2, by simp [Mem.set]⟩
theorem wJk {ob : Obj} {L2 : Lc} (g : Nat) [hp : Rm g ob L L2] (hg : g ∉ X) (h : ∀ M', MLe M M' → M' g = some ob → JL P ops N Q rest F ⟨W, X, M0⟩ M' L2) : JL P ops N Q rest F ⟨W, X, M0⟩ M L := by
  intro a w ha hw
  obtain ⟨h1, h2, h3⟩ := St.freeze' hg (hw.perm hp.perm)
  exact h _ h2 h3 a w ha h1
theorem wHk {c : Code} {ob : Obj} {L2 : Lc} (g : Nat) [hp : Rm g ob L L2] (hg : g ∉ X) (h : ∀ M', MLe M M' → M' g = some ob → JC P N c F ⟨W, X, M0⟩ M' L2 Q) : JC P N c F ⟨W, X, M0⟩ M L Q := by
  intro a w ha hw
  obtain ⟨h1, h2, h3⟩ := St.freeze' hg (hw.perm hp.perm)
  exact h _ h2 h3 a w ha h1
theorem wEe {ex : Exit} {ob : Obj} {L2 : Lc} (g : Nat) [hp : Rm g ob L L2] (hg : g ∉ X) (h : ∀ M', MLe M M' → M' g = some ob → JQ N ex F ⟨W, X, M0⟩ M' L2 Q) : JQ N ex F ⟨W, X, M0⟩ M L Q := by
  intro a w ha hw
  obtain ⟨h1, h2, h3⟩ := St.freeze' hg (hw.perm hp.perm)
  exact h _ h2 h3 a w ha h1
theorem Own.freeze {v : Value} {R : Lc} {e : TypeId} {size n : Nat} {xs : List Value} (ho : Own v R e size n xs) (hg : ∀ p ∈ R, p.1 ∉ X) {w : World} (h : St ⟨W, X, M0⟩ M (R ++ L) w) : ∃ M' a cap, MLe M M' ∧ v = .slice a n cap ∧ n ≤ cap ∧ SM M' a xs ∧ St ⟨W, X, M0⟩ M' L w := by
  rcases ho.2 with ⟨rfl, rfl, rfl⟩ | ⟨g, cap, cur, rfl, rfl, h1, h2, h3, h4⟩
  · have : xs = [] := List.eq_nil_of_length_eq_zero (by simpa using ho.1)
    subst this
    exact ⟨M, none, 0, MLe.refl _, rfl, Nat.le_refl _, .inl rfl, h⟩
  obtain ⟨k1, k2, k3⟩ := St.freeze' (hg (g, .cells cur e (0, 0)) (by simp)) h
  refine ⟨_, _, cap, k2, rfl, h1, .inr ⟨g, 0, rfl, fun i u hu => ⟨cur, e, (0, 0), k3, ?_⟩⟩, k1⟩
  rw [← h4, List.getElem?_take] at hu
  split at hu
  · simpa using hu
  cases hu
theorem wLp {v : Value} {R L2 : Lc} {e : TypeId} {size n : Nat} {xs : List Value} (ho : Own v R e size n xs) [hp : Pick R L L2] (hg : ∀ p ∈ R, p.1 ∉ X)
    (h : ∀ M' a cap, MLe M M' → v = .slice a n cap → n ≤ cap → SM M' a xs → JL P ops N Q rest F ⟨W, X, M0⟩ M' L2) : JL P ops N Q rest F ⟨W, X, M0⟩ M L := by
  intro a w ha hw
  obtain ⟨M', ad, cap, k1, k2, k3, k4, k5⟩ := ho.freeze hg (hw.perm hp.perm)
  exact h M' ad cap k1 k2 k3 k4 a w ha k5
theorem jc_own {c : Code} {v : Value} {R L2 : Lc} {e : TypeId} {size n : Nat} {xs : List Value} (ho : Own v R e size n xs) [hp : Pick R L L2] (hg : ∀ p ∈ R, p.1 ∉ X)
    (h : ∀ M' a cap, MLe M M' → v = .slice a n cap → n ≤ cap → SM M' a xs → JC P N c F ⟨W, X, M0⟩ M' L2 Q) : JC P N c F ⟨W, X, M0⟩ M L Q := by
  intro a w ha hw
  obtain ⟨M', ad, cap, k1, k2, k3, k4, k5⟩ := ho.freeze hg (hw.perm hp.perm)
  exact h M' ad cap k1 k2 k3 k4 a w ha k5
theorem wGy {ex : Exit} {v : Value} {R L2 : Lc} {e : TypeId} {size n : Nat} {xs : List Value} (ho : Own v R e size n xs) [hp : Pick R L L2] (hg : ∀ p ∈ R, p.1 ∉ X)
    (h : ∀ M' a cap, MLe M M' → v = .slice a n cap → n ≤ cap → SM M' a xs → JQ N ex F ⟨W, X, M0⟩ M' L2 Q) : JQ N ex F ⟨W, X, M0⟩ M L Q := by
  intro a w ha hw
  obtain ⟨M', ad, cap, k1, k2, k3, k4, k5⟩ := ho.freeze hg (hw.perm hp.perm)
  exact h M' ad cap k1 k2 k3 k4 a w ha k5
theorem Own.form {v : Value} {R : Lc} {e : TypeId} {size n : Nat} {xs : List Value} (ho : Own v R e size n xs) : ∃ a cap, v = .slice a n cap := by
  rcases ho.2 with ⟨h, rfl, _⟩ | ⟨g, cap, cur, h, _⟩
  · exact ⟨none, 0, h⟩
  exact ⟨_, cap, h⟩
theorem Own.open {v : Value} {R : Lc} {e : TypeId} {size n : Nat} {xs : List Value} (ho : Own v R e size n xs) (hn : 0 < n) : ∃ g cap cur, v = .slice (some ⟨g, 0, none⟩) n cap ∧ R = [(g, .cells cur e (0, 0))] ∧ n ≤ cap ∧ cap ≤ maxLen ∧ cur.size = cap * size ∧ cur.toList.take (n * size) = xs := by
  rcases ho.2 with ⟨_, h, _⟩ | h
  · omega
  exact h
theorem Own.cj {g n cap : Nat} {R : Lc} {e : TypeId} {size : Nat} {xs : List Value} (ho : Own (.slice (some ⟨g, 0, none⟩) n cap) R e size n xs) (hR : ∀ p ∈ R, p ∈ L) {i : Nat} {u : Value} (hu : xs[i]? = some u) : CJ M L g i u := by
  rcases ho.2 with ⟨h, _, _⟩ | ⟨g', cap', cur, hv, rfl, h1, h2, h3, h4⟩
  · cases h
  cases hv
  refine ⟨cur, e, (0, 0), .inr (hR _ (by simp)), ?_⟩
  rw [← h4, List.getElem?_take] at hu
  split at hu
  · simpa using hu
  cases hu
theorem wGp {E : Ent} {t : TypeId} {x y : Operand} {u v : Value} {g k size n : Nat} {R L2 : Lc} {e : TypeId} {xs : List Value} {by_ : Nat} {z : List Value} (hg : gd ops F o = some true) (ho : o.op = .store t x y) (hx : ev F x = some (.pointer (some ⟨g, k, none⟩))) (hy : ev F y = some u)
    [hl : Lay P t 1 by_ z] (hc : u.cells = #[u]) (h1 : u.oneCell' = true) (hown : Own v R e size n xs) (hb : v.ownBlock = some g) (hk : k < n * size) [hp : Pick R L L2] :
    HF P ops N F E M L o (fun _ M' L' => M = M' ∧ ∃ R', L' = R' ++ L2 ∧ Own v R' e size n (xs.set k u)) := wHw hg fun a w ha hw => by
  obtain ⟨ti, zv, hi, hi2, _⟩ := hl.info
  have hw' := hw.perm hp.perm
  have hn : 0 < n := by rcases Nat.eq_zero_or_pos n with h | h; · subst h; simp at hk
                        exact h
  obtain ⟨g', cap, cur, rfl, rfl, k1, k2, k3, k4⟩ := hown.open hn
  have : g' = g := by simpa [Value.ownBlock] using hb
  subst this
  have hbk := (hw'.locs (g', .cells cur e (0, 0)) (by simp)).1
  have hkc : k < cur.size := by rw [k3]; exact Nat.lt_of_lt_of_le hk (Nat.mul_le_mul_right _ k1)
  have hst := run_storeCells_at P g' k e [u] 0 cur w hbk (by simp; omega) (by simp [h1])
  have hpa : PutAt g' (.cells cur e (0, 0)) (.cells (cur.toList.take (k + 0) ++ [u] ++ cur.toList.drop (k + 0 + [u].length)).toArray e (0, 0)) ([(g', Obj.cells cur e (0, 0))] ++ L2) ([(g', .cells (cur.toList.take (k + 0) ++ [u] ++ cur.toList.drop (k + 0 + [u].length)).toArray e (0, 0))] ++ L2) := ⟨[], L2, rfl, rfl⟩
  refine ⟨undef, _, M, _, .inr ⟨rfl, ?_⟩, hw'.put hpa, rfl, _, rfl, ?_⟩
  · simp only [execOp, ho, ha.ev hx, ha.ev hy, Instr.storeAt, Instr.sureAddr, storeVar, sizeOf, typeInfo, hi, hi2, hc, Sem.run_bind, run_program, Sem.run_pure, Result.andThen_ok]
    simp [hst]
  refine ⟨by rw [List.length_set]; exact hown.1, .inr ⟨g', cap, _, rfl, rfl, k1, k2, ?_, ?_⟩⟩
  · simp; omega
  have e1 : cur.toList.take (k + 0) ++ [u] ++ cur.toList.drop (k + 0 + [u].length) = cur.toList.set k u := by
    rw [List.set_eq_take_append_cons_drop, if_pos (by simpa using hkc)]; simp
  rw [e1, ← k4, ← List.take_set]
theorem SM.of_block {M : Mem} {b : Nat} {l : List Value} {e : TypeId} {fz : Nat × Nat} (h : M b = some (.cells l.toArray e fz)) : SM M (some ⟨b, 0, none⟩) l := .inr ⟨b, 0, rfl, fun i u hu => ⟨_, e, fz, h, by simpa using hu⟩⟩
theorem hStoreA {E : Ent} {t : TypeId} {x y : Operand} {b : Nat} {l cs : List Value} {e : TypeId} {L' : Lc} {sz by_ : Nat} {z : List Value} (hg : gd ops F o = some true) (ho : o.op = .store t x y) (hx : ev F x = some (.pointer (some ⟨b, 0, none⟩))) (hy : ev F y = some (.agg cs.toArray))
    [hl : Lay P t sz by_ z] (hn : cs.length = sz) (h1 : ∀ v ∈ cs, v.oneCell' = true) [at_ : At b (.cells l.toArray e (0, 0)) L] (hfit : l.length = sz) [hp : PutAt b (.cells l.toArray e (0, 0)) (.cells cs.toArray e (0, 0)) L L'] :
    HF P ops N F E M L o (fun _ M' L'' => M = M' ∧ L'' = L') := wHw hg fun a w ha hw => by
  obtain ⟨ti, v, hi, hi2, _⟩ := hl.info
  have hb := (hw.locs _ at_.mem).1
  refine ⟨undef, _, M, L', .inr ⟨rfl, ?_⟩, hw.put hp, rfl, rfl⟩
  have hst := run_storeCells_at P b 0 e cs 0 l.toArray w hb (by simp; omega) h1
  have hd : List.drop cs.length l = [] := List.drop_eq_nil_of_le (by omega)
  simp only [Nat.add_zero, List.take_zero, List.nil_append, Nat.zero_add, hd, List.append_nil] at hst
  simp [execOp, ho, ha.ev hx, ha.ev hy, Instr.storeAt, Instr.sureAddr, storeVar, sizeOf, typeInfo, hi, hi2, Value.cells, hn, hst]
theorem qNil {x y : Operand} {t t' e : TypeId} {a : Option Addr} {n c : Nat} (hg : gd ops F o = some true) (ho : o.op = .binOp .eql t x y t') (hx : ev F x = some (.slice a n c)) (hy : ev F y = some (.slice none 0 0)) [ht : Und P t (.slice e)] : QF P ops N F M L o (.bool a.isNone) := wFd hg fun ac ha w _ => by
  have := Lib.run_eql_slice_nil (P := P) w t e a n c 0 0 ht.h
  simp only [execOp, ho, ha.ev hx, ha.ev hy]
  simp [eqGuard, this]
end
class AllInt (P : Program) (t : TypeId) (ks : outParam (List IntKind)) : Prop where
  u : P.underlying t = some (.struct (P.fieldsOf t))
  f : (P.fieldsOf t).toList.map (fun f => (f.name != "_", f.offset, P.underlying f.type)) = ks.zipIdx.map fun (k, i) => (true, i, some (.int k))
  s : P.stoodInHeld t = false
  g : P.eqGuardType P.depth t = false
def wFt (ks : List IntKind) (ns : List Int) : List Value := List.zipWith Value.int ks ns
theorem wFy {P : Program} (d : Nat) (xs ys : Array Value) (w : World) : ∀ (fs : List Field) (ks : List IntKind) (i : Nat) (ns ms : List Int), ns.length = ks.length → ms.length = ks.length →
    fs.map (fun f => (f.name != "_", f.offset, P.underlying f.type)) = (ks.zipIdx i).map (fun (k, i) => (true, i, some (.int k))) →
    (∀ j v, (wFt ks ns)[j]? = some v → xs[i + j]? = some v) → (∀ j v, (wFt ks ms)[j]? = some v → ys[i + j]? = some v) →
    (Op.eqFields (d + 1) xs ys fs).run P w = .ok (decide (ns = ms)) w
  | [], ks, i, ns, ms, h1, h2, hf, _, _ => by
    have : ks = [] := by cases ks <;> simp at hf ⊢
    subst this
    have e1 : ns = [] := List.eq_nil_of_length_eq_zero h1
    have e2 : ms = [] := List.eq_nil_of_length_eq_zero h2
    subst e1 e2
    simp [Op.eqFields]
  | f :: fs, [], i, ns, ms, h1, h2, hf, _, _ => by simp at hf
  | f :: fs, k :: ks, i, [], ms, h1, h2, hf, _, _ => by simp at h1
  | f :: fs, k :: ks, i, ns, [], h1, h2, hf, _, _ => by simp at h2
  | f :: fs, k :: ks, i, n :: ns, m :: ms, h1, h2, hf, hx, hy => by
    simp only [List.map_cons, List.zipIdx_cons, List.cons.injEq, Prod.mk.injEq] at hf
    obtain ⟨⟨hn, ho, hu⟩, hrest⟩ := hf
    have x0 := hx 0 _ (by simp [wFt]; rfl)
    have y0 := hy 0 _ (by simp [wFt]; rfl)
    simp only [Nat.add_zero] at x0 y0
    have hp : ∀ (cs : Array Value) (v : Value), cs[i]? = some v → (part f.type cs f.offset).run P w = .ok v w := fun cs v hv => by
      simp [part, wHd hu, aggD, ho, hv]
    have hne : f.name ≠ "_" := by simpa using hn
    have ih := wFy d xs ys w fs ks (i + 1) ns ms (by simpa using h1) (by simpa using h2) hrest
      (fun j v hv => by have := hx (j + 1) v (by simpa [wFt] using hv); rwa [show i + (j + 1) = i + 1 + j by omega] at this)
      (fun j v hv => by have := hy (j + 1) v (by simpa [wFt] using hv); rwa [show i + (j + 1) = i + 1 + j by omega] at this)
    have hq : (Op.equalIn (d + 1) f.type (.int k n) (.int k m)).run P w = .ok (n == m) w := run_equalIn_int w d f.type k k n m hu
    unfold Op.eqFields
    simp only [hne, ne_eq, not_false_eq_true, if_true, Sem.run_bind, hp xs _ x0, hp ys _ y0, Result.andThen_ok, hq]
    by_cases e : n = m
    · subst e; simp [ih]
    simp [e]
section
variable {P : Program} {ops : Array Oper} {N : Fs} {F : Fr} {M : Mem} {L : Lc} {o : Oper}
theorem qEqI {x y : Operand} {t t' : TypeId} {ks : List IntKind} {ns ms : List Int} {xs ys : List Value} (hg : gd ops F o = some true) (ho : o.op = .binOp .eql t x y t') (hx : ev F x = some (.agg xs.toArray)) (hy : ev F y = some (.agg ys.toArray)) [h : AllInt P t ks]
    (h1 : xs = wFt ks ns) (h2 : ys = wFt ks ms) (h3 : ns.length = ks.length ∧ ms.length = ks.length) : QF P ops N F M L o (.bool (decide (ns = ms))) := wFd hg fun ac ha w _ => by
  have hr := wFy (P := P) 9998 xs.toArray ys.toArray w _ ks 0 ns ms h3.1 h3.2 h.f (fun j v hv => by simpa [h1] using hv) (fun j v hv => by simpa [h2] using hv)
  have e1 : (binOp .eql t (.agg xs.toArray) (.agg ys.toArray)).run P w = .ok (.bool (decide (ns = ms))) w := by
    rw [run_eql_struct w t, run_equalIn_struct w 9999 t _ _ h.u h.s, hr]; rfl
  simp only [execOp, ho, ha.ev hx, ha.ev hy]
  simp only [Sem.run_bind, run_eqGuard_agg w _ t x y _ _ h.g, Result.andThen_ok, e1, Sem.run_pure]
theorem qNeI {x y : Operand} {t t' : TypeId} {ks : List IntKind} {ns ms : List Int} {xs ys : List Value} (hg : gd ops F o = some true) (ho : o.op = .binOp .neq t x y t') (hx : ev F x = some (.agg xs.toArray)) (hy : ev F y = some (.agg ys.toArray)) [h : AllInt P t ks]
    (h1 : xs = wFt ks ns) (h2 : ys = wFt ks ms) (h3 : ns.length = ks.length ∧ ms.length = ks.length) : QF P ops N F M L o (.bool (decide (¬ ns = ms))) := wFd hg fun ac ha w _ => by
  have hr := wFy (P := P) 9998 xs.toArray ys.toArray w _ ks 0 ns ms h3.1 h3.2 h.f (fun j v hv => by simpa [h1] using hv) (fun j v hv => by simpa [h2] using hv)
  have e1 : (binOp .neq t (.agg xs.toArray) (.agg ys.toArray)).run P w = .ok (.bool (decide (¬ ns = ms))) w := by
    rw [run_neq_struct w t, run_equalIn_struct w 9999 t _ _ h.u h.s, hr]; simp
  simp only [execOp, ho, ha.ev hx, ha.ev hy]
  simp only [Sem.run_bind, run_eqGuard_agg w _ t x y _ _ h.g, Result.andThen_ok, e1, Sem.run_pure]
end
end Go.Proofs.YtkcpllhggofloaaGreat
namespace Go.Proofs.YtkcpllhggofloaaGreat
set_option linter.unusedVariables false
set_option linter.unusedSimpArgs false
open Go.ChangeShapes Go.WideShapes Go.ChangeAt Go.RowKit
def memOf (W : World) : Mem := fun b => W.heap[b]?
theorem SpecL.run {P : Program} {f : FuncId} {args : Array Value} {W : World} {v : Value} (h : SpecL P f args (memOf W) [] fun u _ _ => u = v) : Calls P f args W fun e w' => e = .returned v ∧ Below W.heap.size W w' := by
 have hin : St ⟨W, ([] : Lc).map (·.1), memOf W⟩ (memOf W) [] W :=
  {os := rfl, tape := rfl, output := rfl, size := Nat.le_refl _, same := fun _ _ _ => rfl, fresh := fun _ _ => rfl, agree := fun _ _ h => h
   locs := fun p hp => by cases hp
   nodup := by simp }
 refine (h W hin).mono fun e w' hh => ?_
 obtain ⟨u, M', R', rfl, rfl, hst⟩ := hh
 exact ⟨rfl, ⟨hst.os, hst.tape, hst.output, hst.size, fun k hk => hst.same k hk (by simp)⟩⟩
theorem wKw {H : Type} {enc : TypeId × Value → H} {P : Program} (hl : laidOutB P = true) {W W' : World} (hb : Below W.heap.size W W') : ∀ (ts : List TypeId) (vs : List Value) (ds : List (DataW H)) (ps : List MemPlace),
  ts.all (fun t => P.readableRec t && decide (t < P.types.size)) = true → (∀ x ∈ ps, x.block < W.heap.size) →
  DataW.TrodAll enc P W 0 (fun _ => true) true ts vs ds ps → DataW.TrodAll enc P W' 0 (fun b => decide (b < W.heap.size)) true ts vs ds ps
 | [], [], [], ps, _, _, h => h
 | t :: ts, v :: vs, d :: ds, ps, hr, hlt, h => by
  obtain ⟨p, q, h1, h2, rfl⟩ := h
  simp only [List.all_cons, Bool.and_eq_true, decide_eq_true_eq] at hr
  exact ⟨p, q, Below.trod hl hr.1.1 hr.1.2 h1 hb (fun x hx => hlt x (by simp [hx])), wKw hl hb ts vs ds q hr.2 (fun x hx => hlt x (by simp [hx])) h2, rfl⟩
 | [], _ :: _, _, _, _, _, h => h.elim
 | [], [], _ :: _, _, _, _, h => h.elim
 | _ :: _, [], _, _, _, _, h => h.elim
 | _ :: _, _ :: _, [], _, _, _, h => h.elim
theorem A.laid : laidOutB Tryz.prog = true := by kernel_rfl
theorem A.own : ownKnob Tryz.prog.godebug = none := by kernel_rfl
theorem law_post {H : Type} {enc : TypeId × Value → H} {f : Func} {s : ChangeSpec} {W W' : World} {args : Array Value} {ds gs : List (DataW H)} {p : List MemPlace}
  (hW : DataW.Whole enc Tryz.prog f.params.toList s.vars false W args.toList ds gs p) (hr : f.params.toList.all (fun t => Tryz.prog.readableRec t && decide (t < Tryz.prog.types.size)) = true)
  (hv : s.vars = []) (hres : f.resultTypes = #[4]) (hfn : (s.fn H (ds ++ gs)) = { results := [.lit (.bool true)], args := ds }) (hb : Below W.heap.size W W') :
  s.post enc Tryz.prog f false true false false W args (.bool true) W' := by
 have hW' := hW
 obtain ⟨p1, q1, hA, hV, rfl, hfz, hnd⟩ := hW
 rw [hv] at hV
 obtain ⟨rfl, rfl⟩ := trodVars_none hV
 refine ⟨ds, [], p1 ++ [], [], p1, [], hW', ?_, ?_, ?_, hb.frame _, fun h => by cases h⟩
 ·rw [hfn, hres]; exact trodAll_mk1 (shut_bool Tryz.underlying4 _)
 ·rw [hfn]
  exact wKw A.laid hb _ _ _ _ hr (fun x hx => hW'.lt x (by simp [hx])) hA
 rw [hfn, hv]; exact rfl
theorem int_wf {n : Int} (h : (Lit.int .i64 n).wf = true) : -9223372036854775808 ≤ n ∧ n ≤ 9223372036854775807 := by
 simp [Lit.wf, IntKind.min, IntKind.max, IntKind.signed, IntKind.bits] at h; omega
theorem u8_wf {n : Int} (h : (Lit.int .u8 n).wf = true) : 0 ≤ n ∧ n < 256 := by
 simp [Lit.wf, IntKind.min, IntKind.max, IntKind.signed, IntKind.bits] at h; omega
end Go.Proofs.YtkcpllhggofloaaGreat
