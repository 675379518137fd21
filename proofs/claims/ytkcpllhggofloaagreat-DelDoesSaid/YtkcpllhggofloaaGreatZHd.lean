/- THE WALKING LAYER, fourth part: slices, calls. No statement of the seat is proved here. -/
import Derived.Test.YtkcpllhggofloaaGreatZHb
namespace Go.Proofs.YtkcpllhggofloaaGreat
set_option linter.unusedSimpArgs false
set_option linter.unusedVariables false
set_option linter.unusedSectionVars false
open Go.RowKit
def gd (ops : Array Oper) (F : Fr) (o : Oper) : Option Bool :=
 match o.guard with
 | none => some true
 | some (j, want) => match (ops[j]?).bind (·.dst) with
  | some d => match lk d F with
   | some (.bool b) => some (b == want)
   | some (.tuple _) => some false
   | _ => none
  | none => none
theorem gd_spec {ops : Array Oper} {F : Fr} {o : Oper} {b : Bool} {N : Fs} {a : Act} (ha : Has N F a) (h : gd ops F o = some b) : Region.wanted o (yielded ops a.tmps) = b := by
 unfold gd at h
 unfold Region.wanted
 cases hg : o.guard with
 | none => rw [hg] at h; simpa using h
 | some gw =>
  obtain ⟨j, want⟩ := gw
  rw [hg] at h
  simp only at h ⊢
  split at h
  ·rename_i d hd
   split at h
   ·rename_i b' hb
    cases h
    have := ha.get d _ hb
    cases b' <;> cases want <;> simp [yielded, hd, this]
   ·rename_i vs hb
    cases h
    have := ha.get d _ hb
    simp [yielded, hd, this]
   cases h
  cases h
def pv (F : Fr) : Op → Option Value
 | .move x => ev F x
 | .assign x => ev F x
 | .pick c a b => match ev F c with
  | some (.bool true) => ev F a
  | some (.bool false) => ev F b
  | _ => none
 | .extract t i => match ev F t with
  | some (.tuple vs) => vs[i]?
  | _ => none
 | .binOp op _ x y _ => match ev F x, ev F y with
  | some (.int k a), some (.int k' b) => if k = k' then
    match op with
    | .add => some (.int k (k.wrap (a + b)))
    | .sub => some (.int k (k.wrap (a - b)))
    | .mul => some (.int k (k.wrap (a * b)))
    | .eql => some (.bool (decide (a = b)))
    | .neq => some (.bool (decide (¬ a = b)))
    | .lss => some (.bool (decide (a < b)))
    | .leq => some (.bool (decide (a ≤ b)))
    | .gtr => some (.bool (decide (b < a)))
    | .geq => some (.bool (decide (b ≤ a)))
    | _ => none
   else none
  | some (.string a), some (.string b) => match op with
    | .eql => some (.bool (a.toList == b.toList))
    | .neq => some (.bool (!(a.toList == b.toList)))
    | _ => none
  | _, _ => none
 | .unOp .not _ x => match ev F x with
  | some (.bool b) => some (.bool (!b))
  | _ => none
 | .makeFunc fn first captured => match evs F first.toList, evs F captured.toList with
  | some a, some b => some (.func fn a.toArray b.toArray)
  | _, _ => none
 | _ => none
section
variable {P : Program} {ops : Array Oper} {N : Fs} {F : Fr} {E : Ent} {M : Mem} {L : Lc} {o : Oper}
theorem pv_spec {a : Act} (ha : Has N F a) {v : Value} (h : pv F o.op = some v) (w : World) : (execOp a.eval o).run P w = .ok (.value v) w := by
 obtain ⟨dst, op, type, pos, after, guard⟩ := o
 simp only at h
 unfold pv at h
 split at h
 ·simp only [execOp, ha.ev h, Sem.run_pure]
 ·simp only [execOp, ha.ev h, Sem.run_pure]
 ·rename_i c x y
  split at h
  ·rename_i hc; simp [execOp, ha.ev hc, ha.ev h, asBool]
  ·rename_i hc; simp [execOp, ha.ev hc, ha.ev h, asBool]
  cases h
 ·rename_i t i
  split at h
  ·rename_i vs ht; simp [execOp, ha.ev ht, Instr.extract, h]
  cases h
 ·rename_i op xT x y yT
  split at h
  ·rename_i k b k' c hx hy
   split at h
   ·rename_i hk; subst hk
    split at h <;> first | cases h | skip
    all_goals (simp only [execOp, ha.ev hx, ha.ev hy]; simp [eqGuard, binOp, Op.intArith, Op.intCmp])
    all_goals (by_cases e : b = c <;> simp [e])
   cases h
  ·rename_i b c hx hy
   split at h <;> first | cases h | skip
   all_goals (simp only [execOp, ha.ev hx, ha.ev hy]; simp [eqGuard, binOp, Op.stringOp])
  cases h
 ·rename_i t x
  split at h
  ·rename_i b hx; cases h; simp [execOp, ha.ev hx, Op.unary]
  cases h
 ·rename_i fn first captured
  split at h
  ·rename_i b c hb hc
   cases h
   have h1 := ha.evs hb
   have h2 := ha.evs hc
   have e : ∀ (f : Operand → Value) (xs : Array Operand), xs.map f = (xs.toList.map f).toArray := fun f xs => by rw [← Array.toList_map, Array.toArray_toList]
   simp only [execOp, Instr.makeFunc, e, h1, h2, Sem.run_bind, Sem.run_pure, Result.andThen_ok]
  cases h
 cases h
theorem wFd {v : Value} (hg : gd ops F o = some true) (h : ∀ a, Has N F a → ∀ w, Js M L w → (execOp a.eval o).run P w = .ok (.value v) w) : QF P ops N F M L o v := fun a ha =>
 .inl ⟨gd_spec ha hg, fun w hw => by rw [h a ha w hw]; exact ⟨rfl, Below.refl _ _⟩⟩
theorem qP {v : Value} (hg : gd ops F o = some true) (h : pv F o.op = some v) : QF P ops N F M L o v := wFd hg fun _ ha w _ => pv_spec ha h w
theorem qS (hg : gd ops F o = some false) : QF P ops N F M L o undef := fun _ ha => .inr ⟨gd_spec ha hg, rfl⟩
theorem qEq {v v' : Value} (h : QF P ops N F M L o v) (e : v = v') : QF P ops N F M L o v' := e ▸ h
def pstep (N : Fs) (ops : Array Oper) (F : Fr) (o : Oper) : Option (Nat × Value) :=
 match o.dst with
 | some d => bif Nat.blt d N.n then match gd ops F o with
  | some true => match pv F o.op with
   | some v => some (d, v)
   | none => none
  | some false => some (d, undef)
  | none => none
  else none
 | none => none
theorem wDm {d : Nat} {v : Value} (h : pstep N ops F o = some (d, v)) : o.dst = some d ∧ Nat.blt d N.n = true ∧ ∀ P M L, QF P ops N F M L o v := by
 unfold pstep at h
 split at h
 ·rename_i d' hd
  cases hb : Nat.blt d' N.n with
  | false => rw [hb] at h; cases h
  | true =>
   rw [hb] at h
   simp only [cond_true] at h
   split at h
   ·rename_i hg
    split at h
    ·rename_i u hu; cases h; exact ⟨hd, hb, fun P M L => qP hg hu⟩
    cases h
   ·rename_i hg; cases h; exact ⟨hd, hb, fun P M L => qS hg⟩
   cases h
 cases h
variable {Q : Exit → Act → World → Prop} {rest : List Oper} {d : Nat}
theorem jp {v : Value} (h : pstep N ops F o = some (d, v)) (k : JL P ops N Q rest ((d, v) :: F) E M L) : JL P ops N Q (o :: rest) F E M L :=
 wAi (wDm h).1 (wDm h).2.1 ((wDm h).2.2 P M L) k
theorem jt {b : Bool} (h : pstep N ops F o = some (d, .bool b)) (hb : b = true) (k : JL P ops N Q rest ((d, .bool true) :: F) E M L) : JL P ops N Q (o :: rest) F E M L := jp h (by rw [hb]; exact k)
theorem jf {b : Bool} (h : pstep N ops F o = some (d, .bool b)) (hb : b = false) (k : JL P ops N Q rest ((d, .bool false) :: F) E M L) : JL P ops N Q (o :: rest) F E M L := jp h (by rw [hb]; exact k)
theorem js {p : Prop} {_ : Decidable p} (h : pstep N ops F o = some (d, .bool (decide p))) (k1 : p → JL P ops N Q rest ((d, .bool true) :: F) E M L) (k2 : ¬ p → JL P ops N Q rest ((d, .bool false) :: F) E M L) : JL P ops N Q (o :: rest) F E M L := by
 by_cases hp : p
 ·exact jt h (decide_eq_true hp) (k1 hp)
 exact jf h (decide_eq_false hp) (k2 hp)
theorem jsb {b : Bool} (h : pstep N ops F o = some (d, .bool b)) (k1 : b = true → JL P ops N Q rest ((d, .bool true) :: F) E M L) (k2 : b = false → JL P ops N Q rest ((d, .bool false) :: F) E M L) : JL P ops N Q (o :: rest) F E M L := by
 cases hb : b
 ·exact jf h hb (k2 hb)
 exact jt h hb (k1 hb)
def ar : BinOp → Int → Int → Option Int
 | .add, a, b => some (a + b)
 | .sub, a, b => some (a - b)
 | .mul, a, b => some (a * b)
 | _, _, _ => none
def astep (N : Fs) (ops : Array Oper) (F : Fr) (o : Oper) : Option (Nat × Int) :=
 match o.dst, gd ops F o, o.op with
 | some d, some true, .binOp op _ x y _ => bif Nat.blt d N.n then match ev F x, ev F y with
  | some (.int .i64 a), some (.int .i64 b) => match ar op a b with
   | some r => some (d, r)
   | none => none
  | _, _ => none
  else none
 | _, _, _ => none
theorem qA {op : BinOp} {xT yT : TypeId} {x y : Operand} {a b r : Int} (hg : gd ops F o = some true) (ho : o.op = .binOp op xT x y yT) (hx : ev F x = some (.int .i64 a)) (hy : ev F y = some (.int .i64 b))
  (hr : ar op a b = some r) (h : -9223372036854775808 ≤ r ∧ r ≤ 9223372036854775807) : QF P ops N F M L o (.int .i64 r) := wFd hg fun ac ha w _ => by
 have hw := IntWalk.i64_in r h
 simp only [execOp, ho, ha.ev hx, ha.ev hy]
 unfold ar at hr
 split at hr <;> first | cases hr | skip
 all_goals simp [eqGuard, binOp, Op.intArith, hw]
theorem wGh {r : Int} (h : astep N ops F o = some (d, r)) (hr : -9223372036854775808 ≤ r ∧ r ≤ 9223372036854775807) : o.dst = some d ∧ Nat.blt d N.n = true ∧ QF P ops N F M L o (.int .i64 r) := by
 unfold astep at h
 split at h
 ·rename_i d' op xT x y yT hd hg ho
  cases hb : Nat.blt d' N.n with
  | false => rw [hb] at h; cases h
  | true =>
   rw [hb] at h
   simp only [cond_true] at h
   split at h
   ·rename_i a b hx hy
    split at h
    ·rename_i r' hr'; cases h; exact ⟨hd, hb, qA hg ho hx hy hr' hr⟩
    cases h
   cases h
 cases h
theorem ja {r : Int} (h : astep N ops F o = some (d, r)) (hr : -9223372036854775808 ≤ r ∧ r ≤ 9223372036854775807) (k : JL P ops N Q rest ((d, .int .i64 r) :: F) E M L) : JL P ops N Q (o :: rest) F E M L :=
 wAi (wGh (P := P) (M := M) (L := L) h hr).1 (wGh (P := P) (M := M) (L := L) h hr).2.1 (wGh h hr).2.2 k
variable {Mi Mw : Mem} {Li Lw : Lc} {p : Ph} {i : Nat} {restD : List (Nat × Bool)}
theorem dp {v : Value} (ho : ops[i]? = some o) (h : pstep N ops F o = some (d, v)) (k : JD P ops N p Mw Lw Q restD ((d, v) :: F) E M L Mi Li) (hA : p.A i = true := by rfl) : JD P ops N p Mw Lw Q ((i, true) :: restD) F E M L Mi Li :=
 jd_any ho (wDm h).1 (wDm h).2.1 (fun M L => (wDm h).2.2 P M L) k hA
theorem dt {b : Bool} (ho : ops[i]? = some o) (h : pstep N ops F o = some (d, .bool b)) (hb : b = true) (k : JD P ops N p Mw Lw Q restD ((d, .bool true) :: F) E M L Mi Li) (hA : p.A i = true := by rfl) : JD P ops N p Mw Lw Q ((i, true) :: restD) F E M L Mi Li := dp ho h (by rw [hb]; exact k) hA
theorem df {b : Bool} (ho : ops[i]? = some o) (h : pstep N ops F o = some (d, .bool b)) (hb : b = false) (k : JD P ops N p Mw Lw Q restD ((d, .bool false) :: F) E M L Mi Li) (hA : p.A i = true := by rfl) : JD P ops N p Mw Lw Q ((i, true) :: restD) F E M L Mi Li := dp ho h (by rw [hb]; exact k) hA
theorem ds {pr : Prop} {_ : Decidable pr} (ho : ops[i]? = some o) (h : pstep N ops F o = some (d, .bool (decide pr))) (k1 : pr → JD P ops N p Mw Lw Q restD ((d, .bool true) :: F) E M L Mi Li) (k2 : ¬ pr → JD P ops N p Mw Lw Q restD ((d, .bool false) :: F) E M L Mi Li) (hA : p.A i = true := by rfl) : JD P ops N p Mw Lw Q ((i, true) :: restD) F E M L Mi Li := by
 by_cases hp : pr
 ·exact dt ho h (decide_eq_true hp) (k1 hp) hA
 exact df ho h (decide_eq_false hp) (k2 hp) hA
theorem da {r : Int} (ho : ops[i]? = some o) (h : astep N ops F o = some (d, r)) (hr : -9223372036854775808 ≤ r ∧ r ≤ 9223372036854775807) (k : JD P ops N p Mw Lw Q restD ((d, .int .i64 r) :: F) E M L Mi Li) (hA : p.A i = true := by rfl) : JD P ops N p Mw Lw Q ((i, true) :: restD) F E M L Mi Li :=
 jd_any ho (wGh (P := P) (M := M) (L := L) h hr).1 (wGh (P := P) (M := M) (L := L) h hr).2.1 (fun _ _ => (wGh h hr).2.2) k hA
theorem wJj {b : Bool} (hd : o.dst = some d) (hN : Nat.blt d N.n = true) (hq : QF P ops N F M L o (.bool b)) (k1 : b = true → JL P ops N Q rest ((d, .bool true) :: F) E M L) (k2 : b = false → JL P ops N Q rest ((d, .bool false) :: F) E M L) : JL P ops N Q (o :: rest) F E M L := by
 cases b
 ·exact wAi hd hN hq (k2 rfl)
 exact wAi hd hN hq (k1 rfl)
theorem wKi {b : Bool} (ho : ops[i]? = some o) (hd : o.dst = some d) (hN : Nat.blt d N.n = true) (hq : QF P ops N F Mi Li o (.bool b)) (k1 : b = true → JD P ops N p Mw Lw Q restD ((d, .bool true) :: F) E M L Mi Li) (k2 : b = false → JD P ops N p Mw Lw Q restD ((d, .bool false) :: F) E M L Mi Li) (hA : p.A i = true := by rfl) (hU : p.U i = true := by rfl) : JD P ops N p Mw Lw Q ((i, true) :: restD) F E M L Mi Li := by
 cases b
 ·exact wBq ho hd hN hq (k2 rfl) hA hU
 exact wBq ho hd hN hq (k1 rfl) hA hU
theorem ep {v : Value} (ho : ops[i]? = some o) (h : pstep N ops F o = some (d, v)) (k : JE P ops N p Mw Lw Q restD ((d, v) :: F) E M L) (hA : p.A i = true := by rfl) (hU : p.U i = false := by rfl) : JE P ops N p Mw Lw Q ((i, true) :: restD) F E M L :=
 je_q ho (wDm h).1 (wDm h).2.1 ((wDm h).2.2 P Mw Lw) k hA hU
theorem qMax {x y : Operand} {T : Array TypeId} {k k' : IntKind} {a b : Int} (hg : gd ops F o = some true) (ho : o.op = .call { callee := .builtin .max, args := #[x, y], argTypes := T }) (hx : ev F x = some (.int k a)) (hy : ev F y = some (.int k' b)) :
  QF P ops N F M L o (.int k (max a b)) := wFd hg fun ac ha w _ => by
 have : max a b = if a < b then b else a := by rw [Int.max_def]; split <;> split <;> omega
 simp [execOp, ho, resolve, invoke, builtin, Builtin.max_, Builtin.max2, ha.ev hx, ha.ev hy, this]
theorem qMin {x y : Operand} {T : Array TypeId} {k k' : IntKind} {a b : Int} (hg : gd ops F o = some true) (ho : o.op = .call { callee := .builtin .min, args := #[x, y], argTypes := T }) (hx : ev F x = some (.int k a)) (hy : ev F y = some (.int k' b)) :
  QF P ops N F M L o (.int k (min a b)) := wFd hg fun ac ha w _ => by
 have : min a b = if b < a then b else a := by rw [Int.min_def]; split <;> split <;> omega
 simp [execOp, ho, resolve, invoke, builtin, Builtin.min_, Builtin.min2, ha.ev hx, ha.ev hy, this]
theorem qQuo {xT yT : TypeId} {x y : Operand} {a b : Int} (hg : gd ops F o = some true) (ho : o.op = .binOp .quo xT x y yT) (hx : ev F x = some (.int .i64 a)) (hy : ev F y = some (.int .i64 b))
  (h1 : 0 ≤ a) (h2 : a ≤ 9223372036854775807) (h3 : 1 ≤ b) : QF P ops N F M L o (.int .i64 (a / b)) := wFd hg fun ac ha w _ => by
 have hb : b ≠ 0 := by omega
 simp only [execOp, ho, ha.ev hx, ha.ev hy]
 simp [eqGuard, binOp, Op.intDiv, hb, IntWalk.i64_quo a b ⟨h1, h2, h3⟩]
theorem qRem {xT yT : TypeId} {x y : Operand} {k : IntKind} {a b : Int} (hg : gd ops F o = some true) (ho : o.op = .binOp .rem xT x y yT) (hx : ev F x = some (.int k a)) (hy : ev F y = some (.int k b))
  (h1 : 0 ≤ a) (h3 : 1 ≤ b) : QF P ops N F M L o (.int k (a % b)) := wFd hg fun ac ha w _ => by
 have hb : b ≠ 0 := by omega
 simp only [execOp, ho, ha.ev hx, ha.ev hy]
 simp [eqGuard, binOp, Op.intDiv, hb, Int.tmod_eq_emod_of_nonneg h1]
end
class Und (P : Program) (t : TypeId) (d : outParam TypeDesc) : Prop where
 h : P.underlying t = some d
class Lay (P : Program) (t : TypeId) (size bytes : outParam Nat) (z : outParam (List Value)) : Prop where
 h : ((P.info? t).map fun i => (i.size, i.bytes, i.zero.map fun v => v.cells.toList)) = some (size, bytes, some z)
 len : z.length = size
class Fld (P : Program) (s : TypeId) (i : Nat) (off : outParam Nat) (ft : outParam TypeId) : Prop where
 h : (match P.underlying s with | some (.struct fs) => (fs[i]?).map fun f => (f.offset, f.type) | _ => none) = some (off, ft)
theorem Lay.info {P : Program} {t : TypeId} {size bytes : Nat} {z : List Value} (l : Lay P t size bytes z) : ∃ i v, P.info? t = some i ∧ i.size = size ∧ i.bytes = bytes ∧ i.zero = some v ∧ v.cells = z.toArray := by
 have h := l.h
 cases hi : P.info? t with
 | none => rw [hi] at h; cases h
 | some i =>
  rw [hi] at h
  cases hz : i.zero with
  | none => simp [hz] at h
  | some v =>
   simp [hz] at h
   exact ⟨i, v, rfl, h.1, h.2.1, hz, by rw [← h.2.2]⟩
theorem Fld.fields {P : Program} {s : TypeId} {i off : Nat} {ft : TypeId} (l : Fld P s i off ft) : ∃ fs f, P.underlying s = some (.struct fs) ∧ fs[i]? = some f ∧ f.offset = off ∧ f.type = ft := by
 have h := l.h
 split at h
 ·rename_i fs hs
  cases hf : fs[i]? with
  | none => rw [hf] at h; cases h
  | some f => rw [hf] at h; simp at h; exact ⟨fs, f, hs, hf, h.1, h.2⟩
 cases h
class At (b : Nat) (o : outParam Obj) (L : Lc) : Prop where
 mem : (b, o) ∈ L
instance (priority := high) At.head {b : Nat} {o : Obj} {L : Lc} : At b o ((b, o) :: L) := ⟨List.Mem.head _⟩
instance At.tail {b : Nat} {o : Obj} {p : Nat × Obj} {L : Lc} [h : At b o L] : At b o (p :: L) := ⟨List.Mem.tail _ h.mem⟩
instance At.right {b : Nat} {o : Obj} {R L : Lc} [h : At b o L] : At b o (R ++ L) := ⟨List.mem_append_right _ h.mem⟩
class PutAt (b : Nat) (o : outParam Obj) (o' : Obj) (L : Lc) (L' : outParam Lc) : Prop where
 ex : ∃ A B, L = A ++ (b, o) :: B ∧ L' = A ++ (b, o') :: B
instance (priority := high) PutAt.head {b : Nat} {o o' : Obj} {L : Lc} : PutAt b o o' ((b, o) :: L) ((b, o') :: L) := ⟨[], L, rfl, rfl⟩
instance PutAt.tail {b : Nat} {o o' : Obj} {p : Nat × Obj} {L L' : Lc} [h : PutAt b o o' L L'] : PutAt b o o' (p :: L) (p :: L') := ⟨by
 obtain ⟨A, B, h1, h2⟩ := h.ex; exact ⟨p :: A, B, by rw [h1]; rfl, by rw [h2]; rfl⟩⟩
instance PutAt.right {b : Nat} {o o' : Obj} {R L L' : Lc} [h : PutAt b o o' L L'] : PutAt b o o' (R ++ L) (R ++ L') := ⟨by
 obtain ⟨A, B, h1, h2⟩ := h.ex; exact ⟨R ++ A, B, by rw [h1]; simp, by rw [h2]; simp⟩⟩
def CJ (M : Mem) (L : Lc) (b off : Nat) (v : Value) : Prop := ∃ c e fz, (M b = some (.cells c e fz) ∨ (b, Obj.cells c e fz) ∈ L) ∧ c[off]? = some v
theorem CJ.cell {M : Mem} {L : Lc} {b off : Nat} {v : Value} (h : CJ M L b off v) {w : World} (hw : Js M L w) : w.cell? ⟨b, off, none⟩ = some v := by
 obtain ⟨c, e, fz, h1, h2⟩ := h
 have : w.heap[b]? = some (.cells c e fz) := h1.elim (hw.agree _ _) (hw.locs (b, Obj.cells c e fz))
 simp [World.cell?, this, h2]
theorem CJ.loc {M : Mem} {L : Lc} {b off : Nat} {v : Value} {l : List Value} {e : TypeId} {fz : Nat × Nat} [h : At b (.cells l.toArray e fz) L] (hv : l[off]? = some v) : CJ M L b off v :=
 ⟨l.toArray, e, fz, .inr h.mem, by simpa using hv⟩
theorem CJ.mono {M M' : Mem} {L : Lc} {b off : Nat} {v : Value} (h : CJ M L b off v) (hM : MLe M M') : CJ M' L b off v := by
 obtain ⟨c, e, fz, h1, h2⟩ := h
 exact ⟨c, e, fz, h1.imp (hM _ _) id, h2⟩
def aggD : TypeDesc → Bool
 | .struct _ | .array _ _ => true
 | _ => false
section
variable {P : Program} {ops : Array Oper} {N : Fs} {F : Fr} {E : Ent} {M : Mem} {L : Lc} {o : Oper}
theorem wHd {t : TypeId} {d : TypeDesc} (h : P.underlying t = some d) (w : World) : (isAgg t).run P w = .ok (aggD d) w := by
 simp only [isAgg, Sem.run_bind, run_underlying h, Result.andThen_ok]
 cases d <;> rfl
theorem wBj {x : Operand} {t e : TypeId} {a : Option Addr} {n c : Nat} (hg : gd ops F o = some true) (ho : o.op = .call { callee := .builtin .len, args := #[x], argTypes := #[t] })
  (hx : ev F x = some (.slice a n c)) [ht : Und P t (.slice e)] : QF P ops N F M L o (.int .i64 n) := wFd hg fun ac ha w _ => by
 simp [execOp, ho, resolve, invoke, builtin, Builtin.len_, ha.ev hx, run_underlying ht.h, goInt]
theorem wDw {x : Operand} {s d : TypeId} {k k' : IntKind} {n : Int} {ds : TypeDesc} (hg : gd ops F o = some true) (ho : o.op = .convert s d x) (hx : ev F x = some (.int k' n)) [hs : Und P s ds] [hd : Und P d (.int k)]
  : QF P ops N F M L o (.int k (k.wrap n)) := wFd hg fun ac ha w _ => by
 simp [execOp, ho, convert, run_underlying hs.h, run_underlying hd.h, ha.ev hx, Conv.intToInt]
theorem wEm {x : Operand} {s d : TypeId} {k' : IntKind} {n : Int} {ds : TypeDesc} (hg : gd ops F o = some true) (ho : o.op = .convert s d x) (hx : ev F x = some (.int k' n)) [hs : Und P s ds] [hd : Und P d (.int .i64)] (h : -9223372036854775808 ≤ n ∧ n ≤ 9223372036854775807)
  : QF P ops N F M L o (.int .i64 n) := qEq (wDw hg ho hx) (by rw [IntWalk.i64_in n h])
theorem wBg {x : Operand} {s : TypeId} {i fo : Nat} {ft : TypeId} {sz by_ : Nat} {z : List Value} {b off off' : Nat} (hg : gd ops F o = some true) (ho : o.op = .fieldAddr s x i) (hx : ev F x = some (.pointer (some ⟨b, off, none⟩))) [hf : Fld P s i fo ft] [hl : Lay P ft sz by_ z]
  (hz : Nat.beq sz 0 = false) (ho' : off + fo = off') : QF P ops N F M L o (.pointer (some ⟨b, off', none⟩)) := wFd hg fun ac ha w _ => by
 obtain ⟨fs, f, hs, hf1, hf2, hf3⟩ := hf.fields
 obtain ⟨ti, v, hi, hi2, _⟩ := hl.info
 have hz' : ti.size ≠ 0 := fun e => by rw [hi2] at e; rw [e] at hz; simp at hz
 have hadd : (⟨b, off, none⟩ : Addr).add fo = ⟨b, off', none⟩ := by unfold Addr.add; split <;> simp_all
 subst hf2 hf3
 simp [execOp, ho, Instr.fieldAt, run_underlying hs, hf1, ha.ev hx, Instr.sureAddr, fieldPlace, sizeOf, typeInfo, hi, hz', hadd]
theorem qLd {x : Operand} {t : TypeId} {d : TypeDesc} {b off : Nat} {v : Value} (hg : gd ops F o = some true) (ho : o.op = .load t x) (hx : ev F x = some (.pointer (some ⟨b, off, none⟩))) [hd : Und P t d] (ha : aggD d = false) (hc : CJ M L b off v) : QF P ops N F M L o v :=
 wFd hg fun ac hac w hw => by
  simp [execOp, ho, hac.ev hx, Instr.loadAt, Instr.sureAddr, loadVar, wHd hd.h, ha, hc.cell hw]
theorem wGx {x : Operand} {t : TypeId} {d : TypeDesc} {b off sz by_ : Nat} {z cs : List Value} (hg : gd ops F o = some true) (ho : o.op = .load t x) (hx : ev F x = some (.pointer (some ⟨b, off, none⟩))) [hd : Und P t d] [hl : Lay P t sz by_ z] (ha : aggD d = true)
  (hn : cs.length = sz) (hc : ∀ i v, cs[i]? = some v → CJ M L b (off + i) v) : QF P ops N F M L o (.agg cs.toArray) :=
 wFd hg fun ac hac w hw => by
  obtain ⟨ti, v, hi, hi2, _⟩ := hl.info
  have hadd : ∀ j, (⟨b, off, none⟩ : Addr).add j = ⟨b, off + j, none⟩ := fun j => by unfold Addr.add; split <;> simp_all
  have h := run_loadCells_list (P := P) (w := w) ⟨b, off, none⟩ cs (fun j v hv => by rw [hadd]; exact (hc j v hv).cell hw)
  simp [execOp, ho, hac.ev hx, Instr.loadAt, Instr.sureAddr, loadVar, wHd hd.h, ha, sizeOf, typeInfo, hi, hi2, ← hn, h]
theorem wBe {x ix : Operand} {t e : TypeId} {b off n c sz by_ : Nat} {z : List Value} {k : IntKind} {i : Int} (hg : gd ops F o = some true) (ho : o.op = .indexAddr t x ix) (hx : ev F x = some (.slice (some ⟨b, off, none⟩) n c)) (hi : ev F ix = some (.int k i)) [ht : Und P t (.slice e)] [hl : Lay P e sz by_ z]
  (h : 0 ≤ i ∧ i < n) : QF P ops N F M L o (.pointer (some ⟨b, off + i.toNat * sz, none⟩)) :=
 wFd hg fun ac hac w hw => by
  obtain ⟨ti, v, hi1, hi2, _⟩ := hl.info
  have hadd : ∀ j, (⟨b, off, none⟩ : Addr).add j = ⟨b, off + j, none⟩ := fun j => by unfold Addr.add; split <;> simp_all
  simp [execOp, ho, hac.ev hx, hac.ev hi, Instr.indexAt, asIntOf, run_underlying ht.h, h, sizeOf, typeInfo, hi1, hi2, hadd]
theorem qIdxA {x ix : Operand} {t e : TypeId} {b off n sz by_ : Nat} {z : List Value} {k : IntKind} {i : Int} (hg : gd ops F o = some true) (ho : o.op = .indexAddr t x ix) (hx : ev F x = some (.pointer (some ⟨b, off, none⟩))) (hi : ev F ix = some (.int k i)) [ht : Und P t (.array n e)] [hl : Lay P e sz by_ z]
  (h : 0 ≤ i ∧ i < n) : QF P ops N F M L o (.pointer (some ⟨b, off + i.toNat * sz, none⟩)) :=
 wFd hg fun ac hac w hw => by
  obtain ⟨ti, v, hi1, hi2, _⟩ := hl.info
  have hadd : ∀ j, (⟨b, off, none⟩ : Addr).add j = ⟨b, off + j, none⟩ := fun j => by unfold Addr.add; split <;> simp_all
  simp [execOp, ho, hac.ev hx, hac.ev hi, Instr.indexAt, asIntOf, Instr.sureAddr, run_underlying ht.h, h, sizeOf, typeInfo, hi1, hi2, hadd]
theorem qField {x : Operand} {s : TypeId} {i fo : Nat} {ft : TypeId} {d : TypeDesc} {cs : List Value} {v : Value} (hg : gd ops F o = some true) (ho : o.op = .field s x i) (hx : ev F x = some (.agg cs.toArray)) [hf : Fld P s i fo ft] [hd : Und P ft d] (ha : aggD d = false) (hv : cs[fo]? = some v) : QF P ops N F M L o v :=
 wFd hg fun ac hac w hw => by
  obtain ⟨fs, f, hs, hf1, hf2, hf3⟩ := hf.fields
  subst hf2 hf3
  simp [execOp, ho, hac.ev hx, Instr.field, run_underlying hs, hf1, asAgg, part, wHd hd.h, ha, hv]
theorem St.alloc {w : World} (h : St E M L w) (ob : Obj) : St E M ((w.heap.size, ob) :: L) (w.alloc ob) := by
 have hb : Below w.heap.size w (w.alloc ob) := (Below.refl _ _).alloc (Nat.le_refl _) _
 have hw := St.closed _ _ _ _ _ h hb
 refine { hw with locs := fun p hp => ?_, nodup := ?_ }
 ·rcases List.mem_cons.1 hp with rfl | hp
  ·refine ⟨heap_alloc_new w _, .inl h.size, ?_⟩
   cases hm : M w.heap.size with
   | none => rfl
   | some x => exact absurd (wDj (h.agree _ _ hm)) (Nat.lt_irrefl _)
  exact hw.locs p hp
 refine List.nodup_cons.2 ⟨fun hm => ?_, h.nodup⟩
 obtain ⟨p, hp, he⟩ := List.mem_map.1 hm
 have := wDj (h.locs p hp).1
 simp only at he
 omega
theorem St.put {w : World} {b : Nat} {c c' : Array Value} {e : TypeId} {fz : Nat × Nat} {L' : Lc} (h : St E M L w) (hp : PutAt b (.cells c e fz) (.cells c' e fz) L L') : St E M L' (w.setRow b c') := by
 obtain ⟨A, B, rfl, rfl⟩ := hp.ex
 have hb := h.locs (b, .cells c e fz) (by simp)
 have hne : ∀ p ∈ A ++ B, p.1 ≠ b := by
  intro p hp he
  have hn := h.nodup
  rw [List.map_append, List.map_cons] at hn
  have := (List.nodup_append.1 hn)
  rcases List.mem_append.1 hp with hp | hp
  ·exact this.2.2 p.1 (List.mem_map.2 ⟨p, hp, rfl⟩) b (by simp) he
  exact (List.nodup_cons.1 this.2.1).1 (List.mem_map.2 ⟨p, hp, he⟩)
 have hr : ∀ k, k ≠ b → (w.setRow b c').heap[k]? = w.heap[k]? := fun k hk => setRow_other w b k c' hk
 exact
  {os := h.os, tape := h.tape, output := h.output, size := by rw [setRow_size]; exact h.size
   same := fun k hk hx => by
    have : k ≠ b := fun e => by subst e; exact hb.2.1.elim (fun h => by omega) hx
    rw [hr k this]; exact h.same k hk hx
   fresh := h.fresh
   agree := fun k x hx => by
    have : k ≠ b := fun e => by subst e; rw [hb.2.2] at hx; cases hx
    rw [hr k this]; exact h.agree k x hx
   locs := fun p hp => by
    rcases List.mem_append.1 hp with hp | hp
    ·have hp' := h.locs p (by simp [hp])
     exact ⟨by rw [hr _ (hne p (by simp [hp]))]; exact hp'.1, hp'.2⟩
    rcases List.mem_cons.1 hp with rfl | hp
    ·exact ⟨setRow_heap w b _ _ _ _ hb.1, hb.2⟩
    have hp' := h.locs p (by simp [hp])
    exact ⟨by rw [hr _ (hne p (by simp [hp]))]; exact hp'.1, hp'.2⟩
   nodup := by have := h.nodup; simpa [List.map_append] using this }
theorem wHw {K : Value → Mem → Lc → Prop} (hg : gd ops F o = some true)
  (h : ∀ a w, Has N F a → St E M L w → ∃ v w' M' L', ((execOp a.eval o).run P w = .ok (.value v) w' ∨ (v = undef ∧ (execOp a.eval o).run P w = .ok .skip w')) ∧ St E M' L' w' ∧ K v M' L') : HF P ops N F E M L o K := fun a w ha hw =>
 ⟨gd_spec ha hg, fun Q => by
  obtain ⟨v, w', M', L', hr, hs, hK⟩ := h a w ha hw
  have hnd : ∀ c, o.op ≠ .defer c := by
   intro c hc
   have key : ∀ n, (execOp a.eval o).run P w = .ok n w' → ∃ d, n = .defer d := fun n hn => by
    simp only [execOp, hc, Sem.run_bind] at hn
    generalize (resolve a.eval c o.type).run P w = r at hn
    cases r with
    | ok d w2 => simp [Result.andThen] at hn; exact ⟨d, hn.1.symm⟩
    | halt x w2 => simp [Result.andThen] at hn
   rcases hr with hr | ⟨_, hr⟩
   ·obtain ⟨d, hd⟩ := key _ hr; cases hd
   obtain ⟨d, hd⟩ := key _ hr; cases hd
  refine ⟨fun _ _ => trivial, ?_⟩
  rw [Oper.semAt_eq _ _ _ hnd]
  rcases hr with hr | ⟨rfl, hr⟩
  ·rw [hr]; exact ⟨v, M', L', rfl, hs, hK⟩
  rw [hr]; exact ⟨undef, M', L', rfl, hs, hK⟩⟩
theorem wDy {t : TypeId} {sz by_ : Nat} {z : List Value} (hg : gd ops F o = some true) (ho : o.op = .alloc t) [hl : Lay P t sz by_ z] :
  HF P ops N F E M L o (fun v M' L' => ∃ b, v = .pointer (some ⟨b, 0, none⟩) ∧ M = M' ∧ L' = (b, .cells z.toArray t (0, 0)) :: L) := wHw hg fun a w ha hw => by
 obtain ⟨ti, v, hi, _, _, hz, hz2⟩ := hl.info
 refine ⟨_, _, M, _, .inl ?_, hw.alloc (.cells z.toArray t (0, 0)), _, rfl, rfl, rfl⟩
 simp [execOp, ho, Instr.alloc, zeroValue, typeInfo, hi, hz, newVar, newRow, hz2]
theorem wCm {t : TypeId} {x : Operand} {u : Value} (hg : gd ops F o = some true) (ho : o.op = .box t x) (hx : ev F x = some u) {cs : List Value} (hc : u.cells = cs.toArray) :
  HF P ops N F E M L o (fun v M' L' => ∃ b, v = .pointer (some ⟨b, 0, none⟩) ∧ M = M' ∧ L' = (b, .cells cs.toArray t (0, 0)) :: L) := wHw hg fun a w ha hw => by
 refine ⟨_, _, M, _, .inl ?_, hw.alloc (.cells cs.toArray t (0, 0)), _, rfl, rfl, rfl⟩
 simp [execOp, ho, Instr.box, newVar, newRow, ha.ev hx, hc]
theorem hStore {t : TypeId} {x y : Operand} {u : Value} {b off : Nat} {l cs : List Value} {e : TypeId} {L' : Lc} {sz by_ : Nat} {z : List Value} (hg : gd ops F o = some true) (ho : o.op = .store t x y) (hx : ev F x = some (.pointer (some ⟨b, off, none⟩))) (hy : ev F y = some u)
  [hl : Lay P t sz by_ z] (hc : u.cells = cs.toArray) (hn : cs.length = sz) (h1 : ∀ v ∈ cs, v.oneCell' = true) [at_ : At b (.cells l.toArray e (0, 0)) L] (hfit : off + sz ≤ l.length)
  [hp : PutAt b (.cells l.toArray e (0, 0)) (.cells (l.take off ++ cs ++ l.drop (off + cs.length)).toArray e (0, 0)) L L'] :
  HF P ops N F E M L o (fun _ M' L'' => M = M' ∧ L'' = L') := wHw hg fun a w ha hw => by
 obtain ⟨ti, v, hi, hi2, _⟩ := hl.info
 have hb := (hw.locs _ at_.mem).1
 refine ⟨undef, _, M, L', .inr ⟨rfl, ?_⟩, hw.put hp, rfl, rfl⟩
 have hst := run_storeCells_at P b off e cs 0 l.toArray w hb (by simp; omega) h1
 simp [execOp, ho, ha.ev hx, ha.ev hy, Instr.storeAt, Instr.sureAddr, storeVar, sizeOf, typeInfo, hi, hi2, hc, hn, hst]
end
def Own (v : Value) (R : Lc) (e : TypeId) (size n : Nat) (xs : List Value) : Prop :=
  xs.length = n * size ∧
  ((v = .slice none 0 0 ∧ n = 0 ∧ R = []) ∨
   ∃ g cap cur, v = .slice (some ⟨g, 0, none⟩) n cap ∧ R = [(g, .cells cur e (0, 0))] ∧ n ≤ cap ∧ cap ≤ maxLen ∧ cur.size = cap * size ∧ cur.toList.take (n * size) = xs)
theorem Own.nil (e : TypeId) (size : Nat) : Own (.slice none 0 0) [] e size 0 [] := ⟨by simp, .inl ⟨rfl, rfl, rfl⟩⟩
class Pick (R : Lc) (L : Lc) (L2 : outParam Lc) : Prop where
  perm : L.Perm (R ++ L2)
instance (priority := high) Pick.head {R L : Lc} : Pick R (R ++ L) L := ⟨List.Perm.refl _⟩
instance Pick.self {R : Lc} : Pick R R [] := ⟨by simp⟩
instance Pick.nil {L : Lc} : Pick [] L L := ⟨List.Perm.refl _⟩
instance Pick.cons {R L L2 : Lc} {p : Nat × Obj} [h : Pick R L L2] : Pick R (p :: L) (p :: L2) := ⟨((List.Perm.cons p h.perm).trans (List.perm_middle.symm))⟩
instance Pick.app {R A L L2 : Lc} [h : Pick R L L2] : Pick R (A ++ L) (A ++ L2) := ⟨by
  have h1 := (List.Perm.append_left A h.perm)
  refine h1.trans ?_
  rw [← List.append_assoc, ← List.append_assoc]
  exact List.Perm.append_right _ List.perm_append_comm⟩
instance (priority := high) Pick.one {p : Nat × Obj} {L : Lc} : Pick [p] (p :: L) L := ⟨List.Perm.refl _⟩
section
variable {P : Program} {ops : Array Oper} {N : Fs} {F : Fr} {E : Ent} {M : Mem} {L : Lc} {o : Oper}
theorem Own.row {v : Value} {R L2 : Lc} {e : TypeId} {size n : Nat} {xs : List Value} (h : Own v R e size n xs) {w : World} (hw : St E M (R ++ L2) w) : w.ownsRow 0 e size v n xs := by
  refine ⟨h.1, ?_⟩
  rcases h.2 with ⟨rfl, rfl, _⟩ | ⟨g, cap, cur, rfl, rfl, h1, h2, h3, h4⟩
  · exact .inl ⟨rfl, rfl⟩
  exact .inr ⟨g, cap, cur, rfl, Nat.zero_le _, (hw.locs (g, .cells cur e (0, 0)) (by simp)).1, h1, h2, h3, h4⟩
theorem St.grown {v v' : Value} {R L2 : Lc} {e : TypeId} {size n n' : Nat} {xs xs' : List Value} {w w' : World} (hw : St E M (R ++ L2) w) (h : Own v R e size n xs) (h' : w'.ownsRow 0 e size v' n' xs') (hg : w.grownBy w' v.ownBlock)
    (hold : ∀ g, v'.ownBlock = some g → g < w.heap.size → v.ownBlock = some g) : ∃ R', Own v' R' e size n' xs' ∧ St E M (R' ++ L2) w' := by
  have hblk : ∀ g, v.ownBlock = some g → ∃ ob, R = [(g, ob)] := fun g hg => by
    rcases h.2 with ⟨rfl, rfl, _⟩ | ⟨g', cap, cur, rfl, rfl, _⟩
    · simp [Value.ownBlock] at hg
    simp [Value.ownBlock] at hg; subst hg; exact ⟨_, rfl⟩
  have hR : ∀ p ∈ R, v.ownBlock = some p.1 := fun p hp => by
    rcases h.2 with ⟨rfl, rfl, rfl⟩ | ⟨g', cap, cur, rfl, rfl, _⟩
    · cases hp
    rw [List.mem_singleton.1 hp]; rfl
  have keep : ∀ k, k < w.heap.size → v.ownBlock ≠ some k → w'.heap[k]? = w.heap[k]? := fun k hk hne => hg.block k hk (fun e => hne e.symm)
  have hnd := hw.nodup
  rw [List.map_append] at hnd
  have hnd2 := (List.nodup_append.1 hnd).2.1
  have hdis : ∀ p ∈ L2, v.ownBlock ≠ some p.1 := fun p hp he => by
    obtain ⟨ob, rfl⟩ := hblk p.1 he
    exact (List.nodup_append.1 hnd).2.2 p.1 (by simp) p.1 (List.mem_map.2 ⟨p, hp, rfl⟩) rfl
  have hloc : ∀ p ∈ L2, w'.heap[p.1]? = some p.2 ∧ (E.W.heap.size ≤ p.1 ∨ p.1 ∈ E.X) ∧ M p.1 = none := fun p hp => by
    have := hw.locs p (by simp [hp])
    exact ⟨by rw [keep p.1 (wDj this.1) (hdis p hp)]; exact this.1, this.2⟩
  have hag : ∀ b ob, M b = some ob → w'.heap[b]? = some ob := fun b ob hb => by
    have hb' := hw.agree b ob hb
    rw [keep b (wDj hb') (fun e => by
      obtain ⟨o2, hR2⟩ := hblk b e
      have := (hw.locs (b, o2) (by rw [hR2]; simp)).2.2
      rw [hb] at this; cases this)]
    exact hb'
  have hsame : ∀ k, k < E.W.heap.size → k ∉ E.X → w'.heap[k]? = E.W.heap[k]? := fun k hk hx => by
    rw [keep k (Nat.lt_of_lt_of_le hk hw.size) (fun e => by
      obtain ⟨o2, hR2⟩ := hblk k e
      have := (hw.locs (k, o2) (by rw [hR2]; simp)).2.1
      exact this.elim (fun h => by simp only at h; omega) hx)]
    exact hw.same k hk hx
  rcases h'.2 with ⟨rfl, rfl⟩ | ⟨g, cap, cur, rfl, _, hgg, h1, h2, h3, h4⟩
  · refine ⟨[], ⟨h'.1, .inl ⟨rfl, rfl, rfl⟩⟩, ?_⟩
    exact ⟨hg.os.trans hw.os, hg.tape.trans hw.tape, hg.output.trans hw.output, Nat.le_trans hw.size hg.size, hsame, hw.fresh, hag, fun p hp => hloc p (by simpa using hp), by simpa using hnd2⟩
  refine ⟨[(g, .cells cur e (0, 0))], ⟨h'.1, .inr ⟨g, cap, cur, rfl, rfl, h1, h2, h3, h4⟩⟩, ?_⟩
  have hg2 : ∀ p ∈ L2, p.1 ≠ g := fun p hp he => by
    have h5 := wDj (hw.locs p (by simp [hp])).1
    exact hdis p hp (by rw [he]; exact hold g rfl (by omega))
  refine ⟨hg.os.trans hw.os, hg.tape.trans hw.tape, hg.output.trans hw.output, Nat.le_trans hw.size hg.size, hsame, hw.fresh, hag, fun p hp => ?_, ?_⟩
  · rcases List.mem_cons.1 hp with rfl | hp
    · refine ⟨hgg, ?_⟩
      by_cases hlt : g < w.heap.size
      · obtain ⟨o2, hR2⟩ := hblk g (hold g rfl hlt)
        exact (hw.locs (g, o2) (by rw [hR2]; simp)).2
      refine ⟨.inl (Nat.le_trans hw.size (Nat.le_of_not_lt hlt)), ?_⟩
      cases hm : M g with
      | none => rfl
      | some x => exact absurd (wDj (hw.agree _ _ hm)) hlt
    exact hloc p hp
  simp only [List.cons_append, List.nil_append, List.map_cons]
  refine List.nodup_cons.2 ⟨fun hm => ?_, hnd2⟩
  obtain ⟨p, hp, he⟩ := List.mem_map.1 hm
  exact hg2 p hp he
def SJ (M : Mem) (L : Lc) (a : Option Addr) (news : List Value) : Prop := news = [] ∨ ∃ b off, a = some ⟨b, off, none⟩ ∧ ∀ i v, news[i]? = some v → CJ M L b (off + i) v
theorem HF.imp {K K' : Value → Mem → Lc → Prop} (h : HF P ops N F E M L o K) (hk : ∀ v M' L', K v M' L' → K' v M' L') : HF P ops N F E M L o K' := fun a w ha hw =>
  ⟨(h a w ha hw).1, fun Q => Oper.wpIn_mono (fun a' w' ⟨v, M', L', e, hs, hK⟩ => ⟨v, M', L', e, hs, hk v M' L' hK⟩) ((h a w ha hw).2 Q)⟩
theorem hAppendN {x y : Operand} {t e : TypeId} {v : Value} {R L2 : Lc} {size bytes n m c : Nat} {z xs news : List Value} {ad : Addr} (hg : gd ops F o = some true)
    (ho : o.op = .call { callee := .builtin .append, args := #[x, y], argTypes := #[t, t] }) (hx : ev F x = some v) (hy : ev F y = some (.slice (some ad) m c)) [ht : Und P t (.slice e)] [hl : Lay P e size bytes z]
    (hown : Own v R e size n xs) [hp : Pick R L L2] (hl1 : news.length = m * size) (hnews : ∀ i v, news[i]? = some v → CJ M L ad.block (ad.off + i) v) (hspot : ad.spot = none) (hz0 : Nat.blt 0 size = true) (h1 : ∀ u ∈ news, u.oneCell' = true) (hbig : n + m ≤ 1000000000) (hby : bytes ≤ 100000) :
    HF P ops N F E M L o (fun v' M' L' => M = M' ∧ ∃ R', L' = R' ++ L2 ∧ Own v' R' e size (n + m) (xs ++ news) ∧ (v' = .slice none 0 0 ↔ v = .slice none 0 0 ∧ m = 0) ∧ ((∀ p ∈ R, E.W.heap.size ≤ p.1) → ∀ p ∈ R', E.W.heap.size ≤ p.1)) := wHw hg fun a w ha hw => by
  obtain ⟨ti, zv, hi, hi2, hi3, hz, hz2⟩ := hl.info
  have hw' := hw.perm hp.perm
  have hown' := hown.row hw'
  have hadd : ∀ j, ad.add j = ⟨ad.block, ad.off + j, none⟩ := fun j => by
    obtain ⟨b, of, sp⟩ := ad; simp only at hspot; subst hspot; unfold Addr.add; split <;> simp_all
  have hsz : 0 < size := by simpa [Nat.blt_eq] using hz0
  obtain ⟨v', w', hr, h2, h3, h4⟩ := run_append_own (P := P) w 0 t o.type e ti zv size bytes ht.h hi hz hi2 hi3 (by rw [hz2]; simpa using hl.len) hsz v n xs hown' ad m c news hl1
    (fun j u hu => by rw [hadd]; exact (hnews j u hu).cell hw.js) h1 (by unfold maxLen; omega) (by
      have : (n + m) * bytes ≤ 1000000000 * 100000 := Nat.mul_le_mul hbig hby
      omega) (Nat.zero_le _)
  have hold : ∀ g, v'.ownBlock = some g → g < w.heap.size → v.ownBlock = some g := by
    intro g hg1 hlt
    have h63 : ((n + m : Nat) : Int) ≤ 9223372036854775807 := by omega
    have hby2 : (n + m) * bytes ≤ 140737488355328 := by
      have : (n + m) * bytes ≤ 1000000000 * 100000 := Nat.mul_le_mul hbig hby
      omega
    have hcell : ∀ j u, news[j]? = some u → w.cell? (ad.add j) = some u := fun j u hu => by rw [hadd]; exact (hnews j u hu).cell hw.js
    rcases hown'.2 with ⟨rfl, rfl⟩ | ⟨g0, cap, cur, rfl, _, hg0, hnc, hcm, hcs, htake⟩
    · by_cases hm : m = 0
      · have := h4.2 ⟨rfl, hm⟩; subst this; simp [Value.ownBlock] at hg1
      have hr2 := run_append_nil (P := P) w t o.type e ti zv ht.h hi hz ad m c news (by rw [hi2]; exact hl1) hcell (by omega) (by omega) (by rw [hi3]; simp only [Nat.zero_add] at hby2; omega)
      rw [hr2] at hr; cases hr
      simp [Value.ownBlock] at hg1; omega
    by_cases hroom : n + m ≤ cap
    · have hr2 := run_append_room (P := P) w t o.type e ti ht.h hi g0 n cap cur hg0 ad m c news (by rw [hi2]; exact hl1) hcell h1 hroom (by rw [hl1, hi2, hcs, ← Nat.add_mul]; exact Nat.mul_le_mul_right _ hroom)
      rw [hr2] at hr; cases hr
      simpa [Value.ownBlock] using hg1
    have holds : ∀ j u, xs[j]? = some u → w.cell? ((⟨g0, 0, none⟩ : Addr).add j) = some u := hown'.cells (g := g0) rfl
    have hr2 := run_append_grow (P := P) w t o.type e ti zv ht.h hi hz ⟨g0, 0, none⟩ n cap xs (by rw [hi2]; exact hown'.1) holds ad m c news (by rw [hi2]; exact hl1) hcell (by omega) h63 (growslice_fits (by omega) (by rw [hi3]; exact hby2))
    rw [hr2] at hr; cases hr
    simp [Value.ownBlock] at hg1; omega
  obtain ⟨R', hR1, hR2⟩ := hw'.grown hown h2 h3 hold
  have hnew : (∀ p ∈ R, E.W.heap.size ≤ p.1) → ∀ p ∈ R', E.W.heap.size ≤ p.1 := fun hR p hp => by
    rcases hR1.2 with ⟨rfl, _, rfl⟩ | ⟨g, cap, cur, rfl, rfl, _⟩
    · cases hp
    rw [List.mem_singleton.1 hp]
    by_cases hlt : g < w.heap.size
    · have hv := hold g rfl hlt
      rcases hown.2 with ⟨rfl, _, _⟩ | ⟨g2, cap2, cur2, rfl, rfl, _⟩
      · simp [Value.ownBlock] at hv
      simp [Value.ownBlock] at hv; subst hv; exact hR (_, Obj.cells cur2 e (0, 0)) (List.mem_singleton.2 rfl)
    exact Nat.le_trans hw'.size (Nat.le_of_not_lt hlt)
  refine ⟨v', w', M, R' ++ L2, .inl ?_, hR2, rfl, R', rfl, hR1, h4, hnew⟩
  simp [execOp, ho, resolve, invoke, builtin, ha.ev hx, ha.ev hy, hr]
theorem wDv {x y : Operand} {t e : TypeId} {v : Value} {R L2 : Lc} {size bytes n m c : Nat} {z xs news : List Value} {ad : Addr} (hg : gd ops F o = some true)
    (ho : o.op = .call { callee := .builtin .append, args := #[x, y], argTypes := #[t, t] }) (hx : ev F x = some v) (hy : ev F y = some (.slice (some ad) m c)) [ht : Und P t (.slice e)] [hl : Lay P e size bytes z]
    (hown : Own v R e size n xs) [hp : Pick R L L2] (hl1 : news.length = m * size) (hnews : ∀ i v, news[i]? = some v → CJ M L ad.block (ad.off + i) v) (hspot : ad.spot = none) (hz0 : Nat.blt 0 size = true) (h1 : ∀ u ∈ news, u.oneCell' = true) (hbig : n + m ≤ 1000000000) (hby : bytes ≤ 100000) :
    HF P ops N F E M L o (fun v' M' L' => M = M' ∧ ∃ R', L' = R' ++ L2 ∧ Own v' R' e size (n + m) (xs ++ news) ∧ (v' = .slice none 0 0 ↔ v = .slice none 0 0 ∧ m = 0)) :=
  HF.imp (hAppendN hg ho hx hy hown hl1 hnews hspot hz0 h1 hbig hby) fun v' M' L' ⟨e1, R', e2, e3, e4, _⟩ => ⟨e1, R', e2, e3, e4⟩
theorem hAppend0 {x y : Operand} {t e : TypeId} {v : Value} {R : Lc} {size bytes n c : Nat} {z xs : List Value} {ya : Option Addr} (hg : gd ops F o = some true)
    (ho : o.op = .call { callee := .builtin .append, args := #[x, y], argTypes := #[t, t] }) (hx : ev F x = some v) (hy : ev F y = some (.slice ya 0 c)) [ht : Und P t (.slice e)] [hl : Lay P e size bytes z]
    (hown : Own v R e size n xs) : HF P ops N F E M L o (fun v' M' L' => M = M' ∧ L' = L ∧ v' = v) := wHw hg fun a w ha hw => by
  obtain ⟨ti, zv, hi, hi2, hi3, hz, hz2⟩ := hl.info
  refine ⟨v, w, M, L, .inl ?_, hw, rfl, rfl, rfl⟩
  have hfc : ∀ w : World, (Builtin.firstCells ti.size 0 (.slice ya 0 c)).run P w = .ok #[] w := fun w => by
    cases ya <;> simp [Builtin.firstCells, loadCells, loadCellsFrom]
  rcases hown.2 with ⟨rfl, rfl, _⟩ | ⟨g, cap, cur, rfl, rfl, h1, h2, h3, h4⟩
  · simp [execOp, ho, resolve, invoke, builtin, ha.ev hx, ha.ev hy, Builtin.append_, run_underlying ht.h, sizeOf, typeInfo, hi, Builtin.lenOf, hfc]
  simp [execOp, ho, resolve, invoke, builtin, ha.ev hx, ha.ev hy, Builtin.append_, run_underlying ht.h, sizeOf, typeInfo, hi, Builtin.lenOf, hfc, h1, storeCells]
def isGo (P : Program) (f : FuncId) : Bool := match P.funcs[f]? with
  | some fn => !(fn.name == "runtime.NumGoroutine") && fn.body.isSome
  | none => false
theorem run_callFunc {f : FuncId} (h : isGo P f = true) (args : Array Value) (w : World) : (callFunc f args).run P w = .ok (.enter f args) w := by
  unfold isGo at h
  split at h
  · rename_i fn hf
    simp only [Bool.and_eq_true, Bool.not_eq_true'] at h
    have hn : fn.name ≠ "runtime.NumGoroutine" := by simpa using h.1
    have hb : fn.body ≠ none := fun e => by simp [e] at h
    simp [callFunc, hf, hn, hb]
  cases h
theorem run_callOp {x : Operand} {xs : List Operand} {T : Array TypeId} {f : FuncId} {first captured vs all : List Value} {a : Act} (ho : o.op = .call { callee := .value x, args := xs.toArray, argTypes := T }) (ha : Has N F a) (hx : ev F x = some (.func (.func f) first.toArray captured.toArray)) (hv : evs F xs = some vs)
    (hall : first ++ vs ++ captured = all) (hgo : isGo P f = true) (w : World) : (execOp a.eval o).run P w = .ok (.enter f all.toArray) w := by
  have h1 := ha.evs hv
  have h2 : xs.toArray.map a.eval = vs.toArray := by rw [← h1]; simp
  subst hall
  simp [execOp, ho, resolve, h2, ha.ev hx, Deferred.ofValue, invoke, run_callFunc hgo]
theorem St.into {R L2 : Lc} {w : World} (hw' : St E M (R ++ L2) w) : St ⟨w, R.map (·.1), M⟩ M R w :=
  { os := rfl, tape := rfl, output := rfl, size := Nat.le_refl _, same := fun _ _ _ => rfl, fresh := fun _ _ => rfl, agree := hw'.agree
    locs := fun p hp => ⟨(hw'.locs p (by simp [hp])).1, .inr (List.mem_map.2 ⟨p, hp, rfl⟩), (hw'.locs p (by simp [hp])).2.2⟩
    nodup := by have := hw'.nodup; rw [List.map_append] at this; exact (List.nodup_append.1 this).1 }
theorem St.back {R L2 R' : Lc} {w w' : World} {M' : Mem} (hw' : St E M (R ++ L2) w) (h : St ⟨w, R.map (·.1), M⟩ M' R' w') : St E M' (R' ++ L2) w' ∧ MLe M M' := by
    have hnd := hw'.nodup
    rw [List.map_append] at hnd
    have hX : ∀ k ∈ R.map (·.1), E.W.heap.size ≤ k ∨ k ∈ E.X := fun k hk => by
      obtain ⟨p, hp, rfl⟩ := List.mem_map.1 hk
      exact (hw'.locs p (by simp [hp])).2.1
    have hL2 : ∀ p ∈ L2, p.1 < w.heap.size ∧ p.1 ∉ R.map (·.1) := fun p hp =>
      ⟨wDj (hw'.locs p (by simp [hp])).1, fun hm => (List.nodup_append.1 hnd).2.2 p.1 hm p.1 (List.mem_map.2 ⟨p, hp, rfl⟩) rfl⟩
    have hR' : ∀ p ∈ R', w.heap.size ≤ p.1 ∨ p.1 ∈ R.map (·.1) := fun p hp => (h.locs p hp).2.1
    refine ⟨?_, fun b ob hb => ?_⟩
    · exact
        { os := h.os.trans hw'.os, tape := h.tape.trans hw'.tape, output := h.output.trans hw'.output, size := Nat.le_trans hw'.size h.size
          same := fun k hk hx => (h.same k (Nat.lt_of_lt_of_le hk hw'.size) (fun hm => (hX k hm).elim (fun h => by omega) hx)).trans (hw'.same k hk hx)
          fresh := fun k hk => (h.fresh k (Nat.lt_of_lt_of_le hk hw'.size)).trans (hw'.fresh k hk)
          agree := h.agree
          locs := fun p hp => by
            rcases List.mem_append.1 hp with hp | hp
            · refine ⟨(h.locs p hp).1, ?_, (h.locs p hp).2.2⟩
              rcases hR' p hp with h1 | h1
              · exact .inl (Nat.le_trans hw'.size h1)
              exact hX _ h1
            obtain ⟨h1, h2⟩ := hL2 p hp
            have h3 := hw'.locs p (by simp [hp])
            exact ⟨by rw [h.same p.1 h1 h2]; exact h3.1, h3.2.1, by rw [h.fresh p.1 h1]; exact h3.2.2⟩
          nodup := by
            rw [List.map_append]
            refine List.nodup_append.2 ⟨h.nodup, (List.nodup_append.1 hnd).2.1, fun a ha b hb hab => ?_⟩
            obtain ⟨p, hp, rfl⟩ := List.mem_map.1 ha
            obtain ⟨q, hq, rfl⟩ := List.mem_map.1 hb
            obtain ⟨h1, h2⟩ := hL2 q hq
            rcases hR' p hp with h3 | h3
            · omega
            rw [hab] at h3; exact h2 h3 }
    rw [h.fresh b (wDj (hw'.agree b ob hb))]; exact hb
theorem hCallN {x : Operand} {xs : List Operand} {T : Array TypeId} {f : FuncId} {first captured vs all : List Value} {R L2 : Lc} {post : Value → Mem → Lc → Prop} (hg : gd ops F o = some true)
    (ho : o.op = .call { callee := .value x, args := xs.toArray, argTypes := T }) (hx : ev F x = some (.func (.func f) first.toArray captured.toArray)) (hv : evs F xs = some vs) (hall : first ++ vs ++ captured = all) (hgo : isGo P f = true)
    (hs : SpecL P f all.toArray M R post) [hp : Pick R L L2] : HF P ops N F E M L o (fun v M' L' => MLe M M' ∧ ∃ R', L' = R' ++ L2 ∧ post v M' R' ∧ ∀ p ∈ R', p.1 ∈ R.map (·.1) ∨ E.W.heap.size ≤ p.1) := fun a w ha hw =>
  ⟨gd_spec ha hg, fun Q => by
    have hw' := hw.perm hp.perm
    refine ⟨fun _ _ => trivial, ?_⟩
    rw [Oper.semAt_eq _ _ _ (fun c hc => by rw [ho] at hc; cases hc), run_callOp ho ha hx hv hall hgo w]
    refine ⟨wJq _ _, calls_in _ _ ((hs w hw'.into).mono fun e w' hh => ?_)⟩
    obtain ⟨v, M', R', rfl, hpost, h⟩ := hh
    obtain ⟨h1, h2⟩ := hw'.back h
    exact ⟨v, M', R' ++ L2, rfl, h1, h2, R', rfl, hpost, fun p hp => (h.locs p hp).2.1.symm.imp id (Nat.le_trans hw'.size)⟩⟩
theorem wAu {x : Operand} {xs : List Operand} {T : Array TypeId} {f : FuncId} {first captured vs all : List Value} {R L2 : Lc} {post : Value → Mem → Lc → Prop} (hg : gd ops F o = some true)
    (ho : o.op = .call { callee := .value x, args := xs.toArray, argTypes := T }) (hx : ev F x = some (.func (.func f) first.toArray captured.toArray)) (hv : evs F xs = some vs) (hall : first ++ vs ++ captured = all) (hgo : isGo P f = true)
    (hs : SpecL P f all.toArray M R post) [hp : Pick R L L2] : HF P ops N F E M L o (fun v M' L' => MLe M M' ∧ ∃ R', L' = R' ++ L2 ∧ post v M' R') :=
  HF.imp (hCallN hg ho hx hv hall hgo hs) fun v M' L' ⟨e1, R', e2, e3, _⟩ => ⟨e1, R', e2, e3⟩
theorem wBr {x : Operand} {xs : List Operand} {T : Array TypeId} {f : FuncId} {first captured vs all : List Value} {v : Value} (hg : gd ops F o = some true)
    (ho : o.op = .call { callee := .value x, args := xs.toArray, argTypes := T }) (hx : ev F x = some (.func (.func f) first.toArray captured.toArray)) (hv : evs F xs = some vs) (hall : first ++ vs ++ captured = all) (hgo : isGo P f = true)
    (hs : SpecL P f all.toArray M [] (fun u _ _ => u = v)) : QF P ops N F M L o v := fun a ha =>
  .inl ⟨gd_spec ha hg, fun w hw => by
    have hin : St ⟨w, ([] : Lc).map (·.1), M⟩ M [] w :=
      { os := rfl, tape := rfl, output := rfl, size := Nat.le_refl _, same := fun _ _ _ => rfl, fresh := fun _ _ => rfl, agree := hw.agree
        locs := fun p hp => by cases hp
        nodup := by simp }
    rw [run_callOp ho ha hx hv hall hgo w]
    refine ⟨Below.refl _ _, (hs w hin).mono fun e w' hh => ?_⟩
    obtain ⟨u, M', R', rfl, rfl, h⟩ := hh
    exact ⟨rfl, ⟨h.os, h.tape, h.output, h.size, fun k hk => h.same k hk (by simp)⟩⟩⟩
end
end Go.Proofs.YtkcpllhggofloaaGreat
