/- THE WALKING LAYER: bits, results, scopes, bytes. No statement of the seat is proved here. -/
import Derived.Test.YtdjaehgadehnfaaGreatDoorHr
import Derived.Scope
import Derived.Laws.BitsLemmas
namespace Go.Proofs.YtdjaehgadehnfaaGreatDoor
set_option linter.unusedVariables false
set_option linter.unusedSimpArgs false
open Go.RowKit

instance (priority := low) At.left {b : Nat} {o : Obj} {R L : Lc} [h : At b o R] : At b o (R ++ L) := ⟨List.mem_append_left _ h.mem⟩
instance (priority := low) PutAt.left {b : Nat} {o o' : Obj} {R R' L : Lc} [h : PutAt b o o' R R'] : PutAt b o o' (R ++ L) (R' ++ L) := ⟨by
  obtain ⟨A, B, h1, h2⟩ := h.ex; exact ⟨A, B ++ L, by rw [h1]; simp, by rw [h2]; simp⟩⟩
instance (priority := low) Rm.left {g : Nat} {ob : Obj} {R R2 L : Lc} [h : Rm g ob R R2] : Rm g ob (R ++ L) (R2 ++ L) := ⟨List.Perm.append_right L h.perm⟩
theorem jq_drop {N : Fs} {F : Fr} {W : World} {X : List Nat} {M0 M : Mem} {L L' : Lc} {e : Exit} {Q : Exit → Act → World → Prop} (hs : L'.Sublist L) (h : JQ N e F ⟨W, X, M0⟩ M L' Q) : JQ N e F ⟨W, X, M0⟩ M L Q := fun a w ha hw => h a w ha (hw.fewer hs)

theorem jrn {P : Program} {fn : Func} {N : Fs} {F : Fr} {E : Ent} {M : Mem} {L : Lc} {post : Value → Mem → Lc → Prop} (h : JQ N .ret F E M L (retPost P fn E post)) : JQ N .normal F E M L (retPost P fn E post) := h
/-! ### bits -/
def bAnd (k : IntKind) (a b : Int) : Int := k.wrap (BitVec.ofInt k.bits a &&& BitVec.ofInt k.bits b).toNat
def bOr (k : IntKind) (a b : Int) : Int := k.wrap (BitVec.ofInt k.bits a ||| BitVec.ofInt k.bits b).toNat
def bXor (k : IntKind) (a b : Int) : Int := k.wrap (BitVec.ofInt k.bits a ^^^ BitVec.ofInt k.bits b).toNat
def bitOp (op : BinOp) (k : IntKind) (a b : Int) : Option Int := match op with
  | .and => some (bAnd k a b)
  | .or => some (bOr k a b)
  | .xor => some (bXor k a b)
  | _ => none
def bShl (k : IntKind) (a : Int) (n : Nat) : Int := k.wrap (a * 2 ^ (min n k.bits))
def bShr (k : IntKind) (a : Int) (n : Nat) : Int := a.fdiv (2 ^ (min n k.bits))
def shOp (op : BinOp) (k : IntKind) (a : Int) (n : Nat) : Option Int := match op with
  | .shl => some (bShl k a n)
  | .shr => some (bShr k a n)
  | _ => none

section
variable {P : Program} {ops : Array Oper} {N : Fs} {F : Fr} {E : Ent} {M : Mem} {L : Lc} {o : Oper}
theorem qBits {op : BinOp} {xT yT : TypeId} {x y : Operand} {k : IntKind} {a b r : Int} (hg : gd ops F o = some true) (ho : o.op = .binOp op xT x y yT) (hx : ev F x = some (.int k a)) (hy : ev F y = some (.int k b))
    (hr : bitOp op k a b = some r) : QF P ops N F M L o (.int k r) := qf_of hg fun ac ha w _ => by
  simp only [execOp, ho, ha.ev hx, ha.ev hy]
  unfold bitOp at hr
  split at hr <;> first | cases hr | skip
  all_goals simp [eqGuard, binOp, Op.intBits, bAnd, bOr, bXor]
theorem qShift {op : BinOp} {xT yT : TypeId} {x y : Operand} {k k' : IntKind} {a b r : Int} (hg : gd ops F o = some true) (ho : o.op = .binOp op xT x y yT) (hx : ev F x = some (.int k a)) (hy : ev F y = some (.int k' b))
    (h0 : 0 ≤ b) (hr : shOp op k a b.toNat = some r) : QF P ops N F M L o (.int k r) := qf_of hg fun ac ha w _ => by
  have h1 : ¬ b < 0 := by omega
  simp only [execOp, ho, ha.ev hx, ha.ev hy]
  unfold shOp at hr
  split at hr <;> first | cases hr | skip
  all_goals simp [eqGuard, binOp, Op.shift, h1, bShl, bShr]
theorem qNotI {xT : TypeId} {x : Operand} {a : Int} (hg : gd ops F o = some true) (ho : o.op = .unOp .xor xT x) (hx : ev F x = some (.int .u32 a)) : QF P ops N F M L o (.int .u32 (bXor .u32 4294967295 a)) := qf_of hg fun ac ha w _ => by
  simp only [execOp, ho, ha.ev hx]
  simp [Op.unary, Op.intBits, bXor, IntKind.signed, IntKind.max, IntKind.bits]
theorem qAk {op : BinOp} {xT yT : TypeId} {x y : Operand} {k : IntKind} {a b r : Int} (hg : gd ops F o = some true) (ho : o.op = .binOp op xT x y yT) (hx : ev F x = some (.int k a)) (hy : ev F y = some (.int k b))
    (hr : ar op a b = some r) (h : k.wrap r = r) : QF P ops N F M L o (.int k r) := qf_of hg fun ac ha w _ => by
  simp only [execOp, ho, ha.ev hx, ha.ev hy]
  unfold ar at hr
  split at hr <;> first | cases hr | skip
  all_goals simp [eqGuard, binOp, Op.intArith, h]
theorem qConvK {x : Operand} {s d : TypeId} {k k' : IntKind} {n : Int} {ds : TypeDesc} (hg : gd ops F o = some true) (ho : o.op = .convert s d x) (hx : ev F x = some (.int k' n)) [hs : Und P s ds] [hd : Und P d (.int k)] (h : k.wrap n = n)
    : QF P ops N F M L o (.int k n) := qEq (qConvInt hg ho hx) (by rw [h])
theorem qNilCheck {x : Operand} {a : Addr} (hg : gd ops F o = some true) (ho : o.op = .nilCheck x) (hx : ev F x = some (.pointer (some a))) : QF P ops N F M L o (.pointer (some a)) := qf_of hg fun ac ha w _ => by
  simp [execOp, ho, ha.ev hx]
theorem hStoreL {t : TypeId} {x y : Operand} {u : Value} {b off : Nat} {l l2 cs : List Value} {e : TypeId} {L' : Lc} {sz by_ : Nat} {z : List Value} (hg : gd ops F o = some true) (ho : o.op = .store t x y) (hx : ev F x = some (.pointer (some ⟨b, off, none⟩))) (hy : ev F y = some u)
    [hl : Lay P t sz by_ z] (hc : u.cells = cs.toArray) (hn : cs.length = sz) (h1 : (cs.all fun v => v.oneCell') = true) [at_ : At b (.cells l.toArray e (0, 0)) L] (hfit : Nat.ble (off + sz) l.length = true) (h2 : l.take off ++ cs ++ l.drop (off + cs.length) = l2)
    [hp : PutAt b (.cells l.toArray e (0, 0)) (.cells l2.toArray e (0, 0)) L L'] :
    HF P ops N F E M L o (fun _ M' L'' => M = M' ∧ L'' = L') := by
  subst h2
  exact hStore hg ho hx hy hc hn (fun v hv => List.all_eq_true.1 h1 v hv) (Nat.le_of_ble_eq_true hfit)
/-- a struct out of a block that is laid in cells told one by one -/
theorem qLdL {x : Operand} {t : TypeId} {d : TypeDesc} {b off sz by_ : Nat} {z l cs : List Value} {e : TypeId} {fz : Nat × Nat} (hg : gd ops F o = some true) (ho : o.op = .load t x) (hx : ev F x = some (.pointer (some ⟨b, off, none⟩))) [hd : Und P t d] [hl : Lay P t sz by_ z] (ha : aggD d = true)
    [at_ : At b (.cells l.toArray e fz) L] (hfit : Nat.ble (off + sz) l.length = true) (hc : (l.drop off).take sz = cs) : QF P ops N F M L o (.agg cs.toArray) :=
  qLdA hg ho hx ha (by subst hc; have := Nat.le_of_ble_eq_true hfit; rw [List.length_take, List.length_drop]; omega) fun i v hv => by
    subst hc
    rw [List.getElem?_take] at hv
    split at hv
    · exact CJ.loc (by simpa using hv)
    · cases hv
end

/-! ### what a function tells -/
inductive RV (P : Program) (F : Fr) (L : Lc) : ResultVar → Value → Prop
  | tmp {t : Nat} {v : Value} (h : lk t F = some v) : RV P F L (.tmp t) v
  | agg {t b sz by_ : Nat} {ty e : TypeId} {l : List Value} {fz : Nat × Nat} {d : TypeDesc} {z : List Value} (ht : lk t F = some (.pointer (some ⟨b, 0, none⟩))) [at_ : At b (.cells l.toArray e fz) L] [hd : Und P ty d] [hl : Lay P ty sz by_ z] (ha : aggD d = true) (hn : l.length = sz) : RV P F L (.cell t ty) (.agg l.toArray)
  | one {t b : Nat} {ty e : TypeId} {l : List Value} {fz : Nat × Nat} {d : TypeDesc} {v : Value} (ht : lk t F = some (.pointer (some ⟨b, 0, none⟩))) [at_ : At b (.cells l.toArray e fz) L] [hd : Und P ty d] (ha : aggD d = false) (hv : l[0]? = some v) : RV P F L (.cell t ty) v
inductive RVs (P : Program) (F : Fr) (L : Lc) : List ResultVar → List Value → Prop
  | nil : RVs P F L [] []
  | cons {r : ResultVar} {v : Value} {rs : List ResultVar} {vs : List Value} (h : RV P F L r v) (k : RVs P F L rs vs) : RVs P F L (r :: rs) (v :: vs)
def retV : List Value → Value
  | [v] => v
  | vs => .tuple vs.toArray
def resOne (tmps : Array Value) : ResultVar → Sem Value
  | .tmp t => pure (tmps.getD t undef)
  | .cell c t => do loadVar t (← asAddr (tmps.getD c undef))
theorem results_eq (fn : Func) (tmps : Array Value) : results fn tmps = (do let vs ← fn.results.mapM (resOne tmps); pure (if h : vs.size = 1 then vs[0] else .tuple vs)) := by
  unfold results
  have : (fun r : ResultVar => match r with | .tmp t => (pure (tmps.getD t undef) : Sem Value) | .cell a t => do loadVar t (← asAddr (tmps.getD a undef))) = resOne tmps := by
    funext r; cases r <;> rfl
  rw [← this]
  rfl
theorem RV.run {P : Program} {F : Fr} {E : Ent} {M : Mem} {L : Lc} {N : Fs} {r : ResultVar} {v : Value} (h : RV P F L r v) {a : Act} {w : World} (hac : Has N F a) (hw : St E M L w) : (resOne a.tmps r).run P w = .ok v w := by
  cases h with
  | tmp h => simp [resOne, Array.getD_eq_getD_getElem?, hac.get _ _ h]
  | @agg t b sz by_ ty e l fz d z ht at_ hd hl ha hn =>
    obtain ⟨ti, v, hi, hi2, _⟩ := hl.info
    have h1 := hac.get t _ ht
    have hadd : ∀ j, (⟨b, 0, none⟩ : Addr).add j = ⟨b, j, none⟩ := fun j => by unfold Addr.add; split <;> simp_all
    have h3 := run_loadCells_list (P := P) (w := w) ⟨b, 0, none⟩ l (fun j v hv => by rw [hadd]; exact (CJ.loc (M := M) (L := L) (e := e) (fz := fz) hv).cell hw.js)
    simp [resOne, Array.getD_eq_getD_getElem?, h1, asAddr, loadVar, run_isAgg hd.h, ha, sizeOf, typeInfo, hi, hi2, ← hn, h3]
  | @one t b ty e l fz d v ht at_ hd ha hv =>
    have h1 := hac.get t _ ht
    have h3 := (CJ.loc (M := M) (L := L) (b := b) (e := e) (fz := fz) hv).cell hw.js
    simp [resOne, Array.getD_eq_getD_getElem?, h1, asAddr, loadVar, run_isAgg hd.h, ha, h3]
theorem RVs.run {P : Program} {F : Fr} {E : Ent} {M : Mem} {L : Lc} {N : Fs} {a : Act} {w : World} (hac : Has N F a) (hw : St E M L w) : ∀ {rs : List ResultVar} {vs : List Value}, RVs P F L rs vs →
    (rs.mapM (resOne a.tmps)).run P w = .ok vs w
  | [], _, .nil => by simp
  | r :: rs, _, .cons h k => by
    have h1 := h.run hac hw
    have h2 := RVs.run hac hw k
    rw [List.mapM_cons, Sem.run_bind, h1, Result.andThen_ok, Sem.run_bind, h2, Result.andThen_ok, Sem.run_pure]
theorem jrs {P : Program} {fn : Func} {n : Nat} {F : Fr} {E : Ent} {M : Mem} {L : Lc} {post : Value → Mem → Lc → Prop} {rs : List ResultVar} {vs : List Value} (hr : fn.results = rs.toArray) (h : RVs P F L rs vs) (hp : post (retV vs) M L) : JQ ⟨n, [], none⟩ .ret F E M L (retPost P fn E post) := by
  intro a w hac hw
  show LeavesInM _ _ _ _ _ _ a.defers _ _
  rw [show a.defers = [] from hac.defers]
  have h1 := h.run hac hw
  refine ⟨_, ?_, _, M, L, rfl, hp, hw⟩
  rw [results_eq, hr, Sem.run_bind, List.mapM_toArray, Sem.run_map, h1]
  unfold retV
  split
  · simp [Result.andThen]
  · rename_i h2
    have : vs.length ≠ 1 := fun e => by
      match vs, e with
      | [v], _ => exact h2 v rfl
    simp [this, Result.andThen]

/-- .. and drops what is of no use any more -/
theorem jrsd {P : Program} {fn : Func} {n : Nat} {F : Fr} {W : World} {X : List Nat} {M0 M : Mem} {L : Lc} (L' : Lc) {post : Value → Mem → Lc → Prop} {rs : List ResultVar} {vs : List Value} (hs : L'.Sublist L) (hr : fn.results = rs.toArray) (h : RVs P F L rs vs) (hp : post (retV vs) M L') : JQ ⟨n, [], none⟩ .ret F ⟨W, X, M0⟩ M L (retPost P fn ⟨W, X, M0⟩ post) := by
  have := jrs (P := P) (n := n) (E := ⟨W, X, M0⟩) (M := M) (post := fun v M' L'' => post v M' L' ∧ L'.Sublist L'') hr h ⟨hp, hs⟩
  intro a w ha hw
  have k := this a w ha hw
  show LeavesInM _ _ _ _ _ _ a.defers _ _
  have k' : LeavesInM _ _ _ _ _ _ a.defers _ _ := k
  rw [show a.defers = [] from ha.defers] at k' ⊢
  obtain ⟨v, hv, v2, M', L'', e, ⟨k1, k2⟩, k3⟩ := k'
  exact ⟨v, hv, v2, M', L', e, k1, k3.fewer k2⟩

/-! ### scopes -/
theorem jc_scope {P : Program} {n : Nat} {D : List Nat} {c : Code} {F : Fr} {E : Ent} {M : Mem} {L : Lc} {Q : Exit → Act → World → Prop} (h : JC P ⟨n, D, none⟩ c F E M L (Exit.noGoto Q)) : JC P ⟨n, D, none⟩ (.scope c) F E M L Q := fun a w ha hw =>
  (wpIn_wide (n := 0)).2 (wp_scope_straight ((wpIn_wide (n := 0)).1 (h a w ha hw)))
theorem jN {N : Fs} {e : Exit} {F : Fr} {E : Ent} {M : Mem} {L : Lc} {Q : Exit → Act → World → Prop} (he : ∀ l, e ≠ .goto l) (h : JQ N e F E M L Q) : JQ N e F E M L (Exit.noGoto Q) := fun a w ha hw => by
  cases e <;> first | exact absurd rfl (he _) | exact h a w ha hw

/-! ### bytes -/
abbrev By := UInt8
def bcells (xs : List By) : List Value := xs.map fun b => .int .u8 (b.toNat : Int)
theorem bcells_len (xs : List By) : (bcells xs).length = xs.length := by simp [bcells]
theorem bcells_one (xs : List By) : ∀ v ∈ bcells xs, v.oneCell' = true := by
  intro v hv; obtain ⟨n, _, rfl⟩ := List.mem_map.1 hv; rfl
/-- a slice of bytes, read-only -/
def BS (M : Mem) (v : Value) (xs : List By) : Prop := ∃ a c, v = .slice a xs.length c ∧ xs.length ≤ c ∧ SM M a (bcells xs)
theorem BS.mono {M M' : Mem} {v : Value} {xs : List By} (h : BS M v xs) (hM : MLe M M') : BS M' v xs := by
  obtain ⟨a, c, h1, h0, h2⟩ := h; exact ⟨a, c, h1, h0, h2.mono hM⟩
theorem BS.nil {M : Mem} : BS M (.slice none 0 0) [] := ⟨none, 0, rfl, Nat.le_refl _, SM.nil⟩
theorem u8_wrap (b : By) : IntKind.u8.wrap (b.toNat : Int) = b.toNat := by rw [IntKind.wrap_u8]; have := b.toNat_lt; omega
end Go.Proofs.YtdjaehgadehnfaaGreatDoor
