/- THE WALKING LAYER: regions in which several operations that take memory are ready at once; appends of what is read; a make appended. No statement of the seat is proved here. -/
import Derived.Test.YtokljhkplbkggaaGreatDoorZHf
import Derived.Scope
import Derived.Laws.BitsLemmas
import Derived.Lib.AppendZeros
namespace Go.Proofs.YtokljhkplbkggaaGreatDoor
set_option linter.unusedSimpArgs false
set_option linter.unusedVariables false
set_option linter.unusedSectionVars false
open Go.RowKit
def RoundL (P : Program) (l : Nat) (args : Array Value) (M : Mem) (L : Lc) (post : Value → Mem → Lc → Prop) : Prop :=
 ∀ w, St ⟨w, L.map (·.1), M⟩ M L w → YieldAt Fence.wide 0 P l args w fun e w' => ∃ v M' L', e = .returned v ∧ post v M' L' ∧ St ⟨w, L.map (·.1), M⟩ M' L' w'
theorem RoundL.mono {P : Program} {l : Nat} {args : Array Value} {M : Mem} {L : Lc} {post post' : Value → Mem → Lc → Prop} (h : RoundL P l args M L post) (hp : ∀ v M' L', post v M' L' → post' v M' L') : RoundL P l args M L post' := fun w hw => by
 obtain ⟨fn, t, a, b, h1, h2⟩ := h w hw
 exact ⟨fn, t, a, b, h1, h2.mono fun _ _ ⟨v, M', L', x, y, z⟩ => ⟨v, M', L', x, hp _ _ _ y, z⟩⟩
section
variable {P : Program} {ops : Array Oper} {N : Fs} {F : Fr} {E : Ent} {M : Mem} {L : Lc} {o : Oper}
end
def Iter (P : Program) (gf : FuncId) (lb : List Value) (M : Mem) {α : Type} (enc : α → List Value) (xs : List α) : Prop :=
 ∀ (l : Nat) (J Jx : List α → Mem → Lc → Prop) (M1 : Mem) (L : Lc), MLe M M1 →
  (∀ pre y M2 L2, MLe M1 M2 → J pre M2 L2 → pre ++ [y] <+: xs → RoundL P l (enc y).toArray M2 L2 fun v M' L' => (v = .bool true ∧ J (pre ++ [y]) M' L') ∨ (v = .bool false ∧ Jx (pre ++ [y]) M' L')) →
  J [] M1 L → SpecL P gf (.func (.yield l) #[] #[] :: lb).toArray M1 L fun _ M' L' => J xs M' L' ∨ ∃ pre, pre <+: xs ∧ Jx pre M' L'
theorem Iter.mono {P : Program} {gf : FuncId} {lb : List Value} {M M' : Mem} {α : Type} {enc : α → List Value} {xs : List α} (h : Iter P gf lb M enc xs) (hM : MLe M M') : Iter P gf lb M' enc xs :=
 fun l J Jx M1 L h1 => h l J Jx M1 L (hM.trans h1)
instance (priority := low) At.left {b : Nat} {o : Obj} {R L : Lc} [h : At b o R] : At b o (R ++ L) := ⟨List.mem_append_left _ h.mem⟩
instance (priority := low) PutAt.left {b : Nat} {o o' : Obj} {R R' L : Lc} [h : PutAt b o o' R R'] : PutAt b o o' (R ++ L) (R' ++ L) := ⟨by
 obtain ⟨A, B, h1, h2⟩ := h.ex; exact ⟨A, B ++ L, by rw [h1]; simp, by rw [h2]; simp⟩⟩
instance (priority := low) Rm.left {g : Nat} {ob : Obj} {R R2 L : Lc} [h : Rm g ob R R2] : Rm g ob (R ++ L) (R2 ++ L) := ⟨List.Perm.append_right L h.perm⟩
theorem wCv {N : Fs} {F : Fr} {W : World} {X : List Nat} {M0 M : Mem} {L L' : Lc} {e : Exit} {Q : Exit → Act → World → Prop} (hs : L'.Sublist L) (h : JQ N e F ⟨W, X, M0⟩ M L' Q) : JQ N e F ⟨W, X, M0⟩ M L Q := fun a w ha hw => h a w ha (hw.fewer hs)
theorem jrn {P : Program} {fn : Func} {N : Fs} {F : Fr} {E : Ent} {M : Mem} {L : Lc} {post : Value → Mem → Lc → Prop} (h : JQ N .ret F E M L (wHd P fn E post)) : JQ N .normal F E M L (wHd P fn E post) := h
section
variable {P : Program} {ops : Array Oper} {N : Fs} {F : Fr} {E : Ent} {M : Mem} {L : Lc} {o : Oper}
theorem qAk {op : BinOp} {xT yT : TypeId} {x y : Operand} {k : IntKind} {a b r : Int} (hg : gd ops F o = some true) (ho : o.op = .binOp op xT x y yT) (hx : ev F x = some (.int k a)) (hy : ev F y = some (.int k b))
  (hr : ar op a b = some r) (h : k.wrap r = r) : QF P ops N F M L o (.int k r) := wDw hg fun ac ha w _ => by
 simp only [execOp, ho, ha.ev hx, ha.ev hy]
 unfold ar at hr
 split at hr <;> first | cases hr | skip
 all_goals simp [eqGuard, binOp, Op.intArith, h]
theorem wAj {x : Operand} {a : Addr} (hg : gd ops F o = some true) (ho : o.op = .nilCheck x) (hx : ev F x = some (.pointer (some a))) : QF P ops N F M L o (.pointer (some a)) := wDw hg fun ac ha w _ => by
 simp [execOp, ho, ha.ev hx]
theorem wBw {t : TypeId} {x y : Operand} {u : Value} {b off : Nat} {l l2 cs : List Value} {e : TypeId} {L' : Lc} {sz by_ : Nat} {z : List Value} (hg : gd ops F o = some true) (ho : o.op = .store t x y) (hx : ev F x = some (.pointer (some ⟨b, off, none⟩))) (hy : ev F y = some u)
  [hl : Lay P t sz by_ z] (hc : u.cells = cs.toArray) (hn : cs.length = sz) (h1 : (cs.all fun v => v.oneCell') = true) [at_ : At b (.cells l.toArray e (0, 0)) L] (hfit : Nat.ble (off + sz) l.length = true) (h2 : l.take off ++ cs ++ l.drop (off + cs.length) = l2 := by first | (simp only [Nat.reduceAdd, Nat.zero_add, Nat.add_zero, List.drop_succ_cons, List.drop_zero, List.drop_nil, List.take_succ_cons, List.take_zero, List.take_nil, List.cons_append, List.nil_append, List.append_nil, List.length_cons, List.length_nil]; try rfl) | rfl)
  [hp : PutAt b (.cells l.toArray e (0, 0)) (.cells l2.toArray e (0, 0)) L L'] :
  HF P ops N F E M L o (fun _ M' L'' => M = M' ∧ L'' = L') := by
 subst h2
 exact hStore hg ho hx hy hc hn (fun v hv => List.all_eq_true.1 h1 v hv) (Nat.le_of_ble_eq_true hfit)
theorem qLdL {x : Operand} {t : TypeId} {d : TypeDesc} {b off sz by_ : Nat} {z l cs : List Value} {e : TypeId} {fz : Nat × Nat} (hg : gd ops F o = some true) (ho : o.op = .load t x) (hx : ev F x = some (.pointer (some ⟨b, off, none⟩))) [hd : Und P t d] [hl : Lay P t sz by_ z] (ha : aggD d = true)
  [at_ : At b (.cells l.toArray e fz) L] (hfit : Nat.ble (off + sz) l.length = true) (hc : (l.drop off).take sz = cs := by first | (simp only [Nat.reduceAdd, Nat.zero_add, Nat.add_zero, List.drop_succ_cons, List.drop_zero, List.drop_nil, List.take_succ_cons, List.take_zero, List.take_nil, List.cons_append, List.nil_append, List.append_nil, List.length_cons, List.length_nil]; try rfl) | rfl) : QF P ops N F M L o (.agg cs.toArray) :=
 wFt hg ho hx ha (by subst hc; have := Nat.le_of_ble_eq_true hfit; rw [List.length_take, List.length_drop]; omega) fun i v hv => by
  subst hc
  rw [List.getElem?_take] at hv
  split at hv
  ·exact CJ.loc (by simpa using hv)
  cases hv
end
inductive RV (P : Program) (F : Fr) (L : Lc) : ResultVar → Value → Prop
 | tmp {t : Nat} {v : Value} (h : lk t F = some v) : RV P F L (.tmp t) v
 | agg {t b sz by_ : Nat} {ty e : TypeId} {l : List Value} {fz : Nat × Nat} {d : TypeDesc} {z : List Value} (ht : lk t F = some (.pointer (some ⟨b, 0, none⟩))) [at_ : At b (.cells l.toArray e fz) L] [hd : Und P ty d] [hl : Lay P ty sz by_ z] (ha : aggD d = true) (hn : l.length = sz) : RV P F L (.cell t ty) (.agg l.toArray)
 | one {t b : Nat} {ty e : TypeId} {l : List Value} {fz : Nat × Nat} {d : TypeDesc} {v : Value} (ht : lk t F = some (.pointer (some ⟨b, 0, none⟩))) [at_ : At b (.cells l.toArray e fz) L] [hd : Und P ty d] (ha : aggD d = false) (hv : l[0]? = some v) : RV P F L (.cell t ty) v
inductive RVs (P : Program) (F : Fr) (L : Lc) : List ResultVar → List Value → Prop
 | nil : RVs P F L [] []
 | cons {r : ResultVar} {v : Value} {rs : List ResultVar} {vs : List Value} (h : RV P F L r v) (k : RVs P F L rs vs) : RVs P F L (r :: rs) (v :: vs)
def retV : List Value → Value
 | [v] => v
 | vs => .tuple vs.toArray
def resOne (tmps : Array Value) : ResultVar → Sem Value
 | .tmp t => pure (tmps.getD t undef)
 | .cell c t => do loadVar t (← asAddr (tmps.getD c undef))
theorem results_eq (fn : Func) (tmps : Array Value) : results fn tmps = (do let vs ← fn.results.mapM (resOne tmps); pure (if h : vs.size = 1 then vs[0] else .tuple vs)) := by
 unfold results
 have : (fun r : ResultVar => match r with | .tmp t => (pure (tmps.getD t undef) : Sem Value) | .cell a t => do loadVar t (← asAddr (tmps.getD a undef))) = resOne tmps := by
  funext r; cases r <;> rfl
 rw [← this]
 rfl
theorem RV.run {P : Program} {F : Fr} {E : Ent} {M : Mem} {L : Lc} {N : Fs} {r : ResultVar} {v : Value} (h : RV P F L r v) {a : Act} {w : World} (hac : Has N F a) (hw : St E M L w) : (resOne a.tmps r).run P w = .ok v w := by
 cases h with
 | tmp h => simp [resOne, Array.getD_eq_getD_getElem?, hac.get _ _ h]
 | @agg t b sz by_ ty e l fz d z ht at_ hd hl ha hn =>
  obtain ⟨ti, v, hi, hi2, _⟩ := hl.info
  have h1 := hac.get t _ ht
  have hadd : ∀ j, (⟨b, 0, none⟩ : Addr).add j = ⟨b, j, none⟩ := fun j => by unfold Addr.add; split <;> simp_all
  have h3 := run_loadCells_list (P := P) (w := w) ⟨b, 0, none⟩ l (fun j v hv => by rw [hadd]; exact (CJ.loc (M := M) (L := L) (e := e) (fz := fz) hv).cell hw.js)
  simp [resOne, Array.getD_eq_getD_getElem?, h1, asAddr, loadVar, wEm hd.h, ha, sizeOf, typeInfo, hi, hi2, ← hn, h3]
 | @one t b ty e l fz d v ht at_ hd ha hv =>
  have h1 := hac.get t _ ht
  have h3 := (CJ.loc (M := M) (L := L) (b := b) (e := e) (fz := fz) hv).cell hw.js
  simp [resOne, Array.getD_eq_getD_getElem?, h1, asAddr, loadVar, wEm hd.h, ha, h3]
theorem RVs.run {P : Program} {F : Fr} {E : Ent} {M : Mem} {L : Lc} {N : Fs} {a : Act} {w : World} (hac : Has N F a) (hw : St E M L w) : ∀ {rs : List ResultVar} {vs : List Value}, RVs P F L rs vs →
  (rs.mapM (resOne a.tmps)).run P w = .ok vs w
 | [], _, .nil => by simp
 | r :: rs, _, .cons h k => by
  have h1 := h.run hac hw
  have h2 := RVs.run hac hw k
  rw [List.mapM_cons, Sem.run_bind, h1, Result.andThen_ok, Sem.run_bind, h2, Result.andThen_ok, Sem.run_pure]
theorem jrs {P : Program} {fn : Func} {n : Nat} {F : Fr} {E : Ent} {M : Mem} {L : Lc} {post : Value → Mem → Lc → Prop} {rs : List ResultVar} {vs : List Value} (hr : fn.results = rs.toArray) (h : RVs P F L rs vs) (hp : post (retV vs) M L) : JQ ⟨n, [], none⟩ .ret F E M L (wHd P fn E post) := by
 intro a w hac hw
 show LeavesInM _ _ _ _ _ _ a.defers _ _
 rw [show a.defers = [] from hac.defers]
 have h1 := h.run hac hw
 refine ⟨_, ?_, _, M, L, rfl, hp, hw⟩
 rw [results_eq, hr, Sem.run_bind, List.mapM_toArray, Sem.run_map, h1]
 unfold retV
 split
 ·simp [Result.andThen]
 rename_i h2
 have : vs.length ≠ 1 := fun e => by
  match vs, e with
  | [v], _ => exact h2 v rfl
 simp [this, Result.andThen]
theorem jrsd {P : Program} {fn : Func} {n : Nat} {F : Fr} {W : World} {X : List Nat} {M0 M : Mem} {L : Lc} (L' : Lc) {post : Value → Mem → Lc → Prop} {rs : List ResultVar} {vs : List Value} (hs : L'.Sublist L) (hr : fn.results = rs.toArray) (h : RVs P F L rs vs) (hp : post (retV vs) M L') : JQ ⟨n, [], none⟩ .ret F ⟨W, X, M0⟩ M L (wHd P fn ⟨W, X, M0⟩ post) := by
 have := jrs (P := P) (n := n) (E := ⟨W, X, M0⟩) (M := M) (post := fun v M' L'' => post v M' L' ∧ L'.Sublist L'') hr h ⟨hp, hs⟩
 intro a w ha hw
 have k := this a w ha hw
 show LeavesInM _ _ _ _ _ _ a.defers _ _
 have k' : LeavesInM _ _ _ _ _ _ a.defers _ _ := k
 rw [show a.defers = [] from ha.defers] at k' ⊢
 obtain ⟨v, hv, v2, M', L'', e, ⟨k1, k2⟩, k3⟩ := k'
 exact ⟨v, hv, v2, M', L', e, k1, k3.fewer k2⟩
abbrev By := UInt8
def wAn (xs : List By) : List Value := xs.map fun b => .int .u8 (b.toNat : Int)
theorem wBd (xs : List By) : (wAn xs).length = xs.length := by simp [wAn]
theorem wKe (xs : List By) : ∀ v ∈ wAn xs, v.oneCell' = true := by
 intro v hv; obtain ⟨n, _, rfl⟩ := List.mem_map.1 hv; rfl
def BS (M : Mem) (v : Value) (xs : List By) : Prop := ∃ a c, v = .slice a xs.length c ∧ xs.length ≤ c ∧ SM M a (wAn xs)
theorem BS.mono {M M' : Mem} {v : Value} {xs : List By} (h : BS M v xs) (hM : MLe M M') : BS M' v xs := by
 obtain ⟨a, c, h1, h0, h2⟩ := h; exact ⟨a, c, h1, h0, h2.mono hM⟩
theorem BS.nil {M : Mem} : BS M (.slice none 0 0) [] := ⟨none, 0, rfl, Nat.le_refl _, SM.nil⟩
section
variable {P : Program} {ops : Array Oper} {N : Fs} {F : Fr} {E : Ent} {M : Mem} {L : Lc} {Q : Exit → Act → World → Prop}
theorem nA {α : Type} (l : List α) : [] ++ l = l := rfl
def adrOf : Option Value → Option (Nat × Nat)
 | some (.pointer (some ⟨b, off, none⟩)) => some (b, off)
 | _ => none
theorem adrOf_is {v : Option Value} {b off : Nat} (h : adrOf v = some (b, off)) : v = some (.pointer (some ⟨b, off, none⟩)) := by
 unfold adrOf at h
 split at h
 ·cases h; rfl
 cases h
def stSt (ops : Array Oper) (F : Fr) (o : Oper) : Option (TypeId × Nat × Nat × Value) := match gd ops F o, o.dst, o.op with
 | some true, none, .store t x y => match adrOf (ev F x), ev F y with
  | some (b, off), some u => some (t, b, off, u)
  | _, _ => none
 | _, _, _ => none
theorem stSt_is {o : Oper} {t : TypeId} {b off : Nat} {u : Value} (h : stSt ops F o = some (t, b, off, u)) : ∃ x y, o.dst = none ∧ gd ops F o = some true ∧ o.op = .store t x y ∧ ev F x = some (.pointer (some ⟨b, off, none⟩)) ∧ ev F y = some u := by
 unfold stSt at h
 split at h
 ·rename_i t' x y h1 h2 h3
  split at h
  ·rename_i h4 h5; cases h; exact ⟨x, y, h2, h1, h3, adrOf_is h4, h5⟩
  cases h
 cases h
theorem sSt {o : Oper} {rest : List Oper} {t : TypeId} {u : Value} {b off : Nat} {l l2 cs : List Value} {e : TypeId} {L' : Lc} {sz by_ : Nat} {z : List Value} (h : stSt ops F o = some (t, b, off, u)) (k : JL P ops N Q rest F E M L')
  [hl : Lay P t sz by_ z] (hc : u.cells = cs.toArray := by rfl) (hn : cs.length = sz := by rfl) (h1 : (cs.all fun v => v.oneCell') = true := by rfl) [at_ : At b (.cells l.toArray e (0, 0)) L] (hfit : Nat.ble (off + sz) l.length = true := by rfl) (h2 : l.take off ++ cs ++ l.drop (off + cs.length) = l2 := by first | (simp only [Nat.reduceAdd, Nat.zero_add, Nat.add_zero, List.drop_succ_cons, List.drop_zero, List.drop_nil, List.take_succ_cons, List.take_zero, List.take_nil, List.cons_append, List.nil_append, List.append_nil, List.length_cons, List.length_nil]; try rfl) | rfl)
  [hp : PutAt b (.cells l.toArray e (0, 0)) (.cells l2.toArray e (0, 0)) L L'] : JL P ops N Q (o :: rest) F E M L := by
 obtain ⟨x, y, hd, hg, ho, hx, hy⟩ := stSt_is h
 exact jl_s hd (wBw hg ho hx hy hc hn h1 hfit h2) fun _ _ _ ⟨h1, h2⟩ => by subst h1; subst h2; exact k
def stFa (N : Fs) (ops : Array Oper) (F : Fr) (o : Oper) : Option (Nat × TypeId × Nat × Nat × Nat) := match gd ops F o, o.dst, o.op with
 | some true, some d, .fieldAddr s x i => match Nat.blt d N.n, adrOf (ev F x) with
  | true, some (b, off) => some (d, s, i, b, off)
  | _, _ => none
 | _, _, _ => none
theorem stFa_is {o : Oper} {d : Nat} {s : TypeId} {i b off : Nat} (h : stFa N ops F o = some (d, s, i, b, off)) : ∃ x, o.dst = some d ∧ Nat.blt d N.n = true ∧ gd ops F o = some true ∧ o.op = .fieldAddr s x i ∧ ev F x = some (.pointer (some ⟨b, off, none⟩)) := by
 unfold stFa at h
 split at h
 ·rename_i d' s' x i' h1 h2 h3
  split at h
  ·rename_i h4 h5; cases h; exact ⟨x, h2, h4, h1, h3, adrOf_is h5⟩
  cases h
 cases h
theorem sFa {o : Oper} {rest : List Oper} {d : Nat} {s : TypeId} {i fo : Nat} {ft : TypeId} {sz by_ : Nat} {z : List Value} {b off off' : Nat} (h : stFa N ops F o = some (d, s, i, b, off)) (k : JL P ops N Q rest ((d, .pointer (some ⟨b, off', none⟩)) :: F) E M L) [hf : Fld P s i fo ft] [hl : Lay P ft sz by_ z]
  (hz : Nat.beq sz 0 = false := by rfl) (ho' : off + fo = off' := by rfl) : JL P ops N Q (o :: rest) F E M L := by
 obtain ⟨x, hd, hN, hg, ho, hx⟩ := stFa_is h
 exact jl_q hd hN (wGj hg ho hx hz ho') k
def stLd (N : Fs) (ops : Array Oper) (F : Fr) (o : Oper) : Option (Nat × TypeId × Nat × Nat) := match gd ops F o, o.dst, o.op with
 | some true, some d, .load t x => match Nat.blt d N.n, adrOf (ev F x) with
  | true, some (b, off) => some (d, t, b, off)
  | _, _ => none
 | _, _, _ => none
theorem stLd_is {o : Oper} {d : Nat} {t : TypeId} {b off : Nat} (h : stLd N ops F o = some (d, t, b, off)) : ∃ x, o.dst = some d ∧ Nat.blt d N.n = true ∧ gd ops F o = some true ∧ o.op = .load t x ∧ ev F x = some (.pointer (some ⟨b, off, none⟩)) := by
 unfold stLd at h
 split at h
 ·rename_i d' t' x h1 h2 h3
  split at h
  ·rename_i h4 h5; cases h; exact ⟨x, h2, h4, h1, h3, adrOf_is h5⟩
  cases h
 cases h
theorem sLd {o : Oper} {rest : List Oper} {d : Nat} {t : TypeId} {td : TypeDesc} {b off : Nat} {v : Value} {l : List Value} {e : TypeId} {fz : Nat × Nat} (h : stLd N ops F o = some (d, t, b, off)) (k : JL P ops N Q rest ((d, v) :: F) E M L) [hu : Und P t td] (ha : aggD td = false := by rfl) [at_ : At b (.cells l.toArray e fz) L] (hc : l[off]? = some v := by rfl) : JL P ops N Q (o :: rest) F E M L := by
 obtain ⟨x, hd, hN, hg, ho, hx⟩ := stLd_is h
 exact jl_q hd hN (qLd hg ho hx ha (CJ.loc hc)) k
theorem sLL {o : Oper} {rest : List Oper} {d : Nat} {t : TypeId} {td : TypeDesc} {b off sz by_ : Nat} {z l cs : List Value} {e : TypeId} {fz : Nat × Nat} (h : stLd N ops F o = some (d, t, b, off)) (k : JL P ops N Q rest ((d, .agg cs.toArray) :: F) E M L) [hu : Und P t td] [hl : Lay P t sz by_ z] (ha : aggD td = true := by rfl)
  [at_ : At b (.cells l.toArray e fz) L] (hfit : Nat.ble (off + sz) l.length = true := by rfl) (hc : (l.drop off).take sz = cs := by first | (simp only [Nat.reduceAdd, Nat.zero_add, Nat.add_zero, List.drop_succ_cons, List.drop_zero, List.drop_nil, List.take_succ_cons, List.take_zero, List.take_nil, List.cons_append, List.nil_append, List.append_nil, List.length_cons, List.length_nil]; try rfl) | rfl) : JL P ops N Q (o :: rest) F E M L := by
 obtain ⟨x, hd, hN, hg, ho, hx⟩ := stLd_is h
 exact jl_q hd hN (qLdL hg ho hx ha hfit hc) k
theorem sFL {o o2 : Oper} {rest : List Oper} {d : Nat} {s : TypeId} {i fo : Nat} {ft : TypeId} {sz by_ : Nat} {z : List Value} {b off : Nat} {d2 : Nat} {t : TypeId} {td : TypeDesc} {b2 off2 : Nat} {v : Value} {l : List Value} {e : TypeId} {fz : Nat × Nat} (h : stFa N ops F o = some (d, s, i, b, off)) [hf : Fld P s i fo ft] (h2 : stLd N ops ((d, .pointer (some ⟨b, off + fo, none⟩)) :: F) o2 = some (d2, t, b2, off2))
  (k : JL P ops N Q rest ((d2, v) :: (d, .pointer (some ⟨b, off + fo, none⟩)) :: F) E M L) [hl : Lay P ft sz by_ z] (hz : Nat.beq sz 0 = false := by rfl) [hu : Und P t td] (ha : aggD td = false := by rfl) [at_ : At b2 (.cells l.toArray e fz) L] (hc : l[off2]? = some v := by rfl) : JL P ops N Q (o :: o2 :: rest) F E M L := sFa h (sLd h2 k ha hc) hz rfl
def stAl (N : Fs) (ops : Array Oper) (F : Fr) (o : Oper) : Option (Nat × TypeId) := match gd ops F o, o.dst, o.op with
 | some true, some d, .alloc t => match Nat.blt d N.n with
  | true => some (d, t)
  | _ => none
 | _, _, _ => none
theorem stAl_is {o : Oper} {d : Nat} {t : TypeId} (h : stAl N ops F o = some (d, t)) : o.dst = some d ∧ Nat.blt d N.n = true ∧ gd ops F o = some true ∧ o.op = .alloc t := by
 unfold stAl at h
 split at h
 ·rename_i d' t' h1 h2 h3
  split at h
  ·rename_i h4; cases h; exact ⟨h2, h4, h1, h3⟩
  cases h
 cases h
theorem sAl {o : Oper} {rest : List Oper} {d : Nat} {t : TypeId} {sz by_ : Nat} {z : List Value} (h : stAl N ops F o = some (d, t)) [hl : Lay P t sz by_ z] (k : ∀ b, JL P ops N Q rest ((d, .pointer (some ⟨b, 0, none⟩)) :: F) E M ((b, .cells z.toArray t (0, 0)) :: L)) : JL P ops N Q (o :: rest) F E M L := by
 obtain ⟨hd, hN, hg, ho⟩ := stAl_is h
 exact wCe hd hN (wGe hg ho) fun v M' L' ⟨b, h1, h2, h3⟩ => by subst h1; subst h2; subst h3; exact k b
def stBx (N : Fs) (ops : Array Oper) (F : Fr) (o : Oper) : Option (Nat × TypeId × Value) := match gd ops F o, o.dst, o.op with
 | some true, some d, .box t x => match Nat.blt d N.n, ev F x with
  | true, some v => some (d, t, v)
  | _, _ => none
 | _, _, _ => none
theorem stBx_is {o : Oper} {d : Nat} {t : TypeId} {v : Value} (h : stBx N ops F o = some (d, t, v)) : ∃ x, o.dst = some d ∧ Nat.blt d N.n = true ∧ gd ops F o = some true ∧ o.op = .box t x ∧ ev F x = some v := by
 unfold stBx at h
 split at h
 ·rename_i d' t' x h1 h2 h3
  split at h
  ·rename_i h4 h5; cases h; exact ⟨x, h2, h4, h1, h3, h5⟩
  cases h
 cases h
theorem sBx (cs : List Value) {o : Oper} {rest : List Oper} {d : Nat} {t : TypeId} {v : Value} (h : stBx N ops F o = some (d, t, v)) (k : ∀ b, JL P ops N Q rest ((d, .pointer (some ⟨b, 0, none⟩)) :: F) E M ((b, .cells cs.toArray t (0, 0)) :: L)) (hc : v.cells = cs.toArray := by rfl) : JL P ops N Q (o :: rest) F E M L := by
 obtain ⟨x, hd, hN, hg, ho, hx⟩ := stBx_is h
 exact wCe hd hN (hBox hg ho hx hc) fun v M' L' ⟨b, h1, h2, h3⟩ => by subst h1; subst h2; subst h3; exact k b
theorem lq {o : Oper} {rest : List Oper} {v : Value} {d : Nat} (hq : QF P ops N F M L o v) (h : JL P ops N Q rest ((d, v) :: F) E M L) (hd : o.dst = some d := by rfl) (hN : Nat.blt d N.n = true := by rfl) : JL P ops N Q (o :: rest) F E M L := jl_q hd hN hq h
theorem wFu {fn : Func} {n : Nat} {W : World} {X : List Nat} {M0 : Mem} (L' : Lc) {post : Value → Mem → Lc → Prop} {rs : List ResultVar} {vs : List Value} (hr : fn.results = rs.toArray) (h : RVs P F L rs vs) (hp : post (retV vs) M L') (hs : L'.Sublist L := by first | (rw [List.append_nil]; exact List.sublist_append_left _ _) | repeat (first | exact List.Sublist.refl _ | exact List.sublist_append_left _ _ | apply List.Sublist.cons)) : JQ ⟨n, [], none⟩ .ret F ⟨W, X, M0⟩ M L (wHd P fn ⟨W, X, M0⟩ post) := jrsd L' hs hr h hp
theorem wEj {fn : Func} {n : Nat} {W : World} {X : List Nat} {M0 : Mem} {post : Value → Mem → Lc → Prop} {rs : List ResultVar} {vs : List Value} (hr : fn.results = rs.toArray) (h : RVs P F L rs vs) (hp : post (retV vs) M []) : JQ ⟨n, [], none⟩ .ret F ⟨W, X, M0⟩ M L (wHd P fn ⟨W, X, M0⟩ post) := jrsd [] (List.nil_sublist _) hr h hp
theorem qCl {o : Oper} {x : Operand} {xs : List Operand} {T : Array TypeId} {f : FuncId} {first captured vs all : List Value} {v : Value} (hs : SpecL P f all.toArray M [] (fun u _ _ => u = v)) (hg : gd ops F o = some true := by rfl)
  (ho : o.op = .call { callee := .value x, args := xs.toArray, argTypes := T } := by rfl) (hx : ev F x = some (.func (.func f) first.toArray captured.toArray) := by rfl) (hv : evs F xs = some vs := by rfl) (hall : first ++ vs ++ captured = all := by rfl) (hgo : isGo P f = true := by kernel_rfl) : QF P ops N F M L o v := qCall hg ho hx hv hall hgo hs
theorem hCl {o : Oper} {x : Operand} {xs : List Operand} {T : Array TypeId} {f : FuncId} {first captured vs all : List Value} {R L2 : Lc} {post : Value → Mem → Lc → Prop} (hs : SpecL P f all.toArray M R post) [hp : Pick R L L2] (hg : gd ops F o = some true := by rfl)
  (ho : o.op = .call { callee := .value x, args := xs.toArray, argTypes := T } := by rfl) (hx : ev F x = some (.func (.func f) first.toArray captured.toArray) := by rfl) (hv : evs F xs = some vs := by rfl) (hall : first ++ vs ++ captured = all := by rfl) (hgo : isGo P f = true := by kernel_rfl) : HF P ops N F E M L o (fun v M' L' => MLe M M' ∧ ∃ R', L' = R' ++ L2 ∧ post v M' R') := wKh hg ho hx hv hall hgo hs
theorem wCw {id : Nat} {l : List Oper} (order : List (Nat × Bool)) (Li : Lc) (hLi : ∀ p ∈ Li, p ∈ L) (h : JD P l.toArray N {} M Li (NoPanic Q) order F E M L M Li) (hm : P.follows .mixedOrders = true := by kernel_rfl) (hs : (Region.noSelect l.toArray && wKr l.toArray) = true := by kernel_rfl)
  (hok : wHs l.toArray order (Array.replicate l.length false) = true := by kernel_rfl) (hlen : order.length = l.length := by rfl) : JC P N (.region id l.toArray true) F E M L Q := jc_draw order Li hm hs hok hlen hLi h
variable {Mi Mw : Mem} {Li Lw : Lc} {p : Ph}
theorem dFa {j : Nat} {rest : List (Nat × Bool)} {o : Oper} {d : Nat} {s : TypeId} {i fo : Nat} {ft : TypeId} {sz by_ : Nat} {z : List Value} {b off off' : Nat} (ho : ops[j]? = some o) (h : stFa N ops F o = some (d, s, i, b, off)) (k : JD P ops N p Mw Lw Q rest ((d, .pointer (some ⟨b, off', none⟩)) :: F) E M L Mi Li) [hf : Fld P s i fo ft] [hl : Lay P ft sz by_ z]
  (hz : Nat.beq sz 0 = false := by rfl) (ho' : off + fo = off' := by rfl) (hA : p.A j = true := by rfl) (hU : p.U j = true := by rfl) : JD P ops N p Mw Lw Q ((j, true) :: rest) F E M L Mi Li := by
 obtain ⟨x, hd, hN, hg, hop, hx⟩ := stFa_is h
 exact jd_q ho hd hN (wGj hg hop hx hz ho') k hA hU
theorem dLd {j : Nat} {rest : List (Nat × Bool)} {o : Oper} {d : Nat} {t : TypeId} {td : TypeDesc} {b off : Nat} {v : Value} {l : List Value} {e : TypeId} {fz : Nat × Nat} (ho : ops[j]? = some o) (h : stLd N ops F o = some (d, t, b, off)) (k : JD P ops N p Mw Lw Q rest ((d, v) :: F) E M L Mi Li) [hu : Und P t td] (ha : aggD td = false := by rfl) [at_ : At b (.cells l.toArray e fz) Li] (hc : l[off]? = some v := by rfl) (hA : p.A j = true := by rfl) (hU : p.U j = true := by rfl) : JD P ops N p Mw Lw Q ((j, true) :: rest) F E M L Mi Li := by
 obtain ⟨x, hd, hN, hg, hop, hx⟩ := stLd_is h
 exact jd_q ho hd hN (qLd hg hop hx ha (CJ.loc hc)) k hA hU
theorem dLL {j : Nat} {rest : List (Nat × Bool)} {o : Oper} {d : Nat} {t : TypeId} {td : TypeDesc} {b off sz by_ : Nat} {z l cs : List Value} {e : TypeId} {fz : Nat × Nat} (ho : ops[j]? = some o) (h : stLd N ops F o = some (d, t, b, off)) (k : JD P ops N p Mw Lw Q rest ((d, .agg cs.toArray) :: F) E M L Mi Li) [hu : Und P t td] [hl : Lay P t sz by_ z] (ha : aggD td = true := by rfl)
  [at_ : At b (.cells l.toArray e fz) Li] (hfit : Nat.ble (off + sz) l.length = true := by rfl) (hc : (l.drop off).take sz = cs := by first | (simp only [Nat.reduceAdd, Nat.zero_add, Nat.add_zero, List.drop_succ_cons, List.drop_zero, List.drop_nil, List.take_succ_cons, List.take_zero, List.take_nil, List.cons_append, List.nil_append, List.append_nil, List.length_cons, List.length_nil]; try rfl) | rfl) (hA : p.A j = true := by rfl) (hU : p.U j = true := by rfl) : JD P ops N p Mw Lw Q ((j, true) :: rest) F E M L Mi Li := by
 obtain ⟨x, hd, hN, hg, hop, hx⟩ := stLd_is h
 exact jd_q ho hd hN (qLdL hg hop hx ha hfit hc) k hA hU
theorem dSt {j : Nat} {rest : List (Nat × Bool)} {o : Oper} {t : TypeId} {u : Value} {b off : Nat} {l l2 cs : List Value} {e : TypeId} {L' : Lc} {sz by_ : Nat} {z : List Value} (ho : ops[j]? = some o) (h : stSt ops F o = some (t, b, off, u)) (k : JD P ops N p Mw Lw Q rest F E M L' Mi Li)
  [hl : Lay P t sz by_ z] (hc : u.cells = cs.toArray := by rfl) (hn : cs.length = sz := by rfl) (h1 : (cs.all fun v => v.oneCell') = true := by rfl) [at_ : At b (.cells l.toArray e (0, 0)) L] (hfit : Nat.ble (off + sz) l.length = true := by rfl) (h2 : l.take off ++ cs ++ l.drop (off + cs.length) = l2 := by first | (simp only [Nat.reduceAdd, Nat.zero_add, Nat.add_zero, List.drop_succ_cons, List.drop_zero, List.drop_nil, List.take_succ_cons, List.take_zero, List.take_nil, List.cons_append, List.nil_append, List.append_nil, List.length_cons, List.length_nil]; try rfl) | rfl)
  [hp : PutAt b (.cells l.toArray e (0, 0)) (.cells l2.toArray e (0, 0)) L L'] (hm : MLe Mi M := by exact MLe.refl _) (hs : ∀ p ∈ Li, p ∈ L' := by simp) (hA : p.A j = true := by rfl) : JD P ops N p Mw Lw Q ((j, false) :: rest) F E M L Mi Li := by
 obtain ⟨x, y, hd, hg, hop, hx, hy⟩ := stSt_is h
 exact jd_s ho hd (wBw hg hop hx hy hc hn h1 hfit h2) (fun _ _ _ ⟨h1, h2⟩ => by subst h1; subst h2; exact ⟨_, _, MLe.refl _, hm, fun _ h => h, hs, k⟩) hA
theorem dq {j : Nat} {rest : List (Nat × Bool)} {o : Oper} {v : Value} {d : Nat} (ho : ops[j]? = some o) (hq : QF P ops N F Mi Li o v) (h : JD P ops N p Mw Lw Q rest ((d, v) :: F) E M L Mi Li) (hd : o.dst = some d := by rfl) (hN : Nat.blt d N.n = true := by rfl) (hA : p.A j = true := by rfl) (hU : p.U j = true := by rfl) : JD P ops N p Mw Lw Q ((j, true) :: rest) F E M L Mi Li := jd_q ho hd hN hq h hA hU
end
section
variable {P : Program} {ops : Array Oper} {N : Fs} {Q : Exit → Act → World → Prop} {F F' : Fr} {E : Ent} {M : Mem} {L : Lc} {Mi : Mem} {Li : Lc} {fuel : Nat} {listed : Array Bool}
theorem AC.pt {A : Nat → Bool} {r : Option Nat} {md : Region.Mode} {J I C : Cls} {g : Bool} {a : Act} : ∀ {fuel : Nat}, (∀ w, C w → ∃ C' : Cls, C' w ∧ AC A r P md ops Q J I fuel g listed a C') → AC A r P md ops Q J I fuel g listed a C
 | 0, h => fun w hw => by obtain ⟨C', h1, h2⟩ := h w hw; exact h2 w h1
 | _ + 1, h => fun w hw => by obtain ⟨C', h1, h2⟩ := h w hw; exact h2 w h1
def JA (P : Program) (ops : Array Oper) (N : Fs) (Q : Exit → Act → World → Prop) (fuel : Nat) (listed : Array Bool) (F : Fr) (E : Ent) (M : Mem) (L : Lc) (Mi : Mem) (Li : Lc) : Prop :=
 MLe Mi M → (∀ p ∈ Li, p ∈ L) → ∀ a, Has N F a → AC (fun _ => true) N.r P .any ops Q (Js Mi Li) (Js Mi Li) fuel true listed a (St E M L)
theorem jc_drawA {id : Nat} {l : List Oper} (Li : Lc) (hm : P.follows .mixedOrders = true) (hLi : ∀ p ∈ Li, p ∈ L) (h : JA P l.toArray N (NoPanic Q) l.length (Array.replicate l.length false) F E M L M Li) : JC P N (.region id l.toArray true) F E M L Q := fun a w ha hw => by
 refine wpIn_mono (Q := NoPanic Q) (wpIn_region_any hm ?_) NoPanic.imp
 have hw' : St E M L { w with drawn := w.drawn + 1 } := { hw with }
 have := AC.any _ _ _ a (St E M L) _ hw' (h (MLe.refl _) hLi a ha)
 simpa using this
theorem ja_q {Q : Exit → Act → World → Prop} {i : Nat} {o : Oper} {v : Value} {d : Nat} (ho : ops[i]? = some o) (hs : (Region.noSelect ops && wKr ops) = true) (hr : ((Region.ready .any ops listed).contains i && Region.free .any ops listed i) = true) (hd : o.dst = some d) (hN : Nat.blt d N.n = true)
  (hq : QF P ops N F Mi Li o v) (h : JA P ops N (NoPanic Q) fuel (listed.setIfInBounds i true) ((d, v) :: F) E M L Mi Li) : JA P ops N (NoPanic Q) (fuel + 1) listed F E M L Mi Li := fun hM hL a ha => by
 rw [Bool.and_eq_true] at hs hr
 refine AC.first true ho (Region.noSelect_spec hs.1) (noDefer_spec hs.2) (fun c a w hh => hh) rfl (fun _ j _ hj => by cases hj) fuel true listed a _ (fun _ => rfl) (.inl fun _ => rfl) (Region.free_spec ho hr.2) (by simpa using hr.1) (hq a ha) (St.closed _ _ _)
  (fun w hw => hw.js.sub hM hL) (fun _ w hw => hw.js.sub hM hL) ?_
 rw [hd]
 exact h hM hL _ (ha.put (by simpa [Nat.blt_eq] using hN) v)
theorem ja_p {Q : Exit → Act → World → Prop} {i : Nat} {o : Oper} {v : Value} {d : Nat} (ho : ops[i]? = some o) (hs : (Region.noSelect ops && wKr ops) = true) (hr : ((Region.ready .any ops listed).contains i && Region.free .any ops listed i) = true) (hp : pstep N ops F o = some (d, v))
  (h : JA P ops N (NoPanic Q) fuel (listed.setIfInBounds i true) ((d, v) :: F) E M L Mi Li) : JA P ops N (NoPanic Q) (fuel + 1) listed F E M L Mi Li :=
 ja_q ho hs hr (wDq hp).1 (wDq hp).2.1 ((wDq hp).2.2 P Mi Li) h
theorem ja_merge {α : Type} (φ : α → Prop) (Ff : α → Fr) (Mf : α → Mem) (Lf : α → Lc) (fuel2 : Nat) (listed2 : Array Bool) (rest : ∀ x, φ x → JA P ops N Q fuel2 listed2 (Ff x) E (Mf x) (Lf x) Mi Li)
  (k : (∀ x, φ x → JA P ops N Q fuel2 listed2 (Ff x) E (Mf x) (Lf x) Mi Li) → JA P ops N Q fuel listed F E M L Mi Li) : JA P ops N Q fuel listed F E M L Mi Li := k rest
def JS (P : Program) (ops : Array Oper) (N : Fs) (Q : Exit → Act → World → Prop) (fuel : Nat) (listed : Array Bool) (F : Fr) (E : Ent) (M : Mem) (L : Lc) (Mi : Mem) (Li : Lc) (i : Nat) : Prop :=
 ∃ o, ops[i]? = some o ∧ (match o.dst with | some d => Nat.blt d N.n | none => true) = true ∧ ∃ K, HF P ops N F E M L o K ∧ ∀ v M' L', K v M' L' → ∃ Mi' Li', MLe Mi Mi' ∧ MLe Mi' M' ∧ (∀ p ∈ Li, p ∈ Li') ∧ (∀ p ∈ Li', p ∈ L') ∧ JA P ops N Q fuel (listed.setIfInBounds i true) (match o.dst with | some d => (d, v) :: F | none => F) E M' L' Mi' Li'
theorem js_h {i : Nat} {o : Oper} {K : Value → Mem → Lc → Prop} {d : Nat} (ho : ops[i]? = some o) (hd : o.dst = some d) (hN : Nat.blt d N.n = true) (hh : HF P ops N F E M L o K)
  (h : ∀ v M' L', K v M' L' → ∃ Mi' Li', MLe Mi Mi' ∧ MLe Mi' M' ∧ (∀ p ∈ Li, p ∈ Li') ∧ (∀ p ∈ Li', p ∈ L') ∧ JA P ops N Q fuel (listed.setIfInBounds i true) ((d, v) :: F) E M' L' Mi' Li') : JS P ops N Q fuel listed F E M L Mi Li i :=
 ⟨o, ho, by rw [hd]; exact hN, K, hh, by rw [hd]; exact h⟩
theorem js_s {i : Nat} {o : Oper} {K : Value → Mem → Lc → Prop} (ho : ops[i]? = some o) (hd : o.dst = none) (hh : HF P ops N F E M L o K)
  (h : ∀ v M' L', K v M' L' → ∃ Mi' Li', MLe Mi Mi' ∧ MLe Mi' M' ∧ (∀ p ∈ Li, p ∈ Li') ∧ (∀ p ∈ Li', p ∈ L') ∧ JA P ops N Q fuel (listed.setIfInBounds i true) F E M' L' Mi' Li') : JS P ops N Q fuel listed F E M L Mi Li i :=
 ⟨o, ho, by rw [hd], K, hh, by rw [hd]; exact h⟩
def JSs (P : Program) (ops : Array Oper) (N : Fs) (Q : Exit → Act → World → Prop) (fuel : Nat) (listed : Array Bool) (F : Fr) (E : Ent) (M : Mem) (L : Lc) (Mi : Mem) (Li : Lc) : List Nat → Prop
 | [] => True
 | i :: rs => JS P ops N Q fuel listed F E M L Mi Li i ∧ JSs P ops N Q fuel listed F E M L Mi Li rs
theorem JSs.get : ∀ {rs : List Nat}, JSs P ops N Q fuel listed F E M L Mi Li rs → ∀ i ∈ rs, JS P ops N Q fuel listed F E M L Mi Li i
 | _ :: _, h, i, hi => by
  rcases List.mem_cons.1 hi with rfl | hi
  ·exact h.1
  exact JSs.get h.2 i hi
theorem wEo (rs : List Nat) (hr : (Region.ready .any ops listed == rs) = true) (hne : rs.isEmpty = false) (h : JSs P ops N Q fuel listed F E M L Mi Li rs) : JA P ops N Q (fuel + 1) listed F E M L Mi Li := fun hM hL a ha w hw => by
 have hr' := eq_of_beq hr
 refine ⟨fun h0 => (by rw [hr'] at h0; rw [h0] at hne; cases hne), fun i hi => ?_⟩
 rw [hr'] at hi
 obtain ⟨o, ho, hN, K, hh, hk⟩ := h.get i hi
 obtain ⟨h1, h2⟩ := hh a w ha hw
 unfold wpOpIn
 simp only [ho, h1, if_true]
 refine Oper.wpIn_mono (fun a' w' hh => ?_) (h2 Q)
 obtain ⟨v, M', L', rfl, hs, hK⟩ := hh
 obtain ⟨Mi', Li', k1, k2, k3, k4, k5⟩ := hk v M' L' hK
 refine ⟨St E M' L', St.closed _ _ _, fun _ hx => (hx.js.sub k2 k4).sub k1 k3, fun _ _ hx => (hx.js.sub k2 k4).sub k1 k3, hs, ?_⟩
 have hup : ∀ w, Js Mi' Li' w → Js Mi Li w := fun _ hx => hx.sub k1 k3
 refine AC.mono hup hup _ _ _ _ _ (k5 k2 k4 _ ?_)
 cases hd : o.dst with
 | none => exact ha
 | some d => rw [hd] at hN; exact ha.put (by simpa [Nat.blt_eq] using hN) v
theorem ja_one {i : Nat} (hr : (Region.ready .any ops listed == [i]) = true) (h : JS P ops N Q fuel listed F E M L Mi Li i) : JA P ops N Q (fuel + 1) listed F E M L Mi Li := wEo [i] hr rfl ⟨h, trivial⟩
theorem ja_end (hr : (Region.ready .any ops listed).isEmpty = true) (h : JQ N .normal F E M L Q) : JA P ops N Q fuel listed F E M L Mi Li := fun _ _ a ha => AC.done (by simpa using hr) (fun w hw => h a w ha hw) fuel
theorem wHy (k : Keep F F') (h : JA P ops N Q fuel listed F' E M L Mi Li) : JA P ops N Q fuel listed F E M L Mi Li := fun hM hL a ha => h hM hL a (ha.keep k)
theorem wJa {listed' : Array Bool} (e : listed = listed') (h : JA P ops N Q fuel listed' F E M L Mi Li) : JA P ops N Q fuel listed F E M L Mi Li := by rw [e]; exact h
theorem wDb {M' : Mem} {L' : Lc} (k1 : MLe Mi M') (k2 : ∀ p ∈ Li, p ∈ L') (h : JA P ops N Q fuel listed F E M' L' Mi Li) :
  ∃ Mi' Li', MLe Mi Mi' ∧ MLe Mi' M' ∧ (∀ p ∈ Li, p ∈ Li') ∧ (∀ p ∈ Li', p ∈ L') ∧ JA P ops N Q fuel listed F E M' L' Mi' Li' :=
 ⟨Mi, Li, MLe.refl _, k1, fun _ h => h, k2, h⟩
theorem wHx {M2 : Mem} {L2 : Lc} (hs : ∀ w, St E M L w → St E M2 L2 w) (h1 : MLe Mi M2) (h4 : ∀ p ∈ Li, p ∈ L2) (h : JA P ops N Q fuel listed F E M2 L2 Mi Li) : JA P ops N Q fuel listed F E M L Mi Li := fun _ _ a ha =>
 AC.pt fun w hw => ⟨_, hs w hw, h h1 h4 a ha⟩
end
instance (priority := low) Pick.pair {p q : Nat × Obj} {R L L1 L2 : Lc} [h : Pick [p] L L1] [h2 : Pick (q :: R) L1 L2] : Pick (p :: q :: R) L L2 := ⟨h.perm.trans (List.Perm.cons p h2.perm)⟩
section
variable {P : Program} {ops : Array Oper} {N : Fs} {F : Fr} {E : Ent} {M : Mem} {L : Lc} {o : Oper}
theorem HF.mono {K K' : Value → Mem → Lc → Prop} (h : HF P ops N F E M L o K) (hk : ∀ w v M' L', K v M' L' → St E M' L' w → ∃ L2, St E M' L2 w ∧ K' v M' L2) : HF P ops N F E M L o K' := fun a w ha hw =>
 ⟨(h a w ha hw).1, fun Q => Oper.wpIn_mono (fun a' w' ⟨v, M', L', e, hs, hK⟩ => by
  obtain ⟨L2, h1, h2⟩ := hk w' v M' L' hK hs
  exact ⟨v, M', L2, e, h1, h2⟩) ((h a w ha hw).2 Q)⟩
theorem wLp {x y : Operand} {t e : TypeId} {v : Value} {R L2 : Lc} {size bytes n m c : Nat} {z xs news : List Value} {ya : Option Addr} (hg : gd ops F o = some true)
  (ho : o.op = .call { callee := .builtin .append, args := #[x, y], argTypes := #[t, t] }) (hx : ev F x = some v) (hy : ev F y = some (.slice ya m c)) [ht : Und P t (.slice e)] [hl : Lay P e size bytes z]
  (hown : Own v R e size n xs) [hp : Pick R L L2] (hl1 : news.length = m * size) (hnews : SM M ya news) (hz0 : Nat.blt 0 size = true) (h1 : ∀ u ∈ news, u.oneCell' = true) (hbig : n + m ≤ 1000000000) (hby : bytes ≤ 100000) :
  HF P ops N F E M L o (fun v' M' L' => M = M' ∧ ∃ R', L' = R' ++ L2 ∧ Own v' R' e size (n + m) (xs ++ news)) := by
 have hsz : 0 < size := by simpa [Nat.blt_eq] using hz0
 rcases Nat.eq_zero_or_pos m with rfl | hm
 ·have : news = [] := List.eq_nil_of_length_eq_zero (by simpa using hl1)
  subst this
  refine (hAppend0 hg ho hx hy hown).mono fun w v' M' L' ⟨e1, e2, e3⟩ hs => ?_
  subst e1; subst e2; subst e3
  exact ⟨R ++ L2, hs.perm hp.perm, rfl, R, rfl, by simpa using hown⟩
 have hne : news ≠ [] := fun e => by
  rw [e, List.length_nil] at hl1
  have := Nat.mul_pos hm hsz
  omega
 obtain ⟨b, off, rfl, hb⟩ := hnews.open hne
 refine (wDt hg ho hx hy hown hl1 (fun i u hu => (hb i u hu).cj L) rfl hz0 h1 hbig hby).mono fun w v' M' L' ⟨e1, R', e2, e3, _⟩ hs => ?_
 exact ⟨L', hs, e1, R', e2, e3⟩
end
end Go.Proofs.YtokljhkplbkggaaGreatDoor
