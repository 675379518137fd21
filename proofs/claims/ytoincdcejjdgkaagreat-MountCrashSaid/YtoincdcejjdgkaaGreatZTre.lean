/- Walks: the references of a tree counted. -/
import Derived.Test.YtoincdcejjdgkaaGreatZHm
import Derived.Test.YtoincdcejjdgkaaGreatZVol
namespace Go.Proofs.YtoincdcejjdgkaaGreat
set_option linter.unusedSimpArgs false
set_option linter.unusedVariables false
open Go.RowKit
def wFp : Nat → List (Int × Value) → List MapEntry
 | _, [] => []
 | j, p :: l => { key := .int .i64 p.1, val := p.2, born := j } :: wFp (j + 1) l
def wDk (l : List (Int × Value)) : Obj := .map (wFp 0 l).toArray l.length
def fndV (k : Int) : List (Int × Value) → Nat → Option (Nat × Value)
 | [], _ => none
 | p :: l, i => if k = p.1 then some (i, p.2) else fndV k l (i + 1)
def wHr (k : Int) : List (Int × Value) → Option Value
 | [] => none
 | p :: l => if k = p.1 then some p.2 else wHr k l
def putV (k : Int) (v : Value) : List (Int × Value) → List (Int × Value)
 | [] => [(k, v)]
 | p :: l => if k = p.1 then (k, v) :: l else p :: putV k v l
theorem wHt {q : IntKind} (k : Int) : ∀ (l : List (Int × Value)) (j i : Nat), Instr.findNow (.int q) (.int .i64 k) (wFp j l) i = some (fndV k l i)
 | [], _, _ => rfl
 | p :: l, j, i => by
  rw [wFp, Instr.findNow, fndV]
  by_cases h : k = p.1
  ·simp [Instr.sameNow, h]
  ·have h2 : (k == p.1) = false := by simpa using h
   simp only [Instr.sameNow, if_true, h2, if_neg h]
   exact wHt k l (j + 1) (i + 1)
theorem fndV_get (k : Int) : ∀ (l : List (Int × Value)) (i : Nat), (fndV k l i = none ∧ wHr k l = none) ∨ ∃ j v, fndV k l i = some (i + j, v) ∧ wHr k l = some v ∧ j < l.length
 | [], _ => .inl ⟨rfl, rfl⟩
 | p :: l, i => by
  rw [fndV, wHr]
  by_cases h : k = p.1
  ·rw [if_pos h, if_pos h]; exact .inr ⟨0, p.2, rfl, rfl, by simp⟩
  ·rw [if_neg h, if_neg h]
   rcases fndV_get k l (i + 1) with h1 | ⟨j, v, h1, h2, h3⟩
   ·exact .inl h1
   ·exact .inr ⟨j + 1, v, by rw [h1]; congr 2; omega, h2, by simp; omega⟩
theorem putV_new (k : Int) (v : Value) : ∀ (l : List (Int × Value)) (i j : Nat), fndV k l i = none → wFp j (putV k v l) = wFp j l ++ [{ key := .int .i64 k, val := v, born := j + l.length }] ∧ (putV k v l).length = l.length + 1
 | [], _, j, _ => ⟨by simp [putV, wFp], rfl⟩
 | p :: l, i, j, h => by
  rw [fndV] at h
  split at h
  ·cases h
  rename_i hk
  obtain ⟨h1, h2⟩ := putV_new k v l (i + 1) (j + 1) h
  rw [putV, if_neg hk]
  refine ⟨?_, by simp [h2]⟩
  rw [wFp, h1, wFp]; simp [Nat.add_comm, Nat.add_left_comm]
theorem putV_old (k : Int) (v : Value) : ∀ (l : List (Int × Value)) (i j n : Nat) (u : Value), fndV k l i = some (n, u) → i ≤ n ∧ wFp j (putV k v l) = (wFp j l).modify (n - i) (fun e => { e with key := .int .i64 k, val := v }) ∧ (putV k v l).length = l.length ∧ ∃ e, (wFp j l)[n - i]? = some e ∧ e.key = .int .i64 k
 | [], _, _, _, _, h => by cases h
 | p :: l, i, j, n, u, h => by
  rw [fndV] at h
  rw [putV]
  split at h
  ·rename_i hk
   cases h
   rw [if_pos hk]
   exact ⟨Nat.le_refl _, by simp [wFp], rfl, _, by simp [wFp]; rfl, by simp [hk]⟩
  ·rename_i hk
   rw [if_neg hk]
   obtain ⟨h1, h2, h3, e, h4, h5⟩ := putV_old k v l (i + 1) (j + 1) n u h
   have hn : n - i = (n - (i + 1)) + 1 := by omega
   refine ⟨by omega, ?_, by simp [h3], e, ?_, h5⟩
   ·rw [wFp, h2, wFp, hn]; rfl
   ·rw [wFp, hn]; simpa using h4
theorem wKh (k : Int) (v : Value) : ∀ (l : List (Int × Value)) (x : Int), wHr x (putV k v l) = if x = k then some v else wHr x l
 | [], x => by simp [putV, wHr]
 | p :: l, x => by
  rw [putV]
  by_cases h : k = p.1
  ·rw [if_pos h, wHr, wHr]
   by_cases hx : x = k
   ·simp [hx]
   ·simp [hx, ← h]
  ·rw [if_neg h, wHr, wHr, wKh k v l x]
   by_cases hx : x = p.1
   ·rw [if_pos hx, if_pos hx, if_neg (fun e => h (by rw [← e, hx]))]
   ·rw [if_neg hx, if_neg hx]
section
variable {P : Program} {ops : Array Oper} {N : Fs} {F : Fr} {E : Ent} {M : Mem} {L : Lc} {o : Oper}
theorem hMakeMapV {t : TypeId} (hg : gd ops F o = some true) (ho : o.op = .makeMap t none) :
  HF P ops N F E M L o (fun v M' L' => ∃ b, v = .map (some b) ∧ M = M' ∧ L' = (b, wDk []) :: L) := wJq hg fun a w ha hw =>
 ⟨_, _, M, _, .inl (by simp [execOp, ho, Instr.makeMap, newObj]; rfl), hw.alloc (wDk []), _, rfl, rfl, rfl⟩
theorem run_lookupV {t kt et : TypeId} (ht : P.underlying t = some (.map kt et)) (hk : P.underlying kt = some (.int .i64)) {w : World} {z : Value} (hz : (zeroValue et).run P w = .ok z w) {b : Nat} {l : List (Int × Value)} (hb : w.heap[b]? = some (wDk l)) (k : Int) (c : Bool) :
  (Instr.lookup t (.map (some b)) (.int .i64 k) c).run P w = .ok (if c then .tuple #[(wHr k l).getD z, .bool (wHr k l).isSome] else (wHr k l).getD z) w := by
 have hik : MapKept.IsKey (.int .i64) (.int .i64 k) := by simp [MapKept.IsKey]
 have hf : Instr.findNow (.int .i64) (.int .i64 k) (wFp 0 l).toArray.toList 0 = some (fndV k l 0) := wHt k l 0 0
 have h1 := MapKept.run_getObj_map (P := P) (w := w) (r := b) (es := (wFp 0 l).toArray) (clock := l.length) hb
 rcases fndV_get k l 0 with ⟨h2, h3⟩ | ⟨j, v, h2, h3, _⟩
 ·rw [h2] at hf
  simp [Instr.lookup, run_underlying ht, h1, MapKept.run_checkKey hk hik, MapKept.run_findKey hk hf, Result.andThen, hz, h3]
 ·rw [h2] at hf
  simp [Instr.lookup, run_underlying ht, h1, MapKept.run_checkKey hk hik, MapKept.run_findKey hk hf, Result.andThen, h3]
theorem zero_run {et : TypeId} {z : Value} (he : (P.info? et).bind (·.zero) = some z) (w : World) : (zeroValue et).run P w = .ok z w := by
 cases hi : P.info? et with
 | none => rw [hi] at he; cases he
 | some ti =>
  rw [hi] at he
  have hz : ti.zero = some z := he
  simp [zeroValue, typeInfo, hi, hz]
theorem qLookupV {t kt et : TypeId} {x y : Operand} {b : Nat} {k : Int} {l : List (Int × Value)} {z : Value} (hg : gd ops F o = some true) (ho : o.op = .lookup t x y false) (hx : ev F x = some (.map (some b))) (hy : ev F y = some (.int .i64 k))
  [ht : Und P t (.map kt et)] [hk : Und P kt (.int .i64)] [at_ : At b (wDk l) L] (he : (P.info? et).bind (·.zero) = some z) : QF P ops N F M L o ((wHr k l).getD z) := wDr hg fun a ha w hw => by
 have := run_lookupV (P := P) ht.h hk.h (zero_run he w) (hw.locs _ at_.mem) k false
 simp only [Bool.false_eq_true, if_false] at this
 simp [execOp, ho, ha.ev hx, ha.ev hy, this]
theorem qLookupOk {t kt et : TypeId} {x y : Operand} {b : Nat} {k : Int} {l : List (Int × Value)} {z : Value} (hg : gd ops F o = some true) (ho : o.op = .lookup t x y true) (hx : ev F x = some (.map (some b))) (hy : ev F y = some (.int .i64 k))
  [ht : Und P t (.map kt et)] [hk : Und P kt (.int .i64)] [at_ : At b (wDk l) L] (he : (P.info? et).bind (·.zero) = some z) : QF P ops N F M L o (.tuple #[(wHr k l).getD z, .bool (wHr k l).isSome]) := wDr hg fun a ha w hw => by
 have := run_lookupV (P := P) ht.h hk.h (zero_run he w) (hw.locs _ at_.mem) k true
 simp only [if_true] at this
 simp [execOp, ho, ha.ev hx, ha.ev hy, this]
theorem run_mapPutV {t kt et : TypeId} (ht : P.underlying t = some (.map kt et)) (hk : P.underlying kt = some (.int .i64)) {w : World} {b : Nat} {l : List (Int × Value)} (hb : w.heap[b]? = some (wDk l)) (k : Int) (v : Value) :
  (Instr.mapUpdate t (.map (some b)) (.int .i64 k) v).run P w = .ok () { w with heap := w.heap.setIfInBounds b (wDk (putV k v l)) } := by
 have hik : MapKept.IsKey (.int .i64) (.int .i64 k) := by simp [MapKept.IsKey]
 have hf : Instr.findNow (.int .i64) (.int .i64 k) (wFp 0 l).toArray.toList 0 = some (fndV k l 0) := wHt k l 0 0
 have h1 := MapKept.run_getObj_map (P := P) (w := w) (r := b) (es := (wFp 0 l).toArray) (clock := l.length) hb
 cases h2 : fndV k l 0 with
 | none =>
  rw [h2] at hf
  obtain ⟨e1, e2⟩ := putV_new k v l 0 0 h2
  have e3 : wDk (putV k v l) = .map ((wFp 0 l).toArray.push { key := .int .i64 k, val := v, born := l.length }) (l.length + 1) := by
   unfold wDk; rw [e1, e2]; simp
  simp [Instr.mapUpdate, run_underlying ht, h1, MapKept.run_checkKey hk hik, MapKept.run_findKey hk hf, Result.andThen, MapKept.run_setObj_map _ (show w.heap[b]? = some (.map (wFp 0 l).toArray l.length) from hb), e3]
 | some r =>
  obtain ⟨n, u⟩ := r
  rw [h2] at hf
  obtain ⟨_, e1, e2, e, e4, e5⟩ := putV_old k v l 0 0 n u h2
  have e3 : wDk (putV k v l) = .map ((wFp 0 l).toArray.modify n (fun e => { e with key := .int .i64 k, val := v })) l.length := by
   unfold wDk; rw [e1, e2]; simp
  have e6 : (wFp 0 l)[n]? = some e := by simpa using e4
  simp [Instr.mapUpdate, run_underlying ht, h1, MapKept.run_checkKey hk hik, MapKept.run_findKey hk hf, Result.andThen, e6, e5, MapKept.run_keyThatStays hik, MapKept.run_setObj_map _ (show w.heap[b]? = some (.map (wFp 0 l).toArray l.length) from hb), e3]
theorem hMapPutV {t kt et : TypeId} {x y z : Operand} {b : Nat} {k : Int} {v : Value} {l : List (Int × Value)} {L' : Lc} (hg : gd ops F o = some true) (ho : o.op = .mapUpdate t x y z ∨ o.op = .insert t x y z) (hx : ev F x = some (.map (some b))) (hy : ev F y = some (.int .i64 k)) (hz : ev F z = some v)
  [ht : Und P t (.map kt et)] [hk : Und P kt (.int .i64)] [at_ : At b (wDk l) L] [hp : PutAt b (wDk l) (wDk (putV k v l)) L L'] : HF P ops N F E M L o (fun _ M' L'' => M = M' ∧ L'' = L') := wJq hg fun a w ha hw => by
 have hb : w.heap[b]? = some (wDk l) := (hw.locs (b, wDk l) at_.mem).1
 obtain ⟨A, B, rfl, rfl⟩ := hp.ex
 have hr := run_mapPutV (P := P) ht.h hk.h hb k v
 refine ⟨undef, { w with heap := w.heap.setIfInBounds b (wDk (putV k v l)) }, M, _, .inr ⟨rfl, ?_⟩, hw.setObj rfl rfl rfl (by simp) (MapKept.heap_set hb).1 (fun k hk => (MapKept.heap_set hb).2 k hk), rfl, rfl⟩
 rcases ho with ho | ho <;> simp [execOp, ho, ha.ev hx, ha.ev hy, ha.ev hz, hr]
end
abbrev TCn : TypeId := 96
abbrev TSp : TypeId := 134
abbrev TNd : TypeId := 132
abbrev snc (lv : Int) (sl : Value) (p : Sp) : List Value := [.int .i64 lv, sl, .int .u8 p.first.kind, .int .u32 p.first.id, .int .u32 p.first.off, .int .u8 p.last.kind, .int .u32 p.last.id, .int .u32 p.last.off, .bool p.is]
abbrev spnZ : List Value := [.int .i64 0, .slice none 0 0, .int .u8 0, .int .u32 0, .int .u32 0, .int .u8 0, .int .u32 0, .int .u32 0, .bool false]
def spOf (o : Option Sp) : Sp := o.getD ⟨⟨0, 0, 0⟩, ⟨0, 0, 0⟩, true⟩
def wGb (s : Sto) (lv : Int) (xs : List It) : Sp := if xs = [] then spOf none else wEp (wCj s lv.toNat) none xs
def lrn (s : Sto) (k level : Int) : Option (Int × List It) := if k < 8 ∨ 256 ≤ k then none else match wCa s k.toNat with
 | none => none
 | some (lv, xs) => if 0 ≤ level ∧ (lv ≠ level ∨ xs = []) then none else some (lv, xs)
theorem lrn_out {s : Sto} {k level : Int} (h : k < 8 ∨ 256 ≤ k) : lrn s k level = none := by unfold lrn; rw [if_pos h]
theorem lrn_none {s : Sto} {k level : Int} (h : wCa s k.toNat = none) : lrn s k level = none := by unfold lrn; rw [h]; split <;> rfl
theorem lrn_bad {s : Sto} {k level lv : Int} {xs : List It} (h : wCa s k.toNat = some (lv, xs)) (h2 : 0 ≤ level ∧ (lv ≠ level ∨ xs = [])) : lrn s k level = none := by
 unfold lrn; rw [h]; simp only []; rw [if_pos h2]; split <;> rfl
theorem wLo {s : Sto} {k level lv : Int} {xs : List It} (hk : 8 ≤ k ∧ k < 256) (h : wCa s k.toNat = some (lv, xs)) (h2 : ¬ (0 ≤ level ∧ (lv ≠ level ∨ xs = []))) : lrn s k level = some (lv, xs) := by
 unfold lrn; rw [if_neg (by omega), h]; simp only []; rw [if_neg h2]
theorem lrn_is {s : Sto} {k level lv : Int} {xs : List It} (h : lrn s k level = some (lv, xs)) : 8 ≤ k ∧ k < 256 ∧ wCa s k.toNat = some (lv, xs) ∧ (0 ≤ level → lv = level ∧ xs ≠ []) := by
 unfold lrn at h
 split at h
 ·cases h
 ·rename_i h1
  split at h
  ·cases h
  ·rename_i lv' xs' h2
   split at h
   ·cases h
   ·rename_i h3
    cases h
    refine ⟨by omega, by omega, h2, fun h => ⟨Classical.byContradiction fun e => h3 ⟨h, .inl e⟩, fun e => h3 ⟨h, .inr e⟩⟩⟩
theorem one_lrn {s : Sto} {l : Nat} {x : It} (hr : 8 ≤ x.ref ∧ x.ref < 256) : wCj s (l + 1) x = match lrn s x.ref (l : Int) with | none => wGr | some (lv, ys) => wGb s lv ys := by
 cases hn : wCa s x.ref.toNat with
 | none => rw [lrn_none hn]; simp only [wCj, hn]
 | some q =>
  obtain ⟨lv, ys⟩ := q
  by_cases hc : lv = (l : Int) ∧ ys ≠ []
  ·rw [wLo hr hn (fun h => h.2.elim (fun h => h hc.1) (fun h => hc.2 h))]
   simp only [wCj, hn]
   rw [if_pos hc]; unfold wGb; rw [if_neg hc.2, hc.1]; rfl
  ·rw [lrn_bad hn ⟨by omega, by
    by_cases h : lv = (l : Int)
    ·exact .inr (Classical.byContradiction fun h2 => hc ⟨h, h2⟩)
    ·exact .inl h⟩]
   simp only [wCj, hn]; rw [if_neg hc]
theorem wLj {s : Sto} {lv : Int} {xs : List It} {o : Option Sp} {k : Nat} {n : Nat} (hn : lv.toNat = n) (hk : k < xs.length) (hI : wEp (wCj s n) none xs = wEp (wCj s n) o (xs.drop k)) (h : wBh (wCj s n xs[k]) o xs[k] = false) : wGb s lv xs = wGr := by
 unfold wGb; rw [if_neg (fun e => by rw [e] at hk; cases hk), hn]; exact wFt hk hI h
theorem rd_end {s : Sto} {lv : Int} {xs : List It} {o : Option Sp} {k n : Nat} (hn : lv.toNat = n) (hk : k = xs.length) (ho : o = none ↔ k = 0) (hI : wEp (wCj s n) none xs = wEp (wCj s n) o (xs.drop k)) : wGb s lv xs = spOf o := by
 unfold wGb
 by_cases hx : xs = []
 ·rw [if_pos hx, ho.2 (by rw [hk, hx]; rfl)]
 ·rw [if_neg hx, hn, go_end hk hI]
  cases o with
  | none => exact absurd (List.eq_nil_of_length_eq_zero (by rw [← hk]; exact ho.1 rfl)) hx
  | some p => rfl
structure MapI (M : Mem) (s : Sto) (l : List (Int × Value)) : Prop where
 ent : ∀ k v, wHr k l = some v → 8 ≤ k ∧ k < 256 ∧ ∃ lv xs sl, wCa s k.toNat = some (lv, xs) ∧ NS M sl xs ∧ v = .agg (snc lv sl (wGb s lv xs)).toArray
 kid : ∀ k lv xs, (wHr k l).isSome = true → wCa s k.toNat = some (lv, xs) → (wGb s lv xs).is = true → 0 < lv → ∀ x ∈ xs, (wHr x.ref l).isSome = true
theorem MapI.mono {M M' : Mem} {s : Sto} {l : List (Int × Value)} (h : MapI M s l) (hM : MLe M M') : MapI M' s l :=
 ⟨fun k v hv => by obtain ⟨h1, h2, lv, xs, sl, h3, h4, h5⟩ := h.ent k v hv; exact ⟨h1, h2, lv, xs, sl, h3, h4.mono hM, h5⟩, h.kid⟩
theorem MapI.nil {M : Mem} {s : Sto} : MapI M s [] := ⟨fun k v h => (by cases h), fun k lv xs h => (by cases h)⟩
def Ext (l l' : List (Int × Value)) : Prop := ∀ k, (wHr k l).isSome = true → (wHr k l').isSome = true
theorem Ext.refl (l : List (Int × Value)) : Ext l l := fun _ h => h
theorem Ext.trans {l l' l'' : List (Int × Value)} (h : Ext l l') (h2 : Ext l' l'') : Ext l l'' := fun k hk => h2 k (h k hk)
theorem ext_put {k : Int} {v : Value} {l : List (Int × Value)} : Ext l (putV k v l) := fun x hx => by
 rw [wKh]
 split
 ·rfl
 ·exact hx
theorem MapI.put {M : Mem} {s : Sto} {l : List (Int × Value)} {k lv : Int} {xs : List It} {sl : Value} (h : MapI M s l) (hk : 8 ≤ k ∧ k < 256) (hnd : wCa s k.toNat = some (lv, xs)) (hs : NS M sl xs) (hc : (wGb s lv xs).is = true → 0 < lv → ∀ x ∈ xs, (wHr x.ref l).isSome = true) :
  MapI M s (putV k (.agg (snc lv sl (wGb s lv xs)).toArray) l) := by
 refine ⟨fun j v hv => ?_, fun j lv2 xs2 hj hn2 hi hl x hx => ?_⟩
 ·rw [wKh] at hv
  split at hv
  ·rename_i e; subst e; cases hv; exact ⟨hk.1, hk.2, lv, xs, sl, hnd, hs, rfl⟩
  ·exact h.ent j v hv
 ·refine ext_put _ ?_
  rw [wKh] at hj
  split at hj
  ·rename_i e; subst e
   rw [hnd] at hn2; cases hn2
   exact hc hi hl x hx
  ·exact h.kid j lv2 xs2 hj hn2 hi hl x hx
structure CN (M : Mem) (s : Sto) (nv pb : Value) : Prop where
 now : BS M nv s.now
 bn : BN M pb s
theorem CN.mono {M M' : Mem} {s : Sto} {nv pb : Value} (h : CN M s nv pb) (hM : MLe M M') : CN M' s nv pb := ⟨h.now.mono hM, h.bn.mono hM⟩
abbrev wHy (bv wv nv lw pb : Value) (m : Nat) (rest : List Value) : List Value := bv :: wv :: nv :: lw :: pb :: .map (some m) :: rest
def LrP (s : Sto) (k level : Int) (u : Value) (M' : Mem) (l' : List (Int × Value)) : Prop := match lrn s k level with
 | none => u = .agg spnZ.toArray
 | some (lv, xs) => ∃ sl, NS M' sl xs ∧ u = .agg (snc lv sl (wGb s lv xs)).toArray ∧ (wHr k l').isSome = true
theorem LrP.form {s : Sto} {k level : Int} {u : Value} {M' : Mem} {l' : List (Int × Value)} (h : LrP s k level u M' l') : ∃ lv a n c p, u = .agg (snc lv (.slice a n c) p).toArray ∧
  ((lrn s k level = none ∧ p = wGr) ∨ ∃ xs, lrn s k level = some (lv, xs) ∧ n = xs.length ∧ NS M' (.slice a n c) xs ∧ p = wGb s lv xs ∧ (wHr k l').isSome = true) := by
 unfold LrP at h
 split at h
 ·rename_i hl; exact ⟨0, none, 0, 0, wGr, h, .inl ⟨hl, rfl⟩⟩
 ·rename_i lv xs hl
  obtain ⟨sl, hs, rfl, hk⟩ := h
  obtain ⟨a, c, ps, rfl, _⟩ := id hs
  exact ⟨lv, a, _, c, _, rfl, .inr ⟨xs, hl, rfl, hs, rfl, hk⟩⟩
def CenRead (s : Sto) (cb m : Nat) (bv wv nv lw pb : Value) (rest : List Value) (lv : Int) : Prop := ∀ (xs : List It) (sl : Value) (M : Mem) (l : List (Int × Value)), CN M s nv pb → MapI M s l → NS M sl xs → NdOk lv xs →
 SpecL Tryz.prog 100 #[.pointer (some ⟨cb, 0, none⟩), .agg #[.int .i64 lv, sl]] M [(cb, .cells (wHy bv wv nv lw pb m rest).toArray TCn (0, 0)), (m, wDk l)]
  fun u M' L' => ∃ l', L' = [(cb, .cells (wHy bv wv nv lw pb m rest).toArray TCn (0, 0)), (m, wDk l')] ∧ MapI M' s l' ∧ Ext l l' ∧ u = .agg (snc lv sl (wGb s lv xs)).toArray ∧ ((wGb s lv xs).is = true → 0 < lv → ∀ x ∈ xs, (wHr x.ref l').isSome = true)
def CenLearn (s : Sto) (cb m : Nat) (bv wv nv lw pb : Value) (rest : List Value) (level : Int) : Prop := ∀ (k : Int) (M : Mem) (l : List (Int × Value)), CN M s nv pb → MapI M s l →
 SpecL Tryz.prog 72 #[.pointer (some ⟨cb, 0, none⟩), .int .i64 k, .int .i64 level] M [(cb, .cells (wHy bv wv nv lw pb m rest).toArray TCn (0, 0)), (m, wDk l)]
  fun u M' L' => ∃ l', L' = [(cb, .cells (wHy bv wv nv lw pb m rest).toArray TCn (0, 0)), (m, wDk l')] ∧ MapI M' s l' ∧ Ext l l' ∧ LrP s k level u M' l'
set_option maxHeartbeats 4000000 in
theorem read_leaf (s : Sto) (hst : wCp s) (cb m : Nat) (bv wv nv lw pb : Value) (rest : List Value) (xs : List It) (a : Option Addr) (c : Nat) (ps : List (It × Value)) (M : Mem) (l : List (Int × Value)) (hcn : CN M s nv pb) (hmi : MapI M s l) (hc : xs.length ≤ c) (hs : SM M a (ps.flatMap wBc)) (hp : ps.map (·.1) = xs) (hb : ∀ p ∈ ps, BS M p.2 p.1.val) (hno : NdOk 0 xs) :
  SpecL Tryz.prog 100 #[.pointer (some ⟨cb, 0, none⟩), .agg #[.int .i64 0, .slice a xs.length c]] M [(cb, .cells (wHy bv wv nv lw pb m rest).toArray TCn (0, 0)), (m, wDk l)] fun u M' L' => ∃ l', L' = [(cb, .cells (wHy bv wv nv lw pb m rest).toArray TCn (0, 0)), (m, wDk l')] ∧ MapI M' s l' ∧ Ext l l' ∧ u = .agg (snc 0 (.slice a xs.length c) (wGb s 0 xs)).toArray ∧ ((wGb s 0 xs).is = true → 0 < (0 : Int) → ∀ x ∈ xs, (wHr x.ref l').isSome = true) := by
 have hlv := hno.lev
 have hlen := hno.len
 obtain ⟨na, nc, rfl, hnc, hns⟩ := id hcn.now
 have hn256 : s.now.length = 256 := hst.2.1.1
 obtain ⟨nb, no, e0, hnx⟩ := hns.open (by intro e; have := congrArg List.length e; rw [wAu, List.length_nil] at this; omega)
 subst e0
 refine wAf (vs := [_, _]) 83 _ Tryz.func100 rfl Tryz.ntmps100 rfl rfl ?_; intro W
 refine wAb (wAa (wAw rfl rfl (wCb (cs := [_, _]) rfl rfl rfl rfl) ?_)); rintro _ _ _ ⟨b3, rfl, rfl, rfl⟩
 refine sAl rfl fun b4 => ?_
 refine wAc (jT (wAb (wAa (sLL rfl ?_))))
 refine wAi rfl rfl (wAq (cs := [_, _, _, _, _, _, _, _, _]) rfl rfl rfl (by rfl)) ?_
 refine sAl rfl fun b5 => ?_
 refine sSt rfl ?_
 refine wAc (jT (wAb (wAb (wAa (sFL rfl rfl ?_)))))
 refine wAi rfl rfl (wBq rfl rfl rfl) ?_
 refine jp rfl (wAc (jT (wAh ?_)))
 refine wAr (α := Nat × Mem × Option Sp × List (Int × Value)) (fun x => [(0, .pointer (some ⟨cb, 0, none⟩)), (3, .pointer (some ⟨b3, 0, none⟩)), (4, .pointer (some ⟨b4, 0, none⟩)), (5, .pointer (some ⟨b5, 0, none⟩)), (12, .slice a xs.length c), (13, .int .i64 xs.length), (14, .int .i64 x.1)]) (fun x => x.2.1) (fun x => [(b5, .cells (snc 0 (.slice a xs.length c) (spOf x.2.2.1)).toArray TSp (0, 0)), (b4, .cells spnZ.toArray TSp (0, 0)), (b3, .cells [.int .i64 0, .slice a xs.length c].toArray TNd (0, 0)), (cb, .cells (wHy bv wv (.slice (some ⟨nb, no, none⟩) s.now.length nc) lw pb m rest).toArray TCn (0, 0)), (m, wDk x.2.2.2)]) (fun x => x.1 ≤ xs.length ∧ MLe M x.2.1 ∧ (x.2.2.1 = none ↔ x.1 = 0) ∧ wEp (wCj s 0) none xs = wEp (wCj s 0) x.2.2.1 (xs.drop x.1) ∧ MapI x.2.1 s x.2.2.2 ∧ Ext l x.2.2.2 ∧ (0 < (0 : Int) → ∀ y ∈ xs.take x.1, (wHr y.ref x.2.2.2).isSome = true) ∧ (spOf x.2.2.1).is = true) (fun x => xs.length - x.1)
  (0, M, none, l) (.cons (t := 0) rfl (.cons (t := 3) rfl (.cons (t := 4) rfl (.cons (t := 5) rfl (.cons (t := 12) rfl (.cons (t := 13) rfl (.cons (t := 14) rfl .nil))))))) ⟨Nat.zero_le _, MLe.refl _, by simp, rfl, hmi, Ext.refl _, fun _ y hy => by simp at hy, rfl⟩ (fun _ h => h) ?_
 rintro ⟨k, Mk, o, lk⟩ ⟨hk, hMk, hok0, hI, hmik, hextk, hkid, hspi⟩
 try dsimp only at hk hMk hok0 hI hmik hextk hkid hspi ⊢
 have hcnk := hcn.mono hMk
 have hsk := hs.mono hMk
 have hbk := fun p hp => (hb p hp).mono hMk
 refine wAb (wAa (js rfl (fun h15 => ?_) (fun h15 => ?_)))
 ·refine wAc (jT (wAb (wAg rfl (wAd (jT (wAb (wAh (wAb (wAa (jp rfl ?_))))))))))
  have hk1 : k < xs.length := by omega
  obtain ⟨sb, so, e0, hx⟩ := hsk.open (by intro e; have := congrArg List.length e; rw [wAy wBc 5 wBe, List.length_nil] at this; have h2 := congrArg List.length hp; rw [List.length_map] at h2; omega)
  subst e0
  obtain ⟨va, vc, hcl, hvc, hvs⟩ := wBr hx hp hbk hk1
  have hxr := hno.ref xs[k] (List.getElem_mem hk1)
  refine wAi rfl rfl (wBa rfl rfl rfl rfl (by omega)) ?_
  refine wAi rfl rfl (wEy (cs := itc xs[k] va vc) rfl rfl rfl rfl rfl (fun i v hv => (hcl i v hv).cj _)) ?_
  refine sAl rfl fun b7 => ?_
  refine jp rfl (sSt rfl ?_)
  refine wAc (jT (wAb (wBn [(0, true), (1, true), (2, true), (3, true), (4, true), (5, true), (6, true), (7, true), (8, true), (9, true), (10, true), (11, true), (12, true), (13, true), (14, true), (15, true), (16, true), (17, true), (18, true), (19, true), (20, false), (21, false)] _ (by kernel_rfl) (by kernel_rfl) (by kernel_rfl) rfl (fun _ h => h) ?_)))
  refine dFa rfl rfl ?_
  refine dLL rfl rfl ?_
  refine dFa rfl rfl ?_
  refine dLL rfl rfl ?_
  refine dFa rfl rfl ?_
  refine dLd rfl rfl ?_
  refine ds rfl rfl (fun h25 => ?_) (fun h25 => ?_)
  ·iterate 12 refine dp rfl rfl ?_
   refine wBi rfl rfl rfl (wAq (cs := [_, _, _, _, _, _, _, _, _]) rfl rfl rfl (by rfl)) ?_
   refine wHh rfl rfl rfl (wEx rfl rfl) ?_; rintro _ _ _ ⟨b8, rfl, rfl, rfl⟩
   refine wEm (MLe.refl _) (fun _ h => List.mem_cons_of_mem _ h) (by first | exact MLe.refl _ | assumption) (by simp) ?_
   refine jd_s rfl rfl (wBs rfl rfl rfl rfl rfl rfl rfl rfl) ?_; rintro _ _ _ ⟨rfl, rfl⟩
   refine ⟨_, _, MLe.refl _, MLe.refl _, fun _ h => h, by simp, ?_⟩
   refine wBg (jPn (jT (wAb (wAb (wAa (sFL rfl rfl ?_))))))
   refine jf rfl (decide_eq_false (by omega)) ?_
   refine wAc (jT (wAj rfl (wAd (jT (wAb (wAb (wAa (sFa rfl ?_))))))))
   obtain ⟨p, hpe⟩ : ∃ p : Sp, p = wCj s 0 xs[k] := ⟨_, rfl⟩
   rw [show ([.int .i64 0, .slice none 0 0, .int .u8 xs[k].key.kind, .int .u32 xs[k].key.id, .int .u32 xs[k].key.off, .int .u8 xs[k].key.kind, .int .u32 xs[k].key.id, .int .u32 xs[k].key.off, .bool true] : List Value) = snc 0 (.slice none 0 0) p by rw [hpe]; simp [wCj, h25]]
   refine wDp rfl rfl (qLd rfl rfl rfl rfl (CJ.loc rfl)) (fun h50 => ?_) (fun h50 => ?_)
   ·refine jp rfl (jp rfl (sFa rfl ?_))
    refine sLL rfl ?_
    refine sFa rfl ?_
    refine sLL rfl ?_
    refine wDp rfl rfl (qNeI (ns := [p.first.kind, p.first.id, p.first.off]) (ms := [xs[k].key.kind, xs[k].key.id, xs[k].key.off]) rfl rfl rfl rfl rfl rfl ⟨rfl, rfl⟩) (fun h57 => ?_) (fun h57 => ?_)
    ·iterate 13 refine jp rfl ?_
     refine wAc (jT (wAg rfl (wAb (wAa (sLL rfl ?_)))))
     refine wAi rfl rfl (wAq (cs := [_, _, _, _, _, _, _, _, _]) rfl rfl rfl (by rfl)) ?_
     refine sSt rfl ?_
     refine wAc (jT (wAe (jTr (jBr (jTr (jTr (jBr (jTr (wCd (rs := [_]) ([(cb, .cells (wHy bv wv (.slice (some ⟨nb, no, none⟩) s.now.length nc) lw pb m rest).toArray TCn (0, 0)), (m, wDk lk)]) (by first | exact .refl _ | exact .cons _ (.refl _) | exact .cons _ (.cons _ (.refl _)) | exact .cons _ (.cons _ (.cons _ (.refl _))) | exact .cons _ (.cons _ (.cons _ (.cons _ (.refl _)))) | exact .cons _ (.cons _ (.cons _ (.cons _ (.cons _ (.refl _))))) | exact .cons_cons _ (.cons_cons _ (List.nil_sublist _))) rfl (.cons (.agg rfl rfl rfl) .nil) ?_)))))))))
     have hb : wGb s 0 xs = wGr := wLj (n := 0) rfl hk1 hI (by first | (rw [← hpe]; simp [wBh, h50]; done) | (rw [← hpe]; simp [wBh, show ¬ p.first = xs[k].key from fun e => of_decide_eq_true h57 (by rw [e])]; done) | (obtain ⟨q, rfl⟩ := Option.ne_none_iff_exists'.1 (fun e => by have := hok0.1 e; omega : o ≠ none); rw [← hpe]; simp [wBh, show wBy q.last p.first = false from h67]))
     exact ⟨lk, rfl, hmik, hextk, by rw [hb]; rfl, fun h => by rw [hb] at h; cases h⟩
    ·refine jp rfl (jp rfl (jp rfl (js rfl (fun h61 => ?_) (fun h61 => ?_))))
     ·refine jp rfl (sFa rfl ?_)
      refine sLL rfl ?_
      refine sFa rfl ?_
      refine sLL rfl ?_
      refine wDp rfl rfl (wBf rfl rfl rfl rfl rfl (by kernel_rfl) (wDf (spOf o).last p.first _)) (fun h67 => ?_) (fun h67 => ?_)
      ·refine jp rfl (jp rfl (jp rfl (wAc (jT (wAj rfl (wAd (jT (wAb (wAb (wAa (jp rfl (js rfl (fun h74 => ?_) (fun h74 => ?_)))))))))))))
       ·exfalso; omega
       ·refine wAc (jT (wAj rfl (wAd (jT (wAa (sFa rfl ?_))))))
        refine sLL rfl ?_
        refine sFa rfl ?_
        refine sSt rfl ?_
        refine wAc (jB (jT (wAa (ja rfl (by omega) ?_))))
        refine jp rfl (wAc ?_)
        have hfk : p.first = xs[k].key := by have := wGj p.first xs[k].key; rw [decide_eq_true (Classical.not_not.1 (of_decide_eq_false h57))] at this; exact of_decide_eq_true this.symm
        obtain ⟨q, rfl⟩ : ∃ q, o = some q := by
          cases o with
          | none => have := hok0.1 rfl; omega
          | some q => exact ⟨q, rfl⟩
        have hkid2 : 0 < (0 : Int) → ∀ x ∈ xs.take (k + 1), (wHr x.ref lk).isSome = true := fun h0 => absurd h0 (by decide)
        refine wAp (k + 1, Mk, some (wCy p (some q)), lk) (.cons (t := 0) rfl (.cons (t := 3) rfl (.cons (t := 4) rfl (.cons (t := 5) rfl (.cons (t := 12) rfl (.cons (t := 13) rfl (.cons (t := 14) rfl .nil))))))) ⟨by show k + 1 ≤ xs.length; omega, hMk, by simp, ?_, hmik, hextk, hkid2, rfl⟩ (by show xs.length - (k + 1) < xs.length - k; omega) ?_
        ·show wEp _ _ _ = wEp _ (some (wCy p _)) _
         rw [hpe]; exact go_on hk1 hI (by rw [← hpe]; simp [wBh, h50, ← hfk, show wBy q.last p.first = true from h67])
        ·intro w h
         rw [show (spOf (some q)).is = true from hspi] at h
         refine (h.fewer ?_ : St _ _ _ w)
         exact .cons _ (.cons _ (.refl _))
      ·refine jp rfl (jp rfl (jp rfl (wAc (jT (wAg rfl (wAb (wAa (sLL rfl ?_))))))))
       refine wAi rfl rfl (wAq (cs := [_, _, _, _, _, _, _, _, _]) rfl rfl rfl (by rfl)) ?_
       refine sSt rfl ?_
       refine wAc (jT (wAe (jTr (jBr (jTr (jTr (jBr (jTr (wCd (rs := [_]) ([(cb, .cells (wHy bv wv (.slice (some ⟨nb, no, none⟩) s.now.length nc) lw pb m rest).toArray TCn (0, 0)), (m, wDk lk)]) (by first | exact .refl _ | exact .cons _ (.refl _) | exact .cons _ (.cons _ (.refl _)) | exact .cons _ (.cons _ (.cons _ (.refl _))) | exact .cons _ (.cons _ (.cons _ (.cons _ (.refl _)))) | exact .cons _ (.cons _ (.cons _ (.cons _ (.cons _ (.refl _))))) | exact .cons_cons _ (.cons_cons _ (List.nil_sublist _))) rfl (.cons (.agg rfl rfl rfl) .nil) ?_)))))))))
       have hb : wGb s 0 xs = wGr := wLj (n := 0) rfl hk1 hI (by first | (rw [← hpe]; simp [wBh, h50]; done) | (rw [← hpe]; simp [wBh, show ¬ p.first = xs[k].key from fun e => of_decide_eq_true h57 (by rw [e])]; done) | (obtain ⟨q, rfl⟩ := Option.ne_none_iff_exists'.1 (fun e => by have := hok0.1 e; omega : o ≠ none); rw [← hpe]; simp [wBh, show wBy q.last p.first = false from h67]))
       exact ⟨lk, rfl, hmik, hextk, by rw [hb]; rfl, fun h => by rw [hb] at h; cases h⟩
     ·iterate 9 refine jp rfl ?_
      refine wAc (jT (wAj rfl (wAd (jT (wAb (wAb (wAa (jp rfl (js rfl (fun h74 => ?_) (fun h74 => ?_))))))))))
      ·refine wAc (jT (wAg rfl (wAa (sFa rfl ?_))))
       refine sLL rfl ?_
       refine sFa rfl ?_
       refine sSt rfl ?_
       refine wAc (jT (wAa (sFa rfl ?_)))
       refine sLL rfl ?_
       refine sFa rfl ?_
       refine sSt rfl ?_
       refine wAc (jB (jT (wAa (ja rfl (by omega) ?_))))
       refine jp rfl (wAc ?_)
       have hfk : p.first = xs[k].key := by have := wGj p.first xs[k].key; rw [decide_eq_true (Classical.not_not.1 (of_decide_eq_false h57))] at this; exact of_decide_eq_true this.symm
       obtain rfl : o = none := hok0.2 (by omega)
       have hkid2 : 0 < (0 : Int) → ∀ x ∈ xs.take (k + 1), (wHr x.ref lk).isSome = true := fun h0 => absurd h0 (by decide)
       refine wAp (k + 1, Mk, some (wCy p none), lk) (.cons (t := 0) rfl (.cons (t := 3) rfl (.cons (t := 4) rfl (.cons (t := 5) rfl (.cons (t := 12) rfl (.cons (t := 13) rfl (.cons (t := 14) rfl .nil))))))) ⟨by show k + 1 ≤ xs.length; omega, hMk, by simp, ?_, hmik, hextk, hkid2, rfl⟩ (by show xs.length - (k + 1) < xs.length - k; omega) ?_
       ·show wEp _ _ _ = wEp _ (some (wCy p _)) _
        rw [hpe]; exact go_on hk1 hI (by rw [← hpe]; simp [wBh, h50, hfk])
       ·intro w h
        refine (h.fewer ?_ : St _ _ _ w)
        exact .cons _ (.cons _ (.refl _))
      ·exfalso; omega
   ·iterate 20 refine jp rfl ?_
    refine wAc (jT (wAg rfl (wAb (wAa (sLL rfl ?_)))))
    refine wAi rfl rfl (wAq (cs := [_, _, _, _, _, _, _, _, _]) rfl rfl rfl (by rfl)) ?_
    refine sSt rfl ?_
    refine wAc (jT (wAe (jTr (jBr (jTr (jTr (jBr (jTr (wCd (rs := [_]) ([(cb, .cells (wHy bv wv (.slice (some ⟨nb, no, none⟩) s.now.length nc) lw pb m rest).toArray TCn (0, 0)), (m, wDk lk)]) (by first | exact .refl _ | exact .cons _ (.refl _) | exact .cons _ (.cons _ (.refl _)) | exact .cons _ (.cons _ (.cons _ (.refl _))) | exact .cons _ (.cons _ (.cons _ (.cons _ (.refl _)))) | exact .cons _ (.cons _ (.cons _ (.cons _ (.cons _ (.refl _))))) | exact .cons_cons _ (.cons_cons _ (List.nil_sublist _))) rfl (.cons (.agg rfl rfl rfl) .nil) ?_)))))))))
    have hb : wGb s 0 xs = wGr := wLj (n := 0) rfl hk1 hI (by first | (rw [← hpe]; simp [wBh, h50]; done) | (rw [← hpe]; simp [wBh, show ¬ p.first = xs[k].key from fun e => of_decide_eq_true h57 (by rw [e])]; done) | (obtain ⟨q, rfl⟩ := Option.ne_none_iff_exists'.1 (fun e => by have := hok0.1 e; omega : o ≠ none); rw [← hpe]; simp [wBh, show wBy q.last p.first = false from h67]))
    exact ⟨lk, rfl, hmik, hextk, by rw [hb]; rfl, fun h => by rw [hb] at h; cases h⟩
  ·iterate 2 refine dp rfl rfl ?_
   refine wBi rfl rfl rfl (wAx rfl rfl rfl) ?_
   refine dFa rfl rfl ?_
   refine dFa rfl rfl ?_
   refine dLd rfl rfl ?_
   refine dFa rfl rfl ?_
   refine dLd rfl rfl ?_
   have hxr2 : 0 ≤ xs[k].ref ∧ xs[k].ref < 256 := by omega
   refine wBi rfl rfl rfl (wBa rfl rfl rfl rfl (by omega)) ?_
   refine wBi rfl rfl rfl (qLd rfl rfl rfl rfl (((hnx _ _ (by rw [Nat.mul_one]; exact wHu (j := xs[k].ref.toNat) (by omega))).mono hMk).cj _)) ?_
   iterate 2 refine dp rfl rfl ?_
   refine wBi rfl rfl rfl (wAq (cs := [_, _, _, _, _, _, _, _, _]) rfl rfl rfl (by rfl)) ?_
   refine wHh rfl rfl rfl (wEx rfl rfl) ?_; rintro _ _ _ ⟨b8, rfl, rfl, rfl⟩
   refine wEm (MLe.refl _) (fun _ h => List.mem_cons_of_mem _ h) (by first | exact MLe.refl _ | assumption) (by simp) ?_
   refine jd_s rfl rfl (wBs rfl rfl rfl rfl rfl rfl rfl rfl) ?_; rintro _ _ _ ⟨rfl, rfl⟩
   refine ⟨_, _, MLe.refl _, MLe.refl _, fun _ h => h, by simp, ?_⟩
   refine wBg (jPn (jT (wAb (wAb (wAa (sFL rfl rfl ?_))))))
   refine jf rfl (decide_eq_false (by omega)) ?_
   refine wAc (jT (wAj rfl (wAd (jT (wAb (wAb (wAa (sFa rfl ?_))))))))
   obtain ⟨p, hpe⟩ : ∃ p : Sp, p = wCj s 0 xs[k] := ⟨_, rfl⟩
   rw [show ([.int .i64 0, .slice none 0 0, .int .u8 xs[k].key.kind, .int .u32 xs[k].key.id, .int .u32 xs[k].key.off, .int .u8 xs[k].key.kind, .int .u32 xs[k].key.id, .int .u32 xs[k].key.off, .bool (decide (0 < ((s.now.getD xs[k].ref.toNat 0).toNat : Int)))] : List Value) = snc 0 (.slice none 0 0) p by rw [hpe]; simp [wCj, h25]]
   refine wDp rfl rfl (qLd rfl rfl rfl rfl (CJ.loc rfl)) (fun h50 => ?_) (fun h50 => ?_)
   ·refine jp rfl (jp rfl (sFa rfl ?_))
    refine sLL rfl ?_
    refine sFa rfl ?_
    refine sLL rfl ?_
    refine wDp rfl rfl (qNeI (ns := [p.first.kind, p.first.id, p.first.off]) (ms := [xs[k].key.kind, xs[k].key.id, xs[k].key.off]) rfl rfl rfl rfl rfl rfl ⟨rfl, rfl⟩) (fun h57 => ?_) (fun h57 => ?_)
    ·iterate 13 refine jp rfl ?_
     refine wAc (jT (wAg rfl (wAb (wAa (sLL rfl ?_)))))
     refine wAi rfl rfl (wAq (cs := [_, _, _, _, _, _, _, _, _]) rfl rfl rfl (by rfl)) ?_
     refine sSt rfl ?_
     refine wAc (jT (wAe (jTr (jBr (jTr (jTr (jBr (jTr (wCd (rs := [_]) ([(cb, .cells (wHy bv wv (.slice (some ⟨nb, no, none⟩) s.now.length nc) lw pb m rest).toArray TCn (0, 0)), (m, wDk lk)]) (by first | exact .refl _ | exact .cons _ (.refl _) | exact .cons _ (.cons _ (.refl _)) | exact .cons _ (.cons _ (.cons _ (.refl _))) | exact .cons _ (.cons _ (.cons _ (.cons _ (.refl _)))) | exact .cons _ (.cons _ (.cons _ (.cons _ (.cons _ (.refl _))))) | exact .cons_cons _ (.cons_cons _ (List.nil_sublist _))) rfl (.cons (.agg rfl rfl rfl) .nil) ?_)))))))))
     have hb : wGb s 0 xs = wGr := wLj (n := 0) rfl hk1 hI (by first | (rw [← hpe]; simp [wBh, h50]; done) | (rw [← hpe]; simp [wBh, show ¬ p.first = xs[k].key from fun e => of_decide_eq_true h57 (by rw [e])]; done) | (obtain ⟨q, rfl⟩ := Option.ne_none_iff_exists'.1 (fun e => by have := hok0.1 e; omega : o ≠ none); rw [← hpe]; simp [wBh, show wBy q.last p.first = false from h67]))
     exact ⟨lk, rfl, hmik, hextk, by rw [hb]; rfl, fun h => by rw [hb] at h; cases h⟩
    ·refine jp rfl (jp rfl (jp rfl (js rfl (fun h61 => ?_) (fun h61 => ?_))))
     ·refine jp rfl (sFa rfl ?_)
      refine sLL rfl ?_
      refine sFa rfl ?_
      refine sLL rfl ?_
      refine wDp rfl rfl (wBf rfl rfl rfl rfl rfl (by kernel_rfl) (wDf (spOf o).last p.first _)) (fun h67 => ?_) (fun h67 => ?_)
      ·refine jp rfl (jp rfl (jp rfl (wAc (jT (wAj rfl (wAd (jT (wAb (wAb (wAa (jp rfl (js rfl (fun h74 => ?_) (fun h74 => ?_)))))))))))))
       ·exfalso; omega
       ·refine wAc (jT (wAj rfl (wAd (jT (wAa (sFa rfl ?_))))))
        refine sLL rfl ?_
        refine sFa rfl ?_
        refine sSt rfl ?_
        refine wAc (jB (jT (wAa (ja rfl (by omega) ?_))))
        refine jp rfl (wAc ?_)
        have hfk : p.first = xs[k].key := by have := wGj p.first xs[k].key; rw [decide_eq_true (Classical.not_not.1 (of_decide_eq_false h57))] at this; exact of_decide_eq_true this.symm
        obtain ⟨q, rfl⟩ : ∃ q, o = some q := by
          cases o with
          | none => have := hok0.1 rfl; omega
          | some q => exact ⟨q, rfl⟩
        have hkid2 : 0 < (0 : Int) → ∀ x ∈ xs.take (k + 1), (wHr x.ref lk).isSome = true := fun h0 => absurd h0 (by decide)
        refine wAp (k + 1, Mk, some (wCy p (some q)), lk) (.cons (t := 0) rfl (.cons (t := 3) rfl (.cons (t := 4) rfl (.cons (t := 5) rfl (.cons (t := 12) rfl (.cons (t := 13) rfl (.cons (t := 14) rfl .nil))))))) ⟨by show k + 1 ≤ xs.length; omega, hMk, by simp, ?_, hmik, hextk, hkid2, rfl⟩ (by show xs.length - (k + 1) < xs.length - k; omega) ?_
        ·show wEp _ _ _ = wEp _ (some (wCy p _)) _
         rw [hpe]; exact go_on hk1 hI (by rw [← hpe]; simp [wBh, h50, ← hfk, show wBy q.last p.first = true from h67])
        ·intro w h
         rw [show (spOf (some q)).is = true from hspi] at h
         refine (h.fewer ?_ : St _ _ _ w)
         exact .cons _ (.cons _ (.refl _))
      ·refine jp rfl (jp rfl (jp rfl (wAc (jT (wAg rfl (wAb (wAa (sLL rfl ?_))))))))
       refine wAi rfl rfl (wAq (cs := [_, _, _, _, _, _, _, _, _]) rfl rfl rfl (by rfl)) ?_
       refine sSt rfl ?_
       refine wAc (jT (wAe (jTr (jBr (jTr (jTr (jBr (jTr (wCd (rs := [_]) ([(cb, .cells (wHy bv wv (.slice (some ⟨nb, no, none⟩) s.now.length nc) lw pb m rest).toArray TCn (0, 0)), (m, wDk lk)]) (by first | exact .refl _ | exact .cons _ (.refl _) | exact .cons _ (.cons _ (.refl _)) | exact .cons _ (.cons _ (.cons _ (.refl _))) | exact .cons _ (.cons _ (.cons _ (.cons _ (.refl _)))) | exact .cons _ (.cons _ (.cons _ (.cons _ (.cons _ (.refl _))))) | exact .cons_cons _ (.cons_cons _ (List.nil_sublist _))) rfl (.cons (.agg rfl rfl rfl) .nil) ?_)))))))))
       have hb : wGb s 0 xs = wGr := wLj (n := 0) rfl hk1 hI (by first | (rw [← hpe]; simp [wBh, h50]; done) | (rw [← hpe]; simp [wBh, show ¬ p.first = xs[k].key from fun e => of_decide_eq_true h57 (by rw [e])]; done) | (obtain ⟨q, rfl⟩ := Option.ne_none_iff_exists'.1 (fun e => by have := hok0.1 e; omega : o ≠ none); rw [← hpe]; simp [wBh, show wBy q.last p.first = false from h67]))
       exact ⟨lk, rfl, hmik, hextk, by rw [hb]; rfl, fun h => by rw [hb] at h; cases h⟩
     ·iterate 9 refine jp rfl ?_
      refine wAc (jT (wAj rfl (wAd (jT (wAb (wAb (wAa (jp rfl (js rfl (fun h74 => ?_) (fun h74 => ?_))))))))))
      ·refine wAc (jT (wAg rfl (wAa (sFa rfl ?_))))
       refine sLL rfl ?_
       refine sFa rfl ?_
       refine sSt rfl ?_
       refine wAc (jT (wAa (sFa rfl ?_)))
       refine sLL rfl ?_
       refine sFa rfl ?_
       refine sSt rfl ?_
       refine wAc (jB (jT (wAa (ja rfl (by omega) ?_))))
       refine jp rfl (wAc ?_)
       have hfk : p.first = xs[k].key := by have := wGj p.first xs[k].key; rw [decide_eq_true (Classical.not_not.1 (of_decide_eq_false h57))] at this; exact of_decide_eq_true this.symm
       obtain rfl : o = none := hok0.2 (by omega)
       have hkid2 : 0 < (0 : Int) → ∀ x ∈ xs.take (k + 1), (wHr x.ref lk).isSome = true := fun h0 => absurd h0 (by decide)
       refine wAp (k + 1, Mk, some (wCy p none), lk) (.cons (t := 0) rfl (.cons (t := 3) rfl (.cons (t := 4) rfl (.cons (t := 5) rfl (.cons (t := 12) rfl (.cons (t := 13) rfl (.cons (t := 14) rfl .nil))))))) ⟨by show k + 1 ≤ xs.length; omega, hMk, by simp, ?_, hmik, hextk, hkid2, rfl⟩ (by show xs.length - (k + 1) < xs.length - k; omega) ?_
       ·show wEp _ _ _ = wEp _ (some (wCy p _)) _
        rw [hpe]; exact go_on hk1 hI (by rw [← hpe]; simp [wBh, h50, hfk])
       ·intro w h
        refine (h.fewer ?_ : St _ _ _ w)
        exact .cons _ (.cons _ (.refl _))
      ·exfalso; omega
   ·iterate 20 refine jp rfl ?_
    refine wAc (jT (wAg rfl (wAb (wAa (sLL rfl ?_)))))
    refine wAi rfl rfl (wAq (cs := [_, _, _, _, _, _, _, _, _]) rfl rfl rfl (by rfl)) ?_
    refine sSt rfl ?_
    refine wAc (jT (wAe (jTr (jBr (jTr (jTr (jBr (jTr (wCd (rs := [_]) ([(cb, .cells (wHy bv wv (.slice (some ⟨nb, no, none⟩) s.now.length nc) lw pb m rest).toArray TCn (0, 0)), (m, wDk lk)]) (by first | exact .refl _ | exact .cons _ (.refl _) | exact .cons _ (.cons _ (.refl _)) | exact .cons _ (.cons _ (.cons _ (.refl _))) | exact .cons _ (.cons _ (.cons _ (.cons _ (.refl _)))) | exact .cons _ (.cons _ (.cons _ (.cons _ (.cons _ (.refl _))))) | exact .cons_cons _ (.cons_cons _ (List.nil_sublist _))) rfl (.cons (.agg rfl rfl rfl) .nil) ?_)))))))))
    have hb : wGb s 0 xs = wGr := wLj (n := 0) rfl hk1 hI (by first | (rw [← hpe]; simp [wBh, h50]; done) | (rw [← hpe]; simp [wBh, show ¬ p.first = xs[k].key from fun e => of_decide_eq_true h57 (by rw [e])]; done) | (obtain ⟨q, rfl⟩ := Option.ne_none_iff_exists'.1 (fun e => by have := hok0.1 e; omega : o ≠ none); rw [← hpe]; simp [wBh, show wBy q.last p.first = false from h67]))
    exact ⟨lk, rfl, hmik, hextk, by rw [hb]; rfl, fun h => by rw [hb] at h; cases h⟩
 ·refine wAc (jT (wAb (wAj rfl (wAs (jTx (jTx (jBx (jT (wAb (wAa (sLL rfl ?_)))))))))))
  refine sSt rfl ?_
  refine wAc (jT (wAe (wCd (rs := [_]) ([(cb, .cells (wHy bv wv (.slice (some ⟨nb, no, none⟩) s.now.length nc) lw pb m rest).toArray TCn (0, 0)), (m, wDk lk)]) (by first | exact .refl _ | exact .cons _ (.refl _) | exact .cons _ (.cons _ (.refl _)) | exact .cons _ (.cons _ (.cons _ (.refl _))) | exact .cons _ (.cons _ (.cons _ (.cons _ (.refl _)))) | exact .cons _ (.cons _ (.cons _ (.cons _ (.cons _ (.refl _))))) | exact .cons_cons _ (.cons_cons _ (List.nil_sublist _))) rfl (.cons (.agg rfl rfl rfl) .nil) ?_)))
  have hb : wGb s 0 xs = spOf o := rd_end (n := 0) rfl (by omega) hok0 hI
  obtain rfl : k = xs.length := by omega
  exact ⟨lk, rfl, hmik, hextk, by rw [hb]; rfl, fun _ h0 x hx => hkid h0 x (by rw [List.take_length]; exact hx)⟩
set_option maxHeartbeats 4000000 in
theorem read_node (s : Sto) (hst : wCp s) (cb m : Nat) (bv wv nv lw pb : Value) (rest : List Value) (l : Nat) (hl : CenLearn s cb m bv wv nv lw pb rest (l : Int)) (xs : List It) (a : Option Addr) (c : Nat) (ps : List (It × Value)) (M : Mem) (l0 : List (Int × Value)) (hcn : CN M s nv pb) (hmi : MapI M s l0) (hc : xs.length ≤ c) (hs : SM M a (ps.flatMap wBc)) (hp : ps.map (·.1) = xs) (hb : ∀ p ∈ ps, BS M p.2 p.1.val) (hno : NdOk ((l + 1 : Nat) : Int) xs)  :
  SpecL Tryz.prog 100 #[.pointer (some ⟨cb, 0, none⟩), .agg #[.int .i64 ((l + 1 : Nat) : Int), .slice a xs.length c]] M [(cb, .cells (wHy bv wv nv lw pb m rest).toArray TCn (0, 0)), (m, wDk l0)] fun u M' L' => ∃ l', L' = [(cb, .cells (wHy bv wv nv lw pb m rest).toArray TCn (0, 0)), (m, wDk l')] ∧ MapI M' s l' ∧ Ext l0 l' ∧ u = .agg (snc ((l + 1 : Nat) : Int) (.slice a xs.length c) (wGb s ((l + 1 : Nat) : Int) xs)).toArray ∧ ((wGb s ((l + 1 : Nat) : Int) xs).is = true → 0 < ((l + 1 : Nat) : Int) → ∀ x ∈ xs, (wHr x.ref l').isSome = true) := by
 have hlv := hno.lev
 have hlen := hno.len
 obtain ⟨na, nc, rfl, hnc, hns⟩ := id hcn.now
 have hn256 : s.now.length = 256 := hst.2.1.1
 obtain ⟨nb, no, e0, hnx⟩ := hns.open (by intro e; have := congrArg List.length e; rw [wAu, List.length_nil] at this; omega)
 subst e0
 refine wAf (vs := [_, _]) 83 _ Tryz.func100 rfl Tryz.ntmps100 rfl rfl ?_; intro W
 refine wAb (wAa (wAw rfl rfl (wCb (cs := [_, _]) rfl rfl rfl rfl) ?_)); rintro _ _ _ ⟨b3, rfl, rfl, rfl⟩
 refine sAl rfl fun b4 => ?_
 refine wAc (jT (wAb (wAa (sLL rfl ?_))))
 refine wAi rfl rfl (wAq (cs := [_, _, _, _, _, _, _, _, _]) rfl rfl rfl (by rfl)) ?_
 refine sAl rfl fun b5 => ?_
 refine sSt rfl ?_
 refine wAc (jT (wAb (wAb (wAa (sFL rfl rfl ?_)))))
 refine wAi rfl rfl (wBq rfl rfl rfl) ?_
 refine jp rfl (wAc (jT (wAh ?_)))
 refine wAr (α := Nat × Mem × Option Sp × List (Int × Value)) (fun x => [(0, .pointer (some ⟨cb, 0, none⟩)), (3, .pointer (some ⟨b3, 0, none⟩)), (4, .pointer (some ⟨b4, 0, none⟩)), (5, .pointer (some ⟨b5, 0, none⟩)), (12, .slice a xs.length c), (13, .int .i64 xs.length), (14, .int .i64 x.1)]) (fun x => x.2.1) (fun x => [(b5, .cells (snc ((l + 1 : Nat) : Int) (.slice a xs.length c) (spOf x.2.2.1)).toArray TSp (0, 0)), (b4, .cells spnZ.toArray TSp (0, 0)), (b3, .cells [.int .i64 ((l + 1 : Nat) : Int), .slice a xs.length c].toArray TNd (0, 0)), (cb, .cells (wHy bv wv (.slice (some ⟨nb, no, none⟩) s.now.length nc) lw pb m rest).toArray TCn (0, 0)), (m, wDk x.2.2.2)]) (fun x => x.1 ≤ xs.length ∧ MLe M x.2.1 ∧ (x.2.2.1 = none ↔ x.1 = 0) ∧ wEp (wCj s (l + 1)) none xs = wEp (wCj s (l + 1)) x.2.2.1 (xs.drop x.1) ∧ MapI x.2.1 s x.2.2.2 ∧ Ext l0 x.2.2.2 ∧ (0 < ((l + 1 : Nat) : Int) → ∀ y ∈ xs.take x.1, (wHr y.ref x.2.2.2).isSome = true) ∧ (spOf x.2.2.1).is = true) (fun x => xs.length - x.1)
  (0, M, none, l0) (.cons (t := 0) rfl (.cons (t := 3) rfl (.cons (t := 4) rfl (.cons (t := 5) rfl (.cons (t := 12) rfl (.cons (t := 13) rfl (.cons (t := 14) rfl .nil))))))) ⟨Nat.zero_le _, MLe.refl _, by simp, rfl, hmi, Ext.refl _, fun _ y hy => by simp at hy, rfl⟩ (fun _ h => h) ?_
 rintro ⟨k, Mk, o, lk⟩ ⟨hk, hMk, hok0, hI, hmik, hextk, hkid, hspi⟩
 try dsimp only at hk hMk hok0 hI hmik hextk hkid hspi ⊢
 have hcnk := hcn.mono hMk
 have hsk := hs.mono hMk
 have hbk := fun p hp => (hb p hp).mono hMk
 refine wAb (wAa (js rfl (fun h15 => ?_) (fun h15 => ?_)))
 ·refine wAc (jT (wAb (wAg rfl (wAd (jT (wAb (wAh (wAb (wAa (jp rfl ?_))))))))))
  have hk1 : k < xs.length := by omega
  obtain ⟨sb, so, e0, hx⟩ := hsk.open (by intro e; have := congrArg List.length e; rw [wAy wBc 5 wBe, List.length_nil] at this; have h2 := congrArg List.length hp; rw [List.length_map] at h2; omega)
  subst e0
  obtain ⟨va, vc, hcl, hvc, hvs⟩ := wBr hx hp hbk hk1
  have hxr := hno.ref xs[k] (List.getElem_mem hk1)
  refine wAi rfl rfl (wBa rfl rfl rfl rfl (by omega)) ?_
  refine wAi rfl rfl (wEy (cs := itc xs[k] va vc) rfl rfl rfl rfl rfl (fun i v hv => (hcl i v hv).cj _)) ?_
  refine sAl rfl fun b7 => ?_
  refine jp rfl (sSt rfl ?_)
  refine wAc (jT (wAb (wBn [(0, true), (1, true), (2, true), (3, true), (4, true), (5, true), (6, true), (7, true), (8, true), (9, true), (10, true), (11, true), (12, true), (13, true), (14, true), (15, true), (16, true), (17, true), (18, true), (19, true), (20, false), (21, false)] _ (by kernel_rfl) (by kernel_rfl) (by kernel_rfl) rfl (fun _ h => h) ?_)))
  refine dFa rfl rfl ?_
  refine dLL rfl rfl ?_
  refine dFa rfl rfl ?_
  refine dLL rfl rfl ?_
  refine dFa rfl rfl ?_
  refine dLd rfl rfl ?_
  refine ds rfl rfl (fun h25 => ?_) (fun h25 => ?_)
  ·exfalso; exact hno.up (by omega) xs[k] (List.getElem_mem hk1) h25
  ·iterate 2 refine dp rfl rfl ?_
   refine wBi rfl rfl rfl (wAx rfl rfl rfl) ?_
   refine dFa rfl rfl ?_
   refine dFa rfl rfl ?_
   refine dLd rfl rfl ?_
   refine dFa rfl rfl ?_
   refine dLd rfl rfl ?_
   have hxr2 : 0 ≤ xs[k].ref ∧ xs[k].ref < 256 := by omega
   refine wBi rfl rfl rfl (wBa rfl rfl rfl rfl (by omega)) ?_
   refine wBi rfl rfl rfl (qLd rfl rfl rfl rfl (((hnx _ _ (by rw [Nat.mul_one]; exact wHu (j := xs[k].ref.toNat) (by omega))).mono hMk).cj _)) ?_
   iterate 2 refine dp rfl rfl ?_
   refine wBi rfl rfl rfl (wAq (cs := [_, _, _, _, _, _, _, _, _]) rfl rfl rfl (by rfl)) ?_
   refine wHh rfl rfl rfl (wEx rfl rfl) ?_; rintro _ _ _ ⟨b8, rfl, rfl, rfl⟩
   refine wEm (MLe.refl _) (fun _ h => List.mem_cons_of_mem _ h) (by first | exact MLe.refl _ | assumption) (by simp) ?_
   refine jd_s rfl rfl (wBs rfl rfl rfl rfl rfl rfl rfl rfl) ?_; rintro _ _ _ ⟨rfl, rfl⟩
   refine ⟨_, _, MLe.refl _, MLe.refl _, fun _ h => h, by simp, ?_⟩
   refine wBg (jPn (jT (wAb (wAb (wAa (sFL rfl rfl ?_))))))
   refine jt rfl (decide_eq_true (by omega)) ?_
   refine wAc (jT (wAg rfl (wAa (jp rfl (sFL rfl rfl ?_)))))
   refine sFL rfl rfl ?_
   refine ja rfl (by omega) ?_
   have hup := hno.up (by omega) xs[k] (List.getElem_mem hk1)
   have hcnk2 := hcnk
   refine wAw rfl rfl (wAn rfl rfl rfl rfl rfl (by kernel_rfl) (by have := hl xs[k].ref Mk lk hcnk hmik; rwa [show ((l : Nat) : Int) = ((l + 1 : Nat) : Int) - 1 by omega] at this)) ?_; rintro _ Mn _ ⟨hMn, _, rfl, ⟨l2, rfl, hmi2, hext2, hlr⟩⟩
   simp only [List.cons_append, List.nil_append]
   rw [show ((l + 1 : Nat) : Int) - 1 = (l : Int) by omega] at hlr
   obtain ⟨zl, za, zn, zc, p, rfl, hlr2⟩ := hlr.form
   have hpe : p = wCj s (l + 1) xs[k] := by
    rw [one_lrn (by omega)]
    rcases hlr2 with ⟨h1, h2⟩ | ⟨ys, h1, _, _, h2, _⟩
    ·rw [h1]; exact h2
    ·rw [h1]; exact h2
   refine sSt rfl ?_
   refine wAc (jT (wAb (wAb (wAa (sFa rfl ?_)))))
   refine wDp rfl rfl (qLd rfl rfl rfl rfl (CJ.loc rfl)) (fun h50 => ?_) (fun h50 => ?_)
   ·refine jp rfl (jp rfl (sFa rfl ?_))
    refine sLL rfl ?_
    refine sFa rfl ?_
    refine sLL rfl ?_
    refine wDp rfl rfl (qNeI (ns := [p.first.kind, p.first.id, p.first.off]) (ms := [xs[k].key.kind, xs[k].key.id, xs[k].key.off]) rfl rfl rfl rfl rfl rfl ⟨rfl, rfl⟩) (fun h57 => ?_) (fun h57 => ?_)
    ·iterate 13 refine jp rfl ?_
     refine wAc (jT (wAg rfl (wAb (wAa (sLL rfl ?_)))))
     refine wAi rfl rfl (wAq (cs := [_, _, _, _, _, _, _, _, _]) rfl rfl rfl (by rfl)) ?_
     refine sSt rfl ?_
     refine wAc (jT (wAe (jTr (jBr (jTr (jTr (jBr (jTr (wCd (rs := [_]) ([(cb, .cells (wHy bv wv (.slice (some ⟨nb, no, none⟩) s.now.length nc) lw pb m rest).toArray TCn (0, 0)), (m, wDk l2)]) (by first | exact .refl _ | exact .cons _ (.refl _) | exact .cons _ (.cons _ (.refl _)) | exact .cons _ (.cons _ (.cons _ (.refl _))) | exact .cons _ (.cons _ (.cons _ (.cons _ (.refl _)))) | exact .cons _ (.cons _ (.cons _ (.cons _ (.cons _ (.refl _))))) | exact .cons_cons _ (.cons_cons _ (List.nil_sublist _))) rfl (.cons (.agg rfl rfl rfl) .nil) ?_)))))))))
     have hb : wGb s ((l + 1 : Nat) : Int) xs = wGr := wLj (n := (l + 1)) (by omega) hk1 hI (by first | (rw [← hpe]; simp [wBh, h50]; done) | (rw [← hpe]; simp [wBh, show ¬ p.first = xs[k].key from fun e => of_decide_eq_true h57 (by rw [e])]; done) | (obtain ⟨q, rfl⟩ := Option.ne_none_iff_exists'.1 (fun e => by have := hok0.1 e; omega : o ≠ none); rw [← hpe]; simp [wBh, show wBy q.last p.first = false from h67]))
     exact ⟨l2, rfl, hmi2, (hextk.trans hext2), by rw [hb]; rfl, fun h => by rw [hb] at h; cases h⟩
    ·refine jp rfl (jp rfl (jp rfl (js rfl (fun h61 => ?_) (fun h61 => ?_))))
     ·refine jp rfl (sFa rfl ?_)
      refine sLL rfl ?_
      refine sFa rfl ?_
      refine sLL rfl ?_
      refine wDp rfl rfl (wBf rfl rfl rfl rfl rfl (by kernel_rfl) (wDf (spOf o).last p.first _)) (fun h67 => ?_) (fun h67 => ?_)
      ·refine jp rfl (jp rfl (jp rfl (wAc (jT (wAj rfl (wAd (jT (wAb (wAb (wAa (jp rfl (js rfl (fun h74 => ?_) (fun h74 => ?_)))))))))))))
       ·exfalso; omega
       ·refine wAc (jT (wAj rfl (wAd (jT (wAa (sFa rfl ?_))))))
        refine sLL rfl ?_
        refine sFa rfl ?_
        refine sSt rfl ?_
        refine wAc (jB (jT (wAa (ja rfl (by omega) ?_))))
        refine jp rfl (wAc ?_)
        have hfk : p.first = xs[k].key := by have := wGj p.first xs[k].key; rw [decide_eq_true (Classical.not_not.1 (of_decide_eq_false h57))] at this; exact of_decide_eq_true this.symm
        obtain ⟨q, rfl⟩ : ∃ q, o = some q := by
          cases o with
          | none => have := hok0.1 rfl; omega
          | some q => exact ⟨q, rfl⟩
        have hkid2 : 0 < ((l + 1 : Nat) : Int) → ∀ x ∈ xs.take (k + 1), (wHr x.ref l2).isSome = true := fun h0 => all_on hk1 (fun x hx => hext2 _ (hkid h0 x hx)) (by
         rcases hlr2 with ⟨_, h2⟩ | ⟨ys, _, _, _, _, h2⟩
         ·rw [h2] at h50; cases h50
         ·exact h2)
        refine wAp (k + 1, Mn, some (wCy p (some q)), l2) (.cons (t := 0) rfl (.cons (t := 3) rfl (.cons (t := 4) rfl (.cons (t := 5) rfl (.cons (t := 12) rfl (.cons (t := 13) rfl (.cons (t := 14) rfl .nil))))))) ⟨by show k + 1 ≤ xs.length; omega, hMk.trans hMn, by simp, ?_, hmi2, (hextk.trans hext2), hkid2, rfl⟩ (by show xs.length - (k + 1) < xs.length - k; omega) ?_
        ·show wEp _ _ _ = wEp _ (some (wCy p _)) _
         rw [hpe]; exact go_on hk1 hI (by rw [← hpe]; simp [wBh, h50, ← hfk, show wBy q.last p.first = true from h67])
        ·intro w h
         rw [show (spOf (some q)).is = true from hspi] at h
         refine ((h.perm (List.perm_append_comm (l₁ := [_, _]) (l₂ := [_, _, _, _, _]))).fewer ?_ : St _ _ _ w)
         exact .cons _ (.cons _ (.refl _))
      ·refine jp rfl (jp rfl (jp rfl (wAc (jT (wAg rfl (wAb (wAa (sLL rfl ?_))))))))
       refine wAi rfl rfl (wAq (cs := [_, _, _, _, _, _, _, _, _]) rfl rfl rfl (by rfl)) ?_
       refine sSt rfl ?_
       refine wAc (jT (wAe (jTr (jBr (jTr (jTr (jBr (jTr (wCd (rs := [_]) ([(cb, .cells (wHy bv wv (.slice (some ⟨nb, no, none⟩) s.now.length nc) lw pb m rest).toArray TCn (0, 0)), (m, wDk l2)]) (by first | exact .refl _ | exact .cons _ (.refl _) | exact .cons _ (.cons _ (.refl _)) | exact .cons _ (.cons _ (.cons _ (.refl _))) | exact .cons _ (.cons _ (.cons _ (.cons _ (.refl _)))) | exact .cons _ (.cons _ (.cons _ (.cons _ (.cons _ (.refl _))))) | exact .cons_cons _ (.cons_cons _ (List.nil_sublist _))) rfl (.cons (.agg rfl rfl rfl) .nil) ?_)))))))))
       have hb : wGb s ((l + 1 : Nat) : Int) xs = wGr := wLj (n := (l + 1)) (by omega) hk1 hI (by first | (rw [← hpe]; simp [wBh, h50]; done) | (rw [← hpe]; simp [wBh, show ¬ p.first = xs[k].key from fun e => of_decide_eq_true h57 (by rw [e])]; done) | (obtain ⟨q, rfl⟩ := Option.ne_none_iff_exists'.1 (fun e => by have := hok0.1 e; omega : o ≠ none); rw [← hpe]; simp [wBh, show wBy q.last p.first = false from h67]))
       exact ⟨l2, rfl, hmi2, (hextk.trans hext2), by rw [hb]; rfl, fun h => by rw [hb] at h; cases h⟩
     ·iterate 9 refine jp rfl ?_
      refine wAc (jT (wAj rfl (wAd (jT (wAb (wAb (wAa (jp rfl (js rfl (fun h74 => ?_) (fun h74 => ?_))))))))))
      ·refine wAc (jT (wAg rfl (wAa (sFa rfl ?_))))
       refine sLL rfl ?_
       refine sFa rfl ?_
       refine sSt rfl ?_
       refine wAc (jT (wAa (sFa rfl ?_)))
       refine sLL rfl ?_
       refine sFa rfl ?_
       refine sSt rfl ?_
       refine wAc (jB (jT (wAa (ja rfl (by omega) ?_))))
       refine jp rfl (wAc ?_)
       have hfk : p.first = xs[k].key := by have := wGj p.first xs[k].key; rw [decide_eq_true (Classical.not_not.1 (of_decide_eq_false h57))] at this; exact of_decide_eq_true this.symm
       obtain rfl : o = none := hok0.2 (by omega)
       have hkid2 : 0 < ((l + 1 : Nat) : Int) → ∀ x ∈ xs.take (k + 1), (wHr x.ref l2).isSome = true := fun h0 => all_on hk1 (fun x hx => hext2 _ (hkid h0 x hx)) (by
        rcases hlr2 with ⟨_, h2⟩ | ⟨ys, _, _, _, _, h2⟩
        ·rw [h2] at h50; cases h50
        ·exact h2)
       refine wAp (k + 1, Mn, some (wCy p none), l2) (.cons (t := 0) rfl (.cons (t := 3) rfl (.cons (t := 4) rfl (.cons (t := 5) rfl (.cons (t := 12) rfl (.cons (t := 13) rfl (.cons (t := 14) rfl .nil))))))) ⟨by show k + 1 ≤ xs.length; omega, hMk.trans hMn, by simp, ?_, hmi2, (hextk.trans hext2), hkid2, rfl⟩ (by show xs.length - (k + 1) < xs.length - k; omega) ?_
       ·show wEp _ _ _ = wEp _ (some (wCy p _)) _
        rw [hpe]; exact go_on hk1 hI (by rw [← hpe]; simp [wBh, h50, hfk])
       ·intro w h
        refine ((h.perm (List.perm_append_comm (l₁ := [_, _]) (l₂ := [_, _, _, _, _]))).fewer ?_ : St _ _ _ w)
        exact .cons _ (.cons _ (.refl _))
      ·exfalso; omega
   ·iterate 20 refine jp rfl ?_
    refine wAc (jT (wAg rfl (wAb (wAa (sLL rfl ?_)))))
    refine wAi rfl rfl (wAq (cs := [_, _, _, _, _, _, _, _, _]) rfl rfl rfl (by rfl)) ?_
    refine sSt rfl ?_
    refine wAc (jT (wAe (jTr (jBr (jTr (jTr (jBr (jTr (wCd (rs := [_]) ([(cb, .cells (wHy bv wv (.slice (some ⟨nb, no, none⟩) s.now.length nc) lw pb m rest).toArray TCn (0, 0)), (m, wDk l2)]) (by first | exact .refl _ | exact .cons _ (.refl _) | exact .cons _ (.cons _ (.refl _)) | exact .cons _ (.cons _ (.cons _ (.refl _))) | exact .cons _ (.cons _ (.cons _ (.cons _ (.refl _)))) | exact .cons _ (.cons _ (.cons _ (.cons _ (.cons _ (.refl _))))) | exact .cons_cons _ (.cons_cons _ (List.nil_sublist _))) rfl (.cons (.agg rfl rfl rfl) .nil) ?_)))))))))
    have hb : wGb s ((l + 1 : Nat) : Int) xs = wGr := wLj (n := (l + 1)) (by omega) hk1 hI (by first | (rw [← hpe]; simp [wBh, h50]; done) | (rw [← hpe]; simp [wBh, show ¬ p.first = xs[k].key from fun e => of_decide_eq_true h57 (by rw [e])]; done) | (obtain ⟨q, rfl⟩ := Option.ne_none_iff_exists'.1 (fun e => by have := hok0.1 e; omega : o ≠ none); rw [← hpe]; simp [wBh, show wBy q.last p.first = false from h67]))
    exact ⟨l2, rfl, hmi2, (hextk.trans hext2), by rw [hb]; rfl, fun h => by rw [hb] at h; cases h⟩
 ·refine wAc (jT (wAb (wAj rfl (wAs (jTx (jTx (jBx (jT (wAb (wAa (sLL rfl ?_)))))))))))
  refine sSt rfl ?_
  refine wAc (jT (wAe (wCd (rs := [_]) ([(cb, .cells (wHy bv wv (.slice (some ⟨nb, no, none⟩) s.now.length nc) lw pb m rest).toArray TCn (0, 0)), (m, wDk lk)]) (by first | exact .refl _ | exact .cons _ (.refl _) | exact .cons _ (.cons _ (.refl _)) | exact .cons _ (.cons _ (.cons _ (.refl _))) | exact .cons _ (.cons _ (.cons _ (.cons _ (.refl _)))) | exact .cons _ (.cons _ (.cons _ (.cons _ (.cons _ (.refl _))))) | exact .cons_cons _ (.cons_cons _ (List.nil_sublist _))) rfl (.cons (.agg rfl rfl rfl) .nil) ?_)))
  have hb : wGb s ((l + 1 : Nat) : Int) xs = spOf o := rd_end (n := (l + 1)) (by omega) (by omega) hok0 hI
  obtain rfl : k = xs.length := by omega
  exact ⟨lk, rfl, hmik, hextk, by rw [hb]; rfl, fun _ h0 x hx => hkid h0 x (by rw [List.take_length]; exact hx)⟩
theorem cen_leaf (s : Sto) (hst : wCp s) (cb m : Nat) (bv wv nv lw pb : Value) (rest : List Value) : CenRead s cb m bv wv nv lw pb rest 0 := fun xs sl M l hcn hmi hsl hno => by
 obtain ⟨a, c, ps, rfl, hc, hs, hp, hb⟩ := hsl
 exact read_leaf s hst cb m bv wv nv lw pb rest xs a c ps M l hcn hmi hc hs hp hb hno
theorem cen_node (s : Sto) (hst : wCp s) (cb m : Nat) (bv wv nv lw pb : Value) (rest : List Value) (l : Nat) (hl : CenLearn s cb m bv wv nv lw pb rest (l : Int)) : CenRead s cb m bv wv nv lw pb rest ((l + 1 : Nat) : Int) := fun xs sl M l0 hcn hmi hsl hno => by
 obtain ⟨a, c, ps, rfl, hc, hs, hp, hb⟩ := hsl
 exact read_node s hst cb m bv wv nv lw pb rest l hl xs a c ps M l0 hcn hmi hc hs hp hb hno
set_option maxHeartbeats 2000000 in
theorem learn_walk (s : Sto) (hst : wCp s) (cb m : Nat) (bv wv nv lw pb : Value) (rest : List Value) (level : Int) (hrd : ∀ lv : Int, (0 ≤ level → lv = level) → CenRead s cb m bv wv nv lw pb rest lv) (k : Int) (M : Mem) (l : List (Int × Value)) (hcn : CN M s nv pb) (hmi : MapI M s l) :
  SpecL Tryz.prog 72 #[.pointer (some ⟨cb, 0, none⟩), .int .i64 k, .int .i64 level] M [(cb, .cells (wHy bv wv nv lw pb m rest).toArray TCn (0, 0)), (m, wDk l)] fun u M' L' => ∃ l', L' = [(cb, .cells (wHy bv wv nv lw pb m rest).toArray TCn (0, 0)), (m, wDk l')] ∧ MapI M' s l' ∧ Ext l l' ∧ LrP s k level u M' l' := by
 refine wAf (vs := [_, _, _]) 77 _ Tryz.func72 rfl Tryz.ntmps72 rfl rfl ?_; intro W
 refine wAb (wAa (sAl rfl fun b6 => ?_))
 refine wAc (jT (wAb (wAb (wAa (jp rfl (js rfl (fun h11 => ?_) (fun h11 => ?_)))))))
 ·refine jp rfl (jp rfl (jp rfl (jp rfl (wAc (jT (wAg rfl (wAb (wAa (wAi rfl rfl (wAq (cs := [_, _, _, _, _, _, _, _, _]) rfl rfl rfl (by rfl)) ?_)))))))))
  refine sSt rfl ?_
  refine wAc (jT (wAe (jTr (wCd (rs := [_]) ([(cb, .cells (wHy bv wv nv lw pb m rest).toArray TCn (0, 0)), (m, wDk l)]) (by first | exact .refl _ | exact .cons _ (.refl _) | exact .cons _ (.cons _ (.refl _)) | exact .cons _ (.cons _ (.cons _ (.refl _))) | exact .cons _ (.cons _ (.cons _ (.cons _ (.refl _)))) | exact .cons _ (.cons _ (.cons _ (.cons _ (.cons _ (.refl _))))) | exact .cons_cons _ (.cons_cons _ (List.nil_sublist _))) rfl (.cons (.agg rfl rfl rfl) .nil) ?_))))
  exact ⟨l, rfl, hmi, Ext.refl _, by unfold LrP; rw [lrn_out (by omega)]; rfl⟩
 ·refine jp rfl (jp rfl (js rfl (fun h14 => ?_) (fun h14 => ?_)))
  ·refine jp rfl (wAc (jT (wAg rfl (wAb (wAa (wAi rfl rfl (wAq (cs := [_, _, _, _, _, _, _, _, _]) rfl rfl rfl (by rfl)) ?_))))))
   refine sSt rfl ?_
   refine wAc (jT (wAe (jTr (wCd (rs := [_]) ([(cb, .cells (wHy bv wv nv lw pb m rest).toArray TCn (0, 0)), (m, wDk l)]) (by first | exact .refl _ | exact .cons _ (.refl _) | exact .cons _ (.cons _ (.refl _)) | exact .cons _ (.cons _ (.cons _ (.refl _))) | exact .cons _ (.cons _ (.cons _ (.cons _ (.refl _)))) | exact .cons _ (.cons _ (.cons _ (.cons _ (.cons _ (.refl _))))) | exact .cons_cons _ (.cons_cons _ (List.nil_sublist _))) rfl (.cons (.agg rfl rfl rfl) .nil) ?_))))
   exact ⟨l, rfl, hmi, Ext.refl _, by unfold LrP; rw [lrn_out (by omega)]; rfl⟩
  ·refine jp rfl (wAc (jT (wAj rfl (wAd (jT (wAb (wAa (jp rfl (wAi rfl rfl (wAx rfl rfl rfl) ?_)))))))))
   refine sFL rfl rfl ?_
   refine jp rfl (wAi rfl rfl (qLookupOk (z := .agg spnZ.toArray) rfl rfl rfl rfl (by kernel_rfl)) ?_)
   refine jp rfl (jp rfl (jsb rfl (fun h25 => ?_) (fun h25 => ?_)))
   ·obtain ⟨v, hv⟩ := Option.isSome_iff_exists.1 h25
    obtain ⟨hk8, hk256, lv, xs, sl, hnd, hsl, rfl⟩ := hmi.ent k v hv
    obtain ⟨a, c, ps, rfl, _⟩ := id hsl
    rw [hv]
    refine sSt rfl ?_
    refine jp rfl (wAc (jT (wAb (wAb (wAa (jp rfl (jp rfl (wAc (jT (wAj rfl (wAd (jT (wAb (wAb (wAa (jp rfl (js rfl (fun h60 => ?_) (fun h60 => ?_))))))))))))))))))
    ·refine jp rfl (sFa rfl ?_)
     refine sFL rfl rfl ?_
     refine jp rfl (js rfl (fun h66 => ?_) (fun h66 => ?_))
     ·iterate 8 refine jp rfl ?_
      refine wAc (jT (wAg rfl (wAb (wAa (wAi rfl rfl (wAq (cs := [_, _, _, _, _, _, _, _, _]) rfl rfl rfl (by rfl)) ?_)))))
      refine sSt rfl ?_
      refine wAc (jT (wAe (jTr (wCd (rs := [_]) ([(cb, .cells (wHy bv wv nv lw pb m rest).toArray TCn (0, 0)), (m, wDk l)]) (by first | exact .refl _ | exact .cons _ (.refl _) | exact .cons _ (.cons _ (.refl _)) | exact .cons _ (.cons _ (.cons _ (.refl _))) | exact .cons _ (.cons _ (.cons _ (.cons _ (.refl _)))) | exact .cons _ (.cons _ (.cons _ (.cons _ (.cons _ (.refl _))))) | exact .cons_cons _ (.cons_cons _ (List.nil_sublist _))) rfl (.cons (.agg rfl rfl rfl) .nil) ?_))))
      exact ⟨l, rfl, hmi, Ext.refl _, by unfold LrP; rw [lrn_bad hnd ⟨h60, .inl h66⟩]; rfl⟩
     ·refine jp rfl (sFa rfl ?_)
      refine sFL rfl rfl ?_
      refine wAi rfl rfl (wBq rfl rfl rfl) ?_
      refine js rfl (fun h72 => ?_) (fun h72 => ?_)
      ·refine jp rfl (jp rfl (wAc (jT (wAg rfl (wAb (wAa (wAi rfl rfl (wAq (cs := [_, _, _, _, _, _, _, _, _]) rfl rfl rfl (by rfl)) ?_)))))))
       refine sSt rfl ?_
       refine wAc (jT (wAe (jTr (wCd (rs := [_]) ([(cb, .cells (wHy bv wv nv lw pb m rest).toArray TCn (0, 0)), (m, wDk l)]) (by first | exact .refl _ | exact .cons _ (.refl _) | exact .cons _ (.cons _ (.refl _)) | exact .cons _ (.cons _ (.cons _ (.refl _))) | exact .cons _ (.cons _ (.cons _ (.cons _ (.refl _)))) | exact .cons _ (.cons _ (.cons _ (.cons _ (.cons _ (.refl _))))) | exact .cons_cons _ (.cons_cons _ (List.nil_sublist _))) rfl (.cons (.agg rfl rfl rfl) .nil) ?_))))
       exact ⟨l, rfl, hmi, Ext.refl _, by unfold LrP; rw [lrn_bad hnd ⟨h60, .inr (List.eq_nil_of_length_eq_zero (by omega))⟩]; rfl⟩
      ·refine jp rfl (jp rfl (wAc (jT (wAj rfl (wAd (jT (wAb (wAa (sLL rfl ?_)))))))))
       refine sSt rfl ?_
       refine wAc (jT (wAe (wCd (rs := [_]) ([(cb, .cells (wHy bv wv nv lw pb m rest).toArray TCn (0, 0)), (m, wDk l)]) (by first | exact .refl _ | exact .cons _ (.refl _) | exact .cons _ (.cons _ (.refl _)) | exact .cons _ (.cons _ (.cons _ (.refl _))) | exact .cons _ (.cons _ (.cons _ (.cons _ (.refl _)))) | exact .cons _ (.cons _ (.cons _ (.cons _ (.cons _ (.refl _))))) | exact .cons_cons _ (.cons_cons _ (List.nil_sublist _))) rfl (.cons (.agg rfl rfl rfl) .nil) ?_)))
       exact ⟨l, rfl, hmi, Ext.refl _, by unfold LrP; rw [wLo ⟨hk8, hk256⟩ hnd (fun h => h.2.elim (fun e => h66 e) (fun e => h72 (by rw [e]; rfl)))]; exact ⟨_, hsl, rfl, h25⟩⟩
    ·iterate 14 refine jp rfl ?_
     refine wAc (jT (wAj rfl (wAd (jT (wAb (wAa (sLL rfl ?_)))))))
     refine sSt rfl ?_
     refine wAc (jT (wAe (wCd (rs := [_]) ([(cb, .cells (wHy bv wv nv lw pb m rest).toArray TCn (0, 0)), (m, wDk l)]) (by first | exact .refl _ | exact .cons _ (.refl _) | exact .cons _ (.cons _ (.refl _)) | exact .cons _ (.cons _ (.cons _ (.refl _))) | exact .cons _ (.cons _ (.cons _ (.cons _ (.refl _)))) | exact .cons _ (.cons _ (.cons _ (.cons _ (.cons _ (.refl _))))) | exact .cons_cons _ (.cons_cons _ (List.nil_sublist _))) rfl (.cons (.agg rfl rfl rfl) .nil) ?_)))
     exact ⟨l, rfl, hmi, Ext.refl _, by unfold LrP; rw [wLo ⟨hk8, hk256⟩ hnd (fun h => h60 h.1)]; exact ⟨_, hsl, rfl, h25⟩⟩
   ·have hv : wHr k l = none := Option.not_isSome_iff_eq_none.1 (by rw [h25]; decide)
    rw [hv]
    refine sSt rfl ?_
    refine jp rfl (wAc (jT (wAb (wAb (wAa (jp rfl (jp rfl (wAc (jT (wAg rfl (wAb (wAa (jp rfl (wAi rfl rfl (wAx rfl rfl rfl) ?_))))))))))))))
    refine sFL rfl rfl ?_
    refine jp rfl ?_
    obtain ⟨kn, rfl⟩ : ∃ n : Nat, k = (n : Int) := ⟨k.toNat, by omega⟩
    have hbpn := hcn.bn
    refine wAw rfl rfl (wAn rfl rfl rfl rfl rfl (by kernel_rfl) (wHo s kn pb M hst (by omega) hcn.bn)) ?_; rintro _ M1 _ ⟨hM1, _, rfl, ⟨hbn, rfl⟩⟩
    simp only [nA]
    obtain ⟨nl, ya, yn, yc, e, rfl, hbn2⟩ := BnPost.form hbn
    refine jp rfl (jp rfl (jp rfl (sAl rfl fun b8 => ?_)))
    refine sSt rfl ?_
    refine jp rfl (wAc (jT (wAb (wAb (wAa (jp rfl (js rfl (fun h38 => ?_) (fun h38 => ?_))))))))
    ·iterate 10 refine jp rfl ?_
     refine wAc (jT (wAg rfl (wAb (wAa (wAi rfl rfl (wAq (cs := [_, _, _, _, _, _, _, _, _]) rfl rfl rfl (by rfl)) ?_)))))
     refine sSt rfl ?_
     refine wAc (jT (wAe (jTr (jTr (wCd (rs := [_]) ([(cb, .cells (wHy bv wv nv lw pb m rest).toArray TCn (0, 0)), (m, wDk l)]) (by first | exact .refl _ | exact .cons _ (.refl _) | exact .cons _ (.cons _ (.refl _)) | exact .cons _ (.cons _ (.cons _ (.refl _))) | exact .cons _ (.cons _ (.cons _ (.cons _ (.refl _)))) | exact .cons _ (.cons _ (.cons _ (.cons _ (.cons _ (.refl _))))) | exact .cons_cons _ (.cons_cons _ (List.nil_sublist _))) rfl (.cons (.agg rfl rfl rfl) .nil) ?_)))))
     obtain ⟨_, hnd⟩ | ⟨he, _⟩ := hbn2
     ·exact ⟨l, rfl, hmi.mono hM1, Ext.refl _, by unfold LrP; rw [lrn_none (show wCa s ((kn : Int)).toNat = none from hnd)]; rfl⟩
     ·omega
    ·refine jp rfl (jp rfl (js rfl (fun h41 => ?_) (fun h41 => ?_)))
     ·refine jp rfl (sFL rfl rfl ?_)
      refine jp rfl (js rfl (fun h46 => ?_) (fun h46 => ?_))
      ·refine jp rfl (jp rfl (wAc (jT (wAg rfl (wAb (wAa (wAi rfl rfl (wAq (cs := [_, _, _, _, _, _, _, _, _]) rfl rfl rfl (by rfl)) ?_)))))))
       refine sSt rfl ?_
       refine wAc (jT (wAe (jTr (jTr (wCd (rs := [_]) ([(cb, .cells (wHy bv wv nv lw pb m rest).toArray TCn (0, 0)), (m, wDk l)]) (by first | exact .refl _ | exact .cons _ (.refl _) | exact .cons _ (.cons _ (.refl _)) | exact .cons _ (.cons _ (.cons _ (.refl _))) | exact .cons _ (.cons _ (.cons _ (.cons _ (.refl _)))) | exact .cons _ (.cons _ (.cons _ (.cons _ (.cons _ (.refl _))))) | exact .cons_cons _ (.cons_cons _ (List.nil_sublist _))) rfl (.cons (.agg rfl rfl rfl) .nil) ?_)))))
       obtain ⟨he, _⟩ | ⟨_, ys, hnd, _, _⟩ := hbn2
       ·omega
       ·exact ⟨l, rfl, hmi.mono hM1, Ext.refl _, by unfold LrP; rw [lrn_bad (show wCa s ((kn : Int)).toNat = _ from hnd) ⟨h41, .inl h46⟩]; rfl⟩
      ·refine jp rfl (jp rfl (wAc (jT (wAj rfl (wAd (jT (wAb (wAa (jp rfl (sLL rfl ?_))))))))))
       obtain ⟨_, hnd⟩ | ⟨rfl, ys, hnd, rfl, hys⟩ := hbn2
       ·omega
       have hno := wCe hnd
       refine wAw rfl rfl (wAn rfl rfl rfl rfl rfl (by kernel_rfl) (hrd nl (by intro h; omega) ys _ M1 l (hcn.mono hM1) (hmi.mono hM1) hys hno)) ?_; rintro _ M2 _ ⟨hM2, _, rfl, ⟨l2, rfl, hmi2, hext2, rfl, hkd⟩⟩
       simp only [List.cons_append, List.nil_append]
       have hput := hmi2.put (k := (kn : Int)) ⟨by omega, by omega⟩ hnd (hys.mono hM2) hkd
       refine sSt rfl ?_
       refine wAc (jT (wBn [(0, true), (1, true), (2, true), (3, true), (4, true), (5, true), (6, false)] [(b6, .cells (snc nl (.slice ya ys.length yc) (wGb s nl ys)).toArray TSp (0, 0)), (cb, .cells (wHy bv wv nv lw pb m rest).toArray TCn (0, 0))] (by kernel_rfl) (by kernel_rfl) (by kernel_rfl) rfl (by simp) ?_))
       refine dp rfl rfl ?_
       refine wBi rfl rfl rfl (wAx rfl rfl rfl) ?_
       refine dFa rfl rfl ?_
       refine dLd rfl rfl ?_
       refine dp rfl rfl ?_
       refine dLL rfl rfl ?_
       refine jd_s rfl rfl (hMapPutV rfl (.inl rfl) rfl rfl rfl) ?_; rintro _ _ _ ⟨rfl, rfl⟩
       refine ⟨_, _, MLe.refl _, MLe.refl _, fun _ h => h, by simp, ?_⟩
       refine wBg (jPn (jT (wAb (wAb (wAa (jp rfl (js rfl (fun h60 => ?_) (fun h60 => ?_))))))))
       ·refine jp rfl (sFa rfl ?_)
        refine sFL rfl rfl ?_
        refine jp rfl (js rfl (fun h66 => ?_) (fun h66 => ?_))
        ·exfalso; omega
        ·refine jp rfl (sFa rfl ?_)
         refine sFL rfl rfl ?_
         refine wAi rfl rfl (wBq rfl rfl rfl) ?_
         refine js rfl (fun h72 => ?_) (fun h72 => ?_)
         ·refine jp rfl (jp rfl (wAc (jT (wAg rfl (wAb (wAa (wAi rfl rfl (wAq (cs := [_, _, _, _, _, _, _, _, _]) rfl rfl rfl (by rfl)) ?_)))))))
          refine sSt rfl ?_
          refine wAc (jT (wAe (jTr (wCd (rs := [_]) ([(cb, .cells (wHy bv wv nv lw pb m rest).toArray TCn (0, 0)), (m, wDk (putV (kn : Int) (.agg (snc nl (.slice ya ys.length yc) (wGb s nl ys)).toArray) l2))]) (by first | exact .refl _ | exact .cons _ (.refl _) | exact .cons _ (.cons _ (.refl _)) | exact .cons _ (.cons _ (.cons _ (.refl _))) | exact .cons _ (.cons _ (.cons _ (.cons _ (.refl _)))) | exact .cons _ (.cons _ (.cons _ (.cons _ (.cons _ (.refl _))))) | exact .cons_cons _ (.cons_cons _ (List.nil_sublist _))) rfl (.cons (.agg rfl rfl rfl) .nil) ?_))))
          exact ⟨_, rfl, hput, (hext2.trans ext_put), by unfold LrP; rw [lrn_bad (show wCa s ((kn : Int)).toNat = _ from hnd) ⟨h41, .inr (List.eq_nil_of_length_eq_zero (by omega))⟩]; rfl⟩
         ·refine jp rfl (jp rfl (wAc (jT (wAj rfl (wAd (jT (wAb (wAa (sLL rfl ?_)))))))))
          refine sSt rfl ?_
          refine wAc (jT (wAe (wCd (rs := [_]) ([(cb, .cells (wHy bv wv nv lw pb m rest).toArray TCn (0, 0)), (m, wDk (putV (kn : Int) (.agg (snc nl (.slice ya ys.length yc) (wGb s nl ys)).toArray) l2))]) (by first | exact .refl _ | exact .cons _ (.refl _) | exact .cons _ (.cons _ (.refl _)) | exact .cons _ (.cons _ (.cons _ (.refl _))) | exact .cons _ (.cons _ (.cons _ (.cons _ (.refl _)))) | exact .cons _ (.cons _ (.cons _ (.cons _ (.cons _ (.refl _))))) | exact .cons_cons _ (.cons_cons _ (List.nil_sublist _))) rfl (.cons (.agg rfl rfl rfl) .nil) ?_)))
          exact ⟨_, rfl, hput, (hext2.trans ext_put), by unfold LrP; rw [wLo ⟨by omega, by omega⟩ (show wCa s ((kn : Int)).toNat = _ from hnd) (fun h => h.2.elim (fun e => h66 e) (fun e => h72 (by rw [e]; rfl)))]; exact ⟨_, hys.mono hM2, rfl, by rw [wKh, if_pos rfl]; rfl⟩⟩
       ·exfalso; omega
     ·iterate 7 refine jp rfl ?_
      refine wAc (jT (wAj rfl (wAd (jT (wAb (wAa (jp rfl (sLL rfl ?_))))))))
      obtain ⟨_, hnd⟩ | ⟨rfl, ys, hnd, rfl, hys⟩ := hbn2
      ·omega
      have hno := wCe hnd
      refine wAw rfl rfl (wAn rfl rfl rfl rfl rfl (by kernel_rfl) (hrd nl (by intro h; omega) ys _ M1 l (hcn.mono hM1) (hmi.mono hM1) hys hno)) ?_; rintro _ M2 _ ⟨hM2, _, rfl, ⟨l2, rfl, hmi2, hext2, rfl, hkd⟩⟩
      simp only [List.cons_append, List.nil_append]
      have hput := hmi2.put (k := (kn : Int)) ⟨by omega, by omega⟩ hnd (hys.mono hM2) hkd
      refine sSt rfl ?_
      refine wAc (jT (wBn [(0, true), (1, true), (2, true), (3, true), (4, true), (5, true), (6, false)] [(b6, .cells (snc nl (.slice ya ys.length yc) (wGb s nl ys)).toArray TSp (0, 0)), (cb, .cells (wHy bv wv nv lw pb m rest).toArray TCn (0, 0))] (by kernel_rfl) (by kernel_rfl) (by kernel_rfl) rfl (by simp) ?_))
      refine dp rfl rfl ?_
      refine wBi rfl rfl rfl (wAx rfl rfl rfl) ?_
      refine dFa rfl rfl ?_
      refine dLd rfl rfl ?_
      refine dp rfl rfl ?_
      refine dLL rfl rfl ?_
      refine jd_s rfl rfl (hMapPutV rfl (.inl rfl) rfl rfl rfl) ?_; rintro _ _ _ ⟨rfl, rfl⟩
      refine ⟨_, _, MLe.refl _, MLe.refl _, fun _ h => h, by simp, ?_⟩
      refine wBg (jPn (jT (wAb (wAb (wAa (jp rfl (js rfl (fun h60 => ?_) (fun h60 => ?_))))))))
      ·exfalso; omega
      ·iterate 14 refine jp rfl ?_
       refine wAc (jT (wAj rfl (wAd (jT (wAb (wAa (sLL rfl ?_)))))))
       refine sSt rfl ?_
       refine wAc (jT (wAe (wCd (rs := [_]) ([(cb, .cells (wHy bv wv nv lw pb m rest).toArray TCn (0, 0)), (m, wDk (putV (kn : Int) (.agg (snc nl (.slice ya ys.length yc) (wGb s nl ys)).toArray) l2))]) (by first | exact .refl _ | exact .cons _ (.refl _) | exact .cons _ (.cons _ (.refl _)) | exact .cons _ (.cons _ (.cons _ (.refl _))) | exact .cons _ (.cons _ (.cons _ (.cons _ (.refl _)))) | exact .cons _ (.cons _ (.cons _ (.cons _ (.cons _ (.refl _))))) | exact .cons_cons _ (.cons_cons _ (List.nil_sublist _))) rfl (.cons (.agg rfl rfl rfl) .nil) ?_)))
       exact ⟨_, rfl, hput, (hext2.trans ext_put), by unfold LrP; rw [wLo ⟨by omega, by omega⟩ (show wCa s ((kn : Int)).toNat = _ from hnd) (fun h => h41 h.1)]; exact ⟨_, hys.mono hM2, rfl, by rw [wKh, if_pos rfl]; rfl⟩⟩
theorem cen_learn (s : Sto) (hst : wCp s) (cb m : Nat) (bv wv nv lw pb : Value) (rest : List Value) (level : Int) (hrd : ∀ lv : Int, (0 ≤ level → lv = level) → 0 ≤ lv → CenRead s cb m bv wv nv lw pb rest lv) : CenLearn s cb m bv wv nv lw pb rest level := fun k M l hcn hmi =>
 learn_walk s hst cb m bv wv nv lw pb rest level (fun lv h xs sl M l h1 h2 h3 h4 => hrd lv h h4.lev.1 xs sl M l h1 h2 h3 h4) k M l hcn hmi
theorem cen_read (s : Sto) (hst : wCp s) (cb m : Nat) (bv wv nv lw pb : Value) (rest : List Value) : ∀ l : Nat, CenRead s cb m bv wv nv lw pb rest (l : Int)
 | 0 => cen_leaf s hst cb m bv wv nv lw pb rest
 | l + 1 => cen_node s hst cb m bv wv nv lw pb rest l (cen_learn s hst cb m bv wv nv lw pb rest (l : Int) fun lv h _ => by rw [h (by omega)]; exact cen_read s hst cb m bv wv nv lw pb rest l)
theorem learn_spec (s : Sto) (hst : wCp s) (cb m : Nat) (bv wv nv lw pb : Value) (rest : List Value) (level : Int) : CenLearn s cb m bv wv nv lw pb rest level :=
 cen_learn s hst cb m bv wv nv lw pb rest level fun lv _ h => by
  obtain ⟨n, rfl⟩ : ∃ n : Nat, lv = n := ⟨lv.toNat, by omega⟩
  exact cen_read s hst cb m bv wv nv lw pb rest n
instance (priority := low) Pick.both {R S L L1 L2 : Lc} [h : Pick R L L1] [h2 : Pick S L1 L2] : Pick (R ++ S) L L2 := ⟨h.perm.trans ((List.Perm.append_left R h2.perm).trans (by rw [List.append_assoc]))⟩
abbrev TV : TypeId := 63
abbrev wGs (bv wv nv lw pb : Value) (m : Nat) (refs nodes : List Int) (vs : Value) : List Value := wHy bv wv nv lw pb m (wBj refs ++ (wBj nodes ++ [vs]))
theorem wBm (xs : List Int) : (wBj xs).length = xs.length := by simp [wBj]
section
variable {bv wv nv lw pb vs : Value} {m : Nat} {refs nodes : List Int}
theorem wLa (h1 : refs.length = 256) (h2 : nodes.length = 256) : (wGs bv wv nv lw pb m refs nodes vs).length = 519 := by simp [wBm, h1, h2]
theorem six_get {a b c d e f : Value} {r : List Value} {i j : Nat} (h : j = 6 + i) : (a :: b :: c :: d :: e :: f :: r)[j]? = r[i]? := by subst h; rw [show 6 + i = i + 6 by omega]; rfl
theorem cen_ref (h1 : refs.length = 256) {i j : Nat} (hi : i < 256) (hj : j = 6 + i) : (wGs bv wv nv lw pb m refs nodes vs)[j]? = some (.int .i64 (refs.getD i 0)) := by
 rw [six_get hj, List.getElem?_append_left (by rw [wBm]; omega)]; simp [wBj, List.getD, h1, hi]
theorem cen_nod (h1 : refs.length = 256) (h2 : nodes.length = 256) {i j : Nat} (hi : i < 256) (hj : j = 262 + i) : (wGs bv wv nv lw pb m refs nodes vs)[j]? = some (.int .i64 (nodes.getD i 0)) := by
 rw [six_get (show j = 6 + (256 + i) by omega), List.getElem?_append_right (by rw [wBm]; omega), wBm, show 256 + i - refs.length = i by omega, List.getElem?_append_left (by rw [wBm]; omega)]; simp [wBj, List.getD, h2, hi]
theorem cen_vol (h1 : refs.length = 256) (h2 : nodes.length = 256) : (wGs bv wv nv lw pb m refs nodes vs)[518]? = some vs := by
 rw [six_get (show 518 = 6 + 512 by omega), List.getElem?_append_right (by rw [wBm]; omega), wBm, List.getElem?_append_right (by rw [wBm]; omega), wBm, h1, h2]; rfl
theorem take_set {xs : List Value} {i : Nat} {v : Value} (h : i < xs.length) : xs.take i ++ [v] ++ xs.drop (i + 1) = xs.set i v := by
 rw [List.set_eq_take_append_cons_drop, if_pos h]; simp
theorem six_set {a b c d e f v : Value} {r : List Value} {i j : Nat} (h : j = 6 + i) : (a :: b :: c :: d :: e :: f :: r).set j v = a :: b :: c :: d :: e :: f :: r.set i v := by subst h; rw [show 6 + i = i + 6 by omega]; rfl
theorem cen_setr (h1 : refs.length = 256) (h2 : nodes.length = 256) {i j : Nat} {v : Int} (hi : i < 256) (hj : j = 6 + i) : (wGs bv wv nv lw pb m refs nodes vs).take j ++ [.int .i64 v] ++ (wGs bv wv nv lw pb m refs nodes vs).drop (j + 1) = wGs bv wv nv lw pb m (refs.set i v) nodes vs := by
 rw [take_set (by rw [wLa h1 h2]; omega), six_set hj, List.set_append_left _ _ (by rw [wBm]; omega)]; simp [wBj, List.map_set]
theorem cen_setn (h1 : refs.length = 256) (h2 : nodes.length = 256) {i j : Nat} {v : Int} (hi : i < 256) (hj : j = 262 + i) : (wGs bv wv nv lw pb m refs nodes vs).take j ++ [.int .i64 v] ++ (wGs bv wv nv lw pb m refs nodes vs).drop (j + 1) = wGs bv wv nv lw pb m refs (nodes.set i v) vs := by
 rw [take_set (by rw [wLa h1 h2]; omega), six_set (show j = 6 + (256 + i) by omega), List.set_append_right _ _ (by rw [wBm]; omega), wBm, show 256 + i - refs.length = i by omega, List.set_append_left _ _ (by rw [wBm]; omega)]; simp [wBj, List.map_set]
theorem cen_setv (h1 : refs.length = 256) (h2 : nodes.length = 256) {v : Value} : (wGs bv wv nv lw pb m refs nodes vs).take 518 ++ [v] ++ (wGs bv wv nv lw pb m refs nodes vs).drop (518 + 1) = wGs bv wv nv lw pb m refs nodes v := by
 rw [take_set (by rw [wLa h1 h2]; omega), six_set (show 518 = 6 + 512 by omega), List.set_append_right _ _ (by rw [wBm]; omega), wBm, List.set_append_right _ _ (by rw [wBm]; omega), wBm, h1, h2]; rfl
end
section
variable {P : Program} {ops : Array Oper} {N : Fs} {F : Fr} {E : Ent} {M : Mem} {L : Lc} {o : Oper}
theorem hSt1 {t e : TypeId} {x y : Operand} {b off by_ : Nat} {u : Value} {l l2 : List Value} {L' : Lc} {z : List Value} (hg : gd ops F o = some true) (ho : o.op = .store t x y) (hx : ev F x = some (.pointer (some ⟨b, off, none⟩))) (hy : ev F y = some u)
  [hl : Lay P t 1 by_ z] (hc : u.cells = #[u]) (h1 : u.oneCell' = true) [at_ : At b (.cells l.toArray e (0, 0)) L] (hfit : off < l.length) (h2 : l.take off ++ [u] ++ l.drop (off + 1) = l2)
  [hp : PutAt b (.cells l.toArray e (0, 0)) (.cells l2.toArray e (0, 0)) L L'] : HF P ops N F E M L o (fun _ M' L'' => M = M' ∧ L'' = L') := by
 subst h2
 exact hStore (hp := hp) hg ho hx hy hc rfl (fun v hv => by rw [List.mem_singleton.1 hv]; exact h1) (by show off + 1 ≤ _; omega)
end
def okV (x : It) (next : Int) (n : Nat) : Prop := wKk x ∧ x.key.id ≠ 0 ∧ x.key.id < next ∧ n ≠ 16
instance (x : It) (next : Int) (n : Nat) : Decidable (okV x next n) := by unfold okV; exact inferInstance
def wCu (f : It → List Vo → Option (List Vo)) : List It → List Vo → Option (List Vo)
 | [], acc => some acc
 | x :: xs, acc => match f x acc with
  | some acc' => wCu f xs acc'
  | none => none
def vol1 (next : Int) (x : It) (acc : List Vo) : Option (List Vo) := if okV x next acc.length then some (acc ++ [wJb x]) else none
def wEr (s : Sto) (next : Int) : Nat → List It → List Vo → Option (List Vo)
 | 0 => wCu (vol1 next)
 | l + 1 => wCu (fun x acc => wEr s next l (kid s x) acc)
theorem volsGo_on {f : It → List Vo → Option (List Vo)} {xs : List It} {k : Nat} {acc acc' : List Vo} (hk : k < xs.length) (h : f xs[k] acc = some acc') : wCu f (xs.drop k) acc = wCu f (xs.drop (k + 1)) acc' := by
 rw [List.drop_eq_getElem_cons hk, wCu, h]
theorem wGt {f : It → List Vo → Option (List Vo)} {xs : List It} {k : Nat} {acc : List Vo} (hk : k < xs.length) (h : f xs[k] acc = none) : wCu f (xs.drop k) acc = none := by
 rw [List.drop_eq_getElem_cons hk, wCu, h]
theorem volsGo_end {f : It → List Vo → Option (List Vo)} {xs : List It} {k : Nat} {acc : List Vo} (hk : k = xs.length) : wCu f (xs.drop k) acc = some acc := by
 rw [List.drop_eq_nil_of_le (by omega), wCu]
abbrev poc (bv wv nv lw : Value) (gen root next : Int) (dv : Value) : List Value := [bv, wv, nv, lw, .int .u32 gen, .int .i64 root, .int .u32 next, dv]
def Good (s : Sto) (l : List (Int × Value)) (k : Int) : Prop := 8 ≤ k ∧ k < 256 ∧ (wHr k l).isSome = true ∧ ∃ lv xs, wCa s k.toNat = some (lv, xs) ∧ (wGb s lv xs).is = true
theorem Good.get {M : Mem} {s : Sto} {l : List (Int × Value)} {k : Int} (h : Good s l k) (hm : MapI M s l) : ∃ lv xs a c p, wCa s k.toNat = some (lv, xs) ∧ (wGb s lv xs).is = true ∧ NS M (.slice a xs.length c) xs ∧ wHr k l = some (.agg (snc lv (.slice a xs.length c) p).toArray) := by
 obtain ⟨h1, h2, h3, lv, xs, h4, h5⟩ := h
 obtain ⟨v, hv⟩ := Option.isSome_iff_exists.1 h3
 obtain ⟨_, _, lv2, xs2, sl, h6, h7, rfl⟩ := hm.ent k v hv
 rw [h4] at h6; cases h6
 obtain ⟨a, c, ps, rfl, _⟩ := id h7
 exact ⟨lv, xs, a, c, _, h4, h5, h7, hv⟩
theorem rd_kid {s : Sto} {lv : Int} {xs : List It} (hno : NdOk lv xs) (h : (wGb s lv xs).is = true) (h0 : 0 < lv) {x : It} (hx : x ∈ xs) : (8 ≤ x.ref ∧ x.ref < 256) ∧ ∃ ys, wCa s x.ref.toNat = some (lv - 1, ys) ∧ ys ≠ [] ∧ (wGb s (lv - 1) ys).is = true := by
 have hne : xs ≠ [] := List.ne_nil_of_mem hx
 unfold wGb at h
 rw [if_neg hne] at h
 obtain ⟨n, rfl⟩ : ∃ n : Nat, lv = ((n + 1 : Nat) : Int) := ⟨(lv - 1).toNat, by omega⟩
 rw [Int.toNat_natCast] at h
 have h1 := (goSp_all h x hx).1
 obtain ⟨ys, h2, h3, h4⟩ := one_up h1
 have hr := hno.ref x hx
 have hu := hno.up h0 x hx
 refine ⟨by omega, ys, by rw [h2]; congr 2; omega, h3, ?_⟩
 unfold wGb
 rw [if_neg h3, show (((n + 1 : Nat) : Int) - 1).toNat = n by omega, ← h4]; exact h1
theorem Good.kid {M : Mem} {s : Sto} {l : List (Int × Value)} {k lv : Int} {xs : List It} (h : Good s l k) (hm : MapI M s l) (hnd : wCa s k.toNat = some (lv, xs)) (h0 : 0 < lv) {x : It} (hx : x ∈ xs) : Good s l x.ref := by
 obtain ⟨h1, h2, h3, lv2, xs2, h4, h5⟩ := h
 rw [hnd] at h4; cases h4
 obtain ⟨h6, ys, h7, _, h8⟩ := rd_kid (wCe hnd) h5 h0 hx
 exact ⟨h6.1, h6.2, hm.kid k lv xs h3 hnd h5 h0 x hx, _, ys, h7, h8⟩
def VolsP (s : Sto) (cb m : Nat) (bv wv nv lw pb : Value) (refs nodes : List Int) (l : List (Int × Value)) (r : Option (List Vo)) (u : Value) (L' : Lc) : Prop := match r with
 | none => u = .int .i64 8 ∧ L' = []
 | some acc => u = .int .i64 0 ∧ ∃ vs Rv, L' = Rv ++ [(cb, .cells (wGs bv wv nv lw pb m refs nodes vs).toArray TCn (0, 0)), (m, wDk l)] ∧ Own vs Rv TV 4 acc.length (acc.flatMap voc)
def CenVols (s : Sto) (cb m : Nat) (bv wv nv lw pb : Value) (refs nodes : List Int) (l : List (Int × Value)) (pv : List Value) (next : Int) (lv : Nat) : Prop := ∀ (xs : List It) (sl : Value) (acc : List Vo) (vs : Value) (Rv : Lc) (M : Mem), MapI M s l → NS M sl xs → NdOk (lv : Int) xs → (0 < lv → ∀ x ∈ xs, Good s l x.ref ∧ ∃ ys, wCa s x.ref.toNat = some ((lv : Int) - 1, ys)) → Own vs Rv TV 4 acc.length (acc.flatMap voc) → acc.length ≤ 16 →
 SpecL Tryz.prog 73 #[.pointer (some ⟨cb, 0, none⟩), .agg pv.toArray, .agg #[.int .i64 lv, sl]] M (Rv ++ [(cb, .cells (wGs bv wv nv lw pb m refs nodes vs).toArray TCn (0, 0)), (m, wDk l)])
  fun u M' L' => VolsP s cb m bv wv nv lw pb refs nodes l (wEr s next lv xs acc) u L'
theorem VolsP.form {s : Sto} {cb m : Nat} {bv wv nv lw pb : Value} {refs nodes : List Int} {l : List (Int × Value)} {r : Option (List Vo)} {u : Value} {L' : Lc} (h : VolsP s cb m bv wv nv lw pb refs nodes l r u L') : ∃ e, u = .int .i64 e ∧ ((e = 8 ∧ r = none ∧ L' = []) ∨ (e = 0 ∧ ∃ acc vs Rv, r = some acc ∧ L' = Rv ++ [(cb, .cells (wGs bv wv nv lw pb m refs nodes vs).toArray TCn (0, 0)), (m, wDk l)] ∧ Own vs Rv TV 4 acc.length (acc.flatMap voc))) := by
 unfold VolsP at h
 split at h
 ·exact ⟨8, h.1, .inl ⟨rfl, rfl, h.2⟩⟩
 ·rename_i acc
  obtain ⟨h1, vs, Rv, h2, h3⟩ := h
  exact ⟨0, h1, .inr ⟨rfl, acc, vs, Rv, rfl, h2, h3⟩⟩
theorem kid_eq {s : Sto} {x : It} {lv : Int} {ys : List It} (h : wCa s x.ref.toNat = some (lv, ys)) : kid s x = ys := by unfold kid; rw [h]
theorem volsGo_le {f : It → List Vo → Option (List Vo)} (hf : ∀ x acc acc', f x acc = some acc' → acc.length ≤ 16 → acc'.length ≤ 16) : ∀ (xs : List It) (acc acc' : List Vo), wCu f xs acc = some acc' → acc.length ≤ 16 → acc'.length ≤ 16
 | [], acc, acc', h, hl => by cases h; exact hl
 | x :: xs, acc, acc', h, hl => by
  unfold wCu at h
  split at h
  ·rename_i b hb; exact volsGo_le hf xs b acc' h (hf x acc b hb hl)
  ·cases h
theorem volsL_le {s : Sto} {next : Int} : ∀ (l : Nat) (xs : List It) (acc acc' : List Vo), wEr s next l xs acc = some acc' → acc.length ≤ 16 → acc'.length ≤ 16
 | 0 => volsGo_le fun x acc acc' h hl => by
  unfold vol1 at h
  split at h
  ·rename_i hk; cases h; have := hk.2.2.2; rw [List.length_append, List.length_cons, List.length_nil]; omega
  ·cases h
 | l + 1 => volsGo_le fun x acc acc' h hl => volsL_le l _ acc acc' h hl
set_option maxHeartbeats 4000000 in
theorem vols_leaf (s : Sto) (cb m : Nat) (bv wv nv lw pb : Value) (refs nodes : List Int) (hr1 : refs.length = 256) (hn1 : nodes.length = 256) (l : List (Int × Value)) (pb0 pw0 pn0 pl0 : Value) (gen root next : Int) (dv : Value) (xs : List It) (a : Option Addr) (c : Nat) (ps : List (It × Value)) (acc0 : List Vo) (vs0 : Value) (Rv0 : Lc) (M : Mem) (hmi : MapI M s l) (hc : xs.length ≤ c) (hs : SM M a (ps.flatMap wBc)) (hp : ps.map (·.1) = xs) (hb : ∀ p ∈ ps, BS M p.2 p.1.val) (hno : NdOk ((0 : Nat) : Int) xs) (hown0 : Own vs0 Rv0 TV 4 acc0.length (acc0.flatMap voc)) (hacc0 : acc0.length ≤ 16) :
  SpecL Tryz.prog 73 #[.pointer (some ⟨cb, 0, none⟩), .agg (poc pb0 pw0 pn0 pl0 gen root next dv).toArray, .agg #[.int .i64 ((0 : Nat) : Int), .slice a xs.length c]] M (Rv0 ++ [(cb, .cells (wGs bv wv nv lw pb m refs nodes vs0).toArray TCn (0, 0)), (m, wDk l)]) fun u M' L' => VolsP s cb m bv wv nv lw pb refs nodes l (wEr s next 0 xs acc0) u L' := by
 have hlv := hno.lev
 have hlen := hno.len
 refine wAf (vs := [_, _, _]) 74 _ Tryz.func73 rfl Tryz.ntmps73 rfl rfl ?_; intro W
 refine wAb (wAa (wAw rfl rfl (wCb (cs := [_, _, _, _, _, _, _, _]) rfl rfl rfl rfl) ?_)); rintro _ _ _ ⟨b4, rfl, rfl, rfl⟩
 refine wAw rfl rfl (wCb (cs := [_, _]) rfl rfl rfl rfl) ?_; rintro _ _ _ ⟨b5, rfl, rfl, rfl⟩
 refine jp rfl (wAc (jT (wAb (wAb (wAa (sFL rfl rfl ?_))))))
 refine wAi rfl rfl (wBq rfl rfl rfl) ?_
 refine jp rfl (wAc (jT (wAh ?_)))
 refine wAr (α := Nat × Mem × List Vo × Value × Lc) (fun x => [(0, .pointer (some ⟨cb, 0, none⟩)), (4, .pointer (some ⟨b4, 0, none⟩)), (5, .pointer (some ⟨b5, 0, none⟩)), (13, .slice a xs.length c), (14, .int .i64 xs.length), (15, .int .i64 x.1)]) (fun x => x.2.1) (fun x => ([(b5, .cells [.int .i64 ((0 : Nat) : Int), .slice a xs.length c].toArray TNd (0, 0)), (b4, .cells (poc pb0 pw0 pn0 pl0 gen root next dv).toArray 32 (0, 0))] ++ (x.2.2.2.2 ++ [(cb, .cells (wGs bv wv nv lw pb m refs nodes x.2.2.2.1).toArray TCn (0, 0)), (m, wDk l)]))) (fun x => x.1 ≤ xs.length ∧ MLe M x.2.1 ∧ wCu (vol1 next) xs acc0 = wCu (vol1 next) (xs.drop x.1) x.2.2.1 ∧ Own x.2.2.2.1 x.2.2.2.2 TV 4 x.2.2.1.length (x.2.2.1.flatMap voc) ∧ x.2.2.1.length ≤ 16) (fun x => xs.length - x.1)
  (0, M, acc0, vs0, Rv0) (.cons (t := 0) rfl (.cons (t := 4) rfl (.cons (t := 5) rfl (.cons (t := 13) rfl (.cons (t := 14) rfl (.cons (t := 15) rfl .nil)))))) ⟨Nat.zero_le _, MLe.refl _, rfl, hown0, hacc0⟩ (fun _ h => h) ?_
 rintro ⟨k, Mk, acc, vs, Rv⟩ ⟨hk, hMk, hI, hown, hacc⟩
 try dsimp only at hk hMk hI hown hacc ⊢
 simp only [List.cons_append, List.nil_append]
 have hsk := hs.mono hMk
 have hbk := fun p hp => (hb p hp).mono hMk
 refine wAb (wAa (js rfl (fun h16 => ?_) (fun h16 => ?_)))
 ·refine wAc (jT (wAb (wAg rfl (wAd (jT (wAb (wAh (wAb (wAa ?_)))))))))
  have hk1 : k < xs.length := by omega
  obtain ⟨sb, so, e0, hx⟩ := hsk.open (by intro e; have := congrArg List.length e; rw [wAy wBc 5 wBe, List.length_nil] at this; have h2 := congrArg List.length hp; rw [List.length_map] at h2; omega)
  subst e0
  obtain ⟨va, vc, hcl, hvc, hvs⟩ := wBr hx hp hbk hk1
  refine wAi rfl rfl (wBa rfl rfl rfl rfl (by omega)) ?_
  refine wAi rfl rfl (wEy (cs := itc xs[k] va vc) rfl rfl rfl rfl rfl (fun i v hv => (hcl i v hv).cj _)) ?_
  refine sAl rfl fun b8 => ?_
  refine sSt rfl ?_
  refine wAc (jT (wAb (wAb (wAa (sFL rfl rfl ?_)))))
  refine jf rfl (decide_eq_false (by omega)) ?_
  refine wAc (jT (wAj rfl (wAd (jT (wAb (wAa (sLL rfl ?_)))))))
  have hvl : xs[k].val.length ≤ 1000000 := by
   have h1 := (wDb hno.ok xs[k] (List.getElem_mem hk1)).1
   unfold wFo at h1
   have := of_decide_eq_false h1; omega
  refine wAw rfl rfl (wAn rfl rfl rfl rfl rfl (by kernel_rfl) (volume_spec xs[k] va vc Mk hvc hvs hvl)) ?_; rintro _ Mn _ ⟨hMn, _, rfl, ⟨⟨v, rfl, hvo⟩, rfl⟩⟩
  simp only [nA]
  refine jp rfl (jp rfl (jsb rfl (fun h40 => ?_) (fun h40 => ?_)))
  ·refine sAl rfl fun b10 => ?_
   refine sSt rfl ?_
   refine jp rfl (wAc (jT (wAb (wAb (wAa (jp rfl (jp rfl (jp rfl (sFL rfl rfl ?_)))))))))
   refine js rfl (fun h46 => ?_) (fun h46 => ?_)
   ·iterate 16 refine jp rfl ?_
    refine wAc (jT (wAg rfl (wAb (wAa (jp rfl (wAc (jT (wAe (jTr (jBr (jTr (jTr (jBr (jTr (wAv (L' := []) (List.nil_sublist _) ?_)))))))))))))))
    refine jr1 rfl rfl ?_
    have hno : ¬ okV xs[k] next acc.length := by intro hh; rw [hvo (of_decide_eq_true h40)] at h46; exact hh.2.1 h46
    unfold VolsP
    rw [show wEr s next 0 xs acc0 = none by rw [show wEr s next 0 xs acc0 = wCu (vol1 next) (xs.drop k) acc from hI]; exact wGt hk1 (by unfold vol1; rw [if_neg hno])]
    exact ⟨rfl, rfl⟩
   ·refine jp rfl (jp rfl (sFL rfl rfl ?_))
    refine sFL rfl rfl ?_
    refine js rfl (fun h53 => ?_) (fun h53 => ?_)
    ·iterate 9 refine jp rfl ?_
     refine wAc (jT (wAg rfl (wAb (wAa (jp rfl (wAc (jT (wAe (jTr (jBr (jTr (jTr (jBr (jTr (wAv (L' := []) (List.nil_sublist _) ?_)))))))))))))))
     refine jr1 rfl rfl ?_
     have hno : ¬ okV xs[k] next acc.length := by intro hh; rw [hvo (of_decide_eq_true h40)] at h53; have h1 : (wJb xs[k]).id = xs[k].key.id := rfl; have := hh.2.2.1; omega
     unfold VolsP
     rw [show wEr s next 0 xs acc0 = none by rw [show wEr s next 0 xs acc0 = wCu (vol1 next) (xs.drop k) acc from hI]; exact wGt hk1 (by unfold vol1; rw [if_neg hno])]
     exact ⟨rfl, rfl⟩
    ·refine jp rfl (jp rfl (jp rfl (wAi rfl rfl (wAx rfl rfl rfl) ?_)))
     refine sFa rfl ?_
     obtain ⟨va1, vc1, rfl⟩ := hown.form
     refine wAi rfl rfl (qLd rfl rfl rfl rfl (CJ.loc (cen_vol hr1 hn1))) ?_
     refine wAi rfl rfl (wBq rfl rfl rfl) ?_
     refine js rfl (fun h61 => ?_) (fun h61 => ?_)
     ·refine jp rfl (wAc (jT (wAg rfl (wAb (wAa (jp rfl (wAc (jT (wAe (jTr (jBr (jTr (jTr (jBr (jTr (wAv (L' := []) (List.nil_sublist _) ?_))))))))))))))))
      refine jr1 rfl rfl ?_
      have hno : ¬ okV xs[k] next acc.length := by intro hh; exact hh.2.2.2 (by omega)
      unfold VolsP
      rw [show wEr s next 0 xs acc0 = none by rw [show wEr s next 0 xs acc0 = wCu (vol1 next) (xs.drop k) acc from hI]; exact wGt hk1 (by unfold vol1; rw [if_neg hno])]
      exact ⟨rfl, rfl⟩
     ·refine jp rfl (wAc (jT (wAj rfl (wAd (jT (wCh (p := { A := fun i => !([10].contains i), U := fun i => !([10].contains i) }) [(0, true), (1, true), (2, true), (3, true), (4, true), (5, true), (6, false), (7, false), (8, true), (9, true), (10, false)] Mn ([(b10, .cells (voc v).toArray TV (0, 0)), (cb, .cells (wGs bv wv nv lw pb m refs nodes (.slice va1 acc.length vc1)).toArray TCn (0, 0))]) ([]) (by kernel_rfl) (by kernel_rfl) (by kernel_rfl) (by kernel_rfl) rfl (by simp) (MLe.refl _) (by simp) ?_))))))
      iterate 2 refine dp rfl rfl ?_
      refine wBi rfl rfl rfl (wAx rfl rfl rfl) ?_
      refine dFa rfl rfl ?_
      refine wBi rfl rfl rfl (qLd rfl rfl rfl rfl (CJ.loc (cen_vol hr1 hn1))) ?_
      refine dLL rfl rfl ?_
      refine wHh rfl rfl rfl (wAm (cs := [_, _, _, _]) rfl rfl rfl (by rfl) (by rfl) (by rfl)) ?_; rintro _ _ _ ⟨b69, rfl, rfl, rfl⟩
      refine wEm (MLe.refl _) (fun _ h => List.mem_cons_of_mem _ h) (by first | exact MLe.refl _ | assumption) (by simp) ?_
      refine wHh rfl rfl rfl (wDd (R := Rv) (m := 1) rfl rfl rfl rfl hown rfl (fun i v hv => CJ.loc (by simpa using hv)) rfl (by rfl) (by simp [Value.oneCell']) (by omega) (by omega)) ?_; rintro vs2 _ _ ⟨rfl, Rv2, rfl, hown2, _⟩
      refine ⟨_, _, MLe.refl _, MLe.refl _, fun _ h => h, by simp, ?_⟩
      obtain ⟨va2, vc2, rfl⟩ := hown2.form
      refine wBi rfl rfl rfl (wAx rfl rfl rfl) ?_
      refine dFa rfl rfl ?_
      refine jd_e rfl rfl (hSt1 rfl rfl rfl rfl rfl rfl (by rw [wLa hr1 hn1]; decide) (cen_setv hr1 hn1)) ?_; rintro _ _ _ ⟨rfl, rfl⟩
      refine ⟨MLe.refl _, by simp, ?_⟩
      refine wEv ?_
      refine jPn (jB (jT (wAa (ja rfl (by omega) ?_))))
      refine jp rfl (wAc ?_)
      have hok : okV xs[k] next acc.length := ⟨of_decide_eq_true h40, fun e => h46 (by rw [hvo (of_decide_eq_true h40)]; exact e), by have := hvo (of_decide_eq_true h40); rw [this] at h53; show xs[k].key.id < next; have : (wJb xs[k]).id = xs[k].key.id := rfl; omega, fun e => h61 (by omega)⟩
      have hv := hvo (of_decide_eq_true h40)
      subst hv
      refine wAp (k + 1, Mn, acc ++ [wJb xs[k]], .slice va2 (acc.length + 1) vc2, Rv2) (.cons (t := 0) rfl (.cons (t := 4) rfl (.cons (t := 5) rfl (.cons (t := 13) rfl (.cons (t := 14) rfl (.cons (t := 15) rfl .nil)))))) ⟨by show k + 1 ≤ xs.length; omega, hMk.trans hMn, ?_, ?_, ?_⟩ (by show xs.length - (k + 1) < xs.length - k; omega) (fun w h => (h.perm (List.perm_append_comm_assoc Rv2 [_, _, _, _, _] [_, _])).fewer (.cons _ (.cons _ (.cons _ (.refl _)))))
      ·show wCu _ _ _ = wCu _ _ (acc ++ [wJb xs[k]])
       rw [hI]; exact volsGo_on hk1 (by unfold vol1; rw [if_pos hok])
      ·show Own _ _ _ _ (acc ++ [wJb xs[k]]).length ((acc ++ [wJb xs[k]]).flatMap voc)
       rw [List.length_append, List.flatMap_append]; simpa using hown2
      ·show (acc ++ [wJb xs[k]]).length ≤ 16
       rw [List.length_append, List.length_cons, List.length_nil]; have := hok.2.2.2; omega
  ·refine sAl rfl fun b10 => ?_
   refine sSt rfl ?_
   refine jp rfl (wAc (jT (wAb (wAb (wAa ?_)))))
   iterate 22 refine jp rfl ?_
   refine wAc (jT (wAg rfl (wAb (wAa (jp rfl (wAc (jT (wAe (jTr (jBr (jTr (jTr (jBr (jTr (wAv (L' := []) (List.nil_sublist _) ?_)))))))))))))))
   refine jr1 rfl rfl ?_
   have hno : ¬ okV xs[k] next acc.length := by intro hh; have h := hh.1; rw [decide_eq_true h] at h40; cases h40
   unfold VolsP
   rw [show wEr s next 0 xs acc0 = none by rw [show wEr s next 0 xs acc0 = wCu (vol1 next) (xs.drop k) acc from hI]; exact wGt hk1 (by unfold vol1; rw [if_neg hno])]
   exact ⟨rfl, rfl⟩
 ·refine wAc (jT (wAb (wAj rfl (wAs (jTx (jTx (jBx (jT (wAb (wAa (jp rfl (wAc (jT (wAe (wDh (L' := Rv ++ [(cb, .cells (wGs bv wv nv lw pb m refs nodes vs).toArray TCn (0, 0)), (m, wDk l)]) (fun w h => h.fewer (.cons _ (.cons _ (.refl _)))) ?_)))))))))))))))
  refine jr1 rfl rfl ?_
  unfold VolsP
  rw [show wEr s next 0 xs acc0 = some acc by rw [show wEr s next 0 xs acc0 = wCu _ (xs.drop k) acc from hI]; exact volsGo_end (by omega)]
  exact ⟨rfl, vs, Rv, rfl, hown⟩
set_option maxHeartbeats 4000000 in
theorem vols_node (s : Sto) (cb m : Nat) (bv wv nv lw pb : Value) (refs nodes : List Int) (hr1 : refs.length = 256) (hn1 : nodes.length = 256) (l : List (Int × Value)) (pb0 pw0 pn0 pl0 : Value) (gen root next : Int) (dv : Value) (lv : Nat) (ih : CenVols s cb m bv wv nv lw pb refs nodes l (poc pb0 pw0 pn0 pl0 gen root next dv) next lv) (xs : List It) (a : Option Addr) (c : Nat) (ps : List (It × Value)) (acc0 : List Vo) (vs0 : Value) (Rv0 : Lc) (M : Mem) (hmi : MapI M s l) (hc : xs.length ≤ c) (hs : SM M a (ps.flatMap wBc)) (hp : ps.map (·.1) = xs) (hb : ∀ p ∈ ps, BS M p.2 p.1.val) (hno : NdOk ((lv + 1 : Nat) : Int) xs) (hown0 : Own vs0 Rv0 TV 4 acc0.length (acc0.flatMap voc)) (hacc0 : acc0.length ≤ 16) (hkid : ∀ x ∈ xs, Good s l x.ref ∧ ∃ ys, wCa s x.ref.toNat = some ((lv : Int), ys)) :
  SpecL Tryz.prog 73 #[.pointer (some ⟨cb, 0, none⟩), .agg (poc pb0 pw0 pn0 pl0 gen root next dv).toArray, .agg #[.int .i64 ((lv + 1 : Nat) : Int), .slice a xs.length c]] M (Rv0 ++ [(cb, .cells (wGs bv wv nv lw pb m refs nodes vs0).toArray TCn (0, 0)), (m, wDk l)]) fun u M' L' => VolsP s cb m bv wv nv lw pb refs nodes l (wEr s next (lv + 1) xs acc0) u L' := by
 have hlv := hno.lev
 have hlen := hno.len
 refine wAf (vs := [_, _, _]) 74 _ Tryz.func73 rfl Tryz.ntmps73 rfl rfl ?_; intro W
 refine wAb (wAa (wAw rfl rfl (wCb (cs := [_, _, _, _, _, _, _, _]) rfl rfl rfl rfl) ?_)); rintro _ _ _ ⟨b4, rfl, rfl, rfl⟩
 refine wAw rfl rfl (wCb (cs := [_, _]) rfl rfl rfl rfl) ?_; rintro _ _ _ ⟨b5, rfl, rfl, rfl⟩
 refine jp rfl (wAc (jT (wAb (wAb (wAa (sFL rfl rfl ?_))))))
 refine wAi rfl rfl (wBq rfl rfl rfl) ?_
 refine jp rfl (wAc (jT (wAh ?_)))
 refine wAr (α := Nat × Mem × List Vo × Value × Lc) (fun x => [(0, .pointer (some ⟨cb, 0, none⟩)), (4, .pointer (some ⟨b4, 0, none⟩)), (5, .pointer (some ⟨b5, 0, none⟩)), (13, .slice a xs.length c), (14, .int .i64 xs.length), (15, .int .i64 x.1)]) (fun x => x.2.1) (fun x => ([(b5, .cells [.int .i64 ((lv + 1 : Nat) : Int), .slice a xs.length c].toArray TNd (0, 0)), (b4, .cells (poc pb0 pw0 pn0 pl0 gen root next dv).toArray 32 (0, 0))] ++ (x.2.2.2.2 ++ [(cb, .cells (wGs bv wv nv lw pb m refs nodes x.2.2.2.1).toArray TCn (0, 0)), (m, wDk l)]))) (fun x => x.1 ≤ xs.length ∧ MLe M x.2.1 ∧ wCu (fun x acc => wEr s next lv (kid s x) acc) xs acc0 = wCu (fun x acc => wEr s next lv (kid s x) acc) (xs.drop x.1) x.2.2.1 ∧ Own x.2.2.2.1 x.2.2.2.2 TV 4 x.2.2.1.length (x.2.2.1.flatMap voc) ∧ x.2.2.1.length ≤ 16) (fun x => xs.length - x.1)
  (0, M, acc0, vs0, Rv0) (.cons (t := 0) rfl (.cons (t := 4) rfl (.cons (t := 5) rfl (.cons (t := 13) rfl (.cons (t := 14) rfl (.cons (t := 15) rfl .nil)))))) ⟨Nat.zero_le _, MLe.refl _, rfl, hown0, hacc0⟩ (fun _ h => h) ?_
 rintro ⟨k, Mk, acc, vs, Rv⟩ ⟨hk, hMk, hI, hown, hacc⟩
 try dsimp only at hk hMk hI hown hacc ⊢
 simp only [List.cons_append, List.nil_append]
 have hsk := hs.mono hMk
 have hbk := fun p hp => (hb p hp).mono hMk
 refine wAb (wAa (js rfl (fun h16 => ?_) (fun h16 => ?_)))
 ·refine wAc (jT (wAb (wAg rfl (wAd (jT (wAb (wAh (wAb (wAa ?_)))))))))
  have hk1 : k < xs.length := by omega
  obtain ⟨sb, so, e0, hx⟩ := hsk.open (by intro e; have := congrArg List.length e; rw [wAy wBc 5 wBe, List.length_nil] at this; have h2 := congrArg List.length hp; rw [List.length_map] at h2; omega)
  subst e0
  obtain ⟨va, vc, hcl, hvc, hvs⟩ := wBr hx hp hbk hk1
  refine wAi rfl rfl (wBa rfl rfl rfl rfl (by omega)) ?_
  refine wAi rfl rfl (wEy (cs := itc xs[k] va vc) rfl rfl rfl rfl rfl (fun i v hv => (hcl i v hv).cj _)) ?_
  refine sAl rfl fun b8 => ?_
  refine sSt rfl ?_
  refine wAc (jT (wAb (wAb (wAa (sFL rfl rfl ?_)))))
  refine jt rfl (decide_eq_true (by omega)) ?_
  refine wAc (jT (wAg rfl (wAb (wAb (wCh (p := { A := fun i => !([10].contains i), U := fun i => !([10, 11].contains i) }) [(0, true), (1, true), (2, true), (3, true), (4, true), (5, true), (6, true), (7, true), (8, true), (9, true), (10, false), (11, true)] Mk ([(b8, .cells (itc xs[k] va vc).toArray IT (0, 0)), (b4, .cells (poc pb0 pw0 pn0 pl0 gen root next dv).toArray 32 (0, 0)), (cb, .cells (wGs bv wv nv lw pb m refs nodes vs).toArray TCn (0, 0)), (m, wDk l)]) ([]) (by kernel_rfl) (by kernel_rfl) (by kernel_rfl) (by kernel_rfl) rfl (by simp) (MLe.refl _) (by simp) ?_)))))
  refine dp rfl rfl ?_
  refine dLL rfl rfl ?_
  refine dp rfl rfl ?_
  refine wBi rfl rfl rfl (wAx rfl rfl rfl) ?_
  refine dFa rfl rfl ?_
  refine dLd rfl rfl ?_
  refine dFa rfl rfl ?_
  refine dLd rfl rfl ?_
  obtain ⟨hgood, ys0, hkn⟩ := hkid xs[k] (List.getElem_mem hk1)
  obtain ⟨zl, zs, za, zc, zp, hz1, hz2, hz3, hz4⟩ := hgood.get (hmi.mono hMk)
  rw [hkn] at hz1; cases hz1
  refine wBi rfl rfl rfl (qEq (qLookupV (z := .agg spnZ.toArray) rfl rfl rfl rfl (by kernel_rfl)) (v' := .agg (snc (lv : Int) (.slice za ys0.length zc) zp).toArray) (by rw [hz4]; rfl)) ?_
  refine wBi rfl rfl rfl (qEq (qFieldA rfl rfl rfl rfl) (v' := .agg #[.int .i64 (lv : Int), .slice za ys0.length zc]) rfl) ?_
  have hzno := wCe hkn
  have hzkid : 0 < lv → ∀ x ∈ ys0, Good s l x.ref ∧ ∃ ys, wCa s x.ref.toNat = some ((lv : Int) - 1, ys) := fun h0 x hx => ⟨hgood.kid (hmi.mono hMk) hkn (by omega) hx, by obtain ⟨_, ys, h1, _⟩ := rd_kid hzno hz2 (by omega) hx; exact ⟨ys, h1⟩⟩
  refine jd_eh rfl rfl rfl (wAn rfl rfl rfl rfl rfl (by kernel_rfl) (ih ys0 _ acc vs Rv Mk (hmi.mono hMk) hz3 hzno hzkid hown hacc)) ?_; rintro _ Mn _ ⟨hMn, Rn, rfl, hvp⟩
  refine ⟨hMn, by simp, ?_⟩
  obtain ⟨e, rfl, hvp2⟩ := hvp.form
  refine ep rfl rfl ?_
  refine wEv ?_
  refine jPn (jT (wAb (wAa (jp rfl (js rfl (fun h34 => ?_) (fun h34 => ?_))))))
  ·refine wAc (jT (wAg rfl (wAb (wAa (jp rfl (jp rfl (wAc (jT (wAe (jTr (jTr (jBr (jTr (jTr (jBr (jTr (wAv (L' := []) (List.nil_sublist _) ?_)))))))))))))))))
   refine jr1 rfl rfl ?_
   obtain ⟨rfl, hr, _⟩ | ⟨he, _⟩ := hvp2
   ·unfold VolsP
    rw [show wEr s next (lv + 1) xs acc0 = none by rw [show wEr s next (lv + 1) xs acc0 = wCu (fun x acc => wEr s next lv (kid s x) acc) (xs.drop k) acc from hI]; exact wGt hk1 (by rw [kid_eq hkn]; exact hr)]
    exact ⟨rfl, rfl⟩
   ·omega
  ·refine wAc (jT (wAj rfl (wAd (jT (wAs (jTx (jBx (jT (wAa (ja rfl (by omega) ?_))))))))))
   refine jp rfl (wAc ?_)
   obtain ⟨he, _⟩ | ⟨_, acc2, vs2, Rv2, hr, rfl, hown2⟩ := hvp2
   ·omega
   refine wAp (k + 1, Mn, acc2, vs2, Rv2) (.cons (t := 0) rfl (.cons (t := 4) rfl (.cons (t := 5) rfl (.cons (t := 13) rfl (.cons (t := 14) rfl (.cons (t := 15) rfl .nil)))))) ⟨by show k + 1 ≤ xs.length; omega, hMk.trans hMn, ?_, hown2, volsL_le lv _ _ _ hr hacc⟩ (by show xs.length - (k + 1) < xs.length - k; omega) (fun w h => (h.perm List.perm_append_comm).fewer (.cons _ (.refl _)))
   ·show wCu _ _ _ = wCu _ _ acc2
    rw [hI]; exact volsGo_on hk1 (by rw [kid_eq hkn]; exact hr)
 ·refine wAc (jT (wAb (wAj rfl (wAs (jTx (jTx (jBx (jT (wAb (wAa (jp rfl (wAc (jT (wAe (wDh (L' := Rv ++ [(cb, .cells (wGs bv wv nv lw pb m refs nodes vs).toArray TCn (0, 0)), (m, wDk l)]) (fun w h => h.fewer (.cons _ (.cons _ (.refl _)))) ?_)))))))))))))))
  refine jr1 rfl rfl ?_
  unfold VolsP
  rw [show wEr s next (lv + 1) xs acc0 = some acc by rw [show wEr s next (lv + 1) xs acc0 = wCu _ (xs.drop k) acc from hI]; exact volsGo_end (by omega)]
  exact ⟨rfl, vs, Rv, rfl, hown⟩
theorem vols_spec (s : Sto) (cb m : Nat) (bv wv nv lw pb : Value) (refs nodes : List Int) (hr1 : refs.length = 256) (hn1 : nodes.length = 256) (l : List (Int × Value)) (pb0 pw0 pn0 pl0 : Value) (gen root next : Int) (dv : Value) : ∀ lv : Nat, CenVols s cb m bv wv nv lw pb refs nodes l (poc pb0 pw0 pn0 pl0 gen root next dv) next lv
 | 0 => fun xs sl acc vs Rv M hmi hsl hno _ hown hacc => by
  obtain ⟨a, c, ps, rfl, hc, hs, hp, hb⟩ := hsl
  exact vols_leaf s cb m bv wv nv lw pb refs nodes hr1 hn1 l pb0 pw0 pn0 pl0 gen root next dv xs a c ps acc vs Rv M hmi hc hs hp hb hno hown hacc
 | lv + 1 => fun xs sl acc vs Rv M hmi hsl hno hkid hown hacc => by
  obtain ⟨a, c, ps, rfl, hc, hs, hp, hb⟩ := hsl
  exact vols_node s cb m bv wv nv lw pb refs nodes hr1 hn1 l pb0 pw0 pn0 pl0 gen root next dv lv (vols_spec s cb m bv wv nv lw pb refs nodes hr1 hn1 l pb0 pw0 pn0 pl0 gen root next dv lv) xs a c ps acc vs Rv M hmi hc hs hp hb hno hown hacc
   (fun x hx => by obtain ⟨h1, ys, h2⟩ := hkid (by omega) x hx; exact ⟨h1, ys, by rw [h2]; congr 2; omega⟩)
def inc (r : List Int) (k : Nat) : List Int := r.set k (IntKind.i64.wrap (r.getD k 0 + 1))
def wGp (lv : Int) (acc : List Int × List Int) (x : It) : List Int × List Int := if x.ref = 0 then acc else (inc acc.1 x.ref.toNat, if 0 < lv then acc.2 ++ [x.ref] else acc.2)
def wEg (s : Sto) : Nat → List Int → List Int → List Int → List Int × List Int
 | 0, _, refs, nodes => (refs, nodes)
 | f + 1, st, refs, nodes => match st.getLast? with
  | none => (refs, nodes)
  | some k => if 1 < (inc nodes k.toNat).getD k.toNat 0 then wEg s f st.dropLast refs (inc nodes k.toNat) else match wCa s k.toNat with
   | none => wEg s f st.dropLast refs (inc nodes k.toNat)
   | some (lv, xs) => wEg s f (xs.foldl (wGp lv) (refs, st.dropLast)).2 (xs.foldl (wGp lv) (refs, st.dropLast)).1 (inc nodes k.toNat)
def F0 : Nat := 1600
def rtOk (s : Sto) (k : Int) : Bool := match lrn s k (-1) with
 | none => false
 | some (lv, xs) => (wGb s lv xs).is
theorem wGq (r : List Int) (k : Nat) : (inc r k).length = r.length := by simp [inc]
theorem treeF_nil {s : Sto} {f : Nat} {refs nodes : List Int} : wEg s f [] refs nodes = (refs, nodes) := by cases f <;> rfl
theorem treeF_again {s : Sto} {f : Nat} {st refs nodes : List Int} {k : Int} (h : 1 < (inc nodes k.toNat).getD k.toNat 0) : wEg s (f + 1) (st ++ [k]) refs nodes = wEg s f st refs (inc nodes k.toNat) := by
 rw [wEg, List.getLast?_append]; simp only [List.getLast?_singleton, Option.some_or]
 rw [if_pos h, List.dropLast_concat]
theorem treeF_node {s : Sto} {f : Nat} {st refs nodes : List Int} {k lv : Int} {xs : List It} (h : ¬ 1 < (inc nodes k.toNat).getD k.toNat 0) (hnd : wCa s k.toNat = some (lv, xs)) : wEg s (f + 1) (st ++ [k]) refs nodes = wEg s f (xs.foldl (wGp lv) (refs, st)).2 (xs.foldl (wGp lv) (refs, st)).1 (inc nodes k.toNat) := by
 rw [wEg, List.getLast?_append]; simp only [List.getLast?_singleton, Option.some_or]
 rw [if_neg h, hnd, List.dropLast_concat]
def zer (nodes : List Int) : Nat := nodes.countP (fun x => decide (x = 0))
theorem zer_set : ∀ {nodes : List Int} {k : Nat} {v : Int}, k < nodes.length → zer (nodes.set k v) + (if nodes.getD k 0 = 0 then 1 else 0) = zer nodes + (if v = 0 then 1 else 0)
 | [], _, _, h => by cases h
 | x :: xs, 0, v, _ => by simp [zer, List.countP_cons]; omega
 | x :: xs, k + 1, v, h => by
  have := zer_set (nodes := xs) (k := k) (v := v) (by simpa using h)
  simp only [zer, List.set_cons_succ, List.countP_cons, List.getD_cons_succ] at this ⊢
  omega
def Few (f : Nat) (nodes : List Int) : Prop := nodes.length = 256 ∧ ∀ k, 0 ≤ nodes.getD k 0 ∧ nodes.getD k 0 + f ≤ 4000000000000000000
theorem Few.inc {f : Nat} {nodes : List Int} (h : Few (f + 1) nodes) {k : Nat} (hk : k < 256) : Few f (inc nodes k) ∧ (Go.Proofs.YtoincdcejjdgkaaGreat.inc nodes k).getD k 0 = nodes.getD k 0 + 1 := by
 have h1 := (h.2 k).1
 have h2 := (h.2 k).2
 have hw : IntKind.i64.wrap (nodes.getD k 0 + 1) = nodes.getD k 0 + 1 := IntWalk.i64_in _ (by omega)
 have hg : (Go.Proofs.YtoincdcejjdgkaaGreat.inc nodes k).getD k 0 = nodes.getD k 0 + 1 := by unfold Go.Proofs.YtoincdcejjdgkaaGreat.inc; rw [hw]; simp [List.getD, h.1, hk]
 refine ⟨⟨by rw [wGq]; exact h.1, fun j => ?_⟩, hg⟩
 by_cases hj : j = k
 ·subst hj; rw [hg]; omega
 ·have : (Go.Proofs.YtoincdcejjdgkaaGreat.inc nodes k).getD j 0 = nodes.getD j 0 := by unfold Go.Proofs.YtoincdcejjdgkaaGreat.inc; simp [List.getD, List.getElem?_set_ne (Ne.symm hj)]
  rw [this]; have := h.2 j; omega
theorem Few.less {f g : Nat} {nodes : List Int} (h : Few f nodes) (hg : g ≤ f) : Few g nodes := ⟨h.1, fun k => by have := h.2 k; omega⟩
theorem fold_step {lv : Int} {xs : List It} {j : Nat} {a : List Int × List Int} (h : j < xs.length) : (xs.take (j + 1)).foldl (wGp lv) a = wGp lv ((xs.take j).foldl (wGp lv) a) xs[j] := by
 rw [List.take_succ_eq_append_getElem h, List.foldl_append]; rfl
theorem step_len {lv : Int} (a : List Int × List Int) (x : It) : (wGp lv a x).1.length = a.1.length ∧ (wGp lv a x).2.length ≤ a.2.length + 1 := by
 unfold wGp
 split
 ·exact ⟨rfl, by omega⟩
 ·refine ⟨wGq _ _, ?_⟩
  by_cases h : 0 < lv
  ·rw [if_pos h]; simp
  ·rw [if_neg h]; exact Nat.le_succ _
theorem fold_len {lv : Int} : ∀ (xs : List It) (a : List Int × List Int), (xs.foldl (wGp lv) a).1.length = a.1.length ∧ (xs.foldl (wGp lv) a).2.length ≤ a.2.length + xs.length
 | [], a => ⟨rfl, Nat.le_refl _⟩
 | x :: xs, a => by
  obtain ⟨h1, h2⟩ := fold_len xs (wGp lv a x)
  obtain ⟨h3, h4⟩ := step_len (lv := lv) a x
  rw [List.foldl_cons, h1, h3, List.length_cons]
  exact ⟨rfl, by omega⟩
theorem wLf {s : Sto} : ∀ (f : Nat) (st refs nodes : List Int), (wEg s f st refs nodes).1.length = refs.length ∧ (wEg s f st refs nodes).2.length = nodes.length
 | 0, st, refs, nodes => ⟨rfl, rfl⟩
 | f + 1, st, refs, nodes => by
  rw [wEg]
  split
  ·exact ⟨rfl, rfl⟩
  ·split
   ·have := wLf (s := s) f st.dropLast refs (inc nodes ?_)
    ·rw [wGq] at this; exact this
   ·split
    ·have := wLf (s := s) f st.dropLast refs (inc nodes ?_)
     ·rw [wGq] at this; exact this
    ·rename_i k _ _ _ lv xs _
     have := wLf (s := s) f (xs.foldl (wGp lv) (refs, st.dropLast)).2 (xs.foldl (wGp lv) (refs, st.dropLast)).1 (inc nodes k.toNat)
     rw [wGq, (fold_len xs _).1] at this; exact this
theorem wLg {s : Sto} : ∀ (f : Nat) {g : Nat} (st refs nodes : List Int), (∀ k ∈ st, 8 ≤ k ∧ k < 256) → Few (g + f) nodes → Few g (wEg s f st refs nodes).2
 | 0, g, st, refs, nodes, _, h => h
 | f + 1, g, st, refs, nodes, hst, h => by
  have hdl : ∀ k ∈ st.dropLast, 8 ≤ k ∧ k < 256 := fun k hk => hst k (List.dropLast_subset _ hk)
  rw [wEg]
  split
  ·exact h.less (by omega)
  ·rename_i k hk
   have hkr := hst k (List.mem_of_getLast? hk)
   have h' := (Few.inc (f := g + f) h (k := k.toNat) (by omega)).1
   split
   ·exact wLg f _ _ _ hdl h'
   ·split
    ·exact wLg f _ _ _ hdl h'
    ·rename_i lv xs hnd
     refine wLg f _ _ _ ?_ h'
     have hno := wCe hnd
     have : ∀ (ys : List It) (a : List Int × List Int), (∀ y ∈ ys, y ∈ xs) → (∀ k ∈ a.2, 8 ≤ k ∧ k < 256) → ∀ k ∈ (ys.foldl (wGp lv) a).2, 8 ≤ k ∧ k < 256 := by
      intro ys
      induction ys with
      | nil => intro a _ ha; exact ha
      | cons y ys ih =>
       intro a hy ha
       refine ih _ (fun z hz => hy z (List.mem_cons_of_mem _ hz)) ?_
       unfold wGp
       split
       ·exact ha
       ·rename_i h0
        split
        ·intro z hz
         rcases List.mem_append.1 hz with hz | hz
         ·exact ha z hz
         ·rw [List.mem_singleton.1 hz]; have := hno.ref y (hy y (by simp)); omega
        ·exact ha
     exact this xs _ (fun _ h => h) hdl
theorem Own.cut {v : Value} {R : Lc} {e : TypeId} {a : Option Addr} {m n c : Nat} {xs ys : List Value} (h : Own v R e 1 n xs) (hv : v = .slice a n c) (hm : m ≤ n) (hy : ys = xs.take m) : Own (.slice a m c) R e 1 m ys := by
 subst hy
 refine ⟨by have := h.1; rw [List.length_take]; omega, ?_⟩
 rcases h.2 with ⟨h1, h2, h3⟩ | ⟨g, cap, cur, h1, h2, h3, h4, h5, h6⟩
 ·rw [hv] at h1; cases h1; exact .inl ⟨by rw [show m = 0 by omega], by omega, h3⟩
 ·rw [hv] at h1; cases h1
  exact .inr ⟨g, c, cur, rfl, h2, by omega, h4, h5, by rw [← h6, List.take_take]; congr 1; omega⟩
theorem rtOk_no {s : Sto} {k : Int} (h : lrn s k (-1) = none) : rtOk s k = false := by unfold rtOk; rw [h]
theorem rtOk_is {s : Sto} {k lv : Int} {xs : List It} (h : lrn s k (-1) = some (lv, xs)) : rtOk s k = (wGb s lv xs).is := by unfold rtOk; rw [h]
def TreeP (s : Sto) (cb m : Nat) (bv wv nv lw pb vs : Value) (refs nodes : List Int) (l : List (Int × Value)) (k : Int) (u : Value) (M' : Mem) (L' : Lc) : Prop :=
 if rtOk s k = true then u = .int .i64 0 ∧ ∃ l', L' = [(cb, .cells (wGs bv wv nv lw pb m (wEg s F0 [k] (inc refs k.toNat) nodes).1 (wEg s F0 [k] (inc refs k.toNat) nodes).2 vs).toArray TCn (0, 0)), (m, wDk l')] ∧ MapI M' s l' ∧ Ext l l'
 else u = .int .i64 8 ∧ L' = []
set_option maxHeartbeats 4000000 in
theorem tree_walk (s : Sto) (hst : wCp s) (cb m : Nat) (bv wv nv lw pb vs : Value) (refs0 nodes0 : List Int) (hr1 : refs0.length = 256) (hfew0 : Few F0 nodes0) (k0 : Int) (M : Mem) (l : List (Int × Value)) (hcn : CN M s nv pb) (hmi : MapI M s l) :
  SpecL Tryz.prog 74 #[.pointer (some ⟨cb, 0, none⟩), .int .i64 k0] M [(cb, .cells (wGs bv wv nv lw pb m refs0 nodes0 vs).toArray TCn (0, 0)), (m, wDk l)] fun u M' L' => TreeP s cb m bv wv nv lw pb vs refs0 nodes0 l k0 u M' L' := by
 have hn1 := hfew0.1
 refine wAf (vs := [_, _]) 95 _ Tryz.func74 rfl Tryz.ntmps74 rfl rfl ?_; intro W
 refine wAb (wAa (jp rfl (wAc (jT (wAb (wAb (wAa (jp rfl (jp rfl (wAw rfl rfl (wAn rfl rfl rfl rfl rfl (by kernel_rfl) (learn_spec s hst cb m bv wv nv lw pb (wBj refs0 ++ (wBj nodes0 ++ [vs])) (-1) k0 M l hcn hmi)) ?_)))))))))); rintro _ M1 _ ⟨hM1, _, rfl, ⟨l2, rfl, hmi1, hext1, hlr⟩⟩
 obtain ⟨xl, xa, xn, xc, p, rfl, hlr2⟩ := hlr.form
 simp only [List.cons_append, List.nil_append]
 refine wDp rfl rfl (qField rfl rfl rfl rfl rfl) (fun h13 => ?_) (fun h13 => ?_)
 ·refine jp rfl (wAc (jT (wAj rfl (wAd (jT (wAb ?_))))))
  have hroot : rtOk s k0 = true := by
   rcases hlr2 with ⟨_, h2⟩ | ⟨ys, h1, _, _, h2, _⟩
   ·rw [h2] at h13; cases h13
   ·rw [rtOk_is h1, ← h2]; exact h13
  have hg0 : Good s l2 k0 := by
   rcases hlr2 with ⟨_, h2⟩ | ⟨ys, h1, _, _, h2, h3⟩
   ·rw [h2] at h13; cases h13
   ·obtain ⟨h4, h5, h6, _⟩ := lrn_is h1; exact ⟨h4, h5, h3, xl, ys, h6, by rw [← h2]; exact h13⟩
  have hk08 := hg0.1
  have hk0256 := hg0.2.1
  refine wCh (p := { A := fun i => !([10].contains i), U := fun i => !([10].contains i) }) [(0, true), (1, true), (2, true), (3, true), (4, true), (5, true), (6, true), (7, true), (8, true), (9, true), (10, false)] M1 ([(cb, .cells (wGs bv wv nv lw pb m refs0 nodes0 vs).toArray TCn (0, 0))]) ([]) (by kernel_rfl) (by kernel_rfl) (by kernel_rfl) (by kernel_rfl) rfl (by simp) (MLe.refl _) (by simp) ?_
  iterate 2 refine dp rfl rfl ?_
  refine wBi rfl rfl rfl (wAx rfl rfl rfl) ?_
  refine dFa rfl rfl ?_
  refine wBi rfl rfl rfl (qIdxA rfl rfl rfl rfl (by omega)) ?_
  refine wBi rfl rfl rfl (qLd rfl rfl rfl rfl (CJ.loc (cen_ref hr1 (i := k0.toNat) (by omega) (by omega)))) ?_
  refine wBi rfl rfl rfl (qP rfl rfl) ?_
  refine wBi rfl rfl rfl (wAx rfl rfl rfl) ?_
  refine dFa rfl rfl ?_
  refine wBi rfl rfl rfl (qIdxA rfl rfl rfl rfl (by omega)) ?_
  refine jd_e rfl rfl (hSt1 rfl rfl rfl rfl rfl rfl (by rw [wLa hr1 hn1]; omega) (cen_setr hr1 hn1 (i := k0.toNat) (by omega) (by omega))) ?_; rintro _ _ _ ⟨rfl, rfl⟩
  refine ⟨MLe.refl _, by simp, ?_⟩
  refine wEv ?_
  refine jPn (jT (wAb (wAb (wAa (jp rfl (wAw rfl rfl (wAm (cs := [_]) rfl rfl rfl (by rfl) (by rfl) (by rfl)) ?_)))))); rintro _ _ _ ⟨b26, rfl, rfl, rfl⟩
  refine jp rfl (wAc (jT (wAh ?_)))
  have hf0 : F0 = 1600 := rfl
  refine wAr (α := Nat × List Int × List Int × List Int × Value × Lc) (fun x => [(0, .pointer (some ⟨cb, 0, none⟩)), (5, x.2.2.2.2.1)]) (fun _ => M1) (fun x => (x.2.2.2.2.2 ++ [(cb, .cells (wGs bv wv nv lw pb m x.2.1 x.2.2.1 vs).toArray TCn (0, 0)), (m, wDk l2)])) (fun x => wEg s F0 [k0] (inc refs0 k0.toNat) nodes0 = wEg s x.1 x.2.2.2.1 x.2.1 x.2.2.1 ∧ x.2.2.2.1.length + 6 * zer x.2.2.1 ≤ x.1 ∧ x.1 ≤ F0 ∧ x.2.1.length = 256 ∧ Few x.1 x.2.2.1 ∧ (∀ y ∈ x.2.2.2.1, Good s l2 y) ∧ Own x.2.2.2.2.1 x.2.2.2.2.2 3 1 x.2.2.2.1.length (wBj x.2.2.2.1)) (fun x => x.1)
   (F0, inc refs0 k0.toNat, nodes0, [k0], .slice (some ⟨b26, 0, none⟩) 1 1, [(b26, .cells [Value.int .i64 k0].toArray 3 (0, 0))]) (.cons (t := 0) rfl (.cons (t := 5) rfl .nil)) ⟨rfl, by have : zer nodes0 ≤ nodes0.length := List.countP_le_length; rw [hn1] at this; show 1 + 6 * zer nodes0 ≤ F0; omega, Nat.le_refl _, by rw [wGq]; exact hr1, hfew0, fun y hy => by rw [List.mem_singleton.1 hy]; exact hg0, ⟨rfl, .inr ⟨b26, 1, _, rfl, rfl, Nat.le_refl _, by decide, rfl, rfl⟩⟩⟩ (fun _ h => h) ?_
  rintro ⟨f, refs, nodes, st, v, R⟩ ⟨hI, hmu, hff, hr1, hfew, hgd, hown⟩
  try dsimp only at hI hmu hff hr1 hfew hgd hown ⊢
  have hn1 := hfew.1
  obtain ⟨sa0, sc0, rfl⟩ := hown.form
  refine wAb (wAb (wAa (jp rfl (wAi rfl rfl (wBq rfl rfl rfl) ?_))))
  refine js rfl (fun h29 => ?_) (fun h29 => ?_)
  ·refine wAc (jT (wAg rfl (wAd (jT (wAh (wAb (wAa (jp rfl (jp rfl (wAi rfl rfl (wBq rfl rfl rfl) ?_))))))))))
   obtain ⟨st0, k, rfl⟩ : ∃ st0 k, st = st0 ++ [k] := ⟨st.dropLast, st.getLast (fun e => by rw [e] at h29; exact absurd h29 (by decide)), (List.dropLast_concat_getLast _).symm⟩
   have hsl : (st0 ++ [k]).length = st0.length + 1 := by simp
   obtain ⟨sg, scap, scur, e0, e1, hsc, _⟩ := hown.open (by omega)
   cases e0; cases e1
   have hkg := hgd k (by simp)
   have hk8 := hkg.1
   have hk256 := hkg.2.1
   obtain ⟨f, rfl⟩ : ∃ f0, f = f0 + 1 := ⟨f - 1, by omega⟩
   obtain ⟨hfew2, hin⟩ := hfew.inc (k := k.toNat) (by omega)
   have hn2 := hfew.1
   refine wAi rfl rfl (qEq (qA rfl rfl rfl rfl rfl (by simp only [hsl]; omega)) (v' := .int .i64 (st0.length : Int)) (by rw [hsl]; congr 1; omega)) ?_
   refine wAi rfl rfl (wBa rfl rfl rfl rfl (by rw [hsl]; omega)) ?_
   refine wAi rfl rfl (qLd rfl rfl rfl rfl (by rw [Nat.zero_add, Nat.mul_one]; exact hown.cj (by simp) (u := .int .i64 k) (by simp [wBj]))) ?_
   refine jp rfl (wAc (jT (wAb (wAa (jp rfl (jp rfl (wAi rfl rfl (wBq rfl rfl rfl) ?_)))))))
   refine wAi rfl rfl (qEq (qA rfl rfl rfl rfl rfl (by simp only [hsl]; omega)) (v' := .int .i64 (st0.length : Int)) (by rw [hsl]; congr 1; omega)) ?_
   refine wAi rfl rfl (qEq (qSl rfl rfl rfl (.no _) (.of (v := st0.length) rfl (by omega) (by omega)) (.no _) (by omega) (by simp)) (v' := .slice (some ⟨sg, 0, none⟩) st0.length sc0) (by rw [wDa]; rfl)) ?_
   refine jp rfl (wAc (jT (wAb (wAb (wCh (p := { A := fun i => !([10].contains i), U := fun i => !([10].contains i) }) [(0, true), (1, true), (2, true), (3, true), (4, true), (5, true), (6, true), (7, true), (8, true), (9, true), (10, false)] M1 ([(cb, .cells (wGs bv wv nv lw pb m refs nodes vs).toArray TCn (0, 0))]) ([]) (by kernel_rfl) (by kernel_rfl) (by kernel_rfl) (by kernel_rfl) rfl (by simp) (MLe.refl _) (by simp) ?_)))))
   iterate 2 refine dp rfl rfl ?_
   refine wBi rfl rfl rfl (wAx rfl rfl rfl) ?_
   refine dFa rfl rfl ?_
   refine wBi rfl rfl rfl (qIdxA rfl rfl rfl rfl (by omega)) ?_
   refine wBi rfl rfl rfl (qLd rfl rfl rfl rfl (CJ.loc (cen_nod hr1 hn2 (i := k.toNat) (by omega) (by omega)))) ?_
   refine wBi rfl rfl rfl (qP rfl rfl) ?_
   refine wBi rfl rfl rfl (wAx rfl rfl rfl) ?_
   refine dFa rfl rfl ?_
   refine wBi rfl rfl rfl (qIdxA rfl rfl rfl rfl (by omega)) ?_
   refine jd_e rfl rfl (hSt1 rfl rfl rfl rfl rfl rfl (by rw [wLa hr1 hn2]; omega) (cen_setn hr1 hn2 (i := k.toNat) (by omega) (by omega))) ?_; rintro _ _ _ ⟨rfl, rfl⟩
   refine ⟨MLe.refl _, by simp, ?_⟩
   rw [show nodes.set k.toNat (IntKind.i64.wrap (nodes.getD k.toNat 0 + 1)) = inc nodes k.toNat from rfl]
   have hn3 : (inc nodes k.toNat).length = 256 := by rw [wGq]; exact hn2
   have hown1 : Own (.slice (some ⟨sg, 0, none⟩) st0.length sc0) [(sg, .cells scur 3 (0, 0))] 3 1 st0.length (wBj st0) := hown.cut rfl (by omega) (by simp [wBj])
   refine wEv ?_
   refine jPn (jT (wAb (wAa (jp rfl (jp rfl (wAi rfl rfl (wAx rfl rfl rfl) ?_))))))
   refine sFa rfl ?_
   refine wAi rfl rfl (qIdxA rfl rfl rfl rfl (by omega)) ?_
   refine wAi rfl rfl (qLd rfl rfl rfl rfl (CJ.loc (cen_nod hr1 hn3 (i := k.toNat) (by omega) (by omega)))) ?_
   refine js rfl (fun h57 => ?_) (fun h57 => ?_)
   ·refine wAc (jT (wAg rfl (wAs (jTx (jBx ?_)))))
    have hz := zer_set (nodes := nodes) (k := k.toNat) (v := IntKind.i64.wrap (nodes.getD k.toNat 0 + 1)) (by omega)
    refine wAp (f, refs, inc nodes k.toNat, st0, .slice (some ⟨sg, 0, none⟩) st0.length sc0, [(sg, .cells scur 3 (0, 0))]) (.cons (t := 0) rfl (.cons (t := 5) rfl .nil)) ⟨?_, ?_, by show f ≤ F0; omega, hr1, hfew2, fun y hy => hgd y (List.mem_append_left _ hy), hown1⟩ (by show f < f + 1; omega) (fun _ h => h)
    ·show _ = wEg s f st0 refs (inc nodes k.toNat)
     rw [hI]; exact treeF_again h57
    ·have hk0n := (hfew.2 k.toNat).1
     have hw : IntKind.i64.wrap (nodes.getD k.toNat 0 + 1) = nodes.getD k.toNat 0 + 1 := IntWalk.i64_in _ (by have := (hfew.2 k.toNat).2; omega)
     rw [hw, if_neg (by omega), if_neg (by omega)] at hz
     show st0.length + 6 * zer (nodes.set k.toNat _) ≤ f
     rw [hw]; omega
   ·refine wAc (jT (wAj rfl (wAd (jT (wAb (wAa (jp rfl (wAi rfl rfl (wAx rfl rfl rfl) ?_))))))))
    refine sFL rfl rfl ?_
    refine jp rfl ?_
    obtain ⟨lv, zs, za, zc, zp, hz1, hz2, hz3, hz4⟩ := hkg.get hmi1
    have hno := wCe hz1
    have hzl := hno.len
    refine wAi rfl rfl (qEq (qLookupV (z := .agg spnZ.toArray) rfl rfl rfl rfl (by kernel_rfl)) (v' := .agg (snc lv (.slice za zs.length zc) zp).toArray) (by rw [hz4]; rfl)) ?_
    refine wAi rfl rfl (qEq (qFieldA rfl rfl rfl rfl) (v' := .agg #[.int .i64 lv, .slice za zs.length zc]) rfl) ?_
    refine sAl rfl fun b7 => ?_
    refine sSt rfl ?_
    refine wAc (jT (wAb (wAa (sFL rfl rfl ?_))))
    refine wAi rfl rfl (wBq rfl rfl rfl) ?_
    refine jp rfl (wAc (jT (wAh ?_)))
    refine wAr (α := Nat × List Int × List Int × Value × Lc) (fun x => [(0, .pointer (some ⟨cb, 0, none⟩)), (5, x.2.2.2.1), (7, .pointer (some ⟨b7, 0, none⟩)), (66, .slice za zs.length zc), (67, .int .i64 zs.length), (68, .int .i64 x.1)]) (fun _ => M1) (fun x => ((b7, .cells [.int .i64 lv, .slice za zs.length zc].toArray TNd (0, 0)) :: (x.2.2.2.2 ++ [(cb, .cells (wGs bv wv nv lw pb m x.2.1 (inc nodes k.toNat) vs).toArray TCn (0, 0)), (m, wDk l2)]))) (fun x => x.1 ≤ zs.length ∧ (x.2.1, x.2.2.1) = (zs.take x.1).foldl (wGp lv) (refs, st0) ∧ x.2.1.length = 256 ∧ (∀ y ∈ x.2.2.1, Good s l2 y) ∧ x.2.2.1.length ≤ st0.length + x.1 ∧ Own x.2.2.2.1 x.2.2.2.2 3 1 x.2.2.1.length (wBj x.2.2.1)) (fun x => zs.length - x.1)
     (0, refs, st0, .slice (some ⟨sg, 0, none⟩) st0.length sc0, [(sg, .cells scur 3 (0, 0))]) (.cons (t := 0) rfl (.cons (t := 5) rfl (.cons (t := 7) rfl (.cons (t := 66) rfl (.cons (t := 67) rfl (.cons (t := 68) rfl .nil)))))) ⟨Nat.zero_le _, rfl, hr1, fun y hy => hgd y (List.mem_append_left _ hy), Nat.le_refl _, hown1⟩ (fun _ h => h) ?_
    rintro ⟨j, refs2, st2, v2, R⟩ ⟨hj, hfold, hr2, hgd2, hsl2, hown2⟩
    try dsimp only at hj hfold hr2 hgd2 hsl2 hown2 ⊢
    obtain ⟨va2, vc2, rfl⟩ := hown2.form
    refine wAb (wAa (js rfl (fun h69 => ?_) (fun h69 => ?_)))
    ·refine wAc (jT (wAb (wAg rfl (wAd (jT (wAb (wAh (wAb (wAa ?_)))))))))
     have hj1 : j < zs.length := by omega
     obtain ⟨qa, qc, ps, e0, hzc, hzs, hzp, hzb⟩ := id hz3
     cases e0
     obtain ⟨sb, so, e0, hx⟩ := hzs.open (by intro e; have := congrArg List.length e; rw [wAy wBc 5 wBe, List.length_nil] at this; have h2 := congrArg List.length hzp; rw [List.length_map] at h2; omega)
     subst e0
     obtain ⟨va, vc, hcl, hvc, hvs⟩ := wBr hx hzp hzb hj1
     have hxr := hno.ref zs[j] (List.getElem_mem hj1)
     refine wAi rfl rfl (wBa rfl rfl rfl rfl (by omega)) ?_
     refine wAi rfl rfl (wEy (cs := itc zs[j] va vc) rfl rfl rfl rfl rfl (fun i v hv => (hcl i v hv).cj _)) ?_
     refine sAl rfl fun b9 => ?_
     refine sSt rfl ?_
     refine wAc (jT (wAb (wAb (wAa (sFL rfl rfl ?_)))))
     refine js rfl (fun h74 => ?_) (fun h74 => ?_)
     ·refine wAc (jT (wAg rfl (wAs (jTx (jBx (jT (wAa (ja rfl (by omega) ?_))))))))
      refine jp rfl (wAc ?_)
      have hfs := fold_step (lv := lv) (a := (refs, st0)) hj1
      rw [← hfold] at hfs
      unfold wGp at hfs
      rw [if_pos h74] at hfs
      refine wAp (j + 1, refs2, st2, .slice va2 st2.length vc2, R) (.cons (t := 0) rfl (.cons (t := 5) rfl (.cons (t := 7) rfl (.cons (t := 66) rfl (.cons (t := 67) rfl (.cons (t := 68) rfl .nil)))))) ⟨by show j + 1 ≤ zs.length; omega, hfs.symm, ?_, ?_, ?_, ?_⟩ (by show zs.length - (j + 1) < zs.length - j; omega) (fun w h => h.fewer (.cons _ (.refl _)))
      ·exact hr2
      ·exact hgd2
      ·show st2.length ≤ st0.length + (j + 1); omega
      ·exact hown2
     ·refine wAc (jT (wAj rfl (wAd (jT (wAb (wCh (p := { A := fun i => !([11].contains i), U := fun i => !([11].contains i) }) [(0, true), (1, true), (2, true), (3, true), (4, true), (5, true), (6, true), (7, true), (8, true), (9, true), (10, true), (11, false)] M1 ([(b9, .cells (itc zs[j] va vc).toArray IT (0, 0)), (cb, .cells (wGs bv wv nv lw pb m refs2 (inc nodes k.toNat) vs).toArray TCn (0, 0))]) ([]) (by kernel_rfl) (by kernel_rfl) (by kernel_rfl) (by kernel_rfl) rfl (by simp) (MLe.refl _) (by simp) ?_))))))
      refine dp rfl rfl ?_
      refine dFa rfl rfl ?_
      refine dLd rfl rfl ?_
      refine wBi rfl rfl rfl (wAx rfl rfl rfl) ?_
      refine dFa rfl rfl ?_
      refine wBi rfl rfl rfl (qIdxA rfl rfl rfl rfl (by omega)) ?_
      refine wBi rfl rfl rfl (qLd rfl rfl rfl rfl (CJ.loc (cen_ref hr2 (i := zs[j].ref.toNat) (by omega) (by omega)))) ?_
      refine wBi rfl rfl rfl (qP rfl rfl) ?_
      refine wBi rfl rfl rfl (wAx rfl rfl rfl) ?_
      refine dFa rfl rfl ?_
      refine wBi rfl rfl rfl (qIdxA rfl rfl rfl rfl (by omega)) ?_
      refine jd_e rfl rfl (hSt1 rfl rfl rfl rfl rfl rfl (by rw [wLa hr2 hn3]; omega) (cen_setr hr2 hn3 (i := zs[j].ref.toNat) (by omega) (by omega))) ?_; rintro _ _ _ ⟨rfl, rfl⟩
      refine ⟨MLe.refl _, by simp, ?_⟩
      rw [show refs2.set zs[j].ref.toNat (IntKind.i64.wrap (refs2.getD zs[j].ref.toNat 0 + 1)) = inc refs2 zs[j].ref.toNat from rfl]
      refine wEv ?_
      refine jPn (jT (wAb (wAa (sFL rfl rfl ?_))))
      refine js rfl (fun h88 => ?_) (fun h88 => ?_)
      ·refine wAc (jT (wAg rfl (wAa (jp rfl (sFL rfl rfl ?_)))))
       refine wAw rfl rfl (wAm (cs := [_]) rfl rfl rfl (by rfl) (by rfl) (by rfl)) ?_; rintro _ _ _ ⟨b92, rfl, rfl, rfl⟩
       refine wAw rfl rfl (wDd (R := R) (m := 1) rfl rfl rfl rfl hown2 rfl (fun i v hv => CJ.loc (by simpa using hv)) rfl (by rfl) (by simp [Value.oneCell']) (by omega) (by omega)) ?_; rintro v3 _ _ ⟨rfl, R3, rfl, hown3, _⟩
       obtain ⟨va3, vc3, rfl⟩ := hown3.form
       refine jp rfl (wAc (jB (jT (wAa (ja rfl (by omega) ?_)))))
       refine jp rfl (wAc ?_)
       have hfs := fold_step (lv := lv) (a := (refs, st0)) hj1
       rw [← hfold] at hfs
       unfold wGp at hfs
       rw [if_neg h74, if_pos h88] at hfs
       refine wAp (j + 1, inc refs2 zs[j].ref.toNat, st2 ++ [zs[j].ref], .slice va3 (st2.length + 1) vc3, R3) (.cons (t := 0) rfl (.cons (t := 5) rfl (.cons (t := 7) rfl (.cons (t := 66) rfl (.cons (t := 67) rfl (.cons (t := 68) rfl .nil)))))) ⟨by show j + 1 ≤ zs.length; omega, hfs.symm, ?_, ?_, ?_, ?_⟩ (by show zs.length - (j + 1) < zs.length - j; omega) (fun w h => (h.perm (List.perm_append_comm_assoc R3 [_, _, _] [_, _])).fewer (.cons _ (.cons _ (.refl _))))
       ·show (inc _ _).length = 256; rw [wGq]; exact hr2
       ·show ∀ y ∈ st2 ++ [zs[j].ref], Good s l2 y
        intro y hy; rcases List.mem_append.1 hy with hy | hy
        ·exact hgd2 y hy
        ·rw [List.mem_singleton.1 hy]; exact hkg.kid hmi1 hz1 h88 (List.getElem_mem hj1)
       ·show (st2 ++ [zs[j].ref]).length ≤ st0.length + (j + 1); rw [List.length_append]; simp only [List.length_cons, List.length_nil]; omega
       ·show Own _ _ _ _ (st2 ++ [zs[j].ref]).length (wBj (st2 ++ [zs[j].ref]))
        rw [List.length_append, show wBj (st2 ++ [zs[j].ref]) = wBj st2 ++ [.int .i64 zs[j].ref] by simp [wBj]]; exact hown3
      ·refine wAc (jT (wAj rfl (wAd (jB (jT (wAa (ja rfl (by omega) ?_)))))))
       refine jp rfl (wAc ?_)
       have hfs := fold_step (lv := lv) (a := (refs, st0)) hj1
       rw [← hfold] at hfs
       unfold wGp at hfs
       rw [if_neg h74, if_neg h88] at hfs
       refine wAp (j + 1, inc refs2 zs[j].ref.toNat, st2, .slice va2 st2.length vc2, R) (.cons (t := 0) rfl (.cons (t := 5) rfl (.cons (t := 7) rfl (.cons (t := 66) rfl (.cons (t := 67) rfl (.cons (t := 68) rfl .nil)))))) ⟨by show j + 1 ≤ zs.length; omega, hfs.symm, ?_, ?_, ?_, ?_⟩ (by show zs.length - (j + 1) < zs.length - j; omega) (fun w h => h.fewer (.cons _ (.refl _)))
       ·show (inc _ _).length = 256; rw [wGq]; exact hr2
       ·exact hgd2
       ·show st2.length ≤ st0.length + (j + 1); omega
       ·exact hown2
    ·refine wAc (jT (wAb (wAj rfl (wAs (jTx (jTx (jBx (jB ?_))))))))
     obtain rfl : j = zs.length := by omega
     rw [List.take_length] at hfold
     have hz := zer_set (nodes := nodes) (k := k.toNat) (v := IntKind.i64.wrap (nodes.getD k.toNat 0 + 1)) (by omega)
     have hfl := (fold_len (lv := lv) zs (refs, st0)).2
     rw [← hfold] at hfl
     refine wAp (f, refs2, inc nodes k.toNat, st2, .slice va2 st2.length vc2, R) (.cons (t := 0) rfl (.cons (t := 5) rfl .nil)) ⟨?_, ?_, by show f ≤ F0; omega, hr2, hfew2, hgd2, hown2⟩ (by show f < f + 1; omega) (fun _ h => h.fewer (.cons _ (.refl _)))
     ·show _ = wEg s f st2 refs2 (inc nodes k.toNat)
      rw [hI, treeF_node h57 hz1, ← hfold]
     ·have hk0n := (hfew.2 k.toNat).1
      have hw : IntKind.i64.wrap (nodes.getD k.toNat 0 + 1) = nodes.getD k.toNat 0 + 1 := IntWalk.i64_in _ (by have := (hfew.2 k.toNat).2; omega)
      rw [hw, if_pos (by omega), if_neg (by omega)] at hz
      show st2.length + 6 * zer (nodes.set k.toNat _) ≤ f
      rw [hw]; simp only at hfl; omega
  ·refine wAc (jT (wAj rfl (wAs (jTx (jTx (jBx (jT (wAb (wAa (jp rfl (wAc (jT (wAe ?_)))))))))))))
   obtain rfl : st = [] := List.eq_nil_of_length_eq_zero (by omega)
   rw [treeF_nil] at hI
   refine wDh (L' := [(cb, .cells (wGs bv wv nv lw pb m refs nodes vs).toArray TCn (0, 0)), (m, wDk l2)]) (fun w h => h.fewer (List.sublist_append_right _ _)) ?_
   refine jr1 rfl rfl ?_
   unfold TreeP; rw [if_pos hroot, hI]
   exact ⟨rfl, l2, rfl, hmi1, hext1⟩
 ·refine jp rfl (wAc (jT (wAg rfl (wAb (wAa (jp rfl (wAc (jT (wAe (jTr (wAv (L' := []) (List.nil_sublist _) ?_)))))))))))
  refine jr1 rfl rfl ?_
  unfold TreeP
  rw [if_neg (by
   rcases hlr2 with ⟨h1, _⟩ | ⟨ys, h1, _, _, h2, _⟩
   ·rw [rtOk_no h1]; decide
   ·rw [rtOk_is h1, ← h2, h13]; decide)]
  exact ⟨rfl, rfl⟩
end Go.Proofs.YtoincdcejjdgkaaGreat
