/- THE WALKING LAYER, one part more: a block that is new since the entry may be written again. No statement of the seat is proved here. -/
import Derived.Test.YtbhkdjheooknfaaGreatZHf
import Derived.Test.YtbhkdjheooknfaaGreatZHk
import Derived.MapKept
import Derived.ArgAppend
namespace Go.Proofs.YtbhkdjheooknfaaGreat
set_option linter.unusedSimpArgs false
set_option linter.unusedVariables false
set_option linter.unusedSectionVars false
open Go.RowKit
def plain : Obj → Bool
 | .cells _ _ fz => decide (fz = (0, 0))
 | _ => false
def wDm (M M' : Mem) : Mem := fun b => match M b with | none => (match M' b with | some o => if plain o = true then some o else none | none => none) | some _ => none
theorem newOf_iff {M M' : Mem} {b : Nat} {o : Obj} : wDm M M' b = some o ↔ M b = none ∧ M' b = some o ∧ plain o = true := by
 unfold wDm
 cases h1 : M b with
 | some x => simp
 | none =>
  cases h2 : M' b with
  | none => simp
  | some x =>
   by_cases hp : plain x = true
   ·simp only [if_pos hp]; exact ⟨fun h => by cases h; exact ⟨trivial, rfl, hp⟩, fun h => h.2.1⟩
   simp only [if_neg hp]; exact ⟨fun h => (by cases h), fun h => absurd (by have := h.2.1; cases this; exact h.2.2) hp⟩
theorem wHr (M M' : Mem) : MLe (wDm M M') M' := fun b o h => (newOf_iff.1 h).2.1
theorem newOf_mono {M M1 M2 : Mem} (h : MLe M1 M2) : MLe (wDm M M1) (wDm M M2) := fun b o hb => by
 obtain ⟨h1, h2, h3⟩ := newOf_iff.1 hb
 exact newOf_iff.2 ⟨h1, h b o h2, h3⟩
theorem wGh {M0 M M' : Mem} (h : MLe M0 M) : MLe (wDm M M') (wDm M0 M') := fun b o hb => by
 obtain ⟨h1, h2, h3⟩ := newOf_iff.1 hb
 refine newOf_iff.2 ⟨?_, h2, h3⟩
 cases h0 : M0 b with
 | none => rfl
 | some x => rw [h b x h0] at h1; cases h1
section
variable {P : Program} {ops : Array Oper} {N : Fs} {F : Fr} {W : World} {X : List Nat} {M0 M : Mem} {L : Lc} {o : Oper} {Q : Exit → Act → World → Prop} {rest : List Oper}
theorem Own.freezeN {v : Value} {R : Lc} {e : TypeId} {size n : Nat} {xs : List Value} (ho : Own v R e size n xs) (hg : ∀ p ∈ R, p.1 ∉ X) {w : World} (h : St ⟨W, X, M0⟩ M (R ++ L) w) : ∃ M' a cap, MLe M M' ∧ v = .slice a n cap ∧ n ≤ cap ∧ SM (wDm M M') a xs ∧ St ⟨W, X, M0⟩ M' L w := by
 rcases ho.2 with ⟨rfl, rfl, rfl⟩ | ⟨g, cap, cur, rfl, rfl, h1, h2, h3, h4⟩
 ·have : xs = [] := List.eq_nil_of_length_eq_zero (by simpa using ho.1)
  subst this
  exact ⟨M, none, 0, MLe.refl _, rfl, Nat.le_refl _, .inl rfl, h⟩
 have hn : M g = none := (h.locs (g, .cells cur e (0, 0)) (by simp)).2.2
 obtain ⟨k1, k2, k3⟩ := St.freeze' (hg (g, .cells cur e (0, 0)) (by simp)) h
 refine ⟨_, _, cap, k2, rfl, h1, .inr ⟨g, 0, rfl, fun i u hu => ⟨cur, e, (0, 0), ?_, ?_⟩⟩, k1⟩
 ·exact newOf_iff.2 ⟨hn, k3, rfl⟩
 rw [← h4, List.getElem?_take] at hu
 split at hu
 ·simpa using hu
 cases hu
theorem jl_ownN {v : Value} {R L2 : Lc} {e : TypeId} {size n : Nat} {xs : List Value} (ho : Own v R e size n xs) [hp : Pick R L L2] (hg : ∀ p ∈ R, p.1 ∉ X)
  (h : ∀ M' a cap, MLe M M' → v = .slice a n cap → n ≤ cap → SM (wDm M M') a xs → JL P ops N Q rest F ⟨W, X, M0⟩ M' L2) : JL P ops N Q rest F ⟨W, X, M0⟩ M L := by
 intro a w ha hw
 obtain ⟨M', ad, cap, k1, k2, k3, k4, k5⟩ := ho.freezeN hg (hw.perm hp.perm)
 exact h M' ad cap k1 k2 k3 k4 a w ha k5
theorem jq_ownN {ex : Exit} {v : Value} {R L2 : Lc} {e : TypeId} {size n : Nat} {xs : List Value} (ho : Own v R e size n xs) [hp : Pick R L L2] (hg : ∀ p ∈ R, p.1 ∉ X)
  (h : ∀ M' a cap, MLe M M' → v = .slice a n cap → n ≤ cap → SM (wDm M M') a xs → JQ N ex F ⟨W, X, M0⟩ M' L2 Q) : JQ N ex F ⟨W, X, M0⟩ M L Q := by
 intro a w ha hw
 obtain ⟨M', ad, cap, k1, k2, k3, k4, k5⟩ := ho.freezeN hg (hw.perm hp.perm)
 exact h M' ad cap k1 k2 k3 k4 a w ha k5
end
theorem Own.lent {v : Value} {R : Lc} {e : TypeId} {size n : Nat} {xs : List Value} {M : Mem} (ho : Own v R e size n xs) (h : ∀ p ∈ R, M p.1 = some p.2) : ∃ a cap, v = .slice a n cap ∧ n ≤ cap ∧ SM M a xs := by
 rcases ho.2 with ⟨rfl, rfl, rfl⟩ | ⟨g, cap, cur, rfl, rfl, h1, h2, h3, h4⟩
 ·have : xs = [] := List.eq_nil_of_length_eq_zero (by simpa using ho.1)
  exact ⟨none, 0, rfl, Nat.le_refl _, .inl this⟩
 refine ⟨_, cap, rfl, h1, .inr ⟨g, 0, rfl, fun i u hu => ⟨cur, e, (0, 0), h (g, .cells cur e (0, 0)) (by simp), ?_⟩⟩⟩
 rw [← h4, List.getElem?_take] at hu
 split at hu
 ·simpa using hu
 cases hu
theorem St.setObj {E : Ent} {M : Mem} {w w' : World} {b : Nat} {o o' : Obj} {A B : Lc} (h : St E M (A ++ (b, o) :: B) w) (hos : w'.os = w.os) (ht : w'.tape = w.tape) (ho : w'.output = w.output) (hs : w'.heap.size = w.heap.size)
  (hb' : w'.heap[b]? = some o') (hr : ∀ k, k ≠ b → w'.heap[k]? = w.heap[k]?) : St E M (A ++ (b, o') :: B) w' := by
 have hb := h.locs (b, o) (by simp)
 have hne : ∀ p ∈ A ++ B, p.1 ≠ b := by
  intro p hp he
  have hn := h.nodup
  rw [List.map_append, List.map_cons] at hn
  have := (List.nodup_append.1 hn)
  rcases List.mem_append.1 hp with hp | hp
  ·exact this.2.2 p.1 (List.mem_map.2 ⟨p, hp, rfl⟩) b (by simp) he
  exact (List.nodup_cons.1 this.2.1).1 (List.mem_map.2 ⟨p, hp, he⟩)
 exact
  {os := hos.trans h.os, tape := ht.trans h.tape, output := ho.trans h.output, size := by rw [hs]; exact h.size
   same := fun k hk hx => by
    have : k ≠ b := fun e => by subst e; exact hb.2.1.elim (fun h => by omega) hx
    rw [hr k this]; exact h.same k hk hx
   fresh := h.fresh
   agree := fun k x hx => by
    have : k ≠ b := fun e => by subst e; rw [hb.2.2] at hx; cases hx
    rw [hr k this]; exact h.agree k x hx
   locs := fun p hp => by
    rcases List.mem_append.1 hp with hp | hp
    ·have hp' := h.locs p (by simp [hp])
     exact ⟨by rw [hr _ (hne p (by simp [hp]))]; exact hp'.1, hp'.2⟩
    rcases List.mem_cons.1 hp with rfl | hp
    ·exact ⟨hb', hb.2⟩
    have hp' := h.locs p (by simp [hp])
    exact ⟨by rw [hr _ (hne p (by simp [hp]))]; exact hp'.1, hp'.2⟩
   nodup := by have := h.nodup; simpa [List.map_append] using this }
section
variable {P : Program} {ops : Array Oper} {N : Fs} {F : Fr} {E : Ent} {M : Mem} {L : Lc} {o : Oper}
def Que (v : Value) (R : Lc) (t : TypeId) (xs : List Value) : Prop := ∃ g off cap cur, v = .slice (some ⟨g, off, none⟩) xs.length cap ∧ R = [(g, .cells cur t (0, 0))] ∧ off + cap ≤ cur.size ∧ xs.length ≤ cap ∧ cap ≤ maxLen ∧ (cur.toList.drop off).take xs.length = xs
theorem Que.one {g : Nat} {t : TypeId} {v : Value} : Que (.slice (some ⟨g, 0, none⟩) 1 1) [(g, .cells [v].toArray t (0, 0))] t [v] := ⟨g, 0, 1, [v].toArray, rfl, rfl, by simp, by simp, by decide, by simp⟩
theorem Que.tail {g off cap : Nat} {R : Lc} {t : TypeId} {x : Value} {xs : List Value} {n : Nat} (h : Que (.slice (some ⟨g, off, none⟩) n cap) R t (x :: xs)) : Que (.slice (slA (some ⟨g, off, none⟩) 1 cap 1) (n - 1) (cap - 1)) R t xs := by
 obtain ⟨g', off', cap', cur, e, rfl, h1, h2, h3, h4⟩ := h
 simp only [Value.slice.injEq, Option.some.injEq, Addr.mk.injEq, true_and, and_true] at e
 obtain ⟨⟨rfl, rfl⟩, rfl, rfl⟩ := e
 simp only [List.length_cons] at h2 h4 ⊢
 by_cases hc : cap = 1
 ·subst hc
  obtain rfl : xs = [] := List.eq_nil_of_length_eq_zero (by omega)
  exact ⟨g, off, 0, cur, rfl, rfl, by omega, by simp, by decide, by simp⟩
 have hx : (cur.toList.drop (off + 1)).take xs.length = xs := by
  have h5 : (cur.toList.drop off).drop 1 = cur.toList.drop (off + 1) := by rw [List.drop_drop]
  rw [← h5]
  generalize cur.toList.drop off = d at h4
  cases d with
  | nil => simp at h4
  | cons y ys => simp only [List.take_succ_cons, List.cons.injEq] at h4; simpa using h4.2
 exact ⟨g, off + 1, cap - 1, cur, by rw [wBu (by omega)]; simp, rfl, by omega, by omega, by omega, hx⟩
theorem Que.cj {g off n cap : Nat} {R : Lc} {t : TypeId} {xs : List Value} (h : Que (.slice (some ⟨g, off, none⟩) n cap) R t xs) {L : Lc} (hR : ∀ p ∈ R, p ∈ L) {M : Mem} {i : Nat} {x : Value} (hx : xs[i]? = some x) : CJ M L g (off + i) x := by
 obtain ⟨g', off', cap', cur, e, rfl, h1, h2, h3, h4⟩ := h
 simp only [Value.slice.injEq, Option.some.injEq, Addr.mk.injEq, true_and, and_true] at e
 obtain ⟨⟨rfl, rfl⟩, rfl, rfl⟩ := e
 refine ⟨cur, t, (0, 0), .inr (hR _ (by simp)), ?_⟩
 have hi : i < xs.length := (List.getElem?_eq_some_iff.1 hx).1
 rw [← h4, List.getElem?_take_of_lt hi, List.getElem?_drop] at hx
 simpa using hx
end
def wEx : Nat → List (Int × Value) → List MapEntry
 | _, [] => []
 | j, p :: l => { key := .int .i64 p.1, val := p.2, born := j } :: wEx (j + 1) l
def wDh (l : List (Int × Value)) : Obj := .map (wEx 0 l).toArray l.length
def fndV (k : Int) : List (Int × Value) → Nat → Option (Nat × Value)
 | [], _ => none
 | p :: l, i => if k = p.1 then some (i, p.2) else fndV k l (i + 1)
def wGr (k : Int) : List (Int × Value) → Option Value
 | [] => none
 | p :: l => if k = p.1 then some p.2 else wGr k l
def putV (k : Int) (v : Value) : List (Int × Value) → List (Int × Value)
 | [] => [(k, v)]
 | p :: l => if k = p.1 then (k, v) :: l else p :: putV k v l
theorem wGu {q : IntKind} (k : Int) : ∀ (l : List (Int × Value)) (j i : Nat), Instr.findNow (.int q) (.int .i64 k) (wEx j l) i = some (fndV k l i)
 | [], _, _ => rfl
 | p :: l, j, i => by
  rw [wEx, Instr.findNow, fndV]
  by_cases h : k = p.1
  ·simp [Instr.sameNow, h]
  have h2 : (k == p.1) = false := by simpa using h
  simp only [Instr.sameNow, if_true, h2, if_neg h]
  exact wGu k l (j + 1) (i + 1)
theorem fndV_get (k : Int) : ∀ (l : List (Int × Value)) (i : Nat), (fndV k l i = none ∧ wGr k l = none) ∨ ∃ j v, fndV k l i = some (i + j, v) ∧ wGr k l = some v ∧ j < l.length
 | [], _ => .inl ⟨rfl, rfl⟩
 | p :: l, i => by
  rw [fndV, wGr]
  by_cases h : k = p.1
  ·rw [if_pos h, if_pos h]; exact .inr ⟨0, p.2, rfl, rfl, by simp⟩
  rw [if_neg h, if_neg h]
  rcases fndV_get k l (i + 1) with h1 | ⟨j, v, h1, h2, h3⟩
  ·exact .inl h1
  exact .inr ⟨j + 1, v, by rw [h1]; congr 2; omega, h2, by simp; omega⟩
theorem putV_new (k : Int) (v : Value) : ∀ (l : List (Int × Value)) (i j : Nat), fndV k l i = none → wEx j (putV k v l) = wEx j l ++ [{ key := .int .i64 k, val := v, born := j + l.length }] ∧ (putV k v l).length = l.length + 1
 | [], _, j, _ => ⟨by simp [putV, wEx], rfl⟩
 | p :: l, i, j, h => by
  rw [fndV] at h
  split at h
  ·cases h
  rename_i hk
  obtain ⟨h1, h2⟩ := putV_new k v l (i + 1) (j + 1) h
  rw [putV, if_neg hk]
  refine ⟨?_, by simp [h2]⟩
  rw [wEx, h1, wEx]; simp [Nat.add_comm, Nat.add_left_comm]
theorem putV_old (k : Int) (v : Value) : ∀ (l : List (Int × Value)) (i j n : Nat) (u : Value), fndV k l i = some (n, u) → i ≤ n ∧ wEx j (putV k v l) = (wEx j l).modify (n - i) (fun e => { e with key := .int .i64 k, val := v }) ∧ (putV k v l).length = l.length ∧ ∃ e, (wEx j l)[n - i]? = some e ∧ e.key = .int .i64 k
 | [], _, _, _, _, h => by cases h
 | p :: l, i, j, n, u, h => by
  rw [fndV] at h
  rw [putV]
  split at h
  ·rename_i hk
   cases h
   rw [if_pos hk]
   exact ⟨Nat.le_refl _, by simp [wEx], rfl, _, by simp [wEx]; rfl, by simp [hk]⟩
  rename_i hk
  rw [if_neg hk]
  obtain ⟨h1, h2, h3, e, h4, h5⟩ := putV_old k v l (i + 1) (j + 1) n u h
  have hn : n - i = (n - (i + 1)) + 1 := by omega
  refine ⟨by omega, ?_, by simp [h3], e, ?_, h5⟩
  ·rw [wEx, h2, wEx, hn]; rfl
  rw [wEx, hn]; simpa using h4
theorem wHv (k : Int) (v : Value) : ∀ (l : List (Int × Value)) (x : Int), wGr x (putV k v l) = if x = k then some v else wGr x l
 | [], x => by simp [putV, wGr]
 | p :: l, x => by
  rw [putV]
  by_cases h : k = p.1
  ·rw [if_pos h, wGr, wGr]
   by_cases hx : x = k
   ·simp [hx]
   simp [hx, ← h]
  rw [if_neg h, wGr, wGr, wHv k v l x]
  by_cases hx : x = p.1
  ·rw [if_pos hx, if_pos hx, if_neg (fun e => h (by rw [← e, hx]))]
  rw [if_neg hx, if_neg hx]
section
variable {P : Program} {ops : Array Oper} {N : Fs} {F : Fr} {E : Ent} {M : Mem} {L : Lc} {o : Oper}
theorem hMakeMapV {t : TypeId} (hg : gd ops F o = some true) (ho : o.op = .makeMap t none) :
  HF P ops N F E M L o (fun v M' L' => ∃ b, v = .map (some b) ∧ M = M' ∧ L' = (b, wDh []) :: L) := wKd hg fun a w ha hw =>
 ⟨_, _, M, _, .inl (by simp [execOp, ho, Instr.makeMap, newObj]; rfl), hw.alloc (wDh []), _, rfl, rfl, rfl⟩
theorem run_lookupV {t kt et : TypeId} (ht : P.underlying t = some (.map kt et)) (hk : P.underlying kt = some (.int .i64)) {w : World} {z : Value} (hz : (zeroValue et).run P w = .ok z w) {b : Nat} {l : List (Int × Value)} (hb : w.heap[b]? = some (wDh l)) (k : Int) (c : Bool) :
  (Instr.lookup t (.map (some b)) (.int .i64 k) c).run P w = .ok (if c then .tuple #[(wGr k l).getD z, .bool (wGr k l).isSome] else (wGr k l).getD z) w := by
 have hik : MapKept.IsKey (.int .i64) (.int .i64 k) := by simp [MapKept.IsKey]
 have hf : Instr.findNow (.int .i64) (.int .i64 k) (wEx 0 l).toArray.toList 0 = some (fndV k l 0) := wGu k l 0 0
 have h1 := MapKept.run_getObj_map (P := P) (w := w) (r := b) (es := (wEx 0 l).toArray) (clock := l.length) hb
 rcases fndV_get k l 0 with ⟨h2, h3⟩ | ⟨j, v, h2, h3, _⟩
 ·rw [h2] at hf
  simp [Instr.lookup, run_underlying ht, h1, MapKept.run_checkKey hk hik, MapKept.run_findKey hk hf, Result.andThen, hz, h3]
 rw [h2] at hf
 simp [Instr.lookup, run_underlying ht, h1, MapKept.run_checkKey hk hik, MapKept.run_findKey hk hf, Result.andThen, h3]
theorem zero_run {et : TypeId} {z : Value} (he : (P.info? et).bind (·.zero) = some z) (w : World) : (zeroValue et).run P w = .ok z w := by
 cases hi : P.info? et with
 | none => rw [hi] at he; cases he
 | some ti =>
  rw [hi] at he
  have hz : ti.zero = some z := he
  simp [zeroValue, typeInfo, hi, hz]
theorem qLookupV {t kt et : TypeId} {x y : Operand} {b : Nat} {k : Int} {l : List (Int × Value)} {z : Value} (hg : gd ops F o = some true) (ho : o.op = .lookup t x y false) (hx : ev F x = some (.map (some b))) (hy : ev F y = some (.int .i64 k))
  [ht : Und P t (.map kt et)] [hk : Und P kt (.int .i64)] [at_ : At b (wDh l) L] (he : (P.info? et).bind (·.zero) = some z) : QF P ops N F M L o ((wGr k l).getD z) := wDs hg fun a ha w hw => by
 have := run_lookupV (P := P) ht.h hk.h (zero_run he w) (hw.locs _ at_.mem) k false
 simp only [Bool.false_eq_true, if_false] at this
 simp [execOp, ho, ha.ev hx, ha.ev hy, this]
theorem qLookupOk {t kt et : TypeId} {x y : Operand} {b : Nat} {k : Int} {l : List (Int × Value)} {z : Value} (hg : gd ops F o = some true) (ho : o.op = .lookup t x y true) (hx : ev F x = some (.map (some b))) (hy : ev F y = some (.int .i64 k))
  [ht : Und P t (.map kt et)] [hk : Und P kt (.int .i64)] [at_ : At b (wDh l) L] (he : (P.info? et).bind (·.zero) = some z) : QF P ops N F M L o (.tuple #[(wGr k l).getD z, .bool (wGr k l).isSome]) := wDs hg fun a ha w hw => by
 have := run_lookupV (P := P) ht.h hk.h (zero_run he w) (hw.locs _ at_.mem) k true
 simp only [if_true] at this
 simp [execOp, ho, ha.ev hx, ha.ev hy, this]
theorem run_mapPutV {t kt et : TypeId} (ht : P.underlying t = some (.map kt et)) (hk : P.underlying kt = some (.int .i64)) {w : World} {b : Nat} {l : List (Int × Value)} (hb : w.heap[b]? = some (wDh l)) (k : Int) (v : Value) :
  (Instr.mapUpdate t (.map (some b)) (.int .i64 k) v).run P w = .ok () { w with heap := w.heap.setIfInBounds b (wDh (putV k v l)) } := by
 have hik : MapKept.IsKey (.int .i64) (.int .i64 k) := by simp [MapKept.IsKey]
 have hf : Instr.findNow (.int .i64) (.int .i64 k) (wEx 0 l).toArray.toList 0 = some (fndV k l 0) := wGu k l 0 0
 have h1 := MapKept.run_getObj_map (P := P) (w := w) (r := b) (es := (wEx 0 l).toArray) (clock := l.length) hb
 cases h2 : fndV k l 0 with
 | none =>
  rw [h2] at hf
  obtain ⟨e1, e2⟩ := putV_new k v l 0 0 h2
  have e3 : wDh (putV k v l) = .map ((wEx 0 l).toArray.push { key := .int .i64 k, val := v, born := l.length }) (l.length + 1) := by
   unfold wDh; rw [e1, e2]; simp
  simp [Instr.mapUpdate, run_underlying ht, h1, MapKept.run_checkKey hk hik, MapKept.run_findKey hk hf, Result.andThen, MapKept.run_setObj_map _ (show w.heap[b]? = some (.map (wEx 0 l).toArray l.length) from hb), e3]
 | some r =>
  obtain ⟨n, u⟩ := r
  rw [h2] at hf
  obtain ⟨_, e1, e2, e, e4, e5⟩ := putV_old k v l 0 0 n u h2
  have e3 : wDh (putV k v l) = .map ((wEx 0 l).toArray.modify n (fun e => { e with key := .int .i64 k, val := v })) l.length := by
   unfold wDh; rw [e1, e2]; simp
  have e6 : (wEx 0 l)[n]? = some e := by simpa using e4
  simp [Instr.mapUpdate, run_underlying ht, h1, MapKept.run_checkKey hk hik, MapKept.run_findKey hk hf, Result.andThen, e6, e5, MapKept.run_keyThatStays hik, MapKept.run_setObj_map _ (show w.heap[b]? = some (.map (wEx 0 l).toArray l.length) from hb), e3]
theorem hMapPutV {t kt et : TypeId} {x y z : Operand} {b : Nat} {k : Int} {v : Value} {l : List (Int × Value)} {L' : Lc} (hg : gd ops F o = some true) (ho : o.op = .mapUpdate t x y z ∨ o.op = .insert t x y z) (hx : ev F x = some (.map (some b))) (hy : ev F y = some (.int .i64 k)) (hz : ev F z = some v)
  [ht : Und P t (.map kt et)] [hk : Und P kt (.int .i64)] [at_ : At b (wDh l) L] [hp : PutAt b (wDh l) (wDh (putV k v l)) L L'] : HF P ops N F E M L o (fun _ M' L'' => M = M' ∧ L'' = L') := wKd hg fun a w ha hw => by
 have hb : w.heap[b]? = some (wDh l) := (hw.locs (b, wDh l) at_.mem).1
 obtain ⟨A, B, rfl, rfl⟩ := hp.ex
 have hr := run_mapPutV (P := P) ht.h hk.h hb k v
 refine ⟨undef, { w with heap := w.heap.setIfInBounds b (wDh (putV k v l)) }, M, _, .inr ⟨rfl, ?_⟩, hw.setObj rfl rfl rfl (by simp) (MapKept.heap_set hb).1 (fun k hk => (MapKept.heap_set hb).2 k hk), rfl, rfl⟩
 rcases ho with ho | ho <;> simp [execOp, ho, ha.ev hx, ha.ev hy, ha.ev hz, hr]
end
def Mem.del (M : Mem) (g : Nat) : Mem := fun k => if k = g then none else M k
theorem Mem.del_other {M : Mem} {g k : Nat} (h : k ≠ g) : (M.del g) k = M k := by unfold Mem.del; rw [if_neg h]
theorem Mem.del_self {M : Mem} {g : Nat} : (M.del g) g = none := by unfold Mem.del; rw [if_pos rfl]
theorem St.thaw {W : World} {X : List Nat} {M0 M : Mem} {L : Lc} {w : World} {g : Nat} {ob : Obj} (hm : M g = some ob) (h0 : M0 g = none) (h : St ⟨W, X, M0⟩ M L w) : St ⟨W, X, M0⟩ (M.del g) ((g, ob) :: L) w := by
 have hg : W.heap.size ≤ g := Nat.le_of_not_lt fun hl => by
  have e : M g = M0 g := h.fresh g hl
  rw [hm, h0] at e; cases e
 refine { h with fresh := fun k hk => ?_, agree := fun b o hb => ?_, locs := fun p hp => ?_, nodup := ?_ }
 ·have hk' : k < W.heap.size := hk
  rw [Mem.del_other (by omega)]; exact h.fresh k hk
 ·by_cases e : b = g
  ·subst e; rw [Mem.del_self] at hb; cases hb
  rw [Mem.del_other e] at hb; exact h.agree b o hb
 ·rcases List.mem_cons.1 hp with rfl | hp
  ·exact ⟨h.agree _ _ hm, .inl hg, Mem.del_self⟩
  obtain ⟨h1, h2, h3⟩ := h.locs p hp
  refine ⟨h1, h2, ?_⟩
  by_cases e : p.1 = g
  ·rw [e]; exact Mem.del_self
  rw [Mem.del_other e]; exact h3
 rw [List.map_cons, List.nodup_cons]
 refine ⟨fun hmem => ?_, h.nodup⟩
 obtain ⟨p, hp, e⟩ := List.mem_map.1 hmem
 have := (h.locs p hp).2.2
 rw [show p.1 = g from e, hm] at this; cases this
section
variable {P : Program} {ops : Array Oper} {N : Fs} {F : Fr} {W : World} {X : List Nat} {M0 M : Mem} {L : Lc} {Q : Exit → Act → World → Prop} {rest : List Oper}
theorem jc_thaw {c : Code} {g : Nat} {ob : Obj} (hm : M g = some ob) (h0 : M0 g = none) (h : JC P N c F ⟨W, X, M0⟩ (M.del g) ((g, ob) :: L) Q) : JC P N c F ⟨W, X, M0⟩ M L Q := fun a w ha hw => h a w ha (hw.thaw hm h0)
end
end Go.Proofs.YtbhkdjheooknfaaGreat
