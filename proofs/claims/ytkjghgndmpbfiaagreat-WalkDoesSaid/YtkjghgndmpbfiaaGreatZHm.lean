/- THE WALKING LAYER: maps from int to int; a queue of ints. No statement of the seat is proved here. -/
import Derived.Test.YtkjghgndmpbfiaaGreatZHk
import Derived.MapKept
import Derived.ArgAppend
namespace Go.Proofs.YtkjghgndmpbfiaaGreat
set_option linter.unusedVariables false
set_option linter.unusedSectionVars false
set_option linter.unusedSimpArgs false
open Go.RowKit

/-! ### maps from int to int: the entries in the order in which they came -/
def ents : Nat → List (Int × Int) → List MapEntry
 | _, [] => []
 | j, p :: l => { key := .int .i64 p.1, val := .int .i64 p.2, born := j } :: ents (j + 1) l
def mObj (l : List (Int × Int)) : Obj := .map (ents 0 l).toArray l.length
def fnd2 (k : Int) : List (Int × Int) → Nat → Option (Nat × Value)
 | [], _ => none
 | p :: l, i => if k = p.1 then some (i, .int .i64 p.2) else fnd2 k l (i + 1)
def getL (k : Int) : List (Int × Int) → Int
 | [] => 0
 | p :: l => if k = p.1 then p.2 else getL k l
def putL (k v : Int) : List (Int × Int) → List (Int × Int)
 | [] => [(k, v)]
 | p :: l => if k = p.1 then (k, v) :: l else p :: putL k v l
theorem findNow_ents {q : IntKind} (k : Int) : ∀ (l : List (Int × Int)) (j i : Nat), Instr.findNow (.int q) (.int .i64 k) (ents j l) i = some (fnd2 k l i)
 | [], _, _ => rfl
 | p :: l, j, i => by
  rw [ents, Instr.findNow, fnd2]
  by_cases h : k = p.1
  ·simp [Instr.sameNow, h]
  ·have h2 : (k == p.1) = false := by simpa using h
   simp only [Instr.sameNow, if_true, h2, if_neg h]
   exact findNow_ents k l (j + 1) (i + 1)
theorem fnd2_get (k : Int) : ∀ (l : List (Int × Int)) (i : Nat), (fnd2 k l i = none ∧ getL k l = 0) ∨ ∃ j, fnd2 k l i = some (i + j, .int .i64 (getL k l)) ∧ j < l.length
 | [], _ => .inl ⟨rfl, rfl⟩
 | p :: l, i => by
  rw [fnd2, getL]
  by_cases h : k = p.1
  ·rw [if_pos h, if_pos h]; exact .inr ⟨0, rfl, by simp⟩
  ·rw [if_neg h, if_neg h]
   rcases fnd2_get k l (i + 1) with h1 | ⟨j, h1, h2⟩
   ·exact .inl h1
   ·exact .inr ⟨j + 1, by rw [h1]; congr 2; omega, by simp; omega⟩
theorem ents_len : ∀ (l : List (Int × Int)) (j : Nat), (ents j l).length = l.length
 | [], _ => rfl
 | p :: l, j => by simp [ents, ents_len l]
theorem put_new (k v : Int) : ∀ (l : List (Int × Int)) (i j : Nat), fnd2 k l i = none → ents j (putL k v l) = ents j l ++ [{ key := .int .i64 k, val := .int .i64 v, born := j + l.length }] ∧ (putL k v l).length = l.length + 1
 | [], _, j, _ => ⟨by simp [putL, ents], rfl⟩
 | p :: l, i, j, h => by
  rw [fnd2] at h
  split at h
  ·cases h
  rename_i hk
  obtain ⟨h1, h2⟩ := put_new k v l (i + 1) (j + 1) h
  rw [putL, if_neg hk]
  refine ⟨?_, by simp [h2]⟩
  rw [ents, h1, ents]; simp [Nat.add_comm, Nat.add_left_comm]
theorem put_old (k v : Int) : ∀ (l : List (Int × Int)) (i j n : Nat) (u : Value), fnd2 k l i = some (n, u) → i ≤ n ∧ ents j (putL k v l) = (ents j l).modify (n - i) (fun e => { e with key := .int .i64 k, val := .int .i64 v }) ∧ (putL k v l).length = l.length ∧ ∃ e, (ents j l)[n - i]? = some e ∧ e.key = .int .i64 k
 | [], _, _, _, _, h => by cases h
 | p :: l, i, j, n, u, h => by
  rw [fnd2] at h
  rw [putL]
  split at h
  ·rename_i hk
   cases h
   rw [if_pos hk]
   exact ⟨Nat.le_refl _, by simp [ents], rfl, _, by simp [ents]; rfl, by simp [hk]⟩
  ·rename_i hk
   rw [if_neg hk]
   obtain ⟨h1, h2, h3, e, h4, h5⟩ := put_old k v l (i + 1) (j + 1) n u h
   have hn : n - i = (n - (i + 1)) + 1 := by omega
   refine ⟨by omega, ?_, by simp [h3], e, ?_, h5⟩
   ·rw [ents, h2, ents, hn]; rfl
   ·rw [ents, hn]; simpa using h4

theorem get_put (k v : Int) : ∀ (l : List (Int × Int)) (x : Int), getL x (putL k v l) = if x = k then v else getL x l
 | [], x => by simp [putL, getL]
 | p :: l, x => by
  rw [putL]
  by_cases h : k = p.1
  ·rw [if_pos h, getL, getL]
   by_cases hx : x = k
   ·simp [hx]
   ·simp [hx, ← h]
  ·rw [if_neg h, getL, getL, get_put k v l x]
   by_cases hx : x = p.1
   ·rw [if_pos hx, if_pos hx, if_neg (fun e => h (by rw [← e, hx]))]
   ·rw [if_neg hx, if_neg hx]
abbrev keysL (l : List (Int × Int)) : List Int := l.map (·.1)
theorem keys_put (k v : Int) : ∀ (l : List (Int × Int)), keysL (putL k v l) = if k ∈ keysL l then keysL l else keysL l ++ [k]
 | [] => by simp [putL]
 | p :: l => by
  rw [putL]
  by_cases h : k = p.1
  ·simp [h]
  ·rw [if_neg h]
   have := keys_put k v l
   simp only [keysL, List.map_cons, List.mem_cons, h, false_or] at this ⊢
   rw [this]
   split <;> simp

theorem St.setObj {E : Ent} {M : Mem} {w w' : World} {b : Nat} {o o' : Obj} {A B : Lc} (h : St E M (A ++ (b, o) :: B) w) (hos : w'.os = w.os) (ht : w'.tape = w.tape) (ho : w'.output = w.output) (hs : w'.heap.size = w.heap.size)
  (hb' : w'.heap[b]? = some o') (hr : ∀ k, k ≠ b → w'.heap[k]? = w.heap[k]?) : St E M (A ++ (b, o') :: B) w' := by
 have hb := h.locs (b, o) (by simp)
 have hne : ∀ p ∈ A ++ B, p.1 ≠ b := by
  intro p hp he
  have hn := h.nodup
  rw [List.map_append, List.map_cons] at hn
  have := (List.nodup_append.1 hn)
  rcases List.mem_append.1 hp with hp | hp
  ·exact this.2.2 p.1 (List.mem_map.2 ⟨p, hp, rfl⟩) b (by simp) he
  ·exact (List.nodup_cons.1 this.2.1).1 (List.mem_map.2 ⟨p, hp, he⟩)
 exact
  {os := hos.trans h.os, tape := ht.trans h.tape, output := ho.trans h.output, size := by rw [hs]; exact h.size
   same := fun k hk hx => by
    have : k ≠ b := fun e => by subst e; exact hb.2.1.elim (fun h => by omega) hx
    rw [hr k this]; exact h.same k hk hx
   fresh := h.fresh
   agree := fun k x hx => by
    have : k ≠ b := fun e => by subst e; rw [hb.2.2] at hx; cases hx
    rw [hr k this]; exact h.agree k x hx
   locs := fun p hp => by
    rcases List.mem_append.1 hp with hp | hp
    ·have hp' := h.locs p (by simp [hp])
     exact ⟨by rw [hr _ (hne p (by simp [hp]))]; exact hp'.1, hp'.2⟩
    ·rcases List.mem_cons.1 hp with rfl | hp
     ·exact ⟨hb', hb.2⟩
     ·have hp' := h.locs p (by simp [hp])
      exact ⟨by rw [hr _ (hne p (by simp [hp]))]; exact hp'.1, hp'.2⟩
   nodup := by have := h.nodup; simpa [List.map_append] using this }

section
variable {P : Program} {ops : Array Oper} {N : Fs} {F : Fr} {E : Ent} {M : Mem} {L : Lc} {o : Oper}

theorem hMakeMap {t : TypeId} (hg : gd ops F o = some true) (ho : o.op = .makeMap t none) :
  HF P ops N F E M L o (fun v M' L' => ∃ b, v = .map (some b) ∧ M = M' ∧ L' = (b, mObj []) :: L) := hf_of hg fun a w ha hw =>
 ⟨_, _, M, _, .inl (by simp [execOp, ho, Instr.makeMap, newObj]; rfl), hw.alloc (mObj []), _, rfl, rfl, rfl⟩

theorem run_lookup {t kt et : TypeId} {q : IntKind} (ht : P.underlying t = some (.map kt et)) (hk : P.underlying kt = some (.int q)) {w : World} (hz : (zeroValue et).run P w = .ok (.int .i64 0) w) {b : Nat} {l : List (Int × Int)} (hb : w.heap[b]? = some (mObj l)) (k : Int) (hq : q = .i64) :
  (Instr.lookup t (.map (some b)) (.int .i64 k) false).run P w = .ok (.int .i64 (getL k l)) w := by
 subst hq
 have hik : MapKept.IsKey (.int .i64) (.int .i64 k) := by simp [MapKept.IsKey]
 have hf : Instr.findNow (.int .i64) (.int .i64 k) (ents 0 l).toArray.toList 0 = some (fnd2 k l 0) := findNow_ents k l 0 0
 have h1 := MapKept.run_getObj_map (P := P) (w := w) (r := b) (es := (ents 0 l).toArray) (clock := l.length) hb
 rcases fnd2_get k l 0 with ⟨h2, h3⟩ | ⟨j, h2, _⟩
 ·rw [h2] at hf
  simp [Instr.lookup, run_underlying ht, h1, MapKept.run_checkKey hk hik, MapKept.run_findKey hk hf, Result.andThen, hz, h3]
 ·rw [h2] at hf
  simp [Instr.lookup, run_underlying ht, h1, MapKept.run_checkKey hk hik, MapKept.run_findKey hk hf, Result.andThen]

theorem qLookup {t kt et : TypeId} {x y : Operand} {b : Nat} {k : Int} {l : List (Int × Int)} (hg : gd ops F o = some true) (ho : o.op = .lookup t x y false) (hx : ev F x = some (.map (some b))) (hy : ev F y = some (.int .i64 k))
  [ht : Und P t (.map kt et)] [hk : Und P kt (.int .i64)] [at_ : At b (mObj l) L] (he : (P.info? et).bind (·.zero) = some (.int .i64 0)) : QF P ops N F M L o (.int .i64 (getL k l)) := qf_of hg fun a ha w hw => by
 obtain ⟨ti, hi, hz⟩ : ∃ ti, P.info? et = some ti ∧ ti.zero = some (.int .i64 0) := by
  cases hi : P.info? et with
  | none => rw [hi] at he; cases he
  | some ti => rw [hi] at he; exact ⟨ti, rfl, he⟩
 have hzv : (zeroValue et).run P w = .ok (.int .i64 0) w := by simp [zeroValue, typeInfo, hi, hz]
 simp [execOp, ho, ha.ev hx, ha.ev hy, run_lookup ht.h hk.h hzv (hw.locs _ at_.mem) k rfl]

theorem run_mapPut {t kt et : TypeId} (ht : P.underlying t = some (.map kt et)) (hk : P.underlying kt = some (.int .i64)) {w : World} {b : Nat} {l : List (Int × Int)} (hb : w.heap[b]? = some (mObj l)) (k v : Int) :
  (Instr.mapUpdate t (.map (some b)) (.int .i64 k) (.int .i64 v)).run P w = .ok () { w with heap := w.heap.setIfInBounds b (mObj (putL k v l)) } := by
 have hik : MapKept.IsKey (.int .i64) (.int .i64 k) := by simp [MapKept.IsKey]
 have hf : Instr.findNow (.int .i64) (.int .i64 k) (ents 0 l).toArray.toList 0 = some (fnd2 k l 0) := findNow_ents k l 0 0
 have h1 := MapKept.run_getObj_map (P := P) (w := w) (r := b) (es := (ents 0 l).toArray) (clock := l.length) hb
 cases h2 : fnd2 k l 0 with
 | none =>
  rw [h2] at hf
  obtain ⟨e1, e2⟩ := put_new k v l 0 0 h2
  have e3 : mObj (putL k v l) = .map ((ents 0 l).toArray.push { key := .int .i64 k, val := .int .i64 v, born := l.length }) (l.length + 1) := by
   unfold mObj; rw [e1, e2]; simp
  simp [Instr.mapUpdate, run_underlying ht, h1, MapKept.run_checkKey hk hik, MapKept.run_findKey hk hf, Result.andThen, MapKept.run_setObj_map _ (show w.heap[b]? = some (.map (ents 0 l).toArray l.length) from hb), e3]
 | some r =>
  obtain ⟨n, u⟩ := r
  rw [h2] at hf
  obtain ⟨_, e1, e2, e, e4, e5⟩ := put_old k v l 0 0 n u h2
  have e3 : mObj (putL k v l) = .map ((ents 0 l).toArray.modify n (fun e => { e with key := .int .i64 k, val := .int .i64 v })) l.length := by
   unfold mObj; rw [e1, e2]; simp
  have e6 : (ents 0 l)[n]? = some e := by simpa using e4
  simp [Instr.mapUpdate, run_underlying ht, h1, MapKept.run_checkKey hk hik, MapKept.run_findKey hk hf, Result.andThen, e6, e5, MapKept.run_keyThatStays hik, MapKept.run_setObj_map _ (show w.heap[b]? = some (.map (ents 0 l).toArray l.length) from hb), e3]

theorem hMapPut {t kt et : TypeId} {x y z : Operand} {b : Nat} {k v : Int} {l : List (Int × Int)} {L' : Lc} (hg : gd ops F o = some true) (ho : o.op = .mapUpdate t x y z ∨ o.op = .insert t x y z) (hx : ev F x = some (.map (some b))) (hy : ev F y = some (.int .i64 k)) (hz : ev F z = some (.int .i64 v))
  [ht : Und P t (.map kt et)] [hk : Und P kt (.int .i64)] [at_ : At b (mObj l) L] [hp : PutAt b (mObj l) (mObj (putL k v l)) L L'] : HF P ops N F E M L o (fun _ M' L'' => M = M' ∧ L'' = L') := hf_of hg fun a w ha hw => by
 have hb : w.heap[b]? = some (mObj l) := (hw.locs (b, mObj l) at_.mem).1
 obtain ⟨A, B, rfl, rfl⟩ := hp.ex
 have hr := run_mapPut (P := P) ht.h hk.h hb k v
 refine ⟨undef, { w with heap := w.heap.setIfInBounds b (mObj (putL k v l)) }, M, _, .inr ⟨rfl, ?_⟩, hw.setObj rfl rfl rfl (by simp) (MapKept.heap_set hb).1 (fun k hk => (MapKept.heap_set hb).2 k hk), rfl, rfl⟩
 rcases ho with ho | ho <;> simp [execOp, ho, ha.ev hx, ha.ev hy, ha.ev hz, hr]
/-! ### a queue of one's own: cells behind one another in a block -/
def Que (v : Value) (R : Lc) (t : TypeId) (xs : List Value) : Prop := ∃ g off cap cur, v = .slice (some ⟨g, off, none⟩) xs.length cap ∧ R = [(g, .cells cur t (0, 0))] ∧ off + cap ≤ cur.size ∧ xs.length ≤ cap ∧ cap ≤ maxLen ∧ (cur.toList.drop off).take xs.length = xs
theorem Que.one {g : Nat} {t : TypeId} {v : Value} : Que (.slice (some ⟨g, 0, none⟩) 1 1) [(g, .cells [v].toArray t (0, 0))] t [v] := ⟨g, 0, 1, [v].toArray, rfl, rfl, by simp, by simp, by decide, by simp⟩
theorem Que.tail {g off cap : Nat} {R : Lc} {t : TypeId} {x : Value} {xs : List Value} {n : Nat} (h : Que (.slice (some ⟨g, off, none⟩) n cap) R t (x :: xs)) : Que (.slice (slA (some ⟨g, off, none⟩) 1 cap 1) (n - 1) (cap - 1)) R t xs := by
 obtain ⟨g', off', cap', cur, e, rfl, h1, h2, h3, h4⟩ := h
 simp only [Value.slice.injEq, Option.some.injEq, Addr.mk.injEq, true_and, and_true] at e
 obtain ⟨⟨rfl, rfl⟩, rfl, rfl⟩ := e
 simp only [List.length_cons] at h2 h4 ⊢
 by_cases hc : cap = 1
 ·subst hc
  obtain rfl : xs = [] := List.eq_nil_of_length_eq_zero (by omega)
  exact ⟨g, off, 0, cur, rfl, rfl, by omega, by simp, by decide, by simp⟩
 ·have hx : (cur.toList.drop (off + 1)).take xs.length = xs := by
   have h5 : (cur.toList.drop off).drop 1 = cur.toList.drop (off + 1) := by rw [List.drop_drop]
   rw [← h5]
   generalize cur.toList.drop off = d at h4
   cases d with
   | nil => simp at h4
   | cons y ys => simp only [List.take_succ_cons, List.cons.injEq] at h4; simpa using h4.2
  exact ⟨g, off + 1, cap - 1, cur, by rw [slA_some (by omega)]; simp, rfl, by omega, by omega, by omega, hx⟩
theorem Que.cj {g off n cap : Nat} {R : Lc} {t : TypeId} {xs : List Value} (h : Que (.slice (some ⟨g, off, none⟩) n cap) R t xs) {L : Lc} (hR : ∀ p ∈ R, p ∈ L) {M : Mem} {i : Nat} {x : Value} (hx : xs[i]? = some x) : CJ M L g (off + i) x := by
 obtain ⟨g', off', cap', cur, e, rfl, h1, h2, h3, h4⟩ := h
 simp only [Value.slice.injEq, Option.some.injEq, Addr.mk.injEq, true_and, and_true] at e
 obtain ⟨⟨rfl, rfl⟩, rfl, rfl⟩ := e
 refine ⟨cur, t, (0, 0), .inr (hR _ (by simp)), ?_⟩
 have hi : i < xs.length := (List.getElem?_eq_some_iff.1 hx).1
 rw [← h4, List.getElem?_take_of_lt hi, List.getElem?_drop] at hx
 simpa using hx
theorem q_put {cur xs : List Value} {off n : Nat} {u : Value} (h : off + n + 1 ≤ cur.length) (hn : xs.length = n) (hq : (cur.drop off).take n = xs) : ((cur.take (off + n) ++ ([u] ++ cur.drop (off + n + 1))).drop off).take (n + 1) = xs ++ [u] := by
 rw [List.drop_append_of_le_length (by simp; omega), List.drop_take, show off + n - off = n by omega, hq, ← List.append_assoc]
 exact List.take_left' (by simp [hn])
theorem hAppendQ {x y : Operand} {t e : TypeId} {v u : Value} {R L2 : Lc} {bytes c : Nat} {z xs : List Value} {ad : Addr} (hg : gd ops F o = some true)
  (ho : o.op = .call { callee := .builtin .append, args := #[x, y], argTypes := #[t, t] }) (hx : ev F x = some v) (hy : ev F y = some (.slice (some ad) 1 c)) [ht : Und P t (.slice e)] [hl : Lay P e 1 bytes z]
  (hown : Que v R e xs) [hp : Pick R L L2] (hnew : CJ M L ad.block ad.off u) (hspot : ad.spot = none) (h1 : u.oneCell' = true) (hbig : xs.length ≤ 1000000) (hby : bytes ≤ 100000) :
  HF P ops N F E M L o (fun v' M' L' => M = M' ∧ ∃ R', L' = R' ++ L2 ∧ Que v' R' e (xs ++ [u])) := hf_of hg fun a w ha hw => by
 obtain ⟨ti, zv, hi, hi2, hi3, hz, hz2⟩ := hl.info
 have hcell : ∀ j u', [u][j]? = some u' → w.cell? (ad.add j) = some u' := fun j u' hu => by
  cases j with
  | zero =>
   simp only [List.getElem?_cons_zero, Option.some.injEq] at hu
   subst hu
   have e0 : ad.add 0 = ⟨ad.block, ad.off, none⟩ := by obtain ⟨b, of, sp⟩ := ad; simp only at hspot; subst hspot; unfold Addr.add; simp
   rw [e0]; exact hnew.cell hw.js
  | succ j => simp at hu
 have hw' := hw.perm hp.perm
 obtain ⟨g, off, cap, cur, rfl, rfl, q1, q2, q3, q4⟩ := hown
 have hb : w.heap[g]? = some (.cells cur e (0, 0)) := (hw'.locs (g, .cells cur e (0, 0)) (by simp)).1
 have holds : ∀ j u', xs[j]? = some u' → w.cell? ((⟨g, off, none⟩ : Addr).add j) = some u' := fun j u' hu => by
  have e0 : (⟨g, off, none⟩ : Addr).add j = ⟨g, off + j, none⟩ := by unfold Addr.add; split <;> simp_all
  rw [e0]
  have : CJ M ([(g, .cells cur e (0, 0))] ++ L2) g (off + j) u' := Que.cj (t := e) (R := [(g, .cells cur e (0, 0))]) (cap := cap) (n := xs.length) (L := [(g, .cells cur e (0, 0))] ++ L2) ⟨g, off, cap, cur, rfl, rfl, q1, q2, q3, q4⟩ (fun p hp => by rw [List.mem_singleton.1 hp]; simp) hu
  exact this.cell hw'.js
 by_cases hroom : xs.length + 1 ≤ cap
 ·have hf := run_firstCells_some (P := P) w ti.size 1 ad 1 c [u] (by rw [hi2]; rfl) hcell
  have hst := run_storeCells_at P g (off + xs.length) e [u] 0 cur w hb (by simp; omega) (by simpa using h1)
  simp only [Nat.add_zero] at hst
  refine ⟨.slice (some ⟨g, off, none⟩) (xs.length + 1) cap, w.setRow g (cur.toList.take (off + xs.length) ++ [u] ++ cur.toList.drop (off + xs.length + [u].length)).toArray, M, [(g, .cells (cur.toList.take (off + xs.length) ++ [u] ++ cur.toList.drop (off + xs.length + [u].length)).toArray e (0, 0))] ++ L2, .inl ?_, hw'.put ⟨⟨[], L2, rfl, rfl⟩⟩, rfl, _, rfl, ?_⟩
  ·simp [execOp, ho, resolve, invoke, builtin, ha.ev hx, ha.ev hy, Builtin.append_, run_underlying ht.h, sizeOf, typeInfo, hi, hi2, Builtin.lenOf, hroom, Addr.add_lit]
   rw [hi2] at hf
   have hst2 : (storeCells { block := g, off := off + xs.length } [u]).run P w = .ok () (w.setRow g (cur.toList.take (off + xs.length) ++ u :: cur.toList.drop (off + xs.length + 1)).toArray) := by simpa using hst
   simp [hf, hst2]
  ·have hsz : off + xs.length < cur.toList.length := by have : cur.toList.length = cur.size := rfl; omega
   refine ⟨g, off, cap, _, by simp, rfl, ?_, by simp; omega, q3, ?_⟩
   ·simp; omega
   ·simp only [List.length_append, List.length_cons, List.length_nil, List.append_assoc]
    exact q_put (by omega) rfl q4
 ·have hr := run_append_grow (P := P) w t o.type e ti zv ht.h hi hz ⟨g, off, none⟩ xs.length cap xs (by rw [hi2]; simp) holds ad 1 c [u] (by rw [hi2]; rfl) hcell (by omega) (by omega) (growslice_fits (by omega) (by rw [hi3]; have : (xs.length + 1) * bytes ≤ 1000001 * 100000 := Nat.mul_le_mul (by omega) hby; omega))
  have hd : St E M ([(g, .cells cur e (0, 0))] ++ L2) w.drew := { os := hw'.os, tape := hw'.tape, output := hw'.output, size := hw'.size, same := hw'.same, fresh := hw'.fresh, agree := hw'.agree, locs := hw'.locs, nodup := hw'.nodup }
  have hsz : zv.cells.size = 1 := by rw [hz2]; simpa using hl.len
  refine ⟨_, _, M, _, .inl (by simp only [execOp, ho, resolve, invoke, builtin, List.map_toArray, List.map_cons, List.map_nil, ha.ev hx, ha.ev hy, Sem.run_bind, Sem.run_pure, Result.andThen_ok, hr]; rfl), ((hd.fewer (L' := L2) (by simp)).alloc _), rfl, [_], rfl, ?_⟩
  have hge := grownCap_ge w (xs.length + 1) cap e
  refine ⟨w.heap.size, 0, grownCap w (xs.length + 1) cap e, _, by simp, rfl, ?_, by simpa using hge, grownCap_le_maxLen w (xs.length + 1) cap e (by unfold maxLen; omega), ?_⟩
  ·simp [size_zeroCells, hsz]; omega
  ·simp only [Array.toList_append, List.length_append, List.length_cons, List.length_nil, List.drop_zero]
   exact List.take_left' (by simp)
end
end Go.Proofs.YtkjghgndmpbfiaaGreat
