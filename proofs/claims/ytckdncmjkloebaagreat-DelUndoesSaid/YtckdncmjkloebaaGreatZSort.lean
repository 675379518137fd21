/- A map's keys, told in order: the kit's contracts, in my layer's words. No statement of the seat is proved here. -/
import Derived.Test.YtckdncmjkloebaaGreatZHk
import Derived.MapKept
import Derived.ArgAppend
import Derived.Shelf.SlIterI.Nil
import Derived.Shelf.SortM.Plain
import Derived.Shelf.SortM.SortNone
import Derived.Ground.GgzProg
import Derived.Ground.SlgmProg
import Derived.Shelf.SlGeneric
import Derived.Test.YtckdncmjkloebaaGreatRows
import Derived.Test.YtckdncmjkloebaaGreatZTab
namespace Go.Proofs.YtckdncmjkloebaaGreat
set_option linter.unusedVariables false
set_option linter.unusedSimpArgs false
open Go.RowKit
def wHj : Nat → List (Int × Int) → List MapEntry
 | _, [] => []
 | j, p :: l => { key := .int .i64 p.1, val := .int .i64 p.2, born := j } :: wHj (j + 1) l
def mObj (l : List (Int × Int)) : Obj := .map (wHj 0 l).toArray l.length
def fnd2 (k : Int) : List (Int × Int) → Nat → Option (Nat × Value)
 | [], _ => none
 | p :: l, i => if k = p.1 then some (i, .int .i64 p.2) else fnd2 k l (i + 1)
def wJq (k : Int) : List (Int × Int) → Int
 | [] => 0
 | p :: l => if k = p.1 then p.2 else wJq k l
def wLi (k v : Int) : List (Int × Int) → List (Int × Int)
 | [] => [(k, v)]
 | p :: l => if k = p.1 then (k, v) :: l else p :: wLi k v l
theorem wJu {q : IntKind} (k : Int) : ∀ (l : List (Int × Int)) (j i : Nat), Instr.findNow (.int q) (.int .i64 k) (wHj j l) i = some (fnd2 k l i)
 | [], _, _ => rfl
 | p :: l, j, i => by
  rw [wHj, Instr.findNow, fnd2]
  by_cases h : k = p.1
  ·simp [Instr.sameNow, h]
  ·have h2 : (k == p.1) = false := by simpa using h
   simp only [Instr.sameNow, if_true, h2, if_neg h]
   exact wJu k l (j + 1) (i + 1)
theorem fnd2_get (k : Int) : ∀ (l : List (Int × Int)) (i : Nat), (fnd2 k l i = none ∧ wJq k l = 0) ∨ ∃ j, fnd2 k l i = some (i + j, .int .i64 (wJq k l)) ∧ j < l.length
 | [], _ => .inl ⟨rfl, rfl⟩
 | p :: l, i => by
  rw [fnd2, wJq]
  by_cases h : k = p.1
  ·rw [if_pos h, if_pos h]; exact .inr ⟨0, rfl, by simp⟩
  ·rw [if_neg h, if_neg h]
   rcases fnd2_get k l (i + 1) with h1 | ⟨j, h1, h2⟩
   ·exact .inl h1
   ·exact .inr ⟨j + 1, by rw [h1]; congr 2; omega, by simp; omega⟩
theorem ents_len : ∀ (l : List (Int × Int)) (j : Nat), (wHj j l).length = l.length
 | [], _ => rfl
 | p :: l, j => by simp [wHj, ents_len l]
theorem put_new (k v : Int) : ∀ (l : List (Int × Int)) (i j : Nat), fnd2 k l i = none → wHj j (wLi k v l) = wHj j l ++ [{ key := .int .i64 k, val := .int .i64 v, born := j + l.length }] ∧ (wLi k v l).length = l.length + 1
 | [], _, j, _ => ⟨by simp [wLi, wHj], rfl⟩
 | p :: l, i, j, h => by
  rw [fnd2] at h
  split at h
  ·cases h
  rename_i hk
  obtain ⟨h1, h2⟩ := put_new k v l (i + 1) (j + 1) h
  rw [wLi, if_neg hk]
  refine ⟨?_, by simp [h2]⟩
  rw [wHj, h1, wHj]; simp [Nat.add_comm, Nat.add_left_comm]
theorem put_old (k v : Int) : ∀ (l : List (Int × Int)) (i j n : Nat) (u : Value), fnd2 k l i = some (n, u) → i ≤ n ∧ wHj j (wLi k v l) = (wHj j l).modify (n - i) (fun e => { e with key := .int .i64 k, val := .int .i64 v }) ∧ (wLi k v l).length = l.length ∧ ∃ e, (wHj j l)[n - i]? = some e ∧ e.key = .int .i64 k
 | [], _, _, _, _, h => by cases h
 | p :: l, i, j, n, u, h => by
  rw [fnd2] at h
  rw [wLi]
  split at h
  ·rename_i hk
   cases h
   rw [if_pos hk]
   exact ⟨Nat.le_refl _, by simp [wHj], rfl, _, by simp [wHj]; rfl, by simp [hk]⟩
  ·rename_i hk
   rw [if_neg hk]
   obtain ⟨h1, h2, h3, e, h4, h5⟩ := put_old k v l (i + 1) (j + 1) n u h
   have hn : n - i = (n - (i + 1)) + 1 := by omega
   refine ⟨by omega, ?_, by simp [h3], e, ?_, h5⟩
   ·rw [wHj, h2, wHj, hn]; rfl
   ·rw [wHj, hn]; simpa using h4
theorem get_put (k v : Int) : ∀ (l : List (Int × Int)) (x : Int), wJq x (wLi k v l) = if x = k then v else wJq x l
 | [], x => by simp [wLi, wJq]
 | p :: l, x => by
  rw [wLi]
  by_cases h : k = p.1
  ·rw [if_pos h, wJq, wJq]
   by_cases hx : x = k
   ·simp [hx]
   ·simp [hx, ← h]
  ·rw [if_neg h, wJq, wJq, get_put k v l x]
   by_cases hx : x = p.1
   ·rw [if_pos hx, if_pos hx, if_neg (fun e => h (by rw [← e, hx]))]
   ·rw [if_neg hx, if_neg hx]
abbrev wCy (l : List (Int × Int)) : List Int := l.map (·.1)
theorem wMg (k v : Int) : ∀ (l : List (Int × Int)), wCy (wLi k v l) = if k ∈ wCy l then wCy l else wCy l ++ [k]
 | [] => by simp [wLi]
 | p :: l => by
  rw [wLi]
  by_cases h : k = p.1
  ·simp [h]
  ·rw [if_neg h]
   have := wMg k v l
   simp only [wCy, List.map_cons, List.mem_cons, h, false_or] at this ⊢
   rw [this]
   split <;> simp
theorem St.setObj {E : Ent} {M : Mem} {w w' : World} {b : Nat} {o o' : Obj} {A B : Lc} (h : St E M (A ++ (b, o) :: B) w) (hos : w'.os = w.os) (ht : w'.tape = w.tape) (ho : w'.output = w.output) (hs : w'.heap.size = w.heap.size)
  (hb' : w'.heap[b]? = some o') (hr : ∀ k, k ≠ b → w'.heap[k]? = w.heap[k]?) : St E M (A ++ (b, o') :: B) w' := by
 have hb := h.locs (b, o) (by simp)
 have hne : ∀ p ∈ A ++ B, p.1 ≠ b := by
  intro p hp he
  have hn := h.nodup
  rw [List.map_append, List.map_cons] at hn
  have := (List.nodup_append.1 hn)
  rcases List.mem_append.1 hp with hp | hp
  ·exact this.2.2 p.1 (List.mem_map.2 ⟨p, hp, rfl⟩) b (by simp) he
  ·exact (List.nodup_cons.1 this.2.1).1 (List.mem_map.2 ⟨p, hp, he⟩)
 exact
  {os := hos.trans h.os, tape := ht.trans h.tape, output := ho.trans h.output, size := by rw [hs]; exact h.size
   same := fun k hk hx => by
    have : k ≠ b := fun e => by subst e; exact hb.2.1.elim (fun h => by omega) hx
    rw [hr k this]; exact h.same k hk hx
   fresh := h.fresh
   agree := fun k x hx => by
    have : k ≠ b := fun e => by subst e; rw [hb.2.2] at hx; cases hx
    rw [hr k this]; exact h.agree k x hx
   locs := fun p hp => by
    rcases List.mem_append.1 hp with hp | hp
    ·have hp' := h.locs p (by simp [hp])
     exact ⟨by rw [hr _ (hne p (by simp [hp]))]; exact hp'.1, hp'.2⟩
    ·rcases List.mem_cons.1 hp with rfl | hp
     ·exact ⟨hb', hb.2⟩
     ·have hp' := h.locs p (by simp [hp])
      exact ⟨by rw [hr _ (hne p (by simp [hp]))]; exact hp'.1, hp'.2⟩
   nodup := by have := h.nodup; simpa [List.map_append] using this }
section
variable {P : Program} {ops : Array Oper} {N : Fs} {F : Fr} {E : Ent} {M : Mem} {L : Lc} {o : Oper}
theorem hMakeMap {t : TypeId} (hg : gd ops F o = some true) (ho : o.op = .makeMap t none) :
  HF P ops N F E M L o (fun v M' L' => ∃ b, v = .map (some b) ∧ M = M' ∧ L' = (b, mObj []) :: L) := wGu hg fun a w ha hw =>
 ⟨_, _, M, _, .inl (by simp [execOp, ho, Instr.makeMap, newObj]; rfl), hw.alloc (mObj []), _, rfl, rfl, rfl⟩
theorem run_lookup {t kt et : TypeId} {q : IntKind} (ht : P.underlying t = some (.map kt et)) (hk : P.underlying kt = some (.int q)) {w : World} (hz : (zeroValue et).run P w = .ok (.int .i64 0) w) {b : Nat} {l : List (Int × Int)} (hb : w.heap[b]? = some (mObj l)) (k : Int) (hq : q = .i64) :
  (Instr.lookup t (.map (some b)) (.int .i64 k) false).run P w = .ok (.int .i64 (wJq k l)) w := by
 subst hq
 have hik : MapKept.IsKey (.int .i64) (.int .i64 k) := by simp [MapKept.IsKey]
 have hf : Instr.findNow (.int .i64) (.int .i64 k) (wHj 0 l).toArray.toList 0 = some (fnd2 k l 0) := wJu k l 0 0
 have h1 := MapKept.run_getObj_map (P := P) (w := w) (r := b) (es := (wHj 0 l).toArray) (clock := l.length) hb
 rcases fnd2_get k l 0 with ⟨h2, h3⟩ | ⟨j, h2, _⟩
 ·rw [h2] at hf
  simp [Instr.lookup, run_underlying ht, h1, MapKept.run_checkKey hk hik, MapKept.run_findKey hk hf, Result.andThen, hz, h3]
 ·rw [h2] at hf
  simp [Instr.lookup, run_underlying ht, h1, MapKept.run_checkKey hk hik, MapKept.run_findKey hk hf, Result.andThen]
theorem qLookup {t kt et : TypeId} {x y : Operand} {b : Nat} {k : Int} {l : List (Int × Int)} (hg : gd ops F o = some true) (ho : o.op = .lookup t x y false) (hx : ev F x = some (.map (some b))) (hy : ev F y = some (.int .i64 k))
  [ht : Und P t (.map kt et)] [hk : Und P kt (.int .i64)] [at_ : At b (mObj l) L] (he : (P.info? et).bind (·.zero) = some (.int .i64 0)) : QF P ops N F M L o (.int .i64 (wJq k l)) := wFi hg fun a ha w hw => by
 obtain ⟨ti, hi, hz⟩ : ∃ ti, P.info? et = some ti ∧ ti.zero = some (.int .i64 0) := by
  cases hi : P.info? et with
  | none => rw [hi] at he; cases he
  | some ti => rw [hi] at he; exact ⟨ti, rfl, he⟩
 have hzv : (zeroValue et).run P w = .ok (.int .i64 0) w := by simp [zeroValue, typeInfo, hi, hz]
 simp [execOp, ho, ha.ev hx, ha.ev hy, run_lookup ht.h hk.h hzv (hw.locs _ at_.mem) k rfl]
theorem run_mapPut {t kt et : TypeId} (ht : P.underlying t = some (.map kt et)) (hk : P.underlying kt = some (.int .i64)) {w : World} {b : Nat} {l : List (Int × Int)} (hb : w.heap[b]? = some (mObj l)) (k v : Int) :
  (Instr.mapUpdate t (.map (some b)) (.int .i64 k) (.int .i64 v)).run P w = .ok () { w with heap := w.heap.setIfInBounds b (mObj (wLi k v l)) } := by
 have hik : MapKept.IsKey (.int .i64) (.int .i64 k) := by simp [MapKept.IsKey]
 have hf : Instr.findNow (.int .i64) (.int .i64 k) (wHj 0 l).toArray.toList 0 = some (fnd2 k l 0) := wJu k l 0 0
 have h1 := MapKept.run_getObj_map (P := P) (w := w) (r := b) (es := (wHj 0 l).toArray) (clock := l.length) hb
 cases h2 : fnd2 k l 0 with
 | none =>
  rw [h2] at hf
  obtain ⟨e1, e2⟩ := put_new k v l 0 0 h2
  have e3 : mObj (wLi k v l) = .map ((wHj 0 l).toArray.push { key := .int .i64 k, val := .int .i64 v, born := l.length }) (l.length + 1) := by
   unfold mObj; rw [e1, e2]; simp
  simp [Instr.mapUpdate, run_underlying ht, h1, MapKept.run_checkKey hk hik, MapKept.run_findKey hk hf, Result.andThen, MapKept.run_setObj_map _ (show w.heap[b]? = some (.map (wHj 0 l).toArray l.length) from hb), e3]
 | some r =>
  obtain ⟨n, u⟩ := r
  rw [h2] at hf
  obtain ⟨_, e1, e2, e, e4, e5⟩ := put_old k v l 0 0 n u h2
  have e3 : mObj (wLi k v l) = .map ((wHj 0 l).toArray.modify n (fun e => { e with key := .int .i64 k, val := .int .i64 v })) l.length := by
   unfold mObj; rw [e1, e2]; simp
  have e6 : (wHj 0 l)[n]? = some e := by simpa using e4
  simp [Instr.mapUpdate, run_underlying ht, h1, MapKept.run_checkKey hk hik, MapKept.run_findKey hk hf, Result.andThen, e6, e5, MapKept.run_keyThatStays hik, MapKept.run_setObj_map _ (show w.heap[b]? = some (.map (wHj 0 l).toArray l.length) from hb), e3]
theorem hMapPut {t kt et : TypeId} {x y z : Operand} {b : Nat} {k v : Int} {l : List (Int × Int)} {L' : Lc} (hg : gd ops F o = some true) (ho : o.op = .mapUpdate t x y z ∨ o.op = .insert t x y z) (hx : ev F x = some (.map (some b))) (hy : ev F y = some (.int .i64 k)) (hz : ev F z = some (.int .i64 v))
  [ht : Und P t (.map kt et)] [hk : Und P kt (.int .i64)] [at_ : At b (mObj l) L] [hp : PutAt b (mObj l) (mObj (wLi k v l)) L L'] : HF P ops N F E M L o (fun _ M' L'' => M = M' ∧ L'' = L') := wGu hg fun a w ha hw => by
 have hb : w.heap[b]? = some (mObj l) := (hw.locs (b, mObj l) at_.mem).1
 obtain ⟨A, B, rfl, rfl⟩ := hp.ex
 have hr := run_mapPut (P := P) ht.h hk.h hb k v
 refine ⟨undef, { w with heap := w.heap.setIfInBounds b (mObj (wLi k v l)) }, M, _, .inr ⟨rfl, ?_⟩, hw.setObj rfl rfl rfl (by simp) (MapKept.heap_set hb).1 (fun k hk => (MapKept.heap_set hb).2 k hk), rfl, rfl⟩
 rcases ho with ho | ho <;> simp [execOp, ho, ha.ev hx, ha.ev hy, ha.ev hz, hr]
def Que (v : Value) (R : Lc) (t : TypeId) (xs : List Value) : Prop := ∃ g off cap cur, v = .slice (some ⟨g, off, none⟩) xs.length cap ∧ R = [(g, .cells cur t (0, 0))] ∧ off + cap ≤ cur.size ∧ xs.length ≤ cap ∧ cap ≤ maxLen ∧ (cur.toList.drop off).take xs.length = xs
theorem Que.one {g : Nat} {t : TypeId} {v : Value} : Que (.slice (some ⟨g, 0, none⟩) 1 1) [(g, .cells [v].toArray t (0, 0))] t [v] := ⟨g, 0, 1, [v].toArray, rfl, rfl, by simp, by simp, by decide, by simp⟩
theorem Que.tail {g off cap : Nat} {R : Lc} {t : TypeId} {x : Value} {xs : List Value} {n : Nat} (h : Que (.slice (some ⟨g, off, none⟩) n cap) R t (x :: xs)) : Que (.slice (slA (some ⟨g, off, none⟩) 1 cap 1) (n - 1) (cap - 1)) R t xs := by
 obtain ⟨g', off', cap', cur, e, rfl, h1, h2, h3, h4⟩ := h
 simp only [Value.slice.injEq, Option.some.injEq, Addr.mk.injEq, true_and, and_true] at e
 obtain ⟨⟨rfl, rfl⟩, rfl, rfl⟩ := e
 simp only [List.length_cons] at h2 h4 ⊢
 by_cases hc : cap = 1
 ·subst hc
  obtain rfl : xs = [] := List.eq_nil_of_length_eq_zero (by omega)
  exact ⟨g, off, 0, cur, rfl, rfl, by omega, by simp, by decide, by simp⟩
 ·have hx : (cur.toList.drop (off + 1)).take xs.length = xs := by
   have h5 : (cur.toList.drop off).drop 1 = cur.toList.drop (off + 1) := by rw [List.drop_drop]
   rw [← h5]
   generalize cur.toList.drop off = d at h4
   cases d with
   | nil => simp at h4
   | cons y ys => simp only [List.take_succ_cons, List.cons.injEq] at h4; simpa using h4.2
  exact ⟨g, off + 1, cap - 1, cur, by rw [wBo (by omega)]; simp, rfl, by omega, by omega, by omega, hx⟩
theorem Que.cj {g off n cap : Nat} {R : Lc} {t : TypeId} {xs : List Value} (h : Que (.slice (some ⟨g, off, none⟩) n cap) R t xs) {L : Lc} (hR : ∀ p ∈ R, p ∈ L) {M : Mem} {i : Nat} {x : Value} (hx : xs[i]? = some x) : CJ M L g (off + i) x := by
 obtain ⟨g', off', cap', cur, e, rfl, h1, h2, h3, h4⟩ := h
 simp only [Value.slice.injEq, Option.some.injEq, Addr.mk.injEq, true_and, and_true] at e
 obtain ⟨⟨rfl, rfl⟩, rfl, rfl⟩ := e
 refine ⟨cur, t, (0, 0), .inr (hR _ (by simp)), ?_⟩
 have hi : i < xs.length := (List.getElem?_eq_some_iff.1 hx).1
 rw [← h4, List.getElem?_take_of_lt hi, List.getElem?_drop] at hx
 simpa using hx
theorem q_put {cur xs : List Value} {off n : Nat} {u : Value} (h : off + n + 1 ≤ cur.length) (hn : xs.length = n) (hq : (cur.drop off).take n = xs) : ((cur.take (off + n) ++ ([u] ++ cur.drop (off + n + 1))).drop off).take (n + 1) = xs ++ [u] := by
 rw [List.drop_append_of_le_length (by simp; omega), List.drop_take, show off + n - off = n by omega, hq, ← List.append_assoc]
 exact List.take_left' (by simp [hn])
theorem hAppendQ {x y : Operand} {t e : TypeId} {v u : Value} {R L2 : Lc} {bytes c : Nat} {z xs : List Value} {ad : Addr} (hg : gd ops F o = some true)
  (ho : o.op = .call { callee := .builtin .append, args := #[x, y], argTypes := #[t, t] }) (hx : ev F x = some v) (hy : ev F y = some (.slice (some ad) 1 c)) [ht : Und P t (.slice e)] [hl : Lay P e 1 bytes z]
  (hown : Que v R e xs) [hp : Pick R L L2] (hnew : CJ M L ad.block ad.off u) (hspot : ad.spot = none) (h1 : u.oneCell' = true) (hbig : xs.length ≤ 1000000) (hby : bytes ≤ 100000) :
  HF P ops N F E M L o (fun v' M' L' => M = M' ∧ ∃ R', L' = R' ++ L2 ∧ Que v' R' e (xs ++ [u])) := wGu hg fun a w ha hw => by
 obtain ⟨ti, zv, hi, hi2, hi3, hz, hz2⟩ := hl.info
 have hcell : ∀ j u', [u][j]? = some u' → w.cell? (ad.add j) = some u' := fun j u' hu => by
  cases j with
  | zero =>
   simp only [List.getElem?_cons_zero, Option.some.injEq] at hu
   subst hu
   have e0 : ad.add 0 = ⟨ad.block, ad.off, none⟩ := by obtain ⟨b, of, sp⟩ := ad; simp only at hspot; subst hspot; unfold Addr.add; simp
   rw [e0]; exact hnew.cell hw.js
  | succ j => simp at hu
 have hw' := hw.perm hp.perm
 obtain ⟨g, off, cap, cur, rfl, rfl, q1, q2, q3, q4⟩ := hown
 have hb : w.heap[g]? = some (.cells cur e (0, 0)) := (hw'.locs (g, .cells cur e (0, 0)) (by simp)).1
 have holds : ∀ j u', xs[j]? = some u' → w.cell? ((⟨g, off, none⟩ : Addr).add j) = some u' := fun j u' hu => by
  have e0 : (⟨g, off, none⟩ : Addr).add j = ⟨g, off + j, none⟩ := by unfold Addr.add; split <;> simp_all
  rw [e0]
  have : CJ M ([(g, .cells cur e (0, 0))] ++ L2) g (off + j) u' := Que.cj (t := e) (R := [(g, .cells cur e (0, 0))]) (cap := cap) (n := xs.length) (L := [(g, .cells cur e (0, 0))] ++ L2) ⟨g, off, cap, cur, rfl, rfl, q1, q2, q3, q4⟩ (fun p hp => by rw [List.mem_singleton.1 hp]; simp) hu
  exact this.cell hw'.js
 by_cases hroom : xs.length + 1 ≤ cap
 ·have hf := run_firstCells_some (P := P) w ti.size 1 ad 1 c [u] (by rw [hi2]; rfl) hcell
  have hst := run_storeCells_at P g (off + xs.length) e [u] 0 cur w hb (by simp; omega) (by simpa using h1)
  simp only [Nat.add_zero] at hst
  refine ⟨.slice (some ⟨g, off, none⟩) (xs.length + 1) cap, w.setRow g (cur.toList.take (off + xs.length) ++ [u] ++ cur.toList.drop (off + xs.length + [u].length)).toArray, M, [(g, .cells (cur.toList.take (off + xs.length) ++ [u] ++ cur.toList.drop (off + xs.length + [u].length)).toArray e (0, 0))] ++ L2, .inl ?_, hw'.put ⟨⟨[], L2, rfl, rfl⟩⟩, rfl, _, rfl, ?_⟩
  ·simp [execOp, ho, resolve, invoke, builtin, ha.ev hx, ha.ev hy, Builtin.append_, run_underlying ht.h, sizeOf, typeInfo, hi, hi2, Builtin.lenOf, hroom, Addr.add_lit]
   rw [hi2] at hf
   have hst2 : (storeCells { block := g, off := off + xs.length } [u]).run P w = .ok () (w.setRow g (cur.toList.take (off + xs.length) ++ u :: cur.toList.drop (off + xs.length + 1)).toArray) := by simpa using hst
   simp [hf, hst2]
  ·have hsz : off + xs.length < cur.toList.length := by have : cur.toList.length = cur.size := rfl; omega
   refine ⟨g, off, cap, _, by simp, rfl, ?_, by simp; omega, q3, ?_⟩
   ·simp; omega
   ·simp only [List.length_append, List.length_cons, List.length_nil, List.append_assoc]
    exact q_put (by omega) rfl q4
 ·have hr := run_append_grow (P := P) w t o.type e ti zv ht.h hi hz ⟨g, off, none⟩ xs.length cap xs (by rw [hi2]; simp) holds ad 1 c [u] (by rw [hi2]; rfl) hcell (by omega) (by omega) (growslice_fits (by omega) (by rw [hi3]; have : (xs.length + 1) * bytes ≤ 1000001 * 100000 := Nat.mul_le_mul (by omega) hby; omega))
  have hd : St E M ([(g, .cells cur e (0, 0))] ++ L2) w.drew := { os := hw'.os, tape := hw'.tape, output := hw'.output, size := hw'.size, same := hw'.same, fresh := hw'.fresh, agree := hw'.agree, locs := hw'.locs, nodup := hw'.nodup }
  have hsz : zv.cells.size = 1 := by rw [hz2]; simpa using hl.len
  refine ⟨_, _, M, _, .inl (by simp only [execOp, ho, resolve, invoke, builtin, List.map_toArray, List.map_cons, List.map_nil, ha.ev hx, ha.ev hy, Sem.run_bind, Sem.run_pure, Result.andThen_ok, hr]; rfl), ((hd.fewer (L' := L2) (by simp)).alloc _), rfl, [_], rfl, ?_⟩
  have hge := grownCap_ge w (xs.length + 1) cap e
  refine ⟨w.heap.size, 0, grownCap w (xs.length + 1) cap e, _, by simp, rfl, ?_, by simpa using hge, grownCap_le_maxLen w (xs.length + 1) cap e (by unfold maxLen; omega), ?_⟩
  ·simp [size_zeroCells, hsz]; omega
  ·simp only [Array.toList_append, List.length_append, List.length_cons, List.length_nil, List.drop_zero]
   exact List.take_left' (by simp)
end
end Go.Proofs.YtckdncmjkloebaaGreat
namespace Go.Proofs.YtckdncmjkloebaaGreat
set_option linter.unusedVariables false
set_option linter.unusedSimpArgs false
open Go.Shelf
def keysA_ren : Go.Shelf.Ren := ⟨fun | 7 => 99 | 10 => 134 | n => n, fun | 23 => 163 | 26 => 3 | 3 => 3 | 28 => 166 | 0 => 0 | 27 => 165 | 33 => 205 | 4 => 4 | n => n, fun | n => n⟩
theorem keysA : Go.Proofs.SlLaysZI.n7 Tryz.prog keysA_ren := {
 mixed := by kernel_rfl
 f7 := ⟨Tryz.f99.name, by decide, Tryz.func99.trans (congrArg some (by kernel_rfl))⟩
 f10 := ⟨Tryz.f134.name, by decide, Tryz.func134.trans (congrArg some (by kernel_rfl))⟩
 t0 := Tryz.underlying0
 a0 := Tryz.isAgg0
 z0 := Tryz.sizeOf0
 v0 := Tryz.zeroValue0
 t4 := Tryz.underlying4
 a4 := Tryz.isAgg4
 z4 := Tryz.sizeOf4
 v4 := Tryz.zeroValue4
 t23 := Tryz.underlying163
 a23 := Tryz.isAgg163
 z23 := Tryz.sizeOf163
 v23 := Tryz.zeroValue163
 t26 := Tryz.underlying3
 a26 := Tryz.isAgg3
 z26 := Tryz.sizeOf3
 v26 := Tryz.zeroValue3
 t27 := Tryz.underlying165
 a27 := Tryz.isAgg165
 z27 := Tryz.sizeOf165
 v27 := Tryz.zeroValue165
 t28 := Tryz.underlying166
 a28 := Tryz.isAgg166
 z28 := Tryz.sizeOf166
 v28 := Tryz.zeroValue166
 t33 := Tryz.underlying205
 a33 := Tryz.isAgg205
 z33 := Tryz.sizeOf205
 v33 := Tryz.zeroValue205 }
def sortedA_ren : Go.Shelf.Ren := ⟨fun | 6 => 98 | 8 => 132 | 9 => 133 | 11 => 155 | 13 => 157 | 12 => 156 | 23 => 180 | 24 => 181 | 14 => 171 | 15 => 172 | 16 => 173 | 17 => 174 | 18 => 175 | 19 => 176 | 20 => 177 | 21 => 178 | 22 => 179 | 25 => 192 | 26 => 193 | 27 => 194 | 28 => 195 | 29 => 196 | 30 => 197 | 31 => 199 | n => n, fun | 26 => 3 | 28 => 166 | 24 => 49 | 0 => 0 | 3 => 3 | 37 => 229 | 48 => 29 | 50 => 254 | 4 => 4 | 40 => 246 | 39 => 245 | 45 => 125 | 5 => 5 | 9 => 9 | 51 => 265 | 55 => 269 | 57 => 272 | 58 => 92 | 33 => 205 | n => n, fun | n => n⟩
theorem sortedA : Go.Proofs.SlLaysZI.n6 Tryz.prog sortedA_ren := {
 mixed := by kernel_rfl
 f6 := ⟨Tryz.f98.name, by decide, Tryz.func98.trans (congrArg some (by kernel_rfl))⟩
 f8 := ⟨Tryz.f132.name, by decide, Tryz.func132.trans (congrArg some (by kernel_rfl))⟩
 f11 := ⟨Tryz.f155.name, by decide, Tryz.func155.trans (congrArg some (by kernel_rfl))⟩
 t0 := Tryz.underlying0
 a0 := Tryz.isAgg0
 z0 := Tryz.sizeOf0
 v0 := Tryz.zeroValue0
 t24 := Tryz.underlying49
 a24 := Tryz.isAgg49
 z24 := Tryz.sizeOf49
 v24 := Tryz.zeroValue49
 t26 := Tryz.underlying3
 a26 := Tryz.isAgg3
 z26 := Tryz.sizeOf3
 v26 := Tryz.zeroValue3
 t28 := Tryz.underlying166
 a28 := Tryz.isAgg166
 z28 := Tryz.sizeOf166
 v28 := Tryz.zeroValue166
 i26 := by kernel_rfl }
def sortA_ren : Go.Shelf.Ren := ⟨fun | 5 => 133 | 8 => 157 | 7 => 156 | 19 => 180 | 20 => 181 | 10 => 171 | 11 => 172 | 12 => 173 | 13 => 174 | 14 => 175 | 15 => 176 | 16 => 177 | 17 => 178 | 18 => 179 | 30 => 192 | 31 => 193 | 32 => 194 | 33 => 195 | 34 => 196 | 35 => 197 | 40 => 199 | n => n, fun | 23 => 49 | 25 => 3 | 3 => 3 | 32 => 229 | 22 => 49 | 0 => 0 | 44 => 29 | 46 => 254 | 4 => 4 | 36 => 246 | 35 => 245 | 41 => 125 | 5 => 5 | 9 => 9 | 53 => 265 | 57 => 269 | 63 => 272 | 64 => 92 | n => n, fun | n => n⟩
theorem sortA : Go.Proofs.SlLaysM.n5 Tryz.prog sortA_ren := {
 mixed := by kernel_rfl
 f5 := ⟨Tryz.f133.name, by decide, Tryz.func133.trans (congrArg some (by kernel_rfl))⟩
 f7 := ⟨Tryz.f156.name, by decide, Tryz.func156.trans (congrArg some (by kernel_rfl))⟩
 f8 := Tryz.func157.trans (congrArg some (by kernel_rfl))
 f10 := ⟨Tryz.f171.name, by decide, Tryz.func171.trans (congrArg some (by kernel_rfl))⟩
 f11 := ⟨Tryz.f172.name, by decide, Tryz.func172.trans (congrArg some (by kernel_rfl))⟩
 f12 := ⟨Tryz.f173.name, by decide, Tryz.func173.trans (congrArg some (by kernel_rfl))⟩
 f13 := ⟨Tryz.f174.name, by decide, Tryz.func174.trans (congrArg some (by kernel_rfl))⟩
 f14 := ⟨Tryz.f175.name, by decide, Tryz.func175.trans (congrArg some (by kernel_rfl))⟩
 f15 := ⟨Tryz.f176.name, by decide, Tryz.func176.trans (congrArg some (by kernel_rfl))⟩
 f16 := ⟨Tryz.f177.name, by decide, Tryz.func177.trans (congrArg some (by kernel_rfl))⟩
 f17 := ⟨Tryz.f178.name, by decide, Tryz.func178.trans (congrArg some (by kernel_rfl))⟩
 f18 := ⟨Tryz.f179.name, by decide, Tryz.func179.trans (congrArg some (by kernel_rfl))⟩
 f19 := Tryz.func180.trans (congrArg some (by kernel_rfl))
 f20 := Tryz.func181.trans (congrArg some (by kernel_rfl))
 f30 := ⟨Tryz.f192.name, by decide, Tryz.func192.trans (congrArg some (by kernel_rfl))⟩
 f31 := Tryz.func193.trans (congrArg some (by kernel_rfl))
 f32 := Tryz.func194.trans (congrArg some (by kernel_rfl))
 f33 := ⟨Tryz.f195.name, by decide, Tryz.func195.trans (congrArg some (by kernel_rfl))⟩
 f34 := ⟨Tryz.f196.name, by decide, Tryz.func196.trans (congrArg some (by kernel_rfl))⟩
 f35 := ⟨Tryz.f197.name, by decide, Tryz.func197.trans (congrArg some (by kernel_rfl))⟩
 f40 := ⟨Tryz.f199.name, by decide, Tryz.func199.trans (congrArg some (by kernel_rfl))⟩
 t0 := Tryz.underlying0
 a0 := Tryz.isAgg0
 z0 := Tryz.sizeOf0
 v0 := Tryz.zeroValue0
 t3 := Tryz.underlying3
 a3 := Tryz.isAgg3
 z3 := Tryz.sizeOf3
 v3 := Tryz.zeroValue3
 t4 := Tryz.underlying4
 a4 := Tryz.isAgg4
 z4 := Tryz.sizeOf4
 v4 := Tryz.zeroValue4
 t5 := Tryz.underlying5
 a5 := Tryz.isAgg5
 z5 := Tryz.sizeOf5
 v5 := Tryz.zeroValue5
 t9 := Tryz.underlying9
 a9 := Tryz.isAgg9
 z9 := Tryz.sizeOf9
 v9 := Tryz.zeroValue9
 t22 := Tryz.underlying49
 a22 := Tryz.isAgg49
 z22 := Tryz.sizeOf49
 v22 := Tryz.zeroValue49
 t23 := Tryz.underlying49
 a23 := Tryz.isAgg49
 z23 := Tryz.sizeOf49
 v23 := Tryz.zeroValue49
 t25 := Tryz.underlying3
 a25 := Tryz.isAgg3
 z25 := Tryz.sizeOf3
 v25 := Tryz.zeroValue3
 t32 := Tryz.underlying229
 a32 := Tryz.isAgg229
 z32 := Tryz.sizeOf229
 v32 := Tryz.zeroValue229
 t35 := Tryz.underlying245
 a35 := Tryz.isAgg245
 z35 := Tryz.sizeOf245
 v35 := Tryz.zeroValue245
 t36 := Tryz.underlying246
 a36 := Tryz.isAgg246
 z36 := Tryz.sizeOf246
 v36 := Tryz.zeroValue246
 t41 := Tryz.underlying125
 a41 := Tryz.isAgg125
 z41 := Tryz.sizeOf125
 v41 := Tryz.zeroValue125
 t44 := Tryz.underlying29
 a44 := Tryz.isAgg29
 z44 := Tryz.sizeOf29
 v44 := Tryz.zeroValue29
 t46 := Tryz.underlying254
 a46 := Tryz.isAgg254
 z46 := Tryz.sizeOf254
 v46 := Tryz.zeroValue254
 t53 := Tryz.underlying265
 a53 := Tryz.isAgg265
 z53 := Tryz.sizeOf265
 v53 := Tryz.zeroValue265
 t57 := Tryz.underlying269
 a57 := Tryz.isAgg269
 z57 := Tryz.sizeOf269
 v57 := Tryz.zeroValue269
 t63 := Tryz.underlying272
 a63 := Tryz.isAgg272
 z63 := Tryz.sizeOf272
 v63 := Tryz.zeroValue272
 t64 := Tryz.underlying92
 a64 := Tryz.isAgg92
 z64 := Tryz.sizeOf92
 v64 := Tryz.zeroValue92 }
end Go.Proofs.YtckdncmjkloebaaGreat
namespace Go.Proofs.YtckdncmjkloebaaGreat
set_option linter.unusedVariables false
set_option linter.unusedSimpArgs false
open Go.RowKit Go.Maps Go.Sort Go.Shelf
theorem sortsA (m : Nat) : AnyZI.SortsIn Tryz.prog sortedA_ren Fence.wide m :=
  ⟨fun blk off cap ss W hH hblk hsz => callsIn_wide.2 (AnyM.slices_Sort_int sortA blk off cap ss W hH hblk hsz),
   fun p cap W => callsIn_wide.2 (AnyM.slices_Sort_int_none sortA p cap W)⟩
theorem und_int : Tryz.prog.underlying 3 = some (.int .i64) := by kernel_rfl
abbrev Rnil : Value → Option (DataW Unit × List MemPlace) := fun _ => some (.nil, [])
theorem wMn : ∀ {l : List (Int × Int)} {j : Nat} {e : MapEntry}, e ∈ wHj j l → (∃ p ∈ l, e.key = .int .i64 p.1) ∧ j ≤ e.born ∧ e.born < j + l.length
  | [], _, _, h => by cases h
  | p :: l, j, e, h => by
    rw [wHj] at h
    rcases List.mem_cons.1 h with rfl | h
    · exact ⟨⟨p, by simp, rfl⟩, by simp, by simp⟩
    · obtain ⟨⟨q, h1, h2⟩, h3, h4⟩ := wMn h
      exact ⟨⟨q, by simp [h1], h2⟩, by omega, by simp; omega⟩
theorem ents_born : ∀ (l : List (Int × Int)) (j : Nat), ((wHj j l).map (·.born)).Nodup
  | [], _ => by simp [wHj]
  | p :: l, j => by
    rw [wHj, List.map_cons, List.nodup_cons]
    refine ⟨fun h => ?_, ents_born l (j + 1)⟩
    obtain ⟨e, he, hb⟩ := List.mem_map.1 h
    have := (wMn he).2.1
    simp only at hb; omega
theorem ents_keys : ∀ {l : List (Int × Int)} (j : Nat), (wCy l).Nodup → (wHj j l).Pairwise (fun x y => x.key ≠ y.key)
  | [], _, _ => by simp [wHj]
  | p :: l, j, h => by
    rw [wCy, List.map_cons, List.nodup_cons] at h
    rw [wHj, List.pairwise_cons]
    refine ⟨fun e he hk => ?_, ents_keys (j + 1) h.2⟩
    obtain ⟨q, hq, hqk⟩ := (wMn he).1
    rw [hqk] at hk
    simp only [Value.int.injEq, true_and] at hk
    exact h.1 (List.mem_map.2 ⟨q, hq, hk.symm⟩)
def InI (x : Int) : Prop := -9223372036854775808 ≤ x ∧ x ≤ 9223372036854775807
theorem wf_i64 {x : Int} (h : InI x) : (Lit.int .i64 x).wf = true := by
  unfold InI at h
  simp [Lit.wf, IntKind.min, IntKind.max, IntKind.signed, IntKind.bits]; omega
theorem ents_rg : ∀ {l : List (Int × Int)} (j : Nat), (∀ p ∈ l, InI p.1) → (wHj j l).map (Go.WideElems.rg Tryz.prog 3 Rnil) = l.map fun p => (Lit.int .i64 p.1, (DataW.nil : DataW Unit))
  | [], _, _ => rfl
  | p :: l, j, h => by
    have e : Go.WideElems.rg Tryz.prog 3 Rnil { key := .int .i64 p.1, val := .int .i64 p.2, born := j } = (Lit.int .i64 p.1, (DataW.nil : DataW Unit)) := by
      simp [Go.WideElems.rg, Go.WideElems.rd, keyOf_int_mk und_int (wf_i64 (h p (by simp)))]
    rw [wHj, List.map_cons, List.map_cons, ents_rg (j + 1) (fun q hq => h q (by simp [hq])), e]
theorem owns_of {w : World} {b : Nat} {l : List (Int × Int)} (hb : w.heap[b]? = some (mObj l)) (hw : ∀ p ∈ l, InI p.1) (hn : (wCy l).Nodup) (hlen : l.length ≤ 1000000) :
    ∃ D0 : DataW Unit, w.ownsMap Tryz.prog 3 Rnil b l.length D0 ∧ (intKeys D0).Perm (wCy l) ∧ Maps.size D0 = l.length := by
  refine ⟨_, ⟨(wHj 0 l).toArray, l.length, hb, ⟨?_, ?_, ?_⟩, ?_, rfl⟩, ?_, ?_⟩
  · simp [ents_len]; unfold maxLen; omega
  · rw [MapKept.stamped_iff]
    exact ⟨fun x hx => by have := (wMn (by simpa using hx)).2.2; omega, by simpa using ents_born l 0, by simpa using ents_keys 0 hn⟩
  · intro x hx
    obtain ⟨p, hp, hk⟩ := (wMn (l := l) (j := 0) (by simpa using hx)).1
    exact ⟨(.int .i64 p.1, .nil), by simp [Go.WideElems.rd, hk, keyOf_int_mk und_int (wf_i64 (hw p hp))]⟩
  · simp [ents_len]
  · show (List.map _ _).Perm _
    rw [show (wHj 0 l).toArray.toList = wHj 0 l from rfl, ents_rg 0 hw]
    refine ((WideShapes.sorted_perm _).map _).trans ?_
    simp only [List.map_map, Function.comp_def, wCy]
    exact List.Perm.refl _
  · show List.length _ = _
    rw [length_sorted]; simp [ents_len]
theorem sorted_spec (M : Mem) (b c : Nat) (l : List (Int × Int)) (hb : M b = some (mObj l)) (hc : M c = some (.cells [.map (some b)].toArray 163 (0, 0))) (hw : ∀ p ∈ l, InI p.1) (hn : (wCy l).Nodup) (hlen : l.length ≤ 1000000) :
    SpecL Tryz.prog 98 #[.func (.func 134) #[] #[.pointer (some ⟨c, 0, none⟩)]] M [] fun v M' L' => ∃ ss : List Int, M' = M ∧ ss.Perm (wCy l) ∧ Own v L' 3 1 ss.length ((ss.mergeSort leI).map encZ) := by
  intro w hst
  have hbw := hst.agree _ _ hb
  have hcw := hst.agree _ _ hc
  obtain ⟨D0, hown, hperm, hsize⟩ := owns_of hbw hw hn hlen
  have hseq : SeqGives Fence.wide 2 Tryz.prog 134 #[.pointer (some ⟨c, 0, none⟩)] encZ (fun ss => ss.Perm (intKeys D0)) (Maps.size D0) w :=
    AnyZI.keys_gives (ρ := keysA_ren) { keysA with } Fence.wide _ trivial rfl (by omega) c b _ D0 w (wCw hcw) (by simp [World.cell?, hcw]) hown
  have cS := AnyZI.sorted_in sortedA Fence.wide 5 trivial trivial trivial trivial rfl (by omega) (sortsA _) (enters_of Tryz.func133 (by kernel_rfl) rfl) 134 #[.pointer (some ⟨c, 0, none⟩)] trivial (enters_of Tryz.func134 (by kernel_rfl) rfl) _ _ (by rw [hsize]; unfold maxLen; omega) (by rw [hsize]; omega) _ hseq
  change CallsIn _ _ Tryz.prog 98 _ _ _ at cS
  refine ((callsIn_wide (n := 5)).1 cS).mono ?_
  rintro e w' ⟨v, ss, rfl, hS, hrow, hnil, hbel⟩
  have hst' := St.closed _ _ _ _ _ hst hbel
  have hlen2 := hrow.1
  rcases hrow.2 with ⟨rfl, hz⟩ | ⟨g, cap, cur, rfl, hbase, hg, r1, r2, r3, r4⟩
  · exact ⟨_, M, [], rfl, ⟨ss, rfl, hS.trans hperm, hlen2, .inl ⟨rfl, hz, rfl⟩⟩, hst'⟩
  · refine ⟨_, M, [(g, .cells cur 3 (0, 0))], rfl, ⟨ss, rfl, hS.trans hperm, hlen2, .inr ⟨g, cap, cur, rfl, rfl, r1, r2, r3, r4⟩⟩, ?_⟩
    refine { hst' with locs := fun p hp => ?_, nodup := by simp }
    rw [List.mem_singleton.1 hp]
    refine ⟨hg, .inl hbase, ?_⟩
    cases hm : M g with
    | none => rfl
    | some x => exact absurd (wCw (hst.agree _ _ hm)) (by have : w.heap.size ≤ g := hbase; omega)
end Go.Proofs.YtckdncmjkloebaaGreat
