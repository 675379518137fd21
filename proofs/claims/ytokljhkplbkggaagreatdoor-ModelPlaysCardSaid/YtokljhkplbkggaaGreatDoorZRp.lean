/- How forests lie in memory. No statement of the seat is proved here. -/
import Derived.Test.YtokljhkplbkggaaGreatDoorZHk
import Derived.MapKept
import Derived.ArgAppend
import Derived.Maps.RangeRun
import Derived.Laws.IdiomRangeMap
import Derived.Test.YtokljhkplbkggaaGreatDoorZTab
import Derived.Test.YtokljhkplbkggaaGreatDoorZThaw
import Derived.LaidEqlPtr
namespace Go.Proofs.YtokljhkplbkggaaGreatDoor
set_option linter.unusedVariables false
set_option linter.unusedSectionVars false
set_option linter.unusedSimpArgs false
open Go.RowKit
theorem St.setObj {E : Ent} {M : Mem} {w w' : World} {b : Nat} {o o' : Obj} {A B : Lc} (h : St E M (A ++ (b, o) :: B) w) (hos : w'.os = w.os) (ht : w'.tape = w.tape) (ho : w'.output = w.output) (hs : w'.heap.size = w.heap.size)
  (hb' : w'.heap[b]? = some o') (hr : ∀ k, k ≠ b → w'.heap[k]? = w.heap[k]?) : St E M (A ++ (b, o') :: B) w' := by
 have hb := h.locs (b, o) (by simp)
 have hne : ∀ p ∈ A ++ B, p.1 ≠ b := by
  intro p hp he
  have hn := h.nodup
  rw [List.map_append, List.map_cons] at hn
  have := (List.nodup_append.1 hn)
  rcases List.mem_append.1 hp with hp | hp
  ·exact this.2.2 p.1 (List.mem_map.2 ⟨p, hp, rfl⟩) b (by simp) he
  exact (List.nodup_cons.1 this.2.1).1 (List.mem_map.2 ⟨p, hp, he⟩)
 exact
  {os := hos.trans h.os, tape := ht.trans h.tape, output := ho.trans h.output, size := by rw [hs]; exact h.size
   same := fun k hk hx => by
    have : k ≠ b := fun e => by subst e; exact hb.2.1.elim (fun h => by omega) hx
    rw [hr k this]; exact h.same k hk hx
   fresh := h.fresh
   agree := fun k x hx => by
    have : k ≠ b := fun e => by subst e; rw [hb.2.2] at hx; cases hx
    rw [hr k this]; exact h.agree k x hx
   locs := fun p hp => by
    rcases List.mem_append.1 hp with hp | hp
    ·have hp' := h.locs p (by simp [hp])
     exact ⟨by rw [hr _ (hne p (by simp [hp]))]; exact hp'.1, hp'.2⟩
    rcases List.mem_cons.1 hp with rfl | hp
    ·exact ⟨hb', hb.2⟩
    have hp' := h.locs p (by simp [hp])
    exact ⟨by rw [hr _ (hne p (by simp [hp]))]; exact hp'.1, hp'.2⟩
   nodup := by have := h.nodup; simpa [List.map_append] using this }
section
variable {P : Program} {ops : Array Oper} {N : Fs} {F : Fr} {E : Ent} {M : Mem} {L : Lc} {o : Oper}
def Que (v : Value) (R : Lc) (t : TypeId) (xs : List Value) : Prop := ∃ g off cap cur, v = .slice (some ⟨g, off, none⟩) xs.length cap ∧ R = [(g, .cells cur t (0, 0))] ∧ off + cap ≤ cur.size ∧ xs.length ≤ cap ∧ cap ≤ maxLen ∧ (cur.toList.drop off).take xs.length = xs
theorem Que.one {g : Nat} {t : TypeId} {v : Value} : Que (.slice (some ⟨g, 0, none⟩) 1 1) [(g, .cells [v].toArray t (0, 0))] t [v] := ⟨g, 0, 1, [v].toArray, rfl, rfl, by simp, by simp, by decide, by simp⟩
theorem Que.tail {g off cap : Nat} {R : Lc} {t : TypeId} {x : Value} {xs : List Value} {n : Nat} (h : Que (.slice (some ⟨g, off, none⟩) n cap) R t (x :: xs)) : Que (.slice (slA (some ⟨g, off, none⟩) 1 cap 1) (n - 1) (cap - 1)) R t xs := by
 obtain ⟨g', off', cap', cur, e, rfl, h1, h2, h3, h4⟩ := h
 simp only [Value.slice.injEq, Option.some.injEq, Addr.mk.injEq, true_and, and_true] at e
 obtain ⟨⟨rfl, rfl⟩, rfl, rfl⟩ := e
 simp only [List.length_cons] at h2 h4 ⊢
 by_cases hc : cap = 1
 ·subst hc
  obtain rfl : xs = [] := List.eq_nil_of_length_eq_zero (by omega)
  exact ⟨g, off, 0, cur, rfl, rfl, by omega, by simp, by decide, by simp⟩
 have hx : (cur.toList.drop (off + 1)).take xs.length = xs := by
  have h5 : (cur.toList.drop off).drop 1 = cur.toList.drop (off + 1) := by rw [List.drop_drop]
  rw [← h5]
  generalize cur.toList.drop off = d at h4
  cases d with
  | nil => simp at h4
  | cons y ys => simp only [List.take_succ_cons, List.cons.injEq] at h4; simpa using h4.2
 exact ⟨g, off + 1, cap - 1, cur, by rw [wGy (by omega)]; simp, rfl, by omega, by omega, by omega, hx⟩
theorem Que.cj {g off n cap : Nat} {R : Lc} {t : TypeId} {xs : List Value} (h : Que (.slice (some ⟨g, off, none⟩) n cap) R t xs) {L : Lc} (hR : ∀ p ∈ R, p ∈ L) {M : Mem} {i : Nat} {x : Value} (hx : xs[i]? = some x) : CJ M L g (off + i) x := by
 obtain ⟨g', off', cap', cur, e, rfl, h1, h2, h3, h4⟩ := h
 simp only [Value.slice.injEq, Option.some.injEq, Addr.mk.injEq, true_and, and_true] at e
 obtain ⟨⟨rfl, rfl⟩, rfl, rfl⟩ := e
 refine ⟨cur, t, (0, 0), .inr (hR _ (by simp)), ?_⟩
 have hi : i < xs.length := (List.getElem?_eq_some_iff.1 hx).1
 rw [← h4, List.getElem?_take_of_lt hi, List.getElem?_drop] at hx
 simpa using hx
end
end Go.Proofs.YtokljhkplbkggaaGreatDoor
namespace Go.Proofs.YtokljhkplbkggaaGreatDoor
set_option linter.unusedVariables false
set_option linter.unusedSimpArgs false
open Go.RowKit Go.MapKept
section
variable {κ α β : Type} [DecidableEq κ]
def wAm (k : κ) : List (κ × α) → Option α
 | [] => none
 | p :: l => if k = p.1 then some p.2 else wAm k l
def wBq (k : κ) (v : α) : List (κ × α) → List (κ × α)
 | [] => [(k, v)]
 | p :: l => if k = p.1 then (k, v) :: l else p :: wBq k v l
def wBc (k : κ) (l : List (κ × α)) : List (κ × α) := l.filter fun p => !decide (p.1 = k)
abbrev wBg (l : List (κ × α)) : List κ := l.map (·.1)
theorem getA_none {k : κ} : ∀ {l : List (κ × α)}, wAm k l = none ↔ k ∉ wBg l
 | [] => by simp [wAm]
 | p :: l => by
  rw [wAm]
  by_cases h : k = p.1
  ·simp [h]
  rw [if_neg h, getA_none (l := l)]; simp [h]
theorem wDy {k : κ} {v : α} : ∀ {l : List (κ × α)}, wAm k l = some v → (k, v) ∈ l
 | [], h => by cases h
 | p :: l, h => by
  rw [wAm] at h
  split at h
  ·rename_i e; cases h; rw [e]; exact List.Mem.head _
  exact List.Mem.tail _ (wDy h)
theorem wFf {k : κ} {v : α} : ∀ {l : List (κ × α)}, (wBg l).Nodup → (k, v) ∈ l → wAm k l = some v
 | p :: l, hn, h => by
  simp only [wBg, List.map_cons, List.nodup_cons] at hn
  rw [wAm]
  rcases List.mem_cons.1 h with rfl | h
  ·rw [if_pos rfl]
  have : k ≠ p.1 := fun e => hn.1 (by rw [← e]; exact List.mem_map.2 ⟨_, h, rfl⟩)
  rw [if_neg this]; exact wFf hn.2 h
theorem wCf {k : κ} {v : α} : ∀ {l : List (κ × α)}, wAm k l = some v → ∃ A B, l = A ++ (k, v) :: B ∧ k ∉ wBg A
 | [], h => by cases h
 | p :: l, h => by
  rw [wAm] at h
  split at h
  ·rename_i e; cases h; exact ⟨[], l, by rw [e]; rfl, by simp⟩
  rename_i e
  obtain ⟨A, B, rfl, h2⟩ := wCf h
  exact ⟨p :: A, B, rfl, by simp [e]; simpa using h2⟩
theorem getA_mid {k : κ} {v : α} : ∀ {A B : List (κ × α)}, k ∉ wBg A → wAm k (A ++ (k, v) :: B) = some v
 | [], B, _ => by simp [wAm]
 | p :: A, B, h => by
  simp only [List.map_cons, List.mem_cons, not_or] at h
  rw [List.cons_append, wAm, if_neg h.1]; exact getA_mid h.2
theorem wFa {k : κ} {u v : α} : ∀ {A B : List (κ × α)}, k ∉ wBg A → wBq k v (A ++ (k, u) :: B) = A ++ (k, v) :: B
 | [], B, _ => by simp [wBq]
 | p :: A, B, h => by
  simp only [List.map_cons, List.mem_cons, not_or] at h
  rw [List.cons_append, wBq, if_neg h.1, wFa h.2]; rfl
theorem wEy {k : κ} {v : α} : ∀ {l : List (κ × α)}, k ∉ wBg l → wBq k v l = l ++ [(k, v)]
 | [], _ => rfl
 | p :: l, h => by
  simp only [List.map_cons, List.mem_cons, not_or] at h
  rw [wBq, if_neg h.1, wEy h.2]; rfl
theorem delA_new {k : κ} {l : List (κ × α)} (h : k ∉ wBg l) : wBc k l = l := by
 refine List.filter_eq_self.2 fun p hp => ?_
 have : p.1 ≠ k := fun e => h (by rw [← e]; exact List.mem_map.2 ⟨p, hp, rfl⟩)
 simp [this]
theorem wLr {k : κ} {u : α} {A B : List (κ × α)} (h : (wBg (A ++ (k, u) :: B)).Nodup) : wBc k (A ++ (k, u) :: B) = A ++ B := by
 simp only [wBg, List.map_append, List.map_cons] at h
 have h1 := List.nodup_append.1 h
 have hB := (List.nodup_cons.1 h1.2.1).1
 have hA : k ∉ wBg A := fun hm => h1.2.2 k hm k (by simp) rfl
 unfold wBc
 rw [List.filter_append, List.filter_cons]
 have e1 := delA_new hA; have e2 := delA_new hB
 unfold wBc at e1 e2
 rw [e1, e2]; simp
theorem wKd {k : κ} (f : α → β) : ∀ {l : List (κ × α)}, wAm k (l.map fun p => (p.1, f p.2)) = (wAm k l).map f
 | [] => rfl
 | p :: l => by
  rw [List.map_cons, wAm, wAm]
  split
  ·rfl
  exact wKd f
theorem wFb {k x : κ} {v : α} : ∀ {l : List (κ × α)}, wAm x (wBq k v l) = if x = k then some v else wAm x l
 | [] => by simp [wBq, wAm]
 | p :: l => by
  rw [wBq]
  by_cases h : k = p.1
  ·rw [if_pos h, wAm, wAm]
   by_cases hx : x = k
   ·simp [hx]
   simp [hx, ← h]
  rw [if_neg h, wAm, wAm, wFb]
  by_cases hx : x = p.1
  ·rw [if_pos hx, if_pos hx, if_neg (fun e => h (by rw [← e, hx]))]
  rw [if_neg hx, if_neg hx]
theorem wFo {k x : κ} : ∀ {l : List (κ × α)}, wAm x (wBc k l) = if x = k then none else wAm x l
 | [] => by simp [wBc, wAm]
 | p :: l => by
  have ih := wFo (k := k) (x := x) (l := l)
  unfold wBc at ih ⊢
  rw [List.filter_cons]
  by_cases h : p.1 = k
  ·simp only [h, decide_true, Bool.not_true, Bool.false_eq_true, if_false, ih, wAm]
   by_cases hx : x = k <;> simp [hx]
  simp only [h, decide_false, Bool.not_false, if_true, wAm, ih]
  by_cases hx : x = p.1
  ·have : x ≠ k := fun e => h (by rw [← hx, e])
   simp [hx, h]
  simp [hx]
theorem keysA_put {k : κ} {v : α} : ∀ {l : List (κ × α)}, wBg (wBq k v l) = if k ∈ wBg l then wBg l else wBg l ++ [k]
 | [] => by simp [wBq]
 | p :: l => by
  have ih := keysA_put (k := k) (v := v) (l := l)
  rw [wBq]
  by_cases h : k = p.1
  ·simp [h]
  rw [if_neg h]
  simp only [wBg, List.map_cons, List.mem_cons, h, false_or] at ih ⊢
  rw [ih]
  split <;> simp
end
structure KT (κ : Type) where
 K : κ → Value
 d : TypeDesc
 ok : ∀ a, IsKey d (K a)
 inj : ∀ a b, K a = K b → a = b
abbrev kI : KT Int := { K := fun n => .int .i64 n, d := .int .i64, ok := fun _ => rfl, inj := fun a b h => by simpa using h }
abbrev kU : KT Int := { K := fun n => .int .u32 n, d := .int .u32, ok := fun _ => rfl, inj := fun a b h => by simpa using h }
abbrev kS : KT ByteArray := { K := fun n => .string n, d := .string, ok := fun _ => trivial, inj := fun a b h => by simpa using h }
variable {κ : Type}
def wKm (T : KT κ) (l : List (κ × Value)) : List (Value × Value) := l.map fun p => (T.K p.1, p.2)
abbrev kv (e : MapEntry) : Value × Value := (e.key, e.val)
def MapOf (T : KT κ) (o : Obj) (l : List (κ × Value)) : Prop := ∃ es clock, o = .map es clock ∧ Stamped es clock ∧ (∀ x ∈ es.toList, IsKey T.d x.key) ∧ (es.toList.map kv).Perm (wKm T l)
theorem MapOf.perm {T : KT κ} {o : Obj} {l l2 : List (κ × Value)} (h : MapOf T o l) (hp : l.Perm l2) : MapOf T o l2 := by
 obtain ⟨es, c, h1, h2, h3, h4⟩ := h
 exact ⟨es, c, h1, h2, h3, h4.trans (hp.map _)⟩
theorem MapOf.empty {T : KT κ} : MapOf T (.map #[] 0) [] := ⟨#[], 0, rfl, stamped_empty _, by simp, by simp [wKm]⟩
theorem wHn {T : KT κ} {es : Array MapEntry} {clock : Nat} {l : List (κ × Value)} (hs : Stamped es clock) (hp : (es.toList.map kv).Perm (wKm T l)) : (wBg l).Nodup := by
 have h1 : ((es.toList.map kv).map (·.1)).Perm ((wKm T l).map (·.1)) := hp.map _
 simp only [List.map_map] at h1
 have h2 : (es.toList.map ((·.1) ∘ kv)).Nodup := hs.2.2
 have h3 := h1.nodup_iff.1 h2
 have e : (wKm T l).map (·.1) = (wBg l).map T.K := by simp [wKm]
 rw [e] at h3
 exact (List.pairwise_map.1 h3).imp fun h e => h (by rw [e])
theorem MapOf.nodup {T : KT κ} {o : Obj} {l : List (κ × Value)} (h : MapOf T o l) : (wBg l).Nodup := by
 obtain ⟨es, c, h1, h2, h3, h4⟩ := h; exact wHn h2 h4
theorem find_key [DecidableEq κ] {T : KT κ} {es : Array MapEntry} {clock : Nat} {l : List (κ × Value)} (hs : Stamped es clock) (hk : ∀ x ∈ es.toList, IsKey T.d x.key) (hp : (es.toList.map kv).Perm (wKm T l)) (k : κ) :
  (Instr.findNow T.d (T.K k) es.toList 0 = some none ∧ wAm k l = none ∧ ∀ x ∈ es.toList, x.key ≠ T.K k) ∨ ∃ j e, Instr.findNow T.d (T.K k) es.toList 0 = some (some (j, e.val)) ∧ es.toList[j]? = some e ∧ e.key = T.K k ∧ wAm k l = some e.val := by
 rcases findNow_spec (T.ok k) es.toList 0 hk with ⟨h1, h2⟩ | ⟨j, e, h1, h2, h3⟩
 ·refine .inl ⟨h1, getA_none.2 fun hm => ?_, h2⟩
  obtain ⟨p, hp1, rfl⟩ := List.mem_map.1 hm
  have : (T.K p.1, p.2) ∈ es.toList.map kv := hp.mem_iff.2 (List.mem_map.2 ⟨p, hp1, rfl⟩)
  obtain ⟨x, hx, he⟩ := List.mem_map.1 this
  exact h2 x hx (congrArg Prod.fst he)
 refine .inr ⟨j, e, by simpa using h1, h2, h3, ?_⟩
 have hm : kv e ∈ wKm T l := hp.mem_iff.1 (List.mem_map.2 ⟨e, List.mem_of_getElem? h2, rfl⟩)
 obtain ⟨p, hp1, he⟩ := List.mem_map.1 hm
 have e1 : T.K p.1 = T.K k := (congrArg Prod.fst he).trans h3
 have e2 : p.2 = e.val := congrArg Prod.snd he
 have e3 := T.inj _ _ e1
 refine wFf (wHn hs hp) ?_
 rw [← e3, ← e2]; exact hp1
theorem perm_put [DecidableEq κ] {T : KT κ} {es es' : List MapEntry} {l : List (κ × Value)} {k : κ} {v : Value} (hn : (wBg l).Nodup) (hp : (es.map kv).Perm (wKm T l))
  (h : (wAm k l = none ∧ es'.map kv = es.map kv ++ [(T.K k, v)]) ∨ ∃ (j : Nat) (e : MapEntry), es[j]? = some e ∧ e.key = T.K k ∧ es'.map kv = (es.map kv).set j (T.K k, v)) : (es'.map kv).Perm (wKm T (wBq k v l)) := by
 rcases h with ⟨h1, h2⟩ | ⟨j, e, h1, h2, h3⟩
 ·rw [h2, wEy (getA_none.1 h1)]
  simp only [wKm, List.map_append, List.map_cons, List.map_nil]
  exact hp.append_right _
 have hj : j < (es.map kv).length := by simpa using (List.getElem?_eq_some_iff.1 h1).1
 have hm : kv e ∈ wKm T l := hp.mem_iff.1 (List.mem_map.2 ⟨e, List.mem_of_getElem? h1, rfl⟩)
 obtain ⟨p, hp1, he⟩ := List.mem_map.1 hm
 have e3 : p.1 = k := T.inj _ _ ((congrArg Prod.fst he).trans h2)
 obtain ⟨p1, p2⟩ := p
 simp only at e3; subst e3
 obtain ⟨A, B, e4, hA⟩ := wCf (wFf hn hp1)
 rw [e4] at hp ⊢
 rw [wFa hA, h3, List.set_eq_take_append_cons_drop, if_pos hj]
 have e5 : es.map kv = (es.map kv).take j ++ kv e :: (es.map kv).drop (j + 1) := by
  have hje : (es.map kv)[j] = kv e := by
   have := (List.getElem?_eq_some_iff.1 h1).2
   simp [this]
  rw [← hje, List.getElem_cons_drop, List.take_append_drop]
 have he5 : (T.K p1, p2) = kv e := he
 have h6 : ((es.map kv).take j ++ kv e :: (es.map kv).drop (j + 1)).Perm (wKm T A ++ kv e :: wKm T B) := by
  rw [← e5]
  refine hp.trans ?_
  simp only [wKm, List.map_append, List.map_cons, he5]
  exact List.Perm.refl _
 have h7 : ((es.map kv).take j ++ (es.map kv).drop (j + 1)).Perm (wKm T A ++ wKm T B) := (List.perm_middle.symm.trans (h6.trans List.perm_middle)).cons_inv
 refine List.perm_middle.trans ((List.Perm.cons _ h7).trans ?_)
 simp only [wKm, List.map_append, List.map_cons]
 exact List.perm_middle.symm
theorem map_modify {es : Array MapEntry} {j : Nat} {e : MapEntry} {f : MapEntry → MapEntry} (h : es[j]? = some e) : (es.modify j f).toList.map kv = (es.toList.map kv).set j (kv (f e)) := by
 apply List.ext_getElem?
 intro i
 rw [List.getElem?_set]
 simp only [List.getElem?_map, Array.getElem?_toList, Array.getElem?_modify]
 by_cases hij : j = i
 ·subst hij
  obtain ⟨h1, h2⟩ := Array.getElem?_eq_some_iff.1 h
  simp [h1, h2]
 simp [hij]
theorem MapOf.lay [DecidableEq κ] {T : KT κ} {es : Array MapEntry} {clock : Nat} {l : List (κ × Value)} {k : κ} {v : Value} (hs : Stamped es clock) (hk : ∀ x ∈ es.toList, IsKey T.d x.key) (hp : (es.toList.map kv).Perm (wKm T l)) (hnew : wAm k l = none) (hx : ∀ x ∈ es.toList, x.key ≠ T.K k) :
  MapOf T (.map (es.push { key := T.K k, val := v, born := clock }) (clock + 1)) (wBq k v l) := by
 refine ⟨_, _, rfl, stamped_push hs hx, ?_, perm_put (wHn hs hp) hp (.inl ⟨hnew, by simp⟩)⟩
 intro x hx'
 simp only [Array.toList_push, List.mem_append, List.mem_singleton] at hx'
 rcases hx' with hx' | rfl
 ·exact hk x hx'
 exact T.ok k
theorem MapOf.turn [DecidableEq κ] {T : KT κ} {es : Array MapEntry} {clock : Nat} {l : List (κ × Value)} {k : κ} {v : Value} {j : Nat} {e : MapEntry} {f : MapEntry → MapEntry} (hs : Stamped es clock) (hk : ∀ x ∈ es.toList, IsKey T.d x.key) (hp : (es.toList.map kv).Perm (wKm T l)) (hj : es[j]? = some e) (he : e.key = T.K k)
  (hf : ∀ x, (f x).born = x.born) (hfe : kv (f e) = (T.K k, v)) : MapOf T (.map (es.modify j f) clock) (wBq k v l) := by
 have hkey : ∀ e', es[j]? = some e' → (f e').key = e'.key := fun e' he' => by rw [hj] at he'; cases he'; rw [he]; exact congrArg Prod.fst hfe
 refine ⟨_, _, rfl, stamped_modify hs _ _ (fun x _ => hf x) (fun e' _ he' => hkey e' he'), isKey_modify hk _ _ hkey, perm_put (wHn hs hp) hp (.inr ⟨j, e, by simpa using hj, he, ?_⟩)⟩
 rw [map_modify hj, hfe]
def StampOf (T : KT κ) (o : Obj) (born : Int) (k : κ) : Prop := ∃ es clock e, o = .map es clock ∧ e ∈ es.toList ∧ (e.born : Int) = born ∧ e.key = T.K k
theorem erase_perm {α : Type} : ∀ (l : List α) (j : Nat) (h : j < l.length), l.Perm (l[j] :: l.eraseIdx j)
 | x :: l, 0, _ => by simp
 | x :: l, j + 1, h => by
  simp only [List.getElem_cons_succ, List.eraseIdx_cons_succ]
  exact (List.Perm.cons x (erase_perm l j (by simpa using h))).trans (List.Perm.swap _ _ _)
def OJ (M : Mem) (L : Lc) (b : Nat) (o : Obj) : Prop := M b = some o ∨ (b, o) ∈ L
theorem OJ.heap {M : Mem} {L : Lc} {b : Nat} {o : Obj} (h : OJ M L b o) {w : World} (hw : Js M L w) : w.heap[b]? = some o := h.elim (hw.agree _ _) (hw.locs (b, o))
theorem OJ.cj {M : Mem} {L : Lc} {b : Nat} {c : Array Value} {e : TypeId} {fz : Nat × Nat} (h : OJ M L b (.cells c e fz)) {off : Nat} {v : Value} (hv : c[off]? = some v) : CJ M L b off v := ⟨c, e, fz, h, hv⟩
theorem OJ.of {M : Mem} {L : Lc} {b : Nat} {o : Obj} [h : At b o L] : OJ M L b o := .inr h.mem
section
variable {P : Program} {ops : Array Oper} {N : Fs} {F : Fr} {E : Ent} {M : Mem} {L : Lc} {o : Oper}
theorem zero_run {et : TypeId} {z : Value} (he : (P.info? et).bind (·.zero) = some z) (w : World) : (zeroValue et).run P w = .ok z w := by
 cases hi : P.info? et with
 | none => rw [hi] at he; cases he
 | some ti =>
  rw [hi] at he
  have hz : ti.zero = some z := he
  simp [zeroValue, typeInfo, hi, hz]
theorem run_lookupO [DecidableEq κ] (T : KT κ) {t kt et : TypeId} (ht : P.underlying t = some (.map kt et)) (hk : P.underlying kt = some T.d) {z : Value} {w : World} (hz : (zeroValue et).run P w = .ok z w) {b : Nat} {mo : Obj} {l : List (κ × Value)} (hb : w.heap[b]? = some mo) (hm : MapOf T mo l) (k : κ) (c : Bool) :
  (Instr.lookup t (.map (some b)) (T.K k) c).run P w = .ok (if c then .tuple #[(wAm k l).getD z, .bool (wAm k l).isSome] else (wAm k l).getD z) w := by
 obtain ⟨es, clock, rfl, h1, h2, h3⟩ := hm
 have hg := MapKept.run_getObj_map (P := P) (w := w) (r := b) hb
 rcases find_key h1 h2 h3 k with ⟨f1, f2, _⟩ | ⟨j, e, f1, f2, f3, f4⟩
 ·cases c <;> simp [Instr.lookup, run_underlying ht, hg, run_checkKey hk (T.ok k), run_findKey hk f1, Result.andThen, hz, f2]
 cases c <;> simp [Instr.lookup, run_underlying ht, hg, run_checkKey hk (T.ok k), run_findKey hk f1, Result.andThen, f4]
theorem wDk [DecidableEq κ] (T : KT κ) {t kt et : TypeId} {x y : Operand} {b : Nat} {k : κ} {mo : Obj} {l : List (κ × Value)} {z : Value} (hg : gd ops F o = some true) (ho : o.op = .lookup t x y false) (hx : ev F x = some (.map (some b))) (hy : ev F y = some (T.K k))
  [ht : Und P t (.map kt et)] [hk : Und P kt T.d] (he : (P.info? et).bind (·.zero) = some z) (hb : OJ M L b mo) (hm : MapOf T mo l) : QF P ops N F M L o ((wAm k l).getD z) := wDw hg fun a ha w hw => by
 have := run_lookupO (P := P) T ht.h hk.h (zero_run he w) (hb.heap hw) hm k false
 simp only [Bool.false_eq_true, if_false] at this
 simp [execOp, ho, ha.ev hx, ha.ev hy, this]
theorem qLookup2 [DecidableEq κ] (T : KT κ) {t kt et : TypeId} {x y : Operand} {b : Nat} {k : κ} {mo : Obj} {l : List (κ × Value)} {z : Value} (hg : gd ops F o = some true) (ho : o.op = .lookup t x y true) (hx : ev F x = some (.map (some b))) (hy : ev F y = some (T.K k))
  [ht : Und P t (.map kt et)] [hk : Und P kt T.d] (he : (P.info? et).bind (·.zero) = some z) (hb : OJ M L b mo) (hm : MapOf T mo l) : QF P ops N F M L o (.tuple #[(wAm k l).getD z, .bool (wAm k l).isSome]) := wDw hg fun a ha w hw => by
 have := run_lookupO (P := P) T ht.h hk.h (zero_run he w) (hb.heap hw) hm k true
 simp only [if_true] at this
 simp [execOp, ho, ha.ev hx, ha.ev hy, this]
theorem qLenMap (T : KT κ) {x : Operand} {t kt et : TypeId} {b : Nat} {mo : Obj} {l : List (κ × Value)} (hg : gd ops F o = some true) (ho : o.op = .call { callee := .builtin .len, args := #[x], argTypes := #[t] })
  (hx : ev F x = some (.map (some b))) [ht : Und P t (.map kt et)] (hb : OJ M L b mo) (hm : MapOf T mo l) : QF P ops N F M L o (.int .i64 l.length) := wDw hg fun ac ha w hw => by
 obtain ⟨es, clock, rfl, h1, h2, h3⟩ := hm
 have hgo := MapKept.run_getObj_map (P := P) (w := w) (r := b) (hb.heap hw)
 have hl : es.size = l.length := by have := h3.length_eq; simpa [wKm] using this
 simp [execOp, ho, resolve, invoke, builtin, Builtin.len_, ha.ev hx, run_underlying ht.h, goInt, hgo, hl]
theorem wHp {t : TypeId} (hg : gd ops F o = some true) (ho : o.op = .makeMap t none) :
  HF P ops N F E M L o (fun v M' L' => ∃ b, v = .map (some b) ∧ M = M' ∧ L' = (b, .map #[] 0) :: L) := wJc hg fun a w ha hw =>
 ⟨_, _, M, _, .inl (by simp [execOp, ho, Instr.makeMap, newObj]; rfl), hw.alloc (.map #[] 0), _, rfl, rfl, rfl⟩
theorem St.setRm {b : Nat} {mo mo' : Obj} {L2 : Lc} [hr : Rm b mo L L2] {w : World} (hw : St E M L w) : w.heap[b]? = some mo ∧ St E M ((b, mo') :: L2) { w with heap := w.heap.setIfInBounds b mo' } := by
 have hw' := hw.perm hr.perm
 have hb : w.heap[b]? = some mo := (hw'.locs (b, mo) (by simp)).1
 exact ⟨hb, St.setObj (A := []) (B := L2) hw' rfl rfl rfl (by simp) (heap_set hb).1 (fun k hk => (heap_set hb).2 k hk)⟩
theorem hMapPutO [DecidableEq κ] (T : KT κ) {t kt et : TypeId} {x y z : Operand} {b : Nat} {k : κ} {v : Value} {mo : Obj} {l : List (κ × Value)} {L2 : Lc} (hg : gd ops F o = some true) (ho : o.op = .mapUpdate t x y z ∨ o.op = .insert t x y z) (hx : ev F x = some (.map (some b))) (hy : ev F y = some (T.K k)) (hz : ev F z = some v)
  [ht : Und P t (.map kt et)] [hk : Und P kt T.d] [hr : Rm b mo L L2] (hm : MapOf T mo l) : HF P ops N F E M L o (fun _ M' L' => M = M' ∧ ∃ mo', L' = (b, mo') :: L2 ∧ MapOf T mo' (wBq k v l)) := wJc hg fun a w ha hw => by
 obtain ⟨es, clock, rfl, h1, h2, h3⟩ := hm
 have hb := (hw.setRm (b := b) (mo' := .map es clock)).1
 have hgo := MapKept.run_getObj_map (P := P) (w := w) (r := b) hb
 rcases find_key h1 h2 h3 k with ⟨f1, f2, f3⟩ | ⟨j, e, f1, f2, f3, f4⟩
 ·refine ⟨undef, _, M, _, .inr ⟨rfl, ?_⟩, (hw.setRm (b := b) (mo' := .map (es.push { key := T.K k, val := v, born := clock }) (clock + 1))).2, rfl, _, rfl, MapOf.lay h1 h2 h3 f2 f3⟩
  have : (Instr.mapUpdate t (.map (some b)) (T.K k) v).run P w = .ok () { w with heap := w.heap.setIfInBounds b (.map (es.push { key := T.K k, val := v, born := clock }) (clock + 1)) } := by
   simp [Instr.mapUpdate, run_underlying ht.h, hgo, run_checkKey hk.h (T.ok k), run_findKey hk.h f1, Result.andThen, run_setObj_map _ hb]
  rcases ho with ho | ho <;> simp [execOp, ho, ha.ev hx, ha.ev hy, ha.ev hz, this]
 have hj : es[j]? = some e := by simpa using f2
 refine ⟨undef, _, M, _, .inr ⟨rfl, ?_⟩, (hw.setRm (b := b) (mo' := .map (es.modify j fun e => { e with key := T.K k, val := v }) clock)).2, rfl, _, rfl, MapOf.turn h1 h2 h3 hj f3 (fun _ => rfl) rfl⟩
 have : (Instr.mapUpdate t (.map (some b)) (T.K k) v).run P w = .ok () { w with heap := w.heap.setIfInBounds b (.map (es.modify j fun e => { e with key := T.K k, val := v }) clock) } := by
  simp [Instr.mapUpdate, run_underlying ht.h, hgo, run_checkKey hk.h (T.ok k), run_findKey hk.h f1, Result.andThen, hj, f3, run_keyThatStays (T.ok k), run_setObj_map _ hb]
 rcases ho with ho | ho <;> simp [execOp, ho, ha.ev hx, ha.ev hy, ha.ev hz, this]
theorem hMapDelO [DecidableEq κ] (T : KT κ) {t kt kt' et : TypeId} {x y : Operand} {b : Nat} {k : κ} {mo : Obj} {l : List (κ × Value)} {L2 : Lc} (hg : gd ops F o = some true) (ho : o.op = .call { callee := .builtin .delete, args := #[x, y], argTypes := #[t, kt'] }) (hx : ev F x = some (.map (some b))) (hy : ev F y = some (T.K k))
  [ht : Und P t (.map kt et)] [hk : Und P kt T.d] [hr : Rm b mo L L2] (hm : MapOf T mo l) : HF P ops N F E M L o (fun _ M' L' => M = M' ∧ ∃ mo', L' = (b, mo') :: L2 ∧ MapOf T mo' (wBc k l)) := wJc hg fun a w ha hw => by
 obtain ⟨es, clock, rfl, h1, h2, h3⟩ := hm
 have hb := (hw.setRm (b := b) (mo' := .map es clock)).1
 have hgo := MapKept.run_getObj_map (P := P) (w := w) (r := b) hb
 have hn := wHn h1 h3
 rcases find_key h1 h2 h3 k with ⟨f1, f2, f3⟩ | ⟨j, e, f1, f2, f3, f4⟩
 ·refine ⟨.tuple #[], _, M, _, .inl ?_, (hw.setRm (b := b) (mo' := .map es clock)).2, rfl, _, rfl, es, clock, rfl, h1, h2, by rw [delA_new (getA_none.1 f2)]; exact h3⟩
  simp [execOp, ho, resolve, invoke, builtin, Builtin.delete_, ha.ev hx, ha.ev hy, run_underlying ht.h, hgo, run_checkKey hk.h (T.ok k), run_findKey hk.h f1, Result.andThen, run_setObj_map _ hb]
 have hj : es[j]? = some e := by simpa using f2
 have hjl := (Array.getElem?_eq_some_iff.1 hj).1
 refine ⟨.tuple #[], _, M, _, .inl ?_, (hw.setRm (b := b) (mo' := .map (es.eraseIdxIfInBounds j) clock)).2, rfl, _, rfl, _, clock, rfl, stamped_erase h1 _, ?_, ?_⟩
 ·simp [execOp, ho, resolve, invoke, builtin, Builtin.delete_, ha.ev hx, ha.ev hy, run_underlying ht.h, hgo, run_checkKey hk.h (T.ok k), run_findKey hk.h f1, Result.andThen, run_setObj_map _ hb]
 ·intro x hx'
  have hs' : (es.eraseIdxIfInBounds j).toList.Sublist es.toList := by
   unfold Array.eraseIdxIfInBounds
   rw [dif_pos hjl]
   simp only [Array.toList_eraseIdx]; exact List.eraseIdx_sublist _ _
  exact h2 x (hs'.subset hx')
 obtain ⟨A, B, rfl, hA⟩ := wCf f4
 rw [wLr hn]
 have e1 : (es.eraseIdxIfInBounds j).toList = es.toList.eraseIdx j := by
  unfold Array.eraseIdxIfInBounds; rw [dif_pos hjl]; simp
 rw [e1]
 have e5 : es.toList.Perm (e :: es.toList.eraseIdx j) := by
  have : es.toList[j] = e := (List.getElem?_eq_some_iff.1 f2).2
  rw [← this]; exact (erase_perm es.toList j (by simpa using hjl))
 have h6 := (e5.map kv).symm.trans h3
 have h7 : (wKm T (A ++ (k, e.val) :: B)).Perm (kv e :: wKm T (A ++ B)) := by
  have : kv e = (T.K k, e.val) := by rw [← f3]
  rw [this]; simp only [wKm, List.map_append, List.map_cons]; exact List.perm_middle
 exact (h6.trans h7).cons_inv
theorem wKc [DecidableEq κ] (T : KT κ) {t kt et : TypeId} {x y : Operand} {b : Nat} {k : κ} {mo : Obj} {l : List (κ × Value)} {z : Value} {L2 : Lc} (hg : gd ops F o = some true) (ho : o.op = .mapEntry t x y) (hx : ev F x = some (.map (some b))) (hy : ev F y = some (T.K k))
  [ht : Und P t (.map kt et)] [hk : Und P kt T.d] (he : (P.info? et).bind (·.zero) = some z) [hr : Rm b mo L L2] (hm : MapOf T mo l) : HF P ops N F E M L o (fun v M' L' => M = M' ∧ ∃ mo' born, L' = (b, mo') :: L2 ∧ v = .tuple #[(wAm k l).getD z, .int .i64 born] ∧ MapOf T mo' (wBq k ((wAm k l).getD z) l) ∧ StampOf T mo' born k) := wJc hg fun a w ha hw => by
 obtain ⟨es, clock, rfl, h1, h2, h3⟩ := hm
 have hb := (hw.setRm (b := b) (mo' := .map es clock)).1
 have hgo := MapKept.run_getObj_map (P := P) (w := w) (r := b) hb
 rcases find_key h1 h2 h3 k with ⟨f1, f2, f3⟩ | ⟨j, e, f1, f2, f3, f4⟩
 ·refine ⟨_, _, M, _, .inl ?_, (hw.setRm (b := b) (mo' := .map (es.push { key := T.K k, val := z, born := clock }) (clock + 1))).2, rfl, _, (clock : Int), rfl, rfl, by rw [f2]; exact MapOf.lay h1 h2 h3 f2 f3, _, _, { key := T.K k, val := z, born := clock }, rfl, List.mem_append_right _ (List.mem_singleton.2 rfl) |> (by rw [Array.toList_push]; exact ·), rfl, rfl⟩
  simp [execOp, ho, Instr.mapEntry, ha.ev hx, ha.ev hy, run_underlying ht.h, hgo, run_checkKey hk.h (T.ok k), run_findKey hk.h f1, Result.andThen, zero_run he w, run_setObj_map _ hb, goInt, f2]
 have hj : es[j]? = some e := by simpa using f2
 refine ⟨_, _, M, _, .inl ?_, (hw.setRm (b := b) (mo' := .map (es.modify j fun e => { e with key := T.K k }) clock)).2, rfl, _, (e.born : Int), rfl, rfl, by rw [f4]; exact MapOf.turn h1 h2 h3 hj f3 (fun _ => rfl) rfl, _, _, { e with key := T.K k }, rfl, ?_, rfl, rfl⟩
 ·simp [execOp, ho, Instr.mapEntry, ha.ev hx, ha.ev hy, run_underlying ht.h, hgo, run_checkKey hk.h (T.ok k), run_findKey hk.h f1, Result.andThen, hj, f3, run_keyThatStays (T.ok k), run_setObj_map _ hb, goInt, f4]
 have hm2 : (es.modify j fun e => { e with key := T.K k })[j]? = some { e with key := T.K k } := by rw [Array.getElem?_modify, if_pos rfl, hj]; rfl
 exact Array.mem_toList_iff.2 (Array.mem_of_getElem? hm2)
theorem wHb [DecidableEq κ] (T : KT κ) {t : TypeId} {x y z : Operand} {b : Nat} {k : κ} {born : Int} {v : Value} {mo : Obj} {l : List (κ × Value)} {L2 : Lc} (hg : gd ops F o = some true) (ho : o.op = .entryStore t x y z) (hx : ev F x = some (.map (some b))) (hy : ev F y = some (.int .i64 born)) (hz : ev F z = some v)
  [hr : Rm b mo L L2] (hm : MapOf T mo l) (hst : StampOf T mo born k) : HF P ops N F E M L o (fun _ M' L' => M = M' ∧ ∃ mo', L' = (b, mo') :: L2 ∧ MapOf T mo' (wBq k v l)) := wJc hg fun a w ha hw => by
 obtain ⟨es, clock, rfl, h1, h2, h3⟩ := hm
 obtain ⟨es', clock', e, e0, g1, g2, g3⟩ := hst
 cases e0
 have hb := (hw.setRm (b := b) (mo' := .map es clock)).1
 have hgo := MapKept.run_getObj_map (P := P) (w := w) (r := b) hb
 obtain ⟨j, hj⟩ : ∃ j, es.findIdx? (fun e => (e.born : Int) == born) = some j := by
  cases hf : es.findIdx? (fun e => (e.born : Int) == born) with
  | some j => exact ⟨j, rfl⟩
  | none =>
   have := Array.findIdx?_eq_none_iff.1 hf e (Array.mem_toList_iff.1 g1)
   simp [g2] at this
 have hj2 := Array.findIdx?_eq_some_iff_getElem.1 hj
 obtain ⟨hjl, hjb, _⟩ := hj2
 have hjb2 : ((es[j]).born : Int) = born := by simpa using hjb
 have hje : es[j] = e := born_inj h1.2.1 (by simp) g1 (by omega)
 have hj3 : es[j]? = some e := by rw [Array.getElem?_eq_getElem hjl, hje]
 refine ⟨undef, _, M, _, .inr ⟨rfl, ?_⟩, (hw.setRm (b := b) (mo' := .map (es.modify j fun e => { e with val := v }) clock)).2, rfl, _, rfl, MapOf.turn h1 h2 h3 hj3 g3 (fun _ => rfl) (by simp [g3])⟩
 simp [execOp, ho, Instr.entryStore, ha.ev hx, ha.ev hy, ha.ev hz, hgo, Result.andThen, asInt, asIntOf, hj, run_setObj_map _ hb]
def IterOf (T : KT κ) (b : Nat) (mo it : Obj) (rem : List (κ × Value)) : Prop := ∃ (es : Array MapEntry) (clock : Nat) (seen : Array Nat), mo = .map es clock ∧ it = .mapIter (some b) clock seen clock ∧ Stamped es clock ∧ (∀ x ∈ es.toList, IsKey T.d x.key) ∧ ((leftOf es seen).toList.map kv).Perm (wKm T rem)
def CurOf (T : KT κ) (b : Nat) (mo it : Obj) (k : κ) (u : Value) : Prop := ∃ (es : Array MapEntry) (clock : Nat) (seen : Array Nat) (e : MapEntry), mo = .map es clock ∧ it = .mapIter (some b) clock (seen.push e.born) clock ∧ (es.toList.map (·.born)).Nodup ∧ e ∈ es.toList ∧ e.key = T.K k ∧ e.val = u
theorem hRangeMap (T : KT κ) {t kt et : TypeId} {x : Operand} {b : Nat} {mo : Obj} {l : List (κ × Value)} (hg : gd ops F o = some true) (ho : o.op = .range t x) (hx : ev F x = some (.map (some b))) [ht : Und P t (.map kt et)] (hb : OJ M L b mo) (hm : MapOf T mo l) :
  HF P ops N F E M L o (fun v M' L' => ∃ r it, v = .pointer (some ⟨r, 0, none⟩) ∧ M = M' ∧ L' = (r, it) :: L ∧ IterOf T b mo it l) := wJc hg fun a w ha hw => by
 obtain ⟨es, clock, rfl, h1, h2, h3⟩ := hm
 have hr := run_range_map (P := P) w t kt et b es clock ht.h (hb.heap hw.js)
 refine ⟨_, _, M, _, .inl ?_, hw.alloc (.mapIter (some b) clock #[] clock), _, _, rfl, rfl, rfl, es, clock, #[], rfl, rfl, h1, h2, ?_⟩
 ·simp [execOp, ho, ha.ev hx, hr]
 have : leftOf es #[] = es := by unfold leftOf; rw [Array.filter_eq_self]; intro x _; simp
 rw [this]; exact h3
theorem hNextMap (T : KT κ) {x : Operand} {r b : Nat} {mo it : Obj} {rem : List (κ × Value)} {L2 : Lc} (hg : gd ops F o = some true) (ho : o.op = .next x false) (hx : ev F x = some (.pointer (some ⟨r, 0, none⟩))) [hr : Rm r it L L2] (hb : OJ M L2 b mo) (hi : IterOf T b mo it rem) :
  HF P ops N F E M L o (fun v M' L' => M = M' ∧ ((rem = [] ∧ v = .tuple #[.bool false] ∧ L' = (r, it) :: L2) ∨ ∃ k u rem' it', rem.Perm ((k, u) :: rem') ∧ v = .tuple #[.bool true, T.K k, u] ∧ L' = (r, it') :: L2 ∧ IterOf T b mo it' rem' ∧ CurOf T b mo it' k u)) := wJc hg fun a w ha hw => by
 obtain ⟨es, clock, seen, rfl, rfl, h1, h2, h3⟩ := hi
 have hw' := hw.perm hr.perm
 have hrr : w.heap[r]? = some (.mapIter (some b) clock seen clock) := (hw'.locs (r, .mapIter (some b) clock seen clock) (by simp)).1
 have hbb : w.heap[b]? = some (.map es clock) := hb.elim (hw.agree _ _) (fun hm => (hw'.locs (b, .map es clock) (List.mem_cons_of_mem _ hm)).1)
 rcases run_next_at (P := P) w o.type r b clock clock seen es clock hrr hbb (fun x hx => h1.1 x hx) (Nat.le_refl _) with ⟨g1, g2⟩ | ⟨e, g1, w1, g2, g3⟩
 ·refine ⟨_, _, M, _, .inl (by simp [execOp, ho, ha.ev hx, g2]), hw', rfl, .inl ⟨?_, rfl, rfl⟩⟩
  have : leftOf es seen = #[] := Array.eq_empty_of_size_eq_zero g1
  rw [this] at h3
  have := h3.length_eq
  simp [wKm] at this
  exact List.eq_nil_of_length_eq_zero this.symm
 have hml := mem_left g1
 have hm : kv e ∈ wKm T rem := h3.mem_iff.1 (List.mem_map.2 ⟨e, g1, rfl⟩)
 obtain ⟨p, hp1, hpe⟩ := List.mem_map.1 hm
 obtain ⟨A, B, rfl⟩ := List.append_of_mem hp1
 have hk : e.key = T.K p.1 := (congrArg Prod.fst hpe).symm
 have hv : e.val = p.2 := (congrArg Prod.snd hpe).symm
 have hw1 : St E M ((r, .mapIter (some b) clock seen clock) :: L2) w1 := by rcases g2 with rfl | rfl <;> exact { hw' with }
 have hr1 : w1.heap[r]? = some (.mapIter (some b) clock seen clock) := (hw1.locs (r, .mapIter (some b) clock seen clock) (by simp)).1
 have hset : St E M ((r, .mapIter (some b) clock (seen.push e.born) clock) :: L2) (Go.ChangeMaps.setBlock w1 r (.mapIter (some b) clock (seen.push e.born) clock)) :=
  St.setObj (A := []) (B := L2) hw1 rfl rfl rfl (by simp [Go.ChangeMaps.setBlock]) (heap_set hr1).1 (fun k hk => (heap_set hr1).2 k hk)
 refine ⟨_, _, M, _, .inl (by simp [execOp, ho, ha.ev hx, g3]; rfl), hset, rfl, .inr ⟨p.1, p.2, A ++ B, _, List.perm_middle, by rw [← hk, ← hv], rfl, ⟨es, clock, seen.push e.born, rfl, rfl, h1, h2, ?_⟩, es, clock, seen, e, rfl, rfl, h1.2.1, hml.1, hk, hv⟩⟩
 have e1 : ∀ s, (leftOf es s).toList = es.toList.filter fun e => !s.contains e.born := fun s => by unfold leftOf; rw [Array.toList_filter]
 have e2 : (es.toList.filter fun e => !seen.contains e.born).Perm (e :: es.toList.filter fun x => !(seen.push e.born).contains x.born) := by
  have hin : e ∈ es.toList := hml.1
  have hnot : (!seen.contains e.born) = true := by rw [hml.2]; rfl
  obtain ⟨X, Y, hXY⟩ := List.append_of_mem hin
  have hnd := h1.2.1
  rw [hXY] at hnd ⊢
  rw [List.map_append, List.map_cons] at hnd
  have hnd2 := List.nodup_append.1 hnd
  have hY := (List.nodup_cons.1 hnd2.2.1).1
  have fX : ∀ Z : List MapEntry, (∀ z ∈ Z, z.born ≠ e.born) → Z.filter (fun x => !(seen.push e.born).contains x.born) = Z.filter (fun x => !seen.contains x.born) := fun Z hZ => List.filter_congr fun z hz => by
   rw [contains_push]
   have : (z.born == e.born) = false := by simpa using hZ z hz
   simp [this]
  rw [List.filter_append, List.filter_cons, if_pos hnot, List.filter_append, List.filter_cons]
  have hself : (!(seen.push e.born).contains e.born) = false := by rw [contains_push]; simp
  rw [hself, fX X (fun z hz hb => hnd2.2.2 z.born (List.mem_map.2 ⟨z, hz, rfl⟩) e.born (by simp) hb), fX Y (fun z hz hb => hY (by rw [← hb]; exact List.mem_map.2 ⟨z, hz, rfl⟩))]
  simp only [Bool.false_eq_true, if_false]
  exact List.perm_middle
 rw [e1] at h3 ⊢
 have h6 := (e2.map kv).symm.trans h3
 have h7 : (wKm T (A ++ p :: B)).Perm (kv e :: wKm T (A ++ B)) := by
  rw [← hpe]; simp only [wKm, List.map_append, List.map_cons]; exact List.perm_middle
 exact (h6.trans h7).cons_inv
theorem qEntryO (T : KT κ) {x : Operand} {r b : Nat} {mo it : Obj} {k : κ} {u : Value} (hg : gd ops F o = some true) (ho : o.op = .entry x) (hx : ev F x = some (.pointer (some ⟨r, 0, none⟩))) (hr : OJ M L r it) (hb : OJ M L b mo) (hc : CurOf T b mo it k u) : QF P ops N F M L o (.tuple #[T.K k, u]) := wDw hg fun a ha w hw => by
 obtain ⟨es, clock, seen, e, rfl, rfl, h1, h2, h3, h4⟩ := hc
 have := run_entry_at (P := P) w r b clock seen es clock e (hr.heap hw) (hb.heap hw) h2 h1
 simp [execOp, ho, ha.ev hx, this, h3, h4]
end
end Go.Proofs.YtokljhkplbkggaaGreatDoor
namespace Go.Proofs.YtokljhkplbkggaaGreatDoor
set_option linter.unusedVariables false
set_option linter.unusedSimpArgs false
open Go.RowKit
abbrev Str := ByteArray
structure PF where
 dir : Bool
 links : Int
 data : List By
 names : List (Str × Int)
abbrev Fls := List (Int × PF)
structure PV where
 frozen : Bool
 next : Int
 files : Fls
structure PS where
 next : Int
 vols : List (Int × PV)
structure CL where
 kind : Int
 path : Str
 other : Str
 a : Int
 b : Int
 c : Int
 data : List By
structure RP where
 err : Int := 0
 id : Int := 0
 data : List By := []
 names : List Str := []
 sid : Int := 0
 sdir : Bool := false
 slinks : Int := 0
 ssize : Int := 0
abbrev Wy := Int × List Str
def wEt (fs : Fls) : Int → List Str → Except Int Int
 | id, [] => .ok id
 | id, s :: ss => match wAm id fs with
  | none => .error 0
  | some x => if x.dir then (match wAm s x.names with
   | some k => wEt fs k ss
   | none => .error 6) else .error 240
def wBb (S : PS) (vol : Int) (names : List Str) : Except Int Int := match wAm vol S.vols with
 | none => .error 6
 | some v => wEt v.files 1 names
def wEs (S : PS) (vol id : Int) : Option PF := (wAm vol S.vols).bind fun v => wAm id v.files
def wGu (S : PS) (vol id : Int) : Bool := match wEs S vol id with
 | some x => x.dir
 | none => false
def wCj (S : PS) (w : Wy) : Except Int Int := match wBb S w.1 w.2.dropLast with
 | .error e => .error e
 | .ok id => if wGu S w.1 id then .ok id else .error 240
def wCh (S : PS) (w : Wy) : Except Int Int := match wBb S w.1 w.2 with
 | .error e => .error e
 | .ok id => if wGu S w.1 id then .error 240 else .ok id
def wAi (w : Wy) : Str := w.2.getLast?.getD .empty
def wDx (S : PS) (vol id : Int) : List (Str × Int) := match wEs S vol id with
 | some x => x.names
 | none => []
def wBo (S : PS) (w : Wy) (vol : Int) (old : Option Int) : Except Int Int :=
 if w.2 = [] then .error 251 else match wCj S w with
  | .error e => .error e
  | .ok id => if w.1 = vol then (if (wAm (wAi w) (wDx S w.1 id)).isSome then .error 251 else if 32 ≤ (wDx S w.1 id).length ∧ old ≠ some id then .error 4 else .ok id) else .error 2
def wAr (S : PS) (vol : Int) : Bool := match wAm vol S.vols with
 | some v => v.frozen
 | none => false
def wCa (e : Int) : RP := { err := e }
def updV (S : PS) (vol : Int) (f : PV → PV) : PS := match wAm vol S.vols with
 | some v => { S with vols := wBq vol (f v) S.vols }
 | none => S
def updF (fs : Fls) (id : Int) (f : PF → PF) : Fls := match wAm id fs with
 | some x => wBq id (f x) fs
 | none => fs
def updVF (S : PS) (vol : Int) (f : Fls → Fls) : PS := updV S vol fun v => { v with files := f v.files }
def wEb (fs : Fls) (d : Int) (s : Str) (k : Int) : Fls := updF fs d fun x => { x with names := wBq s k x.names }
def wCg (fs : Fls) (d : Int) (s : Str) : Fls := updF fs d fun x => { x with names := wBc s x.names }
def lnk (fs : Fls) (id : Int) (n : Int) : Fls := updF fs id fun x => { x with links := x.links + n }
def wGt (fs : Fls) (id : Int) : Int := match wAm id fs with
 | some x => x.links
 | none => 0
def wAx (b : List By) (n : Nat) : List By := if n ≤ b.length then b.take n else b ++ List.replicate (n - b.length) 0
def wKq (b : List By) (k : Nat) (d : List By) : List By := b.take k ++ d ++ b.drop (k + d.length)
def wDn (k : Nat) (d b : List By) : List By := if d = [] then b else wKq (wAx b (max b.length (k + d.length))) k d
def wCr (k e : Nat) (b : List By) : List By := b.take (min k b.length) ++ List.replicate (max (min k b.length) (min e b.length) - min k b.length) 0 ++ b.drop (max (min k b.length) (min e b.length))
def inI (n low high : Int) : Bool := decide (low ≤ n) && decide (n ≤ high)
def addS (S : PS) (v : PV) : PS × RP := ({ next := S.next + 1, vols := S.vols ++ [(S.next + 1, v)] }, { id := S.next + 1 })
def makeS (S : PS) : PS × RP := addS S { frozen := false, next := 2, files := [(1, { dir := true, links := 1, data := [], names := [] })] }
def wHi (S : PS) (c : CL) : PS × RP := if inI c.b 0 1 then (match wAm c.a S.vols with
 | none => (S, wCa 6)
 | some v => addS S { v with frozen := decide (c.b = 1) }) else (S, wCa 2)
def wEa (S : PS) (c : CL) : PS × RP := if inI c.b 0 1 then (match wAm c.a S.vols with
 | none => (S, wCa 6)
 | some v => ({ S with vols := wBq c.a { v with frozen := decide (c.b = 1) } S.vols }, {})) else (S, wCa 2)
def wEu (S : PS) (c : CL) : PS × RP := match wAm c.a S.vols with
 | none => (S, wCa 6)
 | some _ => ({ S with vols := wBc c.a S.vols }, {})
def wDg (S : PS) (c : CL) (w : Wy) : PS × RP := match wBo S w w.1 none with
 | .error e => (S, wCa e)
 | .ok d => if wAr S w.1 then (S, wCa 170) else match wAm w.1 S.vols with
  | none => (S, wCa 0)
  | some v => ({ S with vols := wBq w.1 { v with next := v.next + 1, files := wEb (v.files ++ [(v.next, { dir := decide (c.kind = 6), links := 1, data := [], names := [] })]) d (wAi w) v.next } S.vols }, { id := v.next })
def wDv (S : PS) (w : Wy) (ok : Bool) (g : List By → List By) : PS × RP := if ok then (match wCh S w with
 | .error e => (S, wCa e)
 | .ok id => if wAr S w.1 then (S, wCa 170) else (updVF S w.1 fun fs => updF fs id fun x => { x with data := g x.data }, {})) else (S, wCa 2)
def wJg (S : PS) (c : CL) (w : Wy) : PS × RP := wDv S w (decide (0 ≤ c.a) && decide (c.a ≤ 4096) && decide ((c.data.length : Int) ≤ 4096 - c.a)) (wDn c.a.toNat c.data)
def dataAt (S : PS) (vol id : Int) : List By := match wEs S vol id with
 | some x => x.data
 | none => []
def wJn (k n : Nat) (b : List By) : List By := (b.drop (min k b.length)).take (min (k + n) b.length - min k b.length)
def wHk (S : PS) (c : CL) (w : Wy) : PS × RP := if inI c.a 0 4096 && inI c.b 0 4096 then (match wCh S w with
 | .error e => (S, wCa e)
 | .ok id => (S, { data := wJn c.a.toNat c.b.toNat (dataAt S w.1 id) })) else (S, wCa 2)
def sizeS (S : PS) (c : CL) (w : Wy) : PS × RP := wDv S w (inI c.a 0 4096) fun b => wAx b c.a.toNat
def wJp (S : PS) (c : CL) (w : Wy) : PS × RP := wDv S w (decide (0 ≤ c.a) && decide (c.a ≤ c.b) && decide (c.b ≤ 4096)) (wCr c.a.toNat c.b.toNat)
def wGp (c : CL) : Bool := decide (0 ≤ c.a) && decide (0 ≤ c.b) && decide (0 ≤ c.c) && decide (c.c ≤ 4096) && decide (c.a ≤ 4096 - c.c) && decide (c.b ≤ 4096 - c.c) && decide (c.a % 128 = 0) && decide (c.b % 128 = 0) && decide (c.c % 128 = 0)
def wDd (S : PS) (c : CL) (w o : Wy) : PS × RP := if wGp c then (match wCh S w with
 | .error e => (S, wCa e)
 | .ok id => wDv S o true (wDn c.b.toNat (((wAx (dataAt S w.1 id) 4096).drop c.a.toNat).take c.c.toNat))) else (S, wCa 2)
def wGc (S : PS) (w o : Wy) : PS × RP := match wCh S w with
 | .error e => (S, wCa e)
 | .ok id => match wBo S o w.1 none with
  | .error e => (S, wCa e)
  | .ok d => if wAr S w.1 then (S, wCa 170) else (updVF S w.1 fun fs => lnk (wEb fs d (wAi o) id) id 1, {})
def wFy (fs : Fls) (id : Int) : Fls := if wGt fs id - 1 = 0 then wBc id (lnk fs id (-1)) else lnk fs id (-1)
def wDo (S : PS) (w : Wy) : PS × RP := match wCh S w with
 | .error e => (S, wCa e)
 | .ok id => if wAr S w.1 then (S, wCa 170) else match wCj S w with
  | .error _ => (S, wCa 0)
  | .ok d => (updVF S w.1 fun fs => wFy (wCg fs d (wAi w)) id, {})
inductive Ins (fs : Fls) (t : Int) : Int → Prop
 | here : Ins fs t t
 | down {d k : Int} {x y : PF} {s : Str} (hd : wAm d fs = some x) (hs : wAm s x.names = some k) (hk : wAm k fs = some y) (hy : y.dir = true) (h : Ins fs t k) : Ins fs t d
open Classical in
noncomputable def insD (fs : Fls) (t d : Int) : Bool := decide (Ins fs t d)
theorem wJb {fs : Fls} {t d : Int} (h : Ins fs t d) : insD fs t d = true := by unfold insD; simp [h]
theorem insD_no {fs : Fls} {t d : Int} (h : ¬ Ins fs t d) : insD fs t d = false := by unfold insD; simp [h]
noncomputable def insB (S : PS) (vol t d : Int) : Bool := match wAm vol S.vols with
 | some v => insD v.files t d
 | none => false
def wBv (ins : PS → Int → Int → Int → Bool) (S : PS) (w o : Wy) : PS × RP := if w.2 = [] then (S, wCa 260) else match wBb S w.1 w.2 with
 | .error e => (S, wCa e)
 | .ok id => match wCj S w with
  | .error _ => (S, wCa 0)
  | .ok d => match wBo S o w.1 (some d) with
   | .error e => (S, wCa e)
   | .ok t => if wGu S w.1 id && ins S w.1 t id then (S, wCa 261) else if wAr S w.1 then (S, wCa 170) else (updVF S w.1 fun fs => wEb (wCg fs d (wAi w)) t (wAi o) id, {})
def wCc (S : PS) (w : Wy) : PS × RP := match wBb S w.1 w.2 with
 | .error e => (S, wCa e)
 | .ok id => if wGu S w.1 id then (if w.2 = [] ∨ 0 < (wDx S w.1 id).length then (S, wCa 260) else if wAr S w.1 then (S, wCa 170) else match wCj S w with
  | .error _ => (S, wCa 0)
  | .ok d => (updVF S w.1 fun fs => wBc id (wCg fs d (wAi w)), {})) else (S, wCa 240)
def wHw (x y : Str) : Bool := decide (x.toList ≤ y.toList)
def wHv (S : PS) (w : Wy) : PS × RP := match wBb S w.1 w.2 with
 | .error e => (S, wCa e)
 | .ok id => if wGu S w.1 id then (S, { names := ((wDx S w.1 id).map (·.1)).mergeSort wHw }) else (S, wCa 240)
def statS (S : PS) (w : Wy) : PS × RP := match wBb S w.1 w.2 with
 | .error e => (S, wCa e)
 | .ok id => match wEs S w.1 id with
  | some x => (S, { sid := id, sdir := x.dir, slinks := x.links, ssize := x.data.length })
  | none => (S, wCa 0)
def reapS (S : PS) (c : CL) : PS × RP := if inI c.a 0 1000 then (S, {}) else (S, wCa 2)
def opI (ins : PS → Int → Int → Int → Bool) (S : PS) (c : CL) (w o : Wy) : Nat → PS × RP
 | 1 => makeS S
 | 2 => wHi S c
 | 3 => wEa S c
 | 4 => wEu S c
 | 5 => wDg S c w
 | 6 => wDg S c w
 | 7 => wJg S c w
 | 8 => wHk S c w
 | 9 => sizeS S c w
 | 10 => wJp S c w
 | 11 => wDd S c w o
 | 12 => wGc S w o
 | 13 => wDo S w
 | 14 => wBv ins S w o
 | 15 => wCc S w
 | 16 => wHv S w
 | 17 => statS S w
 | 18 => reapS S c
 | _ => (S, wCa 2)
def wDm : Nat → Nat
 | 5 => 1 | 6 => 1 | 7 => 1 | 8 => 1 | 9 => 1 | 10 => 1 | 11 => 2 | 12 => 2 | 13 => 1 | 14 => 2 | 15 => 1 | 16 => 1 | 17 => 1 | _ => 0
def doI (ins : PS → Int → Int → Int → Bool) (part : Str → Option Wy) (S : PS) (c : CL) : PS × RP :=
 if c.kind < 1 ∨ 18 < c.kind then (S, wCa 2) else
  if wDm c.kind.toNat = 0 then opI ins S c (0, []) (0, []) c.kind.toNat else match part c.path with
   | none => (S, wCa 270)
   | some w => if wDm c.kind.toNat = 1 then opI ins S c w (0, []) c.kind.toNat else match part c.other with
    | none => (S, wCa 270)
    | some o => opI ins S c w o c.kind.toNat
def wKj (ins : PS → Int → Int → Int → Bool) (part : Str → Option Wy) : PS → List CL → PS × List RP
 | S, [] => (S, [])
 | S, c :: l => ((wKj ins part (doI ins part S c).1 l).1, (doI ins part S c).2 :: (wKj ins part (doI ins part S c).1 l).2)
def PS0 : PS := { next := 0, vols := [] }
def cntN (k : Int) (l : List (Str × Int)) : Nat := (l.filter fun q => decide (q.2 = k)).length
def wFx (k : Int) : Fls → Nat
 | [] => 0
 | p :: l => cntN k p.2.names + wFx k l
def wKk (id : Int) (x : PF) : Int := if id = 1 then 0 else if x.dir then 1 else x.links
structure WFB (fs : Fls) : Prop where
 nd : (wBg fs).Nodup
 root : ∃ r, wAm 1 fs = some r ∧ r.dir = true
 tgt : ∀ d x s k, wAm d fs = some x → wAm s x.names = some k → ∃ y, wAm k fs = some y
 leaf : ∀ d x, wAm d fs = some x → x.dir = false → x.names = []
 nmd : ∀ d x, wAm d fs = some x → (wBg x.names).Nodup
 rank : ∃ r : Int → Nat, ∀ d x s k y, wAm d fs = some x → wAm s x.names = some k → wAm k fs = some y → y.dir = true → r k < r d
 len : ∀ d x, wAm d fs = some x → x.data.length ≤ 4096 ∧ x.names.length ≤ 32
structure WFF (fs : Fls) : Prop extends WFB fs where
 need : ∀ d x, wAm d fs = some x → (wFx d fs : Int) = wKk d x
 pos : ∀ d x, wAm d fs = some x → x.dir = false → 1 ≤ x.links
structure WFV (n : Nat) (v : PV) : Prop where
 wf : WFF v.files
 two : 2 ≤ v.next
 most : v.next ≤ 2 + n
 rng : ∀ d x, wAm d v.files = some x → 1 ≤ d ∧ d < v.next ∧ 0 ≤ x.links ∧ x.links ≤ 1 + n
 nmz : ∀ d x q, wAm d v.files = some x → q ∈ x.names → q.1.size ≤ 64
structure WFS (n : Nat) (S : PS) : Prop where
 nd : (wBg S.vols).Nodup
 low : 0 ≤ S.next
 most : S.next ≤ n
 rng : ∀ k v, wAm k S.vols = some v → 1 ≤ k ∧ k ≤ S.next
 vol : ∀ k v, wAm k S.vols = some v → WFV n v
theorem WFS.zero : WFS 0 PS0 := ⟨by simp [PS0], by simp [PS0], by simp [PS0], fun _ _ h => (by cases h), fun _ _ h => (by cases h)⟩
theorem WFV.more {n m : Nat} (h : n ≤ m) {v : PV} (k : WFV n v) : WFV m v := ⟨k.wf, k.two, by have := k.most; omega, fun d x hd => by have := k.rng d x hd; omega, k.nmz⟩
theorem WFS.more {n m : Nat} (h : n ≤ m) {S : PS} (k : WFS n S) : WFS m S := ⟨k.nd, k.low, by have := k.most; omega, k.rng, fun a v hv => (k.vol a v hv).more h⟩
theorem cnt_put {k : Int} {s : Str} {id : Int} {l : List (Str × Int)} (h : wAm s l = none) : cntN k (wBq s id l) = cntN k l + if k = id then 1 else 0 := by
 rw [wEy (getA_none.1 h)]; unfold cntN
 rw [List.filter_append, List.length_append]
 congr 1
 by_cases e : k = id
 ·simp [e]
 have : ¬ id = k := fun h => e h.symm
 simp [e, this]
theorem cnt_del {k : Int} {s : Str} {id : Int} {l : List (Str × Int)} (hn : (wBg l).Nodup) (h : wAm s l = some id) : cntN k (wBc s l) + (if k = id then 1 else 0) = cntN k l := by
 obtain ⟨A, B, rfl, hA⟩ := wCf h
 rw [wLr hn]; unfold cntN
 simp only [List.filter_append, List.length_append, List.filter_cons]
 by_cases e : k = id
 ·simp [e]; omega
 have : ¬ id = k := fun h => e h.symm
 simp [e, this]
theorem wFe {k : Int} : ∀ {l m : Fls}, wFx k (l ++ m) = wFx k l + wFx k m
 | [], m => by simp [wFx]
 | p :: l, m => by rw [List.cons_append, wFx, wFx, wFe]; omega
theorem refs_put {k d : Int} {x x' : PF} {fs : Fls} (h : wAm d fs = some x) : wFx k (wBq d x' fs) + cntN k x.names = wFx k fs + cntN k x'.names := by
 obtain ⟨A, B, rfl, hA⟩ := wCf h
 rw [wFa hA, wFe, wFe, wFx, wFx]; simp only; omega
theorem refs_del {k d : Int} {x : PF} {fs : Fls} (hn : (wBg fs).Nodup) (h : wAm d fs = some x) : wFx k (wBc d fs) + cntN k x.names = wFx k fs := by
 obtain ⟨A, B, rfl, hA⟩ := wCf h
 rw [wLr hn, wFe, wFe, wFx]; simp only; omega
theorem cnt_pos {k : Int} {s : Str} {l : List (Str × Int)} (h : wAm s l = some k) : 1 ≤ cntN k l := by
 obtain ⟨A, B, rfl, hA⟩ := wCf h
 unfold cntN
 simp only [List.filter_append, List.length_append, List.filter_cons]
 simp; omega
theorem refs_pos {k d : Int} {x : PF} {s : Str} {fs : Fls} (h : wAm d fs = some x) (hs : wAm s x.names = some k) : 1 ≤ wFx k fs := by
 obtain ⟨A, B, rfl, hA⟩ := wCf h
 have := cnt_pos hs
 rw [wFe, wFx]; simp only; omega
theorem refs_none {k : Int} : ∀ {fs : Fls}, (∀ p ∈ fs, ∀ q ∈ p.2.names, q.2 ≠ k) → wFx k fs = 0
 | [], _ => rfl
 | p :: l, h => by
  have : cntN k p.2.names = 0 := by
   unfold cntN
   rw [List.length_eq_zero_iff, List.filter_eq_nil_iff]
   intro q hq
   simpa using h p (by simp) q hq
  rw [wFx, this, refs_none fun q hq => h q (by simp [hq])]
theorem WFB.fresh {fs : Fls} (h : WFB fs) {k : Int} (hk : wAm k fs = none) : wFx k fs = 0 := refs_none fun p hp q hq e => by
 have h1 : wAm p.1 fs = some p.2 := wFf h.nd hp
 have h2 : wAm q.1 p.2.names = some q.2 := wFf (h.nmd _ _ h1) hq
 obtain ⟨y, hy⟩ := h.tgt _ _ _ _ h1 h2
 rw [e, hk] at hy; cases hy
theorem wJi {fs : Fls} {id : Int} {x : PF} {f : PF → PF} (h : wAm id fs = some x) : updF fs id f = wBq id (f x) fs := by unfold updF; rw [h]
theorem wGf {fs : Fls} {id : Int} {f : PF → PF} : wBg (updF fs id f) = wBg fs := by
 unfold updF
 split
 ·rename_i x h
  rw [keysA_put, if_pos (by have := wDy h; exact List.mem_map.2 ⟨_, this, rfl⟩)]
 rfl
theorem wFn {fs : Fls} {id d : Int} {f : PF → PF} : wAm d (updF fs id f) = if d = id then (wAm d fs).map f else wAm d fs := by
 unfold updF
 split
 ·rename_i x h
  rw [wFb]
  by_cases e : d = id
  ·rw [if_pos e, if_pos e, e, h]; rfl
  rw [if_neg e, if_neg e]
 rename_i h
 by_cases e : d = id
 ·rw [if_pos e, e, h]; rfl
 rw [if_neg e]
theorem delA_nodup {α : Type} {k : Int} {l : List (Int × α)} (h : (wBg l).Nodup) : (wBg (wBc k l)).Nodup := h.sublist (List.Sublist.map _ (List.filter_sublist))
theorem WFB.upd {fs : Fls} (h : WFB fs) {id : Int} {f : PF → PF} (h1 : ∀ x, (f x).dir = x.dir) (h2 : ∀ x, (f x).names = x.names) (h3 : ∀ x, wAm id fs = some x → (f x).data.length ≤ 4096) : WFB (updF fs id f) := by
 have back : ∀ d x, wAm d (updF fs id f) = some x → ∃ x0, wAm d fs = some x0 ∧ x.dir = x0.dir ∧ x.names = x0.names ∧ (x.data = x0.data ∨ d = id ∧ x = f x0) := fun d x hd => by
  rw [wFn] at hd
  split at hd
  ·rename_i e
   cases hx : wAm d fs with
   | none => rw [hx] at hd; cases hd
   | some x0 => rw [hx] at hd; cases hd; exact ⟨x0, rfl, h1 _, h2 _, .inr ⟨e, rfl⟩⟩
  exact ⟨x, hd, rfl, rfl, .inl rfl⟩
 have fwd : ∀ d x, wAm d fs = some x → ∃ x1, wAm d (updF fs id f) = some x1 ∧ x1.dir = x.dir := fun d x hd => by
  rw [wFn, hd]
  split
  ·exact ⟨_, rfl, h1 _⟩
  exact ⟨_, rfl, rfl⟩
 refine { nd := by rw [wGf]; exact h.nd, root := ?_, tgt := ?_, leaf := ?_, nmd := ?_, rank := ?_, len := ?_ }
 ·obtain ⟨r, hr, hd⟩ := h.root
  obtain ⟨r1, hr1, hd1⟩ := fwd 1 r hr
  exact ⟨r1, hr1, hd1.trans hd⟩
 ·intro d x s k hd hs
  obtain ⟨x0, e1, e2, e3, _⟩ := back d x hd
  rw [e3] at hs
  obtain ⟨y, hy⟩ := h.tgt d x0 s k e1 hs
  obtain ⟨y1, hy1, _⟩ := fwd k y hy
  exact ⟨y1, hy1⟩
 ·intro d x hd hx
  obtain ⟨x0, e1, e2, e3, _⟩ := back d x hd
  rw [e3]; exact h.leaf d x0 e1 (by rw [← e2]; exact hx)
 ·intro d x hd
  obtain ⟨x0, e1, e2, e3, _⟩ := back d x hd
  rw [e3]; exact h.nmd d x0 e1
 ·obtain ⟨r, hr⟩ := h.rank
  refine ⟨r, fun d x s k y hd hs hk hy => ?_⟩
  obtain ⟨x0, e1, e2, e3, _⟩ := back d x hd
  obtain ⟨y0, f1, f2, f3, _⟩ := back k y hk
  exact hr d x0 s k y0 e1 (by rw [← e3]; exact hs) f1 (by rw [← f2]; exact hy)
 intro d x hd
 obtain ⟨x0, e1, e2, e3, e4⟩ := back d x hd
 rw [e3]
 refine ⟨?_, (h.len d x0 e1).2⟩
 rcases e4 with e4 | ⟨e4, e5⟩
 ·rw [e4]; exact (h.len d x0 e1).1
 rw [e5]; exact h3 x0 (by rw [← e4]; exact e1)
theorem refs_same {fs : Fls} {id : Int} {f : PF → PF} (h : ∀ x, (f x).names = x.names) (k : Int) : wFx k (updF fs id f) = wFx k fs := by
 cases hx : wAm id fs with
 | none => unfold updF; rw [hx]
 | some x =>
  rw [wJi hx]
  have := refs_put (k := k) (x' := f x) hx
  rw [h x] at this; omega
theorem WFB.put {fs : Fls} (h : WFB fs) {d k : Int} {x y : PF} {s : Str} (hd : wAm d fs = some x) (hdir : x.dir = true) (hs : wAm s x.names = none) (hk : wAm k fs = some y) (hins : y.dir = true → ¬ Ins fs d k) (hlen : x.names.length < 32) : WFB (wEb fs d s k) := by
 have back : ∀ e z, wAm e (wEb fs d s k) = some z → ∃ z0, wAm e fs = some z0 ∧ z.dir = z0.dir ∧ z.data = z0.data ∧ ((e ≠ d ∧ z.names = z0.names) ∨ (e = d ∧ z0 = x ∧ z.names = wBq s k x.names)) := fun e z he => by
  unfold wEb at he
  rw [wFn] at he
  split at he
  ·rename_i ed
   rw [ed, hd] at he; cases he
   exact ⟨x, by rw [ed]; exact hd, rfl, rfl, .inr ⟨ed, rfl, rfl⟩⟩
  rename_i ed; exact ⟨z, he, rfl, rfl, .inl ⟨ed, rfl⟩⟩
 have fwd : ∀ e z, wAm e fs = some z → ∃ z1, wAm e (wEb fs d s k) = some z1 ∧ z1.dir = z.dir := fun e z he => by
  unfold wEb
  rw [wFn, he]
  split
  ·exact ⟨_, rfl, rfl⟩
  exact ⟨_, rfl, rfl⟩
 have edge : ∀ e z u m, wAm e (wEb fs d s k) = some z → wAm u z.names = some m → (∃ z0, wAm e fs = some z0 ∧ wAm u z0.names = some m) ∨ (e = d ∧ m = k) := fun e z u m he hu => by
  obtain ⟨z0, a1, a2, a3, a4⟩ := back e z he
  rcases a4 with ⟨_, a4⟩ | ⟨a4, a5, a6⟩
  ·exact .inl ⟨z0, a1, by rw [← a4]; exact hu⟩
  rw [a6, wFb] at hu
  split at hu
  ·cases hu; exact .inr ⟨a4, rfl⟩
  exact .inl ⟨x, by rw [a4]; exact hd, hu⟩
 refine { nd := by unfold wEb; rw [wGf]; exact h.nd, root := ?_, tgt := ?_, leaf := ?_, nmd := ?_, rank := ?_, len := ?_ }
 ·obtain ⟨r, hr, hd⟩ := h.root
  obtain ⟨r1, hr1, hd1⟩ := fwd 1 r hr
  exact ⟨r1, hr1, hd1.trans hd⟩
 ·intro e z u m he hu
  rcases edge e z u m he hu with ⟨z0, a1, a2⟩ | ⟨_, rfl⟩
  ·obtain ⟨q, hq⟩ := h.tgt e z0 u m a1 a2
   obtain ⟨q1, hq1, _⟩ := fwd m q hq
   exact ⟨q1, hq1⟩
  obtain ⟨q1, hq1, _⟩ := fwd _ y hk
  exact ⟨q1, hq1⟩
 ·intro e z he hz
  obtain ⟨z0, a1, a2, a3, a4⟩ := back e z he
  rcases a4 with ⟨_, a4⟩ | ⟨_, a5, _⟩
  ·rw [a4]; exact h.leaf e z0 a1 (by rw [← a2]; exact hz)
  rw [a2, a5, hdir] at hz; cases hz
 ·intro e z he
  obtain ⟨z0, a1, a2, a3, a4⟩ := back e z he
  rcases a4 with ⟨_, a4⟩ | ⟨_, a5, a6⟩
  ·rw [a4]; exact h.nmd e z0 a1
  rw [a6, wEy (getA_none.1 hs), wBg, List.map_append]
  refine List.nodup_append.2 ⟨h.nmd d x hd, by simp, fun a ha b hb => ?_⟩
  simp only [List.map_cons, List.map_nil, List.mem_singleton] at hb
  rw [hb]; intro e; exact getA_none.1 hs (by rw [← e]; exact ha)
 ·obtain ⟨r, hr⟩ := h.rank
  by_cases hy : y.dir = true
  ·classical
   refine ⟨fun m => if Ins fs d m then r m + (r k + 1) else r m, fun e z u m q he hu hm hq => ?_⟩
   obtain ⟨q0, b1, b2, _⟩ := back m q hm
   rcases edge e z u m he hu with ⟨z0, a1, a2⟩ | ⟨rfl, rfl⟩
   ·have h1 := hr e z0 u m q0 a1 a2 b1 (by rw [← b2]; exact hq)
    by_cases hi : Ins fs d m
    ·have : Ins fs d e := .down a1 a2 b1 (by rw [← b2]; exact hq) hi
     simp only [if_pos hi, if_pos this]; omega
    by_cases hi2 : Ins fs d e
    ·simp only [if_neg hi, if_pos hi2]; omega
    simp only [if_neg hi, if_neg hi2]; omega
   simp only [if_pos Ins.here, if_neg (hins hy)]; omega
  refine ⟨r, fun e z u m q he hu hm hq => ?_⟩
  obtain ⟨q0, b1, b2, _⟩ := back m q hm
  rcases edge e z u m he hu with ⟨z0, a1, a2⟩ | ⟨rfl, rfl⟩
  ·exact hr e z0 u m q0 a1 a2 b1 (by rw [← b2]; exact hq)
  rw [hk] at b1; cases b1; rw [b2] at hq; exact absurd hq hy
 intro e z he
 obtain ⟨z0, a1, a2, a3, a4⟩ := back e z he
 rw [a3]
 refine ⟨(h.len e z0 a1).1, ?_⟩
 rcases a4 with ⟨_, a4⟩ | ⟨_, a5, a6⟩
 ·rw [a4]; exact (h.len e z0 a1).2
 rw [a6, wEy (getA_none.1 hs), List.length_append, List.length_singleton]; omega
theorem refs_nmPut {fs : Fls} {d k m : Int} {x : PF} {s : Str} (hd : wAm d fs = some x) (hs : wAm s x.names = none) : wFx m (wEb fs d s k) = wFx m fs + if m = k then 1 else 0 := by
 unfold wEb; rw [wJi hd]
 have := refs_put (k := m) (x' := { x with names := wBq s k x.names }) hd
 have h2 := cnt_put (k := m) (id := k) hs
 simp only at this; omega
theorem wEr {fs : Fls} {d : Int} {s : Str} {e : Int} {z : PF} (he : wAm e (wCg fs d s) = some z) : ∃ z0, wAm e fs = some z0 ∧ z.dir = z0.dir ∧ z.data = z0.data ∧ z.links = z0.links ∧ ((e ≠ d ∧ z.names = z0.names) ∨ (e = d ∧ z.names = wBc s z0.names)) := by
 unfold wCg at he
 rw [wFn] at he
 split at he
 ·rename_i ed
  cases hx : wAm e fs with
  | none => rw [hx] at he; cases he
  | some x => rw [hx] at he; cases he; exact ⟨x, rfl, rfl, rfl, rfl, .inr ⟨ed, rfl⟩⟩
 rename_i ed; exact ⟨z, he, rfl, rfl, rfl, .inl ⟨ed, rfl⟩⟩
theorem wHm {fs : Fls} {d : Int} {s : Str} {e : Int} {z : PF} (he : wAm e fs = some z) : ∃ z1, wAm e (wCg fs d s) = some z1 ∧ z1.dir = z.dir ∧ z1.links = z.links ∧ z1.data = z.data ∧ z1.names = if e = d then wBc s z.names else z.names := by
 unfold wCg
 rw [wFn, he]
 split
 ·rename_i h; exact ⟨_, rfl, rfl, rfl, rfl, rfl⟩
 rename_i h; exact ⟨_, rfl, rfl, rfl, rfl, rfl⟩
theorem nmDel_edge {fs : Fls} {d : Int} {s : Str} {e : Int} {z : PF} {u : Str} {m : Int} (he : wAm e (wCg fs d s) = some z) (hu : wAm u z.names = some m) : ∃ z0, wAm e fs = some z0 ∧ wAm u z0.names = some m := by
 obtain ⟨z0, a1, _, _, _, a4⟩ := wEr he
 rcases a4 with ⟨_, a4⟩ | ⟨_, a4⟩
 ·exact ⟨z0, a1, by rw [← a4]; exact hu⟩
 rw [a4, wFo] at hu
 split at hu
 ·cases hu
 exact ⟨z0, a1, hu⟩
theorem WFB.del {fs : Fls} (h : WFB fs) {d : Int} {s : Str} : WFB (wCg fs d s) := by
 refine { nd := by unfold wCg; rw [wGf]; exact h.nd, root := ?_, tgt := ?_, leaf := ?_, nmd := ?_, rank := ?_, len := ?_ }
 ·obtain ⟨r, hr, hd⟩ := h.root
  obtain ⟨r1, hr1, hd1, _⟩ := wHm (d := d) (s := s) hr
  exact ⟨r1, hr1, hd1.trans hd⟩
 ·intro e z u m he hu
  obtain ⟨z0, a1, a2⟩ := nmDel_edge he hu
  obtain ⟨q, hq⟩ := h.tgt e z0 u m a1 a2
  obtain ⟨q1, hq1, _⟩ := wHm (d := d) (s := s) hq
  exact ⟨q1, hq1⟩
 ·intro e z he hz
  obtain ⟨z0, a1, a2, _, _, a4⟩ := wEr he
  have := h.leaf e z0 a1 (by rw [← a2]; exact hz)
  rcases a4 with ⟨_, a4⟩ | ⟨_, a4⟩
  ·rw [a4, this]
  rw [a4, this]; rfl
 ·intro e z he
  obtain ⟨z0, a1, a2, _, _, a4⟩ := wEr he
  have := h.nmd e z0 a1
  rcases a4 with ⟨_, a4⟩ | ⟨_, a4⟩
  ·rw [a4]; exact this
  rw [a4]; exact this.sublist (List.Sublist.map _ List.filter_sublist)
 ·obtain ⟨r, hr⟩ := h.rank
  refine ⟨r, fun e z u m q he hu hm hq => ?_⟩
  obtain ⟨z0, a1, a2⟩ := nmDel_edge he hu
  obtain ⟨q0, b1, b2, _⟩ := wEr hm
  exact hr e z0 u m q0 a1 a2 b1 (by rw [← b2]; exact hq)
 intro e z he
 obtain ⟨z0, a1, a2, a3, _, a4⟩ := wEr he
 rw [a3]
 refine ⟨(h.len e z0 a1).1, ?_⟩
 have := (h.len e z0 a1).2
 rcases a4 with ⟨_, a4⟩ | ⟨_, a4⟩
 ·rw [a4]; exact this
 rw [a4]; exact Nat.le_trans (List.length_filter_le _ _) this
theorem refs_nmDel {fs : Fls} (h : WFB fs) {d k m : Int} {x : PF} {s : Str} (hd : wAm d fs = some x) (hs : wAm s x.names = some k) : wFx m (wCg fs d s) + (if m = k then 1 else 0) = wFx m fs := by
 unfold wCg; rw [wJi hd]
 have := refs_put (k := m) (x' := { x with names := wBc s x.names }) hd
 have h2 := cnt_del (k := m) (h.nmd d x hd) hs
 simp only at this; omega
theorem Ins.of_nmDel {fs : Fls} {d : Int} {s : Str} {t e : Int} (h : Ins (wCg fs d s) t e) : Ins fs t e := by
 induction h with
 | here => exact .here
 | down hd hs hk hy _ ih =>
  obtain ⟨z0, a1, a2⟩ := nmDel_edge hd hs
  obtain ⟨q0, b1, b2, _⟩ := wEr hk
  exact .down a1 a2 b1 (by rw [← b2]; exact hy) ih
theorem WFB.gone {fs : Fls} (h : WFB fs) {id : Int} {x : PF} (hx : wAm id fs = some x) (h1 : id ≠ 1) (h0 : wFx id fs = 0) : WFB (wBc id fs) := by
 have back : ∀ e z, wAm e (wBc id fs) = some z → wAm e fs = some z ∧ e ≠ id := fun e z he => by
  rw [wFo] at he
  split at he
  ·cases he
  rename_i h; exact ⟨he, h⟩
 refine { nd := delA_nodup h.nd, root := ?_, tgt := ?_, leaf := fun e z he => h.leaf e z (back e z he).1, nmd := fun e z he => h.nmd e z (back e z he).1, rank := ?_, len := fun e z he => h.len e z (back e z he).1 }
 ·obtain ⟨r, hr, hd⟩ := h.root
  exact ⟨r, by rw [wFo, if_neg (Ne.symm h1)]; exact hr, hd⟩
 ·intro e z u m he hu
  obtain ⟨y, hy⟩ := h.tgt e z u m (back e z he).1 hu
  refine ⟨y, ?_⟩
  rw [wFo, if_neg (fun e2 => ?_)]
  ·exact hy
  have := refs_pos (back e z he).1 hu
  rw [e2] at this; omega
 obtain ⟨r, hr⟩ := h.rank
 exact ⟨r, fun e z u m q he hu hm hq => hr e z u m q (back e z he).1 hu (back m q hm).1 hq⟩
theorem WFB.come {fs : Fls} (h : WFB fs) {id : Int} {x : PF} (hx : wAm id fs = none) (h1 : x.names = []) (h2 : x.data = []) : WFB (fs ++ [(id, x)]) := by
 have get : ∀ e, wAm e (fs ++ [(id, x)]) = if e = id then some x else wAm e fs := fun e => by
  rw [← wEy (v := x) (getA_none.1 hx), wFb]
 have back : ∀ e z, wAm e (fs ++ [(id, x)]) = some z → (e ≠ id ∧ wAm e fs = some z) ∨ (e = id ∧ z = x) := fun e z he => by
  rw [get] at he
  split at he
  ·rename_i h; cases he; exact .inr ⟨h, rfl⟩
  rename_i h; exact .inl ⟨h, he⟩
 have fwd : ∀ e z, wAm e fs = some z → wAm e (fs ++ [(id, x)]) = some z := fun e z he => by
  rw [get, if_neg (fun e2 => by rw [e2, hx] at he; cases he)]; exact he
 refine { nd := ?_, root := ?_, tgt := ?_, leaf := ?_, nmd := ?_, rank := ?_, len := ?_ }
 ·rw [wBg, List.map_append]
  refine List.nodup_append.2 ⟨h.nd, by simp, fun a ha b hb => ?_⟩
  simp only [List.map_cons, List.map_nil, List.mem_singleton] at hb
  rw [hb]; intro e; exact getA_none.1 hx (by rw [← e]; exact ha)
 ·obtain ⟨r, hr, hd⟩ := h.root
  exact ⟨r, fwd _ _ hr, hd⟩
 ·intro e z u m he hu
  rcases back e z he with ⟨_, a1⟩ | ⟨_, rfl⟩
  ·obtain ⟨y, hy⟩ := h.tgt e z u m a1 hu; exact ⟨y, fwd _ _ hy⟩
  rw [h1] at hu; cases hu
 ·intro e z he hz
  rcases back e z he with ⟨_, a1⟩ | ⟨_, rfl⟩
  ·exact h.leaf e z a1 hz
  exact h1
 ·intro e z he
  rcases back e z he with ⟨_, a1⟩ | ⟨_, rfl⟩
  ·exact h.nmd e z a1
  rw [h1]; simp
 ·obtain ⟨r, hr⟩ := h.rank
  refine ⟨r, fun e z u m q he hu hm hq => ?_⟩
  rcases back e z he with ⟨_, a1⟩ | ⟨_, rfl⟩
  ·rcases back m q hm with ⟨_, b1⟩ | ⟨b0, rfl⟩
   ·exact hr e z u m q a1 hu b1 hq
   obtain ⟨y, hy⟩ := h.tgt e z u m a1 hu
   rw [b0, hx] at hy; cases hy
  rw [h1] at hu; cases hu
 intro e z he
 rcases back e z he with ⟨_, a1⟩ | ⟨_, rfl⟩
 ·exact h.len e z a1
 rw [h1, h2]; simp
theorem refs_come {fs : Fls} {id k : Int} {x : PF} (h1 : x.names = []) : wFx k (fs ++ [(id, x)]) = wFx k fs := by
 rw [wFe]; simp [wFx, h1, cntN]
end Go.Proofs.YtokljhkplbkggaaGreatDoor
namespace Go.Proofs.YtokljhkplbkggaaGreatDoor
set_option linter.unusedVariables false
set_option linter.unusedSimpArgs false
open Go.RowKit Go.MapKept
abbrev pt (b : Nat) : Value := .pointer (some ⟨b, 0, none⟩)
structure CF where
 pf : PF
 b : Nat
 dv : Value
 dR : Lc
 nm : Value
 nR : Lc
structure CV where
 frozen : Bool
 next : Int
 b : Nat
 mb : Nat
 mo : Obj
 files : List (Int × CF)
structure CS where
 next : Int
 b : Nat
 mb : Nat
 mo : Obj
 vols : List (Int × CV)
def fObj (x : CF) : Obj := .cells [.bool x.pf.dir, .int .i64 x.pf.links, x.dv, x.nm].toArray 127 (0, 0)
def vObj (v : CV) : Obj := .cells [.bool v.frozen, .int .u32 v.next, .map (some v.mb)].toArray 130 (0, 0)
def sObj (s : CS) : Obj := .cells [.int .i64 s.next, .map (some s.mb)].toArray 49 (0, 0)
def CF.own (x : CF) : Lc := (x.b, fObj x) :: (x.dR ++ x.nR)
def wJr (l : List (Int × CF)) : Lc := l.flatMap fun p => p.2.own
def CV.own (v : CV) : Lc := (v.b, vObj v) :: (v.mb, v.mo) :: wJr v.files
def ownVs (l : List (Int × CV)) : Lc := l.flatMap fun p => p.2.own
def CS.own (s : CS) : Lc := (s.b, sObj s) :: (s.mb, s.mo) :: ownVs s.vols
def wEf (l : List (Int × CF)) : Fls := l.map fun p => (p.1, p.2.pf)
def CV.abs (v : CV) : PV := { frozen := v.frozen, next := v.next, files := wEf v.files }
def CS.abs (s : CS) : PS := { next := s.next, vols := s.vols.map fun p => (p.1, p.2.abs) }
def Byt (v : Value) (R : Lc) (xs : List By) : Prop := (v = .slice none 0 0 ∧ R = [] ∧ xs = []) ∨ ∃ g cap cur, v = .slice (some ⟨g, 0, none⟩) xs.length cap ∧ R = [(g, .cells cur 5 (0, 0))] ∧ xs.length ≤ cap ∧ cap ≤ cur.size ∧ cap ≤ maxLen ∧ cur.toList.take xs.length = wAn xs
def NmOk (x : CF) : Prop := (x.pf.dir = true ∧ ∃ mb mo, x.nm = .map (some mb) ∧ x.nR = [(mb, mo)] ∧ MapOf kS mo (x.pf.names.map fun q => (q.1, .int .u32 q.2))) ∨ (x.pf.dir = false ∧ x.nm = .map none ∧ x.nR = [] ∧ x.pf.names = [])
structure CF.Ok (x : CF) : Prop where
 byt : Byt x.dv x.dR x.pf.data
 nmo : NmOk x
def ptF (l : List (Int × CF)) : List (Int × Value) := l.map fun p => (p.1, pt p.2.b)
def ptV (l : List (Int × CV)) : List (Int × Value) := l.map fun p => (p.1, pt p.2.b)
structure CV.Ok (v : CV) : Prop where
 mo : MapOf kU v.mo (ptF v.files)
 fs : ∀ p ∈ v.files, p.2.Ok
structure CS.Ok (s : CS) : Prop where
 mo : MapOf kI s.mo (ptV s.vols)
 vs : ∀ p ∈ s.vols, p.2.Ok
def Vw (M : Mem) (L : Lc) (R : Lc) : Prop := ∀ p ∈ R, OJ M L p.1 p.2
theorem Vw.inM {M : Mem} {L R : Lc} (h : ∀ p ∈ R, M p.1 = some p.2) : Vw M L R := fun p hp => .inl (h p hp)
class SubL (R L : Lc) : Prop where
 sub : ∀ p ∈ R, p ∈ L
instance (priority := high) SubL.self {R : Lc} : SubL R R := ⟨fun _ h => h⟩
instance SubL.cons {R L : Lc} {p : Nat × Obj} [h : SubL R L] : SubL R (p :: L) := ⟨fun q hq => List.mem_cons_of_mem _ (h.sub q hq)⟩
instance SubL.head {R L : Lc} : SubL R (R ++ L) := ⟨fun q hq => List.mem_append_left _ hq⟩
instance (priority := low) SubL.right {R A L : Lc} [h : SubL R L] : SubL R (A ++ L) := ⟨fun q hq => List.mem_append_right _ (h.sub q hq)⟩
theorem Vw.of {M : Mem} {L R : Lc} [h : SubL R L] : Vw M L R := fun p hp => .inr (h.sub p hp)
section
variable {M : Mem} {L : Lc} {S : CS} {vo id : Int} {cv : CV} {cf : CF}
theorem Vw.s (h : Vw M L S.own) : OJ M L S.b (sObj S) := h _ (List.mem_cons_self ..)
theorem Vw.mo (h : Vw M L S.own) : OJ M L S.mb S.mo := h (S.mb, S.mo) (by unfold CS.own; simp)
theorem Vw.vol (h : Vw M L S.own) (hv : wAm vo S.vols = some cv) : Vw M L cv.own := fun p hp => h p (by
 unfold CS.own ownVs
 exact List.mem_cons_of_mem _ (List.mem_cons_of_mem _ (List.mem_flatMap.2 ⟨_, wDy hv, hp⟩)))
theorem Vw.v (h : Vw M L cv.own) : OJ M L cv.b (vObj cv) := h _ (List.mem_cons_self ..)
theorem Vw.vmo (h : Vw M L cv.own) : OJ M L cv.mb cv.mo := h (cv.mb, cv.mo) (by unfold CV.own; simp)
theorem Vw.file (h : Vw M L cv.own) (hx : wAm id cv.files = some cf) : Vw M L cf.own := fun p hp => h p (by
 unfold CV.own wJr
 exact List.mem_cons_of_mem _ (List.mem_cons_of_mem _ (List.mem_flatMap.2 ⟨_, wDy hx, hp⟩)))
theorem Vw.x (h : Vw M L cf.own) : OJ M L cf.b (fObj cf) := h _ (List.mem_cons_self ..)
theorem Vw.xd (h : Vw M L cf.own) : Vw M L cf.dR := fun p hp => h p (by unfold CF.own; exact List.mem_cons_of_mem _ (List.mem_append_left _ hp))
theorem Vw.xn (h : Vw M L cf.own) : Vw M L cf.nR := fun p hp => h p (by unfold CF.own; exact List.mem_cons_of_mem _ (List.mem_append_right _ hp))
end
theorem CS.Ok.v {S : CS} (h : S.Ok) {vol : Int} {v : CV} (hv : wAm vol S.vols = some v) : v.Ok := h.vs _ (wDy hv)
theorem CV.Ok.x {v : CV} (h : v.Ok) {id : Int} {x : CF} (hx : wAm id v.files = some x) : x.Ok := h.fs _ (wDy hx)
theorem CF.Ok.map {x : CF} (h : x.Ok) (hd : x.pf.dir = true) : ∃ mb mo, x.nm = .map (some mb) ∧ x.nR = [(mb, mo)] ∧ MapOf kS mo (x.pf.names.map fun q => (q.1, .int .u32 q.2)) := by
 rcases h.nmo with ⟨_, h⟩ | ⟨h, _⟩
 ·exact h
 rw [hd] at h; cases h
theorem wEv {l : List (Int × CV)} {k : Int} : wAm k (ptV l) = (wAm k l).map fun v => pt v.b := wKd (fun v : CV => pt v.b)
theorem ptF_get {l : List (Int × CF)} {k : Int} : wAm k (ptF l) = (wAm k l).map fun v => pt v.b := wKd (fun v : CF => pt v.b)
theorem wBs {l : List (Int × CF)} {k : Int} : wAm k (wEf l) = (wAm k l).map fun v => v.pf := wKd (fun v : CF => v.pf)
theorem wBp {S : CS} {k : Int} : wAm k S.abs.vols = (wAm k S.vols).map fun v => v.abs := wKd (fun v : CV => v.abs)
theorem names_get {l : List (Str × Int)} {k : Str} : wAm k (l.map fun q => (q.1, (Value.int .u32 q.2))) = (wAm k l).map fun n => Value.int .u32 n := wKd (fun n : Int => Value.int .u32 n)
theorem names_del {l : List (Str × Int)} {k : Str} : wBc k (l.map fun q => (q.1, (Value.int .u32 q.2))) = (wBc k l).map fun q => (q.1, (Value.int .u32 q.2)) := by
 unfold wBc; rw [List.filter_map]; rfl
theorem names_put {l : List (Str × Int)} {k : Str} {n : Int} : wBq k (Value.int .u32 n) (l.map fun q => (q.1, (Value.int .u32 q.2))) = (wBq k n l).map fun q => (q.1, (Value.int .u32 q.2)) := by
 induction l with
 | nil => rfl
 | cons p l ih =>
  rw [List.map_cons, wBq, wBq]
  split
  ·rfl
  rw [ih]; rfl
def blkOf (S : CS) (vol id : Int) : Nat := match (wAm vol S.vols).bind fun v => wAm id v.files with
 | some x => x.b
 | none => 0
theorem blkOf_is {S : CS} {vol id : Int} {v : CV} {x : CF} (hv : wAm vol S.vols = some v) (hx : wAm id v.files = some x) : blkOf S vol id = x.b := by unfold blkOf; rw [hv]; simp [hx]
theorem perm_split {α : Type} {f : α → Lc} {A B : List α} {x : α} : ((A ++ x :: B).flatMap f).Perm (f x ++ (A ++ B).flatMap f) := by
 simp only [List.flatMap_append, List.flatMap_cons]
 rw [← List.append_assoc, ← List.append_assoc]
 exact List.Perm.append_right _ List.perm_append_comm
theorem CS.foc {S : CS} {vol : Int} {v : CV} {A B : List (Int × CV)} (h : S.vols = A ++ (vol, v) :: B) : S.own.Perm (v.own ++ ((S.b, sObj S) :: (S.mb, S.mo) :: ownVs (A ++ B))) := by
 unfold CS.own ownVs
 rw [h]
 refine ((List.Perm.cons _ (List.Perm.cons _ (perm_split (f := fun p : Int × CV => p.2.own))))).trans ?_
 have : ∀ (p q : Nat × Obj) (X Y : Lc), (p :: q :: (X ++ Y)).Perm (X ++ (p :: q :: Y)) := fun p q X Y => (List.Perm.cons p List.perm_middle.symm).trans List.perm_middle.symm
 exact this _ _ _ _
theorem CV.foc {v : CV} {id : Int} {x : CF} {A B : List (Int × CF)} (h : v.files = A ++ (id, x) :: B) : v.own.Perm (x.own ++ ((v.b, vObj v) :: (v.mb, v.mo) :: wJr (A ++ B))) := by
 unfold CV.own wJr
 rw [h]
 refine ((List.Perm.cons _ (List.Perm.cons _ (perm_split (f := fun p : Int × CF => p.2.own))))).trans ?_
 have : ∀ (p q : Nat × Obj) (X Y : Lc), (p :: q :: (X ++ Y)).Perm (X ++ (p :: q :: Y)) := fun p q X Y => (List.Perm.cons p List.perm_middle.symm).trans List.perm_middle.symm
 exact this _ _ _ _
def CS.setV (S : CS) (vol : Int) (v : CV) : CS := { S with vols := wBq vol v S.vols }
def CV.setX (v : CV) (id : Int) (x : CF) : CV := { v with files := wBq id x v.files }
def CS.setX (S : CS) (vol id : Int) (x : CF) : CS := match wAm vol S.vols with
 | some v => S.setV vol (v.setX id x)
 | none => S
theorem setX_is {S : CS} {vol id : Int} {x : CF} {v : CV} (hv : wAm vol S.vols = some v) : S.setX vol id x = S.setV vol (v.setX id x) := by unfold CS.setX; rw [hv]
theorem CS.focV {S : CS} {vol : Int} {v : CV} (hv : wAm vol S.vols = some v) : ∃ R, S.own.Perm (v.own ++ R) ∧ ∀ v', (S.setV vol v').own.Perm (v'.own ++ R) := by
 obtain ⟨A, B, h, hA⟩ := wCf hv
 refine ⟨_, CS.foc h, fun v' => ?_⟩
 have h' : (S.setV vol v').vols = A ++ (vol, v') :: B := by unfold CS.setV; simp only; rw [h, wFa hA]
 exact CS.foc h'
theorem CV.focX {v : CV} {id : Int} {x : CF} (hx : wAm id v.files = some x) : ∃ R, v.own.Perm (x.own ++ R) ∧ ∀ x', (v.setX id x').own.Perm (x'.own ++ R) := by
 obtain ⟨A, B, h, hA⟩ := wCf hx
 refine ⟨_, CV.foc h, fun x' => ?_⟩
 have h' : (v.setX id x').files = A ++ (id, x') :: B := by unfold CV.setX; simp only; rw [h, wFa hA]
 exact CV.foc h'
theorem CS.focX {S : CS} {vol id : Int} {v : CV} {x : CF} (hv : wAm vol S.vols = some v) (hx : wAm id v.files = some x) : ∃ R, S.own.Perm (x.own ++ R) ∧ ∀ x', (S.setX vol id x').own.Perm (x'.own ++ R) := by
 obtain ⟨R, h1, h2⟩ := CS.focV hv
 obtain ⟨R', h3, h4⟩ := CV.focX hx
 refine ⟨R' ++ R, ?_, fun x' => ?_⟩
 ·rw [← List.append_assoc]; exact h1.trans (h3.append_right _)
 rw [setX_is hv, ← List.append_assoc]; exact (h2 _).trans ((h4 x').append_right _)
theorem putA_pt {l : List (Int × CV)} {k : Int} {v v' : CV} (h : wAm k l = some v) (hb : v'.b = v.b) : ptV (wBq k v' l) = ptV l := by
 obtain ⟨A, B, rfl, hA⟩ := wCf h
 rw [wFa hA]; simp [ptV, hb]
theorem putA_ptF {l : List (Int × CF)} {k : Int} {v v' : CF} (h : wAm k l = some v) (hb : v'.b = v.b) : ptF (wBq k v' l) = ptF l := by
 obtain ⟨A, B, rfl, hA⟩ := wCf h
 rw [wFa hA]; simp [ptF, hb]
theorem mem_putA {α : Type} {l : List (Int × α)} {k : Int} {v : α} : ∀ p ∈ wBq k v l, p = (k, v) ∨ p ∈ l := by
 induction l with
 | nil => intro p hp; rw [wBq, List.mem_singleton] at hp; exact .inl hp
 | cons q l ih =>
  intro p hp
  rw [wBq] at hp
  split at hp
  ·rcases List.mem_cons.1 hp with h | h
   ·exact .inl h
   exact .inr (List.mem_cons_of_mem _ h)
  rcases List.mem_cons.1 hp with h | h
  ·exact .inr (by rw [h]; exact List.mem_cons_self ..)
  exact (ih p h).imp id (List.mem_cons_of_mem _)
theorem CS.Ok.setV {S : CS} (h : S.Ok) {vol : Int} {v v' : CV} (hv : wAm vol S.vols = some v) (hb : v'.b = v.b) (h' : v'.Ok) : (S.setV vol v').Ok :=
 ⟨by unfold CS.setV; simp only; rw [putA_pt hv hb]; exact h.mo, fun p hp => (mem_putA p hp).elim (fun e => by rw [e]; exact h') (h.vs p)⟩
theorem CV.Ok.setX {v : CV} (h : v.Ok) {id : Int} {x x' : CF} (hx : wAm id v.files = some x) (hb : x'.b = x.b) (h' : x'.Ok) : (v.setX id x').Ok :=
 ⟨by unfold CV.setX; simp only; rw [putA_ptF hx hb]; exact h.mo, fun p hp => (mem_putA p hp).elim (fun e => by rw [e]; exact h') (h.fs p)⟩
theorem CS.Ok.setX {S : CS} (h : S.Ok) {vol id : Int} {v : CV} {x x' : CF} (hv : wAm vol S.vols = some v) (hx : wAm id v.files = some x) (hb : x'.b = x.b) (h' : x'.Ok) : (S.setX vol id x').Ok := by
 rw [setX_is hv]; exact h.setV hv rfl ((h.v hv).setX hx hb h')
theorem putA_map {α β : Type} (f : α → β) {l : List (Int × α)} {k : Int} {v : α} : (wBq k v l).map (fun p => (p.1, f p.2)) = wBq k (f v) (l.map fun p => (p.1, f p.2)) := by
 induction l with
 | nil => rfl
 | cons p l ih =>
  rw [List.map_cons, wBq, wBq]
  split
  ·rfl
  rw [List.map_cons, ih]
theorem delA_map {α β : Type} (f : α → β) {l : List (Int × α)} {k : Int} : (wBc k l).map (fun p => (p.1, f p.2)) = wBc k (l.map fun p => (p.1, f p.2)) := by
 unfold wBc; rw [List.filter_map]; rfl
theorem abs_setV {S : CS} {vol : Int} {v : CV} : (S.setV vol v).abs = { S.abs with vols := wBq vol v.abs S.abs.vols } := by
 unfold CS.setV CS.abs; simp only; rw [putA_map (fun v : CV => v.abs)]
theorem abs_upd {S : CS} {vol : Int} {v v' : CV} {f : Fls → Fls} (hv : wAm vol S.vols = some v) (h1 : v'.frozen = v.frozen) (h2 : v'.next = v.next) (h3 : wEf v'.files = f (wEf v.files)) : (S.setV vol v').abs = updVF S.abs vol f := by
 rw [abs_setV]; unfold updVF updV
 rw [wBp, hv]; simp only [Option.map_some]
 unfold CV.abs; rw [h1, h2, h3]
theorem wFc {S : CS} {vol id : Int} {v : CV} {x x' : CF} {f : PF → PF} (hv : wAm vol S.vols = some v) (hx : wAm id v.files = some x) (hf : x'.pf = f x.pf) : (S.setX vol id x').abs = updVF S.abs vol fun fs => updF fs id f := by
 rw [setX_is hv]
 refine abs_upd (v := v) hv rfl rfl ?_
 unfold CV.setX wEf; simp only
 rw [putA_map (fun x : CF => x.pf), wJi (x := x.pf) (by have := wBs (l := v.files) (k := id); rw [hx] at this; exact this), hf]
theorem wFv {S : CS} {vol id : Int} {v : CV} {x : CF} (hv : wAm vol S.vols = some v) (hx : wAm id v.files = some x) : wEs S.abs vol id = some x.pf := by
 unfold wEs; rw [wBp, hv]; simp only [Option.map_some, Option.bind_some]; show wAm id (wEf v.files) = _; rw [wBs, hx]; rfl
theorem walkN_some {fs : Fls} (h : WFB fs) : ∀ (names : List Str) (id k : Int), (∃ y, wAm id fs = some y) → wEt fs id names = .ok k → ∃ y, wAm k fs = some y
 | [], id, k, h0, hw => by cases hw; exact h0
 | s :: ss, id, k, h0, hw => by
  rw [wEt] at hw
  split at hw
  ·cases hw
  rename_i x hx
  split at hw
  ·split at hw
   ·rename_i m hm
    exact walkN_some h ss m k (h.tgt _ _ _ _ hx hm) hw
   cases hw
  cases hw
theorem walkN_err {fs : Fls} (h : WFB fs) : ∀ (names : List Str) (id e : Int), (∃ y, wAm id fs = some y) → wEt fs id names = .error e → e = 6 ∨ e = 240
 | [], id, k, h0, hw => by cases hw
 | s :: ss, id, k, h0, hw => by
  rw [wEt] at hw
  split at hw
  ·rename_i hn; obtain ⟨y, hy⟩ := h0; rw [hn] at hy; cases hy
  rename_i x hx
  split at hw
  ·split at hw
   ·rename_i m hm
    exact walkN_err h ss m k (h.tgt _ _ _ _ hx hm) hw
   cases hw; exact .inl rfl
  cases hw; exact .inr rfl
theorem wEw {n : Nat} {S : PS} (h : WFS n S) {vol : Int} {names : List Str} {e : Int} (hw : wBb S vol names = .error e) : e = 6 ∨ e = 240 := by
 unfold wBb at hw
 split at hw
 ·cases hw; exact .inl rfl
 rename_i v hv
 have hwf := (h.vol vol v hv).wf
 obtain ⟨r, hr, _⟩ := hwf.root
 exact walkN_err hwf.toWFB names 1 e ⟨r, hr⟩ hw
theorem wGo {n : Nat} {S : CS} (h : WFS n S.abs) {vol : Int} {names : List Str} {id : Int} (hw : wBb S.abs vol names = .ok id) : ∃ v x, wAm vol S.vols = some v ∧ wAm id v.files = some x ∧ WFV n v.abs := by
 unfold wBb at hw
 rw [wBp] at hw
 cases hv : wAm vol S.vols with
 | none => rw [hv] at hw; cases hw
 | some v =>
  rw [hv] at hw
  have hwv := h.vol vol v.abs (by rw [wBp, hv]; rfl)
  obtain ⟨r, hr, _⟩ := hwv.wf.root
  obtain ⟨y, hy⟩ := walkN_some hwv.wf.toWFB names 1 id ⟨r, hr⟩ hw
  have : wAm id (wEf v.files) = some y := hy
  rw [wBs] at this
  cases hx : wAm id v.files with
  | none => rw [hx] at this; cases this
  | some x => exact ⟨v, x, rfl, hx, hwv⟩
section
variable {P : Program} {ops : Array Oper} {N : Fs} {F : Fr} {E : Ent} {M : Mem} {L : Lc} {o : Oper}
theorem wJo {x y : Operand} {t t' e : TypeId} {p : Option Addr} (hg : gd ops F o = some true) (ho : o.op = .binOp .eql t x y t') (hx : ev F x = some (.pointer p)) (hy : ev F y = some (.pointer none)) [ht : Und P t (.pointer e)] : QF P ops N F M L o (.bool p.isNone) := wDw hg fun ac ha w _ => by
 have hp : P.underlying t = some (.pointer (P.pointee t)) := by rw [ht.h]; simp [Program.pointee, ht.h]
 have := run_eql_pointer_nil (P := P) w t p hp
 simp only [execOp, ho, ha.ev hx, ha.ev hy]
 simp [eqGuard, this]
theorem wBm {x : Operand} {xs : List Operand} {T : Array TypeId} {f : FuncId} {first captured vs all : List Value} {v : Value} {R : Lc} (hg : gd ops F o = some true)
  (ho : o.op = .call { callee := .value x, args := xs.toArray, argTypes := T }) (hx : ev F x = some (.func (.func f) first.toArray captured.toArray)) (hv : evs F xs = some vs) (hall : first ++ vs ++ captured = all) (hgo : isGo P f = true)
  (hR : ∀ p ∈ R, p ∈ L) (hs : SpecL P f all.toArray (wDu M R) [] (fun u _ _ => u = v)) : QF P ops N F M L o v := fun a ha =>
 .inl ⟨wKv ha hg, fun w hw => by
  have hag : ∀ (R : Lc), (∀ p ∈ R, p ∈ L) → ∀ b o, wDu M R b = some o → w.heap[b]? = some o := fun R => by
   induction R with
   | nil => intro _ b o hb; exact hw.agree b o hb
   | cons p R ih =>
    intro hR b o hb
    have hb2 : (if b = p.1 then some p.2 else wDu M R b) = some o := hb
    by_cases e : b = p.1
    ·rw [if_pos e] at hb2; cases hb2; rw [e]; exact hw.locs p (hR p (List.mem_cons_self ..))
    rw [if_neg e] at hb2; exact ih (fun q hq => hR q (List.mem_cons_of_mem _ hq)) b o hb2
  have hin : St ⟨w, ([] : Lc).map (·.1), wDu M R⟩ (wDu M R) [] w :=
   {os := rfl, tape := rfl, output := rfl, size := Nat.le_refl _, same := fun _ _ _ => rfl, fresh := fun _ _ => rfl, agree := hag R hR
    locs := fun p hp => by cases hp
    nodup := by simp }
  rw [run_callOp ho ha hx hv hall hgo w]
  refine ⟨Below.refl _ _, (hs w hin).mono fun e w' hh => ?_⟩
  obtain ⟨u, M', R', rfl, rfl, h⟩ := hh
  exact ⟨rfl, ⟨h.os, h.tape, h.output, h.size, fun k hk => h.same k hk (by simp)⟩⟩⟩
theorem HF.weakL {K : Value → Mem → Lc → Prop} {L1 : Lc} (hp : L.Perm L1) (h : HF P ops N F E M L1 o K) : HF P ops N F E M L o K := fun a w ha hw => h a w ha (hw.perm hp)
end
theorem SpecL.mem {P : Program} {f : FuncId} {args : Array Value} {M : Mem} {L : Lc} {post : Value → Mem → Lc → Prop} (h : (L.map (·.1)).Nodup → (∀ p ∈ L, M p.1 = none) → SpecL P f args M L post) : SpecL P f args M L post := fun w hw => h hw.nodup (fun p hp => (hw.locs p hp).2.2) w hw
theorem wBf {M : Mem} {R : Lc} (hn : (R.map (·.1)).Nodup) : ∀ p ∈ R, wDu M R p.1 = some p.2 := fun _ hp => addL_on hn hp
theorem jc_fact {P : Program} {N : Fs} {c : Code} {F : Fr} {E : Ent} {M : Mem} {L : Lc} {Q : Exit → Act → World → Prop} (h : (L.map (·.1)).Nodup → (∀ p ∈ L, M p.1 = none) → JC P N c F E M L Q) : JC P N c F E M L Q := fun a w ha hw => h hw.nodup (fun p hp => (hw.locs p hp).2.2) a w ha hw
end Go.Proofs.YtokljhkplbkggaaGreatDoor
