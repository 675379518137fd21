/- THE WALKING LAYER: maps of any keys and values, in whatever order their entries stand. No statement of the seat is proved here. -/
import Derived.Test.YtdjaehgadehnfaaGreatDoorHm
import Derived.MapKept
import Derived.Maps.RangeRun
import Derived.Laws.IdiomRangeMap
namespace Go.Proofs.YtdjaehgadehnfaaGreatDoor
set_option linter.unusedVariables false
set_option linter.unusedSimpArgs false
open Go.RowKit Go.MapKept

/-! ### lists of keys with what stands under them -/
section
variable {κ α β : Type} [DecidableEq κ]
def getA (k : κ) : List (κ × α) → Option α
  | [] => none
  | p :: l => if k = p.1 then some p.2 else getA k l
def putA (k : κ) (v : α) : List (κ × α) → List (κ × α)
  | [] => [(k, v)]
  | p :: l => if k = p.1 then (k, v) :: l else p :: putA k v l
def delA (k : κ) (l : List (κ × α)) : List (κ × α) := l.filter fun p => !decide (p.1 = k)
abbrev keysA (l : List (κ × α)) : List κ := l.map (·.1)
theorem getA_none {k : κ} : ∀ {l : List (κ × α)}, getA k l = none ↔ k ∉ keysA l
  | [] => by simp [getA]
  | p :: l => by
    rw [getA]
    by_cases h : k = p.1
    · simp [h]
    · rw [if_neg h, getA_none (l := l)]; simp [h]
theorem getA_mem {k : κ} {v : α} : ∀ {l : List (κ × α)}, getA k l = some v → (k, v) ∈ l
  | [], h => by cases h
  | p :: l, h => by
    rw [getA] at h
    split at h
    · rename_i e; cases h; rw [e]; exact List.Mem.head _
    · exact List.Mem.tail _ (getA_mem h)
theorem getA_of {k : κ} {v : α} : ∀ {l : List (κ × α)}, (keysA l).Nodup → (k, v) ∈ l → getA k l = some v
  | p :: l, hn, h => by
    simp only [keysA, List.map_cons, List.nodup_cons] at hn
    rw [getA]
    rcases List.mem_cons.1 h with rfl | h
    · rw [if_pos rfl]
    · have : k ≠ p.1 := fun e => hn.1 (by rw [← e]; exact List.mem_map.2 ⟨_, h, rfl⟩)
      rw [if_neg this]; exact getA_of hn.2 h
theorem getA_split {k : κ} {v : α} : ∀ {l : List (κ × α)}, getA k l = some v → ∃ A B, l = A ++ (k, v) :: B ∧ k ∉ keysA A
  | [], h => by cases h
  | p :: l, h => by
    rw [getA] at h
    split at h
    · rename_i e; cases h; exact ⟨[], l, by rw [e]; rfl, by simp⟩
    · rename_i e
      obtain ⟨A, B, rfl, h2⟩ := getA_split h
      exact ⟨p :: A, B, rfl, by simp [e]; simpa using h2⟩
theorem getA_mid {k : κ} {v : α} : ∀ {A B : List (κ × α)}, k ∉ keysA A → getA k (A ++ (k, v) :: B) = some v
  | [], B, _ => by simp [getA]
  | p :: A, B, h => by
    simp only [List.map_cons, List.mem_cons, not_or] at h
    rw [List.cons_append, getA, if_neg h.1]; exact getA_mid h.2
theorem getA_other {k x : κ} {v : α} (hx : x ≠ k) : ∀ {A B : List (κ × α)}, getA x (A ++ (k, v) :: B) = getA x (A ++ B)
  | [], B => by simp [getA, hx]
  | p :: A, B => by rw [List.cons_append, List.cons_append, getA, getA, getA_other hx]
theorem putA_mid {k : κ} {u v : α} : ∀ {A B : List (κ × α)}, k ∉ keysA A → putA k v (A ++ (k, u) :: B) = A ++ (k, v) :: B
  | [], B, _ => by simp [putA]
  | p :: A, B, h => by
    simp only [List.map_cons, List.mem_cons, not_or] at h
    rw [List.cons_append, putA, if_neg h.1, putA_mid h.2]; rfl
theorem putA_new {k : κ} {v : α} : ∀ {l : List (κ × α)}, k ∉ keysA l → putA k v l = l ++ [(k, v)]
  | [], _ => rfl
  | p :: l, h => by
    simp only [List.map_cons, List.mem_cons, not_or] at h
    rw [putA, if_neg h.1, putA_new h.2]; rfl
theorem delA_new {k : κ} {l : List (κ × α)} (h : k ∉ keysA l) : delA k l = l := by
  refine List.filter_eq_self.2 fun p hp => ?_
  have : p.1 ≠ k := fun e => h (by rw [← e]; exact List.mem_map.2 ⟨p, hp, rfl⟩)
  simp [this]
theorem delA_mid {k : κ} {u : α} {A B : List (κ × α)} (h : (keysA (A ++ (k, u) :: B)).Nodup) : delA k (A ++ (k, u) :: B) = A ++ B := by
  simp only [keysA, List.map_append, List.map_cons] at h
  have h1 := List.nodup_append.1 h
  have hB := (List.nodup_cons.1 h1.2.1).1
  have hA : k ∉ keysA A := fun hm => h1.2.2 k hm k (by simp) rfl
  unfold delA
  rw [List.filter_append, List.filter_cons]
  have e1 := delA_new hA; have e2 := delA_new hB
  unfold delA at e1 e2
  rw [e1, e2]; simp
theorem getA_map {k : κ} (f : α → β) : ∀ {l : List (κ × α)}, getA k (l.map fun p => (p.1, f p.2)) = (getA k l).map f
  | [] => rfl
  | p :: l => by
    rw [List.map_cons, getA, getA]
    split
    · rfl
    · exact getA_map f
theorem getA_put {k x : κ} {v : α} : ∀ {l : List (κ × α)}, getA x (putA k v l) = if x = k then some v else getA x l
  | [] => by simp [putA, getA]
  | p :: l => by
    rw [putA]
    by_cases h : k = p.1
    · rw [if_pos h, getA, getA]
      by_cases hx : x = k
      · simp [hx]
      · simp [hx, ← h]
    · rw [if_neg h, getA, getA, getA_put]
      by_cases hx : x = p.1
      · rw [if_pos hx, if_pos hx, if_neg (fun e => h (by rw [← e, hx]))]
      · rw [if_neg hx, if_neg hx]
theorem getA_del {k x : κ} : ∀ {l : List (κ × α)}, getA x (delA k l) = if x = k then none else getA x l
  | [] => by simp [delA, getA]
  | p :: l => by
    have ih := getA_del (k := k) (x := x) (l := l)
    unfold delA at ih ⊢
    rw [List.filter_cons]
    by_cases h : p.1 = k
    · simp only [h, decide_true, Bool.not_true, Bool.false_eq_true, if_false, ih, getA]
      by_cases hx : x = k <;> simp [hx]
    · simp only [h, decide_false, Bool.not_false, if_true, getA, ih]
      by_cases hx : x = p.1
      · have : x ≠ k := fun e => h (by rw [← hx, e])
        simp [hx, h]
      · simp [hx]
theorem keysA_put {k : κ} {v : α} : ∀ {l : List (κ × α)}, keysA (putA k v l) = if k ∈ keysA l then keysA l else keysA l ++ [k]
  | [] => by simp [putA]
  | p :: l => by
    have ih := keysA_put (k := k) (v := v) (l := l)
    rw [putA]
    by_cases h : k = p.1
    · simp [h]
    · rw [if_neg h]
      simp only [keysA, List.map_cons, List.mem_cons, h, false_or] at ih ⊢
      rw [ih]
      split <;> simp
theorem putA_perm {k : κ} {v : α} {l l2 : List (κ × α)} (h : l.Perm l2) (hn : (keysA l).Nodup) : (putA k v l).Perm (putA k v l2) := by
  have hn2 : (keysA l2).Nodup := (h.map _).nodup_iff.1 hn
  by_cases hk : k ∈ keysA l
  · obtain ⟨u, hu⟩ : ∃ u, getA k l = some u := by
      cases hg : getA k l with
      | none => exact absurd hk (getA_none.1 hg)
      | some u => exact ⟨u, rfl⟩
    have hu2 : getA k l2 = some u := getA_of hn2 (h.mem_iff.1 (getA_mem hu))
    obtain ⟨A, B, rfl, hA⟩ := getA_split hu
    obtain ⟨A2, B2, rfl, hA2⟩ := getA_split hu2
    rw [putA_mid hA, putA_mid hA2]
    have h1 : (A ++ B).Perm (A2 ++ B2) := by
      have := List.perm_middle.symm.trans (h.trans List.perm_middle)
      exact List.Perm.cons_inv this
    exact List.perm_middle.trans ((List.Perm.cons _ h1).trans List.perm_middle.symm)
  · have hk2 : k ∉ keysA l2 := fun hm => hk ((h.map _).mem_iff.2 hm)
    rw [putA_new hk, putA_new hk2]
    exact h.append_right _
end

/-! ### maps in memory -/
structure KT (κ : Type) where
  K : κ → Value
  d : TypeDesc
  ok : ∀ a, IsKey d (K a)
  inj : ∀ a b, K a = K b → a = b
abbrev kI : KT Int := { K := fun n => .int .i64 n, d := .int .i64, ok := fun _ => rfl, inj := fun a b h => by simpa using h }
abbrev kU : KT Int := { K := fun n => .int .u32 n, d := .int .u32, ok := fun _ => rfl, inj := fun a b h => by simpa using h }
abbrev kS : KT ByteArray := { K := fun n => .string n, d := .string, ok := fun _ => trivial, inj := fun a b h => by simpa using h }

variable {κ : Type}
def encK (T : KT κ) (l : List (κ × Value)) : List (Value × Value) := l.map fun p => (T.K p.1, p.2)
abbrev kv (e : MapEntry) : Value × Value := (e.key, e.val)
def MapOf (T : KT κ) (o : Obj) (l : List (κ × Value)) : Prop := ∃ es clock, o = .map es clock ∧ Stamped es clock ∧ (∀ x ∈ es.toList, IsKey T.d x.key) ∧ (es.toList.map kv).Perm (encK T l)
theorem MapOf.perm {T : KT κ} {o : Obj} {l l2 : List (κ × Value)} (h : MapOf T o l) (hp : l.Perm l2) : MapOf T o l2 := by
  obtain ⟨es, c, h1, h2, h3, h4⟩ := h
  exact ⟨es, c, h1, h2, h3, h4.trans (hp.map _)⟩
theorem MapOf.empty {T : KT κ} : MapOf T (.map #[] 0) [] := ⟨#[], 0, rfl, stamped_empty _, by simp, by simp [encK]⟩
theorem keys_nodup {T : KT κ} {es : Array MapEntry} {clock : Nat} {l : List (κ × Value)} (hs : Stamped es clock) (hp : (es.toList.map kv).Perm (encK T l)) : (keysA l).Nodup := by
  have h1 : ((es.toList.map kv).map (·.1)).Perm ((encK T l).map (·.1)) := hp.map _
  simp only [List.map_map] at h1
  have h2 : (es.toList.map ((·.1) ∘ kv)).Nodup := hs.2.2
  have h3 := h1.nodup_iff.1 h2
  have e : (encK T l).map (·.1) = (keysA l).map T.K := by simp [encK]
  rw [e] at h3
  exact (List.pairwise_map.1 h3).imp fun h e => h (by rw [e])
theorem MapOf.nodup {T : KT κ} {o : Obj} {l : List (κ × Value)} (h : MapOf T o l) : (keysA l).Nodup := by
  obtain ⟨es, c, h1, h2, h3, h4⟩ := h; exact keys_nodup h2 h4
theorem find_key [DecidableEq κ] {T : KT κ} {es : Array MapEntry} {clock : Nat} {l : List (κ × Value)} (hs : Stamped es clock) (hk : ∀ x ∈ es.toList, IsKey T.d x.key) (hp : (es.toList.map kv).Perm (encK T l)) (k : κ) :
    (Instr.findNow T.d (T.K k) es.toList 0 = some none ∧ getA k l = none ∧ ∀ x ∈ es.toList, x.key ≠ T.K k) ∨ ∃ j e, Instr.findNow T.d (T.K k) es.toList 0 = some (some (j, e.val)) ∧ es.toList[j]? = some e ∧ e.key = T.K k ∧ getA k l = some e.val := by
  rcases findNow_spec (T.ok k) es.toList 0 hk with ⟨h1, h2⟩ | ⟨j, e, h1, h2, h3⟩
  · refine .inl ⟨h1, getA_none.2 fun hm => ?_, h2⟩
    obtain ⟨p, hp1, rfl⟩ := List.mem_map.1 hm
    have : (T.K p.1, p.2) ∈ es.toList.map kv := hp.mem_iff.2 (List.mem_map.2 ⟨p, hp1, rfl⟩)
    obtain ⟨x, hx, he⟩ := List.mem_map.1 this
    exact h2 x hx (congrArg Prod.fst he)
  · refine .inr ⟨j, e, by simpa using h1, h2, h3, ?_⟩
    have hm : kv e ∈ encK T l := hp.mem_iff.1 (List.mem_map.2 ⟨e, List.mem_of_getElem? h2, rfl⟩)
    obtain ⟨p, hp1, he⟩ := List.mem_map.1 hm
    have e1 : T.K p.1 = T.K k := (congrArg Prod.fst he).trans h3
    have e2 : p.2 = e.val := congrArg Prod.snd he
    have e3 := T.inj _ _ e1
    refine getA_of (keys_nodup hs hp) ?_
    rw [← e3, ← e2]; exact hp1
/-- how a block stands behind an entry that was laid or turned -/
theorem perm_put [DecidableEq κ] {T : KT κ} {es es' : List MapEntry} {l : List (κ × Value)} {k : κ} {v : Value} (hn : (keysA l).Nodup) (hp : (es.map kv).Perm (encK T l))
    (h : (getA k l = none ∧ es'.map kv = es.map kv ++ [(T.K k, v)]) ∨ ∃ (j : Nat) (e : MapEntry), es[j]? = some e ∧ e.key = T.K k ∧ es'.map kv = (es.map kv).set j (T.K k, v)) : (es'.map kv).Perm (encK T (putA k v l)) := by
  rcases h with ⟨h1, h2⟩ | ⟨j, e, h1, h2, h3⟩
  · rw [h2, putA_new (getA_none.1 h1)]
    simp only [encK, List.map_append, List.map_cons, List.map_nil]
    exact hp.append_right _
  · have hj : j < (es.map kv).length := by simpa using (List.getElem?_eq_some_iff.1 h1).1
    have hm : kv e ∈ encK T l := hp.mem_iff.1 (List.mem_map.2 ⟨e, List.mem_of_getElem? h1, rfl⟩)
    obtain ⟨p, hp1, he⟩ := List.mem_map.1 hm
    have e3 : p.1 = k := T.inj _ _ ((congrArg Prod.fst he).trans h2)
    obtain ⟨p1, p2⟩ := p
    simp only at e3; subst e3
    obtain ⟨A, B, e4, hA⟩ := getA_split (getA_of hn hp1)
    rw [e4] at hp ⊢
    rw [putA_mid hA, h3, List.set_eq_take_append_cons_drop, if_pos hj]
    have e5 : es.map kv = (es.map kv).take j ++ kv e :: (es.map kv).drop (j + 1) := by
      have hje : (es.map kv)[j] = kv e := by
        have := (List.getElem?_eq_some_iff.1 h1).2
        simp [this]
      rw [← hje, List.getElem_cons_drop, List.take_append_drop]
    have he5 : (T.K p1, p2) = kv e := he
    have h6 : ((es.map kv).take j ++ kv e :: (es.map kv).drop (j + 1)).Perm (encK T A ++ kv e :: encK T B) := by
      rw [← e5]
      refine hp.trans ?_
      simp only [encK, List.map_append, List.map_cons, he5]
      exact List.Perm.refl _
    have h7 : ((es.map kv).take j ++ (es.map kv).drop (j + 1)).Perm (encK T A ++ encK T B) := (List.perm_middle.symm.trans (h6.trans List.perm_middle)).cons_inv
    refine List.perm_middle.trans ((List.Perm.cons _ h7).trans ?_)
    simp only [encK, List.map_append, List.map_cons]
    exact List.perm_middle.symm
theorem map_modify {es : Array MapEntry} {j : Nat} {e : MapEntry} {f : MapEntry → MapEntry} (h : es[j]? = some e) : (es.modify j f).toList.map kv = (es.toList.map kv).set j (kv (f e)) := by
  apply List.ext_getElem?
  intro i
  rw [List.getElem?_set]
  simp only [List.getElem?_map, Array.getElem?_toList, Array.getElem?_modify]
  by_cases hij : j = i
  · subst hij
    obtain ⟨h1, h2⟩ := Array.getElem?_eq_some_iff.1 h
    simp [h1, h2]
  · simp [hij]
theorem MapOf.lay [DecidableEq κ] {T : KT κ} {es : Array MapEntry} {clock : Nat} {l : List (κ × Value)} {k : κ} {v : Value} (hs : Stamped es clock) (hk : ∀ x ∈ es.toList, IsKey T.d x.key) (hp : (es.toList.map kv).Perm (encK T l)) (hnew : getA k l = none) (hx : ∀ x ∈ es.toList, x.key ≠ T.K k) :
    MapOf T (.map (es.push { key := T.K k, val := v, born := clock }) (clock + 1)) (putA k v l) := by
  refine ⟨_, _, rfl, stamped_push hs hx, ?_, perm_put (keys_nodup hs hp) hp (.inl ⟨hnew, by simp⟩)⟩
  intro x hx'
  simp only [Array.toList_push, List.mem_append, List.mem_singleton] at hx'
  rcases hx' with hx' | rfl
  · exact hk x hx'
  · exact T.ok k
theorem MapOf.turn [DecidableEq κ] {T : KT κ} {es : Array MapEntry} {clock : Nat} {l : List (κ × Value)} {k : κ} {v : Value} {j : Nat} {e : MapEntry} {f : MapEntry → MapEntry} (hs : Stamped es clock) (hk : ∀ x ∈ es.toList, IsKey T.d x.key) (hp : (es.toList.map kv).Perm (encK T l)) (hj : es[j]? = some e) (he : e.key = T.K k)
    (hf : ∀ x, (f x).born = x.born) (hfe : kv (f e) = (T.K k, v)) : MapOf T (.map (es.modify j f) clock) (putA k v l) := by
  have hkey : ∀ e', es[j]? = some e' → (f e').key = e'.key := fun e' he' => by rw [hj] at he'; cases he'; rw [he]; exact congrArg Prod.fst hfe
  refine ⟨_, _, rfl, stamped_modify hs _ _ (fun x _ => hf x) (fun e' _ he' => hkey e' he'), isKey_modify hk _ _ hkey, perm_put (keys_nodup hs hp) hp (.inr ⟨j, e, by simpa using hj, he, ?_⟩)⟩
  rw [map_modify hj, hfe]
/-- the stamp of a key's entry -/
def StampOf (T : KT κ) (o : Obj) (born : Int) (k : κ) : Prop := ∃ es clock e, o = .map es clock ∧ e ∈ es.toList ∧ (e.born : Int) = born ∧ e.key = T.K k

theorem erase_perm {α : Type} : ∀ (l : List α) (j : Nat) (h : j < l.length), l.Perm (l[j] :: l.eraseIdx j)
  | x :: l, 0, _ => by simp
  | x :: l, j + 1, h => by
    simp only [List.getElem_cons_succ, List.eraseIdx_cons_succ]
    exact (List.Perm.cons x (erase_perm l j (by simpa using h))).trans (List.Perm.swap _ _ _)
/-- a block that is seen -/
def OJ (M : Mem) (L : Lc) (b : Nat) (o : Obj) : Prop := M b = some o ∨ (b, o) ∈ L
theorem OJ.heap {M : Mem} {L : Lc} {b : Nat} {o : Obj} (h : OJ M L b o) {w : World} (hw : Js M L w) : w.heap[b]? = some o := h.elim (hw.agree _ _) (hw.locs (b, o))
theorem OJ.cj {M : Mem} {L : Lc} {b : Nat} {c : Array Value} {e : TypeId} {fz : Nat × Nat} (h : OJ M L b (.cells c e fz)) {off : Nat} {v : Value} (hv : c[off]? = some v) : CJ M L b off v := ⟨c, e, fz, h, hv⟩
theorem OJ.of {M : Mem} {L : Lc} {b : Nat} {o : Obj} [h : At b o L] : OJ M L b o := .inr h.mem

section
variable {P : Program} {ops : Array Oper} {N : Fs} {F : Fr} {E : Ent} {M : Mem} {L : Lc} {o : Oper}
theorem zero_run {et : TypeId} {z : Value} (he : (P.info? et).bind (·.zero) = some z) (w : World) : (zeroValue et).run P w = .ok z w := by
  cases hi : P.info? et with
  | none => rw [hi] at he; cases he
  | some ti =>
    rw [hi] at he
    have hz : ti.zero = some z := he
    simp [zeroValue, typeInfo, hi, hz]
theorem run_lookupO [DecidableEq κ] (T : KT κ) {t kt et : TypeId} (ht : P.underlying t = some (.map kt et)) (hk : P.underlying kt = some T.d) {z : Value} {w : World} (hz : (zeroValue et).run P w = .ok z w) {b : Nat} {mo : Obj} {l : List (κ × Value)} (hb : w.heap[b]? = some mo) (hm : MapOf T mo l) (k : κ) (c : Bool) :
    (Instr.lookup t (.map (some b)) (T.K k) c).run P w = .ok (if c then .tuple #[(getA k l).getD z, .bool (getA k l).isSome] else (getA k l).getD z) w := by
  obtain ⟨es, clock, rfl, h1, h2, h3⟩ := hm
  have hg := MapKept.run_getObj_map (P := P) (w := w) (r := b) hb
  rcases find_key h1 h2 h3 k with ⟨f1, f2, _⟩ | ⟨j, e, f1, f2, f3, f4⟩
  · cases c <;> simp [Instr.lookup, run_underlying ht, hg, run_checkKey hk (T.ok k), run_findKey hk f1, Result.andThen, hz, f2]
  · cases c <;> simp [Instr.lookup, run_underlying ht, hg, run_checkKey hk (T.ok k), run_findKey hk f1, Result.andThen, f4]
theorem qLookupO [DecidableEq κ] (T : KT κ) {t kt et : TypeId} {x y : Operand} {b : Nat} {k : κ} {mo : Obj} {l : List (κ × Value)} {z : Value} (hg : gd ops F o = some true) (ho : o.op = .lookup t x y false) (hx : ev F x = some (.map (some b))) (hy : ev F y = some (T.K k))
    [ht : Und P t (.map kt et)] [hk : Und P kt T.d] (he : (P.info? et).bind (·.zero) = some z) (hb : OJ M L b mo) (hm : MapOf T mo l) : QF P ops N F M L o ((getA k l).getD z) := qf_of hg fun a ha w hw => by
  have := run_lookupO (P := P) T ht.h hk.h (zero_run he w) (hb.heap hw) hm k false
  simp only [Bool.false_eq_true, if_false] at this
  simp [execOp, ho, ha.ev hx, ha.ev hy, this]
theorem qLookup2 [DecidableEq κ] (T : KT κ) {t kt et : TypeId} {x y : Operand} {b : Nat} {k : κ} {mo : Obj} {l : List (κ × Value)} {z : Value} (hg : gd ops F o = some true) (ho : o.op = .lookup t x y true) (hx : ev F x = some (.map (some b))) (hy : ev F y = some (T.K k))
    [ht : Und P t (.map kt et)] [hk : Und P kt T.d] (he : (P.info? et).bind (·.zero) = some z) (hb : OJ M L b mo) (hm : MapOf T mo l) : QF P ops N F M L o (.tuple #[(getA k l).getD z, .bool (getA k l).isSome]) := qf_of hg fun a ha w hw => by
  have := run_lookupO (P := P) T ht.h hk.h (zero_run he w) (hb.heap hw) hm k true
  simp only [if_true] at this
  simp [execOp, ho, ha.ev hx, ha.ev hy, this]
theorem qLenMap (T : KT κ) {x : Operand} {t kt et : TypeId} {b : Nat} {mo : Obj} {l : List (κ × Value)} (hg : gd ops F o = some true) (ho : o.op = .call { callee := .builtin .len, args := #[x], argTypes := #[t] })
    (hx : ev F x = some (.map (some b))) [ht : Und P t (.map kt et)] (hb : OJ M L b mo) (hm : MapOf T mo l) : QF P ops N F M L o (.int .i64 l.length) := qf_of hg fun ac ha w hw => by
  obtain ⟨es, clock, rfl, h1, h2, h3⟩ := hm
  have hgo := MapKept.run_getObj_map (P := P) (w := w) (r := b) (hb.heap hw)
  have hl : es.size = l.length := by have := h3.length_eq; simpa [encK] using this
  simp [execOp, ho, resolve, invoke, builtin, Builtin.len_, ha.ev hx, run_underlying ht.h, goInt, hgo, hl]
theorem hMakeMapO {t : TypeId} (hg : gd ops F o = some true) (ho : o.op = .makeMap t none) :
    HF P ops N F E M L o (fun v M' L' => ∃ b, v = .map (some b) ∧ M = M' ∧ L' = (b, .map #[] 0) :: L) := hf_of hg fun a w ha hw =>
  ⟨_, _, M, _, .inl (by simp [execOp, ho, Instr.makeMap, newObj]; rfl), hw.alloc (.map #[] 0), _, rfl, rfl, rfl⟩
theorem St.setRm {b : Nat} {mo mo' : Obj} {L2 : Lc} [hr : Rm b mo L L2] {w : World} (hw : St E M L w) : w.heap[b]? = some mo ∧ St E M ((b, mo') :: L2) { w with heap := w.heap.setIfInBounds b mo' } := by
  have hw' := hw.perm hr.perm
  have hb : w.heap[b]? = some mo := (hw'.locs (b, mo) (by simp)).1
  exact ⟨hb, St.setObj (A := []) (B := L2) hw' rfl rfl rfl (by simp) (heap_set hb).1 (fun k hk => (heap_set hb).2 k hk)⟩
theorem hMapPutO [DecidableEq κ] (T : KT κ) {t kt et : TypeId} {x y z : Operand} {b : Nat} {k : κ} {v : Value} {mo : Obj} {l : List (κ × Value)} {L2 : Lc} (hg : gd ops F o = some true) (ho : o.op = .mapUpdate t x y z ∨ o.op = .insert t x y z) (hx : ev F x = some (.map (some b))) (hy : ev F y = some (T.K k)) (hz : ev F z = some v)
    [ht : Und P t (.map kt et)] [hk : Und P kt T.d] [hr : Rm b mo L L2] (hm : MapOf T mo l) : HF P ops N F E M L o (fun _ M' L' => M = M' ∧ ∃ mo', L' = (b, mo') :: L2 ∧ MapOf T mo' (putA k v l)) := hf_of hg fun a w ha hw => by
  obtain ⟨es, clock, rfl, h1, h2, h3⟩ := hm
  have hb := (hw.setRm (b := b) (mo' := .map es clock)).1
  have hgo := MapKept.run_getObj_map (P := P) (w := w) (r := b) hb
  rcases find_key h1 h2 h3 k with ⟨f1, f2, f3⟩ | ⟨j, e, f1, f2, f3, f4⟩
  · refine ⟨undef, _, M, _, .inr ⟨rfl, ?_⟩, (hw.setRm (b := b) (mo' := .map (es.push { key := T.K k, val := v, born := clock }) (clock + 1))).2, rfl, _, rfl, MapOf.lay h1 h2 h3 f2 f3⟩
    have : (Instr.mapUpdate t (.map (some b)) (T.K k) v).run P w = .ok () { w with heap := w.heap.setIfInBounds b (.map (es.push { key := T.K k, val := v, born := clock }) (clock + 1)) } := by
      simp [Instr.mapUpdate, run_underlying ht.h, hgo, run_checkKey hk.h (T.ok k), run_findKey hk.h f1, Result.andThen, run_setObj_map _ hb]
    rcases ho with ho | ho <;> simp [execOp, ho, ha.ev hx, ha.ev hy, ha.ev hz, this]
  · have hj : es[j]? = some e := by simpa using f2
    refine ⟨undef, _, M, _, .inr ⟨rfl, ?_⟩, (hw.setRm (b := b) (mo' := .map (es.modify j fun e => { e with key := T.K k, val := v }) clock)).2, rfl, _, rfl, MapOf.turn h1 h2 h3 hj f3 (fun _ => rfl) rfl⟩
    have : (Instr.mapUpdate t (.map (some b)) (T.K k) v).run P w = .ok () { w with heap := w.heap.setIfInBounds b (.map (es.modify j fun e => { e with key := T.K k, val := v }) clock) } := by
      simp [Instr.mapUpdate, run_underlying ht.h, hgo, run_checkKey hk.h (T.ok k), run_findKey hk.h f1, Result.andThen, hj, f3, run_keyThatStays (T.ok k), run_setObj_map _ hb]
    rcases ho with ho | ho <;> simp [execOp, ho, ha.ev hx, ha.ev hy, ha.ev hz, this]
theorem hMapDelO [DecidableEq κ] (T : KT κ) {t kt kt' et : TypeId} {x y : Operand} {b : Nat} {k : κ} {mo : Obj} {l : List (κ × Value)} {L2 : Lc} (hg : gd ops F o = some true) (ho : o.op = .call { callee := .builtin .delete, args := #[x, y], argTypes := #[t, kt'] }) (hx : ev F x = some (.map (some b))) (hy : ev F y = some (T.K k))
    [ht : Und P t (.map kt et)] [hk : Und P kt T.d] [hr : Rm b mo L L2] (hm : MapOf T mo l) : HF P ops N F E M L o (fun _ M' L' => M = M' ∧ ∃ mo', L' = (b, mo') :: L2 ∧ MapOf T mo' (delA k l)) := hf_of hg fun a w ha hw => by
  obtain ⟨es, clock, rfl, h1, h2, h3⟩ := hm
  have hb := (hw.setRm (b := b) (mo' := .map es clock)).1
  have hgo := MapKept.run_getObj_map (P := P) (w := w) (r := b) hb
  have hn := keys_nodup h1 h3
  rcases find_key h1 h2 h3 k with ⟨f1, f2, f3⟩ | ⟨j, e, f1, f2, f3, f4⟩
  · refine ⟨.tuple #[], _, M, _, .inl ?_, (hw.setRm (b := b) (mo' := .map es clock)).2, rfl, _, rfl, es, clock, rfl, h1, h2, by rw [delA_new (getA_none.1 f2)]; exact h3⟩
    simp [execOp, ho, resolve, invoke, builtin, Builtin.delete_, ha.ev hx, ha.ev hy, run_underlying ht.h, hgo, run_checkKey hk.h (T.ok k), run_findKey hk.h f1, Result.andThen, run_setObj_map _ hb]
  · have hj : es[j]? = some e := by simpa using f2
    have hjl := (Array.getElem?_eq_some_iff.1 hj).1
    refine ⟨.tuple #[], _, M, _, .inl ?_, (hw.setRm (b := b) (mo' := .map (es.eraseIdxIfInBounds j) clock)).2, rfl, _, rfl, _, clock, rfl, stamped_erase h1 _, ?_, ?_⟩
    · simp [execOp, ho, resolve, invoke, builtin, Builtin.delete_, ha.ev hx, ha.ev hy, run_underlying ht.h, hgo, run_checkKey hk.h (T.ok k), run_findKey hk.h f1, Result.andThen, run_setObj_map _ hb]
    · intro x hx'
      have hs' : (es.eraseIdxIfInBounds j).toList.Sublist es.toList := by
        unfold Array.eraseIdxIfInBounds
        rw [dif_pos hjl]
        simp only [Array.toList_eraseIdx]; exact List.eraseIdx_sublist _ _
      exact h2 x (hs'.subset hx')
    · obtain ⟨A, B, rfl, hA⟩ := getA_split f4
      rw [delA_mid hn]
      have e1 : (es.eraseIdxIfInBounds j).toList = es.toList.eraseIdx j := by
        unfold Array.eraseIdxIfInBounds; rw [dif_pos hjl]; simp
      rw [e1]
      have e5 : es.toList.Perm (e :: es.toList.eraseIdx j) := by
        have : es.toList[j] = e := (List.getElem?_eq_some_iff.1 f2).2
        rw [← this]; exact (erase_perm es.toList j (by simpa using hjl))
      have h6 := (e5.map kv).symm.trans h3
      have h7 : (encK T (A ++ (k, e.val) :: B)).Perm (kv e :: encK T (A ++ B)) := by
        have : kv e = (T.K k, e.val) := by rw [← f3]
        rw [this]; simp only [encK, List.map_append, List.map_cons]; exact List.perm_middle
      exact (h6.trans h7).cons_inv
theorem hMapEntryO [DecidableEq κ] (T : KT κ) {t kt et : TypeId} {x y : Operand} {b : Nat} {k : κ} {mo : Obj} {l : List (κ × Value)} {z : Value} {L2 : Lc} (hg : gd ops F o = some true) (ho : o.op = .mapEntry t x y) (hx : ev F x = some (.map (some b))) (hy : ev F y = some (T.K k))
    [ht : Und P t (.map kt et)] [hk : Und P kt T.d] (he : (P.info? et).bind (·.zero) = some z) [hr : Rm b mo L L2] (hm : MapOf T mo l) : HF P ops N F E M L o (fun v M' L' => M = M' ∧ ∃ mo' born, L' = (b, mo') :: L2 ∧ v = .tuple #[(getA k l).getD z, .int .i64 born] ∧ MapOf T mo' (putA k ((getA k l).getD z) l) ∧ StampOf T mo' born k) := hf_of hg fun a w ha hw => by
  obtain ⟨es, clock, rfl, h1, h2, h3⟩ := hm
  have hb := (hw.setRm (b := b) (mo' := .map es clock)).1
  have hgo := MapKept.run_getObj_map (P := P) (w := w) (r := b) hb
  rcases find_key h1 h2 h3 k with ⟨f1, f2, f3⟩ | ⟨j, e, f1, f2, f3, f4⟩
  · refine ⟨_, _, M, _, .inl ?_, (hw.setRm (b := b) (mo' := .map (es.push { key := T.K k, val := z, born := clock }) (clock + 1))).2, rfl, _, (clock : Int), rfl, rfl, by rw [f2]; exact MapOf.lay h1 h2 h3 f2 f3, _, _, { key := T.K k, val := z, born := clock }, rfl, List.mem_append_right _ (List.mem_singleton.2 rfl) |> (by rw [Array.toList_push]; exact ·), rfl, rfl⟩
    simp [execOp, ho, Instr.mapEntry, ha.ev hx, ha.ev hy, run_underlying ht.h, hgo, run_checkKey hk.h (T.ok k), run_findKey hk.h f1, Result.andThen, zero_run he w, run_setObj_map _ hb, goInt, f2]
  · have hj : es[j]? = some e := by simpa using f2
    refine ⟨_, _, M, _, .inl ?_, (hw.setRm (b := b) (mo' := .map (es.modify j fun e => { e with key := T.K k }) clock)).2, rfl, _, (e.born : Int), rfl, rfl, by rw [f4]; exact MapOf.turn h1 h2 h3 hj f3 (fun _ => rfl) rfl, _, _, { e with key := T.K k }, rfl, ?_, rfl, rfl⟩
    · simp [execOp, ho, Instr.mapEntry, ha.ev hx, ha.ev hy, run_underlying ht.h, hgo, run_checkKey hk.h (T.ok k), run_findKey hk.h f1, Result.andThen, hj, f3, run_keyThatStays (T.ok k), run_setObj_map _ hb, goInt, f4]
    · have hm2 : (es.modify j fun e => { e with key := T.K k })[j]? = some { e with key := T.K k } := by rw [Array.getElem?_modify, if_pos rfl, hj]; rfl
      exact Array.mem_toList_iff.2 (Array.mem_of_getElem? hm2)
theorem hEntryStoreO [DecidableEq κ] (T : KT κ) {t : TypeId} {x y z : Operand} {b : Nat} {k : κ} {born : Int} {v : Value} {mo : Obj} {l : List (κ × Value)} {L2 : Lc} (hg : gd ops F o = some true) (ho : o.op = .entryStore t x y z) (hx : ev F x = some (.map (some b))) (hy : ev F y = some (.int .i64 born)) (hz : ev F z = some v)
    [hr : Rm b mo L L2] (hm : MapOf T mo l) (hst : StampOf T mo born k) : HF P ops N F E M L o (fun _ M' L' => M = M' ∧ ∃ mo', L' = (b, mo') :: L2 ∧ MapOf T mo' (putA k v l)) := hf_of hg fun a w ha hw => by
  obtain ⟨es, clock, rfl, h1, h2, h3⟩ := hm
  obtain ⟨es', clock', e, e0, g1, g2, g3⟩ := hst
  cases e0
  have hb := (hw.setRm (b := b) (mo' := .map es clock)).1
  have hgo := MapKept.run_getObj_map (P := P) (w := w) (r := b) hb
  obtain ⟨j, hj⟩ : ∃ j, es.findIdx? (fun e => (e.born : Int) == born) = some j := by
    cases hf : es.findIdx? (fun e => (e.born : Int) == born) with
    | some j => exact ⟨j, rfl⟩
    | none =>
      have := Array.findIdx?_eq_none_iff.1 hf e (Array.mem_toList_iff.1 g1)
      simp [g2] at this
  have hj2 := Array.findIdx?_eq_some_iff_getElem.1 hj
  obtain ⟨hjl, hjb, _⟩ := hj2
  have hjb2 : ((es[j]).born : Int) = born := by simpa using hjb
  have hje : es[j] = e := born_inj h1.2.1 (by simp) g1 (by omega)
  have hj3 : es[j]? = some e := by rw [Array.getElem?_eq_getElem hjl, hje]
  refine ⟨undef, _, M, _, .inr ⟨rfl, ?_⟩, (hw.setRm (b := b) (mo' := .map (es.modify j fun e => { e with val := v }) clock)).2, rfl, _, rfl, MapOf.turn h1 h2 h3 hj3 g3 (fun _ => rfl) (by simp [g3])⟩
  simp [execOp, ho, Instr.entryStore, ha.ev hx, ha.ev hy, ha.ev hz, hgo, Result.andThen, asInt, asIntOf, hj, run_setObj_map _ hb]

/-! ### ranges over maps -/
def IterOf (T : KT κ) (b : Nat) (mo it : Obj) (rem : List (κ × Value)) : Prop := ∃ (es : Array MapEntry) (clock : Nat) (seen : Array Nat), mo = .map es clock ∧ it = .mapIter (some b) clock seen clock ∧ Stamped es clock ∧ (∀ x ∈ es.toList, IsKey T.d x.key) ∧ ((leftOf es seen).toList.map kv).Perm (encK T rem)
def CurOf (T : KT κ) (b : Nat) (mo it : Obj) (k : κ) (u : Value) : Prop := ∃ (es : Array MapEntry) (clock : Nat) (seen : Array Nat) (e : MapEntry), mo = .map es clock ∧ it = .mapIter (some b) clock (seen.push e.born) clock ∧ (es.toList.map (·.born)).Nodup ∧ e ∈ es.toList ∧ e.key = T.K k ∧ e.val = u
theorem hRangeMap (T : KT κ) {t kt et : TypeId} {x : Operand} {b : Nat} {mo : Obj} {l : List (κ × Value)} (hg : gd ops F o = some true) (ho : o.op = .range t x) (hx : ev F x = some (.map (some b))) [ht : Und P t (.map kt et)] (hb : OJ M L b mo) (hm : MapOf T mo l) :
    HF P ops N F E M L o (fun v M' L' => ∃ r it, v = .pointer (some ⟨r, 0, none⟩) ∧ M = M' ∧ L' = (r, it) :: L ∧ IterOf T b mo it l) := hf_of hg fun a w ha hw => by
  obtain ⟨es, clock, rfl, h1, h2, h3⟩ := hm
  have hr := run_range_map (P := P) w t kt et b es clock ht.h (hb.heap hw.js)
  refine ⟨_, _, M, _, .inl ?_, hw.alloc (.mapIter (some b) clock #[] clock), _, _, rfl, rfl, rfl, es, clock, #[], rfl, rfl, h1, h2, ?_⟩
  · simp [execOp, ho, ha.ev hx, hr]
  · have : leftOf es #[] = es := by unfold leftOf; rw [Array.filter_eq_self]; intro x _; simp
    rw [this]; exact h3
theorem hNextMap (T : KT κ) {x : Operand} {r b : Nat} {mo it : Obj} {rem : List (κ × Value)} {L2 : Lc} (hg : gd ops F o = some true) (ho : o.op = .next x false) (hx : ev F x = some (.pointer (some ⟨r, 0, none⟩))) [hr : Rm r it L L2] (hb : OJ M L2 b mo) (hi : IterOf T b mo it rem) :
    HF P ops N F E M L o (fun v M' L' => M = M' ∧ ((rem = [] ∧ v = .tuple #[.bool false] ∧ L' = (r, it) :: L2) ∨ ∃ k u rem' it', rem.Perm ((k, u) :: rem') ∧ v = .tuple #[.bool true, T.K k, u] ∧ L' = (r, it') :: L2 ∧ IterOf T b mo it' rem' ∧ CurOf T b mo it' k u)) := hf_of hg fun a w ha hw => by
  obtain ⟨es, clock, seen, rfl, rfl, h1, h2, h3⟩ := hi
  have hw' := hw.perm hr.perm
  have hrr : w.heap[r]? = some (.mapIter (some b) clock seen clock) := (hw'.locs (r, .mapIter (some b) clock seen clock) (by simp)).1
  have hbb : w.heap[b]? = some (.map es clock) := hb.elim (hw.agree _ _) (fun hm => (hw'.locs (b, .map es clock) (List.mem_cons_of_mem _ hm)).1)
  rcases run_next_at (P := P) w o.type r b clock clock seen es clock hrr hbb (fun x hx => h1.1 x hx) (Nat.le_refl _) with ⟨g1, g2⟩ | ⟨e, g1, w1, g2, g3⟩
  · refine ⟨_, _, M, _, .inl (by simp [execOp, ho, ha.ev hx, g2]), hw', rfl, .inl ⟨?_, rfl, rfl⟩⟩
    have : leftOf es seen = #[] := Array.eq_empty_of_size_eq_zero g1
    rw [this] at h3
    have := h3.length_eq
    simp [encK] at this
    exact List.eq_nil_of_length_eq_zero this.symm
  · have hml := mem_left g1
    have hm : kv e ∈ encK T rem := h3.mem_iff.1 (List.mem_map.2 ⟨e, g1, rfl⟩)
    obtain ⟨p, hp1, hpe⟩ := List.mem_map.1 hm
    obtain ⟨A, B, rfl⟩ := List.append_of_mem hp1
    have hk : e.key = T.K p.1 := (congrArg Prod.fst hpe).symm
    have hv : e.val = p.2 := (congrArg Prod.snd hpe).symm
    have hw1 : St E M ((r, .mapIter (some b) clock seen clock) :: L2) w1 := by rcases g2 with rfl | rfl <;> exact { hw' with }
    have hr1 : w1.heap[r]? = some (.mapIter (some b) clock seen clock) := (hw1.locs (r, .mapIter (some b) clock seen clock) (by simp)).1
    have hset : St E M ((r, .mapIter (some b) clock (seen.push e.born) clock) :: L2) (Go.ChangeMaps.setBlock w1 r (.mapIter (some b) clock (seen.push e.born) clock)) :=
      St.setObj (A := []) (B := L2) hw1 rfl rfl rfl (by simp [Go.ChangeMaps.setBlock]) (heap_set hr1).1 (fun k hk => (heap_set hr1).2 k hk)
    refine ⟨_, _, M, _, .inl (by simp [execOp, ho, ha.ev hx, g3]; rfl), hset, rfl, .inr ⟨p.1, p.2, A ++ B, _, List.perm_middle, by rw [← hk, ← hv], rfl, ⟨es, clock, seen.push e.born, rfl, rfl, h1, h2, ?_⟩, es, clock, seen, e, rfl, rfl, h1.2.1, hml.1, hk, hv⟩⟩
    have e1 : ∀ s, (leftOf es s).toList = es.toList.filter fun e => !s.contains e.born := fun s => by unfold leftOf; rw [Array.toList_filter]
    have e2 : (es.toList.filter fun e => !seen.contains e.born).Perm (e :: es.toList.filter fun x => !(seen.push e.born).contains x.born) := by
      have hin : e ∈ es.toList := hml.1
      have hnot : (!seen.contains e.born) = true := by rw [hml.2]; rfl
      obtain ⟨X, Y, hXY⟩ := List.append_of_mem hin
      have hnd := h1.2.1
      rw [hXY] at hnd ⊢
      rw [List.map_append, List.map_cons] at hnd
      have hnd2 := List.nodup_append.1 hnd
      have hY := (List.nodup_cons.1 hnd2.2.1).1
      have fX : ∀ Z : List MapEntry, (∀ z ∈ Z, z.born ≠ e.born) → Z.filter (fun x => !(seen.push e.born).contains x.born) = Z.filter (fun x => !seen.contains x.born) := fun Z hZ => List.filter_congr fun z hz => by
        rw [contains_push]
        have : (z.born == e.born) = false := by simpa using hZ z hz
        simp [this]
      rw [List.filter_append, List.filter_cons, if_pos hnot, List.filter_append, List.filter_cons]
      have hself : (!(seen.push e.born).contains e.born) = false := by rw [contains_push]; simp
      rw [hself, fX X (fun z hz hb => hnd2.2.2 z.born (List.mem_map.2 ⟨z, hz, rfl⟩) e.born (by simp) hb), fX Y (fun z hz hb => hY (by rw [← hb]; exact List.mem_map.2 ⟨z, hz, rfl⟩))]
      simp only [Bool.false_eq_true, if_false]
      exact List.perm_middle
    rw [e1] at h3 ⊢
    have h6 := (e2.map kv).symm.trans h3
    have h7 : (encK T (A ++ p :: B)).Perm (kv e :: encK T (A ++ B)) := by
      rw [← hpe]; simp only [encK, List.map_append, List.map_cons]; exact List.perm_middle
    exact (h6.trans h7).cons_inv
theorem qEntryO (T : KT κ) {x : Operand} {r b : Nat} {mo it : Obj} {k : κ} {u : Value} (hg : gd ops F o = some true) (ho : o.op = .entry x) (hx : ev F x = some (.pointer (some ⟨r, 0, none⟩))) (hr : OJ M L r it) (hb : OJ M L b mo) (hc : CurOf T b mo it k u) : QF P ops N F M L o (.tuple #[T.K k, u]) := qf_of hg fun a ha w hw => by
  obtain ⟨es, clock, seen, e, rfl, rfl, h1, h2, h3, h4⟩ := hc
  have := run_entry_at (P := P) w r b clock seen es clock e (hr.heap hw) (hb.heap hw) h2 h1
  simp [execOp, ho, ha.ev hx, this, h3, h4]
end
end Go.Proofs.YtdjaehgadehnfaaGreatDoor
