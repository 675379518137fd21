/- THE WALKING LAYER, sixth part: slices that are read, blocks that are written no more. No statement of the seat is proved here. -/
import Derived.Test.YtdjaehgadehnfaaGreatDoorHe
import Derived.WalkSpells
namespace Go.Proofs.YtdjaehgadehnfaaGreatDoor
set_option linter.unusedVariables false
set_option linter.unusedSimpArgs false
open Go.RowKit

/-- a cell of memory that is written no more -/
def CM (M : Mem) (b off : Nat) (v : Value) : Prop := ∃ c e fz, M b = some (.cells c e fz) ∧ c[off]? = some v
theorem CM.cj {M : Mem} {b off : Nat} {v : Value} (h : CM M b off v) (L : Lc) : CJ M L b off v := by
  obtain ⟨c, e, fz, h1, h2⟩ := h; exact ⟨c, e, fz, .inl h1, h2⟩
theorem CM.mono {M M' : Mem} {b off : Nat} {v : Value} (h : CM M b off v) (hM : MLe M M') : CM M' b off v := by
  obtain ⟨c, e, fz, h1, h2⟩ := h; exact ⟨c, e, fz, hM _ _ h1, h2⟩
/-- the cells of a slice that is read -/
def SM (M : Mem) (a : Option Addr) (cs : List Value) : Prop := cs = [] ∨ ∃ b off, a = some ⟨b, off, none⟩ ∧ ∀ i u, cs[i]? = some u → CM M b (off + i) u
theorem SM.mono {M M' : Mem} {a : Option Addr} {cs : List Value} (h : SM M a cs) (hM : MLe M M') : SM M' a cs := by
  rcases h with h | ⟨b, off, h1, h2⟩
  · exact .inl h
  · exact .inr ⟨b, off, h1, fun i u hu => (h2 i u hu).mono hM⟩
theorem SM.nil {M : Mem} {a : Option Addr} : SM M a [] := .inl rfl
theorem SM.sj {M : Mem} {a : Option Addr} {cs : List Value} (h : SM M a cs) (L : Lc) : SJ M L a cs := by
  rcases h with h | ⟨b, off, h1, h2⟩
  · exact .inl h
  · exact .inr ⟨b, off, h1, fun i u hu => (h2 i u hu).cj L⟩
/-- opened where it is not empty -/
theorem SM.open {M : Mem} {a : Option Addr} {cs : List Value} (h : SM M a cs) (hne : cs ≠ []) : ∃ b off, a = some ⟨b, off, none⟩ ∧ ∀ i u, cs[i]? = some u → CM M b (off + i) u :=
  h.resolve_left hne
/-- a part of it -/
theorem SM.part {M : Mem} {a : Option Addr} {cs : List Value} (h : SM M a cs) {l m s : Nat} (hlm : l < m) (k : Nat) : SM M (slA a l m s) ((cs.drop (l * s)).take k) := by
  rcases h with rfl | ⟨b, off, rfl, h2⟩
  · left; simp
  · right
    refine ⟨b, off + l * s, slA_some hlm, fun i u hu => ?_⟩
    rw [List.getElem?_take] at hu
    split at hu
    · rw [List.getElem?_drop] at hu
      have := h2 _ _ hu
      rwa [← Nat.add_assoc] at this
    · cases hu

/-- one block, taken out -/
class Rm (g : Nat) (ob : outParam Obj) (L : Lc) (L2 : outParam Lc) : Prop where
  perm : L.Perm ((g, ob) :: L2)
instance (priority := high) Rm.head {g : Nat} {ob : Obj} {L : Lc} : Rm g ob ((g, ob) :: L) L := ⟨List.Perm.refl _⟩
instance Rm.tail {g : Nat} {ob : Obj} {p : Nat × Obj} {L L2 : Lc} [h : Rm g ob L L2] : Rm g ob (p :: L) (p :: L2) := ⟨(List.Perm.cons p h.perm).trans (List.Perm.swap _ _ _)⟩
instance Rm.right {g : Nat} {ob : Obj} {R L L2 : Lc} [h : Rm g ob L L2] : Rm g ob (R ++ L) (R ++ L2) := ⟨(List.Perm.append_left R h.perm).trans List.perm_middle⟩

theorem flat_get {α : Type} (f : α → List Value) (s : Nat) (hf : ∀ x, (f x).length = s) : ∀ (l : List α) (i j : Nat), j < s → (l.flatMap f)[i * s + j]? = (l[i]?).bind fun x => (f x)[j]?
  | [], i, j, _ => by simp
  | x :: l, 0, j, hj => by
    simp only [List.flatMap_cons, Nat.zero_mul, Nat.zero_add, List.getElem?_cons_zero, Option.bind_some]
    rw [List.getElem?_append_left (by rw [hf]; exact hj)]
  | x :: l, i + 1, j, hj => by
    simp only [List.flatMap_cons, List.getElem?_cons_succ]
    rw [List.getElem?_append_right (by rw [hf, Nat.add_mul]; omega), hf]
    have : (i + 1) * s + j - s = i * s + j := by rw [Nat.add_mul]; omega
    rw [this]
    exact flat_get f s hf l i j hj
theorem flat_len {α : Type} (f : α → List Value) (s : Nat) (hf : ∀ x, (f x).length = s) (l : List α) : (l.flatMap f).length = l.length * s := by
  induction l with
  | nil => simp
  | cons x l ih => simp [List.flatMap_cons, ih, hf, Nat.add_mul]; omega

theorem flat_cm {α : Type} (f : α → List Value) (s : Nat) (hf : ∀ x, (f x).length = s) {l : List α} {M : Mem} {b off k : Nat} {x : α} (hc : ∀ i u, (l.flatMap f)[i]? = some u → CM M b (off + i) u) (hk : l[k]? = some x) : ∀ i v, (f x)[i]? = some v → CM M b (off + k * s + i) v := fun i v hv => by
  have hi : i < s := by rw [← hf x]; exact (List.getElem?_eq_some_iff.1 hv).1
  have := hc (k * s + i) v (by rw [flat_get f s hf l k i hi, hk]; exact hv)
  rwa [← Nat.add_assoc] at this

section
variable {P : Program} {ops : Array Oper} {N : Fs} {F : Fr} {W : World} {X : List Nat} {M0 M : Mem} {L : Lc} {o : Oper} {Q : Exit → Act → World → Prop} {rest : List Oper}

theorem St.freeze' {g : Nat} {ob : Obj} (hg : g ∉ X) {w : World} (h : St ⟨W, X, M0⟩ M ((g, ob) :: L) w) : St ⟨W, X, M0⟩ (M.set g ob) L w ∧ MLe M (M.set g ob) ∧ (M.set g ob) g = some ob :=
  ⟨(h.freeze hg).1, (h.freeze hg).2, by simp [Mem.set]⟩
/-- a block is written no more -/
theorem jl_freeze {ob : Obj} {L2 : Lc} (g : Nat) [hp : Rm g ob L L2] (hg : g ∉ X) (h : ∀ M', MLe M M' → M' g = some ob → JL P ops N Q rest F ⟨W, X, M0⟩ M' L2) : JL P ops N Q rest F ⟨W, X, M0⟩ M L := by
  intro a w ha hw
  obtain ⟨h1, h2, h3⟩ := St.freeze' hg (hw.perm hp.perm)
  exact h _ h2 h3 a w ha h1
/-- .. where the caller's blocks are still there -/
theorem jl_freezeX {ob : Obj} {L2 : Lc} (g : Nat) [hp : Rm g ob L L2] (hg : ∀ x ∈ X, x ∈ L2.map (·.1)) (h : ∀ M', MLe M M' → M' g = some ob → JL P ops N Q rest F ⟨W, X, M0⟩ M' L2) : JL P ops N Q rest F ⟨W, X, M0⟩ M L := by
  intro a w ha hw
  have hw' := hw.perm hp.perm
  have hn : g ∉ X := fun hx => (List.nodup_cons.1 hw'.nodup).1 (hg g hx)
  obtain ⟨h1, h2, h3⟩ := St.freeze' hn hw'
  exact h _ h2 h3 a w ha h1
theorem jc_freeze {c : Code} {ob : Obj} {L2 : Lc} (g : Nat) [hp : Rm g ob L L2] (hg : g ∉ X) (h : ∀ M', MLe M M' → M' g = some ob → JC P N c F ⟨W, X, M0⟩ M' L2 Q) : JC P N c F ⟨W, X, M0⟩ M L Q := by
  intro a w ha hw
  obtain ⟨h1, h2, h3⟩ := St.freeze' hg (hw.perm hp.perm)
  exact h _ h2 h3 a w ha h1
theorem jq_freeze {ex : Exit} {ob : Obj} {L2 : Lc} (g : Nat) [hp : Rm g ob L L2] (hg : g ∉ X) (h : ∀ M', MLe M M' → M' g = some ob → JQ N ex F ⟨W, X, M0⟩ M' L2 Q) : JQ N ex F ⟨W, X, M0⟩ M L Q := by
  intro a w ha hw
  obtain ⟨h1, h2, h3⟩ := St.freeze' hg (hw.perm hp.perm)
  exact h _ h2 h3 a w ha h1
theorem Own.freeze {v : Value} {R : Lc} {e : TypeId} {size n : Nat} {xs : List Value} (ho : Own v R e size n xs) (hg : ∀ p ∈ R, p.1 ∉ X) {w : World} (h : St ⟨W, X, M0⟩ M (R ++ L) w) : ∃ M' a cap, MLe M M' ∧ v = .slice a n cap ∧ n ≤ cap ∧ SM M' a xs ∧ St ⟨W, X, M0⟩ M' L w := by
  rcases ho.2 with ⟨rfl, rfl, rfl⟩ | ⟨g, cap, cur, rfl, rfl, h1, h2, h3, h4⟩
  · have : xs = [] := List.eq_nil_of_length_eq_zero (by simpa using ho.1)
    subst this
    exact ⟨M, none, 0, MLe.refl _, rfl, Nat.le_refl _, .inl rfl, h⟩
  · obtain ⟨k1, k2, k3⟩ := St.freeze' (hg (g, .cells cur e (0, 0)) (by simp)) h
    refine ⟨_, _, cap, k2, rfl, h1, .inr ⟨g, 0, rfl, fun i u hu => ⟨cur, e, (0, 0), k3, ?_⟩⟩, k1⟩
    rw [← h4, List.getElem?_take] at hu
    split at hu
    · simpa using hu
    · cases hu
theorem jl_own {v : Value} {R L2 : Lc} {e : TypeId} {size n : Nat} {xs : List Value} (ho : Own v R e size n xs) [hp : Pick R L L2] (hg : ∀ p ∈ R, p.1 ∉ X)
    (h : ∀ M' a cap, MLe M M' → v = .slice a n cap → n ≤ cap → SM M' a xs → JL P ops N Q rest F ⟨W, X, M0⟩ M' L2) : JL P ops N Q rest F ⟨W, X, M0⟩ M L := by
  intro a w ha hw
  obtain ⟨M', ad, cap, k1, k2, k3, k4, k5⟩ := ho.freeze hg (hw.perm hp.perm)
  exact h M' ad cap k1 k2 k3 k4 a w ha k5
theorem jc_own {c : Code} {v : Value} {R L2 : Lc} {e : TypeId} {size n : Nat} {xs : List Value} (ho : Own v R e size n xs) [hp : Pick R L L2] (hg : ∀ p ∈ R, p.1 ∉ X)
    (h : ∀ M' a cap, MLe M M' → v = .slice a n cap → n ≤ cap → SM M' a xs → JC P N c F ⟨W, X, M0⟩ M' L2 Q) : JC P N c F ⟨W, X, M0⟩ M L Q := by
  intro a w ha hw
  obtain ⟨M', ad, cap, k1, k2, k3, k4, k5⟩ := ho.freeze hg (hw.perm hp.perm)
  exact h M' ad cap k1 k2 k3 k4 a w ha k5
theorem jc_drop {c : Code} {L' : Lc} (hs : L'.Sublist L) (h : JC P N c F ⟨W, X, M0⟩ M L' Q) : JC P N c F ⟨W, X, M0⟩ M L Q := fun a w ha hw => h a w ha (hw.fewer hs)
theorem jl_drop {L' : Lc} (hs : L'.Sublist L) (h : JL P ops N Q rest F ⟨W, X, M0⟩ M L') : JL P ops N Q rest F ⟨W, X, M0⟩ M L := fun a w ha hw => h a w ha (hw.fewer hs)
theorem jq_own {ex : Exit} {v : Value} {R L2 : Lc} {e : TypeId} {size n : Nat} {xs : List Value} (ho : Own v R e size n xs) [hp : Pick R L L2] (hg : ∀ p ∈ R, p.1 ∉ X)
    (h : ∀ M' a cap, MLe M M' → v = .slice a n cap → n ≤ cap → SM M' a xs → JQ N ex F ⟨W, X, M0⟩ M' L2 Q) : JQ N ex F ⟨W, X, M0⟩ M L Q := by
  intro a w ha hw
  obtain ⟨M', ad, cap, k1, k2, k3, k4, k5⟩ := ho.freeze hg (hw.perm hp.perm)
  exact h M' ad cap k1 k2 k3 k4 a w ha k5
theorem Own.form {v : Value} {R : Lc} {e : TypeId} {size n : Nat} {xs : List Value} (ho : Own v R e size n xs) : ∃ a cap, v = .slice a n cap := by
  rcases ho.2 with ⟨h, rfl, _⟩ | ⟨g, cap, cur, h, _⟩
  · exact ⟨none, 0, h⟩
  · exact ⟨_, cap, h⟩
theorem Own.open {v : Value} {R : Lc} {e : TypeId} {size n : Nat} {xs : List Value} (ho : Own v R e size n xs) (hn : 0 < n) : ∃ g cap cur, v = .slice (some ⟨g, 0, none⟩) n cap ∧ R = [(g, .cells cur e (0, 0))] ∧ n ≤ cap ∧ cap ≤ maxLen ∧ cur.size = cap * size ∧ cur.toList.take (n * size) = xs := by
  rcases ho.2 with ⟨_, h, _⟩ | h
  · omega
  · exact h
theorem Own.cj {g n cap : Nat} {R : Lc} {e : TypeId} {size : Nat} {xs : List Value} (ho : Own (.slice (some ⟨g, 0, none⟩) n cap) R e size n xs) (hR : ∀ p ∈ R, p ∈ L) {i : Nat} {u : Value} (hu : xs[i]? = some u) : CJ M L g i u := by
  rcases ho.2 with ⟨h, _, _⟩ | ⟨g', cap', cur, hv, rfl, h1, h2, h3, h4⟩
  · cases h
  · cases hv
    refine ⟨cur, e, (0, 0), .inr (hR _ (by simp)), ?_⟩
    rw [← h4, List.getElem?_take] at hu
    split at hu
    · simpa using hu
    · cases hu
/-- a store into a slice of one's own -/
theorem hStoreOwn {E : Ent} {t : TypeId} {x y : Operand} {u v : Value} {g k size n : Nat} {R L2 : Lc} {e : TypeId} {xs : List Value} {by_ : Nat} {z : List Value} (hg : gd ops F o = some true) (ho : o.op = .store t x y) (hx : ev F x = some (.pointer (some ⟨g, k, none⟩))) (hy : ev F y = some u)
    [hl : Lay P t 1 by_ z] (hc : u.cells = #[u]) (h1 : u.oneCell' = true) (hown : Own v R e size n xs) (hb : v.ownBlock = some g) (hk : k < n * size) [hp : Pick R L L2] :
    HF P ops N F E M L o (fun _ M' L' => M = M' ∧ ∃ R', L' = R' ++ L2 ∧ Own v R' e size n (xs.set k u)) := hf_of hg fun a w ha hw => by
  obtain ⟨ti, zv, hi, hi2, _⟩ := hl.info
  have hw' := hw.perm hp.perm
  have hn : 0 < n := by rcases Nat.eq_zero_or_pos n with h | h; · subst h; simp at hk
                        · exact h
  obtain ⟨g', cap, cur, rfl, rfl, k1, k2, k3, k4⟩ := hown.open hn
  have : g' = g := by simpa [Value.ownBlock] using hb
  subst this
  have hbk := (hw'.locs (g', .cells cur e (0, 0)) (by simp)).1
  have hkc : k < cur.size := by rw [k3]; exact Nat.lt_of_lt_of_le hk (Nat.mul_le_mul_right _ k1)
  have hst := run_storeCells_at P g' k e [u] 0 cur w hbk (by simp; omega) (by simp [h1])
  have hpa : PutAt g' (.cells cur e (0, 0)) (.cells (cur.toList.take (k + 0) ++ [u] ++ cur.toList.drop (k + 0 + [u].length)).toArray e (0, 0)) ([(g', Obj.cells cur e (0, 0))] ++ L2) ([(g', .cells (cur.toList.take (k + 0) ++ [u] ++ cur.toList.drop (k + 0 + [u].length)).toArray e (0, 0))] ++ L2) := ⟨[], L2, rfl, rfl⟩
  refine ⟨undef, _, M, _, .inr ⟨rfl, ?_⟩, hw'.put hpa, rfl, _, rfl, ?_⟩
  · simp only [execOp, ho, ha.ev hx, ha.ev hy, Instr.storeAt, Instr.sureAddr, storeVar, sizeOf, typeInfo, hi, hi2, hc, Sem.run_bind, run_program, Sem.run_pure, Result.andThen_ok]
    simp [hst]
  · refine ⟨by rw [List.length_set]; exact hown.1, .inr ⟨g', cap, _, rfl, rfl, k1, k2, ?_, ?_⟩⟩
    · simp; omega
    · have e1 : cur.toList.take (k + 0) ++ [u] ++ cur.toList.drop (k + 0 + [u].length) = cur.toList.set k u := by
        rw [List.set_eq_take_append_cons_drop, if_pos (by simpa using hkc)]; simp
      rw [e1, ← k4, ← List.take_set]
/-- what is in a block that is written no more, as a slice -/
theorem SM.of_block {M : Mem} {b : Nat} {l : List Value} {e : TypeId} {fz : Nat × Nat} (h : M b = some (.cells l.toArray e fz)) : SM M (some ⟨b, 0, none⟩) l := .inr ⟨b, 0, rfl, fun i u hu => ⟨_, e, fz, h, by simpa using hu⟩⟩

/-- all of an array -/
theorem qSlAll {x : Operand} {t e : TypeId} {b off n sz by_ : Nat} {z : List Value} (hg : gd ops F o = some true) (ho : o.op = .slice t x none none none) (hx : ev F x = some (.pointer (some ⟨b, off, none⟩))) [ht : Und P t (.array n e)] [hs : Lay P e sz by_ z] : QF P ops N F M L o (.slice (some ⟨b, off, none⟩) n n) :=
  qEq (qSlA hg ho hx (.no _) (.no _) (.no _) ⟨Nat.zero_le _, Nat.le_refl _, Nat.le_refl _⟩ (.inl rfl)) (by simp [slA_zero])
/-- a store over a whole block -/
theorem hStoreA {E : Ent} {t : TypeId} {x y : Operand} {b : Nat} {l cs : List Value} {e : TypeId} {L' : Lc} {sz by_ : Nat} {z : List Value} (hg : gd ops F o = some true) (ho : o.op = .store t x y) (hx : ev F x = some (.pointer (some ⟨b, 0, none⟩))) (hy : ev F y = some (.agg cs.toArray))
    [hl : Lay P t sz by_ z] (hn : cs.length = sz) (h1 : ∀ v ∈ cs, v.oneCell' = true) [at_ : At b (.cells l.toArray e (0, 0)) L] (hfit : l.length = sz) [hp : PutAt b (.cells l.toArray e (0, 0)) (.cells cs.toArray e (0, 0)) L L'] :
    HF P ops N F E M L o (fun _ M' L'' => M = M' ∧ L'' = L') := hf_of hg fun a w ha hw => by
  obtain ⟨ti, v, hi, hi2, _⟩ := hl.info
  have hb := (hw.locs _ at_.mem).1
  refine ⟨undef, _, M, L', .inr ⟨rfl, ?_⟩, hw.put hp, rfl, rfl⟩
  have hst := run_storeCells_at P b 0 e cs 0 l.toArray w hb (by simp; omega) h1
  have hd : List.drop cs.length l = [] := List.drop_eq_nil_of_le (by omega)
  simp only [Nat.add_zero, List.take_zero, List.nil_append, Nat.zero_add, hd, List.append_nil] at hst
  simp [execOp, ho, ha.ev hx, ha.ev hy, Instr.storeAt, Instr.sureAddr, storeVar, sizeOf, typeInfo, hi, hi2, Value.cells, hn, hst]

/-- '==' of two structs or arrays, by its run -/
theorem qEqS {x y : Operand} {t t' : TypeId} {op : BinOp} {xs ys : Array Value} {b : Bool} (hg : gd ops F o = some true) (ho : o.op = .binOp op t x y t') (hx : ev F x = some (.agg xs)) (hy : ev F y = some (.agg ys))
    (hr : ∀ w, (do eqGuard op t x y (.agg xs) (.agg ys); binOp op t (.agg xs) (.agg ys) : Sem Value).run P w = .ok (.bool b) w) : QF P ops N F M L o (.bool b) := qf_of hg fun ac ha w _ => by
  have := hr w
  simp only [execOp, ho, ha.ev hx, ha.ev hy]
  rw [Sem.run_bind, this]; rfl
theorem qEqB {x y : Operand} {t t' : TypeId} {a b : Bool} (hg : gd ops F o = some true) (ho : o.op = .binOp .eql t x y t') (hx : ev F x = some (.bool a)) (hy : ev F y = some (.bool b)) [ht : Und P t .bool] : QF P ops N F M L o (.bool (a == b)) := qf_of hg fun ac ha w _ => by
  have : (binOp .eql t (.bool a) (.bool b)).run P w = .ok (.bool (a == b)) w := by
    show ((do pure (.bool (← Op.equal t (.bool a) (.bool b))) : Sem Value)).run P w = _
    rw [Sem.run_bind, show (Op.equal t (.bool a) (.bool b)).run P w = .ok (a == b) w from run_equalIn_bool' w 9999 t a b ht.h]; rfl
  simp only [execOp, ho, ha.ev hx, ha.ev hy]
  simp [eqGuard, this]
/-- a slice against nil -/
theorem qNil {x y : Operand} {t t' e : TypeId} {a : Option Addr} {n c : Nat} (hg : gd ops F o = some true) (ho : o.op = .binOp .eql t x y t') (hx : ev F x = some (.slice a n c)) (hy : ev F y = some (.slice none 0 0)) [ht : Und P t (.slice e)] : QF P ops N F M L o (.bool a.isNone) := qf_of hg fun ac ha w _ => by
  have := Lib.run_eql_slice_nil (P := P) w t e a n c 0 0 ht.h
  simp only [execOp, ho, ha.ev hx, ha.ev hy]
  simp [eqGuard, this]
end

/-- a struct of integers -/
class AllInt (P : Program) (t : TypeId) (ks : outParam (List IntKind)) : Prop where
  u : P.underlying t = some (.struct (P.fieldsOf t))
  f : (P.fieldsOf t).toList.map (fun f => (f.name != "_", f.offset, P.underlying f.type)) = ks.zipIdx.map fun (k, i) => (true, i, some (.int k))
  s : P.stoodInHeld t = false
  g : P.eqGuardType P.depth t = false
def intCells (ks : List IntKind) (ns : List Int) : List Value := List.zipWith Value.int ks ns
theorem run_eqFields_int {P : Program} (d : Nat) (xs ys : Array Value) (w : World) : ∀ (fs : List Field) (ks : List IntKind) (i : Nat) (ns ms : List Int), ns.length = ks.length → ms.length = ks.length →
    fs.map (fun f => (f.name != "_", f.offset, P.underlying f.type)) = (ks.zipIdx i).map (fun (k, i) => (true, i, some (.int k))) →
    (∀ j v, (intCells ks ns)[j]? = some v → xs[i + j]? = some v) → (∀ j v, (intCells ks ms)[j]? = some v → ys[i + j]? = some v) →
    (Op.eqFields (d + 1) xs ys fs).run P w = .ok (decide (ns = ms)) w
  | [], ks, i, ns, ms, h1, h2, hf, _, _ => by
    have : ks = [] := by cases ks <;> simp at hf ⊢
    subst this
    have e1 : ns = [] := List.eq_nil_of_length_eq_zero h1
    have e2 : ms = [] := List.eq_nil_of_length_eq_zero h2
    subst e1 e2
    simp [Op.eqFields]
  | f :: fs, [], i, ns, ms, h1, h2, hf, _, _ => by simp at hf
  | f :: fs, k :: ks, i, [], ms, h1, h2, hf, _, _ => by simp at h1
  | f :: fs, k :: ks, i, ns, [], h1, h2, hf, _, _ => by simp at h2
  | f :: fs, k :: ks, i, n :: ns, m :: ms, h1, h2, hf, hx, hy => by
    simp only [List.map_cons, List.zipIdx_cons, List.cons.injEq, Prod.mk.injEq] at hf
    obtain ⟨⟨hn, ho, hu⟩, hrest⟩ := hf
    have x0 := hx 0 _ (by simp [intCells]; rfl)
    have y0 := hy 0 _ (by simp [intCells]; rfl)
    simp only [Nat.add_zero] at x0 y0
    have hp : ∀ (cs : Array Value) (v : Value), cs[i]? = some v → (part f.type cs f.offset).run P w = .ok v w := fun cs v hv => by
      simp [part, run_isAgg hu, aggD, ho, hv]
    have hne : f.name ≠ "_" := by simpa using hn
    have ih := run_eqFields_int d xs ys w fs ks (i + 1) ns ms (by simpa using h1) (by simpa using h2) hrest
      (fun j v hv => by have := hx (j + 1) v (by simpa [intCells] using hv); rwa [show i + (j + 1) = i + 1 + j by omega] at this)
      (fun j v hv => by have := hy (j + 1) v (by simpa [intCells] using hv); rwa [show i + (j + 1) = i + 1 + j by omega] at this)
    have hq : (Op.equalIn (d + 1) f.type (.int k n) (.int k m)).run P w = .ok (n == m) w := run_equalIn_int w d f.type k k n m hu
    unfold Op.eqFields
    simp only [hne, ne_eq, not_false_eq_true, if_true, Sem.run_bind, hp xs _ x0, hp ys _ y0, Result.andThen_ok, hq]
    by_cases e : n = m
    · subst e; simp [ih]
    · simp [e]

/-- a struct or an array among two results -/
theorem jrc {P : Program} {fn : Func} {n : Nat} {F : Fr} {E : Ent} {M : Mem} {L : Lc} {post : Value → Mem → Lc → Prop} {t u ty : Nat} {x : Value} {b : Nat} {l : List Value} {e : TypeId} {fz : Nat × Nat} {d : TypeDesc} {sz by_ : Nat} {z : List Value} (hr : fn.results = #[.cell t ty, .tmp u])
    (ht : lk t F = some (.pointer (some ⟨b, 0, none⟩))) (hx : lk u F = some x) [at_ : At b (.cells l.toArray e fz) L] [hd : Und P ty d] [hl : Lay P ty sz by_ z] (ha : aggD d = true) (hn : l.length = sz) (h : post (.tuple #[.agg l.toArray, x]) M L) : JQ ⟨n, [], none⟩ .ret F E M L (retPost P fn E post) := by
  intro a w hac hw
  show LeavesInM _ _ _ _ _ _ a.defers _ _
  rw [show a.defers = [] from hac.defers]
  refine ⟨_, ?_, _, M, L, rfl, h, hw⟩
  have h1 := hac.get t _ ht
  have h2 := hac.get u x hx
  obtain ⟨ti, v, hi, hi2, _⟩ := hl.info
  have hadd : ∀ j, (⟨b, 0, none⟩ : Addr).add j = ⟨b, j, none⟩ := fun j => by unfold Addr.add; split <;> simp_all
  have h3 := run_loadCells_list (P := P) (w := w) ⟨b, 0, none⟩ l (fun j v hv => by rw [hadd]; exact (CJ.loc (M := M) (L := L) (e := e) (fz := fz) hv).cell hw.js)
  simp [results, hr, Array.getD_eq_getD_getElem?, h1, h2, asAddr, loadVar, run_isAgg hd.h, ha, sizeOf, typeInfo, hi, hi2, ← hn, h3]

section
variable {P : Program} {ops : Array Oper} {N : Fs} {F : Fr} {M : Mem} {L : Lc} {o : Oper}
theorem qEqI {x y : Operand} {t t' : TypeId} {ks : List IntKind} {ns ms : List Int} {xs ys : List Value} (hg : gd ops F o = some true) (ho : o.op = .binOp .eql t x y t') (hx : ev F x = some (.agg xs.toArray)) (hy : ev F y = some (.agg ys.toArray)) [h : AllInt P t ks]
    (h1 : xs = intCells ks ns) (h2 : ys = intCells ks ms) (h3 : ns.length = ks.length ∧ ms.length = ks.length) : QF P ops N F M L o (.bool (decide (ns = ms))) := qf_of hg fun ac ha w _ => by
  have hr := run_eqFields_int (P := P) 9998 xs.toArray ys.toArray w _ ks 0 ns ms h3.1 h3.2 h.f (fun j v hv => by simpa [h1] using hv) (fun j v hv => by simpa [h2] using hv)
  have e1 : (binOp .eql t (.agg xs.toArray) (.agg ys.toArray)).run P w = .ok (.bool (decide (ns = ms))) w := by
    rw [run_eql_struct w t, run_equalIn_struct w 9999 t _ _ h.u h.s, hr]; rfl
  simp only [execOp, ho, ha.ev hx, ha.ev hy]
  simp only [Sem.run_bind, run_eqGuard_agg w _ t x y _ _ h.g, Result.andThen_ok, e1, Sem.run_pure]
theorem qNeI {x y : Operand} {t t' : TypeId} {ks : List IntKind} {ns ms : List Int} {xs ys : List Value} (hg : gd ops F o = some true) (ho : o.op = .binOp .neq t x y t') (hx : ev F x = some (.agg xs.toArray)) (hy : ev F y = some (.agg ys.toArray)) [h : AllInt P t ks]
    (h1 : xs = intCells ks ns) (h2 : ys = intCells ks ms) (h3 : ns.length = ks.length ∧ ms.length = ks.length) : QF P ops N F M L o (.bool (decide (¬ ns = ms))) := qf_of hg fun ac ha w _ => by
  have hr := run_eqFields_int (P := P) 9998 xs.toArray ys.toArray w _ ks 0 ns ms h3.1 h3.2 h.f (fun j v hv => by simpa [h1] using hv) (fun j v hv => by simpa [h2] using hv)
  have e1 : (binOp .neq t (.agg xs.toArray) (.agg ys.toArray)).run P w = .ok (.bool (decide (¬ ns = ms))) w := by
    rw [run_neq_struct w t, run_equalIn_struct w 9999 t _ _ h.u h.s, hr]; simp
  simp only [execOp, ho, ha.ev hx, ha.ev hy]
  simp only [Sem.run_bind, run_eqGuard_agg w _ t x y _ _ h.g, Result.andThen_ok, e1, Sem.run_pure]
end
end Go.Proofs.YtdjaehgadehnfaaGreatDoor
