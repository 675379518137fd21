/- Walks: the blocks of a tree, and what its leaves refer to. -/
import Derived.Test.YtkjghgndmpbfiaaGreatZTree
import Derived.Test.YtkjghgndmpbfiaaGreatZSort
namespace Go.Proofs.YtkjghgndmpbfiaaGreat
set_option linter.unusedVariables false
set_option linter.unusedSectionVars false
set_option linter.unusedSimpArgs false
open Go.RowKit

inductive Rch (s : Sto) (k0 : Nat) : Nat → Prop
 | root : Rch s k0 k0
 | kid {n : Nat} {lv : Int} {ys : List It} {x : It} (h : Rch s k0 n) (hnd : ndAt s n = some (lv, ys)) (hl : 0 < lv) (hx : x ∈ ys) : Rch s k0 x.ref.toNat
def LRef (s : Sto) (k0 : Nat) (k : Int) : Prop := k ≠ 0 ∧ ∃ n ys x, Rch s k0 n ∧ ndAt s n = some (0, ys) ∧ x ∈ ys ∧ x.ref = k
theorem Rch.tree {s : Sto} {k0 : Nat} {lev : Nat} {xs : List It} (h0 : 8 ≤ k0 ∧ k0 < 256) (hnd : ndAt s k0 = some ((lev : Int), xs)) (ht : treeOk s lev xs) : ∀ {n : Nat}, Rch s k0 n → (8 ≤ n ∧ n < 256) ∧ ∃ (l : Nat) (ys : List It), ndAt s n = some ((l : Int), ys) ∧ treeOk s l ys := by
 intro n h
 induction h with
 | root => exact ⟨h0, lev, xs, hnd, ht⟩
 | kid h hnd2 hl hx ih =>
  rename_i m lv ys x
  obtain ⟨_, l, zs, h1, h2⟩ := ih
  rw [hnd2] at h1
  obtain ⟨rfl, rfl⟩ : lv = (l : Int) ∧ ys = zs := by simpa using h1
  obtain ⟨l', rfl⟩ : ∃ l', l = l' + 1 := ⟨l - 1, by omega⟩
  obtain ⟨us, h3, _, h4⟩ := tree_child h2 hx
  have hno := ndAt_ok hnd2
  have := hno.up hl x hx
  have := hno.ref x hx
  exact ⟨by omega, l', us, h3, h4⟩
theorem LRef.now {s : Sto} {k0 : Nat} {lev : Nat} {xs : List It} (h0 : 8 ≤ k0 ∧ k0 < 256) (hnd : ndAt s k0 = some ((lev : Int), xs)) (ht : treeOk s lev xs) {k : Int} (h : LRef s k0 k) : 8 ≤ k ∧ k < 256 ∧ ¬ s.now.getD k.toNat 0 = 0 := by
 obtain ⟨hk, n, ys, x, h1, h2, h3, rfl⟩ := h
 obtain ⟨_, l, zs, h4, h5⟩ := Rch.tree h0 hnd ht h1
 rw [h2] at h4
 obtain ⟨h6, rfl⟩ : (0 : Int) = (l : Int) ∧ ys = zs := by simpa using h4
 obtain rfl : l = 0 := by omega
 have hr := (ndAt_ok h2).ref x h3
 have h7 := (goSp_all (h5 (List.ne_nil_of_mem h3)) x h3).1
 simp only [oneOf, Bool.or_eq_true, decide_eq_true_eq] at h7
 refine ⟨by omega, by omega, fun e => ?_⟩
 rw [e] at h7
 rcases h7 with h7 | h7
 ·exact hk h7
 ·exact absurd h7 (by decide)
theorem Rch.now {s : Sto} {k0 : Nat} {lev : Nat} {xs : List It} (h0 : 8 ≤ k0 ∧ k0 < 256) (hnd : ndAt s k0 = some ((lev : Int), xs)) (ht : treeOk s lev xs) {n : Nat} (h : Rch s k0 n) : ¬ s.now.getD n 0 = 0 := by
 obtain ⟨_, l, ys, h1, _⟩ := Rch.tree h0 hnd ht h
 intro e; unfold ndAt at h1; rw [if_pos e] at h1; cases h1

/-! ### the walk's invariant -/
def CL (met held : List (Int × Int)) (lv : Int) (x : It) : Prop := (0 < lv → x.ref ∈ keysL met) ∧ (lv = 0 → x.ref ≠ 0 → x.ref ∈ keysL held)
structure BI (s : Sto) (k0 : Nat) (dn qu : List Int) (met held : List (Int × Int)) (T : Nat) : Prop where
 keys : keysL met = dn ++ qu
 nod : (keysL met).Nodup
 rt : (k0 : Int) ∈ keysL met
 each : ∀ k ∈ keysL met, 8 ≤ k ∧ k < 256 ∧ Rch s k0 k.toNat
 mv : ∀ k ∈ keysL met, 1 ≤ getL k met ∧ getL k met ≤ T
 hnod : (keysL held).Nodup
 hin : ∀ k ∈ keysL held, 8 ≤ k ∧ k < 256 ∧ 1 ≤ getL k held ∧ getL k held ≤ T ∧ LRef s k0 k
 cl : ∀ k ∈ dn, ∀ lv ys, ndAt s k.toNat = some (lv, ys) → ∀ x ∈ ys, CL met held lv x
theorem keys_mem {k v y : Int} {l : List (Int × Int)} : y ∈ keysL (putL k v l) ↔ y ∈ keysL l ∨ y = k := by
 rw [keys_put]
 split
 ·rename_i h; exact ⟨.inl, fun h2 => h2.elim id (fun e => e ▸ h)⟩
 ·simp
theorem keys_nodup {k v : Int} {l : List (Int × Int)} (h : (keysL l).Nodup) : (keysL (putL k v l)).Nodup := by
 rw [keys_put]
 split
 ·exact h
 ·rename_i hk; exact List.nodup_append.2 ⟨h, by simp, fun a ha b hb e => by simp at hb; subst hb; exact hk (e ▸ ha)⟩
theorem get_none {k : Int} : ∀ {l : List (Int × Int)}, k ∉ keysL l → getL k l = 0
 | [], _ => rfl
 | p :: l, h => by
  simp only [keysL, List.map_cons, List.mem_cons, not_or] at h
  rw [getL, if_neg h.1]; exact get_none h.2
theorem small_len {l : List Int} (hn : l.Nodup) (h : ∀ k ∈ l, 8 ≤ k ∧ k < 256) : l.length ≤ 256 := by
 have : l ⊆ (List.range 256).map (fun n : Nat => (n : Int)) := fun k hk => by
  have := h k hk
  exact List.mem_map.2 ⟨k.toNat, List.mem_range.2 (by omega), by omega⟩
 simpa using hn.length_le_of_subset this
section
variable {s : Sto} {k0 : Nat} {dn qu : List Int} {met held : List (Int × Int)} {T : Nat}
theorem CL.mono {met' held' : List (Int × Int)} {lv : Int} {x : It} (h : CL met held lv x) (h1 : ∀ y ∈ keysL met, y ∈ keysL met') (h2 : ∀ y ∈ keysL held, y ∈ keysL held') : CL met' held' lv x := ⟨fun a => h1 _ (h.1 a), fun a b => h2 _ (h.2 a b)⟩
theorem BI.len (h : BI s k0 dn qu met held T) : dn.length + qu.length ≤ 256 := by
 have := small_len h.nod fun k hk => ⟨(h.each k hk).1, (h.each k hk).2.1⟩
 rwa [h.keys, List.length_append] at this
theorem BI.mget (h : BI s k0 dn qu met held T) (k : Int) : 0 ≤ getL k met ∧ getL k met ≤ T ∧ (getL k met = 0 ↔ k ∉ keysL met) := by
 by_cases hk : k ∈ keysL met
 ·have := h.mv k hk; exact ⟨by omega, by omega, by omega, fun h => absurd hk h⟩
 ·rw [get_none hk]; exact ⟨by omega, by omega, by simp [hk]⟩
theorem BI.hget (h : BI s k0 dn qu met held T) (k : Int) : 0 ≤ getL k held ∧ getL k held ≤ T := by
 by_cases hk : k ∈ keysL held
 ·have := h.hin k hk; omega
 ·rw [get_none hk]; omega
theorem BI.more (h : BI s k0 dn qu met held T) : BI s k0 dn qu met held (T + 1) :=
 {h with mv := fun k hk => by have := h.mv k hk; omega, hin := fun k hk => by have := h.hin k hk; exact ⟨this.1, this.2.1, this.2.2.1, by omega, this.2.2.2.2⟩ }
theorem BI.up (h : BI s k0 dn qu met held T) {T' : Nat} (hT : T ≤ T') : BI s k0 dn qu met held T' :=
 {h with mv := fun k hk => by have := h.mv k hk; omega, hin := fun k hk => by have := h.hin k hk; exact ⟨this.1, this.2.1, this.2.2.1, by omega, this.2.2.2.2⟩ }
theorem BI.holds (h : BI s k0 dn qu met held T) {k : Int} (h1 : 8 ≤ k ∧ k < 256) (h2 : LRef s k0 k) : BI s k0 dn qu met (putL k (getL k held + 1) held) (T + 1) :=
 {h.more with
  hnod := keys_nodup h.hnod
  hin := fun y hy => by
   have hg := h.hget k
   rw [get_put]
   split
   ·rename_i e; subst e; exact ⟨h1.1, h1.2, by omega, by omega, h2⟩
   ·rename_i e
    exact h.more.hin y ((keys_mem.1 hy).resolve_right e)
  cl := fun y hy lv ys hnd x hx => (h.cl y hy lv ys hnd x hx).mono (fun _ h => h) (fun _ h => keys_mem.2 (.inl h)) }
theorem BI.again (h : BI s k0 dn qu met held T) {k : Int} (hk : ¬ getL k met + 1 = 1) : BI s k0 dn qu (putL k (getL k met + 1) met) held (T + 1) ∧ k ∈ keysL met := by
 have hk2 : k ∈ keysL met := Classical.byContradiction fun hn => hk (by rw [get_none hn]; rfl)
 have he : keysL (putL k (getL k met + 1) met) = keysL met := by rw [keys_put, if_pos hk2]
 have hg := h.mv k hk2
 refine ⟨{ h.more with keys := by rw [he]; exact h.keys, nod := by rw [he]; exact h.nod, rt := by rw [he]; exact h.rt, each := by rw [he]; exact h.each, mv := fun y hy => ?_, cl := fun y hy lv ys hnd x hx => (h.cl y hy lv ys hnd x hx).mono (fun _ h => he ▸ h) (fun _ h => h) }, hk2⟩
 rw [he] at hy
 rw [get_put]
 split
 ·omega
 ·exact h.more.mv y hy
theorem BI.first (h : BI s k0 dn qu met held T) {k : Int} (hk : getL k met + 1 = 1) (h1 : 8 ≤ k ∧ k < 256) (h2 : Rch s k0 k.toNat) : BI s k0 dn (qu ++ [k]) (putL k (getL k met + 1) met) held (T + 1) := by
 have hk2 : k ∉ keysL met := (h.mget k).2.2.1 (by omega)
 have he : keysL (putL k (getL k met + 1) met) = keysL met ++ [k] := by rw [keys_put, if_neg hk2]
 refine { h.more with keys := by rw [he, h.keys, List.append_assoc], nod := keys_nodup h.nod, rt := keys_mem.2 (.inl h.rt), each := fun y hy => ?_, mv := fun y hy => ?_, cl := fun y hy lv ys hnd x hx => (h.cl y hy lv ys hnd x hx).mono (fun _ h => keys_mem.2 (.inl h)) (fun _ h => h) }
 ·rcases keys_mem.1 hy with hy | rfl
  ·exact h.each y hy
  ·exact ⟨h1.1, h1.2, h2⟩
 ·rw [get_put]
  split
  ·omega
  ·rename_i e; exact h.more.mv y ((keys_mem.1 hy).resolve_right e)
theorem BI.pop {k : Int} (h : BI s k0 dn (k :: qu) met held T) (hc : ∀ lv ys, ndAt s k.toNat = some (lv, ys) → ∀ x ∈ ys, CL met held lv x) : BI s k0 (dn ++ [k]) qu met held T := by
 have hcl : ∀ y ∈ dn ++ [k], ∀ lv ys, ndAt s y.toNat = some (lv, ys) → ∀ x ∈ ys, CL met held lv x := fun y hy lv ys hnd x hx => by
  rcases List.mem_append.1 hy with hy | hy
  ·exact h.cl y hy lv ys hnd x hx
  ·rw [List.mem_singleton.1 hy] at hnd; exact hc lv ys hnd x hx
 have hks : keysL met = (dn ++ [k]) ++ qu := by rw [h.keys]; simp
 exact { h with keys := hks, cl := hcl }
theorem BI.start (h : 8 ≤ k0 ∧ k0 < 256) : BI s k0 [] [(k0 : Int)] [((k0 : Int), 1)] [] 1 where
 keys := rfl
 nod := by simp
 rt := by simp
 each := fun k hk => by simp at hk; subst hk; exact ⟨by omega, by omega, by simpa using Rch.root⟩
 mv := fun k hk => by simp at hk; subst hk; simp [getL]
 hnod := by simp
 hin := fun k hk => by simp at hk
 cl := fun k hk => by simp at hk
end
/-- what is told of a tree -/
structure NdsOk (s : Sto) (k0 : Nat) (ns rs : List Int) : Prop where
 up : ns.Pairwise (· < ·)
 is : ∀ x, x ∈ ns ↔ ∃ n : Nat, x = (n : Int) ∧ Rch s k0 n
 rup : rs.Pairwise (· < ·)
 ris : ∀ x, x ∈ rs ↔ LRef s k0 x
theorem sort_up {l ss : List Int} (hp : ss.Perm l) (hn : l.Nodup) : (ss.mergeSort leI).Pairwise (· < ·) ∧ ∀ x, x ∈ ss.mergeSort leI ↔ x ∈ l := by
 have h1 := List.mergeSort_perm ss leI
 have hnd : (ss.mergeSort leI).Nodup := (h1.trans hp).nodup_iff.2 hn
 have h2 : (ss.mergeSort leI).Pairwise (fun a b => leI a b = true) := List.pairwise_mergeSort (fun a b c h1 h2 => by simp only [leI, decide_eq_true_eq] at *; exact Int.le_trans h1 h2) (fun a b => by simp only [leI, Bool.or_eq_true, decide_eq_true_eq]; exact Int.le_total a b) ss
 refine ⟨?_, fun x => (h1.trans hp).mem_iff⟩
 refine (h2.and hnd).imp fun {a b} h => ?_
 have := h.1
 simp only [leI, decide_eq_true_eq] at this
 have := h.2
 omega
theorem BI.done {s : Sto} {k0 : Nat} {dn : List Int} {met held : List (Int × Int)} {T : Nat} (h : BI s k0 dn [] met held T) (h0 : 8 ≤ k0 ∧ k0 < 256) {lev : Nat} {xs : List It} (hnd : ndAt s k0 = some ((lev : Int), xs)) (ht : treeOk s lev xs) {s1 s2 : List Int} (h1 : s1.Perm (keysL met)) (h2 : s2.Perm (keysL held)) : NdsOk s k0 (s1.mergeSort leI) (s2.mergeSort leI) := by
 obtain ⟨a1, a2⟩ := sort_up h1 h.nod
 obtain ⟨b1, b2⟩ := sort_up h2 h.hnod
 have hdn : ∀ k, k ∈ keysL met → k ∈ dn := fun k hk => by rw [h.keys] at hk; simpa using hk
 have hall : ∀ {n : Nat}, Rch s k0 n → (n : Int) ∈ keysL met := by
  intro n hr
  induction hr with
  | root => exact h.rt
  | kid hr hnd2 hl hx ih =>
   rename_i m lv ys x
   have hno := ndAt_ok hnd2
   have h3 := hno.up hl x hx
   have h4 := hno.ref x hx
   have := (h.cl _ (hdn _ ih) lv ys (by simpa using hnd2) x hx).1 hl
   rwa [Int.toNat_of_nonneg (by omega)]
 refine ⟨a1, fun x => (a2 x).trans ⟨fun hx => ?_, ?_⟩, b1, fun x => (b2 x).trans ⟨fun hx => (h.hin x hx).2.2.2.2, ?_⟩⟩
 ·have := h.each x hx
  exact ⟨x.toNat, by omega, this.2.2⟩
 ·rintro ⟨n, rfl, hr⟩; exact hall hr
 ·rintro ⟨hk, n, ys, x, hr, hnd2, hx, rfl⟩
  exact (h.cl _ (hdn _ (hall hr)) 0 ys (by simpa using hnd2) x hx).2 rfl hk
def IS (M : Mem) (v : Value) (ns : List Int) : Prop := ∃ a c, v = .slice a ns.length c ∧ ns.length ≤ c ∧ SM M a (ns.map encZ)
theorem IS.mono {M M' : Mem} {v : Value} {ns : List Int} (h : IS M v ns) (hM : MLe M M') : IS M' v ns := by
 obtain ⟨a, c, h1, h2, h3⟩ := h; exact ⟨a, c, h1, h2, h3.mono hM⟩
def NdsPost (s : Sto) (root : Int) (u : Value) (M' : Mem) : Prop :=
 if (fchk s root).2 = 0 then ∃ v1 v2 ns rs, u = .tuple #[v1, v2, .int .i64 0] ∧ IS M' v1 ns ∧ IS M' v2 rs ∧ NdsOk s root.toNat ns rs
 else u = .tuple #[.slice none 0 0, .slice none 0 0, .int .i64 (fchk s root).2]
theorem NdsPost.ok {s : Sto} {root : Int} {u : Value} {M' : Mem} (h : NdsPost s root u M') (h0 : (fchk s root).2 = 0) : ∃ v1 v2 ns rs, u = .tuple #[v1, v2, .int .i64 0] ∧ IS M' v1 ns ∧ IS M' v2 rs ∧ NdsOk s root.toNat ns rs := by
 unfold NdsPost at h; rw [if_pos h0] at h; exact h
theorem NdsPost.bad {s : Sto} {root : Int} {u : Value} {M' : Mem} (h : NdsPost s root u M') (h0 : ¬ (fchk s root).2 = 0) : u = .tuple #[.slice none 0 0, .slice none 0 0, .int .i64 (fchk s root).2] := by
 unfold NdsPost at h; rw [if_neg h0] at h; exact h
theorem NdsPost.form {s : Sto} {root : Int} {u : Value} {M' : Mem} (h : NdsPost s root u M') : ∃ a1 n1 c1 a2 n2 c2, u = .tuple #[.slice a1 n1 c1, .slice a2 n2 c2, .int .i64 (fchk s root).2] ∧ n1 ≤ c1 ∧ n2 ≤ c2 ∧ ((fchk s root).2 = 0 → ∃ ns rs : List Int, n1 = ns.length ∧ n2 = rs.length ∧ SM M' a1 (ns.map encZ) ∧ SM M' a2 (rs.map encZ) ∧ NdsOk s root.toNat ns rs) ∧ (¬ (fchk s root).2 = 0 → n1 = 0 ∧ n2 = 0) := by
 by_cases h0 : (fchk s root).2 = 0
 ·obtain ⟨v1, v2, ns, rs, rfl, ⟨a1, c1, rfl, k1, k2⟩, ⟨a2, c2, rfl, k3, k4⟩, hn⟩ := h.ok h0
  exact ⟨a1, _, c1, a2, _, c2, by rw [h0], k1, k3, fun _ => ⟨ns, rs, rfl, rfl, k2, k4, hn⟩, fun h => absurd h0 h⟩
 ·exact ⟨none, 0, 0, none, 0, 0, h.bad h0, Nat.le_refl _, Nat.le_refl _, fun h => absurd h h0, fun _ => ⟨rfl, rfl⟩⟩
theorem mLen {l : List Int} : (l.mergeSort leI).length = l.length := (List.mergeSort_perm l leI).length_eq
theorem slA1 {g off cap : Nat} : slA (some ⟨g, off, none⟩) 1 cap 1 = some ⟨g, if cap = 1 then off else off + 1, none⟩ := by
 by_cases h : cap = 1
 ·subst h; simp [slA]
 ·have hadd : ∀ j, (⟨g, off, none⟩ : Addr).add j = ⟨g, off + j, none⟩ := fun j => by unfold Addr.add; split <;> simp_all
  simp [slA, h, hadd]
theorem Que.le {g off n cap : Nat} {R : Lc} {t : TypeId} {xs : List Value} (h : Que (.slice (some ⟨g, off, none⟩) n cap) R t xs) : n = xs.length ∧ n ≤ cap := by
 obtain ⟨g', off', cap', cur, e, _, _, h2, _, _⟩ := h
 simp only [Value.slice.injEq] at e
 obtain ⟨_, rfl, rfl⟩ := e
 exact ⟨rfl, h2⟩
/-- between two rounds -/
structure Bs where
 g : Nat
 off : Nat
 cap : Nat
 R : Lc
 dn : List Int
 qu : List Int
 met : List (Int × Int)
 held : List (Int × Int)
 M : Mem
structure Bj where
 j : Nat
 g : Nat
 off : Nat
 cap : Nat
 R : Lc
 qu : List Int
 met : List (Int × Int)
 held : List (Int × Int)

theorem keys_walk (b : Nat) (M : Mem) :
  SpecL Tryz.prog 23 #[.map (some b)] M [] fun v M' L' => ∃ c, v = .func (.func 45) #[] #[.pointer (some ⟨c, 0, none⟩)] ∧ M' = M ∧ L' = [(c, .cells [.map (some b)].toArray 64 (0, 0))] := by
 refine spec_body (vs := [_]) 4 _ Tryz.func23 rfl Tryz.ntmps23 rfl rfl ?_; intro W
 refine jc_seq ?_
 refine jc_region ?_
 refine jl_h rfl rfl (hBox (cs := [.map (some b)]) rfl rfl rfl rfl) ?_; rintro _ _ _ ⟨b1, rfl, rfl, rfl⟩
 refine jp rfl ?_
 refine jl_nil ?_
 refine jT ?_
 refine jc_seq ?_
 refine jc_region ?_
 iterate 2 refine jp rfl ?_
 refine jl_nil ?_
 refine jT ?_
 refine jc_ret ?_
 refine jr1 rfl rfl ?_
 exact ⟨_, rfl, rfl, rfl⟩

set_option maxHeartbeats 2000000 in
theorem nodes_walk (s : Sto) (root : Int) (bv wv nv lv : Value) (M : Mem) (h1 : LS M bv s.blocks) (h2 : WS M wv s.waits) (h3 : BS M nv s.now) (h4 : BS M lv s.last) :
  SpecL Tryz.prog 8 #[.agg #[bv, wv, nv, lv], .int .i64 root] M [] fun u M' L' => NdsPost s root u M' ∧ L' = [] := by
 have hST : ST M (.agg #[bv, wv, nv, lv]) s := ⟨_, _, _, _, rfl, h1, h2, h3, h4⟩
 refine spec_body (vs := [_, _]) 94 _ Tryz.func8 rfl Tryz.ntmps8 rfl rfl ?_; intro W
 refine jc_seq ?_
 refine jc_region ?_
 refine jl_h rfl rfl (hBox (cs := [_, _, _, _]) rfl rfl rfl rfl) ?_; rintro _ _ _ ⟨b2, rfl, rfl, rfl⟩
 iterate 3 refine jp rfl ?_
 refine jl_nil ?_
 refine jT ?_
 refine jc_seq ?_
 refine jc_seq ?_
 refine jc_region ?_
 refine jl_q rfl rfl (qLdL rfl rfl rfl rfl rfl) ?_
 refine jp rfl ?_
 refine jl_q rfl rfl (qCall rfl rfl rfl rfl rfl (by kernel_rfl) (fcheck_walk s root bv wv nv lv M h1 h2 h3 h4)) ?_
 iterate 5 refine jp rfl ?_
 refine jl_nil ?_
 refine jT ?_
 refine jc_seq ?_
 refine jc_region ?_
 refine jp rfl ?_
 refine js rfl (fun h24 => ?_) (fun h24 => ?_)
 ·refine jl_nil ?_
  refine jT ?_
  refine jc_yes rfl ?_
  refine jc_seq ?_
  refine jc_region ?_
  iterate 4 refine jp rfl ?_
  refine jl_nil ?_
  refine jT ?_
  refine jc_ret ?_
  refine jTr ?_
  refine jq_drop (L' := []) (by simp) ?_
  refine jr3 rfl rfl rfl rfl ?_
  exact ⟨by unfold NdsPost; rw [if_neg h24]; rfl, rfl⟩
 ·refine jl_nil ?_
  refine jT ?_
  refine jc_no rfl ?_
  refine jc_skip ?_
  refine jT ?_
  refine jc_seq ?_
  refine jc_region ?_
  refine jl_q rfl rfl (qLdL rfl rfl rfl rfl rfl) ?_
  have hok := Classical.not_not.1 h24
  obtain ⟨hst, hr8, hr256, hnz, lev0, xs0, hnd0, htr0, hfl⟩ := fchk_ok hok
  obtain ⟨⟨_, hw4, _, _⟩, ⟨hn256, _⟩, _⟩ := id hst
  have hk0 : 8 ≤ root.toNat ∧ root.toNat < 256 := by omega
  have hrt : ((root.toNat : Nat) : Int) = root := Int.toNat_of_nonneg (by omega)
  refine jl_h rfl rfl (hCall rfl rfl rfl rfl rfl (by kernel_rfl) (on_spec s _ M hST (by omega) (by omega))) ?_; rintro _ M1 _ ⟨hM1, _, rfl, ⟨hbn0, rfl⟩⟩
  have hbn1 := hbn0 M1 (MLe.refl _) hM1
  obtain ⟨pb, _, _, _, _, rfl, _⟩ := id hbn1.ex
  simp only [List.nil_append]
  refine jp rfl ?_
  refine jl_nil ?_
  refine jT ?_
  refine jc_seq ?_
  refine jc_region ?_
  refine jl_h rfl rfl (hMakeMap rfl rfl) ?_; rintro _ _ _ ⟨b28, rfl, rfl, rfl⟩
  refine jp rfl ?_
  refine jl_s rfl (hMapPut rfl (.inr rfl) rfl rfl rfl) ?_; rintro _ _ _ ⟨rfl, rfl⟩
  refine jp rfl ?_
  refine jl_h rfl rfl (hMakeMap rfl rfl) ?_; rintro _ _ _ ⟨b31, rfl, rfl, rfl⟩
  iterate 2 refine jp rfl ?_
  refine jl_nil ?_
  refine jT ?_
  refine jc_seq ?_
  refine jc_seq ?_
  refine jc_region ?_
  refine jp rfl ?_
  refine jl_h rfl rfl (hBuildSlice (cs := [_]) rfl rfl rfl (by rfl) (by rfl) (by rfl)) ?_; rintro _ _ _ ⟨b33, rfl, rfl, rfl⟩
  refine jp rfl ?_
  refine jl_nil ?_
  refine jT ?_
  refine jc_block ?_
  refine jc_loopK (α := Bs) (fun x => [(9, .pointer (some ⟨pb, 0, none⟩)), (10, .map (some b28)), (11, .map (some b31)), (12, .slice (some ⟨x.g, x.off, none⟩) x.qu.length x.cap)]) (fun x => x.M) (fun x => x.R ++ [(b31, mObj x.held), (b28, mObj x.met)]) (fun x => MLe M1 x.M ∧ Que (.slice (some ⟨x.g, x.off, none⟩) x.qu.length x.cap) x.R 3 (x.qu.map encZ) ∧ BI s root.toNat x.dn x.qu x.met x.held (x.dn.length * 5 + 1)) (fun x => 2 * (256 - (x.dn.length + x.qu.length)) + x.qu.length)
   (⟨b33, 0, 1, [(b33, .cells [Value.int .i64 root].toArray 3 (0, 0))], [], [root], [(root, 1)], [], M1⟩ : Bs) (Keep.cons (t := 9) rfl (Keep.cons (t := 10) rfl (Keep.cons (t := 11) rfl (Keep.cons (t := 12) rfl Keep.nil)))) ⟨MLe.refl _, Que.one, by have := BI.start (s := s) hk0; rwa [hrt] at this⟩ (fun w h => by rw [show putL root 1 [] = [(root, 1)] from rfl] at h; exact h.fewer (.cons_cons _ (.cons_cons _ (.cons_cons _ (List.nil_sublist _))))) ?_
  rintro ⟨gg, off, cap, Rq, dn, qu, met, held, Mk⟩ ⟨hMk, hq, hbi⟩
  try dsimp only at hMk hq hbi ⊢
  refine jc_seq ?_
  refine jc_seq ?_
  refine jc_region ?_
  refine jp rfl ?_
  refine jl_q rfl rfl (qLen rfl rfl rfl) ?_
  refine js rfl (fun h36 => ?_) (fun h36 => ?_)
  ·refine jl_nil ?_
   refine jT ?_
   refine jc_yes rfl ?_
   refine jc_skip ?_
   refine jT ?_
   refine jc_seq ?_
   refine jc_block ?_
   refine jc_seq ?_
   refine jc_region ?_
   iterate 2 refine jp rfl ?_
   obtain ⟨q0, rest, rfl⟩ : ∃ q0 rest, qu = q0 :: rest := by cases qu with | nil => exact absurd h36 (by simp) | cons x r => exact ⟨x, r, rfl⟩
   have hq0 := hbi.each q0 (by rw [hbi.keys]; simp)
   obtain ⟨k, rfl⟩ : ∃ k : Nat, q0 = (k : Int) := ⟨q0.toNat, by omega⟩
   have hrk : Rch s root.toNat k := by simpa using hq0.2.2
   have hlen0 := hbi.len
   refine jl_q rfl rfl (qIdxS rfl rfl rfl rfl (by simp)) ?_
   refine jl_q rfl rfl (qLd (v := .int .i64 k) rfl rfl rfl rfl (Que.cj hq (fun p hp => by simp [hp]) (by simp [encZ]))) ?_
   refine jl_h rfl rfl (hCall rfl rfl rfl rfl rfl (by kernel_rfl) (bnode_spec s k _ Mk hst (by omega) (hbn1.mono hMk))) ?_; rintro _ Mn _ ⟨hMn, _, rfl, ⟨hbn, rfl⟩⟩
   obtain ⟨lev, xs, hnd, htr⟩ := (Rch.tree hk0 hnd0 htr0 hrk).2
   obtain ⟨sl, rfl, hns⟩ := (by unfold BnPost at hbn; rw [hnd] at hbn; exact hbn : ∃ sl, _ ∧ NS Mn sl xs)
   obtain ⟨a, c, ps, rfl, hc, hs, hp, hb⟩ := hns
   simp only [List.nil_append]
   have hno := ndAt_ok hnd
   have hlen := hno.len
   have hlv := hno.lev
   iterate 3 refine jp rfl ?_
   refine jl_h rfl rfl (hAlloc rfl rfl) ?_; rintro _ _ _ ⟨b13, rfl, rfl, rfl⟩
   refine jl_s rfl (hStoreL rfl rfl rfl rfl rfl rfl rfl rfl) ?_; rintro _ _ _ ⟨rfl, rfl⟩
   refine jp rfl ?_
   refine jl_nil ?_
   refine jT ?_
   refine jc_seq ?_
   refine jc_region ?_
   refine jl_q rfl rfl (qFieldAddr rfl rfl rfl rfl rfl) ?_
   refine jl_q rfl rfl (qLd rfl rfl rfl rfl (CJ.loc rfl)) ?_
   refine jl_q rfl rfl (qLen rfl rfl rfl) ?_
   refine jp rfl ?_
   refine jl_nil ?_
   refine jT ?_
   refine jc_block ?_
   refine jc_loopK (α := Bj) (fun x => [(9, .pointer (some ⟨pb, 0, none⟩)), (10, .map (some b28)), (11, .map (some b31)), (12, .slice (some ⟨x.g, x.off, none⟩) (x.qu.length + 1) x.cap), (13, .pointer (some ⟨b13, 0, none⟩)), (48, .slice a xs.length c), (49, .int .i64 xs.length), (50, .int .i64 x.j)]) (fun x => Mn) (fun x => (b13, .cells [.int .i64 (lev : Int), .slice a xs.length c].toArray 66 (0, 0)) :: (x.R ++ [(b31, mObj x.held), (b28, mObj x.met)])) (fun x => x.j ≤ xs.length ∧ Que (.slice (some ⟨x.g, x.off, none⟩) (x.qu.length + 1) x.cap) x.R 3 (((k : Int) :: x.qu).map encZ) ∧ BI s root.toNat dn ((k : Int) :: x.qu) x.met x.held (dn.length * 5 + 1 + x.j) ∧ (∀ y ∈ xs.take x.j, CL x.met x.held lev y) ∧ rest.length ≤ x.qu.length) (fun x => xs.length - x.j)
    (⟨0, gg, off, cap, Rq, rest, met, held⟩ : Bj) (Keep.cons (t := 9) rfl (Keep.cons (t := 10) rfl (Keep.cons (t := 11) rfl (Keep.cons (t := 12) rfl (Keep.cons (t := 13) rfl (Keep.cons (t := 48) rfl (Keep.cons (t := 49) rfl (Keep.cons (t := 50) rfl Keep.nil)))))))) ⟨Nat.zero_le _, hq, hbi, fun y hy => by simp at hy, Nat.le_refl _⟩ (fun _ h => h) ?_
   rintro ⟨j, gg, off, cap, Rq, rest, met, held⟩ ⟨hj, hq, hbi, hcl0, hrl⟩
   try dsimp only at hj hq hbi hcl0 hrl ⊢
   have hlen1 := hbi.len
   simp only [List.length_cons] at hlen1
   refine jc_seq ?_
   refine jc_region ?_
   refine js rfl (fun h51 => ?_) (fun h51 => ?_)
   ·refine jl_nil ?_
    refine jT ?_
    refine jc_seq ?_
    refine jc_yes rfl ?_
    refine jc_skip ?_
    refine jT ?_
    refine jc_seq ?_
    refine jc_block ?_
    refine jc_seq ?_
    refine jc_region ?_
    have hk1 : j < xs.length := by omega
    obtain ⟨sb, so, e0, hx⟩ := hs.open (by intro e; have := congrArg List.length e; rw [flat_len icell 5 icell_len, List.length_nil] at this; have h2 := congrArg List.length hp; rw [List.length_map] at h2; omega)
    subst e0
    obtain ⟨va, vc, hcl, hvc, hvs⟩ := items_get hx hp hb hk1
    have hxr := hno.ref xs[j] (List.getElem_mem hk1)
    have hxm := List.getElem_mem hk1
    refine jl_q rfl rfl (qIdxS rfl rfl rfl rfl (by omega)) ?_
    refine jl_q rfl rfl (qLdA (cs := itc xs[j] va vc) rfl rfl rfl rfl rfl (fun i v hv => (hcl i v hv).cj _)) ?_
    refine jl_h rfl rfl (hAlloc rfl rfl) ?_; rintro _ _ _ ⟨b16, rfl, rfl, rfl⟩
    refine jl_s rfl (hStoreL rfl rfl rfl rfl rfl rfl rfl rfl) ?_; rintro _ _ _ ⟨rfl, rfl⟩
    refine jl_nil ?_
    refine jT ?_
    refine jc_block ?_
    refine jc_seq ?_
    refine jc_region ?_
    refine jl_q rfl rfl (qFieldAddr rfl rfl rfl rfl rfl) ?_
    refine jl_q rfl rfl (qLd rfl rfl rfl rfl (CJ.loc rfl)) ?_
    refine js rfl (fun h57 => ?_) (fun h57 => ?_)
    ·refine jp rfl ?_
     refine jl_q rfl rfl (qFieldAddr rfl rfl rfl rfl rfl) ?_
     refine jl_q rfl rfl (qLd rfl rfl rfl rfl (CJ.loc rfl)) ?_
     refine js rfl (fun h61 => ?_) (fun h61 => ?_)
     ·iterate 2 refine jp rfl ?_
      refine jl_nil ?_
      refine jT ?_
      refine jc_yes rfl ?_
      refine jc_region ?_
      refine jp rfl ?_
      refine jl_q rfl rfl (qFieldAddr rfl rfl rfl rfl rfl) ?_
      refine jl_q rfl rfl (qLd rfl rfl rfl rfl (CJ.loc rfl)) ?_
      have hgm := hbi.hget xs[j].ref
      refine jl_q rfl rfl (qLookup rfl rfl rfl rfl (by kernel_rfl)) ?_
      refine ja rfl (by omega) ?_
      refine jl_s rfl (hMapPut rfl (.inl rfl) rfl rfl rfl) ?_; rintro _ _ _ ⟨rfl, rfl⟩
      refine jl_nil ?_
      refine jB ?_
      refine jB ?_
      refine jT ?_
      refine jc_region ?_
      refine ja rfl (by omega) ?_
      refine jp rfl ?_
      refine jl_nil ?_
      refine j_again (⟨j + 1, gg, off, cap, Rq, rest, met, (putL xs[j].ref (getL xs[j].ref held + 1) held)⟩ : Bj) (Keep.cons (t := 9) rfl (Keep.cons (t := 10) rfl (Keep.cons (t := 11) rfl (Keep.ceq (t := 12) rfl (by simp) (Keep.cons (t := 13) rfl (Keep.cons (t := 48) rfl (Keep.cons (t := 49) rfl (Keep.cons (t := 50) rfl Keep.nil)))))))) ⟨by show j + 1 ≤ xs.length; omega, hq, hbi.holds (by omega) ⟨h61, k, xs, _, hrk, by rw [hnd, h57], hxm, rfl⟩, fun x hx => ?_, by show _ ≤ _; simp <;> omega⟩ (by show xs.length - (j + 1) < xs.length - j; omega) (fun w h => h.fewer (by simp))
      rw [List.take_succ_eq_append_getElem hk1] at hx
      rcases List.mem_append.1 hx with hx | hx
      ·exact (hcl0 x hx).mono (fun _ h => h) (fun _ h => keys_mem.2 (.inl h))
      ·rw [List.mem_singleton.1 hx]; exact ⟨fun h => absurd h (by omega), fun _ _ => keys_mem.2 (.inr rfl)⟩
     ·iterate 2 refine jp rfl ?_
      refine jl_nil ?_
      refine jT ?_
      refine jc_no rfl ?_
      refine jc_seq ?_
      refine jc_region ?_
      refine jl_q rfl rfl (qFieldAddr rfl rfl rfl rfl rfl) ?_
      refine jl_q rfl rfl (qLd rfl rfl rfl rfl (CJ.loc rfl)) ?_
      refine js rfl (fun h71 => ?_) (fun h71 => ?_)
      ·exfalso; omega
      ·refine jp rfl ?_
       refine jl_nil ?_
       refine jT ?_
       refine jc_no rfl ?_
       refine jc_skip ?_
       refine jB ?_
       refine jB ?_
       refine jT ?_
       refine jc_region ?_
       refine ja rfl (by omega) ?_
       refine jp rfl ?_
       refine jl_nil ?_
       refine j_again (⟨j + 1, gg, off, cap, Rq, rest, met, held⟩ : Bj) (Keep.cons (t := 9) rfl (Keep.cons (t := 10) rfl (Keep.cons (t := 11) rfl (Keep.ceq (t := 12) rfl (by simp) (Keep.cons (t := 13) rfl (Keep.cons (t := 48) rfl (Keep.cons (t := 49) rfl (Keep.cons (t := 50) rfl Keep.nil)))))))) ⟨by show j + 1 ≤ xs.length; omega, hq, hbi.more, fun x hx => ?_, by show _ ≤ _; simp <;> omega⟩ (by show xs.length - (j + 1) < xs.length - j; omega) (fun w h => h.fewer (by simp))
       rw [List.take_succ_eq_append_getElem hk1] at hx
       rcases List.mem_append.1 hx with hx | hx
       ·exact hcl0 x hx
       ·rw [List.mem_singleton.1 hx]; exact ⟨fun h => absurd h (by omega), fun _ h => absurd h h61⟩
    ·iterate 6 refine jp rfl ?_
     refine jl_nil ?_
     refine jT ?_
     refine jc_no rfl ?_
     refine jc_seq ?_
     refine jc_region ?_
     refine jl_q rfl rfl (qFieldAddr rfl rfl rfl rfl rfl) ?_
     refine jl_q rfl rfl (qLd rfl rfl rfl rfl (CJ.loc rfl)) ?_
     refine js rfl (fun h71 => ?_) (fun h71 => ?_)
     ·refine jp rfl ?_
      refine jl_nil ?_
      refine jT ?_
      refine jc_yes rfl ?_
      refine jc_seq ?_
      refine jc_region ?_
      refine jp rfl ?_
      refine jl_q rfl rfl (qFieldAddr rfl rfl rfl rfl rfl) ?_
      refine jl_q rfl rfl (qLd rfl rfl rfl rfl (CJ.loc rfl)) ?_
      have hgm := hbi.mget xs[j].ref
      have hup := hno.up (by omega) xs[j] hxm
      have hxr8 : 8 ≤ xs[j].ref ∧ xs[j].ref < 256 := by omega
      have hxk : Rch s root.toNat xs[j].ref.toNat := .kid hrk hnd (by omega) hxm
      refine jl_q rfl rfl (qLookup rfl rfl rfl rfl (by kernel_rfl)) ?_
      refine ja rfl (by omega) ?_
      refine jl_s rfl (hMapPut rfl (.inl rfl) rfl rfl rfl) ?_; rintro _ _ _ ⟨rfl, rfl⟩
      refine jl_nil ?_
      refine jT ?_
      refine jc_seq ?_
      refine jc_region ?_
      refine jp rfl ?_
      refine jl_q rfl rfl (qFieldAddr rfl rfl rfl rfl rfl) ?_
      refine jl_q rfl rfl (qLd rfl rfl rfl rfl (CJ.loc rfl)) ?_
      refine jl_q rfl rfl (qLookup rfl rfl rfl rfl (by kernel_rfl)) ?_
      refine js rfl (fun h81 => ?_) (fun h81 => ?_)
      ·refine jl_nil ?_
       refine jT ?_
       refine jc_yes rfl ?_
       refine jc_region ?_
       refine jp rfl ?_
       refine jl_q rfl rfl (qFieldAddr rfl rfl rfl rfl rfl) ?_
       refine jl_q rfl rfl (qLd rfl rfl rfl rfl (CJ.loc rfl)) ?_
       refine jl_h rfl rfl (hBuildSlice (cs := [_]) rfl rfl rfl (by rfl) (by rfl) (by rfl)) ?_; rintro _ _ _ ⟨b85, rfl, rfl, rfl⟩
       refine jl_h rfl rfl (hAppendQ rfl rfl rfl rfl hq (CJ.loc rfl) rfl rfl (by simp; omega) (by decide)) ?_; rintro _ _ _ ⟨rfl, R3, rfl, hq3⟩
       rw [show ((k : Int) :: rest).map encZ ++ [encZ xs[j].ref] = ((k : Int) :: (rest ++ [xs[j].ref])).map encZ by simp] at hq3
       obtain ⟨g3, off3, cap3, cur3, rfl, -⟩ := id hq3
       refine jp rfl ?_
       refine jl_nil ?_
       refine jB ?_
       refine jB ?_
       refine jT ?_
       refine jc_region ?_
       refine ja rfl (by omega) ?_
       refine jp rfl ?_
       refine jl_nil ?_
       refine j_again (⟨j + 1, g3, off3, cap3, R3, (rest ++ [xs[j].ref]), (putL xs[j].ref (getL xs[j].ref met + 1) met), held⟩ : Bj) (Keep.cons (t := 9) rfl (Keep.cons (t := 10) rfl (Keep.cons (t := 11) rfl (Keep.ceq (t := 12) rfl (by simp) (Keep.cons (t := 13) rfl (Keep.cons (t := 48) rfl (Keep.cons (t := 49) rfl (Keep.cons (t := 50) rfl Keep.nil)))))))) ⟨by show j + 1 ≤ xs.length; omega, by have := hq3; simp only [List.length_map, List.length_cons] at this ⊢; exact this, by have := hbi.first (by rwa [get_put, if_pos rfl] at h81) hxr8 hxk; rw [List.cons_append] at this; exact this, fun x hx => ?_, by show _ ≤ _; simp <;> omega⟩ (by show xs.length - (j + 1) < xs.length - j; omega) (fun w h => (h.perm (List.perm_middle.trans (.cons _ (List.perm_middle.trans (.cons _ List.perm_middle))))).fewer (.cons _ (.cons _ (.refl _))))
       rw [List.take_succ_eq_append_getElem hk1] at hx
       rcases List.mem_append.1 hx with hx | hx
       ·exact (hcl0 x hx).mono (fun _ h => keys_mem.2 (.inl h)) (fun _ h => h)
       ·rw [List.mem_singleton.1 hx]; exact ⟨fun _ => keys_mem.2 (.inr rfl), fun h => absurd h h57⟩
      ·refine jl_nil ?_
       refine jT ?_
       refine jc_no rfl ?_
       refine jc_skip ?_
       refine jB ?_
       refine jB ?_
       refine jT ?_
       refine jc_region ?_
       refine ja rfl (by omega) ?_
       refine jp rfl ?_
       refine jl_nil ?_
       refine j_again (⟨j + 1, gg, off, cap, Rq, rest, (putL xs[j].ref (getL xs[j].ref met + 1) met), held⟩ : Bj) (Keep.cons (t := 9) rfl (Keep.cons (t := 10) rfl (Keep.cons (t := 11) rfl (Keep.ceq (t := 12) rfl (by simp) (Keep.cons (t := 13) rfl (Keep.cons (t := 48) rfl (Keep.cons (t := 49) rfl (Keep.cons (t := 50) rfl Keep.nil)))))))) ⟨by show j + 1 ≤ xs.length; omega, hq, (hbi.again (by rwa [get_put, if_pos rfl] at h81)).1, fun x hx => ?_, by show _ ≤ _; simp <;> omega⟩ (by show xs.length - (j + 1) < xs.length - j; omega) (fun w h => h.fewer (by simp))
       rw [List.take_succ_eq_append_getElem hk1] at hx
       rcases List.mem_append.1 hx with hx | hx
       ·exact (hcl0 x hx).mono (fun _ h => keys_mem.2 (.inl h)) (fun _ h => h)
       ·rw [List.mem_singleton.1 hx]; exact ⟨fun _ => keys_mem.2 (.inr rfl), fun h => absurd h h57⟩
     ·exfalso; omega
   ·refine jl_nil ?_
    refine jT ?_
    refine jc_seq ?_
    refine jc_no rfl ?_
    refine jc_exit ?_
    refine jTx ?_
    refine jTx ?_
    refine jBx ?_
    refine jB ?_
    refine jT ?_
    refine jc_region ?_
    refine jp rfl ?_
    obtain rfl : j = xs.length := by omega
    have hqc := hq.le
    refine jl_q rfl rfl (qEq (qSl rfl rfl rfl (.no _) (.no _) (.of rfl (by omega) rfl) (by omega) (by simp)) (v' := .slice (some ⟨gg, if cap = 1 then off else off + 1, none⟩) rest.length (cap - 1)) (by rw [show Int.toNat 1 = 1 from rfl, slA1]; rfl)) ?_
    refine jp rfl ?_
    refine jl_nil ?_
    have hclk : ∀ lv2 ys2, ndAt s ((k : Int)).toNat = some (lv2, ys2) → ∀ x ∈ ys2, CL met held lv2 x := fun lv2 ys2 hnd2 x hx => by
     rw [show ((k : Int)).toNat = k from Int.toNat_natCast k, hnd] at hnd2
     obtain ⟨rfl, rfl⟩ : (lev : Int) = lv2 ∧ xs = ys2 := by simpa using hnd2
     exact hcl0 x (by rw [List.take_length]; exact hx)
    refine j_again (⟨gg, if cap = 1 then off else off + 1, cap - 1, Rq, dn ++ [(k : Int)], rest, met, held, Mn⟩ : Bs) (Keep.cons (t := 9) rfl (Keep.cons (t := 10) rfl (Keep.cons (t := 11) rfl (Keep.cons (t := 12) rfl Keep.nil)))) ⟨hMk.trans hMn, by have := Que.tail hq; rw [slA1] at this; exact this, ?_⟩ ?_ (fun w h => h.fewer (by simp))
    ·exact (hbi.pop hclk).up (by simp; omega)
    ·have := (hbi.pop hclk).len
     simp only [List.length_append, List.length_cons, List.length_nil] at this hlen0 ⊢
     omega
  ·refine jl_nil ?_
   refine jT ?_
   refine jc_no rfl ?_
   refine jc_exit ?_
   refine jTx ?_
   refine jTx ?_
   refine jBx ?_
   refine jT ?_
   refine jc_seq ?_
   refine jc_region ?_
   refine jp rfl ?_
   have hmo : ∀ p ∈ met, InI p.1 := fun p hp => by have := hbi.each p.1 (List.mem_map.2 ⟨p, hp, rfl⟩); unfold InI; omega
   have hho : ∀ p ∈ held, InI p.1 := fun p hp => by have := hbi.hin p.1 (List.mem_map.2 ⟨p, hp, rfl⟩); unfold InI; omega
   have hml : met.length ≤ 1000000 := by have := small_len hbi.nod (fun k hk => ⟨(hbi.each k hk).1, (hbi.each k hk).2.1⟩); simp only [keysL, List.length_map] at this; omega
   have hhl : held.length ≤ 1000000 := by have := small_len hbi.hnod (fun k hk => ⟨(hbi.hin k hk).1, (hbi.hin k hk).2.1⟩); simp only [keysL, List.length_map] at this; omega
   refine jl_freezeX b28 (by simp +contextual) ?_
   intro Mp hMp em
   refine jl_freezeX b31 (by simp +contextual) ?_
   intro Mq hMq eh
   refine jl_h rfl rfl (hCall rfl rfl rfl rfl rfl (by kernel_rfl) (keys_walk b28 _)) ?_; rintro _ _ _ ⟨_, _, rfl, ⟨c1, rfl, rfl, rfl⟩⟩
   refine jl_freezeX c1 (by simp +contextual) ?_
   intro Mr hMr ec1
   refine jl_h rfl rfl (hCall rfl rfl rfl rfl rfl (by kernel_rfl) (sorted_spec Mr b28 c1 met (hMr _ _ (hMq _ _ em)) ec1 hmo hbi.nod hml)) ?_; rintro _ _ _ ⟨_, R1, rfl, ⟨s1, rfl, hp1, ho1⟩⟩
   refine jl_own ho1 (by simp) ?_
   rintro Ms a1 cap1 hMs rfl hc1 hs1
   refine jp rfl ?_
   refine jl_h rfl rfl (hCall rfl rfl rfl rfl rfl (by kernel_rfl) (keys_walk b31 _)) ?_; rintro _ _ _ ⟨_, _, rfl, ⟨c2, rfl, rfl, rfl⟩⟩
   refine jl_freezeX c2 (by simp +contextual) ?_
   intro Mt hMt ec2
   refine jl_h rfl rfl (hCall rfl rfl rfl rfl rfl (by kernel_rfl) (sorted_spec Mt b31 c2 held (hMt _ _ (hMs _ _ (hMr _ _ eh))) ec2 hho hbi.hnod hhl)) ?_; rintro _ _ _ ⟨_, R2, rfl, ⟨s2, rfl, hp2, ho2⟩⟩
   refine jl_own ho2 (by simp) ?_
   rintro Mu a2 cap2 hMu rfl hc2 hs2
   iterate 3 refine jp rfl ?_
   refine jl_nil ?_
   refine jT ?_
   refine jc_ret ?_
   refine jq_drop (L' := []) (by simp) ?_
   refine jr3 rfl rfl rfl rfl ?_
   obtain rfl : qu = [] := List.eq_nil_of_length_eq_zero (by omega)
   refine ⟨?_, rfl⟩
   unfold NdsPost; rw [if_pos hok]
   exact ⟨_, _, s1.mergeSort leI, s2.mergeSort leI, rfl, ⟨a1, cap1, by rw [mLen], by rw [mLen]; exact hc1, hs1.mono (hMt.trans hMu)⟩, ⟨a2, cap2, by rw [mLen], by rw [mLen]; exact hc2, hs2⟩, hbi.done hk0 hnd0 htr0 hp1 hp2⟩


theorem nodes_spec (s : Sto) (v : Value) (root : Int) (M : Mem) (h : ST M v s) : SpecL Tryz.prog 8 #[v, .int .i64 root] M [] fun u M' L' => NdsPost s root u M' ∧ L' = [] := by
 obtain ⟨bv, wv, nv, lv, rfl, h1, h2, h3, h4⟩ := h.ex
 exact nodes_walk s root bv wv nv lv M h1 h2 h3 h4
end Go.Proofs.YtkjghgndmpbfiaaGreat
