/- Walks: the references of a tree counted. -/
import Derived.Test.YtbhkdjheooknfaaGreatZVols
namespace Go.Proofs.YtbhkdjheooknfaaGreat
set_option linter.unusedVariables false
set_option linter.unusedSectionVars false
set_option linter.unusedSimpArgs false
open Go.RowKit
def inc (r : List Int) (k : Nat) : List Int := r.set k (IntKind.i64.wrap (r.getD k 0 + 1))
def wEd (lv : Int) (acc : List Int × List Int) (x : It) : List Int × List Int := if x.ref = 0 then acc else (inc acc.1 x.ref.toNat, if 0 < lv then acc.2 ++ [x.ref] else acc.2)
def wDt (s : Sto) : Nat → List Int → List Int → List Int → List Int × List Int
 | 0, _, refs, nodes => (refs, nodes)
 | f + 1, st, refs, nodes => match st.getLast? with
  | none => (refs, nodes)
  | some k => if 1 < (inc nodes k.toNat).getD k.toNat 0 then wDt s f st.dropLast refs (inc nodes k.toNat) else match wCu s k.toNat with
   | none => wDt s f st.dropLast refs (inc nodes k.toNat)
   | some (lv, xs) => wDt s f (xs.foldl (wEd lv) (refs, st.dropLast)).2 (xs.foldl (wEd lv) (refs, st.dropLast)).1 (inc nodes k.toNat)
def F0 : Nat := 1600
def wGx (s : Sto) (k : Int) : Bool := match lrn s k (-1) with
 | none => false
 | some (lv, xs) => (wEb s lv xs).is
theorem wEn (r : List Int) (k : Nat) : (inc r k).length = r.length := by simp [inc]
theorem treeF_nil {s : Sto} {f : Nat} {refs nodes : List Int} : wDt s f [] refs nodes = (refs, nodes) := by cases f <;> rfl
theorem treeF_again {s : Sto} {f : Nat} {st refs nodes : List Int} {k : Int} (h : 1 < (inc nodes k.toNat).getD k.toNat 0) : wDt s (f + 1) (st ++ [k]) refs nodes = wDt s f st refs (inc nodes k.toNat) := by
 rw [wDt, List.getLast?_append]; simp only [List.getLast?_singleton, Option.some_or]
 rw [if_pos h, List.dropLast_concat]
theorem treeF_node {s : Sto} {f : Nat} {st refs nodes : List Int} {k lv : Int} {xs : List It} (h : ¬ 1 < (inc nodes k.toNat).getD k.toNat 0) (hnd : wCu s k.toNat = some (lv, xs)) : wDt s (f + 1) (st ++ [k]) refs nodes = wDt s f (xs.foldl (wEd lv) (refs, st)).2 (xs.foldl (wEd lv) (refs, st)).1 (inc nodes k.toNat) := by
 rw [wDt, List.getLast?_append]; simp only [List.getLast?_singleton, Option.some_or]
 rw [if_neg h, hnd, List.dropLast_concat]
def zer (nodes : List Int) : Nat := nodes.countP (fun x => decide (x = 0))
theorem zer_set : ∀ {nodes : List Int} {k : Nat} {v : Int}, k < nodes.length → zer (nodes.set k v) + (if nodes.getD k 0 = 0 then 1 else 0) = zer nodes + (if v = 0 then 1 else 0)
 | [], _, _, h => by cases h
 | x :: xs, 0, v, _ => by simp [zer, List.countP_cons]; omega
 | x :: xs, k + 1, v, h => by
  have := zer_set (nodes := xs) (k := k) (v := v) (by simpa using h)
  simp only [zer, List.set_cons_succ, List.countP_cons, List.getD_cons_succ] at this ⊢
  omega
def Few (f : Nat) (nodes : List Int) : Prop := nodes.length = 256 ∧ ∀ k, 0 ≤ nodes.getD k 0 ∧ nodes.getD k 0 + f ≤ 4000000000000000000
theorem Few.inc {f : Nat} {nodes : List Int} (h : Few (f + 1) nodes) {k : Nat} (hk : k < 256) : Few f (inc nodes k) ∧ (Go.Proofs.YtbhkdjheooknfaaGreat.inc nodes k).getD k 0 = nodes.getD k 0 + 1 := by
 have h1 := (h.2 k).1
 have h2 := (h.2 k).2
 have hw : IntKind.i64.wrap (nodes.getD k 0 + 1) = nodes.getD k 0 + 1 := IntWalk.i64_in _ (by omega)
 have hg : (Go.Proofs.YtbhkdjheooknfaaGreat.inc nodes k).getD k 0 = nodes.getD k 0 + 1 := by unfold Go.Proofs.YtbhkdjheooknfaaGreat.inc; rw [hw]; simp [List.getD, h.1, hk]
 refine ⟨⟨by rw [wEn]; exact h.1, fun j => ?_⟩, hg⟩
 by_cases hj : j = k
 ·subst hj; rw [hg]; omega
 have : (Go.Proofs.YtbhkdjheooknfaaGreat.inc nodes k).getD j 0 = nodes.getD j 0 := by unfold Go.Proofs.YtbhkdjheooknfaaGreat.inc; simp [List.getD, List.getElem?_set_ne (Ne.symm hj)]
 rw [this]; have := h.2 j; omega
theorem Few.less {f g : Nat} {nodes : List Int} (h : Few f nodes) (hg : g ≤ f) : Few g nodes := ⟨h.1, fun k => by have := h.2 k; omega⟩
theorem fold_step {lv : Int} {xs : List It} {j : Nat} {a : List Int × List Int} (h : j < xs.length) : (xs.take (j + 1)).foldl (wEd lv) a = wEd lv ((xs.take j).foldl (wEd lv) a) xs[j] := by
 rw [List.take_succ_eq_append_getElem h, List.foldl_append]; rfl
theorem step_len {lv : Int} (a : List Int × List Int) (x : It) : (wEd lv a x).1.length = a.1.length ∧ (wEd lv a x).2.length ≤ a.2.length + 1 := by
 unfold wEd
 split
 ·exact ⟨rfl, by omega⟩
 refine ⟨wEn _ _, ?_⟩
 by_cases h : 0 < lv
 ·rw [if_pos h]; simp
 rw [if_neg h]; exact Nat.le_succ _
theorem fold_len {lv : Int} : ∀ (xs : List It) (a : List Int × List Int), (xs.foldl (wEd lv) a).1.length = a.1.length ∧ (xs.foldl (wEd lv) a).2.length ≤ a.2.length + xs.length
 | [], a => ⟨rfl, Nat.le_refl _⟩
 | x :: xs, a => by
  obtain ⟨h1, h2⟩ := fold_len xs (wEd lv a x)
  obtain ⟨h3, h4⟩ := step_len (lv := lv) a x
  rw [List.foldl_cons, h1, h3, List.length_cons]
  exact ⟨rfl, by omega⟩
theorem wJp {s : Sto} : ∀ (f : Nat) (st refs nodes : List Int), (wDt s f st refs nodes).1.length = refs.length ∧ (wDt s f st refs nodes).2.length = nodes.length
 | 0, st, refs, nodes => ⟨rfl, rfl⟩
 | f + 1, st, refs, nodes => by
  rw [wDt]
  split
  ·exact ⟨rfl, rfl⟩
  split
  ·have := wJp (s := s) f st.dropLast refs (inc nodes ?_)
   rw [wEn] at this; exact this
  split
  ·have := wJp (s := s) f st.dropLast refs (inc nodes ?_)
   rw [wEn] at this; exact this
  rename_i k _ _ _ lv xs _
  have := wJp (s := s) f (xs.foldl (wEd lv) (refs, st.dropLast)).2 (xs.foldl (wEd lv) (refs, st.dropLast)).1 (inc nodes k.toNat)
  rw [wEn, (fold_len xs _).1] at this; exact this
theorem wJq {s : Sto} : ∀ (f : Nat) {g : Nat} (st refs nodes : List Int), (∀ k ∈ st, 8 ≤ k ∧ k < 256) → Few (g + f) nodes → Few g (wDt s f st refs nodes).2
 | 0, g, st, refs, nodes, _, h => h
 | f + 1, g, st, refs, nodes, hst, h => by
  have hdl : ∀ k ∈ st.dropLast, 8 ≤ k ∧ k < 256 := fun k hk => hst k (List.dropLast_subset _ hk)
  rw [wDt]
  split
  ·exact h.less (by omega)
  rename_i k hk
  have hkr := hst k (List.mem_of_getLast? hk)
  have h' := (Few.inc (f := g + f) h (k := k.toNat) (by omega)).1
  split
  ·exact wJq f _ _ _ hdl h'
  split
  ·exact wJq f _ _ _ hdl h'
  rename_i lv xs hnd
  refine wJq f _ _ _ ?_ h'
  have hno := wBy hnd
  have : ∀ (ys : List It) (a : List Int × List Int), (∀ y ∈ ys, y ∈ xs) → (∀ k ∈ a.2, 8 ≤ k ∧ k < 256) → ∀ k ∈ (ys.foldl (wEd lv) a).2, 8 ≤ k ∧ k < 256 := by
   intro ys
   induction ys with
   | nil => intro a _ ha; exact ha
   | cons y ys ih =>
    intro a hy ha
    refine ih _ (fun z hz => hy z (List.mem_cons_of_mem _ hz)) ?_
    unfold wEd
    split
    ·exact ha
    rename_i h0
    split
    ·intro z hz
     rcases List.mem_append.1 hz with hz | hz
     ·exact ha z hz
     rw [List.mem_singleton.1 hz]; have := hno.ref y (hy y (by simp)); omega
    exact ha
  exact this xs _ (fun _ h => h) hdl
theorem Own.cut {v : Value} {R : Lc} {e : TypeId} {a : Option Addr} {m n c : Nat} {xs ys : List Value} (h : Own v R e 1 n xs) (hv : v = .slice a n c) (hm : m ≤ n) (hy : ys = xs.take m) : Own (.slice a m c) R e 1 m ys := by
 subst hy
 refine ⟨by have := h.1; rw [List.length_take]; omega, ?_⟩
 rcases h.2 with ⟨h1, h2, h3⟩ | ⟨g, cap, cur, h1, h2, h3, h4, h5, h6⟩
 ·rw [hv] at h1; cases h1; exact .inl ⟨by rw [show m = 0 by omega], by omega, h3⟩
 rw [hv] at h1; cases h1
 exact .inr ⟨g, c, cur, rfl, h2, by omega, h4, h5, by rw [← h6, List.take_take]; congr 1; omega⟩
theorem rtOk_no {s : Sto} {k : Int} (h : lrn s k (-1) = none) : wGx s k = false := by unfold wGx; rw [h]
theorem rtOk_is {s : Sto} {k lv : Int} {xs : List It} (h : lrn s k (-1) = some (lv, xs)) : wGx s k = (wEb s lv xs).is := by unfold wGx; rw [h]
def TreeP (s : Sto) (cb m : Nat) (bv wv nv lw pb vs : Value) (refs nodes : List Int) (l : List (Int × Value)) (k : Int) (u : Value) (M' : Mem) (L' : Lc) : Prop :=
 if wGx s k = true then u = .int .i64 0 ∧ ∃ l', L' = [(cb, .cells (wGe bv wv nv lw pb m (wDt s F0 [k] (inc refs k.toNat) nodes).1 (wDt s F0 [k] (inc refs k.toNat) nodes).2 vs).toArray TCn (0, 0)), (m, wDh l')] ∧ MapI M' s l' ∧ Ext l l'
 else u = .int .i64 8 ∧ L' = []
set_option maxHeartbeats 4000000 in
theorem tree_walk (s : Sto) (hst : wDr s) (cb m : Nat) (bv wv nv lw pb vs : Value) (refs0 nodes0 : List Int) (hr1 : refs0.length = 256) (hfew0 : Few F0 nodes0) (k0 : Int) (M : Mem) (l : List (Int × Value)) (hcn : CN M s nv pb) (hmi : MapI M s l) :
  SpecL Tryz.prog 69 #[.pointer (some ⟨cb, 0, none⟩), .int .i64 k0] M [(cb, .cells (wGe bv wv nv lw pb m refs0 nodes0 vs).toArray TCn (0, 0)), (m, wDh l)] fun u M' L' => TreeP s cb m bv wv nv lw pb vs refs0 nodes0 l k0 u M' L' := by
 have hn1 := hfew0.1
 refine wAe (vs := [_, _]) 95 _ Tryz.func69 rfl Tryz.ntmps69 rfl rfl ?_; intro W
 refine wAb (wAa (jp rfl (wAc (jT (wAb (wAb (wAa (jp rfl (jp rfl (wAv rfl rfl (wAt rfl rfl rfl rfl rfl (by kernel_rfl) (learn_spec s hst cb m bv wv nv lw pb (wAw refs0 ++ (wAw nodes0 ++ [vs])) (-1) k0 M l hcn hmi)) ?_)))))))))); rintro _ M1 _ ⟨hM1, _, rfl, ⟨l2, rfl, hmi1, hext1, hlr⟩⟩
 obtain ⟨xl, xa, xn, xc, p, rfl, hlr2⟩ := hlr.form
 simp only [List.cons_append, List.nil_append]
 refine wDf rfl rfl (qField rfl rfl rfl rfl rfl) (fun h13 => ?_) (fun h13 => ?_)
 ·refine jp rfl (wAc (jT (wAk rfl (wAd (jT (wAb ?_))))))
  have hroot : wGx s k0 = true := by
   rcases hlr2 with ⟨_, h2⟩ | ⟨ys, h1, _, _, h2, _⟩
   ·rw [h2] at h13; cases h13
   rw [rtOk_is h1, ← h2]; exact h13
  have hg0 : Good s l2 k0 := by
   rcases hlr2 with ⟨_, h2⟩ | ⟨ys, h1, _, _, h2, h3⟩
   ·rw [h2] at h13; cases h13
   obtain ⟨h4, h5, h6, _⟩ := lrn_is h1; exact ⟨h4, h5, h3, xl, ys, h6, by rw [← h2]; exact h13⟩
  have hk08 := hg0.1
  have hk0256 := hg0.2.1
  refine wBj (p := { A := fun i => !([10].contains i), U := fun i => !([10].contains i) }) [(0, true), (1, true), (2, true), (3, true), (4, true), (5, true), (6, true), (7, true), (8, true), (9, true), (10, false)] M1 ([(cb, .cells (wGe bv wv nv lw pb m refs0 nodes0 vs).toArray TCn (0, 0))]) ([]) (by kernel_rfl) (by kernel_rfl) (by kernel_rfl) (by kernel_rfl) rfl (by simp) (MLe.refl _) (by simp) ?_
  iterate 2 refine dp rfl rfl ?_
  refine wBh rfl rfl rfl (wAx rfl rfl rfl) ?_
  refine dFa rfl rfl ?_
  refine wBh rfl rfl rfl (qIdxA rfl rfl rfl rfl (by omega)) ?_
  refine wBh rfl rfl rfl (qLd rfl rfl rfl rfl (CJ.loc (cen_ref hr1 (i := k0.toNat) (by omega) (by omega)))) ?_
  refine wBh rfl rfl rfl (qP rfl rfl) ?_
  refine wBh rfl rfl rfl (wAx rfl rfl rfl) ?_
  refine dFa rfl rfl ?_
  refine wBh rfl rfl rfl (qIdxA rfl rfl rfl rfl (by omega)) ?_
  refine jd_e rfl rfl (hSt1 rfl rfl rfl rfl rfl rfl (by rw [wJk hr1 hn1]; omega) (cen_setr hr1 hn1 (i := k0.toNat) (by omega) (by omega))) ?_; rintro _ _ _ ⟨rfl, rfl⟩
  refine ⟨MLe.refl _, by simp, ?_⟩
  refine wCn ?_
  refine jPn (jT (wAb (wAb (wAa (jp rfl (wAv rfl rfl (wAr (cs := [_]) rfl rfl rfl (by rfl) (by rfl) (by rfl)) ?_)))))); rintro _ _ _ ⟨b26, rfl, rfl, rfl⟩
  refine jp rfl (wAc (jT (wAh ?_)))
  have hf0 : F0 = 1600 := rfl
  refine wAo (α := Nat × List Int × List Int × List Int × Value × Lc) (fun x => [(0, .pointer (some ⟨cb, 0, none⟩)), (5, x.2.2.2.2.1)]) (fun _ => M1) (fun x => (x.2.2.2.2.2 ++ [(cb, .cells (wGe bv wv nv lw pb m x.2.1 x.2.2.1 vs).toArray TCn (0, 0)), (m, wDh l2)])) (fun x => wDt s F0 [k0] (inc refs0 k0.toNat) nodes0 = wDt s x.1 x.2.2.2.1 x.2.1 x.2.2.1 ∧ x.2.2.2.1.length + 6 * zer x.2.2.1 ≤ x.1 ∧ x.1 ≤ F0 ∧ x.2.1.length = 256 ∧ Few x.1 x.2.2.1 ∧ (∀ y ∈ x.2.2.2.1, Good s l2 y) ∧ Own x.2.2.2.2.1 x.2.2.2.2.2 3 1 x.2.2.2.1.length (wAw x.2.2.2.1)) (fun x => x.1)
   (F0, inc refs0 k0.toNat, nodes0, [k0], .slice (some ⟨b26, 0, none⟩) 1 1, [(b26, .cells [Value.int .i64 k0].toArray 3 (0, 0))]) (.cons (t := 0) rfl (.cons (t := 5) rfl .nil)) ⟨rfl, by have : zer nodes0 ≤ nodes0.length := List.countP_le_length; rw [hn1] at this; show 1 + 6 * zer nodes0 ≤ F0; omega, Nat.le_refl _, by rw [wEn]; exact hr1, hfew0, fun y hy => by rw [List.mem_singleton.1 hy]; exact hg0, ⟨rfl, .inr ⟨b26, 1, _, rfl, rfl, Nat.le_refl _, by decide, rfl, rfl⟩⟩⟩ (fun _ h => h) ?_
  rintro ⟨f, refs, nodes, st, v, R⟩ ⟨hI, hmu, hff, hr1, hfew, hgd, hown⟩
  try dsimp only at hI hmu hff hr1 hfew hgd hown ⊢
  have hn1 := hfew.1
  obtain ⟨sa0, sc0, rfl⟩ := hown.form
  refine wAb (wAb (wAa (jp rfl (wAi rfl rfl (wBe rfl rfl rfl) ?_))))
  refine js rfl (fun h29 => ?_) (fun h29 => ?_)
  ·refine wAc (jT (wAg rfl (wAd (jT (wAh (wAb (wAa (jp rfl (jp rfl (wAi rfl rfl (wBe rfl rfl rfl) ?_))))))))))
   obtain ⟨st0, k, rfl⟩ : ∃ st0 k, st = st0 ++ [k] := ⟨st.dropLast, st.getLast (fun e => by rw [e] at h29; exact absurd h29 (by decide)), (List.dropLast_concat_getLast _).symm⟩
   have hsl : (st0 ++ [k]).length = st0.length + 1 := by simp
   obtain ⟨sg, scap, scur, e0, e1, hsc, _⟩ := hown.open (by omega)
   cases e0; cases e1
   have hkg := hgd k (by simp)
   have hk8 := hkg.1
   have hk256 := hkg.2.1
   obtain ⟨f, rfl⟩ : ∃ f0, f = f0 + 1 := ⟨f - 1, by omega⟩
   obtain ⟨hfew2, hin⟩ := hfew.inc (k := k.toNat) (by omega)
   have hn2 := hfew.1
   refine wAi rfl rfl (qEq (qA rfl rfl rfl rfl rfl (by simp only [hsl]; omega)) (v' := .int .i64 (st0.length : Int)) (by rw [hsl]; congr 1; omega)) ?_
   refine wAi rfl rfl (wBb rfl rfl rfl rfl (by rw [hsl]; omega)) ?_
   refine wAi rfl rfl (qLd rfl rfl rfl rfl (by rw [Nat.zero_add, Nat.mul_one]; exact hown.cj (by simp) (u := .int .i64 k) (by simp [wAw]))) ?_
   refine jp rfl (wAc (jT (wAb (wAa (jp rfl (jp rfl (wAi rfl rfl (wBe rfl rfl rfl) ?_)))))))
   refine wAi rfl rfl (qEq (qA rfl rfl rfl rfl rfl (by simp only [hsl]; omega)) (v' := .int .i64 (st0.length : Int)) (by rw [hsl]; congr 1; omega)) ?_
   refine wAi rfl rfl (qEq (qSl rfl rfl rfl (.no _) (.of (v := st0.length) rfl (by omega) (by omega)) (.no _) (by omega) (by simp)) (v' := .slice (some ⟨sg, 0, none⟩) st0.length sc0) (by rw [wEq]; rfl)) ?_
   refine jp rfl (wAc (jT (wAb (wAb (wBj (p := { A := fun i => !([10].contains i), U := fun i => !([10].contains i) }) [(0, true), (1, true), (2, true), (3, true), (4, true), (5, true), (6, true), (7, true), (8, true), (9, true), (10, false)] M1 ([(cb, .cells (wGe bv wv nv lw pb m refs nodes vs).toArray TCn (0, 0))]) ([]) (by kernel_rfl) (by kernel_rfl) (by kernel_rfl) (by kernel_rfl) rfl (by simp) (MLe.refl _) (by simp) ?_)))))
   iterate 2 refine dp rfl rfl ?_
   refine wBh rfl rfl rfl (wAx rfl rfl rfl) ?_
   refine dFa rfl rfl ?_
   refine wBh rfl rfl rfl (qIdxA rfl rfl rfl rfl (by omega)) ?_
   refine wBh rfl rfl rfl (qLd rfl rfl rfl rfl (CJ.loc (cen_nod hr1 hn2 (i := k.toNat) (by omega) (by omega)))) ?_
   refine wBh rfl rfl rfl (qP rfl rfl) ?_
   refine wBh rfl rfl rfl (wAx rfl rfl rfl) ?_
   refine dFa rfl rfl ?_
   refine wBh rfl rfl rfl (qIdxA rfl rfl rfl rfl (by omega)) ?_
   refine jd_e rfl rfl (hSt1 rfl rfl rfl rfl rfl rfl (by rw [wJk hr1 hn2]; omega) (cen_setn hr1 hn2 (i := k.toNat) (by omega) (by omega))) ?_; rintro _ _ _ ⟨rfl, rfl⟩
   refine ⟨MLe.refl _, by simp, ?_⟩
   rw [show nodes.set k.toNat (IntKind.i64.wrap (nodes.getD k.toNat 0 + 1)) = inc nodes k.toNat from rfl]
   have hn3 : (inc nodes k.toNat).length = 256 := by rw [wEn]; exact hn2
   have hown1 : Own (.slice (some ⟨sg, 0, none⟩) st0.length sc0) [(sg, .cells scur 3 (0, 0))] 3 1 st0.length (wAw st0) := hown.cut rfl (by omega) (by simp [wAw])
   refine wCn ?_
   refine jPn (jT (wAb (wAa (jp rfl (jp rfl (wAi rfl rfl (wAx rfl rfl rfl) ?_))))))
   refine sFa rfl ?_
   refine wAi rfl rfl (qIdxA rfl rfl rfl rfl (by omega)) ?_
   refine wAi rfl rfl (qLd rfl rfl rfl rfl (CJ.loc (cen_nod hr1 hn3 (i := k.toNat) (by omega) (by omega)))) ?_
   refine js rfl (fun h57 => ?_) (fun h57 => ?_)
   ·refine wAc (jT (wAg rfl (wAs (jTx (jBx ?_)))))
    have hz := zer_set (nodes := nodes) (k := k.toNat) (v := IntKind.i64.wrap (nodes.getD k.toNat 0 + 1)) (by omega)
    refine wAn (f, refs, inc nodes k.toNat, st0, .slice (some ⟨sg, 0, none⟩) st0.length sc0, [(sg, .cells scur 3 (0, 0))]) (.cons (t := 0) rfl (.cons (t := 5) rfl .nil)) ⟨?_, ?_, by show f ≤ F0; omega, hr1, hfew2, fun y hy => hgd y (List.mem_append_left _ hy), hown1⟩ (by show f < f + 1; omega) (fun _ h => h)
    ·show _ = wDt s f st0 refs (inc nodes k.toNat)
     rw [hI]; exact treeF_again h57
    have hk0n := (hfew.2 k.toNat).1
    have hw : IntKind.i64.wrap (nodes.getD k.toNat 0 + 1) = nodes.getD k.toNat 0 + 1 := IntWalk.i64_in _ (by have := (hfew.2 k.toNat).2; omega)
    rw [hw, if_neg (by omega), if_neg (by omega)] at hz
    show st0.length + 6 * zer (nodes.set k.toNat _) ≤ f
    rw [hw]; omega
   refine wAc (jT (wAk rfl (wAd (jT (wAb (wAa (jp rfl (wAi rfl rfl (wAx rfl rfl rfl) ?_))))))))
   refine sFL rfl rfl ?_
   refine jp rfl ?_
   obtain ⟨lv, zs, za, zc, zp, hz1, hz2, hz3, hz4⟩ := hkg.get hmi1
   have hno := wBy hz1
   have hzl := hno.len
   refine wAi rfl rfl (qEq (qLookupV (z := .agg spnZ.toArray) rfl rfl rfl rfl (by kernel_rfl)) (v' := .agg (snc lv (.slice za zs.length zc) zp).toArray) (by rw [hz4]; rfl)) ?_
   refine wAi rfl rfl (qEq (qFieldA rfl rfl rfl rfl) (v' := .agg #[.int .i64 lv, .slice za zs.length zc]) rfl) ?_
   refine sAl rfl fun b7 => ?_
   refine sSt rfl ?_
   refine wAc (jT (wAb (wAa (sFL rfl rfl ?_))))
   refine wAi rfl rfl (wBe rfl rfl rfl) ?_
   refine jp rfl (wAc (jT (wAh ?_)))
   refine wAo (α := Nat × List Int × List Int × Value × Lc) (fun x => [(0, .pointer (some ⟨cb, 0, none⟩)), (5, x.2.2.2.1), (7, .pointer (some ⟨b7, 0, none⟩)), (66, .slice za zs.length zc), (67, .int .i64 zs.length), (68, .int .i64 x.1)]) (fun _ => M1) (fun x => ((b7, .cells [.int .i64 lv, .slice za zs.length zc].toArray TNd (0, 0)) :: (x.2.2.2.2 ++ [(cb, .cells (wGe bv wv nv lw pb m x.2.1 (inc nodes k.toNat) vs).toArray TCn (0, 0)), (m, wDh l2)]))) (fun x => x.1 ≤ zs.length ∧ (x.2.1, x.2.2.1) = (zs.take x.1).foldl (wEd lv) (refs, st0) ∧ x.2.1.length = 256 ∧ (∀ y ∈ x.2.2.1, Good s l2 y) ∧ x.2.2.1.length ≤ st0.length + x.1 ∧ Own x.2.2.2.1 x.2.2.2.2 3 1 x.2.2.1.length (wAw x.2.2.1)) (fun x => zs.length - x.1)
    (0, refs, st0, .slice (some ⟨sg, 0, none⟩) st0.length sc0, [(sg, .cells scur 3 (0, 0))]) (.cons (t := 0) rfl (.cons (t := 5) rfl (.cons (t := 7) rfl (.cons (t := 66) rfl (.cons (t := 67) rfl (.cons (t := 68) rfl .nil)))))) ⟨Nat.zero_le _, rfl, hr1, fun y hy => hgd y (List.mem_append_left _ hy), Nat.le_refl _, hown1⟩ (fun _ h => h) ?_
   rintro ⟨j, refs2, st2, v2, R⟩ ⟨hj, hfold, hr2, hgd2, hsl2, hown2⟩
   try dsimp only at hj hfold hr2 hgd2 hsl2 hown2 ⊢
   obtain ⟨va2, vc2, rfl⟩ := hown2.form
   refine wAb (wAa (js rfl (fun h69 => ?_) (fun h69 => ?_)))
   ·refine wAc (jT (wAb (wAg rfl (wAd (jT (wAb (wAh (wAb (wAa ?_)))))))))
    have hj1 : j < zs.length := by omega
    obtain ⟨qa, qc, ps, e0, hzc, hzs, hzp, hzb⟩ := id hz3
    cases e0
    obtain ⟨sb, so, e0, hx⟩ := hzs.open (by intro e; have := congrArg List.length e; rw [wBm wCp 5 wCw, List.length_nil] at this; have h2 := congrArg List.length hzp; rw [List.length_map] at h2; omega)
    subst e0
    obtain ⟨va, vc, hcl, hvc, hvs⟩ := wCh hx hzp hzb hj1
    have hxr := hno.ref zs[j] (List.getElem_mem hj1)
    refine wAi rfl rfl (wBb rfl rfl rfl rfl (by omega)) ?_
    refine wAi rfl rfl (wGp (cs := itc zs[j] va vc) rfl rfl rfl rfl rfl (fun i v hv => (hcl i v hv).cj _)) ?_
    refine sAl rfl fun b9 => ?_
    refine sSt rfl ?_
    refine wAc (jT (wAb (wAb (wAa (sFL rfl rfl ?_)))))
    refine js rfl (fun h74 => ?_) (fun h74 => ?_)
    ·refine wAc (jT (wAg rfl (wAs (jTx (jBx (jT (wAa (ja rfl (by omega) ?_))))))))
     refine jp rfl (wAc ?_)
     have hfs := fold_step (lv := lv) (a := (refs, st0)) hj1
     rw [← hfold] at hfs
     unfold wEd at hfs
     rw [if_pos h74] at hfs
     refine wAn (j + 1, refs2, st2, .slice va2 st2.length vc2, R) (.cons (t := 0) rfl (.cons (t := 5) rfl (.cons (t := 7) rfl (.cons (t := 66) rfl (.cons (t := 67) rfl (.cons (t := 68) rfl .nil)))))) ⟨by show j + 1 ≤ zs.length; omega, hfs.symm, ?_, ?_, ?_, ?_⟩ (by show zs.length - (j + 1) < zs.length - j; omega) (fun w h => h.fewer (.cons _ (.refl _)))
     ·exact hr2
     ·exact hgd2
     ·show st2.length ≤ st0.length + (j + 1); omega
     exact hown2
    refine wAc (jT (wAk rfl (wAd (jT (wAb (wBj (p := { A := fun i => !([11].contains i), U := fun i => !([11].contains i) }) [(0, true), (1, true), (2, true), (3, true), (4, true), (5, true), (6, true), (7, true), (8, true), (9, true), (10, true), (11, false)] M1 ([(b9, .cells (itc zs[j] va vc).toArray IT (0, 0)), (cb, .cells (wGe bv wv nv lw pb m refs2 (inc nodes k.toNat) vs).toArray TCn (0, 0))]) ([]) (by kernel_rfl) (by kernel_rfl) (by kernel_rfl) (by kernel_rfl) rfl (by simp) (MLe.refl _) (by simp) ?_))))))
    refine dp rfl rfl ?_
    refine dFa rfl rfl ?_
    refine dLd rfl rfl ?_
    refine wBh rfl rfl rfl (wAx rfl rfl rfl) ?_
    refine dFa rfl rfl ?_
    refine wBh rfl rfl rfl (qIdxA rfl rfl rfl rfl (by omega)) ?_
    refine wBh rfl rfl rfl (qLd rfl rfl rfl rfl (CJ.loc (cen_ref hr2 (i := zs[j].ref.toNat) (by omega) (by omega)))) ?_
    refine wBh rfl rfl rfl (qP rfl rfl) ?_
    refine wBh rfl rfl rfl (wAx rfl rfl rfl) ?_
    refine dFa rfl rfl ?_
    refine wBh rfl rfl rfl (qIdxA rfl rfl rfl rfl (by omega)) ?_
    refine jd_e rfl rfl (hSt1 rfl rfl rfl rfl rfl rfl (by rw [wJk hr2 hn3]; omega) (cen_setr hr2 hn3 (i := zs[j].ref.toNat) (by omega) (by omega))) ?_; rintro _ _ _ ⟨rfl, rfl⟩
    refine ⟨MLe.refl _, by simp, ?_⟩
    rw [show refs2.set zs[j].ref.toNat (IntKind.i64.wrap (refs2.getD zs[j].ref.toNat 0 + 1)) = inc refs2 zs[j].ref.toNat from rfl]
    refine wCn ?_
    refine jPn (jT (wAb (wAa (sFL rfl rfl ?_))))
    refine js rfl (fun h88 => ?_) (fun h88 => ?_)
    ·refine wAc (jT (wAg rfl (wAa (jp rfl (sFL rfl rfl ?_)))))
     refine wAv rfl rfl (wAr (cs := [_]) rfl rfl rfl (by rfl) (by rfl) (by rfl)) ?_; rintro _ _ _ ⟨b92, rfl, rfl, rfl⟩
     refine wAv rfl rfl (wCr (R := R) (m := 1) rfl rfl rfl rfl hown2 rfl (fun i v hv => CJ.loc (by simpa using hv)) rfl (by rfl) (by simp [Value.oneCell']) (by omega) (by omega)) ?_; rintro v3 _ _ ⟨rfl, R3, rfl, hown3, _⟩
     obtain ⟨va3, vc3, rfl⟩ := hown3.form
     refine jp rfl (wAc (jB (jT (wAa (ja rfl (by omega) ?_)))))
     refine jp rfl (wAc ?_)
     have hfs := fold_step (lv := lv) (a := (refs, st0)) hj1
     rw [← hfold] at hfs
     unfold wEd at hfs
     rw [if_neg h74, if_pos h88] at hfs
     refine wAn (j + 1, inc refs2 zs[j].ref.toNat, st2 ++ [zs[j].ref], .slice va3 (st2.length + 1) vc3, R3) (.cons (t := 0) rfl (.cons (t := 5) rfl (.cons (t := 7) rfl (.cons (t := 66) rfl (.cons (t := 67) rfl (.cons (t := 68) rfl .nil)))))) ⟨by show j + 1 ≤ zs.length; omega, hfs.symm, ?_, ?_, ?_, ?_⟩ (by show zs.length - (j + 1) < zs.length - j; omega) (fun w h => (h.perm (List.perm_append_comm_assoc R3 [_, _, _] [_, _])).fewer (.cons _ (.cons _ (.refl _))))
     ·show (inc _ _).length = 256; rw [wEn]; exact hr2
     ·show ∀ y ∈ st2 ++ [zs[j].ref], Good s l2 y
      intro y hy; rcases List.mem_append.1 hy with hy | hy
      ·exact hgd2 y hy
      rw [List.mem_singleton.1 hy]; exact hkg.kid hmi1 hz1 h88 (List.getElem_mem hj1)
     ·show (st2 ++ [zs[j].ref]).length ≤ st0.length + (j + 1); rw [List.length_append]; simp only [List.length_cons, List.length_nil]; omega
     show Own _ _ _ _ (st2 ++ [zs[j].ref]).length (wAw (st2 ++ [zs[j].ref]))
     rw [List.length_append, show wAw (st2 ++ [zs[j].ref]) = wAw st2 ++ [.int .i64 zs[j].ref] by simp [wAw]]; exact hown3
    refine wAc (jT (wAk rfl (wAd (jB (jT (wAa (ja rfl (by omega) ?_)))))))
    refine jp rfl (wAc ?_)
    have hfs := fold_step (lv := lv) (a := (refs, st0)) hj1
    rw [← hfold] at hfs
    unfold wEd at hfs
    rw [if_neg h74, if_neg h88] at hfs
    refine wAn (j + 1, inc refs2 zs[j].ref.toNat, st2, .slice va2 st2.length vc2, R) (.cons (t := 0) rfl (.cons (t := 5) rfl (.cons (t := 7) rfl (.cons (t := 66) rfl (.cons (t := 67) rfl (.cons (t := 68) rfl .nil)))))) ⟨by show j + 1 ≤ zs.length; omega, hfs.symm, ?_, ?_, ?_, ?_⟩ (by show zs.length - (j + 1) < zs.length - j; omega) (fun w h => h.fewer (.cons _ (.refl _)))
    ·show (inc _ _).length = 256; rw [wEn]; exact hr2
    ·exact hgd2
    ·show st2.length ≤ st0.length + (j + 1); omega
    exact hown2
   refine wAc (jT (wAb (wAk rfl (wAs (jTx (jTx (jBx (jB ?_))))))))
   obtain rfl : j = zs.length := by omega
   rw [List.take_length] at hfold
   have hz := zer_set (nodes := nodes) (k := k.toNat) (v := IntKind.i64.wrap (nodes.getD k.toNat 0 + 1)) (by omega)
   have hfl := (fold_len (lv := lv) zs (refs, st0)).2
   rw [← hfold] at hfl
   refine wAn (f, refs2, inc nodes k.toNat, st2, .slice va2 st2.length vc2, R) (.cons (t := 0) rfl (.cons (t := 5) rfl .nil)) ⟨?_, ?_, by show f ≤ F0; omega, hr2, hfew2, hgd2, hown2⟩ (by show f < f + 1; omega) (fun _ h => h.fewer (.cons _ (.refl _)))
   ·show _ = wDt s f st2 refs2 (inc nodes k.toNat)
    rw [hI, treeF_node h57 hz1, ← hfold]
   have hk0n := (hfew.2 k.toNat).1
   have hw : IntKind.i64.wrap (nodes.getD k.toNat 0 + 1) = nodes.getD k.toNat 0 + 1 := IntWalk.i64_in _ (by have := (hfew.2 k.toNat).2; omega)
   rw [hw, if_pos (by omega), if_neg (by omega)] at hz
   show st2.length + 6 * zer (nodes.set k.toNat _) ≤ f
   rw [hw]; simp only at hfl; omega
  refine wAc (jT (wAk rfl (wAs (jTx (jTx (jBx (jT (wAb (wAa (jp rfl (wAc (jT (wAf ?_)))))))))))))
  obtain rfl : st = [] := List.eq_nil_of_length_eq_zero (by omega)
  rw [treeF_nil] at hI
  refine wJj (L' := [(cb, .cells (wGe bv wv nv lw pb m refs nodes vs).toArray TCn (0, 0)), (m, wDh l2)]) (fun w h => h.fewer (List.sublist_append_right _ _)) ?_
  refine jr1 rfl rfl ?_
  unfold TreeP; rw [if_pos hroot, hI]
  exact ⟨rfl, l2, rfl, hmi1, hext1⟩
 refine jp rfl (wAc (jT (wAg rfl (wAb (wAa (jp rfl (wAc (jT (wAf (jTr (wAu (L' := []) (List.nil_sublist _) ?_)))))))))))
 refine jr1 rfl rfl ?_
 unfold TreeP
 rw [if_neg (by
  rcases hlr2 with ⟨h1, _⟩ | ⟨ys, h1, _, _, h2, _⟩
  ·rw [rtOk_no h1]; decide
  rw [rtOk_is h1, ← h2, h13]; decide)]
 exact ⟨rfl, rfl⟩
end Go.Proofs.YtbhkdjheooknfaaGreat
