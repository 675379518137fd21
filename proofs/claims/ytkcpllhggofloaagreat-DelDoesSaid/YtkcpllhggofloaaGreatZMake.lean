/- Walks: stores made. -/
import Derived.Test.YtkcpllhggofloaaGreatZOwn
namespace Go.Proofs.YtkcpllhggofloaaGreat
set_option linter.unusedSimpArgs false
set_option linter.unusedVariables false
set_option linter.unusedSectionVars false
open Go.RowKit
abbrev THp : TypeId := 154
def wEk (pre : List By) (rem : Nat) : List Value := wAj pre ++ List.replicate rem (Value.int .u8 0)
theorem hcells_len (pre : List By) (rem : Nat) : (wEk pre rem).length = pre.length + rem := by simp [wEk, wAj]
theorem hcells_step {pre x : List By} {rem : Nat} (h : x.length ≤ rem) : (wEk pre rem).take pre.length ++ wAj x ++ (wEk pre rem).drop (pre.length + (wAj x).length) = wEk (pre ++ x) (rem - x.length) := by
 unfold wEk
 rw [List.take_left' (wAm pre), wAm, List.drop_append, wAm, List.drop_eq_nil_of_le (by rw [wAm]; omega), List.nil_append, Nat.add_sub_cancel_left, List.drop_replicate]
 simp [wAj]
def hv (hb done rem : Nat) : Value := .slice (some ⟨hb, if 0 < rem then done else 0, none⟩) rem rem
theorem clone_walk (b8 hb : Nat) (pre x : List By) (rem : Nat) (a : Option Addr) (c : Nat) (M : Mem) (hc : x.length ≤ c) (hs : SM M a (wAj x)) (h0 : 0 < x.length) (hr : x.length ≤ rem) (hn : rem ≤ 1000000000) :
  SpecL Tryz.prog 91 #[.pointer (some ⟨b8, 0, none⟩), .slice a x.length c] M [(b8, .cells [.slice (some ⟨hb, pre.length, none⟩) rem rem].toArray THp (0, 0)), (hb, .cells (wEk pre rem).toArray 5 (0, 0))] fun u M' L' => u = .slice (some ⟨hb, pre.length, none⟩) x.length x.length ∧ M = M' ∧ L' = [(b8, .cells [.slice (slA (some ⟨hb, pre.length, none⟩) x.length rem 1) (rem - x.length) (rem - x.length)].toArray THp (0, 0)), (hb, .cells (wEk (pre ++ x) (rem - x.length)).toArray 5 (0, 0))] := by
 refine wAf (vs := [_, _]) 26 _ Tryz.func91 rfl Tryz.ntmps91 rfl rfl ?_; intro W
 refine wAb (wAa (jp rfl (wAc (jT (wAb (wAa (jp rfl (wAi rfl rfl (wBw rfl rfl rfl) ?_))))))))
 refine sLd rfl ?_
 refine jp rfl ?_
 refine wAy rfl rfl (hCopy (cs := wAj x) rfl rfl rfl rfl (by rw [wAm]; omega) (hs.sj _) (wBv _) (by rw [wAm, hcells_len]; omega)) ?_; rintro _ _ _ ⟨rfl, rfl, rfl⟩
 rw [hcells_step hr, wAm]
 refine jp rfl (wAc (jT (wAb (wAa (jp rfl (wAi rfl rfl (wBw rfl rfl rfl) ?_))))))
 refine sLd rfl ?_
 refine jp rfl (jp rfl ?_)
 refine wAi rfl rfl (qEq (qSl rfl rfl rfl (.of (v := x.length) rfl (by omega) (by omega)) (.of (v := x.length) rfl (by omega) (by omega)) (.no _) (by omega) (by simp)) (v' := .slice (some ⟨hb, pre.length, none⟩) x.length x.length) (by rw [wCx]; rfl)) ?_
 refine jp rfl (wAc (jT (wAb (wAa (jp rfl (jp rfl (wAi rfl rfl (wBw rfl rfl rfl) ?_)))))))
 refine sLd rfl ?_
 refine jp rfl (wAi rfl rfl (qSl rfl rfl rfl (.no _) (.no _) (.of (v := x.length) rfl (by omega) (by omega)) (by omega) (by simp)) ?_)
 refine wAi rfl rfl (wBw rfl rfl rfl) ?_
 refine sSt rfl ?_
 refine wAc (jT (wAb (wAa (jp rfl (jp rfl (wAc (jT (wAe (jr1 rfl rfl ?_)))))))))
 exact ⟨rfl, rfl, rfl⟩
theorem wKp : ∀ {ds : List (List By)}, (∀ d ∈ ds, d.length = 128) → ds.flatten.length = 128 * ds.length
 | [], _ => rfl
 | d :: ds, h => by
  rw [List.flatten_cons, List.length_append, h d (by simp), wKp (fun x hx => h x (by simp [hx])), List.length_cons]; omega
theorem flat128_get : ∀ {ds : List (List By)} {j i : Nat}, (∀ d ∈ ds, d.length = 128) → i < 128 → ds.flatten[128 * j + i]? = (ds[j]?).bind (·[i]?)
 | [], j, i, _, _ => by simp
 | d :: ds, 0, i, h, hi => by
  rw [List.flatten_cons, List.getElem?_append_left (by rw [h d (by simp)]; omega)]; simp
 | d :: ds, j + 1, i, h, hi => by
  rw [List.flatten_cons, List.getElem?_append_right (by rw [h d (by simp)]; omega), h d (by simp), show 128 * (j + 1) + i - 128 = 128 * j + i by omega, flat128_get (fun x hx => h x (by simp [hx])) hi]; simp
theorem hcells_zero (n : Nat) : (List.replicate ((n : Nat) : Int).toNat [Value.int .u8 0]).flatten = wEk [] n := by simp [wEk, wAj]
def nilV : Value := .slice none 0 0
def cutV (hb j : Nat) : Value := .slice (some ⟨hb, 128 * j, none⟩) 128 128
def blC (hb n i : Nat) : List Value := (List.range i).map (cutV hb) ++ List.replicate (n - i) nilV
def wrC (hb n : Nat) (ws : List Wt) (i : Nat) : List Value := (List.range i).flatMap (fun j => [.int .i64 (ws.getD j (0, [])).1, cutV hb (n + j)]) ++ (List.replicate (ws.length + 1 - i) [.int .i64 0, nilV]).flatten
theorem wMb (hb n : Nat) : (List.replicate ((n : Nat) : Int).toNat [Value.slice none 0 0]).flatten = blC hb n 0 := by simp [blC, nilV]
theorem wKt (hb n : Nat) (ws : List Wt) (k : Int) (hk : k = ((ws.length + 1 : Nat) : Int)) : (List.replicate k.toNat [Value.int .i64 0, Value.slice none 0 0]).flatten = wrC hb n ws 0 := by rw [hk]; simp [wrC, nilV]
theorem blC_len {hb n i : Nat} (h : i ≤ n) : (blC hb n i).length = n := by simp [blC]; omega
theorem wrC_len {hb n i : Nat} {ws : List Wt} (h : i ≤ ws.length) : (wrC hb n ws i).length = 2 * (ws.length + 1) := by
 have e : ∀ k, ((List.range k).flatMap (fun j => [Value.int .i64 (ws.getD j (0, [])).1, cutV hb (n + j)])).length = 2 * k := fun k => by
  induction k with
  | zero => rfl
  | succ k ih => rw [List.range_succ, List.flatMap_append, List.length_append, ih]; simp; omega
 rw [wrC, List.length_append, e]; simp; omega
theorem blC_step {hb n i o : Nat} (h : i < n) (ho : o = i) : (blC hb n i).take o ++ [cutV hb i] ++ (blC hb n i).drop (o + [cutV hb i].length) = blC hb n (i + 1) := by
 subst ho
 have hr : ((List.range o).map (cutV hb)).length = o := by simp
 unfold blC
 rw [List.take_left' hr, List.drop_append, List.drop_eq_nil_of_le (by rw [hr]; simp), hr, List.nil_append, List.drop_replicate, List.range_succ, List.map_append]
 simp
 omega
theorem wrC_step {hb n i o : Nat} {ws : List Wt} (h : i < ws.length) (ho : o = i * 2) {cs : List Value} (hcs : cs = [.int .i64 (ws.getD i (0, [])).1, cutV hb (n + i)]) : (wrC hb n ws i).take o ++ cs ++ (wrC hb n ws i).drop (o + cs.length) = wrC hb n ws (i + 1) := by
 subst ho; subst hcs
 have hr : ((List.range i).flatMap (fun j => [Value.int .i64 (ws.getD j (0, [])).1, cutV hb (n + j)])).length = i * 2 := by
  induction i with
  | zero => rfl
  | succ k ih => rw [List.range_succ, List.flatMap_append, List.length_append, ih (by omega)]; simp; omega
 unfold wrC
 rw [List.take_left' hr, List.drop_append, List.drop_eq_nil_of_le (by rw [hr]; simp), hr, List.nil_append, List.range_succ, List.flatMap_append]
 rw [show ws.length + 1 - i = (ws.length + 1 - (i + 1)) + 1 by omega, List.replicate_succ, List.flatten_cons]
 simp
theorem range_getD (bs : List (List By)) : (List.range bs.length).map (fun j => bs.getD j []) = bs := by
 apply List.ext_getElem?
 intro i
 by_cases h : i < bs.length
 ·simp [List.getElem?_map, List.getElem?_range h, h]
 simp [h]
theorem range_getW (ws : List Wt) : (List.range ws.length).map (fun j => ws.getD j (0, [])) = ws := by
 apply List.ext_getElem?
 intro i
 by_cases h : i < ws.length
 ·simp [List.getElem?_map, List.getElem?_range h, h]
 simp [h]
theorem cut_bs {M : Mem} {hb j : Nat} {ds : List (List By)} (h : ∀ d ∈ ds, d.length = 128) (hm : M hb = some (.cells (wEk ds.flatten 0).toArray 5 (0, 0))) (hj : j < ds.length) : BS M (cutV hb j) ds[j] := by
 have hl := h ds[j] (List.getElem_mem hj)
 refine ⟨_, 128, by rw [hl]; rfl, by omega, .inr ⟨hb, 128 * j, rfl, fun i u hu => ⟨_, _, _, hm, ?_⟩⟩⟩
 have hi : i < 128 := by
  have := (List.getElem?_eq_some_iff.1 hu).1
  rw [wAm, hl] at this; exact this
 have h2 := flat128_get (j := j) h hi
 rw [List.getElem?_eq_getElem hj, Option.bind_some] at h2
 simp only [wEk, List.replicate_zero, List.append_nil, wAj, List.getElem?_toArray, List.getElem?_map] at hu ⊢
 rw [h2]; exact hu
theorem SpecL.own {P : Program} {f : FuncId} {args : Array Value} {M : Mem} {post post' : Value → Mem → Lc → Prop} (h : SpecL P f args M [] post)
  (hk : ∀ v M' L', post v M' L' → ∃ u e sz n xs, Own u L' e sz n xs ∧ ∀ M'' a c, MLe M' M'' → u = .slice a n c → n ≤ c → SM M'' a xs → post' v M'' []) : SpecL P f args M [] post' := fun w hw =>
 (h w hw).mono fun e w' ⟨v, M', L', h1, h2, h3⟩ => by
  obtain ⟨u, t, sz, n, xs, h4, h5⟩ := hk v M' L' h2
  obtain ⟨M'', a, c, k1, k2, k3, k4, k5⟩ := h4.freeze (X := []) (L := []) (fun _ _ h => by cases h) (by rw [List.append_nil]; exact h3)
  exact ⟨v, M'', [], h1, h5 M'' a c k1 k2 k3 k4, k5⟩
abbrev TSt : TypeId := 28
theorem wCb {xs : List By} {k j : Nat} {v : By} (h : j ≠ k) : (xs.set k v).getD j 0 = xs.getD j 0 := by
 simp only [List.getD, List.getElem?_set]; rw [if_neg (fun e => h e.symm)]
theorem take_set8 {xs : List By} {k : Nat} {v : By} (h : 8 ≤ k) : (xs.set k v).take 8 = xs.take 8 := by
 rw [List.take_set]; rw [List.set_eq_of_length_le]; rw [List.length_take]; omega
theorem wMa {xs : List By} {k : Nat} {v : By} (h : 8 ≤ k) (hx : ctOk xs) : ctOk (xs.set k v) := by
 unfold ctOk at *; rw [List.length_set, take_set8 h]; exact hx
theorem frAt_ge (s : Sto) : ∀ (f k : Nat), k ≤ frAt s f k
 | 0, k => Nat.le_refl _
 | f + 1, k => by
  rw [frAt]; split
  ·exact Nat.le_refl _
  exact Nat.le_trans (Nat.le_succ k) (frAt_ge s f (k + 1))
theorem shareL_ok {s : Sto} {xs : List It} (h : ctOk s.now) (hr : ∀ x ∈ xs, x.ref = 0 ∨ 8 ≤ x.ref ∧ x.ref < 256) : ctOk (wAx s xs).now := by
 unfold wAx
 induction xs generalizing s with
 | nil => exact h
 | cons x xs ih =>
  rw [List.foldl_cons]
  refine ih ?_ (fun y hy => hr y (by simp [hy]))
  have := hr x (by simp)
  split
  ·exact h
  exact wMa (by omega) h
theorem mkS_ok {s : Sto} {lv : Int} {xs : List It} (hst : wCc s) (hok : wEv lv xs = true) (hat : wEt (wAx s xs) < 256) (hwl : s.waits.length < 4096) : wCc (mkS s lv xs) := by
 obtain ⟨⟨q1, q2, q3, q4⟩, h2, h3⟩ := hst
 obtain ⟨e1, e2, e3, e4⟩ := wDp s xs
 have hno := NdOk.of hok
 refine ⟨⟨?_, ?_, ?_, ?_⟩, ?_, ?_⟩
 ·show (wAx s xs).blocks.length = 256; rw [e4]; exact q1
 ·show ((wAx s xs).waits ++ [_]).length ≤ 4096; rw [e2, List.length_append]; show _ + 1 ≤ _; omega
 ·show ∀ b ∈ (wAx s xs).blocks, _; rw [e4]; exact q3
 ·show ∀ w ∈ (wAx s xs).waits ++ [_], _
  rw [e2]
  intro w hw
  rcases List.mem_append.1 hw with hw | hw
  ·exact q4 w hw
  rw [List.mem_singleton.1 hw]
  refine ⟨by omega, by omega, wLc ?_⟩
  have := wHu (fun x hx => (wDh hno.ok x hx).1)
  have := hno.len
  unfold wDr; rw [List.length_append]; show 3 + _ ≤ 124; omega
 ·exact wMa (frAt_ge _ _ _) (shareL_ok h2 hno.ref)
 show ctOk (wAx s xs).last; rw [e3]; exact h3
end Go.Proofs.YtkcpllhggofloaaGreat
