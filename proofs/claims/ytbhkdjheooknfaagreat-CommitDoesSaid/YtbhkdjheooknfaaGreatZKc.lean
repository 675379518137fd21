/- Walks: all of the document's volumes of a pool. -/
import Derived.Test.YtbhkdjheooknfaaGreatZRk
import Derived.Test.YtbhkdjheooknfaaGreatZTake
namespace Go.Proofs.YtbhkdjheooknfaaGreat
set_option linter.unusedSimpArgs false
set_option linter.unusedVariables false
set_option linter.unusedSectionVars false
open Go.RowKit
theorem icell_one {M : Mem} {ps : List (It × Value)} (hb : ∀ p ∈ ps, BS M p.2 p.1.val) : ∀ u ∈ ps.flatMap wCp, u.oneCell' = true := by
 intro u hu
 obtain ⟨p, hp, h⟩ := List.mem_flatMap.1 hu
 obtain ⟨a, c, e, _⟩ := hb p hp
 unfold wCp at h
 rw [e] at h
 exact List.all_eq_true.1 (rfl : ([Value.int .u8 p.1.key.kind, .int .u32 p.1.key.id, .int .u32 p.1.key.off, .int .i64 p.1.ref, .slice a p.1.val.length c].all fun v => v.oneCell') = true) u h
theorem flat_le2 {α β : Type} {f : α → List β} {m : Nat} (h : ∀ x, (f x).length ≤ m) : ∀ xs : List α, (xs.flatMap f).length ≤ m * xs.length
 | [] => by simp
 | x :: xs => by
  rw [List.flatMap_cons, List.length_append, List.length_cons, Nat.mul_add, Nat.mul_one]
  have := h x; have := flat_le2 h xs; omega
theorem allOne_len (s : Sto) : ∀ (l : Nat) (x : It), (wFd s l x).length ≤ 5 ^ l
 | 0, x => by simp [wFd]
 | l + 1, x => by
  rw [wFd, Nat.pow_succ]
  exact Nat.le_trans (flat_le2 (allOne_len s l) _) (Nat.mul_le_mul_left _ (kid_len s x))
theorem wKi {s : Sto} {l : Nat} {xs : List It} (hl : l < 6) (hx : xs.length ≤ 5) : (xs.flatMap (wFd s l)).length ≤ 15625 := by
 refine Nat.le_trans (flat_le2 (allOne_len s l) xs) ?_
 have : 5 ^ l ≤ 5 ^ 5 := Nat.pow_le_pow_right (by omega) (by omega)
 exact Nat.le_trans (Nat.mul_le_mul this hx) (by decide)
theorem all_zero {s : Sto} {xs : List It} : allL s 0 xs = xs := by unfold allL; simp [wFd]
def ItS (s : Sto) (l : Nat) : Prop := ∀ (k : Int) (ys : List It) (u : Value) (M : Mem), ST M u s → 0 ≤ k ∧ k ≤ 100000 → wCu s k.toNat = some ((l : Int), ys) → wHa s l ys → SpecL Tryz.prog 99 #[u, .int .i64 k] M [] fun v M' L' => NS M' v (allL s l ys) ∧ L' = []
theorem ritems_leaf (s : Sto) (hst : wDr s) (bv wv nv lv0 : Value) (M : Mem) (hS : ST M (.agg #[bv, wv, nv, lv0]) s) (root : Int) (hk : 0 ≤ root ∧ root ≤ 100000) (xs : List It) (hnd : wCu s root.toNat = some (0, xs)) :
  SpecL Tryz.prog 99 #[.agg #[bv, wv, nv, lv0], .int .i64 root] M [] fun u M' L' => NS M' u (allL s 0 xs) ∧ L' = [] := by
 refine wAe (vs := [_, _]) 38 _ Tryz.func99 rfl Tryz.ntmps99 rfl rfl ?_; intro W
 refine wAb (wAa (wAv rfl rfl (wBw (cs := [_, _, _, _]) rfl rfl rfl rfl) ?_)); rintro _ _ _ ⟨b2, rfl, rfl, rfl⟩
 refine jp rfl (wAc (jT (wAb (wAa (sLL rfl ?_)))))
 refine jp rfl (wAv rfl rfl (wAt rfl rfl rfl rfl rfl (by kernel_rfl) (wHo s _ M hS hst root hk hnd)) ?_); rintro _ M1 _ ⟨hM1, _, rfl, ⟨⟨a, c, ps0, rfl, hc, hs, hp, hb⟩, rfl⟩⟩
 refine jp rfl (jp rfl (jp rfl (sAl rfl fun b5 => ?_)))
 refine sSt rfl ?_
 refine jp rfl (wAc (jT (wAb (wAb (wAa (sFL rfl rfl ?_))))))
 refine jt rfl (decide_eq_true (by omega)) ?_
 refine wAc (jT (wAg rfl (wAb (wAa (sFL rfl rfl ?_)))))
 refine jp rfl (wAc (jT (wAf (jTr (wAu (L' := []) (List.nil_sublist _) ?_)))))
 refine jr1 rfl rfl ?_
 exact ⟨by rw [all_zero]; exact ⟨a, c, ps0, rfl, hc, hs, hp, hb⟩, rfl⟩
set_option maxHeartbeats 2000000 in
theorem ritems_up (s : Sto) (hst : wDr s) (bv wv nv lv0 : Value) (M : Mem) (hS : ST M (.agg #[bv, wv, nv, lv0]) s) (root : Int) (hk : 0 ≤ root ∧ root ≤ 100000) (xs : List It) (l : Nat) (hnd : wCu s root.toNat = some (((l + 1 : Nat) : Int), xs)) (htr : wHa s (l + 1) xs) (ih : ItS s l) :
  SpecL Tryz.prog 99 #[.agg #[bv, wv, nv, lv0], .int .i64 root] M [] fun u M' L' => NS M' u (allL s (l + 1) xs) ∧ L' = [] := by
 have hno := wBy hnd
 have hx5 := hno.len
 have hlv := hno.lev
 refine wAe (vs := [_, _]) 38 _ Tryz.func99 rfl Tryz.ntmps99 rfl rfl ?_; intro W
 refine wAb (wAa (wAv rfl rfl (wBw (cs := [_, _, _, _]) rfl rfl rfl rfl) ?_)); rintro _ _ _ ⟨b2, rfl, rfl, rfl⟩
 refine jp rfl (wAc (jT (wAb (wAa (sLL rfl ?_)))))
 refine jp rfl (wAv rfl rfl (wAt rfl rfl rfl rfl rfl (by kernel_rfl) (wHo s _ M hS hst root hk hnd)) ?_); rintro _ M1 _ ⟨hM1, _, rfl, ⟨⟨a, c, ps0, rfl, hc, hs, hp, hb⟩, rfl⟩⟩
 refine jp rfl (jp rfl (jp rfl (sAl rfl fun b5 => ?_)))
 refine sSt rfl ?_
 refine jp rfl (wAc (jT (wAb (wAb (wAa (sFL rfl rfl ?_))))))
 refine jf rfl (decide_eq_false (by omega)) ?_
 refine wAc (jT (wAk rfl (wAd (jT (wAb (wAa (jp rfl (wAc (jT (wAb (wAb (wAa (jp rfl (wAc (jT (wAh ?_))))))))))))))))
 refine wAo (α := Nat × Mem × Option Addr × Nat × Lc × List (It × Value)) (fun z => [(2, .pointer (some ⟨b2, 0, none⟩)), (5, .pointer (some ⟨b5, 0, none⟩)), (7, .slice z.2.2.1 z.2.2.2.2.2.length z.2.2.2.1), (8, .int .i64 z.1)]) (fun z => z.2.1) (fun z => z.2.2.2.2.1 ++ [(b5, .cells [Value.int .i64 ((l + 1 : Nat) : Int), .slice a xs.length c].toArray 111 (0, 0)), (b2, .cells [bv, wv, nv, lv0].toArray 28 (0, 0))]) (fun z => z.1 ≤ xs.length ∧ MLe M1 z.2.1 ∧ Own (.slice z.2.2.1 z.2.2.2.2.2.length z.2.2.2.1) z.2.2.2.2.1 IT 5 z.2.2.2.2.2.length (z.2.2.2.2.2.flatMap wCp) ∧ z.2.2.2.2.2.map (·.1) = (xs.take z.1).flatMap (wFd s (l + 1)) ∧ ∀ p ∈ z.2.2.2.2.2, BS z.2.1 p.2 p.1.val) (fun z => xs.length - z.1)
  (0, M1, none, 0, [], []) (.cons (t := 2) rfl (.cons (t := 5) rfl (.cons (t := 7) rfl (.cons (t := 8) rfl .nil)))) ⟨Nat.zero_le _, MLe.refl _, Own.nil _ _, by simp, fun _ h => by cases h⟩ (fun _ h => h) ?_
 rintro ⟨k, Mk, oa, oc, R, ps⟩ ⟨hk0, hMk, hO, hpm, hpb⟩
 try dsimp only at hk0 hMk hO hpm hpb ⊢
 refine wAb (wAb (wAa (jp rfl (sFL rfl rfl ?_))))
 refine wAi rfl rfl (wBe rfl rfl rfl) ?_
 refine js rfl (fun h24 => ?_) (fun h24 => ?_)
 ·refine wAc (jT (wAg rfl (wAd (jT (wAb (wAh (wBn [(0, true), (1, true), (2, true), (3, true), (4, true), (5, true), (6, true), (7, true), (8, false), (9, false), (10, true)] [(b5, .cells [Value.int .i64 ((l + 1 : Nat) : Int), .slice a xs.length c].toArray 111 (0, 0)), (b2, .cells [bv, wv, nv, lv0].toArray 28 (0, 0))] (by kernel_rfl) (by kernel_rfl) (by kernel_rfl) rfl (by simp) ?_)))))))
  refine dp rfl rfl ?_
  refine dLL rfl rfl ?_
  refine dFa rfl rfl ?_
  refine dLd rfl rfl ?_
  refine dp rfl rfl ?_
  have hk1 : k < xs.length := by omega
  obtain ⟨sb, so, va, vc, e0, hcl, hvc, hvs⟩ := it_get hs hp hb hk1 (i := (k : Int)) rfl
  have hrf := hno.ref _ (List.getElem_mem hk1)
  obtain ⟨ys, hyn, hys0, hyt⟩ := tree_child htr (List.getElem_mem hk1)
  have hkid : kid s xs[k] = ys := by unfold kid; rw [hyn]
  refine wBh rfl rfl rfl (wCf rfl rfl rfl rfl e0 (by omega)) ?_
  refine dFa rfl rfl ?_
  refine wBh rfl rfl rfl (qLd rfl rfl rfl rfl (((hcl 3 _ rfl).mono hMk).cj _)) ?_
  refine wDy rfl rfl rfl (wAt rfl rfl rfl rfl rfl (by kernel_rfl) (ih xs[k].ref ys _ Mk (hS.mono (hM1.trans hMk)) (by omega) hyn hyt)) ?_; rintro _ M2 _ ⟨hM2, _, rfl, ⟨hns2, rfl⟩⟩
  refine ⟨_, _, MLe.refl _, hM2, fun _ h => h, by simp, ?_⟩
  obtain ⟨a2, c2, ps2, rfl, hc2, hs2, hp2, hb2⟩ := hns2
  have hl2 : ps2.length = (allL s l ys).length := by rw [← hp2, List.length_map]
  have hsm := wKi (s := s) (l := l + 1) (xs := xs.take k) (by omega) (by rw [List.length_take]; omega)
  have hsm2 := wKi (s := s) (l := l) (xs := ys) (by omega) (wBy hyn).len
  have hpl := congrArg List.length hpm
  rw [List.length_map] at hpl
  refine wDy rfl rfl rfl (wBk (R := R) rfl rfl rfl rfl hO (by rw [wBm wCp 5 wCw, hl2]) hs2 rfl (icell_one hb2) (by unfold allL; omega) (by omega)) ?_; rintro v36 _ _ ⟨rfl, R36, rfl, o36⟩
  refine ⟨_, _, MLe.refl _, hM2, fun _ h => h, by simp, ?_⟩
  obtain ⟨a36, c36, rfl⟩ := o36.form
  refine dp rfl rfl ?_
  refine wBg (jPn (jB (jT (wAa (jp rfl (ja rfl (by omega) ?_))))))
  refine jp rfl (wAc ?_)
  refine wAn (k + 1, M2, a36, c36, R36, ps ++ ps2) (.cons (t := 2) rfl (.cons (t := 5) rfl (Keep.ceq (t := 7) rfl (by rw [List.length_append, hl2]) (.cons (t := 8) rfl .nil)))) ⟨by show k + 1 ≤ xs.length; omega, hMk.trans hM2, ?_, ?_, ?_⟩ (by show xs.length - (k + 1) < xs.length - k; omega) (fun _ h => h.subC fun f => by simp only [List.map_append, List.map_cons, List.map_nil, List.sum_append, List.sum_cons, List.sum_nil]; omega)
  ·show Own (.slice a36 (ps ++ ps2).length c36) R36 IT 5 (ps ++ ps2).length ((ps ++ ps2).flatMap wCp)
   rw [List.length_append, hl2, List.flatMap_append]; exact o36
  ·show (ps ++ ps2).map (·.1) = (xs.take (k + 1)).flatMap (wFd s (l + 1))
   rw [List.map_append, hpm, hp2, List.take_succ_eq_append_getElem hk1, List.flatMap_append, List.flatMap_cons, List.flatMap_nil, List.append_nil, wFd, hkid]; rfl
  intro p hp3
  rcases List.mem_append.1 hp3 with hp3 | hp3
  ·exact (hpb p hp3).mono hM2
  exact hb2 p hp3
 refine wAc (jT (wAk rfl (wAs (jTx (jTx (jBx (jT (wAb (wAa (jp rfl (jp rfl (wAc (jT (wAf (wAu (L' := R) (by simp) ?_)))))))))))))))
 refine wGi hO (by simp) ?_
 intro M9 a9 c9 hM9 e9 hc9 hs9; cases e9
 refine jr1 rfl rfl ?_
 obtain rfl : k = xs.length := by omega
 rw [List.take_length] at hpm
 have hpl : ps.length = (allL s (l + 1) xs).length := by unfold allL; rw [← hpm, List.length_map]
 exact ⟨⟨_, _, ps, by rw [hpl], by rw [← hpl]; exact hc9, hs9, hpm, fun p hp => (hpb p hp).mono hM9⟩, rfl⟩
theorem ritems_all (s : Sto) (hst : wDr s) : ∀ l, ItS s l := by
 intro l
 induction l with
 | zero =>
  intro k ys u M hS hk hnd htr
  obtain ⟨b, w, n, l0, rfl, _⟩ := hS.ex
  exact ritems_leaf s hst b w n l0 M hS k hk ys hnd
 | succ l ih =>
  intro k ys u M hS hk hnd htr
  obtain ⟨b, w, n, l0, rfl, _⟩ := hS.ex
  exact ritems_up s hst b w n l0 M hS k hk ys l hnd htr ih
inductive Rcs (s : Sto) (rs : List Int) : Nat → Prop
 | root {r : Int} (h : r ∈ rs) : Rcs s rs r.toNat
 | kid {n : Nat} {lv : Int} {ys : List It} {x : It} (h : Rcs s rs n) (hnd : wCu s n = some (lv, ys)) (hl : 0 < lv) (hx : x ∈ ys) : Rcs s rs x.ref.toNat
theorem Rcs.mono {s : Sto} {rs rs' : List Int} (h : ∀ r ∈ rs, r ∈ rs') {n : Nat} (hn : Rcs s rs n) : Rcs s rs' n := by
 induction hn with
 | root hr => exact .root (h _ hr)
 | kid _ hnd hl hx ih => exact .kid ih hnd hl hx
def wHw (xs : List It) (k : Nat) : Int := ((xs.filter fun x => decide (x.ref = (k : Int) ∧ x.ref ≠ 0)).length : Int)
def cnt (s : Sto) (n k : Nat) : Int := match wCu s n with | some (_, xs) => wHw xs k | none => 0
def sg (s : Sto) (p : List Int) (k : Nat) : Int := ((List.range 256).map fun n => if 0 < p.getD n 0 then cnt s n k else 0).sum
theorem cntL_app (xs ys : List It) (k : Nat) : wHw (xs ++ ys) k = wHw xs k + wHw ys k := by
 unfold wHw; rw [List.filter_append, List.length_append]; omega
theorem cntL_le (xs : List It) (k : Nat) : 0 ≤ wHw xs k ∧ wHw xs k ≤ xs.length := by
 unfold wHw
 have := List.length_filter_le (fun x : It => decide (x.ref = (k : Int) ∧ x.ref ≠ 0)) xs
 omega
theorem cnt_le (s : Sto) (n k : Nat) : 0 ≤ cnt s n k ∧ cnt s n k ≤ 5 := by
 unfold cnt
 split
 ·rename_i lv xs h
  have := (wBy h).len
  have := cntL_le xs k
  omega
 omega
theorem sum_le {f : Nat → Int} {b : Int} (h : ∀ n, 0 ≤ f n ∧ f n ≤ b) : ∀ m : Nat, 0 ≤ ((List.range m).map f).sum ∧ ((List.range m).map f).sum ≤ m * b
 | 0 => by simp
 | m + 1 => by
  rw [List.range_succ, List.map_append, List.sum_append]
  have h1 := sum_le h m
  have h2 := h m
  simp only [List.map_cons, List.map_nil, List.sum_cons, List.sum_nil]
  have h3 : ((m + 1 : Nat) : Int) * b = (m : Int) * b + b := by push_cast; rw [Int.add_mul, Int.one_mul]
  omega
theorem sum_at {f g : Nat → Int} {n : Nat} (h : ∀ j, j ≠ n → f j = g j) : ∀ m : Nat, ((List.range m).map f).sum = ((List.range m).map g).sum + if n < m then f n - g n else 0
 | 0 => by simp
 | m + 1 => by
  rw [List.range_succ, List.map_append, List.sum_append, List.map_append, List.sum_append, sum_at h m]
  simp only [List.map_cons, List.map_nil, List.sum_cons, List.sum_nil]
  by_cases e : m = n
  ·subst e; rw [if_neg (Nat.lt_irrefl _), if_pos (Nat.lt_succ_self _)]; omega
  rw [h m e]
  by_cases h2 : n < m
  ·rw [if_pos h2, if_pos (by omega)]; omega
  rw [if_neg h2, if_neg (by omega)]; omega
theorem sg_le (s : Sto) (p : List Int) (k : Nat) : 0 ≤ sg s p k ∧ sg s p k ≤ 1280 := by
 have := sum_le (f := fun n => if 0 < p.getD n 0 then cnt s n k else 0) (b := 5) (fun n => by have := cnt_le s n k; split <;> omega) 256
 unfold sg; omega
theorem sg_new {s : Sto} {p q : List Int} {n : Nat} (hn : n < 256) (h0 : ¬ 0 < p.getD n 0) (h1 : 0 < q.getD n 0) (h : ∀ j, j ≠ n → q.getD j 0 = p.getD j 0) (k : Nat) : sg s q k = sg s p k + cnt s n k := by
 unfold sg
 rw [sum_at (f := fun n => if 0 < q.getD n 0 then cnt s n k else 0) (g := fun n => if 0 < p.getD n 0 then cnt s n k else 0) (n := n) (fun j hj => by rw [h j hj]) 256, if_pos hn, if_pos h1, if_neg h0]; omega
theorem sg_same {s : Sto} {p q : List Int} (h : ∀ n, n < 256 → (0 < q.getD n 0 ↔ 0 < p.getD n 0)) (k : Nat) : sg s q k = sg s p k := by
 unfold sg
 congr 1
 refine List.map_congr_left fun n hn => ?_
 have := h n (List.mem_range.1 hn)
 by_cases h1 : 0 < p.getD n 0
 ·rw [if_pos h1, if_pos (this.2 h1)]
 rw [if_neg h1, if_neg (fun h2 => h1 (this.1 h2))]
structure Fin (s : Sto) (rs : List Int) (R N : List Int) : Prop where
 eq : ∀ k, k < 256 → R.getD k 0 = (rs.count (k : Int) : Int) + sg s N k
 on : ∀ n, 0 < N.getD n 0 ↔ Rcs s rs n
theorem Fin.same {s : Sto} {rs R N R' N' : List Int} (h : Fin s rs R N) (h' : Fin s rs R' N') {k : Nat} (hk : k < 256) : R'.getD k 0 = R.getD k 0 := by
 rw [h.eq k hk, h'.eq k hk, sg_same (fun n _ => (h'.on n).trans (h.on n).symm)]
structure Frj (s : Sto) (rs st R N : List Int) : Prop where
 len : R.length = 256
 eq : ∀ k, k < 256 → R.getD k 0 = (rs.count (k : Int) : Int) + sg s N k
 pd : ∀ k ∈ st, (8 ≤ k ∧ k < 256) ∧ Rcs s rs k.toNat ∧ ∃ (l : Nat) (ys : List It), wCu s k.toNat = some ((l : Int), ys) ∧ wHa s l ys
 me : ∀ n, 0 < N.getD n 0 → Rcs s rs n
 cl : ∀ n, 0 < N.getD n 0 → ∀ lv ys, wCu s n = some (lv, ys) → 0 < lv → ∀ y ∈ ys, 0 < N.getD y.ref.toNat 0 ∨ y.ref ∈ st
 rt : ∀ r ∈ rs, 0 < N.getD r.toNat 0 ∨ r ∈ st
theorem Frj.fin {s : Sto} {rs R N : List Int} (h : Frj s rs [] R N) : Fin s rs R N := by
 refine ⟨h.eq, fun n => ⟨h.me n, fun hn => ?_⟩⟩
 induction hn with
 | root hr => exact (h.rt _ hr).resolve_right (by simp)
 | kid _ hnd hl hx ih => exact (h.cl _ ih _ _ hnd hl _ hx).resolve_right (by simp)
theorem incw {r : List Int} {k : Nat} (hk : k < r.length) (hb : 0 ≤ r.getD k 0 ∧ r.getD k 0 ≤ 4000000000000000000) (j : Nat) : (inc r k).getD j 0 = if j = k then r.getD k 0 + 1 else r.getD j 0 := by
 unfold inc
 rw [show IntKind.i64.wrap (r.getD k 0 + 1) = r.getD k 0 + 1 from IntWalk.i64_in _ (by omega)]
 by_cases e : j = k
 ·subst e; rw [if_pos rfl]; simp [List.getD, hk]
 rw [if_neg e]; simp [List.getD, List.getElem?_set_ne (fun h => e h.symm)]
structure FoS (lv : Int) (xs : List It) (R st R' st' : List Int) : Prop where
 len : R'.length = R.length
 eq : ∀ k, k < 256 → R'.getD k 0 = R.getD k 0 + wHw xs k
 sub : ∀ z ∈ st, z ∈ st'
 all : 0 < lv → ∀ y ∈ xs, y.ref ≠ 0 → y.ref ∈ st'
 back : ∀ z ∈ st', z ∈ st ∨ (0 < lv ∧ ∃ y ∈ xs, z = y.ref)
 few : st'.length ≤ st.length + xs.length
theorem fold_is {lv : Int} : ∀ {xs : List It} {R st : List Int}, R.length = 256 → (∀ y ∈ xs, y.ref = 0 ∨ 8 ≤ y.ref ∧ y.ref < 256) → (∀ k, 0 ≤ R.getD k 0 ∧ R.getD k 0 + xs.length ≤ 4000000000000000000) → FoS lv xs R st (xs.foldl (wEd lv) (R, st)).1 (xs.foldl (wEd lv) (R, st)).2
 | [], R, st, _, _, _ => { len := rfl, eq := fun k _ => by show R.getD k 0 = R.getD k 0 + wHw [] k; simp [wHw], sub := fun _ h => h, all := fun _ y h => absurd h (List.not_mem_nil), back := fun _ h => Or.inl h, few := Nat.le_refl _ }
 | x :: xs, R, st, hR, hx, hb => by
  rw [List.foldl_cons]
  have hb' := fun k => hb k
  simp only [List.length_cons] at hb'
  by_cases h0 : x.ref = 0
  ·have e : wEd lv (R, st) x = (R, st) := by unfold wEd; rw [if_pos h0]
   rw [e]
   have ih := fold_is (lv := lv) (xs := xs) (R := R) (st := st) hR (fun y hy => hx y (by simp [hy])) (fun k => by have := hb' k; omega)
   refine ⟨ih.len, fun k hk => ?_, ih.sub, fun hl y hy hn => ?_, fun z hz => ?_, by have := ih.few; simp only [List.length_cons]; omega⟩
   ·rw [ih.eq k hk]
    have : wHw (x :: xs) k = wHw xs k := by unfold wHw; rw [List.filter_cons_of_neg (by simp [h0])]
    rw [this]
   ·rcases List.mem_cons.1 hy with rfl | hy
    ·exact absurd h0 hn
    exact ih.all hl y hy hn
   rcases ih.back z hz with h | ⟨h1, y, h2, h3⟩
   ·exact .inl h
   exact .inr ⟨h1, y, by simp [h2], h3⟩
  have hr := (hx x (by simp)).resolve_left h0
  have hbr := hb' x.ref.toNat
  have hi := fun j => incw (r := R) (k := x.ref.toNat) (by omega) (by omega) j
  obtain ⟨st1, hst1⟩ : ∃ st1, st1 = (if 0 < lv then st ++ [x.ref] else st) := ⟨_, rfl⟩
  have e : wEd lv (R, st) x = (inc R x.ref.toNat, st1) := by unfold wEd; rw [if_neg h0, hst1]
  rw [e]
  have ih := fold_is (lv := lv) (xs := xs) (R := inc R x.ref.toNat) (st := st1) (by rw [wEn]; exact hR) (fun y hy => hx y (by simp [hy])) (fun k => by rw [hi k]; have := hb' k; split <;> rename_i e <;> (try subst e) <;> omega)
  have hs1 : ∀ z ∈ st, z ∈ st1 := fun z hz => by rw [hst1]; split <;> simp [hz]
  refine ⟨by rw [ih.len, wEn], fun k hk => ?_, fun z hz => ih.sub z (hs1 z hz), fun hl y hy hn => ?_, fun z hz => ?_, ?_⟩
  ·rw [ih.eq k hk, hi k]
   by_cases e2 : k = x.ref.toNat
   ·rw [if_pos e2]
    have : wHw (x :: xs) k = wHw xs k + 1 := by unfold wHw; rw [List.filter_cons_of_pos (by simp [h0]; omega), List.length_cons]; omega
    rw [this, e2]; omega
   rw [if_neg e2]
   have : wHw (x :: xs) k = wHw xs k := by unfold wHw; rw [List.filter_cons_of_neg (by simp; omega)]
   rw [this]
  ·rcases List.mem_cons.1 hy with rfl | hy
   ·exact ih.sub _ (by rw [hst1, if_pos hl]; simp)
   exact ih.all hl y hy hn
  ·rcases ih.back z hz with h | ⟨h1, y, h2, h3⟩
   ·rw [hst1] at h
    split at h
    ·rename_i hl
     rcases List.mem_append.1 h with h | h
     ·exact .inl h
     exact .inr ⟨hl, x, by simp, List.mem_singleton.1 h⟩
    exact .inl h
   exact .inr ⟨h1, y, by simp [h2], h3⟩
  have := ih.few
  have h2 : st1.length ≤ st.length + 1 := by rw [hst1]; split <;> simp
  simp only [List.length_cons]; omega
theorem Frj.bd {s : Sto} {rs st R N : List Int} (h : Frj s rs st R N) (hrs : rs.length ≤ 100000) (k : Nat) : 0 ≤ R.getD k 0 ∧ R.getD k 0 + 5 ≤ 4000000000000000000 := by
 rcases Nat.lt_or_ge k 256 with hk | hk
 ·rw [h.eq k hk]
  have h1 := sg_le s N k
  have h2 := List.count_le_length (a := (k : Int)) (l := rs)
  omega
 have e : R.getD k 0 = 0 := by rw [List.getD, List.getElem?_eq_none (by have := h.len; omega)]; rfl
 rw [e]; omega
theorem treeF_frj {s : Sto} {rs : List Int} (hrs : rs.length ≤ 100000) : ∀ (f : Nat) {st R N : List Int} {g : Nat}, Frj s rs st R N → Few (g + f) N → st.length + 6 * zer N ≤ f → Frj s rs [] (wDt s f st R N).1 (wDt s f st R N).2 ∧ Few g (wDt s f st R N).2
 | 0, st, R, N, g, h, hF, hm => by
  have : st = [] := List.eq_nil_of_length_eq_zero (by omega)
  subst this
  exact ⟨h, hF⟩
 | f + 1, st, R, N, g, h, hF, hm => by
  rcases List.eq_nil_or_concat st with rfl | ⟨st0, k, rfl⟩
  ·rw [treeF_nil]; exact ⟨h, hF.less (by omega)⟩
  rw [List.concat_eq_append] at *
  obtain ⟨hk, hR, l, xs, hnd, htr⟩ := h.pd k (by simp)
  have hFi := Few.inc (f := g + f) (nodes := N) hF (k := k.toNat) (by omega)
  have hbk := hF.2 k.toNat
  have hi := fun j => incw (r := N) (k := k.toNat) (by rw [hF.1]; omega) (by omega) j
  rw [List.length_append, List.length_singleton] at hm
  by_cases hc : 1 < (inc N k.toNat).getD k.toNat 0
  ·rw [treeF_again hc]
   have hon : ∀ j, 0 < (inc N k.toNat).getD j 0 ↔ 0 < N.getD j 0 := fun j => by
    rw [hi j]
    have h3 := hi k.toNat
    rw [if_pos rfl] at h3
    rw [h3] at hc
    split
    ·rename_i e; subst e; exact ⟨fun _ => by omega, fun _ => by omega⟩
    exact Iff.rfl
   have hkon : 0 < N.getD k.toNat 0 := by
    have h3 := hi k.toNat
    rw [if_pos rfl] at h3
    omega
   have hz : zer (inc N k.toNat) = zer N := by
    have h3 := zer_set (nodes := N) (k := k.toNat) (v := IntKind.i64.wrap (N.getD k.toNat 0 + 1)) (by rw [hF.1]; omega)
    rw [IntWalk.i64_in _ (by omega), if_neg (by omega), if_neg (by omega)] at h3
    unfold inc; rw [IntWalk.i64_in _ (by omega)]; omega
   refine treeF_frj hrs f ⟨h.len, fun j hj => by rw [h.eq j hj, sg_same (fun n _ => hon n)], fun z hz => h.pd z (by simp [hz]), fun n hn => h.me n ((hon n).1 hn), fun n hn lv ys h1 h2 y hy => ?_, fun r hr => ?_⟩ hFi.1 (by omega)
   ·rcases h.cl n ((hon n).1 hn) lv ys h1 h2 y hy with h3 | h3
    ·exact .inl ((hon _).2 h3)
    rcases List.mem_append.1 h3 with h3 | h3
    ·exact .inr h3
    rw [List.mem_singleton.1 h3]; exact .inl ((hon _).2 hkon)
   rcases h.rt r hr with h3 | h3
   ·exact .inl ((hon _).2 h3)
   rcases List.mem_append.1 h3 with h3 | h3
   ·exact .inr h3
   rw [List.mem_singleton.1 h3]; exact .inl ((hon _).2 hkon)
  rw [treeF_node hc hnd]
  have hno := wBy hnd
  have h3 := hi k.toNat
  rw [if_pos rfl] at h3
  have hk0 : N.getD k.toNat 0 = 0 := by omega
  have hfs := fold_is (lv := (l : Int)) (xs := xs) (R := R) (st := st0) h.len hno.ref (fun j => by have := h.bd hrs j; have := hno.len; omega)
  obtain ⟨R', hR'⟩ : ∃ R', R' = (xs.foldl (wEd (l : Int)) (R, st0)).1 := ⟨_, rfl⟩
  obtain ⟨st', hst'⟩ : ∃ st', st' = (xs.foldl (wEd (l : Int)) (R, st0)).2 := ⟨_, rfl⟩
  rw [← hR', ← hst'] at hfs ⊢
  have hon : ∀ j, 0 < (inc N k.toNat).getD j 0 ↔ j = k.toNat ∨ 0 < N.getD j 0 := fun j => by
   rw [hi j]
   split
   ·rename_i e; exact ⟨fun _ => .inl e, fun _ => by omega⟩
   rename_i e; exact ⟨.inr, fun h => h.resolve_left e⟩
  have hz : zer (inc N k.toNat) + 1 = zer N := by
   have h4 := zer_set (nodes := N) (k := k.toNat) (v := IntKind.i64.wrap (N.getD k.toNat 0 + 1)) (by rw [hF.1]; omega)
   rw [IntWalk.i64_in _ (by omega), if_pos hk0, if_neg (by omega)] at h4
   unfold inc; rw [IntWalk.i64_in _ (by omega)]; omega
  have hml := hno.len
  have hmf := hfs.few
  refine treeF_frj hrs f ⟨by rw [hfs.len]; exact h.len, fun j hj => ?_, fun z hz => ?_, fun n hn => ?_, fun n hn lv ys h1 h2 y hy => ?_, fun r hr => ?_⟩ hFi.1 (by omega)
  ·rw [hfs.eq j hj, h.eq j hj, sg_new (p := N) (q := inc N k.toNat) (n := k.toNat) (by omega) (by omega) (by omega) (fun i hi2 => by rw [hi i, if_neg hi2]) j]
   have hcn : cnt s k.toNat j = wHw xs j := by unfold cnt; rw [hnd]
   rw [hcn]; omega
  ·rcases hfs.back z hz with h4 | ⟨hl, y, hy, rfl⟩
   ·exact h.pd z (by simp [h4])
   obtain ⟨l', rfl⟩ : ∃ l', l = l' + 1 := ⟨l - 1, by omega⟩
   obtain ⟨zs, h5, _, h6⟩ := tree_child htr hy
   have := hno.up hl y hy
   have := hno.ref y hy
   exact ⟨by omega, .kid hR hnd hl hy, l', zs, h5, h6⟩
  ·rcases (hon n).1 hn with rfl | hn
   ·exact hR
   exact h.me n hn
  ·rcases (hon n).1 hn with rfl | hn
   ·rw [hnd] at h1; cases h1
    exact .inr (hfs.all h2 y hy (hno.up h2 y hy))
   rcases h.cl n hn lv ys h1 h2 y hy with h4 | h4
   ·exact .inl ((hon _).2 (.inr h4))
   rcases List.mem_append.1 h4 with h4 | h4
   ·exact .inr (hfs.sub _ h4)
   rw [List.mem_singleton.1 h4]; exact .inl ((hon _).2 (.inl rfl))
  rcases h.rt r hr with h4 | h4
  ·exact .inl ((hon _).2 (.inr h4))
  rcases List.mem_append.1 h4 with h4 | h4
  ·exact .inr (hfs.sub _ h4)
  rw [List.mem_singleton.1 h4]; exact .inl ((hon _).2 (.inl rfl))
theorem rt_tree {s : Sto} {r : Int} (h : wGx s r = true) : (8 ≤ r ∧ r < 256) ∧ ∃ (l : Nat) (ys : List It), wCu s r.toNat = some ((l : Int), ys) ∧ wHa s l ys := by
 obtain ⟨h1, h2, lv, xs, _, h4, h5⟩ := rtOk_in h
 have hlv := (wBy h4).lev
 refine ⟨⟨h1, h2⟩, lv.toNat, xs, by rw [h4, Int.toNat_of_nonneg hlv.1], fun hx => ?_⟩
 unfold wEb at h5; rw [if_neg hx] at h5; exact h5
theorem zer_le (N : List Int) : zer N ≤ N.length := List.countP_le_length
theorem Frj.more {s : Sto} {rs R N : List Int} (h : Frj s rs [] R N) {r : Int} (hr : wGx s r = true) (hrs : rs.length ≤ 100000) : Frj s (rs ++ [r]) [r] (inc R r.toNat) N := by
 obtain ⟨hr1, l, ys, hr2, hr3⟩ := rt_tree hr
 have hb := h.bd hrs r.toNat
 have hi := fun j => incw (r := R) (k := r.toNat) (by rw [h.len]; omega) (by omega) j
 refine ⟨by rw [wEn]; exact h.len, fun k hk => ?_, fun z hz => ?_, fun n hn => (h.me n hn).mono (fun r hr => by simp [hr]), fun n hn lv ys h1 h2 y hy => .inl ((h.cl n hn lv ys h1 h2 y hy).resolve_right (by simp)), fun z hz => ?_⟩
 ·rw [hi k, List.count_append, List.count_singleton]
  by_cases e : k = r.toNat
  ·rw [if_pos e, if_pos (by simp; omega), ← e, h.eq k hk]; push_cast; omega
  rw [if_neg e, if_neg (by simp; omega), h.eq k hk]; simp
 ·rw [List.mem_singleton.1 hz]; exact ⟨hr1, .root (by simp), l, ys, hr2, hr3⟩
 rcases List.mem_append.1 hz with hz | hz
 ·exact .inl ((h.rt z hz).resolve_right (by simp))
 exact .inr hz
theorem treesF_frj {s : Sto} : ∀ {rs2 rs1 R N R' N' : List Int} {g : Nat}, Frj s rs1 [] R N → Few (g + 1600 * rs2.length) N → (rs1 ++ rs2).length ≤ 100000 → wDc s rs2 R N = some (R', N') → Frj s (rs1 ++ rs2) [] R' N'
 | [], rs1, R, N, R', N', g, h, hF, hl, e => by
  rw [wDc] at e; cases e; rw [List.append_nil]; exact h
 | r :: rs2, rs1, R, N, R', N', g, h, hF, hl, e => by
  rw [wDc] at e
  split at e
  ·rename_i hr
   rw [List.length_append, List.length_cons] at hl
   have h2 := treeF_frj (s := s) (rs := rs1 ++ [r]) (by rw [List.length_append, List.length_singleton]; omega) F0 (g := g + 1600 * rs2.length) (h.more hr (by omega)) (hF.less (by rw [List.length_cons]; unfold F0; omega)) (by
    have := zer_le N; rw [hF.1] at this; rw [List.length_singleton]; unfold F0; omega)
   have h3 := treesF_frj (rs1 := rs1 ++ [r]) h2.1 h2.2 (by simp; omega) e
   rwa [List.append_assoc, List.singleton_append] at h3
  cases e
theorem Frj.start (s : Sto) : Frj s [] [] zI zI := by
 have hz : ∀ k, zI.getD k 0 = 0 := fun k => by unfold zI; rw [List.getD, List.getElem?_replicate]; split <;> rfl
 refine ⟨wJa, fun k hk => ?_, fun z hz => (by cases hz), fun n hn => ?_, fun n hn => ?_, fun r hr => (by cases hr)⟩
 ·rw [hz]
  have : sg s zI k = 0 := by
   unfold sg
   have := sum_le (f := fun n => if 0 < zI.getD n 0 then cnt s n k else 0) (b := 0) (fun n => by rw [hz, if_neg (by omega)]; omega) 256
   omega
  rw [this]; simp
 ·rw [hz] at hn; omega
 rw [hz] at hn; omega
theorem trees_fin {s : Sto} {rs R N : List Int} (hl : rs.length ≤ 600) (h : wDc s rs zI zI = some (R, N)) : Fin s rs R N :=
 (treesF_frj (rs1 := []) (g := 0) (Frj.start s) (zI_few _ (by omega)) (by simp; omega) h).fin
theorem SpecL.frz {P : Program} {f : FuncId} {args : Array Value} {M : Mem} {e : TypeId} {sz n : Nat} {xs : List Value} (h : SpecL P f args M [] fun u M' L' => M' = M ∧ Own u L' e sz n xs) : SpecL P f args M [] fun u M' L' => ∃ a c, u = .slice a n c ∧ n ≤ c ∧ SM M' a xs ∧ L' = [] := by
 intro w hw
 refine (h w hw).mono fun e w' hh => ?_
 obtain ⟨v, M', R', rfl, ⟨rfl, ho⟩, hst⟩ := hh
 have hg : ∀ p ∈ R', p.1 ∉ (([] : Lc).map (·.1)) := fun p _ hm => by cases hm
 obtain ⟨M2, a, c, k1, k2, k3, k4, k5⟩ := ho.freeze (L := []) hg (by rw [List.append_nil]; exact hst)
 exact ⟨v, M2, [], rfl, ⟨a, c, k2, k3, k4, rfl⟩, k5⟩
set_option maxHeartbeats 1000000 in
theorem ritem14_spec (v : Vo) (M : Mem) (hr : 0 ≤ v.root ∧ v.root < 65536) (hf : 0 ≤ v.frm ∧ v.frm < 4294967296) :
  SpecL Tryz.prog 115 #[.agg (voc v).toArray] M [] fun u M' L' => (∃ va vc, u = .agg (itc (oneIt v) va vc).toArray ∧ (oneIt v).val.length ≤ vc ∧ SM M' va (wAj (oneIt v).val)) ∧ L' = [] := by
 refine wAe (vs := [_]) 23 _ Tryz.func115 rfl Tryz.ntmps115 rfl rfl ?_; intro W
 refine wAb (wAa (wAv rfl rfl (wBw (cs := [_, _, _, _]) rfl rfl rfl rfl) ?_)); rintro _ _ _ ⟨b1, rfl, rfl, rfl⟩
 refine sAl rfl fun b2 => ?_
 refine wAc (jT (wAb (wAa (sFL rfl rfl ?_))))
 refine wAv rfl rfl (wAt rfl rfl rfl rfl rfl (by kernel_rfl) (wFm v.root 2 M hr.1 (by omega) (by omega))) ?_; rintro _ _ _ ⟨_, R7, rfl, ⟨rfl, o7⟩⟩
 rw [lowB_two hr.1] at o7
 obtain ⟨a7, c7, rfl⟩ := o7.form
 refine jp rfl (wAc (jT (wAb (wAa (jp rfl (wAc (jT (wAb (wAb (wAa (sFa rfl ?_)))))))))))
 refine wDf rfl rfl (qLd rfl rfl rfl rfl (CJ.loc rfl)) (fun h9 => ?_) (fun h9 => ?_)
 ·refine wAc (jT (wAg rfl (wAa (jp rfl (wAc (jT (wAb (wAa (jp rfl (jp rfl (wAv rfl rfl (wAr (cs := [.int .u8 ((bB true).toNat : Int)]) rfl rfl rfl (by rfl) (by rfl) (by rfl)) ?_))))))))))); rintro _ _ _ ⟨b12, rfl, rfl, rfl⟩
  refine wAv rfl rfl (wCr (R := R7) (m := 1) (news := [Value.int .u8 ((bB true).toNat : Int)]) rfl rfl rfl rfl o7 rfl (fun j v hv => CJ.loc (by rw [Nat.zero_add]; simpa using hv)) rfl rfl (fun u hu => by rw [List.mem_singleton.1 hu]; rfl) (by omega) (by omega)) ?_; rintro v13 _ _ ⟨rfl, R13, rfl, o13, _⟩
  obtain ⟨a13, c13, rfl⟩ := o13.form
  refine jp rfl (wAc (jT (wAb (wBn [(0, true), (1, true), (2, true), (3, true), (4, true), (5, true), (6, false), (7, false), (8, true), (9, false)] [(b1, .cells (voc v).toArray 119 (0, 0))] (by kernel_rfl) (by kernel_rfl) (by kernel_rfl) rfl (by simp) ?_))))
  refine dFa rfl rfl ?_
  refine dLd rfl rfl ?_
  refine wBh rfl rfl rfl (wAq (cs := [_, _, _]) rfl rfl rfl (by rfl)) ?_
  refine dp rfl rfl ?_
  refine dFa rfl rfl ?_
  refine dLd rfl rfl ?_
  refine wDy rfl rfl rfl (wAt rfl rfl rfl rfl rfl (by kernel_rfl) (SpecL.frz (wDv v.frm _ hf.1 hf.2))) ?_; rintro _ M20 _ ⟨hM20, _, rfl, ⟨a20, c20, rfl, hc20, hs20, rfl⟩⟩
  refine ⟨_, _, MLe.refl _, hM20, fun _ h => h, by simp, ?_⟩
  refine wDy rfl rfl rfl (wBk (R := R13) rfl rfl rfl rfl o13 (by rw [wAm]; rfl) hs20 rfl (wBf _) (by omega) (by omega)) ?_; rintro v21 _ _ ⟨rfl, R21, rfl, o21⟩
  refine ⟨_, _, MLe.refl _, hM20, fun _ h => h, by simp, ?_⟩
  obtain ⟨a21, c21, rfl⟩ := o21.form
  refine wBh rfl rfl rfl (wAq (cs := [_, _, _, _, _]) rfl rfl rfl (by rfl)) ?_
  refine jd_s rfl rfl (wBd rfl rfl rfl rfl rfl rfl rfl rfl) ?_; rintro _ _ _ ⟨rfl, rfl⟩
  refine ⟨_, _, MLe.refl _, hM20, fun _ h => h, by simp, ?_⟩
  refine wBg (jPn (jT (wAf (wGi o21 (by simp) ?_))))
  intro M9 a9 c9 hM9 e9 hc9 hs9; cases e9
  refine wBr (rs := [_]) ([]) (by exact List.nil_sublist _) rfl (.cons (.agg rfl rfl rfl) .nil) ?_
  have e : wAj (oneIt v).val = wAj (wGn v.root) ++ [Value.int .u8 ((bB v.frz).toNat : Int)] ++ wAj (wEj v.frm) := by show wAj (voB v) = _; unfold voB; simp [wAj]
  rw [h9] at e
  exact ⟨⟨_, _, rfl, hc9, by rw [e]; exact hs9⟩, rfl⟩
 refine wAc (jT (wAk rfl (wAd (jT (wAb (wAa (jp rfl (jp rfl (wAv rfl rfl (wAr (cs := [.int .u8 ((bB false).toNat : Int)]) rfl rfl rfl (by rfl) (by rfl) (by rfl)) ?_))))))))); rintro _ _ _ ⟨b12, rfl, rfl, rfl⟩
 refine wAv rfl rfl (wCr (R := R7) (m := 1) (news := [Value.int .u8 ((bB false).toNat : Int)]) rfl rfl rfl rfl o7 rfl (fun j v hv => CJ.loc (by rw [Nat.zero_add]; simpa using hv)) rfl rfl (fun u hu => by rw [List.mem_singleton.1 hu]; rfl) (by omega) (by omega)) ?_; rintro v13 _ _ ⟨rfl, R13, rfl, o13, _⟩
 obtain ⟨a13, c13, rfl⟩ := o13.form
 refine jp rfl (wAc (jT (wAb (wBn [(0, true), (1, true), (2, true), (3, true), (4, true), (5, true), (6, false), (7, false), (8, true), (9, false)] [(b1, .cells (voc v).toArray 119 (0, 0))] (by kernel_rfl) (by kernel_rfl) (by kernel_rfl) rfl (by simp) ?_))))
 refine dFa rfl rfl ?_
 refine dLd rfl rfl ?_
 refine wBh rfl rfl rfl (wAq (cs := [_, _, _]) rfl rfl rfl (by rfl)) ?_
 refine dp rfl rfl ?_
 refine dFa rfl rfl ?_
 refine dLd rfl rfl ?_
 refine wDy rfl rfl rfl (wAt rfl rfl rfl rfl rfl (by kernel_rfl) (SpecL.frz (wDv v.frm _ hf.1 hf.2))) ?_; rintro _ M20 _ ⟨hM20, _, rfl, ⟨a20, c20, rfl, hc20, hs20, rfl⟩⟩
 refine ⟨_, _, MLe.refl _, hM20, fun _ h => h, by simp, ?_⟩
 refine wDy rfl rfl rfl (wBk (R := R13) rfl rfl rfl rfl o13 (by rw [wAm]; rfl) hs20 rfl (wBf _) (by omega) (by omega)) ?_; rintro v21 _ _ ⟨rfl, R21, rfl, o21⟩
 refine ⟨_, _, MLe.refl _, hM20, fun _ h => h, by simp, ?_⟩
 obtain ⟨a21, c21, rfl⟩ := o21.form
 refine wBh rfl rfl rfl (wAq (cs := [_, _, _, _, _]) rfl rfl rfl (by rfl)) ?_
 refine jd_s rfl rfl (wBd rfl rfl rfl rfl rfl rfl rfl rfl) ?_; rintro _ _ _ ⟨rfl, rfl⟩
 refine ⟨_, _, MLe.refl _, hM20, fun _ h => h, by simp, ?_⟩
 refine wBg (jPn (jT (wAf (wGi o21 (by simp) ?_))))
 intro M9 a9 c9 hM9 e9 hc9 hs9; cases e9
 refine wBr (rs := [_]) ([]) (by exact List.nil_sublist _) rfl (.cons (.agg rfl rfl rfl) .nil) ?_
 have e : wAj (oneIt v).val = wAj (wGn v.root) ++ [Value.int .u8 ((bB v.frz).toNat : Int)] ++ wAj (wEj v.frm) := by show wAj (voB v) = _; unfold voB; simp [wAj]
 rw [h9] at e
 exact ⟨⟨_, _, rfl, hc9, by rw [e]; exact hs9⟩, rfl⟩
theorem getF_rng (ys : List By) : 0 ≤ wHj ys ∧ wHj ys < 4294967296 := by
 rcases List.eq_nil_or_concat ys with rfl | ⟨zs, y, rfl⟩
 ·exact ⟨by decide, by decide⟩
 rw [List.concat_eq_append, wFp]; exact bOr_u32 _ _
theorem vol_not {x : It} (h : x.val.length ≠ 7) : ¬ wCy x := fun hv => h (by rw [← hv.2]; rfl)
theorem vol_dec {x : It} (h : x.val.length = 7) : decide (oneIt (wCm x) = x) = decide (wCy x) := decide_eq_decide.2 ⟨fun e => ⟨by omega, e⟩, fun e => e.2⟩
theorem rvolume_no (x : It) (va : Option Addr) (vc : Nat) (M : Mem) (hc : x.val.length ≤ vc) (hs : SM M va (wAj x.val)) (hn : x.val.length ≤ 1000000) (h : x.val.length ≠ 7) :
  SpecL Tryz.prog 100 #[.agg (itc x va vc).toArray] M [] fun u _ L' => (∃ v, u = .tuple #[.agg (voc v).toArray, .bool (decide (wCy x))] ∧ (wCy x → v = wCm x)) ∧ L' = [] := by
 refine wAe (vs := [_]) 38 _ Tryz.func100 rfl Tryz.ntmps100 rfl rfl ?_; intro W
 refine wAb (wAa (wAv rfl rfl (wBw (cs := [_, _, _, _, _]) rfl rfl rfl rfl) ?_)); rintro _ _ _ ⟨b1, rfl, rfl, rfl⟩
 refine sAl rfl fun b2 => ?_
 refine jp rfl (wAc (jT (wAb (wAb (wAa (sFL rfl rfl ?_))))))
 refine wAi rfl rfl (wBe rfl rfl rfl) ?_
 refine jt rfl (decide_eq_true (by omega)) ?_
 refine wAc (jT (wAg rfl (wAb (wAa (wAi rfl rfl (wAq (cs := [_, _, _, _]) rfl rfl rfl (by rfl)) ?_)))))
 refine sSt rfl ?_
 refine jp rfl (wAc (jT (wAf (jTr (wBr (rs := [_, _]) ([]) (by exact List.nil_sublist _) rfl (.cons (.agg rfl rfl rfl) (.cons (.tmp rfl) .nil)) ?_)))))
 exact ⟨⟨⟨0, 0, false, 0⟩, by rw [decide_eq_false (vol_not h)]; rfl, fun hv => absurd hv (vol_not h)⟩, rfl⟩
set_option maxHeartbeats 1000000 in
theorem rvolume_yes (x : It) (va : Option Addr) (vc : Nat) (M : Mem) (hc : x.val.length ≤ vc) (hs : SM M va (wAj x.val)) (hn : x.val.length ≤ 1000000) (h : x.val.length = 7) :
  SpecL Tryz.prog 100 #[.agg (itc x va vc).toArray] M [] fun u _ L' => (∃ v, u = .tuple #[.agg (voc v).toArray, .bool (decide (wCy x))] ∧ (wCy x → v = wCm x)) ∧ L' = [] := by
 have hk2 : 2 < x.val.length := by omega
 have hg2 := getN_two x.val 0
 refine wAe (vs := [_]) 38 _ Tryz.func100 rfl Tryz.ntmps100 rfl rfl ?_; intro W
 refine wAb (wAa (wAv rfl rfl (wBw (cs := [_, _, _, _, _]) rfl rfl rfl rfl) ?_)); rintro _ _ _ ⟨b1, rfl, rfl, rfl⟩
 refine sAl rfl fun b2 => ?_
 refine jp rfl (wAc (jT (wAb (wAb (wAa (sFL rfl rfl ?_))))))
 refine wAi rfl rfl (wBe rfl rfl rfl) ?_
 refine jf rfl (decide_eq_false (by omega)) ?_
 refine wAc (jT (wAk rfl (wAd (jT (wAb (wBn [(0, true), (1, true), (2, true), (3, true), (4, true), (5, true), (6, true), (7, true), (8, true), (9, false), (10, false)] [(b1, .cells (itc x va vc).toArray 152 (0, 0))] (by kernel_rfl) (by kernel_rfl) (by kernel_rfl) rfl (by simp) ?_))))))
 refine dFa rfl rfl ?_
 refine dFa rfl rfl ?_
 refine dLd rfl rfl ?_
 refine dFa rfl rfl ?_
 refine dLd rfl rfl ?_
 obtain ⟨sb, so, e0, hcl⟩ := wEv hs hk2
 refine wBh rfl rfl rfl (wCf rfl rfl rfl rfl e0 (by omega)) ?_
 refine wBh rfl rfl rfl (qLd rfl rfl rfl rfl (hcl.cj _)) ?_
 refine wBh rfl rfl rfl (qEq (qP rfl rfl) (v' := .bool (decide (((x.val.getD 2 0).toNat : Int) = 1))) (by rw [wDb hk2])) ?_
 refine wBh rfl rfl rfl (wAq (cs := [_, _, _, _]) rfl rfl rfl (by rfl)) ?_
 refine wDy rfl rfl rfl (wCx rfl rfl) ?_; rintro _ _ _ ⟨b4, rfl, rfl, rfl⟩
 refine ⟨_, _, MLe.refl _, MLe.refl _, fun _ h => h, by simp, ?_⟩
 refine jd_s rfl rfl (wBd rfl rfl rfl rfl rfl rfl rfl rfl) ?_; rintro _ _ _ ⟨rfl, rfl⟩
 refine ⟨_, _, MLe.refl _, (by first | exact hM1 | exact MLe.refl _), fun _ h => h, by simp, ?_⟩
 refine wBg (jPn (jT (wAb (wAa (sFL rfl rfl ?_)))))
 refine wAi rfl rfl (wAy rfl rfl rfl rfl rfl (by kernel_rfl) (wHc _ vc x.val 0 M hs hc (by omega) hn)) ?_
 refine jp rfl (jp rfl (jp rfl (sFa rfl ?_)))
 refine sSt rfl ?_
 refine wAc (jT (wAb (wAa (sFL rfl rfl ?_))))
 refine wAi rfl rfl (wAy rfl rfl rfl rfl rfl (by kernel_rfl) (wDa _ vc x.val 3 M hs hc (by omega) hn)) ?_
 refine jp rfl (jp rfl (jp rfl (sFa rfl ?_)))
 refine sSt rfl ?_
 refine wAc (jT (wAb (wBn [(0, true), (1, true), (3, true), (2, false), (4, true), (5, false), (6, true)] [(b4, .cells [Value.int .u32 x.key.id, .int .i64 (wGm x.val 0 2), .bool (decide (((x.val.getD 2 0).toNat : Int) = 1)), .int .u32 (wGm x.val 3 4)].toArray 119 (0, 0)), (b1, .cells (itc x va vc).toArray 152 (0, 0))] (by kernel_rfl) (by kernel_rfl) (by kernel_rfl) rfl (by simp) ?_)))
 refine dLL rfl rfl ?_
 refine dLL rfl rfl ?_
 refine dLL rfl rfl ?_
 refine wDy rfl rfl rfl (wAt rfl rfl rfl rfl rfl (by kernel_rfl) (ritem14_spec (wCm x) M hg2 (getF_rng _))) ?_; rintro _ M1 _ ⟨hM1, _, rfl, ⟨⟨wa, wc, rfl, hwc, hws⟩, rfl⟩⟩
 refine ⟨M1, _, hM1, MLe.refl _, fun _ h => h, by simp, ?_⟩
 refine wBh rfl rfl rfl (wAy rfl rfl rfl rfl rfl (by kernel_rfl) (rsame5_spec (oneIt (wCm x)) x wa va wc vc M1 hws (hs.mono hM1))) ?_
 refine jd_s rfl rfl (wBd rfl rfl rfl rfl rfl rfl rfl rfl) ?_; rintro _ _ _ ⟨rfl, rfl⟩
 refine ⟨_, _, MLe.refl _, (by first | exact hM1 | exact MLe.refl _), fun _ h => h, by simp, ?_⟩
 refine dp rfl rfl ?_
 refine wBg (jPn (jT (wAf (wBr (rs := [_, _]) ([]) (by exact List.nil_sublist _) rfl (.cons (.agg rfl rfl rfl) (.cons (.tmp rfl) .nil)) ?_))))
 exact ⟨⟨wCm x, by rw [← vol_dec h]; rfl, fun _ => rfl⟩, rfl⟩
theorem rvolume_spec (x : It) (va : Option Addr) (vc : Nat) (M : Mem) (hc : x.val.length ≤ vc) (hs : SM M va (wAj x.val)) (hn : x.val.length ≤ 1000000) : SpecL Tryz.prog 100 #[.agg (itc x va vc).toArray] M [] fun u _ L' => (∃ v, u = .tuple #[.agg (voc v).toArray, .bool (decide (wCy x))] ∧ (wCy x → v = wCm x)) ∧ L' = [] := by
 by_cases h : x.val.length = 7
 ·exact rvolume_yes x va vc M hc hs hn h
 exact rvolume_no x va vc M hc hs hn h
theorem voc_len (v : Vo) : (voc v).length = 4 := rfl
theorem all_not {xs : List It} {k : Nat} (hk : k < xs.length) (h : ¬ wCy xs[k]) : (xs.all fun x => decide (wCy x)) = false := List.all_eq_false.2 ⟨xs[k], List.getElem_mem hk, by simpa using h⟩
def AllP (xs : List It) (u : Value) (M' : Mem) : Prop := if (xs.all fun x => decide (wCy x)) = true then ∃ a c, u = .tuple #[.slice a xs.length c, .bool true] ∧ xs.length ≤ c ∧ SM M' a ((xs.map wCm).flatMap voc) else u = .tuple #[.slice none 0 0, .bool false]
set_option maxHeartbeats 2000000 in
theorem rall14_walk (bv wv nv lw dv : Value) (gen root next : Int) (xs : List It) (M : Mem) (hn : xs.length ≤ 100000) (hvl : ∀ x ∈ xs, x.val.length ≤ 1000) (hit : SpecL Tryz.prog 99 #[.agg #[bv, wv, nv, lw], .int .i64 root] M [] fun v M' L' => NS M' v xs ∧ L' = [])  :
  SpecL Tryz.prog 82 #[.agg #[bv, wv, nv, lw, .int .u32 gen, .int .i64 root, .int .u32 next, dv]] M [] fun u M' L' => AllP xs u M' ∧ L' = [] := by
 refine wAe (vs := [_]) 35 _ Tryz.func82 rfl Tryz.ntmps82 rfl rfl ?_; intro W
 refine wAb (wAa (wAv rfl rfl (wBw (cs := [_, _, _, _, _, _, _, _]) rfl rfl rfl rfl) ?_)); rintro _ _ _ ⟨b1, rfl, rfl, rfl⟩
 refine jp rfl (jp rfl (wAc (jT (wAb (wAa (sFa rfl ?_))))))
 refine sLL rfl ?_
 refine sFL rfl rfl ?_
 refine wAv rfl rfl (wAt rfl rfl rfl rfl rfl (by kernel_rfl) hit) ?_; rintro _ M1 _ ⟨hM1, _, rfl, ⟨⟨ia, ic, ps0, rfl, hc, hs, hp, hb⟩, rfl⟩⟩
 refine jp rfl (wAc (jT (wAb (wAa (jp rfl (wAc (jT (wAb (wAb (wAa (jp rfl (wAc (jT (wAh ?_))))))))))))))
 refine wAo (α := Nat × Mem × Option Addr × Nat × Lc) (fun z => [(1, .pointer (some ⟨b1, 0, none⟩)), (4, .slice ia xs.length ic), (5, .slice z.2.2.1 z.1 z.2.2.2.1), (6, .int .i64 z.1)]) (fun z => z.2.1) (fun z => z.2.2.2.2 ++ [(b1, .cells [bv, wv, nv, lw, .int .u32 gen, .int .i64 root, .int .u32 next, dv].toArray 32 (0, 0))]) (fun z => z.1 ≤ xs.length ∧ MLe M1 z.2.1 ∧ Own (.slice z.2.2.1 z.1 z.2.2.2.1) z.2.2.2.2 119 4 z.1 (((xs.take z.1).map wCm).flatMap voc) ∧ ∀ y ∈ xs.take z.1, wCy y) (fun z => xs.length - z.1)
  (0, M1, none, 0, []) (.cons (t := 1) rfl (.cons (t := 4) rfl (.cons (t := 5) rfl (.cons (t := 6) rfl .nil)))) ⟨Nat.zero_le _, MLe.refl _, Own.nil _ _, fun y h => by simp at h⟩ (fun _ h => h) ?_
 rintro ⟨k, Mk, oa, oc, R⟩ ⟨hk, hMk, hO, hall⟩
 try dsimp only at hk hMk hO hall ⊢
 refine wAb (wAb (wAa (jp rfl (jp rfl (wAi rfl rfl (wBe rfl rfl rfl) ?_)))))
 refine js rfl (fun h17 => ?_) (fun h17 => ?_)
 ·refine wAc (jT (wAg rfl (wAd (jT (wAb (wAh (wAb (wAa (jp rfl (jp rfl ?_))))))))))
  have hk1 : k < xs.length := by omega
  obtain ⟨sb, so, va, vc, e0, hcl, hvc, hvs⟩ := it_get hs hp hb hk1 (i := (k : Int)) rfl
  refine wAi rfl rfl (wCf rfl rfl rfl rfl e0 (by omega)) ?_
  refine wAi rfl rfl (wGp (cs := itc xs[k] va vc) rfl rfl rfl rfl rfl (fun i v hv => ((hcl i v hv).mono hMk).cj _)) ?_
  have hvk := hvl _ (List.getElem_mem hk1)
  refine wAv rfl rfl (wAt rfl rfl rfl rfl rfl (by kernel_rfl) (rvolume_spec xs[k] va vc Mk hvc (hvs.mono hMk) (by omega))) ?_; rintro _ M2 _ ⟨hM2, _, rfl, ⟨⟨vk, rfl, hvo⟩, rfl⟩⟩
  refine jp rfl (jp rfl (jp rfl (sAl rfl fun b7 => ?_)))
  refine sSt rfl ?_
  refine jp rfl (wAc (jT (wAb (wAb (wAa (jp rfl (jsb rfl (fun h29 => ?_) (fun h29 => ?_))))))))
  ·refine wAc (jT (wAg rfl (wAb (wAa (jp rfl (jp rfl (wAc (jT (wAf (jTr (jBr (jTr (jTr (jBr (jTr (wAu (L' := []) (List.nil_sublist _) ?_))))))))))))))))
   refine jr2 rfl rfl rfl ?_
   have hvi : ¬ wCy xs[k] := by simpa using h29
   refine ⟨?_, rfl⟩
   unfold AllP
   rw [if_neg (by rw [all_not hk1 hvi]; decide)]
  refine wAc (jT (wAk rfl (wAd (jT (wAa (jp rfl (sLL rfl ?_)))))))
  refine wAv rfl rfl (wAr (cs := voc vk) rfl rfl rfl (by rfl) (by rfl) (by rfl)) ?_; rintro _ _ _ ⟨b32, rfl, rfl, rfl⟩
  refine wAv rfl rfl (wCr (R := R) (m := 1) (news := voc vk) rfl rfl rfl rfl hO rfl (fun i v hv => CJ.loc (by rw [Nat.zero_add]; simpa using hv)) rfl (by rfl) (fun u hu => List.all_eq_true.1 (rfl : ((voc vk).all fun v => v.oneCell') = true) u hu) (by omega) (by omega)) ?_; rintro v33 _ _ ⟨rfl, R33, rfl, o33, _⟩
  obtain ⟨a33, c33, rfl⟩ := o33.form
  refine jp rfl (wAc (jB (jT (wAa (jp rfl (ja rfl (by omega) ?_))))))
  refine jp rfl (wAc ?_)
  have hvi : wCy xs[k] := by simpa using h29
  obtain rfl := hvo hvi
  refine wAn (k + 1, M2, a33, c33, R33) (.cons (t := 1) rfl (.cons (t := 4) rfl (.cons (t := 5) rfl (.cons (t := 6) rfl .nil)))) ⟨by show k + 1 ≤ xs.length; omega, hMk.trans hM2, ?_, wEy hk1 hall hvi⟩ (by show xs.length - (k + 1) < xs.length - k; omega) (fun _ h => h.subC fun f => by simp only [List.map_append, List.map_cons, List.map_nil, List.sum_append, List.sum_cons, List.sum_nil]; omega)
  show Own (.slice a33 (k + 1) c33) R33 _ 4 (k + 1) (((xs.take (k + 1)).map wCm).flatMap voc)
  rw [List.take_succ_eq_append_getElem hk1, List.map_append, List.flatMap_append]
  exact o33
 refine wAc (jT (wAk rfl (wAs (jTx (jTx (jBx (jT (wAb (wAa (jp rfl (jp rfl (jp rfl (wAc (jT (wAf (wAu (L' := R) (by simp) ?_))))))))))))))))
 refine wGi hO (by simp) ?_
 intro M9 a9 c9 hM9 e9 hc9 hs9; cases e9
 refine jr2 rfl rfl rfl ?_
 obtain rfl : k = xs.length := by omega
 rw [List.take_length] at hall hs9
 refine ⟨?_, rfl⟩
 unfold AllP
 rw [if_pos (List.all_eq_true.2 fun y hy => decide_eq_true (hall y hy))]
 exact ⟨_, _, rfl, hc9, hs9⟩
end Go.Proofs.YtbhkdjheooknfaaGreat
