/- Walks: the document's counts of a pool that may not be. -/
import Derived.Test.YtbhkdjheooknfaaGreatZKh
namespace Go.Proofs.YtbhkdjheooknfaaGreat
set_option linter.unusedSimpArgs false
set_option linter.unusedVariables false
set_option linter.unusedSectionVars false
open Go.RowKit
theorem dn_form {M : Mem} {s : Sto} {ss : List Spn} (h : SpI M s ss) {k : Int} (hk : 8 ≤ k ∧ k < 256) (hd : dnIs ss k) : ∃ lv a c p xs, ss[k.toNat]? = some ⟨lv, .slice a (List.length xs) c, p, true⟩ ∧ p.is = true ∧ SpOk M s ss k.toNat ⟨lv, .slice a (List.length xs) c, p, true⟩ xs := by
 obtain ⟨x, h1, h2, h3⟩ := hd
 rcases spn_form h hk with h4 | ⟨lv, a, c, p, xs, h4, h5⟩
 ·rw [h1] at h4; cases h4; cases h2
 rw [h1] at h4; cases h4; exact ⟨lv, a, c, p, xs, h1, h3, h5⟩
theorem rd_kids {s : Sto} {l : Nat} {xs : List It} (h : (wEb s ((l + 1 : Nat) : Int) xs).is = true) : ∀ y ∈ xs, ∃ ys, wCu s y.ref.toNat = some ((l : Int), ys) := by
 intro y hy
 unfold wEb at h
 rw [if_neg (List.ne_nil_of_mem hy)] at h
 have h1 := (goSp_all h y hy).1
 obtain ⟨ys, h2, _⟩ := one_up (l := l) h1
 exact ⟨ys, h2⟩
theorem mrs_all {s : Sto} (hst : wDr s) {kb g : Nat} {bv wv lw : Value} {na : Option Addr} {nc : Nat} {rs : List Int} : ∀ l, MrS s kb g bv wv lw na nc rs l := by
 intro l
 induction l with
 | zero =>
  intro k xs R N T gR gN M ss hSI hd hk hnd hr hR hN hRb hT
  obtain ⟨lv, a, c, p, xs', h1, h2, h3⟩ := dn_form hSI hk hd
  have h4 := h3.nd
  rw [hnd] at h4
  have h5 : (0 : Int) = lv ∧ xs = xs' := by simpa using h4
  obtain ⟨rfl, rfl⟩ := h5
  obtain ⟨a', c', ps, e, hc, hs, hp, hb⟩ := h3.ns
  cases e
  exact rmark_leaf s hst kb g bv wv lw na nc rs k hk xs R N T gR gN M ss hSI a c p ps hs hp hb hr hR hN hRb h1 hnd hT
 | succ l ih =>
  intro k xs R N T gR gN M ss hSI hd hk hnd hr hR hN hRb hT
  obtain ⟨lv, a, c, p, xs', h1, h2, h3⟩ := dn_form hSI hk hd
  have h4 := h3.nd
  rw [hnd] at h4
  have h5 : ((l + 1 : Nat) : Int) = lv ∧ xs = xs' := by simpa using h4
  obtain ⟨rfl, rfl⟩ := h5
  obtain ⟨a', c', ps, e, hc, hs, hp, hb⟩ := h3.ns
  cases e
  have h6 := h3.is
  rw [show (⟨((l + 1 : Nat) : Int), .slice a xs.length c, p, true⟩ : Spn).sp.is = true from h2] at h6
  exact rmark_up s hst kb g bv wv lw na nc rs k hk xs R N T gR gN M ss hSI a c p ps hs hp hb hr hR hN hRb l h1 hnd ((h3.eq h2).2.2 (by show (0 : Int) < ((l + 1 : Nat) : Int); omega)) (rd_kids h6.symm) ih hT
theorem vsk_le : ∀ {l : Nat}, l < 6 → vsk l ≤ 30000 := by
 intro l h
 rcases (show l = 0 ∨ l = 1 ∨ l = 2 ∨ l = 3 ∨ l = 4 ∨ l = 5 by omega) with rfl | rfl | rfl | rfl | rfl | rfl <;> decide
theorem volsGo_app {f : It → List Vo → Option (List Vo)} : ∀ {xs ys : List It} {acc : List Vo}, wBt f (xs ++ ys) acc = (wBt f xs acc).bind fun a => wBt f ys a
 | [], ys, acc => rfl
 | x :: xs, ys, acc => by
  rw [List.cons_append, wBt, wBt]
  cases f x acc with
  | none => rfl
  | some a => exact volsGo_app
theorem volsGo_flat {f : It → List Vo → Option (List Vo)} {k : It → List It} {gf : It → List Vo → Option (List Vo)} : ∀ {xs : List It} {acc : List Vo}, (∀ x acc, gf x acc = wBt f (k x) acc) → wBt gf xs acc = wBt f (xs.flatMap k) acc
 | [], acc, _ => rfl
 | x :: xs, acc, h => by
  rw [wBt, List.flatMap_cons, volsGo_app, h]
  cases wBt f (k x) acc with
  | none => rfl
  | some a => exact volsGo_flat h
theorem volsL_all {s : Sto} {next : Int} : ∀ (l : Nat) {xs : List It} {acc : List Vo}, wDx s next l xs acc = wBt (vol1 next) (allL s l xs) acc
 | 0, xs, acc => by rw [wDx, all_zero]
 | l + 1, xs, acc => by
  rw [wDx]
  exact volsGo_flat fun x acc => volsL_all l
theorem vols_is {next : Int} : ∀ {xs : List It} {acc : List Vo}, acc.length ≤ 16 → wBt (vol1 next) xs acc = if (∀ x ∈ xs, wCy x ∧ x.key.id ≠ 0 ∧ x.key.id < next) ∧ acc.length + xs.length ≤ 16 then some (acc ++ xs.map wCm) else none
 | [], acc, h => by rw [wBt, if_pos ⟨fun x hx => (by cases hx), by simpa using h⟩]; simp
 | x :: xs, acc, h => by
  rw [wBt]
  by_cases hx : okV x next acc.length
  ·rw [show vol1 next x acc = some (acc ++ [wCm x]) from if_pos hx]
   dsimp only
   have hx' := hx
   unfold okV at hx'
   rw [vols_is (by rw [List.length_append, List.length_singleton]; omega)]
   by_cases hc : (∀ y ∈ xs, wCy y ∧ y.key.id ≠ 0 ∧ y.key.id < next) ∧ (acc ++ [wCm x]).length + xs.length ≤ 16
   ·have hall : (∀ y ∈ x :: xs, wCy y ∧ y.key.id ≠ 0 ∧ y.key.id < next) ∧ acc.length + (x :: xs).length ≤ 16 := by
     refine ⟨fun y hy => ?_, by have := hc.2; simp at this ⊢; omega⟩
     rcases List.mem_cons.1 hy with rfl | hy
     ·exact ⟨hx'.1, hx'.2.1, hx'.2.2.1⟩
     exact hc.1 y hy
    rw [if_pos hc, if_pos hall]; simp
   rw [if_neg hc, if_neg fun h2 => hc ⟨fun y hy => h2.1 y (by simp [hy]), by have := h2.2; simp at this ⊢; omega⟩]
  rw [show vol1 next x acc = none from if_neg hx]
  dsimp only
  rw [if_neg fun h2 => hx ?_]
  have h3 := h2.1 x (by simp)
  have h4 := h2.2
  rw [List.length_cons] at h4
  exact ⟨h3.1, h3.2.1, h3.2.2, by omega⟩
theorem rgreat8_or (s : Sto) (u : Value) (M : Mem) (h : ST M u s) : SpecL Tryz.prog 12 #[u] M [] fun u _ L' => (u = .bool true ∧ L' = []) ∨ (u = .bool false ∧ L' = [] ∧ fewS s) :=
 (rgreat8_spec s u M h).mono fun _ _ _ ⟨⟨b, e, hb⟩, hL⟩ => by
  cases b with
  | true => exact .inl ⟨e, hL⟩
  | false => exact .inr ⟨e, hL, hb rfl⟩
def fewP (p : Po) : Prop := fewS p.st ∧ p.dead.length ≤ 1000
theorem samen_is {a1 a2 : Option Addr} {c1 c2 : Nat} {xs : List Int} {M : Mem} (s1 : SM M a1 (wAw xs)) (s2 : SM M a2 (wAw xs)) (hn : xs.length ≤ 1000000) : SpecL Tryz.prog 26 #[.slice a1 xs.length c1, .slice a2 xs.length c2] M [] fun u _ _ => u = .bool true := by
 have h := rsamenums_spec a1 a2 c1 c2 xs xs M s1 s2 hn hn
 rw [decide_eq_true (rfl : xs = xs)] at h; exact h
theorem rsame8_true (s : Sto) (u v : Value) (M : Mem) (h1 : ST M u s) (h2 : ST M v s) (hf : fewS s) : SpecL Tryz.prog 25 #[u, v] M [] fun u _ _ => u = .bool true := (rsame8_spec s u v M h1 h2 hf).mono fun _ _ _ h => h.1
theorem enough_no {s : Sto} {R : List Int} {k : Nat} (hk : k < 256) (h : ((s.now.getD k 0).toNat : Int) < R.getD k 0) : ¬ enough s R := fun he => by have := he k hk; omega
theorem rgreat14_walk (p : Po) (bv wv nv lw : Value) (da : Option Addr) (dc : Nat) (M : Mem) (hS : ST M (.agg #[bv, wv, nv, lw]) p.st) (hd : SM M da (wAw p.dead))  :
  SpecL Tryz.prog 4 #[.agg #[bv, wv, nv, lw, .int .u32 p.gen, .int .i64 p.root, .int .u32 p.next, .slice da p.dead.length dc]] M [] fun u _ _ => (u = .bool true) ∨ (u = .bool false ∧ fewP p) := by
 refine wAe (vs := [_]) 12 _ Tryz.func4 rfl Tryz.ntmps4 rfl rfl ?_; intro W
 refine wAb (wAa (wAv rfl rfl (wBw (cs := [_, _, _, _, _, _, _, _]) rfl rfl rfl rfl) ?_)); rintro _ _ _ ⟨b1, rfl, rfl, rfl⟩
 refine jp rfl (wAc (jT (wAb (wAa (sFa rfl ?_)))))
 refine sLL rfl ?_
 refine wAv rfl rfl (wAt rfl rfl rfl rfl rfl (by kernel_rfl) (rgreat8_or p.st _ M hS)) ?_; rintro _ M1 _ ⟨hM1, Rg, rfl, hy⟩
 rcases hy with ⟨rfl, hy⟩ | ⟨rfl, hy⟩
 ·iterate 7 refine jp rfl ?_
  refine wAc (jT (wAf (jr1 rfl rfl ?_)))
  exact .inl rfl
 refine jp rfl (sFL rfl rfl ?_)
 refine wAi rfl rfl (wBe rfl rfl rfl) ?_
 refine jp rfl (jp rfl (jp rfl (wAc (jT (wAf (jr1 rfl rfl ?_))))))
 by_cases hb : (1000 : Int) < p.dead.length
 ·exact .inl (by rw [decide_eq_true (by omega)])
 exact .inr ⟨by rw [decide_eq_false (by omega)], hy.2, by omega⟩
theorem rtwin14_walk (p : Po) (bv wv nv lw : Value) (da : Option Addr) (dc : Nat) (M : Mem) (hS : ST M (.agg #[bv, wv, nv, lw]) p.st) (hd : SM M da (wAw p.dead)) (hf : fewP p) :
  SpecL Tryz.prog 5 #[.agg #[bv, wv, nv, lw, .int .u32 p.gen, .int .i64 p.root, .int .u32 p.next, .slice da p.dead.length dc]] M [] fun u M' L' => PT M' u p ∧ L' = [] := by
 obtain ⟨f1, f2⟩ := hf
 refine wAe (vs := [_]) 12 _ Tryz.func5 rfl Tryz.ntmps5 rfl rfl ?_; intro W
 refine wAb (wAa (wAv rfl rfl (wBw (cs := [_, _, _, _, _, _, _, _]) rfl rfl rfl rfl) ?_)); rintro _ _ _ ⟨b1, rfl, rfl, rfl⟩
 refine sAl rfl fun b2 => ?_
 refine wAc (jT (wAb (wAa (sFa rfl ?_))))
 refine sLL rfl ?_
 refine wAv rfl rfl (wAt rfl rfl rfl rfl rfl (by kernel_rfl) (rtwin8_spec p.st _ M hS f1)) ?_; rintro _ M1 _ ⟨hM1, _, rfl, ⟨hT, rfl⟩⟩
 obtain ⟨b2, w2, n2, l2, rfl, hTb, hTw, hTn, hTl⟩ := id hT.ex
 obtain ⟨t1, k1, _, rfl, _⟩ := id hTb
 obtain ⟨t2, k2, _, rfl, _⟩ := id hTw
 obtain ⟨t3, k3, rfl, _⟩ := id hTn
 obtain ⟨t4, k4, rfl, _⟩ := id hTl
 refine sFa rfl ?_
 refine sSt rfl ?_
 refine wAc (jT (wAb (wAa (sFL rfl rfl ?_))))
 refine wAv rfl rfl (hAppFz rfl rfl rfl rfl (by rw [wBc, Nat.mul_one]) (hd.mono hM1) rfl (wHu _) (by omega) (by omega)) ?_; rintro v9 M9 _ ⟨rfl, hM9, a9, c9, rfl, hc9, hs9⟩
 refine sFa rfl ?_
 refine sSt rfl ?_
 refine wAc (jT (wAb (wAa (sLL rfl ?_))))
 refine sSt rfl ?_
 refine wAc (jT (wAf (wBr (rs := [_]) ([]) (by exact List.nil_sublist _) rfl (.cons (.agg rfl rfl rfl) .nil) ?_)))
 exact ⟨⟨_, _, _, _, _, rfl, hTb.mono hM9, hTw.mono hM9, hTn.mono hM9, hTl.mono hM9, a9, c9, rfl, hc9, hs9⟩, rfl⟩
theorem rsame14_walk (p : Po) (bv wv nv lw bv2 wv2 nv2 lw2 : Value) (da da2 : Option Addr) (dc dc2 : Nat) (M : Mem) (hS : ST M (.agg #[bv, wv, nv, lw]) p.st) (hd : SM M da (wAw p.dead)) (hS2 : ST M (.agg #[bv2, wv2, nv2, lw2]) p.st) (hd2 : SM M da2 (wAw p.dead)) (hf : fewP p) :
  SpecL Tryz.prog 10 #[.agg #[bv, wv, nv, lw, .int .u32 p.gen, .int .i64 p.root, .int .u32 p.next, .slice da p.dead.length dc], .agg #[bv2, wv2, nv2, lw2, .int .u32 p.gen, .int .i64 p.root, .int .u32 p.next, .slice da2 p.dead.length dc2]] M [] fun u _ _ => u = .bool true := by
 obtain ⟨f1, f2⟩ := hf
 refine wAe (vs := [_, _]) 38 _ Tryz.func10 rfl Tryz.ntmps10 rfl rfl ?_; intro W
 refine wAb (wAa (wAv rfl rfl (wBw (cs := [_, _, _, _, _, _, _, _]) rfl rfl rfl rfl) ?_)); rintro _ _ _ ⟨b2, rfl, rfl, rfl⟩
 refine wAv rfl rfl (wBw (cs := [_, _, _, _, _, _, _, _]) rfl rfl rfl rfl) ?_; rintro _ _ _ ⟨b3, rfl, rfl, rfl⟩
 refine jp rfl (wAc (jT (wAb (wAa (sFa rfl ?_)))))
 refine sLL rfl ?_
 refine sFa rfl ?_
 refine sLL rfl ?_
 refine wAi rfl rfl (wAy rfl rfl rfl rfl rfl (by kernel_rfl) (rsame8_true p.st _ _ M hS hS2 f1)) ?_
 refine jp rfl (sFL rfl rfl ?_)
 refine sFL rfl rfl ?_
 refine wAi rfl rfl (qEq (qP rfl rfl) (v' := .bool true) (by simp)) ?_
 refine jp rfl (jp rfl (sFL rfl rfl ?_))
 refine sFL rfl rfl ?_
 refine wAi rfl rfl (qEq (qP rfl rfl) (v' := .bool true) (by simp)) ?_
 refine jp rfl (jp rfl (sFL rfl rfl ?_))
 refine sFL rfl rfl ?_
 refine wAi rfl rfl (qEq (qP rfl rfl) (v' := .bool true) (by simp)) ?_
 refine jp rfl (jp rfl (sFL rfl rfl ?_))
 refine sFL rfl rfl ?_
 refine wAi rfl rfl (wAy rfl rfl rfl rfl rfl (by kernel_rfl) (samen_is hd hd2 (by omega))) ?_
 refine jp rfl (jp rfl (wAc (jT (wAf (jr1 rfl rfl ?_)))))
 rfl
set_option maxHeartbeats 1000000 in
theorem renough_walk (s : Sto) (bv wv lw : Value) (na : Option Addr) (nc : Nat) (ra : Option Addr) (rc : Nat) (R : List Int) (M : Mem) (h3 : SM M na (wAj s.now)) (hn : s.now.length = 256) (hR : SM M ra (wAw R)) (hl : R.length = 256) :
  SpecL Tryz.prog 58 #[.agg #[bv, wv, .slice na s.now.length nc, lw], .slice ra R.length rc] M [] fun u _ _ => u = .bool (decide (enough s R)) := by
 refine wAe (vs := [_, _]) 21 _ Tryz.func58 rfl Tryz.ntmps58 rfl rfl ?_; intro W
 refine wAb (wAa (wAv rfl rfl (wBw (cs := [_, _, _, _]) rfl rfl rfl rfl) ?_)); rintro _ _ _ ⟨b2, rfl, rfl, rfl⟩
 refine jp rfl (wAc (jT (wAb (wAb (wAa (jp rfl (wAc (jT (wAh ?_)))))))))
 refine wAo (α := Nat) (fun k => [(1, .slice ra R.length rc), (2, .pointer (some ⟨b2, 0, none⟩)), (5, .int .i64 k)]) (fun _ => M) (fun _ => [(b2, .cells [bv, wv, .slice na s.now.length nc, lw].toArray 28 (0, 0))]) (fun k => k ≤ 256 ∧ ∀ j, j < k → R.getD j 0 ≤ ((s.now.getD j 0).toNat : Int)) (fun k => 256 - k)
  0 (.cons (t := 1) rfl (.cons (t := 2) rfl (.cons (t := 5) rfl .nil))) ⟨Nat.zero_le _, fun j h => absurd h (Nat.not_lt_zero j)⟩ (fun _ h => h) ?_
 rintro k ⟨hk, hall⟩
 try dsimp only at hk hall ⊢
 refine wAb (wAb (wAa (jp rfl (js rfl (fun h7 => ?_) (fun h7 => ?_)))))
 ·refine wAc (jT (wAg rfl (wAd (jT (wAb (wAh (wAb (wBn [(0, true), (1, true), (2, true), (3, true), (4, true), (5, true), (6, true), (7, true), (8, true), (9, true), (10, true)] _ (by kernel_rfl) (by kernel_rfl) (by kernel_rfl) rfl (fun _ h => h) ?_))))))))
  iterate 2 refine dp rfl rfl ?_
  have hk1 : k < R.length := by omega
  obtain ⟨rb, ro, e0, hrx⟩ := hR.open (by intro e; have := congrArg List.length e; rw [wBc, List.length_nil] at this; omega)
  have hk2 : k < s.now.length := by omega
  obtain ⟨tb, to, g0, gcl⟩ := wEv h3 hk2
  have hnb := (s.now[k]).toNat_lt
  refine wBh rfl rfl rfl (wCf rfl rfl rfl rfl e0 (by omega)) ?_
  refine wBh rfl rfl rfl (qLd rfl rfl rfl rfl ((hrx ((k : Int).toNat * 1) (.int .i64 R[k]) (by simp [wAw, hk1])).cj _)) ?_
  refine dFa rfl rfl ?_
  refine dLd rfl rfl ?_
  refine dp rfl rfl ?_
  refine wBh rfl rfl rfl (wCf rfl rfl rfl rfl g0 (by omega)) ?_
  refine wBh rfl rfl rfl (qLd rfl rfl rfl rfl (gcl.cj _)) ?_
  refine wBh rfl rfl rfl (wCg rfl rfl rfl (by omega)) ?_
  refine ds rfl rfl (fun h20 => ?_) (fun h20 => ?_)
  ·refine wBg (jPn (jT (wAg rfl (wAb (wAa (jp rfl (wAc (jT (wAf (jBr (jTr (jTr (jBr (jTr (wAu (L' := []) (List.nil_sublist _) ?_)))))))))))))))
   refine jr1 rfl rfl ?_
   rw [decide_eq_false (enough_no (k := k) (by omega) (by rw [wDb hk1, wDb hk2]; omega))]
  refine wBg (jPn (jT (wAk rfl (wAd (jB (jT (wAa (jp rfl (ja rfl (by omega) ?_)))))))))
  refine jp rfl (wAc ?_)
  refine wAn (k + 1) (.cons (t := 1) rfl (.cons (t := 2) rfl (.cons (t := 5) rfl .nil))) ⟨by show k + 1 ≤ 256; omega, fun j hj => ?_⟩ (by show 256 - (k + 1) < 256 - k; omega) (fun _ h => h)
  by_cases hjk : j < k
  ·exact hall j hjk
  obtain rfl : j = k := by omega
  rw [wDb hk1, wDb hk2]; omega
 refine wAc (jT (wAk rfl (wAs (jTx (jTx (jBx (jT (wAb (wAa (jp rfl (wAc (jT (wAf (wAu (L' := []) (List.nil_sublist _) ?_))))))))))))))
 refine jr1 rfl rfl ?_
 obtain rfl : k = 256 := by omega
 rw [decide_eq_true (show enough s R from hall)]
theorem itb_val {x : It} (h : wDq x = false) : x.val.length ≤ 12 := by unfold wDq at h; have := of_decide_eq_false h; omega
theorem kid_ok {s : Sto} {x z : It} (h : z ∈ kid s x) : wDq z = false := by
 unfold kid at h
 split at h
 ·rename_i hnd; exact (wEm (wBy hnd).ok z h).1
 cases h
theorem allOne_val (s : Sto) : ∀ (l : Nat) (x : It), wDq x = false → ∀ y ∈ wFd s l x, y.val.length ≤ 12
 | 0, x, h, y, hy => by rw [wFd, List.mem_singleton] at hy; subst hy; exact itb_val h
 | l + 1, x, h, y, hy => by
  rw [wFd] at hy
  obtain ⟨z, hz, hy2⟩ := List.mem_flatMap.1 hy
  exact allOne_val s l z (kid_ok hz) y hy2
theorem allL_val {s : Sto} {k l : Nat} {lv : Int} {xs : List It} (hnd : wCu s k = some (lv, xs)) : ∀ y ∈ allL s l xs, y.val.length ≤ 12 := by
 intro y hy
 obtain ⟨x, hx, h3⟩ := List.mem_flatMap.1 hy
 exact allOne_val s l x ((wEm (wBy hnd).ok x hx).1) y h3
theorem lrq_rt {s : Sto} {k : Int} {x : Spn} {ss : List Spn} (h : LrQ s k (-1) x ss) : x.sp.is = wGx s k ∧ (x.sp.is = true → dnIs ss k) := by
 unfold LrQ at h
 unfold wGx
 cases hl : lrn s k (-1) with
 | none => rw [hl] at h; exact ⟨h, fun e => by rw [show x.sp.is = false from h] at e; cases e⟩
 | some q => obtain ⟨lv, xs⟩ := q; rw [hl] at h; exact ⟨h.1, fun e => (h.2 e).2.2⟩
theorem spn_zero : ∀ n : Nat, (List.replicate n [Value.int .i64 0, .slice none 0 0, .int .u8 0, .int .u32 0, .int .u32 0, .int .u8 0, .int .u32 0, .int .u32 0, .bool false, .bool false]).flatten = (List.replicate n spn0).flatMap wCj
 | 0 => rfl
 | n + 1 => by rw [List.replicate_succ, List.flatten_cons, spn_zero n, List.replicate_succ, List.flatMap_cons]; rfl
theorem own_oneI {b : Nat} {n : Int} : Own (.slice (some ⟨b, 0, none⟩) 1 1) [(b, .cells [Value.int .i64 n].toArray 3 (0, 0))] 3 1 1 (wAw [n]) :=
 ⟨rfl, .inr ⟨b, 1, [Value.int .i64 n].toArray, rfl, rfl, Nat.le_refl _, by decide, rfl, rfl⟩⟩
def mkNo : Value := .tuple #[.slice none 0 0, .slice none 0 0, .bool false]
theorem rmarks14_bad (p : Po) (bv wv lw : Value) (na da : Option Addr) (nc dc : Nat) (M : Mem) (hS : ST M (.agg #[bv, wv, .slice na p.st.now.length nc, lw]) p.st) (hd : SM M da (wAw p.dead)) (hf : fewP p) (hr : -9223372036854775808 ≤ p.root ∧ p.root ≤ 9223372036854775807) (h : ¬ (wDr p.st ∧ p.dead.length ≤ 40)) :
  SpecL Tryz.prog 57 #[.agg #[bv, wv, .slice na p.st.now.length nc, lw, .int .u32 p.gen, .int .i64 p.root, .int .u32 p.next, .slice da p.dead.length dc]] M [] fun u _ L' => u = mkNo ∧ L' = [] := by
 obtain ⟨f1, f2⟩ := hf
 refine wAe (vs := [_]) 117 _ Tryz.func57 rfl Tryz.ntmps57 rfl rfl ?_; intro W
 refine wAb (wAa (wAv rfl rfl (wBw (cs := [_, _, _, _, _, _, _, _]) rfl rfl rfl rfl) ?_)); rintro _ _ _ ⟨b1, rfl, rfl, rfl⟩
 refine jp rfl (jp rfl (jp rfl (wAc (jT (wAb (wAb (wAa (sFa rfl ?_))))))))
 refine sLL rfl ?_
 refine wAi rfl rfl (wAy rfl rfl rfl rfl rfl (by kernel_rfl) (rmay8_spec p.st _ M hS f1)) ?_
 refine jsb rfl (fun h16 => ?_) (fun h16 => ?_)
 ·refine jp rfl (jp rfl (jp rfl (jp rfl (jp rfl (jp rfl (wAc (jT (wAg rfl (wAb (wAa (jp rfl (jp rfl (jp rfl (wAc (jT (wAf (jTr (wAu (L' := []) (List.nil_sublist _) ?_))))))))))))))))))
  refine jr3 rfl rfl rfl rfl ?_
  exact ⟨rfl, rfl⟩
 refine jp rfl (sFL rfl rfl ?_)
 refine wAi rfl rfl (wBe rfl rfl rfl) ?_
 refine js rfl (fun h21 => ?_) (fun h21 => ?_)
 ·refine jp rfl (wAc (jT (wAg rfl (wAb (wAa (jp rfl (jp rfl (jp rfl (wAc (jT (wAf (jTr (wAu (L' := []) (List.nil_sublist _) ?_)))))))))))))
  refine jr3 rfl rfl rfl rfl ?_
  exact ⟨rfl, rfl⟩
 exact absurd ⟨by simpa using h16, by omega⟩ h
theorem rmay8_true (s : Sto) (u : Value) (M : Mem) (h : ST M u s) (hf : fewS s) (hst : wDr s) : SpecL Tryz.prog 80 #[u] M [] fun u _ _ => u = .bool true := by
 have h1 := rmay8_spec s u M h hf
 rw [decide_eq_true hst] at h1; exact h1
theorem rmarks14_root (p : Po) (bv wv lw : Value) (na da : Option Addr) (nc dc : Nat) (M : Mem) (hS : ST M (.agg #[bv, wv, .slice na p.st.now.length nc, lw]) p.st) (hd : SM M da (wAw p.dead)) (hf : fewP p) (hr : -9223372036854775808 ≤ p.root ∧ p.root ≤ 9223372036854775807) (hst : wDr p.st) (hdl : p.dead.length ≤ 40) (hrt : wGx p.st p.root = false) :
  SpecL Tryz.prog 57 #[.agg #[bv, wv, .slice na p.st.now.length nc, lw, .int .u32 p.gen, .int .i64 p.root, .int .u32 p.next, .slice da p.dead.length dc]] M [] fun u _ L' => u = mkNo ∧ L' = [] := by
 obtain ⟨f1, f2⟩ := hf
 refine wAe (vs := [_]) 117 _ Tryz.func57 rfl Tryz.ntmps57 rfl rfl ?_; intro W
 refine wAb (wAa (wAv rfl rfl (wBw (cs := [_, _, _, _, _, _, _, _]) rfl rfl rfl rfl) ?_)); rintro _ _ _ ⟨b1, rfl, rfl, rfl⟩
 refine jp rfl (jp rfl (jp rfl (wAc (jT (wAb (wAb (wAa (sFa rfl ?_))))))))
 refine sLL rfl ?_
 refine wAi rfl rfl (wAy rfl rfl rfl rfl rfl (by kernel_rfl) (rmay8_true p.st _ M hS f1 hst)) ?_
 refine jp rfl (jp rfl (sFL rfl rfl ?_))
 refine wAi rfl rfl (wBe rfl rfl rfl) ?_
 refine jf rfl (decide_eq_false (by omega)) ?_
 refine jp rfl (wAc (jT (wAk rfl (wAd (jT (wAb (wBn [(0, true), (1, true), (2, false), (3, true), (4, false), (5, true)] [(b1, .cells [bv, wv, .slice na p.st.now.length nc, lw, .int .u32 p.gen, .int .i64 p.root, .int .u32 p.next, .slice da p.dead.length dc].toArray 32 (0, 0))] (by kernel_rfl) (by kernel_rfl) (by kernel_rfl) rfl (by simp) ?_)))))))
 refine dFa rfl rfl ?_
 refine dLL rfl rfl ?_
 refine wDy rfl rfl rfl (wEa rfl rfl rfl rfl (by omega) (by rfl)) ?_; rintro _ _ _ ⟨b25, rfl, rfl, rfl⟩
 refine ⟨_, _, MLe.refl _, MLe.refl _, fun _ h => h, fun _ h => by first | exact List.mem_cons_of_mem _ h | exact List.mem_cons_of_mem _ (List.mem_cons_of_mem _ h), ?_⟩
 refine wBh rfl rfl rfl (wAq (cs := [_, _, _, _, _]) rfl rfl rfl (by rfl)) ?_
 refine wDy rfl rfl rfl (wBw (cs := [_, _, _, _, _]) rfl rfl rfl rfl) ?_; rintro _ _ _ ⟨b27, rfl, rfl, rfl⟩
 refine ⟨_, _, MLe.refl _, MLe.refl _, fun _ h => h, fun _ h => by first | exact List.mem_cons_of_mem _ h | exact List.mem_cons_of_mem _ (List.mem_cons_of_mem _ h), ?_⟩
 refine dp rfl rfl ?_
 refine wBg (jPn (jT (wAb (wAb ?_))))
 rw [show (List.replicate (256 : Int).toNat [Value.int .i64 0, .slice none 0 0, .int .u8 0, .int .u32 0, .int .u32 0, .int .u8 0, .int .u32 0, .int .u32 0, .bool false, .bool false]).flatten = (List.replicate 256 spn0).flatMap wCj from spn_zero 256]
 rw [show (256 : Int).toNat = 256 from rfl]
 refine wAa (jp rfl (sFL rfl rfl ?_))
 refine wAv rfl rfl (wAt rfl rfl rfl rfl rfl (by kernel_rfl) (learn_rt (kb := b27) (g := b25) hst p.root M _ hS (SpI.zero M p.st) hr)) ?_; rintro _ M1 _ ⟨hM1, _, rfl, ⟨xlv, xa, xn, xc, xp, xd, ss, rfl, hSI, hE, rfl, hlr⟩⟩
 simp only [List.cons_append, List.nil_append]
 have hq := lrq_rt hlr
 obtain ⟨xpf, xpl, xpi⟩ := xp
 obtain rfl : xpi = false := hq.1.trans hrt
 refine wAi rfl rfl (qField rfl rfl rfl rfl rfl) ?_
 refine jp rfl (wAc (jT (wAg rfl (wAb (wAa (jp rfl (jp rfl (jp rfl (wAc (jT (wAf (jTr (wAu (L' := []) (List.nil_sublist _) ?_)))))))))))))
 refine jr3 rfl rfl rfl rfl ?_
 exact ⟨rfl, rfl⟩
end Go.Proofs.YtbhkdjheooknfaaGreat
