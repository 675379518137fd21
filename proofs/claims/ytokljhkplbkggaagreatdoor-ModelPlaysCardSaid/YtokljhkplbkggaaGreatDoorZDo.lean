/- Walks: a call is done. -/
import Derived.Test.YtokljhkplbkggaaGreatDoorZMeth
import Derived.Test.YtokljhkplbkggaaGreatDoorZPart
namespace Go.Proofs.YtokljhkplbkggaaGreatDoor
set_option linter.unusedVariables false
set_option linter.unusedSectionVars false
set_option linter.unusedSimpArgs false
open Go.RowKit Go.MapKept
abbrev fnV (f : Nat) : Value := .func (.func f) #[] #[]
abbrev kindC : List Value := [.nilFunc, .int .i64 0, fnV 37, .int .i64 0, fnV 38, .int .i64 0, fnV 39, .int .i64 0, fnV 40, .int .i64 0, fnV 41, .int .i64 1, fnV 41, .int .i64 1, fnV 42, .int .i64 1, fnV 43, .int .i64 1, fnV 44, .int .i64 1, fnV 45, .int .i64 1, fnV 46, .int .i64 2, fnV 47, .int .i64 2, fnV 48, .int .i64 1, fnV 49, .int .i64 2, fnV 50, .int .i64 1, fnV 51, .int .i64 1, fnV 52, .int .i64 1, fnV 53, .int .i64 0]
def mOf : Nat → Nat
 | 1 => 37
 | 2 => 38
 | 3 => 39
 | 4 => 40
 | 5 => 41
 | 6 => 41
 | 7 => 42
 | 8 => 43
 | 9 => 44
 | 10 => 45
 | 11 => 46
 | 12 => 47
 | 13 => 48
 | 14 => 49
 | 15 => 50
 | 16 => 51
 | 17 => 52
 | 18 => 53
 | _ => 0
set_option maxHeartbeats 4000000 in
set_option maxRecDepth 4000 in
theorem kinds_spec (M : Mem) :
  SpecL Tryz.prog 23 #[] M [] fun u _ _ => u = .agg kindC.toArray := by
 refine wAe (vs := []) 20 _ Tryz.func23 rfl Tryz.ntmps23 rfl rfl ?_; intro W
 refine wAb (wAa (sAl rfl fun b0 => ?_))
 refine wAc (jT (wAb (wAa (lq (wBe (cs := [_, _]) rfl rfl rfl (by rfl)) ?_))))
 refine lq (wBe (cs := [_, _]) rfl rfl rfl (by rfl)) ?_
 refine lq (wBe (cs := [_, _]) rfl rfl rfl (by rfl)) ?_
 refine lq (wBe (cs := [_, _]) rfl rfl rfl (by rfl)) ?_
 refine lq (wBe (cs := [_, _]) rfl rfl rfl (by rfl)) ?_
 refine lq (wBe (cs := [_, _]) rfl rfl rfl (by rfl)) ?_
 refine lq (wBe (cs := [_, _]) rfl rfl rfl (by rfl)) ?_
 refine lq (wBe (cs := [_, _]) rfl rfl rfl (by rfl)) ?_
 refine lq (wBe (cs := [_, _]) rfl rfl rfl (by rfl)) ?_
 refine lq (wBe (cs := [_, _]) rfl rfl rfl (by rfl)) ?_
 refine lq (wBe (cs := [_, _]) rfl rfl rfl (by rfl)) ?_
 refine lq (wBe (cs := [_, _]) rfl rfl rfl (by rfl)) ?_
 refine lq (wBe (cs := [_, _]) rfl rfl rfl (by rfl)) ?_
 refine lq (wBe (cs := [_, _]) rfl rfl rfl (by rfl)) ?_
 refine lq (wBe (cs := [_, _]) rfl rfl rfl (by rfl)) ?_
 refine lq (wBe (cs := [_, _]) rfl rfl rfl (by rfl)) ?_
 refine lq (wBe (cs := [_, _]) rfl rfl rfl (by rfl)) ?_
 refine lq (wBe (cs := [_, _]) rfl rfl rfl (by rfl)) ?_
 refine lq (qBuildA (cs := [_, _, _, _, _, _, _, _, _, _, _, _, _, _, _, _, _, _, _, _, _, _, _, _, _, _, _, _, _, _, _, _, _, _, _, _, _, _]) rfl rfl rfl (by rfl)) ?_
 refine sSt rfl ?_
 refine wAc (jT (wAg (jrs (rs := [_]) rfl (.cons (.agg rfl rfl rfl) .nil) ?_)))
 rfl
theorem kind_at : ∀ (k : Nat), 1 ≤ k → k ≤ 18 → (kindC.drop (k * 2)).take 2 = [fnV (mOf k), .int .i64 (wDm k : Nat)] ∧ isGo Tryz.prog (mOf k) = true ∧ wJe (mOf k) k := by
 intro k h1 h2
 have h : k = 1 ∨ k = 2 ∨ k = 3 ∨ k = 4 ∨ k = 5 ∨ k = 6 ∨ k = 7 ∨ k = 8 ∨ k = 9 ∨ k = 10 ∨ k = 11 ∨ k = 12 ∨ k = 13 ∨ k = 14 ∨ k = 15 ∨ k = 16 ∨ k = 17 ∨ k = 18 := by omega
 rcases h with rfl | rfl | rfl | rfl | rfl | rfl | rfl | rfl | rfl | rfl | rfl | rfl | rfl | rfl | rfl | rfl | rfl | rfl
 ·exact ⟨rfl, by kernel_rfl, m1⟩
 ·exact ⟨rfl, by kernel_rfl, m2⟩
 ·exact ⟨rfl, by kernel_rfl, m3⟩
 ·exact ⟨rfl, by kernel_rfl, m4⟩
 ·exact ⟨rfl, by kernel_rfl, m5⟩
 ·exact ⟨rfl, by kernel_rfl, m6⟩
 ·exact ⟨rfl, by kernel_rfl, m7⟩
 ·exact ⟨rfl, by kernel_rfl, m8⟩
 ·exact ⟨rfl, by kernel_rfl, m9⟩
 ·exact ⟨rfl, by kernel_rfl, m10⟩
 ·exact ⟨rfl, by kernel_rfl, m11⟩
 ·exact ⟨rfl, by kernel_rfl, m12⟩
 ·exact ⟨rfl, by kernel_rfl, m13⟩
 ·exact ⟨rfl, by kernel_rfl, m14⟩
 ·exact ⟨rfl, by kernel_rfl, m15⟩
 ·exact ⟨rfl, by kernel_rfl, m16⟩
 ·exact ⟨rfl, by kernel_rfl, m17⟩
 exact ⟨rfl, by kernel_rfl, m18⟩
abbrev WV := Wy × Option Addr × Nat
abbrev wC (x y : WV) : List Value := [.int .i64 x.1.1, .slice x.2.1 x.1.2.length x.2.2, .int .i64 y.1.1, .slice y.2.1 y.1.2.length y.2.2]
abbrev w0C : WV := ((0, []), none, 0)
def pthC (c : CL) (i : Nat) : Str := if i = 0 then c.path else c.other
structure DoI (c : CL) (p : Nat) (y : Nat × Mem × WV × WV) : Prop where
 le : y.1 ≤ p
 two : y.1 ≤ 2
 x1 : 1 ≤ y.1 → wAy c.path = some y.2.2.1.1
 x0 : y.1 = 0 → y.2.2.1.1 = (0, [])
 y1 : 2 ≤ y.1 → wAy c.other = some y.2.2.2.1
 y0 : y.1 ≤ 1 → y.2.2.2.1 = (0, [])
 wx : WyOk y.2.1 y.2.2.1.1 y.2.2.1.2.1 y.2.2.1.2.2
 wy : WyOk y.2.1 y.2.2.2.1 y.2.2.2.2.1 y.2.2.2.2.2
def nwX (i : Nat) (x n : WV) : WV := if i = 0 then n else x
def nwY (i : Nat) (y n : WV) : WV := if i = 0 then y else n
theorem DoI.step {c : CL} {p i : Nat} {M M2 : Mem} {x y : WV} {w : Wy} {a : Option Addr} {k : Nat} (h : DoI c p (i, M, x, y)) (hi : i < p) (h2 : i < 2) (hp : wAy (pthC c i) = some w) (hw : WyOk M2 w a k) (hM : MLe M M2) : DoI c p (i + 1, M2, nwX i x (w, a, k), nwY i y (w, a, k)) := by
 have h3 : i = 0 ∨ i = 1 := by omega
 rcases h3 with rfl | rfl
 ·exact ⟨by show 0 + 1 ≤ p; omega, by show 0 + 1 ≤ 2; omega, fun _ => hp, fun e => by simp at e, fun e => absurd e (by show ¬ 2 ≤ 0 + 1; omega), fun _ => h.y0 (by show 0 ≤ 1; omega), hw, h.wy.mono hM⟩
 exact ⟨by show 1 + 1 ≤ p; omega, by show 1 + 1 ≤ 2; omega, fun _ => h.x1 (Nat.le_refl _), fun e => by simp at e, fun _ => hp, fun e => absurd e (by show ¬ 1 + 1 ≤ 1; omega), h.wx.mono hM, hw⟩
theorem DoI.fail {c : CL} {k i : Nat} {M : Mem} {x y : WV} {S : PS} (h : DoI c (wDm k) (i, M, x, y)) (hk : c.kind = k) (h1 : 1 ≤ k) (h2 : k ≤ 18) (hi : i < wDm k) (hi2 : i < 2) (hp : wAy (pthC c i) = none) : doI insB wAy S c = (S, wCa 270) := by
 unfold doI
 rw [if_neg (by omega), show c.kind.toNat = k by omega, if_neg (by omega)]
 have h3 : i = 0 ∨ i = 1 := by omega
 rcases h3 with rfl | rfl
 ·have : wAy c.path = none := hp
  rw [this]
 have : wAy c.other = none := hp
 have h4 : wAy c.path = some x.1 := h.x1 (Nat.le_refl _)
 rw [h4]; simp only
 rw [if_neg (by omega), this]
theorem paths_le : ∀ k, wDm k ≤ 2 := by intro k; unfold wDm; split <;> omega
theorem DoI.done {c : CL} {k i : Nat} {M : Mem} {x y : WV} {S : PS} (h : DoI c (wDm k) (i, M, x, y)) (hk : c.kind = k) (h1 : 1 ≤ k) (h2 : k ≤ 18) (hi : i = wDm k) : doI insB wAy S c = opI insB S c x.1 y.1 k := by
 unfold doI
 rw [if_neg (by omega), show c.kind.toNat = k by omega]
 have h4 := paths_le k
 have h5 : wDm k = 0 ∨ wDm k = 1 ∨ wDm k = 2 := by omega
 rcases h5 with h5 | h5 | h5
 ·rw [if_pos h5, show x.1 = (0, []) from h.x0 (by show i = 0; omega), show y.1 = (0, []) from h.y0 (by show i ≤ 1; omega)]
 ·rw [if_neg (by omega), show wAy c.path = some x.1 from h.x1 (by show 1 ≤ i; omega)]; simp only
  rw [if_pos h5, show y.1 = (0, []) from h.y0 (by show i ≤ 1; omega)]
 rw [if_neg (by omega), show wAy c.path = some x.1 from h.x1 (by show 1 ≤ i; omega)]; simp only
 rw [if_neg (by omega), show wAy c.other = some y.1 from h.y1 (by show 2 ≤ i; omega)]
theorem PartP.cases {s : Str} {u : Value} {M' : Mem} {L' : Lc} (h : PartP s u M' L') : (wAy s = none ∧ u = .tuple #[.int .i64 0, .slice none 0 0, .int .i64 270] ∧ L' = []) ∨ ∃ w a c, wAy s = some w ∧ u = .tuple #[.int .i64 w.1, .slice a w.2.length c, .int .i64 0] ∧ WyOk M' w a c ∧ L' = [] := by
 obtain ⟨h, hL⟩ := h
 cases hp : wAy s with
 | none => rw [hp] at h; exact .inl ⟨rfl, h, hL⟩
 | some w => rw [hp] at h; obtain ⟨a, c, h1, h2⟩ := h; exact .inr ⟨w, a, c, rfl, h1, h2, hL⟩
theorem do_out (S : CS) (hS : S.Ok) (n : Nat) (hwf : WFS n S.abs) (hn : n ≤ 100) (M : Mem) (hT : Tabs M) (c : CL) (ca : Option Addr) (ck : Nat) (hC : CallOk M c ca ck) (hz : c.path.size ≤ 100000 ∧ c.other.size ≤ 100000) (hk : c.kind < 1 ∨ 18 < c.kind) :
  SpecL Tryz.prog 12 #[pt S.b, clV c ca ck] M S.own fun u M' L' => OpP S.b (doI insB wAy S.abs c) u M' L' := by
 refine wAe (vs := [_, _]) 63 _ Tryz.func12 rfl Tryz.ntmps12 rfl rfl ?_; intro W
 refine wAb (wAa (sBx [_, _, _, _, _, _, _] rfl fun b3 => ?_))
 refine sAl rfl fun b4 => ?_
 refine wAc (jT (wAb (wAb (wAa (sFL rfl rfl ?_)))))
 refine js rfl (fun h14 => ?_) (fun h14 => ?_)
 ·refine jp rfl (jp rfl (jp rfl (jp rfl (jp rfl (wAc (jT (wAf rfl (wAb (wAa (lq (qCl (wAt 2 M)) ?_))))))))))
  refine sSt rfl ?_
  refine wAc (jT (wAg (jTr (jrsd (rs := [_]) (S.own) (by repeat (first | exact List.Sublist.refl _ | apply List.Sublist.cons)) rfl (.cons (.agg rfl rfl rfl) .nil) ?_))))
  have hr : doI insB wAy S.abs c = (S.abs, wCa 2) := by
   unfold doI; rw [if_pos hk]
  rw [hr]; exact OpP.plain (r := (S.abs, _)) hS rfl rfl rfl rfl
 refine jp rfl (sFL rfl rfl ?_)
 refine jt rfl (decide_eq_true (by omega)) ?_
 refine jp rfl (wAc (jT (wAf rfl (wAb (wAa (lq (qCl (wAt 2 M)) ?_))))))
 refine sSt rfl ?_
 refine wAc (jT (wAg (jTr (jrsd (rs := [_]) (S.own) (by repeat (first | exact List.Sublist.refl _ | apply List.Sublist.cons)) rfl (.cons (.agg rfl rfl rfl) .nil) ?_))))
 have hr : doI insB wAy S.abs c = (S.abs, wCa 2) := by
  unfold doI; rw [if_pos hk]
 rw [hr]; exact OpP.plain (r := (S.abs, _)) hS rfl rfl rfl rfl
set_option maxHeartbeats 4000000 in
theorem do_in (S : CS) (hS : S.Ok) (n : Nat) (hwf : WFS n S.abs) (hn : n ≤ 100) (M : Mem) (hT : Tabs M) (c : CL) (ca : Option Addr) (ck : Nat) (hC : CallOk M c ca ck) (hz : c.path.size ≤ 100000 ∧ c.other.size ≤ 100000) (k : Nat) (hk : c.kind = k) (hk1 : 1 ≤ k) (hk2 : k ≤ 18) :
  SpecL Tryz.prog 12 #[pt S.b, clV c ca ck] M S.own fun u M' L' => OpP S.b (doI insB wAy S.abs c) u M' L' := by
 obtain ⟨hkc, hgo, hms⟩ := kind_at k hk1 hk2
 have hp2 := paths_le k
 refine wAe (vs := [_, _]) 63 _ Tryz.func12 rfl Tryz.ntmps12 rfl rfl ?_; intro W
 refine wAb (wAa (sBx [_, _, _, _, _, _, _] rfl fun b3 => ?_))
 refine sAl rfl fun b4 => ?_
 refine wAc (jT (wAb (wAb (wAa (sFL rfl rfl ?_)))))
 refine jf rfl (decide_eq_false (by omega)) ?_
 refine jp rfl (sFL rfl rfl ?_)
 refine jf rfl (decide_eq_false (by omega)) ?_
 refine jp rfl (wAc (jT (wAh rfl (wAd (jT (wAb (wCw [(0, true), (1, true), (2, true), (3, true), (4, false), (5, false)] ((b4, _) :: (b3, _) :: S.own) (fun _ h => h) ?_)))))))
 refine dq rfl (qCl (kinds_spec M)) ?_
 refine dFa rfl rfl ?_
 refine dLd rfl rfl ?_
 refine dq rfl (qIdxV (v := .agg [fnV (mOf k), .int .i64 (wDm k : Nat)].toArray) rfl rfl rfl rfl (by omega) (by show Value.agg _ = _; rw [show c.kind.toNat = k by omega, hkc]) (by show _ < 38; omega)) ?_
 refine wJf rfl rfl rfl (wGe rfl rfl) ?_; rintro _ _ _ ⟨b5, rfl, rfl, rfl⟩
 refine wHf (MLe.refl _) (fun _ h => List.mem_cons_of_mem _ h) (by first | exact MLe.refl _ | assumption) (by simp) ?_
 refine jd_s rfl rfl (wBw rfl rfl rfl rfl rfl rfl rfl rfl) ?_; rintro _ _ _ ⟨rfl, rfl⟩
 refine wHf (MLe.refl _) (fun _ h => List.mem_cons_of_mem _ h) (by first | exact MLe.refl _ | assumption) (by simp) ?_
 refine wAs (jPn (jT (wAb (wAa (sAl rfl fun b6 => ?_)))))
 refine wAc (jT (wAb (wAb (wAa (sFL rfl rfl ?_)))))
 refine sFL rfl rfl ?_
 refine lq (qBuildA (cs := [_, _]) rfl rfl rfl (by rfl)) ?_
 refine jp rfl (wAc (jT (wAk ?_)))
 refine wBr (α := Nat × Mem × WV × WV) (fun z => [(0, pt S.b), (3, pt b3), (4, pt b4), (5, pt b5), (6, pt b6), (29, .agg [.string c.path, .string c.other].toArray), (30, .int .i64 z.1)]) (fun z => z.2.1) (fun z => (b6, .cells (wC z.2.2.1 z.2.2.2).toArray 78 (0, 0)) :: (b5, .cells [fnV (mOf k), .int .i64 (wDm k : Nat)].toArray 73 (0, 0)) :: (b4, .cells (rpc {} (.slice none 0 0) (.slice none 0 0)).toArray 30 (0, 0)) :: (b3, .cells [.int .u8 c.kind, .string c.path, .string c.other, .int .i64 c.a, .int .i64 c.b, .int .i64 c.c, .slice ca c.data.length ck].toArray 45 (0, 0)) :: S.own) (fun z => DoI c (wDm k) z ∧ MLe M z.2.1) (fun z => 2 - z.1)
  (0, M, w0C, w0C) (.cons (t := 0) rfl (.cons (t := 3) rfl (.cons (t := 4) rfl (.cons (t := 5) rfl (.cons (t := 6) rfl (.cons (t := 29) rfl (.cons (t := 30) rfl .nil))))))) ⟨⟨Nat.zero_le _, Nat.zero_le _, fun h => absurd h (by show ¬ 1 ≤ 0; omega), fun _ => rfl, fun h => absurd h (by show ¬ 2 ≤ 0; omega), fun _ => rfl, ⟨.inl rfl, Nat.zero_le _, Nat.zero_le _⟩, ⟨.inl rfl, Nat.zero_le _, Nat.zero_le _⟩⟩, MLe.refl _⟩ (fun _ h => h) ?_
 rintro ⟨i, Mk, x, y⟩ ⟨hI, hMk⟩
 try dsimp only at hI hMk ⊢
 refine wAb (wAa (js rfl (fun h31 => ?_) (fun h31 => ?_)))
 ·refine wAc (jT (wAb (wAf rfl (wAd (jT (wAb (wAk (wAb (wAa (jp rfl ?_))))))))))
  have hi2 : i < 2 := by omega
  refine lq (qIdxV (v := .string (pthC c i)) rfl rfl rfl rfl (by omega) (by rcases (show i = 0 ∨ i = 1 by omega) with rfl | rfl <;> rfl) (by show i * 1 < 2; omega)) ?_
  refine jp rfl (jp rfl (wAc (jT (wAb (wAb (wAa (jp rfl (sFL rfl rfl ?_))))))))
  refine js rfl (fun h37 => ?_) (fun h37 => ?_)
  ·refine wAc (jT (wAf rfl (wBx (jTx (jBo rfl ?_)))))
   refine jTx (jTx (jBx (jT (wAb (wAa (sFL rfl rfl ?_))))))
   refine jp rfl (sLL rfl ?_)
   refine lq (qIdxA rfl rfl rfl rfl (by omega)) ?_
   refine sLL rfl ?_
   refine lq (qIdxA rfl rfl rfl rfl (by omega)) ?_
   refine sLL rfl ?_
   refine wCe rfl rfl (wKh rfl rfl rfl rfl rfl hgo (hms S hS n hwf hn Mk c ca ck (hC.mono hMk) x.1 x.2.1 x.2.2 hI.wx y.1 y.2.1 y.2.2 hI.wy)) ?_; rintro _ M3 _ ⟨hM3, R3, rfl, ⟨S2, dv2, nv2, R1, R2, e1, e2, rfl, e3, e4, rfl⟩⟩
   obtain ⟨da2, dc2, rfl⟩ := e3.form
   obtain ⟨na2, nc2, rfl⟩ := Nms.nform e4
   refine sSt rfl ?_
   refine wAc (jT (wAg (jrsd (rs := [_]) (S2.own ++ (R1 ++ R2)) (by repeat (first | exact List.Sublist.refl _ | exact List.sublist_append_left _ _ | apply List.Sublist.cons)) rfl (.cons (.agg rfl rfl rfl) .nil) ?_)))
   obtain rfl : i = wDm k := by have := hI.le; have := hI.two; have := paths_le k; simp only at *; omega
   rw [hI.done hk hk1 hk2 rfl]; exact ⟨S2, _, _, R1, R2, e1, e2, rfl, e3, e4, rfl⟩
  refine wAc (jT (wAh rfl (wAd (jT (wAb (wAa (jp rfl ?_)))))))
  have hip : i < wDm k := by omega
  have hsz : (pthC c i).size ≤ 100000 := by unfold pthC; split; exact hz.1; exact hz.2
  refine wCe rfl rfl (hCl (part_spec (pthC c i) Mk (hT.mono hMk) hsz)) ?_; rintro _ M2 _ ⟨hM2, R2, rfl, hpp⟩
  have hy := hpp.cases
  rcases hy with ⟨hno, rfl, rfl⟩ | ⟨w, a, cc, hso, rfl, hW, rfl⟩
  ·iterate 7 refine jp rfl ?_
   refine wAc (jT (wAb (wAb (wAa (jp rfl (jt rfl (decide_eq_true (by omega)) ?_))))))
   refine wAc (jT (wAf rfl (wAb (wAa (jp rfl (lq (qCl (wAt 270 _)) ?_))))))
   refine sSt rfl ?_
   refine wAc (jT (wAg (jTr (jBr (jTr (jTr (jBr (jTr (jrsd (rs := [_]) (S.own) (by repeat (first | exact List.Sublist.refl _ | exact List.sublist_append_left _ _ | apply List.Sublist.cons)) rfl (.cons (.agg rfl rfl rfl) .nil) ?_)))))))))
   have hr : doI insB wAy S.abs c = (S.abs, wCa 270) := by
    exact hI.fail hk hk1 hk2 hip hi2 hno
   rw [hr]; exact OpP.plain (r := (S.abs, _)) hS rfl rfl rfl rfl
  iterate 7 refine jp rfl ?_
  refine wAc (jT (wAb (wAb (wAa (jp rfl (jf rfl (decide_eq_false (by omega)) ?_))))))
  refine wAc (jT (wAh rfl (wAd (jT (wAa (jp rfl (jp rfl (jp rfl (lq (wBe (cs := [_, _]) rfl rfl rfl (by rfl)) ?_)))))))))
  refine lq (qIdxA rfl rfl rfl rfl (by omega)) ?_
  simp only [nA]
  refine jl_s rfl (wBw (l2 := wC (nwX i x (w, a, cc)) (nwY i y (w, a, cc))) rfl rfl rfl rfl rfl rfl rfl (by rw [Int.toNat_natCast]; exact Nat.ble_eq_true_of_le (by show 0 + i * 2 + 2 ≤ 4; omega)) (by rcases (show i = 0 ∨ i = 1 by omega) with rfl | rfl <;> rfl)) ?_; rintro _ _ _ ⟨rfl, rfl⟩
  refine wAc (jB (jT (wAa (ja rfl (by omega) ?_))))
  refine jp rfl (wAc ?_)
  refine wBu (i + 1, M2, nwX i x (w, a, cc), nwY i y (w, a, cc)) (.cons (t := 0) rfl (.cons (t := 3) rfl (.cons (t := 4) rfl (.cons (t := 5) rfl (.cons (t := 6) rfl (.cons (t := 29) rfl (.cons (t := 30) rfl .nil))))))) ⟨hI.step hip hi2 hso hW hM2, hMk.trans hM2⟩ (by show 2 - (i + 1) < 2 - i; omega) (fun _ h => h)
 refine wAc (jT (wAb (wAh rfl (wBx (jTx (jTx (jBx (jT (wAb (wAa (sFL rfl rfl ?_)))))))))))
 refine jp rfl (sLL rfl ?_)
 refine lq (qIdxA rfl rfl rfl rfl (by omega)) ?_
 refine sLL rfl ?_
 refine lq (qIdxA rfl rfl rfl rfl (by omega)) ?_
 refine sLL rfl ?_
 refine wCe rfl rfl (wKh rfl rfl rfl rfl rfl hgo (hms S hS n hwf hn Mk c ca ck (hC.mono hMk) x.1 x.2.1 x.2.2 hI.wx y.1 y.2.1 y.2.2 hI.wy)) ?_; rintro _ M3 _ ⟨hM3, R3, rfl, ⟨S2, dv2, nv2, R1, R2, e1, e2, rfl, e3, e4, rfl⟩⟩
 obtain ⟨da2, dc2, rfl⟩ := e3.form
 obtain ⟨na2, nc2, rfl⟩ := Nms.nform e4
 refine sSt rfl ?_
 refine wAc (jT (wAg (jrsd (rs := [_]) (S2.own ++ (R1 ++ R2)) (by repeat (first | exact List.Sublist.refl _ | exact List.sublist_append_left _ _ | apply List.Sublist.cons)) rfl (.cons (.agg rfl rfl rfl) .nil) ?_)))
 obtain rfl : i = wDm k := by have := hI.le; have := hI.two; have := paths_le k; simp only at *; omega
 rw [hI.done hk hk1 hk2 rfl]; exact ⟨S2, _, _, R1, R2, e1, e2, rfl, e3, e4, rfl⟩
theorem do_spec (S : CS) (hS : S.Ok) (n : Nat) (hwf : WFS n S.abs) (hn : n ≤ 100) (M : Mem) (hT : Tabs M) (c : CL) (ca : Option Addr) (ck : Nat) (hC : CallOk M c ca ck) (hz : c.path.size ≤ 100000 ∧ c.other.size ≤ 100000) : SpecL Tryz.prog 12 #[pt S.b, clV c ca ck] M S.own fun u M' L' => OpP S.b (doI insB wAy S.abs c) u M' L' := by
 by_cases hk : c.kind < 1 ∨ 18 < c.kind
 ·exact do_out S hS n hwf hn M hT c ca ck hC hz hk
 exact do_in S hS n hwf hn M hT c ca ck hC hz c.kind.toNat (by omega) (by omega) (by omega)
end Go.Proofs.YtokljhkplbkggaaGreatDoor
