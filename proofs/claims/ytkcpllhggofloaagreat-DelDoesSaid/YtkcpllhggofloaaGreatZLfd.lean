/- Walks: the document's nodes, as bytes and made. -/
import Derived.Test.YtkcpllhggofloaaGreatZLfc
namespace Go.Proofs.YtkcpllhggofloaaGreat
set_option linter.unusedVariables false
set_option linter.unusedSectionVars false
set_option linter.unusedSimpArgs false
open Go.RowKit
theorem rsealed_walk (b : List By) (a : Option Addr) (c : Nat) (M : Mem) (hs : SM M a (wAj b)) (h : b.length ≤ 124) :
  SpecL Tryz.prog 129 #[.slice a b.length c] M [] fun u M' L' => Own u L' 5 1 128 (wAj (sealB b)) := by
 have hpl := padB_len h
 refine wAf (vs := [_]) 17 _ Tryz.func129 rfl Tryz.ntmps129 rfl rfl ?_; intro W
 refine wAb (wAa (jp rfl (wAc (jT (wAb (wAa (jp rfl (wAy rfl rfl (wCg (R := []) rfl rfl rfl rfl (Own.nil _ _) (by rw [wAm, Nat.mul_one]) hs rfl (wBv _) (by omega) (by omega)) ?_)))))))); rintro v5 _ _ ⟨rfl, R5, rfl, o5⟩
 rw [Nat.zero_add, List.nil_append] at o5
 obtain ⟨a5, c5, rfl⟩ := o5.form
 refine jp rfl (wAc (jT (wAb (wAh ?_))))
 refine wAv (α := Nat × Option Addr × Nat × Lc) (fun z => [(3, .slice z.2.1 z.1 z.2.2.1)]) (fun _ => M) (fun z => z.2.2.2) (fun z => b.length ≤ z.1 ∧ z.1 ≤ 124 ∧ Own (.slice z.2.1 z.1 z.2.2.1) z.2.2.2 5 1 z.1 (wAj (b ++ List.replicate (z.1 - b.length) 0))) (fun z => 124 - z.1)
  (b.length, a5, c5, R5) (.cons (t := 3) rfl .nil) ⟨Nat.le_refl _, h, o5.to rfl (by rw [Nat.sub_self]; simp)⟩ (fun _ h => h.subC fun f => by simp only [List.map_append, List.map_cons, List.map_nil, List.sum_append, List.sum_cons, List.sum_nil]; omega) ?_
 rintro ⟨n, oa, oc, R⟩ ⟨hn1, hn2, hO⟩
 try dsimp only at hn1 hn2 hO ⊢
 refine wAb (wAb (wAa (jp rfl (wAi rfl rfl (wBj rfl rfl rfl) ?_))))
 refine js rfl (fun h8 => ?_) (fun h8 => ?_)
 ·refine wAc (jT (wAg rfl (wAd (jT (wAh (wAa (jp rfl (wAy rfl rfl (wAn (cs := [_]) rfl rfl rfl (by rfl) (by rfl) (by rfl)) ?_)))))))); rintro _ _ _ ⟨b10, rfl, rfl, rfl⟩
  refine wAy rfl rfl (wDv (R := R) (news := [Value.int .u8 0]) rfl rfl rfl rfl hO rfl (fun j v hv => CJ.loc (by rw [Nat.zero_add]; simpa using hv)) rfl rfl (fun u hu => by rw [List.mem_singleton.1 hu]; rfl) (by omega) (by omega)) ?_; rintro v11 _ _ ⟨rfl, R11, rfl, o11, _⟩
  obtain ⟨a11, c11, rfl⟩ := o11.form
  refine jp rfl (wAc (jB ?_))
  refine wAp (n + 1, a11, c11, R11) (.cons (t := 3) rfl .nil) ⟨by show b.length ≤ n + 1; omega, by show n + 1 ≤ 124; omega, o11.to rfl ?_⟩ (by show 124 - (n + 1) < 124 - n; omega) (fun _ h => h.subC fun f => by simp only [List.map_append, List.map_cons, List.map_nil, List.sum_append, List.sum_cons, List.sum_nil]; omega)
  show _ = wAj (b ++ List.replicate (n + 1 - b.length) 0)
  rw [show n + 1 - b.length = n - b.length + 1 by omega, List.replicate_succ', ← List.append_assoc]; simp only [wAj, List.map_append]; rfl
 refine wAc (jT (wAk rfl (wAw (jTx (jTx (jBx (jT (wAb (wAa (jp rfl ?_))))))))))
 obtain rfl : n = 124 := by omega
 refine wLp hO (by simp) ?_
 intro M6 a6 c6 hM6 e6 hc6 hs6; cases e6
 replace hs6 : SM M6 oa (wAj (padB b)) := hs6
 refine wAi rfl rfl (wBr rfl rfl rfl rfl rfl (by kernel_rfl) (by have := rof_spec oa oc (padB b) M6 hs6 (by omega); rw [hpl] at this; exact this)) ?_
 refine wAy rfl rfl (wAu rfl rfl rfl rfl rfl (by kernel_rfl) (rfour_spec _ M6 (wMc _ _).1 (wMc _ _).2)) ?_; rintro _ M6 _ ⟨_, R14, rfl, ⟨rfl, o14⟩⟩
 refine jp rfl (wAy rfl rfl (wCg (R := R14) rfl rfl rfl rfl o14 (by rw [wAm, hpl]) (hs6.mono (MLe.refl _)) rfl (wBv _) (by omega) (by omega)) ?_); rintro v16 _ _ ⟨rfl, R16, rfl, o16⟩
 refine jp rfl (wAc (jT (wAe (wAr (L' := R16) (by simp) ?_))))
 refine jr1 rfl rfl ?_
 exact o16.to rfl (by unfold sealB wAj; rw [List.map_append])
theorem fine_of {lv : Int} {xs : List It} (hno : NdOk lv xs) (hk : ∀ x ∈ xs, wFp x.key) : ∀ x ∈ xs, fineIt x := fun x hx => by
 obtain ⟨k1, k2, k3⟩ := hk x hx
 have hb := (wDh hno.ok x hx).1
 have hv := by unfold wDu at hb; exact of_decide_eq_false hb
 rcases hno.ref x hx with h | h <;> exact ⟨k1, k2, k3, by omega, by omega⟩
theorem rblock6_walk (lv : Int) (xs : List It) (a : Option Addr) (c : Nat) (ps : List (It × Value)) (hc : xs.length ≤ c) (M : Mem) (hs : SM M a (ps.flatMap wAs)) (hp : ps.map (·.1) = xs) (hb : ∀ p ∈ ps, BS M p.2 p.1.val) (hno : NdOk lv xs) (hk : ∀ x ∈ xs, wFp x.key) :
  SpecL Tryz.prog 118 #[.agg #[.int .i64 lv, .slice a xs.length c]] M [] fun u M' L' => Own u L' 5 1 128 (wAj (ndB lv xs)) := by
 have hx5 := hno.len
 have hrl : (wDr lv xs).length ≤ 124 := by
  have := wHu (fun x hx => (wDh hno.ok x hx).1)
  unfold wDr; rw [List.length_append]; show 3 + _ ≤ 124; omega
 refine wAf (vs := [_]) 6 _ Tryz.func118 rfl Tryz.ntmps118 rfl rfl ?_; intro W
 refine wAb (wAa (wAy rfl rfl (wCm (cs := [_, _]) rfl rfl rfl rfl) ?_)); rintro _ _ _ ⟨b1, rfl, rfl, rfl⟩
 refine jp rfl (wAc (jT (wAb (wAa (sLL rfl ?_)))))
 refine wAy rfl rfl (wAu rfl rfl rfl rfl rfl (by kernel_rfl) (SpecL.frz0 (wKc lv xs a c ps M hs hp hb (by omega) (fine_of hno hk)))) ?_; rintro _ M1 _ ⟨hM1, _, rfl, ⟨ta, tc, rfl, htc, hts, rfl⟩⟩
 simp only [nA]
 refine wAy rfl rfl (wAu rfl rfl rfl rfl rfl (by kernel_rfl) (rsealed_walk (wDr lv xs) ta tc M1 hts hrl)) ?_; rintro _ M2 _ ⟨hM2, R5, rfl, o5⟩
 refine jp rfl (wAc (jT (wAe (wAr (L' := R5) (by simp) ?_))))
 refine jr1 rfl rfl ?_
 exact o5
structure Sk where
 a : Option Addr
 n : Nat
 c : Nat
abbrev Sk.v (s : Sk) : Value := .slice s.a s.n s.c
abbrev sv4 (x : Sk × Sk × Sk × Sk) : List Value := [x.1.v, x.2.1.v, x.2.2.1.v, x.2.2.2.v]
def sk0 : Sk := ⟨none, 0, 0⟩
theorem ST.form {M : Mem} {v : Value} {s : Sto} (h : ST M v s) : ∃ x, v = .agg (sv4 x).toArray := by
 obtain ⟨q1, q2, q3, q4, rfl, ⟨a1, c1, _, rfl, _⟩, ⟨a2, c2, _, rfl, _⟩, ⟨a3, c3, rfl, _⟩, ⟨a4, c4, rfl, _⟩⟩ := h.ex
 exact ⟨(⟨a1, _, c1⟩, ⟨a2, _, c2⟩, ⟨a3, _, c3⟩, ⟨a4, _, c4⟩), rfl⟩
theorem ST.parts {M : Mem} {a b c d : Value} {s : Sto} (h : ST M (.agg #[a, b, c, d]) s) : LS M a s.blocks ∧ WS M b s.waits ∧ BS M c s.now ∧ BS M d s.last := by
 obtain ⟨q1, q2, q3, q4, e, h1, h2, h3, h4⟩ := h.ex
 simp only [Value.agg.injEq, Array.mk.injEq, List.cons.injEq, and_true] at e
 obtain ⟨rfl, rfl, rfl, rfl⟩ := e
 exact ⟨h1, h2, h3, h4⟩
theorem ct_form {s : Sto} {xs : List It} {u : Value} {M' : Mem} (h : if shE s xs = 0 then ∃ v, u = .tuple #[v, .int .i64 0] ∧ ST M' v (wAx s xs) else u = .tuple #[.agg zeroSt.toArray, .int .i64 (shE s xs)]) : ∃ x, u = .tuple #[.agg (sv4 x).toArray, .int .i64 (shE s xs)] ∧ (shE s xs = 0 → ST M' (.agg (sv4 x).toArray) (wAx s xs)) := by
 by_cases h0 : shE s xs = 0
 ·rw [if_pos h0] at h
  obtain ⟨v, rfl, hS⟩ := h
  obtain ⟨x, rfl⟩ := hS.form
  exact ⟨x, by rw [h0], fun _ => hS⟩
 rw [if_neg h0] at h
 exact ⟨(sk0, sk0, sk0, sk0), h, fun e => absurd e h0⟩
theorem shareL_stok {s : Sto} {xs : List It} (h : wCc s) (hr : ∀ x ∈ xs, x.ref = 0 ∨ 8 ≤ x.ref ∧ x.ref < 256) : wCc (wAx s xs) := by
 obtain ⟨q1, q2, q3, q4⟩ := wDp s xs
 refine ⟨by rw [q4, q2]; exact h.1, shareL_ok h.2.1 hr, by rw [q3]; exact h.2.2⟩
def TkO (s : Sto) (b : List By) (v : Value) (e : Int) (M : Mem) : Prop := ∃ t, ST M v t ∧ ((e = -1 ∧ (wEt s = 256 ∨ 4096 ≤ s.waits.length)) ∨ (e = (wEt s : Int) ∧ wEt s < 256 ∧ s.waits.length < 4096 ∧ t = addS s (wEt s) b))
theorem wJc (s : Sto) (u : Value) (M : Mem) (h : ST M u s) (hst : wCc s) (b : List By) (bv1 : Value) (hb : BS M bv1 b) : SpecL Tryz.prog 117 #[u, bv1] M [] fun u M' L' => (∃ x e, u = .tuple #[.agg (sv4 x).toArray, .int .i64 e] ∧ TkO s b (.agg (sv4 x).toArray) e M') ∧ L' = [] := by
 obtain ⟨q1, q2, q3, q4, rfl, h1, h2, h3, h4⟩ := h.ex
 exact (rtaken8_walk s _ _ _ _ M h1 h2 h3 h4 hst b bv1 hb).mono fun u M' L' ⟨⟨v, t, e, hu, hT, hte⟩, hL⟩ => ⟨by obtain ⟨x, rfl⟩ := hT.form; exact ⟨x, e, hu, t, hT, hte⟩, hL⟩
theorem rblock6_spec (lv : Int) (xs : List It) (sl : Value) (M : Mem) (hn : NS M sl xs) (hno : NdOk lv xs) (hk : ∀ x ∈ xs, wFp x.key) : SpecL Tryz.prog 118 #[.agg #[.int .i64 lv, sl]] M [] fun u M' L' => BS M' u (ndB lv xs) ∧ L' = [] := by
 obtain ⟨a, c, ps, rfl, hc, hs, hp, hb⟩ := hn
 have hbl : (ndB lv xs).length = 128 := by
  refine wLc ?_
  have := wHu (fun x hx => (wDh hno.ok x hx).1)
  have := hno.len
  unfold wDr; rw [List.length_append]; show 3 + _ ≤ 124; omega
 exact (SpecL.frz0 (rblock6_walk lv xs a c ps hc M hs hp hb hno hk)).mono fun u M' L' ⟨a, c, e, h1, h2, h3⟩ => ⟨⟨a, c, by rw [hbl]; exact e, by rw [hbl]; exact h1, h2⟩, h3⟩
def MdP (s : Sto) (lv : Int) (xs : List It) (u : Value) (M' : Mem) : Prop := if mkE s lv xs = 0 then ∃ v, u = .tuple #[v, .int .i64 (wEt (wAx s xs)), .int .i64 0] ∧ ST M' v (mkS s lv xs) else u = .tuple #[.agg zeroSt.toArray, .int .i64 0, .int .i64 (mkE s lv xs)]
set_option maxHeartbeats 4000000 in
theorem rmade9_walk (s : Sto) (bv wv nv lv0 : Value) (M : Mem) (h1 : LS M bv s.blocks) (h2 : WS M wv s.waits) (h3 : BS M nv s.now) (h4 : BS M lv0 s.last) (hst : wCc s) (lv : Int) (xs : List It) (a : Option Addr) (c : Nat) (ps : List (It × Value)) (hc : xs.length ≤ c) (hs : SM M a (ps.flatMap wAs)) (hp : ps.map (·.1) = xs) (hb : ∀ p ∈ ps, BS M p.2 p.1.val) (hok : wEv lv xs = true) (hk : ∀ x ∈ xs, wFp x.key) :
  SpecL Tryz.prog 99 #[.agg #[bv, wv, nv, lv0], .agg #[.int .i64 lv, .slice a xs.length c]] M [] fun u M' L' => MdP s lv xs u M' ∧ L' = [] := by
 obtain ⟨ba, bc, bps, rfl, _⟩ := id h1
 obtain ⟨wa, wc, wps, rfl, _⟩ := id h2
 obtain ⟨la, lc, rfl, hlc, hls⟩ := id h4
 obtain ⟨na, nc, rfl, hnc, hns⟩ := id h3
 have hno := NdOk.of hok
 have h40 : s.waits.length ≤ 4096 := hst.1.2.1
 have hNS : NS M (.slice a xs.length c) xs := ⟨a, c, ps, rfl, hc, hs, hp, hb⟩
 have hst2 := shareL_stok hst hno.ref
 have hwl : (wAx s xs).waits.length = s.waits.length := by rw [(wDp s xs).2.1]
 refine wAf (vs := [_, _]) 33 _ Tryz.func99 rfl Tryz.ntmps99 rfl rfl ?_; intro W
 refine wAb (wAa (wAy rfl rfl (wCm (cs := [_, _, _, _]) rfl rfl rfl rfl) ?_)); rintro _ _ _ ⟨b2, rfl, rfl, rfl⟩
 refine wAy rfl rfl (wCm (cs := [_, _]) rfl rfl rfl rfl) ?_; rintro _ _ _ ⟨b3, rfl, rfl, rfl⟩
 refine sAl rfl fun b4 => ?_
 refine jp rfl (jp rfl (wAc (jT (wAb (wAa (sLL rfl ?_))))))
 refine sLL rfl ?_
 refine wAy rfl rfl (wAu rfl rfl rfl rfl rfl (by kernel_rfl) (rcounted9_walk s _ _ _ _ M h1 h2 h3 h4 hst lv xs a c ps hc hs hp hb hno)) ?_; rintro _ M1 _ ⟨hM1, _, rfl, ⟨hct, rfl⟩⟩
 simp only [nA]
 obtain ⟨x7, rfl, hct2⟩ := ct_form hct
 refine jp rfl (jp rfl (jp rfl (sAl rfl fun b7 => ?_)))
 refine sSt rfl ?_
 refine jp rfl (wAc (jT (wAb (wAb (wAa (jp rfl (js rfl (fun h18 => ?_) (fun h18 => ?_))))))))
 ·refine wAc (jT (wAg rfl (wAb (wAa (wAi rfl rfl (wBa (cs := [_, _, _, _]) rfl rfl rfl (by rfl)) ?_)))))
  refine jp rfl (sSt rfl ?_)
  refine jp rfl (jp rfl (wAc (jT (wAe (jTr (wDa (rs := [_, _, _]) ([]) (by exact List.nil_sublist _) rfl (.cons (.agg rfl rfl rfl) (.cons (.tmp rfl) (.cons (.tmp rfl) .nil))) ?_))))))
  have hse : ¬ shE s xs = 0 := by omega
  have hm : mkE s lv xs = shE s xs := by unfold mkE; rw [if_pos hok, if_neg hse]
  exact ⟨by unfold MdP; rw [if_neg (by rw [hm]; exact hse), hm]; rfl, rfl⟩
 refine wAc (jT (wAk rfl (wAd (jT (wAb ?_)))))
 have hse : shE s xs = 0 := by omega
 have hSh := hct2 hse
 refine wFr ([(b7, .cells (sv4 x7).toArray 28 (0, 0)), (b4, .cells [Value.slice none 0 0, .slice none 0 0, .slice none 0 0, .slice none 0 0].toArray 28 (0, 0)), (b3, .cells [Value.int .i64 lv, .slice a xs.length c].toArray 53 (0, 0)), (b2, .cells [.slice ba s.blocks.length bc, .slice wa s.waits.length wc, .slice na s.now.length nc, .slice la s.last.length lc].toArray 28 (0, 0))]) (by kernel_rfl) ((fun _ h => h)) ?_
 refine wDx (i := 0) rfl (by kernel_rfl) (by kernel_rfl) rfl rfl (qLdL rfl rfl rfl rfl rfl) ?_
 refine wDx (i := 1) rfl (by kernel_rfl) (by kernel_rfl) rfl rfl (qLdL rfl rfl rfl rfl rfl) ?_
 refine wFs (α := Mem × (Sk × Sk × Sk × Sk) × Int × Nat) (fun y => MLe M1 y.1 ∧ TkO (wAx s xs) (ndB lv xs) (.agg (sv4 y.2.1).toArray) y.2.2.1 y.1) (fun y => [(4, .pointer (some ⟨b4, 0, none⟩)), (9, .pointer (some ⟨y.2.2.2, 0, none⟩)), (26, .agg (sv4 y.2.1).toArray), (27, .int .i64 y.2.2.1)]) (fun y => y.1) (fun y => [(y.2.2.2, .cells [Value.slice none 0 0, .slice none 0 0, .slice none 0 0, .slice none 0 0].toArray 28 (0, 0)), (b7, .cells (sv4 x7).toArray 28 (0, 0)), (b4, .cells [Value.slice none 0 0, .slice none 0 0, .slice none 0 0, .slice none 0 0].toArray 28 (0, 0)), (b3, .cells [Value.int .i64 lv, .slice a xs.length c].toArray 53 (0, 0)), (b2, .cells [.slice ba s.blocks.length bc, .slice wa s.waits.length wc, .slice na s.now.length nc, .slice la s.last.length lc].toArray 28 (0, 0))]) 2 #[true, true, true, true, true, true, true, true, false, false] ?_ (fun rest => ?_)
 ·rintro ⟨Mr, x3, e3, b9⟩ ⟨hMr, hTk⟩
  try dsimp only at hMr hTk ⊢
  refine wHa (i := 8) (by kernel_rfl) ?_
  refine js_s rfl rfl (wBm rfl rfl rfl rfl rfl rfl rfl rfl) ?_; rintro _ _ _ ⟨rfl, rfl⟩
  refine wAo (hMr) (by simp) ?_
  refine wEg (i := 9) rfl (by kernel_rfl) (by kernel_rfl) rfl ?_
  refine wJy (by kernel_rfl) ?_
  refine jPn (jT (wAb (wAb (wAa (jp rfl (js rfl (fun h29 => ?_) (fun h29 => ?_)))))))
  ·refine wAc (jT (wAg rfl (wAb (wAa (wAi rfl rfl (wBa (cs := [_, _, _, _]) rfl rfl rfl (by rfl)) ?_)))))
   refine sSt rfl ?_
   refine jp rfl (jp rfl (wAc (jT (wAe (jTr (wDa (rs := [_, _, _]) ([]) (by exact List.nil_sublist _) rfl (.cons (.agg rfl rfl rfl) (.cons (.tmp rfl) (.cons (.tmp rfl) .nil))) ?_))))))
   obtain ⟨t, hT, hte⟩ := hTk
   have hm : mkE s lv xs = 9 := by
    unfold mkE; rw [if_pos hok, if_pos hse, if_pos]
    rcases hte with ⟨_, h⟩ | ⟨h, _⟩
    ·omega
    omega
   exact ⟨by unfold MdP; rw [if_neg (by rw [hm]; decide), hm]; rfl, rfl⟩
  refine wAc (jT (wAk rfl (wAd (jT (wAb (wAa (sLL rfl ?_)))))))
  refine jp rfl (sSt rfl ?_)
  refine jp rfl (jp rfl (wAc (jT (wAe (wDa (rs := [_, _, _]) ([]) (by exact List.nil_sublist _) rfl (.cons (.agg rfl rfl rfl) (.cons (.tmp rfl) (.cons (.tmp rfl) .nil))) ?_)))))
  obtain ⟨t, hT, hte⟩ := hTk
  rcases hte with ⟨h, _⟩ | ⟨rfl, h256, h4096, rfl⟩
  ·omega
  have hm : mkE s lv xs = 0 := by
   unfold mkE; rw [if_pos hok, if_pos hse, if_neg (by omega)]
  exact ⟨by unfold MdP; rw [if_pos hm]; exact ⟨_, rfl, hT⟩, rfl⟩
 refine wBc [2, 7] (by kernel_rfl) rfl ⟨?_, ?_, trivial⟩
 ·refine wDe rfl rfl rfl (wAu rfl rfl rfl rfl rfl (by kernel_rfl) (rblock6_spec lv xs _ M1 (hNS.mono hM1) hno hk)) ?_; rintro _ M2 _ ⟨hM2, _, rfl, ⟨hbv, rfl⟩⟩
  refine wAo (hM2) (by simp) ?_
  simp only [nA]
  refine wBc [3, 7] (by kernel_rfl) rfl ⟨?_, ?_, trivial⟩
  ·refine wDe rfl rfl rfl (wAu rfl rfl rfl rfl rfl (by kernel_rfl) (wJc (wAx s xs) _ M2 (hSh.mono hM2) hst2 (ndB lv xs) _ hbv)) ?_; rintro _ M3 _ ⟨hM3, _, rfl, ⟨⟨x3, e3, rfl, hTk⟩, rfl⟩⟩
   refine wAo ((hM2).trans hM3) (by simp) ?_
   simp only [nA]
   refine wEg (i := 4) rfl (by kernel_rfl) (by kernel_rfl) rfl ?_
   refine wEg (i := 5) rfl (by kernel_rfl) (by kernel_rfl) rfl ?_
   refine wEg (i := 6) rfl (by kernel_rfl) (by kernel_rfl) rfl ?_
   refine wBc [7] (by kernel_rfl) rfl ⟨?_, trivial⟩
   refine wDe rfl rfl rfl (wDy rfl rfl) ?_; rintro _ _ _ ⟨b9, rfl, rfl, rfl⟩
   refine wAo (by first | exact MLe.refl _ | exact hM2 | exact hM2.trans hM3) (by simp) ?_
   refine wCa (listed' := #[true, true, true, true, true, true, true, true, false, false]) (by kernel_rfl) (wBy (.cons (t := 4) rfl (.cons (t := 9) rfl (.cons (t := 26) rfl (.cons (t := 27) rfl .nil)))) ?_)
   exact rest (M3, x3, e3, b9) ⟨hM2.trans hM3, hTk⟩
  refine wDe rfl rfl rfl (wDy rfl rfl) ?_; rintro _ _ _ ⟨b9, rfl, rfl, rfl⟩
  refine wAo (by first | exact MLe.refl _ | exact hM2 | exact hM2.trans hM3) (by simp) ?_
  refine wBc [3] (by kernel_rfl) rfl ⟨?_, trivial⟩
  refine wDe rfl rfl rfl (wAu rfl rfl rfl rfl rfl (by kernel_rfl) (wJc (wAx s xs) _ M2 (hSh.mono hM2) hst2 (ndB lv xs) _ hbv)) ?_; rintro _ M3 _ ⟨hM3, _, rfl, ⟨⟨x3, e3, rfl, hTk⟩, rfl⟩⟩
  refine wAo ((hM2).trans hM3) (by simp) ?_
  simp only [nA]
  refine wEg (i := 4) rfl (by kernel_rfl) (by kernel_rfl) rfl ?_
  refine wEg (i := 5) rfl (by kernel_rfl) (by kernel_rfl) rfl ?_
  refine wEg (i := 6) rfl (by kernel_rfl) (by kernel_rfl) rfl ?_
  refine wCa (listed' := #[true, true, true, true, true, true, true, true, false, false]) (by kernel_rfl) (wBy (.cons (t := 4) rfl (.cons (t := 9) rfl (.cons (t := 26) rfl (.cons (t := 27) rfl .nil)))) ?_)
  exact rest (M3, x3, e3, b9) ⟨hM2.trans hM3, hTk⟩
 refine wDe rfl rfl rfl (wDy rfl rfl) ?_; rintro _ _ _ ⟨b9, rfl, rfl, rfl⟩
 refine wAo (by first | exact MLe.refl _ | exact hM2 | exact hM2.trans hM3) (by simp) ?_
 refine wBc [2] (by kernel_rfl) rfl ⟨?_, trivial⟩
 refine wDe rfl rfl rfl (wAu rfl rfl rfl rfl rfl (by kernel_rfl) (rblock6_spec lv xs _ M1 (hNS.mono hM1) hno hk)) ?_; rintro _ M2 _ ⟨hM2, _, rfl, ⟨hbv, rfl⟩⟩
 refine wAo (hM2) (by simp) ?_
 simp only [nA]
 refine wBc [3] (by kernel_rfl) rfl ⟨?_, trivial⟩
 refine wDe rfl rfl rfl (wAu rfl rfl rfl rfl rfl (by kernel_rfl) (wJc (wAx s xs) _ M2 (hSh.mono hM2) hst2 (ndB lv xs) _ hbv)) ?_; rintro _ M3 _ ⟨hM3, _, rfl, ⟨⟨x3, e3, rfl, hTk⟩, rfl⟩⟩
 refine wAo ((hM2).trans hM3) (by simp) ?_
 simp only [nA]
 refine wEg (i := 4) rfl (by kernel_rfl) (by kernel_rfl) rfl ?_
 refine wEg (i := 5) rfl (by kernel_rfl) (by kernel_rfl) rfl ?_
 refine wEg (i := 6) rfl (by kernel_rfl) (by kernel_rfl) rfl ?_
 refine wCa (listed' := #[true, true, true, true, true, true, true, true, false, false]) (by kernel_rfl) (wBy (.cons (t := 4) rfl (.cons (t := 9) rfl (.cons (t := 26) rfl (.cons (t := 27) rfl .nil)))) ?_)
 exact rest (M3, x3, e3, b9) ⟨hM2.trans hM3, hTk⟩
theorem rmade9_spec (s : Sto) (u : Value) (M : Mem) (h : ST M u s) (hst : wCc s) (lv : Int) (xs : List It) (sl : Value) (hn : NS M sl xs) (hok : wEv lv xs = true) (hk : ∀ x ∈ xs, wFp x.key) : SpecL Tryz.prog 99 #[u, .agg #[.int .i64 lv, sl]] M [] fun u M' L' => MdP s lv xs u M' ∧ L' = [] := by
 obtain ⟨q1, q2, q3, q4, rfl, h1, h2, h3, h4⟩ := h.ex
 obtain ⟨a, c, ps, rfl, hc, hs, hp, hb⟩ := hn
 exact rmade9_walk s _ _ _ _ M h1 h2 h3 h4 hst lv xs a c ps hc hs hp hb hok hk
end Go.Proofs.YtkcpllhggofloaaGreat
