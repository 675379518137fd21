/- Walks: the law DelDoes. -/
import Derived.Test.YtkcpllhggofloaaGreatZLfm
import Derived.Test.YtkcpllhggofloaaGreatZLfn
namespace Go.Proofs.YtkcpllhggofloaaGreat
set_option linter.unusedVariables false
set_option linter.unusedSectionVars false
set_option linter.unusedSimpArgs false
open Go.RowKit
section
variable {P : Program} {ops : Array Oper} {N : Fs} {F : Fr} {E : Ent} {M : Mem} {L : Lc} {o : Oper}
theorem qAw {op : BinOp} {xT yT : TypeId} {x y : Operand} {k : IntKind} {a b r : Int} (hg : gd ops F o = some true) (ho : o.op = .binOp op xT x y yT) (hx : ev F x = some (.int k a)) (hy : ev F y = some (.int k b))
  (hr : ar op a b = some r) : QF P ops N F M L o (.int k (k.wrap r)) := wFd hg fun ac ha w _ => by
 simp only [execOp, ho, ha.ev hx, ha.ev hy]
 unfold ar at hr
 split at hr <;> first | cases hr | skip
 all_goals simp [eqGuard, binOp, Op.intArith]
end
abbrev put1 (l : List Value) (q : Nat) (v : Value) : List Value := l.take q ++ [v] ++ l.drop (q + [v].length)
theorem put1_get {l : List Value} {q : Nat} {v : Value} (h : q < l.length) (i : Nat) : (put1 l q v)[i]? = if i = q then some v else l[i]? := by
 unfold put1
 split
 ·rename_i e; subst e
  rw [List.append_assoc, List.getElem?_append_right (by rw [List.length_take]; omega), List.length_take, show i - min i l.length = 0 by omega]; rfl
 rename_i e
 rcases Nat.lt_or_ge i q with h3 | h3
 ·rw [List.append_assoc, List.getElem?_append_left (by rw [List.length_take]; omega), List.getElem?_take, if_pos h3]
 rw [List.getElem?_append_right (by rw [List.length_append, List.length_take]; simp; omega), List.getElem?_drop, List.length_append, List.length_take]
 congr 1
 simp only [List.length_singleton]; omega
def Wr (M : Mem) (g off n : Nat) (k : IntKind) : Prop := ∃ l e, M g = some (.cells (List.toArray l) e (0, 0)) ∧ ∀ i, i < n → ∃ x : Int, l[off + i]? = some (.int k x)
theorem Wr.at {M : Mem} {g off n : Nat} {k : IntKind} (h : Wr M g off n k) {i : Nat} (hi : i < n) : ∃ l e x, M g = some (.cells (List.toArray l) e (0, 0)) ∧ l[off + ((i : Nat) : Int).toNat * 1]? = some (.int k x) ∧ ∀ i, i < n → ∃ x : Int, l[off + i]? = some (.int k x) := by
 obtain ⟨l, e, h1, h2⟩ := h
 obtain ⟨x, hx⟩ := h2 i hi
 exact ⟨l, e, x, h1, by rw [Int.toNat_natCast, Nat.mul_one]; exact hx, h2⟩
theorem Wr.put {M7 : Mem} {g off n : Nat} {k : IntKind} {l : List Value} {e : TypeId} {q : Nat} {y : Int} (h : ∀ i, i < n → ∃ x : Int, l[off + i]? = some (.int k x)) (hq : q < l.length) (h7 : M7 g = some (.cells (put1 l q (.int k y)).toArray e (0, 0))) : Wr M7 g off n k := by
 refine ⟨_, e, h7, fun i hi => ?_⟩
 rw [put1_get hq]
 split
 ·exact ⟨y, rfl⟩
 exact h i hi
theorem sm_block {M0 M : Mem} {a : Option Addr} {xs : List Value} (h : SM (wEn M0 M) a xs) (hne : xs ≠ []) : ∃ g off l e, a = some ⟨g, off, none⟩ ∧ M0 g = none ∧ M g = some (.cells (List.toArray l) e (0, 0)) ∧ ∀ i u, xs[i]? = some u → l[off + i]? = some u := by
 obtain ⟨b, off, e0, hx⟩ := h.open hne
 obtain ⟨x, hx0⟩ : ∃ x, xs[0]? = some x := by
  cases xs with
  | nil => exact absurd rfl hne
  | cons x _ => exact ⟨x, rfl⟩
 obtain ⟨c, e, fz, h1, h2⟩ := hx 0 x hx0
 obtain ⟨k1, k2, k3⟩ := newOf_iff.1 h1
 have k5 : fz = (0, 0) := of_decide_eq_true k3
 subst k5
 refine ⟨b, off, c.toList, e, e0, k1, by rw [Array.toArray_toList]; exact k2, fun i u hu => ?_⟩
 obtain ⟨c2, e2, fz2, g1, g2⟩ := hx i u hu
 have g3 := (newOf_iff.1 g1).2.1
 rw [k2] at g3
 cases g3
 simpa using g2
theorem wr_bytes {M0 M : Mem} {v : Value} {xs : List By} (h : BS (wEn M0 M) v xs) (hl : 0 < xs.length) : ∃ g off c l e, v = .slice (some ⟨g, off, none⟩) xs.length c ∧ xs.length ≤ c ∧ M0 g = none ∧ M g = some (.cells (List.toArray l) e (0, 0)) ∧ ∀ i, i < xs.length → l[off + i]? = some (.int .u8 ((xs.getD i 0).toNat : Int)) := by
 obtain ⟨a, c, rfl, hc, hs⟩ := h
 obtain ⟨g, off, l, e, rfl, h1, h2, h3⟩ := sm_block hs (by intro e; have := congrArg List.length e; rw [wAm, List.length_nil] at this; omega)
 exact ⟨g, off, c, l, e, rfl, hc, h1, h2, fun i hi => h3 i _ (by simp [wAj, hi, List.getD])⟩
theorem ne_none {M : Mem} {a b : Nat} {o : Obj} (h1 : M a = some o) (h2 : M b = none) : a ≠ b := fun e => by subst e; rw [h1] at h2; cases h2
theorem rgreat8_orR (s : Sto) (u : Value) (M : Mem) (h : ST M u s) : SpecL Tryz.prog 4 #[u] M [] fun u _ L' => (u = .bool true ∧ L' = []) ∨ (u = .bool false ∧ L' = [] ∧ fewS s) :=
 (rgreat8_spec s u M h).mono fun _ _ _ ⟨⟨b, e, hb⟩, hL⟩ => by
  cases b with
  | true => exact .inl ⟨e, hL⟩
  | false => exact .inr ⟨e, hL, hb rfl⟩
def El2 (g h : Nat) (M M' : Mem) : Prop := ∀ b o, b ≠ g → b ≠ h → M b = some o → M' b = some o
theorem El2.put {g h : Nat} {M M' M7 M8 : Mem} (k : El2 g h M M') (h7 : MLe ((M'.del g).del h) M7) (h8 : MLe M7 M8) : El2 g h M M8 := fun b o n1 n2 hb => h8 _ _ (h7 b o (by rw [Mem.del_other n2, Mem.del_other n1]; exact k b o n1 n2 hb))
theorem El2.le {g h : Nat} {M0 M M' : Mem} (k : El2 g h M M') (n1 : M0 g = none) (n2 : M0 h = none) (hM : MLe M0 M) : MLe M0 M' := fun b o hb => k b o (fun e => by subst e; rw [n1] at hb; cases hb) (fun e => by subst e; rw [n2] at hb; cases hb) (hM b o hb)
theorem cm_del {M : Mem} {g b i : Nat} {v : Value} (h : CM M b i v) (hne : b ≠ g) : CM (M.del g) b i v := by
 obtain ⟨c, e, fz, h1, h2⟩ := h; exact ⟨c, e, fz, by rw [Mem.del_other hne]; exact h1, h2⟩
def Rws (M : Mem) (wa : Option Addr) (hb n m : Nat) : Prop := ∀ j, j < m → ∃ rw ro, wa = some ⟨rw, ro, none⟩ ∧ rw ≠ hb ∧ CM M rw (ro + ((j : Nat) : Int).toNat * 2 + 1) (.slice (some ⟨hb, 128 * (n + j), none⟩) 128 128)
theorem Rws.put {M M7 : Mem} {wa : Option Addr} {hb n m : Nat} (h : Rws M wa hb n m) (h7 : MLe (M.del hb) M7) : Rws M7 wa hb n m := fun j hj => by
 obtain ⟨rw, ro, h1, h2, h3⟩ := h j hj; exact ⟨rw, ro, h1, h2, (cm_del h3 h2).mono h7⟩
def sto0 : Sto := ⟨[], [], [], []⟩
theorem st_zero {M : Mem} : ST M (.agg #[.slice none 0 0, .slice none 0 0, .slice none 0 0, .slice none 0 0]) sto0 := ⟨_, _, _, _, rfl, ⟨none, 0, [], rfl, Nat.le_refl _, SM.nil, rfl, fun _ h => by cases h⟩, ⟨none, 0, [], rfl, Nat.le_refl _, SM.nil, rfl, fun _ h => by cases h⟩, BS.nil, BS.nil⟩
theorem few0 : fewS sto0 := ⟨⟨by decide, by decide, (fun _ h => by cases h), (fun _ h => by cases h)⟩, by decide, by decide⟩
theorem few_ok {t : Sto} (h : wCc t) : fewS t := by
 obtain ⟨⟨h1, h2, h3, h4⟩, ⟨h5, _⟩, ⟨h6, _⟩⟩ := h
 exact ⟨⟨by omega, by omega, fun b hb => by have := h3 b hb; omega, fun w hw => by have := (h4 w hw).2.2; omega⟩, by omega, by omega⟩
set_option maxHeartbeats 4000000 in
theorem deldoes_bad (s : Sto) (bv wv nv lw : Value) (M : Mem) (hS : ST M (.agg #[bv, wv, nv, lw]) s) (root : Int) (hr : -9223372036854775808 ≤ root ∧ root ≤ 9223372036854775807) (q : Ky) (e : Int) (hd : delF s root q = .error e) :
  SpecL Tryz.prog 3 #[.agg #[bv, wv, nv, lw], .int .i64 root, .agg (wBb q).toArray] M [] fun u _ _ => u = .bool true := by
 refine wAf (vs := [_, _, _]) 94 _ Tryz.func3 rfl Tryz.ntmps3 rfl rfl ?_; intro W
 refine wAb (wAa (wAy rfl rfl (wCm (cs := [_, _, _, _]) rfl rfl rfl rfl) ?_)); rintro _ _ _ ⟨b3, rfl, rfl, rfl⟩
 refine wAy rfl rfl (wCm (cs := [_, _, _]) rfl rfl rfl rfl) ?_; rintro _ _ _ ⟨b5, rfl, rfl, rfl⟩
 refine jp rfl (wAc (jT (wAb (wAb (wAa (sLL rfl ?_))))))
 refine wAy rfl rfl (wAu rfl rfl rfl rfl rfl (by kernel_rfl) (rgreat8_orR s _ M hS)) ?_; rintro _ M1 _ ⟨hM1, Rg, rfl, hy⟩
 rcases hy with ⟨rfl, hy⟩ | ⟨rfl, hy⟩
 ·refine wAc (jT (wAg rfl (wAb (wAa (jp rfl (wAc (jT (wAe (jTr (jr1 rfl rfl ?_))))))))))
  rfl
 refine wAc (jT (wAk rfl (wAd (jT (wAb ?_)))))
 obtain ⟨rfl, hf⟩ := hy
 simp only [nA]
 refine wAa (sLL rfl ?_)
 have hS1 := hS.mono hM1
 refine wAy rfl rfl (wAu rfl rfl rfl rfl rfl (by kernel_rfl) (rtwin8_spec s _ M1 hS1 hf)) ?_; rintro _ Mt _ ⟨hMt, _, rfl, ⟨hT, rfl⟩⟩
 obtain ⟨bv2, wv2, nv2, lv2, rfl, hTb, hTw, hTn, hTl⟩ := id hT.ex
 obtain ⟨t1, k1, _, rfl, _⟩ := id hTb
 obtain ⟨t2, k2, _, rfl, _⟩ := id hTw
 obtain ⟨t3, k3, rfl, _⟩ := id hTn
 obtain ⟨t4, k4, rfl, _⟩ := id hTl
 clear hTb hTw hTn hTl
 simp only [nA]
 refine sAl rfl fun b7 => ?_
 refine sSt rfl ?_
 refine wAc (jT (wAb (wAa (sLL rfl ?_))))
 refine jp rfl (sLL rfl ?_)
 refine wAy rfl rfl (wAu rfl rfl rfl rfl rfl (by kernel_rfl) (deld_wspec s _ root q Mt hT)) ?_; rintro _ M2 _ ⟨hM2, _, rfl, ⟨hpt, rfl⟩⟩
 rw [hd] at hpt
 simp only [nA]
 obtain ⟨he, rfl⟩ := hpt
 unfold zeroSt
 refine jp rfl (jp rfl (jp rfl (jp rfl (sAl rfl fun b8 => ?_))))
 refine sSt rfl ?_
 refine jp rfl (jp rfl (wAc (jT (wAb (wAa (sLL rfl ?_))))))
 refine jp rfl (sLL rfl ?_)
 refine wAy rfl rfl (wAu rfl rfl rfl rfl rfl (by kernel_rfl) (rdel13_spec s _ M2 ((hS1.mono hMt).mono hM2) hf root hr q)) ?_; rintro _ M3 _ ⟨hM3, _, rfl, ⟨hlo, rfl⟩⟩
 rw [hd] at hlo
 simp only [nA]
 obtain ⟨_, rfl⟩ := hlo
 unfold zeroSt
 refine jp rfl (jp rfl (jp rfl (jp rfl (sAl rfl fun b11 => ?_))))
 refine sSt rfl ?_
 refine jp rfl (jp rfl (wAc (jT (wAb (wAb (wAa (sLL rfl ?_)))))))
 refine sLL rfl ?_
 refine wAi rfl rfl (wBr rfl rfl rfl rfl rfl (by kernel_rfl) ((wHp sto0 _ _ M3 st_zero st_zero few0).mono fun _ _ _ h => h.1)) ?_
 refine jp rfl (jp rfl (jp rfl (jp rfl (jf rfl (decide_eq_false (by first | omega | simp)) ?_))))
 refine jp rfl (jp rfl (jp rfl (jp rfl (jf rfl (decide_eq_false (by first | omega | simp)) ?_))))
 refine jp rfl (wAc (jT (wAk rfl (wAd (jT (wAb (wAb (wAa (jp rfl (wAc (jT (wAh ?_))))))))))))
 refine wAv (α := Unit) (fun _ => [(3, .pointer (some ⟨b3, 0, none⟩)), (7, .pointer (some ⟨b7, 0, none⟩)), (8, .pointer (some ⟨b8, 0, none⟩)), (14, .int .i64 0)]) (fun _ => M3) (fun _ => [(b11, .cells [.slice none 0 0, .slice none 0 0, .slice none 0 0, .slice none 0 0].toArray 28 (0, 0)), (b8, .cells [.slice none 0 0, .slice none 0 0, .slice none 0 0, .slice none 0 0].toArray 28 (0, 0)), (b7, .cells [.slice t1 s.blocks.length k1, .slice t2 s.waits.length k2, .slice t3 s.now.length k3, .slice t4 s.last.length k4].toArray 28 (0, 0)), (b5, .cells (wBb q).toArray 31 (0, 0)), (b3, .cells [bv, wv, nv, lw].toArray 28 (0, 0))]) (fun _ => True) (fun _ => 0)
  () (.cons (t := 3) rfl (.cons (t := 7) rfl (.cons (t := 8) rfl (.cons (t := 14) rfl .nil)))) trivial (fun _ h => h) ?_
 rintro ⟨⟩ _
 try dsimp only
 refine wAb (wAb (wAa (jp rfl (sFL rfl rfl ?_))))
 refine wAi rfl rfl (wBj rfl rfl rfl) ?_
 refine jf rfl (decide_eq_false (by first | omega | simp)) ?_
 refine wAc (jT (wAk rfl (wAw (jTx (jTx (jBx (jT (wAb (wAb (wAa (jp rfl (wAc (jT (wAh ?_))))))))))))))
 refine wAv (α := Unit) (fun _ => [(3, .pointer (some ⟨b3, 0, none⟩)), (7, .pointer (some ⟨b7, 0, none⟩)), (8, .pointer (some ⟨b8, 0, none⟩)), (15, .int .i64 0)]) (fun _ => M3) (fun _ => [(b11, .cells [.slice none 0 0, .slice none 0 0, .slice none 0 0, .slice none 0 0].toArray 28 (0, 0)), (b8, .cells [.slice none 0 0, .slice none 0 0, .slice none 0 0, .slice none 0 0].toArray 28 (0, 0)), (b7, .cells [.slice t1 s.blocks.length k1, .slice t2 s.waits.length k2, .slice t3 s.now.length k3, .slice t4 s.last.length k4].toArray 28 (0, 0)), (b5, .cells (wBb q).toArray 31 (0, 0)), (b3, .cells [bv, wv, nv, lw].toArray 28 (0, 0))]) (fun _ => True) (fun _ => 0)
  () (.cons (t := 3) rfl (.cons (t := 7) rfl (.cons (t := 8) rfl (.cons (t := 15) rfl .nil)))) trivial (fun _ h => h) ?_
 rintro ⟨⟩ _
 try dsimp only
 refine wAb (wAb (wAa (jp rfl (sFa rfl ?_))))
 refine sFL rfl rfl ?_
 refine wAi rfl rfl (wBj rfl rfl rfl) ?_
 refine jf rfl (decide_eq_false (by first | omega | simp)) ?_
 refine wAc (jT (wAk rfl (wAw (jTx (jTx (jBx (jT (wAb (wAa (sLL rfl ?_))))))))))
 refine sLL rfl ?_
 refine wAi rfl rfl (wBr rfl rfl rfl rfl rfl (by kernel_rfl) ((wHp s _ _ M3 (hT.mono (hM2.trans hM3)) (hS1.mono (hMt.trans (hM2.trans hM3))) hf).mono fun _ _ _ h => h.1)) ?_
 refine jp rfl (wAc (jT (wAe (jr1 rfl rfl ?_))))
 rfl
set_option maxHeartbeats 8000000 in
theorem deldoes_ok (s : Sto) (bv wv nv lw : Value) (M : Mem) (hS : ST M (.agg #[bv, wv, nv, lw]) s) (root : Int) (hr : -9223372036854775808 ≤ root ∧ root ≤ 9223372036854775807) (q : Ky) (t : Sto) (n : Int) (hd : delF s root q = .ok (t, n)) :
  SpecL Tryz.prog 3 #[.agg #[bv, wv, nv, lw], .int .i64 root, .agg (wBb q).toArray] M [] fun u _ _ => u = .bool true := by
 refine wAf (vs := [_, _, _]) 94 _ Tryz.func3 rfl Tryz.ntmps3 rfl rfl ?_; intro W
 refine wAb (wAa (wAy rfl rfl (wCm (cs := [_, _, _, _]) rfl rfl rfl rfl) ?_)); rintro _ _ _ ⟨b3, rfl, rfl, rfl⟩
 refine wAy rfl rfl (wCm (cs := [_, _, _]) rfl rfl rfl rfl) ?_; rintro _ _ _ ⟨b5, rfl, rfl, rfl⟩
 refine jp rfl (wAc (jT (wAb (wAb (wAa (sLL rfl ?_))))))
 refine wAy rfl rfl (wAu rfl rfl rfl rfl rfl (by kernel_rfl) (rgreat8_orR s _ M hS)) ?_; rintro _ M1 _ ⟨hM1, Rg, rfl, hy⟩
 rcases hy with ⟨rfl, hy⟩ | ⟨rfl, hy⟩
 ·refine wAc (jT (wAg rfl (wAb (wAa (jp rfl (wAc (jT (wAe (jTr (jr1 rfl rfl ?_))))))))))
  rfl
 refine wAc (jT (wAk rfl (wAd (jT (wAb ?_)))))
 obtain ⟨rfl, hf⟩ := hy
 simp only [nA]
 refine wAa (sLL rfl ?_)
 have hS1 := hS.mono hM1
 refine wAy rfl rfl (wAu rfl rfl rfl rfl rfl (by kernel_rfl) (rtwin8_spec s _ M1 hS1 hf)) ?_; rintro _ Mt _ ⟨hMt, _, rfl, ⟨hT, rfl⟩⟩
 obtain ⟨bv2, wv2, nv2, lv2, rfl, hTb, hTw, hTn, hTl⟩ := id hT.ex
 obtain ⟨t1, k1, _, rfl, _⟩ := id hTb
 obtain ⟨t2, k2, _, rfl, _⟩ := id hTw
 obtain ⟨t3, k3, rfl, _⟩ := id hTn
 obtain ⟨t4, k4, rfl, _⟩ := id hTl
 clear hTb hTw hTn hTl
 simp only [nA]
 refine sAl rfl fun b7 => ?_
 refine sSt rfl ?_
 refine wAc (jT (wAb (wAa (sLL rfl ?_))))
 refine jp rfl (sLL rfl ?_)
 refine wAy rfl rfl (wAu rfl rfl rfl rfl rfl (by kernel_rfl) (deld_wspec s _ root q Mt hT)) ?_; rintro _ M2 _ ⟨hM2, _, rfl, ⟨hpt, rfl⟩⟩
 rw [hd] at hpt
 simp only [nA]
 obtain ⟨_, rfl, hst2, hok⟩ := hpt
 obtain ⟨rb, wa, wc, na, nc, la, lc, hb, Mx, My, rfl, f1, f2, f3, f4, hhw, hx1, hx2, hx3, hnn, hnl⟩ := hst2
 have hcn : t.now.length = 256 := hok.2.1.1
 have hcl : t.last.length = 256 := hok.2.2.1
 have hA2 : ST M2 _ t := ⟨_, _, _, _, rfl, f1, f2, f3, f4⟩
 obtain ⟨gn, qn, _, ln, en, e1, hnc, hgn0, hgn1, hgnl⟩ := wr_bytes hnn (by omega)
 cases e1
 obtain ⟨gl, ql, _, ll, el, e2, hlc, hgl0, hgl1, hgll⟩ := wr_bytes hnl (by omega)
 cases e2
 clear f1 f2 f3 f4
 refine jp rfl (jp rfl (jp rfl (jp rfl (sAl rfl fun b8 => ?_))))
 refine sSt rfl ?_
 refine jp rfl (jp rfl (wAc (jT (wAb (wAa (sLL rfl ?_))))))
 refine jp rfl (sLL rfl ?_)
 refine wAy rfl rfl (wAu rfl rfl rfl rfl rfl (by kernel_rfl) (rdel13_spec s _ M2 ((hS1.mono hMt).mono hM2) hf root hr q)) ?_; rintro _ M3 _ ⟨hM3, _, rfl, ⟨hlo, rfl⟩⟩
 rw [hd] at hlo
 simp only [nA]
 obtain ⟨_, rfl, hB3⟩ := hlo
 obtain ⟨_, _, _, _, rfl, r1, r2, r3, r4⟩ := id hB3.ex
 obtain ⟨ra1, rc1, _, rfl, _⟩ := id r1
 obtain ⟨ra2, rc2, _, rfl, _⟩ := id r2
 obtain ⟨ra3, rc3, rfl, _⟩ := id r3
 obtain ⟨ra4, rc4, rfl, _⟩ := id r4
 clear r1 r2 r3 r4
 refine jp rfl (jp rfl (jp rfl (jp rfl (sAl rfl fun b11 => ?_))))
 refine sSt rfl ?_
 refine jp rfl (jp rfl (wAc (jT (wAb (wAb (wAa (sLL rfl ?_)))))))
 refine sLL rfl ?_
 refine wAi rfl rfl (wBr rfl rfl rfl rfl rfl (by kernel_rfl) ((wHp t _ _ M3 (hA2.mono hM3) hB3 (few_ok hok)).mono fun _ _ _ h => h.1)) ?_
 refine jp rfl (jp rfl (jp rfl (jp rfl (jf rfl (decide_eq_false (by omega)) ?_))))
 refine jp rfl (jp rfl (jp rfl (jp rfl (jf rfl (decide_eq_false (by omega)) ?_))))
 refine jp rfl (wAc (jT (wAk rfl (wAd (jT (wAb (wAb (wAa (jp rfl (wAc (jT (wAh ?_))))))))))))
 have en3 : M3 gn = _ := (hx3.trans hM3) _ _ hgn1
 have el3 : M3 gl = _ := hM3 _ _ hgl1
 have nl : gn ≠ gl := ne_none hgn1 hgl0
 have tn : Mt gn = none := none_le hx1 hgn0
 have tl : Mt gl = none := none_le (hx1.trans hx2) hgl0
 have hM0n : M gn = none := none_le (hM1.trans hMt) tn
 have hM0l : M gl = none := none_le (hM1.trans hMt) tl
 have ht3 : MLe Mt M3 := hM2.trans hM3
 have hnw : t.waits.length ≤ 4096 := hok.1.2.1
 have hWn : Wr M3 gn qn 256 .u8 := ⟨ln, en, en3, fun i hi => ⟨_, hgnl i (by omega)⟩⟩
 have hWl : Wr M3 gl ql 256 .u8 := ⟨ll, el, el3, fun i hi => ⟨_, hgll i (by omega)⟩⟩
 refine wAv (α := Nat × Mem) (fun z => [(3, .pointer (some ⟨b3, 0, none⟩)), (7, .pointer (some ⟨b7, 0, none⟩)), (8, .pointer (some ⟨b8, 0, none⟩)), (14, .int .i64 z.1)]) (fun z => z.2) (fun _ => [(b11, .cells [.slice ra1 t.blocks.length rc1, .slice ra2 t.waits.length rc2, .slice ra3 t.now.length rc3, .slice ra4 t.last.length rc4].toArray 28 (0, 0)), (b8, .cells [.slice (some ⟨rb, 0, none⟩) t.blocks.length t.blocks.length, .slice wa t.waits.length wc, .slice (some ⟨gn, qn, none⟩) t.now.length nc, .slice (some ⟨gl, ql, none⟩) t.last.length lc].toArray 28 (0, 0)), (b7, .cells [.slice t1 s.blocks.length k1, .slice t2 s.waits.length k2, .slice t3 s.now.length k3, .slice t4 s.last.length k4].toArray 28 (0, 0)), (b5, .cells (wBb q).toArray 31 (0, 0)), (b3, .cells [bv, wv, nv, lw].toArray 28 (0, 0))]) (fun z => z.1 ≤ 256 ∧ Wr z.2 gn qn 256 .u8 ∧ Wr z.2 gl ql 256 .u8 ∧ El2 gn gl M3 z.2) (fun z => 256 - z.1)
  (0, M3) (.cons (t := 3) rfl (.cons (t := 7) rfl (.cons (t := 8) rfl (.cons (t := 14) rfl .nil)))) ⟨Nat.zero_le _, hWn, hWl, fun _ _ _ _ h => h⟩ (fun _ h => h) ?_
 rintro ⟨i, Mi⟩ ⟨hi, hW1, hW2, hE1⟩
 try dsimp only at hi hW1 hW2 hE1 ⊢
 refine wAb (wAb (wAa (jp rfl (sFL rfl rfl ?_))))
 refine wAi rfl rfl (wBj rfl rfl rfl) ?_
 refine js rfl (fun h54 => ?_) (fun h54 => ?_)
 ·refine wAc (jT (wAg rfl (wAd (jT (wAb (wAh (wAb ?_)))))))
  have hi1 : i < 256 := by omega
  obtain ⟨l, e, x, hMg, hl, hall⟩ := hW1.at hi1
  have hll1 := (List.getElem?_eq_some_iff.1 hl).1
  have hfit1 : Nat.ble (qn + ((i : Nat) : Int).toNat * 1 + 1) l.length = true := Nat.ble_eq_true_of_le hll1
  refine jc_thaw hMg hM0n ?_
  refine wAa (sFL rfl rfl ?_)
  refine jp rfl (wAi rfl rfl (wBe rfl rfl rfl rfl (by omega)) ?_)
  refine jl_s rfl (wBm (l2 := put1 l (qn + ((i : Nat) : Int).toNat * 1) (.int .u8 9)) rfl rfl rfl rfl rfl rfl rfl hfit1 rfl) ?_; rintro _ _ _ ⟨rfl, rfl⟩
  refine wAc (jT ?_)
  obtain ⟨l2, ed2, x2, hMg2, hl2, hall2⟩ := hW2.at hi1
  have hll2 := (List.getElem?_eq_some_iff.1 hl2).1
  have hfit2 : Nat.ble (ql + ((i : Nat) : Int).toNat * 1 + 1) l2.length = true := Nat.ble_eq_true_of_le hll2
  refine jc_thaw (M := Mi.del gn) (g := gl) (ob := .cells l2.toArray ed2 (0, 0)) (by rw [Mem.del_other nl.symm]; exact hMg2) hM0l ?_
  refine wAa (sFL rfl rfl ?_)
  refine jp rfl (wAi rfl rfl (wBe rfl rfl rfl rfl (by omega)) ?_)
  refine jl_s rfl (wBm (l2 := put1 l2 (ql + ((i : Nat) : Int).toNat * 1) (.int .u8 9)) rfl rfl rfl rfl rfl rfl rfl hfit2 rfl) ?_; rintro _ _ _ ⟨rfl, rfl⟩
  refine wAc (jB (jT (wAa (jp rfl (ja rfl (by omega) ?_)))))
  refine jp rfl (wAc (wEe gn (by simp) ?_))
  intro M7 hM7 e7
  refine wEe gl (by simp) ?_
  intro M8 hM8 e8
  refine wAp (i + 1, M8) (.cons (t := 3) rfl (.cons (t := 7) rfl (.cons (t := 8) rfl (.cons (t := 14) rfl .nil)))) ⟨by show i + 1 ≤ 256; omega, Wr.put hall hll1 (hM8 _ _ e7), Wr.put hall2 hll2 e8, hE1.put hM7 hM8⟩ (by show 256 - (i + 1) < 256 - i; omega) (fun _ h => h)
 refine wAc (jT (wAk rfl (wAw (jTx (jTx (jBx (jT (wAb (wAb (wAa (jp rfl (wAc (jT (wAh ?_))))))))))))))
 have hti : MLe Mt Mi := hE1.le tn tl ht3
 obtain ⟨lh, hlh, ehb⟩ := hhw.1.2
 have hbn : hb ≠ gn := ne_none ehb hgn0
 have hbl : hb ≠ gl := ne_none (hx2 _ _ ehb) hgl0
 have thb : Mt hb = none := hhw.1.1
 have hM0h : M hb = none := none_le (hM1.trans hMt) thb
 have hxi : MLe Mx M3 := hx2.trans (hx3.trans hM3)
 have hWh : Wr Mi hb 0 (128 * (t.blocks.length + t.waits.length)) .u8 := ⟨_, _, hE1 _ _ hbn hbl (hxi _ _ ehb), fun i hi => by rw [Nat.zero_add]; exact ⟨_, by rw [wAj, List.getElem?_map, List.getElem?_eq_getElem (show i < lh.length by omega)]; rfl⟩⟩
 have hRw : Rws Mi wa hb t.blocks.length t.waits.length := fun j hj => by
  obtain ⟨rw, ro, h1, h2, c, e, fz, h3, h4⟩ := hhw.2 j hj
  exact ⟨rw, ro, h1, h2, c, e, fz, hE1 _ _ (ne_none h3 hgn0) (ne_none (hx2 _ _ h3) hgl0) (hxi _ _ h3), h4⟩
 refine wAv (α := Nat × Mem) (fun z => [(3, .pointer (some ⟨b3, 0, none⟩)), (7, .pointer (some ⟨b7, 0, none⟩)), (8, .pointer (some ⟨b8, 0, none⟩)), (15, .int .i64 z.1)]) (fun z => z.2) (fun _ => [(b11, .cells [.slice ra1 t.blocks.length rc1, .slice ra2 t.waits.length rc2, .slice ra3 t.now.length rc3, .slice ra4 t.last.length rc4].toArray 28 (0, 0)), (b8, .cells [.slice (some ⟨rb, 0, none⟩) t.blocks.length t.blocks.length, .slice wa t.waits.length wc, .slice (some ⟨gn, qn, none⟩) t.now.length nc, .slice (some ⟨gl, ql, none⟩) t.last.length lc].toArray 28 (0, 0)), (b7, .cells [.slice t1 s.blocks.length k1, .slice t2 s.waits.length k2, .slice t3 s.now.length k3, .slice t4 s.last.length k4].toArray 28 (0, 0)), (b5, .cells (wBb q).toArray 31 (0, 0)), (b3, .cells [bv, wv, nv, lw].toArray 28 (0, 0))]) (fun z => z.1 ≤ t.waits.length ∧ MLe Mt z.2 ∧ Wr z.2 hb 0 (128 * (t.blocks.length + t.waits.length)) .u8 ∧ Rws z.2 wa hb t.blocks.length t.waits.length) (fun z => t.waits.length - z.1)
  (0, Mi) (.cons (t := 3) rfl (.cons (t := 7) rfl (.cons (t := 8) rfl (.cons (t := 15) rfl .nil)))) ⟨Nat.zero_le _, hti, hWh, hRw⟩ (fun _ h => h) ?_
 rintro ⟨j, Mj⟩ ⟨hj, htj, hW3, hR3⟩
 try dsimp only at hj htj hW3 hR3 ⊢
 refine wAb (wAb (wAa (jp rfl (sFa rfl ?_))))
 refine sFL rfl rfl ?_
 refine wAi rfl rfl (wBj rfl rfl rfl) ?_
 refine js rfl (fun h70 => ?_) (fun h70 => ?_)
 ·refine wAc (jT (wAg rfl (wAd (jT (wAb (wAh ?_))))))
  have hj1 : j < t.waits.length := by omega
  obtain ⟨l, e, hMg, hall⟩ := hW3
  obtain ⟨x, hl0⟩ := hall (128 * (t.blocks.length + j) + 9) (by omega)
  have hl : l[128 * (t.blocks.length + j) + (9 : Int).toNat * 1]? = some (.int .u8 x) := by simpa using hl0
  obtain ⟨rw, ro, e0, hne, hrow0⟩ := hR3 j hj1
  have hrow := cm_del hrow0 hne
  have hll := (List.getElem?_eq_some_iff.1 hl).1
  have hfit : Nat.ble (128 * (t.blocks.length + j) + (9 : Int).toNat * 1 + 1) l.length = true := Nat.ble_eq_true_of_le hll
  refine jc_thaw hMg hM0h ?_
  refine wDb (p := { A := fun i => !([18].contains i), U := fun i => !([18].contains i) }) [(0, true), (1, true), (2, true), (3, true), (4, true), (5, true), (6, true), (7, true), (8, true), (9, true), (10, true), (11, true), (12, true), (13, true), (14, true), (15, true), (16, true), (17, true), (18, false)] (Mj.del hb) ([(hb, .cells l.toArray e (0, 0)), (b8, .cells [.slice (some ⟨rb, 0, none⟩) t.blocks.length t.blocks.length, .slice wa t.waits.length wc, .slice (some ⟨gn, qn, none⟩) t.now.length nc, .slice (some ⟨gl, ql, none⟩) t.last.length lc].toArray 28 (0, 0))]) ([]) (by kernel_rfl) (by kernel_rfl) (by kernel_rfl) (by kernel_rfl) rfl (by simp) (MLe.refl _) (by simp) ?_
  refine dFa rfl rfl ?_
  refine dFa rfl rfl ?_
  refine dLd rfl rfl ?_
  refine dp rfl rfl ?_
  refine wBq rfl rfl rfl (wCe rfl rfl rfl rfl e0 (by omega)) ?_
  refine dFa rfl rfl ?_
  refine wBq rfl rfl rfl (qLd rfl rfl rfl rfl (hrow.cj _)) ?_
  refine dFa rfl rfl ?_
  refine dFa rfl rfl ?_
  refine dLd rfl rfl ?_
  refine dp rfl rfl ?_
  refine wBq rfl rfl rfl (wCe rfl rfl rfl rfl e0 (by omega)) ?_
  refine dFa rfl rfl ?_
  refine wBq rfl rfl rfl (qLd rfl rfl rfl rfl (hrow.cj _)) ?_
  refine wBq rfl rfl rfl (wBe rfl rfl rfl rfl (by omega)) ?_
  refine wBq rfl rfl rfl (qLd rfl rfl rfl rfl (CJ.loc hl)) ?_
  refine wBq rfl rfl rfl (qAw rfl rfl rfl rfl rfl) ?_
  refine wBq rfl rfl rfl (wBe rfl rfl rfl rfl (by omega)) ?_
  refine jd_e rfl rfl (wBm (l2 := put1 l (128 * (t.blocks.length + j) + (9 : Int).toNat * 1) (.int .u8 (IntKind.u8.wrap (x + 1)))) rfl rfl rfl rfl rfl rfl rfl hfit rfl) ?_; rintro _ _ _ ⟨rfl, rfl⟩
  refine ⟨MLe.refl _, by simp, ?_⟩
  refine wFf ?_
  refine jPn (jB (jT (wAa (jp rfl (ja rfl (by omega) ?_)))))
  refine jp rfl (wAc (wEe hb (by simp) ?_))
  intro M7 hM7 e7
  refine wAp (j + 1, M7) (.cons (t := 3) rfl (.cons (t := 7) rfl (.cons (t := 8) rfl (.cons (t := 15) rfl .nil)))) ⟨by show j + 1 ≤ t.waits.length; omega, fun b o h => hM7 _ _ (by rw [Mem.del_other (fun e => by subst e; rw [thb] at h; cases h)]; exact htj b o h), Wr.put hall hll e7, hR3.put hM7⟩ (by show t.waits.length - (j + 1) < t.waits.length - j; omega) (fun _ h => h.subC fun f => by simp only [sv4, List.map_append, List.map_cons, List.map_nil, List.sum_append, List.sum_cons, List.sum_nil]; omega)
 refine wAc (jT (wAk rfl (wAw (jTx (jTx (jBx (jT (wAb (wAa (sLL rfl ?_))))))))))
 refine sLL rfl ?_
 refine wAi rfl rfl (wBr rfl rfl rfl rfl rfl (by kernel_rfl) ((wHp s _ _ Mj (hT.mono htj) ((hS1.mono hMt).mono htj) hf).mono fun _ _ _ h => h.1)) ?_
 refine jp rfl (wAc (jT (wAe (jr1 rfl rfl ?_))))
 rfl
theorem deldoes_spec (s : Sto) (u : Value) (M : Mem) (h : ST M u s) (root : Int) (hr : -9223372036854775808 ≤ root ∧ root ≤ 9223372036854775807) (q : Ky) : SpecL Tryz.prog 3 #[u, .int .i64 root, .agg (wBb q).toArray] M [] fun u _ _ => u = .bool true := by
 obtain ⟨bv, wv, nv, lw, rfl, _, _, _, _⟩ := id h
 cases hd : delF s root q with
 | error e => exact deldoes_bad s bv wv nv lw M h root hr q e hd
 | ok p => obtain ⟨t, n⟩ := p; exact deldoes_ok s bv wv nv lw M h root hr q t n hd
end Go.Proofs.YtkcpllhggofloaaGreat
