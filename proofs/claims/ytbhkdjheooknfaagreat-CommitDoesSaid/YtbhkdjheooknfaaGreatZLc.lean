/- What is written to afterwards: rows of cells in new blocks. No program in sight. -/
import Derived.Test.YtbhkdjheooknfaaGreatZLb
import Derived.Test.YtbhkdjheooknfaaGreatZThaw
namespace Go.Proofs.YtbhkdjheooknfaaGreat
set_option linter.unusedVariables false
set_option linter.unusedSectionVars false
set_option linter.unusedSimpArgs false
open Go.RowKit
section
variable {P : Program} {ops : Array Oper} {N : Fs} {F : Fr} {E : Ent} {M : Mem} {L : Lc} {o : Oper}
theorem qAw {op : BinOp} {xT yT : TypeId} {x y : Operand} {k : IntKind} {a b r : Int} (hg : gd ops F o = some true) (ho : o.op = .binOp op xT x y yT) (hx : ev F x = some (.int k a)) (hy : ev F y = some (.int k b))
  (hr : ar op a b = some r) : QF P ops N F M L o (.int k (k.wrap r)) := wDs hg fun ac ha w _ => by
 simp only [execOp, ho, ha.ev hx, ha.ev hy]
 unfold ar at hr
 split at hr <;> first | cases hr | skip
 all_goals simp [eqGuard, binOp, Op.intArith]
end
abbrev put1 (l : List Value) (q : Nat) (v : Value) : List Value := l.take q ++ [v] ++ l.drop (q + [v].length)
theorem put1_len {l : List Value} {q : Nat} {v : Value} (h : q < l.length) : (put1 l q v).length = l.length := by
 unfold put1; simp only [List.length_append, List.length_take, List.length_drop, List.length_singleton]; omega
theorem put1_get {l : List Value} {q : Nat} {v : Value} (h : q < l.length) (i : Nat) : (put1 l q v)[i]? = if i = q then some v else l[i]? := by
 unfold put1
 split
 ·rename_i e; subst e
  rw [List.append_assoc, List.getElem?_append_right (by rw [List.length_take]; omega), List.length_take, show i - min i l.length = 0 by omega]; rfl
 rename_i e
 rcases Nat.lt_or_ge i q with h3 | h3
 ·rw [List.append_assoc, List.getElem?_append_left (by rw [List.length_take]; omega), List.getElem?_take, if_pos h3]
 rw [List.getElem?_append_right (by rw [List.length_append, List.length_take]; simp; omega), List.getElem?_drop, List.length_append, List.length_take]
 congr 1
 simp only [List.length_singleton]; omega
def Els (g : Nat) (M M' : Mem) : Prop := ∀ b o, b ≠ g → M b = some o → M' b = some o
theorem Els.refl (g : Nat) (M : Mem) : Els g M M := fun _ _ _ h => h
theorem Els.le {g : Nat} {M0 M M' : Mem} (h : Els g M M') (hn : M0 g = none) (hM : MLe M0 M) : MLe M0 M' := fun b o hb => h b o (fun e => by subst e; rw [hn] at hb; cases hb) (hM b o hb)
theorem Els.put {g : Nat} {M M' M7 : Mem} (h : Els g M M') (h7 : MLe (M'.del g) M7) : Els g M M7 := fun b o hne hb => h7 b o (by rw [Mem.del_other hne]; exact h b o hne hb)
theorem Els.del {g b : Nat} {M M' : Mem} {o : Obj} (h : Els g M M') (hb : M b = some o) (hne : b ≠ g) : (M'.del g) b = some o := by rw [Mem.del_other hne]; exact h b o hne hb
def Wr (M : Mem) (g off n : Nat) (k : IntKind) : Prop := ∃ l e, M g = some (.cells (List.toArray l) e (0, 0)) ∧ ∀ i, i < n → ∃ x : Int, l[off + i]? = some (.int k x)
theorem Wr.at {M : Mem} {g off n : Nat} {k : IntKind} (h : Wr M g off n k) {i : Nat} (hi : i < n) : ∃ l e x, M g = some (.cells (List.toArray l) e (0, 0)) ∧ l[off + ((i : Nat) : Int).toNat * 1]? = some (.int k x) ∧ ∀ i, i < n → ∃ x : Int, l[off + i]? = some (.int k x) := by
 obtain ⟨l, e, h1, h2⟩ := h
 obtain ⟨x, hx⟩ := h2 i hi
 exact ⟨l, e, x, h1, by rw [Int.toNat_natCast, Nat.mul_one]; exact hx, h2⟩
theorem Wr.put {M7 : Mem} {g off n : Nat} {k : IntKind} {l : List Value} {e : TypeId} {q : Nat} {y : Int} (h : ∀ i, i < n → ∃ x : Int, l[off + i]? = some (.int k x)) (hq : q < l.length) (h7 : M7 g = some (.cells (put1 l q (.int k y)).toArray e (0, 0))) : Wr M7 g off n k := by
 refine ⟨_, e, h7, fun i hi => ?_⟩
 rw [put1_get hq]
 split
 ·exact ⟨y, rfl⟩
 exact h i hi
theorem sm_block {M0 M : Mem} {a : Option Addr} {xs : List Value} (h : SM (wDm M0 M) a xs) (hne : xs ≠ []) : ∃ g off l e, a = some ⟨g, off, none⟩ ∧ M0 g = none ∧ M g = some (.cells (List.toArray l) e (0, 0)) ∧ ∀ i u, xs[i]? = some u → l[off + i]? = some u := by
 obtain ⟨b, off, e0, hx⟩ := h.open hne
 obtain ⟨x, hx0⟩ : ∃ x, xs[0]? = some x := by
  cases xs with
  | nil => exact absurd rfl hne
  | cons x _ => exact ⟨x, rfl⟩
 obtain ⟨c, e, fz, h1, h2⟩ := hx 0 x hx0
 obtain ⟨k1, k2, k3⟩ := newOf_iff.1 h1
 have k5 : fz = (0, 0) := of_decide_eq_true k3
 subst k5
 refine ⟨b, off, c.toList, e, e0, k1, by rw [Array.toArray_toList]; exact k2, fun i u hu => ?_⟩
 obtain ⟨c2, e2, fz2, g1, g2⟩ := hx i u hu
 have g3 := (newOf_iff.1 g1).2.1
 rw [k2] at g3
 cases g3
 simpa using g2
theorem wr_bytes {M0 M : Mem} {v : Value} {xs : List By} (h : BS (wDm M0 M) v xs) (hl : 0 < xs.length) : ∃ g off c l e, v = .slice (some ⟨g, off, none⟩) xs.length c ∧ xs.length ≤ c ∧ M0 g = none ∧ M g = some (.cells (List.toArray l) e (0, 0)) ∧ ∀ i, i < xs.length → l[off + i]? = some (.int .u8 ((xs.getD i 0).toNat : Int)) := by
 obtain ⟨a, c, rfl, hc, hs⟩ := h
 obtain ⟨g, off, l, e, rfl, h1, h2, h3⟩ := sm_block hs (by intro e; have := congrArg List.length e; rw [wAm, List.length_nil] at this; omega)
 exact ⟨g, off, c, l, e, rfl, hc, h1, h2, fun i hi => h3 i _ (by simp [wAj, hi, List.getD])⟩
theorem wr_ints {M0 M : Mem} {v : Value} {xs : List Int} (h : NI (wDm M0 M) v xs) (hl : 0 < xs.length) : ∃ g off c, v = .slice (some ⟨g, off, none⟩) xs.length c ∧ M0 g = none ∧ Wr M g off xs.length .i64 := by
 obtain ⟨a, c, rfl, hc, hs⟩ := h
 obtain ⟨g, off, l, e, rfl, h1, h2, h3⟩ := sm_block hs (by intro e; have := congrArg List.length e; rw [wBc, List.length_nil] at this; omega)
 exact ⟨g, off, c, rfl, h1, l, e, h2, fun i hi => ⟨xs[i], h3 i _ (by simp [wAw, hi])⟩⟩
theorem wFy {M : Mem} {a b : Nat} {o : Obj} (h1 : M a = some o) (h2 : M b = none) : a ≠ b := fun e => by subst e; rw [h1] at h2; cases h2
theorem few_cmt {p : Po} (h : PoOk p) (hn : PoN p) (hd : p.dead.length ≤ 1000) : fewP (cmt p) := by
 have h3 := wFw h hn 3
 have h4 := wGo h3 fun w hw => (h3.2.2.2 w hw).2.2
 refine ⟨⟨⟨?_, by show ([] : List Wt).length ≤ 5000; simp, fun b hb => ?_, fun w hw => by cases hw⟩, ?_, ?_⟩, hd⟩
 ·show (wFs (dsk p 3).1 (dsk p 3).2).length ≤ 300; rw [h4.1]; decide
 ·have := h4.2.2.1 b hb; omega
 ·show p.st.now.length ≤ 10000; rw [h.st.2.1.1]; decide
 show p.st.now.length ≤ 10000; rw [h.st.2.1.1]; decide
def cutE (p : Po) (phase : Int) (keep : List Bool) : Int := if wHm p = 0 then if phase < 1 ∨ 3 < phase then 2 else if keep.length = (dsk p phase.toNat).2.length then 0 else 2 else wHm p
def wKf (p : Po) (phase : Int) (keep : List Bool) : List (List By) := if wHm p = 0 then if phase < 1 ∨ 3 < phase then [] else if keep.length = (dsk p phase.toNat).2.length then wFs (dsk p phase.toNat).1 (wGc keep (dsk p phase.toNat).2) else [] else []
theorem cut_few {p : Po} {phase : Int} {keep : List Bool} (hn : PoN p) : few (wKf p phase keep) [] := by
 have hz : few [] [] := ⟨by simp, by simp, (fun b h => by cases h), (fun w h => by cases h)⟩
 unfold wKf
 split
 ·rename_i h0
  obtain ⟨hok, _⟩ := askC_ok h0
  split
  ·exact hz
  split
  ·have h3 := wFw hok hn phase.toNat
   have h4 := wGo h3 (ws := wGc keep (dsk p phase.toNat).2) fun w hw => (h3.2.2.2 w (wKb hw)).2.2
   exact ⟨by rw [h4.1]; decide, by simp, fun b hb => by have := h4.2.2.1 b hb; omega, fun w h => by cases h⟩
  exact hz
 exact hz
structure CutO (M0 M' : Mem) (ba wa : Option Addr) (bc wc : Nat) (bs : List (List By)) : Prop where
 b : LS M' (.slice ba bs.length bc) bs
 w : WS M' (.slice wa 0 wc) []
 n : (bs = [] ∧ ba = none ∧ bc = 0) ∨ ∃ hb rb, ba = some ⟨rb, 0, none⟩ ∧ bc = bs.length ∧ M0 rb = none ∧ M' rb = some (.cells (blC hb bs.length bs.length).toArray 26 (0, 0))
theorem LS.nil {M : Mem} : LS M (.slice none 0 0) [] := ⟨none, 0, [], rfl, Nat.le_refl _, SM.nil, rfl, fun _ h => by cases h⟩
theorem cut_none {M M' : Mem} : CutO M M' none none 0 0 [] := ⟨LS.nil, WS.nil, .inl ⟨rfl, rfl, rfl⟩⟩
theorem cut_out {p : Po} {phase : Int} {keep : List Bool} {u : Value} {M M' : Mem} (h : CutN p phase keep u M M') : ∃ ba wa bc wc, u = .tuple #[.agg #[.slice ba (wKf p phase keep).length bc, .slice wa 0 wc], .int .i64 (cutE p phase keep)] ∧ CutO M M' ba wa bc wc (wKf p phase keep) := by
 unfold CutN at h
 unfold wKf cutE
 split at h
 ·rename_i h0; simp only [if_pos h0]
  split at h
  ·rename_i h1; simp only [if_pos h1]; exact ⟨none, none, 0, 0, h, cut_none⟩
  rename_i h1; simp only [if_neg h1]
  split at h
  ·rename_i h2; simp only [if_pos h2]
   obtain ⟨d, rfl, hb, rb, wv, rfl, h3, h4, h5⟩ := h
   obtain ⟨wa, wc, _, rfl, _⟩ := id h5
   exact ⟨_, wa, _, wc, rfl, h4, h5, .inr ⟨hb, rb, rfl, rfl, h3.r0, h3.r1⟩⟩
  rename_i h2; simp only [if_neg h2]; exact ⟨none, none, 0, 0, h, cut_none⟩
 rename_i h0; simp only [if_neg h0]; exact ⟨none, none, 0, 0, h, cut_none⟩
theorem cut_ref {p : Po} {phase : Int} {keep : List Bool} {u : Value} {M' : Mem} (h : CutP p phase keep u M') : ∃ ba wa bc wc, u = .tuple #[.agg #[.slice ba (wKf p phase keep).length bc, .slice wa 0 wc], .int .i64 (cutE p phase keep)] ∧ LS M' (.slice ba (wKf p phase keep).length bc) (wKf p phase keep) ∧ WS M' (.slice wa 0 wc) [] := by
 unfold CutP at h
 unfold wKf cutE
 split at h
 ·rename_i h0; simp only [if_pos h0]
  split at h
  ·rename_i h1; simp only [if_pos h1]; exact ⟨none, none, 0, 0, h, LS.nil, WS.nil⟩
  rename_i h1; simp only [if_neg h1]
  split at h
  ·rename_i h2; simp only [if_pos h2]
   obtain ⟨d, rfl, bv, wv, rfl, h3, h4⟩ := h
   obtain ⟨ba, bc, _, rfl, _⟩ := id h3
   obtain ⟨wa, wc, _, rfl, _⟩ := id h4
   exact ⟨ba, wa, bc, wc, rfl, h3, h4⟩
  rename_i h2; simp only [if_neg h2]; exact ⟨none, none, 0, 0, h, LS.nil, WS.nil⟩
 rename_i h0; simp only [if_neg h0]; exact ⟨none, none, 0, 0, h, LS.nil, WS.nil⟩
theorem ST.of {M : Mem} {b w n l : Value} {s : Sto} (h1 : LS M b s.blocks) (h2 : WS M w s.waits) (h3 : BS M n s.now) (h4 : BS M l s.last) : ST M (.agg #[b, w, n, l]) s := ⟨b, w, n, l, rfl, h1, h2, h3, h4⟩
theorem SpecL.dropL {P : Program} {f : FuncId} {args : Array Value} {M : Mem} {post : Value → Mem → Prop} (h : SpecL P f args M [] fun u M' _ => post u M') : SpecL P f args M [] fun u M' L' => post u M' ∧ L' = [] := fun w hw =>
 (h w hw).mono fun e w' ⟨v, M', L', h1, h2, h3⟩ => ⟨v, M', [], h1, ⟨h2, rfl⟩, h3.fewer (List.nil_sublist _)⟩
theorem rgreat14_or (p : Po) (u : Value) (M : Mem) (h : PT M u p) : SpecL Tryz.prog 4 #[u] M [] fun u _ L' => (u = .bool true ∧ L' = []) ∨ (u = .bool false ∧ L' = [] ∧ fewP p) := by
 obtain ⟨bv, wv, nv, lw, dv, rfl, h1, h2, h3, h4, da, dc, rfl, hdc, hds⟩ := h
 refine (SpecL.dropL (rgreat14_walk p bv wv nv lw da dc M (ST.of h1 h2 h3 h4) hds)).mono fun _ _ _ ⟨h, hL⟩ => ?_
 rcases h with h | ⟨h, hf⟩
 ·exact .inl ⟨h, hL⟩
 exact .inr ⟨h, hL, hf⟩
theorem rcommit_spec (p : Po) (v : Value) (M : Mem) (h : PT M v p) (hn : PoN p) (hf : fewP p) (hr : -9223372036854775808 ≤ p.root ∧ p.root ≤ 9223372036854775807) (hdb : ∀ d ∈ p.dead, -9223372036854775808 ≤ d ∧ d ≤ 9223372036854775807) : SpecL Tryz.prog 7 #[v] M [] fun u M' L' => ComR p u M M' ∧ L' = [] := by
 obtain ⟨pv, pw, pn, pl, dv, rfl, h1, h2, h3, h4, da, dc, rfl, hdc, hds⟩ := h
 exact rcommit_walk p hn pv pw pn pl da dc M h1 h2 h3 h4 hdc hds hf hr hdb
theorem rcut_spec (p : Po) (v : Value) (M : Mem) (h : PT M v p) (hn : PoN p) (hf : fewP p) (hr : -9223372036854775808 ≤ p.root ∧ p.root ≤ 9223372036854775807) (hdb : ∀ d ∈ p.dead, -9223372036854775808 ≤ d ∧ d ≤ 9223372036854775807) (phase : Int) (keep : List Bool) (ka : Option Addr) (kc : Nat) (hks : SM M ka (wDd keep)) (hkl : keep.length ≤ 1000000) : SpecL Tryz.prog 9 #[v, .int .i64 phase, .slice ka keep.length kc] M [] fun u M' L' => CutP p phase keep u M' ∧ L' = [] := by
 obtain ⟨pv, pw, pn, pl, dv, rfl, h1, h2, h3, h4, da, dc, rfl, hdc, hds⟩ := h
 exact rcut_walk p hn pv pw pn pl da dc M h1 h2 h3 h4 hdc hds hf hr hdb phase keep ka kc hks hkl
theorem wFu (p : Po) (u v : Value) (M : Mem) (h : PT M u p) (h2 : PT M v p) (hf : fewP p) : SpecL Tryz.prog 10 #[u, v] M [] fun u _ _ => u = .bool true := by
 obtain ⟨pv, pw, pn, pl, dv, rfl, h1, h2', h3, h4, da, dc, rfl, hdc, hds⟩ := h
 obtain ⟨qv, qw, qn, ql, ev, rfl, g1, g2, g3, g4, ea, ec, rfl, hec, hes⟩ := h2
 exact rsame14_walk p _ _ _ _ _ _ _ _ da ea dc ec M (ST.of h1 h2' h3 h4) hds (ST.of g1 g2 g3 g4) hes hf
theorem rtwin14_spec (p : Po) (u : Value) (M : Mem) (h : PT M u p) (hf : fewP p) : SpecL Tryz.prog 5 #[u] M [] fun u M' L' => PT M' u p ∧ L' = [] := by
 obtain ⟨pv, pw, pn, pl, dv, rfl, h1, h2', h3, h4, da, dc, rfl, hdc, hds⟩ := h
 exact rtwin14_walk p _ _ _ _ da dc M (ST.of h1 h2' h3 h4) hds hf
theorem CmN.pt {M Mb Mx My Mz Mt Mc M' : Mem} {hb rb : Nat} {wv nv lv dv : Value} {q : Po} (h : CmN M Mb Mx My Mz Mt Mc M' hb rb wv nv lv dv q) : PT M' (.agg (poc (.slice (some ⟨rb, 0, none⟩) q.st.blocks.length q.st.blocks.length) wv nv lv q.gen q.root q.next dv).toArray) q := ⟨_, _, _, _, _, rfl, h.b, h.w, h.n, h.l, h.d⟩
def Lr (M : Mem) (g off n j : Nat) (xs : List By) : Prop := ∃ l e, M g = some (.cells (List.toArray l) e (0, 0)) ∧ ∀ i, i < n → off + i < l.length ∧ (j ≤ i → l[off + i]? = some (.int .u8 ((xs.getD i 0).toNat : Int)))
theorem Lr.at {M : Mem} {g off n j : Nat} {xs : List By} (h : Lr M g off n j xs) (hj : j < n) : ∃ l e, M g = some (.cells (List.toArray l) e (0, 0)) ∧ l[off + ((j : Nat) : Int).toNat * 1]? = some (.int .u8 ((xs.getD j 0).toNat : Int)) ∧ ∀ i, i < n → off + i < l.length ∧ (j ≤ i → l[off + i]? = some (.int .u8 ((xs.getD i 0).toNat : Int))) := by
 obtain ⟨l, e, h1, h2⟩ := h
 exact ⟨l, e, h1, by rw [Int.toNat_natCast, Nat.mul_one]; exact (h2 j hj).2 (Nat.le_refl _), h2⟩
theorem Lr.put {M7 : Mem} {g off n j : Nat} {xs : List By} {l : List Value} {e : TypeId} {y : Int} (h : ∀ i, i < n → off + i < l.length ∧ (j ≤ i → l[off + i]? = some (.int .u8 ((xs.getD i 0).toNat : Int)))) (hq : off + ((j : Nat) : Int).toNat * 1 < l.length) (h7 : M7 g = some (.cells (put1 l (off + ((j : Nat) : Int).toNat * 1) (.int .u8 y)).toArray e (0, 0))) : Lr M7 g off n (j + 1) xs := by
 refine ⟨_, e, h7, fun i hi => ⟨by rw [put1_len hq]; exact (h i hi).1, fun hji => ?_⟩⟩
 rw [put1_get hq, if_neg (by rw [Int.toNat_natCast]; omega)]
 exact (h i hi).2 (by omega)
def Ap (hb : Nat) (M : Mem) (v : Value) (R : Lc) (n : Nat) (xs : List Value) : Prop := Own v R 26 1 n xs ∨ (R = [] ∧ xs.length = n * 1 ∧ ∃ ba : Addr, v = .slice (some ba) n n ∧ (xs = [] ∨ ba.spot = none) ∧ ba.block ≠ hb ∧ ∀ i u, xs[i]? = some u → CM M ba.block (ba.off + i) u)
theorem Ap.els {hb : Nat} {M M' : Mem} {v : Value} {R : Lc} {n : Nat} {xs : List Value} (h : Ap hb M v R n xs) (he : Els hb M M') : Ap hb M' v R n xs := by
 rcases h with h | ⟨h1, h2, ba, h3, h4, h5, h6⟩
 ·exact .inl h
 exact .inr ⟨h1, h2, ba, h3, h4, h5, fun i u hu => by obtain ⟨c, e, fz, g1, g2⟩ := h6 i u hu; exact ⟨c, e, fz, he _ _ h5 g1, g2⟩⟩
theorem Ap.old {hb : Nat} {M : Mem} {v : Value} {R : Lc} {n : Nat} {xs : List Value} (h : Ap hb M v R n xs) : Own v R 26 1 n xs ∨ (R = [] ∧ xs.length = n * 1 ∧ ∃ ba : Addr, v = .slice (some ba) n n ∧ (xs = [] ∨ ba.spot = none) ∧ ∀ i u, xs[i]? = some u → CM M ba.block (ba.off + i) u) := by
 rcases h with h | ⟨h1, h2, ba, h3, h4, _, h6⟩
 ·exact .inl h
 exact .inr ⟨h1, h2, ba, h3, h4, h6⟩
theorem els_del (g : Nat) (M : Mem) : Els g M (M.del g) := fun b o hne hb => by rw [Mem.del_other hne]; exact hb
theorem ap_start {M0 M' M : Mem} {ba wa : Option Addr} {bc wc : Nat} {bs : List (List By)} (h : CutO M0 M' ba wa bc wc bs) {hb : Nat} {o : Obj} (hh : M0 hb = some o) (hM : ∀ b o, M0 b = none → M' b = some o → M b = some o) : ∃ xs, Ap hb M (.slice ba bs.length bc) [] bs.length xs := by
 rcases h.n with ⟨rfl, rfl, rfl⟩ | ⟨h2, rb, rfl, rfl, h3, h4⟩
 ·exact ⟨[], .inl (Own.nil _ _)⟩
 refine ⟨blC h2 bs.length bs.length, .inr ⟨rfl, by rw [blC_len (Nat.le_refl _), Nat.mul_one], ⟨rb, 0, none⟩, rfl, .inr rfl, fun e => ?_, fun i u hu => ?_⟩⟩
 ·have e2 : rb = hb := e
  rw [e2, hh] at h3; cases h3
 exact ⟨_, _, _, hM _ _ h3 h4, by simpa using hu⟩
theorem row_get {M : Mem} {rb hb n : Nat} {e : TypeId} (h : M rb = some (.cells (blC hb n n).toArray e (0, 0))) {k : Nat} (hk : k < n) : CM M rb (0 + ((k : Nat) : Int).toNat * 1) (.slice (some ⟨hb, 128 * k, none⟩) 128 128) :=
 ⟨_, _, _, h, by rw [Int.toNat_natCast, Nat.mul_one, Nat.zero_add]; unfold blC; simp [hk, wJm]⟩
def po0 : Po := ⟨⟨[], [], [], []⟩, 0, 0, 0, []⟩
theorem pt_zero {M : Mem} : PT M (.agg poZ.toArray) po0 := ⟨_, _, _, _, _, rfl, LS.nil, WS.nil, BS.nil, BS.nil, none, 0, rfl, Nat.le_refl _, SM.nil⟩
theorem few_zero : fewP po0 := ⟨⟨⟨by simp [po0], by simp [po0], (fun b h => by cases h), (fun w h => by cases h)⟩, by simp [po0], by simp [po0]⟩, by simp [po0]⟩
end Go.Proofs.YtbhkdjheooknfaaGreat
