/- Walks: whether two replies are the same, any ones. -/
import Derived.Test.YtokljhkplbkggaaGreatDoorZSame
import Derived.Test.YtokljhkplbkggaaGreatDoorZQs
namespace Go.Proofs.YtokljhkplbkggaaGreatDoor
set_option linter.unusedVariables false
set_option linter.unusedSectionVars false
set_option linter.unusedSimpArgs false
open Go.RowKit Go.MapKept
inductive SameK : List Sc → List Sc → Prop
 | nil : SameK [] []
 | b {x y : Bool} {l m : List Sc} (h : SameK l m) : SameK (.b x :: l) (.b y :: m)
 | i {k : IntKind} {x y : Int} {l m : List Sc} (h : SameK l m) : SameK (.i k x :: l) (.i k y :: m)
def eqSc : Sc → Sc → Bool
 | .b x, .b y => x == y
 | .i _ x, .i _ y => x == y
 | _, _ => false
def eqScs : List Sc → List Sc → Bool
 | s :: l, t :: m => eqSc s t && eqScs l m
 | _, _ => true
theorem wFw {P : Program} (d : Nat) (xs ys : Array Value) (w : World) : ∀ (fs : List Field) (ss tt : List Sc) (i : Nat), SameK ss tt →
  fs.map (fun f => (f.name != "_", f.offset, P.underlying f.type)) = ((ss.map Sc.d).zipIdx i).map (fun (k, i) => (true, i, some k)) →
  (∀ j v, (ss.map Sc.v)[j]? = some v → xs[i + j]? = some v) → (∀ j v, (tt.map Sc.v)[j]? = some v → ys[i + j]? = some v) → (Op.eqFields (d + 1) xs ys fs).run P w = .ok (eqScs ss tt) w
 | [], _, _, i, .nil, hf, _, _ => by simp [Op.eqFields, eqScs]
 | [], _, _, i, .b _, hf, _, _ => by simp at hf
 | [], _, _, i, .i _, hf, _, _ => by simp at hf
 | f :: fs, _, _, i, .nil, hf, _, _ => by simp at hf
 | f :: fs, _, _, i, .b (x := x) (y := y) (l := l) (m := m) hk, hf, hx, hy => by
  simp only [List.map_cons, List.zipIdx_cons, List.cons.injEq, Prod.mk.injEq] at hf
  obtain ⟨⟨hn, ho, hu⟩, hrest⟩ := hf
  have x0 := hx 0 (.bool x) (by simp [Sc.v])
  have y0 := hy 0 (.bool y) (by simp [Sc.v])
  simp only [Nat.add_zero] at x0 y0
  have hp : (part f.type xs f.offset).run P w = .ok (.bool x) w := by simp [part, wEm hu, aggD, Sc.d, ho, x0]
  have hp2 : (part f.type ys f.offset).run P w = .ok (.bool y) w := by simp [part, wEm hu, aggD, Sc.d, ho, y0]
  have hne : f.name ≠ "_" := by simpa using hn
  have ih := wFw d xs ys w fs l m (i + 1) hk hrest (fun j v hv => by have := hx (j + 1) v (by simpa using hv); rwa [show i + (j + 1) = i + 1 + j by omega] at this) (fun j v hv => by have := hy (j + 1) v (by simpa using hv); rwa [show i + (j + 1) = i + 1 + j by omega] at this)
  have hq : (Op.equalIn (d + 1) f.type (.bool x) (.bool y)).run P w = .ok (x == y) w := run_equalIn_bool' w d f.type x y hu
  unfold Op.eqFields
  simp only [hne, ne_eq, not_false_eq_true, if_true, Sem.run_bind, hp, hp2, Result.andThen_ok, hq]
  cases hxy : (x == y)
  ·simp [eqScs, eqSc, hxy]
  simp only [Bool.not_true, Bool.false_eq_true, if_false, ih, eqScs, eqSc, hxy, Bool.true_and]
 | f :: fs, _, _, i, .i (k := k) (x := x) (y := y) (l := l) (m := m) hk, hf, hx, hy => by
  simp only [List.map_cons, List.zipIdx_cons, List.cons.injEq, Prod.mk.injEq] at hf
  obtain ⟨⟨hn, ho, hu⟩, hrest⟩ := hf
  have x0 := hx 0 (.int k x) (by simp [Sc.v])
  have y0 := hy 0 (.int k y) (by simp [Sc.v])
  simp only [Nat.add_zero] at x0 y0
  have hp : (part f.type xs f.offset).run P w = .ok (.int k x) w := by simp [part, wEm hu, aggD, Sc.d, ho, x0]
  have hp2 : (part f.type ys f.offset).run P w = .ok (.int k y) w := by simp [part, wEm hu, aggD, Sc.d, ho, y0]
  have hne : f.name ≠ "_" := by simpa using hn
  have ih := wFw d xs ys w fs l m (i + 1) hk hrest (fun j v hv => by have := hx (j + 1) v (by simpa using hv); rwa [show i + (j + 1) = i + 1 + j by omega] at this) (fun j v hv => by have := hy (j + 1) v (by simpa using hv); rwa [show i + (j + 1) = i + 1 + j by omega] at this)
  have hq : (Op.equalIn (d + 1) f.type (.int k x) (.int k y)).run P w = .ok (x == y) w := run_equalIn_int w d f.type k k x y hu
  unfold Op.eqFields
  simp only [hne, ne_eq, not_false_eq_true, if_true, Sem.run_bind, hp, hp2, Result.andThen_ok, hq]
  cases hxy : (x == y)
  ·simp [eqScs, eqSc, hxy]
  simp only [Bool.not_true, Bool.false_eq_true, if_false, ih, eqScs, eqSc, hxy, Bool.true_and]
section
variable {P : Program} {ops : Array Oper} {N : Fs} {F : Fr} {M : Mem} {L : Lc} {o : Oper}
theorem qEqG {x y : Operand} {t t' : TypeId} {ds : List TypeDesc} {xs ys : List Value} (ss tt : List Sc) (hg : gd ops F o = some true) (ho : o.op = .binOp .eql t x y t') (hx : ev F x = some (.agg xs.toArray)) (hy : ev F y = some (.agg ys.toArray)) [h : AllSc P t ds]
  (hk : SameK ss tt) (h1 : xs = ss.map Sc.v) (h2 : ys = tt.map Sc.v) (h3 : ss.map Sc.d = ds) : QF P ops N F M L o (.bool (eqScs ss tt)) := wDw hg fun ac ha w _ => by
 have hr := wFw (P := P) 9998 xs.toArray ys.toArray w _ ss tt 0 hk (by rw [h3]; exact h.f) (fun j v hv => by simpa [h1] using hv) (fun j v hv => by simpa [h2] using hv)
 have e1 : (binOp .eql t (.agg xs.toArray) (.agg ys.toArray)).run P w = .ok (.bool (eqScs ss tt)) w := by
  rw [run_eql_struct w t, run_equalIn_struct w 9999 t _ _ h.u h.s, hr]; rfl
 simp only [execOp, ho, ha.ev hx, ha.ev hy]
 simp only [Sem.run_bind, run_eqGuard_agg w _ t x y _ _ h.g, Result.andThen_ok, e1, Sem.run_pure]
theorem qNeG {x y : Operand} {t t' : TypeId} {ds : List TypeDesc} {xs ys : List Value} (ss tt : List Sc) (hg : gd ops F o = some true) (ho : o.op = .binOp .neq t x y t') (hx : ev F x = some (.agg xs.toArray)) (hy : ev F y = some (.agg ys.toArray)) [h : AllSc P t ds]
  (hk : SameK ss tt) (h1 : xs = ss.map Sc.v) (h2 : ys = tt.map Sc.v) (h3 : ss.map Sc.d = ds) : QF P ops N F M L o (.bool (!eqScs ss tt)) := wDw hg fun ac ha w _ => by
 have hr := wFw (P := P) 9998 xs.toArray ys.toArray w _ ss tt 0 hk (by rw [h3]; exact h.f) (fun j v hv => by simpa [h1] using hv) (fun j v hv => by simpa [h2] using hv)
 have e1 : (binOp .neq t (.agg xs.toArray) (.agg ys.toArray)).run P w = .ok (.bool (!eqScs ss tt)) w := by
  rw [run_neq_struct w t, run_equalIn_struct w 9999 t _ _ h.u h.s, hr]; rfl
 simp only [execOp, ho, ha.ev hx, ha.ev hy]
 simp only [Sem.run_bind, run_eqGuard_agg w _ t x y _ _ h.g, Result.andThen_ok, e1, Sem.run_pure]
end
abbrev stS (r : RP) : List Sc := [.i .u32 r.sid, .b r.sdir, .i .i64 r.slinks, .i .i64 r.ssize]
theorem stS_k (r q : RP) : SameK (stS r) (stS q) := .i (.b (.i (.i .nil)))
theorem stS_eq (r q : RP) : eqScs (stS r) (stS q) = true ↔ r.sid = q.sid ∧ r.sdir = q.sdir ∧ r.slinks = q.slinks ∧ r.ssize = q.ssize := by
 simp [eqScs, eqSc]
theorem rp_ext {r q : RP} : r = q ↔ r.err = q.err ∧ r.id = q.id ∧ r.data = q.data ∧ r.names = q.names ∧ r.sid = q.sid ∧ r.sdir = q.sdir ∧ r.slinks = q.slinks ∧ r.ssize = q.ssize := by
 cases r; cases q; simp
instance : DecidableEq RP := fun r q => decidable_of_iff' _ rp_ext
def NsQ (M : Mem) (v : Value) (l : List Str) : Prop := ∃ a c, v = .slice a l.length c ∧ l.length ≤ maxLen ∧ SM M a (l.map Value.string)
theorem NsP.q {M : Mem} {v : Value} {l : List Str} (h : NsP M v l) : NsQ M v l := by obtain ⟨a, c, h1, h2, h3, h4⟩ := h; exact ⟨a, c, h1, Nat.le_trans h2 h3, h4⟩
theorem NsQ.mono {M M' : Mem} {v : Value} {l : List Str} (h : NsQ M v l) (hM : MLe M M') : NsQ M' v l := by obtain ⟨a, c, h1, h2, h3⟩ := h; exact ⟨a, c, h1, h2, h3.mono hM⟩
theorem NsQ.nil {M : Mem} : NsQ M (.slice none 0 0) [] := ⟨none, 0, rfl, Nat.zero_le _, .inl rfl⟩
theorem take_end {α : Type} {xs ys : List α} {k : Nat} (h : xs.take k = ys.take k) (hl : xs.length = ys.length) (hk : k = xs.length) : xs = ys := by
 subst hk
 rw [List.take_length, hl, List.take_length] at h; exact h
theorem take_next {α : Type} {xs ys : List α} {k : Nat} (h : xs.take k = ys.take k) (h1 : k < xs.length) (h2 : k < ys.length) (e : xs[k] = ys[k]) : xs.take (k + 1) = ys.take (k + 1) := by
 rw [List.take_succ_eq_append_getElem h1, List.take_succ_eq_append_getElem h2, h, e]
theorem ne_at {α : Type} {xs ys : List α} {k : Nat} (h1 : k < xs.length) (h2 : k < ys.length) (e : xs[k] ≠ ys[k]) : xs ≠ ys := fun h => by subst h; exact e rfl
theorem beqg_spec (a1 a2 : Option Addr) (c1 c2 : Nat) (xs ys : List By) (M : Mem) (s1 : SM M a1 (wAn xs)) (s2 : SM M a2 (wAn ys)) (hn : xs.length ≤ 9223372036854775807) (hn2 : ys.length ≤ 9223372036854775807) :
  SpecL Tryz.prog 20 #[.slice a1 xs.length c1, .slice a2 ys.length c2] M [] fun u M' L' => (∃ b : Bool, u = .bool b ∧ (b = true ↔ xs = ys)) ∧ M' = M ∧ L' = [] := by
 refine wAe (vs := [_, _]) 26 _ Tryz.func20 rfl Tryz.ntmps20 rfl rfl ?_; intro W
 refine wAb (wAa (jp rfl (wAc (jT (wAb (wAb (wAa (jp rfl (lq (wCd rfl rfl rfl) ?_)))))))))
 refine jp rfl (lq (wCd rfl rfl rfl) ?_)
 refine js rfl (fun h10 => ?_) (fun h10 => ?_)
 ·refine wAc (jT (wAf rfl (wAb (wAa (jp rfl (wAc (jT (wAg (jTr (jr1 rfl rfl ?_))))))))))
  exact ⟨⟨false, rfl, by simp; intro h; subst h; omega⟩, rfl, rfl⟩
 refine wAc (jT (wAh rfl (wAd (jT (wAb (wAb (wAa (jp rfl (lq (wCd rfl rfl rfl) ?_)))))))))
 refine jp rfl (wAc (jT (wAk ?_)))
 refine wBr (α := Nat) (fun k => [(0, .slice a1 xs.length c1), (1, .slice a2 ys.length c2), (12, .int .i64 xs.length), (13, .int .i64 k)]) (fun _ => M) (fun _ => []) (fun k => k ≤ xs.length ∧ xs.take k = ys.take k) (fun k => xs.length - k)
  0 (.cons (t := 0) rfl (.cons (t := 1) rfl (.cons (t := 12) rfl (.cons (t := 13) rfl .nil)))) ⟨Nat.zero_le _, rfl⟩ (fun _ h => h) ?_
 rintro k ⟨hk, htk⟩
 try dsimp only at hk htk ⊢
 refine wAb (wAa (js rfl (fun h14 => ?_) (fun h14 => ?_)))
 ·refine wAc (jT (wAb (wAf rfl (wAd (jT (wAb (wAk (wAb (wAa (jp rfl (jp rfl (wAc (jT (wAb (wCw [(0, true), (1, true), (2, true), (3, true), (4, true), (5, true), (6, true), (7, true), (8, true)] [] (by simp) ?_)))))))))))))))
  iterate 2 refine dp rfl rfl ?_
  have hk1 : k < xs.length := by omega
  have hk2 : k < ys.length := by omega
  have hne1 : wAn xs ≠ [] := by intro e; have := congrArg List.length e; simp [wAn] at this; rw [this] at hk1; simp at hk1
  have hne2 : wAn ys ≠ [] := by intro e; have := congrArg List.length e; simp [wAn] at this; rw [this] at hk2; simp at hk2
  obtain ⟨b1, o1, e1, x1⟩ := s1.open hne1
  obtain ⟨b2, o2, e2, x2⟩ := s2.open hne2
  subst e1; subst e2
  have hc1 : CM M b1 (o1 + (k : Int).toNat * 1) (.int .u8 (xs[k].toNat : Int)) := by rw [Int.toNat_natCast, Nat.mul_one]; exact x1 k _ (by simp [wAn, hk1])
  have hc2 : CM M b2 (o2 + (k : Int).toNat * 1) (.int .u8 (ys[k].toNat : Int)) := by rw [Int.toNat_natCast, Nat.mul_one]; exact x2 k _ (by simp [wAn, hk2])
  refine dq rfl (wEn rfl rfl rfl rfl (by omega)) ?_
  refine dq rfl (qLd rfl rfl rfl rfl (hc1.cj _)) ?_
  iterate 2 refine dp rfl rfl ?_
  refine dq rfl (wEn rfl rfl rfl rfl (by omega)) ?_
  refine dq rfl (qLd rfl rfl rfl rfl (hc2.cj _)) ?_
  refine ds rfl rfl (fun h24 => ?_) (fun h24 => ?_)
  ·refine wAs (jPn (jT (wAf rfl (wAb (wAa (jp rfl (wAc (jT (wAg (jBr (jTr (jTr (jBr (jTr (jr1 rfl rfl ?_)))))))))))))))
   exact ⟨⟨false, rfl, by simp; exact ne_at hk1 hk2 (fun e => h24 (by rw [e]))⟩, rfl, rfl⟩
  refine wAs (jPn (jT (wAh rfl (wAd (jB (jT (wAa (ja rfl (by omega) ?_))))))))
  refine jp rfl (wAc ?_)
  refine wBu (k + 1) (.cons (t := 0) rfl (.cons (t := 1) rfl (.cons (t := 12) rfl (.cons (t := 13) rfl .nil)))) ⟨by omega, take_next htk hk1 hk2 (UInt8.toNat_inj.1 (by omega))⟩ (by omega) (fun _ h => h)
 refine wAc (jT (wAb (wAh rfl (wBx (jTx (jTx (jBx (jT (wAb (wAa (jp rfl (wAc (jT (wAg (jr1 rfl rfl ?_)))))))))))))))
 exact ⟨⟨true, rfl, by simp; exact take_end htk (by omega) (by omega)⟩, rfl, rfl⟩
theorem seqg_spec (a1 a2 : Option Addr) (c1 c2 : Nat) (xs ys : List Str) (M : Mem) (s1 : SM M a1 (xs.map Value.string)) (s2 : SM M a2 (ys.map Value.string)) (hn : xs.length ≤ 9223372036854775807) (hn2 : ys.length ≤ 9223372036854775807) :
  SpecL Tryz.prog 21 #[.slice a1 xs.length c1, .slice a2 ys.length c2] M [] fun u M' L' => (∃ b : Bool, u = .bool b ∧ (b = true ↔ xs = ys)) ∧ M' = M ∧ L' = [] := by
 refine wAe (vs := [_, _]) 26 _ Tryz.func21 rfl Tryz.ntmps21 rfl rfl ?_; intro W
 refine wAb (wAa (jp rfl (wAc (jT (wAb (wAb (wAa (jp rfl (lq (wCd rfl rfl rfl) ?_)))))))))
 refine jp rfl (lq (wCd rfl rfl rfl) ?_)
 refine js rfl (fun h10 => ?_) (fun h10 => ?_)
 ·refine wAc (jT (wAf rfl (wAb (wAa (jp rfl (wAc (jT (wAg (jTr (jr1 rfl rfl ?_))))))))))
  exact ⟨⟨false, rfl, by simp; intro h; subst h; omega⟩, rfl, rfl⟩
 refine wAc (jT (wAh rfl (wAd (jT (wAb (wAb (wAa (jp rfl (lq (wCd rfl rfl rfl) ?_)))))))))
 refine jp rfl (wAc (jT (wAk ?_)))
 refine wBr (α := Nat) (fun k => [(0, .slice a1 xs.length c1), (1, .slice a2 ys.length c2), (12, .int .i64 xs.length), (13, .int .i64 k)]) (fun _ => M) (fun _ => []) (fun k => k ≤ xs.length ∧ xs.take k = ys.take k) (fun k => xs.length - k)
  0 (.cons (t := 0) rfl (.cons (t := 1) rfl (.cons (t := 12) rfl (.cons (t := 13) rfl .nil)))) ⟨Nat.zero_le _, rfl⟩ (fun _ h => h) ?_
 rintro k ⟨hk, htk⟩
 try dsimp only at hk htk ⊢
 refine wAb (wAa (js rfl (fun h14 => ?_) (fun h14 => ?_)))
 ·refine wAc (jT (wAb (wAf rfl (wAd (jT (wAb (wAk (wAb (wAa (jp rfl (jp rfl (wAc (jT (wAb (wCw [(0, true), (1, true), (2, true), (3, true), (4, true), (5, true), (6, true), (7, true), (8, true)] [] (by simp) ?_)))))))))))))))
  iterate 2 refine dp rfl rfl ?_
  have hk1 : k < xs.length := by omega
  have hk2 : k < ys.length := by omega
  have hne1 : xs.map Value.string ≠ [] := by intro e; have := congrArg List.length e; simp [wAn] at this; rw [this] at hk1; simp at hk1
  have hne2 : ys.map Value.string ≠ [] := by intro e; have := congrArg List.length e; simp [wAn] at this; rw [this] at hk2; simp at hk2
  obtain ⟨b1, o1, e1, x1⟩ := s1.open hne1
  obtain ⟨b2, o2, e2, x2⟩ := s2.open hne2
  subst e1; subst e2
  have hc1 : CM M b1 (o1 + (k : Int).toNat * 1) (.string xs[k]) := by rw [Int.toNat_natCast, Nat.mul_one]; exact x1 k _ (by simp [wAn, hk1])
  have hc2 : CM M b2 (o2 + (k : Int).toNat * 1) (.string ys[k]) := by rw [Int.toNat_natCast, Nat.mul_one]; exact x2 k _ (by simp [wAn, hk2])
  refine dq rfl (wEn rfl rfl rfl rfl (by omega)) ?_
  refine dq rfl (qLd rfl rfl rfl rfl (hc1.cj _)) ?_
  iterate 2 refine dp rfl rfl ?_
  refine dq rfl (wEn rfl rfl rfl rfl (by omega)) ?_
  refine dq rfl (qLd rfl rfl rfl rfl (hc2.cj _)) ?_
  refine jd_qb rfl rfl rfl (wGq rfl rfl rfl rfl) (fun h24 => ?_) (fun h24 => ?_)
  ·refine wAs (jPn (jT (wAf rfl (wAb (wAa (jp rfl (wAc (jT (wAg (jBr (jTr (jTr (jBr (jTr (jr1 rfl rfl ?_)))))))))))))))
   exact ⟨⟨false, rfl, by simp; exact ne_at hk1 hk2 (fun e => of_decide_eq_true h24 e)⟩, rfl, rfl⟩
  refine wAs (jPn (jT (wAh rfl (wAd (jB (jT (wAa (ja rfl (by omega) ?_))))))))
  refine jp rfl (wAc ?_)
  refine wBu (k + 1) (.cons (t := 0) rfl (.cons (t := 1) rfl (.cons (t := 12) rfl (.cons (t := 13) rfl .nil)))) ⟨by omega, take_next htk hk1 hk2 (by have := of_decide_eq_false h24; simpa using this)⟩ (by omega) (fun _ h => h)
 refine wAc (jT (wAb (wAh rfl (wBx (jTx (jTx (jBx (jT (wAb (wAa (jp rfl (wAc (jT (wAg (jr1 rfl rfl ?_)))))))))))))))
 exact ⟨⟨true, rfl, by simp; exact take_end htk (by omega) (by omega)⟩, rfl, rfl⟩
theorem msameg_spec (r q : RP) (d1 n1 d2 n2 : Value) (M : Mem) (hd1 : BsP M d1 r.data) (hn1 : NsQ M n1 r.names) (hd2 : BsP M d2 q.data) (hn2 : NsQ M n2 q.names) :
  SpecL Tryz.prog 11 #[.agg (rpc r d1 n1).toArray, .agg (rpc q d2 n2).toArray] M [] fun u _ L' => (∃ b : Bool, u = .bool b ∧ (b = true ↔ r = q)) ∧ L' = [] := by
 obtain ⟨a1, c1, rfl, h11, h12, s1⟩ := hd1
 obtain ⟨a2, c2, rfl, h21, h22, s2⟩ := hd2
 obtain ⟨b1, k1, rfl, h31, t1⟩ := hn1
 obtain ⟨b2, k2, rfl, h41, t2⟩ := hn2
 have hml : maxLen = 9223372036854775807 := by unfold maxLen; rfl
 refine wAe (vs := [_, _]) 38 _ Tryz.func11 rfl Tryz.ntmps11 rfl rfl ?_; intro W
 refine wAb (wAa (sBx [_, _, _, _, _, _, _, _] rfl fun bx2 => ?_))
 refine sBx [_, _, _, _, _, _, _, _] rfl fun bx3 => ?_
 refine jp rfl (wAc (jT (wAb (wAa (sFL rfl rfl ?_)))))
 refine sFL rfl rfl ?_
 refine js rfl (fun h9 => ?_) (fun h9 => ?_)
 ·refine jp rfl (sFL rfl rfl ?_)
  refine sFL rfl rfl ?_
  refine js rfl (fun h15 => ?_) (fun h15 => ?_)
  ·refine jp rfl (jp rfl (sFL rfl rfl ?_))
   refine sFL rfl rfl ?_
   refine wCe rfl rfl (hCl (beqg_spec a1 a2 c1 c2 r.data q.data M s1 s2 (by omega) (by omega))) ?_; rintro _ _ _ ⟨_, _, rfl, ⟨⟨e1, rfl, he1⟩, rfl, rfl⟩⟩
   refine jp rfl (jsb rfl (fun h24 => ?_) (fun h24 => ?_))
   ·refine sFL rfl rfl ?_
    refine sFL rfl rfl ?_
    refine wCe rfl rfl (hCl (seqg_spec b1 b2 k1 k2 r.names q.names _ t1 t2 (by omega) (by omega))) ?_; rintro _ _ _ ⟨_, _, rfl, ⟨⟨e2, rfl, he2⟩, rfl, rfl⟩⟩
    refine jp rfl (jsb rfl (fun h31 => ?_) (fun h31 => ?_))
    ·refine sFa rfl ?_
     refine sLL rfl ?_
     refine sFa rfl ?_
     refine sLL rfl ?_
     refine lq (qEqG (stS r) (stS q) rfl rfl rfl rfl (stS_k r q) rfl rfl rfl) ?_
     refine jp rfl (jp rfl (wAc (jT (wAg (wCv (L' := []) (List.nil_sublist _) ?_)))))
     refine jr1 rfl rfl ?_
     exact ⟨⟨_, rfl, by rw [stS_eq, rp_ext]; exact ⟨fun h => ⟨h9, h15, he1.1 h24, he2.1 h31, h⟩, fun h => h.2.2.2.2⟩⟩, rfl⟩
    iterate 7 refine jp rfl ?_
    refine wAc (jT (wAg (wCv (L' := []) (List.nil_sublist _) ?_)))
    refine jr1 rfl rfl ?_
    exact ⟨⟨false, rfl, by simp only [Bool.false_eq_true, false_iff]; intro h; subst h; exact (by rw [he2.2 rfl] at h31; cases h31)⟩, rfl⟩
   iterate 14 refine jp rfl ?_
   refine wAc (jT (wAg (wCv (L' := []) (List.nil_sublist _) ?_)))
   refine jr1 rfl rfl ?_
   exact ⟨⟨false, rfl, by simp only [Bool.false_eq_true, false_iff]; intro h; subst h; exact (by rw [he1.2 rfl] at h24; cases h24)⟩, rfl⟩
  iterate 23 refine jp rfl ?_
  refine wAc (jT (wAg (wCv (L' := []) (List.nil_sublist _) ?_)))
  refine jr1 rfl rfl ?_
  exact ⟨⟨false, rfl, by simp only [Bool.false_eq_true, false_iff]; intro h; subst h; exact h15 rfl⟩, rfl⟩
 iterate 29 refine jp rfl ?_
 refine wAc (jT (wAg (wCv (L' := []) (List.nil_sublist _) ?_)))
 refine jr1 rfl rfl ?_
 exact ⟨⟨false, rfl, by simp only [Bool.false_eq_true, false_iff]; intro h; subst h; exact h9 rfl⟩, rfl⟩
theorem strNums_inj {xs ys : List By} : strOfNums (xs.map fun b => (b.toNat : Int)) = strOfNums (ys.map fun b => (b.toNat : Int)) ↔ xs = ys := by
 constructor
 ·intro h
  have e := congrArg (fun s : Str => s.data.toList) h
  simp only [strOfNums_data, List.map_map] at e
  have f : ∀ l : List By, l.map ((fun n : Int => UInt8.ofNat n.toNat) ∘ fun b => (b.toNat : Int)) = l := fun l => by
   conv => rhs; rw [← List.map_id l]
   refine List.map_congr_left fun b _ => ?_
   simp
  rw [f, f] at e; exact e
 intro h; rw [h]
theorem rsameg_spec (r q : RP) (d1 n1 d2 n2 : Value) (M : Mem) (hd1 : BsP M d1 r.data) (hn1 : NsQ M n1 r.names) (hd2 : BsP M d2 q.data) (hn2 : NsQ M n2 q.names) :
  SpecL Tryz.prog 10 #[.agg (rpc r d1 n1).toArray, .agg (rpc q d2 n2).toArray] M [] fun u _ L' => (∃ b : Bool, u = .bool b ∧ (b = true ↔ r = q)) ∧ L' = [] := by
 obtain ⟨a1, c1, rfl, h11, h12, s1⟩ := hd1
 obtain ⟨a2, c2, rfl, h21, h22, s2⟩ := hd2
 obtain ⟨b1, k1, rfl, h31, t1⟩ := hn1
 obtain ⟨b2, k2, rfl, h41, t2⟩ := hn2
 have hml : maxLen = 9223372036854775807 := by unfold maxLen; rfl
 refine wAe (vs := [_, _]) 61 _ Tryz.func10 rfl Tryz.ntmps10 rfl rfl ?_; intro W
 refine wAb (wAa (sBx [_, _, _, _, _, _, _, _] rfl fun bx2 => ?_))
 refine sBx [_, _, _, _, _, _, _, _] rfl fun bx3 => ?_
 refine jp rfl (wAc (jT (wAb (wAb (wAa (sFL rfl rfl ?_))))))
 refine sFL rfl rfl ?_
 refine js rfl (fun h10 => ?_) (fun h10 => ?_)
 ·iterate 32 refine jp rfl ?_
  refine wAc (jT (wAf rfl (wAb (wAa (jp rfl (wAc (jT (wAg (jTr (wCv (L' := []) (List.nil_sublist _) ?_))))))))))
  refine jr1 rfl rfl ?_
  exact ⟨⟨false, rfl, by simp only [Bool.false_eq_true, false_iff]; intro h; subst h; exact h10 rfl⟩, rfl⟩
 refine jp rfl (sFL rfl rfl ?_)
 refine sFL rfl rfl ?_
 refine js rfl (fun h16 => ?_) (fun h16 => ?_)
 ·iterate 26 refine jp rfl ?_
  refine wAc (jT (wAf rfl (wAb (wAa (jp rfl (wAc (jT (wAg (jTr (wCv (L' := []) (List.nil_sublist _) ?_))))))))))
  refine jr1 rfl rfl ?_
  exact ⟨⟨false, rfl, by simp only [Bool.false_eq_true, false_iff]; intro h; subst h; exact h16 rfl⟩, rfl⟩
 refine jp rfl (jp rfl (sFL rfl rfl ?_))
 refine lq (qStr (xs := r.data.map fun b => (b.toNat : Int)) rfl rfl rfl (by rw [List.length_map]) (by rw [List.map_map]; exact s1.sj _)) ?_
 refine sFL rfl rfl ?_
 refine lq (qStr (xs := q.data.map fun b => (b.toNat : Int)) rfl rfl rfl (by rw [List.length_map]) (by rw [List.map_map]; exact s2.sj _)) ?_
 refine wEk rfl rfl (wGq rfl rfl rfl rfl) (fun h25 => ?_) (fun h25 => ?_)
 ·iterate 17 refine jp rfl ?_
  refine wAc (jT (wAf rfl (wAb (wAa (jp rfl (wAc (jT (wAg (jTr (wCv (L' := []) (List.nil_sublist _) ?_))))))))))
  refine jr1 rfl rfl ?_
  exact ⟨⟨false, rfl, by simp only [Bool.false_eq_true, false_iff]; intro h; subst h; exact of_decide_eq_true h25 rfl⟩, rfl⟩
 refine jp rfl (jp rfl (sFa rfl ?_))
 refine sLL rfl ?_
 refine sFa rfl ?_
 refine sLL rfl ?_
 refine wEk rfl rfl (qNeG (stS r) (stS q) rfl rfl rfl rfl (stS_k r q) rfl rfl rfl) (fun h32 => ?_) (fun h32 => ?_)
 ·iterate 10 refine jp rfl ?_
  refine wAc (jT (wAf rfl (wAb (wAa (jp rfl (wAc (jT (wAg (jTr (wCv (L' := []) (List.nil_sublist _) ?_))))))))))
  refine jr1 rfl rfl ?_
  exact ⟨⟨false, rfl, by simp only [Bool.false_eq_true, false_iff]; intro h; subst h; exact (by have h33 := h32; rw [Bool.not_eq_true'] at h33; have := (stS_eq r r).2 ⟨rfl, rfl, rfl, rfl⟩; rw [this] at h33; cases h33)⟩, rfl⟩
 refine jp rfl (jp rfl (sFL rfl rfl ?_))
 refine lq (wCd rfl rfl rfl) ?_
 refine sFL rfl rfl ?_
 refine lq (wCd rfl rfl rfl) ?_
 refine js rfl (fun h41 => ?_) (fun h41 => ?_)
 ·refine jp rfl (wAc (jT (wAf rfl (wAb (wAa (jp rfl (wAc (jT (wAg (jTr (wCv (L' := []) (List.nil_sublist _) ?_)))))))))))
  refine jr1 rfl rfl ?_
  exact ⟨⟨false, rfl, by simp only [Bool.false_eq_true, false_iff]; intro h; subst h; exact h41 rfl⟩, rfl⟩
 refine jp rfl (wAc (jT (wAh rfl (wAd (jT (wAb (wAb (wAa (jp rfl (wAc (jT (wAk ?_))))))))))))
 refine wBr (α := Nat) (fun k => [(2, pt bx2), (3, pt bx3), (5, .int .i64 k)]) (fun _ => M) (fun _ => [(bx3, .cells (rpc q (.slice a2 q.data.length c2) (.slice b2 q.names.length k2)).toArray 30 (0, 0)), (bx2, .cells (rpc r (.slice a1 r.data.length c1) (.slice b1 r.names.length k1)).toArray 30 (0, 0))]) (fun k => k ≤ r.names.length ∧ r.names.take k = q.names.take k) (fun k => r.names.length - k)
  0 (.cons (t := 2) rfl (.cons (t := 3) rfl (.cons (t := 5) rfl .nil))) ⟨Nat.zero_le _, rfl⟩ (fun _ h => h) ?_
 rintro k ⟨hk, htk⟩
 try dsimp only at hk htk ⊢
 refine wAb (wAb (wAa (jp rfl (sFL rfl rfl ?_))))
 refine lq (wCd rfl rfl rfl) ?_
 refine js rfl (fun h47 => ?_) (fun h47 => ?_)
 ·refine wAc (jT (wAf rfl (wAd (jT (wAb (wAk (wAb (wCw [(0, true), (1, true), (2, true), (3, true), (4, true), (5, true), (6, true), (7, true), (8, true), (9, true), (10, true)] [(bx3, _), (bx2, _)] (fun _ h => h) ?_))))))))
  refine dFa rfl rfl ?_
  refine dLd rfl rfl ?_
  refine dp rfl rfl ?_
  have hkk : k < r.names.length := by omega
  have hkq : k < q.names.length := by omega
  have hne1 : r.names.map Value.string ≠ [] := by intro e; have := congrArg List.length e; simp at this; rw [this] at hkk; simp at hkk
  have hne2 : q.names.map Value.string ≠ [] := by intro e; have := congrArg List.length e; simp at this; rw [this] at hkq; simp at hkq
  obtain ⟨q1, o1, e1, x1⟩ := t1.open hne1
  obtain ⟨q2, o2, e2, x2⟩ := t2.open hne2
  subst e1; subst e2
  have hc1 : CM M q1 (o1 + (k : Int).toNat * 1) (.string r.names[k]) := by rw [Int.toNat_natCast, Nat.mul_one]; exact x1 k _ (by simp [hkk])
  have hc2 : CM M q2 (o2 + (k : Int).toNat * 1) (.string q.names[k]) := by rw [Int.toNat_natCast, Nat.mul_one]; exact x2 k _ (by simp [hkq])
  refine dq rfl (wEn rfl rfl rfl rfl (by omega)) ?_
  refine dq rfl (qLd rfl rfl rfl rfl (hc1.cj _)) ?_
  refine dFa rfl rfl ?_
  refine dLd rfl rfl ?_
  refine dp rfl rfl ?_
  refine dq rfl (wEn rfl rfl rfl rfl (by omega)) ?_
  refine dq rfl (qLd rfl rfl rfl rfl (hc2.cj _)) ?_
  refine jd_qb rfl rfl rfl (wGq rfl rfl rfl rfl) (fun h60 => ?_) (fun h60 => ?_)
  ·refine wAs (jPn (jT (wAf rfl (wAb (wAa (jp rfl (wAc (jT (wAg (jBr (jTr (jTr (jBr (jTr (wCv (L' := []) (List.nil_sublist _) ?_)))))))))))))))
   refine jr1 rfl rfl ?_
   exact ⟨⟨false, rfl, by simp only [Bool.false_eq_true, false_iff]; intro h; subst h; exact of_decide_eq_true h60 rfl⟩, rfl⟩
  refine wAs (jPn (jT (wAh rfl (wAd (jB (jT (wAa (jp rfl (ja rfl (by omega) ?_)))))))))
  refine jp rfl (wAc ?_)
  refine wBu (k + 1) (.cons (t := 2) rfl (.cons (t := 3) rfl (.cons (t := 5) rfl .nil))) ⟨by omega, take_next htk hkk hkq (by have := of_decide_eq_false h60; simpa using this)⟩ (by omega) (fun _ h => h)
 refine wAc (jT (wAh rfl (wBx (jTx (jTx (jBx (jT (wAb (wAa (jp rfl (wAc (jT (wAg (wCv (L' := []) (List.nil_sublist _) ?_))))))))))))))
 refine jr1 rfl rfl ?_
 have hst := (stS_eq r q).1 (by have h33 := h32; rw [Bool.not_eq_false'] at h33; exact h33)
 have hdt : r.data = q.data := strNums_inj.1 (by have := of_decide_eq_false h25; simpa using this)
 exact ⟨⟨true, rfl, by simp only [true_iff]; rw [rp_ext]; exact ⟨by omega, by omega, hdt, take_end htk (by omega) (by omega), hst⟩⟩, rfl⟩
theorem msame_q (r q : RP) (d1 n1 d2 n2 : Value) (M : Mem) (hd1 : BsP M d1 r.data) (hn1 : NsQ M n1 r.names) (hd2 : BsP M d2 q.data) (hn2 : NsQ M n2 q.names) : SpecL Tryz.prog 11 #[.agg (rpc r d1 n1).toArray, .agg (rpc q d2 n2).toArray] M [] (fun u _ _ => u = .bool (decide (r = q))) :=
 (msameg_spec r q d1 n1 d2 n2 M hd1 hn1 hd2 hn2).mono fun u _ _ ⟨⟨b, e, h⟩, _⟩ => by
  rw [e]; congr 1
  by_cases hr : r = q
  ·rw [decide_eq_true hr, h.2 hr]
  rw [decide_eq_false hr]; cases b with
  | false => rfl
  | true => exact absurd (h.1 rfl) hr
theorem rsame_q (r q : RP) (d1 n1 d2 n2 : Value) (M : Mem) (hd1 : BsP M d1 r.data) (hn1 : NsQ M n1 r.names) (hd2 : BsP M d2 q.data) (hn2 : NsQ M n2 q.names) : SpecL Tryz.prog 10 #[.agg (rpc r d1 n1).toArray, .agg (rpc q d2 n2).toArray] M [] (fun u _ _ => u = .bool (decide (r = q))) :=
 (rsameg_spec r q d1 n1 d2 n2 M hd1 hn1 hd2 hn2).mono fun u _ _ ⟨⟨b, e, h⟩, _⟩ => by
  rw [e]; congr 1
  by_cases hr : r = q
  ·rw [decide_eq_true hr, h.2 hr]
  rw [decide_eq_false hr]; cases b with
  | false => rfl
  | true => exact absurd (h.1 rfl) hr
end Go.Proofs.YtokljhkplbkggaaGreatDoor
