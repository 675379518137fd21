/- Walks: replies that are the same; lists that are great. -/
import Derived.Test.YtokljhkplbkggaaGreatDoorZPlay
import Derived.Test.YtokljhkplbkggaaGreatDoorZWg
namespace Go.Proofs.YtokljhkplbkggaaGreatDoor
set_option linter.unusedSimpArgs false
set_option linter.unusedVariables false
set_option linter.unusedSectionVars false
open Go.RowKit Go.MapKept
section
variable {P : Program} {ops : Array Oper} {N : Fs} {F : Fr} {E : Ent} {M : Mem} {L : Lc} {o : Oper}
end
inductive Sc | b (x : Bool) | i (k : IntKind) (n : Int)
def Sc.v : Sc → Value | .b x => .bool x | .i k n => .int k n
def Sc.d : Sc → TypeDesc | .b _ => .bool | .i k _ => .int k
class AllSc (P : Program) (t : TypeId) (ds : outParam (List TypeDesc)) : Prop where
 u : P.underlying t = some (.struct (P.fieldsOf t))
 f : (P.fieldsOf t).toList.map (fun f => (f.name != "_", f.offset, P.underlying f.type)) = ds.zipIdx.map fun (d, i) => (true, i, some d)
 s : P.stoodInHeld t = false
 g : P.eqGuardType P.depth t = false
theorem wJm {P : Program} (d : Nat) (xs : Array Value) (w : World) : ∀ (fs : List Field) (ss : List Sc) (i : Nat),
  fs.map (fun f => (f.name != "_", f.offset, P.underlying f.type)) = ((ss.map Sc.d).zipIdx i).map (fun (k, i) => (true, i, some k)) →
  (∀ j v, (ss.map Sc.v)[j]? = some v → xs[i + j]? = some v) → (Op.eqFields (d + 1) xs xs fs).run P w = .ok true w
 | [], ss, i, hf, _ => by simp [Op.eqFields]
 | f :: fs, [], i, hf, _ => by simp at hf
 | f :: fs, s :: ss, i, hf, hx => by
  simp only [List.map_cons, List.zipIdx_cons, List.cons.injEq, Prod.mk.injEq] at hf
  obtain ⟨⟨hn, ho, hu⟩, hrest⟩ := hf
  have x0 := hx 0 s.v (by simp)
  simp only [Nat.add_zero] at x0
  have hp : (part f.type xs f.offset).run P w = .ok s.v w := by
   cases s <;> simp [part, wEm hu, aggD, Sc.d, ho, x0]
  have hne : f.name ≠ "_" := by simpa using hn
  have ih := wJm d xs w fs ss (i + 1) hrest (fun j v hv => by have := hx (j + 1) v (by simpa using hv); rwa [show i + (j + 1) = i + 1 + j by omega] at this)
  have hq : (Op.equalIn (d + 1) f.type s.v s.v).run P w = .ok true w := by
   cases s with
   | b x => have := run_equalIn_bool' w d f.type x x hu; simpa [Sc.v] using this
   | i k n => have := run_equalIn_int w d f.type k k n n hu; simpa [Sc.v] using this
  unfold Op.eqFields
  simp only [hne, ne_eq, not_false_eq_true, if_true, Sem.run_bind, hp, Result.andThen_ok, hq, Bool.not_true, Bool.false_eq_true, if_false, ih]
section
variable {P : Program} {ops : Array Oper} {N : Fs} {F : Fr} {M : Mem} {L : Lc} {o : Oper}
theorem qNeSc {x y : Operand} {t t' : TypeId} {ds : List TypeDesc} {xs : List Value} (ss : List Sc) (hg : gd ops F o = some true) (ho : o.op = .binOp .neq t x y t') (hx : ev F x = some (.agg xs.toArray)) (hy : ev F y = some (.agg xs.toArray)) [h : AllSc P t ds]
  (h1 : xs = ss.map Sc.v) (h3 : ss.map Sc.d = ds) : QF P ops N F M L o (.bool false) := wDw hg fun ac ha w _ => by
 have hr := wJm (P := P) 9998 xs.toArray w _ ss 0 (by rw [h3]; exact h.f) (fun j v hv => by simpa [h1] using hv)
 have e1 : (binOp .neq t (.agg xs.toArray) (.agg xs.toArray)).run P w = .ok (.bool false) w := by
  rw [run_neq_struct w t, run_equalIn_struct w 9999 t _ _ h.u h.s, hr]; simp
 simp only [execOp, ho, ha.ev hx, ha.ev hy]
 simp only [Sem.run_bind, run_eqGuard_agg w _ t x y _ _ h.g, Result.andThen_ok, e1, Sem.run_pure]
end
instance : AllSc Tryz.prog 28 [.int .u32, .bool, .int .i64, .int .i64] := ⟨by kernel_rfl, by kernel_rfl, by kernel_rfl, by kernel_rfl⟩
structure RawC (M : Mem) (q : QC) : Prop where
 sm : SM M q.2.1 (wAn q.1.data)
 cap : q.1.data.length ≤ q.2.2
 lim : q.2.2 ≤ maxLen
 pz : q.1.path.size ≤ maxLen ∧ q.1.other.size ≤ maxLen
 kd : 0 ≤ q.1.kind ∧ q.1.kind ≤ 255
 ka : wJw q.1.a
 kb : wJw q.1.b
 kc : wJw q.1.c
def CsR (M : Mem) (a : Option Addr) (qs : List QC) : Prop := SM M a (qs.flatMap cF) ∧ ∀ q ∈ qs, RawC M q
theorem CsR.mono {M M' : Mem} {a : Option Addr} {qs : List QC} (h : CsR M a qs) (hM : MLe M M') : CsR M' a qs := ⟨h.1.mono hM, fun q hq => ⟨(h.2 q hq).sm.mono hM, (h.2 q hq).cap, (h.2 q hq).lim, (h.2 q hq).pz, (h.2 q hq).kd, (h.2 q hq).ka, (h.2 q hq).kb, (h.2 q hq).kc⟩⟩
def gsz (c : CL) : Int := min (c.data.length : Int) 100000 + min (c.path.size : Int) 100000 + min (c.other.size : Int) 100000
def gsum (l : List QC) : Int := (l.map fun q => gsz q.1).sum
theorem gsum_snoc (l : List QC) (q : QC) : gsum (l ++ [q]) = gsum l + gsz q.1 := by unfold gsum; simp
theorem gsz_in (c : CL) : 0 ≤ gsz c ∧ gsz c ≤ 300000 := by unfold gsz; omega
theorem gsum_in : ∀ (l : List QC), 0 ≤ gsum l ∧ gsum l ≤ 300000 * l.length
 | [] => by simp [gsum]
 | q :: l => by
  have h1 := gsum_in l
  have h2 := gsz_in q.1
  have e : gsum (q :: l) = gsz q.1 + gsum l := by simp [gsum]
  rw [e, List.length_cons]; omega
theorem gsum_mem : ∀ {l : List QC} {q : QC}, q ∈ l → gsz q.1 ≤ gsum l
 | p :: l, q, h => by
  have e : gsum (p :: l) = gsz p.1 + gsum l := by simp [gsum]
  have h1 := gsum_in l
  have h2 := gsz_in p.1
  rcases List.mem_cons.1 h with rfl | h
  ·omega
  have := gsum_mem h; omega
def GrOk (l : List QC) : Prop := l.length ≤ 1000 ∧ gsum (l.take 100) ≤ 30000
theorem GrOk.all {l : List QC} (h : GrOk l) (hl : l.length ≤ 100) : ∀ q ∈ l, q.1.data.length ≤ 30000 ∧ q.1.path.size ≤ 30000 ∧ q.1.other.size ≤ 30000 := fun q hq => by
 have h1 := h.2
 rw [List.take_of_length_le hl] at h1
 have h2 := gsum_mem hq
 unfold gsz at h2
 omega
theorem CsR.ok {M : Mem} {a : Option Addr} {qs : List QC} (h : CsR M a qs) (hs : ∀ q ∈ qs, q.1.data.length ≤ 30000 ∧ q.1.path.size ≤ 30000 ∧ q.1.other.size ≤ 30000) : CsP M a qs :=
 ⟨h.1, fun q hq => ⟨⟨(h.2 q hq).sm, (h.2 q hq).cap, by have := (hs q hq).1; omega, (h.2 q hq).ka, (h.2 q hq).kb, (h.2 q hq).kc⟩, by have := (hs q hq).2.1; omega, by have := (hs q hq).2.2; omega⟩⟩
theorem flat_drop {α : Type} {f : α → List Value} {m : Nat} (hf : ∀ x, (f x).length = m) : ∀ (qs : List α) (k : Nat), (qs.drop k).flatMap f = (qs.flatMap f).drop (k * m)
 | qs, 0 => by simp
 | [], k + 1 => by simp
 | q :: qs, k + 1 => by
  rw [List.drop_succ_cons, flat_drop hf qs k, List.flatMap_cons, List.drop_append, hf, List.drop_eq_nil_of_le («as» := f q) (by rw [hf, Nat.add_mul]; omega), List.nil_append, show (k + 1) * m - m = k * m by rw [Nat.add_mul]; omega]
theorem flat_take {α : Type} {f : α → List Value} {m : Nat} (hf : ∀ x, (f x).length = m) : ∀ (qs : List α) (k : Nat), (qs.take k).flatMap f = (qs.flatMap f).take (k * m)
 | qs, 0 => by simp
 | [], k + 1 => by simp
 | q :: qs, k + 1 => by
  rw [List.take_succ_cons, List.flatMap_cons, flat_take hf qs k, List.flatMap_cons, List.take_append, hf, List.take_of_length_le (l := f q) (by rw [hf, Nat.add_mul]; omega), show (k + 1) * m - m = k * m by rw [Nat.add_mul]; omega]
theorem SM.take {M : Mem} {a : Option Addr} {cs : List Value} (h : SM M a cs) (k : Nat) : SM M a (cs.take k) := by
 rcases h with h | ⟨b, off, h1, h2⟩
 ·exact .inl (by rw [h]; simp)
 exact .inr ⟨b, off, h1, fun i u hu => h2 i u (by rw [List.getElem?_take] at hu; split at hu; exact hu; cases hu)⟩
theorem RsP.take {M : Mem} {a : Option Addr} {ps : List QR} (h : RsP M a ps) (k : Nat) : RsP M a (ps.take k) := ⟨by rw [flat_take rF_len]; exact SM.take h.1 _, fun p hp => h.2 p (List.mem_of_mem_take hp)⟩
theorem RsP.drop {M : Mem} {a : Option Addr} {ps : List QR} (h : RsP M a ps) {k c : Nat} (hk : k ≤ ps.length) (hc : ps.length ≤ c) : RsP M (slA a k c 8) (ps.drop k) := by
 refine ⟨?_, fun p hp => h.2 p (List.mem_of_mem_drop hp)⟩
 by_cases e : k = ps.length
 ·subst e; rw [List.drop_length]; exact .inl rfl
 rw [flat_drop rF_len]
 have := h.1.part (l := k) (m := c) (s := 8) (by omega) (ps.length * 8)
 rw [List.take_of_length_le (by rw [List.length_drop, wDr rF 8 rF_len]; omega)] at this
 exact this
theorem great_spec (qs : List QC) (la : Option Addr) (lc : Nat) (n : Int) (M : Mem) (hL : CsR M la qs) (hc : qs.length ≤ lc) (hc2 : lc ≤ maxLen) :
  SpecL Tryz.prog 4 #[.slice la qs.length lc, .int .i64 n] M [] fun u _ L' => (∃ b : Bool, u = .bool b ∧ (b = false → GrOk qs)) ∧ L' = [] := by
 have hml0 : maxLen = 9223372036854775807 := by unfold maxLen; rfl
 refine wAe (vs := [_, _]) 60 _ Tryz.func4 rfl Tryz.ntmps4 rfl rfl ?_; intro W
 refine wAb (wAa (jp rfl (wAc (jT (wAb (wAa (jp rfl (wAc (jT (wAb (wAb (wAa (jp rfl (wAc (jT (wAk ?_))))))))))))))))
 refine wBr (α := Nat) (fun i => [(0, .slice la qs.length lc), (1, .int .i64 n), (5, .int .i64 (gsum (qs.take i))), (6, .int .i64 i)]) (fun _ => M) (fun _ => []) (fun i => i ≤ qs.length ∧ i ≤ 100) (fun i => 100 - i)
  0 (.cons (t := 0) rfl (.cons (t := 1) rfl (.cons (t := 5) rfl (.cons (t := 6) rfl .nil)))) ⟨Nat.zero_le _, Nat.zero_le _⟩ (fun _ h => h) ?_
 rintro i ⟨hi1, hi2⟩
 try dsimp only at hi1 hi2 ⊢
 refine wAb (wAb (wAa (jp rfl (jp rfl (lq (wCd rfl rfl rfl) ?_)))))
 refine js rfl (fun h10 => ?_) (fun h10 => ?_)
 ·refine jp rfl (jp rfl (js rfl (fun h13 => ?_) (fun h13 => ?_)))
  ·refine jp rfl (wAc (jT (wAf rfl (wAd (jT (wAb (wAk (wCw [(0, true), (1, true), (2, true), (3, true), (4, true), (5, true), (6, true), (7, true), (8, true), (9, true), (10, true), (11, true), (12, true), (13, true), (14, true), (15, true), (16, true), (17, true), (18, true), (19, true), (20, true), (21, true), (22, true), (23, true), (24, true), (25, true)] [] (by simp) ?_))))))))
   iterate 3 refine dp rfl rfl ?_
   have hk1 : i < qs.length := by omega
   obtain ⟨qb, qo, e0, hx⟩ := wJd cF_len hL.1 hk1 (by omega)
   subst e0
   have hq := hL.2 qs[i] (List.getElem_mem hk1)
   have hq1 := hq.pz
   have hq2 := hq.cap
   have hq3 := hq.lim
   have hml : maxLen = 9223372036854775807 := by unfold maxLen; rfl
   have hgs := gsum_in (qs.take i)
   rw [List.length_take] at hgs
   have hcd : ∀ j v, (cF qs[i])[j]? = some v → CM M qb (qo + (i : Int).toNat * 7 + j) v := fun j v hv => by rw [Int.toNat_natCast]; exact hx j v hv
   refine dq rfl (wEn rfl rfl rfl rfl (by omega)) ?_
   refine dFa rfl rfl ?_
   refine dq rfl (qLd rfl rfl rfl rfl ((hcd 6 _ rfl).cj _)) ?_
   refine dq rfl (wCd rfl rfl rfl) ?_
   refine dq rfl (qMin rfl rfl rfl rfl) ?_
   iterate 2 refine dp rfl rfl ?_
   refine dq rfl (wEn rfl rfl rfl rfl (by omega)) ?_
   refine dFa rfl rfl ?_
   refine dq rfl (qLd rfl rfl rfl rfl ((hcd 1 _ rfl).cj _)) ?_
   refine dq rfl (wEg rfl rfl rfl) ?_
   refine dq rfl (qMin rfl rfl rfl rfl) ?_
   refine da rfl rfl (by omega) ?_
   iterate 2 refine dp rfl rfl ?_
   refine dq rfl (wEn rfl rfl rfl rfl (by omega)) ?_
   refine dFa rfl rfl ?_
   refine dq rfl (qLd rfl rfl rfl rfl ((hcd 2 _ rfl).cj _)) ?_
   refine dq rfl (wEg rfl rfl rfl) ?_
   refine dq rfl (qMin rfl rfl rfl rfl) ?_
   refine da rfl rfl (by omega) ?_
   refine da rfl rfl (by omega) ?_
   refine dp rfl rfl ?_
   refine wAs (jPn (jB (jT (wAa (jp rfl (ja rfl (by omega) ?_))))))
   refine jp rfl (wAc ?_)
   have hst : gsum (qs.take (i + 1)) = gsum (qs.take i) + gsz qs[i].1 := by rw [List.take_succ_eq_append_getElem hk1, gsum_snoc]
   refine wBu (i + 1) (.cons (t := 0) rfl (.cons (t := 1) rfl (Keep.ceq (t := 5) rfl (by rw [hst]; rfl) (.cons (t := 6) rfl .nil)))) ⟨by omega, by omega⟩ (by omega) (fun _ h => h)
  refine jp rfl (wAc (jT (wAh rfl (wBx (jTx (jTx (jBx (jT (wAb (wAa (jp rfl (lq (wCd rfl rfl rfl) ?_))))))))))))
  refine jp rfl (js rfl (fun h45 => ?_) (fun h45 => ?_))
  ·refine jp rfl (jp rfl (lq (wCd rfl rfl rfl) ?_))
   refine js rfl (fun h49 => ?_) (fun h49 => ?_)
   ·iterate 11 refine jp rfl ?_
    refine wAc (jT (wAg (jr1 rfl rfl ?_)))
    exact ⟨⟨_, rfl, fun h => by cases h⟩, rfl⟩
   refine jp rfl (jp rfl (jp rfl (lq (wCd rfl rfl rfl) ?_)))
   refine js rfl (fun h54 => ?_) (fun h54 => ?_)
   ·refine jp rfl (jp rfl (jp rfl (jp rfl (jp rfl (jp rfl (wAc (jT (wAg (jr1 rfl rfl ?_)))))))))
    exact ⟨⟨_, rfl, fun h => by cases h⟩, rfl⟩
   refine jp rfl (jp rfl (jp rfl (jp rfl (jp rfl (jp rfl (wAc (jT (wAg (jr1 rfl rfl ?_)))))))))
   refine ⟨⟨_, rfl, fun h => ?_⟩, rfl⟩
   have h58 := of_decide_eq_false h
   refine ⟨by omega, ?_⟩
   have e : qs.take 100 = qs.take i := by
    by_cases e2 : i = 100
    ·rw [e2]
    rw [List.take_of_length_le (by omega), List.take_of_length_le (by omega)]
   rw [e]; omega
  iterate 7 refine jp rfl ?_
  refine lq (wCd rfl rfl rfl) ?_
  refine js rfl (fun h54 => ?_) (fun h54 => ?_)
  ·refine jp rfl (jp rfl (jp rfl (jp rfl (jp rfl (jp rfl (wAc (jT (wAg (jr1 rfl rfl ?_)))))))))
   exact ⟨⟨_, rfl, fun h => by cases h⟩, rfl⟩
  refine jp rfl (jp rfl (jp rfl (jp rfl (jp rfl (jp rfl (wAc (jT (wAg (jr1 rfl rfl ?_)))))))))
  refine ⟨⟨_, rfl, fun h => ?_⟩, rfl⟩
  have h58 := of_decide_eq_false h
  refine ⟨by omega, ?_⟩
  have e : qs.take 100 = qs.take i := by
   by_cases e2 : i = 100
   ·rw [e2]
   rw [List.take_of_length_le (by omega), List.take_of_length_le (by omega)]
  rw [e]; omega
 refine jp rfl (jp rfl (jp rfl (jp rfl (wAc (jT (wAh rfl (wBx (jTx (jTx (jBx (jT (wAb (wAa (jp rfl (lq (wCd rfl rfl rfl) ?_)))))))))))))))
 refine jp rfl (js rfl (fun h45 => ?_) (fun h45 => ?_))
 ·refine jp rfl (jp rfl (lq (wCd rfl rfl rfl) ?_))
  refine js rfl (fun h49 => ?_) (fun h49 => ?_)
  ·iterate 11 refine jp rfl ?_
   refine wAc (jT (wAg (jr1 rfl rfl ?_)))
   exact ⟨⟨_, rfl, fun h => by cases h⟩, rfl⟩
  refine jp rfl (jp rfl (jp rfl (lq (wCd rfl rfl rfl) ?_)))
  refine js rfl (fun h54 => ?_) (fun h54 => ?_)
  ·refine jp rfl (jp rfl (jp rfl (jp rfl (jp rfl (jp rfl (wAc (jT (wAg (jr1 rfl rfl ?_)))))))))
   exact ⟨⟨_, rfl, fun h => by cases h⟩, rfl⟩
  refine jp rfl (jp rfl (jp rfl (jp rfl (jp rfl (jp rfl (wAc (jT (wAg (jr1 rfl rfl ?_)))))))))
  refine ⟨⟨_, rfl, fun h => ?_⟩, rfl⟩
  have h58 := of_decide_eq_false h
  refine ⟨by omega, ?_⟩
  have e : qs.take 100 = qs.take i := by
   by_cases e2 : i = 100
   ·rw [e2]
   rw [List.take_of_length_le (by omega), List.take_of_length_le (by omega)]
  rw [e]; omega
 iterate 7 refine jp rfl ?_
 refine lq (wCd rfl rfl rfl) ?_
 refine js rfl (fun h54 => ?_) (fun h54 => ?_)
 ·refine jp rfl (jp rfl (jp rfl (jp rfl (jp rfl (jp rfl (wAc (jT (wAg (jr1 rfl rfl ?_)))))))))
  exact ⟨⟨_, rfl, fun h => by cases h⟩, rfl⟩
 refine jp rfl (jp rfl (jp rfl (jp rfl (jp rfl (jp rfl (wAc (jT (wAg (jr1 rfl rfl ?_)))))))))
 refine ⟨⟨_, rfl, fun h => ?_⟩, rfl⟩
 have h58 := of_decide_eq_false h
 refine ⟨by omega, ?_⟩
 have e : qs.take 100 = qs.take i := by
  by_cases e2 : i = 100
  ·rw [e2]
  rw [List.take_of_length_le (by omega), List.take_of_length_le (by omega)]
 rw [e]; omega
theorem rsame_spec (r : RP) (d1 n1 d2 n2 : Value) (M : Mem) (hd1 : BsP M d1 r.data) (hn1 : NsP M n1 r.names) (hd2 : BsP M d2 r.data) (hn2 : NsP M n2 r.names) :
  SpecL Tryz.prog 10 #[.agg (rpc r d1 n1).toArray, .agg (rpc r d2 n2).toArray] M [] fun u _ L' => u = .bool true ∧ L' = [] := by
 obtain ⟨a1, c1, rfl, h11, h12, s1⟩ := hd1
 obtain ⟨a2, c2, rfl, h21, h22, s2⟩ := hd2
 obtain ⟨b1, k1, rfl, h31, h32, t1⟩ := hn1
 obtain ⟨b2, k2, rfl, h41, h42, t2⟩ := hn2
 have hml : maxLen = 9223372036854775807 := by unfold maxLen; rfl
 refine wAe (vs := [_, _]) 61 _ Tryz.func10 rfl Tryz.ntmps10 rfl rfl ?_; intro W
 refine wAb (wAa (sBx [_, _, _, _, _, _, _, _] rfl fun bx2 => ?_))
 refine sBx [_, _, _, _, _, _, _, _] rfl fun bx3 => ?_
 refine jp rfl (wAc (jT (wAb (wAb (wAa (sFL rfl rfl ?_))))))
 refine sFL rfl rfl ?_
 refine jf rfl (decide_eq_false (by omega)) ?_
 refine jp rfl (sFL rfl rfl ?_)
 refine sFL rfl rfl ?_
 refine jf rfl (decide_eq_false (by omega)) ?_
 refine jp rfl (jp rfl (sFL rfl rfl ?_))
 refine lq (qStr (xs := r.data.map fun b => (b.toNat : Int)) rfl rfl rfl (by rw [List.length_map]) (by rw [List.map_map]; exact s1.sj _)) ?_
 refine sFL rfl rfl ?_
 refine lq (qStr (xs := r.data.map fun b => (b.toNat : Int)) rfl rfl rfl (by rw [List.length_map]) (by rw [List.map_map]; exact s2.sj _)) ?_
 refine lq (qEq (wGq rfl rfl rfl rfl) (v' := .bool false) (by simp)) ?_
 refine jp rfl (jp rfl (sFa rfl ?_))
 refine sLL rfl ?_
 refine sFa rfl ?_
 refine sLL rfl ?_
 refine lq (qEq (qNeSc [.i .u32 r.sid, .b r.sdir, .i .i64 r.slinks, .i .i64 r.ssize] rfl rfl rfl rfl rfl rfl) (v' := .bool false) (by rfl)) ?_
 refine jp rfl (jp rfl (sFL rfl rfl ?_))
 refine lq (wCd rfl rfl rfl) ?_
 refine sFL rfl rfl ?_
 refine lq (wCd rfl rfl rfl) ?_
 refine jf rfl (decide_eq_false (by omega)) ?_
 refine jp rfl (wAc (jT (wAh rfl (wAd (jT (wAb (wAb (wAa (jp rfl (wAc (jT (wAk ?_))))))))))))
 refine wBr (α := Nat) (fun k => [(2, pt bx2), (3, pt bx3), (5, .int .i64 k)]) (fun _ => M) (fun _ => [(bx3, .cells (rpc r (.slice a2 r.data.length c2) (.slice b2 r.names.length k2)).toArray 30 (0, 0)), (bx2, .cells (rpc r (.slice a1 r.data.length c1) (.slice b1 r.names.length k1)).toArray 30 (0, 0))]) (fun k => k ≤ r.names.length) (fun k => r.names.length - k)
  0 (.cons (t := 2) rfl (.cons (t := 3) rfl (.cons (t := 5) rfl .nil))) (Nat.zero_le _) (fun _ h => h) ?_
 intro k hk
 try dsimp only at hk ⊢
 refine wAb (wAb (wAa (jp rfl (sFL rfl rfl ?_))))
 refine lq (wCd rfl rfl rfl) ?_
 refine js rfl (fun h47 => ?_) (fun h47 => ?_)
 ·refine wAc (jT (wAf rfl (wAd (jT (wAb (wAk (wAb (wCw [(0, true), (1, true), (2, true), (3, true), (4, true), (5, true), (6, true), (7, true), (8, true), (9, true), (10, true)] [(bx3, _), (bx2, _)] (fun _ h => h) ?_))))))))
  refine dFa rfl rfl ?_
  refine dLd rfl rfl ?_
  refine dp rfl rfl ?_
  have hk1 : k < r.names.length := by omega
  have hne : r.names.map Value.string ≠ [] := by intro e; have := congrArg List.length e; simp at this; rw [this] at hk1; simp at hk1
  obtain ⟨q1, o1, e1, x1⟩ := t1.open hne
  obtain ⟨q2, o2, e2, x2⟩ := t2.open hne
  subst e1; subst e2
  have hc1 : CM M q1 (o1 + (k : Int).toNat * 1) (.string r.names[k]) := by rw [Int.toNat_natCast, Nat.mul_one]; exact x1 k _ (by simp [hk1])
  have hc2 : CM M q2 (o2 + (k : Int).toNat * 1) (.string r.names[k]) := by rw [Int.toNat_natCast, Nat.mul_one]; exact x2 k _ (by simp [hk1])
  refine dq rfl (wEn rfl rfl rfl rfl (by omega)) ?_
  refine dq rfl (qLd rfl rfl rfl rfl (hc1.cj _)) ?_
  refine dFa rfl rfl ?_
  refine dLd rfl rfl ?_
  refine dp rfl rfl ?_
  refine dq rfl (wEn rfl rfl rfl rfl (by omega)) ?_
  refine dq rfl (qLd rfl rfl rfl rfl (hc2.cj _)) ?_
  refine dq rfl (qEq (wGq rfl rfl rfl rfl) (v' := .bool false) (by simp)) ?_
  refine wAs (jPn (jT (wAh rfl (wAd (jB (jT (wAa (jp rfl (ja rfl (by omega) ?_)))))))))
  refine jp rfl (wAc ?_)
  refine wBu (k + 1) (.cons (t := 2) rfl (.cons (t := 3) rfl (.cons (t := 5) rfl .nil))) (by omega) (by omega) (fun _ h => h)
 refine wAc (jT (wAh rfl (wBx (jTx (jTx (jBx (jT (wAb (wAa (jp rfl (wAc (jT (wAg (wCv (L' := []) (List.nil_sublist _) ?_))))))))))))))
 refine jr1 rfl rfl ?_
 exact ⟨rfl, rfl⟩
theorem sameall_spec (ps1 ps2 : List QR) (a1 a2 : Option Addr) (c1 c2 : Nat) (M : Mem) (hl : ps1.map (·.1) = ps2.map (·.1)) (h1 : RsP M a1 ps1) (h2 : RsP M a2 ps2) (hn : ps1.length ≤ 1000000) :
  SpecL Tryz.prog 7 #[.slice a1 ps1.length c1, .slice a2 ps1.length c2] M [] fun u _ L' => u = .bool true ∧ L' = [] := by
 have hlen : ps1.length = ps2.length := by have := congrArg List.length hl; simpa using this
 refine wAe (vs := [_, _]) 27 _ Tryz.func7 rfl Tryz.ntmps7 rfl rfl ?_; intro W
 refine wAb (wAa (jp rfl (wAc (jT (wAb (wAb (wAa (jp rfl (lq (wCd rfl rfl rfl) ?_)))))))))
 refine jp rfl (lq (wCd rfl rfl rfl) ?_)
 refine jf rfl (decide_eq_false (by omega)) ?_
 refine wAc (jT (wAh rfl (wAd (jT (wAb (wAb (wAa (jp rfl (wAc (jT (wAk ?_)))))))))))
 refine wBr (α := Nat × Mem) (fun y => [(0, .slice a1 ps1.length c1), (1, .slice a2 ps1.length c2), (5, .int .i64 y.1)]) (fun y => y.2) (fun _ => []) (fun y => y.1 ≤ ps1.length ∧ MLe M y.2) (fun y => ps1.length - y.1)
  (0, M) (.cons (t := 0) rfl (.cons (t := 1) rfl (.cons (t := 5) rfl .nil))) ⟨Nat.zero_le _, MLe.refl _⟩ (fun _ h => h) ?_
 rintro ⟨k, Mk⟩ ⟨hk, hMk⟩
 try dsimp only at hk hMk ⊢
 refine wAb (wAb (wAa (jp rfl (jp rfl (lq (wCd rfl rfl rfl) ?_)))))
 refine js rfl (fun h14 => ?_) (fun h14 => ?_)
 ·refine wAc (jT (wAf rfl (wAd (jT (wAb (wAk (wAb (wCw [(0, true), (1, true), (2, true), (3, true), (4, true), (5, true), (6, true), (7, true), (8, false), (9, true)] [] (by simp) ?_))))))))
  iterate 2 refine dp rfl rfl ?_
  have hk1 : k < ps1.length := by omega
  have hk2 : k < ps2.length := by omega
  have hkk : ps1[k].1 = ps2[k].1 := by have := congrArg (fun l => l[k]?) hl; simp [hk1, hk2] at this; exact this
  obtain ⟨q1, o1, e1, x1⟩ := wJd rF_len (h1.1.mono hMk) hk1 (by omega)
  obtain ⟨q2, o2, e2, x2⟩ := wJd rF_len (h2.1.mono hMk) hk2 (by omega)
  subst e1; subst e2
  have g1 := h1.2 ps1[k] (List.getElem_mem hk1)
  have g2 := h2.2 ps2[k] (List.getElem_mem hk2)
  have x2 : ∀ j v, (rpc ps1[k].1 ps2[k].2.1 ps2[k].2.2)[j]? = some v → CM Mk q2 (o2 + k * 8 + j) v := by rw [hkk]; exact x2
  rw [← hkk] at g2
  refine dq rfl (wEn rfl rfl rfl rfl (by omega)) ?_
  refine dq rfl (wFt (cs := rpc ps1[k].1 ps1[k].2.1 ps1[k].2.2) rfl rfl rfl rfl rfl (fun j v hv => by rw [Int.toNat_natCast]; exact (x1 j v hv).cj _)) ?_
  iterate 2 refine dp rfl rfl ?_
  refine dq rfl (wEn rfl rfl rfl rfl (by omega)) ?_
  refine dq rfl (wFt (cs := rpc ps1[k].1 ps2[k].2.1 ps2[k].2.2) rfl rfl rfl rfl rfl (fun j v hv => by rw [Int.toNat_natCast]; exact (x2 j v hv).cj _)) ?_
  refine wJf rfl rfl rfl (hCl (rsame_spec ps1[k].1 _ _ _ _ Mk (g1.1.mono hMk) (g1.2.mono hMk) (g2.1.mono hMk) (g2.2.mono hMk))) ?_; rintro _ M2 _ ⟨hM2, _, rfl, ⟨rfl, rfl⟩⟩
  refine ⟨_, _, MLe.refl _, hM2, fun _ h => h, by simp, ?_⟩
  refine dp rfl rfl ?_
  refine wAs (jPn (jT (wAh rfl (wAd (jB (jT (wAa (jp rfl (ja rfl (by omega) ?_)))))))))
  refine jp rfl (wAc ?_)
  refine wBu (k + 1, M2) (.cons (t := 0) rfl (.cons (t := 1) rfl (.cons (t := 5) rfl .nil))) ⟨by show k + 1 ≤ _; omega, hMk.trans hM2⟩ (by show ps1.length - (k + 1) < ps1.length - k; omega) (fun _ h => h)
 refine wAc (jT (wAh rfl (wBx (jTx (jTx (jBx (jT (wAb (wAa (jp rfl (wAc (jT (wAg (jr1 rfl rfl ?_))))))))))))))
 exact ⟨rfl, rfl⟩
end Go.Proofs.YtokljhkplbkggaaGreatDoor
