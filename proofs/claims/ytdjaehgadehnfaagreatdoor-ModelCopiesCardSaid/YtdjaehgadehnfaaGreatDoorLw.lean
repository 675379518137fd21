/- What the laws ask: lists of any calls, sums of sizes, replies that are the same. No statement of the seat is proved here. -/
import Derived.Test.YtdjaehgadehnfaaGreatDoorPlay
import Derived.Test.YtdjaehgadehnfaaGreatDoorWg
namespace Go.Proofs.YtdjaehgadehnfaaGreatDoor
set_option linter.unusedVariables false
set_option linter.unusedSimpArgs false
open Go.RowKit Go.MapKept

section
variable {P : Program} {ops : Array Oper} {N : Fs} {F : Fr} {E : Ent} {M : Mem} {L : Lc} {o : Oper}
/-- a literal's bytes, marked -/
theorem hMark {x : Operand} {s e : TypeId} {b n c : Nat} {l : List Value} {L2 : Lc} (hg : gd ops F o = some true) (ho : o.op = .convert s s x) (hx : ev F x = some (.slice (some ⟨b, 0, none⟩) n c)) [hs : Und P s (.slice e)] [he : Und P e (.int .u8)] [hp : Rm b (.cells l.toArray e (0, 0)) L L2] :
    HF P ops N F E M L o (fun v M' L' => v = .slice (some ⟨b, 0, none⟩) n c ∧ M = M' ∧ L' = (b, .cells l.toArray e (l.length, l.length + 1)) :: L2) := hf_of hg fun a w ha hw => by
  obtain ⟨hb, hst⟩ := hw.setRm (b := b) (mo' := .cells l.toArray e (l.length, l.length + 1))
  have hlt := heap_lt hb
  have hsh : w.shape? b = some (e, l.length) := by simp [World.shape?, hb]
  have hw2 : w.freeze ⟨b, l.length, none⟩ 1 = { w with heap := w.heap.setIfInBounds b (.cells l.toArray e (l.length, l.length + 1)) } := by
    have h2 : (w.heap.modify b fun | .cells c elem (lo, hi) => .cells c elem (if lo == hi then (l.length, l.length + 1) else (min lo l.length, max hi (l.length + 1))) | o => o) = w.heap.setIfInBounds b (.cells l.toArray e (l.length, l.length + 1)) := by
      apply Array.ext_getElem?
      intro i
      rw [Array.getElem?_modify, Array.getElem?_setIfInBounds]
      by_cases e1 : b = i
      · subst e1; rw [if_pos rfl, if_pos rfl, hb, if_pos hlt]; rfl
      · rw [if_neg e1, if_neg e1]
    simp only [World.freeze, Nat.one_ne_zero, if_false]
    exact congrArg (fun h => { w with heap := h }) h2
  refine ⟨_, _, M, _, .inl ?_, hst, rfl, rfl, rfl⟩
  rw [← hw2]
  simp [execOp, ho, ha.ev hx, convert, run_underlying hs.h, run_underlying he.h, markStringish, hsh]
end

/-! ### structs of scalars that are the same -/
inductive Sc | b (x : Bool) | i (k : IntKind) (n : Int)
def Sc.v : Sc → Value | .b x => .bool x | .i k n => .int k n
def Sc.d : Sc → TypeDesc | .b _ => .bool | .i k _ => .int k
class AllSc (P : Program) (t : TypeId) (ds : outParam (List TypeDesc)) : Prop where
  u : P.underlying t = some (.struct (P.fieldsOf t))
  f : (P.fieldsOf t).toList.map (fun f => (f.name != "_", f.offset, P.underlying f.type)) = ds.zipIdx.map fun (d, i) => (true, i, some d)
  s : P.stoodInHeld t = false
  g : P.eqGuardType P.depth t = false
theorem run_eqFields_sc {P : Program} (d : Nat) (xs : Array Value) (w : World) : ∀ (fs : List Field) (ss : List Sc) (i : Nat),
    fs.map (fun f => (f.name != "_", f.offset, P.underlying f.type)) = ((ss.map Sc.d).zipIdx i).map (fun (k, i) => (true, i, some k)) →
    (∀ j v, (ss.map Sc.v)[j]? = some v → xs[i + j]? = some v) → (Op.eqFields (d + 1) xs xs fs).run P w = .ok true w
  | [], ss, i, hf, _ => by simp [Op.eqFields]
  | f :: fs, [], i, hf, _ => by simp at hf
  | f :: fs, s :: ss, i, hf, hx => by
    simp only [List.map_cons, List.zipIdx_cons, List.cons.injEq, Prod.mk.injEq] at hf
    obtain ⟨⟨hn, ho, hu⟩, hrest⟩ := hf
    have x0 := hx 0 s.v (by simp)
    simp only [Nat.add_zero] at x0
    have hp : (part f.type xs f.offset).run P w = .ok s.v w := by
      cases s <;> simp [part, run_isAgg hu, aggD, Sc.d, ho, x0]
    have hne : f.name ≠ "_" := by simpa using hn
    have ih := run_eqFields_sc d xs w fs ss (i + 1) hrest (fun j v hv => by have := hx (j + 1) v (by simpa using hv); rwa [show i + (j + 1) = i + 1 + j by omega] at this)
    have hq : (Op.equalIn (d + 1) f.type s.v s.v).run P w = .ok true w := by
      cases s with
      | b x => have := run_equalIn_bool' w d f.type x x hu; simpa [Sc.v] using this
      | i k n => have := run_equalIn_int w d f.type k k n n hu; simpa [Sc.v] using this
    unfold Op.eqFields
    simp only [hne, ne_eq, not_false_eq_true, if_true, Sem.run_bind, hp, Result.andThen_ok, hq, Bool.not_true, Bool.false_eq_true, if_false, ih]
section
variable {P : Program} {ops : Array Oper} {N : Fs} {F : Fr} {M : Mem} {L : Lc} {o : Oper}
theorem qEqSc {x y : Operand} {t t' : TypeId} {ds : List TypeDesc} {xs : List Value} (ss : List Sc) (hg : gd ops F o = some true) (ho : o.op = .binOp .eql t x y t') (hx : ev F x = some (.agg xs.toArray)) (hy : ev F y = some (.agg xs.toArray)) [h : AllSc P t ds]
    (h1 : xs = ss.map Sc.v) (h3 : ss.map Sc.d = ds) : QF P ops N F M L o (.bool true) := qf_of hg fun ac ha w _ => by
  have hr := run_eqFields_sc (P := P) 9998 xs.toArray w _ ss 0 (by rw [h3]; exact h.f) (fun j v hv => by simpa [h1] using hv)
  have e1 : (binOp .eql t (.agg xs.toArray) (.agg xs.toArray)).run P w = .ok (.bool true) w := by
    rw [run_eql_struct w t, run_equalIn_struct w 9999 t _ _ h.u h.s, hr]; rfl
  simp only [execOp, ho, ha.ev hx, ha.ev hy]
  simp only [Sem.run_bind, run_eqGuard_agg w _ t x y _ _ h.g, Result.andThen_ok, e1, Sem.run_pure]
theorem qNeSc {x y : Operand} {t t' : TypeId} {ds : List TypeDesc} {xs : List Value} (ss : List Sc) (hg : gd ops F o = some true) (ho : o.op = .binOp .neq t x y t') (hx : ev F x = some (.agg xs.toArray)) (hy : ev F y = some (.agg xs.toArray)) [h : AllSc P t ds]
    (h1 : xs = ss.map Sc.v) (h3 : ss.map Sc.d = ds) : QF P ops N F M L o (.bool false) := qf_of hg fun ac ha w _ => by
  have hr := run_eqFields_sc (P := P) 9998 xs.toArray w _ ss 0 (by rw [h3]; exact h.f) (fun j v hv => by simpa [h1] using hv)
  have e1 : (binOp .neq t (.agg xs.toArray) (.agg xs.toArray)).run P w = .ok (.bool false) w := by
    rw [run_neq_struct w t, run_equalIn_struct w 9999 t _ _ h.u h.s, hr]; simp
  simp only [execOp, ho, ha.ev hx, ha.ev hy]
  simp only [Sem.run_bind, run_eqGuard_agg w _ t x y _ _ h.g, Result.andThen_ok, e1, Sem.run_pure]
end
instance : AllSc Tryz.prog 34 [.int .u32, .bool, .int .i64, .int .i64] := ⟨by kernel_rfl, by kernel_rfl, by kernel_rfl, by kernel_rfl⟩

/-! ### any calls -/
/-- a list of calls, whatever they are -/
structure RawC (M : Mem) (q : QC) : Prop where
  sm : SM M q.2.1 (bcells q.1.data)
  cap : q.1.data.length ≤ q.2.2
  lim : q.2.2 ≤ maxLen
  pz : q.1.path.size ≤ maxLen ∧ q.1.other.size ≤ maxLen
  kd : 0 ≤ q.1.kind ∧ q.1.kind ≤ 255
  ka : InI64 q.1.a
  kb : InI64 q.1.b
  kc : InI64 q.1.c
def CsR (M : Mem) (a : Option Addr) (qs : List QC) : Prop := SM M a (qs.flatMap cF) ∧ ∀ q ∈ qs, RawC M q
theorem CsR.mono {M M' : Mem} {a : Option Addr} {qs : List QC} (h : CsR M a qs) (hM : MLe M M') : CsR M' a qs := ⟨h.1.mono hM, fun q hq => ⟨(h.2 q hq).sm.mono hM, (h.2 q hq).cap, (h.2 q hq).lim, (h.2 q hq).pz, (h.2 q hq).kd, (h.2 q hq).ka, (h.2 q hq).kb, (h.2 q hq).kc⟩⟩
def gsz (c : CL) : Int := min (c.data.length : Int) 100000 + min (c.path.size : Int) 100000 + min (c.other.size : Int) 100000
def gsum (l : List QC) : Int := (l.map fun q => gsz q.1).sum
theorem gsum_snoc (l : List QC) (q : QC) : gsum (l ++ [q]) = gsum l + gsz q.1 := by unfold gsum; simp
theorem gsz_in (c : CL) : 0 ≤ gsz c ∧ gsz c ≤ 300000 := by unfold gsz; omega
theorem gsum_in : ∀ (l : List QC), 0 ≤ gsum l ∧ gsum l ≤ 300000 * l.length
  | [] => by simp [gsum]
  | q :: l => by
    have h1 := gsum_in l
    have h2 := gsz_in q.1
    have e : gsum (q :: l) = gsz q.1 + gsum l := by simp [gsum]
    rw [e, List.length_cons]; omega
theorem gsum_mem : ∀ {l : List QC} {q : QC}, q ∈ l → gsz q.1 ≤ gsum l
  | p :: l, q, h => by
    have e : gsum (p :: l) = gsz p.1 + gsum l := by simp [gsum]
    have h1 := gsum_in l
    have h2 := gsz_in p.1
    rcases List.mem_cons.1 h with rfl | h
    · omega
    · have := gsum_mem h; omega
/-- what is not great -/
def GrOk (l : List QC) : Prop := l.length ≤ 1000 ∧ gsum (l.take 100) ≤ 30000
theorem GrOk.all {l : List QC} (h : GrOk l) (hl : l.length ≤ 100) : ∀ q ∈ l, q.1.data.length ≤ 30000 ∧ q.1.path.size ≤ 30000 ∧ q.1.other.size ≤ 30000 := fun q hq => by
  have h1 := h.2
  rw [List.take_of_length_le hl] at h1
  have h2 := gsum_mem hq
  unfold gsz at h2
  omega
theorem CsR.ok {M : Mem} {a : Option Addr} {qs : List QC} (h : CsR M a qs) (hs : ∀ q ∈ qs, q.1.data.length ≤ 30000 ∧ q.1.path.size ≤ 30000 ∧ q.1.other.size ≤ 30000) : CsP M a qs :=
  ⟨h.1, fun q hq => ⟨⟨(h.2 q hq).sm, (h.2 q hq).cap, by have := (hs q hq).1; omega, (h.2 q hq).ka, (h.2 q hq).kb, (h.2 q hq).kc⟩, by have := (hs q hq).2.1; omega, by have := (hs q hq).2.2; omega⟩⟩
/-! parts of lists -/
theorem flat_drop {α : Type} {f : α → List Value} {m : Nat} (hf : ∀ x, (f x).length = m) : ∀ (qs : List α) (k : Nat), (qs.drop k).flatMap f = (qs.flatMap f).drop (k * m)
  | qs, 0 => by simp
  | [], k + 1 => by simp
  | q :: qs, k + 1 => by
    rw [List.drop_succ_cons, flat_drop hf qs k, List.flatMap_cons, List.drop_append, hf, List.drop_eq_nil_of_le («as» := f q) (by rw [hf, Nat.add_mul]; omega), List.nil_append, show (k + 1) * m - m = k * m by rw [Nat.add_mul]; omega]
theorem flat_take {α : Type} {f : α → List Value} {m : Nat} (hf : ∀ x, (f x).length = m) : ∀ (qs : List α) (k : Nat), (qs.take k).flatMap f = (qs.flatMap f).take (k * m)
  | qs, 0 => by simp
  | [], k + 1 => by simp
  | q :: qs, k + 1 => by
    rw [List.take_succ_cons, List.flatMap_cons, flat_take hf qs k, List.flatMap_cons, List.take_append, hf, List.take_of_length_le (l := f q) (by rw [hf, Nat.add_mul]; omega), show (k + 1) * m - m = k * m by rw [Nat.add_mul]; omega]
theorem SM.take {M : Mem} {a : Option Addr} {cs : List Value} (h : SM M a cs) (k : Nat) : SM M a (cs.take k) := by
  rcases h with h | ⟨b, off, h1, h2⟩
  · exact .inl (by rw [h]; simp)
  · exact .inr ⟨b, off, h1, fun i u hu => h2 i u (by rw [List.getElem?_take] at hu; split at hu; exact hu; cases hu)⟩
theorem RsP.take {M : Mem} {a : Option Addr} {ps : List QR} (h : RsP M a ps) (k : Nat) : RsP M a (ps.take k) := ⟨by rw [flat_take rF_len]; exact SM.take h.1 _, fun p hp => h.2 p (List.mem_of_mem_take hp)⟩
theorem RsP.drop {M : Mem} {a : Option Addr} {ps : List QR} (h : RsP M a ps) {k c : Nat} (hk : k ≤ ps.length) (hc : ps.length ≤ c) : RsP M (slA a k c 8) (ps.drop k) := by
  refine ⟨?_, fun p hp => h.2 p (List.mem_of_mem_drop hp)⟩
  by_cases e : k = ps.length
  · subst e; rw [List.drop_length]; exact .inl rfl
  · rw [flat_drop rF_len]
    have := h.1.part (l := k) (m := c) (s := 8) (by omega) (ps.length * 8)
    rw [List.take_of_length_le (by rw [List.length_drop, flatm_len rF 8 rF_len]; omega)] at this
    exact this
end Go.Proofs.YtdjaehgadehnfaaGreatDoor
