/- THE WALKING LAYER, second part: memory that is never written again and blocks of one's own; regions, code, calls. No statement of the seat is proved here. -/
import Derived.Test.YtdjaehgadehnfaaGreatDoorHa
namespace Go.Proofs.YtdjaehgadehnfaaGreatDoor
set_option linter.unusedVariables false
set_option linter.unusedSimpArgs false
open Go.RowKit

abbrev Mem := Nat → Option Obj
abbrev Lc := List (Nat × Obj)

/-- what a call is entered with -/
structure Ent where
  W : World
  X : List Nat
  M0 : Mem

/-- 'M' is there, unwritten; 'L' are blocks of one's own. -/
structure St (E : Ent) (M : Mem) (L : Lc) (w : World) : Prop where
  os : w.os = E.W.os
  tape : w.tape = E.W.tape
  output : w.output = E.W.output
  size : E.W.heap.size ≤ w.heap.size
  same : ∀ k, k < E.W.heap.size → k ∉ E.X → w.heap[k]? = E.W.heap[k]?
  fresh : ∀ k, k < E.W.heap.size → M k = E.M0 k
  agree : ∀ b o, M b = some o → w.heap[b]? = some o
  locs : ∀ p ∈ L, w.heap[p.1]? = some p.2 ∧ (E.W.heap.size ≤ p.1 ∨ p.1 ∈ E.X) ∧ M p.1 = none
  nodup : (L.map (·.1)).Nodup

/-- what quiet operations see -/
structure Js (M : Mem) (L : Lc) (w : World) : Prop where
  agree : ∀ b o, M b = some o → w.heap[b]? = some o
  locs : ∀ p ∈ L, w.heap[p.1]? = some p.2

theorem heap_lt {w : World} {b : Nat} {o : Obj} (h : w.heap[b]? = some o) : b < w.heap.size := (Array.getElem?_eq_some_iff.1 h).1

theorem Js.closed (M : Mem) (L : Lc) : Closed (Js M L) := fun _ _ h hb =>
  ⟨fun b o h' => by rw [hb.block b (heap_lt (h.agree b o h'))]; exact h.agree b o h', fun p hp => by rw [hb.block p.1 (heap_lt (h.locs p hp))]; exact h.locs p hp⟩

theorem St.closed (E : Ent) (M : Mem) (L : Lc) : Closed (St E M L) := fun w w' h hb =>
  { os := hb.os.trans h.os, tape := hb.tape.trans h.tape, output := hb.output.trans h.output, size := Nat.le_trans h.size hb.size
    same := fun k hk hx => (hb.block k (Nat.lt_of_lt_of_le hk h.size)).trans (h.same k hk hx)
    fresh := h.fresh
    agree := fun b o h' => by rw [hb.block b (heap_lt (h.agree b o h'))]; exact h.agree b o h'
    locs := fun p hp => ⟨by rw [hb.block p.1 (heap_lt (h.locs p hp).1)]; exact (h.locs p hp).1, (h.locs p hp).2⟩
    nodup := h.nodup }

theorem St.js {E : Ent} {M : Mem} {L : Lc} {w : World} (h : St E M L w) : Js M L w := ⟨h.agree, fun p hp => (h.locs p hp).1⟩
def MLe (M M' : Mem) : Prop := ∀ b o, M b = some o → M' b = some o
theorem MLe.refl (M : Mem) : MLe M M := fun _ _ h => h
theorem MLe.trans {M M' M'' : Mem} (h : MLe M M') (k : MLe M' M'') : MLe M M'' := fun b o x => k b o (h b o x)
theorem Js.sub {M M' : Mem} {L L' : Lc} (hM : MLe M M') (hL : ∀ p ∈ L, p ∈ L') {w : World} (h : Js M' L' w) : Js M L w := ⟨fun b o x => h.agree b o (hM b o x), fun p hp => h.locs p (hL p hp)⟩
theorem St.fewer {E : Ent} {M : Mem} {L L' : Lc} {w : World} (h : St E M L w) (hs : L'.Sublist L) : St E M L' w :=
  { h with locs := fun p hp => h.locs p (hs.subset hp), nodup := h.nodup.sublist (hs.map _) }
theorem St.perm {E : Ent} {M : Mem} {L L' : Lc} {w : World} (h : St E M L w) (hs : L.Perm L') : St E M L' w :=
  { h with locs := fun p hp => h.locs p (hs.mem_iff.2 hp), nodup := (hs.map _).nodup_iff.1 h.nodup }
/-- A block of one's own is written no more. -/
def Mem.set (M : Mem) (g : Nat) (o : Obj) : Mem := fun b => if b = g then some o else M b
theorem Mem.le_set {M : Mem} {g : Nat} {o : Obj} (h : M g = none) : MLe M (M.set g o) := fun b x hx => by
  unfold Mem.set; split
  · rename_i e; subst e; rw [h] at hx; cases hx
  · exact hx
theorem St.freeze {W : World} {X : List Nat} {M0 M : Mem} {L : Lc} {g : Nat} {o : Obj} {w : World} (h : St ⟨W, X, M0⟩ M ((g, o) :: L) w) (hg : g ∉ X) : St ⟨W, X, M0⟩ (M.set g o) L w ∧ MLe M (M.set g o) := by
  have hg' := h.locs (g, o) (by simp)
  have hn : W.heap.size ≤ g := hg'.2.1.resolve_right hg
  refine ⟨{ h with fresh := fun k hk => ?_, agree := fun b x hx => ?_, locs := fun p hp => ?_, nodup := (List.nodup_cons.1 h.nodup).2 }, Mem.le_set hg'.2.2⟩
  · have hk' : k < W.heap.size := hk
    have : k ≠ g := fun e => by omega
    rw [← h.fresh k hk]; simp [Mem.set, this]
  · unfold Mem.set at hx; split at hx
    · rename_i e; subst e; cases hx; exact hg'.1
    · exact h.agree b x hx
  · have hp' := h.locs p (List.mem_cons_of_mem _ hp)
    refine ⟨hp'.1, hp'.2.1, ?_⟩
    have : p.1 ≠ g := fun e => (List.nodup_cons.1 h.nodup).1 (by rw [← e]; exact List.mem_map.2 ⟨p, hp, rfl⟩)
    simp [Mem.set, this, hp'.2.2]

/-! ### what an operation does -/
section
variable (P : Program) (ops : Array Oper) (N : Fs)

/-- a quiet operation: one value -/
def QF (F : Fr) (M : Mem) (L : Lc) (o : Oper) (v : Value) : Prop := ∀ a, Has N F a → QY P ops (Js M L) o v a
/-- another one -/
def HF (F : Fr) (E : Ent) (M : Mem) (L : Lc) (o : Oper) (K : Value → Mem → Lc → Prop) : Prop := ∀ a w, Has N F a → St E M L w →
  Region.wanted o (yielded ops a.tmps) = true ∧ ∀ Q, o.wpIn (FF N.r) 0 P a w (fun a' w' => ∃ v M' L', a' = a.put o.dst v ∧ St E M' L' w' ∧ K v M' L') Q

/-- operations in the text's order -/
def JL (Q : Exit → Act → World → Prop) (l : List Oper) (F : Fr) (E : Ent) (M : Mem) (L : Lc) : Prop := ∀ a w, Has N F a → St E M L w → wpListIn (FF N.r) 0 P ops Q l a w
/-- operations that draw their order, in one order; what quiet ones see is kept -/
def JD (p : Ph) (Mw : Mem) (Lw : Lc) (Q : Exit → Act → World → Prop) (l : List (Nat × Bool)) (F : Fr) (E : Ent) (M : Mem) (L : Lc) (Mi : Mem) (Li : Lc) : Prop :=
  MLe Mi M → (∀ p ∈ Li, p ∈ L) → MLe Mw Mi → (∀ p ∈ Lw, p ∈ Li) → JO p P ops N Q l true F (Js Mi Li) (Js Mw Lw) (St E M L)
/-- .. behind one that broke the promise -/
def JE (p : Ph) (Mw : Mem) (Lw : Lc) (Q : Exit → Act → World → Prop) (l : List (Nat × Bool)) (F : Fr) (E : Ent) (M : Mem) (L : Lc) : Prop :=
  MLe Mw M → (∀ p ∈ Lw, p ∈ L) → ∀ J, JO p P ops N Q l false F J (Js Mw Lw) (St E M L)
end
/-- code -/
def JC (P : Program) (N : Fs) (c : Code) (F : Fr) (E : Ent) (M : Mem) (L : Lc) (Q : Exit → Act → World → Prop) : Prop := ∀ a w, Has N F a → St E M L w → c.wpIn (FF N.r) 0 P Q a w
/-- an end -/
def JQ (N : Fs) (e : Exit) (F : Fr) (E : Ent) (M : Mem) (L : Lc) (Q : Exit → Act → World → Prop) : Prop := ∀ a w, Has N F a → St E M L w → Q e a w

section
variable {P : Program} {ops : Array Oper} {N : Fs} {Q : Exit → Act → World → Prop} {F F' : Fr} {E : Ent} {M : Mem} {L : Lc}

theorem jl_nil (h : JQ N .normal F E M L Q) : JL P ops N Q [] F E M L := h
theorem jl_q {o : Oper} {rest : List Oper} {v : Value} {d : Nat} (hd : o.dst = some d) (hN : Nat.blt d N.n = true) (hq : QF P ops N F M L o v) (h : JL P ops N Q rest ((d, v) :: F) E M L) : JL P ops N Q (o :: rest) F E M L := by
  intro a w ha hw
  have hy := hq a ha
  have hN' : d < N.n := by simpa [Nat.blt_eq] using hN
  unfold wpListIn
  rcases hy with ⟨hwa, hv⟩ | ⟨hwa, rfl⟩
  · rw [if_pos hwa]
    exact (hv w hw.js).wp fun w' hb => by rw [hd]; exact h _ _ (ha.put hN' v) (St.closed _ _ _ _ _ hw hb)
  · rw [hwa]
    simp only [Bool.false_eq_true, if_false]
    rw [hd]; exact ⟨fun _ _ => trivial, h _ _ (ha.put hN' _) hw⟩
theorem jl_h {o : Oper} {rest : List Oper} {K : Value → Mem → Lc → Prop} {d : Nat} (hd : o.dst = some d) (hN : Nat.blt d N.n = true) (hh : HF P ops N F E M L o K) (h : ∀ v M' L', K v M' L' → JL P ops N Q rest ((d, v) :: F) E M' L') : JL P ops N Q (o :: rest) F E M L := by
  intro a w ha hw
  obtain ⟨h1, h2⟩ := hh a w ha hw
  have hN' : d < N.n := by simpa [Nat.blt_eq] using hN
  unfold wpListIn
  rw [if_pos h1]
  refine Oper.wpIn_mono (fun a' w' hk => ?_) (h2 Q)
  obtain ⟨v, M', L', rfl, hs, hK⟩ := hk
  rw [hd]
  exact h v M' L' hK _ _ (ha.put hN' v) hs
theorem jl_s {o : Oper} {rest : List Oper} {K : Value → Mem → Lc → Prop} (hd : o.dst = none) (hh : HF P ops N F E M L o K) (h : ∀ v M' L', K v M' L' → JL P ops N Q rest F E M' L') : JL P ops N Q (o :: rest) F E M L := by
  intro a w ha hw
  obtain ⟨h1, h2⟩ := hh a w ha hw
  unfold wpListIn
  rw [if_pos h1]
  refine Oper.wpIn_mono (fun a' w' hk => ?_) (h2 Q)
  obtain ⟨v, M', L', rfl, hs, hK⟩ := hk
  rw [hd]
  exact h v M' L' hK _ _ ha hs
theorem jl_weak {rest : List Oper} {M' : Mem} {L' : Lc} (hw : ∀ w, St E M L w → St E M' L' w) (h : JL P ops N Q rest F E M' L') : JL P ops N Q rest F E M L := fun a w ha hs => h a w ha (hw w hs)
theorem jl_keep {rest : List Oper} (k : Keep F F') (h : JL P ops N Q rest F' E M L) : JL P ops N Q rest F E M L := fun a w ha hs => h a w (ha.keep k) hs

/-! drawn regions -/
variable {Mi Mw : Mem} {Li Lw : Lc} {p : Ph}
theorem jd_nil (h : JQ N .normal F E M L Q) : JD P ops N p Mw Lw Q [] F E M L Mi Li := fun _ _ _ _ => h
theorem jd_q {i : Nat} {rest : List (Nat × Bool)} {o : Oper} {v : Value} {d : Nat} (ho : ops[i]? = some o) (hd : o.dst = some d) (hN : Nat.blt d N.n = true)
    (hq : QF P ops N F Mi Li o v) (h : JD P ops N p Mw Lw Q rest ((d, v) :: F) E M L Mi Li) (hA : p.A i = true := by rfl) (hU : p.U i = true := by rfl) : JD P ops N p Mw Lw Q ((i, true) :: rest) F E M L Mi Li := fun hM hL kM kL =>
  ⟨o, ho, by unfold dstOk; rw [hd]; exact hN, St.closed _ _ _, fun _ hw => (hw.js.sub hM hL).sub kM kL, fun _ _ hw => hw.js.sub hM hL, hA, fun _ => rfl, v, fun a ha => by rw [if_pos hU]; exact hq a ha, by rw [hd]; exact h hM hL kM kL⟩
/-- one that does not need the promise -/
theorem jd_u {i : Nat} {rest : List (Nat × Bool)} {o : Oper} {v : Value} {d : Nat} (ho : ops[i]? = some o) (hd : o.dst = some d) (hN : Nat.blt d N.n = true)
    (hq : QF P ops N F Mw Lw o v) (h : JD P ops N p Mw Lw Q rest ((d, v) :: F) E M L Mi Li) (hA : p.A i = true := by rfl) (hU : p.U i = false := by rfl) : JD P ops N p Mw Lw Q ((i, true) :: rest) F E M L Mi Li := fun hM hL kM kL =>
  ⟨o, ho, by unfold dstOk; rw [hd]; exact hN, St.closed _ _ _, fun _ hw => (hw.js.sub hM hL).sub kM kL, fun _ _ hw => hw.js.sub hM hL, hA, fun _ => rfl, v, fun a ha => by rw [hU]; exact hq a ha, by rw [hd]; exact h hM hL kM kL⟩
/-- one whose value stands in no memory -/
theorem jd_any {i : Nat} {rest : List (Nat × Bool)} {o : Oper} {v : Value} {d : Nat} (ho : ops[i]? = some o) (hd : o.dst = some d) (hN : Nat.blt d N.n = true)
    (hq : ∀ M L, QF P ops N F M L o v) (h : JD P ops N p Mw Lw Q rest ((d, v) :: F) E M L Mi Li) (hA : p.A i = true := by rfl) : JD P ops N p Mw Lw Q ((i, true) :: rest) F E M L Mi Li := by
  cases hU : p.U i
  · exact jd_u ho hd hN (hq _ _) h hA hU
  · exact jd_q ho hd hN (hq _ _) h hA hU
/-- behind a heavy operation: what is promised from there on (at least what was) -/
theorem jd_h {i : Nat} {rest : List (Nat × Bool)} {o : Oper} {K : Value → Mem → Lc → Prop} {d : Nat} (ho : ops[i]? = some o) (hd : o.dst = some d) (hN : Nat.blt d N.n = true)
    (hh : HF P ops N F E M L o K)
    (h : ∀ v M' L', K v M' L' → ∃ Mi' Li', MLe Mi Mi' ∧ MLe Mi' M' ∧ (∀ p ∈ Li, p ∈ Li') ∧ (∀ p ∈ Li', p ∈ L') ∧ JD P ops N p Mw Lw Q rest ((d, v) :: F) E M' L' Mi' Li') (hA : p.A i = true := by rfl) : JD P ops N p Mw Lw Q ((i, false) :: rest) F E M L Mi Li := fun hM hL kM kL =>
  ⟨o, ho, by unfold dstOk; rw [hd]; exact hN, St.closed _ _ _, fun _ hw => (hw.js.sub hM hL).sub kM kL, fun _ _ hw => hw.js.sub hM hL, .inl fun a w ha hw => by
    obtain ⟨h1, h2⟩ := hh a w ha hw
    refine ⟨h1, Oper.wpIn_mono (fun a' w' hk => ?_) (h2 Q)⟩
    obtain ⟨v, M', L', rfl, hs, hK⟩ := hk
    obtain ⟨Mi', Li', k1, k2, k3, k4, k5⟩ := h v M' L' hK
    refine ⟨v, rfl, Js Mi' Li', Js Mw Lw, St E M' L', St.closed _ _ _, fun _ hx => (hx.js.sub k2 k4).sub (kM.trans k1) (fun p hp => k3 p (kL p hp)), fun _ hx => hx, fun _ _ hx => hx.js.sub k2 k4, fun _ hx => hx.sub k1 k3, hs, ?_⟩
    rw [hd, hA]; exact k5 k2 k4 (kM.trans k1) (fun p hp => k3 p (kL p hp))⟩
theorem jd_s {i : Nat} {rest : List (Nat × Bool)} {o : Oper} {K : Value → Mem → Lc → Prop} (ho : ops[i]? = some o) (hd : o.dst = none)
    (hh : HF P ops N F E M L o K)
    (h : ∀ v M' L', K v M' L' → ∃ Mi' Li', MLe Mi Mi' ∧ MLe Mi' M' ∧ (∀ p ∈ Li, p ∈ Li') ∧ (∀ p ∈ Li', p ∈ L') ∧ JD P ops N p Mw Lw Q rest F E M' L' Mi' Li') (hA : p.A i = true := by rfl) : JD P ops N p Mw Lw Q ((i, false) :: rest) F E M L Mi Li := fun hM hL kM kL =>
  ⟨o, ho, by unfold dstOk; rw [hd], St.closed _ _ _, fun _ hw => (hw.js.sub hM hL).sub kM kL, fun _ _ hw => hw.js.sub hM hL, .inl fun a w ha hw => by
    obtain ⟨h1, h2⟩ := hh a w ha hw
    refine ⟨h1, Oper.wpIn_mono (fun a' w' hk => ?_) (h2 Q)⟩
    obtain ⟨v, M', L', rfl, hs, hK⟩ := hk
    obtain ⟨Mi', Li', k1, k2, k3, k4, k5⟩ := h v M' L' hK
    refine ⟨v, rfl, Js Mi' Li', Js Mw Lw, St E M' L', St.closed _ _ _, fun _ hx => (hx.js.sub k2 k4).sub (kM.trans k1) (fun p hp => k3 p (kL p hp)), fun _ hx => hx, fun _ _ hx => hx.js.sub k2 k4, fun _ hx => hx.sub k1 k3, hs, ?_⟩
    rw [hd, hA]; exact k5 k2 k4 (kM.trans k1) (fun p hp => k3 p (kL p hp))⟩
/-- a store that breaks the promise -/
theorem jd_e {i : Nat} {rest : List (Nat × Bool)} {o : Oper} {K : Value → Mem → Lc → Prop} (ho : ops[i]? = some o) (hd : o.dst = none)
    (hh : HF P ops N F E M L o K)
    (h : ∀ v M' L', K v M' L' → MLe Mw M' ∧ (∀ p ∈ Lw, p ∈ L') ∧ JE P ops N p Mw Lw Q rest F E M' L') (hA : p.A i = false := by rfl) : JD P ops N p Mw Lw Q ((i, false) :: rest) F E M L Mi Li := fun hM hL kM kL =>
  ⟨o, ho, by unfold dstOk; rw [hd], St.closed _ _ _, fun _ hw => (hw.js.sub hM hL).sub kM kL, fun _ _ hw => hw.js.sub hM hL, .inl fun a w ha hw => by
    obtain ⟨h1, h2⟩ := hh a w ha hw
    refine ⟨h1, Oper.wpIn_mono (fun a' w' hk => ?_) (h2 Q)⟩
    obtain ⟨v, M', L', rfl, hs, hK⟩ := hk
    obtain ⟨k1, k2, k3⟩ := h v M' L' hK
    refine ⟨v, rfl, Js Mi Li, Js Mw Lw, St E M' L', St.closed _ _ _, fun _ hx => hx.js.sub k1 k2, fun _ hx => hx, fun h => ?_, fun _ hx => hx, hs, ?_⟩
    · rw [hA] at h; cases h
    · rw [hd, hA]; exact k3 k1 k2 _⟩
/-- a call that breaks the promise -/
theorem jd_eh {i : Nat} {rest : List (Nat × Bool)} {o : Oper} {K : Value → Mem → Lc → Prop} {d : Nat} (ho : ops[i]? = some o) (hd : o.dst = some d) (hN : Nat.blt d N.n = true)
    (hh : HF P ops N F E M L o K)
    (h : ∀ v M' L', K v M' L' → MLe Mw M' ∧ (∀ p ∈ Lw, p ∈ L') ∧ JE P ops N p Mw Lw Q rest ((d, v) :: F) E M' L') (hA : p.A i = false := by rfl) : JD P ops N p Mw Lw Q ((i, false) :: rest) F E M L Mi Li := fun hM hL kM kL =>
  ⟨o, ho, by unfold dstOk; rw [hd]; exact hN, St.closed _ _ _, fun _ hw => (hw.js.sub hM hL).sub kM kL, fun _ _ hw => hw.js.sub hM hL, .inl fun a w ha hw => by
    obtain ⟨h1, h2⟩ := hh a w ha hw
    refine ⟨h1, Oper.wpIn_mono (fun a' w' hk => ?_) (h2 Q)⟩
    obtain ⟨v, M', L', rfl, hs, hK⟩ := hk
    obtain ⟨k1, k2, k3⟩ := h v M' L' hK
    refine ⟨v, rfl, Js Mi Li, Js Mw Lw, St E M' L', St.closed _ _ _, fun _ hx => hx.js.sub k1 k2, fun _ hx => hx, fun h => ?_, fun _ hx => hx, hs, ?_⟩
    · rw [hA] at h; cases h
    · rw [hd, hA]; exact k3 k1 k2 _⟩
/-- the promise is kept where what is there only grows -/
theorem jd_grow {rest : List (Nat × Bool)} {M' : Mem} {L' : Lc} (hM : MLe M M') (hL : ∀ p ∈ L, p ∈ L') (k1 : MLe Mi M) (k2 : ∀ p ∈ Li, p ∈ L) (h : JD P ops N p Mw Lw Q rest F E M' L' Mi Li) :
    ∃ Mi' Li', MLe Mi Mi' ∧ MLe Mi' M' ∧ (∀ p ∈ Li, p ∈ Li') ∧ (∀ p ∈ Li', p ∈ L') ∧ JD P ops N p Mw Lw Q rest F E M' L' Mi' Li' :=
  ⟨Mi, Li, MLe.refl _, k1.trans hM, fun _ h => h, fun p hp => hL p (k2 p hp), h⟩
theorem je_nil (h : JQ N .normal F E M L Q) : JE P ops N p Mw Lw Q [] F E M L := fun _ _ _ => h
theorem je_q {i : Nat} {rest : List (Nat × Bool)} {o : Oper} {v : Value} {d : Nat} (ho : ops[i]? = some o) (hd : o.dst = some d) (hN : Nat.blt d N.n = true)
    (hq : QF P ops N F Mw Lw o v) (h : JE P ops N p Mw Lw Q rest ((d, v) :: F) E M L) (hA : p.A i = true := by rfl) (hU : p.U i = false := by rfl) : JE P ops N p Mw Lw Q ((i, true) :: rest) F E M L := fun kM kL J =>
  ⟨o, ho, by unfold dstOk; rw [hd]; exact hN, St.closed _ _ _, fun _ hw => hw.js.sub kM kL, (fun h => by cases h), hA, (fun h => by rw [hU] at h; cases h), v, fun a ha => by rw [hU]; exact hq a ha, by rw [hd]; exact h kM kL J⟩
theorem je_s {i : Nat} {rest : List (Nat × Bool)} {o : Oper} {K : Value → Mem → Lc → Prop} (ho : ops[i]? = some o) (hd : o.dst = none)
    (hh : HF P ops N F E M L o K)
    (h : ∀ v M' L', K v M' L' → MLe Mw M' ∧ (∀ p ∈ Lw, p ∈ L') ∧ JE P ops N p Mw Lw Q rest F E M' L') : JE P ops N p Mw Lw Q ((i, false) :: rest) F E M L := fun kM kL J =>
  ⟨o, ho, by unfold dstOk; rw [hd], St.closed _ _ _, fun _ hw => hw.js.sub kM kL, (fun h => by cases h), .inl fun a w ha hw => by
    obtain ⟨h1, h2⟩ := hh a w ha hw
    refine ⟨h1, Oper.wpIn_mono (fun a' w' hk => ?_) (h2 Q)⟩
    obtain ⟨v, M', L', rfl, hs, hK⟩ := hk
    obtain ⟨k1, k2, k3⟩ := h v M' L' hK
    refine ⟨v, rfl, J, Js Mw Lw, St E M' L', St.closed _ _ _, fun _ hx => hx.js.sub k1 k2, fun _ hx => hx, (fun h => by cases h), fun _ hx => hx, hs, ?_⟩
    rw [hd]; exact k3 k1 k2 J⟩

/-! ### code -/
theorem jc_region {id : Nat} {l : List Oper} (h : JL P l.toArray N Q l F E M L) : JC P N (.region id l.toArray false) F E M L Q := fun a w ha hw => wpIn_region_lit (h a w ha hw)
theorem jc_drawP {p : Ph} {id : Nat} {l : List Oper} (order : List (Nat × Bool)) (Mw : Mem) (Li Lw : Lc) (hm : P.follows .mixedOrders = true) (hs : (Region.noSelect l.toArray && noDefer l.toArray) = true)
    (hok : okOrder l.toArray order (Array.replicate l.length false) = true) (hph : phased p l.toArray = true) (hlen : order.length = l.length)
    (hLi : ∀ p ∈ Li, p ∈ L) (hMw : MLe Mw M) (hLw : ∀ p ∈ Lw, p ∈ Li) (h : JD P l.toArray N p Mw Lw (NoPanic Q) order F E M L M Li) : JC P N (.region id l.toArray true) F E M L Q := fun a w ha hw => by
  refine wpIn_mono (Q := NoPanic Q) (wpIn_region_any hm ?_) NoPanic.imp
  have hw' : St E M L { w with drawn := w.drawn + 1 } := { hw with }
  have := AC.any _ _ _ a (St E M L) _ hw' (JO.toAC (Q := NoPanic Q) hs hph (fun _ _ _ _ _ h => h) order true (Array.replicate l.length false) F (Js M Li) (Js Mw Lw) (St E M L) a (Shut.none _) hok (h (MLe.refl _) hLi hMw hLw) ha)
  rw [hlen] at this
  simpa using this
theorem jc_draw {id : Nat} {l : List Oper} (order : List (Nat × Bool)) (Li : Lc) (hm : P.follows .mixedOrders = true) (hs : (Region.noSelect l.toArray && noDefer l.toArray) = true)
    (hok : okOrder l.toArray order (Array.replicate l.length false) = true) (hlen : order.length = l.length)
    (hLi : ∀ p ∈ Li, p ∈ L) (h : JD P l.toArray N {} M Li (NoPanic Q) order F E M L M Li) : JC P N (.region id l.toArray true) F E M L Q :=
  jc_drawP order M Li Li hm hs hok (phased_all _) hlen hLi (MLe.refl _) (fun _ h => h) h
theorem jc_seq {x y : Code} (h : JC P N x F E M L (Exit.then (fun a w => y.wpIn (FF N.r) 0 P Q a w) Q)) : JC P N (.seq x y) F E M L Q := fun a w ha hw => wpIn_seq (h a w ha hw)
theorem jc_skip (h : JQ N .normal F E M L Q) : JC P N .skip F E M L Q := fun a w ha hw => wpIn_skip (h a w ha hw)
theorem jc_label {l : Nat} (h : JQ N .normal F E M L Q) : JC P N (.label l) F E M L Q := fun a w ha hw => wpIn_label (h a w ha hw)
theorem jc_ret (h : JQ N .ret F E M L Q) : JC P N .ret F E M L Q := fun a w ha hw => wpIn_ret (h a w ha hw)
theorem jc_exit {i : Nat} (h : JQ N (.exit i) F E M L Q) : JC P N (.exit i) F E M L Q := fun a w ha hw => wpIn_exit (h a w ha hw)
theorem jc_block {id : Nat} {c : Code} (h : JC P N c F E M L (Exit.inBlock id Q)) : JC P N (.block id c) F E M L Q := fun a w ha hw => wpIn_block (h a w ha hw)
theorem jc_yes {c : Operand} {x y : Code} (hc : ev F c = some (.bool true)) (h : JC P N x F E M L Q) : JC P N (.cond c x y) F E M L Q := fun a w ha hw => wpIn_cond_true (ha.ev hc) (h a w ha hw)
theorem jc_no {c : Operand} {x y : Code} (hc : ev F c = some (.bool false)) (h : JC P N y F E M L Q) : JC P N (.cond c x y) F E M L Q := fun a w ha hw => wpIn_cond_false (ha.ev hc) (h a w ha hw)
theorem jc_if {c : Operand} {x y : Code} {b : Bool} (hc : ev F c = some (.bool b)) (hx : b = true → JC P N x F E M L Q) (hy : b = false → JC P N y F E M L Q) : JC P N (.cond c x y) F E M L Q := by
  cases b
  · exact jc_no hc (hy rfl)
  · exact jc_yes hc (hx rfl)
theorem jc_keep {c : Code} (k : Keep F F') (h : JC P N c F' E M L Q) : JC P N c F E M L Q := fun a w ha hw => h a w (ha.keep k) hw
theorem jc_weak {c : Code} {M' : Mem} {L' : Lc} (hs : ∀ w, St E M L w → St E M' L' w) (h : JC P N c F E M' L' Q) : JC P N c F E M L Q := fun a w ha hw => h a w ha (hs w hw)
theorem jq_keep {e : Exit} (k : Keep F F') (h : JQ N e F' E M L Q) : JQ N e F E M L Q := fun a w ha hw => h a w (ha.keep k) hw
theorem jq_weak {e : Exit} {M' : Mem} {L' : Lc} (hs : ∀ w, St E M L w → St E M' L' w) (h : JQ N e F E M' L' Q) : JQ N e F E M L Q := fun a w ha hw => h a w ha (hs w hw)

/-! ends -/
theorem jT {y : Code} (h : JC P N y F E M L Q) : JQ N .normal F E M L (Exit.then (fun a w => y.wpIn (FF N.r) 0 P Q a w) Q) := h
theorem jTr {K : Act → World → Prop} (h : JQ N .ret F E M L Q) : JQ N .ret F E M L (Exit.then K Q) := h
theorem jTx {K : Act → World → Prop} {i : Nat} (h : JQ N (.exit i) F E M L Q) : JQ N (.exit i) F E M L (Exit.then K Q) := h
theorem jB {id : Nat} (h : JQ N .normal F E M L Q) : JQ N .normal F E M L (Exit.inBlock id Q) := h
theorem jBr {id : Nat} (h : JQ N .ret F E M L Q) : JQ N .ret F E M L (Exit.inBlock id Q) := h
theorem jBx {id : Nat} (h : JQ N .normal F E M L Q) : JQ N (.exit id) F E M L (Exit.inBlock id Q) := fun a w ha hw => by simp only [Exit.inBlock, if_true]; exact h a w ha hw
theorem jBo {id i : Nat} (hi : Nat.beq i id = false) (h : JQ N (.exit i) F E M L Q) : JQ N (.exit i) F E M L (Exit.inBlock id Q) := fun a w ha hw => by
  have : i ≠ id := fun e => by subst e; simp at hi
  simp only [Exit.inBlock, this, if_false]; exact h a w ha hw
theorem jP {e : Exit} (he : ∀ c, e ≠ .panic c) (h : JQ N e F E M L Q) : JQ N e F E M L (NoPanic Q) := fun a w ha hw => by
  cases e <;> first | exact absurd rfl (he _) | exact h a w ha hw
theorem jPn (h : JQ N .normal F E M L Q) : JQ N .normal F E M L (NoPanic Q) := h
end

/-! ### loops -/
section
variable {P : Program} {N : Fs} {Q : Exit → Act → World → Prop}
/-- one more round, from a smaller measure -/
def Again {α : Type} (N : Fs) (E : Ent) (Fi : α → Fr) (Mi : α → Mem) (Li : α → Lc) (φ : α → Prop) (μ : α → Nat) (x : α) (a : Act) (w : World) : Prop :=
  ∃ y, φ y ∧ μ y < μ x ∧ Has N (Fi y) a ∧ St E (Mi y) (Li y) w

theorem least {p : Nat → Prop} (h : ∃ n, p n) : ∃ n, p n ∧ ∀ k, p k → n ≤ k := by
  obtain ⟨n, hn⟩ := h
  induction n using Nat.strongRecOn with
  | _ n ih =>
    by_cases hx : ∃ m, m < n ∧ p m
    · obtain ⟨m, hm, hp⟩ := hx; exact ih m hm hp
    · exact ⟨n, hn, fun k hk => Nat.le_of_not_lt fun hlt => hx ⟨k, hlt, hk⟩⟩
theorem jc_loop {α : Type} {E : Ent} {c : Code} (Fi : α → Fr) (Mi : α → Mem) (Li : α → Lc) (φ : α → Prop) (μ : α → Nat)
    (h : ∀ x, φ x → JC P N c (Fi x) E (Mi x) (Li x) (Exit.then (Again N E Fi Mi Li φ μ x) Q)) (x : α) (hx : φ x) : JC P N (.loop c) (Fi x) E (Mi x) (Li x) Q := by
  classical
  intro a w ha hw
  let I : Act → World → Nat → Prop := fun a w n => ∃ x, φ x ∧ Has N (Fi x) a ∧ St E (Mi x) (Li x) w ∧ μ x = n
  let m : Act → World → Nat := fun a w => if h : ∃ n, I a w n then Classical.choose (least h) else 0
  have hm : ∀ a w n, I a w n → m a w ≤ n := fun a w n hi => by
    have he : ∃ n, I a w n := ⟨n, hi⟩
    simp only [m, dif_pos he]; exact (Classical.choose_spec (least he)).2 _ hi
  refine wpIn_loop (fun a w => ∃ n, I a w n) m ⟨_, x, hx, ha, hw, rfl⟩ fun a w he => ?_
  have hmin : I a w (m a w) := by simp only [m, dif_pos he]; exact (Classical.choose_spec (least he)).1
  obtain ⟨y, hy, hya, hyw, hyn⟩ := hmin
  refine wpIn_mono (h y hy a w hya hyw) fun e a' w' hq => ?_
  cases e with
  | normal =>
    obtain ⟨z, hz, hlt, hza, hzw⟩ := hq
    have h1 : I a' w' (μ z) := ⟨z, hz, hza, hzw, rfl⟩
    exact ⟨⟨_, h1⟩, by have := hm a' w' _ h1; omega⟩
  | exit id => exact hq
  | goto l => exact hq
  | ret => exact hq
  | panic ch => exact hq
  | outgrown => exact hq

theorem jc_loopK {α : Type} {E : Ent} {c : Code} {F : Fr} {M : Mem} {L : Lc} (Fi : α → Fr) (Mi : α → Mem) (Li : α → Lc) (φ : α → Prop) (μ : α → Nat) (x : α) (hk : Keep F (Fi x)) (hx : φ x) (hs : ∀ w, St E M L w → St E (Mi x) (Li x) w)
    (h : ∀ x, φ x → JC P N c (Fi x) E (Mi x) (Li x) (Exit.then (Again N E Fi Mi Li φ μ x) Q)) : JC P N (.loop c) F E M L Q := fun a w ha hw =>
  jc_loop Fi Mi Li φ μ h x hx a w (ha.keep hk) (hs w hw)

theorem j_again {α : Type} {E : Ent} {F : Fr} {M : Mem} {L : Lc} {Fi : α → Fr} {Mi : α → Mem} {Li : α → Lc} {φ : α → Prop} {μ : α → Nat} {x : α} (y : α) (hk : Keep F (Fi y)) (hφ : φ y) (hμ : μ y < μ x)
    (hs : ∀ w, St E M L w → St E (Mi y) (Li y) w) : JQ N .normal F E M L (Exit.then (Again N E Fi Mi Li φ μ x) Q) := fun _ w ha hw => ⟨y, hφ, hμ, ha.keep hk, hs w hw⟩
end

/-- paths that join again behind a piece of code -/
def Joint {α : Type} (N : Fs) (E : Ent) (Fi : α → Fr) (Mi : α → Mem) (Li : α → Lc) (φ : α → Prop) (a : Act) (w : World) : Prop := ∃ y, φ y ∧ Has N (Fi y) a ∧ St E (Mi y) (Li y) w
section
variable {P : Program} {N : Fs} {Q : Exit → Act → World → Prop}
theorem jc_merge {α : Type} {E : Ent} {x y : Code} {F : Fr} {M : Mem} {L : Lc} (Fi : α → Fr) (Mi : α → Mem) (Li : α → Lc) (φ : α → Prop) (h : ∀ z, φ z → JC P N y (Fi z) E (Mi z) (Li z) Q)
    (hx : JC P N x F E M L (Exit.then (Joint N E Fi Mi Li φ) Q)) : JC P N (.seq x y) F E M L Q := fun a w ha hw => wpIn_seq (wpIn_mono (hx a w ha hw) (fun e a' w' hq => by
  cases e with
  | normal => obtain ⟨z, h1, h2, h3⟩ := hq; exact h z h1 a' w' h2 h3
  | exit id => exact hq
  | goto l => exact hq
  | ret => exact hq
  | panic ch => exact hq
  | outgrown => exact hq))
theorem j_merge {α : Type} {E : Ent} {F : Fr} {M : Mem} {L : Lc} {Fi : α → Fr} {Mi : α → Mem} {Li : α → Lc} {φ : α → Prop} (y : α) (hk : Keep F (Fi y)) (hφ : φ y) (hs : ∀ w, St E M L w → St E (Mi y) (Li y) w) : JQ N .normal F E M L (Exit.then (Joint N E Fi Mi Li φ) Q) := fun _ w ha hw => ⟨y, hφ, ha.keep hk, hs w hw⟩
end

/-! ### contracts -/
/-- Called with 'args', 'M' being there and 'L' the caller's to be written: it returns v; 'post' tells of it, of what is there now, of what may be written on. -/
def SpecL (P : Program) (f : FuncId) (args : Array Value) (M : Mem) (L : Lc) (post : Value → Mem → Lc → Prop) : Prop :=
  ∀ w, St ⟨w, L.map (·.1), M⟩ M L w → Calls P f args w fun e w' => ∃ v M' L', e = .returned v ∧ post v M' L' ∧ St ⟨w, L.map (·.1), M⟩ M' L' w'

theorem SpecL.mono {P : Program} {f : FuncId} {args : Array Value} {M : Mem} {L : Lc} {post post' : Value → Mem → Lc → Prop} (h : SpecL P f args M L post) (hp : ∀ v M' L', post v M' L' → post' v M' L') : SpecL P f args M L post' :=
  fun w hw => (h w hw).mono fun _ _ ⟨v, M', L', a, b, c⟩ => ⟨v, M', L', a, hp _ _ _ b, c⟩

/-- what a body is to come to -/
def retPost (P : Program) (fn : Func) (E : Ent) (post : Value → Mem → Lc → Prop) : Exit → Act → World → Prop :=
  bodyPostM (FF none) 0 P fn fun e w' => ∃ v M' L', e = .returned v ∧ post v M' L' ∧ St E M' L' w'

def enumFr : Nat → List Value → Fr
  | _, [] => []
  | i, v :: vs => (i, v) :: enumFr (i + 1) vs

theorem lk_enum : ∀ (vs : List Value) (i t : Nat) (v : Value), lk t (enumFr i vs) = some v → i ≤ t ∧ vs[t - i]? = some v
  | [], _, _, _, h => by cases h
  | u :: us, i, t, v, h => by
    unfold enumFr lk at h
    cases hb : Nat.beq i t
    · rw [hb] at h
      obtain ⟨h1, h2⟩ := lk_enum us (i + 1) t v h
      refine ⟨by omega, ?_⟩
      have : t - i = (t - (i + 1)) + 1 := by omega
      rw [this]; simpa using h2
    · rw [hb] at h
      cases h
      have := Nat.eq_of_beq_eq_true hb
      subst this
      simp

theorem spec_body {P : Program} {f : FuncId} {fn : Func} {c : Code} {vs : List Value} {M : Mem} {L : Lc} {post : Value → Mem → Lc → Prop} (N : Nat) (F : Fr)
    (hf : P.funcs[f]? = some fn) (hb : fn.body = some c) (hn : fn.ntmps = N) (hle : Nat.ble vs.length N = true) (hF : enumFr 0 vs = F)
    (h : ∀ W, JC P ⟨N, [], none⟩ c F ⟨W, L.map (·.1), M⟩ M L (retPost P fn ⟨W, L.map (·.1), M⟩ post)) : SpecL P f vs.toArray M L post := by
  intro w hw
  refine (callsIn_wide (n := 0)).1 (callsIn_of_wp_marks (F := FF none) hf hb trivial (h w _ w ⟨?_, rfl, ?_⟩ hw) rfl)
  · have : vs.length ≤ N := by simpa using hle
    simp [hn]; omega
  · intro t v hv
    rw [← hF] at hv
    obtain ⟨_, h2⟩ := lk_enum vs 0 t v hv
    have hlt : t < vs.length := (List.getElem?_eq_some_iff.1 (by simpa using h2)).1
    simp only [List.size_toArray]
    rw [Array.getElem?_append_left (by simpa using hlt)]
    simpa using h2

/-- .. with what is known of the world that is entered -/
theorem spec_bodyN {P : Program} {f : FuncId} {fn : Func} {c : Code} {vs : List Value} {M : Mem} {L : Lc} {post : Value → Mem → Lc → Prop} (N : Nat) (F : Fr)
    (hf : P.funcs[f]? = some fn) (hb : fn.body = some c) (hn : fn.ntmps = N) (hle : Nat.ble vs.length N = true) (hF : enumFr 0 vs = F)
    (h : ∀ W, (∀ x ∈ L.map (·.1), x < W.heap.size) → JC P ⟨N, [], none⟩ c F ⟨W, L.map (·.1), M⟩ M L (retPost P fn ⟨W, L.map (·.1), M⟩ post)) : SpecL P f vs.toArray M L post := by
  intro w hw
  refine (callsIn_wide (n := 0)).1 (callsIn_of_wp_marks (F := FF none) hf hb trivial (h w (fun x hx => by obtain ⟨p, hp, rfl⟩ := List.mem_map.1 hx; exact heap_lt (hw.locs p hp).1) _ w ⟨?_, rfl, ?_⟩ hw) rfl)
  · have : vs.length ≤ N := by simpa using hle
    simp [hn]; omega
  · intro t v hv
    rw [← hF] at hv
    obtain ⟨_, h2⟩ := lk_enum vs 0 t v hv
    have hlt : t < vs.length := (List.getElem?_eq_some_iff.1 (by simpa using h2)).1
    simp only [List.size_toArray]
    rw [Array.getElem?_append_left (by simpa using hlt)]
    simpa using h2

/-- at a mark: the block of deferred calls is shut -/
theorem St.shut {E : Ent} {M : Mem} {L : Lc} {d : Nat} {o o' : Obj} {w : World} (h : St E M ((d, o) :: L) w) : St E M L (w.putObj d o') := by
  have hd := h.locs (d, o) (by simp)
  have hnd := List.nodup_cons.1 h.nodup
  refine { h with size := by simpa using h.size, same := fun k hk hx => ?_, agree := fun b x hx => ?_, locs := fun p hp => ?_, nodup := hnd.2 }
  · have : k ≠ d := fun e => by subst e; exact hd.2.1.elim (fun h => by omega) hx
    rw [World.putObj_heap_other this]; exact h.same k hk hx
  · have : b ≠ d := fun e => by subst e; rw [hd.2.2] at hx; cases hx
    rw [World.putObj_heap_other this]; exact h.agree b x hx
  · have hp' := h.locs p (List.mem_cons_of_mem _ hp)
    have : p.1 ≠ d := fun e => hnd.1 (by rw [← e]; exact List.mem_map.2 ⟨p, hp, rfl⟩)
    exact ⟨by rw [World.putObj_heap_other this]; exact hp'.1, hp'.2⟩
theorem jr_mark {P : Program} {fn : Func} {n d : Nat} {D : List Nat} {F : Fr} {E : Ent} {M : Mem} {L L2 : Lc} {post : Value → Mem → Lc → Prop} (hp : L.Perm ((d, .deferred (some [])) :: L2))
    (h : JQ ⟨n, D, none⟩ .ret F E M L2 (retPost P fn E post)) : JQ ⟨n, d :: D, none⟩ .ret F E M L (retPost P fn E post) := by
  intro a w ha hw
  have hw' := hw.perm hp
  have hd := (hw'.locs (d, .deferred (some [])) (by simp)).1
  have := h { a with defers := D.map mark } (w.putObj d (.deferred none)) ⟨ha.size, rfl, ha.get⟩ hw'.shut
  have hdf : a.defers = mark d :: D.map mark := ha.defers
  show LeavesInM _ _ _ _ _ _ a.defers _ _
  rw [hdf]
  exact ⟨by simp, .inl ⟨d, _, rfl, run_takeDeferred hd, this⟩⟩
theorem jr1 {P : Program} {fn : Func} {n : Nat} {F : Fr} {E : Ent} {M : Mem} {L : Lc} {post : Value → Mem → Lc → Prop} {t : Nat} {v : Value} (hr : fn.results = #[.tmp t]) (hv : lk t F = some v) (h : post v M L) : JQ ⟨n, [], none⟩ .ret F E M L (retPost P fn E post) := by
  intro a w ha hw
  show LeavesInM _ _ _ _ _ _ a.defers _ _
  rw [show a.defers = [] from ha.defers]
  refine ⟨v, ?_, v, M, L, rfl, h, hw⟩
  have := ha.get t v hv
  simp [results, hr, Array.getD_eq_getD_getElem?, this]
theorem jr2 {P : Program} {fn : Func} {n : Nat} {F : Fr} {E : Ent} {M : Mem} {L : Lc} {post : Value → Mem → Lc → Prop} {t u : Nat} {v x : Value} (hr : fn.results = #[.tmp t, .tmp u]) (hv : lk t F = some v) (hx : lk u F = some x) (h : post (.tuple #[v, x]) M L) : JQ ⟨n, [], none⟩ .ret F E M L (retPost P fn E post) := by
  intro a w ha hw
  show LeavesInM _ _ _ _ _ _ a.defers _ _
  rw [show a.defers = [] from ha.defers]
  refine ⟨_, ?_, _, M, L, rfl, h, hw⟩
  have h1 := ha.get t v hv
  have h2 := ha.get u x hx
  simp [results, hr, Array.getD_eq_getD_getElem?, h1, h2]
theorem jr3 {P : Program} {fn : Func} {n : Nat} {F : Fr} {E : Ent} {M : Mem} {L : Lc} {post : Value → Mem → Lc → Prop} {t u s : Nat} {v x y : Value} (hr : fn.results = #[.tmp t, .tmp u, .tmp s]) (hv : lk t F = some v) (hx : lk u F = some x) (hy : lk s F = some y) (h : post (.tuple #[v, x, y]) M L) : JQ ⟨n, [], none⟩ .ret F E M L (retPost P fn E post) := by
  intro a w ha hw
  show LeavesInM _ _ _ _ _ _ a.defers _ _
  rw [show a.defers = [] from ha.defers]
  refine ⟨_, ?_, _, M, L, rfl, h, hw⟩
  have h1 := ha.get t v hv
  have h2 := ha.get u x hx
  have h3 := ha.get s y hy
  simp [results, hr, Array.getD_eq_getD_getElem?, h1, h2, h3]
end Go.Proofs.YtdjaehgadehnfaaGreatDoor
