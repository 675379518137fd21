/- THE WALKING LAYER: ranges over functions. No statement of the seat is proved here. -/
import Derived.Test.YtdjaehgadehnfaaGreatDoorHf
namespace Go.Proofs.YtdjaehgadehnfaaGreatDoor
set_option linter.unusedVariables false
set_option linter.unusedSimpArgs false
open Go.RowKit

/-- A round of the loop whose record is l. -/
def RoundL (P : Program) (l : Nat) (args : Array Value) (M : Mem) (L : Lc) (post : Value → Mem → Lc → Prop) : Prop :=
  ∀ w, St ⟨w, L.map (·.1), M⟩ M L w → YieldAt Fence.wide 0 P l args w fun e w' => ∃ v M' L', e = .returned v ∧ post v M' L' ∧ St ⟨w, L.map (·.1), M⟩ M' L' w'

theorem RoundL.mono {P : Program} {l : Nat} {args : Array Value} {M : Mem} {L : Lc} {post post' : Value → Mem → Lc → Prop} (h : RoundL P l args M L post) (hp : ∀ v M' L', post v M' L' → post' v M' L') : RoundL P l args M L post' := fun w hw => by
  obtain ⟨fn, t, a, b, h1, h2⟩ := h w hw
  exact ⟨fn, t, a, b, h1, h2.mono fun _ _ ⟨v, M', L', x, y, z⟩ => ⟨v, M', L', x, hp _ _ _ y, z⟩⟩

section
variable {P : Program} {ops : Array Oper} {N : Fs} {F : Fr} {E : Ent} {M : Mem} {L : Lc} {o : Oper}
theorem run_yieldOp {x : Operand} {xs : List Operand} {T : Array TypeId} {l : Nat} {vs : List Value} {a : Act} (ho : o.op = .call { callee := .value x, args := xs.toArray, argTypes := T }) (ha : Has N F a) (hx : ev F x = some (.func (.yield l) #[] #[])) (hv : evs F xs = some vs)
    (w : World) : (execOp a.eval o).run P w = (Instr.yield l vs.toArray).run P w := by
  have h1 := ha.evs hv
  have h2 : xs.toArray.map a.eval = vs.toArray := by rw [← h1]; simp
  simp [execOp, ho, resolve, h2, ha.ev hx, Deferred.ofValue, invoke]
/-- a call of yield -/
theorem hYield {x : Operand} {xs : List Operand} {T : Array TypeId} {l : Nat} {vs : List Value} {R L2 : Lc} {post : Value → Mem → Lc → Prop} (hg : gd ops F o = some true)
    (ho : o.op = .call { callee := .value x, args := xs.toArray, argTypes := T }) (hx : ev F x = some (.func (.yield l) #[] #[])) (hv : evs F xs = some vs)
    (hs : RoundL P l vs.toArray M R post) [hp : Pick R L L2] : HF P ops N F E M L o (fun v M' L' => MLe M M' ∧ ∃ R', L' = R' ++ L2 ∧ post v M' R') := fun a w ha hw =>
  ⟨gd_spec ha hg, fun Q => by
    have hw' := hw.perm hp.perm
    refine ⟨fun _ _ => trivial, ?_⟩
    obtain ⟨fn, t, asg, bd, h1, h2⟩ := hs w hw'.into
    rw [Oper.semAt_eq _ _ _ (fun c hc => by rw [ho] at hc; cases hc), run_yieldOp ho ha hx hv w, h1]
    refine ⟨wide_depth _ _, ?_⟩
    have h3 : RoundIn (FF N.r) (0 - 1) P l fn t asg bd w _ := h2
    refine h3.mono fun e w' hh => ?_
    obtain ⟨v, M', R', rfl, hpost, h⟩ := hh
    obtain ⟨k1, k2⟩ := hw'.back h
    exact ⟨v, M', R' ++ L2, rfl, k1, k2, R', rfl, hpost⟩⟩
end

/-- THE ITERATOR's CONTRACT: a function that, called with yield, yields 'xs', one behind the other; J: how things stand behind so many of them; Jx: behind a 'no more'. -/
def Iter (P : Program) (gf : FuncId) (lb : List Value) (M : Mem) {α : Type} (enc : α → List Value) (xs : List α) : Prop :=
  ∀ (l : Nat) (J Jx : List α → Mem → Lc → Prop) (M1 : Mem) (L : Lc), MLe M M1 →
    (∀ pre y M2 L2, MLe M1 M2 → J pre M2 L2 → pre ++ [y] <+: xs → RoundL P l (enc y).toArray M2 L2 fun v M' L' => (v = .bool true ∧ J (pre ++ [y]) M' L') ∨ (v = .bool false ∧ Jx (pre ++ [y]) M' L')) →
    J [] M1 L → SpecL P gf (.func (.yield l) #[] #[] :: lb).toArray M1 L fun _ M' L' => J xs M' L' ∨ ∃ pre, pre <+: xs ∧ Jx pre M' L'

theorem Iter.mono {P : Program} {gf : FuncId} {lb : List Value} {M M' : Mem} {α : Type} {enc : α → List Value} {xs : List α} (h : Iter P gf lb M enc xs) (hM : MLe M M') : Iter P gf lb M' enc xs :=
  fun l J Jx M1 L h1 => h l J Jx M1 L (hM.trans h1)

/-- .. where what is yielded stands in memory: En tells which values are y's; b: memory may grow in between. -/
def IterR (b : Bool) (P : Program) (gf : FuncId) (lb : List Value) (M : Mem) {α : Type} (En : α → Mem → List Value → Prop) (xs : List α) : Prop :=
  ∀ (l : Nat) (J Jx : List α → Mem → Lc → Prop) (M1 : Mem) (L : Lc), MLe M M1 → (b = true → ∀ pre M2 M3 L2, MLe M2 M3 → J pre M2 L2 → J pre M3 L2) →
    (∀ pre y M2 L2 vs, MLe M1 M2 → J pre M2 L2 → pre ++ [y] <+: xs → En y M2 vs → RoundL P l vs.toArray M2 L2 fun v M' L' => (v = .bool true ∧ J (pre ++ [y]) M' L') ∨ (v = .bool false ∧ Jx (pre ++ [y]) M' L')) →
    J [] M1 L → SpecL P gf (.func (.yield l) #[] #[] :: lb).toArray M1 L fun _ M' L' => J xs M' L' ∨ ∃ pre, pre <+: xs ∧ Jx pre M' L'
theorem Iter.rel {P : Program} {gf : FuncId} {lb : List Value} {M : Mem} {α : Type} {enc : α → List Value} {xs : List α} (h : Iter P gf lb M enc xs) : IterR false P gf lb M (fun y _ vs => vs = enc y) xs :=
  fun l J Jx M1 L hM _ hJ h0 => h l J Jx M1 L hM (fun pre y M2 L2 a b c => hJ pre y M2 L2 _ a b c rfl) h0

/-- yield's arguments in the parameters' places -/
def zipFr : List Nat → List Value → Fr → Fr
  | p :: ps, v :: vs, F => zipFr ps vs ((p, v) :: F)
  | _, _, F => F
theorem Has.zip {n : Nat} {r : Option Nat} : ∀ (ps : List Nat) (vs : List Value) (F : Fr) (t : Array Value), (∀ p ∈ ps, p < n) → Has ⟨n, [], r⟩ F { tmps := t, defers := [] } →
    Has ⟨n, [], r⟩ (zipFr ps vs F) { tmps := (ps.zip vs).foldl (fun t (p, v) => t.setIfInBounds p v) t, defers := [] }
  | [], _, _, _, _, h => h
  | _ :: _, [], _, _, _, h => h
  | p :: ps, v :: vs, F, t, hp, h => Has.zip ps vs ((p, v) :: F) _ (fun q hq => hp q (by simp [hq])) (h.put (d := p) (hp p (by simp)) v)

def roundQ {α : Type} (E : Ent) (I : List α → Mem → Lc → Prop) (Ix : Code → List α → Mem → Lc → Prop) (pre : List α) : Exit → Act → World → Prop
  | .normal, _, w => ∃ M' R', I pre M' R' ∧ St E M' R' w
  | .ret, _, w => ∃ M' R', Ix .ret pre M' R' ∧ St E M' R' w
  | .exit id, _, w => ∃ M' R', Ix (.exit id) pre M' R' ∧ St E M' R' w
  | .goto t, _, w => ∃ M' R', Ix (.goto t) pre M' R' ∧ St E M' R' w
  | .panic _, _, _ => False
  | .outgrown, _, _ => False
/-- behind the assignment to the loop's variables the body begins -/
def roundK {α : Type} (P : Program) (n l : Nat) (body : Code) (W : World) (X : List Nat) (M1 : Mem) (I : List α → Mem → Lc → Prop) (Ix : Code → List α → Mem → Lc → Prop) (pre : List α) (a : Act) (w : World) : Prop :=
  ∃ F' M' R', Has ⟨n, [], some l⟩ F' a ∧ St ⟨W, X, M1⟩ M' R' w ∧ ∀ W', W'.heap.size = W.heap.size → JC P ⟨n, [], some l⟩ body F' ⟨W', X, M1⟩ M' R' (roundQ ⟨W', X, M1⟩ I Ix pre)
theorem jKN {α : Type} {P : Program} {n l : Nat} {body : Code} {W : World} {X : List Nat} {M1 M : Mem} {I : List α → Mem → Lc → Prop} {Ix : Code → List α → Mem → Lc → Prop} {pre : List α} {F : Fr} {R : Lc} {Q : Exit → Act → World → Prop}
    (h : ∀ W', W'.heap.size = W.heap.size → JC P ⟨n, [], some l⟩ body F ⟨W', X, M1⟩ M R (roundQ ⟨W', X, M1⟩ I Ix pre)) : JQ ⟨n, [], some l⟩ .normal F ⟨W, X, M1⟩ M R (Exit.then (roundK P n l body W X M1 I Ix pre) Q) :=
  fun _ _ ha hw => ⟨F, M, R, ha, hw, h⟩
theorem jK {α : Type} {P : Program} {n l : Nat} {body : Code} {W : World} {X : List Nat} {M1 M : Mem} {I : List α → Mem → Lc → Prop} {Ix : Code → List α → Mem → Lc → Prop} {pre : List α} {F : Fr} {R : Lc} {Q : Exit → Act → World → Prop}
    (h : ∀ W', JC P ⟨n, [], some l⟩ body F ⟨W', X, M1⟩ M R (roundQ ⟨W', X, M1⟩ I Ix pre)) : JQ ⟨n, [], some l⟩ .normal F ⟨W, X, M1⟩ M R (Exit.then (roundK P n l body W X M1 I Ix pre) Q) :=
  fun _ _ ha hw => ⟨F, M, R, ha, hw, fun W' _ => h W'⟩
theorem jQn {α : Type} {N : Fs} {E : Ent} {I : List α → Mem → Lc → Prop} {Ix : Code → List α → Mem → Lc → Prop} {pre : List α} {F : Fr} {M : Mem} {R : Lc} (h : I pre M R) : JQ N .normal F E M R (roundQ E I Ix pre) := fun _ _ _ hw => ⟨M, R, h, hw⟩
theorem jQr {α : Type} {N : Fs} {E : Ent} {I : List α → Mem → Lc → Prop} {Ix : Code → List α → Mem → Lc → Prop} {pre : List α} {F : Fr} {M : Mem} {R : Lc} (h : Ix .ret pre M R) : JQ N .ret F E M R (roundQ E I Ix pre) := fun _ _ _ hw => ⟨M, R, h, hw⟩
theorem jQx {α : Type} {N : Fs} {E : Ent} {I : List α → Mem → Lc → Prop} {Ix : Code → List α → Mem → Lc → Prop} {pre : List α} {F : Fr} {M : Mem} {R : Lc} {id : Nat} (h : Ix (.exit id) pre M R) : JQ N (.exit id) F E M R (roundQ E I Ix pre) := fun _ _ _ hw => ⟨M, R, h, hw⟩

theorem St.both {W : World} {X : List Nat} {M0 M : Mem} {R : Lc} {w : World} {l : Nat} (o : Obj) (h : St ⟨W, X, M0⟩ M R w) (hl : l < W.heap.size) (hx : l ∉ X) (hm : M0 l = none) : St ⟨W.putObj l o, X, M0⟩ M R (w.putObj l o) := by
  have hml : M l = none := (h.fresh l hl).trans hm
  refine { os := h.os, tape := h.tape, output := h.output, size := by simpa using h.size, same := fun k hk hkx => ?_, fresh := fun k hk => h.fresh k (by simpa using hk), agree := fun b x hb => ?_, locs := fun p hp => ?_, nodup := h.nodup }
  · by_cases e : k = l
    · subst e; rw [World.putObj_heap_same (Nat.lt_of_lt_of_le hl h.size), World.putObj_heap_same hl]
    · rw [World.putObj_heap_other e, World.putObj_heap_other e]; exact h.same k (by simpa using hk) hkx
  · have e : b ≠ l := fun e => by subst e; rw [hml] at hb; cases hb
    rw [World.putObj_heap_other e]; exact h.agree b x hb
  · obtain ⟨h1, h2, h3⟩ := h.locs p hp
    have e : p.1 ≠ l := fun e => h2.elim (fun h2 => by rw [e] at h2; exact absurd hl (Nat.not_lt.2 h2)) (fun h2 => hx (e ▸ h2))
    exact ⟨by rw [World.putObj_heap_other e]; exact h1, by simpa using h2, h3⟩
theorem St.close {W : World} {X : List Nat} {M0 M : Mem} {R : Lc} {w : World} {l d : Nat} {o o2 od : Obj} (h : St ⟨W.putObj l o, X, M0⟩ M R w) (hl : l < W.heap.size) (hd : W.heap[d]? = some od) (hld : l ≠ d) (hlx : l ∉ X) (hdx : d ∉ X) (hml : M0 l = none) (hmd : M0 d = none) :
    St ⟨W, l :: d :: X, M0⟩ M ((l, o2) :: (d, od) :: R) (w.putObj l o2) := by
  have hs : W.heap.size ≤ w.heap.size := by simpa using h.size
  have hdl : d < W.heap.size := heap_lt hd
  have h1 : M l = none := (h.fresh l (by simpa using hl)).trans hml
  have h2 : M d = none := (h.fresh d (by simpa using hdl)).trans hmd
  have hp : ∀ p ∈ R, W.heap.size ≤ p.1 ∨ p.1 ∈ X := fun p hp => by simpa using (h.locs p hp).2.1
  have hpl : ∀ p ∈ R, p.1 ≠ l := fun p hq e => (hp p hq).elim (fun h => by omega) (fun h => hlx (e ▸ h))
  have hpd : ∀ p ∈ R, p.1 ≠ d := fun p hq e => (hp p hq).elim (fun h => by omega) (fun h => hdx (e ▸ h))
  refine { os := h.os, tape := h.tape, output := h.output, size := by simpa using hs, same := fun k hk hkx => ?_, fresh := fun k hk => h.fresh k (by simpa using hk), agree := fun b x hb => ?_, locs := fun p hq => ?_, nodup := ?_ }
  · simp only [List.mem_cons, not_or] at hkx
    rw [World.putObj_heap_other hkx.1, h.same k (by simpa using hk) hkx.2.2, World.putObj_heap_other hkx.1]
  · have e : b ≠ l := fun e => by subst e; rw [h1] at hb; cases hb
    rw [World.putObj_heap_other e]; exact h.agree b x hb
  · rcases List.mem_cons.1 hq with rfl | hq
    · exact ⟨World.putObj_heap_same (by omega), .inr (by simp), h1⟩
    rcases List.mem_cons.1 hq with rfl | hq
    · refine ⟨?_, .inr (by simp), h2⟩
      show (w.putObj l o2).heap[d]? = _
      rw [World.putObj_heap_other (Ne.symm hld), h.same d (by simpa using hdl) hdx, World.putObj_heap_other (Ne.symm hld)]; exact hd
    · refine ⟨by rw [World.putObj_heap_other (hpl p hq)]; exact (h.locs p hq).1, (hp p hq).imp id (fun h => by simp [h]), (h.locs p hq).2.2⟩
  · simp only [List.map_cons, List.nodup_cons, List.mem_cons, List.mem_map, not_or]
    exact ⟨⟨hld, fun ⟨p, hq, e⟩ => hpl p hq e⟩, fun ⟨p, hq, e⟩ => hpd p hq e, h.nodup⟩

theorem jc_rangeRN {α : Type} {b : Bool} {P : Program} {n : Nat} {D : List Nat} {F : Fr} {E : Ent} {M : Mem} {L R L2 : Lc} {Q : Exit → Act → World → Prop} {g : Operand} {ps : List Nat} {assign body : Code} {gf : FuncId} {lb : List Value} {En : α → Mem → List Value → Prop} {xs : List α}
    (hg : ev F g = some (.func (.func gf) #[] lb.toArray)) (hgo : isGo P gf = true) (hit : IterR b P gf lb M En xs) [hp : Pick R L L2]
    (I : List α → Mem → Lc → Prop) (Ix : Code → List α → Mem → Lc → Prop) (hlen : ∀ y M' vs, En y M' vs → vs.length = ps.length) (hps : ∀ t ∈ ps, t < n) (h0 : I [] M R) (hIm : b = true → ∀ pre M2 M3 R, MLe M2 M3 → I pre M2 R → I pre M3 R)
    (hround : ∀ l W pre y M1 R1 vs, (∀ x ∈ R1.map (·.1), x < W.heap.size) → MLe M M1 → I pre M1 R1 → pre ++ [y] <+: xs → En y M1 vs →
      JC P ⟨n, [], some l⟩ assign (zipFr ps vs F) ⟨W, R1.map (·.1), M1⟩ M1 R1 (Exit.then (roundK P n l body W (R1.map (·.1)) M1 I Ix (pre ++ [y])) (fun _ _ _ => False)))
    (hdone : ∀ d M1 R1, MLe M M1 → I xs M1 R1 → JQ ⟨n, d :: D, none⟩ .normal F E M1 ((d, .deferred (some [])) :: (R1 ++ L2)) Q)
    (hstop : ∀ d c pre M1 R1, MLe M M1 → pre <+: xs → Ix c pre M1 R1 → JC P ⟨n, d :: D, none⟩ c F E M1 ((d, .deferred (some [])) :: (R1 ++ L2)) Q) :
    JC P ⟨n, D, none⟩ (.rangeFunc g ps.toArray assign body) F E M L Q := by
  intro a w ha hw
  refine wpIn_rangeFunc (F := FF none) fun fn _ => ?_
  obtain ⟨rec, hrec⟩ : ∃ rec : LoopState → Option Code → Loop, rec = fun st pe => { state := st, pending := pe, fn, tmps := a.tmps, params := ps.toArray, assign, body, defers := w.heap.size } := ⟨_, rfl⟩
  have hw0 := hw.perm hp.perm
  have hwd := hw0.alloc (.deferred (some []))
  have hwl := hwd.alloc (.loop (rec .ready none))
  rw [World.size_alloc] at hwl
  generalize hd : w.heap.size = d at *
  generalize hl : d + 1 = l at *
  generalize hW1 : (w.alloc (.deferred (some []))).alloc (.loop (rec .ready none)) = W1 at *
  let yv : Value := .func (.yield l) #[] #[]
  let J : List α → Mem → Lc → Prop := fun pre M' L' => ∃ R', L' = (l, .loop (rec .ready none)) :: (d, .deferred (some [])) :: R' ∧ MLe M M' ∧ I pre M' R'
  let Jx : List α → Mem → Lc → Prop := fun pre M' L' => ∃ c R', L' = (l, .loop (rec .done (some c))) :: (d, .deferred (some [])) :: R' ∧ Ix c pre M' R'
  have hld : l ≠ d := by omega
  have hround' : ∀ pre y M2 L2' vs, MLe M M2 → J pre M2 L2' → pre ++ [y] <+: xs → En y M2 vs → RoundL P l vs.toArray M2 L2' fun v M' L' => (v = .bool true ∧ J (pre ++ [y]) M' L') ∨ (v = .bool false ∧ Jx (pre ++ [y]) M' L') := by
    rintro pre y M2 L2' vs hM2 ⟨R2, rfl, hMM, hI⟩ hpre hE W hW
    have hlW := hW.locs (l, .loop (rec .ready none)) (by simp)
    have hdW := hW.locs (d, .deferred (some [])) (by simp)
    have hnd := hW.nodup
    simp only [List.map_cons, List.nodup_cons, List.mem_cons, not_or] at hnd
    obtain ⟨⟨_, hlR⟩, hdR, _⟩ := hnd
    have hy := run_yield (P := P) (args := vs.toArray) hlW.1 (by rw [hrec]; simp [hlen _ _ _ hE])
    rw [hrec] at hy
    have hin : St ⟨W, R2.map (·.1), M2⟩ M2 R2 W := (hW.perm (L' := R2 ++ [(l, .loop (rec .ready none)), (d, .deferred (some []))]) (List.perm_append_comm (l₁ := [_, _]))).into
    have hhas : Has ⟨n, [], some l⟩ F { tmps := a.tmps, defers := [] } := ⟨ha.size, rfl, ha.get⟩
    have hz := Has.zip ps vs F a.tmps hps hhas
    refine ⟨fn, _, assign, body, hy, roundIn_of_wpIn trivial ?_⟩
    have h1 := hround l W pre y M2 R2 vs (fun x hx => by obtain ⟨p, hp, rfl⟩ := List.mem_map.1 hx; exact heap_lt (hin.locs p hp).1) hMM hI hpre hE _ W hz hin
    rw [show (ps.toArray.zip vs.toArray).foldl (fun (t : Array Value) (x : Nat × Value) => t.setIfInBounds x.1 x.2) a.tmps = (ps.zip vs).foldl (fun t (p, v) => t.setIfInBounds p v) a.tmps by simp]
    refine wpIn_mono h1 fun e a₁ w₁ hq => ?_
    cases e with
    | normal =>
      obtain ⟨F', M', R', hF', hSt, hbody⟩ := hq
      have hl1 : w₁.heap[l]? = some (.loop (rec .ready none)) := (hSt.same l (heap_lt hlW.1) hlR).trans hlW.1
      refine ⟨_, run_beginRound hl1 (by rw [hrec]), ?_⟩
      have hSt2 := hSt.both (.loop { rec .ready none with state := .busy }) (heap_lt hlW.1) hlR hlW.2.2
      refine wpIn_mono (hbody _ (by simp) a₁ _ hF' hSt2) fun e a₂ w₃ hq => ?_
      have fin : ∀ (jump : Option Code) (M3 : Mem) (R3 : Lc), St ⟨W.putObj l (.loop { rec .ready none with state := .busy }), R2.map (·.1), M2⟩ M3 R3 w₃ →
          ∃ w₄, (Instr.endRound l jump).run P w₃ = .ok (.bool jump.isNone) w₄ ∧ St ⟨W, l :: d :: R2.map (·.1), M2⟩ M3 ((l, .loop (rec (if jump.isNone then .ready else .done) jump)) :: (d, .deferred (some [])) :: R3) w₄ := fun jump M3 R3 h3 => by
        have hl3 : w₃.heap[l]? = some (.loop { rec .ready none with state := .busy }) := (h3.same l (by simpa using heap_lt hlW.1) hlR).trans (World.putObj_heap_same (heap_lt hlW.1))
        have he := run_endRound (P := P) jump hl3
        refine ⟨_, he, ?_⟩
        have := h3.close (o2 := .loop (rec (if jump.isNone then .ready else .done) jump)) (heap_lt hlW.1) hdW.1 hld hlR hdR hlW.2.2 hdW.2.2
        rw [hrec] at this ⊢
        exact this
      have hMM2 : ∀ {M3 R3}, St ⟨W.putObj l (.loop { rec .ready none with state := .busy }), R2.map (·.1), M2⟩ M3 R3 w₃ → MLe M M3 := fun h3 b ob hb => by
        have hb2 := hMM b ob hb
        have := heap_lt (hW.agree b ob hb2)
        rw [h3.fresh b (by simpa using this)]; exact hb2
      cases e with
      | normal =>
        obtain ⟨M3, R3, hI3, h3⟩ := hq
        obtain ⟨w₄, he, h4⟩ := fin none M3 R3 h3
        exact ⟨_, w₄, he, _, M3, _, rfl, .inl ⟨rfl, R3, rfl, hMM2 h3, hI3⟩, h4⟩
      | ret =>
        obtain ⟨M3, R3, hI3, h3⟩ := hq
        obtain ⟨w₄, he, h4⟩ := fin (some .ret) M3 R3 h3
        exact ⟨_, w₄, he, _, M3, _, rfl, .inr ⟨rfl, _, R3, rfl, hI3⟩, h4⟩
      | exit id =>
        obtain ⟨M3, R3, hI3, h3⟩ := hq
        obtain ⟨w₄, he, h4⟩ := fin (some (.exit id)) M3 R3 h3
        exact ⟨_, w₄, he, _, M3, _, rfl, .inr ⟨rfl, _, R3, rfl, hI3⟩, h4⟩
      | goto t =>
        obtain ⟨M3, R3, hI3, h3⟩ := hq
        obtain ⟨w₄, he, h4⟩ := fin (some (.goto t)) M3 R3 h3
        exact ⟨_, w₄, he, _, M3, _, rfl, .inr ⟨rfl, _, R3, rfl, hI3⟩, h4⟩
      | panic ch => exact hq.elim
      | outgrown => exact hq.elim
    | exit id => exact hq.elim
    | goto t => exact hq.elim
    | ret => exact hq.elim
    | panic ch => exact hq.elim
    | outgrown => exact hq.elim
  have hspec := hit l J Jx M ((l, .loop (rec .ready none)) :: (d, .deferred (some [])) :: R) (MLe.refl _) (fun hb pre M2 M3 L2 hM23 ⟨R', e1, e2, e3⟩ => ⟨R', e1, e2.trans hM23, hIm hb _ _ _ _ hM23 e3⟩) hround' ⟨R, rfl, MLe.refl _, h0⟩
  have hwl' : St E M (((l, .loop (rec .ready none)) :: (d, .deferred (some [])) :: R) ++ L2) W1 := hwl
  have hac : Has ⟨n, d :: D, none⟩ F { a with defers := mark d :: a.defers } := ⟨ha.size, by rw [ha.defers]; rfl, ha.get⟩
  refine ⟨l, [mark d], W1, { target := .fn (.func gf) lb.toArray, args := #[yv] }, W1, gf, (yv :: lb).toArray, W1, ?_, ?_, fun _ _ => trivial, ?_, wide_depth _ _, ?_⟩
  · rw [← hW1, hrec, ← hl, ← hd]; exact run_enterLoop_outer _ _ _ _ _
  · have := ha.ev hg
    simp only [resolve, this]
    simp [go_sem, yv]
  · simp [invoke, run_callFunc hgo, yv]
  · refine calls_in none _ ((hspec W1 hwl'.into).mono fun e w' hh => ?_)
    obtain ⟨v, M', L', rfl, hpost, hSt⟩ := hh
    obtain ⟨hb, hMM⟩ := hwl'.back hSt
    rcases hpost with ⟨R', rfl, _, hI⟩ | ⟨pre, hpre, c, R', rfl, hIx⟩
    · have hl1 := (hb.locs (l, .loop (rec .ready none)) (by simp)).1
      refine ⟨none, _, by have := run_endLoop (P := P) hl1 (by rw [hrec]; simp); rw [hrec] at this; exact this, ?_⟩
      exact hdone d M' R' hMM hI _ _ hac hb.shut
    · have hl1 := (hb.locs (l, .loop (rec .done (some c))) (by simp)).1
      refine ⟨some c, _, by have := run_endLoop (P := P) hl1 (by rw [hrec]; simp); rw [hrec] at this; exact this, ?_⟩
      exact hstop d c pre M' R' hMM hpre hIx _ _ hac hb.shut
theorem jc_rangeR {α : Type} {b : Bool} {P : Program} {n : Nat} {D : List Nat} {F : Fr} {E : Ent} {M : Mem} {L R L2 : Lc} {Q : Exit → Act → World → Prop} {g : Operand} {ps : List Nat} {assign body : Code} {gf : FuncId} {lb : List Value} {En : α → Mem → List Value → Prop} {xs : List α}
    (hg : ev F g = some (.func (.func gf) #[] lb.toArray)) (hgo : isGo P gf = true) (hit : IterR b P gf lb M En xs) [hp : Pick R L L2]
    (I : List α → Mem → Lc → Prop) (Ix : Code → List α → Mem → Lc → Prop) (hlen : ∀ y M' vs, En y M' vs → vs.length = ps.length) (hps : ∀ t ∈ ps, t < n) (h0 : I [] M R) (hIm : b = true → ∀ pre M2 M3 R, MLe M2 M3 → I pre M2 R → I pre M3 R)
    (hround : ∀ l W pre y M1 R1 vs, MLe M M1 → I pre M1 R1 → pre ++ [y] <+: xs → En y M1 vs →
      JC P ⟨n, [], some l⟩ assign (zipFr ps vs F) ⟨W, R1.map (·.1), M1⟩ M1 R1 (Exit.then (roundK P n l body W (R1.map (·.1)) M1 I Ix (pre ++ [y])) (fun _ _ _ => False)))
    (hdone : ∀ d M1 R1, MLe M M1 → I xs M1 R1 → JQ ⟨n, d :: D, none⟩ .normal F E M1 ((d, .deferred (some [])) :: (R1 ++ L2)) Q)
    (hstop : ∀ d c pre M1 R1, MLe M M1 → pre <+: xs → Ix c pre M1 R1 → JC P ⟨n, d :: D, none⟩ c F E M1 ((d, .deferred (some [])) :: (R1 ++ L2)) Q) :
    JC P ⟨n, D, none⟩ (.rangeFunc g ps.toArray assign body) F E M L Q :=
  jc_rangeRN hg hgo hit I Ix hlen hps h0 hIm (fun l W pre y M1 R1 vs _ => hround l W pre y M1 R1 vs) hdone hstop
theorem jc_rangeN {α : Type} {P : Program} {n : Nat} {D : List Nat} {F : Fr} {E : Ent} {M : Mem} {L R L2 : Lc} {Q : Exit → Act → World → Prop} {g : Operand} {ps : List Nat} {assign body : Code} {gf : FuncId} {lb : List Value} {enc : α → List Value} {xs : List α}
    (hg : ev F g = some (.func (.func gf) #[] lb.toArray)) (hgo : isGo P gf = true) (hit : Iter P gf lb M enc xs) [hp : Pick R L L2]
    (I : List α → Mem → Lc → Prop) (Ix : Code → List α → Mem → Lc → Prop) (hlen : ∀ y, (enc y).length = ps.length) (hps : ∀ t ∈ ps, t < n) (h0 : I [] M R)
    (hround : ∀ l W pre y M1 R1, (∀ x ∈ R1.map (·.1), x < W.heap.size) → MLe M M1 → I pre M1 R1 → pre ++ [y] <+: xs →
      JC P ⟨n, [], some l⟩ assign (zipFr ps (enc y) F) ⟨W, R1.map (·.1), M1⟩ M1 R1 (Exit.then (roundK P n l body W (R1.map (·.1)) M1 I Ix (pre ++ [y])) (fun _ _ _ => False)))
    (hdone : ∀ d M1 R1, MLe M M1 → I xs M1 R1 → JQ ⟨n, d :: D, none⟩ .normal F E M1 ((d, .deferred (some [])) :: (R1 ++ L2)) Q)
    (hstop : ∀ d c pre M1 R1, MLe M M1 → pre <+: xs → Ix c pre M1 R1 → JC P ⟨n, d :: D, none⟩ c F E M1 ((d, .deferred (some [])) :: (R1 ++ L2)) Q) :
    JC P ⟨n, D, none⟩ (.rangeFunc g ps.toArray assign body) F E M L Q := by
  exact jc_rangeRN (En := fun y _ vs => vs = enc y) hg hgo hit.rel I Ix (fun y _ vs h => by rw [h]; exact hlen y) hps h0 (fun h => by cases h) (fun l W pre y M1 R1 vs hx a b c e => by rw [e]; exact hround l W pre y M1 R1 hx a b c) hdone hstop
theorem jc_range {α : Type} {P : Program} {n : Nat} {D : List Nat} {F : Fr} {E : Ent} {M : Mem} {L R L2 : Lc} {Q : Exit → Act → World → Prop} {g : Operand} {ps : List Nat} {assign body : Code} {gf : FuncId} {lb : List Value} {enc : α → List Value} {xs : List α}
    (hg : ev F g = some (.func (.func gf) #[] lb.toArray)) (hgo : isGo P gf = true) (hit : Iter P gf lb M enc xs) [hp : Pick R L L2]
    (I : List α → Mem → Lc → Prop) (Ix : Code → List α → Mem → Lc → Prop) (hlen : ∀ y, (enc y).length = ps.length) (hps : ∀ t ∈ ps, t < n) (h0 : I [] M R)
    (hround : ∀ l W pre y M1 R1, MLe M M1 → I pre M1 R1 → pre ++ [y] <+: xs →
      JC P ⟨n, [], some l⟩ assign (zipFr ps (enc y) F) ⟨W, R1.map (·.1), M1⟩ M1 R1 (Exit.then (roundK P n l body W (R1.map (·.1)) M1 I Ix (pre ++ [y])) (fun _ _ _ => False)))
    (hdone : ∀ d M1 R1, MLe M M1 → I xs M1 R1 → JQ ⟨n, d :: D, none⟩ .normal F E M1 ((d, .deferred (some [])) :: (R1 ++ L2)) Q)
    (hstop : ∀ d c pre M1 R1, MLe M M1 → pre <+: xs → Ix c pre M1 R1 → JC P ⟨n, d :: D, none⟩ c F E M1 ((d, .deferred (some [])) :: (R1 ++ L2)) Q) :
    JC P ⟨n, D, none⟩ (.rangeFunc g ps.toArray assign body) F E M L Q := by
  exact jc_rangeR (En := fun y _ vs => vs = enc y) hg hgo hit.rel I Ix (fun y _ vs h => by rw [h]; exact hlen y) hps h0 (fun h => by cases h) (fun l W pre y M1 R1 vs a b c e => by rw [e]; exact hround l W pre y M1 R1 a b c) hdone hstop
end Go.Proofs.YtdjaehgadehnfaaGreatDoor
