/- THE WALKING LAYER: what is new; blocks of one's own that are lent. No statement of the seat is proved here. -/
import Derived.Test.YtkcpllhggofloaaGreatZLaw
import Derived.Scope
import Derived.Laws.BitsLemmas
namespace Go.Proofs.YtkcpllhggofloaaGreat
set_option linter.unusedSimpArgs false
set_option linter.unusedVariables false
set_option linter.unusedSectionVars false
open Go.RowKit
def RoundL (P : Program) (l : Nat) (args : Array Value) (M : Mem) (L : Lc) (post : Value → Mem → Lc → Prop) : Prop :=
 ∀ w, St ⟨w, L.map (·.1), M⟩ M L w → YieldAt Fence.wide 0 P l args w fun e w' => ∃ v M' L', e = .returned v ∧ post v M' L' ∧ St ⟨w, L.map (·.1), M⟩ M' L' w'
theorem RoundL.mono {P : Program} {l : Nat} {args : Array Value} {M : Mem} {L : Lc} {post post' : Value → Mem → Lc → Prop} (h : RoundL P l args M L post) (hp : ∀ v M' L', post v M' L' → post' v M' L') : RoundL P l args M L post' := fun w hw => by
 obtain ⟨fn, t, a, b, h1, h2⟩ := h w hw
 exact ⟨fn, t, a, b, h1, h2.mono fun _ _ ⟨v, M', L', x, y, z⟩ => ⟨v, M', L', x, hp _ _ _ y, z⟩⟩
section
variable {P : Program} {ops : Array Oper} {N : Fs} {F : Fr} {E : Ent} {M : Mem} {L : Lc} {o : Oper}
theorem run_yieldOp {x : Operand} {xs : List Operand} {T : Array TypeId} {l : Nat} {vs : List Value} {a : Act} (ho : o.op = .call { callee := .value x, args := xs.toArray, argTypes := T }) (ha : Has N F a) (hx : ev F x = some (.func (.yield l) #[] #[])) (hv : evs F xs = some vs)
  (w : World) : (execOp a.eval o).run P w = (Instr.yield l vs.toArray).run P w := by
 have h1 := ha.evs hv
 have h2 : xs.toArray.map a.eval = vs.toArray := by rw [← h1]; simp
 simp [execOp, ho, resolve, h2, ha.ev hx, Deferred.ofValue, invoke]
theorem hYield {x : Operand} {xs : List Operand} {T : Array TypeId} {l : Nat} {vs : List Value} {R L2 : Lc} {post : Value → Mem → Lc → Prop} (hg : gd ops F o = some true)
  (ho : o.op = .call { callee := .value x, args := xs.toArray, argTypes := T }) (hx : ev F x = some (.func (.yield l) #[] #[])) (hv : evs F xs = some vs)
  (hs : RoundL P l vs.toArray M R post) [hp : Pick R L L2] : HF P ops N F E M L o (fun v M' L' => MLe M M' ∧ ∃ R', L' = R' ++ L2 ∧ post v M' R') := fun a w ha hw =>
 ⟨gd_spec ha hg, fun Q => by
  have hw' := hw.perm hp.perm
  refine ⟨fun _ _ => trivial, ?_⟩
  obtain ⟨fn, t, asg, bd, h1, h2⟩ := hs w hw'.into
  rw [Oper.semAt_eq _ _ _ (fun c hc => by rw [ho] at hc; cases hc), run_yieldOp ho ha hx hv w, h1]
  refine ⟨wJq _ _, ?_⟩
  have h3 : RoundIn (FF N.r) (0 - 1) P l fn t asg bd w _ := h2
  refine h3.mono fun e w' hh => ?_
  obtain ⟨v, M', R', rfl, hpost, h⟩ := hh
  obtain ⟨k1, k2⟩ := hw'.back h
  exact ⟨v, M', R' ++ L2, rfl, k1, k2, R', rfl, hpost⟩⟩
end
def Iter (P : Program) (gf : FuncId) (lb : List Value) (M : Mem) {α : Type} (enc : α → List Value) (xs : List α) : Prop :=
 ∀ (l : Nat) (J Jx : List α → Mem → Lc → Prop) (M1 : Mem) (L : Lc), MLe M M1 →
  (∀ pre y M2 L2, MLe M1 M2 → J pre M2 L2 → pre ++ [y] <+: xs → RoundL P l (enc y).toArray M2 L2 fun v M' L' => (v = .bool true ∧ J (pre ++ [y]) M' L') ∨ (v = .bool false ∧ Jx (pre ++ [y]) M' L')) →
  J [] M1 L → SpecL P gf (.func (.yield l) #[] #[] :: lb).toArray M1 L fun _ M' L' => J xs M' L' ∨ ∃ pre, pre <+: xs ∧ Jx pre M' L'
theorem Iter.mono {P : Program} {gf : FuncId} {lb : List Value} {M M' : Mem} {α : Type} {enc : α → List Value} {xs : List α} (h : Iter P gf lb M enc xs) (hM : MLe M M') : Iter P gf lb M' enc xs :=
 fun l J Jx M1 L h1 => h l J Jx M1 L (hM.trans h1)
def IterR (b : Bool) (P : Program) (gf : FuncId) (lb : List Value) (M : Mem) {α : Type} (En : α → Mem → List Value → Prop) (xs : List α) : Prop :=
 ∀ (l : Nat) (J Jx : List α → Mem → Lc → Prop) (M1 : Mem) (L : Lc), MLe M M1 → (b = true → ∀ pre M2 M3 L2, MLe M2 M3 → J pre M2 L2 → J pre M3 L2) →
  (∀ pre y M2 L2 vs, MLe M1 M2 → J pre M2 L2 → pre ++ [y] <+: xs → En y M2 vs → RoundL P l vs.toArray M2 L2 fun v M' L' => (v = .bool true ∧ J (pre ++ [y]) M' L') ∨ (v = .bool false ∧ Jx (pre ++ [y]) M' L')) →
  J [] M1 L → SpecL P gf (.func (.yield l) #[] #[] :: lb).toArray M1 L fun _ M' L' => J xs M' L' ∨ ∃ pre, pre <+: xs ∧ Jx pre M' L'
theorem Iter.rel {P : Program} {gf : FuncId} {lb : List Value} {M : Mem} {α : Type} {enc : α → List Value} {xs : List α} (h : Iter P gf lb M enc xs) : IterR false P gf lb M (fun y _ vs => vs = enc y) xs :=
 fun l J Jx M1 L hM _ hJ h0 => h l J Jx M1 L hM (fun pre y M2 L2 a b c => hJ pre y M2 L2 _ a b c rfl) h0
def zipFr : List Nat → List Value → Fr → Fr
 | p :: ps, v :: vs, F => zipFr ps vs ((p, v) :: F)
 | _, _, F => F
theorem Has.zip {n : Nat} {r : Option Nat} : ∀ (ps : List Nat) (vs : List Value) (F : Fr) (t : Array Value), (∀ p ∈ ps, p < n) → Has ⟨n, [], r⟩ F { tmps := t, defers := [] } →
  Has ⟨n, [], r⟩ (zipFr ps vs F) { tmps := (ps.zip vs).foldl (fun t (p, v) => t.setIfInBounds p v) t, defers := [] }
 | [], _, _, _, _, h => h
 | _ :: _, [], _, _, _, h => h
 | p :: ps, v :: vs, F, t, hp, h => Has.zip ps vs ((p, v) :: F) _ (fun q hq => hp q (by simp [hq])) (h.put (d := p) (hp p (by simp)) v)
def roundQ {α : Type} (E : Ent) (I : List α → Mem → Lc → Prop) (Ix : Code → List α → Mem → Lc → Prop) (pre : List α) : Exit → Act → World → Prop
 | .normal, _, w => ∃ M' R', I pre M' R' ∧ St E M' R' w
 | .ret, _, w => ∃ M' R', Ix .ret pre M' R' ∧ St E M' R' w
 | .exit id, _, w => ∃ M' R', Ix (.exit id) pre M' R' ∧ St E M' R' w
 | .goto t, _, w => ∃ M' R', Ix (.goto t) pre M' R' ∧ St E M' R' w
 | .panic _, _, _ => False
 | .outgrown, _, _ => False
def roundK {α : Type} (P : Program) (n l : Nat) (body : Code) (W : World) (X : List Nat) (M1 : Mem) (I : List α → Mem → Lc → Prop) (Ix : Code → List α → Mem → Lc → Prop) (pre : List α) (a : Act) (w : World) : Prop :=
 ∃ F' M' R', Has ⟨n, [], some l⟩ F' a ∧ St ⟨W, X, M1⟩ M' R' w ∧ ∀ W', W'.heap.size = W.heap.size → JC P ⟨n, [], some l⟩ body F' ⟨W', X, M1⟩ M' R' (roundQ ⟨W', X, M1⟩ I Ix pre)
theorem jKN {α : Type} {P : Program} {n l : Nat} {body : Code} {W : World} {X : List Nat} {M1 M : Mem} {I : List α → Mem → Lc → Prop} {Ix : Code → List α → Mem → Lc → Prop} {pre : List α} {F : Fr} {R : Lc} {Q : Exit → Act → World → Prop}
  (h : ∀ W', W'.heap.size = W.heap.size → JC P ⟨n, [], some l⟩ body F ⟨W', X, M1⟩ M R (roundQ ⟨W', X, M1⟩ I Ix pre)) : JQ ⟨n, [], some l⟩ .normal F ⟨W, X, M1⟩ M R (Exit.then (roundK P n l body W X M1 I Ix pre) Q) :=
 fun _ _ ha hw => ⟨F, M, R, ha, hw, h⟩
theorem jK {α : Type} {P : Program} {n l : Nat} {body : Code} {W : World} {X : List Nat} {M1 M : Mem} {I : List α → Mem → Lc → Prop} {Ix : Code → List α → Mem → Lc → Prop} {pre : List α} {F : Fr} {R : Lc} {Q : Exit → Act → World → Prop}
  (h : ∀ W', JC P ⟨n, [], some l⟩ body F ⟨W', X, M1⟩ M R (roundQ ⟨W', X, M1⟩ I Ix pre)) : JQ ⟨n, [], some l⟩ .normal F ⟨W, X, M1⟩ M R (Exit.then (roundK P n l body W X M1 I Ix pre) Q) :=
 fun _ _ ha hw => ⟨F, M, R, ha, hw, fun W' _ => h W'⟩
theorem jQn {α : Type} {N : Fs} {E : Ent} {I : List α → Mem → Lc → Prop} {Ix : Code → List α → Mem → Lc → Prop} {pre : List α} {F : Fr} {M : Mem} {R : Lc} (h : I pre M R) : JQ N .normal F E M R (roundQ E I Ix pre) := fun _ _ _ hw => ⟨M, R, h, hw⟩
theorem jQr {α : Type} {N : Fs} {E : Ent} {I : List α → Mem → Lc → Prop} {Ix : Code → List α → Mem → Lc → Prop} {pre : List α} {F : Fr} {M : Mem} {R : Lc} (h : Ix .ret pre M R) : JQ N .ret F E M R (roundQ E I Ix pre) := fun _ _ _ hw => ⟨M, R, h, hw⟩
theorem jQx {α : Type} {N : Fs} {E : Ent} {I : List α → Mem → Lc → Prop} {Ix : Code → List α → Mem → Lc → Prop} {pre : List α} {F : Fr} {M : Mem} {R : Lc} {id : Nat} (h : Ix (.exit id) pre M R) : JQ N (.exit id) F E M R (roundQ E I Ix pre) := fun _ _ _ hw => ⟨M, R, h, hw⟩
theorem St.both {W : World} {X : List Nat} {M0 M : Mem} {R : Lc} {w : World} {l : Nat} (o : Obj) (h : St ⟨W, X, M0⟩ M R w) (hl : l < W.heap.size) (hx : l ∉ X) (hm : M0 l = none) : St ⟨W.putObj l o, X, M0⟩ M R (w.putObj l o) := by
 have hml : M l = none := (h.fresh l hl).trans hm
 refine { os := h.os, tape := h.tape, output := h.output, size := by simpa using h.size, same := fun k hk hkx => ?_, fresh := fun k hk => h.fresh k (by simpa using hk), agree := fun b x hb => ?_, locs := fun p hp => ?_, nodup := h.nodup }
 ·by_cases e : k = l
  ·subst e; rw [World.putObj_heap_same (Nat.lt_of_lt_of_le hl h.size), World.putObj_heap_same hl]
  rw [World.putObj_heap_other e, World.putObj_heap_other e]; exact h.same k (by simpa using hk) hkx
 ·have e : b ≠ l := fun e => by subst e; rw [hml] at hb; cases hb
  rw [World.putObj_heap_other e]; exact h.agree b x hb
 obtain ⟨h1, h2, h3⟩ := h.locs p hp
 have e : p.1 ≠ l := fun e => h2.elim (fun h2 => by rw [e] at h2; exact absurd hl (Nat.not_lt.2 h2)) (fun h2 => hx (e ▸ h2))
 exact ⟨by rw [World.putObj_heap_other e]; exact h1, by simpa using h2, h3⟩
theorem St.close {W : World} {X : List Nat} {M0 M : Mem} {R : Lc} {w : World} {l d : Nat} {o o2 od : Obj} (h : St ⟨W.putObj l o, X, M0⟩ M R w) (hl : l < W.heap.size) (hd : W.heap[d]? = some od) (hld : l ≠ d) (hlx : l ∉ X) (hdx : d ∉ X) (hml : M0 l = none) (hmd : M0 d = none) :
  St ⟨W, l :: d :: X, M0⟩ M ((l, o2) :: (d, od) :: R) (w.putObj l o2) := by
 have hs : W.heap.size ≤ w.heap.size := by simpa using h.size
 have hdl : d < W.heap.size := wDj hd
 have h1 : M l = none := (h.fresh l (by simpa using hl)).trans hml
 have h2 : M d = none := (h.fresh d (by simpa using hdl)).trans hmd
 have hp : ∀ p ∈ R, W.heap.size ≤ p.1 ∨ p.1 ∈ X := fun p hp => by simpa using (h.locs p hp).2.1
 have hpl : ∀ p ∈ R, p.1 ≠ l := fun p hq e => (hp p hq).elim (fun h => by omega) (fun h => hlx (e ▸ h))
 have hpd : ∀ p ∈ R, p.1 ≠ d := fun p hq e => (hp p hq).elim (fun h => by omega) (fun h => hdx (e ▸ h))
 refine { os := h.os, tape := h.tape, output := h.output, size := by simpa using hs, same := fun k hk hkx => ?_, fresh := fun k hk => h.fresh k (by simpa using hk), agree := fun b x hb => ?_, locs := fun p hq => ?_, nodup := ?_ }
 ·simp only [List.mem_cons, not_or] at hkx
  rw [World.putObj_heap_other hkx.1, h.same k (by simpa using hk) hkx.2.2, World.putObj_heap_other hkx.1]
 ·have e : b ≠ l := fun e => by subst e; rw [h1] at hb; cases hb
  rw [World.putObj_heap_other e]; exact h.agree b x hb
 ·rcases List.mem_cons.1 hq with rfl | hq
  ·exact ⟨World.putObj_heap_same (by omega), .inr (by simp), h1⟩
  rcases List.mem_cons.1 hq with rfl | hq
  ·refine ⟨?_, .inr (by simp), h2⟩
   show (w.putObj l o2).heap[d]? = _
   rw [World.putObj_heap_other (Ne.symm hld), h.same d (by simpa using hdl) hdx, World.putObj_heap_other (Ne.symm hld)]; exact hd
  refine ⟨by rw [World.putObj_heap_other (hpl p hq)]; exact (h.locs p hq).1, (hp p hq).imp id (fun h => by simp [h]), (h.locs p hq).2.2⟩
 simp only [List.map_cons, List.nodup_cons, List.mem_cons, List.mem_map, not_or]
 exact ⟨⟨hld, fun ⟨p, hq, e⟩ => hpl p hq e⟩, fun ⟨p, hq, e⟩ => hpd p hq e, h.nodup⟩
theorem jc_rangeRN {α : Type} {b : Bool} {P : Program} {n : Nat} {D : List Nat} {F : Fr} {E : Ent} {M : Mem} {L R L2 : Lc} {Q : Exit → Act → World → Prop} {g : Operand} {ps : List Nat} {assign body : Code} {gf : FuncId} {lb : List Value} {En : α → Mem → List Value → Prop} {xs : List α}
  (hg : ev F g = some (.func (.func gf) #[] lb.toArray)) (hgo : isGo P gf = true) (hit : IterR b P gf lb M En xs) [hp : Pick R L L2]
  (I : List α → Mem → Lc → Prop) (Ix : Code → List α → Mem → Lc → Prop) (hlen : ∀ y M' vs, En y M' vs → vs.length = ps.length) (hps : ∀ t ∈ ps, t < n) (h0 : I [] M R) (hIm : b = true → ∀ pre M2 M3 R, MLe M2 M3 → I pre M2 R → I pre M3 R)
  (hround : ∀ l W pre y M1 R1 vs, (∀ x ∈ R1.map (·.1), x < W.heap.size) → MLe M M1 → I pre M1 R1 → pre ++ [y] <+: xs → En y M1 vs →
   JC P ⟨n, [], some l⟩ assign (zipFr ps vs F) ⟨W, R1.map (·.1), M1⟩ M1 R1 (Exit.then (roundK P n l body W (R1.map (·.1)) M1 I Ix (pre ++ [y])) (fun _ _ _ => False)))
  (hdone : ∀ d M1 R1, MLe M M1 → I xs M1 R1 → JQ ⟨n, d :: D, none⟩ .normal F E M1 ((d, .deferred (some [])) :: (R1 ++ L2)) Q)
  (hstop : ∀ d c pre M1 R1, MLe M M1 → pre <+: xs → Ix c pre M1 R1 → JC P ⟨n, d :: D, none⟩ c F E M1 ((d, .deferred (some [])) :: (R1 ++ L2)) Q) :
  JC P ⟨n, D, none⟩ (.rangeFunc g ps.toArray assign body) F E M L Q := by
 intro a w ha hw
 refine wpIn_rangeFunc (F := FF none) fun fn _ => ?_
 obtain ⟨rec, hrec⟩ : ∃ rec : LoopState → Option Code → Loop, rec = fun st pe => { state := st, pending := pe, fn, tmps := a.tmps, params := ps.toArray, assign, body, defers := w.heap.size } := ⟨_, rfl⟩
 have hw0 := hw.perm hp.perm
 have hwd := hw0.alloc (.deferred (some []))
 have hwl := hwd.alloc (.loop (rec .ready none))
 rw [World.size_alloc] at hwl
 generalize hd : w.heap.size = d at *
 generalize hl : d + 1 = l at *
 generalize hW1 : (w.alloc (.deferred (some []))).alloc (.loop (rec .ready none)) = W1 at *
 let yv : Value := .func (.yield l) #[] #[]
 let J : List α → Mem → Lc → Prop := fun pre M' L' => ∃ R', L' = (l, .loop (rec .ready none)) :: (d, .deferred (some [])) :: R' ∧ MLe M M' ∧ I pre M' R'
 let Jx : List α → Mem → Lc → Prop := fun pre M' L' => ∃ c R', L' = (l, .loop (rec .done (some c))) :: (d, .deferred (some [])) :: R' ∧ Ix c pre M' R'
 have hld : l ≠ d := by omega
 have hround' : ∀ pre y M2 L2' vs, MLe M M2 → J pre M2 L2' → pre ++ [y] <+: xs → En y M2 vs → RoundL P l vs.toArray M2 L2' fun v M' L' => (v = .bool true ∧ J (pre ++ [y]) M' L') ∨ (v = .bool false ∧ Jx (pre ++ [y]) M' L') := by
  rintro pre y M2 L2' vs hM2 ⟨R2, rfl, hMM, hI⟩ hpre hE W hW
  have hlW := hW.locs (l, .loop (rec .ready none)) (by simp)
  have hdW := hW.locs (d, .deferred (some [])) (by simp)
  have hnd := hW.nodup
  simp only [List.map_cons, List.nodup_cons, List.mem_cons, not_or] at hnd
  obtain ⟨⟨_, hlR⟩, hdR, _⟩ := hnd
  have hy := run_yield (P := P) (args := vs.toArray) hlW.1 (by rw [hrec]; simp [hlen _ _ _ hE])
  rw [hrec] at hy
  have hin : St ⟨W, R2.map (·.1), M2⟩ M2 R2 W := (hW.perm (L' := R2 ++ [(l, .loop (rec .ready none)), (d, .deferred (some []))]) (List.perm_append_comm (l₁ := [_, _]))).into
  have hhas : Has ⟨n, [], some l⟩ F { tmps := a.tmps, defers := [] } := ⟨ha.size, rfl, ha.get⟩
  have hz := Has.zip ps vs F a.tmps hps hhas
  refine ⟨fn, _, assign, body, hy, roundIn_of_wpIn trivial ?_⟩
  have h1 := hround l W pre y M2 R2 vs (fun x hx => by obtain ⟨p, hp, rfl⟩ := List.mem_map.1 hx; exact wDj (hin.locs p hp).1) hMM hI hpre hE _ W hz hin
  rw [show (ps.toArray.zip vs.toArray).foldl (fun (t : Array Value) (x : Nat × Value) => t.setIfInBounds x.1 x.2) a.tmps = (ps.zip vs).foldl (fun t (p, v) => t.setIfInBounds p v) a.tmps by simp]
  refine wpIn_mono h1 fun e a₁ w₁ hq => ?_
  cases e with
  | normal =>
   obtain ⟨F', M', R', hF', hSt, hbody⟩ := hq
   have hl1 : w₁.heap[l]? = some (.loop (rec .ready none)) := (hSt.same l (wDj hlW.1) hlR).trans hlW.1
   refine ⟨_, run_beginRound hl1 (by rw [hrec]), ?_⟩
   have hSt2 := hSt.both (.loop { rec .ready none with state := .busy }) (wDj hlW.1) hlR hlW.2.2
   refine wpIn_mono (hbody _ (by simp) a₁ _ hF' hSt2) fun e a₂ w₃ hq => ?_
   have fin : ∀ (jump : Option Code) (M3 : Mem) (R3 : Lc), St ⟨W.putObj l (.loop { rec .ready none with state := .busy }), R2.map (·.1), M2⟩ M3 R3 w₃ →
     ∃ w₄, (Instr.endRound l jump).run P w₃ = .ok (.bool jump.isNone) w₄ ∧ St ⟨W, l :: d :: R2.map (·.1), M2⟩ M3 ((l, .loop (rec (if jump.isNone then .ready else .done) jump)) :: (d, .deferred (some [])) :: R3) w₄ := fun jump M3 R3 h3 => by
    have hl3 : w₃.heap[l]? = some (.loop { rec .ready none with state := .busy }) := (h3.same l (by simpa using wDj hlW.1) hlR).trans (World.putObj_heap_same (wDj hlW.1))
    have he := run_endRound (P := P) jump hl3
    refine ⟨_, he, ?_⟩
    have := h3.close (o2 := .loop (rec (if jump.isNone then .ready else .done) jump)) (wDj hlW.1) hdW.1 hld hlR hdR hlW.2.2 hdW.2.2
    rw [hrec] at this ⊢
    exact this
   have hMM2 : ∀ {M3 R3}, St ⟨W.putObj l (.loop { rec .ready none with state := .busy }), R2.map (·.1), M2⟩ M3 R3 w₃ → MLe M M3 := fun h3 b ob hb => by
    have hb2 := hMM b ob hb
    have := wDj (hW.agree b ob hb2)
    rw [h3.fresh b (by simpa using this)]; exact hb2
   cases e with
   | normal =>
    obtain ⟨M3, R3, hI3, h3⟩ := hq
    obtain ⟨w₄, he, h4⟩ := fin none M3 R3 h3
    exact ⟨_, w₄, he, _, M3, _, rfl, .inl ⟨rfl, R3, rfl, hMM2 h3, hI3⟩, h4⟩
   | ret =>
    obtain ⟨M3, R3, hI3, h3⟩ := hq
    obtain ⟨w₄, he, h4⟩ := fin (some .ret) M3 R3 h3
    exact ⟨_, w₄, he, _, M3, _, rfl, .inr ⟨rfl, _, R3, rfl, hI3⟩, h4⟩
   | exit id =>
    obtain ⟨M3, R3, hI3, h3⟩ := hq
    obtain ⟨w₄, he, h4⟩ := fin (some (.exit id)) M3 R3 h3
    exact ⟨_, w₄, he, _, M3, _, rfl, .inr ⟨rfl, _, R3, rfl, hI3⟩, h4⟩
   | goto t =>
    obtain ⟨M3, R3, hI3, h3⟩ := hq
    obtain ⟨w₄, he, h4⟩ := fin (some (.goto t)) M3 R3 h3
    exact ⟨_, w₄, he, _, M3, _, rfl, .inr ⟨rfl, _, R3, rfl, hI3⟩, h4⟩
   | panic ch => exact hq.elim
   | outgrown => exact hq.elim
  | exit id => exact hq.elim
  | goto t => exact hq.elim
  | ret => exact hq.elim
  | panic ch => exact hq.elim
  | outgrown => exact hq.elim
 have hspec := hit l J Jx M ((l, .loop (rec .ready none)) :: (d, .deferred (some [])) :: R) (MLe.refl _) (fun hb pre M2 M3 L2 hM23 ⟨R', e1, e2, e3⟩ => ⟨R', e1, e2.trans hM23, hIm hb _ _ _ _ hM23 e3⟩) hround' ⟨R, rfl, MLe.refl _, h0⟩
 have hwl' : St E M (((l, .loop (rec .ready none)) :: (d, .deferred (some [])) :: R) ++ L2) W1 := hwl
 have hac : Has ⟨n, d :: D, none⟩ F { a with defers := mark d :: a.defers } := ⟨ha.size, by rw [ha.defers]; rfl, ha.get⟩
 refine ⟨l, [mark d], W1, { target := .fn (.func gf) lb.toArray, args := #[yv] }, W1, gf, (yv :: lb).toArray, W1, ?_, ?_, fun _ _ => trivial, ?_, wJq _ _, ?_⟩
 ·rw [← hW1, hrec, ← hl, ← hd]; exact run_enterLoop_outer _ _ _ _ _
 ·have := ha.ev hg
  simp only [resolve, this]
  simp [go_sem, yv]
 ·simp [invoke, run_callFunc hgo, yv]
 refine calls_in none _ ((hspec W1 hwl'.into).mono fun e w' hh => ?_)
 obtain ⟨v, M', L', rfl, hpost, hSt⟩ := hh
 obtain ⟨hb, hMM⟩ := hwl'.back hSt
 rcases hpost with ⟨R', rfl, _, hI⟩ | ⟨pre, hpre, c, R', rfl, hIx⟩
 ·have hl1 := (hb.locs (l, .loop (rec .ready none)) (by simp)).1
  refine ⟨none, _, by have := run_endLoop (P := P) hl1 (by rw [hrec]; simp); rw [hrec] at this; exact this, ?_⟩
  exact hdone d M' R' hMM hI _ _ hac hb.shut
 have hl1 := (hb.locs (l, .loop (rec .done (some c))) (by simp)).1
 refine ⟨some c, _, by have := run_endLoop (P := P) hl1 (by rw [hrec]; simp); rw [hrec] at this; exact this, ?_⟩
 exact hstop d c pre M' R' hMM hpre hIx _ _ hac hb.shut
theorem jc_rangeR {α : Type} {b : Bool} {P : Program} {n : Nat} {D : List Nat} {F : Fr} {E : Ent} {M : Mem} {L R L2 : Lc} {Q : Exit → Act → World → Prop} {g : Operand} {ps : List Nat} {assign body : Code} {gf : FuncId} {lb : List Value} {En : α → Mem → List Value → Prop} {xs : List α}
  (hg : ev F g = some (.func (.func gf) #[] lb.toArray)) (hgo : isGo P gf = true) (hit : IterR b P gf lb M En xs) [hp : Pick R L L2]
  (I : List α → Mem → Lc → Prop) (Ix : Code → List α → Mem → Lc → Prop) (hlen : ∀ y M' vs, En y M' vs → vs.length = ps.length) (hps : ∀ t ∈ ps, t < n) (h0 : I [] M R) (hIm : b = true → ∀ pre M2 M3 R, MLe M2 M3 → I pre M2 R → I pre M3 R)
  (hround : ∀ l W pre y M1 R1 vs, MLe M M1 → I pre M1 R1 → pre ++ [y] <+: xs → En y M1 vs →
   JC P ⟨n, [], some l⟩ assign (zipFr ps vs F) ⟨W, R1.map (·.1), M1⟩ M1 R1 (Exit.then (roundK P n l body W (R1.map (·.1)) M1 I Ix (pre ++ [y])) (fun _ _ _ => False)))
  (hdone : ∀ d M1 R1, MLe M M1 → I xs M1 R1 → JQ ⟨n, d :: D, none⟩ .normal F E M1 ((d, .deferred (some [])) :: (R1 ++ L2)) Q)
  (hstop : ∀ d c pre M1 R1, MLe M M1 → pre <+: xs → Ix c pre M1 R1 → JC P ⟨n, d :: D, none⟩ c F E M1 ((d, .deferred (some [])) :: (R1 ++ L2)) Q) :
  JC P ⟨n, D, none⟩ (.rangeFunc g ps.toArray assign body) F E M L Q :=
 jc_rangeRN hg hgo hit I Ix hlen hps h0 hIm (fun l W pre y M1 R1 vs _ => hround l W pre y M1 R1 vs) hdone hstop
theorem jc_rangeN {α : Type} {P : Program} {n : Nat} {D : List Nat} {F : Fr} {E : Ent} {M : Mem} {L R L2 : Lc} {Q : Exit → Act → World → Prop} {g : Operand} {ps : List Nat} {assign body : Code} {gf : FuncId} {lb : List Value} {enc : α → List Value} {xs : List α}
  (hg : ev F g = some (.func (.func gf) #[] lb.toArray)) (hgo : isGo P gf = true) (hit : Iter P gf lb M enc xs) [hp : Pick R L L2]
  (I : List α → Mem → Lc → Prop) (Ix : Code → List α → Mem → Lc → Prop) (hlen : ∀ y, (enc y).length = ps.length) (hps : ∀ t ∈ ps, t < n) (h0 : I [] M R)
  (hround : ∀ l W pre y M1 R1, (∀ x ∈ R1.map (·.1), x < W.heap.size) → MLe M M1 → I pre M1 R1 → pre ++ [y] <+: xs →
   JC P ⟨n, [], some l⟩ assign (zipFr ps (enc y) F) ⟨W, R1.map (·.1), M1⟩ M1 R1 (Exit.then (roundK P n l body W (R1.map (·.1)) M1 I Ix (pre ++ [y])) (fun _ _ _ => False)))
  (hdone : ∀ d M1 R1, MLe M M1 → I xs M1 R1 → JQ ⟨n, d :: D, none⟩ .normal F E M1 ((d, .deferred (some [])) :: (R1 ++ L2)) Q)
  (hstop : ∀ d c pre M1 R1, MLe M M1 → pre <+: xs → Ix c pre M1 R1 → JC P ⟨n, d :: D, none⟩ c F E M1 ((d, .deferred (some [])) :: (R1 ++ L2)) Q) :
  JC P ⟨n, D, none⟩ (.rangeFunc g ps.toArray assign body) F E M L Q := by
 exact jc_rangeRN (En := fun y _ vs => vs = enc y) hg hgo hit.rel I Ix (fun y _ vs h => by rw [h]; exact hlen y) hps h0 (fun h => by cases h) (fun l W pre y M1 R1 vs hx a b c e => by rw [e]; exact hround l W pre y M1 R1 hx a b c) hdone hstop
theorem wLq {α : Type} {P : Program} {n : Nat} {D : List Nat} {F : Fr} {E : Ent} {M : Mem} {L R L2 : Lc} {Q : Exit → Act → World → Prop} {g : Operand} {ps : List Nat} {assign body : Code} {gf : FuncId} {lb : List Value} {enc : α → List Value} {xs : List α}
  (hg : ev F g = some (.func (.func gf) #[] lb.toArray)) (hgo : isGo P gf = true) (hit : Iter P gf lb M enc xs) [hp : Pick R L L2]
  (I : List α → Mem → Lc → Prop) (Ix : Code → List α → Mem → Lc → Prop) (hlen : ∀ y, (enc y).length = ps.length) (hps : ∀ t ∈ ps, t < n) (h0 : I [] M R)
  (hround : ∀ l W pre y M1 R1, MLe M M1 → I pre M1 R1 → pre ++ [y] <+: xs →
   JC P ⟨n, [], some l⟩ assign (zipFr ps (enc y) F) ⟨W, R1.map (·.1), M1⟩ M1 R1 (Exit.then (roundK P n l body W (R1.map (·.1)) M1 I Ix (pre ++ [y])) (fun _ _ _ => False)))
  (hdone : ∀ d M1 R1, MLe M M1 → I xs M1 R1 → JQ ⟨n, d :: D, none⟩ .normal F E M1 ((d, .deferred (some [])) :: (R1 ++ L2)) Q)
  (hstop : ∀ d c pre M1 R1, MLe M M1 → pre <+: xs → Ix c pre M1 R1 → JC P ⟨n, d :: D, none⟩ c F E M1 ((d, .deferred (some [])) :: (R1 ++ L2)) Q) :
  JC P ⟨n, D, none⟩ (.rangeFunc g ps.toArray assign body) F E M L Q := by
 exact jc_rangeR (En := fun y _ vs => vs = enc y) hg hgo hit.rel I Ix (fun y _ vs h => by rw [h]; exact hlen y) hps h0 (fun h => by cases h) (fun l W pre y M1 R1 vs a b c e => by rw [e]; exact hround l W pre y M1 R1 a b c) hdone hstop
instance (priority := low) At.left {b : Nat} {o : Obj} {R L : Lc} [h : At b o R] : At b o (R ++ L) := ⟨List.mem_append_left _ h.mem⟩
instance (priority := low) PutAt.left {b : Nat} {o o' : Obj} {R R' L : Lc} [h : PutAt b o o' R R'] : PutAt b o o' (R ++ L) (R' ++ L) := ⟨by
 obtain ⟨A, B, h1, h2⟩ := h.ex; exact ⟨A, B ++ L, by rw [h1]; simp, by rw [h2]; simp⟩⟩
instance (priority := low) Rm.left {g : Nat} {ob : Obj} {R R2 L : Lc} [h : Rm g ob R R2] : Rm g ob (R ++ L) (R2 ++ L) := ⟨List.Perm.append_right L h.perm⟩
theorem wAr {N : Fs} {F : Fr} {W : World} {X : List Nat} {M0 M : Mem} {L L' : Lc} {e : Exit} {Q : Exit → Act → World → Prop} (hs : L'.Sublist L) (h : JQ N e F ⟨W, X, M0⟩ M L' Q) : JQ N e F ⟨W, X, M0⟩ M L Q := fun a w ha hw => h a w ha (hw.fewer hs)
theorem jrn {P : Program} {fn : Func} {N : Fs} {F : Fr} {E : Ent} {M : Mem} {L : Lc} {post : Value → Mem → Lc → Prop} (h : JQ N .ret F E M L (wFk P fn E post)) : JQ N .normal F E M L (wFk P fn E post) := h
def bAnd (k : IntKind) (a b : Int) : Int := k.wrap (BitVec.ofInt k.bits a &&& BitVec.ofInt k.bits b).toNat
def bOr (k : IntKind) (a b : Int) : Int := k.wrap (BitVec.ofInt k.bits a ||| BitVec.ofInt k.bits b).toNat
def bXor (k : IntKind) (a b : Int) : Int := k.wrap (BitVec.ofInt k.bits a ^^^ BitVec.ofInt k.bits b).toNat
def bitOp (op : BinOp) (k : IntKind) (a b : Int) : Option Int := match op with
 | .and => some (bAnd k a b)
 | .or => some (bOr k a b)
 | .xor => some (bXor k a b)
 | _ => none
def bShl (k : IntKind) (a : Int) (n : Nat) : Int := k.wrap (a * 2 ^ (min n k.bits))
def bShr (k : IntKind) (a : Int) (n : Nat) : Int := a.fdiv (2 ^ (min n k.bits))
def shOp (op : BinOp) (k : IntKind) (a : Int) (n : Nat) : Option Int := match op with
 | .shl => some (bShl k a n)
 | .shr => some (bShr k a n)
 | _ => none
section
variable {P : Program} {ops : Array Oper} {N : Fs} {F : Fr} {E : Ent} {M : Mem} {L : Lc} {o : Oper}
theorem wLg {op : BinOp} {xT yT : TypeId} {x y : Operand} {k : IntKind} {a b r : Int} (hg : gd ops F o = some true) (ho : o.op = .binOp op xT x y yT) (hx : ev F x = some (.int k a)) (hy : ev F y = some (.int k b))
  (hr : bitOp op k a b = some r) : QF P ops N F M L o (.int k r) := wFd hg fun ac ha w _ => by
 simp only [execOp, ho, ha.ev hx, ha.ev hy]
 unfold bitOp at hr
 split at hr <;> first | cases hr | skip
 all_goals simp [eqGuard, binOp, Op.intBits, bAnd, bOr, bXor]
theorem wLf {op : BinOp} {xT yT : TypeId} {x y : Operand} {k k' : IntKind} {a b r : Int} (hg : gd ops F o = some true) (ho : o.op = .binOp op xT x y yT) (hx : ev F x = some (.int k a)) (hy : ev F y = some (.int k' b))
  (h0 : 0 ≤ b) (hr : shOp op k a b.toNat = some r) : QF P ops N F M L o (.int k r) := wFd hg fun ac ha w _ => by
 have h1 : ¬ b < 0 := by omega
 simp only [execOp, ho, ha.ev hx, ha.ev hy]
 unfold shOp at hr
 split at hr <;> first | cases hr | skip
 all_goals simp [eqGuard, binOp, Op.shift, h1, bShl, bShr]
theorem qNotI {xT : TypeId} {x : Operand} {a : Int} (hg : gd ops F o = some true) (ho : o.op = .unOp .xor xT x) (hx : ev F x = some (.int .u32 a)) : QF P ops N F M L o (.int .u32 (bXor .u32 4294967295 a)) := wFd hg fun ac ha w _ => by
 simp only [execOp, ho, ha.ev hx]
 simp [Op.unary, Op.intBits, bXor, IntKind.signed, IntKind.max, IntKind.bits]
theorem qAk {op : BinOp} {xT yT : TypeId} {x y : Operand} {k : IntKind} {a b r : Int} (hg : gd ops F o = some true) (ho : o.op = .binOp op xT x y yT) (hx : ev F x = some (.int k a)) (hy : ev F y = some (.int k b))
  (hr : ar op a b = some r) (h : k.wrap r = r) : QF P ops N F M L o (.int k r) := wFd hg fun ac ha w _ => by
 simp only [execOp, ho, ha.ev hx, ha.ev hy]
 unfold ar at hr
 split at hr <;> first | cases hr | skip
 all_goals simp [eqGuard, binOp, Op.intArith, h]
theorem qConvK {x : Operand} {s d : TypeId} {k k' : IntKind} {n : Int} {ds : TypeDesc} (hg : gd ops F o = some true) (ho : o.op = .convert s d x) (hx : ev F x = some (.int k' n)) [hs : Und P s ds] [hd : Und P d (.int k)] (h : k.wrap n = n)
  : QF P ops N F M L o (.int k n) := qEq (wDw hg ho hx) (by rw [h])
theorem wBw {x : Operand} {a : Addr} (hg : gd ops F o = some true) (ho : o.op = .nilCheck x) (hx : ev F x = some (.pointer (some a))) : QF P ops N F M L o (.pointer (some a)) := wFd hg fun ac ha w _ => by
 simp [execOp, ho, ha.ev hx]
theorem wBm {t : TypeId} {x y : Operand} {u : Value} {b off : Nat} {l l2 cs : List Value} {e : TypeId} {L' : Lc} {sz by_ : Nat} {z : List Value} (hg : gd ops F o = some true) (ho : o.op = .store t x y) (hx : ev F x = some (.pointer (some ⟨b, off, none⟩))) (hy : ev F y = some u)
  [hl : Lay P t sz by_ z] (hc : u.cells = cs.toArray) (hn : cs.length = sz) (h1 : (cs.all fun v => v.oneCell') = true) [at_ : At b (.cells l.toArray e (0, 0)) L] (hfit : Nat.ble (off + sz) l.length = true) (h2 : l.take off ++ cs ++ l.drop (off + cs.length) = l2 := by first | (simp only [Nat.reduceAdd, Nat.zero_add, Nat.add_zero, List.drop_succ_cons, List.drop_zero, List.drop_nil, List.take_succ_cons, List.take_zero, List.take_nil, List.cons_append, List.nil_append, List.append_nil, List.length_cons, List.length_nil]; try rfl) | rfl)
  [hp : PutAt b (.cells l.toArray e (0, 0)) (.cells l2.toArray e (0, 0)) L L'] :
  HF P ops N F E M L o (fun _ M' L'' => M = M' ∧ L'' = L') := by
 subst h2
 exact hStore hg ho hx hy hc hn (fun v hv => List.all_eq_true.1 h1 v hv) (Nat.le_of_ble_eq_true hfit)
theorem qLdL {x : Operand} {t : TypeId} {d : TypeDesc} {b off sz by_ : Nat} {z l cs : List Value} {e : TypeId} {fz : Nat × Nat} (hg : gd ops F o = some true) (ho : o.op = .load t x) (hx : ev F x = some (.pointer (some ⟨b, off, none⟩))) [hd : Und P t d] [hl : Lay P t sz by_ z] (ha : aggD d = true)
  [at_ : At b (.cells l.toArray e fz) L] (hfit : Nat.ble (off + sz) l.length = true) (hc : (l.drop off).take sz = cs := by first | (simp only [Nat.reduceAdd, Nat.zero_add, Nat.add_zero, List.drop_succ_cons, List.drop_zero, List.drop_nil, List.take_succ_cons, List.take_zero, List.take_nil, List.cons_append, List.nil_append, List.append_nil, List.length_cons, List.length_nil]; try rfl) | rfl) : QF P ops N F M L o (.agg cs.toArray) :=
 wGx hg ho hx ha (by subst hc; have := Nat.le_of_ble_eq_true hfit; rw [List.length_take, List.length_drop]; omega) fun i v hv => by
  subst hc
  rw [List.getElem?_take] at hv
  split at hv
  ·exact CJ.loc (by simpa using hv)
  cases hv
end
inductive RV (P : Program) (F : Fr) (L : Lc) : ResultVar → Value → Prop
 | tmp {t : Nat} {v : Value} (h : lk t F = some v) : RV P F L (.tmp t) v
 | agg {t b sz by_ : Nat} {ty e : TypeId} {l : List Value} {fz : Nat × Nat} {d : TypeDesc} {z : List Value} (ht : lk t F = some (.pointer (some ⟨b, 0, none⟩))) [at_ : At b (.cells l.toArray e fz) L] [hd : Und P ty d] [hl : Lay P ty sz by_ z] (ha : aggD d = true) (hn : l.length = sz) : RV P F L (.cell t ty) (.agg l.toArray)
 | one {t b : Nat} {ty e : TypeId} {l : List Value} {fz : Nat × Nat} {d : TypeDesc} {v : Value} (ht : lk t F = some (.pointer (some ⟨b, 0, none⟩))) [at_ : At b (.cells l.toArray e fz) L] [hd : Und P ty d] (ha : aggD d = false) (hv : l[0]? = some v) : RV P F L (.cell t ty) v
inductive RVs (P : Program) (F : Fr) (L : Lc) : List ResultVar → List Value → Prop
 | nil : RVs P F L [] []
 | cons {r : ResultVar} {v : Value} {rs : List ResultVar} {vs : List Value} (h : RV P F L r v) (k : RVs P F L rs vs) : RVs P F L (r :: rs) (v :: vs)
def retV : List Value → Value
 | [v] => v
 | vs => .tuple vs.toArray
def resOne (tmps : Array Value) : ResultVar → Sem Value
 | .tmp t => pure (tmps.getD t undef)
 | .cell c t => do loadVar t (← asAddr (tmps.getD c undef))
theorem results_eq (fn : Func) (tmps : Array Value) : results fn tmps = (do let vs ← fn.results.mapM (resOne tmps); pure (if h : vs.size = 1 then vs[0] else .tuple vs)) := by
 unfold results
 have : (fun r : ResultVar => match r with | .tmp t => (pure (tmps.getD t undef) : Sem Value) | .cell a t => do loadVar t (← asAddr (tmps.getD a undef))) = resOne tmps := by
  funext r; cases r <;> rfl
 rw [← this]
 rfl
theorem RV.run {P : Program} {F : Fr} {E : Ent} {M : Mem} {L : Lc} {N : Fs} {r : ResultVar} {v : Value} (h : RV P F L r v) {a : Act} {w : World} (hac : Has N F a) (hw : St E M L w) : (resOne a.tmps r).run P w = .ok v w := by
 cases h with
 | tmp h => simp [resOne, Array.getD_eq_getD_getElem?, hac.get _ _ h]
 | @agg t b sz by_ ty e l fz d z ht at_ hd hl ha hn =>
  obtain ⟨ti, v, hi, hi2, _⟩ := hl.info
  have h1 := hac.get t _ ht
  have hadd : ∀ j, (⟨b, 0, none⟩ : Addr).add j = ⟨b, j, none⟩ := fun j => by unfold Addr.add; split <;> simp_all
  have h3 := run_loadCells_list (P := P) (w := w) ⟨b, 0, none⟩ l (fun j v hv => by rw [hadd]; exact (CJ.loc (M := M) (L := L) (e := e) (fz := fz) hv).cell hw.js)
  simp [resOne, Array.getD_eq_getD_getElem?, h1, asAddr, loadVar, wHd hd.h, ha, sizeOf, typeInfo, hi, hi2, ← hn, h3]
 | @one t b ty e l fz d v ht at_ hd ha hv =>
  have h1 := hac.get t _ ht
  have h3 := (CJ.loc (M := M) (L := L) (b := b) (e := e) (fz := fz) hv).cell hw.js
  simp [resOne, Array.getD_eq_getD_getElem?, h1, asAddr, loadVar, wHd hd.h, ha, h3]
theorem RVs.run {P : Program} {F : Fr} {E : Ent} {M : Mem} {L : Lc} {N : Fs} {a : Act} {w : World} (hac : Has N F a) (hw : St E M L w) : ∀ {rs : List ResultVar} {vs : List Value}, RVs P F L rs vs →
  (rs.mapM (resOne a.tmps)).run P w = .ok vs w
 | [], _, .nil => by simp
 | r :: rs, _, .cons h k => by
  have h1 := h.run hac hw
  have h2 := RVs.run hac hw k
  rw [List.mapM_cons, Sem.run_bind, h1, Result.andThen_ok, Sem.run_bind, h2, Result.andThen_ok, Sem.run_pure]
theorem jrs {P : Program} {fn : Func} {n : Nat} {F : Fr} {E : Ent} {M : Mem} {L : Lc} {post : Value → Mem → Lc → Prop} {rs : List ResultVar} {vs : List Value} (hr : fn.results = rs.toArray) (h : RVs P F L rs vs) (hp : post (retV vs) M L) : JQ ⟨n, [], none⟩ .ret F E M L (wFk P fn E post) := by
 intro a w hac hw
 show LeavesInM _ _ _ _ _ _ a.defers _ _
 rw [show a.defers = [] from hac.defers]
 have h1 := h.run hac hw
 refine ⟨_, ?_, _, M, L, rfl, hp, hw⟩
 rw [results_eq, hr, Sem.run_bind, List.mapM_toArray, Sem.run_map, h1]
 unfold retV
 split
 ·simp [Result.andThen]
 rename_i h2
 have : vs.length ≠ 1 := fun e => by
  match vs, e with
  | [v], _ => exact h2 v rfl
 simp [this, Result.andThen]
theorem wDa {P : Program} {fn : Func} {n : Nat} {F : Fr} {W : World} {X : List Nat} {M0 M : Mem} {L : Lc} (L' : Lc) {post : Value → Mem → Lc → Prop} {rs : List ResultVar} {vs : List Value} (hs : L'.Sublist L) (hr : fn.results = rs.toArray) (h : RVs P F L rs vs) (hp : post (retV vs) M L') : JQ ⟨n, [], none⟩ .ret F ⟨W, X, M0⟩ M L (wFk P fn ⟨W, X, M0⟩ post) := by
 have := jrs (P := P) (n := n) (E := ⟨W, X, M0⟩) (M := M) (post := fun v M' L'' => post v M' L' ∧ L'.Sublist L'') hr h ⟨hp, hs⟩
 intro a w ha hw
 have k := this a w ha hw
 show LeavesInM _ _ _ _ _ _ a.defers _ _
 have k' : LeavesInM _ _ _ _ _ _ a.defers _ _ := k
 rw [show a.defers = [] from ha.defers] at k' ⊢
 obtain ⟨v, hv, v2, M', L'', e, ⟨k1, k2⟩, k3⟩ := k'
 exact ⟨v, hv, v2, M', L', e, k1, k3.fewer k2⟩
theorem jc_scope {P : Program} {n : Nat} {D : List Nat} {c : Code} {F : Fr} {E : Ent} {M : Mem} {L : Lc} {Q : Exit → Act → World → Prop} (h : JC P ⟨n, D, none⟩ c F E M L (Exit.noGoto Q)) : JC P ⟨n, D, none⟩ (.scope c) F E M L Q := fun a w ha hw =>
 (wpIn_wide (n := 0)).2 (wp_scope_straight ((wpIn_wide (n := 0)).1 (h a w ha hw)))
theorem jN {N : Fs} {e : Exit} {F : Fr} {E : Ent} {M : Mem} {L : Lc} {Q : Exit → Act → World → Prop} (he : ∀ l, e ≠ .goto l) (h : JQ N e F E M L Q) : JQ N e F E M L (Exit.noGoto Q) := fun a w ha hw => by
 cases e <;> first | exact absurd rfl (he _) | exact h a w ha hw
abbrev By := UInt8
def wAj (xs : List By) : List Value := xs.map fun b => .int .u8 (b.toNat : Int)
theorem wAm (xs : List By) : (wAj xs).length = xs.length := by simp [wAj]
theorem wBv (xs : List By) : ∀ v ∈ wAj xs, v.oneCell' = true := by
 intro v hv; obtain ⟨n, _, rfl⟩ := List.mem_map.1 hv; rfl
def BS (M : Mem) (v : Value) (xs : List By) : Prop := ∃ a c, v = .slice a xs.length c ∧ xs.length ≤ c ∧ SM M a (wAj xs)
theorem BS.mono {M M' : Mem} {v : Value} {xs : List By} (h : BS M v xs) (hM : MLe M M') : BS M' v xs := by
 obtain ⟨a, c, h1, h0, h2⟩ := h; exact ⟨a, c, h1, h0, h2.mono hM⟩
theorem BS.nil {M : Mem} : BS M (.slice none 0 0) [] := ⟨none, 0, rfl, Nat.le_refl _, SM.nil⟩
section
variable {P : Program} {ops : Array Oper} {N : Fs} {F : Fr} {E : Ent} {M : Mem} {L : Lc} {Q : Exit → Act → World → Prop}
theorem nA {α : Type} (l : List α) : [] ++ l = l := rfl
def adrOf : Option Value → Option (Nat × Nat)
 | some (.pointer (some ⟨b, off, none⟩)) => some (b, off)
 | _ => none
theorem adrOf_is {v : Option Value} {b off : Nat} (h : adrOf v = some (b, off)) : v = some (.pointer (some ⟨b, off, none⟩)) := by
 unfold adrOf at h
 split at h
 ·cases h; rfl
 cases h
def stSt (ops : Array Oper) (F : Fr) (o : Oper) : Option (TypeId × Nat × Nat × Value) := match gd ops F o, o.dst, o.op with
 | some true, none, .store t x y => match adrOf (ev F x), ev F y with
  | some (b, off), some u => some (t, b, off, u)
  | _, _ => none
 | _, _, _ => none
theorem stSt_is {o : Oper} {t : TypeId} {b off : Nat} {u : Value} (h : stSt ops F o = some (t, b, off, u)) : ∃ x y, o.dst = none ∧ gd ops F o = some true ∧ o.op = .store t x y ∧ ev F x = some (.pointer (some ⟨b, off, none⟩)) ∧ ev F y = some u := by
 unfold stSt at h
 split at h
 ·rename_i t' x y h1 h2 h3
  split at h
  ·rename_i h4 h5; cases h; exact ⟨x, y, h2, h1, h3, adrOf_is h4, h5⟩
  cases h
 cases h
theorem sSt {o : Oper} {rest : List Oper} {t : TypeId} {u : Value} {b off : Nat} {l l2 cs : List Value} {e : TypeId} {L' : Lc} {sz by_ : Nat} {z : List Value} (h : stSt ops F o = some (t, b, off, u)) (k : JL P ops N Q rest F E M L')
  [hl : Lay P t sz by_ z] (hc : u.cells = cs.toArray := by rfl) (hn : cs.length = sz := by rfl) (h1 : (cs.all fun v => v.oneCell') = true := by rfl) [at_ : At b (.cells l.toArray e (0, 0)) L] (hfit : Nat.ble (off + sz) l.length = true := by rfl) (h2 : l.take off ++ cs ++ l.drop (off + cs.length) = l2 := by first | (simp only [Nat.reduceAdd, Nat.zero_add, Nat.add_zero, List.drop_succ_cons, List.drop_zero, List.drop_nil, List.take_succ_cons, List.take_zero, List.take_nil, List.cons_append, List.nil_append, List.append_nil, List.length_cons, List.length_nil]; try rfl) | rfl)
  [hp : PutAt b (.cells l.toArray e (0, 0)) (.cells l2.toArray e (0, 0)) L L'] : JL P ops N Q (o :: rest) F E M L := by
 obtain ⟨x, y, hd, hg, ho, hx, hy⟩ := stSt_is h
 exact jl_s hd (wBm hg ho hx hy hc hn h1 hfit h2) fun _ _ _ ⟨h1, h2⟩ => by subst h1; subst h2; exact k
def stFa (N : Fs) (ops : Array Oper) (F : Fr) (o : Oper) : Option (Nat × TypeId × Nat × Nat × Nat) := match gd ops F o, o.dst, o.op with
 | some true, some d, .fieldAddr s x i => match Nat.blt d N.n, adrOf (ev F x) with
  | true, some (b, off) => some (d, s, i, b, off)
  | _, _ => none
 | _, _, _ => none
theorem stFa_is {o : Oper} {d : Nat} {s : TypeId} {i b off : Nat} (h : stFa N ops F o = some (d, s, i, b, off)) : ∃ x, o.dst = some d ∧ Nat.blt d N.n = true ∧ gd ops F o = some true ∧ o.op = .fieldAddr s x i ∧ ev F x = some (.pointer (some ⟨b, off, none⟩)) := by
 unfold stFa at h
 split at h
 ·rename_i d' s' x i' h1 h2 h3
  split at h
  ·rename_i h4 h5; cases h; exact ⟨x, h2, h4, h1, h3, adrOf_is h5⟩
  cases h
 cases h
theorem sFa {o : Oper} {rest : List Oper} {d : Nat} {s : TypeId} {i fo : Nat} {ft : TypeId} {sz by_ : Nat} {z : List Value} {b off off' : Nat} (h : stFa N ops F o = some (d, s, i, b, off)) (k : JL P ops N Q rest ((d, .pointer (some ⟨b, off', none⟩)) :: F) E M L) [hf : Fld P s i fo ft] [hl : Lay P ft sz by_ z]
  (hz : Nat.beq sz 0 = false := by rfl) (ho' : off + fo = off' := by rfl) : JL P ops N Q (o :: rest) F E M L := by
 obtain ⟨x, hd, hN, hg, ho, hx⟩ := stFa_is h
 exact wAi hd hN (wBg hg ho hx hz ho') k
def stLd (N : Fs) (ops : Array Oper) (F : Fr) (o : Oper) : Option (Nat × TypeId × Nat × Nat) := match gd ops F o, o.dst, o.op with
 | some true, some d, .load t x => match Nat.blt d N.n, adrOf (ev F x) with
  | true, some (b, off) => some (d, t, b, off)
  | _, _ => none
 | _, _, _ => none
theorem stLd_is {o : Oper} {d : Nat} {t : TypeId} {b off : Nat} (h : stLd N ops F o = some (d, t, b, off)) : ∃ x, o.dst = some d ∧ Nat.blt d N.n = true ∧ gd ops F o = some true ∧ o.op = .load t x ∧ ev F x = some (.pointer (some ⟨b, off, none⟩)) := by
 unfold stLd at h
 split at h
 ·rename_i d' t' x h1 h2 h3
  split at h
  ·rename_i h4 h5; cases h; exact ⟨x, h2, h4, h1, h3, adrOf_is h5⟩
  cases h
 cases h
theorem sLd {o : Oper} {rest : List Oper} {d : Nat} {t : TypeId} {td : TypeDesc} {b off : Nat} {v : Value} {l : List Value} {e : TypeId} {fz : Nat × Nat} (h : stLd N ops F o = some (d, t, b, off)) (k : JL P ops N Q rest ((d, v) :: F) E M L) [hu : Und P t td] (ha : aggD td = false := by rfl) [at_ : At b (.cells l.toArray e fz) L] (hc : l[off]? = some v := by rfl) : JL P ops N Q (o :: rest) F E M L := by
 obtain ⟨x, hd, hN, hg, ho, hx⟩ := stLd_is h
 exact wAi hd hN (qLd hg ho hx ha (CJ.loc hc)) k
theorem sLL {o : Oper} {rest : List Oper} {d : Nat} {t : TypeId} {td : TypeDesc} {b off sz by_ : Nat} {z l cs : List Value} {e : TypeId} {fz : Nat × Nat} (h : stLd N ops F o = some (d, t, b, off)) (k : JL P ops N Q rest ((d, .agg cs.toArray) :: F) E M L) [hu : Und P t td] [hl : Lay P t sz by_ z] (ha : aggD td = true := by rfl)
  [at_ : At b (.cells l.toArray e fz) L] (hfit : Nat.ble (off + sz) l.length = true := by rfl) (hc : (l.drop off).take sz = cs := by first | (simp only [Nat.reduceAdd, Nat.zero_add, Nat.add_zero, List.drop_succ_cons, List.drop_zero, List.drop_nil, List.take_succ_cons, List.take_zero, List.take_nil, List.cons_append, List.nil_append, List.append_nil, List.length_cons, List.length_nil]; try rfl) | rfl) : JL P ops N Q (o :: rest) F E M L := by
 obtain ⟨x, hd, hN, hg, ho, hx⟩ := stLd_is h
 exact wAi hd hN (qLdL hg ho hx ha hfit hc) k
theorem sFL {o o2 : Oper} {rest : List Oper} {d : Nat} {s : TypeId} {i fo : Nat} {ft : TypeId} {sz by_ : Nat} {z : List Value} {b off : Nat} {d2 : Nat} {t : TypeId} {td : TypeDesc} {b2 off2 : Nat} {v : Value} {l : List Value} {e : TypeId} {fz : Nat × Nat} (h : stFa N ops F o = some (d, s, i, b, off)) [hf : Fld P s i fo ft] (h2 : stLd N ops ((d, .pointer (some ⟨b, off + fo, none⟩)) :: F) o2 = some (d2, t, b2, off2))
  (k : JL P ops N Q rest ((d2, v) :: (d, .pointer (some ⟨b, off + fo, none⟩)) :: F) E M L) [hl : Lay P ft sz by_ z] (hz : Nat.beq sz 0 = false := by rfl) [hu : Und P t td] (ha : aggD td = false := by rfl) [at_ : At b2 (.cells l.toArray e fz) L] (hc : l[off2]? = some v := by rfl) : JL P ops N Q (o :: o2 :: rest) F E M L := sFa h (sLd h2 k ha hc) hz rfl
theorem sFF {o o2 : Oper} {rest : List Oper} {d : Nat} {s : TypeId} {i fo : Nat} {ft : TypeId} {sz by_ : Nat} {z : List Value} {b off : Nat} {d2 : Nat} {s2 : TypeId} {i2 fo2 : Nat} {ft2 : TypeId} {sz2 by2 : Nat} {z2 : List Value} {b2 off2 : Nat} (h : stFa N ops F o = some (d, s, i, b, off)) [hf : Fld P s i fo ft] (h2 : stFa N ops ((d, .pointer (some ⟨b, off + fo, none⟩)) :: F) o2 = some (d2, s2, i2, b2, off2))
  [hf2 : Fld P s2 i2 fo2 ft2] (k : JL P ops N Q rest ((d2, .pointer (some ⟨b2, off2 + fo2, none⟩)) :: (d, .pointer (some ⟨b, off + fo, none⟩)) :: F) E M L) [hl : Lay P ft sz by_ z] (hz : Nat.beq sz 0 = false := by rfl) [hl2 : Lay P ft2 sz2 by2 z2] (hz2 : Nat.beq sz2 0 = false := by rfl) : JL P ops N Q (o :: o2 :: rest) F E M L := sFa h (sFa h2 k hz2 rfl) hz rfl
def stAl (N : Fs) (ops : Array Oper) (F : Fr) (o : Oper) : Option (Nat × TypeId) := match gd ops F o, o.dst, o.op with
 | some true, some d, .alloc t => match Nat.blt d N.n with
  | true => some (d, t)
  | _ => none
 | _, _, _ => none
theorem stAl_is {o : Oper} {d : Nat} {t : TypeId} (h : stAl N ops F o = some (d, t)) : o.dst = some d ∧ Nat.blt d N.n = true ∧ gd ops F o = some true ∧ o.op = .alloc t := by
 unfold stAl at h
 split at h
 ·rename_i d' t' h1 h2 h3
  split at h
  ·rename_i h4; cases h; exact ⟨h2, h4, h1, h3⟩
  cases h
 cases h
theorem sAl {o : Oper} {rest : List Oper} {d : Nat} {t : TypeId} {sz by_ : Nat} {z : List Value} (h : stAl N ops F o = some (d, t)) [hl : Lay P t sz by_ z] (k : ∀ b, JL P ops N Q rest ((d, .pointer (some ⟨b, 0, none⟩)) :: F) E M ((b, .cells z.toArray t (0, 0)) :: L)) : JL P ops N Q (o :: rest) F E M L := by
 obtain ⟨hd, hN, hg, ho⟩ := stAl_is h
 exact wAy hd hN (wDy hg ho) fun v M' L' ⟨b, h1, h2, h3⟩ => by subst h1; subst h2; subst h3; exact k b
variable {Mi Mw : Mem} {Li Lw : Lc} {p : Ph}
theorem dFa {j : Nat} {rest : List (Nat × Bool)} {o : Oper} {d : Nat} {s : TypeId} {i fo : Nat} {ft : TypeId} {sz by_ : Nat} {z : List Value} {b off off' : Nat} (ho : ops[j]? = some o) (h : stFa N ops F o = some (d, s, i, b, off)) (k : JD P ops N p Mw Lw Q rest ((d, .pointer (some ⟨b, off', none⟩)) :: F) E M L Mi Li) [hf : Fld P s i fo ft] [hl : Lay P ft sz by_ z]
  (hz : Nat.beq sz 0 = false := by rfl) (ho' : off + fo = off' := by rfl) (hA : p.A j = true := by rfl) (hU : p.U j = true := by rfl) : JD P ops N p Mw Lw Q ((j, true) :: rest) F E M L Mi Li := by
 obtain ⟨x, hd, hN, hg, hop, hx⟩ := stFa_is h
 exact wBq ho hd hN (wBg hg hop hx hz ho') k hA hU
theorem dLd {j : Nat} {rest : List (Nat × Bool)} {o : Oper} {d : Nat} {t : TypeId} {td : TypeDesc} {b off : Nat} {v : Value} {l : List Value} {e : TypeId} {fz : Nat × Nat} (ho : ops[j]? = some o) (h : stLd N ops F o = some (d, t, b, off)) (k : JD P ops N p Mw Lw Q rest ((d, v) :: F) E M L Mi Li) [hu : Und P t td] (ha : aggD td = false := by rfl) [at_ : At b (.cells l.toArray e fz) Li] (hc : l[off]? = some v := by rfl) (hA : p.A j = true := by rfl) (hU : p.U j = true := by rfl) : JD P ops N p Mw Lw Q ((j, true) :: rest) F E M L Mi Li := by
 obtain ⟨x, hd, hN, hg, hop, hx⟩ := stLd_is h
 exact wBq ho hd hN (qLd hg hop hx ha (CJ.loc hc)) k hA hU
theorem dLL {j : Nat} {rest : List (Nat × Bool)} {o : Oper} {d : Nat} {t : TypeId} {td : TypeDesc} {b off sz by_ : Nat} {z l cs : List Value} {e : TypeId} {fz : Nat × Nat} (ho : ops[j]? = some o) (h : stLd N ops F o = some (d, t, b, off)) (k : JD P ops N p Mw Lw Q rest ((d, .agg cs.toArray) :: F) E M L Mi Li) [hu : Und P t td] [hl : Lay P t sz by_ z] (ha : aggD td = true := by rfl)
  [at_ : At b (.cells l.toArray e fz) Li] (hfit : Nat.ble (off + sz) l.length = true := by rfl) (hc : (l.drop off).take sz = cs := by first | (simp only [Nat.reduceAdd, Nat.zero_add, Nat.add_zero, List.drop_succ_cons, List.drop_zero, List.drop_nil, List.take_succ_cons, List.take_zero, List.take_nil, List.cons_append, List.nil_append, List.append_nil, List.length_cons, List.length_nil]; try rfl) | rfl) (hA : p.A j = true := by rfl) (hU : p.U j = true := by rfl) : JD P ops N p Mw Lw Q ((j, true) :: rest) F E M L Mi Li := by
 obtain ⟨x, hd, hN, hg, hop, hx⟩ := stLd_is h
 exact wBq ho hd hN (qLdL hg hop hx ha hfit hc) k hA hU
end
def plain : Obj → Bool
 | .cells _ _ fz => decide (fz = (0, 0))
 | _ => false
def wEn (M M' : Mem) : Mem := fun b => match M b with | none => (match M' b with | some o => if plain o = true then some o else none | none => none) | some _ => none
theorem newOf_iff {M M' : Mem} {b : Nat} {o : Obj} : wEn M M' b = some o ↔ M b = none ∧ M' b = some o ∧ plain o = true := by
 unfold wEn
 cases h1 : M b with
 | some x => simp
 | none =>
  cases h2 : M' b with
  | none => simp
  | some x =>
   by_cases hp : plain x = true
   ·simp only [if_pos hp]; exact ⟨fun h => by cases h; exact ⟨trivial, rfl, hp⟩, fun h => h.2.1⟩
   simp only [if_neg hp]; exact ⟨fun h => (by cases h), fun h => absurd (by have := h.2.1; cases this; exact h.2.2) hp⟩
theorem wGf (M M' : Mem) : MLe (wEn M M') M' := fun b o h => (newOf_iff.1 h).2.1
theorem newOf_mono {M M1 M2 : Mem} (h : MLe M1 M2) : MLe (wEn M M1) (wEn M M2) := fun b o hb => by
 obtain ⟨h1, h2, h3⟩ := newOf_iff.1 hb
 exact newOf_iff.2 ⟨h1, h b o h2, h3⟩
theorem wHi {M0 M M' : Mem} (h : MLe M0 M) : MLe (wEn M M') (wEn M0 M') := fun b o hb => by
 obtain ⟨h1, h2, h3⟩ := newOf_iff.1 hb
 refine newOf_iff.2 ⟨?_, h2, h3⟩
 cases h0 : M0 b with
 | none => rfl
 | some x => rw [h b x h0] at h1; cases h1
section
variable {P : Program} {ops : Array Oper} {N : Fs} {F : Fr} {W : World} {X : List Nat} {M0 M : Mem} {L : Lc} {o : Oper} {Q : Exit → Act → World → Prop} {rest : List Oper}
theorem Own.freezeN {v : Value} {R : Lc} {e : TypeId} {size n : Nat} {xs : List Value} (ho : Own v R e size n xs) (hg : ∀ p ∈ R, p.1 ∉ X) {w : World} (h : St ⟨W, X, M0⟩ M (R ++ L) w) : ∃ M' a cap, MLe M M' ∧ v = .slice a n cap ∧ n ≤ cap ∧ SM (wEn M M') a xs ∧ St ⟨W, X, M0⟩ M' L w := by
 rcases ho.2 with ⟨rfl, rfl, rfl⟩ | ⟨g, cap, cur, rfl, rfl, h1, h2, h3, h4⟩
 ·have : xs = [] := List.eq_nil_of_length_eq_zero (by simpa using ho.1)
  subst this
  exact ⟨M, none, 0, MLe.refl _, rfl, Nat.le_refl _, .inl rfl, h⟩
 have hn : M g = none := (h.locs (g, .cells cur e (0, 0)) (by simp)).2.2
 obtain ⟨k1, k2, k3⟩ := St.freeze' (hg (g, .cells cur e (0, 0)) (by simp)) h
 refine ⟨_, _, cap, k2, rfl, h1, .inr ⟨g, 0, rfl, fun i u hu => ⟨cur, e, (0, 0), ?_, ?_⟩⟩, k1⟩
 ·exact newOf_iff.2 ⟨hn, k3, rfl⟩
 rw [← h4, List.getElem?_take] at hu
 split at hu
 ·simpa using hu
 cases hu
theorem jl_ownN {v : Value} {R L2 : Lc} {e : TypeId} {size n : Nat} {xs : List Value} (ho : Own v R e size n xs) [hp : Pick R L L2] (hg : ∀ p ∈ R, p.1 ∉ X)
  (h : ∀ M' a cap, MLe M M' → v = .slice a n cap → n ≤ cap → SM (wEn M M') a xs → JL P ops N Q rest F ⟨W, X, M0⟩ M' L2) : JL P ops N Q rest F ⟨W, X, M0⟩ M L := by
 intro a w ha hw
 obtain ⟨M', ad, cap, k1, k2, k3, k4, k5⟩ := ho.freezeN hg (hw.perm hp.perm)
 exact h M' ad cap k1 k2 k3 k4 a w ha k5
theorem jq_ownN {ex : Exit} {v : Value} {R L2 : Lc} {e : TypeId} {size n : Nat} {xs : List Value} (ho : Own v R e size n xs) [hp : Pick R L L2] (hg : ∀ p ∈ R, p.1 ∉ X)
  (h : ∀ M' a cap, MLe M M' → v = .slice a n cap → n ≤ cap → SM (wEn M M') a xs → JQ N ex F ⟨W, X, M0⟩ M' L2 Q) : JQ N ex F ⟨W, X, M0⟩ M L Q := by
 intro a w ha hw
 obtain ⟨M', ad, cap, k1, k2, k3, k4, k5⟩ := ho.freezeN hg (hw.perm hp.perm)
 exact h M' ad cap k1 k2 k3 k4 a w ha k5
end
def addL (M : Mem) : Lc → Mem
 | [] => M
 | p :: R => (addL M R).set p.1 p.2
theorem wMd {M : Mem} {b : Nat} : ∀ {R : Lc}, b ∉ R.map (·.1) → addL M R b = M b
 | [], _ => rfl
 | p :: R, h => by
  rw [List.map_cons, List.mem_cons, not_or] at h
  show (if b = p.1 then some p.2 else addL M R b) = _
  rw [if_neg h.1]; exact wMd h.2
theorem wKr {M : Mem} {p : Nat × Obj} : ∀ {R : Lc}, (R.map (·.1)).Nodup → p ∈ R → addL M R p.1 = some p.2
 | q :: R, hn, h => by
  rw [List.map_cons, List.nodup_cons] at hn
  show (if p.1 = q.1 then some q.2 else addL M R p.1) = _
  rcases List.mem_cons.1 h with rfl | h
  ·rw [if_pos rfl]
  have : p.1 ≠ q.1 := fun e => hn.1 (by rw [← e]; exact List.mem_map.2 ⟨p, h, rfl⟩)
  rw [if_neg this]; exact wKr hn.2 h
theorem addL_le {M : Mem} {R : Lc} (h : ∀ p ∈ R, M p.1 = none) : MLe M (addL M R) := fun b o hb => by
 have : b ∉ R.map (·.1) := fun hm => by
  obtain ⟨p, hp, rfl⟩ := List.mem_map.1 hm
  rw [h p hp] at hb; cases hb
 rw [wMd this]; exact hb
def subL (M : Mem) (R : Lc) : Mem := fun b => if b ∈ R.map (·.1) then none else M b
theorem subL_le (M : Mem) (R : Lc) : MLe (subL M R) M := fun b o h => by
 unfold subL at h; split at h
 ·cases h
 exact h
theorem newOf_sub {M M1 : Mem} {R : Lc} (hn : (R.map (·.1)).Nodup) : MLe (wEn (addL M R) M1) (subL M1 R) := fun b o h => by
 have hb : b ∉ R.map (·.1) := fun hm => by
  obtain ⟨p, hp, rfl⟩ := List.mem_map.1 hm
  have h2 := (newOf_iff.1 h).1
  rw [wKr hn hp] at h2; cases h2
 unfold subL; rw [if_neg hb]; exact wGf _ _ _ _ h
theorem St.lend {W : World} {X : List Nat} {M0 M : Mem} {R L : Lc} {w : World} (h : St ⟨W, X, M0⟩ M (R ++ L) w) : (R.map (·.1)).Nodup ∧ ∀ p ∈ R, M p.1 = none := by
 refine ⟨?_, fun p hp => (h.locs p (List.mem_append_left _ hp)).2.2⟩
 have := h.nodup
 rw [List.map_append] at this
 exact (List.nodup_append.1 this).1
theorem SpecL.lend {P : Program} {f : FuncId} {args : Array Value} {M : Mem} {R L : Lc} {post : Value → Mem → Lc → Prop} (h : (R.map (·.1)).Nodup → (∀ p ∈ R, M p.1 = none) → SpecL P f args (addL M R) L post) :
  SpecL P f args M (R ++ L) fun v M' L' => ∃ M1 L1, post v M1 L1 ∧ L' = R ++ L1 ∧ M' = subL M1 R ∧ (R.map (·.1)).Nodup := by
 intro w hw
 obtain ⟨hn, hR⟩ := hw.lend
 have hle := addL_le hR
 have hnd := hw.nodup
 rw [List.map_append] at hnd
 have hdis : ∀ p ∈ L, p.1 ∉ R.map (·.1) := fun p hp hm => (List.nodup_append.1 hnd).2.2 _ hm _ (List.mem_map_of_mem hp) rfl
 have hw1 : St ⟨w, L.map (·.1), addL M R⟩ (addL M R) L w := by
  refine { os := rfl, tape := rfl, output := rfl, size := Nat.le_refl _, same := fun _ _ _ => rfl, fresh := fun _ _ => rfl, agree := fun b o hb => ?_, locs := fun p hp => ?_, nodup := (List.nodup_append.1 hnd).2.1 }
  ·by_cases hm : b ∈ R.map (·.1)
   ·obtain ⟨p, hp, rfl⟩ := List.mem_map.1 hm
    rw [wKr hn hp] at hb; cases hb
    exact (hw.locs p (List.mem_append_left _ hp)).1
   rw [wMd hm] at hb; exact hw.agree b o hb
  obtain ⟨a1, a2, a3⟩ := hw.locs p (List.mem_append_right _ hp)
  exact ⟨a1, .inr (List.mem_map_of_mem hp), by rw [wMd (hdis p hp)]; exact a3⟩
 refine (h hn hR w hw1).mono ?_
 rintro e w' ⟨v, M1, L1, rfl, hpost, hs⟩
 refine ⟨v, subL M1 R, R ++ L1, rfl, ⟨M1, L1, hpost, rfl, rfl, hn⟩, ?_⟩
 have hlt : ∀ p ∈ R, p.1 < w.heap.size := fun p hp => wDj (hw.locs p (List.mem_append_left _ hp)).1
 have hon : ∀ p ∈ R, M1 p.1 = some p.2 := fun p hp => (hs.fresh p.1 (hlt p hp)).trans (wKr hn hp)
 refine { os := hs.os, tape := hs.tape, output := hs.output, size := hs.size, same := fun k hk hx => ?_, fresh := fun k hk => ?_, agree := fun b o hb => hs.agree b o (subL_le _ _ b o hb), locs := fun p hp => ?_, nodup := ?_ }
 ·refine hs.same k hk fun hm => hx ?_
  show k ∈ (R ++ L).map (·.1)
  rw [List.map_append]; exact List.mem_append_right _ hm
 ·by_cases hm : k ∈ R.map (·.1)
  ·obtain ⟨p, hp, rfl⟩ := List.mem_map.1 hm
   have h1 : M p.1 = none := hR p hp
   show subL M1 R p.1 = M p.1
   unfold subL; rw [if_pos hm, h1]
  show subL M1 R k = M k
  unfold subL; rw [if_neg hm, ← wMd (M := M) hm]; exact hs.fresh k hk
 ·rcases List.mem_append.1 hp with hp | hp
  ·refine ⟨hs.agree _ _ (hon p hp), .inr ?_, ?_⟩
   ·show p.1 ∈ (R ++ L).map (·.1)
    rw [List.map_append]; exact List.mem_append_left _ (List.mem_map_of_mem hp)
   unfold subL; rw [if_pos (List.mem_map_of_mem hp)]
  obtain ⟨a1, a2, a3⟩ := hs.locs p hp
  refine ⟨a1, a2.imp id fun a2 => ?_, ?_⟩
  ·show p.1 ∈ (R ++ L).map (·.1)
   rw [List.map_append]; exact List.mem_append_right _ a2
  unfold subL; split
  ·rfl
  exact a3
 rw [List.map_append, List.nodup_append]
 refine ⟨hn, hs.nodup, fun x hx y hy e => ?_⟩
 subst e
 obtain ⟨p, hp, rfl⟩ := List.mem_map.1 hx
 obtain ⟨q, hq, e⟩ := List.mem_map.1 hy
 have h1 := (hs.locs q hq).2.2
 rw [e, hon p hp] at h1; cases h1
theorem Own.lent {v : Value} {R : Lc} {e : TypeId} {size n : Nat} {xs : List Value} {M : Mem} (ho : Own v R e size n xs) (h : ∀ p ∈ R, M p.1 = some p.2) : ∃ a cap, v = .slice a n cap ∧ n ≤ cap ∧ SM M a xs := by
 rcases ho.2 with ⟨rfl, rfl, rfl⟩ | ⟨g, cap, cur, rfl, rfl, h1, h2, h3, h4⟩
 ·have : xs = [] := List.eq_nil_of_length_eq_zero (by simpa using ho.1)
  exact ⟨none, 0, rfl, Nat.le_refl _, .inl this⟩
 refine ⟨_, cap, rfl, h1, .inr ⟨g, 0, rfl, fun i u hu => ⟨cur, e, (0, 0), h (g, .cells cur e (0, 0)) (by simp), ?_⟩⟩⟩
 rw [← h4, List.getElem?_take] at hu
 split at hu
 ·simpa using hu
 cases hu
end Go.Proofs.YtkcpllhggofloaaGreat
