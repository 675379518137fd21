/- THE WALKING LAYER: regions in which several operations that take memory are ready at once; appends of what is read; a make appended. No statement of the seat is proved here. -/
import Derived.Test.YtbhkdjheooknfaaGreatZHf
import Derived.Scope
import Derived.Laws.BitsLemmas
import Derived.Lib.AppendZeros
namespace Go.Proofs.YtbhkdjheooknfaaGreat
set_option linter.unusedSimpArgs false
set_option linter.unusedVariables false
set_option linter.unusedSectionVars false
open Go.RowKit
def RoundL (P : Program) (l : Nat) (args : Array Value) (M : Mem) (L : Lc) (post : Value → Mem → Lc → Prop) : Prop :=
 ∀ w, St ⟨w, L.map (·.1), M⟩ M L w → YieldAt Fence.wide 0 P l args w fun e w' => ∃ v M' L', e = .returned v ∧ post v M' L' ∧ St ⟨w, L.map (·.1), M⟩ M' L' w'
theorem RoundL.mono {P : Program} {l : Nat} {args : Array Value} {M : Mem} {L : Lc} {post post' : Value → Mem → Lc → Prop} (h : RoundL P l args M L post) (hp : ∀ v M' L', post v M' L' → post' v M' L') : RoundL P l args M L post' := fun w hw => by
 obtain ⟨fn, t, a, b, h1, h2⟩ := h w hw
 exact ⟨fn, t, a, b, h1, h2.mono fun _ _ ⟨v, M', L', x, y, z⟩ => ⟨v, M', L', x, hp _ _ _ y, z⟩⟩
section
variable {P : Program} {ops : Array Oper} {N : Fs} {F : Fr} {E : Ent} {M : Mem} {L : Lc} {o : Oper}
theorem run_yieldOp {x : Operand} {xs : List Operand} {T : Array TypeId} {l : Nat} {vs : List Value} {a : Act} (ho : o.op = .call { callee := .value x, args := xs.toArray, argTypes := T }) (ha : Has N F a) (hx : ev F x = some (.func (.yield l) #[] #[])) (hv : evs F xs = some vs)
  (w : World) : (execOp a.eval o).run P w = (Instr.yield l vs.toArray).run P w := by
 have h1 := ha.evs hv
 have h2 : xs.toArray.map a.eval = vs.toArray := by rw [← h1]; simp
 simp [execOp, ho, resolve, h2, ha.ev hx, Deferred.ofValue, invoke]
theorem hYield {x : Operand} {xs : List Operand} {T : Array TypeId} {l : Nat} {vs : List Value} {R L2 : Lc} {post : Value → Mem → Lc → Prop} (hg : gd ops F o = some true)
  (ho : o.op = .call { callee := .value x, args := xs.toArray, argTypes := T }) (hx : ev F x = some (.func (.yield l) #[] #[])) (hv : evs F xs = some vs)
  (hs : RoundL P l vs.toArray M R post) [hp : Pick R L L2] : HF P ops N F E M L o (fun v M' L' => MLe M M' ∧ ∃ R', L' = R' ++ L2 ∧ post v M' R') := fun a w ha hw =>
 ⟨gd_spec ha hg, fun Q => by
  have hw' := hw.perm hp.perm
  refine ⟨fun _ _ => trivial, ?_⟩
  obtain ⟨fn, t, asg, bd, h1, h2⟩ := hs w hw'.into
  rw [Oper.semAt_eq _ _ _ (fun c hc => by rw [ho] at hc; cases hc), run_yieldOp ho ha hx hv w, h1]
  refine ⟨wHn _ _, ?_⟩
  have h3 : RoundIn (FF N.r) (0 - 1) P l fn t asg bd w _ := h2
  refine h3.mono fun e w' hh => ?_
  obtain ⟨v, M', R', rfl, hpost, h⟩ := hh
  obtain ⟨k1, k2⟩ := hw'.back h
  exact ⟨v, M', R' ++ L2, rfl, k1, k2, R', rfl, hpost⟩⟩
end
def Iter (P : Program) (gf : FuncId) (lb : List Value) (M : Mem) {α : Type} (enc : α → List Value) (xs : List α) : Prop :=
 ∀ (l : Nat) (J Jx : List α → Mem → Lc → Prop) (M1 : Mem) (L : Lc), MLe M M1 →
  (∀ pre y M2 L2, MLe M1 M2 → J pre M2 L2 → pre ++ [y] <+: xs → RoundL P l (enc y).toArray M2 L2 fun v M' L' => (v = .bool true ∧ J (pre ++ [y]) M' L') ∨ (v = .bool false ∧ Jx (pre ++ [y]) M' L')) →
  J [] M1 L → SpecL P gf (.func (.yield l) #[] #[] :: lb).toArray M1 L fun _ M' L' => J xs M' L' ∨ ∃ pre, pre <+: xs ∧ Jx pre M' L'
theorem Iter.mono {P : Program} {gf : FuncId} {lb : List Value} {M M' : Mem} {α : Type} {enc : α → List Value} {xs : List α} (h : Iter P gf lb M enc xs) (hM : MLe M M') : Iter P gf lb M' enc xs :=
 fun l J Jx M1 L h1 => h l J Jx M1 L (hM.trans h1)
def IterR (b : Bool) (P : Program) (gf : FuncId) (lb : List Value) (M : Mem) {α : Type} (En : α → Mem → List Value → Prop) (xs : List α) : Prop :=
 ∀ (l : Nat) (J Jx : List α → Mem → Lc → Prop) (M1 : Mem) (L : Lc), MLe M M1 → (b = true → ∀ pre M2 M3 L2, MLe M2 M3 → J pre M2 L2 → J pre M3 L2) →
  (∀ pre y M2 L2 vs, MLe M1 M2 → J pre M2 L2 → pre ++ [y] <+: xs → En y M2 vs → RoundL P l vs.toArray M2 L2 fun v M' L' => (v = .bool true ∧ J (pre ++ [y]) M' L') ∨ (v = .bool false ∧ Jx (pre ++ [y]) M' L')) →
  J [] M1 L → SpecL P gf (.func (.yield l) #[] #[] :: lb).toArray M1 L fun _ M' L' => J xs M' L' ∨ ∃ pre, pre <+: xs ∧ Jx pre M' L'
theorem Iter.rel {P : Program} {gf : FuncId} {lb : List Value} {M : Mem} {α : Type} {enc : α → List Value} {xs : List α} (h : Iter P gf lb M enc xs) : IterR false P gf lb M (fun y _ vs => vs = enc y) xs :=
 fun l J Jx M1 L hM _ hJ h0 => h l J Jx M1 L hM (fun pre y M2 L2 a b c => hJ pre y M2 L2 _ a b c rfl) h0
def zipFr : List Nat → List Value → Fr → Fr
 | p :: ps, v :: vs, F => zipFr ps vs ((p, v) :: F)
 | _, _, F => F
theorem Has.zip {n : Nat} {r : Option Nat} : ∀ (ps : List Nat) (vs : List Value) (F : Fr) (t : Array Value), (∀ p ∈ ps, p < n) → Has ⟨n, [], r⟩ F { tmps := t, defers := [] } →
  Has ⟨n, [], r⟩ (zipFr ps vs F) { tmps := (ps.zip vs).foldl (fun t (p, v) => t.setIfInBounds p v) t, defers := [] }
 | [], _, _, _, _, h => h
 | _ :: _, [], _, _, _, h => h
 | p :: ps, v :: vs, F, t, hp, h => Has.zip ps vs ((p, v) :: F) _ (fun q hq => hp q (by simp [hq])) (h.put (d := p) (hp p (by simp)) v)
def roundQ {α : Type} (E : Ent) (I : List α → Mem → Lc → Prop) (Ix : Code → List α → Mem → Lc → Prop) (pre : List α) : Exit → Act → World → Prop
 | .normal, _, w => ∃ M' R', I pre M' R' ∧ St E M' R' w
 | .ret, _, w => ∃ M' R', Ix .ret pre M' R' ∧ St E M' R' w
 | .exit id, _, w => ∃ M' R', Ix (.exit id) pre M' R' ∧ St E M' R' w
 | .goto t, _, w => ∃ M' R', Ix (.goto t) pre M' R' ∧ St E M' R' w
 | .panic _, _, _ => False
 | .outgrown, _, _ => False
def roundK {α : Type} (P : Program) (n l : Nat) (body : Code) (W : World) (X : List Nat) (M1 : Mem) (I : List α → Mem → Lc → Prop) (Ix : Code → List α → Mem → Lc → Prop) (pre : List α) (a : Act) (w : World) : Prop :=
 ∃ F' M' R', Has ⟨n, [], some l⟩ F' a ∧ St ⟨W, X, M1⟩ M' R' w ∧ ∀ W', W'.heap.size = W.heap.size → JC P ⟨n, [], some l⟩ body F' ⟨W', X, M1⟩ M' R' (roundQ ⟨W', X, M1⟩ I Ix pre)
theorem jK {α : Type} {P : Program} {n l : Nat} {body : Code} {W : World} {X : List Nat} {M1 M : Mem} {I : List α → Mem → Lc → Prop} {Ix : Code → List α → Mem → Lc → Prop} {pre : List α} {F : Fr} {R : Lc} {Q : Exit → Act → World → Prop}
  (h : ∀ W', JC P ⟨n, [], some l⟩ body F ⟨W', X, M1⟩ M R (roundQ ⟨W', X, M1⟩ I Ix pre)) : JQ ⟨n, [], some l⟩ .normal F ⟨W, X, M1⟩ M R (Exit.then (roundK P n l body W X M1 I Ix pre) Q) :=
 fun _ _ ha hw => ⟨F, M, R, ha, hw, fun W' _ => h W'⟩
theorem jQn {α : Type} {N : Fs} {E : Ent} {I : List α → Mem → Lc → Prop} {Ix : Code → List α → Mem → Lc → Prop} {pre : List α} {F : Fr} {M : Mem} {R : Lc} (h : I pre M R) : JQ N .normal F E M R (roundQ E I Ix pre) := fun _ _ _ hw => ⟨M, R, h, hw⟩
theorem jQx {α : Type} {N : Fs} {E : Ent} {I : List α → Mem → Lc → Prop} {Ix : Code → List α → Mem → Lc → Prop} {pre : List α} {F : Fr} {M : Mem} {R : Lc} {id : Nat} (h : Ix (.exit id) pre M R) : JQ N (.exit id) F E M R (roundQ E I Ix pre) := fun _ _ _ hw => ⟨M, R, h, hw⟩
theorem St.both {W : World} {X : List Nat} {M0 M : Mem} {R : Lc} {w : World} {l : Nat} (o : Obj) (h : St ⟨W, X, M0⟩ M R w) (hl : l < W.heap.size) (hx : l ∉ X) (hm : M0 l = none) : St ⟨W.putObj l o, X, M0⟩ M R (w.putObj l o) := by
 have hml : M l = none := (h.fresh l hl).trans hm
 refine { os := h.os, tape := h.tape, output := h.output, size := by simpa using h.size, same := fun k hk hkx => ?_, fresh := fun k hk => h.fresh k (by simpa using hk), agree := fun b x hb => ?_, locs := fun p hp => ?_, nodup := h.nodup }
 ·by_cases e : k = l
  ·subst e; rw [World.putObj_heap_same (Nat.lt_of_lt_of_le hl h.size), World.putObj_heap_same hl]
  rw [World.putObj_heap_other e, World.putObj_heap_other e]; exact h.same k (by simpa using hk) hkx
 ·have e : b ≠ l := fun e => by subst e; rw [hml] at hb; cases hb
  rw [World.putObj_heap_other e]; exact h.agree b x hb
 obtain ⟨h1, h2, h3⟩ := h.locs p hp
 have e : p.1 ≠ l := fun e => h2.elim (fun h2 => by rw [e] at h2; exact absurd hl (Nat.not_lt.2 h2)) (fun h2 => hx (e ▸ h2))
 exact ⟨by rw [World.putObj_heap_other e]; exact h1, by simpa using h2, h3⟩
theorem St.close {W : World} {X : List Nat} {M0 M : Mem} {R : Lc} {w : World} {l d : Nat} {o o2 od : Obj} (h : St ⟨W.putObj l o, X, M0⟩ M R w) (hl : l < W.heap.size) (hd : W.heap[d]? = some od) (hld : l ≠ d) (hlx : l ∉ X) (hdx : d ∉ X) (hml : M0 l = none) (hmd : M0 d = none) :
  St ⟨W, l :: d :: X, M0⟩ M ((l, o2) :: (d, od) :: R) (w.putObj l o2) := by
 have hs : W.heap.size ≤ w.heap.size := by simpa using h.size
 have hdl : d < W.heap.size := wCq hd
 have h1 : M l = none := (h.fresh l (by simpa using hl)).trans hml
 have h2 : M d = none := (h.fresh d (by simpa using hdl)).trans hmd
 have hp : ∀ p ∈ R, W.heap.size ≤ p.1 ∨ p.1 ∈ X := fun p hp => by simpa using (h.locs p hp).2.1
 have hpl : ∀ p ∈ R, p.1 ≠ l := fun p hq e => (hp p hq).elim (fun h => by omega) (fun h => hlx (e ▸ h))
 have hpd : ∀ p ∈ R, p.1 ≠ d := fun p hq e => (hp p hq).elim (fun h => by omega) (fun h => hdx (e ▸ h))
 refine { os := h.os, tape := h.tape, output := h.output, size := by simpa using hs, same := fun k hk hkx => ?_, fresh := fun k hk => h.fresh k (by simpa using hk), agree := fun b x hb => ?_, locs := fun p hq => ?_, nodup := ?_ }
 ·simp only [List.mem_cons, not_or] at hkx
  rw [World.putObj_heap_other hkx.1, h.same k (by simpa using hk) hkx.2.2, World.putObj_heap_other hkx.1]
 ·have e : b ≠ l := fun e => by subst e; rw [h1] at hb; cases hb
  rw [World.putObj_heap_other e]; exact h.agree b x hb
 ·rcases List.mem_cons.1 hq with rfl | hq
  ·exact ⟨World.putObj_heap_same (by omega), .inr (by simp), h1⟩
  rcases List.mem_cons.1 hq with rfl | hq
  ·refine ⟨?_, .inr (by simp), h2⟩
   show (w.putObj l o2).heap[d]? = _
   rw [World.putObj_heap_other (Ne.symm hld), h.same d (by simpa using hdl) hdx, World.putObj_heap_other (Ne.symm hld)]; exact hd
  refine ⟨by rw [World.putObj_heap_other (hpl p hq)]; exact (h.locs p hq).1, (hp p hq).imp id (fun h => by simp [h]), (h.locs p hq).2.2⟩
 simp only [List.map_cons, List.nodup_cons, List.mem_cons, List.mem_map, not_or]
 exact ⟨⟨hld, fun ⟨p, hq, e⟩ => hpl p hq e⟩, fun ⟨p, hq, e⟩ => hpd p hq e, h.nodup⟩
theorem jc_rangeRN {α : Type} {b : Bool} {P : Program} {n : Nat} {D : List Nat} {F : Fr} {E : Ent} {M : Mem} {L R L2 : Lc} {Q : Exit → Act → World → Prop} {g : Operand} {ps : List Nat} {assign body : Code} {gf : FuncId} {lb : List Value} {En : α → Mem → List Value → Prop} {xs : List α}
  (hg : ev F g = some (.func (.func gf) #[] lb.toArray)) (hgo : isGo P gf = true) (hit : IterR b P gf lb M En xs) [hp : Pick R L L2]
  (I : List α → Mem → Lc → Prop) (Ix : Code → List α → Mem → Lc → Prop) (hlen : ∀ y M' vs, En y M' vs → vs.length = ps.length) (hps : ∀ t ∈ ps, t < n) (h0 : I [] M R) (hIm : b = true → ∀ pre M2 M3 R, MLe M2 M3 → I pre M2 R → I pre M3 R)
  (hround : ∀ l W pre y M1 R1 vs, (∀ x ∈ R1.map (·.1), x < W.heap.size) → MLe M M1 → I pre M1 R1 → pre ++ [y] <+: xs → En y M1 vs →
   JC P ⟨n, [], some l⟩ assign (zipFr ps vs F) ⟨W, R1.map (·.1), M1⟩ M1 R1 (Exit.then (roundK P n l body W (R1.map (·.1)) M1 I Ix (pre ++ [y])) (fun _ _ _ => False)))
  (hdone : ∀ d M1 R1, MLe M M1 → I xs M1 R1 → JQ ⟨n, d :: D, none⟩ .normal F E M1 ((d, .deferred (some [])) :: (R1 ++ L2)) Q)
  (hstop : ∀ d c pre M1 R1, MLe M M1 → pre <+: xs → Ix c pre M1 R1 → JC P ⟨n, d :: D, none⟩ c F E M1 ((d, .deferred (some [])) :: (R1 ++ L2)) Q) :
  JC P ⟨n, D, none⟩ (.rangeFunc g ps.toArray assign body) F E M L Q := by
 intro a w ha hw
 refine wpIn_rangeFunc (F := FF none) fun fn _ => ?_
 obtain ⟨rec, hrec⟩ : ∃ rec : LoopState → Option Code → Loop, rec = fun st pe => { state := st, pending := pe, fn, tmps := a.tmps, params := ps.toArray, assign, body, defers := w.heap.size } := ⟨_, rfl⟩
 have hw0 := hw.perm hp.perm
 have hwd := hw0.alloc (.deferred (some []))
 have hwl := hwd.alloc (.loop (rec .ready none))
 rw [World.size_alloc] at hwl
 generalize hd : w.heap.size = d at *
 generalize hl : d + 1 = l at *
 generalize hW1 : (w.alloc (.deferred (some []))).alloc (.loop (rec .ready none)) = W1 at *
 let yv : Value := .func (.yield l) #[] #[]
 let J : List α → Mem → Lc → Prop := fun pre M' L' => ∃ R', L' = (l, .loop (rec .ready none)) :: (d, .deferred (some [])) :: R' ∧ MLe M M' ∧ I pre M' R'
 let Jx : List α → Mem → Lc → Prop := fun pre M' L' => ∃ c R', L' = (l, .loop (rec .done (some c))) :: (d, .deferred (some [])) :: R' ∧ Ix c pre M' R'
 have hld : l ≠ d := by omega
 have hround' : ∀ pre y M2 L2' vs, MLe M M2 → J pre M2 L2' → pre ++ [y] <+: xs → En y M2 vs → RoundL P l vs.toArray M2 L2' fun v M' L' => (v = .bool true ∧ J (pre ++ [y]) M' L') ∨ (v = .bool false ∧ Jx (pre ++ [y]) M' L') := by
  rintro pre y M2 L2' vs hM2 ⟨R2, rfl, hMM, hI⟩ hpre hE W hW
  have hlW := hW.locs (l, .loop (rec .ready none)) (by simp)
  have hdW := hW.locs (d, .deferred (some [])) (by simp)
  have hnd := hW.nodup
  simp only [List.map_cons, List.nodup_cons, List.mem_cons, not_or] at hnd
  obtain ⟨⟨_, hlR⟩, hdR, _⟩ := hnd
  have hy := run_yield (P := P) (args := vs.toArray) hlW.1 (by rw [hrec]; simp [hlen _ _ _ hE])
  rw [hrec] at hy
  have hin : St ⟨W, R2.map (·.1), M2⟩ M2 R2 W := (hW.perm (L' := R2 ++ [(l, .loop (rec .ready none)), (d, .deferred (some []))]) (List.perm_append_comm (l₁ := [_, _]))).into
  have hhas : Has ⟨n, [], some l⟩ F { tmps := a.tmps, defers := [] } := ⟨ha.size, rfl, ha.get⟩
  have hz := Has.zip ps vs F a.tmps hps hhas
  refine ⟨fn, _, assign, body, hy, roundIn_of_wpIn trivial ?_⟩
  have h1 := hround l W pre y M2 R2 vs (fun x hx => by obtain ⟨p, hp, rfl⟩ := List.mem_map.1 hx; exact wCq (hin.locs p hp).1) hMM hI hpre hE _ W hz hin
  rw [show (ps.toArray.zip vs.toArray).foldl (fun (t : Array Value) (x : Nat × Value) => t.setIfInBounds x.1 x.2) a.tmps = (ps.zip vs).foldl (fun t (p, v) => t.setIfInBounds p v) a.tmps by simp]
  refine wpIn_mono h1 fun e a₁ w₁ hq => ?_
  cases e with
  | normal =>
   obtain ⟨F', M', R', hF', hSt, hbody⟩ := hq
   have hl1 : w₁.heap[l]? = some (.loop (rec .ready none)) := (hSt.same l (wCq hlW.1) hlR).trans hlW.1
   refine ⟨_, run_beginRound hl1 (by rw [hrec]), ?_⟩
   have hSt2 := hSt.both (.loop { rec .ready none with state := .busy }) (wCq hlW.1) hlR hlW.2.2
   refine wpIn_mono (hbody _ (by simp) a₁ _ hF' hSt2) fun e a₂ w₃ hq => ?_
   have fin : ∀ (jump : Option Code) (M3 : Mem) (R3 : Lc), St ⟨W.putObj l (.loop { rec .ready none with state := .busy }), R2.map (·.1), M2⟩ M3 R3 w₃ →
     ∃ w₄, (Instr.endRound l jump).run P w₃ = .ok (.bool jump.isNone) w₄ ∧ St ⟨W, l :: d :: R2.map (·.1), M2⟩ M3 ((l, .loop (rec (if jump.isNone then .ready else .done) jump)) :: (d, .deferred (some [])) :: R3) w₄ := fun jump M3 R3 h3 => by
    have hl3 : w₃.heap[l]? = some (.loop { rec .ready none with state := .busy }) := (h3.same l (by simpa using wCq hlW.1) hlR).trans (World.putObj_heap_same (wCq hlW.1))
    have he := run_endRound (P := P) jump hl3
    refine ⟨_, he, ?_⟩
    have := h3.close (o2 := .loop (rec (if jump.isNone then .ready else .done) jump)) (wCq hlW.1) hdW.1 hld hlR hdR hlW.2.2 hdW.2.2
    rw [hrec] at this ⊢
    exact this
   have hMM2 : ∀ {M3 R3}, St ⟨W.putObj l (.loop { rec .ready none with state := .busy }), R2.map (·.1), M2⟩ M3 R3 w₃ → MLe M M3 := fun h3 b ob hb => by
    have hb2 := hMM b ob hb
    have := wCq (hW.agree b ob hb2)
    rw [h3.fresh b (by simpa using this)]; exact hb2
   cases e with
   | normal =>
    obtain ⟨M3, R3, hI3, h3⟩ := hq
    obtain ⟨w₄, he, h4⟩ := fin none M3 R3 h3
    exact ⟨_, w₄, he, _, M3, _, rfl, .inl ⟨rfl, R3, rfl, hMM2 h3, hI3⟩, h4⟩
   | ret =>
    obtain ⟨M3, R3, hI3, h3⟩ := hq
    obtain ⟨w₄, he, h4⟩ := fin (some .ret) M3 R3 h3
    exact ⟨_, w₄, he, _, M3, _, rfl, .inr ⟨rfl, _, R3, rfl, hI3⟩, h4⟩
   | exit id =>
    obtain ⟨M3, R3, hI3, h3⟩ := hq
    obtain ⟨w₄, he, h4⟩ := fin (some (.exit id)) M3 R3 h3
    exact ⟨_, w₄, he, _, M3, _, rfl, .inr ⟨rfl, _, R3, rfl, hI3⟩, h4⟩
   | goto t =>
    obtain ⟨M3, R3, hI3, h3⟩ := hq
    obtain ⟨w₄, he, h4⟩ := fin (some (.goto t)) M3 R3 h3
    exact ⟨_, w₄, he, _, M3, _, rfl, .inr ⟨rfl, _, R3, rfl, hI3⟩, h4⟩
   | panic ch => exact hq.elim
   | outgrown => exact hq.elim
  | exit id => exact hq.elim
  | goto t => exact hq.elim
  | ret => exact hq.elim
  | panic ch => exact hq.elim
  | outgrown => exact hq.elim
 have hspec := hit l J Jx M ((l, .loop (rec .ready none)) :: (d, .deferred (some [])) :: R) (MLe.refl _) (fun hb pre M2 M3 L2 hM23 ⟨R', e1, e2, e3⟩ => ⟨R', e1, e2.trans hM23, hIm hb _ _ _ _ hM23 e3⟩) hround' ⟨R, rfl, MLe.refl _, h0⟩
 have hwl' : St E M (((l, .loop (rec .ready none)) :: (d, .deferred (some [])) :: R) ++ L2) W1 := hwl
 have hac : Has ⟨n, d :: D, none⟩ F { a with defers := mark d :: a.defers } := ⟨ha.size, by rw [ha.defers]; rfl, ha.get⟩
 refine ⟨l, [mark d], W1, { target := .fn (.func gf) lb.toArray, args := #[yv] }, W1, gf, (yv :: lb).toArray, W1, ?_, ?_, fun _ _ => trivial, ?_, wHn _ _, ?_⟩
 ·rw [← hW1, hrec, ← hl, ← hd]; exact run_enterLoop_outer _ _ _ _ _
 ·have := ha.ev hg
  simp only [resolve, this]
  simp [go_sem, yv]
 ·simp [invoke, run_callFunc hgo, yv]
 refine calls_in none _ ((hspec W1 hwl'.into).mono fun e w' hh => ?_)
 obtain ⟨v, M', L', rfl, hpost, hSt⟩ := hh
 obtain ⟨hb, hMM⟩ := hwl'.back hSt
 rcases hpost with ⟨R', rfl, _, hI⟩ | ⟨pre, hpre, c, R', rfl, hIx⟩
 ·have hl1 := (hb.locs (l, .loop (rec .ready none)) (by simp)).1
  refine ⟨none, _, by have := run_endLoop (P := P) hl1 (by rw [hrec]; simp); rw [hrec] at this; exact this, ?_⟩
  exact hdone d M' R' hMM hI _ _ hac hb.shut
 have hl1 := (hb.locs (l, .loop (rec .done (some c))) (by simp)).1
 refine ⟨some c, _, by have := run_endLoop (P := P) hl1 (by rw [hrec]; simp); rw [hrec] at this; exact this, ?_⟩
 exact hstop d c pre M' R' hMM hpre hIx _ _ hac hb.shut
theorem jc_rangeR {α : Type} {b : Bool} {P : Program} {n : Nat} {D : List Nat} {F : Fr} {E : Ent} {M : Mem} {L R L2 : Lc} {Q : Exit → Act → World → Prop} {g : Operand} {ps : List Nat} {assign body : Code} {gf : FuncId} {lb : List Value} {En : α → Mem → List Value → Prop} {xs : List α}
  (hg : ev F g = some (.func (.func gf) #[] lb.toArray)) (hgo : isGo P gf = true) (hit : IterR b P gf lb M En xs) [hp : Pick R L L2]
  (I : List α → Mem → Lc → Prop) (Ix : Code → List α → Mem → Lc → Prop) (hlen : ∀ y M' vs, En y M' vs → vs.length = ps.length) (hps : ∀ t ∈ ps, t < n) (h0 : I [] M R) (hIm : b = true → ∀ pre M2 M3 R, MLe M2 M3 → I pre M2 R → I pre M3 R)
  (hround : ∀ l W pre y M1 R1 vs, MLe M M1 → I pre M1 R1 → pre ++ [y] <+: xs → En y M1 vs →
   JC P ⟨n, [], some l⟩ assign (zipFr ps vs F) ⟨W, R1.map (·.1), M1⟩ M1 R1 (Exit.then (roundK P n l body W (R1.map (·.1)) M1 I Ix (pre ++ [y])) (fun _ _ _ => False)))
  (hdone : ∀ d M1 R1, MLe M M1 → I xs M1 R1 → JQ ⟨n, d :: D, none⟩ .normal F E M1 ((d, .deferred (some [])) :: (R1 ++ L2)) Q)
  (hstop : ∀ d c pre M1 R1, MLe M M1 → pre <+: xs → Ix c pre M1 R1 → JC P ⟨n, d :: D, none⟩ c F E M1 ((d, .deferred (some [])) :: (R1 ++ L2)) Q) :
  JC P ⟨n, D, none⟩ (.rangeFunc g ps.toArray assign body) F E M L Q :=
 jc_rangeRN hg hgo hit I Ix hlen hps h0 hIm (fun l W pre y M1 R1 vs _ => hround l W pre y M1 R1 vs) hdone hstop
theorem jc_range {α : Type} {P : Program} {n : Nat} {D : List Nat} {F : Fr} {E : Ent} {M : Mem} {L R L2 : Lc} {Q : Exit → Act → World → Prop} {g : Operand} {ps : List Nat} {assign body : Code} {gf : FuncId} {lb : List Value} {enc : α → List Value} {xs : List α}
  (hg : ev F g = some (.func (.func gf) #[] lb.toArray)) (hgo : isGo P gf = true) (hit : Iter P gf lb M enc xs) [hp : Pick R L L2]
  (I : List α → Mem → Lc → Prop) (Ix : Code → List α → Mem → Lc → Prop) (hlen : ∀ y, (enc y).length = ps.length) (hps : ∀ t ∈ ps, t < n) (h0 : I [] M R)
  (hround : ∀ l W pre y M1 R1, MLe M M1 → I pre M1 R1 → pre ++ [y] <+: xs →
   JC P ⟨n, [], some l⟩ assign (zipFr ps (enc y) F) ⟨W, R1.map (·.1), M1⟩ M1 R1 (Exit.then (roundK P n l body W (R1.map (·.1)) M1 I Ix (pre ++ [y])) (fun _ _ _ => False)))
  (hdone : ∀ d M1 R1, MLe M M1 → I xs M1 R1 → JQ ⟨n, d :: D, none⟩ .normal F E M1 ((d, .deferred (some [])) :: (R1 ++ L2)) Q)
  (hstop : ∀ d c pre M1 R1, MLe M M1 → pre <+: xs → Ix c pre M1 R1 → JC P ⟨n, d :: D, none⟩ c F E M1 ((d, .deferred (some [])) :: (R1 ++ L2)) Q) :
  JC P ⟨n, D, none⟩ (.rangeFunc g ps.toArray assign body) F E M L Q := by
 exact jc_rangeR (En := fun y _ vs => vs = enc y) hg hgo hit.rel I Ix (fun y _ vs h => by rw [h]; exact hlen y) hps h0 (fun h => by cases h) (fun l W pre y M1 R1 vs a b c e => by rw [e]; exact hround l W pre y M1 R1 a b c) hdone hstop
instance (priority := low) At.left {b : Nat} {o : Obj} {R L : Lc} [h : At b o R] : At b o (R ++ L) := ⟨List.mem_append_left _ h.mem⟩
instance (priority := low) PutAt.left {b : Nat} {o o' : Obj} {R R' L : Lc} [h : PutAt b o o' R R'] : PutAt b o o' (R ++ L) (R' ++ L) := ⟨by
 obtain ⟨A, B, h1, h2⟩ := h.ex; exact ⟨A, B ++ L, by rw [h1]; simp, by rw [h2]; simp⟩⟩
instance (priority := low) Rm.left {g : Nat} {ob : Obj} {R R2 L : Lc} [h : Rm g ob R R2] : Rm g ob (R ++ L) (R2 ++ L) := ⟨List.Perm.append_right L h.perm⟩
theorem wAu {N : Fs} {F : Fr} {W : World} {X : List Nat} {M0 M : Mem} {L L' : Lc} {e : Exit} {Q : Exit → Act → World → Prop} (hs : L'.Sublist L) (h : JQ N e F ⟨W, X, M0⟩ M L' Q) : JQ N e F ⟨W, X, M0⟩ M L Q := fun a w ha hw => h a w ha (hw.fewer hs)
theorem jrn {P : Program} {fn : Func} {N : Fs} {F : Fr} {E : Ent} {M : Mem} {L : Lc} {post : Value → Mem → Lc → Prop} (h : JQ N .ret F E M L (wFx P fn E post)) : JQ N .normal F E M L (wFx P fn E post) := h
def bAnd (k : IntKind) (a b : Int) : Int := k.wrap (BitVec.ofInt k.bits a &&& BitVec.ofInt k.bits b).toNat
def bOr (k : IntKind) (a b : Int) : Int := k.wrap (BitVec.ofInt k.bits a ||| BitVec.ofInt k.bits b).toNat
def bXor (k : IntKind) (a b : Int) : Int := k.wrap (BitVec.ofInt k.bits a ^^^ BitVec.ofInt k.bits b).toNat
def bitOp (op : BinOp) (k : IntKind) (a b : Int) : Option Int := match op with
 | .and => some (bAnd k a b)
 | .or => some (bOr k a b)
 | .xor => some (bXor k a b)
 | _ => none
def bShl (k : IntKind) (a : Int) (n : Nat) : Int := k.wrap (a * 2 ^ (min n k.bits))
def bShr (k : IntKind) (a : Int) (n : Nat) : Int := a.fdiv (2 ^ (min n k.bits))
def shOp (op : BinOp) (k : IntKind) (a : Int) (n : Nat) : Option Int := match op with
 | .shl => some (bShl k a n)
 | .shr => some (bShr k a n)
 | _ => none
section
variable {P : Program} {ops : Array Oper} {N : Fs} {F : Fr} {E : Ent} {M : Mem} {L : Lc} {o : Oper}
theorem wJx {op : BinOp} {xT yT : TypeId} {x y : Operand} {k : IntKind} {a b r : Int} (hg : gd ops F o = some true) (ho : o.op = .binOp op xT x y yT) (hx : ev F x = some (.int k a)) (hy : ev F y = some (.int k b))
  (hr : bitOp op k a b = some r) : QF P ops N F M L o (.int k r) := wDs hg fun ac ha w _ => by
 simp only [execOp, ho, ha.ev hx, ha.ev hy]
 unfold bitOp at hr
 split at hr <;> first | cases hr | skip
 all_goals simp [eqGuard, binOp, Op.intBits, bAnd, bOr, bXor]
theorem wJw {op : BinOp} {xT yT : TypeId} {x y : Operand} {k k' : IntKind} {a b r : Int} (hg : gd ops F o = some true) (ho : o.op = .binOp op xT x y yT) (hx : ev F x = some (.int k a)) (hy : ev F y = some (.int k' b))
  (h0 : 0 ≤ b) (hr : shOp op k a b.toNat = some r) : QF P ops N F M L o (.int k r) := wDs hg fun ac ha w _ => by
 have h1 : ¬ b < 0 := by omega
 simp only [execOp, ho, ha.ev hx, ha.ev hy]
 unfold shOp at hr
 split at hr <;> first | cases hr | skip
 all_goals simp [eqGuard, binOp, Op.shift, h1, bShl, bShr]
theorem qNotI {xT : TypeId} {x : Operand} {a : Int} (hg : gd ops F o = some true) (ho : o.op = .unOp .xor xT x) (hx : ev F x = some (.int .u32 a)) : QF P ops N F M L o (.int .u32 (bXor .u32 4294967295 a)) := wDs hg fun ac ha w _ => by
 simp only [execOp, ho, ha.ev hx]
 simp [Op.unary, Op.intBits, bXor, IntKind.signed, IntKind.max, IntKind.bits]
theorem qAk {op : BinOp} {xT yT : TypeId} {x y : Operand} {k : IntKind} {a b r : Int} (hg : gd ops F o = some true) (ho : o.op = .binOp op xT x y yT) (hx : ev F x = some (.int k a)) (hy : ev F y = some (.int k b))
  (hr : ar op a b = some r) (h : k.wrap r = r) : QF P ops N F M L o (.int k r) := wDs hg fun ac ha w _ => by
 simp only [execOp, ho, ha.ev hx, ha.ev hy]
 unfold ar at hr
 split at hr <;> first | cases hr | skip
 all_goals simp [eqGuard, binOp, Op.intArith, h]
theorem qConvK {x : Operand} {s d : TypeId} {k k' : IntKind} {n : Int} {ds : TypeDesc} (hg : gd ops F o = some true) (ho : o.op = .convert s d x) (hx : ev F x = some (.int k' n)) [hs : Und P s ds] [hd : Und P d (.int k)] (h : k.wrap n = n)
  : QF P ops N F M L o (.int k n) := qEq (wDe hg ho hx) (by rw [h])
theorem wAx {x : Operand} {a : Addr} (hg : gd ops F o = some true) (ho : o.op = .nilCheck x) (hx : ev F x = some (.pointer (some a))) : QF P ops N F M L o (.pointer (some a)) := wDs hg fun ac ha w _ => by
 simp [execOp, ho, ha.ev hx]
theorem wBd {t : TypeId} {x y : Operand} {u : Value} {b off : Nat} {l l2 cs : List Value} {e : TypeId} {L' : Lc} {sz by_ : Nat} {z : List Value} (hg : gd ops F o = some true) (ho : o.op = .store t x y) (hx : ev F x = some (.pointer (some ⟨b, off, none⟩))) (hy : ev F y = some u)
  [hl : Lay P t sz by_ z] (hc : u.cells = cs.toArray) (hn : cs.length = sz) (h1 : (cs.all fun v => v.oneCell') = true) [at_ : At b (.cells l.toArray e (0, 0)) L] (hfit : Nat.ble (off + sz) l.length = true) (h2 : l.take off ++ cs ++ l.drop (off + cs.length) = l2 := by first | (simp only [Nat.reduceAdd, Nat.zero_add, Nat.add_zero, List.drop_succ_cons, List.drop_zero, List.drop_nil, List.take_succ_cons, List.take_zero, List.take_nil, List.cons_append, List.nil_append, List.append_nil, List.length_cons, List.length_nil]; try rfl) | rfl)
  [hp : PutAt b (.cells l.toArray e (0, 0)) (.cells l2.toArray e (0, 0)) L L'] :
  HF P ops N F E M L o (fun _ M' L'' => M = M' ∧ L'' = L') := by
 subst h2
 exact hStore hg ho hx hy hc hn (fun v hv => List.all_eq_true.1 h1 v hv) (Nat.le_of_ble_eq_true hfit)
theorem qLdL {x : Operand} {t : TypeId} {d : TypeDesc} {b off sz by_ : Nat} {z l cs : List Value} {e : TypeId} {fz : Nat × Nat} (hg : gd ops F o = some true) (ho : o.op = .load t x) (hx : ev F x = some (.pointer (some ⟨b, off, none⟩))) [hd : Und P t d] [hl : Lay P t sz by_ z] (ha : aggD d = true)
  [at_ : At b (.cells l.toArray e fz) L] (hfit : Nat.ble (off + sz) l.length = true) (hc : (l.drop off).take sz = cs := by first | (simp only [Nat.reduceAdd, Nat.zero_add, Nat.add_zero, List.drop_succ_cons, List.drop_zero, List.drop_nil, List.take_succ_cons, List.take_zero, List.take_nil, List.cons_append, List.nil_append, List.append_nil, List.length_cons, List.length_nil]; try rfl) | rfl) : QF P ops N F M L o (.agg cs.toArray) :=
 wGp hg ho hx ha (by subst hc; have := Nat.le_of_ble_eq_true hfit; rw [List.length_take, List.length_drop]; omega) fun i v hv => by
  subst hc
  rw [List.getElem?_take] at hv
  split at hv
  ·exact CJ.loc (by simpa using hv)
  cases hv
end
inductive RV (P : Program) (F : Fr) (L : Lc) : ResultVar → Value → Prop
 | tmp {t : Nat} {v : Value} (h : lk t F = some v) : RV P F L (.tmp t) v
 | agg {t b sz by_ : Nat} {ty e : TypeId} {l : List Value} {fz : Nat × Nat} {d : TypeDesc} {z : List Value} (ht : lk t F = some (.pointer (some ⟨b, 0, none⟩))) [at_ : At b (.cells l.toArray e fz) L] [hd : Und P ty d] [hl : Lay P ty sz by_ z] (ha : aggD d = true) (hn : l.length = sz) : RV P F L (.cell t ty) (.agg l.toArray)
 | one {t b : Nat} {ty e : TypeId} {l : List Value} {fz : Nat × Nat} {d : TypeDesc} {v : Value} (ht : lk t F = some (.pointer (some ⟨b, 0, none⟩))) [at_ : At b (.cells l.toArray e fz) L] [hd : Und P ty d] (ha : aggD d = false) (hv : l[0]? = some v) : RV P F L (.cell t ty) v
inductive RVs (P : Program) (F : Fr) (L : Lc) : List ResultVar → List Value → Prop
 | nil : RVs P F L [] []
 | cons {r : ResultVar} {v : Value} {rs : List ResultVar} {vs : List Value} (h : RV P F L r v) (k : RVs P F L rs vs) : RVs P F L (r :: rs) (v :: vs)
def retV : List Value → Value
 | [v] => v
 | vs => .tuple vs.toArray
def resOne (tmps : Array Value) : ResultVar → Sem Value
 | .tmp t => pure (tmps.getD t undef)
 | .cell c t => do loadVar t (← asAddr (tmps.getD c undef))
theorem results_eq (fn : Func) (tmps : Array Value) : results fn tmps = (do let vs ← fn.results.mapM (resOne tmps); pure (if h : vs.size = 1 then vs[0] else .tuple vs)) := by
 unfold results
 have : (fun r : ResultVar => match r with | .tmp t => (pure (tmps.getD t undef) : Sem Value) | .cell a t => do loadVar t (← asAddr (tmps.getD a undef))) = resOne tmps := by
  funext r; cases r <;> rfl
 rw [← this]
 rfl
theorem RV.run {P : Program} {F : Fr} {E : Ent} {M : Mem} {L : Lc} {N : Fs} {r : ResultVar} {v : Value} (h : RV P F L r v) {a : Act} {w : World} (hac : Has N F a) (hw : St E M L w) : (resOne a.tmps r).run P w = .ok v w := by
 cases h with
 | tmp h => simp [resOne, Array.getD_eq_getD_getElem?, hac.get _ _ h]
 | @agg t b sz by_ ty e l fz d z ht at_ hd hl ha hn =>
  obtain ⟨ti, v, hi, hi2, _⟩ := hl.info
  have h1 := hac.get t _ ht
  have hadd : ∀ j, (⟨b, 0, none⟩ : Addr).add j = ⟨b, j, none⟩ := fun j => by unfold Addr.add; split <;> simp_all
  have h3 := run_loadCells_list (P := P) (w := w) ⟨b, 0, none⟩ l (fun j v hv => by rw [hadd]; exact (CJ.loc (M := M) (L := L) (e := e) (fz := fz) hv).cell hw.js)
  simp [resOne, Array.getD_eq_getD_getElem?, h1, asAddr, loadVar, wEu hd.h, ha, sizeOf, typeInfo, hi, hi2, ← hn, h3]
 | @one t b ty e l fz d v ht at_ hd ha hv =>
  have h1 := hac.get t _ ht
  have h3 := (CJ.loc (M := M) (L := L) (b := b) (e := e) (fz := fz) hv).cell hw.js
  simp [resOne, Array.getD_eq_getD_getElem?, h1, asAddr, loadVar, wEu hd.h, ha, h3]
theorem RVs.run {P : Program} {F : Fr} {E : Ent} {M : Mem} {L : Lc} {N : Fs} {a : Act} {w : World} (hac : Has N F a) (hw : St E M L w) : ∀ {rs : List ResultVar} {vs : List Value}, RVs P F L rs vs →
  (rs.mapM (resOne a.tmps)).run P w = .ok vs w
 | [], _, .nil => by simp
 | r :: rs, _, .cons h k => by
  have h1 := h.run hac hw
  have h2 := RVs.run hac hw k
  rw [List.mapM_cons, Sem.run_bind, h1, Result.andThen_ok, Sem.run_bind, h2, Result.andThen_ok, Sem.run_pure]
theorem jrs {P : Program} {fn : Func} {n : Nat} {F : Fr} {E : Ent} {M : Mem} {L : Lc} {post : Value → Mem → Lc → Prop} {rs : List ResultVar} {vs : List Value} (hr : fn.results = rs.toArray) (h : RVs P F L rs vs) (hp : post (retV vs) M L) : JQ ⟨n, [], none⟩ .ret F E M L (wFx P fn E post) := by
 intro a w hac hw
 show LeavesInM _ _ _ _ _ _ a.defers _ _
 rw [show a.defers = [] from hac.defers]
 have h1 := h.run hac hw
 refine ⟨_, ?_, _, M, L, rfl, hp, hw⟩
 rw [results_eq, hr, Sem.run_bind, List.mapM_toArray, Sem.run_map, h1]
 unfold retV
 split
 ·simp [Result.andThen]
 rename_i h2
 have : vs.length ≠ 1 := fun e => by
  match vs, e with
  | [v], _ => exact h2 v rfl
 simp [this, Result.andThen]
theorem wBr {P : Program} {fn : Func} {n : Nat} {F : Fr} {W : World} {X : List Nat} {M0 M : Mem} {L : Lc} (L' : Lc) {post : Value → Mem → Lc → Prop} {rs : List ResultVar} {vs : List Value} (hs : L'.Sublist L) (hr : fn.results = rs.toArray) (h : RVs P F L rs vs) (hp : post (retV vs) M L') : JQ ⟨n, [], none⟩ .ret F ⟨W, X, M0⟩ M L (wFx P fn ⟨W, X, M0⟩ post) := by
 have := jrs (P := P) (n := n) (E := ⟨W, X, M0⟩) (M := M) (post := fun v M' L'' => post v M' L' ∧ L'.Sublist L'') hr h ⟨hp, hs⟩
 intro a w ha hw
 have k := this a w ha hw
 show LeavesInM _ _ _ _ _ _ a.defers _ _
 have k' : LeavesInM _ _ _ _ _ _ a.defers _ _ := k
 rw [show a.defers = [] from ha.defers] at k' ⊢
 obtain ⟨v, hv, v2, M', L'', e, ⟨k1, k2⟩, k3⟩ := k'
 exact ⟨v, hv, v2, M', L', e, k1, k3.fewer k2⟩
abbrev By := UInt8
def wAj (xs : List By) : List Value := xs.map fun b => .int .u8 (b.toNat : Int)
theorem wAm (xs : List By) : (wAj xs).length = xs.length := by simp [wAj]
theorem wBf (xs : List By) : ∀ v ∈ wAj xs, v.oneCell' = true := by
 intro v hv; obtain ⟨n, _, rfl⟩ := List.mem_map.1 hv; rfl
def BS (M : Mem) (v : Value) (xs : List By) : Prop := ∃ a c, v = .slice a xs.length c ∧ xs.length ≤ c ∧ SM M a (wAj xs)
theorem BS.mono {M M' : Mem} {v : Value} {xs : List By} (h : BS M v xs) (hM : MLe M M') : BS M' v xs := by
 obtain ⟨a, c, h1, h0, h2⟩ := h; exact ⟨a, c, h1, h0, h2.mono hM⟩
theorem BS.nil {M : Mem} : BS M (.slice none 0 0) [] := ⟨none, 0, rfl, Nat.le_refl _, SM.nil⟩
section
variable {P : Program} {ops : Array Oper} {N : Fs} {F : Fr} {E : Ent} {M : Mem} {L : Lc} {Q : Exit → Act → World → Prop}
theorem nA {α : Type} (l : List α) : [] ++ l = l := rfl
def adrOf : Option Value → Option (Nat × Nat)
 | some (.pointer (some ⟨b, off, none⟩)) => some (b, off)
 | _ => none
theorem adrOf_is {v : Option Value} {b off : Nat} (h : adrOf v = some (b, off)) : v = some (.pointer (some ⟨b, off, none⟩)) := by
 unfold adrOf at h
 split at h
 ·cases h; rfl
 cases h
def stSt (ops : Array Oper) (F : Fr) (o : Oper) : Option (TypeId × Nat × Nat × Value) := match gd ops F o, o.dst, o.op with
 | some true, none, .store t x y => match adrOf (ev F x), ev F y with
  | some (b, off), some u => some (t, b, off, u)
  | _, _ => none
 | _, _, _ => none
theorem stSt_is {o : Oper} {t : TypeId} {b off : Nat} {u : Value} (h : stSt ops F o = some (t, b, off, u)) : ∃ x y, o.dst = none ∧ gd ops F o = some true ∧ o.op = .store t x y ∧ ev F x = some (.pointer (some ⟨b, off, none⟩)) ∧ ev F y = some u := by
 unfold stSt at h
 split at h
 ·rename_i t' x y h1 h2 h3
  split at h
  ·rename_i h4 h5; cases h; exact ⟨x, y, h2, h1, h3, adrOf_is h4, h5⟩
  cases h
 cases h
theorem sSt {o : Oper} {rest : List Oper} {t : TypeId} {u : Value} {b off : Nat} {l l2 cs : List Value} {e : TypeId} {L' : Lc} {sz by_ : Nat} {z : List Value} (h : stSt ops F o = some (t, b, off, u)) (k : JL P ops N Q rest F E M L')
  [hl : Lay P t sz by_ z] (hc : u.cells = cs.toArray := by rfl) (hn : cs.length = sz := by rfl) (h1 : (cs.all fun v => v.oneCell') = true := by rfl) [at_ : At b (.cells l.toArray e (0, 0)) L] (hfit : Nat.ble (off + sz) l.length = true := by rfl) (h2 : l.take off ++ cs ++ l.drop (off + cs.length) = l2 := by first | (simp only [Nat.reduceAdd, Nat.zero_add, Nat.add_zero, List.drop_succ_cons, List.drop_zero, List.drop_nil, List.take_succ_cons, List.take_zero, List.take_nil, List.cons_append, List.nil_append, List.append_nil, List.length_cons, List.length_nil]; try rfl) | rfl)
  [hp : PutAt b (.cells l.toArray e (0, 0)) (.cells l2.toArray e (0, 0)) L L'] : JL P ops N Q (o :: rest) F E M L := by
 obtain ⟨x, y, hd, hg, ho, hx, hy⟩ := stSt_is h
 exact jl_s hd (wBd hg ho hx hy hc hn h1 hfit h2) fun _ _ _ ⟨h1, h2⟩ => by subst h1; subst h2; exact k
def stFa (N : Fs) (ops : Array Oper) (F : Fr) (o : Oper) : Option (Nat × TypeId × Nat × Nat × Nat) := match gd ops F o, o.dst, o.op with
 | some true, some d, .fieldAddr s x i => match Nat.blt d N.n, adrOf (ev F x) with
  | true, some (b, off) => some (d, s, i, b, off)
  | _, _ => none
 | _, _, _ => none
theorem stFa_is {o : Oper} {d : Nat} {s : TypeId} {i b off : Nat} (h : stFa N ops F o = some (d, s, i, b, off)) : ∃ x, o.dst = some d ∧ Nat.blt d N.n = true ∧ gd ops F o = some true ∧ o.op = .fieldAddr s x i ∧ ev F x = some (.pointer (some ⟨b, off, none⟩)) := by
 unfold stFa at h
 split at h
 ·rename_i d' s' x i' h1 h2 h3
  split at h
  ·rename_i h4 h5; cases h; exact ⟨x, h2, h4, h1, h3, adrOf_is h5⟩
  cases h
 cases h
theorem sFa {o : Oper} {rest : List Oper} {d : Nat} {s : TypeId} {i fo : Nat} {ft : TypeId} {sz by_ : Nat} {z : List Value} {b off off' : Nat} (h : stFa N ops F o = some (d, s, i, b, off)) (k : JL P ops N Q rest ((d, .pointer (some ⟨b, off', none⟩)) :: F) E M L) [hf : Fld P s i fo ft] [hl : Lay P ft sz by_ z]
  (hz : Nat.beq sz 0 = false := by rfl) (ho' : off + fo = off' := by rfl) : JL P ops N Q (o :: rest) F E M L := by
 obtain ⟨x, hd, hN, hg, ho, hx⟩ := stFa_is h
 exact wAi hd hN (wBi hg ho hx hz ho') k
def stLd (N : Fs) (ops : Array Oper) (F : Fr) (o : Oper) : Option (Nat × TypeId × Nat × Nat) := match gd ops F o, o.dst, o.op with
 | some true, some d, .load t x => match Nat.blt d N.n, adrOf (ev F x) with
  | true, some (b, off) => some (d, t, b, off)
  | _, _ => none
 | _, _, _ => none
theorem stLd_is {o : Oper} {d : Nat} {t : TypeId} {b off : Nat} (h : stLd N ops F o = some (d, t, b, off)) : ∃ x, o.dst = some d ∧ Nat.blt d N.n = true ∧ gd ops F o = some true ∧ o.op = .load t x ∧ ev F x = some (.pointer (some ⟨b, off, none⟩)) := by
 unfold stLd at h
 split at h
 ·rename_i d' t' x h1 h2 h3
  split at h
  ·rename_i h4 h5; cases h; exact ⟨x, h2, h4, h1, h3, adrOf_is h5⟩
  cases h
 cases h
theorem sLd {o : Oper} {rest : List Oper} {d : Nat} {t : TypeId} {td : TypeDesc} {b off : Nat} {v : Value} {l : List Value} {e : TypeId} {fz : Nat × Nat} (h : stLd N ops F o = some (d, t, b, off)) (k : JL P ops N Q rest ((d, v) :: F) E M L) [hu : Und P t td] (ha : aggD td = false := by rfl) [at_ : At b (.cells l.toArray e fz) L] (hc : l[off]? = some v := by rfl) : JL P ops N Q (o :: rest) F E M L := by
 obtain ⟨x, hd, hN, hg, ho, hx⟩ := stLd_is h
 exact wAi hd hN (qLd hg ho hx ha (CJ.loc hc)) k
theorem sLL {o : Oper} {rest : List Oper} {d : Nat} {t : TypeId} {td : TypeDesc} {b off sz by_ : Nat} {z l cs : List Value} {e : TypeId} {fz : Nat × Nat} (h : stLd N ops F o = some (d, t, b, off)) (k : JL P ops N Q rest ((d, .agg cs.toArray) :: F) E M L) [hu : Und P t td] [hl : Lay P t sz by_ z] (ha : aggD td = true := by rfl)
  [at_ : At b (.cells l.toArray e fz) L] (hfit : Nat.ble (off + sz) l.length = true := by rfl) (hc : (l.drop off).take sz = cs := by first | (simp only [Nat.reduceAdd, Nat.zero_add, Nat.add_zero, List.drop_succ_cons, List.drop_zero, List.drop_nil, List.take_succ_cons, List.take_zero, List.take_nil, List.cons_append, List.nil_append, List.append_nil, List.length_cons, List.length_nil]; try rfl) | rfl) : JL P ops N Q (o :: rest) F E M L := by
 obtain ⟨x, hd, hN, hg, ho, hx⟩ := stLd_is h
 exact wAi hd hN (qLdL hg ho hx ha hfit hc) k
theorem sFL {o o2 : Oper} {rest : List Oper} {d : Nat} {s : TypeId} {i fo : Nat} {ft : TypeId} {sz by_ : Nat} {z : List Value} {b off : Nat} {d2 : Nat} {t : TypeId} {td : TypeDesc} {b2 off2 : Nat} {v : Value} {l : List Value} {e : TypeId} {fz : Nat × Nat} (h : stFa N ops F o = some (d, s, i, b, off)) [hf : Fld P s i fo ft] (h2 : stLd N ops ((d, .pointer (some ⟨b, off + fo, none⟩)) :: F) o2 = some (d2, t, b2, off2))
  (k : JL P ops N Q rest ((d2, v) :: (d, .pointer (some ⟨b, off + fo, none⟩)) :: F) E M L) [hl : Lay P ft sz by_ z] (hz : Nat.beq sz 0 = false := by rfl) [hu : Und P t td] (ha : aggD td = false := by rfl) [at_ : At b2 (.cells l.toArray e fz) L] (hc : l[off2]? = some v := by rfl) : JL P ops N Q (o :: o2 :: rest) F E M L := sFa h (sLd h2 k ha hc) hz rfl
theorem sFF {o o2 : Oper} {rest : List Oper} {d : Nat} {s : TypeId} {i fo : Nat} {ft : TypeId} {sz by_ : Nat} {z : List Value} {b off : Nat} {d2 : Nat} {s2 : TypeId} {i2 fo2 : Nat} {ft2 : TypeId} {sz2 by2 : Nat} {z2 : List Value} {b2 off2 : Nat} (h : stFa N ops F o = some (d, s, i, b, off)) [hf : Fld P s i fo ft] (h2 : stFa N ops ((d, .pointer (some ⟨b, off + fo, none⟩)) :: F) o2 = some (d2, s2, i2, b2, off2))
  [hf2 : Fld P s2 i2 fo2 ft2] (k : JL P ops N Q rest ((d2, .pointer (some ⟨b2, off2 + fo2, none⟩)) :: (d, .pointer (some ⟨b, off + fo, none⟩)) :: F) E M L) [hl : Lay P ft sz by_ z] (hz : Nat.beq sz 0 = false := by rfl) [hl2 : Lay P ft2 sz2 by2 z2] (hz2 : Nat.beq sz2 0 = false := by rfl) : JL P ops N Q (o :: o2 :: rest) F E M L := sFa h (sFa h2 k hz2 rfl) hz rfl
def stAl (N : Fs) (ops : Array Oper) (F : Fr) (o : Oper) : Option (Nat × TypeId) := match gd ops F o, o.dst, o.op with
 | some true, some d, .alloc t => match Nat.blt d N.n with
  | true => some (d, t)
  | _ => none
 | _, _, _ => none
theorem stAl_is {o : Oper} {d : Nat} {t : TypeId} (h : stAl N ops F o = some (d, t)) : o.dst = some d ∧ Nat.blt d N.n = true ∧ gd ops F o = some true ∧ o.op = .alloc t := by
 unfold stAl at h
 split at h
 ·rename_i d' t' h1 h2 h3
  split at h
  ·rename_i h4; cases h; exact ⟨h2, h4, h1, h3⟩
  cases h
 cases h
theorem sAl {o : Oper} {rest : List Oper} {d : Nat} {t : TypeId} {sz by_ : Nat} {z : List Value} (h : stAl N ops F o = some (d, t)) [hl : Lay P t sz by_ z] (k : ∀ b, JL P ops N Q rest ((d, .pointer (some ⟨b, 0, none⟩)) :: F) E M ((b, .cells z.toArray t (0, 0)) :: L)) : JL P ops N Q (o :: rest) F E M L := by
 obtain ⟨hd, hN, hg, ho⟩ := stAl_is h
 exact wAv hd hN (wCx hg ho) fun v M' L' ⟨b, h1, h2, h3⟩ => by subst h1; subst h2; subst h3; exact k b
variable {Mi Mw : Mem} {Li Lw : Lc} {p : Ph}
theorem dFa {j : Nat} {rest : List (Nat × Bool)} {o : Oper} {d : Nat} {s : TypeId} {i fo : Nat} {ft : TypeId} {sz by_ : Nat} {z : List Value} {b off off' : Nat} (ho : ops[j]? = some o) (h : stFa N ops F o = some (d, s, i, b, off)) (k : JD P ops N p Mw Lw Q rest ((d, .pointer (some ⟨b, off', none⟩)) :: F) E M L Mi Li) [hf : Fld P s i fo ft] [hl : Lay P ft sz by_ z]
  (hz : Nat.beq sz 0 = false := by rfl) (ho' : off + fo = off' := by rfl) (hA : p.A j = true := by rfl) (hU : p.U j = true := by rfl) : JD P ops N p Mw Lw Q ((j, true) :: rest) F E M L Mi Li := by
 obtain ⟨x, hd, hN, hg, hop, hx⟩ := stFa_is h
 exact wBh ho hd hN (wBi hg hop hx hz ho') k hA hU
theorem dLd {j : Nat} {rest : List (Nat × Bool)} {o : Oper} {d : Nat} {t : TypeId} {td : TypeDesc} {b off : Nat} {v : Value} {l : List Value} {e : TypeId} {fz : Nat × Nat} (ho : ops[j]? = some o) (h : stLd N ops F o = some (d, t, b, off)) (k : JD P ops N p Mw Lw Q rest ((d, v) :: F) E M L Mi Li) [hu : Und P t td] (ha : aggD td = false := by rfl) [at_ : At b (.cells l.toArray e fz) Li] (hc : l[off]? = some v := by rfl) (hA : p.A j = true := by rfl) (hU : p.U j = true := by rfl) : JD P ops N p Mw Lw Q ((j, true) :: rest) F E M L Mi Li := by
 obtain ⟨x, hd, hN, hg, hop, hx⟩ := stLd_is h
 exact wBh ho hd hN (qLd hg hop hx ha (CJ.loc hc)) k hA hU
theorem dLL {j : Nat} {rest : List (Nat × Bool)} {o : Oper} {d : Nat} {t : TypeId} {td : TypeDesc} {b off sz by_ : Nat} {z l cs : List Value} {e : TypeId} {fz : Nat × Nat} (ho : ops[j]? = some o) (h : stLd N ops F o = some (d, t, b, off)) (k : JD P ops N p Mw Lw Q rest ((d, .agg cs.toArray) :: F) E M L Mi Li) [hu : Und P t td] [hl : Lay P t sz by_ z] (ha : aggD td = true := by rfl)
  [at_ : At b (.cells l.toArray e fz) Li] (hfit : Nat.ble (off + sz) l.length = true := by rfl) (hc : (l.drop off).take sz = cs := by first | (simp only [Nat.reduceAdd, Nat.zero_add, Nat.add_zero, List.drop_succ_cons, List.drop_zero, List.drop_nil, List.take_succ_cons, List.take_zero, List.take_nil, List.cons_append, List.nil_append, List.append_nil, List.length_cons, List.length_nil]; try rfl) | rfl) (hA : p.A j = true := by rfl) (hU : p.U j = true := by rfl) : JD P ops N p Mw Lw Q ((j, true) :: rest) F E M L Mi Li := by
 obtain ⟨x, hd, hN, hg, hop, hx⟩ := stLd_is h
 exact wBh ho hd hN (qLdL hg hop hx ha hfit hc) k hA hU
end
section
variable {P : Program} {ops : Array Oper} {N : Fs} {Q : Exit → Act → World → Prop} {F F' : Fr} {E : Ent} {M : Mem} {L : Lc} {Mi : Mem} {Li : Lc} {fuel : Nat} {listed : Array Bool}
theorem AC.pt {A : Nat → Bool} {r : Option Nat} {md : Region.Mode} {J I C : Cls} {g : Bool} {a : Act} : ∀ {fuel : Nat}, (∀ w, C w → ∃ C' : Cls, C' w ∧ AC A r P md ops Q J I fuel g listed a C') → AC A r P md ops Q J I fuel g listed a C
 | 0, h => fun w hw => by obtain ⟨C', h1, h2⟩ := h w hw; exact h2 w h1
 | _ + 1, h => fun w hw => by obtain ⟨C', h1, h2⟩ := h w hw; exact h2 w h1
def JA (P : Program) (ops : Array Oper) (N : Fs) (Q : Exit → Act → World → Prop) (fuel : Nat) (listed : Array Bool) (F : Fr) (E : Ent) (M : Mem) (L : Lc) (Mi : Mem) (Li : Lc) : Prop :=
 MLe Mi M → (∀ p ∈ Li, p ∈ L) → ∀ a, Has N F a → AC (fun _ => true) N.r P .any ops Q (Js Mi Li) (Js Mi Li) fuel true listed a (St E M L)
theorem wEf {id : Nat} {l : List Oper} (Li : Lc) (hm : P.follows .mixedOrders = true) (hLi : ∀ p ∈ Li, p ∈ L) (h : JA P l.toArray N (NoPanic Q) l.length (Array.replicate l.length false) F E M L M Li) : JC P N (.region id l.toArray true) F E M L Q := fun a w ha hw => by
 refine wpIn_mono (Q := NoPanic Q) (wpIn_region_any hm ?_) NoPanic.imp
 have hw' : St E M L { w with drawn := w.drawn + 1 } := { hw with }
 have := AC.any _ _ _ a (St E M L) _ hw' (h (MLe.refl _) hLi a ha)
 simpa using this
theorem wDg {Q : Exit → Act → World → Prop} {i : Nat} {o : Oper} {v : Value} {d : Nat} (ho : ops[i]? = some o) (hs : (Region.noSelect ops && noDefer ops) = true) (hr : ((Region.ready .any ops listed).contains i && Region.free .any ops listed i) = true) (hd : o.dst = some d) (hN : Nat.blt d N.n = true)
  (hq : QF P ops N F Mi Li o v) (h : JA P ops N (NoPanic Q) fuel (listed.setIfInBounds i true) ((d, v) :: F) E M L Mi Li) : JA P ops N (NoPanic Q) (fuel + 1) listed F E M L Mi Li := fun hM hL a ha => by
 rw [Bool.and_eq_true] at hs hr
 refine AC.first true ho (Region.noSelect_spec hs.1) (noDefer_spec hs.2) (fun c a w hh => hh) rfl (fun _ j _ hj => by cases hj) fuel true listed a _ (fun _ => rfl) (.inl fun _ => rfl) (Region.free_spec ho hr.2) (by simpa using hr.1) (hq a ha) (St.closed _ _ _)
  (fun w hw => hw.js.sub hM hL) (fun _ w hw => hw.js.sub hM hL) ?_
 rw [hd]
 exact h hM hL _ (ha.put (by simpa [Nat.blt_eq] using hN) v)
theorem wFj {Q : Exit → Act → World → Prop} {i : Nat} {o : Oper} {v : Value} {d : Nat} (ho : ops[i]? = some o) (hs : (Region.noSelect ops && noDefer ops) = true) (hr : ((Region.ready .any ops listed).contains i && Region.free .any ops listed i) = true) (hp : pstep N ops F o = some (d, v))
  (h : JA P ops N (NoPanic Q) fuel (listed.setIfInBounds i true) ((d, v) :: F) E M L Mi Li) : JA P ops N (NoPanic Q) (fuel + 1) listed F E M L Mi Li :=
 wDg ho hs hr (wCk hp).1 (wCk hp).2.1 ((wCk hp).2.2 P Mi Li) h
theorem wEh {α : Type} (φ : α → Prop) (Ff : α → Fr) (Mf : α → Mem) (Lf : α → Lc) (fuel2 : Nat) (listed2 : Array Bool) (rest : ∀ x, φ x → JA P ops N Q fuel2 listed2 (Ff x) E (Mf x) (Lf x) Mi Li)
  (k : (∀ x, φ x → JA P ops N Q fuel2 listed2 (Ff x) E (Mf x) (Lf x) Mi Li) → JA P ops N Q fuel listed F E M L Mi Li) : JA P ops N Q fuel listed F E M L Mi Li := k rest
def JS (P : Program) (ops : Array Oper) (N : Fs) (Q : Exit → Act → World → Prop) (fuel : Nat) (listed : Array Bool) (F : Fr) (E : Ent) (M : Mem) (L : Lc) (Mi : Mem) (Li : Lc) (i : Nat) : Prop :=
 ∃ o, ops[i]? = some o ∧ (match o.dst with | some d => Nat.blt d N.n | none => true) = true ∧ ∃ K, HF P ops N F E M L o K ∧ ∀ v M' L', K v M' L' → ∃ Mi' Li', MLe Mi Mi' ∧ MLe Mi' M' ∧ (∀ p ∈ Li, p ∈ Li') ∧ (∀ p ∈ Li', p ∈ L') ∧ JA P ops N Q fuel (listed.setIfInBounds i true) (match o.dst with | some d => (d, v) :: F | none => F) E M' L' Mi' Li'
theorem wCs {i : Nat} {o : Oper} {K : Value → Mem → Lc → Prop} {d : Nat} (ho : ops[i]? = some o) (hd : o.dst = some d) (hN : Nat.blt d N.n = true) (hh : HF P ops N F E M L o K)
  (h : ∀ v M' L', K v M' L' → ∃ Mi' Li', MLe Mi Mi' ∧ MLe Mi' M' ∧ (∀ p ∈ Li, p ∈ Li') ∧ (∀ p ∈ Li', p ∈ L') ∧ JA P ops N Q fuel (listed.setIfInBounds i true) ((d, v) :: F) E M' L' Mi' Li') : JS P ops N Q fuel listed F E M L Mi Li i :=
 ⟨o, ho, by rw [hd]; exact hN, K, hh, by rw [hd]; exact h⟩
theorem js_s {i : Nat} {o : Oper} {K : Value → Mem → Lc → Prop} (ho : ops[i]? = some o) (hd : o.dst = none) (hh : HF P ops N F E M L o K)
  (h : ∀ v M' L', K v M' L' → ∃ Mi' Li', MLe Mi Mi' ∧ MLe Mi' M' ∧ (∀ p ∈ Li, p ∈ Li') ∧ (∀ p ∈ Li', p ∈ L') ∧ JA P ops N Q fuel (listed.setIfInBounds i true) F E M' L' Mi' Li') : JS P ops N Q fuel listed F E M L Mi Li i :=
 ⟨o, ho, by rw [hd], K, hh, by rw [hd]; exact h⟩
def JSs (P : Program) (ops : Array Oper) (N : Fs) (Q : Exit → Act → World → Prop) (fuel : Nat) (listed : Array Bool) (F : Fr) (E : Ent) (M : Mem) (L : Lc) (Mi : Mem) (Li : Lc) : List Nat → Prop
 | [] => True
 | i :: rs => JS P ops N Q fuel listed F E M L Mi Li i ∧ JSs P ops N Q fuel listed F E M L Mi Li rs
theorem JSs.get : ∀ {rs : List Nat}, JSs P ops N Q fuel listed F E M L Mi Li rs → ∀ i ∈ rs, JS P ops N Q fuel listed F E M L Mi Li i
 | _ :: _, h, i, hi => by
  rcases List.mem_cons.1 hi with rfl | hi
  ·exact h.1
  exact JSs.get h.2 i hi
theorem wBa (rs : List Nat) (hr : (Region.ready .any ops listed == rs) = true) (hne : rs.isEmpty = false) (h : JSs P ops N Q fuel listed F E M L Mi Li rs) : JA P ops N Q (fuel + 1) listed F E M L Mi Li := fun hM hL a ha w hw => by
 have hr' := eq_of_beq hr
 refine ⟨fun h0 => (by rw [hr'] at h0; rw [h0] at hne; cases hne), fun i hi => ?_⟩
 rw [hr'] at hi
 obtain ⟨o, ho, hN, K, hh, hk⟩ := h.get i hi
 obtain ⟨h1, h2⟩ := hh a w ha hw
 unfold wpOpIn
 simp only [ho, h1, if_true]
 refine Oper.wpIn_mono (fun a' w' hh => ?_) (h2 Q)
 obtain ⟨v, M', L', rfl, hs, hK⟩ := hh
 obtain ⟨Mi', Li', k1, k2, k3, k4, k5⟩ := hk v M' L' hK
 refine ⟨St E M' L', St.closed _ _ _, fun _ hx => (hx.js.sub k2 k4).sub k1 k3, fun _ _ hx => (hx.js.sub k2 k4).sub k1 k3, hs, ?_⟩
 have hup : ∀ w, Js Mi' Li' w → Js Mi Li w := fun _ hx => hx.sub k1 k3
 refine AC.mono hup hup _ _ _ _ _ (k5 k2 k4 _ ?_)
 cases hd : o.dst with
 | none => exact ha
 | some d => rw [hd] at hN; exact ha.put (by simpa [Nat.blt_eq] using hN) v
theorem wFo {i : Nat} (hr : (Region.ready .any ops listed == [i]) = true) (h : JS P ops N Q fuel listed F E M L Mi Li i) : JA P ops N Q (fuel + 1) listed F E M L Mi Li := wBa [i] hr rfl ⟨h, trivial⟩
theorem wHi (hr : (Region.ready .any ops listed).isEmpty = true) (h : JQ N .normal F E M L Q) : JA P ops N Q fuel listed F E M L Mi Li := fun _ _ a ha => AC.done (by simpa using hr) (fun w hw => h a w ha hw) fuel
theorem wBp (k : Keep F F') (h : JA P ops N Q fuel listed F' E M L Mi Li) : JA P ops N Q fuel listed F E M L Mi Li := fun hM hL a ha => h hM hL a (ha.keep k)
theorem wBq {listed' : Array Bool} (e : listed = listed') (h : JA P ops N Q fuel listed' F E M L Mi Li) : JA P ops N Q fuel listed F E M L Mi Li := by rw [e]; exact h
theorem wAp {M' : Mem} {L' : Lc} (k1 : MLe Mi M') (k2 : ∀ p ∈ Li, p ∈ L') (h : JA P ops N Q fuel listed F E M' L' Mi Li) :
  ∃ Mi' Li', MLe Mi Mi' ∧ MLe Mi' M' ∧ (∀ p ∈ Li, p ∈ Li') ∧ (∀ p ∈ Li', p ∈ L') ∧ JA P ops N Q fuel listed F E M' L' Mi' Li' :=
 ⟨Mi, Li, MLe.refl _, k1, fun _ h => h, k2, h⟩
theorem wEg {M2 : Mem} {L2 : Lc} (hs : ∀ w, St E M L w → St E M2 L2 w) (h1 : MLe Mi M2) (h4 : ∀ p ∈ Li, p ∈ L2) (h : JA P ops N Q fuel listed F E M2 L2 Mi Li) : JA P ops N Q fuel listed F E M L Mi Li := fun _ _ a ha =>
 AC.pt fun w hw => ⟨_, hs w hw, h h1 h4 a ha⟩
theorem wDn {W : World} {X : List Nat} {M0 : Mem} {ob : Obj} {L2 : Lc} (g : Nat) [hp : Rm g ob L L2] (hg : g ∉ X) (hl : ∀ p ∈ Li, p ∈ L2) (h : ∀ M', MLe M M' → M' g = some ob → JA P ops N Q fuel listed F ⟨W, X, M0⟩ M' L2 Mi Li) : JA P ops N Q fuel listed F ⟨W, X, M0⟩ M L Mi Li := fun hM hL a ha =>
 AC.pt fun w hw => by
  obtain ⟨h1, h2, h3⟩ := St.freeze' hg (hw.perm hp.perm)
  exact ⟨_, h1, h _ h2 h3 (hM.trans h2) hl a ha⟩
theorem ja_own {W : World} {X : List Nat} {M0 : Mem} {v : Value} {R L2 : Lc} {e : TypeId} {size n : Nat} {xs : List Value} (ho : Own v R e size n xs) [hp : Pick R L L2] (hg : ∀ p ∈ R, p.1 ∉ X) (hl : ∀ p ∈ Li, p ∈ L2)
  (h : ∀ M' a cap, MLe M M' → v = .slice a n cap → n ≤ cap → SM M' a xs → JA P ops N Q fuel listed F ⟨W, X, M0⟩ M' L2 Mi Li) : JA P ops N Q fuel listed F ⟨W, X, M0⟩ M L Mi Li := fun hM hL a ha =>
 AC.pt fun w hw => by
  obtain ⟨M', ad, cap, k1, k2, k3, k4, k5⟩ := ho.freeze hg (hw.perm hp.perm)
  exact ⟨_, k5, h M' ad cap k1 k2 k3 k4 (hM.trans k1) hl a ha⟩
end
instance (priority := low) Pick.pair {p q : Nat × Obj} {R L L1 L2 : Lc} [h : Pick [p] L L1] [h2 : Pick (q :: R) L1 L2] : Pick (p :: q :: R) L L2 := ⟨h.perm.trans (List.Perm.cons p h2.perm)⟩
section
variable {P : Program} {ops : Array Oper} {N : Fs} {F : Fr} {E : Ent} {M : Mem} {L : Lc} {o : Oper}
theorem HF.mono {K K' : Value → Mem → Lc → Prop} (h : HF P ops N F E M L o K) (hk : ∀ w v M' L', K v M' L' → St E M' L' w → ∃ L2, St E M' L2 w ∧ K' v M' L2) : HF P ops N F E M L o K' := fun a w ha hw =>
 ⟨(h a w ha hw).1, fun Q => Oper.wpIn_mono (fun a' w' ⟨v, M', L', e, hs, hK⟩ => by
  obtain ⟨L2, h1, h2⟩ := hk w' v M' L' hK hs
  exact ⟨v, M', L2, e, h1, h2⟩) ((h a w ha hw).2 Q)⟩
theorem wBk {x y : Operand} {t e : TypeId} {v : Value} {R L2 : Lc} {size bytes n m c : Nat} {z xs news : List Value} {ya : Option Addr} (hg : gd ops F o = some true)
  (ho : o.op = .call { callee := .builtin .append, args := #[x, y], argTypes := #[t, t] }) (hx : ev F x = some v) (hy : ev F y = some (.slice ya m c)) [ht : Und P t (.slice e)] [hl : Lay P e size bytes z]
  (hown : Own v R e size n xs) [hp : Pick R L L2] (hl1 : news.length = m * size) (hnews : SM M ya news) (hz0 : Nat.blt 0 size = true) (h1 : ∀ u ∈ news, u.oneCell' = true) (hbig : n + m ≤ 1000000000) (hby : bytes ≤ 100000) :
  HF P ops N F E M L o (fun v' M' L' => M = M' ∧ ∃ R', L' = R' ++ L2 ∧ Own v' R' e size (n + m) (xs ++ news)) := by
 have hsz : 0 < size := by simpa [Nat.blt_eq] using hz0
 rcases Nat.eq_zero_or_pos m with rfl | hm
 ·have : news = [] := List.eq_nil_of_length_eq_zero (by simpa using hl1)
  subst this
  refine (hAppend0 hg ho hx hy hown).mono fun w v' M' L' ⟨e1, e2, e3⟩ hs => ?_
  subst e1; subst e2; subst e3
  exact ⟨R ++ L2, hs.perm hp.perm, rfl, R, rfl, by simpa using hown⟩
 have hne : news ≠ [] := fun e => by
  rw [e, List.length_nil] at hl1
  have := Nat.mul_pos hm hsz
  omega
 obtain ⟨b, off, rfl, hb⟩ := hnews.open hne
 refine (wCr hg ho hx hy hown hl1 (fun i u hu => (hb i u hu).cj L) rfl hz0 h1 hbig hby).mono fun w v' M' L' ⟨e1, R', e2, e3, _⟩ hs => ?_
 exact ⟨L', hs, e1, R', e2, e3⟩
theorem hAppendC {x y : Operand} {t e : TypeId} {ba : Addr} {size bytes n m c : Nat} {z xs news : List Value} {ad : Addr} (hg : gd ops F o = some true)
  (ho : o.op = .call { callee := .builtin .append, args := #[x, y], argTypes := #[t, t] }) (hx : ev F x = some (.slice (some ba) n n)) (hy : ev F y = some (.slice (some ad) m c)) [ht : Und P t (.slice e)] [hl : Lay P e size bytes z]
  (hxl : xs.length = n * size) (hold : ∀ i v, xs[i]? = some v → CJ M L ba.block (ba.off + i) v) (hbs : xs = [] ∨ ba.spot = none) (hl1 : news.length = m * size) (hnews : ∀ i v, news[i]? = some v → CJ M L ad.block (ad.off + i) v) (hspot : ad.spot = none) (hm : 0 < m) (hbig : n + m ≤ 1000000000) (hby : bytes ≤ 100000) :
  HF P ops N F E M L o (fun v' M' L' => M = M' ∧ ∃ R', L' = R' ++ L ∧ Own v' R' e size (n + m) (xs ++ news)) := wKd hg fun a w ha hw => by
 obtain ⟨ti, zv, hi, hi2, hi3, hz, hz2⟩ := hl.info
 have hzl : zv.cells.size = size := by rw [hz2]; simpa using hl.len
 have add : ∀ (ad : Addr), ad.spot = none → ∀ j, ad.add j = ⟨ad.block, ad.off + j, none⟩ := fun ad hs j => by
  obtain ⟨b, of, sp⟩ := ad; simp only at hs; subst hs; unfold Addr.add; split <;> simp_all
 have hb : (n + m) * bytes ≤ 1000000000 * 100000 := Nat.mul_le_mul hbig hby
 have hr := run_append_grow (P := P) w t o.type e ti zv ht.h hi hz ba n n xs (by rw [hi2]; exact hxl) (fun j u hu => by rw [add ba (hbs.resolve_left fun e => by rw [e] at hu; cases hu)]; exact (hold j u hu).cell hw.js) ad m c news (by rw [hi2]; exact hl1)
  (fun j u hu => by rw [add ad hspot]; exact (hnews j u hu).cell hw.js) (by omega) (by omega) (growslice_fits (by omega) (by rw [hi3]; omega))
 have hge := grownCap_ge w (n + m) n e
 have hcm : grownCap w (n + m) n e ≤ maxLen := grownCap_le_maxLen w (n + m) n e (by unfold maxLen; omega)
 have hlen : (xs ++ news).length = (n + m) * size := by rw [List.length_append, hxl, hl1, Nat.add_mul]
 have hcs : (xs.toArray ++ news.toArray ++ Builtin.zeroCells zv.cells (grownCap w (n + m) n e - (n + m))).size = grownCap w (n + m) n e * size := by
  simp only [Array.size_append, List.size_toArray, size_zeroCells, hzl, hxl, hl1, ← Nat.add_mul]
  congr 1; omega
 have htk : (xs.toArray ++ news.toArray ++ Builtin.zeroCells zv.cells (grownCap w (n + m) n e - (n + m))).toList.take ((n + m) * size) = xs ++ news := by
  simp only [Array.toList_append, List.append_assoc]
  rw [← List.append_assoc, ← hlen]
  exact List.take_left
 generalize xs.toArray ++ news.toArray ++ Builtin.zeroCells zv.cells (grownCap w (n + m) n e - (n + m)) = cur at hr hcs htk
 have hd : St E M L w.drew := { hw with }
 refine ⟨_, w.drew.alloc (.cells cur e), M, [(w.drew.heap.size, .cells cur e (0, 0))] ++ L, .inl ?_, hd.alloc (.cells cur e), rfl, [(w.heap.size, .cells cur e (0, 0))], rfl, ⟨hlen, .inr ⟨w.heap.size, _, cur, rfl, rfl, hge, hcm, hcs, htk⟩⟩⟩
 simp [execOp, ho, resolve, invoke, builtin, ha.ev hx, ha.ev hy, hr]
theorem hAppendE {x y : Operand} {t e : TypeId} {v : Value} {R L2 : Lc} {size bytes n m c : Nat} {z xs news : List Value} {ad : Addr} (hg : gd ops F o = some true)
  (ho : o.op = .call { callee := .builtin .append, args := #[x, y], argTypes := #[t, t] }) (hx : ev F x = some v) (hy : ev F y = some (.slice (some ad) m c)) [ht : Und P t (.slice e)] [hl : Lay P e size bytes z]
  (hown : Own v R e size n xs ∨ (R = [] ∧ xs.length = n * size ∧ ∃ ba, v = .slice (some ba) n n ∧ (xs = [] ∨ ba.spot = none) ∧ ∀ i u, xs[i]? = some u → CM M ba.block (ba.off + i) u)) [hp : Pick R L L2] (hl1 : news.length = m * size) (hnews : ∀ i v, news[i]? = some v → CJ M L ad.block (ad.off + i) v) (hspot : ad.spot = none) (hz0 : Nat.blt 0 size = true) (h1 : ∀ u ∈ news, u.oneCell' = true) (hm : 0 < m) (hbig : n + m ≤ 1000000000) (hby : bytes ≤ 100000) :
  HF P ops N F E M L o (fun v' M' L' => M = M' ∧ ∃ R', L' = R' ++ L2 ∧ Own v' R' e size (n + m) (xs ++ news)) := by
 rcases hown with hown | ⟨rfl, hxl, ba, rfl, hbs, hold⟩
 ·exact (wCr hg ho hx hy hown hl1 hnews hspot hz0 h1 hbig hby).mono fun w v' M' L' ⟨e1, R', e2, e3, _⟩ hs => ⟨L', hs, e1, R', e2, e3⟩
 refine (hAppendC hg ho hx hy hxl (fun i u hu => (hold i u hu).cj L) hbs hl1 hnews hspot hm hbig hby).mono fun w v' M' L' ⟨e1, R', e2, e3⟩ hs => ?_
 exact ⟨R' ++ L2, by rw [e2] at hs; exact hs.perm (List.Perm.append_left R' (by simpa using hp.perm)), e1, R', rfl, e3⟩
theorem hAppendZ {x y : Operand} {t tn e : TypeId} {k kn : IntKind} {n bytes : Nat} {z : List Value} (hg : gd ops F o = some true)
  (ho : o.op = .call { callee := .builtin .append, args := #[x, y], argTypes := #[t, tn] }) (hx : ev F x = some (.slice none 0 0)) (hy : ev F y = some (.int k n)) [ht : Und P t (.slice e)] [htn : Und P tn (.int kn)] [hl : Lay P e 1 bytes z]
  (h0 : 0 < n) (hn : n ≤ 1000000000) (hby : bytes ≤ 100000) :
  HF P ops N F E M L o (fun v' M' L' => M = M' ∧ ∃ b cap cur, v' = .slice (some ⟨b, 0, none⟩) n cap ∧ L' = (b, .cells cur e (0, 0)) :: L ∧ n ≤ cap ∧ cap ≤ maxLen ∧ cur.size = cap) := wKd hg fun a w ha hw => by
 obtain ⟨ti, zv, hi, hi2, hi3, hz, hz2⟩ := hl.info
 have hzl : zv.cells.size = 1 := by rw [hz2]; simpa using hl.len
 have hb : n * bytes ≤ 1000000000 * 100000 := Nat.mul_le_mul hn hby
 have hr := Go.Lib.run_append_nil_zeros (P := P) w t tn o.type e ti zv k kn ht.h htn.h hi hz n h0 (by omega) (by omega) (by rw [hi3]; omega)
 have hge := grownCap_ge w n 0 e
 have hsz : (Builtin.zeroCells zv.cells n ++ Builtin.zeroCells zv.cells (grownCap w n 0 e - n)).size = grownCap w n 0 e := by
  simp only [Array.size_append, size_zeroCells, hzl]; omega
 generalize Builtin.zeroCells zv.cells n ++ Builtin.zeroCells zv.cells (grownCap w n 0 e - n) = cur at hr hsz
 have hd : St E M L w.drew := { hw with }
 refine ⟨_, w.drew.alloc (.cells cur e), M, (w.drew.heap.size, .cells cur e (0, 0)) :: L, .inl ?_, hd.alloc (.cells cur e), rfl, w.heap.size, _, cur, rfl, rfl, hge, grownCap_le_maxLen w n 0 e (by unfold maxLen; omega), hsz⟩
 simp [execOp, ho, resolve, invoke, builtin, ha.ev hx, ha.ev hy, hr]
theorem qCap {x : Operand} {t e : TypeId} {a : Option Addr} {n c : Nat} (hg : gd ops F o = some true) (ho : o.op = .call { callee := .builtin .cap, args := #[x], argTypes := #[t] })
  (hx : ev F x = some (.slice a n c)) [ht : Und P t (.slice e)] : QF P ops N F M L o (.int .i64 c) := wDs hg fun ac ha w _ => by
 simp [execOp, ho, resolve, invoke, builtin, Builtin.cap_, ha.ev hx, run_underlying ht.h, goInt]
end
end Go.Proofs.YtbhkdjheooknfaaGreat
