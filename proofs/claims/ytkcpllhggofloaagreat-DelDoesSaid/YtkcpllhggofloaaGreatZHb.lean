/- THE WALKING LAYER, second part: memory that is never written again and blocks of one's own; regions, code, calls. No statement of the seat is proved here. -/
import Derived.Test.YtkcpllhggofloaaGreatRows
import Derived.WalkKit
import Derived.OrdersHeld
import Derived.Deep.RegionHeld3
import Derived.OrdersIn
import Derived.RangeFuncCalls
import Derived.RangeFuncLeaves
namespace Go.Proofs.YtkcpllhggofloaaGreat
set_option linter.unusedSimpArgs false
set_option linter.unusedVariables false
set_option linter.unusedSectionVars false
open Go.RowKit
abbrev Fr := List (Nat × Value)
def lk (t : Nat) : Fr → Option Value
 | [] => none
 | (s, v) :: F => bif Nat.beq s t then some v else lk t F
def ev (F : Fr) : Operand → Option Value
 | .tmp t => lk t F
 | .const v => some v
 | .global g => some (.pointer (some ⟨g, 0, none⟩))
 | .func f => some (.func (.func f) #[] #[])
def evs (F : Fr) : List Operand → Option (List Value)
 | [] => some []
 | x :: xs => match ev F x, evs F xs with
  | some v, some vs => some (v :: vs)
  | _, _ => none
structure Fs where
 n : Nat
 D : List Nat := []
 r : Option Nat := none
def FF (r : Option Nat) : Fence := { Fence.wide with round := r }
def mark (d : Nat) : Deferred := { target := .collected d, args := #[] }
structure Has (N : Fs) (F : Fr) (a : Act) : Prop where
 size : a.tmps.size = N.n
 defers : a.defers = N.D.map mark
 get : ∀ t v, lk t F = some v → a.tmps[t]? = some v
theorem Has.ev {N : Fs} {F : Fr} {a : Act} (h : Has N F a) {x : Operand} {v : Value} (hx : ev F x = some v) : a.eval x = v := by
 cases x with
 | tmp t => simp only [Act.eval]; have := h.get t v hx; simp [Array.getD_eq_getD_getElem?, this]
 | const u => simpa [Go.Proofs.YtkcpllhggofloaaGreat.ev, Act.eval] using hx
 | global g => simpa [Go.Proofs.YtkcpllhggofloaaGreat.ev, Act.eval] using hx
 | func f => simpa [Go.Proofs.YtkcpllhggofloaaGreat.ev, Act.eval] using hx
theorem Has.evs {N : Fs} {F : Fr} {a : Act} (h : Has N F a) : ∀ {xs : List Operand} {vs : List Value}, evs F xs = some vs → xs.map a.eval = vs
 | [], vs, hx => by simpa [Go.Proofs.YtkcpllhggofloaaGreat.evs] using hx
 | x :: xs, vs, hx => by
  unfold Go.Proofs.YtkcpllhggofloaaGreat.evs at hx
  split at hx
  ·rename_i v us h1 h2
   cases hx
   simp [h.ev h1, h.evs h2]
  cases hx
theorem Has.put {N : Fs} {F : Fr} {a : Act} (h : Has N F a) {d : Nat} (hd : d < N.n) (v : Value) : Has N ((d, v) :: F) (a.put (some d) v) := by
 refine ⟨by simp [Act.put, h.size], h.defers, fun t u hu => ?_⟩
 unfold lk at hu
 simp only [Act.put]
 by_cases hdt : d = t
 ·subst hdt
  simp at hu
  subst hu
  simp [h.size, hd]
 have hb : Nat.beq d t = false := by
  cases hb : Nat.beq d t
  ·rfl
  exact absurd (Nat.eq_of_beq_eq_true hb) hdt
 rw [hb] at hu
 simp only [cond_false] at hu
 rw [Array.getElem?_setIfInBounds_ne hdt]
 exact h.get t u hu
theorem Has.nil {N : Fs} {F : Fr} {a : Act} (h : Has N F a) : Has N [] a := ⟨h.size, h.defers, fun _ _ h => by cases h⟩
structure Keep (F F' : Fr) : Prop where
 sub : ∀ t v, lk t F' = some v → lk t F = some v
theorem Keep.nil {F : Fr} : Keep F [] := ⟨fun _ _ h => by cases h⟩
theorem Keep.cons {F F' : Fr} {t : Nat} {v : Value} (h : lk t F = some v) (k : Keep F F') : Keep F ((t, v) :: F') := ⟨fun s u hu => by
 unfold lk at hu
 cases hb : Nat.beq t s
 ·rw [hb] at hu; exact k.sub s u hu
 rw [hb] at hu; cases hu; rw [← Nat.eq_of_beq_eq_true hb]; exact h⟩
theorem Keep.ceq {F F' : Fr} {t : Nat} {u v : Value} (h : lk t F = some u) (e : u = v) (k : Keep F F') : Keep F ((t, v) :: F') := Keep.cons (by rw [h, e]) k
theorem Keep.refl {F : Fr} : Keep F F := ⟨fun _ _ h => h⟩
theorem Has.keep {N : Fs} {F F' : Fr} {a : Act} (h : Has N F a) (k : Keep F F') : Has N F' a := ⟨h.size, h.defers, fun t v hv => h.get t v (k.sub t v hv)⟩
abbrev Cls := World → Prop
def Closed (C : Cls) : Prop := ∀ w w', C w → Below w.heap.size w w' → C w'
def growUpon (P : Program) (w : World) (v : Value) : Result Next → Prop
 | .ok (.value u) w' => u = v ∧ Below w.heap.size w w'
 | .ok .skip w' => v = undef ∧ Below w.heap.size w w'
 | .ok (.enter f args) w' => Below w.heap.size w w' ∧ Calls P f args w' (fun e w'' => e = .returned v ∧ Below w.heap.size w w'')
 | _ => False
def QY (P : Program) (ops : Array Oper) (C : Cls) (o : Oper) (v : Value) (a : Act) : Prop :=
 (Region.wanted o (yielded ops a.tmps) = true ∧ ∀ w, C w → growUpon P w v ((execOp a.eval o).run P w)) ∨
 (Region.wanted o (yielded ops a.tmps) = false ∧ v = undef)
section
variable {P : Program} {ops : Array Oper} {Q : Exit → Act → World → Prop} {md : Region.Mode}
theorem growUpon.plain {o : Oper} {ρ : Operand → Value} {w : World} {v : Value} (h : growUpon P w v ((execOp ρ o).run P w)) : ∀ c, o.op ≠ .defer c := by
 intro c hc
 simp only [execOp, hc, Sem.run_bind] at h
 generalize (resolve ρ c o.type).run P w = r at h
 cases r with
 | ok d w' => simp [Result.andThen, growUpon] at h
 | halt x w' => simp [Result.andThen, growUpon] at h
theorem wJq (r : Option Nat) (n : Nat) : (FF r).depth.isSome = true → 1 ≤ n := fun h => by simp [FF, Fence.wide] at h
theorem calls_in {f : FuncId} {args : Array Value} {w : World} {R : Ending → World → Prop} (r : Option Nat) (n : Nat) (h : Calls P f args w R) : CallsIn (FF r) n P f args w R := (callsIn_wide (n := n)).2 h
theorem growUpon.wp {r : Option Nat} {o : Oper} {a : Act} {w : World} {v : Value} {K : Act → World → Prop} (h : growUpon P w v ((execOp a.eval o).run P w))
  (hK : ∀ w', Below w.heap.size w w' → K (a.put o.dst v) w') : o.wpIn (FF r) 0 P a w K Q := by
 refine ⟨fun _ _ => trivial, ?_⟩
 rw [Oper.semAt_eq _ _ _ h.plain]
 generalize (execOp a.eval o).run P w = r at *
 cases r with
 | ok n w' =>
  cases n <;> simp only [growUpon] at h <;> simp only [Oper.uponIn]
  case value u => obtain ⟨rfl, hb⟩ := h; exact hK _ hb
  case skip => obtain ⟨rfl, hb⟩ := h; exact hK _ hb
  case enter f args => exact ⟨wJq _ _, calls_in _ _ (h.2.mono fun e w'' ⟨he, hb⟩ => by subst he; exact hK _ hb)⟩
 | halt x w' => simp only [growUpon] at h
theorem QY.wpOp {r : Option Nat} {C : Cls} {i : Nat} {o : Oper} {v : Value} {a : Act} (hi : ops[i]? = some o) (hy : QY P ops C o v a) {w : World} (hC : C w) {K : Act → World → Prop}
  (hK : ∀ w', Below w.heap.size w w' → K (a.put o.dst v) w') : Go.wpOpIn (FF r) 0 P ops Q i K a w := by
 unfold Go.wpOpIn
 simp only [hi]
 rcases hy with ⟨hw, hv⟩ | ⟨hw, rfl⟩
 ·simp only [hw, if_true]; exact (hv w hC).wp hK
 simp only [hw, Bool.false_eq_true, if_false]; exact ⟨fun _ _ => trivial, hK _ (Below.refl _ _)⟩
theorem QY.of_same {C : Cls} {o : Oper} {v : Value} {a a' : Act} (hy : QY P ops C o v a) (he : execOp a'.eval o = execOp a.eval o)
  (hw : Region.wanted o (yielded ops a'.tmps) = Region.wanted o (yielded ops a.tmps)) : QY P ops C o v a' := by
 unfold QY at *; rw [he, hw]; exact hy
theorem QY.sub {C C' : Cls} {o : Oper} {v : Value} {a : Act} (hy : QY P ops C o v a) (h : ∀ w, C' w → C w) : QY P ops C' o v a :=
 hy.imp (fun ⟨a, b⟩ => ⟨a, fun w hw => b w (h w hw)⟩) id
theorem wpOp_putG {r : Option Nat} {j : Nat} {oi oj : Oper} {v : Value} (hj : ops[j]? = some oj) (hap : oi.apart ops oj = true)
  (hsi : ∀ cs b, oi.op ≠ .select cs b) (hsj : ∀ cs b, oj.op ≠ .select cs b) (hdj : ∀ c, oj.op ≠ .defer c)
  (hQ : ∀ c a w, Q (.panic c) (a.put oi.dst v) w → Q (.panic c) a w) {Y : Act → Prop}
  (hY : ∀ a a', Y a → execOp a'.eval oi = execOp a.eval oi → Region.wanted oi (yielded ops a'.tmps) = Region.wanted oi (yielded ops a.tmps) → Y a') {K : Act → World → Prop} {a : Act} {w : World}
  (hy : Y a) (h : wpOpIn (FF r) 0 P ops Q j K (a.put oi.dst v) w) :
  wpOpIn (FF r) 0 P ops Q j (fun a' w' => Y a' ∧ K (a'.put oi.dst v) w') a w := by
 obtain ⟨h1, h2, h3⟩ := Oper.apart_spec hap
 have keep : ∀ (a : Act), Y a → ∀ u, Y (a.put oj.dst u) := fun a hy u =>
  hY _ _ hy (execOp_put oi hsi a oj.dst u h3) (wanted_put oi a oj.dst u h3)
 unfold wpOpIn at *
 simp only [hj] at *
 rw [wanted_put oj a oi.dst v h1] at h
 split
 ·rename_i hw
  simp only [hw, if_true] at h
  refine ⟨fun _ _ => trivial, ?_⟩
  have h := h.2
  rw [Oper.semAt_eq _ _ _ hdj] at h ⊢
  rw [execOp_put oj hsj a oi.dst v h1] at h
  generalize (execOp a.eval oj).run P w = r at *
  cases r with
  | ok n w' =>
   cases n <;> simp only [Oper.uponIn] at h ⊢
   case value u => exact ⟨keep a hy u, by rw [← Act.put_comm a v u h2]; exact h⟩
   case skip => exact ⟨keep a hy _, by rw [← Act.put_comm a v undef h2]; exact h⟩
   case defer d =>
    refine ⟨hY _ _ (hY _ _ hy rfl rfl : Y { a with defers := d :: a.defers }) (execOp_put oi hsi _ oj.dst undef h3) (wanted_put oi _ oj.dst undef h3), ?_⟩
    rw [← Act.put_comm _ v undef h2, ← Act.put_defers]
    exact h
   case enter f args =>
    refine ⟨h.1, CallsIn.mono h.2 fun e w'' he => ?_⟩
    cases e with
    | returned u => exact ⟨keep a hy u, by rw [← Act.put_comm a v u h2]; exact he⟩
    | panicked c => exact hQ _ _ _ he
    | outgrown => exact he
   case row row args => exact ⟨h.1, RowsIn.mono h.2 fun u w'' he => ⟨keep a hy u, by rw [← Act.put_comm a v u h2]; exact he⟩⟩
   case round l f tmps assign body =>
    refine ⟨h.1, RoundIn.mono h.2 fun e w'' he => ?_⟩
    cases e with
    | returned u => exact ⟨keep a hy u, by rw [← Act.put_comm a v u h2]; exact he⟩
    | panicked c => exact hQ _ _ _ he
    | outgrown => exact he
  | halt x w' =>
   cases x <;> simp only [Oper.uponIn] at h ⊢
   case panic u => exact hQ _ _ _ h
 rename_i hw
 simp only [hw] at h
 exact ⟨fun _ _ => trivial, keep a hy _, by rw [← Act.put_comm a v undef h2]; exact h.2⟩
def AC (A : Nat → Bool) (r : Option Nat) (P : Program) (md : Region.Mode) (ops : Array Oper) (Q : Exit → Act → World → Prop) (J I : Cls) : Nat → Bool → Array Bool → Act → Cls → Prop
 | 0, _, listed, a, C => ∀ w, C w → Region.ready md ops listed = [] ∧ Q .normal a w
 | fuel + 1, g, listed, a, C => ∀ w, C w → (Region.ready md ops listed = [] → Q .normal a w) ∧
  ∀ i ∈ Region.ready md ops listed, wpOpIn (FF r) 0 P ops Q i (fun a' w' => ∃ C' : Cls, Closed C' ∧ (∀ x, C' x → I x) ∧ ((g && A i) = true → ∀ x, C' x → J x) ∧ C' w' ∧ AC A r P md ops Q J I fuel (g && A i) (listed.setIfInBounds i true) a' C') a w
theorem AC.any {A : Nat → Bool} {r : Option Nat} {J I : Cls} : ∀ (fuel : Nat) (g : Bool) (listed : Array Bool) (a : Act) (C : Cls) (w : World), C w → AC A r P md ops Q J I fuel g listed a C → wpAnyIn (FF r) 0 P md ops Q fuel listed a w
 | 0, _, _, _, _, w, hw, h => h w hw
 | fuel + 1, _, _, _, _, w, hw, h => ⟨(h w hw).1, fun i hi => wpOpIn_mono (fun a' w' ⟨C', _, _, _, h2, h3⟩ => AC.any fuel _ _ a' C' w' h2 h3) ((h w hw).2 i hi)⟩
theorem AC.mono {A : Nat → Bool} {r : Option Nat} {J J' I I' : Cls} (hJ : ∀ w, J' w → J w) (hI : ∀ w, I' w → I w) : ∀ (fuel : Nat) (g : Bool) (listed : Array Bool) (a : Act) (C : Cls), AC A r P md ops Q J' I' fuel g listed a C → AC A r P md ops Q J I fuel g listed a C
 | 0, _, _, _, _, h => h
 | fuel + 1, _, _, _, _, h => fun w hw => ⟨(h w hw).1, fun i hi => wpOpIn_mono (fun a' w' ⟨C', h0, h1, h1', h2, h3⟩ => ⟨C', h0, fun x hx => hI x (h1 x hx), fun hA x hx => hJ x (h1' hA x hx), h2, AC.mono hJ hI fuel _ _ a' C' h3⟩) ((h w hw).2 i hi)⟩
def reaches (md : Region.Mode) (ops : Array Oper) : Nat → Nat → Nat → Bool
 | 0, _, _ => false
 | f + 1, j, i => match ops[j]? with
  | some oj => oj.after.toList.any fun e => Region.binds md e && (Nat.beq e.on i || reaches md ops f e.on i)
  | none => false
def Shut (md : Region.Mode) (ops : Array Oper) (listed : Array Bool) : Prop := ∀ j oj, ops[j]? = some oj → listed.getD j false = true → ∀ e ∈ oj.after, Region.binds md e = true → listed.getD e.on false = true
theorem getD_tf {listed : Array Bool} {i : Nat} (h : listed.getD i false = true) : listed.getD i true = true := by
 rcases Nat.lt_or_ge i listed.size with h' | h'
 ·simp [h'] at h ⊢; exact h
 simp [Array.getElem?_eq_none h'] at h
theorem Shut.none (n : Nat) : Shut md ops (Array.replicate n false) := fun j _ _ h => by
 rcases Nat.lt_or_ge j n with h' | h' <;> simp [h'] at h
theorem Shut.set {listed : Array Bool} {i : Nat} (h : Shut md ops listed) (hi : i ∈ Region.ready md ops listed) : Shut md ops (listed.setIfInBounds i true) := fun j oj hj hl e he hb => by
 refine getD_set_true ?_
 by_cases hji : i = j
 ·subst hji
  obtain ⟨_, o, ho, hall⟩ := mem_ready.1 hi
  rw [hj] at ho; cases ho
  exact hall e he hb
 rw [getD_set_ne false hji] at hl
 exact h j oj hj hl e he hb
theorem Shut.reach {listed : Array Bool} (h : Shut md ops listed) {i : Nat} : ∀ (f j : Nat), reaches md ops f j i = true → (∀ oj, ops[j]? = some oj → ∀ e ∈ oj.after, Region.binds md e = true → listed.getD e.on false = true) → listed.getD i false = true
 | 0, _, hr, _ => by cases hr
 | f + 1, j, hr, hall => by
  unfold reaches at hr
  split at hr
  ·rename_i oj hj
   obtain ⟨e, he, hh⟩ := List.any_eq_true.1 hr
   rw [Bool.and_eq_true, Bool.or_eq_true] at hh
   have h1 := hall oj hj e (by simpa using he) hh.1
   rcases hh.2 with h2 | h2
   ·rw [← Nat.eq_of_beq_eq_true h2]; exact h1
   exact h.reach f e.on h2 fun ok hk e2 he2 hb2 => h e.on ok hk h1 e2 he2 hb2
  cases hr
theorem AC.first {A : Nat → Bool} {r : Option Nat} {J I : Cls} {i : Nat} {oi : Oper} {v : Value} (u : Bool) (hi : ops[i]? = some oi) (hsel : ∀ (j : Nat) (o : Oper) cs b, ops[j]? = some o → o.op ≠ .select cs b) (hnd : ∀ (j : Nat) (o : Oper) c, ops[j]? = some o → o.op ≠ .defer c)
  (hQ : ∀ c a w, Q (.panic c) (a.put oi.dst v) w → Q (.panic c) a w) (hA : A i = true)
  (hB : u = true → ∀ j, j < ops.size → A j = false → reaches md ops ops.size j i = true) :
  ∀ (fuel : Nat) (g : Bool) (listed : Array Bool) (a : Act) (C : Cls), (u = true → g = true) → ((∀ j, A j = true) ∨ Shut md ops listed) →
   (∀ j oj, ops[j]? = some oj → j ≠ i → listed.getD j true = false → (∀ e ∈ oj.after, Region.binds md e = true → e.on ≠ i) → oi.apart ops oj = true) →
   i ∈ Region.ready md ops listed → QY P ops (if u then J else I) oi v a → Closed C → (∀ w, C w → I w) → (g = true → ∀ w, C w → J w) →
   AC A r P md ops Q J I fuel g (listed.setIfInBounds i true) (a.put oi.dst v) C → AC A r P md ops Q J I (fuel + 1) g listed a C := by
 have hsubC : ∀ (g : Bool) (C : Cls), (u = true → g = true) → (∀ w, C w → I w) → (g = true → ∀ w, C w → J w) → ∀ w, C w → (if u then J else I) w := fun g C hug hCI hCJ w hw => by
  cases hu : u with
  | false => simpa using hCI w hw
  | true => simpa using hCJ (hug hu) w hw
 intro fuel
 induction fuel with
 | zero =>
  intro g listed a C hug _ _ hr hy hcl hCI hCJ H w hC
  refine ⟨fun h => (by rw [h] at hr; cases hr), fun j hj => ?_⟩
  by_cases hji : j = i
  ·subst hji
   rw [hA, Bool.and_true]
   exact hy.wpOp hi (hsubC g C hug hCI hCJ w hC) fun _ hb => ⟨C, hcl, hCI, hCJ, hcl _ _ hC hb, H⟩
  have := ready_mono hj hji
  rw [(H w hC).1] at this
  cases this
 | succ fuel ih =>
  intro g listed a C hug hsh hfree hr hy hcl hCI hCJ H w hC
  refine ⟨fun h => (by rw [h] at hr; cases hr), fun j hj => ?_⟩
  by_cases hji : j = i
  ·subst hji
   rw [hA, Bool.and_true]
   exact hy.wpOp hi (hsubC g C hug hCI hCJ w hC) fun _ hb => ⟨C, hcl, hCI, hCJ, hcl _ _ hC hb, H⟩
  have h1 := (H w hC).2 j (ready_mono hj hji)
  obtain ⟨hjun, oj, hoj, hall⟩ := mem_ready.1 hj
  have hnot : ∀ e ∈ oj.after, Region.binds md e = true → e.on ≠ i := fun e he hb heq => by
   have h1 := hall e he hb
   have h0 := (mem_ready.1 hr).1
   rw [heq] at h1
   rcases Nat.lt_or_ge i listed.size with h' | h'
   ·simp [h'] at h0 h1; rw [h0] at h1; cases h1
   simp [Array.getElem?_eq_none h'] at h1
  have h2 := wpOp_putG hoj (hfree j oj hoj hji hjun hnot) (fun cs b => hsel i oi cs b hi) (fun cs b => hsel j oj cs b hoj) (fun c => hnd j oj c hoj) hQ (Y := QY P ops (if u then J else I) oi v) (fun _ _ y e1 e2 => y.of_same e1 e2) hy h1
  have hfree' : ∀ k ok, ops[k]? = some ok → k ≠ i → (listed.setIfInBounds j true).getD k true = false →
    (∀ e ∈ ok.after, Region.binds md e = true → e.on ≠ i) → oi.apart ops ok = true := fun k ok hk hki hun hno => by
   refine hfree k ok hk hki ?_ hno
   by_cases hjk : j = k
   ·subst hjk; exact hjun
   rw [getD_set_ne true hjk] at hun; exact hun
  refine wpOpIn_mono (fun a' w' h3 => ?_) h2
  obtain ⟨hy', C', hcl', hsub, hsub', hw', hac⟩ := h3
  have hug' : u = true → (g && A j) = true := fun hu => by
   rw [hug hu, Bool.true_and]
   cases hAj : A j with
   | true => rfl
   | false =>
    have hS := hsh.resolve_left fun h => by rw [h j] at hAj; cases hAj
    have h1 := getD_tf (hS.reach ops.size j (hB hu j (Array.getElem?_eq_some_iff.1 hoj).1 hAj) fun o ho => by rw [hoj] at ho; cases ho; exact hall)
    rw [(mem_ready.1 hr).1] at h1; cases h1
  refine ⟨C', hcl', hsub, hsub', hw', ih _ (listed.setIfInBounds j true) a' C' hug' (hsh.imp id fun h => h.set hj) hfree' (ready_mono hr (Ne.symm hji)) hy' hcl' hsub hsub' ?_⟩
  rw [Array.setIfInBounds_comm _ _ hji]
  exact hac
theorem AC.alone {A : Nat → Bool} {r : Option Nat} {J I : Cls} {i : Nat} {fuel : Nat} {g : Bool} {listed : Array Bool} {a : Act} {C : Cls} (hr : Region.ready md ops listed = [i])
  (h : ∀ w, C w → wpOpIn (FF r) 0 P ops Q i (fun a' w' => ∃ C' : Cls, Closed C' ∧ (∀ x, C' x → I x) ∧ ((g && A i) = true → ∀ x, C' x → J x) ∧ C' w' ∧ AC A r P md ops Q J I fuel (g && A i) (listed.setIfInBounds i true) a' C') a w) : AC A r P md ops Q J I (fuel + 1) g listed a C :=
 fun w hC => ⟨fun h0 => (by rw [hr] at h0; cases h0), fun j hj => (by rw [hr] at hj; rw [List.mem_singleton.1 hj]; exact h w hC)⟩
theorem AC.done {A : Nat → Bool} {r : Option Nat} {J I : Cls} {g : Bool} {listed : Array Bool} {a : Act} {C : Cls} (hr : Region.ready md ops listed = []) (h : ∀ w, C w → Q .normal a w) : ∀ fuel, AC A r P md ops Q J I fuel g listed a C
 | 0 => fun w hC => ⟨hr, h w hC⟩
 | _ + 1 => fun w hC => ⟨fun _ => h w hC, (by rw [hr]; intro i hi; cases hi)⟩
end
def upd (d : Option Nat) (v : Value) (F : Fr) : Fr := match d with | some d => (d, v) :: F | none => F
def dstOk (N : Fs) (o : Oper) : Bool := match o.dst with | some d => Nat.blt d N.n | none => true
theorem Has.upd {N : Fs} {F : Fr} {a : Act} (h : Has N F a) {o : Oper} (hd : dstOk N o = true) (v : Value) : Has N (upd o.dst v F) (a.put o.dst v) := by
 unfold dstOk at hd
 cases ho : o.dst with
 | none => exact h
 | some d => rw [ho] at hd; exact h.put (by simpa [Nat.blt_eq] using hd) v
structure Ph where
 A : Nat → Bool := fun _ => true
 U : Nat → Bool := fun _ => true
def JO (p : Ph) (P : Program) (ops : Array Oper) (N : Fs) (Q : Exit → Act → World → Prop) : List (Nat × Bool) → Bool → Fr → Cls → Cls → Cls → Prop
 | [], _, F, _, _, C => ∀ a w, Has N F a → C w → Q .normal a w
 | (i, q) :: rest, g, F, J, I, C => ∃ o, ops[i]? = some o ∧ dstOk N o = true ∧ Closed C ∧ (∀ w, C w → I w) ∧ (g = true → ∀ w, C w → J w) ∧
  match q with
  | true => p.A i = true ∧ (p.U i = true → g = true) ∧ ∃ v, (∀ a, Has N F a → QY P ops (if p.U i then J else I) o v a) ∧ JO p P ops N Q rest g (upd o.dst v F) J I C
  | false => (∀ a w, Has N F a → C w → Region.wanted o (yielded ops a.tmps) = true ∧
    o.wpIn (FF N.r) 0 P a w (fun a' w' => ∃ v, a' = a.put o.dst v ∧ ∃ (J' I' C' : Cls), Closed C' ∧ (∀ x, C' x → I' x) ∧ (∀ x, I' x → I x) ∧ ((g && p.A i) = true → ∀ x, C' x → J' x) ∧ (∀ x, J' x → J x) ∧ C' w' ∧ JO p P ops N Q rest (g && p.A i) (upd o.dst v F) J' I' C') Q) ∨
    ((∀ a, Has N F a → Region.wanted o (yielded ops a.tmps) = false) ∧ JO p P ops N Q rest (g && p.A i) (upd o.dst undef F) J I C)
def noDefer (ops : Array Oper) : Bool := ops.all fun o => match o.op with | .defer _ => false | _ => true
theorem noDefer_spec {ops : Array Oper} (h : noDefer ops = true) (j : Nat) (o : Oper) (c : Call) (hj : ops[j]? = some o) : o.op ≠ .defer c := by
 intro hc
 have := Array.all_eq_true_iff_forall_mem.1 h o (Array.mem_of_getElem? hj)
 simp [hc] at this
def phased (p : Ph) (ops : Array Oper) : Bool := (List.range ops.size).all fun i => !p.U i || (List.range ops.size).all fun j => p.A j || reaches .any ops ops.size j i
theorem phased_spec {p : Ph} {ops : Array Oper} (h : phased p ops = true) {i : Nat} (hi : i < ops.size) (hA : p.U i = true) (j : Nat) (hj : j < ops.size) (hAj : p.A j = false) : reaches .any ops ops.size j i = true := by
 have h1 := List.all_eq_true.1 h i (List.mem_range.2 hi)
 rw [hA] at h1
 simp only [Bool.not_true, Bool.false_or] at h1
 have h2 := List.all_eq_true.1 h1 j (List.mem_range.2 hj)
 simpa [hAj] using h2
theorem phased_all (ops : Array Oper) : phased {} ops = true := by simp [phased]
def wJe (ops : Array Oper) : List (Nat × Bool) → Array Bool → Bool
 | [], listed => (Region.ready .any ops listed).isEmpty
 | (i, true) :: rest, listed => (Region.ready .any ops listed).contains i && Region.free .any ops listed i && wJe ops rest (listed.setIfInBounds i true)
 | (i, false) :: rest, listed => (Region.ready .any ops listed == [i]) && wJe ops rest (listed.setIfInBounds i true)
section
variable {P : Program} {ops : Array Oper} {Q : Exit → Act → World → Prop} {N : Fs}
theorem JO.toAC {p : Ph} (hs : (Region.noSelect ops && noDefer ops) = true) (hph : phased p ops = true) (hQ : ∀ c d v a w, Q (.panic c) (a.put d v) w → Q (.panic c) a w) : ∀ (l : List (Nat × Bool)) (g : Bool) (listed : Array Bool) (F : Fr) (J I C : Cls) (a : Act),
  Shut .any ops listed → wJe ops l listed = true → JO p P ops N Q l g F J I C → Has N F a → AC p.A N.r P .any ops Q J I l.length g listed a C
 | [], g, listed, F, J, I, C, a, _, hok, h, ha => AC.done (by simpa [wJe] using hok) (fun w hC => h a w ha hC) 0
 | (i, true) :: rest, g, listed, F, J, I, C, a, hsh, hok, h, ha => by
  obtain ⟨o, ho, hd, hcl, hCI, hCJ, hA, hU, v, hv, hrest⟩ := h
  simp only [wJe, Bool.and_eq_true] at hok
  exact AC.first (p.U i) ho (Region.noSelect_spec (Bool.and_eq_true _ _ ▸ hs).1) (noDefer_spec (Bool.and_eq_true _ _ ▸ hs).2) (fun c a w => hQ c _ _ a w) hA (fun hA => phased_spec hph (Array.getElem?_eq_some_iff.1 ho).1 hA)
   rest.length g listed a C hU (.inr hsh) (Region.free_spec ho hok.1.2) (by simpa using hok.1.1) (hv a ha) hcl hCI hCJ
   (JO.toAC hs hph hQ rest _ _ _ J I C _ (hsh.set (by simpa using hok.1.1)) hok.2 hrest (ha.upd hd v))
 | (i, false) :: rest, g, listed, F, J, I, C, a, hsh, hok, h, ha => by
  obtain ⟨o, ho, hd, hcl, hCI, hCJ, hv⟩ := h
  simp only [wJe, Bool.and_eq_true, beq_iff_eq] at hok
  refine AC.alone hok.1 fun w hC => ?_
  rcases hv with hv | ⟨hw, hv⟩
  ·obtain ⟨hw, hwp⟩ := hv a w ha hC
   unfold wpOpIn
   simp only [ho, hw, if_true]
   refine Oper.wpIn_mono (fun a' w' hh => ?_) hwp
   obtain ⟨v, rfl, J', I', C', h1, h2, h2', h3', h4', h3, h4⟩ := hh
   exact ⟨C', h1, fun x hx => h2' x (h2 x hx), fun hA x hx => h4' x (h3' hA x hx), h3, AC.mono h4' h2' _ _ _ _ _ (JO.toAC hs hph hQ rest _ _ _ J' I' C' _ (hsh.set (by rw [hok.1]; simp)) hok.2 h4 (ha.upd hd v))⟩
  unfold wpOpIn
  simp only [ho, hw a ha, Bool.false_eq_true, if_false]
  exact ⟨fun _ _ => trivial, C, hcl, hCI, fun hg => hCJ (by simpa using (Bool.and_eq_true _ _ ▸ hg).1), hC, JO.toAC hs hph hQ rest _ _ _ J I C _ (hsh.set (by rw [hok.1]; simp)) hok.2 hv (ha.upd hd _)⟩
end
abbrev Mem := Nat → Option Obj
abbrev Lc := List (Nat × Obj)
structure Ent where
 W : World
 X : List Nat
 M0 : Mem
structure St (E : Ent) (M : Mem) (L : Lc) (w : World) : Prop where
 os : w.os = E.W.os
 tape : w.tape = E.W.tape
 output : w.output = E.W.output
 size : E.W.heap.size ≤ w.heap.size
 same : ∀ k, k < E.W.heap.size → k ∉ E.X → w.heap[k]? = E.W.heap[k]?
 fresh : ∀ k, k < E.W.heap.size → M k = E.M0 k
 agree : ∀ b o, M b = some o → w.heap[b]? = some o
 locs : ∀ p ∈ L, w.heap[p.1]? = some p.2 ∧ (E.W.heap.size ≤ p.1 ∨ p.1 ∈ E.X) ∧ M p.1 = none
 nodup : (L.map (·.1)).Nodup
structure Js (M : Mem) (L : Lc) (w : World) : Prop where
 agree : ∀ b o, M b = some o → w.heap[b]? = some o
 locs : ∀ p ∈ L, w.heap[p.1]? = some p.2
theorem wDj {w : World} {b : Nat} {o : Obj} (h : w.heap[b]? = some o) : b < w.heap.size := (Array.getElem?_eq_some_iff.1 h).1
theorem Js.closed (M : Mem) (L : Lc) : Closed (Js M L) := fun _ _ h hb =>
 ⟨fun b o h' => by rw [hb.block b (wDj (h.agree b o h'))]; exact h.agree b o h', fun p hp => by rw [hb.block p.1 (wDj (h.locs p hp))]; exact h.locs p hp⟩
theorem St.closed (E : Ent) (M : Mem) (L : Lc) : Closed (St E M L) := fun w w' h hb =>
 {os := hb.os.trans h.os, tape := hb.tape.trans h.tape, output := hb.output.trans h.output, size := Nat.le_trans h.size hb.size
  same := fun k hk hx => (hb.block k (Nat.lt_of_lt_of_le hk h.size)).trans (h.same k hk hx)
  fresh := h.fresh
  agree := fun b o h' => by rw [hb.block b (wDj (h.agree b o h'))]; exact h.agree b o h'
  locs := fun p hp => ⟨by rw [hb.block p.1 (wDj (h.locs p hp).1)]; exact (h.locs p hp).1, (h.locs p hp).2⟩
  nodup := h.nodup }
theorem St.js {E : Ent} {M : Mem} {L : Lc} {w : World} (h : St E M L w) : Js M L w := ⟨h.agree, fun p hp => (h.locs p hp).1⟩
def MLe (M M' : Mem) : Prop := ∀ b o, M b = some o → M' b = some o
theorem MLe.refl (M : Mem) : MLe M M := fun _ _ h => h
theorem MLe.trans {M M' M'' : Mem} (h : MLe M M') (k : MLe M' M'') : MLe M M'' := fun b o x => k b o (h b o x)
theorem Js.sub {M M' : Mem} {L L' : Lc} (hM : MLe M M') (hL : ∀ p ∈ L, p ∈ L') {w : World} (h : Js M' L' w) : Js M L w := ⟨fun b o x => h.agree b o (hM b o x), fun p hp => h.locs p (hL p hp)⟩
theorem St.fewer {E : Ent} {M : Mem} {L L' : Lc} {w : World} (h : St E M L w) (hs : L'.Sublist L) : St E M L' w :=
 {h with locs := fun p hp => h.locs p (hs.subset hp), nodup := h.nodup.sublist (hs.map _) }
theorem St.perm {E : Ent} {M : Mem} {L L' : Lc} {w : World} (h : St E M L w) (hs : L.Perm L') : St E M L' w :=
 {h with locs := fun p hp => h.locs p (hs.mem_iff.2 hp), nodup := (hs.map _).nodup_iff.1 h.nodup }
def Mem.set (M : Mem) (g : Nat) (o : Obj) : Mem := fun b => if b = g then some o else M b
theorem Mem.le_set {M : Mem} {g : Nat} {o : Obj} (h : M g = none) : MLe M (M.set g o) := fun b x hx => by
 unfold Mem.set; split
 ·rename_i e; subst e; rw [h] at hx; cases hx
 exact hx
theorem St.freeze {W : World} {X : List Nat} {M0 M : Mem} {L : Lc} {g : Nat} {o : Obj} {w : World} (h : St ⟨W, X, M0⟩ M ((g, o) :: L) w) (hg : g ∉ X) : St ⟨W, X, M0⟩ (M.set g o) L w ∧ MLe M (M.set g o) := by
 have hg' := h.locs (g, o) (by simp)
 have hn : W.heap.size ≤ g := hg'.2.1.resolve_right hg
 refine ⟨{ h with fresh := fun k hk => ?_, agree := fun b x hx => ?_, locs := fun p hp => ?_, nodup := (List.nodup_cons.1 h.nodup).2 }, Mem.le_set hg'.2.2⟩
 ·have hk' : k < W.heap.size := hk
  have : k ≠ g := fun e => by omega
  rw [← h.fresh k hk]; simp [Mem.set, this]
 ·unfold Mem.set at hx; split at hx
  ·rename_i e; subst e; cases hx; exact hg'.1
  exact h.agree b x hx
 have hp' := h.locs p (List.mem_cons_of_mem _ hp)
 refine ⟨hp'.1, hp'.2.1, ?_⟩
 have : p.1 ≠ g := fun e => (List.nodup_cons.1 h.nodup).1 (by rw [← e]; exact List.mem_map.2 ⟨p, hp, rfl⟩)
 simp [Mem.set, this, hp'.2.2]
section
variable (P : Program) (ops : Array Oper) (N : Fs)
def QF (F : Fr) (M : Mem) (L : Lc) (o : Oper) (v : Value) : Prop := ∀ a, Has N F a → QY P ops (Js M L) o v a
def HF (F : Fr) (E : Ent) (M : Mem) (L : Lc) (o : Oper) (K : Value → Mem → Lc → Prop) : Prop := ∀ a w, Has N F a → St E M L w →
 Region.wanted o (yielded ops a.tmps) = true ∧ ∀ Q, o.wpIn (FF N.r) 0 P a w (fun a' w' => ∃ v M' L', a' = a.put o.dst v ∧ St E M' L' w' ∧ K v M' L') Q
def JL (Q : Exit → Act → World → Prop) (l : List Oper) (F : Fr) (E : Ent) (M : Mem) (L : Lc) : Prop := ∀ a w, Has N F a → St E M L w → wpListIn (FF N.r) 0 P ops Q l a w
def JD (p : Ph) (Mw : Mem) (Lw : Lc) (Q : Exit → Act → World → Prop) (l : List (Nat × Bool)) (F : Fr) (E : Ent) (M : Mem) (L : Lc) (Mi : Mem) (Li : Lc) : Prop :=
 MLe Mi M → (∀ p ∈ Li, p ∈ L) → MLe Mw Mi → (∀ p ∈ Lw, p ∈ Li) → JO p P ops N Q l true F (Js Mi Li) (Js Mw Lw) (St E M L)
def JE (p : Ph) (Mw : Mem) (Lw : Lc) (Q : Exit → Act → World → Prop) (l : List (Nat × Bool)) (F : Fr) (E : Ent) (M : Mem) (L : Lc) : Prop :=
 MLe Mw M → (∀ p ∈ Lw, p ∈ L) → ∀ J, JO p P ops N Q l false F J (Js Mw Lw) (St E M L)
end
def JC (P : Program) (N : Fs) (c : Code) (F : Fr) (E : Ent) (M : Mem) (L : Lc) (Q : Exit → Act → World → Prop) : Prop := ∀ a w, Has N F a → St E M L w → c.wpIn (FF N.r) 0 P Q a w
def JQ (N : Fs) (e : Exit) (F : Fr) (E : Ent) (M : Mem) (L : Lc) (Q : Exit → Act → World → Prop) : Prop := ∀ a w, Has N F a → St E M L w → Q e a w
section
variable {P : Program} {ops : Array Oper} {N : Fs} {Q : Exit → Act → World → Prop} {F F' : Fr} {E : Ent} {M : Mem} {L : Lc}
theorem wAc (h : JQ N .normal F E M L Q) : JL P ops N Q [] F E M L := h
theorem wAi {o : Oper} {rest : List Oper} {v : Value} {d : Nat} (hd : o.dst = some d) (hN : Nat.blt d N.n = true) (hq : QF P ops N F M L o v) (h : JL P ops N Q rest ((d, v) :: F) E M L) : JL P ops N Q (o :: rest) F E M L := by
 intro a w ha hw
 have hy := hq a ha
 have hN' : d < N.n := by simpa [Nat.blt_eq] using hN
 unfold wpListIn
 rcases hy with ⟨hwa, hv⟩ | ⟨hwa, rfl⟩
 ·rw [if_pos hwa]
  exact (hv w hw.js).wp fun w' hb => by rw [hd]; exact h _ _ (ha.put hN' v) (St.closed _ _ _ _ _ hw hb)
 rw [hwa]
 simp only [Bool.false_eq_true, if_false]
 rw [hd]; exact ⟨fun _ _ => trivial, h _ _ (ha.put hN' _) hw⟩
theorem wAy {o : Oper} {rest : List Oper} {K : Value → Mem → Lc → Prop} {d : Nat} (hd : o.dst = some d) (hN : Nat.blt d N.n = true) (hh : HF P ops N F E M L o K) (h : ∀ v M' L', K v M' L' → JL P ops N Q rest ((d, v) :: F) E M' L') : JL P ops N Q (o :: rest) F E M L := by
 intro a w ha hw
 obtain ⟨h1, h2⟩ := hh a w ha hw
 have hN' : d < N.n := by simpa [Nat.blt_eq] using hN
 unfold wpListIn
 rw [if_pos h1]
 refine Oper.wpIn_mono (fun a' w' hk => ?_) (h2 Q)
 obtain ⟨v, M', L', rfl, hs, hK⟩ := hk
 rw [hd]
 exact h v M' L' hK _ _ (ha.put hN' v) hs
theorem jl_s {o : Oper} {rest : List Oper} {K : Value → Mem → Lc → Prop} (hd : o.dst = none) (hh : HF P ops N F E M L o K) (h : ∀ v M' L', K v M' L' → JL P ops N Q rest F E M' L') : JL P ops N Q (o :: rest) F E M L := by
 intro a w ha hw
 obtain ⟨h1, h2⟩ := hh a w ha hw
 unfold wpListIn
 rw [if_pos h1]
 refine Oper.wpIn_mono (fun a' w' hk => ?_) (h2 Q)
 obtain ⟨v, M', L', rfl, hs, hK⟩ := hk
 rw [hd]
 exact h v M' L' hK _ _ ha hs
theorem jl_weak {rest : List Oper} {M' : Mem} {L' : Lc} (hw : ∀ w, St E M L w → St E M' L' w) (h : JL P ops N Q rest F E M' L') : JL P ops N Q rest F E M L := fun a w ha hs => h a w ha (hw w hs)
variable {Mi Mw : Mem} {Li Lw : Lc} {p : Ph}
theorem wBd (h : JQ N .normal F E M L Q) : JD P ops N p Mw Lw Q [] F E M L Mi Li := fun _ _ _ _ => h
theorem wBq {i : Nat} {rest : List (Nat × Bool)} {o : Oper} {v : Value} {d : Nat} (ho : ops[i]? = some o) (hd : o.dst = some d) (hN : Nat.blt d N.n = true)
  (hq : QF P ops N F Mi Li o v) (h : JD P ops N p Mw Lw Q rest ((d, v) :: F) E M L Mi Li) (hA : p.A i = true := by rfl) (hU : p.U i = true := by rfl) : JD P ops N p Mw Lw Q ((i, true) :: rest) F E M L Mi Li := fun hM hL kM kL =>
 ⟨o, ho, by unfold dstOk; rw [hd]; exact hN, St.closed _ _ _, fun _ hw => (hw.js.sub hM hL).sub kM kL, fun _ _ hw => hw.js.sub hM hL, hA, fun _ => rfl, v, fun a ha => by rw [if_pos hU]; exact hq a ha, by rw [hd]; exact h hM hL kM kL⟩
theorem jd_u {i : Nat} {rest : List (Nat × Bool)} {o : Oper} {v : Value} {d : Nat} (ho : ops[i]? = some o) (hd : o.dst = some d) (hN : Nat.blt d N.n = true)
  (hq : QF P ops N F Mw Lw o v) (h : JD P ops N p Mw Lw Q rest ((d, v) :: F) E M L Mi Li) (hA : p.A i = true := by rfl) (hU : p.U i = false := by rfl) : JD P ops N p Mw Lw Q ((i, true) :: rest) F E M L Mi Li := fun hM hL kM kL =>
 ⟨o, ho, by unfold dstOk; rw [hd]; exact hN, St.closed _ _ _, fun _ hw => (hw.js.sub hM hL).sub kM kL, fun _ _ hw => hw.js.sub hM hL, hA, fun _ => rfl, v, fun a ha => by rw [hU]; exact hq a ha, by rw [hd]; exact h hM hL kM kL⟩
theorem jd_any {i : Nat} {rest : List (Nat × Bool)} {o : Oper} {v : Value} {d : Nat} (ho : ops[i]? = some o) (hd : o.dst = some d) (hN : Nat.blt d N.n = true)
  (hq : ∀ M L, QF P ops N F M L o v) (h : JD P ops N p Mw Lw Q rest ((d, v) :: F) E M L Mi Li) (hA : p.A i = true := by rfl) : JD P ops N p Mw Lw Q ((i, true) :: rest) F E M L Mi Li := by
 cases hU : p.U i
 ·exact jd_u ho hd hN (hq _ _) h hA hU
 exact wBq ho hd hN (hq _ _) h hA hU
theorem wHc {i : Nat} {rest : List (Nat × Bool)} {o : Oper} {K : Value → Mem → Lc → Prop} {d : Nat} (ho : ops[i]? = some o) (hd : o.dst = some d) (hN : Nat.blt d N.n = true)
  (hh : HF P ops N F E M L o K)
  (h : ∀ v M' L', K v M' L' → ∃ Mi' Li', MLe Mi Mi' ∧ MLe Mi' M' ∧ (∀ p ∈ Li, p ∈ Li') ∧ (∀ p ∈ Li', p ∈ L') ∧ JD P ops N p Mw Lw Q rest ((d, v) :: F) E M' L' Mi' Li') (hA : p.A i = true := by rfl) : JD P ops N p Mw Lw Q ((i, false) :: rest) F E M L Mi Li := fun hM hL kM kL =>
 ⟨o, ho, by unfold dstOk; rw [hd]; exact hN, St.closed _ _ _, fun _ hw => (hw.js.sub hM hL).sub kM kL, fun _ _ hw => hw.js.sub hM hL, .inl fun a w ha hw => by
  obtain ⟨h1, h2⟩ := hh a w ha hw
  refine ⟨h1, Oper.wpIn_mono (fun a' w' hk => ?_) (h2 Q)⟩
  obtain ⟨v, M', L', rfl, hs, hK⟩ := hk
  obtain ⟨Mi', Li', k1, k2, k3, k4, k5⟩ := h v M' L' hK
  refine ⟨v, rfl, Js Mi' Li', Js Mw Lw, St E M' L', St.closed _ _ _, fun _ hx => (hx.js.sub k2 k4).sub (kM.trans k1) (fun p hp => k3 p (kL p hp)), fun _ hx => hx, fun _ _ hx => hx.js.sub k2 k4, fun _ hx => hx.sub k1 k3, hs, ?_⟩
  rw [hd, hA]; exact k5 k2 k4 (kM.trans k1) (fun p hp => k3 p (kL p hp))⟩
theorem jd_s {i : Nat} {rest : List (Nat × Bool)} {o : Oper} {K : Value → Mem → Lc → Prop} (ho : ops[i]? = some o) (hd : o.dst = none)
  (hh : HF P ops N F E M L o K)
  (h : ∀ v M' L', K v M' L' → ∃ Mi' Li', MLe Mi Mi' ∧ MLe Mi' M' ∧ (∀ p ∈ Li, p ∈ Li') ∧ (∀ p ∈ Li', p ∈ L') ∧ JD P ops N p Mw Lw Q rest F E M' L' Mi' Li') (hA : p.A i = true := by rfl) : JD P ops N p Mw Lw Q ((i, false) :: rest) F E M L Mi Li := fun hM hL kM kL =>
 ⟨o, ho, by unfold dstOk; rw [hd], St.closed _ _ _, fun _ hw => (hw.js.sub hM hL).sub kM kL, fun _ _ hw => hw.js.sub hM hL, .inl fun a w ha hw => by
  obtain ⟨h1, h2⟩ := hh a w ha hw
  refine ⟨h1, Oper.wpIn_mono (fun a' w' hk => ?_) (h2 Q)⟩
  obtain ⟨v, M', L', rfl, hs, hK⟩ := hk
  obtain ⟨Mi', Li', k1, k2, k3, k4, k5⟩ := h v M' L' hK
  refine ⟨v, rfl, Js Mi' Li', Js Mw Lw, St E M' L', St.closed _ _ _, fun _ hx => (hx.js.sub k2 k4).sub (kM.trans k1) (fun p hp => k3 p (kL p hp)), fun _ hx => hx, fun _ _ hx => hx.js.sub k2 k4, fun _ hx => hx.sub k1 k3, hs, ?_⟩
  rw [hd, hA]; exact k5 k2 k4 (kM.trans k1) (fun p hp => k3 p (kL p hp))⟩
theorem jd_e {i : Nat} {rest : List (Nat × Bool)} {o : Oper} {K : Value → Mem → Lc → Prop} (ho : ops[i]? = some o) (hd : o.dst = none)
  (hh : HF P ops N F E M L o K)
  (h : ∀ v M' L', K v M' L' → MLe Mw M' ∧ (∀ p ∈ Lw, p ∈ L') ∧ JE P ops N p Mw Lw Q rest F E M' L') (hA : p.A i = false := by rfl) : JD P ops N p Mw Lw Q ((i, false) :: rest) F E M L Mi Li := fun hM hL kM kL =>
 ⟨o, ho, by unfold dstOk; rw [hd], St.closed _ _ _, fun _ hw => (hw.js.sub hM hL).sub kM kL, fun _ _ hw => hw.js.sub hM hL, .inl fun a w ha hw => by
  obtain ⟨h1, h2⟩ := hh a w ha hw
  refine ⟨h1, Oper.wpIn_mono (fun a' w' hk => ?_) (h2 Q)⟩
  obtain ⟨v, M', L', rfl, hs, hK⟩ := hk
  obtain ⟨k1, k2, k3⟩ := h v M' L' hK
  refine ⟨v, rfl, Js Mi Li, Js Mw Lw, St E M' L', St.closed _ _ _, fun _ hx => hx.js.sub k1 k2, fun _ hx => hx, fun h => ?_, fun _ hx => hx, hs, ?_⟩
  ·rw [hA] at h; cases h
  rw [hd, hA]; exact k3 k1 k2 _⟩
theorem wGn {rest : List (Nat × Bool)} {M' : Mem} {L' : Lc} (hM : MLe M M') (hL : ∀ p ∈ L, p ∈ L') (k1 : MLe Mi M) (k2 : ∀ p ∈ Li, p ∈ L) (h : JD P ops N p Mw Lw Q rest F E M' L' Mi Li) :
  ∃ Mi' Li', MLe Mi Mi' ∧ MLe Mi' M' ∧ (∀ p ∈ Li, p ∈ Li') ∧ (∀ p ∈ Li', p ∈ L') ∧ JD P ops N p Mw Lw Q rest F E M' L' Mi' Li' :=
 ⟨Mi, Li, MLe.refl _, k1.trans hM, fun _ h => h, fun p hp => hL p (k2 p hp), h⟩
theorem wFf (h : JQ N .normal F E M L Q) : JE P ops N p Mw Lw Q [] F E M L := fun _ _ _ => h
theorem je_q {i : Nat} {rest : List (Nat × Bool)} {o : Oper} {v : Value} {d : Nat} (ho : ops[i]? = some o) (hd : o.dst = some d) (hN : Nat.blt d N.n = true)
  (hq : QF P ops N F Mw Lw o v) (h : JE P ops N p Mw Lw Q rest ((d, v) :: F) E M L) (hA : p.A i = true := by rfl) (hU : p.U i = false := by rfl) : JE P ops N p Mw Lw Q ((i, true) :: rest) F E M L := fun kM kL J =>
 ⟨o, ho, by unfold dstOk; rw [hd]; exact hN, St.closed _ _ _, fun _ hw => hw.js.sub kM kL, (fun h => by cases h), hA, (fun h => by rw [hU] at h; cases h), v, fun a ha => by rw [hU]; exact hq a ha, by rw [hd]; exact h kM kL J⟩
theorem je_s {i : Nat} {rest : List (Nat × Bool)} {o : Oper} {K : Value → Mem → Lc → Prop} (ho : ops[i]? = some o) (hd : o.dst = none)
  (hh : HF P ops N F E M L o K)
  (h : ∀ v M' L', K v M' L' → MLe Mw M' ∧ (∀ p ∈ Lw, p ∈ L') ∧ JE P ops N p Mw Lw Q rest F E M' L') : JE P ops N p Mw Lw Q ((i, false) :: rest) F E M L := fun kM kL J =>
 ⟨o, ho, by unfold dstOk; rw [hd], St.closed _ _ _, fun _ hw => hw.js.sub kM kL, (fun h => by cases h), .inl fun a w ha hw => by
  obtain ⟨h1, h2⟩ := hh a w ha hw
  refine ⟨h1, Oper.wpIn_mono (fun a' w' hk => ?_) (h2 Q)⟩
  obtain ⟨v, M', L', rfl, hs, hK⟩ := hk
  obtain ⟨k1, k2, k3⟩ := h v M' L' hK
  refine ⟨v, rfl, J, Js Mw Lw, St E M' L', St.closed _ _ _, fun _ hx => hx.js.sub k1 k2, fun _ hx => hx, (fun h => by cases h), fun _ hx => hx, hs, ?_⟩
  rw [hd]; exact k3 k1 k2 J⟩
theorem wAa {id : Nat} {l : List Oper} (h : JL P l.toArray N Q l F E M L) : JC P N (.region id l.toArray false) F E M L Q := fun a w ha hw => wpIn_region_lit (h a w ha hw)
theorem wDb {p : Ph} {id : Nat} {l : List Oper} (order : List (Nat × Bool)) (Mw : Mem) (Li Lw : Lc) (hm : P.follows .mixedOrders = true) (hs : (Region.noSelect l.toArray && noDefer l.toArray) = true)
  (hok : wJe l.toArray order (Array.replicate l.length false) = true) (hph : phased p l.toArray = true) (hlen : order.length = l.length)
  (hLi : ∀ p ∈ Li, p ∈ L) (hMw : MLe Mw M) (hLw : ∀ p ∈ Lw, p ∈ Li) (h : JD P l.toArray N p Mw Lw (NoPanic Q) order F E M L M Li) : JC P N (.region id l.toArray true) F E M L Q := fun a w ha hw => by
 refine wpIn_mono (Q := NoPanic Q) (wpIn_region_any hm ?_) NoPanic.imp
 have hw' : St E M L { w with drawn := w.drawn + 1 } := { hw with }
 have := AC.any _ _ _ a (St E M L) _ hw' (JO.toAC (Q := NoPanic Q) hs hph (fun _ _ _ _ _ h => h) order true (Array.replicate l.length false) F (Js M Li) (Js Mw Lw) (St E M L) a (Shut.none _) hok (h (MLe.refl _) hLi hMw hLw) ha)
 rw [hlen] at this
 simpa using this
theorem wBp {id : Nat} {l : List Oper} (order : List (Nat × Bool)) (Li : Lc) (hm : P.follows .mixedOrders = true) (hs : (Region.noSelect l.toArray && noDefer l.toArray) = true)
  (hok : wJe l.toArray order (Array.replicate l.length false) = true) (hlen : order.length = l.length)
  (hLi : ∀ p ∈ Li, p ∈ L) (h : JD P l.toArray N {} M Li (NoPanic Q) order F E M L M Li) : JC P N (.region id l.toArray true) F E M L Q :=
 wDb order M Li Li hm hs hok (phased_all _) hlen hLi (MLe.refl _) (fun _ h => h) h
theorem wAb {x y : Code} (h : JC P N x F E M L (Exit.then (fun a w => y.wpIn (FF N.r) 0 P Q a w) Q)) : JC P N (.seq x y) F E M L Q := fun a w ha hw => wpIn_seq (h a w ha hw)
theorem wAd (h : JQ N .normal F E M L Q) : JC P N .skip F E M L Q := fun a w ha hw => wpIn_skip (h a w ha hw)
theorem jc_label {l : Nat} (h : JQ N .normal F E M L Q) : JC P N (.label l) F E M L Q := fun a w ha hw => wpIn_label (h a w ha hw)
theorem wAe (h : JQ N .ret F E M L Q) : JC P N .ret F E M L Q := fun a w ha hw => wpIn_ret (h a w ha hw)
theorem wAw {i : Nat} (h : JQ N (.exit i) F E M L Q) : JC P N (.exit i) F E M L Q := fun a w ha hw => wpIn_exit (h a w ha hw)
theorem wAh {id : Nat} {c : Code} (h : JC P N c F E M L (Exit.inBlock id Q)) : JC P N (.block id c) F E M L Q := fun a w ha hw => wpIn_block (h a w ha hw)
theorem wAg {c : Operand} {x y : Code} (hc : ev F c = some (.bool true)) (h : JC P N x F E M L Q) : JC P N (.cond c x y) F E M L Q := fun a w ha hw => wpIn_cond_true (ha.ev hc) (h a w ha hw)
theorem wAk {c : Operand} {x y : Code} (hc : ev F c = some (.bool false)) (h : JC P N y F E M L Q) : JC P N (.cond c x y) F E M L Q := fun a w ha hw => wpIn_cond_false (ha.ev hc) (h a w ha hw)
theorem wKj {c : Code} {M' : Mem} {L' : Lc} (hs : ∀ w, St E M L w → St E M' L' w) (h : JC P N c F E M' L' Q) : JC P N c F E M L Q := fun a w ha hw => h a w ha (hs w hw)
theorem wGb {e : Exit} {M' : Mem} {L' : Lc} (hs : ∀ w, St E M L w → St E M' L' w) (h : JQ N e F E M' L' Q) : JQ N e F E M L Q := fun a w ha hw => h a w ha (hs w hw)
theorem jT {y : Code} (h : JC P N y F E M L Q) : JQ N .normal F E M L (Exit.then (fun a w => y.wpIn (FF N.r) 0 P Q a w) Q) := h
theorem jTr {K : Act → World → Prop} (h : JQ N .ret F E M L Q) : JQ N .ret F E M L (Exit.then K Q) := h
theorem jTx {K : Act → World → Prop} {i : Nat} (h : JQ N (.exit i) F E M L Q) : JQ N (.exit i) F E M L (Exit.then K Q) := h
theorem jB {id : Nat} (h : JQ N .normal F E M L Q) : JQ N .normal F E M L (Exit.inBlock id Q) := h
theorem jBr {id : Nat} (h : JQ N .ret F E M L Q) : JQ N .ret F E M L (Exit.inBlock id Q) := h
theorem jBx {id : Nat} (h : JQ N .normal F E M L Q) : JQ N (.exit id) F E M L (Exit.inBlock id Q) := fun a w ha hw => by simp only [Exit.inBlock, if_true]; exact h a w ha hw
theorem jBo {id i : Nat} (hi : Nat.beq i id = false) (h : JQ N (.exit i) F E M L Q) : JQ N (.exit i) F E M L (Exit.inBlock id Q) := fun a w ha hw => by
 have : i ≠ id := fun e => by subst e; simp at hi
 simp only [Exit.inBlock, this, if_false]; exact h a w ha hw
theorem jPn (h : JQ N .normal F E M L Q) : JQ N .normal F E M L (NoPanic Q) := h
end
section
variable {P : Program} {N : Fs} {Q : Exit → Act → World → Prop}
def Again {α : Type} (N : Fs) (E : Ent) (Fi : α → Fr) (Mi : α → Mem) (Li : α → Lc) (φ : α → Prop) (μ : α → Nat) (x : α) (a : Act) (w : World) : Prop :=
 ∃ y, φ y ∧ μ y < μ x ∧ Has N (Fi y) a ∧ St E (Mi y) (Li y) w
theorem least {p : Nat → Prop} (h : ∃ n, p n) : ∃ n, p n ∧ ∀ k, p k → n ≤ k := by
 obtain ⟨n, hn⟩ := h
 induction n using Nat.strongRecOn with
 | _ n ih =>
  by_cases hx : ∃ m, m < n ∧ p m
  ·obtain ⟨m, hm, hp⟩ := hx; exact ih m hm hp
  exact ⟨n, hn, fun k hk => Nat.le_of_not_lt fun hlt => hx ⟨k, hlt, hk⟩⟩
theorem jc_loop {α : Type} {E : Ent} {c : Code} (Fi : α → Fr) (Mi : α → Mem) (Li : α → Lc) (φ : α → Prop) (μ : α → Nat)
  (h : ∀ x, φ x → JC P N c (Fi x) E (Mi x) (Li x) (Exit.then (Again N E Fi Mi Li φ μ x) Q)) (x : α) (hx : φ x) : JC P N (.loop c) (Fi x) E (Mi x) (Li x) Q := by
 classical
 intro a w ha hw
 let I : Act → World → Nat → Prop := fun a w n => ∃ x, φ x ∧ Has N (Fi x) a ∧ St E (Mi x) (Li x) w ∧ μ x = n
 let m : Act → World → Nat := fun a w => if h : ∃ n, I a w n then Classical.choose (least h) else 0
 have hm : ∀ a w n, I a w n → m a w ≤ n := fun a w n hi => by
  have he : ∃ n, I a w n := ⟨n, hi⟩
  simp only [m, dif_pos he]; exact (Classical.choose_spec (least he)).2 _ hi
 refine wpIn_loop (fun a w => ∃ n, I a w n) m ⟨_, x, hx, ha, hw, rfl⟩ fun a w he => ?_
 have hmin : I a w (m a w) := by simp only [m, dif_pos he]; exact (Classical.choose_spec (least he)).1
 obtain ⟨y, hy, hya, hyw, hyn⟩ := hmin
 refine wpIn_mono (h y hy a w hya hyw) fun e a' w' hq => ?_
 cases e with
 | normal =>
  obtain ⟨z, hz, hlt, hza, hzw⟩ := hq
  have h1 : I a' w' (μ z) := ⟨z, hz, hza, hzw, rfl⟩
  exact ⟨⟨_, h1⟩, by have := hm a' w' _ h1; omega⟩
 | exit id => exact hq
 | goto l => exact hq
 | ret => exact hq
 | panic ch => exact hq
 | outgrown => exact hq
theorem wAv {α : Type} {E : Ent} {c : Code} {F : Fr} {M : Mem} {L : Lc} (Fi : α → Fr) (Mi : α → Mem) (Li : α → Lc) (φ : α → Prop) (μ : α → Nat) (x : α) (hk : Keep F (Fi x)) (hx : φ x) (hs : ∀ w, St E M L w → St E (Mi x) (Li x) w)
  (h : ∀ x, φ x → JC P N c (Fi x) E (Mi x) (Li x) (Exit.then (Again N E Fi Mi Li φ μ x) Q)) : JC P N (.loop c) F E M L Q := fun a w ha hw =>
 jc_loop Fi Mi Li φ μ h x hx a w (ha.keep hk) (hs w hw)
theorem wAp {α : Type} {E : Ent} {F : Fr} {M : Mem} {L : Lc} {Fi : α → Fr} {Mi : α → Mem} {Li : α → Lc} {φ : α → Prop} {μ : α → Nat} {x : α} (y : α) (hk : Keep F (Fi y)) (hφ : φ y) (hμ : μ y < μ x)
  (hs : ∀ w, St E M L w → St E (Mi y) (Li y) w) : JQ N .normal F E M L (Exit.then (Again N E Fi Mi Li φ μ x) Q) := fun _ w ha hw => ⟨y, hφ, hμ, ha.keep hk, hs w hw⟩
end
def Joint {α : Type} (N : Fs) (E : Ent) (Fi : α → Fr) (Mi : α → Mem) (Li : α → Lc) (φ : α → Prop) (a : Act) (w : World) : Prop := ∃ y, φ y ∧ Has N (Fi y) a ∧ St E (Mi y) (Li y) w
section
variable {P : Program} {N : Fs} {Q : Exit → Act → World → Prop}
theorem jc_merge {α : Type} {E : Ent} {x y : Code} {F : Fr} {M : Mem} {L : Lc} (Fi : α → Fr) (Mi : α → Mem) (Li : α → Lc) (φ : α → Prop) (h : ∀ z, φ z → JC P N y (Fi z) E (Mi z) (Li z) Q)
  (hx : JC P N x F E M L (Exit.then (Joint N E Fi Mi Li φ) Q)) : JC P N (.seq x y) F E M L Q := fun a w ha hw => wpIn_seq (wpIn_mono (hx a w ha hw) (fun e a' w' hq => by
 cases e with
 | normal => obtain ⟨z, h1, h2, h3⟩ := hq; exact h z h1 a' w' h2 h3
 | exit id => exact hq
 | goto l => exact hq
 | ret => exact hq
 | panic ch => exact hq
 | outgrown => exact hq))
theorem wHb {α : Type} {E : Ent} {F : Fr} {M : Mem} {L : Lc} {Fi : α → Fr} {Mi : α → Mem} {Li : α → Lc} {φ : α → Prop} (y : α) (hk : Keep F (Fi y)) (hφ : φ y) (hs : ∀ w, St E M L w → St E (Mi y) (Li y) w) : JQ N .normal F E M L (Exit.then (Joint N E Fi Mi Li φ) Q) := fun _ w ha hw => ⟨y, hφ, ha.keep hk, hs w hw⟩
end
def SpecL (P : Program) (f : FuncId) (args : Array Value) (M : Mem) (L : Lc) (post : Value → Mem → Lc → Prop) : Prop :=
 ∀ w, St ⟨w, L.map (·.1), M⟩ M L w → Calls P f args w fun e w' => ∃ v M' L', e = .returned v ∧ post v M' L' ∧ St ⟨w, L.map (·.1), M⟩ M' L' w'
theorem SpecL.mono {P : Program} {f : FuncId} {args : Array Value} {M : Mem} {L : Lc} {post post' : Value → Mem → Lc → Prop} (h : SpecL P f args M L post) (hp : ∀ v M' L', post v M' L' → post' v M' L') : SpecL P f args M L post' :=
 fun w hw => (h w hw).mono fun _ _ ⟨v, M', L', a, b, c⟩ => ⟨v, M', L', a, hp _ _ _ b, c⟩
def wFk (P : Program) (fn : Func) (E : Ent) (post : Value → Mem → Lc → Prop) : Exit → Act → World → Prop :=
 bodyPostM (FF none) 0 P fn fun e w' => ∃ v M' L', e = .returned v ∧ post v M' L' ∧ St E M' L' w'
def enumFr : Nat → List Value → Fr
 | _, [] => []
 | i, v :: vs => (i, v) :: enumFr (i + 1) vs
theorem lk_enum : ∀ (vs : List Value) (i t : Nat) (v : Value), lk t (enumFr i vs) = some v → i ≤ t ∧ vs[t - i]? = some v
 | [], _, _, _, h => by cases h
 | u :: us, i, t, v, h => by
  unfold enumFr lk at h
  cases hb : Nat.beq i t
  ·rw [hb] at h
   obtain ⟨h1, h2⟩ := lk_enum us (i + 1) t v h
   refine ⟨by omega, ?_⟩
   have : t - i = (t - (i + 1)) + 1 := by omega
   rw [this]; simpa using h2
  rw [hb] at h
  cases h
  have := Nat.eq_of_beq_eq_true hb
  subst this
  simp
theorem wAf {P : Program} {f : FuncId} {fn : Func} {c : Code} {vs : List Value} {M : Mem} {L : Lc} {post : Value → Mem → Lc → Prop} (N : Nat) (F : Fr)
  (hf : P.funcs[f]? = some fn) (hb : fn.body = some c) (hn : fn.ntmps = N) (hle : Nat.ble vs.length N = true) (hF : enumFr 0 vs = F)
  (h : ∀ W, JC P ⟨N, [], none⟩ c F ⟨W, L.map (·.1), M⟩ M L (wFk P fn ⟨W, L.map (·.1), M⟩ post)) : SpecL P f vs.toArray M L post := by
 intro w hw
 refine (callsIn_wide (n := 0)).1 (callsIn_of_wp_marks (F := FF none) hf hb trivial (h w _ w ⟨?_, rfl, ?_⟩ hw) rfl)
 ·have : vs.length ≤ N := by simpa using hle
  simp [hn]; omega
 intro t v hv
 rw [← hF] at hv
 obtain ⟨_, h2⟩ := lk_enum vs 0 t v hv
 have hlt : t < vs.length := (List.getElem?_eq_some_iff.1 (by simpa using h2)).1
 simp only [List.size_toArray]
 rw [Array.getElem?_append_left (by simpa using hlt)]
 simpa using h2
theorem St.shut {E : Ent} {M : Mem} {L : Lc} {d : Nat} {o o' : Obj} {w : World} (h : St E M ((d, o) :: L) w) : St E M L (w.putObj d o') := by
 have hd := h.locs (d, o) (by simp)
 have hnd := List.nodup_cons.1 h.nodup
 refine { h with size := by simpa using h.size, same := fun k hk hx => ?_, agree := fun b x hx => ?_, locs := fun p hp => ?_, nodup := hnd.2 }
 ·have : k ≠ d := fun e => by subst e; exact hd.2.1.elim (fun h => by omega) hx
  rw [World.putObj_heap_other this]; exact h.same k hk hx
 ·have : b ≠ d := fun e => by subst e; rw [hd.2.2] at hx; cases hx
  rw [World.putObj_heap_other this]; exact h.agree b x hx
 have hp' := h.locs p (List.mem_cons_of_mem _ hp)
 have : p.1 ≠ d := fun e => hnd.1 (by rw [← e]; exact List.mem_map.2 ⟨p, hp, rfl⟩)
 exact ⟨by rw [World.putObj_heap_other this]; exact hp'.1, hp'.2⟩
theorem wFq {P : Program} {fn : Func} {n d : Nat} {D : List Nat} {F : Fr} {E : Ent} {M : Mem} {L L2 : Lc} {post : Value → Mem → Lc → Prop} (hp : L.Perm ((d, .deferred (some [])) :: L2))
  (h : JQ ⟨n, D, none⟩ .ret F E M L2 (wFk P fn E post)) : JQ ⟨n, d :: D, none⟩ .ret F E M L (wFk P fn E post) := by
 intro a w ha hw
 have hw' := hw.perm hp
 have hd := (hw'.locs (d, .deferred (some [])) (by simp)).1
 have := h { a with defers := D.map mark } (w.putObj d (.deferred none)) ⟨ha.size, rfl, ha.get⟩ hw'.shut
 have hdf : a.defers = mark d :: D.map mark := ha.defers
 show LeavesInM _ _ _ _ _ _ a.defers _ _
 rw [hdf]
 exact ⟨by simp, .inl ⟨d, _, rfl, run_takeDeferred hd, this⟩⟩
theorem jr1 {P : Program} {fn : Func} {n : Nat} {F : Fr} {E : Ent} {M : Mem} {L : Lc} {post : Value → Mem → Lc → Prop} {t : Nat} {v : Value} (hr : fn.results = #[.tmp t]) (hv : lk t F = some v) (h : post v M L) : JQ ⟨n, [], none⟩ .ret F E M L (wFk P fn E post) := by
 intro a w ha hw
 show LeavesInM _ _ _ _ _ _ a.defers _ _
 rw [show a.defers = [] from ha.defers]
 refine ⟨v, ?_, v, M, L, rfl, h, hw⟩
 have := ha.get t v hv
 simp [results, hr, Array.getD_eq_getD_getElem?, this]
theorem jr2 {P : Program} {fn : Func} {n : Nat} {F : Fr} {E : Ent} {M : Mem} {L : Lc} {post : Value → Mem → Lc → Prop} {t u : Nat} {v x : Value} (hr : fn.results = #[.tmp t, .tmp u]) (hv : lk t F = some v) (hx : lk u F = some x) (h : post (.tuple #[v, x]) M L) : JQ ⟨n, [], none⟩ .ret F E M L (wFk P fn E post) := by
 intro a w ha hw
 show LeavesInM _ _ _ _ _ _ a.defers _ _
 rw [show a.defers = [] from ha.defers]
 refine ⟨_, ?_, _, M, L, rfl, h, hw⟩
 have h1 := ha.get t v hv
 have h2 := ha.get u x hx
 simp [results, hr, Array.getD_eq_getD_getElem?, h1, h2]
end Go.Proofs.YtkcpllhggofloaaGreat
