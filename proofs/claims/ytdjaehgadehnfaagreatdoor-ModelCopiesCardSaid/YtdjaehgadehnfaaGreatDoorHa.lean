/- THE WALKING LAYER, first part: classes of worlds, frames as lists of known slots, regions in one order for all orders. No statement of the seat is proved here. -/
import Derived.Test.YtdjaehgadehnfaaGreatDoorRows
import Derived.WalkKit
import Derived.OrdersHeld
import Derived.Deep.RegionHeld3
import Derived.OrdersIn
import Derived.RangeFuncCalls
import Derived.RangeFuncLeaves
namespace Go.Proofs.YtdjaehgadehnfaaGreatDoor
set_option linter.unusedVariables false
set_option linter.unusedSimpArgs false
open Go.RowKit

/-! ### frames -/
abbrev Fr := List (Nat × Value)
def lk (t : Nat) : Fr → Option Value
  | [] => none
  | (s, v) :: F => bif Nat.beq s t then some v else lk t F
def ev (F : Fr) : Operand → Option Value
  | .tmp t => lk t F
  | .const v => some v
  | .global g => some (.pointer (some ⟨g, 0, none⟩))
  | .func f => some (.func (.func f) #[] #[])
def evs (F : Fr) : List Operand → Option (List Value)
  | [] => some []
  | x :: xs => match ev F x, evs F xs with
    | some v, some vs => some (v :: vs)
    | _, _ => none

/-- how many temporaries; the blocks for the rounds' deferred calls; the round in which the code stands -/
structure Fs where
  n : Nat
  D : List Nat := []
  r : Option Nat := none
def FF (r : Option Nat) : Fence := { Fence.wide with round := r }
def mark (d : Nat) : Deferred := { target := .collected d, args := #[] }
structure Has (N : Fs) (F : Fr) (a : Act) : Prop where
  size : a.tmps.size = N.n
  defers : a.defers = N.D.map mark
  get : ∀ t v, lk t F = some v → a.tmps[t]? = some v

theorem Has.ev {N : Fs} {F : Fr} {a : Act} (h : Has N F a) {x : Operand} {v : Value} (hx : ev F x = some v) : a.eval x = v := by
  cases x with
  | tmp t => simp only [Act.eval]; have := h.get t v hx; simp [Array.getD_eq_getD_getElem?, this]
  | const u => simpa [Go.Proofs.YtdjaehgadehnfaaGreatDoor.ev, Act.eval] using hx
  | global g => simpa [Go.Proofs.YtdjaehgadehnfaaGreatDoor.ev, Act.eval] using hx
  | func f => simpa [Go.Proofs.YtdjaehgadehnfaaGreatDoor.ev, Act.eval] using hx

theorem Has.evs {N : Fs} {F : Fr} {a : Act} (h : Has N F a) : ∀ {xs : List Operand} {vs : List Value}, evs F xs = some vs → xs.map a.eval = vs
  | [], vs, hx => by simpa [Go.Proofs.YtdjaehgadehnfaaGreatDoor.evs] using hx
  | x :: xs, vs, hx => by
    unfold Go.Proofs.YtdjaehgadehnfaaGreatDoor.evs at hx
    split at hx
    · rename_i v us h1 h2
      cases hx
      simp [h.ev h1, h.evs h2]
    · cases hx

theorem Has.put {N : Fs} {F : Fr} {a : Act} (h : Has N F a) {d : Nat} (hd : d < N.n) (v : Value) : Has N ((d, v) :: F) (a.put (some d) v) := by
  refine ⟨by simp [Act.put, h.size], h.defers, fun t u hu => ?_⟩
  unfold lk at hu
  simp only [Act.put]
  by_cases hdt : d = t
  · subst hdt
    simp at hu
    subst hu
    simp [h.size, hd]
  · have hb : Nat.beq d t = false := by
      cases hb : Nat.beq d t
      · rfl
      · exact absurd (Nat.eq_of_beq_eq_true hb) hdt
    rw [hb] at hu
    simp only [cond_false] at hu
    rw [Array.getElem?_setIfInBounds_ne hdt]
    exact h.get t u hu

/-- a frame of which less is known -/
theorem Has.nil {N : Fs} {F : Fr} {a : Act} (h : Has N F a) : Has N [] a := ⟨h.size, h.defers, fun _ _ h => by cases h⟩
structure Keep (F F' : Fr) : Prop where
  sub : ∀ t v, lk t F' = some v → lk t F = some v
theorem Keep.nil {F : Fr} : Keep F [] := ⟨fun _ _ h => by cases h⟩
theorem Keep.cons {F F' : Fr} {t : Nat} {v : Value} (h : lk t F = some v) (k : Keep F F') : Keep F ((t, v) :: F') := ⟨fun s u hu => by
  unfold lk at hu
  cases hb : Nat.beq t s
  · rw [hb] at hu; exact k.sub s u hu
  · rw [hb] at hu; cases hu; rw [← Nat.eq_of_beq_eq_true hb]; exact h⟩
theorem Keep.ceq {F F' : Fr} {t : Nat} {u v : Value} (h : lk t F = some u) (e : u = v) (k : Keep F F') : Keep F ((t, v) :: F') := Keep.cons (by rw [h, e]) k
theorem Keep.refl {F : Fr} : Keep F F := ⟨fun _ _ h => h⟩
theorem Has.keep {N : Fs} {F F' : Fr} {a : Act} (h : Has N F a) (k : Keep F F') : Has N F' a := ⟨h.size, h.defers, fun t v hv => h.get t v (k.sub t v hv)⟩

/-! ### classes of worlds -/
abbrev Cls := World → Prop
def Closed (C : Cls) : Prop := ∀ w w', C w → Below w.heap.size w w' → C w'

/-- What an operation leaves: a value, and more memory at most. -/
def growUpon (P : Program) (w : World) (v : Value) : Result Next → Prop
  | .ok (.value u) w' => u = v ∧ Below w.heap.size w w'
  | .ok .skip w' => v = undef ∧ Below w.heap.size w w'
  | .ok (.enter f args) w' => Below w.heap.size w w' ∧ Calls P f args w' (fun e w'' => e = .returned v ∧ Below w.heap.size w w'')
  | _ => False

/-- In every world of the class the operation yields v, or it is passed over. -/
def QY (P : Program) (ops : Array Oper) (C : Cls) (o : Oper) (v : Value) (a : Act) : Prop :=
  (Region.wanted o (yielded ops a.tmps) = true ∧ ∀ w, C w → growUpon P w v ((execOp a.eval o).run P w)) ∨
  (Region.wanted o (yielded ops a.tmps) = false ∧ v = undef)

section
variable {P : Program} {ops : Array Oper} {Q : Exit → Act → World → Prop} {md : Region.Mode}

theorem growUpon.plain {o : Oper} {ρ : Operand → Value} {w : World} {v : Value} (h : growUpon P w v ((execOp ρ o).run P w)) : ∀ c, o.op ≠ .defer c := by
  intro c hc
  simp only [execOp, hc, Sem.run_bind] at h
  generalize (resolve ρ c o.type).run P w = r at h
  cases r with
  | ok d w' => simp [Result.andThen, growUpon] at h
  | halt x w' => simp [Result.andThen, growUpon] at h
theorem wide_depth (r : Option Nat) (n : Nat) : (FF r).depth.isSome = true → 1 ≤ n := fun h => by simp [FF, Fence.wide] at h
theorem calls_in {f : FuncId} {args : Array Value} {w : World} {R : Ending → World → Prop} (r : Option Nat) (n : Nat) (h : Calls P f args w R) : CallsIn (FF r) n P f args w R := (callsIn_wide (n := n)).2 h
theorem growUpon.wp {r : Option Nat} {o : Oper} {a : Act} {w : World} {v : Value} {K : Act → World → Prop} (h : growUpon P w v ((execOp a.eval o).run P w))
    (hK : ∀ w', Below w.heap.size w w' → K (a.put o.dst v) w') : o.wpIn (FF r) 0 P a w K Q := by
  refine ⟨fun _ _ => trivial, ?_⟩
  rw [Oper.semAt_eq _ _ _ h.plain]
  generalize (execOp a.eval o).run P w = r at *
  cases r with
  | ok n w' =>
    cases n <;> simp only [growUpon] at h <;> simp only [Oper.uponIn]
    case value u => obtain ⟨rfl, hb⟩ := h; exact hK _ hb
    case skip => obtain ⟨rfl, hb⟩ := h; exact hK _ hb
    case enter f args => exact ⟨wide_depth _ _, calls_in _ _ (h.2.mono fun e w'' ⟨he, hb⟩ => by subst he; exact hK _ hb)⟩
  | halt x w' => simp only [growUpon] at h

theorem QY.wpOp {r : Option Nat} {C : Cls} {i : Nat} {o : Oper} {v : Value} {a : Act} (hi : ops[i]? = some o) (hy : QY P ops C o v a) {w : World} (hC : C w) {K : Act → World → Prop}
    (hK : ∀ w', Below w.heap.size w w' → K (a.put o.dst v) w') : Go.wpOpIn (FF r) 0 P ops Q i K a w := by
  unfold Go.wpOpIn
  simp only [hi]
  rcases hy with ⟨hw, hv⟩ | ⟨hw, rfl⟩
  · simp only [hw, if_true]; exact (hv w hC).wp hK
  · simp only [hw, Bool.false_eq_true, if_false]; exact ⟨fun _ _ => trivial, hK _ (Below.refl _ _)⟩

theorem QY.of_same {C : Cls} {o : Oper} {v : Value} {a a' : Act} (hy : QY P ops C o v a) (he : execOp a'.eval o = execOp a.eval o)
    (hw : Region.wanted o (yielded ops a'.tmps) = Region.wanted o (yielded ops a.tmps)) : QY P ops C o v a' := by
  unfold QY at *; rw [he, hw]; exact hy

theorem QY.sub {C C' : Cls} {o : Oper} {v : Value} {a : Act} (hy : QY P ops C o v a) (h : ∀ w, C' w → C w) : QY P ops C' o v a :=
  hy.imp (fun ⟨a, b⟩ => ⟨a, fun w hw => b w (h w hw)⟩) id

theorem wpOp_putG {r : Option Nat} {j : Nat} {oi oj : Oper} {v : Value} (hj : ops[j]? = some oj) (hap : oi.apart ops oj = true)
    (hsi : ∀ cs b, oi.op ≠ .select cs b) (hsj : ∀ cs b, oj.op ≠ .select cs b) (hdj : ∀ c, oj.op ≠ .defer c)
    (hQ : ∀ c a w, Q (.panic c) (a.put oi.dst v) w → Q (.panic c) a w) {Y : Act → Prop}
    (hY : ∀ a a', Y a → execOp a'.eval oi = execOp a.eval oi → Region.wanted oi (yielded ops a'.tmps) = Region.wanted oi (yielded ops a.tmps) → Y a') {K : Act → World → Prop} {a : Act} {w : World}
    (hy : Y a) (h : wpOpIn (FF r) 0 P ops Q j K (a.put oi.dst v) w) :
    wpOpIn (FF r) 0 P ops Q j (fun a' w' => Y a' ∧ K (a'.put oi.dst v) w') a w := by
  obtain ⟨h1, h2, h3⟩ := Oper.apart_spec hap
  have keep : ∀ (a : Act), Y a → ∀ u, Y (a.put oj.dst u) := fun a hy u =>
    hY _ _ hy (execOp_put oi hsi a oj.dst u h3) (wanted_put oi a oj.dst u h3)
  unfold wpOpIn at *
  simp only [hj] at *
  rw [wanted_put oj a oi.dst v h1] at h
  split
  · rename_i hw
    simp only [hw, if_true] at h
    refine ⟨fun _ _ => trivial, ?_⟩
    have h := h.2
    rw [Oper.semAt_eq _ _ _ hdj] at h ⊢
    rw [execOp_put oj hsj a oi.dst v h1] at h
    generalize (execOp a.eval oj).run P w = r at *
    cases r with
    | ok n w' =>
      cases n <;> simp only [Oper.uponIn] at h ⊢
      case value u => exact ⟨keep a hy u, by rw [← Act.put_comm a v u h2]; exact h⟩
      case skip => exact ⟨keep a hy _, by rw [← Act.put_comm a v undef h2]; exact h⟩
      case defer d =>
        refine ⟨hY _ _ (hY _ _ hy rfl rfl : Y { a with defers := d :: a.defers }) (execOp_put oi hsi _ oj.dst undef h3) (wanted_put oi _ oj.dst undef h3), ?_⟩
        rw [← Act.put_comm _ v undef h2, ← Act.put_defers]
        exact h
      case enter f args =>
        refine ⟨h.1, CallsIn.mono h.2 fun e w'' he => ?_⟩
        cases e with
        | returned u => exact ⟨keep a hy u, by rw [← Act.put_comm a v u h2]; exact he⟩
        | panicked c => exact hQ _ _ _ he
        | outgrown => exact he
      case row row args => exact ⟨h.1, RowsIn.mono h.2 fun u w'' he => ⟨keep a hy u, by rw [← Act.put_comm a v u h2]; exact he⟩⟩
      case round l f tmps assign body =>
        refine ⟨h.1, RoundIn.mono h.2 fun e w'' he => ?_⟩
        cases e with
        | returned u => exact ⟨keep a hy u, by rw [← Act.put_comm a v u h2]; exact he⟩
        | panicked c => exact hQ _ _ _ he
        | outgrown => exact he
    | halt x w' =>
      cases x <;> simp only [Oper.uponIn] at h ⊢
      case panic u => exact hQ _ _ _ h
  · rename_i hw
    simp only [hw] at h
    exact ⟨fun _ _ => trivial, keep a hy _, by rw [← Act.put_comm a v undef h2]; exact h.2⟩

/-- Whatever order is picked from here on, from every world of the class C; behind each operation another class, that keeps the promise I; g: the promise J holds still (A: the operations that keep it). -/
def AC (A : Nat → Bool) (r : Option Nat) (P : Program) (md : Region.Mode) (ops : Array Oper) (Q : Exit → Act → World → Prop) (J I : Cls) : Nat → Bool → Array Bool → Act → Cls → Prop
  | 0, _, listed, a, C => ∀ w, C w → Region.ready md ops listed = [] ∧ Q .normal a w
  | fuel + 1, g, listed, a, C => ∀ w, C w → (Region.ready md ops listed = [] → Q .normal a w) ∧
    ∀ i ∈ Region.ready md ops listed, wpOpIn (FF r) 0 P ops Q i (fun a' w' => ∃ C' : Cls, Closed C' ∧ (∀ x, C' x → I x) ∧ ((g && A i) = true → ∀ x, C' x → J x) ∧ C' w' ∧ AC A r P md ops Q J I fuel (g && A i) (listed.setIfInBounds i true) a' C') a w

theorem AC.any {A : Nat → Bool} {r : Option Nat} {J I : Cls} : ∀ (fuel : Nat) (g : Bool) (listed : Array Bool) (a : Act) (C : Cls) (w : World), C w → AC A r P md ops Q J I fuel g listed a C → wpAnyIn (FF r) 0 P md ops Q fuel listed a w
  | 0, _, _, _, _, w, hw, h => h w hw
  | fuel + 1, _, _, _, _, w, hw, h => ⟨(h w hw).1, fun i hi => wpOpIn_mono (fun a' w' ⟨C', _, _, _, h2, h3⟩ => AC.any fuel _ _ a' C' w' h2 h3) ((h w hw).2 i hi)⟩

theorem AC.mono {A : Nat → Bool} {r : Option Nat} {J J' I I' : Cls} (hJ : ∀ w, J' w → J w) (hI : ∀ w, I' w → I w) : ∀ (fuel : Nat) (g : Bool) (listed : Array Bool) (a : Act) (C : Cls), AC A r P md ops Q J' I' fuel g listed a C → AC A r P md ops Q J I fuel g listed a C
  | 0, _, _, _, _, h => h
  | fuel + 1, _, _, _, _, h => fun w hw => ⟨(h w hw).1, fun i hi => wpOpIn_mono (fun a' w' ⟨C', h0, h1, h1', h2, h3⟩ => ⟨C', h0, fun x hx => hI x (h1 x hx), fun hA x hx => hJ x (h1' hA x hx), h2, AC.mono hJ hI fuel _ _ a' C' h3⟩) ((h w hw).2 i hi)⟩

/-- Does an operation wait for another one, directly or through others? -/
def reaches (md : Region.Mode) (ops : Array Oper) : Nat → Nat → Nat → Bool
  | 0, _, _ => false
  | f + 1, j, i => match ops[j]? with
    | some oj => oj.after.toList.any fun e => Region.binds md e && (Nat.beq e.on i || reaches md ops f e.on i)
    | none => false
/-- What was done is shut under what it waited for. -/
def Shut (md : Region.Mode) (ops : Array Oper) (listed : Array Bool) : Prop := ∀ j oj, ops[j]? = some oj → listed.getD j false = true → ∀ e ∈ oj.after, Region.binds md e = true → listed.getD e.on false = true
theorem getD_tf {listed : Array Bool} {i : Nat} (h : listed.getD i false = true) : listed.getD i true = true := by
  rcases Nat.lt_or_ge i listed.size with h' | h'
  · simp [h'] at h ⊢; exact h
  · simp [Array.getElem?_eq_none h'] at h
theorem Shut.none (n : Nat) : Shut md ops (Array.replicate n false) := fun j _ _ h => by
  rcases Nat.lt_or_ge j n with h' | h' <;> simp [h'] at h
theorem Shut.set {listed : Array Bool} {i : Nat} (h : Shut md ops listed) (hi : i ∈ Region.ready md ops listed) : Shut md ops (listed.setIfInBounds i true) := fun j oj hj hl e he hb => by
  refine getD_set_true ?_
  by_cases hji : i = j
  · subst hji
    obtain ⟨_, o, ho, hall⟩ := mem_ready.1 hi
    rw [hj] at ho; cases ho
    exact hall e he hb
  · rw [getD_set_ne false hji] at hl
    exact h j oj hj hl e he hb
theorem Shut.reach {listed : Array Bool} (h : Shut md ops listed) {i : Nat} : ∀ (f j : Nat), reaches md ops f j i = true → (∀ oj, ops[j]? = some oj → ∀ e ∈ oj.after, Region.binds md e = true → listed.getD e.on false = true) → listed.getD i false = true
  | 0, _, hr, _ => by cases hr
  | f + 1, j, hr, hall => by
    unfold reaches at hr
    split at hr
    · rename_i oj hj
      obtain ⟨e, he, hh⟩ := List.any_eq_true.1 hr
      rw [Bool.and_eq_true, Bool.or_eq_true] at hh
      have h1 := hall oj hj e (by simpa using he) hh.1
      rcases hh.2 with h2 | h2
      · rw [← Nat.eq_of_beq_eq_true h2]; exact h1
      · exact h.reach f e.on h2 fun ok hk e2 he2 hb2 => h e.on ok hk h1 e2 he2 hb2
    · cases hr
/-- An operation that yields one value in every world that keeps the promise (u: the promise J) may be taken first. -/
theorem AC.first {A : Nat → Bool} {r : Option Nat} {J I : Cls} {i : Nat} {oi : Oper} {v : Value} (u : Bool) (hi : ops[i]? = some oi) (hsel : ∀ (j : Nat) (o : Oper) cs b, ops[j]? = some o → o.op ≠ .select cs b) (hnd : ∀ (j : Nat) (o : Oper) c, ops[j]? = some o → o.op ≠ .defer c)
    (hQ : ∀ c a w, Q (.panic c) (a.put oi.dst v) w → Q (.panic c) a w) (hA : A i = true)
    (hB : u = true → ∀ j, j < ops.size → A j = false → reaches md ops ops.size j i = true) :
    ∀ (fuel : Nat) (g : Bool) (listed : Array Bool) (a : Act) (C : Cls), (u = true → g = true) → ((∀ j, A j = true) ∨ Shut md ops listed) →
      (∀ j oj, ops[j]? = some oj → j ≠ i → listed.getD j true = false → (∀ e ∈ oj.after, Region.binds md e = true → e.on ≠ i) → oi.apart ops oj = true) →
      i ∈ Region.ready md ops listed → QY P ops (if u then J else I) oi v a → Closed C → (∀ w, C w → I w) → (g = true → ∀ w, C w → J w) →
      AC A r P md ops Q J I fuel g (listed.setIfInBounds i true) (a.put oi.dst v) C → AC A r P md ops Q J I (fuel + 1) g listed a C := by
  have hsubC : ∀ (g : Bool) (C : Cls), (u = true → g = true) → (∀ w, C w → I w) → (g = true → ∀ w, C w → J w) → ∀ w, C w → (if u then J else I) w := fun g C hug hCI hCJ w hw => by
    cases hu : u with
    | false => simpa using hCI w hw
    | true => simpa using hCJ (hug hu) w hw
  intro fuel
  induction fuel with
  | zero =>
    intro g listed a C hug _ _ hr hy hcl hCI hCJ H w hC
    refine ⟨fun h => (by rw [h] at hr; cases hr), fun j hj => ?_⟩
    by_cases hji : j = i
    · subst hji
      rw [hA, Bool.and_true]
      exact hy.wpOp hi (hsubC g C hug hCI hCJ w hC) fun _ hb => ⟨C, hcl, hCI, hCJ, hcl _ _ hC hb, H⟩
    · have := ready_mono hj hji
      rw [(H w hC).1] at this
      cases this
  | succ fuel ih =>
    intro g listed a C hug hsh hfree hr hy hcl hCI hCJ H w hC
    refine ⟨fun h => (by rw [h] at hr; cases hr), fun j hj => ?_⟩
    by_cases hji : j = i
    · subst hji
      rw [hA, Bool.and_true]
      exact hy.wpOp hi (hsubC g C hug hCI hCJ w hC) fun _ hb => ⟨C, hcl, hCI, hCJ, hcl _ _ hC hb, H⟩
    · have h1 := (H w hC).2 j (ready_mono hj hji)
      obtain ⟨hjun, oj, hoj, hall⟩ := mem_ready.1 hj
      have hnot : ∀ e ∈ oj.after, Region.binds md e = true → e.on ≠ i := fun e he hb heq => by
        have h1 := hall e he hb
        have h0 := (mem_ready.1 hr).1
        rw [heq] at h1
        rcases Nat.lt_or_ge i listed.size with h' | h'
        · simp [h'] at h0 h1; rw [h0] at h1; cases h1
        · simp [Array.getElem?_eq_none h'] at h1
      have h2 := wpOp_putG hoj (hfree j oj hoj hji hjun hnot) (fun cs b => hsel i oi cs b hi) (fun cs b => hsel j oj cs b hoj) (fun c => hnd j oj c hoj) hQ (Y := QY P ops (if u then J else I) oi v) (fun _ _ y e1 e2 => y.of_same e1 e2) hy h1
      have hfree' : ∀ k ok, ops[k]? = some ok → k ≠ i → (listed.setIfInBounds j true).getD k true = false →
          (∀ e ∈ ok.after, Region.binds md e = true → e.on ≠ i) → oi.apart ops ok = true := fun k ok hk hki hun hno => by
        refine hfree k ok hk hki ?_ hno
        by_cases hjk : j = k
        · subst hjk; exact hjun
        · rw [getD_set_ne true hjk] at hun; exact hun
      refine wpOpIn_mono (fun a' w' h3 => ?_) h2
      obtain ⟨hy', C', hcl', hsub, hsub', hw', hac⟩ := h3
      have hug' : u = true → (g && A j) = true := fun hu => by
        rw [hug hu, Bool.true_and]
        cases hAj : A j with
        | true => rfl
        | false =>
          have hS := hsh.resolve_left fun h => by rw [h j] at hAj; cases hAj
          have h1 := getD_tf (hS.reach ops.size j (hB hu j (Array.getElem?_eq_some_iff.1 hoj).1 hAj) fun o ho => by rw [hoj] at ho; cases ho; exact hall)
          rw [(mem_ready.1 hr).1] at h1; cases h1
      refine ⟨C', hcl', hsub, hsub', hw', ih _ (listed.setIfInBounds j true) a' C' hug' (hsh.imp id fun h => h.set hj) hfree' (ready_mono hr (Ne.symm hji)) hy' hcl' hsub hsub' ?_⟩
      rw [Array.setIfInBounds_comm _ _ hji]
      exact hac

theorem AC.alone {A : Nat → Bool} {r : Option Nat} {J I : Cls} {i : Nat} {fuel : Nat} {g : Bool} {listed : Array Bool} {a : Act} {C : Cls} (hr : Region.ready md ops listed = [i])
    (h : ∀ w, C w → wpOpIn (FF r) 0 P ops Q i (fun a' w' => ∃ C' : Cls, Closed C' ∧ (∀ x, C' x → I x) ∧ ((g && A i) = true → ∀ x, C' x → J x) ∧ C' w' ∧ AC A r P md ops Q J I fuel (g && A i) (listed.setIfInBounds i true) a' C') a w) : AC A r P md ops Q J I (fuel + 1) g listed a C :=
  fun w hC => ⟨fun h0 => (by rw [hr] at h0; cases h0), fun j hj => (by rw [hr] at hj; rw [List.mem_singleton.1 hj]; exact h w hC)⟩

theorem AC.done {A : Nat → Bool} {r : Option Nat} {J I : Cls} {g : Bool} {listed : Array Bool} {a : Act} {C : Cls} (hr : Region.ready md ops listed = []) (h : ∀ w, C w → Q .normal a w) : ∀ fuel, AC A r P md ops Q J I fuel g listed a C
  | 0 => fun w hC => ⟨hr, h w hC⟩
  | _ + 1 => fun w hC => ⟨fun _ => h w hC, (by rw [hr]; intro i hi; cases hi)⟩
end

/-! ### operations that draw their order, in one order -/
def upd (d : Option Nat) (v : Value) (F : Fr) : Fr := match d with | some d => (d, v) :: F | none => F
def dstOk (N : Fs) (o : Oper) : Bool := match o.dst with | some d => Nat.blt d N.n | none => true

theorem Has.upd {N : Fs} {F : Fr} {a : Act} (h : Has N F a) {o : Oper} (hd : dstOk N o = true) (v : Value) : Has N (upd o.dst v F) (a.put o.dst v) := by
  unfold dstOk at hd
  cases ho : o.dst with
  | none => exact h
  | some d => rw [ho] at hd; exact h.put (by simpa [Nat.blt_eq] using hd) v

/-- the operations that keep the promise J; those whose value needs it -/
structure Ph where
  A : Nat → Bool := fun _ => true
  U : Nat → Bool := fun _ => true
/-- The operations still to come, in one order (true: taken first, whatever else is waiting); g: J is promised still; I: what is promised throughout. -/
def JO (p : Ph) (P : Program) (ops : Array Oper) (N : Fs) (Q : Exit → Act → World → Prop) : List (Nat × Bool) → Bool → Fr → Cls → Cls → Cls → Prop
  | [], _, F, _, _, C => ∀ a w, Has N F a → C w → Q .normal a w
  | (i, q) :: rest, g, F, J, I, C => ∃ o, ops[i]? = some o ∧ dstOk N o = true ∧ Closed C ∧ (∀ w, C w → I w) ∧ (g = true → ∀ w, C w → J w) ∧
    match q with
    | true => p.A i = true ∧ (p.U i = true → g = true) ∧ ∃ v, (∀ a, Has N F a → QY P ops (if p.U i then J else I) o v a) ∧ JO p P ops N Q rest g (upd o.dst v F) J I C
    | false => (∀ a w, Has N F a → C w → Region.wanted o (yielded ops a.tmps) = true ∧
        o.wpIn (FF N.r) 0 P a w (fun a' w' => ∃ v, a' = a.put o.dst v ∧ ∃ (J' I' C' : Cls), Closed C' ∧ (∀ x, C' x → I' x) ∧ (∀ x, I' x → I x) ∧ ((g && p.A i) = true → ∀ x, C' x → J' x) ∧ (∀ x, J' x → J x) ∧ C' w' ∧ JO p P ops N Q rest (g && p.A i) (upd o.dst v F) J' I' C') Q) ∨
        ((∀ a, Has N F a → Region.wanted o (yielded ops a.tmps) = false) ∧ JO p P ops N Q rest (g && p.A i) (upd o.dst undef F) J I C)

def noDefer (ops : Array Oper) : Bool := ops.all fun o => match o.op with | .defer _ => false | _ => true
theorem noDefer_spec {ops : Array Oper} (h : noDefer ops = true) (j : Nat) (o : Oper) (c : Call) (hj : ops[j]? = some o) : o.op ≠ .defer c := by
  intro hc
  have := Array.all_eq_true_iff_forall_mem.1 h o (Array.mem_of_getElem? hj)
  simp [hc] at this
/-- each operation that breaks the promise waits for each that needs it -/
def phased (p : Ph) (ops : Array Oper) : Bool := (List.range ops.size).all fun i => !p.U i || (List.range ops.size).all fun j => p.A j || reaches .any ops ops.size j i
theorem phased_spec {p : Ph} {ops : Array Oper} (h : phased p ops = true) {i : Nat} (hi : i < ops.size) (hA : p.U i = true) (j : Nat) (hj : j < ops.size) (hAj : p.A j = false) : reaches .any ops ops.size j i = true := by
  have h1 := List.all_eq_true.1 h i (List.mem_range.2 hi)
  rw [hA] at h1
  simp only [Bool.not_true, Bool.false_or] at h1
  have h2 := List.all_eq_true.1 h1 j (List.mem_range.2 hj)
  simpa [hAj] using h2
theorem phased_all (ops : Array Oper) : phased {} ops = true := by simp [phased]
/-- May the order be gone through so? -/
def okOrder (ops : Array Oper) : List (Nat × Bool) → Array Bool → Bool
  | [], listed => (Region.ready .any ops listed).isEmpty
  | (i, true) :: rest, listed => (Region.ready .any ops listed).contains i && Region.free .any ops listed i && okOrder ops rest (listed.setIfInBounds i true)
  | (i, false) :: rest, listed => (Region.ready .any ops listed == [i]) && okOrder ops rest (listed.setIfInBounds i true)

section
variable {P : Program} {ops : Array Oper} {Q : Exit → Act → World → Prop} {N : Fs}

theorem JO.toAC {p : Ph} (hs : (Region.noSelect ops && noDefer ops) = true) (hph : phased p ops = true) (hQ : ∀ c d v a w, Q (.panic c) (a.put d v) w → Q (.panic c) a w) : ∀ (l : List (Nat × Bool)) (g : Bool) (listed : Array Bool) (F : Fr) (J I C : Cls) (a : Act),
    Shut .any ops listed → okOrder ops l listed = true → JO p P ops N Q l g F J I C → Has N F a → AC p.A N.r P .any ops Q J I l.length g listed a C
  | [], g, listed, F, J, I, C, a, _, hok, h, ha => AC.done (by simpa [okOrder] using hok) (fun w hC => h a w ha hC) 0
  | (i, true) :: rest, g, listed, F, J, I, C, a, hsh, hok, h, ha => by
    obtain ⟨o, ho, hd, hcl, hCI, hCJ, hA, hU, v, hv, hrest⟩ := h
    simp only [okOrder, Bool.and_eq_true] at hok
    exact AC.first (p.U i) ho (Region.noSelect_spec (Bool.and_eq_true _ _ ▸ hs).1) (noDefer_spec (Bool.and_eq_true _ _ ▸ hs).2) (fun c a w => hQ c _ _ a w) hA (fun hA => phased_spec hph (Array.getElem?_eq_some_iff.1 ho).1 hA)
      rest.length g listed a C hU (.inr hsh) (Region.free_spec ho hok.1.2) (by simpa using hok.1.1) (hv a ha) hcl hCI hCJ
      (JO.toAC hs hph hQ rest _ _ _ J I C _ (hsh.set (by simpa using hok.1.1)) hok.2 hrest (ha.upd hd v))
  | (i, false) :: rest, g, listed, F, J, I, C, a, hsh, hok, h, ha => by
    obtain ⟨o, ho, hd, hcl, hCI, hCJ, hv⟩ := h
    simp only [okOrder, Bool.and_eq_true, beq_iff_eq] at hok
    refine AC.alone hok.1 fun w hC => ?_
    rcases hv with hv | ⟨hw, hv⟩
    · obtain ⟨hw, hwp⟩ := hv a w ha hC
      unfold wpOpIn
      simp only [ho, hw, if_true]
      refine Oper.wpIn_mono (fun a' w' hh => ?_) hwp
      obtain ⟨v, rfl, J', I', C', h1, h2, h2', h3', h4', h3, h4⟩ := hh
      exact ⟨C', h1, fun x hx => h2' x (h2 x hx), fun hA x hx => h4' x (h3' hA x hx), h3, AC.mono h4' h2' _ _ _ _ _ (JO.toAC hs hph hQ rest _ _ _ J' I' C' _ (hsh.set (by rw [hok.1]; simp)) hok.2 h4 (ha.upd hd v))⟩
    · unfold wpOpIn
      simp only [ho, hw a ha, Bool.false_eq_true, if_false]
      exact ⟨fun _ _ => trivial, C, hcl, hCI, fun hg => hCJ (by simpa using (Bool.and_eq_true _ _ ▸ hg).1), hC, JO.toAC hs hph hQ rest _ _ _ J I C _ (hsh.set (by rw [hok.1]; simp)) hok.2 hv (ha.upd hd _)⟩
end
end Go.Proofs.YtdjaehgadehnfaaGreatDoor
