/- THE WALKING LAYER, sixth part: slices that are read, blocks that are written no more. No statement of the seat is proved here. -/
import Derived.Test.YtbhkdjheooknfaaGreatRows
import Derived.WalkKit
import Derived.OrdersHeld
import Derived.Deep.RegionHeld3
import Derived.OrdersIn
import Derived.RangeFuncCalls
import Derived.RangeFuncLeaves
import Derived.WalkSpells
namespace Go.Proofs.YtbhkdjheooknfaaGreat
set_option linter.unusedSimpArgs false
set_option linter.unusedVariables false
set_option linter.unusedSectionVars false
open Go.RowKit
abbrev Fr := List (Nat × Value)
def lk (t : Nat) : Fr → Option Value
 | [] => none
 | (s, v) :: F => bif Nat.beq s t then some v else lk t F
def ev (F : Fr) : Operand → Option Value
 | .tmp t => lk t F
 | .const v => some v
 | .global g => some (.pointer (some ⟨g, 0, none⟩))
 | .func f => some (.func (.func f) #[] #[])
def evs (F : Fr) : List Operand → Option (List Value)
 | [] => some []
 | x :: xs => match ev F x, evs F xs with
  | some v, some vs => some (v :: vs)
  | _, _ => none
structure Fs where
 n : Nat
 D : List Nat := []
 r : Option Nat := none
def FF (r : Option Nat) : Fence := { Fence.wide with round := r }
def mark (d : Nat) : Deferred := { target := .collected d, args := #[] }
structure Has (N : Fs) (F : Fr) (a : Act) : Prop where
 size : a.tmps.size = N.n
 defers : a.defers = N.D.map mark
 get : ∀ t v, lk t F = some v → a.tmps[t]? = some v
theorem Has.ev {N : Fs} {F : Fr} {a : Act} (h : Has N F a) {x : Operand} {v : Value} (hx : ev F x = some v) : a.eval x = v := by
 cases x with
 | tmp t => simp only [Act.eval]; have := h.get t v hx; simp [Array.getD_eq_getD_getElem?, this]
 | const u => simpa [Go.Proofs.YtbhkdjheooknfaaGreat.ev, Act.eval] using hx
 | global g => simpa [Go.Proofs.YtbhkdjheooknfaaGreat.ev, Act.eval] using hx
 | func f => simpa [Go.Proofs.YtbhkdjheooknfaaGreat.ev, Act.eval] using hx
theorem Has.evs {N : Fs} {F : Fr} {a : Act} (h : Has N F a) : ∀ {xs : List Operand} {vs : List Value}, evs F xs = some vs → xs.map a.eval = vs
 | [], vs, hx => by simpa [Go.Proofs.YtbhkdjheooknfaaGreat.evs] using hx
 | x :: xs, vs, hx => by
  unfold Go.Proofs.YtbhkdjheooknfaaGreat.evs at hx
  split at hx
  ·rename_i v us h1 h2
   cases hx
   simp [h.ev h1, h.evs h2]
  cases hx
theorem Has.put {N : Fs} {F : Fr} {a : Act} (h : Has N F a) {d : Nat} (hd : d < N.n) (v : Value) : Has N ((d, v) :: F) (a.put (some d) v) := by
 refine ⟨by simp [Act.put, h.size], h.defers, fun t u hu => ?_⟩
 unfold lk at hu
 simp only [Act.put]
 by_cases hdt : d = t
 ·subst hdt
  simp at hu
  subst hu
  simp [h.size, hd]
 have hb : Nat.beq d t = false := by
  cases hb : Nat.beq d t
  ·rfl
  exact absurd (Nat.eq_of_beq_eq_true hb) hdt
 rw [hb] at hu
 simp only [cond_false] at hu
 rw [Array.getElem?_setIfInBounds_ne hdt]
 exact h.get t u hu
theorem Has.nil {N : Fs} {F : Fr} {a : Act} (h : Has N F a) : Has N [] a := ⟨h.size, h.defers, fun _ _ h => by cases h⟩
structure Keep (F F' : Fr) : Prop where
 sub : ∀ t v, lk t F' = some v → lk t F = some v
theorem Keep.nil {F : Fr} : Keep F [] := ⟨fun _ _ h => by cases h⟩
theorem Keep.cons {F F' : Fr} {t : Nat} {v : Value} (h : lk t F = some v) (k : Keep F F') : Keep F ((t, v) :: F') := ⟨fun s u hu => by
 unfold lk at hu
 cases hb : Nat.beq t s
 ·rw [hb] at hu; exact k.sub s u hu
 rw [hb] at hu; cases hu; rw [← Nat.eq_of_beq_eq_true hb]; exact h⟩
theorem Keep.ceq {F F' : Fr} {t : Nat} {u v : Value} (h : lk t F = some u) (e : u = v) (k : Keep F F') : Keep F ((t, v) :: F') := Keep.cons (by rw [h, e]) k
theorem Keep.refl {F : Fr} : Keep F F := ⟨fun _ _ h => h⟩
theorem Has.keep {N : Fs} {F F' : Fr} {a : Act} (h : Has N F a) (k : Keep F F') : Has N F' a := ⟨h.size, h.defers, fun t v hv => h.get t v (k.sub t v hv)⟩
abbrev Cls := World → Prop
def Closed (C : Cls) : Prop := ∀ w w', C w → Below w.heap.size w w' → C w'
def growUpon (P : Program) (w : World) (v : Value) : Result Next → Prop
 | .ok (.value u) w' => u = v ∧ Below w.heap.size w w'
 | .ok .skip w' => v = undef ∧ Below w.heap.size w w'
 | .ok (.enter f args) w' => Below w.heap.size w w' ∧ Calls P f args w' (fun e w'' => e = .returned v ∧ Below w.heap.size w w'')
 | _ => False
def QY (P : Program) (ops : Array Oper) (C : Cls) (o : Oper) (v : Value) (a : Act) : Prop :=
 (Region.wanted o (yielded ops a.tmps) = true ∧ ∀ w, C w → growUpon P w v ((execOp a.eval o).run P w)) ∨
 (Region.wanted o (yielded ops a.tmps) = false ∧ v = undef)
section
variable {P : Program} {ops : Array Oper} {Q : Exit → Act → World → Prop} {md : Region.Mode}
theorem growUpon.plain {o : Oper} {ρ : Operand → Value} {w : World} {v : Value} (h : growUpon P w v ((execOp ρ o).run P w)) : ∀ c, o.op ≠ .defer c := by
 intro c hc
 simp only [execOp, hc, Sem.run_bind] at h
 generalize (resolve ρ c o.type).run P w = r at h
 cases r with
 | ok d w' => simp [Result.andThen, growUpon] at h
 | halt x w' => simp [Result.andThen, growUpon] at h
theorem wHn (r : Option Nat) (n : Nat) : (FF r).depth.isSome = true → 1 ≤ n := fun h => by simp [FF, Fence.wide] at h
theorem calls_in {f : FuncId} {args : Array Value} {w : World} {R : Ending → World → Prop} (r : Option Nat) (n : Nat) (h : Calls P f args w R) : CallsIn (FF r) n P f args w R := (callsIn_wide (n := n)).2 h
theorem growUpon.wp {r : Option Nat} {o : Oper} {a : Act} {w : World} {v : Value} {K : Act → World → Prop} (h : growUpon P w v ((execOp a.eval o).run P w))
  (hK : ∀ w', Below w.heap.size w w' → K (a.put o.dst v) w') : o.wpIn (FF r) 0 P a w K Q := by
 refine ⟨fun _ _ => trivial, ?_⟩
 rw [Oper.semAt_eq _ _ _ h.plain]
 generalize (execOp a.eval o).run P w = r at *
 cases r with
 | ok n w' =>
  cases n <;> simp only [growUpon] at h <;> simp only [Oper.uponIn]
  case value u => obtain ⟨rfl, hb⟩ := h; exact hK _ hb
  case skip => obtain ⟨rfl, hb⟩ := h; exact hK _ hb
  case enter f args => exact ⟨wHn _ _, calls_in _ _ (h.2.mono fun e w'' ⟨he, hb⟩ => by subst he; exact hK _ hb)⟩
 | halt x w' => simp only [growUpon] at h
theorem QY.wpOp {r : Option Nat} {C : Cls} {i : Nat} {o : Oper} {v : Value} {a : Act} (hi : ops[i]? = some o) (hy : QY P ops C o v a) {w : World} (hC : C w) {K : Act → World → Prop}
  (hK : ∀ w', Below w.heap.size w w' → K (a.put o.dst v) w') : Go.wpOpIn (FF r) 0 P ops Q i K a w := by
 unfold Go.wpOpIn
 simp only [hi]
 rcases hy with ⟨hw, hv⟩ | ⟨hw, rfl⟩
 ·simp only [hw, if_true]; exact (hv w hC).wp hK
 simp only [hw, Bool.false_eq_true, if_false]; exact ⟨fun _ _ => trivial, hK _ (Below.refl _ _)⟩
theorem QY.of_same {C : Cls} {o : Oper} {v : Value} {a a' : Act} (hy : QY P ops C o v a) (he : execOp a'.eval o = execOp a.eval o)
  (hw : Region.wanted o (yielded ops a'.tmps) = Region.wanted o (yielded ops a.tmps)) : QY P ops C o v a' := by
 unfold QY at *; rw [he, hw]; exact hy
theorem QY.sub {C C' : Cls} {o : Oper} {v : Value} {a : Act} (hy : QY P ops C o v a) (h : ∀ w, C' w → C w) : QY P ops C' o v a :=
 hy.imp (fun ⟨a, b⟩ => ⟨a, fun w hw => b w (h w hw)⟩) id
theorem wpOp_putG {r : Option Nat} {j : Nat} {oi oj : Oper} {v : Value} (hj : ops[j]? = some oj) (hap : oi.apart ops oj = true)
  (hsi : ∀ cs b, oi.op ≠ .select cs b) (hsj : ∀ cs b, oj.op ≠ .select cs b) (hdj : ∀ c, oj.op ≠ .defer c)
  (hQ : ∀ c a w, Q (.panic c) (a.put oi.dst v) w → Q (.panic c) a w) {Y : Act → Prop}
  (hY : ∀ a a', Y a → execOp a'.eval oi = execOp a.eval oi → Region.wanted oi (yielded ops a'.tmps) = Region.wanted oi (yielded ops a.tmps) → Y a') {K : Act → World → Prop} {a : Act} {w : World}
  (hy : Y a) (h : wpOpIn (FF r) 0 P ops Q j K (a.put oi.dst v) w) :
  wpOpIn (FF r) 0 P ops Q j (fun a' w' => Y a' ∧ K (a'.put oi.dst v) w') a w := by
 obtain ⟨h1, h2, h3⟩ := Oper.apart_spec hap
 have keep : ∀ (a : Act), Y a → ∀ u, Y (a.put oj.dst u) := fun a hy u =>
  hY _ _ hy (execOp_put oi hsi a oj.dst u h3) (wanted_put oi a oj.dst u h3)
 unfold wpOpIn at *
 simp only [hj] at *
 rw [wanted_put oj a oi.dst v h1] at h
 split
 ·rename_i hw
  simp only [hw, if_true] at h
  refine ⟨fun _ _ => trivial, ?_⟩
  have h := h.2
  rw [Oper.semAt_eq _ _ _ hdj] at h ⊢
  rw [execOp_put oj hsj a oi.dst v h1] at h
  generalize (execOp a.eval oj).run P w = r at *
  cases r with
  | ok n w' =>
   cases n <;> simp only [Oper.uponIn] at h ⊢
   case value u => exact ⟨keep a hy u, by rw [← Act.put_comm a v u h2]; exact h⟩
   case skip => exact ⟨keep a hy _, by rw [← Act.put_comm a v undef h2]; exact h⟩
   case defer d =>
    refine ⟨hY _ _ (hY _ _ hy rfl rfl : Y { a with defers := d :: a.defers }) (execOp_put oi hsi _ oj.dst undef h3) (wanted_put oi _ oj.dst undef h3), ?_⟩
    rw [← Act.put_comm _ v undef h2, ← Act.put_defers]
    exact h
   case enter f args =>
    refine ⟨h.1, CallsIn.mono h.2 fun e w'' he => ?_⟩
    cases e with
    | returned u => exact ⟨keep a hy u, by rw [← Act.put_comm a v u h2]; exact he⟩
    | panicked c => exact hQ _ _ _ he
    | outgrown => exact he
   case row row args => exact ⟨h.1, RowsIn.mono h.2 fun u w'' he => ⟨keep a hy u, by rw [← Act.put_comm a v u h2]; exact he⟩⟩
   case round l f tmps assign body =>
    refine ⟨h.1, RoundIn.mono h.2 fun e w'' he => ?_⟩
    cases e with
    | returned u => exact ⟨keep a hy u, by rw [← Act.put_comm a v u h2]; exact he⟩
    | panicked c => exact hQ _ _ _ he
    | outgrown => exact he
  | halt x w' =>
   cases x <;> simp only [Oper.uponIn] at h ⊢
   case panic u => exact hQ _ _ _ h
 rename_i hw
 simp only [hw] at h
 exact ⟨fun _ _ => trivial, keep a hy _, by rw [← Act.put_comm a v undef h2]; exact h.2⟩
def AC (A : Nat → Bool) (r : Option Nat) (P : Program) (md : Region.Mode) (ops : Array Oper) (Q : Exit → Act → World → Prop) (J I : Cls) : Nat → Bool → Array Bool → Act → Cls → Prop
 | 0, _, listed, a, C => ∀ w, C w → Region.ready md ops listed = [] ∧ Q .normal a w
 | fuel + 1, g, listed, a, C => ∀ w, C w → (Region.ready md ops listed = [] → Q .normal a w) ∧
  ∀ i ∈ Region.ready md ops listed, wpOpIn (FF r) 0 P ops Q i (fun a' w' => ∃ C' : Cls, Closed C' ∧ (∀ x, C' x → I x) ∧ ((g && A i) = true → ∀ x, C' x → J x) ∧ C' w' ∧ AC A r P md ops Q J I fuel (g && A i) (listed.setIfInBounds i true) a' C') a w
theorem AC.any {A : Nat → Bool} {r : Option Nat} {J I : Cls} : ∀ (fuel : Nat) (g : Bool) (listed : Array Bool) (a : Act) (C : Cls) (w : World), C w → AC A r P md ops Q J I fuel g listed a C → wpAnyIn (FF r) 0 P md ops Q fuel listed a w
 | 0, _, _, _, _, w, hw, h => h w hw
 | fuel + 1, _, _, _, _, w, hw, h => ⟨(h w hw).1, fun i hi => wpOpIn_mono (fun a' w' ⟨C', _, _, _, h2, h3⟩ => AC.any fuel _ _ a' C' w' h2 h3) ((h w hw).2 i hi)⟩
theorem AC.mono {A : Nat → Bool} {r : Option Nat} {J J' I I' : Cls} (hJ : ∀ w, J' w → J w) (hI : ∀ w, I' w → I w) : ∀ (fuel : Nat) (g : Bool) (listed : Array Bool) (a : Act) (C : Cls), AC A r P md ops Q J' I' fuel g listed a C → AC A r P md ops Q J I fuel g listed a C
 | 0, _, _, _, _, h => h
 | fuel + 1, _, _, _, _, h => fun w hw => ⟨(h w hw).1, fun i hi => wpOpIn_mono (fun a' w' ⟨C', h0, h1, h1', h2, h3⟩ => ⟨C', h0, fun x hx => hI x (h1 x hx), fun hA x hx => hJ x (h1' hA x hx), h2, AC.mono hJ hI fuel _ _ a' C' h3⟩) ((h w hw).2 i hi)⟩
def reaches (md : Region.Mode) (ops : Array Oper) : Nat → Nat → Nat → Bool
 | 0, _, _ => false
 | f + 1, j, i => match ops[j]? with
  | some oj => oj.after.toList.any fun e => Region.binds md e && (Nat.beq e.on i || reaches md ops f e.on i)
  | none => false
def Shut (md : Region.Mode) (ops : Array Oper) (listed : Array Bool) : Prop := ∀ j oj, ops[j]? = some oj → listed.getD j false = true → ∀ e ∈ oj.after, Region.binds md e = true → listed.getD e.on false = true
theorem getD_tf {listed : Array Bool} {i : Nat} (h : listed.getD i false = true) : listed.getD i true = true := by
 rcases Nat.lt_or_ge i listed.size with h' | h'
 ·simp [h'] at h ⊢; exact h
 simp [Array.getElem?_eq_none h'] at h
theorem Shut.none (n : Nat) : Shut md ops (Array.replicate n false) := fun j _ _ h => by
 rcases Nat.lt_or_ge j n with h' | h' <;> simp [h'] at h
theorem Shut.set {listed : Array Bool} {i : Nat} (h : Shut md ops listed) (hi : i ∈ Region.ready md ops listed) : Shut md ops (listed.setIfInBounds i true) := fun j oj hj hl e he hb => by
 refine getD_set_true ?_
 by_cases hji : i = j
 ·subst hji
  obtain ⟨_, o, ho, hall⟩ := mem_ready.1 hi
  rw [hj] at ho; cases ho
  exact hall e he hb
 rw [getD_set_ne false hji] at hl
 exact h j oj hj hl e he hb
theorem Shut.reach {listed : Array Bool} (h : Shut md ops listed) {i : Nat} : ∀ (f j : Nat), reaches md ops f j i = true → (∀ oj, ops[j]? = some oj → ∀ e ∈ oj.after, Region.binds md e = true → listed.getD e.on false = true) → listed.getD i false = true
 | 0, _, hr, _ => by cases hr
 | f + 1, j, hr, hall => by
  unfold reaches at hr
  split at hr
  ·rename_i oj hj
   obtain ⟨e, he, hh⟩ := List.any_eq_true.1 hr
   rw [Bool.and_eq_true, Bool.or_eq_true] at hh
   have h1 := hall oj hj e (by simpa using he) hh.1
   rcases hh.2 with h2 | h2
   ·rw [← Nat.eq_of_beq_eq_true h2]; exact h1
   exact h.reach f e.on h2 fun ok hk e2 he2 hb2 => h e.on ok hk h1 e2 he2 hb2
  cases hr
theorem AC.first {A : Nat → Bool} {r : Option Nat} {J I : Cls} {i : Nat} {oi : Oper} {v : Value} (u : Bool) (hi : ops[i]? = some oi) (hsel : ∀ (j : Nat) (o : Oper) cs b, ops[j]? = some o → o.op ≠ .select cs b) (hnd : ∀ (j : Nat) (o : Oper) c, ops[j]? = some o → o.op ≠ .defer c)
  (hQ : ∀ c a w, Q (.panic c) (a.put oi.dst v) w → Q (.panic c) a w) (hA : A i = true)
  (hB : u = true → ∀ j, j < ops.size → A j = false → reaches md ops ops.size j i = true) :
  ∀ (fuel : Nat) (g : Bool) (listed : Array Bool) (a : Act) (C : Cls), (u = true → g = true) → ((∀ j, A j = true) ∨ Shut md ops listed) →
   (∀ j oj, ops[j]? = some oj → j ≠ i → listed.getD j true = false → (∀ e ∈ oj.after, Region.binds md e = true → e.on ≠ i) → oi.apart ops oj = true) →
   i ∈ Region.ready md ops listed → QY P ops (if u then J else I) oi v a → Closed C → (∀ w, C w → I w) → (g = true → ∀ w, C w → J w) →
   AC A r P md ops Q J I fuel g (listed.setIfInBounds i true) (a.put oi.dst v) C → AC A r P md ops Q J I (fuel + 1) g listed a C := by
 have hsubC : ∀ (g : Bool) (C : Cls), (u = true → g = true) → (∀ w, C w → I w) → (g = true → ∀ w, C w → J w) → ∀ w, C w → (if u then J else I) w := fun g C hug hCI hCJ w hw => by
  cases hu : u with
  | false => simpa using hCI w hw
  | true => simpa using hCJ (hug hu) w hw
 intro fuel
 induction fuel with
 | zero =>
  intro g listed a C hug _ _ hr hy hcl hCI hCJ H w hC
  refine ⟨fun h => (by rw [h] at hr; cases hr), fun j hj => ?_⟩
  by_cases hji : j = i
  ·subst hji
   rw [hA, Bool.and_true]
   exact hy.wpOp hi (hsubC g C hug hCI hCJ w hC) fun _ hb => ⟨C, hcl, hCI, hCJ, hcl _ _ hC hb, H⟩
  have := ready_mono hj hji
  rw [(H w hC).1] at this
  cases this
 | succ fuel ih =>
  intro g listed a C hug hsh hfree hr hy hcl hCI hCJ H w hC
  refine ⟨fun h => (by rw [h] at hr; cases hr), fun j hj => ?_⟩
  by_cases hji : j = i
  ·subst hji
   rw [hA, Bool.and_true]
   exact hy.wpOp hi (hsubC g C hug hCI hCJ w hC) fun _ hb => ⟨C, hcl, hCI, hCJ, hcl _ _ hC hb, H⟩
  have h1 := (H w hC).2 j (ready_mono hj hji)
  obtain ⟨hjun, oj, hoj, hall⟩ := mem_ready.1 hj
  have hnot : ∀ e ∈ oj.after, Region.binds md e = true → e.on ≠ i := fun e he hb heq => by
   have h1 := hall e he hb
   have h0 := (mem_ready.1 hr).1
   rw [heq] at h1
   rcases Nat.lt_or_ge i listed.size with h' | h'
   ·simp [h'] at h0 h1; rw [h0] at h1; cases h1
   simp [Array.getElem?_eq_none h'] at h1
  have h2 := wpOp_putG hoj (hfree j oj hoj hji hjun hnot) (fun cs b => hsel i oi cs b hi) (fun cs b => hsel j oj cs b hoj) (fun c => hnd j oj c hoj) hQ (Y := QY P ops (if u then J else I) oi v) (fun _ _ y e1 e2 => y.of_same e1 e2) hy h1
  have hfree' : ∀ k ok, ops[k]? = some ok → k ≠ i → (listed.setIfInBounds j true).getD k true = false →
    (∀ e ∈ ok.after, Region.binds md e = true → e.on ≠ i) → oi.apart ops ok = true := fun k ok hk hki hun hno => by
   refine hfree k ok hk hki ?_ hno
   by_cases hjk : j = k
   ·subst hjk; exact hjun
   rw [getD_set_ne true hjk] at hun; exact hun
  refine wpOpIn_mono (fun a' w' h3 => ?_) h2
  obtain ⟨hy', C', hcl', hsub, hsub', hw', hac⟩ := h3
  have hug' : u = true → (g && A j) = true := fun hu => by
   rw [hug hu, Bool.true_and]
   cases hAj : A j with
   | true => rfl
   | false =>
    have hS := hsh.resolve_left fun h => by rw [h j] at hAj; cases hAj
    have h1 := getD_tf (hS.reach ops.size j (hB hu j (Array.getElem?_eq_some_iff.1 hoj).1 hAj) fun o ho => by rw [hoj] at ho; cases ho; exact hall)
    rw [(mem_ready.1 hr).1] at h1; cases h1
  refine ⟨C', hcl', hsub, hsub', hw', ih _ (listed.setIfInBounds j true) a' C' hug' (hsh.imp id fun h => h.set hj) hfree' (ready_mono hr (Ne.symm hji)) hy' hcl' hsub hsub' ?_⟩
  rw [Array.setIfInBounds_comm _ _ hji]
  exact hac
theorem AC.alone {A : Nat → Bool} {r : Option Nat} {J I : Cls} {i : Nat} {fuel : Nat} {g : Bool} {listed : Array Bool} {a : Act} {C : Cls} (hr : Region.ready md ops listed = [i])
  (h : ∀ w, C w → wpOpIn (FF r) 0 P ops Q i (fun a' w' => ∃ C' : Cls, Closed C' ∧ (∀ x, C' x → I x) ∧ ((g && A i) = true → ∀ x, C' x → J x) ∧ C' w' ∧ AC A r P md ops Q J I fuel (g && A i) (listed.setIfInBounds i true) a' C') a w) : AC A r P md ops Q J I (fuel + 1) g listed a C :=
 fun w hC => ⟨fun h0 => (by rw [hr] at h0; cases h0), fun j hj => (by rw [hr] at hj; rw [List.mem_singleton.1 hj]; exact h w hC)⟩
theorem AC.done {A : Nat → Bool} {r : Option Nat} {J I : Cls} {g : Bool} {listed : Array Bool} {a : Act} {C : Cls} (hr : Region.ready md ops listed = []) (h : ∀ w, C w → Q .normal a w) : ∀ fuel, AC A r P md ops Q J I fuel g listed a C
 | 0 => fun w hC => ⟨hr, h w hC⟩
 | _ + 1 => fun w hC => ⟨fun _ => h w hC, (by rw [hr]; intro i hi; cases hi)⟩
end
def upd (d : Option Nat) (v : Value) (F : Fr) : Fr := match d with | some d => (d, v) :: F | none => F
def dstOk (N : Fs) (o : Oper) : Bool := match o.dst with | some d => Nat.blt d N.n | none => true
theorem Has.upd {N : Fs} {F : Fr} {a : Act} (h : Has N F a) {o : Oper} (hd : dstOk N o = true) (v : Value) : Has N (upd o.dst v F) (a.put o.dst v) := by
 unfold dstOk at hd
 cases ho : o.dst with
 | none => exact h
 | some d => rw [ho] at hd; exact h.put (by simpa [Nat.blt_eq] using hd) v
structure Ph where
 A : Nat → Bool := fun _ => true
 U : Nat → Bool := fun _ => true
def JO (p : Ph) (P : Program) (ops : Array Oper) (N : Fs) (Q : Exit → Act → World → Prop) : List (Nat × Bool) → Bool → Fr → Cls → Cls → Cls → Prop
 | [], _, F, _, _, C => ∀ a w, Has N F a → C w → Q .normal a w
 | (i, q) :: rest, g, F, J, I, C => ∃ o, ops[i]? = some o ∧ dstOk N o = true ∧ Closed C ∧ (∀ w, C w → I w) ∧ (g = true → ∀ w, C w → J w) ∧
  match q with
  | true => p.A i = true ∧ (p.U i = true → g = true) ∧ ∃ v, (∀ a, Has N F a → QY P ops (if p.U i then J else I) o v a) ∧ JO p P ops N Q rest g (upd o.dst v F) J I C
  | false => (∀ a w, Has N F a → C w → Region.wanted o (yielded ops a.tmps) = true ∧
    o.wpIn (FF N.r) 0 P a w (fun a' w' => ∃ v, a' = a.put o.dst v ∧ ∃ (J' I' C' : Cls), Closed C' ∧ (∀ x, C' x → I' x) ∧ (∀ x, I' x → I x) ∧ ((g && p.A i) = true → ∀ x, C' x → J' x) ∧ (∀ x, J' x → J x) ∧ C' w' ∧ JO p P ops N Q rest (g && p.A i) (upd o.dst v F) J' I' C') Q) ∨
    ((∀ a, Has N F a → Region.wanted o (yielded ops a.tmps) = false) ∧ JO p P ops N Q rest (g && p.A i) (upd o.dst undef F) J I C)
def noDefer (ops : Array Oper) : Bool := ops.all fun o => match o.op with | .defer _ => false | _ => true
theorem noDefer_spec {ops : Array Oper} (h : noDefer ops = true) (j : Nat) (o : Oper) (c : Call) (hj : ops[j]? = some o) : o.op ≠ .defer c := by
 intro hc
 have := Array.all_eq_true_iff_forall_mem.1 h o (Array.mem_of_getElem? hj)
 simp [hc] at this
def phased (p : Ph) (ops : Array Oper) : Bool := (List.range ops.size).all fun i => !p.U i || (List.range ops.size).all fun j => p.A j || reaches .any ops ops.size j i
theorem phased_spec {p : Ph} {ops : Array Oper} (h : phased p ops = true) {i : Nat} (hi : i < ops.size) (hA : p.U i = true) (j : Nat) (hj : j < ops.size) (hAj : p.A j = false) : reaches .any ops ops.size j i = true := by
 have h1 := List.all_eq_true.1 h i (List.mem_range.2 hi)
 rw [hA] at h1
 simp only [Bool.not_true, Bool.false_or] at h1
 have h2 := List.all_eq_true.1 h1 j (List.mem_range.2 hj)
 simpa [hAj] using h2
theorem phased_all (ops : Array Oper) : phased {} ops = true := by simp [phased]
def wHd (ops : Array Oper) : List (Nat × Bool) → Array Bool → Bool
 | [], listed => (Region.ready .any ops listed).isEmpty
 | (i, true) :: rest, listed => (Region.ready .any ops listed).contains i && Region.free .any ops listed i && wHd ops rest (listed.setIfInBounds i true)
 | (i, false) :: rest, listed => (Region.ready .any ops listed == [i]) && wHd ops rest (listed.setIfInBounds i true)
section
variable {P : Program} {ops : Array Oper} {Q : Exit → Act → World → Prop} {N : Fs}
theorem JO.toAC {p : Ph} (hs : (Region.noSelect ops && noDefer ops) = true) (hph : phased p ops = true) (hQ : ∀ c d v a w, Q (.panic c) (a.put d v) w → Q (.panic c) a w) : ∀ (l : List (Nat × Bool)) (g : Bool) (listed : Array Bool) (F : Fr) (J I C : Cls) (a : Act),
  Shut .any ops listed → wHd ops l listed = true → JO p P ops N Q l g F J I C → Has N F a → AC p.A N.r P .any ops Q J I l.length g listed a C
 | [], g, listed, F, J, I, C, a, _, hok, h, ha => AC.done (by simpa [wHd] using hok) (fun w hC => h a w ha hC) 0
 | (i, true) :: rest, g, listed, F, J, I, C, a, hsh, hok, h, ha => by
  obtain ⟨o, ho, hd, hcl, hCI, hCJ, hA, hU, v, hv, hrest⟩ := h
  simp only [wHd, Bool.and_eq_true] at hok
  exact AC.first (p.U i) ho (Region.noSelect_spec (Bool.and_eq_true _ _ ▸ hs).1) (noDefer_spec (Bool.and_eq_true _ _ ▸ hs).2) (fun c a w => hQ c _ _ a w) hA (fun hA => phased_spec hph (Array.getElem?_eq_some_iff.1 ho).1 hA)
   rest.length g listed a C hU (.inr hsh) (Region.free_spec ho hok.1.2) (by simpa using hok.1.1) (hv a ha) hcl hCI hCJ
   (JO.toAC hs hph hQ rest _ _ _ J I C _ (hsh.set (by simpa using hok.1.1)) hok.2 hrest (ha.upd hd v))
 | (i, false) :: rest, g, listed, F, J, I, C, a, hsh, hok, h, ha => by
  obtain ⟨o, ho, hd, hcl, hCI, hCJ, hv⟩ := h
  simp only [wHd, Bool.and_eq_true, beq_iff_eq] at hok
  refine AC.alone hok.1 fun w hC => ?_
  rcases hv with hv | ⟨hw, hv⟩
  ·obtain ⟨hw, hwp⟩ := hv a w ha hC
   unfold wpOpIn
   simp only [ho, hw, if_true]
   refine Oper.wpIn_mono (fun a' w' hh => ?_) hwp
   obtain ⟨v, rfl, J', I', C', h1, h2, h2', h3', h4', h3, h4⟩ := hh
   exact ⟨C', h1, fun x hx => h2' x (h2 x hx), fun hA x hx => h4' x (h3' hA x hx), h3, AC.mono h4' h2' _ _ _ _ _ (JO.toAC hs hph hQ rest _ _ _ J' I' C' _ (hsh.set (by rw [hok.1]; simp)) hok.2 h4 (ha.upd hd v))⟩
  unfold wpOpIn
  simp only [ho, hw a ha, Bool.false_eq_true, if_false]
  exact ⟨fun _ _ => trivial, C, hcl, hCI, fun hg => hCJ (by simpa using (Bool.and_eq_true _ _ ▸ hg).1), hC, JO.toAC hs hph hQ rest _ _ _ J I C _ (hsh.set (by rw [hok.1]; simp)) hok.2 hv (ha.upd hd _)⟩
end
abbrev Mem := Nat → Option Obj
abbrev Lc := List (Nat × Obj)
structure Ent where
 W : World
 X : List Nat
 M0 : Mem
structure St (E : Ent) (M : Mem) (L : Lc) (w : World) : Prop where
 os : w.os = E.W.os
 tape : w.tape = E.W.tape
 output : w.output = E.W.output
 size : E.W.heap.size ≤ w.heap.size
 same : ∀ k, k < E.W.heap.size → k ∉ E.X → w.heap[k]? = E.W.heap[k]?
 fresh : ∀ k, k < E.W.heap.size → M k = E.M0 k
 agree : ∀ b o, M b = some o → w.heap[b]? = some o
 locs : ∀ p ∈ L, w.heap[p.1]? = some p.2 ∧ (E.W.heap.size ≤ p.1 ∨ p.1 ∈ E.X) ∧ M p.1 = none
 nodup : (L.map (·.1)).Nodup
structure Js (M : Mem) (L : Lc) (w : World) : Prop where
 agree : ∀ b o, M b = some o → w.heap[b]? = some o
 locs : ∀ p ∈ L, w.heap[p.1]? = some p.2
theorem wCq {w : World} {b : Nat} {o : Obj} (h : w.heap[b]? = some o) : b < w.heap.size := (Array.getElem?_eq_some_iff.1 h).1
theorem Js.closed (M : Mem) (L : Lc) : Closed (Js M L) := fun _ _ h hb =>
 ⟨fun b o h' => by rw [hb.block b (wCq (h.agree b o h'))]; exact h.agree b o h', fun p hp => by rw [hb.block p.1 (wCq (h.locs p hp))]; exact h.locs p hp⟩
theorem St.closed (E : Ent) (M : Mem) (L : Lc) : Closed (St E M L) := fun w w' h hb =>
 {os := hb.os.trans h.os, tape := hb.tape.trans h.tape, output := hb.output.trans h.output, size := Nat.le_trans h.size hb.size
  same := fun k hk hx => (hb.block k (Nat.lt_of_lt_of_le hk h.size)).trans (h.same k hk hx)
  fresh := h.fresh
  agree := fun b o h' => by rw [hb.block b (wCq (h.agree b o h'))]; exact h.agree b o h'
  locs := fun p hp => ⟨by rw [hb.block p.1 (wCq (h.locs p hp).1)]; exact (h.locs p hp).1, (h.locs p hp).2⟩
  nodup := h.nodup }
theorem St.js {E : Ent} {M : Mem} {L : Lc} {w : World} (h : St E M L w) : Js M L w := ⟨h.agree, fun p hp => (h.locs p hp).1⟩
def MLe (M M' : Mem) : Prop := ∀ b o, M b = some o → M' b = some o
theorem MLe.refl (M : Mem) : MLe M M := fun _ _ h => h
theorem MLe.trans {M M' M'' : Mem} (h : MLe M M') (k : MLe M' M'') : MLe M M'' := fun b o x => k b o (h b o x)
theorem Js.sub {M M' : Mem} {L L' : Lc} (hM : MLe M M') (hL : ∀ p ∈ L, p ∈ L') {w : World} (h : Js M' L' w) : Js M L w := ⟨fun b o x => h.agree b o (hM b o x), fun p hp => h.locs p (hL p hp)⟩
theorem St.fewer {E : Ent} {M : Mem} {L L' : Lc} {w : World} (h : St E M L w) (hs : L'.Sublist L) : St E M L' w :=
 {h with locs := fun p hp => h.locs p (hs.subset hp), nodup := h.nodup.sublist (hs.map _) }
theorem St.perm {E : Ent} {M : Mem} {L L' : Lc} {w : World} (h : St E M L w) (hs : L.Perm L') : St E M L' w :=
 {h with locs := fun p hp => h.locs p (hs.mem_iff.2 hp), nodup := (hs.map _).nodup_iff.1 h.nodup }
def Mem.set (M : Mem) (g : Nat) (o : Obj) : Mem := fun b => if b = g then some o else M b
theorem Mem.le_set {M : Mem} {g : Nat} {o : Obj} (h : M g = none) : MLe M (M.set g o) := fun b x hx => by
 unfold Mem.set; split
 ·rename_i e; subst e; rw [h] at hx; cases hx
 exact hx
theorem St.freeze {W : World} {X : List Nat} {M0 M : Mem} {L : Lc} {g : Nat} {o : Obj} {w : World} (h : St ⟨W, X, M0⟩ M ((g, o) :: L) w) (hg : g ∉ X) : St ⟨W, X, M0⟩ (M.set g o) L w ∧ MLe M (M.set g o) := by
 have hg' := h.locs (g, o) (by simp)
 have hn : W.heap.size ≤ g := hg'.2.1.resolve_right hg
 refine ⟨{ h with fresh := fun k hk => ?_, agree := fun b x hx => ?_, locs := fun p hp => ?_, nodup := (List.nodup_cons.1 h.nodup).2 }, Mem.le_set hg'.2.2⟩
 ·have hk' : k < W.heap.size := hk
  have : k ≠ g := fun e => by omega
  rw [← h.fresh k hk]; simp [Mem.set, this]
 ·unfold Mem.set at hx; split at hx
  ·rename_i e; subst e; cases hx; exact hg'.1
  exact h.agree b x hx
 have hp' := h.locs p (List.mem_cons_of_mem _ hp)
 refine ⟨hp'.1, hp'.2.1, ?_⟩
 have : p.1 ≠ g := fun e => (List.nodup_cons.1 h.nodup).1 (by rw [← e]; exact List.mem_map.2 ⟨p, hp, rfl⟩)
 simp [Mem.set, this, hp'.2.2]
section
variable (P : Program) (ops : Array Oper) (N : Fs)
def QF (F : Fr) (M : Mem) (L : Lc) (o : Oper) (v : Value) : Prop := ∀ a, Has N F a → QY P ops (Js M L) o v a
def HF (F : Fr) (E : Ent) (M : Mem) (L : Lc) (o : Oper) (K : Value → Mem → Lc → Prop) : Prop := ∀ a w, Has N F a → St E M L w →
 Region.wanted o (yielded ops a.tmps) = true ∧ ∀ Q, o.wpIn (FF N.r) 0 P a w (fun a' w' => ∃ v M' L', a' = a.put o.dst v ∧ St E M' L' w' ∧ K v M' L') Q
def JL (Q : Exit → Act → World → Prop) (l : List Oper) (F : Fr) (E : Ent) (M : Mem) (L : Lc) : Prop := ∀ a w, Has N F a → St E M L w → wpListIn (FF N.r) 0 P ops Q l a w
def JD (p : Ph) (Mw : Mem) (Lw : Lc) (Q : Exit → Act → World → Prop) (l : List (Nat × Bool)) (F : Fr) (E : Ent) (M : Mem) (L : Lc) (Mi : Mem) (Li : Lc) : Prop :=
 MLe Mi M → (∀ p ∈ Li, p ∈ L) → MLe Mw Mi → (∀ p ∈ Lw, p ∈ Li) → JO p P ops N Q l true F (Js Mi Li) (Js Mw Lw) (St E M L)
def JE (p : Ph) (Mw : Mem) (Lw : Lc) (Q : Exit → Act → World → Prop) (l : List (Nat × Bool)) (F : Fr) (E : Ent) (M : Mem) (L : Lc) : Prop :=
 MLe Mw M → (∀ p ∈ Lw, p ∈ L) → ∀ J, JO p P ops N Q l false F J (Js Mw Lw) (St E M L)
end
def JC (P : Program) (N : Fs) (c : Code) (F : Fr) (E : Ent) (M : Mem) (L : Lc) (Q : Exit → Act → World → Prop) : Prop := ∀ a w, Has N F a → St E M L w → c.wpIn (FF N.r) 0 P Q a w
def JQ (N : Fs) (e : Exit) (F : Fr) (E : Ent) (M : Mem) (L : Lc) (Q : Exit → Act → World → Prop) : Prop := ∀ a w, Has N F a → St E M L w → Q e a w
section
variable {P : Program} {ops : Array Oper} {N : Fs} {Q : Exit → Act → World → Prop} {F F' : Fr} {E : Ent} {M : Mem} {L : Lc}
theorem wAc (h : JQ N .normal F E M L Q) : JL P ops N Q [] F E M L := h
theorem wAi {o : Oper} {rest : List Oper} {v : Value} {d : Nat} (hd : o.dst = some d) (hN : Nat.blt d N.n = true) (hq : QF P ops N F M L o v) (h : JL P ops N Q rest ((d, v) :: F) E M L) : JL P ops N Q (o :: rest) F E M L := by
 intro a w ha hw
 have hy := hq a ha
 have hN' : d < N.n := by simpa [Nat.blt_eq] using hN
 unfold wpListIn
 rcases hy with ⟨hwa, hv⟩ | ⟨hwa, rfl⟩
 ·rw [if_pos hwa]
  exact (hv w hw.js).wp fun w' hb => by rw [hd]; exact h _ _ (ha.put hN' v) (St.closed _ _ _ _ _ hw hb)
 rw [hwa]
 simp only [Bool.false_eq_true, if_false]
 rw [hd]; exact ⟨fun _ _ => trivial, h _ _ (ha.put hN' _) hw⟩
theorem wAv {o : Oper} {rest : List Oper} {K : Value → Mem → Lc → Prop} {d : Nat} (hd : o.dst = some d) (hN : Nat.blt d N.n = true) (hh : HF P ops N F E M L o K) (h : ∀ v M' L', K v M' L' → JL P ops N Q rest ((d, v) :: F) E M' L') : JL P ops N Q (o :: rest) F E M L := by
 intro a w ha hw
 obtain ⟨h1, h2⟩ := hh a w ha hw
 have hN' : d < N.n := by simpa [Nat.blt_eq] using hN
 unfold wpListIn
 rw [if_pos h1]
 refine Oper.wpIn_mono (fun a' w' hk => ?_) (h2 Q)
 obtain ⟨v, M', L', rfl, hs, hK⟩ := hk
 rw [hd]
 exact h v M' L' hK _ _ (ha.put hN' v) hs
theorem jl_s {o : Oper} {rest : List Oper} {K : Value → Mem → Lc → Prop} (hd : o.dst = none) (hh : HF P ops N F E M L o K) (h : ∀ v M' L', K v M' L' → JL P ops N Q rest F E M' L') : JL P ops N Q (o :: rest) F E M L := by
 intro a w ha hw
 obtain ⟨h1, h2⟩ := hh a w ha hw
 unfold wpListIn
 rw [if_pos h1]
 refine Oper.wpIn_mono (fun a' w' hk => ?_) (h2 Q)
 obtain ⟨v, M', L', rfl, hs, hK⟩ := hk
 rw [hd]
 exact h v M' L' hK _ _ ha hs
theorem jl_weak {rest : List Oper} {M' : Mem} {L' : Lc} (hw : ∀ w, St E M L w → St E M' L' w) (h : JL P ops N Q rest F E M' L') : JL P ops N Q rest F E M L := fun a w ha hs => h a w ha (hw w hs)
variable {Mi Mw : Mem} {Li Lw : Lc} {p : Ph}
theorem wBg (h : JQ N .normal F E M L Q) : JD P ops N p Mw Lw Q [] F E M L Mi Li := fun _ _ _ _ => h
theorem wBh {i : Nat} {rest : List (Nat × Bool)} {o : Oper} {v : Value} {d : Nat} (ho : ops[i]? = some o) (hd : o.dst = some d) (hN : Nat.blt d N.n = true)
  (hq : QF P ops N F Mi Li o v) (h : JD P ops N p Mw Lw Q rest ((d, v) :: F) E M L Mi Li) (hA : p.A i = true := by rfl) (hU : p.U i = true := by rfl) : JD P ops N p Mw Lw Q ((i, true) :: rest) F E M L Mi Li := fun hM hL kM kL =>
 ⟨o, ho, by unfold dstOk; rw [hd]; exact hN, St.closed _ _ _, fun _ hw => (hw.js.sub hM hL).sub kM kL, fun _ _ hw => hw.js.sub hM hL, hA, fun _ => rfl, v, fun a ha => by rw [if_pos hU]; exact hq a ha, by rw [hd]; exact h hM hL kM kL⟩
theorem jd_u {i : Nat} {rest : List (Nat × Bool)} {o : Oper} {v : Value} {d : Nat} (ho : ops[i]? = some o) (hd : o.dst = some d) (hN : Nat.blt d N.n = true)
  (hq : QF P ops N F Mw Lw o v) (h : JD P ops N p Mw Lw Q rest ((d, v) :: F) E M L Mi Li) (hA : p.A i = true := by rfl) (hU : p.U i = false := by rfl) : JD P ops N p Mw Lw Q ((i, true) :: rest) F E M L Mi Li := fun hM hL kM kL =>
 ⟨o, ho, by unfold dstOk; rw [hd]; exact hN, St.closed _ _ _, fun _ hw => (hw.js.sub hM hL).sub kM kL, fun _ _ hw => hw.js.sub hM hL, hA, fun _ => rfl, v, fun a ha => by rw [hU]; exact hq a ha, by rw [hd]; exact h hM hL kM kL⟩
theorem jd_any {i : Nat} {rest : List (Nat × Bool)} {o : Oper} {v : Value} {d : Nat} (ho : ops[i]? = some o) (hd : o.dst = some d) (hN : Nat.blt d N.n = true)
  (hq : ∀ M L, QF P ops N F M L o v) (h : JD P ops N p Mw Lw Q rest ((d, v) :: F) E M L Mi Li) (hA : p.A i = true := by rfl) : JD P ops N p Mw Lw Q ((i, true) :: rest) F E M L Mi Li := by
 cases hU : p.U i
 ·exact jd_u ho hd hN (hq _ _) h hA hU
 exact wBh ho hd hN (hq _ _) h hA hU
theorem wDy {i : Nat} {rest : List (Nat × Bool)} {o : Oper} {K : Value → Mem → Lc → Prop} {d : Nat} (ho : ops[i]? = some o) (hd : o.dst = some d) (hN : Nat.blt d N.n = true)
  (hh : HF P ops N F E M L o K)
  (h : ∀ v M' L', K v M' L' → ∃ Mi' Li', MLe Mi Mi' ∧ MLe Mi' M' ∧ (∀ p ∈ Li, p ∈ Li') ∧ (∀ p ∈ Li', p ∈ L') ∧ JD P ops N p Mw Lw Q rest ((d, v) :: F) E M' L' Mi' Li') (hA : p.A i = true := by rfl) : JD P ops N p Mw Lw Q ((i, false) :: rest) F E M L Mi Li := fun hM hL kM kL =>
 ⟨o, ho, by unfold dstOk; rw [hd]; exact hN, St.closed _ _ _, fun _ hw => (hw.js.sub hM hL).sub kM kL, fun _ _ hw => hw.js.sub hM hL, .inl fun a w ha hw => by
  obtain ⟨h1, h2⟩ := hh a w ha hw
  refine ⟨h1, Oper.wpIn_mono (fun a' w' hk => ?_) (h2 Q)⟩
  obtain ⟨v, M', L', rfl, hs, hK⟩ := hk
  obtain ⟨Mi', Li', k1, k2, k3, k4, k5⟩ := h v M' L' hK
  refine ⟨v, rfl, Js Mi' Li', Js Mw Lw, St E M' L', St.closed _ _ _, fun _ hx => (hx.js.sub k2 k4).sub (kM.trans k1) (fun p hp => k3 p (kL p hp)), fun _ hx => hx, fun _ _ hx => hx.js.sub k2 k4, fun _ hx => hx.sub k1 k3, hs, ?_⟩
  rw [hd, hA]; exact k5 k2 k4 (kM.trans k1) (fun p hp => k3 p (kL p hp))⟩
theorem jd_s {i : Nat} {rest : List (Nat × Bool)} {o : Oper} {K : Value → Mem → Lc → Prop} (ho : ops[i]? = some o) (hd : o.dst = none)
  (hh : HF P ops N F E M L o K)
  (h : ∀ v M' L', K v M' L' → ∃ Mi' Li', MLe Mi Mi' ∧ MLe Mi' M' ∧ (∀ p ∈ Li, p ∈ Li') ∧ (∀ p ∈ Li', p ∈ L') ∧ JD P ops N p Mw Lw Q rest F E M' L' Mi' Li') (hA : p.A i = true := by rfl) : JD P ops N p Mw Lw Q ((i, false) :: rest) F E M L Mi Li := fun hM hL kM kL =>
 ⟨o, ho, by unfold dstOk; rw [hd], St.closed _ _ _, fun _ hw => (hw.js.sub hM hL).sub kM kL, fun _ _ hw => hw.js.sub hM hL, .inl fun a w ha hw => by
  obtain ⟨h1, h2⟩ := hh a w ha hw
  refine ⟨h1, Oper.wpIn_mono (fun a' w' hk => ?_) (h2 Q)⟩
  obtain ⟨v, M', L', rfl, hs, hK⟩ := hk
  obtain ⟨Mi', Li', k1, k2, k3, k4, k5⟩ := h v M' L' hK
  refine ⟨v, rfl, Js Mi' Li', Js Mw Lw, St E M' L', St.closed _ _ _, fun _ hx => (hx.js.sub k2 k4).sub (kM.trans k1) (fun p hp => k3 p (kL p hp)), fun _ hx => hx, fun _ _ hx => hx.js.sub k2 k4, fun _ hx => hx.sub k1 k3, hs, ?_⟩
  rw [hd, hA]; exact k5 k2 k4 (kM.trans k1) (fun p hp => k3 p (kL p hp))⟩
theorem jd_e {i : Nat} {rest : List (Nat × Bool)} {o : Oper} {K : Value → Mem → Lc → Prop} (ho : ops[i]? = some o) (hd : o.dst = none)
  (hh : HF P ops N F E M L o K)
  (h : ∀ v M' L', K v M' L' → MLe Mw M' ∧ (∀ p ∈ Lw, p ∈ L') ∧ JE P ops N p Mw Lw Q rest F E M' L') (hA : p.A i = false := by rfl) : JD P ops N p Mw Lw Q ((i, false) :: rest) F E M L Mi Li := fun hM hL kM kL =>
 ⟨o, ho, by unfold dstOk; rw [hd], St.closed _ _ _, fun _ hw => (hw.js.sub hM hL).sub kM kL, fun _ _ hw => hw.js.sub hM hL, .inl fun a w ha hw => by
  obtain ⟨h1, h2⟩ := hh a w ha hw
  refine ⟨h1, Oper.wpIn_mono (fun a' w' hk => ?_) (h2 Q)⟩
  obtain ⟨v, M', L', rfl, hs, hK⟩ := hk
  obtain ⟨k1, k2, k3⟩ := h v M' L' hK
  refine ⟨v, rfl, Js Mi Li, Js Mw Lw, St E M' L', St.closed _ _ _, fun _ hx => hx.js.sub k1 k2, fun _ hx => hx, fun h => ?_, fun _ hx => hx, hs, ?_⟩
  ·rw [hA] at h; cases h
  rw [hd, hA]; exact k3 k1 k2 _⟩
theorem jd_eh {i : Nat} {rest : List (Nat × Bool)} {o : Oper} {K : Value → Mem → Lc → Prop} {d : Nat} (ho : ops[i]? = some o) (hd : o.dst = some d) (hN : Nat.blt d N.n = true)
  (hh : HF P ops N F E M L o K)
  (h : ∀ v M' L', K v M' L' → MLe Mw M' ∧ (∀ p ∈ Lw, p ∈ L') ∧ JE P ops N p Mw Lw Q rest ((d, v) :: F) E M' L') (hA : p.A i = false := by rfl) : JD P ops N p Mw Lw Q ((i, false) :: rest) F E M L Mi Li := fun hM hL kM kL =>
 ⟨o, ho, by unfold dstOk; rw [hd]; exact hN, St.closed _ _ _, fun _ hw => (hw.js.sub hM hL).sub kM kL, fun _ _ hw => hw.js.sub hM hL, .inl fun a w ha hw => by
  obtain ⟨h1, h2⟩ := hh a w ha hw
  refine ⟨h1, Oper.wpIn_mono (fun a' w' hk => ?_) (h2 Q)⟩
  obtain ⟨v, M', L', rfl, hs, hK⟩ := hk
  obtain ⟨k1, k2, k3⟩ := h v M' L' hK
  refine ⟨v, rfl, Js Mi Li, Js Mw Lw, St E M' L', St.closed _ _ _, fun _ hx => hx.js.sub k1 k2, fun _ hx => hx, fun h => ?_, fun _ hx => hx, hs, ?_⟩
  ·rw [hA] at h; cases h
  rw [hd, hA]; exact k3 k1 k2 _⟩
theorem wGa {rest : List (Nat × Bool)} {M' : Mem} {L' : Lc} (hM : MLe M M') (hL : ∀ p ∈ L, p ∈ L') (k1 : MLe Mi M) (k2 : ∀ p ∈ Li, p ∈ L) (h : JD P ops N p Mw Lw Q rest F E M' L' Mi Li) :
  ∃ Mi' Li', MLe Mi Mi' ∧ MLe Mi' M' ∧ (∀ p ∈ Li, p ∈ Li') ∧ (∀ p ∈ Li', p ∈ L') ∧ JD P ops N p Mw Lw Q rest F E M' L' Mi' Li' :=
 ⟨Mi, Li, MLe.refl _, k1.trans hM, fun _ h => h, fun p hp => hL p (k2 p hp), h⟩
theorem wCn (h : JQ N .normal F E M L Q) : JE P ops N p Mw Lw Q [] F E M L := fun _ _ _ => h
theorem je_q {i : Nat} {rest : List (Nat × Bool)} {o : Oper} {v : Value} {d : Nat} (ho : ops[i]? = some o) (hd : o.dst = some d) (hN : Nat.blt d N.n = true)
  (hq : QF P ops N F Mw Lw o v) (h : JE P ops N p Mw Lw Q rest ((d, v) :: F) E M L) (hA : p.A i = true := by rfl) (hU : p.U i = false := by rfl) : JE P ops N p Mw Lw Q ((i, true) :: rest) F E M L := fun kM kL J =>
 ⟨o, ho, by unfold dstOk; rw [hd]; exact hN, St.closed _ _ _, fun _ hw => hw.js.sub kM kL, (fun h => by cases h), hA, (fun h => by rw [hU] at h; cases h), v, fun a ha => by rw [hU]; exact hq a ha, by rw [hd]; exact h kM kL J⟩
theorem je_s {i : Nat} {rest : List (Nat × Bool)} {o : Oper} {K : Value → Mem → Lc → Prop} (ho : ops[i]? = some o) (hd : o.dst = none)
  (hh : HF P ops N F E M L o K)
  (h : ∀ v M' L', K v M' L' → MLe Mw M' ∧ (∀ p ∈ Lw, p ∈ L') ∧ JE P ops N p Mw Lw Q rest F E M' L') : JE P ops N p Mw Lw Q ((i, false) :: rest) F E M L := fun kM kL J =>
 ⟨o, ho, by unfold dstOk; rw [hd], St.closed _ _ _, fun _ hw => hw.js.sub kM kL, (fun h => by cases h), .inl fun a w ha hw => by
  obtain ⟨h1, h2⟩ := hh a w ha hw
  refine ⟨h1, Oper.wpIn_mono (fun a' w' hk => ?_) (h2 Q)⟩
  obtain ⟨v, M', L', rfl, hs, hK⟩ := hk
  obtain ⟨k1, k2, k3⟩ := h v M' L' hK
  refine ⟨v, rfl, J, Js Mw Lw, St E M' L', St.closed _ _ _, fun _ hx => hx.js.sub k1 k2, fun _ hx => hx, (fun h => by cases h), fun _ hx => hx, hs, ?_⟩
  rw [hd]; exact k3 k1 k2 J⟩
theorem wAa {id : Nat} {l : List Oper} (h : JL P l.toArray N Q l F E M L) : JC P N (.region id l.toArray false) F E M L Q := fun a w ha hw => wpIn_region_lit (h a w ha hw)
theorem wBj {p : Ph} {id : Nat} {l : List Oper} (order : List (Nat × Bool)) (Mw : Mem) (Li Lw : Lc) (hm : P.follows .mixedOrders = true) (hs : (Region.noSelect l.toArray && noDefer l.toArray) = true)
  (hok : wHd l.toArray order (Array.replicate l.length false) = true) (hph : phased p l.toArray = true) (hlen : order.length = l.length)
  (hLi : ∀ p ∈ Li, p ∈ L) (hMw : MLe Mw M) (hLw : ∀ p ∈ Lw, p ∈ Li) (h : JD P l.toArray N p Mw Lw (NoPanic Q) order F E M L M Li) : JC P N (.region id l.toArray true) F E M L Q := fun a w ha hw => by
 refine wpIn_mono (Q := NoPanic Q) (wpIn_region_any hm ?_) NoPanic.imp
 have hw' : St E M L { w with drawn := w.drawn + 1 } := { hw with }
 have := AC.any _ _ _ a (St E M L) _ hw' (JO.toAC (Q := NoPanic Q) hs hph (fun _ _ _ _ _ h => h) order true (Array.replicate l.length false) F (Js M Li) (Js Mw Lw) (St E M L) a (Shut.none _) hok (h (MLe.refl _) hLi hMw hLw) ha)
 rw [hlen] at this
 simpa using this
theorem wBn {id : Nat} {l : List Oper} (order : List (Nat × Bool)) (Li : Lc) (hm : P.follows .mixedOrders = true) (hs : (Region.noSelect l.toArray && noDefer l.toArray) = true)
  (hok : wHd l.toArray order (Array.replicate l.length false) = true) (hlen : order.length = l.length)
  (hLi : ∀ p ∈ Li, p ∈ L) (h : JD P l.toArray N {} M Li (NoPanic Q) order F E M L M Li) : JC P N (.region id l.toArray true) F E M L Q :=
 wBj order M Li Li hm hs hok (phased_all _) hlen hLi (MLe.refl _) (fun _ h => h) h
theorem wAb {x y : Code} (h : JC P N x F E M L (Exit.then (fun a w => y.wpIn (FF N.r) 0 P Q a w) Q)) : JC P N (.seq x y) F E M L Q := fun a w ha hw => wpIn_seq (h a w ha hw)
theorem wAd (h : JQ N .normal F E M L Q) : JC P N .skip F E M L Q := fun a w ha hw => wpIn_skip (h a w ha hw)
theorem wAf (h : JQ N .ret F E M L Q) : JC P N .ret F E M L Q := fun a w ha hw => wpIn_ret (h a w ha hw)
theorem wAs {i : Nat} (h : JQ N (.exit i) F E M L Q) : JC P N (.exit i) F E M L Q := fun a w ha hw => wpIn_exit (h a w ha hw)
theorem wAh {id : Nat} {c : Code} (h : JC P N c F E M L (Exit.inBlock id Q)) : JC P N (.block id c) F E M L Q := fun a w ha hw => wpIn_block (h a w ha hw)
theorem wAg {c : Operand} {x y : Code} (hc : ev F c = some (.bool true)) (h : JC P N x F E M L Q) : JC P N (.cond c x y) F E M L Q := fun a w ha hw => wpIn_cond_true (ha.ev hc) (h a w ha hw)
theorem wAk {c : Operand} {x y : Code} (hc : ev F c = some (.bool false)) (h : JC P N y F E M L Q) : JC P N (.cond c x y) F E M L Q := fun a w ha hw => wpIn_cond_false (ha.ev hc) (h a w ha hw)
theorem jc_weak {c : Code} {M' : Mem} {L' : Lc} (hs : ∀ w, St E M L w → St E M' L' w) (h : JC P N c F E M' L' Q) : JC P N c F E M L Q := fun a w ha hw => h a w ha (hs w hw)
theorem wJj {e : Exit} {M' : Mem} {L' : Lc} (hs : ∀ w, St E M L w → St E M' L' w) (h : JQ N e F E M' L' Q) : JQ N e F E M L Q := fun a w ha hw => h a w ha (hs w hw)
theorem jT {y : Code} (h : JC P N y F E M L Q) : JQ N .normal F E M L (Exit.then (fun a w => y.wpIn (FF N.r) 0 P Q a w) Q) := h
theorem jTr {K : Act → World → Prop} (h : JQ N .ret F E M L Q) : JQ N .ret F E M L (Exit.then K Q) := h
theorem jTx {K : Act → World → Prop} {i : Nat} (h : JQ N (.exit i) F E M L Q) : JQ N (.exit i) F E M L (Exit.then K Q) := h
theorem jB {id : Nat} (h : JQ N .normal F E M L Q) : JQ N .normal F E M L (Exit.inBlock id Q) := h
theorem jBr {id : Nat} (h : JQ N .ret F E M L Q) : JQ N .ret F E M L (Exit.inBlock id Q) := h
theorem jBx {id : Nat} (h : JQ N .normal F E M L Q) : JQ N (.exit id) F E M L (Exit.inBlock id Q) := fun a w ha hw => by simp only [Exit.inBlock, if_true]; exact h a w ha hw
theorem jBo {id i : Nat} (hi : Nat.beq i id = false) (h : JQ N (.exit i) F E M L Q) : JQ N (.exit i) F E M L (Exit.inBlock id Q) := fun a w ha hw => by
 have : i ≠ id := fun e => by subst e; simp at hi
 simp only [Exit.inBlock, this, if_false]; exact h a w ha hw
theorem jPn (h : JQ N .normal F E M L Q) : JQ N .normal F E M L (NoPanic Q) := h
end
section
variable {P : Program} {N : Fs} {Q : Exit → Act → World → Prop}
def Again {α : Type} (N : Fs) (E : Ent) (Fi : α → Fr) (Mi : α → Mem) (Li : α → Lc) (φ : α → Prop) (μ : α → Nat) (x : α) (a : Act) (w : World) : Prop :=
 ∃ y, φ y ∧ μ y < μ x ∧ Has N (Fi y) a ∧ St E (Mi y) (Li y) w
theorem least {p : Nat → Prop} (h : ∃ n, p n) : ∃ n, p n ∧ ∀ k, p k → n ≤ k := by
 obtain ⟨n, hn⟩ := h
 induction n using Nat.strongRecOn with
 | _ n ih =>
  by_cases hx : ∃ m, m < n ∧ p m
  ·obtain ⟨m, hm, hp⟩ := hx; exact ih m hm hp
  exact ⟨n, hn, fun k hk => Nat.le_of_not_lt fun hlt => hx ⟨k, hlt, hk⟩⟩
theorem jc_loop {α : Type} {E : Ent} {c : Code} (Fi : α → Fr) (Mi : α → Mem) (Li : α → Lc) (φ : α → Prop) (μ : α → Nat)
  (h : ∀ x, φ x → JC P N c (Fi x) E (Mi x) (Li x) (Exit.then (Again N E Fi Mi Li φ μ x) Q)) (x : α) (hx : φ x) : JC P N (.loop c) (Fi x) E (Mi x) (Li x) Q := by
 classical
 intro a w ha hw
 let I : Act → World → Nat → Prop := fun a w n => ∃ x, φ x ∧ Has N (Fi x) a ∧ St E (Mi x) (Li x) w ∧ μ x = n
 let m : Act → World → Nat := fun a w => if h : ∃ n, I a w n then Classical.choose (least h) else 0
 have hm : ∀ a w n, I a w n → m a w ≤ n := fun a w n hi => by
  have he : ∃ n, I a w n := ⟨n, hi⟩
  simp only [m, dif_pos he]; exact (Classical.choose_spec (least he)).2 _ hi
 refine wpIn_loop (fun a w => ∃ n, I a w n) m ⟨_, x, hx, ha, hw, rfl⟩ fun a w he => ?_
 have hmin : I a w (m a w) := by simp only [m, dif_pos he]; exact (Classical.choose_spec (least he)).1
 obtain ⟨y, hy, hya, hyw, hyn⟩ := hmin
 refine wpIn_mono (h y hy a w hya hyw) fun e a' w' hq => ?_
 cases e with
 | normal =>
  obtain ⟨z, hz, hlt, hza, hzw⟩ := hq
  have h1 : I a' w' (μ z) := ⟨z, hz, hza, hzw, rfl⟩
  exact ⟨⟨_, h1⟩, by have := hm a' w' _ h1; omega⟩
 | exit id => exact hq
 | goto l => exact hq
 | ret => exact hq
 | panic ch => exact hq
 | outgrown => exact hq
theorem wAo {α : Type} {E : Ent} {c : Code} {F : Fr} {M : Mem} {L : Lc} (Fi : α → Fr) (Mi : α → Mem) (Li : α → Lc) (φ : α → Prop) (μ : α → Nat) (x : α) (hk : Keep F (Fi x)) (hx : φ x) (hs : ∀ w, St E M L w → St E (Mi x) (Li x) w)
  (h : ∀ x, φ x → JC P N c (Fi x) E (Mi x) (Li x) (Exit.then (Again N E Fi Mi Li φ μ x) Q)) : JC P N (.loop c) F E M L Q := fun a w ha hw =>
 jc_loop Fi Mi Li φ μ h x hx a w (ha.keep hk) (hs w hw)
theorem wAn {α : Type} {E : Ent} {F : Fr} {M : Mem} {L : Lc} {Fi : α → Fr} {Mi : α → Mem} {Li : α → Lc} {φ : α → Prop} {μ : α → Nat} {x : α} (y : α) (hk : Keep F (Fi y)) (hφ : φ y) (hμ : μ y < μ x)
  (hs : ∀ w, St E M L w → St E (Mi y) (Li y) w) : JQ N .normal F E M L (Exit.then (Again N E Fi Mi Li φ μ x) Q) := fun _ w ha hw => ⟨y, hφ, hμ, ha.keep hk, hs w hw⟩
end
section
variable {P : Program} {N : Fs} {Q : Exit → Act → World → Prop}
end
def SpecL (P : Program) (f : FuncId) (args : Array Value) (M : Mem) (L : Lc) (post : Value → Mem → Lc → Prop) : Prop :=
 ∀ w, St ⟨w, L.map (·.1), M⟩ M L w → Calls P f args w fun e w' => ∃ v M' L', e = .returned v ∧ post v M' L' ∧ St ⟨w, L.map (·.1), M⟩ M' L' w'
theorem SpecL.mono {P : Program} {f : FuncId} {args : Array Value} {M : Mem} {L : Lc} {post post' : Value → Mem → Lc → Prop} (h : SpecL P f args M L post) (hp : ∀ v M' L', post v M' L' → post' v M' L') : SpecL P f args M L post' :=
 fun w hw => (h w hw).mono fun _ _ ⟨v, M', L', a, b, c⟩ => ⟨v, M', L', a, hp _ _ _ b, c⟩
def wFx (P : Program) (fn : Func) (E : Ent) (post : Value → Mem → Lc → Prop) : Exit → Act → World → Prop :=
 bodyPostM (FF none) 0 P fn fun e w' => ∃ v M' L', e = .returned v ∧ post v M' L' ∧ St E M' L' w'
def enumFr : Nat → List Value → Fr
 | _, [] => []
 | i, v :: vs => (i, v) :: enumFr (i + 1) vs
theorem lk_enum : ∀ (vs : List Value) (i t : Nat) (v : Value), lk t (enumFr i vs) = some v → i ≤ t ∧ vs[t - i]? = some v
 | [], _, _, _, h => by cases h
 | u :: us, i, t, v, h => by
  unfold enumFr lk at h
  cases hb : Nat.beq i t
  ·rw [hb] at h
   obtain ⟨h1, h2⟩ := lk_enum us (i + 1) t v h
   refine ⟨by omega, ?_⟩
   have : t - i = (t - (i + 1)) + 1 := by omega
   rw [this]; simpa using h2
  rw [hb] at h
  cases h
  have := Nat.eq_of_beq_eq_true hb
  subst this
  simp
theorem wAe {P : Program} {f : FuncId} {fn : Func} {c : Code} {vs : List Value} {M : Mem} {L : Lc} {post : Value → Mem → Lc → Prop} (N : Nat) (F : Fr)
  (hf : P.funcs[f]? = some fn) (hb : fn.body = some c) (hn : fn.ntmps = N) (hle : Nat.ble vs.length N = true) (hF : enumFr 0 vs = F)
  (h : ∀ W, JC P ⟨N, [], none⟩ c F ⟨W, L.map (·.1), M⟩ M L (wFx P fn ⟨W, L.map (·.1), M⟩ post)) : SpecL P f vs.toArray M L post := by
 intro w hw
 refine (callsIn_wide (n := 0)).1 (callsIn_of_wp_marks (F := FF none) hf hb trivial (h w _ w ⟨?_, rfl, ?_⟩ hw) rfl)
 ·have : vs.length ≤ N := by simpa using hle
  simp [hn]; omega
 intro t v hv
 rw [← hF] at hv
 obtain ⟨_, h2⟩ := lk_enum vs 0 t v hv
 have hlt : t < vs.length := (List.getElem?_eq_some_iff.1 (by simpa using h2)).1
 simp only [List.size_toArray]
 rw [Array.getElem?_append_left (by simpa using hlt)]
 simpa using h2
theorem St.shut {E : Ent} {M : Mem} {L : Lc} {d : Nat} {o o' : Obj} {w : World} (h : St E M ((d, o) :: L) w) : St E M L (w.putObj d o') := by
 have hd := h.locs (d, o) (by simp)
 have hnd := List.nodup_cons.1 h.nodup
 refine { h with size := by simpa using h.size, same := fun k hk hx => ?_, agree := fun b x hx => ?_, locs := fun p hp => ?_, nodup := hnd.2 }
 ·have : k ≠ d := fun e => by subst e; exact hd.2.1.elim (fun h => by omega) hx
  rw [World.putObj_heap_other this]; exact h.same k hk hx
 ·have : b ≠ d := fun e => by subst e; rw [hd.2.2] at hx; cases hx
  rw [World.putObj_heap_other this]; exact h.agree b x hx
 have hp' := h.locs p (List.mem_cons_of_mem _ hp)
 have : p.1 ≠ d := fun e => hnd.1 (by rw [← e]; exact List.mem_map.2 ⟨p, hp, rfl⟩)
 exact ⟨by rw [World.putObj_heap_other this]; exact hp'.1, hp'.2⟩
theorem jr_mark {P : Program} {fn : Func} {n d : Nat} {D : List Nat} {F : Fr} {E : Ent} {M : Mem} {L L2 : Lc} {post : Value → Mem → Lc → Prop} (hp : L.Perm ((d, .deferred (some [])) :: L2))
  (h : JQ ⟨n, D, none⟩ .ret F E M L2 (wFx P fn E post)) : JQ ⟨n, d :: D, none⟩ .ret F E M L (wFx P fn E post) := by
 intro a w ha hw
 have hw' := hw.perm hp
 have hd := (hw'.locs (d, .deferred (some [])) (by simp)).1
 have := h { a with defers := D.map mark } (w.putObj d (.deferred none)) ⟨ha.size, rfl, ha.get⟩ hw'.shut
 have hdf : a.defers = mark d :: D.map mark := ha.defers
 show LeavesInM _ _ _ _ _ _ a.defers _ _
 rw [hdf]
 exact ⟨by simp, .inl ⟨d, _, rfl, run_takeDeferred hd, this⟩⟩
theorem jr1 {P : Program} {fn : Func} {n : Nat} {F : Fr} {E : Ent} {M : Mem} {L : Lc} {post : Value → Mem → Lc → Prop} {t : Nat} {v : Value} (hr : fn.results = #[.tmp t]) (hv : lk t F = some v) (h : post v M L) : JQ ⟨n, [], none⟩ .ret F E M L (wFx P fn E post) := by
 intro a w ha hw
 show LeavesInM _ _ _ _ _ _ a.defers _ _
 rw [show a.defers = [] from ha.defers]
 refine ⟨v, ?_, v, M, L, rfl, h, hw⟩
 have := ha.get t v hv
 simp [results, hr, Array.getD_eq_getD_getElem?, this]
theorem jr2 {P : Program} {fn : Func} {n : Nat} {F : Fr} {E : Ent} {M : Mem} {L : Lc} {post : Value → Mem → Lc → Prop} {t u : Nat} {v x : Value} (hr : fn.results = #[.tmp t, .tmp u]) (hv : lk t F = some v) (hx : lk u F = some x) (h : post (.tuple #[v, x]) M L) : JQ ⟨n, [], none⟩ .ret F E M L (wFx P fn E post) := by
 intro a w ha hw
 show LeavesInM _ _ _ _ _ _ a.defers _ _
 rw [show a.defers = [] from ha.defers]
 refine ⟨_, ?_, _, M, L, rfl, h, hw⟩
 have h1 := ha.get t v hv
 have h2 := ha.get u x hx
 simp [results, hr, Array.getD_eq_getD_getElem?, h1, h2]
theorem jr3 {P : Program} {fn : Func} {n : Nat} {F : Fr} {E : Ent} {M : Mem} {L : Lc} {post : Value → Mem → Lc → Prop} {t u s : Nat} {v x y : Value} (hr : fn.results = #[.tmp t, .tmp u, .tmp s]) (hv : lk t F = some v) (hx : lk u F = some x) (hy : lk s F = some y) (h : post (.tuple #[v, x, y]) M L) : JQ ⟨n, [], none⟩ .ret F E M L (wFx P fn E post) := by
 intro a w ha hw
 show LeavesInM _ _ _ _ _ _ a.defers _ _
 rw [show a.defers = [] from ha.defers]
 refine ⟨_, ?_, _, M, L, rfl, h, hw⟩
 have h1 := ha.get t v hv
 have h2 := ha.get u x hx
 have h3 := ha.get s y hy
 simp [results, hr, Array.getD_eq_getD_getElem?, h1, h2, h3]
def gd (ops : Array Oper) (F : Fr) (o : Oper) : Option Bool :=
 match o.guard with
 | none => some true
 | some (j, want) => match (ops[j]?).bind (·.dst) with
  | some d => match lk d F with
   | some (.bool b) => some (b == want)
   | some (.tuple _) => some false
   | _ => none
  | none => none
theorem gd_spec {ops : Array Oper} {F : Fr} {o : Oper} {b : Bool} {N : Fs} {a : Act} (ha : Has N F a) (h : gd ops F o = some b) : Region.wanted o (yielded ops a.tmps) = b := by
 unfold gd at h
 unfold Region.wanted
 cases hg : o.guard with
 | none => rw [hg] at h; simpa using h
 | some gw =>
  obtain ⟨j, want⟩ := gw
  rw [hg] at h
  simp only at h ⊢
  split at h
  ·rename_i d hd
   split at h
   ·rename_i b' hb
    cases h
    have := ha.get d _ hb
    cases b' <;> cases want <;> simp [yielded, hd, this]
   ·rename_i vs hb
    cases h
    have := ha.get d _ hb
    simp [yielded, hd, this]
   cases h
  cases h
def pv (F : Fr) : Op → Option Value
 | .move x => ev F x
 | .assign x => ev F x
 | .pick c a b => match ev F c with
  | some (.bool true) => ev F a
  | some (.bool false) => ev F b
  | _ => none
 | .extract t i => match ev F t with
  | some (.tuple vs) => vs[i]?
  | _ => none
 | .binOp op _ x y _ => match ev F x, ev F y with
  | some (.int k a), some (.int k' b) => if k = k' then
    match op with
    | .add => some (.int k (k.wrap (a + b)))
    | .sub => some (.int k (k.wrap (a - b)))
    | .mul => some (.int k (k.wrap (a * b)))
    | .eql => some (.bool (decide (a = b)))
    | .neq => some (.bool (decide (¬ a = b)))
    | .lss => some (.bool (decide (a < b)))
    | .leq => some (.bool (decide (a ≤ b)))
    | .gtr => some (.bool (decide (b < a)))
    | .geq => some (.bool (decide (b ≤ a)))
    | _ => none
   else none
  | some (.string a), some (.string b) => match op with
    | .eql => some (.bool (a.toList == b.toList))
    | .neq => some (.bool (!(a.toList == b.toList)))
    | _ => none
  | _, _ => none
 | .unOp .not _ x => match ev F x with
  | some (.bool b) => some (.bool (!b))
  | _ => none
 | .makeFunc fn first captured => match evs F first.toList, evs F captured.toList with
  | some a, some b => some (.func fn a.toArray b.toArray)
  | _, _ => none
 | _ => none
section
variable {P : Program} {ops : Array Oper} {N : Fs} {F : Fr} {E : Ent} {M : Mem} {L : Lc} {o : Oper}
theorem pv_spec {a : Act} (ha : Has N F a) {v : Value} (h : pv F o.op = some v) (w : World) : (execOp a.eval o).run P w = .ok (.value v) w := by
 obtain ⟨dst, op, type, pos, after, guard⟩ := o
 simp only at h
 unfold pv at h
 split at h
 ·simp only [execOp, ha.ev h, Sem.run_pure]
 ·simp only [execOp, ha.ev h, Sem.run_pure]
 ·rename_i c x y
  split at h
  ·rename_i hc; simp [execOp, ha.ev hc, ha.ev h, asBool]
  ·rename_i hc; simp [execOp, ha.ev hc, ha.ev h, asBool]
  cases h
 ·rename_i t i
  split at h
  ·rename_i vs ht; simp [execOp, ha.ev ht, Instr.extract, h]
  cases h
 ·rename_i op xT x y yT
  split at h
  ·rename_i k b k' c hx hy
   split at h
   ·rename_i hk; subst hk
    split at h <;> first | cases h | skip
    all_goals (simp only [execOp, ha.ev hx, ha.ev hy]; simp [eqGuard, binOp, Op.intArith, Op.intCmp])
    all_goals (by_cases e : b = c <;> simp [e])
   cases h
  ·rename_i b c hx hy
   split at h <;> first | cases h | skip
   all_goals (simp only [execOp, ha.ev hx, ha.ev hy]; simp [eqGuard, binOp, Op.stringOp])
  cases h
 ·rename_i t x
  split at h
  ·rename_i b hx; cases h; simp [execOp, ha.ev hx, Op.unary]
  cases h
 ·rename_i fn first captured
  split at h
  ·rename_i b c hb hc
   cases h
   have h1 := ha.evs hb
   have h2 := ha.evs hc
   have e : ∀ (f : Operand → Value) (xs : Array Operand), xs.map f = (xs.toList.map f).toArray := fun f xs => by rw [← Array.toList_map, Array.toArray_toList]
   simp only [execOp, Instr.makeFunc, e, h1, h2, Sem.run_bind, Sem.run_pure, Result.andThen_ok]
  cases h
 cases h
theorem wDs {v : Value} (hg : gd ops F o = some true) (h : ∀ a, Has N F a → ∀ w, Js M L w → (execOp a.eval o).run P w = .ok (.value v) w) : QF P ops N F M L o v := fun a ha =>
 .inl ⟨gd_spec ha hg, fun w hw => by rw [h a ha w hw]; exact ⟨rfl, Below.refl _ _⟩⟩
theorem qP {v : Value} (hg : gd ops F o = some true) (h : pv F o.op = some v) : QF P ops N F M L o v := wDs hg fun _ ha w _ => pv_spec ha h w
theorem qS (hg : gd ops F o = some false) : QF P ops N F M L o undef := fun _ ha => .inr ⟨gd_spec ha hg, rfl⟩
theorem qEq {v v' : Value} (h : QF P ops N F M L o v) (e : v = v') : QF P ops N F M L o v' := e ▸ h
def pstep (N : Fs) (ops : Array Oper) (F : Fr) (o : Oper) : Option (Nat × Value) :=
 match o.dst with
 | some d => bif Nat.blt d N.n then match gd ops F o with
  | some true => match pv F o.op with
   | some v => some (d, v)
   | none => none
  | some false => some (d, undef)
  | none => none
  else none
 | none => none
theorem wCk {d : Nat} {v : Value} (h : pstep N ops F o = some (d, v)) : o.dst = some d ∧ Nat.blt d N.n = true ∧ ∀ P M L, QF P ops N F M L o v := by
 unfold pstep at h
 split at h
 ·rename_i d' hd
  cases hb : Nat.blt d' N.n with
  | false => rw [hb] at h; cases h
  | true =>
   rw [hb] at h
   simp only [cond_true] at h
   split at h
   ·rename_i hg
    split at h
    ·rename_i u hu; cases h; exact ⟨hd, hb, fun P M L => qP hg hu⟩
    cases h
   ·rename_i hg; cases h; exact ⟨hd, hb, fun P M L => qS hg⟩
   cases h
 cases h
variable {Q : Exit → Act → World → Prop} {rest : List Oper} {d : Nat}
theorem jp {v : Value} (h : pstep N ops F o = some (d, v)) (k : JL P ops N Q rest ((d, v) :: F) E M L) : JL P ops N Q (o :: rest) F E M L :=
 wAi (wCk h).1 (wCk h).2.1 ((wCk h).2.2 P M L) k
theorem jt {b : Bool} (h : pstep N ops F o = some (d, .bool b)) (hb : b = true) (k : JL P ops N Q rest ((d, .bool true) :: F) E M L) : JL P ops N Q (o :: rest) F E M L := jp h (by rw [hb]; exact k)
theorem jf {b : Bool} (h : pstep N ops F o = some (d, .bool b)) (hb : b = false) (k : JL P ops N Q rest ((d, .bool false) :: F) E M L) : JL P ops N Q (o :: rest) F E M L := jp h (by rw [hb]; exact k)
theorem js {p : Prop} {_ : Decidable p} (h : pstep N ops F o = some (d, .bool (decide p))) (k1 : p → JL P ops N Q rest ((d, .bool true) :: F) E M L) (k2 : ¬ p → JL P ops N Q rest ((d, .bool false) :: F) E M L) : JL P ops N Q (o :: rest) F E M L := by
 by_cases hp : p
 ·exact jt h (decide_eq_true hp) (k1 hp)
 exact jf h (decide_eq_false hp) (k2 hp)
theorem jsb {b : Bool} (h : pstep N ops F o = some (d, .bool b)) (k1 : b = true → JL P ops N Q rest ((d, .bool true) :: F) E M L) (k2 : b = false → JL P ops N Q rest ((d, .bool false) :: F) E M L) : JL P ops N Q (o :: rest) F E M L := by
 cases hb : b
 ·exact jf h hb (k2 hb)
 exact jt h hb (k1 hb)
def ar : BinOp → Int → Int → Option Int
 | .add, a, b => some (a + b)
 | .sub, a, b => some (a - b)
 | .mul, a, b => some (a * b)
 | _, _, _ => none
def astep (N : Fs) (ops : Array Oper) (F : Fr) (o : Oper) : Option (Nat × Int) :=
 match o.dst, gd ops F o, o.op with
 | some d, some true, .binOp op _ x y _ => bif Nat.blt d N.n then match ev F x, ev F y with
  | some (.int .i64 a), some (.int .i64 b) => match ar op a b with
   | some r => some (d, r)
   | none => none
  | _, _ => none
  else none
 | _, _, _ => none
theorem qA {op : BinOp} {xT yT : TypeId} {x y : Operand} {a b r : Int} (hg : gd ops F o = some true) (ho : o.op = .binOp op xT x y yT) (hx : ev F x = some (.int .i64 a)) (hy : ev F y = some (.int .i64 b))
  (hr : ar op a b = some r) (h : -9223372036854775808 ≤ r ∧ r ≤ 9223372036854775807) : QF P ops N F M L o (.int .i64 r) := wDs hg fun ac ha w _ => by
 have hw := IntWalk.i64_in r h
 simp only [execOp, ho, ha.ev hx, ha.ev hy]
 unfold ar at hr
 split at hr <;> first | cases hr | skip
 all_goals simp [eqGuard, binOp, Op.intArith, hw]
theorem wFk {r : Int} (h : astep N ops F o = some (d, r)) (hr : -9223372036854775808 ≤ r ∧ r ≤ 9223372036854775807) : o.dst = some d ∧ Nat.blt d N.n = true ∧ QF P ops N F M L o (.int .i64 r) := by
 unfold astep at h
 split at h
 ·rename_i d' op xT x y yT hd hg ho
  cases hb : Nat.blt d' N.n with
  | false => rw [hb] at h; cases h
  | true =>
   rw [hb] at h
   simp only [cond_true] at h
   split at h
   ·rename_i a b hx hy
    split at h
    ·rename_i r' hr'; cases h; exact ⟨hd, hb, qA hg ho hx hy hr' hr⟩
    cases h
   cases h
 cases h
theorem ja {r : Int} (h : astep N ops F o = some (d, r)) (hr : -9223372036854775808 ≤ r ∧ r ≤ 9223372036854775807) (k : JL P ops N Q rest ((d, .int .i64 r) :: F) E M L) : JL P ops N Q (o :: rest) F E M L :=
 wAi (wFk (P := P) (M := M) (L := L) h hr).1 (wFk (P := P) (M := M) (L := L) h hr).2.1 (wFk h hr).2.2 k
variable {Mi Mw : Mem} {Li Lw : Lc} {p : Ph} {i : Nat} {restD : List (Nat × Bool)}
theorem dp {v : Value} (ho : ops[i]? = some o) (h : pstep N ops F o = some (d, v)) (k : JD P ops N p Mw Lw Q restD ((d, v) :: F) E M L Mi Li) (hA : p.A i = true := by rfl) : JD P ops N p Mw Lw Q ((i, true) :: restD) F E M L Mi Li :=
 jd_any ho (wCk h).1 (wCk h).2.1 (fun M L => (wCk h).2.2 P M L) k hA
theorem dt {b : Bool} (ho : ops[i]? = some o) (h : pstep N ops F o = some (d, .bool b)) (hb : b = true) (k : JD P ops N p Mw Lw Q restD ((d, .bool true) :: F) E M L Mi Li) (hA : p.A i = true := by rfl) : JD P ops N p Mw Lw Q ((i, true) :: restD) F E M L Mi Li := dp ho h (by rw [hb]; exact k) hA
theorem df {b : Bool} (ho : ops[i]? = some o) (h : pstep N ops F o = some (d, .bool b)) (hb : b = false) (k : JD P ops N p Mw Lw Q restD ((d, .bool false) :: F) E M L Mi Li) (hA : p.A i = true := by rfl) : JD P ops N p Mw Lw Q ((i, true) :: restD) F E M L Mi Li := dp ho h (by rw [hb]; exact k) hA
theorem ds {pr : Prop} {_ : Decidable pr} (ho : ops[i]? = some o) (h : pstep N ops F o = some (d, .bool (decide pr))) (k1 : pr → JD P ops N p Mw Lw Q restD ((d, .bool true) :: F) E M L Mi Li) (k2 : ¬ pr → JD P ops N p Mw Lw Q restD ((d, .bool false) :: F) E M L Mi Li) (hA : p.A i = true := by rfl) : JD P ops N p Mw Lw Q ((i, true) :: restD) F E M L Mi Li := by
 by_cases hp : pr
 ·exact dt ho h (decide_eq_true hp) (k1 hp) hA
 exact df ho h (decide_eq_false hp) (k2 hp) hA
theorem da {r : Int} (ho : ops[i]? = some o) (h : astep N ops F o = some (d, r)) (hr : -9223372036854775808 ≤ r ∧ r ≤ 9223372036854775807) (k : JD P ops N p Mw Lw Q restD ((d, .int .i64 r) :: F) E M L Mi Li) (hA : p.A i = true := by rfl) : JD P ops N p Mw Lw Q ((i, true) :: restD) F E M L Mi Li :=
 jd_any ho (wFk (P := P) (M := M) (L := L) h hr).1 (wFk (P := P) (M := M) (L := L) h hr).2.1 (fun _ _ => (wFk h hr).2.2) k hA
theorem wDf {b : Bool} (hd : o.dst = some d) (hN : Nat.blt d N.n = true) (hq : QF P ops N F M L o (.bool b)) (k1 : b = true → JL P ops N Q rest ((d, .bool true) :: F) E M L) (k2 : b = false → JL P ops N Q rest ((d, .bool false) :: F) E M L) : JL P ops N Q (o :: rest) F E M L := by
 cases b
 ·exact wAi hd hN hq (k2 rfl)
 exact wAi hd hN hq (k1 rfl)
theorem jd_qb {b : Bool} (ho : ops[i]? = some o) (hd : o.dst = some d) (hN : Nat.blt d N.n = true) (hq : QF P ops N F Mi Li o (.bool b)) (k1 : b = true → JD P ops N p Mw Lw Q restD ((d, .bool true) :: F) E M L Mi Li) (k2 : b = false → JD P ops N p Mw Lw Q restD ((d, .bool false) :: F) E M L Mi Li) (hA : p.A i = true := by rfl) (hU : p.U i = true := by rfl) : JD P ops N p Mw Lw Q ((i, true) :: restD) F E M L Mi Li := by
 cases b
 ·exact wBh ho hd hN hq (k2 rfl) hA hU
 exact wBh ho hd hN hq (k1 rfl) hA hU
theorem ep {v : Value} (ho : ops[i]? = some o) (h : pstep N ops F o = some (d, v)) (k : JE P ops N p Mw Lw Q restD ((d, v) :: F) E M L) (hA : p.A i = true := by rfl) (hU : p.U i = false := by rfl) : JE P ops N p Mw Lw Q ((i, true) :: restD) F E M L :=
 je_q ho (wCk h).1 (wCk h).2.1 ((wCk h).2.2 P Mw Lw) k hA hU
theorem qMax {x y : Operand} {T : Array TypeId} {k k' : IntKind} {a b : Int} (hg : gd ops F o = some true) (ho : o.op = .call { callee := .builtin .max, args := #[x, y], argTypes := T }) (hx : ev F x = some (.int k a)) (hy : ev F y = some (.int k' b)) :
  QF P ops N F M L o (.int k (max a b)) := wDs hg fun ac ha w _ => by
 have : max a b = if a < b then b else a := by rw [Int.max_def]; split <;> split <;> omega
 simp [execOp, ho, resolve, invoke, builtin, Builtin.max_, Builtin.max2, ha.ev hx, ha.ev hy, this]
theorem qMin {x y : Operand} {T : Array TypeId} {k k' : IntKind} {a b : Int} (hg : gd ops F o = some true) (ho : o.op = .call { callee := .builtin .min, args := #[x, y], argTypes := T }) (hx : ev F x = some (.int k a)) (hy : ev F y = some (.int k' b)) :
  QF P ops N F M L o (.int k (min a b)) := wDs hg fun ac ha w _ => by
 have : min a b = if b < a then b else a := by rw [Int.min_def]; split <;> split <;> omega
 simp [execOp, ho, resolve, invoke, builtin, Builtin.min_, Builtin.min2, ha.ev hx, ha.ev hy, this]
theorem qQuo {xT yT : TypeId} {x y : Operand} {a b : Int} (hg : gd ops F o = some true) (ho : o.op = .binOp .quo xT x y yT) (hx : ev F x = some (.int .i64 a)) (hy : ev F y = some (.int .i64 b))
  (h1 : 0 ≤ a) (h2 : a ≤ 9223372036854775807) (h3 : 1 ≤ b) : QF P ops N F M L o (.int .i64 (a / b)) := wDs hg fun ac ha w _ => by
 have hb : b ≠ 0 := by omega
 simp only [execOp, ho, ha.ev hx, ha.ev hy]
 simp [eqGuard, binOp, Op.intDiv, hb, IntWalk.i64_quo a b ⟨h1, h2, h3⟩]
theorem qRem {xT yT : TypeId} {x y : Operand} {k : IntKind} {a b : Int} (hg : gd ops F o = some true) (ho : o.op = .binOp .rem xT x y yT) (hx : ev F x = some (.int k a)) (hy : ev F y = some (.int k b))
  (h1 : 0 ≤ a) (h3 : 1 ≤ b) : QF P ops N F M L o (.int k (a % b)) := wDs hg fun ac ha w _ => by
 have hb : b ≠ 0 := by omega
 simp only [execOp, ho, ha.ev hx, ha.ev hy]
 simp [eqGuard, binOp, Op.intDiv, hb, Int.tmod_eq_emod_of_nonneg h1]
end
class Und (P : Program) (t : TypeId) (d : outParam TypeDesc) : Prop where
 h : P.underlying t = some d
class Lay (P : Program) (t : TypeId) (size bytes : outParam Nat) (z : outParam (List Value)) : Prop where
 h : ((P.info? t).map fun i => (i.size, i.bytes, i.zero.map fun v => v.cells.toList)) = some (size, bytes, some z)
 len : z.length = size
class Fld (P : Program) (s : TypeId) (i : Nat) (off : outParam Nat) (ft : outParam TypeId) : Prop where
 h : (match P.underlying s with | some (.struct fs) => (fs[i]?).map fun f => (f.offset, f.type) | _ => none) = some (off, ft)
theorem Lay.info {P : Program} {t : TypeId} {size bytes : Nat} {z : List Value} (l : Lay P t size bytes z) : ∃ i v, P.info? t = some i ∧ i.size = size ∧ i.bytes = bytes ∧ i.zero = some v ∧ v.cells = z.toArray := by
 have h := l.h
 cases hi : P.info? t with
 | none => rw [hi] at h; cases h
 | some i =>
  rw [hi] at h
  cases hz : i.zero with
  | none => simp [hz] at h
  | some v =>
   simp [hz] at h
   exact ⟨i, v, rfl, h.1, h.2.1, hz, by rw [← h.2.2]⟩
theorem Fld.fields {P : Program} {s : TypeId} {i off : Nat} {ft : TypeId} (l : Fld P s i off ft) : ∃ fs f, P.underlying s = some (.struct fs) ∧ fs[i]? = some f ∧ f.offset = off ∧ f.type = ft := by
 have h := l.h
 split at h
 ·rename_i fs hs
  cases hf : fs[i]? with
  | none => rw [hf] at h; cases h
  | some f => rw [hf] at h; simp at h; exact ⟨fs, f, hs, hf, h.1, h.2⟩
 cases h
class At (b : Nat) (o : outParam Obj) (L : Lc) : Prop where
 mem : (b, o) ∈ L
instance (priority := high) At.head {b : Nat} {o : Obj} {L : Lc} : At b o ((b, o) :: L) := ⟨List.Mem.head _⟩
instance At.tail {b : Nat} {o : Obj} {p : Nat × Obj} {L : Lc} [h : At b o L] : At b o (p :: L) := ⟨List.Mem.tail _ h.mem⟩
instance At.right {b : Nat} {o : Obj} {R L : Lc} [h : At b o L] : At b o (R ++ L) := ⟨List.mem_append_right _ h.mem⟩
class PutAt (b : Nat) (o : outParam Obj) (o' : Obj) (L : Lc) (L' : outParam Lc) : Prop where
 ex : ∃ A B, L = A ++ (b, o) :: B ∧ L' = A ++ (b, o') :: B
instance (priority := high) PutAt.head {b : Nat} {o o' : Obj} {L : Lc} : PutAt b o o' ((b, o) :: L) ((b, o') :: L) := ⟨[], L, rfl, rfl⟩
instance PutAt.tail {b : Nat} {o o' : Obj} {p : Nat × Obj} {L L' : Lc} [h : PutAt b o o' L L'] : PutAt b o o' (p :: L) (p :: L') := ⟨by
 obtain ⟨A, B, h1, h2⟩ := h.ex; exact ⟨p :: A, B, by rw [h1]; rfl, by rw [h2]; rfl⟩⟩
instance PutAt.right {b : Nat} {o o' : Obj} {R L L' : Lc} [h : PutAt b o o' L L'] : PutAt b o o' (R ++ L) (R ++ L') := ⟨by
 obtain ⟨A, B, h1, h2⟩ := h.ex; exact ⟨R ++ A, B, by rw [h1]; simp, by rw [h2]; simp⟩⟩
def CJ (M : Mem) (L : Lc) (b off : Nat) (v : Value) : Prop := ∃ c e fz, (M b = some (.cells c e fz) ∨ (b, Obj.cells c e fz) ∈ L) ∧ c[off]? = some v
theorem CJ.cell {M : Mem} {L : Lc} {b off : Nat} {v : Value} (h : CJ M L b off v) {w : World} (hw : Js M L w) : w.cell? ⟨b, off, none⟩ = some v := by
 obtain ⟨c, e, fz, h1, h2⟩ := h
 have : w.heap[b]? = some (.cells c e fz) := h1.elim (hw.agree _ _) (hw.locs (b, Obj.cells c e fz))
 simp [World.cell?, this, h2]
theorem CJ.loc {M : Mem} {L : Lc} {b off : Nat} {v : Value} {l : List Value} {e : TypeId} {fz : Nat × Nat} [h : At b (.cells l.toArray e fz) L] (hv : l[off]? = some v) : CJ M L b off v :=
 ⟨l.toArray, e, fz, .inr h.mem, by simpa using hv⟩
theorem CJ.mono {M M' : Mem} {L : Lc} {b off : Nat} {v : Value} (h : CJ M L b off v) (hM : MLe M M') : CJ M' L b off v := by
 obtain ⟨c, e, fz, h1, h2⟩ := h
 exact ⟨c, e, fz, h1.imp (hM _ _) id, h2⟩
def aggD : TypeDesc → Bool
 | .struct _ | .array _ _ => true
 | _ => false
section
variable {P : Program} {ops : Array Oper} {N : Fs} {F : Fr} {E : Ent} {M : Mem} {L : Lc} {o : Oper}
theorem wEu {t : TypeId} {d : TypeDesc} (h : P.underlying t = some d) (w : World) : (isAgg t).run P w = .ok (aggD d) w := by
 simp only [isAgg, Sem.run_bind, run_underlying h, Result.andThen_ok]
 cases d <;> rfl
theorem wBe {x : Operand} {t e : TypeId} {a : Option Addr} {n c : Nat} (hg : gd ops F o = some true) (ho : o.op = .call { callee := .builtin .len, args := #[x], argTypes := #[t] })
  (hx : ev F x = some (.slice a n c)) [ht : Und P t (.slice e)] : QF P ops N F M L o (.int .i64 n) := wDs hg fun ac ha w _ => by
 simp [execOp, ho, resolve, invoke, builtin, Builtin.len_, ha.ev hx, run_underlying ht.h, goInt]
theorem wDe {x : Operand} {s d : TypeId} {k k' : IntKind} {n : Int} {ds : TypeDesc} (hg : gd ops F o = some true) (ho : o.op = .convert s d x) (hx : ev F x = some (.int k' n)) [hs : Und P s ds] [hd : Und P d (.int k)]
  : QF P ops N F M L o (.int k (k.wrap n)) := wDs hg fun ac ha w _ => by
 simp [execOp, ho, convert, run_underlying hs.h, run_underlying hd.h, ha.ev hx, Conv.intToInt]
theorem wCg {x : Operand} {s d : TypeId} {k' : IntKind} {n : Int} {ds : TypeDesc} (hg : gd ops F o = some true) (ho : o.op = .convert s d x) (hx : ev F x = some (.int k' n)) [hs : Und P s ds] [hd : Und P d (.int .i64)] (h : -9223372036854775808 ≤ n ∧ n ≤ 9223372036854775807)
  : QF P ops N F M L o (.int .i64 n) := qEq (wDe hg ho hx) (by rw [IntWalk.i64_in n h])
theorem wBi {x : Operand} {s : TypeId} {i fo : Nat} {ft : TypeId} {sz by_ : Nat} {z : List Value} {b off off' : Nat} (hg : gd ops F o = some true) (ho : o.op = .fieldAddr s x i) (hx : ev F x = some (.pointer (some ⟨b, off, none⟩))) [hf : Fld P s i fo ft] [hl : Lay P ft sz by_ z]
  (hz : Nat.beq sz 0 = false) (ho' : off + fo = off') : QF P ops N F M L o (.pointer (some ⟨b, off', none⟩)) := wDs hg fun ac ha w _ => by
 obtain ⟨fs, f, hs, hf1, hf2, hf3⟩ := hf.fields
 obtain ⟨ti, v, hi, hi2, _⟩ := hl.info
 have hz' : ti.size ≠ 0 := fun e => by rw [hi2] at e; rw [e] at hz; simp at hz
 have hadd : (⟨b, off, none⟩ : Addr).add fo = ⟨b, off', none⟩ := by unfold Addr.add; split <;> simp_all
 subst hf2 hf3
 simp [execOp, ho, Instr.fieldAt, run_underlying hs, hf1, ha.ev hx, Instr.sureAddr, fieldPlace, sizeOf, typeInfo, hi, hz', hadd]
theorem qLd {x : Operand} {t : TypeId} {d : TypeDesc} {b off : Nat} {v : Value} (hg : gd ops F o = some true) (ho : o.op = .load t x) (hx : ev F x = some (.pointer (some ⟨b, off, none⟩))) [hd : Und P t d] (ha : aggD d = false) (hc : CJ M L b off v) : QF P ops N F M L o v :=
 wDs hg fun ac hac w hw => by
  simp [execOp, ho, hac.ev hx, Instr.loadAt, Instr.sureAddr, loadVar, wEu hd.h, ha, hc.cell hw]
theorem wGp {x : Operand} {t : TypeId} {d : TypeDesc} {b off sz by_ : Nat} {z cs : List Value} (hg : gd ops F o = some true) (ho : o.op = .load t x) (hx : ev F x = some (.pointer (some ⟨b, off, none⟩))) [hd : Und P t d] [hl : Lay P t sz by_ z] (ha : aggD d = true)
  (hn : cs.length = sz) (hc : ∀ i v, cs[i]? = some v → CJ M L b (off + i) v) : QF P ops N F M L o (.agg cs.toArray) :=
 wDs hg fun ac hac w hw => by
  obtain ⟨ti, v, hi, hi2, _⟩ := hl.info
  have hadd : ∀ j, (⟨b, off, none⟩ : Addr).add j = ⟨b, off + j, none⟩ := fun j => by unfold Addr.add; split <;> simp_all
  have h := run_loadCells_list (P := P) (w := w) ⟨b, off, none⟩ cs (fun j v hv => by rw [hadd]; exact (hc j v hv).cell hw)
  simp [execOp, ho, hac.ev hx, Instr.loadAt, Instr.sureAddr, loadVar, wEu hd.h, ha, sizeOf, typeInfo, hi, hi2, ← hn, h]
theorem wBb {x ix : Operand} {t e : TypeId} {b off n c sz by_ : Nat} {z : List Value} {k : IntKind} {i : Int} (hg : gd ops F o = some true) (ho : o.op = .indexAddr t x ix) (hx : ev F x = some (.slice (some ⟨b, off, none⟩) n c)) (hi : ev F ix = some (.int k i)) [ht : Und P t (.slice e)] [hl : Lay P e sz by_ z]
  (h : 0 ≤ i ∧ i < n) : QF P ops N F M L o (.pointer (some ⟨b, off + i.toNat * sz, none⟩)) :=
 wDs hg fun ac hac w hw => by
  obtain ⟨ti, v, hi1, hi2, _⟩ := hl.info
  have hadd : ∀ j, (⟨b, off, none⟩ : Addr).add j = ⟨b, off + j, none⟩ := fun j => by unfold Addr.add; split <;> simp_all
  simp [execOp, ho, hac.ev hx, hac.ev hi, Instr.indexAt, asIntOf, run_underlying ht.h, h, sizeOf, typeInfo, hi1, hi2, hadd]
theorem qIdxA {x ix : Operand} {t e : TypeId} {b off n sz by_ : Nat} {z : List Value} {k : IntKind} {i : Int} (hg : gd ops F o = some true) (ho : o.op = .indexAddr t x ix) (hx : ev F x = some (.pointer (some ⟨b, off, none⟩))) (hi : ev F ix = some (.int k i)) [ht : Und P t (.array n e)] [hl : Lay P e sz by_ z]
  (h : 0 ≤ i ∧ i < n) : QF P ops N F M L o (.pointer (some ⟨b, off + i.toNat * sz, none⟩)) :=
 wDs hg fun ac hac w hw => by
  obtain ⟨ti, v, hi1, hi2, _⟩ := hl.info
  have hadd : ∀ j, (⟨b, off, none⟩ : Addr).add j = ⟨b, off + j, none⟩ := fun j => by unfold Addr.add; split <;> simp_all
  simp [execOp, ho, hac.ev hx, hac.ev hi, Instr.indexAt, asIntOf, Instr.sureAddr, run_underlying ht.h, h, sizeOf, typeInfo, hi1, hi2, hadd]
theorem qField {x : Operand} {s : TypeId} {i fo : Nat} {ft : TypeId} {d : TypeDesc} {cs : List Value} {v : Value} (hg : gd ops F o = some true) (ho : o.op = .field s x i) (hx : ev F x = some (.agg cs.toArray)) [hf : Fld P s i fo ft] [hd : Und P ft d] (ha : aggD d = false) (hv : cs[fo]? = some v) : QF P ops N F M L o v :=
 wDs hg fun ac hac w hw => by
  obtain ⟨fs, f, hs, hf1, hf2, hf3⟩ := hf.fields
  subst hf2 hf3
  simp [execOp, ho, hac.ev hx, Instr.field, run_underlying hs, hf1, asAgg, part, wEu hd.h, ha, hv]
theorem qFieldA {x : Operand} {s : TypeId} {i fo : Nat} {ft : TypeId} {d : TypeDesc} {cs : List Value} {sz by_ : Nat} {z : List Value} (hg : gd ops F o = some true) (ho : o.op = .field s x i) (hx : ev F x = some (.agg cs.toArray)) [hf : Fld P s i fo ft] [hd : Und P ft d] [hl : Lay P ft sz by_ z] (ha : aggD d = true) : QF P ops N F M L o (.agg ((cs.drop fo).take sz).toArray) :=
 wDs hg fun ac hac w hw => by
  obtain ⟨fs, f, hs, hf1, hf2, hf3⟩ := hf.fields
  obtain ⟨ti, v, hi1, hi2, _⟩ := hl.info
  subst hf2 hf3
  have : cs.toArray.extract f.offset (f.offset + sz) = ((cs.drop f.offset).take sz).toArray := by simp
  simp [execOp, ho, hac.ev hx, Instr.field, run_underlying hs, hf1, asAgg, part, wEu hd.h, ha, sizeOf, typeInfo, hi1, hi2]
theorem St.alloc {w : World} (h : St E M L w) (ob : Obj) : St E M ((w.heap.size, ob) :: L) (w.alloc ob) := by
 have hb : Below w.heap.size w (w.alloc ob) := (Below.refl _ _).alloc (Nat.le_refl _) _
 have hw := St.closed _ _ _ _ _ h hb
 refine { hw with locs := fun p hp => ?_, nodup := ?_ }
 ·rcases List.mem_cons.1 hp with rfl | hp
  ·refine ⟨heap_alloc_new w _, .inl h.size, ?_⟩
   cases hm : M w.heap.size with
   | none => rfl
   | some x => exact absurd (wCq (h.agree _ _ hm)) (Nat.lt_irrefl _)
  exact hw.locs p hp
 refine List.nodup_cons.2 ⟨fun hm => ?_, h.nodup⟩
 obtain ⟨p, hp, he⟩ := List.mem_map.1 hm
 have := wCq (h.locs p hp).1
 simp only at he
 omega
theorem St.put {w : World} {b : Nat} {c c' : Array Value} {e : TypeId} {fz : Nat × Nat} {L' : Lc} (h : St E M L w) (hp : PutAt b (.cells c e fz) (.cells c' e fz) L L') : St E M L' (w.setRow b c') := by
 obtain ⟨A, B, rfl, rfl⟩ := hp.ex
 have hb := h.locs (b, .cells c e fz) (by simp)
 have hne : ∀ p ∈ A ++ B, p.1 ≠ b := by
  intro p hp he
  have hn := h.nodup
  rw [List.map_append, List.map_cons] at hn
  have := (List.nodup_append.1 hn)
  rcases List.mem_append.1 hp with hp | hp
  ·exact this.2.2 p.1 (List.mem_map.2 ⟨p, hp, rfl⟩) b (by simp) he
  exact (List.nodup_cons.1 this.2.1).1 (List.mem_map.2 ⟨p, hp, he⟩)
 have hr : ∀ k, k ≠ b → (w.setRow b c').heap[k]? = w.heap[k]? := fun k hk => setRow_other w b k c' hk
 exact
  {os := h.os, tape := h.tape, output := h.output, size := by rw [setRow_size]; exact h.size
   same := fun k hk hx => by
    have : k ≠ b := fun e => by subst e; exact hb.2.1.elim (fun h => by omega) hx
    rw [hr k this]; exact h.same k hk hx
   fresh := h.fresh
   agree := fun k x hx => by
    have : k ≠ b := fun e => by subst e; rw [hb.2.2] at hx; cases hx
    rw [hr k this]; exact h.agree k x hx
   locs := fun p hp => by
    rcases List.mem_append.1 hp with hp | hp
    ·have hp' := h.locs p (by simp [hp])
     exact ⟨by rw [hr _ (hne p (by simp [hp]))]; exact hp'.1, hp'.2⟩
    rcases List.mem_cons.1 hp with rfl | hp
    ·exact ⟨setRow_heap w b _ _ _ _ hb.1, hb.2⟩
    have hp' := h.locs p (by simp [hp])
    exact ⟨by rw [hr _ (hne p (by simp [hp]))]; exact hp'.1, hp'.2⟩
   nodup := by have := h.nodup; simpa [List.map_append] using this }
theorem wKd {K : Value → Mem → Lc → Prop} (hg : gd ops F o = some true)
  (h : ∀ a w, Has N F a → St E M L w → ∃ v w' M' L', ((execOp a.eval o).run P w = .ok (.value v) w' ∨ (v = undef ∧ (execOp a.eval o).run P w = .ok .skip w')) ∧ St E M' L' w' ∧ K v M' L') : HF P ops N F E M L o K := fun a w ha hw =>
 ⟨gd_spec ha hg, fun Q => by
  obtain ⟨v, w', M', L', hr, hs, hK⟩ := h a w ha hw
  have hnd : ∀ c, o.op ≠ .defer c := by
   intro c hc
   have key : ∀ n, (execOp a.eval o).run P w = .ok n w' → ∃ d, n = .defer d := fun n hn => by
    simp only [execOp, hc, Sem.run_bind] at hn
    generalize (resolve a.eval c o.type).run P w = r at hn
    cases r with
    | ok d w2 => simp [Result.andThen] at hn; exact ⟨d, hn.1.symm⟩
    | halt x w2 => simp [Result.andThen] at hn
   rcases hr with hr | ⟨_, hr⟩
   ·obtain ⟨d, hd⟩ := key _ hr; cases hd
   obtain ⟨d, hd⟩ := key _ hr; cases hd
  refine ⟨fun _ _ => trivial, ?_⟩
  rw [Oper.semAt_eq _ _ _ hnd]
  rcases hr with hr | ⟨rfl, hr⟩
  ·rw [hr]; exact ⟨v, M', L', rfl, hs, hK⟩
  rw [hr]; exact ⟨undef, M', L', rfl, hs, hK⟩⟩
theorem wCx {t : TypeId} {sz by_ : Nat} {z : List Value} (hg : gd ops F o = some true) (ho : o.op = .alloc t) [hl : Lay P t sz by_ z] :
  HF P ops N F E M L o (fun v M' L' => ∃ b, v = .pointer (some ⟨b, 0, none⟩) ∧ M = M' ∧ L' = (b, .cells z.toArray t (0, 0)) :: L) := wKd hg fun a w ha hw => by
 obtain ⟨ti, v, hi, _, _, hz, hz2⟩ := hl.info
 refine ⟨_, _, M, _, .inl ?_, hw.alloc (.cells z.toArray t (0, 0)), _, rfl, rfl, rfl⟩
 simp [execOp, ho, Instr.alloc, zeroValue, typeInfo, hi, hz, newVar, newRow, hz2]
theorem wBw {t : TypeId} {x : Operand} {u : Value} (hg : gd ops F o = some true) (ho : o.op = .box t x) (hx : ev F x = some u) {cs : List Value} (hc : u.cells = cs.toArray) :
  HF P ops N F E M L o (fun v M' L' => ∃ b, v = .pointer (some ⟨b, 0, none⟩) ∧ M = M' ∧ L' = (b, .cells cs.toArray t (0, 0)) :: L) := wKd hg fun a w ha hw => by
 refine ⟨_, _, M, _, .inl ?_, hw.alloc (.cells cs.toArray t (0, 0)), _, rfl, rfl, rfl⟩
 simp [execOp, ho, Instr.box, newVar, newRow, ha.ev hx, hc]
theorem hStore {t : TypeId} {x y : Operand} {u : Value} {b off : Nat} {l cs : List Value} {e : TypeId} {L' : Lc} {sz by_ : Nat} {z : List Value} (hg : gd ops F o = some true) (ho : o.op = .store t x y) (hx : ev F x = some (.pointer (some ⟨b, off, none⟩))) (hy : ev F y = some u)
  [hl : Lay P t sz by_ z] (hc : u.cells = cs.toArray) (hn : cs.length = sz) (h1 : ∀ v ∈ cs, v.oneCell' = true) [at_ : At b (.cells l.toArray e (0, 0)) L] (hfit : off + sz ≤ l.length)
  [hp : PutAt b (.cells l.toArray e (0, 0)) (.cells (l.take off ++ cs ++ l.drop (off + cs.length)).toArray e (0, 0)) L L'] :
  HF P ops N F E M L o (fun _ M' L'' => M = M' ∧ L'' = L') := wKd hg fun a w ha hw => by
 obtain ⟨ti, v, hi, hi2, _⟩ := hl.info
 have hb := (hw.locs _ at_.mem).1
 refine ⟨undef, _, M, L', .inr ⟨rfl, ?_⟩, hw.put hp, rfl, rfl⟩
 have hst := run_storeCells_at P b off e cs 0 l.toArray w hb (by simp; omega) h1
 simp [execOp, ho, ha.ev hx, ha.ev hy, Instr.storeAt, Instr.sureAddr, storeVar, sizeOf, typeInfo, hi, hi2, hc, hn, hst]
end
def Own (v : Value) (R : Lc) (e : TypeId) (size n : Nat) (xs : List Value) : Prop :=
  xs.length = n * size ∧
  ((v = .slice none 0 0 ∧ n = 0 ∧ R = []) ∨
   ∃ g cap cur, v = .slice (some ⟨g, 0, none⟩) n cap ∧ R = [(g, .cells cur e (0, 0))] ∧ n ≤ cap ∧ cap ≤ maxLen ∧ cur.size = cap * size ∧ cur.toList.take (n * size) = xs)
theorem Own.nil (e : TypeId) (size : Nat) : Own (.slice none 0 0) [] e size 0 [] := ⟨by simp, .inl ⟨rfl, rfl, rfl⟩⟩
class Pick (R : Lc) (L : Lc) (L2 : outParam Lc) : Prop where
  perm : L.Perm (R ++ L2)
instance (priority := high) Pick.head {R L : Lc} : Pick R (R ++ L) L := ⟨List.Perm.refl _⟩
instance Pick.self {R : Lc} : Pick R R [] := ⟨by simp⟩
instance Pick.nil {L : Lc} : Pick [] L L := ⟨List.Perm.refl _⟩
instance Pick.cons {R L L2 : Lc} {p : Nat × Obj} [h : Pick R L L2] : Pick R (p :: L) (p :: L2) := ⟨((List.Perm.cons p h.perm).trans (List.perm_middle.symm))⟩
instance Pick.app {R A L L2 : Lc} [h : Pick R L L2] : Pick R (A ++ L) (A ++ L2) := ⟨by
  have h1 := (List.Perm.append_left A h.perm)
  refine h1.trans ?_
  rw [← List.append_assoc, ← List.append_assoc]
  exact List.Perm.append_right _ List.perm_append_comm⟩
instance (priority := high) Pick.one {p : Nat × Obj} {L : Lc} : Pick [p] (p :: L) L := ⟨List.Perm.refl _⟩
section
variable {P : Program} {ops : Array Oper} {N : Fs} {F : Fr} {E : Ent} {M : Mem} {L : Lc} {o : Oper}
theorem Own.row {v : Value} {R L2 : Lc} {e : TypeId} {size n : Nat} {xs : List Value} (h : Own v R e size n xs) {w : World} (hw : St E M (R ++ L2) w) : w.ownsRow 0 e size v n xs := by
  refine ⟨h.1, ?_⟩
  rcases h.2 with ⟨rfl, rfl, _⟩ | ⟨g, cap, cur, rfl, rfl, h1, h2, h3, h4⟩
  · exact .inl ⟨rfl, rfl⟩
  exact .inr ⟨g, cap, cur, rfl, Nat.zero_le _, (hw.locs (g, .cells cur e (0, 0)) (by simp)).1, h1, h2, h3, h4⟩
theorem St.grown {v v' : Value} {R L2 : Lc} {e : TypeId} {size n n' : Nat} {xs xs' : List Value} {w w' : World} (hw : St E M (R ++ L2) w) (h : Own v R e size n xs) (h' : w'.ownsRow 0 e size v' n' xs') (hg : w.grownBy w' v.ownBlock)
    (hold : ∀ g, v'.ownBlock = some g → g < w.heap.size → v.ownBlock = some g) : ∃ R', Own v' R' e size n' xs' ∧ St E M (R' ++ L2) w' := by
  have hblk : ∀ g, v.ownBlock = some g → ∃ ob, R = [(g, ob)] := fun g hg => by
    rcases h.2 with ⟨rfl, rfl, _⟩ | ⟨g', cap, cur, rfl, rfl, _⟩
    · simp [Value.ownBlock] at hg
    simp [Value.ownBlock] at hg; subst hg; exact ⟨_, rfl⟩
  have hR : ∀ p ∈ R, v.ownBlock = some p.1 := fun p hp => by
    rcases h.2 with ⟨rfl, rfl, rfl⟩ | ⟨g', cap, cur, rfl, rfl, _⟩
    · cases hp
    rw [List.mem_singleton.1 hp]; rfl
  have keep : ∀ k, k < w.heap.size → v.ownBlock ≠ some k → w'.heap[k]? = w.heap[k]? := fun k hk hne => hg.block k hk (fun e => hne e.symm)
  have hnd := hw.nodup
  rw [List.map_append] at hnd
  have hnd2 := (List.nodup_append.1 hnd).2.1
  have hdis : ∀ p ∈ L2, v.ownBlock ≠ some p.1 := fun p hp he => by
    obtain ⟨ob, rfl⟩ := hblk p.1 he
    exact (List.nodup_append.1 hnd).2.2 p.1 (by simp) p.1 (List.mem_map.2 ⟨p, hp, rfl⟩) rfl
  have hloc : ∀ p ∈ L2, w'.heap[p.1]? = some p.2 ∧ (E.W.heap.size ≤ p.1 ∨ p.1 ∈ E.X) ∧ M p.1 = none := fun p hp => by
    have := hw.locs p (by simp [hp])
    exact ⟨by rw [keep p.1 (wCq this.1) (hdis p hp)]; exact this.1, this.2⟩
  have hag : ∀ b ob, M b = some ob → w'.heap[b]? = some ob := fun b ob hb => by
    have hb' := hw.agree b ob hb
    rw [keep b (wCq hb') (fun e => by
      obtain ⟨o2, hR2⟩ := hblk b e
      have := (hw.locs (b, o2) (by rw [hR2]; simp)).2.2
      rw [hb] at this; cases this)]
    exact hb'
  have hsame : ∀ k, k < E.W.heap.size → k ∉ E.X → w'.heap[k]? = E.W.heap[k]? := fun k hk hx => by
    rw [keep k (Nat.lt_of_lt_of_le hk hw.size) (fun e => by
      obtain ⟨o2, hR2⟩ := hblk k e
      have := (hw.locs (k, o2) (by rw [hR2]; simp)).2.1
      exact this.elim (fun h => by simp only at h; omega) hx)]
    exact hw.same k hk hx
  rcases h'.2 with ⟨rfl, rfl⟩ | ⟨g, cap, cur, rfl, _, hgg, h1, h2, h3, h4⟩
  · refine ⟨[], ⟨h'.1, .inl ⟨rfl, rfl, rfl⟩⟩, ?_⟩
    exact ⟨hg.os.trans hw.os, hg.tape.trans hw.tape, hg.output.trans hw.output, Nat.le_trans hw.size hg.size, hsame, hw.fresh, hag, fun p hp => hloc p (by simpa using hp), by simpa using hnd2⟩
  refine ⟨[(g, .cells cur e (0, 0))], ⟨h'.1, .inr ⟨g, cap, cur, rfl, rfl, h1, h2, h3, h4⟩⟩, ?_⟩
  have hg2 : ∀ p ∈ L2, p.1 ≠ g := fun p hp he => by
    have h5 := wCq (hw.locs p (by simp [hp])).1
    exact hdis p hp (by rw [he]; exact hold g rfl (by omega))
  refine ⟨hg.os.trans hw.os, hg.tape.trans hw.tape, hg.output.trans hw.output, Nat.le_trans hw.size hg.size, hsame, hw.fresh, hag, fun p hp => ?_, ?_⟩
  · rcases List.mem_cons.1 hp with rfl | hp
    · refine ⟨hgg, ?_⟩
      by_cases hlt : g < w.heap.size
      · obtain ⟨o2, hR2⟩ := hblk g (hold g rfl hlt)
        exact (hw.locs (g, o2) (by rw [hR2]; simp)).2
      refine ⟨.inl (Nat.le_trans hw.size (Nat.le_of_not_lt hlt)), ?_⟩
      cases hm : M g with
      | none => rfl
      | some x => exact absurd (wCq (hw.agree _ _ hm)) hlt
    exact hloc p hp
  simp only [List.cons_append, List.nil_append, List.map_cons]
  refine List.nodup_cons.2 ⟨fun hm => ?_, hnd2⟩
  obtain ⟨p, hp, he⟩ := List.mem_map.1 hm
  exact hg2 p hp he
def SJ (M : Mem) (L : Lc) (a : Option Addr) (news : List Value) : Prop := news = [] ∨ ∃ b off, a = some ⟨b, off, none⟩ ∧ ∀ i v, news[i]? = some v → CJ M L b (off + i) v
theorem HF.imp {K K' : Value → Mem → Lc → Prop} (h : HF P ops N F E M L o K) (hk : ∀ v M' L', K v M' L' → K' v M' L') : HF P ops N F E M L o K' := fun a w ha hw =>
  ⟨(h a w ha hw).1, fun Q => Oper.wpIn_mono (fun a' w' ⟨v, M', L', e, hs, hK⟩ => ⟨v, M', L', e, hs, hk v M' L' hK⟩) ((h a w ha hw).2 Q)⟩
theorem hAppendN {x y : Operand} {t e : TypeId} {v : Value} {R L2 : Lc} {size bytes n m c : Nat} {z xs news : List Value} {ad : Addr} (hg : gd ops F o = some true)
    (ho : o.op = .call { callee := .builtin .append, args := #[x, y], argTypes := #[t, t] }) (hx : ev F x = some v) (hy : ev F y = some (.slice (some ad) m c)) [ht : Und P t (.slice e)] [hl : Lay P e size bytes z]
    (hown : Own v R e size n xs) [hp : Pick R L L2] (hl1 : news.length = m * size) (hnews : ∀ i v, news[i]? = some v → CJ M L ad.block (ad.off + i) v) (hspot : ad.spot = none) (hz0 : Nat.blt 0 size = true) (h1 : ∀ u ∈ news, u.oneCell' = true) (hbig : n + m ≤ 1000000000) (hby : bytes ≤ 100000) :
    HF P ops N F E M L o (fun v' M' L' => M = M' ∧ ∃ R', L' = R' ++ L2 ∧ Own v' R' e size (n + m) (xs ++ news) ∧ (v' = .slice none 0 0 ↔ v = .slice none 0 0 ∧ m = 0) ∧ ((∀ p ∈ R, E.W.heap.size ≤ p.1) → ∀ p ∈ R', E.W.heap.size ≤ p.1)) := wKd hg fun a w ha hw => by
  obtain ⟨ti, zv, hi, hi2, hi3, hz, hz2⟩ := hl.info
  have hw' := hw.perm hp.perm
  have hown' := hown.row hw'
  have hadd : ∀ j, ad.add j = ⟨ad.block, ad.off + j, none⟩ := fun j => by
    obtain ⟨b, of, sp⟩ := ad; simp only at hspot; subst hspot; unfold Addr.add; split <;> simp_all
  have hsz : 0 < size := by simpa [Nat.blt_eq] using hz0
  obtain ⟨v', w', hr, h2, h3, h4⟩ := run_append_own (P := P) w 0 t o.type e ti zv size bytes ht.h hi hz hi2 hi3 (by rw [hz2]; simpa using hl.len) hsz v n xs hown' ad m c news hl1
    (fun j u hu => by rw [hadd]; exact (hnews j u hu).cell hw.js) h1 (by unfold maxLen; omega) (by
      have : (n + m) * bytes ≤ 1000000000 * 100000 := Nat.mul_le_mul hbig hby
      omega) (Nat.zero_le _)
  have hold : ∀ g, v'.ownBlock = some g → g < w.heap.size → v.ownBlock = some g := by
    intro g hg1 hlt
    have h63 : ((n + m : Nat) : Int) ≤ 9223372036854775807 := by omega
    have hby2 : (n + m) * bytes ≤ 140737488355328 := by
      have : (n + m) * bytes ≤ 1000000000 * 100000 := Nat.mul_le_mul hbig hby
      omega
    have hcell : ∀ j u, news[j]? = some u → w.cell? (ad.add j) = some u := fun j u hu => by rw [hadd]; exact (hnews j u hu).cell hw.js
    rcases hown'.2 with ⟨rfl, rfl⟩ | ⟨g0, cap, cur, rfl, _, hg0, hnc, hcm, hcs, htake⟩
    · by_cases hm : m = 0
      · have := h4.2 ⟨rfl, hm⟩; subst this; simp [Value.ownBlock] at hg1
      have hr2 := run_append_nil (P := P) w t o.type e ti zv ht.h hi hz ad m c news (by rw [hi2]; exact hl1) hcell (by omega) (by omega) (by rw [hi3]; simp only [Nat.zero_add] at hby2; omega)
      rw [hr2] at hr; cases hr
      simp [Value.ownBlock] at hg1; omega
    by_cases hroom : n + m ≤ cap
    · have hr2 := run_append_room (P := P) w t o.type e ti ht.h hi g0 n cap cur hg0 ad m c news (by rw [hi2]; exact hl1) hcell h1 hroom (by rw [hl1, hi2, hcs, ← Nat.add_mul]; exact Nat.mul_le_mul_right _ hroom)
      rw [hr2] at hr; cases hr
      simpa [Value.ownBlock] using hg1
    have holds : ∀ j u, xs[j]? = some u → w.cell? ((⟨g0, 0, none⟩ : Addr).add j) = some u := hown'.cells (g := g0) rfl
    have hr2 := run_append_grow (P := P) w t o.type e ti zv ht.h hi hz ⟨g0, 0, none⟩ n cap xs (by rw [hi2]; exact hown'.1) holds ad m c news (by rw [hi2]; exact hl1) hcell (by omega) h63 (growslice_fits (by omega) (by rw [hi3]; exact hby2))
    rw [hr2] at hr; cases hr
    simp [Value.ownBlock] at hg1; omega
  obtain ⟨R', hR1, hR2⟩ := hw'.grown hown h2 h3 hold
  have hnew : (∀ p ∈ R, E.W.heap.size ≤ p.1) → ∀ p ∈ R', E.W.heap.size ≤ p.1 := fun hR p hp => by
    rcases hR1.2 with ⟨rfl, _, rfl⟩ | ⟨g, cap, cur, rfl, rfl, _⟩
    · cases hp
    rw [List.mem_singleton.1 hp]
    by_cases hlt : g < w.heap.size
    · have hv := hold g rfl hlt
      rcases hown.2 with ⟨rfl, _, _⟩ | ⟨g2, cap2, cur2, rfl, rfl, _⟩
      · simp [Value.ownBlock] at hv
      simp [Value.ownBlock] at hv; subst hv; exact hR (_, Obj.cells cur2 e (0, 0)) (List.mem_singleton.2 rfl)
    exact Nat.le_trans hw'.size (Nat.le_of_not_lt hlt)
  refine ⟨v', w', M, R' ++ L2, .inl ?_, hR2, rfl, R', rfl, hR1, h4, hnew⟩
  simp [execOp, ho, resolve, invoke, builtin, ha.ev hx, ha.ev hy, hr]
theorem wCr {x y : Operand} {t e : TypeId} {v : Value} {R L2 : Lc} {size bytes n m c : Nat} {z xs news : List Value} {ad : Addr} (hg : gd ops F o = some true)
    (ho : o.op = .call { callee := .builtin .append, args := #[x, y], argTypes := #[t, t] }) (hx : ev F x = some v) (hy : ev F y = some (.slice (some ad) m c)) [ht : Und P t (.slice e)] [hl : Lay P e size bytes z]
    (hown : Own v R e size n xs) [hp : Pick R L L2] (hl1 : news.length = m * size) (hnews : ∀ i v, news[i]? = some v → CJ M L ad.block (ad.off + i) v) (hspot : ad.spot = none) (hz0 : Nat.blt 0 size = true) (h1 : ∀ u ∈ news, u.oneCell' = true) (hbig : n + m ≤ 1000000000) (hby : bytes ≤ 100000) :
    HF P ops N F E M L o (fun v' M' L' => M = M' ∧ ∃ R', L' = R' ++ L2 ∧ Own v' R' e size (n + m) (xs ++ news) ∧ (v' = .slice none 0 0 ↔ v = .slice none 0 0 ∧ m = 0)) :=
  HF.imp (hAppendN hg ho hx hy hown hl1 hnews hspot hz0 h1 hbig hby) fun v' M' L' ⟨e1, R', e2, e3, e4, _⟩ => ⟨e1, R', e2, e3, e4⟩
theorem hAppend0 {x y : Operand} {t e : TypeId} {v : Value} {R : Lc} {size bytes n c : Nat} {z xs : List Value} {ya : Option Addr} (hg : gd ops F o = some true)
    (ho : o.op = .call { callee := .builtin .append, args := #[x, y], argTypes := #[t, t] }) (hx : ev F x = some v) (hy : ev F y = some (.slice ya 0 c)) [ht : Und P t (.slice e)] [hl : Lay P e size bytes z]
    (hown : Own v R e size n xs) : HF P ops N F E M L o (fun v' M' L' => M = M' ∧ L' = L ∧ v' = v) := wKd hg fun a w ha hw => by
  obtain ⟨ti, zv, hi, hi2, hi3, hz, hz2⟩ := hl.info
  refine ⟨v, w, M, L, .inl ?_, hw, rfl, rfl, rfl⟩
  have hfc : ∀ w : World, (Builtin.firstCells ti.size 0 (.slice ya 0 c)).run P w = .ok #[] w := fun w => by
    cases ya <;> simp [Builtin.firstCells, loadCells, loadCellsFrom]
  rcases hown.2 with ⟨rfl, rfl, _⟩ | ⟨g, cap, cur, rfl, rfl, h1, h2, h3, h4⟩
  · simp [execOp, ho, resolve, invoke, builtin, ha.ev hx, ha.ev hy, Builtin.append_, run_underlying ht.h, sizeOf, typeInfo, hi, Builtin.lenOf, hfc]
  simp [execOp, ho, resolve, invoke, builtin, ha.ev hx, ha.ev hy, Builtin.append_, run_underlying ht.h, sizeOf, typeInfo, hi, Builtin.lenOf, hfc, h1, storeCells]
def isGo (P : Program) (f : FuncId) : Bool := match P.funcs[f]? with
  | some fn => !(fn.name == "runtime.NumGoroutine") && fn.body.isSome
  | none => false
theorem run_callFunc {f : FuncId} (h : isGo P f = true) (args : Array Value) (w : World) : (callFunc f args).run P w = .ok (.enter f args) w := by
  unfold isGo at h
  split at h
  · rename_i fn hf
    simp only [Bool.and_eq_true, Bool.not_eq_true'] at h
    have hn : fn.name ≠ "runtime.NumGoroutine" := by simpa using h.1
    have hb : fn.body ≠ none := fun e => by simp [e] at h
    simp [callFunc, hf, hn, hb]
  cases h
theorem run_callOp {x : Operand} {xs : List Operand} {T : Array TypeId} {f : FuncId} {first captured vs all : List Value} {a : Act} (ho : o.op = .call { callee := .value x, args := xs.toArray, argTypes := T }) (ha : Has N F a) (hx : ev F x = some (.func (.func f) first.toArray captured.toArray)) (hv : evs F xs = some vs)
    (hall : first ++ vs ++ captured = all) (hgo : isGo P f = true) (w : World) : (execOp a.eval o).run P w = .ok (.enter f all.toArray) w := by
  have h1 := ha.evs hv
  have h2 : xs.toArray.map a.eval = vs.toArray := by rw [← h1]; simp
  subst hall
  simp [execOp, ho, resolve, h2, ha.ev hx, Deferred.ofValue, invoke, run_callFunc hgo]
theorem St.into {R L2 : Lc} {w : World} (hw' : St E M (R ++ L2) w) : St ⟨w, R.map (·.1), M⟩ M R w :=
  { os := rfl, tape := rfl, output := rfl, size := Nat.le_refl _, same := fun _ _ _ => rfl, fresh := fun _ _ => rfl, agree := hw'.agree
    locs := fun p hp => ⟨(hw'.locs p (by simp [hp])).1, .inr (List.mem_map.2 ⟨p, hp, rfl⟩), (hw'.locs p (by simp [hp])).2.2⟩
    nodup := by have := hw'.nodup; rw [List.map_append] at this; exact (List.nodup_append.1 this).1 }
theorem St.back {R L2 R' : Lc} {w w' : World} {M' : Mem} (hw' : St E M (R ++ L2) w) (h : St ⟨w, R.map (·.1), M⟩ M' R' w') : St E M' (R' ++ L2) w' ∧ MLe M M' := by
    have hnd := hw'.nodup
    rw [List.map_append] at hnd
    have hX : ∀ k ∈ R.map (·.1), E.W.heap.size ≤ k ∨ k ∈ E.X := fun k hk => by
      obtain ⟨p, hp, rfl⟩ := List.mem_map.1 hk
      exact (hw'.locs p (by simp [hp])).2.1
    have hL2 : ∀ p ∈ L2, p.1 < w.heap.size ∧ p.1 ∉ R.map (·.1) := fun p hp =>
      ⟨wCq (hw'.locs p (by simp [hp])).1, fun hm => (List.nodup_append.1 hnd).2.2 p.1 hm p.1 (List.mem_map.2 ⟨p, hp, rfl⟩) rfl⟩
    have hR' : ∀ p ∈ R', w.heap.size ≤ p.1 ∨ p.1 ∈ R.map (·.1) := fun p hp => (h.locs p hp).2.1
    refine ⟨?_, fun b ob hb => ?_⟩
    · exact
        { os := h.os.trans hw'.os, tape := h.tape.trans hw'.tape, output := h.output.trans hw'.output, size := Nat.le_trans hw'.size h.size
          same := fun k hk hx => (h.same k (Nat.lt_of_lt_of_le hk hw'.size) (fun hm => (hX k hm).elim (fun h => by omega) hx)).trans (hw'.same k hk hx)
          fresh := fun k hk => (h.fresh k (Nat.lt_of_lt_of_le hk hw'.size)).trans (hw'.fresh k hk)
          agree := h.agree
          locs := fun p hp => by
            rcases List.mem_append.1 hp with hp | hp
            · refine ⟨(h.locs p hp).1, ?_, (h.locs p hp).2.2⟩
              rcases hR' p hp with h1 | h1
              · exact .inl (Nat.le_trans hw'.size h1)
              exact hX _ h1
            obtain ⟨h1, h2⟩ := hL2 p hp
            have h3 := hw'.locs p (by simp [hp])
            exact ⟨by rw [h.same p.1 h1 h2]; exact h3.1, h3.2.1, by rw [h.fresh p.1 h1]; exact h3.2.2⟩
          nodup := by
            rw [List.map_append]
            refine List.nodup_append.2 ⟨h.nodup, (List.nodup_append.1 hnd).2.1, fun a ha b hb hab => ?_⟩
            obtain ⟨p, hp, rfl⟩ := List.mem_map.1 ha
            obtain ⟨q, hq, rfl⟩ := List.mem_map.1 hb
            obtain ⟨h1, h2⟩ := hL2 q hq
            rcases hR' p hp with h3 | h3
            · omega
            rw [hab] at h3; exact h2 h3 }
    rw [h.fresh b (wCq (hw'.agree b ob hb))]; exact hb
theorem hCallN {x : Operand} {xs : List Operand} {T : Array TypeId} {f : FuncId} {first captured vs all : List Value} {R L2 : Lc} {post : Value → Mem → Lc → Prop} (hg : gd ops F o = some true)
    (ho : o.op = .call { callee := .value x, args := xs.toArray, argTypes := T }) (hx : ev F x = some (.func (.func f) first.toArray captured.toArray)) (hv : evs F xs = some vs) (hall : first ++ vs ++ captured = all) (hgo : isGo P f = true)
    (hs : SpecL P f all.toArray M R post) [hp : Pick R L L2] : HF P ops N F E M L o (fun v M' L' => MLe M M' ∧ ∃ R', L' = R' ++ L2 ∧ post v M' R' ∧ ∀ p ∈ R', p.1 ∈ R.map (·.1) ∨ E.W.heap.size ≤ p.1) := fun a w ha hw =>
  ⟨gd_spec ha hg, fun Q => by
    have hw' := hw.perm hp.perm
    refine ⟨fun _ _ => trivial, ?_⟩
    rw [Oper.semAt_eq _ _ _ (fun c hc => by rw [ho] at hc; cases hc), run_callOp ho ha hx hv hall hgo w]
    refine ⟨wHn _ _, calls_in _ _ ((hs w hw'.into).mono fun e w' hh => ?_)⟩
    obtain ⟨v, M', R', rfl, hpost, h⟩ := hh
    obtain ⟨h1, h2⟩ := hw'.back h
    exact ⟨v, M', R' ++ L2, rfl, h1, h2, R', rfl, hpost, fun p hp => (h.locs p hp).2.1.symm.imp id (Nat.le_trans hw'.size)⟩⟩
theorem wAt {x : Operand} {xs : List Operand} {T : Array TypeId} {f : FuncId} {first captured vs all : List Value} {R L2 : Lc} {post : Value → Mem → Lc → Prop} (hg : gd ops F o = some true)
    (ho : o.op = .call { callee := .value x, args := xs.toArray, argTypes := T }) (hx : ev F x = some (.func (.func f) first.toArray captured.toArray)) (hv : evs F xs = some vs) (hall : first ++ vs ++ captured = all) (hgo : isGo P f = true)
    (hs : SpecL P f all.toArray M R post) [hp : Pick R L L2] : HF P ops N F E M L o (fun v M' L' => MLe M M' ∧ ∃ R', L' = R' ++ L2 ∧ post v M' R') :=
  HF.imp (hCallN hg ho hx hv hall hgo hs) fun v M' L' ⟨e1, R', e2, e3, _⟩ => ⟨e1, R', e2, e3⟩
theorem wAy {x : Operand} {xs : List Operand} {T : Array TypeId} {f : FuncId} {first captured vs all : List Value} {v : Value} (hg : gd ops F o = some true)
    (ho : o.op = .call { callee := .value x, args := xs.toArray, argTypes := T }) (hx : ev F x = some (.func (.func f) first.toArray captured.toArray)) (hv : evs F xs = some vs) (hall : first ++ vs ++ captured = all) (hgo : isGo P f = true)
    (hs : SpecL P f all.toArray M [] (fun u _ _ => u = v)) : QF P ops N F M L o v := fun a ha =>
  .inl ⟨gd_spec ha hg, fun w hw => by
    have hin : St ⟨w, ([] : Lc).map (·.1), M⟩ M [] w :=
      { os := rfl, tape := rfl, output := rfl, size := Nat.le_refl _, same := fun _ _ _ => rfl, fresh := fun _ _ => rfl, agree := hw.agree
        locs := fun p hp => by cases hp
        nodup := by simp }
    rw [run_callOp ho ha hx hv hall hgo w]
    refine ⟨Below.refl _ _, (hs w hin).mono fun e w' hh => ?_⟩
    obtain ⟨u, M', R', rfl, rfl, h⟩ := hh
    exact ⟨rfl, ⟨h.os, h.tape, h.output, h.size, fun k hk => h.same k hk (by simp)⟩⟩⟩
end
inductive Bd (F : Fr) : Option Operand → Nat → Nat → Prop
 | no (d : Nat) : Bd F none d d
 | of {y : Operand} {k : IntKind} {i : Int} {d v : Nat} (h : ev F y = some (.int k i)) (h0 : 0 ≤ i) (hv : i.toNat = v) : Bd F (some y) d v
def slA (a : Option Addr) (l m s : Nat) : Option Addr := if m = l then a else a.map (·.add (l * s))
theorem wBu {b off l m s : Nat} (h : l < m) : slA (some ⟨b, off, none⟩) l m s = some ⟨b, off + l * s, none⟩ := by
 have : m ≠ l := by omega
 have hadd : ∀ j, (⟨b, off, none⟩ : Addr).add j = ⟨b, off + j, none⟩ := fun j => by unfold Addr.add; split <;> simp_all
 simp [slA, this, hadd]
theorem wEq {a : Option Addr} {m s : Nat} : slA a 0 m s = a := by
 unfold slA; split
 ·rfl
 cases a <;> simp [Addr.add]
section
variable {P : Program} {ops : Array Oper} {N : Fs} {F : Fr} {E : Ent} {M : Mem} {L : Lc} {o : Oper}
theorem wEe {y : Value} {k : IntKind} {i : Int} {v d : Nat} {code : BoundsCode} (hy : y = .int k i) (h0 : 0 ≤ i) (hv : i.toNat = v) (hle : v ≤ d) (w : World) : (Instr.sliceBound y d code).run P w = .ok v w := by
 subst hy hv
 have : 0 ≤ i ∧ i ≤ d := ⟨h0, by omega⟩
 simp [Instr.sliceBound, asIntOf, this]
theorem run_bounds {a : Act} (ha : Has N F a) {isS : Bool} {len cap l h m : Nat} {lo hi mx : Option Operand} (hm : Bd F mx cap m) (hh : Bd F hi len h) (hl : Bd F lo 0 l) (hlh : l ≤ h) (hhm : h ≤ m) (hmc : m ≤ cap) (hok : mx = none ∨ hi ≠ none) (w : World) :
  (Instr.sliceBounds isS len cap (lo.map a.eval) (hi.map a.eval) (mx.map a.eval)).run P w = .ok (l, h, m) w := by
 unfold Instr.sliceBounds
 cases hm with
 | no =>
  cases hh with
  | no => cases hl with
   | no => simp
   | of e1 e2 e3 => simp [wEe (P := P) (ha.ev e1) e2 e3 hlh]
  | of f1 f2 f3 => cases hl with
   | no => simp [wEe (P := P) (ha.ev f1) f2 f3 hhm]
   | of e1 e2 e3 => simp [wEe (P := P) (ha.ev e1) e2 e3 hlh, wEe (P := P) (ha.ev f1) f2 f3 hhm]
 | of g1 g2 g3 =>
  cases hh with
  | no => simp at hok
  | of f1 f2 f3 => cases hl with
   | no => simp [wEe (P := P) (ha.ev f1) f2 f3 hhm, wEe (P := P) (ha.ev g1) g2 g3 hmc]
   | of e1 e2 e3 => simp [wEe (P := P) (ha.ev e1) e2 e3 hlh, wEe (P := P) (ha.ev f1) f2 f3 hhm, wEe (P := P) (ha.ev g1) g2 g3 hmc]
theorem qSl {x : Operand} {t e : TypeId} {lo hi mx : Option Operand} {a : Option Addr} {len cap l h m sz by_ : Nat} {z : List Value} (hg : gd ops F o = some true) (ho : o.op = .slice t x lo hi mx) (hx : ev F x = some (.slice a len cap)) [ht : Und P t (.slice e)] [hs : Lay P e sz by_ z]
  (hm : Bd F mx cap m) (hh : Bd F hi len h) (hl : Bd F lo 0 l) (hle : l ≤ h ∧ h ≤ m ∧ m ≤ cap) (hok : mx = none ∨ hi ≠ none) : QF P ops N F M L o (.slice (slA a l m sz) (h - l) (m - l)) := wDs hg fun ac hac w _ => by
 obtain ⟨ti, v, hi1, hi2, _⟩ := hs.info
 have hb := run_bounds (P := P) hac (isS := true) hm hh hl hle.1 hle.2.1 hle.2.2 hok w
 simp only [execOp, ho, Instr.sliceAt, Sem.run_bind, run_underlying ht.h, Result.andThen_ok, Instr.slice, hac.ev hx, hb, sizeOf, typeInfo, run_program, hi1, Sem.run_pure, hi2, slA]
def fillL (place : Nat → Option (Nat × Nat)) : List Value → List (Nat × Value) → Option (List Value)
 | cs, [] => some cs
 | cs, (i, v) :: rest => match place i with
  | some (off, size) => bif Nat.beq v.cells.toList.length size && Nat.ble (off + size) cs.length then fillL place (cs.take off ++ v.cells.toList ++ cs.drop (off + size)) rest else none
  | none => none
theorem foldl_put (off : Nat) : ∀ (vs : List Value) (j : Nat) (cs : List Value), off + j + vs.length ≤ cs.length →
  ((vs.zipIdx j).foldl (fun (a : Array Value) (p : Value × Nat) => a.setIfInBounds (off + p.2) p.1) cs.toArray) = (cs.take (off + j) ++ vs ++ cs.drop (off + j + vs.length)).toArray
 | [], j, cs, h => by simp
 | v :: vs, j, cs, h => by
  simp only [List.zipIdx_cons, List.foldl_cons, List.setIfInBounds_toArray]
  simp only [List.length_cons] at h
  rw [foldl_put off vs (j + 1) (cs.set (off + j) v) (by simp; omega)]
  have hlt : off + j < cs.length := by omega
  have e1 : (cs.set (off + j) v).take (off + (j + 1)) = cs.take (off + j) ++ [v] := by
   rw [← Nat.add_assoc, List.take_succ_eq_append_getElem (by simpa using hlt), List.take_set_of_le (Nat.le_refl _)]; simp
  have e2 : (cs.set (off + j) v).drop (off + (j + 1) + vs.length) = cs.drop (off + j + (vs.length + 1)) := by
   rw [List.drop_set_of_lt (by omega)]; congr 1; omega
  rw [e1, e2]; simp
theorem fill_eq (place : Nat → Option (Nat × Nat)) : ∀ (ps : List (Nat × Value)) (cs r : List Value), fillL place cs ps = some r → Instr.fill place cs.toArray ps = some r.toArray
 | [], cs, r, h => by simp [fillL] at h; simp [Instr.fill, h]
 | (i, v) :: ps, cs, r, h => by
  unfold fillL at h
  unfold Instr.fill
  cases hp : place i with
  | none => simp [hp] at h
  | some os =>
   obtain ⟨off, size⟩ := os
   simp only [hp] at h ⊢
   cases hb : (Nat.beq v.cells.toList.length size && Nat.ble (off + size) cs.length) with
   | false => rw [hb] at h; cases h
   | true =>
    rw [hb] at h
    simp only [cond_true] at h
    simp only [Bool.and_eq_true, Nat.ble_eq] at hb
    have h1 : v.cells.size = size := by rw [← Array.length_toList]; exact Nat.eq_of_beq_eq_true hb.1
    have h2 : ¬ (v.cells.size ≠ size || decide (off + v.cells.size > cs.toArray.size)) = true := by simp [h1]; omega
    have h3 := foldl_put off v.cells.toList 0 cs (by simp [h1]; omega)
    rw [if_neg (by simpa using h2)]
    simp only [Nat.add_zero, Array.length_toList, h1] at h3
    have h4 : v.cells.zipIdx.foldl (fun (a : Array Value) (p : Value × Nat) => a.setIfInBounds (off + p.2) p.1) cs.toArray = (cs.take off ++ v.cells.toList ++ cs.drop (off + size)).toArray := by
     rw [← h3, ← Array.foldl_toList]; simp
    have h5 := fill_eq place ps _ r h
    rw [← h4] at h5
    exact h5
end
class Plc (P : Program) (t : TypeId) (pl : outParam (List (Nat × Nat))) : Prop where
 h : (match P.underlying t with | some (.struct fs) => fs.toList.mapM (fun f => (P.info? f.type).map fun i => (f.offset, i.size)) | _ => none) = some pl
def evp (F : Fr) : List (Nat × Operand) → Option (List (Nat × Value))
 | [] => some []
 | (i, x) :: ps => match ev F x, evp F ps with
  | some v, some vs => some ((i, v) :: vs)
  | _, _ => none
theorem Has.evp {N : Fs} {F : Fr} {a : Act} (h : Has N F a) : ∀ {ps : List (Nat × Operand)} {vs : List (Nat × Value)}, evp F ps = some vs → ps.map (fun (i, x) => (i, a.eval x)) = vs
 | [], vs, hx => by simpa [Go.Proofs.YtbhkdjheooknfaaGreat.evp] using hx
 | (i, x) :: ps, vs, hx => by
  unfold Go.Proofs.YtbhkdjheooknfaaGreat.evp at hx
  split at hx
  ·rename_i v us h1 h2
   cases hx
   simp [h.ev h1, h.evp h2]
  cases hx
section
variable {P : Program} {ops : Array Oper} {N : Fs} {F : Fr} {E : Ent} {M : Mem} {L : Lc} {o : Oper}
theorem wAq {t : TypeId} {ps : List (Nat × Operand)} {vs : List (Nat × Value)} {sz by_ : Nat} {z cs : List Value} {pl : List (Nat × Nat)} (hg : gd ops F o = some true) (ho : o.op = .build t ps.toArray) (hv : evp F ps = some vs) [hl : Lay P t sz by_ z] [hp : Plc P t pl]
  (hc : fillL (pl[·]?) z vs = some cs) : QF P ops N F M L o (.agg cs.toArray) := wDs hg fun a ha w _ => by
 obtain ⟨ti, zv, hi, _, _, hz, hz2⟩ := hl.info
 have hp' := hp.h
 split at hp'
 ·rename_i fs hu
  have h1 : P.built t vs = some cs.toArray := by
   have h2 : (fun i : Nat => pl.toArray[i]?) = (fun i : Nat => pl[i]?) := by funext i; simp
   simp only [Program.built, hi, hu, hz, hp', h2, hz2]
   exact fill_eq _ _ _ _ hc
  have h3 := ha.evp hv
  have h4 : ((ps.toArray).map fun x => (x.1, a.eval x.2)).toList = vs := by rw [← h3]; simp
  have h5 := run_build (P := P) w t ((ps.toArray).map fun x => (x.1, a.eval x.2)) cs.toArray (by rw [h4]; exact h1)
  simp only [execOp, ho, Sem.run_bind, h5, Result.andThen_ok, Sem.run_pure]
 cases hp'
theorem wAr {t e : TypeId} {n : Nat} {ps : List (Nat × Operand)} {vs : List (Nat × Value)} {sz by_ : Nat} {z cs : List Value} (hg : gd ops F o = some true) (ho : o.op = .buildSlice t n ps.toArray) (hv : evp F ps = some vs) [ht : Und P t (.slice e)] [hl : Lay P e sz by_ z]
  (hc : fillL (fun i => some (i * sz, sz)) (List.replicate n z).flatten vs = some cs) (hsmall : Nat.ble (n * sz) 16777216 = true) (hpos : Nat.blt 0 sz = true) :
  HF P ops N F E M L o (fun v M' L' => ∃ b, v = .slice (some ⟨b, 0, none⟩) n n ∧ M = M' ∧ L' = (b, .cells cs.toArray e (0, 0)) :: L) := wKd hg fun a w ha hw => by
 have hzl := hl.len
 obtain ⟨ti, zv, hi, hi2, _, hz, hz2⟩ := hl.info
 refine ⟨_, _, M, _, .inl ?_, hw.alloc (.cells cs.toArray e (0, 0)), _, rfl, rfl, rfl⟩
 have h3 := ha.evp hv
 have h4 : ((ps.toArray).map fun x => (x.1, a.eval x.2)).toList = vs := by rw [← h3]; simp
 have hs : ¬ (16777216 < n * sz) := by simpa [Nat.ble_eq] using hsmall
 have h0 : 0 < sz := by simpa [Nat.blt_eq] using hpos
 have hzz : (Array.range (n * sz)).map (fun i => z.toArray[i % z.toArray.size]!) = ((List.replicate n z).flatten).toArray := by
  have hk : ∀ n, (List.range (n * sz)).map (fun i => z[i % sz]!) = (List.replicate n z).flatten := by
   intro n
   induction n with
   | zero => simp
   | succ n ih =>
    rw [Nat.succ_mul, List.range_add, List.map_append, ih, List.replicate_succ', List.flatten_append]
    congr 1
    rw [List.map_map]
    apply List.ext_getElem
    ·simp [hzl]
    intro i h1 h2
    have hlt : i < sz := by simpa using h1
    have : (n * sz + i) % sz = i := by rw [Nat.mul_comm, Nat.mul_add_mod, Nat.mod_eq_of_lt hlt]
    simp [this, hzl, hlt]
  apply Array.ext'
  simp only [Array.toList_map, Array.toList_range]
  rw [← hk n]
  apply List.map_congr_left
  intro i hi
  simp [hzl]
 have hf := fill_eq (fun i => some (i * sz, sz)) vs _ _ hc
 by_cases hn : n * sz = 0
 ·have hn0 : n = 0 := by rcases Nat.mul_eq_zero.1 hn with h | h <;> omega
  subst hn0
  simp only [List.replicate_zero, List.flatten_nil] at hf
  simp [execOp, ho, Instr.buildSlice, run_underlying ht.h, sizeOf, typeInfo, hi, hi2, h3, hf, newRow, Array.range_zero']
 have hs' : ¬ (n * sz > 2 ^ 24) := hs
 simp only [execOp, ho, Instr.buildSlice, Sem.run_bind, run_underlying ht.h, Result.andThen_ok, sizeOf, typeInfo, run_program, hi, Sem.run_pure, hi2, if_neg hs', if_neg hn, zeroValue, hz, hz2, h4, hzz, hf]
 simp [newRow]
theorem hCopy {x y : Operand} {t u e : TypeId} {b off dn dc : Nat} {sa : Option Addr} {sn sc : Nat} {l cs : List Value} {eb : TypeId} {L' : Lc} {by_ : Nat} {z : List Value} (hg : gd ops F o = some true)
  (ho : o.op = .call { callee := .builtin .copy, args := #[x, y], argTypes := #[t, u] }) (hx : ev F x = some (.slice (some ⟨b, off, none⟩) dn dc)) (hy : ev F y = some (.slice sa sn sc)) [ht : Und P t (.slice e)] [hl : Lay P e 1 by_ z]
  (hn : cs.length = min sn dn) (hcs : SJ M L sa cs) (h1 : ∀ v ∈ cs, v.oneCell' = true) [at_ : At b (.cells l.toArray eb (0, 0)) L] (hfit : off + cs.length ≤ l.length)
  [hp : PutAt b (.cells l.toArray eb (0, 0)) (.cells (l.take off ++ cs ++ l.drop (off + cs.length)).toArray eb (0, 0)) L L'] :
  HF P ops N F E M L o (fun v M' L'' => v = .int .i64 cs.length ∧ M = M' ∧ L'' = L') := wKd hg fun a w ha hw => by
 obtain ⟨ti, zv, hi, hi2, _⟩ := hl.info
 have hb := (hw.locs _ at_.mem).1
 refine ⟨.int .i64 cs.length, _, M, L', .inl ?_, hw.put hp, rfl, rfl, rfl⟩
 have hsz : (P.info? e).map (·.size) = some 1 := by simp [hi, hi2]
 have hst := run_storeCells_at P b off eb cs 0 l.toArray w hb (by simp; omega) h1
 have hfc : (Builtin.firstCells 1 cs.length (.slice sa sn sc)).run P w = .ok cs.toArray w := by
  rcases hcs with rfl | ⟨sb, so, rfl, hc⟩
  ·cases sa <;> simp [Builtin.firstCells, loadCells, loadCellsFrom]
  have hadd : ∀ j, (⟨sb, so, none⟩ : Addr).add j = ⟨sb, so + j, none⟩ := fun j => by unfold Addr.add; split <;> simp_all
  exact run_firstCells_some (P := P) w 1 cs.length ⟨sb, so, none⟩ sn sc cs (by simp) (fun j v hv => by rw [hadd]; exact (hc j v hv).cell hw.js)
 simp [execOp, ho, resolve, invoke, builtin, ha.ev hx, ha.ev hy, Builtin.copy_, run_underlying ht.h, sizeOf, typeInfo, hi, hi2, Builtin.lenOf, ← hn, hfc, hst, goInt]
theorem wEa {x y : Operand} {t e : TypeId} {k k' : IntKind} {n c : Int} {sz by_ : Nat} {z : List Value} (hg : gd ops F o = some true) (ho : o.op = .makeSlice t x y) (hx : ev F x = some (.int k n)) (hy : ev F y = some (.int k' c)) [ht : Und P t (.slice e)] [hl : Lay P e sz by_ z]
  (h : 0 ≤ n ∧ n ≤ c ∧ c ≤ 1000000000) (hby : Nat.ble by_ 100000 = true) :
  HF P ops N F E M L o (fun v M' L' => ∃ b, v = .slice (some ⟨b, 0, none⟩) n.toNat c.toNat ∧ M = M' ∧ L' = (b, .cells ((List.replicate c.toNat z).flatten).toArray e (0, 0)) :: L) := wKd hg fun a w ha hw => by
 have hzl := hl.len
 obtain ⟨ti, zv, hi, hi2, hi3, hz, hz2⟩ := hl.info
 refine ⟨_, _, M, _, .inl ?_, hw.alloc (.cells ((List.replicate c.toNat z).flatten).toArray e (0, 0)), _, rfl, rfl, rfl⟩
 have hb : (ti.bytes : Int) * c ≤ 281474976710656 := by
  rw [hi3]
  have h1 : by_ ≤ 100000 := by simpa [Nat.ble_eq] using hby
  have h2 : (by_ : Int) * c ≤ 100000 * c := Int.mul_le_mul_of_nonneg_right (by omega) (by omega)
  omega
 have hr := run_make (P := P) w t e ti zv ht.h hi hz k k' n c h.1 h.2.1 hb (by omega)
 have hm : madeCells zv.cells (c.toNat * ti.size) = ((List.replicate c.toNat z).flatten).toArray := by
  rw [hz2, hi2]
  rcases Nat.eq_zero_or_pos sz with h0 | h0
  ·subst h0
   have : z = [] := List.eq_nil_of_length_eq_zero hzl
   subst this
   simp [madeCells]
  have hk : ∀ n, (List.range (n * sz)).map (fun i => z[i % sz]!) = (List.replicate n z).flatten := by
   intro n
   induction n with
   | zero => simp
   | succ n ih =>
    rw [Nat.succ_mul, List.range_add, List.map_append, ih, List.replicate_succ', List.flatten_append]
    congr 1
    rw [List.map_map]
    apply List.ext_getElem
    ·simp [hzl]
    intro i h1 h2
    have hlt : i < sz := by simpa using h1
    have : (n * sz + i) % sz = i := by rw [Nat.mul_comm, Nat.mul_add_mod, Nat.mod_eq_of_lt hlt]
    simp [this, hzl, hlt]
  apply Array.ext'
  rw [← hk]
  simp only [madeCells, Array.toList_map, Array.toList_range]
  apply List.map_congr_left
  intro i hi
  simp [hzl]
 rw [hm] at hr
 simp [execOp, ho, ha.ev hx, ha.ev hy, hr]
theorem qStr {x : Operand} {s d e : TypeId} {sa : Option Addr} {n c : Nat} {xs : List Int} (hg : gd ops F o = some true) (ho : o.op = .convert s d x) (hx : ev F x = some (.slice sa n c)) [hs : Und P s (.slice e)] [he : Und P e (.int .u8)] [hd : Und P d .string]
  (hn : xs.length = n) (hc : SJ M L sa (xs.map (Value.int .u8))) : QF P ops N F M L o (.string (strOfNums xs)) := wDs hg fun a ha w hw => by
 cases sa with
 | none =>
  have : xs = [] := by
   rcases hc with h | ⟨b, off, h, _⟩
   ·simpa using h
   cases h
  subst this
  have hr := run_convert_bytes_nil (P := P) w s e hs.h he.h n c d hd.h
  simp [execOp, ho, ha.ev hx, hr, strOfNums, ByteArray.empty, ByteArray.emptyWithCapacity]; rfl
 | some ad =>
  rcases hc with h | ⟨b, off, h, hcell⟩
  ·have : xs = [] := by simpa using h
   subst this
   subst hn
   have : (convert s d (.slice (some ad) 0 c)).run P w = .ok (.string (strOfNums [])) w := by
    obtain ⟨b, off, sp⟩ := ad
    simp [convert, run_underlying hs.h, run_underlying hd.h, run_underlying he.h, Conv.bytesToString, loadCells, loadCellsFrom, strOfNums, ByteArray.empty, ByteArray.emptyWithCapacity]; rfl
   simp [execOp, ho, ha.ev hx, this]
  cases h
  have hr := run_convert_bytes_arg (P := P) w s e hs.h he.h b off n c xs hn (fun i hi => (hcell i _ (by
   have hlt : i < xs.length := by omega
   simp [List.getD_eq_getElem?_getD, hlt])).cell hw) d hd.h
  simp [execOp, ho, ha.ev hx, hr]
end
def CM (M : Mem) (b off : Nat) (v : Value) : Prop := ∃ c e fz, M b = some (.cells c e fz) ∧ c[off]? = some v
theorem CM.cj {M : Mem} {b off : Nat} {v : Value} (h : CM M b off v) (L : Lc) : CJ M L b off v := by
  obtain ⟨c, e, fz, h1, h2⟩ := h; exact ⟨c, e, fz, .inl h1, h2⟩
theorem CM.mono {M M' : Mem} {b off : Nat} {v : Value} (h : CM M b off v) (hM : MLe M M') : CM M' b off v := by
  obtain ⟨c, e, fz, h1, h2⟩ := h; exact ⟨c, e, fz, hM _ _ h1, h2⟩
def SM (M : Mem) (a : Option Addr) (cs : List Value) : Prop := cs = [] ∨ ∃ b off, a = some ⟨b, off, none⟩ ∧ ∀ i u, cs[i]? = some u → CM M b (off + i) u
theorem SM.mono {M M' : Mem} {a : Option Addr} {cs : List Value} (h : SM M a cs) (hM : MLe M M') : SM M' a cs := by
  rcases h with h | ⟨b, off, h1, h2⟩
  · exact .inl h
  exact .inr ⟨b, off, h1, fun i u hu => (h2 i u hu).mono hM⟩
theorem SM.nil {M : Mem} {a : Option Addr} : SM M a [] := .inl rfl
theorem SM.sj {M : Mem} {a : Option Addr} {cs : List Value} (h : SM M a cs) (L : Lc) : SJ M L a cs := by
  rcases h with h | ⟨b, off, h1, h2⟩
  · exact .inl h
  exact .inr ⟨b, off, h1, fun i u hu => (h2 i u hu).cj L⟩
theorem SM.open {M : Mem} {a : Option Addr} {cs : List Value} (h : SM M a cs) (hne : cs ≠ []) : ∃ b off, a = some ⟨b, off, none⟩ ∧ ∀ i u, cs[i]? = some u → CM M b (off + i) u :=
  h.resolve_left hne
theorem SM.part {M : Mem} {a : Option Addr} {cs : List Value} (h : SM M a cs) {l m s : Nat} (hlm : l < m) (k : Nat) : SM M (slA a l m s) ((cs.drop (l * s)).take k) := by
  rcases h with rfl | ⟨b, off, rfl, h2⟩
  · left; simp
  right
  refine ⟨b, off + l * s, wBu hlm, fun i u hu => ?_⟩
  rw [List.getElem?_take] at hu
  split at hu
  · rw [List.getElem?_drop] at hu
    have := h2 _ _ hu
    rwa [← Nat.add_assoc] at this
  cases hu
class Rm (g : Nat) (ob : outParam Obj) (L : Lc) (L2 : outParam Lc) : Prop where
  perm : L.Perm ((g, ob) :: L2)
instance (priority := high) Rm.head {g : Nat} {ob : Obj} {L : Lc} : Rm g ob ((g, ob) :: L) L := ⟨List.Perm.refl _⟩
instance Rm.tail {g : Nat} {ob : Obj} {p : Nat × Obj} {L L2 : Lc} [h : Rm g ob L L2] : Rm g ob (p :: L) (p :: L2) := ⟨(List.Perm.cons p h.perm).trans (List.Perm.swap _ _ _)⟩
instance Rm.right {g : Nat} {ob : Obj} {R L L2 : Lc} [h : Rm g ob L L2] : Rm g ob (R ++ L) (R ++ L2) := ⟨(List.Perm.append_left R h.perm).trans List.perm_middle⟩
theorem flat_get {α : Type} (f : α → List Value) (s : Nat) (hf : ∀ x, (f x).length = s) : ∀ (l : List α) (i j : Nat), j < s → (l.flatMap f)[i * s + j]? = (l[i]?).bind fun x => (f x)[j]?
  | [], i, j, _ => by simp
  | x :: l, 0, j, hj => by
    simp only [List.flatMap_cons, Nat.zero_mul, Nat.zero_add, List.getElem?_cons_zero, Option.bind_some]
    rw [List.getElem?_append_left (by rw [hf]; exact hj)]
  | x :: l, i + 1, j, hj => by
    simp only [List.flatMap_cons, List.getElem?_cons_succ]
    rw [List.getElem?_append_right (by rw [hf, Nat.add_mul]; omega), hf]
    have : (i + 1) * s + j - s = i * s + j := by rw [Nat.add_mul]; omega
    rw [this]
    exact flat_get f s hf l i j hj
theorem wBm {α : Type} (f : α → List Value) (s : Nat) (hf : ∀ x, (f x).length = s) (l : List α) : (l.flatMap f).length = l.length * s := by
  induction l with
  | nil => simp
  | cons x l ih => simp [List.flatMap_cons, ih, hf, Nat.add_mul]; omega
theorem flat_cm {α : Type} (f : α → List Value) (s : Nat) (hf : ∀ x, (f x).length = s) {l : List α} {M : Mem} {b off k : Nat} {x : α} (hc : ∀ i u, (l.flatMap f)[i]? = some u → CM M b (off + i) u) (hk : l[k]? = some x) : ∀ i v, (f x)[i]? = some v → CM M b (off + k * s + i) v := fun i v hv => by
  have hi : i < s := by rw [← hf x]; exact (List.getElem?_eq_some_iff.1 hv).1
  have := hc (k * s + i) v (by rw [flat_get f s hf l k i hi, hk]; exact hv)
  rwa [← Nat.add_assoc] at this
section
variable {P : Program} {ops : Array Oper} {N : Fs} {F : Fr} {W : World} {X : List Nat} {M0 M : Mem} {L : Lc} {o : Oper} {Q : Exit → Act → World → Prop} {rest : List Oper}
theorem St.freeze' {g : Nat} {ob : Obj} (hg : g ∉ X) {w : World} (h : St ⟨W, X, M0⟩ M ((g, ob) :: L) w) : St ⟨W, X, M0⟩ (M.set g ob) L w ∧ MLe M (M.set g ob) ∧ (M.set g ob) g = some ob :=
  ⟨(h.freeze hg).1, (h.freeze hg).2, by simp [Mem.set]⟩
theorem jl_freeze {ob : Obj} {L2 : Lc} (g : Nat) [hp : Rm g ob L L2] (hg : g ∉ X) (h : ∀ M', MLe M M' → M' g = some ob → JL P ops N Q rest F ⟨W, X, M0⟩ M' L2) : JL P ops N Q rest F ⟨W, X, M0⟩ M L := by
  intro a w ha hw
  obtain ⟨h1, h2, h3⟩ := St.freeze' hg (hw.perm hp.perm)
  exact h _ h2 h3 a w ha h1
theorem jc_freeze {c : Code} {ob : Obj} {L2 : Lc} (g : Nat) [hp : Rm g ob L L2] (hg : g ∉ X) (h : ∀ M', MLe M M' → M' g = some ob → JC P N c F ⟨W, X, M0⟩ M' L2 Q) : JC P N c F ⟨W, X, M0⟩ M L Q := by
  intro a w ha hw
  obtain ⟨h1, h2, h3⟩ := St.freeze' hg (hw.perm hp.perm)
  exact h _ h2 h3 a w ha h1
theorem wCa {ex : Exit} {ob : Obj} {L2 : Lc} (g : Nat) [hp : Rm g ob L L2] (hg : g ∉ X) (h : ∀ M', MLe M M' → M' g = some ob → JQ N ex F ⟨W, X, M0⟩ M' L2 Q) : JQ N ex F ⟨W, X, M0⟩ M L Q := by
  intro a w ha hw
  obtain ⟨h1, h2, h3⟩ := St.freeze' hg (hw.perm hp.perm)
  exact h _ h2 h3 a w ha h1
theorem Own.freeze {v : Value} {R : Lc} {e : TypeId} {size n : Nat} {xs : List Value} (ho : Own v R e size n xs) (hg : ∀ p ∈ R, p.1 ∉ X) {w : World} (h : St ⟨W, X, M0⟩ M (R ++ L) w) : ∃ M' a cap, MLe M M' ∧ v = .slice a n cap ∧ n ≤ cap ∧ SM M' a xs ∧ St ⟨W, X, M0⟩ M' L w := by
  rcases ho.2 with ⟨rfl, rfl, rfl⟩ | ⟨g, cap, cur, rfl, rfl, h1, h2, h3, h4⟩
  · have : xs = [] := List.eq_nil_of_length_eq_zero (by simpa using ho.1)
    subst this
    exact ⟨M, none, 0, MLe.refl _, rfl, Nat.le_refl _, .inl rfl, h⟩
  obtain ⟨k1, k2, k3⟩ := St.freeze' (hg (g, .cells cur e (0, 0)) (by simp)) h
  refine ⟨_, _, cap, k2, rfl, h1, .inr ⟨g, 0, rfl, fun i u hu => ⟨cur, e, (0, 0), k3, ?_⟩⟩, k1⟩
  rw [← h4, List.getElem?_take] at hu
  split at hu
  · simpa using hu
  cases hu
theorem wDw {v : Value} {R L2 : Lc} {e : TypeId} {size n : Nat} {xs : List Value} (ho : Own v R e size n xs) [hp : Pick R L L2] (hg : ∀ p ∈ R, p.1 ∉ X)
    (h : ∀ M' a cap, MLe M M' → v = .slice a n cap → n ≤ cap → SM M' a xs → JL P ops N Q rest F ⟨W, X, M0⟩ M' L2) : JL P ops N Q rest F ⟨W, X, M0⟩ M L := by
  intro a w ha hw
  obtain ⟨M', ad, cap, k1, k2, k3, k4, k5⟩ := ho.freeze hg (hw.perm hp.perm)
  exact h M' ad cap k1 k2 k3 k4 a w ha k5
theorem jc_own {c : Code} {v : Value} {R L2 : Lc} {e : TypeId} {size n : Nat} {xs : List Value} (ho : Own v R e size n xs) [hp : Pick R L L2] (hg : ∀ p ∈ R, p.1 ∉ X)
    (h : ∀ M' a cap, MLe M M' → v = .slice a n cap → n ≤ cap → SM M' a xs → JC P N c F ⟨W, X, M0⟩ M' L2 Q) : JC P N c F ⟨W, X, M0⟩ M L Q := by
  intro a w ha hw
  obtain ⟨M', ad, cap, k1, k2, k3, k4, k5⟩ := ho.freeze hg (hw.perm hp.perm)
  exact h M' ad cap k1 k2 k3 k4 a w ha k5
theorem wGi {ex : Exit} {v : Value} {R L2 : Lc} {e : TypeId} {size n : Nat} {xs : List Value} (ho : Own v R e size n xs) [hp : Pick R L L2] (hg : ∀ p ∈ R, p.1 ∉ X)
    (h : ∀ M' a cap, MLe M M' → v = .slice a n cap → n ≤ cap → SM M' a xs → JQ N ex F ⟨W, X, M0⟩ M' L2 Q) : JQ N ex F ⟨W, X, M0⟩ M L Q := by
  intro a w ha hw
  obtain ⟨M', ad, cap, k1, k2, k3, k4, k5⟩ := ho.freeze hg (hw.perm hp.perm)
  exact h M' ad cap k1 k2 k3 k4 a w ha k5
theorem Own.form {v : Value} {R : Lc} {e : TypeId} {size n : Nat} {xs : List Value} (ho : Own v R e size n xs) : ∃ a cap, v = .slice a n cap := by
  rcases ho.2 with ⟨h, rfl, _⟩ | ⟨g, cap, cur, h, _⟩
  · exact ⟨none, 0, h⟩
  exact ⟨_, cap, h⟩
theorem Own.open {v : Value} {R : Lc} {e : TypeId} {size n : Nat} {xs : List Value} (ho : Own v R e size n xs) (hn : 0 < n) : ∃ g cap cur, v = .slice (some ⟨g, 0, none⟩) n cap ∧ R = [(g, .cells cur e (0, 0))] ∧ n ≤ cap ∧ cap ≤ maxLen ∧ cur.size = cap * size ∧ cur.toList.take (n * size) = xs := by
  rcases ho.2 with ⟨_, h, _⟩ | h
  · omega
  exact h
theorem Own.cj {g n cap : Nat} {R : Lc} {e : TypeId} {size : Nat} {xs : List Value} (ho : Own (.slice (some ⟨g, 0, none⟩) n cap) R e size n xs) (hR : ∀ p ∈ R, p ∈ L) {i : Nat} {u : Value} (hu : xs[i]? = some u) : CJ M L g i u := by
  rcases ho.2 with ⟨h, _, _⟩ | ⟨g', cap', cur, hv, rfl, h1, h2, h3, h4⟩
  · cases h
  cases hv
  refine ⟨cur, e, (0, 0), .inr (hR _ (by simp)), ?_⟩
  rw [← h4, List.getElem?_take] at hu
  split at hu
  · simpa using hu
  cases hu
theorem hStoreOwn {E : Ent} {t : TypeId} {x y : Operand} {u v : Value} {g k size n : Nat} {R L2 : Lc} {e : TypeId} {xs : List Value} {by_ : Nat} {z : List Value} (hg : gd ops F o = some true) (ho : o.op = .store t x y) (hx : ev F x = some (.pointer (some ⟨g, k, none⟩))) (hy : ev F y = some u)
    [hl : Lay P t 1 by_ z] (hc : u.cells = #[u]) (h1 : u.oneCell' = true) (hown : Own v R e size n xs) (hb : v.ownBlock = some g) (hk : k < n * size) [hp : Pick R L L2] :
    HF P ops N F E M L o (fun _ M' L' => M = M' ∧ ∃ R', L' = R' ++ L2 ∧ Own v R' e size n (xs.set k u)) := wKd hg fun a w ha hw => by
  obtain ⟨ti, zv, hi, hi2, _⟩ := hl.info
  have hw' := hw.perm hp.perm
  have hn : 0 < n := by rcases Nat.eq_zero_or_pos n with h | h; · subst h; simp at hk
                        exact h
  obtain ⟨g', cap, cur, rfl, rfl, k1, k2, k3, k4⟩ := hown.open hn
  have : g' = g := by simpa [Value.ownBlock] using hb
  subst this
  have hbk := (hw'.locs (g', .cells cur e (0, 0)) (by simp)).1
  have hkc : k < cur.size := by rw [k3]; exact Nat.lt_of_lt_of_le hk (Nat.mul_le_mul_right _ k1)
  have hst := run_storeCells_at P g' k e [u] 0 cur w hbk (by simp; omega) (by simp [h1])
  have hpa : PutAt g' (.cells cur e (0, 0)) (.cells (cur.toList.take (k + 0) ++ [u] ++ cur.toList.drop (k + 0 + [u].length)).toArray e (0, 0)) ([(g', Obj.cells cur e (0, 0))] ++ L2) ([(g', .cells (cur.toList.take (k + 0) ++ [u] ++ cur.toList.drop (k + 0 + [u].length)).toArray e (0, 0))] ++ L2) := ⟨[], L2, rfl, rfl⟩
  refine ⟨undef, _, M, _, .inr ⟨rfl, ?_⟩, hw'.put hpa, rfl, _, rfl, ?_⟩
  · simp only [execOp, ho, ha.ev hx, ha.ev hy, Instr.storeAt, Instr.sureAddr, storeVar, sizeOf, typeInfo, hi, hi2, hc, Sem.run_bind, run_program, Sem.run_pure, Result.andThen_ok]
    simp [hst]
  refine ⟨by rw [List.length_set]; exact hown.1, .inr ⟨g', cap, _, rfl, rfl, k1, k2, ?_, ?_⟩⟩
  · simp; omega
  have e1 : cur.toList.take (k + 0) ++ [u] ++ cur.toList.drop (k + 0 + [u].length) = cur.toList.set k u := by
    rw [List.set_eq_take_append_cons_drop, if_pos (by simpa using hkc)]; simp
  rw [e1, ← k4, ← List.take_set]
theorem SM.of_block {M : Mem} {b : Nat} {l : List Value} {e : TypeId} {fz : Nat × Nat} (h : M b = some (.cells l.toArray e fz)) : SM M (some ⟨b, 0, none⟩) l := .inr ⟨b, 0, rfl, fun i u hu => ⟨_, e, fz, h, by simpa using hu⟩⟩
theorem hStoreA {E : Ent} {t : TypeId} {x y : Operand} {b : Nat} {l cs : List Value} {e : TypeId} {L' : Lc} {sz by_ : Nat} {z : List Value} (hg : gd ops F o = some true) (ho : o.op = .store t x y) (hx : ev F x = some (.pointer (some ⟨b, 0, none⟩))) (hy : ev F y = some (.agg cs.toArray))
    [hl : Lay P t sz by_ z] (hn : cs.length = sz) (h1 : ∀ v ∈ cs, v.oneCell' = true) [at_ : At b (.cells l.toArray e (0, 0)) L] (hfit : l.length = sz) [hp : PutAt b (.cells l.toArray e (0, 0)) (.cells cs.toArray e (0, 0)) L L'] :
    HF P ops N F E M L o (fun _ M' L'' => M = M' ∧ L'' = L') := wKd hg fun a w ha hw => by
  obtain ⟨ti, v, hi, hi2, _⟩ := hl.info
  have hb := (hw.locs _ at_.mem).1
  refine ⟨undef, _, M, L', .inr ⟨rfl, ?_⟩, hw.put hp, rfl, rfl⟩
  have hst := run_storeCells_at P b 0 e cs 0 l.toArray w hb (by simp; omega) h1
  have hd : List.drop cs.length l = [] := List.drop_eq_nil_of_le (by omega)
  simp only [Nat.add_zero, List.take_zero, List.nil_append, Nat.zero_add, hd, List.append_nil] at hst
  simp [execOp, ho, ha.ev hx, ha.ev hy, Instr.storeAt, Instr.sureAddr, storeVar, sizeOf, typeInfo, hi, hi2, Value.cells, hn, hst]
theorem qNil {x y : Operand} {t t' e : TypeId} {a : Option Addr} {n c : Nat} (hg : gd ops F o = some true) (ho : o.op = .binOp .eql t x y t') (hx : ev F x = some (.slice a n c)) (hy : ev F y = some (.slice none 0 0)) [ht : Und P t (.slice e)] : QF P ops N F M L o (.bool a.isNone) := wDs hg fun ac ha w _ => by
  have := Lib.run_eql_slice_nil (P := P) w t e a n c 0 0 ht.h
  simp only [execOp, ho, ha.ev hx, ha.ev hy]
  simp [eqGuard, this]
end
class AllInt (P : Program) (t : TypeId) (ks : outParam (List IntKind)) : Prop where
  u : P.underlying t = some (.struct (P.fieldsOf t))
  f : (P.fieldsOf t).toList.map (fun f => (f.name != "_", f.offset, P.underlying f.type)) = ks.zipIdx.map fun (k, i) => (true, i, some (.int k))
  s : P.stoodInHeld t = false
  g : P.eqGuardType P.depth t = false
def wEr (ks : List IntKind) (ns : List Int) : List Value := List.zipWith Value.int ks ns
theorem wFa {P : Program} (d : Nat) (xs ys : Array Value) (w : World) : ∀ (fs : List Field) (ks : List IntKind) (i : Nat) (ns ms : List Int), ns.length = ks.length → ms.length = ks.length →
    fs.map (fun f => (f.name != "_", f.offset, P.underlying f.type)) = (ks.zipIdx i).map (fun (k, i) => (true, i, some (.int k))) →
    (∀ j v, (wEr ks ns)[j]? = some v → xs[i + j]? = some v) → (∀ j v, (wEr ks ms)[j]? = some v → ys[i + j]? = some v) →
    (Op.eqFields (d + 1) xs ys fs).run P w = .ok (decide (ns = ms)) w
  | [], ks, i, ns, ms, h1, h2, hf, _, _ => by
    have : ks = [] := by cases ks <;> simp at hf ⊢
    subst this
    have e1 : ns = [] := List.eq_nil_of_length_eq_zero h1
    have e2 : ms = [] := List.eq_nil_of_length_eq_zero h2
    subst e1 e2
    simp [Op.eqFields]
  | f :: fs, [], i, ns, ms, h1, h2, hf, _, _ => by simp at hf
  | f :: fs, k :: ks, i, [], ms, h1, h2, hf, _, _ => by simp at h1
  | f :: fs, k :: ks, i, ns, [], h1, h2, hf, _, _ => by simp at h2
  | f :: fs, k :: ks, i, n :: ns, m :: ms, h1, h2, hf, hx, hy => by
    simp only [List.map_cons, List.zipIdx_cons, List.cons.injEq, Prod.mk.injEq] at hf
    obtain ⟨⟨hn, ho, hu⟩, hrest⟩ := hf
    have x0 := hx 0 _ (by simp [wEr]; rfl)
    have y0 := hy 0 _ (by simp [wEr]; rfl)
    simp only [Nat.add_zero] at x0 y0
    have hp : ∀ (cs : Array Value) (v : Value), cs[i]? = some v → (part f.type cs f.offset).run P w = .ok v w := fun cs v hv => by
      simp [part, wEu hu, aggD, ho, hv]
    have hne : f.name ≠ "_" := by simpa using hn
    have ih := wFa d xs ys w fs ks (i + 1) ns ms (by simpa using h1) (by simpa using h2) hrest
      (fun j v hv => by have := hx (j + 1) v (by simpa [wEr] using hv); rwa [show i + (j + 1) = i + 1 + j by omega] at this)
      (fun j v hv => by have := hy (j + 1) v (by simpa [wEr] using hv); rwa [show i + (j + 1) = i + 1 + j by omega] at this)
    have hq : (Op.equalIn (d + 1) f.type (.int k n) (.int k m)).run P w = .ok (n == m) w := run_equalIn_int w d f.type k k n m hu
    unfold Op.eqFields
    simp only [hne, ne_eq, not_false_eq_true, if_true, Sem.run_bind, hp xs _ x0, hp ys _ y0, Result.andThen_ok, hq]
    by_cases e : n = m
    · subst e; simp [ih]
    simp [e]
section
variable {P : Program} {ops : Array Oper} {N : Fs} {F : Fr} {M : Mem} {L : Lc} {o : Oper}
theorem qEqI {x y : Operand} {t t' : TypeId} {ks : List IntKind} {ns ms : List Int} {xs ys : List Value} (hg : gd ops F o = some true) (ho : o.op = .binOp .eql t x y t') (hx : ev F x = some (.agg xs.toArray)) (hy : ev F y = some (.agg ys.toArray)) [h : AllInt P t ks]
    (h1 : xs = wEr ks ns) (h2 : ys = wEr ks ms) (h3 : ns.length = ks.length ∧ ms.length = ks.length) : QF P ops N F M L o (.bool (decide (ns = ms))) := wDs hg fun ac ha w _ => by
  have hr := wFa (P := P) 9998 xs.toArray ys.toArray w _ ks 0 ns ms h3.1 h3.2 h.f (fun j v hv => by simpa [h1] using hv) (fun j v hv => by simpa [h2] using hv)
  have e1 : (binOp .eql t (.agg xs.toArray) (.agg ys.toArray)).run P w = .ok (.bool (decide (ns = ms))) w := by
    rw [run_eql_struct w t, run_equalIn_struct w 9999 t _ _ h.u h.s, hr]; rfl
  simp only [execOp, ho, ha.ev hx, ha.ev hy]
  simp only [Sem.run_bind, run_eqGuard_agg w _ t x y _ _ h.g, Result.andThen_ok, e1, Sem.run_pure]
theorem qNeI {x y : Operand} {t t' : TypeId} {ks : List IntKind} {ns ms : List Int} {xs ys : List Value} (hg : gd ops F o = some true) (ho : o.op = .binOp .neq t x y t') (hx : ev F x = some (.agg xs.toArray)) (hy : ev F y = some (.agg ys.toArray)) [h : AllInt P t ks]
    (h1 : xs = wEr ks ns) (h2 : ys = wEr ks ms) (h3 : ns.length = ks.length ∧ ms.length = ks.length) : QF P ops N F M L o (.bool (decide (¬ ns = ms))) := wDs hg fun ac ha w _ => by
  have hr := wFa (P := P) 9998 xs.toArray ys.toArray w _ ks 0 ns ms h3.1 h3.2 h.f (fun j v hv => by simpa [h1] using hv) (fun j v hv => by simpa [h2] using hv)
  have e1 : (binOp .neq t (.agg xs.toArray) (.agg ys.toArray)).run P w = .ok (.bool (decide (¬ ns = ms))) w := by
    rw [run_neq_struct w t, run_equalIn_struct w 9999 t _ _ h.u h.s, hr]; simp
  simp only [execOp, ho, ha.ev hx, ha.ev hy]
  simp only [Sem.run_bind, run_eqGuard_agg w _ t x y _ _ h.g, Result.andThen_ok, e1, Sem.run_pure]
end
end Go.Proofs.YtbhkdjheooknfaaGreat
