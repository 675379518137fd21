/- THE WALKING LAYER, one part more: a block that is new since the entry may be written again. No statement of the seat is proved here. -/
import Derived.Test.YtkjghgndmpbfiaaGreatZHf
import Derived.Test.YtkjghgndmpbfiaaGreatZHk
namespace Go.Proofs.YtkjghgndmpbfiaaGreat
set_option linter.unusedVariables false
set_option linter.unusedSectionVars false
set_option linter.unusedSimpArgs false
open Go.RowKit

/-! ### what is new -/
/-- a block of cells, none of them bound -/
def plain : Obj → Bool
 | .cells _ _ fz => decide (fz = (0, 0))
 | _ => false
/-- the plain blocks that are new -/
def newOf (M M' : Mem) : Mem := fun b => match M b with | none => (match M' b with | some o => if plain o = true then some o else none | none => none) | some _ => none
theorem newOf_iff {M M' : Mem} {b : Nat} {o : Obj} : newOf M M' b = some o ↔ M b = none ∧ M' b = some o ∧ plain o = true := by
 unfold newOf
 cases h1 : M b with
 | some x => simp
 | none =>
  cases h2 : M' b with
  | none => simp
  | some x =>
   by_cases hp : plain x = true
   ·simp only [if_pos hp]; exact ⟨fun h => by cases h; exact ⟨trivial, rfl, hp⟩, fun h => h.2.1⟩
   ·simp only [if_neg hp]; exact ⟨fun h => (by cases h), fun h => absurd (by have := h.2.1; cases this; exact h.2.2) hp⟩
theorem newOf_le (M M' : Mem) : MLe (newOf M M') M' := fun b o h => (newOf_iff.1 h).2.1
theorem newOf_mono {M M1 M2 : Mem} (h : MLe M1 M2) : MLe (newOf M M1) (newOf M M2) := fun b o hb => by
 obtain ⟨h1, h2, h3⟩ := newOf_iff.1 hb
 exact newOf_iff.2 ⟨h1, h b o h2, h3⟩
theorem newOf_anti {M0 M M' : Mem} (h : MLe M0 M) : MLe (newOf M M') (newOf M0 M') := fun b o hb => by
 obtain ⟨h1, h2, h3⟩ := newOf_iff.1 hb
 refine newOf_iff.2 ⟨?_, h2, h3⟩
 cases h0 : M0 b with
 | none => rfl
 | some x => rw [h b x h0] at h1; cases h1
theorem newOf_both {M0 M M1 M2 : Mem} (h : MLe M0 M) (k : MLe M1 M2) : MLe (newOf M M1) (newOf M0 M2) := (newOf_anti h).trans (newOf_mono k)

section
variable {P : Program} {ops : Array Oper} {N : Fs} {F : Fr} {W : World} {X : List Nat} {M0 M : Mem} {L : Lc} {o : Oper} {Q : Exit → Act → World → Prop} {rest : List Oper}
theorem Own.freezeN {v : Value} {R : Lc} {e : TypeId} {size n : Nat} {xs : List Value} (ho : Own v R e size n xs) (hg : ∀ p ∈ R, p.1 ∉ X) {w : World} (h : St ⟨W, X, M0⟩ M (R ++ L) w) : ∃ M' a cap, MLe M M' ∧ v = .slice a n cap ∧ n ≤ cap ∧ SM (newOf M M') a xs ∧ St ⟨W, X, M0⟩ M' L w := by
 rcases ho.2 with ⟨rfl, rfl, rfl⟩ | ⟨g, cap, cur, rfl, rfl, h1, h2, h3, h4⟩
 ·have : xs = [] := List.eq_nil_of_length_eq_zero (by simpa using ho.1)
  subst this
  exact ⟨M, none, 0, MLe.refl _, rfl, Nat.le_refl _, .inl rfl, h⟩
 ·have hn : M g = none := (h.locs (g, .cells cur e (0, 0)) (by simp)).2.2
  obtain ⟨k1, k2, k3⟩ := St.freeze' (hg (g, .cells cur e (0, 0)) (by simp)) h
  refine ⟨_, _, cap, k2, rfl, h1, .inr ⟨g, 0, rfl, fun i u hu => ⟨cur, e, (0, 0), ?_, ?_⟩⟩, k1⟩
  ·exact newOf_iff.2 ⟨hn, k3, rfl⟩
  ·rw [← h4, List.getElem?_take] at hu
   split at hu
   ·simpa using hu
   ·cases hu
theorem jl_ownN {v : Value} {R L2 : Lc} {e : TypeId} {size n : Nat} {xs : List Value} (ho : Own v R e size n xs) [hp : Pick R L L2] (hg : ∀ p ∈ R, p.1 ∉ X)
  (h : ∀ M' a cap, MLe M M' → v = .slice a n cap → n ≤ cap → SM (newOf M M') a xs → JL P ops N Q rest F ⟨W, X, M0⟩ M' L2) : JL P ops N Q rest F ⟨W, X, M0⟩ M L := by
 intro a w ha hw
 obtain ⟨M', ad, cap, k1, k2, k3, k4, k5⟩ := ho.freezeN hg (hw.perm hp.perm)
 exact h M' ad cap k1 k2 k3 k4 a w ha k5
theorem jc_ownN {c : Code} {v : Value} {R L2 : Lc} {e : TypeId} {size n : Nat} {xs : List Value} (ho : Own v R e size n xs) [hp : Pick R L L2] (hg : ∀ p ∈ R, p.1 ∉ X)
  (h : ∀ M' a cap, MLe M M' → v = .slice a n cap → n ≤ cap → SM (newOf M M') a xs → JC P N c F ⟨W, X, M0⟩ M' L2 Q) : JC P N c F ⟨W, X, M0⟩ M L Q := by
 intro a w ha hw
 obtain ⟨M', ad, cap, k1, k2, k3, k4, k5⟩ := ho.freezeN hg (hw.perm hp.perm)
 exact h M' ad cap k1 k2 k3 k4 a w ha k5
theorem jq_ownN {ex : Exit} {v : Value} {R L2 : Lc} {e : TypeId} {size n : Nat} {xs : List Value} (ho : Own v R e size n xs) [hp : Pick R L L2] (hg : ∀ p ∈ R, p.1 ∉ X)
  (h : ∀ M' a cap, MLe M M' → v = .slice a n cap → n ≤ cap → SM (newOf M M') a xs → JQ N ex F ⟨W, X, M0⟩ M' L2 Q) : JQ N ex F ⟨W, X, M0⟩ M L Q := by
 intro a w ha hw
 obtain ⟨M', ad, cap, k1, k2, k3, k4, k5⟩ := ho.freezeN hg (hw.perm hp.perm)
 exact h M' ad cap k1 k2 k3 k4 a w ha k5
end

/-! ### lent -/
/-- memory with blocks of one's own -/
def addL (M : Mem) : Lc → Mem
 | [] => M
 | p :: R => (addL M R).set p.1 p.2
theorem addL_off {M : Mem} {b : Nat} : ∀ {R : Lc}, b ∉ R.map (·.1) → addL M R b = M b
 | [], _ => rfl
 | p :: R, h => by
  rw [List.map_cons, List.mem_cons, not_or] at h
  show (if b = p.1 then some p.2 else addL M R b) = _
  rw [if_neg h.1]; exact addL_off h.2
theorem addL_on {M : Mem} {p : Nat × Obj} : ∀ {R : Lc}, (R.map (·.1)).Nodup → p ∈ R → addL M R p.1 = some p.2
 | q :: R, hn, h => by
  rw [List.map_cons, List.nodup_cons] at hn
  show (if p.1 = q.1 then some q.2 else addL M R p.1) = _
  rcases List.mem_cons.1 h with rfl | h
  ·rw [if_pos rfl]
  ·have : p.1 ≠ q.1 := fun e => hn.1 (by rw [← e]; exact List.mem_map.2 ⟨p, h, rfl⟩)
   rw [if_neg this]; exact addL_on hn.2 h
theorem addL_le {M : Mem} {R : Lc} (h : ∀ p ∈ R, M p.1 = none) : MLe M (addL M R) := fun b o hb => by
 have : b ∉ R.map (·.1) := fun hm => by
  obtain ⟨p, hp, rfl⟩ := List.mem_map.1 hm
  rw [h p hp] at hb; cases hb
 rw [addL_off this]; exact hb
/-- .. and given back -/
def subL (M : Mem) (R : Lc) : Mem := fun b => if b ∈ R.map (·.1) then none else M b
theorem subL_le (M : Mem) (R : Lc) : MLe (subL M R) M := fun b o h => by
 unfold subL at h; split at h
 ·cases h
 ·exact h
theorem newOf_sub {M M1 : Mem} {R : Lc} (hn : (R.map (·.1)).Nodup) : MLe (newOf (addL M R) M1) (subL M1 R) := fun b o h => by
 have hb : b ∉ R.map (·.1) := fun hm => by
  obtain ⟨p, hp, rfl⟩ := List.mem_map.1 hm
  have h2 := (newOf_iff.1 h).1
  rw [addL_on hn hp] at h2; cases h2
 unfold subL; rw [if_neg hb]; exact newOf_le _ _ _ _ h
theorem St.lend {W : World} {X : List Nat} {M0 M : Mem} {R L : Lc} {w : World} (h : St ⟨W, X, M0⟩ M (R ++ L) w) : (R.map (·.1)).Nodup ∧ ∀ p ∈ R, M p.1 = none := by
 refine ⟨?_, fun p hp => (h.locs p (List.mem_append_left _ hp)).2.2⟩
 have := h.nodup
 rw [List.map_append] at this
 exact (List.nodup_append.1 this).1
/-- A call that only reads blocks of one's own. -/
theorem SpecL.lend {P : Program} {f : FuncId} {args : Array Value} {M : Mem} {R L : Lc} {post : Value → Mem → Lc → Prop} (h : (R.map (·.1)).Nodup → (∀ p ∈ R, M p.1 = none) → SpecL P f args (addL M R) L post) :
  SpecL P f args M (R ++ L) fun v M' L' => ∃ M1 L1, post v M1 L1 ∧ L' = R ++ L1 ∧ M' = subL M1 R ∧ (R.map (·.1)).Nodup := by
 intro w hw
 obtain ⟨hn, hR⟩ := hw.lend
 have hle := addL_le hR
 have hnd := hw.nodup
 rw [List.map_append] at hnd
 have hdis : ∀ p ∈ L, p.1 ∉ R.map (·.1) := fun p hp hm => (List.nodup_append.1 hnd).2.2 _ hm _ (List.mem_map_of_mem hp) rfl
 have hw1 : St ⟨w, L.map (·.1), addL M R⟩ (addL M R) L w := by
  refine { os := rfl, tape := rfl, output := rfl, size := Nat.le_refl _, same := fun _ _ _ => rfl, fresh := fun _ _ => rfl, agree := fun b o hb => ?_, locs := fun p hp => ?_, nodup := (List.nodup_append.1 hnd).2.1 }
  ·by_cases hm : b ∈ R.map (·.1)
   ·obtain ⟨p, hp, rfl⟩ := List.mem_map.1 hm
    rw [addL_on hn hp] at hb; cases hb
    exact (hw.locs p (List.mem_append_left _ hp)).1
   ·rw [addL_off hm] at hb; exact hw.agree b o hb
  ·obtain ⟨a1, a2, a3⟩ := hw.locs p (List.mem_append_right _ hp)
   exact ⟨a1, .inr (List.mem_map_of_mem hp), by rw [addL_off (hdis p hp)]; exact a3⟩
 refine (h hn hR w hw1).mono ?_
 rintro e w' ⟨v, M1, L1, rfl, hpost, hs⟩
 refine ⟨v, subL M1 R, R ++ L1, rfl, ⟨M1, L1, hpost, rfl, rfl, hn⟩, ?_⟩
 have hlt : ∀ p ∈ R, p.1 < w.heap.size := fun p hp => heap_lt (hw.locs p (List.mem_append_left _ hp)).1
 have hon : ∀ p ∈ R, M1 p.1 = some p.2 := fun p hp => (hs.fresh p.1 (hlt p hp)).trans (addL_on hn hp)
 refine { os := hs.os, tape := hs.tape, output := hs.output, size := hs.size, same := fun k hk hx => ?_, fresh := fun k hk => ?_, agree := fun b o hb => hs.agree b o (subL_le _ _ b o hb), locs := fun p hp => ?_, nodup := ?_ }
 ·refine hs.same k hk fun hm => hx ?_
  show k ∈ (R ++ L).map (·.1)
  rw [List.map_append]; exact List.mem_append_right _ hm
 ·by_cases hm : k ∈ R.map (·.1)
  ·obtain ⟨p, hp, rfl⟩ := List.mem_map.1 hm
   have h1 : M p.1 = none := hR p hp
   show subL M1 R p.1 = M p.1
   unfold subL; rw [if_pos hm, h1]
  ·show subL M1 R k = M k
   unfold subL; rw [if_neg hm, ← addL_off (M := M) hm]; exact hs.fresh k hk
 ·rcases List.mem_append.1 hp with hp | hp
  ·refine ⟨hs.agree _ _ (hon p hp), .inr ?_, ?_⟩
   ·show p.1 ∈ (R ++ L).map (·.1)
    rw [List.map_append]; exact List.mem_append_left _ (List.mem_map_of_mem hp)
   ·unfold subL; rw [if_pos (List.mem_map_of_mem hp)]
  ·obtain ⟨a1, a2, a3⟩ := hs.locs p hp
   refine ⟨a1, a2.imp id fun a2 => ?_, ?_⟩
   ·show p.1 ∈ (R ++ L).map (·.1)
    rw [List.map_append]; exact List.mem_append_right _ a2
   ·unfold subL; split
    ·rfl
    ·exact a3
 ·rw [List.map_append, List.nodup_append]
  refine ⟨hn, hs.nodup, fun x hx y hy e => ?_⟩
  subst e
  obtain ⟨p, hp, rfl⟩ := List.mem_map.1 hx
  obtain ⟨q, hq, e⟩ := List.mem_map.1 hy
  have h1 := (hs.locs q hq).2.2
  rw [e, hon p hp] at h1; cases h1
theorem Own.lent {v : Value} {R : Lc} {e : TypeId} {size n : Nat} {xs : List Value} {M : Mem} (ho : Own v R e size n xs) (h : ∀ p ∈ R, M p.1 = some p.2) : ∃ a cap, v = .slice a n cap ∧ n ≤ cap ∧ SM M a xs := by
 rcases ho.2 with ⟨rfl, rfl, rfl⟩ | ⟨g, cap, cur, rfl, rfl, h1, h2, h3, h4⟩
 ·have : xs = [] := List.eq_nil_of_length_eq_zero (by simpa using ho.1)
  exact ⟨none, 0, rfl, Nat.le_refl _, .inl this⟩
 ·refine ⟨_, cap, rfl, h1, .inr ⟨g, 0, rfl, fun i u hu => ⟨cur, e, (0, 0), h (g, .cells cur e (0, 0)) (by simp), ?_⟩⟩⟩
  rw [← h4, List.getElem?_take] at hu
  split at hu
  ·simpa using hu
  ·cases hu
end Go.Proofs.YtkjghgndmpbfiaaGreat
namespace Go.Proofs.YtkjghgndmpbfiaaGreat
set_option linter.unusedVariables false
set_option linter.unusedSimpArgs false
open Go.RowKit

section
variable {P : Program} {Q : Exit → Act → World → Prop}
/-- one more round, from a smaller measure, with other marks -/
def AgainD {α : Type} (n : Nat) (r : Option Nat) (E : Ent) (Di : α → List Nat) (Fi : α → Fr) (Mi : α → Mem) (Li : α → Lc) (φ : α → Prop) (μ : α → Nat) (x : α) (a : Act) (w : World) : Prop :=
 ∃ y, φ y ∧ μ y < μ x ∧ Has ⟨n, Di y, r⟩ (Fi y) a ∧ St E (Mi y) (Li y) w
theorem jc_loopD {α : Type} {n : Nat} {r : Option Nat} {E : Ent} {c : Code} (Di : α → List Nat) (Fi : α → Fr) (Mi : α → Mem) (Li : α → Lc) (φ : α → Prop) (μ : α → Nat)
  (h : ∀ x, φ x → JC P ⟨n, Di x, r⟩ c (Fi x) E (Mi x) (Li x) (Exit.then (AgainD n r E Di Fi Mi Li φ μ x) Q)) (x : α) (hx : φ x) : JC P ⟨n, Di x, r⟩ (.loop c) (Fi x) E (Mi x) (Li x) Q := by
 classical
 intro a w ha hw
 let I : Act → World → Nat → Prop := fun a w m => ∃ x, φ x ∧ Has ⟨n, Di x, r⟩ (Fi x) a ∧ St E (Mi x) (Li x) w ∧ μ x = m
 let m : Act → World → Nat := fun a w => if h : ∃ n, I a w n then Classical.choose (least h) else 0
 have hm : ∀ a w n, I a w n → m a w ≤ n := fun a w n hi => by
  have he : ∃ n, I a w n := ⟨n, hi⟩
  simp only [m, dif_pos he]; exact (Classical.choose_spec (least he)).2 _ hi
 refine wpIn_loop (fun a w => ∃ n, I a w n) m ⟨_, x, hx, ha, hw, rfl⟩ fun a w he => ?_
 have hmin : I a w (m a w) := by simp only [m, dif_pos he]; exact (Classical.choose_spec (least he)).1
 obtain ⟨y, hy, hya, hyw, hyn⟩ := hmin
 refine wpIn_mono (h y hy a w hya hyw) fun e a' w' hq => ?_
 cases e with
 | normal =>
  obtain ⟨z, hz, hlt, hza, hzw⟩ := hq
  have h1 : I a' w' (μ z) := ⟨z, hz, hza, hzw, rfl⟩
  exact ⟨⟨_, h1⟩, by have := hm a' w' _ h1; omega⟩
 | exit id => exact hq
 | goto l => exact hq
 | ret => exact hq
 | panic ch => exact hq
 | outgrown => exact hq
theorem jc_loopDK {α : Type} {n : Nat} {D : List Nat} {r : Option Nat} {E : Ent} {c : Code} {F : Fr} {M : Mem} {L : Lc} (Di : α → List Nat) (Fi : α → Fr) (Mi : α → Mem) (Li : α → Lc) (φ : α → Prop) (μ : α → Nat) (x : α) (hD : D = Di x) (hk : Keep F (Fi x)) (hx : φ x) (hs : ∀ w, St E M L w → St E (Mi x) (Li x) w)
  (h : ∀ x, φ x → JC P ⟨n, Di x, r⟩ c (Fi x) E (Mi x) (Li x) (Exit.then (AgainD n r E Di Fi Mi Li φ μ x) Q)) : JC P ⟨n, D, r⟩ (.loop c) F E M L Q := fun a w ha hw =>
 jc_loopD Di Fi Mi Li φ μ h x hx a w (by rw [← hD]; exact ha.keep hk) (hs w hw)
theorem j_againD {α : Type} {n : Nat} {D : List Nat} {r : Option Nat} {E : Ent} {F : Fr} {M : Mem} {L : Lc} {Di : α → List Nat} {Fi : α → Fr} {Mi : α → Mem} {Li : α → Lc} {φ : α → Prop} {μ : α → Nat} {x : α} (y : α) (hD : D = Di y) (hk : Keep F (Fi y)) (hφ : φ y) (hμ : μ y < μ x)
  (hs : ∀ w, St E M L w → St E (Mi y) (Li y) w) : JQ ⟨n, D, r⟩ .normal F E M L (Exit.then (AgainD n r E Di Fi Mi Li φ μ x) Q) := fun _ w ha hw => ⟨y, hφ, hμ, by rw [← hD]; exact ha.keep hk, hs w hw⟩
end
/-- the blocks of the marks -/
def mks (D : List Nat) : Lc := D.map fun d => (d, .deferred (some []))
/-- at a return: all marks -/
theorem jr_marks {P : Program} {fn : Func} {n : Nat} {F : Fr} {E : Ent} {M : Mem} {post : Value → Mem → Lc → Prop} {L2 : Lc} : ∀ {D : List Nat} {L : Lc}, L.Perm (mks D ++ L2) → JQ ⟨n, [], none⟩ .ret F E M L2 (retPost P fn E post) → JQ ⟨n, D, none⟩ .ret F E M L (retPost P fn E post)
 | [], L, hp, h => jq_weak (fun w hw => hw.perm hp) h
 | d :: D, L, hp, h => jr_mark (L2 := mks D ++ L2) hp (jr_marks (List.Perm.refl _) h)
theorem jr_marksS {P : Program} {fn : Func} {n : Nat} {F : Fr} {E : Ent} {M : Mem} {post : Value → Mem → Lc → Prop} {L2 : Lc} {D : List Nat} {L : Lc} (hs : ∀ w, St E M L w → St E M (mks D ++ L2) w) (h : JQ ⟨n, [], none⟩ .ret F E M L2 (retPost P fn E post)) : JQ ⟨n, D, none⟩ .ret F E M L (retPost P fn E post) :=
 jq_weak hs (jr_marks (List.Perm.refl _) h)
/-! ### lists that are the same but for their order -/
theorem permC {α : Type} {A B : List α} (h : ∀ f : α → Nat, (A.map f).sum = (B.map f).sum) : A.Perm B := by
 classical
 have e : ∀ (a : α) (l : List α), (l.map fun x => if x = a then 1 else 0).sum = l.count a := fun a l => by
  induction l with
  | nil => rfl
  | cons x l ih =>
   rw [List.map_cons, List.sum_cons, ih, List.count_cons, Nat.add_comm]
   congr 1
   by_cases hx : x = a <;> simp [hx]
 exact List.perm_iff_count.2 fun a => by rw [← e a A, ← e a B]; exact h _
theorem St.dropAt {E : Ent} {M : Mem} {A B : Lc} {p : Nat × Obj} {w : World} (h : St E M (A ++ (p :: B)) w) : St E M (A ++ B) w := h.fewer (List.Sublist.append_left (List.sublist_cons_self _ _) _)
theorem St.tl {E : Ent} {M : Mem} {B : Lc} {p : Nat × Obj} {w : World} (h : St E M (p :: B) w) : St E M B w := h.fewer (List.sublist_cons_self _ _)
theorem Own.pop {g m cap size : Nat} {R : Lc} {e : TypeId} {A B : List Value} (h : Own (.slice (some ⟨g, 0, none⟩) (m + 1) cap) R e size (m + 1) (A ++ B)) (hA : A.length = m * size) : Own (.slice (some ⟨g, 0, none⟩) m cap) R e size m A := by
 obtain ⟨g', c, cur, e1, rfl, h1, h2, h3, h4⟩ := h.open (by omega)
 cases e1
 refine ⟨hA, .inr ⟨g, cap, cur, rfl, rfl, by omega, h2, h3, ?_⟩⟩
 have : cur.toList.take (m * size) = (cur.toList.take ((m + 1) * size)).take (m * size) := by
  rw [List.take_take]; congr 1; rw [Nat.min_eq_left]; exact Nat.mul_le_mul_right _ (by omega)
 rw [this, h4, ← hA, List.take_left]
section
variable {P : Program} {N : Fs} {F : Fr} {W : World} {X : List Nat} {M0 M : Mem} {L : Lc} {Q : Exit → Act → World → Prop}
theorem jq_freezeX {ex : Exit} {ob : Obj} {L2 : Lc} (g : Nat) [hp : Rm g ob L L2] (hg : ∀ x ∈ X, x ∈ L2.map (·.1)) (h : ∀ M', MLe M M' → M' g = some ob → JQ N ex F ⟨W, X, M0⟩ M' L2 Q) : JQ N ex F ⟨W, X, M0⟩ M L Q := by
 intro a w ha hw
 have hw' := hw.perm hp.perm
 have hn : g ∉ X := fun hx => (List.nodup_cons.1 hw'.nodup).1 (hg g hx)
 obtain ⟨h1, h2, h3⟩ := St.freeze' hn hw'
 exact h _ h2 h3 a w ha h1
theorem jc_freezeX {c : Code} {ob : Obj} {L2 : Lc} (g : Nat) [hp : Rm g ob L L2] (hg : ∀ x ∈ X, x ∈ L2.map (·.1)) (h : ∀ M', MLe M M' → M' g = some ob → JC P N c F ⟨W, X, M0⟩ M' L2 Q) : JC P N c F ⟨W, X, M0⟩ M L Q := by
 intro a w ha hw
 have hw' := hw.perm hp.perm
 have hn : g ∉ X := fun hx => (List.nodup_cons.1 hw'.nodup).1 (hg g hx)
 obtain ⟨h1, h2, h3⟩ := St.freeze' hn hw'
 exact h _ h2 h3 a w ha h1
end
/-- what is new is none of the caller's -/
theorem not_in {W : World} {X : List Nat} {R : Lc} (hX : ∀ x ∈ X, x < W.heap.size) (h : ∀ p ∈ R, W.heap.size ≤ p.1) : ∀ p ∈ R, p.1 ∉ X := fun p hp hx => by
 have := hX _ hx; have := h p hp; omega
/-! ### rows frozen where the caller's blocks are still there -/
section
variable {P : Program} {ops : Array Oper} {N : Fs} {F : Fr} {W : World} {X : List Nat} {M0 M : Mem} {L : Lc} {Q : Exit → Act → World → Prop} {rest : List Oper}
theorem Own.freezeY {v : Value} {R L2 : Lc} {e : TypeId} {size n : Nat} {xs : List Value} (ho : Own v R e size n xs) (hg : ∀ x ∈ X, x ∈ L2.map (·.1)) {w : World} (hw' : St ⟨W, X, M0⟩ M (R ++ L2) w) : ∃ M' a cap, MLe M M' ∧ v = .slice a n cap ∧ n ≤ cap ∧ SM (newOf M M') a xs ∧ St ⟨W, X, M0⟩ M' L2 w := by
 have hn := hw'.nodup
 rw [List.map_append] at hn
 have hd := (List.nodup_append.1 hn).2.2
 exact ho.freezeN (fun p hpR hpX => hd _ (List.mem_map_of_mem hpR) _ (hg _ hpX) rfl) hw'
theorem jl_ownY {v : Value} {R L2 : Lc} {e : TypeId} {size n : Nat} {xs : List Value} (ho : Own v R e size n xs) [hp : Pick R L L2] (hg : ∀ x ∈ X, x ∈ L2.map (·.1))
  (h : ∀ M' a cap, MLe M M' → v = .slice a n cap → n ≤ cap → SM (newOf M M') a xs → JL P ops N Q rest F ⟨W, X, M0⟩ M' L2) : JL P ops N Q rest F ⟨W, X, M0⟩ M L := by
 intro a w ha hw
 obtain ⟨M', ad, cap, k1, k2, k3, k4, k5⟩ := ho.freezeY hg (hw.perm hp.perm)
 exact h M' ad cap k1 k2 k3 k4 a w ha k5
theorem jc_ownY {c : Code} {v : Value} {R L2 : Lc} {e : TypeId} {size n : Nat} {xs : List Value} (ho : Own v R e size n xs) [hp : Pick R L L2] (hg : ∀ x ∈ X, x ∈ L2.map (·.1))
  (h : ∀ M' a cap, MLe M M' → v = .slice a n cap → n ≤ cap → SM (newOf M M') a xs → JC P N c F ⟨W, X, M0⟩ M' L2 Q) : JC P N c F ⟨W, X, M0⟩ M L Q := by
 intro a w ha hw
 obtain ⟨M', ad, cap, k1, k2, k3, k4, k5⟩ := ho.freezeY hg (hw.perm hp.perm)
 exact h M' ad cap k1 k2 k3 k4 a w ha k5
theorem jq_ownY {ex : Exit} {v : Value} {R L2 : Lc} {e : TypeId} {size n : Nat} {xs : List Value} (ho : Own v R e size n xs) [hp : Pick R L L2] (hg : ∀ x ∈ X, x ∈ L2.map (·.1))
  (h : ∀ M' a cap, MLe M M' → v = .slice a n cap → n ≤ cap → SM (newOf M M') a xs → JQ N ex F ⟨W, X, M0⟩ M' L2 Q) : JQ N ex F ⟨W, X, M0⟩ M L Q := by
 intro a w ha hw
 obtain ⟨M', ad, cap, k1, k2, k3, k4, k5⟩ := ho.freezeY hg (hw.perm hp.perm)
 exact h M' ad cap k1 k2 k3 k4 a w ha k5
end
end Go.Proofs.YtkjghgndmpbfiaaGreat
namespace Go.Proofs.YtkjghgndmpbfiaaGreat
set_option linter.unusedVariables false
set_option linter.unusedSimpArgs false
open Go.RowKit

def Mem.del (M : Mem) (g : Nat) : Mem := fun k => if k = g then none else M k
theorem Mem.del_other {M : Mem} {g k : Nat} (h : k ≠ g) : (M.del g) k = M k := by unfold Mem.del; rw [if_neg h]
theorem Mem.del_self {M : Mem} {g : Nat} : (M.del g) g = none := by unfold Mem.del; rw [if_pos rfl]
theorem St.thaw {W : World} {X : List Nat} {M0 M : Mem} {L : Lc} {w : World} {g : Nat} {ob : Obj} (hm : M g = some ob) (h0 : M0 g = none) (h : St ⟨W, X, M0⟩ M L w) : St ⟨W, X, M0⟩ (M.del g) ((g, ob) :: L) w := by
 have hg : W.heap.size ≤ g := Nat.le_of_not_lt fun hl => by
  have e : M g = M0 g := h.fresh g hl
  rw [hm, h0] at e; cases e
 refine { h with fresh := fun k hk => ?_, agree := fun b o hb => ?_, locs := fun p hp => ?_, nodup := ?_ }
 ·have hk' : k < W.heap.size := hk
  rw [Mem.del_other (by omega)]; exact h.fresh k hk
 ·by_cases e : b = g
  ·subst e; rw [Mem.del_self] at hb; cases hb
  ·rw [Mem.del_other e] at hb; exact h.agree b o hb
 ·rcases List.mem_cons.1 hp with rfl | hp
  ·exact ⟨h.agree _ _ hm, .inl hg, Mem.del_self⟩
  ·obtain ⟨h1, h2, h3⟩ := h.locs p hp
   refine ⟨h1, h2, ?_⟩
   by_cases e : p.1 = g
   ·rw [e]; exact Mem.del_self
   ·rw [Mem.del_other e]; exact h3
 ·rw [List.map_cons, List.nodup_cons]
  refine ⟨fun hmem => ?_, h.nodup⟩
  obtain ⟨p, hp, e⟩ := List.mem_map.1 hmem
  have := (h.locs p hp).2.2
  rw [show p.1 = g from e, hm] at this; cases this
section
variable {P : Program} {ops : Array Oper} {N : Fs} {F : Fr} {W : World} {X : List Nat} {M0 M : Mem} {L : Lc} {Q : Exit → Act → World → Prop} {rest : List Oper}
/-- a block that is new since the entry, written again -/
theorem jl_thaw {g : Nat} {ob : Obj} (hm : M g = some ob) (h0 : M0 g = none) (h : JL P ops N Q rest F ⟨W, X, M0⟩ (M.del g) ((g, ob) :: L)) : JL P ops N Q rest F ⟨W, X, M0⟩ M L := fun a w ha hw => h a w ha (hw.thaw hm h0)
theorem jc_thaw {c : Code} {g : Nat} {ob : Obj} (hm : M g = some ob) (h0 : M0 g = none) (h : JC P N c F ⟨W, X, M0⟩ (M.del g) ((g, ob) :: L) Q) : JC P N c F ⟨W, X, M0⟩ M L Q := fun a w ha hw => h a w ha (hw.thaw hm h0)
end
end Go.Proofs.YtkjghgndmpbfiaaGreat
