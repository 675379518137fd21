/- THE WALKING LAYER, one part more: a block that is new since the entry may be written again. No statement of the seat is proved here. -/
import Derived.Test.YtokljhkplbkggaaGreatDoorZHf
import Derived.Test.YtokljhkplbkggaaGreatDoorZHk
namespace Go.Proofs.YtokljhkplbkggaaGreatDoor
set_option linter.unusedSimpArgs false
set_option linter.unusedVariables false
set_option linter.unusedSectionVars false
open Go.RowKit
def newOf (M M' : Mem) : Mem := fun b => match M b with | none => M' b | some _ => none
theorem newOf_none {M M' : Mem} {b : Nat} (h : M b = none) : newOf M M' b = M' b := by unfold newOf; rw [h]
theorem newOf_le (M M' : Mem) : MLe (newOf M M') M' := fun b o h => by
 unfold newOf at h; split at h
 ·exact h
 cases h
section
variable {P : Program} {ops : Array Oper} {N : Fs} {F : Fr} {W : World} {X : List Nat} {M0 M : Mem} {L : Lc} {o : Oper} {Q : Exit → Act → World → Prop} {rest : List Oper}
theorem Own.freezeN {v : Value} {R : Lc} {e : TypeId} {size n : Nat} {xs : List Value} (ho : Own v R e size n xs) (hg : ∀ p ∈ R, p.1 ∉ X) {w : World} (h : St ⟨W, X, M0⟩ M (R ++ L) w) : ∃ M' a cap, MLe M M' ∧ v = .slice a n cap ∧ n ≤ cap ∧ SM (newOf M M') a xs ∧ St ⟨W, X, M0⟩ M' L w := by
 rcases ho.2 with ⟨rfl, rfl, rfl⟩ | ⟨g, cap, cur, rfl, rfl, h1, h2, h3, h4⟩
 ·have : xs = [] := List.eq_nil_of_length_eq_zero (by simpa using ho.1)
  subst this
  exact ⟨M, none, 0, MLe.refl _, rfl, Nat.le_refl _, .inl rfl, h⟩
 have hn : M g = none := (h.locs (g, .cells cur e (0, 0)) (by simp)).2.2
 obtain ⟨k1, k2, k3⟩ := St.freeze' (hg (g, .cells cur e (0, 0)) (by simp)) h
 refine ⟨_, _, cap, k2, rfl, h1, .inr ⟨g, 0, rfl, fun i u hu => ⟨cur, e, (0, 0), ?_, ?_⟩⟩, k1⟩
 ·rw [newOf_none hn]; exact k3
 rw [← h4, List.getElem?_take] at hu
 split at hu
 ·simpa using hu
 cases hu
end
def wDu (M : Mem) : Lc → Mem
 | [] => M
 | p :: R => (wDu M R).set p.1 p.2
theorem wKf {M : Mem} {b : Nat} : ∀ {R : Lc}, b ∉ R.map (·.1) → wDu M R b = M b
 | [], _ => rfl
 | p :: R, h => by
  rw [List.map_cons, List.mem_cons, not_or] at h
  show (if b = p.1 then some p.2 else wDu M R b) = _
  rw [if_neg h.1]; exact wKf h.2
theorem addL_on {M : Mem} {p : Nat × Obj} : ∀ {R : Lc}, (R.map (·.1)).Nodup → p ∈ R → wDu M R p.1 = some p.2
 | q :: R, hn, h => by
  rw [List.map_cons, List.nodup_cons] at hn
  show (if p.1 = q.1 then some q.2 else wDu M R p.1) = _
  rcases List.mem_cons.1 h with rfl | h
  ·rw [if_pos rfl]
  have : p.1 ≠ q.1 := fun e => hn.1 (by rw [← e]; exact List.mem_map.2 ⟨p, h, rfl⟩)
  rw [if_neg this]; exact addL_on hn.2 h
theorem wBk {M : Mem} {R : Lc} (h : ∀ p ∈ R, M p.1 = none) : MLe M (wDu M R) := fun b o hb => by
 have : b ∉ R.map (·.1) := fun hm => by
  obtain ⟨p, hp, rfl⟩ := List.mem_map.1 hm
  rw [h p hp] at hb; cases hb
 rw [wKf this]; exact hb
def subL (M : Mem) (R : Lc) : Mem := fun b => if b ∈ R.map (·.1) then none else M b
theorem subL_le (M : Mem) (R : Lc) : MLe (subL M R) M := fun b o h => by
 unfold subL at h; split at h
 ·cases h
 exact h
theorem St.lend {W : World} {X : List Nat} {M0 M : Mem} {R L : Lc} {w : World} (h : St ⟨W, X, M0⟩ M (R ++ L) w) : (R.map (·.1)).Nodup ∧ ∀ p ∈ R, M p.1 = none := by
 refine ⟨?_, fun p hp => (h.locs p (List.mem_append_left _ hp)).2.2⟩
 have := h.nodup
 rw [List.map_append] at this
 exact (List.nodup_append.1 this).1
theorem SpecL.lend {P : Program} {f : FuncId} {args : Array Value} {M : Mem} {R L : Lc} {post : Value → Mem → Lc → Prop} (h : (R.map (·.1)).Nodup → (∀ p ∈ R, M p.1 = none) → SpecL P f args (wDu M R) L post) :
  SpecL P f args M (R ++ L) fun v M' L' => ∃ M1 L1, post v M1 L1 ∧ L' = R ++ L1 ∧ M' = subL M1 R ∧ (R.map (·.1)).Nodup := by
 intro w hw
 obtain ⟨hn, hR⟩ := hw.lend
 have hle := wBk hR
 have hnd := hw.nodup
 rw [List.map_append] at hnd
 have hdis : ∀ p ∈ L, p.1 ∉ R.map (·.1) := fun p hp hm => (List.nodup_append.1 hnd).2.2 _ hm _ (List.mem_map_of_mem hp) rfl
 have hw1 : St ⟨w, L.map (·.1), wDu M R⟩ (wDu M R) L w := by
  refine { os := rfl, tape := rfl, output := rfl, size := Nat.le_refl _, same := fun _ _ _ => rfl, fresh := fun _ _ => rfl, agree := fun b o hb => ?_, locs := fun p hp => ?_, nodup := (List.nodup_append.1 hnd).2.1 }
  ·by_cases hm : b ∈ R.map (·.1)
   ·obtain ⟨p, hp, rfl⟩ := List.mem_map.1 hm
    rw [addL_on hn hp] at hb; cases hb
    exact (hw.locs p (List.mem_append_left _ hp)).1
   rw [wKf hm] at hb; exact hw.agree b o hb
  obtain ⟨a1, a2, a3⟩ := hw.locs p (List.mem_append_right _ hp)
  exact ⟨a1, .inr (List.mem_map_of_mem hp), by rw [wKf (hdis p hp)]; exact a3⟩
 refine (h hn hR w hw1).mono ?_
 rintro e w' ⟨v, M1, L1, rfl, hpost, hs⟩
 refine ⟨v, subL M1 R, R ++ L1, rfl, ⟨M1, L1, hpost, rfl, rfl, hn⟩, ?_⟩
 have hlt : ∀ p ∈ R, p.1 < w.heap.size := fun p hp => wEp (hw.locs p (List.mem_append_left _ hp)).1
 have hon : ∀ p ∈ R, M1 p.1 = some p.2 := fun p hp => (hs.fresh p.1 (hlt p hp)).trans (addL_on hn hp)
 refine { os := hs.os, tape := hs.tape, output := hs.output, size := hs.size, same := fun k hk hx => ?_, fresh := fun k hk => ?_, agree := fun b o hb => hs.agree b o (subL_le _ _ b o hb), locs := fun p hp => ?_, nodup := ?_ }
 ·refine hs.same k hk fun hm => hx ?_
  show k ∈ (R ++ L).map (·.1)
  rw [List.map_append]; exact List.mem_append_right _ hm
 ·by_cases hm : k ∈ R.map (·.1)
  ·obtain ⟨p, hp, rfl⟩ := List.mem_map.1 hm
   have h1 : M p.1 = none := hR p hp
   show subL M1 R p.1 = M p.1
   unfold subL; rw [if_pos hm, h1]
  show subL M1 R k = M k
  unfold subL; rw [if_neg hm, ← wKf (M := M) hm]; exact hs.fresh k hk
 ·rcases List.mem_append.1 hp with hp | hp
  ·refine ⟨hs.agree _ _ (hon p hp), .inr ?_, ?_⟩
   ·show p.1 ∈ (R ++ L).map (·.1)
    rw [List.map_append]; exact List.mem_append_left _ (List.mem_map_of_mem hp)
   unfold subL; rw [if_pos (List.mem_map_of_mem hp)]
  obtain ⟨a1, a2, a3⟩ := hs.locs p hp
  refine ⟨a1, a2.imp id fun a2 => ?_, ?_⟩
  ·show p.1 ∈ (R ++ L).map (·.1)
   rw [List.map_append]; exact List.mem_append_right _ a2
  unfold subL; split
  ·rfl
  exact a3
 rw [List.map_append, List.nodup_append]
 refine ⟨hn, hs.nodup, fun x hx y hy e => ?_⟩
 subst e
 obtain ⟨p, hp, rfl⟩ := List.mem_map.1 hx
 obtain ⟨q, hq, e⟩ := List.mem_map.1 hy
 have h1 := (hs.locs q hq).2.2
 rw [e, hon p hp] at h1; cases h1
theorem Own.lent {v : Value} {R : Lc} {e : TypeId} {size n : Nat} {xs : List Value} {M : Mem} (ho : Own v R e size n xs) (h : ∀ p ∈ R, M p.1 = some p.2) : ∃ a cap, v = .slice a n cap ∧ n ≤ cap ∧ SM M a xs := by
 rcases ho.2 with ⟨rfl, rfl, rfl⟩ | ⟨g, cap, cur, rfl, rfl, h1, h2, h3, h4⟩
 ·have : xs = [] := List.eq_nil_of_length_eq_zero (by simpa using ho.1)
  exact ⟨none, 0, rfl, Nat.le_refl _, .inl this⟩
 refine ⟨_, cap, rfl, h1, .inr ⟨g, 0, rfl, fun i u hu => ⟨cur, e, (0, 0), h (g, .cells cur e (0, 0)) (by simp), ?_⟩⟩⟩
 rw [← h4, List.getElem?_take] at hu
 split at hu
 ·simpa using hu
 cases hu
section
variable {P : Program} {Q : Exit → Act → World → Prop}
end
theorem wJq {α : Type} {A B : List α} (h : ∀ f : α → Nat, (A.map f).sum = (B.map f).sum) : A.Perm B := by
 classical
 have e : ∀ (a : α) (l : List α), (l.map fun x => if x = a then 1 else 0).sum = l.count a := fun a l => by
  induction l with
  | nil => rfl
  | cons x l ih =>
   rw [List.map_cons, List.sum_cons, ih, List.count_cons, Nat.add_comm]
   congr 1
   by_cases hx : x = a <;> simp [hx]
 exact List.perm_iff_count.2 fun a => by rw [← e a A, ← e a B]; exact h _
section
variable {P : Program} {N : Fs} {F : Fr} {W : World} {X : List Nat} {M0 M : Mem} {L : Lc} {Q : Exit → Act → World → Prop}
theorem wKb {c : Code} {ob : Obj} {L2 : Lc} (g : Nat) [hp : Rm g ob L L2] (hg : ∀ x ∈ X, x ∈ L2.map (·.1)) (h : ∀ M', MLe M M' → M' g = some ob → JC P N c F ⟨W, X, M0⟩ M' L2 Q) : JC P N c F ⟨W, X, M0⟩ M L Q := by
 intro a w ha hw
 have hw' := hw.perm hp.perm
 have hn : g ∉ X := fun hx => (List.nodup_cons.1 hw'.nodup).1 (hg g hx)
 obtain ⟨h1, h2, h3⟩ := St.freeze' hn hw'
 exact h _ h2 h3 a w ha h1
end
section
variable {P : Program} {ops : Array Oper} {N : Fs} {F : Fr} {W : World} {X : List Nat} {M0 M : Mem} {L : Lc} {Q : Exit → Act → World → Prop} {rest : List Oper}
theorem Own.freezeY {v : Value} {R L2 : Lc} {e : TypeId} {size n : Nat} {xs : List Value} (ho : Own v R e size n xs) (hg : ∀ x ∈ X, x ∈ L2.map (·.1)) {w : World} (hw' : St ⟨W, X, M0⟩ M (R ++ L2) w) : ∃ M' a cap, MLe M M' ∧ v = .slice a n cap ∧ n ≤ cap ∧ SM (newOf M M') a xs ∧ St ⟨W, X, M0⟩ M' L2 w := by
 have hn := hw'.nodup
 rw [List.map_append] at hn
 have hd := (List.nodup_append.1 hn).2.2
 exact ho.freezeN (fun p hpR hpX => hd _ (List.mem_map_of_mem hpR) _ (hg _ hpX) rfl) hw'
theorem jq_ownY {ex : Exit} {v : Value} {R L2 : Lc} {e : TypeId} {size n : Nat} {xs : List Value} (ho : Own v R e size n xs) [hp : Pick R L L2] (hg : ∀ x ∈ X, x ∈ L2.map (·.1))
  (h : ∀ M' a cap, MLe M M' → v = .slice a n cap → n ≤ cap → SM (newOf M M') a xs → JQ N ex F ⟨W, X, M0⟩ M' L2 Q) : JQ N ex F ⟨W, X, M0⟩ M L Q := by
 intro a w ha hw
 obtain ⟨M', ad, cap, k1, k2, k3, k4, k5⟩ := ho.freezeY hg (hw.perm hp.perm)
 exact h M' ad cap k1 k2 k3 k4 a w ha k5
end
def Mem.del (M : Mem) (g : Nat) : Mem := fun k => if k = g then none else M k
section
variable {P : Program} {ops : Array Oper} {N : Fs} {F : Fr} {W : World} {X : List Nat} {M0 M : Mem} {L : Lc} {Q : Exit → Act → World → Prop} {rest : List Oper}
end
end Go.Proofs.YtokljhkplbkggaaGreatDoor
