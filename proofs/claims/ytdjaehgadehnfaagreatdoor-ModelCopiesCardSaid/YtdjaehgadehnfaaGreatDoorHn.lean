/- THE WALKING LAYER: what is new; blocks of one's own that are lent. No statement of the seat is proved here. -/
import Derived.Test.YtdjaehgadehnfaaGreatDoorHf
namespace Go.Proofs.YtdjaehgadehnfaaGreatDoor
set_option linter.unusedVariables false
set_option linter.unusedSimpArgs false
open Go.RowKit

/-! ### what is new -/
def newOf (M M' : Mem) : Mem := fun b => match M b with | none => M' b | some _ => none
theorem newOf_none {M M' : Mem} {b : Nat} (h : M b = none) : newOf M M' b = M' b := by unfold newOf; rw [h]
theorem newOf_le (M M' : Mem) : MLe (newOf M M') M' := fun b o h => by
  unfold newOf at h; split at h
  · exact h
  · cases h
theorem newOf_mono {M M1 M2 : Mem} (h : MLe M1 M2) : MLe (newOf M M1) (newOf M M2) := fun b o hb => by
  unfold newOf at hb; split at hb
  · rename_i e; rw [newOf_none e]; exact h b o hb
  · cases hb
theorem newOf_anti {M0 M M' : Mem} (h : MLe M0 M) : MLe (newOf M M') (newOf M0 M') := fun b o hb => by
  unfold newOf at hb; split at hb
  · rename_i e
    have : M0 b = none := by
      cases h0 : M0 b with
      | none => rfl
      | some x => rw [h b x h0] at e; cases e
    rw [newOf_none this]; exact hb
  · cases hb
theorem newOf_both {M0 M M1 M2 : Mem} (h : MLe M0 M) (k : MLe M1 M2) : MLe (newOf M M1) (newOf M0 M2) := (newOf_anti h).trans (newOf_mono k)

section
variable {P : Program} {ops : Array Oper} {N : Fs} {F : Fr} {W : World} {X : List Nat} {M0 M : Mem} {L : Lc} {o : Oper} {Q : Exit → Act → World → Prop} {rest : List Oper}
theorem Own.freezeN {v : Value} {R : Lc} {e : TypeId} {size n : Nat} {xs : List Value} (ho : Own v R e size n xs) (hg : ∀ p ∈ R, p.1 ∉ X) {w : World} (h : St ⟨W, X, M0⟩ M (R ++ L) w) : ∃ M' a cap, MLe M M' ∧ v = .slice a n cap ∧ n ≤ cap ∧ SM (newOf M M') a xs ∧ St ⟨W, X, M0⟩ M' L w := by
  rcases ho.2 with ⟨rfl, rfl, rfl⟩ | ⟨g, cap, cur, rfl, rfl, h1, h2, h3, h4⟩
  · have : xs = [] := List.eq_nil_of_length_eq_zero (by simpa using ho.1)
    subst this
    exact ⟨M, none, 0, MLe.refl _, rfl, Nat.le_refl _, .inl rfl, h⟩
  · have hn : M g = none := (h.locs (g, .cells cur e (0, 0)) (by simp)).2.2
    obtain ⟨k1, k2, k3⟩ := St.freeze' (hg (g, .cells cur e (0, 0)) (by simp)) h
    refine ⟨_, _, cap, k2, rfl, h1, .inr ⟨g, 0, rfl, fun i u hu => ⟨cur, e, (0, 0), ?_, ?_⟩⟩, k1⟩
    · rw [newOf_none hn]; exact k3
    · rw [← h4, List.getElem?_take] at hu
      split at hu
      · simpa using hu
      · cases hu
theorem jl_ownN {v : Value} {R L2 : Lc} {e : TypeId} {size n : Nat} {xs : List Value} (ho : Own v R e size n xs) [hp : Pick R L L2] (hg : ∀ p ∈ R, p.1 ∉ X)
    (h : ∀ M' a cap, MLe M M' → v = .slice a n cap → n ≤ cap → SM (newOf M M') a xs → JL P ops N Q rest F ⟨W, X, M0⟩ M' L2) : JL P ops N Q rest F ⟨W, X, M0⟩ M L := by
  intro a w ha hw
  obtain ⟨M', ad, cap, k1, k2, k3, k4, k5⟩ := ho.freezeN hg (hw.perm hp.perm)
  exact h M' ad cap k1 k2 k3 k4 a w ha k5
theorem jc_ownN {c : Code} {v : Value} {R L2 : Lc} {e : TypeId} {size n : Nat} {xs : List Value} (ho : Own v R e size n xs) [hp : Pick R L L2] (hg : ∀ p ∈ R, p.1 ∉ X)
    (h : ∀ M' a cap, MLe M M' → v = .slice a n cap → n ≤ cap → SM (newOf M M') a xs → JC P N c F ⟨W, X, M0⟩ M' L2 Q) : JC P N c F ⟨W, X, M0⟩ M L Q := by
  intro a w ha hw
  obtain ⟨M', ad, cap, k1, k2, k3, k4, k5⟩ := ho.freezeN hg (hw.perm hp.perm)
  exact h M' ad cap k1 k2 k3 k4 a w ha k5
theorem jq_ownN {ex : Exit} {v : Value} {R L2 : Lc} {e : TypeId} {size n : Nat} {xs : List Value} (ho : Own v R e size n xs) [hp : Pick R L L2] (hg : ∀ p ∈ R, p.1 ∉ X)
    (h : ∀ M' a cap, MLe M M' → v = .slice a n cap → n ≤ cap → SM (newOf M M') a xs → JQ N ex F ⟨W, X, M0⟩ M' L2 Q) : JQ N ex F ⟨W, X, M0⟩ M L Q := by
  intro a w ha hw
  obtain ⟨M', ad, cap, k1, k2, k3, k4, k5⟩ := ho.freezeN hg (hw.perm hp.perm)
  exact h M' ad cap k1 k2 k3 k4 a w ha k5
end

/-! ### lent -/
/-- memory with blocks of one's own -/
def addL (M : Mem) : Lc → Mem
  | [] => M
  | p :: R => (addL M R).set p.1 p.2
theorem addL_off {M : Mem} {b : Nat} : ∀ {R : Lc}, b ∉ R.map (·.1) → addL M R b = M b
  | [], _ => rfl
  | p :: R, h => by
    rw [List.map_cons, List.mem_cons, not_or] at h
    show (if b = p.1 then some p.2 else addL M R b) = _
    rw [if_neg h.1]; exact addL_off h.2
theorem addL_on {M : Mem} {p : Nat × Obj} : ∀ {R : Lc}, (R.map (·.1)).Nodup → p ∈ R → addL M R p.1 = some p.2
  | q :: R, hn, h => by
    rw [List.map_cons, List.nodup_cons] at hn
    show (if p.1 = q.1 then some q.2 else addL M R p.1) = _
    rcases List.mem_cons.1 h with rfl | h
    · rw [if_pos rfl]
    · have : p.1 ≠ q.1 := fun e => hn.1 (by rw [← e]; exact List.mem_map.2 ⟨p, h, rfl⟩)
      rw [if_neg this]; exact addL_on hn.2 h
theorem addL_le {M : Mem} {R : Lc} (h : ∀ p ∈ R, M p.1 = none) : MLe M (addL M R) := fun b o hb => by
  have : b ∉ R.map (·.1) := fun hm => by
    obtain ⟨p, hp, rfl⟩ := List.mem_map.1 hm
    rw [h p hp] at hb; cases hb
  rw [addL_off this]; exact hb
/-- .. and given back -/
def subL (M : Mem) (R : Lc) : Mem := fun b => if b ∈ R.map (·.1) then none else M b
theorem subL_le (M : Mem) (R : Lc) : MLe (subL M R) M := fun b o h => by
  unfold subL at h; split at h
  · cases h
  · exact h
theorem newOf_sub {M M1 : Mem} {R : Lc} (hn : (R.map (·.1)).Nodup) : MLe (newOf (addL M R) M1) (subL M1 R) := fun b o h => by
  have hb : b ∉ R.map (·.1) := fun hm => by
    obtain ⟨p, hp, rfl⟩ := List.mem_map.1 hm
    unfold newOf at h
    rw [addL_on hn hp] at h; cases h
  unfold subL; rw [if_neg hb]; exact newOf_le _ _ _ _ h
theorem St.lend {W : World} {X : List Nat} {M0 M : Mem} {R L : Lc} {w : World} (h : St ⟨W, X, M0⟩ M (R ++ L) w) : (R.map (·.1)).Nodup ∧ ∀ p ∈ R, M p.1 = none := by
  refine ⟨?_, fun p hp => (h.locs p (List.mem_append_left _ hp)).2.2⟩
  have := h.nodup
  rw [List.map_append] at this
  exact (List.nodup_append.1 this).1
/-- A call that only reads blocks of one's own. -/
theorem SpecL.lend {P : Program} {f : FuncId} {args : Array Value} {M : Mem} {R L : Lc} {post : Value → Mem → Lc → Prop} (h : (R.map (·.1)).Nodup → (∀ p ∈ R, M p.1 = none) → SpecL P f args (addL M R) L post) :
    SpecL P f args M (R ++ L) fun v M' L' => ∃ M1 L1, post v M1 L1 ∧ L' = R ++ L1 ∧ M' = subL M1 R ∧ (R.map (·.1)).Nodup := by
  intro w hw
  obtain ⟨hn, hR⟩ := hw.lend
  have hle := addL_le hR
  have hnd := hw.nodup
  rw [List.map_append] at hnd
  have hdis : ∀ p ∈ L, p.1 ∉ R.map (·.1) := fun p hp hm => (List.nodup_append.1 hnd).2.2 _ hm _ (List.mem_map_of_mem hp) rfl
  have hw1 : St ⟨w, L.map (·.1), addL M R⟩ (addL M R) L w := by
    refine { os := rfl, tape := rfl, output := rfl, size := Nat.le_refl _, same := fun _ _ _ => rfl, fresh := fun _ _ => rfl, agree := fun b o hb => ?_, locs := fun p hp => ?_, nodup := (List.nodup_append.1 hnd).2.1 }
    · by_cases hm : b ∈ R.map (·.1)
      · obtain ⟨p, hp, rfl⟩ := List.mem_map.1 hm
        rw [addL_on hn hp] at hb; cases hb
        exact (hw.locs p (List.mem_append_left _ hp)).1
      · rw [addL_off hm] at hb; exact hw.agree b o hb
    · obtain ⟨a1, a2, a3⟩ := hw.locs p (List.mem_append_right _ hp)
      exact ⟨a1, .inr (List.mem_map_of_mem hp), by rw [addL_off (hdis p hp)]; exact a3⟩
  refine (h hn hR w hw1).mono ?_
  rintro e w' ⟨v, M1, L1, rfl, hpost, hs⟩
  refine ⟨v, subL M1 R, R ++ L1, rfl, ⟨M1, L1, hpost, rfl, rfl, hn⟩, ?_⟩
  have hlt : ∀ p ∈ R, p.1 < w.heap.size := fun p hp => heap_lt (hw.locs p (List.mem_append_left _ hp)).1
  have hon : ∀ p ∈ R, M1 p.1 = some p.2 := fun p hp => (hs.fresh p.1 (hlt p hp)).trans (addL_on hn hp)
  refine { os := hs.os, tape := hs.tape, output := hs.output, size := hs.size, same := fun k hk hx => ?_, fresh := fun k hk => ?_, agree := fun b o hb => hs.agree b o (subL_le _ _ b o hb), locs := fun p hp => ?_, nodup := ?_ }
  · refine hs.same k hk fun hm => hx ?_
    show k ∈ (R ++ L).map (·.1)
    rw [List.map_append]; exact List.mem_append_right _ hm
  · by_cases hm : k ∈ R.map (·.1)
    · obtain ⟨p, hp, rfl⟩ := List.mem_map.1 hm
      have h1 : M p.1 = none := hR p hp
      show subL M1 R p.1 = M p.1
      unfold subL; rw [if_pos hm, h1]
    · show subL M1 R k = M k
      unfold subL; rw [if_neg hm, ← addL_off (M := M) hm]; exact hs.fresh k hk
  · rcases List.mem_append.1 hp with hp | hp
    · refine ⟨hs.agree _ _ (hon p hp), .inr ?_, ?_⟩
      · show p.1 ∈ (R ++ L).map (·.1)
        rw [List.map_append]; exact List.mem_append_left _ (List.mem_map_of_mem hp)
      · unfold subL; rw [if_pos (List.mem_map_of_mem hp)]
    · obtain ⟨a1, a2, a3⟩ := hs.locs p hp
      refine ⟨a1, a2.imp id fun a2 => ?_, ?_⟩
      · show p.1 ∈ (R ++ L).map (·.1)
        rw [List.map_append]; exact List.mem_append_right _ a2
      · unfold subL; split
        · rfl
        · exact a3
  · rw [List.map_append, List.nodup_append]
    refine ⟨hn, hs.nodup, fun x hx y hy e => ?_⟩
    subst e
    obtain ⟨p, hp, rfl⟩ := List.mem_map.1 hx
    obtain ⟨q, hq, e⟩ := List.mem_map.1 hy
    have h1 := (hs.locs q hq).2.2
    rw [e, hon p hp] at h1; cases h1
theorem Own.lent {v : Value} {R : Lc} {e : TypeId} {size n : Nat} {xs : List Value} {M : Mem} (ho : Own v R e size n xs) (h : ∀ p ∈ R, M p.1 = some p.2) : ∃ a cap, v = .slice a n cap ∧ n ≤ cap ∧ SM M a xs := by
  rcases ho.2 with ⟨rfl, rfl, rfl⟩ | ⟨g, cap, cur, rfl, rfl, h1, h2, h3, h4⟩
  · have : xs = [] := List.eq_nil_of_length_eq_zero (by simpa using ho.1)
    exact ⟨none, 0, rfl, Nat.le_refl _, .inl this⟩
  · refine ⟨_, cap, rfl, h1, .inr ⟨g, 0, rfl, fun i u hu => ⟨cur, e, (0, 0), h (g, .cells cur e (0, 0)) (by simp), ?_⟩⟩⟩
    rw [← h4, List.getElem?_take] at hu
    split at hu
    · simpa using hu
    · cases hu
end Go.Proofs.YtdjaehgadehnfaaGreatDoor
