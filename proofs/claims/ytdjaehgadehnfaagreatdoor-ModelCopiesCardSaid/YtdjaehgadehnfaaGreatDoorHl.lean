/- THE WALKING LAYER: loops in which ranges over functions leave marks. No statement of the seat is proved here. -/
import Derived.Test.YtdjaehgadehnfaaGreatDoorHn
namespace Go.Proofs.YtdjaehgadehnfaaGreatDoor
set_option linter.unusedVariables false
set_option linter.unusedSimpArgs false
open Go.RowKit

section
variable {P : Program} {Q : Exit → Act → World → Prop}
/-- one more round, from a smaller measure, with other marks -/
def AgainD {α : Type} (n : Nat) (r : Option Nat) (E : Ent) (Di : α → List Nat) (Fi : α → Fr) (Mi : α → Mem) (Li : α → Lc) (φ : α → Prop) (μ : α → Nat) (x : α) (a : Act) (w : World) : Prop :=
  ∃ y, φ y ∧ μ y < μ x ∧ Has ⟨n, Di y, r⟩ (Fi y) a ∧ St E (Mi y) (Li y) w
theorem jc_loopD {α : Type} {n : Nat} {r : Option Nat} {E : Ent} {c : Code} (Di : α → List Nat) (Fi : α → Fr) (Mi : α → Mem) (Li : α → Lc) (φ : α → Prop) (μ : α → Nat)
    (h : ∀ x, φ x → JC P ⟨n, Di x, r⟩ c (Fi x) E (Mi x) (Li x) (Exit.then (AgainD n r E Di Fi Mi Li φ μ x) Q)) (x : α) (hx : φ x) : JC P ⟨n, Di x, r⟩ (.loop c) (Fi x) E (Mi x) (Li x) Q := by
  classical
  intro a w ha hw
  let I : Act → World → Nat → Prop := fun a w m => ∃ x, φ x ∧ Has ⟨n, Di x, r⟩ (Fi x) a ∧ St E (Mi x) (Li x) w ∧ μ x = m
  let m : Act → World → Nat := fun a w => if h : ∃ n, I a w n then Classical.choose (least h) else 0
  have hm : ∀ a w n, I a w n → m a w ≤ n := fun a w n hi => by
    have he : ∃ n, I a w n := ⟨n, hi⟩
    simp only [m, dif_pos he]; exact (Classical.choose_spec (least he)).2 _ hi
  refine wpIn_loop (fun a w => ∃ n, I a w n) m ⟨_, x, hx, ha, hw, rfl⟩ fun a w he => ?_
  have hmin : I a w (m a w) := by simp only [m, dif_pos he]; exact (Classical.choose_spec (least he)).1
  obtain ⟨y, hy, hya, hyw, hyn⟩ := hmin
  refine wpIn_mono (h y hy a w hya hyw) fun e a' w' hq => ?_
  cases e with
  | normal =>
    obtain ⟨z, hz, hlt, hza, hzw⟩ := hq
    have h1 : I a' w' (μ z) := ⟨z, hz, hza, hzw, rfl⟩
    exact ⟨⟨_, h1⟩, by have := hm a' w' _ h1; omega⟩
  | exit id => exact hq
  | goto l => exact hq
  | ret => exact hq
  | panic ch => exact hq
  | outgrown => exact hq
theorem jc_loopDK {α : Type} {n : Nat} {D : List Nat} {r : Option Nat} {E : Ent} {c : Code} {F : Fr} {M : Mem} {L : Lc} (Di : α → List Nat) (Fi : α → Fr) (Mi : α → Mem) (Li : α → Lc) (φ : α → Prop) (μ : α → Nat) (x : α) (hD : D = Di x) (hk : Keep F (Fi x)) (hx : φ x) (hs : ∀ w, St E M L w → St E (Mi x) (Li x) w)
    (h : ∀ x, φ x → JC P ⟨n, Di x, r⟩ c (Fi x) E (Mi x) (Li x) (Exit.then (AgainD n r E Di Fi Mi Li φ μ x) Q)) : JC P ⟨n, D, r⟩ (.loop c) F E M L Q := fun a w ha hw =>
  jc_loopD Di Fi Mi Li φ μ h x hx a w (by rw [← hD]; exact ha.keep hk) (hs w hw)
theorem j_againD {α : Type} {n : Nat} {D : List Nat} {r : Option Nat} {E : Ent} {F : Fr} {M : Mem} {L : Lc} {Di : α → List Nat} {Fi : α → Fr} {Mi : α → Mem} {Li : α → Lc} {φ : α → Prop} {μ : α → Nat} {x : α} (y : α) (hD : D = Di y) (hk : Keep F (Fi y)) (hφ : φ y) (hμ : μ y < μ x)
    (hs : ∀ w, St E M L w → St E (Mi y) (Li y) w) : JQ ⟨n, D, r⟩ .normal F E M L (Exit.then (AgainD n r E Di Fi Mi Li φ μ x) Q) := fun _ w ha hw => ⟨y, hφ, hμ, by rw [← hD]; exact ha.keep hk, hs w hw⟩
end
/-- the blocks of the marks -/
def mks (D : List Nat) : Lc := D.map fun d => (d, .deferred (some []))
/-- at a return: all marks -/
theorem jr_marks {P : Program} {fn : Func} {n : Nat} {F : Fr} {E : Ent} {M : Mem} {post : Value → Mem → Lc → Prop} {L2 : Lc} : ∀ {D : List Nat} {L : Lc}, L.Perm (mks D ++ L2) → JQ ⟨n, [], none⟩ .ret F E M L2 (retPost P fn E post) → JQ ⟨n, D, none⟩ .ret F E M L (retPost P fn E post)
  | [], L, hp, h => jq_weak (fun w hw => hw.perm hp) h
  | d :: D, L, hp, h => jr_mark (L2 := mks D ++ L2) hp (jr_marks (List.Perm.refl _) h)
theorem jr_marksS {P : Program} {fn : Func} {n : Nat} {F : Fr} {E : Ent} {M : Mem} {post : Value → Mem → Lc → Prop} {L2 : Lc} {D : List Nat} {L : Lc} (hs : ∀ w, St E M L w → St E M (mks D ++ L2) w) (h : JQ ⟨n, [], none⟩ .ret F E M L2 (retPost P fn E post)) : JQ ⟨n, D, none⟩ .ret F E M L (retPost P fn E post) :=
  jq_weak hs (jr_marks (List.Perm.refl _) h)
/-! ### lists that are the same but for their order -/
theorem permC {α : Type} {A B : List α} (h : ∀ f : α → Nat, (A.map f).sum = (B.map f).sum) : A.Perm B := by
  classical
  have e : ∀ (a : α) (l : List α), (l.map fun x => if x = a then 1 else 0).sum = l.count a := fun a l => by
    induction l with
    | nil => rfl
    | cons x l ih =>
      rw [List.map_cons, List.sum_cons, ih, List.count_cons, Nat.add_comm]
      congr 1
      by_cases hx : x = a <;> simp [hx]
  exact List.perm_iff_count.2 fun a => by rw [← e a A, ← e a B]; exact h _
theorem St.dropAt {E : Ent} {M : Mem} {A B : Lc} {p : Nat × Obj} {w : World} (h : St E M (A ++ (p :: B)) w) : St E M (A ++ B) w := h.fewer (List.Sublist.append_left (List.sublist_cons_self _ _) _)
theorem St.tl {E : Ent} {M : Mem} {B : Lc} {p : Nat × Obj} {w : World} (h : St E M (p :: B) w) : St E M B w := h.fewer (List.sublist_cons_self _ _)
theorem Own.pop {g m cap size : Nat} {R : Lc} {e : TypeId} {A B : List Value} (h : Own (.slice (some ⟨g, 0, none⟩) (m + 1) cap) R e size (m + 1) (A ++ B)) (hA : A.length = m * size) : Own (.slice (some ⟨g, 0, none⟩) m cap) R e size m A := by
  obtain ⟨g', c, cur, e1, rfl, h1, h2, h3, h4⟩ := h.open (by omega)
  cases e1
  refine ⟨hA, .inr ⟨g, cap, cur, rfl, rfl, by omega, h2, h3, ?_⟩⟩
  have : cur.toList.take (m * size) = (cur.toList.take ((m + 1) * size)).take (m * size) := by
    rw [List.take_take]; congr 1; rw [Nat.min_eq_left]; exact Nat.mul_le_mul_right _ (by omega)
  rw [this, h4, ← hA, List.take_left]
section
variable {P : Program} {N : Fs} {F : Fr} {W : World} {X : List Nat} {M0 M : Mem} {L : Lc} {Q : Exit → Act → World → Prop}
theorem jq_freezeX {ex : Exit} {ob : Obj} {L2 : Lc} (g : Nat) [hp : Rm g ob L L2] (hg : ∀ x ∈ X, x ∈ L2.map (·.1)) (h : ∀ M', MLe M M' → M' g = some ob → JQ N ex F ⟨W, X, M0⟩ M' L2 Q) : JQ N ex F ⟨W, X, M0⟩ M L Q := by
  intro a w ha hw
  have hw' := hw.perm hp.perm
  have hn : g ∉ X := fun hx => (List.nodup_cons.1 hw'.nodup).1 (hg g hx)
  obtain ⟨h1, h2, h3⟩ := St.freeze' hn hw'
  exact h _ h2 h3 a w ha h1
theorem jc_freezeX {c : Code} {ob : Obj} {L2 : Lc} (g : Nat) [hp : Rm g ob L L2] (hg : ∀ x ∈ X, x ∈ L2.map (·.1)) (h : ∀ M', MLe M M' → M' g = some ob → JC P N c F ⟨W, X, M0⟩ M' L2 Q) : JC P N c F ⟨W, X, M0⟩ M L Q := by
  intro a w ha hw
  have hw' := hw.perm hp.perm
  have hn : g ∉ X := fun hx => (List.nodup_cons.1 hw'.nodup).1 (hg g hx)
  obtain ⟨h1, h2, h3⟩ := St.freeze' hn hw'
  exact h _ h2 h3 a w ha h1
end
/-- what is new is none of the caller's -/
theorem not_in {W : World} {X : List Nat} {R : Lc} (hX : ∀ x ∈ X, x < W.heap.size) (h : ∀ p ∈ R, W.heap.size ≤ p.1) : ∀ p ∈ R, p.1 ∉ X := fun p hp hx => by
  have := hX _ hx; have := h p hp; omega
/-! ### rows frozen where the caller's blocks are still there -/
section
variable {P : Program} {ops : Array Oper} {N : Fs} {F : Fr} {W : World} {X : List Nat} {M0 M : Mem} {L : Lc} {Q : Exit → Act → World → Prop} {rest : List Oper}
theorem Own.freezeY {v : Value} {R L2 : Lc} {e : TypeId} {size n : Nat} {xs : List Value} (ho : Own v R e size n xs) (hg : ∀ x ∈ X, x ∈ L2.map (·.1)) {w : World} (hw' : St ⟨W, X, M0⟩ M (R ++ L2) w) : ∃ M' a cap, MLe M M' ∧ v = .slice a n cap ∧ n ≤ cap ∧ SM (newOf M M') a xs ∧ St ⟨W, X, M0⟩ M' L2 w := by
  have hn := hw'.nodup
  rw [List.map_append] at hn
  have hd := (List.nodup_append.1 hn).2.2
  exact ho.freezeN (fun p hpR hpX => hd _ (List.mem_map_of_mem hpR) _ (hg _ hpX) rfl) hw'
theorem jl_ownY {v : Value} {R L2 : Lc} {e : TypeId} {size n : Nat} {xs : List Value} (ho : Own v R e size n xs) [hp : Pick R L L2] (hg : ∀ x ∈ X, x ∈ L2.map (·.1))
    (h : ∀ M' a cap, MLe M M' → v = .slice a n cap → n ≤ cap → SM (newOf M M') a xs → JL P ops N Q rest F ⟨W, X, M0⟩ M' L2) : JL P ops N Q rest F ⟨W, X, M0⟩ M L := by
  intro a w ha hw
  obtain ⟨M', ad, cap, k1, k2, k3, k4, k5⟩ := ho.freezeY hg (hw.perm hp.perm)
  exact h M' ad cap k1 k2 k3 k4 a w ha k5
theorem jc_ownY {c : Code} {v : Value} {R L2 : Lc} {e : TypeId} {size n : Nat} {xs : List Value} (ho : Own v R e size n xs) [hp : Pick R L L2] (hg : ∀ x ∈ X, x ∈ L2.map (·.1))
    (h : ∀ M' a cap, MLe M M' → v = .slice a n cap → n ≤ cap → SM (newOf M M') a xs → JC P N c F ⟨W, X, M0⟩ M' L2 Q) : JC P N c F ⟨W, X, M0⟩ M L Q := by
  intro a w ha hw
  obtain ⟨M', ad, cap, k1, k2, k3, k4, k5⟩ := ho.freezeY hg (hw.perm hp.perm)
  exact h M' ad cap k1 k2 k3 k4 a w ha k5
theorem jq_ownY {ex : Exit} {v : Value} {R L2 : Lc} {e : TypeId} {size n : Nat} {xs : List Value} (ho : Own v R e size n xs) [hp : Pick R L L2] (hg : ∀ x ∈ X, x ∈ L2.map (·.1))
    (h : ∀ M' a cap, MLe M M' → v = .slice a n cap → n ≤ cap → SM (newOf M M') a xs → JQ N ex F ⟨W, X, M0⟩ M' L2 Q) : JQ N ex F ⟨W, X, M0⟩ M L Q := by
  intro a w ha hw
  obtain ⟨M', ad, cap, k1, k2, k3, k4, k5⟩ := ho.freezeY hg (hw.perm hp.perm)
  exact h M' ad cap k1 k2 k3 k4 a w ha k5
end
end Go.Proofs.YtdjaehgadehnfaaGreatDoor
