/- THE WALKING LAYER, one part more: a block that is new since the entry may be written again. No statement of the seat is proved here. -/
import Derived.Test.YtkcpllhggofloaaGreatZHn
namespace Go.Proofs.YtkcpllhggofloaaGreat
set_option linter.unusedVariables false
set_option linter.unusedSectionVars false
set_option linter.unusedSimpArgs false
open Go.RowKit
def Mem.del (M : Mem) (g : Nat) : Mem := fun k => if k = g then none else M k
theorem Mem.del_other {M : Mem} {g k : Nat} (h : k ≠ g) : (M.del g) k = M k := by unfold Mem.del; rw [if_neg h]
theorem Mem.del_self {M : Mem} {g : Nat} : (M.del g) g = none := by unfold Mem.del; rw [if_pos rfl]
theorem St.thaw {W : World} {X : List Nat} {M0 M : Mem} {L : Lc} {w : World} {g : Nat} {ob : Obj} (hm : M g = some ob) (h0 : M0 g = none) (h : St ⟨W, X, M0⟩ M L w) : St ⟨W, X, M0⟩ (M.del g) ((g, ob) :: L) w := by
 have hg : W.heap.size ≤ g := Nat.le_of_not_lt fun hl => by
  have e : M g = M0 g := h.fresh g hl
  rw [hm, h0] at e; cases e
 refine { h with fresh := fun k hk => ?_, agree := fun b o hb => ?_, locs := fun p hp => ?_, nodup := ?_ }
 ·have hk' : k < W.heap.size := hk
  rw [Mem.del_other (by omega)]; exact h.fresh k hk
 ·by_cases e : b = g
  ·subst e; rw [Mem.del_self] at hb; cases hb
  rw [Mem.del_other e] at hb; exact h.agree b o hb
 ·rcases List.mem_cons.1 hp with rfl | hp
  ·exact ⟨h.agree _ _ hm, .inl hg, Mem.del_self⟩
  obtain ⟨h1, h2, h3⟩ := h.locs p hp
  refine ⟨h1, h2, ?_⟩
  by_cases e : p.1 = g
  ·rw [e]; exact Mem.del_self
  rw [Mem.del_other e]; exact h3
 rw [List.map_cons, List.nodup_cons]
 refine ⟨fun hmem => ?_, h.nodup⟩
 obtain ⟨p, hp, e⟩ := List.mem_map.1 hmem
 have := (h.locs p hp).2.2
 rw [show p.1 = g from e, hm] at this; cases this
section
variable {P : Program} {ops : Array Oper} {N : Fs} {F : Fr} {W : World} {X : List Nat} {M0 M : Mem} {L : Lc} {Q : Exit → Act → World → Prop} {rest : List Oper}
theorem jc_thaw {c : Code} {g : Nat} {ob : Obj} (hm : M g = some ob) (h0 : M0 g = none) (h : JC P N c F ⟨W, X, M0⟩ (M.del g) ((g, ob) :: L) Q) : JC P N c F ⟨W, X, M0⟩ M L Q := fun a w ha hw => h a w ha (hw.thaw hm h0)
end
end Go.Proofs.YtkcpllhggofloaaGreat
