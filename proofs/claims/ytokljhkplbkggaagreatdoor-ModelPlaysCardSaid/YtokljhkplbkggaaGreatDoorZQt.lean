/- Quiet operations on strings: joined, cut, a byte. No statement of the seat is proved here. -/
import Derived.Test.YtokljhkplbkggaaGreatDoorZQs
import Derived.Laws.Concat
namespace Go.Proofs.YtokljhkplbkggaaGreatDoor
set_option linter.unusedVariables false
set_option linter.unusedSectionVars false
set_option linter.unusedSimpArgs false
open Go.RowKit Go.MapKept
section
variable {P : Program} {ops : Array Oper} {N : Fs} {F : Fr} {E : Ent} {M : Mem} {L : Lc} {o : Oper}
theorem wHe {x ix : Operand} {t : TypeId} {s : Str} {k : IntKind} {i : Int} {b : UInt8} (hg : gd ops F o = some true) (ho : o.op = .index t x ix) (hx : ev F x = some (.string s)) (hi : ev F ix = some (.int k i)) [ht : Und P t .string] (h0 : 0 ≤ i) (hb : s[i.toNat]? = some b) : QF P ops N F M L o (.int .u8 b.toNat) := wDw hg fun ac ha w _ => by
 simp [execOp, ho, ha.ev hx, ha.ev hi, Instr.index, asIntOf, run_underlying ht.h, h0, hb]
theorem qStrSl {x : Operand} {t : TypeId} {lo hi : Option Operand} {s : Str} {l h : Nat} (hg : gd ops F o = some true) (ho : o.op = .slice t x lo hi none) (hx : ev F x = some (.string s)) [ht : Und P t .string]
  (hh : Bd F hi s.size h) (hl : Bd F lo 0 l) (hle : l ≤ h ∧ h ≤ s.size) : QF P ops N F M L o (.string (s.extract l h)) := wDw hg fun ac hac w _ => by
 have hb := run_bounds (P := P) hac (isS := false) (len := s.size) (cap := s.size) (m := s.size) (mx := none) (.no _) hh hl hle.1 hle.2 (Nat.le_refl _) (.inl rfl) w
 simp [execOp, ho, Instr.sliceAt, run_underlying ht.h, Instr.slice, hac.ev hx] at hb ⊢
 simp [hb]
end
end Go.Proofs.YtokljhkplbkggaaGreatDoor
