/- Numbers and seals as bytes, and back (plain laws). No statement of the seat is proved here. -/
import Derived.Test.YtbhkdjheooknfaaGreatZCat
namespace Go.Proofs.YtbhkdjheooknfaaGreat
set_option linter.unusedVariables false
set_option linter.unusedSectionVars false
set_option linter.unusedSimpArgs false
open Go.RowKit
theorem getF_one (x : By) : wHj [x] = (x.toNat : Int) := by
 have : ∀ n : Nat, n < 256 → wHj [UInt8.ofNat n] = ((UInt8.ofNat n).toNat : Int) := by decide +kernel
 have h := this x.toNat x.toNat_lt
 rwa [UInt8.ofNat_toNat] at h
theorem bOr_add {a : Int} (h : 0 ≤ a ∧ a < 16777216) (y : By) : bOr .u32 (bShl .u32 a 8) (y.toNat : Int) = a * 256 + (y.toNat : Int) := by
 have hy := y.toNat_lt
 have h8 : bShl .u32 a 8 = a * 256 := by
  unfold bShl
  rw [IntKind.wrap_u32, show (2 : Int) ^ (min 8 IntKind.u32.bits) = 256 by decide]; omega
 rw [h8]
 unfold bOr
 rw [IntKind.wrap_u32]
 have e1 : (BitVec.ofInt IntKind.u32.bits (a * 256)).toNat = 2 ^ 8 * a.toNat := by
  rw [BitVec.toNat_ofInt]; show ((a * 256) % 4294967296).toNat = _; omega
 have e2 : (BitVec.ofInt IntKind.u32.bits (y.toNat : Int)).toNat = y.toNat := by
  rw [BitVec.toNat_ofInt]; show (((y.toNat : Int)) % 4294967296).toNat = _; omega
 rw [BitVec.toNat_or, e1, e2, ← Nat.two_pow_add_eq_or_of_lt (by omega)]
 omega
theorem getF_two (x y : By) : wHj [x, y] = (x.toNat : Int) * 256 + (y.toNat : Int) := by
 have hx := x.toNat_lt
 show wHj ([x] ++ [y]) = _
 rw [wFp, getF_one, bOr_add (by omega)]
theorem getF_four (x y z w : By) : wHj [x, y, z, w] = (((x.toNat : Int) * 256 + (y.toNat : Int)) * 256 + (z.toNat : Int)) * 256 + (w.toNat : Int) := by
 have hx := x.toNat_lt
 have hy := y.toNat_lt
 have hz := z.toNat_lt
 have h3 : wHj [x, y, z] = ((x.toNat : Int) * 256 + (y.toNat : Int)) * 256 + (z.toNat : Int) := by
  show wHj ([x, y] ++ [z]) = _
  rw [wFp, getF_two, bOr_add (by omega)]
 show wHj ([x, y, z] ++ [w]) = _
 rw [wFp, h3, bOr_add (by omega)]
theorem wFh (n : Int) {k : Int} (hk : 0 < k) : n.fdiv k = n / k := by rw [Int.fdiv_eq_ediv_of_nonneg _ (by omega)]
end Go.Proofs.YtbhkdjheooknfaaGreat
