/- Numbers and seals as bytes, and back (plain laws). No statement of the seat is proved here. -/
import Derived.Test.YtkjghgndmpbfiaaGreatZCat
namespace Go.Proofs.YtkjghgndmpbfiaaGreat
set_option linter.unusedVariables false
set_option linter.unusedSectionVars false
set_option linter.unusedSimpArgs false
open Go.RowKit

theorem bU_nat (x : Int) : ((bU x).toNat : Int) = x % 256 := by
 unfold bU
 rw [UInt8.toNat_ofNat']
 omega
theorem getF_one (x : By) : getF [x] = (x.toNat : Int) := by
 have : ∀ n : Nat, n < 256 → getF [UInt8.ofNat n] = ((UInt8.ofNat n).toNat : Int) := by decide +kernel
 have h := this x.toNat x.toNat_lt
 rwa [UInt8.ofNat_toNat] at h
theorem bOr_add {a : Int} (h : 0 ≤ a ∧ a < 16777216) (y : By) : bOr .u32 (bShl .u32 a 8) (y.toNat : Int) = a * 256 + (y.toNat : Int) := by
 have hy := y.toNat_lt
 have h8 : bShl .u32 a 8 = a * 256 := by
  unfold bShl
  rw [IntKind.wrap_u32, show (2 : Int) ^ (min 8 IntKind.u32.bits) = 256 by decide]; omega
 rw [h8]
 unfold bOr
 rw [IntKind.wrap_u32]
 have e1 : (BitVec.ofInt IntKind.u32.bits (a * 256)).toNat = 2 ^ 8 * a.toNat := by
  rw [BitVec.toNat_ofInt]; show ((a * 256) % 4294967296).toNat = _; omega
 have e2 : (BitVec.ofInt IntKind.u32.bits (y.toNat : Int)).toNat = y.toNat := by
  rw [BitVec.toNat_ofInt]; show (((y.toNat : Int)) % 4294967296).toNat = _; omega
 rw [BitVec.toNat_or, e1, e2, ← Nat.two_pow_add_eq_or_of_lt (by omega)]
 omega
theorem getF_two (x y : By) : getF [x, y] = (x.toNat : Int) * 256 + (y.toNat : Int) := by
 have hx := x.toNat_lt
 show getF ([x] ++ [y]) = _
 rw [getF_snoc, getF_one, bOr_add (by omega)]
theorem getF_four (x y z w : By) : getF [x, y, z, w] = (((x.toNat : Int) * 256 + (y.toNat : Int)) * 256 + (z.toNat : Int)) * 256 + (w.toNat : Int) := by
 have hx := x.toNat_lt
 have hy := y.toNat_lt
 have hz := z.toNat_lt
 have h3 : getF [x, y, z] = ((x.toNat : Int) * 256 + (y.toNat : Int)) * 256 + (z.toNat : Int) := by
  show getF ([x, y] ++ [z]) = _
  rw [getF_snoc, getF_two, bOr_add (by omega)]
 show getF ([x, y, z] ++ [w]) = _
 rw [getF_snoc, h3, bOr_add (by omega)]
theorem fdiv_pos (n : Int) {k : Int} (hk : 0 < k) : n.fdiv k = n / k := by rw [Int.fdiv_eq_ediv_of_nonneg _ (by omega)]
theorem four_back {n : Int} (h : 0 ≤ n ∧ n < 4294967296) : getF (fourB n).reverse = n := by
 show getF [bU (bShr .u32 n 24), bU (bShr .u32 n 16), bU (bShr .u32 n 8), bU n] = n
 rw [getF_four, bU_nat, bU_nat, bU_nat, bU_nat]
 have e1 : bShr .u32 n 8 = n / 256 := fdiv_pos n (by decide)
 have e2 : bShr .u32 n 16 = n / 65536 := fdiv_pos n (by decide)
 have e3 : bShr .u32 n 24 = n / 16777216 := fdiv_pos n (by decide)
 rw [e1, e2, e3]; omega
theorem two_back {n : Int} (h : 0 ≤ n ∧ n < 65536) : getF (twoB n).reverse = n := by
 show getF [bU (bShr .i64 n 8), bU n] = n
 rw [getF_two, bU_nat, bU_nat]
 have e1 : bShr .i64 n 8 = n / 256 := fdiv_pos n (by decide)
 rw [e1]; omega
theorem getN_at (pre mid post : List By) {xs : List By} {a n : Nat} (hx : xs = pre ++ (mid ++ post)) (ha : a = pre.length) (hn : n = mid.length) : getN xs a n = getF mid.reverse := by
 subst hx ha hn
 unfold getN
 rw [List.drop_left, List.take_left]
theorem sumOf_range (xs : List By) : 0 ≤ sumOf xs ∧ sumOf xs < 4294967296 := by
 unfold sumOf bXor; rw [IntKind.wrap_u32]; omega
theorem seal_drop (b : List By) : (sealB b).drop 4 = padB b := rfl
theorem open_seal {b : List By} (h : b.length ≤ 124) : openE (sealB b) = 0 := by
 unfold openE
 rw [if_neg (by rw [sealB_len h]; decide), if_neg]
 rw [seal_drop, getN_at (xs := sealB b) (a := 0) (n := 4) [] (fourB (sumOf (padB b))) (padB b) rfl rfl rfl, four_back (sumOf_range _)]
 exact fun h => h rfl
end Go.Proofs.YtkjghgndmpbfiaaGreat
