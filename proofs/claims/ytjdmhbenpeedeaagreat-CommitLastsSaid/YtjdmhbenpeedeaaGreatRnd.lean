/- Superblocks: what is written is read again (plain laws). -/
import Derived.Test.YtjdmhbenpeedeaaGreatRing
namespace Go.Proofs.YtjdmhbenpeedeaaGreat
set_option linter.unusedVariables false
set_option linter.unusedSimpArgs false
open Go.RowKit

theorem bU_nat (x : Int) : ((bU x).toNat : Int) = x % 256 := by
  unfold bU
  rw [UInt8.toNat_ofNat']
  omega
theorem getF_one (x : By) : getF [x] = (x.toNat : Int) := by
  have : ∀ n : Nat, n < 256 → getF [UInt8.ofNat n] = ((UInt8.ofNat n).toNat : Int) := by decide +kernel
  have h := this x.toNat x.toNat_lt
  rwa [UInt8.ofNat_toNat] at h
theorem bOr_add {a : Int} (h : 0 ≤ a ∧ a < 16777216) (y : By) : bOr .u32 (bShl .u32 a 8) (y.toNat : Int) = a * 256 + (y.toNat : Int) := by
  have hy := y.toNat_lt
  have h8 : bShl .u32 a 8 = a * 256 := by
    unfold bShl
    rw [IntKind.wrap_u32, show (2 : Int) ^ (min 8 IntKind.u32.bits) = 256 by decide]; omega
  rw [h8]
  unfold bOr
  rw [IntKind.wrap_u32]
  have e1 : (BitVec.ofInt IntKind.u32.bits (a * 256)).toNat = 2 ^ 8 * a.toNat := by
    rw [BitVec.toNat_ofInt]; show ((a * 256) % 4294967296).toNat = _; omega
  have e2 : (BitVec.ofInt IntKind.u32.bits (y.toNat : Int)).toNat = y.toNat := by
    rw [BitVec.toNat_ofInt]; show (((y.toNat : Int)) % 4294967296).toNat = _; omega
  rw [BitVec.toNat_or, e1, e2, ← Nat.two_pow_add_eq_or_of_lt (by omega)]
  omega
theorem getF_two (x y : By) : getF [x, y] = (x.toNat : Int) * 256 + (y.toNat : Int) := by
  have hx := x.toNat_lt
  show getF ([x] ++ [y]) = _
  rw [getF_snoc, getF_one, bOr_add (by omega)]
theorem getF_four (x y z w : By) : getF [x, y, z, w] = (((x.toNat : Int) * 256 + (y.toNat : Int)) * 256 + (z.toNat : Int)) * 256 + (w.toNat : Int) := by
  have hx := x.toNat_lt
  have hy := y.toNat_lt
  have hz := z.toNat_lt
  have h3 : getF [x, y, z] = ((x.toNat : Int) * 256 + (y.toNat : Int)) * 256 + (z.toNat : Int) := by
    show getF ([x, y] ++ [z]) = _
    rw [getF_snoc, getF_two, bOr_add (by omega)]
  show getF ([x, y, z] ++ [w]) = _
  rw [getF_snoc, h3, bOr_add (by omega)]
theorem fdiv_pos (n : Int) {k : Int} (hk : 0 < k) : n.fdiv k = n / k := by rw [Int.fdiv_eq_ediv_of_nonneg _ (by omega)]
theorem four_back {n : Int} (h : 0 ≤ n ∧ n < 4294967296) : getF (fourB n).reverse = n := by
  show getF [bU (bShr .u32 n 24), bU (bShr .u32 n 16), bU (bShr .u32 n 8), bU n] = n
  rw [getF_four, bU_nat, bU_nat, bU_nat, bU_nat]
  have e1 : bShr .u32 n 8 = n / 256 := fdiv_pos n (by decide)
  have e2 : bShr .u32 n 16 = n / 65536 := fdiv_pos n (by decide)
  have e3 : bShr .u32 n 24 = n / 16777216 := fdiv_pos n (by decide)
  rw [e1, e2, e3]; omega
theorem two_back {n : Int} (h : 0 ≤ n ∧ n < 65536) : getF (twoB n).reverse = n := by
  show getF [bU (bShr .i64 n 8), bU n] = n
  rw [getF_two, bU_nat, bU_nat]
  have e1 : bShr .i64 n 8 = n / 256 := fdiv_pos n (by decide)
  rw [e1]; omega
theorem getN_at (pre mid post : List By) {xs : List By} {a n : Nat} (hx : xs = pre ++ (mid ++ post)) (ha : a = pre.length) (hn : n = mid.length) : getN xs a n = getF mid.reverse := by
  subst hx ha hn
  unfold getN
  rw [List.drop_left, List.take_left]
theorem sumOf_range (xs : List By) : 0 ≤ sumOf xs ∧ sumOf xs < 4294967296 := by
  unfold sumOf bXor; rw [IntKind.wrap_u32]; omega
theorem seal_drop (b : List By) : (sealB b).drop 4 = padB b := rfl
theorem open_seal {b : List By} (h : b.length ≤ 124) : openE (sealB b) = 0 := by
  unfold openE
  rw [if_neg (by rw [sealB_len h]; decide), if_neg]
  rw [seal_drop, getN_at (xs := sealB b) (a := 0) (n := 4) [] (fourB (sumOf (padB b))) (padB b) rfl rfl rfl, four_back (sumOf_range _)]
  exact fun h => h rfl
/- a superblock's numbers in a block -/
def suNo (xs : List By) : Nat := (xs.getD 18 0).toNat
def rsu (xs : List By) : Su := ⟨getN (xs.drop 4) 0 4, getN (xs.drop 4) 4 2, getN (xs.drop 4) 6 4, getN (xs.drop 4) 10 4, (List.range (suNo xs)).map fun i => getN (xs.drop 4) (15 + 2 * i) 2⟩
def suIs (xs : List By) : Prop := openE xs = 0 ∧ 15 + 2 * suNo xs ≤ 124 ∧ suOk (rsu xs) ∧ suB (rsu xs) = xs
instance (xs : List By) : Decidable (suIs xs) := by unfold suIs; exact inferInstance
theorem twos_at (xs : List Int) (k : Nat) (h : k < xs.length) : ∃ pre post, xs.flatMap twoB = pre ++ (twoB xs[k] ++ post) ∧ pre.length = 2 * k := by
  refine ⟨(xs.take k).flatMap twoB, (xs.drop (k + 1)).flatMap twoB, ?_, ?_⟩
  · rw [← List.append_assoc, ← twos_step h, ← List.flatMap_append, List.take_append_drop]
  · rw [twos_len, List.length_take, Nat.min_eq_left (by omega)]
theorem su_back {x : Su} (h : suOk x) (hg : 0 ≤ x.gen ∧ x.gen < 4294967296) (hn : 0 ≤ x.next ∧ x.next < 4294967296) (ht : 0 ≤ x.table ∧ x.table < 4294967296) : suNo (suB x) = x.dead.length ∧ rsu (suB x) = x := by
  obtain ⟨hd, hr, hl⟩ := h
  unfold tk at hr
  have e4 : (suB x).drop 4 = padB (suRaw x) := rfl
  have ep : padB (suRaw x) = fourB x.gen ++ (twoB x.root ++ (fourB x.next ++ (fourB x.table ++ ([bU x.dead.length] ++ (x.dead.flatMap twoB ++ List.replicate (124 - (suRaw x).length) 0))))) := by
    unfold padB suRaw suHead
    simp only [List.flatten_cons, List.flatten_nil, List.append_assoc, List.append_nil]
  have hno : suNo (suB x) = x.dead.length := by
    have e : (suB x).getD 18 0 = bU x.dead.length := rfl
    unfold suNo
    rw [e]
    have := bU_nat x.dead.length
    omega
  refine ⟨hno, ?_⟩
  unfold rsu
  rw [hno, e4]
  rw [getN_at (xs := padB (suRaw x)) (a := 0) (n := 4) [] (fourB x.gen) _ (by rw [ep]; rfl) rfl rfl, four_back hg]
  rw [getN_at (xs := padB (suRaw x)) (a := 4) (n := 2) (fourB x.gen) (twoB x.root) _ (by rw [ep]) rfl rfl, two_back (by omega)]
  rw [getN_at (xs := padB (suRaw x)) (a := 6) (n := 4) (fourB x.gen ++ twoB x.root) (fourB x.next) _ (by rw [ep, List.append_assoc]) rfl rfl, four_back hn]
  rw [getN_at (xs := padB (suRaw x)) (a := 10) (n := 4) (fourB x.gen ++ (twoB x.root ++ fourB x.next)) (fourB x.table) ([bU x.dead.length] ++ (x.dead.flatMap twoB ++ List.replicate (124 - (suRaw x).length) 0)) (by rw [ep]; simp only [List.append_assoc]) rfl rfl, four_back ht]
  have hdead : ((List.range x.dead.length).map fun i => getN (padB (suRaw x)) (15 + 2 * i) 2) = x.dead := by
    refine List.ext_getElem (by simp) fun i h1 h2 => ?_
    rw [List.getElem_map, List.getElem_range]
    obtain ⟨pre, post, e, hp⟩ := twos_at x.dead i h2
    have ht := hd _ (List.getElem_mem h2)
    unfold tk at ht
    rw [getN_at (xs := padB (suRaw x)) (a := 15 + 2 * i) (n := 2) (fourB x.gen ++ (twoB x.root ++ (fourB x.next ++ (fourB x.table ++ ([bU x.dead.length] ++ pre))))) (twoB x.dead[i]) (post ++ List.replicate (124 - (suRaw x).length) 0) (by rw [ep, e]; simp only [List.append_assoc]) (by simp only [List.length_append, hp]; show _ = 4 + (2 + (4 + (4 + (1 + 2 * i)))); omega) rfl, two_back (by omega)]
  rw [hdead]
theorem su_is {x : Su} (h : suOk x) (hg : 0 ≤ x.gen ∧ x.gen < 4294967296) (hn : 0 ≤ x.next ∧ x.next < 4294967296) (ht : 0 ≤ x.table ∧ x.table < 4294967296) : suIs (suB x) ∧ rsu (suB x) = x := by
  obtain ⟨h1, h2⟩ := su_back h hg hn ht
  refine ⟨⟨open_seal (by rw [suRaw_len]; have := h.2.2; omega), by rw [h1]; have := h.2.2; omega, by rw [h2]; exact h, by rw [h2]⟩, h2⟩
/- the superblocks that are found -/
def fndAt (s : Sto) (k : Nat) : Option Su := if suIs (seen s k) ∧ (rsu (seen s k)).gen % 4 = (k : Int) then some (rsu (seen s k)) else none
def fndL (s : Sto) (n : Nat) : List Su := (List.range n).filterMap (fndAt s)
theorem fndL_step (s : Sto) (n : Nat) : fndL s (n + 1) = fndL s n ++ (fndAt s n).toList := by
  unfold fndL
  rw [List.range_succ, List.filterMap_append]
  cases h : fndAt s n <;> simp [h]
theorem fndL_len (s : Sto) : ∀ n, (fndL s n).length ≤ n
  | 0 => Nat.le_refl _
  | n + 1 => by
    rw [fndL_step, List.length_append]
    have := fndL_len s n
    cases fndAt s n <;> simp <;> omega
theorem fndL_mem {s : Sto} {x : Su} (h : suOk x) (hg : 0 ≤ x.gen ∧ x.gen < 4294967296) (hn : 0 ≤ x.next ∧ x.next < 4294967296) (ht : 0 ≤ x.table ∧ x.table < 4294967296) (hs : seen s (x.gen % 4).toNat = suB x) : x ∈ fndL s 4 := by
  obtain ⟨h1, h2⟩ := su_is h hg hn ht
  unfold fndL
  rw [List.mem_filterMap]
  refine ⟨(x.gen % 4).toNat, by rw [List.mem_range]; omega, ?_⟩
  unfold fndAt
  rw [hs, if_pos ⟨h1, by rw [h2]; omega⟩, h2]
end Go.Proofs.YtjdmhbenpeedeaaGreat
