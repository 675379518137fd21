/- Walks: bytes made of numbers, and sealed. -/
import Derived.Test.YtkjghgndmpbfiaaGreatZSp
import Derived.Test.YtkjghgndmpbfiaaGreatZHk
namespace Go.Proofs.YtkjghgndmpbfiaaGreat
set_option linter.unusedVariables false
set_option linter.unusedSectionVars false
set_option linter.unusedSimpArgs false
open Go.RowKit

def bU (x : Int) : By := UInt8.ofNat (x % 256).toNat
theorem u8_bU (x : Int) : IntKind.u8.wrap x = ((bU x).toNat : Int) := by
 rw [IntKind.wrap_u8]
 unfold bU
 have : (x % 256).toNat < 256 := by omega
 rw [UInt8.toNat_ofNat_of_lt' (by simpa using this)]
 omega
def fourB (n : Int) : List By := [bU n, bU (bShr .u32 n 8), bU (bShr .u32 n 16), bU (bShr .u32 n 24)]
def twoB (n : Int) : List By := [bU n, bU (bShr .i64 n 8)]

theorem flat_take {bs : List (List By)} {k : Nat} (h : k < bs.length) : (bs.take (k + 1)).flatten = (bs.take k).flatten ++ bs[k] := by
 rw [List.take_succ_eq_append_getElem h, List.flatten_append]; simp
theorem flat_le {bs : List (List By)} (k : Nat) : (bs.take k).flatten.length ≤ bs.flatten.length := by
 conv => rhs; rw [← List.take_append_drop k bs, List.flatten_append, List.length_append]
 omega

/-! ### sum.Seal -/
def padB (b : List By) : List By := b ++ List.replicate (124 - b.length) 0
def sealB (b : List By) : List By := fourB (sumOf (padB b)) ++ padB b
theorem padB_len {b : List By} (h : b.length ≤ 124) : (padB b).length = 124 := by unfold padB; rw [List.length_append, List.length_replicate]; omega
theorem sealB_len {b : List By} (h : b.length ≤ 124) : (sealB b).length = 128 := by unfold sealB; rw [List.length_append, padB_len h]; rfl
theorem pad_cells {b : List By} (h : b.length ≤ 124) : ((List.replicate (124 : Int).toNat [Value.int .u8 0]).flatten).take 0 ++ bcells b ++ ((List.replicate (124 : Int).toNat [Value.int .u8 0]).flatten).drop (0 + (bcells b).length) = bcells (padB b) := by
 have e : (List.replicate (124 : Int).toNat [Value.int .u8 0]).flatten = List.replicate 124 (Value.int .u8 0) := by simp
 rw [e, bcells_len, List.take_zero, List.nil_append, Nat.zero_add, List.drop_replicate]
 unfold padB bcells
 rw [List.map_append, List.map_replicate]; rfl
theorem LS.two {M : Mem} {b : Nat} {u v : Value} {x y : List By} (h : M b = some (.cells [u, v].toArray 26 (0, 0))) (h1 : BS M u x) (h2 : BS M v y) : LS M (.slice (some ⟨b, 0, none⟩) 2 2) [x, y] :=
 ⟨_, 2, [(x, u), (y, v)], rfl, Nat.le_refl _, SM.of_block (l := [u, v]) h, rfl, fun p hp => by
  rcases List.mem_cons.1 hp with rfl | hp
  ·exact h1
  ·rw [List.mem_singleton.1 hp]; exact h2⟩

/-! ### item.Write -/
def itB (x : It) : List By := [bU x.key.kind] ++ fourB x.key.id ++ fourB x.key.off ++ twoB x.ref ++ [bU x.val.length] ++ x.val
theorem LS.six {M : Mem} {b : Nat} {u1 u2 u3 u4 u5 u6 : Value} {x1 x2 x3 x4 x5 x6 : List By} (h : M b = some (.cells [u1, u2, u3, u4, u5, u6].toArray 26 (0, 0))) (h1 : BS M u1 x1) (h2 : BS M u2 x2) (h3 : BS M u3 x3) (h4 : BS M u4 x4) (h5 : BS M u5 x5) (h6 : BS M u6 x6) : LS M (.slice (some ⟨b, 0, none⟩) 6 6) [x1, x2, x3, x4, x5, x6] :=
 ⟨_, 6, [(x1, u1), (x2, u2), (x3, u3), (x4, u4), (x5, u5), (x6, u6)], rfl, Nat.le_refl _, SM.of_block (l := [u1, u2, u3, u4, u5, u6]) h, rfl, fun p hp => by
  simp only [List.mem_cons, List.not_mem_nil, or_false] at hp
  rcases hp with rfl | rfl | rfl | rfl | rfl | rfl <;> assumption⟩
theorem one_bU {M : Mem} {b : Nat} {n : Int} (h : 0 ≤ n ∧ n < 256) (e : M b = some (.cells [.int .u8 n].toArray 5 (0, 0))) : BS M (.slice (some ⟨b, 0, none⟩) 1 1) [bU n] :=
 ⟨_, 1, rfl, Nat.le_refl _, SM.of_block (l := bcells [bU n]) (by
  have : ((bU n).toNat : Int) = n := by rw [← u8_bU, IntKind.wrap_u8]; omega
  simp only [bcells, List.map, this]; exact e)⟩

/-! ### node.Write -/
def ndRaw (lv : Int) (xs : List It) : List By := [78, bU lv, bU xs.length] ++ xs.flatMap itB
def ndB (lv : Int) (xs : List It) : List By := sealB (ndRaw lv xs)
theorem itB_len {x : It} (h : itBad x = false) : (itB x).length ≤ 24 := by
 unfold itBad at h
 have := of_decide_eq_false h
 simp [itB, fourB, twoB]; omega
theorem itBs_len : ∀ {xs : List It}, (∀ x ∈ xs, itBad x = false) → (xs.flatMap itB).length ≤ 24 * xs.length
 | [], _ => by simp
 | x :: xs, h => by
  have h1 := itB_len (h x (by simp))
  have h2 := itBs_len (fun y hy => h y (List.mem_cons_of_mem _ hy))
  rw [List.flatMap_cons, List.length_append, List.length_cons]; omega
theorem ndChk_ok {lv : Int} {xs : List It} (h : ¬ ndChk lv xs ≠ 0) : ndOk lv xs = true := by
 cases hn : ndOk lv xs
 ·exact absurd (by unfold ndChk; rw [hn]; decide) h
 ·rfl
theorem flat_step {xs : List It} {k : Nat} (h : k < xs.length) : (xs.take (k + 1)).flatMap itB = (xs.take k).flatMap itB ++ itB xs[k] := by
 rw [List.take_succ_eq_append_getElem h, List.flatMap_append]; simp

end Go.Proofs.YtkjghgndmpbfiaaGreat
