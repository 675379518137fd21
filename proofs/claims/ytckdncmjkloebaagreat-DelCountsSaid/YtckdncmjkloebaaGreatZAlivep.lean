/- Walks: the example that each statement begins with; the items of a tree, compared. No statement of the seat is proved here. -/
import Derived.Test.YtckdncmjkloebaaGreatZLawb
namespace Go.Proofs.YtckdncmjkloebaaGreat
set_option linter.unusedVariables false
set_option linter.unusedSimpArgs false
open Go.RowKit
structure V4 where
 ba : Option Addr
 bn : Nat
 bc : Nat
 wa : Option Addr
 wn : Nat
 wc : Nat
 na : Option Addr
 nn : Nat
 nc : Nat
 la : Option Addr
 ln : Nat
 lc : Nat
abbrev vcl (x : V4) : List Value := [.slice x.ba x.bn x.bc, .slice x.wa x.wn x.wc, .slice x.na x.nn x.nc, .slice x.la x.ln x.lc]
structure GwS where
 k : Nat
 s : Sto
 r : Int
 M : Mem
 v : V4
def kyO (n : Int) : Ky := ⟨2, 0, n⟩
def itO (n : Int) : It := ⟨kyO n, 0, []⟩
def growF : Nat → Except Int (Sto × Int)
 | 0 => .ok (mkS st0 0 [], (wGq (wBb st0 []) : Int))
 | k + 1 => match growF k with
  | .error e => .error e
  | .ok (s, r) => putF s r (itO ((k + 1 : Nat) : Int))
def okE {α : Type} : Except Int α → Bool
 | .ok _ => true
 | .error _ => false
theorem new_ok : dmE st0 0 [] = 0 := by decide +kernel
theorem grow_zero : growF 0 = .ok (mkS st0 0 [], (wGq (wBb st0 []) : Int)) := rfl
theorem grow_all : ∀ k, k ≤ 6 → okE (growF k) = true := by decide +kernel
theorem grow_no {k : Nat} (h : k + 1 ≤ 6) {s : Sto} {r e : Int} (hg : growF k = .ok (s, r)) (he : putF s r (itO ((k + 1 : Nat) : Int)) = .error e) : False := by
 have h1 := grow_all (k + 1) h
 rw [growF, hg] at h1
 change okE (putF s r (itO ((k + 1 : Nat) : Int))) = true at h1
 rw [he] at h1; cases h1
theorem kyO_ok {n : Int} (h : 0 ≤ n ∧ n < 4294967296) : wDk (kyO n) := ⟨by show (0 : Int) ≤ 2 ∧ (2 : Int) < 256; omega, by show (0 : Int) ≤ 0 ∧ (0 : Int) < 4294967296; omega, h⟩
def wJc (s : Sto) (root : Int) : List It := if (wCj s root).2 = 0 then wKk s root else []
theorem allL_key {s : Sto} : ∀ {l : Nat} {xs : List It}, (∀ x ∈ xs, wDk x.key) → ∀ y ∈ wCc s l xs, wDk y.key
 | 0, xs, h, y, hy => by rw [wDq] at hy; exact h y hy
 | l + 1, xs, h, y, hy => by
  obtain ⟨z, hz, hyz⟩ := List.mem_flatMap.1 hy
  have hk : ∀ w ∈ kid s z, wDk w.key := by
   unfold kid
   split
   ·rename_i h; exact wHq h
   ·exact fun w hw => by cases hw
  exact allL_key hk y hyz
theorem allT_key {s : Sto} {root : Int} : ∀ y ∈ wKk s root, wDk y.key := by
 unfold wKk
 split
 ·rename_i h; exact allL_key (wHq h)
 ·exact fun y hy => by cases hy
theorem allR_rng (s : Sto) (root : Int) : (if (wCj s root).2 = 0 then rng s root ⟨0, 0, 0⟩ ⟨255, 4294967295, 4294967295⟩ else []) = wJc s root := by
 unfold wJc
 by_cases h : (wCj s root).2 = 0
 ·rw [if_pos h, if_pos h, rng_is h]
  refine List.filter_eq_self.2 fun y hy => ?_
  obtain ⟨k1, k2, k3⟩ := allT_key y hy
  unfold btw
  have h1 : wBe y.key ⟨0, 0, 0⟩ = false := by unfold wBe; exact decide_eq_false (by simp only; omega)
  have h2 : wBe ⟨255, 4294967295, 4294967295⟩ y.key = false := by unfold wBe; exact decide_eq_false (by simp only; omega)
  rw [h1, h2]; rfl
 ·rw [if_neg h, if_neg h]
theorem wHw (s : Sto) (root : Int) : (wJc s root).length ≤ 15625 := by
 rw [← allR_rng]
 split
 ·rename_i h; exact rng_len h _ _
 ·exact Nat.zero_le _
end Go.Proofs.YtckdncmjkloebaaGreat
