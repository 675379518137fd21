/- Nodes: what is written is read again (plain laws). No statement of the seat is proved here. -/
import Derived.Test.YtoincdcejjdgkaaGreatZTwin
import Derived.Test.YtoincdcejjdgkaaGreatZBench
namespace Go.Proofs.YtoincdcejjdgkaaGreat
set_option linter.unusedSimpArgs false
set_option linter.unusedVariables false
open Go.RowKit
theorem wJx (x : Int) : ((bU x).toNat : Int) = x % 256 := by
 unfold bU
 rw [UInt8.toNat_ofNat']
 omega
theorem getF_one (x : By) : wLr [x] = (x.toNat : Int) := by
 have : ∀ n : Nat, n < 256 → wLr [UInt8.ofNat n] = ((UInt8.ofNat n).toNat : Int) := by decide +kernel
 have h := this x.toNat x.toNat_lt
 rwa [UInt8.ofNat_toNat] at h
theorem bOr_add {a : Int} (h : 0 ≤ a ∧ a < 16777216) (y : By) : bOr .u32 (bShl .u32 a 8) (y.toNat : Int) = a * 256 + (y.toNat : Int) := by
 have hy := y.toNat_lt
 have h8 : bShl .u32 a 8 = a * 256 := by
  unfold bShl
  rw [IntKind.wrap_u32, show (2 : Int) ^ (min 8 IntKind.u32.bits) = 256 by decide]; omega
 rw [h8]
 unfold bOr
 rw [IntKind.wrap_u32]
 have e1 : (BitVec.ofInt IntKind.u32.bits (a * 256)).toNat = 2 ^ 8 * a.toNat := by
  rw [BitVec.toNat_ofInt]; show ((a * 256) % 4294967296).toNat = _; omega
 have e2 : (BitVec.ofInt IntKind.u32.bits (y.toNat : Int)).toNat = y.toNat := by
  rw [BitVec.toNat_ofInt]; show (((y.toNat : Int)) % 4294967296).toNat = _; omega
 rw [BitVec.toNat_or, e1, e2, ← Nat.two_pow_add_eq_or_of_lt (by omega)]
 omega
theorem getF_two (x y : By) : wLr [x, y] = (x.toNat : Int) * 256 + (y.toNat : Int) := by
 have hx := x.toNat_lt
 show wLr ([x] ++ [y]) = _
 rw [wHj, getF_one, bOr_add (by omega)]
theorem getF_four (x y z w : By) : wLr [x, y, z, w] = (((x.toNat : Int) * 256 + (y.toNat : Int)) * 256 + (z.toNat : Int)) * 256 + (w.toNat : Int) := by
 have hx := x.toNat_lt
 have hy := y.toNat_lt
 have hz := z.toNat_lt
 have h3 : wLr [x, y, z] = ((x.toNat : Int) * 256 + (y.toNat : Int)) * 256 + (z.toNat : Int) := by
  show wLr ([x, y] ++ [z]) = _
  rw [wHj, getF_two, bOr_add (by omega)]
 show wLr ([x, y, z] ++ [w]) = _
 rw [wHj, h3, bOr_add (by omega)]
theorem fdiv_pos (n : Int) {k : Int} (hk : 0 < k) : n.fdiv k = n / k := by rw [Int.fdiv_eq_ediv_of_nonneg _ (by omega)]
theorem wHk {n : Int} (h : 0 ≤ n ∧ n < 4294967296) : wLr (wCr n).reverse = n := by
 show wLr [bU (bShr .u32 n 24), bU (bShr .u32 n 16), bU (bShr .u32 n 8), bU n] = n
 rw [getF_four, wJx, wJx, wJx, wJx]
 have e1 : bShr .u32 n 8 = n / 256 := fdiv_pos n (by decide)
 have e2 : bShr .u32 n 16 = n / 65536 := fdiv_pos n (by decide)
 have e3 : bShr .u32 n 24 = n / 16777216 := fdiv_pos n (by decide)
 rw [e1, e2, e3]; omega
theorem two_back {n : Int} (h : 0 ≤ n ∧ n < 65536) : wLr (wGu n).reverse = n := by
 show wLr [bU (bShr .i64 n 8), bU n] = n
 rw [getF_two, wJx, wJx]
 have e1 : bShr .i64 n 8 = n / 256 := fdiv_pos n (by decide)
 rw [e1]; omega
theorem wHs (pre mid post : List By) {xs : List By} {a n : Nat} (hx : xs = pre ++ (mid ++ post)) (ha : a = pre.length) (hn : n = mid.length) : wHi xs a n = wLr mid.reverse := by
 subst hx ha hn
 unfold wHi
 rw [List.drop_left, List.take_left]
theorem sumOf_range (xs : List By) : 0 ≤ sumOf xs ∧ sumOf xs < 4294967296 := by
 unfold sumOf bXor; rw [IntKind.wrap_u32]; omega
theorem seal_drop (b : List By) : (sealB b).drop 4 = wLm b := rfl
theorem open_seal {b : List By} (h : b.length ≤ 124) : wEk (sealB b) = 0 := by
 unfold wEk
 rw [if_neg (by rw [wJg h]; decide), if_neg]
 rw [seal_drop, wHs (xs := sealB b) (a := 0) (n := 4) [] (wCr (sumOf (wLm b))) (wLm b) rfl rfl rfl, wHk (sumOf_range _)]
 exact fun h => h rfl
def wJn (k : Ky) : Prop := (0 ≤ k.kind ∧ k.kind < 256) ∧ (0 ≤ k.id ∧ k.id < 4294967296) ∧ (0 ≤ k.off ∧ k.off < 4294967296)
theorem itB_rd {x : It} (r : List By) (hb : wFo x = false) (hk : wJn x.key) : rdE (itB x ++ r) = 0 ∧ rdX (itB x ++ r) = x ∧ (itB x ++ r).drop (rdS (itB x ++ r)) = r := by
 obtain ⟨⟨k1, k2⟩, k3, k4⟩ := hk
 have hb2 := of_decide_eq_false (show decide _ = false from hb)
 have hv : x.val.length ≤ 12 := by omega
 have hr : 0 ≤ x.ref ∧ x.ref < 256 := by omega
 have e0 : itB x ++ r = [bU x.key.kind] ++ (wCr x.key.id ++ (wCr x.key.off ++ (wGu x.ref ++ ([bU x.val.length] ++ (x.val ++ r))))) := by
  unfold itB; simp only [List.append_assoc]
 have e11 : (itB x ++ r).getD 11 0 = bU x.val.length := by rw [e0]; rfl
 have hS : rdS (itB x ++ r) = 12 + x.val.length := by
  unfold rdS; rw [e11]; have := wJx x.val.length; omega
 have hl : (itB x ++ r).length = 12 + x.val.length + r.length := by
  rw [e0]; simp [wCr, wGu]; omega
 have h0 : (((itB x ++ r).getD 0 0).toNat : Int) = x.key.kind := by
  rw [e0]; show ((bU x.key.kind).toNat : Int) = _; rw [wJx]; omega
 have h1 : wHi (itB x ++ r) 1 4 = x.key.id := by
  rw [wHs (xs := itB x ++ r) (a := 1) (n := 4) [bU x.key.kind] (wCr x.key.id) _ e0 rfl rfl, wHk k3]
 have h5 : wHi (itB x ++ r) 5 4 = x.key.off := by
  rw [wHs (xs := itB x ++ r) (a := 5) (n := 4) ([bU x.key.kind] ++ wCr x.key.id) (wCr x.key.off) (wGu x.ref ++ ([bU x.val.length] ++ (x.val ++ r))) (by rw [e0]; simp only [List.append_assoc]) rfl rfl, wHk k4]
 have h9 : wHi (itB x ++ r) 9 2 = x.ref := by
  rw [wHs (xs := itB x ++ r) (a := 9) (n := 2) ([bU x.key.kind] ++ wCr x.key.id ++ wCr x.key.off) (wGu x.ref) ([bU x.val.length] ++ (x.val ++ r)) (by rw [e0]; simp only [List.append_assoc]) rfl rfl, two_back (by omega)]
 have hd : (itB x ++ r).drop 12 = x.val ++ r := by
  rw [e0]; rfl
 have hX : rdX (itB x ++ r) = x := by
  unfold rdX
  rw [h0, h1, h5, h9, hd, hS, Nat.add_sub_cancel_left, List.take_left]
 refine ⟨?_, hX, ?_⟩
 ·unfold rdE
  rw [if_neg (by omega), if_neg (by omega), hX]
  unfold wEw; rw [hb]; rfl
 ·rw [hS, ← List.drop_drop, hd, List.drop_left]
theorem items_rd : ∀ (xs : List It) (r : List By) (acc : List It), (∀ x ∈ xs, wFo x = false) → (∀ x ∈ xs, wJn x.key) → wDg xs.length (xs.flatMap itB ++ r) acc = some (acc ++ xs, r)
 | [], r, acc, _, _ => by simp [wDg]
 | x :: xs, r, acc, hb, hk => by
  obtain ⟨h1, h2, h3⟩ := itB_rd (x := x) (xs.flatMap itB ++ r) (hb x (by simp)) (hk x (by simp))
  rw [List.flatMap_cons, List.append_assoc, List.length_cons, rdItems_on h1, h2, h3, items_rd xs r (acc ++ [x]) (fun y hy => hb y (by simp [hy])) (fun y hy => hk y (by simp [hy]))]
  simp
theorem node_rd {lv : Int} {xs : List It} (hok : wHx lv xs = true) (hk : ∀ x ∈ xs, wJn x.key) : wFc (ndB lv xs) = some (lv, xs) := by
 have hno := NdOk.of hok
 have hbad := fun x hx => (wDb hno.ok x hx).1
 have hil := wKg hbad
 have hlv := hno.lev
 have hln := hno.len
 have hrl : (wFu lv xs).length = 3 + (xs.flatMap itB).length := by unfold wFu; rw [List.length_append]; rfl
 have hr : (wFu lv xs).length ≤ 124 := by omega
 have hd : (ndB lv xs).drop 4 = wLm (wFu lv xs) := rfl
 have hp : wLm (wFu lv xs) = [78, bU lv, bU xs.length] ++ (xs.flatMap itB ++ List.replicate (124 - (wFu lv xs).length) 0) := by
  unfold wLm; rw [← List.append_assoc]; rfl
 have g0 : ((wLm (wFu lv xs)).getD 0 0).toNat = 78 := by rw [hp]; rfl
 have g1 : (((wLm (wFu lv xs)).getD 1 0).toNat : Int) = lv := by rw [hp]; show ((bU lv).toNat : Int) = _; rw [wJx]; omega
 have g2 : ((wLm (wFu lv xs)).getD 2 0).toNat = xs.length := by
  have : (((wLm (wFu lv xs)).getD 2 0).toNat : Int) = xs.length := by rw [hp]; show ((bU xs.length).toNat : Int) = _; rw [wJx]; omega
  omega
 have g3 : (wLm (wFu lv xs)).drop 3 = xs.flatMap itB ++ List.replicate (124 - (wFu lv xs).length) 0 := by rw [hp]; rfl
 rw [wJh hd (open_seal hr) g0 (by omega), g1, g2, g3, items_rd xs _ [] hbad hk]
 have hz : wEu (List.replicate (124 - (wFu lv xs).length) 0) = true := by
  unfold wEu; rw [List.all_eq_true]; intro y hy; rw [(List.mem_replicate.1 hy).2]; rfl
 have hc : wFa lv xs = 0 := by unfold wFa; rw [if_pos (by simpa using hok)]
 show (if wFa lv ([] ++ xs) = 0 ∧ wEu (List.replicate (124 - (wFu lv xs).length) 0) = true then some (lv, [] ++ xs) else none) = _
 rw [List.nil_append, if_pos ⟨hc, hz⟩]
end Go.Proofs.YtoincdcejjdgkaaGreat
