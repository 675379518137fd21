/- Walks: the document's items: in order, as bytes, read, compared. -/
import Derived.Test.YtkcpllhggofloaaGreatZDelg
import Derived.Test.YtkcpllhggofloaaGreatZPut
import Derived.Test.YtkcpllhggofloaaGreatZStore
namespace Go.Proofs.YtkcpllhggofloaaGreat
set_option linter.unusedSimpArgs false
set_option linter.unusedVariables false
set_option linter.unusedSectionVars false
open Go.RowKit
def lessT (now : List By) (k : Nat) : Option (List By) := if now.getD k 0 = 0 then none else some (now.set k (now.getD k 0 - 1))
def wEo (sub : List By → Int → Option (List By)) (lv : Int) : List It → List By → Option (List By)
 | [], now => some now
 | x :: xs, now => if x.ref = 0 then wEo sub lv xs now else match (if lv = 0 then lessT now x.ref.toNat else sub now x.ref) with
  | none => none
  | some n => wEo sub lv xs n
def wCy (s : Sto) : Nat → List By → Int → Int → Option (List By)
 | 0, _, _, _ => none
 | f + 1, now, k, l => match lessT now k.toNat with
  | none => none
  | some out => if now.getD k.toNat 0 ≠ 1 then some out else match wBk s k.toNat with
   | none => none
   | some (lv, xs) => if 0 ≤ l ∧ lv ≠ l then none else wEo (fun n r => wCy s f n r (lv - 1)) lv xs out
abbrev Sto.wn (s : Sto) (now : List By) : Sto := { s with now := now }
theorem wKn {xs : List By} {k : Nat} (h : xs.getD k 0 ≠ 0) : k < xs.length := by
 by_cases hk : k < xs.length
 ·exact hk
 exact absurd (by simp [List.getD, List.getElem?_eq_none (by omega : xs.length ≤ k)]) h
theorem by_one {b : By} (h : b = 1) : b.toNat = 1 := by subst h; rfl
theorem looAll_sum : ∀ {xs : List It} {s t : Sto}, wEj xs s = some t → wEr t.now ≤ wEr s.now
 | [], s, t, h => by rw [wEj] at h; cases h; exact Nat.le_refl _
 | x :: xs, s, t, h => by
  rw [wEj] at h
  split at h
  ·exact looAll_sum h
  split at h
  ·rename_i hz
   have h2 := looAll_sum h
   have hz2 : s.now.getD x.ref.toNat 0 ≠ 0 := fun e => by unfold wDo at hz; rw [if_pos e] at hz; cases hz
   have := wEw (wKn hz2) hz2
   omega
  cases h
theorem lv_fuel {first : List By} : ∀ (n m : Nat) (s : Sto) (st : List (Int × Int)), wEr s.now ≤ n → wEr s.now ≤ m → lvF first n s st = lvF first m s st
 | 0, 0, _, _, _, _ => rfl
 | n, m, s, [], _, _ => by cases n <;> cases m <;> rfl
 | 0, m + 1, s, (k, l) :: st, h0, _ => by
  have hz : s.now.getD k.toNat 0 = 0 := Classical.byContradiction fun h => by have := wKx h; omega
  rw [wJg hz, wJg hz]
 | n + 1, 0, s, (k, l) :: st, _, h0 => by
  have hz : s.now.getD k.toNat 0 = 0 := Classical.byContradiction fun h => by have := wKx h; omega
  rw [wJg hz, wJg hz]
 | n + 1, m + 1, s, (k, l) :: st, hn, hm => by
  by_cases hz : s.now.getD k.toNat 0 = 0
  ·rw [wJg hz, wJg hz]
  by_cases h1 : s.now.getD k.toNat 0 = 1
  ·have hc := wGg (wKn hz) (by_one h1)
   cases hnd : wBk s k.toNat with
   | none => rw [lv_none hz h1 hnd, lv_none hz h1 hnd]
   | some r =>
    obtain ⟨lv, xs⟩ := r
    rw [wFm hz h1 hnd, wFm hz h1 hnd]
    split
    ·rfl
    split
    ·exact lv_fuel n m _ _ (by omega) (by omega)
    cases hl : wEj xs (wCo s k.toNat) with
    | none => rfl
    | some t =>
     have := looAll_sum hl
     exact lv_fuel n m _ _ (by omega) (by omega)
  have := wEw (wKn hz) hz
  rw [lv_more hz h1, lv_more hz h1]
  exact lv_fuel n m _ _ (by omega) (by omega)
theorem wFo {now : List By} {k : Nat} (h : now.getD k 0 = 0) : lessT now k = none := if_pos h
theorem wDt {now : List By} {k : Nat} (h : ¬ now.getD k 0 = 0) : lessT now k = some (now.set k (now.getD k 0 - 1)) := if_neg h
theorem looAll_is {s : Sto} {sub : List By → Int → Option (List By)} : ∀ (xs : List It) (now : List By), wEj xs (s.wn now) = (wEo sub 0 xs now).map s.wn
 | [], now => rfl
 | x :: xs, now => by
  rw [wEj, wEo]
  split
  ·exact looAll_is xs now
  by_cases hz : now.getD x.ref.toNat 0 = 0
  ·have he : wDo (s.wn now) x.ref.toNat ≠ 0 := by unfold wDo; rw [if_pos hz]; decide
   rw [if_neg he, if_pos rfl, wFo hz]; rfl
  have he : wDo (s.wn now) x.ref.toNat = 0 := by unfold wDo; rw [if_neg hz]
  rw [if_pos he, if_pos rfl, wDt hz]
  exact looAll_is xs _
theorem wn_nd {s : Sto} {now : List By} {k : Nat} (h : ¬ now.getD k 0 = 0) : wBk (s.wn now) k = wDg (seen s k) := by
 have hs : seen (s.wn now) k = seen s k := rfl
 unfold wBk; rw [if_neg h, hs]
theorem wJh {s : Sto} {sub : List By → Int → Option (List By)} {lv : Int} (hsub : ∀ n r n', sub n r = some n' → wEr n' ≤ wEr n) : ∀ (xs : List It) (now now' : List By), wEo sub lv xs now = some now' → wEr now' ≤ wEr now
 | [], now, now', h => by rw [wEo] at h; cases h; exact Nat.le_refl _
 | x :: xs, now, now', h => by
  rw [wEo] at h
  split at h
  ·exact wJh (s := s) hsub xs _ _ h
  split at h
  ·cases h
  rename_i n hn
  have h2 := wJh (s := s) hsub xs _ _ h
  split at hn
  ·by_cases hz : now.getD x.ref.toNat 0 = 0
   ·rw [wFo hz] at hn; cases hn
   rw [wDt hz] at hn; cases hn
   have := wEw (s := s.wn now) (wKn hz) hz
   have e : wEr (wBx (s.wn now) x.ref.toNat).now = wEr (now.set x.ref.toNat (now.getD x.ref.toNat 0 - 1)) := rfl
   have e2 : wEr (s.wn now).now = wEr now := rfl
   omega
  have := hsub _ _ _ hn; omega
theorem wLn {s : Sto} : ∀ (f : Nat) (now : List By) (k l : Int) (now' : List By), wCy s f now k l = some now' → wEr now' ≤ wEr now
 | 0, _, _, _, _, h => by rw [wCy] at h; cases h
 | f + 1, now, k, l, now', h => by
  rw [wCy] at h
  by_cases hz : now.getD k.toNat 0 = 0
  ·rw [wFo hz] at h; cases h
  have hs := wEw (s := s.wn now) (wKn hz) hz
  have e : wEr (wBx (s.wn now) k.toNat).now = wEr (now.set k.toNat (now.getD k.toNat 0 - 1)) := rfl
  have e2 : wEr (s.wn now).now = wEr now := rfl
  rw [wDt hz] at h
  change (if _ then some _ else _) = _ at h
  split at h
  ·cases h; omega
  split at h
  ·cases h
  split at h
  ·cases h
  have := wJh (s := s) (fun n r n' hn => wLn f n r _ n' hn) _ _ _ h
  omega
def Fl (f : Nat) (l : Int) : Prop := (l < 0 ∧ 6 ≤ f) ∨ (0 ≤ l ∧ l + 1 ≤ f)
theorem lv_is {s : Sto} : ∀ (f : Nat) (n : Nat) (now : List By) (k l : Int) (st : List (Int × Int)), Fl f l → wEr now ≤ n → lvF s.now n (s.wn now) ((k, l) :: st) = match wCy s f now k l with | none => none | some now' => lvF s.now n (s.wn now') st
 | 0, n, now, k, l, st, hf, hn => by rcases hf with hf | hf <;> omega
 | f + 1, n, now, k, l, st, hf, hn => by
  rw [wCy]
  by_cases hz : now.getD k.toNat 0 = 0
  ·rw [wFo hz]; exact wJg hz
  have hp := wKx hz
  obtain ⟨n, rfl⟩ : ∃ m, n = m + 1 := ⟨n - 1, by omega⟩
  rw [wDt hz]
  show _ = match (if now.getD k.toNat 0 ≠ 1 then some (now.set k.toNat (now.getD k.toNat 0 - 1)) else _) with | none => none | some now' => lvF s.now (n + 1) (s.wn now') st
  by_cases h1 : now.getD k.toNat 0 = 1
  ·rw [if_neg (by simpa using h1)]
   have hout : now.set k.toNat (now.getD k.toNat 0 - 1) = now.set k.toNat 0 := by rw [h1]; rfl
   have hcs := wGg (s := s.wn now) (wKn hz) (by_one h1)
   have e1 : wEr (wCo (s.wn now) k.toNat).now = wEr (now.set k.toNat 0) := rfl
   have e2 : wEr (s.wn now).now = wEr now := rfl
   rw [hout]
   have hw := wn_nd (s := s) (k := k.toNat) hz
   by_cases hs0 : s.now.getD k.toNat 0 = 0
   ·have hn0 : wBk s k.toNat = none := by unfold wBk; rw [if_pos hs0]
    rw [hn0]
    show _ = none
    cases hr : wDg (seen s k.toNat) with
    | none => exact lv_none hz h1 (by rw [hw, hr])
    | some r => obtain ⟨lv, xs⟩ := r; rw [wFm hz h1 (by rw [hw, hr]), if_pos (.inl hs0)]
   have hn0 : wBk s k.toNat = wDg (seen s k.toNat) := by unfold wBk; rw [if_neg hs0]
   cases hr : wDg (seen s k.toNat) with
   | none => rw [hn0, hr]; exact lv_none hz h1 (by rw [hw, hr])
   | some r =>
    obtain ⟨lv, xs⟩ := r
    have hnd : wBk s k.toNat = some (lv, xs) := by rw [hn0, hr]
    have hok := wBo hnd
    have hit := ndOk_items hnd
    rw [wFm hz h1 (by rw [hw, hr]), hnd]
    show _ = match (if 0 ≤ l ∧ lv ≠ l then none else wEo (fun n r => wCy s f n r (lv - 1)) lv xs (now.set k.toNat 0)) with | none => none | some now' => lvF s.now (n + 1) (s.wn now') st
    by_cases hc : 0 ≤ l ∧ lv ≠ l
    ·rw [if_pos (.inr hc), if_pos hc]
    rw [if_neg (fun h => h.elim hs0 hc), if_neg hc]
    have h6 := hok.lev.1
    have h7 := hok.lev.2
    by_cases hlv : 0 < lv
    ·rw [if_pos hlv]
     have hfl : Fl f (lv - 1) := by
      rcases hf with hf | hf
      ·right; omega
      right; have : lv = l := Classical.byContradiction fun h => hc ⟨hf.1, h⟩
      omega
     have go : ∀ (ys : List It) (now2 : List By) , (∀ y ∈ ys, y.ref ≠ 0) → wEr now2 ≤ n → lvF s.now n (s.wn now2) (wGu lv ys ++ st) = match wEo (fun n r => wCy s f n r (lv - 1)) lv ys now2 with | none => none | some now' => lvF s.now n (s.wn now') st := by
      intro ys
      induction ys with
      | nil => intro now2 _ _; rfl
      | cons y ys ih =>
       intro now2 hy hn2
       show lvF s.now n (s.wn now2) ((y.ref, lv - 1) :: (wGu lv ys ++ st)) = _
       rw [lv_is f n now2 y.ref (lv - 1) _ hfl hn2, wEo, if_neg (hy y (by simp)), if_neg (by omega)]
       cases hq : wCy s f now2 y.ref (lv - 1) with
       | none => rfl
       | some n3 =>
        have := wLn _ _ _ _ _ hq
        exact ih n3 (fun z hz => hy z (by simp [hz])) (by omega)
     refine (go xs (now.set k.toNat 0) (fun y hy => ((hit y hy).2.2 hlv).1) (by omega)).trans ?_
     cases hg : wEo (fun n r => wCy s f n r (lv - 1)) lv xs (now.set k.toNat 0) with
     | none => rfl
     | some n3 =>
      have := wJh (s := s) (fun n r n' hn => wLn f n r _ n' hn) _ _ _ hg
      exact lv_fuel _ _ _ _ (by show wEr n3 ≤ n; omega) (by show wEr n3 ≤ n + 1; omega)
    rw [if_neg hlv]
    obtain rfl : lv = 0 := by omega
    have hla := looAll_is (s := s) (sub := fun n r => wCy s f n r (0 - 1)) xs (now.set k.toNat 0)
    have hcl : wCo (s.wn now) k.toNat = s.wn (now.set k.toNat 0) := rfl
    rw [hcl, hla]
    cases hg : wEo (fun n r => wCy s f n r (0 - 1)) 0 xs (now.set k.toNat 0) with
    | none => rfl
    | some n3 =>
     have := wJh (s := s) (fun n r n' hn => wLn f n r _ n' hn) _ _ _ hg
     exact lv_fuel _ _ _ _ (by show wEr n3 ≤ n; omega) (by show wEr n3 ≤ n + 1; omega)
  rw [if_pos h1]
  have hs := wEw (s := s.wn now) (wKn hz) hz
  have e : wEr (wBx (s.wn now) k.toNat).now = wEr (now.set k.toNat (now.getD k.toNat 0 - 1)) := rfl
  have e2 : wEr (s.wn now).now = wEr now := rfl
  rw [lv_more hz h1]
  exact lv_fuel _ _ _ _ (by omega) (by show wEr (now.set k.toNat (now.getD k.toNat 0 - 1)) ≤ n + 1; omega)
theorem leave_is (s : Sto) (root : Int) : wGv s root = (wCy s 7 s.now root (-1)).map s.wn := by
 unfold wGv
 have h := lv_is (s := s) 7 (wEr s.now) s.now root (-1) [] (.inl ⟨by decide, by decide⟩) (Nat.le_refl _)
 refine h.trans ?_
 cases wCy s 7 s.now root (-1) with
 | none => rfl
 | some n => cases wEr s.now <;> rfl
section
variable {P : Program} {ops : Array Oper} {N : Fs} {F : Fr} {M : Mem} {L : Lc} {o : Oper}
theorem qQuo32 {xT yT : TypeId} {x y : Operand} {a b : Int} (hg : gd ops F o = some true) (ho : o.op = .binOp .quo xT x y yT) (hx : ev F x = some (.int .u32 a)) (hy : ev F y = some (.int .u32 b))
  (h1 : 0 ≤ a) (h2 : a < 4294967296) (h3 : 1 ≤ b) : QF P ops N F M L o (.int .u32 (a / b)) := wFd hg fun ac ha w _ => by
 have hb : b ≠ 0 := by omega
 have h4 : 0 ≤ a / b := Int.ediv_nonneg h1 (by omega)
 have h5 : a / b ≤ a := Int.ediv_le_self _ h1
 have e : IntKind.u32.wrap (a.tdiv b) = a / b := by rw [Int.tdiv_eq_ediv_of_nonneg h1, IntKind.wrap_u32]; omega
 simp only [execOp, ho, ha.ev hx, ha.ev hy]
 simp [eqGuard, binOp, Op.intDiv, hb, e]
end
theorem sub_list {α : Type} : ∀ (A L : List α), (∀ f : α → Nat, (A.map f).sum ≤ (L.map f).sum) → ∃ G, L.Perm (A ++ G)
 | [], L, _ => ⟨L, List.Perm.refl _⟩
 | a :: A, L, h => by
  classical
  have hm : a ∈ L := by
   refine Classical.byContradiction fun hn => ?_
   have h1 := h fun x => if x = a then 1 else 0
   have h2 : ∀ (l : List α), a ∉ l → (l.map fun x => if x = a then 1 else 0).sum = 0 := fun l => by
    induction l with
    | nil => intro _; rfl
    | cons y l ih => intro hy; simp only [List.mem_cons, not_or] at hy; rw [List.map_cons, List.sum_cons, ih hy.2, if_neg (Ne.symm hy.1)]
   rw [h2 L hn] at h1
   simp at h1
  obtain ⟨X, Y, rfl⟩ := List.append_of_mem hm
  obtain ⟨G, hG⟩ := sub_list A (X ++ Y) fun f => by
   have := h f
   simp only [List.map_append, List.map_cons, List.sum_append, List.sum_cons] at this ⊢
   omega
  exact ⟨G, List.perm_middle.trans (List.Perm.cons a hG)⟩
theorem St.subC {E : Ent} {M : Mem} {L L' : Lc} {w : World} (h : St E M L w) (hc : ∀ f : Nat × Obj → Nat, (L'.map f).sum ≤ (L.map f).sum) : St E M L' w := by
 obtain ⟨G, hG⟩ := sub_list _ _ hc
 exact (h.perm hG).fewer (List.sublist_append_left _ _)
def lowB : Int → Nat → List By
 | _, 0 => []
 | n, m + 1 => bU n :: lowB (n / 256) m
theorem bU_mod (n : Int) : bU (n % 256) = bU n := by unfold bU; rw [Int.emod_emod_of_dvd _ (by decide)]
theorem lowB_two {n : Int} (h : 0 ≤ n) : lowB n 2 = twoB n := by
 unfold lowB lowB lowB twoB
 rw [show bShr .i64 n 8 = n / 256 from wEi n (by decide)]
theorem lowB_four {n : Int} (h : 0 ≤ n) : lowB n 4 = wFe n := by
 unfold lowB lowB lowB lowB lowB wFe
 rw [show bShr .u32 n 8 = n / 256 from wEi n (by decide), show bShr .u32 n 16 = n / 65536 from wEi n (by decide), show bShr .u32 n 24 = n / 16777216 from wEi n (by decide)]
 rw [show n / 256 / 256 = n / 65536 by omega, show n / 65536 / 256 = n / 16777216 by omega]
structure LowI (n : Int) (m : Nat) (z : Nat × Int × Value × Lc × List By) : Prop where
 le : z.1 ≤ m
 len : z.2.2.2.2.length = z.1
 lo : 0 ≤ z.2.1
 hi : z.2.1 < 4611686018427387904
 eq : z.2.2.2.2 ++ lowB z.2.1 (m - z.1) = lowB n m
 own : Own z.2.2.1 z.2.2.2.1 5 1 z.1 (wAj z.2.2.2.2)
def numL : List By → Int
 | [] => 0
 | x :: xs => numL xs * 256 + (x.toNat : Int)
theorem numL_bd : ∀ xs : List By, xs.length ≤ 4 → 0 ≤ numL xs ∧ numL xs < 4294967296
 | [], _ => by decide
 | [a], _ => by have := a.toNat_lt; simp only [numL]; omega
 | [a, b], _ => by have := a.toNat_lt; have := b.toNat_lt; simp only [numL]; omega
 | [a, b, c], _ => by have := a.toNat_lt; have := b.toNat_lt; have := c.toNat_lt; simp only [numL]; omega
 | [a, b, c, d], _ => by have := a.toNat_lt; have := b.toNat_lt; have := c.toNat_lt; have := d.toNat_lt; simp only [numL]; omega
theorem numL_four {xs : List By} {a : Nat} (h : a + 4 ≤ xs.length) : numL ((xs.drop a).take 4) = wJa xs a 4 := by
 unfold wJa
 have hl : ((xs.drop a).take 4).length = 4 := by rw [List.length_take, List.length_drop]; omega
 match (xs.drop a).take 4, hl with
 | [p, q, r, s], _ => show _ = wLw [s, r, q, p]; rw [getF_four]; simp only [numL]; omega
theorem numL_two {xs : List By} {a : Nat} (h : a + 2 ≤ xs.length) : numL ((xs.drop a).take 2) = wJa xs a 2 := by
 unfold wJa
 have hl : ((xs.drop a).take 2).length = 2 := by rw [List.length_take, List.length_drop]; omega
 match (xs.drop a).take 2, hl with
 | [p, q], _ => show _ = wLw [q, p]; rw [wLv]; simp only [numL]; omega
theorem numL_drop {xs : List By} {k : Nat} (h : k < xs.length) : numL (xs.drop k) = numL (xs.drop (k + 1)) * 256 + (xs[k].toNat : Int) := by
 rw [List.drop_eq_getElem_cons h, numL]
def hstep (s : Int) : Int := if s % 2 = 1 then bXor .u32 (s / 2) 3988292384 else s / 2
def hrep : Nat → Int → Int
 | 0, s => s
 | k + 1, s => hstep (hrep k s)
theorem wMc (a b : Int) : 0 ≤ bXor .u32 a b ∧ bXor .u32 a b < 4294967296 := by
 unfold bXor; rw [IntKind.wrap_u32]; omega
theorem hrep_bd {s : Int} (h : 0 ≤ s ∧ s < 4294967296) : ∀ k, 0 ≤ hrep k s ∧ hrep k s < 4294967296
 | 0 => h
 | k + 1 => by
  have := hrep_bd h k
  unfold hrep hstep
  split
  ·exact wMc _ _
  omega
def htab (k : Nat) : List Int := (List.range k).map (fun i : Nat => hrep 4 (i : Int)) ++ List.replicate (16 - k) 0
theorem htab_val : htab 16 = ftabV := by decide +kernel
theorem htab_len {k : Nat} (h : k ≤ 16) : (htab k).length = 16 := by simp [htab]; omega
theorem htab_step {k : Nat} (h : k < 16) (o : Nat) (ho : o = k) : (wDs (htab k)).take o ++ [Value.int .u32 (hrep 4 k)] ++ (wDs (htab k)).drop (o + [Value.int .u32 (hrep 4 k)].length) = wDs (htab (k + 1)) := by
 subst ho
 have hr : ((List.range o).map (fun i : Nat => hrep 4 (i : Int))).length = o := by simp
 have e1 : (htab o).take o = (List.range o).map (fun i : Nat => hrep 4 (i : Int)) := by unfold htab; exact List.take_left' hr
 have e2 : (htab o).drop (o + 1) = List.replicate (16 - (o + 1)) 0 := by
  unfold htab
  rw [List.drop_append, List.drop_eq_nil_of_le (by omega), hr, List.nil_append, List.drop_replicate]
  congr 1; omega
 simp only [wDs, ← List.map_take, ← List.map_drop, List.length_singleton, e1, e2]
 unfold htab
 rw [List.range_succ]
 simp
theorem htab_get {i : Int} (h : 0 ≤ i ∧ i < 16) : (wDs (htab 16))[0 + i.toNat * 1]? = some (.int .u32 (tabAt i)) := by
 rw [htab_val, Nat.zero_add, Nat.mul_one]
 have : i.toNat < ftabV.length := by simp [ftabV]; omega
 simp [wDs, tabAt, List.getD, this]
theorem nib_is {s : Int} (h : 0 ≤ s ∧ s < 4294967296) : bXor .u32 (s / 16) (tabAt (s % 16)) = ofNib s := by
 unfold ofNib
 have e1 : bShr .u32 s 4 = s / 16 := wEi s (by decide)
 have e2 : bAnd .u32 s 15 = s % 16 := by
  unfold bAnd
  rw [IntKind.wrap_u32]
  have e1 : (BitVec.ofInt IntKind.u32.bits s).toNat = s.toNat := by
   rw [BitVec.toNat_ofInt]; show ((s) % 4294967296).toNat = _; omega
  have e2 : (BitVec.ofInt IntKind.u32.bits 15).toNat = 2 ^ 4 - 1 := by decide
  rw [BitVec.toNat_and, e1, e2, Nat.and_two_pow_sub_one_eq_mod]
  omega
 rw [e1, e2]
theorem nib_bd (s : Int) : 0 ≤ ofNib s ∧ ofNib s < 4294967296 := wMc _ _
theorem ofFold_snoc (xs : List By) (x : By) : wHf (xs ++ [x]) = ofStep (wHf xs) x := by unfold wHf; rw [List.foldl_append]; rfl
theorem bXor_comm (a b : Int) : bXor .u32 a b = bXor .u32 b a := by unfold bXor; rw [BitVec.xor_comm]
theorem rbytes_spec (n : Int) (m : Nat) (M : Mem) (h0 : 0 ≤ n) (h1 : n < 4611686018427387904) (hm : m ≤ 100) :
  SpecL Tryz.prog 126 #[.int .i64 n, .int .i64 m] M [] fun u M' L' => M' = M ∧ Own u L' 5 1 m (wAj (lowB n m)) := by
 refine wAf (vs := [_, _]) 21 _ Tryz.func126 rfl Tryz.ntmps126 rfl rfl ?_; intro W
 refine wAb (wAa (jp rfl (wAc (jT (wAb (wAa (jp rfl (wAc (jT (wAb (wAb (wAa (jp rfl (wAc (jT (wAh ?_))))))))))))))))
 refine wAv (α := Nat × Int × Value × Lc × List By) (fun z => [(0, .int .i64 z.2.1), (1, .int .i64 m), (5, z.2.2.1), (6, .int .i64 z.1)]) (fun _ => M) (fun z => z.2.2.2.1) (fun z => LowI n m z) (fun z => m - z.1)
  (0, n, .slice none 0 0, [], []) (.cons (t := 0) rfl (.cons (t := 1) rfl (.cons (t := 5) rfl (.cons (t := 6) rfl .nil)))) ⟨Nat.zero_le _, rfl, h0, h1, rfl, Own.nil _ _⟩ (fun _ h => h) ?_
 rintro ⟨i, n2, out, R, pre⟩ hI
 have hl0 := hI.lo
 have hh0 := hI.hi
 have hle := hI.le
 dsimp only at hl0 hh0 hle ⊢
 refine wAb (wAb (wAa (jp rfl (jp rfl (js rfl (fun h9 => ?_) (fun h9 => ?_))))))
 ·refine wAc (jT (wAg rfl (wAd (jT (wAb (wAh (wAb (wAa (jp rfl (jp rfl (wAi rfl rfl (qRem rfl rfl rfl rfl (by omega) (by omega)) ?_)))))))))))
  refine wAi rfl rfl (qEq (wDw rfl rfl rfl) (v' := .int .u8 ((bU n2).toNat : Int)) (by rw [wKb, bU_mod])) ?_
  refine wAy rfl rfl (wAn (cs := [_]) rfl rfl rfl (by rfl) (by rfl) (by rfl)) ?_; rintro _ _ _ ⟨b16, rfl, rfl, rfl⟩
  refine wAy rfl rfl (wDv (R := R) (news := [Value.int .u8 ((bU n2).toNat : Int)]) rfl rfl rfl rfl hI.own rfl (fun j v hv => CJ.loc (by rw [Nat.zero_add]; simpa using hv)) rfl rfl (fun u hu => by rw [List.mem_singleton.1 hu]; rfl) (by omega) (by omega)) ?_; rintro out2 _ _ ⟨rfl, R3, rfl, hown2, _⟩
  refine jp rfl (wAc (jT (wAa (jp rfl (wAi rfl rfl (qQuo rfl rfl rfl rfl (by omega) (by omega) (by omega)) ?_)))))
  refine jp rfl (wAc (jB (jT (wAa (jp rfl (ja rfl (by omega) ?_))))))
  refine jp rfl (wAc ?_)
  refine wAp (i + 1, n2 / 256, out2, R3, pre ++ [bU n2]) (.cons (t := 0) rfl (.cons (t := 1) rfl (.cons (t := 5) rfl (.cons (t := 6) rfl .nil)))) ⟨by show i + 1 ≤ m; omega, by show (pre ++ [bU n2]).length = i + 1; rw [List.length_append, hI.len]; rfl, by show 0 ≤ n2 / 256; omega, by show n2 / 256 < _; omega, ?_, ?_⟩ (by show m - (i + 1) < m - i; omega) (fun _ h => h.subC fun f => by simp only [List.map_append, List.map_cons, List.map_nil, List.sum_append, List.sum_cons, List.sum_nil]; omega)
  ·have e := hI.eq; dsimp only at e ⊢; rw [← e, show m - i = m - (i + 1) + 1 by omega, lowB, List.append_assoc]; rfl
  show Own out2 R3 _ 1 (i + 1) (wAj (pre ++ [bU n2])); unfold wAj; rw [List.map_append]; exact hown2
 refine wAc (jT (wAk rfl (wAw (jTx (jTx (jBx (jT (wAb (wAa (jp rfl (jp rfl (wAc (jT (wAe (jr1 rfl rfl ?_)))))))))))))))
 obtain rfl : i = m := by omega
 have e := hI.eq
 dsimp only at e
 rw [Nat.sub_self, lowB, List.append_nil] at e
 subst e
 exact ⟨rfl, hI.own⟩
theorem rfour_spec (n : Int) (M : Mem) (h0 : 0 ≤ n) (h1 : n < 4294967296) :
  SpecL Tryz.prog 125 #[.int .u32 n] M [] fun u M' L' => M' = M ∧ Own u L' 5 1 4 (wAj (wFe n)) := by
 refine wAf (vs := [_]) 6 _ Tryz.func125 rfl Tryz.ntmps125 rfl rfl ?_; intro W
 refine wAb (wAa (jp rfl (wAc (jT (wAb (wAa (jp rfl (wAi rfl rfl (wEm rfl rfl rfl (by omega)) ?_))))))))
 refine wAy rfl rfl (wAu rfl rfl rfl rfl rfl (by kernel_rfl) (rbytes_spec n 4 M h0 (by omega) (by omega))) ?_; rintro _ M _ ⟨_, _, rfl, ⟨rfl, hown⟩⟩
 rw [lowB_four h0] at hown
 refine jp rfl (wAc (jT (wAe ?_)))
 simp only [List.append_nil]
 refine jr1 rfl rfl ?_
 exact ⟨rfl, hown⟩
theorem rnumber_spec (sa : Option Addr) (c : Nat) (xs : List By) (M : Mem) (hs : SM M sa (wAj xs)) (hc : xs.length ≤ c) (h4 : xs.length ≤ 4) :
  SpecL Tryz.prog 123 #[.slice sa xs.length c] M [] fun u _ _ => u = .int .i64 (numL xs) := by
 refine wAf (vs := [_]) 21 _ Tryz.func123 rfl Tryz.ntmps123 rfl rfl ?_; intro W
 refine wAb (wAa (jp rfl (wAc (jT (wAb (wAa (jp rfl (wAc (jT (wAb (wAb (wAa (jp rfl (wAi rfl rfl (wBj rfl rfl rfl) ?_))))))))))))))
 refine ja rfl (by omega) ?_
 refine jp rfl (wAc (jT (wAh ?_)))
 refine wAv (α := Nat) (fun k => [(0, .slice sa xs.length c), (3, .int .i64 (numL (xs.drop k))), (4, .int .i64 ((k : Int) - 1))]) (fun _ => M) (fun _ => []) (fun k => k ≤ xs.length) (fun k => k)
  xs.length (.cons (t := 0) rfl (Keep.ceq (t := 3) rfl (by rw [List.drop_length]; rfl) (.cons (t := 4) rfl .nil))) (Nat.le_refl _) (fun _ h => h) ?_
 intro k hk
 try dsimp only at hk ⊢
 refine wAb (wAb (wAa (jp rfl (js rfl (fun h9 => ?_) (fun h9 => ?_)))))
 ·refine wAc (jT (wAg rfl (wAd (jT (wAb (wAh (wAa (jp rfl ?_))))))))
  have hk1 : k - 1 < xs.length := by omega
  obtain ⟨sb, so, e0, hx⟩ := hs.open (by intro e; have := congrArg List.length e; rw [wAm, List.length_nil] at this; omega)
  subst e0
  obtain ⟨j, rfl⟩ : ∃ j : Nat, k = j + 1 := ⟨k - 1, by omega⟩
  have hj : j < xs.length := by omega
  have hnb := numL_bd (xs.drop (j + 1)) (by rw [List.length_drop]; omega)
  have hxb := xs[j].toNat_lt
  refine wAi rfl rfl (qA rfl rfl rfl rfl rfl (by omega)) ?_
  refine jp rfl (jp rfl (wAi rfl rfl (wBe rfl rfl rfl rfl (by omega)) ?_))
  refine wAi rfl rfl (qLd rfl rfl rfl rfl ((hx (((((j + 1 : Nat) : Int) - 1)).toNat * 1) (.int .u8 xs[j].toNat) (by rw [show (((j + 1 : Nat) : Int) - 1).toNat = j by omega]; simp [wAj, hj])).cj _)) ?_
  refine wAi rfl rfl (wEm rfl rfl rfl (by omega)) ?_
  refine ja rfl (by omega) ?_
  refine jp rfl (wAc (jB (jT (wAa (jp rfl (ja rfl (by omega) ?_))))))
  refine jp rfl (wAc ?_)
  refine wAp j (.cons (t := 0) rfl (Keep.ceq (t := 3) rfl (by rw [numL_drop hj]) (Keep.ceq (t := 4) rfl (by congr 1; omega) Keep.nil))) (by omega) (by omega) (fun _ h => h)
 refine wAc (jT (wAk rfl (wAw (jTx (jTx (jBx (jT (wAb (wAa (jp rfl (jp rfl (wAc (jT (wAe (jr1 rfl rfl ?_)))))))))))))))
 obtain rfl : k = 0 := by omega
 rfl
theorem rthere_spec (sa : Option Addr) (n c a m : Nat) (M : Mem) (h : a + m ≤ n) (hn : n ≤ 1000000) :
  SpecL Tryz.prog 122 #[.slice sa n c, .int .i64 a, .int .i64 m] M [] fun u _ _ => u = .bool true := by
 refine wAf (vs := [_, _, _]) 23 _ Tryz.func122 rfl Tryz.ntmps122 rfl rfl ?_; intro W
 refine wAb (wAa (jp rfl (wAc (jT (wAb (wAa (jp rfl (jt rfl (decide_eq_true (by omega)) ?_))))))))
 refine jp rfl (jp rfl (jp rfl (wAi rfl rfl (wBj rfl rfl rfl) ?_)))
 refine jt rfl (decide_eq_true (by omega)) ?_
 refine jp rfl (jp rfl (jp rfl (wAi rfl rfl (wBj rfl rfl rfl) ?_)))
 refine jp rfl (ja rfl (by omega) ?_)
 refine jp rfl (jp rfl (jp rfl (jp rfl (wAc (jT (wAe (jr1 rfl rfl ?_)))))))
 exact congrArg Value.bool (decide_eq_true (by omega))
theorem rgetTwo_spec (sa : Option Addr) (c : Nat) (xs : List By) (a : Nat) (M : Mem) (hs : SM M sa (wAj xs)) (hc : xs.length ≤ c) (h : a + 2 ≤ xs.length) (hn : xs.length ≤ 1000000) :
  SpecL Tryz.prog 113 #[.slice sa xs.length c, .int .i64 a] M [] fun v _ _ => v = .tuple #[.int .i64 (wJa xs a 2), .int .i64 0] := by
 have hyl : ((xs.drop a).take 2).length = 2 := by rw [List.length_take, List.length_drop]; omega
 obtain ⟨sb, so, e0, hx⟩ := hs.open (by intro e; have := congrArg List.length e; rw [wAm, List.length_nil] at this; omega)
 subst e0
 have hgr := numL_bd ((xs.drop a).take 2) (by omega)
 refine wAf (vs := [_, _]) 16 _ Tryz.func113 rfl Tryz.ntmps113 rfl rfl ?_; intro W
 refine wAb (wAa (jp rfl (jp rfl (wAc (jT (wAb (wAb (wAa (jp rfl (jp rfl (wAi rfl rfl (qEq (wBr rfl rfl rfl rfl rfl (by kernel_rfl) (rthere_spec _ xs.length c a 2 M h hn)) (v' := .bool true) (by rfl)) ?_)))))))))))
 refine jp rfl (wAc (jT (wAk rfl (wAd (jT (wAb (wAa (jp rfl (jp rfl (jp rfl (ja rfl (by omega) ?_)))))))))))
 refine wAi rfl rfl (qEq (qSl rfl rfl rfl (.no _) (.of (v := a + 2) rfl (by omega) (by omega)) (.of (v := a) rfl (by omega) (by omega)) (by omega) (by simp)) (v' := .slice (some ⟨sb, so + a * 1, none⟩) ((xs.drop a).take 2).length (c - a)) (by rw [wBn (by omega), hyl, Nat.add_sub_cancel_left])) ?_
 refine wAi rfl rfl (wBr rfl rfl rfl rfl rfl (by kernel_rfl) (rnumber_spec (some ⟨sb, so + a * 1, none⟩) (c - a) ((xs.drop a).take 2) M (.inr ⟨sb, so + a * 1, rfl, SM.sub a 2 hx⟩) (by omega) (by omega))) ?_
 refine jp rfl (jp rfl (wAc (jT (wAe (jr2 rfl rfl rfl ?_)))))
 rw [numL_two h]
theorem wEh (sa : Option Addr) (c : Nat) (xs : List By) (a : Nat) (M : Mem) (hs : SM M sa (wAj xs)) (hc : xs.length ≤ c) (h : a + 4 ≤ xs.length) (hn : xs.length ≤ 1000000) :
  SpecL Tryz.prog 111 #[.slice sa xs.length c, .int .i64 a] M [] fun v _ _ => v = .tuple #[.int .u32 (wJa xs a 4), .int .i64 0] := by
 have hyl : ((xs.drop a).take 4).length = 4 := by rw [List.length_take, List.length_drop]; omega
 obtain ⟨sb, so, e0, hx⟩ := hs.open (by intro e; have := congrArg List.length e; rw [wAm, List.length_nil] at this; omega)
 subst e0
 have hgr := numL_bd ((xs.drop a).take 4) (by omega)
 refine wAf (vs := [_, _]) 17 _ Tryz.func111 rfl Tryz.ntmps111 rfl rfl ?_; intro W
 refine wAb (wAa (jp rfl (jp rfl (wAc (jT (wAb (wAb (wAa (jp rfl (jp rfl (wAi rfl rfl (qEq (wBr rfl rfl rfl rfl rfl (by kernel_rfl) (rthere_spec _ xs.length c a 4 M h hn)) (v' := .bool true) (by rfl)) ?_)))))))))))
 refine jp rfl (wAc (jT (wAk rfl (wAd (jT (wAb (wAa (jp rfl (jp rfl (jp rfl (ja rfl (by omega) ?_)))))))))))
 refine wAi rfl rfl (qEq (qSl rfl rfl rfl (.no _) (.of (v := a + 4) rfl (by omega) (by omega)) (.of (v := a) rfl (by omega) (by omega)) (by omega) (by simp)) (v' := .slice (some ⟨sb, so + a * 1, none⟩) ((xs.drop a).take 4).length (c - a)) (by rw [wBn (by omega), hyl, Nat.add_sub_cancel_left])) ?_
 refine wAi rfl rfl (wBr rfl rfl rfl rfl rfl (by kernel_rfl) (rnumber_spec (some ⟨sb, so + a * 1, none⟩) (c - a) ((xs.drop a).take 4) M (.inr ⟨sb, so + a * 1, rfl, SM.sub a 4 hx⟩) (by omega) (by omega))) ?_
 refine wAi rfl rfl (qConvK rfl rfl rfl (by rw [IntKind.wrap_u32]; omega)) ?_
 refine jp rfl (jp rfl (wAc (jT (wAe (jr2 rfl rfl rfl ?_)))))
 rw [numL_four h]
theorem halved_spec (s : Int) (m : Nat) (M : Mem) (h : 0 ≤ s ∧ s < 4294967296) (hm : m ≤ 100) :
  SpecL Tryz.prog 124 #[.int .u32 s, .int .i64 m] M [] fun u _ _ => u = .int .u32 (hrep m s) := by
 refine wAf (vs := [_, _]) 21 _ Tryz.func124 rfl Tryz.ntmps124 rfl rfl ?_; intro W
 refine wAb (wAa (jp rfl (wAc (jT (wAb (wAb (wAa (jp rfl (wAc (jT (wAh ?_)))))))))))
 refine wAv (α := Nat) (fun k => [(0, .int .u32 (hrep k s)), (1, .int .i64 m), (5, .int .i64 k)]) (fun _ => M) (fun _ => []) (fun k => k ≤ m) (fun k => m - k)
  0 (.cons (t := 0) rfl (.cons (t := 1) rfl (.cons (t := 5) rfl .nil))) (Nat.zero_le _) (fun _ h => h) ?_
 intro k hk
 try dsimp only at hk ⊢
 refine wAb (wAb (wAa (jp rfl (jp rfl (js rfl (fun h9 => ?_) (fun h9 => ?_))))))
 ·refine wAc (jT (wAg rfl (wAd (jT (wAb (wAh (wAb (wAa (jp rfl ?_)))))))))
  have hb := hrep_bd h k
  refine wAi rfl rfl (qRem rfl rfl rfl rfl (by omega) (by decide)) ?_
  refine jp rfl (wAc (jT (wAb (wAa (jp rfl (wAi rfl rfl (qQuo32 rfl rfl rfl rfl (by omega) (by omega) (by decide)) ?_))))))
  refine jp rfl (wAc (jT (wAb (wAa (jp rfl (js rfl (fun h17 => ?_) (fun h17 => ?_)))))))
  ·refine wAc (jT (wAg rfl (wAa (jp rfl (wAi rfl rfl (wLg rfl rfl rfl rfl rfl) ?_)))))
   refine jp rfl (wAc (jB (jT (wAa (jp rfl (ja rfl (by omega) ?_))))))
   refine jp rfl (wAc ?_)
   refine wAp (k + 1) (Keep.ceq (t := 0) rfl (by rw [hrep, hstep, if_pos h17]) (.cons (t := 1) rfl (.cons (t := 5) rfl .nil))) (by omega) (by omega) (fun _ h => h)
  refine wAc (jT (wAk rfl (wAd (jB (jT (wAa (jp rfl (ja rfl (by omega) ?_))))))))
  refine jp rfl (wAc ?_)
  refine wAp (k + 1) (Keep.ceq (t := 0) rfl (by rw [hrep, hstep, if_neg h17]) (.cons (t := 1) rfl (.cons (t := 5) rfl .nil))) (by omega) (by omega) (fun _ h => h)
 refine wAc (jT (wAk rfl (wAw (jTx (jTx (jBx (jT (wAb (wAa (jp rfl (jp rfl (wAc (jT (wAe (jr1 rfl rfl ?_)))))))))))))))
 obtain rfl : k = m := by omega
 rfl
set_option maxHeartbeats 2000000 in
theorem rof_spec (sa : Option Addr) (c : Nat) (xs : List By) (M : Mem) (hs : SM M sa (wAj xs)) (hn : xs.length ≤ 1000000) :
  SpecL Tryz.prog 112 #[.slice sa xs.length c] M [] fun v _ _ => v = .int .u32 (wJv xs) := by
 refine wAf (vs := [_]) 45 _ Tryz.func112 rfl Tryz.ntmps112 rfl rfl ?_; intro W
 refine wAb (wAa (jp rfl (wAc (jT (wAb (wAa (sAl rfl fun b3 => ?_)))))))
 refine wAc (jT (wAb (wAb (wAa (jp rfl (wAc (jT (wAh ?_))))))))
 refine wAv (α := Nat) (fun k => [(0, .slice sa xs.length c), (3, .pointer (some ⟨b3, 0, none⟩)), (4, .int .i64 k)]) (fun _ => M) (fun k => [(b3, .cells (wDs (htab k)).toArray 188 (0, 0))]) (fun k => k ≤ 16) (fun k => 16 - k)
  0 (.cons (t := 0) rfl (.cons (t := 3) rfl (.cons (t := 4) rfl .nil))) (by omega) (fun w h => by rw [show wDs (htab 0) = List.replicate 16 (Value.int .u32 0) from rfl]; exact h) ?_
 intro k hk
 try dsimp only at hk ⊢
 refine wAb (wAb (wAa (jp rfl (js rfl (fun h8 => ?_) (fun h8 => ?_)))))
 ·refine wAc (jT (wAg rfl (wAd (jT (wAb (wAh (wAa (jp rfl (jp rfl ?_)))))))))
  refine wAi rfl rfl (qConvK rfl rfl rfl (by rw [IntKind.wrap_u32]; omega)) ?_
  refine wAi rfl rfl (wBr rfl rfl rfl rfl rfl (by kernel_rfl) (halved_spec k 4 M (by omega) (by omega))) ?_
  refine wAi rfl rfl (qIdxA rfl rfl rfl rfl (by omega)) ?_
  have hfl := htab_len (k := k) (by omega)
  refine jl_s rfl (hStore rfl rfl rfl rfl rfl rfl (by simp [Value.oneCell']) (by simp only [wDs, List.length_map, List.length_cons, List.length_nil]; omega)) ?_; rintro _ _ _ ⟨rfl, rfl⟩
  rw [htab_step (k := k) (by omega) _ (by omega)]
  refine wAc (jB (jT (wAa (jp rfl (ja rfl (by omega) ?_)))))
  refine jp rfl (wAc ?_)
  refine wAp (k + 1) (.cons (t := 0) rfl (.cons (t := 3) rfl (.cons (t := 4) rfl .nil))) (by omega) (by omega) (fun _ h => h)
 refine wAc (jT (wAk rfl (wAw (jTx (jTx (jBx (jT (wAb (wAa (jp rfl (wAc (jT (wAb (wAb (wAa (jp rfl (wAc (jT (wAh ?_)))))))))))))))))))
 obtain rfl : k = 16 := by omega
 refine wAv (α := Nat) (fun j => [(0, .slice sa xs.length c), (3, .pointer (some ⟨b3, 0, none⟩)), (5, .int .u32 (wHf (xs.take j))), (6, .int .i64 j)]) (fun _ => M) (fun _ => [(b3, .cells (wDs (htab 16)).toArray 188 (0, 0))]) (fun j => j ≤ xs.length) (fun j => xs.length - j)
  0 (.cons (t := 0) rfl (.cons (t := 3) rfl (.cons (t := 5) rfl (.cons (t := 6) rfl .nil)))) (Nat.zero_le _) (fun _ h => h) ?_
 intro j hj
 try dsimp only at hj ⊢
 refine wAb (wAb (wAa (jp rfl (jp rfl (wAi rfl rfl (wBj rfl rfl rfl) ?_)))))
 refine js rfl (fun h19 => ?_) (fun h19 => ?_)
 ·refine wAc (jT (wAg rfl (wAd (jT (wAb (wAh (wAb (wAa (jp rfl (jp rfl (jp rfl ?_)))))))))))
  obtain ⟨b1, o1, e1, g1⟩ := hs.open (by intro e; have := congrArg List.length e; rw [wAm, List.length_nil] at this; omega)
  subst e1
  have hj1 : j < xs.length := by omega
  have hxb := xs[j].toNat_lt
  have n0 := wMc (wHf (xs.take j)) (xs[j].toNat : Int)
  have n1 := nib_bd (bXor .u32 (wHf (xs.take j)) (xs[j].toNat : Int))
  refine wAi rfl rfl (wBe rfl rfl rfl rfl (by omega)) ?_
  refine wAi rfl rfl (qLd rfl rfl rfl rfl ((g1 (((j : Nat) : Int).toNat * 1) (.int .u8 xs[j].toNat) (by simp [wAj, hj1])).cj _)) ?_
  refine wAi rfl rfl (qConvK rfl rfl rfl (by rw [IntKind.wrap_u32]; omega)) ?_
  refine wAi rfl rfl (wLg rfl rfl rfl rfl rfl) ?_
  refine jp rfl (wAc (jT (wAb (wAa (jp rfl (wAi rfl rfl (qQuo32 rfl rfl rfl rfl n0.1 n0.2 (by decide)) ?_))))))
  refine jp rfl (wAi rfl rfl (qRem rfl rfl rfl rfl n0.1 (by decide)) ?_)
  refine wAi rfl rfl (qIdxA rfl rfl rfl rfl (by omega)) ?_
  refine wAi rfl rfl (qLd rfl rfl rfl rfl (CJ.loc (htab_get (by omega)))) ?_
  refine wAi rfl rfl (qEq (wLg rfl rfl rfl rfl rfl) (v' := .int .u32 (ofNib (bXor .u32 (wHf (xs.take j)) (xs[j].toNat : Int)))) (by rw [← nib_is n0])) ?_
  refine jp rfl (wAc (jT (wAa (jp rfl (wAi rfl rfl (qQuo32 rfl rfl rfl rfl n1.1 n1.2 (by decide)) ?_)))))
  refine jp rfl (wAi rfl rfl (qRem rfl rfl rfl rfl n1.1 (by decide)) ?_)
  refine wAi rfl rfl (qIdxA rfl rfl rfl rfl (by omega)) ?_
  refine wAi rfl rfl (qLd rfl rfl rfl rfl (CJ.loc (htab_get (by omega)))) ?_
  refine wAi rfl rfl (qEq (wLg rfl rfl rfl rfl rfl) (v' := .int .u32 (wHf (xs.take (j + 1)))) (by rw [List.take_succ_eq_append_getElem hj1, ofFold_snoc]; exact congrArg (Value.int .u32) (nib_is n1))) ?_
  refine jp rfl (wAc (jB (jT (wAa (jp rfl (ja rfl (by omega) ?_))))))
  refine jp rfl (wAc ?_)
  refine wAp (j + 1) (.cons (t := 0) rfl (.cons (t := 3) rfl (.cons (t := 5) rfl (.cons (t := 6) rfl .nil)))) (by omega) (by omega) (fun _ h => h)
 refine wAc (jT (wAk rfl (wAw (jTx (jTx (jBx (jT (wAb (wAa (jp rfl (wAi rfl rfl (wLg rfl rfl rfl rfl rfl) ?_)))))))))))
 refine jp rfl (wAc (jT (wAe (wAr (L' := []) (List.nil_sublist _) ?_))))
 refine jr1 rfl rfl ?_
 obtain rfl : j = xs.length := by omega
 rw [List.take_length, bXor_comm]; rfl
theorem own_one {b : Nat} {n : Int} (h : 0 ≤ n ∧ n < 256) : Own (.slice (some ⟨b, 0, none⟩) 1 1) [(b, .cells [Value.int .u8 n].toArray 5 (0, 0))] 5 1 1 (wAj [bU n]) := by
 have e : ((bU n).toNat : Int) = n := by rw [← wKb, IntKind.wrap_u8]; omega
 have e2 : wAj [bU n] = [Value.int .u8 n] := by simp only [wAj, List.map, e]
 rw [e2]
 exact ⟨rfl, .inr ⟨b, 1, [Value.int .u8 n].toArray, rfl, rfl, Nat.le_refl _, by decide, rfl, rfl⟩⟩
theorem Own.to {v : Value} {R : Lc} {e : TypeId} {size n n' : Nat} {xs xs' : List Value} (h : Own v R e size n xs) (hn : n = n') (hx : xs = xs') : Own v R e size n' xs' := by subst hn hx; exact h
theorem wCw {M : Mem} {a : Option Addr} {xs : List By} (h : SM M a (wAj xs)) {k : Nat} (hk : k < xs.length) : ∃ b off, a = some ⟨b, off, none⟩ ∧ CM M b (off + ((k : Int)).toNat * 1) (.int .u8 (xs[k].toNat : Int)) := by
 obtain ⟨b, off, e, hx⟩ := h.open (by intro e; have := congrArg List.length e; rw [wAm, List.length_nil] at this; omega)
 exact ⟨b, off, e, by rw [Int.toNat_natCast, Nat.mul_one]; exact hx k _ (by simp [wAj, hk])⟩
theorem ropen_len (sa : Option Addr) (c : Nat) (xs : List By) (M : Mem) (hc : xs.length ≤ c) (hs : SM M sa (wAj xs)) (hn : xs.length ≤ 100000) (h : xs.length ≠ 128) :
  SpecL Tryz.prog 94 #[.slice sa xs.length c] M [] fun u _ L' => u = .tuple #[.slice none 0 0, .int .i64 3] ∧ L' = [] := by
 refine wAf (vs := [_]) 22 _ Tryz.func94 rfl Tryz.ntmps94 rfl rfl ?_; intro W
 refine wAb (wAa (jp rfl (jp rfl (wAc (jT (wAb (wAb (wAa (jp rfl (wAi rfl rfl (wBj rfl rfl rfl) ?_))))))))))
 refine jt rfl (decide_eq_true (by omega)) ?_
 refine wAc (jT (wAg rfl (wAb (wAa (jp rfl (jp rfl (wAc (jT (wAe (jTr (jr2 rfl rfl rfl ?_)))))))))))
 exact ⟨rfl, rfl⟩
theorem ropen_bad (sa : Option Addr) (c : Nat) (xs : List By) (M : Mem) (hc : xs.length ≤ c) (hs : SM M sa (wAj xs)) (hn : xs.length ≤ 100000) (h : xs.length = 128) (hb : wJa xs 0 4 ≠ wJv (xs.drop 4)) :
  SpecL Tryz.prog 94 #[.slice sa xs.length c] M [] fun u _ L' => u = .tuple #[.slice none 0 0, .int .i64 8] ∧ L' = [] := by
 obtain ⟨sb, so, e0, hx⟩ := hs.open (by intro e; have := congrArg List.length e; rw [wAm, List.length_nil] at this; omega)
 subst e0
 have hdl : (xs.drop 4).length = 124 := by rw [List.length_drop]; omega
 have hsub : SM M (some ⟨sb, so + 4 * 1, none⟩) (wAj (xs.drop 4)) := by
  have := SM.sub 4 124 hx
  rw [List.take_of_length_le (by rw [hdl]; exact Nat.le_refl _)] at this
  exact .inr ⟨sb, _, rfl, this⟩
 refine wAf (vs := [_]) 22 _ Tryz.func94 rfl Tryz.ntmps94 rfl rfl ?_; intro W
 refine wAb (wAa (jp rfl (jp rfl (wAc (jT (wAb (wAb (wAa (jp rfl (wAi rfl rfl (wBj rfl rfl rfl) ?_))))))))))
 refine jf rfl (decide_eq_false (by omega)) ?_
 refine wAc (jT (wAk rfl (wAd (jT (wAb (wAa (jp rfl (wAi rfl rfl (wBr rfl rfl rfl rfl rfl (by kernel_rfl) (wEh _ c xs 0 M hs hc (by omega) (by omega))) ?_))))))))
 refine jp rfl (jp rfl (jp rfl (jp rfl (jp rfl (wAc (jT (wAb (wAb (wAa (jp rfl (jp rfl ?_)))))))))))
 refine wAi rfl rfl (qEq (qSl rfl rfl rfl (.no _) (.no _) (.of (v := 4) rfl (by omega) rfl) (by omega) (by simp)) (v' := .slice (some ⟨sb, so + 4 * 1, none⟩) (xs.drop 4).length (c - 4)) (by rw [wBn (by omega), hdl]; congr 1; omega)) ?_
 refine wAi rfl rfl (wBr rfl rfl rfl rfl rfl (by kernel_rfl) (rof_spec _ (c - 4) (xs.drop 4) M hsub (by omega))) ?_
 refine jt rfl (decide_eq_true (by omega)) ?_
 refine wAc (jT (wAg rfl (wAb (wAa (jp rfl (jp rfl (wAc (jT (wAe (jTr (jr2 rfl rfl rfl ?_)))))))))))
 exact ⟨rfl, rfl⟩
theorem ropen_ok (sa : Option Addr) (c : Nat) (xs : List By) (M : Mem) (hc : xs.length ≤ c) (hs : SM M sa (wAj xs)) (hn : xs.length ≤ 100000) (h : xs.length = 128) (hb : wJa xs 0 4 = wJv (xs.drop 4)) :
  SpecL Tryz.prog 94 #[.slice sa xs.length c] M [] fun u M' L' => (∃ v, u = .tuple #[v, .int .i64 0] ∧ BS M' v (xs.drop 4)) ∧ L' = [] := by
 obtain ⟨sb, so, e0, hx⟩ := hs.open (by intro e; have := congrArg List.length e; rw [wAm, List.length_nil] at this; omega)
 subst e0
 have hdl : (xs.drop 4).length = 124 := by rw [List.length_drop]; omega
 have hsub : SM M (some ⟨sb, so + 4 * 1, none⟩) (wAj (xs.drop 4)) := by
  have := SM.sub 4 124 hx
  rw [List.take_of_length_le (by rw [hdl]; exact Nat.le_refl _)] at this
  exact .inr ⟨sb, _, rfl, this⟩
 refine wAf (vs := [_]) 22 _ Tryz.func94 rfl Tryz.ntmps94 rfl rfl ?_; intro W
 refine wAb (wAa (jp rfl (jp rfl (wAc (jT (wAb (wAb (wAa (jp rfl (wAi rfl rfl (wBj rfl rfl rfl) ?_))))))))))
 refine jf rfl (decide_eq_false (by omega)) ?_
 refine wAc (jT (wAk rfl (wAd (jT (wAb (wAa (jp rfl (wAi rfl rfl (wBr rfl rfl rfl rfl rfl (by kernel_rfl) (wEh _ c xs 0 M hs hc (by omega) (by omega))) ?_))))))))
 refine jp rfl (jp rfl (jp rfl (jp rfl (jp rfl (wAc (jT (wAb (wAb (wAa (jp rfl (jp rfl ?_)))))))))))
 refine wAi rfl rfl (qEq (qSl rfl rfl rfl (.no _) (.no _) (.of (v := 4) rfl (by omega) rfl) (by omega) (by simp)) (v' := .slice (some ⟨sb, so + 4 * 1, none⟩) (xs.drop 4).length (c - 4)) (by rw [wBn (by omega), hdl]; congr 1; omega)) ?_
 refine wAi rfl rfl (wBr rfl rfl rfl rfl rfl (by kernel_rfl) (rof_spec _ (c - 4) (xs.drop 4) M hsub (by omega))) ?_
 refine jf rfl (decide_eq_false (by omega)) ?_
 refine wAc (jT (wAk rfl (wAd (jT (wAb (wAa (jp rfl ?_)))))))
 refine wAi rfl rfl (qEq (qSl rfl rfl rfl (.no _) (.no _) (.of (v := 4) rfl (by omega) rfl) (by omega) (by simp)) (v' := .slice (some ⟨sb, so + 4 * 1, none⟩) (xs.drop 4).length (c - 4)) (by rw [wBn (by omega), hdl]; congr 1; omega)) ?_
 refine wAy rfl rfl (wCg (R := []) rfl rfl rfl rfl (Own.nil _ _) (by rw [wAm, Nat.mul_one]) hsub rfl (wBv _) (by omega) (by omega)) ?_; rintro v21 _ _ ⟨rfl, R21, rfl, o21⟩
 refine jp rfl (jp rfl (wAc (jT (wAe (wGy o21 (by simp) ?_)))))
 intro M5 a5 c5 hM5 e5 hc5 hs5; subst e5
 refine jr2 rfl rfl rfl ?_
 exact ⟨⟨_, rfl, a5, c5, by rw [Nat.zero_add], by omega, by simpa using hs5⟩, rfl⟩
theorem wHe (a b : Ky) (M : Mem) :
  SpecL Tryz.prog 48 #[.agg (wBb a).toArray, .agg (wBb b).toArray] M [] fun u _ _ => u = .bool (wBf a b) := by
 refine wAf (vs := [_, _]) 30 _ Tryz.func48 rfl Tryz.ntmps48 rfl rfl ?_; intro W
 refine wAb (wAa (wAy rfl rfl (wCm (cs := [_, _, _]) rfl rfl rfl rfl) ?_)); rintro _ _ _ ⟨b2, rfl, rfl, rfl⟩
 refine wAy rfl rfl (wCm (cs := [_, _, _]) rfl rfl rfl rfl) ?_; rintro _ _ _ ⟨b3, rfl, rfl, rfl⟩
 refine jp rfl (wAc (jT (wAb (wAb (wAa (sFL rfl rfl ?_))))))
 refine sFL rfl rfl ?_
 refine js rfl (fun h9 => ?_) (fun h9 => ?_)
 ·refine wAc (jT (wAg rfl (wAb (wAa (sFL rfl rfl ?_)))))
  refine sFL rfl rfl ?_
  refine jp rfl (jp rfl (wAc (jT (wAe (jTr (jr1 rfl rfl ?_))))))
  unfold wBf; exact congrArg Value.bool (decide_eq_decide.2 (by omega))
 refine wAc (jT (wAk rfl (wAd (jT (wAb (wAb (wAa (sFL rfl rfl ?_))))))))
 refine sFL rfl rfl ?_
 refine js rfl (fun h19 => ?_) (fun h19 => ?_)
 ·refine wAc (jT (wAg rfl (wAb (wAa (sFL rfl rfl ?_)))))
  refine sFL rfl rfl ?_
  refine jp rfl (jp rfl (wAc (jT (wAe (jTr (jr1 rfl rfl ?_))))))
  unfold wBf; exact congrArg Value.bool (decide_eq_decide.2 (by omega))
 refine wAc (jT (wAk rfl (wAd (jT (wAb (wAa (sFL rfl rfl ?_)))))))
 refine sFL rfl rfl ?_
 refine jp rfl (jp rfl (wAc (jT (wAe (jr1 rfl rfl ?_)))))
 unfold wBf; exact congrArg Value.bool (decide_eq_decide.2 (by omega))
theorem wJr (x : It) (va : Option Addr) (vc : Nat) (M : Mem) :
  SpecL Tryz.prog 114 #[.agg (itc x va vc).toArray] M [] fun u _ _ => u = .bool (!wDu x) := by
 refine wAf (vs := [_]) 22 _ Tryz.func114 rfl Tryz.ntmps114 rfl rfl ?_; intro W
 refine wAb (wAa (wAy rfl rfl (wCm (cs := [_, _, _, _, _]) rfl rfl rfl rfl) ?_)); rintro _ _ _ ⟨b1, rfl, rfl, rfl⟩
 refine jp rfl (wAc (jT (wAb (wAa (sFL rfl rfl ?_)))))
 refine js rfl (fun h5 => ?_) (fun h5 => ?_)
 ·iterate 11 refine jp rfl ?_
  refine sFL rfl rfl ?_
  refine wAi rfl rfl (wBj rfl rfl rfl) ?_
  refine jp rfl (jp rfl (jp rfl (wAc (jT (wAe (jr1 rfl rfl ?_))))))
  unfold wDu; rw [← decide_not]; first | exact congrArg Value.bool (decide_eq_decide.2 (by omega)) | exact congrArg Value.bool (decide_eq_false (by omega)).symm
 refine jp rfl (sFL rfl rfl ?_)
 refine js rfl (fun h9 => ?_) (fun h9 => ?_)
 ·refine jp rfl (sFL rfl rfl ?_)
  refine js rfl (fun h13 => ?_) (fun h13 => ?_)
  ·refine jp rfl (jp rfl (jp rfl (sFL rfl rfl ?_)))
   refine wAi rfl rfl (wBj rfl rfl rfl) ?_
   refine jp rfl (jp rfl (jp rfl (wAc (jT (wAe (jr1 rfl rfl ?_))))))
   unfold wDu; rw [← decide_not]; first | exact congrArg Value.bool (decide_eq_decide.2 (by omega)) | exact congrArg Value.bool (decide_eq_false (by omega)).symm
  iterate 9 refine jp rfl ?_
  refine wAc (jT (wAe (jr1 rfl rfl ?_)))
  unfold wDu; rw [← decide_not]; first | exact congrArg Value.bool (decide_eq_decide.2 (by omega)) | exact congrArg Value.bool (decide_eq_false (by omega)).symm
 iterate 13 refine jp rfl ?_
 refine wAc (jT (wAe (jr1 rfl rfl ?_)))
 unfold wDu; rw [← decide_not]; first | exact congrArg Value.bool (decide_eq_decide.2 (by omega)) | exact congrArg Value.bool (decide_eq_false (by omega)).symm
set_option maxHeartbeats 2000000 in
theorem rbytes5_spec (x : It) (va : Option Addr) (vc : Nat) (M : Mem) (hv : SM M va (wAj x.val)) (hk : 0 ≤ x.key.kind ∧ x.key.kind < 256) (hid : 0 ≤ x.key.id ∧ x.key.id < 4294967296) (hoff : 0 ≤ x.key.off ∧ x.key.off < 4294967296) (href : 0 ≤ x.ref ∧ x.ref < 65536) (hl : x.val.length ≤ 1000) :
  SpecL Tryz.prog 115 #[.agg (itc x va vc).toArray] M [] fun u M' L' => Own u L' 5 1 (itB x).length (wAj (itB x)) := by
 refine wAf (vs := [_]) 36 _ Tryz.func115 rfl Tryz.ntmps115 rfl rfl ?_; intro W
 refine wAb (wAa (wAy rfl rfl (wCm (cs := [_, _, _, _, _]) rfl rfl rfl rfl) ?_)); rintro _ _ _ ⟨b1, rfl, rfl, rfl⟩
 refine jp rfl (wAc (jT (wAb (wAa (sFa rfl ?_)))))
 refine sFL rfl rfl ?_
 refine wAy rfl rfl (wAn (cs := [_]) rfl rfl rfl (by rfl) (by rfl) (by rfl)) ?_; rintro _ _ _ ⟨b7, rfl, rfl, rfl⟩
 refine jl_weak (L' := [(b7, .cells [Value.int .u8 x.key.kind].toArray 5 (0, 0))] ++ _) (fun _ h => h) ?_
 have o7 := own_one (b := b7) hk
 refine jp rfl (wAc (jT (wAb (wAa (jp rfl (sFa rfl ?_))))))
 refine sFL rfl rfl ?_
 refine wAy rfl rfl (wAu rfl rfl rfl rfl rfl (by kernel_rfl) (rfour_spec x.key.id M hid.1 hid.2)) ?_; rintro _ M _ ⟨_, R12, rfl, ⟨rfl, o12⟩⟩
 refine wLp o12 (by simp) ?_
 intro M12 a12 c12 hM12 e12 hc12 hs12
 subst e12
 refine wAy rfl rfl (wCg (R := [(b7, .cells [Value.int .u8 x.key.kind].toArray 5 (0, 0))]) rfl rfl rfl rfl o7 (by rw [wAm]; rfl) hs12 rfl (wBv _) (by omega) (by omega)) ?_; rintro v13 _ _ ⟨rfl, R13, rfl, o13⟩
 refine jp rfl (wAc (jT (wAb (wAa (jp rfl (sFa rfl ?_))))))
 refine sFL rfl rfl ?_
 refine wAy rfl rfl (wAu rfl rfl rfl rfl rfl (by kernel_rfl) (rfour_spec x.key.off M12 hoff.1 hoff.2)) ?_; rintro _ M12 _ ⟨_, R18, rfl, ⟨rfl, o18⟩⟩
 refine wLp o18 (by simp) ?_
 intro M18 a18 c18 hM18 e18 hc18 hs18
 subst e18
 refine wAy rfl rfl (wCg (R := R13) rfl rfl rfl rfl o13 (by rw [wAm]; rfl) hs18 rfl (wBv _) (by omega) (by omega)) ?_; rintro v19 _ _ ⟨rfl, R19, rfl, o19⟩
 refine jp rfl (wAc (jT (wAb (wAa (jp rfl (sFL rfl rfl ?_))))))
 refine wAy rfl rfl (wAu rfl rfl rfl rfl rfl (by kernel_rfl) (rbytes_spec x.ref 2 M18 href.1 (by omega) (by omega))) ?_; rintro _ M18 _ ⟨_, R23, rfl, ⟨rfl, o23⟩⟩
 rw [lowB_two href.1] at o23
 refine wLp o23 (by simp) ?_
 intro M23 a23 c23 hM23 e23 hc23 hs23
 subst e23
 refine wAy rfl rfl (wCg (R := R19) rfl rfl rfl rfl o19 (by rw [wAm]; rfl) hs23 rfl (wBv _) (by omega) (by omega)) ?_; rintro v24 _ _ ⟨rfl, R24, rfl, o24⟩
 refine jp rfl (wAc (jT (wAb (wAa (jp rfl (sFL rfl rfl ?_))))))
 refine wAi rfl rfl (wBj rfl rfl rfl) ?_
 refine wAi rfl rfl (qEq (wDw rfl rfl rfl) (v' := .int .u8 ((bU x.val.length).toNat : Int)) (by rw [wKb])) ?_
 refine wAy rfl rfl (wAn (cs := [_]) rfl rfl rfl (by rfl) (by rfl) (by rfl)) ?_; rintro _ _ _ ⟨b30, rfl, rfl, rfl⟩
 refine wAy rfl rfl (wDv (R := R24) (news := [Value.int .u8 ((bU x.val.length).toNat : Int)]) rfl rfl rfl rfl o24 rfl (fun j v hv => CJ.loc (by rw [Nat.zero_add]; simpa using hv)) rfl rfl (fun u hu => by rw [List.mem_singleton.1 hu]; rfl) (by omega) (by omega)) ?_; rintro v31 _ _ ⟨rfl, R31, rfl, o31, _⟩
 refine jp rfl (wAc (jT (wAb (wAa (jp rfl (sFL rfl rfl ?_))))))
 refine wAy rfl rfl (wCg (R := R31) rfl rfl rfl rfl o31 (by rw [wAm, Nat.mul_one]) (hv.mono (hM12.trans (hM18.trans hM23))) rfl (wBv _) (by omega) (by omega)) ?_; rintro v35 _ _ ⟨rfl, R35, rfl, o35⟩
 refine jp rfl (wAc (jT (wAe (wAr (L' := R35) (List.sublist_append_left _ _) ?_))))
 refine jr1 rfl rfl ?_
 refine o35.to ?_ ?_
 ·simp only [itB, List.length_append]; rfl
 unfold wAj itB; simp only [List.map_append, List.map_cons, List.map_nil]
end Go.Proofs.YtkcpllhggofloaaGreat
