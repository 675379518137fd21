/- Walks: the document's items read and compared; nodes as bytes. -/
import Derived.Test.YtbhkdjheooknfaaGreatZBts
import Derived.Test.YtbhkdjheooknfaaGreatZStore
import Derived.Test.YtbhkdjheooknfaaGreatZCat
namespace Go.Proofs.YtbhkdjheooknfaaGreat
set_option linter.unusedSimpArgs false
set_option linter.unusedVariables false
set_option linter.unusedSectionVars false
open Go.RowKit
section
variable {P : Program} {ops : Array Oper} {N : Fs} {F : Fr} {M : Mem} {L : Lc} {o : Oper}
theorem qQuo32 {xT yT : TypeId} {x y : Operand} {a b : Int} (hg : gd ops F o = some true) (ho : o.op = .binOp .quo xT x y yT) (hx : ev F x = some (.int .u32 a)) (hy : ev F y = some (.int .u32 b))
  (h1 : 0 ≤ a) (h2 : a < 4294967296) (h3 : 1 ≤ b) : QF P ops N F M L o (.int .u32 (a / b)) := wDs hg fun ac ha w _ => by
 have hb : b ≠ 0 := by omega
 have h4 : 0 ≤ a / b := Int.ediv_nonneg h1 (by omega)
 have h5 : a / b ≤ a := Int.ediv_le_self _ h1
 have e : IntKind.u32.wrap (a.tdiv b) = a / b := by rw [Int.tdiv_eq_ediv_of_nonneg h1, IntKind.wrap_u32]; omega
 simp only [execOp, ho, ha.ev hx, ha.ev hy]
 simp [eqGuard, binOp, Op.intDiv, hb, e]
end
theorem sub_list {α : Type} : ∀ (A L : List α), (∀ f : α → Nat, (A.map f).sum ≤ (L.map f).sum) → ∃ G, L.Perm (A ++ G)
 | [], L, _ => ⟨L, List.Perm.refl _⟩
 | a :: A, L, h => by
  classical
  have hm : a ∈ L := by
   refine Classical.byContradiction fun hn => ?_
   have h1 := h fun x => if x = a then 1 else 0
   have h2 : ∀ (l : List α), a ∉ l → (l.map fun x => if x = a then 1 else 0).sum = 0 := fun l => by
    induction l with
    | nil => intro _; rfl
    | cons y l ih => intro hy; simp only [List.mem_cons, not_or] at hy; rw [List.map_cons, List.sum_cons, ih hy.2, if_neg (Ne.symm hy.1)]
   rw [h2 L hn] at h1
   simp at h1
  obtain ⟨X, Y, rfl⟩ := List.append_of_mem hm
  obtain ⟨G, hG⟩ := sub_list A (X ++ Y) fun f => by
   have := h f
   simp only [List.map_append, List.map_cons, List.sum_append, List.sum_cons] at this ⊢
   omega
  exact ⟨G, List.perm_middle.trans (List.Perm.cons a hG)⟩
theorem St.subC {E : Ent} {M : Mem} {L L' : Lc} {w : World} (h : St E M L w) (hc : ∀ f : Nat × Obj → Nat, (L'.map f).sum ≤ (L.map f).sum) : St E M L' w := by
 obtain ⟨G, hG⟩ := sub_list _ _ hc
 exact (h.perm hG).fewer (List.sublist_append_left _ _)
def lowB : Int → Nat → List By
 | _, 0 => []
 | n, m + 1 => bU n :: lowB (n / 256) m
theorem bU_mod (n : Int) : bU (n % 256) = bU n := by unfold bU; rw [Int.emod_emod_of_dvd _ (by decide)]
theorem lowB_two {n : Int} (h : 0 ≤ n) : lowB n 2 = wGn n := by
 unfold lowB lowB lowB wGn
 rw [show bShr .i64 n 8 = n / 256 from wFh n (by decide)]
theorem lowB_four {n : Int} (h : 0 ≤ n) : lowB n 4 = wEj n := by
 unfold lowB lowB lowB lowB lowB wEj
 rw [show bShr .u32 n 8 = n / 256 from wFh n (by decide), show bShr .u32 n 16 = n / 65536 from wFh n (by decide), show bShr .u32 n 24 = n / 16777216 from wFh n (by decide)]
 rw [show n / 256 / 256 = n / 65536 by omega, show n / 65536 / 256 = n / 16777216 by omega]
structure LowI (n : Int) (m : Nat) (z : Nat × Int × Value × Lc × List By) : Prop where
 le : z.1 ≤ m
 len : z.2.2.2.2.length = z.1
 lo : 0 ≤ z.2.1
 hi : z.2.1 < 4611686018427387904
 eq : z.2.2.2.2 ++ lowB z.2.1 (m - z.1) = lowB n m
 own : Own z.2.2.1 z.2.2.2.1 5 1 z.1 (wAj z.2.2.2.2)
def numL : List By → Int
 | [] => 0
 | x :: xs => numL xs * 256 + (x.toNat : Int)
theorem numL_bd : ∀ xs : List By, xs.length ≤ 4 → 0 ≤ numL xs ∧ numL xs < 4294967296
 | [], _ => by decide
 | [a], _ => by have := a.toNat_lt; simp only [numL]; omega
 | [a, b], _ => by have := a.toNat_lt; have := b.toNat_lt; simp only [numL]; omega
 | [a, b, c], _ => by have := a.toNat_lt; have := b.toNat_lt; have := c.toNat_lt; simp only [numL]; omega
 | [a, b, c, d], _ => by have := a.toNat_lt; have := b.toNat_lt; have := c.toNat_lt; have := d.toNat_lt; simp only [numL]; omega
theorem numL_four {xs : List By} {a : Nat} (h : a + 4 ≤ xs.length) : numL ((xs.drop a).take 4) = wGm xs a 4 := by
 unfold wGm
 have hl : ((xs.drop a).take 4).length = 4 := by rw [List.length_take, List.length_drop]; omega
 match (xs.drop a).take 4, hl with
 | [p, q, r, s], _ => show _ = wHj [s, r, q, p]; rw [getF_four]; simp only [numL]; omega
theorem numL_two {xs : List By} {a : Nat} (h : a + 2 ≤ xs.length) : numL ((xs.drop a).take 2) = wGm xs a 2 := by
 unfold wGm
 have hl : ((xs.drop a).take 2).length = 2 := by rw [List.length_take, List.length_drop]; omega
 match (xs.drop a).take 2, hl with
 | [p, q], _ => show _ = wHj [q, p]; rw [getF_two]; simp only [numL]; omega
theorem numL_drop {xs : List By} {k : Nat} (h : k < xs.length) : numL (xs.drop k) = numL (xs.drop (k + 1)) * 256 + (xs[k].toNat : Int) := by
 rw [List.drop_eq_getElem_cons h, numL]
def hstep (s : Int) : Int := if s % 2 = 1 then bXor .u32 (s / 2) 3988292384 else s / 2
def hrep : Nat → Int → Int
 | 0, s => s
 | k + 1, s => hstep (hrep k s)
theorem wHy (a b : Int) : 0 ≤ bXor .u32 a b ∧ bXor .u32 a b < 4294967296 := by
 unfold bXor; rw [IntKind.wrap_u32]; omega
theorem hrep_bd {s : Int} (h : 0 ≤ s ∧ s < 4294967296) : ∀ k, 0 ≤ hrep k s ∧ hrep k s < 4294967296
 | 0 => h
 | k + 1 => by
  have := hrep_bd h k
  unfold hrep hstep
  split
  ·exact wHy _ _
  omega
def htab (k : Nat) : List Int := (List.range k).map (fun i : Nat => hrep 4 (i : Int)) ++ List.replicate (16 - k) 0
theorem htab_val : htab 16 = ftabV := by decide +kernel
theorem htab_len {k : Nat} (h : k ≤ 16) : (htab k).length = 16 := by simp [htab]; omega
theorem htab_step {k : Nat} (h : k < 16) (o : Nat) (ho : o = k) : (wCv (htab k)).take o ++ [Value.int .u32 (hrep 4 k)] ++ (wCv (htab k)).drop (o + [Value.int .u32 (hrep 4 k)].length) = wCv (htab (k + 1)) := by
 subst ho
 have hr : ((List.range o).map (fun i : Nat => hrep 4 (i : Int))).length = o := by simp
 have e1 : (htab o).take o = (List.range o).map (fun i : Nat => hrep 4 (i : Int)) := by unfold htab; exact List.take_left' hr
 have e2 : (htab o).drop (o + 1) = List.replicate (16 - (o + 1)) 0 := by
  unfold htab
  rw [List.drop_append, List.drop_eq_nil_of_le (by omega), hr, List.nil_append, List.drop_replicate]
  congr 1; omega
 simp only [wCv, ← List.map_take, ← List.map_drop, List.length_singleton, e1, e2]
 unfold htab
 rw [List.range_succ]
 simp
theorem htab_get {i : Int} (h : 0 ≤ i ∧ i < 16) : (wCv (htab 16))[0 + i.toNat * 1]? = some (.int .u32 (tabAt i)) := by
 rw [htab_val, Nat.zero_add, Nat.mul_one]
 have : i.toNat < ftabV.length := by simp [ftabV]; omega
 simp [wCv, tabAt, List.getD, this]
theorem nib_is {s : Int} (h : 0 ≤ s ∧ s < 4294967296) : bXor .u32 (s / 16) (tabAt (s % 16)) = ofNib s := by
 unfold ofNib
 have e1 : bShr .u32 s 4 = s / 16 := wFh s (by decide)
 have e2 : bAnd .u32 s 15 = s % 16 := by
  unfold bAnd
  rw [IntKind.wrap_u32]
  have e1 : (BitVec.ofInt IntKind.u32.bits s).toNat = s.toNat := by
   rw [BitVec.toNat_ofInt]; show ((s) % 4294967296).toNat = _; omega
  have e2 : (BitVec.ofInt IntKind.u32.bits 15).toNat = 2 ^ 4 - 1 := by decide
  rw [BitVec.toNat_and, e1, e2, Nat.and_two_pow_sub_one_eq_mod]
  omega
 rw [e1, e2]
theorem nib_bd (s : Int) : 0 ≤ ofNib s ∧ ofNib s < 4294967296 := wHy _ _
theorem ofFold_snoc (xs : List By) (x : By) : wGg (xs ++ [x]) = ofStep (wGg xs) x := by unfold wGg; rw [List.foldl_append]; rfl
theorem bXor_comm (a b : Int) : bXor .u32 a b = bXor .u32 b a := by unfold bXor; rw [BitVec.xor_comm]
theorem wFm (n : Int) (m : Nat) (M : Mem) (h0 : 0 ≤ n) (h1 : n < 4611686018427387904) (hm : m ≤ 100) :
  SpecL Tryz.prog 87 #[.int .i64 n, .int .i64 m] M [] fun u M' L' => M' = M ∧ Own u L' 5 1 m (wAj (lowB n m)) := by
 refine wAe (vs := [_, _]) 21 _ Tryz.func87 rfl Tryz.ntmps87 rfl rfl ?_; intro W
 refine wAb (wAa (jp rfl (wAc (jT (wAb (wAa (jp rfl (wAc (jT (wAb (wAb (wAa (jp rfl (wAc (jT (wAh ?_))))))))))))))))
 refine wAo (α := Nat × Int × Value × Lc × List By) (fun z => [(0, .int .i64 z.2.1), (1, .int .i64 m), (5, z.2.2.1), (6, .int .i64 z.1)]) (fun _ => M) (fun z => z.2.2.2.1) (fun z => LowI n m z) (fun z => m - z.1)
  (0, n, .slice none 0 0, [], []) (.cons (t := 0) rfl (.cons (t := 1) rfl (.cons (t := 5) rfl (.cons (t := 6) rfl .nil)))) ⟨Nat.zero_le _, rfl, h0, h1, rfl, Own.nil _ _⟩ (fun _ h => h) ?_
 rintro ⟨i, n2, out, R, pre⟩ hI
 have hl0 := hI.lo
 have hh0 := hI.hi
 have hle := hI.le
 dsimp only at hl0 hh0 hle ⊢
 refine wAb (wAb (wAa (jp rfl (jp rfl (js rfl (fun h9 => ?_) (fun h9 => ?_))))))
 ·refine wAc (jT (wAg rfl (wAd (jT (wAb (wAh (wAb (wAa (jp rfl (jp rfl (wAi rfl rfl (qRem rfl rfl rfl rfl (by omega) (by omega)) ?_)))))))))))
  refine wAi rfl rfl (qEq (wDe rfl rfl rfl) (v' := .int .u8 ((bU n2).toNat : Int)) (by rw [u8_bU, bU_mod])) ?_
  refine wAv rfl rfl (wAr (cs := [_]) rfl rfl rfl (by rfl) (by rfl) (by rfl)) ?_; rintro _ _ _ ⟨b16, rfl, rfl, rfl⟩
  refine wAv rfl rfl (wCr (R := R) (news := [Value.int .u8 ((bU n2).toNat : Int)]) rfl rfl rfl rfl hI.own rfl (fun j v hv => CJ.loc (by rw [Nat.zero_add]; simpa using hv)) rfl rfl (fun u hu => by rw [List.mem_singleton.1 hu]; rfl) (by omega) (by omega)) ?_; rintro out2 _ _ ⟨rfl, R3, rfl, hown2, _⟩
  refine jp rfl (wAc (jT (wAa (jp rfl (wAi rfl rfl (qQuo rfl rfl rfl rfl (by omega) (by omega) (by omega)) ?_)))))
  refine jp rfl (wAc (jB (jT (wAa (jp rfl (ja rfl (by omega) ?_))))))
  refine jp rfl (wAc ?_)
  refine wAn (i + 1, n2 / 256, out2, R3, pre ++ [bU n2]) (.cons (t := 0) rfl (.cons (t := 1) rfl (.cons (t := 5) rfl (.cons (t := 6) rfl .nil)))) ⟨by show i + 1 ≤ m; omega, by show (pre ++ [bU n2]).length = i + 1; rw [List.length_append, hI.len]; rfl, by show 0 ≤ n2 / 256; omega, by show n2 / 256 < _; omega, ?_, ?_⟩ (by show m - (i + 1) < m - i; omega) (fun _ h => h.subC fun f => by simp only [List.map_append, List.map_cons, List.map_nil, List.sum_append, List.sum_cons, List.sum_nil]; omega)
  ·have e := hI.eq; dsimp only at e ⊢; rw [← e, show m - i = m - (i + 1) + 1 by omega, lowB, List.append_assoc]; rfl
  show Own out2 R3 _ 1 (i + 1) (wAj (pre ++ [bU n2])); unfold wAj; rw [List.map_append]; exact hown2
 refine wAc (jT (wAk rfl (wAs (jTx (jTx (jBx (jT (wAb (wAa (jp rfl (jp rfl (wAc (jT (wAf (jr1 rfl rfl ?_)))))))))))))))
 obtain rfl : i = m := by omega
 have e := hI.eq
 dsimp only at e
 rw [Nat.sub_self, lowB, List.append_nil] at e
 subst e
 exact ⟨rfl, hI.own⟩
theorem wDv (n : Int) (M : Mem) (h0 : 0 ≤ n) (h1 : n < 4294967296) :
  SpecL Tryz.prog 86 #[.int .u32 n] M [] fun u M' L' => M' = M ∧ Own u L' 5 1 4 (wAj (wEj n)) := by
 refine wAe (vs := [_]) 6 _ Tryz.func86 rfl Tryz.ntmps86 rfl rfl ?_; intro W
 refine wAb (wAa (jp rfl (wAc (jT (wAb (wAa (jp rfl (wAi rfl rfl (wCg rfl rfl rfl (by omega)) ?_))))))))
 refine wAv rfl rfl (wAt rfl rfl rfl rfl rfl (by kernel_rfl) (wFm n 4 M h0 (by omega) (by omega))) ?_; rintro _ M _ ⟨_, _, rfl, ⟨rfl, hown⟩⟩
 rw [lowB_four h0] at hown
 refine jp rfl (wAc (jT (wAf ?_)))
 simp only [List.append_nil]
 refine jr1 rfl rfl ?_
 exact ⟨rfl, hown⟩
theorem rnumber_spec (sa : Option Addr) (c : Nat) (xs : List By) (M : Mem) (hs : SM M sa (wAj xs)) (hc : xs.length ≤ c) (h4 : xs.length ≤ 4) :
  SpecL Tryz.prog 131 #[.slice sa xs.length c] M [] fun u _ _ => u = .int .i64 (numL xs) := by
 refine wAe (vs := [_]) 21 _ Tryz.func131 rfl Tryz.ntmps131 rfl rfl ?_; intro W
 refine wAb (wAa (jp rfl (wAc (jT (wAb (wAa (jp rfl (wAc (jT (wAb (wAb (wAa (jp rfl (wAi rfl rfl (wBe rfl rfl rfl) ?_))))))))))))))
 refine ja rfl (by omega) ?_
 refine jp rfl (wAc (jT (wAh ?_)))
 refine wAo (α := Nat) (fun k => [(0, .slice sa xs.length c), (3, .int .i64 (numL (xs.drop k))), (4, .int .i64 ((k : Int) - 1))]) (fun _ => M) (fun _ => []) (fun k => k ≤ xs.length) (fun k => k)
  xs.length (.cons (t := 0) rfl (Keep.ceq (t := 3) rfl (by rw [List.drop_length]; rfl) (.cons (t := 4) rfl .nil))) (Nat.le_refl _) (fun _ h => h) ?_
 intro k hk
 try dsimp only at hk ⊢
 refine wAb (wAb (wAa (jp rfl (js rfl (fun h9 => ?_) (fun h9 => ?_)))))
 ·refine wAc (jT (wAg rfl (wAd (jT (wAb (wAh (wAa (jp rfl ?_))))))))
  have hk1 : k - 1 < xs.length := by omega
  obtain ⟨sb, so, e0, hx⟩ := hs.open (by intro e; have := congrArg List.length e; rw [wAm, List.length_nil] at this; omega)
  subst e0
  obtain ⟨j, rfl⟩ : ∃ j : Nat, k = j + 1 := ⟨k - 1, by omega⟩
  have hj : j < xs.length := by omega
  have hnb := numL_bd (xs.drop (j + 1)) (by rw [List.length_drop]; omega)
  have hxb := xs[j].toNat_lt
  refine wAi rfl rfl (qA rfl rfl rfl rfl rfl (by omega)) ?_
  refine jp rfl (jp rfl (wAi rfl rfl (wBb rfl rfl rfl rfl (by omega)) ?_))
  refine wAi rfl rfl (qLd rfl rfl rfl rfl ((hx (((((j + 1 : Nat) : Int) - 1)).toNat * 1) (.int .u8 xs[j].toNat) (by rw [show (((j + 1 : Nat) : Int) - 1).toNat = j by omega]; simp [wAj, hj])).cj _)) ?_
  refine wAi rfl rfl (wCg rfl rfl rfl (by omega)) ?_
  refine ja rfl (by omega) ?_
  refine jp rfl (wAc (jB (jT (wAa (jp rfl (ja rfl (by omega) ?_))))))
  refine jp rfl (wAc ?_)
  refine wAn j (.cons (t := 0) rfl (Keep.ceq (t := 3) rfl (by rw [numL_drop hj]) (Keep.ceq (t := 4) rfl (by congr 1; omega) Keep.nil))) (by omega) (by omega) (fun _ h => h)
 refine wAc (jT (wAk rfl (wAs (jTx (jTx (jBx (jT (wAb (wAa (jp rfl (jp rfl (wAc (jT (wAf (jr1 rfl rfl ?_)))))))))))))))
 obtain rfl : k = 0 := by omega
 rfl
theorem rthere_spec (sa : Option Addr) (n c a m : Nat) (M : Mem) (h : a + m ≤ n) (hn : n ≤ 1000000) :
  SpecL Tryz.prog 130 #[.slice sa n c, .int .i64 a, .int .i64 m] M [] fun u _ _ => u = .bool true := by
 refine wAe (vs := [_, _, _]) 23 _ Tryz.func130 rfl Tryz.ntmps130 rfl rfl ?_; intro W
 refine wAb (wAa (jp rfl (wAc (jT (wAb (wAa (jp rfl (jt rfl (decide_eq_true (by omega)) ?_))))))))
 refine jp rfl (jp rfl (jp rfl (wAi rfl rfl (wBe rfl rfl rfl) ?_)))
 refine jt rfl (decide_eq_true (by omega)) ?_
 refine jp rfl (jp rfl (jp rfl (wAi rfl rfl (wBe rfl rfl rfl) ?_)))
 refine jp rfl (ja rfl (by omega) ?_)
 refine jp rfl (jp rfl (jp rfl (jp rfl (wAc (jT (wAf (jr1 rfl rfl ?_)))))))
 exact congrArg Value.bool (decide_eq_true (by omega))
theorem wHc (sa : Option Addr) (c : Nat) (xs : List By) (a : Nat) (M : Mem) (hs : SM M sa (wAj xs)) (hc : xs.length ≤ c) (h : a + 2 ≤ xs.length) (hn : xs.length ≤ 1000000) :
  SpecL Tryz.prog 112 #[.slice sa xs.length c, .int .i64 a] M [] fun v _ _ => v = .tuple #[.int .i64 (wGm xs a 2), .int .i64 0] := by
 have hyl : ((xs.drop a).take 2).length = 2 := by rw [List.length_take, List.length_drop]; omega
 obtain ⟨sb, so, e0, hx⟩ := hs.open (by intro e; have := congrArg List.length e; rw [wAm, List.length_nil] at this; omega)
 subst e0
 have hgr := numL_bd ((xs.drop a).take 2) (by omega)
 refine wAe (vs := [_, _]) 16 _ Tryz.func112 rfl Tryz.ntmps112 rfl rfl ?_; intro W
 refine wAb (wAa (jp rfl (jp rfl (wAc (jT (wAb (wAb (wAa (jp rfl (jp rfl (wAi rfl rfl (qEq (wAy rfl rfl rfl rfl rfl (by kernel_rfl) (rthere_spec _ xs.length c a 2 M h hn)) (v' := .bool true) (by rfl)) ?_)))))))))))
 refine jp rfl (wAc (jT (wAk rfl (wAd (jT (wAb (wAa (jp rfl (jp rfl (jp rfl (ja rfl (by omega) ?_)))))))))))
 refine wAi rfl rfl (qEq (qSl rfl rfl rfl (.no _) (.of (v := a + 2) rfl (by omega) (by omega)) (.of (v := a) rfl (by omega) (by omega)) (by omega) (by simp)) (v' := .slice (some ⟨sb, so + a * 1, none⟩) ((xs.drop a).take 2).length (c - a)) (by rw [wBu (by omega), hyl, Nat.add_sub_cancel_left])) ?_
 refine wAi rfl rfl (wAy rfl rfl rfl rfl rfl (by kernel_rfl) (rnumber_spec (some ⟨sb, so + a * 1, none⟩) (c - a) ((xs.drop a).take 2) M (.inr ⟨sb, so + a * 1, rfl, SM.sub a 2 hx⟩) (by omega) (by omega))) ?_
 refine jp rfl (jp rfl (wAc (jT (wAf (jr2 rfl rfl rfl ?_)))))
 rw [numL_two h]
theorem wDa (sa : Option Addr) (c : Nat) (xs : List By) (a : Nat) (M : Mem) (hs : SM M sa (wAj xs)) (hc : xs.length ≤ c) (h : a + 4 ≤ xs.length) (hn : xs.length ≤ 1000000) :
  SpecL Tryz.prog 113 #[.slice sa xs.length c, .int .i64 a] M [] fun v _ _ => v = .tuple #[.int .u32 (wGm xs a 4), .int .i64 0] := by
 have hyl : ((xs.drop a).take 4).length = 4 := by rw [List.length_take, List.length_drop]; omega
 obtain ⟨sb, so, e0, hx⟩ := hs.open (by intro e; have := congrArg List.length e; rw [wAm, List.length_nil] at this; omega)
 subst e0
 have hgr := numL_bd ((xs.drop a).take 4) (by omega)
 refine wAe (vs := [_, _]) 17 _ Tryz.func113 rfl Tryz.ntmps113 rfl rfl ?_; intro W
 refine wAb (wAa (jp rfl (jp rfl (wAc (jT (wAb (wAb (wAa (jp rfl (jp rfl (wAi rfl rfl (qEq (wAy rfl rfl rfl rfl rfl (by kernel_rfl) (rthere_spec _ xs.length c a 4 M h hn)) (v' := .bool true) (by rfl)) ?_)))))))))))
 refine jp rfl (wAc (jT (wAk rfl (wAd (jT (wAb (wAa (jp rfl (jp rfl (jp rfl (ja rfl (by omega) ?_)))))))))))
 refine wAi rfl rfl (qEq (qSl rfl rfl rfl (.no _) (.of (v := a + 4) rfl (by omega) (by omega)) (.of (v := a) rfl (by omega) (by omega)) (by omega) (by simp)) (v' := .slice (some ⟨sb, so + a * 1, none⟩) ((xs.drop a).take 4).length (c - a)) (by rw [wBu (by omega), hyl, Nat.add_sub_cancel_left])) ?_
 refine wAi rfl rfl (wAy rfl rfl rfl rfl rfl (by kernel_rfl) (rnumber_spec (some ⟨sb, so + a * 1, none⟩) (c - a) ((xs.drop a).take 4) M (.inr ⟨sb, so + a * 1, rfl, SM.sub a 4 hx⟩) (by omega) (by omega))) ?_
 refine wAi rfl rfl (qConvK rfl rfl rfl (by rw [IntKind.wrap_u32]; omega)) ?_
 refine jp rfl (jp rfl (wAc (jT (wAf (jr2 rfl rfl rfl ?_)))))
 rw [numL_four h]
theorem rsamenums_spec (a1 a2 : Option Addr) (c1 c2 : Nat) (xs ys : List Int) (M : Mem) (s1 : SM M a1 (wAw xs)) (s2 : SM M a2 (wAw ys)) (hn : xs.length ≤ 1000000) (hn2 : ys.length ≤ 1000000) :
  SpecL Tryz.prog 26 #[.slice a1 xs.length c1, .slice a2 ys.length c2] M [] fun u _ _ => u = .bool (decide (xs = ys)) := by
 refine wAe (vs := [_, _]) 26 _ Tryz.func26 rfl Tryz.ntmps26 rfl rfl ?_; intro W
 refine wAb (wAa (jp rfl (wAc (jT (wAb (wAb (wAa (jp rfl (wAi rfl rfl (wBe rfl rfl rfl) ?_)))))))))
 refine jp rfl (wAi rfl rfl (wBe rfl rfl rfl) ?_)
 refine js rfl (fun h10 => ?_) (fun h10 => ?_)
 ·refine wAc (jT (wAg rfl (wAb (wAa (jp rfl (wAc (jT (wAf (jTr (jr1 rfl rfl ?_))))))))))
  rw [decide_eq_false (fun e : xs = ys => by subst e; omega)]
 refine wAc (jT (wAk rfl (wAd (jT (wAb (wAb (wAa (jp rfl (wAc (jT (wAh ?_)))))))))))
 refine wAo (α := Nat) (fun k => [(0, .slice a1 xs.length c1), (1, .slice a2 ys.length c2), (5, .int .i64 k)]) (fun _ => M) (fun _ => []) (fun k => k ≤ xs.length ∧ xs.take k = ys.take k) (fun k => xs.length - k)
  0 (.cons (t := 0) rfl (.cons (t := 1) rfl (.cons (t := 5) rfl .nil))) ⟨Nat.zero_le _, rfl⟩ (fun _ h => h) ?_
 rintro k ⟨hk, htk⟩
 try dsimp only at hk htk ⊢
 refine wAb (wAb (wAa (jp rfl (jp rfl (wAi rfl rfl (wBe rfl rfl rfl) ?_)))))
 refine js rfl (fun h14 => ?_) (fun h14 => ?_)
 ·refine wAc (jT (wAg rfl (wAd (jT (wAb (wAh (wAb (wBn [(0, true), (1, true), (2, true), (3, true), (4, true), (5, true), (6, true), (7, true), (8, true)] [] (by kernel_rfl) (by kernel_rfl) (by kernel_rfl) rfl (by simp) ?_))))))))
  iterate 2 refine dp rfl rfl ?_
  have hk1 : k < xs.length := by omega
  have hk2 : k < ys.length := by omega
  obtain ⟨b1, o1, e1, x1⟩ := s1.open (by intro e; have := congrArg List.length e; simp [wAw] at this; rw [this] at hk1; simp at hk1)
  obtain ⟨b2, o2, e2, x2⟩ := s2.open (by intro e; have := congrArg List.length e; simp [wAw] at this; rw [this] at hk2; simp at hk2)
  subst e1; subst e2
  have hc1 : CM M b1 (o1 + (k : Int).toNat * 1) (.int .i64 xs[k]) := by rw [Int.toNat_natCast, Nat.mul_one]; exact x1 k _ (by simp [wAw, hk1])
  have hc2 : CM M b2 (o2 + (k : Int).toNat * 1) (.int .i64 ys[k]) := by rw [Int.toNat_natCast, Nat.mul_one]; exact x2 k _ (by simp [wAw, hk2])
  refine wBh rfl rfl rfl (wBb rfl rfl rfl rfl (by omega)) ?_
  refine wBh rfl rfl rfl (qLd rfl rfl rfl rfl (hc1.cj _)) ?_
  iterate 2 refine dp rfl rfl ?_
  refine wBh rfl rfl rfl (wBb rfl rfl rfl rfl (by omega)) ?_
  refine wBh rfl rfl rfl (qLd rfl rfl rfl rfl (hc2.cj _)) ?_
  refine ds rfl rfl (fun h25 => ?_) (fun h25 => ?_)
  ·refine wBg (jPn (jT (wAg rfl (wAb (wAa (jp rfl (wAc (jT (wAf (jBr (jTr (jTr (jBr (jTr (jr1 rfl rfl ?_)))))))))))))))
   rw [decide_eq_false (fun e : xs = ys => by subst e; omega)]
  refine wBg (jPn (jT (wAk rfl (wAd (jB (jT (wAa (jp rfl (ja rfl (by omega) ?_)))))))))
  refine jp rfl (wAc ?_)
  refine wAn (k + 1) (.cons (t := 0) rfl (.cons (t := 1) rfl (.cons (t := 5) rfl .nil))) ⟨by omega, by rw [List.take_succ_eq_append_getElem hk1, List.take_succ_eq_append_getElem hk2, htk, show xs[k] = ys[k] by omega]⟩ (by omega) (fun _ h => h)
 refine wAc (jT (wAk rfl (wAs (jTx (jTx (jBx (jT (wAb (wAa (jp rfl (wAc (jT (wAf (jr1 rfl rfl ?_))))))))))))))
 have e1 : k = xs.length := by omega
 have e2 : ys.length = xs.length := by omega
 subst e1
 rw [List.take_length, ← e2, List.take_length] at htk
 rw [decide_eq_true htk]
theorem halved_spec (s : Int) (m : Nat) (M : Mem) (h : 0 ≤ s ∧ s < 4294967296) (hm : m ≤ 100) :
  SpecL Tryz.prog 61 #[.int .u32 s, .int .i64 m] M [] fun u _ _ => u = .int .u32 (hrep m s) := by
 refine wAe (vs := [_, _]) 21 _ Tryz.func61 rfl Tryz.ntmps61 rfl rfl ?_; intro W
 refine wAb (wAa (jp rfl (wAc (jT (wAb (wAb (wAa (jp rfl (wAc (jT (wAh ?_)))))))))))
 refine wAo (α := Nat) (fun k => [(0, .int .u32 (hrep k s)), (1, .int .i64 m), (5, .int .i64 k)]) (fun _ => M) (fun _ => []) (fun k => k ≤ m) (fun k => m - k)
  0 (.cons (t := 0) rfl (.cons (t := 1) rfl (.cons (t := 5) rfl .nil))) (Nat.zero_le _) (fun _ h => h) ?_
 intro k hk
 try dsimp only at hk ⊢
 refine wAb (wAb (wAa (jp rfl (jp rfl (js rfl (fun h9 => ?_) (fun h9 => ?_))))))
 ·refine wAc (jT (wAg rfl (wAd (jT (wAb (wAh (wAb (wAa (jp rfl ?_)))))))))
  have hb := hrep_bd h k
  refine wAi rfl rfl (qRem rfl rfl rfl rfl (by omega) (by decide)) ?_
  refine jp rfl (wAc (jT (wAb (wAa (jp rfl (wAi rfl rfl (qQuo32 rfl rfl rfl rfl (by omega) (by omega) (by decide)) ?_))))))
  refine jp rfl (wAc (jT (wAb (wAa (jp rfl (js rfl (fun h17 => ?_) (fun h17 => ?_)))))))
  ·refine wAc (jT (wAg rfl (wAa (jp rfl (wAi rfl rfl (wJx rfl rfl rfl rfl rfl) ?_)))))
   refine jp rfl (wAc (jB (jT (wAa (jp rfl (ja rfl (by omega) ?_))))))
   refine jp rfl (wAc ?_)
   refine wAn (k + 1) (Keep.ceq (t := 0) rfl (by rw [hrep, hstep, if_pos h17]) (.cons (t := 1) rfl (.cons (t := 5) rfl .nil))) (by omega) (by omega) (fun _ h => h)
  refine wAc (jT (wAk rfl (wAd (jB (jT (wAa (jp rfl (ja rfl (by omega) ?_))))))))
  refine jp rfl (wAc ?_)
  refine wAn (k + 1) (Keep.ceq (t := 0) rfl (by rw [hrep, hstep, if_neg h17]) (.cons (t := 1) rfl (.cons (t := 5) rfl .nil))) (by omega) (by omega) (fun _ h => h)
 refine wAc (jT (wAk rfl (wAs (jTx (jTx (jBx (jT (wAb (wAa (jp rfl (jp rfl (wAc (jT (wAf (jr1 rfl rfl ?_)))))))))))))))
 obtain rfl : k = m := by omega
 rfl
set_option maxHeartbeats 2000000 in
theorem rof_spec (sa : Option Addr) (c : Nat) (xs : List By) (M : Mem) (hs : SM M sa (wAj xs)) (hn : xs.length ≤ 1000000) :
  SpecL Tryz.prog 45 #[.slice sa xs.length c] M [] fun v _ _ => v = .int .u32 (wJe xs) := by
 refine wAe (vs := [_]) 45 _ Tryz.func45 rfl Tryz.ntmps45 rfl rfl ?_; intro W
 refine wAb (wAa (jp rfl (wAc (jT (wAb (wAa (sAl rfl fun b3 => ?_)))))))
 refine wAc (jT (wAb (wAb (wAa (jp rfl (wAc (jT (wAh ?_))))))))
 refine wAo (α := Nat) (fun k => [(0, .slice sa xs.length c), (3, .pointer (some ⟨b3, 0, none⟩)), (4, .int .i64 k)]) (fun _ => M) (fun k => [(b3, .cells (wCv (htab k)).toArray 97 (0, 0))]) (fun k => k ≤ 16) (fun k => 16 - k)
  0 (.cons (t := 0) rfl (.cons (t := 3) rfl (.cons (t := 4) rfl .nil))) (by omega) (fun w h => by rw [show wCv (htab 0) = List.replicate 16 (Value.int .u32 0) from rfl]; exact h) ?_
 intro k hk
 try dsimp only at hk ⊢
 refine wAb (wAb (wAa (jp rfl (js rfl (fun h8 => ?_) (fun h8 => ?_)))))
 ·refine wAc (jT (wAg rfl (wAd (jT (wAb (wAh (wAa (jp rfl (jp rfl ?_)))))))))
  refine wAi rfl rfl (qConvK rfl rfl rfl (by rw [IntKind.wrap_u32]; omega)) ?_
  refine wAi rfl rfl (wAy rfl rfl rfl rfl rfl (by kernel_rfl) (halved_spec k 4 M (by omega) (by omega))) ?_
  refine wAi rfl rfl (qIdxA rfl rfl rfl rfl (by omega)) ?_
  have hfl := htab_len (k := k) (by omega)
  refine jl_s rfl (hStore rfl rfl rfl rfl rfl rfl (by simp [Value.oneCell']) (by simp only [wCv, List.length_map, List.length_cons, List.length_nil]; omega)) ?_; rintro _ _ _ ⟨rfl, rfl⟩
  rw [htab_step (k := k) (by omega) _ (by omega)]
  refine wAc (jB (jT (wAa (jp rfl (ja rfl (by omega) ?_)))))
  refine jp rfl (wAc ?_)
  refine wAn (k + 1) (.cons (t := 0) rfl (.cons (t := 3) rfl (.cons (t := 4) rfl .nil))) (by omega) (by omega) (fun _ h => h)
 refine wAc (jT (wAk rfl (wAs (jTx (jTx (jBx (jT (wAb (wAa (jp rfl (wAc (jT (wAb (wAb (wAa (jp rfl (wAc (jT (wAh ?_)))))))))))))))))))
 obtain rfl : k = 16 := by omega
 refine wAo (α := Nat) (fun j => [(0, .slice sa xs.length c), (3, .pointer (some ⟨b3, 0, none⟩)), (5, .int .u32 (wGg (xs.take j))), (6, .int .i64 j)]) (fun _ => M) (fun _ => [(b3, .cells (wCv (htab 16)).toArray 97 (0, 0))]) (fun j => j ≤ xs.length) (fun j => xs.length - j)
  0 (.cons (t := 0) rfl (.cons (t := 3) rfl (.cons (t := 5) rfl (.cons (t := 6) rfl .nil)))) (Nat.zero_le _) (fun _ h => h) ?_
 intro j hj
 try dsimp only at hj ⊢
 refine wAb (wAb (wAa (jp rfl (jp rfl (wAi rfl rfl (wBe rfl rfl rfl) ?_)))))
 refine js rfl (fun h19 => ?_) (fun h19 => ?_)
 ·refine wAc (jT (wAg rfl (wAd (jT (wAb (wAh (wAb (wAa (jp rfl (jp rfl (jp rfl ?_)))))))))))
  obtain ⟨b1, o1, e1, g1⟩ := hs.open (by intro e; have := congrArg List.length e; rw [wAm, List.length_nil] at this; omega)
  subst e1
  have hj1 : j < xs.length := by omega
  have hxb := xs[j].toNat_lt
  have n0 := wHy (wGg (xs.take j)) (xs[j].toNat : Int)
  have n1 := nib_bd (bXor .u32 (wGg (xs.take j)) (xs[j].toNat : Int))
  refine wAi rfl rfl (wBb rfl rfl rfl rfl (by omega)) ?_
  refine wAi rfl rfl (qLd rfl rfl rfl rfl ((g1 (((j : Nat) : Int).toNat * 1) (.int .u8 xs[j].toNat) (by simp [wAj, hj1])).cj _)) ?_
  refine wAi rfl rfl (qConvK rfl rfl rfl (by rw [IntKind.wrap_u32]; omega)) ?_
  refine wAi rfl rfl (wJx rfl rfl rfl rfl rfl) ?_
  refine jp rfl (wAc (jT (wAb (wAa (jp rfl (wAi rfl rfl (qQuo32 rfl rfl rfl rfl n0.1 n0.2 (by decide)) ?_))))))
  refine jp rfl (wAi rfl rfl (qRem rfl rfl rfl rfl n0.1 (by decide)) ?_)
  refine wAi rfl rfl (qIdxA rfl rfl rfl rfl (by omega)) ?_
  refine wAi rfl rfl (qLd rfl rfl rfl rfl (CJ.loc (htab_get (by omega)))) ?_
  refine wAi rfl rfl (qEq (wJx rfl rfl rfl rfl rfl) (v' := .int .u32 (ofNib (bXor .u32 (wGg (xs.take j)) (xs[j].toNat : Int)))) (by rw [← nib_is n0])) ?_
  refine jp rfl (wAc (jT (wAa (jp rfl (wAi rfl rfl (qQuo32 rfl rfl rfl rfl n1.1 n1.2 (by decide)) ?_)))))
  refine jp rfl (wAi rfl rfl (qRem rfl rfl rfl rfl n1.1 (by decide)) ?_)
  refine wAi rfl rfl (qIdxA rfl rfl rfl rfl (by omega)) ?_
  refine wAi rfl rfl (qLd rfl rfl rfl rfl (CJ.loc (htab_get (by omega)))) ?_
  refine wAi rfl rfl (qEq (wJx rfl rfl rfl rfl rfl) (v' := .int .u32 (wGg (xs.take (j + 1)))) (by rw [List.take_succ_eq_append_getElem hj1, ofFold_snoc]; exact congrArg (Value.int .u32) (nib_is n1))) ?_
  refine jp rfl (wAc (jB (jT (wAa (jp rfl (ja rfl (by omega) ?_))))))
  refine jp rfl (wAc ?_)
  refine wAn (j + 1) (.cons (t := 0) rfl (.cons (t := 3) rfl (.cons (t := 5) rfl (.cons (t := 6) rfl .nil)))) (by omega) (by omega) (fun _ h => h)
 refine wAc (jT (wAk rfl (wAs (jTx (jTx (jBx (jT (wAb (wAa (jp rfl (wAi rfl rfl (wJx rfl rfl rfl rfl rfl) ?_)))))))))))
 refine jp rfl (wAc (jT (wAf (wAu (L' := []) (List.nil_sublist _) ?_))))
 refine jr1 rfl rfl ?_
 obtain rfl : j = xs.length := by omega
 rw [List.take_length, bXor_comm]; rfl
theorem own_one {b : Nat} {n : Int} (h : 0 ≤ n ∧ n < 256) : Own (.slice (some ⟨b, 0, none⟩) 1 1) [(b, .cells [Value.int .u8 n].toArray 5 (0, 0))] 5 1 1 (wAj [bU n]) := by
 have e : ((bU n).toNat : Int) = n := by rw [← u8_bU, IntKind.wrap_u8]; omega
 have e2 : wAj [bU n] = [Value.int .u8 n] := by simp only [wAj, List.map, e]
 rw [e2]
 exact ⟨rfl, .inr ⟨b, 1, [Value.int .u8 n].toArray, rfl, rfl, Nat.le_refl _, by decide, rfl, rfl⟩⟩
theorem Own.to {v : Value} {R : Lc} {e : TypeId} {size n n' : Nat} {xs xs' : List Value} (h : Own v R e size n xs) (hn : n = n') (hx : xs = xs') : Own v R e size n' xs' := by subst hn hx; exact h
theorem wEv {M : Mem} {a : Option Addr} {xs : List By} (h : SM M a (wAj xs)) {k : Nat} (hk : k < xs.length) : ∃ b off, a = some ⟨b, off, none⟩ ∧ CM M b (off + ((k : Int)).toNat * 1) (.int .u8 (xs[k].toNat : Int)) := by
 obtain ⟨b, off, e, hx⟩ := h.open (by intro e; have := congrArg List.length e; rw [wAm, List.length_nil] at this; omega)
 exact ⟨b, off, e, by rw [Int.toNat_natCast, Nat.mul_one]; exact hx k _ (by simp [wAj, hk])⟩
theorem ropen_len (sa : Option Addr) (c : Nat) (xs : List By) (M : Mem) (hc : xs.length ≤ c) (hs : SM M sa (wAj xs)) (hn : xs.length ≤ 100000) (h : xs.length ≠ 128) :
  SpecL Tryz.prog 125 #[.slice sa xs.length c] M [] fun u _ L' => u = .tuple #[.slice none 0 0, .int .i64 3] ∧ L' = [] := by
 refine wAe (vs := [_]) 22 _ Tryz.func125 rfl Tryz.ntmps125 rfl rfl ?_; intro W
 refine wAb (wAa (jp rfl (jp rfl (wAc (jT (wAb (wAb (wAa (jp rfl (wAi rfl rfl (wBe rfl rfl rfl) ?_))))))))))
 refine jt rfl (decide_eq_true (by omega)) ?_
 refine wAc (jT (wAg rfl (wAb (wAa (jp rfl (jp rfl (wAc (jT (wAf (jTr (jr2 rfl rfl rfl ?_)))))))))))
 exact ⟨rfl, rfl⟩
theorem ropen_bad (sa : Option Addr) (c : Nat) (xs : List By) (M : Mem) (hc : xs.length ≤ c) (hs : SM M sa (wAj xs)) (hn : xs.length ≤ 100000) (h : xs.length = 128) (hb : wGm xs 0 4 ≠ wJe (xs.drop 4)) :
  SpecL Tryz.prog 125 #[.slice sa xs.length c] M [] fun u _ L' => u = .tuple #[.slice none 0 0, .int .i64 8] ∧ L' = [] := by
 obtain ⟨sb, so, e0, hx⟩ := hs.open (by intro e; have := congrArg List.length e; rw [wAm, List.length_nil] at this; omega)
 subst e0
 have hdl : (xs.drop 4).length = 124 := by rw [List.length_drop]; omega
 have hsub : SM M (some ⟨sb, so + 4 * 1, none⟩) (wAj (xs.drop 4)) := by
  have := SM.sub 4 124 hx
  rw [List.take_of_length_le (by rw [hdl]; exact Nat.le_refl _)] at this
  exact .inr ⟨sb, _, rfl, this⟩
 refine wAe (vs := [_]) 22 _ Tryz.func125 rfl Tryz.ntmps125 rfl rfl ?_; intro W
 refine wAb (wAa (jp rfl (jp rfl (wAc (jT (wAb (wAb (wAa (jp rfl (wAi rfl rfl (wBe rfl rfl rfl) ?_))))))))))
 refine jf rfl (decide_eq_false (by omega)) ?_
 refine wAc (jT (wAk rfl (wAd (jT (wAb (wAa (jp rfl (wAi rfl rfl (wAy rfl rfl rfl rfl rfl (by kernel_rfl) (wDa _ c xs 0 M hs hc (by omega) (by omega))) ?_))))))))
 refine jp rfl (jp rfl (jp rfl (jp rfl (jp rfl (wAc (jT (wAb (wAb (wAa (jp rfl (jp rfl ?_)))))))))))
 refine wAi rfl rfl (qEq (qSl rfl rfl rfl (.no _) (.no _) (.of (v := 4) rfl (by omega) rfl) (by omega) (by simp)) (v' := .slice (some ⟨sb, so + 4 * 1, none⟩) (xs.drop 4).length (c - 4)) (by rw [wBu (by omega), hdl]; congr 1; omega)) ?_
 refine wAi rfl rfl (wAy rfl rfl rfl rfl rfl (by kernel_rfl) (rof_spec _ (c - 4) (xs.drop 4) M hsub (by omega))) ?_
 refine jt rfl (decide_eq_true (by omega)) ?_
 refine wAc (jT (wAg rfl (wAb (wAa (jp rfl (jp rfl (wAc (jT (wAf (jTr (jr2 rfl rfl rfl ?_)))))))))))
 exact ⟨rfl, rfl⟩
theorem ropen_ok (sa : Option Addr) (c : Nat) (xs : List By) (M : Mem) (hc : xs.length ≤ c) (hs : SM M sa (wAj xs)) (hn : xs.length ≤ 100000) (h : xs.length = 128) (hb : wGm xs 0 4 = wJe (xs.drop 4)) :
  SpecL Tryz.prog 125 #[.slice sa xs.length c] M [] fun u M' L' => (∃ v, u = .tuple #[v, .int .i64 0] ∧ BS M' v (xs.drop 4)) ∧ L' = [] := by
 obtain ⟨sb, so, e0, hx⟩ := hs.open (by intro e; have := congrArg List.length e; rw [wAm, List.length_nil] at this; omega)
 subst e0
 have hdl : (xs.drop 4).length = 124 := by rw [List.length_drop]; omega
 have hsub : SM M (some ⟨sb, so + 4 * 1, none⟩) (wAj (xs.drop 4)) := by
  have := SM.sub 4 124 hx
  rw [List.take_of_length_le (by rw [hdl]; exact Nat.le_refl _)] at this
  exact .inr ⟨sb, _, rfl, this⟩
 refine wAe (vs := [_]) 22 _ Tryz.func125 rfl Tryz.ntmps125 rfl rfl ?_; intro W
 refine wAb (wAa (jp rfl (jp rfl (wAc (jT (wAb (wAb (wAa (jp rfl (wAi rfl rfl (wBe rfl rfl rfl) ?_))))))))))
 refine jf rfl (decide_eq_false (by omega)) ?_
 refine wAc (jT (wAk rfl (wAd (jT (wAb (wAa (jp rfl (wAi rfl rfl (wAy rfl rfl rfl rfl rfl (by kernel_rfl) (wDa _ c xs 0 M hs hc (by omega) (by omega))) ?_))))))))
 refine jp rfl (jp rfl (jp rfl (jp rfl (jp rfl (wAc (jT (wAb (wAb (wAa (jp rfl (jp rfl ?_)))))))))))
 refine wAi rfl rfl (qEq (qSl rfl rfl rfl (.no _) (.no _) (.of (v := 4) rfl (by omega) rfl) (by omega) (by simp)) (v' := .slice (some ⟨sb, so + 4 * 1, none⟩) (xs.drop 4).length (c - 4)) (by rw [wBu (by omega), hdl]; congr 1; omega)) ?_
 refine wAi rfl rfl (wAy rfl rfl rfl rfl rfl (by kernel_rfl) (rof_spec _ (c - 4) (xs.drop 4) M hsub (by omega))) ?_
 refine jf rfl (decide_eq_false (by omega)) ?_
 refine wAc (jT (wAk rfl (wAd (jT (wAb (wAa (jp rfl ?_)))))))
 refine wAi rfl rfl (qEq (qSl rfl rfl rfl (.no _) (.no _) (.of (v := 4) rfl (by omega) rfl) (by omega) (by simp)) (v' := .slice (some ⟨sb, so + 4 * 1, none⟩) (xs.drop 4).length (c - 4)) (by rw [wBu (by omega), hdl]; congr 1; omega)) ?_
 refine wAv rfl rfl (wBk (R := []) rfl rfl rfl rfl (Own.nil _ _) (by rw [wAm, Nat.mul_one]) hsub rfl (wBf _) (by omega) (by omega)) ?_; rintro v21 _ _ ⟨rfl, R21, rfl, o21⟩
 refine jp rfl (jp rfl (wAc (jT (wAf (wGi o21 (by simp) ?_)))))
 intro M5 a5 c5 hM5 e5 hc5 hs5; subst e5
 refine jr2 rfl rfl rfl ?_
 exact ⟨⟨_, rfl, a5, c5, by rw [Nat.zero_add], by omega, by simpa using hs5⟩, rfl⟩
theorem wFi (a b : Ky) (M : Mem) :
  SpecL Tryz.prog 111 #[.agg (wEw a).toArray, .agg (wEw b).toArray] M [] fun u _ _ => u = .bool (wCt a b) := by
 refine wAe (vs := [_, _]) 30 _ Tryz.func111 rfl Tryz.ntmps111 rfl rfl ?_; intro W
 refine wAb (wAa (wAv rfl rfl (wBw (cs := [_, _, _]) rfl rfl rfl rfl) ?_)); rintro _ _ _ ⟨b2, rfl, rfl, rfl⟩
 refine wAv rfl rfl (wBw (cs := [_, _, _]) rfl rfl rfl rfl) ?_; rintro _ _ _ ⟨b3, rfl, rfl, rfl⟩
 refine jp rfl (wAc (jT (wAb (wAb (wAa (sFL rfl rfl ?_))))))
 refine sFL rfl rfl ?_
 refine js rfl (fun h9 => ?_) (fun h9 => ?_)
 ·refine wAc (jT (wAg rfl (wAb (wAa (sFL rfl rfl ?_)))))
  refine sFL rfl rfl ?_
  refine jp rfl (jp rfl (wAc (jT (wAf (jTr (jr1 rfl rfl ?_))))))
  unfold wCt; exact congrArg Value.bool (decide_eq_decide.2 (by omega))
 refine wAc (jT (wAk rfl (wAd (jT (wAb (wAb (wAa (sFL rfl rfl ?_))))))))
 refine sFL rfl rfl ?_
 refine js rfl (fun h19 => ?_) (fun h19 => ?_)
 ·refine wAc (jT (wAg rfl (wAb (wAa (sFL rfl rfl ?_)))))
  refine sFL rfl rfl ?_
  refine jp rfl (jp rfl (wAc (jT (wAf (jTr (jr1 rfl rfl ?_))))))
  unfold wCt; exact congrArg Value.bool (decide_eq_decide.2 (by omega))
 refine wAc (jT (wAk rfl (wAd (jT (wAb (wAa (sFL rfl rfl ?_)))))))
 refine sFL rfl rfl ?_
 refine jp rfl (jp rfl (wAc (jT (wAf (jr1 rfl rfl ?_)))))
 unfold wCt; exact congrArg Value.bool (decide_eq_decide.2 (by omega))
theorem wHp (x : It) (va : Option Addr) (vc : Nat) (M : Mem) :
  SpecL Tryz.prog 138 #[.agg (itc x va vc).toArray] M [] fun u _ _ => u = .bool (!wDq x) := by
 refine wAe (vs := [_]) 22 _ Tryz.func138 rfl Tryz.ntmps138 rfl rfl ?_; intro W
 refine wAb (wAa (wAv rfl rfl (wBw (cs := [_, _, _, _, _]) rfl rfl rfl rfl) ?_)); rintro _ _ _ ⟨b1, rfl, rfl, rfl⟩
 refine jp rfl (wAc (jT (wAb (wAa (sFL rfl rfl ?_)))))
 refine js rfl (fun h5 => ?_) (fun h5 => ?_)
 ·iterate 11 refine jp rfl ?_
  refine sFL rfl rfl ?_
  refine wAi rfl rfl (wBe rfl rfl rfl) ?_
  refine jp rfl (jp rfl (jp rfl (wAc (jT (wAf (jr1 rfl rfl ?_))))))
  unfold wDq; rw [← decide_not]; first | exact congrArg Value.bool (decide_eq_decide.2 (by omega)) | exact congrArg Value.bool (decide_eq_false (by omega)).symm
 refine jp rfl (sFL rfl rfl ?_)
 refine js rfl (fun h9 => ?_) (fun h9 => ?_)
 ·refine jp rfl (sFL rfl rfl ?_)
  refine js rfl (fun h13 => ?_) (fun h13 => ?_)
  ·refine jp rfl (jp rfl (jp rfl (sFL rfl rfl ?_)))
   refine wAi rfl rfl (wBe rfl rfl rfl) ?_
   refine jp rfl (jp rfl (jp rfl (wAc (jT (wAf (jr1 rfl rfl ?_))))))
   unfold wDq; rw [← decide_not]; first | exact congrArg Value.bool (decide_eq_decide.2 (by omega)) | exact congrArg Value.bool (decide_eq_false (by omega)).symm
  iterate 9 refine jp rfl ?_
  refine wAc (jT (wAf (jr1 rfl rfl ?_)))
  unfold wDq; rw [← decide_not]; first | exact congrArg Value.bool (decide_eq_decide.2 (by omega)) | exact congrArg Value.bool (decide_eq_false (by omega)).symm
 iterate 13 refine jp rfl ?_
 refine wAc (jT (wAf (jr1 rfl rfl ?_)))
 unfold wDq; rw [← decide_not]; first | exact congrArg Value.bool (decide_eq_decide.2 (by omega)) | exact congrArg Value.bool (decide_eq_false (by omega)).symm
set_option maxHeartbeats 2000000 in
theorem rbytes5_spec (x : It) (va : Option Addr) (vc : Nat) (M : Mem) (hv : SM M va (wAj x.val)) (hk : 0 ≤ x.key.kind ∧ x.key.kind < 256) (hid : 0 ≤ x.key.id ∧ x.key.id < 4294967296) (hoff : 0 ≤ x.key.off ∧ x.key.off < 4294967296) (href : 0 ≤ x.ref ∧ x.ref < 65536) (hl : x.val.length ≤ 1000) :
  SpecL Tryz.prog 139 #[.agg (itc x va vc).toArray] M [] fun u M' L' => Own u L' 5 1 (itB x).length (wAj (itB x)) := by
 refine wAe (vs := [_]) 36 _ Tryz.func139 rfl Tryz.ntmps139 rfl rfl ?_; intro W
 refine wAb (wAa (wAv rfl rfl (wBw (cs := [_, _, _, _, _]) rfl rfl rfl rfl) ?_)); rintro _ _ _ ⟨b1, rfl, rfl, rfl⟩
 refine jp rfl (wAc (jT (wAb (wAa (sFa rfl ?_)))))
 refine sFL rfl rfl ?_
 refine wAv rfl rfl (wAr (cs := [_]) rfl rfl rfl (by rfl) (by rfl) (by rfl)) ?_; rintro _ _ _ ⟨b7, rfl, rfl, rfl⟩
 refine jl_weak (L' := [(b7, .cells [Value.int .u8 x.key.kind].toArray 5 (0, 0))] ++ _) (fun _ h => h) ?_
 have o7 := own_one (b := b7) hk
 refine jp rfl (wAc (jT (wAb (wAa (jp rfl (sFa rfl ?_))))))
 refine sFL rfl rfl ?_
 refine wAv rfl rfl (wAt rfl rfl rfl rfl rfl (by kernel_rfl) (wDv x.key.id M hid.1 hid.2)) ?_; rintro _ M _ ⟨_, R12, rfl, ⟨rfl, o12⟩⟩
 refine wDw o12 (by simp) ?_
 intro M12 a12 c12 hM12 e12 hc12 hs12
 subst e12
 refine wAv rfl rfl (wBk (R := [(b7, .cells [Value.int .u8 x.key.kind].toArray 5 (0, 0))]) rfl rfl rfl rfl o7 (by rw [wAm]; rfl) hs12 rfl (wBf _) (by omega) (by omega)) ?_; rintro v13 _ _ ⟨rfl, R13, rfl, o13⟩
 refine jp rfl (wAc (jT (wAb (wAa (jp rfl (sFa rfl ?_))))))
 refine sFL rfl rfl ?_
 refine wAv rfl rfl (wAt rfl rfl rfl rfl rfl (by kernel_rfl) (wDv x.key.off M12 hoff.1 hoff.2)) ?_; rintro _ M12 _ ⟨_, R18, rfl, ⟨rfl, o18⟩⟩
 refine wDw o18 (by simp) ?_
 intro M18 a18 c18 hM18 e18 hc18 hs18
 subst e18
 refine wAv rfl rfl (wBk (R := R13) rfl rfl rfl rfl o13 (by rw [wAm]; rfl) hs18 rfl (wBf _) (by omega) (by omega)) ?_; rintro v19 _ _ ⟨rfl, R19, rfl, o19⟩
 refine jp rfl (wAc (jT (wAb (wAa (jp rfl (sFL rfl rfl ?_))))))
 refine wAv rfl rfl (wAt rfl rfl rfl rfl rfl (by kernel_rfl) (wFm x.ref 2 M18 href.1 (by omega) (by omega))) ?_; rintro _ M18 _ ⟨_, R23, rfl, ⟨rfl, o23⟩⟩
 rw [lowB_two href.1] at o23
 refine wDw o23 (by simp) ?_
 intro M23 a23 c23 hM23 e23 hc23 hs23
 subst e23
 refine wAv rfl rfl (wBk (R := R19) rfl rfl rfl rfl o19 (by rw [wAm]; rfl) hs23 rfl (wBf _) (by omega) (by omega)) ?_; rintro v24 _ _ ⟨rfl, R24, rfl, o24⟩
 refine jp rfl (wAc (jT (wAb (wAa (jp rfl (sFL rfl rfl ?_))))))
 refine wAi rfl rfl (wBe rfl rfl rfl) ?_
 refine wAi rfl rfl (qEq (wDe rfl rfl rfl) (v' := .int .u8 ((bU x.val.length).toNat : Int)) (by rw [u8_bU])) ?_
 refine wAv rfl rfl (wAr (cs := [_]) rfl rfl rfl (by rfl) (by rfl) (by rfl)) ?_; rintro _ _ _ ⟨b30, rfl, rfl, rfl⟩
 refine wAv rfl rfl (wCr (R := R24) (news := [Value.int .u8 ((bU x.val.length).toNat : Int)]) rfl rfl rfl rfl o24 rfl (fun j v hv => CJ.loc (by rw [Nat.zero_add]; simpa using hv)) rfl rfl (fun u hu => by rw [List.mem_singleton.1 hu]; rfl) (by omega) (by omega)) ?_; rintro v31 _ _ ⟨rfl, R31, rfl, o31, _⟩
 refine jp rfl (wAc (jT (wAb (wAa (jp rfl (sFL rfl rfl ?_))))))
 refine wAv rfl rfl (wBk (R := R31) rfl rfl rfl rfl o31 (by rw [wAm, Nat.mul_one]) (hv.mono (hM12.trans (hM18.trans hM23))) rfl (wBf _) (by omega) (by omega)) ?_; rintro v35 _ _ ⟨rfl, R35, rfl, o35⟩
 refine jp rfl (wAc (jT (wAf (wAu (L' := R35) (List.sublist_append_left _ _) ?_))))
 refine jr1 rfl rfl ?_
 refine o35.to ?_ ?_
 ·simp only [itB, List.length_append]; rfl
 unfold wAj itB; simp only [List.map_append, List.map_cons, List.map_nil]
def R5P (xs : List By) (u : Value) (M' : Mem) (L' : Lc) : Prop := ∃ x va vc, ∃ sz : Int, u = .tuple #[.agg (itc x va vc).toArray, .int .i64 sz, .int .i64 (rdE xs)] ∧ (rdE xs = 0 → x = rdX xs ∧ sz = rdS xs ∧ x.val.length ≤ vc ∧ SM M' va (wAj x.val)) ∧ L' = []
theorem R5P.bad {xs : List By} {M : Mem} (h : rdE xs = 8) : R5P xs (.tuple #[.agg zeroIt.toArray, .int .i64 0, .int .i64 8]) M [] := ⟨⟨⟨0, 0, 0⟩, 0, []⟩, none, 0, 0, by rw [h]; rfl, (fun h0 => by rw [h] at h0; cases h0), rfl⟩
theorem rread5_len (sa : Option Addr) (c : Nat) (xs : List By) (M : Mem) (hc : xs.length ≤ c) (hs : SM M sa (wAj xs)) (hn : xs.length ≤ 100000) (h : xs.length < 12) :
  SpecL Tryz.prog 126 #[.slice sa xs.length c] M [] (R5P xs) := by
 refine wAe (vs := [_]) 64 _ Tryz.func126 rfl Tryz.ntmps126 rfl rfl ?_; intro W
 refine wAb (wAa (sAl rfl fun b2 => ?_))
 refine jp rfl (jp rfl (wAc (jT (wAb (wAb (wAa (jp rfl (wAi rfl rfl (wBe rfl rfl rfl) ?_))))))))
 refine jt rfl (decide_eq_true (by omega)) ?_
 iterate 10 refine jp rfl ?_
 refine wAc (jT (wAg rfl (wAb (wAa (wAi rfl rfl (wAq (cs := [_, _, _, _, _]) rfl rfl rfl (by rfl)) ?_)))))
 refine sSt rfl ?_
 refine jp rfl (jp rfl (wAc (jT (wAf (jTr (wBr (rs := [_, _, _]) ([]) (by exact List.nil_sublist _) rfl (.cons (.agg rfl rfl rfl) (.cons (.tmp rfl) (.cons (.tmp rfl) .nil))) ?_))))))
 exact R5P.bad (by unfold rdE; rw [if_pos h])
theorem rread5_size (sa : Option Addr) (c : Nat) (xs : List By) (M : Mem) (hc : xs.length ≤ c) (hs : SM M sa (wAj xs)) (hn : xs.length ≤ 100000) (h : ¬ xs.length < 12) (h2 : xs.length < rdS xs) :
  SpecL Tryz.prog 126 #[.slice sa xs.length c] M [] (R5P xs) := by
 obtain ⟨sb, so, e0, hx⟩ := hs.open (by intro e; have := congrArg List.length e; rw [wAm, List.length_nil] at this; omega)
 subst e0
 have hbl := (xs.getD 11 0).toNat_lt
 have hS : rdS xs = 12 + (xs.getD 11 0).toNat := rfl
 refine wAe (vs := [_]) 64 _ Tryz.func126 rfl Tryz.ntmps126 rfl rfl ?_; intro W
 refine wAb (wAa (sAl rfl fun b2 => ?_))
 refine jp rfl (jp rfl (wAc (jT (wAb (wAb (wAa (jp rfl (wAi rfl rfl (wBe rfl rfl rfl) ?_))))))))
 refine jf rfl (decide_eq_false (by omega)) ?_
 refine jp rfl (jp rfl (wAi rfl rfl (wBe rfl rfl rfl) ?_))
 refine ja rfl (by omega) ?_
 refine jp rfl (wAi rfl rfl (wBb rfl rfl rfl rfl (by omega)) ?_)
 refine wAi rfl rfl (qLd rfl rfl rfl rfl ((hx ((11 : Int).toNat * 1) _ (wKh (j := 11) (by omega))).cj _)) ?_
 refine wAi rfl rfl (wCg rfl rfl rfl (by omega)) ?_
 refine jt rfl (decide_eq_true (by omega)) ?_
 refine jp rfl (wAc (jT (wAg rfl (wAb (wAa (wAi rfl rfl (wAq (cs := [_, _, _, _, _]) rfl rfl rfl (by rfl)) ?_))))))
 refine sSt rfl ?_
 refine jp rfl (jp rfl (wAc (jT (wAf (jTr (wBr (rs := [_, _, _]) ([]) (by exact List.nil_sublist _) rfl (.cons (.agg rfl rfl rfl) (.cons (.tmp rfl) (.cons (.tmp rfl) .nil))) ?_))))))
 exact R5P.bad (by unfold rdE; rw [if_neg h, if_pos h2])
set_option maxHeartbeats 2000000 in
theorem rread5_ok (sa : Option Addr) (c : Nat) (xs : List By) (M : Mem) (hc : xs.length ≤ c) (hs : SM M sa (wAj xs)) (hn : xs.length ≤ 100000) (h : ¬ xs.length < 12) (h2 : ¬ xs.length < rdS xs) (h3 : wDq (rdX xs) = false) :
  SpecL Tryz.prog 126 #[.slice sa xs.length c] M [] (R5P xs) := by
 obtain ⟨sb, so, e0, hx⟩ := hs.open (by intro e; have := congrArg List.length e; rw [wAm, List.length_nil] at this; omega)
 subst e0
 have hbl := (xs.getD 11 0).toNat_lt
 have hS : rdS xs = 12 + (xs.getD 11 0).toNat := rfl
 have hvl := rdX_len (xs := xs) (by omega)
 have hsv : SM M (slA (some ⟨sb, so, none⟩) 12 c 1) (wAj (rdX xs).val) := by
   by_cases hz : 12 = c
   ·left; have : (rdX xs).val = [] := List.eq_nil_of_length_eq_zero (by omega); rw [this]; rfl
   rw [wBu (by omega)]; exact .inr ⟨sb, _, rfl, SM.sub 12 (rdS xs - 12) hx⟩
 refine wAe (vs := [_]) 64 _ Tryz.func126 rfl Tryz.ntmps126 rfl rfl ?_; intro W
 refine wAb (wAa (sAl rfl fun b2 => ?_))
 refine jp rfl (jp rfl (wAc (jT (wAb (wAb (wAa (jp rfl (wAi rfl rfl (wBe rfl rfl rfl) ?_))))))))
 refine jf rfl (decide_eq_false (by omega)) ?_
 refine jp rfl (jp rfl (wAi rfl rfl (wBe rfl rfl rfl) ?_))
 refine ja rfl (by omega) ?_
 refine jp rfl (wAi rfl rfl (wBb rfl rfl rfl rfl (by omega)) ?_)
 refine wAi rfl rfl (qLd rfl rfl rfl rfl ((hx ((11 : Int).toNat * 1) _ (wKh (j := 11) (by omega))).cj _)) ?_
 refine wAi rfl rfl (wCg rfl rfl rfl (by omega)) ?_
 refine jf rfl (decide_eq_false (by omega)) ?_
 refine jp rfl (wAc (jT (wAk rfl (wAd (jT (wAb (wAa (jp rfl (wAi rfl rfl (wBb rfl rfl rfl rfl (by omega)) ?_)))))))))
 refine wAi rfl rfl (qLd rfl rfl rfl rfl ((hx ((0 : Int).toNat * 1) _ (wKh (j := 0) (by omega))).cj _)) ?_
 refine wAi rfl rfl (wAq (cs := [_, _, _]) rfl rfl rfl (by rfl)) ?_
 refine wAi rfl rfl (wAq (cs := [_, _, _, _, _]) rfl rfl rfl (by rfl)) ?_
 refine sAl rfl fun b5 => ?_
 refine sSt rfl ?_
 refine wAc (jT (wAb (wAa (jp rfl (wAi rfl rfl (wAy rfl rfl rfl rfl rfl (by kernel_rfl) (wDa _ c xs 1 M hs hc (by omega) (by omega))) ?_)))))
 refine jp rfl (jp rfl (jp rfl (sFF rfl rfl ?_)))
 refine sSt rfl ?_
 refine wAc (jT (wAb (wAa (jp rfl (wAi rfl rfl (wAy rfl rfl rfl rfl rfl (by kernel_rfl) (wDa _ c xs 5 M hs hc (by omega) (by omega))) ?_)))))
 refine jp rfl (jp rfl (jp rfl (sFF rfl rfl ?_)))
 refine sSt rfl ?_
 refine wAc (jT (wAb (wAa (jp rfl (wAi rfl rfl (wAy rfl rfl rfl rfl rfl (by kernel_rfl) (wHc _ c xs 9 M hs hc (by omega) (by omega))) ?_)))))
 refine jp rfl (jp rfl (jp rfl (sFa rfl ?_)))
 refine sSt rfl ?_
 refine wAc (jT (wAb (wAa (jp rfl (wAi rfl rfl (wBb rfl rfl rfl rfl (by omega)) ?_)))))
 refine wAi rfl rfl (qLd rfl rfl rfl rfl ((hx ((11 : Int).toNat * 1) _ (wKh (j := 11) (by omega))).cj _)) ?_
 refine wAi rfl rfl (wCg rfl rfl rfl (by omega)) ?_
 refine ja rfl (by omega) ?_
 refine jp rfl (wAc (jT (wAb (wBj (p := { A := fun i => !([7].contains i), U := fun i => !([7].contains i) }) [(0, true), (1, true), (2, true), (3, true), (4, true), (5, false), (6, true), (7, false)] M ([(b5, .cells [Value.int .u8 ((xs.getD 0 0).toNat : Int), .int .u32 (wGm xs 1 4), .int .u32 (wGm xs 5 4), .int .i64 (wGm xs 9 2), .slice none 0 0].toArray 152 (0, 0))]) ([]) (by kernel_rfl) (by kernel_rfl) (by kernel_rfl) (by kernel_rfl) rfl (by simp) (MLe.refl _) (by simp) ?_))))
 refine dFa rfl rfl ?_
 refine dLd rfl rfl ?_
 iterate 2 refine dp rfl rfl ?_
 refine wBh rfl rfl rfl (qEq (qSl rfl rfl rfl (.no _) (.of (v := rdS xs) rfl (by omega) (by omega)) (.of (v := 12) rfl (by omega) rfl) (by omega) (by simp)) (v' := .slice (slA (some ⟨sb, so, none⟩) 12 c 1) (rdX xs).val.length (c - 12)) (by rw [hvl])) ?_
 refine wDy rfl rfl rfl (wBk (R := []) rfl rfl rfl rfl (Own.nil _ _) (by rw [wAm, Nat.mul_one]) hsv rfl (wBf _) (by omega) (by omega)) ?_; rintro v56 _ _ ⟨rfl, R56, rfl, o56⟩
 refine ⟨_, _, MLe.refl _, MLe.refl _, fun _ h => h, by simp, ?_⟩
 obtain ⟨a56, c56, rfl⟩ := o56.form
 simp only [Nat.zero_add, List.nil_append] at o56 ⊢
 refine dFa rfl rfl ?_
 refine jd_e rfl rfl (wBd rfl rfl rfl rfl rfl rfl rfl rfl) ?_; rintro _ _ _ ⟨rfl, rfl⟩
 refine ⟨MLe.refl _, by simp, ?_⟩
 refine wCn ?_
 refine jPn (jT (wAb (wAb (wAa (sLL rfl ?_)))))
 refine wAi rfl rfl (qEq (wAy rfl rfl rfl rfl rfl (by kernel_rfl) (wHp (rdX xs) a56 c56 M)) (v' := .bool true) (by rw [h3]; rfl)) ?_
 refine jp rfl (wAc (jT (wAk rfl (wAd (jT (wAb (wAa (sLL rfl ?_))))))))
 refine jp rfl (sSt rfl ?_)
 refine jp rfl (jp rfl (wAc (jT (wAf (wGi o56 (by simp) ?_)))))
 intro M6 a6 c6 hM6 e6 hc6 hs6
 cases e6
 refine wBr (rs := [_, _, _]) ([]) (by exact List.nil_sublist _) rfl (.cons (.agg rfl rfl rfl) (.cons (.tmp rfl) (.cons (.tmp rfl) .nil))) ?_
 have hE : rdE xs = 0 := by unfold rdE; rw [if_neg h, if_neg h2]; unfold wFt; rw [h3]; rfl
 exact ⟨rdX xs, a56, c56, _, by rw [hE]; rfl, fun _ => ⟨rfl, by unfold rdS; simp, hc6, hs6⟩, rfl⟩
set_option maxHeartbeats 2000000 in
theorem rread5_bad (sa : Option Addr) (c : Nat) (xs : List By) (M : Mem) (hc : xs.length ≤ c) (hs : SM M sa (wAj xs)) (hn : xs.length ≤ 100000) (h : ¬ xs.length < 12) (h2 : ¬ xs.length < rdS xs) (h3 : wDq (rdX xs) = true) :
  SpecL Tryz.prog 126 #[.slice sa xs.length c] M [] (R5P xs) := by
 obtain ⟨sb, so, e0, hx⟩ := hs.open (by intro e; have := congrArg List.length e; rw [wAm, List.length_nil] at this; omega)
 subst e0
 have hbl := (xs.getD 11 0).toNat_lt
 have hS : rdS xs = 12 + (xs.getD 11 0).toNat := rfl
 have hvl := rdX_len (xs := xs) (by omega)
 have hsv : SM M (slA (some ⟨sb, so, none⟩) 12 c 1) (wAj (rdX xs).val) := by
   by_cases hz : 12 = c
   ·left; have : (rdX xs).val = [] := List.eq_nil_of_length_eq_zero (by omega); rw [this]; rfl
   rw [wBu (by omega)]; exact .inr ⟨sb, _, rfl, SM.sub 12 (rdS xs - 12) hx⟩
 refine wAe (vs := [_]) 64 _ Tryz.func126 rfl Tryz.ntmps126 rfl rfl ?_; intro W
 refine wAb (wAa (sAl rfl fun b2 => ?_))
 refine jp rfl (jp rfl (wAc (jT (wAb (wAb (wAa (jp rfl (wAi rfl rfl (wBe rfl rfl rfl) ?_))))))))
 refine jf rfl (decide_eq_false (by omega)) ?_
 refine jp rfl (jp rfl (wAi rfl rfl (wBe rfl rfl rfl) ?_))
 refine ja rfl (by omega) ?_
 refine jp rfl (wAi rfl rfl (wBb rfl rfl rfl rfl (by omega)) ?_)
 refine wAi rfl rfl (qLd rfl rfl rfl rfl ((hx ((11 : Int).toNat * 1) _ (wKh (j := 11) (by omega))).cj _)) ?_
 refine wAi rfl rfl (wCg rfl rfl rfl (by omega)) ?_
 refine jf rfl (decide_eq_false (by omega)) ?_
 refine jp rfl (wAc (jT (wAk rfl (wAd (jT (wAb (wAa (jp rfl (wAi rfl rfl (wBb rfl rfl rfl rfl (by omega)) ?_)))))))))
 refine wAi rfl rfl (qLd rfl rfl rfl rfl ((hx ((0 : Int).toNat * 1) _ (wKh (j := 0) (by omega))).cj _)) ?_
 refine wAi rfl rfl (wAq (cs := [_, _, _]) rfl rfl rfl (by rfl)) ?_
 refine wAi rfl rfl (wAq (cs := [_, _, _, _, _]) rfl rfl rfl (by rfl)) ?_
 refine sAl rfl fun b5 => ?_
 refine sSt rfl ?_
 refine wAc (jT (wAb (wAa (jp rfl (wAi rfl rfl (wAy rfl rfl rfl rfl rfl (by kernel_rfl) (wDa _ c xs 1 M hs hc (by omega) (by omega))) ?_)))))
 refine jp rfl (jp rfl (jp rfl (sFF rfl rfl ?_)))
 refine sSt rfl ?_
 refine wAc (jT (wAb (wAa (jp rfl (wAi rfl rfl (wAy rfl rfl rfl rfl rfl (by kernel_rfl) (wDa _ c xs 5 M hs hc (by omega) (by omega))) ?_)))))
 refine jp rfl (jp rfl (jp rfl (sFF rfl rfl ?_)))
 refine sSt rfl ?_
 refine wAc (jT (wAb (wAa (jp rfl (wAi rfl rfl (wAy rfl rfl rfl rfl rfl (by kernel_rfl) (wHc _ c xs 9 M hs hc (by omega) (by omega))) ?_)))))
 refine jp rfl (jp rfl (jp rfl (sFa rfl ?_)))
 refine sSt rfl ?_
 refine wAc (jT (wAb (wAa (jp rfl (wAi rfl rfl (wBb rfl rfl rfl rfl (by omega)) ?_)))))
 refine wAi rfl rfl (qLd rfl rfl rfl rfl ((hx ((11 : Int).toNat * 1) _ (wKh (j := 11) (by omega))).cj _)) ?_
 refine wAi rfl rfl (wCg rfl rfl rfl (by omega)) ?_
 refine ja rfl (by omega) ?_
 refine jp rfl (wAc (jT (wAb (wBj (p := { A := fun i => !([7].contains i), U := fun i => !([7].contains i) }) [(0, true), (1, true), (2, true), (3, true), (4, true), (5, false), (6, true), (7, false)] M ([(b5, .cells [Value.int .u8 ((xs.getD 0 0).toNat : Int), .int .u32 (wGm xs 1 4), .int .u32 (wGm xs 5 4), .int .i64 (wGm xs 9 2), .slice none 0 0].toArray 152 (0, 0))]) ([]) (by kernel_rfl) (by kernel_rfl) (by kernel_rfl) (by kernel_rfl) rfl (by simp) (MLe.refl _) (by simp) ?_))))
 refine dFa rfl rfl ?_
 refine dLd rfl rfl ?_
 iterate 2 refine dp rfl rfl ?_
 refine wBh rfl rfl rfl (qEq (qSl rfl rfl rfl (.no _) (.of (v := rdS xs) rfl (by omega) (by omega)) (.of (v := 12) rfl (by omega) rfl) (by omega) (by simp)) (v' := .slice (slA (some ⟨sb, so, none⟩) 12 c 1) (rdX xs).val.length (c - 12)) (by rw [hvl])) ?_
 refine wDy rfl rfl rfl (wBk (R := []) rfl rfl rfl rfl (Own.nil _ _) (by rw [wAm, Nat.mul_one]) hsv rfl (wBf _) (by omega) (by omega)) ?_; rintro v56 _ _ ⟨rfl, R56, rfl, o56⟩
 refine ⟨_, _, MLe.refl _, MLe.refl _, fun _ h => h, by simp, ?_⟩
 obtain ⟨a56, c56, rfl⟩ := o56.form
 simp only [Nat.zero_add, List.nil_append] at o56 ⊢
 refine dFa rfl rfl ?_
 refine jd_e rfl rfl (wBd rfl rfl rfl rfl rfl rfl rfl rfl) ?_; rintro _ _ _ ⟨rfl, rfl⟩
 refine ⟨MLe.refl _, by simp, ?_⟩
 refine wCn ?_
 refine jPn (jT (wAb (wAb (wAa (sLL rfl ?_)))))
 refine wAi rfl rfl (qEq (wAy rfl rfl rfl rfl rfl (by kernel_rfl) (wHp (rdX xs) a56 c56 M)) (v' := .bool false) (by rw [h3]; rfl)) ?_
 refine jp rfl (wAc (jT (wAg rfl (wAb (wAa (wAi rfl rfl (wAq (cs := [_, _, _, _, _]) rfl rfl rfl (by rfl)) ?_))))))
 refine sSt rfl ?_
 refine jp rfl (jp rfl (wAc (jT (wAf (jTr (wBr (rs := [_, _, _]) ([]) (by exact List.nil_sublist _) rfl (.cons (.agg rfl rfl rfl) (.cons (.tmp rfl) (.cons (.tmp rfl) .nil))) ?_))))))
 exact R5P.bad (by unfold rdE; rw [if_neg h, if_neg h2]; unfold wFt; rw [h3]; rfl)
theorem rread5_spec (v : Value) (xs : List By) (M : Mem) (hv : BS M v xs) (hn : xs.length ≤ 100000) : SpecL Tryz.prog 126 #[v] M [] (R5P xs) := by
 obtain ⟨a, c, rfl, hc, hs⟩ := hv
 by_cases h1 : xs.length < 12
 ·exact rread5_len a c xs M hc hs hn h1
 by_cases h2 : xs.length < rdS xs
 ·exact rread5_size a c xs M hc hs hn h1 h2
 cases h3 : wDq (rdX xs) with
 | false => exact rread5_ok a c xs M hc hs hn h1 h2 h3
 | true => exact rread5_bad a c xs M hc hs hn h1 h2 h3
theorem it_ext {x y : It} : x = y ↔ [x.key.kind, x.key.id, x.key.off] = [y.key.kind, y.key.id, y.key.off] ∧ x.ref = y.ref ∧ x.val = y.val := by
 obtain ⟨⟨a, b, c⟩, d, e⟩ := x
 obtain ⟨⟨a', b', c'⟩, d', e'⟩ := y
 simp [and_assoc]
theorem rsame5_spec (x y : It) (va wa : Option Addr) (vc wc : Nat) (M : Mem) (hx : SM M va (wAj x.val)) (hy : SM M wa (wAj y.val)) :
  SpecL Tryz.prog 114 #[.agg (itc x va vc).toArray, .agg (itc y wa wc).toArray] M [] fun u _ _ => u = .bool (decide (x = y)) := by
 refine wAe (vs := [_, _]) 26 _ Tryz.func114 rfl Tryz.ntmps114 rfl rfl ?_; intro W
 refine wAb (wAa (wAv rfl rfl (wBw (cs := [_, _, _, _, _]) rfl rfl rfl rfl) ?_)); rintro _ _ _ ⟨b2, rfl, rfl, rfl⟩
 refine wAv rfl rfl (wBw (cs := [_, _, _, _, _]) rfl rfl rfl rfl) ?_; rintro _ _ _ ⟨b3, rfl, rfl, rfl⟩
 refine jp rfl (wAc (jT (wAb (wAa (sFa rfl ?_)))))
 refine sLL rfl ?_
 refine sFa rfl ?_
 refine sLL rfl ?_
 refine wDf rfl rfl (qEqI (ns := [x.key.kind, x.key.id, x.key.off]) (ms := [y.key.kind, y.key.id, y.key.off]) rfl rfl rfl rfl rfl rfl ⟨rfl, rfl⟩) (fun h9 => ?_) (fun h9 => ?_)
 ·refine jp rfl (sFL rfl rfl ?_)
  refine sFL rfl rfl ?_
  refine js rfl (fun h15 => ?_) (fun h15 => ?_)
  ·refine jp rfl (jp rfl (sFL rfl rfl ?_))
   refine wAi rfl rfl (qEq (qStr (xs := x.val.map fun b => (b.toNat : Int)) rfl rfl rfl (by simp) (by simpa [wAj, List.map_map, Function.comp_def] using hx.sj _)) (v' := .string (strB x.val)) (by rw [wCc])) ?_
   refine sFL rfl rfl ?_
   refine wAi rfl rfl (qEq (qStr (xs := y.val.map fun b => (b.toNat : Int)) rfl rfl rfl (by simp) (by simpa [wAj, List.map_map, Function.comp_def] using hy.sj _)) (v' := .string (strB y.val)) (by rw [wCc])) ?_
   refine wAi rfl rfl (qEq (qP rfl rfl) (v' := .bool (decide (x.val = y.val))) (congrArg _ (strB_eq x.val y.val))) ?_
   refine jp rfl (jp rfl (wAc (jT (wAf (jr1 rfl rfl ?_)))))
   exact congrArg Value.bool (decide_eq_decide.2 ⟨fun e => it_ext.2 ⟨of_decide_eq_true h9, h15, e⟩, fun e => (it_ext.1 e).2.2⟩)
  iterate 11 refine jp rfl ?_
  refine wAc (jT (wAf (jr1 rfl rfl ?_)))
  rw [decide_eq_false (fun e : x = y => h15 (it_ext.1 e).2.1)]
 iterate 17 refine jp rfl ?_
 refine wAc (jT (wAf (jr1 rfl rfl ?_)))
 rw [decide_eq_false (fun e : x = y => by have := (it_ext.1 e).1; rw [decide_eq_false_iff_not] at h9; exact h9 this)]
def wKe (x : It) : Prop := (0 ≤ x.key.kind ∧ x.key.kind < 256) ∧ (0 ≤ x.key.id ∧ x.key.id < 4294967296) ∧ (0 ≤ x.key.off ∧ x.key.off < 4294967296) ∧ (0 ≤ x.ref ∧ x.ref < 65536) ∧ x.val.length ≤ 12
theorem own_three {b : Nat} {v1 v2 v3 : Value} : Own (.slice (some ⟨b, 0, none⟩) 3 3) [(b, .cells [v1, v2, v3].toArray 5 (0, 0))] 5 1 3 [v1, v2, v3] :=
 ⟨rfl, .inr ⟨b, 3, [v1, v2, v3].toArray, rfl, rfl, Nat.le_refl _, by decide, rfl, rfl⟩⟩
theorem itB_le {x : It} (h : wKe x) : (itB x).length ≤ 24 := by
 have := h.2.2.2.2
 simp only [itB, List.length_append, List.length_cons, List.length_nil, wEj, wGn]; omega
theorem itBs_le : ∀ {xs : List It}, (∀ x ∈ xs, wKe x) → (xs.flatMap itB).length ≤ 24 * xs.length
 | [], _ => by simp
 | x :: xs, h => by
  have h1 := itB_le (h x (by simp))
  have h2 := itBs_le (xs := xs) (fun y hy => h y (by simp [hy]))
  rw [List.flatMap_cons, List.length_append, List.length_cons]; omega
set_option maxHeartbeats 2000000 in
theorem rtold6_spec (lv : Int) (xs : List It) (a : Option Addr) (c : Nat) (ps : List (It × Value)) (M : Mem) (hs : SM M a (ps.flatMap wCp)) (hp : ps.map (·.1) = xs) (hb : ∀ p ∈ ps, BS M p.2 p.1.val) (hn : xs.length ≤ 6) (hf : ∀ x ∈ xs, wKe x) :
  SpecL Tryz.prog 129 #[.agg #[.int .i64 lv, .slice a xs.length c]] M [] fun u M' L' => Own u L' 5 1 (wJh lv xs).length (wAj (wJh lv xs)) := by
 refine wAe (vs := [_]) 29 _ Tryz.func129 rfl Tryz.ntmps129 rfl rfl ?_; intro W
 refine wAb (wAa (wAv rfl rfl (wBw (cs := [_, _]) rfl rfl rfl rfl) ?_)); rintro _ _ _ ⟨b1, rfl, rfl, rfl⟩
 refine jp rfl (wAc (jT (wAb (wAa (sFL rfl rfl ?_)))))
 refine wAi rfl rfl (qEq (wDe rfl rfl rfl) (v' := .int .u8 ((bU lv).toNat : Int)) (by rw [u8_bU])) ?_
 refine sFL rfl rfl ?_
 refine wAi rfl rfl (wBe rfl rfl rfl) ?_
 refine wAi rfl rfl (qEq (wDe rfl rfl rfl) (v' := .int .u8 ((bU (xs.length : Int)).toNat : Int)) (by rw [u8_bU])) ?_
 refine wAv rfl rfl (wAr (cs := [_, _, _]) rfl rfl rfl (by rfl) (by rfl) (by rfl)) ?_; rintro _ _ _ ⟨b12, rfl, rfl, rfl⟩
 refine jp rfl (wAc (jT (wAb (wAb (wAa (jp rfl (wAc (jT (wAh ?_)))))))))
 refine wAo (α := Nat × Mem × Value × Lc) (fun z => [(1, .pointer (some ⟨b1, 0, none⟩)), (3, z.2.2.1), (4, .int .i64 z.1)]) (fun z => z.2.1) (fun z => z.2.2.2 ++ [(b1, .cells [Value.int .i64 lv, .slice a xs.length c].toArray 111 (0, 0))]) (fun z => z.1 ≤ xs.length ∧ MLe M z.2.1 ∧ Own z.2.2.1 z.2.2.2 5 1 ([78, bU lv, bU (xs.length : Int)] ++ (xs.take z.1).flatMap itB).length (wAj ([78, bU lv, bU (xs.length : Int)] ++ (xs.take z.1).flatMap itB))) (fun z => xs.length - z.1)
  (0, M, .slice (some ⟨b12, 0, none⟩) 3 3, [(b12, .cells [Value.int .u8 78, .int .u8 ((bU lv).toNat : Int), .int .u8 ((bU (xs.length : Int)).toNat : Int)].toArray 5 (0, 0))]) (.cons (t := 1) rfl (.cons (t := 3) rfl (.cons (t := 4) rfl .nil))) ⟨Nat.zero_le _, MLe.refl _, by dsimp only; exact own_three⟩ (fun _ h => h) ?_
 rintro ⟨k, Mk, v, R⟩ ⟨hk, hMk, hO⟩
 try dsimp only at hk hMk hO ⊢
 refine wAb (wAb (wAa (jp rfl (sFL rfl rfl ?_))))
 refine wAi rfl rfl (wBe rfl rfl rfl) ?_
 refine js rfl (fun h17 => ?_) (fun h17 => ?_)
 ·refine wAc (jT (wAg rfl (wAd (jT (wAb (wAh (wAa (jp rfl (sFL rfl rfl ?_)))))))))
  refine jp rfl ?_
  have hk1 : k < xs.length := by omega
  obtain ⟨sb, so, e0, hx⟩ := hs.open (by intro e; have := congrArg List.length e; rw [wBm wCp 5 wCw, List.length_nil] at this; have h2 := congrArg List.length hp; rw [List.length_map] at h2; omega)
  subst e0
  obtain ⟨va, vc, hcl, hvc, hvs⟩ := wCh hx hp hb hk1
  refine wAi rfl rfl (wBb rfl rfl rfl rfl (by omega)) ?_
  refine wAi rfl rfl (wGp (cs := itc xs[k] va vc) rfl rfl rfl rfl rfl (fun i v hv => ((hcl i v hv).mono hMk).cj _)) ?_
  have hfk := hf xs[k] (List.getElem_mem hk1)
  refine wAv rfl rfl (wAt rfl rfl rfl rfl rfl (by kernel_rfl) (rbytes5_spec xs[k] va vc Mk (hvs.mono hMk) hfk.1 hfk.2.1 hfk.2.2.1 hfk.2.2.2.1 (by have := hfk.2.2.2.2; omega))) ?_; rintro _ M2 _ ⟨hM2, R26, rfl, o26⟩
  refine wDw o26 (by simp) ?_
  intro M3 a3 c3 hM3 e3 hc3 hs3
  subst e3
  have hfl := itBs_le (xs := xs.take k) (fun x hx => hf x (List.mem_of_mem_take hx))
  rw [List.length_take] at hfl
  have hil := itB_le hfk
  refine wAv rfl rfl (wBk (R := R) rfl rfl rfl rfl hO (by rw [wAm, Nat.mul_one]) hs3 rfl (wBf _) (by simp only [List.length_append, List.length_cons, List.length_nil]; omega) (by omega)) ?_; rintro v2 _ _ ⟨rfl, R3, rfl, o27⟩
  refine jp rfl (wAc (jB (jT (wAa (jp rfl (ja rfl (by omega) ?_))))))
  refine jp rfl (wAc ?_)
  have hpre : ([78, bU lv, bU (xs.length : Int)] ++ (xs.take (k + 1)).flatMap itB) = ([78, bU lv, bU (xs.length : Int)] ++ (xs.take k).flatMap itB) ++ itB xs[k] := by rw [flat_step hk1, List.append_assoc]
  refine wAn (k + 1, M3, v2, R3) (.cons (t := 1) rfl (.cons (t := 3) rfl (.cons (t := 4) rfl .nil))) ⟨by show k + 1 ≤ _; omega, (hMk.trans hM2).trans hM3, ?_⟩ (by show xs.length - (k + 1) < xs.length - k; omega) (fun _ h => h)
  dsimp only; rw [hpre]
  exact o27.to (by simp only [List.length_append]) (by unfold wAj; simp only [List.map_append])
 refine wAc (jT (wAk rfl (wAs (jTx (jTx (jBx (jT (wAb (wAa (jp rfl (jp rfl (wAc (jT (wAf (wAu (L' := R) (List.sublist_append_left _ _) ?_)))))))))))))))
 refine jr1 rfl rfl ?_
 obtain rfl : k = xs.length := by omega
 rw [List.take_length] at hO
 exact hO
def sameB (b w : List By) : Bool := decide (w.length ≤ b.length ∧ b = w ++ List.replicate (b.length - w.length) 0)
theorem same_get {b w : List By} (h : w.length ≤ b.length) : b = w ++ List.replicate (b.length - w.length) 0 ↔ ∀ i (hi : i < b.length), b[i] = w.getD i 0 := by
 constructor
 ·intro e i hi
  have e2 : b[i]? = some (w.getD i 0) := by
   rw [e]
   by_cases hw : i < w.length
   ·rw [List.getElem?_append_left hw]; simp [List.getD, hw]
   rw [List.getElem?_append_right (by omega), List.getElem?_replicate, if_pos (by omega)]; simp [List.getD, List.getElem?_eq_none (by omega : w.length ≤ i)]
  rw [List.getElem?_eq_getElem hi] at e2; exact Option.some.inj e2
 intro hh
 refine List.ext_getElem (by simp; omega) fun i h1 h2 => ?_
 rw [hh i h1]
 by_cases hw : i < w.length
 ·rw [List.getElem_append_left hw]; simp [List.getD, hw]
 rw [List.getElem_append_right (by omega)]; simp [List.getD, List.getElem?_eq_none (by omega : w.length ≤ i)]
theorem same_no {b w : List By} {i : Nat} (hi : i < b.length) (h : b[i] ≠ w.getD i 0) : sameB b w = false := decide_eq_false fun ⟨h1, h2⟩ => h ((same_get h1).1 h2 i hi)
theorem u8_ne {a b : By} (h : ¬ (a.toNat : Int) = (b.toNat : Int)) : a ≠ b := fun e => h (by rw [e])
theorem u8_is {a b : By} (h : (a.toNat : Int) = (b.toNat : Int)) : a = b := UInt8.toNat_inj.1 (by omega)
set_option maxHeartbeats 2000000 in
theorem rsame6_spec (ba wa : Option Addr) (bc wc : Nat) (b w : List By) (M : Mem) (h1 : SM M ba (wAj b)) (h2 : SM M wa (wAj w)) (hn : b.length ≤ 100000) (hn2 : w.length ≤ 100000) :
  SpecL Tryz.prog 128 #[.slice ba b.length bc, .slice wa w.length wc] M [] fun u _ _ => u = .bool (sameB b w) := by
 refine wAe (vs := [_, _]) 45 _ Tryz.func128 rfl Tryz.ntmps128 rfl rfl ?_; intro W
 refine wAb (wAa (jp rfl (wAc (jT (wAb (wAb (wAa (jp rfl (wAc (jT (wAh ?_)))))))))))
 refine wAo (α := Nat) (fun k => [(0, .slice ba b.length bc), (1, .slice wa w.length wc), (5, .int .i64 k)]) (fun _ => M) (fun _ => []) (fun k => k ≤ b.length ∧ ∀ i (hi : i < b.length), i < k → b[i] = w.getD i 0) (fun k => b.length - k)
  0 (.cons (t := 0) rfl (.cons (t := 1) rfl (.cons (t := 5) rfl .nil))) ⟨Nat.zero_le _, fun i _ h => absurd h (Nat.not_lt_zero i)⟩ (fun _ h => h) ?_
 rintro k ⟨hk, hall⟩
 try dsimp only at hk hall ⊢
 refine wAb (wAb (wAa (jp rfl (jp rfl (wAi rfl rfl (wBe rfl rfl rfl) ?_)))))
 refine js rfl (fun h9 => ?_) (fun h9 => ?_)
 ·refine wAc (jT (wAg rfl (wAd (jT (wAb (wAh (wAb (wBn [(0, true), (1, true), (2, true), (3, true), (4, true), (5, true), (6, true), (7, true), (8, true), (9, true), (10, true), (11, true), (12, true), (13, true), (14, true), (15, true), (16, true), (17, true), (18, true), (19, true), (20, true), (21, true), (22, true), (23, true), (24, true), (25, true), (26, true), (27, true)] [] (by kernel_rfl) (by kernel_rfl) (by kernel_rfl) rfl (by simp) ?_))))))))
  iterate 2 refine dp rfl rfl ?_
  refine wBh rfl rfl rfl (wBe rfl rfl rfl) ?_
  refine ds rfl rfl (fun h15 => ?_) (fun h15 => ?_)
  ·iterate 3 refine dp rfl rfl ?_
   have hkb : k < b.length := by omega
   have hkw : k < w.length := by omega
   have hgd : w.getD k 0 = w[k] := by simp [List.getD, hkw]
   obtain ⟨pb, po, pe, px⟩ := wEv h1 hkb
   obtain ⟨qb, qo, qe, qx⟩ := wEv h2 hkw
   subst pe; subst qe
   refine wBh rfl rfl rfl (wBb rfl rfl rfl rfl (by omega)) ?_
   refine wBh rfl rfl rfl (qLd rfl rfl rfl rfl (px.cj _)) ?_
   iterate 2 refine dp rfl rfl ?_
   refine wBh rfl rfl rfl (wBb rfl rfl rfl rfl (by omega)) ?_
   refine wBh rfl rfl rfl (qLd rfl rfl rfl rfl (qx.cj _)) ?_
   refine ds rfl rfl (fun h25 => ?_) (fun h25 => ?_)
   ·iterate 14 refine dp rfl rfl ?_
    refine wBg (jPn (jT (wAg rfl (wAb (wAa (jp rfl (wAc (jT (wAf (jBr (jTr (jTr (jBr (jTr (jr1 rfl rfl ?_)))))))))))))))
    rw [same_no hkb (by rw [hgd]; exact u8_ne h25)]
   iterate 4 refine dp rfl rfl ?_
   refine wBh rfl rfl rfl (wBe rfl rfl rfl) ?_
   refine df rfl rfl (decide_eq_false (by omega)) ?_
   iterate 8 refine dp rfl rfl ?_
   refine wBg (jPn (jT (wAk rfl (wAd (jB (jT (wAa (jp rfl (ja rfl (by omega) ?_)))))))))
   refine jp rfl (wAc ?_)
   have hkk : b[k] = w.getD k 0 := by rw [hgd]; exact u8_is (by omega)
   refine wAn (k + 1) (.cons (t := 0) rfl (.cons (t := 1) rfl (.cons (t := 5) rfl .nil))) ⟨by omega, fun i hi hlt => if h : i < k then hall i hi h else by obtain rfl : i = k := (by omega); exact hkk⟩ (by omega) (fun _ h => h)
  iterate 14 refine dp rfl rfl ?_
  refine wBh rfl rfl rfl (wBe rfl rfl rfl) ?_
  refine dt rfl rfl (decide_eq_true (by omega)) ?_
  iterate 3 refine dp rfl rfl ?_
  have hkb : k < b.length := by omega
  have hgd : w.getD k 0 = 0 := by simp [List.getD, List.getElem?_eq_none (by omega : w.length ≤ k)]
  obtain ⟨pb, po, pe, px⟩ := wEv h1 hkb
  subst pe
  refine wBh rfl rfl rfl (wBb rfl rfl rfl rfl (by omega)) ?_
  refine wBh rfl rfl rfl (qLd rfl rfl rfl rfl (px.cj _)) ?_
  refine ds rfl rfl (fun h37 => ?_) (fun h37 => ?_)
  ·iterate 2 refine dp rfl rfl ?_
   refine wBg (jPn (jT (wAg rfl (wAb (wAa (jp rfl (wAc (jT (wAf (jBr (jTr (jTr (jBr (jTr (jr1 rfl rfl ?_)))))))))))))))
   rw [same_no hkb (by rw [hgd]; intro e; exact h37 (by rw [e]; rfl))]
  iterate 2 refine dp rfl rfl ?_
  refine wBg (jPn (jT (wAk rfl (wAd (jB (jT (wAa (jp rfl (ja rfl (by omega) ?_)))))))))
  refine jp rfl (wAc ?_)
  have hkk : b[k] = w.getD k 0 := by rw [hgd]; exact UInt8.toNat_inj.1 (by show _ = 0; omega)
  refine wAn (k + 1) (.cons (t := 0) rfl (.cons (t := 1) rfl (.cons (t := 5) rfl .nil))) ⟨by omega, fun i hi hlt => if h : i < k then hall i hi h else by obtain rfl : i = k := (by omega); exact hkk⟩ (by omega) (fun _ h => h)
 refine wAc (jT (wAk rfl (wAs (jTx (jTx (jBx (jT (wAb (wAa (jp rfl (wAi rfl rfl (wBe rfl rfl rfl) ?_)))))))))))
 refine jp rfl (wAi rfl rfl (wBe rfl rfl rfl) ?_)
 refine jp rfl (jp rfl (wAc (jT (wAf (jr1 rfl rfl ?_)))))
 obtain rfl : k = b.length := by omega
 unfold sameB
 exact congrArg Value.bool (decide_eq_decide.2 ⟨fun h => ⟨by omega, (same_get (by omega)).2 fun i hi => hall i hi hi⟩, fun h => by have := h.1; omega⟩)
end Go.Proofs.YtbhkdjheooknfaaGreat
