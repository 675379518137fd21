/- Walks: keys and items. -/
import Derived.Test.YtkcpllhggofloaaGreatZHn
import Derived.Test.YtkcpllhggofloaaGreatZTab
namespace Go.Proofs.YtkcpllhggofloaaGreat
set_option linter.unusedVariables false
set_option linter.unusedSectionVars false
set_option linter.unusedSimpArgs false
open Go.RowKit
structure Ky where
 kind : Int
 id : Int
 off : Int
 deriving DecidableEq, Repr
def wBb (k : Ky) : List Value := [.int .u8 k.kind, .int .u32 k.id, .int .u32 k.off]
def cmpI (a b : Int) : Int := if a < b then -1 else if b < a then 1 else 0
def wBf (a b : Ky) : Bool := decide (a.kind < b.kind ∨ a.kind = b.kind ∧ (a.id < b.id ∨ a.id = b.id ∧ a.off < b.off))
def orL : List Int → Int
 | [] => 0
 | x :: xs => if x ≠ 0 then x else orL xs
theorem kless_or (a b : Ky) : decide (orL [cmpI a.kind b.kind, cmpI a.id b.id, cmpI a.off b.off] < 0) = wBf a b := by
 unfold wBf orL orL orL orL cmpI
 apply decide_eq_decide.2
 repeat' split
 all_goals omega
def icells (xs : List Int) : List Value := xs.map (Value.int .i64)
theorem nan_u8 (a : Int) (M : Mem) :
  SpecL Tryz.prog 101 #[.int .u8 a] M [] fun v _ _ => v = .bool false := by
 refine wAf (vs := [_]) 6 _ Tryz.func101 rfl Tryz.ntmps101 rfl rfl ?_; intro W
 refine wAb (wAa (jp rfl (wAc (jT (wAb (wAa (jp rfl (jp rfl (jp rfl (jp rfl (wAc (jT (wAe (jr1 rfl rfl ?_))))))))))))))
 simp
theorem cmp_u8 (a b : Int) (M : Mem) :
  SpecL Tryz.prog 81 #[.int .u8 a, .int .u8 b] M [] fun v _ _ => v = .int .i64 (cmpI a b) := by
 refine wAf (vs := [_, _]) 20 _ Tryz.func81 rfl Tryz.ntmps81 rfl rfl ?_; intro W
 refine wAb (wAa (jp rfl (wAc (jT (wAb (wAa (jp rfl (wAi rfl rfl (wBr rfl rfl rfl rfl rfl (by kernel_rfl) (nan_u8 _ M)) ?_))))))))
 refine jp rfl (wAc (jT (wAb (wAa (jp rfl (wAi rfl rfl (wBr rfl rfl rfl rfl rfl (by kernel_rfl) (nan_u8 _ M)) ?_))))))
 refine jp rfl (wAc (jT (wAb (wAb (wAa (jp rfl (wAc (jT (wAk rfl (wAd (jT (wAb (wAb (wAa (jp rfl (wAc (jT (wAk rfl (wAd (jT (wAb (wAb (wAa (jp rfl (jp rfl (js rfl (fun h16 => ?_) (fun h16 => ?_)))))))))))))))))))))))))))
 ·refine wAc (jT (wAg rfl (wAb (wAa (jp rfl (wAc (jT (wAe (jTr (jr1 rfl rfl ?_))))))))))
  unfold cmpI; congr 1; split <;> (try split) <;> omega
 refine wAc (jT (wAk rfl (wAd (jT (wAb (wAb (wAa (jp rfl (jp rfl (js rfl (fun h19 => ?_) (fun h19 => ?_)))))))))))
 ·refine wAc (jT (wAg rfl (wAb (wAa (jp rfl (wAc (jT (wAe (jTr (jr1 rfl rfl ?_))))))))))
  unfold cmpI; congr 1; split <;> (try split) <;> omega
 refine wAc (jT (wAk rfl (wAd (jT (wAb (wAa (jp rfl (wAc (jT (wAe (jr1 rfl rfl ?_)))))))))))
 unfold cmpI; congr 1; split <;> (try split) <;> omega
theorem nan_u32 (a : Int) (M : Mem) :
  SpecL Tryz.prog 102 #[.int .u32 a] M [] fun v _ _ => v = .bool false := by
 refine wAf (vs := [_]) 6 _ Tryz.func102 rfl Tryz.ntmps102 rfl rfl ?_; intro W
 refine wAb (wAa (jp rfl (wAc (jT (wAb (wAa (jp rfl (jp rfl (jp rfl (jp rfl (wAc (jT (wAe (jr1 rfl rfl ?_))))))))))))))
 simp
theorem cmp_u32 (a b : Int) (M : Mem) :
  SpecL Tryz.prog 82 #[.int .u32 a, .int .u32 b] M [] fun v _ _ => v = .int .i64 (cmpI a b) := by
 refine wAf (vs := [_, _]) 20 _ Tryz.func82 rfl Tryz.ntmps82 rfl rfl ?_; intro W
 refine wAb (wAa (jp rfl (wAc (jT (wAb (wAa (jp rfl (wAi rfl rfl (wBr rfl rfl rfl rfl rfl (by kernel_rfl) (nan_u32 _ M)) ?_))))))))
 refine jp rfl (wAc (jT (wAb (wAa (jp rfl (wAi rfl rfl (wBr rfl rfl rfl rfl rfl (by kernel_rfl) (nan_u32 _ M)) ?_))))))
 refine jp rfl (wAc (jT (wAb (wAb (wAa (jp rfl (wAc (jT (wAk rfl (wAd (jT (wAb (wAb (wAa (jp rfl (wAc (jT (wAk rfl (wAd (jT (wAb (wAb (wAa (jp rfl (jp rfl (js rfl (fun h16 => ?_) (fun h16 => ?_)))))))))))))))))))))))))))
 ·refine wAc (jT (wAg rfl (wAb (wAa (jp rfl (wAc (jT (wAe (jTr (jr1 rfl rfl ?_))))))))))
  unfold cmpI; congr 1; split <;> (try split) <;> omega
 refine wAc (jT (wAk rfl (wAd (jT (wAb (wAb (wAa (jp rfl (jp rfl (js rfl (fun h19 => ?_) (fun h19 => ?_)))))))))))
 ·refine wAc (jT (wAg rfl (wAb (wAa (jp rfl (wAc (jT (wAe (jTr (jr1 rfl rfl ?_))))))))))
  unfold cmpI; congr 1; split <;> (try split) <;> omega
 refine wAc (jT (wAk rfl (wAd (jT (wAb (wAa (jp rfl (wAc (jT (wAe (jr1 rfl rfl ?_)))))))))))
 unfold cmpI; congr 1; split <;> (try split) <;> omega
theorem or_spec (b : Nat) (xs : List Int) (hn : xs.length ≤ 1000) (M : Mem) :
  SpecL Tryz.prog 80 #[.slice (some ⟨b, 0, none⟩) xs.length xs.length] M [(b, .cells (icells xs).toArray 3 (0, 0))] fun v _ L' => v = .int .i64 (orL xs) ∧ L' = [] := by
 refine wAf (vs := [_]) 18 _ Tryz.func80 rfl Tryz.ntmps80 rfl rfl ?_; intro W
 refine wAb (wAa (jp rfl (wAc (jT (wAb (wAa (jp rfl (wAc (jT (wAb (wAb (wAa (jp rfl (wAi rfl rfl (wBj rfl rfl rfl) ?_))))))))))))))
 refine jp rfl (wAc (jT (wAh ?_)))
 refine wAv (α := Nat) (fun k => [(3, .int .i64 0), (6, .slice (some ⟨b, 0, none⟩) xs.length xs.length), (7, .int .i64 xs.length), (8, .int .i64 k)]) (fun _ => M) (fun _ => [(b, .cells (icells xs).toArray 3 (0, 0))]) (fun k => k ≤ xs.length ∧ orL xs = orL (xs.drop k)) (fun k => xs.length - k)
  0 (.cons (t := 3) rfl (.cons (t := 6) rfl (.cons (t := 7) rfl (.cons (t := 8) rfl .nil)))) ⟨Nat.zero_le _, rfl⟩ (fun _ h => h) ?_
 rintro k ⟨hk, ho⟩
 try dsimp only at hk ho ⊢
 refine wAb (wAa (js rfl (fun hlt => ?_) (fun hlt => ?_)))
 ·refine wAc (jT (wAb (wAg rfl (wAd (jT (wAb (wAh (wAb (wAa ?_)))))))))
  have hk1 : k < xs.length := by omega
  have hd : xs.drop k = xs[k] :: xs.drop (k + 1) := List.drop_eq_getElem_cons hk1
  refine wAi rfl rfl (wBe rfl rfl rfl rfl (by omega)) ?_
  refine wAi rfl rfl (qLd rfl rfl rfl rfl (CJ.loc (v := .int .i64 xs[k]) (by simp [icells, hk1]))) ?_
  refine jp rfl (wAc (jT (wAb (wAa (jp rfl (jp rfl (js rfl (fun h14 => ?_) (fun h14 => ?_))))))))
  ·refine wAc (jT (wAg rfl (wAb (wAa (jp rfl (jp rfl (wAc (jT (wAe (jBr (jTr (jTr (jBr (jTr (wAr (L' := []) (by simp) ?_)))))))))))))))
   refine jr1 rfl rfl ?_
   exact ⟨by rw [ho, hd]; show _ = Value.int _ (if _ then _ else _); rw [if_pos (by simpa using h14)], rfl⟩
  refine wAc (jT (wAk rfl (wAd (jB (jT (wAa (ja rfl (by omega) ?_)))))))
  refine jp rfl (wAc (wAp (k + 1) (.cons (t := 3) rfl (.cons (t := 6) rfl (.cons (t := 7) rfl (.cons (t := 8) rfl .nil)))) ⟨by omega, ?_⟩ (by omega) (fun _ h => h)))
  rw [ho, hd]; show (if _ then _ else _) = _; rw [if_neg (by simpa using h14)]
 refine wAc (jT (wAb (wAk rfl (wAw (jTx (jTx (jBx (jT (wAb (wAa (jp rfl (jp rfl (wAc (jT (wAe (wAr (L' := []) (by simp) ?_))))))))))))))))
 refine jr1 rfl rfl ?_
 exact ⟨by rw [ho, List.drop_eq_nil_of_le (by omega)]; rfl, rfl⟩
theorem or3 (b : Nat) (x y z : Int) (M : Mem) : SpecL Tryz.prog 80 #[.slice (some ⟨b, 0, none⟩) 3 3] M [(b, .cells [.int .i64 x, .int .i64 y, .int .i64 z].toArray 3 (0, 0))] fun v _ L' => v = .int .i64 (orL [x, y, z]) ∧ L' = [] := or_spec b [x, y, z] (by simp) M
theorem wHj (a b : Ky) (M : Mem) :
  SpecL Tryz.prog 56 #[.agg (wBb a).toArray, .agg (wBb b).toArray] M [] fun v _ _ => v = .bool (wBf a b) := by
 refine wAf (vs := [_, _]) 23 _ Tryz.func56 rfl Tryz.ntmps56 rfl rfl ?_; intro W
 refine wAb (wAa (wAy rfl rfl (wCm (cs := [_, _, _]) rfl rfl rfl rfl) ?_)); rintro _ _ _ ⟨b2, rfl, rfl, rfl⟩
 refine wAy rfl rfl (wCm (cs := [_, _, _]) rfl rfl rfl rfl) ?_; rintro _ _ _ ⟨b3, rfl, rfl, rfl⟩
 refine jp rfl (wAc (jT (wAb (wBp [(0, true), (1, true), (2, true), (3, true), (4, true), (5, true), (6, true), (7, true), (8, true), (9, true), (10, true), (11, true), (12, true), (13, true), (14, true), (15, false), (16, false), (17, true), (18, true)] _ (by kernel_rfl) (by kernel_rfl) (by kernel_rfl) rfl (fun _ h => h) ?_))))
 refine dFa rfl rfl ?_
 refine dLd rfl rfl ?_
 refine dFa rfl rfl ?_
 refine dLd rfl rfl ?_
 refine wBq rfl rfl rfl (wBr rfl rfl rfl rfl rfl (by kernel_rfl) (cmp_u8 _ _ M)) ?_
 refine dFa rfl rfl ?_
 refine dLd rfl rfl ?_
 refine dFa rfl rfl ?_
 refine dLd rfl rfl ?_
 refine wBq rfl rfl rfl (wBr rfl rfl rfl rfl rfl (by kernel_rfl) (cmp_u32 _ _ M)) ?_
 refine dFa rfl rfl ?_
 refine dLd rfl rfl ?_
 refine dFa rfl rfl ?_
 refine dLd rfl rfl ?_
 refine wBq rfl rfl rfl (wBr rfl rfl rfl rfl rfl (by kernel_rfl) (cmp_u32 _ _ M)) ?_
 refine wHc rfl rfl rfl (wAn (cs := [_, _, _]) rfl rfl rfl (by rfl) (by rfl) (by rfl)) ?_; rintro _ _ _ ⟨b20, rfl, rfl, rfl⟩
 refine wGn (MLe.refl _) (fun _ h => List.mem_cons_of_mem _ h) (MLe.refl _) (fun _ h => h) ?_
 refine wHc rfl rfl rfl (wAu rfl rfl rfl rfl rfl (by kernel_rfl) (or3 b20 (cmpI a.kind b.kind) (cmpI a.id b.id) (cmpI a.off b.off) M)) ?_; rintro _ M2 _ ⟨hM2, _, rfl, ⟨rfl, rfl⟩⟩
 refine ⟨_, _, MLe.refl _, hM2, fun _ h => h, fun _ h => h, ?_⟩
 iterate 2 refine dp rfl rfl ?_
 refine wBd (jPn (jT (wAe (jr1 rfl rfl ?_))))
 exact congrArg _ (kless_or a b)
structure It where
 key : Ky
 ref : Int
 val : List By
 deriving DecidableEq, Repr
def IR (M : Mem) (cs : List Value) (x : It) : Prop := ∃ s, cs = [.int .u8 x.key.kind, .int .u32 x.key.id, .int .u32 x.key.off, .int .i64 x.ref, s] ∧ BS M s x.val
theorem IR.mono {M M' : Mem} {cs : List Value} {x : It} (h : IR M cs x) (hM : MLe M M') : IR M' cs x := by
 obtain ⟨s, h1, h2⟩ := h; exact ⟨s, h1, h2.mono hM⟩
def wDu (x : It) : Bool := decide (x.ref ≠ 0 ∧ (x.ref < 8 ∨ 256 ≤ x.ref) ∨ 12 < x.val.length)
def wGc (x : It) : Int := if wDu x then 8 else 0
def strB (xs : List By) : ByteArray := ⟨xs.toArray⟩
theorem toList_loop (bs : ByteArray) : ∀ (n i : Nat) (r : List UInt8), bs.size - i = n → ByteArray.toList.loop bs i r = r.reverse ++ bs.data.toList.drop i
 | 0, i, r, h => by
  unfold ByteArray.toList.loop
  rw [if_neg (by omega), List.drop_eq_nil_of_le (by have : bs.data.toList.length = bs.size := rfl; omega), List.append_nil]
 | n + 1, i, r, h => by
  unfold ByteArray.toList.loop
  have hlt : i < bs.data.toList.length := by have : bs.data.toList.length = bs.size := rfl; omega
  rw [if_pos (by omega), toList_loop bs n (i + 1) _ (by omega), List.drop_eq_getElem_cons hlt, List.reverse_cons, List.append_assoc]
  congr 2
  show [bs.data[i]!] ++ _ = _
  rw [getElem!_pos bs.data i (by simpa using hlt)]
  rfl
theorem strB_toList (xs : List By) : (strB xs).toList = xs := by
 unfold ByteArray.toList
 rw [toList_loop _ _ 0 [] rfl]; rfl
theorem strB_eq (xs ys : List By) : ((strB xs).toList == (strB ys).toList) = decide (xs = ys) := by
 rw [strB_toList, strB_toList]
 by_cases h : xs = ys <;> simp [h]
theorem wEc (xs : List By) : strOfNums (xs.map fun b => (b.toNat : Int)) = strB xs := by
 unfold strOfNums strB
 congr 2
 rw [List.map_map]
 conv => rhs; rw [← List.map_id xs]
 apply List.map_congr_left
 intro b _
 simp
theorem key_eq (a b : Ky) : decide ([a.kind, a.id, a.off] = [b.kind, b.id, b.off]) = decide (a = b) := by
 apply decide_eq_decide.2
 constructor
 ·intro h; cases a; cases b; simp at h; simp [h]
 rintro rfl; rfl
theorem Own.ofBuf (b : Nat) : Own (.slice (some ⟨b, 0, none⟩) 0 0) [(b, .cells ([] : List Value).toArray 5 (0, 0))] 5 1 0 [] := ⟨rfl, .inr ⟨b, 0, #[], rfl, rfl, by omega, by decide, rfl, rfl⟩⟩
theorem bclone_nil (c : Nat) (M : Mem) :
  SpecL Tryz.prog 31 #[.slice none 0 c] M [] fun v _ L' => Own v L' 5 1 0 [] := by
 refine wAf (vs := [_]) 8 _ Tryz.func31 rfl Tryz.ntmps31 rfl rfl ?_; intro W
 refine wAb (wAa (jp rfl (wAc (jT (wAb (wAb (wAa (jp rfl (wAi rfl rfl (qEq (qNil rfl rfl rfl rfl) (v' := .bool true) (by simp)) ?_)))))))))
 refine wAc (jT (wAg rfl (wAb (wAa (jp rfl (wAc (jT (wAe (jTr (jr1 rfl rfl ?_))))))))))
 exact Own.nil _ _
theorem bclone_zero (b : Addr) (c : Nat) (M : Mem) :
  SpecL Tryz.prog 31 #[.slice (some b) 0 c] M [] fun v _ L' => Own v L' 5 1 0 [] := by
 refine wAf (vs := [_]) 8 _ Tryz.func31 rfl Tryz.ntmps31 rfl rfl ?_; intro W
 refine wAb (wAa (jp rfl (wAc (jT (wAb (wAb (wAa (jp rfl (wAi rfl rfl (qEq (qNil rfl rfl rfl rfl) (v' := .bool false) (by simp)) ?_)))))))))
 refine wAc (jT (wAk rfl (wAd (jT (wAb (wAa (wAy rfl rfl (wAn (z := [.int .u8 0]) (cs := []) rfl rfl rfl (by rfl) (by rfl) (by rfl)) ?_))))))); rintro _ _ _ ⟨b5, rfl, rfl, rfl⟩
 refine jp rfl (wAy rfl rfl (hAppend0 rfl rfl rfl rfl (Own.ofBuf b5)) ?_); rintro _ _ _ ⟨rfl, rfl, rfl⟩
 refine jp rfl (wAc (jT (wAe (jr1 rfl rfl ?_))))
 exact Own.ofBuf b5
theorem bclone_some (b off c : Nat) (xs : List By) (M : Mem) (hx : ∀ i v, (wAj xs)[i]? = some v → CM M b (off + i) v) (hn : xs.length ≤ 100000) :
  SpecL Tryz.prog 31 #[.slice (some ⟨b, off, none⟩) xs.length c] M [] fun v _ L' => Own v L' 5 1 xs.length (wAj xs) := by
 refine wAf (vs := [_]) 8 _ Tryz.func31 rfl Tryz.ntmps31 rfl rfl ?_; intro W
 refine wAb (wAa (jp rfl (wAc (jT (wAb (wAb (wAa (jp rfl (wAi rfl rfl (qEq (qNil rfl rfl rfl rfl) (v' := .bool false) (by simp)) ?_)))))))))
 refine wAc (jT (wAk rfl (wAd (jT (wAb (wAa (wAy rfl rfl (wAn (z := [.int .u8 0]) (cs := []) rfl rfl rfl (by rfl) (by rfl) (by rfl)) ?_))))))); rintro _ _ _ ⟨b5, rfl, rfl, rfl⟩
 refine jp rfl ?_
 refine wAy rfl rfl (wDv (n := 0) (xs := []) (news := wAj xs) rfl rfl rfl rfl (Own.ofBuf b5) (by rw [wAm]; omega) (fun i v hv => (hx i v hv).cj _) rfl rfl (wBv xs) (by omega) (by decide)) ?_; rintro v7 _ _ ⟨rfl, R7, rfl, hown, _⟩
 refine jp rfl (wAc (jT (wAe (jr1 rfl rfl ?_))))
 simpa using hown
theorem wGt (v : Value) (xs : List By) (M : Mem) (h : BS M v xs) (hn : xs.length ≤ 100000) : SpecL Tryz.prog 31 #[v] M [] fun u _ L' => Own u L' 5 1 xs.length (wAj xs) := by
 obtain ⟨a, c, rfl, -, hs⟩ := h
 cases a with
 | none =>
  have h0 : xs = [] := by
   rcases hs with h | ⟨b, off, h, _⟩
   ·have := congrArg List.length h; rw [wAm] at this; exact List.eq_nil_of_length_eq_zero this
   cases h
  subst h0
  exact bclone_nil c M
 | some a =>
  by_cases h0 : xs = []
  ·subst h0; exact bclone_zero a c M
  obtain ⟨b, off, e, hx⟩ := hs.open (by intro e; have := congrArg List.length e; rw [wAm] at this; exact h0 (List.eq_nil_of_length_eq_zero this))
  cases e
  exact bclone_some b off c xs M hx hn
theorem sclone_nil (c : Nat) (M : Mem) :
  SpecL Tryz.prog 42 #[.slice none 0 c] M [] fun v _ L' => Own v L' 5 1 0 [] := by
 refine wAf (vs := [_]) 8 _ Tryz.func42 rfl Tryz.ntmps42 rfl rfl ?_; intro W
 refine wAb (wAa (jp rfl (wAc (jT (wAb (wAb (wAa (jp rfl (wAi rfl rfl (qEq (qNil rfl rfl rfl rfl) (v' := .bool true) (by simp)) ?_)))))))))
 refine wAc (jT (wAg rfl (wAb (wAa (jp rfl (wAc (jT (wAe (jTr (jr1 rfl rfl ?_))))))))))
 exact Own.nil _ _
theorem sclone_zero (b : Addr) (c : Nat) (M : Mem) :
  SpecL Tryz.prog 42 #[.slice (some b) 0 c] M [] fun v _ L' => Own v L' 5 1 0 [] := by
 refine wAf (vs := [_]) 8 _ Tryz.func42 rfl Tryz.ntmps42 rfl rfl ?_; intro W
 refine wAb (wAa (jp rfl (wAc (jT (wAb (wAb (wAa (jp rfl (wAi rfl rfl (qEq (qNil rfl rfl rfl rfl) (v' := .bool false) (by simp)) ?_)))))))))
 refine wAc (jT (wAk rfl (wAd (jT (wAb (wAa (wAy rfl rfl (wAn (z := [.int .u8 0]) (cs := []) rfl rfl rfl (by rfl) (by rfl) (by rfl)) ?_))))))); rintro _ _ _ ⟨b5, rfl, rfl, rfl⟩
 refine jp rfl (wAy rfl rfl (hAppend0 rfl rfl rfl rfl (Own.ofBuf b5)) ?_); rintro _ _ _ ⟨rfl, rfl, rfl⟩
 refine jp rfl (wAc (jT (wAe (jr1 rfl rfl ?_))))
 exact Own.ofBuf b5
theorem sclone_some (b off c : Nat) (xs : List By) (M : Mem) (hx : ∀ i v, (wAj xs)[i]? = some v → CM M b (off + i) v) (hn : xs.length ≤ 100000) :
  SpecL Tryz.prog 42 #[.slice (some ⟨b, off, none⟩) xs.length c] M [] fun v _ L' => Own v L' 5 1 xs.length (wAj xs) := by
 refine wAf (vs := [_]) 8 _ Tryz.func42 rfl Tryz.ntmps42 rfl rfl ?_; intro W
 refine wAb (wAa (jp rfl (wAc (jT (wAb (wAb (wAa (jp rfl (wAi rfl rfl (qEq (qNil rfl rfl rfl rfl) (v' := .bool false) (by simp)) ?_)))))))))
 refine wAc (jT (wAk rfl (wAd (jT (wAb (wAa (wAy rfl rfl (wAn (z := [.int .u8 0]) (cs := []) rfl rfl rfl (by rfl) (by rfl) (by rfl)) ?_))))))); rintro _ _ _ ⟨b5, rfl, rfl, rfl⟩
 refine jp rfl ?_
 refine wAy rfl rfl (wDv (n := 0) (xs := []) (news := wAj xs) rfl rfl rfl rfl (Own.ofBuf b5) (by rw [wAm]; omega) (fun i v hv => (hx i v hv).cj _) rfl rfl (wBv xs) (by omega) (by decide)) ?_; rintro v7 _ _ ⟨rfl, R7, rfl, hown, _⟩
 refine jp rfl (wAc (jT (wAe (jr1 rfl rfl ?_))))
 simpa using hown
theorem sclone_spec (v : Value) (xs : List By) (M : Mem) (h : BS M v xs) (hn : xs.length ≤ 100000) : SpecL Tryz.prog 42 #[v] M [] fun u _ L' => Own u L' 5 1 xs.length (wAj xs) := by
 obtain ⟨a, c, rfl, -, hs⟩ := h
 cases a with
 | none =>
  have h0 : xs = [] := by
   rcases hs with h | ⟨b, off, h, _⟩
   ·have := congrArg List.length h; rw [wAm] at this; exact List.eq_nil_of_length_eq_zero this
   cases h
  subst h0
  exact sclone_nil c M
 | some a =>
  by_cases h0 : xs = []
  ·subst h0; exact sclone_zero a c M
  obtain ⟨b, off, e, hx⟩ := hs.open (by intro e; have := congrArg List.length e; rw [wAm] at this; exact h0 (List.eq_nil_of_length_eq_zero this))
  cases e
  exact sclone_some b off c xs M hx hn
theorem wFw (x : It) (s : Value) (M : Mem) (hs : BS M s x.val) :
  SpecL Tryz.prog 106 #[.agg #[.int .u8 x.key.kind, .int .u32 x.key.id, .int .u32 x.key.off, .int .i64 x.ref, s]] M [] fun v _ _ => v = .int .i64 (wGc x) := by
 obtain ⟨a, c, rfl, -, -⟩ := hs
 refine wAf (vs := [_]) 22 _ Tryz.func106 rfl Tryz.ntmps106 rfl rfl ?_; intro W
 refine wAb (wAa (wAy rfl rfl (wCm (cs := [_, _, _, _, _]) rfl rfl rfl rfl) ?_)); rintro _ _ _ ⟨b1, rfl, rfl, rfl⟩
 refine jp rfl (wAc (jT (wAb (wAb (wAa (sFL rfl rfl ?_))))))
 refine js rfl (fun h5 => ?_) (fun h5 => ?_)
 ·refine jp rfl (sFL rfl rfl ?_)
  refine js rfl (fun h9 => ?_) (fun h9 => ?_)
  ·iterate 12 refine jp rfl ?_
   refine wAc (jT (wAg rfl (wAb (wAa (jp rfl (wAc (jT (wAe (jTr (jr1 rfl rfl ?_))))))))))
   show Value.int _ 8 = _
   rw [wGc, if_pos (by unfold wDu; apply decide_eq_true; omega)]
  refine jp rfl (sFL rfl rfl ?_)
  refine js rfl (fun h13 => ?_) (fun h13 => ?_)
  ·iterate 8 refine jp rfl ?_
   refine wAc (jT (wAg rfl (wAb (wAa (jp rfl (wAc (jT (wAe (jTr (jr1 rfl rfl ?_))))))))))
   show Value.int _ 8 = _
   rw [wGc, if_pos (by unfold wDu; apply decide_eq_true; omega)]
  refine jp rfl (jp rfl (jp rfl (sFL rfl rfl ?_)))
  refine wAi rfl rfl (wBj rfl rfl rfl) ?_
  refine js rfl (fun h20 => ?_) (fun h20 => ?_)
  ·refine jp rfl (wAc (jT (wAg rfl (wAb (wAa (jp rfl (wAc (jT (wAe (jTr (jr1 rfl rfl ?_)))))))))))
   show Value.int _ 8 = _
   rw [wGc, if_pos (by unfold wDu; apply decide_eq_true; omega)]
  refine jp rfl (wAc (jT (wAk rfl (wAd (jT (wAb (wAa (jp rfl (wAc (jT (wAe (jr1 rfl rfl ?_))))))))))))
  show Value.int _ 0 = _
  rw [wGc, if_neg (by unfold wDu; intro h; have := of_decide_eq_true h; omega)]
 iterate 11 refine jp rfl ?_
 refine sFL rfl rfl ?_
 refine wAi rfl rfl (wBj rfl rfl rfl) ?_
 refine js rfl (fun h20 => ?_) (fun h20 => ?_)
 ·refine jp rfl (wAc (jT (wAg rfl (wAb (wAa (jp rfl (wAc (jT (wAe (jTr (jr1 rfl rfl ?_)))))))))))
  show Value.int _ 8 = _
  rw [wGc, if_pos (by unfold wDu; apply decide_eq_true; omega)]
 refine jp rfl (wAc (jT (wAk rfl (wAd (jT (wAb (wAa (jp rfl (wAc (jT (wAe (jr1 rfl rfl ?_))))))))))))
 show Value.int _ 0 = _
 rw [wGc, if_neg (by unfold wDu; intro h; have := of_decide_eq_true h; omega)]
theorem twin_spec (x : It) (s : Value) (M : Mem) (hs : BS M s x.val) (hl : x.val.length ≤ 100000) :
  SpecL Tryz.prog 107 #[.agg #[.int .u8 x.key.kind, .int .u32 x.key.id, .int .u32 x.key.off, .int .i64 x.ref, s]] M [] fun v M' L' => ∃ cs, v = .agg cs.toArray ∧ IR (wEn M M') cs x ∧ L' = [] := by
 refine wAf (vs := [_]) 8 _ Tryz.func107 rfl Tryz.ntmps107 rfl rfl ?_; intro W
 refine wAb (wAa (wAy rfl rfl (wCm (cs := [_, _, _, _, _]) rfl rfl rfl rfl) ?_)); rintro _ _ _ ⟨b1, rfl, rfl, rfl⟩
 refine sAl rfl fun b2 => ?_
 refine wAc (jT (wAb (wAa (sFL rfl rfl ?_))))
 refine wAy rfl rfl (wAu rfl rfl rfl rfl rfl (by kernel_rfl) (wGt s x.val M hs hl)) ?_; rintro _ M1 _ ⟨hM1, _, rfl, hown⟩
 refine jl_ownN hown (by simp) ?_
 intro M2 a1 c1 hM2 e1 hc1 hs1; subst e1
 replace hs1 := hs1.mono (wHi hM1)
 refine sFa rfl ?_
 refine sSt rfl ?_
 refine wAc (jT (wAb (wAa (sLL rfl ?_))))
 refine sSt rfl ?_
 refine wAc (jT (wAe (wDa (rs := [_]) ([]) (by simp) rfl (.cons (.agg rfl rfl rfl) .nil) ?_)))
 exact ⟨_, rfl, ⟨_, rfl, a1, c1, rfl, hc1, hs1⟩, rfl⟩
end Go.Proofs.YtkcpllhggofloaaGreat
