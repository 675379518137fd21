/- Walks: items and nodes read. -/
import Derived.Test.YtbhkdjheooknfaaGreatZHk
import Derived.Test.YtbhkdjheooknfaaGreatZThaw
import Derived.Test.YtbhkdjheooknfaaGreatZTab
namespace Go.Proofs.YtbhkdjheooknfaaGreat
set_option linter.unusedSimpArgs false
set_option linter.unusedVariables false
set_option linter.unusedSectionVars false
open Go.RowKit
structure Ky where
 kind : Int
 id : Int
 off : Int
 deriving DecidableEq, Repr
def wEw (k : Ky) : List Value := [.int .u8 k.kind, .int .u32 k.id, .int .u32 k.off]
def cmpI (a b : Int) : Int := if a < b then -1 else if b < a then 1 else 0
def wCt (a b : Ky) : Bool := decide (a.kind < b.kind ∨ a.kind = b.kind ∧ (a.id < b.id ∨ a.id = b.id ∧ a.off < b.off))
def orL : List Int → Int
 | [] => 0
 | x :: xs => if x ≠ 0 then x else orL xs
theorem kless_or (a b : Ky) : decide (orL [cmpI a.kind b.kind, cmpI a.id b.id, cmpI a.off b.off] < 0) = wCt a b := by
 unfold wCt orL orL orL orL cmpI
 apply decide_eq_decide.2
 repeat' split
 all_goals omega
def wAw (xs : List Int) : List Value := xs.map (Value.int .i64)
theorem nan_u8 (a : Int) (M : Mem) :
  SpecL Tryz.prog 135 #[.int .u8 a] M [] fun v _ _ => v = .bool false := by
 refine wAe (vs := [_]) 6 _ Tryz.func135 rfl Tryz.ntmps135 rfl rfl ?_; intro W
 refine wAb (wAa (jp rfl (wAc (jT (wAb (wAa (jp rfl (jp rfl (jp rfl (jp rfl (wAc (jT (wAf (jr1 rfl rfl ?_))))))))))))))
 simp
theorem cmp_u8 (a b : Int) (M : Mem) :
  SpecL Tryz.prog 121 #[.int .u8 a, .int .u8 b] M [] fun v _ _ => v = .int .i64 (cmpI a b) := by
 refine wAe (vs := [_, _]) 20 _ Tryz.func121 rfl Tryz.ntmps121 rfl rfl ?_; intro W
 refine wAb (wAa (jp rfl (wAc (jT (wAb (wAa (jp rfl (wAi rfl rfl (wAy rfl rfl rfl rfl rfl (by kernel_rfl) (nan_u8 _ M)) ?_))))))))
 refine jp rfl (wAc (jT (wAb (wAa (jp rfl (wAi rfl rfl (wAy rfl rfl rfl rfl rfl (by kernel_rfl) (nan_u8 _ M)) ?_))))))
 refine jp rfl (wAc (jT (wAb (wAb (wAa (jp rfl (wAc (jT (wAk rfl (wAd (jT (wAb (wAb (wAa (jp rfl (wAc (jT (wAk rfl (wAd (jT (wAb (wAb (wAa (jp rfl (jp rfl (js rfl (fun h16 => ?_) (fun h16 => ?_)))))))))))))))))))))))))))
 ·refine wAc (jT (wAg rfl (wAb (wAa (jp rfl (wAc (jT (wAf (jTr (jr1 rfl rfl ?_))))))))))
  unfold cmpI; congr 1; split <;> (try split) <;> omega
 refine wAc (jT (wAk rfl (wAd (jT (wAb (wAb (wAa (jp rfl (jp rfl (js rfl (fun h19 => ?_) (fun h19 => ?_)))))))))))
 ·refine wAc (jT (wAg rfl (wAb (wAa (jp rfl (wAc (jT (wAf (jTr (jr1 rfl rfl ?_))))))))))
  unfold cmpI; congr 1; split <;> (try split) <;> omega
 refine wAc (jT (wAk rfl (wAd (jT (wAb (wAa (jp rfl (wAc (jT (wAf (jr1 rfl rfl ?_)))))))))))
 unfold cmpI; congr 1; split <;> (try split) <;> omega
theorem nan_u32 (a : Int) (M : Mem) :
  SpecL Tryz.prog 136 #[.int .u32 a] M [] fun v _ _ => v = .bool false := by
 refine wAe (vs := [_]) 6 _ Tryz.func136 rfl Tryz.ntmps136 rfl rfl ?_; intro W
 refine wAb (wAa (jp rfl (wAc (jT (wAb (wAa (jp rfl (jp rfl (jp rfl (jp rfl (wAc (jT (wAf (jr1 rfl rfl ?_))))))))))))))
 simp
theorem cmp_u32 (a b : Int) (M : Mem) :
  SpecL Tryz.prog 122 #[.int .u32 a, .int .u32 b] M [] fun v _ _ => v = .int .i64 (cmpI a b) := by
 refine wAe (vs := [_, _]) 20 _ Tryz.func122 rfl Tryz.ntmps122 rfl rfl ?_; intro W
 refine wAb (wAa (jp rfl (wAc (jT (wAb (wAa (jp rfl (wAi rfl rfl (wAy rfl rfl rfl rfl rfl (by kernel_rfl) (nan_u32 _ M)) ?_))))))))
 refine jp rfl (wAc (jT (wAb (wAa (jp rfl (wAi rfl rfl (wAy rfl rfl rfl rfl rfl (by kernel_rfl) (nan_u32 _ M)) ?_))))))
 refine jp rfl (wAc (jT (wAb (wAb (wAa (jp rfl (wAc (jT (wAk rfl (wAd (jT (wAb (wAb (wAa (jp rfl (wAc (jT (wAk rfl (wAd (jT (wAb (wAb (wAa (jp rfl (jp rfl (js rfl (fun h16 => ?_) (fun h16 => ?_)))))))))))))))))))))))))))
 ·refine wAc (jT (wAg rfl (wAb (wAa (jp rfl (wAc (jT (wAf (jTr (jr1 rfl rfl ?_))))))))))
  unfold cmpI; congr 1; split <;> (try split) <;> omega
 refine wAc (jT (wAk rfl (wAd (jT (wAb (wAb (wAa (jp rfl (jp rfl (js rfl (fun h19 => ?_) (fun h19 => ?_)))))))))))
 ·refine wAc (jT (wAg rfl (wAb (wAa (jp rfl (wAc (jT (wAf (jTr (jr1 rfl rfl ?_))))))))))
  unfold cmpI; congr 1; split <;> (try split) <;> omega
 refine wAc (jT (wAk rfl (wAd (jT (wAb (wAa (jp rfl (wAc (jT (wAf (jr1 rfl rfl ?_)))))))))))
 unfold cmpI; congr 1; split <;> (try split) <;> omega
theorem or_spec (b : Nat) (xs : List Int) (hn : xs.length ≤ 1000) (M : Mem) :
  SpecL Tryz.prog 120 #[.slice (some ⟨b, 0, none⟩) xs.length xs.length] M [(b, .cells (wAw xs).toArray 3 (0, 0))] fun v _ L' => v = .int .i64 (orL xs) ∧ L' = [] := by
 refine wAe (vs := [_]) 18 _ Tryz.func120 rfl Tryz.ntmps120 rfl rfl ?_; intro W
 refine wAb (wAa (jp rfl (wAc (jT (wAb (wAa (jp rfl (wAc (jT (wAb (wAb (wAa (jp rfl (wAi rfl rfl (wBe rfl rfl rfl) ?_))))))))))))))
 refine jp rfl (wAc (jT (wAh ?_)))
 refine wAo (α := Nat) (fun k => [(3, .int .i64 0), (6, .slice (some ⟨b, 0, none⟩) xs.length xs.length), (7, .int .i64 xs.length), (8, .int .i64 k)]) (fun _ => M) (fun _ => [(b, .cells (wAw xs).toArray 3 (0, 0))]) (fun k => k ≤ xs.length ∧ orL xs = orL (xs.drop k)) (fun k => xs.length - k)
  0 (.cons (t := 3) rfl (.cons (t := 6) rfl (.cons (t := 7) rfl (.cons (t := 8) rfl .nil)))) ⟨Nat.zero_le _, rfl⟩ (fun _ h => h) ?_
 rintro k ⟨hk, ho⟩
 try dsimp only at hk ho ⊢
 refine wAb (wAa (js rfl (fun hlt => ?_) (fun hlt => ?_)))
 ·refine wAc (jT (wAb (wAg rfl (wAd (jT (wAb (wAh (wAb (wAa ?_)))))))))
  have hk1 : k < xs.length := by omega
  have hd : xs.drop k = xs[k] :: xs.drop (k + 1) := List.drop_eq_getElem_cons hk1
  refine wAi rfl rfl (wBb rfl rfl rfl rfl (by omega)) ?_
  refine wAi rfl rfl (qLd rfl rfl rfl rfl (CJ.loc (v := .int .i64 xs[k]) (by simp [wAw, hk1]))) ?_
  refine jp rfl (wAc (jT (wAb (wAa (jp rfl (jp rfl (js rfl (fun h14 => ?_) (fun h14 => ?_))))))))
  ·refine wAc (jT (wAg rfl (wAb (wAa (jp rfl (jp rfl (wAc (jT (wAf (jBr (jTr (jTr (jBr (jTr (wAu (L' := []) (by simp) ?_)))))))))))))))
   refine jr1 rfl rfl ?_
   exact ⟨by rw [ho, hd]; show _ = Value.int _ (if _ then _ else _); rw [if_pos (by simpa using h14)], rfl⟩
  refine wAc (jT (wAk rfl (wAd (jB (jT (wAa (ja rfl (by omega) ?_)))))))
  refine jp rfl (wAc (wAn (k + 1) (.cons (t := 3) rfl (.cons (t := 6) rfl (.cons (t := 7) rfl (.cons (t := 8) rfl .nil)))) ⟨by omega, ?_⟩ (by omega) (fun _ h => h)))
  rw [ho, hd]; show (if _ then _ else _) = _; rw [if_neg (by simpa using h14)]
 refine wAc (jT (wAb (wAk rfl (wAs (jTx (jTx (jBx (jT (wAb (wAa (jp rfl (jp rfl (wAc (jT (wAf (wAu (L' := []) (by simp) ?_))))))))))))))))
 refine jr1 rfl rfl ?_
 exact ⟨by rw [ho, List.drop_eq_nil_of_le (by omega)]; rfl, rfl⟩
theorem or3 (b : Nat) (x y z : Int) (M : Mem) : SpecL Tryz.prog 120 #[.slice (some ⟨b, 0, none⟩) 3 3] M [(b, .cells [.int .i64 x, .int .i64 y, .int .i64 z].toArray 3 (0, 0))] fun v _ L' => v = .int .i64 (orL [x, y, z]) ∧ L' = [] := or_spec b [x, y, z] (by simp) M
theorem wHg (a b : Ky) (M : Mem) :
  SpecL Tryz.prog 103 #[.agg (wEw a).toArray, .agg (wEw b).toArray] M [] fun v _ _ => v = .bool (wCt a b) := by
 refine wAe (vs := [_, _]) 23 _ Tryz.func103 rfl Tryz.ntmps103 rfl rfl ?_; intro W
 refine wAb (wAa (wAv rfl rfl (wBw (cs := [_, _, _]) rfl rfl rfl rfl) ?_)); rintro _ _ _ ⟨b2, rfl, rfl, rfl⟩
 refine wAv rfl rfl (wBw (cs := [_, _, _]) rfl rfl rfl rfl) ?_; rintro _ _ _ ⟨b3, rfl, rfl, rfl⟩
 refine jp rfl (wAc (jT (wAb (wBn [(0, true), (1, true), (2, true), (3, true), (4, true), (5, true), (6, true), (7, true), (8, true), (9, true), (10, true), (11, true), (12, true), (13, true), (14, true), (15, false), (16, false), (17, true), (18, true)] _ (by kernel_rfl) (by kernel_rfl) (by kernel_rfl) rfl (fun _ h => h) ?_))))
 refine dFa rfl rfl ?_
 refine dLd rfl rfl ?_
 refine dFa rfl rfl ?_
 refine dLd rfl rfl ?_
 refine wBh rfl rfl rfl (wAy rfl rfl rfl rfl rfl (by kernel_rfl) (cmp_u8 _ _ M)) ?_
 refine dFa rfl rfl ?_
 refine dLd rfl rfl ?_
 refine dFa rfl rfl ?_
 refine dLd rfl rfl ?_
 refine wBh rfl rfl rfl (wAy rfl rfl rfl rfl rfl (by kernel_rfl) (cmp_u32 _ _ M)) ?_
 refine dFa rfl rfl ?_
 refine dLd rfl rfl ?_
 refine dFa rfl rfl ?_
 refine dLd rfl rfl ?_
 refine wBh rfl rfl rfl (wAy rfl rfl rfl rfl rfl (by kernel_rfl) (cmp_u32 _ _ M)) ?_
 refine wDy rfl rfl rfl (wAr (cs := [_, _, _]) rfl rfl rfl (by rfl) (by rfl) (by rfl)) ?_; rintro _ _ _ ⟨b20, rfl, rfl, rfl⟩
 refine wGa (MLe.refl _) (fun _ h => List.mem_cons_of_mem _ h) (MLe.refl _) (fun _ h => h) ?_
 refine wDy rfl rfl rfl (wAt rfl rfl rfl rfl rfl (by kernel_rfl) (or3 b20 (cmpI a.kind b.kind) (cmpI a.id b.id) (cmpI a.off b.off) M)) ?_; rintro _ M2 _ ⟨hM2, _, rfl, ⟨rfl, rfl⟩⟩
 refine ⟨_, _, MLe.refl _, hM2, fun _ h => h, fun _ h => h, ?_⟩
 iterate 2 refine dp rfl rfl ?_
 refine wBg (jPn (jT (wAf (jr1 rfl rfl ?_))))
 exact congrArg _ (kless_or a b)
structure It where
 key : Ky
 ref : Int
 val : List By
 deriving DecidableEq, Repr
def IR (M : Mem) (cs : List Value) (x : It) : Prop := ∃ s, cs = [.int .u8 x.key.kind, .int .u32 x.key.id, .int .u32 x.key.off, .int .i64 x.ref, s] ∧ BS M s x.val
theorem IR.mono {M M' : Mem} {cs : List Value} {x : It} (h : IR M cs x) (hM : MLe M M') : IR M' cs x := by
 obtain ⟨s, h1, h2⟩ := h; exact ⟨s, h1, h2.mono hM⟩
def wDq (x : It) : Bool := decide (x.ref ≠ 0 ∧ (x.ref < 8 ∨ 256 ≤ x.ref) ∨ 12 < x.val.length)
def wFt (x : It) : Int := if wDq x then 8 else 0
def strB (xs : List By) : ByteArray := ⟨xs.toArray⟩
theorem toList_loop (bs : ByteArray) : ∀ (n i : Nat) (r : List UInt8), bs.size - i = n → ByteArray.toList.loop bs i r = r.reverse ++ bs.data.toList.drop i
 | 0, i, r, h => by
  unfold ByteArray.toList.loop
  rw [if_neg (by omega), List.drop_eq_nil_of_le (by have : bs.data.toList.length = bs.size := rfl; omega), List.append_nil]
 | n + 1, i, r, h => by
  unfold ByteArray.toList.loop
  have hlt : i < bs.data.toList.length := by have : bs.data.toList.length = bs.size := rfl; omega
  rw [if_pos (by omega), toList_loop bs n (i + 1) _ (by omega), List.drop_eq_getElem_cons hlt, List.reverse_cons, List.append_assoc]
  congr 2
  show [bs.data[i]!] ++ _ = _
  rw [getElem!_pos bs.data i (by simpa using hlt)]
  rfl
theorem strB_toList (xs : List By) : (strB xs).toList = xs := by
 unfold ByteArray.toList
 rw [toList_loop _ _ 0 [] rfl]; rfl
theorem strB_eq (xs ys : List By) : ((strB xs).toList == (strB ys).toList) = decide (xs = ys) := by
 rw [strB_toList, strB_toList]
 by_cases h : xs = ys <;> simp [h]
theorem wCc (xs : List By) : strOfNums (xs.map fun b => (b.toNat : Int)) = strB xs := by
 unfold strOfNums strB
 congr 2
 rw [List.map_map]
 conv => rhs; rw [← List.map_id xs]
 apply List.map_congr_left
 intro b _
 simp
theorem equal_spec (u v : Value) (xs ys : List By) (M : Mem) (h1 : BS M u xs) (h2 : BS M v ys) :
  SpecL Tryz.prog 124 #[u, v] M [] fun r _ _ => r = .bool (decide (xs = ys)) := by
 obtain ⟨a1, c1, rfl, -, s1⟩ := h1
 obtain ⟨a2, c2, rfl, -, s2⟩ := h2
 refine wAe (vs := [_, _]) 10 _ Tryz.func124 rfl Tryz.ntmps124 rfl rfl ?_; intro W
 refine wAb (wAa (jp rfl (wAc (jT (wAb (wAa (jp rfl (wAi rfl rfl (qEq (qStr (xs := xs.map fun b => (b.toNat : Int)) rfl rfl rfl (by simp) (by simpa [wAj, List.map_map, Function.comp_def] using s1.sj _)) (v' := .string (strB xs)) (by rw [wCc])) ?_))))))))
 refine jp rfl (wAi rfl rfl (qEq (qStr (xs := ys.map fun b => (b.toNat : Int)) rfl rfl rfl (by simp) (by simpa [wAj, List.map_map, Function.comp_def] using s2.sj _)) (v' := .string (strB ys)) (by rw [wCc])) ?_)
 refine wAi rfl rfl (qEq (qP rfl rfl) (v' := .bool (decide (xs = ys))) (congrArg _ (strB_eq xs ys))) ?_
 refine jp rfl (wAc (jT (wAf (jr1 rfl rfl ?_))))
 rfl
theorem key_eq (a b : Ky) : decide ([a.kind, a.id, a.off] = [b.kind, b.id, b.off]) = decide (a = b) := by
 apply decide_eq_decide.2
 constructor
 ·intro h; cases a; cases b; simp at h; simp [h]
 rintro rfl; rfl
theorem Own.ofBuf (b : Nat) : Own (.slice (some ⟨b, 0, none⟩) 0 0) [(b, .cells ([] : List Value).toArray 5 (0, 0))] 5 1 0 [] := ⟨rfl, .inr ⟨b, 0, #[], rfl, rfl, by omega, by decide, rfl, rfl⟩⟩
theorem bclone_nil (c : Nat) (M : Mem) :
  SpecL Tryz.prog 19 #[.slice none 0 c] M [] fun v _ L' => Own v L' 5 1 0 [] := by
 refine wAe (vs := [_]) 8 _ Tryz.func19 rfl Tryz.ntmps19 rfl rfl ?_; intro W
 refine wAb (wAa (jp rfl (wAc (jT (wAb (wAb (wAa (jp rfl (wAi rfl rfl (qEq (qNil rfl rfl rfl rfl) (v' := .bool true) (by simp)) ?_)))))))))
 refine wAc (jT (wAg rfl (wAb (wAa (jp rfl (wAc (jT (wAf (jTr (jr1 rfl rfl ?_))))))))))
 exact Own.nil _ _
theorem bclone_zero (b : Addr) (c : Nat) (M : Mem) :
  SpecL Tryz.prog 19 #[.slice (some b) 0 c] M [] fun v _ L' => Own v L' 5 1 0 [] := by
 refine wAe (vs := [_]) 8 _ Tryz.func19 rfl Tryz.ntmps19 rfl rfl ?_; intro W
 refine wAb (wAa (jp rfl (wAc (jT (wAb (wAb (wAa (jp rfl (wAi rfl rfl (qEq (qNil rfl rfl rfl rfl) (v' := .bool false) (by simp)) ?_)))))))))
 refine wAc (jT (wAk rfl (wAd (jT (wAb (wAa (wAv rfl rfl (wAr (z := [.int .u8 0]) (cs := []) rfl rfl rfl (by rfl) (by rfl) (by rfl)) ?_))))))); rintro _ _ _ ⟨b5, rfl, rfl, rfl⟩
 refine jp rfl (wAv rfl rfl (hAppend0 rfl rfl rfl rfl (Own.ofBuf b5)) ?_); rintro _ _ _ ⟨rfl, rfl, rfl⟩
 refine jp rfl (wAc (jT (wAf (jr1 rfl rfl ?_))))
 exact Own.ofBuf b5
theorem bclone_some (b off c : Nat) (xs : List By) (M : Mem) (hx : ∀ i v, (wAj xs)[i]? = some v → CM M b (off + i) v) (hn : xs.length ≤ 100000) :
  SpecL Tryz.prog 19 #[.slice (some ⟨b, off, none⟩) xs.length c] M [] fun v _ L' => Own v L' 5 1 xs.length (wAj xs) := by
 refine wAe (vs := [_]) 8 _ Tryz.func19 rfl Tryz.ntmps19 rfl rfl ?_; intro W
 refine wAb (wAa (jp rfl (wAc (jT (wAb (wAb (wAa (jp rfl (wAi rfl rfl (qEq (qNil rfl rfl rfl rfl) (v' := .bool false) (by simp)) ?_)))))))))
 refine wAc (jT (wAk rfl (wAd (jT (wAb (wAa (wAv rfl rfl (wAr (z := [.int .u8 0]) (cs := []) rfl rfl rfl (by rfl) (by rfl) (by rfl)) ?_))))))); rintro _ _ _ ⟨b5, rfl, rfl, rfl⟩
 refine jp rfl ?_
 refine wAv rfl rfl (wCr (n := 0) (xs := []) (news := wAj xs) rfl rfl rfl rfl (Own.ofBuf b5) (by rw [wAm]; omega) (fun i v hv => (hx i v hv).cj _) rfl rfl (wBf xs) (by omega) (by decide)) ?_; rintro v7 _ _ ⟨rfl, R7, rfl, hown, _⟩
 refine jp rfl (wAc (jT (wAf (jr1 rfl rfl ?_))))
 simpa using hown
theorem wEo (v : Value) (xs : List By) (M : Mem) (h : BS M v xs) (hn : xs.length ≤ 100000) : SpecL Tryz.prog 19 #[v] M [] fun u _ L' => Own u L' 5 1 xs.length (wAj xs) := by
 obtain ⟨a, c, rfl, -, hs⟩ := h
 cases a with
 | none =>
  have h0 : xs = [] := by
   rcases hs with h | ⟨b, off, h, _⟩
   ·have := congrArg List.length h; rw [wAm] at this; exact List.eq_nil_of_length_eq_zero this
   cases h
  subst h0
  exact bclone_nil c M
 | some a =>
  by_cases h0 : xs = []
  ·subst h0; exact bclone_zero a c M
  obtain ⟨b, off, e, hx⟩ := hs.open (by intro e; have := congrArg List.length e; rw [wAm] at this; exact h0 (List.eq_nil_of_length_eq_zero this))
  cases e
  exact bclone_some b off c xs M hx hn
theorem sclone_nil (c : Nat) (M : Mem) :
  SpecL Tryz.prog 132 #[.slice none 0 c] M [] fun v _ L' => Own v L' 5 1 0 [] := by
 refine wAe (vs := [_]) 8 _ Tryz.func132 rfl Tryz.ntmps132 rfl rfl ?_; intro W
 refine wAb (wAa (jp rfl (wAc (jT (wAb (wAb (wAa (jp rfl (wAi rfl rfl (qEq (qNil rfl rfl rfl rfl) (v' := .bool true) (by simp)) ?_)))))))))
 refine wAc (jT (wAg rfl (wAb (wAa (jp rfl (wAc (jT (wAf (jTr (jr1 rfl rfl ?_))))))))))
 exact Own.nil _ _
theorem sclone_zero (b : Addr) (c : Nat) (M : Mem) :
  SpecL Tryz.prog 132 #[.slice (some b) 0 c] M [] fun v _ L' => Own v L' 5 1 0 [] := by
 refine wAe (vs := [_]) 8 _ Tryz.func132 rfl Tryz.ntmps132 rfl rfl ?_; intro W
 refine wAb (wAa (jp rfl (wAc (jT (wAb (wAb (wAa (jp rfl (wAi rfl rfl (qEq (qNil rfl rfl rfl rfl) (v' := .bool false) (by simp)) ?_)))))))))
 refine wAc (jT (wAk rfl (wAd (jT (wAb (wAa (wAv rfl rfl (wAr (z := [.int .u8 0]) (cs := []) rfl rfl rfl (by rfl) (by rfl) (by rfl)) ?_))))))); rintro _ _ _ ⟨b5, rfl, rfl, rfl⟩
 refine jp rfl (wAv rfl rfl (hAppend0 rfl rfl rfl rfl (Own.ofBuf b5)) ?_); rintro _ _ _ ⟨rfl, rfl, rfl⟩
 refine jp rfl (wAc (jT (wAf (jr1 rfl rfl ?_))))
 exact Own.ofBuf b5
theorem sclone_some (b off c : Nat) (xs : List By) (M : Mem) (hx : ∀ i v, (wAj xs)[i]? = some v → CM M b (off + i) v) (hn : xs.length ≤ 100000) :
  SpecL Tryz.prog 132 #[.slice (some ⟨b, off, none⟩) xs.length c] M [] fun v _ L' => Own v L' 5 1 xs.length (wAj xs) := by
 refine wAe (vs := [_]) 8 _ Tryz.func132 rfl Tryz.ntmps132 rfl rfl ?_; intro W
 refine wAb (wAa (jp rfl (wAc (jT (wAb (wAb (wAa (jp rfl (wAi rfl rfl (qEq (qNil rfl rfl rfl rfl) (v' := .bool false) (by simp)) ?_)))))))))
 refine wAc (jT (wAk rfl (wAd (jT (wAb (wAa (wAv rfl rfl (wAr (z := [.int .u8 0]) (cs := []) rfl rfl rfl (by rfl) (by rfl) (by rfl)) ?_))))))); rintro _ _ _ ⟨b5, rfl, rfl, rfl⟩
 refine jp rfl ?_
 refine wAv rfl rfl (wCr (n := 0) (xs := []) (news := wAj xs) rfl rfl rfl rfl (Own.ofBuf b5) (by rw [wAm]; omega) (fun i v hv => (hx i v hv).cj _) rfl rfl (wBf xs) (by omega) (by decide)) ?_; rintro v7 _ _ ⟨rfl, R7, rfl, hown, _⟩
 refine jp rfl (wAc (jT (wAf (jr1 rfl rfl ?_))))
 simpa using hown
theorem sclone_spec (v : Value) (xs : List By) (M : Mem) (h : BS M v xs) (hn : xs.length ≤ 100000) : SpecL Tryz.prog 132 #[v] M [] fun u _ L' => Own u L' 5 1 xs.length (wAj xs) := by
 obtain ⟨a, c, rfl, -, hs⟩ := h
 cases a with
 | none =>
  have h0 : xs = [] := by
   rcases hs with h | ⟨b, off, h, _⟩
   ·have := congrArg List.length h; rw [wAm] at this; exact List.eq_nil_of_length_eq_zero this
   cases h
  subst h0
  exact sclone_nil c M
 | some a =>
  by_cases h0 : xs = []
  ·subst h0; exact sclone_zero a c M
  obtain ⟨b, off, e, hx⟩ := hs.open (by intro e; have := congrArg List.length e; rw [wAm] at this; exact h0 (List.eq_nil_of_length_eq_zero this))
  cases e
  exact sclone_some b off c xs M hx hn
theorem wFv (x : It) (s : Value) (M : Mem) (hs : BS M s x.val) :
  SpecL Tryz.prog 133 #[.agg #[.int .u8 x.key.kind, .int .u32 x.key.id, .int .u32 x.key.off, .int .i64 x.ref, s]] M [] fun v _ _ => v = .int .i64 (wFt x) := by
 obtain ⟨a, c, rfl, -, -⟩ := hs
 refine wAe (vs := [_]) 22 _ Tryz.func133 rfl Tryz.ntmps133 rfl rfl ?_; intro W
 refine wAb (wAa (wAv rfl rfl (wBw (cs := [_, _, _, _, _]) rfl rfl rfl rfl) ?_)); rintro _ _ _ ⟨b1, rfl, rfl, rfl⟩
 refine jp rfl (wAc (jT (wAb (wAb (wAa (sFL rfl rfl ?_))))))
 refine js rfl (fun h5 => ?_) (fun h5 => ?_)
 ·refine jp rfl (sFL rfl rfl ?_)
  refine js rfl (fun h9 => ?_) (fun h9 => ?_)
  ·iterate 12 refine jp rfl ?_
   refine wAc (jT (wAg rfl (wAb (wAa (jp rfl (wAc (jT (wAf (jTr (jr1 rfl rfl ?_))))))))))
   show Value.int _ 8 = _
   rw [wFt, if_pos (by unfold wDq; apply decide_eq_true; omega)]
  refine jp rfl (sFL rfl rfl ?_)
  refine js rfl (fun h13 => ?_) (fun h13 => ?_)
  ·iterate 8 refine jp rfl ?_
   refine wAc (jT (wAg rfl (wAb (wAa (jp rfl (wAc (jT (wAf (jTr (jr1 rfl rfl ?_))))))))))
   show Value.int _ 8 = _
   rw [wFt, if_pos (by unfold wDq; apply decide_eq_true; omega)]
  refine jp rfl (jp rfl (jp rfl (sFL rfl rfl ?_)))
  refine wAi rfl rfl (wBe rfl rfl rfl) ?_
  refine js rfl (fun h20 => ?_) (fun h20 => ?_)
  ·refine jp rfl (wAc (jT (wAg rfl (wAb (wAa (jp rfl (wAc (jT (wAf (jTr (jr1 rfl rfl ?_)))))))))))
   show Value.int _ 8 = _
   rw [wFt, if_pos (by unfold wDq; apply decide_eq_true; omega)]
  refine jp rfl (wAc (jT (wAk rfl (wAd (jT (wAb (wAa (jp rfl (wAc (jT (wAf (jr1 rfl rfl ?_))))))))))))
  show Value.int _ 0 = _
  rw [wFt, if_neg (by unfold wDq; intro h; have := of_decide_eq_true h; omega)]
 iterate 11 refine jp rfl ?_
 refine sFL rfl rfl ?_
 refine wAi rfl rfl (wBe rfl rfl rfl) ?_
 refine js rfl (fun h20 => ?_) (fun h20 => ?_)
 ·refine jp rfl (wAc (jT (wAg rfl (wAb (wAa (jp rfl (wAc (jT (wAf (jTr (jr1 rfl rfl ?_)))))))))))
  show Value.int _ 8 = _
  rw [wFt, if_pos (by unfold wDq; apply decide_eq_true; omega)]
 refine jp rfl (wAc (jT (wAk rfl (wAd (jT (wAb (wAa (jp rfl (wAc (jT (wAf (jr1 rfl rfl ?_))))))))))))
 show Value.int _ 0 = _
 rw [wFt, if_neg (by unfold wDq; intro h; have := of_decide_eq_true h; omega)]
theorem itsame_spec (x y : It) (s t : Value) (M : Mem) (h1 : BS M s x.val) (h2 : BS M t y.val) :
  SpecL Tryz.prog 106 #[.agg #[.int .u8 x.key.kind, .int .u32 x.key.id, .int .u32 x.key.off, .int .i64 x.ref, s], .agg #[.int .u8 y.key.kind, .int .u32 y.key.id, .int .u32 y.key.off, .int .i64 y.ref, t]] M [] fun v _ _ => v = .bool (decide (x = y)) := by
 refine wAe (vs := [_, _]) 24 _ Tryz.func106 rfl Tryz.ntmps106 rfl rfl ?_; intro W
 refine wAb (wAa (wAv rfl rfl (wBw (cs := [_, _, _, _, _]) rfl rfl rfl rfl) ?_)); rintro _ _ _ ⟨b2, rfl, rfl, rfl⟩
 refine wAv rfl rfl (wBw (cs := [_, _, _, _, _]) rfl rfl rfl rfl) ?_; rintro _ _ _ ⟨b3, rfl, rfl, rfl⟩
 refine jp rfl (wAc (jT (wAb (wAa (sFa rfl ?_)))))
 refine sLL rfl ?_
 refine sFa rfl ?_
 refine sLL rfl ?_
 refine wDf rfl rfl (qEqI (ns := [x.key.kind, x.key.id, x.key.off]) (ms := [y.key.kind, y.key.id, y.key.off]) rfl rfl rfl rfl rfl rfl ⟨rfl, rfl⟩) (fun h9 => ?_) (fun h9 => ?_)
 ·refine jp rfl (sFL rfl rfl ?_)
  refine sFL rfl rfl ?_
  refine js rfl (fun h15 => ?_) (fun h15 => ?_)
  ·refine jp rfl (jp rfl (sFL rfl rfl ?_))
   refine sFL rfl rfl ?_
   refine wAi rfl rfl (wAy rfl rfl rfl rfl rfl (by kernel_rfl) (equal_spec s t x.val y.val M h1 h2)) ?_
   refine jp rfl (jp rfl (wAc (jT (wAf (jr1 rfl rfl ?_)))))
   rw [key_eq] at h9
   refine congrArg _ (decide_eq_decide.2 ⟨fun hv => ?_, fun e => by rw [e]⟩)
   have hk := of_decide_eq_true h9
   cases x; cases y; simp only at hk hv h15; subst hk hv h15; rfl
  iterate 9 refine jp rfl ?_
  refine wAc (jT (wAf (jr1 rfl rfl ?_)))
  have hne : x ≠ y := by rintro rfl; exact h15 rfl
  simp [hne]
 iterate 15 refine jp rfl ?_
 refine wAc (jT (wAf (jr1 rfl rfl ?_)))
 have hne : x ≠ y := by rintro rfl; simp at h9
 simp [hne]
theorem twin_spec (x : It) (s : Value) (M : Mem) (hs : BS M s x.val) (hl : x.val.length ≤ 100000) :
  SpecL Tryz.prog 134 #[.agg #[.int .u8 x.key.kind, .int .u32 x.key.id, .int .u32 x.key.off, .int .i64 x.ref, s]] M [] fun v M' L' => ∃ cs, v = .agg cs.toArray ∧ IR (wDm M M') cs x ∧ L' = [] := by
 refine wAe (vs := [_]) 8 _ Tryz.func134 rfl Tryz.ntmps134 rfl rfl ?_; intro W
 refine wAb (wAa (wAv rfl rfl (wBw (cs := [_, _, _, _, _]) rfl rfl rfl rfl) ?_)); rintro _ _ _ ⟨b1, rfl, rfl, rfl⟩
 refine sAl rfl fun b2 => ?_
 refine wAc (jT (wAb (wAa (sFL rfl rfl ?_))))
 refine wAv rfl rfl (wAt rfl rfl rfl rfl rfl (by kernel_rfl) (wEo s x.val M hs hl)) ?_; rintro _ M1 _ ⟨hM1, _, rfl, hown⟩
 refine jl_ownN hown (by simp) ?_
 intro M2 a1 c1 hM2 e1 hc1 hs1; subst e1
 replace hs1 := hs1.mono (wGh hM1)
 refine sFa rfl ?_
 refine sSt rfl ?_
 refine wAc (jT (wAb (wAa (sLL rfl ?_))))
 refine sSt rfl ?_
 refine wAc (jT (wAf (wBr (rs := [_]) ([]) (by simp) rfl (.cons (.agg rfl rfl rfl) .nil) ?_)))
 exact ⟨_, rfl, ⟨_, rfl, a1, c1, rfl, hc1, hs1⟩, rfl⟩
def bw {α : Type} (xs : List α) (k : Nat) : List (α × Nat) := (xs.zipIdx.drop k).reverse
theorem bw_len {α : Type} (xs : List α) : bw xs xs.length = [] := by simp [bw, List.drop_eq_nil_of_le]
theorem bw_step {α : Type} (xs : List α) {k : Nat} (h : k < xs.length) : bw xs k = bw xs (k + 1) ++ [(xs[k], k)] := by
 unfold bw
 rw [List.drop_eq_getElem_cons (by simpa using h), List.reverse_cons]
 simp
theorem wKg {α : Type} (xs : List α) (k : Nat) : bw xs k <+: bw xs 0 := by
 unfold bw
 rw [List.drop_zero]
 exact List.reverse_prefix.2 (List.drop_suffix k _)
theorem bw_fst {α : Type} (xs : List α) : (bw xs 0).map (·.1) = xs.reverse := by
 unfold bw; rw [List.drop_zero, List.map_reverse]; simp
theorem bwb (a : Option Addr) (n c : Nat) (M : Mem) :
  SpecL Tryz.prog 137 #[.slice a n c] M [] fun u M' L' => ∃ b, u = .func (.func 140) #[] #[.pointer (some ⟨b, 0, none⟩)] ∧ M' b = some (.cells #[.slice a n c] 26 (0, 0)) ∧ L' = [] := by
 refine wAe (vs := [_]) 4 _ Tryz.func137 rfl Tryz.ntmps137 rfl rfl ?_; intro W
 refine wAb (wAa (wAv rfl rfl (wBw (cs := [.slice a n c]) rfl rfl rfl rfl) ?_)); rintro _ _ _ ⟨b1, rfl, rfl, rfl⟩
 refine jp rfl (wAc (jT (wAb (wAa (jp rfl (jp rfl (wAc (jT (wAf (wCa b1 (by simp) ?_))))))))))
 intro M1 hM1 e1
 refine jr1 rfl rfl ?_
 exact ⟨b1, rfl, e1, rfl⟩
theorem bwb_body (b sb so c : Nat) (xs : List (By)) (M : Mem) (hb : M b = some (.cells #[.slice (some ⟨sb, so, none⟩) xs.length c] 26 (0, 0))) (hx : ∀ i v, (wAj xs)[i]? = some v → CM M sb (so + i) v) (hn : xs.length ≤ 1000000) (l : Nat) (J Jx : List (By × Nat) → Mem → Lc → Prop) (M1 : Mem) (L0 : Lc) (hM : MLe M M1) (hJ : ∀ pre y M2 L2, MLe M1 M2 → J pre M2 L2 → pre ++ [y] <+: bw xs 0 → RoundL Tryz.prog l ((fun p : By × Nat => [.int .i64 p.2, .int .u8 p.1.toNat]) y).toArray M2 L2 fun v M' L' => (v = .bool true ∧ J (pre ++ [y]) M' L') ∨ (v = .bool false ∧ Jx (pre ++ [y]) M' L')) (h0 : J [] M1 L0) :
  SpecL Tryz.prog 140 #[.func (.yield l) #[] #[], .pointer (some ⟨b, 0, none⟩)] M1 L0 fun _ M' L' => J (bw xs 0) M' L' ∨ ∃ pre, pre <+: bw xs 0 ∧ Jx pre M' L' := by
 have hbc : ∀ {M2 : Mem} (L : Lc), MLe M1 M2 → CJ M2 L b 0 (.slice (some ⟨sb, so, none⟩) xs.length c) := fun L h => (CM.cj ⟨_, _, _, h _ _ (hM _ _ hb), rfl⟩ L)
 refine wAe (vs := [_, _]) 19 _ Tryz.func140 rfl Tryz.ntmps140 rfl rfl ?_; intro W
 refine wAb (wAa (wAi rfl rfl (qLd rfl rfl rfl rfl (hbc _ (MLe.refl _))) ?_))
 refine wAi rfl rfl (wBe rfl rfl rfl) ?_
 refine ja rfl (by omega) ?_
 refine jp rfl (wAc (jT (wAh ?_)))
 refine wAo (α := Int × Mem × Lc) (fun x => [(0, .func (.yield l) #[] #[]), (1, .pointer (some ⟨b, 0, none⟩)), (3, .int .i64 x.1)]) (fun x => x.2.1) (fun x => x.2.2) (fun x => -1 ≤ x.1 ∧ x.1 < xs.length ∧ MLe M1 x.2.1 ∧ J (bw xs (x.1 + 1).toNat) x.2.1 x.2.2) (fun x => (x.1 + 1).toNat)
  ((xs.length : Int) - 1, M1, L0) (.cons (t := 0) rfl (.cons (t := 1) rfl (.cons (t := 3) rfl .nil))) ⟨by show -1 ≤ (xs.length : Int) - 1; omega, by show (xs.length : Int) - 1 < xs.length; omega, MLe.refl _, by show J (bw xs ((xs.length : Int) - 1 + 1).toNat) _ _; rw [show ((xs.length : Int) - 1 + 1).toNat = xs.length by omega, bw_len]; exact h0⟩ (fun _ h => h) ?_
 rintro ⟨i, Mk, Lk⟩ ⟨hk0, hk, hMk, hJk⟩
 try dsimp only at hk0 hk hMk hJk ⊢
 refine wAb (wAb (wAa (jp rfl (js rfl (fun hge => ?_) (fun hge => ?_)))))
 ·refine wAc (jT (wAg rfl (wAd (jT (wAb (wAh (wAb (wAa (jp rfl (jp rfl ?_))))))))))
  obtain ⟨k, rfl⟩ : ∃ k : Nat, i = k := ⟨i.toNat, by omega⟩
  have hk1 : k < xs.length := by omega
  refine wAi rfl rfl (qLd rfl rfl rfl rfl (hbc _ hMk)) ?_
  refine jp rfl (wAi rfl rfl (wBb rfl rfl rfl rfl (by omega)) ?_)
  refine wAi rfl rfl (qEq (qLd rfl rfl rfl rfl (((hx (((k : Nat) : Int).toNat * 1) (.int .u8 xs[k].toNat) (by simp [wAj, hk1])).mono (hM.trans hMk)).cj _)) (v' := .int .u8 xs[k].toNat) rfl) ?_
  refine wAv rfl rfl (hYield rfl rfl rfl rfl (hJ (bw xs (k + 1)) (xs[k], k) Mk Lk hMk (by rwa [show ((k : Int) + 1).toNat = k + 1 by omega] at hJk) (by rw [← bw_step xs hk1]; exact wKg xs k))) ?_; rintro _ M' _ ⟨hM', R', rfl, hy⟩
  rw [← bw_step xs hk1] at hy
  rcases hy with ⟨rfl, hy⟩ | ⟨rfl, hy⟩
  ·refine jp rfl (wAc (jT (wAk rfl (wAd (jB (jT (wAa (jp rfl (ja rfl (by omega) ?_)))))))))
   refine jp rfl (wAc ?_)
   refine wAn ((k : Int) - 1, M', R') (.cons (t := 0) rfl (.cons (t := 1) rfl (.cons (t := 3) rfl .nil))) ⟨by show -1 ≤ (k : Int) - 1; omega, by show (k : Int) - 1 < xs.length; omega, hMk.trans hM', by show J (bw xs ((k : Int) - 1 + 1).toNat) _ _; rw [show ((k : Int) - 1 + 1).toNat = k by omega]; exact hy⟩ (by show ((k : Int) - 1 + 1).toNat < ((k : Int) + 1).toNat; omega) (fun _ h => h.fewer (by simp))
  refine jp rfl (wAc (jT (wAg rfl (wAf (jBr (jTr (jTr (jBr (wAu (L' := R') (by simp) ?_)))))))))
  refine jrs (rs := []) rfl .nil ?_
  exact .inr ⟨_, wKg xs k, hy⟩
 refine wAc (jT (wAk rfl (wAs (jTx (jTx (jBx (jrn ?_)))))))
 refine jrs (rs := []) rfl .nil ?_
 obtain rfl : i = -1 := by omega
 exact .inl hJk
theorem bwb_iter (b sb so c : Nat) (xs : List (By)) (M : Mem) (hb : M b = some (.cells #[.slice (some ⟨sb, so, none⟩) xs.length c] 26 (0, 0))) (hx : ∀ i v, (wAj xs)[i]? = some v → CM M sb (so + i) v) (hn : xs.length ≤ 1000000) :
  Iter Tryz.prog 140 [.pointer (some ⟨b, 0, none⟩)] M (fun p : By × Nat => [.int .i64 p.2, .int .u8 p.1.toNat]) (bw xs 0) :=
 fun l J Jx M1 L0 hM hJ h0 => bwb_body b sb so c xs M hb hx hn  l J Jx M1 L0 hM hJ h0
def wHj (ys : List By) : Int := ys.foldl (fun n x => bOr .u32 (bShl .u32 n 8) (x.toNat : Int)) 0
def wGm (xs : List By) (at_ n : Nat) : Int := wHj ((xs.drop at_).take n).reverse
theorem wFp (ys : List By) (y : By) : wHj (ys ++ [y]) = bOr .u32 (bShl .u32 (wHj ys) 8) (y.toNat : Int) := by simp [wHj]
theorem bOr_u32 (a b : Int) : 0 ≤ bOr .u32 a b ∧ bOr .u32 a b < 4294967296 := by
 unfold bOr; rw [IntKind.wrap_u32]; omega
theorem getF_range (ys : List By) : 0 ≤ wHj ys ∧ wHj ys < 4294967296 := by
 rcases List.eq_nil_or_concat ys with rfl | ⟨zs, z, rfl⟩
 ·decide
 rw [List.concat_eq_append, wFp]; exact bOr_u32 _ _
theorem SM.sub {M : Mem} {b off : Nat} {xs : List By} (l k : Nat) (h : ∀ i v, (wAj xs)[i]? = some v → CM M b (off + i) v) : ∀ i v, (wAj ((xs.drop l).take k))[i]? = some v → CM M b (off + l * 1 + i) v := fun i v hv => by
 have := h (l + i) v (by
  simp only [wAj, List.getElem?_map, List.getElem?_take, List.getElem?_drop] at hv ⊢
  split at hv
  ·exact hv
  simp at hv)
 rwa [show off + l * 1 + i = off + (l + i) by omega]
theorem get_spec (sa : Option Addr) (c : Nat) (xs : List By) (a m : Nat) (M : Mem) (hs : SM M sa (wAj xs)) (hc : xs.length ≤ c) (h : a + m ≤ xs.length) (hm : 0 < m) (hn : xs.length ≤ 1000000) :
  SpecL Tryz.prog 123 #[.slice sa xs.length c, .int .i64 a, .int .i64 m] M [] fun v _ L' => v = .tuple #[.int .u32 (wGm xs a m), .int .i64 0] ∧ L' = [] := by
 obtain ⟨sb, so, e0, hx⟩ := hs.open (by intro e; have := congrArg List.length e; rw [wAm, List.length_nil] at this; omega)
 subst e0
 have hyl : ((xs.drop a).take m).length = m := by rw [List.length_take, List.length_drop]; omega
 refine wAe (vs := [_, _, _]) 35 _ Tryz.func123 rfl Tryz.ntmps123 rfl rfl ?_; intro W
 refine wAb (wAa (sAl rfl fun b6 => ?_))
 refine jp rfl (wAc (jT (wAb (wAb (wAa (jp rfl (jf rfl (decide_eq_false (by omega)) ?_)))))))
 refine jp rfl (jp rfl (jp rfl (wAi rfl rfl (wBe rfl rfl rfl) ?_)))
 refine jp rfl (ja rfl (by omega) ?_)
 refine jf rfl (decide_eq_false (by omega)) ?_
 refine jp rfl (wAc (jT (wAk rfl (wAd (jT (wAb (wAb (wAa (jp rfl (jp rfl (jp rfl (jp rfl (ja rfl (by omega) ?_)))))))))))))
 refine wAi rfl rfl (qEq (qSl rfl rfl rfl (.no _) (.of (v := a + m) rfl (by omega) (by omega)) (.of (v := a) rfl (by omega) (by omega)) (by omega) (by simp)) (v' := .slice (some ⟨sb, so + a * 1, none⟩) ((xs.drop a).take m).length (c - a)) (by rw [wBu (by omega), hyl, Nat.add_sub_cancel_left])) ?_
 refine wAv rfl rfl (wAt rfl rfl rfl rfl rfl (by kernel_rfl) (bwb _ _ _ M)) ?_; rintro _ M1 _ ⟨hM1, _, rfl, ⟨b26, rfl, e26, rfl⟩⟩
 refine wAc (jT (wAh ?_))
 refine jc_range (R := [(b6, .cells [.int .u32 0].toArray 29 (0, 0))]) (xs := bw ((xs.drop a).take m) 0) (enc := (fun p : By × Nat => [.int .i64 p.2, .int .u8 p.1.toNat])) (ps := [27, 28]) rfl (by kernel_rfl) (bwb_iter b26 sb (so + a * 1) _ ((xs.drop a).take m) M1 e26 (fun i v hv => (SM.sub a m hx i v hv).mono hM1) (by omega))
  (fun pre _ R => R = [(b6, .cells [.int .u32 (wHj (pre.map (·.1)))].toArray 29 (0, 0))])
  (fun _ _ _ _ => False)
  (fun _ => rfl) (by decide) rfl ?_ ?_ ?_
 ·intro l W2 pre y M2 R2 hM2 hI hpre
  subst hI
  refine wAa (jp rfl (wAc (jK fun W' => ?_)))
  refine wAh (wAa (sLd rfl ?_))
  refine wAi rfl rfl (wJw rfl rfl rfl rfl (by omega) rfl) ?_
  refine jp rfl ?_
  refine wAi rfl rfl (qConvK rfl rfl rfl (by rw [IntKind.wrap_u32]; have := y.1.toNat_lt; omega)) ?_
  refine wAi rfl rfl (wJx rfl rfl rfl rfl rfl) ?_
  refine sSt rfl ?_
  refine wAc (jB (jQn ?_))
  rw [List.map_append, List.map_cons, List.map_nil, wFp]; rfl
 ·intro d M2 R2 hM2 hI
  subst hI
  refine jB (jT (wAb (wAa (sLd rfl ?_))))
  refine sSt rfl ?_
  refine jp rfl (wAc (jT (wAf (jr_mark (L2 := _) (List.Perm.refl _) ?_))))
  refine wBr (rs := [_, _]) ([]) (by simp) rfl (.cons (.one rfl rfl rfl) (.cons (.tmp rfl) .nil)) ?_
  exact ⟨by rw [bw_fst]; rfl, rfl⟩
 intro _ _ _ _ _ _ _ h; exact h.elim
theorem wDo (sa : Option Addr) (c : Nat) (xs : List By) (a : Nat) (M : Mem) (hs : SM M sa (wAj xs)) (hc : xs.length ≤ c) (h : a + 4 ≤ xs.length) (hn : xs.length ≤ 1000000) :
  SpecL Tryz.prog 105 #[.slice sa xs.length c, .int .i64 a] M [] fun v _ _ => v = .tuple #[.int .u32 (wGm xs a 4), .int .i64 0] := by
 refine wAe (vs := [_, _]) 11 _ Tryz.func105 rfl Tryz.ntmps105 rfl rfl ?_; intro W
 refine wAb (wAa (jp rfl (jp rfl (wAc (jT (wAb (wAa (jp rfl (jp rfl (wAv rfl rfl (wAt rfl rfl rfl rfl rfl (by kernel_rfl) (get_spec sa c xs a 4 M hs hc h (by omega) hn)) ?_)))))))))); rintro _ _ _ ⟨_, _, rfl, ⟨rfl, rfl⟩⟩
 refine jp rfl (jp rfl (jp rfl (jp rfl (wAc (jT (wAf (jr2 rfl rfl rfl ?_)))))))
 rfl
theorem wGs (sa : Option Addr) (c : Nat) (xs : List By) (a : Nat) (M : Mem) (hs : SM M sa (wAj xs)) (hc : xs.length ≤ c) (h : a + 2 ≤ xs.length) (hn : xs.length ≤ 1000000) :
  SpecL Tryz.prog 104 #[.slice sa xs.length c, .int .i64 a] M [] fun v _ _ => v = .tuple #[.int .i64 (wGm xs a 2), .int .i64 0] := by
 refine wAe (vs := [_, _]) 17 _ Tryz.func104 rfl Tryz.ntmps104 rfl rfl ?_; intro W
 refine wAb (wAa (jp rfl (jp rfl (wAc (jT (wAb (wAa (jp rfl (jp rfl (wAv rfl rfl (wAt rfl rfl rfl rfl rfl (by kernel_rfl) (get_spec sa c xs a 2 M hs hc h (by omega) hn)) ?_)))))))))); rintro _ _ _ ⟨_, _, rfl, ⟨rfl, rfl⟩⟩
 have hgr := getF_range ((xs.drop a).take 2).reverse
 change 0 ≤ wGm xs a 2 ∧ wGm xs a 2 < 4294967296 at hgr
 refine jp rfl (jp rfl (jp rfl (jp rfl (jp rfl (wAc (jT (wAb (wAa (jp rfl (wAi rfl rfl (wCg rfl rfl rfl (by omega)) ?_))))))))))
 refine jp rfl (jp rfl (jp rfl (wAc (jT (wAf (jr2 rfl rfl rfl ?_))))))
 rfl
def fstep (s : Int) : Int := bXor .u32 (bShr .u32 s 1) (IntKind.u32.wrap (3988292384 * bAnd .u32 s 1))
def frep : Nat → Int → Int
 | 0, s => s
 | k + 1, s => fstep (frep k s)
def ftab (k : Nat) : List Int := (List.range k).map (fun i : Nat => frep 4 (i : Int)) ++ List.replicate (16 - k) 0
def wCv (xs : List Int) : List Value := xs.map (Value.int .u32)
theorem ftab_len {k : Nat} (h : k ≤ 16) : (ftab k).length = 16 := by simp [ftab]; omega
theorem ftab_step {k : Nat} (h : k < 16) (o : Nat) (ho : o = k) : (wCv (ftab k)).take o ++ [Value.int .u32 (frep 4 k)] ++ (wCv (ftab k)).drop (o + [Value.int .u32 (frep 4 k)].length) = wCv (ftab (k + 1)) := by
 subst ho
 have hr : ((List.range o).map (fun i : Nat => frep 4 (i : Int))).length = o := by simp
 have e1 : (ftab o).take o = (List.range o).map (fun i : Nat => frep 4 (i : Int)) := by unfold ftab; exact List.take_left' hr
 have e2 : (ftab o).drop (o + 1) = List.replicate (16 - (o + 1)) 0 := by
  unfold ftab
  rw [List.drop_append, List.drop_eq_nil_of_le (by omega), hr, List.nil_append, List.drop_replicate]
  congr 1; omega
 simp only [wCv, ← List.map_take, ← List.map_drop, List.length_singleton, e1, e2]
 unfold ftab
 rw [List.range_succ]
 simp
theorem fold_spec (M : Mem) :
  SpecL Tryz.prog 73 #[] M [] fun v _ _ => v = .agg (wCv (ftab 16)).toArray := by
 refine wAe (vs := []) 22 _ Tryz.func73 rfl Tryz.ntmps73 rfl rfl ?_; intro W
 refine wAb (wAa (sAl rfl fun b0 => ?_))
 refine wAc (jT (wAb (wAb (wAa (jp rfl (wAc (jT (wAh ?_))))))))
 refine wAo (α := Nat) (fun k => [(0, .pointer (some ⟨b0, 0, none⟩)), (3, .int .i64 k)]) (fun _ => M) (fun k => [(b0, .cells (wCv (ftab k)).toArray 97 (0, 0))]) (fun k => k ≤ 16) (fun k => 16 - k)
  0 (.cons (t := 0) rfl (.cons (t := 3) rfl .nil)) (by omega) (fun w h => by rw [show wCv (ftab 0) = List.replicate 16 (Value.int .u32 0) from rfl]; exact h) ?_
 rintro k hk
 try dsimp only at hk ⊢
 refine wAb (wAa (js rfl (fun h4 => ?_) (fun h4 => ?_)))
 ·refine wAc (jT (wAb (wAg rfl (wAd (jT (wAb (wAh (wAb (wAa (jp rfl (jp rfl (wAc (jT (wAb (wAa (jp rfl ?_))))))))))))))))
  refine wAi rfl rfl (qConvK rfl rfl rfl (by rw [IntKind.wrap_u32]; omega)) ?_
  refine jp rfl (wAc (jT (wAb (wAb (wAa (jp rfl (wAc (jT (wAh ?_)))))))))
  refine wAo (α := Nat) (fun j => [(0, .pointer (some ⟨b0, 0, none⟩)), (1, .int .i64 k), (2, .int .u32 (frep j k)), (3, .int .i64 k), (8, .int .i64 j)]) (fun _ => M) (fun _ => [(b0, .cells (wCv (ftab k)).toArray 97 (0, 0))]) (fun j => j ≤ 4) (fun j => 4 - j)
   0 (.cons (t := 0) rfl (.cons (t := 1) rfl (.cons (t := 2) rfl (.cons (t := 3) rfl (.cons (t := 8) rfl .nil))))) (by omega) (fun _ h => h) ?_
  rintro j hj
  try dsimp only at hj ⊢
  refine wAb (wAa (js rfl (fun h9 => ?_) (fun h9 => ?_)))
  ·refine wAc (jT (wAb (wAg rfl (wAd (jT (wAb (wAh (wAa (jp rfl (wAi rfl rfl (wJw rfl rfl rfl rfl (by omega) rfl) ?_))))))))))
   refine jp rfl (wAi rfl rfl (wJx rfl rfl rfl rfl rfl) ?_)
   refine wAi rfl rfl (qP rfl rfl) ?_
   refine wAi rfl rfl (wJx rfl rfl rfl rfl rfl) ?_
   refine jp rfl (wAc (jB (jT (wAa (ja rfl (by omega) ?_)))))
   refine jp rfl (wAc ?_)
   refine wAn (j + 1) (.cons (t := 0) rfl (.cons (t := 1) rfl (.cons (t := 2) rfl (.cons (t := 3) rfl (.cons (t := 8) rfl .nil))))) (by omega) (by omega) (fun _ h => h)
  refine wAc (jT (wAb (wAk rfl (wAs (jTx (jTx (jBx (jT (wAa (jp rfl (jp rfl (wAi rfl rfl (qIdxA rfl rfl rfl rfl (by omega)) ?_))))))))))))
  have hfl := ftab_len (k := k) (by omega)
  obtain rfl : j = 4 := by omega
  refine jl_s rfl (hStore rfl rfl rfl rfl rfl rfl (by simp [Value.oneCell']) (by simp only [wCv, List.length_map, List.length_cons, List.length_nil]; omega)) ?_; rintro _ _ _ ⟨rfl, rfl⟩
  rw [ftab_step (k := k) (by omega) _ (by omega)]
  refine wAc (jB (jT (wAa (ja rfl (by omega) ?_))))
  refine jp rfl (wAc ?_)
  refine wAn (k + 1) (.cons (t := 0) rfl (.cons (t := 3) rfl .nil)) (by omega) (by omega) (fun _ h => h)
 refine wAc (jT (wAb (wAk rfl (wAs (jTx (jTx (jBx (jT (wAb (wAa ?_))))))))))
 obtain rfl : k = 16 := by omega
 have hul : (wCv (ftab 16)).length = 16 := by rw [wCv, List.length_map, ftab_len (by omega)]
 refine wAi rfl rfl (wGp (cs := wCv (ftab 16)) rfl rfl rfl rfl hul (fun i v hv => CJ.loc (by simpa using hv))) ?_
 refine jl_s rfl (hStoreA rfl rfl rfl rfl hul (fun v hv => by obtain ⟨n, _, rfl⟩ := List.mem_map.1 hv; rfl) hul) ?_; rintro _ _ _ ⟨rfl, rfl⟩
 refine wAc (jT (wAf (wBr (rs := [_]) ([]) (by simp) rfl (.cons (.agg rfl rfl hul) .nil) ?_)))
 rfl
def ftabV : List Int := [0, 498536548, 997073096, 651767980, 1994146192, 1802195444, 1303535960, 1342533948, 3988292384, 4027552580, 3604390888, 3412177804, 2607071920, 2262029012, 2685067896, 3183342108]
theorem ftab_val : ftab 16 = ftabV := by decide +kernel
def tabAt (i : Int) : Int := ftabV.getD i.toNat 0
def ofNib (s : Int) : Int := bXor .u32 (bShr .u32 s 4) (tabAt (bAnd .u32 s 15))
def ofStep (s : Int) (x : By) : Int := ofNib (ofNib (bXor .u32 s (x.toNat : Int)))
def wGg (xs : List By) : Int := xs.foldl ofStep 4294967295
def wJe (xs : List By) : Int := bXor .u32 4294967295 (wGg xs)
theorem bAnd_15 (s : Int) : 0 ≤ bAnd .u32 s 15 ∧ bAnd .u32 s 15 < 16 := by
 unfold bAnd
 rw [IntKind.wrap_u32]
 have h : (BitVec.ofInt IntKind.u32.bits s &&& BitVec.ofInt IntKind.u32.bits 15).toNat ≤ 15 := by
  rw [BitVec.toNat_and]; exact Nat.and_le_right
 omega
theorem tab_get {i : Int} (h : 0 ≤ i ∧ i < 16) : (wCv (ftab 16))[0 + i.toNat * 1]? = some (.int .u32 (tabAt i)) := by
 rw [ftab_val, Nat.zero_add, Nat.mul_one]
 have : i.toNat < ftabV.length := by simp [ftabV]; omega
 simp [wCv, tabAt, List.getD, this]
theorem of_spec (sa : Option Addr) (c : Nat) (xs : List By) (M : Mem) (hs : SM M sa (wAj xs)) (hn : xs.length ≤ 1000000) :
  SpecL Tryz.prog 52 #[.slice sa xs.length c] M [] fun v _ _ => v = .int .u32 (wJe xs) := by
 have hul : (wCv (ftab 16)).length = 16 := by rw [wCv, List.length_map, ftab_len (by omega)]
 refine wAe (vs := [_]) 35 _ Tryz.func52 rfl Tryz.ntmps52 rfl rfl ?_; intro W
 refine wAb (wAa (jp rfl (wAc (jT (wAb (wAa (wAi rfl rfl (wAy rfl rfl rfl rfl rfl (by kernel_rfl) (fold_spec M)) ?_)))))))
 refine sAl rfl fun b3 => ?_
 refine jl_s rfl (hStoreA rfl rfl rfl rfl hul (fun v hv => by obtain ⟨n, _, rfl⟩ := List.mem_map.1 hv; rfl) (by rfl)) ?_; rintro _ _ _ ⟨rfl, rfl⟩
 refine wAc (jT (wAb (wAa (jp rfl (wAc (jT (wAb (wAb (wAa (jp rfl (wAi rfl rfl (wBe rfl rfl rfl) ?_)))))))))))
 refine jp rfl (wAc (jT (wAh ?_)))
 refine wAo (α := Nat) (fun k => [(3, .pointer (some ⟨b3, 0, none⟩)), (4, .int .u32 (wGg (xs.take k))), (8, .slice sa xs.length c), (9, .int .i64 xs.length), (10, .int .i64 k)]) (fun _ => M) (fun _ => [(b3, .cells (wCv (ftab 16)).toArray 97 (0, 0))]) (fun k => k ≤ xs.length) (fun k => xs.length - k)
  0 (.cons (t := 3) rfl (.cons (t := 4) rfl (.cons (t := 8) rfl (.cons (t := 9) rfl (.cons (t := 10) rfl .nil))))) (Nat.zero_le _) (fun _ h => h) ?_
 rintro k hk
 try dsimp only at hk ⊢
 refine wAb (wAa (js rfl (fun h11 => ?_) (fun h11 => ?_)))
 ·refine wAc (jT (wAb (wAg rfl (wAd (jT (wAb (wAh (wAb (wAa ?_)))))))))
  obtain ⟨b1, o1, e1, g1⟩ := hs.open (by intro e; have := congrArg List.length e; rw [wAm, List.length_nil] at this; omega)
  subst e1
  have hk1 : k < xs.length := by omega
  refine wAi rfl rfl (wBb rfl rfl rfl rfl (by omega)) ?_
  refine wAi rfl rfl (qLd rfl rfl rfl rfl ((g1 (((k : Nat) : Int).toNat * 1) (.int .u8 xs[k].toNat) (by simp [wAj, hk1])).cj _)) ?_
  refine jp rfl (wAc (jT (wAb (wAa (jp rfl (jp rfl ?_))))))
  refine wAi rfl rfl (qConvK rfl rfl rfl (by rw [IntKind.wrap_u32]; have := xs[k].toNat_lt; omega)) ?_
  refine wAi rfl rfl (wJx rfl rfl rfl rfl rfl) ?_
  refine jp rfl (wAc (jT (wAb (wAa (jp rfl (wAi rfl rfl (wJw rfl rfl rfl rfl (by omega) rfl) ?_))))))
  refine jp rfl (wAi rfl rfl (wJx rfl rfl rfl rfl rfl) ?_)
  refine wAi rfl rfl (qIdxA rfl rfl rfl rfl (bAnd_15 _)) ?_
  refine wAi rfl rfl (qLd rfl rfl rfl rfl (CJ.loc (tab_get (bAnd_15 _)))) ?_
  refine wAi rfl rfl (wJx rfl rfl rfl rfl rfl) ?_
  refine jp rfl (wAc (jT (wAa (jp rfl (wAi rfl rfl (wJw rfl rfl rfl rfl (by omega) rfl) ?_)))))
  refine jp rfl (wAi rfl rfl (wJx rfl rfl rfl rfl rfl) ?_)
  refine wAi rfl rfl (qIdxA rfl rfl rfl rfl (bAnd_15 _)) ?_
  refine wAi rfl rfl (qLd rfl rfl rfl rfl (CJ.loc (tab_get (bAnd_15 _)))) ?_
  refine wAi rfl rfl (wJx rfl rfl rfl rfl rfl) ?_
  refine jp rfl (wAc (jB (jT (wAa (ja rfl (by omega) ?_)))))
  refine jp rfl (wAc ?_)
  have hstep : wGg (xs.take (k + 1)) = ofStep (wGg (xs.take k)) xs[k] := by unfold wGg; rw [List.take_succ_eq_append_getElem hk1, List.foldl_append]; rfl
  refine wAn (k + 1) (.cons (t := 3) rfl (Keep.ceq (t := 4) rfl (by rw [hstep]; rfl) (.cons (t := 8) rfl (.cons (t := 9) rfl (.cons (t := 10) rfl .nil))))) (by omega) (by omega) (fun _ h => h)
 refine wAc (jT (wAb (wAk rfl (wAs (jTx (jTx (jBx (jT (wAb (wAa (jp rfl (wAi rfl rfl (qNotI rfl rfl rfl) ?_))))))))))))
 refine jp rfl (wAc (jT (wAf (jr1 rfl rfl ?_))))
 rw [show k = xs.length by omega, List.take_length]; rfl
def wEi (xs : List By) : Int := if xs.length ≠ 128 then 3 else if wGm xs 0 4 ≠ wJe (xs.drop 4) then 8 else 0
theorem open_len (v : Value) (xs : List By) (M : Mem) (hv : BS M v xs) (h : xs.length ≠ 128) :
  SpecL Tryz.prog 117 #[v] M [] fun u M' L' => ∃ s, u = .tuple #[s, .int .i64 (wEi xs)] ∧ (wEi xs = 0 → BS M' s (xs.drop 4)) ∧ L' = [] := by
 obtain ⟨sa, c, rfl, -, hs⟩ := hv
 have hE : wEi xs = 3 := if_pos h
 refine wAe (vs := [_]) 26 _ Tryz.func117 rfl Tryz.ntmps117 rfl rfl ?_; intro W
 refine wAb (wAa (jp rfl (jp rfl (wAc (jT (wAb (wAb (wAa (jp rfl (wAi rfl rfl (wBe rfl rfl rfl) ?_))))))))))
 refine jt rfl (decide_eq_true (by omega)) ?_
 refine wAc (jT (wAg rfl (wAb (wAa (jp rfl (jp rfl (wAc (jT (wAf (jTr (wAu (L' := []) (by simp) ?_)))))))))))
 refine jr2 rfl rfl rfl ?_
 exact ⟨_, by rw [hE], (fun e => by rw [hE] at e; cases e), rfl⟩
theorem open_bad (v : Value) (xs : List By) (M : Mem) (hv : BS M v xs) (h : xs.length = 128) (hb : wGm xs 0 4 ≠ wJe (xs.drop 4)) :
  SpecL Tryz.prog 117 #[v] M [] fun u M' L' => ∃ s, u = .tuple #[s, .int .i64 (wEi xs)] ∧ (wEi xs = 0 → BS M' s (xs.drop 4)) ∧ L' = [] := by
 obtain ⟨sa, c, rfl, hcc, hs⟩ := hv
 have hs4 : SM M (slA sa 4 c 1) (wAj (xs.drop 4)) := by have := hs.part (l := 4) (m := c) (s := 1) (by omega) 1000; rwa [show ((wAj xs).drop (4 * 1)).take 1000 = wAj (xs.drop 4) by rw [List.take_of_length_le (by rw [List.length_drop, wAm]; omega)]; simp [wAj, List.map_drop]] at this
 have hl4 : (xs.drop 4).length = 124 := by rw [List.length_drop]; omega
 have hE : wEi xs = 8 := by unfold wEi; rw [if_neg (by omega), if_pos hb]
 refine wAe (vs := [_]) 26 _ Tryz.func117 rfl Tryz.ntmps117 rfl rfl ?_; intro W
 refine wAb (wAa (jp rfl (jp rfl (wAc (jT (wAb (wAb (wAa (jp rfl (wAi rfl rfl (wBe rfl rfl rfl) ?_))))))))))
 refine jf rfl (decide_eq_false (by omega)) ?_
 refine wAc (jT (wAk rfl (wAd (jT (wAb (wAb (wAa (jp rfl (wAi rfl rfl (wAy rfl rfl rfl rfl rfl (by kernel_rfl) (wDo sa c xs 0 M hs hcc (by omega) (by omega))) ?_)))))))))
 refine jp rfl (jp rfl (jp rfl (jp rfl (jp rfl (wAc (jT (wAb (wAa (jp rfl (jf rfl (decide_eq_false (by omega)) ?_))))))))))
 refine jp rfl (jp rfl (jp rfl (wAi rfl rfl (qEq (qSl rfl rfl rfl (.no _) (.no _) (.of (v := 4) rfl (by omega) rfl) (by omega) (by simp)) (v' := .slice (slA sa 4 c 1) (xs.drop 4).length (c - 4)) (by rw [hl4, h])) ?_)))
 refine wAi rfl rfl (wAy rfl rfl rfl rfl rfl (by kernel_rfl) (of_spec _ _ (xs.drop 4) M hs4 (by omega))) ?_
 refine jt rfl (decide_eq_true (by omega)) ?_
 refine jp rfl (wAc (jT (wAg rfl (wAb (wAa (jp rfl (jp rfl (wAc (jT (wAf (jTr (wAu (L' := []) (by simp) ?_))))))))))))
 refine jr2 rfl rfl rfl ?_
 exact ⟨_, by rw [hE], (fun e => by rw [hE] at e; cases e), rfl⟩
theorem open_ok (v : Value) (xs : List By) (M : Mem) (hv : BS M v xs) (h : xs.length = 128) (hb : wGm xs 0 4 = wJe (xs.drop 4)) :
  SpecL Tryz.prog 117 #[v] M [] fun u M' L' => ∃ s, u = .tuple #[s, .int .i64 (wEi xs)] ∧ (wEi xs = 0 → BS M' s (xs.drop 4)) ∧ L' = [] := by
 obtain ⟨sa, c, rfl, hcc, hs⟩ := hv
 have hs4 : SM M (slA sa 4 c 1) (wAj (xs.drop 4)) := by have := hs.part (l := 4) (m := c) (s := 1) (by omega) 1000; rwa [show ((wAj xs).drop (4 * 1)).take 1000 = wAj (xs.drop 4) by rw [List.take_of_length_le (by rw [List.length_drop, wAm]; omega)]; simp [wAj, List.map_drop]] at this
 have hl4 : (xs.drop 4).length = 124 := by rw [List.length_drop]; omega
 have hE : wEi xs = 0 := by unfold wEi; rw [if_neg (by omega), if_neg (by omega)]
 refine wAe (vs := [_]) 26 _ Tryz.func117 rfl Tryz.ntmps117 rfl rfl ?_; intro W
 refine wAb (wAa (jp rfl (jp rfl (wAc (jT (wAb (wAb (wAa (jp rfl (wAi rfl rfl (wBe rfl rfl rfl) ?_))))))))))
 refine jf rfl (decide_eq_false (by omega)) ?_
 refine wAc (jT (wAk rfl (wAd (jT (wAb (wAb (wAa (jp rfl (wAi rfl rfl (wAy rfl rfl rfl rfl rfl (by kernel_rfl) (wDo sa c xs 0 M hs hcc (by omega) (by omega))) ?_)))))))))
 refine jp rfl (jp rfl (jp rfl (jp rfl (jp rfl (wAc (jT (wAb (wAa (jp rfl (jf rfl (decide_eq_false (by omega)) ?_))))))))))
 refine jp rfl (jp rfl (jp rfl (wAi rfl rfl (qEq (qSl rfl rfl rfl (.no _) (.no _) (.of (v := 4) rfl (by omega) rfl) (by omega) (by simp)) (v' := .slice (slA sa 4 c 1) (xs.drop 4).length (c - 4)) (by rw [hl4, h])) ?_)))
 refine wAi rfl rfl (wAy rfl rfl rfl rfl rfl (by kernel_rfl) (of_spec _ _ (xs.drop 4) M hs4 (by omega))) ?_
 refine jf rfl (decide_eq_false (by omega)) ?_
 refine jp rfl (wAc (jT (wAk rfl (wAd (jT (wAb (wAa (jp rfl (wAi rfl rfl (qEq (qSl rfl rfl rfl (.no _) (.no _) (.of (v := 4) rfl (by omega) rfl) (by omega) (by simp)) (v' := .slice (slA sa 4 c 1) (xs.drop 4).length (c - 4)) (by rw [hl4, h])) ?_)))))))))
 refine wAv rfl rfl (wAt rfl rfl rfl rfl rfl (by kernel_rfl) (sclone_spec _ (xs.drop 4) M ⟨_, _, rfl, by omega, hs4⟩ (by omega))) ?_; rintro _ M1 _ ⟨hM1, _, rfl, hown⟩
 refine wDw hown (by simp) ?_
 intro M2 a1 c1 hM2 e1 hc1 hs1; subst e1
 refine jp rfl (jp rfl (wAc (jT (wAf (wAu (L' := []) (by simp) ?_)))))
 refine jr2 rfl rfl rfl ?_
 exact ⟨_, by rw [hE], fun _ => ⟨a1, c1, rfl, hc1, hs1⟩, rfl⟩
theorem wJy (v : Value) (xs : List By) (M : Mem) (hv : BS M v xs) : SpecL Tryz.prog 117 #[v] M [] fun u M' L' => ∃ s, u = .tuple #[s, .int .i64 (wEi xs)] ∧ (wEi xs = 0 → BS M' s (xs.drop 4)) ∧ L' = [] := by
 by_cases h : xs.length = 128
 ·by_cases hb : wGm xs 0 4 = wJe (xs.drop 4)
  ·exact open_ok v xs M hv h hb
  exact open_bad v xs M hv h hb
 exact open_len v xs M hv h
def rdS (xs : List By) : Nat := 12 + (xs.getD 11 0).toNat
def rdX (xs : List By) : It := ⟨⟨((xs.getD 0 0).toNat : Int), wGm xs 1 4, wGm xs 5 4⟩, wGm xs 9 2, (xs.drop 12).take (rdS xs - 12)⟩
def rdE (xs : List By) : Int := if xs.length < 12 then 8 else if xs.length < rdS xs then 8 else wFt (rdX xs)
def zeroIt : List Value := [.int .u8 0, .int .u32 0, .int .u32 0, .int .i64 0, .slice none 0 0]
theorem wKh {xs : List By} {j : Nat} (h : j < xs.length) : (wAj xs)[j]? = some (.int .u8 ((xs.getD j 0).toNat : Int)) := by simp [wAj, List.getD, h]
theorem rdX_len {xs : List By} (h : rdS xs ≤ xs.length) : (rdX xs).val.length = rdS xs - 12 := by
 simp only [rdX, List.length_take, List.length_drop]; unfold rdS at h ⊢; omega
theorem iread_len (sa : Option Addr) (c : Nat) (xs : List By) (M : Mem) (hc : xs.length ≤ c) (hs : SM M sa (wAj xs)) (hn : xs.length ≤ 100000) (h : xs.length < 12) :
  SpecL Tryz.prog 118 #[.slice sa xs.length c] M [] fun v _ L' => v = .tuple #[.agg zeroIt.toArray, .int .i64 0, .int .i64 (8)] ∧ L' = [] := by
 refine wAe (vs := [_]) 59 _ Tryz.func118 rfl Tryz.ntmps118 rfl rfl ?_; intro W
 refine wAb (wAa (sAl rfl fun b2 => ?_))
 refine jp rfl (jp rfl (wAc (jT (wAb (wAb (wAa (jp rfl (wAi rfl rfl (wBe rfl rfl rfl) ?_))))))))
 refine jt rfl (decide_eq_true (by omega)) ?_
 refine wAc (jT (wAg rfl (wAb (wAa (wAi rfl rfl (wAq (cs := [_, _, _, _, _]) rfl rfl rfl (by rfl)) ?_)))))
 refine sSt rfl ?_
 refine jp rfl (jp rfl (wAc (jT (wAf (jTr (wBr (rs := [_, _, _]) ([]) (by simp) rfl (.cons (.agg rfl rfl rfl) (.cons (.tmp rfl) (.cons (.tmp rfl) .nil))) ?_))))))
 exact ⟨rfl, rfl⟩
theorem iread_size (sa : Option Addr) (c : Nat) (xs : List By) (M : Mem) (hc : xs.length ≤ c) (hs : SM M sa (wAj xs)) (hn : xs.length ≤ 100000) (h : ¬ xs.length < 12) (h2 : xs.length < rdS xs) :
  SpecL Tryz.prog 118 #[.slice sa xs.length c] M [] fun v _ L' => v = .tuple #[.agg zeroIt.toArray, .int .i64 0, .int .i64 (8)] ∧ L' = [] := by
 obtain ⟨sb, so, e0, hx⟩ := hs.open (by intro e; have := congrArg List.length e; rw [wAm, List.length_nil] at this; omega)
 subst e0
 have hbl := (xs.getD 11 0).toNat_lt
 have hS : rdS xs = 12 + (xs.getD 11 0).toNat := rfl
 refine wAe (vs := [_]) 59 _ Tryz.func118 rfl Tryz.ntmps118 rfl rfl ?_; intro W
 refine wAb (wAa (sAl rfl fun b2 => ?_))
 refine jp rfl (jp rfl (wAc (jT (wAb (wAb (wAa (jp rfl (wAi rfl rfl (wBe rfl rfl rfl) ?_))))))))
 refine jf rfl (decide_eq_false (by omega)) ?_
 refine wAc (jT (wAk rfl (wAd (jT (wAb (wAb (wAa (jp rfl (wAi rfl rfl (wBb rfl rfl rfl rfl (by omega)) ?_)))))))))
 refine wAi rfl rfl (qLd rfl rfl rfl rfl ((hx ((11 : Int).toNat * 1) _ (wKh (j := 11) (by omega))).cj _)) ?_
 refine wAi rfl rfl (wCg rfl rfl rfl (by omega)) ?_
 refine ja rfl (by omega) ?_
 refine jp rfl (wAc (jT (wAb (wAa (jp rfl (jp rfl (wAi rfl rfl (wBe rfl rfl rfl) ?_)))))))
 refine jt rfl (decide_eq_true (by omega)) ?_
 refine wAc (jT (wAg rfl (wAb (wAa (wAi rfl rfl (wAq (cs := [_, _, _, _, _]) rfl rfl rfl (by rfl)) ?_)))))
 refine sSt rfl ?_
 refine jp rfl (jp rfl (wAc (jT (wAf (jTr (wBr (rs := [_, _, _]) ([]) (by simp) rfl (.cons (.agg rfl rfl rfl) (.cons (.tmp rfl) (.cons (.tmp rfl) .nil))) ?_))))))
 exact ⟨rfl, rfl⟩
theorem iread_chk (sa : Option Addr) (c : Nat) (xs : List By) (M : Mem) (hc : xs.length ≤ c) (hs : SM M sa (wAj xs)) (hn : xs.length ≤ 100000) (h : ¬ xs.length < 12) (h2 : ¬ xs.length < rdS xs) (h3 : wFt (rdX xs) ≠ 0) :
  SpecL Tryz.prog 118 #[.slice sa xs.length c] M [] fun v _ L' => v = .tuple #[.agg zeroIt.toArray, .int .i64 0, .int .i64 (wFt (rdX xs))] ∧ L' = [] := by
 obtain ⟨sb, so, e0, hx⟩ := hs.open (by intro e; have := congrArg List.length e; rw [wAm, List.length_nil] at this; omega)
 subst e0
 have hbl := (xs.getD 11 0).toNat_lt
 have hS : rdS xs = 12 + (xs.getD 11 0).toNat := rfl
 have hvl := rdX_len (xs := xs) (by omega)
 have hsv : SM M (slA (some ⟨sb, so, none⟩) 12 (rdS xs) 1) (wAj (rdX xs).val) := by
   by_cases hz : rdS xs = 12
   ·left; have : (rdX xs).val = [] := List.eq_nil_of_length_eq_zero (by omega); rw [this]; rfl
   rw [wBu (by omega)]; exact .inr ⟨sb, _, rfl, SM.sub 12 (rdS xs - 12) hx⟩
 have hbs : BS M (.slice (slA (some ⟨sb, so, none⟩) 12 (rdS xs) 1) (rdX xs).val.length (rdS xs - 12)) (rdX xs).val := ⟨_, _, rfl, by omega, hsv⟩
 refine wAe (vs := [_]) 59 _ Tryz.func118 rfl Tryz.ntmps118 rfl rfl ?_; intro W
 refine wAb (wAa (sAl rfl fun b2 => ?_))
 refine jp rfl (jp rfl (wAc (jT (wAb (wAb (wAa (jp rfl (wAi rfl rfl (wBe rfl rfl rfl) ?_))))))))
 refine jf rfl (decide_eq_false (by omega)) ?_
 refine wAc (jT (wAk rfl (wAd (jT (wAb (wAb (wAa (jp rfl (wAi rfl rfl (wBb rfl rfl rfl rfl (by omega)) ?_)))))))))
 refine wAi rfl rfl (qLd rfl rfl rfl rfl ((hx ((11 : Int).toNat * 1) _ (wKh (j := 11) (by omega))).cj _)) ?_
 refine wAi rfl rfl (wCg rfl rfl rfl (by omega)) ?_
 refine ja rfl (by omega) ?_
 refine jp rfl (wAc (jT (wAb (wAa (jp rfl (jp rfl (wAi rfl rfl (wBe rfl rfl rfl) ?_)))))))
 refine jf rfl (decide_eq_false (by omega)) ?_
 refine wAc (jT (wAk rfl (wAd (jT (wAb (wAa (jp rfl (wAi rfl rfl (wBb rfl rfl rfl rfl (by omega)) ?_))))))))
 refine wAi rfl rfl (qLd rfl rfl rfl rfl ((hx ((0 : Int).toNat * 1) _ (wKh (j := 0) (by omega))).cj _)) ?_
 refine sFF rfl rfl ?_
 refine sSt rfl ?_
 refine wAc (jT (wAb (wAa (jp rfl (wAi rfl rfl (wAy rfl rfl rfl rfl rfl (by kernel_rfl) (wDo _ c xs 1 M hs hc (by omega) (by omega))) ?_)))))
 refine jp rfl (jp rfl (jp rfl (sFF rfl rfl ?_)))
 refine sSt rfl ?_
 refine wAc (jT (wAb (wAa (jp rfl (wAi rfl rfl (wAy rfl rfl rfl rfl rfl (by kernel_rfl) (wDo _ c xs 5 M hs hc (by omega) (by omega))) ?_)))))
 refine jp rfl (jp rfl (jp rfl (sFF rfl rfl ?_)))
 refine sSt rfl ?_
 refine wAc (jT (wAb (wAa (jp rfl (wAi rfl rfl (wAy rfl rfl rfl rfl rfl (by kernel_rfl) (wGs _ c xs 9 M hs hc (by omega) (by omega))) ?_)))))
 refine jp rfl (jp rfl (jp rfl (sFa rfl ?_)))
 refine sSt rfl ?_
 refine wAc (jT (wAb (wAa (jp rfl (jp rfl (jp rfl (wAi rfl rfl (qEq (qSl rfl rfl rfl (.of (v := rdS xs) rfl (by omega) (by omega)) (.of (v := rdS xs) rfl (by omega) (by omega)) (.of (v := 12) rfl (by omega) rfl) (by omega) (by simp)) (v' := .slice (slA (some ⟨sb, so, none⟩) 12 (rdS xs) 1) (rdX xs).val.length (rdS xs - 12)) (by rw [hvl])) ?_)))))))
 refine sFa rfl ?_
 refine sSt rfl ?_
 refine wAc (jT (wAb (wAb (wAa (sLL rfl ?_)))))
 refine wAi rfl rfl (wAy rfl rfl rfl rfl rfl (by kernel_rfl) (wFv (rdX xs) _ M hbs)) ?_
 refine jp rfl (wAc (jT (wAb (wAa (jp rfl (jt rfl (decide_eq_true (by omega)) ?_))))))
 refine wAc (jT (wAg rfl (wAb (wAa (wAi rfl rfl (wAq (cs := [_, _, _, _, _]) rfl rfl rfl (by rfl)) ?_)))))
 refine jp rfl (sSt rfl ?_)
 refine jp rfl (jp rfl (wAc (jT (wAf (jTr (wBr (rs := [_, _, _]) ([]) (by simp) rfl (.cons (.agg rfl rfl rfl) (.cons (.tmp rfl) (.cons (.tmp rfl) .nil))) ?_))))))
 exact ⟨rfl, rfl⟩
theorem iread_ok (sa : Option Addr) (c : Nat) (xs : List By) (M : Mem) (hc : xs.length ≤ c) (hs : SM M sa (wAj xs)) (hn : xs.length ≤ 100000) (h : ¬ xs.length < 12) (h2 : ¬ xs.length < rdS xs) (h3 : wFt (rdX xs) = 0) :
  SpecL Tryz.prog 118 #[.slice sa xs.length c] M [] fun v M' L' => ∃ cs, v = .tuple #[.agg cs.toArray, .int .i64 (rdS xs), .int .i64 0] ∧ IR (wDm M M') cs (rdX xs) ∧ L' = [] := by
 obtain ⟨sb, so, e0, hx⟩ := hs.open (by intro e; have := congrArg List.length e; rw [wAm, List.length_nil] at this; omega)
 subst e0
 have hbl := (xs.getD 11 0).toNat_lt
 have hS : rdS xs = 12 + (xs.getD 11 0).toNat := rfl
 have hvl := rdX_len (xs := xs) (by omega)
 have hsv : SM M (slA (some ⟨sb, so, none⟩) 12 (rdS xs) 1) (wAj (rdX xs).val) := by
   by_cases hz : rdS xs = 12
   ·left; have : (rdX xs).val = [] := List.eq_nil_of_length_eq_zero (by omega); rw [this]; rfl
   rw [wBu (by omega)]; exact .inr ⟨sb, _, rfl, SM.sub 12 (rdS xs - 12) hx⟩
 have hbs : BS M (.slice (slA (some ⟨sb, so, none⟩) 12 (rdS xs) 1) (rdX xs).val.length (rdS xs - 12)) (rdX xs).val := ⟨_, _, rfl, by omega, hsv⟩
 refine wAe (vs := [_]) 59 _ Tryz.func118 rfl Tryz.ntmps118 rfl rfl ?_; intro W
 refine wAb (wAa (sAl rfl fun b2 => ?_))
 refine jp rfl (jp rfl (wAc (jT (wAb (wAb (wAa (jp rfl (wAi rfl rfl (wBe rfl rfl rfl) ?_))))))))
 refine jf rfl (decide_eq_false (by omega)) ?_
 refine wAc (jT (wAk rfl (wAd (jT (wAb (wAb (wAa (jp rfl (wAi rfl rfl (wBb rfl rfl rfl rfl (by omega)) ?_)))))))))
 refine wAi rfl rfl (qLd rfl rfl rfl rfl ((hx ((11 : Int).toNat * 1) _ (wKh (j := 11) (by omega))).cj _)) ?_
 refine wAi rfl rfl (wCg rfl rfl rfl (by omega)) ?_
 refine ja rfl (by omega) ?_
 refine jp rfl (wAc (jT (wAb (wAa (jp rfl (jp rfl (wAi rfl rfl (wBe rfl rfl rfl) ?_)))))))
 refine jf rfl (decide_eq_false (by omega)) ?_
 refine wAc (jT (wAk rfl (wAd (jT (wAb (wAa (jp rfl (wAi rfl rfl (wBb rfl rfl rfl rfl (by omega)) ?_))))))))
 refine wAi rfl rfl (qLd rfl rfl rfl rfl ((hx ((0 : Int).toNat * 1) _ (wKh (j := 0) (by omega))).cj _)) ?_
 refine sFF rfl rfl ?_
 refine sSt rfl ?_
 refine wAc (jT (wAb (wAa (jp rfl (wAi rfl rfl (wAy rfl rfl rfl rfl rfl (by kernel_rfl) (wDo _ c xs 1 M hs hc (by omega) (by omega))) ?_)))))
 refine jp rfl (jp rfl (jp rfl (sFF rfl rfl ?_)))
 refine sSt rfl ?_
 refine wAc (jT (wAb (wAa (jp rfl (wAi rfl rfl (wAy rfl rfl rfl rfl rfl (by kernel_rfl) (wDo _ c xs 5 M hs hc (by omega) (by omega))) ?_)))))
 refine jp rfl (jp rfl (jp rfl (sFF rfl rfl ?_)))
 refine sSt rfl ?_
 refine wAc (jT (wAb (wAa (jp rfl (wAi rfl rfl (wAy rfl rfl rfl rfl rfl (by kernel_rfl) (wGs _ c xs 9 M hs hc (by omega) (by omega))) ?_)))))
 refine jp rfl (jp rfl (jp rfl (sFa rfl ?_)))
 refine sSt rfl ?_
 refine wAc (jT (wAb (wAa (jp rfl (jp rfl (jp rfl (wAi rfl rfl (qEq (qSl rfl rfl rfl (.of (v := rdS xs) rfl (by omega) (by omega)) (.of (v := rdS xs) rfl (by omega) (by omega)) (.of (v := 12) rfl (by omega) rfl) (by omega) (by simp)) (v' := .slice (slA (some ⟨sb, so, none⟩) 12 (rdS xs) 1) (rdX xs).val.length (rdS xs - 12)) (by rw [hvl])) ?_)))))))
 refine sFa rfl ?_
 refine sSt rfl ?_
 refine wAc (jT (wAb (wAb (wAa (sLL rfl ?_)))))
 refine wAi rfl rfl (wAy rfl rfl rfl rfl rfl (by kernel_rfl) (wFv (rdX xs) _ M hbs)) ?_
 refine jp rfl (wAc (jT (wAb (wAa (jp rfl (jf rfl (decide_eq_false (by omega)) ?_))))))
 refine wAc (jT (wAk rfl (wAd (jT (wAb (wAa (sLL rfl ?_)))))))
 refine wAv rfl rfl (wAt rfl rfl rfl rfl rfl (by kernel_rfl) (twin_spec (rdX xs) _ M hbs (by omega))) ?_; rintro _ M1 _ ⟨hM1, _, rfl, ⟨cs, rfl, hir, rfl⟩⟩
 obtain ⟨s1, rfl, a1, c1, rfl, hc1, hs1⟩ := hir
 refine jp rfl (sSt rfl ?_)
 refine jp rfl (jp rfl (wAc (jT (wAf (wBr (rs := [_, _, _]) ([]) (by simp) rfl (.cons (.agg rfl rfl rfl) (.cons (.tmp rfl) (.cons (.tmp rfl) .nil))) ?_)))))
 exact ⟨_, rfl, ⟨_, rfl, a1, c1, rfl, hc1, hs1⟩, rfl⟩
def mxB (xs : List By) : Int := (xs.drop 1).foldl (fun m x => max m (x.toNat : Int)) ((xs.getD 0 0).toNat : Int)
def mxK (xs : List By) (k : Nat) : Int := ((xs.drop 1).take k).foldl (fun m x => max m (x.toNat : Int)) ((xs.getD 0 0).toNat : Int)
theorem mxK_step {xs : List By} {k : Nat} (h : k + 1 < xs.length) : mxK xs (k + 1) = max (mxK xs k) (xs[k + 1].toNat : Int) := by
 unfold mxK
 rw [List.take_succ_eq_append_getElem (by rw [List.length_drop]; omega), List.foldl_append]
 simp [Nat.add_comm]
theorem mx_le (ys : List By) : ∀ m : Int, m ≤ ys.foldl (fun m x => max m (x.toNat : Int)) m ∧ ∀ y ∈ ys, (y.toNat : Int) ≤ ys.foldl (fun m x => max m (x.toNat : Int)) m := by
 induction ys with
 | nil => intro m; simp
 | cons y ys ih =>
  intro m
  have := ih (max m (y.toNat : Int))
  refine ⟨by simp only [List.foldl_cons]; omega, fun z hz => ?_⟩
  rcases List.mem_cons.1 hz with rfl | hz
  ·simp only [List.foldl_cons]; omega
  simp only [List.foldl_cons]; exact this.2 z hz
theorem mx_zero (ys : List By) (h : ∀ y ∈ ys, y = 0) : ys.foldl (fun m x => max m (x.toNat : Int)) 0 = 0 := by
 induction ys with
 | nil => rfl
 | cons y ys ih => rw [List.foldl_cons, h y (by simp)]; exact ih (fun z hz => h z (by simp [hz]))
def wDk (xs : List By) : Bool := xs.all (· == 0)
theorem mxB_pos {xs : List By} (h : 0 < xs.length) : decide (0 < mxB xs) = !wDk xs := by
 obtain ⟨x, ys, rfl⟩ := List.exists_cons_of_length_pos h
 by_cases hz : ∀ y ∈ x :: ys, y = 0
 ·have h1 : wDk (x :: ys) = true := by unfold wDk; rw [List.all_eq_true]; intro y hy; simp [hz y hy]
  have h2 : mxB (x :: ys) = 0 := by
   unfold mxB; simp only [List.drop_succ_cons, List.drop_zero, List.getD_cons_zero, hz x (by simp)]
   exact mx_zero ys (fun y hy => hz y (by simp [hy]))
  rw [h1, h2]; rfl
 have h1 : wDk (x :: ys) = false := by
  rw [Bool.eq_false_iff]; intro e; apply hz; intro y hy
  have := List.all_eq_true.1 e y hy; simpa using this
 have h2 : 0 < mxB (x :: ys) := by
  have hle := mx_le ys ((x.toNat : Int))
  unfold mxB; simp only [List.drop_succ_cons, List.drop_zero, List.getD_cons_zero]
  obtain ⟨y, hy0⟩ := Classical.not_forall.1 hz
  obtain ⟨hy, hne⟩ := Classical.not_imp.1 hy0
  have hp : 0 < (y.toNat : Int) := by
   have : y.toNat ≠ 0 := fun e => hne (UInt8.toNat_inj.1 e)
   omega
  rcases List.mem_cons.1 hy with rfl | hy
  ·omega
  have := hle.2 y hy; omega
 rw [h1]; simp [h2]
theorem max_spec (sa : Option Addr) (c : Nat) (xs : List By) (M : Mem) (hs : SM M sa (wAj xs)) (hn : xs.length ≤ 1000000) (h0 : 0 < xs.length) :
  SpecL Tryz.prog 70 #[.slice sa xs.length c] M [] fun v _ _ => v = .int .u8 (mxB xs) := by
 obtain ⟨sb, so, e0, hx⟩ := hs.open (by intro e; have := congrArg List.length e; rw [wAm, List.length_nil] at this; omega)
 subst e0
 refine wAe (vs := [_]) 25 _ Tryz.func70 rfl Tryz.ntmps70 rfl rfl ?_; intro W
 refine wAb (wAa (jp rfl (wAc (jT (wAb (wAb (wAa (jp rfl (wAi rfl rfl (wBe rfl rfl rfl) ?_)))))))))
 refine jf rfl (decide_eq_false (by omega)) ?_
 refine wAc (jT (wAk rfl (wAd (jT (wAb (wAa (jp rfl (wAi rfl rfl (wBb rfl rfl rfl rfl (by omega)) ?_))))))))
 refine wAi rfl rfl (qLd rfl rfl rfl rfl ((hx ((0 : Int).toNat * 1) _ (wKh (j := 0) (by omega))).cj _)) ?_
 refine jp rfl (wAc (jT (wAb (wAb (wAa (jp rfl (wAc (jT (wAh ?_)))))))))
 refine wAo (α := Nat) (fun k => [(0, .slice (some ⟨sb, so, none⟩) xs.length c), (3, .int .u8 (mxK xs k)), (4, .int .i64 ((k + 1 : Nat) : Int))]) (fun _ => M) (fun _ => []) (fun k => k + 1 ≤ xs.length) (fun k => xs.length - k)
  0 (.cons (t := 0) rfl (.cons (t := 3) rfl (.cons (t := 4) rfl .nil))) (by omega) (fun _ h => h) ?_
 rintro k hk
 try dsimp only at hk ⊢
 refine wAb (wAb (wAa (jp rfl (jp rfl (wAi rfl rfl (wBe rfl rfl rfl) ?_)))))
 refine js rfl (fun h15 => ?_) (fun h15 => ?_)
 ·refine wAc (jT (wAg rfl (wAd (jT (wAb (wAh (wAa (jp rfl (jp rfl (jp rfl ?_))))))))))
  have hk1 : k + 1 < xs.length := by omega
  refine wAi rfl rfl (wBb rfl rfl rfl rfl (by omega)) ?_
  refine wAi rfl rfl (qLd rfl rfl rfl rfl ((hx ((((k + 1 : Nat) : Int)).toNat * 1) (.int .u8 xs[k + 1].toNat) (by simp [wAj, hk1])).cj _)) ?_
  refine wAi rfl rfl (qMax rfl rfl rfl rfl) ?_
  refine jp rfl (wAc (jB (jT (wAa (jp rfl (ja rfl (by omega) ?_))))))
  refine jp rfl (wAc ?_)
  refine wAn (k + 1) (.cons (t := 0) rfl (Keep.ceq (t := 3) rfl (by rw [mxK_step hk1]) (.cons (t := 4) rfl .nil))) (by omega) (by omega) (fun _ h => h)
 refine wAc (jT (wAk rfl (wAs (jTx (jTx (jBx (jT (wAb (wAa (jp rfl (jp rfl (wAc (jT (wAf (jr1 rfl rfl ?_)))))))))))))))
 show Value.int _ (mxK xs k) = _
 unfold mxK mxB; rw [List.take_of_length_le (by rw [List.length_drop]; omega)]
def wCp (p : It × Value) : List Value := [.int .u8 p.1.key.kind, .int .u32 p.1.key.id, .int .u32 p.1.key.off, .int .i64 p.1.ref, p.2]
theorem wCw (p : It × Value) : (wCp p).length = 5 := rfl
def NS (M : Mem) (v : Value) (xs : List It) : Prop := ∃ a c, ∃ ps : List (It × Value), v = .slice a xs.length c ∧ xs.length ≤ c ∧ SM M a (ps.flatMap wCp) ∧ ps.map (·.1) = xs ∧ ∀ p ∈ ps, BS M p.2 p.1.val
theorem NS.mono {M M' : Mem} {v : Value} {xs : List It} (h : NS M v xs) (hM : MLe M M') : NS M' v xs := by
 obtain ⟨a, c, ps, h1, h2, h3, h4, h5⟩ := h; exact ⟨a, c, ps, h1, h2, h3.mono hM, h4, fun p hp => (h5 p hp).mono hM⟩
theorem NS.nil {M : Mem} : NS M (.slice none 0 0) [] := ⟨none, 0, [], rfl, Nat.le_refl _, SM.nil, rfl, fun _ h => by cases h⟩
def wCd (above : Bool) : Option Ky → List It → Bool
 | _, [] => true
 | p, x :: xs => !wDq x && (match p with | none => true | some q => wCt q x.key) && (!above || (x.ref != 0 && x.val.length == 0)) && wCd above (some x.key) xs
def ndOk (lv : Int) (xs : List It) : Bool := decide (0 ≤ lv ∧ lv < 6 ∧ xs.length ≤ 5 ∧ (0 < lv → xs.length ≠ 0)) && wCd (decide (0 < lv)) none xs
def wFg (lv : Int) (xs : List It) : Int := if ndOk lv xs then 0 else 8
def wFb (xs : List It) (k : Nat) : Option Ky := match k with | 0 => none | j + 1 => (xs[j]?).map (·.key)
theorem itChk_cases (x : It) : (wDq x = true ∧ wFt x = 8) ∨ (wDq x = false ∧ wFt x = 0) := by
 unfold wFt; cases wDq x <;> simp
theorem ncheck_head (lv : Int) (xs : List It) (a : Option Addr) (c : Nat) (ps : List (It × Value)) (M : Mem) (hc : xs.length ≤ c) (hs : SM M a (ps.flatMap wCp)) (hp : ps.map (·.1) = xs) (hb : ∀ p ∈ ps, BS M p.2 p.1.val) (h : ¬ (0 ≤ lv ∧ lv < 6 ∧ xs.length ≤ 5 ∧ (0 < lv → xs.length ≠ 0))) :
  SpecL Tryz.prog 119 #[.agg #[.int .i64 lv, .slice a xs.length c]] M [] fun v _ _ => v = .int .i64 (wFg lv xs) := by
 refine wAe (vs := [_]) 76 _ Tryz.func119 rfl Tryz.ntmps119 rfl rfl ?_; intro W
 refine wAb (wAa (wAv rfl rfl (wBw (cs := [_, _]) rfl rfl rfl rfl) ?_)); rintro _ _ _ ⟨b1, rfl, rfl, rfl⟩
 refine jp rfl (wAc (jT (wAb (wAa (sFL rfl rfl ?_)))))
 refine js rfl (fun h9 => ?_) (fun h9 => ?_)
 ·refine jp rfl (wAc (jT (wAb (wAb (wAa (sFL rfl rfl ?_))))))
  refine js rfl (fun h12 => ?_) (fun h12 => ?_)
  ·iterate 20 refine jp rfl ?_
   refine wAc (jT (wAg rfl (wAb (wAa (jp rfl (wAc (jT (wAf (jTr (jr1 rfl rfl ?_))))))))))
   exact congrArg _ (by unfold wFg ndOk; rw [if_neg]; intro e; rw [Bool.and_eq_true] at e; have := of_decide_eq_true e.1; omega)
  refine jp rfl (sFL rfl rfl ?_)
  refine js rfl (fun h16 => ?_) (fun h16 => ?_)
  ·iterate 16 refine jp rfl ?_
   refine wAc (jT (wAg rfl (wAb (wAa (jp rfl (wAc (jT (wAf (jTr (jr1 rfl rfl ?_))))))))))
   exact congrArg _ (by unfold wFg ndOk; rw [if_neg]; intro e; rw [Bool.and_eq_true] at e; have := of_decide_eq_true e.1; omega)
  refine jp rfl (jp rfl (sFL rfl rfl ?_))
  refine wAi rfl rfl (wBe rfl rfl rfl) ?_
  refine js rfl (fun h22 => ?_) (fun h22 => ?_)
  ·iterate 10 refine jp rfl ?_
   refine wAc (jT (wAg rfl (wAb (wAa (jp rfl (wAc (jT (wAf (jTr (jr1 rfl rfl ?_))))))))))
   exact congrArg _ (by unfold wFg ndOk; rw [if_neg]; intro e; rw [Bool.and_eq_true] at e; have := of_decide_eq_true e.1; omega)
  refine jp rfl (jp rfl (jp rfl (jp rfl (sFL rfl rfl ?_))))
  refine wAi rfl rfl (wBe rfl rfl rfl) ?_
  refine js rfl (fun h30 => ?_) (fun h30 => ?_)
  ·refine jp rfl (jp rfl (wAc (jT (wAg rfl (wAb (wAa (jp rfl (wAc (jT (wAf (jTr (jr1 rfl rfl ?_))))))))))))
   exact congrArg _ (by unfold wFg ndOk; rw [if_neg]; intro e; rw [Bool.and_eq_true] at e; have := of_decide_eq_true e.1; omega)
  exfalso; omega
 refine jp rfl (wAc (jT (wAb (wAb (wAa (sFL rfl rfl ?_))))))
 refine js rfl (fun h12 => ?_) (fun h12 => ?_)
 ·iterate 20 refine jp rfl ?_
  refine wAc (jT (wAg rfl (wAb (wAa (jp rfl (wAc (jT (wAf (jTr (jr1 rfl rfl ?_))))))))))
  exact congrArg _ (by unfold wFg ndOk; rw [if_neg]; intro e; rw [Bool.and_eq_true] at e; have := of_decide_eq_true e.1; omega)
 refine jp rfl (sFL rfl rfl ?_)
 refine js rfl (fun h16 => ?_) (fun h16 => ?_)
 ·iterate 16 refine jp rfl ?_
  refine wAc (jT (wAg rfl (wAb (wAa (jp rfl (wAc (jT (wAf (jTr (jr1 rfl rfl ?_))))))))))
  exact congrArg _ (by unfold wFg ndOk; rw [if_neg]; intro e; rw [Bool.and_eq_true] at e; have := of_decide_eq_true e.1; omega)
 refine jp rfl (jp rfl (sFL rfl rfl ?_))
 refine wAi rfl rfl (wBe rfl rfl rfl) ?_
 refine js rfl (fun h22 => ?_) (fun h22 => ?_)
 ·iterate 10 refine jp rfl ?_
  refine wAc (jT (wAg rfl (wAb (wAa (jp rfl (wAc (jT (wAf (jTr (jr1 rfl rfl ?_))))))))))
  exact congrArg _ (by unfold wFg ndOk; rw [if_neg]; intro e; rw [Bool.and_eq_true] at e; have := of_decide_eq_true e.1; omega)
 exfalso; omega
theorem prevK_succ {xs : List It} {k : Nat} (h : k < xs.length) : wFb xs (k + 1) = some xs[k].key := by simp [wFb, h]
theorem itemsOk_step {ab : Bool} {xs : List It} {k : Nat} (h : k < xs.length) : wCd ab (wFb xs k) (xs.drop k) = (!wDq xs[k] && (match wFb xs k with | none => true | some q => wCt q xs[k].key) && (!ab || (xs[k].ref != 0 && xs[k].val.length == 0)) && wCd ab (wFb xs (k + 1)) (xs.drop (k + 1))) := by
 rw [List.drop_eq_getElem_cons h, prevK_succ h]; rfl
abbrev itc (x : It) (va : Option Addr) (vc : Nat) : List Value := [.int .u8 x.key.kind, .int .u32 x.key.id, .int .u32 x.key.off, .int .i64 x.ref, .slice va x.val.length vc]
theorem wCh {M : Mem} {sb so : Nat} {xs : List It} {ps : List (It × Value)} (hx : ∀ i u, (ps.flatMap wCp)[i]? = some u → CM M sb (so + i) u) (hp : ps.map (·.1) = xs) (hb : ∀ p ∈ ps, BS M p.2 p.1.val) {k : Nat} (hk : k < xs.length) :
  ∃ va vc, (∀ i v, (itc xs[k] va vc)[i]? = some v → CM M sb (so + k * 5 + i) v) ∧ xs[k].val.length ≤ vc ∧ SM M va (wAj xs[k].val) := by
 have hk2 : k < ps.length := by rw [← hp, List.length_map] at hk; exact hk
 have hxk : xs[k] = ps[k].1 := by simp [← hp]
 obtain ⟨va, vc, hv, hc, hs⟩ := hb ps[k] (List.getElem_mem hk2)
 rw [← hxk] at hv hc hs
 refine ⟨va, vc, fun i v hv' => flat_cm wCp 5 wCw hx (show ps[k]? = some ps[k] by simp [hk2]) i v ?_, hc, hs⟩
 rw [← hv']
 unfold wCp itc
 rw [← hxk, hv]
def okAt (ab : Bool) (xs : List It) (k : Nat) (h : k < xs.length) : Bool := !wDq xs[k] && (match wFb xs k with | none => true | some q => wCt q xs[k].key) && (!ab || (xs[k].ref != 0 && xs[k].val.length == 0))
theorem wKa {lv : Int} {ab : Bool} {xs : List It} {k : Nat} (hab : decide (0 < lv) = ab) (hk : k < xs.length) (hI : wCd ab none xs = wCd ab (wFb xs k) (xs.drop k)) (hb : okAt ab xs k hk = false) : wFg lv xs = 8 := by
 unfold wFg ndOk
 rw [if_neg]
 rw [hab, hI, itemsOk_step hk]
 unfold okAt at hb
 rw [hb]; simp
theorem nd_on {ab : Bool} {xs : List It} {k : Nat} (hk : k < xs.length) (hI : wCd ab none xs = wCd ab (wFb xs k) (xs.drop k)) (hb : okAt ab xs k hk = true) : wCd ab none xs = wCd ab (wFb xs (k + 1)) (xs.drop (k + 1)) := by
 rw [hI, itemsOk_step hk]
 unfold okAt at hb
 rw [hb]; simp
theorem nd_end {lv : Int} {ab : Bool} {xs : List It} {k : Nat} (h : 0 ≤ lv ∧ lv < 6 ∧ xs.length ≤ 5 ∧ (0 < lv → xs.length ≠ 0)) (hab : decide (0 < lv) = ab) (hk : k = xs.length) (hI : wCd ab none xs = wCd ab (wFb xs k) (xs.drop k)) : wFg lv xs = 0 := by
 unfold wFg ndOk
 rw [if_pos]
 rw [hab, hI, List.drop_eq_nil_of_le (by omega)]
 simp only [Bool.and_eq_true, decide_eq_true_eq]
 exact ⟨h, rfl⟩
theorem bad_of_chk {x : It} (h : wFt x ≠ 0) : wDq x = true ∧ wFt x = 8 := (itChk_cases x).resolve_right fun h' => h h'.2
theorem wFr {x : It} (h : wFt x = 0) : wDq x = false := ((itChk_cases x).resolve_left fun h' => by rw [h'.2] at h; cases h).1
set_option maxHeartbeats 1000000 in
theorem ncheck_leaf (lv : Int) (xs : List It) (a : Option Addr) (c : Nat) (ps : List (It × Value)) (M : Mem) (hc : xs.length ≤ c) (hs : SM M a (ps.flatMap wCp)) (hp : ps.map (·.1) = xs) (hb : ∀ p ∈ ps, BS M p.2 p.1.val) (h : 0 ≤ lv ∧ lv < 6 ∧ xs.length ≤ 5 ∧ (0 < lv → xs.length ≠ 0)) (hlv : lv = 0) :
  SpecL Tryz.prog 119 #[.agg #[.int .i64 lv, .slice a xs.length c]] M [] fun v _ _ => v = .int .i64 (wFg lv xs) := by
 have hab : decide (0 < lv) = false := by simp; omega
 refine wAe (vs := [_]) 76 _ Tryz.func119 rfl Tryz.ntmps119 rfl rfl ?_; intro W
 refine wAb (wAa (wAv rfl rfl (wBw (cs := [_, _]) rfl rfl rfl rfl) ?_)); rintro _ _ _ ⟨b1, rfl, rfl, rfl⟩
 refine jp rfl (wAc (jT (wAb (wAa (sFL rfl rfl ?_)))))
 refine jf rfl (decide_eq_false (by omega)) ?_
 refine jp rfl (wAc (jT (wAb (wAb (wAa (sFL rfl rfl ?_))))))
 refine jf rfl (decide_eq_false (by omega)) ?_
 refine jp rfl (sFL rfl rfl ?_)
 refine jf rfl (decide_eq_false (by omega)) ?_
 refine jp rfl (jp rfl (sFL rfl rfl ?_))
 refine wAi rfl rfl (wBe rfl rfl rfl) ?_
 refine jf rfl (decide_eq_false (by omega)) ?_
 iterate 10 refine jp rfl ?_
 refine wAc (jT (wAk rfl (wAd (jT (wAb (wAb (wAa (sFL rfl rfl ?_))))))))
 refine wAi rfl rfl (wBe rfl rfl rfl) ?_
 refine jp rfl (wAc (jT (wAh ?_)))
 refine wAo (α := Nat) (fun k => [(1, .pointer (some ⟨b1, 0, none⟩)), (3, .bool false), (34, .slice a xs.length c), (35, .int .i64 xs.length), (36, .int .i64 k)]) (fun _ => M) (fun _ => [(b1, .cells [.int .i64 lv, .slice a xs.length c].toArray 111 (0, 0))]) (fun k => k ≤ xs.length ∧ wCd false none xs = wCd false (wFb xs k) (xs.drop k)) (fun k => xs.length - k)
  0 (.cons (t := 1) rfl (.cons (t := 3) rfl (.cons (t := 34) rfl (.cons (t := 35) rfl (.cons (t := 36) rfl .nil))))) ⟨Nat.zero_le _, rfl⟩ (fun _ h => h) ?_
 rintro k ⟨hk, hI⟩
 try dsimp only at hk hI ⊢
 refine wAb (wAa (js rfl (fun h37 => ?_) (fun h37 => ?_)))
 ·refine wAc (jT (wAb (wAg rfl (wAd (jT (wAb (wAh (wAb (wAa (jp rfl ?_))))))))))
  have hk1 : k < xs.length := by omega
  obtain ⟨sb, so, e0, hx⟩ := hs.open (by intro e; have := congrArg List.length e; rw [wBm wCp 5 wCw, List.length_nil] at this; have h2 := congrArg List.length hp; rw [List.length_map] at h2; omega)
  subst e0
  obtain ⟨va, vc, hcl, hvc, hvs⟩ := wCh hx hp hb hk1
  refine wAi rfl rfl (wBb rfl rfl rfl rfl (by omega)) ?_
  refine wAi rfl rfl (wGp (cs := itc xs[k] va vc) rfl rfl rfl rfl rfl (fun i v hv => (hcl i v hv).cj _)) ?_
  refine sAl rfl fun b5 => ?_
  refine jp rfl (sSt rfl ?_)
  refine wAc (jT (wAb (wAb (wAa (sLL rfl ?_)))))
  refine wAi rfl rfl (wAy rfl rfl rfl rfl rfl (by kernel_rfl) (wFv xs[k] _ M ⟨va, vc, rfl, hvc, hvs⟩)) ?_
  refine jp rfl (wAc (jT (wAb (wAa (jp rfl (js rfl (fun h44 => ?_) (fun h44 => ?_)))))))
  ·refine wAc (jT (wAg rfl (wAb (wAa (jp rfl (jp rfl (wAc (jT (wAf (jTr (jBr (jTr (jTr (jBr (jTr (jr1 rfl rfl ?_))))))))))))))))
   obtain ⟨q1, q2⟩ := bad_of_chk h44
   rw [q2, wKa hab hk1 hI (by simp [okAt, q1])]
  refine wAc (jT (wAk rfl (wAd (jT (wAb (wBn [(0, true), (1, true), (2, true), (3, true), (4, true), (5, true), (6, true), (7, true), (8, true), (9, true), (10, true), (11, true), (12, true), (13, true), (14, true), (15, true), (16, true), (17, true), (18, true), (19, true), (20, true), (21, true), (22, true), (23, true), (24, true), (25, true), (26, true), (27, true), (28, true)] _ (by kernel_rfl) (by kernel_rfl) (by kernel_rfl) rfl (fun _ h => h) ?_))))))
  refine dp rfl rfl ?_
  refine ds rfl rfl (fun h47 => ?_) (fun h47 => ?_)
  ·refine dp rfl rfl ?_
   refine dFa rfl rfl ?_
   refine dLd rfl rfl ?_
   refine dp rfl rfl ?_
   refine da rfl rfl (by omega) ?_
   obtain ⟨j, rfl⟩ : ∃ j, k = j + 1 := ⟨k - 1, by omega⟩
   have hj1 : j < xs.length := by omega
   obtain ⟨wa, wc, hcj, -, -⟩ := wCh hx hp hb hj1
   refine wBh rfl rfl rfl (qEq (wBb rfl rfl rfl rfl (by omega)) (v' := .pointer (some ⟨sb, so + j * 5, none⟩)) (by congr 3; omega)) ?_
   refine dFa rfl rfl ?_
   refine wBh rfl rfl rfl (wGp (cs := wEw xs[j].key) rfl rfl rfl rfl rfl (fun i v hv => (hcj i v (by match i, hv with | 0, hv => simpa [wEw] using hv | 1, hv => simpa [wEw] using hv | 2, hv => simpa [wEw] using hv | n + 3, hv => simp [wEw] at hv)).cj _)) ?_
   refine dFa rfl rfl ?_
   refine dLL rfl rfl ?_
   refine jd_qb rfl rfl rfl (wAy rfl rfl rfl rfl rfl (by kernel_rfl) (wHg xs[j].key xs[j + 1].key M)) (fun h58 => ?_) (fun h58 => ?_)
   ·iterate 16 refine dp rfl rfl ?_
    refine wBg (jPn (jT (wAk rfl (wAd (jB (jT (wAa (ja rfl (by omega) ?_))))))))
    refine jp rfl (wAc (wAn (j + 1 + 1) (.cons (t := 1) rfl (.cons (t := 3) rfl (.cons (t := 34) rfl (.cons (t := 35) rfl (.cons (t := 36) rfl .nil))))) ⟨by omega, nd_on hk1 hI ?_⟩ (by omega) (fun _ h => h.fewer (by simp))))
    simp [okAt, wFb, hj1, wFr (Classical.not_not.1 h44), h58]
   iterate 16 refine dp rfl rfl ?_
   refine wBg (jPn (jT (wAg rfl (wAb (wAa (jp rfl (wAc (jT (wAf (jBr (jTr (jTr (jBr (jTr (jr1 rfl rfl ?_)))))))))))))))
   rw [wKa hab hk1 hI (by simp [okAt, wFb, hj1, h58])]
  iterate 27 refine dp rfl rfl ?_
  refine wBg (jPn (jT (wAk rfl (wAd (jB (jT (wAa (ja rfl (by omega) ?_))))))))
  refine jp rfl (wAc (wAn (k + 1) (.cons (t := 1) rfl (.cons (t := 3) rfl (.cons (t := 34) rfl (.cons (t := 35) rfl (.cons (t := 36) rfl .nil))))) ⟨by omega, nd_on hk1 hI ?_⟩ (by omega) (fun _ h => h.fewer (by simp))))
  obtain rfl : k = 0 := by omega
  simp [okAt, wFb, wFr (Classical.not_not.1 h44)]
 refine wAc (jT (wAb (wAk rfl (wAs (jTx (jTx (jBx (jT (wAb (wAa (jp rfl (wAc (jT (wAf (jr1 rfl rfl ?_)))))))))))))))
 rw [nd_end h hab (by omega) hI]
set_option maxHeartbeats 1000000 in
theorem ncheck_node (lv : Int) (xs : List It) (a : Option Addr) (c : Nat) (ps : List (It × Value)) (M : Mem) (hc : xs.length ≤ c) (hs : SM M a (ps.flatMap wCp)) (hp : ps.map (·.1) = xs) (hb : ∀ p ∈ ps, BS M p.2 p.1.val) (h : 0 ≤ lv ∧ lv < 6 ∧ xs.length ≤ 5 ∧ (0 < lv → xs.length ≠ 0)) (hlv : 0 < lv) :
  SpecL Tryz.prog 119 #[.agg #[.int .i64 lv, .slice a xs.length c]] M [] fun v _ _ => v = .int .i64 (wFg lv xs) := by
 have hab : decide (0 < lv) = true := by simp; omega
 refine wAe (vs := [_]) 76 _ Tryz.func119 rfl Tryz.ntmps119 rfl rfl ?_; intro W
 refine wAb (wAa (wAv rfl rfl (wBw (cs := [_, _]) rfl rfl rfl rfl) ?_)); rintro _ _ _ ⟨b1, rfl, rfl, rfl⟩
 refine jp rfl (wAc (jT (wAb (wAa (sFL rfl rfl ?_)))))
 refine jt rfl (decide_eq_true (by omega)) ?_
 refine jp rfl (wAc (jT (wAb (wAb (wAa (sFL rfl rfl ?_))))))
 refine jf rfl (decide_eq_false (by omega)) ?_
 refine jp rfl (sFL rfl rfl ?_)
 refine jf rfl (decide_eq_false (by omega)) ?_
 refine jp rfl (jp rfl (sFL rfl rfl ?_))
 refine wAi rfl rfl (wBe rfl rfl rfl) ?_
 refine jf rfl (decide_eq_false (by omega)) ?_
 refine jp rfl (jp rfl (jp rfl (jp rfl (sFL rfl rfl ?_))))
 refine wAi rfl rfl (wBe rfl rfl rfl) ?_
 refine jf rfl (decide_eq_false (by omega)) ?_
 refine jp rfl (jp rfl (wAc (jT (wAk rfl (wAd (jT (wAb (wAb (wAa (sFL rfl rfl ?_))))))))))
 refine wAi rfl rfl (wBe rfl rfl rfl) ?_
 refine jp rfl (wAc (jT (wAh ?_)))
 refine wAo (α := Nat) (fun k => [(1, .pointer (some ⟨b1, 0, none⟩)), (3, .bool true), (34, .slice a xs.length c), (35, .int .i64 xs.length), (36, .int .i64 k)]) (fun _ => M) (fun _ => [(b1, .cells [.int .i64 lv, .slice a xs.length c].toArray 111 (0, 0))]) (fun k => k ≤ xs.length ∧ wCd true none xs = wCd true (wFb xs k) (xs.drop k)) (fun k => xs.length - k)
  0 (.cons (t := 1) rfl (.cons (t := 3) rfl (.cons (t := 34) rfl (.cons (t := 35) rfl (.cons (t := 36) rfl .nil))))) ⟨Nat.zero_le _, rfl⟩ (fun _ h => h) ?_
 rintro k ⟨hk, hI⟩
 try dsimp only at hk hI ⊢
 refine wAb (wAa (js rfl (fun h37 => ?_) (fun h37 => ?_)))
 ·refine wAc (jT (wAb (wAg rfl (wAd (jT (wAb (wAh (wAb (wAa (jp rfl ?_))))))))))
  have hk1 : k < xs.length := by omega
  obtain ⟨sb, so, e0, hx⟩ := hs.open (by intro e; have := congrArg List.length e; rw [wBm wCp 5 wCw, List.length_nil] at this; have h2 := congrArg List.length hp; rw [List.length_map] at h2; omega)
  subst e0
  obtain ⟨va, vc, hcl, hvc, hvs⟩ := wCh hx hp hb hk1
  refine wAi rfl rfl (wBb rfl rfl rfl rfl (by omega)) ?_
  refine wAi rfl rfl (wGp (cs := itc xs[k] va vc) rfl rfl rfl rfl rfl (fun i v hv => (hcl i v hv).cj _)) ?_
  refine sAl rfl fun b5 => ?_
  refine jp rfl (sSt rfl ?_)
  refine wAc (jT (wAb (wAb (wAa (sLL rfl ?_)))))
  refine wAi rfl rfl (wAy rfl rfl rfl rfl rfl (by kernel_rfl) (wFv xs[k] _ M ⟨va, vc, rfl, hvc, hvs⟩)) ?_
  refine jp rfl (wAc (jT (wAb (wAa (jp rfl (js rfl (fun h44 => ?_) (fun h44 => ?_)))))))
  ·refine wAc (jT (wAg rfl (wAb (wAa (jp rfl (jp rfl (wAc (jT (wAf (jTr (jBr (jTr (jTr (jBr (jTr (jr1 rfl rfl ?_))))))))))))))))
   obtain ⟨q1, q2⟩ := bad_of_chk h44
   rw [q2, wKa hab hk1 hI (by simp [okAt, q1])]
  refine wAc (jT (wAk rfl (wAd (jT (wAb (wBn [(0, true), (1, true), (2, true), (3, true), (4, true), (5, true), (6, true), (7, true), (8, true), (9, true), (10, true), (11, true), (12, true), (13, true), (14, true), (15, true), (16, true), (17, true), (18, true), (19, true), (20, true), (21, true), (22, true), (23, true), (24, true), (25, true), (26, true), (27, true), (28, true)] _ (by kernel_rfl) (by kernel_rfl) (by kernel_rfl) rfl (fun _ h => h) ?_))))))
  refine dp rfl rfl ?_
  refine ds rfl rfl (fun h47 => ?_) (fun h47 => ?_)
  ·refine dp rfl rfl ?_
   refine dFa rfl rfl ?_
   refine dLd rfl rfl ?_
   refine dp rfl rfl ?_
   refine da rfl rfl (by omega) ?_
   obtain ⟨j, rfl⟩ : ∃ j, k = j + 1 := ⟨k - 1, by omega⟩
   have hj1 : j < xs.length := by omega
   obtain ⟨wa, wc, hcj, -, -⟩ := wCh hx hp hb hj1
   refine wBh rfl rfl rfl (qEq (wBb rfl rfl rfl rfl (by omega)) (v' := .pointer (some ⟨sb, so + j * 5, none⟩)) (by congr 3; omega)) ?_
   refine dFa rfl rfl ?_
   refine wBh rfl rfl rfl (wGp (cs := wEw xs[j].key) rfl rfl rfl rfl rfl (fun i v hv => (hcj i v (by match i, hv with | 0, hv => simpa [wEw] using hv | 1, hv => simpa [wEw] using hv | 2, hv => simpa [wEw] using hv | n + 3, hv => simp [wEw] at hv)).cj _)) ?_
   refine dFa rfl rfl ?_
   refine dLL rfl rfl ?_
   refine jd_qb rfl rfl rfl (wAy rfl rfl rfl rfl rfl (by kernel_rfl) (wHg xs[j].key xs[j + 1].key M)) (fun h58 => ?_) (fun h58 => ?_)
   ·iterate 5 refine dp rfl rfl ?_
    refine dFa rfl rfl ?_
    refine dLd rfl rfl ?_
    refine ds rfl rfl (fun h66 => ?_) (fun h66 => ?_)
    ·iterate 8 refine dp rfl rfl ?_
     refine wBg (jPn (jT (wAg rfl (wAb (wAa (jp rfl (wAc (jT (wAf (jBr (jTr (jTr (jBr (jTr (jr1 rfl rfl ?_)))))))))))))))
     rw [wKa hab hk1 hI (by simp [okAt]; intros; first | omega | simp_all)]
    refine dp rfl rfl ?_
    refine dFa rfl rfl ?_
    refine dLd rfl rfl ?_
    refine wBh rfl rfl rfl (wBe rfl rfl rfl) ?_
    refine ds rfl rfl (fun h71 => ?_) (fun h71 => ?_)
    ·iterate 3 refine dp rfl rfl ?_
     refine wBg (jPn (jT (wAg rfl (wAb (wAa (jp rfl (wAc (jT (wAf (jBr (jTr (jTr (jBr (jTr (jr1 rfl rfl ?_)))))))))))))))
     rw [wKa hab hk1 hI (by simp [okAt]; intros; intro e; simp [e] at h71)]
    iterate 3 refine dp rfl rfl ?_
    refine wBg (jPn (jT (wAk rfl (wAd (jB (jT (wAa (ja rfl (by omega) ?_))))))))
    refine jp rfl (wAc (wAn (j + 1 + 1) (.cons (t := 1) rfl (.cons (t := 3) rfl (.cons (t := 34) rfl (.cons (t := 35) rfl (.cons (t := 36) rfl .nil))))) ⟨by omega, nd_on hk1 hI ?_⟩ (by omega) (fun _ h => h.fewer (by simp))))
    simp [okAt, wFb, hj1, wFr (Classical.not_not.1 h44), h58, h66, List.eq_nil_of_length_eq_zero (show xs[j + 1].val.length = 0 by omega)]
   iterate 16 refine dp rfl rfl ?_
   refine wBg (jPn (jT (wAg rfl (wAb (wAa (jp rfl (wAc (jT (wAf (jBr (jTr (jTr (jBr (jTr (jr1 rfl rfl ?_)))))))))))))))
   rw [wKa hab hk1 hI (by simp [okAt, wFb, hj1, h58])]
  iterate 16 refine dp rfl rfl ?_
  refine dFa rfl rfl ?_
  refine dLd rfl rfl ?_
  refine ds rfl rfl (fun h66 => ?_) (fun h66 => ?_)
  ·iterate 8 refine dp rfl rfl ?_
   refine wBg (jPn (jT (wAg rfl (wAb (wAa (jp rfl (wAc (jT (wAf (jBr (jTr (jTr (jBr (jTr (jr1 rfl rfl ?_)))))))))))))))
   rw [wKa hab hk1 hI (by simp [okAt]; intros; first | omega | simp_all)]
  refine dp rfl rfl ?_
  refine dFa rfl rfl ?_
  refine dLd rfl rfl ?_
  refine wBh rfl rfl rfl (wBe rfl rfl rfl) ?_
  refine ds rfl rfl (fun h71 => ?_) (fun h71 => ?_)
  ·iterate 3 refine dp rfl rfl ?_
   refine wBg (jPn (jT (wAg rfl (wAb (wAa (jp rfl (wAc (jT (wAf (jBr (jTr (jTr (jBr (jTr (jr1 rfl rfl ?_)))))))))))))))
   rw [wKa hab hk1 hI (by simp [okAt]; intros; intro e; simp [e] at h71)]
  iterate 3 refine dp rfl rfl ?_
  refine wBg (jPn (jT (wAk rfl (wAd (jB (jT (wAa (ja rfl (by omega) ?_))))))))
  refine jp rfl (wAc (wAn (k + 1) (.cons (t := 1) rfl (.cons (t := 3) rfl (.cons (t := 34) rfl (.cons (t := 35) rfl (.cons (t := 36) rfl .nil))))) ⟨by omega, nd_on hk1 hI ?_⟩ (by omega) (fun _ h => h.fewer (by simp))))
  obtain rfl : k = 0 := by omega
  simp [okAt, wFb, wFr (Classical.not_not.1 h44), h66, List.eq_nil_of_length_eq_zero (show xs[0].val.length = 0 by omega)]
 refine wAc (jT (wAb (wAk rfl (wAs (jTx (jTx (jBx (jT (wAb (wAa (jp rfl (wAc (jT (wAf (jr1 rfl rfl ?_)))))))))))))))
 rw [nd_end h hab (by omega) hI]
theorem ncheck_spec (lv : Int) (xs : List It) (s : Value) (M : Mem) (hv : NS M s xs) : SpecL Tryz.prog 119 #[.agg #[.int .i64 lv, s]] M [] fun v _ _ => v = .int .i64 (wFg lv xs) := by
 obtain ⟨a, c, ps, rfl, hc, hs, hp, hb⟩ := hv
 by_cases h : 0 ≤ lv ∧ lv < 6 ∧ xs.length ≤ 5 ∧ (0 < lv → xs.length ≠ 0)
 ·by_cases hl : 0 < lv
  ·exact ncheck_node lv xs a c ps M hc hs hp hb h hl
  exact ncheck_leaf lv xs a c ps M hc hs hp hb h (by omega)
 exact ncheck_head lv xs a c ps M hc hs hp hb h
end Go.Proofs.YtbhkdjheooknfaaGreat
