/- Walks: keys and items. -/
import Derived.Test.YtckdncmjkloebaaGreatZHg
import Derived.Test.YtckdncmjkloebaaGreatZHl
import Derived.Test.YtckdncmjkloebaaGreatZTab
namespace Go.Proofs.YtckdncmjkloebaaGreat
set_option linter.unusedVariables false
set_option linter.unusedSimpArgs false
open Go.RowKit

/-! ### keys -/
structure Ky where
 kind : Int
 id : Int
 off : Int
 deriving DecidableEq, Repr
def kcells (k : Ky) : List Value := [.int .u8 k.kind, .int .u32 k.id, .int .u32 k.off]
def cmpI (a b : Int) : Int := if a < b then -1 else if b < a then 1 else 0
def kless (a b : Ky) : Bool := decide (a.kind < b.kind ∨ a.kind = b.kind ∧ (a.id < b.id ∨ a.id = b.id ∧ a.off < b.off))
def orL : List Int → Int
 | [] => 0
 | x :: xs => if x ≠ 0 then x else orL xs
theorem kless_or (a b : Ky) : decide (orL [cmpI a.kind b.kind, cmpI a.id b.id, cmpI a.off b.off] < 0) = kless a b := by
 unfold kless orL orL orL orL cmpI
 apply decide_eq_decide.2
 repeat' split
 all_goals omega
def icells (xs : List Int) : List Value := xs.map (Value.int .i64)

theorem nan_u8 (a : Int) (M : Mem) :
  SpecL Tryz.prog 106 #[.int .u8 a] M [] fun v _ _ => v = .bool false := by
 refine spec_body (vs := [_]) 6 _ Tryz.func106 rfl Tryz.ntmps106 rfl rfl ?_; intro W
 refine jc_seq ?_
 refine jc_region ?_
 refine jp rfl ?_
 refine jl_nil ?_
 refine jT ?_
 refine jc_seq ?_
 refine jc_region ?_
 iterate 4 refine jp rfl ?_
 refine jl_nil ?_
 refine jT ?_
 refine jc_ret ?_
 refine jr1 rfl rfl ?_
 simp

theorem cmp_u8 (a b : Int) (M : Mem) :
  SpecL Tryz.prog 62 #[.int .u8 a, .int .u8 b] M [] fun v _ _ => v = .int .i64 (cmpI a b) := by
 refine spec_body (vs := [_, _]) 20 _ Tryz.func62 rfl Tryz.ntmps62 rfl rfl ?_; intro W
 refine jc_seq ?_
 refine jc_region ?_
 refine jp rfl ?_
 refine jl_nil ?_
 refine jT ?_
 refine jc_seq ?_
 refine jc_region ?_
 refine jp rfl ?_
 refine jl_q rfl rfl (qCall rfl rfl rfl rfl rfl (by kernel_rfl) (nan_u8 _ M)) ?_
 refine jp rfl ?_
 refine jl_nil ?_
 refine jT ?_
 refine jc_seq ?_
 refine jc_region ?_
 refine jp rfl ?_
 refine jl_q rfl rfl (qCall rfl rfl rfl rfl rfl (by kernel_rfl) (nan_u8 _ M)) ?_
 refine jp rfl ?_
 refine jl_nil ?_
 refine jT ?_
 refine jc_seq ?_
 refine jc_seq ?_
 refine jc_region ?_
 refine jp rfl ?_
 refine jl_nil ?_
 refine jT ?_
 refine jc_no rfl ?_
 refine jc_skip ?_
 refine jT ?_
 refine jc_seq ?_
 refine jc_seq ?_
 refine jc_region ?_
 refine jp rfl ?_
 refine jl_nil ?_
 refine jT ?_
 refine jc_no rfl ?_
 refine jc_skip ?_
 refine jT ?_
 refine jc_seq ?_
 refine jc_seq ?_
 refine jc_region ?_
 iterate 2 refine jp rfl ?_
 refine js rfl (fun h16 => ?_) (fun h16 => ?_)
 ·refine jl_nil ?_
  refine jT ?_
  refine jc_yes rfl ?_
  refine jc_seq ?_
  refine jc_region ?_
  refine jp rfl ?_
  refine jl_nil ?_
  refine jT ?_
  refine jc_ret ?_
  refine jTr ?_
  refine jr1 rfl rfl ?_
  unfold cmpI; congr 1; split <;> (try split) <;> omega
 ·refine jl_nil ?_
  refine jT ?_
  refine jc_no rfl ?_
  refine jc_skip ?_
  refine jT ?_
  refine jc_seq ?_
  refine jc_seq ?_
  refine jc_region ?_
  iterate 2 refine jp rfl ?_
  refine js rfl (fun h19 => ?_) (fun h19 => ?_)
  ·refine jl_nil ?_
   refine jT ?_
   refine jc_yes rfl ?_
   refine jc_seq ?_
   refine jc_region ?_
   refine jp rfl ?_
   refine jl_nil ?_
   refine jT ?_
   refine jc_ret ?_
   refine jTr ?_
   refine jr1 rfl rfl ?_
   unfold cmpI; congr 1; split <;> (try split) <;> omega
  ·refine jl_nil ?_
   refine jT ?_
   refine jc_no rfl ?_
   refine jc_skip ?_
   refine jT ?_
   refine jc_seq ?_
   refine jc_region ?_
   refine jp rfl ?_
   refine jl_nil ?_
   refine jT ?_
   refine jc_ret ?_
   refine jr1 rfl rfl ?_
   unfold cmpI; congr 1; split <;> (try split) <;> omega

theorem nan_u32 (a : Int) (M : Mem) :
  SpecL Tryz.prog 107 #[.int .u32 a] M [] fun v _ _ => v = .bool false := by
 refine spec_body (vs := [_]) 6 _ Tryz.func107 rfl Tryz.ntmps107 rfl rfl ?_; intro W
 refine jc_seq ?_
 refine jc_region ?_
 refine jp rfl ?_
 refine jl_nil ?_
 refine jT ?_
 refine jc_seq ?_
 refine jc_region ?_
 iterate 4 refine jp rfl ?_
 refine jl_nil ?_
 refine jT ?_
 refine jc_ret ?_
 refine jr1 rfl rfl ?_
 simp

theorem cmp_u32 (a b : Int) (M : Mem) :
  SpecL Tryz.prog 63 #[.int .u32 a, .int .u32 b] M [] fun v _ _ => v = .int .i64 (cmpI a b) := by
 refine spec_body (vs := [_, _]) 20 _ Tryz.func63 rfl Tryz.ntmps63 rfl rfl ?_; intro W
 refine jc_seq ?_
 refine jc_region ?_
 refine jp rfl ?_
 refine jl_nil ?_
 refine jT ?_
 refine jc_seq ?_
 refine jc_region ?_
 refine jp rfl ?_
 refine jl_q rfl rfl (qCall rfl rfl rfl rfl rfl (by kernel_rfl) (nan_u32 _ M)) ?_
 refine jp rfl ?_
 refine jl_nil ?_
 refine jT ?_
 refine jc_seq ?_
 refine jc_region ?_
 refine jp rfl ?_
 refine jl_q rfl rfl (qCall rfl rfl rfl rfl rfl (by kernel_rfl) (nan_u32 _ M)) ?_
 refine jp rfl ?_
 refine jl_nil ?_
 refine jT ?_
 refine jc_seq ?_
 refine jc_seq ?_
 refine jc_region ?_
 refine jp rfl ?_
 refine jl_nil ?_
 refine jT ?_
 refine jc_no rfl ?_
 refine jc_skip ?_
 refine jT ?_
 refine jc_seq ?_
 refine jc_seq ?_
 refine jc_region ?_
 refine jp rfl ?_
 refine jl_nil ?_
 refine jT ?_
 refine jc_no rfl ?_
 refine jc_skip ?_
 refine jT ?_
 refine jc_seq ?_
 refine jc_seq ?_
 refine jc_region ?_
 iterate 2 refine jp rfl ?_
 refine js rfl (fun h16 => ?_) (fun h16 => ?_)
 ·refine jl_nil ?_
  refine jT ?_
  refine jc_yes rfl ?_
  refine jc_seq ?_
  refine jc_region ?_
  refine jp rfl ?_
  refine jl_nil ?_
  refine jT ?_
  refine jc_ret ?_
  refine jTr ?_
  refine jr1 rfl rfl ?_
  unfold cmpI; congr 1; split <;> (try split) <;> omega
 ·refine jl_nil ?_
  refine jT ?_
  refine jc_no rfl ?_
  refine jc_skip ?_
  refine jT ?_
  refine jc_seq ?_
  refine jc_seq ?_
  refine jc_region ?_
  iterate 2 refine jp rfl ?_
  refine js rfl (fun h19 => ?_) (fun h19 => ?_)
  ·refine jl_nil ?_
   refine jT ?_
   refine jc_yes rfl ?_
   refine jc_seq ?_
   refine jc_region ?_
   refine jp rfl ?_
   refine jl_nil ?_
   refine jT ?_
   refine jc_ret ?_
   refine jTr ?_
   refine jr1 rfl rfl ?_
   unfold cmpI; congr 1; split <;> (try split) <;> omega
  ·refine jl_nil ?_
   refine jT ?_
   refine jc_no rfl ?_
   refine jc_skip ?_
   refine jT ?_
   refine jc_seq ?_
   refine jc_region ?_
   refine jp rfl ?_
   refine jl_nil ?_
   refine jT ?_
   refine jc_ret ?_
   refine jr1 rfl rfl ?_
   unfold cmpI; congr 1; split <;> (try split) <;> omega

theorem or_spec (b : Nat) (xs : List Int) (hn : xs.length ≤ 1000) (M : Mem) :
  SpecL Tryz.prog 61 #[.slice (some ⟨b, 0, none⟩) xs.length xs.length] M [(b, .cells (icells xs).toArray 3 (0, 0))] fun v _ L' => v = .int .i64 (orL xs) ∧ L' = [] := by
 refine spec_body (vs := [_]) 18 _ Tryz.func61 rfl Tryz.ntmps61 rfl rfl ?_; intro W
 refine jc_seq ?_
 refine jc_region ?_
 refine jp rfl ?_
 refine jl_nil ?_
 refine jT ?_
 refine jc_seq ?_
 refine jc_region ?_
 refine jp rfl ?_
 refine jl_nil ?_
 refine jT ?_
 refine jc_seq ?_
 refine jc_seq ?_
 refine jc_region ?_
 refine jp rfl ?_
 refine jl_q rfl rfl (qLen rfl rfl rfl) ?_
 refine jp rfl ?_
 refine jl_nil ?_
 refine jT ?_
 refine jc_block ?_
 refine jc_loopK (α := Nat) (fun k => [(3, .int .i64 0), (6, .slice (some ⟨b, 0, none⟩) xs.length xs.length), (7, .int .i64 xs.length), (8, .int .i64 k)]) (fun _ => M) (fun _ => [(b, .cells (icells xs).toArray 3 (0, 0))]) (fun k => k ≤ xs.length ∧ orL xs = orL (xs.drop k)) (fun k => xs.length - k)
  0 (Keep.cons (t := 3) rfl (Keep.cons (t := 6) rfl (Keep.cons (t := 7) rfl (Keep.cons (t := 8) rfl Keep.nil)))) ⟨Nat.zero_le _, rfl⟩ (fun _ h => h) ?_
 rintro k ⟨hk, ho⟩
 try dsimp only at hk ho ⊢
 refine jc_seq ?_
 refine jc_region ?_
 refine js rfl (fun hlt => ?_) (fun hlt => ?_)
 ·refine jl_nil ?_
  refine jT ?_
  refine jc_seq ?_
  refine jc_yes rfl ?_
  refine jc_skip ?_
  refine jT ?_
  refine jc_seq ?_
  refine jc_block ?_
  refine jc_seq ?_
  refine jc_region ?_
  have hk1 : k < xs.length := by omega
  have hd : xs.drop k = xs[k] :: xs.drop (k + 1) := List.drop_eq_getElem_cons hk1
  refine jl_q rfl rfl (qIdxS rfl rfl rfl rfl (by omega)) ?_
  refine jl_q rfl rfl (qLd rfl rfl rfl rfl (CJ.loc (v := .int .i64 xs[k]) (by simp [icells, hk1]))) ?_
  refine jp rfl ?_
  refine jl_nil ?_
  refine jT ?_
  refine jc_seq ?_
  refine jc_region ?_
  iterate 2 refine jp rfl ?_
  refine js rfl (fun h14 => ?_) (fun h14 => ?_)
  ·refine jl_nil ?_
   refine jT ?_
   refine jc_yes rfl ?_
   refine jc_seq ?_
   refine jc_region ?_
   iterate 2 refine jp rfl ?_
   refine jl_nil ?_
   refine jT ?_
   refine jc_ret ?_
   refine jBr ?_
   refine jTr ?_
   refine jTr ?_
   refine jBr ?_
   refine jTr ?_
   refine jq_drop (L' := []) (by simp) ?_
   refine jr1 rfl rfl ?_
   exact ⟨by rw [ho, hd]; show _ = Value.int _ (if _ then _ else _); rw [if_pos (by simpa using h14)], rfl⟩
  ·refine jl_nil ?_
   refine jT ?_
   refine jc_no rfl ?_
   refine jc_skip ?_
   refine jB ?_
   refine jT ?_
   refine jc_region ?_
   refine ja rfl (by omega) ?_
   refine jp rfl ?_
   refine jl_nil ?_
   refine j_again (k + 1) (Keep.cons (t := 3) rfl (Keep.cons (t := 6) rfl (Keep.cons (t := 7) rfl (Keep.cons (t := 8) rfl Keep.nil)))) ⟨by omega, ?_⟩ (by omega) (fun _ h => h)
   rw [ho, hd]; show (if _ then _ else _) = _; rw [if_neg (by simpa using h14)]
 ·refine jl_nil ?_
  refine jT ?_
  refine jc_seq ?_
  refine jc_no rfl ?_
  refine jc_exit ?_
  refine jTx ?_
  refine jTx ?_
  refine jBx ?_
  refine jT ?_
  refine jc_seq ?_
  refine jc_region ?_
  iterate 2 refine jp rfl ?_
  refine jl_nil ?_
  refine jT ?_
  refine jc_ret ?_
  refine jq_drop (L' := []) (by simp) ?_
  refine jr1 rfl rfl ?_
  exact ⟨by rw [ho, List.drop_eq_nil_of_le (by omega)]; rfl, rfl⟩


theorem or3 (b : Nat) (x y z : Int) (M : Mem) : SpecL Tryz.prog 61 #[.slice (some ⟨b, 0, none⟩) 3 3] M [(b, .cells [.int .i64 x, .int .i64 y, .int .i64 z].toArray 3 (0, 0))] fun v _ L' => v = .int .i64 (orL [x, y, z]) ∧ L' = [] := or_spec b [x, y, z] (by simp) M

theorem less_spec (a b : Ky) (M : Mem) :
  SpecL Tryz.prog 23 #[.agg (kcells a).toArray, .agg (kcells b).toArray] M [] fun v _ _ => v = .bool (kless a b) := by
 refine spec_body (vs := [_, _]) 23 _ Tryz.func23 rfl Tryz.ntmps23 rfl rfl ?_; intro W
 refine jc_seq ?_
 refine jc_region ?_
 refine jl_h rfl rfl (hBox (cs := [_, _, _]) rfl rfl rfl rfl) ?_; rintro _ _ _ ⟨b2, rfl, rfl, rfl⟩
 refine jl_h rfl rfl (hBox (cs := [_, _, _]) rfl rfl rfl rfl) ?_; rintro _ _ _ ⟨b3, rfl, rfl, rfl⟩
 refine jp rfl ?_
 refine jl_nil ?_
 refine jT ?_
 refine jc_seq ?_
 refine jc_draw [(0, true), (1, true), (2, true), (3, true), (4, true), (5, true), (6, true), (7, true), (8, true), (9, true), (10, true), (11, true), (12, true), (13, true), (14, true), (15, false), (16, false), (17, true), (18, true)] _ (by kernel_rfl) (by kernel_rfl) (by kernel_rfl) rfl (fun _ h => h) ?_
 refine jd_q rfl rfl rfl (qFieldAddr rfl rfl rfl rfl rfl) ?_
 refine jd_q rfl rfl rfl (qLd rfl rfl rfl rfl (CJ.loc rfl)) ?_
 refine jd_q rfl rfl rfl (qFieldAddr rfl rfl rfl rfl rfl) ?_
 refine jd_q rfl rfl rfl (qLd rfl rfl rfl rfl (CJ.loc rfl)) ?_
 refine jd_q rfl rfl rfl (qCall rfl rfl rfl rfl rfl (by kernel_rfl) (cmp_u8 _ _ M)) ?_
 refine jd_q rfl rfl rfl (qFieldAddr rfl rfl rfl rfl rfl) ?_
 refine jd_q rfl rfl rfl (qLd rfl rfl rfl rfl (CJ.loc rfl)) ?_
 refine jd_q rfl rfl rfl (qFieldAddr rfl rfl rfl rfl rfl) ?_
 refine jd_q rfl rfl rfl (qLd rfl rfl rfl rfl (CJ.loc rfl)) ?_
 refine jd_q rfl rfl rfl (qCall rfl rfl rfl rfl rfl (by kernel_rfl) (cmp_u32 _ _ M)) ?_
 refine jd_q rfl rfl rfl (qFieldAddr rfl rfl rfl rfl rfl) ?_
 refine jd_q rfl rfl rfl (qLd rfl rfl rfl rfl (CJ.loc rfl)) ?_
 refine jd_q rfl rfl rfl (qFieldAddr rfl rfl rfl rfl rfl) ?_
 refine jd_q rfl rfl rfl (qLd rfl rfl rfl rfl (CJ.loc rfl)) ?_
 refine jd_q rfl rfl rfl (qCall rfl rfl rfl rfl rfl (by kernel_rfl) (cmp_u32 _ _ M)) ?_
 refine jd_h rfl rfl rfl (hBuildSlice (cs := [_, _, _]) rfl rfl rfl (by rfl) (by rfl) (by rfl)) ?_; rintro _ _ _ ⟨b20, rfl, rfl, rfl⟩
 refine jd_grow (MLe.refl _) (fun _ h => List.mem_cons_of_mem _ h) (MLe.refl _) (fun _ h => h) ?_
 refine jd_h rfl rfl rfl (hCall rfl rfl rfl rfl rfl (by kernel_rfl) (or3 b20 (cmpI a.kind b.kind) (cmpI a.id b.id) (cmpI a.off b.off) M)) ?_; rintro _ M2 _ ⟨hM2, _, rfl, ⟨rfl, rfl⟩⟩
 refine ⟨_, _, MLe.refl _, hM2, fun _ h => h, fun _ h => h, ?_⟩
 iterate 2 refine dp rfl rfl ?_
 refine jd_nil ?_
 refine jPn ?_
 refine jT ?_
 refine jc_ret ?_
 refine jr1 rfl rfl ?_
 exact congrArg _ (kless_or a b)


/-! ### items -/
structure It where
 key : Ky
 ref : Int
 val : List By
 deriving DecidableEq, Repr
/-- an item's cells -/
def IR (M : Mem) (cs : List Value) (x : It) : Prop := ∃ s, cs = [.int .u8 x.key.kind, .int .u32 x.key.id, .int .u32 x.key.off, .int .i64 x.ref, s] ∧ BS M s x.val
theorem IR.mono {M M' : Mem} {cs : List Value} {x : It} (h : IR M cs x) (hM : MLe M M') : IR M' cs x := by
 obtain ⟨s, h1, h2⟩ := h; exact ⟨s, h1, h2.mono hM⟩
def itBad (x : It) : Bool := decide (x.ref ≠ 0 ∧ (x.ref < 8 ∨ 256 ≤ x.ref) ∨ 12 < x.val.length)
def itChk (x : It) : Int := if itBad x then 8 else 0
/-! bytes -/
def strB (xs : List By) : ByteArray := ⟨xs.toArray⟩
theorem toList_loop (bs : ByteArray) : ∀ (n i : Nat) (r : List UInt8), bs.size - i = n → ByteArray.toList.loop bs i r = r.reverse ++ bs.data.toList.drop i
 | 0, i, r, h => by
  unfold ByteArray.toList.loop
  rw [if_neg (by omega), List.drop_eq_nil_of_le (by have : bs.data.toList.length = bs.size := rfl; omega), List.append_nil]
 | n + 1, i, r, h => by
  unfold ByteArray.toList.loop
  have hlt : i < bs.data.toList.length := by have : bs.data.toList.length = bs.size := rfl; omega
  rw [if_pos (by omega), toList_loop bs n (i + 1) _ (by omega), List.drop_eq_getElem_cons hlt, List.reverse_cons, List.append_assoc]
  congr 2
  show [bs.data[i]!] ++ _ = _
  rw [getElem!_pos bs.data i (by simpa using hlt)]
  rfl
theorem strB_toList (xs : List By) : (strB xs).toList = xs := by
 unfold ByteArray.toList
 rw [toList_loop _ _ 0 [] rfl]; rfl
theorem strB_eq (xs ys : List By) : ((strB xs).toList == (strB ys).toList) = decide (xs = ys) := by
 rw [strB_toList, strB_toList]
 by_cases h : xs = ys <;> simp [h]
theorem strOfNums_b (xs : List By) : strOfNums (xs.map fun b => (b.toNat : Int)) = strB xs := by
 unfold strOfNums strB
 congr 2
 rw [List.map_map]
 conv => rhs; rw [← List.map_id xs]
 apply List.map_congr_left
 intro b _
 simp

theorem equal_spec (u v : Value) (xs ys : List By) (M : Mem) (h1 : BS M u xs) (h2 : BS M v ys) :
  SpecL Tryz.prog 66 #[u, v] M [] fun r _ _ => r = .bool (decide (xs = ys)) := by
 obtain ⟨a1, c1, rfl, -, s1⟩ := h1
 obtain ⟨a2, c2, rfl, -, s2⟩ := h2
 refine spec_body (vs := [_, _]) 10 _ Tryz.func66 rfl Tryz.ntmps66 rfl rfl ?_; intro W
 refine jc_seq ?_
 refine jc_region ?_
 refine jp rfl ?_
 refine jl_nil ?_
 refine jT ?_
 refine jc_seq ?_
 refine jc_region ?_
 refine jp rfl ?_
 refine jl_q rfl rfl (qEq (qStr (xs := xs.map fun b => (b.toNat : Int)) rfl rfl rfl (by simp) (by simpa [bcells, List.map_map, Function.comp_def] using s1.sj _)) (v' := .string (strB xs)) (by rw [strOfNums_b])) ?_
 refine jp rfl ?_
 refine jl_q rfl rfl (qEq (qStr (xs := ys.map fun b => (b.toNat : Int)) rfl rfl rfl (by simp) (by simpa [bcells, List.map_map, Function.comp_def] using s2.sj _)) (v' := .string (strB ys)) (by rw [strOfNums_b])) ?_
 refine jl_q rfl rfl (qEq (qP rfl rfl) (v' := .bool (decide (xs = ys))) (congrArg _ (strB_eq xs ys))) ?_
 refine jp rfl ?_
 refine jl_nil ?_
 refine jT ?_
 refine jc_ret ?_
 refine jr1 rfl rfl ?_
 rfl


theorem key_eq (a b : Ky) : decide ([a.kind, a.id, a.off] = [b.kind, b.id, b.off]) = decide (a = b) := by
 apply decide_eq_decide.2
 constructor
 ·intro h; cases a; cases b; simp at h; simp [h]
 ·rintro rfl; rfl
/-! clones -/
theorem Own.ofBuf (b : Nat) : Own (.slice (some ⟨b, 0, none⟩) 0 0) [(b, .cells ([] : List Value).toArray 5 (0, 0))] 5 1 0 [] := ⟨rfl, .inr ⟨b, 0, #[], rfl, rfl, by omega, by decide, rfl, rfl⟩⟩

theorem bclone_nil (c : Nat) (M : Mem) :
  SpecL Tryz.prog 69 #[.slice none 0 c] M [] fun v _ L' => Own v L' 5 1 0 [] := by
 refine spec_body (vs := [_]) 8 _ Tryz.func69 rfl Tryz.ntmps69 rfl rfl ?_; intro W
 refine jc_seq ?_
 refine jc_region ?_
 refine jp rfl ?_
 refine jl_nil ?_
 refine jT ?_
 refine jc_seq ?_
 refine jc_seq ?_
 refine jc_region ?_
 refine jp rfl ?_
 refine jl_q rfl rfl (qEq (qNil rfl rfl rfl rfl) (v' := .bool true) (by simp)) ?_
 refine jl_nil ?_
 refine jT ?_
 refine jc_yes rfl ?_
 refine jc_seq ?_
 refine jc_region ?_
 refine jp rfl ?_
 refine jl_nil ?_
 refine jT ?_
 refine jc_ret ?_
 refine jTr ?_
 refine jr1 rfl rfl ?_
 exact Own.nil _ _

theorem bclone_zero (b : Addr) (c : Nat) (M : Mem) :
  SpecL Tryz.prog 69 #[.slice (some b) 0 c] M [] fun v _ L' => Own v L' 5 1 0 [] := by
 refine spec_body (vs := [_]) 8 _ Tryz.func69 rfl Tryz.ntmps69 rfl rfl ?_; intro W
 refine jc_seq ?_
 refine jc_region ?_
 refine jp rfl ?_
 refine jl_nil ?_
 refine jT ?_
 refine jc_seq ?_
 refine jc_seq ?_
 refine jc_region ?_
 refine jp rfl ?_
 refine jl_q rfl rfl (qEq (qNil rfl rfl rfl rfl) (v' := .bool false) (by simp)) ?_
 refine jl_nil ?_
 refine jT ?_
 refine jc_no rfl ?_
 refine jc_skip ?_
 refine jT ?_
 refine jc_seq ?_
 refine jc_region ?_
 refine jl_h rfl rfl (hBuildSlice (z := [.int .u8 0]) (cs := []) rfl rfl rfl (by rfl) (by rfl) (by rfl)) ?_; rintro _ _ _ ⟨b5, rfl, rfl, rfl⟩
 refine jp rfl ?_
 refine jl_h rfl rfl (hAppend0 rfl rfl rfl rfl (Own.ofBuf b5)) ?_; rintro _ _ _ ⟨rfl, rfl, rfl⟩
 refine jp rfl ?_
 refine jl_nil ?_
 refine jT ?_
 refine jc_ret ?_
 refine jr1 rfl rfl ?_
 exact Own.ofBuf b5

theorem bclone_some (b off c : Nat) (xs : List By) (M : Mem) (hx : ∀ i v, (bcells xs)[i]? = some v → CM M b (off + i) v) (hn : xs.length ≤ 100000) :
  SpecL Tryz.prog 69 #[.slice (some ⟨b, off, none⟩) xs.length c] M [] fun v _ L' => Own v L' 5 1 xs.length (bcells xs) := by
 refine spec_body (vs := [_]) 8 _ Tryz.func69 rfl Tryz.ntmps69 rfl rfl ?_; intro W
 refine jc_seq ?_
 refine jc_region ?_
 refine jp rfl ?_
 refine jl_nil ?_
 refine jT ?_
 refine jc_seq ?_
 refine jc_seq ?_
 refine jc_region ?_
 refine jp rfl ?_
 refine jl_q rfl rfl (qEq (qNil rfl rfl rfl rfl) (v' := .bool false) (by simp)) ?_
 refine jl_nil ?_
 refine jT ?_
 refine jc_no rfl ?_
 refine jc_skip ?_
 refine jT ?_
 refine jc_seq ?_
 refine jc_region ?_
 refine jl_h rfl rfl (hBuildSlice (z := [.int .u8 0]) (cs := []) rfl rfl rfl (by rfl) (by rfl) (by rfl)) ?_; rintro _ _ _ ⟨b5, rfl, rfl, rfl⟩
 refine jp rfl ?_
 refine jl_h rfl rfl (hAppend (n := 0) (xs := []) (news := bcells xs) rfl rfl rfl rfl (Own.ofBuf b5) (by rw [bcells_len]; omega) (fun i v hv => (hx i v hv).cj _) rfl rfl (bcells_one xs) (by omega) (by decide)) ?_; rintro v7 _ _ ⟨rfl, R7, rfl, hown, _⟩
 refine jp rfl ?_
 refine jl_nil ?_
 refine jT ?_
 refine jc_ret ?_
 refine jr1 rfl rfl ?_
 simpa using hown


theorem bclone_spec (v : Value) (xs : List By) (M : Mem) (h : BS M v xs) (hn : xs.length ≤ 100000) : SpecL Tryz.prog 69 #[v] M [] fun u _ L' => Own u L' 5 1 xs.length (bcells xs) := by
 obtain ⟨a, c, rfl, -, hs⟩ := h
 cases a with
 | none =>
  have h0 : xs = [] := by
   rcases hs with h | ⟨b, off, h, _⟩
   ·have := congrArg List.length h; rw [bcells_len] at this; exact List.eq_nil_of_length_eq_zero this
   ·cases h
  subst h0
  exact bclone_nil c M
 | some a =>
  by_cases h0 : xs = []
  ·subst h0; exact bclone_zero a c M
  ·obtain ⟨b, off, e, hx⟩ := hs.open (by intro e; have := congrArg List.length e; rw [bcells_len] at this; exact h0 (List.eq_nil_of_length_eq_zero this))
   cases e
   exact bclone_some b off c xs M hx hn

theorem sclone_nil (c : Nat) (M : Mem) :
  SpecL Tryz.prog 80 #[.slice none 0 c] M [] fun v _ L' => Own v L' 5 1 0 [] := by
 refine spec_body (vs := [_]) 8 _ Tryz.func80 rfl Tryz.ntmps80 rfl rfl ?_; intro W
 refine jc_seq ?_
 refine jc_region ?_
 refine jp rfl ?_
 refine jl_nil ?_
 refine jT ?_
 refine jc_seq ?_
 refine jc_seq ?_
 refine jc_region ?_
 refine jp rfl ?_
 refine jl_q rfl rfl (qEq (qNil rfl rfl rfl rfl) (v' := .bool true) (by simp)) ?_
 refine jl_nil ?_
 refine jT ?_
 refine jc_yes rfl ?_
 refine jc_seq ?_
 refine jc_region ?_
 refine jp rfl ?_
 refine jl_nil ?_
 refine jT ?_
 refine jc_ret ?_
 refine jTr ?_
 refine jr1 rfl rfl ?_
 exact Own.nil _ _

theorem sclone_zero (b : Addr) (c : Nat) (M : Mem) :
  SpecL Tryz.prog 80 #[.slice (some b) 0 c] M [] fun v _ L' => Own v L' 5 1 0 [] := by
 refine spec_body (vs := [_]) 8 _ Tryz.func80 rfl Tryz.ntmps80 rfl rfl ?_; intro W
 refine jc_seq ?_
 refine jc_region ?_
 refine jp rfl ?_
 refine jl_nil ?_
 refine jT ?_
 refine jc_seq ?_
 refine jc_seq ?_
 refine jc_region ?_
 refine jp rfl ?_
 refine jl_q rfl rfl (qEq (qNil rfl rfl rfl rfl) (v' := .bool false) (by simp)) ?_
 refine jl_nil ?_
 refine jT ?_
 refine jc_no rfl ?_
 refine jc_skip ?_
 refine jT ?_
 refine jc_seq ?_
 refine jc_region ?_
 refine jl_h rfl rfl (hBuildSlice (z := [.int .u8 0]) (cs := []) rfl rfl rfl (by rfl) (by rfl) (by rfl)) ?_; rintro _ _ _ ⟨b5, rfl, rfl, rfl⟩
 refine jp rfl ?_
 refine jl_h rfl rfl (hAppend0 rfl rfl rfl rfl (Own.ofBuf b5)) ?_; rintro _ _ _ ⟨rfl, rfl, rfl⟩
 refine jp rfl ?_
 refine jl_nil ?_
 refine jT ?_
 refine jc_ret ?_
 refine jr1 rfl rfl ?_
 exact Own.ofBuf b5

theorem sclone_some (b off c : Nat) (xs : List By) (M : Mem) (hx : ∀ i v, (bcells xs)[i]? = some v → CM M b (off + i) v) (hn : xs.length ≤ 100000) :
  SpecL Tryz.prog 80 #[.slice (some ⟨b, off, none⟩) xs.length c] M [] fun v _ L' => Own v L' 5 1 xs.length (bcells xs) := by
 refine spec_body (vs := [_]) 8 _ Tryz.func80 rfl Tryz.ntmps80 rfl rfl ?_; intro W
 refine jc_seq ?_
 refine jc_region ?_
 refine jp rfl ?_
 refine jl_nil ?_
 refine jT ?_
 refine jc_seq ?_
 refine jc_seq ?_
 refine jc_region ?_
 refine jp rfl ?_
 refine jl_q rfl rfl (qEq (qNil rfl rfl rfl rfl) (v' := .bool false) (by simp)) ?_
 refine jl_nil ?_
 refine jT ?_
 refine jc_no rfl ?_
 refine jc_skip ?_
 refine jT ?_
 refine jc_seq ?_
 refine jc_region ?_
 refine jl_h rfl rfl (hBuildSlice (z := [.int .u8 0]) (cs := []) rfl rfl rfl (by rfl) (by rfl) (by rfl)) ?_; rintro _ _ _ ⟨b5, rfl, rfl, rfl⟩
 refine jp rfl ?_
 refine jl_h rfl rfl (hAppend (n := 0) (xs := []) (news := bcells xs) rfl rfl rfl rfl (Own.ofBuf b5) (by rw [bcells_len]; omega) (fun i v hv => (hx i v hv).cj _) rfl rfl (bcells_one xs) (by omega) (by decide)) ?_; rintro v7 _ _ ⟨rfl, R7, rfl, hown, _⟩
 refine jp rfl ?_
 refine jl_nil ?_
 refine jT ?_
 refine jc_ret ?_
 refine jr1 rfl rfl ?_
 simpa using hown


theorem sclone_spec (v : Value) (xs : List By) (M : Mem) (h : BS M v xs) (hn : xs.length ≤ 100000) : SpecL Tryz.prog 80 #[v] M [] fun u _ L' => Own u L' 5 1 xs.length (bcells xs) := by
 obtain ⟨a, c, rfl, -, hs⟩ := h
 cases a with
 | none =>
  have h0 : xs = [] := by
   rcases hs with h | ⟨b, off, h, _⟩
   ·have := congrArg List.length h; rw [bcells_len] at this; exact List.eq_nil_of_length_eq_zero this
   ·cases h
  subst h0
  exact sclone_nil c M
 | some a =>
  by_cases h0 : xs = []
  ·subst h0; exact sclone_zero a c M
  ·obtain ⟨b, off, e, hx⟩ := hs.open (by intro e; have := congrArg List.length e; rw [bcells_len] at this; exact h0 (List.eq_nil_of_length_eq_zero this))
   cases e
   exact sclone_some b off c xs M hx hn

theorem itcheck_spec (x : It) (s : Value) (M : Mem) (hs : BS M s x.val) :
  SpecL Tryz.prog 19 #[.agg #[.int .u8 x.key.kind, .int .u32 x.key.id, .int .u32 x.key.off, .int .i64 x.ref, s]] M [] fun v _ _ => v = .int .i64 (itChk x) := by
 obtain ⟨a, c, rfl, -, -⟩ := hs
 refine spec_body (vs := [_]) 22 _ Tryz.func19 rfl Tryz.ntmps19 rfl rfl ?_; intro W
 refine jc_seq ?_
 refine jc_region ?_
 refine jl_h rfl rfl (hBox (cs := [_, _, _, _, _]) rfl rfl rfl rfl) ?_; rintro _ _ _ ⟨b1, rfl, rfl, rfl⟩
 refine jp rfl ?_
 refine jl_nil ?_
 refine jT ?_
 refine jc_seq ?_
 refine jc_seq ?_
 refine jc_region ?_
 refine jl_q rfl rfl (qFieldAddr rfl rfl rfl rfl rfl) ?_
 refine jl_q rfl rfl (qLd rfl rfl rfl rfl (CJ.loc rfl)) ?_
 refine js rfl (fun h5 => ?_) (fun h5 => ?_)
 ·refine jp rfl ?_
  refine jl_q rfl rfl (qFieldAddr rfl rfl rfl rfl rfl) ?_
  refine jl_q rfl rfl (qLd rfl rfl rfl rfl (CJ.loc rfl)) ?_
  refine js rfl (fun h9 => ?_) (fun h9 => ?_)
  ·iterate 12 refine jp rfl ?_
   refine jl_nil ?_
   refine jT ?_
   refine jc_yes rfl ?_
   refine jc_seq ?_
   refine jc_region ?_
   refine jp rfl ?_
   refine jl_nil ?_
   refine jT ?_
   refine jc_ret ?_
   refine jTr ?_
   refine jr1 rfl rfl ?_
   show Value.int _ 8 = _
   rw [itChk, if_pos (by unfold itBad; apply decide_eq_true; omega)]
  ·refine jp rfl ?_
   refine jl_q rfl rfl (qFieldAddr rfl rfl rfl rfl rfl) ?_
   refine jl_q rfl rfl (qLd rfl rfl rfl rfl (CJ.loc rfl)) ?_
   refine js rfl (fun h13 => ?_) (fun h13 => ?_)
   ·iterate 8 refine jp rfl ?_
    refine jl_nil ?_
    refine jT ?_
    refine jc_yes rfl ?_
    refine jc_seq ?_
    refine jc_region ?_
    refine jp rfl ?_
    refine jl_nil ?_
    refine jT ?_
    refine jc_ret ?_
    refine jTr ?_
    refine jr1 rfl rfl ?_
    show Value.int _ 8 = _
    rw [itChk, if_pos (by unfold itBad; apply decide_eq_true; omega)]
   ·iterate 3 refine jp rfl ?_
    refine jl_q rfl rfl (qFieldAddr rfl rfl rfl rfl rfl) ?_
    refine jl_q rfl rfl (qLd rfl rfl rfl rfl (CJ.loc rfl)) ?_
    refine jl_q rfl rfl (qLen rfl rfl rfl) ?_
    refine js rfl (fun h20 => ?_) (fun h20 => ?_)
    ·refine jp rfl ?_
     refine jl_nil ?_
     refine jT ?_
     refine jc_yes rfl ?_
     refine jc_seq ?_
     refine jc_region ?_
     refine jp rfl ?_
     refine jl_nil ?_
     refine jT ?_
     refine jc_ret ?_
     refine jTr ?_
     refine jr1 rfl rfl ?_
     show Value.int _ 8 = _
     rw [itChk, if_pos (by unfold itBad; apply decide_eq_true; omega)]
    ·refine jp rfl ?_
     refine jl_nil ?_
     refine jT ?_
     refine jc_no rfl ?_
     refine jc_skip ?_
     refine jT ?_
     refine jc_seq ?_
     refine jc_region ?_
     refine jp rfl ?_
     refine jl_nil ?_
     refine jT ?_
     refine jc_ret ?_
     refine jr1 rfl rfl ?_
     show Value.int _ 0 = _
     rw [itChk, if_neg (by unfold itBad; intro h; have := of_decide_eq_true h; omega)]
 ·iterate 11 refine jp rfl ?_
  refine jl_q rfl rfl (qFieldAddr rfl rfl rfl rfl rfl) ?_
  refine jl_q rfl rfl (qLd rfl rfl rfl rfl (CJ.loc rfl)) ?_
  refine jl_q rfl rfl (qLen rfl rfl rfl) ?_
  refine js rfl (fun h20 => ?_) (fun h20 => ?_)
  ·refine jp rfl ?_
   refine jl_nil ?_
   refine jT ?_
   refine jc_yes rfl ?_
   refine jc_seq ?_
   refine jc_region ?_
   refine jp rfl ?_
   refine jl_nil ?_
   refine jT ?_
   refine jc_ret ?_
   refine jTr ?_
   refine jr1 rfl rfl ?_
   show Value.int _ 8 = _
   rw [itChk, if_pos (by unfold itBad; apply decide_eq_true; omega)]
  ·refine jp rfl ?_
   refine jl_nil ?_
   refine jT ?_
   refine jc_no rfl ?_
   refine jc_skip ?_
   refine jT ?_
   refine jc_seq ?_
   refine jc_region ?_
   refine jp rfl ?_
   refine jl_nil ?_
   refine jT ?_
   refine jc_ret ?_
   refine jr1 rfl rfl ?_
   show Value.int _ 0 = _
   rw [itChk, if_neg (by unfold itBad; intro h; have := of_decide_eq_true h; omega)]

theorem itsame_spec (x y : It) (s t : Value) (M : Mem) (h1 : BS M s x.val) (h2 : BS M t y.val) :
  SpecL Tryz.prog 27 #[.agg #[.int .u8 x.key.kind, .int .u32 x.key.id, .int .u32 x.key.off, .int .i64 x.ref, s], .agg #[.int .u8 y.key.kind, .int .u32 y.key.id, .int .u32 y.key.off, .int .i64 y.ref, t]] M [] fun v _ _ => v = .bool (decide (x = y)) := by
 refine spec_body (vs := [_, _]) 24 _ Tryz.func27 rfl Tryz.ntmps27 rfl rfl ?_; intro W
 refine jc_seq ?_
 refine jc_region ?_
 refine jl_h rfl rfl (hBox (cs := [_, _, _, _, _]) rfl rfl rfl rfl) ?_; rintro _ _ _ ⟨b2, rfl, rfl, rfl⟩
 refine jl_h rfl rfl (hBox (cs := [_, _, _, _, _]) rfl rfl rfl rfl) ?_; rintro _ _ _ ⟨b3, rfl, rfl, rfl⟩
 refine jp rfl ?_
 refine jl_nil ?_
 refine jT ?_
 refine jc_seq ?_
 refine jc_region ?_
 refine jl_q rfl rfl (qFieldAddr rfl rfl rfl rfl rfl) ?_
 refine jl_q rfl rfl (qLdL rfl rfl rfl rfl rfl) ?_
 refine jl_q rfl rfl (qFieldAddr rfl rfl rfl rfl rfl) ?_
 refine jl_q rfl rfl (qLdL rfl rfl rfl rfl rfl) ?_
 refine jl_qb rfl rfl (qEqI (ns := [x.key.kind, x.key.id, x.key.off]) (ms := [y.key.kind, y.key.id, y.key.off]) rfl rfl rfl rfl rfl rfl ⟨rfl, rfl⟩) (fun h9 => ?_) (fun h9 => ?_)
 ·refine jp rfl ?_
  refine jl_q rfl rfl (qFieldAddr rfl rfl rfl rfl rfl) ?_
  refine jl_q rfl rfl (qLd rfl rfl rfl rfl (CJ.loc rfl)) ?_
  refine jl_q rfl rfl (qFieldAddr rfl rfl rfl rfl rfl) ?_
  refine jl_q rfl rfl (qLd rfl rfl rfl rfl (CJ.loc rfl)) ?_
  refine js rfl (fun h15 => ?_) (fun h15 => ?_)
  ·iterate 2 refine jp rfl ?_
   refine jl_q rfl rfl (qFieldAddr rfl rfl rfl rfl rfl) ?_
   refine jl_q rfl rfl (qLd rfl rfl rfl rfl (CJ.loc rfl)) ?_
   refine jl_q rfl rfl (qFieldAddr rfl rfl rfl rfl rfl) ?_
   refine jl_q rfl rfl (qLd rfl rfl rfl rfl (CJ.loc rfl)) ?_
   refine jl_q rfl rfl (qCall rfl rfl rfl rfl rfl (by kernel_rfl) (equal_spec s t x.val y.val M h1 h2)) ?_
   iterate 2 refine jp rfl ?_
   refine jl_nil ?_
   refine jT ?_
   refine jc_ret ?_
   refine jr1 rfl rfl ?_
   rw [key_eq] at h9
   refine congrArg _ (decide_eq_decide.2 ⟨fun hv => ?_, fun e => by rw [e]⟩)
   have hk := of_decide_eq_true h9
   cases x; cases y; simp only at hk hv h15; subst hk hv h15; rfl
  ·iterate 9 refine jp rfl ?_
   refine jl_nil ?_
   refine jT ?_
   refine jc_ret ?_
   refine jr1 rfl rfl ?_
   have hne : x ≠ y := by rintro rfl; exact h15 rfl
   simp [hne]
 ·iterate 15 refine jp rfl ?_
  refine jl_nil ?_
  refine jT ?_
  refine jc_ret ?_
  refine jr1 rfl rfl ?_
  have hne : x ≠ y := by rintro rfl; simp at h9
  simp [hne]


/-! a block of one's own that is a slice's row, read-only from here on -/
theorem BS.of_sm {M : Mem} {a : Option Addr} {n c : Nat} {xs : List By} (hn : n = xs.length) (hc : n ≤ c) (h : SM M a (bcells xs)) : BS M (.slice a n c) xs := ⟨a, c, by rw [hn], by omega, h⟩

theorem twin_spec (x : It) (s : Value) (M : Mem) (hs : BS M s x.val) (hl : x.val.length ≤ 100000) :
  SpecL Tryz.prog 154 #[.agg #[.int .u8 x.key.kind, .int .u32 x.key.id, .int .u32 x.key.off, .int .i64 x.ref, s]] M [] fun v M' L' => ∃ cs, v = .agg cs.toArray ∧ IR (newOf M M') cs x ∧ L' = [] := by
 refine spec_body (vs := [_]) 8 _ Tryz.func154 rfl Tryz.ntmps154 rfl rfl ?_; intro W
 refine jc_seq ?_
 refine jc_region ?_
 refine jl_h rfl rfl (hBox (cs := [_, _, _, _, _]) rfl rfl rfl rfl) ?_; rintro _ _ _ ⟨b1, rfl, rfl, rfl⟩
 refine jl_h rfl rfl (hAlloc rfl rfl) ?_; rintro _ _ _ ⟨b2, rfl, rfl, rfl⟩
 refine jl_nil ?_
 refine jT ?_
 refine jc_seq ?_
 refine jc_region ?_
 refine jl_q rfl rfl (qFieldAddr rfl rfl rfl rfl rfl) ?_
 refine jl_q rfl rfl (qLd rfl rfl rfl rfl (CJ.loc rfl)) ?_
 refine jl_h rfl rfl (hCall rfl rfl rfl rfl rfl (by kernel_rfl) (bclone_spec s x.val M hs hl)) ?_; rintro _ M1 _ ⟨hM1, _, rfl, hown⟩
 refine jl_ownN hown (by simp) ?_
 intro M2 a1 c1 hM2 e1 hc1 hs1; subst e1
 replace hs1 := hs1.mono (newOf_anti hM1)
 refine jl_q rfl rfl (qFieldAddr rfl rfl rfl rfl rfl) ?_
 refine jl_s rfl (hStoreL rfl rfl rfl rfl rfl rfl rfl rfl) ?_; rintro _ _ _ ⟨rfl, rfl⟩
 refine jl_nil ?_
 refine jT ?_
 refine jc_seq ?_
 refine jc_region ?_
 refine jl_q rfl rfl (qLdL rfl rfl rfl rfl rfl) ?_
 refine jl_s rfl (hStoreL rfl rfl rfl rfl rfl rfl rfl rfl) ?_; rintro _ _ _ ⟨rfl, rfl⟩
 refine jl_nil ?_
 refine jT ?_
 refine jc_ret ?_
 refine jrsd (rs := [_]) ([]) (by simp) rfl (.cons (.agg rfl rfl rfl) .nil) ?_
 exact ⟨_, rfl, ⟨_, rfl, a1, c1, rfl, hc1, hs1⟩, rfl⟩

end Go.Proofs.YtckdncmjkloebaaGreat
