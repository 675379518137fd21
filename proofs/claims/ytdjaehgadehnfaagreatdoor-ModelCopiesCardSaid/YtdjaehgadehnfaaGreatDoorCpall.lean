/- Cpall: one text of Qt, Cpl, Tens, Cpm, Copies (printed by mergeo.py). -/
import Derived.Test.YtdjaehgadehnfaaGreatDoorQs
import Derived.Laws.Concat
import Derived.Test.YtdjaehgadehnfaaGreatDoorApl
import Derived.Test.YtdjaehgadehnfaaGreatDoorOn
import Derived.Test.YtdjaehgadehnfaaGreatDoorIdl
/- Quiet operations on strings: joined, cut, a byte. No statement of the seat is proved here. -/
namespace Go.Proofs.YtdjaehgadehnfaaGreatDoor
set_option linter.unusedVariables false
set_option linter.unusedSimpArgs false
open Go.RowKit Go.MapKept

section
variable {P : Program} {ops : Array Oper} {N : Fs} {F : Fr} {E : Ent} {M : Mem} {L : Lc} {o : Oper}
theorem qStrAdd {x y : Operand} {t t' : TypeId} {a b : Str} (hg : gd ops F o = some true) (ho : o.op = .binOp .add t x y t') (hx : ev F x = some (.string a)) (hy : ev F y = some (.string b)) (h : a.size + b.size ≤ 1000000) : QF P ops N F M L o (.string (a ++ b)) := qf_of hg fun ac ha w _ => by
  have hr := run_string_add_sum (P := P) w a b (by omega)
  have : (binOp .add t (.string a) (.string b)).run P w = .ok (.string (a ++ b)) w := by
    show (Op.stringOp .add a b).run P w = _
    exact hr
  simp only [execOp, ho, ha.ev hx, ha.ev hy]
  simp [eqGuard, this]
theorem qStrIdx {x ix : Operand} {t : TypeId} {s : Str} {k : IntKind} {i : Int} {b : UInt8} (hg : gd ops F o = some true) (ho : o.op = .index t x ix) (hx : ev F x = some (.string s)) (hi : ev F ix = some (.int k i)) [ht : Und P t .string] (h0 : 0 ≤ i) (hb : s[i.toNat]? = some b) : QF P ops N F M L o (.int .u8 b.toNat) := qf_of hg fun ac ha w _ => by
  simp [execOp, ho, ha.ev hx, ha.ev hi, Instr.index, asIntOf, run_underlying ht.h, h0, hb]
theorem qStrSl {x : Operand} {t : TypeId} {lo hi : Option Operand} {s : Str} {l h : Nat} (hg : gd ops F o = some true) (ho : o.op = .slice t x lo hi none) (hx : ev F x = some (.string s)) [ht : Und P t .string]
    (hh : Bd F hi s.size h) (hl : Bd F lo 0 l) (hle : l ≤ h ∧ h ≤ s.size) : QF P ops N F M L o (.string (s.extract l h)) := qf_of hg fun ac hac w _ => by
  have hb := run_bounds (P := P) hac (isS := false) (len := s.size) (cap := s.size) (m := s.size) (mx := none) (.no _) hh hl hle.1 hle.2 (Nat.le_refl _) (.inl rfl) w
  simp [execOp, ho, Instr.sliceAt, run_underlying ht.h, Instr.slice, hac.ev hx] at hb ⊢
  simp [hb]
end
end Go.Proofs.YtdjaehgadehnfaaGreatDoor
/- Plain laws: a path's parts, whatever its volume's number; volumes with the same files tell the same. No statement of the seat is proved here. -/
namespace Go.Proofs.YtdjaehgadehnfaaGreatDoor
set_option linter.unusedVariables false
set_option linter.unusedSimpArgs false
open Go.RowKit

abbrev ofL (l : List UInt8) : Str := ⟨l.toArray⟩
theorem idx_hit : ∀ (a b : List UInt8), 47 ∉ a → Lib.index (a ++ 47 :: b) [47] = (a.length : Int)
  | [], b, _ => by simp [Lib.index]
  | x :: a, b, h => by
    simp only [List.mem_cons, not_or] at h
    have ih := idx_hit a b h.2
    have h1 : ((47 : UInt8) == x) = false := by simpa using h.1
    have h2 : ((a.length : Int) == -1) = false := by simp
    rw [List.cons_append, Lib.index, ih]
    simp only [List.isPrefixOf, h1, Bool.false_and, Bool.false_eq_true, if_false, h2, List.length_cons]; omega
theorem idx_miss : ∀ (a : List UInt8), 47 ∉ a → Lib.index a [47] = -1
  | [], _ => by simp [Lib.index]
  | x :: a, h => by
    simp only [List.mem_cons, not_or] at h
    have ih := idx_miss a h.2
    have h1 : ((47 : UInt8) == x) = false := by simpa using h.1
    rw [Lib.index, ih]
    simp only [List.isPrefixOf, h1, Bool.false_and, Bool.false_eq_true, if_false]; rfl
theorem ofL_extract (l : List UInt8) (i j : Nat) : (ofL l).extract i j = ofL ((l.drop i).take (j - i)) := by
  have h : ((ofL l).extract i j).data = l.toArray.extract i j := by simp [ByteArray.data_extract]
  have h2 : l.toArray.extract i j = ((l.drop i).take (j - i)).toArray := by
    apply Array.ext'
    rw [List.extract_toArray]
  show (ofL l).extract i j = ⟨_⟩
  rw [← h2, ← h]
theorem split_hit (a b : List UInt8) (h : 47 ∉ a) : splitS (ofL (a ++ 47 :: b)) = ofL a :: splitS (ofL b) := by
  have hi : Lib.indexB (ofL (a ++ 47 :: b)) strokeS = (a.length : Int) := idx_hit a b h
  unfold splitS
  have e2 : (ofL (a ++ 47 :: b)).extract (a.length + strokeS.size) (ofL (a ++ 47 :: b)).size = ofL b := by
    rw [ofL_extract]
    have e : (ofL (a ++ 47 :: b)).size = a.length + 1 + b.length := by show (a ++ 47 :: b).toArray.size = _; simp; omega
    rw [e, show strokeS.size = 1 from rfl, show (a ++ 47 :: b).drop (a.length + 1) = b by rw [← List.drop_drop]; simp]
    rw [List.take_of_length_le (by omega)]
  have e1 : (ofL (a ++ 47 :: b)).extract 0 (a.length + 0) = ofL a := by
    rw [ofL_extract]; simp
  rw [Lib.countB_hit _ _ a.length (by decide) hi, Nat.add_comm 1, Lib.splitB_hit _ _ _ _ a.length hi, e1, e2]
theorem split_miss (a : List UInt8) (h : 47 ∉ a) : splitS (ofL a) = [ofL a] := by
  have hi : Lib.indexB (ofL a) strokeS = -1 := idx_miss a h
  unfold splitS
  exact Lib.splitB_miss _ _ _ _ hi
/-- a path in a volume -/
def tailN (r : List UInt8) : List Str := match r with
  | [] => []
  | _ :: r => splitS (ofL r)
theorem split_path (d r : List UInt8) (hd : 47 ∉ d) (hr : r = [] ∨ ∃ r', r = 47 :: r') : splitS (ofL (47 :: (d ++ r))) = ofL [] :: ofL d :: tailN r := by
  have := split_hit [] (d ++ r) (by simp)
  rw [List.nil_append] at this
  rw [this]
  rcases hr with rfl | ⟨r', rfl⟩
  · rw [List.append_nil, split_miss d hd]; rfl
  · rw [split_hit d r' hd]; rfl
theorem part_path (d r : List UInt8) (n : Int) (hd : 47 ∉ d) (hr : r = [] ∨ ∃ r', r = 47 :: r') (hl : d.length + r.length ≤ 63) (h1 : numS (ofL d) = some n) (h2 : (⟨(Lib.itoa n).toArray⟩ : Str) = ofL d) (h3 : d.length ≤ 9) (h4 : 0 ≤ n) : partF (ofL (47 :: (d ++ r))) = if (tailN r).all okName = true then some (n, tailN r) else none := by
  unfold partF
  have hz : (ofL (47 :: (d ++ r))).size = 1 + d.length + r.length := by show (47 :: (d ++ r)).toArray.size = _; simp; omega
  have hz2 : (ofL d).size = d.length := by show d.toArray.size = _; simp
  rw [if_pos (by omega), split_path d r hd hr]
  unfold partL
  simp only
  rw [if_pos True.intro, h1]
  simp only
  by_cases hall : (tailN r).all okName = true
  · rw [if_pos hall, if_pos ⟨by omega, h2, h4, hall⟩]
  · rw [if_neg hall, if_neg (fun h => hall h.2.2.2)]
/-! volumes with the same files -/
def flsOf (S : PS) (vol : Int) : Option Fls := (getA vol S.vols).map (·.files)
section
variable {S : PS} {a b : Int} (h : flsOf S a = flsOf S b)
include h
theorem walk_fl (n : List Str) : walkS S a n = walkS S b n := by
  unfold walkS
  unfold flsOf at h
  cases h1 : getA a S.vols <;> cases h2 : getA b S.vols <;> rw [h1, h2] at h <;> simp at h
  · simp only; rw [h]
theorem fileAt_fl (id : Int) : fileAt S a id = fileAt S b id := by
  unfold fileAt
  unfold flsOf at h
  cases h1 : getA a S.vols <;> cases h2 : getA b S.vols <;> rw [h1, h2] at h <;> simp at h
  · simp only [Option.bind_some]; rw [h]
theorem isDir_fl (id : Int) : isDir S a id = isDir S b id := by unfold isDir; rw [fileAt_fl h]
theorem list_fl (n : List Str) : (listS S (a, n)).2 = (listS S (b, n)).2 := by
  unfold listS; simp only; rw [walk_fl h]
  cases walkS S b n with
  | error e => rfl
  | ok id => simp only; rw [isDir_fl h]; unfold namesAt; rw [fileAt_fl h]
theorem stat_fl (n : List Str) : (statS S (a, n)).2 = (statS S (b, n)).2 := by
  unfold statS; simp only; rw [walk_fl h]
  cases walkS S b n with
  | error e => rfl
  | ok id => simp only; rw [fileAt_fl h]
theorem read_fl (c d : CL) (n : List Str) (ha : c.a = d.a) (hb : c.b = d.b) : (readS S c (a, n)).2 = (readS S d (b, n)).2 := by
  have hf : fileS S (a, n) = fileS S (b, n) := by
    unfold fileS; simp only; rw [walk_fl h]
    cases walkS S b n with
    | error e => rfl
    | ok id => simp only; rw [isDir_fl h]
  unfold readS; simp only; rw [hf, ha, hb]
  cases hw : fileS S (b, n) with
  | error e => simp only
  | ok id => simp only; unfold dataAt; rw [fileAt_fl h]
end
end Go.Proofs.YtdjaehgadehnfaaGreatDoor
/- Walks: tens (numbers below a hundred in digits), and what the numbers to 31 are. -/
namespace Go.Proofs.YtdjaehgadehnfaaGreatDoor
set_option linter.unusedVariables false
set_option linter.unusedSimpArgs false
open Go.RowKit Go.MapKept
set_option linter.unusedVariables false

/-! ### digits -/
def digs : List UInt8 := [48, 49, 50, 51, 52, 53, 54, 55, 56, 57]
def tens1 (n : Nat) : List UInt8 := (digs.drop n).take 1
def tens2 (n : Nat) : List UInt8 := if n < 10 then tens1 n else tens1 (n / 10) ++ tens1 (n % 10)
theorem tens1_len (n : Nat) (h : n < 10) : (tens1 n).length = 1 := by unfold tens1 digs; simp; omega
theorem ofL_size (l : List UInt8) : (ofL l).size = l.length := rfl
theorem ofL_app (a b : List UInt8) : ofL a ++ ofL b = ofL (a ++ b) := by
  apply ByteArray.ext; rw [ByteArray.data_append]; unfold ofL; simp

theorem tens_small (n : Nat) (M : Mem) (h : n < 10) :
    SpecL Tryz.prog 21 #[.int .i64 n] M [] fun u _ L' => u = .string (ofL (tens1 n)) ∧ L' = [] := by
  refine spec_body (vs := [_]) 16 _ Tryz.func21 rfl Tryz.ntmps21 rfl rfl ?_; intro W
  refine jc_seq ?_
  refine jc_region ?_
  refine jp rfl ?_
  refine jl_nil ?_
  refine jT ?_
  refine jc_seq ?_
  refine jc_seq ?_
  refine jc_region ?_
  refine jp rfl ?_
  refine jt rfl (decide_eq_true (by omega)) ?_
  refine jl_nil ?_
  refine jT ?_
  refine jc_yes rfl ?_
  refine jc_seq ?_
  refine jc_region ?_
  iterate 2 refine jp rfl ?_
  refine ja rfl (by omega) ?_
  refine jl_q rfl rfl (qStrSl (s := ofL digs) (l := n) (h := n + 1) rfl rfl rfl (.of rfl (by omega) rfl) (.of rfl (by omega) rfl) (by rw [ofL_size]; show n ≤ n + 1 ∧ n + 1 ≤ 10; omega)) ?_
  refine jp rfl ?_
  refine jl_nil ?_
  refine jT ?_
  refine jc_ret ?_
  refine jTr ?_
  refine jr1 rfl rfl ?_
  refine ⟨?_, rfl⟩
  rw [ofL_extract, Nat.add_sub_cancel_left]; rfl

theorem tens_two (n : Nat) (M : Mem) (h : 10 ≤ n) (hb : n < 100) :
    SpecL Tryz.prog 21 #[.int .i64 n] M [] fun u _ L' => u = .string (ofL (tens1 (n / 10) ++ tens1 (n % 10))) ∧ L' = [] := by
  have ed : Int.tdiv (n : Int) 10 = ((n / 10 : Nat) : Int) := by rw [Int.tdiv_eq_ediv_of_nonneg (by omega)]; rfl
  have em : Int.tmod (n : Int) 10 = ((n % 10 : Nat) : Int) := by rw [Int.tmod_eq_emod_of_nonneg (by omega)]; rfl
  refine spec_body (vs := [_]) 16 _ Tryz.func21 rfl Tryz.ntmps21 rfl rfl ?_; intro W
  refine jc_seq ?_
  refine jc_region ?_
  refine jp rfl ?_
  refine jl_nil ?_
  refine jT ?_
  refine jc_seq ?_
  refine jc_seq ?_
  refine jc_region ?_
  refine jp rfl ?_
  refine jf rfl (decide_eq_false (by omega)) ?_
  refine jl_nil ?_
  refine jT ?_
  refine jc_no rfl ?_
  refine jc_skip ?_
  refine jT ?_
  refine jc_seq ?_
  refine jc_region ?_
  refine jp rfl ?_
  refine jl_q rfl rfl (qEq (qQuo rfl rfl rfl rfl (by omega) (by omega) (by omega)) (v' := .int .i64 ((n / 10 : Nat) : Int)) (by first | rfl | rw [ed])) ?_
  refine jl_h rfl rfl (hCall rfl rfl rfl rfl rfl (by kernel_rfl) (tens_small (n / 10) M (by omega))) ?_; rintro _ M1 _ ⟨hM1, _, rfl, ⟨rfl, rfl⟩⟩
  refine jp rfl ?_
  refine jl_q rfl rfl (qEq (qRem rfl rfl rfl rfl (by omega) (by omega)) (v' := .int .i64 ((n % 10 : Nat) : Int)) (by first | rfl | rw [em])) ?_
  refine jl_h rfl rfl (hCall rfl rfl rfl rfl rfl (by kernel_rfl) (tens_small (n % 10) M1 (by omega))) ?_; rintro _ M2 _ ⟨hM2, _, rfl, ⟨rfl, rfl⟩⟩
  refine jl_q rfl rfl (qStrAdd (a := ofL (tens1 (n / 10))) (b := ofL (tens1 (n % 10))) rfl rfl rfl rfl (by rw [ofL_size, ofL_size, tens1_len _ (by omega), tens1_len _ (by omega)]; omega)) ?_
  refine jp rfl ?_
  refine jl_nil ?_
  refine jT ?_
  refine jc_ret ?_
  refine jr1 rfl rfl ?_
  refine ⟨?_, rfl⟩
  rw [ofL_app]


theorem tens_spec (n : Nat) (M : Mem) (h : n < 100) : SpecL Tryz.prog 21 #[.int .i64 n] M [] fun u _ L' => u = .string (ofL (tens2 n)) ∧ L' = [] := by
  unfold tens2
  split
  · exact tens_small n M ‹_›
  · exact tens_two n M (by omega) h

/-- what is known of the numbers that a model may give -/
def tensOk (n : Nat) : Bool := numS (ofL (tens2 n)) == some (n : Int) && decide ((Lib.itoa n) = tens2 n) && !(tens2 n).contains 47 && decide ((tens2 n).length ≤ 2)
theorem tens_ok : (List.range 100).all tensOk = true := by kernel_rfl
theorem tens_fact (n : Nat) (h : n < 100) : numS (ofL (tens2 n)) = some (n : Int) ∧ (⟨(Lib.itoa n).toArray⟩ : Str) = ofL (tens2 n) ∧ 47 ∉ tens2 n ∧ (tens2 n).length ≤ 2 := by
  have := List.all_eq_true.1 tens_ok n (List.mem_range.2 h)
  unfold tensOk at this
  simp only [Bool.and_eq_true, beq_iff_eq, decide_eq_true_eq, Bool.not_eq_true', List.contains_eq_mem, decide_eq_false_iff_not] at this
  exact ⟨this.1.1.1, by rw [this.1.1.2]; try rfl, this.1.2, this.2⟩
end Go.Proofs.YtdjaehgadehnfaaGreatDoor
/- The plain law of copies: looks at a volume and at its copy are answered alike. -/
namespace Go.Proofs.YtdjaehgadehnfaaGreatDoor
set_option linter.unusedVariables false
set_option linter.unusedSimpArgs false
open Go.RowKit Go.MapKept
set_option linter.unusedVariables false

abbrev lk3 (p : Str) : List CL := [oneC 16 p, oneC 17 p, { oneC 8 p with b := 4096 }]
theorem do_look {S : PS} {c : CL} {k : Nat} (hk : c.kind = (k : Int)) (h : k = 8 ∨ k = 16 ∨ k = 17) : doI insB partF S c = match partF c.path with
    | none => (S, told 270)
    | some w => opI insB S c w (0, []) k := by
  unfold doI
  rw [if_neg (by omega), show c.kind.toNat = k by omega]
  have hp : pathsOf k = 1 := by rcases h with rfl | rfl | rfl <;> rfl
  rw [hp, if_neg (by decide)]; simp only [if_true]
  cases partF c.path <;> rfl
theorem do_look_same {S : PS} {c : CL} {k : Nat} (hk : c.kind = (k : Int)) (h : k = 8 ∨ k = 16 ∨ k = 17) : (doI insB partF S c).1 = S := by
  rw [do_look hk h]
  cases partF c.path with
  | none => rfl
  | some w => exact look_same (by omega)
theorem do_alike {S : PS} {c d : CL} {k : Nat} {id : Int} {t : List Str} {b : Bool} (hk : c.kind = (k : Int)) (hk2 : d.kind = (k : Int)) (h : k = 8 ∨ k = 16 ∨ k = 17) (ha : c.a = d.a) (hb : c.b = d.b)
    (h1 : partF c.path = if b = true then some (1, t) else none) (h2 : partF d.path = if b = true then some (id, t) else none) (hf : flsOf S 1 = flsOf S id) : (doI insB partF S c).2 = (doI insB partF S d).2 := by
  rw [do_look hk h, do_look hk2 h, h1, h2]
  cases b with
  | false => rfl
  | true =>
    simp only [if_true]
    rcases h with rfl | rfl | rfl
    · exact read_fl hf c d t ha hb
    · exact list_fl hf t
    · exact stat_fl hf t
theorem lk_same (S : PS) (p : Str) : (runI insB partF S (lk3 p)).1 = S := by
  show (doI insB partF (doI insB partF (doI insB partF S _).1 _).1 _).1 = S
  rw [do_look_same (k := 8) rfl (by decide), do_look_same (k := 17) rfl (by decide), do_look_same (k := 16) rfl (by decide)]
theorem lk_alike {S : PS} {p q : Str} {id : Int} {t : List Str} {b : Bool} (h1 : partF p = if b = true then some (1, t) else none) (h2 : partF q = if b = true then some (id, t) else none) (hf : flsOf S 1 = flsOf S id) : (runI insB partF S (lk3 p)).2 = (runI insB partF S (lk3 q)).2 := by
  show [(doI insB partF S _).2, (doI insB partF (doI insB partF S _).1 _).2, (doI insB partF (doI insB partF (doI insB partF S _).1 _).1 _).2] = [(doI insB partF S _).2, (doI insB partF (doI insB partF S _).1 _).2, (doI insB partF (doI insB partF (doI insB partF S _).1 _).1 _).2]
  simp only [do_look_same (c := oneC 16 p) (k := 16) rfl (by decide), do_look_same (c := oneC 17 p) (k := 17) rfl (by decide), do_look_same (c := oneC 16 q) (k := 16) rfl (by decide), do_look_same (c := oneC 17 q) (k := 17) rfl (by decide)]
  rw [do_alike (c := oneC 16 p) (d := oneC 16 q) (k := 16) rfl rfl (by decide) rfl rfl h1 h2 hf, do_alike (c := oneC 17 p) (d := oneC 17 q) (k := 17) rfl rfl (by decide) rfl rfl h1 h2 hf, do_alike (c := { oneC 8 p with b := 4096 }) (d := { oneC 8 q with b := 4096 }) (k := 8) rfl rfl (by decide) rfl rfl h1 h2 hf]
theorem snap_keep {n : Nat} {S : PS} (h : WFS n S) {c : CL} (hk : c.kind = 2) (ha : c.a = 1) (hb : inI c.b 0 1 = true) (he : (doI insB partF S c).2.err = 0) : getA 1 (doI insB partF S c).1.vols = getA 1 S.vols := by
  have e : doI insB partF S c = snapS S c := by
    unfold doI
    rw [if_neg (by omega), show c.kind.toNat = 2 by omega]; rfl
  rw [e] at he ⊢
  unfold snapS at he ⊢
  rw [if_pos hb, ha] at he ⊢
  cases hv : getA 1 S.vols with
  | none => rw [hv] at he; cases he
  | some v =>
    have hr := h.rng 1 v hv
    have hnx : getA (S.next + 1) S.vols = none := by
      cases hx : getA (S.next + 1) S.vols with
      | none => rfl
      | some x => have := (h.rng _ _ hx).2; omega
    unfold addS
    simp only
    rw [← putA_new (getA_none.1 hnx), getA_put, if_neg (by omega), hv]
/-- ModelCopies in plain words -/
theorem copies_plain (ls : List CL) (hl : ls.length ≤ 30) (c : CL) (hk : c.kind = 2) (ha : c.a = 1) (hb : inI c.b 0 1 = true) (he : (doI insB partF (runI insB partF PS0 ls).1 c).2.err = 0) (hw : WFS ls.length (runI insB partF PS0 ls).1) (r : List UInt8) (hr : r = [] ∨ ∃ r', r = 47 :: r') (hrl : r.length ≤ 60) :
    ∃ n : Nat, n < 32 ∧ (doI insB partF (runI insB partF PS0 ls).1 c).2.id = n ∧ ∃ rs l : List RP, l.length = 3 ∧ rs.length = ls.length + 1 ∧ (runI insB partF PS0 (ls ++ [c] ++ lk3 (ofL (47 :: ([49] ++ r))) ++ lk3 (ofL (47 :: (tens2 n ++ r))))).2 = rs ++ l ++ l := by
  obtain ⟨h1, h2, v, h3, h4⟩ := snap_id hw hk ha hb he
  have hm := hw.most
  obtain ⟨n, hn⟩ : ∃ n : Nat, (n : Int) = (runI insB partF PS0 ls).1.next + 1 := ⟨((runI insB partF PS0 ls).1.next + 1).toNat, by omega⟩
  have hn32 : n < 32 := by omega
  refine ⟨n, hn32, by rw [h1, hn], (runI insB partF PS0 (ls ++ [c])).2, (runI insB partF (doI insB partF (runI insB partF PS0 ls).1 c).1 (lk3 (ofL (47 :: ([49] ++ r))))).2, by rw [runI_len]; rfl, ?_, ?_⟩
  · rw [runI_len]; simp
  · obtain ⟨f1, f2, f3, f4⟩ := tens_fact n (by omega)
    obtain ⟨g1, g2, g3, g4⟩ := tens_fact 1 (by omega)
    have hp1 := part_path (tens2 1) r 1 g3 hr (by omega) g1 g2 (by omega) (by omega)
    have hp2 := part_path (tens2 n) r n f3 hr (by omega) f1 f2 (by omega) (by omega)
    have e1 : tens2 1 = [49] := rfl
    rw [e1] at hp1
    have hv1 : getA 1 (doI insB partF (runI insB partF PS0 ls).1 c).1.vols = some v := by
      rw [snap_keep hw hk ha hb he, h3]
    have hf : flsOf (doI insB partF (runI insB partF PS0 ls).1 c).1 1 = flsOf (doI insB partF (runI insB partF PS0 ls).1 c).1 n := by
      unfold flsOf; rw [hv1, hn, h4]; rfl
    rw [runI_append, runI_append, runI_snoc]
    simp only
    rw [lk_same, lk_alike hp1 hp2 hf]
end Go.Proofs.YtdjaehgadehnfaaGreatDoor
/- Walks: the law of copies. -/
namespace Go.Proofs.YtdjaehgadehnfaaGreatDoor
set_option linter.unusedVariables false
set_option linter.unusedSimpArgs false
open Go.RowKit Go.MapKept


abbrev lkQ (p : Str) : List QC := [(oneC 16 p, none, 0), (oneC 17 p, none, 0), ({ oneC 8 p with b := 4096 }, none, 0)]
def exq (p q : Str) : Nat → List QC
  | 0 => []
  | 1 => lkQ p
  | _ => lkQ p ++ lkQ q
theorem exq_step (p q : Str) (i : Nat) (h : i < 2) (s : Str) (hs : [p, q][i]? = some s) : exq p q (i + 1) = exq p q i ++ lkQ s := by
  match i, h, hs with
  | 0, _, hs => cases hs; rfl
  | 1, _, hs => cases hs; rfl
theorem rest_ok (r : List UInt8) (h : 0 < (r.length : Int) → ((r.headD 0).toNat : Int) = 47) : r = [] ∨ ∃ r', r = 47 :: r' := by
  cases r with
  | nil => exact .inl rfl
  | cons x t =>
    right
    have h1 := h (by simp only [List.length_cons]; omega)
    refine ⟨t, ?_⟩
    have : x = 47 := by apply UInt8.toNat_inj.1; simp only [List.headD_cons] at h1; show x.toNat = 47; omega
    rw [this]
theorem ofL_head (r : List UInt8) (h : 0 < r.length) : (ofL r)[0]? = some (r.headD 0) := by
  cases r with
  | nil => simp at h
  | cons x t => first | rfl | simp [ofL]
theorem two_size (n i : Nat) (s : Str) (hn : n < 100) (hs : [ofL [47, 49], ofL [47] ++ ofL (tens2 n)][i]? = some s) : s.size ≤ 3 := by
  have h2 := (tens_fact n hn).2.2.2
  match i, hs with
  | 0, hs => cases hs; exact Nat.le_of_ble_eq_true rfl
  | 1, hs => cases hs; rw [ofL_app, ofL_size]; simp; omega
theorem twice_get {ps : List QR} {rs l : List RP} {N k : Nat} (h : ps.map (·.1) = rs ++ l ++ l) (h3 : l.length = 3) (hN : rs.length = N) (hk : k < 3) (h1 : N + k < ps.length) (h2 : N + k + 3 < ps.length) : ps[N + k + 3].1 = ps[N + k].1 := by
  have a := congrArg (fun l => l[N + k]?) h
  have b := congrArg (fun l => l[N + k + 3]?) h
  try simp only at a b
  rw [List.getElem?_map, List.getElem?_eq_getElem h1, List.append_assoc, List.getElem?_append_right (by omega), List.getElem?_append_left (by omega), show N + k - rs.length = k by omega] at a
  rw [List.getElem?_map, List.getElem?_eq_getElem h2, List.getElem?_append_right (by rw [List.length_append]; omega), show N + k + 3 - (rs ++ l).length = k by rw [List.length_append]; omega, ← a] at b
  simpa using b
theorem last_of {qs : List QC} {q : QC} {ps : List QR} (h : ps.map (·.1) = (runI insB partF PS0 ((qs ++ [q]).map (·.1))).2) (hl : qs.length < ps.length) : ps[qs.length].1 = (doI insB partF (runI insB partF PS0 (qs.map (·.1))).1 q.1).2 := by
  rw [List.map_append, List.map_cons, List.map_nil, runI_snoc] at h
  have h2 := congrArg (fun l => l[qs.length]?) h
  simp only at h2
  rw [List.getElem?_map, List.getElem?_eq_getElem hl, List.getElem?_append_right (by rw [runI_len, List.length_map]; exact Nat.le_refl _), runI_len, List.length_map, Nat.sub_self] at h2
  simpa using h2
theorem cp_ok (M : Mem) (q : Str) (h : q.size ≤ 1000) : ∀ c ∈ lkQ q, CallOk M c.1 c.2.1 c.2.2 ∧ c.1.path.size ≤ 100000 ∧ c.1.other.size ≤ 100000 := by
  intro c hc
  simp only [List.mem_cons, List.not_mem_nil, or_false] at hc
  rcases hc with rfl | rfl | rfl <;> exact ⟨CallOk.plain _ _ _ _ _ _ (by unfold InI64; decide) (by unfold InI64; decide) (by unfold InI64; decide), by show q.size ≤ _; omega, Nat.le_of_ble_eq_true rfl⟩
abbrev cpQ (b : Bool) : QC := ({ kind := 2, path := ⟨#[]⟩, other := ⟨#[]⟩, a := 1, b := if b then 1 else 0, c := 0, data := [] }, none, 0)

set_option maxHeartbeats 8000000 in
theorem copies_true (qs : List QC) (qa : Option Addr) (qc : Nat) (r : List UInt8) (M : Mem) (hT : Tabs M) (hQ : CsR M qa qs) (hq1 : qs.length ≤ qc) (hq2 : qc ≤ maxLen) :
    SpecL Tryz.prog 8 #[.slice qa qs.length qc, .bool true, .string (ofL r)] M [] fun u _ L' => u = .bool true ∧ L' = [] := by
  have hml : maxLen = 9223372036854775807 := by unfold maxLen; rfl
  refine spec_body (vs := [_, _, _]) 149 _ Tryz.func8 rfl Tryz.ntmps8 rfl rfl ?_; intro W
  refine jc_seq ?_
  refine jc_region ?_
  refine jp rfl ?_
  refine jl_nil ?_
  refine jT ?_
  refine jc_seq ?_
  refine jc_region ?_
  refine jl_h rfl rfl (hCall rfl rfl rfl rfl rfl (by kernel_rfl) (alive_spec M hT)) ?_; rintro _ M1 _ ⟨hM1, _, rfl, ⟨rfl, rfl⟩⟩
  refine jp rfl ?_
  refine jl_nil ?_
  refine jT ?_
  refine jc_seq ?_
  refine jc_seq ?_
  refine jc_region ?_
  refine jp rfl ?_
  refine jl_h rfl rfl (hCall rfl rfl rfl rfl rfl (by kernel_rfl) (great_spec qs qa qc 30 M1 (hQ.mono hM1) hq1 hq2)) ?_; rintro _ M2 _ ⟨hM2, _, rfl, ⟨⟨g1, rfl, hg1⟩, rfl⟩⟩
  refine jsb rfl (fun h22 => ?_) (fun h22 => ?_)
  · iterate 23 refine jp rfl ?_
    refine jl_nil ?_
    refine jT ?_
    refine jc_yes rfl ?_
    refine jc_seq ?_
    refine jc_region ?_
    iterate 2 refine jp rfl ?_
    refine jl_nil ?_
    refine jT ?_
    refine jc_ret ?_
    refine jTr ?_
    refine jq_drop (L' := []) (List.nil_sublist _) ?_
    refine jr1 rfl rfl ?_
    exact ⟨rfl, rfl⟩
  · refine jp rfl ?_
    refine jl_q rfl rfl (qLen rfl rfl rfl) ?_
    refine js rfl (fun h25 => ?_) (fun h25 => ?_)
    · iterate 20 refine jp rfl ?_
      refine jl_nil ?_
      refine jT ?_
      refine jc_yes rfl ?_
      refine jc_seq ?_
      refine jc_region ?_
      iterate 2 refine jp rfl ?_
      refine jl_nil ?_
      refine jT ?_
      refine jc_ret ?_
      refine jTr ?_
      refine jq_drop (L' := []) (List.nil_sublist _) ?_
      refine jr1 rfl rfl ?_
      exact ⟨rfl, rfl⟩
    · iterate 3 refine jp rfl ?_
      refine jl_q rfl rfl (qLenStr rfl rfl rfl) ?_
      refine js rfl (fun h30 => ?_) (fun h30 => ?_)
      · iterate 15 refine jp rfl ?_
        refine jl_nil ?_
        refine jT ?_
        refine jc_yes rfl ?_
        refine jc_seq ?_
        refine jc_region ?_
        iterate 2 refine jp rfl ?_
        refine jl_nil ?_
        refine jT ?_
        refine jc_ret ?_
        refine jTr ?_
        refine jq_drop (L' := []) (List.nil_sublist _) ?_
        refine jr1 rfl rfl ?_
        exact ⟨rfl, rfl⟩
      · iterate 3 refine jp rfl ?_
        refine jl_q rfl rfl (qLenStr rfl rfl rfl) ?_
        refine js rfl (fun h35 => ?_) (fun h35 => ?_)
        · iterate 2 refine jp rfl ?_
          refine jl_q rfl rfl (qStrIdx (s := ofL r) (b := r.headD 0) rfl rfl rfl rfl (by omega) (ofL_head r (by rw [ofL_size] at h35; omega))) ?_
          refine js rfl (fun h39 => ?_) (fun h39 => ?_)
          · iterate 6 refine jp rfl ?_
            refine jl_nil ?_
            refine jT ?_
            refine jc_yes rfl ?_
            refine jc_seq ?_
            refine jc_region ?_
            iterate 2 refine jp rfl ?_
            refine jl_nil ?_
            refine jT ?_
            refine jc_ret ?_
            refine jTr ?_
            refine jq_drop (L' := []) (List.nil_sublist _) ?_
            refine jr1 rfl rfl ?_
            exact ⟨rfl, rfl⟩
          · iterate 6 refine jp rfl ?_
            refine jl_nil ?_
            refine jT ?_
            refine jc_no rfl ?_
            refine jc_skip ?_
            refine jT ?_
            refine jc_seq ?_
            rw [ofL_size] at h30 h35
            have hr := rest_ok r (fun hpos => by first | exact absurd hpos h35 | exact Classical.not_not.1 h39)
            refine jc_region ?_
            refine jl_q rfl rfl (qBuild (cs := [_, _, _, _, _, _, _]) rfl rfl rfl (by rfl)) ?_
            refine jl_h rfl rfl (hAlloc rfl rfl) ?_; rintro _ _ _ ⟨b8, rfl, rfl, rfl⟩
            refine jl_s rfl (hStoreL rfl rfl rfl rfl rfl rfl rfl rfl (by first | (simp only [Nat.reduceAdd, Nat.zero_add, Nat.add_zero, List.drop_succ_cons, List.drop_zero, List.drop_nil, List.take_succ_cons, List.take_zero, List.take_nil, List.cons_append, List.nil_append, List.append_nil, List.length_cons, List.length_nil]; try rfl) | rfl)) ?_; rintro _ _ _ ⟨rfl, rfl⟩
            refine jl_nil ?_
            refine jT ?_
            refine jc_seq ?_
            refine jc_seq ?_
            refine jc_region ?_
            refine jp rfl ?_
            refine jl_nil ?_
            refine jT ?_
            refine jc_yes rfl ?_
            refine jc_region ?_
            refine jl_q rfl rfl (qFieldAddr rfl rfl rfl rfl rfl) ?_
            refine jl_s rfl (hStoreL rfl rfl rfl rfl rfl rfl rfl rfl (by first | (simp only [Nat.reduceAdd, Nat.zero_add, Nat.add_zero, List.drop_succ_cons, List.drop_zero, List.drop_nil, List.take_succ_cons, List.take_zero, List.take_nil, List.cons_append, List.nil_append, List.append_nil, List.length_cons, List.length_nil]; try rfl) | rfl)) ?_; rintro _ _ _ ⟨rfl, rfl⟩
            refine jl_nil ?_
            refine jT ?_
            refine jc_seq ?_
            have hM02 := hM1.trans hM2
            refine jc_region ?_
            refine jp rfl ?_
            refine jl_nil ?_
            refine jT ?_
            refine jc_seq ?_
            refine jc_region ?_
            iterate 2 refine jp rfl ?_
            refine jl_h rfl rfl (hAppendM (R := []) rfl rfl rfl rfl (Own.nil _ _) (flatm_len cF 7 cF_len qs) (hQ.1.mono hM02) rfl (cFs_one qs) (by omega) (by omega)) ?_; rintro v1 _ _ ⟨rfl, R1, rfl, hown1⟩
            refine jp rfl ?_
            refine jl_nil ?_
            refine jT ?_
            refine jc_seq ?_
            refine jc_region ?_
            refine jp rfl ?_
            refine jl_q rfl rfl (qLdL rfl rfl rfl rfl rfl (by first | (simp only [Nat.reduceAdd, Nat.zero_add, Nat.add_zero, List.drop_succ_cons, List.drop_zero, List.drop_nil, List.take_succ_cons, List.take_zero, List.take_nil, List.cons_append, List.nil_append, List.append_nil, List.length_cons, List.length_nil]; try rfl) | rfl)) ?_
            refine jl_h rfl rfl (hBuildSlice (cs := [_, _, _, _, _, _, _]) rfl rfl rfl (by rfl) (by rfl) (by rfl)) ?_; rintro _ _ _ ⟨b56, rfl, rfl, rfl⟩
            refine jl_h rfl rfl (hAppend (R := R1) (news := cF (cpQ true)) rfl rfl rfl rfl hown1 rfl (fun j v hv => CJ.loc (by rw [Nat.zero_add]; exact hv)) rfl rfl (cF_one _) (by omega) (by omega)) ?_; rintro v2 _ _ ⟨rfl, R2, rfl, hown2, _⟩
            refine jl_own hown2 (by simp) ?_
            intro M3 a5 c5 hM3 e5 hc5 hs5
            subst e5
            have hM03 := (hM1.trans hM2).trans hM3
            have hfe : (qs ++ [cpQ true]).flatMap cF = [] ++ qs.flatMap cF ++ cF (cpQ true) := by simp
            have hcQ : CsP M2 qa qs := (hQ.mono hM02).ok ((hg1 h22).all (by omega))
            have hcl : CsP M3 a5 (qs ++ [cpQ true]) := ⟨by rw [hfe]; exact hs5, fun q hq => by
              rcases List.mem_append.1 hq with h | h
              · exact (hcQ.mono hM3).2 q h
              · rw [List.mem_singleton.1 h]; exact ⟨CallOk.plain _ _ _ _ _ _ (by unfold InI64; omega) (by unfold InI64; simp) in0, by decide, by decide⟩⟩
            refine jl_h rfl rfl (hCall rfl rfl rfl rfl rfl (by kernel_rfl) (play_at (qs ++ [cpQ true]) (0 + qs.length + 1) (by rw [List.length_append]; simp) a5 c5 M3 (hT.mono hM03) hcl (by omega))) ?_; rintro _ M4 _ ⟨hM4, _, rfl, ⟨⟨a6, c6, ps, rfl, hc6, hcm6, hps, hrs⟩, rfl⟩⟩
            have hl1 : ps.length = qs.length + 1 := by have := congrArg List.length hps; rw [List.length_map, runI_len, List.length_map, List.length_append] at this; exact this
            have hln : qs.length < ps.length := by omega
            rw [List.length_append, List.length_singleton] at hc6
            simp only [List.length_append, List.length_singleton]
            obtain ⟨qb, qo, e0, hx0⟩ := flat_sm rF_len hrs.1 hln (by omega)
            subst e0
            have hlz : ∀ j v, (rF ps[qs.length])[j]? = some v → CM M4 qb (qo + ((qs.length : Nat) : Int).toNat * 8 + j) v := fun j v hv => by
              rw [Int.toNat_natCast]; exact hx0 j v hv
            iterate 5 refine jp rfl ?_
            refine jl_nil ?_
            refine jT ?_
            refine jc_seq ?_
            refine jc_seq ?_
            refine jc_region ?_
            refine jp rfl ?_
            refine jf rfl (decide_eq_false (by omega)) ?_
            iterate 3 refine jp rfl ?_
            refine jl_q rfl rfl (qLen rfl rfl rfl) ?_
            refine jl_q rfl rfl (qIdxS rfl rfl rfl rfl (by omega)) ?_
            refine jl_q rfl rfl (qFieldAddr rfl rfl rfl rfl rfl) ?_
            refine jl_q rfl rfl (qLd rfl rfl rfl rfl ((hlz 0 _ rfl).cj _)) ?_
            refine js rfl (fun h70 => ?_) (fun h70 => ?_)
            · refine jp rfl ?_
              refine jl_nil ?_
              refine jT ?_
              refine jc_yes rfl ?_
              refine jc_seq ?_
              refine jc_region ?_
              iterate 3 refine jp rfl ?_
              refine jl_nil ?_
              refine jT ?_
              refine jc_ret ?_
              refine jTr ?_
              refine jq_drop (L' := []) (List.nil_sublist _) ?_
              refine jr1 rfl rfl ?_
              exact ⟨rfl, rfl⟩
            · refine jp rfl ?_
              refine jl_nil ?_
              refine jT ?_
              refine jc_no rfl ?_
              refine jc_skip ?_
              refine jT ?_
              refine jc_seq ?_
              refine jc_region ?_
              iterate 2 refine jp rfl ?_
              refine jl_q rfl rfl (qLen rfl rfl rfl) ?_
              refine jl_q rfl rfl (qIdxS rfl rfl rfl rfl (by omega)) ?_
              refine jl_q rfl rfl (qFieldAddr rfl rfl rfl rfl rfl) ?_
              refine jl_q rfl rfl (qLd rfl rfl rfl rfl ((hlz 1 _ rfl).cj _)) ?_
              have hlast := last_of hps hln
              obtain ⟨n, hn1, hn2, rs, l, hl3, hrl, hcp⟩ := copies_plain (qs.map (·.1)) (by rw [List.length_map]; omega) (cpQ true).1 rfl rfl (by decide) (by rw [← hlast]; exact Classical.not_not.1 h70) (by have := play_wfs (qs.map (·.1)) qs.length (by rw [List.length_map]; exact Nat.le_refl _); rw [List.take_of_length_le (by rw [List.length_map]; exact Nat.le_refl _)] at this; rw [List.length_map]; exact this) r hr (by omega)
              rw [← hlast] at hn2
              rw [hn2]
              refine jl_h rfl rfl (hCall rfl rfl rfl rfl rfl (by kernel_rfl) (tens_spec n M4 (by omega))) ?_; rintro _ M5 _ ⟨hM5, _, rfl, ⟨rfl, rfl⟩⟩
              refine jl_q rfl rfl (qStrAdd (a := ofL [47]) (b := ofL (tens2 n)) rfl rfl rfl rfl (by rw [ofL_size, ofL_size]; have := (tens_fact n (by omega)).2.2.2; simp; omega)) ?_
              refine jp rfl ?_
              refine jl_nil ?_
              refine jT ?_
              refine jc_seq ?_
              have hcQ5 := ((hcQ.mono hM3).mono hM4).mono hM5
              refine jc_drawA ([(b56, .cells (clCells (cpQ true).1 none 0).toArray 28 (0, 0)), (b8, .cells (clCells (cpQ true).1 none 0).toArray 28 (0, 0))]) (by kernel_rfl) (fun _ h => h) ?_
              refine ja_p (i := 1) rfl (by kernel_rfl) (by kernel_rfl) rfl ?_
              refine ja_q (i := 3) rfl (by kernel_rfl) (by kernel_rfl) rfl rfl (qLdL rfl rfl rfl rfl rfl (by first | (simp only [Nat.reduceAdd, Nat.zero_add, Nat.add_zero, List.drop_succ_cons, List.drop_zero, List.drop_nil, List.take_succ_cons, List.take_zero, List.take_nil, List.cons_append, List.nil_append, List.append_nil, List.length_cons, List.length_nil]; try rfl) | rfl)) ?_
              refine ja_merge (α := Value × Lc × Nat) (fun y => Own y.1 y.2.1 28 7 (0 + qs.length) ([] ++ qs.flatMap cF)) (fun y => [(2, .string (ofL r)), (12, .string (ofL [47] ++ ofL (tens2 n))), (84, y.1), (86, .slice (some ⟨y.2.2, 0, none⟩) 1 1)]) (fun _ => M5) (fun y => y.2.1 ++ (y.2.2, .cells (clCells (cpQ true).1 none 0).toArray 28 (0, 0)) :: [(b56, .cells (clCells (cpQ true).1 none 0).toArray 28 (0, 0)), (b8, .cells (clCells (cpQ true).1 none 0).toArray 28 (0, 0))]) 2 #[true, true, true, true, true, false, false] ?_ (fun rest => ?_)
              · rintro ⟨v84, R84, b86⟩ hown84
                try dsimp only at hown84 ⊢
                refine ja_one (i := 5) (by kernel_rfl) ?_
                refine js_h rfl rfl rfl (hAppend (R := R84) (news := cF (cpQ true)) rfl rfl rfl rfl hown84 rfl (fun j v hv => CJ.loc (by rw [Nat.zero_add]; exact hv)) rfl rfl (cF_one _) (by omega) (by omega)) ?_; rintro v87 _ _ ⟨rfl, R87, rfl, hown87, _⟩
                refine ja_grow (MLe.refl _) (by intro p hp; simp only [List.mem_cons, List.mem_append, List.not_mem_nil, or_false, List.append_nil, List.nil_append] at hp ⊢; rcases hp with rfl | rfl <;> repeat (first | rfl | exact Or.inl rfl | apply Or.inr)) ?_
                refine ja_p (i := 6) rfl (by kernel_rfl) (by kernel_rfl) rfl ?_
                refine ja_end (by kernel_rfl) ?_
                refine jPn ?_
                refine jT ?_
                refine jc_seq ?_
                obtain ⟨fa, fc, rfl⟩ := hown87.form
                refine jc_region ?_
                refine jp rfl ?_
                refine jl_q rfl rfl (qLen rfl rfl rfl) ?_
                refine jp rfl ?_
                refine jl_nil ?_
                refine jT ?_
                refine jc_seq ?_
                refine jc_seq ?_
                refine jc_region ?_
                refine jp rfl ?_
                refine jl_h rfl rfl (hBuildSlice (cs := [_, _]) rfl rfl rfl (by rfl) (by rfl) (by rfl)) ?_; rintro _ _ _ ⟨b91, rfl, rfl, rfl⟩
                refine jl_freeze b91 (by simp) ?_
                intro M6 hM6 e91
                have hs91 : ∀ (i : Nat) v, ([(ofL [47, 49]), (ofL [47] ++ ofL (tens2 n))].map Value.string)[i]? = some v → CM M6 b91 (0 + i) v := by
                  obtain ⟨b, off, e, h⟩ := SM.open (SM.of_block e91) (by simp)
                  cases e; exact h
                refine jl_q rfl rfl (qLen rfl rfl rfl) ?_
                refine jp rfl ?_
                refine jl_nil ?_
                refine jT ?_
                refine jc_block ?_
                refine jc_loopK (α := Nat × Value × Lc) (fun z => [(2, .string (ofL r)), (9, z.2.1), (12, .string (ofL [47] ++ ofL (tens2 n))), (13, .int .i64 ((0 + qs.length + 1 : Nat) : Int)), (91, .slice (some ⟨b91, 0, none⟩) 2 2), (92, .int .i64 2), (93, .int .i64 z.1)]) (fun _ => M6) (fun z => z.2.2) (fun z => z.1 ≤ 2 ∧ Own z.2.1 z.2.2 28 7 (0 + qs.length + 1 + 3 * z.1) ((qs ++ [cpQ true] ++ exq ((ofL [47, 49]) ++ ofL r) ((ofL [47] ++ ofL (tens2 n)) ++ ofL r) z.1).flatMap cF)) (fun z => 2 - z.1)
                  (0, .slice fa (0 + qs.length + 1) fc, R87) (Keep.cons (t := 2) rfl (Keep.cons (t := 9) rfl (Keep.cons (t := 12) rfl (Keep.cons (t := 13) rfl (Keep.cons (t := 91) rfl (Keep.cons (t := 92) rfl (Keep.cons (t := 93) rfl Keep.nil))))))) ⟨by omega, by rw [Nat.mul_zero, Nat.add_zero, exq, List.append_nil, List.flatMap_append]; simpa using hown87⟩ (fun _ h => h.subC fun f => by simp only [List.map_append, List.map_cons, List.map_nil, List.sum_append, List.sum_cons, List.sum_nil]; omega) ?_
                rintro ⟨i, v9, R9⟩ ⟨hi2, hown9⟩
                try dsimp only at hi2 hown9 ⊢
                refine jc_seq ?_
                refine jc_region ?_
                refine js rfl (fun h94 => ?_) (fun h94 => ?_)
                · refine jl_nil ?_
                  refine jT ?_
                  refine jc_seq ?_
                  refine jc_yes rfl ?_
                  refine jc_skip ?_
                  refine jT ?_
                  refine jc_seq ?_
                  refine jc_block ?_
                  refine jc_seq ?_
                  refine jc_region ?_
                  refine jl_q rfl rfl (qIdxS rfl rfl rfl rfl (by omega)) ?_
                  obtain ⟨s, hs⟩ : ∃ s, [(ofL [47, 49]), (ofL [47] ++ ofL (tens2 n))][i]? = some s := ⟨[(ofL [47, 49]), (ofL [47] ++ ofL (tens2 n))][i]'(by simpa using (by omega : i < 2)), List.getElem?_eq_getElem _⟩
                  have hsA : s.size + (ofL r).size ≤ 1000000 := by
                    have h3 : s.size ≤ 3 := two_size n i s (by omega) hs
                    have h4 : (ofL r).size ≤ 60 := by show r.length ≤ 60; omega
                    exact Nat.le_trans (Nat.add_le_add h3 h4) (Nat.le_of_ble_eq_true rfl)
                  refine jl_q rfl rfl (qLd (v := .string s) rfl rfl rfl rfl ((hs91 _ (.string s) (by rw [Nat.mul_one, Int.toNat_natCast, List.getElem?_map, hs]; rfl)).cj _)) ?_
                  refine jp rfl ?_
                  refine jl_nil ?_
                  refine jT ?_
                  refine jc_region ?_
                  iterate 3 refine jp rfl ?_
                  refine jl_q rfl rfl (qStrAdd (a := s) (b := ofL r) rfl rfl rfl rfl hsA) ?_
                  refine jl_q rfl rfl (qCall rfl rfl rfl rfl rfl (by kernel_rfl) (one_spec 16 (s ++ ofL r) M6)) ?_
                  iterate 2 refine jp rfl ?_
                  refine jl_q rfl rfl (qStrAdd (a := s) (b := ofL r) rfl rfl rfl rfl hsA) ?_
                  refine jl_q rfl rfl (qCall rfl rfl rfl rfl rfl (by kernel_rfl) (one_spec 17 (s ++ ofL r) M6)) ?_
                  iterate 2 refine jp rfl ?_
                  refine jl_q rfl rfl (qStrAdd (a := s) (b := ofL r) rfl rfl rfl rfl hsA) ?_
                  refine jl_q rfl rfl (qBuild (cs := [_, _, _, _, _, _, _]) rfl rfl rfl (by rfl)) ?_
                  refine jl_h rfl rfl (hBuildSlice (cs := [_, _, _, _, _, _, _, _, _, _, _, _, _, _, _, _, _, _, _, _, _]) rfl rfl rfl (by rfl) (by rfl) (by rfl)) ?_; rintro _ _ _ ⟨b110, rfl, rfl, rfl⟩
                  refine jl_h rfl rfl (hAppend (R := R9) (news := (lkQ (s ++ ofL r)).flatMap cF) rfl rfl rfl rfl hown9 rfl (fun j v hv => CJ.loc (by rw [Nat.zero_add]; exact hv)) rfl rfl (cFs_one _) (by omega) (by omega)) ?_; rintro w9 _ _ ⟨rfl, R9b, rfl, hw9, _⟩
                  refine jp rfl ?_
                  refine jl_nil ?_
                  refine jB ?_
                  refine jT ?_
                  refine jc_region ?_
                  refine ja rfl (by omega) ?_
                  refine jp rfl ?_
                  refine jl_nil ?_
                  refine j_again (i + 1, w9, R9b) (Keep.cons (t := 2) rfl (Keep.cons (t := 9) rfl (Keep.cons (t := 12) rfl (Keep.cons (t := 13) rfl (Keep.cons (t := 91) rfl (Keep.cons (t := 92) rfl (Keep.cons (t := 93) rfl Keep.nil))))))) ⟨by show i + 1 ≤ 2; omega, ?_⟩ (by show 2 - (i + 1) < 2 - i; omega) (fun _ h => h.subC fun f => by simp only [List.map_append, List.map_cons, List.map_nil, List.sum_append, List.sum_cons, List.sum_nil]; omega)
                  show Own w9 R9b 28 7 (0 + qs.length + 1 + 3 * (i + 1)) ((qs ++ [cpQ true] ++ exq ((ofL [47, 49]) ++ ofL r) ((ofL [47] ++ ofL (tens2 n)) ++ ofL r) (i + 1)).flatMap cF)
                  have hex := exq_step ((ofL [47, 49]) ++ ofL r) ((ofL [47] ++ ofL (tens2 n)) ++ ofL r) i (by omega) (s ++ ofL r) (by rw [show [((ofL [47, 49]) ++ ofL r), ((ofL [47] ++ ofL (tens2 n)) ++ ofL r)] = [(ofL [47, 49]), (ofL [47] ++ ofL (tens2 n))].map (· ++ ofL r) from rfl, List.getElem?_map, hs]; rfl)
                  rw [hex, ← List.append_assoc, List.flatMap_append]
                  exact hw9
                · refine jl_nil ?_
                  refine jT ?_
                  refine jc_seq ?_
                  refine jc_no rfl ?_
                  refine jc_exit ?_
                  refine jTx ?_
                  refine jTx ?_
                  refine jBx ?_
                  refine jT ?_
                  refine jc_seq ?_
                  obtain rfl : i = 2 := by omega
                  have hn2z := (tens_fact n (by omega)).2.2.2
                  refine jc_own hown9 (by simp) ?_
                  intro M7 a7 c7 hM7 e7 hc7 hs7
                  subst e7
                  have hM57 := (hM5.trans hM6).trans hM7
                  have hT7 : Tabs M7 := hT.mono ((hM03.trans hM4).trans hM57)
                  have hlq : (qs ++ [cpQ true] ++ exq ((ofL [47, 49]) ++ ofL r) ((ofL [47] ++ ofL (tens2 n)) ++ ofL r) 2).length = 0 + qs.length + 1 + 3 * 2 := by simp [exq]
                  have hcs7 : CsP M7 a7 (qs ++ [cpQ true] ++ exq ((ofL [47, 49]) ++ ofL r) ((ofL [47] ++ ofL (tens2 n)) ++ ofL r) 2) := ⟨hs7, fun q hq => by
                    rcases List.mem_append.1 hq with h | h
                    · exact ((hcl.mono hM4).mono hM57).2 q h
                    · rcases List.mem_append.1 h with h | h
                      · exact cp_ok M7 _ (by rw [ofL_app, ofL_size]; simp; omega) q h
                      · exact cp_ok M7 _ (by rw [ofL_app, ofL_app, ofL_size]; simp; omega) q h⟩
                  refine jc_region ?_
                  refine jp rfl ?_
                  refine jl_h rfl rfl (hCall rfl rfl rfl rfl rfl (by kernel_rfl) (play_at (qs ++ [cpQ true] ++ exq ((ofL [47, 49]) ++ ofL r) ((ofL [47] ++ ofL (tens2 n)) ++ ofL r) 2) (0 + qs.length + 1 + 3 * 2) hlq a7 c7 M7 hT7 hcs7 (by omega))) ?_; rintro _ M8 _ ⟨hM8, _, rfl, ⟨⟨ax, cx, psx, rfl, hcx, hcmx, hpsx, hrsx⟩, rfl⟩⟩
                  rw [hlq] at hcx
                  rw [hlq]
                  have hlx : psx.length = 0 + qs.length + 1 + 3 * 2 := by have := congrArg List.length hpsx; rw [List.length_map, runI_len, List.length_map, hlq] at this; exact this
                  have hrun : psx.map (·.1) = rs ++ l ++ l := by
                    rw [hpsx, ← hcp, show ((ofL [47, 49]) ++ ofL r) = ofL (47 :: ([49] ++ r)) from ofL_app _ _, show ((ofL [47] ++ ofL (tens2 n)) ++ ofL r) = ofL (47 :: (tens2 n ++ r)) from by rw [ofL_app, ofL_app]; rfl]; simp [exq]
                  iterate 5 refine jp rfl ?_
                  refine jl_nil ?_
                  refine jT ?_
                  refine jc_seq ?_
                  refine jc_seq ?_
                  refine jc_region ?_
                  refine jp rfl ?_
                  refine jf rfl (decide_eq_false (by omega)) ?_
                  refine jl_nil ?_
                  refine jT ?_
                  refine jc_no rfl ?_
                  refine jc_skip ?_
                  refine jT ?_
                  refine jc_seq ?_
                  refine jc_seq ?_
                  obtain ⟨qbx, qox, e0x, _⟩ := flat_sm rF_len hrsx.1 (i := 0) (by omega) (by omega)
                  subst e0x
                  have hldx : ∀ (k : Nat) (h : k < psx.length) (j : Nat) (v : Value), (rF psx[k])[j]? = some v → CM M8 qbx (qox + k * 8 + j) v := fun k h j v hv => by
                    obtain ⟨b2, o2, e2, h2⟩ := flat_sm rF_len hrsx.1 h (by omega)
                    cases e2; exact h2 j v hv
                  refine jc_region ?_
                  iterate 2 refine jp rfl ?_
                  refine jl_nil ?_
                  refine jT ?_
                  refine jc_block ?_
                  refine jc_loopK (α := Nat × Mem) (fun z => [(2, .string (ofL r)), (12, .string (ofL [47] ++ ofL (tens2 n))), (13, .int .i64 ((0 + qs.length + 1 : Nat) : Int)), (16, .slice (some ⟨qbx, qox, none⟩) (0 + qs.length + 1 + 3 * 2) cx), (18, .int .i64 ((0 + qs.length + 1 + z.1 : Nat) : Int))]) (fun z => z.2) (fun _ => []) (fun z => z.1 ≤ 3 ∧ MLe M8 z.2) (fun z => 3 - z.1)
                    (0, M8) (Keep.cons (t := 2) rfl (Keep.cons (t := 12) rfl (Keep.cons (t := 13) rfl (Keep.cons (t := 16) rfl (Keep.cons (t := 18) rfl Keep.nil))))) ⟨by omega, MLe.refl _⟩ (fun _ h => h) ?_
                  rintro ⟨jj, Mk⟩ ⟨hj3, hMk⟩
                  try dsimp only at hj3 hMk ⊢
                  refine jc_seq ?_
                  refine jc_seq ?_
                  refine jc_region ?_
                  iterate 2 refine jp rfl ?_
                  refine ja rfl (by omega) ?_
                  refine js rfl (fun h124 => ?_) (fun h124 => ?_)
                  · refine jl_nil ?_
                    refine jT ?_
                    refine jc_yes rfl ?_
                    refine jc_skip ?_
                    refine jT ?_
                    refine jc_seq ?_
                    refine jc_block ?_
                    refine jc_seq ?_
                    have hk1 : 0 + qs.length + 1 + jj < psx.length := by omega
                    have hk2 : 0 + qs.length + 1 + jj + 3 < psx.length := by omega
                    have hsame := twice_get (N := 0 + qs.length + 1) (k := jj) hrun hl3 (by rw [hrl, List.length_map]; omega) (by omega) hk1 hk2
                    have hv1 := hrsx.2 _ (List.getElem_mem hk1)
                    have hv2 := hrsx.2 _ (List.getElem_mem hk2)
                    rw [hsame] at hv2
                    refine jc_draw [(0, true), (1, true), (2, true), (3, true), (4, true), (5, true), (6, true), (7, true), (8, true), (9, false), (10, true)] [] (by kernel_rfl) (by kernel_rfl) (by kernel_rfl) rfl (by simp) ?_
                    iterate 2 refine dp rfl rfl ?_
                    refine jd_q rfl rfl rfl (qIdxS rfl rfl rfl rfl (by omega)) ?_
                    refine jd_q rfl rfl rfl (qLdA (cs := rpc psx[0 + qs.length + 1 + jj].1 psx[0 + qs.length + 1 + jj].2.1 psx[0 + qs.length + 1 + jj].2.2) rfl rfl rfl rfl rfl (fun j v hv => by rw [Int.toNat_natCast]; exact ((hldx _ hk1 j v hv).mono hMk).cj _)) ?_
                    iterate 2 refine dp rfl rfl ?_
                    refine da rfl rfl (by omega) ?_
                    refine jd_q rfl rfl rfl (qIdxS rfl rfl rfl rfl (by omega)) ?_
                    refine jd_q rfl rfl rfl (qLdA (cs := rpc psx[0 + qs.length + 1 + jj].1 psx[0 + qs.length + 1 + jj + 3].2.1 psx[0 + qs.length + 1 + jj + 3].2.2) rfl rfl rfl rfl rfl (fun j v hv => by rw [show (((0 + qs.length + 1 + jj : Nat) : Int) + 3).toNat = 0 + qs.length + 1 + jj + 3 by omega]; exact ((hldx _ hk2 j v (by unfold rF; rw [hsame]; exact hv)).mono hMk).cj _)) ?_
                    refine jd_h rfl rfl rfl (hCall rfl rfl rfl rfl rfl (by kernel_rfl) (msame_spec psx[0 + qs.length + 1 + jj].1 psx[0 + qs.length + 1 + jj].2.1 psx[0 + qs.length + 1 + jj].2.2 psx[0 + qs.length + 1 + jj + 3].2.1 psx[0 + qs.length + 1 + jj + 3].2.2 Mk (hv1.1.mono hMk) (hv1.2.mono hMk) (hv2.1.mono hMk) (hv2.2.mono hMk))) ?_; rintro _ Mz _ ⟨hMz, _, rfl, ⟨rfl, rfl⟩⟩
                    refine ⟨_, _, MLe.refl _, hMz, fun _ h => h, by simp, ?_⟩
                    refine dp rfl rfl ?_
                    refine jd_nil ?_
                    refine jPn ?_
                    refine jT ?_
                    refine jc_no rfl ?_
                    refine jc_skip ?_
                    refine jB ?_
                    refine jT ?_
                    refine jc_region ?_
                    refine jp rfl ?_
                    refine ja rfl (by omega) ?_
                    refine jp rfl ?_
                    refine jl_nil ?_
                    exact j_again (jj + 1, Mz) (Keep.cons (t := 2) rfl (Keep.cons (t := 12) rfl (Keep.cons (t := 13) rfl (Keep.cons (t := 16) rfl (Keep.cons (t := 18) rfl Keep.nil))))) ⟨by show jj + 1 ≤ 3; omega, hMk.trans hMz⟩ (by show 3 - (jj + 1) < 3 - jj; omega) (fun _ h => h)
                  · refine jl_nil ?_
                    refine jT ?_
                    refine jc_no rfl ?_
                    refine jc_exit ?_
                    refine jTx ?_
                    refine jTx ?_
                    refine jBx ?_
                    refine jT ?_
                    refine jc_seq ?_
                    refine jc_region ?_
                    refine jp rfl ?_
                    refine jl_nil ?_
                    refine jT ?_
                    refine jc_ret ?_
                    refine jq_drop (L' := []) (List.nil_sublist _) ?_
                    refine jr1 rfl rfl ?_
                    exact ⟨rfl, rfl⟩
              refine ja_fork [0, 4] (by kernel_rfl) rfl ⟨?_, ?_, trivial⟩
              · refine js_h rfl rfl rfl (hBuildSlice (cs := []) rfl rfl rfl (by rfl) (by rfl) (by rfl)) ?_; rintro _ _ _ ⟨b82, rfl, rfl, rfl⟩
                refine ja_grow (MLe.refl _) (by intro p hp; simp only [List.mem_cons, List.mem_append, List.not_mem_nil, or_false, List.append_nil, List.nil_append] at hp ⊢; rcases hp with rfl | rfl <;> repeat (first | rfl | exact Or.inl rfl | apply Or.inr)) ?_
                have hown0 : Own (.slice (some ⟨b82, 0, none⟩) 0 0) [(b82, .cells [].toArray 28 (0, 0))] 28 7 0 [] := ⟨rfl, .inr ⟨b82, 0, #[], rfl, rfl, Nat.le_refl _, Nat.zero_le _, rfl, rfl⟩⟩
                refine ja_fork [2, 4] (by kernel_rfl) rfl ⟨?_, ?_, trivial⟩
                · refine js_h rfl rfl rfl (hAppendM rfl rfl rfl rfl hown0 (flatm_len cF 7 cF_len qs) hcQ5.1 rfl (cFs_one qs) (by omega) (by omega)) ?_; rintro v84 _ _ ⟨rfl, R84, rfl, hown84⟩
                  refine ja_grow (MLe.refl _) (by intro p hp; simp only [List.mem_cons, List.mem_append, List.not_mem_nil, or_false, List.append_nil, List.nil_append] at hp ⊢; rcases hp with rfl | rfl <;> repeat (first | rfl | exact Or.inl rfl | apply Or.inr)) ?_
                  refine ja_fork [4] (by kernel_rfl) rfl ⟨?_, trivial⟩
                  · refine js_h rfl rfl rfl (hBuildSlice (cs := [_, _, _, _, _, _, _]) rfl rfl rfl (by rfl) (by rfl) (by rfl)) ?_; rintro _ _ _ ⟨b86, rfl, rfl, rfl⟩
                    refine ja_grow (MLe.refl _) (by intro p hp; simp only [List.mem_cons, List.mem_append, List.not_mem_nil, or_false, List.append_nil, List.nil_append] at hp ⊢; rcases hp with rfl | rfl <;> repeat (first | rfl | exact Or.inl rfl | apply Or.inr)) ?_
                    refine ja_cast (listed' := #[true, true, true, true, true, false, false]) (by kernel_rfl) (ja_keep (Keep.cons (t := 2) rfl (Keep.cons (t := 12) rfl (Keep.cons (t := 84) rfl (Keep.cons (t := 86) rfl Keep.nil)))) ?_)
                    exact ja_weak (fun _ h => h.perm (by first | exact List.Perm.refl _ | exact List.perm_middle.symm | exact List.perm_middle)) (MLe.refl _) (by intro p hp; simp only [List.mem_cons, List.mem_append, List.not_mem_nil, or_false, List.append_nil, List.nil_append] at hp ⊢; rcases hp with rfl | rfl <;> repeat (first | rfl | exact Or.inl rfl | apply Or.inr)) (rest (v84, R84, b86) hown84)
                · refine js_h rfl rfl rfl (hBuildSlice (cs := [_, _, _, _, _, _, _]) rfl rfl rfl (by rfl) (by rfl) (by rfl)) ?_; rintro _ _ _ ⟨b86, rfl, rfl, rfl⟩
                  refine ja_grow (MLe.refl _) (by intro p hp; simp only [List.mem_cons, List.mem_append, List.not_mem_nil, or_false, List.append_nil, List.nil_append] at hp ⊢; rcases hp with rfl | rfl <;> repeat (first | rfl | exact Or.inl rfl | apply Or.inr)) ?_
                  refine ja_fork [2] (by kernel_rfl) rfl ⟨?_, trivial⟩
                  · refine js_h rfl rfl rfl (hAppendM rfl rfl rfl rfl hown0 (flatm_len cF 7 cF_len qs) hcQ5.1 rfl (cFs_one qs) (by omega) (by omega)) ?_; rintro v84 _ _ ⟨rfl, R84, rfl, hown84⟩
                    refine ja_grow (MLe.refl _) (by intro p hp; simp only [List.mem_cons, List.mem_append, List.not_mem_nil, or_false, List.append_nil, List.nil_append] at hp ⊢; rcases hp with rfl | rfl <;> repeat (first | rfl | exact Or.inl rfl | apply Or.inr)) ?_
                    refine ja_cast (listed' := #[true, true, true, true, true, false, false]) (by kernel_rfl) (ja_keep (Keep.cons (t := 2) rfl (Keep.cons (t := 12) rfl (Keep.cons (t := 84) rfl (Keep.cons (t := 86) rfl Keep.nil)))) ?_)
                    exact ja_weak (fun _ h => h.perm (by first | exact List.Perm.refl _ | exact List.perm_middle.symm | exact List.perm_middle)) (MLe.refl _) (by intro p hp; simp only [List.mem_cons, List.mem_append, List.not_mem_nil, or_false, List.append_nil, List.nil_append] at hp ⊢; rcases hp with rfl | rfl <;> repeat (first | rfl | exact Or.inl rfl | apply Or.inr)) (rest (v84, R84, b86) hown84)
              · refine js_h rfl rfl rfl (hBuildSlice (cs := [_, _, _, _, _, _, _]) rfl rfl rfl (by rfl) (by rfl) (by rfl)) ?_; rintro _ _ _ ⟨b86, rfl, rfl, rfl⟩
                refine ja_grow (MLe.refl _) (by intro p hp; simp only [List.mem_cons, List.mem_append, List.not_mem_nil, or_false, List.append_nil, List.nil_append] at hp ⊢; rcases hp with rfl | rfl <;> repeat (first | rfl | exact Or.inl rfl | apply Or.inr)) ?_
                refine ja_fork [0] (by kernel_rfl) rfl ⟨?_, trivial⟩
                · refine js_h rfl rfl rfl (hBuildSlice (cs := []) rfl rfl rfl (by rfl) (by rfl) (by rfl)) ?_; rintro _ _ _ ⟨b82, rfl, rfl, rfl⟩
                  refine ja_grow (MLe.refl _) (by intro p hp; simp only [List.mem_cons, List.mem_append, List.not_mem_nil, or_false, List.append_nil, List.nil_append] at hp ⊢; rcases hp with rfl | rfl <;> repeat (first | rfl | exact Or.inl rfl | apply Or.inr)) ?_
                  have hown0 : Own (.slice (some ⟨b82, 0, none⟩) 0 0) [(b82, .cells [].toArray 28 (0, 0))] 28 7 0 [] := ⟨rfl, .inr ⟨b82, 0, #[], rfl, rfl, Nat.le_refl _, Nat.zero_le _, rfl, rfl⟩⟩
                  refine ja_fork [2] (by kernel_rfl) rfl ⟨?_, trivial⟩
                  · refine js_h rfl rfl rfl (hAppendM rfl rfl rfl rfl hown0 (flatm_len cF 7 cF_len qs) hcQ5.1 rfl (cFs_one qs) (by omega) (by omega)) ?_; rintro v84 _ _ ⟨rfl, R84, rfl, hown84⟩
                    refine ja_grow (MLe.refl _) (by intro p hp; simp only [List.mem_cons, List.mem_append, List.not_mem_nil, or_false, List.append_nil, List.nil_append] at hp ⊢; rcases hp with rfl | rfl <;> repeat (first | rfl | exact Or.inl rfl | apply Or.inr)) ?_
                    refine ja_cast (listed' := #[true, true, true, true, true, false, false]) (by kernel_rfl) (ja_keep (Keep.cons (t := 2) rfl (Keep.cons (t := 12) rfl (Keep.cons (t := 84) rfl (Keep.cons (t := 86) rfl Keep.nil)))) ?_)
                    exact ja_weak (fun _ h => h.perm (by first | exact List.Perm.refl _ | exact List.perm_middle.symm | exact List.perm_middle)) (MLe.refl _) (by intro p hp; simp only [List.mem_cons, List.mem_append, List.not_mem_nil, or_false, List.append_nil, List.nil_append] at hp ⊢; rcases hp with rfl | rfl <;> repeat (first | rfl | exact Or.inl rfl | apply Or.inr)) (rest (v84, R84, b86) hown84)
        · iterate 10 refine jp rfl ?_
          refine jl_nil ?_
          refine jT ?_
          refine jc_no rfl ?_
          refine jc_skip ?_
          refine jT ?_
          refine jc_seq ?_
          rw [ofL_size] at h30 h35
          have hr := rest_ok r (fun hpos => by first | exact absurd hpos h35 | exact Classical.not_not.1 h39)
          refine jc_region ?_
          refine jl_q rfl rfl (qBuild (cs := [_, _, _, _, _, _, _]) rfl rfl rfl (by rfl)) ?_
          refine jl_h rfl rfl (hAlloc rfl rfl) ?_; rintro _ _ _ ⟨b8, rfl, rfl, rfl⟩
          refine jl_s rfl (hStoreL rfl rfl rfl rfl rfl rfl rfl rfl (by first | (simp only [Nat.reduceAdd, Nat.zero_add, Nat.add_zero, List.drop_succ_cons, List.drop_zero, List.drop_nil, List.take_succ_cons, List.take_zero, List.take_nil, List.cons_append, List.nil_append, List.append_nil, List.length_cons, List.length_nil]; try rfl) | rfl)) ?_; rintro _ _ _ ⟨rfl, rfl⟩
          refine jl_nil ?_
          refine jT ?_
          refine jc_seq ?_
          refine jc_seq ?_
          refine jc_region ?_
          refine jp rfl ?_
          refine jl_nil ?_
          refine jT ?_
          refine jc_yes rfl ?_
          refine jc_region ?_
          refine jl_q rfl rfl (qFieldAddr rfl rfl rfl rfl rfl) ?_
          refine jl_s rfl (hStoreL rfl rfl rfl rfl rfl rfl rfl rfl (by first | (simp only [Nat.reduceAdd, Nat.zero_add, Nat.add_zero, List.drop_succ_cons, List.drop_zero, List.drop_nil, List.take_succ_cons, List.take_zero, List.take_nil, List.cons_append, List.nil_append, List.append_nil, List.length_cons, List.length_nil]; try rfl) | rfl)) ?_; rintro _ _ _ ⟨rfl, rfl⟩
          refine jl_nil ?_
          refine jT ?_
          refine jc_seq ?_
          have hM02 := hM1.trans hM2
          refine jc_region ?_
          refine jp rfl ?_
          refine jl_nil ?_
          refine jT ?_
          refine jc_seq ?_
          refine jc_region ?_
          iterate 2 refine jp rfl ?_
          refine jl_h rfl rfl (hAppendM (R := []) rfl rfl rfl rfl (Own.nil _ _) (flatm_len cF 7 cF_len qs) (hQ.1.mono hM02) rfl (cFs_one qs) (by omega) (by omega)) ?_; rintro v1 _ _ ⟨rfl, R1, rfl, hown1⟩
          refine jp rfl ?_
          refine jl_nil ?_
          refine jT ?_
          refine jc_seq ?_
          refine jc_region ?_
          refine jp rfl ?_
          refine jl_q rfl rfl (qLdL rfl rfl rfl rfl rfl (by first | (simp only [Nat.reduceAdd, Nat.zero_add, Nat.add_zero, List.drop_succ_cons, List.drop_zero, List.drop_nil, List.take_succ_cons, List.take_zero, List.take_nil, List.cons_append, List.nil_append, List.append_nil, List.length_cons, List.length_nil]; try rfl) | rfl)) ?_
          refine jl_h rfl rfl (hBuildSlice (cs := [_, _, _, _, _, _, _]) rfl rfl rfl (by rfl) (by rfl) (by rfl)) ?_; rintro _ _ _ ⟨b56, rfl, rfl, rfl⟩
          refine jl_h rfl rfl (hAppend (R := R1) (news := cF (cpQ true)) rfl rfl rfl rfl hown1 rfl (fun j v hv => CJ.loc (by rw [Nat.zero_add]; exact hv)) rfl rfl (cF_one _) (by omega) (by omega)) ?_; rintro v2 _ _ ⟨rfl, R2, rfl, hown2, _⟩
          refine jl_own hown2 (by simp) ?_
          intro M3 a5 c5 hM3 e5 hc5 hs5
          subst e5
          have hM03 := (hM1.trans hM2).trans hM3
          have hfe : (qs ++ [cpQ true]).flatMap cF = [] ++ qs.flatMap cF ++ cF (cpQ true) := by simp
          have hcQ : CsP M2 qa qs := (hQ.mono hM02).ok ((hg1 h22).all (by omega))
          have hcl : CsP M3 a5 (qs ++ [cpQ true]) := ⟨by rw [hfe]; exact hs5, fun q hq => by
            rcases List.mem_append.1 hq with h | h
            · exact (hcQ.mono hM3).2 q h
            · rw [List.mem_singleton.1 h]; exact ⟨CallOk.plain _ _ _ _ _ _ (by unfold InI64; omega) (by unfold InI64; simp) in0, by decide, by decide⟩⟩
          refine jl_h rfl rfl (hCall rfl rfl rfl rfl rfl (by kernel_rfl) (play_at (qs ++ [cpQ true]) (0 + qs.length + 1) (by rw [List.length_append]; simp) a5 c5 M3 (hT.mono hM03) hcl (by omega))) ?_; rintro _ M4 _ ⟨hM4, _, rfl, ⟨⟨a6, c6, ps, rfl, hc6, hcm6, hps, hrs⟩, rfl⟩⟩
          have hl1 : ps.length = qs.length + 1 := by have := congrArg List.length hps; rw [List.length_map, runI_len, List.length_map, List.length_append] at this; exact this
          have hln : qs.length < ps.length := by omega
          rw [List.length_append, List.length_singleton] at hc6
          simp only [List.length_append, List.length_singleton]
          obtain ⟨qb, qo, e0, hx0⟩ := flat_sm rF_len hrs.1 hln (by omega)
          subst e0
          have hlz : ∀ j v, (rF ps[qs.length])[j]? = some v → CM M4 qb (qo + ((qs.length : Nat) : Int).toNat * 8 + j) v := fun j v hv => by
            rw [Int.toNat_natCast]; exact hx0 j v hv
          iterate 5 refine jp rfl ?_
          refine jl_nil ?_
          refine jT ?_
          refine jc_seq ?_
          refine jc_seq ?_
          refine jc_region ?_
          refine jp rfl ?_
          refine jf rfl (decide_eq_false (by omega)) ?_
          iterate 3 refine jp rfl ?_
          refine jl_q rfl rfl (qLen rfl rfl rfl) ?_
          refine jl_q rfl rfl (qIdxS rfl rfl rfl rfl (by omega)) ?_
          refine jl_q rfl rfl (qFieldAddr rfl rfl rfl rfl rfl) ?_
          refine jl_q rfl rfl (qLd rfl rfl rfl rfl ((hlz 0 _ rfl).cj _)) ?_
          refine js rfl (fun h70 => ?_) (fun h70 => ?_)
          · refine jp rfl ?_
            refine jl_nil ?_
            refine jT ?_
            refine jc_yes rfl ?_
            refine jc_seq ?_
            refine jc_region ?_
            iterate 3 refine jp rfl ?_
            refine jl_nil ?_
            refine jT ?_
            refine jc_ret ?_
            refine jTr ?_
            refine jq_drop (L' := []) (List.nil_sublist _) ?_
            refine jr1 rfl rfl ?_
            exact ⟨rfl, rfl⟩
          · refine jp rfl ?_
            refine jl_nil ?_
            refine jT ?_
            refine jc_no rfl ?_
            refine jc_skip ?_
            refine jT ?_
            refine jc_seq ?_
            refine jc_region ?_
            iterate 2 refine jp rfl ?_
            refine jl_q rfl rfl (qLen rfl rfl rfl) ?_
            refine jl_q rfl rfl (qIdxS rfl rfl rfl rfl (by omega)) ?_
            refine jl_q rfl rfl (qFieldAddr rfl rfl rfl rfl rfl) ?_
            refine jl_q rfl rfl (qLd rfl rfl rfl rfl ((hlz 1 _ rfl).cj _)) ?_
            have hlast := last_of hps hln
            obtain ⟨n, hn1, hn2, rs, l, hl3, hrl, hcp⟩ := copies_plain (qs.map (·.1)) (by rw [List.length_map]; omega) (cpQ true).1 rfl rfl (by decide) (by rw [← hlast]; exact Classical.not_not.1 h70) (by have := play_wfs (qs.map (·.1)) qs.length (by rw [List.length_map]; exact Nat.le_refl _); rw [List.take_of_length_le (by rw [List.length_map]; exact Nat.le_refl _)] at this; rw [List.length_map]; exact this) r hr (by omega)
            rw [← hlast] at hn2
            rw [hn2]
            refine jl_h rfl rfl (hCall rfl rfl rfl rfl rfl (by kernel_rfl) (tens_spec n M4 (by omega))) ?_; rintro _ M5 _ ⟨hM5, _, rfl, ⟨rfl, rfl⟩⟩
            refine jl_q rfl rfl (qStrAdd (a := ofL [47]) (b := ofL (tens2 n)) rfl rfl rfl rfl (by rw [ofL_size, ofL_size]; have := (tens_fact n (by omega)).2.2.2; simp; omega)) ?_
            refine jp rfl ?_
            refine jl_nil ?_
            refine jT ?_
            refine jc_seq ?_
            have hcQ5 := ((hcQ.mono hM3).mono hM4).mono hM5
            refine jc_drawA ([(b56, .cells (clCells (cpQ true).1 none 0).toArray 28 (0, 0)), (b8, .cells (clCells (cpQ true).1 none 0).toArray 28 (0, 0))]) (by kernel_rfl) (fun _ h => h) ?_
            refine ja_p (i := 1) rfl (by kernel_rfl) (by kernel_rfl) rfl ?_
            refine ja_q (i := 3) rfl (by kernel_rfl) (by kernel_rfl) rfl rfl (qLdL rfl rfl rfl rfl rfl (by first | (simp only [Nat.reduceAdd, Nat.zero_add, Nat.add_zero, List.drop_succ_cons, List.drop_zero, List.drop_nil, List.take_succ_cons, List.take_zero, List.take_nil, List.cons_append, List.nil_append, List.append_nil, List.length_cons, List.length_nil]; try rfl) | rfl)) ?_
            refine ja_merge (α := Value × Lc × Nat) (fun y => Own y.1 y.2.1 28 7 (0 + qs.length) ([] ++ qs.flatMap cF)) (fun y => [(2, .string (ofL r)), (12, .string (ofL [47] ++ ofL (tens2 n))), (84, y.1), (86, .slice (some ⟨y.2.2, 0, none⟩) 1 1)]) (fun _ => M5) (fun y => y.2.1 ++ (y.2.2, .cells (clCells (cpQ true).1 none 0).toArray 28 (0, 0)) :: [(b56, .cells (clCells (cpQ true).1 none 0).toArray 28 (0, 0)), (b8, .cells (clCells (cpQ true).1 none 0).toArray 28 (0, 0))]) 2 #[true, true, true, true, true, false, false] ?_ (fun rest => ?_)
            · rintro ⟨v84, R84, b86⟩ hown84
              try dsimp only at hown84 ⊢
              refine ja_one (i := 5) (by kernel_rfl) ?_
              refine js_h rfl rfl rfl (hAppend (R := R84) (news := cF (cpQ true)) rfl rfl rfl rfl hown84 rfl (fun j v hv => CJ.loc (by rw [Nat.zero_add]; exact hv)) rfl rfl (cF_one _) (by omega) (by omega)) ?_; rintro v87 _ _ ⟨rfl, R87, rfl, hown87, _⟩
              refine ja_grow (MLe.refl _) (by intro p hp; simp only [List.mem_cons, List.mem_append, List.not_mem_nil, or_false, List.append_nil, List.nil_append] at hp ⊢; rcases hp with rfl | rfl <;> repeat (first | rfl | exact Or.inl rfl | apply Or.inr)) ?_
              refine ja_p (i := 6) rfl (by kernel_rfl) (by kernel_rfl) rfl ?_
              refine ja_end (by kernel_rfl) ?_
              refine jPn ?_
              refine jT ?_
              refine jc_seq ?_
              obtain ⟨fa, fc, rfl⟩ := hown87.form
              refine jc_region ?_
              refine jp rfl ?_
              refine jl_q rfl rfl (qLen rfl rfl rfl) ?_
              refine jp rfl ?_
              refine jl_nil ?_
              refine jT ?_
              refine jc_seq ?_
              refine jc_seq ?_
              refine jc_region ?_
              refine jp rfl ?_
              refine jl_h rfl rfl (hBuildSlice (cs := [_, _]) rfl rfl rfl (by rfl) (by rfl) (by rfl)) ?_; rintro _ _ _ ⟨b91, rfl, rfl, rfl⟩
              refine jl_freeze b91 (by simp) ?_
              intro M6 hM6 e91
              have hs91 : ∀ (i : Nat) v, ([(ofL [47, 49]), (ofL [47] ++ ofL (tens2 n))].map Value.string)[i]? = some v → CM M6 b91 (0 + i) v := by
                obtain ⟨b, off, e, h⟩ := SM.open (SM.of_block e91) (by simp)
                cases e; exact h
              refine jl_q rfl rfl (qLen rfl rfl rfl) ?_
              refine jp rfl ?_
              refine jl_nil ?_
              refine jT ?_
              refine jc_block ?_
              refine jc_loopK (α := Nat × Value × Lc) (fun z => [(2, .string (ofL r)), (9, z.2.1), (12, .string (ofL [47] ++ ofL (tens2 n))), (13, .int .i64 ((0 + qs.length + 1 : Nat) : Int)), (91, .slice (some ⟨b91, 0, none⟩) 2 2), (92, .int .i64 2), (93, .int .i64 z.1)]) (fun _ => M6) (fun z => z.2.2) (fun z => z.1 ≤ 2 ∧ Own z.2.1 z.2.2 28 7 (0 + qs.length + 1 + 3 * z.1) ((qs ++ [cpQ true] ++ exq ((ofL [47, 49]) ++ ofL r) ((ofL [47] ++ ofL (tens2 n)) ++ ofL r) z.1).flatMap cF)) (fun z => 2 - z.1)
                (0, .slice fa (0 + qs.length + 1) fc, R87) (Keep.cons (t := 2) rfl (Keep.cons (t := 9) rfl (Keep.cons (t := 12) rfl (Keep.cons (t := 13) rfl (Keep.cons (t := 91) rfl (Keep.cons (t := 92) rfl (Keep.cons (t := 93) rfl Keep.nil))))))) ⟨by omega, by rw [Nat.mul_zero, Nat.add_zero, exq, List.append_nil, List.flatMap_append]; simpa using hown87⟩ (fun _ h => h.subC fun f => by simp only [List.map_append, List.map_cons, List.map_nil, List.sum_append, List.sum_cons, List.sum_nil]; omega) ?_
              rintro ⟨i, v9, R9⟩ ⟨hi2, hown9⟩
              try dsimp only at hi2 hown9 ⊢
              refine jc_seq ?_
              refine jc_region ?_
              refine js rfl (fun h94 => ?_) (fun h94 => ?_)
              · refine jl_nil ?_
                refine jT ?_
                refine jc_seq ?_
                refine jc_yes rfl ?_
                refine jc_skip ?_
                refine jT ?_
                refine jc_seq ?_
                refine jc_block ?_
                refine jc_seq ?_
                refine jc_region ?_
                refine jl_q rfl rfl (qIdxS rfl rfl rfl rfl (by omega)) ?_
                obtain ⟨s, hs⟩ : ∃ s, [(ofL [47, 49]), (ofL [47] ++ ofL (tens2 n))][i]? = some s := ⟨[(ofL [47, 49]), (ofL [47] ++ ofL (tens2 n))][i]'(by simpa using (by omega : i < 2)), List.getElem?_eq_getElem _⟩
                have hsA : s.size + (ofL r).size ≤ 1000000 := by
                  have h3 : s.size ≤ 3 := two_size n i s (by omega) hs
                  have h4 : (ofL r).size ≤ 60 := by show r.length ≤ 60; omega
                  exact Nat.le_trans (Nat.add_le_add h3 h4) (Nat.le_of_ble_eq_true rfl)
                refine jl_q rfl rfl (qLd (v := .string s) rfl rfl rfl rfl ((hs91 _ (.string s) (by rw [Nat.mul_one, Int.toNat_natCast, List.getElem?_map, hs]; rfl)).cj _)) ?_
                refine jp rfl ?_
                refine jl_nil ?_
                refine jT ?_
                refine jc_region ?_
                iterate 3 refine jp rfl ?_
                refine jl_q rfl rfl (qStrAdd (a := s) (b := ofL r) rfl rfl rfl rfl hsA) ?_
                refine jl_q rfl rfl (qCall rfl rfl rfl rfl rfl (by kernel_rfl) (one_spec 16 (s ++ ofL r) M6)) ?_
                iterate 2 refine jp rfl ?_
                refine jl_q rfl rfl (qStrAdd (a := s) (b := ofL r) rfl rfl rfl rfl hsA) ?_
                refine jl_q rfl rfl (qCall rfl rfl rfl rfl rfl (by kernel_rfl) (one_spec 17 (s ++ ofL r) M6)) ?_
                iterate 2 refine jp rfl ?_
                refine jl_q rfl rfl (qStrAdd (a := s) (b := ofL r) rfl rfl rfl rfl hsA) ?_
                refine jl_q rfl rfl (qBuild (cs := [_, _, _, _, _, _, _]) rfl rfl rfl (by rfl)) ?_
                refine jl_h rfl rfl (hBuildSlice (cs := [_, _, _, _, _, _, _, _, _, _, _, _, _, _, _, _, _, _, _, _, _]) rfl rfl rfl (by rfl) (by rfl) (by rfl)) ?_; rintro _ _ _ ⟨b110, rfl, rfl, rfl⟩
                refine jl_h rfl rfl (hAppend (R := R9) (news := (lkQ (s ++ ofL r)).flatMap cF) rfl rfl rfl rfl hown9 rfl (fun j v hv => CJ.loc (by rw [Nat.zero_add]; exact hv)) rfl rfl (cFs_one _) (by omega) (by omega)) ?_; rintro w9 _ _ ⟨rfl, R9b, rfl, hw9, _⟩
                refine jp rfl ?_
                refine jl_nil ?_
                refine jB ?_
                refine jT ?_
                refine jc_region ?_
                refine ja rfl (by omega) ?_
                refine jp rfl ?_
                refine jl_nil ?_
                refine j_again (i + 1, w9, R9b) (Keep.cons (t := 2) rfl (Keep.cons (t := 9) rfl (Keep.cons (t := 12) rfl (Keep.cons (t := 13) rfl (Keep.cons (t := 91) rfl (Keep.cons (t := 92) rfl (Keep.cons (t := 93) rfl Keep.nil))))))) ⟨by show i + 1 ≤ 2; omega, ?_⟩ (by show 2 - (i + 1) < 2 - i; omega) (fun _ h => h.subC fun f => by simp only [List.map_append, List.map_cons, List.map_nil, List.sum_append, List.sum_cons, List.sum_nil]; omega)
                show Own w9 R9b 28 7 (0 + qs.length + 1 + 3 * (i + 1)) ((qs ++ [cpQ true] ++ exq ((ofL [47, 49]) ++ ofL r) ((ofL [47] ++ ofL (tens2 n)) ++ ofL r) (i + 1)).flatMap cF)
                have hex := exq_step ((ofL [47, 49]) ++ ofL r) ((ofL [47] ++ ofL (tens2 n)) ++ ofL r) i (by omega) (s ++ ofL r) (by rw [show [((ofL [47, 49]) ++ ofL r), ((ofL [47] ++ ofL (tens2 n)) ++ ofL r)] = [(ofL [47, 49]), (ofL [47] ++ ofL (tens2 n))].map (· ++ ofL r) from rfl, List.getElem?_map, hs]; rfl)
                rw [hex, ← List.append_assoc, List.flatMap_append]
                exact hw9
              · refine jl_nil ?_
                refine jT ?_
                refine jc_seq ?_
                refine jc_no rfl ?_
                refine jc_exit ?_
                refine jTx ?_
                refine jTx ?_
                refine jBx ?_
                refine jT ?_
                refine jc_seq ?_
                obtain rfl : i = 2 := by omega
                have hn2z := (tens_fact n (by omega)).2.2.2
                refine jc_own hown9 (by simp) ?_
                intro M7 a7 c7 hM7 e7 hc7 hs7
                subst e7
                have hM57 := (hM5.trans hM6).trans hM7
                have hT7 : Tabs M7 := hT.mono ((hM03.trans hM4).trans hM57)
                have hlq : (qs ++ [cpQ true] ++ exq ((ofL [47, 49]) ++ ofL r) ((ofL [47] ++ ofL (tens2 n)) ++ ofL r) 2).length = 0 + qs.length + 1 + 3 * 2 := by simp [exq]
                have hcs7 : CsP M7 a7 (qs ++ [cpQ true] ++ exq ((ofL [47, 49]) ++ ofL r) ((ofL [47] ++ ofL (tens2 n)) ++ ofL r) 2) := ⟨hs7, fun q hq => by
                  rcases List.mem_append.1 hq with h | h
                  · exact ((hcl.mono hM4).mono hM57).2 q h
                  · rcases List.mem_append.1 h with h | h
                    · exact cp_ok M7 _ (by rw [ofL_app, ofL_size]; simp; omega) q h
                    · exact cp_ok M7 _ (by rw [ofL_app, ofL_app, ofL_size]; simp; omega) q h⟩
                refine jc_region ?_
                refine jp rfl ?_
                refine jl_h rfl rfl (hCall rfl rfl rfl rfl rfl (by kernel_rfl) (play_at (qs ++ [cpQ true] ++ exq ((ofL [47, 49]) ++ ofL r) ((ofL [47] ++ ofL (tens2 n)) ++ ofL r) 2) (0 + qs.length + 1 + 3 * 2) hlq a7 c7 M7 hT7 hcs7 (by omega))) ?_; rintro _ M8 _ ⟨hM8, _, rfl, ⟨⟨ax, cx, psx, rfl, hcx, hcmx, hpsx, hrsx⟩, rfl⟩⟩
                rw [hlq] at hcx
                rw [hlq]
                have hlx : psx.length = 0 + qs.length + 1 + 3 * 2 := by have := congrArg List.length hpsx; rw [List.length_map, runI_len, List.length_map, hlq] at this; exact this
                have hrun : psx.map (·.1) = rs ++ l ++ l := by
                  rw [hpsx, ← hcp, show ((ofL [47, 49]) ++ ofL r) = ofL (47 :: ([49] ++ r)) from ofL_app _ _, show ((ofL [47] ++ ofL (tens2 n)) ++ ofL r) = ofL (47 :: (tens2 n ++ r)) from by rw [ofL_app, ofL_app]; rfl]; simp [exq]
                iterate 5 refine jp rfl ?_
                refine jl_nil ?_
                refine jT ?_
                refine jc_seq ?_
                refine jc_seq ?_
                refine jc_region ?_
                refine jp rfl ?_
                refine jf rfl (decide_eq_false (by omega)) ?_
                refine jl_nil ?_
                refine jT ?_
                refine jc_no rfl ?_
                refine jc_skip ?_
                refine jT ?_
                refine jc_seq ?_
                refine jc_seq ?_
                obtain ⟨qbx, qox, e0x, _⟩ := flat_sm rF_len hrsx.1 (i := 0) (by omega) (by omega)
                subst e0x
                have hldx : ∀ (k : Nat) (h : k < psx.length) (j : Nat) (v : Value), (rF psx[k])[j]? = some v → CM M8 qbx (qox + k * 8 + j) v := fun k h j v hv => by
                  obtain ⟨b2, o2, e2, h2⟩ := flat_sm rF_len hrsx.1 h (by omega)
                  cases e2; exact h2 j v hv
                refine jc_region ?_
                iterate 2 refine jp rfl ?_
                refine jl_nil ?_
                refine jT ?_
                refine jc_block ?_
                refine jc_loopK (α := Nat × Mem) (fun z => [(2, .string (ofL r)), (12, .string (ofL [47] ++ ofL (tens2 n))), (13, .int .i64 ((0 + qs.length + 1 : Nat) : Int)), (16, .slice (some ⟨qbx, qox, none⟩) (0 + qs.length + 1 + 3 * 2) cx), (18, .int .i64 ((0 + qs.length + 1 + z.1 : Nat) : Int))]) (fun z => z.2) (fun _ => []) (fun z => z.1 ≤ 3 ∧ MLe M8 z.2) (fun z => 3 - z.1)
                  (0, M8) (Keep.cons (t := 2) rfl (Keep.cons (t := 12) rfl (Keep.cons (t := 13) rfl (Keep.cons (t := 16) rfl (Keep.cons (t := 18) rfl Keep.nil))))) ⟨by omega, MLe.refl _⟩ (fun _ h => h) ?_
                rintro ⟨jj, Mk⟩ ⟨hj3, hMk⟩
                try dsimp only at hj3 hMk ⊢
                refine jc_seq ?_
                refine jc_seq ?_
                refine jc_region ?_
                iterate 2 refine jp rfl ?_
                refine ja rfl (by omega) ?_
                refine js rfl (fun h124 => ?_) (fun h124 => ?_)
                · refine jl_nil ?_
                  refine jT ?_
                  refine jc_yes rfl ?_
                  refine jc_skip ?_
                  refine jT ?_
                  refine jc_seq ?_
                  refine jc_block ?_
                  refine jc_seq ?_
                  have hk1 : 0 + qs.length + 1 + jj < psx.length := by omega
                  have hk2 : 0 + qs.length + 1 + jj + 3 < psx.length := by omega
                  have hsame := twice_get (N := 0 + qs.length + 1) (k := jj) hrun hl3 (by rw [hrl, List.length_map]; omega) (by omega) hk1 hk2
                  have hv1 := hrsx.2 _ (List.getElem_mem hk1)
                  have hv2 := hrsx.2 _ (List.getElem_mem hk2)
                  rw [hsame] at hv2
                  refine jc_draw [(0, true), (1, true), (2, true), (3, true), (4, true), (5, true), (6, true), (7, true), (8, true), (9, false), (10, true)] [] (by kernel_rfl) (by kernel_rfl) (by kernel_rfl) rfl (by simp) ?_
                  iterate 2 refine dp rfl rfl ?_
                  refine jd_q rfl rfl rfl (qIdxS rfl rfl rfl rfl (by omega)) ?_
                  refine jd_q rfl rfl rfl (qLdA (cs := rpc psx[0 + qs.length + 1 + jj].1 psx[0 + qs.length + 1 + jj].2.1 psx[0 + qs.length + 1 + jj].2.2) rfl rfl rfl rfl rfl (fun j v hv => by rw [Int.toNat_natCast]; exact ((hldx _ hk1 j v hv).mono hMk).cj _)) ?_
                  iterate 2 refine dp rfl rfl ?_
                  refine da rfl rfl (by omega) ?_
                  refine jd_q rfl rfl rfl (qIdxS rfl rfl rfl rfl (by omega)) ?_
                  refine jd_q rfl rfl rfl (qLdA (cs := rpc psx[0 + qs.length + 1 + jj].1 psx[0 + qs.length + 1 + jj + 3].2.1 psx[0 + qs.length + 1 + jj + 3].2.2) rfl rfl rfl rfl rfl (fun j v hv => by rw [show (((0 + qs.length + 1 + jj : Nat) : Int) + 3).toNat = 0 + qs.length + 1 + jj + 3 by omega]; exact ((hldx _ hk2 j v (by unfold rF; rw [hsame]; exact hv)).mono hMk).cj _)) ?_
                  refine jd_h rfl rfl rfl (hCall rfl rfl rfl rfl rfl (by kernel_rfl) (msame_spec psx[0 + qs.length + 1 + jj].1 psx[0 + qs.length + 1 + jj].2.1 psx[0 + qs.length + 1 + jj].2.2 psx[0 + qs.length + 1 + jj + 3].2.1 psx[0 + qs.length + 1 + jj + 3].2.2 Mk (hv1.1.mono hMk) (hv1.2.mono hMk) (hv2.1.mono hMk) (hv2.2.mono hMk))) ?_; rintro _ Mz _ ⟨hMz, _, rfl, ⟨rfl, rfl⟩⟩
                  refine ⟨_, _, MLe.refl _, hMz, fun _ h => h, by simp, ?_⟩
                  refine dp rfl rfl ?_
                  refine jd_nil ?_
                  refine jPn ?_
                  refine jT ?_
                  refine jc_no rfl ?_
                  refine jc_skip ?_
                  refine jB ?_
                  refine jT ?_
                  refine jc_region ?_
                  refine jp rfl ?_
                  refine ja rfl (by omega) ?_
                  refine jp rfl ?_
                  refine jl_nil ?_
                  exact j_again (jj + 1, Mz) (Keep.cons (t := 2) rfl (Keep.cons (t := 12) rfl (Keep.cons (t := 13) rfl (Keep.cons (t := 16) rfl (Keep.cons (t := 18) rfl Keep.nil))))) ⟨by show jj + 1 ≤ 3; omega, hMk.trans hMz⟩ (by show 3 - (jj + 1) < 3 - jj; omega) (fun _ h => h)
                · refine jl_nil ?_
                  refine jT ?_
                  refine jc_no rfl ?_
                  refine jc_exit ?_
                  refine jTx ?_
                  refine jTx ?_
                  refine jBx ?_
                  refine jT ?_
                  refine jc_seq ?_
                  refine jc_region ?_
                  refine jp rfl ?_
                  refine jl_nil ?_
                  refine jT ?_
                  refine jc_ret ?_
                  refine jq_drop (L' := []) (List.nil_sublist _) ?_
                  refine jr1 rfl rfl ?_
                  exact ⟨rfl, rfl⟩
            refine ja_fork [0, 4] (by kernel_rfl) rfl ⟨?_, ?_, trivial⟩
            · refine js_h rfl rfl rfl (hBuildSlice (cs := []) rfl rfl rfl (by rfl) (by rfl) (by rfl)) ?_; rintro _ _ _ ⟨b82, rfl, rfl, rfl⟩
              refine ja_grow (MLe.refl _) (by intro p hp; simp only [List.mem_cons, List.mem_append, List.not_mem_nil, or_false, List.append_nil, List.nil_append] at hp ⊢; rcases hp with rfl | rfl <;> repeat (first | rfl | exact Or.inl rfl | apply Or.inr)) ?_
              have hown0 : Own (.slice (some ⟨b82, 0, none⟩) 0 0) [(b82, .cells [].toArray 28 (0, 0))] 28 7 0 [] := ⟨rfl, .inr ⟨b82, 0, #[], rfl, rfl, Nat.le_refl _, Nat.zero_le _, rfl, rfl⟩⟩
              refine ja_fork [2, 4] (by kernel_rfl) rfl ⟨?_, ?_, trivial⟩
              · refine js_h rfl rfl rfl (hAppendM rfl rfl rfl rfl hown0 (flatm_len cF 7 cF_len qs) hcQ5.1 rfl (cFs_one qs) (by omega) (by omega)) ?_; rintro v84 _ _ ⟨rfl, R84, rfl, hown84⟩
                refine ja_grow (MLe.refl _) (by intro p hp; simp only [List.mem_cons, List.mem_append, List.not_mem_nil, or_false, List.append_nil, List.nil_append] at hp ⊢; rcases hp with rfl | rfl <;> repeat (first | rfl | exact Or.inl rfl | apply Or.inr)) ?_
                refine ja_fork [4] (by kernel_rfl) rfl ⟨?_, trivial⟩
                · refine js_h rfl rfl rfl (hBuildSlice (cs := [_, _, _, _, _, _, _]) rfl rfl rfl (by rfl) (by rfl) (by rfl)) ?_; rintro _ _ _ ⟨b86, rfl, rfl, rfl⟩
                  refine ja_grow (MLe.refl _) (by intro p hp; simp only [List.mem_cons, List.mem_append, List.not_mem_nil, or_false, List.append_nil, List.nil_append] at hp ⊢; rcases hp with rfl | rfl <;> repeat (first | rfl | exact Or.inl rfl | apply Or.inr)) ?_
                  refine ja_cast (listed' := #[true, true, true, true, true, false, false]) (by kernel_rfl) (ja_keep (Keep.cons (t := 2) rfl (Keep.cons (t := 12) rfl (Keep.cons (t := 84) rfl (Keep.cons (t := 86) rfl Keep.nil)))) ?_)
                  exact ja_weak (fun _ h => h.perm (by first | exact List.Perm.refl _ | exact List.perm_middle.symm | exact List.perm_middle)) (MLe.refl _) (by intro p hp; simp only [List.mem_cons, List.mem_append, List.not_mem_nil, or_false, List.append_nil, List.nil_append] at hp ⊢; rcases hp with rfl | rfl <;> repeat (first | rfl | exact Or.inl rfl | apply Or.inr)) (rest (v84, R84, b86) hown84)
              · refine js_h rfl rfl rfl (hBuildSlice (cs := [_, _, _, _, _, _, _]) rfl rfl rfl (by rfl) (by rfl) (by rfl)) ?_; rintro _ _ _ ⟨b86, rfl, rfl, rfl⟩
                refine ja_grow (MLe.refl _) (by intro p hp; simp only [List.mem_cons, List.mem_append, List.not_mem_nil, or_false, List.append_nil, List.nil_append] at hp ⊢; rcases hp with rfl | rfl <;> repeat (first | rfl | exact Or.inl rfl | apply Or.inr)) ?_
                refine ja_fork [2] (by kernel_rfl) rfl ⟨?_, trivial⟩
                · refine js_h rfl rfl rfl (hAppendM rfl rfl rfl rfl hown0 (flatm_len cF 7 cF_len qs) hcQ5.1 rfl (cFs_one qs) (by omega) (by omega)) ?_; rintro v84 _ _ ⟨rfl, R84, rfl, hown84⟩
                  refine ja_grow (MLe.refl _) (by intro p hp; simp only [List.mem_cons, List.mem_append, List.not_mem_nil, or_false, List.append_nil, List.nil_append] at hp ⊢; rcases hp with rfl | rfl <;> repeat (first | rfl | exact Or.inl rfl | apply Or.inr)) ?_
                  refine ja_cast (listed' := #[true, true, true, true, true, false, false]) (by kernel_rfl) (ja_keep (Keep.cons (t := 2) rfl (Keep.cons (t := 12) rfl (Keep.cons (t := 84) rfl (Keep.cons (t := 86) rfl Keep.nil)))) ?_)
                  exact ja_weak (fun _ h => h.perm (by first | exact List.Perm.refl _ | exact List.perm_middle.symm | exact List.perm_middle)) (MLe.refl _) (by intro p hp; simp only [List.mem_cons, List.mem_append, List.not_mem_nil, or_false, List.append_nil, List.nil_append] at hp ⊢; rcases hp with rfl | rfl <;> repeat (first | rfl | exact Or.inl rfl | apply Or.inr)) (rest (v84, R84, b86) hown84)
            · refine js_h rfl rfl rfl (hBuildSlice (cs := [_, _, _, _, _, _, _]) rfl rfl rfl (by rfl) (by rfl) (by rfl)) ?_; rintro _ _ _ ⟨b86, rfl, rfl, rfl⟩
              refine ja_grow (MLe.refl _) (by intro p hp; simp only [List.mem_cons, List.mem_append, List.not_mem_nil, or_false, List.append_nil, List.nil_append] at hp ⊢; rcases hp with rfl | rfl <;> repeat (first | rfl | exact Or.inl rfl | apply Or.inr)) ?_
              refine ja_fork [0] (by kernel_rfl) rfl ⟨?_, trivial⟩
              · refine js_h rfl rfl rfl (hBuildSlice (cs := []) rfl rfl rfl (by rfl) (by rfl) (by rfl)) ?_; rintro _ _ _ ⟨b82, rfl, rfl, rfl⟩
                refine ja_grow (MLe.refl _) (by intro p hp; simp only [List.mem_cons, List.mem_append, List.not_mem_nil, or_false, List.append_nil, List.nil_append] at hp ⊢; rcases hp with rfl | rfl <;> repeat (first | rfl | exact Or.inl rfl | apply Or.inr)) ?_
                have hown0 : Own (.slice (some ⟨b82, 0, none⟩) 0 0) [(b82, .cells [].toArray 28 (0, 0))] 28 7 0 [] := ⟨rfl, .inr ⟨b82, 0, #[], rfl, rfl, Nat.le_refl _, Nat.zero_le _, rfl, rfl⟩⟩
                refine ja_fork [2] (by kernel_rfl) rfl ⟨?_, trivial⟩
                · refine js_h rfl rfl rfl (hAppendM rfl rfl rfl rfl hown0 (flatm_len cF 7 cF_len qs) hcQ5.1 rfl (cFs_one qs) (by omega) (by omega)) ?_; rintro v84 _ _ ⟨rfl, R84, rfl, hown84⟩
                  refine ja_grow (MLe.refl _) (by intro p hp; simp only [List.mem_cons, List.mem_append, List.not_mem_nil, or_false, List.append_nil, List.nil_append] at hp ⊢; rcases hp with rfl | rfl <;> repeat (first | rfl | exact Or.inl rfl | apply Or.inr)) ?_
                  refine ja_cast (listed' := #[true, true, true, true, true, false, false]) (by kernel_rfl) (ja_keep (Keep.cons (t := 2) rfl (Keep.cons (t := 12) rfl (Keep.cons (t := 84) rfl (Keep.cons (t := 86) rfl Keep.nil)))) ?_)
                  exact ja_weak (fun _ h => h.perm (by first | exact List.Perm.refl _ | exact List.perm_middle.symm | exact List.perm_middle)) (MLe.refl _) (by intro p hp; simp only [List.mem_cons, List.mem_append, List.not_mem_nil, or_false, List.append_nil, List.nil_append] at hp ⊢; rcases hp with rfl | rfl <;> repeat (first | rfl | exact Or.inl rfl | apply Or.inr)) (rest (v84, R84, b86) hown84)

set_option maxHeartbeats 8000000 in
theorem copies_false (qs : List QC) (qa : Option Addr) (qc : Nat) (r : List UInt8) (M : Mem) (hT : Tabs M) (hQ : CsR M qa qs) (hq1 : qs.length ≤ qc) (hq2 : qc ≤ maxLen) :
    SpecL Tryz.prog 8 #[.slice qa qs.length qc, .bool false, .string (ofL r)] M [] fun u _ L' => u = .bool true ∧ L' = [] := by
  have hml : maxLen = 9223372036854775807 := by unfold maxLen; rfl
  refine spec_body (vs := [_, _, _]) 149 _ Tryz.func8 rfl Tryz.ntmps8 rfl rfl ?_; intro W
  refine jc_seq ?_
  refine jc_region ?_
  refine jp rfl ?_
  refine jl_nil ?_
  refine jT ?_
  refine jc_seq ?_
  refine jc_region ?_
  refine jl_h rfl rfl (hCall rfl rfl rfl rfl rfl (by kernel_rfl) (alive_spec M hT)) ?_; rintro _ M1 _ ⟨hM1, _, rfl, ⟨rfl, rfl⟩⟩
  refine jp rfl ?_
  refine jl_nil ?_
  refine jT ?_
  refine jc_seq ?_
  refine jc_seq ?_
  refine jc_region ?_
  refine jp rfl ?_
  refine jl_h rfl rfl (hCall rfl rfl rfl rfl rfl (by kernel_rfl) (great_spec qs qa qc 30 M1 (hQ.mono hM1) hq1 hq2)) ?_; rintro _ M2 _ ⟨hM2, _, rfl, ⟨⟨g1, rfl, hg1⟩, rfl⟩⟩
  refine jsb rfl (fun h22 => ?_) (fun h22 => ?_)
  · iterate 23 refine jp rfl ?_
    refine jl_nil ?_
    refine jT ?_
    refine jc_yes rfl ?_
    refine jc_seq ?_
    refine jc_region ?_
    iterate 2 refine jp rfl ?_
    refine jl_nil ?_
    refine jT ?_
    refine jc_ret ?_
    refine jTr ?_
    refine jq_drop (L' := []) (List.nil_sublist _) ?_
    refine jr1 rfl rfl ?_
    exact ⟨rfl, rfl⟩
  · refine jp rfl ?_
    refine jl_q rfl rfl (qLen rfl rfl rfl) ?_
    refine js rfl (fun h25 => ?_) (fun h25 => ?_)
    · iterate 20 refine jp rfl ?_
      refine jl_nil ?_
      refine jT ?_
      refine jc_yes rfl ?_
      refine jc_seq ?_
      refine jc_region ?_
      iterate 2 refine jp rfl ?_
      refine jl_nil ?_
      refine jT ?_
      refine jc_ret ?_
      refine jTr ?_
      refine jq_drop (L' := []) (List.nil_sublist _) ?_
      refine jr1 rfl rfl ?_
      exact ⟨rfl, rfl⟩
    · iterate 3 refine jp rfl ?_
      refine jl_q rfl rfl (qLenStr rfl rfl rfl) ?_
      refine js rfl (fun h30 => ?_) (fun h30 => ?_)
      · iterate 15 refine jp rfl ?_
        refine jl_nil ?_
        refine jT ?_
        refine jc_yes rfl ?_
        refine jc_seq ?_
        refine jc_region ?_
        iterate 2 refine jp rfl ?_
        refine jl_nil ?_
        refine jT ?_
        refine jc_ret ?_
        refine jTr ?_
        refine jq_drop (L' := []) (List.nil_sublist _) ?_
        refine jr1 rfl rfl ?_
        exact ⟨rfl, rfl⟩
      · iterate 3 refine jp rfl ?_
        refine jl_q rfl rfl (qLenStr rfl rfl rfl) ?_
        refine js rfl (fun h35 => ?_) (fun h35 => ?_)
        · iterate 2 refine jp rfl ?_
          refine jl_q rfl rfl (qStrIdx (s := ofL r) (b := r.headD 0) rfl rfl rfl rfl (by omega) (ofL_head r (by rw [ofL_size] at h35; omega))) ?_
          refine js rfl (fun h39 => ?_) (fun h39 => ?_)
          · iterate 6 refine jp rfl ?_
            refine jl_nil ?_
            refine jT ?_
            refine jc_yes rfl ?_
            refine jc_seq ?_
            refine jc_region ?_
            iterate 2 refine jp rfl ?_
            refine jl_nil ?_
            refine jT ?_
            refine jc_ret ?_
            refine jTr ?_
            refine jq_drop (L' := []) (List.nil_sublist _) ?_
            refine jr1 rfl rfl ?_
            exact ⟨rfl, rfl⟩
          · iterate 6 refine jp rfl ?_
            refine jl_nil ?_
            refine jT ?_
            refine jc_no rfl ?_
            refine jc_skip ?_
            refine jT ?_
            refine jc_seq ?_
            rw [ofL_size] at h30 h35
            have hr := rest_ok r (fun hpos => by first | exact absurd hpos h35 | exact Classical.not_not.1 h39)
            refine jc_region ?_
            refine jl_q rfl rfl (qBuild (cs := [_, _, _, _, _, _, _]) rfl rfl rfl (by rfl)) ?_
            refine jl_h rfl rfl (hAlloc rfl rfl) ?_; rintro _ _ _ ⟨b8, rfl, rfl, rfl⟩
            refine jl_s rfl (hStoreL rfl rfl rfl rfl rfl rfl rfl rfl (by first | (simp only [Nat.reduceAdd, Nat.zero_add, Nat.add_zero, List.drop_succ_cons, List.drop_zero, List.drop_nil, List.take_succ_cons, List.take_zero, List.take_nil, List.cons_append, List.nil_append, List.append_nil, List.length_cons, List.length_nil]; try rfl) | rfl)) ?_; rintro _ _ _ ⟨rfl, rfl⟩
            refine jl_nil ?_
            refine jT ?_
            refine jc_seq ?_
            refine jc_seq ?_
            refine jc_region ?_
            refine jp rfl ?_
            refine jl_nil ?_
            refine jT ?_
            refine jc_no rfl ?_
            refine jc_skip ?_
            refine jT ?_
            refine jc_seq ?_
            have hM02 := hM1.trans hM2
            refine jc_region ?_
            refine jp rfl ?_
            refine jl_nil ?_
            refine jT ?_
            refine jc_seq ?_
            refine jc_region ?_
            iterate 2 refine jp rfl ?_
            refine jl_h rfl rfl (hAppendM (R := []) rfl rfl rfl rfl (Own.nil _ _) (flatm_len cF 7 cF_len qs) (hQ.1.mono hM02) rfl (cFs_one qs) (by omega) (by omega)) ?_; rintro v1 _ _ ⟨rfl, R1, rfl, hown1⟩
            refine jp rfl ?_
            refine jl_nil ?_
            refine jT ?_
            refine jc_seq ?_
            refine jc_region ?_
            refine jp rfl ?_
            refine jl_q rfl rfl (qLdL rfl rfl rfl rfl rfl (by first | (simp only [Nat.reduceAdd, Nat.zero_add, Nat.add_zero, List.drop_succ_cons, List.drop_zero, List.drop_nil, List.take_succ_cons, List.take_zero, List.take_nil, List.cons_append, List.nil_append, List.append_nil, List.length_cons, List.length_nil]; try rfl) | rfl)) ?_
            refine jl_h rfl rfl (hBuildSlice (cs := [_, _, _, _, _, _, _]) rfl rfl rfl (by rfl) (by rfl) (by rfl)) ?_; rintro _ _ _ ⟨b56, rfl, rfl, rfl⟩
            refine jl_h rfl rfl (hAppend (R := R1) (news := cF (cpQ false)) rfl rfl rfl rfl hown1 rfl (fun j v hv => CJ.loc (by rw [Nat.zero_add]; exact hv)) rfl rfl (cF_one _) (by omega) (by omega)) ?_; rintro v2 _ _ ⟨rfl, R2, rfl, hown2, _⟩
            refine jl_own hown2 (by simp) ?_
            intro M3 a5 c5 hM3 e5 hc5 hs5
            subst e5
            have hM03 := (hM1.trans hM2).trans hM3
            have hfe : (qs ++ [cpQ false]).flatMap cF = [] ++ qs.flatMap cF ++ cF (cpQ false) := by simp
            have hcQ : CsP M2 qa qs := (hQ.mono hM02).ok ((hg1 h22).all (by omega))
            have hcl : CsP M3 a5 (qs ++ [cpQ false]) := ⟨by rw [hfe]; exact hs5, fun q hq => by
              rcases List.mem_append.1 hq with h | h
              · exact (hcQ.mono hM3).2 q h
              · rw [List.mem_singleton.1 h]; exact ⟨CallOk.plain _ _ _ _ _ _ (by unfold InI64; omega) (by unfold InI64; simp) in0, by decide, by decide⟩⟩
            refine jl_h rfl rfl (hCall rfl rfl rfl rfl rfl (by kernel_rfl) (play_at (qs ++ [cpQ false]) (0 + qs.length + 1) (by rw [List.length_append]; simp) a5 c5 M3 (hT.mono hM03) hcl (by omega))) ?_; rintro _ M4 _ ⟨hM4, _, rfl, ⟨⟨a6, c6, ps, rfl, hc6, hcm6, hps, hrs⟩, rfl⟩⟩
            have hl1 : ps.length = qs.length + 1 := by have := congrArg List.length hps; rw [List.length_map, runI_len, List.length_map, List.length_append] at this; exact this
            have hln : qs.length < ps.length := by omega
            rw [List.length_append, List.length_singleton] at hc6
            simp only [List.length_append, List.length_singleton]
            obtain ⟨qb, qo, e0, hx0⟩ := flat_sm rF_len hrs.1 hln (by omega)
            subst e0
            have hlz : ∀ j v, (rF ps[qs.length])[j]? = some v → CM M4 qb (qo + ((qs.length : Nat) : Int).toNat * 8 + j) v := fun j v hv => by
              rw [Int.toNat_natCast]; exact hx0 j v hv
            iterate 5 refine jp rfl ?_
            refine jl_nil ?_
            refine jT ?_
            refine jc_seq ?_
            refine jc_seq ?_
            refine jc_region ?_
            refine jp rfl ?_
            refine jf rfl (decide_eq_false (by omega)) ?_
            iterate 3 refine jp rfl ?_
            refine jl_q rfl rfl (qLen rfl rfl rfl) ?_
            refine jl_q rfl rfl (qIdxS rfl rfl rfl rfl (by omega)) ?_
            refine jl_q rfl rfl (qFieldAddr rfl rfl rfl rfl rfl) ?_
            refine jl_q rfl rfl (qLd rfl rfl rfl rfl ((hlz 0 _ rfl).cj _)) ?_
            refine js rfl (fun h70 => ?_) (fun h70 => ?_)
            · refine jp rfl ?_
              refine jl_nil ?_
              refine jT ?_
              refine jc_yes rfl ?_
              refine jc_seq ?_
              refine jc_region ?_
              iterate 3 refine jp rfl ?_
              refine jl_nil ?_
              refine jT ?_
              refine jc_ret ?_
              refine jTr ?_
              refine jq_drop (L' := []) (List.nil_sublist _) ?_
              refine jr1 rfl rfl ?_
              exact ⟨rfl, rfl⟩
            · refine jp rfl ?_
              refine jl_nil ?_
              refine jT ?_
              refine jc_no rfl ?_
              refine jc_skip ?_
              refine jT ?_
              refine jc_seq ?_
              refine jc_region ?_
              iterate 2 refine jp rfl ?_
              refine jl_q rfl rfl (qLen rfl rfl rfl) ?_
              refine jl_q rfl rfl (qIdxS rfl rfl rfl rfl (by omega)) ?_
              refine jl_q rfl rfl (qFieldAddr rfl rfl rfl rfl rfl) ?_
              refine jl_q rfl rfl (qLd rfl rfl rfl rfl ((hlz 1 _ rfl).cj _)) ?_
              have hlast := last_of hps hln
              obtain ⟨n, hn1, hn2, rs, l, hl3, hrl, hcp⟩ := copies_plain (qs.map (·.1)) (by rw [List.length_map]; omega) (cpQ false).1 rfl rfl (by decide) (by rw [← hlast]; exact Classical.not_not.1 h70) (by have := play_wfs (qs.map (·.1)) qs.length (by rw [List.length_map]; exact Nat.le_refl _); rw [List.take_of_length_le (by rw [List.length_map]; exact Nat.le_refl _)] at this; rw [List.length_map]; exact this) r hr (by omega)
              rw [← hlast] at hn2
              rw [hn2]
              refine jl_h rfl rfl (hCall rfl rfl rfl rfl rfl (by kernel_rfl) (tens_spec n M4 (by omega))) ?_; rintro _ M5 _ ⟨hM5, _, rfl, ⟨rfl, rfl⟩⟩
              refine jl_q rfl rfl (qStrAdd (a := ofL [47]) (b := ofL (tens2 n)) rfl rfl rfl rfl (by rw [ofL_size, ofL_size]; have := (tens_fact n (by omega)).2.2.2; simp; omega)) ?_
              refine jp rfl ?_
              refine jl_nil ?_
              refine jT ?_
              refine jc_seq ?_
              have hcQ5 := ((hcQ.mono hM3).mono hM4).mono hM5
              refine jc_drawA ([(b56, .cells (clCells (cpQ false).1 none 0).toArray 28 (0, 0)), (b8, .cells (clCells (cpQ false).1 none 0).toArray 28 (0, 0))]) (by kernel_rfl) (fun _ h => h) ?_
              refine ja_p (i := 1) rfl (by kernel_rfl) (by kernel_rfl) rfl ?_
              refine ja_q (i := 3) rfl (by kernel_rfl) (by kernel_rfl) rfl rfl (qLdL rfl rfl rfl rfl rfl (by first | (simp only [Nat.reduceAdd, Nat.zero_add, Nat.add_zero, List.drop_succ_cons, List.drop_zero, List.drop_nil, List.take_succ_cons, List.take_zero, List.take_nil, List.cons_append, List.nil_append, List.append_nil, List.length_cons, List.length_nil]; try rfl) | rfl)) ?_
              refine ja_merge (α := Value × Lc × Nat) (fun y => Own y.1 y.2.1 28 7 (0 + qs.length) ([] ++ qs.flatMap cF)) (fun y => [(2, .string (ofL r)), (12, .string (ofL [47] ++ ofL (tens2 n))), (84, y.1), (86, .slice (some ⟨y.2.2, 0, none⟩) 1 1)]) (fun _ => M5) (fun y => y.2.1 ++ (y.2.2, .cells (clCells (cpQ false).1 none 0).toArray 28 (0, 0)) :: [(b56, .cells (clCells (cpQ false).1 none 0).toArray 28 (0, 0)), (b8, .cells (clCells (cpQ false).1 none 0).toArray 28 (0, 0))]) 2 #[true, true, true, true, true, false, false] ?_ (fun rest => ?_)
              · rintro ⟨v84, R84, b86⟩ hown84
                try dsimp only at hown84 ⊢
                refine ja_one (i := 5) (by kernel_rfl) ?_
                refine js_h rfl rfl rfl (hAppend (R := R84) (news := cF (cpQ false)) rfl rfl rfl rfl hown84 rfl (fun j v hv => CJ.loc (by rw [Nat.zero_add]; exact hv)) rfl rfl (cF_one _) (by omega) (by omega)) ?_; rintro v87 _ _ ⟨rfl, R87, rfl, hown87, _⟩
                refine ja_grow (MLe.refl _) (by intro p hp; simp only [List.mem_cons, List.mem_append, List.not_mem_nil, or_false, List.append_nil, List.nil_append] at hp ⊢; rcases hp with rfl | rfl <;> repeat (first | rfl | exact Or.inl rfl | apply Or.inr)) ?_
                refine ja_p (i := 6) rfl (by kernel_rfl) (by kernel_rfl) rfl ?_
                refine ja_end (by kernel_rfl) ?_
                refine jPn ?_
                refine jT ?_
                refine jc_seq ?_
                obtain ⟨fa, fc, rfl⟩ := hown87.form
                refine jc_region ?_
                refine jp rfl ?_
                refine jl_q rfl rfl (qLen rfl rfl rfl) ?_
                refine jp rfl ?_
                refine jl_nil ?_
                refine jT ?_
                refine jc_seq ?_
                refine jc_seq ?_
                refine jc_region ?_
                refine jp rfl ?_
                refine jl_h rfl rfl (hBuildSlice (cs := [_, _]) rfl rfl rfl (by rfl) (by rfl) (by rfl)) ?_; rintro _ _ _ ⟨b91, rfl, rfl, rfl⟩
                refine jl_freeze b91 (by simp) ?_
                intro M6 hM6 e91
                have hs91 : ∀ (i : Nat) v, ([(ofL [47, 49]), (ofL [47] ++ ofL (tens2 n))].map Value.string)[i]? = some v → CM M6 b91 (0 + i) v := by
                  obtain ⟨b, off, e, h⟩ := SM.open (SM.of_block e91) (by simp)
                  cases e; exact h
                refine jl_q rfl rfl (qLen rfl rfl rfl) ?_
                refine jp rfl ?_
                refine jl_nil ?_
                refine jT ?_
                refine jc_block ?_
                refine jc_loopK (α := Nat × Value × Lc) (fun z => [(2, .string (ofL r)), (9, z.2.1), (12, .string (ofL [47] ++ ofL (tens2 n))), (13, .int .i64 ((0 + qs.length + 1 : Nat) : Int)), (91, .slice (some ⟨b91, 0, none⟩) 2 2), (92, .int .i64 2), (93, .int .i64 z.1)]) (fun _ => M6) (fun z => z.2.2) (fun z => z.1 ≤ 2 ∧ Own z.2.1 z.2.2 28 7 (0 + qs.length + 1 + 3 * z.1) ((qs ++ [cpQ false] ++ exq ((ofL [47, 49]) ++ ofL r) ((ofL [47] ++ ofL (tens2 n)) ++ ofL r) z.1).flatMap cF)) (fun z => 2 - z.1)
                  (0, .slice fa (0 + qs.length + 1) fc, R87) (Keep.cons (t := 2) rfl (Keep.cons (t := 9) rfl (Keep.cons (t := 12) rfl (Keep.cons (t := 13) rfl (Keep.cons (t := 91) rfl (Keep.cons (t := 92) rfl (Keep.cons (t := 93) rfl Keep.nil))))))) ⟨by omega, by rw [Nat.mul_zero, Nat.add_zero, exq, List.append_nil, List.flatMap_append]; simpa using hown87⟩ (fun _ h => h.subC fun f => by simp only [List.map_append, List.map_cons, List.map_nil, List.sum_append, List.sum_cons, List.sum_nil]; omega) ?_
                rintro ⟨i, v9, R9⟩ ⟨hi2, hown9⟩
                try dsimp only at hi2 hown9 ⊢
                refine jc_seq ?_
                refine jc_region ?_
                refine js rfl (fun h94 => ?_) (fun h94 => ?_)
                · refine jl_nil ?_
                  refine jT ?_
                  refine jc_seq ?_
                  refine jc_yes rfl ?_
                  refine jc_skip ?_
                  refine jT ?_
                  refine jc_seq ?_
                  refine jc_block ?_
                  refine jc_seq ?_
                  refine jc_region ?_
                  refine jl_q rfl rfl (qIdxS rfl rfl rfl rfl (by omega)) ?_
                  obtain ⟨s, hs⟩ : ∃ s, [(ofL [47, 49]), (ofL [47] ++ ofL (tens2 n))][i]? = some s := ⟨[(ofL [47, 49]), (ofL [47] ++ ofL (tens2 n))][i]'(by simpa using (by omega : i < 2)), List.getElem?_eq_getElem _⟩
                  have hsA : s.size + (ofL r).size ≤ 1000000 := by
                    have h3 : s.size ≤ 3 := two_size n i s (by omega) hs
                    have h4 : (ofL r).size ≤ 60 := by show r.length ≤ 60; omega
                    exact Nat.le_trans (Nat.add_le_add h3 h4) (Nat.le_of_ble_eq_true rfl)
                  refine jl_q rfl rfl (qLd (v := .string s) rfl rfl rfl rfl ((hs91 _ (.string s) (by rw [Nat.mul_one, Int.toNat_natCast, List.getElem?_map, hs]; rfl)).cj _)) ?_
                  refine jp rfl ?_
                  refine jl_nil ?_
                  refine jT ?_
                  refine jc_region ?_
                  iterate 3 refine jp rfl ?_
                  refine jl_q rfl rfl (qStrAdd (a := s) (b := ofL r) rfl rfl rfl rfl hsA) ?_
                  refine jl_q rfl rfl (qCall rfl rfl rfl rfl rfl (by kernel_rfl) (one_spec 16 (s ++ ofL r) M6)) ?_
                  iterate 2 refine jp rfl ?_
                  refine jl_q rfl rfl (qStrAdd (a := s) (b := ofL r) rfl rfl rfl rfl hsA) ?_
                  refine jl_q rfl rfl (qCall rfl rfl rfl rfl rfl (by kernel_rfl) (one_spec 17 (s ++ ofL r) M6)) ?_
                  iterate 2 refine jp rfl ?_
                  refine jl_q rfl rfl (qStrAdd (a := s) (b := ofL r) rfl rfl rfl rfl hsA) ?_
                  refine jl_q rfl rfl (qBuild (cs := [_, _, _, _, _, _, _]) rfl rfl rfl (by rfl)) ?_
                  refine jl_h rfl rfl (hBuildSlice (cs := [_, _, _, _, _, _, _, _, _, _, _, _, _, _, _, _, _, _, _, _, _]) rfl rfl rfl (by rfl) (by rfl) (by rfl)) ?_; rintro _ _ _ ⟨b110, rfl, rfl, rfl⟩
                  refine jl_h rfl rfl (hAppend (R := R9) (news := (lkQ (s ++ ofL r)).flatMap cF) rfl rfl rfl rfl hown9 rfl (fun j v hv => CJ.loc (by rw [Nat.zero_add]; exact hv)) rfl rfl (cFs_one _) (by omega) (by omega)) ?_; rintro w9 _ _ ⟨rfl, R9b, rfl, hw9, _⟩
                  refine jp rfl ?_
                  refine jl_nil ?_
                  refine jB ?_
                  refine jT ?_
                  refine jc_region ?_
                  refine ja rfl (by omega) ?_
                  refine jp rfl ?_
                  refine jl_nil ?_
                  refine j_again (i + 1, w9, R9b) (Keep.cons (t := 2) rfl (Keep.cons (t := 9) rfl (Keep.cons (t := 12) rfl (Keep.cons (t := 13) rfl (Keep.cons (t := 91) rfl (Keep.cons (t := 92) rfl (Keep.cons (t := 93) rfl Keep.nil))))))) ⟨by show i + 1 ≤ 2; omega, ?_⟩ (by show 2 - (i + 1) < 2 - i; omega) (fun _ h => h.subC fun f => by simp only [List.map_append, List.map_cons, List.map_nil, List.sum_append, List.sum_cons, List.sum_nil]; omega)
                  show Own w9 R9b 28 7 (0 + qs.length + 1 + 3 * (i + 1)) ((qs ++ [cpQ false] ++ exq ((ofL [47, 49]) ++ ofL r) ((ofL [47] ++ ofL (tens2 n)) ++ ofL r) (i + 1)).flatMap cF)
                  have hex := exq_step ((ofL [47, 49]) ++ ofL r) ((ofL [47] ++ ofL (tens2 n)) ++ ofL r) i (by omega) (s ++ ofL r) (by rw [show [((ofL [47, 49]) ++ ofL r), ((ofL [47] ++ ofL (tens2 n)) ++ ofL r)] = [(ofL [47, 49]), (ofL [47] ++ ofL (tens2 n))].map (· ++ ofL r) from rfl, List.getElem?_map, hs]; rfl)
                  rw [hex, ← List.append_assoc, List.flatMap_append]
                  exact hw9
                · refine jl_nil ?_
                  refine jT ?_
                  refine jc_seq ?_
                  refine jc_no rfl ?_
                  refine jc_exit ?_
                  refine jTx ?_
                  refine jTx ?_
                  refine jBx ?_
                  refine jT ?_
                  refine jc_seq ?_
                  obtain rfl : i = 2 := by omega
                  have hn2z := (tens_fact n (by omega)).2.2.2
                  refine jc_own hown9 (by simp) ?_
                  intro M7 a7 c7 hM7 e7 hc7 hs7
                  subst e7
                  have hM57 := (hM5.trans hM6).trans hM7
                  have hT7 : Tabs M7 := hT.mono ((hM03.trans hM4).trans hM57)
                  have hlq : (qs ++ [cpQ false] ++ exq ((ofL [47, 49]) ++ ofL r) ((ofL [47] ++ ofL (tens2 n)) ++ ofL r) 2).length = 0 + qs.length + 1 + 3 * 2 := by simp [exq]
                  have hcs7 : CsP M7 a7 (qs ++ [cpQ false] ++ exq ((ofL [47, 49]) ++ ofL r) ((ofL [47] ++ ofL (tens2 n)) ++ ofL r) 2) := ⟨hs7, fun q hq => by
                    rcases List.mem_append.1 hq with h | h
                    · exact ((hcl.mono hM4).mono hM57).2 q h
                    · rcases List.mem_append.1 h with h | h
                      · exact cp_ok M7 _ (by rw [ofL_app, ofL_size]; simp; omega) q h
                      · exact cp_ok M7 _ (by rw [ofL_app, ofL_app, ofL_size]; simp; omega) q h⟩
                  refine jc_region ?_
                  refine jp rfl ?_
                  refine jl_h rfl rfl (hCall rfl rfl rfl rfl rfl (by kernel_rfl) (play_at (qs ++ [cpQ false] ++ exq ((ofL [47, 49]) ++ ofL r) ((ofL [47] ++ ofL (tens2 n)) ++ ofL r) 2) (0 + qs.length + 1 + 3 * 2) hlq a7 c7 M7 hT7 hcs7 (by omega))) ?_; rintro _ M8 _ ⟨hM8, _, rfl, ⟨⟨ax, cx, psx, rfl, hcx, hcmx, hpsx, hrsx⟩, rfl⟩⟩
                  rw [hlq] at hcx
                  rw [hlq]
                  have hlx : psx.length = 0 + qs.length + 1 + 3 * 2 := by have := congrArg List.length hpsx; rw [List.length_map, runI_len, List.length_map, hlq] at this; exact this
                  have hrun : psx.map (·.1) = rs ++ l ++ l := by
                    rw [hpsx, ← hcp, show ((ofL [47, 49]) ++ ofL r) = ofL (47 :: ([49] ++ r)) from ofL_app _ _, show ((ofL [47] ++ ofL (tens2 n)) ++ ofL r) = ofL (47 :: (tens2 n ++ r)) from by rw [ofL_app, ofL_app]; rfl]; simp [exq]
                  iterate 5 refine jp rfl ?_
                  refine jl_nil ?_
                  refine jT ?_
                  refine jc_seq ?_
                  refine jc_seq ?_
                  refine jc_region ?_
                  refine jp rfl ?_
                  refine jf rfl (decide_eq_false (by omega)) ?_
                  refine jl_nil ?_
                  refine jT ?_
                  refine jc_no rfl ?_
                  refine jc_skip ?_
                  refine jT ?_
                  refine jc_seq ?_
                  refine jc_seq ?_
                  obtain ⟨qbx, qox, e0x, _⟩ := flat_sm rF_len hrsx.1 (i := 0) (by omega) (by omega)
                  subst e0x
                  have hldx : ∀ (k : Nat) (h : k < psx.length) (j : Nat) (v : Value), (rF psx[k])[j]? = some v → CM M8 qbx (qox + k * 8 + j) v := fun k h j v hv => by
                    obtain ⟨b2, o2, e2, h2⟩ := flat_sm rF_len hrsx.1 h (by omega)
                    cases e2; exact h2 j v hv
                  refine jc_region ?_
                  iterate 2 refine jp rfl ?_
                  refine jl_nil ?_
                  refine jT ?_
                  refine jc_block ?_
                  refine jc_loopK (α := Nat × Mem) (fun z => [(2, .string (ofL r)), (12, .string (ofL [47] ++ ofL (tens2 n))), (13, .int .i64 ((0 + qs.length + 1 : Nat) : Int)), (16, .slice (some ⟨qbx, qox, none⟩) (0 + qs.length + 1 + 3 * 2) cx), (18, .int .i64 ((0 + qs.length + 1 + z.1 : Nat) : Int))]) (fun z => z.2) (fun _ => []) (fun z => z.1 ≤ 3 ∧ MLe M8 z.2) (fun z => 3 - z.1)
                    (0, M8) (Keep.cons (t := 2) rfl (Keep.cons (t := 12) rfl (Keep.cons (t := 13) rfl (Keep.cons (t := 16) rfl (Keep.cons (t := 18) rfl Keep.nil))))) ⟨by omega, MLe.refl _⟩ (fun _ h => h) ?_
                  rintro ⟨jj, Mk⟩ ⟨hj3, hMk⟩
                  try dsimp only at hj3 hMk ⊢
                  refine jc_seq ?_
                  refine jc_seq ?_
                  refine jc_region ?_
                  iterate 2 refine jp rfl ?_
                  refine ja rfl (by omega) ?_
                  refine js rfl (fun h124 => ?_) (fun h124 => ?_)
                  · refine jl_nil ?_
                    refine jT ?_
                    refine jc_yes rfl ?_
                    refine jc_skip ?_
                    refine jT ?_
                    refine jc_seq ?_
                    refine jc_block ?_
                    refine jc_seq ?_
                    have hk1 : 0 + qs.length + 1 + jj < psx.length := by omega
                    have hk2 : 0 + qs.length + 1 + jj + 3 < psx.length := by omega
                    have hsame := twice_get (N := 0 + qs.length + 1) (k := jj) hrun hl3 (by rw [hrl, List.length_map]; omega) (by omega) hk1 hk2
                    have hv1 := hrsx.2 _ (List.getElem_mem hk1)
                    have hv2 := hrsx.2 _ (List.getElem_mem hk2)
                    rw [hsame] at hv2
                    refine jc_draw [(0, true), (1, true), (2, true), (3, true), (4, true), (5, true), (6, true), (7, true), (8, true), (9, false), (10, true)] [] (by kernel_rfl) (by kernel_rfl) (by kernel_rfl) rfl (by simp) ?_
                    iterate 2 refine dp rfl rfl ?_
                    refine jd_q rfl rfl rfl (qIdxS rfl rfl rfl rfl (by omega)) ?_
                    refine jd_q rfl rfl rfl (qLdA (cs := rpc psx[0 + qs.length + 1 + jj].1 psx[0 + qs.length + 1 + jj].2.1 psx[0 + qs.length + 1 + jj].2.2) rfl rfl rfl rfl rfl (fun j v hv => by rw [Int.toNat_natCast]; exact ((hldx _ hk1 j v hv).mono hMk).cj _)) ?_
                    iterate 2 refine dp rfl rfl ?_
                    refine da rfl rfl (by omega) ?_
                    refine jd_q rfl rfl rfl (qIdxS rfl rfl rfl rfl (by omega)) ?_
                    refine jd_q rfl rfl rfl (qLdA (cs := rpc psx[0 + qs.length + 1 + jj].1 psx[0 + qs.length + 1 + jj + 3].2.1 psx[0 + qs.length + 1 + jj + 3].2.2) rfl rfl rfl rfl rfl (fun j v hv => by rw [show (((0 + qs.length + 1 + jj : Nat) : Int) + 3).toNat = 0 + qs.length + 1 + jj + 3 by omega]; exact ((hldx _ hk2 j v (by unfold rF; rw [hsame]; exact hv)).mono hMk).cj _)) ?_
                    refine jd_h rfl rfl rfl (hCall rfl rfl rfl rfl rfl (by kernel_rfl) (msame_spec psx[0 + qs.length + 1 + jj].1 psx[0 + qs.length + 1 + jj].2.1 psx[0 + qs.length + 1 + jj].2.2 psx[0 + qs.length + 1 + jj + 3].2.1 psx[0 + qs.length + 1 + jj + 3].2.2 Mk (hv1.1.mono hMk) (hv1.2.mono hMk) (hv2.1.mono hMk) (hv2.2.mono hMk))) ?_; rintro _ Mz _ ⟨hMz, _, rfl, ⟨rfl, rfl⟩⟩
                    refine ⟨_, _, MLe.refl _, hMz, fun _ h => h, by simp, ?_⟩
                    refine dp rfl rfl ?_
                    refine jd_nil ?_
                    refine jPn ?_
                    refine jT ?_
                    refine jc_no rfl ?_
                    refine jc_skip ?_
                    refine jB ?_
                    refine jT ?_
                    refine jc_region ?_
                    refine jp rfl ?_
                    refine ja rfl (by omega) ?_
                    refine jp rfl ?_
                    refine jl_nil ?_
                    exact j_again (jj + 1, Mz) (Keep.cons (t := 2) rfl (Keep.cons (t := 12) rfl (Keep.cons (t := 13) rfl (Keep.cons (t := 16) rfl (Keep.cons (t := 18) rfl Keep.nil))))) ⟨by show jj + 1 ≤ 3; omega, hMk.trans hMz⟩ (by show 3 - (jj + 1) < 3 - jj; omega) (fun _ h => h)
                  · refine jl_nil ?_
                    refine jT ?_
                    refine jc_no rfl ?_
                    refine jc_exit ?_
                    refine jTx ?_
                    refine jTx ?_
                    refine jBx ?_
                    refine jT ?_
                    refine jc_seq ?_
                    refine jc_region ?_
                    refine jp rfl ?_
                    refine jl_nil ?_
                    refine jT ?_
                    refine jc_ret ?_
                    refine jq_drop (L' := []) (List.nil_sublist _) ?_
                    refine jr1 rfl rfl ?_
                    exact ⟨rfl, rfl⟩
              refine ja_fork [0, 4] (by kernel_rfl) rfl ⟨?_, ?_, trivial⟩
              · refine js_h rfl rfl rfl (hBuildSlice (cs := []) rfl rfl rfl (by rfl) (by rfl) (by rfl)) ?_; rintro _ _ _ ⟨b82, rfl, rfl, rfl⟩
                refine ja_grow (MLe.refl _) (by intro p hp; simp only [List.mem_cons, List.mem_append, List.not_mem_nil, or_false, List.append_nil, List.nil_append] at hp ⊢; rcases hp with rfl | rfl <;> repeat (first | rfl | exact Or.inl rfl | apply Or.inr)) ?_
                have hown0 : Own (.slice (some ⟨b82, 0, none⟩) 0 0) [(b82, .cells [].toArray 28 (0, 0))] 28 7 0 [] := ⟨rfl, .inr ⟨b82, 0, #[], rfl, rfl, Nat.le_refl _, Nat.zero_le _, rfl, rfl⟩⟩
                refine ja_fork [2, 4] (by kernel_rfl) rfl ⟨?_, ?_, trivial⟩
                · refine js_h rfl rfl rfl (hAppendM rfl rfl rfl rfl hown0 (flatm_len cF 7 cF_len qs) hcQ5.1 rfl (cFs_one qs) (by omega) (by omega)) ?_; rintro v84 _ _ ⟨rfl, R84, rfl, hown84⟩
                  refine ja_grow (MLe.refl _) (by intro p hp; simp only [List.mem_cons, List.mem_append, List.not_mem_nil, or_false, List.append_nil, List.nil_append] at hp ⊢; rcases hp with rfl | rfl <;> repeat (first | rfl | exact Or.inl rfl | apply Or.inr)) ?_
                  refine ja_fork [4] (by kernel_rfl) rfl ⟨?_, trivial⟩
                  · refine js_h rfl rfl rfl (hBuildSlice (cs := [_, _, _, _, _, _, _]) rfl rfl rfl (by rfl) (by rfl) (by rfl)) ?_; rintro _ _ _ ⟨b86, rfl, rfl, rfl⟩
                    refine ja_grow (MLe.refl _) (by intro p hp; simp only [List.mem_cons, List.mem_append, List.not_mem_nil, or_false, List.append_nil, List.nil_append] at hp ⊢; rcases hp with rfl | rfl <;> repeat (first | rfl | exact Or.inl rfl | apply Or.inr)) ?_
                    refine ja_cast (listed' := #[true, true, true, true, true, false, false]) (by kernel_rfl) (ja_keep (Keep.cons (t := 2) rfl (Keep.cons (t := 12) rfl (Keep.cons (t := 84) rfl (Keep.cons (t := 86) rfl Keep.nil)))) ?_)
                    exact ja_weak (fun _ h => h.perm (by first | exact List.Perm.refl _ | exact List.perm_middle.symm | exact List.perm_middle)) (MLe.refl _) (by intro p hp; simp only [List.mem_cons, List.mem_append, List.not_mem_nil, or_false, List.append_nil, List.nil_append] at hp ⊢; rcases hp with rfl | rfl <;> repeat (first | rfl | exact Or.inl rfl | apply Or.inr)) (rest (v84, R84, b86) hown84)
                · refine js_h rfl rfl rfl (hBuildSlice (cs := [_, _, _, _, _, _, _]) rfl rfl rfl (by rfl) (by rfl) (by rfl)) ?_; rintro _ _ _ ⟨b86, rfl, rfl, rfl⟩
                  refine ja_grow (MLe.refl _) (by intro p hp; simp only [List.mem_cons, List.mem_append, List.not_mem_nil, or_false, List.append_nil, List.nil_append] at hp ⊢; rcases hp with rfl | rfl <;> repeat (first | rfl | exact Or.inl rfl | apply Or.inr)) ?_
                  refine ja_fork [2] (by kernel_rfl) rfl ⟨?_, trivial⟩
                  · refine js_h rfl rfl rfl (hAppendM rfl rfl rfl rfl hown0 (flatm_len cF 7 cF_len qs) hcQ5.1 rfl (cFs_one qs) (by omega) (by omega)) ?_; rintro v84 _ _ ⟨rfl, R84, rfl, hown84⟩
                    refine ja_grow (MLe.refl _) (by intro p hp; simp only [List.mem_cons, List.mem_append, List.not_mem_nil, or_false, List.append_nil, List.nil_append] at hp ⊢; rcases hp with rfl | rfl <;> repeat (first | rfl | exact Or.inl rfl | apply Or.inr)) ?_
                    refine ja_cast (listed' := #[true, true, true, true, true, false, false]) (by kernel_rfl) (ja_keep (Keep.cons (t := 2) rfl (Keep.cons (t := 12) rfl (Keep.cons (t := 84) rfl (Keep.cons (t := 86) rfl Keep.nil)))) ?_)
                    exact ja_weak (fun _ h => h.perm (by first | exact List.Perm.refl _ | exact List.perm_middle.symm | exact List.perm_middle)) (MLe.refl _) (by intro p hp; simp only [List.mem_cons, List.mem_append, List.not_mem_nil, or_false, List.append_nil, List.nil_append] at hp ⊢; rcases hp with rfl | rfl <;> repeat (first | rfl | exact Or.inl rfl | apply Or.inr)) (rest (v84, R84, b86) hown84)
              · refine js_h rfl rfl rfl (hBuildSlice (cs := [_, _, _, _, _, _, _]) rfl rfl rfl (by rfl) (by rfl) (by rfl)) ?_; rintro _ _ _ ⟨b86, rfl, rfl, rfl⟩
                refine ja_grow (MLe.refl _) (by intro p hp; simp only [List.mem_cons, List.mem_append, List.not_mem_nil, or_false, List.append_nil, List.nil_append] at hp ⊢; rcases hp with rfl | rfl <;> repeat (first | rfl | exact Or.inl rfl | apply Or.inr)) ?_
                refine ja_fork [0] (by kernel_rfl) rfl ⟨?_, trivial⟩
                · refine js_h rfl rfl rfl (hBuildSlice (cs := []) rfl rfl rfl (by rfl) (by rfl) (by rfl)) ?_; rintro _ _ _ ⟨b82, rfl, rfl, rfl⟩
                  refine ja_grow (MLe.refl _) (by intro p hp; simp only [List.mem_cons, List.mem_append, List.not_mem_nil, or_false, List.append_nil, List.nil_append] at hp ⊢; rcases hp with rfl | rfl <;> repeat (first | rfl | exact Or.inl rfl | apply Or.inr)) ?_
                  have hown0 : Own (.slice (some ⟨b82, 0, none⟩) 0 0) [(b82, .cells [].toArray 28 (0, 0))] 28 7 0 [] := ⟨rfl, .inr ⟨b82, 0, #[], rfl, rfl, Nat.le_refl _, Nat.zero_le _, rfl, rfl⟩⟩
                  refine ja_fork [2] (by kernel_rfl) rfl ⟨?_, trivial⟩
                  · refine js_h rfl rfl rfl (hAppendM rfl rfl rfl rfl hown0 (flatm_len cF 7 cF_len qs) hcQ5.1 rfl (cFs_one qs) (by omega) (by omega)) ?_; rintro v84 _ _ ⟨rfl, R84, rfl, hown84⟩
                    refine ja_grow (MLe.refl _) (by intro p hp; simp only [List.mem_cons, List.mem_append, List.not_mem_nil, or_false, List.append_nil, List.nil_append] at hp ⊢; rcases hp with rfl | rfl <;> repeat (first | rfl | exact Or.inl rfl | apply Or.inr)) ?_
                    refine ja_cast (listed' := #[true, true, true, true, true, false, false]) (by kernel_rfl) (ja_keep (Keep.cons (t := 2) rfl (Keep.cons (t := 12) rfl (Keep.cons (t := 84) rfl (Keep.cons (t := 86) rfl Keep.nil)))) ?_)
                    exact ja_weak (fun _ h => h.perm (by first | exact List.Perm.refl _ | exact List.perm_middle.symm | exact List.perm_middle)) (MLe.refl _) (by intro p hp; simp only [List.mem_cons, List.mem_append, List.not_mem_nil, or_false, List.append_nil, List.nil_append] at hp ⊢; rcases hp with rfl | rfl <;> repeat (first | rfl | exact Or.inl rfl | apply Or.inr)) (rest (v84, R84, b86) hown84)
        · iterate 10 refine jp rfl ?_
          refine jl_nil ?_
          refine jT ?_
          refine jc_no rfl ?_
          refine jc_skip ?_
          refine jT ?_
          refine jc_seq ?_
          rw [ofL_size] at h30 h35
          have hr := rest_ok r (fun hpos => by first | exact absurd hpos h35 | exact Classical.not_not.1 h39)
          refine jc_region ?_
          refine jl_q rfl rfl (qBuild (cs := [_, _, _, _, _, _, _]) rfl rfl rfl (by rfl)) ?_
          refine jl_h rfl rfl (hAlloc rfl rfl) ?_; rintro _ _ _ ⟨b8, rfl, rfl, rfl⟩
          refine jl_s rfl (hStoreL rfl rfl rfl rfl rfl rfl rfl rfl (by first | (simp only [Nat.reduceAdd, Nat.zero_add, Nat.add_zero, List.drop_succ_cons, List.drop_zero, List.drop_nil, List.take_succ_cons, List.take_zero, List.take_nil, List.cons_append, List.nil_append, List.append_nil, List.length_cons, List.length_nil]; try rfl) | rfl)) ?_; rintro _ _ _ ⟨rfl, rfl⟩
          refine jl_nil ?_
          refine jT ?_
          refine jc_seq ?_
          refine jc_seq ?_
          refine jc_region ?_
          refine jp rfl ?_
          refine jl_nil ?_
          refine jT ?_
          refine jc_no rfl ?_
          refine jc_skip ?_
          refine jT ?_
          refine jc_seq ?_
          have hM02 := hM1.trans hM2
          refine jc_region ?_
          refine jp rfl ?_
          refine jl_nil ?_
          refine jT ?_
          refine jc_seq ?_
          refine jc_region ?_
          iterate 2 refine jp rfl ?_
          refine jl_h rfl rfl (hAppendM (R := []) rfl rfl rfl rfl (Own.nil _ _) (flatm_len cF 7 cF_len qs) (hQ.1.mono hM02) rfl (cFs_one qs) (by omega) (by omega)) ?_; rintro v1 _ _ ⟨rfl, R1, rfl, hown1⟩
          refine jp rfl ?_
          refine jl_nil ?_
          refine jT ?_
          refine jc_seq ?_
          refine jc_region ?_
          refine jp rfl ?_
          refine jl_q rfl rfl (qLdL rfl rfl rfl rfl rfl (by first | (simp only [Nat.reduceAdd, Nat.zero_add, Nat.add_zero, List.drop_succ_cons, List.drop_zero, List.drop_nil, List.take_succ_cons, List.take_zero, List.take_nil, List.cons_append, List.nil_append, List.append_nil, List.length_cons, List.length_nil]; try rfl) | rfl)) ?_
          refine jl_h rfl rfl (hBuildSlice (cs := [_, _, _, _, _, _, _]) rfl rfl rfl (by rfl) (by rfl) (by rfl)) ?_; rintro _ _ _ ⟨b56, rfl, rfl, rfl⟩
          refine jl_h rfl rfl (hAppend (R := R1) (news := cF (cpQ false)) rfl rfl rfl rfl hown1 rfl (fun j v hv => CJ.loc (by rw [Nat.zero_add]; exact hv)) rfl rfl (cF_one _) (by omega) (by omega)) ?_; rintro v2 _ _ ⟨rfl, R2, rfl, hown2, _⟩
          refine jl_own hown2 (by simp) ?_
          intro M3 a5 c5 hM3 e5 hc5 hs5
          subst e5
          have hM03 := (hM1.trans hM2).trans hM3
          have hfe : (qs ++ [cpQ false]).flatMap cF = [] ++ qs.flatMap cF ++ cF (cpQ false) := by simp
          have hcQ : CsP M2 qa qs := (hQ.mono hM02).ok ((hg1 h22).all (by omega))
          have hcl : CsP M3 a5 (qs ++ [cpQ false]) := ⟨by rw [hfe]; exact hs5, fun q hq => by
            rcases List.mem_append.1 hq with h | h
            · exact (hcQ.mono hM3).2 q h
            · rw [List.mem_singleton.1 h]; exact ⟨CallOk.plain _ _ _ _ _ _ (by unfold InI64; omega) (by unfold InI64; simp) in0, by decide, by decide⟩⟩
          refine jl_h rfl rfl (hCall rfl rfl rfl rfl rfl (by kernel_rfl) (play_at (qs ++ [cpQ false]) (0 + qs.length + 1) (by rw [List.length_append]; simp) a5 c5 M3 (hT.mono hM03) hcl (by omega))) ?_; rintro _ M4 _ ⟨hM4, _, rfl, ⟨⟨a6, c6, ps, rfl, hc6, hcm6, hps, hrs⟩, rfl⟩⟩
          have hl1 : ps.length = qs.length + 1 := by have := congrArg List.length hps; rw [List.length_map, runI_len, List.length_map, List.length_append] at this; exact this
          have hln : qs.length < ps.length := by omega
          rw [List.length_append, List.length_singleton] at hc6
          simp only [List.length_append, List.length_singleton]
          obtain ⟨qb, qo, e0, hx0⟩ := flat_sm rF_len hrs.1 hln (by omega)
          subst e0
          have hlz : ∀ j v, (rF ps[qs.length])[j]? = some v → CM M4 qb (qo + ((qs.length : Nat) : Int).toNat * 8 + j) v := fun j v hv => by
            rw [Int.toNat_natCast]; exact hx0 j v hv
          iterate 5 refine jp rfl ?_
          refine jl_nil ?_
          refine jT ?_
          refine jc_seq ?_
          refine jc_seq ?_
          refine jc_region ?_
          refine jp rfl ?_
          refine jf rfl (decide_eq_false (by omega)) ?_
          iterate 3 refine jp rfl ?_
          refine jl_q rfl rfl (qLen rfl rfl rfl) ?_
          refine jl_q rfl rfl (qIdxS rfl rfl rfl rfl (by omega)) ?_
          refine jl_q rfl rfl (qFieldAddr rfl rfl rfl rfl rfl) ?_
          refine jl_q rfl rfl (qLd rfl rfl rfl rfl ((hlz 0 _ rfl).cj _)) ?_
          refine js rfl (fun h70 => ?_) (fun h70 => ?_)
          · refine jp rfl ?_
            refine jl_nil ?_
            refine jT ?_
            refine jc_yes rfl ?_
            refine jc_seq ?_
            refine jc_region ?_
            iterate 3 refine jp rfl ?_
            refine jl_nil ?_
            refine jT ?_
            refine jc_ret ?_
            refine jTr ?_
            refine jq_drop (L' := []) (List.nil_sublist _) ?_
            refine jr1 rfl rfl ?_
            exact ⟨rfl, rfl⟩
          · refine jp rfl ?_
            refine jl_nil ?_
            refine jT ?_
            refine jc_no rfl ?_
            refine jc_skip ?_
            refine jT ?_
            refine jc_seq ?_
            refine jc_region ?_
            iterate 2 refine jp rfl ?_
            refine jl_q rfl rfl (qLen rfl rfl rfl) ?_
            refine jl_q rfl rfl (qIdxS rfl rfl rfl rfl (by omega)) ?_
            refine jl_q rfl rfl (qFieldAddr rfl rfl rfl rfl rfl) ?_
            refine jl_q rfl rfl (qLd rfl rfl rfl rfl ((hlz 1 _ rfl).cj _)) ?_
            have hlast := last_of hps hln
            obtain ⟨n, hn1, hn2, rs, l, hl3, hrl, hcp⟩ := copies_plain (qs.map (·.1)) (by rw [List.length_map]; omega) (cpQ false).1 rfl rfl (by decide) (by rw [← hlast]; exact Classical.not_not.1 h70) (by have := play_wfs (qs.map (·.1)) qs.length (by rw [List.length_map]; exact Nat.le_refl _); rw [List.take_of_length_le (by rw [List.length_map]; exact Nat.le_refl _)] at this; rw [List.length_map]; exact this) r hr (by omega)
            rw [← hlast] at hn2
            rw [hn2]
            refine jl_h rfl rfl (hCall rfl rfl rfl rfl rfl (by kernel_rfl) (tens_spec n M4 (by omega))) ?_; rintro _ M5 _ ⟨hM5, _, rfl, ⟨rfl, rfl⟩⟩
            refine jl_q rfl rfl (qStrAdd (a := ofL [47]) (b := ofL (tens2 n)) rfl rfl rfl rfl (by rw [ofL_size, ofL_size]; have := (tens_fact n (by omega)).2.2.2; simp; omega)) ?_
            refine jp rfl ?_
            refine jl_nil ?_
            refine jT ?_
            refine jc_seq ?_
            have hcQ5 := ((hcQ.mono hM3).mono hM4).mono hM5
            refine jc_drawA ([(b56, .cells (clCells (cpQ false).1 none 0).toArray 28 (0, 0)), (b8, .cells (clCells (cpQ false).1 none 0).toArray 28 (0, 0))]) (by kernel_rfl) (fun _ h => h) ?_
            refine ja_p (i := 1) rfl (by kernel_rfl) (by kernel_rfl) rfl ?_
            refine ja_q (i := 3) rfl (by kernel_rfl) (by kernel_rfl) rfl rfl (qLdL rfl rfl rfl rfl rfl (by first | (simp only [Nat.reduceAdd, Nat.zero_add, Nat.add_zero, List.drop_succ_cons, List.drop_zero, List.drop_nil, List.take_succ_cons, List.take_zero, List.take_nil, List.cons_append, List.nil_append, List.append_nil, List.length_cons, List.length_nil]; try rfl) | rfl)) ?_
            refine ja_merge (α := Value × Lc × Nat) (fun y => Own y.1 y.2.1 28 7 (0 + qs.length) ([] ++ qs.flatMap cF)) (fun y => [(2, .string (ofL r)), (12, .string (ofL [47] ++ ofL (tens2 n))), (84, y.1), (86, .slice (some ⟨y.2.2, 0, none⟩) 1 1)]) (fun _ => M5) (fun y => y.2.1 ++ (y.2.2, .cells (clCells (cpQ false).1 none 0).toArray 28 (0, 0)) :: [(b56, .cells (clCells (cpQ false).1 none 0).toArray 28 (0, 0)), (b8, .cells (clCells (cpQ false).1 none 0).toArray 28 (0, 0))]) 2 #[true, true, true, true, true, false, false] ?_ (fun rest => ?_)
            · rintro ⟨v84, R84, b86⟩ hown84
              try dsimp only at hown84 ⊢
              refine ja_one (i := 5) (by kernel_rfl) ?_
              refine js_h rfl rfl rfl (hAppend (R := R84) (news := cF (cpQ false)) rfl rfl rfl rfl hown84 rfl (fun j v hv => CJ.loc (by rw [Nat.zero_add]; exact hv)) rfl rfl (cF_one _) (by omega) (by omega)) ?_; rintro v87 _ _ ⟨rfl, R87, rfl, hown87, _⟩
              refine ja_grow (MLe.refl _) (by intro p hp; simp only [List.mem_cons, List.mem_append, List.not_mem_nil, or_false, List.append_nil, List.nil_append] at hp ⊢; rcases hp with rfl | rfl <;> repeat (first | rfl | exact Or.inl rfl | apply Or.inr)) ?_
              refine ja_p (i := 6) rfl (by kernel_rfl) (by kernel_rfl) rfl ?_
              refine ja_end (by kernel_rfl) ?_
              refine jPn ?_
              refine jT ?_
              refine jc_seq ?_
              obtain ⟨fa, fc, rfl⟩ := hown87.form
              refine jc_region ?_
              refine jp rfl ?_
              refine jl_q rfl rfl (qLen rfl rfl rfl) ?_
              refine jp rfl ?_
              refine jl_nil ?_
              refine jT ?_
              refine jc_seq ?_
              refine jc_seq ?_
              refine jc_region ?_
              refine jp rfl ?_
              refine jl_h rfl rfl (hBuildSlice (cs := [_, _]) rfl rfl rfl (by rfl) (by rfl) (by rfl)) ?_; rintro _ _ _ ⟨b91, rfl, rfl, rfl⟩
              refine jl_freeze b91 (by simp) ?_
              intro M6 hM6 e91
              have hs91 : ∀ (i : Nat) v, ([(ofL [47, 49]), (ofL [47] ++ ofL (tens2 n))].map Value.string)[i]? = some v → CM M6 b91 (0 + i) v := by
                obtain ⟨b, off, e, h⟩ := SM.open (SM.of_block e91) (by simp)
                cases e; exact h
              refine jl_q rfl rfl (qLen rfl rfl rfl) ?_
              refine jp rfl ?_
              refine jl_nil ?_
              refine jT ?_
              refine jc_block ?_
              refine jc_loopK (α := Nat × Value × Lc) (fun z => [(2, .string (ofL r)), (9, z.2.1), (12, .string (ofL [47] ++ ofL (tens2 n))), (13, .int .i64 ((0 + qs.length + 1 : Nat) : Int)), (91, .slice (some ⟨b91, 0, none⟩) 2 2), (92, .int .i64 2), (93, .int .i64 z.1)]) (fun _ => M6) (fun z => z.2.2) (fun z => z.1 ≤ 2 ∧ Own z.2.1 z.2.2 28 7 (0 + qs.length + 1 + 3 * z.1) ((qs ++ [cpQ false] ++ exq ((ofL [47, 49]) ++ ofL r) ((ofL [47] ++ ofL (tens2 n)) ++ ofL r) z.1).flatMap cF)) (fun z => 2 - z.1)
                (0, .slice fa (0 + qs.length + 1) fc, R87) (Keep.cons (t := 2) rfl (Keep.cons (t := 9) rfl (Keep.cons (t := 12) rfl (Keep.cons (t := 13) rfl (Keep.cons (t := 91) rfl (Keep.cons (t := 92) rfl (Keep.cons (t := 93) rfl Keep.nil))))))) ⟨by omega, by rw [Nat.mul_zero, Nat.add_zero, exq, List.append_nil, List.flatMap_append]; simpa using hown87⟩ (fun _ h => h.subC fun f => by simp only [List.map_append, List.map_cons, List.map_nil, List.sum_append, List.sum_cons, List.sum_nil]; omega) ?_
              rintro ⟨i, v9, R9⟩ ⟨hi2, hown9⟩
              try dsimp only at hi2 hown9 ⊢
              refine jc_seq ?_
              refine jc_region ?_
              refine js rfl (fun h94 => ?_) (fun h94 => ?_)
              · refine jl_nil ?_
                refine jT ?_
                refine jc_seq ?_
                refine jc_yes rfl ?_
                refine jc_skip ?_
                refine jT ?_
                refine jc_seq ?_
                refine jc_block ?_
                refine jc_seq ?_
                refine jc_region ?_
                refine jl_q rfl rfl (qIdxS rfl rfl rfl rfl (by omega)) ?_
                obtain ⟨s, hs⟩ : ∃ s, [(ofL [47, 49]), (ofL [47] ++ ofL (tens2 n))][i]? = some s := ⟨[(ofL [47, 49]), (ofL [47] ++ ofL (tens2 n))][i]'(by simpa using (by omega : i < 2)), List.getElem?_eq_getElem _⟩
                have hsA : s.size + (ofL r).size ≤ 1000000 := by
                  have h3 : s.size ≤ 3 := two_size n i s (by omega) hs
                  have h4 : (ofL r).size ≤ 60 := by show r.length ≤ 60; omega
                  exact Nat.le_trans (Nat.add_le_add h3 h4) (Nat.le_of_ble_eq_true rfl)
                refine jl_q rfl rfl (qLd (v := .string s) rfl rfl rfl rfl ((hs91 _ (.string s) (by rw [Nat.mul_one, Int.toNat_natCast, List.getElem?_map, hs]; rfl)).cj _)) ?_
                refine jp rfl ?_
                refine jl_nil ?_
                refine jT ?_
                refine jc_region ?_
                iterate 3 refine jp rfl ?_
                refine jl_q rfl rfl (qStrAdd (a := s) (b := ofL r) rfl rfl rfl rfl hsA) ?_
                refine jl_q rfl rfl (qCall rfl rfl rfl rfl rfl (by kernel_rfl) (one_spec 16 (s ++ ofL r) M6)) ?_
                iterate 2 refine jp rfl ?_
                refine jl_q rfl rfl (qStrAdd (a := s) (b := ofL r) rfl rfl rfl rfl hsA) ?_
                refine jl_q rfl rfl (qCall rfl rfl rfl rfl rfl (by kernel_rfl) (one_spec 17 (s ++ ofL r) M6)) ?_
                iterate 2 refine jp rfl ?_
                refine jl_q rfl rfl (qStrAdd (a := s) (b := ofL r) rfl rfl rfl rfl hsA) ?_
                refine jl_q rfl rfl (qBuild (cs := [_, _, _, _, _, _, _]) rfl rfl rfl (by rfl)) ?_
                refine jl_h rfl rfl (hBuildSlice (cs := [_, _, _, _, _, _, _, _, _, _, _, _, _, _, _, _, _, _, _, _, _]) rfl rfl rfl (by rfl) (by rfl) (by rfl)) ?_; rintro _ _ _ ⟨b110, rfl, rfl, rfl⟩
                refine jl_h rfl rfl (hAppend (R := R9) (news := (lkQ (s ++ ofL r)).flatMap cF) rfl rfl rfl rfl hown9 rfl (fun j v hv => CJ.loc (by rw [Nat.zero_add]; exact hv)) rfl rfl (cFs_one _) (by omega) (by omega)) ?_; rintro w9 _ _ ⟨rfl, R9b, rfl, hw9, _⟩
                refine jp rfl ?_
                refine jl_nil ?_
                refine jB ?_
                refine jT ?_
                refine jc_region ?_
                refine ja rfl (by omega) ?_
                refine jp rfl ?_
                refine jl_nil ?_
                refine j_again (i + 1, w9, R9b) (Keep.cons (t := 2) rfl (Keep.cons (t := 9) rfl (Keep.cons (t := 12) rfl (Keep.cons (t := 13) rfl (Keep.cons (t := 91) rfl (Keep.cons (t := 92) rfl (Keep.cons (t := 93) rfl Keep.nil))))))) ⟨by show i + 1 ≤ 2; omega, ?_⟩ (by show 2 - (i + 1) < 2 - i; omega) (fun _ h => h.subC fun f => by simp only [List.map_append, List.map_cons, List.map_nil, List.sum_append, List.sum_cons, List.sum_nil]; omega)
                show Own w9 R9b 28 7 (0 + qs.length + 1 + 3 * (i + 1)) ((qs ++ [cpQ false] ++ exq ((ofL [47, 49]) ++ ofL r) ((ofL [47] ++ ofL (tens2 n)) ++ ofL r) (i + 1)).flatMap cF)
                have hex := exq_step ((ofL [47, 49]) ++ ofL r) ((ofL [47] ++ ofL (tens2 n)) ++ ofL r) i (by omega) (s ++ ofL r) (by rw [show [((ofL [47, 49]) ++ ofL r), ((ofL [47] ++ ofL (tens2 n)) ++ ofL r)] = [(ofL [47, 49]), (ofL [47] ++ ofL (tens2 n))].map (· ++ ofL r) from rfl, List.getElem?_map, hs]; rfl)
                rw [hex, ← List.append_assoc, List.flatMap_append]
                exact hw9
              · refine jl_nil ?_
                refine jT ?_
                refine jc_seq ?_
                refine jc_no rfl ?_
                refine jc_exit ?_
                refine jTx ?_
                refine jTx ?_
                refine jBx ?_
                refine jT ?_
                refine jc_seq ?_
                obtain rfl : i = 2 := by omega
                have hn2z := (tens_fact n (by omega)).2.2.2
                refine jc_own hown9 (by simp) ?_
                intro M7 a7 c7 hM7 e7 hc7 hs7
                subst e7
                have hM57 := (hM5.trans hM6).trans hM7
                have hT7 : Tabs M7 := hT.mono ((hM03.trans hM4).trans hM57)
                have hlq : (qs ++ [cpQ false] ++ exq ((ofL [47, 49]) ++ ofL r) ((ofL [47] ++ ofL (tens2 n)) ++ ofL r) 2).length = 0 + qs.length + 1 + 3 * 2 := by simp [exq]
                have hcs7 : CsP M7 a7 (qs ++ [cpQ false] ++ exq ((ofL [47, 49]) ++ ofL r) ((ofL [47] ++ ofL (tens2 n)) ++ ofL r) 2) := ⟨hs7, fun q hq => by
                  rcases List.mem_append.1 hq with h | h
                  · exact ((hcl.mono hM4).mono hM57).2 q h
                  · rcases List.mem_append.1 h with h | h
                    · exact cp_ok M7 _ (by rw [ofL_app, ofL_size]; simp; omega) q h
                    · exact cp_ok M7 _ (by rw [ofL_app, ofL_app, ofL_size]; simp; omega) q h⟩
                refine jc_region ?_
                refine jp rfl ?_
                refine jl_h rfl rfl (hCall rfl rfl rfl rfl rfl (by kernel_rfl) (play_at (qs ++ [cpQ false] ++ exq ((ofL [47, 49]) ++ ofL r) ((ofL [47] ++ ofL (tens2 n)) ++ ofL r) 2) (0 + qs.length + 1 + 3 * 2) hlq a7 c7 M7 hT7 hcs7 (by omega))) ?_; rintro _ M8 _ ⟨hM8, _, rfl, ⟨⟨ax, cx, psx, rfl, hcx, hcmx, hpsx, hrsx⟩, rfl⟩⟩
                rw [hlq] at hcx
                rw [hlq]
                have hlx : psx.length = 0 + qs.length + 1 + 3 * 2 := by have := congrArg List.length hpsx; rw [List.length_map, runI_len, List.length_map, hlq] at this; exact this
                have hrun : psx.map (·.1) = rs ++ l ++ l := by
                  rw [hpsx, ← hcp, show ((ofL [47, 49]) ++ ofL r) = ofL (47 :: ([49] ++ r)) from ofL_app _ _, show ((ofL [47] ++ ofL (tens2 n)) ++ ofL r) = ofL (47 :: (tens2 n ++ r)) from by rw [ofL_app, ofL_app]; rfl]; simp [exq]
                iterate 5 refine jp rfl ?_
                refine jl_nil ?_
                refine jT ?_
                refine jc_seq ?_
                refine jc_seq ?_
                refine jc_region ?_
                refine jp rfl ?_
                refine jf rfl (decide_eq_false (by omega)) ?_
                refine jl_nil ?_
                refine jT ?_
                refine jc_no rfl ?_
                refine jc_skip ?_
                refine jT ?_
                refine jc_seq ?_
                refine jc_seq ?_
                obtain ⟨qbx, qox, e0x, _⟩ := flat_sm rF_len hrsx.1 (i := 0) (by omega) (by omega)
                subst e0x
                have hldx : ∀ (k : Nat) (h : k < psx.length) (j : Nat) (v : Value), (rF psx[k])[j]? = some v → CM M8 qbx (qox + k * 8 + j) v := fun k h j v hv => by
                  obtain ⟨b2, o2, e2, h2⟩ := flat_sm rF_len hrsx.1 h (by omega)
                  cases e2; exact h2 j v hv
                refine jc_region ?_
                iterate 2 refine jp rfl ?_
                refine jl_nil ?_
                refine jT ?_
                refine jc_block ?_
                refine jc_loopK (α := Nat × Mem) (fun z => [(2, .string (ofL r)), (12, .string (ofL [47] ++ ofL (tens2 n))), (13, .int .i64 ((0 + qs.length + 1 : Nat) : Int)), (16, .slice (some ⟨qbx, qox, none⟩) (0 + qs.length + 1 + 3 * 2) cx), (18, .int .i64 ((0 + qs.length + 1 + z.1 : Nat) : Int))]) (fun z => z.2) (fun _ => []) (fun z => z.1 ≤ 3 ∧ MLe M8 z.2) (fun z => 3 - z.1)
                  (0, M8) (Keep.cons (t := 2) rfl (Keep.cons (t := 12) rfl (Keep.cons (t := 13) rfl (Keep.cons (t := 16) rfl (Keep.cons (t := 18) rfl Keep.nil))))) ⟨by omega, MLe.refl _⟩ (fun _ h => h) ?_
                rintro ⟨jj, Mk⟩ ⟨hj3, hMk⟩
                try dsimp only at hj3 hMk ⊢
                refine jc_seq ?_
                refine jc_seq ?_
                refine jc_region ?_
                iterate 2 refine jp rfl ?_
                refine ja rfl (by omega) ?_
                refine js rfl (fun h124 => ?_) (fun h124 => ?_)
                · refine jl_nil ?_
                  refine jT ?_
                  refine jc_yes rfl ?_
                  refine jc_skip ?_
                  refine jT ?_
                  refine jc_seq ?_
                  refine jc_block ?_
                  refine jc_seq ?_
                  have hk1 : 0 + qs.length + 1 + jj < psx.length := by omega
                  have hk2 : 0 + qs.length + 1 + jj + 3 < psx.length := by omega
                  have hsame := twice_get (N := 0 + qs.length + 1) (k := jj) hrun hl3 (by rw [hrl, List.length_map]; omega) (by omega) hk1 hk2
                  have hv1 := hrsx.2 _ (List.getElem_mem hk1)
                  have hv2 := hrsx.2 _ (List.getElem_mem hk2)
                  rw [hsame] at hv2
                  refine jc_draw [(0, true), (1, true), (2, true), (3, true), (4, true), (5, true), (6, true), (7, true), (8, true), (9, false), (10, true)] [] (by kernel_rfl) (by kernel_rfl) (by kernel_rfl) rfl (by simp) ?_
                  iterate 2 refine dp rfl rfl ?_
                  refine jd_q rfl rfl rfl (qIdxS rfl rfl rfl rfl (by omega)) ?_
                  refine jd_q rfl rfl rfl (qLdA (cs := rpc psx[0 + qs.length + 1 + jj].1 psx[0 + qs.length + 1 + jj].2.1 psx[0 + qs.length + 1 + jj].2.2) rfl rfl rfl rfl rfl (fun j v hv => by rw [Int.toNat_natCast]; exact ((hldx _ hk1 j v hv).mono hMk).cj _)) ?_
                  iterate 2 refine dp rfl rfl ?_
                  refine da rfl rfl (by omega) ?_
                  refine jd_q rfl rfl rfl (qIdxS rfl rfl rfl rfl (by omega)) ?_
                  refine jd_q rfl rfl rfl (qLdA (cs := rpc psx[0 + qs.length + 1 + jj].1 psx[0 + qs.length + 1 + jj + 3].2.1 psx[0 + qs.length + 1 + jj + 3].2.2) rfl rfl rfl rfl rfl (fun j v hv => by rw [show (((0 + qs.length + 1 + jj : Nat) : Int) + 3).toNat = 0 + qs.length + 1 + jj + 3 by omega]; exact ((hldx _ hk2 j v (by unfold rF; rw [hsame]; exact hv)).mono hMk).cj _)) ?_
                  refine jd_h rfl rfl rfl (hCall rfl rfl rfl rfl rfl (by kernel_rfl) (msame_spec psx[0 + qs.length + 1 + jj].1 psx[0 + qs.length + 1 + jj].2.1 psx[0 + qs.length + 1 + jj].2.2 psx[0 + qs.length + 1 + jj + 3].2.1 psx[0 + qs.length + 1 + jj + 3].2.2 Mk (hv1.1.mono hMk) (hv1.2.mono hMk) (hv2.1.mono hMk) (hv2.2.mono hMk))) ?_; rintro _ Mz _ ⟨hMz, _, rfl, ⟨rfl, rfl⟩⟩
                  refine ⟨_, _, MLe.refl _, hMz, fun _ h => h, by simp, ?_⟩
                  refine dp rfl rfl ?_
                  refine jd_nil ?_
                  refine jPn ?_
                  refine jT ?_
                  refine jc_no rfl ?_
                  refine jc_skip ?_
                  refine jB ?_
                  refine jT ?_
                  refine jc_region ?_
                  refine jp rfl ?_
                  refine ja rfl (by omega) ?_
                  refine jp rfl ?_
                  refine jl_nil ?_
                  exact j_again (jj + 1, Mz) (Keep.cons (t := 2) rfl (Keep.cons (t := 12) rfl (Keep.cons (t := 13) rfl (Keep.cons (t := 16) rfl (Keep.cons (t := 18) rfl Keep.nil))))) ⟨by show jj + 1 ≤ 3; omega, hMk.trans hMz⟩ (by show 3 - (jj + 1) < 3 - jj; omega) (fun _ h => h)
                · refine jl_nil ?_
                  refine jT ?_
                  refine jc_no rfl ?_
                  refine jc_exit ?_
                  refine jTx ?_
                  refine jTx ?_
                  refine jBx ?_
                  refine jT ?_
                  refine jc_seq ?_
                  refine jc_region ?_
                  refine jp rfl ?_
                  refine jl_nil ?_
                  refine jT ?_
                  refine jc_ret ?_
                  refine jq_drop (L' := []) (List.nil_sublist _) ?_
                  refine jr1 rfl rfl ?_
                  exact ⟨rfl, rfl⟩
            refine ja_fork [0, 4] (by kernel_rfl) rfl ⟨?_, ?_, trivial⟩
            · refine js_h rfl rfl rfl (hBuildSlice (cs := []) rfl rfl rfl (by rfl) (by rfl) (by rfl)) ?_; rintro _ _ _ ⟨b82, rfl, rfl, rfl⟩
              refine ja_grow (MLe.refl _) (by intro p hp; simp only [List.mem_cons, List.mem_append, List.not_mem_nil, or_false, List.append_nil, List.nil_append] at hp ⊢; rcases hp with rfl | rfl <;> repeat (first | rfl | exact Or.inl rfl | apply Or.inr)) ?_
              have hown0 : Own (.slice (some ⟨b82, 0, none⟩) 0 0) [(b82, .cells [].toArray 28 (0, 0))] 28 7 0 [] := ⟨rfl, .inr ⟨b82, 0, #[], rfl, rfl, Nat.le_refl _, Nat.zero_le _, rfl, rfl⟩⟩
              refine ja_fork [2, 4] (by kernel_rfl) rfl ⟨?_, ?_, trivial⟩
              · refine js_h rfl rfl rfl (hAppendM rfl rfl rfl rfl hown0 (flatm_len cF 7 cF_len qs) hcQ5.1 rfl (cFs_one qs) (by omega) (by omega)) ?_; rintro v84 _ _ ⟨rfl, R84, rfl, hown84⟩
                refine ja_grow (MLe.refl _) (by intro p hp; simp only [List.mem_cons, List.mem_append, List.not_mem_nil, or_false, List.append_nil, List.nil_append] at hp ⊢; rcases hp with rfl | rfl <;> repeat (first | rfl | exact Or.inl rfl | apply Or.inr)) ?_
                refine ja_fork [4] (by kernel_rfl) rfl ⟨?_, trivial⟩
                · refine js_h rfl rfl rfl (hBuildSlice (cs := [_, _, _, _, _, _, _]) rfl rfl rfl (by rfl) (by rfl) (by rfl)) ?_; rintro _ _ _ ⟨b86, rfl, rfl, rfl⟩
                  refine ja_grow (MLe.refl _) (by intro p hp; simp only [List.mem_cons, List.mem_append, List.not_mem_nil, or_false, List.append_nil, List.nil_append] at hp ⊢; rcases hp with rfl | rfl <;> repeat (first | rfl | exact Or.inl rfl | apply Or.inr)) ?_
                  refine ja_cast (listed' := #[true, true, true, true, true, false, false]) (by kernel_rfl) (ja_keep (Keep.cons (t := 2) rfl (Keep.cons (t := 12) rfl (Keep.cons (t := 84) rfl (Keep.cons (t := 86) rfl Keep.nil)))) ?_)
                  exact ja_weak (fun _ h => h.perm (by first | exact List.Perm.refl _ | exact List.perm_middle.symm | exact List.perm_middle)) (MLe.refl _) (by intro p hp; simp only [List.mem_cons, List.mem_append, List.not_mem_nil, or_false, List.append_nil, List.nil_append] at hp ⊢; rcases hp with rfl | rfl <;> repeat (first | rfl | exact Or.inl rfl | apply Or.inr)) (rest (v84, R84, b86) hown84)
              · refine js_h rfl rfl rfl (hBuildSlice (cs := [_, _, _, _, _, _, _]) rfl rfl rfl (by rfl) (by rfl) (by rfl)) ?_; rintro _ _ _ ⟨b86, rfl, rfl, rfl⟩
                refine ja_grow (MLe.refl _) (by intro p hp; simp only [List.mem_cons, List.mem_append, List.not_mem_nil, or_false, List.append_nil, List.nil_append] at hp ⊢; rcases hp with rfl | rfl <;> repeat (first | rfl | exact Or.inl rfl | apply Or.inr)) ?_
                refine ja_fork [2] (by kernel_rfl) rfl ⟨?_, trivial⟩
                · refine js_h rfl rfl rfl (hAppendM rfl rfl rfl rfl hown0 (flatm_len cF 7 cF_len qs) hcQ5.1 rfl (cFs_one qs) (by omega) (by omega)) ?_; rintro v84 _ _ ⟨rfl, R84, rfl, hown84⟩
                  refine ja_grow (MLe.refl _) (by intro p hp; simp only [List.mem_cons, List.mem_append, List.not_mem_nil, or_false, List.append_nil, List.nil_append] at hp ⊢; rcases hp with rfl | rfl <;> repeat (first | rfl | exact Or.inl rfl | apply Or.inr)) ?_
                  refine ja_cast (listed' := #[true, true, true, true, true, false, false]) (by kernel_rfl) (ja_keep (Keep.cons (t := 2) rfl (Keep.cons (t := 12) rfl (Keep.cons (t := 84) rfl (Keep.cons (t := 86) rfl Keep.nil)))) ?_)
                  exact ja_weak (fun _ h => h.perm (by first | exact List.Perm.refl _ | exact List.perm_middle.symm | exact List.perm_middle)) (MLe.refl _) (by intro p hp; simp only [List.mem_cons, List.mem_append, List.not_mem_nil, or_false, List.append_nil, List.nil_append] at hp ⊢; rcases hp with rfl | rfl <;> repeat (first | rfl | exact Or.inl rfl | apply Or.inr)) (rest (v84, R84, b86) hown84)
            · refine js_h rfl rfl rfl (hBuildSlice (cs := [_, _, _, _, _, _, _]) rfl rfl rfl (by rfl) (by rfl) (by rfl)) ?_; rintro _ _ _ ⟨b86, rfl, rfl, rfl⟩
              refine ja_grow (MLe.refl _) (by intro p hp; simp only [List.mem_cons, List.mem_append, List.not_mem_nil, or_false, List.append_nil, List.nil_append] at hp ⊢; rcases hp with rfl | rfl <;> repeat (first | rfl | exact Or.inl rfl | apply Or.inr)) ?_
              refine ja_fork [0] (by kernel_rfl) rfl ⟨?_, trivial⟩
              · refine js_h rfl rfl rfl (hBuildSlice (cs := []) rfl rfl rfl (by rfl) (by rfl) (by rfl)) ?_; rintro _ _ _ ⟨b82, rfl, rfl, rfl⟩
                refine ja_grow (MLe.refl _) (by intro p hp; simp only [List.mem_cons, List.mem_append, List.not_mem_nil, or_false, List.append_nil, List.nil_append] at hp ⊢; rcases hp with rfl | rfl <;> repeat (first | rfl | exact Or.inl rfl | apply Or.inr)) ?_
                have hown0 : Own (.slice (some ⟨b82, 0, none⟩) 0 0) [(b82, .cells [].toArray 28 (0, 0))] 28 7 0 [] := ⟨rfl, .inr ⟨b82, 0, #[], rfl, rfl, Nat.le_refl _, Nat.zero_le _, rfl, rfl⟩⟩
                refine ja_fork [2] (by kernel_rfl) rfl ⟨?_, trivial⟩
                · refine js_h rfl rfl rfl (hAppendM rfl rfl rfl rfl hown0 (flatm_len cF 7 cF_len qs) hcQ5.1 rfl (cFs_one qs) (by omega) (by omega)) ?_; rintro v84 _ _ ⟨rfl, R84, rfl, hown84⟩
                  refine ja_grow (MLe.refl _) (by intro p hp; simp only [List.mem_cons, List.mem_append, List.not_mem_nil, or_false, List.append_nil, List.nil_append] at hp ⊢; rcases hp with rfl | rfl <;> repeat (first | rfl | exact Or.inl rfl | apply Or.inr)) ?_
                  refine ja_cast (listed' := #[true, true, true, true, true, false, false]) (by kernel_rfl) (ja_keep (Keep.cons (t := 2) rfl (Keep.cons (t := 12) rfl (Keep.cons (t := 84) rfl (Keep.cons (t := 86) rfl Keep.nil)))) ?_)
                  exact ja_weak (fun _ h => h.perm (by first | exact List.Perm.refl _ | exact List.perm_middle.symm | exact List.perm_middle)) (MLe.refl _) (by intro p hp; simp only [List.mem_cons, List.mem_append, List.not_mem_nil, or_false, List.append_nil, List.nil_append] at hp ⊢; rcases hp with rfl | rfl <;> repeat (first | rfl | exact Or.inl rfl | apply Or.inr)) (rest (v84, R84, b86) hown84)


theorem modelCopies_spec (qs : List QC) (b : Bool) (s : Str) (qa : Option Addr) (qc : Nat) (M : Mem) (hT : Tabs M) (hQ : CsR M qa qs) (hq1 : qs.length ≤ qc) (hq2 : qc ≤ maxLen) : SpecL Tryz.prog 8 #[.slice qa qs.length qc, .bool b, .string s] M [] fun u _ L' => u = .bool true ∧ L' = [] := by
  obtain ⟨⟨l⟩⟩ := s
  cases b
  · exact copies_false qs qa qc l M hT hQ hq1 hq2
  · exact copies_true qs qa qc l M hT hQ hq1 hq2
end Go.Proofs.YtdjaehgadehnfaaGreatDoor
