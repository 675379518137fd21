/- Walks: paths as the document reads them. -/
import Derived.Test.YtokljhkplbkggaaGreatDoorZRfe
import Derived.Lib.SplitLaws
import Derived.Lib.IndexBytes
import Derived.Lib.AtoiTie
import Derived.Lib.AtoiAllCases
import Derived.Lib.ItoaNum
namespace Go.Proofs.YtokljhkplbkggaaGreatDoor
set_option linter.unusedSimpArgs false
set_option linter.unusedVariables false
set_option linter.unusedSectionVars false
open Go.RowKit Go.MapKept
abbrev ofB (l : List UInt8) : Str := ⟨l.toArray⟩
def wCq : List UInt8 → List (List UInt8)
 | [] => [[]]
 | c :: l => if c = 47 then [] :: wCq l else (c :: (wCq l).headD []) :: (wCq l).tail
theorem splitK_L : ∀ l : List UInt8, Lib.splitK [47] 0 (l.count 47) l = wCq l
 | [] => rfl
 | c :: l => by
  have ih := splitK_L l
  rw [wCq]
  by_cases hc : c = 47
  ·subst hc
   rw [if_pos rfl, List.count_cons_self, Lib.splitK, Lib.index_one, Lib.indexByte]
   simp [ih]
  rw [if_neg hc, List.count_cons_of_ne hc, ← ih]
  cases hn : l.count 47 with
  | zero => simp [Lib.splitK]
  | succ k =>
   rw [Lib.splitK, Lib.splitK, Lib.index_one, Lib.index_one]
   have hne : Lib.indexByte l 47 ≠ -1 := fun e => by
    have h1 := Lib.indexByte_none e
    have : (47 : UInt8) ∈ l := List.count_pos_iff.1 (by omega)
    obtain ⟨i, hi, e⟩ := List.mem_iff_getElem.1 this
    exact h1 i (by rw [List.getElem?_eq_getElem hi, e])
   have hge := Lib.indexByte_ge l 47
   obtain ⟨i, hi⟩ : ∃ i : Nat, Lib.indexByte l 47 = i := ⟨(Lib.indexByte l 47).toNat, by omega⟩
   have h1 : Lib.indexByte (c :: l) 47 = ((i + 1 : Nat) : Int) := by
    rw [Lib.indexByte]
    have : ¬ (c == 47) = true := by simpa using hc
    rw [if_neg this, hi, if_neg (by simp)]; omega
   rw [h1, hi]
   have a1 : ¬ (((i + 1 : Nat) : Int) == -1) = true := by simp; omega
   have a2 : ¬ ((i : Int) == -1) = true := by simp
   rw [if_neg a1, if_neg a2]
   simp
theorem splitS_L (s : Str) : wFp s = (wCq s.data.toList).map ofB := by
 have h := Lib.splitB_data wHc 0 (Lib.countB s wHc) s
 have hc : Lib.countB s wHc = s.data.toList.count 47 := Lib.count_one 47 s.data.toList
 have e : (wFp s).map (·.data.toList) = wCq s.data.toList := by
  unfold wFp; rw [h, hc]; exact splitK_L _
 rw [← e, List.map_map]
 exact (List.map_id _).symm
theorem wLc : ∀ l : List UInt8, wCq l ≠ []
 | [] => by simp [wCq]
 | c :: l => by rw [wCq]; split <;> simp
theorem wLb : ∀ (l : List UInt8), ∀ p ∈ wCq l, 47 ∉ p
 | [], p, hp => by simp [wCq] at hp; subst hp; simp
 | c :: l, p, hp => by
  rw [wCq] at hp
  split at hp
  ·rcases List.mem_cons.1 hp with rfl | hp
   ·simp
   exact wLb l p hp
  rename_i hc
  rcases List.mem_cons.1 hp with rfl | hp
  ·intro hm
   rcases List.mem_cons.1 hm with e | hm
   ·exact hc e.symm
   cases hs : wCq l with
   | nil => exact wLc l hs
   | cons q qs => rw [hs] at hm; exact wLb l q (by rw [hs]; simp) hm
  exact wLb l p (List.mem_of_mem_tail hp)
theorem wLd : ∀ (l : List UInt8), ∀ p ∈ wCq l, p.length ≤ l.length
 | [], p, hp => by simp [wCq] at hp; subst hp; simp
 | c :: l, p, hp => by
  rw [wCq] at hp
  split at hp
  ·rcases List.mem_cons.1 hp with rfl | hp
   ·simp
   have := wLd l p hp; simp; omega
  rcases List.mem_cons.1 hp with rfl | hp
  ·cases hs : wCq l with
   | nil => exact absurd hs (wLc l)
   | cons q qs => have := wLd l q (by rw [hs]; simp); simp; exact this
  have := wLd l p (List.mem_of_mem_tail hp); simp; omega
theorem splitL_hit : ∀ {a : List UInt8} {l : List UInt8}, 47 ∉ a → wCq (a ++ 47 :: l) = a :: wCq l
 | [], l, _ => by simp [wCq]
 | c :: a, l, h => by
  rw [List.cons_append, wCq, if_neg (fun e => h (by simp [e])), splitL_hit (fun e => h (List.mem_cons_of_mem _ e))]; rfl
theorem splitL_end : ∀ {a : List UInt8}, 47 ∉ a → wCq a = [a]
 | [], _ => rfl
 | c :: a, h => by rw [wCq, if_neg (fun e => h (by simp [e])), splitL_end (fun e => h (List.mem_cons_of_mem _ e))]; rfl
def digB (b : UInt8) : Bool := decide (48 ≤ b.toNat) && decide (b.toNat ≤ 57)
def valF (v : Int) (b : UInt8) : Int := 10 * v + (b.toNat : Int) - 48
def valD (l : List UInt8) : Int := l.foldl valF 0
def valN (l : List UInt8) : Nat := l.foldl (fun v b => v * 10 + (b.toNat - 48)) 0
theorem wJh (l : List UInt8) (b : UInt8) : valN (l ++ [b]) = valN l * 10 + (b.toNat - 48) := by simp [valN]
theorem valD_snoc (l : List UInt8) (b : UInt8) : valD (l ++ [b]) = valF (valD l) b := by simp [valD]
theorem valD_N : ∀ (n : Nat) (l : List UInt8), l.length = n → l.all digB = true → valD l = valN l
 | 0, l, h, _ => by rw [List.length_eq_zero_iff.1 h]; rfl
 | n + 1, l, h, hd => by
  rcases List.eq_nil_or_concat l with rfl | ⟨m, b, rfl⟩
  ·simp at h
  rw [List.concat_eq_append] at h hd ⊢
  rw [List.all_append, Bool.and_eq_true] at hd
  rw [valD_snoc, wJh, valD_N n m (by simpa using h) hd.1]
  have : digB b = true := by simpa using hd.2
  unfold digB at this
  simp only [Bool.and_eq_true, decide_eq_true_eq] at this
  unfold valF; omega
theorem decFrom_val : ∀ (l : List UInt8) (acc : Nat), l.all digB = true → Lib.decFrom acc l = some (l.foldl (fun v b => v * 10 + (b.toNat - 48)) acc)
 | [], acc, _ => rfl
 | b :: l, acc, h => by
  rw [List.all_cons, Bool.and_eq_true] at h
  have hb := h.1
  unfold digB at hb
  simp only [Bool.and_eq_true, decide_eq_true_eq] at hb
  rw [Lib.decFrom, Lib.digitVal, if_pos hb]
  exact decFrom_val l _ h.2
theorem decD_dig : ∀ (n u : Nat), u ≤ n → (Lib.decDigits u).all digB = true ∧ Lib.decDigits u ≠ [] ∧ ((Lib.decDigits u).head? = some 48 → u = 0) ∧ valN (Lib.decDigits u) = u
 | n, u, hu => by
  rw [Lib.decDigits]
  have h8 : ∀ k, k < 10 → (UInt8.ofNat (48 + k)).toNat = 48 + k := fun k hk => by simp [UInt8.toNat_ofNat']; omega
  by_cases h : u < 10
  ·rw [dif_pos h]
   refine ⟨?_, by simp, fun e => ?_, ?_⟩
   ·simp [digB, h8 u h]; omega
   ·have : UInt8.ofNat (48 + u) = 48 := by simpa using e
    have := congrArg UInt8.toNat this
    rw [h8 u h] at this; simp at this; omega
   simp [valN]; omega
  rw [dif_neg h]
  cases n with
  | zero => omega
  | succ n =>
   obtain ⟨h1, h2, h3, h4⟩ := decD_dig n (u / 10) (by omega)
   refine ⟨?_, by simp, fun e => ?_, ?_⟩
   ·rw [List.all_append, h1]; simp [digB, h8 (u % 10) (by omega)]; omega
   ·cases hd : Lib.decDigits (u / 10) with
    | nil => exact absurd hd h2
    | cons c r =>
     rw [hd] at e h3
     have := h3 (by simpa using e)
     omega
   rw [wJh, h4, h8 (u % 10) (by omega)]; omega
def lead (l : List UInt8) : Bool := l.head? == some 48 && decide (1 < l.length)
theorem valN_pos : ∀ (n : Nat) (l : List UInt8), l.length = n → l ≠ [] → l.all digB = true → l.head? ≠ some 48 → 1 ≤ valN l
 | 0, l, h, hn, _, _ => absurd (List.length_eq_zero_iff.1 h) hn
 | n + 1, l, h, hn, hd, h0 => by
  rcases List.eq_nil_or_concat l with rfl | ⟨m, b, rfl⟩
  ·exact absurd rfl hn
  rw [List.concat_eq_append] at h hd h0 ⊢
  rw [List.all_append, Bool.and_eq_true] at hd
  rw [wJh]
  have hb : digB b = true := by simpa using hd.2
  unfold digB at hb
  simp only [Bool.and_eq_true, decide_eq_true_eq] at hb
  cases hm : m with
  | nil =>
   subst hm
   have : b ≠ 48 := fun e => h0 (by simp [e])
   have : b.toNat ≠ 48 := fun e => this (UInt8.toNat_inj.1 (by simpa using e))
   omega
  | cons c r =>
   have := valN_pos n m (by simpa using h) (by rw [hm]; simp) hd.1 (by rw [hm] at h0 ⊢; simpa using h0)
   rw [hm] at this; omega
theorem decD_val : ∀ (n : Nat) (l : List UInt8), l.length = n → l ≠ [] → l.all digB = true → lead l = false → Lib.decDigits (valN l) = l
 | 0, l, h, hn, _, _ => absurd (List.length_eq_zero_iff.1 h) hn
 | n + 1, l, h, hn, hd, h0 => by
  rcases List.eq_nil_or_concat l with rfl | ⟨m, b, rfl⟩
  ·exact absurd rfl hn
  rw [List.concat_eq_append] at h hd h0 ⊢
  rw [List.all_append, Bool.and_eq_true] at hd
  rw [wJh]
  have hb : digB b = true := by simpa using hd.2
  unfold digB at hb
  simp only [Bool.and_eq_true, decide_eq_true_eq] at hb
  have hof : UInt8.ofNat (48 + (b.toNat - 48)) = b := by
   rw [show 48 + (b.toNat - 48) = b.toNat by omega]; exact UInt8.ofNat_toNat
  cases hm : m with
  | nil =>
   subst hm
   rw [Lib.decDigits, dif_pos (by simp [valN]; omega)]
   simp [valN, hof]
  | cons c r =>
   have hh : m.head? ≠ some 48 := fun e => by
    unfold lead at h0
    have h5 : (m ++ [b]).head? = some 48 := by rw [hm] at e ⊢; simpa using e
    have h6 : 1 < (m ++ [b]).length := by rw [hm]; simp
    rw [h5] at h0; simp [h6] at h0
    rw [hm] at h0; simp at h0
   have hp := valN_pos n m (by simpa using h) (by rw [hm]; simp) hd.1 hh
   have ih := decD_val n m (by simpa using h) (by rw [hm]; simp) hd.1 (by unfold lead; simp [hh])
   rw [← hm, Lib.decDigits, dif_neg (by omega), show (valN m * 10 + (b.toNat - 48)) / 10 = valN m by omega, show (valN m * 10 + (b.toNat - 48)) % 10 = b.toNat - 48 by omega, ih, hof]
theorem atoi_good {l : List UInt8} (hn : l ≠ []) (hd : l.all digB = true) (hl : l.length ≤ 9) : Lib.atoiAll l = .ok (valD l) := by
 rw [Lib.atoiAll_short l (by omega), valD_N _ l rfl hd]
 cases l with
 | nil => exact absurd rfl hn
 | cons b r =>
  have hb : digB b = true := by rw [List.all_cons, Bool.and_eq_true] at hd; exact hd.1
  unfold digB at hb
  simp only [Bool.and_eq_true, decide_eq_true_eq] at hb
  have h1 : ¬ (b == 45) = true := fun e => by have := eq_of_beq e; subst this; simp at hb
  have h2 : ¬ (b == 43) = true := fun e => by have := eq_of_beq e; subst this; simp at hb
  rw [Lib.atoi, if_neg h1, if_neg h2, Lib.decNat, decFrom_val _ _ hd]
  rfl
def numG (n : List UInt8) : Bool := !n.isEmpty && decide (n.length ≤ 9) && !lead n && n.all digB
theorem numG_iff (n : List UInt8) : (numG n = true → numS (ofB n) = some (valD n) ∧ (ofB n).size ≤ 9 ∧ (⟨(Lib.itoa (valD n)).toArray⟩ : Str) = ofB n ∧ 0 ≤ valD n) ∧ (∀ v, numS (ofB n) = some v → (ofB n).size ≤ 9 → (⟨(Lib.itoa v).toArray⟩ : Str) = ofB n → 0 ≤ v → numG n = true) := by
 constructor
 ·intro h
  unfold numG at h
  simp only [Bool.and_eq_true, decide_eq_true_eq, Bool.not_eq_true', List.isEmpty_eq_false_iff] at h
  obtain ⟨⟨⟨h1, h2⟩, h3⟩, h4⟩ := h
  have hv := valD_N _ n rfl h4
  refine ⟨?_, by simpa [ByteArray.size] using h2, ?_, by rw [hv]; omega⟩
  ·unfold numS
   rw [show (ofB n).data.toList = n by simp, atoi_good h1 h4 h2]
  rw [hv, Lib.itoa, if_neg (by omega), Int.toNat_natCast, decD_val _ n rfl h1 h4 h3]
 intro v _ h9 hi h0
 have hn : Lib.decDigits v.toNat = n := by
  rw [Lib.itoa, if_neg (by omega)] at hi
  have := congrArg (fun s : Str => s.data.toList) hi
  simpa using this
 obtain ⟨h1, h2, h3, _⟩ := decD_dig v.toNat v.toNat (Nat.le_refl _)
 rw [hn] at h1 h2 h3
 have h9' : n.length ≤ 9 := by simpa [ByteArray.size] using h9
 unfold numG
 simp only [Bool.and_eq_true, decide_eq_true_eq, Bool.not_eq_true', List.isEmpty_eq_false_iff]
 refine ⟨⟨⟨h2, h9'⟩, ?_⟩, h1⟩
 unfold lead
 by_cases hh : n.head? = some 48
 ·have := h3 hh
  rw [this, Lib.decDigits, dif_pos (by omega)] at hn
  rw [← hn]; simp
 simp [hh]
def refP (s : Str) : Option Wy := if s.size = 0 ∨ 64 < s.size ∨ s.data.toList.head? ≠ some 47 then none else match wCq (s.data.toList.drop 1) with
 | [] => none
 | n :: ps => if numG n && (ps.map ofB).all wFq then some (valD n, ps.map ofB) else none
theorem refP_eq (s : Str) : refP s = wAy s := by
 unfold refP wAy
 by_cases h64 : s.size ≤ 64
 ·rw [if_pos h64, splitS_L]
  have hsz : s.size = s.data.toList.length := (Array.length_toList (xs := s.data)).symm
  cases hl : s.data.toList with
  | nil =>
   have hlen : s.size = 0 := by rw [hsz, hl]; rfl
   rw [if_pos (.inl hlen)]
   rfl
  | cons c l =>
   by_cases hc : c = 47
   ·subst hc
    have hlen : s.size = l.length + 1 := by rw [hsz, hl]; rfl
    rw [if_neg (by rw [hlen]; rw [hlen] at h64; simp; omega), wCq, if_pos rfl]
    simp only [List.drop_succ_cons, List.drop_zero, List.map_cons]
    cases hs : wCq l with
    | nil => exact absurd hs (wLc l)
    | cons n ps =>
     simp only [List.map_cons, wLh]
     rw [if_pos trivial]
     obtain ⟨g1, g2⟩ := numG_iff n
     by_cases hg : numG n = true
     ·obtain ⟨a1, a2, a3, a4⟩ := g1 hg
      rw [a1]; simp only
      by_cases hp : (ps.map ofB).all wFq = true
      ·rw [if_pos (by rw [hg, hp]; rfl), if_pos ⟨a2, a3, a4, hp⟩]
      rw [if_neg (by rw [hg]; simpa using hp), if_neg (fun h => hp h.2.2.2)]
     rw [if_neg (by simp [hg])]
     cases hv : numS (ofB n) with
     | none => rfl
     | some v => simp only; rw [if_neg (fun h => hg (g2 v hv h.1 h.2.1 h.2.2.1))]
   rw [if_pos (by simp [hc]), wCq, if_neg hc]
   simp only [List.map_cons]
   cases (wCq l).tail with
   | nil => rfl
   | cons q qs =>
    simp only [List.map_cons, wLh]
    rw [if_neg (fun e => by have := congrArg (fun s : Str => s.data.toList) e; simp at this)]
 rw [if_neg h64, if_pos (by omega)]
def PathP (s : Str) (u : Value) (M' : Mem) (L' : Lc) : Prop := (match wAy s with
 | none => ∃ k, u = .tuple #[.agg [.int .i64 k, .slice none 0 0].toArray, .bool false]
 | some w => ∃ a c, u = .tuple #[wyV w a c, .bool true] ∧ WyOk M' w a c) ∧ L' = []
theorem PathP.no {s : Str} {M : Mem} {k : Int} (h : refP s = none) : PathP s (.tuple #[.agg [.int .i64 k, .slice none 0 0].toArray, .bool false]) M [] := by
 unfold PathP; rw [← refP_eq, h]; exact ⟨⟨k, rfl⟩, rfl⟩
theorem PathP.yes {s : Str} {M : Mem} {w : Wy} {a : Option Addr} {c : Nat} (h : refP s = some w) (hw : WyOk M w a c) : PathP s (.tuple #[wyV w a c, .bool true]) M [] := by
 unfold PathP; rw [← refP_eq, h]; exact ⟨⟨a, c, rfl, hw⟩, rfl⟩
theorem str_ofB (s : Str) (l h : Nat) : s.extract l h = ofB ((s.data.toList.drop l).take (h - l)) := by
 apply str_ext
 rw [wGh, wGh]
 rw [Lib.extract_data]
theorem ofB_len (l : List By) : (ofB l).size = l.length := by rw [← wJj]
structure CutI (bs : List By) (z : Nat × Nat × Value × Lc × List (List By)) : Prop where
 i1 : 1 ≤ z.1
 le : z.1 ≤ bs.length + 1
 f1 : 1 ≤ z.2.1
 fle : z.2.1 ≤ z.1
 run : z.1 ≤ bs.length → z.2.2.2.2 ++ wCq (bs.drop z.2.1) = wCq (bs.drop 1) ∧ 47 ∉ (bs.drop z.2.1).take (z.1 - z.2.1)
 fin : bs.length < z.1 → z.2.2.2.2 = wCq (bs.drop 1)
 own : Own z.2.2.1 z.2.2.2.1 9 1 z.2.2.2.2.length ((z.2.2.2.2.map ofB).map Value.string)
 cnt : z.2.2.2.2.length ≤ z.1
theorem cut_end {bs : List By} {f : Nat} {ps : List (List By)} (h : ps ++ wCq (bs.drop f) = wCq (bs.drop 1)) (hn : 47 ∉ (bs.drop f).take (bs.length - f)) : ps ++ [(bs.drop f).take (bs.length - f)] = wCq (bs.drop 1) := by
 have e : (bs.drop f).take (bs.length - f) = bs.drop f := List.take_of_length_le (by rw [List.length_drop]; exact Nat.le_refl _)
 rw [e] at hn ⊢
 rw [← h, splitL_end hn]
theorem cut_hit {bs : List By} {f i : Nat} {ps : List (List By)} (hi : i < bs.length) (hf : f ≤ i) (hb : bs[i] = 47) (h : ps ++ wCq (bs.drop f) = wCq (bs.drop 1)) (hn : 47 ∉ (bs.drop f).take (i - f)) : (ps ++ [(bs.drop f).take (i - f)]) ++ wCq (bs.drop (i + 1)) = wCq (bs.drop 1) := by
 have e : bs.drop f = (bs.drop f).take (i - f) ++ 47 :: bs.drop (i + 1) := by
  conv => lhs; rw [← List.take_append_drop (i - f) (bs.drop f)]
  rw [List.drop_drop, show f + (i - f) = i by omega, List.drop_eq_getElem_cons hi, hb]
 rw [← h]
 conv => rhs; rw [e, splitL_hit hn]
 rw [List.append_assoc]; rfl
theorem cut_go {bs : List By} {f i : Nat} (hi : i < bs.length) (hf : f ≤ i) (hb : bs[i] ≠ 47) (hn : 47 ∉ (bs.drop f).take (i - f)) : 47 ∉ (bs.drop f).take (i + 1 - f) := by
 have h1 : i - f < (bs.drop f).length := by rw [List.length_drop]; omega
 rw [show i + 1 - f = i - f + 1 by omega, List.take_succ_eq_append_getElem h1]
 intro hm
 rcases List.mem_append.1 hm with hm | hm
 ·exact hn hm
 rw [List.mem_singleton, List.getElem_drop] at hm
 have : bs[f + (i - f)]'(by omega) = bs[i] := by congr 1; omega
 rw [this] at hm
 exact hb hm.symm
theorem byte_is {b : By} {n : Nat} (hn : n < 256) : (b.toNat : Int) = n ↔ b = UInt8.ofNat n := by
 constructor
 ·intro h
  have : b.toNat = n := by omega
  rw [← this]; exact UInt8.ofNat_toNat.symm
 intro h; subst h; simp [UInt8.toNat_ofNat']; omega
def wKg (n : List By) : Bool := n.isEmpty || (decide (9 < n.length) || lead n)
theorem numG_head {n : List By} (h : wKg n = true) : numG n = false := by
 unfold wKg at h
 unfold numG
 cases h1 : n.isEmpty
 ·rw [h1] at h
  cases h2 : lead n
  ·rw [h2] at h
   have : 9 < n.length := by simpa using h
   have h3 : ¬ n.length ≤ 9 := by omega
   simp [h3]
  simp
 simp
theorem numG_dig {n : List By} (h : wKg n = false) : numG n = n.all digB := by
 unfold wKg at h
 simp only [Bool.or_eq_false_iff, decide_eq_false_iff_not] at h
 unfold numG
 rw [h.1, h.2.2, decide_eq_true (by omega)]; rfl
theorem digB_no {b : By} (h : (b.toNat : Int) < 48 ∨ (b.toNat : Int) > 57) : digB b = false := by
 unfold digB
 rcases h with h | h
 ·have : ¬ 48 ≤ b.toNat := by omega
  simp [this]
 have : ¬ b.toNat ≤ 57 := by omega
 simp [this]
theorem digB_yes {b : By} (h1 : ¬ (b.toNat : Int) < 48) (h2 : ¬ (b.toNat : Int) > 57) : digB b = true := by
 unfold digB
 rw [decide_eq_true (by omega), decide_eq_true (by omega)]; rfl
theorem valN_lt : ∀ (k : Nat) (l : List By), l.length = k → l.all digB = true → valN l < 10 ^ k
 | 0, l, h, _ => by rw [List.length_eq_zero_iff.1 h]; simp [valN]
 | k + 1, l, h, hd => by
  rcases List.eq_nil_or_concat l with rfl | ⟨m, b, rfl⟩
  ·simp at h
  rw [List.concat_eq_append] at h hd ⊢
  rw [List.all_append, Bool.and_eq_true] at hd
  have ih := valN_lt k m (by simpa using h) hd.1
  rw [wJh, Nat.pow_succ]
  have hb : digB b = true := by simpa using hd.2
  unfold digB at hb
  simp only [Bool.and_eq_true, decide_eq_true_eq] at hb
  omega
theorem valD_in {l : List By} (h : l.length ≤ 9) (hd : l.all digB = true) : 0 ≤ valD l ∧ valD l < 1000000000 := by
 rw [valD_N _ l rfl hd]
 have h1 := valN_lt _ l rfl hd
 have h2 : 10 ^ l.length ≤ 10 ^ 9 := Nat.pow_le_pow_right (by decide) h
 have h3 : (10 : Nat) ^ 9 = 1000000000 := by decide
 omega
theorem okN_name {p : List By} (h : 47 ∉ p) : okN (ofB p) = wFq (ofB p) := by
 have e : p.all okB = !(p.any badB) := by
  rw [Bool.eq_iff_iff]
  simp only [List.all_eq_true, Bool.not_eq_true', List.any_eq_false]
  constructor
  ·intro ha b hb hbad
   have := ha b hb
   unfold okB at this; rw [hbad] at this; cases this
  intro ha b hb
  have h1 : badB b = false := by simpa using ha b hb
  have h2 : b ≠ 47 := fun e => h (by rw [← e]; exact hb)
  unfold okB; rw [h1]; simp [h2]
 unfold okN wFq
 have e1 : (ofB p).data.toList = p := by simp
 rw [e1, e, ofB_len]
 cases p with
 | nil => rfl
 | cons c r =>
  have h1 : (ofB (c :: r)) ≠ ⟨#[]⟩ := fun e => by have := congrArg (fun s : Str => s.data.toList) e; simp at this
  have h2 : decide (((c :: r).length : Int) ≤ 8) = decide ((c :: r).length ≤ 8) := by
   by_cases h : (c :: r).length ≤ 8
   ·rw [decide_eq_true h, decide_eq_true (by omega)]
   rw [decide_eq_false h, decide_eq_false (by omega)]
  rw [decide_eq_true h1, h2, decide_eq_true (by simp : 1 ≤ (c :: r).length)]
  simp [Bool.and_comm]
theorem refP_no {s : Str} (h : s.size = 0 ∨ 64 < s.size ∨ s.data.toList.head? ≠ some 47) : refP s = none := by unfold refP; rw [if_pos h]
theorem refP_is {s : Str} (h : ¬ (s.size = 0 ∨ 64 < s.size ∨ s.data.toList.head? ≠ some 47)) {n : List By} {ps : List (List By)} (hs : wCq (s.data.toList.drop 1) = n :: ps) : refP s = if numG n && (ps.map ofB).all wFq then some (valD n, ps.map ofB) else none := by unfold refP; rw [if_neg h, hs]
theorem path_bad (s : Str) (M : Mem) (h : s.size = 0 ∨ 64 < s.size ∨ s.data.toList.head? ≠ some 47) :
  SpecL Tryz.prog 19 #[.string s] M [] (PathP s) := by
 refine wAe (vs := [_]) 120 _ Tryz.func19 rfl Tryz.ntmps19 rfl rfl ?_; intro W
 refine wAb (wAa (sAl rfl fun b2 => ?_))
 refine jp rfl (wAc (jT (wAb (wAa (sAl rfl fun b4 => ?_)))))
 refine wAc (jT (wAb (wAb (wAa (jp rfl (wEk rfl rfl (qStrEql rfl rfl rfl rfl) (fun h12 => ?_) (fun h12 => ?_)))))))
 ·iterate 10 refine jp rfl ?_
  refine wAc (jT (wAf rfl (wAb (wAa (sLL rfl ?_)))))
  refine sSt rfl ?_
  refine jp rfl (wAc (jT (wAg (jTr (wEj (rs := [_, _]) rfl (.cons (.agg rfl rfl rfl) (.cons (.tmp rfl) .nil)) ?_)))))
  exact PathP.no (refP_no h)
 refine jp rfl (jp rfl (lq (wEg rfl rfl rfl) ?_))
 refine js rfl (fun h16 => ?_) (fun h16 => ?_)
 ·refine jp rfl (jp rfl (jp rfl (jp rfl (jp rfl (jp rfl (wAc (jT (wAf rfl (wAb (wAa (sLL rfl ?_)))))))))))
  refine sSt rfl ?_
  refine jp rfl (wAc (jT (wAg (jTr (wEj (rs := [_, _]) rfl (.cons (.agg rfl rfl rfl) (.cons (.tmp rfl) .nil)) ?_)))))
  exact PathP.no (refP_no h)
 refine jp rfl (jp rfl (jp rfl ?_))
 have hk1 : 0 < s.size := by
  have hne := of_decide_eq_false h12
  rcases Nat.eq_zero_or_pos s.size with h | h
  ·exact absurd (str_ext (by rw [wGh, wGh]; have : s.data.toList = [] := List.eq_nil_of_length_eq_zero (by rw [wJj]; exact h); rw [this])) hne
  exact h
 have hl0 : 0 < s.data.toList.length := by rw [wJj]; exact hk1
 refine lq (wHe rfl rfl rfl rfl (by omega) (wKi hk1)) ?_
 refine js rfl (fun h21 => ?_) (fun h21 => ?_)
 ·refine jp rfl (wAc (jT (wAf rfl (wAb (wAa (sLL rfl ?_))))))
  refine sSt rfl ?_
  refine jp rfl (wAc (jT (wAg (jTr (wEj (rs := [_, _]) rfl (.cons (.agg rfl rfl rfl) (.cons (.tmp rfl) .nil)) ?_)))))
  exact PathP.no (refP_no h)
 exfalso
 rcases h with h | h | h
 ·omega
 ·omega
 refine h ?_
 have h22 : s.data.toList[0] = 47 := (byte_is (n := 47) (by omega)).1 (Classical.byContradiction fun e => h21 e)
 rw [List.head?_eq_getElem?, List.getElem?_eq_getElem hl0, h22]
set_option maxHeartbeats 4000000 in
theorem path_good (s : Str) (M : Mem) (h1 : 0 < s.size) (h64 : s.size ≤ 64) (h0 : s.data.toList.head? = some 47) :
  SpecL Tryz.prog 19 #[.string s] M [] (PathP s) := by
 have hk1 : 0 < s.size := by omega
 have hl0 : 0 < s.data.toList.length := by rw [wJj]; exact hk1
 obtain ⟨bs, hbs⟩ : ∃ bs, s.data.toList = bs := ⟨_, rfl⟩
 have hbl : bs.length = s.size := by rw [← hbs, wJj]
 have hne : s ≠ ⟨#[]⟩ := fun e => by rw [e] at hk1; exact absurd hk1 (by decide)
 have hgd : ¬ (s.size = 0 ∨ 64 < s.size ∨ s.data.toList.head? ≠ some 47) := fun e => by
  rcases e with e | e | e
  ·omega
  ·omega
  exact e h0
 refine wAe (vs := [_]) 120 _ Tryz.func19 rfl Tryz.ntmps19 rfl rfl ?_; intro W
 refine wAb (wAa (sAl rfl fun b2 => ?_))
 refine jp rfl (wAc (jT (wAb (wAa (sAl rfl fun b4 => ?_)))))
 refine wAc (jT (wAb (wAb (wAa (jp rfl (lq (qEq (qStrEql rfl rfl rfl rfl) (v' := .bool false) (by rw [decide_eq_false hne])) ?_))))))
 refine jp rfl (jp rfl (lq (wEg rfl rfl rfl) ?_))
 refine jf rfl (decide_eq_false (by omega)) ?_
 refine jp rfl (jp rfl (jp rfl ?_))
 refine lq (qEq (wHe rfl rfl rfl rfl (by omega) (wKi hk1)) (v' := .int .u8 47) (by have : s.data.toList[0] = 47 := by { have h1 := h0; rw [List.head?_eq_getElem?, List.getElem?_eq_getElem hl0] at h1; exact Option.some.inj h1 }; rw [this]; rfl)) ?_
 refine jf rfl (decide_eq_false (by omega)) ?_
 refine jp rfl (wAc (jT (wAh rfl (wAd (jT (wAb (wAa (jp rfl (wAc (jT (wAb (wAa (jp rfl (wAc (jT (wAb (wAb (wAa (jp rfl (wAc (jT (wAk ?_))))))))))))))))))))))
 refine wBr (α := Nat × Nat × Value × Lc × List (List By)) (fun z => [(0, .string s), (2, pt b2), (4, pt b4), (5, z.2.2.1), (6, .int .i64 z.2.1), (7, .int .i64 z.1)]) (fun _ => M) (fun z => (b4, .cells [.int .i64 (0), .slice none 0 0].toArray 65 (0, 0)) :: (b2, .cells [.int .i64 0, .slice none 0 0].toArray 65 (0, 0)) :: z.2.2.2.1) (fun z => CutI bs z) (fun z => bs.length + 1 - z.1)
  (1, 1, .slice none 0 0, [], []) (.cons (t := 0) rfl (.cons (t := 2) rfl (.cons (t := 4) rfl (.cons (t := 5) rfl (.cons (t := 6) rfl (.cons (t := 7) rfl .nil)))))) ⟨Nat.le_refl _, by show 1 ≤ bs.length + 1; omega, Nat.le_refl _, Nat.le_refl _, fun _ => ⟨rfl, by simp⟩, fun h => absurd h (by show ¬ bs.length < 1; omega), Own.nil _ _, Nat.zero_le _⟩ (fun _ h => h) ?_
 rintro ⟨i, from_, out, R, ps⟩ hI
 have hi1 := hI.i1
 dsimp only at hi1 ⊢
 refine wAb (wAb (wAa (jp rfl (jp rfl (lq (wEg rfl rfl rfl) ?_)))))
 refine js rfl (fun h27 => ?_) (fun h27 => ?_)
 ·refine wAc (jT (wAf rfl (wAd (jT (wAb (wAk (wAb (wAa (jp rfl (jp rfl (lq (wEg rfl rfl rfl) ?_)))))))))))
  refine js rfl (fun h33 => ?_) (fun h33 => ?_)
  ·refine jp rfl (jp rfl (jp rfl (jp rfl (jp rfl (jp rfl (wAc (jT (wAf rfl (wAb (wAa (jp rfl (jp rfl (jp rfl (jp rfl ?_))))))))))))))
   have hf1 := hI.f1
   have hfl := hI.fle
   dsimp only at hf1 hfl
   refine lq (qEq (v' := .string (ofB ((bs.drop from_).take (i - from_)))) (qStrSl rfl rfl rfl (.of rfl (by omega) (Int.toNat_natCast _)) (.of rfl (by omega) (Int.toNat_natCast _)) (by omega)) (by rw [str_ofB, hbs])) ?_
   refine wCe rfl rfl (wBt (cs := [_]) rfl rfl rfl (by rfl) (by rfl) (by rfl)) ?_; rintro _ _ _ ⟨b45, rfl, rfl, rfl⟩
   refine wCe rfl rfl (wDt (R := R) (news := [Value.string (ofB ((bs.drop from_).take (i - from_)))]) rfl rfl rfl rfl hI.own rfl (fun j v hv => CJ.loc (by rw [Nat.zero_add]; simpa using hv)) rfl rfl (fun u hu => by rw [List.mem_singleton.1 hu]; rfl) (by have := hI.cnt; dsimp only at this; simp only [List.length_cons, List.length_nil]; omega) (by omega)) ?_; rintro out2 _ _ ⟨rfl, R3, rfl, hown2, _⟩
   refine jp rfl (wAc (jT (wAa (jp rfl (ja rfl (by omega) ?_)))))
   refine jp rfl (wAc (jB (jT (wAa (jp rfl (ja rfl (by omega) ?_))))))
   refine jp rfl (wAc ?_)
   have hh := (hI.run (by dsimp only; omega))
   dsimp only at hh
   have hmp : ((ps ++ [(bs.drop from_).take (i - from_)]).map ofB).map Value.string = (ps.map ofB).map Value.string ++ [Value.string (ofB ((bs.drop from_).take (i - from_)))] := by simp
   refine wBu (i + 1, i + 1, out2, R3, ps ++ [(bs.drop from_).take (i - from_)]) (.cons (t := 0) rfl (.cons (t := 2) rfl (.cons (t := 4) rfl (.cons (t := 5) rfl (.cons (t := 6) rfl (.cons (t := 7) rfl .nil)))))) ⟨by show 1 ≤ i + 1; omega, by show i + 1 ≤ _; omega, by show 1 ≤ i + 1; omega, Nat.le_refl _, fun h => ?_, fun h => ?_, by dsimp only; rw [List.length_append, hmp]; exact hown2, by have := hI.cnt; dsimp only at this ⊢; rw [List.length_append, List.length_singleton]; omega⟩ (by show bs.length + 1 - (i + 1) < bs.length + 1 - i; omega) (fun _ h => h.subC fun f => by simp only [List.map_append, List.map_cons, List.map_nil, List.sum_append, List.sum_cons, List.sum_nil]; omega)
   ·exact absurd h (by dsimp only; omega)
   dsimp only; have e : i = bs.length := by omega
   subst e; exact cut_end hh.1 hh.2
  refine jp rfl (jp rfl (jp rfl ?_))
  have hk2 : i < s.size := by omega
  refine lq (wHe rfl rfl rfl rfl (by omega) (wKi hk2)) ?_
  refine js rfl (fun h38 => ?_) (fun h38 => ?_)
  ·refine jp rfl (wAc (jT (wAf rfl (wAb (wAa (jp rfl (jp rfl (jp rfl (jp rfl ?_)))))))))
   have hf1 := hI.f1
   have hfl := hI.fle
   dsimp only at hf1 hfl
   refine lq (qEq (v' := .string (ofB ((bs.drop from_).take (i - from_)))) (qStrSl rfl rfl rfl (.of rfl (by omega) (Int.toNat_natCast _)) (.of rfl (by omega) (Int.toNat_natCast _)) (by omega)) (by rw [str_ofB, hbs])) ?_
   refine wCe rfl rfl (wBt (cs := [_]) rfl rfl rfl (by rfl) (by rfl) (by rfl)) ?_; rintro _ _ _ ⟨b45, rfl, rfl, rfl⟩
   refine wCe rfl rfl (wDt (R := R) (news := [Value.string (ofB ((bs.drop from_).take (i - from_)))]) rfl rfl rfl rfl hI.own rfl (fun j v hv => CJ.loc (by rw [Nat.zero_add]; simpa using hv)) rfl rfl (fun u hu => by rw [List.mem_singleton.1 hu]; rfl) (by have := hI.cnt; dsimp only at this; simp only [List.length_cons, List.length_nil]; omega) (by omega)) ?_; rintro out2 _ _ ⟨rfl, R3, rfl, hown2, _⟩
   refine jp rfl (wAc (jT (wAa (jp rfl (ja rfl (by omega) ?_)))))
   refine jp rfl (wAc (jB (jT (wAa (jp rfl (ja rfl (by omega) ?_))))))
   refine jp rfl (wAc ?_)
   have hh := (hI.run (by dsimp only; omega))
   dsimp only at hh
   have hmp : ((ps ++ [(bs.drop from_).take (i - from_)]).map ofB).map Value.string = (ps.map ofB).map Value.string ++ [Value.string (ofB ((bs.drop from_).take (i - from_)))] := by simp
   refine wBu (i + 1, i + 1, out2, R3, ps ++ [(bs.drop from_).take (i - from_)]) (.cons (t := 0) rfl (.cons (t := 2) rfl (.cons (t := 4) rfl (.cons (t := 5) rfl (.cons (t := 6) rfl (.cons (t := 7) rfl .nil)))))) ⟨by show 1 ≤ i + 1; omega, by show i + 1 ≤ _; omega, by show 1 ≤ i + 1; omega, Nat.le_refl _, fun h => ?_, fun h => ?_, by dsimp only; rw [List.length_append, hmp]; exact hown2, by have := hI.cnt; dsimp only at this ⊢; rw [List.length_append, List.length_singleton]; omega⟩ (by show bs.length + 1 - (i + 1) < bs.length + 1 - i; omega) (fun _ h => h.subC fun f => by simp only [List.map_append, List.map_cons, List.map_nil, List.sum_append, List.sum_cons, List.sum_nil]; omega)
   ·dsimp only; have hi2 : i < bs.length := by omega
    have hb : bs[i] = 47 := by have := (byte_is (n := 47) (by omega)).1 h38; simp only [← hbs]; exact this
    exact ⟨cut_hit hi2 hfl hb hh.1 hh.2, by simp⟩
   exact absurd h (by dsimp only; omega)
  refine jp rfl (wAc (jT (wAh rfl (wAd (jB (jT (wAa (jp rfl (ja rfl (by omega) ?_)))))))))
  refine jp rfl (wAc ?_)
  have hh := (hI.run (by dsimp only; omega))
  dsimp only at hh
  have hi2 : i < bs.length := by omega
  have hfl := hI.fle
  dsimp only at hfl
  have hb : bs[i] ≠ 47 := fun e => h38 ((byte_is (n := 47) (by omega)).2 (by simp only [← hbs] at e; exact e))
  refine wBu (i + 1, from_, out, R, ps) (.cons (t := 0) rfl (.cons (t := 2) rfl (.cons (t := 4) rfl (.cons (t := 5) rfl (.cons (t := 6) rfl (.cons (t := 7) rfl .nil)))))) ⟨by show 1 ≤ i + 1; omega, by show i + 1 ≤ _; omega, hI.f1, by show from_ ≤ i + 1; omega, fun h => ⟨hh.1, cut_go hi2 hfl hb hh.2⟩, fun h => absurd h (by dsimp only; omega), hI.own, by have := hI.cnt; dsimp only at this ⊢; omega⟩ (by show bs.length + 1 - (i + 1) < bs.length + 1 - i; omega) (fun _ h => h)
 refine wAc (jT (wAh rfl (wBx (jTx (jTx (jBx (jT (wAb ?_))))))))
 obtain rfl : i = bs.length + 1 := by have := hI.le; dsimp only at this; omega
 have hps := hI.fin (by dsimp only; omega)
 have hown := hI.own
 have hcnt := hI.cnt
 dsimp only at hps hown hcnt
 refine jc_own hown (by simp) ?_
 intro M9 a9 c9 hM9 e9 hc9 hs9
 subst e9
 obtain ⟨n0, rs, hsp⟩ : ∃ n0 rs, ps = n0 :: rs := by
  cases hc : ps with
  | nil => exact absurd (by rw [← hps, hc]) (wLc (bs.drop 1))
  | cons a b => exact ⟨a, b, rfl⟩
 subst hsp
 have hpl : (n0 :: rs).length = rs.length + 1 := rfl
 have hrf := refP_is hgd (n := n0) (ps := rs) (by rw [hbs]; exact hps.symm)
 have hno : ∀ p ∈ n0 :: rs, 47 ∉ p := fun p hp => wLb (bs.drop 1) p (by rw [← hps]; exact hp)
 have hszp : ∀ p ∈ n0 :: rs, p.length ≤ 64 := fun p hp => by have := wLd (bs.drop 1) p (by rw [← hps]; exact hp); rw [List.length_drop] at this; omega
 have hsn : SN M9 a9 ((n0 :: rs).map ofB) := hs9
 have hn0 : (ofB n0).size = n0.length := ofB_len n0
 have hn1 : (ofB n0).data.toList = n0 := rfl
 refine wAa (jp rfl ?_)
 obtain ⟨q50, o50, e50, x50⟩ := wFs hsn (i := 0) (by simp)
 refine lq (wAp rfl rfl rfl rfl e50 (by omega)) ?_
 refine lq (qLd rfl rfl rfl rfl ((show CM M9 q50 (o50 + (0 : Int).toNat * 1) (.string (ofB n0)) from x50).cj _)) ?_
 refine jp rfl (wAc (jT (wAb (jc_merge (α := Unit) (fun _ => [(2, pt b2), (4, pt b4), (5, .slice a9 (n0 :: rs).length c9), (8, .string (ofB n0)), (68, .bool (wKg n0))]) (fun _ => M9) (fun _ => [(b4, .cells [.int .i64 (0), .slice none 0 0].toArray 65 (0, 0)), (b2, .cells [.int .i64 0, .slice none 0 0].toArray 65 (0, 0))]) (fun _ => True) ?_ ?_))))
 ·rintro _ _
  refine jc_if rfl (fun h68 => ?_) (fun h68 => ?_)
  ·refine wAb (wAa (sLL rfl ?_))
   refine sSt rfl ?_
   refine jp rfl (wAc (jT (wAg (jTr (wEj (rs := [_, _]) rfl (.cons (.agg rfl rfl rfl) (.cons (.tmp rfl) .nil)) ?_)))))
   exact PathP.no (by rw [hrf, numG_head h68]; rfl)
  refine wAd (jT (wAb (wAb (wAa (jp rfl (wAc (jT (wAk ?_))))))))
  have hhd : wKg n0 = false := h68
  have h9 : n0.length ≤ 9 := by
   unfold wKg at hhd; simp only [Bool.or_eq_false_iff, decide_eq_false_iff_not] at hhd; omega
  refine wBr (α := Nat) (fun j => [(2, pt b2), (4, pt b4), (5, .slice a9 (n0 :: rs).length c9), (8, .string (ofB n0)), (9, .int .i64 j)]) (fun _ => M9) (fun j => [(b4, .cells [.int .i64 (valD (n0.take j)), .slice none 0 0].toArray 65 (0, 0)), (b2, .cells [.int .i64 0, .slice none 0 0].toArray 65 (0, 0))]) (fun j => j ≤ n0.length ∧ (n0.take j).all digB = true) (fun j => n0.length - j)
   0 (.cons (t := 2) rfl (.cons (t := 4) rfl (.cons (t := 5) rfl (.cons (t := 8) rfl (.cons (t := 9) rfl .nil))))) ⟨Nat.zero_le _, rfl⟩ (fun _ h => h) ?_
  rintro j ⟨hj1, hj2⟩
  try dsimp only at hj1 hj2 ⊢
  have hvb := valD_in (l := n0.take j) (by rw [List.length_take]; omega) hj2
  refine wAb (wAb (wAa (jp rfl (jp rfl (lq (wEg rfl rfl rfl) ?_)))))
  refine js rfl (fun h73 => ?_) (fun h73 => ?_)
  ·refine wAc (jT (wAf rfl (wAd (jT (wAb (wAk (wAb (wAb (wAa (jp rfl (jp rfl ?_)))))))))))
   have hk3 : j < (ofB n0).size := by omega
   have hk4 : j < n0.length := by omega
   refine lq (qEq (wHe rfl rfl rfl rfl (by omega) (wKi hk3)) (v' := .int .u8 (n0[j].toNat : Int)) rfl) ?_
   refine js rfl (fun h79 => ?_) (fun h79 => ?_)
   ·refine jp rfl (jp rfl (jp rfl (jp rfl (jp rfl (jp rfl (wAc (jT (wAf rfl (wAb (wAa (sLL rfl ?_)))))))))))
    refine sSt rfl ?_
    refine jp rfl (wAc (jT (wAg (jTr (jBr (jTr (jTr (jBr (jTr (wEj (rs := [_, _]) rfl (.cons (.agg rfl rfl rfl) (.cons (.tmp rfl) .nil)) ?_))))))))))
    exact PathP.no (by rw [hrf, numG_dig hhd, all_no hk4 (digB_no (.inl h79))]; rfl)
   refine jp rfl (jp rfl (jp rfl (lq (qEq (wHe rfl rfl rfl rfl (by omega) (wKi hk3)) (v' := .int .u8 (n0[j].toNat : Int)) rfl) ?_)))
   refine js rfl (fun h84 => ?_) (fun h84 => ?_)
   ·refine jp rfl (wAc (jT (wAf rfl (wAb (wAa (sLL rfl ?_))))))
    refine sSt rfl ?_
    refine jp rfl (wAc (jT (wAg (jTr (jBr (jTr (jTr (jBr (jTr (wEj (rs := [_, _]) rfl (.cons (.agg rfl rfl rfl) (.cons (.tmp rfl) .nil)) ?_))))))))))
    exact PathP.no (by rw [hrf, numG_dig hhd, all_no hk4 (digB_no (.inr h84))]; rfl)
   refine jp rfl (wAc (jT (wAh rfl (wAd (jT (wBn (p := { A := fun i => !([10].contains i), U := fun i => !([10].contains i) }) [(0, true), (1, true), (2, true), (3, true), (4, true), (5, true), (6, true), (7, true), (8, true), (9, true), (10, false)] M9 ([(b4, .cells [.int .i64 (valD (n0.take j)), .slice none 0 0].toArray 65 (0, 0))]) ([]) (by kernel_rfl) (by kernel_rfl) (by kernel_rfl) (by kernel_rfl) rfl (by simp) (MLe.refl _) (by simp) ?_))))))
   refine dFa rfl rfl ?_
   refine dLd rfl rfl ?_
   refine da rfl rfl (by omega) ?_
   iterate 2 refine dp rfl rfl ?_
   refine dq rfl (qEq (wHe rfl rfl rfl rfl (by omega) (wKi hk3)) (v' := .int .u8 (n0[j].toNat : Int)) rfl) ?_
   have hbt := n0[j].toNat_lt
   refine dq rfl (qConv64 rfl rfl rfl (by omega)) ?_
   refine da rfl rfl (by omega) ?_
   refine da rfl rfl (by omega) ?_
   refine dFa rfl rfl ?_
   refine wJu rfl rfl (wBw rfl rfl rfl rfl rfl rfl rfl rfl) ?_; rintro _ _ _ ⟨rfl, rfl⟩
   refine ⟨MLe.refl _, by simp, ?_⟩
   refine wCu ?_
   refine jPn (jB (jT (wAa (jp rfl (ja rfl (by omega) ?_)))))
   refine jp rfl (wAc ?_)
   have hst : valD (n0.take (j + 1)) = 10 * valD (n0.take j) + (n0[j].toNat : Int) - 48 := by rw [List.take_succ_eq_append_getElem hk4, valD_snoc]; rfl
   refine wBu (j + 1) (.cons (t := 2) rfl (.cons (t := 4) rfl (.cons (t := 5) rfl (.cons (t := 8) rfl (.cons (t := 9) rfl .nil))))) ⟨by omega, all_next hk4 hj2 (digB_yes h79 h84)⟩ (by omega) (fun _ h => by rw [hst]; exact h)
  refine wAc (jT (wAh rfl (wBx (jTx (jTx (jBx (jT (wAb (wAb (wAa (jp rfl (wAc (jT (wAk ?_))))))))))))))
  obtain rfl : j = n0.length := by omega
  rw [List.take_length] at hj2 ⊢
  refine wBr (α := Nat × Option Addr × Nat × Lc) (fun z => [(2, pt b2), (4, pt b4), (5, .slice a9 (n0 :: rs).length c9), (10, .int .i64 ((z.1 : Int) + 1))]) (fun _ => M9) (fun z => (b4, .cells [.int .i64 (valD n0), .slice z.2.1 z.1 z.2.2.1].toArray 65 (0, 0)) :: (b2, .cells [.int .i64 0, .slice none 0 0].toArray 65 (0, 0)) :: z.2.2.2) (fun z => z.1 ≤ rs.length ∧ ((rs.map ofB).take z.1).all wFq = true ∧ Own (.slice z.2.1 z.1 z.2.2.1) z.2.2.2 9 1 z.1 (((rs.map ofB).take z.1).map Value.string)) (fun z => rs.length - z.1)
   (0, none, 0, []) (.cons (t := 2) rfl (.cons (t := 4) rfl (.cons (t := 5) rfl (.cons (t := 10) rfl .nil)))) ⟨Nat.zero_le _, rfl, Own.nil _ _⟩ (fun _ h => h) ?_
  rintro ⟨k, na, nc, R⟩ hK
  have hk := hK.1
  dsimp only at hk hK ⊢
  refine wAb (wAb (wAa (jp rfl (jp rfl (lq (wCd rfl rfl rfl) ?_)))))
  refine js rfl (fun h100 => ?_) (fun h100 => ?_)
  ·refine wAc (jT (wAf rfl (wAd (jT (wAb (wAk (wAb (wAb (wAa (jp rfl (jp rfl ?_)))))))))))
   have hk6 : k < rs.length := by omega
   obtain ⟨q6, o6, e6, x6⟩ := wFs hsn (i := k + 1) (by simp; omega)
   have h6i : ((n0 :: rs).map ofB)[k + 1]'(by simp; omega) = ofB rs[k] := by simp
   rw [h6i] at x6
   refine lq (wAp rfl rfl rfl rfl e6 (by omega)) ?_
   refine lq (qLd rfl rfl rfl rfl ((x6.mono (MLe.refl _)).cj _)) ?_
   refine wEk rfl rfl (qCl (rname_spec (ofB rs[k]) M9 (by rw [ofB_len]; have := hszp rs[k] (by simp); omega))) (fun h107 => ?_) (fun h107 => ?_)
   ·refine jp rfl (wAc (jT (wAh rfl (wAd (jT (wBn (p := { A := fun i => !([9].contains i), U := fun i => !([9].contains i) }) [(0, true), (1, true), (2, true), (3, true), (4, true), (5, true), (6, false), (7, false), (8, true), (9, false)] M9 ([(b4, .cells [.int .i64 (valD n0), .slice na k nc].toArray 65 (0, 0))]) ([]) (by kernel_rfl) (by kernel_rfl) (by kernel_rfl) (by kernel_rfl) rfl (by simp) (MLe.refl _) (by simp) ?_))))))
    refine dFa rfl rfl ?_
    refine dLd rfl rfl ?_
    iterate 2 refine dp rfl rfl ?_
    refine dq rfl (wAp rfl rfl rfl rfl e6 (by omega)) ?_
    refine dq rfl (qLd rfl rfl rfl rfl (x6.cj _)) ?_
    refine wJf rfl rfl rfl (wBt (cs := [_]) rfl rfl rfl (by rfl) (by rfl) (by rfl)) ?_; rintro _ _ _ ⟨b116, rfl, rfl, rfl⟩
    refine wHf (MLe.refl _) (fun _ h => List.mem_cons_of_mem _ h) (by first | exact MLe.refl _ | assumption) (by simp) ?_
    refine wJf rfl rfl rfl (wDt (R := R) (news := [Value.string (ofB rs[k])]) rfl rfl rfl rfl hK.2.2 rfl (fun j v hv => CJ.loc (by rw [Nat.zero_add]; simpa using hv)) rfl rfl (fun u hu => by rw [List.mem_singleton.1 hu]; rfl) (by omega) (by omega)) ?_; rintro out4 _ _ ⟨rfl, R4, rfl, hown4, _⟩
    obtain ⟨a4, c4, rfl⟩ := hown4.form
    refine ⟨_, _, MLe.refl _, MLe.refl _, fun _ h => h, by simp, ?_⟩
    refine dFa rfl rfl ?_
    refine wJu rfl rfl (wBw rfl rfl rfl rfl rfl rfl rfl rfl) ?_; rintro _ _ _ ⟨rfl, rfl⟩
    refine ⟨MLe.refl _, by simp, ?_⟩
    refine wCu ?_
    refine jPn (jB (jT (wAa (jp rfl (ja rfl (by omega) ?_)))))
    refine jp rfl (wAc ?_)
    have hkm : k < (rs.map ofB).length := by simpa using hk6
    have hgk : (rs.map ofB)[k] = ofB rs[k] := by simp
    refine wBu (k + 1, a4, c4, R4) (.cons (t := 2) rfl (.cons (t := 4) rfl (.cons (t := 5) rfl (.cons (t := 10) rfl .nil)))) ⟨by show k + 1 ≤ _; omega, all_next hkm hK.2.1 (by rw [hgk, ← okN_name (hno _ (by simp))]; exact h107), ?_⟩ (by show rs.length - (k + 1) < rs.length - k; omega) (fun _ h => h.subC fun f => by simp only [List.map_append, List.map_cons, List.map_nil, List.sum_append, List.sum_cons, List.sum_nil]; omega)
    dsimp only; rw [List.take_succ_eq_append_getElem hkm, hgk, List.map_append]; exact hown4
   refine jp rfl (wAc (jT (wAf rfl (wAb (wAa (lq (wBe (cs := [_, _]) rfl rfl rfl (by rfl)) ?_))))))
   refine sSt rfl ?_
   refine jp rfl (wAc (jT (wAg (jTr (jBr (jTr (jTr (jBr (jTr (wEj (rs := [_, _]) rfl (.cons (.agg rfl rfl rfl) (.cons (.tmp rfl) .nil)) ?_))))))))))
   have hbad : (rs.map ofB).all wFq = false := all_no (i := k) (by simpa using hk6) (by rw [show (rs.map ofB)[k]'(by simpa using hk6) = ofB rs[k] from by simp, ← okN_name (hno _ (by simp))]; exact h107)
   exact PathP.no (by rw [hrf, hbad]; simp)
  refine wAc (jT (wAh rfl (wBx (jTx (jTx (jBx (jT (wAb (wAa (sLL rfl ?_))))))))))
  refine sSt rfl ?_
  refine jp rfl (wAc (jT (wAg ?_)))
  obtain rfl : k = rs.length := by omega
  have hown5 := hK.2.2
  rw [List.take_of_length_le (by simp)] at hown5
  refine wLk hown5 (by simp) ?_
  intro M5 a5 c5 hM5 e5 hc5 hs5
  cases e5
  refine wEj (rs := [_, _]) rfl (.cons (.agg rfl rfl rfl) (.cons (.tmp rfl) .nil)) ?_
  have hall := hK.2.1
  rw [List.take_of_length_le (by simp)] at hall
  have hlen : (rs.map ofB).length = rs.length := by simp
  have hw := PathP.yes (s := s) (M := M5) (w := (valD n0, rs.map ofB)) (a := na) (c := nc) (by rw [hrf, numG_dig hhd, hj2, hall]; rfl) ⟨hs5, by rw [hlen]; exact hc5, by rw [hlen]; omega⟩
  have hw2 : PathP s (.tuple #[.agg [.int .i64 (valD n0), .slice na (rs.map ofB).length nc].toArray, .bool true]) M5 [] := hw
  rw [hlen] at hw2
  exact hw2
 refine wAa (jp rfl (wEk rfl rfl (qStrEql rfl rfl rfl rfl) (fun h53 => ?_) (fun h53 => ?_)))
 ·iterate 15 refine jp rfl ?_
  refine wAc ?_
  have hmm : wKg n0 = true := by
   have : n0 = [] := by
    have e := of_decide_eq_true h53
    have := congrArg (fun s : Str => s.data.toList) e
    simpa using this
   rw [this]; rfl
  exact j_merge () (.cons (t := 2) rfl (.cons (t := 4) rfl (.cons (t := 5) rfl (.cons (t := 8) rfl (Keep.ceq (t := 68) rfl (by rw [hmm]) Keep.nil))))) trivial (fun _ h => h)
 refine jp rfl (jp rfl (lq (wEg rfl rfl rfl) ?_))
 refine js rfl (fun h57 => ?_) (fun h57 => ?_)
 ·iterate 11 refine jp rfl ?_
  refine wAc ?_
  have hmm : wKg n0 = true := by
   have : 9 < n0.length := by omega
   unfold wKg; rw [decide_eq_true this]; simp
  exact j_merge () (.cons (t := 2) rfl (.cons (t := 4) rfl (.cons (t := 5) rfl (.cons (t := 8) rfl (Keep.ceq (t := 68) rfl (by rw [hmm]) Keep.nil))))) trivial (fun _ h => h)
 refine jp rfl (jp rfl (jp rfl ?_))
 have hne0 : n0 ≠ [] := fun e => (of_decide_eq_false h53) (by rw [e])
 have hk5 : 0 < (ofB n0).size := by rw [hn0]; exact List.length_pos_iff.2 hne0
 refine lq (wHe rfl rfl rfl rfl (by omega) (wKi hk5)) ?_
 refine js rfl (fun h62 => ?_) (fun h62 => ?_)
 ·refine jp rfl (jp rfl (lq (wEg rfl rfl rfl) ?_))
  refine js rfl (fun h66 => ?_) (fun h66 => ?_)
  ·refine jp rfl (jp rfl (wAc ?_))
   have hmm : wKg n0 = true := by
    have h63 : n0[0]'(List.length_pos_iff.2 hne0) = 48 := (byte_is (n := 48) (by omega)).1 h62
    unfold wKg lead; rw [List.head?_eq_getElem?, List.getElem?_eq_getElem (List.length_pos_iff.2 hne0), h63, decide_eq_true (show 1 < n0.length by omega)]; simp
   exact j_merge () (.cons (t := 2) rfl (.cons (t := 4) rfl (.cons (t := 5) rfl (.cons (t := 8) rfl (Keep.ceq (t := 68) rfl (by rw [hmm]) Keep.nil))))) trivial (fun _ h => h)
  refine jp rfl (jp rfl (wAc ?_))
  have hmm : wKg n0 = false := by
   have h2 : n0.isEmpty = false := by simpa using hne0
   unfold wKg lead; rw [h2, decide_eq_false (show ¬ 9 < n0.length by omega), decide_eq_false (show ¬ 1 < n0.length by omega)]; simp
  exact j_merge () (.cons (t := 2) rfl (.cons (t := 4) rfl (.cons (t := 5) rfl (.cons (t := 8) rfl (Keep.ceq (t := 68) rfl (by rw [hmm]) Keep.nil))))) trivial (fun _ h => h)
 refine jp rfl (jp rfl (jp rfl (jp rfl (jp rfl (jp rfl (wAc ?_))))))
 have hmm : wKg n0 = false := by
  have h2 : n0.isEmpty = false := by simpa using hne0
  have h63 : n0[0]'(List.length_pos_iff.2 hne0) ≠ 48 := fun e => h62 ((byte_is (n := 48) (by omega)).2 e)
  unfold wKg lead; rw [h2, decide_eq_false (show ¬ 9 < n0.length by omega), List.head?_eq_getElem?, List.getElem?_eq_getElem (List.length_pos_iff.2 hne0)]; simp [h63]
 exact j_merge () (.cons (t := 2) rfl (.cons (t := 4) rfl (.cons (t := 5) rfl (.cons (t := 8) rfl (Keep.ceq (t := 68) rfl (by rw [hmm]) Keep.nil))))) trivial (fun _ h => h)
theorem path_spec (s : Str) (M : Mem) : SpecL Tryz.prog 19 #[.string s] M [] (PathP s) := by
 by_cases h : s.size = 0 ∨ 64 < s.size ∨ s.data.toList.head? ≠ some 47
 ·exact path_bad s M h
 exact path_good s M (by omega) (by omega) (Classical.byContradiction fun e => h (.inr (.inr e)))
end Go.Proofs.YtokljhkplbkggaaGreatDoor
