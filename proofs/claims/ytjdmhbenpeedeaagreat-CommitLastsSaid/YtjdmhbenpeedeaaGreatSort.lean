/- Walks: superblocks sorted (some order of them; at most four). -/
import Derived.Test.YtjdmhbenpeedeaaGreatRnd
namespace Go.Proofs.YtjdmhbenpeedeaaGreat
set_option linter.unusedVariables false
set_option linter.unusedSimpArgs false
open Go.RowKit

abbrev Sr := Su × Value
def srow (p : Sr) : List Value := suc p.1 p.2
theorem srow_len (p : Sr) : (srow p).length = 5 := rfl
theorem set_row (p : Sr) (sp : List Value) : ∀ (ys : List Sr) (k : Nat), k < ys.length → (ys.flatMap srow ++ sp).take (k * 5) ++ srow p ++ (ys.flatMap srow ++ sp).drop (k * 5 + (srow p).length) = (ys.set k p).flatMap srow ++ sp
  | [], k, h => by cases h
  | y :: ys, 0, _ => by
    have e : ∀ (z : Sr), (z :: ys).flatMap srow ++ sp = srow z ++ (ys.flatMap srow ++ sp) := fun z => by rw [List.flatMap_cons, List.append_assoc]
    rw [e y, List.set_cons_zero, e p]
    rfl
  | y :: ys, k + 1, h => by
    have ih := set_row p sp ys k (by simpa using h)
    have e : (y :: ys).flatMap srow ++ sp = srow y ++ (ys.flatMap srow ++ sp) := by rw [List.flatMap_cons, List.append_assoc]
    have e1 : (srow y ++ (ys.flatMap srow ++ sp)).take ((k + 1) * 5) = srow y ++ (ys.flatMap srow ++ sp).take (k * 5) := by
      rw [show (k + 1) * 5 = k * 5 + 5 by omega]; rfl
    have e2 : (srow y ++ (ys.flatMap srow ++ sp)).drop ((k + 1) * 5 + (srow p).length) = (ys.flatMap srow ++ sp).drop (k * 5 + (srow p).length) := by
      rw [srow_len, show (k + 1) * 5 + 5 = (k * 5 + 5) + 5 by omega]; rfl
    rw [e, e1, e2, List.set_cons_succ, List.flatMap_cons, List.append_assoc (srow y) _ sp, ← ih, List.append_assoc, List.append_assoc, List.append_assoc]
section
variable {P : Program} {ops : Array Oper} {N : Fs} {F : Fr} {E : Ent} {M : Mem} {L : Lc} {o : Oper}
theorem hSetS {t e : TypeId} {x y : Operand} {b off by_ : Nat} (k : Nat) {ys : List Sr} {sp : List Value} {p : Sr} {L' : Lc} {z : List Value} (hg : gd ops F o = some true) (ho : o.op = .store t x y) (hx : ev F x = some (.pointer (some ⟨b, off, none⟩))) (hy : ev F y = some (.agg (srow p).toArray))
    [hl : Lay P t 5 by_ z] (hoff : off = k * 5) (hp1 : p.2.oneCell' = true) (hk : k < ys.length) [at_ : At b (.cells (ys.flatMap srow ++ sp).toArray e (0, 0)) L]
    [hp : PutAt b (.cells (ys.flatMap srow ++ sp).toArray e (0, 0)) (.cells ((ys.set k p).flatMap srow ++ sp).toArray e (0, 0)) L L'] :
    HF P ops N F E M L o (fun _ M' L'' => M = M' ∧ L'' = L') := by
  subst hoff
  have hp' : PutAt b (.cells (ys.flatMap srow ++ sp).toArray e (0, 0)) (.cells ((ys.flatMap srow ++ sp).take (k * 5) ++ srow p ++ (ys.flatMap srow ++ sp).drop (k * 5 + (srow p).length)).toArray e (0, 0)) L L' := by
    rw [set_row p sp ys k hk]; exact hp
  refine hStore (hp := hp') hg ho hx hy rfl rfl (fun u hu => ?_) ?_
  · simp only [srow, suc, List.mem_cons, List.not_mem_nil, or_false] at hu
    rcases hu with rfl | rfl | rfl | rfl | rfl
    · rfl
    · rfl
    · rfl
    · rfl
    · exact hp1
  · rw [List.length_append, flat_len srow 5 srow_len]; have := srow_len p; omega
theorem qIdxStr {x ix : Operand} {t : TypeId} {k : IntKind} {i : Int} {s : ByteArray} {b : UInt8} (hg : gd ops F o = some true) (ho : o.op = .index t x ix) (hx : ev F x = some (.string s)) (hi : ev F ix = some (.int k i)) [ht : Und P t .string] (h : 0 ≤ i) (hb : s[i.toNat]? = some b) : QF P ops N F M L o (.int .u8 b.toNat) :=
  qf_of hg fun ac hac w hw => by
    simp [execOp, ho, hac.ev hx, hac.ev hi, Instr.index, asIntOf, run_underlying ht.h, h, hb]
end
theorem rowcj {M : Mem} {L : Lc} {b : Nat} {ys : List Sr} {sp : List Value} {e : TypeId} {k off : Nat} (hm : (b, Obj.cells (ys.flatMap srow ++ sp).toArray e (0, 0)) ∈ L) (hk : k < ys.length) (hoff : off = k * 5) : ∀ i v, (srow ys[k])[i]? = some v → CJ M L b (off + i) v := fun i v hv => by
  subst hoff
  have hi : i < 5 := by rw [← srow_len ys[k]]; exact (List.getElem?_eq_some_iff.1 hv).1
  refine ⟨_, _, _, .inr hm, ?_⟩
  rw [List.getElem?_toArray, List.getElem?_append_left (by rw [flat_len srow 5 srow_len]; omega), flat_get srow 5 srow_len ys k i hi, List.getElem?_eq_getElem hk]
  exact hv
def cmpV (a b : Int) : Int := if a < b then -1 else if a > b then 1 else 0
def tb (i : Int) : By := UInt8.ofNat (if i = 0 then 0 else if i = 1 then 1 else if i ≤ 3 then 2 else 3)
theorem swap_perm {ys : List Sr} {j : Nat} (h : j < ys.length) (h0 : 0 < j) : ((ys.set j (ys[j - 1]'(by omega))).set (j - 1) ys[j]).Perm ys := by
  exact List.set_set_perm (i := j) (j := j - 1) h (by omega)

theorem nan_spec (a : Int) (M : Mem) :
    SpecL Tryz.prog 80 #[.int .u32 a] M [] fun u _ _ => u = .bool false := by
  refine spec_body (vs := [_]) 6 _ Tryz.func80 rfl Tryz.ntmps80 rfl rfl ?_; intro W
  refine jc_seq ?_
  refine jc_region ?_
  refine jp rfl ?_
  refine jl_nil ?_
  refine jT ?_
  refine jc_seq ?_
  refine jc_region ?_
  iterate 4 refine jp rfl ?_
  refine jl_nil ?_
  refine jT ?_
  refine jc_ret ?_
  refine jr1 rfl rfl ?_
  simp

theorem cmp_spec (a b : Int) (M : Mem) :
    SpecL Tryz.prog 44 #[.int .u32 a, .int .u32 b] M [] fun u _ _ => u = .int .i64 (cmpV a b) := by
  refine spec_body (vs := [_, _]) 20 _ Tryz.func44 rfl Tryz.ntmps44 rfl rfl ?_; intro W
  refine jc_seq ?_
  refine jc_region ?_
  refine jp rfl ?_
  refine jl_nil ?_
  refine jT ?_
  refine jc_seq ?_
  refine jc_region ?_
  refine jp rfl ?_
  refine jl_q rfl rfl (qCall rfl rfl rfl rfl rfl (by kernel_rfl) (nan_spec a M)) ?_
  refine jp rfl ?_
  refine jl_nil ?_
  refine jT ?_
  refine jc_seq ?_
  refine jc_region ?_
  refine jp rfl ?_
  refine jl_q rfl rfl (qCall rfl rfl rfl rfl rfl (by kernel_rfl) (nan_spec b M)) ?_
  refine jp rfl ?_
  refine jl_nil ?_
  refine jT ?_
  refine jc_seq ?_
  refine jc_seq ?_
  refine jc_region ?_
  refine jp rfl ?_
  refine jl_nil ?_
  refine jT ?_
  refine jc_no rfl ?_
  refine jc_skip ?_
  refine jT ?_
  refine jc_seq ?_
  refine jc_seq ?_
  refine jc_region ?_
  refine jp rfl ?_
  refine jl_nil ?_
  refine jT ?_
  refine jc_no rfl ?_
  refine jc_skip ?_
  refine jT ?_
  refine jc_seq ?_
  refine jc_seq ?_
  refine jc_region ?_
  iterate 2 refine jp rfl ?_
  refine js rfl (fun h16 => ?_) (fun h16 => ?_)
  · refine jl_nil ?_
    refine jT ?_
    refine jc_yes rfl ?_
    refine jc_seq ?_
    refine jc_region ?_
    refine jp rfl ?_
    refine jl_nil ?_
    refine jT ?_
    refine jc_ret ?_
    refine jTr ?_
    refine jr1 rfl rfl ?_
    unfold cmpV
    first | (rw [if_pos (by omega)]; done) | (rw [if_neg (by omega), if_pos (by omega)]; done) | (rw [if_neg (by omega), if_neg (by omega)]; done)
  · refine jl_nil ?_
    refine jT ?_
    refine jc_no rfl ?_
    refine jc_skip ?_
    refine jT ?_
    refine jc_seq ?_
    refine jc_seq ?_
    refine jc_region ?_
    iterate 2 refine jp rfl ?_
    refine js rfl (fun h19 => ?_) (fun h19 => ?_)
    · refine jl_nil ?_
      refine jT ?_
      refine jc_yes rfl ?_
      refine jc_seq ?_
      refine jc_region ?_
      refine jp rfl ?_
      refine jl_nil ?_
      refine jT ?_
      refine jc_ret ?_
      refine jTr ?_
      refine jr1 rfl rfl ?_
      unfold cmpV
      first | (rw [if_pos (by omega)]; done) | (rw [if_neg (by omega), if_pos (by omega)]; done) | (rw [if_neg (by omega), if_neg (by omega)]; done)
    · refine jl_nil ?_
      refine jT ?_
      refine jc_no rfl ?_
      refine jc_skip ?_
      refine jT ?_
      refine jc_seq ?_
      refine jc_region ?_
      refine jp rfl ?_
      refine jl_nil ?_
      refine jT ?_
      refine jc_ret ?_
      refine jr1 rfl rfl ?_
      unfold cmpV
      first | (rw [if_pos (by omega)]; done) | (rw [if_neg (by omega), if_pos (by omega)]; done) | (rw [if_neg (by omega), if_neg (by omega)]; done)

theorem find1_spec (p q : Sr) (M : Mem) :
    SpecL Tryz.prog 43 #[.agg (srow p).toArray, .agg (srow q).toArray] M [] fun u _ _ => u = .int .i64 (cmpV q.1.gen p.1.gen) := by
  refine spec_body (vs := [_, _]) 10 _ Tryz.func43 rfl Tryz.ntmps43 rfl rfl ?_; intro W
  refine jc_seq ?_
  refine jc_region ?_
  refine jl_h rfl rfl (hBox (cs := srow p) rfl rfl rfl rfl) ?_; rintro _ _ _ ⟨b2, rfl, rfl, rfl⟩
  refine jl_h rfl rfl (hBox (cs := srow q) rfl rfl rfl rfl) ?_; rintro _ _ _ ⟨b3, rfl, rfl, rfl⟩
  refine jp rfl ?_
  refine jl_nil ?_
  refine jT ?_
  refine jc_seq ?_
  refine jc_region ?_
  refine jl_q rfl rfl (qFieldAddr rfl rfl rfl rfl rfl) ?_
  refine jl_q rfl rfl (qLd rfl rfl rfl rfl (CJ.loc rfl)) ?_
  refine jl_q rfl rfl (qFieldAddr rfl rfl rfl rfl rfl) ?_
  refine jl_q rfl rfl (qLd rfl rfl rfl rfl (CJ.loc rfl)) ?_
  refine jl_q rfl rfl (qCall rfl rfl rfl rfl rfl (by kernel_rfl) (cmp_spec q.1.gen p.1.gen M)) ?_
  refine jp rfl ?_
  refine jl_nil ?_
  refine jT ?_
  refine jc_ret ?_
  refine jr1 rfl rfl ?_
  rfl

set_option maxHeartbeats 2000000 in
theorem isort_spec (g : Nat) (e : TypeId) (sp : List Value) (xs : List Sr) (c : Nat) (M : Mem) (h1 : ∀ p ∈ xs, p.2.oneCell' = true) (hn : xs.length ≤ 1000000) :
    SpecL Tryz.prog 111 #[.slice (some ⟨g, 0, none⟩) xs.length c, .int .i64 0, .int .i64 xs.length, .func (.func 43) #[] #[]] M [(g, .cells (xs.flatMap srow ++ sp).toArray e (0, 0))] fun _ M' L' => ∃ ys : List Sr, ys.Perm xs ∧ L' = [(g, .cells (ys.flatMap srow ++ sp).toArray e (0, 0))] := by
  refine spec_body (vs := [_, _, _, _]) 53 _ Tryz.func111 rfl Tryz.ntmps111 rfl rfl ?_; intro W
  refine jc_seq ?_
  refine jc_region ?_
  refine jp rfl ?_
  refine ja rfl (by omega) ?_
  refine jp rfl ?_
  refine jl_nil ?_
  refine jT ?_
  refine jc_block ?_
  refine jc_loopK (α := Nat × List Sr) (fun y => [(0, .slice (some ⟨g, 0, none⟩) xs.length c), (1, .int .i64 0), (2, .int .i64 xs.length), (3, .func (.func 43) #[] #[]), (8, .int .i64 y.1)]) (fun _ => M) (fun y => [(g, .cells (y.2.flatMap srow ++ sp).toArray e (0, 0))]) (fun y => 1 ≤ y.1 ∧ y.2.Perm xs) (fun y => xs.length - y.1)
    (1, xs) (Keep.cons (t := 0) rfl (Keep.cons (t := 1) rfl (Keep.cons (t := 2) rfl (Keep.cons (t := 3) rfl (Keep.cons (t := 8) rfl Keep.nil))))) ⟨Nat.le_refl _, List.Perm.refl _⟩ (fun _ h => h) ?_
  rintro ⟨i, ys0⟩ ⟨hi, hp0⟩
  try dsimp only at hi hp0 ⊢
  refine jc_seq ?_
  refine jc_seq ?_
  refine jc_region ?_
  iterate 2 refine jp rfl ?_
  refine js rfl (fun h14 => ?_) (fun h14 => ?_)
  · refine jl_nil ?_
    refine jT ?_
    refine jc_yes rfl ?_
    refine jc_skip ?_
    refine jT ?_
    refine jc_seq ?_
    refine jc_block ?_
    refine jc_seq ?_
    refine jc_region ?_
    iterate 2 refine jp rfl ?_
    refine jl_nil ?_
    refine jT ?_
    refine jc_block ?_
    refine jc_loopK (α := Nat × List Sr) (fun y => [(0, .slice (some ⟨g, 0, none⟩) xs.length c), (1, .int .i64 0), (2, .int .i64 xs.length), (3, .func (.func 43) #[] #[]), (8, .int .i64 i), (9, .int .i64 y.1)]) (fun _ => M) (fun y => [(g, .cells (y.2.flatMap srow ++ sp).toArray e (0, 0))]) (fun y => y.1 ≤ i ∧ y.2.Perm xs) (fun y => y.1)
      (i, ys0) (Keep.cons (t := 0) rfl (Keep.cons (t := 1) rfl (Keep.cons (t := 2) rfl (Keep.cons (t := 3) rfl (Keep.cons (t := 8) rfl (Keep.cons (t := 9) rfl Keep.nil)))))) ⟨Nat.le_refl _, hp0⟩ (fun _ h => h) ?_
    rintro ⟨j, ys⟩ ⟨hj, hp⟩
    try dsimp only at hj hp ⊢
    refine jc_seq ?_
    refine jc_seq ?_
    refine jc_draw [(0, true), (1, true), (2, true), (3, true), (4, true), (5, true), (6, true), (7, true), (8, true), (9, true), (10, true), (11, true), (12, true), (13, true), (14, true), (15, true), (16, true)] [(g, .cells (ys.flatMap srow ++ sp).toArray e (0, 0))] (by kernel_rfl) (by kernel_rfl) (by kernel_rfl) rfl (fun _ h => h) ?_
    iterate 2 refine dp rfl rfl ?_
    refine ds rfl rfl (fun h20 => ?_) (fun h20 => ?_)
    · iterate 4 refine dp rfl rfl ?_
      have hyl := hp.length_eq
      have hj1 : j < ys.length := by omega
      have hj2 : j - 1 < ys.length := by omega
      refine jd_q rfl rfl rfl (qIdxS rfl rfl rfl rfl (by omega)) ?_
      refine jd_q rfl rfl rfl (qLdA (cs := srow ys[j]) rfl rfl rfl rfl rfl (rowcj (List.Mem.head _) hj1 (by simp))) ?_
      iterate 2 refine dp rfl rfl ?_
      refine da rfl rfl (by omega) ?_
      refine jd_q rfl rfl rfl (qIdxS rfl rfl rfl rfl (by omega)) ?_
      refine jd_q rfl rfl rfl (qLdA (cs := srow ys[j - 1]) rfl rfl rfl rfl rfl (rowcj (List.Mem.head _) hj2 (by simp))) ?_
      refine jd_q rfl rfl rfl (qCall rfl rfl rfl rfl rfl (by kernel_rfl) (find1_spec ys[j] ys[j - 1] M)) ?_
      refine ds rfl rfl (fun h33 => ?_) (fun h33 => ?_)
      · refine dp rfl rfl ?_
        refine jd_nil ?_
        refine jPn ?_
        refine jT ?_
        refine jc_yes rfl ?_
        refine jc_skip ?_
        refine jT ?_
        refine jc_seq ?_
        refine jc_block ?_
        refine jc_drawP (p := { A := fun i => !([15, 17].contains i), U := fun i => !([2, 3, 4, 15, 16, 17].contains i) }) [(0, true), (1, true), (2, true), (3, true), (4, true), (5, true), (6, true), (7, true), (8, true), (9, true), (10, true), (11, true), (12, true), (13, true), (14, true), (15, false), (16, true), (17, false)] M ([(g, .cells (ys.flatMap srow ++ sp).toArray e (0, 0))]) ([]) (by kernel_rfl) (by kernel_rfl) (by kernel_rfl) (by kernel_rfl) rfl (by simp) (MLe.refl _) (by simp) ?_
        iterate 4 refine dp rfl rfl ?_
        refine jd_u rfl rfl rfl (qAk rfl rfl rfl rfl rfl (by rw [IntKind.wrap_i64]; omega)) ?_
        iterate 2 refine dp rfl rfl ?_
        refine da rfl rfl (by omega) ?_
        refine jd_q rfl rfl rfl (qIdxS rfl rfl rfl rfl (by omega)) ?_
        refine jd_q rfl rfl rfl (qLdA (cs := srow ys[j - 1]) rfl rfl rfl rfl rfl (rowcj (List.Mem.head _) hj2 (by simp))) ?_
        iterate 2 refine dp rfl rfl ?_
        refine jd_q rfl rfl rfl (qIdxS rfl rfl rfl rfl (by omega)) ?_
        refine jd_q rfl rfl rfl (qLdA (cs := srow ys[j]) rfl rfl rfl rfl rfl (rowcj (List.Mem.head _) hj1 (by simp))) ?_
        refine jd_q rfl rfl rfl (qIdxS rfl rfl rfl rfl (by omega)) ?_
        refine jd_e rfl rfl (hSetS j rfl rfl rfl rfl (by simp) (h1 _ (hp.subset (List.getElem_mem hj2))) hj1) ?_; rintro _ _ _ ⟨rfl, rfl⟩
        refine ⟨MLe.refl _, by simp, ?_⟩
        refine je_q rfl rfl rfl (qIdxS rfl rfl rfl rfl (by omega)) ?_
        refine je_s rfl rfl (hSetS (j - 1) rfl rfl rfl rfl (by simp) (h1 _ (hp.subset (List.getElem_mem hj1))) (by rw [List.length_set]; exact hj2)) ?_; rintro _ _ _ ⟨rfl, rfl⟩
        refine ⟨MLe.refl _, by simp, ?_⟩
        refine je_nil ?_
        refine jPn ?_
        refine jB ?_
        refine jT ?_
        refine jc_region ?_
        refine jp rfl ?_
        refine ja rfl (by omega) ?_
        refine jp rfl ?_
        refine jl_nil ?_
        refine j_again (j - 1, _) (Keep.cons (t := 0) rfl (Keep.cons (t := 1) rfl (Keep.cons (t := 2) rfl (Keep.cons (t := 3) rfl (Keep.cons (t := 8) rfl (Keep.ceq (t := 9) rfl (congrArg (Value.int .i64) (by show (j : Int) - 1 = ((j - 1 : Nat) : Int); omega)) Keep.nil)))))) ⟨by show j - 1 ≤ i; omega, (swap_perm hj1 (by omega)).trans hp⟩ (by show j - 1 < j; omega) (fun _ h => h)
      · refine dp rfl rfl ?_
        refine jd_nil ?_
        refine jPn ?_
        refine jT ?_
        refine jc_no rfl ?_
        refine jc_exit ?_
        refine jTx ?_
        refine jTx ?_
        refine jBx ?_
        refine jB ?_
        refine jT ?_
        refine jc_region ?_
        refine jp rfl ?_
        refine ja rfl (by omega) ?_
        refine jp rfl ?_
        refine jl_nil ?_
        refine j_again (i + 1, ys) (Keep.cons (t := 0) rfl (Keep.cons (t := 1) rfl (Keep.cons (t := 2) rfl (Keep.cons (t := 3) rfl (Keep.cons (t := 8) rfl Keep.nil))))) ⟨by show 1 ≤ i + 1; omega, hp⟩ (by show xs.length - (i + 1) < xs.length - i; omega) (fun _ h => h)
    · iterate 14 refine dp rfl rfl ?_
      refine jd_nil ?_
      refine jPn ?_
      refine jT ?_
      refine jc_no rfl ?_
      refine jc_exit ?_
      refine jTx ?_
      refine jTx ?_
      refine jBx ?_
      refine jB ?_
      refine jT ?_
      refine jc_region ?_
      refine jp rfl ?_
      refine ja rfl (by omega) ?_
      refine jp rfl ?_
      refine jl_nil ?_
      refine j_again (i + 1, ys) (Keep.cons (t := 0) rfl (Keep.cons (t := 1) rfl (Keep.cons (t := 2) rfl (Keep.cons (t := 3) rfl (Keep.cons (t := 8) rfl Keep.nil))))) ⟨by show 1 ≤ i + 1; omega, hp⟩ (by show xs.length - (i + 1) < xs.length - i; omega) (fun _ h => h)
  · refine jl_nil ?_
    refine jT ?_
    refine jc_no rfl ?_
    refine jc_exit ?_
    refine jTx ?_
    refine jTx ?_
    refine jBx ?_
    refine jrn ?_
    refine jrs (rs := []) rfl .nil ?_
    exact ⟨_, hp0, rfl⟩

theorem pdq_spec (g : Nat) (e : TypeId) (sp : List Value) (xs : List Sr) (c : Nat) (M : Mem) (h1 : ∀ p ∈ xs, p.2.oneCell' = true) (hn : xs.length ≤ 12) (lim : Int) :
    SpecL Tryz.prog 78 #[.slice (some ⟨g, 0, none⟩) xs.length c, .int .i64 0, .int .i64 xs.length, .int .i64 lim, .func (.func 43) #[] #[]] M [(g, .cells (xs.flatMap srow ++ sp).toArray e (0, 0))] fun _ M' L' => ∃ ys : List Sr, ys.Perm xs ∧ L' = [(g, .cells (ys.flatMap srow ++ sp).toArray e (0, 0))] := by
  refine spec_body (vs := [_, _, _, _, _]) 148 _ Tryz.func78 rfl Tryz.ntmps78 rfl rfl ?_; intro W
  refine jc_seq ?_
  refine jc_region ?_
  refine jp rfl ?_
  refine jl_nil ?_
  refine jT ?_
  refine jc_seq ?_
  refine jc_region ?_
  refine jp rfl ?_
  refine jl_nil ?_
  refine jT ?_
  refine jc_block ?_
  refine jc_loopK (α := Unit) (fun _ => [(0, .slice (some ⟨g, 0, none⟩) xs.length c), (1, .int .i64 0), (2, .int .i64 xs.length), (3, .int .i64 lim), (4, .func (.func 43) #[] #[])]) (fun _ => M) (fun _ => [(g, .cells (xs.flatMap srow ++ sp).toArray e (0, 0))]) (fun _ => True) (fun _ => 0)
    () (Keep.cons (t := 0) rfl (Keep.cons (t := 1) rfl (Keep.cons (t := 2) rfl (Keep.cons (t := 3) rfl (Keep.cons (t := 4) rfl Keep.nil))))) trivial (fun _ h => h) ?_
  rintro _ _
  refine jc_block ?_
  refine jc_seq ?_
  refine jc_region ?_
  iterate 2 refine jp rfl ?_
  refine ja rfl (by omega) ?_
  refine jp rfl ?_
  refine jl_nil ?_
  refine jT ?_
  refine jc_seq ?_
  refine jc_seq ?_
  refine jc_region ?_
  refine jp rfl ?_
  refine jt rfl (decide_eq_true (by omega)) ?_
  refine jl_nil ?_
  refine jT ?_
  refine jc_yes rfl ?_
  refine jc_seq ?_
  refine jc_region ?_
  iterate 4 refine jp rfl ?_
  refine jl_h rfl rfl (hCall rfl rfl rfl rfl rfl (by kernel_rfl) (isort_spec g e sp xs c M h1 (by omega))) ?_; rintro _ M1 _ ⟨hM1, _, rfl, ys, hp, rfl⟩
  refine jl_nil ?_
  refine jT ?_
  refine jc_ret ?_
  refine jTr ?_
  refine jBr ?_
  refine jTr ?_
  refine jBr ?_
  refine jrs (rs := []) rfl .nil ?_
  exact ⟨ys, hp, rfl⟩

theorem len64_spec (n : Int) (M : Mem) (h : 0 ≤ n ∧ n < 5) :
    SpecL Tryz.prog 120 #[.int .u64 n] M [] fun u M' L' => u = .int .i64 (0 + ((tb n).toNat : Int)) := by
  refine spec_body (vs := [_]) 25 _ Tryz.func120 rfl Tryz.ntmps120 rfl rfl ?_; intro W
  refine jc_seq ?_
  refine jc_region ?_
  refine jp rfl ?_
  refine jl_nil ?_
  refine jT ?_
  refine jc_seq ?_
  refine jc_seq ?_
  refine jc_region ?_
  refine jp rfl ?_
  refine jf rfl (decide_eq_false (by omega)) ?_
  refine jl_nil ?_
  refine jT ?_
  refine jc_no rfl ?_
  refine jc_skip ?_
  refine jT ?_
  refine jc_seq ?_
  refine jc_seq ?_
  refine jc_region ?_
  refine jp rfl ?_
  refine jf rfl (decide_eq_false (by omega)) ?_
  refine jl_nil ?_
  refine jT ?_
  refine jc_no rfl ?_
  refine jc_skip ?_
  refine jT ?_
  refine jc_seq ?_
  refine jc_seq ?_
  refine jc_region ?_
  refine jp rfl ?_
  refine jf rfl (decide_eq_false (by omega)) ?_
  refine jl_nil ?_
  refine jT ?_
  refine jc_no rfl ?_
  refine jc_skip ?_
  refine jT ?_
  refine jc_seq ?_
  refine jc_region ?_
  iterate 2 refine jp rfl ?_
  have htb := (tb n).toNat_lt
  refine jl_q rfl rfl (qConvK rfl rfl rfl (by rw [IntKind.wrap_u8]; omega)) ?_
  refine jl_q rfl rfl (qIdxStr (b := tb n) rfl rfl rfl rfl (by omega) (by have h5 : n = 0 ∨ n = 1 ∨ n = 2 ∨ n = 3 ∨ n = 4 := (by omega); rcases h5 with rfl | rfl | rfl | rfl | rfl <;> decide +kernel)) ?_
  refine jl_q rfl rfl (qConv64 rfl rfl rfl (by omega)) ?_
  refine ja rfl (by omega) ?_
  refine jp rfl ?_
  refine jl_nil ?_
  refine jT ?_
  refine jc_ret ?_
  refine jr1 rfl rfl ?_
  rfl

theorem len_spec (n : Int) (M : Mem) (h : 0 ≤ n ∧ n < 5) :
    SpecL Tryz.prog 79 #[.int .u64 n] M [] fun u M' L' => u = .int .i64 (0 + ((tb n).toNat : Int)) := by
  refine spec_body (vs := [_]) 8 _ Tryz.func79 rfl Tryz.ntmps79 rfl rfl ?_; intro W
  refine jc_seq ?_
  refine jc_region ?_
  refine jp rfl ?_
  refine jl_nil ?_
  refine jT ?_
  refine jc_seq ?_
  refine jc_no rfl ?_
  refine jc_skip ?_
  refine jT ?_
  refine jc_seq ?_
  refine jc_region ?_
  refine jp rfl ?_
  refine jl_q rfl rfl (qCall rfl rfl rfl rfl rfl (by kernel_rfl) (len64_spec n M h)) ?_
  refine jp rfl ?_
  refine jl_nil ?_
  refine jT ?_
  refine jc_ret ?_
  refine jr1 rfl rfl ?_
  rfl

theorem sortf_spec (g : Nat) (e : TypeId) (sp : List Value) (xs : List Sr) (c : Nat) (M : Mem) (h1 : ∀ p ∈ xs, p.2.oneCell' = true) (hn : xs.length ≤ 4) :
    SpecL Tryz.prog 42 #[.slice (some ⟨g, 0, none⟩) xs.length c, .func (.func 43) #[] #[]] M [(g, .cells (xs.flatMap srow ++ sp).toArray e (0, 0))] fun _ M' L' => ∃ ys : List Sr, ys.Perm xs ∧ L' = [(g, .cells (ys.flatMap srow ++ sp).toArray e (0, 0))] := by
  refine spec_body (vs := [_, _]) 14 _ Tryz.func42 rfl Tryz.ntmps42 rfl rfl ?_; intro W
  refine jc_seq ?_
  refine jc_region ?_
  refine jp rfl ?_
  refine jl_q rfl rfl (qLen rfl rfl rfl) ?_
  refine jp rfl ?_
  refine jl_nil ?_
  refine jT ?_
  refine jc_region ?_
  iterate 3 refine jp rfl ?_
  refine jl_q rfl rfl (qConvK rfl rfl rfl (by rw [IntKind.wrap_u64]; omega)) ?_
  refine jl_q rfl rfl (qCall rfl rfl rfl rfl rfl (by kernel_rfl) (len_spec xs.length M (by omega))) ?_
  refine jp rfl ?_
  refine jl_h rfl rfl (hCall rfl rfl rfl rfl rfl (by kernel_rfl) (pdq_spec g e sp xs c M h1 (by omega) _)) ?_; rintro _ M1 _ ⟨hM1, _, rfl, ys, hp, rfl⟩
  refine jl_nil ?_
  refine jrn ?_
  refine jrs (rs := []) rfl .nil ?_
  exact ⟨ys, hp, rfl⟩

end Go.Proofs.YtjdmhbenpeedeaaGreat
