/- WalkParts' function is walked. -/
import Derived.Test.YtjibkdpeijcnkaaAlive
import Derived.Test.YtjibkdpeijcnkaaGreat
import Derived.Test.YtjibkdpeijcnkaaTree
namespace Go.Proofs.Ytjibkdpeijcnkaa
set_option linter.unusedVariables false
set_option linter.unusedSimpArgs false
open Go.RowKit

theorem FdPost.form {s : Sto} {root : Int} {q : Ky} {u : Value} {M' : Mem} (h : FdPost s root q u M') (h0 : (fchk s root).2 = 0) : ∃ (x : It) (va : Option Addr) (vc : Nat) (e : Int), u = .tuple #[.agg (itc x va vc).toArray, .int .i64 e] ∧ (e = 0 ↔ ∃ x, fnd s root q = Option.some x) := by
  unfold FdPost at h; rw [if_pos h0] at h
  split at h
  · rename_i x hx
    obtain ⟨va, vc, rfl, _⟩ := h
    exact ⟨x, va, vc, 0, rfl, fun _ => ⟨x, hx⟩, fun _ => rfl⟩
  · rename_i hx
    exact ⟨⟨⟨0, 0, 0⟩, 0, []⟩, .none, 0, 6, h, fun h => absurd h (by decide), fun ⟨x, hx2⟩ => by rw [hx] at hx2; cases hx2⟩
section
variable {P : Program} {ops : Array Oper} {N : Fs} {F : Fr} {M : Mem} {L : Lc} {o : Oper}
theorem qNeB {x y : Operand} {t t' : TypeId} {a b : Bool} (hg : gd ops F o = some true) (ho : o.op = .binOp .neq t x y t') (hx : ev F x = some (.bool a)) (hy : ev F y = some (.bool b)) [ht : Und P t .bool] : QF P ops N F M L o (.bool (!(a == b))) := qf_of hg fun ac ha w _ => by
  have : (binOp .neq t (.bool a) (.bool b)).run P w = .ok (.bool (!(a == b))) w := by
    show ((do pure (.bool (!(← Op.equal t (.bool a) (.bool b)))) : Sem Value)).run P w = _
    rw [Sem.run_bind, show (Op.equal t (.bool a) (.bool b)).run P w = .ok (a == b) w from run_equalIn_bool' w 9999 t a b ht.h]; rfl
  simp only [execOp, ho, ha.ev hx, ha.ev hy]
  simp [eqGuard, this]
end

theorem flat_drop : ∀ (k : Nat) (ps : List (It × Value)), (ps.flatMap icell).drop (k * 5) = (ps.drop k).flatMap icell
  | 0, ps => by simp
  | k + 1, [] => by simp
  | k + 1, p :: ps => by
    rw [List.flatMap_cons, List.drop_succ_cons, ← flat_drop k ps, List.drop_append, List.drop_eq_nil_of_le (by rw [icell_len]; omega), List.nil_append, icell_len]
    congr 1; omega

theorem idx_of2 {k : Nat} {n : Nat} (h : (k : Int) < (n : Int)) : k < n := by omega
set_option maxHeartbeats 8000000 in
theorem wparts_walk (s : Sto) (root : Int) (a b c : Ky) (bv wv nv lw : Value) (M : Mem) (hST : ST M (.agg #[bv, wv, nv, lw]) s) :
    SpecL Try.prog 3 #[.agg #[bv, wv, nv, lw], .int .i64 root, .agg (kcells a).toArray, .agg (kcells b).toArray, .agg (kcells c).toArray] M [] fun u _ _ => u = .bool true := by
  refine spec_body (vs := [_, _, _, _, _]) 188 _ Try.func3 rfl Try.ntmps3 rfl rfl ?_; intro W
  refine jc_seq ?_
  refine jc_region ?_
  refine jl_h rfl rfl (hBox (cs := [_, _, _, _]) rfl rfl rfl rfl) ?_; rintro _ _ _ ⟨b5, rfl, rfl, rfl⟩
  refine jl_h rfl rfl (hBox (cs := [_, _, _]) rfl rfl rfl rfl) ?_; rintro _ _ _ ⟨b7, rfl, rfl, rfl⟩
  refine jl_h rfl rfl (hBox (cs := [_, _, _]) rfl rfl rfl rfl) ?_; rintro _ _ _ ⟨b8, rfl, rfl, rfl⟩
  refine jl_h rfl rfl (hBox (cs := [_, _, _]) rfl rfl rfl rfl) ?_; rintro _ _ _ ⟨b9, rfl, rfl, rfl⟩
  refine jp rfl ?_
  refine jl_nil ?_
  refine jT ?_
  refine jc_seq ?_
  refine jc_region ?_
  refine jl_h rfl rfl (hCall rfl rfl rfl rfl rfl (by kernel_rfl) (alive_spec M)) ?_; rintro _ M1 _ ⟨hLM1, _, rfl, ⟨rfl, rfl⟩⟩
  simp only [List.nil_append]
  refine jp rfl ?_
  refine jl_nil ?_
  refine jT ?_
  refine jc_seq ?_
  refine jc_seq ?_
  refine jc_region ?_
  iterate 2 refine jp rfl ?_
  refine jl_nil ?_
  refine jT ?_
  refine jc_no rfl ?_
  refine jc_skip ?_
  refine jT ?_
  refine jc_seq ?_
  refine jc_region ?_
  refine jl_q rfl rfl (qLdL rfl rfl rfl rfl rfl (by first | (simp only [Nat.reduceAdd, Nat.zero_add, Nat.add_zero, List.drop_succ_cons, List.drop_zero, List.drop_nil, List.take_succ_cons, List.take_zero, List.take_nil, List.cons_append, List.nil_append, List.append_nil, List.length_cons, List.length_nil]; done) | (simp only [Nat.reduceAdd, Nat.zero_add, Nat.add_zero, List.drop_succ_cons, List.drop_zero, List.drop_nil, List.take_succ_cons, List.take_zero, List.take_nil, List.cons_append, List.nil_append, List.append_nil, List.length_cons, List.length_nil]; rfl) | rfl)) ?_
  refine jp rfl ?_
  refine jl_q rfl rfl (qLdL rfl rfl rfl rfl rfl (by first | (simp only [Nat.reduceAdd, Nat.zero_add, Nat.add_zero, List.drop_succ_cons, List.drop_zero, List.drop_nil, List.take_succ_cons, List.take_zero, List.take_nil, List.cons_append, List.nil_append, List.append_nil, List.length_cons, List.length_nil]; done) | (simp only [Nat.reduceAdd, Nat.zero_add, Nat.add_zero, List.drop_succ_cons, List.drop_zero, List.drop_nil, List.take_succ_cons, List.take_zero, List.take_nil, List.cons_append, List.nil_append, List.append_nil, List.length_cons, List.length_nil]; rfl) | rfl)) ?_
  refine jl_q rfl rfl (qLdL rfl rfl rfl rfl rfl (by first | (simp only [Nat.reduceAdd, Nat.zero_add, Nat.add_zero, List.drop_succ_cons, List.drop_zero, List.drop_nil, List.take_succ_cons, List.take_zero, List.take_nil, List.cons_append, List.nil_append, List.append_nil, List.length_cons, List.length_nil]; done) | (simp only [Nat.reduceAdd, Nat.zero_add, Nat.add_zero, List.drop_succ_cons, List.drop_zero, List.drop_nil, List.take_succ_cons, List.take_zero, List.take_nil, List.cons_append, List.nil_append, List.append_nil, List.length_cons, List.length_nil]; rfl) | rfl)) ?_
  refine jl_h rfl rfl (hCall rfl rfl rfl rfl rfl (by kernel_rfl) (range_spec s _ root a c M1 (hST.mono hLM1))) ?_; rintro _ M2 _ ⟨hMM2, _, rfl, ⟨⟨v32, rfl, hns32⟩, rfl⟩⟩
  simp only [List.nil_append]
  have hLM2 := hLM1.trans hMM2
  obtain ⟨l, hl⟩ : ∃ l, l = (if (fchk s root).2 = 0 then rng s root a c else []) := ⟨_, rfl⟩
  rw [← hl] at hns32
  obtain ⟨la, lc, lp, rfl, lc1, ls, lp1, lb⟩ := hns32
  iterate 5 refine jp rfl ?_
  refine jl_nil ?_
  refine jT ?_
  refine jc_seq ?_
  refine jc_seq ?_
  refine jc_region ?_
  refine jl_q rfl rfl (qLdL rfl rfl rfl rfl rfl (by first | (simp only [Nat.reduceAdd, Nat.zero_add, Nat.add_zero, List.drop_succ_cons, List.drop_zero, List.drop_nil, List.take_succ_cons, List.take_zero, List.take_nil, List.cons_append, List.nil_append, List.append_nil, List.length_cons, List.length_nil]; done) | (simp only [Nat.reduceAdd, Nat.zero_add, Nat.add_zero, List.drop_succ_cons, List.drop_zero, List.drop_nil, List.take_succ_cons, List.take_zero, List.take_nil, List.cons_append, List.nil_append, List.append_nil, List.length_cons, List.length_nil]; rfl) | rfl)) ?_
  refine jl_h rfl rfl (hCall rfl rfl rfl rfl rfl (by kernel_rfl) (great_spec s _ M2 (hST.mono hLM2))) ?_; rintro _ M3 _ ⟨hM3, _, rfl, ⟨⟨bg, rfl⟩, rfl⟩⟩
  simp only [List.nil_append]
  have hLM3 := hLM2.trans hM3
  refine jsb rfl (fun h37 => ?_) (fun h37 => ?_)
  · iterate 3 refine jp rfl ?_
    refine jl_nil ?_
    refine jT ?_
    refine jc_yes rfl ?_
    refine jc_seq ?_
    refine jc_region ?_
    iterate 3 refine jp rfl ?_
    refine js rfl (fun h44 => ?_) (fun h44 => ?_)
    · iterate 7 refine jp rfl ?_
      refine jl_nil ?_
      refine jT ?_
      refine jc_ret ?_
      refine jTr ?_
      refine jr1 rfl rfl ?_
      rfl
    · iterate 2 refine jp rfl ?_
      refine jl_q rfl rfl (qLen rfl rfl rfl) ?_
      iterate 4 refine jp rfl ?_
      refine jl_nil ?_
      refine jT ?_
      refine jc_ret ?_
      refine jTr ?_
      refine jr1 rfl rfl ?_
      exact congrArg Value.bool (decide_eq_true (by rw [hl, if_neg h44]; rfl))
  · refine jp rfl ?_
    refine js rfl (fun h39 => ?_) (fun h39 => ?_)
    · refine jp rfl ?_
      refine jl_nil ?_
      refine jT ?_
      refine jc_yes rfl ?_
      refine jc_seq ?_
      refine jc_region ?_
      iterate 3 refine jp rfl ?_
      refine js rfl (fun h44 => ?_) (fun h44 => ?_)
      · exact absurd h44 h39
      · iterate 2 refine jp rfl ?_
        refine jl_q rfl rfl (qLen rfl rfl rfl) ?_
        iterate 4 refine jp rfl ?_
        refine jl_nil ?_
        refine jT ?_
        refine jc_ret ?_
        refine jTr ?_
        refine jr1 rfl rfl ?_
        exact congrArg Value.bool (decide_eq_true (by rw [hl, if_neg h44]; rfl))
    · refine jp rfl ?_
      refine jl_nil ?_
      refine jT ?_
      refine jc_no rfl ?_
      refine jc_skip ?_
      refine jT ?_
      refine jc_seq ?_
      refine jc_seq ?_
      refine jc_region ?_
      refine jl_q rfl rfl (qLdL rfl rfl rfl rfl rfl (by first | (simp only [Nat.reduceAdd, Nat.zero_add, Nat.add_zero, List.drop_succ_cons, List.drop_zero, List.drop_nil, List.take_succ_cons, List.take_zero, List.take_nil, List.cons_append, List.nil_append, List.append_nil, List.length_cons, List.length_nil]; done) | (simp only [Nat.reduceAdd, Nat.zero_add, Nat.add_zero, List.drop_succ_cons, List.drop_zero, List.drop_nil, List.take_succ_cons, List.take_zero, List.take_nil, List.cons_append, List.nil_append, List.append_nil, List.length_cons, List.length_nil]; rfl) | rfl)) ?_
      refine jl_q rfl rfl (qLdL rfl rfl rfl rfl rfl (by first | (simp only [Nat.reduceAdd, Nat.zero_add, Nat.add_zero, List.drop_succ_cons, List.drop_zero, List.drop_nil, List.take_succ_cons, List.take_zero, List.take_nil, List.cons_append, List.nil_append, List.append_nil, List.length_cons, List.length_nil]; done) | (simp only [Nat.reduceAdd, Nat.zero_add, Nat.add_zero, List.drop_succ_cons, List.drop_zero, List.drop_nil, List.take_succ_cons, List.take_zero, List.take_nil, List.cons_append, List.nil_append, List.append_nil, List.length_cons, List.length_nil]; rfl) | rfl)) ?_
      refine jl_qb rfl rfl (qCall rfl rfl rfl rfl rfl (by kernel_rfl) (less_spec b a _)) (fun h53 => ?_) (fun h53 => ?_)
      · iterate 5 refine jp rfl ?_
        refine jl_nil ?_
        refine jT ?_
        refine jc_yes rfl ?_
        refine jc_seq ?_
        refine jc_region ?_
        iterate 2 refine jp rfl ?_
        refine jl_nil ?_
        refine jT ?_
        refine jc_ret ?_
        refine jTr ?_
        refine jr1 rfl rfl ?_
        rfl
      · refine jp rfl ?_
        refine jl_q rfl rfl (qLdL rfl rfl rfl rfl rfl (by first | (simp only [Nat.reduceAdd, Nat.zero_add, Nat.add_zero, List.drop_succ_cons, List.drop_zero, List.drop_nil, List.take_succ_cons, List.take_zero, List.take_nil, List.cons_append, List.nil_append, List.append_nil, List.length_cons, List.length_nil]; done) | (simp only [Nat.reduceAdd, Nat.zero_add, Nat.add_zero, List.drop_succ_cons, List.drop_zero, List.drop_nil, List.take_succ_cons, List.take_zero, List.take_nil, List.cons_append, List.nil_append, List.append_nil, List.length_cons, List.length_nil]; rfl) | rfl)) ?_
        refine jl_q rfl rfl (qLdL rfl rfl rfl rfl rfl (by first | (simp only [Nat.reduceAdd, Nat.zero_add, Nat.add_zero, List.drop_succ_cons, List.drop_zero, List.drop_nil, List.take_succ_cons, List.take_zero, List.take_nil, List.cons_append, List.nil_append, List.append_nil, List.length_cons, List.length_nil]; done) | (simp only [Nat.reduceAdd, Nat.zero_add, Nat.add_zero, List.drop_succ_cons, List.drop_zero, List.drop_nil, List.take_succ_cons, List.take_zero, List.take_nil, List.cons_append, List.nil_append, List.append_nil, List.length_cons, List.length_nil]; rfl) | rfl)) ?_
        refine jl_qb rfl rfl (qCall rfl rfl rfl rfl rfl (by kernel_rfl) (less_spec c b _)) (fun h57 => ?_) (fun h57 => ?_)
        · refine jp rfl ?_
          refine jl_nil ?_
          refine jT ?_
          refine jc_yes rfl ?_
          refine jc_seq ?_
          refine jc_region ?_
          iterate 2 refine jp rfl ?_
          refine jl_nil ?_
          refine jT ?_
          refine jc_ret ?_
          refine jTr ?_
          refine jr1 rfl rfl ?_
          rfl
        · refine jp rfl ?_
          refine jl_nil ?_
          refine jT ?_
          refine jc_no rfl ?_
          refine jc_skip ?_
          refine jT ?_
          refine jc_seq ?_
          refine jc_region ?_
          refine jl_q rfl rfl (qLdL rfl rfl rfl rfl rfl (by first | (simp only [Nat.reduceAdd, Nat.zero_add, Nat.add_zero, List.drop_succ_cons, List.drop_zero, List.drop_nil, List.take_succ_cons, List.take_zero, List.take_nil, List.cons_append, List.nil_append, List.append_nil, List.length_cons, List.length_nil]; done) | (simp only [Nat.reduceAdd, Nat.zero_add, Nat.add_zero, List.drop_succ_cons, List.drop_zero, List.drop_nil, List.take_succ_cons, List.take_zero, List.take_nil, List.cons_append, List.nil_append, List.append_nil, List.length_cons, List.length_nil]; rfl) | rfl)) ?_
          refine jp rfl ?_
          refine jl_q rfl rfl (qLdL rfl rfl rfl rfl rfl (by first | (simp only [Nat.reduceAdd, Nat.zero_add, Nat.add_zero, List.drop_succ_cons, List.drop_zero, List.drop_nil, List.take_succ_cons, List.take_zero, List.take_nil, List.cons_append, List.nil_append, List.append_nil, List.length_cons, List.length_nil]; done) | (simp only [Nat.reduceAdd, Nat.zero_add, Nat.add_zero, List.drop_succ_cons, List.drop_zero, List.drop_nil, List.take_succ_cons, List.take_zero, List.take_nil, List.cons_append, List.nil_append, List.append_nil, List.length_cons, List.length_nil]; rfl) | rfl)) ?_
          refine jl_q rfl rfl (qLdL rfl rfl rfl rfl rfl (by first | (simp only [Nat.reduceAdd, Nat.zero_add, Nat.add_zero, List.drop_succ_cons, List.drop_zero, List.drop_nil, List.take_succ_cons, List.take_zero, List.take_nil, List.cons_append, List.nil_append, List.append_nil, List.length_cons, List.length_nil]; done) | (simp only [Nat.reduceAdd, Nat.zero_add, Nat.add_zero, List.drop_succ_cons, List.drop_zero, List.drop_nil, List.take_succ_cons, List.take_zero, List.take_nil, List.cons_append, List.nil_append, List.append_nil, List.length_cons, List.length_nil]; rfl) | rfl)) ?_
          refine jl_h rfl rfl (hCall rfl rfl rfl rfl rfl (by kernel_rfl) (range_spec s _ root a b M3 (hST.mono hLM3))) ?_; rintro _ M4 _ ⟨hMM4, _, rfl, ⟨⟨v65, rfl, hns65⟩, rfl⟩⟩
          simp only [List.nil_append]
          have hLM4 := hLM3.trans hMM4
          obtain ⟨m, hm⟩ : ∃ l, l = (if (fchk s root).2 = 0 then rng s root a b else []) := ⟨_, rfl⟩
          rw [← hm] at hns65
          obtain ⟨ma, mc, mp, rfl, mc1, ms, mp1, mb⟩ := hns65
          iterate 5 refine jp rfl ?_
          refine jl_nil ?_
          refine jT ?_
          refine jc_seq ?_
          refine jc_region ?_
          refine jl_q rfl rfl (qLdL rfl rfl rfl rfl rfl (by first | (simp only [Nat.reduceAdd, Nat.zero_add, Nat.add_zero, List.drop_succ_cons, List.drop_zero, List.drop_nil, List.take_succ_cons, List.take_zero, List.take_nil, List.cons_append, List.nil_append, List.append_nil, List.length_cons, List.length_nil]; done) | (simp only [Nat.reduceAdd, Nat.zero_add, Nat.add_zero, List.drop_succ_cons, List.drop_zero, List.drop_nil, List.take_succ_cons, List.take_zero, List.take_nil, List.cons_append, List.nil_append, List.append_nil, List.length_cons, List.length_nil]; rfl) | rfl)) ?_
          refine jp rfl ?_
          refine jl_q rfl rfl (qLdL rfl rfl rfl rfl rfl (by first | (simp only [Nat.reduceAdd, Nat.zero_add, Nat.add_zero, List.drop_succ_cons, List.drop_zero, List.drop_nil, List.take_succ_cons, List.take_zero, List.take_nil, List.cons_append, List.nil_append, List.append_nil, List.length_cons, List.length_nil]; done) | (simp only [Nat.reduceAdd, Nat.zero_add, Nat.add_zero, List.drop_succ_cons, List.drop_zero, List.drop_nil, List.take_succ_cons, List.take_zero, List.take_nil, List.cons_append, List.nil_append, List.append_nil, List.length_cons, List.length_nil]; rfl) | rfl)) ?_
          refine jl_q rfl rfl (qLdL rfl rfl rfl rfl rfl (by first | (simp only [Nat.reduceAdd, Nat.zero_add, Nat.add_zero, List.drop_succ_cons, List.drop_zero, List.drop_nil, List.take_succ_cons, List.take_zero, List.take_nil, List.cons_append, List.nil_append, List.append_nil, List.length_cons, List.length_nil]; done) | (simp only [Nat.reduceAdd, Nat.zero_add, Nat.add_zero, List.drop_succ_cons, List.drop_zero, List.drop_nil, List.take_succ_cons, List.take_zero, List.take_nil, List.cons_append, List.nil_append, List.append_nil, List.length_cons, List.length_nil]; rfl) | rfl)) ?_
          refine jl_h rfl rfl (hCall rfl rfl rfl rfl rfl (by kernel_rfl) (range_spec s _ root b c M4 (hST.mono hLM4))) ?_; rintro _ M5 _ ⟨hMM5, _, rfl, ⟨⟨v73, rfl, hns73⟩, rfl⟩⟩
          simp only [List.nil_append]
          have hLM5 := hLM4.trans hMM5
          obtain ⟨n, hn⟩ : ∃ l, l = (if (fchk s root).2 = 0 then rng s root b c else []) := ⟨_, rfl⟩
          rw [← hn] at hns73
          obtain ⟨na, nc, np, rfl, nc1, ns, np1, nb⟩ := hns73
          iterate 5 refine jp rfl ?_
          refine jl_nil ?_
          refine jT ?_
          refine jc_seq ?_
          refine jc_region ?_
          refine jl_q rfl rfl (qLdL rfl rfl rfl rfl rfl (by first | (simp only [Nat.reduceAdd, Nat.zero_add, Nat.add_zero, List.drop_succ_cons, List.drop_zero, List.drop_nil, List.take_succ_cons, List.take_zero, List.take_nil, List.cons_append, List.nil_append, List.append_nil, List.length_cons, List.length_nil]; done) | (simp only [Nat.reduceAdd, Nat.zero_add, Nat.add_zero, List.drop_succ_cons, List.drop_zero, List.drop_nil, List.take_succ_cons, List.take_zero, List.take_nil, List.cons_append, List.nil_append, List.append_nil, List.length_cons, List.length_nil]; rfl) | rfl)) ?_
          refine jp rfl ?_
          refine jl_q rfl rfl (qLdL rfl rfl rfl rfl rfl (by first | (simp only [Nat.reduceAdd, Nat.zero_add, Nat.add_zero, List.drop_succ_cons, List.drop_zero, List.drop_nil, List.take_succ_cons, List.take_zero, List.take_nil, List.cons_append, List.nil_append, List.append_nil, List.length_cons, List.length_nil]; done) | (simp only [Nat.reduceAdd, Nat.zero_add, Nat.add_zero, List.drop_succ_cons, List.drop_zero, List.drop_nil, List.take_succ_cons, List.take_zero, List.take_nil, List.cons_append, List.nil_append, List.append_nil, List.length_cons, List.length_nil]; rfl) | rfl)) ?_
          refine jl_q rfl rfl (qLdL rfl rfl rfl rfl rfl (by first | (simp only [Nat.reduceAdd, Nat.zero_add, Nat.add_zero, List.drop_succ_cons, List.drop_zero, List.drop_nil, List.take_succ_cons, List.take_zero, List.take_nil, List.cons_append, List.nil_append, List.append_nil, List.length_cons, List.length_nil]; done) | (simp only [Nat.reduceAdd, Nat.zero_add, Nat.add_zero, List.drop_succ_cons, List.drop_zero, List.drop_nil, List.take_succ_cons, List.take_zero, List.take_nil, List.cons_append, List.nil_append, List.append_nil, List.length_cons, List.length_nil]; rfl) | rfl)) ?_
          refine jl_h rfl rfl (hCall rfl rfl rfl rfl rfl (by kernel_rfl) (range_spec s _ root b b M5 (hST.mono hLM5))) ?_; rintro _ M6 _ ⟨hMM6, _, rfl, ⟨⟨v81, rfl, hns81⟩, rfl⟩⟩
          simp only [List.nil_append]
          have hLM6 := hLM5.trans hMM6
          obtain ⟨one, hone⟩ : ∃ l, l = (if (fchk s root).2 = 0 then rng s root b b else []) := ⟨_, rfl⟩
          rw [← hone] at hns81
          obtain ⟨onea, onec, onep, rfl, onec1, ones, onep1, oneb⟩ := hns81
          iterate 5 refine jp rfl ?_
          refine jl_nil ?_
          refine jT ?_
          refine jc_seq ?_
          refine jc_region ?_
          refine jl_q rfl rfl (qLdL rfl rfl rfl rfl rfl (by first | (simp only [Nat.reduceAdd, Nat.zero_add, Nat.add_zero, List.drop_succ_cons, List.drop_zero, List.drop_nil, List.take_succ_cons, List.take_zero, List.take_nil, List.cons_append, List.nil_append, List.append_nil, List.length_cons, List.length_nil]; done) | (simp only [Nat.reduceAdd, Nat.zero_add, Nat.add_zero, List.drop_succ_cons, List.drop_zero, List.drop_nil, List.take_succ_cons, List.take_zero, List.take_nil, List.cons_append, List.nil_append, List.append_nil, List.length_cons, List.length_nil]; rfl) | rfl)) ?_
          refine jp rfl ?_
          refine jl_q rfl rfl (qLdL rfl rfl rfl rfl rfl (by first | (simp only [Nat.reduceAdd, Nat.zero_add, Nat.add_zero, List.drop_succ_cons, List.drop_zero, List.drop_nil, List.take_succ_cons, List.take_zero, List.take_nil, List.cons_append, List.nil_append, List.append_nil, List.length_cons, List.length_nil]; done) | (simp only [Nat.reduceAdd, Nat.zero_add, Nat.add_zero, List.drop_succ_cons, List.drop_zero, List.drop_nil, List.take_succ_cons, List.take_zero, List.take_nil, List.cons_append, List.nil_append, List.append_nil, List.length_cons, List.length_nil]; rfl) | rfl)) ?_
          refine jl_h rfl rfl (hCall rfl rfl rfl rfl rfl (by kernel_rfl) (find_spec s _ root b M6 (hST.mono hLM6))) ?_; rintro _ M7 _ ⟨hM7, _, rfl, ⟨hfp, rfl⟩⟩
          simp only [List.nil_append]
          have hLM7 := hLM6.trans hM7
          obtain ⟨fx, fa, fc, fe, rfl, hfe⟩ := hfp.form (Classical.not_not.1 h39)
          have hok := Classical.not_not.1 h39
          have hR := rng_facts hok a c
          have hPt := rng_parts hok (a := a) (b := b) (c := c) (by simpa using h53) (by simpa using h57)
          rw [if_pos hok] at hl hm hn hone
          rw [← hl, ← hm, ← hn, ← hone] at hPt
          rw [← hl] at hR
          obtain ⟨pEq, pLen, pLe1, pOn, pFd⟩ := hPt
          have hl5 : l.length ≤ 15625 := by rw [hl]; exact rng_len hok a c
          have hm5 : m.length ≤ 15625 := by rw [hm]; exact rng_len hok a b
          have hn5 : n.length ≤ 15625 := by rw [hn]; exact rng_len hok b c
          iterate 3 refine jp rfl ?_
          refine jl_h rfl rfl (hAlloc rfl rfl) ?_; rintro _ _ _ ⟨b20, rfl, rfl, rfl⟩
          refine jl_s rfl (hStoreL rfl rfl rfl rfl rfl rfl rfl rfl (by first | (simp only [Nat.reduceAdd, Nat.zero_add, Nat.add_zero, List.drop_succ_cons, List.drop_zero, List.drop_nil, List.take_succ_cons, List.take_zero, List.take_nil, List.cons_append, List.nil_append, List.append_nil, List.length_cons, List.length_nil]; done) | (simp only [Nat.reduceAdd, Nat.zero_add, Nat.add_zero, List.drop_succ_cons, List.drop_zero, List.drop_nil, List.take_succ_cons, List.take_zero, List.take_nil, List.cons_append, List.nil_append, List.append_nil, List.length_cons, List.length_nil]; rfl) | rfl)) ?_; rintro _ _ _ ⟨rfl, rfl⟩
          refine jp rfl ?_
          refine jl_nil ?_
          refine jT ?_
          refine jc_seq ?_
          refine jc_seq ?_
          refine jc_region ?_
          refine jp rfl ?_
          refine jf rfl (decide_eq_false (by omega)) ?_
          iterate 2 refine jp rfl ?_
          refine jf rfl (decide_eq_false (by omega)) ?_
          iterate 3 refine jp rfl ?_
          refine jf rfl (decide_eq_false (by omega)) ?_
          iterate 5 refine jp rfl ?_
          refine jl_q rfl rfl (qLen rfl rfl rfl) ?_
          refine jp rfl ?_
          refine jl_q rfl rfl (qEq (qNeB rfl rfl rfl rfl) (v' := .bool false) (by have hiff : (fe = 0) ↔ ((one.length : Int) = 1) := (by rw [hfe, pFd]; omega); simp [hiff])) ?_
          iterate 3 refine jp rfl ?_
          refine jl_q rfl rfl (qLen rfl rfl rfl) ?_
          refine jf rfl (decide_eq_false (by omega)) ?_
          iterate 3 refine jp rfl ?_
          refine jl_q rfl rfl (qLen rfl rfl rfl) ?_
          refine jp rfl ?_
          refine jl_q rfl rfl (qLen rfl rfl rfl) ?_
          refine ja rfl (by omega) ?_
          refine jp rfl ?_
          refine jl_q rfl rfl (qLen rfl rfl rfl) ?_
          refine ja rfl (by omega) ?_
          refine jp rfl ?_
          refine jl_q rfl rfl (qLen rfl rfl rfl) ?_
          refine jf rfl (decide_eq_false (by omega)) ?_
          refine jp rfl ?_
          refine jl_nil ?_
          refine jT ?_
          refine jc_no rfl ?_
          refine jc_skip ?_
          refine jT ?_
          refine jc_seq ?_
          refine jc_draw [(0, true), (2, true), (3, true), (4, true), (5, true), (1, false), (6, false), (7, true)] _ (by kernel_rfl) (by kernel_rfl) (by kernel_rfl) rfl (fun _ h => h) ?_
          iterate 3 refine dp rfl rfl ?_
          refine jd_q rfl rfl rfl (qLen rfl rfl rfl) ?_
          refine jd_q rfl rfl rfl (qSl rfl rfl rfl (.no _) (.no _) (.of (v := one.length) rfl (by omega) (by omega)) (by omega) (by simp)) ?_
          have hMn7 : MLe M5 M7 := hMM6.trans hM7
          have hMm7 : MLe M4 M7 := hMM5.trans hMn7
          have hM12 : MLe M2 M7 := hM3.trans (hMM4.trans hMm7)
          refine jd_h rfl rfl rfl (hAppendM (R := []) (n := 0) (m := m.length) (news := mp.flatMap icell) rfl rfl rfl rfl (Own.nil IT 5) (by rw [flat_len icell 5 icell_len, ← mp1, List.length_map]) (ms.mono hMm7) (by rfl) (fun u hu => by obtain ⟨p, hp, hu⟩ := List.mem_flatMap.1 hu; obtain ⟨pa, pc, e, _⟩ := mb p hp; simp only [icell, e, List.mem_cons, List.not_mem_nil, or_false] at hu; rcases hu with rfl | rfl | rfl | rfl | rfl <;> rfl) (by omega) (by omega)) ?_; rintro s1 _ _ ⟨rfl, R1, rfl, hown1⟩
          refine ⟨_, _, MLe.refl _, MLe.refl _, fun _ h => h, by simp, ?_⟩
          obtain ⟨o1, p1, rfl⟩ := hown1.form
          have hdrop : SM M7 (slA na one.length nc 5) ((np.drop one.length).flatMap icell) := by
            rcases Nat.lt_or_ge one.length nc with hlt | hge
            · have := (ns.mono hMn7).part (s := 5) hlt (np.flatMap icell).length
              rw [List.take_of_length_le (by rw [List.length_drop]; omega), flat_drop] at this; exact this
            · have hnp : np.length = n.length := by rw [← np1, List.length_map]
              rw [List.drop_eq_nil_of_le (by omega)]; exact SM.nil
          refine jd_h rfl rfl rfl (hAppendM (R := R1) (m := n.length - one.length) (news := (np.drop one.length).flatMap icell) rfl rfl rfl rfl hown1 (by rw [flat_len icell 5 icell_len, List.length_drop, ← np1, List.length_map]) hdrop (by rfl) (fun u hu => by obtain ⟨p, hp, hu⟩ := List.mem_flatMap.1 hu; obtain ⟨pa, pc, e, _⟩ := nb p (List.mem_of_mem_drop hp); simp only [icell, e, List.mem_cons, List.not_mem_nil, or_false] at hu; rcases hu with rfl | rfl | rfl | rfl | rfl <;> rfl) (by omega) (by omega)) ?_; rintro s2 _ _ ⟨rfl, R2, rfl, hown2⟩
          refine ⟨_, _, MLe.refl _, MLe.refl _, fun _ h => h, by simp, ?_⟩
          obtain ⟨o2, p2, rfl⟩ := hown2.form
          have hown2 : Own (.slice o2 (0 + m.length + (n.length - one.length)) p2) R2 IT 5 (0 + m.length + (n.length - one.length)) ((mp ++ np.drop one.length).flatMap icell) := by rw [List.flatMap_append]; simpa using hown2
          have hMm8 : ∀ {M8 : Mem}, MLe M7 M8 → MLe M4 M8 := fun h => hMm7.trans h
          have hMn8 : ∀ {M8 : Mem}, MLe M7 M8 → MLe M5 M8 := fun h => hMn7.trans h
          refine dp rfl rfl ?_
          refine jd_nil ?_
          refine jPn ?_
          refine jT ?_
          refine jc_seq ?_
          refine jc_seq ?_
          refine jc_region ?_
          refine jp rfl ?_
          refine jl_nil ?_
          refine jT ?_
          refine jc_block ?_
          refine jc_own hown2 (by simp) ?_
          intro M8 a8 c8 hM8 e8 hc8 hs8
          have hLM8 := hM12.trans hM8
          obtain ⟨all, hall⟩ : ∃ all, all = m ++ n.drop one.length := ⟨_, rfl⟩
          have halle : l = all := by rw [hall]; exact pEq
          have halll : all.length = l.length := by rw [halle]
          have hap : (mp ++ np.drop one.length).map (·.1) = all := by rw [List.map_append, List.map_drop, mp1, np1, hall]
          have hab8 : ∀ p ∈ mp ++ np.drop one.length, BS M8 p.2 p.1.val := fun p hp => by
            rcases List.mem_append.1 hp with hp | hp
            · exact (mb p hp).mono (hMm8 hM8)
            · exact (nb p (List.mem_of_mem_drop hp)).mono (hMn8 hM8)
          have hlen8 : 0 + m.length + (n.length - one.length) = all.length := by rw [hall, List.length_append, List.length_drop]; omega
          rw [hlen8] at e8 hc8
          cases e8
          refine jc_loopK (α := Nat) (fun k => [(7, .pointer (some ⟨b7, 0, none⟩)), (9, .pointer (some ⟨b9, 0, none⟩)), (11, .bool true), (12, .slice la l.length lc), (22, .slice o2 all.length p2), (23, .int .i64 (k : Int))]) (fun _ => M8) (fun _ => [(b9, .cells (kcells c).toArray 31 (0, 0)), (b8, .cells (kcells b).toArray 31 (0, 0)), (b7, .cells (kcells a).toArray 31 (0, 0)), (b5, .cells [bv, wv, nv, lw].toArray TSt (0, 0))]) (fun k => k ≤ l.length) (fun k => l.length - k)
            0 (Keep.cons (t := 7) rfl (Keep.cons (t := 9) rfl (Keep.cons (t := 11) rfl (Keep.cons (t := 12) rfl (Keep.ceq (t := 22) rfl (by rw [hlen8]) (Keep.cons (t := 23) rfl Keep.nil)))))) (Nat.zero_le _) (fun _ h => h.fewer (by first | exact .refl _ | exact .cons _ (.refl _) | exact .cons _ (.cons _ (.refl _)) | simp)) ?_
          rintro k hk
          try dsimp only at hk ⊢
          refine jc_seq ?_
          refine jc_seq ?_
          refine jc_region ?_
          iterate 2 refine jp rfl ?_
          refine jl_q rfl rfl (qLen rfl rfl rfl) ?_
          refine js rfl (fun h137 => ?_) (fun h137 => ?_)
          · refine jl_nil ?_
            refine jT ?_
            refine jc_yes rfl ?_
            refine jc_skip ?_
            refine jT ?_
            refine jc_seq ?_
            refine jc_block ?_
            refine jc_seq ?_
            refine jc_draw [(0, true), (1, true), (2, true), (3, true), (4, true), (5, true), (6, true), (7, true), (8, true), (9, true), (10, true), (11, true), (12, true), (13, true), (14, true), (15, true), (16, true), (17, true), (18, true), (19, true), (20, true), (21, true), (22, true), (23, true), (24, true), (25, true), (26, true), (27, true), (28, true), (29, true), (30, true), (31, true), (32, true), (33, true), (34, true), (35, true), (36, true), (37, true), (38, true), (39, true), (40, true), (41, true), (42, true), (43, true), (44, true), (45, true), (46, true)] _ (by kernel_rfl) (by kernel_rfl) (by kernel_rfl) rfl (fun _ h => h) ?_
            iterate 2 refine dp rfl rfl ?_
            have hk1 : k < l.length := idx_of2 h137
            obtain ⟨sb, so, e0, hx⟩ := (SM.mono ls hLM8).open (by intro e; have := congrArg List.length e; rw [flat_len icell 5 icell_len, List.length_nil] at this; have h2 := congrArg List.length lp1; rw [List.length_map] at h2; omega)
            subst e0
            obtain ⟨va, vc, hcl, hvc, hvs⟩ := items_get hx lp1 (fun p hp => (lb p hp).mono hLM8) hk1
            have hk2 : k < all.length := by rw [halll]; exact hk1
            obtain ⟨tb, to_, e0, hy⟩ := hs8.open (by intro e; have := congrArg List.length e; rw [flat_len icell 5 icell_len, List.length_nil] at this; have h2 := congrArg List.length hap; rw [List.length_map] at h2; omega)
            subst e0
            obtain ⟨xa, xc, hdl, hxc, hxs⟩ := items_get hy hap hab8 hk2
            have hlk : l[k] = all[k] := by simp only [halle]
            have hlo := hR.lo k hk1
            have hhi := hR.hi k hk1
            refine jd_q rfl rfl rfl (qIdxS rfl rfl rfl rfl (by omega)) ?_
            refine jd_q rfl rfl rfl (qLdA (cs := itc l[k] va vc) rfl rfl rfl rfl rfl (fun i v hv => (hcl i v hv).cj _)) ?_
            iterate 2 refine dp rfl rfl ?_
            refine jd_q rfl rfl rfl (qIdxS rfl rfl rfl rfl (by omega)) ?_
            refine jd_q rfl rfl rfl (qLdA (cs := itc all[k] xa xc) rfl rfl rfl rfl rfl (fun i v hv => (hdl i v hv).cj _)) ?_
            refine jd_q rfl rfl rfl (qEq (qCall rfl rfl rfl rfl rfl (by kernel_rfl) (itsame_spec l[k] all[k] _ _ M8 ⟨va, vc, rfl, hvc, hvs⟩ ⟨xa, xc, rfl, hxc, hxs⟩)) (v' := .bool true) (by rw [decide_eq_true hlk])) ?_
            iterate 3 refine dp rfl rfl ?_
            refine ds rfl rfl (fun h152 => ?_) (fun h152 => ?_)
            · iterate 3 refine dp rfl rfl ?_
              refine da rfl rfl (by omega) ?_
              obtain ⟨j, hj⟩ : ∃ j, k = j + 1 := ⟨k - 1, by omega⟩
              have hj1 : j < l.length := by omega
              obtain ⟨wa, wc, hcj, -, -⟩ := items_get hx lp1 (fun p hp => (lb p hp).mono hLM8) hj1
              have hup : kless l[j].key l[k].key = true := by subst hj; exact hR.up j hk1
              refine jd_q rfl rfl rfl (qEq (qIdxS rfl rfl rfl rfl (by omega)) (v' := .pointer (some ⟨sb, so + j * 5, none⟩)) (by congr 3; omega)) ?_
              refine jd_q rfl rfl rfl (qFieldAddr rfl rfl rfl rfl rfl) ?_
              refine jd_q rfl rfl rfl (qLdA (cs := kcells l[j].key) rfl rfl rfl rfl rfl (fun i v hv => (hcj i v (by match i, hv with | 0, hv => simpa [kcells] using hv | 1, hv => simpa [kcells] using hv | 2, hv => simpa [kcells] using hv | n + 3, hv => simp [kcells] at hv)).cj _)) ?_
              iterate 2 refine dp rfl rfl ?_
              refine jd_q rfl rfl rfl (qIdxS rfl rfl rfl rfl (by omega)) ?_
              refine jd_q rfl rfl rfl (qFieldAddr rfl rfl rfl rfl rfl) ?_
              refine jd_q rfl rfl rfl (qLdA (cs := kcells l[k].key) rfl rfl rfl rfl rfl (fun i v hv => (hcl i v (by match i, hv with | 0, hv => simpa [kcells] using hv | 1, hv => simpa [kcells] using hv | 2, hv => simpa [kcells] using hv | n + 3, hv => simp [kcells] at hv)).cj _)) ?_
              refine jd_q rfl rfl rfl (qEq (qCall rfl rfl rfl rfl rfl (by kernel_rfl) (less_spec l[j].key l[k].key _)) (v' := .bool true) (by rw [hup])) ?_
              iterate 6 refine dp rfl rfl ?_
              refine jd_q rfl rfl rfl (qIdxS rfl rfl rfl rfl (by omega)) ?_
              refine jd_q rfl rfl rfl (qFieldAddr rfl rfl rfl rfl rfl) ?_
              refine jd_q rfl rfl rfl (qLdA (cs := kcells l[k].key) rfl rfl rfl rfl rfl (fun i v hv => (hcl i v (by match i, hv with | 0, hv => simpa [kcells] using hv | 1, hv => simpa [kcells] using hv | 2, hv => simpa [kcells] using hv | n + 3, hv => simp [kcells] at hv)).cj _)) ?_
              refine jd_q rfl rfl rfl (qLdL rfl rfl rfl rfl rfl (by first | (simp only [Nat.reduceAdd, Nat.zero_add, Nat.add_zero, List.drop_succ_cons, List.drop_zero, List.drop_nil, List.take_succ_cons, List.take_zero, List.take_nil, List.cons_append, List.nil_append, List.append_nil, List.length_cons, List.length_nil]; done) | (simp only [Nat.reduceAdd, Nat.zero_add, Nat.add_zero, List.drop_succ_cons, List.drop_zero, List.drop_nil, List.take_succ_cons, List.take_zero, List.take_nil, List.cons_append, List.nil_append, List.append_nil, List.length_cons, List.length_nil]; rfl) | rfl)) ?_
              refine jd_q rfl rfl rfl (qEq (qCall rfl rfl rfl rfl rfl (by kernel_rfl) (less_spec l[k].key a _)) (v' := .bool false) (by rw [hlo])) ?_
              iterate 2 refine dp rfl rfl ?_
              refine jd_q rfl rfl rfl (qLdL rfl rfl rfl rfl rfl (by first | (simp only [Nat.reduceAdd, Nat.zero_add, Nat.add_zero, List.drop_succ_cons, List.drop_zero, List.drop_nil, List.take_succ_cons, List.take_zero, List.take_nil, List.cons_append, List.nil_append, List.append_nil, List.length_cons, List.length_nil]; done) | (simp only [Nat.reduceAdd, Nat.zero_add, Nat.add_zero, List.drop_succ_cons, List.drop_zero, List.drop_nil, List.take_succ_cons, List.take_zero, List.take_nil, List.cons_append, List.nil_append, List.append_nil, List.length_cons, List.length_nil]; rfl) | rfl)) ?_
              iterate 2 refine dp rfl rfl ?_
              refine jd_q rfl rfl rfl (qIdxS rfl rfl rfl rfl (by omega)) ?_
              refine jd_q rfl rfl rfl (qFieldAddr rfl rfl rfl rfl rfl) ?_
              refine jd_q rfl rfl rfl (qLdA (cs := kcells l[k].key) rfl rfl rfl rfl rfl (fun i v hv => (hcl i v (by match i, hv with | 0, hv => simpa [kcells] using hv | 1, hv => simpa [kcells] using hv | 2, hv => simpa [kcells] using hv | n + 3, hv => simp [kcells] at hv)).cj _)) ?_
              refine jd_q rfl rfl rfl (qEq (qCall rfl rfl rfl rfl rfl (by kernel_rfl) (less_spec c l[k].key _)) (v' := .bool false) (by rw [hhi])) ?_
              refine dp rfl rfl ?_
              refine jd_nil ?_
              refine jPn ?_
              refine jT ?_
              refine jc_no rfl ?_
              refine jc_skip ?_
              refine jB ?_
              refine jT ?_
              refine jc_region ?_
              refine jp rfl ?_
              refine ja rfl (by omega) ?_
              refine jp rfl ?_
              refine jl_nil ?_
              refine j_again (k + 1) (Keep.cons (t := 7) rfl (Keep.cons (t := 9) rfl (Keep.cons (t := 11) rfl (Keep.cons (t := 12) rfl (Keep.cons (t := 22) rfl (Keep.cons (t := 23) rfl Keep.nil)))))) (by show k + 1 ≤ l.length; omega) (by show l.length - (k + 1) < l.length - k; omega) (fun _ h => h.fewer (by simp))
            · iterate 19 refine dp rfl rfl ?_
              refine jd_q rfl rfl rfl (qIdxS rfl rfl rfl rfl (by omega)) ?_
              refine jd_q rfl rfl rfl (qFieldAddr rfl rfl rfl rfl rfl) ?_
              refine jd_q rfl rfl rfl (qLdA (cs := kcells l[k].key) rfl rfl rfl rfl rfl (fun i v hv => (hcl i v (by match i, hv with | 0, hv => simpa [kcells] using hv | 1, hv => simpa [kcells] using hv | 2, hv => simpa [kcells] using hv | n + 3, hv => simp [kcells] at hv)).cj _)) ?_
              refine jd_q rfl rfl rfl (qLdL rfl rfl rfl rfl rfl (by first | (simp only [Nat.reduceAdd, Nat.zero_add, Nat.add_zero, List.drop_succ_cons, List.drop_zero, List.drop_nil, List.take_succ_cons, List.take_zero, List.take_nil, List.cons_append, List.nil_append, List.append_nil, List.length_cons, List.length_nil]; done) | (simp only [Nat.reduceAdd, Nat.zero_add, Nat.add_zero, List.drop_succ_cons, List.drop_zero, List.drop_nil, List.take_succ_cons, List.take_zero, List.take_nil, List.cons_append, List.nil_append, List.append_nil, List.length_cons, List.length_nil]; rfl) | rfl)) ?_
              refine jd_q rfl rfl rfl (qEq (qCall rfl rfl rfl rfl rfl (by kernel_rfl) (less_spec l[k].key a _)) (v' := .bool false) (by rw [hlo])) ?_
              iterate 2 refine dp rfl rfl ?_
              refine jd_q rfl rfl rfl (qLdL rfl rfl rfl rfl rfl (by first | (simp only [Nat.reduceAdd, Nat.zero_add, Nat.add_zero, List.drop_succ_cons, List.drop_zero, List.drop_nil, List.take_succ_cons, List.take_zero, List.take_nil, List.cons_append, List.nil_append, List.append_nil, List.length_cons, List.length_nil]; done) | (simp only [Nat.reduceAdd, Nat.zero_add, Nat.add_zero, List.drop_succ_cons, List.drop_zero, List.drop_nil, List.take_succ_cons, List.take_zero, List.take_nil, List.cons_append, List.nil_append, List.append_nil, List.length_cons, List.length_nil]; rfl) | rfl)) ?_
              iterate 2 refine dp rfl rfl ?_
              refine jd_q rfl rfl rfl (qIdxS rfl rfl rfl rfl (by omega)) ?_
              refine jd_q rfl rfl rfl (qFieldAddr rfl rfl rfl rfl rfl) ?_
              refine jd_q rfl rfl rfl (qLdA (cs := kcells l[k].key) rfl rfl rfl rfl rfl (fun i v hv => (hcl i v (by match i, hv with | 0, hv => simpa [kcells] using hv | 1, hv => simpa [kcells] using hv | 2, hv => simpa [kcells] using hv | n + 3, hv => simp [kcells] at hv)).cj _)) ?_
              refine jd_q rfl rfl rfl (qEq (qCall rfl rfl rfl rfl rfl (by kernel_rfl) (less_spec c l[k].key _)) (v' := .bool false) (by rw [hhi])) ?_
              refine dp rfl rfl ?_
              refine jd_nil ?_
              refine jPn ?_
              refine jT ?_
              refine jc_no rfl ?_
              refine jc_skip ?_
              refine jB ?_
              refine jT ?_
              refine jc_region ?_
              refine jp rfl ?_
              refine ja rfl (by omega) ?_
              refine jp rfl ?_
              refine jl_nil ?_
              refine j_again (k + 1) (Keep.cons (t := 7) rfl (Keep.cons (t := 9) rfl (Keep.cons (t := 11) rfl (Keep.cons (t := 12) rfl (Keep.cons (t := 22) rfl (Keep.cons (t := 23) rfl Keep.nil)))))) (by show k + 1 ≤ l.length; omega) (by show l.length - (k + 1) < l.length - k; omega) (fun _ h => h.fewer (by simp))
          · refine jl_nil ?_
            refine jT ?_
            refine jc_no rfl ?_
            refine jc_exit ?_
            refine jTx ?_
            refine jTx ?_
            refine jBx ?_
            refine jT ?_
            refine jc_seq ?_
            refine jc_region ?_
            iterate 2 refine jp rfl ?_
            refine jl_nil ?_
            refine jT ?_
            refine jc_ret ?_
            refine jr1 rfl rfl ?_
            rfl

end Go.Proofs.Ytjibkdpeijcnkaa
