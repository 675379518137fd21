/- WalkNodes' function is walked. -/
import Derived.Test.YtjibkdpeijcnkaaWider
import Derived.Test.YtjibkdpeijcnkaaRoom
namespace Go.Proofs.Ytjibkdpeijcnkaa
set_option linter.unusedVariables false
set_option linter.unusedSimpArgs false
open Go.RowKit

/-! ### arrays of truths -/
theorem set_eq {bs : List Bool} {i : Nat} {v : Bool} (h : i < bs.length) : (bs.map Value.bool).take i ++ [Value.bool v] ++ (bs.map Value.bool).drop (i + 1) = (bs.set i v).map Value.bool := by
  rw [List.map_set, List.set_eq_take_append_cons_drop, if_pos (by simpa using h)]; simp
section
variable {P : Program} {ops : Array Oper} {N : Fs} {F : Fr} {E : Ent} {M : Mem} {L : Lc} {o : Oper}
theorem hSetB {t e : TypeId} {x y : Operand} {b i by_ : Nat} {bs : List Bool} {v : Bool} {L' : Lc} {z : List Value} (hg : gd ops F o = some true) (ho : o.op = .store t x y) (hx : ev F x = some (.pointer (some ⟨b, i, none⟩))) (hy : ev F y = some (.bool v))
    [hl : Lay P t 1 by_ z] [at_ : At b (.cells (bs.map Value.bool).toArray e (0, 0)) L] (hfit : i < bs.length)
    [hp : PutAt b (.cells (bs.map Value.bool).toArray e (0, 0)) (.cells ((bs.set i v).map Value.bool).toArray e (0, 0)) L L'] :
    HF P ops N F E M L o (fun _ M' L'' => M = M' ∧ L'' = L') := by
  have hp' : PutAt b (.cells (bs.map Value.bool).toArray e (0, 0)) (.cells ((bs.map Value.bool).take i ++ [Value.bool v] ++ (bs.map Value.bool).drop (i + [Value.bool v].length)).toArray e (0, 0)) L L' := by
    rw [show i + [Value.bool v].length = i + 1 from rfl, set_eq hfit]; exact hp
  exact hStore (hp := hp') hg ho hx hy rfl rfl (fun u hu => by rw [List.mem_singleton.1 hu]; rfl) (by simp; omega)
end
theorem bcj {M : Mem} {L : Lc} {b i : Nat} {bs : List Bool} {e : TypeId} {v : Bool} [h : At b (.cells (bs.map Value.bool).toArray e (0, 0)) L] (hv : bs[i]? = some v) : CJ M L b i (.bool v) :=
  CJ.loc (l := bs.map Value.bool) (by simp [hv])
theorem set_more {bs : List Bool} {xs : List Int} {x : Int} (hb : bs.length = 256) (h : ∀ y ∈ xs, bs[y.toNat]? = some true) (hx : 0 ≤ x ∧ x < 256) : ∀ y ∈ xs ++ [x], (bs.set x.toNat true)[y.toNat]? = some true := fun y hy => by
  rw [List.getElem?_set]
  split
  · rename_i e; rw [if_pos (by omega)]
  · rename_i e
    rcases List.mem_append.1 hy with hy | hy
    · exact h y hy
    · exact absurd (by rw [List.mem_singleton.1 hy]) e
theorem repl_map : (List.replicate 256 (Value.bool false)) = (List.replicate 256 false).map Value.bool := by rw [List.map_replicate]
/-- a node that is reached is read -/
theorem NdsOk.read {s : Sto} {root : Int} {ns rs : List Int} (h : NdsOk s root.toNat ns rs) (hok : (fchk s root).2 = 0) {x : Int} (hx : x ∈ ns) : askE s x = 0 ∧ ∃ (lev : Nat) (ys : List It), ndAt s x.toNat = some ((lev : Int), ys) ∧ (∀ y ∈ ys, (0 < (lev : Int) → y.ref ∈ ns) ∧ ((lev : Int) = 0 → y.ref ≠ 0 → y.ref ∈ rs)) := by
  obtain ⟨hst, h8, h256, hnz, lev, xs, hnd, htr, _⟩ := fchk_ok hok
  have h0 : 8 ≤ root.toNat ∧ root.toNat < 256 := by omega
  obtain ⟨n, rfl, hr⟩ := (h.is x).1 hx
  obtain ⟨hb, l, ys, hy, ht⟩ := Rch.tree h0 hnd htr hr
  refine ⟨ask_yes hst (by omega) (by rw [Int.toNat_natCast]; exact Rch.now h0 hnd htr hr), l, ys, by rw [Int.toNat_natCast]; exact hy, fun y hym => ⟨fun hl => ?_, fun hl hn => ?_⟩⟩
  · have h1 := (ndAt_ok hy).up hl y hym
    have h2 := (ndAt_ok hy).ref y hym
    exact (h.is y.ref).2 ⟨y.ref.toNat, by omega, .kid hr hy hl hym⟩
  · exact (h.ris y.ref).2 ⟨hn, n, ys, y, hr, by rw [hy, hl], hym, rfl⟩
theorem RnPost.node {s : Sto} {k : Int} {u : Value} {M' : Mem} {lev : Nat} {xs : List It} (h : RnPost s k u M') (h0 : askE s k = 0) (hnd : ndAt s k.toNat = some ((lev : Int), xs)) : ∃ sl, u = .tuple #[.agg #[.int .i64 (lev : Int), sl], .int .i64 0] ∧ NS M' sl xs := by
  unfold RnPost at h; rw [if_pos h0] at h; unfold BnPost at h; rw [hnd] at h; exact h

set_option maxHeartbeats 8000000 in
theorem wnodes_walk (s : Sto) (root : Int) (bv wv nv lw : Value) (M : Mem) (hST : ST M (.agg #[bv, wv, nv, lw]) s) :
    SpecL Try.prog 7 #[.agg #[bv, wv, nv, lw], .int .i64 root] M [] fun u _ _ => u = .bool true := by
  obtain ⟨bv2, wv2, nv2, lw2, e0, g1, g2, g3, g4⟩ := hST.ex
  simp only [Value.agg.injEq, Array.mk.injEq, List.cons.injEq, and_true] at e0
  obtain ⟨rfl, rfl, rfl, rfl⟩ := e0
  obtain ⟨na, nc, rfl, hnc, hns⟩ := g3
  refine spec_body (vs := [_, _]) 196 _ Try.func7 rfl Try.ntmps7 rfl rfl ?_; intro W
  refine jc_seq ?_
  refine jc_region ?_
  refine jl_h rfl rfl (hBox (cs := [_, _, _, _]) rfl rfl rfl rfl) ?_; rintro _ _ _ ⟨b2, rfl, rfl, rfl⟩
  refine jp rfl ?_
  refine jl_nil ?_
  refine jT ?_
  refine jc_seq ?_
  refine jc_region ?_
  refine jl_h rfl rfl (hCall rfl rfl rfl rfl rfl (by kernel_rfl) (alive_spec M)) ?_; rintro _ M1 _ ⟨hLM1, _, rfl, ⟨rfl, rfl⟩⟩
  simp only [List.nil_append]
  refine jp rfl ?_
  refine jl_nil ?_
  refine jT ?_
  refine jc_seq ?_
  refine jc_seq ?_
  refine jc_region ?_
  iterate 2 refine jp rfl ?_
  refine jl_nil ?_
  refine jT ?_
  refine jc_no rfl ?_
  refine jc_skip ?_
  refine jT ?_
  refine jc_seq ?_
  refine jc_region ?_
  refine jl_q rfl rfl (qLdL rfl rfl rfl rfl rfl (by first | (simp only [Nat.reduceAdd, Nat.zero_add, Nat.add_zero, List.drop_succ_cons, List.drop_zero, List.drop_nil, List.take_succ_cons, List.take_zero, List.take_nil, List.cons_append, List.nil_append, List.append_nil, List.length_cons, List.length_nil]; done) | (simp only [Nat.reduceAdd, Nat.zero_add, Nat.add_zero, List.drop_succ_cons, List.drop_zero, List.drop_nil, List.take_succ_cons, List.take_zero, List.take_nil, List.cons_append, List.nil_append, List.append_nil, List.length_cons, List.length_nil]; rfl) | rfl)) ?_
  refine jp rfl ?_
  refine jl_h rfl rfl (hCall rfl rfl rfl rfl rfl (by kernel_rfl) (nodes_spec s _ root M1 (hST.mono hLM1))) ?_; rintro _ M2 _ ⟨hMM2, _, rfl, ⟨hnp, rfl⟩⟩
  simp only [List.nil_append]
  have hLM2 := hLM1.trans hMM2
  obtain ⟨a1, n1, c1, a2, n2, c2, rfl, hn1, hn2, hyes, hno⟩ := hnp.form
  iterate 7 refine jp rfl ?_
  refine jl_nil ?_
  refine jT ?_
  refine jc_seq ?_
  refine jc_seq ?_
  refine jc_region ?_
  refine jl_q rfl rfl (qLdL rfl rfl rfl rfl rfl (by first | (simp only [Nat.reduceAdd, Nat.zero_add, Nat.add_zero, List.drop_succ_cons, List.drop_zero, List.drop_nil, List.take_succ_cons, List.take_zero, List.take_nil, List.cons_append, List.nil_append, List.append_nil, List.length_cons, List.length_nil]; done) | (simp only [Nat.reduceAdd, Nat.zero_add, Nat.add_zero, List.drop_succ_cons, List.drop_zero, List.drop_nil, List.take_succ_cons, List.take_zero, List.take_nil, List.cons_append, List.nil_append, List.append_nil, List.length_cons, List.length_nil]; rfl) | rfl)) ?_
  refine jl_h rfl rfl (hCall rfl rfl rfl rfl rfl (by kernel_rfl) (great_spec s _ M2 (hST.mono hLM2))) ?_; rintro _ M3 _ ⟨hMM3, _, rfl, ⟨⟨bg, rfl⟩, rfl⟩⟩
  simp only [List.nil_append]
  have hLM3 := hLM2.trans hMM3
  refine jsb rfl (fun h30 => ?_) (fun h30 => ?_)
  · iterate 3 refine jp rfl ?_
    refine jl_nil ?_
    refine jT ?_
    refine jc_yes rfl ?_
    refine jc_seq ?_
    refine jc_region ?_
    iterate 3 refine jp rfl ?_
    refine js rfl (fun h37 => ?_) (fun h37 => ?_)
    · iterate 10 refine jp rfl ?_
      refine jl_nil ?_
      refine jT ?_
      refine jc_ret ?_
      refine jTr ?_
      refine jr1 rfl rfl ?_
      first | rfl | exact congrArg Value.bool (decide_eq_true (by omega))
    · iterate 2 refine jp rfl ?_
      refine jl_q rfl rfl (qLen rfl rfl rfl) ?_
      refine jp rfl ?_
      refine jl_q rfl rfl (qLen rfl rfl rfl) ?_
      refine ja rfl (by omega) ?_
      iterate 4 refine jp rfl ?_
      refine jl_nil ?_
      refine jT ?_
      refine jc_ret ?_
      refine jTr ?_
      refine jr1 rfl rfl ?_
      first | rfl | exact congrArg Value.bool (decide_eq_true (by omega))
  · refine jp rfl ?_
    refine js rfl (fun h32 => ?_) (fun h32 => ?_)
    · refine jp rfl ?_
      refine jl_nil ?_
      refine jT ?_
      refine jc_yes rfl ?_
      refine jc_seq ?_
      refine jc_region ?_
      iterate 3 refine jp rfl ?_
      refine js rfl (fun h37 => ?_) (fun h37 => ?_)
      · iterate 10 refine jp rfl ?_
        refine jl_nil ?_
        refine jT ?_
        refine jc_ret ?_
        refine jTr ?_
        refine jr1 rfl rfl ?_
        first | rfl | exact congrArg Value.bool (decide_eq_true (by omega))
      · iterate 2 refine jp rfl ?_
        refine jl_q rfl rfl (qLen rfl rfl rfl) ?_
        refine jp rfl ?_
        refine jl_q rfl rfl (qLen rfl rfl rfl) ?_
        refine ja rfl (by omega) ?_
        iterate 4 refine jp rfl ?_
        refine jl_nil ?_
        refine jT ?_
        refine jc_ret ?_
        refine jTr ?_
        refine jr1 rfl rfl ?_
        first | rfl | exact congrArg Value.bool (decide_eq_true (by omega))
    · refine jp rfl ?_
      refine jl_nil ?_
      refine jT ?_
      refine jc_no rfl ?_
      refine jc_skip ?_
      refine jT ?_
      refine jc_seq ?_
      refine jc_region ?_
      refine jl_h rfl rfl (hAlloc rfl rfl) ?_; rintro _ _ _ ⟨b9, rfl, rfl, rfl⟩
      refine jl_h rfl rfl (hAlloc rfl rfl) ?_; rintro _ _ _ ⟨b10, rfl, rfl, rfl⟩
      refine jl_nil ?_
      refine jT ?_
      refine jc_seq ?_
      refine jc_seq ?_
      refine jc_region ?_
      refine jp rfl ?_
      refine jl_nil ?_
      refine jT ?_
      refine jc_block ?_
      have hok : (fchk s root).2 = 0 := Classical.not_not.1 h32
      obtain ⟨ns, rs, rfl, rfl, hs1, hs2, hnd⟩ := hyes hok
      have hna := hnd.all hok
      have hnl := hna.nlen
      have hrl := hna.rlen
      have hn256 : s.now.length = 256 := (fchk_ok hok).1.2.1.1
      obtain ⟨nb, no, e0, hnx⟩ := (SM.mono hns hLM3).open (by intro e; have := congrArg List.length e; rw [bcells_len, List.length_nil] at this; omega)
      subst e0
      obtain ⟨sb, so, e0, hx⟩ := (SM.mono hs1 hMM3).open (by intro e; have := congrArg List.length e; rw [List.length_map, List.length_nil] at this; have h2 := List.length_pos_of_mem hna.root; omega)
      subst e0
      replace hs2 := SM.mono hs2 hMM3
      rw [repl_map]
      refine jc_loopK (α := Nat × List Bool) (fun x => [(1, .int .i64 root), (2, .pointer (some ⟨b2, 0, none⟩)), (5, .bool true), (6, .slice (some ⟨sb, so, none⟩) ns.length c1), (7, .slice a2 rs.length c2), (9, .pointer (some ⟨b9, 0, none⟩)), (10, .pointer (some ⟨b10, 0, none⟩)), (11, .int .i64 (x.1 : Int))]) (fun _ => M3) (fun x => [(b10, .cells ((List.replicate 256 false).map Value.bool).toArray 53 (0, 0)), (b9, .cells (x.2.map Value.bool).toArray 53 (0, 0)), (b2, .cells [bv, wv, .slice (some ⟨nb, no, none⟩) s.now.length nc, lw].toArray TSt (0, 0))]) (fun x => x.1 ≤ ns.length ∧ x.2.length = 256 ∧ ∀ y ∈ ns.take x.1, x.2[y.toNat]? = some true) (fun x => ns.length - x.1)
        (0, List.replicate 256 false) (Keep.cons (t := 1) rfl (Keep.cons (t := 2) rfl (Keep.cons (t := 5) rfl (Keep.cons (t := 6) rfl (Keep.cons (t := 7) rfl (Keep.cons (t := 9) rfl (Keep.cons (t := 10) rfl (Keep.cons (t := 11) rfl Keep.nil)))))))) ⟨Nat.zero_le _, List.length_replicate, fun y hy => by simp at hy⟩ (fun _ h => h) ?_
      rintro ⟨i, bs⟩ ⟨hi, hbl, hbs⟩
      try dsimp only at hi hbl hbs ⊢
      refine jc_seq ?_
      refine jc_seq ?_
      refine jc_region ?_
      iterate 2 refine jp rfl ?_
      refine jl_q rfl rfl (qLen rfl rfl rfl) ?_
      refine js rfl (fun h50 => ?_) (fun h50 => ?_)
      · refine jl_nil ?_
        refine jT ?_
        refine jc_yes rfl ?_
        refine jc_skip ?_
        refine jT ?_
        refine jc_seq ?_
        refine jc_block ?_
        refine jc_seq ?_
        refine jc_seq ?_
        refine jc_draw [(0, true), (1, true), (2, true), (3, true), (4, true), (5, true), (6, true), (7, true), (8, true), (9, true), (10, true), (11, true), (12, true), (13, true), (14, true), (15, true), (16, true), (17, true), (18, true), (19, true), (20, true), (21, true), (22, true), (23, true), (24, true), (25, true), (26, true), (27, true)] _ (by kernel_rfl) (by kernel_rfl) (by kernel_rfl) rfl (fun _ h => h) ?_
        iterate 2 refine dp rfl rfl ?_
        have hi1 : i < ns.length := idx_of3 h50
        have hin := hna.node i hi1
        refine jd_q rfl rfl rfl (qEq (qIdxS rfl rfl rfl rfl (by omega)) (v' := .pointer (some ⟨sb, so + i, none⟩)) (by congr 3; omega)) ?_
        refine jd_q rfl rfl rfl (qLd (v := .int .i64 ns[i]) rfl rfl rfl rfl ((hx i _ (by simp [encZ])).cj _)) ?_
        refine df rfl rfl (decide_eq_false (by omega)) ?_
        iterate 3 refine dp rfl rfl ?_
        refine jd_q rfl rfl rfl (qEq (qIdxS rfl rfl rfl rfl (by omega)) (v' := .pointer (some ⟨sb, so + i, none⟩)) (by congr 3; omega)) ?_
        refine jd_q rfl rfl rfl (qLd (v := .int .i64 ns[i]) rfl rfl rfl rfl ((hx i _ (by simp [encZ])).cj _)) ?_
        refine df rfl rfl (decide_eq_false (by omega)) ?_
        iterate 3 refine dp rfl rfl ?_
        refine ds rfl rfl (fun h67 => ?_) (fun h67 => ?_)
        · iterate 3 refine dp rfl rfl ?_
          obtain ⟨j, hj⟩ : ∃ j, i = j + 1 := ⟨i - 1, by omega⟩
          have hup : ns[j] < ns[i] := by subst hj; exact hna.nup j hi1
          refine jd_q rfl rfl rfl (qEq (qIdxS rfl rfl rfl rfl (by omega)) (v' := .pointer (some ⟨sb, so + i, none⟩)) (by congr 3; omega)) ?_
          refine jd_q rfl rfl rfl (qLd (v := .int .i64 ns[i]) rfl rfl rfl rfl ((hx i _ (by simp [encZ])).cj _)) ?_
          iterate 2 refine dp rfl rfl ?_
          refine da rfl rfl (by omega) ?_
          refine jd_q rfl rfl rfl (qEq (qIdxS rfl rfl rfl rfl (by omega)) (v' := .pointer (some ⟨sb, so + j, none⟩)) (by congr 3; omega)) ?_
          refine jd_q rfl rfl rfl (qLd (v := .int .i64 ns[j]) rfl rfl rfl rfl ((hx j _ (by simp [encZ])).cj _)) ?_
          refine df rfl rfl (decide_eq_false (by omega)) ?_
          iterate 2 refine dp rfl rfl ?_
          refine jd_nil ?_
          refine jPn ?_
          refine jT ?_
          refine jc_no rfl ?_
          refine jc_skip ?_
          refine jT ?_
          refine jc_region ?_
          iterate 2 refine jp rfl ?_
          have hi1 : i < ns.length := idx_of3 h50
          have hin := hna.node i hi1
          refine jl_q rfl rfl (qEq (qIdxS rfl rfl rfl rfl (by omega)) (v' := .pointer (some ⟨sb, so + i, none⟩)) (by congr 3; omega)) ?_
          refine jl_q rfl rfl (qLd (v := .int .i64 ns[i]) rfl rfl rfl rfl ((hx i _ (by simp [encZ])).cj _)) ?_
          refine jl_q rfl rfl (qEq (qIdxA rfl rfl rfl rfl (by omega)) (v' := .pointer (some ⟨b9, ns[i].toNat, none⟩)) (by congr 3; omega)) ?_
          refine jl_s rfl (hSetB rfl rfl rfl rfl (by omega)) ?_; rintro _ _ _ ⟨rfl, rfl⟩
          refine jl_nil ?_
          refine jB ?_
          refine jT ?_
          refine jc_region ?_
          refine jp rfl ?_
          refine ja rfl (by omega) ?_
          refine jp rfl ?_
          refine jl_nil ?_
          refine j_again (i + 1, bs.set ns[i].toNat true) (Keep.cons (t := 1) rfl (Keep.cons (t := 2) rfl (Keep.cons (t := 5) rfl (Keep.cons (t := 6) rfl (Keep.cons (t := 7) rfl (Keep.cons (t := 9) rfl (Keep.cons (t := 10) rfl (Keep.cons (t := 11) rfl Keep.nil)))))))) ⟨by show i + 1 ≤ ns.length; omega, by show (bs.set _ _).length = 256; rw [List.length_set]; exact hbl, ?_⟩ (by show ns.length - (i + 1) < ns.length - i; omega) (fun _ h => h)
          show ∀ y ∈ ns.take (i + 1), _
          rw [show ns.take (i + 1) = ns.take i ++ [ns[i]] from List.take_succ_eq_append_getElem hi1]
          exact set_more hbl hbs (by omega)
        · iterate 13 refine dp rfl rfl ?_
          refine jd_nil ?_
          refine jPn ?_
          refine jT ?_
          refine jc_no rfl ?_
          refine jc_skip ?_
          refine jT ?_
          refine jc_region ?_
          iterate 2 refine jp rfl ?_
          have hi1 : i < ns.length := idx_of3 h50
          have hin := hna.node i hi1
          refine jl_q rfl rfl (qEq (qIdxS rfl rfl rfl rfl (by omega)) (v' := .pointer (some ⟨sb, so + i, none⟩)) (by congr 3; omega)) ?_
          refine jl_q rfl rfl (qLd (v := .int .i64 ns[i]) rfl rfl rfl rfl ((hx i _ (by simp [encZ])).cj _)) ?_
          refine jl_q rfl rfl (qEq (qIdxA rfl rfl rfl rfl (by omega)) (v' := .pointer (some ⟨b9, ns[i].toNat, none⟩)) (by congr 3; omega)) ?_
          refine jl_s rfl (hSetB rfl rfl rfl rfl (by omega)) ?_; rintro _ _ _ ⟨rfl, rfl⟩
          refine jl_nil ?_
          refine jB ?_
          refine jT ?_
          refine jc_region ?_
          refine jp rfl ?_
          refine ja rfl (by omega) ?_
          refine jp rfl ?_
          refine jl_nil ?_
          refine j_again (i + 1, bs.set ns[i].toNat true) (Keep.cons (t := 1) rfl (Keep.cons (t := 2) rfl (Keep.cons (t := 5) rfl (Keep.cons (t := 6) rfl (Keep.cons (t := 7) rfl (Keep.cons (t := 9) rfl (Keep.cons (t := 10) rfl (Keep.cons (t := 11) rfl Keep.nil)))))))) ⟨by show i + 1 ≤ ns.length; omega, by show (bs.set _ _).length = 256; rw [List.length_set]; exact hbl, ?_⟩ (by show ns.length - (i + 1) < ns.length - i; omega) (fun _ h => h)
          show ∀ y ∈ ns.take (i + 1), _
          rw [show ns.take (i + 1) = ns.take i ++ [ns[i]] from List.take_succ_eq_append_getElem hi1]
          exact set_more hbl hbs (by omega)
      · refine jl_nil ?_
        refine jT ?_
        refine jc_no rfl ?_
        refine jc_exit ?_
        refine jTx ?_
        refine jTx ?_
        refine jBx ?_
        refine jT ?_
        refine jc_seq ?_
        refine jc_seq ?_
        refine jc_region ?_
        refine jp rfl ?_
        refine jl_nil ?_
        refine jT ?_
        refine jc_block ?_
        rw [List.take_of_length_le (show ns.length ≤ i by omega)] at hbs
        refine jc_loopK (α := Nat × List Bool) (fun x => [(1, .int .i64 root), (2, .pointer (some ⟨b2, 0, none⟩)), (5, .bool true), (6, .slice (some ⟨sb, so, none⟩) ns.length c1), (7, .slice a2 rs.length c2), (9, .pointer (some ⟨b9, 0, none⟩)), (10, .pointer (some ⟨b10, 0, none⟩)), (12, .int .i64 (x.1 : Int))]) (fun _ => M3) (fun x => [(b10, .cells (x.2.map Value.bool).toArray 53 (0, 0)), (b9, .cells (bs.map Value.bool).toArray 53 (0, 0)), (b2, .cells [bv, wv, .slice (some ⟨nb, no, none⟩) s.now.length nc, lw].toArray TSt (0, 0))]) (fun x => x.1 ≤ rs.length ∧ x.2.length = 256 ∧ ∀ y ∈ rs.take x.1, x.2[y.toNat]? = some true) (fun x => rs.length - x.1)
          (0, List.replicate 256 false) (Keep.cons (t := 1) rfl (Keep.cons (t := 2) rfl (Keep.cons (t := 5) rfl (Keep.cons (t := 6) rfl (Keep.cons (t := 7) rfl (Keep.cons (t := 9) rfl (Keep.cons (t := 10) rfl (Keep.cons (t := 12) rfl Keep.nil)))))))) ⟨Nat.zero_le _, List.length_replicate, fun y hy => by simp at hy⟩ (fun _ h => h) ?_
        rintro ⟨i, bt⟩ ⟨hi, htl, hbt⟩
        try dsimp only at hi htl hbt ⊢
        refine jc_seq ?_
        refine jc_seq ?_
        refine jc_region ?_
        iterate 2 refine jp rfl ?_
        refine jl_q rfl rfl (qLen rfl rfl rfl) ?_
        refine js rfl (fun h89 => ?_) (fun h89 => ?_)
        · refine jl_nil ?_
          refine jT ?_
          refine jc_yes rfl ?_
          refine jc_skip ?_
          refine jT ?_
          refine jc_seq ?_
          refine jc_block ?_
          refine jc_seq ?_
          refine jc_seq ?_
          refine jc_draw [(0, true), (1, true), (2, true), (3, true), (4, true), (5, true), (6, true), (7, true), (8, true), (9, true), (10, true), (11, true), (12, true), (13, true), (14, true), (15, true), (16, true), (17, true), (18, true), (19, true), (20, true), (21, true), (22, true), (23, true), (24, true), (25, true), (26, true), (27, true), (28, true), (29, true), (30, true), (31, true), (32, true), (33, true), (34, true), (35, true), (36, true), (37, true), (38, true)] _ (by kernel_rfl) (by kernel_rfl) (by kernel_rfl) rfl (fun _ h => h) ?_
          iterate 2 refine dp rfl rfl ?_
          have hi1 : i < rs.length := idx_of3 h89
          have hin := hna.ref i hi1
          obtain ⟨tb, to_, e0, hy⟩ := hs2.open (by intro e; have := congrArg List.length e; rw [List.length_map, List.length_nil] at this; omega)
          subst e0
          refine jd_q rfl rfl rfl (qEq (qIdxS rfl rfl rfl rfl (by omega)) (v' := .pointer (some ⟨tb, to_ + i, none⟩)) (by congr 3; omega)) ?_
          refine jd_q rfl rfl rfl (qLd (v := .int .i64 rs[i]) rfl rfl rfl rfl ((hy i _ (by simp [encZ])).cj _)) ?_
          refine df rfl rfl (decide_eq_false (by omega)) ?_
          iterate 3 refine dp rfl rfl ?_
          refine jd_q rfl rfl rfl (qEq (qIdxS rfl rfl rfl rfl (by omega)) (v' := .pointer (some ⟨tb, to_ + i, none⟩)) (by congr 3; omega)) ?_
          refine jd_q rfl rfl rfl (qLd (v := .int .i64 rs[i]) rfl rfl rfl rfl ((hy i _ (by simp [encZ])).cj _)) ?_
          refine df rfl rfl (decide_eq_false (by omega)) ?_
          iterate 3 refine dp rfl rfl ?_
          refine ds rfl rfl (fun h106 => ?_) (fun h106 => ?_)
          · iterate 3 refine dp rfl rfl ?_
            obtain ⟨j, hj⟩ : ∃ j, i = j + 1 := ⟨i - 1, by omega⟩
            have hup : rs[j] < rs[i] := by subst hj; exact hna.rup j hi1
            refine jd_q rfl rfl rfl (qEq (qIdxS rfl rfl rfl rfl (by omega)) (v' := .pointer (some ⟨tb, to_ + i, none⟩)) (by congr 3; omega)) ?_
            refine jd_q rfl rfl rfl (qLd (v := .int .i64 rs[i]) rfl rfl rfl rfl ((hy i _ (by simp [encZ])).cj _)) ?_
            iterate 2 refine dp rfl rfl ?_
            refine da rfl rfl (by omega) ?_
            refine jd_q rfl rfl rfl (qEq (qIdxS rfl rfl rfl rfl (by omega)) (v' := .pointer (some ⟨tb, to_ + j, none⟩)) (by congr 3; omega)) ?_
            refine jd_q rfl rfl rfl (qLd (v := .int .i64 rs[j]) rfl rfl rfl rfl ((hy j _ (by simp [encZ])).cj _)) ?_
            refine df rfl rfl (decide_eq_false (by omega)) ?_
            iterate 3 refine dp rfl rfl ?_
            refine jd_q rfl rfl rfl (qFieldAddr rfl rfl rfl rfl rfl) ?_
            refine jd_q rfl rfl rfl (qLd rfl rfl rfl rfl (CJ.loc rfl)) ?_
            iterate 2 refine dp rfl rfl ?_
            refine jd_q rfl rfl rfl (qEq (qIdxS rfl rfl rfl rfl (by omega)) (v' := .pointer (some ⟨tb, to_ + i, none⟩)) (by congr 3; omega)) ?_
            refine jd_q rfl rfl rfl (qLd (v := .int .i64 rs[i]) rfl rfl rfl rfl ((hy i _ (by simp [encZ])).cj _)) ?_
            refine jd_q rfl rfl rfl (qIdxS rfl rfl rfl rfl (by omega)) ?_
            refine jd_q rfl rfl rfl (qLd rfl rfl rfl rfl ((hnx _ _ (by rw [Nat.mul_one]; exact bget (j := rs[i].toNat) (by omega))).cj _)) ?_
            refine df rfl rfl (decide_eq_false (by omega)) ?_
            refine dp rfl rfl ?_
            refine jd_nil ?_
            refine jPn ?_
            refine jT ?_
            refine jc_no rfl ?_
            refine jc_skip ?_
            refine jT ?_
            refine jc_region ?_
            iterate 2 refine jp rfl ?_
            refine jl_q rfl rfl (qEq (qIdxS rfl rfl rfl rfl (by omega)) (v' := .pointer (some ⟨tb, to_ + i, none⟩)) (by congr 3; omega)) ?_
            refine jl_q rfl rfl (qLd (v := .int .i64 rs[i]) rfl rfl rfl rfl ((hy i _ (by simp [encZ])).cj _)) ?_
            refine jl_q rfl rfl (qEq (qIdxA rfl rfl rfl rfl (by omega)) (v' := .pointer (some ⟨b10, rs[i].toNat, none⟩)) (by congr 3; omega)) ?_
            refine jl_s rfl (hSetB rfl rfl rfl rfl (by omega)) ?_; rintro _ _ _ ⟨rfl, rfl⟩
            refine jl_nil ?_
            refine jB ?_
            refine jT ?_
            refine jc_region ?_
            refine jp rfl ?_
            refine ja rfl (by omega) ?_
            refine jp rfl ?_
            refine jl_nil ?_
            refine j_again (i + 1, bt.set rs[i].toNat true) (Keep.cons (t := 1) rfl (Keep.cons (t := 2) rfl (Keep.cons (t := 5) rfl (Keep.cons (t := 6) rfl (Keep.cons (t := 7) rfl (Keep.cons (t := 9) rfl (Keep.cons (t := 10) rfl (Keep.cons (t := 12) rfl Keep.nil)))))))) ⟨by show i + 1 ≤ rs.length; omega, by show (bt.set _ _).length = 256; rw [List.length_set]; exact htl, ?_⟩ (by show rs.length - (i + 1) < rs.length - i; omega) (fun _ h => h)
            show ∀ y ∈ rs.take (i + 1), _
            rw [show rs.take (i + 1) = rs.take i ++ [rs[i]] from List.take_succ_eq_append_getElem hi1]
            exact set_more htl hbt (by omega)
          · iterate 14 refine dp rfl rfl ?_
            refine jd_q rfl rfl rfl (qFieldAddr rfl rfl rfl rfl rfl) ?_
            refine jd_q rfl rfl rfl (qLd rfl rfl rfl rfl (CJ.loc rfl)) ?_
            iterate 2 refine dp rfl rfl ?_
            refine jd_q rfl rfl rfl (qEq (qIdxS rfl rfl rfl rfl (by omega)) (v' := .pointer (some ⟨tb, to_ + i, none⟩)) (by congr 3; omega)) ?_
            refine jd_q rfl rfl rfl (qLd (v := .int .i64 rs[i]) rfl rfl rfl rfl ((hy i _ (by simp [encZ])).cj _)) ?_
            refine jd_q rfl rfl rfl (qIdxS rfl rfl rfl rfl (by omega)) ?_
            refine jd_q rfl rfl rfl (qLd rfl rfl rfl rfl ((hnx _ _ (by rw [Nat.mul_one]; exact bget (j := rs[i].toNat) (by omega))).cj _)) ?_
            refine df rfl rfl (decide_eq_false (by omega)) ?_
            refine dp rfl rfl ?_
            refine jd_nil ?_
            refine jPn ?_
            refine jT ?_
            refine jc_no rfl ?_
            refine jc_skip ?_
            refine jT ?_
            refine jc_region ?_
            iterate 2 refine jp rfl ?_
            refine jl_q rfl rfl (qEq (qIdxS rfl rfl rfl rfl (by omega)) (v' := .pointer (some ⟨tb, to_ + i, none⟩)) (by congr 3; omega)) ?_
            refine jl_q rfl rfl (qLd (v := .int .i64 rs[i]) rfl rfl rfl rfl ((hy i _ (by simp [encZ])).cj _)) ?_
            refine jl_q rfl rfl (qEq (qIdxA rfl rfl rfl rfl (by omega)) (v' := .pointer (some ⟨b10, rs[i].toNat, none⟩)) (by congr 3; omega)) ?_
            refine jl_s rfl (hSetB rfl rfl rfl rfl (by omega)) ?_; rintro _ _ _ ⟨rfl, rfl⟩
            refine jl_nil ?_
            refine jB ?_
            refine jT ?_
            refine jc_region ?_
            refine jp rfl ?_
            refine ja rfl (by omega) ?_
            refine jp rfl ?_
            refine jl_nil ?_
            refine j_again (i + 1, bt.set rs[i].toNat true) (Keep.cons (t := 1) rfl (Keep.cons (t := 2) rfl (Keep.cons (t := 5) rfl (Keep.cons (t := 6) rfl (Keep.cons (t := 7) rfl (Keep.cons (t := 9) rfl (Keep.cons (t := 10) rfl (Keep.cons (t := 12) rfl Keep.nil)))))))) ⟨by show i + 1 ≤ rs.length; omega, by show (bt.set _ _).length = 256; rw [List.length_set]; exact htl, ?_⟩ (by show rs.length - (i + 1) < rs.length - i; omega) (fun _ h => h)
            show ∀ y ∈ rs.take (i + 1), _
            rw [show rs.take (i + 1) = rs.take i ++ [rs[i]] from List.take_succ_eq_append_getElem hi1]
            exact set_more htl hbt (by omega)
        · refine jl_nil ?_
          refine jT ?_
          refine jc_no rfl ?_
          refine jc_exit ?_
          refine jTx ?_
          refine jTx ?_
          refine jBx ?_
          refine jT ?_
          refine jc_seq ?_
          refine jc_seq ?_
          refine jc_region ?_
          refine jp rfl ?_
          refine jl_nil ?_
          refine jT ?_
          refine jc_block ?_
          rw [List.take_of_length_le (show rs.length ≤ i by omega)] at hbt
          refine jc_loopK (α := Nat × Mem) (fun x => [(1, .int .i64 root), (2, .pointer (some ⟨b2, 0, none⟩)), (5, .bool true), (6, .slice (some ⟨sb, so, none⟩) ns.length c1), (9, .pointer (some ⟨b9, 0, none⟩)), (10, .pointer (some ⟨b10, 0, none⟩)), (13, .int .i64 (x.1 : Int))]) (fun x => x.2) (fun _ => [(b10, .cells (bt.map Value.bool).toArray 53 (0, 0)), (b9, .cells (bs.map Value.bool).toArray 53 (0, 0)), (b2, .cells [bv, wv, .slice (some ⟨nb, no, none⟩) s.now.length nc, lw].toArray TSt (0, 0))]) (fun x => x.1 ≤ ns.length ∧ MLe M3 x.2) (fun x => ns.length - x.1)
            (0, M3) (Keep.cons (t := 1) rfl (Keep.cons (t := 2) rfl (Keep.cons (t := 5) rfl (Keep.cons (t := 6) rfl (Keep.cons (t := 9) rfl (Keep.cons (t := 10) rfl (Keep.cons (t := 13) rfl Keep.nil))))))) ⟨Nat.zero_le _, MLe.refl _⟩ (fun _ h => h) ?_
          rintro ⟨i, Mk⟩ ⟨hi, hMk⟩
          try dsimp only at hi hMk ⊢
          refine jc_seq ?_
          refine jc_seq ?_
          refine jc_region ?_
          iterate 2 refine jp rfl ?_
          refine jl_q rfl rfl (qLen rfl rfl rfl) ?_
          refine js rfl (fun h139 => ?_) (fun h139 => ?_)
          · refine jl_nil ?_
            refine jT ?_
            refine jc_yes rfl ?_
            refine jc_skip ?_
            refine jT ?_
            refine jc_seq ?_
            refine jc_block ?_
            refine jc_seq ?_
            refine jc_drawA ([(b2, .cells [bv, wv, .slice (some ⟨nb, no, none⟩) s.now.length nc, lw].toArray TSt (0, 0))]) (by kernel_rfl) (by simp) ?_
            refine ja_q (i := 0) rfl (by kernel_rfl) (by kernel_rfl) rfl rfl (qLdL rfl rfl rfl rfl rfl (by first | (simp only [Nat.reduceAdd, Nat.zero_add, Nat.add_zero, List.drop_succ_cons, List.drop_zero, List.drop_nil, List.take_succ_cons, List.take_zero, List.take_nil, List.cons_append, List.nil_append, List.append_nil, List.length_cons, List.length_nil]; done) | (simp only [Nat.reduceAdd, Nat.zero_add, Nat.add_zero, List.drop_succ_cons, List.drop_zero, List.drop_nil, List.take_succ_cons, List.take_zero, List.take_nil, List.cons_append, List.nil_append, List.append_nil, List.length_cons, List.length_nil]; rfl) | rfl)) ?_
            refine ja_p (i := 1) rfl (by kernel_rfl) (by kernel_rfl) rfl ?_
            refine ja_p (i := 2) rfl (by kernel_rfl) (by kernel_rfl) rfl ?_
            have hi1 : i < ns.length := idx_of3 h139
            have hin := hna.node i hi1
            obtain ⟨hask, lev, xs, hndx, hrx⟩ := hnd.read hok (List.getElem_mem hi1)
            have hno := ndAt_ok hndx
            have hlen := hno.len
            have hlv := hno.lev
            refine ja_q (i := 3) rfl (by kernel_rfl) (by kernel_rfl) rfl rfl (qEq (qIdxS rfl rfl rfl rfl (by omega)) (v' := .pointer (some ⟨sb, so + i, none⟩)) (by congr 3; omega)) ?_
            refine ja_q (i := 4) rfl (by kernel_rfl) (by kernel_rfl) rfl rfl (qLd (v := .int .i64 ns[i]) rfl rfl rfl rfl (((hx i _ (by simp [encZ])).mono hMk).cj _)) ?_
            refine ja_merge (α := Mem × Option Addr × Nat × List (It × Value) × Nat) (fun y => MLe Mk y.1 ∧ xs.length ≤ y.2.2.1 ∧ SM y.1 y.2.1 (y.2.2.2.1.flatMap icell) ∧ y.2.2.2.1.map (·.1) = xs ∧ ∀ p ∈ y.2.2.2.1, BS y.1 p.2 p.1.val) (fun y => [(1, .int .i64 root), (2, .pointer (some ⟨b2, 0, none⟩)), (5, .bool true), (6, .slice (some ⟨sb, so, none⟩) ns.length c1), (9, .pointer (some ⟨b9, 0, none⟩)), (10, .pointer (some ⟨b10, 0, none⟩)), (13, .int .i64 (i : Int)), (14, .pointer (some ⟨y.2.2.2.2, 0, none⟩)), (149, .agg #[.int .i64 (lev : Int), .slice y.2.1 xs.length y.2.2.1]), (150, .int .i64 0)]) (fun y => y.1) (fun y => (y.2.2.2.2, .cells [.int .i64 0, .slice none 0 0].toArray 55 (0, 0)) :: [(b10, .cells (bt.map Value.bool).toArray 53 (0, 0)), (b9, .cells (bs.map Value.bool).toArray 53 (0, 0)), (b2, .cells [bv, wv, .slice (some ⟨nb, no, none⟩) s.now.length nc, lw].toArray TSt (0, 0))]) 2 #[true, true, true, true, true, true, true, true, true, true, false, false] ?_ (fun rest => ?_)
            · rintro ⟨Mf, ua, uc, up, b14⟩ ⟨hMf, huc, hus, hup, hub⟩
              try dsimp only at hMf huc hus hup hub ⊢
              refine ja_one (i := 10) (by kernel_rfl) ?_
              refine js_s rfl rfl (hStoreL rfl rfl rfl rfl rfl rfl rfl rfl (by first | (simp only [Nat.reduceAdd, Nat.zero_add, Nat.add_zero, List.drop_succ_cons, List.drop_zero, List.drop_nil, List.take_succ_cons, List.take_zero, List.take_nil, List.cons_append, List.nil_append, List.append_nil, List.length_cons, List.length_nil]; done) | (simp only [Nat.reduceAdd, Nat.zero_add, Nat.add_zero, List.drop_succ_cons, List.drop_zero, List.drop_nil, List.take_succ_cons, List.take_zero, List.take_nil, List.cons_append, List.nil_append, List.append_nil, List.length_cons, List.length_nil]; rfl) | rfl)) ?_; rintro _ _ _ ⟨rfl, rfl⟩
              refine ja_grow (hMf) (by simp) ?_
              refine ja_p (i := 11) rfl (by kernel_rfl) (by kernel_rfl) rfl ?_
              refine ja_end (by kernel_rfl) ?_
              refine jPn ?_
              refine jT ?_
              refine jc_seq ?_
              refine jc_seq ?_
              refine jc_region ?_
              refine jp rfl ?_
              refine jf rfl (decide_eq_false (by omega)) ?_
              refine jl_nil ?_
              refine jT ?_
              refine jc_no rfl ?_
              refine jc_skip ?_
              refine jT ?_
              refine jc_seq ?_
              refine jc_region ?_
              refine jp rfl ?_
              refine jl_nil ?_
              refine jT ?_
              refine jc_block ?_
              refine jc_loopK (α := Nat) (fun x => [(1, .int .i64 root), (2, .pointer (some ⟨b2, 0, none⟩)), (5, .bool true), (6, .slice (some ⟨sb, so, none⟩) ns.length c1), (9, .pointer (some ⟨b9, 0, none⟩)), (10, .pointer (some ⟨b10, 0, none⟩)), (13, .int .i64 (i : Int)), (14, .pointer (some ⟨b14, 0, none⟩)), (16, .int .i64 (x : Int))]) (fun _ => Mf) (fun _ => (b14, .cells [.int .i64 (lev : Int), .slice ua xs.length uc].toArray 55 (0, 0)) :: [(b10, .cells (bt.map Value.bool).toArray 53 (0, 0)), (b9, .cells (bs.map Value.bool).toArray 53 (0, 0)), (b2, .cells [bv, wv, .slice (some ⟨nb, no, none⟩) s.now.length nc, lw].toArray TSt (0, 0))]) (fun x => x ≤ xs.length) (fun x => xs.length - x)
                0 (Keep.cons (t := 1) rfl (Keep.cons (t := 2) rfl (Keep.cons (t := 5) rfl (Keep.cons (t := 6) rfl (Keep.cons (t := 9) rfl (Keep.cons (t := 10) rfl (Keep.cons (t := 13) rfl (Keep.cons (t := 14) rfl (Keep.cons (t := 16) rfl Keep.nil))))))))) (Nat.zero_le _) (fun _ h => h) ?_
              rintro k hk
              try dsimp only at hk ⊢
              refine jc_seq ?_
              refine jc_seq ?_
              refine jc_region ?_
              refine jp rfl ?_
              refine jl_q rfl rfl (qFieldAddr rfl rfl rfl rfl rfl) ?_
              refine jl_q rfl rfl (qLd rfl rfl rfl rfl (CJ.loc rfl)) ?_
              refine jl_q rfl rfl (qLen rfl rfl rfl) ?_
              refine js rfl (fun h157 => ?_) (fun h157 => ?_)
              · refine jl_nil ?_
                refine jT ?_
                refine jc_yes rfl ?_
                refine jc_skip ?_
                refine jT ?_
                refine jc_seq ?_
                refine jc_block ?_
                refine jc_seq ?_
                refine jc_region ?_
                refine jl_q rfl rfl (qFieldAddr rfl rfl rfl rfl rfl) ?_
                refine jl_q rfl rfl (qLd rfl rfl rfl rfl (CJ.loc rfl)) ?_
                refine jp rfl ?_
                have hk1 : k < xs.length := idx_of3 h157
                obtain ⟨ub, uo, e0, hux⟩ := hus.open (by intro e; have := congrArg List.length e; rw [flat_len icell 5 icell_len, List.length_nil] at this; have h2 := congrArg List.length hup; rw [List.length_map] at h2; omega)
                subst e0
                obtain ⟨va, vc, hcl, hvc, hvs⟩ := items_get hux hup hub hk1
                have hxr := hno.ref xs[k] (List.getElem_mem hk1)
                have hxx := hrx xs[k] (List.getElem_mem hk1)
                refine jl_q rfl rfl (qIdxS rfl rfl rfl rfl (by omega)) ?_
                refine jl_q rfl rfl (qFieldAddr rfl rfl rfl rfl rfl) ?_
                refine jl_q rfl rfl (qLd rfl rfl rfl rfl ((hcl 3 _ rfl).cj _)) ?_
                refine jp rfl ?_
                refine jl_nil ?_
                refine jT ?_
                refine jc_seq ?_
                refine jc_region ?_
                refine jl_q rfl rfl (qFieldAddr rfl rfl rfl rfl rfl) ?_
                refine jl_q rfl rfl (qLd rfl rfl rfl rfl (CJ.loc rfl)) ?_
                refine js rfl (fun h168 => ?_) (fun h168 => ?_)
                · iterate 2 refine jp rfl ?_
                  refine jl_q rfl rfl (qEq (qIdxA rfl rfl rfl rfl (by omega)) (v' := .pointer (some ⟨b9, xs[k].ref.toNat, none⟩)) (by congr 3; omega)) ?_
                  refine jl_q rfl rfl (qEq (qLd (v := .bool true) rfl rfl rfl rfl (bcj (hbs _ (hxx.1 h168)))) (v' := .bool true) (by rfl)) ?_
                  iterate 3 refine jp rfl ?_
                  refine jl_q rfl rfl (qFieldAddr rfl rfl rfl rfl rfl) ?_
                  refine jl_q rfl rfl (qLd rfl rfl rfl rfl (CJ.loc rfl)) ?_
                  refine js rfl (fun h178 => ?_) (fun h178 => ?_)
                  · iterate 2 refine jp rfl ?_
                    refine js rfl (fun h181 => ?_) (fun h181 => ?_)
                    · iterate 3 refine jp rfl ?_
                      refine jl_q rfl rfl (qEq (qIdxA rfl rfl rfl rfl (by omega)) (v' := .pointer (some ⟨b10, xs[k].ref.toNat, none⟩)) (by congr 3; omega)) ?_
                      refine jl_q rfl rfl (qEq (qLd (v := .bool true) rfl rfl rfl rfl (bcj (hbt _ (hxx.2 (by omega) (by omega))))) (v' := .bool true) (by rfl)) ?_
                      iterate 3 refine jp rfl ?_
                      refine jl_nil ?_
                      refine jT ?_
                      refine jc_no rfl ?_
                      refine jc_skip ?_
                      refine jB ?_
                      refine jT ?_
                      refine jc_region ?_
                      refine jp rfl ?_
                      refine ja rfl (by omega) ?_
                      refine jp rfl ?_
                      refine jl_nil ?_
                      refine j_again (k + 1) (Keep.cons (t := 1) rfl (Keep.cons (t := 2) rfl (Keep.cons (t := 5) rfl (Keep.cons (t := 6) rfl (Keep.cons (t := 9) rfl (Keep.cons (t := 10) rfl (Keep.cons (t := 13) rfl (Keep.cons (t := 14) rfl (Keep.cons (t := 16) rfl Keep.nil))))))))) (by show k + 1 ≤ xs.length; omega) (by show xs.length - (k + 1) < xs.length - k; omega) (fun _ h => h)
                    · iterate 8 refine jp rfl ?_
                      refine jl_nil ?_
                      refine jT ?_
                      refine jc_no rfl ?_
                      refine jc_skip ?_
                      refine jB ?_
                      refine jT ?_
                      refine jc_region ?_
                      refine jp rfl ?_
                      refine ja rfl (by omega) ?_
                      refine jp rfl ?_
                      refine jl_nil ?_
                      refine j_again (k + 1) (Keep.cons (t := 1) rfl (Keep.cons (t := 2) rfl (Keep.cons (t := 5) rfl (Keep.cons (t := 6) rfl (Keep.cons (t := 9) rfl (Keep.cons (t := 10) rfl (Keep.cons (t := 13) rfl (Keep.cons (t := 14) rfl (Keep.cons (t := 16) rfl Keep.nil))))))))) (by show k + 1 ≤ xs.length; omega) (by show xs.length - (k + 1) < xs.length - k; omega) (fun _ h => h)
                  · iterate 11 refine jp rfl ?_
                    refine jl_nil ?_
                    refine jT ?_
                    refine jc_no rfl ?_
                    refine jc_skip ?_
                    refine jB ?_
                    refine jT ?_
                    refine jc_region ?_
                    refine jp rfl ?_
                    refine ja rfl (by omega) ?_
                    refine jp rfl ?_
                    refine jl_nil ?_
                    refine j_again (k + 1) (Keep.cons (t := 1) rfl (Keep.cons (t := 2) rfl (Keep.cons (t := 5) rfl (Keep.cons (t := 6) rfl (Keep.cons (t := 9) rfl (Keep.cons (t := 10) rfl (Keep.cons (t := 13) rfl (Keep.cons (t := 14) rfl (Keep.cons (t := 16) rfl Keep.nil))))))))) (by show k + 1 ≤ xs.length; omega) (by show xs.length - (k + 1) < xs.length - k; omega) (fun _ h => h)
                · iterate 7 refine jp rfl ?_
                  refine jl_q rfl rfl (qFieldAddr rfl rfl rfl rfl rfl) ?_
                  refine jl_q rfl rfl (qLd rfl rfl rfl rfl (CJ.loc rfl)) ?_
                  refine js rfl (fun h178 => ?_) (fun h178 => ?_)
                  · iterate 2 refine jp rfl ?_
                    refine js rfl (fun h181 => ?_) (fun h181 => ?_)
                    · iterate 3 refine jp rfl ?_
                      refine jl_q rfl rfl (qEq (qIdxA rfl rfl rfl rfl (by omega)) (v' := .pointer (some ⟨b10, xs[k].ref.toNat, none⟩)) (by congr 3; omega)) ?_
                      refine jl_q rfl rfl (qEq (qLd (v := .bool true) rfl rfl rfl rfl (bcj (hbt _ (hxx.2 (by omega) (by omega))))) (v' := .bool true) (by rfl)) ?_
                      iterate 3 refine jp rfl ?_
                      refine jl_nil ?_
                      refine jT ?_
                      refine jc_no rfl ?_
                      refine jc_skip ?_
                      refine jB ?_
                      refine jT ?_
                      refine jc_region ?_
                      refine jp rfl ?_
                      refine ja rfl (by omega) ?_
                      refine jp rfl ?_
                      refine jl_nil ?_
                      refine j_again (k + 1) (Keep.cons (t := 1) rfl (Keep.cons (t := 2) rfl (Keep.cons (t := 5) rfl (Keep.cons (t := 6) rfl (Keep.cons (t := 9) rfl (Keep.cons (t := 10) rfl (Keep.cons (t := 13) rfl (Keep.cons (t := 14) rfl (Keep.cons (t := 16) rfl Keep.nil))))))))) (by show k + 1 ≤ xs.length; omega) (by show xs.length - (k + 1) < xs.length - k; omega) (fun _ h => h)
                    · iterate 8 refine jp rfl ?_
                      refine jl_nil ?_
                      refine jT ?_
                      refine jc_no rfl ?_
                      refine jc_skip ?_
                      refine jB ?_
                      refine jT ?_
                      refine jc_region ?_
                      refine jp rfl ?_
                      refine ja rfl (by omega) ?_
                      refine jp rfl ?_
                      refine jl_nil ?_
                      refine j_again (k + 1) (Keep.cons (t := 1) rfl (Keep.cons (t := 2) rfl (Keep.cons (t := 5) rfl (Keep.cons (t := 6) rfl (Keep.cons (t := 9) rfl (Keep.cons (t := 10) rfl (Keep.cons (t := 13) rfl (Keep.cons (t := 14) rfl (Keep.cons (t := 16) rfl Keep.nil))))))))) (by show k + 1 ≤ xs.length; omega) (by show xs.length - (k + 1) < xs.length - k; omega) (fun _ h => h)
                  · exfalso; omega
              · refine jl_nil ?_
                refine jT ?_
                refine jc_no rfl ?_
                refine jc_exit ?_
                refine jTx ?_
                refine jTx ?_
                refine jBx ?_
                refine jB ?_
                refine jT ?_
                refine jc_region ?_
                refine jp rfl ?_
                refine ja rfl (by omega) ?_
                refine jp rfl ?_
                refine jl_nil ?_
                refine j_again (i + 1, Mf) (Keep.cons (t := 1) rfl (Keep.cons (t := 2) rfl (Keep.cons (t := 5) rfl (Keep.cons (t := 6) rfl (Keep.cons (t := 9) rfl (Keep.cons (t := 10) rfl (Keep.cons (t := 13) rfl Keep.nil))))))) ⟨by show i + 1 ≤ ns.length; omega, hMk.trans hMf⟩ (by show ns.length - (i + 1) < ns.length - i; omega) (fun _ h => h.fewer (by simp))
            refine ja_fork [5, 9] (by kernel_rfl) rfl ⟨?_, ?_, trivial⟩
            · refine js_h rfl rfl rfl (hCall rfl rfl rfl rfl rfl (by kernel_rfl) (rnode_spec s _ ns[i] Mk (hST.mono (hLM3.trans hMk)))) ?_; rintro _ M7 _ ⟨hM5, R7, rfl, hrn, rfl⟩
              refine ja_grow (hM5) (by simp) ?_
              simp only [List.nil_append]
              obtain ⟨sl, rfl, hns7⟩ := hrn.node hask hndx
              obtain ⟨ua, uc, up, rfl, huc, hus, hup, hub⟩ := hns7
              refine ja_p (i := 6) rfl (by kernel_rfl) (by kernel_rfl) rfl ?_
              refine ja_p (i := 7) rfl (by kernel_rfl) (by kernel_rfl) rfl ?_
              refine ja_p (i := 8) rfl (by kernel_rfl) (by kernel_rfl) rfl ?_
              refine ja_fork [9] (by kernel_rfl) rfl ⟨?_, trivial⟩
              · refine js_h rfl rfl rfl (hAlloc rfl rfl) ?_; rintro _ _ _ ⟨b14, rfl, rfl, rfl⟩
                refine ja_grow (hM5) (by simp) ?_
                refine ja_cast (listed' := #[true, true, true, true, true, true, true, true, true, true, false, false]) (by kernel_rfl) (ja_keep (Keep.cons (t := 1) rfl (Keep.cons (t := 2) rfl (Keep.cons (t := 5) rfl (Keep.cons (t := 6) rfl (Keep.cons (t := 9) rfl (Keep.cons (t := 10) rfl (Keep.cons (t := 13) rfl (Keep.cons (t := 14) rfl (Keep.cons (t := 149) rfl (Keep.cons (t := 150) rfl Keep.nil)))))))))) ?_)
                refine ja_weak (M2 := M7) (L2 := (b14, .cells [.int .i64 0, .slice none 0 0].toArray 55 (0, 0)) :: [(b10, .cells (bt.map Value.bool).toArray 53 (0, 0)), (b9, .cells (bs.map Value.bool).toArray 53 (0, 0)), (b2, .cells [bv, wv, .slice (some ⟨nb, no, none⟩) s.now.length nc, lw].toArray TSt (0, 0))]) (fun w h => h.perm (Rm.perm (g := b14))) hM5 (by simp) ?_
                exact rest (M7, ua, uc, up, b14) ⟨hM5, huc, hus, hup, hub⟩
            · refine js_h rfl rfl rfl (hAlloc rfl rfl) ?_; rintro _ _ _ ⟨b14, rfl, rfl, rfl⟩
              refine ja_grow (MLe.refl _) (by simp) ?_
              refine ja_fork [5] (by kernel_rfl) rfl ⟨?_, trivial⟩
              · refine js_h rfl rfl rfl (hCall rfl rfl rfl rfl rfl (by kernel_rfl) (rnode_spec s _ ns[i] Mk (hST.mono (hLM3.trans hMk)))) ?_; rintro _ M7 _ ⟨hM5, R7, rfl, hrn, rfl⟩
                refine ja_grow (hM5) (by simp) ?_
                simp only [List.nil_append]
                obtain ⟨sl, rfl, hns7⟩ := hrn.node hask hndx
                obtain ⟨ua, uc, up, rfl, huc, hus, hup, hub⟩ := hns7
                refine ja_p (i := 6) rfl (by kernel_rfl) (by kernel_rfl) rfl ?_
                refine ja_p (i := 7) rfl (by kernel_rfl) (by kernel_rfl) rfl ?_
                refine ja_p (i := 8) rfl (by kernel_rfl) (by kernel_rfl) rfl ?_
                refine ja_cast (listed' := #[true, true, true, true, true, true, true, true, true, true, false, false]) (by kernel_rfl) (ja_keep (Keep.cons (t := 1) rfl (Keep.cons (t := 2) rfl (Keep.cons (t := 5) rfl (Keep.cons (t := 6) rfl (Keep.cons (t := 9) rfl (Keep.cons (t := 10) rfl (Keep.cons (t := 13) rfl (Keep.cons (t := 14) rfl (Keep.cons (t := 149) rfl (Keep.cons (t := 150) rfl Keep.nil)))))))))) ?_)
                refine ja_weak (M2 := M7) (L2 := (b14, .cells [.int .i64 0, .slice none 0 0].toArray 55 (0, 0)) :: [(b10, .cells (bt.map Value.bool).toArray 53 (0, 0)), (b9, .cells (bs.map Value.bool).toArray 53 (0, 0)), (b2, .cells [bv, wv, .slice (some ⟨nb, no, none⟩) s.now.length nc, lw].toArray TSt (0, 0))]) (fun w h => h.perm (Rm.perm (g := b14))) hM5 (by simp) ?_
                exact rest (M7, ua, uc, up, b14) ⟨hM5, huc, hus, hup, hub⟩
          · refine jl_nil ?_
            refine jT ?_
            refine jc_no rfl ?_
            refine jc_exit ?_
            refine jTx ?_
            refine jTx ?_
            refine jBx ?_
            refine jT ?_
            refine jc_seq ?_
            refine jc_region ?_
            iterate 3 refine jp rfl ?_
            have hr8 := (fchk_ok hok).2.1
            have hr256 := (fchk_ok hok).2.2.1
            refine jl_q rfl rfl (qEq (qIdxA rfl rfl rfl rfl (by omega)) (v' := .pointer (some ⟨b9, root.toNat, none⟩)) (by congr 3; omega)) ?_
            refine jl_q rfl rfl (qLd (v := .bool true) rfl rfl rfl rfl (bcj (hbs _ hna.root))) ?_
            iterate 2 refine jp rfl ?_
            refine jl_nil ?_
            refine jT ?_
            refine jc_ret ?_
            refine jr1 rfl rfl ?_
            first | rfl | exact congrArg Value.bool (decide_eq_true (by omega))

end Go.Proofs.Ytjibkdpeijcnkaa
