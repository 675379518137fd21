/- CommitLasts' function is walked. -/
import Derived.Test.YtjdmhbenpeedeaaGreatSlot
import Derived.Test.YtjdmhbenpeedeaaGreatFind
import Derived.Test.YtjdmhbenpeedeaaGreatFree
import Derived.Test.YtjdmhbenpeedeaaGreatCread
namespace Go.Proofs.YtjdmhbenpeedeaaGreat
set_option linter.unusedVariables false
set_option linter.unusedSimpArgs false
open Go.RowKit

theorem any_at {ys : List Sr} {Q : Sr → Prop} {k : Nat} (hk : k < ys.length) : (∃ x ∈ ys.take (k + 1), Q x) ↔ (∃ x ∈ ys.take k, Q x) ∨ Q ys[k] := by
  rw [List.take_succ_eq_append_getElem hk]
  constructor
  · rintro ⟨x, hx, e⟩
    rcases List.mem_append.1 hx with hx | hx
    · exact .inl ⟨x, hx, e⟩
    · rw [List.mem_singleton.1 hx] at e; exact .inr e
  · rintro (⟨x, hx, e⟩ | e)
    · exact ⟨x, List.mem_append_left _ hx, e⟩
    · exact ⟨_, List.mem_append_right _ (by simp), e⟩
/-- a commit's superblock, as it is found -/
def isSup (p : Po) (x : Sr) : Prop := x.1.gen = p.gen + 1 ∧ x.1.root = p.root ∧ x.1.next = p.next ∧ x.1.table = sumOf p.st.now
theorem halves {t : List By} (h : t.length = 256) : half t 0 ++ half t 1 = t := by
  unfold half
  rw [show 128 * 0 = 0 from rfl, List.drop_zero, List.take_of_length_le (l := t.drop (128 * 1)) (by rw [List.length_drop]; omega)]
  exact List.take_append_drop 128 t
theorem cmt_table {p : Po} (h : PoOk p) (hn : PoN p) {k : Nat} (hk : (k : Int) = 4 + 2 * ((p.gen + 1) % 2)) : seen (cmt p).st k ++ seen (cmt p).st (k + 1) = p.st.now := by
  have hg := hn.gen
  have hw : ∀ j : Nat, 4 ≤ j → ∀ w ∈ cmAdd p 2, 0 ≤ w.1 ∧ w.1 ≠ (j : Int) := fun j hj w hm => by
    simp only [cmAdd, List.mem_cons, List.not_mem_nil, or_false] at hm
    subst hm
    exact ⟨by show 0 ≤ (p.gen + 1) % 4; omega, by show (p.gen + 1) % 4 ≠ _; omega⟩
  have hl : (setB p.st.blocks p.st.waits).length = 256 := by rw [setB_len]; exact h.st.1.1
  have e : ∀ j : Nat, 4 ≤ j → seen (cmt p).st j = (((setB p.st.blocks p.st.waits).set k (half p.st.now 0)).set (k + 1) (half p.st.now 1)).getD j [] := fun j hj => by
    show (setB (setB (setB p.st.blocks p.st.waits) (cmAdd p 1)) (cmAdd p 2)).getD j [] = _
    rw [setB_same _ j _ (hw j hj)]
    show (((setB p.st.blocks p.st.waits).set (4 + 2 * ((p.gen + 1) % 2)).toNat (half p.st.now 0)).set (4 + 2 * ((p.gen + 1) % 2) + 1).toNat (half p.st.now 1)).getD j [] = _
    rw [← hk, show ((k : Int) + 1).toNat = k + 1 by omega, Int.toNat_natCast]
  rw [e k (by omega), e (k + 1) (by omega)]
  have e1 : (((setB p.st.blocks p.st.waits).set k (half p.st.now 0)).set (k + 1) (half p.st.now 1)).getD k [] = half p.st.now 0 := by
    rw [List.getD, List.getElem?_set_ne (by omega), List.getElem?_set_self (by omega)]; rfl
  have e2 : (((setB p.st.blocks p.st.waits).set k (half p.st.now 0)).set (k + 1) (half p.st.now 1)).getD (k + 1) [] = half p.st.now 1 := by
    rw [List.getD, List.getElem?_set_self (by rw [List.length_set]; omega)]; rfl
  rw [e1, e2]; exact halves h.st.2.1.1
theorem bOr_self {a : Int} (h : 0 ≤ a ∧ a < 256) : bOr .u8 a a = a := by
  unfold bOr
  rw [BitVec.or_self, BitVec.toNat_ofInt, IntKind.wrap_u8]
  show ((((a % 256).toNat : Nat) : Int)) % 256 = a
  omega
theorem frOk_cmt {p : Po} {i : Nat} (h : 8 ≤ i) : frOk (cmt p).st i = true ↔ ((p.st.now.getD i 0).toNat : Int) = 0 := by
  have hb := (p.st.now.getD i 0).toNat_lt
  unfold frOk
  rw [decide_eq_true h, Bool.true_and]
  show decide (bOr .u8 ((p.st.now.getD i 0).toNat : Int) ((p.st.now.getD i 0).toNat : Int) = 0) = true ↔ _
  rw [bOr_self (by omega), decide_eq_true_iff]

set_option maxHeartbeats 4000000 in
theorem clasts_walk (p : Po) (x0 : V5) (M : Mem) (h : PT5 M x0 p) (hgen : 0 ≤ p.gen ∧ p.gen < 4294967296) (hnxt : 0 ≤ p.next ∧ p.next < 4294967296) :
    SpecL Tryz.prog 5 #[.agg (pcl x0 p.gen p.root p.next).toArray] M [] fun u M' L' => u = .bool true ∧ L' = [] := by
  refine spec_body (vs := [_]) 250 _ Tryz.func5 rfl Tryz.ntmps5 rfl rfl ?_; intro W
  refine jc_seq ?_
  refine jc_region ?_
  refine jl_h rfl rfl (hBox (cs := [_, _, _, _, _, _, _, _]) rfl rfl rfl rfl) ?_; rintro _ _ _ ⟨b1, rfl, rfl, rfl⟩
  refine jp rfl ?_
  refine jl_nil ?_
  refine jT ?_
  refine jc_seq ?_
  refine jc_region ?_
  refine jl_h rfl rfl (hCall rfl rfl rfl rfl rfl (by kernel_rfl) (alive_spec M)) ?_; rintro _ M1 _ ⟨hM1, _, rfl, ⟨rfl, rfl⟩⟩
  simp only [List.nil_append]
  refine jp rfl ?_
  refine jl_nil ?_
  refine jT ?_
  refine jc_seq ?_
  refine jc_seq ?_
  refine jc_region ?_
  iterate 2 refine jp rfl ?_
  refine jl_nil ?_
  refine jT ?_
  refine jc_no rfl ?_
  refine jc_skip ?_
  refine jT ?_
  refine jc_seq ?_
  refine jc_seq ?_
  refine jc_region ?_
  refine jl_q rfl rfl (qLdL rfl rfl rfl rfl rfl (by first | (simp only [Nat.reduceAdd, Nat.zero_add, Nat.add_zero, List.drop_succ_cons, List.drop_zero, List.drop_nil, List.take_succ_cons, List.take_zero, List.take_nil, List.cons_append, List.nil_append, List.append_nil, List.length_cons, List.length_nil]; try rfl) | rfl)) ?_
  refine jl_h rfl rfl (hCall rfl rfl rfl rfl rfl (by kernel_rfl) (fgreat_spec x0 p.gen p.root p.next p M1 (h.mono hM1))) ?_; rintro _ M2 _ ⟨hM2, _, rfl, ⟨⟨b, rfl, hgd⟩, rfl⟩⟩
  simp only [List.nil_append]
  refine jl_nil ?_
  refine jT ?_
  refine jc_if rfl (fun h26 => ?_) (fun h26 => ?_)
  · refine jc_seq ?_
    refine jc_region ?_
    iterate 2 refine jp rfl ?_
    refine jl_nil ?_
    refine jT ?_
    refine jc_ret ?_
    refine jTr ?_
    refine jq_drop (L' := []) (List.nil_sublist _) ?_
    refine jr1 rfl rfl ?_
    first | exact ⟨rfl, rfl⟩ | (refine ⟨congrArg Value.bool (decide_eq_true ?_), rfl⟩; obtain ⟨h0, _⟩ | ⟨_, _, rfl⟩ := hcc; exact absurd h0 h34; rfl; done) | (refine ⟨congrArg Value.bool (decide_eq_true ?_), rfl⟩; have hi2 : i = 256 := (by omega); subst hi2; rw [hm]; done) | (exfalso; have hkk : k = ys.length := (by omega); subst hkk; rw [List.take_length] at hfo; have hq := hfo.2 ⟨x1, hx1, hxs⟩; rw [h238] at hq; cases hq; done)
  · refine jc_skip ?_
    refine jT ?_
    refine jc_seq ?_
    refine jc_region ?_
    refine jl_q rfl rfl (qLdL rfl rfl rfl rfl rfl (by first | (simp only [Nat.reduceAdd, Nat.zero_add, Nat.add_zero, List.drop_succ_cons, List.drop_zero, List.drop_nil, List.take_succ_cons, List.take_zero, List.take_nil, List.cons_append, List.nil_append, List.append_nil, List.length_cons, List.length_nil]; try rfl) | rfl)) ?_
    have hn : PoN p := ⟨hgen, hnxt, by have := hgd h26; omega⟩
    refine jl_h rfl rfl (hCall rfl rfl rfl rfl rfl (by kernel_rfl) (commit_spec p _ M2 (h.mono (hM1.trans hM2)).pt hn)) ?_; rintro _ M3 _ ⟨hM3, _, rfl, ⟨hc, rfl⟩⟩
    simp only [List.nil_append]
    obtain ⟨y, g, r, n, e, rfl, hcc⟩ := hc.form
    iterate 3 refine jp rfl ?_
    refine jl_h rfl rfl (hAlloc rfl rfl) ?_; rintro _ _ _ ⟨b4, rfl, rfl, rfl⟩
    refine jl_s rfl (hStoreL rfl rfl rfl rfl rfl rfl rfl rfl (by first | (simp only [Nat.reduceAdd, Nat.zero_add, Nat.add_zero, List.drop_succ_cons, List.drop_zero, List.drop_nil, List.take_succ_cons, List.take_zero, List.take_nil, List.cons_append, List.nil_append, List.append_nil, List.length_cons, List.length_nil]; try rfl) | rfl)) ?_; rintro _ _ _ ⟨rfl, rfl⟩
    refine jp rfl ?_
    refine jl_nil ?_
    refine jT ?_
    refine jc_seq ?_
    refine jc_seq ?_
    refine jc_region ?_
    refine jp rfl ?_
    refine js rfl (fun h34 => ?_) (fun h34 => ?_)
    · refine jl_nil ?_
      refine jT ?_
      refine jc_yes rfl ?_
      refine jc_seq ?_
      refine jc_region ?_
      iterate 2 refine jp rfl ?_
      refine jl_q rfl rfl (qFieldAddr rfl rfl rfl rfl rfl) ?_
      refine jl_q rfl rfl (qFieldAddr rfl rfl rfl rfl rfl) ?_
      refine jl_q rfl rfl (qLd rfl rfl rfl rfl (CJ.loc rfl)) ?_
      refine jl_q rfl rfl (qLen rfl rfl rfl) ?_
      iterate 3 refine jp rfl ?_
      refine jl_nil ?_
      refine jT ?_
      refine jc_ret ?_
      refine jTr ?_
      refine jq_drop (L' := []) (List.nil_sublist _) ?_
      refine jr1 rfl rfl ?_
      first | exact ⟨rfl, rfl⟩ | (refine ⟨congrArg Value.bool (decide_eq_true ?_), rfl⟩; obtain ⟨h0, _⟩ | ⟨_, _, rfl⟩ := hcc; exact absurd h0 h34; rfl; done) | (refine ⟨congrArg Value.bool (decide_eq_true ?_), rfl⟩; have hi2 : i = 256 := (by omega); subst hi2; rw [hm]; done) | (exfalso; have hkk : k = ys.length := (by omega); subst hkk; rw [List.take_length] at hfo; have hq := hfo.2 ⟨x1, hx1, hxs⟩; rw [h238] at hq; cases hq; done)
    · refine jl_nil ?_
      refine jT ?_
      refine jc_no rfl ?_
      refine jc_skip ?_
      refine jT ?_
      refine jc_seq ?_
      refine jc_seq ?_
      refine jc_region ?_
      refine jl_q rfl rfl (qLdL rfl rfl rfl rfl rfl (by first | (simp only [Nat.reduceAdd, Nat.zero_add, Nat.add_zero, List.drop_succ_cons, List.drop_zero, List.drop_nil, List.take_succ_cons, List.take_zero, List.take_nil, List.cons_append, List.nil_append, List.append_nil, List.length_cons, List.length_nil]; try rfl) | rfl)) ?_
      obtain ⟨_, hask, hy, rfl, rfl, rfl⟩ | ⟨rfl, hne, _⟩ := hcc
      rotate_left
      · exact absurd (Classical.not_not.1 h34) hne
      obtain ⟨hok, hgm⟩ := askC_ok hask
      have hMM := (hM1.trans hM2).trans hM3
      have hchk := cmt_chk hask hn
      have hyw : y.w.n = 0 := hy.w.len
      have hstq := cmt_st hok hn
      have hnow : ctOk p.st.now := hok.st.2.1
      have hyn : y.n.n = 256 := hy.n.len.trans hnow.1
      refine jl_h rfl rfl (hCall rfl rfl rfl rfl rfl (by kernel_rfl) (fochk_spec (cmt p) _ M3 hy.pt hn.dead)) ?_; rintro _ M4 _ ⟨hM4, _, rfl, ⟨rfl, rfl⟩⟩
      simp only [List.nil_append]
      have hyc := hy.mono hM4
      have hxc := h.mono (hMM.trans hM4)
      refine jf rfl (decide_eq_false (by omega)) ?_
      refine jp rfl ?_
      refine jl_q rfl rfl (qFieldAddr rfl rfl rfl rfl rfl) ?_
      refine jl_q rfl rfl (qFieldAddr rfl rfl rfl rfl rfl) ?_
      refine jl_q rfl rfl (qFieldAddr rfl rfl rfl rfl rfl) ?_
      refine jl_q rfl rfl (qLd rfl rfl rfl rfl (CJ.loc rfl)) ?_
      refine jl_q rfl rfl (qLen rfl rfl rfl) ?_
      refine jf rfl (decide_eq_false (by omega)) ?_
      iterate 2 refine jp rfl ?_
      refine jl_q rfl rfl (qFieldAddr rfl rfl rfl rfl rfl) ?_
      refine jl_q rfl rfl (qLd rfl rfl rfl rfl (CJ.loc rfl)) ?_
      refine jl_q rfl rfl (qFieldAddr rfl rfl rfl rfl rfl) ?_
      refine jl_q rfl rfl (qLd rfl rfl rfl rfl (CJ.loc rfl)) ?_
      refine jl_q rfl rfl (qEq (qP rfl rfl) (v' := .int .u32 (p.gen + 1)) (by congr 1; rw [IntKind.wrap_u32]; omega)) ?_
      refine jf rfl (decide_eq_false (by omega)) ?_
      iterate 2 refine jp rfl ?_
      refine jl_q rfl rfl (qFieldAddr rfl rfl rfl rfl rfl) ?_
      refine jl_q rfl rfl (qLd rfl rfl rfl rfl (CJ.loc rfl)) ?_
      refine jl_q rfl rfl (qFieldAddr rfl rfl rfl rfl rfl) ?_
      refine jl_q rfl rfl (qLd rfl rfl rfl rfl (CJ.loc rfl)) ?_
      refine jf rfl (decide_eq_false (by omega)) ?_
      iterate 2 refine jp rfl ?_
      refine jl_q rfl rfl (qFieldAddr rfl rfl rfl rfl rfl) ?_
      refine jl_q rfl rfl (qLd rfl rfl rfl rfl (CJ.loc rfl)) ?_
      refine jl_q rfl rfl (qFieldAddr rfl rfl rfl rfl rfl) ?_
      refine jl_q rfl rfl (qLd rfl rfl rfl rfl (CJ.loc rfl)) ?_
      refine jf rfl (decide_eq_false (by omega)) ?_
      iterate 2 refine jp rfl ?_
      refine jl_q rfl rfl (qFieldAddr rfl rfl rfl rfl rfl) ?_
      refine jl_q rfl rfl (qFieldAddr rfl rfl rfl rfl rfl) ?_
      refine jl_q rfl rfl (qLd rfl rfl rfl rfl (CJ.loc rfl)) ?_
      refine jl_q rfl rfl (qEq (qStr (xs := (cmt p).st.now.map fun b => (b.toNat : Int)) rfl rfl rfl (by rw [List.length_map, hyc.n.len]) (by simpa [bcells, List.map_map, Function.comp_def] using hyc.n.sm.sj _)) (v' := .string (strB (cmt p).st.now)) (by rw [strOfNums_b])) ?_
      refine jl_q rfl rfl (qFieldAddr rfl rfl rfl rfl rfl) ?_
      refine jl_q rfl rfl (qFieldAddr rfl rfl rfl rfl rfl) ?_
      refine jl_q rfl rfl (qLd rfl rfl rfl rfl (CJ.loc rfl)) ?_
      refine jl_q rfl rfl (qEq (qStr (xs := p.st.now.map fun b => (b.toNat : Int)) rfl rfl rfl (by rw [List.length_map, hxc.n.len]) (by simpa [bcells, List.map_map, Function.comp_def] using hxc.n.sm.sj _)) (v' := .string (strB p.st.now)) (by rw [strOfNums_b])) ?_
      refine jl_q rfl rfl (qEq (qP rfl rfl) (v' := .bool false) (by rw [strB_eq]; simp [cmt])) ?_
      iterate 2 refine jp rfl ?_
      refine jl_q rfl rfl (qFieldAddr rfl rfl rfl rfl rfl) ?_
      refine jl_q rfl rfl (qFieldAddr rfl rfl rfl rfl rfl) ?_
      refine jl_q rfl rfl (qLd rfl rfl rfl rfl (CJ.loc rfl)) ?_
      refine jl_q rfl rfl (qEq (qStr (xs := (cmt p).st.last.map fun b => (b.toNat : Int)) rfl rfl rfl (by rw [List.length_map, hyc.l.len]) (by simpa [bcells, List.map_map, Function.comp_def] using hyc.l.sm.sj _)) (v' := .string (strB (cmt p).st.last)) (by rw [strOfNums_b])) ?_
      refine jl_q rfl rfl (qFieldAddr rfl rfl rfl rfl rfl) ?_
      refine jl_q rfl rfl (qFieldAddr rfl rfl rfl rfl rfl) ?_
      refine jl_q rfl rfl (qLd rfl rfl rfl rfl (CJ.loc rfl)) ?_
      refine jl_q rfl rfl (qEq (qStr (xs := p.st.now.map fun b => (b.toNat : Int)) rfl rfl rfl (by rw [List.length_map, hxc.n.len]) (by simpa [bcells, List.map_map, Function.comp_def] using hxc.n.sm.sj _)) (v' := .string (strB p.st.now)) (by rw [strOfNums_b])) ?_
      refine jl_q rfl rfl (qEq (qP rfl rfl) (v' := .bool false) (by rw [strB_eq]; simp [cmt])) ?_
      refine jp rfl ?_
      refine jl_nil ?_
      refine jT ?_
      refine jc_no rfl ?_
      refine jc_skip ?_
      refine jT ?_
      refine jc_seq ?_
      refine jc_region ?_
      refine jl_q rfl rfl (qFieldAddr rfl rfl rfl rfl rfl) ?_
      refine jl_q rfl rfl (qFieldAddr rfl rfl rfl rfl rfl) ?_
      refine jl_q rfl rfl (qLdL rfl rfl rfl rfl rfl (by first | (simp only [Nat.reduceAdd, Nat.zero_add, Nat.add_zero, List.drop_succ_cons, List.drop_zero, List.drop_nil, List.take_succ_cons, List.take_zero, List.take_nil, List.cons_append, List.nil_append, List.append_nil, List.length_cons, List.length_nil]; try rfl) | rfl)) ?_
      refine jl_h rfl rfl (hCall rfl rfl rfl rfl rfl (by kernel_rfl) (find_spec (cmt p).st _ _ M4 hyc.b hyc.w hstq.1)) ?_; rintro _ M5 _ ⟨hM5, _, rfl, ⟨hfi, rfl⟩⟩
      simp only [List.nil_append]
      have hm1 := fnd_new hok hn hgm
      obtain ⟨fv, fe, rfl, hfi⟩ := hfi
      rcases hfi with ⟨_, hnil, _⟩ | ⟨rfl, ys, hperm, ⟨ra, rc, rfl, hrs⟩, _⟩
      · rw [hnil] at hm1; cases hm1
      obtain ⟨x1, hx1, hxe1⟩ := List.mem_map.1 (hperm.mem_iff.2 hm1)
      have hxs : isSup p x1 := by unfold isSup; rw [hxe1]; exact ⟨rfl, rfl, rfl, rfl⟩
      have hyl : ys.length ≤ 4 := by rw [← List.length_map (f := (·.1)), hperm.length_eq]; exact fndL_len _ 4
      have hy0 : 0 < ys.length := List.length_pos_of_mem hx1
      obtain ⟨rb, ro, e0, hx⟩ := hrs.open (by intro e; have := congrArg List.length e; rw [flat_len srow 5 srow_len, List.length_nil] at this; omega)
      subst e0
      have hyf := hyc.mono hM5
      have hxf := hxc.mono hM5
      iterate 5 refine jp rfl ?_
      refine jl_nil ?_
      refine jT ?_
      refine jc_seq ?_
      refine jc_region ?_
      refine jp rfl ?_
      refine jl_nil ?_
      refine jT ?_
      refine jc_seq ?_
      refine jc_seq ?_
      refine jc_region ?_
      refine jp rfl ?_
      refine jl_nil ?_
      refine jT ?_
      refine jc_block ?_
      refine jc_loopK (α := Nat × Mem × Bool) (fun s => [(1, .pointer (some ⟨b1, 0, none⟩)), (3, .bool true), (4, .pointer (some ⟨b4, 0, none⟩)), (6, .slice (some ⟨rb, ro, none⟩) ys.length rc), (7, .int .i64 0), (8, .bool s.2.2), (9, .int .i64 (s.1 : Int))]) (fun s => s.2.1) (fun _ => [(b4, .cells (pcl y (p.gen + 1) p.root p.next).toArray TPo (0, 0)), (b1, .cells (pcl x0 p.gen p.root p.next).toArray TPo (0, 0))]) (fun s => s.1 ≤ ys.length ∧ MLe M5 s.2.1 ∧ (s.2.2 = true ↔ ∃ x ∈ ys.take s.1, isSup p x)) (fun s => ys.length - s.1)
        (0, M5, false) (Keep.cons (t := 1) rfl (Keep.cons (t := 3) rfl (Keep.cons (t := 4) rfl (Keep.cons (t := 6) rfl (Keep.cons (t := 7) rfl (Keep.cons (t := 8) rfl (Keep.cons (t := 9) rfl Keep.nil))))))) ⟨Nat.zero_le _, MLe.refl _, by simp⟩ (fun _ h => h) ?_
      rintro ⟨k, Mk, fo⟩ ⟨hk, hMk, hfo⟩
      try dsimp only at hk hMk hfo ⊢
      have hyk := hyf.mono hMk
      refine jc_seq ?_
      refine jc_seq ?_
      refine jc_region ?_
      iterate 2 refine jp rfl ?_
      refine jl_q rfl rfl (qLen rfl rfl rfl) ?_
      refine js rfl (fun h108 => ?_) (fun h108 => ?_)
      · refine jl_nil ?_
        refine jT ?_
        refine jc_yes rfl ?_
        refine jc_skip ?_
        refine jT ?_
        refine jc_seq ?_
        refine jc_block ?_
        refine jc_seq ?_
        refine jc_region ?_
        refine jl_q rfl rfl (qFieldAddr rfl rfl rfl rfl rfl) ?_
        refine jl_q rfl rfl (qFieldAddr rfl rfl rfl rfl rfl) ?_
        refine jl_q rfl rfl (qLdL rfl rfl rfl rfl rfl (by first | (simp only [Nat.reduceAdd, Nat.zero_add, Nat.add_zero, List.drop_succ_cons, List.drop_zero, List.drop_nil, List.take_succ_cons, List.take_zero, List.take_nil, List.cons_append, List.nil_append, List.append_nil, List.length_cons, List.length_nil]; try rfl) | rfl)) ?_
        refine jl_q rfl rfl (qFieldAddr rfl rfl rfl rfl rfl) ?_
        refine jl_q rfl rfl (qLd rfl rfl rfl rfl (CJ.loc rfl)) ?_
        refine jl_q rfl rfl (qRem rfl rfl rfl rfl (by omega) (by omega)) ?_
        refine jl_q rfl rfl (qConv64 rfl rfl rfl (by omega)) ?_
        have hk1 : k < ys.length := by omega
        refine jl_h rfl rfl (hCall rfl rfl rfl rfl rfl (by kernel_rfl) (cread_spec (cmt p).st _ _ Mk hyk.b hyk.w hstq.1 ((p.gen + 1) % 2) (by omega) (4 + 2 * ((p.gen + 1) % 2)).toNat (by omega) p.st.now (cmt_table hok hn (by omega)) hnow)) ?_; rintro _ M6 _ ⟨hM6, _, rfl, ⟨⟨tv, rfl, hbt⟩, rfl⟩⟩
        simp only [List.nil_append]
        obtain ⟨tv, rfl⟩ := hbt.sl
        iterate 5 refine jp rfl ?_
        refine jl_nil ?_
        refine jT ?_
        refine jc_seq ?_
        refine jc_region ?_
        refine jp rfl ?_
        refine jl_q rfl rfl (qCall rfl rfl rfl rfl rfl (by kernel_rfl) (csum_spec p.st.now _ M6 hbt hnow)) ?_
        iterate 5 refine jp rfl ?_
        refine jl_nil ?_
        refine jT ?_
        refine jc_draw [(0, true), (1, true), (2, true), (3, true), (4, true), (5, true), (6, true), (7, true), (8, true), (9, true), (10, true), (11, true), (12, true), (13, true), (14, true), (15, true), (16, true), (17, true), (18, true), (19, true), (20, true), (21, true), (22, true), (23, true), (24, true), (25, true), (26, true), (27, true), (28, true), (29, true), (30, true), (31, true), (32, true), (33, true), (34, true), (35, true), (36, true), (37, true), (38, true), (39, true), (40, true), (41, true), (42, true), (43, true), (44, true), (45, true), (46, true), (47, true), (48, true), (49, true), (50, true), (51, true), (52, true), (53, true), (54, true), (55, true), (56, true), (57, true)] _ (by kernel_rfl) (by kernel_rfl) (by kernel_rfl) rfl (fun _ h => h) ?_
        refine dp rfl rfl ?_
        refine jd_qb rfl rfl rfl (qP rfl rfl) (fun h128 => ?_) (fun h128 => ?_)
        · iterate 56 refine dp rfl rfl ?_
          refine jd_nil ?_
          refine jPn ?_
          refine jB ?_
          refine jT ?_
          refine jc_region ?_
          refine jp rfl ?_
          refine ja rfl (by omega) ?_
          refine jp rfl ?_
          refine jl_nil ?_
          refine j_again (k + 1, M6, true) (Keep.cons (t := 1) rfl (Keep.cons (t := 3) rfl (Keep.cons (t := 4) rfl (Keep.cons (t := 6) rfl (Keep.cons (t := 7) rfl (Keep.cons (t := 8) rfl (Keep.cons (t := 9) rfl Keep.nil))))))) ⟨by show k + 1 ≤ ys.length; omega, hMk.trans hM6, by rw [any_at hk1]; simp only [true_iff]; exact .inl (hfo.1 h128)⟩ (by show ys.length - (k + 1) < ys.length - k; omega) (fun _ h => h)
        · iterate 2 refine dp rfl rfl ?_
          refine jd_q rfl rfl rfl (qIdxS rfl rfl rfl rfl (by omega)) ?_
          refine jd_q rfl rfl rfl (qFieldAddr rfl rfl rfl rfl rfl) ?_
          refine jd_q rfl rfl rfl (qLd (v := .int .u32 ys[k].1.gen) rfl rfl rfl rfl (((flat_cm srow 5 srow_len hx (List.getElem?_eq_getElem hk1) 0 _ rfl).mono (hMk.trans hM6)).cj _)) ?_
          refine jd_q rfl rfl rfl (qFieldAddr rfl rfl rfl rfl rfl) ?_
          refine jd_q rfl rfl rfl (qLd rfl rfl rfl rfl (CJ.loc rfl)) ?_
          refine ds rfl rfl (fun h136 => ?_) (fun h136 => ?_)
          · iterate 3 refine dp rfl rfl ?_
            refine jd_q rfl rfl rfl (qIdxS rfl rfl rfl rfl (by omega)) ?_
            refine jd_q rfl rfl rfl (qFieldAddr rfl rfl rfl rfl rfl) ?_
            refine jd_q rfl rfl rfl (qLd (v := .int .i64 ys[k].1.root) rfl rfl rfl rfl (((flat_cm srow 5 srow_len hx (List.getElem?_eq_getElem hk1) 1 _ rfl).mono (hMk.trans hM6)).cj _)) ?_
            refine jd_q rfl rfl rfl (qFieldAddr rfl rfl rfl rfl rfl) ?_
            refine jd_q rfl rfl rfl (qLd rfl rfl rfl rfl (CJ.loc rfl)) ?_
            refine ds rfl rfl (fun h145 => ?_) (fun h145 => ?_)
            · iterate 4 refine dp rfl rfl ?_
              refine jd_q rfl rfl rfl (qIdxS rfl rfl rfl rfl (by omega)) ?_
              refine jd_q rfl rfl rfl (qFieldAddr rfl rfl rfl rfl rfl) ?_
              refine jd_q rfl rfl rfl (qLd (v := .int .u32 ys[k].1.next) rfl rfl rfl rfl (((flat_cm srow 5 srow_len hx (List.getElem?_eq_getElem hk1) 2 _ rfl).mono (hMk.trans hM6)).cj _)) ?_
              refine jd_q rfl rfl rfl (qFieldAddr rfl rfl rfl rfl rfl) ?_
              refine jd_q rfl rfl rfl (qLd rfl rfl rfl rfl (CJ.loc rfl)) ?_
              refine ds rfl rfl (fun h155 => ?_) (fun h155 => ?_)
              · iterate 3 refine dp rfl rfl ?_
                refine dt rfl rfl (decide_eq_true (by omega)) ?_
                iterate 3 refine dp rfl rfl ?_
                refine dt rfl rfl (decide_eq_true (by omega)) ?_
                iterate 4 refine dp rfl rfl ?_
                refine jd_q rfl rfl rfl (qIdxS rfl rfl rfl rfl (by omega)) ?_
                refine jd_q rfl rfl rfl (qFieldAddr rfl rfl rfl rfl rfl) ?_
                refine jd_q rfl rfl rfl (qLd (v := .int .u32 ys[k].1.table) rfl rfl rfl rfl (((flat_cm srow 5 srow_len hx (List.getElem?_eq_getElem hk1) 3 _ rfl).mono (hMk.trans hM6)).cj _)) ?_
                refine dp rfl rfl ?_
                refine ds rfl rfl (fun h172 => ?_) (fun h172 => ?_)
                · iterate 3 refine dp rfl rfl ?_
                  refine jd_q rfl rfl rfl (qEq (qStr (xs := p.st.now.map fun b => (b.toNat : Int)) rfl rfl rfl (by rw [List.length_map, hbt.len]) (by simpa [bcells, List.map_map, Function.comp_def] using hbt.sm.sj _)) (v' := .string (strB p.st.now)) (by rw [strOfNums_b])) ?_
                  refine jd_q rfl rfl rfl (qFieldAddr rfl rfl rfl rfl rfl) ?_
                  refine jd_q rfl rfl rfl (qFieldAddr rfl rfl rfl rfl rfl) ?_
                  refine jd_q rfl rfl rfl (qLd rfl rfl rfl rfl (CJ.loc rfl)) ?_
                  refine jd_q rfl rfl rfl (qEq (qStr (xs := (cmt p).st.now.map fun b => (b.toNat : Int)) rfl rfl rfl (by rw [List.length_map, (hyk.mono hM6).n.len]) (by simpa [bcells, List.map_map, Function.comp_def] using (hyk.mono hM6).n.sm.sj _)) (v' := .string (strB (cmt p).st.now)) (by rw [strOfNums_b])) ?_
                  refine jd_q rfl rfl rfl (qEq (qP rfl rfl) (v' := .bool true) (by rw [strB_eq]; simp [cmt])) ?_
                  iterate 3 refine dp rfl rfl ?_
                  refine jd_nil ?_
                  refine jPn ?_
                  refine jB ?_
                  refine jT ?_
                  refine jc_region ?_
                  refine jp rfl ?_
                  refine ja rfl (by omega) ?_
                  refine jp rfl ?_
                  refine jl_nil ?_
                  refine j_again (k + 1, M6, true) (Keep.cons (t := 1) rfl (Keep.cons (t := 3) rfl (Keep.cons (t := 4) rfl (Keep.cons (t := 6) rfl (Keep.cons (t := 7) rfl (Keep.cons (t := 8) rfl (Keep.cons (t := 9) rfl Keep.nil))))))) ⟨by show k + 1 ≤ ys.length; omega, hMk.trans hM6, by rw [any_at hk1]; simp only [true_iff]; exact .inr ⟨h136, h145, h155, h172⟩⟩ (by show ys.length - (k + 1) < ys.length - k; omega) (fun _ h => h)
                · iterate 12 refine dp rfl rfl ?_
                  refine jd_nil ?_
                  refine jPn ?_
                  refine jB ?_
                  refine jT ?_
                  refine jc_region ?_
                  refine jp rfl ?_
                  refine ja rfl (by omega) ?_
                  refine jp rfl ?_
                  refine jl_nil ?_
                  refine j_again (k + 1, M6, false) (Keep.cons (t := 1) rfl (Keep.cons (t := 3) rfl (Keep.cons (t := 4) rfl (Keep.cons (t := 6) rfl (Keep.cons (t := 7) rfl (Keep.cons (t := 8) rfl (Keep.cons (t := 9) rfl Keep.nil))))))) ⟨by show k + 1 ≤ ys.length; omega, hMk.trans hM6, by rw [any_at hk1]; simp only [Bool.false_eq_true, false_iff]; rintro (hh | hh); (have := hfo.2 hh; rw [h128] at this; cases this); exact h172 hh.2.2.2⟩ (by show ys.length - (k + 1) < ys.length - k; omega) (fun _ h => h)
              · iterate 29 refine dp rfl rfl ?_
                refine jd_nil ?_
                refine jPn ?_
                refine jB ?_
                refine jT ?_
                refine jc_region ?_
                refine jp rfl ?_
                refine ja rfl (by omega) ?_
                refine jp rfl ?_
                refine jl_nil ?_
                refine j_again (k + 1, M6, false) (Keep.cons (t := 1) rfl (Keep.cons (t := 3) rfl (Keep.cons (t := 4) rfl (Keep.cons (t := 6) rfl (Keep.cons (t := 7) rfl (Keep.cons (t := 8) rfl (Keep.cons (t := 9) rfl Keep.nil))))))) ⟨by show k + 1 ≤ ys.length; omega, hMk.trans hM6, by rw [any_at hk1]; simp only [Bool.false_eq_true, false_iff]; rintro (hh | hh); (have := hfo.2 hh; rw [h128] at this; cases this); exact h155 hh.2.2.1⟩ (by show ys.length - (k + 1) < ys.length - k; omega) (fun _ h => h)
            · iterate 39 refine dp rfl rfl ?_
              refine jd_nil ?_
              refine jPn ?_
              refine jB ?_
              refine jT ?_
              refine jc_region ?_
              refine jp rfl ?_
              refine ja rfl (by omega) ?_
              refine jp rfl ?_
              refine jl_nil ?_
              refine j_again (k + 1, M6, false) (Keep.cons (t := 1) rfl (Keep.cons (t := 3) rfl (Keep.cons (t := 4) rfl (Keep.cons (t := 6) rfl (Keep.cons (t := 7) rfl (Keep.cons (t := 8) rfl (Keep.cons (t := 9) rfl Keep.nil))))))) ⟨by show k + 1 ≤ ys.length; omega, hMk.trans hM6, by rw [any_at hk1]; simp only [Bool.false_eq_true, false_iff]; rintro (hh | hh); (have := hfo.2 hh; rw [h128] at this; cases this); exact h145 hh.2.1⟩ (by show ys.length - (k + 1) < ys.length - k; omega) (fun _ h => h)
          · iterate 48 refine dp rfl rfl ?_
            refine jd_nil ?_
            refine jPn ?_
            refine jB ?_
            refine jT ?_
            refine jc_region ?_
            refine jp rfl ?_
            refine ja rfl (by omega) ?_
            refine jp rfl ?_
            refine jl_nil ?_
            refine j_again (k + 1, M6, false) (Keep.cons (t := 1) rfl (Keep.cons (t := 3) rfl (Keep.cons (t := 4) rfl (Keep.cons (t := 6) rfl (Keep.cons (t := 7) rfl (Keep.cons (t := 8) rfl (Keep.cons (t := 9) rfl Keep.nil))))))) ⟨by show k + 1 ≤ ys.length; omega, hMk.trans hM6, by rw [any_at hk1]; simp only [Bool.false_eq_true, false_iff]; rintro (hh | hh); (have := hfo.2 hh; rw [h128] at this; cases this); exact h136 hh.1⟩ (by show ys.length - (k + 1) < ys.length - k; omega) (fun _ h => h)
      · refine jl_nil ?_
        refine jT ?_
        refine jc_no rfl ?_
        refine jc_exit ?_
        refine jTx ?_
        refine jTx ?_
        refine jBx ?_
        refine jT ?_
        refine jc_seq ?_
        refine jc_region ?_
        refine jl_q rfl rfl (qFieldAddr rfl rfl rfl rfl rfl) ?_
        refine jl_q rfl rfl (qLdL rfl rfl rfl rfl rfl (by first | (simp only [Nat.reduceAdd, Nat.zero_add, Nat.add_zero, List.drop_succ_cons, List.drop_zero, List.drop_nil, List.take_succ_cons, List.take_zero, List.take_nil, List.cons_append, List.nil_append, List.append_nil, List.length_cons, List.length_nil]; try rfl) | rfl)) ?_
        refine jl_h rfl rfl (hCall rfl rfl rfl rfl rfl (by kernel_rfl) (rfree_spec (cmt p).st _ _ _ _ Mk hyk.b hyk.w hyk.n hyk.l hstq)) ?_; rintro _ Mf _ ⟨hMf, _, rfl, ⟨⟨fa, fc, rfl⟩, rfl⟩⟩
        simp only [List.nil_append]
        iterate 5 refine jp rfl ?_
        refine jl_nil ?_
        refine jT ?_
        refine jc_seq ?_
        refine jc_region ?_
        refine jp rfl ?_
        refine jl_nil ?_
        refine jT ?_
        refine jc_seq ?_
        refine jc_seq ?_
        refine jc_region ?_
        refine jp rfl ?_
        refine jl_nil ?_
        refine jT ?_
        refine jc_block ?_
        refine jc_loopK (α := Nat × Mem × Nat) (fun s => [(1, .pointer (some ⟨b1, 0, none⟩)), (3, .bool true), (4, .pointer (some ⟨b4, 0, none⟩)), (7, .int .i64 0), (8, .bool fo), (14, .slice fa (frN (cmt p).st 256).length fc), (15, .int .i64 0), (16, .int .i64 (s.2.2 : Int)), (17, .int .i64 (s.1 : Int))]) (fun s => s.2.1) (fun _ => [(b4, .cells (pcl y (p.gen + 1) p.root p.next).toArray TPo (0, 0)), (b1, .cells (pcl x0 p.gen p.root p.next).toArray TPo (0, 0))]) (fun s => 8 ≤ s.1 ∧ s.1 ≤ 256 ∧ MLe Mf s.2.1 ∧ s.2.2 = (frN (cmt p).st s.1).length) (fun s => 256 - s.1)
          (8, Mf, 0) (Keep.cons (t := 1) rfl (Keep.cons (t := 3) rfl (Keep.cons (t := 4) rfl (Keep.cons (t := 7) rfl (Keep.cons (t := 8) rfl (Keep.cons (t := 14) rfl (Keep.cons (t := 15) rfl (Keep.cons (t := 16) rfl (Keep.cons (t := 17) rfl Keep.nil))))))))) ⟨Nat.le_refl _, by show 8 ≤ 256; omega, MLe.refl _, by show 0 = (frN (cmt p).st 8).length; rw [frN_8]; rfl⟩ (fun _ h => h) ?_
        rintro ⟨i, Mi, m⟩ ⟨hi0, hi, hMi, hm⟩
        try dsimp only at hi0 hi hMi hm ⊢
        have hyi := (hyk.mono hMf).mono hMi
        have hxi := ((hxf.mono hMk).mono hMf).mono hMi
        have hfl := frN_len (cmt p).st i
        refine jc_seq ?_
        refine jc_seq ?_
        refine jc_region ?_
        refine jp rfl ?_
        refine js rfl (fun h191 => ?_) (fun h191 => ?_)
        · refine jl_nil ?_
          refine jT ?_
          refine jc_yes rfl ?_
          refine jc_skip ?_
          refine jT ?_
          refine jc_seq ?_
          refine jc_block ?_
          refine jc_seq ?_
          refine jc_region ?_
          refine jl_q rfl rfl (qFieldAddr rfl rfl rfl rfl rfl) ?_
          refine jl_q rfl rfl (qFieldAddr rfl rfl rfl rfl rfl) ?_
          refine jl_q rfl rfl (qLdL rfl rfl rfl rfl rfl (by first | (simp only [Nat.reduceAdd, Nat.zero_add, Nat.add_zero, List.drop_succ_cons, List.drop_zero, List.drop_nil, List.take_succ_cons, List.take_zero, List.take_nil, List.cons_append, List.nil_append, List.append_nil, List.length_cons, List.length_nil]; try rfl) | rfl)) ?_
          refine jp rfl ?_
          have hi1 : i < 256 := by omega
          refine jl_h rfl rfl (hCall rfl rfl rfl rfl rfl (by kernel_rfl) (dread_spec p.st i x0.b.v x0.w.v Mi hxi.b hxi.w hok.st.1 hi1)) ?_; rintro _ M7 _ ⟨hM7, _, rfl, ⟨⟨rv1, rfl, hv1⟩, rfl⟩⟩
          simp only [List.nil_append]
          obtain ⟨dv1, rfl⟩ := hv1.sl
          iterate 5 refine jp rfl ?_
          refine jl_nil ?_
          refine jT ?_
          refine jc_seq ?_
          refine jc_region ?_
          refine jl_q rfl rfl (qFieldAddr rfl rfl rfl rfl rfl) ?_
          refine jl_q rfl rfl (qFieldAddr rfl rfl rfl rfl rfl) ?_
          refine jl_q rfl rfl (qLdL rfl rfl rfl rfl rfl (by first | (simp only [Nat.reduceAdd, Nat.zero_add, Nat.add_zero, List.drop_succ_cons, List.drop_zero, List.drop_nil, List.take_succ_cons, List.take_zero, List.take_nil, List.cons_append, List.nil_append, List.append_nil, List.length_cons, List.length_nil]; try rfl) | rfl)) ?_
          refine jp rfl ?_
          refine jl_h rfl rfl (hCall rfl rfl rfl rfl rfl (by kernel_rfl) (dread_spec (cmt p).st i y.b.v y.w.v M7 (hyi.mono hM7).b (hyi.mono hM7).w hstq.1 hi1)) ?_; rintro _ M8 _ ⟨hM8, _, rfl, ⟨⟨rv2, rfl, hv2⟩, rfl⟩⟩
          simp only [List.nil_append]
          obtain ⟨dv2, rfl⟩ := hv2.sl
          iterate 5 refine jp rfl ?_
          refine jl_nil ?_
          refine jT ?_
          refine jc_seq ?_
          refine jc_seq ?_
          refine jc_region ?_
          refine jp rfl ?_
          refine jf rfl (decide_eq_false (by omega)) ?_
          iterate 2 refine jp rfl ?_
          refine jf rfl (decide_eq_false (by omega)) ?_
          iterate 3 refine jp rfl ?_
          refine jl_q rfl rfl (qEq (qStr (xs := (seen p.st i).map fun b => (b.toNat : Int)) rfl rfl rfl (by rw [List.length_map, (hv1.mono hM8).len]) (by simpa [bcells, List.map_map, Function.comp_def] using (hv1.mono hM8).sm.sj _)) (v' := .string (strB (seen p.st i))) (by rw [strOfNums_b])) ?_
          refine jp rfl ?_
          refine jl_q rfl rfl (qEq (qStr (xs := (seen (cmt p).st i).map fun b => (b.toNat : Int)) rfl rfl rfl (by rw [List.length_map, hv2.len]) (by simpa [bcells, List.map_map, Function.comp_def] using hv2.sm.sj _)) (v' := .string (strB (seen (cmt p).st i))) (by rw [strOfNums_b])) ?_
          refine jl_q rfl rfl (qEq (qP rfl rfl) (v' := .bool false) (by rw [strB_eq]; simp only [Bool.not_eq_false', decide_eq_true_eq, Value.bool.injEq, Bool.not_eq_eq_eq_not, Bool.not_false]; exact (cmt_low hok hn (k := i) hi0 hi1).symm)) ?_
          refine jp rfl ?_
          refine jl_nil ?_
          refine jT ?_
          refine jc_no rfl ?_
          refine jc_skip ?_
          refine jT ?_
          refine jc_seq ?_
          refine jc_region ?_
          refine jl_q rfl rfl (qFieldAddr rfl rfl rfl rfl rfl) ?_
          refine jl_q rfl rfl (qFieldAddr rfl rfl rfl rfl rfl) ?_
          refine jl_q rfl rfl (qLd rfl rfl rfl rfl (CJ.loc rfl)) ?_
          refine jp rfl ?_
          have hyn2 : BS M8 y.n.v p.st.now := ((hyi.mono hM7).mono hM8).n
          obtain ⟨nb, no, e0n, nx⟩ := (hyn2.sm).open (by intro e; have := congrArg List.length e; rw [bcells_len, List.length_nil, hnow.1] at this; omega)
          refine jl_q rfl rfl (qIdxS (b := nb) (off := no) rfl rfl (by show some (Value.slice _ _ _) = _; rw [e0n]) rfl (by omega)) ?_
          refine jl_q rfl rfl (qLd rfl rfl rfl rfl ((nx _ _ (by rw [Nat.mul_one]; exact bget (xs := p.st.now) (j := i) (by rw [hnow.1]; exact hi1))).cj _)) ?_
          refine js rfl (fun h229 => ?_) (fun h229 => ?_)
          · refine jl_nil ?_
            refine jT ?_
            refine jc_yes rfl ?_
            refine jc_region ?_
            refine jp rfl ?_
            refine ja rfl (by omega) ?_
            refine jp rfl ?_
            refine jl_nil ?_
            refine jB ?_
            refine jT ?_
            refine jc_region ?_
            refine jp rfl ?_
            refine ja rfl (by omega) ?_
            refine jp rfl ?_
            refine jl_nil ?_
            refine j_again (i + 1, M8, m + 1) (Keep.cons (t := 1) rfl (Keep.cons (t := 3) rfl (Keep.cons (t := 4) rfl (Keep.cons (t := 7) rfl (Keep.cons (t := 8) rfl (Keep.cons (t := 14) rfl (Keep.cons (t := 15) rfl (Keep.cons (t := 16) rfl (Keep.cons (t := 17) rfl Keep.nil))))))))) ⟨by show 8 ≤ i + 1; omega, by show i + 1 ≤ 256; omega, hMi.trans (hM7.trans hM8), ?_⟩ (by show 256 - (i + 1) < 256 - i; omega) (fun _ h => h)
            show _ = (frN (cmt p).st (i + 1)).length; rw [frN_yes ((frOk_cmt hi0).2 h229), List.length_append, hm]; rfl
          · refine jl_nil ?_
            refine jT ?_
            refine jc_no rfl ?_
            refine jc_skip ?_
            refine jB ?_
            refine jT ?_
            refine jc_region ?_
            refine jp rfl ?_
            refine ja rfl (by omega) ?_
            refine jp rfl ?_
            refine jl_nil ?_
            refine j_again (i + 1, M8, m) (Keep.cons (t := 1) rfl (Keep.cons (t := 3) rfl (Keep.cons (t := 4) rfl (Keep.cons (t := 7) rfl (Keep.cons (t := 8) rfl (Keep.cons (t := 14) rfl (Keep.cons (t := 15) rfl (Keep.cons (t := 16) rfl (Keep.cons (t := 17) rfl Keep.nil))))))))) ⟨by show 8 ≤ i + 1; omega, by show i + 1 ≤ 256; omega, hMi.trans (hM7.trans hM8), ?_⟩ (by show 256 - (i + 1) < 256 - i; omega) (fun _ h => h)
            show _ = (frN (cmt p).st (i + 1)).length; rw [frN_no (fun h0 => h229 ((frOk_cmt hi0).1 h0)), hm]
        · refine jl_nil ?_
          refine jT ?_
          refine jc_no rfl ?_
          refine jc_exit ?_
          refine jTx ?_
          refine jTx ?_
          refine jBx ?_
          refine jT ?_
          refine jc_seq ?_
          refine jc_region ?_
          iterate 3 refine jp rfl ?_
          refine jt rfl (decide_eq_true (by omega)) ?_
          iterate 2 refine jp rfl ?_
          refine jsb rfl (fun h238 => ?_) (fun h238 => ?_)
          · iterate 3 refine jp rfl ?_
            refine jt rfl (decide_eq_true (by omega)) ?_
            iterate 4 refine jp rfl ?_
            refine jl_q rfl rfl (qLen rfl rfl rfl) ?_
            refine jl_q rfl rfl (qP rfl rfl) ?_
            iterate 2 refine jp rfl ?_
            refine jl_nil ?_
            refine jT ?_
            refine jc_ret ?_
            refine jq_drop (L' := []) (List.nil_sublist _) ?_
            refine jr1 rfl rfl ?_
            first | exact ⟨rfl, rfl⟩ | (refine ⟨congrArg Value.bool (decide_eq_true ?_), rfl⟩; obtain ⟨h0, _⟩ | ⟨_, _, rfl⟩ := hcc; exact absurd h0 h34; rfl; done) | (refine ⟨congrArg Value.bool (decide_eq_true ?_), rfl⟩; have hi2 : i = 256 := (by omega); subst hi2; rw [hm]; done) | (exfalso; have hkk : k = ys.length := (by omega); subst hkk; rw [List.take_length] at hfo; have hq := hfo.2 ⟨x1, hx1, hxs⟩; rw [h238] at hq; cases hq; done)
          · iterate 12 refine jp rfl ?_
            refine jl_nil ?_
            refine jT ?_
            refine jc_ret ?_
            refine jq_drop (L' := []) (List.nil_sublist _) ?_
            refine jr1 rfl rfl ?_
            first | exact ⟨rfl, rfl⟩ | (refine ⟨congrArg Value.bool (decide_eq_true ?_), rfl⟩; obtain ⟨h0, _⟩ | ⟨_, _, rfl⟩ := hcc; exact absurd h0 h34; rfl; done) | (refine ⟨congrArg Value.bool (decide_eq_true ?_), rfl⟩; have hi2 : i = 256 := (by omega); subst hi2; rw [hm]; done) | (exfalso; have hkk : k = ys.length := (by omega); subst hkk; rw [List.take_length] at hfo; have hq := hfo.2 ⟨x1, hx1, hxs⟩; rw [h238] at hq; cases hq; done)


theorem clasts_spec (p : Po) (x0 : V5) (M : Mem) (h : PT5 M x0 p) (hgen : 0 ≤ p.gen ∧ p.gen < 4294967296) (hnxt : 0 ≤ p.next ∧ p.next < 4294967296) : SpecL Tryz.prog 5 #[.agg (pcl x0 p.gen p.root p.next).toArray] M [] fun u _ _ => u = .bool true := (clasts_walk p x0 M h hgen hnxt).mono fun _ _ _ h => h.1

end Go.Proofs.YtjdmhbenpeedeaaGreat
