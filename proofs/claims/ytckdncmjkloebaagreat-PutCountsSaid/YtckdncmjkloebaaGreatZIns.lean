/- Walks: items put into a row of one's own. -/
import Derived.Test.YtckdncmjkloebaaGreatZMake
import Derived.Test.YtckdncmjkloebaaGreatZHi
namespace Go.Proofs.YtckdncmjkloebaaGreat
set_option linter.unusedVariables false
set_option linter.unusedSimpArgs false
open Go.RowKit

abbrev Ir := It × Value
/-- rows put in by two copies: there is room -/
theorem ins_room (A B V sp : List Value) (a b v : Nat) (ha : A.length = a) (hb : B.length = b) (hv : V.length = v) (hs : v ≤ sp.length) :
  ((((A ++ (B ++ sp)).take (a + v) ++ B ++ (A ++ (B ++ sp)).drop (a + v + B.length)).take a) ++ V ++ (((A ++ (B ++ sp)).take (a + v) ++ B ++ (A ++ (B ++ sp)).drop (a + v + B.length)).drop (a + V.length))) = A ++ V ++ B ++ (sp.drop v) := by
 subst ha hb hv
 have e1 : (A ++ (B ++ sp)).take (A.length + V.length) = A ++ (B ++ sp).take V.length := by rw [List.take_append]; simp [List.take_of_length_le]
 have e2 : (A ++ (B ++ sp)).drop (A.length + V.length + B.length) = sp.drop V.length := by
  rw [← List.append_assoc, List.drop_append, List.drop_eq_nil_of_le (by simp only [List.length_append]; omega), List.nil_append]; congr 1; all_goals (simp only [List.length_append]; omega)
 rw [e1, e2]
 have hl : ((B ++ sp).take V.length).length = V.length := by rw [List.length_take, List.length_append]; omega
 have e3 : (A ++ (B ++ sp).take V.length ++ B ++ sp.drop V.length).take A.length = A := by rw [List.append_assoc, List.append_assoc, List.take_left]
 have e4 : (A ++ (B ++ sp).take V.length ++ B ++ sp.drop V.length).drop (A.length + V.length) = B ++ sp.drop V.length := by
  rw [List.append_assoc, show A.length + V.length = (A ++ (B ++ sp).take V.length).length by rw [List.length_append, hl], List.drop_left]
 rw [e3, e4]; simp
/-- .. there is none: a block more -/
theorem ins_grow (A B V zs : List Value) (a b v : Nat) (ha : A.length = a) (hb : B.length = b) (hv : V.length = v) (hs : v + b ≤ zs.length) :
  ((((A ++ zs).take a ++ V ++ (A ++ zs).drop (a + V.length)).take (a + v)) ++ B ++ (((A ++ zs).take a ++ V ++ (A ++ zs).drop (a + V.length)).drop (a + v + B.length))) = A ++ V ++ B ++ zs.drop (v + b) := by
 subst ha hb hv
 have e1 : (A ++ zs).drop (A.length + V.length) = zs.drop V.length := by rw [List.drop_append, List.drop_eq_nil_of_le (by omega), List.nil_append]; congr 1; omega
 rw [List.take_left, e1]
 have e2 : (A ++ V ++ zs.drop V.length).take (A.length + V.length) = A ++ V := by rw [show A.length + V.length = (A ++ V).length by rw [List.length_append], List.take_left]
 have e3 : (A ++ V ++ zs.drop V.length).drop (A.length + V.length + B.length) = zs.drop (V.length + B.length) := by
  rw [List.drop_append, List.drop_eq_nil_of_le (by rw [List.length_append]; omega), List.nil_append, List.drop_drop]; congr 1; rw [List.length_append]; omega
 rw [e2, e3]


theorem fl (p : List Ir) : (p.flatMap icell).length = p.length * 5 := flat_len icell 5 icell_len p
theorem rows_one {p : List Ir} (h : ∀ x ∈ p, x.2.oneCell' = true) : ∀ u ∈ p.flatMap icell, u.oneCell' = true := fun u hu => by
 obtain ⟨x, hx, hu⟩ := List.mem_flatMap.1 hu
 simp only [icell, List.mem_cons, List.not_mem_nil, or_false] at hu
 rcases hu with rfl | rfl | rfl | rfl | rfl
 ·rfl
 ·rfl
 ·rfl
 ·rfl
 ·exact h x hx
theorem sj_own {M : Mem} {L : Lc} {g off : Nat} {A B sp : List Value} {e : TypeId} (hm : (g, Obj.cells (A ++ (B ++ sp)).toArray e (0, 0)) ∈ L) (ho : off = A.length) : SJ M L (some ⟨g, off, none⟩) B :=
 .inr ⟨g, off, rfl, fun i v hv => ⟨_, _, _, .inr hm, by
  subst ho
  have hi := (List.getElem?_eq_some_iff.1 hv).1
  rw [List.getElem?_toArray, List.getElem?_append_right (by omega), Nat.add_sub_cancel_left, List.getElem?_append_left hi]; exact hv⟩⟩
theorem cj_own {M : Mem} {L : Lc} {g : Nat} {A B : List Value} {e : TypeId} (hm : (g, Obj.cells (A ++ B).toArray e (0, 0)) ∈ L) : ∀ i v, A[i]? = some v → CJ M L g (0 + i) v := fun i v hv => ⟨_, _, _, .inr hm, by
 have hi := (List.getElem?_eq_some_iff.1 hv).1
 rw [List.getElem?_toArray, Nat.zero_add, List.getElem?_append_left hi]; exact hv⟩
theorem own_row {g n cap : Nat} {e : TypeId} {l xs rest : List Value} (hl : l = xs ++ rest) (hx : xs.length = n * 5) (hn : n ≤ cap) (hc : cap ≤ maxLen) (hs : l.length = cap * 5) : Own (.slice (some ⟨g, 0, none⟩) n cap) [(g, .cells l.toArray e (0, 0))] e 5 n xs :=
 ⟨hx, .inr ⟨g, cap, l.toArray, rfl, rfl, hn, hc, by simpa using hs, by rw [hl, ← hx]; exact List.take_left⟩⟩


theorem SM.of_block_pre {M : Mem} {b : Nat} {xs ys : List Value} {e : TypeId} {fz : Nat × Nat} (h : M b = some (.cells (xs ++ ys).toArray e fz)) : SM M (some ⟨b, 0, none⟩) xs :=
 .inr ⟨b, 0, rfl, fun i u hu => ⟨_, _, _, h, by
  have hi := (List.getElem?_eq_some_iff.1 hu).1
  rw [List.getElem?_toArray, Nat.zero_add, List.getElem?_append_left hi]; exact hu⟩⟩

set_option maxHeartbeats 2000000 in
theorem ins_mid (p1 p2 vs : List Ir) (g c : Nat) (sp : List Value) (vb vc : Nat) (vl : List Value) (ve : TypeId) (M : Mem) (hvb : M vb = some (.cells (vs.flatMap icell ++ vl).toArray ve (0, 0))) (hvo : ∀ x ∈ vs, x.2.oneCell' = true) (hpo : ∀ x ∈ p2, x.2.oneCell' = true) (hm : 0 < vs.length) (h2 : 0 < p2.length) (hc : p1.length + p2.length ≤ c) (hcm : c ≤ maxLen) (hsp : sp.length = (c - (p1.length + p2.length)) * 5) (hbig : p1.length + p2.length + vs.length ≤ 100000) :
  SpecL Tryz.prog 75 #[.slice (some ⟨g, 0, none⟩) (p1.length + p2.length) c, .int .i64 p1.length, .slice (some ⟨vb, 0, none⟩) vs.length vc] M [(g, .cells (p1.flatMap icell ++ (p2.flatMap icell ++ sp)).toArray IT (0, 0))] fun u M' L' => Own u L' IT 5 (p1.length + vs.length + p2.length) ((p1 ++ vs ++ p2).flatMap icell) := by
 refine spec_body (vs := [_, _, _]) 95 _ Tryz.func75 rfl Tryz.ntmps75 rfl rfl ?_; intro W
 refine jc_seq ?_
 refine jc_region ?_
 refine jp rfl ?_
 refine jl_nil ?_
 refine jT ?_
 refine jc_seq ?_
 refine jc_region ?_
 iterate 2 refine jp rfl ?_
 refine jl_q rfl rfl (qSl rfl rfl rfl (.no _) (.no _) (.of (v := p1.length) rfl (by omega) (by omega)) (by omega) (by simp)) ?_
 refine jl_nil ?_
 refine jT ?_
 refine jc_seq ?_
 refine jc_region ?_
 refine jp rfl ?_
 refine jl_q rfl rfl (qLen rfl rfl rfl) ?_
 refine jp rfl ?_
 refine jl_nil ?_
 refine jT ?_
 refine jc_seq ?_
 refine jc_seq ?_
 refine jc_region ?_
 refine jp rfl ?_
 refine jf rfl (decide_eq_false (by omega)) ?_
 refine jl_nil ?_
 refine jT ?_
 refine jc_no rfl ?_
 refine jc_skip ?_
 refine jT ?_
 refine jc_seq ?_
 refine jc_region ?_
 refine jp rfl ?_
 refine jl_q rfl rfl (qLen rfl rfl rfl) ?_
 refine jp rfl ?_
 refine jl_nil ?_
 refine jT ?_
 refine jc_seq ?_
 refine jc_seq ?_
 refine jc_region ?_
 iterate 2 refine jp rfl ?_
 refine jf rfl (decide_eq_false (by omega)) ?_
 refine jl_nil ?_
 refine jT ?_
 refine jc_no rfl ?_
 refine jc_skip ?_
 refine jT ?_
 refine jc_seq ?_
 refine jc_seq ?_
 refine jc_region ?_
 iterate 2 refine jp rfl ?_
 refine ja rfl (by omega) ?_
 refine jp rfl ?_
 refine jl_q rfl rfl (qCap rfl rfl rfl) ?_
 refine js rfl (fun h31 => ?_) (fun h31 => ?_)
 ·refine jl_nil ?_
  refine jT ?_
  refine jc_yes rfl ?_
  refine jc_seq ?_
  refine jc_region ?_
  iterate 2 refine jp rfl ?_
  refine jl_q rfl rfl (qEq (qSl rfl rfl rfl (.no _) (.of (v := p1.length) rfl (by omega) (by omega)) (.no _) (by omega) (by simp)) (v' := .slice (some ⟨g, 0, none⟩) (p1.length) (c)) (by rw [slA_zero]; rfl)) ?_
  iterate 2 refine jp rfl ?_
  refine ja rfl (by omega) ?_
  refine jp rfl ?_
  refine ja rfl (by omega) ?_
  refine jl_h rfl rfl (hAppendZG (m := vs.length + p2.length) (xs := p1.flatMap icell) rfl rfl rfl rfl (by omega) (fl p1) (cj_own (List.Mem.head _)) rfl (by omega) (by omega) (by omega) (by omega)) ?_; rintro _ _ _ ⟨rfl, g2, c2, zs, rfl, rfl, hc2a, hc2b, hzs⟩
  refine jp rfl ?_
  refine jl_nil ?_
  refine jT ?_
  refine jc_seq ?_
  refine jc_region ?_
  iterate 2 refine jp rfl ?_
  refine jl_q rfl rfl (qEq (qSl rfl rfl rfl (.no _) (.no _) (.of (v := p1.length) rfl (by omega) (by omega)) (by omega) (by simp)) (v' := .slice (some ⟨g2, p1.length * 5, none⟩) (p1.length + (vs.length + p2.length) - p1.length) (c2 - p1.length)) (by rw [slA_some (by omega)]; exact congrArg (fun k => Value.slice (some ⟨g2, k, none⟩) _ _) (by omega))) ?_
  refine jp rfl ?_
  refine jl_h rfl rfl (hCopyN (cs := vs.flatMap icell) rfl rfl rfl rfl (by rw [fl]; congr 1; omega) ((SM.of_block_pre hvb).sj _) (rows_one hvo) (by simp only [List.length_append, List.length_take, List.length_drop, fl]; omega)) ?_; rintro _ _ _ ⟨rfl, rfl, rfl⟩
  refine jl_nil ?_
  refine jT ?_
  refine jc_seq ?_
  refine jc_draw [(0, true), (1, true), (2, true), (3, true), (4, true), (5, true), (6, true), (7, true), (8, false)] [] (by kernel_rfl) (by kernel_rfl) (by kernel_rfl) rfl (by simp) ?_
  iterate 3 refine dp rfl rfl ?_
  refine da rfl rfl (by omega) ?_
  refine jd_q rfl rfl rfl (qEq (qSl rfl rfl rfl (.no _) (.no _) (.of (v := p1.length + vs.length) rfl (by omega) (by omega)) (by omega) (by simp)) (v' := .slice (some ⟨g2, p1.length * 5 + vs.length * 5, none⟩) (p1.length + (vs.length + p2.length) - (p1.length + vs.length)) (c2 - (p1.length + vs.length))) (by rw [slA_some (by omega)]; exact congrArg (fun k => Value.slice (some ⟨g2, k, none⟩) _ _) (by omega))) ?_
  iterate 2 refine dp rfl rfl ?_
  refine jd_q rfl rfl rfl (qEq (qSl rfl rfl rfl (.no _) (.no _) (.of (v := p1.length) rfl (by omega) (by omega)) (by omega) (by simp)) (v' := .slice (some ⟨g, p1.length * 5, none⟩) ((p1.length + p2.length) - p1.length) (c - p1.length)) (by rw [slA_some (by omega)]; exact congrArg (fun k => Value.slice (some ⟨g, k, none⟩) _ _) (by omega))) ?_
  refine jd_h rfl rfl rfl (hCopyN (cs := p2.flatMap icell) rfl rfl rfl rfl (by rw [fl]; congr 1; omega) (sj_own (List.Mem.tail _ (List.Mem.head _)) (fl p1).symm) (rows_one hpo) (by simp only [List.length_append, List.length_take, List.length_drop, fl]; omega)) ?_; rintro _ _ _ ⟨rfl, rfl, rfl⟩
  refine ⟨_, _, MLe.refl _, MLe.refl _, fun _ h => h, by simp, ?_⟩
  refine jd_nil ?_
  refine jPn ?_
  refine jT ?_
  refine jc_seq ?_
  refine jc_region ?_
  iterate 2 refine jp rfl ?_
  refine jl_nil ?_
  refine jT ?_
  refine jc_ret ?_
  refine jTr ?_
  refine jq_drop (List.Sublist.cons_cons _ (List.nil_sublist _)) ?_
  refine jr1 rfl rfl ?_
  rw [show p1.length + (vs.length + p2.length) = p1.length + vs.length + p2.length by omega]
  exact own_row ((ins_grow _ _ _ zs (p1.length * 5) (p2.length * 5) (vs.length * 5) (fl p1) (fl p2) (fl vs) (by omega)).trans (by rw [List.flatMap_append, List.flatMap_append])) (by rw [fl, List.length_append, List.length_append]) (by omega) hc2b (by simp only [List.length_append, List.length_take, List.length_drop, fl]; omega)
 ·refine jl_nil ?_
  refine jT ?_
  refine jc_no rfl ?_
  refine jc_skip ?_
  refine jT ?_
  refine jc_seq ?_
  refine jc_region ?_
  iterate 3 refine jp rfl ?_
  refine ja rfl (by omega) ?_
  refine jl_q rfl rfl (qEq (qSl rfl rfl rfl (.no _) (.of (v := p1.length + p2.length + vs.length) rfl (by omega) (by omega)) (.no _) (by omega) (by simp)) (v' := .slice (some ⟨g, 0, none⟩) (p1.length + p2.length + vs.length) (c)) (by rw [slA_zero]; rfl)) ?_
  refine jp rfl ?_
  refine jl_nil ?_
  refine jT ?_
  refine jc_seq ?_
  refine jc_seq ?_
  refine jc_region ?_
  iterate 4 refine jp rfl ?_
  refine ja rfl (by omega) ?_
  refine jl_q rfl rfl (qEq (qSl rfl rfl rfl (.no _) (.no _) (.of (v := p1.length + vs.length) rfl (by omega) (by omega)) (by omega) (by simp)) (v' := .slice (some ⟨g, p1.length * 5 + vs.length * 5, none⟩) (p1.length + p2.length + vs.length - (p1.length + vs.length)) (c - (p1.length + vs.length))) (by rw [slA_some (by omega)]; exact congrArg (fun k => Value.slice (some ⟨g, k, none⟩) _ _) (by omega))) ?_
  refine jl_apart hvb (List.Mem.head _) (fun hne => ?_)
  refine jl_q rfl rfl (qEq (qOverlap (t := 52) (tr := 4) rfl rfl rfl rfl Tryz.func76 rfl rfl (by kernel_rfl) (by kernel_rfl) hvb (List.Mem.head _) hne (by simp only [List.length_append, fl]; omega)) (v' := .bool false) (by rfl)) ?_
  refine jp rfl ?_
  refine jl_nil ?_
  refine jT ?_
  refine jc_yes rfl ?_
  refine jc_seq ?_
  refine jc_draw [(0, true), (1, true), (2, true), (3, true), (4, true), (5, true), (6, true), (7, true), (8, false)] [] (by kernel_rfl) (by kernel_rfl) (by kernel_rfl) rfl (by simp) ?_
  iterate 3 refine dp rfl rfl ?_
  refine da rfl rfl (by omega) ?_
  refine jd_q rfl rfl rfl (qEq (qSl rfl rfl rfl (.no _) (.no _) (.of (v := p1.length + vs.length) rfl (by omega) (by omega)) (by omega) (by simp)) (v' := .slice (some ⟨g, p1.length * 5 + vs.length * 5, none⟩) (p1.length + p2.length + vs.length - (p1.length + vs.length)) (c - (p1.length + vs.length))) (by rw [slA_some (by omega)]; exact congrArg (fun k => Value.slice (some ⟨g, k, none⟩) _ _) (by omega))) ?_
  iterate 2 refine dp rfl rfl ?_
  refine jd_q rfl rfl rfl (qEq (qSl rfl rfl rfl (.no _) (.no _) (.of (v := p1.length) rfl (by omega) (by omega)) (by omega) (by simp)) (v' := .slice (some ⟨g, p1.length * 5, none⟩) (p1.length + p2.length + vs.length - p1.length) (c - p1.length)) (by rw [slA_some (by omega)]; exact congrArg (fun k => Value.slice (some ⟨g, k, none⟩) _ _) (by omega))) ?_
  refine jd_h rfl rfl rfl (hCopyN (cs := p2.flatMap icell) rfl rfl rfl rfl (by rw [fl]; congr 1; omega) (sj_own (List.Mem.head _) (fl p1).symm) (rows_one hpo) (by simp only [List.length_append, List.length_take, List.length_drop, fl]; omega)) ?_; rintro _ _ _ ⟨rfl, rfl, rfl⟩
  refine ⟨_, _, MLe.refl _, MLe.refl _, fun _ h => h, by simp, ?_⟩
  refine jd_nil ?_
  refine jPn ?_
  refine jT ?_
  refine jc_seq ?_
  refine jc_region ?_
  iterate 2 refine jp rfl ?_
  refine jl_q rfl rfl (qEq (qSl rfl rfl rfl (.no _) (.no _) (.of (v := p1.length) rfl (by omega) (by omega)) (by omega) (by simp)) (v' := .slice (some ⟨g, p1.length * 5, none⟩) (p1.length + p2.length + vs.length - p1.length) (c - p1.length)) (by rw [slA_some (by omega)]; exact congrArg (fun k => Value.slice (some ⟨g, k, none⟩) _ _) (by omega))) ?_
  refine jp rfl ?_
  refine jl_h rfl rfl (hCopyN (cs := vs.flatMap icell) rfl rfl rfl rfl (by rw [fl]; congr 1; omega) ((SM.of_block_pre hvb).sj _) (rows_one hvo) (by simp only [List.length_append, List.length_take, List.length_drop, fl]; omega)) ?_; rintro _ _ _ ⟨rfl, rfl, rfl⟩
  refine jl_nil ?_
  refine jT ?_
  refine jc_seq ?_
  refine jc_region ?_
  iterate 2 refine jp rfl ?_
  refine jl_nil ?_
  refine jT ?_
  refine jc_ret ?_
  refine jTr ?_
  refine jr1 rfl rfl ?_
  rw [show p1.length + p2.length + vs.length = p1.length + vs.length + p2.length by omega]
  exact own_row ((ins_room _ _ _ sp (p1.length * 5) (p2.length * 5) (vs.length * 5) (fl p1) (fl p2) (fl vs) (by omega)).trans (by rw [List.flatMap_append, List.flatMap_append])) (by rw [fl, List.length_append, List.length_append]) (by omega) hcm (by simp only [List.length_append, List.length_take, List.length_drop, fl]; omega)

theorem ins_end (ps vs : List Ir) (sa : Option Addr) (sc : Nat) (R : Lc) (hown : Own (.slice sa ps.length sc) R IT 5 ps.length (ps.flatMap icell)) (hpc : ps.length ≤ sc) (vb vc : Nat) (vl : List Value) (ve : TypeId) (M : Mem) (hvb : M vb = some (.cells (vs.flatMap icell ++ vl).toArray ve (0, 0))) (hvo : ∀ x ∈ vs, x.2.oneCell' = true) (hm : 0 < vs.length) (hbig : ps.length + vs.length ≤ 100000) :
  SpecL Tryz.prog 75 #[.slice sa ps.length sc, .int .i64 ps.length, .slice (some ⟨vb, 0, none⟩) vs.length vc] M R fun u M' L' => Own u L' IT 5 (ps.length + vs.length) ((ps ++ vs).flatMap icell) := by
 refine spec_body (vs := [_, _, _]) 95 _ Tryz.func75 rfl Tryz.ntmps75 rfl rfl ?_; intro W
 refine jc_seq ?_
 refine jc_region ?_
 refine jp rfl ?_
 refine jl_nil ?_
 refine jT ?_
 refine jc_seq ?_
 refine jc_region ?_
 iterate 2 refine jp rfl ?_
 refine jl_q rfl rfl (qSl rfl rfl rfl (.no _) (.no _) (.of (v := ps.length) rfl (by omega) (by omega)) (by omega) (by simp)) ?_
 refine jl_nil ?_
 refine jT ?_
 refine jc_seq ?_
 refine jc_region ?_
 refine jp rfl ?_
 refine jl_q rfl rfl (qLen rfl rfl rfl) ?_
 refine jp rfl ?_
 refine jl_nil ?_
 refine jT ?_
 refine jc_seq ?_
 refine jc_seq ?_
 refine jc_region ?_
 refine jp rfl ?_
 refine jf rfl (decide_eq_false (by omega)) ?_
 refine jl_nil ?_
 refine jT ?_
 refine jc_no rfl ?_
 refine jc_skip ?_
 refine jT ?_
 refine jc_seq ?_
 refine jc_region ?_
 refine jp rfl ?_
 refine jl_q rfl rfl (qLen rfl rfl rfl) ?_
 refine jp rfl ?_
 refine jl_nil ?_
 refine jT ?_
 refine jc_seq ?_
 refine jc_seq ?_
 refine jc_region ?_
 iterate 2 refine jp rfl ?_
 refine jt rfl (decide_eq_true (by omega)) ?_
 refine jl_nil ?_
 refine jT ?_
 refine jc_yes rfl ?_
 refine jc_seq ?_
 refine jc_region ?_
 iterate 2 refine jp rfl ?_
 refine jl_h rfl rfl (hAppendM (R := R) (n := ps.length) (m := vs.length) (news := vs.flatMap icell) rfl rfl rfl rfl hown (fl vs) (SM.of_block_pre hvb) rfl (rows_one hvo) (by omega) (by omega)) ?_; rintro _ _ _ ⟨rfl, R2, rfl, hown2⟩
 refine jp rfl ?_
 refine jl_nil ?_
 refine jT ?_
 refine jc_ret ?_
 refine jTr ?_
 refine jq_drop (L' := R2) (by simp) ?_
 refine jr1 rfl rfl ?_
 rw [List.flatMap_append]; exact hown2


/-- a row of one's own, told by its parts -/
theorem own_parts {ps : List Ir} {sa : Option Addr} {sc i : Nat} {R : Lc} (h : Own (.slice sa ps.length sc) R IT 5 ps.length (ps.flatMap icell)) (hi : i < ps.length) :
  ∃ g sp, sa = some ⟨g, 0, none⟩ ∧ R = [(g, .cells ((ps.take i).flatMap icell ++ ((ps.drop i).flatMap icell ++ sp)).toArray IT (0, 0))] ∧ ps.length ≤ sc ∧ sc ≤ maxLen ∧ sp.length = (sc - ps.length) * 5 := by
 obtain ⟨g, cap, cur, e, rfl, h1, h2, h3, h4⟩ := h.open (by omega)
 cases e
 refine ⟨g, cur.toList.drop (ps.length * 5), rfl, ?_, h1, h2, ?_⟩
 ·rw [← List.append_assoc, ← List.flatMap_append, List.take_append_drop, ← h4, List.take_append_drop, Array.toArray_toList]
 ·rw [List.length_drop, Array.length_toList, h3]; omega
theorem ins_spec (ps vs : List Ir) (i : Nat) (hi : i ≤ ps.length) (sa : Option Addr) (sc : Nat) (R : Lc) (hown : Own (.slice sa ps.length sc) R IT 5 ps.length (ps.flatMap icell)) (hpo : ∀ x ∈ ps, x.2.oneCell' = true) (hpc : ps.length ≤ sc) (vb vc : Nat) (vl : List Value) (ve : TypeId) (M : Mem) (hvb : M vb = some (.cells (vs.flatMap icell ++ vl).toArray ve (0, 0))) (hvo : ∀ x ∈ vs, x.2.oneCell' = true) (hm : 0 < vs.length) (hbig : ps.length + vs.length ≤ 100000) :
  SpecL Tryz.prog 75 #[.slice sa ps.length sc, .int .i64 i, .slice (some ⟨vb, 0, none⟩) vs.length vc] M R fun u _ L' => Own u L' IT 5 (ps.length + vs.length) ((ps.take i ++ vs ++ ps.drop i).flatMap icell) := by
 by_cases h : i = ps.length
 ·subst h
  rw [List.take_length, List.drop_length, List.append_nil]
  exact ins_end ps vs sa sc R hown hpc vb vc vl ve M hvb hvo hm hbig
 ·obtain ⟨g, sp, rfl, rfl, h1, h2, h3⟩ := own_parts hown (i := i) (by omega)
  have hl1 : (ps.take i).length = i := by rw [List.length_take]; omega
  have hl2 : (ps.drop i).length = ps.length - i := List.length_drop
  have hk := ins_mid (ps.take i) (ps.drop i) vs g sc sp vb vc vl ve M hvb hvo (fun x hx => hpo x (List.mem_of_mem_drop hx)) hm (by omega) (by omega) h2 (by rw [hl1, hl2]; rw [show i + (ps.length - i) = ps.length by omega]; exact h3) (by omega)
  rw [hl1, hl2, show i + (ps.length - i) = ps.length by omega, show i + vs.length + (ps.length - i) = ps.length + vs.length by omega] at hk
  exact hk

end Go.Proofs.YtckdncmjkloebaaGreat
