/- Walks: superblocks found. -/
import Derived.Test.YtjdmhbenpeedeaaGreatSort
import Derived.Test.YtjdmhbenpeedeaaGreatRread
import Derived.Test.YtjdmhbenpeedeaaGreatDread
namespace Go.Proofs.YtjdmhbenpeedeaaGreat
set_option linter.unusedVariables false
set_option linter.unusedSimpArgs false
open Go.RowKit

theorem SM.pre {M : Mem} {a : Option Addr} {xs ys : List Value} (h : SM M a (xs ++ ys)) : SM M a xs := by
  rcases h with h | ⟨b, off, h1, h2⟩
  · exact .inl (List.append_eq_nil_iff.1 h).1
  · exact .inr ⟨b, off, h1, fun i u hu => h2 i u (by rw [List.getElem?_append_left (List.getElem?_eq_some_iff.1 hu).1]; exact hu)⟩
theorem own_nil {n c : Nat} {R : Lc} {e : TypeId} {size : Nat} {xs : List Value} (h : Own (.slice none n c) R e size n xs) (hn : n = 0) : (.slice none n c : Value) = .slice none 0 0 := by
  rcases h.2 with ⟨h, _⟩ | ⟨_, _, _, h, _⟩
  · exact h
  · cases h
/-- superblocks in a slice -/
def RS (M : Mem) (v : Value) (ys : List Sr) : Prop := ∃ a c, v = .slice a ys.length c ∧ SM M a (ys.flatMap srow)
/-- what is found -/
def FiP (s : Sto) (u : Value) (M' : Mem) : Prop := ∃ v e, u = .tuple #[v, .int .i64 e] ∧ ((e = 40 ∧ fndL s 4 = [] ∧ v = .slice none 0 0) ∨ (e = 0 ∧ ∃ ys : List Sr, (ys.map (·.1)).Perm (fndL s 4) ∧ RS M' v ys ∧ ∀ p ∈ ys, NI M' p.2 p.1.dead))
theorem rsu_gen (xs : List By) : 0 ≤ (rsu xs).gen ∧ (rsu xs).gen < 4294967296 := getF_range _
theorem fndL_yes {s : Sto} {k : Nat} (h : suIs (seen s k)) (h2 : (rsu (seen s k)).gen % 4 = (k : Int)) : fndL s (k + 1) = fndL s k ++ [rsu (seen s k)] := by
  rw [fndL_step]; unfold fndAt; rw [if_pos ⟨h, h2⟩]; rfl
theorem fndL_no {s : Sto} {k : Nat} (h : ¬ (suIs (seen s k) ∧ (rsu (seen s k)).gen % 4 = (k : Int))) : fndL s (k + 1) = fndL s k := by
  rw [fndL_step]; unfold fndAt; rw [if_neg h]; simp

set_option maxHeartbeats 2000000 in
theorem find_spec (s : Sto) (bv wv : Value) (M : Mem) (h1 : LS M bv s.blocks) (h2 : WS M wv s.waits) (hdk : dkOk s.blocks s.waits) :
    SpecL Tryz.prog 16 #[.agg #[bv, wv]] M [] fun u M' L' => FiP s u M' ∧ L' = [] := by
  have hck : dkChk s.blocks s.waits = 0 := if_pos hdk
  refine spec_body (vs := [_]) 48 _ Tryz.func16 rfl Tryz.ntmps16 rfl rfl ?_; intro W
  refine jc_seq ?_
  refine jc_region ?_
  refine jl_h rfl rfl (hBox (cs := [_, _]) rfl rfl rfl rfl) ?_; rintro _ _ _ ⟨b1, rfl, rfl, rfl⟩
  iterate 2 refine jp rfl ?_
  refine jl_nil ?_
  refine jT ?_
  refine jc_seq ?_
  refine jc_seq ?_
  refine jc_region ?_
  refine jl_q rfl rfl (qLdL rfl rfl rfl rfl rfl (by first | (simp only [Nat.reduceAdd, Nat.zero_add, Nat.add_zero, List.drop_succ_cons, List.drop_zero, List.drop_nil, List.take_succ_cons, List.take_zero, List.take_nil, List.cons_append, List.nil_append, List.append_nil, List.length_cons, List.length_nil]; try rfl) | rfl)) ?_
  refine jl_q rfl rfl (qCall rfl rfl rfl rfl rfl (by kernel_rfl) (dcheck_spec s.blocks s.waits bv wv M h1 h2)) ?_
  refine jp rfl ?_
  refine jl_nil ?_
  refine jT ?_
  refine jc_seq ?_
  refine jc_region ?_
  refine jp rfl ?_
  refine jf rfl (decide_eq_false (by first | omega | (rw [hck]; decide))) ?_
  refine jl_nil ?_
  refine jT ?_
  refine jc_no rfl ?_
  refine jc_skip ?_
  refine jT ?_
  refine jc_seq ?_
  refine jc_seq ?_
  refine jc_region ?_
  refine jp rfl ?_
  refine jl_nil ?_
  refine jT ?_
  refine jc_block ?_
  refine jc_loopK (α := Nat × Mem × Lc × Value × List Sr) (fun y => [(1, .pointer (some ⟨b1, 0, none⟩)), (2, y.2.2.2.1), (15, .int .i64 y.1)]) (fun y => y.2.1) (fun y => y.2.2.1 ++ [(b1, .cells [bv, wv].toArray TDk (0, 0))]) (fun y => y.1 ≤ 4 ∧ MLe M y.2.1 ∧ Own y.2.2.2.1 y.2.2.1 TSu 5 y.2.2.2.2.length (y.2.2.2.2.flatMap srow) ∧ y.2.2.2.2.map (·.1) = fndL s y.1 ∧ (∀ p ∈ y.2.2.2.2, p.2.oneCell' = true) ∧ (y.2.2.2.2 = [] → y.2.2.2.1 = .slice none 0 0) ∧ (∀ p ∈ y.2.2.2.2, NI y.2.1 p.2 p.1.dead)) (fun y => 4 - y.1)
    (0, M, [], .slice none 0 0, []) (Keep.cons (t := 1) rfl (Keep.cons (t := 2) rfl (Keep.cons (t := 15) rfl Keep.nil))) ⟨Nat.zero_le _, MLe.refl _, Own.nil _ _, rfl, (fun _ h => by cases h), (fun _ => rfl), (fun _ h => by cases h)⟩ (fun _ h => h) ?_
  rintro ⟨k, Mk, R, sv, ys⟩ ⟨hk, hMk, hown, hys, hone, hnil, hni⟩
  try dsimp only at hk hMk hown hys hone hnil hni ⊢
  obtain ⟨sa, sc, rfl⟩ := hown.form
  replace hnil : ys = [] → sa = none := fun h => congrArg (fun v => match v with | Value.slice a _ _ => a | _ => none) (hnil h)
  refine jc_seq ?_
  refine jc_region ?_
  refine js rfl (fun h16 => ?_) (fun h16 => ?_)
  · refine jl_nil ?_
    refine jT ?_
    refine jc_seq ?_
    refine jc_yes rfl ?_
    refine jc_skip ?_
    refine jT ?_
    refine jc_seq ?_
    refine jc_block ?_
    refine jc_seq ?_
    refine jc_region ?_
    iterate 2 refine jp rfl ?_
    refine jl_nil ?_
    refine jT ?_
    refine jc_seq ?_
    refine jc_region ?_
    refine jl_q rfl rfl (qLdL rfl rfl rfl rfl rfl (by first | (simp only [Nat.reduceAdd, Nat.zero_add, Nat.add_zero, List.drop_succ_cons, List.drop_zero, List.drop_nil, List.take_succ_cons, List.take_zero, List.take_nil, List.cons_append, List.nil_append, List.append_nil, List.length_cons, List.length_nil]; try rfl) | rfl)) ?_
    refine jp rfl ?_
    refine jl_h rfl rfl (hCall rfl rfl rfl rfl rfl (by kernel_rfl) (dread_spec s k bv wv Mk (h1.mono hMk) (h2.mono hMk) hdk (by omega))) ?_; rintro _ M2 _ ⟨hM2, _, rfl, ⟨⟨v, rfl, hv⟩, rfl⟩⟩
    simp only [List.nil_append]
    iterate 5 refine jp rfl ?_
    refine jl_nil ?_
    refine jT ?_
    refine jc_seq ?_
    refine jc_region ?_
    refine jp rfl ?_
    refine jl_h rfl rfl (hCall rfl rfl rfl rfl rfl (by kernel_rfl) (rread_spec (seen s k) _ M2 hv)) ?_; rintro _ M3 _ ⟨hM3, _, rfl, ⟨hrd, rfl⟩⟩
    simp only [List.nil_append]
    obtain ⟨x, da, dn, dc, e, rfl, hrf⟩ := RdP.form hrd
    iterate 3 refine jp rfl ?_
    refine jl_h rfl rfl (hAlloc rfl rfl) ?_; rintro _ _ _ ⟨b8, rfl, rfl, rfl⟩
    refine jl_s rfl (hStoreL rfl rfl rfl rfl rfl rfl rfl rfl (by first | (simp only [Nat.reduceAdd, Nat.zero_add, Nat.add_zero, List.drop_succ_cons, List.drop_zero, List.drop_nil, List.take_succ_cons, List.take_zero, List.take_nil, List.cons_append, List.nil_append, List.append_nil, List.length_cons, List.length_nil]; try rfl) | rfl)) ?_; rintro _ _ _ ⟨rfl, rfl⟩
    refine jp rfl ?_
    refine jl_nil ?_
    refine jT ?_
    refine jc_seq ?_
    refine jc_region ?_
    refine jp rfl ?_
    refine js rfl (fun h30 => ?_) (fun h30 => ?_)
    · refine jp rfl ?_
      refine jl_q rfl rfl (qFieldAddr rfl rfl rfl rfl rfl) ?_
      refine jl_q rfl rfl (qLd rfl rfl rfl rfl (CJ.loc rfl)) ?_
      obtain ⟨_, hsu, rfl, hnd⟩ | ⟨hne, _⟩ := hrf
      rotate_left
      · exact absurd h30 hne
      refine jl_q rfl rfl (qCall rfl rfl rfl rfl rfl (by kernel_rfl) (slot_spec (rsu (seen s k)).gen M3 (rsu_gen _))) ?_
      refine jp rfl ?_
      refine js rfl (fun h36 => ?_) (fun h36 => ?_)
      · refine jp rfl ?_
        refine jl_nil ?_
        refine jT ?_
        refine jc_yes rfl ?_
        refine jc_region ?_
        refine jp rfl ?_
        refine jl_q rfl rfl (qLdL rfl rfl rfl rfl rfl (by first | (simp only [Nat.reduceAdd, Nat.zero_add, Nat.add_zero, List.drop_succ_cons, List.drop_zero, List.drop_nil, List.take_succ_cons, List.take_zero, List.take_nil, List.cons_append, List.nil_append, List.append_nil, List.length_cons, List.length_nil]; try rfl) | rfl)) ?_
        refine jl_h rfl rfl (hBuildSlice (cs := [_, _, _, _, _]) rfl rfl rfl (by rfl) (by rfl) (by rfl)) ?_; rintro _ _ _ ⟨b40, rfl, rfl, rfl⟩
        refine jl_h rfl rfl (hAppend (R := R) (m := 1) rfl rfl rfl rfl hown rfl (fun i v hv => CJ.loc (by simpa using hv)) rfl (by rfl) (by simp [Value.oneCell']) (by have := fndL_len s k; rw [← hys, List.length_map] at this; omega) (by omega)) ?_; rintro rv2 _ _ ⟨rfl, R2, rfl, hown2, _⟩
        obtain ⟨ra2, rc2, rfl⟩ := hown2.form
        refine jp rfl ?_
        refine jl_nil ?_
        refine jB ?_
        refine jT ?_
        refine jc_region ?_
        refine ja rfl (by first | omega | (rw [hck]; decide)) ?_
        refine jp rfl ?_
        refine jl_nil ?_
        refine j_again (k + 1, M3, R2, .slice ra2 (ys.length + 1) rc2, ys ++ [(rsu (seen s k), .slice da dn dc)]) (Keep.cons (t := 1) rfl (Keep.cons (t := 2) rfl (Keep.cons (t := 15) rfl Keep.nil))) ⟨by show k + 1 ≤ 4; omega, hMk.trans (hM2.trans hM3), ?_, ?_, ?_, ?_, ?_⟩ (by show 4 - (k + 1) < 4 - k; omega) (fun w h => h.fewer (.append (List.Sublist.refl _) (.cons _ (.cons _ (List.Sublist.refl _)))))
        · show Own _ _ _ _ (ys ++ [_]).length ((ys ++ [_]).flatMap srow); rw [List.length_append, List.flatMap_append]; exact hown2
        · show _ = fndL s (k + 1); rw [fndL_yes hsu h36, List.map_append, hys]; rfl
        · intro p hp; rcases List.mem_append.1 hp with hp | hp
          · exact hone p hp
          · rw [List.mem_singleton.1 hp]; rfl
        · intro h; simp at h
        · intro p hp; rcases List.mem_append.1 hp with hp | hp
          · exact (hni p hp).mono (hM2.trans hM3)
          · rw [List.mem_singleton.1 hp]; exact hnd
      · refine jp rfl ?_
        refine jl_nil ?_
        refine jT ?_
        refine jc_no rfl ?_
        refine jc_skip ?_
        refine jB ?_
        refine jT ?_
        refine jc_region ?_
        refine ja rfl (by first | omega | (rw [hck]; decide)) ?_
        refine jp rfl ?_
        refine jl_nil ?_
        refine j_again (k + 1, M3, R, .slice sa ys.length sc, ys) (Keep.cons (t := 1) rfl (Keep.cons (t := 2) rfl (Keep.cons (t := 15) rfl Keep.nil))) ⟨by show k + 1 ≤ 4; omega, hMk.trans (hM2.trans hM3), ?_, ?_, ?_, ?_, ?_⟩ (by show 4 - (k + 1) < 4 - k; omega) (fun w h => h.fewer (.cons _ (List.Sublist.refl _)))
        · exact hown
        · show _ = fndL s (k + 1); rw [fndL_no (fun hh => (by exact h36 hh.2))]; exact hys
        · exact hone
        · intro h; rw [hnil h] at hown ⊢; exact own_nil hown (congrArg List.length h)
        · exact fun p hp => (hni p hp).mono (hM2.trans hM3)
    · iterate 7 refine jp rfl ?_
      refine jl_nil ?_
      refine jT ?_
      refine jc_no rfl ?_
      refine jc_skip ?_
      refine jB ?_
      refine jT ?_
      refine jc_region ?_
      refine ja rfl (by first | omega | (rw [hck]; decide)) ?_
      refine jp rfl ?_
      refine jl_nil ?_
      refine j_again (k + 1, M3, R, .slice sa ys.length sc, ys) (Keep.cons (t := 1) rfl (Keep.cons (t := 2) rfl (Keep.cons (t := 15) rfl Keep.nil))) ⟨by show k + 1 ≤ 4; omega, hMk.trans (hM2.trans hM3), ?_, ?_, ?_, ?_, ?_⟩ (by show 4 - (k + 1) < 4 - k; omega) (fun w h => h.fewer (.cons _ (List.Sublist.refl _)))
      · exact hown
      · show _ = fndL s (k + 1); rw [fndL_no (fun hh => (by rcases hrf with ⟨h0, _⟩ | ⟨_, h0⟩; exact h30 h0; exact h0 hh.1))]; exact hys
      · exact hone
      · intro h; rw [hnil h] at hown ⊢; exact own_nil hown (congrArg List.length h)
      · exact fun p hp => (hni p hp).mono (hM2.trans hM3)
  · refine jl_nil ?_
    refine jT ?_
    refine jc_seq ?_
    refine jc_no rfl ?_
    refine jc_exit ?_
    refine jTx ?_
    refine jTx ?_
    refine jBx ?_
    refine jT ?_
    refine jc_seq ?_
    refine jc_seq ?_
    refine jc_region ?_
    refine jp rfl ?_
    refine jl_qb rfl rfl (qNil rfl rfl rfl rfl) (fun h44 => ?_) (fun h44 => ?_)
    · refine jl_nil ?_
      refine jT ?_
      refine jc_yes rfl ?_
      refine jc_seq ?_
      refine jc_region ?_
      iterate 2 refine jp rfl ?_
      refine jl_nil ?_
      refine jT ?_
      refine jc_ret ?_
      refine jTr ?_
      refine jq_drop (L' := []) (List.nil_sublist _) ?_
      refine jr2 rfl rfl rfl ?_
      refine ⟨⟨_, 40, rfl, .inl ⟨rfl, ?_, rfl⟩⟩, rfl⟩
      obtain rfl : k = 4 := by omega
      rcases hown.2 with ⟨_, h0, _⟩ | ⟨g, cap, cur, ev, _⟩
      · rw [← hys, List.length_eq_zero_iff.1 h0]; rfl
      · cases ev; cases h44
    · refine jl_nil ?_
      refine jT ?_
      refine jc_no rfl ?_
      refine jc_skip ?_
      refine jT ?_
      refine jc_seq ?_
      refine jc_region ?_
      refine jp rfl ?_
      obtain rfl : k = 4 := by omega
      have hyl := fndL_len s 4
      rw [← hys, List.length_map] at hyl
      have hy0 : 0 < ys.length := Nat.pos_of_ne_zero fun h0 => by
        rw [hnil (List.length_eq_zero_iff.1 h0)] at h44; cases h44
      obtain ⟨g, cap, cur, ev, rfl, hc1, hc2, hc3, hc4⟩ := hown.open hy0
      cases ev
      obtain ⟨sp, rfl⟩ : ∃ sp, cur = (ys.flatMap srow ++ sp).toArray := ⟨cur.toList.drop (ys.length * 5), by rw [← hc4, List.take_append_drop]⟩
      refine jl_h rfl rfl (hCall rfl rfl rfl rfl rfl (by kernel_rfl) (sortf_spec g TSu sp ys _ Mk hone hyl)) ?_; rintro _ M3 _ ⟨hM3, _, rfl, zs, hzs, rfl⟩
      refine jl_nil ?_
      refine jT ?_
      refine jc_seq ?_
      refine jc_region ?_
      iterate 3 refine jp rfl ?_
      refine jl_nil ?_
      refine jT ?_
      refine jc_ret ?_
      refine jq_freeze g (by simp) ?_
      intro M4 hM4 e4
      refine jq_drop (L' := []) (List.nil_sublist _) ?_
      refine jr2 rfl rfl rfl ?_
      refine ⟨⟨_, 0, rfl, .inr ⟨rfl, zs, ?_, ?_, ?_⟩⟩, rfl⟩
      · rw [← hys]; exact hzs.map _
      · exact ⟨_, _, by rw [hzs.length_eq], SM.pre (SM.of_block e4)⟩
      · exact fun p hp => (hni p (hzs.subset hp)).mono (hM3.trans hM4)

end Go.Proofs.YtjdmhbenpeedeaaGreat
