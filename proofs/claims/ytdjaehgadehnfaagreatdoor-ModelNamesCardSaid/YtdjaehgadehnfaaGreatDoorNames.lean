/- Walks: the law of names and numbers. -/
import Derived.Test.YtdjaehgadehnfaaGreatDoorOn
namespace Go.Proofs.YtdjaehgadehnfaaGreatDoor
set_option linter.unusedVariables false
set_option linter.unusedSimpArgs false
open Go.RowKit Go.MapKept


abbrev p2a : Str := ⟨#[47, 50, 47, 97]⟩
abbrev p1 : Str := ⟨#[47, 49]⟩
abbrev p1d : Str := ⟨#[47, 49, 47, 100]⟩
abbrev p1de : Str := ⟨#[47, 49, 47, 100, 47, 101]⟩
abbrev p01a : Str := ⟨#[47, 48, 49, 47, 97]⟩
abbrev p7 : Str := ⟨#[47, 55, 47, 97, 47, 98, 99]⟩
abbrev nmQ (b : Nat) : List QC := [(oneC 1 ⟨#[]⟩, none, 0), (oneC 5 p1a, none, 0), ({ oneC 7 p1a with a := 2, data := [120] }, some ⟨b, 0, none⟩, 1), ({ oneC 2 ⟨#[]⟩ with a := 1, b := 1 }, none, 0), (oneC 13 p1a, none, 0), (oneC 17 p2a, none, 0), (oneC 13 p2a, none, 0)]
abbrev nm4 : List QC := [(oneC 5 p1a, none, 0), (oneC 1 ⟨#[]⟩, none, 0), (oneC 5 p1, none, 0), (oneC 6 p1d, none, 0)]
abbrev nmR : QC := ({ oneC 14 p1d with other := p1de }, none, 0)
theorem nmR_is : (doI insB partF (runI insB partF PS0 (nm4.map (·.1))).1 nmR.1) = ((runI insB partF PS0 (nm4.map (·.1))).1, told 261) := by
  have e1 : partF nmR.1.path = some (1, [⟨#[100]⟩]) := by kernel_rfl
  have e2 : partF nmR.1.other = some (1, [⟨#[100]⟩, ⟨#[101]⟩]) := by kernel_rfl
  have hv : (getA 1 (runI insB partF PS0 (nm4.map (·.1))).1.vols).isSome = true := by kernel_rfl
  have h1 : walkS (runI insB partF PS0 (nm4.map (·.1))).1 1 [⟨#[100]⟩] = .ok 2 := by kernel_rfl
  have h2 : placeS (runI insB partF PS0 (nm4.map (·.1))).1 (1, [⟨#[100]⟩]) = .ok 1 := by kernel_rfl
  have h3 : freshS (runI insB partF PS0 (nm4.map (·.1))).1 (1, [⟨#[100]⟩, ⟨#[101]⟩]) 1 (some 1) = .ok 2 := by kernel_rfl
  have h4 : isDir (runI insB partF PS0 (nm4.map (·.1))).1 1 2 = true := by kernel_rfl
  generalize (runI insB partF PS0 (nm4.map (·.1))).1 = S4 at *
  have hi : insB S4 1 2 2 = true := by
    unfold insB
    cases h : getA 1 S4.vols with
    | none => rw [h] at hv; cases hv
    | some v => exact insD_yes .here
  unfold doI
  rw [if_neg (by decide), if_neg (by decide), e1]; simp only
  rw [if_neg (by decide), e2]
  show renameI insB S4 (1, [⟨#[100]⟩]) (1, [⟨#[100]⟩, ⟨#[101]⟩]) = _
  unfold renameI
  rw [if_neg (by simp), h1]; simp only
  rw [h2]; simp only
  rw [h3]; simp only
  rw [h4, hi]; rfl
theorem nmM_is : (runI insB partF PS0 ((nm4 ++ [nmR]).map (·.1))).2 = [{ err := 6 }, { id := 1 }, { err := 251 }, { id := 2 }, { err := 261 }] := by
  show (runI insB partF PS0 (nm4.map (·.1) ++ [nmR.1])).2 = _
  rw [runI_snoc, nmR_is, show (runI insB partF PS0 (nm4.map (·.1))).2 = [{ err := 6 }, { id := 1 }, { err := 251 }, { id := 2 }] by kernel_rfl]; rfl

theorem play_over (n : Nat) (la : Option Addr) (lc : Nat) (M : Mem) (h : 64 < n) (hb : n ≤ 1000000000) :
    SpecL Tryz.prog 9 #[.slice la n lc] M [] fun u _ L' => u = .tuple #[.slice none 0 0, .int .i64 4] ∧ L' = [] := by
  refine spec_body (vs := [_]) 28 _ Tryz.func9 rfl Tryz.ntmps9 rfl rfl ?_; intro W
  refine jc_seq ?_
  refine jc_region ?_
  iterate 2 refine jp rfl ?_
  refine jl_nil ?_
  refine jT ?_
  refine jc_seq ?_
  refine jc_seq ?_
  refine jc_region ?_
  refine jp rfl ?_
  refine jl_q rfl rfl (qLen rfl rfl rfl) ?_
  refine jt rfl (decide_eq_true (by omega)) ?_
  refine jl_nil ?_
  refine jT ?_
  refine jc_yes rfl ?_
  refine jc_seq ?_
  refine jc_region ?_
  iterate 2 refine jp rfl ?_
  refine jl_nil ?_
  refine jT ?_
  refine jc_ret ?_
  refine jTr ?_
  refine jr2 rfl rfl rfl ?_
  exact ⟨rfl, rfl⟩

set_option maxHeartbeats 8000000 in
set_option maxRecDepth 4000 in
theorem modelNames_spec (M : Mem) (hT : Tabs M) :
    SpecL Tryz.prog 3 #[] M [] fun u _ L' => u = .bool true ∧ L' = [] := by
  refine spec_body (vs := []) 152 _ Tryz.func3 rfl Tryz.ntmps3 rfl rfl ?_; intro W
  refine jc_seq ?_
  refine jc_region ?_
  refine jp rfl ?_
  refine jl_nil ?_
  refine jT ?_
  refine jc_seq ?_
  refine jc_region ?_
  refine jl_q rfl rfl (qBuild (cs := [_, _, _, _, _, _, _]) rfl rfl rfl (by rfl)) ?_
  refine jl_q rfl rfl (qCall rfl rfl rfl rfl rfl (by kernel_rfl) (one_spec 5 p1a M)) ?_
  refine jl_h rfl rfl (hBuildSlice (cs := [_]) rfl rfl rfl (by rfl) (by rfl) (by rfl)) ?_; rintro _ _ _ ⟨b18, rfl, rfl, rfl⟩
  refine jl_h rfl rfl (hMark rfl rfl rfl) ?_; rintro _ _ _ ⟨rfl, rfl, rfl⟩
  refine jl_q rfl rfl (qBuild (cs := [_, _, _, _, _, _, _]) rfl rfl rfl (by rfl)) ?_
  refine jl_q rfl rfl (qBuild (cs := [_, _, _, _, _, _, _]) rfl rfl rfl (by rfl)) ?_
  refine jl_q rfl rfl (qCall rfl rfl rfl rfl rfl (by kernel_rfl) (one_spec 13 p1a M)) ?_
  refine jl_q rfl rfl (qCall rfl rfl rfl rfl rfl (by kernel_rfl) (one_spec 17 p2a M)) ?_
  refine jl_q rfl rfl (qCall rfl rfl rfl rfl rfl (by kernel_rfl) (one_spec 13 p2a M)) ?_
  refine jl_h rfl rfl (hBuildSlice (cs := [_, _, _, _, _, _, _, _, _, _, _, _, _, _, _, _, _, _, _, _, _, _, _, _, _, _, _, _, _, _, _, _, _, _, _, _, _, _, _, _, _, _, _, _, _, _, _, _, _]) rfl rfl rfl (by rfl) (by rfl) (by rfl)) ?_; rintro _ _ _ ⟨b25, rfl, rfl, rfl⟩
  refine jl_freeze b18 (by simp) ?_
  intro M1 hM1 e18
  refine jl_freeze b25 (by simp) ?_
  intro M2 hM2 e25
  have hcs : CsP M2 (some ⟨b25, 0, none⟩) (nmQ b18) := by
    refine ⟨SM.of_block e25, fun q hq => ?_⟩
    simp only [List.mem_cons, List.not_mem_nil, or_false] at hq
    rcases hq with rfl | rfl | rfl | rfl | rfl | rfl | rfl
    · exact ⟨CallOk.plain _ _ _ _ _ _ (by unfold InI64; decide) (by unfold InI64; decide) (by unfold InI64; decide), by decide, by decide⟩
    · exact ⟨CallOk.plain _ _ _ _ _ _ (by unfold InI64; decide) (by unfold InI64; decide) (by unfold InI64; decide), by decide, by decide⟩
    · exact ⟨⟨.inr ⟨b18, 0, rfl, fun i u hu => ⟨_, _, _, hM2 _ _ e18, by simpa [bcells] using hu⟩⟩, Nat.le_refl _, Nat.le_of_ble_eq_true rfl, by unfold InI64; simp, in0, in0⟩, Nat.le_of_ble_eq_true rfl, Nat.le_of_ble_eq_true rfl⟩
    · exact ⟨CallOk.plain _ _ _ _ _ _ (by unfold InI64; decide) (by unfold InI64; decide) (by unfold InI64; decide), by decide, by decide⟩
    · exact ⟨CallOk.plain _ _ _ _ _ _ (by unfold InI64; decide) (by unfold InI64; decide) (by unfold InI64; decide), by decide, by decide⟩
    · exact ⟨CallOk.plain _ _ _ _ _ _ (by unfold InI64; decide) (by unfold InI64; decide) (by unfold InI64; decide), by decide, by decide⟩
    · exact ⟨CallOk.plain _ _ _ _ _ _ (by unfold InI64; decide) (by unfold InI64; decide) (by unfold InI64; decide), by decide, by decide⟩
  refine jl_h rfl rfl (hCall rfl rfl rfl rfl rfl (by kernel_rfl) (play_spec (nmQ b18) (some ⟨b25, 0, none⟩) 7 M2 ((hT.mono hM1).mono hM2) hcs (Nat.le_of_ble_eq_true rfl))) ?_; rintro _ M3 _ ⟨hM3, _, rfl, ⟨⟨a3, c3, psx, rfl, hc3, hcm3, hpsx, hrsx⟩, rfl⟩⟩
  have hr7 : (runI insB partF PS0 ((nmQ b18).map (·.1))).2 = [{ id := 1 }, { id := 2 }, {}, { id := 2 }, {}, { sid := 2, slinks := 1, ssize := 3 }, { err := 170 }] := by kernel_rfl
  rw [hr7] at hpsx
  obtain ⟨⟨rx0, dx0, nx0⟩, _, rfl, ex0, hpsx⟩ := map_split hpsx
  obtain ⟨⟨rx1, dx1, nx1⟩, _, rfl, ex1, hpsx⟩ := map_split hpsx
  obtain ⟨⟨rx2, dx2, nx2⟩, _, rfl, ex2, hpsx⟩ := map_split hpsx
  obtain ⟨⟨rx3, dx3, nx3⟩, _, rfl, ex3, hpsx⟩ := map_split hpsx
  obtain ⟨⟨rx4, dx4, nx4⟩, _, rfl, ex4, hpsx⟩ := map_split hpsx
  obtain ⟨⟨rx5, dx5, nx5⟩, _, rfl, ex5, hpsx⟩ := map_split hpsx
  obtain ⟨⟨rx6, dx6, nx6⟩, _, rfl, ex6, hpsx⟩ := map_split hpsx
  rw [List.map_eq_nil_iff] at hpsx; subst hpsx
  dsimp only at ex0 ex1 ex2 ex3 ex4 ex5 ex6
  subst ex0
  subst ex1
  subst ex2
  subst ex3
  subst ex4
  subst ex5
  subst ex6
  obtain ⟨qbx, qox, e0x, _⟩ := flat_sm rF_len hrsx.1 (i := 0) (by simp) (by decide)
  subst e0x
  have hldx : ∀ (i : Nat) (h : i < 7) (j : Nat) (v : Value), (rF [(({ id := 1 } : RP), dx0, nx0), (({ id := 2 } : RP), dx1, nx1), (({} : RP), dx2, nx2), (({ id := 2 } : RP), dx3, nx3), (({} : RP), dx4, nx4), (({ sid := 2, slinks := 1, ssize := 3 } : RP), dx5, nx5), (({ err := 170 } : RP), dx6, nx6)][i])[j]? = some v → CM M3 qbx (qox + i * 8 + j) v := fun i h j v hv => by
    obtain ⟨b, o, e, hx⟩ := flat_sm rF_len hrsx.1 (i := i) h (by decide)
    cases e; exact hx j v hv
  iterate 5 refine jp rfl ?_
  refine jl_nil ?_
  refine jT ?_
  refine jc_seq ?_
  refine jc_region ?_
  refine jl_q rfl rfl (qCall rfl rfl rfl rfl rfl (by kernel_rfl) (one_spec 5 p1a M3)) ?_
  refine jl_q rfl rfl (qBuild (cs := [_, _, _, _, _, _, _]) rfl rfl rfl (by rfl)) ?_
  refine jl_q rfl rfl (qCall rfl rfl rfl rfl rfl (by kernel_rfl) (one_spec 5 p1 M3)) ?_
  refine jl_q rfl rfl (qCall rfl rfl rfl rfl rfl (by kernel_rfl) (one_spec 6 p1d M3)) ?_
  refine jl_q rfl rfl (qBuild (cs := [_, _, _, _, _, _, _]) rfl rfl rfl (by rfl)) ?_
  refine jl_h rfl rfl (hBuildSlice (cs := [_, _, _, _, _, _, _, _, _, _, _, _, _, _, _, _, _, _, _, _, _, _, _, _, _, _, _, _, _, _, _, _, _, _, _]) rfl rfl rfl (by rfl) (by rfl) (by rfl)) ?_; rintro _ _ _ ⟨b35, rfl, rfl, rfl⟩
  refine jl_freeze b35 (by simp) ?_
  intro M4 hM4 e35
  have hcs5 : CsP M4 (some ⟨b35, 0, none⟩) (nm4 ++ [nmR]) := by
    refine ⟨SM.of_block e35, fun q hq => ?_⟩
    simp only [List.mem_append, List.mem_cons, List.not_mem_nil, or_false] at hq
    rcases hq with (rfl | rfl | rfl | rfl) | rfl
    · exact ⟨CallOk.plain _ _ _ _ _ _ (by unfold InI64; decide) (by unfold InI64; decide) (by unfold InI64; decide), by decide, by decide⟩
    · exact ⟨CallOk.plain _ _ _ _ _ _ (by unfold InI64; decide) (by unfold InI64; decide) (by unfold InI64; decide), by decide, by decide⟩
    · exact ⟨CallOk.plain _ _ _ _ _ _ (by unfold InI64; decide) (by unfold InI64; decide) (by unfold InI64; decide), by decide, by decide⟩
    · exact ⟨CallOk.plain _ _ _ _ _ _ (by unfold InI64; decide) (by unfold InI64; decide) (by unfold InI64; decide), by decide, by decide⟩
    · exact ⟨CallOk.plain _ _ _ _ _ _ (by unfold InI64; decide) (by unfold InI64; decide) (by unfold InI64; decide), by decide, by decide⟩
  refine jl_h rfl rfl (hCall rfl rfl rfl rfl rfl (by kernel_rfl) (play_spec (nm4 ++ [nmR]) (some ⟨b35, 0, none⟩) 5 M4 (hT.mono (((hM1.trans hM2).trans hM3).trans hM4)) hcs5 (by decide))) ?_; rintro _ M5 _ ⟨hM5, _, rfl, ⟨⟨a5, c5, psy, rfl, hc5, hcm5, hpsy, hrsy⟩, rfl⟩⟩
  rw [nmM_is] at hpsy
  obtain ⟨⟨ry0, dy0, ny0⟩, _, rfl, ey0, hpsy⟩ := map_split hpsy
  obtain ⟨⟨ry1, dy1, ny1⟩, _, rfl, ey1, hpsy⟩ := map_split hpsy
  obtain ⟨⟨ry2, dy2, ny2⟩, _, rfl, ey2, hpsy⟩ := map_split hpsy
  obtain ⟨⟨ry3, dy3, ny3⟩, _, rfl, ey3, hpsy⟩ := map_split hpsy
  obtain ⟨⟨ry4, dy4, ny4⟩, _, rfl, ey4, hpsy⟩ := map_split hpsy
  rw [List.map_eq_nil_iff] at hpsy; subst hpsy
  dsimp only at ey0 ey1 ey2 ey3 ey4
  subst ey0
  subst ey1
  subst ey2
  subst ey3
  subst ey4
  obtain ⟨qby, qoy, e0y, _⟩ := flat_sm rF_len hrsy.1 (i := 0) (by simp) (by decide)
  subst e0y
  have hldy : ∀ (i : Nat) (h : i < 5) (j : Nat) (v : Value), (rF [(({ err := 6 } : RP), dy0, ny0), (({ id := 1 } : RP), dy1, ny1), (({ err := 251 } : RP), dy2, ny2), (({ id := 2 } : RP), dy3, ny3), (({ err := 261 } : RP), dy4, ny4)][i])[j]? = some v → CM M5 qby (qoy + i * 8 + j) v := fun i h j v hv => by
    obtain ⟨b, o, e, hx⟩ := flat_sm rF_len hrsy.1 (i := i) h (by decide)
    cases e; exact hx j v hv
  iterate 5 refine jp rfl ?_
  refine jl_nil ?_
  refine jT ?_
  refine jc_seq ?_
  refine jc_seq ?_
  refine jc_region ?_
  refine jp rfl ?_
  refine jl_q rfl rfl (qLen rfl rfl rfl) ?_
  refine jf rfl (decide_eq_false (by first | omega | rfl | (intro h; exact h rfl) | (show (_ : Int) = _; rfl))) ?_
  iterate 2 refine jp rfl ?_
  refine jl_q rfl rfl (qLen rfl rfl rfl) ?_
  refine jf rfl (decide_eq_false (by first | omega | rfl | (intro h; exact h rfl) | (show (_ : Int) = _; rfl))) ?_
  refine jp rfl ?_
  refine jl_nil ?_
  refine jT ?_
  refine jc_no rfl ?_
  refine jc_skip ?_
  refine jT ?_
  refine jc_seq ?_
  refine jc_region ?_
  refine jp rfl ?_
  refine jl_q rfl rfl (qIdxS rfl rfl rfl rfl (by show (0 : Int) ≤ _ ∧ _ < ((7 : Nat) : Int); omega)) ?_
  refine jl_q rfl rfl (qFieldAddr rfl rfl rfl rfl rfl) ?_
  refine jl_q rfl rfl (qLd rfl rfl rfl rfl (((hldx 3 (by decide) 1 (.int .i64 2) rfl).mono (hM4.trans hM5)).cj _)) ?_
  refine jt rfl (decide_eq_true (by first | omega | rfl | (intro h; exact h rfl) | (show (_ : Int) = _; rfl))) ?_
  iterate 2 refine jp rfl ?_
  refine jl_q rfl rfl (qIdxS rfl rfl rfl rfl (by show (0 : Int) ≤ _ ∧ _ < ((7 : Nat) : Int); omega)) ?_
  refine jl_q rfl rfl (qFieldAddr rfl rfl rfl rfl rfl) ?_
  refine jl_q rfl rfl (qLd rfl rfl rfl rfl (((hldx 4 (by decide) 0 (.int .i64 0) rfl).mono (hM4.trans hM5)).cj _)) ?_
  refine jt rfl (decide_eq_true (by first | omega | rfl | (intro h; exact h rfl) | (show (_ : Int) = _; rfl))) ?_
  iterate 3 refine jp rfl ?_
  refine jl_q rfl rfl (qIdxS rfl rfl rfl rfl (by show (0 : Int) ≤ _ ∧ _ < ((7 : Nat) : Int); omega)) ?_
  refine jl_q rfl rfl (qFieldAddr rfl rfl rfl rfl rfl) ?_
  refine jl_q rfl rfl (qLdA (cs := [.int .u32 2, .bool false, .int .i64 1, .int .i64 3]) rfl rfl rfl rfl rfl (fun j v hv => by have h9 := (hldx 5 (by decide) (4 + j) v (by match j, hv with | 0, hv => exact hv | 1, hv => exact hv | 2, hv => exact hv | 3, hv => exact hv)).mono (hM4.trans hM5); rw [← Nat.add_assoc] at h9; exact h9.cj _)) ?_
  refine jl_q rfl rfl (qBuild (cs := [_, _, _, _]) rfl rfl rfl (by rfl)) ?_
  refine jl_q rfl rfl (qEq (qEqSc [.i .u32 2, .b false, .i .i64 1, .i .i64 3] rfl rfl rfl rfl rfl rfl) (v' := .bool true) (by rfl)) ?_
  iterate 3 refine jp rfl ?_
  refine jl_q rfl rfl (qIdxS rfl rfl rfl rfl (by show (0 : Int) ≤ _ ∧ _ < ((7 : Nat) : Int); omega)) ?_
  refine jl_q rfl rfl (qFieldAddr rfl rfl rfl rfl rfl) ?_
  refine jl_q rfl rfl (qLd rfl rfl rfl rfl (((hldx 6 (by decide) 0 (.int .i64 170) rfl).mono (hM4.trans hM5)).cj _)) ?_
  refine jt rfl (decide_eq_true (by first | omega | rfl | (intro h; exact h rfl) | (show (_ : Int) = _; rfl))) ?_
  iterate 2 refine jp rfl ?_
  refine jl_nil ?_
  refine jT ?_
  refine jc_seq ?_
  refine jc_region ?_
  refine jp rfl ?_
  refine jl_q rfl rfl (qIdxS rfl rfl rfl rfl (by show (0 : Int) ≤ _ ∧ _ < ((5 : Nat) : Int); omega)) ?_
  refine jl_q rfl rfl (qFieldAddr rfl rfl rfl rfl rfl) ?_
  refine jl_q rfl rfl (qLd rfl rfl rfl rfl ((hldy 0 (by decide) 0 (.int .i64 6) rfl).cj _)) ?_
  refine jt rfl (decide_eq_true (by first | omega | rfl | (intro h; exact h rfl) | (show (_ : Int) = _; rfl))) ?_
  iterate 2 refine jp rfl ?_
  refine jl_q rfl rfl (qIdxS rfl rfl rfl rfl (by show (0 : Int) ≤ _ ∧ _ < ((5 : Nat) : Int); omega)) ?_
  refine jl_q rfl rfl (qFieldAddr rfl rfl rfl rfl rfl) ?_
  refine jl_q rfl rfl (qLd rfl rfl rfl rfl ((hldy 1 (by decide) 1 (.int .i64 1) rfl).cj _)) ?_
  refine jt rfl (decide_eq_true (by first | omega | rfl | (intro h; exact h rfl) | (show (_ : Int) = _; rfl))) ?_
  iterate 3 refine jp rfl ?_
  refine jl_q rfl rfl (qIdxS rfl rfl rfl rfl (by show (0 : Int) ≤ _ ∧ _ < ((5 : Nat) : Int); omega)) ?_
  refine jl_q rfl rfl (qFieldAddr rfl rfl rfl rfl rfl) ?_
  refine jl_q rfl rfl (qLd rfl rfl rfl rfl ((hldy 2 (by decide) 0 (.int .i64 251) rfl).cj _)) ?_
  refine jt rfl (decide_eq_true (by first | omega | rfl | (intro h; exact h rfl) | (show (_ : Int) = _; rfl))) ?_
  iterate 3 refine jp rfl ?_
  refine jl_q rfl rfl (qIdxS rfl rfl rfl rfl (by show (0 : Int) ≤ _ ∧ _ < ((5 : Nat) : Int); omega)) ?_
  refine jl_q rfl rfl (qFieldAddr rfl rfl rfl rfl rfl) ?_
  refine jl_q rfl rfl (qLd rfl rfl rfl rfl ((hldy 3 (by decide) 1 (.int .i64 2) rfl).cj _)) ?_
  refine jt rfl (decide_eq_true (by first | omega | rfl | (intro h; exact h rfl) | (show (_ : Int) = _; rfl))) ?_
  iterate 3 refine jp rfl ?_
  refine jl_q rfl rfl (qIdxS rfl rfl rfl rfl (by show (0 : Int) ≤ _ ∧ _ < ((5 : Nat) : Int); omega)) ?_
  refine jl_q rfl rfl (qFieldAddr rfl rfl rfl rfl rfl) ?_
  refine jl_q rfl rfl (qLd rfl rfl rfl rfl ((hldy 4 (by decide) 0 (.int .i64 261) rfl).cj _)) ?_
  refine jt rfl (decide_eq_true (by first | omega | rfl | (intro h; exact h rfl) | (show (_ : Int) = _; rfl))) ?_
  iterate 2 refine jp rfl ?_
  refine jl_nil ?_
  refine jT ?_
  refine jc_seq ?_
  refine jc_region ?_
  refine jl_h rfl rfl (hMake rfl rfl rfl rfl (by omega) (by rfl)) ?_; rintro _ _ _ ⟨b108, rfl, rfl, rfl⟩
  refine jl_h rfl rfl (hCall rfl rfl rfl rfl rfl (by kernel_rfl) (play_over 65 _ _ M5 (by omega) (by omega))) ?_; rintro _ M6 _ ⟨hM6, _, rfl, ⟨rfl, rfl⟩⟩
  iterate 5 refine jp rfl ?_
  refine jl_nil ?_
  refine jT ?_
  refine jc_seq ?_
  refine jc_region ?_
  have hM06 := ((((hM1.trans hM2).trans hM3).trans hM4).trans hM5).trans hM6
  refine jl_h rfl rfl (hCall rfl rfl rfl rfl rfl (by kernel_rfl) (part_spec p01a M6 (hT.mono hM06) (by decide))) ?_; rintro _ M7 _ ⟨hM7, _, rfl, hp1⟩
  unfold PartP at hp1; rw [show partF p01a = none by kernel_rfl] at hp1
  obtain ⟨rfl, rfl⟩ := hp1
  iterate 7 refine jp rfl ?_
  refine jl_nil ?_
  refine jT ?_
  refine jc_seq ?_
  refine jc_region ?_
  refine jl_h rfl rfl (hCall rfl rfl rfl rfl rfl (by kernel_rfl) (part_spec p7 M7 (hT.mono (hM06.trans hM7)) (by decide))) ?_; rintro _ M8 _ ⟨hM8, _, rfl, hp2⟩
  unfold PartP at hp2; rw [show partF p7 = some (7, [⟨#[97]⟩, ⟨#[98, 99]⟩]) by kernel_rfl] at hp2
  obtain ⟨⟨pa, pc, rfl, hpw⟩, rfl⟩ := hp2
  iterate 7 refine jp rfl ?_
  refine jl_nil ?_
  refine jT ?_
  refine jc_seq ?_
  refine jc_region ?_
  refine jp rfl ?_
  refine jl_h rfl rfl (hCall rfl rfl rfl rfl rfl (by kernel_rfl) (alive_spec M8 (hT.mono ((hM06.trans hM7).trans hM8)))) ?_; rintro _ M9 _ ⟨hM9, _, rfl, ⟨rfl, rfl⟩⟩
  iterate 9 refine jp rfl ?_
  refine jt rfl (decide_eq_true (by first | omega | rfl | (intro h; exact h rfl) | (show (_ : Int) = _; rfl))) ?_
  iterate 3 refine jp rfl ?_
  refine jt rfl (decide_eq_true (by first | omega | rfl | (intro h; exact h rfl) | (show (_ : Int) = _; rfl))) ?_
  iterate 3 refine jp rfl ?_
  refine jt rfl (decide_eq_true (by first | omega | rfl | (intro h; exact h rfl) | (show (_ : Int) = _; rfl))) ?_
  iterate 3 refine jp rfl ?_
  refine jl_q rfl rfl (qLen rfl rfl rfl) ?_
  refine jt rfl (decide_eq_true (by first | omega | rfl | (intro h; exact h rfl) | (show (_ : Int) = _; rfl))) ?_
  iterate 6 refine jp rfl ?_
  refine jl_nil ?_
  refine jT ?_
  refine jc_ret ?_
  refine jq_drop (L' := []) (List.nil_sublist _) ?_
  refine jr1 rfl rfl ?_
  exact ⟨rfl, rfl⟩


end Go.Proofs.YtdjaehgadehnfaaGreatDoor
