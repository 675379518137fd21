/- Walks: the document's Del. -/
import Derived.Test.YtkcpllhggofloaaGreatZLfl
namespace Go.Proofs.YtkcpllhggofloaaGreat
set_option linter.unusedVariables false
set_option linter.unusedSectionVars false
set_option linter.unusedSimpArgs false
open Go.RowKit
theorem rout13_spec (s : Sto) (u : Value) (M : Mem) (hS : ST M u s) (hst : wCc s) (k : Int) (hk : 8 ≤ k ∧ k < 256) (q : Ky) (lev : Nat) (xs : List It) (hnd : wBk s k.toNat = some ((lev : Int), xs)) (hshp : Shp s lev xs) (hsrt : Srt (wCh s lev xs)) (hf : ∃ y ∈ wCh s lev xs, y.key = q) : SpecL Tryz.prog 25 #[u, .int .i64 k, .agg (wBb q).toArray] M [] fun u M' L' => LoP (delIn s k (wDf s q lev xs)) u M' ∧ L' = [] := by
 obtain ⟨x, rfl⟩ := hS.form
 exact rout13_walk s x M hS hst k hk q lev xs hnd hshp hsrt hf
theorem delF_badR {s : Sto} {root : Int} {q : Ky} (h : ¬ (wFh s root).2 = 0) : delF s root q = .error (wFh s root).2 := if_neg h
theorem delF_none {s : Sto} {root : Int} {q : Ky} (h : (wFh s root).2 = 0) {lev : Nat} {xs : List It} (hnd : wBk s root.toNat = some ((lev : Int), xs)) (ht : wCq s lev xs) (hn : ¬ ∃ y ∈ wCh s lev xs, y.key = q) : delF s root q = .error 6 := by
 have hfi : wCn s q lev xs = none := by
  cases hf : wCn s q lev xs with
  | none => rfl
  | some y => exact absurd ⟨y, find_back hf⟩ hn
 unfold delF; rw [if_pos h, hnd]; dsimp only; rw [Int.toNat_natCast, hfi]
theorem delF_some {s : Sto} {root : Int} {q : Ky} (h : (wFh s root).2 = 0) {lev : Nat} {xs : List It} (hnd : wBk s root.toNat = some ((lev : Int), xs)) (ht : wCq s lev xs) (hn : ∃ y ∈ wCh s lev xs, y.key = q) : delF s root q = delIn s root (wDf s q lev xs) := by
 obtain ⟨y, hy, hyq⟩ := hn
 have hfi := find_in ht y hy
 rw [hyq] at hfi
 unfold delF; rw [if_pos h, hnd]; dsimp only; rw [Int.toNat_natCast, hfi]
set_option maxHeartbeats 2000000 in
theorem rdel13_walk (s : Sto) (x0 : Sk × Sk × Sk × Sk) (M : Mem) (hS : ST M (.agg (sv4 x0).toArray) s) (hf : fewS s) (k : Int) (hk : -9223372036854775808 ≤ k ∧ k ≤ 9223372036854775807) (q : Ky)  :
  SpecL Tryz.prog 7 #[.agg (sv4 x0).toArray, .int .i64 k, .agg (wBb q).toArray] M [] fun u M' L' => LoP (delF s k q) u M' ∧ L' = [] := by
 refine wAf (vs := [_, _, _]) 40 _ Tryz.func7 rfl Tryz.ntmps7 rfl rfl ?_; intro W
 refine wAb (wAa (wAy rfl rfl (wCm (cs := [_, _, _, _]) rfl rfl rfl rfl) ?_)); rintro _ _ _ ⟨b3, rfl, rfl, rfl⟩
 refine wAy rfl rfl (wCm (cs := [_, _, _]) rfl rfl rfl rfl) ?_; rintro _ _ _ ⟨b5, rfl, rfl, rfl⟩
 refine sAl rfl fun b6 => ?_
 refine jp rfl (jp rfl (wAc (jT (wAb (wAa (sLL rfl ?_))))))
 refine jp rfl (wAy rfl rfl (wAu rfl rfl rfl rfl rfl (by kernel_rfl) (rchk10_fspec s _ k M hS hf hk)) ?_); rintro _ M1 _ ⟨hM1, _, rfl, ⟨rfl, rfl⟩⟩
 simp only [nA]
 refine jp rfl (jp rfl (jp rfl (jp rfl (jp rfl (wAc (jT (wAb (wAb (wAa (jp rfl (js rfl (fun h20 => ?_) (fun h20 => ?_))))))))))))
 ·refine wAc (jT (wAg rfl (wAb (wAa (wAi rfl rfl (wBa (cs := [_, _, _, _]) rfl rfl rfl (by rfl)) ?_)))))
  refine jp rfl (sSt rfl ?_)
  refine jp rfl (jp rfl (wAc (jT (wAe (jTr (wDa (rs := [_, _, _]) ([]) (by exact List.nil_sublist _) rfl (.cons (.agg rfl rfl rfl) (.cons (.tmp rfl) (.cons (.tmp rfl) .nil))) ?_))))))
  exact ⟨by rw [delF_badR h20]; exact ⟨h20, rfl⟩, rfl⟩
 refine wAc (jT (wAk rfl (wAd (jT (wAb (wAa (sLL rfl ?_)))))))
 refine jp rfl (sLL rfl ?_)
 have hf0 : (wFh s k).2 = 0 := by omega
 obtain ⟨hst, h8, h256, _, lev, xs, hnd, ht, _⟩ := fchk_ok hf0
 have hshp := shp_of ht
 have hsrt := tree_srt ht
 refine wAy rfl rfl (wAu rfl rfl rfl rfl rfl (by kernel_rfl) (rone_all s hst q lev k xs _ M1 (hS.mono hM1) (by omega) hnd hshp hsrt)) ?_; rintro _ M2 _ ⟨hM2, _, rfl, ⟨⟨ky, rr, xk, bb, rfl, hbb⟩, rfl⟩⟩
 simp only [nA]
 refine jp rfl (jp rfl (jp rfl (sAl rfl fun b11 => ?_)))
 refine sSt rfl ?_
 refine jsb rfl (fun h12 => ?_) (fun h12 => ?_)
 ·refine wAc (jT (wAb (wAb (wAa (jp rfl (jp rfl (wAc (jT (wAk rfl (wAd (jT (wAb (wAa (sLL rfl ?_))))))))))))))
  refine jp rfl (sLL rfl ?_)
  have hbt : bb = true := by simpa using h12
  have hhas := hbb.1 hbt
  refine wAy rfl rfl (wAu rfl rfl rfl rfl rfl (by kernel_rfl) (rout13_spec s _ M2 (hS.mono (hM1.trans hM2)) hst k ⟨h8, h256⟩ q lev xs hnd hshp hsrt hhas)) ?_; rintro _ M3 _ ⟨hM3, _, rfl, ⟨hlo, rfl⟩⟩
  simp only [nA]
  obtain ⟨x9, n9, e9, rfl, hlo2⟩ := hlo.form
  refine jp rfl (jp rfl (jp rfl (sSt rfl ?_)))
  refine jp rfl (jp rfl (wAc (jT (wAe (wDa (rs := [_, _, _]) ([]) (by exact List.nil_sublist _) rfl (.cons (.agg rfl rfl rfl) (.cons (.tmp rfl) (.cons (.tmp rfl) .nil))) ?_)))))
  exact ⟨by rw [delF_some hf0 hnd ht hhas]; exact hlo, rfl⟩
 refine wAc (jT (wAb (wAb (wAa (jp rfl (jp rfl (wAc (jT (wAg rfl (wAb (wAa (wAi rfl rfl (wBa (cs := [_, _, _, _]) rfl rfl rfl (by rfl)) ?_))))))))))))
 refine sSt rfl ?_
 refine jp rfl (jp rfl (wAc (jT (wAe (jTr (wDa (rs := [_, _, _]) ([]) (by exact List.nil_sublist _) rfl (.cons (.agg rfl rfl rfl) (.cons (.tmp rfl) (.cons (.tmp rfl) .nil))) ?_))))))
 have hbt : ¬ bb = true := by simpa using h12
 exact ⟨by rw [delF_none hf0 hnd ht fun h => hbt (hbb.2 h)]; exact ⟨by decide, rfl⟩, rfl⟩
theorem rdel13_spec (s : Sto) (u : Value) (M : Mem) (hS : ST M u s) (hf : fewS s) (k : Int) (hk : -9223372036854775808 ≤ k ∧ k ≤ 9223372036854775807) (q : Ky) : SpecL Tryz.prog 7 #[u, .int .i64 k, .agg (wBb q).toArray] M [] fun u M' L' => LoP (delF s k q) u M' ∧ L' = [] := by
 obtain ⟨x, rfl⟩ := hS.form
 exact rdel13_walk s x M hS hf k hk q
end Go.Proofs.YtkcpllhggofloaaGreat
