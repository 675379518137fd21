/- Walks: del's way, join, wEb, lower. No statement of the seat is proved here. -/
import Derived.Test.YtkcpllhggofloaaGreatZDrows
namespace Go.Proofs.YtkcpllhggofloaaGreat
set_option linter.unusedVariables false
set_option linter.unusedSectionVars false
set_option linter.unusedSimpArgs false
open Go.RowKit
section
variable {P : Program} {N : Fs} {F : Fr} {W : World} {X : List Nat} {M0 M : Mem} {L : Lc} {Q : Exit → Act → World → Prop}
theorem jq_ownX {ex : Exit} {v : Value} {R L2 : Lc} {e : TypeId} {size n : Nat} {xs : List Value} (ho : Own v R e size n xs) [hp : Pick R L L2] (hg : ∀ x ∈ X, x ∈ L2.map (·.1)) (h : ∀ M' a cap, MLe M M' → v = .slice a n cap → n ≤ cap → SM M' a xs → JQ N ex F ⟨W, X, M0⟩ M' L2 Q) : JQ N ex F ⟨W, X, M0⟩ M L Q := by
  intro a w ha hw
  have hw' := hw.perm hp.perm
  have hn : ∀ p ∈ R, p.1 ∉ X := fun p hpR hx => by
    have h1 := hw'.nodup
    rw [List.map_append, List.nodup_append] at h1
    exact h1.2.2 p.1 (List.mem_map_of_mem hpR) p.1 (hg _ hx) rfl
  obtain ⟨M', a', cap, h1, h2, h3, h4, h5⟩ := ho.freeze hn hw'
  exact h M' a' cap h1 h2 h3 h4 a w ha h5
end
structure WdI (s : Sto) (q : Ky) (lev : Nat) (xs0 : List It) (M0 : Mem) (x : WyS) : Prop where
  rng : 8 ≤ x.k ∧ x.k < 256
  nd : wBk s x.k.toNat = some ((x.l : Int), x.xs)
  tr : wCq s x.l x.xs
  fd : ∃ y, wCn s q x.l x.xs = some y
  mle : MLe M0 x.M
  own : Own x.v x.R 55 3 x.ps.length (x.ps.flatMap wFi)
  ns : ∀ p ∈ x.ps, NS x.M p.2 p.1.xs
  eq : wDf s q lev xs0 = x.ps.map (·.1) ++ wDf s q x.l x.xs
  len : x.ps.length + x.l = lev
theorem find_way {s : Sto} {q : Ky} {l : Nat} {xs : List It} {y : It} (h : wCn s q (l + 1) xs = some y) (hw : wAt xs q < xs.length) : wCn s q l (kid s xs[wAt xs q]) = some y ∧ (isAt xs q = false → 1 ≤ place xs q) := by
  rw [wCn] at h
  unfold wGk at h
  by_cases h1 : isAt xs q = true
  · have e : wAt xs q = place xs q := if_pos h1
    have h2 := wKk h1
    rw [if_pos h1, List.getElem?_eq_getElem h2] at h
    refine ⟨?_, fun h3 => by rw [h1] at h3; cases h3⟩
    simp only [e]; exact h
  have e : wAt xs q = place xs q - 1 := if_neg h1
  rw [if_neg h1] at h
  by_cases h0 : place xs q = 0
  · rw [if_pos h0] at h; cases h
  have h2 : place xs q - 1 < xs.length := by omega
  rw [if_neg h0, List.getElem?_eq_getElem h2] at h
  refine ⟨?_, fun _ => by omega⟩
  simp only [e]; exact h
set_option maxHeartbeats 2000000 in
theorem dway_walk (s : Sto) (root : Int) (q : Ky) (bv wv nv lw : Value) (lev : Nat) (xs0 : List It) (M : Mem) (hST : ST M (.agg #[bv, wv, nv, lw]) s) (hr : 8 ≤ root ∧ root < 256) (hst : wCc s) (hnd0 : wBk s root.toNat = some ((lev : Int), xs0)) (ht0 : wCq s lev xs0) (hfd : ∃ y, wCn s q lev xs0 = some y) :
    SpecL Tryz.prog 12 #[.agg #[bv, wv, nv, lw], .int .i64 root, .agg (wBb q).toArray] M [] fun u M' L' => SS M' u (wDf s q lev xs0) ∧ L' = [] := by
  have hlv0 := (wBo hnd0).lev
  refine wAf (vs := [_, _, _]) 50 _ Tryz.func12 rfl Tryz.ntmps12 rfl rfl ?_; intro W
  refine wAb (wAa (wAy rfl rfl (wCm (cs := [bv, wv, nv, lw]) rfl rfl rfl rfl) ?_)); rintro _ _ _ ⟨b3, rfl, rfl, rfl⟩
  refine wAy rfl rfl (wCm (cs := [.int .u8 q.kind, .int .u32 q.id, .int .u32 q.off]) rfl rfl rfl rfl) ?_; rintro _ _ _ ⟨b5, rfl, rfl, rfl⟩
  refine jp rfl (wAc (jT (wAb (wAa (jp rfl (jp rfl (wAc (jT (wAh ?_)))))))))
  refine wAv (α := WyS) (fun x => [(3, .pointer (some ⟨b3, 0, none⟩)), (5, .pointer (some ⟨b5, 0, none⟩)), (6, x.v), (7, .int .i64 x.k)]) (fun x => x.M) (fun x => x.R ++ [(b5, .cells [.int .u8 q.kind, .int .u32 q.id, .int .u32 q.off].toArray 31 (0, 0)), (b3, .cells [bv, wv, nv, lw].toArray 28 (0, 0))]) (fun x => WdI s q lev xs0 M x) (fun x => x.l)
    ⟨root, lev, xs0, [], M, [], .slice none 0 0⟩ (.cons (t := 3) rfl (.cons (t := 5) rfl (.cons (t := 6) rfl (.cons (t := 7) rfl .nil)))) ⟨hr, hnd0, ht0, hfd, MLe.refl _, Own.nil _ _, fun _ h => (by cases h), rfl, by show 0 + lev = lev; omega⟩ (fun w h => h) ?_
  rintro ⟨k, l, xs, ps, Mk, Rk, v⟩ hI
  try dsimp only
  obtain ⟨h1r, h1n, h1t, ⟨y9, hfd9⟩, h1m, hown, h1s, h1e, hps6⟩ := hI
  dsimp only at h1r h1n h1t h1m hown h1s h1e hps6 hfd9
  obtain ⟨va0, vc0, hv0⟩ := hown.form
  subst hv0
  have hno := wBo h1n
  have hlen := (wBo h1n).len
  have hlv := (wBo h1n).lev
  refine wAh (wAb (wAa (sLL rfl ?_)))
  refine jp rfl (wAy rfl rfl (wAu rfl rfl rfl rfl rfl (by kernel_rfl) (rnode_spec s _ k Mk (hST.mono h1m))) ?_); rintro _ Mn _ ⟨hMn, _, rfl, ⟨hrn, rfl⟩⟩
  obtain ⟨sl, rfl, hns0⟩ := hrn.nd (ask_yes hst h1r (ndAt_nz h1n)) h1n
  obtain ⟨na, nc, nps, rfl, hnc, hns, hnp, hnb⟩ := id hns0
  simp only [nA]
  refine jp rfl (jp rfl (jp rfl (sAl rfl fun b8 => ?_)))
  refine sSt rfl ?_
  refine jp rfl (wAc (jT (wAb (wAa (sLL rfl ?_)))))
  refine sLL rfl ?_
  refine wAi rfl rfl (wBr rfl rfl rfl rfl rfl (by kernel_rfl) (place_walk _ xs q na nc nps Mn hnc hns hnp hnb (by omega))) ?_
  refine jp rfl (jp rfl (jsb rfl (fun h24 => ?_) (fun h24 => ?_)))
  · refine jp rfl ?_
    refine jp rfl (wAc (jT (wAb (wAb (wAa (sFL rfl rfl ?_))))))
    refine js rfl (fun h27 => ?_) (fun h27 => ?_)
    · refine jp rfl ?_
      refine jp rfl (jp rfl (jp rfl (wAc (jT (wAk rfl (wAd (jT (wAb ?_))))))))
      have hl0 : l ≠ 0 := by omega
      obtain ⟨l, rfl⟩ : ∃ l2, l = l2 + 1 := ⟨l - 1, by omega⟩
      have hne := wKf h1n (by show (0 : Int) < ((l + 1 : Nat) : Int); omega)
      have hw2 := wAt_lt (q := q) hne
      have hfw := find_way hfd9 hw2
      have hwe : wAt xs q = place xs q := if_pos h24
      rw [← hwe]
      refine wAa (jp rfl (sLL rfl ?_))
      refine jp rfl (wAi rfl rfl (wBa (cs := [_, _, _]) rfl rfl rfl (by rfl)) ?_)
      refine wAy rfl rfl (wAn (cs := [_, _, _]) rfl rfl rfl (by rfl) (by rfl) (by rfl)) ?_; rintro _ _ _ ⟨b38, rfl, rfl, rfl⟩
      have hl6 : l < 6 := by omega
      refine wAy rfl rfl (wDv (R := Rk) (m := 1) (news := wFi (⟨((l + 1 : Nat) : Int), xs, wAt xs q⟩, .slice na xs.length nc)) rfl rfl rfl rfl hown rfl (fun i v hv => CJ.loc (by rw [← hv]; show _[0 + i]? = _; rw [Nat.zero_add]; rfl)) rfl (by rfl) (by simp [wFi, Value.oneCell']) (by omega) (by omega)) ?_; rintro s' _ _ ⟨rfl, Rq, rfl, hown', _⟩
      obtain ⟨a4, c4, rfl⟩ := hown'.form
      refine jp rfl (wAc (jT (wAb (wAb (wAa (sFL rfl rfl ?_))))))
      refine jf rfl (decide_eq_false (by omega)) ?_
      refine wAc (jT (wAk rfl (wAd (jT (wAa (sFL rfl rfl ?_))))))
      refine jp rfl ?_
      obtain ⟨sb, so, e0, hx⟩ := hns.open (by intro e; have := congrArg List.length e; rw [wBi wAs 5 wAq, List.length_nil] at this; have h2 := congrArg List.length hnp; rw [List.length_map] at h2; omega)
      cases e0
      obtain ⟨va, vc, hcl, hvc, hvs⟩ := wBt hx hnp hnb hw2
      refine wAi rfl rfl (wBe rfl rfl rfl rfl (by omega)) ?_
      refine sFa rfl ?_
      refine wAi rfl rfl (qLd rfl rfl rfl rfl ((hcl 3 _ rfl).cj _)) ?_
      refine jp rfl (wAc (jB ?_))
      obtain ⟨ys, hy1, hy2, hy3⟩ := wEu h1t (List.getElem_mem hw2)
      have hkid : kid s xs[wAt xs q] = ys := by unfold kid; rw [hy1]
      refine wAp ⟨xs[wAt xs q].ref, l, ys, ps ++ [(⟨((l + 1 : Nat) : Int), xs, wAt xs q⟩, .slice (some ⟨sb, so, none⟩) xs.length nc)], Mn, Rq, .slice a4 (ps.length + 1) c4⟩ (.cons (t := 3) rfl (.cons (t := 5) rfl (.cons (t := 6) rfl (.cons (t := 7) rfl .nil)))) ⟨by have := hno.ref _ (List.getElem_mem hw2); have := hno.up (by omega) _ (List.getElem_mem hw2); show 8 ≤ xs[wAt xs q].ref ∧ xs[wAt xs q].ref < 256; omega, hy1, hy3, ⟨y9, by rw [← hkid]; exact hfw.1⟩, h1m.trans hMn, ?_, ?_, ?_, ?_⟩ (by show l < l + 1; omega) (fun w h => h.dropAt.dropAt.perm (wGe fun f => by simp only [List.map_append, List.map_cons, List.map_nil, List.sum_append, List.sum_cons, List.sum_nil] <;> omega))
      · show Own _ Rq _ 3 (ps ++ [_]).length ((ps ++ [_]).flatMap wFi)
        rw [List.length_append, List.flatMap_append]; simpa using hown'
      · intro p hp; rcases List.mem_append.1 hp with hp | hp
        · exact (h1s p hp).mono hMn
        rw [List.mem_singleton.1 hp]; exact hns0
      · rw [h1e]; show ps.map _ ++ wDf s q (l + 1) xs = (ps ++ [_]).map _ ++ _
        rw [wDf, List.getElem?_eq_getElem hw2, List.map_append, List.append_assoc]; show _ ++ (_ :: wDf s q l (kid s xs[wAt xs q])) = _; rw [hkid]; rfl
      show (ps ++ [_]).length + l = lev; rw [List.length_append]; show ps.length + 1 + l = lev; omega
    refine jp rfl (jp rfl (jp rfl (jp rfl (wAc (jT (wAk rfl (wAd (jT (wAb (wAa (jp rfl (sLL rfl ?_))))))))))))
    refine jp rfl (wAi rfl rfl (wBa (cs := [_, _, _]) rfl rfl rfl (by rfl)) ?_)
    refine wAy rfl rfl (wAn (cs := [_, _, _]) rfl rfl rfl (by rfl) (by rfl) (by rfl)) ?_; rintro _ _ _ ⟨b38, rfl, rfl, rfl⟩
    have hl6 : l < 6 := by omega
    refine wAy rfl rfl (wDv (R := Rk) (m := 1) (news := wFi (⟨((l : Nat) : Int), xs, place xs q⟩, .slice na xs.length nc)) rfl rfl rfl rfl hown rfl (fun i v hv => CJ.loc (by rw [← hv]; show _[0 + i]? = _; rw [Nat.zero_add]; rfl)) rfl (by rfl) (by simp [wFi, Value.oneCell']) (by omega) (by omega)) ?_; rintro s' _ _ ⟨rfl, Rq, rfl, hown', _⟩
    obtain ⟨a4, c4, rfl⟩ := hown'.form
    refine jp rfl (wAc (jT (wAb (wAb (wAa (sFL rfl rfl ?_))))))
    refine jt rfl (decide_eq_true (by omega)) ?_
    refine wAc (jT (wAg rfl (wAb (wAa (jp rfl (jp rfl (wAc (jT (wAe (jTr (jBr (jTr (jBr (wGy (R := Rq) hown' (by simp) ?_))))))))))))))
    intro Mf af cf hMf ef hcf hsf; cases ef
    refine wAr (L' := []) (List.nil_sublist _) ?_
    refine jr1 rfl rfl ?_
    have hl0 : l = 0 := by omega
    subst hl0
    refine ⟨?_, rfl⟩
    rw [h1e]
    refine ⟨a4, c4, ps ++ [(⟨((0 : Nat) : Int), xs, place xs q⟩, .slice na xs.length nc)], ?_, ?_, ?_, ?_, ?_⟩
    · rw [List.length_append, List.length_map]; rfl
    · rw [List.length_append, List.length_map]; exact hcf
    · rw [List.flatMap_append]; simpa using hsf
    · rw [List.map_append]; rfl
    intro p hp; rcases List.mem_append.1 hp with hp | hp
    · exact (h1s p hp).mono (hMn.trans hMf)
    rw [List.mem_singleton.1 hp]; exact hns0.mono hMf
  refine jp rfl (jp rfl (wAc (jT (wAb (wAb (wAa (sFL rfl rfl ?_)))))))
  refine js rfl (fun h27 => ?_) (fun h27 => ?_)
  · refine jp rfl ?_
    refine jp rfl (jp rfl (jp rfl (wAc (jT (wAg rfl ?_)))))
    have hl0 : l ≠ 0 := by omega
    obtain ⟨l, rfl⟩ : ∃ l2, l = l2 + 1 := ⟨l - 1, by omega⟩
    have hne := wKf h1n (by show (0 : Int) < ((l + 1 : Nat) : Int); omega)
    have hw2 := wAt_lt (q := q) hne
    have hfw := find_way hfd9 hw2
    have hwe : wAt xs q = place xs q - 1 := if_neg (by rw [h24]; decide)
    refine wAa (jp rfl ?_)
    refine wAi rfl rfl (qEq (qA rfl rfl rfl rfl rfl (by omega)) (v' := .int .i64 ((wAt xs q : Nat) : Int)) (congrArg _ (by have := hfw.2 h24; rw [hwe]; omega))) ?_
    refine jp rfl (wAc (jT (wAb (wAa (jp rfl (sLL rfl ?_))))))
    refine jp rfl (wAi rfl rfl (wBa (cs := [_, _, _]) rfl rfl rfl (by rfl)) ?_)
    refine wAy rfl rfl (wAn (cs := [_, _, _]) rfl rfl rfl (by rfl) (by rfl) (by rfl)) ?_; rintro _ _ _ ⟨b38, rfl, rfl, rfl⟩
    have hl6 : l < 6 := by omega
    refine wAy rfl rfl (wDv (R := Rk) (m := 1) (news := wFi (⟨((l + 1 : Nat) : Int), xs, wAt xs q⟩, .slice na xs.length nc)) rfl rfl rfl rfl hown rfl (fun i v hv => CJ.loc (by rw [← hv]; show _[0 + i]? = _; rw [Nat.zero_add]; rfl)) rfl (by rfl) (by simp [wFi, Value.oneCell']) (by omega) (by omega)) ?_; rintro s' _ _ ⟨rfl, Rq, rfl, hown', _⟩
    obtain ⟨a4, c4, rfl⟩ := hown'.form
    refine jp rfl (wAc (jT (wAb (wAb (wAa (sFL rfl rfl ?_))))))
    refine jf rfl (decide_eq_false (by omega)) ?_
    refine wAc (jT (wAk rfl (wAd (jT (wAa (sFL rfl rfl ?_))))))
    refine jp rfl ?_
    obtain ⟨sb, so, e0, hx⟩ := hns.open (by intro e; have := congrArg List.length e; rw [wBi wAs 5 wAq, List.length_nil] at this; have h2 := congrArg List.length hnp; rw [List.length_map] at h2; omega)
    cases e0
    obtain ⟨va, vc, hcl, hvc, hvs⟩ := wBt hx hnp hnb hw2
    refine wAi rfl rfl (wBe rfl rfl rfl rfl (by omega)) ?_
    refine sFa rfl ?_
    refine wAi rfl rfl (qLd rfl rfl rfl rfl ((hcl 3 _ rfl).cj _)) ?_
    refine jp rfl (wAc (jB ?_))
    obtain ⟨ys, hy1, hy2, hy3⟩ := wEu h1t (List.getElem_mem hw2)
    have hkid : kid s xs[wAt xs q] = ys := by unfold kid; rw [hy1]
    refine wAp ⟨xs[wAt xs q].ref, l, ys, ps ++ [(⟨((l + 1 : Nat) : Int), xs, wAt xs q⟩, .slice (some ⟨sb, so, none⟩) xs.length nc)], Mn, Rq, .slice a4 (ps.length + 1) c4⟩ (.cons (t := 3) rfl (.cons (t := 5) rfl (.cons (t := 6) rfl (.cons (t := 7) rfl .nil)))) ⟨by have := hno.ref _ (List.getElem_mem hw2); have := hno.up (by omega) _ (List.getElem_mem hw2); show 8 ≤ xs[wAt xs q].ref ∧ xs[wAt xs q].ref < 256; omega, hy1, hy3, ⟨y9, by rw [← hkid]; exact hfw.1⟩, h1m.trans hMn, ?_, ?_, ?_, ?_⟩ (by show l < l + 1; omega) (fun w h => h.dropAt.dropAt.perm (wGe fun f => by simp only [List.map_append, List.map_cons, List.map_nil, List.sum_append, List.sum_cons, List.sum_nil] <;> omega))
    · show Own _ Rq _ 3 (ps ++ [_]).length ((ps ++ [_]).flatMap wFi)
      rw [List.length_append, List.flatMap_append]; simpa using hown'
    · intro p hp; rcases List.mem_append.1 hp with hp | hp
      · exact (h1s p hp).mono hMn
      rw [List.mem_singleton.1 hp]; exact hns0
    · rw [h1e]; show ps.map _ ++ wDf s q (l + 1) xs = (ps ++ [_]).map _ ++ _
      rw [wDf, List.getElem?_eq_getElem hw2, List.map_append, List.append_assoc]; show _ ++ (_ :: wDf s q l (kid s xs[wAt xs q])) = _; rw [hkid]; rfl
    show (ps ++ [_]).length + l = lev; rw [List.length_append]; show ps.length + 1 + l = lev; omega
  refine jp rfl (jp rfl (jp rfl (jp rfl (wAc (jT (wAk rfl (wAd (jT (wAb (wAa (jp rfl (sLL rfl ?_))))))))))))
  refine jp rfl (wAi rfl rfl (wBa (cs := [_, _, _]) rfl rfl rfl (by rfl)) ?_)
  refine wAy rfl rfl (wAn (cs := [_, _, _]) rfl rfl rfl (by rfl) (by rfl) (by rfl)) ?_; rintro _ _ _ ⟨b38, rfl, rfl, rfl⟩
  have hl6 : l < 6 := by omega
  refine wAy rfl rfl (wDv (R := Rk) (m := 1) (news := wFi (⟨((l : Nat) : Int), xs, place xs q⟩, .slice na xs.length nc)) rfl rfl rfl rfl hown rfl (fun i v hv => CJ.loc (by rw [← hv]; show _[0 + i]? = _; rw [Nat.zero_add]; rfl)) rfl (by rfl) (by simp [wFi, Value.oneCell']) (by omega) (by omega)) ?_; rintro s' _ _ ⟨rfl, Rq, rfl, hown', _⟩
  obtain ⟨a4, c4, rfl⟩ := hown'.form
  refine jp rfl (wAc (jT (wAb (wAb (wAa (sFL rfl rfl ?_))))))
  refine jt rfl (decide_eq_true (by omega)) ?_
  refine wAc (jT (wAg rfl (wAb (wAa (jp rfl (jp rfl (wAc (jT (wAe (jTr (jBr (jTr (jBr (wGy (R := Rq) hown' (by simp) ?_))))))))))))))
  intro Mf af cf hMf ef hcf hsf; cases ef
  refine wAr (L' := []) (List.nil_sublist _) ?_
  refine jr1 rfl rfl ?_
  have hl0 : l = 0 := by omega
  subst hl0
  refine ⟨?_, rfl⟩
  rw [h1e]
  refine ⟨a4, c4, ps ++ [(⟨((0 : Nat) : Int), xs, place xs q⟩, .slice na xs.length nc)], ?_, ?_, ?_, ?_, ?_⟩
  · rw [List.length_append, List.length_map]; rfl
  · rw [List.length_append, List.length_map]; exact hcf
  · rw [List.flatMap_append]; simpa using hsf
  · rw [List.map_append]; rfl
  intro p hp; rcases List.mem_append.1 hp with hp | hp
  · exact (h1s p hp).mono (hMn.trans hMf)
  rw [List.mem_singleton.1 hp]; exact hns0.mono hMf
theorem BnPost.kid {s : Sto} {y : It} {u : Value} {M' : Mem} (h : BnPost s y.ref.toNat u M') : ∃ lv a c e, u = .tuple #[.agg #[.int .i64 lv, .slice a (kid s y).length c], .int .i64 e] ∧ NS M' (.slice a (kid s y).length c) (kid s y) := by
  obtain ⟨lv, a, n, c, e, h1, ⟨_, h2⟩ | ⟨_, xs, h2, h3, h4⟩⟩ := h.form
  · unfold BnPost at h
    rw [h2] at h
    have e : Go.Proofs.YtkcpllhggofloaaGreat.kid s y = [] := by unfold Go.Proofs.YtkcpllhggofloaaGreat.kid; rw [h2]
    rw [e]
    exact ⟨0, none, 0, 8, h, NS.nil⟩
  have e : Go.Proofs.YtkcpllhggofloaaGreat.kid s y = xs := by unfold Go.Proofs.YtkcpllhggofloaaGreat.kid; rw [h2]
  rw [e]
  subst h3
  exact ⟨lv, a, c, _, h1, h4⟩
def SgPost (r : Except Int (Sto × Int)) (bb : Nat) (u : Value) (M' : Mem) (L' : Lc) : Prop := ∃ at_ e, u = .tuple #[.int .i64 at_, .int .i64 e] ∧ ((e ≠ 0 ∧ r = .error e) ∨ (e = 0 ∧ ∃ t, r = .ok (t, at_) ∧ wCc t ∧ BOwn M' bb L' t))
theorem single_spec (s : Sto) (lv : Int) (l : List It) (held : Int) (la : Option Addr) (lc : Nat) (bb : Nat) (M : Mem) (Lb : Lc) (hB0 : BOwn M bb Lb s) (hst : wCc s) (hls : NS M (.slice la l.length lc) l) (hkd : ∀ x ∈ l, 0 ≤ x.key.kind ∧ x.key.kind < 256) (hh : held = 0 ∨ (8 ≤ held ∧ held < 256)) :
    SpecL Tryz.prog 18 #[.pointer (some ⟨bb, 0, none⟩), .int .i64 lv, .slice la l.length lc, .int .i64 held] M Lb (SgPost (wEb s lv l held) bb) := by
  obtain ⟨la2, lc2, ps, e0, hc, hs, hp, hb⟩ := id hls
  cases e0
  have hs256 : s.now.length = 256 ∧ s.last.length = 256 ∧ s.waits.length ≤ 4096 := ⟨hst.2.1.1, hst.2.2.1, hst.1.2.1⟩
  refine wAf (vs := [_, _, _, _]) 29 _ Tryz.func18 rfl Tryz.ntmps18 rfl rfl ?_; intro W
  refine wAb (wAa (jp rfl (jp rfl (wAc (jT (wAb (wAa (jp rfl (jp rfl (jp rfl (wAi rfl rfl (wBa (cs := [_, _]) rfl rfl rfl (by rfl)) ?_)))))))))))
  refine wAy rfl rfl (wAu rfl rfl rfl rfl rfl (by kernel_rfl) (bmake_any s lv l la lc ps M hc hs hp hb hkd bb Lb hB0 hs256.1 hs256.2.1 hs256.2.2)) ?_; rintro _ Mm _ ⟨hMm, R', rfl, ⟨at_, e, rfl, he, hB2⟩⟩
  refine jp rfl (jp rfl (jp rfl (jp rfl (jp rfl (wAc (jT (wAb (wAb (wAa (jp rfl (js rfl (fun h19 => ?_) (fun h19 => ?_))))))))))))
  · refine jp rfl ?_
    refine jp rfl (js rfl (fun h22 => ?_) (fun h22 => ?_))
    · refine jp rfl ?_
      refine wAc (jT (wAg rfl (wAa (jp rfl (jp rfl ?_)))))
      have he0 : e = 0 := h19
      obtain ⟨hat, hB3⟩ := hB2 he0
      have hmk0 : mkE s lv l = 0 := he.symm.trans he0
      have hmo := mkE_ok hmk0 hst.1.2.1
      have hmk := mkS_ok hst hmo.1 hmo.2.2.1 hmo.2.2.2
      have hkr2 : ((held.toNat : Nat) : Int) = held := Int.toNat_of_nonneg (by omega)
      refine wAy rfl rfl (wAu rfl rfl rfl rfl rfl (by kernel_rfl) (by have := loose_any (mkS s lv l) held.toNat bb (by rw [hmk.2.1.1]; omega) Mm R' hB3; rwa [hkr2] at this)) ?_; rintro _ Mq _ ⟨hMq, R2, rfl, ⟨rfl, hB4⟩⟩
      refine jp rfl (wAc (jT (wAb (wAa (jp rfl (jp rfl (jp rfl (jp rfl (wAc (jT (wAe (jr2 rfl rfl rfl ?_))))))))))))
      refine ⟨at_, wDo (mkS s lv l) held.toNat, rfl, ?_⟩
      by_cases hz : wDo (mkS s lv l) held.toNat = 0
      · refine .inr ⟨hz, _, ?_, ?_, by simpa using hB4 hz⟩
        · unfold wEb; rw [if_pos hmk0, if_pos (by omega), if_pos hz, hat]
        exact wFv hmk (by omega)
      refine .inl ⟨hz, ?_⟩
      unfold wEb; rw [if_pos hmk0, if_pos (by omega), if_neg hz]
    refine jp rfl (wAc (jT (wAk rfl (wAd (jT (wAb (wAa (jp rfl (jp rfl (jp rfl (jp rfl (wAc (jT (wAe (jr2 rfl rfl rfl ?_)))))))))))))))
    have he0 : e = 0 := h19
    obtain ⟨hat, hB3⟩ := hB2 he0
    have hmk0 : mkE s lv l = 0 := he.symm.trans he0
    have hmo := mkE_ok hmk0 hst.1.2.1
    have hmk := mkS_ok hst hmo.1 hmo.2.2.1 hmo.2.2.2
    refine ⟨at_, e, rfl, .inr ⟨he0, mkS s lv l, ?_, hmk, by simpa using hB3⟩⟩
    unfold wEb; rw [if_pos hmk0, if_neg (by omega), hat]
  refine jp rfl (jp rfl (jp rfl (jp rfl (wAc (jT (wAk rfl (wAd (jT (wAb (wAa (jp rfl (jp rfl (jp rfl (jp rfl (wAc (jT (wAe (jr2 rfl rfl rfl ?_))))))))))))))))))
  refine ⟨at_, e, rfl, .inl ⟨h19, ?_⟩⟩
  unfold wEb; rw [if_neg (by rw [← he]; exact h19), ← he]
structure LwS where
  n : Nat
  t : Sto
  r : Int
  l : Nat
  xs : List It
  M : Mem
  L : Lc
structure LwI (bb : Nat) (n0 : Nat) (s : Sto) (r0 : Int) (x : LwS) : Prop where
  rng : 8 ≤ x.r ∧ x.r < 256
  ok : wCc x.t
  bo : BOwn x.M bb x.L x.t
  nd : wBk x.t x.r.toNat = some ((x.l : Int), x.xs)
  lev : Lev x.t x.l x.xs
  eq : lowF n0 s r0 = lowF x.n x.t x.r
  lt : x.l < x.n
theorem BnPost.nd {s : Sto} {k : Nat} {lv : Int} {xs : List It} {u : Value} {M' : Mem} (h : BnPost s k u M') (hnd : wBk s k = some (lv, xs)) : ∃ a c, u = .tuple #[.agg #[.int .i64 lv, .slice a xs.length c], .int .i64 0] ∧ NS M' (.slice a xs.length c) xs := by
  obtain ⟨lv2, a, n, c, e, h1, ⟨_, h2⟩ | ⟨h0, ys, h2, h3, h4⟩⟩ := h.form
  · rw [h2] at hnd; cases hnd
  rw [h2] at hnd; cases hnd; subst h3; subst h0; exact ⟨a, c, h1, h4⟩
theorem low_zero {n : Nat} {t : Sto} {r : Int} {xs : List It} (hnd : wBk t r.toNat = some (((0 : Nat) : Int), xs)) (hn : 0 < n) : lowF n t r = .ok (t, r) := by
  obtain ⟨n, rfl⟩ : ∃ m, n = m + 1 := ⟨n - 1, by omega⟩
  rw [lowF, hnd]; exact if_pos rfl
theorem low_many {n l : Nat} {t : Sto} {r : Int} {xs : List It} (hnd : wBk t r.toNat = some ((l : Int), xs)) (hn : 0 < n) (h1 : ¬ (xs.length : Int) = 1) : lowF n t r = .ok (t, r) := by
  obtain ⟨n, rfl⟩ : ∃ m, n = m + 1 := ⟨n - 1, by omega⟩
  rw [lowF, hnd]
  by_cases h0 : (l : Int) = 0
  · exact if_pos h0
  refine (if_neg h0).trans ?_
  rcases xs with _ | ⟨x, _ | ⟨y, ys⟩⟩
  · rfl
  · exact absurd rfl h1
  rfl
theorem low_one {n l : Nat} {t : Sto} {r : Int} {x : It} (hnd : wBk t r.toNat = some ((l : Int), [x])) (h0 : ¬ (l : Int) = 0) : lowF (n + 1) t r = if wCk t x.ref.toNat = 0 then (match wGv (wCs t x.ref.toNat) r with
          | none => .error 8
          | some u => lowF n u x.ref) else .error (wCk t x.ref.toNat) := by rw [lowF, hnd]; exact if_neg h0
set_option maxHeartbeats 2000000 in
theorem lower_spec (s : Sto) (r0 : Int) (l0 n0 : Nat) (xs0 : List It) (bb : Nat) (M : Mem) (Lb : Lc) (hB0 : BOwn M bb Lb s) (hst : wCc s) (hr0 : 8 ≤ r0 ∧ r0 < 256) (hnd0 : wBk s r0.toNat = some ((l0 : Int), xs0)) (hL0 : Lev s l0 xs0) (hn0 : l0 < n0) :
    SpecL Tryz.prog 20 #[.pointer (some ⟨bb, 0, none⟩), .int .i64 r0] M Lb (SgPost (lowF n0 s r0) bb) := by
  refine wAf (vs := [_, _]) 50 _ Tryz.func20 rfl Tryz.ntmps20 rfl rfl ?_; intro W
  refine wAb (wAa (jp rfl (jp rfl (wAc (jT (wAh ?_))))))
  refine wAv (α := LwS) (fun x => [(0, .pointer (some ⟨bb, 0, none⟩)), (1, .int .i64 x.r)]) (fun x => x.M) (fun x => x.L) (fun x => LwI bb n0 s r0 x) (fun x => x.l)
    ⟨n0, s, r0, l0, xs0, M, Lb⟩ (.cons (t := 0) rfl (.cons (t := 1) rfl .nil)) ⟨hr0, hst, hB0, hnd0, hL0, rfl, hn0⟩ (fun w h => h) ?_
  rintro ⟨n, t, r, l, xs, Mk, Lk⟩ hI
  try dsimp only
  obtain ⟨h1r, h1k, h1b, h1n, h1v, h1e, h1l⟩ := hI
  dsimp only at h1r h1k h1b h1n h1v h1e h1l
  have hno := wBo h1n
  refine wAh (wAb (wAa (jp rfl (jp rfl ?_))))
  refine wAy rfl rfl (wAu rfl rfl rfl rfl rfl (by kernel_rfl) (by have := bnode_own t r.toNat bb (by omega) h1k Mk Lk h1b; rwa [show ((r.toNat : Nat) : Int) = r by omega] at this)) ?_; rintro _ Mn _ ⟨hMn, Rk2, rfl, ⟨hbn, hLk⟩⟩
  rw [hLk]
  obtain ⟨na, nc, rfl, hns⟩ := hbn.nd h1n
  refine jp rfl (jp rfl (jp rfl (sAl rfl fun b6 => ?_)))
  refine sSt rfl ?_
  refine jp rfl (wAc (jT (wAb (wAb (wAa (jp rfl (jf rfl (decide_eq_false (by omega)) ?_)))))))
  refine jp rfl (sFL rfl rfl ?_)
  refine js rfl (fun h22 => ?_) (fun h22 => ?_)
  · iterate 7 refine jp rfl ?_
    refine wAc (jT (wAg rfl (wAb (wAa (jp rfl (jp rfl (jp rfl (jp rfl (wAc (jT (wAe (jTr (jBr (jTr (jBr (wAr (L' := Lk) (by simp) ?_))))))))))))))))
    refine jr2 rfl rfl rfl ?_
    have hl0 : l = 0 := by omega
    subst hl0
    refine ⟨r, 0, rfl, .inr ⟨rfl, t, ?_, h1k, h1b.mono hMn⟩⟩
    rw [h1e]; exact low_zero h1n h1l
  refine jp rfl (jp rfl (sFL rfl rfl ?_))
  refine wAi rfl rfl (wBj rfl rfl rfl) ?_
  refine js rfl (fun h28 => ?_) (fun h28 => ?_)
  · refine jp rfl ?_
    refine wAc (jT (wAg rfl (wAb (wAa (jp rfl (jp rfl (jp rfl (jp rfl (wAc (jT (wAe (jTr (jBr (jTr (jBr (wAr (L' := Lk) (by simp) ?_))))))))))))))))
    refine jr2 rfl rfl rfl ?_
    refine ⟨r, 0, rfl, .inr ⟨rfl, t, ?_, h1k, h1b.mono hMn⟩⟩
    rw [h1e]; exact low_many h1n (by omega) h28
  refine jp rfl (wAc (jT (wAk rfl (wAd (jT (wAb (wAa (sFL rfl rfl ?_))))))))
  have hl9 : xs.length = 1 := by omega
  obtain ⟨x, rfl⟩ := List.length_eq_one_iff.1 hl9
  obtain ⟨nps, hnc, hns2, hnp, hnb⟩ : ∃ ps : List Ir, [x].length ≤ nc ∧ SM Mn na (ps.flatMap wAs) ∧ ps.map (·.1) = [x] ∧ ∀ p ∈ ps, BS Mn p.2 p.1.val := by obtain ⟨_, _, ps, e, h1, h2, h3, h4⟩ := hns; cases e; exact ⟨ps, h1, h2, h3, h4⟩
  obtain ⟨sb, so, e0, hx⟩ := hns2.open (by intro e; have := congrArg List.length e; rw [wBi wAs 5 wAq, List.length_nil] at this; have h2 := congrArg List.length hnp; rw [List.length_map, List.length_singleton] at h2; omega)
  cases e0
  obtain ⟨va, vc, hcl, hvc, hvs⟩ := wBt hx hnp hnb (k := 0) (by simp)
  obtain ⟨l, rfl⟩ : ∃ l2, l = l2 + 1 := ⟨l - 1, by omega⟩
  obtain ⟨ys, hy1, hy2⟩ := h1v x (by simp)
  have hb : 8 ≤ x.ref ∧ x.ref < 256 := by have := hno.ref x (by simp); have := hno.up (by omega) x (by simp); omega
  obtain ⟨n, rfl⟩ : ∃ m, n = m + 1 := ⟨n - 1, by omega⟩
  rw [low_one h1n h22] at h1e
  refine wAi rfl rfl (wBe rfl rfl rfl rfl (by simp)) ?_
  refine sFa rfl ?_
  refine wAi rfl rfl (qLd rfl rfl rfl rfl ((hcl 3 _ rfl).cj _)) ?_
  refine jp rfl (wAc (jT (wAb (wAb (wAa (jp rfl (jp rfl ?_)))))))
  refine wAy rfl rfl (wAu rfl rfl rfl rfl rfl (by kernel_rfl) (by have := share_any t x.ref.toNat bb (by rw [h1k.2.1.1]; omega) Mn Lk (h1b.mono hMn); rwa [show ((x.ref.toNat : Nat) : Int) = x.ref by omega] at this)) ?_; rintro _ Ms _ ⟨hMs, R2, rfl, ⟨rfl, hB2⟩⟩
  refine jp rfl (wAc (jT (wAb (wAa (jp rfl (js rfl (fun h41 => ?_) (fun h41 => ?_)))))))
  · refine wAc ?_
    refine jT (wAg rfl (wAb (wAa (jp rfl (jp rfl (jp rfl (wAc (jT (wAe (jTr (jBr (jTr (jBr (wAr (L' := R2) (by simp) ?_))))))))))))))
    refine jr2 rfl rfl rfl ?_
    refine ⟨0, wCk t x.ref.toNat, rfl, .inl ⟨h41, ?_⟩⟩
    rw [h1e]; exact if_neg h41
  refine wAc (jT (wAk rfl (wAd (jT (wAb (wAb (wAa (jp rfl (jp rfl ?_)))))))))
  have h41b : wCk t x.ref.toNat = 0 := Classical.not_not.1 h41
  obtain ⟨u9, hlv9, hok9, hnds9, _⟩ := low_leave h1k h1r hb h1n hy1 h41b
  refine wAy rfl rfl (wAu rfl rfl rfl rfl rfl (by kernel_rfl) (leave_spec (wCs t x.ref.toNat) r h1r (shareS_ok h1k (by omega)) bb Ms R2 (hB2 h41b))) ?_; rintro _ Ml _ ⟨hMl, R3, rfl, hlp⟩
  obtain ⟨e, rfl, hlp2⟩ := LvPost.form hlp
  obtain ⟨_, hl0⟩ | ⟨rfl, u8, hl8, hok8, hbo8⟩ := hlp2
  · rw [hlv9] at hl0; cases hl0
  rw [hlv9] at hl8; cases hl8
  refine jp rfl (wAc (jT (wAb (wAa (jp rfl (jf rfl (decide_eq_false (by omega)) ?_))))))
  refine wAc (jT (wAk rfl (wAd (jT (wAa (jp rfl (jp rfl (wAc (jB ?_)))))))))
  rw [if_pos h41b, hlv9] at h1e
  refine wAp ⟨n, u9, x.ref, l, ys, Ml, R3⟩ (.cons (t := 0) rfl (.cons (t := 1) rfl .nil)) ⟨hb, hok8, hbo8, ?_, lev_off h1n hnds9 (show (l : Int) ≤ ((l + 1 : Nat) : Int) by omega) hy2, h1e, by show l < n; omega⟩ (by show l < l + 1; omega) (fun w h => h.dropAt.perm (wGe fun f => by simp only [List.map_append, List.map_cons, List.map_nil, List.sum_append, List.sum_cons, List.sum_nil] <;> omega))
  show wBk u9 x.ref.toNat = _
  rw [hnds9 _ (fun e => by rw [e, h1n] at hy1; cases hy1)]; exact hy1
theorem iconcat_own (r1 r2 : List Ir) (v1 v2 : Value) (b : Nat) (M : Mem) (h1 : RwS M v1 r1) (h2 : RwS M v2 r2) (ho1 : ∀ x ∈ r1, x.2.oneCell' = true) (ho2 : ∀ x ∈ r2, x.2.oneCell' = true) (hn : r1.length + r2.length ≤ 1000000) :
    SpecL Tryz.prog 34 #[.slice (some ⟨b, 0, none⟩) 2 2] M [(b, .cells [v1, v2].toArray 51 (0, 0))] fun u M' L' => ∃ R', L' = [(b, .cells [v1, v2].toArray 51 (0, 0))] ++ R' ∧ Own u R' IT 5 (r1.length + r2.length) ((r1 ++ r2).flatMap wAs) := by
  have := SpecL.lend (R := [(b, .cells [v1, v2].toArray 51 (0, 0))]) (L := []) (post := fun u M' L' => Own u L' IT 5 (r1.length + r2.length) ((r1 ++ r2).flatMap wAs)) (fun hnd h0 => iconcat_spec r1 r2 v1 v2 b (addL M [(b, .cells [v1, v2].toArray 51 (0, 0))]) (wKr hnd (p := (b, _)) (by simp)) (h1.mono (addL_le h0)) (h2.mono (addL_le h0)) ho1 ho2 hn)
  rw [List.append_nil] at this
  refine this.mono ?_
  rintro u M' L' ⟨M1, L1, hp, rfl, _⟩
  exact ⟨L1, rfl, hp⟩
def JnPost (s : Sto) (w : Stp) (l : List It) (Lb : Lc) (u : Value) (M' : Mem) (L' : Lc) : Prop := ∃ a c, u = .tuple #[.slice a (wBh s w l).1.length c, .agg #[.int .i64 ((wBh s w l).2.1 : Int), .int .i64 ((wBh s w l).2.2 : Int)]] ∧ NS M' (.slice a (wBh s w l).1.length c) (wBh s w l).1 ∧ L' = Lb
theorem rws_of {M : Mem} {a : Option Addr} {c : Nat} {xs : List It} (h : NS M (.slice a xs.length c) xs) : ∃ ps : List Ir, ps.map (·.1) = xs ∧ RwS M (.slice a xs.length c) ps ∧ (∀ p ∈ ps, BS M p.2 p.1.val) := by
  obtain ⟨a2, c2, ps, e, h1, h2, h3, h4⟩ := h
  cases e
  have hl : ps.length = xs.length := by rw [← h3, List.length_map]
  exact ⟨ps, h3, ⟨a, c, by rw [hl], by rw [hl]; exact h1, h2⟩, h4⟩
theorem kid_le5 (s : Sto) (y : It) : (kid s y).length ≤ 5 := by
  unfold kid
  split
  · rename_i lv ys h; exact (wBo h).len
  exact Nat.zero_le _
theorem join_no {s : Sto} {w : Stp} {l : List It} (h : nxt w = none) : wBh s w l = (l, w.at_, 1) := by unfold wBh; rw [h]
theorem join_yes {s : Sto} {w : Stp} {l : List It} {p : Nat} (h : nxt w = some p) (hp : p < w.xs.length) : wBh s w l = if 5 < (kid s w.xs[p]).length + l.length then (l, w.at_, 1) else if p < w.at_ then (kid s w.xs[p] ++ l, p, 2) else (l ++ kid s w.xs[p], w.at_, 2) := by unfold wBh; rw [h]; simp only [List.getElem?_eq_getElem hp]
set_option maxHeartbeats 2000000 in
theorem join_spec (s : Sto) (w : Stp) (l : List It) (na : Option Addr) (nc : Nat) (la : Option Addr) (lc : Nat) (bb : Nat) (M : Mem) (Lb : Lc) (hB0 : BOwn M bb Lb s) (hst : wCc s) (hnw : NS M (.slice na w.xs.length nc) w.xs) (hls : NS M (.slice la l.length lc) l) (hat : w.at_ < w.xs.length) (hx5 : w.xs.length ≤ 5) (hl5 : l.length ≤ 100) (hxr : ∀ x ∈ w.xs, 8 ≤ x.ref ∧ x.ref < 256) :
    SpecL Tryz.prog 17 #[.pointer (some ⟨bb, 0, none⟩), .agg #[.int .i64 w.lv, .slice na w.xs.length nc, .int .i64 w.at_], .slice la l.length lc] M Lb (JnPost s w l Lb) := by
  refine wAf (vs := [_, _, _]) 73 _ Tryz.func17 rfl Tryz.ntmps17 rfl rfl ?_; intro W
  refine wAb (wAa (wAy rfl rfl (wCm (cs := [.int .i64 w.lv, .slice na w.xs.length nc, .int .i64 w.at_]) rfl rfl rfl rfl) ?_)); rintro _ _ _ ⟨b4, rfl, rfl, rfl⟩
  refine jp rfl (sAl rfl fun b7 => ?_)
  refine wAc (jT (wAb (wAa (sFL rfl rfl ?_))))
  refine wAi rfl rfl (wBa (cs := [_, _]) rfl rfl rfl (by rfl)) ?_
  refine sAl rfl fun b8 => ?_
  refine sSt rfl ?_
  refine wAc (jT (wAb (wAa (sFL rfl rfl ?_))))
  refine ja rfl (by omega) ?_
  refine jp rfl (wAc (jT (jc_merge (α := Int) (fun p => [(0, .pointer (some ⟨bb, 0, none⟩)), (2, .slice la l.length lc), (4, .pointer (some ⟨b4, 0, none⟩)), (6, .slice none 0 0), (7, .pointer (some ⟨b7, 0, none⟩)), (8, .pointer (some ⟨b8, 0, none⟩)), (9, .int .i64 p)]) (fun _ => M) (fun _ => (b8, .cells [.int .i64 w.at_, .int .i64 1].toArray 64 (0, 0)) :: (b7, .cells [.int .i64 0, .int .i64 0].toArray 64 (0, 0)) :: (b4, .cells [.int .i64 w.lv, .slice na w.xs.length nc, .int .i64 w.at_].toArray 55 (0, 0)) :: Lb) (fun p => (nxt w = none ∧ p = -1) ∨ ∃ k : Nat, nxt w = some k ∧ p = (k : Int) ∧ k < w.xs.length) ?_ ?_)))
  · rintro p hp
    try dsimp only at hp ⊢
    refine wAb (wAb (wAa (jp rfl (js rfl (fun h28 => ?_) (fun h28 => ?_)))))
    · refine wAc ?_
      refine jT (wAg rfl (wAb (wBp [(0, true), (1, true), (2, true), (3, false)] [(b8, .cells [.int .i64 w.at_, .int .i64 1].toArray 64 (0, 0))] (by kernel_rfl) (by kernel_rfl) (by kernel_rfl) rfl (by simp) ?_)))
      refine dp rfl rfl ?_
      refine dLL rfl rfl ?_
      refine dp rfl rfl ?_
      refine jd_s rfl rfl (wBm rfl rfl rfl rfl rfl rfl rfl rfl) ?_; rintro _ _ _ ⟨rfl, rfl⟩
      refine ⟨_, _, MLe.refl _, (by first | exact MLe.refl _ | exact hMc), fun _ h => h, by simp, ?_⟩
      refine wBd (jPn (jT (wAe (jTr (wDa (rs := [_, _]) (Lb) (by first | exact List.sublist_append_left _ _ | exact List.Sublist.refl _ | exact .cons _ (List.sublist_append_left _ _) | exact .cons _ (List.Sublist.refl _) | exact .cons _ (.cons _ (List.sublist_append_left _ _)) | exact .cons _ (.cons _ (List.Sublist.refl _)) | exact .cons _ (.cons _ (.cons _ (List.sublist_append_left _ _))) | exact .cons _ (.cons _ (.cons _ (List.Sublist.refl _))) | exact .cons _ (.cons _ (.cons _ (.cons _ (List.sublist_append_left _ _)))) | exact .cons _ (.cons _ (.cons _ (.cons _ (List.Sublist.refl _)))) | exact .cons _ (.cons _ (.cons _ (.cons _ (.cons _ (List.sublist_append_left _ _))))) | exact .cons _ (.cons _ (.cons _ (.cons _ (.cons _ (List.Sublist.refl _))))) | exact .cons _ (.cons _ (.cons _ (.cons _ (.cons _ (.cons _ (List.sublist_append_left _ _)))))) | exact .cons _ (.cons _ (.cons _ (.cons _ (.cons _ (.cons _ (List.Sublist.refl _))))))) rfl (.cons (.tmp rfl) (.cons (.agg rfl rfl rfl) .nil)) ?_)))))
      obtain ⟨hn, _⟩ | ⟨k, _, rfl, _⟩ := hp
      rotate_left
      · exfalso; omega
      have hj := join_no (s := s) (l := l) hn
      refine ⟨la, lc, ?_, ?_, rfl⟩
      · rw [hj]; rfl
      rw [hj]; exact hls
    refine wAc (jT (wAk rfl (wAd (jT (wAb (wAa (jp rfl (sFa rfl ?_))))))))
    refine sFL rfl rfl ?_
    refine jp rfl ?_
    obtain ⟨_, hpn⟩ | ⟨k, hnk, rfl, hk⟩ := hp
    · exfalso; omega
    obtain ⟨a2, c2, nps, e, hnc, hns, hnp, hnb⟩ := id hnw
    cases e
    obtain ⟨sb, so, e0, hx⟩ := hns.open (by intro e; have := congrArg List.length e; rw [wBi wAs 5 wAq, List.length_nil] at this; have h2 := congrArg List.length hnp; rw [List.length_map] at h2; omega)
    cases e0
    obtain ⟨va, vc, hcl, hvc, hvs⟩ := wBt hx hnp hnb hk
    have hr9 := hxr _ (List.getElem_mem hk)
    refine wAi rfl rfl (wBe rfl rfl rfl rfl (by omega)) ?_
    refine sFa rfl ?_
    refine wAi rfl rfl (qLd rfl rfl rfl rfl ((hcl 3 _ rfl).cj _)) ?_
    refine wAy rfl rfl (wAu rfl rfl rfl rfl rfl (by kernel_rfl) (by have := bnode_own s w.xs[k].ref.toNat bb (by omega) hst M Lb hB0; rwa [show ((w.xs[k].ref.toNat : Nat) : Int) = w.xs[k].ref by omega] at this)) ?_; rintro _ Mn _ ⟨hMn, Rk2, rfl, ⟨hbn, hLk⟩⟩
    rw [hLk]
    obtain ⟨klv, ka, kc, ke, rfl, hkn⟩ := hbn.kid
    obtain ⟨kps, hkp, hkr, hkb⟩ := rws_of hkn
    obtain ⟨lps, hlp, hlr, hlb⟩ := rws_of (hls.mono hMn)
    have hkl : kps.length = (kid s w.xs[k]).length := by rw [← hkp, List.length_map]
    have hll : lps.length = l.length := by rw [← hlp, List.length_map]
    have hk5 := kid_le5 s w.xs[k]
    have hj := join_yes (s := s) (l := l) hnk hk
    refine jp rfl (jp rfl (jp rfl (sAl rfl fun b10 => ?_)))
    refine sSt rfl ?_
    refine jp rfl (wAc (jT (wAb (wAh (wAb (wAa (sFL rfl rfl ?_)))))))
    refine wAi rfl rfl (wBj rfl rfl rfl) ?_
    refine jp rfl (wAi rfl rfl (wBj rfl rfl rfl) ?_)
    refine ja rfl (by omega) ?_
    refine js rfl (fun h50 => ?_) (fun h50 => ?_)
    · refine jp rfl ?_
      refine wAc (jT (wAg rfl (wAb (wBp [(0, true), (1, true), (2, true), (3, false)] [(b8, .cells [.int .i64 w.at_, .int .i64 1].toArray 64 (0, 0))] (by kernel_rfl) (by kernel_rfl) (by kernel_rfl) rfl (by simp) ?_))))
      refine dp rfl rfl ?_
      refine dLL rfl rfl ?_
      refine dp rfl rfl ?_
      refine jd_s rfl rfl (wBm rfl rfl rfl rfl rfl rfl rfl rfl) ?_; rintro _ _ _ ⟨rfl, rfl⟩
      refine ⟨_, _, MLe.refl _, (by first | exact MLe.refl _ | exact hMc), fun _ h => h, by simp, ?_⟩
      refine wBd (jPn (jT (wAe (jBr (jTr (wDa (rs := [_, _]) (Lb) (by first | exact List.sublist_append_left _ _ | exact List.Sublist.refl _ | exact .cons _ (List.sublist_append_left _ _) | exact .cons _ (List.Sublist.refl _) | exact .cons _ (.cons _ (List.sublist_append_left _ _)) | exact .cons _ (.cons _ (List.Sublist.refl _)) | exact .cons _ (.cons _ (.cons _ (List.sublist_append_left _ _))) | exact .cons _ (.cons _ (.cons _ (List.Sublist.refl _))) | exact .cons _ (.cons _ (.cons _ (.cons _ (List.sublist_append_left _ _)))) | exact .cons _ (.cons _ (.cons _ (.cons _ (List.Sublist.refl _)))) | exact .cons _ (.cons _ (.cons _ (.cons _ (.cons _ (List.sublist_append_left _ _))))) | exact .cons _ (.cons _ (.cons _ (.cons _ (.cons _ (List.Sublist.refl _))))) | exact .cons _ (.cons _ (.cons _ (.cons _ (.cons _ (.cons _ (List.sublist_append_left _ _)))))) | exact .cons _ (.cons _ (.cons _ (.cons _ (.cons _ (.cons _ (List.Sublist.refl _))))))) rfl (.cons (.tmp rfl) (.cons (.agg rfl rfl rfl) .nil)) ?_))))))
      rw [if_pos (by omega)] at hj
      refine ⟨la, lc, ?_, ?_, rfl⟩
      · rw [hj]; rfl
      rw [hj]; exact hls.mono hMn
    refine jp rfl (wAc (jT (wAk rfl (wAb (wAa (jp rfl (sFL rfl rfl ?_)))))))
    refine js rfl (fun h57 => ?_) (fun h57 => ?_)
    · refine jp rfl ?_
      refine wAc (jT (wAg rfl (wAb (wAa (sFL rfl rfl ?_)))))
      refine jp rfl (wAy rfl rfl (wAn (cs := [_, _]) rfl rfl rfl (by rfl) (by rfl) (by rfl)) ?_); rintro _ _ _ ⟨b61, rfl, rfl, rfl⟩
      refine wAy rfl rfl (wAu rfl rfl rfl rfl rfl (by kernel_rfl) (iconcat_own kps lps _ _ b61 Mn hkr hlr (wHg hkb) (wHg hlb) (by omega))) ?_; rintro _ Mc _ ⟨hMc, R2, rfl, ⟨R3, rfl, hown⟩⟩
      obtain ⟨ca, cc, hcv⟩ := hown.form
      subst hcv
      rw [List.singleton_append, List.cons_append]
      refine jp rfl (wAi rfl rfl (wBa (cs := [_, _]) rfl rfl rfl (by rfl)) ?_)
      refine jp rfl (sSt rfl ?_)
      refine wAc (jT (wAe (jBr (jTr (jq_ownX (R := R3) hown (by simp +contextual) ?_)))))
      intro Mf af cf hMf ef hcf hsf; cases ef
      refine wDa (rs := [_, _]) (Lb) (by first | exact List.sublist_append_left _ _ | exact List.Sublist.refl _ | exact .cons _ (List.sublist_append_left _ _) | exact .cons _ (List.Sublist.refl _) | exact .cons _ (.cons _ (List.sublist_append_left _ _)) | exact .cons _ (.cons _ (List.Sublist.refl _)) | exact .cons _ (.cons _ (.cons _ (List.sublist_append_left _ _))) | exact .cons _ (.cons _ (.cons _ (List.Sublist.refl _))) | exact .cons _ (.cons _ (.cons _ (.cons _ (List.sublist_append_left _ _)))) | exact .cons _ (.cons _ (.cons _ (.cons _ (List.Sublist.refl _)))) | exact .cons _ (.cons _ (.cons _ (.cons _ (.cons _ (List.sublist_append_left _ _))))) | exact .cons _ (.cons _ (.cons _ (.cons _ (.cons _ (List.Sublist.refl _))))) | exact .cons _ (.cons _ (.cons _ (.cons _ (.cons _ (.cons _ (List.sublist_append_left _ _)))))) | exact .cons _ (.cons _ (.cons _ (.cons _ (.cons _ (.cons _ (List.Sublist.refl _))))))) rfl (.cons (.tmp rfl) (.cons (.agg rfl rfl rfl) .nil)) ?_
      rw [if_neg (by omega), if_pos (by omega)] at hj
      refine ⟨ca, cc, ?_, ?_, rfl⟩
      · rw [hj]; simp only [List.length_append, hkl, hll]; rfl
      rw [hj]; refine ⟨ca, cc, kps ++ lps, rfl, ?_, hsf, by rw [List.map_append, hkp, hlp], fun p hp => ?_⟩
      · simp only [List.length_append, ← hkl, ← hll]; exact hcf
      rcases List.mem_append.1 hp with hp | hp
      · exact (hkb p hp).mono (hMc.trans hMf)
      exact (hlb p hp).mono (hMc.trans hMf)
    refine jp rfl (wAc (jT (wAk rfl (wAd (jB (jT (wAb (wBp [(0, true), (1, true), (2, true), (5, true), (6, true), (7, true), (3, false), (4, false), (8, true), (9, false)] [(b10, .cells [.int .i64 klv, .slice ka (kid s w.xs[k]).length kc].toArray 53 (0, 0)), (b4, .cells [.int .i64 w.lv, .slice (some ⟨sb, so, none⟩) w.xs.length nc, .int .i64 w.at_].toArray 55 (0, 0))] (by kernel_rfl) (by kernel_rfl) (by kernel_rfl) rfl (by simp) ?_))))))))
    refine dp rfl rfl ?_
    refine dFa rfl rfl ?_
    refine dLd rfl rfl ?_
    refine dFa rfl rfl ?_
    refine dLd rfl rfl ?_
    refine wBq rfl rfl rfl (wBa (cs := [_, _]) rfl rfl rfl (by rfl)) ?_
    refine wHc rfl rfl rfl (wAn (cs := [_, _]) rfl rfl rfl (by rfl) (by rfl) (by rfl)) ?_; rintro _ _ _ ⟨b68, rfl, rfl, rfl⟩
    refine wGn (MLe.refl _) (fun _ h => List.mem_cons_of_mem _ h) (by first | exact MLe.refl _ | assumption) (by simp) ?_
    refine wHc rfl rfl rfl (wAu rfl rfl rfl rfl rfl (by kernel_rfl) (iconcat_own lps kps _ _ b68 Mn hlr hkr (wHg hlb) (wHg hkb) (by omega))) ?_; rintro _ Mc _ ⟨hMc, R2, rfl, ⟨R3, rfl, hown⟩⟩
    refine ⟨_, _, MLe.refl _, hMc, fun _ h => h, by simp, ?_⟩
    obtain ⟨ca, cc, hcv⟩ := hown.form
    subst hcv
    rw [List.singleton_append, List.cons_append]
    refine dp rfl rfl ?_
    refine jd_s rfl rfl (wBm rfl rfl rfl rfl rfl rfl rfl rfl) ?_; rintro _ _ _ ⟨rfl, rfl⟩
    refine ⟨_, _, MLe.refl _, (by first | exact MLe.refl _ | exact hMc), fun _ h => h, by simp, ?_⟩
    refine wBd (jPn (jT (wAe (jq_ownX (R := R3) hown (by simp +contextual) ?_))))
    intro Mf af cf hMf ef hcf hsf; cases ef
    refine wDa (rs := [_, _]) (Lb) (by first | exact List.sublist_append_left _ _ | exact List.Sublist.refl _ | exact .cons _ (List.sublist_append_left _ _) | exact .cons _ (List.Sublist.refl _) | exact .cons _ (.cons _ (List.sublist_append_left _ _)) | exact .cons _ (.cons _ (List.Sublist.refl _)) | exact .cons _ (.cons _ (.cons _ (List.sublist_append_left _ _))) | exact .cons _ (.cons _ (.cons _ (List.Sublist.refl _))) | exact .cons _ (.cons _ (.cons _ (.cons _ (List.sublist_append_left _ _)))) | exact .cons _ (.cons _ (.cons _ (.cons _ (List.Sublist.refl _)))) | exact .cons _ (.cons _ (.cons _ (.cons _ (.cons _ (List.sublist_append_left _ _))))) | exact .cons _ (.cons _ (.cons _ (.cons _ (.cons _ (List.Sublist.refl _))))) | exact .cons _ (.cons _ (.cons _ (.cons _ (.cons _ (.cons _ (List.sublist_append_left _ _)))))) | exact .cons _ (.cons _ (.cons _ (.cons _ (.cons _ (.cons _ (List.Sublist.refl _))))))) rfl (.cons (.tmp rfl) (.cons (.agg rfl rfl rfl) .nil)) ?_
    rw [if_neg (by omega), if_neg (by omega)] at hj
    refine ⟨ca, cc, ?_, ?_, rfl⟩
    · rw [hj]; simp only [List.length_append, hkl, hll]; rfl
    rw [hj]; refine ⟨ca, cc, lps ++ kps, rfl, ?_, hsf, by rw [List.map_append, hkp, hlp], fun p hp => ?_⟩
    · simp only [List.length_append, ← hkl, ← hll]; exact hcf
    rcases List.mem_append.1 hp with hp | hp
    · exact (hlb p hp).mono (hMc.trans hMf)
    exact (hkb p hp).mono (hMc.trans hMf)
  refine wAb (wAa (jp rfl (sFa rfl ?_)))
  refine sFL rfl rfl ?_
  refine wAi rfl rfl (wBj rfl rfl rfl) ?_
  refine js rfl (fun h23 => ?_) (fun h23 => ?_)
  · refine wAc ?_
    refine jT (wAg rfl (wAa (sFL rfl rfl ?_)))
    refine ja rfl (by omega) ?_
    refine jp rfl (wAc (wHb ((w.at_ : Int) - 1) (.cons (t := 0) rfl (.cons (t := 2) rfl (.cons (t := 4) rfl (.cons (t := 6) rfl (.cons (t := 7) rfl (.cons (t := 8) rfl (.cons (t := 9) rfl .nil))))))) ?_ (fun w h => h)))
    by_cases h0 : w.at_ = 0
    · exact .inl ⟨by unfold nxt; rw [if_pos (by omega), if_pos h0], by omega⟩
    exact .inr ⟨w.at_ - 1, by unfold nxt; rw [if_pos (by omega), if_neg h0], by omega, by omega⟩
  refine wAc (jT (wAk rfl (wAd (wHb ((w.at_ : Int) + 1) (.cons (t := 0) rfl (.cons (t := 2) rfl (.cons (t := 4) rfl (.cons (t := 6) rfl (.cons (t := 7) rfl (.cons (t := 8) rfl (.cons (t := 9) rfl .nil))))))) ?_ (fun w h => h)))))
  exact .inr ⟨w.at_ + 1, by unfold nxt; rw [if_neg (by omega)], by omega, by omega⟩
end Go.Proofs.YtkcpllhggofloaaGreat
