/- Walks: what is asked ahead of a put; rows of items copied and replaced; steps told backwards. No statement of the seat is proved here. -/
import Derived.Test.YtoincdcejjdgkaaGreatZBuild
import Derived.Test.YtoincdcejjdgkaaGreatZRoom
import Derived.Test.YtoincdcejjdgkaaGreatZRep
namespace Go.Proofs.YtoincdcejjdgkaaGreat
set_option linter.unusedSimpArgs false
set_option linter.unusedVariables false
open Go.RowKit
theorem RnPost.nd {s : Sto} {k : Int} {u : Value} {M' : Mem} {lev : Nat} {xs : List It} (h : RnPost s k u M') (h0 : askE s k = 0) (hnd : wCa s k.toNat = some ((lev : Int), xs)) : ∃ sl, u = .tuple #[.agg #[.int .i64 (lev : Int), sl], .int .i64 0] ∧ NS M' sl xs := by
 unfold RnPost at h; rw [if_pos h0] at h; unfold BnPost at h; rw [hnd] at h; exact h
theorem ndAt_nz {s : Sto} {k : Nat} {r : Int × List It} (h : wCa s k = some r) : ¬ s.now.getD k 0 = 0 := fun e => by unfold wCa at h; rw [if_pos e] at h; cases h
theorem rdNode_nd {blk : List By} {lv : Int} {xs : List It} (h : wFc blk = some (lv, xs)) : wHx lv xs = true := by
 unfold wFc at h
 split at h
 ·split at h
  ·split at h
   ·split at h
    ·rename_i hh
     cases h
     have := hh.1
     unfold wFa at this
     by_cases hn : wHx (((blk.drop 4).getD 1 0).toNat : Int) xs = true
     ·exact hn
     ·rw [if_neg hn] at this; cases this
    ·cases h
   ·cases h
  ·cases h
 ·cases h
theorem ndAt_nd {s : Sto} {k : Nat} {lv : Int} {xs : List It} (h : wCa s k = some (lv, xs)) : wHx lv xs = true := by
 unfold wCa at h
 split at h
 ·cases h
 ·exact rdNode_nd h
theorem ndAt_ne {s : Sto} {k : Nat} {lv : Int} {xs : List It} (h : wCa s k = some (lv, xs)) (hl : 0 < lv) : xs ≠ [] := fun e => by
 have := ndAt_nd h
 unfold wHx at this
 rw [Bool.and_eq_true, decide_eq_true_eq] at this
 exact this.1.2.2.2 hl (by rw [e]; rfl)
theorem wAt_lt {xs : List It} {q : Ky} (h : xs ≠ []) : wAt xs q < xs.length := by
 have := place_le xs q
 have h2 : 0 < xs.length := List.length_pos_iff.2 h
 unfold wAt
 split
 ·rename_i h3; exact isAt_lt h3
 ·omega
def wEi (p : Stp × Value) : List Value := [.int .i64 p.1.lv, p.2, .int .i64 p.1.at_]
theorem wGw (p : Stp × Value) : (wEi p).length = 3 := rfl
def SS (M : Mem) (v : Value) (ws : List Stp) : Prop := ∃ a c, ∃ ps : List (Stp × Value), v = .slice a ws.length c ∧ ws.length ≤ c ∧ SM M a (ps.flatMap wEi) ∧ ps.map (·.1) = ws ∧ ∀ p ∈ ps, NS M p.2 p.1.xs
theorem SS.mono {M M' : Mem} {v : Value} {ws : List Stp} (h : SS M v ws) (hM : MLe M M') : SS M' v ws := by
 obtain ⟨a, c, ps, h1, h2, h3, h4, h5⟩ := h; exact ⟨a, c, ps, h1, h2, h3.mono hM, h4, fun p hp => (h5 p hp).mono hM⟩
structure WyS where
 k : Int
 l : Nat
 xs : List It
 ps : List (Stp × Value)
 M : Mem
 R : Lc
 v : Value
structure WyI (s : Sto) (q : Ky) (lev : Nat) (xs0 : List It) (M0 : Mem) (x : WyS) : Prop where
 rng : 8 ≤ x.k ∧ x.k < 256
 nd : wCa s x.k.toNat = some ((x.l : Int), x.xs)
 tr : wCx s x.l x.xs
 mle : MLe M0 x.M
 own : Own x.v x.R 190 3 x.ps.length (x.ps.flatMap wEi)
 ns : ∀ p ∈ x.ps, NS x.M p.2 p.1.xs
 eq : wJa s q lev xs0 = x.ps.map (·.1) ++ wJa s q x.l x.xs
 len : x.ps.length + x.l = lev
set_option maxHeartbeats 2000000 in
theorem way_walk (s : Sto) (root : Int) (q : Ky) (bv wv nv lw : Value) (lev : Nat) (xs0 : List It) (M : Mem) (hST : ST M (.agg #[bv, wv, nv, lw]) s) (hr : 8 ≤ root ∧ root < 256) (hst : wCp s) (hnd0 : wCa s root.toNat = some ((lev : Int), xs0)) (ht0 : wCx s lev xs0) :
  SpecL Tryz.prog 108 #[.agg #[bv, wv, nv, lw], .int .i64 root, .agg (wBu q).toArray] M [] fun u M' L' => SS M' u (wJa s q lev xs0) ∧ L' = [] := by
 have hlv0 := (wCe hnd0).lev
 refine wAf (vs := [_, _, _]) 51 _ Tryz.func108 rfl Tryz.ntmps108 rfl rfl ?_; intro W
 refine wAb (wAa (wAw rfl rfl (wCb (cs := [bv, wv, nv, lw]) rfl rfl rfl rfl) ?_)); rintro _ _ _ ⟨b3, rfl, rfl, rfl⟩
 refine wAw rfl rfl (wCb (cs := [.int .u8 q.kind, .int .u32 q.id, .int .u32 q.off]) rfl rfl rfl rfl) ?_; rintro _ _ _ ⟨b5, rfl, rfl, rfl⟩
 refine jp rfl (wAc (jT (wAb (wAa (jp rfl (jp rfl (wAc (jT (wAh ?_)))))))))
 refine wAr (α := WyS) (fun x => [(3, .pointer (some ⟨b3, 0, none⟩)), (5, .pointer (some ⟨b5, 0, none⟩)), (6, x.v), (7, .int .i64 x.k)]) (fun x => x.M) (fun x => x.R ++ [(b5, .cells [.int .u8 q.kind, .int .u32 q.id, .int .u32 q.off].toArray 65 (0, 0)), (b3, .cells [bv, wv, nv, lw].toArray 28 (0, 0))]) (fun x => WyI s q lev xs0 M x) (fun x => x.l)
  ⟨root, lev, xs0, [], M, [], .slice none 0 0⟩ (.cons (t := 3) rfl (.cons (t := 5) rfl (.cons (t := 6) rfl (.cons (t := 7) rfl .nil)))) ⟨hr, hnd0, ht0, MLe.refl _, Own.nil _ _, fun _ h => (by cases h), rfl, by show 0 + lev = lev; omega⟩ (fun w h => h) ?_
 rintro ⟨k, l, xs, ps, Mk, Rk, v⟩ hI
 try dsimp only
 obtain ⟨h1r, h1n, h1t, h1m, hown, h1s, h1e, hps6⟩ := hI
 dsimp only at h1r h1n h1t h1m hown h1s h1e hps6
 obtain ⟨va0, vc0, hv0⟩ := hown.form
 subst hv0
 have hno := wCe h1n
 have hlen := (wCe h1n).len
 have hlv := (wCe h1n).lev
 refine wAh (wAb (wAa (sLL rfl ?_)))
 refine jp rfl (wAw rfl rfl (wAn rfl rfl rfl rfl rfl (by kernel_rfl) (rnode_spec s _ k Mk (hST.mono h1m))) ?_); rintro _ Mn _ ⟨hMn, _, rfl, ⟨hrn, rfl⟩⟩
 obtain ⟨sl, rfl, hns0⟩ := hrn.nd (ask_yes hst h1r (ndAt_nz h1n)) h1n
 obtain ⟨na, nc, nps, rfl, hnc, hns, hnp, hnb⟩ := id hns0
 simp only [nA]
 refine jp rfl (jp rfl (jp rfl (sAl rfl fun b8 => ?_)))
 refine sSt rfl ?_
 refine jp rfl (wAc (jT (wAb (wAa (sLL rfl ?_)))))
 refine sLL rfl ?_
 refine wAi rfl rfl (wBf rfl rfl rfl rfl rfl (by kernel_rfl) (place_walk _ xs q na nc nps Mn hnc hns hnp hnb (by omega))) ?_
 refine jp rfl (jp rfl (jsb rfl (fun h24 => ?_) (fun h24 => ?_)))
 ·refine jp rfl (jp rfl (wAc (jT (wAb (wAb (wAa (sFL rfl rfl ?_)))))))
  refine js rfl (fun h27 => ?_) (fun h27 => ?_)
  ·refine wAc (jT (wAg rfl (wAb (wAa (jp rfl (sLL rfl ?_))))))
   refine jp rfl (wAi rfl rfl (wAq (cs := [_, _, _]) rfl rfl rfl (by rfl)) ?_)
   refine wAw rfl rfl (wAm (cs := [_, _, _]) rfl rfl rfl (by rfl) (by rfl) (by rfl)) ?_; rintro _ _ _ ⟨b32, rfl, rfl, rfl⟩
   have hl6 : l < 6 := by omega
   refine wAw rfl rfl (wDd (R := Rk) (m := 1) (news := wEi (⟨((l : Nat) : Int), xs, wDm xs q⟩, .slice na xs.length nc)) rfl rfl rfl rfl hown rfl (fun i v hv => CJ.loc (by rw [← hv]; show _[0 + i]? = _; rw [Nat.zero_add]; rfl)) rfl (by rfl) (by simp [wEi, Value.oneCell']) (by omega) (by omega)) ?_; rintro s' _ _ ⟨rfl, Rq, rfl, hown', _⟩
   obtain ⟨a4, c4, rfl⟩ := hown'.form
   refine jp rfl (wAc (jT (wAe (jTr (jBr (jTr (jBr (wHg (R := Rq) hown' (by simp) ?_))))))))
   intro Mf af cf hMf ef hcf hsf; cases ef
   refine wAv (L' := []) (List.nil_sublist _) ?_
   refine jr1 rfl rfl ?_
   have hl0 : l = 0 := by omega
   subst hl0
   refine ⟨?_, rfl⟩
   rw [h1e]
   refine ⟨a4, c4, ps ++ [(⟨((0 : Nat) : Int), xs, wDm xs q⟩, .slice na xs.length nc)], ?_, ?_, ?_, ?_, ?_⟩
   ·rw [List.length_append, List.length_map]; rfl
   ·rw [List.length_append, List.length_map]; exact hcf
   ·rw [List.flatMap_append]; simpa using hsf
   ·rw [List.map_append]; rfl
   ·intro p hp; rcases List.mem_append.1 hp with hp | hp
    ·exact (h1s p hp).mono (hMn.trans hMf)
    ·rw [List.mem_singleton.1 hp]; exact hns0.mono hMf
  ·refine wAc (jT (wAj rfl (wAd (jT (wAb (wAb (wAa (jp rfl (jp rfl (wAc (jT (wAj rfl (wAd (jT (wAb ?_)))))))))))))))
   have hl0 : l ≠ 0 := by omega
   obtain ⟨l, rfl⟩ : ∃ l2, l = l2 + 1 := ⟨l - 1, by omega⟩
   have hne := ndAt_ne h1n (by show (0 : Int) < ((l + 1 : Nat) : Int); omega)
   have hw2 := wAt_lt (q := q) hne
   have hwe : wAt xs q = wDm xs q := if_pos h24
   rw [← hwe]
   refine wAa (jp rfl (sLL rfl ?_))
   refine jp rfl (wAi rfl rfl (wAq (cs := [_, _, _]) rfl rfl rfl (by rfl)) ?_)
   refine wAw rfl rfl (wAm (cs := [_, _, _]) rfl rfl rfl (by rfl) (by rfl) (by rfl)) ?_; rintro _ _ _ ⟨b43, rfl, rfl, rfl⟩
   have hl6 : l < 6 := by omega
   refine wAw rfl rfl (wDd (R := Rk) (m := 1) (news := wEi (⟨((l + 1 : Nat) : Int), xs, wAt xs q⟩, .slice na xs.length nc)) rfl rfl rfl rfl hown rfl (fun i v hv => CJ.loc (by rw [← hv]; show _[0 + i]? = _; rw [Nat.zero_add]; rfl)) rfl (by rfl) (by simp [wEi, Value.oneCell']) (by omega) (by omega)) ?_; rintro s' _ _ ⟨rfl, Rq, rfl, hown', _⟩
   obtain ⟨a4, c4, rfl⟩ := hown'.form
   refine jp rfl (wAc (jT (wAa (sFL rfl rfl ?_))))
   refine jp rfl ?_
   obtain ⟨sb, so, e0, hx⟩ := hns.open (by intro e; have := congrArg List.length e; rw [wAy wBc 5 wBe, List.length_nil] at this; have h2 := congrArg List.length hnp; rw [List.length_map] at h2; omega)
   cases e0
   obtain ⟨va, vc, hcl, hvc, hvs⟩ := wBr hx hnp hnb hw2
   refine wAi rfl rfl (wBa rfl rfl rfl rfl (by omega)) ?_
   refine sFa rfl ?_
   refine wAi rfl rfl (qLd rfl rfl rfl rfl ((hcl 3 _ rfl).cj _)) ?_
   refine jp rfl (wAc (jB ?_))
   obtain ⟨ys, hy1, hy2, hy3⟩ := wGv h1t (List.getElem_mem hw2)
   have hkid : kid s xs[wAt xs q] = ys := by unfold kid; rw [hy1]
   refine wAp ⟨xs[wAt xs q].ref, l, ys, ps ++ [(⟨((l + 1 : Nat) : Int), xs, wAt xs q⟩, .slice (some ⟨sb, so, none⟩) xs.length nc)], Mn, Rq, .slice a4 (ps.length + 1) c4⟩ (.cons (t := 3) rfl (.cons (t := 5) rfl (.cons (t := 6) rfl (.cons (t := 7) rfl .nil)))) ⟨by have := hno.ref _ (List.getElem_mem hw2); have := hno.up (by omega) _ (List.getElem_mem hw2); show 8 ≤ xs[wAt xs q].ref ∧ xs[wAt xs q].ref < 256; omega, hy1, hy3, h1m.trans hMn, ?_, ?_, ?_, ?_⟩ (by show l < l + 1; omega) (fun w h => h.dropAt.dropAt.perm (wHd fun f => by simp only [List.map_append, List.map_cons, List.map_nil, List.sum_append, List.sum_cons, List.sum_nil] <;> omega))
   ·show Own _ Rq _ 3 (ps ++ [_]).length ((ps ++ [_]).flatMap wEi)
    rw [List.length_append, List.flatMap_append]; simpa using hown'
   ·intro p hp; rcases List.mem_append.1 hp with hp | hp
    ·exact (h1s p hp).mono hMn
    ·rw [List.mem_singleton.1 hp]; exact hns0
   ·rw [h1e]; show ps.map _ ++ wJa s q (l + 1) xs = (ps ++ [_]).map _ ++ _
    rw [wJa, List.getElem?_eq_getElem hw2, List.map_append, List.append_assoc]; show _ ++ (_ :: wJa s q l (kid s xs[wAt xs q])) = _; rw [hkid]; rfl
   ·show (ps ++ [_]).length + l = lev; rw [List.length_append]; show ps.length + 1 + l = lev; omega
 ·refine jp rfl (jp rfl (wAc (jT (wAb (wAb (wAa (sFL rfl rfl ?_)))))))
  refine js rfl (fun h27 => ?_) (fun h27 => ?_)
  ·refine wAc (jT (wAg rfl (wAb (wAa (jp rfl (sLL rfl ?_))))))
   refine jp rfl (wAi rfl rfl (wAq (cs := [_, _, _]) rfl rfl rfl (by rfl)) ?_)
   refine wAw rfl rfl (wAm (cs := [_, _, _]) rfl rfl rfl (by rfl) (by rfl) (by rfl)) ?_; rintro _ _ _ ⟨b32, rfl, rfl, rfl⟩
   have hl6 : l < 6 := by omega
   refine wAw rfl rfl (wDd (R := Rk) (m := 1) (news := wEi (⟨((l : Nat) : Int), xs, wDm xs q⟩, .slice na xs.length nc)) rfl rfl rfl rfl hown rfl (fun i v hv => CJ.loc (by rw [← hv]; show _[0 + i]? = _; rw [Nat.zero_add]; rfl)) rfl (by rfl) (by simp [wEi, Value.oneCell']) (by omega) (by omega)) ?_; rintro s' _ _ ⟨rfl, Rq, rfl, hown', _⟩
   obtain ⟨a4, c4, rfl⟩ := hown'.form
   refine jp rfl (wAc (jT (wAe (jTr (jBr (jTr (jBr (wHg (R := Rq) hown' (by simp) ?_))))))))
   intro Mf af cf hMf ef hcf hsf; cases ef
   refine wAv (L' := []) (List.nil_sublist _) ?_
   refine jr1 rfl rfl ?_
   have hl0 : l = 0 := by omega
   subst hl0
   refine ⟨?_, rfl⟩
   rw [h1e]
   refine ⟨a4, c4, ps ++ [(⟨((0 : Nat) : Int), xs, wDm xs q⟩, .slice na xs.length nc)], ?_, ?_, ?_, ?_, ?_⟩
   ·rw [List.length_append, List.length_map]; rfl
   ·rw [List.length_append, List.length_map]; exact hcf
   ·rw [List.flatMap_append]; simpa using hsf
   ·rw [List.map_append]; rfl
   ·intro p hp; rcases List.mem_append.1 hp with hp | hp
    ·exact (h1s p hp).mono (hMn.trans hMf)
    ·rw [List.mem_singleton.1 hp]; exact hns0.mono hMf
  ·refine wAc (jT (wAj rfl (wAd (jT (wAb (wAb (wAa (jp rfl (jp rfl (wAc (jT (wAg rfl ?_))))))))))))
   have hl0 : l ≠ 0 := by omega
   obtain ⟨l, rfl⟩ : ∃ l2, l = l2 + 1 := ⟨l - 1, by omega⟩
   have hne := ndAt_ne h1n (by show (0 : Int) < ((l + 1 : Nat) : Int); omega)
   have hw2 := wAt_lt (q := q) hne
   have hwe : wAt xs q = wDm xs q - 1 := if_neg (by rw [h24]; decide)
   refine wAa (jp rfl (ja rfl (by omega) ?_))
   refine wAi rfl rfl (qEq (qMax rfl rfl rfl rfl) (v' := .int .i64 ((wAt xs q : Nat) : Int)) (congrArg _ (by rw [hwe]; omega))) ?_
   refine jp rfl (wAc (jT (wAb (wAa (jp rfl (sLL rfl ?_))))))
   refine jp rfl (wAi rfl rfl (wAq (cs := [_, _, _]) rfl rfl rfl (by rfl)) ?_)
   refine wAw rfl rfl (wAm (cs := [_, _, _]) rfl rfl rfl (by rfl) (by rfl) (by rfl)) ?_; rintro _ _ _ ⟨b43, rfl, rfl, rfl⟩
   have hl6 : l < 6 := by omega
   refine wAw rfl rfl (wDd (R := Rk) (m := 1) (news := wEi (⟨((l + 1 : Nat) : Int), xs, wAt xs q⟩, .slice na xs.length nc)) rfl rfl rfl rfl hown rfl (fun i v hv => CJ.loc (by rw [← hv]; show _[0 + i]? = _; rw [Nat.zero_add]; rfl)) rfl (by rfl) (by simp [wEi, Value.oneCell']) (by omega) (by omega)) ?_; rintro s' _ _ ⟨rfl, Rq, rfl, hown', _⟩
   obtain ⟨a4, c4, rfl⟩ := hown'.form
   refine jp rfl (wAc (jT (wAa (sFL rfl rfl ?_))))
   refine jp rfl ?_
   obtain ⟨sb, so, e0, hx⟩ := hns.open (by intro e; have := congrArg List.length e; rw [wAy wBc 5 wBe, List.length_nil] at this; have h2 := congrArg List.length hnp; rw [List.length_map] at h2; omega)
   cases e0
   obtain ⟨va, vc, hcl, hvc, hvs⟩ := wBr hx hnp hnb hw2
   refine wAi rfl rfl (wBa rfl rfl rfl rfl (by omega)) ?_
   refine sFa rfl ?_
   refine wAi rfl rfl (qLd rfl rfl rfl rfl ((hcl 3 _ rfl).cj _)) ?_
   refine jp rfl (wAc (jB ?_))
   obtain ⟨ys, hy1, hy2, hy3⟩ := wGv h1t (List.getElem_mem hw2)
   have hkid : kid s xs[wAt xs q] = ys := by unfold kid; rw [hy1]
   refine wAp ⟨xs[wAt xs q].ref, l, ys, ps ++ [(⟨((l + 1 : Nat) : Int), xs, wAt xs q⟩, .slice (some ⟨sb, so, none⟩) xs.length nc)], Mn, Rq, .slice a4 (ps.length + 1) c4⟩ (.cons (t := 3) rfl (.cons (t := 5) rfl (.cons (t := 6) rfl (.cons (t := 7) rfl .nil)))) ⟨by have := hno.ref _ (List.getElem_mem hw2); have := hno.up (by omega) _ (List.getElem_mem hw2); show 8 ≤ xs[wAt xs q].ref ∧ xs[wAt xs q].ref < 256; omega, hy1, hy3, h1m.trans hMn, ?_, ?_, ?_, ?_⟩ (by show l < l + 1; omega) (fun w h => h.dropAt.dropAt.perm (wHd fun f => by simp only [List.map_append, List.map_cons, List.map_nil, List.sum_append, List.sum_cons, List.sum_nil] <;> omega))
   ·show Own _ Rq _ 3 (ps ++ [_]).length ((ps ++ [_]).flatMap wEi)
    rw [List.length_append, List.flatMap_append]; simpa using hown'
   ·intro p hp; rcases List.mem_append.1 hp with hp | hp
    ·exact (h1s p hp).mono hMn
    ·rw [List.mem_singleton.1 hp]; exact hns0
   ·rw [h1e]; show ps.map _ ++ wJa s q (l + 1) xs = (ps ++ [_]).map _ ++ _
    rw [wJa, List.getElem?_eq_getElem hw2, List.map_append, List.append_assoc]; show _ ++ (_ :: wJa s q l (kid s xs[wAt xs q])) = _; rw [hkid]; rfl
   ·show (ps ++ [_]).length + l = lev; rw [List.length_append]; show ps.length + 1 + l = lev; omega
theorem bws (a : Option Addr) (n c : Nat) (M : Mem) :
  SpecL Tryz.prog 110 #[.slice a n c] M [] fun u M' L' => ∃ b, u = .func (.func 146) #[] #[.pointer (some ⟨b, 0, none⟩)] ∧ M' b = some (.cells #[.slice a n c] 183 (0, 0)) ∧ L' = [] := by
 refine wAf (vs := [_]) 4 _ Tryz.func110 rfl Tryz.ntmps110 rfl rfl ?_; intro W
 refine wAb (wAa (wAw rfl rfl (wCb (cs := [.slice a n c]) rfl rfl rfl rfl) ?_)); rintro _ _ _ ⟨b1, rfl, rfl, rfl⟩
 refine jp rfl (wAc (jT (wAb (wAa (jp rfl (jp rfl (wAc (jT (wAe (wBv b1 (by simp) ?_))))))))))
 intro M1 hM1 e1
 refine jr1 rfl rfl ?_
 exact ⟨b1, rfl, e1, rfl⟩
theorem bws_body (b : Nat) (a : Option Addr) (c : Nat) (xs : List (Stp × Value)) (M : Mem) (hb : M b = some (.cells #[.slice a xs.length c] 183 (0, 0))) (hs : SM M a (xs.flatMap wEi)) (hn : xs.length ≤ 1000000) (l : Nat) (J Jx : List ((Stp × Value) × Nat) → Mem → Lc → Prop) (M1 : Mem) (L0 : Lc) (hM : MLe M M1) (hJ : ∀ pre y M2 L2, MLe M1 M2 → J pre M2 L2 → pre ++ [y] <+: bw xs 0 → RoundL Tryz.prog l ((fun p : (Stp × Value) × Nat => [.int .i64 p.2, .agg (wEi p.1).toArray]) y).toArray M2 L2 fun v M' L' => (v = .bool true ∧ J (pre ++ [y]) M' L') ∨ (v = .bool false ∧ Jx (pre ++ [y]) M' L')) (h0 : J [] M1 L0) :
  SpecL Tryz.prog 146 #[.func (.yield l) #[] #[], .pointer (some ⟨b, 0, none⟩)] M1 L0 fun _ M' L' => J (bw xs 0) M' L' ∨ ∃ pre, pre <+: bw xs 0 ∧ Jx pre M' L' := by
 have hbc : ∀ {M2 : Mem} (L : Lc), MLe M1 M2 → CJ M2 L b 0 (.slice a xs.length c) := fun L h => (CM.cj ⟨_, _, _, h _ _ (hM _ _ hb), rfl⟩ L)
 refine wAf (vs := [_, _]) 19 _ Tryz.func146 rfl Tryz.ntmps146 rfl rfl ?_; intro W
 refine wAb (wAa (wAi rfl rfl (qLd rfl rfl rfl rfl (hbc _ (MLe.refl _))) ?_))
 refine wAi rfl rfl (wBq rfl rfl rfl) ?_
 refine ja rfl (by omega) ?_
 refine jp rfl (wAc (jT (wAh ?_)))
 refine wAr (α := Int × Mem × Lc) (fun x => [(0, .func (.yield l) #[] #[]), (1, .pointer (some ⟨b, 0, none⟩)), (3, .int .i64 x.1)]) (fun x => x.2.1) (fun x => x.2.2) (fun x => -1 ≤ x.1 ∧ x.1 < xs.length ∧ MLe M1 x.2.1 ∧ J (bw xs (x.1 + 1).toNat) x.2.1 x.2.2) (fun x => (x.1 + 1).toNat)
  ((xs.length : Int) - 1, M1, L0) (.cons (t := 0) rfl (.cons (t := 1) rfl (.cons (t := 3) rfl .nil))) ⟨by show -1 ≤ (xs.length : Int) - 1; omega, by show (xs.length : Int) - 1 < xs.length; omega, MLe.refl _, by show J (bw xs ((xs.length : Int) - 1 + 1).toNat) _ _; rw [show ((xs.length : Int) - 1 + 1).toNat = xs.length by omega, bw_len]; exact h0⟩ (fun _ h => h) ?_
 rintro ⟨i, Mk, Lk⟩ ⟨hk0, hk, hMk, hJk⟩
 try dsimp only at hk0 hk hMk hJk ⊢
 refine wAb (wAb (wAa (jp rfl (js rfl (fun hge => ?_) (fun hge => ?_)))))
 ·refine wAc (jT (wAg rfl (wAd (jT (wAb (wAh (wAb (wAa (jp rfl (jp rfl ?_))))))))))
  obtain ⟨k, rfl⟩ : ∃ k : Nat, i = k := ⟨i.toNat, by omega⟩
  have hk1 : k < xs.length := by omega
  obtain ⟨sb, so, e0, hx⟩ := hs.open (by intro e; have := congrArg List.length e; rw [wAy wEi 3 wGw, List.length_nil] at this; omega)
  subst e0
  refine wAi rfl rfl (qLd rfl rfl rfl rfl (hbc _ hMk)) ?_
  refine jp rfl (wAi rfl rfl (wBa rfl rfl rfl rfl (by omega)) ?_)
  refine wAi rfl rfl (wEy (cs := wEi xs[k]) rfl rfl rfl rfl rfl (fun i v hv => ((wFf wEi 3 wGw hx (show xs[k]? = some xs[k] by simp [hk1]) i v hv).mono (hM.trans hMk)).cj _)) ?_
  refine wAw rfl rfl (hYield rfl rfl rfl rfl (hJ (bw xs (k + 1)) (xs[k], k) Mk Lk hMk (by rwa [show ((k : Int) + 1).toNat = k + 1 by omega] at hJk) (by rw [← wJv xs hk1]; exact wFq xs k))) ?_; rintro _ M' _ ⟨hM', R', rfl, hy⟩
  rw [← wJv xs hk1] at hy
  rcases hy with ⟨rfl, hy⟩ | ⟨rfl, hy⟩
  ·refine jp rfl (wAc (jT (wAj rfl (wAd (jB (jT (wAa (jp rfl (ja rfl (by omega) ?_)))))))))
   refine jp rfl (wAc ?_)
   refine wAp ((k : Int) - 1, M', R') (.cons (t := 0) rfl (.cons (t := 1) rfl (.cons (t := 3) rfl .nil))) ⟨by show -1 ≤ (k : Int) - 1; omega, by show (k : Int) - 1 < xs.length; omega, hMk.trans hM', by show J (bw xs ((k : Int) - 1 + 1).toNat) _ _; rw [show ((k : Int) - 1 + 1).toNat = k by omega]; exact hy⟩ (by show ((k : Int) - 1 + 1).toNat < ((k : Int) + 1).toNat; omega) (fun _ h => h.fewer (by simp))
  ·refine jp rfl (wAc (jT (wAg rfl (wAe (jBr (jTr (jTr (jBr (wAv (L' := R') (by simp) ?_)))))))))
   refine jrs (rs := []) rfl .nil ?_
   exact .inr ⟨_, wFq xs k, hy⟩
 ·refine wAc (jT (wAj rfl (wAs (jTx (jTx (jBx (jrn ?_)))))))
  refine jrs (rs := []) rfl .nil ?_
  obtain rfl : i = -1 := by omega
  exact .inl hJk
theorem bws_iter (b : Nat) (a : Option Addr) (c : Nat) (xs : List (Stp × Value)) (M : Mem) (hb : M b = some (.cells #[.slice a xs.length c] 183 (0, 0))) (hs : SM M a (xs.flatMap wEi)) (hn : xs.length ≤ 1000000) : Iter Tryz.prog 146 [.pointer (some ⟨b, 0, none⟩)] M (fun p : (Stp × Value) × Nat => [.int .i64 p.2, .agg (wEi p.1).toArray]) (bw xs 0) :=
 fun l J Jx M1 L0 hM hJ h0 => bws_body b a c xs M hb hs hn l J Jx M1 L0 hM hJ h0
theorem iclone_nil (c : Nat) (M : Mem) :
  SpecL Tryz.prog 112 #[.slice none 0 c] M [] fun v _ L' => Own v L' IT 5 0 [] := by
 refine wAf (vs := [_]) 8 _ Tryz.func112 rfl Tryz.ntmps112 rfl rfl ?_; intro W
 refine wAb (wAa (jp rfl (wAc (jT (wAb (wAb (wAa (jp rfl (wAi rfl rfl (qEq (qNil rfl rfl rfl rfl) (v' := .bool true) (by simp)) ?_)))))))))
 refine wAc (jT (wAg rfl (wAb (wAa (jp rfl (wAc (jT (wAe (jTr (jr1 rfl rfl ?_))))))))))
 exact Own.nil _ _
theorem own_none (b : Nat) : Own (.slice (some ⟨b, 0, none⟩) 0 0) [(b, .cells ([] : List Value).toArray IT (0, 0))] IT 5 0 [] := ⟨rfl, .inr ⟨b, 0, _, rfl, rfl, Nat.le_refl _, Nat.zero_le _, rfl, rfl⟩⟩
theorem iclone_some (b : Addr) (n c : Nat) (vals : List Value) (M : Mem) (hs : SM M (some b) vals) (hl : vals.length = n * 5) (h1 : ∀ v ∈ vals, v.oneCell' = true) (hn : n ≤ 1000000) :
  SpecL Tryz.prog 112 #[.slice (some b) n c] M [] fun v _ L' => Own v L' IT 5 n vals := by
 refine wAf (vs := [_]) 8 _ Tryz.func112 rfl Tryz.ntmps112 rfl rfl ?_; intro W
 refine wAb (wAa (jp rfl (wAc (jT (wAb (wAb (wAa (jp rfl (wAi rfl rfl (qEq (qNil rfl rfl rfl rfl) (v' := .bool false) (by simp)) ?_)))))))))
 refine wAc (jT (wAj rfl (wAd (jT (wAb (wAa (wAw rfl rfl (wAm (z := zeroIt) (cs := []) rfl rfl rfl (by rfl) (by rfl) (by rfl)) ?_))))))); rintro _ _ _ ⟨b5, rfl, rfl, rfl⟩
 refine jp rfl (wAw rfl rfl (wFv (n := 0) (xs := []) (news := vals) rfl rfl rfl rfl (own_none b5) hl hs rfl h1 (by omega) (by decide)) ?_); rintro v7 _ _ ⟨rfl, R7, rfl, hown⟩
 refine jp rfl (wAc (jT (wAe (jr1 rfl rfl ?_))))
 simpa using hown
theorem iclone_spec (a : Option Addr) (c : Nat) (ps : List Ir) (M : Mem) (hs : SM M a (ps.flatMap wBc)) (h1 : ∀ x ∈ ps, x.2.oneCell' = true) (hn : ps.length ≤ 1000000) : SpecL Tryz.prog 112 #[.slice a ps.length c] M [] fun v _ L' => Own v L' IT 5 ps.length (ps.flatMap wBc) := by
 cases a with
 | none =>
  have h0 : ps.flatMap wBc = [] := hs.elim id (fun ⟨_, _, h, _⟩ => by cases h)
  have : ps = [] := by
   cases ps with
   | nil => rfl
   | cons p ps => simp [wBc] at h0
  subst this
  exact iclone_nil c M
 | some b => exact iclone_some b ps.length c (ps.flatMap wBc) M hs (fl ps) (wDq h1) hn
theorem ns_one {M : Mem} {ps : List Ir} (h : ∀ p ∈ ps, BS M p.2 p.1.val) : ∀ x ∈ ps, x.2.oneCell' = true := fun x hx => by
 obtain ⟨_, _, e, _⟩ := h x hx; rw [e]; rfl
theorem rep_none (ps vs : List Ir) (i : Nat) (hi : i ≤ ps.length) (sa : Option Addr) (sc : Nat) (R : Lc) (hown : Own (.slice sa ps.length sc) R IT 5 ps.length (ps.flatMap wBc)) (hpo : ∀ x ∈ ps, x.2.oneCell' = true) (hpc : ps.length ≤ sc) (vb vc : Nat) (vl : List Value) (ve : TypeId) (M : Mem) (hvb : M vb = some (.cells (vs.flatMap wBc ++ vl).toArray ve (0, 0))) (hvo : ∀ x ∈ vs, x.2.oneCell' = true) (hm : 0 < vs.length) (hbig : ps.length + vs.length ≤ 100000) :
  SpecL Tryz.prog 111 #[.slice sa ps.length sc, .int .i64 i, .int .i64 i, .slice (some ⟨vb, 0, none⟩) vs.length vc] M R fun u _ L' => Own u L' IT 5 (ps.length + vs.length) ((ps.take i ++ vs ++ ps.drop i).flatMap wBc) := by
 refine wAf (vs := [_, _, _, _]) 224 _ Tryz.func111 rfl Tryz.ntmps111 rfl rfl ?_; intro W
 refine wAb (wAa (jp rfl (wAc (jT (wAb (wAa (jp rfl (jp rfl (jp rfl (wAi rfl rfl (qSl rfl rfl rfl (.no _) (.of (v := i) rfl (by omega) rfl) (.of (v := i) rfl (by omega) rfl) (by omega) (by simp)) ?_))))))))))
 refine wAc (jT (wAb (wAb (wAa (jp rfl (jp rfl (jt rfl (decide_eq_true (by omega)) ?_)))))))
 refine wAc (jT (wAg rfl (wAb (wAa (jp rfl (jp rfl (jp rfl (wAw rfl rfl (wAn rfl rfl rfl rfl rfl (by kernel_rfl) (ins_spec ps vs i hi sa sc R hown hpo hpc vb vc vl ve M hvb hvo hm hbig)) ?_)))))))); rintro _ M2 _ ⟨_, R2, rfl, hown2⟩
 refine jp rfl (wAc (jT (wAe (jTr (wAv (L' := R2) (by simp) ?_)))))
 refine jr1 rfl rfl ?_
 exact hown2
theorem tall1_spec (w : Stp) (a : Option Addr) (c : Nat) (M : Mem) :
  SpecL Tryz.prog 145 #[.agg #[.int .i64 w.lv, .slice a w.xs.length c, .int .i64 w.at_]] M [] fun v _ _ => v = .bool (decide (w.xs.length < 5)) := by
 refine wAf (vs := [_]) 8 _ Tryz.func145 rfl Tryz.ntmps145 rfl rfl ?_; intro W
 refine wAb (wAa (wAw rfl rfl (wCb (cs := [.int .i64 w.lv, .slice a w.xs.length c, .int .i64 w.at_]) rfl rfl rfl rfl) ?_)); rintro _ _ _ ⟨b1, rfl, rfl, rfl⟩
 refine jp rfl (wAc (jT (wAb (wAa (sFa rfl ?_)))))
 refine sFL rfl rfl ?_
 refine wAi rfl rfl (wBq rfl rfl rfl) ?_
 refine jp rfl (jp rfl (wAc (jT (wAe (jr1 rfl rfl ?_)))))
 exact congrArg _ (decide_eq_decide.2 (by omega))
theorem steps_get {M : Mem} {sb so : Nat} {ws : List Stp} {ps : List (Stp × Value)} (hx : ∀ i u, (ps.flatMap wEi)[i]? = some u → CM M sb (so + i) u) (hp : ps.map (·.1) = ws) (hb : ∀ p ∈ ps, NS M p.2 p.1.xs) {k : Nat} (hk : k < ws.length) :
  ∃ a c, (∀ i v, ([.int .i64 ws[k].lv, .slice a ws[k].xs.length c, .int .i64 ws[k].at_] : List Value)[i]? = some v → CM M sb (so + k * 3 + i) v) ∧ NS M (.slice a ws[k].xs.length c) ws[k].xs := by
 have hk2 : k < ps.length := by rw [← hp, List.length_map] at hk; exact hk
 have hxk : ws[k] = ps[k].1 := by simp [← hp]
 have hn := hb ps[k] (List.getElem_mem hk2)
 obtain ⟨a, c, qs, e, h1, h2, h3, h4⟩ := id hn
 rw [← hxk] at e hn
 refine ⟨a, c, fun i v hv => wFf wEi 3 wGw hx (show ps[k]? = some ps[k] by simp [hk2]) i v ?_, by rw [e] at hn; exact hn⟩
 rw [← hv]
 unfold wEi
 rw [← hxk, e]
theorem any_take {ws : List Stp} {k : Nat} (h : k < ws.length) : (ws.take (k + 1)).any (fun w => decide (w.xs.length < 5)) = ((ws.take k).any (fun w => decide (w.xs.length < 5)) || decide (ws[k].xs.length < 5)) := by
 rw [List.take_succ_eq_append_getElem h, List.any_append]; simp
theorem sidx_spec (ws : List Stp) (a : Option Addr) (c : Nat) (ps : List (Stp × Value)) (M : Mem) (hc : ws.length ≤ c) (hs : SM M a (ps.flatMap wEi)) (hp : ps.map (·.1) = ws) (hb : ∀ p ∈ ps, NS M p.2 p.1.xs) (hn : ws.length ≤ 1000) :
  SpecL Tryz.prog 166 #[.slice a ws.length c, .func (.func 145) #[] #[]] M [] fun v _ _ => ∃ i : Int, v = .int .i64 i ∧ (0 ≤ i ↔ ws.any (fun w => decide (w.xs.length < 5)) = true) := by
 refine wAf (vs := [_, _]) 19 _ Tryz.func166 rfl Tryz.ntmps166 rfl rfl ?_; intro W
 refine wAb (wAa (jp rfl (wAc (jT (wAb (wAb (wAa (jp rfl (wAi rfl rfl (wBq rfl rfl rfl) ?_)))))))))
 refine jp rfl (wAc (jT (wAh ?_)))
 refine wAr (α := Nat) (fun k => [(0, .slice a ws.length c), (1, .func (.func 145) #[] #[]), (7, .int .i64 ws.length), (8, .int .i64 k)]) (fun _ => M) (fun _ => []) (fun k => k ≤ ws.length ∧ (ws.take k).any (fun w => decide (w.xs.length < 5)) = false) (fun k => ws.length - k)
  0 (.cons (t := 0) rfl (.cons (t := 1) rfl (.cons (t := 7) rfl (.cons (t := 8) rfl .nil)))) ⟨Nat.zero_le _, rfl⟩ (fun _ h => h) ?_
 rintro k ⟨hk, hI⟩
 try dsimp only at hk hI ⊢
 refine wAb (wAa (js rfl (fun h9 => ?_) (fun h9 => ?_)))
 ·refine wAc (jT (wAb (wAg rfl (wAd (jT (wAb (wAh (wAb (wAa (jp rfl (jp rfl (wAc (jT (wAb (wAa (jp rfl (jp rfl (jp rfl ?_))))))))))))))))))
  have hk1 : k < ws.length := by omega
  obtain ⟨sb, so, e0, hx⟩ := hs.open (by intro e; have := congrArg List.length e; rw [wAy wEi 3 wGw, List.length_nil] at this; have h2 := congrArg List.length hp; rw [List.length_map] at h2; omega)
  cases e0
  obtain ⟨va, vc, hcl, hvn⟩ := steps_get hx hp hb hk1
  refine wAi rfl rfl (wBa rfl rfl rfl rfl (by omega)) ?_
  refine wAi rfl rfl (wEy (cs := [.int .i64 ws[k].lv, .slice va ws[k].xs.length vc, .int .i64 ws[k].at_]) rfl rfl rfl rfl rfl (fun i v hv => (hcl i v hv).cj _)) ?_
  refine wDp rfl rfl (wBf rfl rfl rfl rfl rfl (by kernel_rfl) (tall1_spec ws[k] va vc M)) (fun h16 => ?_) (fun h16 => ?_)
  ·refine wAc (jT (wAg rfl (wAb (wAa (jp rfl (jp rfl (wAc (jT (wAe (jBr (jTr (jTr (jBr (jTr (jr1 rfl rfl ?_)))))))))))))))
   refine ⟨(k : Int), rfl, fun _ => ?_, fun _ => by omega⟩
   rw [List.any_eq_true]
   exact ⟨ws[k], List.getElem_mem hk1, h16⟩
  ·refine wAc (jT (wAj rfl (wAd (jB (jT (wAa (ja rfl (by omega) ?_)))))))
   refine jp rfl (wAc ?_)
   refine wAp (k + 1) (.cons (t := 0) rfl (.cons (t := 1) rfl (.cons (t := 7) rfl (.cons (t := 8) rfl .nil)))) ⟨by omega, by rw [any_take hk1, hI, h16]; rfl⟩ (by omega) (fun _ h => h)
 ·refine wAc (jT (wAb (wAj rfl (wAs (jTx (jTx (jBx (jT (wAb (wAa (jp rfl (wAc (jT (wAe (jr1 rfl rfl ?_)))))))))))))))
  have hke : k = ws.length := by omega
  subst hke
  rw [List.take_length] at hI
  exact ⟨-1, rfl, by rw [hI]; simp⟩
theorem shas_spec (ws : List Stp) (a : Option Addr) (c : Nat) (ps : List (Stp × Value)) (M : Mem) (hc : ws.length ≤ c) (hs : SM M a (ps.flatMap wEi)) (hp : ps.map (·.1) = ws) (hb : ∀ p ∈ ps, NS M p.2 p.1.xs) (hn : ws.length ≤ 1000) :
  SpecL Tryz.prog 144 #[.slice a ws.length c, .func (.func 145) #[] #[]] M [] fun v _ _ => v = .bool (ws.any (fun w => decide (w.xs.length < 5))) := by
 refine wAf (vs := [_, _]) 9 _ Tryz.func144 rfl Tryz.ntmps144 rfl rfl ?_; intro W
 refine wAb (wAa (jp rfl (wAc (jT (wAb (wAa (jp rfl (jp rfl (wAw rfl rfl (wAn rfl rfl rfl rfl rfl (by kernel_rfl) (sidx_spec ws a c ps M hc hs hp hb hn)) ?_))))))))); rintro _ M1 _ ⟨hM1, _, rfl, ⟨i, rfl, hi⟩⟩
 refine jp rfl (jp rfl (wAc (jT (wAe (jr1 rfl rfl ?_)))))
 refine congrArg _ ?_
 cases hb2 : ws.any (fun w => decide (w.xs.length < 5))
 ·rw [hb2] at hi; exact decide_eq_false (fun h => by have := hi.1 h; cases this)
 ·rw [hb2] at hi; exact decide_eq_true (hi.2 rfl)
theorem tall_spec (ws : List Stp) (a : Option Addr) (c : Nat) (ps : List (Stp × Value)) (M : Mem) (hc : ws.length ≤ c) (hs : SM M a (ps.flatMap wEi)) (hp : ps.map (·.1) = ws) (hb : ∀ p ∈ ps, NS M p.2 p.1.xs) (hn : ws.length ≤ 1000) (q : Ky) (h0 : 0 < ws.length) (hxl : ∀ w ∈ ws, w.xs.length ≤ 100) :
  SpecL Tryz.prog 109 #[.slice a ws.length c, .agg (wBu q).toArray] M [] fun v _ _ => v = .bool (wKn ws q) := by
 refine wAf (vs := [_, _]) 33 _ Tryz.func109 rfl Tryz.ntmps109 rfl rfl ?_; intro W
 refine wAb (wAa (wAw rfl rfl (wCb (cs := [.int .u8 q.kind, .int .u32 q.id, .int .u32 q.off]) rfl rfl rfl rfl) ?_)); rintro _ _ _ ⟨b3, rfl, rfl, rfl⟩
 refine jp rfl (wAc (jT (wAb (wAa (jp rfl (wDp rfl rfl (wBf rfl rfl rfl rfl rfl (by kernel_rfl) (shas_spec ws a c ps M hc hs hp hb hn)) (fun h9 => ?_) (fun h9 => ?_)))))))
 ·refine jp rfl (wAc (jT (wAb (wBn [(0, true), (1, true), (2, true), (3, true), (4, true), (5, true), (6, true), (7, true), (8, true), (9, true), (10, true), (11, true), (12, true), (13, true)] _ (by kernel_rfl) (by kernel_rfl) (by kernel_rfl) rfl (fun _ h => h) ?_))))
  iterate 2 refine dp rfl rfl ?_
  refine wBi rfl rfl rfl (wBq rfl rfl rfl) ?_
  refine wBi rfl rfl rfl (qEq (qA rfl rfl rfl rfl rfl (by omega)) (v' := .int .i64 ((ws.length - 1 : Nat) : Int)) (congrArg _ (by omega))) ?_
  have hk1 : ws.length - 1 < ws.length := by omega
  obtain ⟨sb, so, e0, hx⟩ := hs.open (by intro e; have := congrArg List.length e; rw [wAy wEi 3 wGw, List.length_nil] at this; have h2 := congrArg List.length hp; rw [List.length_map] at h2; omega)
  cases e0
  obtain ⟨va, vc, hcl, hvn⟩ := steps_get hx hp hb hk1
  obtain ⟨va2, vc2, vps, ev, hvc, hvs, hvp, hvb⟩ := id hvn
  cases ev
  refine wBi rfl rfl rfl (wBa rfl rfl rfl rfl (by omega)) ?_
  refine dFa rfl rfl ?_
  refine wBi rfl rfl rfl (wEy (cs := [.int .i64 ws[ws.length - 1].lv, .slice va ws[ws.length - 1].xs.length vc]) rfl rfl rfl rfl rfl (fun i v hv => (hcl i v (by match i, hv with | 0, hv => exact hv | 1, hv => exact hv | n + 2, hv => simp at hv)).cj _)) ?_
  refine dLL rfl rfl ?_
  refine wBi rfl rfl rfl (wBf rfl rfl rfl rfl rfl (by kernel_rfl) (place_walk _ ws[ws.length - 1].xs q va vc vps M hvc hvs hvp hvb (by have := hxl _ (List.getElem_mem hk1); omega))) ?_
  iterate 2 refine dp rfl rfl ?_
  refine jd_qb rfl rfl rfl (qP rfl rfl) (fun h21 => ?_) (fun h21 => ?_)
  ·iterate 2 refine dp rfl rfl ?_
   refine wBg (jPn (jT (wAb (wAa (jp rfl (wAi rfl rfl (wBq rfl rfl rfl) ?_))))))
   refine js rfl (fun h24 => ?_) (fun h24 => ?_)
   ·iterate 9 refine jp rfl ?_
    refine wAc (jT (wAe (jr1 rfl rfl ?_)))
    refine congrArg _ ?_
    unfold wKn
    rw [List.getLast?_eq_getElem?, List.getElem?_eq_getElem hk1]
    simp only [h9, h21]
    have hl6 : (ws.length == 6) = decide (ws.length = 6) := by by_cases h : ws.length = 6 <;> simp [h]
    first | (rw [hl6, decide_eq_true (show ws.length = 6 by omega)]; rfl) | (rw [hl6, decide_eq_false (show ¬ ws.length = 6 by omega)]; rfl)
   ·iterate 9 refine jp rfl ?_
    refine wAc (jT (wAe (jr1 rfl rfl ?_)))
    refine congrArg _ ?_
    unfold wKn
    rw [List.getLast?_eq_getElem?, List.getElem?_eq_getElem hk1]
    simp only [h9, h21]
    have hl6 : (ws.length == 6) = decide (ws.length = 6) := by by_cases h : ws.length = 6 <;> simp [h]
    first | (rw [hl6, decide_eq_true (show ws.length = 6 by omega)]; rfl) | (rw [hl6, decide_eq_false (show ¬ ws.length = 6 by omega)]; rfl)
  ·iterate 2 refine dp rfl rfl ?_
   refine wBg (jPn (jT (wAb (wAa (jp rfl (wAi rfl rfl (wBq rfl rfl rfl) ?_))))))
   refine js rfl (fun h24 => ?_) (fun h24 => ?_)
   ·iterate 9 refine jp rfl ?_
    refine wAc (jT (wAe (jr1 rfl rfl ?_)))
    refine congrArg _ ?_
    unfold wKn
    rw [List.getLast?_eq_getElem?, List.getElem?_eq_getElem hk1]
    simp only [h9, h21]
    have hl6 : (ws.length == 6) = decide (ws.length = 6) := by by_cases h : ws.length = 6 <;> simp [h]
    first | (rw [hl6, decide_eq_true (show ws.length = 6 by omega)]; rfl) | (rw [hl6, decide_eq_false (show ¬ ws.length = 6 by omega)]; rfl)
   ·iterate 9 refine jp rfl ?_
    refine wAc (jT (wAe (jr1 rfl rfl ?_)))
    refine congrArg _ ?_
    unfold wKn
    rw [List.getLast?_eq_getElem?, List.getElem?_eq_getElem hk1]
    simp only [h9, h21]
    have hl6 : (ws.length == 6) = decide (ws.length = 6) := by by_cases h : ws.length = 6 <;> simp [h]
    first | (rw [hl6, decide_eq_true (show ws.length = 6 by omega)]; rfl) | (rw [hl6, decide_eq_false (show ¬ ws.length = 6 by omega)]; rfl)
 ·refine jp rfl (wAc (jT (wAb (wBn [(0, true), (1, true), (2, true), (3, true), (4, true), (5, true), (6, true), (7, true), (8, true), (9, true), (10, true), (11, true), (12, true), (13, true)] _ (by kernel_rfl) (by kernel_rfl) (by kernel_rfl) rfl (fun _ h => h) ?_))))
  iterate 2 refine dp rfl rfl ?_
  refine wBi rfl rfl rfl (wBq rfl rfl rfl) ?_
  refine wBi rfl rfl rfl (qEq (qA rfl rfl rfl rfl rfl (by omega)) (v' := .int .i64 ((ws.length - 1 : Nat) : Int)) (congrArg _ (by omega))) ?_
  have hk1 : ws.length - 1 < ws.length := by omega
  obtain ⟨sb, so, e0, hx⟩ := hs.open (by intro e; have := congrArg List.length e; rw [wAy wEi 3 wGw, List.length_nil] at this; have h2 := congrArg List.length hp; rw [List.length_map] at h2; omega)
  cases e0
  obtain ⟨va, vc, hcl, hvn⟩ := steps_get hx hp hb hk1
  obtain ⟨va2, vc2, vps, ev, hvc, hvs, hvp, hvb⟩ := id hvn
  cases ev
  refine wBi rfl rfl rfl (wBa rfl rfl rfl rfl (by omega)) ?_
  refine dFa rfl rfl ?_
  refine wBi rfl rfl rfl (wEy (cs := [.int .i64 ws[ws.length - 1].lv, .slice va ws[ws.length - 1].xs.length vc]) rfl rfl rfl rfl rfl (fun i v hv => (hcl i v (by match i, hv with | 0, hv => exact hv | 1, hv => exact hv | n + 2, hv => simp at hv)).cj _)) ?_
  refine dLL rfl rfl ?_
  refine wBi rfl rfl rfl (wBf rfl rfl rfl rfl rfl (by kernel_rfl) (place_walk _ ws[ws.length - 1].xs q va vc vps M hvc hvs hvp hvb (by have := hxl _ (List.getElem_mem hk1); omega))) ?_
  iterate 2 refine dp rfl rfl ?_
  refine jd_qb rfl rfl rfl (qP rfl rfl) (fun h21 => ?_) (fun h21 => ?_)
  ·iterate 2 refine dp rfl rfl ?_
   refine wBg (jPn (jT (wAb (wAa (jp rfl (wAi rfl rfl (wBq rfl rfl rfl) ?_))))))
   refine js rfl (fun h24 => ?_) (fun h24 => ?_)
   ·iterate 9 refine jp rfl ?_
    refine wAc (jT (wAe (jr1 rfl rfl ?_)))
    refine congrArg _ ?_
    unfold wKn
    rw [List.getLast?_eq_getElem?, List.getElem?_eq_getElem hk1]
    simp only [h9, h21]
    have hl6 : (ws.length == 6) = decide (ws.length = 6) := by by_cases h : ws.length = 6 <;> simp [h]
    first | (rw [hl6, decide_eq_true (show ws.length = 6 by omega)]; rfl) | (rw [hl6, decide_eq_false (show ¬ ws.length = 6 by omega)]; rfl)
   ·iterate 9 refine jp rfl ?_
    refine wAc (jT (wAe (jr1 rfl rfl ?_)))
    refine congrArg _ ?_
    unfold wKn
    rw [List.getLast?_eq_getElem?, List.getElem?_eq_getElem hk1]
    simp only [h9, h21]
    have hl6 : (ws.length == 6) = decide (ws.length = 6) := by by_cases h : ws.length = 6 <;> simp [h]
    first | (rw [hl6, decide_eq_true (show ws.length = 6 by omega)]; rfl) | (rw [hl6, decide_eq_false (show ¬ ws.length = 6 by omega)]; rfl)
  ·iterate 2 refine dp rfl rfl ?_
   refine wBg (jPn (jT (wAb (wAa (jp rfl (wAi rfl rfl (wBq rfl rfl rfl) ?_))))))
   refine js rfl (fun h24 => ?_) (fun h24 => ?_)
   ·iterate 9 refine jp rfl ?_
    refine wAc (jT (wAe (jr1 rfl rfl ?_)))
    refine congrArg _ ?_
    unfold wKn
    rw [List.getLast?_eq_getElem?, List.getElem?_eq_getElem hk1]
    simp only [h9, h21]
    have hl6 : (ws.length == 6) = decide (ws.length = 6) := by by_cases h : ws.length = 6 <;> simp [h]
    first | (rw [hl6, decide_eq_true (show ws.length = 6 by omega)]; rfl) | (rw [hl6, decide_eq_false (show ¬ ws.length = 6 by omega)]; rfl)
   ·iterate 9 refine jp rfl ?_
    refine wAc (jT (wAe (jr1 rfl rfl ?_)))
    refine congrArg _ ?_
    unfold wKn
    rw [List.getLast?_eq_getElem?, List.getElem?_eq_getElem hk1]
    simp only [h9, h21]
    have hl6 : (ws.length == 6) = decide (ws.length = 6) := by by_cases h : ws.length = 6 <;> simp [h]
    first | (rw [hl6, decide_eq_true (show ws.length = 6 by omega)]; rfl) | (rw [hl6, decide_eq_false (show ¬ ws.length = 6 by omega)]; rfl)
theorem chk8 {x : It} (h : ¬ wEw x = 0) : wEw x = 8 := by
 rcases wKu x with ⟨_, h2⟩ | ⟨_, h2⟩
 ·exact h2
 ·exact absurd h2 h
theorem asked_put (s : Sto) (root : Int) (x : It) (xv : Value) (bv wv nv lw : Value) (M : Mem) (h1 : LS M bv s.blocks) (h2 : WS M wv s.waits) (h3 : BS M nv s.now) (h4 : BS M lw s.last) (hx : BS M xv x.val) :
  SpecL Tryz.prog 107 #[.agg #[bv, wv, nv, lw], .int .i64 root, .agg #[.int .u8 x.key.kind, .int .u32 x.key.id, .int .u32 x.key.off, .int .i64 x.ref, xv]] M [] fun v _ _ => v = .int .i64 (wHa s root x) := by
 have hST : ST M (.agg #[bv, wv, nv, lw]) s := ⟨_, _, _, _, rfl, h1, h2, h3, h4⟩
 obtain ⟨xa, xc, rfl, hxc, hxs⟩ := id hx
 refine wAf (vs := [_, _, _]) 36 _ Tryz.func107 rfl Tryz.ntmps107 rfl rfl ?_; intro W
 refine wAb (wAa (wAw rfl rfl (wCb (cs := [bv, wv, nv, lw]) rfl rfl rfl rfl) ?_)); rintro _ _ _ ⟨b3, rfl, rfl, rfl⟩
 refine wAw rfl rfl (wCb (cs := itc x xa xc) rfl rfl rfl rfl) ?_; rintro _ _ _ ⟨b5, rfl, rfl, rfl⟩
 refine jp rfl (wAc (jT (wAb (wAb (wAa (sLL rfl ?_))))))
 refine jp rfl (wAi rfl rfl (wBf rfl rfl rfl rfl rfl (by kernel_rfl) (fcheck_spec s _ root M hST)) ?_)
 refine jp rfl (jp rfl (jp rfl (jp rfl (jp rfl (wAc (jT (wAb (wAa (jp rfl (js rfl (fun h17 => ?_) (fun h17 => ?_)))))))))))
 ·refine wAc (jT (wAg rfl (wAb (wAa (jp rfl (jp rfl (wAc (jT (wAe (jTr (jr1 rfl rfl ?_)))))))))))
  show Value.int .i64 (wGo s root).2 = _
  refine congrArg _ ?_
  unfold wHa; rw [if_neg h17]
 ·refine wAc (jT (wAj rfl (wAd (jT (wAb (wAb (wAa (sLL rfl ?_))))))))
  refine wAi rfl rfl (wBf rfl rfl rfl rfl rfl (by kernel_rfl) (wEo x _ M hx)) ?_
  refine jp rfl (wAc (jT (wAb (wAa (jp rfl (js rfl (fun h22 => ?_) (fun h22 => ?_)))))))
  ·refine wAc (jT (wAg rfl (wAb (wAa (jp rfl (jp rfl (wAc (jT (wAe (jTr (jr1 rfl rfl ?_)))))))))))
   refine congrArg _ ?_
   unfold wHa; rw [if_pos (Classical.not_not.1 h17), if_neg h22]; exact (chk8 h22)
  ·refine wAc (jT (wAj rfl (wAd (jT (wAb (wAb (wAa (sFL rfl rfl ?_))))))))
   refine js rfl (fun h26 => ?_) (fun h26 => ?_)
   ·refine jp rfl ?_
    have hf0 : (wGo s root).2 = 0 := Classical.not_not.1 h17
    have hst := (fchk_ok hf0).1
    have hn256 : s.now.length = 256 := hst.2.1.1
    obtain ⟨na, nc, rfl, hnc, hns⟩ := id h3
    obtain ⟨nb, no, e0, hnx⟩ := hns.open (by intro e; have := congrArg List.length e; rw [wAu, List.length_nil] at this; omega)
    cases e0
    have hix : wEw x = 0 := Classical.not_not.1 h22
    have hfb := of_decide_eq_false (show decide _ = false from wEn hix)
    have hxr : 0 ≤ x.ref ∧ x.ref < 256 := by omega
    refine sFL rfl rfl ?_
    refine sFL rfl rfl ?_
    refine wAi rfl rfl (wBa rfl rfl rfl rfl (by omega)) ?_
    refine wAi rfl rfl (qLd rfl rfl rfl rfl ((hnx _ _ (by rw [Nat.mul_one]; exact wHu (j := x.ref.toNat) (by omega))).cj _)) ?_
    refine js rfl (fun h34 => ?_) (fun h34 => ?_)
    ·refine jp rfl (wAc (jT (wAg rfl (wAb (wAa (jp rfl (wAc (jT (wAe (jTr (jr1 rfl rfl ?_)))))))))))
     refine congrArg _ ?_
     unfold wHa; rw [if_pos hf0, if_pos hix, if_pos ⟨h26, UInt8.toNat.inj (by simpa using h34)⟩]
    ·refine jp rfl (wAc (jT (wAj rfl (wAd (jT (wAb (wAa (jp rfl (wAc (jT (wAe (jr1 rfl rfl ?_))))))))))))
     refine congrArg _ ?_
     unfold wHa; rw [if_pos hf0, if_pos hix, if_neg (fun h => h34 (by rw [h.2]; rfl))]
   ·iterate 9 refine jp rfl ?_
    refine wAc (jT (wAj rfl (wAd (jT (wAb (wAa (jp rfl (wAc (jT (wAe (jr1 rfl rfl ?_)))))))))))
    refine congrArg _ ?_
    unfold wHa; rw [if_pos (Classical.not_not.1 h17), if_pos (Classical.not_not.1 h22), if_neg (fun h => h26 h.1)]
end Go.Proofs.YtoincdcejjdgkaaGreat
