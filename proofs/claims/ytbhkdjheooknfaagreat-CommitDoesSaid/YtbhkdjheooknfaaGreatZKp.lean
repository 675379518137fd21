/- Walks: what is wrong with the document's pool. -/
import Derived.Test.YtbhkdjheooknfaaGreatZKm
import Derived.Test.YtbhkdjheooknfaaGreatZCom
namespace Go.Proofs.YtbhkdjheooknfaaGreat
set_option linter.unusedSimpArgs false
set_option linter.unusedVariables false
set_option linter.unusedSectionVars false
open Go.RowKit
theorem poChk_isK {p : Po} : wFc p = 0 ↔ ∃ x, cens p.st p.root p.next p.dead = some x := by
 unfold wFc
 split
 ·rename_i h; simp [h]
 rename_i h; simp [h]
theorem treesF_allK {s : Sto} : ∀ {rs refs nodes : List Int} {x : List Int × List Int}, wDc s rs refs nodes = some x → ∀ r ∈ rs, wGx s r = true
 | [], _, _, _, _, r, hr => by cases hr
 | y :: rs, refs, nodes, x, h, r, hr => by
  rw [wDc] at h
  split at h
  ·rename_i hy
   rcases List.mem_cons.1 hr with rfl | hr
   ·exact hy
   exact treesF_allK h r hr
  cases h
theorem nd_fine {s : Sto} {k : Nat} {lv : Int} {xs : List It} (h : wCu s k = some (lv, xs)) : ∀ x ∈ xs, wKe x := by
 unfold wCu at h
 split at h
 ·cases h
 unfold wDj at h
 split at h
 ·split at h
  ·split at h
   ·rename_i ys r hr
    split at h
    ·cases h
     obtain ⟨zs, e1, _, _, e4⟩ := rd_back hr
     rw [List.nil_append] at e1
     subst e1; exact e4
    cases h
   cases h
  cases h
 cases h
theorem allOne_fine (s : Sto) : ∀ (l : Nat) (x : It), wKe x → ∀ y ∈ wFd s l x, wKe y
 | 0, x, h, y, hy => by rw [wFd, List.mem_singleton] at hy; subst hy; exact h
 | l + 1, x, h, y, hy => by
  rw [wFd] at hy
  obtain ⟨z, hz, hy2⟩ := List.mem_flatMap.1 hy
  refine allOne_fine s l z ?_ y hy2
  unfold kid at hz
  split at hz
  ·rename_i hnd; exact nd_fine hnd z hz
  cases hz
theorem allL_fine {s : Sto} {k l : Nat} {lv : Int} {xs : List It} (hnd : wCu s k = some (lv, xs)) : ∀ y ∈ allL s l xs, wKe y := by
 intro y hy
 obtain ⟨x, hx, h3⟩ := List.mem_flatMap.1 hy
 exact allOne_fine s l x (nd_fine hnd x hx) y h3
theorem treesF_some {s : Sto} : ∀ {rs refs nodes : List Int}, (∀ r ∈ rs, wGx s r = true) → ∃ x, wDc s rs refs nodes = some x
 | [], refs, nodes, _ => ⟨_, rfl⟩
 | r :: rs, refs, nodes, h => by
  rw [wDc, if_pos (h r (by simp))]
  exact treesF_some fun z hz => h z (by simp [hz])
theorem enough_same {s : Sto} {rs R N R' N' : List Int} (h : Fin s rs R N) (h' : Fin s rs R' N') : enough s R ↔ enough s R' := by
 unfold enough
 exact ⟨fun h1 i hi => by rw [h.same h' hi]; exact h1 i hi, fun h1 i hi => by rw [← h.same h' hi]; exact h1 i hi⟩
theorem po_is {p : Po} (hst : wDr p.st) (hdl : p.dead.length ≤ 40) (hrt : wGx p.st p.root = true) {lev : Nat} {xs0 xs : List It} (hnd : wCu p.st p.root.toNat = some ((lev : Int), xs0)) (hxs : xs = allL p.st lev xs0) :
  wFc p = 0 ↔ (xs.all fun x => decide (wCy x)) = true ∧ mkAll p xs ∧ ∀ R N, Fin p.st (wJt p xs) R N → enough p.st R := by
 obtain ⟨_, _, lv', xs', hl, hn2, _⟩ := rtOk_in hrt
 rw [hnd] at hn2
 have h5 : (lev : Int) = lv' ∧ xs0 = xs' := by simpa using hn2
 obtain ⟨rfl, rfl⟩ := h5
 have hvs : wDx p.st p.next ((lev : Int)).toNat xs0 [] = if (∀ x ∈ xs, wCy x ∧ x.key.id ≠ 0 ∧ x.key.id < p.next) ∧ ([] : List Vo).length + xs.length ≤ 16 then some ([] ++ xs.map wCm) else none := by
  rw [Int.toNat_natCast, volsL_all, ← hxs, vols_is (by simp)]
 have hfi : ∀ y ∈ xs, 0 ≤ y.key.id := fun y hy => (allL_fine hnd y (by rw [hxs] at hy; exact hy)).2.1.1
 rw [poChk_isK]
 by_cases hc : (∀ x ∈ xs, wCy x ∧ x.key.id ≠ 0 ∧ x.key.id < p.next) ∧ ([] : List Vo).length + xs.length ≤ 16
 ·rw [if_pos hc, List.nil_append] at hvs
  have hl16 : xs.length ≤ 16 := by simpa using hc.2
  have hrl : (wEk p.root p.dead (xs.map wCm)).length ≤ 600 := by unfold wEk; simp; omega
  constructor
  ·rintro ⟨x, hx⟩
   cases ht : wDc p.st (wEk p.root p.dead (xs.map wCm)) zI zI with
   | none => rw [cens_trees ⟨hst, hdl, hrt⟩ hl hvs ht] at hx; cases hx
   | some q =>
    obtain ⟨R0, N0⟩ := q
    rw [cens_end ⟨hst, hdl, hrt⟩ hl hvs ht] at hx
    split at hx
    ·rename_i he
     refine ⟨List.all_eq_true.2 fun y hy => decide_eq_true (hc.1 y hy).1, ⟨hl16, fun y hy => ⟨by have := hfi y hy; have := (hc.1 y hy).2.1; omega, (hc.1 y hy).2.2⟩, treesF_allK ht⟩, fun R N hF => (enough_same (trees_fin hrl ht) hF).1 he⟩
    cases hx
  rintro ⟨_, hm, he⟩
  obtain ⟨q, ht⟩ := treesF_some (s := p.st) (refs := zI) (nodes := zI) hm.2.2
  obtain ⟨R0, N0⟩ := q
  have ht' : wDc p.st (wEk p.root p.dead (xs.map wCm)) zI zI = some (R0, N0) := ht
  refine ⟨_, by rw [cens_end ⟨hst, hdl, hrt⟩ hl hvs ht', if_pos (he R0 N0 (trees_fin hrl ht'))]⟩
 rw [if_neg hc] at hvs
 constructor
 ·rintro ⟨x, hx⟩; rw [cens_vols ⟨hst, hdl, hrt⟩ hl hvs] at hx; cases hx
 rintro ⟨hv, hm, _⟩
 refine absurd ⟨fun y hy => ⟨of_decide_eq_true (List.all_eq_true.1 hv y hy), ?_, (hm.2.1 y hy).2⟩, by simpa using hm.1⟩ hc
 have := (hm.2.1 y hy).1; omega
theorem po_not {p : Po} (h : ¬ (wDr p.st ∧ p.dead.length ≤ 40 ∧ wGx p.st p.root = true)) : wFc p ≠ 0 := fun e => by
 obtain ⟨x, hx⟩ := poChk_isK.1 e
 rw [cens_no h] at hx; cases hx
theorem rmay14_yes (p : Po) (bv wv lw : Value) (na da : Option Addr) (nc dc : Nat) (M : Mem) (h3 : SM M na (wAj p.st.now)) (hst : wDr p.st) (hmk : SpecL Tryz.prog 57 #[.agg #[bv, wv, .slice na p.st.now.length nc, lw, .int .u32 p.gen, .int .i64 p.root, .int .u32 p.next, .slice da p.dead.length dc]] M [] fun u M' L' => (∃ R a c v2, u = .tuple #[.slice a (List.length R) c, v2, .bool true] ∧ List.length R = 256 ∧ SM M' a (wAw R) ∧ (wFc p = 0 ↔ enough p.st R)) ∧ L' = [])  :
  SpecL Tryz.prog 40 #[.agg #[bv, wv, .slice na p.st.now.length nc, lw, .int .u32 p.gen, .int .i64 p.root, .int .u32 p.next, .slice da p.dead.length dc]] M [] fun u _ _ => u = .bool (decide (wFc p = 0)) := by
 refine wAe (vs := [_]) 19 _ Tryz.func40 rfl Tryz.ntmps40 rfl rfl ?_; intro W
 refine wAb (wAa (wAv rfl rfl (wBw (cs := [_, _, _, _, _, _, _, _]) rfl rfl rfl rfl) ?_)); rintro _ _ _ ⟨b1, rfl, rfl, rfl⟩
 refine jp rfl (wAc (jT (wAb (wAa (sLL rfl ?_)))))
 refine wAv rfl rfl (wAt rfl rfl rfl rfl rfl (by kernel_rfl) hmk) ?_; rintro _ M1 _ ⟨hM1, _, rfl, ⟨⟨R, ra, rc, v2, rfl, hRl, hRs, hiff⟩, rfl⟩⟩
 iterate 7 refine jp rfl ?_
 refine wAc (jT (wAb (wAa (jp rfl (jp rfl (sFa rfl ?_))))))
 refine sLL rfl ?_
 refine jp rfl (wAi rfl rfl (wAy rfl rfl rfl rfl rfl (by kernel_rfl) (renough_walk p.st bv wv lw na nc ra rc R M1 (h3.mono hM1) hst.2.1.1 hRs hRl)) ?_)
 refine jp rfl (jp rfl (wAc (jT (wAf (jr1 rfl rfl ?_)))))
 exact congrArg Value.bool (decide_eq_decide.2 hiff.symm)
theorem wJu (p : Po) (bv wv lw : Value) (na da : Option Addr) (nc dc : Nat) (M : Mem) (hno : wFc p ≠ 0) (hmk : SpecL Tryz.prog 57 #[.agg #[bv, wv, .slice na p.st.now.length nc, lw, .int .u32 p.gen, .int .i64 p.root, .int .u32 p.next, .slice da p.dead.length dc]] M [] fun u M' L' => u = .tuple #[.slice none 0 0, .slice none 0 0, .bool false] ∧ L' = [])  :
  SpecL Tryz.prog 40 #[.agg #[bv, wv, .slice na p.st.now.length nc, lw, .int .u32 p.gen, .int .i64 p.root, .int .u32 p.next, .slice da p.dead.length dc]] M [] fun u _ _ => u = .bool (decide (wFc p = 0)) := by
 refine wAe (vs := [_]) 19 _ Tryz.func40 rfl Tryz.ntmps40 rfl rfl ?_; intro W
 refine wAb (wAa (wAv rfl rfl (wBw (cs := [_, _, _, _, _, _, _, _]) rfl rfl rfl rfl) ?_)); rintro _ _ _ ⟨b1, rfl, rfl, rfl⟩
 refine jp rfl (wAc (jT (wAb (wAa (sLL rfl ?_)))))
 refine wAv rfl rfl (wAt rfl rfl rfl rfl rfl (by kernel_rfl) hmk) ?_; rintro _ M1 _ ⟨hM1, _, rfl, ⟨rfl, rfl⟩⟩
 iterate 7 refine jp rfl ?_
 refine wAc (jT (wAb (wAa ?_)))
 iterate 8 refine jp rfl ?_
 refine wAc (jT (wAf (jr1 rfl rfl ?_)))
 rw [decide_eq_false hno]
theorem rmay14_spec (p : Po) (u : Value) (M : Mem) (h : PT M u p) (hf : fewP p) (hr : -9223372036854775808 ≤ p.root ∧ p.root ≤ 9223372036854775807) (hdb : ∀ d ∈ p.dead, -9223372036854775808 ≤ d ∧ d ≤ 9223372036854775807) : SpecL Tryz.prog 40 #[u] M [] fun u _ _ => u = .bool (decide (wFc p = 0)) := by
 obtain ⟨bv, wv, nv, lw, dv, rfl, h1, h2, ⟨na, nc, rfl, hnc, h3⟩, h4, ⟨da, dc, rfl, _, hd⟩⟩ := h
 have hS : ST M (.agg #[bv, wv, .slice na p.st.now.length nc, lw]) p.st := ⟨_, _, _, _, rfl, h1, h2, ⟨na, nc, rfl, hnc, h3⟩, h4⟩
 by_cases hb : wDr p.st ∧ p.dead.length ≤ 40
 ·obtain ⟨hst, hdl⟩ := hb
  cases hrt : wGx p.st p.root with
  | false =>
   exact wJu p bv wv lw na da nc dc M (po_not fun hh => by rw [hrt] at hh; cases hh.2.2) (rmarks14_root p bv wv lw na da nc dc M hS hd hf hr hst hdl hrt)
  | true =>
   obtain ⟨_, lev, xs0, hnd, htr⟩ := rt_tree hrt
   obtain ⟨xs, hxs⟩ : ∃ xs, xs = allL p.st lev xs0 := ⟨_, rfl⟩
   have hiff := po_is hst hdl hrt hnd hxs
   cases hvi : (xs.all fun x => decide (wCy x)) with
   | false => exact wJu p bv wv lw na da nc dc M (fun e => by have := (hiff.1 e).1; rw [hvi] at this; cases this) (rmarks14_vol p bv wv lw na da nc dc M hS hd hf hr hst hdl hrt lev xs0 xs hnd htr hxs hvi)
   | true =>
    have hrts : ∀ r ∈ wJt p xs, -9223372036854775808 ≤ r ∧ r ≤ 9223372036854775807 := by
     intro r hr2
     unfold wJt wEk at hr2
     rcases List.mem_append.1 hr2 with hr2 | hr2
     ·rcases List.mem_cons.1 hr2 with rfl | hr2
      ·exact hr
      exact hdb r hr2
     obtain ⟨v, hv, rfl⟩ := List.mem_map.1 hr2
     obtain ⟨x, _, rfl⟩ := List.mem_map.1 hv
     have := getN_two x.val 0
     show _ ≤ wGm x.val 0 2 ∧ wGm x.val 0 2 ≤ _
     omega
    have hm := rmarks14_main p bv wv lw na da nc dc M hS hd hf hr hst hdl hrt lev xs0 xs hnd htr hxs hvi hdb hrts
    by_cases hma : mkAll p xs
    ·refine rmay14_yes p bv wv lw na da nc dc M h3 hst (hm.mono fun u M' L' ⟨h5, h6⟩ => ⟨?_, h6⟩)
     rcases h5 with ⟨_, R, N, a, c, v2, e, hl, hs, hF⟩ | ⟨h7, _⟩
     ·exact ⟨R, a, c, v2, e, hl, hs, hiff.trans ⟨fun h8 => h8.2.2 R N hF, fun h8 => ⟨hvi, hma, fun R' N' hF' => (enough_same hF hF').1 h8⟩⟩⟩
     exact absurd hma h7
    refine wJu p bv wv lw na da nc dc M (fun e => hma (hiff.1 e).2.1) (hm.mono fun u M' L' ⟨h5, h6⟩ => ⟨?_, h6⟩)
    rcases h5 with ⟨h7, _⟩ | ⟨_, e⟩
    ·exact absurd h7 hma
    exact e
 exact wJu p bv wv lw na da nc dc M (po_not fun hh => hb ⟨hh.1, hh.2.1⟩) (rmarks14_bad p bv wv lw na da nc dc M hS hd hf hr hb)
theorem rasked_walk (p : Po) (bv wv nv lw dv : Value) (M : Mem) (hP : PT M (.agg #[bv, wv, nv, lw, .int .u32 p.gen, .int .i64 p.root, .int .u32 p.next, dv]) p) (hf : fewP p) (hr : -9223372036854775808 ≤ p.root ∧ p.root ≤ 9223372036854775807) (hdb : ∀ d ∈ p.dead, -9223372036854775808 ≤ d ∧ d ≤ 9223372036854775807) :
  SpecL Tryz.prog 20 #[.agg #[bv, wv, nv, lw, .int .u32 p.gen, .int .i64 p.root, .int .u32 p.next, dv]] M [] fun u _ _ => u = .int .i64 (wHm p) := by
 refine wAe (vs := [_]) 9 _ Tryz.func20 rfl Tryz.ntmps20 rfl rfl ?_; intro W
 refine wAb (wAa (wAv rfl rfl (wBw (cs := [_, _, _, _, _, _, _, _]) rfl rfl rfl rfl) ?_)); rintro _ _ _ ⟨b1, rfl, rfl, rfl⟩
 refine jp rfl (wAc (jT (wAb (wAb (wAa (sLL rfl ?_))))))
 refine wAi rfl rfl (wAy rfl rfl rfl rfl rfl (by kernel_rfl) (rmay14_spec p _ M hP hf hr hdb)) ?_
 refine jsb rfl (fun h5 => ?_) (fun h5 => ?_)
 ·refine wAc (jT (wAg rfl (wAb (wAa (jp rfl (wAc (jT (wAf (jTr (jr1 rfl rfl ?_))))))))))
  have h1 : ¬ wFc p = 0 := by simpa using h5
  have h2 := (wJg p).resolve_left h1
  unfold wHm; rw [if_pos h1, h2]
 refine wAc (jT (wAk rfl (wAd (jT (wAb (wAb (wAa (sFL rfl rfl ?_))))))))
 refine js rfl (fun h8 => ?_) (fun h8 => ?_)
 ·refine wAc (jT (wAg rfl (wAb (wAa (jp rfl (wAc (jT (wAf (jTr (jr1 rfl rfl ?_))))))))))
  have h1 : wFc p = 0 := by simpa using h5
  unfold wHm; rw [if_neg (by rw [h1]; simp), if_pos h8]
 refine wAc (jT (wAk rfl (wAd (jT (wAb (wAa (jp rfl (wAc (jT (wAf (jr1 rfl rfl ?_)))))))))))
 have h1 : wFc p = 0 := by simpa using h5
 unfold wHm; rw [if_neg (by rw [h1]; simp), if_neg h8]
theorem rasked_spec (p : Po) (u : Value) (M : Mem) (h : PT M u p) (hf : fewP p) (hr : -9223372036854775808 ≤ p.root ∧ p.root ≤ 9223372036854775807) (hdb : ∀ d ∈ p.dead, -9223372036854775808 ≤ d ∧ d ≤ 9223372036854775807) : SpecL Tryz.prog 20 #[u] M [] fun u _ _ => u = .int .i64 (wHm p) := by
 obtain ⟨bv, wv, nv, lw, dv, rfl, _⟩ := id h
 exact rasked_walk p bv wv nv lw dv M h hf hr hdb
end Go.Proofs.YtbhkdjheooknfaaGreat
