/- Walks: nodes of a pool learned, each once. -/
import Derived.Test.YtbhkdjheooknfaaGreatZVol
import Derived.Test.YtbhkdjheooknfaaGreatZThaw
namespace Go.Proofs.YtbhkdjheooknfaaGreat
set_option linter.unusedVariables false
set_option linter.unusedSectionVars false
set_option linter.unusedSimpArgs false
open Go.RowKit
abbrev TCn : TypeId := 108
abbrev TSp : TypeId := 115
abbrev TNd : TypeId := 111
abbrev snc (lv : Int) (sl : Value) (p : Sp) : List Value := [.int .i64 lv, sl, .int .u8 p.first.kind, .int .u32 p.first.id, .int .u32 p.first.off, .int .u8 p.last.kind, .int .u32 p.last.id, .int .u32 p.last.off, .bool p.is]
abbrev spnZ : List Value := [.int .i64 0, .slice none 0 0, .int .u8 0, .int .u32 0, .int .u32 0, .int .u8 0, .int .u32 0, .int .u32 0, .bool false]
def spOf (o : Option Sp) : Sp := o.getD ⟨⟨0, 0, 0⟩, ⟨0, 0, 0⟩, true⟩
def wEb (s : Sto) (lv : Int) (xs : List It) : Sp := if xs = [] then spOf none else wGd (wBo s lv.toNat) none xs
def lrn (s : Sto) (k level : Int) : Option (Int × List It) := if k < 8 ∨ 256 ≤ k then none else match wCu s k.toNat with
 | none => none
 | some (lv, xs) => if 0 ≤ level ∧ (lv ≠ level ∨ xs = []) then none else some (lv, xs)
theorem lrn_out {s : Sto} {k level : Int} (h : k < 8 ∨ 256 ≤ k) : lrn s k level = none := by unfold lrn; rw [if_pos h]
theorem lrn_none {s : Sto} {k level : Int} (h : wCu s k.toNat = none) : lrn s k level = none := by unfold lrn; rw [h]; split <;> rfl
theorem wGq {s : Sto} {k level lv : Int} {xs : List It} (h : wCu s k.toNat = some (lv, xs)) (h2 : 0 ≤ level ∧ (lv ≠ level ∨ xs = [])) : lrn s k level = none := by
 unfold lrn; rw [h]; simp only []; rw [if_pos h2]; split <;> rfl
theorem wHt {s : Sto} {k level lv : Int} {xs : List It} (hk : 8 ≤ k ∧ k < 256) (h : wCu s k.toNat = some (lv, xs)) (h2 : ¬ (0 ≤ level ∧ (lv ≠ level ∨ xs = []))) : lrn s k level = some (lv, xs) := by
 unfold lrn; rw [if_neg (by omega), h]; simp only []; rw [if_neg h2]
theorem lrn_is {s : Sto} {k level lv : Int} {xs : List It} (h : lrn s k level = some (lv, xs)) : 8 ≤ k ∧ k < 256 ∧ wCu s k.toNat = some (lv, xs) ∧ (0 ≤ level → lv = level ∧ xs ≠ []) := by
 unfold lrn at h
 split at h
 ·cases h
 rename_i h1
 split at h
 ·cases h
 rename_i lv' xs' h2
 split at h
 ·cases h
 rename_i h3
 cases h
 refine ⟨by omega, by omega, h2, fun h => ⟨Classical.byContradiction fun e => h3 ⟨h, .inl e⟩, fun e => h3 ⟨h, .inr e⟩⟩⟩
theorem one_lrn {s : Sto} {l : Nat} {x : It} (hr : 8 ≤ x.ref ∧ x.ref < 256) : wBo s (l + 1) x = match lrn s x.ref (l : Int) with | none => wGb | some (lv, ys) => wEb s lv ys := by
 cases hn : wCu s x.ref.toNat with
 | none => rw [lrn_none hn]; simp only [wBo, hn]
 | some q =>
  obtain ⟨lv, ys⟩ := q
  by_cases hc : lv = (l : Int) ∧ ys ≠ []
  ·rw [wHt hr hn (fun h => h.2.elim (fun h => h hc.1) (fun h => hc.2 h))]
   simp only [wBo, hn]
   rw [if_pos hc]; unfold wEb; rw [if_neg hc.2, hc.1]; rfl
  rw [wGq hn ⟨by omega, by
   by_cases h : lv = (l : Int)
   ·exact .inr (Classical.byContradiction fun h2 => hc ⟨h, h2⟩)
   exact .inl h⟩]
  simp only [wBo, hn]; rw [if_neg hc]
theorem wJc {s : Sto} {lv : Int} {xs : List It} {o : Option Sp} {k : Nat} {n : Nat} (hn : lv.toNat = n) (hk : k < xs.length) (hI : wGd (wBo s n) none xs = wGd (wBo s n) o (xs.drop k)) (h : wBv (wBo s n xs[k]) o xs[k] = false) : wEb s lv xs = wGb := by
 unfold wEb; rw [if_neg (fun e => by rw [e] at hk; cases hk), hn]; exact go_bad hk hI h
theorem rd_end {s : Sto} {lv : Int} {xs : List It} {o : Option Sp} {k n : Nat} (hn : lv.toNat = n) (hk : k = xs.length) (ho : o = none ↔ k = 0) (hI : wGd (wBo s n) none xs = wGd (wBo s n) o (xs.drop k)) : wEb s lv xs = spOf o := by
 unfold wEb
 by_cases hx : xs = []
 ·rw [if_pos hx, ho.2 (by rw [hk, hx]; rfl)]
 rw [if_neg hx, hn, go_end hk hI]
 cases o with
 | none => exact absurd (List.eq_nil_of_length_eq_zero (by rw [← hk]; exact ho.1 rfl)) hx
 | some p => rfl
structure MapI (M : Mem) (s : Sto) (l : List (Int × Value)) : Prop where
 ent : ∀ k v, wGr k l = some v → 8 ≤ k ∧ k < 256 ∧ ∃ lv xs sl, wCu s k.toNat = some (lv, xs) ∧ NS M sl xs ∧ v = .agg (snc lv sl (wEb s lv xs)).toArray
 kid : ∀ k lv xs, (wGr k l).isSome = true → wCu s k.toNat = some (lv, xs) → (wEb s lv xs).is = true → 0 < lv → ∀ x ∈ xs, (wGr x.ref l).isSome = true
theorem MapI.mono {M M' : Mem} {s : Sto} {l : List (Int × Value)} (h : MapI M s l) (hM : MLe M M') : MapI M' s l :=
 ⟨fun k v hv => by obtain ⟨h1, h2, lv, xs, sl, h3, h4, h5⟩ := h.ent k v hv; exact ⟨h1, h2, lv, xs, sl, h3, h4.mono hM, h5⟩, h.kid⟩
theorem MapI.nil {M : Mem} {s : Sto} : MapI M s [] := ⟨fun k v h => (by cases h), fun k lv xs h => (by cases h)⟩
def Ext (l l' : List (Int × Value)) : Prop := ∀ k, (wGr k l).isSome = true → (wGr k l').isSome = true
theorem Ext.refl (l : List (Int × Value)) : Ext l l := fun _ h => h
theorem Ext.trans {l l' l'' : List (Int × Value)} (h : Ext l l') (h2 : Ext l' l'') : Ext l l'' := fun k hk => h2 k (h k hk)
theorem ext_put {k : Int} {v : Value} {l : List (Int × Value)} : Ext l (putV k v l) := fun x hx => by
 rw [wHv]
 split
 ·rfl
 exact hx
theorem MapI.put {M : Mem} {s : Sto} {l : List (Int × Value)} {k lv : Int} {xs : List It} {sl : Value} (h : MapI M s l) (hk : 8 ≤ k ∧ k < 256) (hnd : wCu s k.toNat = some (lv, xs)) (hs : NS M sl xs) (hc : (wEb s lv xs).is = true → 0 < lv → ∀ x ∈ xs, (wGr x.ref l).isSome = true) :
  MapI M s (putV k (.agg (snc lv sl (wEb s lv xs)).toArray) l) := by
 refine ⟨fun j v hv => ?_, fun j lv2 xs2 hj hn2 hi hl x hx => ?_⟩
 ·rw [wHv] at hv
  split at hv
  ·rename_i e; subst e; cases hv; exact ⟨hk.1, hk.2, lv, xs, sl, hnd, hs, rfl⟩
  exact h.ent j v hv
 refine ext_put _ ?_
 rw [wHv] at hj
 split at hj
 ·rename_i e; subst e
  rw [hnd] at hn2; cases hn2
  exact hc hi hl x hx
 exact h.kid j lv2 xs2 hj hn2 hi hl x hx
structure CN (M : Mem) (s : Sto) (nv pb : Value) : Prop where
 now : BS M nv s.now
 bn : BN M pb s
theorem CN.mono {M M' : Mem} {s : Sto} {nv pb : Value} (h : CN M s nv pb) (hM : MLe M M') : CN M' s nv pb := ⟨h.now.mono hM, h.bn.mono hM⟩
abbrev wGy (bv wv nv lw pb : Value) (m : Nat) (rest : List Value) : List Value := bv :: wv :: nv :: lw :: pb :: .map (some m) :: rest
def LrP (s : Sto) (k level : Int) (u : Value) (M' : Mem) (l' : List (Int × Value)) : Prop := match lrn s k level with
 | none => u = .agg spnZ.toArray
 | some (lv, xs) => ∃ sl, NS M' sl xs ∧ u = .agg (snc lv sl (wEb s lv xs)).toArray ∧ (wGr k l').isSome = true
theorem LrP.form {s : Sto} {k level : Int} {u : Value} {M' : Mem} {l' : List (Int × Value)} (h : LrP s k level u M' l') : ∃ lv a n c p, u = .agg (snc lv (.slice a n c) p).toArray ∧
  ((lrn s k level = none ∧ p = wGb) ∨ ∃ xs, lrn s k level = some (lv, xs) ∧ n = xs.length ∧ NS M' (.slice a n c) xs ∧ p = wEb s lv xs ∧ (wGr k l').isSome = true) := by
 unfold LrP at h
 split at h
 ·rename_i hl; exact ⟨0, none, 0, 0, wGb, h, .inl ⟨hl, rfl⟩⟩
 rename_i lv xs hl
 obtain ⟨sl, hs, rfl, hk⟩ := h
 obtain ⟨a, c, ps, rfl, _⟩ := id hs
 exact ⟨lv, a, _, c, _, rfl, .inr ⟨xs, hl, rfl, hs, rfl, hk⟩⟩
def CenRead (s : Sto) (cb m : Nat) (bv wv nv lw pb : Value) (rest : List Value) (lv : Int) : Prop := ∀ (xs : List It) (sl : Value) (M : Mem) (l : List (Int × Value)), CN M s nv pb → MapI M s l → NS M sl xs → NdOk lv xs →
 SpecL Tryz.prog 91 #[.pointer (some ⟨cb, 0, none⟩), .agg #[.int .i64 lv, sl]] M [(cb, .cells (wGy bv wv nv lw pb m rest).toArray TCn (0, 0)), (m, wDh l)]
  fun u M' L' => ∃ l', L' = [(cb, .cells (wGy bv wv nv lw pb m rest).toArray TCn (0, 0)), (m, wDh l')] ∧ MapI M' s l' ∧ Ext l l' ∧ u = .agg (snc lv sl (wEb s lv xs)).toArray ∧ ((wEb s lv xs).is = true → 0 < lv → ∀ x ∈ xs, (wGr x.ref l').isSome = true)
def CenLearn (s : Sto) (cb m : Nat) (bv wv nv lw pb : Value) (rest : List Value) (level : Int) : Prop := ∀ (k : Int) (M : Mem) (l : List (Int × Value)), CN M s nv pb → MapI M s l →
 SpecL Tryz.prog 67 #[.pointer (some ⟨cb, 0, none⟩), .int .i64 k, .int .i64 level] M [(cb, .cells (wGy bv wv nv lw pb m rest).toArray TCn (0, 0)), (m, wDh l)]
  fun u M' L' => ∃ l', L' = [(cb, .cells (wGy bv wv nv lw pb m rest).toArray TCn (0, 0)), (m, wDh l')] ∧ MapI M' s l' ∧ Ext l l' ∧ LrP s k level u M' l'
set_option maxHeartbeats 4000000 in
theorem read_leaf (s : Sto) (hst : wDr s) (cb m : Nat) (bv wv nv lw pb : Value) (rest : List Value) (xs : List It) (a : Option Addr) (c : Nat) (ps : List (It × Value)) (M : Mem) (l : List (Int × Value)) (hcn : CN M s nv pb) (hmi : MapI M s l) (hc : xs.length ≤ c) (hs : SM M a (ps.flatMap wCp)) (hp : ps.map (·.1) = xs) (hb : ∀ p ∈ ps, BS M p.2 p.1.val) (hno : NdOk 0 xs) :
  SpecL Tryz.prog 91 #[.pointer (some ⟨cb, 0, none⟩), .agg #[.int .i64 0, .slice a xs.length c]] M [(cb, .cells (wGy bv wv nv lw pb m rest).toArray TCn (0, 0)), (m, wDh l)] fun u M' L' => ∃ l', L' = [(cb, .cells (wGy bv wv nv lw pb m rest).toArray TCn (0, 0)), (m, wDh l')] ∧ MapI M' s l' ∧ Ext l l' ∧ u = .agg (snc 0 (.slice a xs.length c) (wEb s 0 xs)).toArray ∧ ((wEb s 0 xs).is = true → 0 < (0 : Int) → ∀ x ∈ xs, (wGr x.ref l').isSome = true) := by
 have hlv := hno.lev
 have hlen := hno.len
 obtain ⟨na, nc, rfl, hnc, hns⟩ := id hcn.now
 have hn256 : s.now.length = 256 := hst.2.1.1
 obtain ⟨nb, no, e0, hnx⟩ := hns.open (by intro e; have := congrArg List.length e; rw [wAm, List.length_nil] at this; omega)
 subst e0
 refine wAe (vs := [_, _]) 83 _ Tryz.func91 rfl Tryz.ntmps91 rfl rfl ?_; intro W
 refine wAb (wAa (wAv rfl rfl (wBw (cs := [_, _]) rfl rfl rfl rfl) ?_)); rintro _ _ _ ⟨b3, rfl, rfl, rfl⟩
 refine sAl rfl fun b4 => ?_
 refine wAc (jT (wAb (wAa (sLL rfl ?_))))
 refine wAi rfl rfl (wAq (cs := [_, _, _, _, _, _, _, _, _]) rfl rfl rfl (by rfl)) ?_
 refine sAl rfl fun b5 => ?_
 refine sSt rfl ?_
 refine wAc (jT (wAb (wAb (wAa (sFL rfl rfl ?_)))))
 refine wAi rfl rfl (wBe rfl rfl rfl) ?_
 refine jp rfl (wAc (jT (wAh ?_)))
 refine wAo (α := Nat × Mem × Option Sp × List (Int × Value)) (fun x => [(0, .pointer (some ⟨cb, 0, none⟩)), (3, .pointer (some ⟨b3, 0, none⟩)), (4, .pointer (some ⟨b4, 0, none⟩)), (5, .pointer (some ⟨b5, 0, none⟩)), (12, .slice a xs.length c), (13, .int .i64 xs.length), (14, .int .i64 x.1)]) (fun x => x.2.1) (fun x => [(b5, .cells (snc 0 (.slice a xs.length c) (spOf x.2.2.1)).toArray TSp (0, 0)), (b4, .cells spnZ.toArray TSp (0, 0)), (b3, .cells [.int .i64 0, .slice a xs.length c].toArray TNd (0, 0)), (cb, .cells (wGy bv wv (.slice (some ⟨nb, no, none⟩) s.now.length nc) lw pb m rest).toArray TCn (0, 0)), (m, wDh x.2.2.2)]) (fun x => x.1 ≤ xs.length ∧ MLe M x.2.1 ∧ (x.2.2.1 = none ↔ x.1 = 0) ∧ wGd (wBo s 0) none xs = wGd (wBo s 0) x.2.2.1 (xs.drop x.1) ∧ MapI x.2.1 s x.2.2.2 ∧ Ext l x.2.2.2 ∧ (0 < (0 : Int) → ∀ y ∈ xs.take x.1, (wGr y.ref x.2.2.2).isSome = true) ∧ (spOf x.2.2.1).is = true) (fun x => xs.length - x.1)
  (0, M, none, l) (.cons (t := 0) rfl (.cons (t := 3) rfl (.cons (t := 4) rfl (.cons (t := 5) rfl (.cons (t := 12) rfl (.cons (t := 13) rfl (.cons (t := 14) rfl .nil))))))) ⟨Nat.zero_le _, MLe.refl _, by simp, rfl, hmi, Ext.refl _, fun _ y hy => by simp at hy, rfl⟩ (fun _ h => h) ?_
 rintro ⟨k, Mk, o, lk⟩ ⟨hk, hMk, hok0, hI, hmik, hextk, hkid, hspi⟩
 try dsimp only at hk hMk hok0 hI hmik hextk hkid hspi ⊢
 have hcnk := hcn.mono hMk
 have hsk := hs.mono hMk
 have hbk := fun p hp => (hb p hp).mono hMk
 refine wAb (wAa (js rfl (fun h15 => ?_) (fun h15 => ?_)))
 ·refine wAc (jT (wAb (wAg rfl (wAd (jT (wAb (wAh (wAb (wAa (jp rfl ?_))))))))))
  have hk1 : k < xs.length := by omega
  obtain ⟨sb, so, e0, hx⟩ := hsk.open (by intro e; have := congrArg List.length e; rw [wBm wCp 5 wCw, List.length_nil] at this; have h2 := congrArg List.length hp; rw [List.length_map] at h2; omega)
  subst e0
  obtain ⟨va, vc, hcl, hvc, hvs⟩ := wCh hx hp hbk hk1
  have hxr := hno.ref xs[k] (List.getElem_mem hk1)
  refine wAi rfl rfl (wBb rfl rfl rfl rfl (by omega)) ?_
  refine wAi rfl rfl (wGp (cs := itc xs[k] va vc) rfl rfl rfl rfl rfl (fun i v hv => (hcl i v hv).cj _)) ?_
  refine sAl rfl fun b7 => ?_
  refine jp rfl (sSt rfl ?_)
  refine wAc (jT (wAb (wBn [(0, true), (1, true), (2, true), (3, true), (4, true), (5, true), (6, true), (7, true), (8, true), (9, true), (10, true), (11, true), (12, true), (13, true), (14, true), (15, true), (16, true), (17, true), (18, true), (19, true), (20, false), (21, false)] _ (by kernel_rfl) (by kernel_rfl) (by kernel_rfl) rfl (fun _ h => h) ?_)))
  refine dFa rfl rfl ?_
  refine dLL rfl rfl ?_
  refine dFa rfl rfl ?_
  refine dLL rfl rfl ?_
  refine dFa rfl rfl ?_
  refine dLd rfl rfl ?_
  refine ds rfl rfl (fun h25 => ?_) (fun h25 => ?_)
  ·iterate 12 refine dp rfl rfl ?_
   refine wBh rfl rfl rfl (wAq (cs := [_, _, _, _, _, _, _, _, _]) rfl rfl rfl (by rfl)) ?_
   refine wDy rfl rfl rfl (wCx rfl rfl) ?_; rintro _ _ _ ⟨b8, rfl, rfl, rfl⟩
   refine wGa (MLe.refl _) (fun _ h => List.mem_cons_of_mem _ h) (by first | exact MLe.refl _ | assumption) (by simp) ?_
   refine jd_s rfl rfl (wBd rfl rfl rfl rfl rfl rfl rfl rfl) ?_; rintro _ _ _ ⟨rfl, rfl⟩
   refine ⟨_, _, MLe.refl _, MLe.refl _, fun _ h => h, by simp, ?_⟩
   refine wBg (jPn (jT (wAb (wAb (wAa (sFL rfl rfl ?_))))))
   refine jf rfl (decide_eq_false (by omega)) ?_
   refine wAc (jT (wAk rfl (wAd (jT (wAb (wAb (wAa (sFa rfl ?_))))))))
   obtain ⟨p, hpe⟩ : ∃ p : Sp, p = wBo s 0 xs[k] := ⟨_, rfl⟩
   rw [show ([.int .i64 0, .slice none 0 0, .int .u8 xs[k].key.kind, .int .u32 xs[k].key.id, .int .u32 xs[k].key.off, .int .u8 xs[k].key.kind, .int .u32 xs[k].key.id, .int .u32 xs[k].key.off, .bool true] : List Value) = snc 0 (.slice none 0 0) p by rw [hpe]; simp [wBo, h25]]
   refine wDf rfl rfl (qLd rfl rfl rfl rfl (CJ.loc rfl)) (fun h50 => ?_) (fun h50 => ?_)
   ·refine jp rfl (jp rfl (sFa rfl ?_))
    refine sLL rfl ?_
    refine sFa rfl ?_
    refine sLL rfl ?_
    refine wDf rfl rfl (qNeI (ns := [p.first.kind, p.first.id, p.first.off]) (ms := [xs[k].key.kind, xs[k].key.id, xs[k].key.off]) rfl rfl rfl rfl rfl rfl ⟨rfl, rfl⟩) (fun h57 => ?_) (fun h57 => ?_)
    ·iterate 13 refine jp rfl ?_
     refine wAc (jT (wAg rfl (wAb (wAa (sLL rfl ?_)))))
     refine wAi rfl rfl (wAq (cs := [_, _, _, _, _, _, _, _, _]) rfl rfl rfl (by rfl)) ?_
     refine sSt rfl ?_
     refine wAc (jT (wAf (jTr (jBr (jTr (jTr (jBr (jTr (wBr (rs := [_]) ([(cb, .cells (wGy bv wv (.slice (some ⟨nb, no, none⟩) s.now.length nc) lw pb m rest).toArray TCn (0, 0)), (m, wDh lk)]) (by first | exact .refl _ | exact .cons _ (.refl _) | exact .cons _ (.cons _ (.refl _)) | exact .cons _ (.cons _ (.cons _ (.refl _))) | exact .cons _ (.cons _ (.cons _ (.cons _ (.refl _)))) | exact .cons _ (.cons _ (.cons _ (.cons _ (.cons _ (.refl _))))) | exact .cons_cons _ (.cons_cons _ (List.nil_sublist _))) rfl (.cons (.agg rfl rfl rfl) .nil) ?_)))))))))
     have hb : wEb s 0 xs = wGb := wJc (n := 0) rfl hk1 hI (by first | (rw [← hpe]; simp [wBv, h50]; done) | (rw [← hpe]; simp [wBv, show ¬ p.first = xs[k].key from fun e => of_decide_eq_true h57 (by rw [e])]; done) | (obtain ⟨q, rfl⟩ := Option.ne_none_iff_exists'.1 (fun e => by have := hok0.1 e; omega : o ≠ none); rw [← hpe]; simp [wBv, show wCt q.last p.first = false from h67]))
     exact ⟨lk, rfl, hmik, hextk, by rw [hb]; rfl, fun h => by rw [hb] at h; cases h⟩
    refine jp rfl (jp rfl (jp rfl (js rfl (fun h61 => ?_) (fun h61 => ?_))))
    ·refine jp rfl (sFa rfl ?_)
     refine sLL rfl ?_
     refine sFa rfl ?_
     refine sLL rfl ?_
     refine wDf rfl rfl (wAy rfl rfl rfl rfl rfl (by kernel_rfl) (wHg (spOf o).last p.first _)) (fun h67 => ?_) (fun h67 => ?_)
     ·refine jp rfl (jp rfl (jp rfl (wAc (jT (wAk rfl (wAd (jT (wAb (wAb (wAa (jp rfl (js rfl (fun h74 => ?_) (fun h74 => ?_)))))))))))))
      ·exfalso; omega
      refine wAc (jT (wAk rfl (wAd (jT (wAa (sFa rfl ?_))))))
      refine sLL rfl ?_
      refine sFa rfl ?_
      refine sSt rfl ?_
      refine wAc (jB (jT (wAa (ja rfl (by omega) ?_))))
      refine jp rfl (wAc ?_)
      have hfk : p.first = xs[k].key := by have := key_eq p.first xs[k].key; rw [decide_eq_true (Classical.not_not.1 (of_decide_eq_false h57))] at this; exact of_decide_eq_true this.symm
      obtain ⟨q, rfl⟩ : ∃ q, o = some q := by
        cases o with
        | none => have := hok0.1 rfl; omega
        | some q => exact ⟨q, rfl⟩
      have hkid2 : 0 < (0 : Int) → ∀ x ∈ xs.take (k + 1), (wGr x.ref lk).isSome = true := fun h0 => absurd h0 (by decide)
      refine wAn (k + 1, Mk, some (wEt p (some q)), lk) (.cons (t := 0) rfl (.cons (t := 3) rfl (.cons (t := 4) rfl (.cons (t := 5) rfl (.cons (t := 12) rfl (.cons (t := 13) rfl (.cons (t := 14) rfl .nil))))))) ⟨by show k + 1 ≤ xs.length; omega, hMk, by simp, ?_, hmik, hextk, hkid2, rfl⟩ (by show xs.length - (k + 1) < xs.length - k; omega) ?_
      ·show wGd _ _ _ = wGd _ (some (wEt p _)) _
       rw [hpe]; exact go_on hk1 hI (by rw [← hpe]; simp [wBv, h50, ← hfk, show wCt q.last p.first = true from h67])
      intro w h
      rw [show (spOf (some q)).is = true from hspi] at h
      refine (h.fewer ?_ : St _ _ _ w)
      exact .cons _ (.cons _ (.refl _))
     refine jp rfl (jp rfl (jp rfl (wAc (jT (wAg rfl (wAb (wAa (sLL rfl ?_))))))))
     refine wAi rfl rfl (wAq (cs := [_, _, _, _, _, _, _, _, _]) rfl rfl rfl (by rfl)) ?_
     refine sSt rfl ?_
     refine wAc (jT (wAf (jTr (jBr (jTr (jTr (jBr (jTr (wBr (rs := [_]) ([(cb, .cells (wGy bv wv (.slice (some ⟨nb, no, none⟩) s.now.length nc) lw pb m rest).toArray TCn (0, 0)), (m, wDh lk)]) (by first | exact .refl _ | exact .cons _ (.refl _) | exact .cons _ (.cons _ (.refl _)) | exact .cons _ (.cons _ (.cons _ (.refl _))) | exact .cons _ (.cons _ (.cons _ (.cons _ (.refl _)))) | exact .cons _ (.cons _ (.cons _ (.cons _ (.cons _ (.refl _))))) | exact .cons_cons _ (.cons_cons _ (List.nil_sublist _))) rfl (.cons (.agg rfl rfl rfl) .nil) ?_)))))))))
     have hb : wEb s 0 xs = wGb := wJc (n := 0) rfl hk1 hI (by first | (rw [← hpe]; simp [wBv, h50]; done) | (rw [← hpe]; simp [wBv, show ¬ p.first = xs[k].key from fun e => of_decide_eq_true h57 (by rw [e])]; done) | (obtain ⟨q, rfl⟩ := Option.ne_none_iff_exists'.1 (fun e => by have := hok0.1 e; omega : o ≠ none); rw [← hpe]; simp [wBv, show wCt q.last p.first = false from h67]))
     exact ⟨lk, rfl, hmik, hextk, by rw [hb]; rfl, fun h => by rw [hb] at h; cases h⟩
    iterate 9 refine jp rfl ?_
    refine wAc (jT (wAk rfl (wAd (jT (wAb (wAb (wAa (jp rfl (js rfl (fun h74 => ?_) (fun h74 => ?_))))))))))
    ·refine wAc (jT (wAg rfl (wAa (sFa rfl ?_))))
     refine sLL rfl ?_
     refine sFa rfl ?_
     refine sSt rfl ?_
     refine wAc (jT (wAa (sFa rfl ?_)))
     refine sLL rfl ?_
     refine sFa rfl ?_
     refine sSt rfl ?_
     refine wAc (jB (jT (wAa (ja rfl (by omega) ?_))))
     refine jp rfl (wAc ?_)
     have hfk : p.first = xs[k].key := by have := key_eq p.first xs[k].key; rw [decide_eq_true (Classical.not_not.1 (of_decide_eq_false h57))] at this; exact of_decide_eq_true this.symm
     obtain rfl : o = none := hok0.2 (by omega)
     have hkid2 : 0 < (0 : Int) → ∀ x ∈ xs.take (k + 1), (wGr x.ref lk).isSome = true := fun h0 => absurd h0 (by decide)
     refine wAn (k + 1, Mk, some (wEt p none), lk) (.cons (t := 0) rfl (.cons (t := 3) rfl (.cons (t := 4) rfl (.cons (t := 5) rfl (.cons (t := 12) rfl (.cons (t := 13) rfl (.cons (t := 14) rfl .nil))))))) ⟨by show k + 1 ≤ xs.length; omega, hMk, by simp, ?_, hmik, hextk, hkid2, rfl⟩ (by show xs.length - (k + 1) < xs.length - k; omega) ?_
     ·show wGd _ _ _ = wGd _ (some (wEt p _)) _
      rw [hpe]; exact go_on hk1 hI (by rw [← hpe]; simp [wBv, h50, hfk])
     intro w h
     refine (h.fewer ?_ : St _ _ _ w)
     exact .cons _ (.cons _ (.refl _))
    exfalso; omega
   iterate 20 refine jp rfl ?_
   refine wAc (jT (wAg rfl (wAb (wAa (sLL rfl ?_)))))
   refine wAi rfl rfl (wAq (cs := [_, _, _, _, _, _, _, _, _]) rfl rfl rfl (by rfl)) ?_
   refine sSt rfl ?_
   refine wAc (jT (wAf (jTr (jBr (jTr (jTr (jBr (jTr (wBr (rs := [_]) ([(cb, .cells (wGy bv wv (.slice (some ⟨nb, no, none⟩) s.now.length nc) lw pb m rest).toArray TCn (0, 0)), (m, wDh lk)]) (by first | exact .refl _ | exact .cons _ (.refl _) | exact .cons _ (.cons _ (.refl _)) | exact .cons _ (.cons _ (.cons _ (.refl _))) | exact .cons _ (.cons _ (.cons _ (.cons _ (.refl _)))) | exact .cons _ (.cons _ (.cons _ (.cons _ (.cons _ (.refl _))))) | exact .cons_cons _ (.cons_cons _ (List.nil_sublist _))) rfl (.cons (.agg rfl rfl rfl) .nil) ?_)))))))))
   have hb : wEb s 0 xs = wGb := wJc (n := 0) rfl hk1 hI (by first | (rw [← hpe]; simp [wBv, h50]; done) | (rw [← hpe]; simp [wBv, show ¬ p.first = xs[k].key from fun e => of_decide_eq_true h57 (by rw [e])]; done) | (obtain ⟨q, rfl⟩ := Option.ne_none_iff_exists'.1 (fun e => by have := hok0.1 e; omega : o ≠ none); rw [← hpe]; simp [wBv, show wCt q.last p.first = false from h67]))
   exact ⟨lk, rfl, hmik, hextk, by rw [hb]; rfl, fun h => by rw [hb] at h; cases h⟩
  iterate 2 refine dp rfl rfl ?_
  refine wBh rfl rfl rfl (wAx rfl rfl rfl) ?_
  refine dFa rfl rfl ?_
  refine dFa rfl rfl ?_
  refine dLd rfl rfl ?_
  refine dFa rfl rfl ?_
  refine dLd rfl rfl ?_
  have hxr2 : 0 ≤ xs[k].ref ∧ xs[k].ref < 256 := by omega
  refine wBh rfl rfl rfl (wBb rfl rfl rfl rfl (by omega)) ?_
  refine wBh rfl rfl rfl (qLd rfl rfl rfl rfl (((hnx _ _ (by rw [Nat.mul_one]; exact wKh (j := xs[k].ref.toNat) (by omega))).mono hMk).cj _)) ?_
  iterate 2 refine dp rfl rfl ?_
  refine wBh rfl rfl rfl (wAq (cs := [_, _, _, _, _, _, _, _, _]) rfl rfl rfl (by rfl)) ?_
  refine wDy rfl rfl rfl (wCx rfl rfl) ?_; rintro _ _ _ ⟨b8, rfl, rfl, rfl⟩
  refine wGa (MLe.refl _) (fun _ h => List.mem_cons_of_mem _ h) (by first | exact MLe.refl _ | assumption) (by simp) ?_
  refine jd_s rfl rfl (wBd rfl rfl rfl rfl rfl rfl rfl rfl) ?_; rintro _ _ _ ⟨rfl, rfl⟩
  refine ⟨_, _, MLe.refl _, MLe.refl _, fun _ h => h, by simp, ?_⟩
  refine wBg (jPn (jT (wAb (wAb (wAa (sFL rfl rfl ?_))))))
  refine jf rfl (decide_eq_false (by omega)) ?_
  refine wAc (jT (wAk rfl (wAd (jT (wAb (wAb (wAa (sFa rfl ?_))))))))
  obtain ⟨p, hpe⟩ : ∃ p : Sp, p = wBo s 0 xs[k] := ⟨_, rfl⟩
  rw [show ([.int .i64 0, .slice none 0 0, .int .u8 xs[k].key.kind, .int .u32 xs[k].key.id, .int .u32 xs[k].key.off, .int .u8 xs[k].key.kind, .int .u32 xs[k].key.id, .int .u32 xs[k].key.off, .bool (decide (0 < ((s.now.getD xs[k].ref.toNat 0).toNat : Int)))] : List Value) = snc 0 (.slice none 0 0) p by rw [hpe]; simp [wBo, h25]]
  refine wDf rfl rfl (qLd rfl rfl rfl rfl (CJ.loc rfl)) (fun h50 => ?_) (fun h50 => ?_)
  ·refine jp rfl (jp rfl (sFa rfl ?_))
   refine sLL rfl ?_
   refine sFa rfl ?_
   refine sLL rfl ?_
   refine wDf rfl rfl (qNeI (ns := [p.first.kind, p.first.id, p.first.off]) (ms := [xs[k].key.kind, xs[k].key.id, xs[k].key.off]) rfl rfl rfl rfl rfl rfl ⟨rfl, rfl⟩) (fun h57 => ?_) (fun h57 => ?_)
   ·iterate 13 refine jp rfl ?_
    refine wAc (jT (wAg rfl (wAb (wAa (sLL rfl ?_)))))
    refine wAi rfl rfl (wAq (cs := [_, _, _, _, _, _, _, _, _]) rfl rfl rfl (by rfl)) ?_
    refine sSt rfl ?_
    refine wAc (jT (wAf (jTr (jBr (jTr (jTr (jBr (jTr (wBr (rs := [_]) ([(cb, .cells (wGy bv wv (.slice (some ⟨nb, no, none⟩) s.now.length nc) lw pb m rest).toArray TCn (0, 0)), (m, wDh lk)]) (by first | exact .refl _ | exact .cons _ (.refl _) | exact .cons _ (.cons _ (.refl _)) | exact .cons _ (.cons _ (.cons _ (.refl _))) | exact .cons _ (.cons _ (.cons _ (.cons _ (.refl _)))) | exact .cons _ (.cons _ (.cons _ (.cons _ (.cons _ (.refl _))))) | exact .cons_cons _ (.cons_cons _ (List.nil_sublist _))) rfl (.cons (.agg rfl rfl rfl) .nil) ?_)))))))))
    have hb : wEb s 0 xs = wGb := wJc (n := 0) rfl hk1 hI (by first | (rw [← hpe]; simp [wBv, h50]; done) | (rw [← hpe]; simp [wBv, show ¬ p.first = xs[k].key from fun e => of_decide_eq_true h57 (by rw [e])]; done) | (obtain ⟨q, rfl⟩ := Option.ne_none_iff_exists'.1 (fun e => by have := hok0.1 e; omega : o ≠ none); rw [← hpe]; simp [wBv, show wCt q.last p.first = false from h67]))
    exact ⟨lk, rfl, hmik, hextk, by rw [hb]; rfl, fun h => by rw [hb] at h; cases h⟩
   refine jp rfl (jp rfl (jp rfl (js rfl (fun h61 => ?_) (fun h61 => ?_))))
   ·refine jp rfl (sFa rfl ?_)
    refine sLL rfl ?_
    refine sFa rfl ?_
    refine sLL rfl ?_
    refine wDf rfl rfl (wAy rfl rfl rfl rfl rfl (by kernel_rfl) (wHg (spOf o).last p.first _)) (fun h67 => ?_) (fun h67 => ?_)
    ·refine jp rfl (jp rfl (jp rfl (wAc (jT (wAk rfl (wAd (jT (wAb (wAb (wAa (jp rfl (js rfl (fun h74 => ?_) (fun h74 => ?_)))))))))))))
     ·exfalso; omega
     refine wAc (jT (wAk rfl (wAd (jT (wAa (sFa rfl ?_))))))
     refine sLL rfl ?_
     refine sFa rfl ?_
     refine sSt rfl ?_
     refine wAc (jB (jT (wAa (ja rfl (by omega) ?_))))
     refine jp rfl (wAc ?_)
     have hfk : p.first = xs[k].key := by have := key_eq p.first xs[k].key; rw [decide_eq_true (Classical.not_not.1 (of_decide_eq_false h57))] at this; exact of_decide_eq_true this.symm
     obtain ⟨q, rfl⟩ : ∃ q, o = some q := by
       cases o with
       | none => have := hok0.1 rfl; omega
       | some q => exact ⟨q, rfl⟩
     have hkid2 : 0 < (0 : Int) → ∀ x ∈ xs.take (k + 1), (wGr x.ref lk).isSome = true := fun h0 => absurd h0 (by decide)
     refine wAn (k + 1, Mk, some (wEt p (some q)), lk) (.cons (t := 0) rfl (.cons (t := 3) rfl (.cons (t := 4) rfl (.cons (t := 5) rfl (.cons (t := 12) rfl (.cons (t := 13) rfl (.cons (t := 14) rfl .nil))))))) ⟨by show k + 1 ≤ xs.length; omega, hMk, by simp, ?_, hmik, hextk, hkid2, rfl⟩ (by show xs.length - (k + 1) < xs.length - k; omega) ?_
     ·show wGd _ _ _ = wGd _ (some (wEt p _)) _
      rw [hpe]; exact go_on hk1 hI (by rw [← hpe]; simp [wBv, h50, ← hfk, show wCt q.last p.first = true from h67])
     intro w h
     rw [show (spOf (some q)).is = true from hspi] at h
     refine (h.fewer ?_ : St _ _ _ w)
     exact .cons _ (.cons _ (.refl _))
    refine jp rfl (jp rfl (jp rfl (wAc (jT (wAg rfl (wAb (wAa (sLL rfl ?_))))))))
    refine wAi rfl rfl (wAq (cs := [_, _, _, _, _, _, _, _, _]) rfl rfl rfl (by rfl)) ?_
    refine sSt rfl ?_
    refine wAc (jT (wAf (jTr (jBr (jTr (jTr (jBr (jTr (wBr (rs := [_]) ([(cb, .cells (wGy bv wv (.slice (some ⟨nb, no, none⟩) s.now.length nc) lw pb m rest).toArray TCn (0, 0)), (m, wDh lk)]) (by first | exact .refl _ | exact .cons _ (.refl _) | exact .cons _ (.cons _ (.refl _)) | exact .cons _ (.cons _ (.cons _ (.refl _))) | exact .cons _ (.cons _ (.cons _ (.cons _ (.refl _)))) | exact .cons _ (.cons _ (.cons _ (.cons _ (.cons _ (.refl _))))) | exact .cons_cons _ (.cons_cons _ (List.nil_sublist _))) rfl (.cons (.agg rfl rfl rfl) .nil) ?_)))))))))
    have hb : wEb s 0 xs = wGb := wJc (n := 0) rfl hk1 hI (by first | (rw [← hpe]; simp [wBv, h50]; done) | (rw [← hpe]; simp [wBv, show ¬ p.first = xs[k].key from fun e => of_decide_eq_true h57 (by rw [e])]; done) | (obtain ⟨q, rfl⟩ := Option.ne_none_iff_exists'.1 (fun e => by have := hok0.1 e; omega : o ≠ none); rw [← hpe]; simp [wBv, show wCt q.last p.first = false from h67]))
    exact ⟨lk, rfl, hmik, hextk, by rw [hb]; rfl, fun h => by rw [hb] at h; cases h⟩
   iterate 9 refine jp rfl ?_
   refine wAc (jT (wAk rfl (wAd (jT (wAb (wAb (wAa (jp rfl (js rfl (fun h74 => ?_) (fun h74 => ?_))))))))))
   ·refine wAc (jT (wAg rfl (wAa (sFa rfl ?_))))
    refine sLL rfl ?_
    refine sFa rfl ?_
    refine sSt rfl ?_
    refine wAc (jT (wAa (sFa rfl ?_)))
    refine sLL rfl ?_
    refine sFa rfl ?_
    refine sSt rfl ?_
    refine wAc (jB (jT (wAa (ja rfl (by omega) ?_))))
    refine jp rfl (wAc ?_)
    have hfk : p.first = xs[k].key := by have := key_eq p.first xs[k].key; rw [decide_eq_true (Classical.not_not.1 (of_decide_eq_false h57))] at this; exact of_decide_eq_true this.symm
    obtain rfl : o = none := hok0.2 (by omega)
    have hkid2 : 0 < (0 : Int) → ∀ x ∈ xs.take (k + 1), (wGr x.ref lk).isSome = true := fun h0 => absurd h0 (by decide)
    refine wAn (k + 1, Mk, some (wEt p none), lk) (.cons (t := 0) rfl (.cons (t := 3) rfl (.cons (t := 4) rfl (.cons (t := 5) rfl (.cons (t := 12) rfl (.cons (t := 13) rfl (.cons (t := 14) rfl .nil))))))) ⟨by show k + 1 ≤ xs.length; omega, hMk, by simp, ?_, hmik, hextk, hkid2, rfl⟩ (by show xs.length - (k + 1) < xs.length - k; omega) ?_
    ·show wGd _ _ _ = wGd _ (some (wEt p _)) _
     rw [hpe]; exact go_on hk1 hI (by rw [← hpe]; simp [wBv, h50, hfk])
    intro w h
    refine (h.fewer ?_ : St _ _ _ w)
    exact .cons _ (.cons _ (.refl _))
   exfalso; omega
  iterate 20 refine jp rfl ?_
  refine wAc (jT (wAg rfl (wAb (wAa (sLL rfl ?_)))))
  refine wAi rfl rfl (wAq (cs := [_, _, _, _, _, _, _, _, _]) rfl rfl rfl (by rfl)) ?_
  refine sSt rfl ?_
  refine wAc (jT (wAf (jTr (jBr (jTr (jTr (jBr (jTr (wBr (rs := [_]) ([(cb, .cells (wGy bv wv (.slice (some ⟨nb, no, none⟩) s.now.length nc) lw pb m rest).toArray TCn (0, 0)), (m, wDh lk)]) (by first | exact .refl _ | exact .cons _ (.refl _) | exact .cons _ (.cons _ (.refl _)) | exact .cons _ (.cons _ (.cons _ (.refl _))) | exact .cons _ (.cons _ (.cons _ (.cons _ (.refl _)))) | exact .cons _ (.cons _ (.cons _ (.cons _ (.cons _ (.refl _))))) | exact .cons_cons _ (.cons_cons _ (List.nil_sublist _))) rfl (.cons (.agg rfl rfl rfl) .nil) ?_)))))))))
  have hb : wEb s 0 xs = wGb := wJc (n := 0) rfl hk1 hI (by first | (rw [← hpe]; simp [wBv, h50]; done) | (rw [← hpe]; simp [wBv, show ¬ p.first = xs[k].key from fun e => of_decide_eq_true h57 (by rw [e])]; done) | (obtain ⟨q, rfl⟩ := Option.ne_none_iff_exists'.1 (fun e => by have := hok0.1 e; omega : o ≠ none); rw [← hpe]; simp [wBv, show wCt q.last p.first = false from h67]))
  exact ⟨lk, rfl, hmik, hextk, by rw [hb]; rfl, fun h => by rw [hb] at h; cases h⟩
 refine wAc (jT (wAb (wAk rfl (wAs (jTx (jTx (jBx (jT (wAb (wAa (sLL rfl ?_)))))))))))
 refine sSt rfl ?_
 refine wAc (jT (wAf (wBr (rs := [_]) ([(cb, .cells (wGy bv wv (.slice (some ⟨nb, no, none⟩) s.now.length nc) lw pb m rest).toArray TCn (0, 0)), (m, wDh lk)]) (by first | exact .refl _ | exact .cons _ (.refl _) | exact .cons _ (.cons _ (.refl _)) | exact .cons _ (.cons _ (.cons _ (.refl _))) | exact .cons _ (.cons _ (.cons _ (.cons _ (.refl _)))) | exact .cons _ (.cons _ (.cons _ (.cons _ (.cons _ (.refl _))))) | exact .cons_cons _ (.cons_cons _ (List.nil_sublist _))) rfl (.cons (.agg rfl rfl rfl) .nil) ?_)))
 have hb : wEb s 0 xs = spOf o := rd_end (n := 0) rfl (by omega) hok0 hI
 obtain rfl : k = xs.length := by omega
 exact ⟨lk, rfl, hmik, hextk, by rw [hb]; rfl, fun _ h0 x hx => hkid h0 x (by rw [List.take_length]; exact hx)⟩
set_option maxHeartbeats 4000000 in
theorem read_node (s : Sto) (hst : wDr s) (cb m : Nat) (bv wv nv lw pb : Value) (rest : List Value) (l : Nat) (hl : CenLearn s cb m bv wv nv lw pb rest (l : Int)) (xs : List It) (a : Option Addr) (c : Nat) (ps : List (It × Value)) (M : Mem) (l0 : List (Int × Value)) (hcn : CN M s nv pb) (hmi : MapI M s l0) (hc : xs.length ≤ c) (hs : SM M a (ps.flatMap wCp)) (hp : ps.map (·.1) = xs) (hb : ∀ p ∈ ps, BS M p.2 p.1.val) (hno : NdOk ((l + 1 : Nat) : Int) xs)  :
  SpecL Tryz.prog 91 #[.pointer (some ⟨cb, 0, none⟩), .agg #[.int .i64 ((l + 1 : Nat) : Int), .slice a xs.length c]] M [(cb, .cells (wGy bv wv nv lw pb m rest).toArray TCn (0, 0)), (m, wDh l0)] fun u M' L' => ∃ l', L' = [(cb, .cells (wGy bv wv nv lw pb m rest).toArray TCn (0, 0)), (m, wDh l')] ∧ MapI M' s l' ∧ Ext l0 l' ∧ u = .agg (snc ((l + 1 : Nat) : Int) (.slice a xs.length c) (wEb s ((l + 1 : Nat) : Int) xs)).toArray ∧ ((wEb s ((l + 1 : Nat) : Int) xs).is = true → 0 < ((l + 1 : Nat) : Int) → ∀ x ∈ xs, (wGr x.ref l').isSome = true) := by
 have hlv := hno.lev
 have hlen := hno.len
 obtain ⟨na, nc, rfl, hnc, hns⟩ := id hcn.now
 have hn256 : s.now.length = 256 := hst.2.1.1
 obtain ⟨nb, no, e0, hnx⟩ := hns.open (by intro e; have := congrArg List.length e; rw [wAm, List.length_nil] at this; omega)
 subst e0
 refine wAe (vs := [_, _]) 83 _ Tryz.func91 rfl Tryz.ntmps91 rfl rfl ?_; intro W
 refine wAb (wAa (wAv rfl rfl (wBw (cs := [_, _]) rfl rfl rfl rfl) ?_)); rintro _ _ _ ⟨b3, rfl, rfl, rfl⟩
 refine sAl rfl fun b4 => ?_
 refine wAc (jT (wAb (wAa (sLL rfl ?_))))
 refine wAi rfl rfl (wAq (cs := [_, _, _, _, _, _, _, _, _]) rfl rfl rfl (by rfl)) ?_
 refine sAl rfl fun b5 => ?_
 refine sSt rfl ?_
 refine wAc (jT (wAb (wAb (wAa (sFL rfl rfl ?_)))))
 refine wAi rfl rfl (wBe rfl rfl rfl) ?_
 refine jp rfl (wAc (jT (wAh ?_)))
 refine wAo (α := Nat × Mem × Option Sp × List (Int × Value)) (fun x => [(0, .pointer (some ⟨cb, 0, none⟩)), (3, .pointer (some ⟨b3, 0, none⟩)), (4, .pointer (some ⟨b4, 0, none⟩)), (5, .pointer (some ⟨b5, 0, none⟩)), (12, .slice a xs.length c), (13, .int .i64 xs.length), (14, .int .i64 x.1)]) (fun x => x.2.1) (fun x => [(b5, .cells (snc ((l + 1 : Nat) : Int) (.slice a xs.length c) (spOf x.2.2.1)).toArray TSp (0, 0)), (b4, .cells spnZ.toArray TSp (0, 0)), (b3, .cells [.int .i64 ((l + 1 : Nat) : Int), .slice a xs.length c].toArray TNd (0, 0)), (cb, .cells (wGy bv wv (.slice (some ⟨nb, no, none⟩) s.now.length nc) lw pb m rest).toArray TCn (0, 0)), (m, wDh x.2.2.2)]) (fun x => x.1 ≤ xs.length ∧ MLe M x.2.1 ∧ (x.2.2.1 = none ↔ x.1 = 0) ∧ wGd (wBo s (l + 1)) none xs = wGd (wBo s (l + 1)) x.2.2.1 (xs.drop x.1) ∧ MapI x.2.1 s x.2.2.2 ∧ Ext l0 x.2.2.2 ∧ (0 < ((l + 1 : Nat) : Int) → ∀ y ∈ xs.take x.1, (wGr y.ref x.2.2.2).isSome = true) ∧ (spOf x.2.2.1).is = true) (fun x => xs.length - x.1)
  (0, M, none, l0) (.cons (t := 0) rfl (.cons (t := 3) rfl (.cons (t := 4) rfl (.cons (t := 5) rfl (.cons (t := 12) rfl (.cons (t := 13) rfl (.cons (t := 14) rfl .nil))))))) ⟨Nat.zero_le _, MLe.refl _, by simp, rfl, hmi, Ext.refl _, fun _ y hy => by simp at hy, rfl⟩ (fun _ h => h) ?_
 rintro ⟨k, Mk, o, lk⟩ ⟨hk, hMk, hok0, hI, hmik, hextk, hkid, hspi⟩
 try dsimp only at hk hMk hok0 hI hmik hextk hkid hspi ⊢
 have hcnk := hcn.mono hMk
 have hsk := hs.mono hMk
 have hbk := fun p hp => (hb p hp).mono hMk
 refine wAb (wAa (js rfl (fun h15 => ?_) (fun h15 => ?_)))
 ·refine wAc (jT (wAb (wAg rfl (wAd (jT (wAb (wAh (wAb (wAa (jp rfl ?_))))))))))
  have hk1 : k < xs.length := by omega
  obtain ⟨sb, so, e0, hx⟩ := hsk.open (by intro e; have := congrArg List.length e; rw [wBm wCp 5 wCw, List.length_nil] at this; have h2 := congrArg List.length hp; rw [List.length_map] at h2; omega)
  subst e0
  obtain ⟨va, vc, hcl, hvc, hvs⟩ := wCh hx hp hbk hk1
  have hxr := hno.ref xs[k] (List.getElem_mem hk1)
  refine wAi rfl rfl (wBb rfl rfl rfl rfl (by omega)) ?_
  refine wAi rfl rfl (wGp (cs := itc xs[k] va vc) rfl rfl rfl rfl rfl (fun i v hv => (hcl i v hv).cj _)) ?_
  refine sAl rfl fun b7 => ?_
  refine jp rfl (sSt rfl ?_)
  refine wAc (jT (wAb (wBn [(0, true), (1, true), (2, true), (3, true), (4, true), (5, true), (6, true), (7, true), (8, true), (9, true), (10, true), (11, true), (12, true), (13, true), (14, true), (15, true), (16, true), (17, true), (18, true), (19, true), (20, false), (21, false)] _ (by kernel_rfl) (by kernel_rfl) (by kernel_rfl) rfl (fun _ h => h) ?_)))
  refine dFa rfl rfl ?_
  refine dLL rfl rfl ?_
  refine dFa rfl rfl ?_
  refine dLL rfl rfl ?_
  refine dFa rfl rfl ?_
  refine dLd rfl rfl ?_
  refine ds rfl rfl (fun h25 => ?_) (fun h25 => ?_)
  ·exfalso; exact hno.up (by omega) xs[k] (List.getElem_mem hk1) h25
  iterate 2 refine dp rfl rfl ?_
  refine wBh rfl rfl rfl (wAx rfl rfl rfl) ?_
  refine dFa rfl rfl ?_
  refine dFa rfl rfl ?_
  refine dLd rfl rfl ?_
  refine dFa rfl rfl ?_
  refine dLd rfl rfl ?_
  have hxr2 : 0 ≤ xs[k].ref ∧ xs[k].ref < 256 := by omega
  refine wBh rfl rfl rfl (wBb rfl rfl rfl rfl (by omega)) ?_
  refine wBh rfl rfl rfl (qLd rfl rfl rfl rfl (((hnx _ _ (by rw [Nat.mul_one]; exact wKh (j := xs[k].ref.toNat) (by omega))).mono hMk).cj _)) ?_
  iterate 2 refine dp rfl rfl ?_
  refine wBh rfl rfl rfl (wAq (cs := [_, _, _, _, _, _, _, _, _]) rfl rfl rfl (by rfl)) ?_
  refine wDy rfl rfl rfl (wCx rfl rfl) ?_; rintro _ _ _ ⟨b8, rfl, rfl, rfl⟩
  refine wGa (MLe.refl _) (fun _ h => List.mem_cons_of_mem _ h) (by first | exact MLe.refl _ | assumption) (by simp) ?_
  refine jd_s rfl rfl (wBd rfl rfl rfl rfl rfl rfl rfl rfl) ?_; rintro _ _ _ ⟨rfl, rfl⟩
  refine ⟨_, _, MLe.refl _, MLe.refl _, fun _ h => h, by simp, ?_⟩
  refine wBg (jPn (jT (wAb (wAb (wAa (sFL rfl rfl ?_))))))
  refine jt rfl (decide_eq_true (by omega)) ?_
  refine wAc (jT (wAg rfl (wAa (jp rfl (sFL rfl rfl ?_)))))
  refine sFL rfl rfl ?_
  refine ja rfl (by omega) ?_
  have hup := hno.up (by omega) xs[k] (List.getElem_mem hk1)
  have hcnk2 := hcnk
  refine wAv rfl rfl (wAt rfl rfl rfl rfl rfl (by kernel_rfl) (by have := hl xs[k].ref Mk lk hcnk hmik; rwa [show ((l : Nat) : Int) = ((l + 1 : Nat) : Int) - 1 by omega] at this)) ?_; rintro _ Mn _ ⟨hMn, _, rfl, ⟨l2, rfl, hmi2, hext2, hlr⟩⟩
  simp only [List.cons_append, List.nil_append]
  rw [show ((l + 1 : Nat) : Int) - 1 = (l : Int) by omega] at hlr
  obtain ⟨zl, za, zn, zc, p, rfl, hlr2⟩ := hlr.form
  have hpe : p = wBo s (l + 1) xs[k] := by
   rw [one_lrn (by omega)]
   rcases hlr2 with ⟨h1, h2⟩ | ⟨ys, h1, _, _, h2, _⟩
   ·rw [h1]; exact h2
   rw [h1]; exact h2
  refine sSt rfl ?_
  refine wAc (jT (wAb (wAb (wAa (sFa rfl ?_)))))
  refine wDf rfl rfl (qLd rfl rfl rfl rfl (CJ.loc rfl)) (fun h50 => ?_) (fun h50 => ?_)
  ·refine jp rfl (jp rfl (sFa rfl ?_))
   refine sLL rfl ?_
   refine sFa rfl ?_
   refine sLL rfl ?_
   refine wDf rfl rfl (qNeI (ns := [p.first.kind, p.first.id, p.first.off]) (ms := [xs[k].key.kind, xs[k].key.id, xs[k].key.off]) rfl rfl rfl rfl rfl rfl ⟨rfl, rfl⟩) (fun h57 => ?_) (fun h57 => ?_)
   ·iterate 13 refine jp rfl ?_
    refine wAc (jT (wAg rfl (wAb (wAa (sLL rfl ?_)))))
    refine wAi rfl rfl (wAq (cs := [_, _, _, _, _, _, _, _, _]) rfl rfl rfl (by rfl)) ?_
    refine sSt rfl ?_
    refine wAc (jT (wAf (jTr (jBr (jTr (jTr (jBr (jTr (wBr (rs := [_]) ([(cb, .cells (wGy bv wv (.slice (some ⟨nb, no, none⟩) s.now.length nc) lw pb m rest).toArray TCn (0, 0)), (m, wDh l2)]) (by first | exact .refl _ | exact .cons _ (.refl _) | exact .cons _ (.cons _ (.refl _)) | exact .cons _ (.cons _ (.cons _ (.refl _))) | exact .cons _ (.cons _ (.cons _ (.cons _ (.refl _)))) | exact .cons _ (.cons _ (.cons _ (.cons _ (.cons _ (.refl _))))) | exact .cons_cons _ (.cons_cons _ (List.nil_sublist _))) rfl (.cons (.agg rfl rfl rfl) .nil) ?_)))))))))
    have hb : wEb s ((l + 1 : Nat) : Int) xs = wGb := wJc (n := (l + 1)) (by omega) hk1 hI (by first | (rw [← hpe]; simp [wBv, h50]; done) | (rw [← hpe]; simp [wBv, show ¬ p.first = xs[k].key from fun e => of_decide_eq_true h57 (by rw [e])]; done) | (obtain ⟨q, rfl⟩ := Option.ne_none_iff_exists'.1 (fun e => by have := hok0.1 e; omega : o ≠ none); rw [← hpe]; simp [wBv, show wCt q.last p.first = false from h67]))
    exact ⟨l2, rfl, hmi2, (hextk.trans hext2), by rw [hb]; rfl, fun h => by rw [hb] at h; cases h⟩
   refine jp rfl (jp rfl (jp rfl (js rfl (fun h61 => ?_) (fun h61 => ?_))))
   ·refine jp rfl (sFa rfl ?_)
    refine sLL rfl ?_
    refine sFa rfl ?_
    refine sLL rfl ?_
    refine wDf rfl rfl (wAy rfl rfl rfl rfl rfl (by kernel_rfl) (wHg (spOf o).last p.first _)) (fun h67 => ?_) (fun h67 => ?_)
    ·refine jp rfl (jp rfl (jp rfl (wAc (jT (wAk rfl (wAd (jT (wAb (wAb (wAa (jp rfl (js rfl (fun h74 => ?_) (fun h74 => ?_)))))))))))))
     ·exfalso; omega
     refine wAc (jT (wAk rfl (wAd (jT (wAa (sFa rfl ?_))))))
     refine sLL rfl ?_
     refine sFa rfl ?_
     refine sSt rfl ?_
     refine wAc (jB (jT (wAa (ja rfl (by omega) ?_))))
     refine jp rfl (wAc ?_)
     have hfk : p.first = xs[k].key := by have := key_eq p.first xs[k].key; rw [decide_eq_true (Classical.not_not.1 (of_decide_eq_false h57))] at this; exact of_decide_eq_true this.symm
     obtain ⟨q, rfl⟩ : ∃ q, o = some q := by
       cases o with
       | none => have := hok0.1 rfl; omega
       | some q => exact ⟨q, rfl⟩
     have hkid2 : 0 < ((l + 1 : Nat) : Int) → ∀ x ∈ xs.take (k + 1), (wGr x.ref l2).isSome = true := fun h0 => wEy hk1 (fun x hx => hext2 _ (hkid h0 x hx)) (by
      rcases hlr2 with ⟨_, h2⟩ | ⟨ys, _, _, _, _, h2⟩
      ·rw [h2] at h50; cases h50
      exact h2)
     refine wAn (k + 1, Mn, some (wEt p (some q)), l2) (.cons (t := 0) rfl (.cons (t := 3) rfl (.cons (t := 4) rfl (.cons (t := 5) rfl (.cons (t := 12) rfl (.cons (t := 13) rfl (.cons (t := 14) rfl .nil))))))) ⟨by show k + 1 ≤ xs.length; omega, hMk.trans hMn, by simp, ?_, hmi2, (hextk.trans hext2), hkid2, rfl⟩ (by show xs.length - (k + 1) < xs.length - k; omega) ?_
     ·show wGd _ _ _ = wGd _ (some (wEt p _)) _
      rw [hpe]; exact go_on hk1 hI (by rw [← hpe]; simp [wBv, h50, ← hfk, show wCt q.last p.first = true from h67])
     intro w h
     rw [show (spOf (some q)).is = true from hspi] at h
     refine ((h.perm (List.perm_append_comm (l₁ := [_, _]) (l₂ := [_, _, _, _, _]))).fewer ?_ : St _ _ _ w)
     exact .cons _ (.cons _ (.refl _))
    refine jp rfl (jp rfl (jp rfl (wAc (jT (wAg rfl (wAb (wAa (sLL rfl ?_))))))))
    refine wAi rfl rfl (wAq (cs := [_, _, _, _, _, _, _, _, _]) rfl rfl rfl (by rfl)) ?_
    refine sSt rfl ?_
    refine wAc (jT (wAf (jTr (jBr (jTr (jTr (jBr (jTr (wBr (rs := [_]) ([(cb, .cells (wGy bv wv (.slice (some ⟨nb, no, none⟩) s.now.length nc) lw pb m rest).toArray TCn (0, 0)), (m, wDh l2)]) (by first | exact .refl _ | exact .cons _ (.refl _) | exact .cons _ (.cons _ (.refl _)) | exact .cons _ (.cons _ (.cons _ (.refl _))) | exact .cons _ (.cons _ (.cons _ (.cons _ (.refl _)))) | exact .cons _ (.cons _ (.cons _ (.cons _ (.cons _ (.refl _))))) | exact .cons_cons _ (.cons_cons _ (List.nil_sublist _))) rfl (.cons (.agg rfl rfl rfl) .nil) ?_)))))))))
    have hb : wEb s ((l + 1 : Nat) : Int) xs = wGb := wJc (n := (l + 1)) (by omega) hk1 hI (by first | (rw [← hpe]; simp [wBv, h50]; done) | (rw [← hpe]; simp [wBv, show ¬ p.first = xs[k].key from fun e => of_decide_eq_true h57 (by rw [e])]; done) | (obtain ⟨q, rfl⟩ := Option.ne_none_iff_exists'.1 (fun e => by have := hok0.1 e; omega : o ≠ none); rw [← hpe]; simp [wBv, show wCt q.last p.first = false from h67]))
    exact ⟨l2, rfl, hmi2, (hextk.trans hext2), by rw [hb]; rfl, fun h => by rw [hb] at h; cases h⟩
   iterate 9 refine jp rfl ?_
   refine wAc (jT (wAk rfl (wAd (jT (wAb (wAb (wAa (jp rfl (js rfl (fun h74 => ?_) (fun h74 => ?_))))))))))
   ·refine wAc (jT (wAg rfl (wAa (sFa rfl ?_))))
    refine sLL rfl ?_
    refine sFa rfl ?_
    refine sSt rfl ?_
    refine wAc (jT (wAa (sFa rfl ?_)))
    refine sLL rfl ?_
    refine sFa rfl ?_
    refine sSt rfl ?_
    refine wAc (jB (jT (wAa (ja rfl (by omega) ?_))))
    refine jp rfl (wAc ?_)
    have hfk : p.first = xs[k].key := by have := key_eq p.first xs[k].key; rw [decide_eq_true (Classical.not_not.1 (of_decide_eq_false h57))] at this; exact of_decide_eq_true this.symm
    obtain rfl : o = none := hok0.2 (by omega)
    have hkid2 : 0 < ((l + 1 : Nat) : Int) → ∀ x ∈ xs.take (k + 1), (wGr x.ref l2).isSome = true := fun h0 => wEy hk1 (fun x hx => hext2 _ (hkid h0 x hx)) (by
     rcases hlr2 with ⟨_, h2⟩ | ⟨ys, _, _, _, _, h2⟩
     ·rw [h2] at h50; cases h50
     exact h2)
    refine wAn (k + 1, Mn, some (wEt p none), l2) (.cons (t := 0) rfl (.cons (t := 3) rfl (.cons (t := 4) rfl (.cons (t := 5) rfl (.cons (t := 12) rfl (.cons (t := 13) rfl (.cons (t := 14) rfl .nil))))))) ⟨by show k + 1 ≤ xs.length; omega, hMk.trans hMn, by simp, ?_, hmi2, (hextk.trans hext2), hkid2, rfl⟩ (by show xs.length - (k + 1) < xs.length - k; omega) ?_
    ·show wGd _ _ _ = wGd _ (some (wEt p _)) _
     rw [hpe]; exact go_on hk1 hI (by rw [← hpe]; simp [wBv, h50, hfk])
    intro w h
    refine ((h.perm (List.perm_append_comm (l₁ := [_, _]) (l₂ := [_, _, _, _, _]))).fewer ?_ : St _ _ _ w)
    exact .cons _ (.cons _ (.refl _))
   exfalso; omega
  iterate 20 refine jp rfl ?_
  refine wAc (jT (wAg rfl (wAb (wAa (sLL rfl ?_)))))
  refine wAi rfl rfl (wAq (cs := [_, _, _, _, _, _, _, _, _]) rfl rfl rfl (by rfl)) ?_
  refine sSt rfl ?_
  refine wAc (jT (wAf (jTr (jBr (jTr (jTr (jBr (jTr (wBr (rs := [_]) ([(cb, .cells (wGy bv wv (.slice (some ⟨nb, no, none⟩) s.now.length nc) lw pb m rest).toArray TCn (0, 0)), (m, wDh l2)]) (by first | exact .refl _ | exact .cons _ (.refl _) | exact .cons _ (.cons _ (.refl _)) | exact .cons _ (.cons _ (.cons _ (.refl _))) | exact .cons _ (.cons _ (.cons _ (.cons _ (.refl _)))) | exact .cons _ (.cons _ (.cons _ (.cons _ (.cons _ (.refl _))))) | exact .cons_cons _ (.cons_cons _ (List.nil_sublist _))) rfl (.cons (.agg rfl rfl rfl) .nil) ?_)))))))))
  have hb : wEb s ((l + 1 : Nat) : Int) xs = wGb := wJc (n := (l + 1)) (by omega) hk1 hI (by first | (rw [← hpe]; simp [wBv, h50]; done) | (rw [← hpe]; simp [wBv, show ¬ p.first = xs[k].key from fun e => of_decide_eq_true h57 (by rw [e])]; done) | (obtain ⟨q, rfl⟩ := Option.ne_none_iff_exists'.1 (fun e => by have := hok0.1 e; omega : o ≠ none); rw [← hpe]; simp [wBv, show wCt q.last p.first = false from h67]))
  exact ⟨l2, rfl, hmi2, (hextk.trans hext2), by rw [hb]; rfl, fun h => by rw [hb] at h; cases h⟩
 refine wAc (jT (wAb (wAk rfl (wAs (jTx (jTx (jBx (jT (wAb (wAa (sLL rfl ?_)))))))))))
 refine sSt rfl ?_
 refine wAc (jT (wAf (wBr (rs := [_]) ([(cb, .cells (wGy bv wv (.slice (some ⟨nb, no, none⟩) s.now.length nc) lw pb m rest).toArray TCn (0, 0)), (m, wDh lk)]) (by first | exact .refl _ | exact .cons _ (.refl _) | exact .cons _ (.cons _ (.refl _)) | exact .cons _ (.cons _ (.cons _ (.refl _))) | exact .cons _ (.cons _ (.cons _ (.cons _ (.refl _)))) | exact .cons _ (.cons _ (.cons _ (.cons _ (.cons _ (.refl _))))) | exact .cons_cons _ (.cons_cons _ (List.nil_sublist _))) rfl (.cons (.agg rfl rfl rfl) .nil) ?_)))
 have hb : wEb s ((l + 1 : Nat) : Int) xs = spOf o := rd_end (n := (l + 1)) (by omega) (by omega) hok0 hI
 obtain rfl : k = xs.length := by omega
 exact ⟨lk, rfl, hmik, hextk, by rw [hb]; rfl, fun _ h0 x hx => hkid h0 x (by rw [List.take_length]; exact hx)⟩
theorem cen_leaf (s : Sto) (hst : wDr s) (cb m : Nat) (bv wv nv lw pb : Value) (rest : List Value) : CenRead s cb m bv wv nv lw pb rest 0 := fun xs sl M l hcn hmi hsl hno => by
 obtain ⟨a, c, ps, rfl, hc, hs, hp, hb⟩ := hsl
 exact read_leaf s hst cb m bv wv nv lw pb rest xs a c ps M l hcn hmi hc hs hp hb hno
theorem cen_node (s : Sto) (hst : wDr s) (cb m : Nat) (bv wv nv lw pb : Value) (rest : List Value) (l : Nat) (hl : CenLearn s cb m bv wv nv lw pb rest (l : Int)) : CenRead s cb m bv wv nv lw pb rest ((l + 1 : Nat) : Int) := fun xs sl M l0 hcn hmi hsl hno => by
 obtain ⟨a, c, ps, rfl, hc, hs, hp, hb⟩ := hsl
 exact read_node s hst cb m bv wv nv lw pb rest l hl xs a c ps M l0 hcn hmi hc hs hp hb hno
set_option maxHeartbeats 2000000 in
theorem learn_walk (s : Sto) (hst : wDr s) (cb m : Nat) (bv wv nv lw pb : Value) (rest : List Value) (level : Int) (hrd : ∀ lv : Int, (0 ≤ level → lv = level) → CenRead s cb m bv wv nv lw pb rest lv) (k : Int) (M : Mem) (l : List (Int × Value)) (hcn : CN M s nv pb) (hmi : MapI M s l) :
  SpecL Tryz.prog 67 #[.pointer (some ⟨cb, 0, none⟩), .int .i64 k, .int .i64 level] M [(cb, .cells (wGy bv wv nv lw pb m rest).toArray TCn (0, 0)), (m, wDh l)] fun u M' L' => ∃ l', L' = [(cb, .cells (wGy bv wv nv lw pb m rest).toArray TCn (0, 0)), (m, wDh l')] ∧ MapI M' s l' ∧ Ext l l' ∧ LrP s k level u M' l' := by
 refine wAe (vs := [_, _, _]) 77 _ Tryz.func67 rfl Tryz.ntmps67 rfl rfl ?_; intro W
 refine wAb (wAa (sAl rfl fun b6 => ?_))
 refine wAc (jT (wAb (wAb (wAa (jp rfl (js rfl (fun h11 => ?_) (fun h11 => ?_)))))))
 ·refine jp rfl (jp rfl (jp rfl (jp rfl (wAc (jT (wAg rfl (wAb (wAa (wAi rfl rfl (wAq (cs := [_, _, _, _, _, _, _, _, _]) rfl rfl rfl (by rfl)) ?_)))))))))
  refine sSt rfl ?_
  refine wAc (jT (wAf (jTr (wBr (rs := [_]) ([(cb, .cells (wGy bv wv nv lw pb m rest).toArray TCn (0, 0)), (m, wDh l)]) (by first | exact .refl _ | exact .cons _ (.refl _) | exact .cons _ (.cons _ (.refl _)) | exact .cons _ (.cons _ (.cons _ (.refl _))) | exact .cons _ (.cons _ (.cons _ (.cons _ (.refl _)))) | exact .cons _ (.cons _ (.cons _ (.cons _ (.cons _ (.refl _))))) | exact .cons_cons _ (.cons_cons _ (List.nil_sublist _))) rfl (.cons (.agg rfl rfl rfl) .nil) ?_))))
  exact ⟨l, rfl, hmi, Ext.refl _, by unfold LrP; rw [lrn_out (by omega)]; rfl⟩
 refine jp rfl (jp rfl (js rfl (fun h14 => ?_) (fun h14 => ?_)))
 ·refine jp rfl (wAc (jT (wAg rfl (wAb (wAa (wAi rfl rfl (wAq (cs := [_, _, _, _, _, _, _, _, _]) rfl rfl rfl (by rfl)) ?_))))))
  refine sSt rfl ?_
  refine wAc (jT (wAf (jTr (wBr (rs := [_]) ([(cb, .cells (wGy bv wv nv lw pb m rest).toArray TCn (0, 0)), (m, wDh l)]) (by first | exact .refl _ | exact .cons _ (.refl _) | exact .cons _ (.cons _ (.refl _)) | exact .cons _ (.cons _ (.cons _ (.refl _))) | exact .cons _ (.cons _ (.cons _ (.cons _ (.refl _)))) | exact .cons _ (.cons _ (.cons _ (.cons _ (.cons _ (.refl _))))) | exact .cons_cons _ (.cons_cons _ (List.nil_sublist _))) rfl (.cons (.agg rfl rfl rfl) .nil) ?_))))
  exact ⟨l, rfl, hmi, Ext.refl _, by unfold LrP; rw [lrn_out (by omega)]; rfl⟩
 refine jp rfl (wAc (jT (wAk rfl (wAd (jT (wAb (wAa (jp rfl (wAi rfl rfl (wAx rfl rfl rfl) ?_)))))))))
 refine sFL rfl rfl ?_
 refine jp rfl (wAi rfl rfl (qLookupOk (z := .agg spnZ.toArray) rfl rfl rfl rfl (by kernel_rfl)) ?_)
 refine jp rfl (jp rfl (jsb rfl (fun h25 => ?_) (fun h25 => ?_)))
 ·obtain ⟨v, hv⟩ := Option.isSome_iff_exists.1 h25
  obtain ⟨hk8, hk256, lv, xs, sl, hnd, hsl, rfl⟩ := hmi.ent k v hv
  obtain ⟨a, c, ps, rfl, _⟩ := id hsl
  rw [hv]
  refine sSt rfl ?_
  refine jp rfl (wAc (jT (wAb (wAb (wAa (jp rfl (jp rfl (wAc (jT (wAk rfl (wAd (jT (wAb (wAb (wAa (jp rfl (js rfl (fun h60 => ?_) (fun h60 => ?_))))))))))))))))))
  ·refine jp rfl (sFa rfl ?_)
   refine sFL rfl rfl ?_
   refine jp rfl (js rfl (fun h66 => ?_) (fun h66 => ?_))
   ·iterate 8 refine jp rfl ?_
    refine wAc (jT (wAg rfl (wAb (wAa (wAi rfl rfl (wAq (cs := [_, _, _, _, _, _, _, _, _]) rfl rfl rfl (by rfl)) ?_)))))
    refine sSt rfl ?_
    refine wAc (jT (wAf (jTr (wBr (rs := [_]) ([(cb, .cells (wGy bv wv nv lw pb m rest).toArray TCn (0, 0)), (m, wDh l)]) (by first | exact .refl _ | exact .cons _ (.refl _) | exact .cons _ (.cons _ (.refl _)) | exact .cons _ (.cons _ (.cons _ (.refl _))) | exact .cons _ (.cons _ (.cons _ (.cons _ (.refl _)))) | exact .cons _ (.cons _ (.cons _ (.cons _ (.cons _ (.refl _))))) | exact .cons_cons _ (.cons_cons _ (List.nil_sublist _))) rfl (.cons (.agg rfl rfl rfl) .nil) ?_))))
    exact ⟨l, rfl, hmi, Ext.refl _, by unfold LrP; rw [wGq hnd ⟨h60, .inl h66⟩]; rfl⟩
   refine jp rfl (sFa rfl ?_)
   refine sFL rfl rfl ?_
   refine wAi rfl rfl (wBe rfl rfl rfl) ?_
   refine js rfl (fun h72 => ?_) (fun h72 => ?_)
   ·refine jp rfl (jp rfl (wAc (jT (wAg rfl (wAb (wAa (wAi rfl rfl (wAq (cs := [_, _, _, _, _, _, _, _, _]) rfl rfl rfl (by rfl)) ?_)))))))
    refine sSt rfl ?_
    refine wAc (jT (wAf (jTr (wBr (rs := [_]) ([(cb, .cells (wGy bv wv nv lw pb m rest).toArray TCn (0, 0)), (m, wDh l)]) (by first | exact .refl _ | exact .cons _ (.refl _) | exact .cons _ (.cons _ (.refl _)) | exact .cons _ (.cons _ (.cons _ (.refl _))) | exact .cons _ (.cons _ (.cons _ (.cons _ (.refl _)))) | exact .cons _ (.cons _ (.cons _ (.cons _ (.cons _ (.refl _))))) | exact .cons_cons _ (.cons_cons _ (List.nil_sublist _))) rfl (.cons (.agg rfl rfl rfl) .nil) ?_))))
    exact ⟨l, rfl, hmi, Ext.refl _, by unfold LrP; rw [wGq hnd ⟨h60, .inr (List.eq_nil_of_length_eq_zero (by omega))⟩]; rfl⟩
   refine jp rfl (jp rfl (wAc (jT (wAk rfl (wAd (jT (wAb (wAa (sLL rfl ?_)))))))))
   refine sSt rfl ?_
   refine wAc (jT (wAf (wBr (rs := [_]) ([(cb, .cells (wGy bv wv nv lw pb m rest).toArray TCn (0, 0)), (m, wDh l)]) (by first | exact .refl _ | exact .cons _ (.refl _) | exact .cons _ (.cons _ (.refl _)) | exact .cons _ (.cons _ (.cons _ (.refl _))) | exact .cons _ (.cons _ (.cons _ (.cons _ (.refl _)))) | exact .cons _ (.cons _ (.cons _ (.cons _ (.cons _ (.refl _))))) | exact .cons_cons _ (.cons_cons _ (List.nil_sublist _))) rfl (.cons (.agg rfl rfl rfl) .nil) ?_)))
   exact ⟨l, rfl, hmi, Ext.refl _, by unfold LrP; rw [wHt ⟨hk8, hk256⟩ hnd (fun h => h.2.elim (fun e => h66 e) (fun e => h72 (by rw [e]; rfl)))]; exact ⟨_, hsl, rfl, h25⟩⟩
  iterate 14 refine jp rfl ?_
  refine wAc (jT (wAk rfl (wAd (jT (wAb (wAa (sLL rfl ?_)))))))
  refine sSt rfl ?_
  refine wAc (jT (wAf (wBr (rs := [_]) ([(cb, .cells (wGy bv wv nv lw pb m rest).toArray TCn (0, 0)), (m, wDh l)]) (by first | exact .refl _ | exact .cons _ (.refl _) | exact .cons _ (.cons _ (.refl _)) | exact .cons _ (.cons _ (.cons _ (.refl _))) | exact .cons _ (.cons _ (.cons _ (.cons _ (.refl _)))) | exact .cons _ (.cons _ (.cons _ (.cons _ (.cons _ (.refl _))))) | exact .cons_cons _ (.cons_cons _ (List.nil_sublist _))) rfl (.cons (.agg rfl rfl rfl) .nil) ?_)))
  exact ⟨l, rfl, hmi, Ext.refl _, by unfold LrP; rw [wHt ⟨hk8, hk256⟩ hnd (fun h => h60 h.1)]; exact ⟨_, hsl, rfl, h25⟩⟩
 have hv : wGr k l = none := Option.not_isSome_iff_eq_none.1 (by rw [h25]; decide)
 rw [hv]
 refine sSt rfl ?_
 refine jp rfl (wAc (jT (wAb (wAb (wAa (jp rfl (jp rfl (wAc (jT (wAg rfl (wAb (wAa (jp rfl (wAi rfl rfl (wAx rfl rfl rfl) ?_))))))))))))))
 refine sFL rfl rfl ?_
 refine jp rfl ?_
 obtain ⟨kn, rfl⟩ : ∃ n : Nat, k = (n : Int) := ⟨k.toNat, by omega⟩
 have hbpn := hcn.bn
 refine wAv rfl rfl (wAt rfl rfl rfl rfl rfl (by kernel_rfl) (bnode_spec s kn pb M hst (by omega) hcn.bn)) ?_; rintro _ M1 _ ⟨hM1, _, rfl, ⟨hbn, rfl⟩⟩
 simp only [nA]
 obtain ⟨nl, ya, yn, yc, e, rfl, hbn2⟩ := BnPost.form hbn
 refine jp rfl (jp rfl (jp rfl (sAl rfl fun b8 => ?_)))
 refine sSt rfl ?_
 refine jp rfl (wAc (jT (wAb (wAb (wAa (jp rfl (js rfl (fun h38 => ?_) (fun h38 => ?_))))))))
 ·iterate 10 refine jp rfl ?_
  refine wAc (jT (wAg rfl (wAb (wAa (wAi rfl rfl (wAq (cs := [_, _, _, _, _, _, _, _, _]) rfl rfl rfl (by rfl)) ?_)))))
  refine sSt rfl ?_
  refine wAc (jT (wAf (jTr (jTr (wBr (rs := [_]) ([(cb, .cells (wGy bv wv nv lw pb m rest).toArray TCn (0, 0)), (m, wDh l)]) (by first | exact .refl _ | exact .cons _ (.refl _) | exact .cons _ (.cons _ (.refl _)) | exact .cons _ (.cons _ (.cons _ (.refl _))) | exact .cons _ (.cons _ (.cons _ (.cons _ (.refl _)))) | exact .cons _ (.cons _ (.cons _ (.cons _ (.cons _ (.refl _))))) | exact .cons_cons _ (.cons_cons _ (List.nil_sublist _))) rfl (.cons (.agg rfl rfl rfl) .nil) ?_)))))
  obtain ⟨_, hnd⟩ | ⟨he, _⟩ := hbn2
  ·exact ⟨l, rfl, hmi.mono hM1, Ext.refl _, by unfold LrP; rw [lrn_none (show wCu s ((kn : Int)).toNat = none from hnd)]; rfl⟩
  omega
 refine jp rfl (jp rfl (js rfl (fun h41 => ?_) (fun h41 => ?_)))
 ·refine jp rfl (sFL rfl rfl ?_)
  refine jp rfl (js rfl (fun h46 => ?_) (fun h46 => ?_))
  ·refine jp rfl (jp rfl (wAc (jT (wAg rfl (wAb (wAa (wAi rfl rfl (wAq (cs := [_, _, _, _, _, _, _, _, _]) rfl rfl rfl (by rfl)) ?_)))))))
   refine sSt rfl ?_
   refine wAc (jT (wAf (jTr (jTr (wBr (rs := [_]) ([(cb, .cells (wGy bv wv nv lw pb m rest).toArray TCn (0, 0)), (m, wDh l)]) (by first | exact .refl _ | exact .cons _ (.refl _) | exact .cons _ (.cons _ (.refl _)) | exact .cons _ (.cons _ (.cons _ (.refl _))) | exact .cons _ (.cons _ (.cons _ (.cons _ (.refl _)))) | exact .cons _ (.cons _ (.cons _ (.cons _ (.cons _ (.refl _))))) | exact .cons_cons _ (.cons_cons _ (List.nil_sublist _))) rfl (.cons (.agg rfl rfl rfl) .nil) ?_)))))
   obtain ⟨he, _⟩ | ⟨_, ys, hnd, _, _⟩ := hbn2
   ·omega
   exact ⟨l, rfl, hmi.mono hM1, Ext.refl _, by unfold LrP; rw [wGq (show wCu s ((kn : Int)).toNat = _ from hnd) ⟨h41, .inl h46⟩]; rfl⟩
  refine jp rfl (jp rfl (wAc (jT (wAk rfl (wAd (jT (wAb (wAa (jp rfl (sLL rfl ?_))))))))))
  obtain ⟨_, hnd⟩ | ⟨rfl, ys, hnd, rfl, hys⟩ := hbn2
  ·omega
  have hno := wBy hnd
  refine wAv rfl rfl (wAt rfl rfl rfl rfl rfl (by kernel_rfl) (hrd nl (by intro h; omega) ys _ M1 l (hcn.mono hM1) (hmi.mono hM1) hys hno)) ?_; rintro _ M2 _ ⟨hM2, _, rfl, ⟨l2, rfl, hmi2, hext2, rfl, hkd⟩⟩
  simp only [List.cons_append, List.nil_append]
  have hput := hmi2.put (k := (kn : Int)) ⟨by omega, by omega⟩ hnd (hys.mono hM2) hkd
  refine sSt rfl ?_
  refine wAc (jT (wBn [(0, true), (1, true), (2, true), (3, true), (4, true), (5, true), (6, false)] [(b6, .cells (snc nl (.slice ya ys.length yc) (wEb s nl ys)).toArray TSp (0, 0)), (cb, .cells (wGy bv wv nv lw pb m rest).toArray TCn (0, 0))] (by kernel_rfl) (by kernel_rfl) (by kernel_rfl) rfl (by simp) ?_))
  refine dp rfl rfl ?_
  refine wBh rfl rfl rfl (wAx rfl rfl rfl) ?_
  refine dFa rfl rfl ?_
  refine dLd rfl rfl ?_
  refine dp rfl rfl ?_
  refine dLL rfl rfl ?_
  refine jd_s rfl rfl (hMapPutV rfl (.inl rfl) rfl rfl rfl) ?_; rintro _ _ _ ⟨rfl, rfl⟩
  refine ⟨_, _, MLe.refl _, MLe.refl _, fun _ h => h, by simp, ?_⟩
  refine wBg (jPn (jT (wAb (wAb (wAa (jp rfl (js rfl (fun h60 => ?_) (fun h60 => ?_))))))))
  ·refine jp rfl (sFa rfl ?_)
   refine sFL rfl rfl ?_
   refine jp rfl (js rfl (fun h66 => ?_) (fun h66 => ?_))
   ·exfalso; omega
   refine jp rfl (sFa rfl ?_)
   refine sFL rfl rfl ?_
   refine wAi rfl rfl (wBe rfl rfl rfl) ?_
   refine js rfl (fun h72 => ?_) (fun h72 => ?_)
   ·refine jp rfl (jp rfl (wAc (jT (wAg rfl (wAb (wAa (wAi rfl rfl (wAq (cs := [_, _, _, _, _, _, _, _, _]) rfl rfl rfl (by rfl)) ?_)))))))
    refine sSt rfl ?_
    refine wAc (jT (wAf (jTr (wBr (rs := [_]) ([(cb, .cells (wGy bv wv nv lw pb m rest).toArray TCn (0, 0)), (m, wDh (putV (kn : Int) (.agg (snc nl (.slice ya ys.length yc) (wEb s nl ys)).toArray) l2))]) (by first | exact .refl _ | exact .cons _ (.refl _) | exact .cons _ (.cons _ (.refl _)) | exact .cons _ (.cons _ (.cons _ (.refl _))) | exact .cons _ (.cons _ (.cons _ (.cons _ (.refl _)))) | exact .cons _ (.cons _ (.cons _ (.cons _ (.cons _ (.refl _))))) | exact .cons_cons _ (.cons_cons _ (List.nil_sublist _))) rfl (.cons (.agg rfl rfl rfl) .nil) ?_))))
    exact ⟨_, rfl, hput, (hext2.trans ext_put), by unfold LrP; rw [wGq (show wCu s ((kn : Int)).toNat = _ from hnd) ⟨h41, .inr (List.eq_nil_of_length_eq_zero (by omega))⟩]; rfl⟩
   refine jp rfl (jp rfl (wAc (jT (wAk rfl (wAd (jT (wAb (wAa (sLL rfl ?_)))))))))
   refine sSt rfl ?_
   refine wAc (jT (wAf (wBr (rs := [_]) ([(cb, .cells (wGy bv wv nv lw pb m rest).toArray TCn (0, 0)), (m, wDh (putV (kn : Int) (.agg (snc nl (.slice ya ys.length yc) (wEb s nl ys)).toArray) l2))]) (by first | exact .refl _ | exact .cons _ (.refl _) | exact .cons _ (.cons _ (.refl _)) | exact .cons _ (.cons _ (.cons _ (.refl _))) | exact .cons _ (.cons _ (.cons _ (.cons _ (.refl _)))) | exact .cons _ (.cons _ (.cons _ (.cons _ (.cons _ (.refl _))))) | exact .cons_cons _ (.cons_cons _ (List.nil_sublist _))) rfl (.cons (.agg rfl rfl rfl) .nil) ?_)))
   exact ⟨_, rfl, hput, (hext2.trans ext_put), by unfold LrP; rw [wHt ⟨by omega, by omega⟩ (show wCu s ((kn : Int)).toNat = _ from hnd) (fun h => h.2.elim (fun e => h66 e) (fun e => h72 (by rw [e]; rfl)))]; exact ⟨_, hys.mono hM2, rfl, by rw [wHv, if_pos rfl]; rfl⟩⟩
  exfalso; omega
 iterate 7 refine jp rfl ?_
 refine wAc (jT (wAk rfl (wAd (jT (wAb (wAa (jp rfl (sLL rfl ?_))))))))
 obtain ⟨_, hnd⟩ | ⟨rfl, ys, hnd, rfl, hys⟩ := hbn2
 ·omega
 have hno := wBy hnd
 refine wAv rfl rfl (wAt rfl rfl rfl rfl rfl (by kernel_rfl) (hrd nl (by intro h; omega) ys _ M1 l (hcn.mono hM1) (hmi.mono hM1) hys hno)) ?_; rintro _ M2 _ ⟨hM2, _, rfl, ⟨l2, rfl, hmi2, hext2, rfl, hkd⟩⟩
 simp only [List.cons_append, List.nil_append]
 have hput := hmi2.put (k := (kn : Int)) ⟨by omega, by omega⟩ hnd (hys.mono hM2) hkd
 refine sSt rfl ?_
 refine wAc (jT (wBn [(0, true), (1, true), (2, true), (3, true), (4, true), (5, true), (6, false)] [(b6, .cells (snc nl (.slice ya ys.length yc) (wEb s nl ys)).toArray TSp (0, 0)), (cb, .cells (wGy bv wv nv lw pb m rest).toArray TCn (0, 0))] (by kernel_rfl) (by kernel_rfl) (by kernel_rfl) rfl (by simp) ?_))
 refine dp rfl rfl ?_
 refine wBh rfl rfl rfl (wAx rfl rfl rfl) ?_
 refine dFa rfl rfl ?_
 refine dLd rfl rfl ?_
 refine dp rfl rfl ?_
 refine dLL rfl rfl ?_
 refine jd_s rfl rfl (hMapPutV rfl (.inl rfl) rfl rfl rfl) ?_; rintro _ _ _ ⟨rfl, rfl⟩
 refine ⟨_, _, MLe.refl _, MLe.refl _, fun _ h => h, by simp, ?_⟩
 refine wBg (jPn (jT (wAb (wAb (wAa (jp rfl (js rfl (fun h60 => ?_) (fun h60 => ?_))))))))
 ·exfalso; omega
 iterate 14 refine jp rfl ?_
 refine wAc (jT (wAk rfl (wAd (jT (wAb (wAa (sLL rfl ?_)))))))
 refine sSt rfl ?_
 refine wAc (jT (wAf (wBr (rs := [_]) ([(cb, .cells (wGy bv wv nv lw pb m rest).toArray TCn (0, 0)), (m, wDh (putV (kn : Int) (.agg (snc nl (.slice ya ys.length yc) (wEb s nl ys)).toArray) l2))]) (by first | exact .refl _ | exact .cons _ (.refl _) | exact .cons _ (.cons _ (.refl _)) | exact .cons _ (.cons _ (.cons _ (.refl _))) | exact .cons _ (.cons _ (.cons _ (.cons _ (.refl _)))) | exact .cons _ (.cons _ (.cons _ (.cons _ (.cons _ (.refl _))))) | exact .cons_cons _ (.cons_cons _ (List.nil_sublist _))) rfl (.cons (.agg rfl rfl rfl) .nil) ?_)))
 exact ⟨_, rfl, hput, (hext2.trans ext_put), by unfold LrP; rw [wHt ⟨by omega, by omega⟩ (show wCu s ((kn : Int)).toNat = _ from hnd) (fun h => h41 h.1)]; exact ⟨_, hys.mono hM2, rfl, by rw [wHv, if_pos rfl]; rfl⟩⟩
theorem cen_learn (s : Sto) (hst : wDr s) (cb m : Nat) (bv wv nv lw pb : Value) (rest : List Value) (level : Int) (hrd : ∀ lv : Int, (0 ≤ level → lv = level) → 0 ≤ lv → CenRead s cb m bv wv nv lw pb rest lv) : CenLearn s cb m bv wv nv lw pb rest level := fun k M l hcn hmi =>
 learn_walk s hst cb m bv wv nv lw pb rest level (fun lv h xs sl M l h1 h2 h3 h4 => hrd lv h h4.lev.1 xs sl M l h1 h2 h3 h4) k M l hcn hmi
theorem cen_read (s : Sto) (hst : wDr s) (cb m : Nat) (bv wv nv lw pb : Value) (rest : List Value) : ∀ l : Nat, CenRead s cb m bv wv nv lw pb rest (l : Int)
 | 0 => cen_leaf s hst cb m bv wv nv lw pb rest
 | l + 1 => cen_node s hst cb m bv wv nv lw pb rest l (cen_learn s hst cb m bv wv nv lw pb rest (l : Int) fun lv h _ => by rw [h (by omega)]; exact cen_read s hst cb m bv wv nv lw pb rest l)
theorem learn_spec (s : Sto) (hst : wDr s) (cb m : Nat) (bv wv nv lw pb : Value) (rest : List Value) (level : Int) : CenLearn s cb m bv wv nv lw pb rest level :=
 cen_learn s hst cb m bv wv nv lw pb rest level fun lv _ h => by
  obtain ⟨n, rfl⟩ : ∃ n : Nat, lv = n := ⟨lv.toNat, by omega⟩
  exact cen_read s hst cb m bv wv nv lw pb rest n
end Go.Proofs.YtbhkdjheooknfaaGreat
