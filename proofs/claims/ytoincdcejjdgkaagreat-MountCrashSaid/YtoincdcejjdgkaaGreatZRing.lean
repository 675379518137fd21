/- Walks: superblocks written. -/
import Derived.Test.YtoincdcejjdgkaaGreatZTre
import Derived.Test.YtoincdcejjdgkaaGreatZCnt
namespace Go.Proofs.YtoincdcejjdgkaaGreat
set_option linter.unusedSimpArgs false
set_option linter.unusedVariables false
open Go.RowKit
abbrev TPo : TypeId := 32
def zI : List Int := List.replicate 256 0
def wFb (s : Sto) : List Int → List Int → List Int → Option (List Int × List Int)
 | [], refs, nodes => some (refs, nodes)
 | r :: rs, refs, nodes => if rtOk s r = true then wFb s rs (wEg s F0 [r] (inc refs r.toNat) nodes).1 (wEg s F0 [r] (inc refs r.toNat) nodes).2 else none
def enough (s : Sto) (refs : List Int) : Prop := ∀ i, i < 256 → refs.getD i 0 ≤ ((s.now.getD i 0).toNat : Int)
instance (s : Sto) (refs : List Int) : Decidable (enough s refs) := by unfold enough; exact inferInstance
def wKo (root : Int) (dead : List Int) (vs : List Vo) : List Int := (root :: dead) ++ vs.map (·.root)
def cens (s : Sto) (root next : Int) (dead : List Int) : Option (List Vo × List Int × List Int) :=
 if wCp s ∧ dead.length ≤ 40 ∧ rtOk s root = true then match lrn s root (-1) with
  | none => none
  | some (lv, xs) => match wEr s next lv.toNat xs [] with
   | none => none
   | some vs => match wFb s (wKo root dead vs) zI zI with
    | none => none
    | some (refs, nodes) => if enough s refs then some (vs, refs, nodes) else none
 else none
theorem cens_no {s : Sto} {root next : Int} {dead : List Int} (h : ¬ (wCp s ∧ dead.length ≤ 40 ∧ rtOk s root = true)) : cens s root next dead = none := by unfold cens; rw [if_neg h]
theorem cens_vols {s : Sto} {root next lv : Int} {dead : List Int} {xs : List It} (h : wCp s ∧ dead.length ≤ 40 ∧ rtOk s root = true) (h1 : lrn s root (-1) = some (lv, xs)) (h2 : wEr s next lv.toNat xs [] = none) : cens s root next dead = none := by
 unfold cens; rw [if_pos h, h1]; simp only []; rw [h2]
theorem cens_trees {s : Sto} {root next lv : Int} {dead : List Int} {xs : List It} {vs : List Vo} (h : wCp s ∧ dead.length ≤ 40 ∧ rtOk s root = true) (h1 : lrn s root (-1) = some (lv, xs)) (h2 : wEr s next lv.toNat xs [] = some vs) (h3 : wFb s (wKo root dead vs) zI zI = none) : cens s root next dead = none := by
 unfold cens; rw [if_pos h, h1]; simp only []; rw [h2]; simp only []; rw [h3]
theorem cens_end {s : Sto} {root next lv : Int} {dead : List Int} {xs : List It} {vs : List Vo} {r n : List Int} (h : wCp s ∧ dead.length ≤ 40 ∧ rtOk s root = true) (h1 : lrn s root (-1) = some (lv, xs)) (h2 : wEr s next lv.toNat xs [] = some vs) (h3 : wFb s (wKo root dead vs) zI zI = some (r, n)) : cens s root next dead = if enough s r then some (vs, r, n) else none := by
 unfold cens; rw [if_pos h, h1]; simp only []; rw [h2]; simp only []; rw [h3]
theorem treesF_on {s : Sto} {rs refs nodes : List Int} {i : Nat} (hi : i < rs.length) (h : rtOk s rs[i] = true) : wFb s (rs.drop i) refs nodes = wFb s (rs.drop (i + 1)) (wEg s F0 [rs[i]] (inc refs rs[i].toNat) nodes).1 (wEg s F0 [rs[i]] (inc refs rs[i].toNat) nodes).2 := by
 rw [List.drop_eq_getElem_cons hi, wFb, if_pos h]
theorem treesF_off {s : Sto} {rs refs nodes : List Int} {i : Nat} (hi : i < rs.length) (h : rtOk s rs[i] = false) : wFb s (rs.drop i) refs nodes = none := by
 rw [List.drop_eq_getElem_cons hi, wFb, if_neg (by rw [h]; decide)]
theorem rtOk_in {s : Sto} {k : Int} (h : rtOk s k = true) : 8 ≤ k ∧ k < 256 ∧ ∃ lv xs, lrn s k (-1) = some (lv, xs) ∧ wCa s k.toNat = some (lv, xs) ∧ (wGb s lv xs).is = true := by
 unfold rtOk at h
 split at h
 ·cases h
 ·rename_i lv xs hl
  obtain ⟨h1, h2, h3, _⟩ := lrn_is hl
  exact ⟨h1, h2, lv, xs, hl, h3, h⟩
theorem TreeP.form {s : Sto} {cb m : Nat} {bv wv nv lw pb vs : Value} {refs nodes : List Int} {l : List (Int × Value)} {k : Int} {u : Value} {M' : Mem} {L' : Lc} (h : TreeP s cb m bv wv nv lw pb vs refs nodes l k u M' L') : ∃ e, u = .int .i64 e ∧ ((e = 8 ∧ rtOk s k = false ∧ L' = []) ∨ (e = 0 ∧ rtOk s k = true ∧ ∃ l', L' = [(cb, .cells (wGs bv wv nv lw pb m (wEg s F0 [k] (inc refs k.toNat) nodes).1 (wEg s F0 [k] (inc refs k.toNat) nodes).2 vs).toArray TCn (0, 0)), (m, wDk l')] ∧ MapI M' s l')) := by
 unfold TreeP at h
 split at h
 ·rename_i hr; obtain ⟨h1, l', h2, h3, _⟩ := h; exact ⟨0, h1, .inr ⟨rfl, hr, l', h2, h3⟩⟩
 ·rename_i hr; exact ⟨8, h.1, .inl ⟨rfl, by simpa using hr, h.2⟩⟩
theorem zI_len : zI.length = 256 := List.length_replicate
theorem zI_few (f : Nat) (hf : f ≤ 1000000) : Few f zI := ⟨zI_len, fun k => by
 have : zI.getD k 0 = 0 := by unfold zI; rw [List.getD, List.getElem?_replicate]; split <;> rfl
 rw [this]; omega⟩
section
variable {P : Program} {ops : Array Oper} {N : Fs} {F : Fr} {E : Ent} {M : Mem} {L : Lc} {o : Oper}
theorem qIndex {x ix : Operand} {t e : TypeId} {n sz by_ : Nat} {z cs : List Value} {k : IntKind} {i : Int} {d : TypeDesc} {v : Value} (hg : gd ops F o = some true) (ho : o.op = .index t x ix) (hx : ev F x = some (.agg cs.toArray)) (hi : ev F ix = some (.int k i)) [ht : Und P t (.array n e)] [hd : Und P e d] [hl : Lay P e sz by_ z] (ha : aggD d = false)
  (h : 0 ≤ i ∧ i < n) (hv : cs[i.toNat * sz]? = some v) : QF P ops N F M L o v :=
 wDr hg fun ac hac w hw => by
  obtain ⟨ti, u, hi1, hi2, _⟩ := hl.info
  simp [execOp, ho, hac.ev hx, hac.ev hi, Instr.index, asIntOf, run_underlying ht.h, h, sizeOf, typeInfo, hi1, hi2, part, wEa hd.h, ha, hv]
end
theorem cen_fill {bv wv nv lw : Value} {p : Option Addr} {m : Nat} : fillL ([(0, 4), (4, 1), (5, 1), (6, 256), (262, 256), (518, 1)][·]?) ([.slice none 0 0, .slice none 0 0, .slice none 0 0, .slice none 0 0, .pointer none, .map none] ++ (List.replicate 512 (.int .i64 0) ++ ([.slice none 0 0]))) [(0, .agg #[bv, wv, nv, lw]), (1, .pointer p), (2, .map (some m))] = some (wGs bv wv nv lw (.pointer p) m zI zI (.slice none 0 0)) := by
 have h : (List.replicate 512 (Value.int .i64 0) ++ [Value.slice none 0 0]) = wBj zI ++ (wBj zI ++ [.slice none 0 0]) := by
  unfold zI wBj; rw [List.map_replicate, ← List.append_assoc, List.replicate_append_replicate]
 rw [h]
 have hl : (wBj zI ++ (wBj zI ++ [Value.slice none 0 0])).length = 513 := by simp [wBm, zI_len]
 show _ = some (bv :: wv :: nv :: lw :: .pointer p :: .map (some m) :: (wBj zI ++ (wBj zI ++ [Value.slice none 0 0])))
 generalize wBj zI ++ (wBj zI ++ [Value.slice none 0 0]) = r at hl
 simp [fillL, Value.cells, hl]
 rfl
def NI (M : Mem) (v : Value) (xs : List Int) : Prop := ∃ a c, v = .slice a xs.length c ∧ xs.length ≤ c ∧ SM M a (wBj xs)
theorem NI.mono {M M' : Mem} {v : Value} {xs : List Int} (h : NI M v xs) (hM : MLe M M') : NI M' v xs := by
 obtain ⟨a, c, h1, h2, h3⟩ := h; exact ⟨a, c, h1, h2, h3.mono hM⟩
theorem icells_one (xs : List Int) : ∀ v ∈ wBj xs, v.oneCell' = true := by
 intro v hv
 obtain ⟨x, _, rfl⟩ := List.mem_map.1 hv
 rfl
theorem Own.cast {v : Value} {R : Lc} {e : TypeId} {size n n' : Nat} {xs xs' : List Value} (h : Own v R e size n xs) (hn : n = n') (hx : xs = xs') : Own v R e size n' xs' := by subst hn hx; exact h
def TakeP (s : Sto) (root next : Int) (dead : List Int) (u : Value) (M' : Mem) : Prop := match cens s root next dead with
 | none => u = .tuple #[.pointer none, .int .i64 8]
 | some (vs, refs, nodes) => ∃ cb bv wv nv lw pb m a c, u = .tuple #[.pointer (some ⟨cb, 0, none⟩), .int .i64 0] ∧ M' cb = some (.cells (wGs bv wv nv lw pb m refs nodes (.slice a vs.length c)).toArray TCn (0, 0)) ∧ vs.length ≤ c ∧ SM M' a (vs.flatMap voc) ∧ refs.length = 256 ∧ nodes.length = 256
set_option maxHeartbeats 4000000 in
theorem take_walk (s : Sto) (bv wv nv lw : Value) (gen root next : Int) (da : Option Addr) (dc : Nat) (dead : List Int) (M : Mem) (h1 : LS M bv s.blocks) (h2 : WS M wv s.waits) (h3 : BS M nv s.now) (h4 : BS M lw s.last) (hdc : dead.length ≤ dc) (hds : SM M da (wBj dead)) (hdl : dead.length ≤ 1000000) :
  SpecL Tryz.prog 40 #[.agg (poc bv wv nv lw gen root next (.slice da dead.length dc)).toArray] M [] fun u M' L' => TakeP s root next dead u M' ∧ L' = [] := by
 have hST : ST M (.agg #[bv, wv, nv, lw]) s := ⟨_, _, _, _, rfl, h1, h2, h3, h4⟩
 refine wAf (vs := [_]) 99 _ Tryz.func40 rfl Tryz.ntmps40 rfl rfl ?_; intro W
 refine wAb (wAa (wAw rfl rfl (wCb (cs := [_, _, _, _, _, _, _, _]) rfl rfl rfl rfl) ?_)); rintro _ _ _ ⟨b1, rfl, rfl, rfl⟩
 refine jp rfl (jp rfl (wAc (jT (wAb (wAb (wAa (sFa rfl ?_)))))))
 refine sLL rfl ?_
 refine wAi rfl rfl (wBf rfl rfl rfl rfl rfl (by kernel_rfl) (wGc s _ M hST)) ?_
 refine js rfl (fun h16 => ?_) (fun h16 => ?_)
 ·refine jp rfl (jp rfl (jp rfl (jp rfl (jp rfl (jp rfl (wAc (jT (wAg rfl (wAb (wAa (jp rfl (jp rfl (wAc (jT (wAe (jTr (wAv (L' := []) (List.nil_sublist _) ?_)))))))))))))))))
  refine jr2 rfl rfl rfl ?_
  refine ⟨?_, rfl⟩
  unfold TakeP
  rw [cens_no (fun h => absurd (if_pos h.1) h16)]
  try rfl
 ·refine jp rfl (sFL rfl rfl ?_)
  refine wAi rfl rfl (wBq rfl rfl rfl) ?_
  refine js rfl (fun h21 => ?_) (fun h21 => ?_)
  ·refine jp rfl (wAc (jT (wAg rfl (wAb (wAa (jp rfl (jp rfl (wAc (jT (wAe (jTr (wAv (L' := []) (List.nil_sublist _) ?_))))))))))))
   refine jr2 rfl rfl rfl ?_
   refine ⟨?_, rfl⟩
   unfold TakeP
   rw [cens_no (fun h => by have := h.2.1; omega)]
   try rfl
  ·refine jp rfl (wAc (jT (wAj rfl (wAd (jT (wAb ?_))))))
   have hst : wCp s := Classical.byContradiction fun h => h16 (by unfold wJe; rw [if_neg h]; decide)
   have hnow : s.now.length = 256 := hst.2.1.1
   have hw4 : s.waits.length ≤ 4096 := hst.1.2.1
   refine wGk ([(b1, .cells (poc bv wv nv lw gen root next (.slice da dead.length dc)).toArray TPo (0, 0))]) (by kernel_rfl) (by simp) ?_
   refine wDu (i := 0) rfl (by kernel_rfl) (by kernel_rfl) rfl rfl (wBk rfl rfl rfl rfl rfl) ?_
   refine wDu (i := 1) rfl (by kernel_rfl) (by kernel_rfl) rfl rfl (qLdL rfl rfl rfl rfl rfl) ?_
   refine wDu (i := 2) rfl (by kernel_rfl) (by kernel_rfl) rfl rfl (wBk rfl rfl rfl rfl rfl) ?_
   refine wDu (i := 3) rfl (by kernel_rfl) (by kernel_rfl) rfl rfl (qLdL rfl rfl rfl rfl rfl) ?_
   refine wGn (α := Mem × Nat × Nat) (fun y => MLe M y.1 ∧ BN y.1 (.pointer (some ⟨y.2.1, 0, none⟩)) s) (fun y => [(1, .pointer (some ⟨b1, 0, none⟩)), (29, .agg (wGs bv wv nv lw (.pointer (some ⟨y.2.1, 0, none⟩)) y.2.2 zI zI (.slice none 0 0)).toArray)]) (fun y => y.1) (fun y => [(y.2.2, wDk []), (b1, .cells (poc bv wv nv lw gen root next (.slice da dead.length dc)).toArray TPo (0, 0))]) 2 #[true, true, true, true, true, true, true, false, false] ?_ (fun rest => ?_)
   ·rintro ⟨M1, pn, m5⟩ ⟨hM1, hbn1⟩
    try dsimp only at hM1 hbn1 ⊢
    refine wGm (i := 7) (by kernel_rfl) ?_
    refine wCk rfl rfl rfl (wCb (cs := wGs bv wv nv lw (.pointer (some ⟨pn, 0, none⟩)) m5 zI zI (.slice none 0 0)) rfl rfl rfl rfl) ?_; rintro _ _ _ ⟨cb, rfl, rfl, rfl⟩
    refine wAo (hM1) (by simp) ?_
    refine wKf (i := 8) rfl (by kernel_rfl) (by kernel_rfl) rfl ?_
    refine ja_end (by kernel_rfl) ?_
    refine jPn (jT (wAb (wAa (jp rfl (sFL rfl rfl ?_)))))
    refine wAw rfl rfl (wAn rfl rfl rfl rfl rfl (by kernel_rfl) (learn_spec s hst cb m5 bv wv nv lw (.pointer (some ⟨pn, 0, none⟩)) (wBj zI ++ (wBj zI ++ [.slice none 0 0])) (-1) root M1 [] ⟨h3.mono hM1, hbn1⟩ MapI.nil)) ?_; rintro _ M2 _ ⟨hM2, _, rfl, ⟨l2, rfl, hmi1, hext1, hlr⟩⟩
    obtain ⟨xl, xa, xn, xc, p, rfl, hlr2⟩ := hlr.form
    simp only [List.cons_append, List.nil_append]
    refine sAl rfl fun b4 => ?_
    refine sSt rfl ?_
    refine wAc (jT (wAb (wAb (wAa (sFa rfl ?_)))))
    refine wDp rfl rfl (qLd rfl rfl rfl rfl (CJ.loc rfl)) (fun h36 => ?_) (fun h36 => ?_)
    ·refine jp rfl (jp rfl (jp rfl (sLL rfl ?_)))
     refine sFa rfl ?_
     refine sLL rfl ?_
     obtain ⟨_, hpn⟩ | ⟨ys, hlrn, rfl, hys, hpe, hky⟩ := hlr2
     ·rw [hpn] at h36; cases h36
     obtain ⟨hr8, hr256, hnd, _⟩ := lrn_is hlrn
     have hyo := wCe hnd
     have hroot : rtOk s root = true := by rw [rtOk_is hlrn, ← hpe]; exact h36
     have hall : wCp s ∧ dead.length ≤ 40 ∧ rtOk s root = true := ⟨hst, by omega, hroot⟩
     have hg0 : Good s l2 root := ⟨hr8, hr256, hky, xl, ys, hnd, by rw [← hpe]; exact h36⟩
     have hxl0 := hyo.lev
     obtain ⟨xln, rfl⟩ : ∃ n : Nat, xl = (n : Int) := ⟨xl.toNat, by omega⟩
     have hkids : 0 < xln → ∀ x ∈ ys, Good s l2 x.ref ∧ ∃ zs, wCa s x.ref.toNat = some ((xln : Int) - 1, zs) := fun h0 x hx => ⟨hg0.kid hmi1 hnd (by omega) hx, by obtain ⟨_, zs, h1, _⟩ := rd_kid hyo (by rw [← hpe]; exact h36) (by omega) hx; exact ⟨zs, h1⟩⟩
     refine wAw rfl rfl (wAn rfl rfl rfl rfl rfl (by kernel_rfl) (vols_spec s cb m5 bv wv nv lw (.pointer (some ⟨pn, 0, none⟩)) zI zI zI_len zI_len l2 bv wv nv lw gen root next (.slice da dead.length dc) xln ys _ [] (.slice none 0 0) [] M2 hmi1 hys hyo hkids (Own.nil _ _) (by simp))) ?_; rintro _ M3 _ ⟨hM3, Rvp, rfl, hvp⟩
     obtain ⟨e, rfl, hvp2⟩ := hvp.form
     refine js rfl (fun h44 => ?_) (fun h44 => ?_)
     ·refine jp rfl (wAc (jT (wAg rfl (wAb (wAa (jp rfl (jp rfl (wAc (jT (wAe (jTr (wAv (L' := []) (List.nil_sublist _) ?_))))))))))))
      refine jr2 rfl rfl rfl ?_
      obtain ⟨_, hvr, _⟩ | ⟨he, _⟩ := hvp2
      ·refine ⟨?_, rfl⟩
       unfold TakeP; rw [cens_vols hall hlrn (by rw [Int.toNat_natCast]; exact hvr)]; try rfl
      ·omega
     ·refine jp rfl (wAc (jT (wAj rfl (wAd (jT (wAb (wAa ?_)))))))
      obtain ⟨he, _⟩ | ⟨_, acc, vsv, Rv, hvr, rfl, hown⟩ := hvp2
      ·omega
      simp only [List.append_assoc, List.cons_append, List.nil_append]
      refine wHv hown (by simp) ?_
      intro Mv vsa vsc hMv ev hvc hvs; subst ev
      have hacc16 := volsL_le _ _ _ _ hvr (by simp)
      refine sFL rfl rfl ?_
      refine wAw rfl rfl (wAm (cs := [_]) rfl rfl rfl (by rfl) (by rfl) (by rfl)) ?_; rintro _ _ _ ⟨b48, rfl, rfl, rfl⟩
      refine sFL rfl rfl ?_
      refine wAw rfl rfl (wFv (R := [(b48, .cells [Value.int .i64 root].toArray 3 (0, 0))]) (xs := [.int .i64 root]) (news := wBj dead) (n := 1) rfl rfl rfl rfl ⟨rfl, .inr ⟨b48, 1, _, rfl, rfl, Nat.le_refl _, by decide, rfl, rfl⟩⟩ (by rw [wBm, Nat.mul_one]) (hds.mono (hM1.trans (hM2.trans (hM3.trans hMv)))) (by rfl) (icells_one _) (by omega) (by omega)) ?_; rintro rv0 _ _ ⟨rfl, Rr0, rfl, hownr⟩
      obtain ⟨ra0, rc0, rfl⟩ := hownr.form
      refine jp rfl (wAc (jT (wAb (wAb (wAa (jp rfl (wAi rfl rfl (wAx rfl rfl rfl) ?_)))))))
      refine sFa rfl ?_
      refine wAi rfl rfl (qLd rfl rfl rfl rfl (CJ.loc (cen_vol zI_len zI_len))) ?_
      refine wAi rfl rfl (wBq rfl rfl rfl) ?_
      refine jp rfl (wAc (jT (wAh ?_)))
      refine wAr (α := Nat × Lc × Value) (fun x => [(1, .pointer (some ⟨b1, 0, none⟩)), (2, .pointer (some ⟨cb, 0, none⟩)), (5, x.2.2), (55, (.slice vsa acc.length vsc)), (56, .int .i64 acc.length), (57, .int .i64 x.1)]) (fun _ => Mv) (fun x => (x.2.1 ++ [(cb, .cells (wGs bv wv nv lw (.pointer (some ⟨pn, 0, none⟩)) m5 zI zI (.slice vsa acc.length vsc)).toArray TCn (0, 0)), (m5, wDk l2), (b4, .cells (snc (xln : Int) (.slice xa ys.length xc) p).toArray TSp (0, 0)), (b1, .cells (poc bv wv nv lw gen root next (.slice da dead.length dc)).toArray TPo (0, 0))])) (fun x => x.1 ≤ acc.length ∧ Own x.2.2 x.2.1 3 1 ((root :: dead) ++ (acc.take x.1).map (·.root)).length (wBj ((root :: dead) ++ (acc.take x.1).map (·.root)))) (fun x => acc.length - x.1)
       (0, Rr0, .slice ra0 (1 + dead.length) rc0) (.cons (t := 1) rfl (.cons (t := 2) rfl (.cons (t := 5) rfl (.cons (t := 55) rfl (.cons (t := 56) rfl (.cons (t := 57) rfl .nil)))))) ⟨Nat.zero_le _, hownr.cast (by simp; omega) (by simp [wBj])⟩ (fun _ h => h) ?_
      rintro ⟨i, R, rv⟩ ⟨hi, hownr⟩
      try dsimp only at hi hownr ⊢
      refine wAb (wAa (js rfl (fun h58 => ?_) (fun h58 => ?_)))
      ·refine wAc (jT (wAb (wAg rfl (wAd (jT (wAb (wAh (wAb (wAa ?_)))))))))
       have hi1 : i < acc.length := by omega
       obtain ⟨sb, so, e0, hx⟩ := hvs.open (by intro e; have := congrArg List.length e; rw [wAy voc 4 (fun _ => rfl), List.length_nil] at this; omega)
       subst e0
       refine wAi rfl rfl (wBa rfl rfl rfl rfl (by omega)) ?_
       refine wAi rfl rfl (wEy (cs := voc acc[i]) rfl rfl rfl rfl rfl (fun j v hv => (wFf voc 4 (fun _ => rfl) hx (show acc[i]? = some acc[i] by simp [hi1]) j v hv).cj _)) ?_
       refine sAl rfl fun b7 => ?_
       refine sSt rfl ?_
       refine wAc (jT (wAa (jp rfl (sFL rfl rfl ?_))))
       refine wAw rfl rfl (wAm (cs := [_]) rfl rfl rfl (by rfl) (by rfl) (by rfl)) ?_; rintro _ _ _ ⟨b64, rfl, rfl, rfl⟩
       refine wAw rfl rfl (wDd (R := R) (m := 1) rfl rfl rfl rfl hownr rfl (fun i v hv => CJ.loc (by simpa using hv)) rfl (by rfl) (by simp [Value.oneCell']) (by simp only [List.length_append, List.length_cons, List.length_map, List.length_take]; omega) (by omega)) ?_; rintro rv2 _ _ ⟨rfl, R2, rfl, hownr2, _⟩
       obtain ⟨ra2, rc2, rfl⟩ := hownr2.form
       refine jp rfl (wAc (jB (jT (wAa (ja rfl (by omega) ?_)))))
       refine jp rfl (wAc ?_)
       refine wAp (i + 1, R2, .slice ra2 _ rc2) (.cons (t := 1) rfl (.cons (t := 2) rfl (.cons (t := 5) rfl (.cons (t := 55) rfl (.cons (t := 56) rfl (.cons (t := 57) rfl .nil)))))) ⟨by show i + 1 ≤ acc.length; omega, ?_⟩ (by show acc.length - (i + 1) < acc.length - i; omega) (fun w h => (h.perm (List.perm_append_comm_assoc R2 [_, _] [_, _, _, _])).fewer (.cons _ (.cons _ (.refl _))))
       show Own _ _ _ _ ((root :: dead) ++ (acc.take (i + 1)).map (·.root)).length (wBj ((root :: dead) ++ (acc.take (i + 1)).map (·.root)))
       rw [List.take_succ_eq_append_getElem hi1, List.map_append, ← List.append_assoc]
       exact hownr2.cast (by simp only [List.length_append, List.length_map, List.length_cons, List.length_nil]; try omega) (by simp [wBj])
      ·refine wAc (jT (wAb (wAj rfl (wAs (jTx (jTx (jBx (jT (wAb (wAb (wAa (jp rfl ?_))))))))))))
       obtain rfl : i = acc.length := by omega
       rw [List.take_length] at hownr
       obtain ⟨rs, hrse⟩ : ∃ rs, rs = wKo root dead acc := ⟨_, rfl⟩
       have hrl : rs.length = 1 + dead.length + acc.length := by rw [hrse]; unfold wKo; simp; omega
       replace hownr := hownr.cast (n' := rs.length) (xs' := wBj rs) (by rw [hrse]; rfl) (by rw [hrse]; rfl)
       refine wHv hownr (by simp) ?_
       intro Mr ra rc hMr er hrc hrs; subst er
       have hM0 := hM1.trans (hM2.trans (hM3.trans (hMv.trans hMr)))
       have hM20 := hM2.trans (hM3.trans (hMv.trans hMr))
       refine wAi rfl rfl (wBq rfl rfl rfl) ?_
       refine jp rfl (wAc (jT (wAh ?_)))
       refine wAr (α := Nat × Mem × List Int × List Int × List (Int × Value)) (fun x => [(1, .pointer (some ⟨b1, 0, none⟩)), (2, .pointer (some ⟨cb, 0, none⟩)), (67, .slice ra rs.length rc), (68, .int .i64 rs.length), (69, .int .i64 x.1)]) (fun x => x.2.1) (fun x => [(cb, .cells (wGs bv wv nv lw (.pointer (some ⟨pn, 0, none⟩)) m5 x.2.2.1 x.2.2.2.1 (.slice vsa acc.length vsc)).toArray TCn (0, 0)), (m5, wDk x.2.2.2.2), (b4, .cells (snc (xln : Int) (.slice xa ys.length xc) p).toArray TSp (0, 0)), (b1, .cells (poc bv wv nv lw gen root next (.slice da dead.length dc)).toArray TPo (0, 0))]) (fun x => x.1 ≤ rs.length ∧ MLe Mr x.2.1 ∧ wFb s rs zI zI = wFb s (rs.drop x.1) x.2.2.1 x.2.2.2.1 ∧ x.2.2.1.length = 256 ∧ Few (F0 * (rs.length - x.1)) x.2.2.2.1 ∧ MapI x.2.1 s x.2.2.2.2) (fun x => rs.length - x.1)
        (0, Mr, zI, zI, l2) (.cons (t := 1) rfl (.cons (t := 2) rfl (.cons (t := 67) rfl (.cons (t := 68) rfl (.cons (t := 69) rfl .nil))))) ⟨Nat.zero_le _, MLe.refl _, rfl, zI_len, zI_few _ (by have hf : F0 = 1600 := rfl; rw [hf, hrl]; simp only [Nat.sub_zero]; omega), hmi1.mono (hM3.trans (hMv.trans hMr))⟩ (fun _ h => h) ?_
       rintro ⟨i, Mk, refs, nodes, lk⟩ ⟨hi, hMk, hI, hr1, hfew, hmik⟩
       try dsimp only at hi hMk hI hr1 hfew hmik ⊢
       refine wAb (wAa (js rfl (fun h70 => ?_) (fun h70 => ?_)))
       ·refine wAc (jT (wAb (wAg rfl (wAd (jT (wAb (wAh (wAb (wAa ?_)))))))))
        have hi1 : i < rs.length := by omega
        obtain ⟨qb, qo, e0, hqx⟩ := hrs.open (by intro e; have := congrArg List.length e; rw [wBm, List.length_nil] at this; omega)
        subst e0
        refine wAi rfl rfl (wBa rfl rfl rfl rfl (by omega)) ?_
        refine wAi rfl rfl (qLd rfl rfl rfl rfl (((hqx _ (.int .i64 rs[i]) (by rw [Nat.mul_one]; simp [wBj, hi1])).mono hMk).cj _)) ?_
        refine jp rfl (wAc (jT (wAb (wAa (jp rfl (jp rfl ?_))))))
        refine wAw rfl rfl (wAn rfl rfl rfl rfl rfl (by kernel_rfl) (tree_walk s hst cb m5 bv wv nv lw (.pointer (some ⟨pn, 0, none⟩)) (.slice vsa acc.length vsc) refs nodes hr1 (hfew.less (by have : F0 * 1 ≤ F0 * (rs.length - i) := Nat.mul_le_mul_left _ (by omega); omega)) rs[i] Mk lk (⟨h3.mono (hM0.trans hMk), hbn1.mono (hM20.trans hMk)⟩) hmik)) ?_; rintro _ Mn _ ⟨hMn, Rt, rfl, htp⟩
        obtain ⟨e2, rfl, htp2⟩ := htp.form
        refine jp rfl (wAc (jT (wAb (wAa (jp rfl (js rfl (fun h77 => ?_) (fun h77 => ?_)))))))
        ·refine wAc (jT (wAg rfl (wAb (wAa (jp rfl (jp rfl (jp rfl (wAc (jT (wAe (jBr (jTr (jTr (jBr (jTr (wAv (L' := []) (List.nil_sublist _) ?_))))))))))))))))
         refine jr2 rfl rfl rfl ?_
         obtain ⟨rfl, hrt, _⟩ | ⟨he2, _⟩ := htp2
         ·refine ⟨?_, rfl⟩
          unfold TakeP; rw [cens_trees hall hlrn (by rw [Int.toNat_natCast]; exact hvr) (by rw [← hrse, hI]; exact treesF_off hi1 hrt)]; try rfl
         ·omega
        ·refine wAc (jT (wAj rfl (wAd (jB (jT (wAa (ja rfl (by omega) ?_)))))))
         refine jp rfl (wAc ?_)
         obtain ⟨he2, _⟩ | ⟨_, hrt, l3, rfl, hmi3⟩ := htp2
         ·omega
         obtain ⟨hl1, hl2⟩ := wLf (s := s) F0 [rs[i]] (inc refs rs[i].toNat) nodes
         have hri := rtOk_in hrt
         refine wAp (i + 1, Mn, _, _, l3) (.cons (t := 1) rfl (.cons (t := 2) rfl (.cons (t := 67) rfl (.cons (t := 68) rfl (.cons (t := 69) rfl .nil))))) ⟨by show i + 1 ≤ rs.length; omega, hMk.trans hMn, ?_, ?_, ?_, hmi3⟩ (by show rs.length - (i + 1) < rs.length - i; omega) (fun _ h => h)
         ·show wFb s rs zI zI = wFb s (rs.drop (i + 1)) _ _
          rw [hI]; exact treesF_on hi1 hrt
         ·show (wEg s F0 _ _ _).1.length = 256; rw [hl1, wGq]; exact hr1
         ·show Few (F0 * (rs.length - (i + 1))) _
          refine wLg F0 _ _ _ (fun k hk => by rw [List.mem_singleton.1 hk]; exact ⟨hri.1, hri.2.1⟩) (hfew.less ?_)
          rw [show rs.length - i = (rs.length - (i + 1)) + 1 by omega, Nat.mul_succ]; exact Nat.le_refl _
       ·refine wAc (jT (wAb (wAj rfl (wAs (jTx (jTx (jBx (jT (wAb (wAb (wAa (jp rfl (wAi rfl rfl (wAx rfl rfl rfl) ?_)))))))))))))
        refine sFa rfl ?_
        refine wAi rfl rfl (wEy (cs := wBj refs) rfl rfl rfl rfl (by rw [wBm]; exact hr1) (fun j v hv => CJ.loc (by rw [six_get (i := j) (by omega), List.getElem?_append_left (List.getElem?_eq_some_iff.1 hv).1]; exact hv))) ?_
        refine jp rfl (wAc (jT (wAh ?_)))
        obtain rfl : i = rs.length := by omega
        rw [List.drop_length] at hI
        refine wAr (α := Nat) (fun i => [(1, .pointer (some ⟨b1, 0, none⟩)), (2, .pointer (some ⟨cb, 0, none⟩)), (83, .agg (wBj refs).toArray), (84, .int .i64 i)]) (fun _ => Mk) (fun _ => [(cb, .cells (wGs bv wv nv lw (.pointer (some ⟨pn, 0, none⟩)) m5 refs nodes (.slice vsa acc.length vsc)).toArray TCn (0, 0)), (m5, wDk lk), (b4, .cells (snc (xln : Int) (.slice xa ys.length xc) p).toArray TSp (0, 0)), (b1, .cells (poc bv wv nv lw gen root next (.slice da dead.length dc)).toArray TPo (0, 0))]) (fun i => i ≤ 256 ∧ ∀ j, j < i → refs.getD j 0 ≤ ((s.now.getD j 0).toNat : Int)) (fun i => 256 - i)
         0 (.cons (t := 1) rfl (.cons (t := 2) rfl (.cons (t := 83) rfl (.cons (t := 84) rfl .nil)))) ⟨Nat.zero_le _, fun j h => absurd h (by omega)⟩ (fun _ h => h) ?_
        rintro i ⟨hi, hJ⟩
        try dsimp only at hi hJ ⊢
        have hMall := hM0.trans hMk
        refine wAb (wAa (js rfl (fun h85 => ?_) (fun h85 => ?_)))
        ·refine wAc (jT (wAb (wAg rfl (wAd (jT (wAb (wAh (wAb (wAa (jp rfl ?_))))))))))
         have hi1 : i < 256 := by omega
         refine wAi rfl rfl (qIndex (v := .int .i64 (refs.getD i 0)) rfl rfl rfl rfl rfl (by omega) (by rw [Nat.mul_one, Int.toNat_natCast]; simp [wBj, List.getD, hr1, hi1])) ?_
         refine jp rfl (jp rfl (wAc (jT (wAb (wAa (jp rfl (sFa rfl ?_)))))))
         refine sFL rfl rfl ?_
         refine jp rfl ?_
         obtain ⟨na, nc, rfl, hnc, hns⟩ := id h3
         obtain ⟨nb, no, e0, hnx⟩ := hns.open (by intro e; have := congrArg List.length e; rw [wAu, List.length_nil] at this; omega)
         subst e0
         refine wAi rfl rfl (wBa rfl rfl rfl rfl (by omega)) ?_
         refine wAi rfl rfl (qLd rfl rfl rfl rfl (((hnx _ _ (by rw [Nat.mul_one]; exact wHu (j := i) (by omega))).mono hMall).cj _)) ?_
         refine wAi rfl rfl (wEj rfl rfl rfl (by have := (s.now.getD i 0).toNat_lt; omega)) ?_
         refine js rfl (fun h96 => ?_) (fun h96 => ?_)
         ·refine wAc (jT (wAg rfl (wAb (wAa (jp rfl (jp rfl (wAc (jT (wAe (jBr (jTr (jTr (jBr (jTr (wAv (L' := []) (List.nil_sublist _) ?_)))))))))))))))
          refine jr2 rfl rfl rfl ?_
          refine ⟨?_, rfl⟩
          unfold TakeP
          rw [cens_end hall hlrn (by rw [Int.toNat_natCast]; exact hvr) (by rw [← hrse, hI]; rfl), if_neg (fun h => by have := h i (by omega); omega)]
          try rfl
         ·refine wAc (jT (wAj rfl (wAd (jB (jT (wAa (ja rfl (by omega) ?_)))))))
          refine jp rfl (wAc (wAp (i + 1) (.cons (t := 1) rfl (.cons (t := 2) rfl (.cons (t := 83) rfl (.cons (t := 84) rfl .nil)))) ⟨by omega, fun j hj => ?_⟩ (by omega) (fun _ h => h)))
          rcases Nat.lt_or_ge j i with h | h
          ·exact hJ j h
          ·rw [show j = i by omega]; omega
        ·refine wAc (jT (wAb (wAj rfl (wAs (jTx (jTx (jBx (jT (wAb (wAa (jp rfl (jp rfl (jp rfl (wAc (jT (wAe (wBv cb (by simp) ?_)))))))))))))))))
         intro Mf hMf ecb
         refine wAv (L' := []) (List.nil_sublist _) ?_
         refine jr2 rfl rfl rfl ?_
         refine ⟨?_, rfl⟩
         unfold TakeP
         rw [cens_end hall hlrn (by rw [Int.toNat_natCast]; exact hvr) (by rw [← hrse, hI]; rfl), if_pos (show enough s refs from fun j hj => hJ j (by omega))]
         exact ⟨cb, bv, wv, nv, lw, _, m5, vsa, vsc, rfl, ecb, hvc, hvs.mono (hMr.trans (hMk.trans hMf)), hr1, hfew.1⟩
    ·iterate 9 refine jp rfl ?_
     refine wAc (jT (wAg rfl (wAb (wAa (jp rfl (jp rfl (wAc (jT (wAe (jTr (wAv (L' := []) (List.nil_sublist _) ?_)))))))))))
     refine jr2 rfl rfl rfl ?_
     have hno : ¬ rtOk s root = true := by
      rcases hlr2 with ⟨h1, _⟩ | ⟨ys, h1, _, _, h2, _⟩
      ·rw [rtOk_no h1]; decide
      ·rw [rtOk_is h1, ← h2, h36]; decide
     refine ⟨?_, rfl⟩
     unfold TakeP
     rw [cens_no (fun h => hno h.2.2)]
     try rfl
   refine wBd [4, 5] (by kernel_rfl) rfl ⟨?_, ?_, trivial⟩
   ·refine wCk rfl rfl rfl (wAn rfl rfl rfl rfl rfl (by kernel_rfl) (on_spec s _ M hST (by omega) (by omega))) ?_; rintro v4 M4 _ ⟨hM4, R4, rfl, hbn4, rfl⟩
    refine wAo (hM4) (by simp) ?_
    simp only [nA]
    obtain ⟨pn, _, _, _, _, rfl, _⟩ := id (hbn4 M4 (MLe.refl _) hM4).ex
    refine wBd [5] (by kernel_rfl) rfl ⟨?_, trivial⟩
    ·refine wCk rfl rfl rfl (hMakeMapV rfl rfl) ?_; rintro _ _ _ ⟨m5, rfl, rfl, rfl⟩
     refine wAo (hM4) (by simp) ?_
     refine wDu (i := 6) rfl (by kernel_rfl) (by kernel_rfl) rfl rfl (wAq (cs := wGs bv wv nv lw (.pointer (some ⟨pn, 0, none⟩)) m5 zI zI (.slice none 0 0)) rfl rfl rfl cen_fill) ?_
     refine wBx (listed' := #[true, true, true, true, true, true, true, false, false]) (by kernel_rfl) (wBw (.cons (t := 1) rfl (.cons (t := 29) rfl .nil)) ?_)
     exact rest (_, _, _) ⟨hM4, hbn4 _ (MLe.refl _) hM4⟩
   ·refine wCk rfl rfl rfl (hMakeMapV rfl rfl) ?_; rintro _ _ _ ⟨m5, rfl, rfl, rfl⟩
    refine wAo (MLe.refl _) (by simp) ?_
    refine wBd [4] (by kernel_rfl) rfl ⟨?_, trivial⟩
    ·refine wCk rfl rfl rfl (wAn rfl rfl rfl rfl rfl (by kernel_rfl) (on_spec s _ M hST (by omega) (by omega))) ?_; rintro v4 M4 _ ⟨hM4, R4, rfl, hbn4, rfl⟩
     refine wAo (hM4) (by simp) ?_
     simp only [nA]
     obtain ⟨pn, _, _, _, _, rfl, _⟩ := id (hbn4 M4 (MLe.refl _) hM4).ex
     refine wDu (i := 6) rfl (by kernel_rfl) (by kernel_rfl) rfl rfl (wAq (cs := wGs bv wv nv lw (.pointer (some ⟨pn, 0, none⟩)) m5 zI zI (.slice none 0 0)) rfl rfl rfl cen_fill) ?_
     refine wBx (listed' := #[true, true, true, true, true, true, true, false, false]) (by kernel_rfl) (wBw (.cons (t := 1) rfl (.cons (t := 29) rfl .nil)) ?_)
     exact rest (_, _, _) ⟨hM4, hbn4 _ (MLe.refl _) hM4⟩
structure Po where
 st : Sto
 gen : Int
 root : Int
 next : Int
 dead : List Int
def PT (M : Mem) (v : Value) (p : Po) : Prop := ∃ bv wv nv lw dv, v = .agg (poc bv wv nv lw p.gen p.root p.next dv).toArray ∧ LS M bv p.st.blocks ∧ WS M wv p.st.waits ∧ BS M nv p.st.now ∧ BS M lw p.st.last ∧ NI M dv p.dead
theorem PT.mono {M M' : Mem} {v : Value} {p : Po} (h : PT M v p) (hM : MLe M M') : PT M' v p := by
 obtain ⟨a, b, c, d, e, h0, h1, h2, h3, h4, h5⟩ := h; exact ⟨a, b, c, d, e, h0, h1.mono hM, h2.mono hM, h3.mono hM, h4.mono hM, h5.mono hM⟩
def wHc (p : Po) : Int := match cens p.st p.root p.next p.dead with
 | none => 8
 | some _ => 0
theorem wLh (p : Po) (v : Value) (M : Mem) (h : PT M v p) (hd : p.dead.length ≤ 1000000) : SpecL Tryz.prog 40 #[v] M [] fun u M' L' => TakeP p.st p.root p.next p.dead u M' ∧ L' = [] := by
 obtain ⟨bv, wv, nv, lw, dv, rfl, h1, h2, h3, h4, da, dc, rfl, h5, h6⟩ := h
 exact take_walk p.st bv wv nv lw p.gen p.root p.next da dc p.dead M h1 h2 h3 h4 h5 h6 hd
theorem TakeP.form {p : Po} {u : Value} {M' : Mem} (h : TakeP p.st p.root p.next p.dead u M') : ∃ a, u = .tuple #[.pointer a, .int .i64 (wHc p)] := by
 unfold TakeP at h
 unfold wHc
 split at h
 ·rename_i hc; rw [hc]; exact ⟨_, h⟩
 ·rename_i hc
  obtain ⟨cb, _, _, _, _, _, _, _, _, h, _⟩ := h
  rw [hc]; exact ⟨_, h⟩
theorem fochk_spec (p : Po) (v : Value) (M : Mem) (h : PT M v p) (hd : p.dead.length ≤ 1000000) :
  SpecL Tryz.prog 17 #[v] M [] fun u M' L' => u = .int .i64 (wHc p) ∧ L' = [] := by
 have hv := h
 obtain ⟨_, _, _, _, _, rfl, _⟩ := hv
 refine wAf (vs := [_]) 11 _ Tryz.func17 rfl Tryz.ntmps17 rfl rfl ?_; intro W
 refine wAb (wAa (wAw rfl rfl (wCb (cs := [_, _, _, _, _, _, _, _]) rfl rfl rfl rfl) ?_)); rintro _ _ _ ⟨b1, rfl, rfl, rfl⟩
 refine jp rfl (wAc (jT (wAb (wAa (sLL rfl ?_)))))
 refine wAw rfl rfl (wAn rfl rfl rfl rfl rfl (by kernel_rfl) (wLh p _ M h hd)) ?_; rintro _ M1 _ ⟨hM1, _, rfl, ⟨htp, rfl⟩⟩
 obtain ⟨a, rfl⟩ := htp.form
 refine jp rfl (jp rfl (jp rfl (jp rfl (jp rfl (wAc (jT (wAb (wAa (jp rfl (jp rfl (wAc (jT (wAe (wAv (L' := []) (List.nil_sublist _) ?_))))))))))))))
 refine jr1 rfl rfl ?_
 exact ⟨rfl, rfl⟩
abbrev TSu : TypeId := 80
structure Su where
 gen : Int
 root : Int
 next : Int
 table : Int
 dead : List Int
abbrev suc (x : Su) (dv : Value) : List Value := [.int .u32 x.gen, .int .i64 x.root, .int .u32 x.next, .int .u32 x.table, dv]
def tk (x : Int) : Prop := 8 ≤ x ∧ x < 256
instance (x : Int) : Decidable (tk x) := by unfold tk; exact inferInstance
def ixB : List Int → Int → Int
 | [], _ => -1
 | x :: xs, i => if tk x then ixB xs (i + 1) else i
theorem ixB_on {xs : List Int} {k : Nat} (h : k < xs.length) (ht : tk xs[k]) : ixB (xs.drop k) k = ixB (xs.drop (k + 1)) ((k + 1 : Nat) : Int) := by
 rw [List.drop_eq_getElem_cons h, ixB, if_pos ht]; rfl
theorem ixB_off {xs : List Int} {k : Nat} (h : k < xs.length) (ht : ¬ tk xs[k]) : ixB (xs.drop k) k = k := by
 rw [List.drop_eq_getElem_cons h, ixB, if_neg ht]
theorem ixB_is : ∀ (xs : List Int) (i : Int), 0 ≤ i → (0 ≤ ixB xs i ↔ ∃ x ∈ xs, ¬ tk x)
 | [], i, _ => by simp [ixB]
 | x :: xs, i, hi => by
  rw [ixB]
  split
  ·rename_i h
   rw [ixB_is xs (i + 1) (by omega)]
   simp [h]
  ·rename_i h; exact ⟨fun _ => ⟨x, by simp, h⟩, fun _ => hi⟩
def suOk (x : Su) : Prop := (∀ y ∈ x.dead, tk y) ∧ tk x.root ∧ x.dead.length ≤ 40
instance (x : Su) : Decidable (suOk x) := by unfold suOk; exact inferInstance
def suChk (x : Su) : Int := if suOk x then 0 else 8
def suHead (x : Su) : List By := [wCr x.gen, wGu x.root, wCr x.next, wCr x.table, [bU x.dead.length]].flatten
def wJd (x : Su) : List By := suHead x ++ x.dead.flatMap wGu
def suB (x : Su) : List By := sealB (wJd x)
theorem suHead_len (x : Su) : (suHead x).length = 15 := rfl
theorem twos_len (xs : List Int) : (xs.flatMap wGu).length = 2 * xs.length := by
 induction xs with
 | nil => rfl
 | cons x xs ih => rw [List.flatMap_cons, List.length_append, ih, List.length_cons]; show 2 + _ = _; omega
theorem suRaw_len (x : Su) : (wJd x).length = 15 + 2 * x.dead.length := by unfold wJd; rw [List.length_append, suHead_len, twos_len]
theorem suB_len {x : Su} (h : suOk x) : (suB x).length = 128 := wJg (by rw [suRaw_len]; have := h.2.2; omega)
theorem twos_step {xs : List Int} {k : Nat} (h : k < xs.length) : (xs.take (k + 1)).flatMap wGu = (xs.take k).flatMap wGu ++ wGu xs[k] := by
 rw [List.take_succ_eq_append_getElem h, List.flatMap_append]; simp
theorem taken_spec (x : Int) (M : Mem) :
  SpecL Tryz.prog 156 #[.int .i64 x] M [] fun u _ _ => u = .bool (decide (tk x)) := by
 refine wAf (vs := [_]) 9 _ Tryz.func156 rfl Tryz.ntmps156 rfl rfl ?_; intro W
 refine wAb (wAa (jp rfl (wAc (jT (wAb (wAa (jp rfl (js rfl (fun h4 => ?_) (fun h4 => ?_)))))))))
 ·refine jp rfl (jp rfl (jp rfl (jp rfl (jp rfl (wAc (jT (wAe (jr1 rfl rfl ?_))))))))
  show Value.bool (decide (x < 256)) = _
  congr 1; exact decide_eq_decide.2 ⟨fun h => ⟨h4, h⟩, fun h => h.2⟩
 ·refine jp rfl (jp rfl (jp rfl (jp rfl (jp rfl (wAc (jT (wAe (jr1 rfl rfl ?_))))))))
  show Value.bool false = _
  congr 1; exact (decide_eq_false (fun h => h4 h.1)).symm
theorem nottk_spec (x : Int) (M : Mem) :
  SpecL Tryz.prog 155 #[.int .i64 x] M [] fun u _ _ => u = .bool (!decide (tk x)) := by
 refine wAf (vs := [_]) 6 _ Tryz.func155 rfl Tryz.ntmps155 rfl rfl ?_; intro W
 refine wAb (wAa (jp rfl (wAc (jT (wAb (wAa (jp rfl (wAi rfl rfl (wBf rfl rfl rfl rfl rfl (by kernel_rfl) (taken_spec x M)) ?_))))))))
 refine jp rfl (jp rfl (wAc (jT (wAe (jr1 rfl rfl ?_)))))
 rfl
theorem ixf_spec (xs : List Int) (a : Option Addr) (c : Nat) (M : Mem) (hs : SM M a (wBj xs)) (hn : xs.length ≤ 1000000) :
  SpecL Tryz.prog 170 #[.slice a xs.length c, .func (.func 155) #[] #[]] M [] fun u _ _ => u = .int .i64 (ixB xs 0) := by
 refine wAf (vs := [_, _]) 19 _ Tryz.func170 rfl Tryz.ntmps170 rfl rfl ?_; intro W
 refine wAb (wAa (jp rfl (wAc (jT (wAb (wAb (wAa (jp rfl (wAi rfl rfl (wBq rfl rfl rfl) ?_)))))))))
 refine jp rfl (wAc (jT (wAh ?_)))
 refine wAr (α := Nat) (fun k => [(0, .slice a xs.length c), (1, .func (.func 155) #[] #[]), (7, .int .i64 xs.length), (8, .int .i64 k)]) (fun _ => M) (fun _ => []) (fun k => k ≤ xs.length ∧ ixB xs 0 = ixB (xs.drop k) k) (fun k => xs.length - k)
  0 (.cons (t := 0) rfl (.cons (t := 1) rfl (.cons (t := 7) rfl (.cons (t := 8) rfl .nil)))) ⟨Nat.zero_le _, rfl⟩ (fun _ h => h) ?_
 rintro k ⟨hk, hI⟩
 try dsimp only at hk hI ⊢
 refine wAb (wAa (js rfl (fun h9 => ?_) (fun h9 => ?_)))
 ·refine wAc (jT (wAb (wAg rfl (wAd (jT (wAb (wAh (wAb (wAa (jp rfl (jp rfl (wAc (jT (wAb (wAa (jp rfl (jp rfl (jp rfl ?_))))))))))))))))))
  have hk1 : k < xs.length := by omega
  obtain ⟨sb, so, e0, hx⟩ := hs.open (by intro e; have := congrArg List.length e; rw [wBm, List.length_nil] at this; omega)
  subst e0
  refine wAi rfl rfl (wBa rfl rfl rfl rfl (by omega)) ?_
  refine wAi rfl rfl (qLd (v := .int .i64 xs[k]) rfl rfl rfl rfl ((hx _ _ (by rw [Nat.mul_one]; simp [wBj, hk1])).cj _)) ?_
  refine wDp rfl rfl (wBf rfl rfl rfl rfl rfl (by kernel_rfl) (nottk_spec xs[k] M)) (fun h16 => ?_) (fun h16 => ?_)
  ·refine wAc (jT (wAg rfl (wAb (wAa (jp rfl (jp rfl (wAc (jT (wAe (jBr (jTr (jTr (jBr (jTr (jr1 rfl rfl ?_)))))))))))))))
   rw [hI, ixB_off hk1 (by simpa using h16)]
  ·refine wAc (jT (wAj rfl (wAd (jB (jT (wAa (ja rfl (by omega) ?_)))))))
   refine jp rfl (wAc ?_)
   refine wAp (k + 1) (.cons (t := 0) rfl (.cons (t := 1) rfl (.cons (t := 7) rfl (.cons (t := 8) rfl .nil)))) ⟨by omega, by rw [hI]; exact ixB_on hk1 (by simpa using h16)⟩ (by omega) (fun _ h => h)
 ·refine wAc (jT (wAb (wAj rfl (wAs (jTx (jTx (jBx (jT (wAb (wAa (jp rfl (wAc (jT (wAe (jr1 rfl rfl ?_)))))))))))))))
  obtain rfl : k = xs.length := by omega
  rw [hI, List.drop_length]; rfl
theorem cof_spec (xs : List Int) (a : Option Addr) (c : Nat) (M : Mem) (hs : SM M a (wBj xs)) (hn : xs.length ≤ 1000000) :
  SpecL Tryz.prog 154 #[.slice a xs.length c, .func (.func 155) #[] #[]] M [] fun u _ _ => u = .bool (decide (∃ x ∈ xs, ¬ tk x)) := by
 refine wAf (vs := [_, _]) 9 _ Tryz.func154 rfl Tryz.ntmps154 rfl rfl ?_; intro W
 refine wAb (wAa (jp rfl (wAc (jT (wAb (wAa (jp rfl (jp rfl (wAi rfl rfl (wBf rfl rfl rfl rfl rfl (by kernel_rfl) (ixf_spec xs a c M hs hn)) ?_)))))))))
 refine jp rfl (jp rfl (wAc (jT (wAe (jr1 rfl rfl ?_)))))
 show Value.bool (decide (0 ≤ ixB xs 0)) = _
 congr 1; exact decide_eq_decide.2 (ixB_is xs 0 (by decide))
theorem sucheck_spec (x : Su) (da : Option Addr) (dc : Nat) (M : Mem) (hdc : x.dead.length ≤ dc) (hds : SM M da (wBj x.dead)) (hdl : x.dead.length ≤ 1000000) :
  SpecL Tryz.prog 122 #[.agg (suc x (.slice da x.dead.length dc)).toArray] M [] fun u _ _ => u = .int .i64 (suChk x) := by
 refine wAf (vs := [_]) 20 _ Tryz.func122 rfl Tryz.ntmps122 rfl rfl ?_; intro W
 refine wAb (wAa (wAw rfl rfl (wCb (cs := [_, _, _, _, _]) rfl rfl rfl rfl) ?_)); rintro _ _ _ ⟨b1, rfl, rfl, rfl⟩
 refine jp rfl (wAc (jT (wAb (wAa (sFL rfl rfl ?_)))))
 refine wDp rfl rfl (wBf rfl rfl rfl rfl rfl (by kernel_rfl) (cof_spec x.dead da dc M hds hdl)) (fun h6 => ?_) (fun h6 => ?_)
 ·refine jp rfl (wAc (jT (wAb (wAb (wAa ?_)))))
  iterate 13 refine jp rfl ?_
  refine wAc (jT (wAg rfl (wAb (wAa (jp rfl (wAc (jT (wAe (jTr (jr1 rfl rfl ?_))))))))))
  first | (unfold suChk; rw [if_pos ⟨fun y hy => Classical.byContradiction fun hn => (of_decide_eq_false h6) ⟨y, hy, hn⟩, of_decide_eq_true h11, by omega⟩]; done) | (unfold suChk; rw [if_neg (fun h => by first | (obtain ⟨y, hy, hn⟩ := of_decide_eq_true h6; exact hn (h.1 y hy)) | exact (of_decide_eq_false h11) h.2.1 | (have := h.2.2; omega))])
 ·refine jp rfl (wAc (jT (wAb (wAb (wAa (jp rfl (jp rfl (sFL rfl rfl ?_))))))))
  refine wDp rfl rfl (wBf rfl rfl rfl rfl rfl (by kernel_rfl) (taken_spec x.root M)) (fun h11 => ?_) (fun h11 => ?_)
  ·refine jp rfl (jp rfl (jp rfl (sFL rfl rfl ?_)))
   refine wAi rfl rfl (wBq rfl rfl rfl) ?_
   refine js rfl (fun h18 => ?_) (fun h18 => ?_)
   ·refine jp rfl (wAc (jT (wAg rfl (wAb (wAa (jp rfl (wAc (jT (wAe (jTr (jr1 rfl rfl ?_)))))))))))
    first | (unfold suChk; rw [if_pos ⟨fun y hy => Classical.byContradiction fun hn => (of_decide_eq_false h6) ⟨y, hy, hn⟩, of_decide_eq_true h11, by omega⟩]; done) | (unfold suChk; rw [if_neg (fun h => by first | (obtain ⟨y, hy, hn⟩ := of_decide_eq_true h6; exact hn (h.1 y hy)) | exact (of_decide_eq_false h11) h.2.1 | (have := h.2.2; omega))])
   ·refine jp rfl (wAc (jT (wAj rfl (wAd (jT (wAb (wAa (jp rfl (wAc (jT (wAe (jr1 rfl rfl ?_))))))))))))
    first | (unfold suChk; rw [if_pos ⟨fun y hy => Classical.byContradiction fun hn => (of_decide_eq_false h6) ⟨y, hy, hn⟩, of_decide_eq_true h11, by omega⟩]; done) | (unfold suChk; rw [if_neg (fun h => by first | (obtain ⟨y, hy, hn⟩ := of_decide_eq_true h6; exact hn (h.1 y hy)) | exact (of_decide_eq_false h11) h.2.1 | (have := h.2.2; omega))])
  ·iterate 8 refine jp rfl ?_
   refine wAc (jT (wAg rfl (wAb (wAa (jp rfl (wAc (jT (wAe (jTr (jr1 rfl rfl ?_))))))))))
   first | (unfold suChk; rw [if_pos ⟨fun y hy => Classical.byContradiction fun hn => (of_decide_eq_false h6) ⟨y, hy, hn⟩, of_decide_eq_true h11, by omega⟩]; done) | (unfold suChk; rw [if_neg (fun h => by first | (obtain ⟨y, hy, hn⟩ := of_decide_eq_true h6; exact hn (h.1 y hy)) | exact (of_decide_eq_false h11) h.2.1 | (have := h.2.2; omega))])
theorem LS.five {M : Mem} {b : Nat} {u1 u2 u3 u4 u5 : Value} {x1 x2 x3 x4 x5 : List By} (h : M b = some (.cells [u1, u2, u3, u4, u5].toArray 26 (0, 0))) (h1 : BS M u1 x1) (h2 : BS M u2 x2) (h3 : BS M u3 x3) (h4 : BS M u4 x4) (h5 : BS M u5 x5) : LS M (.slice (some ⟨b, 0, none⟩) 5 5) [x1, x2, x3, x4, x5] :=
 ⟨_, 5, [(x1, u1), (x2, u2), (x3, u3), (x4, u4), (x5, u5)], rfl, Nat.le_refl _, SM.of_block (l := [u1, u2, u3, u4, u5]) h, rfl, fun p hp => by
  simp only [List.mem_cons, List.not_mem_nil, or_false] at hp
  rcases hp with rfl | rfl | rfl | rfl | rfl <;> assumption⟩
set_option maxHeartbeats 4000000 in
theorem rwrite_spec (x : Su) (da : Option Addr) (dc : Nat) (M : Mem) (hdc : x.dead.length ≤ dc) (hds : SM M da (wBj x.dead)) (hdl : x.dead.length ≤ 1000000) :
  SpecL Tryz.prog 90 #[.agg (suc x (.slice da x.dead.length dc)).toArray] M [] fun u M' L' => (if suOk x then ∃ s, u = .tuple #[s, .int .i64 0] ∧ BS M' s (suB x) else u = .tuple #[.slice none 0 0, .int .i64 8]) ∧ L' = [] := by
 refine wAf (vs := [_]) 60 _ Tryz.func90 rfl Tryz.ntmps90 rfl rfl ?_; intro W
 refine wAb (wAa (wAw rfl rfl (wCb (cs := [_, _, _, _, _]) rfl rfl rfl rfl) ?_)); rintro _ _ _ ⟨b1, rfl, rfl, rfl⟩
 refine jp rfl (jp rfl (wAc (jT (wAb (wAb (wAa (sLL rfl ?_)))))))
 refine wAi rfl rfl (wBf rfl rfl rfl rfl rfl (by kernel_rfl) (sucheck_spec x da dc M hdc hds hdl)) ?_
 refine jp rfl (wAc (jT (wAb (wAa (jp rfl (js rfl (fun h15 => ?_) (fun h15 => ?_)))))))
 ·refine wAc (jT (wAg rfl (wAb (wAa (jp rfl (jp rfl (jp rfl (wAc (jT (wAe (jTr (wAv (L' := []) (List.nil_sublist _) ?_))))))))))))
  refine jr2 rfl rfl rfl ?_
  have hno : ¬ suOk x := fun h => h15 (if_pos h)
  exact ⟨by rw [if_neg hno]; unfold suChk; rw [if_neg hno]; try rfl, rfl⟩
 ·refine wAc (jT (wAj rfl (wAd (jT (wAb (wAa (sFL rfl rfl ?_)))))))
  have hok : suOk x := Classical.byContradiction fun h => h15 (by unfold suChk; rw [if_neg h]; decide)
  have hrt := hok.2.1
  unfold tk at hrt
  refine wAw rfl rfl (wAn rfl rfl rfl rfl rfl (by kernel_rfl) (two_spec x.root M (by omega))) ?_; rintro _ M1 _ ⟨hM1, _, rfl, ⟨⟨s2, rfl, hs2⟩, rfl⟩⟩
  simp only [nA]
  refine jp rfl (jp rfl (jp rfl (jp rfl (jp rfl (wAc (jT (wAb (wGk ([(b1, .cells (suc x (.slice da x.dead.length dc)).toArray TSu (0, 0))]) (by kernel_rfl) (by simp) ?_))))))))
  refine wDu (i := 0) rfl (by kernel_rfl) (by kernel_rfl) rfl rfl (wBk rfl rfl rfl rfl rfl) ?_
  refine wDu (i := 1) rfl (by kernel_rfl) (by kernel_rfl) rfl rfl (qLd rfl rfl rfl rfl (CJ.loc rfl)) ?_
  refine wKf (i := 3) rfl (by kernel_rfl) (by kernel_rfl) rfl ?_
  refine wDu (i := 4) rfl (by kernel_rfl) (by kernel_rfl) rfl rfl (wBk rfl rfl rfl rfl rfl) ?_
  refine wDu (i := 5) rfl (by kernel_rfl) (by kernel_rfl) rfl rfl (qLd rfl rfl rfl rfl (CJ.loc rfl)) ?_
  refine wDu (i := 7) rfl (by kernel_rfl) (by kernel_rfl) rfl rfl (wBk rfl rfl rfl rfl rfl) ?_
  refine wDu (i := 8) rfl (by kernel_rfl) (by kernel_rfl) rfl rfl (qLd rfl rfl rfl rfl (CJ.loc rfl)) ?_
  refine wDu (i := 10) rfl (by kernel_rfl) (by kernel_rfl) rfl rfl (wBk rfl rfl rfl rfl rfl) ?_
  refine wDu (i := 11) rfl (by kernel_rfl) (by kernel_rfl) rfl rfl (qLd rfl rfl rfl rfl (CJ.loc rfl)) ?_
  refine wDu (i := 12) rfl (by kernel_rfl) (by kernel_rfl) rfl rfl (wBq rfl rfl rfl) ?_
  refine wDu (i := 13) rfl (by kernel_rfl) (by kernel_rfl) rfl rfl (qEq (wEf rfl rfl rfl) (by rw [u8_bU])) ?_
  refine wGn (α := Mem × Value × Value × Value × Value) (fun y => MLe M1 y.1 ∧ BS y.1 y.2.1 (wCr x.gen) ∧ BS y.1 y.2.2.1 (wCr x.next) ∧ BS y.1 y.2.2.2.1 (wCr x.table) ∧ BS y.1 y.2.2.2.2 [bU x.dead.length]) (fun y => [(1, .pointer (some ⟨b1, 0, none⟩)), (25, y.2.1), (26, s2), (29, y.2.2.1), (32, y.2.2.2.1), (37, y.2.2.2.2)]) (fun y => y.1) (fun _ => [(b1, .cells (suc x (.slice da x.dead.length dc)).toArray TSu (0, 0))]) 3 #[true, true, true, true, true, true, true, true, true, true, true, true, true, true, true, false, false, false] ?_ (fun rest => ?_)
  ·rintro ⟨Mr, v2, v6, v9, v14⟩ ⟨hMr, hB2, hB6, hB9, hB14⟩
   try dsimp only at hMr hB2 hB6 hB9 hB14 ⊢
   obtain ⟨a2, k2, rfl, _, _⟩ := id hB2
   obtain ⟨a6, k6, rfl, _, _⟩ := id hB6
   obtain ⟨a9, k9, rfl, _, _⟩ := id hB9
   obtain ⟨a14, k14, rfl, _, _⟩ := id hB14
   obtain ⟨aa2, kk2, rfl, _, _⟩ := id hs2
   refine wGm (i := 15) (by kernel_rfl) ?_
   refine wCk rfl rfl rfl (wAm (cs := [_, _, _, _, _]) rfl rfl rfl (by rfl) (by rfl) (by rfl)) ?_; rintro _ _ _ ⟨b38, rfl, rfl, rfl⟩
   refine wAo (hMr) (by simp) ?_
   refine wBo b38 (by simp) (by simp) ?_
   intro M15 hM15 e15
   have hls := LS.five e15 (hB2.mono hM15) ((hs2.mono hMr).mono hM15) (hB6.mono hM15) (hB9.mono hM15) (hB14.mono hM15)
   refine wGm (i := 16) (by kernel_rfl) ?_
   refine wCk rfl rfl rfl (wAn rfl rfl rfl rfl rfl (by kernel_rfl) (wFg _ _ M15 hls (by simp) (by simp [wCr, wGu]))) ?_; rintro _ M16 _ ⟨hM16, R16, rfl, hown⟩
   refine wAo ((hMr.trans hM15).trans hM16) (by simp) ?_
   refine wKf (i := 17) rfl (by kernel_rfl) (by kernel_rfl) rfl ?_
   refine ja_end (by kernel_rfl) ?_
   refine jPn (jT (wAb (wAb (wAa (sFL rfl rfl ?_)))))
   refine wAi rfl rfl (wBq rfl rfl rfl) ?_
   refine jp rfl (wAc (jT (wAh ?_)))
   have hMall := hM1.trans ((hMr.trans hM15).trans hM16)
   refine wAr (α := Nat × Mem × Lc × Value) (fun y => [(1, .pointer (some ⟨b1, 0, none⟩)), (7, y.2.2.2), (41, .slice da x.dead.length dc), (42, .int .i64 x.dead.length), (43, .int .i64 y.1)]) (fun y => y.2.1) (fun y => y.2.2.1 ++ [(b1, .cells (suc x (.slice da x.dead.length dc)).toArray TSu (0, 0))]) (fun y => y.1 ≤ x.dead.length ∧ MLe M16 y.2.1 ∧ Own y.2.2.2 y.2.2.1 5 1 (15 + 2 * y.1) (wAk (suHead x) ++ wAk ((x.dead.take y.1).flatMap wGu))) (fun y => x.dead.length - y.1)
    (0, M16, R16, _) (.cons (t := 1) rfl (.cons (t := 7) rfl (.cons (t := 41) rfl (.cons (t := 42) rfl (.cons (t := 43) rfl .nil))))) ⟨Nat.zero_le _, MLe.refl _, hown.cast rfl (List.append_nil _).symm⟩ (fun _ h => h) ?_
   rintro ⟨k, Mk, R, s⟩ ⟨hk, hMk, hown⟩
   try dsimp only at hk hMk hown ⊢
   refine wAb (wAa (js rfl (fun h44 => ?_) (fun h44 => ?_)))
   ·refine wAc (jT (wAb (wAg rfl (wAd (jT (wAb (wAh (wAb (wAa ?_)))))))))
    have hk1 : k < x.dead.length := by omega
    obtain ⟨sb, so, e0, hx⟩ := (hds.mono hMall).open (by intro e; have := congrArg List.length e; rw [wBm, List.length_nil] at this; omega)
    subst e0
    have htk := hok.1 x.dead[k] (List.getElem_mem hk1)
    unfold tk at htk
    refine wAi rfl rfl (wBa rfl rfl rfl rfl (by omega)) ?_
    refine wAi rfl rfl (qLd (v := .int .i64 x.dead[k]) rfl rfl rfl rfl (((hx _ _ (by rw [Nat.mul_one]; simp [wBj, hk1])).mono hMk).cj _)) ?_
    refine jp rfl (wAc (jT (wAb (wAa (jp rfl (wAw rfl rfl (wAn rfl rfl rfl rfl rfl (by kernel_rfl) (two_spec x.dead[k] Mk (by omega))) ?_)))))); rintro _ Mw _ ⟨hMw, _, rfl, ⟨⟨sw, rfl, wa, wc, rfl, hwc, hsw⟩, rfl⟩⟩
    simp only [nA]
    refine jp rfl (jp rfl (jp rfl (jp rfl (jp rfl (wAc (jT (wAa (jp rfl (jp rfl ?_)))))))))
    refine wAw rfl rfl (wFv (R := R) (news := wAk (wGu x.dead[k])) rfl rfl rfl rfl hown (by rw [wAu, Nat.mul_one]) hsw (by rfl) (wFi _) (by show _ + 2 ≤ _; omega) (by omega)) ?_; rintro s' _ _ ⟨rfl, R', rfl, hown'⟩
    obtain ⟨a2, c2, rfl⟩ := hown'.form
    refine jp rfl (wAc (jB (jT (wAa (ja rfl (by omega) ?_)))))
    refine jp rfl (wAc ?_)
    refine wAp (k + 1, Mw, R', .slice a2 _ c2) (.cons (t := 1) rfl (.cons (t := 7) rfl (.cons (t := 41) rfl (.cons (t := 42) rfl (.cons (t := 43) rfl .nil))))) ⟨by show k + 1 ≤ x.dead.length; omega, hMk.trans hMw, ?_⟩ (by show x.dead.length - (k + 1) < x.dead.length - k; omega) (fun _ h => h)
    show Own _ _ _ _ (15 + 2 * (k + 1)) (_ ++ wAk ((x.dead.take (k + 1)).flatMap wGu))
    rw [twos_step hk1, show wAk ((x.dead.take k).flatMap wGu ++ wGu x.dead[k]) = wAk ((x.dead.take k).flatMap wGu) ++ wAk (wGu x.dead[k]) by simp [wAk], ← List.append_assoc]; exact hown'
   ·refine wAc (jT (wAb (wAj rfl (wAs (jTx (jTx (jBx (jT (wAb (wAa (jp rfl ?_)))))))))))
    obtain rfl : k = x.dead.length := by omega
    rw [List.take_length] at hown
    have hdl40 := hok.2.2
    have hrl := suRaw_len x
    refine wHv hown (by simp) ?_
    intro M8 a8 c8 hM8 e8 hc8 hs8; cases e8
    refine wAw rfl rfl (wAn rfl rfl rfl rfl rfl (by kernel_rfl) (by have h1 := seal_walk (wJd x) a8 c8 M8 (by rw [hrl]; exact hc8) (by unfold wJd; rw [show wAk (suHead x ++ x.dead.flatMap wGu) = wAk (suHead x) ++ wAk (x.dead.flatMap wGu) by simp [wAk]]; exact hs8) (by omega); rw [hrl] at h1; exact h1)) ?_; rintro _ M9 _ ⟨hM9, _, rfl, ⟨⟨s9, rfl, hs9⟩, rfl⟩⟩
    refine jp rfl (jp rfl (jp rfl (jp rfl (wAc (jT (wAe (wAv (L' := []) (List.nil_sublist _) ?_)))))))
    refine jr2 rfl rfl rfl ?_
    exact ⟨by rw [if_pos hok]; exact ⟨_, rfl, hs9⟩, rfl⟩
  refine wBd [2, 14] (by kernel_rfl) rfl ⟨?_, ?_, trivial⟩
  ·refine wCk rfl rfl rfl (wAn rfl rfl rfl rfl rfl (by kernel_rfl) (wBp x.gen _)) ?_; rintro v2 M2 _ ⟨hM2, R2, rfl, hF2, rfl⟩
   refine wAo (hM2) (by simp) ?_
   simp only [nA]
   refine wBd [6, 14] (by kernel_rfl) rfl ⟨?_, ?_, trivial⟩
   ·refine wCk rfl rfl rfl (wAn rfl rfl rfl rfl rfl (by kernel_rfl) (wBp x.next _)) ?_; rintro v6 M6 _ ⟨hM6, R6, rfl, hF6, rfl⟩
    refine wAo ((hM2).trans hM6) (by simp) ?_
    simp only [nA]
    refine wBd [9, 14] (by kernel_rfl) rfl ⟨?_, ?_, trivial⟩
    ·refine wCk rfl rfl rfl (wAn rfl rfl rfl rfl rfl (by kernel_rfl) (wBp x.table _)) ?_; rintro v9 M9 _ ⟨hM9, R9, rfl, hF9, rfl⟩
     refine wAo (((hM2.trans hM6)).trans hM9) (by simp) ?_
     simp only [nA]
     refine wBd [14] (by kernel_rfl) rfl ⟨?_, trivial⟩
     ·refine wCk rfl rfl rfl (wAm (cs := [_]) rfl rfl rfl (by rfl) (by rfl) (by rfl)) ?_; rintro _ _ _ ⟨b37, rfl, rfl, rfl⟩
      refine wAo ((hM2.trans (hM6.trans hM9))) (by simp) ?_
      refine wBo b37 (by simp) (by simp) ?_
      intro M14 hM14 e14
      have hF14 : BS M14 (.slice (some ⟨b37, 0, none⟩) 1 1) [bU x.dead.length] := ⟨_, 1, rfl, Nat.le_refl _, SM.of_block (l := wAk [bU x.dead.length]) e14⟩
      refine wBx (listed' := #[true, true, true, true, true, true, true, true, true, true, true, true, true, true, true, false, false, false]) (by kernel_rfl) (wBw (.cons (t := 1) rfl (.cons (t := 25) rfl (.cons (t := 26) rfl (.cons (t := 29) rfl (.cons (t := 32) rfl (.cons (t := 37) rfl .nil)))))) ?_)
      exact rest (_, _, _, _, _) ⟨(hM2.trans (hM6.trans (hM9.trans hM14))), hF2.mono ((hM6.trans (hM9.trans hM14))), hF6.mono ((hM9.trans hM14)), hF9.mono (hM14), hF14.mono (MLe.refl _)⟩
    ·refine wCk rfl rfl rfl (wAm (cs := [_]) rfl rfl rfl (by rfl) (by rfl) (by rfl)) ?_; rintro _ _ _ ⟨b37, rfl, rfl, rfl⟩
     refine wAo ((hM2.trans hM6)) (by simp) ?_
     refine wBo b37 (by simp) (by simp) ?_
     intro M14 hM14 e14
     have hF14 : BS M14 (.slice (some ⟨b37, 0, none⟩) 1 1) [bU x.dead.length] := ⟨_, 1, rfl, Nat.le_refl _, SM.of_block (l := wAk [bU x.dead.length]) e14⟩
     refine wBd [9] (by kernel_rfl) rfl ⟨?_, trivial⟩
     ·refine wCk rfl rfl rfl (wAn rfl rfl rfl rfl rfl (by kernel_rfl) (wBp x.table _)) ?_; rintro v9 M9 _ ⟨hM9, R9, rfl, hF9, rfl⟩
      refine wAo (((hM2.trans (hM6.trans hM14))).trans hM9) (by simp) ?_
      simp only [nA]
      refine wBx (listed' := #[true, true, true, true, true, true, true, true, true, true, true, true, true, true, true, false, false, false]) (by kernel_rfl) (wBw (.cons (t := 1) rfl (.cons (t := 25) rfl (.cons (t := 26) rfl (.cons (t := 29) rfl (.cons (t := 32) rfl (.cons (t := 37) rfl .nil)))))) ?_)
      exact rest (_, _, _, _, _) ⟨(hM2.trans (hM6.trans (hM14.trans hM9))), hF2.mono ((hM6.trans (hM14.trans hM9))), hF6.mono ((hM14.trans hM9)), hF9.mono (MLe.refl _), hF14.mono (hM9)⟩
   ·refine wCk rfl rfl rfl (wAm (cs := [_]) rfl rfl rfl (by rfl) (by rfl) (by rfl)) ?_; rintro _ _ _ ⟨b37, rfl, rfl, rfl⟩
    refine wAo (hM2) (by simp) ?_
    refine wBo b37 (by simp) (by simp) ?_
    intro M14 hM14 e14
    have hF14 : BS M14 (.slice (some ⟨b37, 0, none⟩) 1 1) [bU x.dead.length] := ⟨_, 1, rfl, Nat.le_refl _, SM.of_block (l := wAk [bU x.dead.length]) e14⟩
    refine wBd [6] (by kernel_rfl) rfl ⟨?_, trivial⟩
    ·refine wCk rfl rfl rfl (wAn rfl rfl rfl rfl rfl (by kernel_rfl) (wBp x.next _)) ?_; rintro v6 M6 _ ⟨hM6, R6, rfl, hF6, rfl⟩
     refine wAo (((hM2.trans hM14)).trans hM6) (by simp) ?_
     simp only [nA]
     refine wBd [9] (by kernel_rfl) rfl ⟨?_, trivial⟩
     ·refine wCk rfl rfl rfl (wAn rfl rfl rfl rfl rfl (by kernel_rfl) (wBp x.table _)) ?_; rintro v9 M9 _ ⟨hM9, R9, rfl, hF9, rfl⟩
      refine wAo (((hM2.trans (hM14.trans hM6))).trans hM9) (by simp) ?_
      simp only [nA]
      refine wBx (listed' := #[true, true, true, true, true, true, true, true, true, true, true, true, true, true, true, false, false, false]) (by kernel_rfl) (wBw (.cons (t := 1) rfl (.cons (t := 25) rfl (.cons (t := 26) rfl (.cons (t := 29) rfl (.cons (t := 32) rfl (.cons (t := 37) rfl .nil)))))) ?_)
      exact rest (_, _, _, _, _) ⟨(hM2.trans (hM14.trans (hM6.trans hM9))), hF2.mono ((hM14.trans (hM6.trans hM9))), hF6.mono (hM9), hF9.mono (MLe.refl _), hF14.mono ((hM6.trans hM9))⟩
  ·refine wCk rfl rfl rfl (wAm (cs := [_]) rfl rfl rfl (by rfl) (by rfl) (by rfl)) ?_; rintro _ _ _ ⟨b37, rfl, rfl, rfl⟩
   refine wAo (MLe.refl _) (by simp) ?_
   refine wBo b37 (by simp) (by simp) ?_
   intro M14 hM14 e14
   have hF14 : BS M14 (.slice (some ⟨b37, 0, none⟩) 1 1) [bU x.dead.length] := ⟨_, 1, rfl, Nat.le_refl _, SM.of_block (l := wAk [bU x.dead.length]) e14⟩
   refine wBd [2] (by kernel_rfl) rfl ⟨?_, trivial⟩
   ·refine wCk rfl rfl rfl (wAn rfl rfl rfl rfl rfl (by kernel_rfl) (wBp x.gen _)) ?_; rintro v2 M2 _ ⟨hM2, R2, rfl, hF2, rfl⟩
    refine wAo ((hM14).trans hM2) (by simp) ?_
    simp only [nA]
    refine wBd [6] (by kernel_rfl) rfl ⟨?_, trivial⟩
    ·refine wCk rfl rfl rfl (wAn rfl rfl rfl rfl rfl (by kernel_rfl) (wBp x.next _)) ?_; rintro v6 M6 _ ⟨hM6, R6, rfl, hF6, rfl⟩
     refine wAo (((hM14.trans hM2)).trans hM6) (by simp) ?_
     simp only [nA]
     refine wBd [9] (by kernel_rfl) rfl ⟨?_, trivial⟩
     ·refine wCk rfl rfl rfl (wAn rfl rfl rfl rfl rfl (by kernel_rfl) (wBp x.table _)) ?_; rintro v9 M9 _ ⟨hM9, R9, rfl, hF9, rfl⟩
      refine wAo (((hM14.trans (hM2.trans hM6))).trans hM9) (by simp) ?_
      simp only [nA]
      refine wBx (listed' := #[true, true, true, true, true, true, true, true, true, true, true, true, true, true, true, false, false, false]) (by kernel_rfl) (wBw (.cons (t := 1) rfl (.cons (t := 25) rfl (.cons (t := 26) rfl (.cons (t := 29) rfl (.cons (t := 32) rfl (.cons (t := 37) rfl .nil)))))) ?_)
      exact rest (_, _, _, _, _) ⟨(hM14.trans (hM2.trans (hM6.trans hM9))), hF2.mono ((hM6.trans hM9)), hF6.mono (hM9), hF9.mono (MLe.refl _), hF14.mono ((hM2.trans (hM6.trans hM9)))⟩
theorem slot_spec (n : Int) (M : Mem) (hn : 0 ≤ n ∧ n < 4294967296) :
  SpecL Tryz.prog 63 #[.int .u32 n] M [] fun u _ _ => u = .int .i64 (n % 4) := by
 refine wAf (vs := [_]) 6 _ Tryz.func63 rfl Tryz.ntmps63 rfl rfl ?_; intro W
 refine wAb (wAa (jp rfl (wAc (jT (wAb (wAa (jp rfl (wAi rfl rfl (wEj rfl rfl rfl (by omega)) ?_))))))))
 refine wAi rfl rfl (qRem rfl rfl rfl rfl (by omega) (by omega)) ?_
 refine jp rfl (wAc (jT (wAe (jr1 rfl rfl ?_))))
 rfl
set_option maxHeartbeats 1000000 in
theorem rput_spec (bs : List (List By)) (ws : List Wt) (bv wv : Value) (M : Mem) (h1 : LS M bv bs) (h2 : WS M wv ws) (hdk : dkOk bs ws) (x : Su) (da : Option Addr) (dc : Nat) (hdc : x.dead.length ≤ dc) (hds : SM M da (wBj x.dead)) (hdl : x.dead.length ≤ 1000000) (hsu : suOk x) (hg : 0 ≤ x.gen ∧ x.gen < 4294967296) (hwl : ws.length < 4096) :
  SpecL Tryz.prog 58 #[.agg #[bv, wv], .agg (suc x (.slice da x.dead.length dc)).toArray] M [] fun u M' L' => (∃ d, u = .tuple #[d, .int .i64 0] ∧ DK M' d bs (ws ++ [(x.gen % 4, suB x)])) ∧ L' = [] := by
 have hck : wLs bs ws = 0 := if_pos hdk
 refine wAf (vs := [_, _]) 32 _ Tryz.func58 rfl Tryz.ntmps58 rfl rfl ?_; intro W
 refine wAb (wAa (wAw rfl rfl (wCb (cs := [_, _]) rfl rfl rfl rfl) ?_)); rintro _ _ _ ⟨b2, rfl, rfl, rfl⟩
 refine wAw rfl rfl (wCb (cs := [_, _, _, _, _]) rfl rfl rfl rfl) ?_; rintro _ _ _ ⟨b3, rfl, rfl, rfl⟩
 refine sAl rfl fun b4 => ?_
 refine jp rfl (wAc (jT (wAb (wAb (wAa (sLL rfl ?_))))))
 refine wAi rfl rfl (wBf rfl rfl rfl rfl rfl (by kernel_rfl) (wDe bs ws bv wv M h1 h2)) ?_
 refine jp rfl (wAc (jT (wAb (wAa (jp rfl ?_)))))
 refine jf rfl (decide_eq_false (by first | omega | (rw [hck]; decide))) ?_
 refine wAc (jT (wAj rfl (wAd (jT (wAb (wAa (sLL rfl ?_)))))))
 refine wAw rfl rfl (wAn rfl rfl rfl rfl rfl (by kernel_rfl) (rwrite_spec x da dc M hdc hds hdl)) ?_; rintro _ M1 _ ⟨hM1, _, rfl, ⟨hsw, rfl⟩⟩
 rw [if_pos hsu] at hsw
 obtain ⟨s, rfl, hs⟩ := hsw
 simp only [nA]
 refine jp rfl (jp rfl (jp rfl (jp rfl (jp rfl (wAc (jT (wAb (wAb (wAa (jp rfl ?_))))))))))
 refine jf rfl (decide_eq_false (by first | omega | (rw [hck]; decide))) ?_
 refine wAc (jT (wAj rfl (wAd (jT (wAb (wCh (p := { A := fun i => !([8].contains i), U := fun i => !([8, 9].contains i) }) [(0, true), (1, true), (2, true), (3, true), (4, true), (5, false), (6, true), (7, true), (8, false), (9, true)] M1 ([(b3, .cells (suc x (.slice da x.dead.length dc)).toArray TSu (0, 0)), (b2, .cells [bv, wv].toArray TDk (0, 0))]) ([]) (by kernel_rfl) (by kernel_rfl) (by kernel_rfl) (by kernel_rfl) rfl (by simp) (MLe.refl _) (by simp) ?_))))))
 refine dLL rfl rfl ?_
 refine dFa rfl rfl ?_
 refine dLd rfl rfl ?_
 refine wBi rfl rfl rfl (wBf rfl rfl rfl rfl rfl (by kernel_rfl) (slot_spec x.gen M1 hg)) ?_
 refine dp rfl rfl ?_
 refine wHh rfl rfl rfl (wAn rfl rfl rfl rfl rfl (by kernel_rfl) (dwrite_spec bs ws bv wv M1 (h1.mono hM1) (h2.mono hM1) hdk (x.gen % 4) (by omega) (suB x) s hs (suB_len hsu) hwl)) ?_; rintro _ M2 _ ⟨hM2, _, rfl, ⟨⟨d, rfl, bv2, wv2, rfl, hB, hW⟩, rfl⟩⟩
 refine ⟨_, _, MLe.refl _, hM2, fun _ h => h, by simp, ?_⟩
 obtain ⟨ba, bc, bps, rfl, _⟩ := id hB
 obtain ⟨wa, wc, wps, rfl, _⟩ := id hW
 iterate 2 refine dp rfl rfl ?_
 refine jd_e rfl rfl (wBs rfl rfl rfl rfl rfl rfl rfl rfl) ?_; rintro _ _ _ ⟨rfl, rfl⟩
 refine ⟨hM2, by simp, ?_⟩
 refine ep rfl rfl ?_
 refine wEv ?_
 refine jPn (jT (wAe (wCd (rs := [_, _]) ([]) (by exact List.nil_sublist _) rfl (.cons (.agg rfl rfl rfl) (.cons (.tmp rfl) .nil)) ?_)))
 exact ⟨⟨_, rfl, _, _, rfl, hB, hW⟩, rfl⟩
end Go.Proofs.YtoincdcejjdgkaaGreat
