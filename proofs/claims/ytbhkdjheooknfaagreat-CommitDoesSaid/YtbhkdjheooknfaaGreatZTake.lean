/- Walks: whether a pool may be. -/
import Derived.Test.YtbhkdjheooknfaaGreatZTre
namespace Go.Proofs.YtbhkdjheooknfaaGreat
set_option linter.unusedVariables false
set_option linter.unusedSectionVars false
set_option linter.unusedSimpArgs false
open Go.RowKit
abbrev TPo : TypeId := 32
def zI : List Int := List.replicate 256 0
def wDc (s : Sto) : List Int → List Int → List Int → Option (List Int × List Int)
 | [], refs, nodes => some (refs, nodes)
 | r :: rs, refs, nodes => if wGx s r = true then wDc s rs (wDt s F0 [r] (inc refs r.toNat) nodes).1 (wDt s F0 [r] (inc refs r.toNat) nodes).2 else none
def enough (s : Sto) (refs : List Int) : Prop := ∀ i, i < 256 → refs.getD i 0 ≤ ((s.now.getD i 0).toNat : Int)
instance (s : Sto) (refs : List Int) : Decidable (enough s refs) := by unfold enough; exact inferInstance
def wEk (root : Int) (dead : List Int) (vs : List Vo) : List Int := (root :: dead) ++ vs.map (·.root)
def cens (s : Sto) (root next : Int) (dead : List Int) : Option (List Vo × List Int × List Int) :=
 if wDr s ∧ dead.length ≤ 40 ∧ wGx s root = true then match lrn s root (-1) with
  | none => none
  | some (lv, xs) => match wDx s next lv.toNat xs [] with
   | none => none
   | some vs => match wDc s (wEk root dead vs) zI zI with
    | none => none
    | some (refs, nodes) => if enough s refs then some (vs, refs, nodes) else none
 else none
theorem cens_no {s : Sto} {root next : Int} {dead : List Int} (h : ¬ (wDr s ∧ dead.length ≤ 40 ∧ wGx s root = true)) : cens s root next dead = none := by unfold cens; rw [if_neg h]
theorem cens_vols {s : Sto} {root next lv : Int} {dead : List Int} {xs : List It} (h : wDr s ∧ dead.length ≤ 40 ∧ wGx s root = true) (h1 : lrn s root (-1) = some (lv, xs)) (h2 : wDx s next lv.toNat xs [] = none) : cens s root next dead = none := by
 unfold cens; rw [if_pos h, h1]; simp only []; rw [h2]
theorem cens_trees {s : Sto} {root next lv : Int} {dead : List Int} {xs : List It} {vs : List Vo} (h : wDr s ∧ dead.length ≤ 40 ∧ wGx s root = true) (h1 : lrn s root (-1) = some (lv, xs)) (h2 : wDx s next lv.toNat xs [] = some vs) (h3 : wDc s (wEk root dead vs) zI zI = none) : cens s root next dead = none := by
 unfold cens; rw [if_pos h, h1]; simp only []; rw [h2]; simp only []; rw [h3]
theorem cens_end {s : Sto} {root next lv : Int} {dead : List Int} {xs : List It} {vs : List Vo} {r n : List Int} (h : wDr s ∧ dead.length ≤ 40 ∧ wGx s root = true) (h1 : lrn s root (-1) = some (lv, xs)) (h2 : wDx s next lv.toNat xs [] = some vs) (h3 : wDc s (wEk root dead vs) zI zI = some (r, n)) : cens s root next dead = if enough s r then some (vs, r, n) else none := by
 unfold cens; rw [if_pos h, h1]; simp only []; rw [h2]; simp only []; rw [h3]
theorem treesF_on {s : Sto} {rs refs nodes : List Int} {i : Nat} (hi : i < rs.length) (h : wGx s rs[i] = true) : wDc s (rs.drop i) refs nodes = wDc s (rs.drop (i + 1)) (wDt s F0 [rs[i]] (inc refs rs[i].toNat) nodes).1 (wDt s F0 [rs[i]] (inc refs rs[i].toNat) nodes).2 := by
 rw [List.drop_eq_getElem_cons hi, wDc, if_pos h]
theorem treesF_off {s : Sto} {rs refs nodes : List Int} {i : Nat} (hi : i < rs.length) (h : wGx s rs[i] = false) : wDc s (rs.drop i) refs nodes = none := by
 rw [List.drop_eq_getElem_cons hi, wDc, if_neg (by rw [h]; decide)]
theorem rtOk_in {s : Sto} {k : Int} (h : wGx s k = true) : 8 ≤ k ∧ k < 256 ∧ ∃ lv xs, lrn s k (-1) = some (lv, xs) ∧ wCu s k.toNat = some (lv, xs) ∧ (wEb s lv xs).is = true := by
 unfold wGx at h
 split at h
 ·cases h
 rename_i lv xs hl
 obtain ⟨h1, h2, h3, _⟩ := lrn_is hl
 exact ⟨h1, h2, lv, xs, hl, h3, h⟩
theorem TreeP.form {s : Sto} {cb m : Nat} {bv wv nv lw pb vs : Value} {refs nodes : List Int} {l : List (Int × Value)} {k : Int} {u : Value} {M' : Mem} {L' : Lc} (h : TreeP s cb m bv wv nv lw pb vs refs nodes l k u M' L') : ∃ e, u = .int .i64 e ∧ ((e = 8 ∧ wGx s k = false ∧ L' = []) ∨ (e = 0 ∧ wGx s k = true ∧ ∃ l', L' = [(cb, .cells (wGe bv wv nv lw pb m (wDt s F0 [k] (inc refs k.toNat) nodes).1 (wDt s F0 [k] (inc refs k.toNat) nodes).2 vs).toArray TCn (0, 0)), (m, wDh l')] ∧ MapI M' s l')) := by
 unfold TreeP at h
 split at h
 ·rename_i hr; obtain ⟨h1, l', h2, h3, _⟩ := h; exact ⟨0, h1, .inr ⟨rfl, hr, l', h2, h3⟩⟩
 rename_i hr; exact ⟨8, h.1, .inl ⟨rfl, by simpa using hr, h.2⟩⟩
theorem wJa : zI.length = 256 := List.length_replicate
theorem zI_few (f : Nat) (hf : f ≤ 1000000) : Few f zI := ⟨wJa, fun k => by
 have : zI.getD k 0 = 0 := by unfold zI; rw [List.getD, List.getElem?_replicate]; split <;> rfl
 rw [this]; omega⟩
section
variable {P : Program} {ops : Array Oper} {N : Fs} {F : Fr} {E : Ent} {M : Mem} {L : Lc} {o : Oper}
theorem qIndex {x ix : Operand} {t e : TypeId} {n sz by_ : Nat} {z cs : List Value} {k : IntKind} {i : Int} {d : TypeDesc} {v : Value} (hg : gd ops F o = some true) (ho : o.op = .index t x ix) (hx : ev F x = some (.agg cs.toArray)) (hi : ev F ix = some (.int k i)) [ht : Und P t (.array n e)] [hd : Und P e d] [hl : Lay P e sz by_ z] (ha : aggD d = false)
  (h : 0 ≤ i ∧ i < n) (hv : cs[i.toNat * sz]? = some v) : QF P ops N F M L o v :=
 wDs hg fun ac hac w hw => by
  obtain ⟨ti, u, hi1, hi2, _⟩ := hl.info
  simp [execOp, ho, hac.ev hx, hac.ev hi, Instr.index, asIntOf, run_underlying ht.h, h, sizeOf, typeInfo, hi1, hi2, part, wEu hd.h, ha, hv]
end
theorem cen_fill {bv wv nv lw : Value} {p : Option Addr} {m : Nat} : fillL ([(0, 4), (4, 1), (5, 1), (6, 256), (262, 256), (518, 1)][·]?) ([.slice none 0 0, .slice none 0 0, .slice none 0 0, .slice none 0 0, .pointer none, .map none] ++ (List.replicate 512 (.int .i64 0) ++ ([.slice none 0 0]))) [(0, .agg #[bv, wv, nv, lw]), (1, .pointer p), (2, .map (some m))] = some (wGe bv wv nv lw (.pointer p) m zI zI (.slice none 0 0)) := by
 have h : (List.replicate 512 (Value.int .i64 0) ++ [Value.slice none 0 0]) = wAw zI ++ (wAw zI ++ [.slice none 0 0]) := by
  unfold zI wAw; rw [List.map_replicate, ← List.append_assoc, List.replicate_append_replicate]
 rw [h]
 have hl : (wAw zI ++ (wAw zI ++ [Value.slice none 0 0])).length = 513 := by simp [wBc, wJa]
 show _ = some (bv :: wv :: nv :: lw :: .pointer p :: .map (some m) :: (wAw zI ++ (wAw zI ++ [Value.slice none 0 0])))
 generalize wAw zI ++ (wAw zI ++ [Value.slice none 0 0]) = r at hl
 simp [fillL, Value.cells, hl]
 rfl
def NI (M : Mem) (v : Value) (xs : List Int) : Prop := ∃ a c, v = .slice a xs.length c ∧ xs.length ≤ c ∧ SM M a (wAw xs)
theorem NI.mono {M M' : Mem} {v : Value} {xs : List Int} (h : NI M v xs) (hM : MLe M M') : NI M' v xs := by
 obtain ⟨a, c, h1, h2, h3⟩ := h; exact ⟨a, c, h1, h2, h3.mono hM⟩
theorem wHu (xs : List Int) : ∀ v ∈ wAw xs, v.oneCell' = true := by
 intro v hv
 obtain ⟨x, _, rfl⟩ := List.mem_map.1 hv
 rfl
theorem Own.cast {v : Value} {R : Lc} {e : TypeId} {size n n' : Nat} {xs xs' : List Value} (h : Own v R e size n xs) (hn : n = n') (hx : xs = xs') : Own v R e size n' xs' := by subst hn hx; exact h
def TakeP (s : Sto) (root next : Int) (dead : List Int) (u : Value) (M' : Mem) : Prop := match cens s root next dead with
 | none => u = .tuple #[.pointer none, .int .i64 8]
 | some (vs, refs, nodes) => ∃ cb bv wv nv lw pb m a c, u = .tuple #[.pointer (some ⟨cb, 0, none⟩), .int .i64 0] ∧ M' cb = some (.cells (wGe bv wv nv lw pb m refs nodes (.slice a vs.length c)).toArray TCn (0, 0)) ∧ vs.length ≤ c ∧ SM M' a (vs.flatMap voc) ∧ refs.length = 256 ∧ nodes.length = 256
set_option maxHeartbeats 4000000 in
theorem take_walk (s : Sto) (bv wv nv lw : Value) (gen root next : Int) (da : Option Addr) (dc : Nat) (dead : List Int) (M : Mem) (h1 : LS M bv s.blocks) (h2 : WS M wv s.waits) (h3 : BS M nv s.now) (h4 : BS M lw s.last) (hdc : dead.length ≤ dc) (hds : SM M da (wAw dead)) (hdl : dead.length ≤ 1000000) :
  SpecL Tryz.prog 47 #[.agg (poc bv wv nv lw gen root next (.slice da dead.length dc)).toArray] M [] fun u M' L' => TakeP s root next dead u M' ∧ L' = [] := by
 have hST : ST M (.agg #[bv, wv, nv, lw]) s := ⟨_, _, _, _, rfl, h1, h2, h3, h4⟩
 refine wAe (vs := [_]) 99 _ Tryz.func47 rfl Tryz.ntmps47 rfl rfl ?_; intro W
 refine wAb (wAa (wAv rfl rfl (wBw (cs := [_, _, _, _, _, _, _, _]) rfl rfl rfl rfl) ?_)); rintro _ _ _ ⟨b1, rfl, rfl, rfl⟩
 refine jp rfl (jp rfl (wAc (jT (wAb (wAb (wAa (sFa rfl ?_)))))))
 refine sLL rfl ?_
 refine wAi rfl rfl (wAy rfl rfl rfl rfl rfl (by kernel_rfl) (rcheck_spec s _ M hST)) ?_
 refine js rfl (fun h16 => ?_) (fun h16 => ?_)
 ·refine jp rfl (jp rfl (jp rfl (jp rfl (jp rfl (jp rfl (wAc (jT (wAg rfl (wAb (wAa (jp rfl (jp rfl (wAc (jT (wAf (jTr (wAu (L' := []) (List.nil_sublist _) ?_)))))))))))))))))
  refine jr2 rfl rfl rfl ?_
  refine ⟨?_, rfl⟩
  unfold TakeP
  rw [cens_no (fun h => absurd (if_pos h.1) h16)]
  try rfl
 refine jp rfl (sFL rfl rfl ?_)
 refine wAi rfl rfl (wBe rfl rfl rfl) ?_
 refine js rfl (fun h21 => ?_) (fun h21 => ?_)
 ·refine jp rfl (wAc (jT (wAg rfl (wAb (wAa (jp rfl (jp rfl (wAc (jT (wAf (jTr (wAu (L' := []) (List.nil_sublist _) ?_))))))))))))
  refine jr2 rfl rfl rfl ?_
  refine ⟨?_, rfl⟩
  unfold TakeP
  rw [cens_no (fun h => by have := h.2.1; omega)]
  try rfl
 refine jp rfl (wAc (jT (wAk rfl (wAd (jT (wAb ?_))))))
 have hst : wDr s := Classical.byContradiction fun h => h16 (by unfold stChk; rw [if_neg h]; decide)
 have hnow : s.now.length = 256 := hst.2.1.1
 have hw4 : s.waits.length ≤ 4096 := hst.1.2.1
 refine wEf ([(b1, .cells (poc bv wv nv lw gen root next (.slice da dead.length dc)).toArray TPo (0, 0))]) (by kernel_rfl) (by simp) ?_
 refine wDg (i := 0) rfl (by kernel_rfl) (by kernel_rfl) rfl rfl (wBi rfl rfl rfl rfl rfl) ?_
 refine wDg (i := 1) rfl (by kernel_rfl) (by kernel_rfl) rfl rfl (qLdL rfl rfl rfl rfl rfl) ?_
 refine wDg (i := 2) rfl (by kernel_rfl) (by kernel_rfl) rfl rfl (wBi rfl rfl rfl rfl rfl) ?_
 refine wDg (i := 3) rfl (by kernel_rfl) (by kernel_rfl) rfl rfl (qLdL rfl rfl rfl rfl rfl) ?_
 refine wEh (α := Mem × Nat × Nat) (fun y => MLe M y.1 ∧ BN y.1 (.pointer (some ⟨y.2.1, 0, none⟩)) s) (fun y => [(1, .pointer (some ⟨b1, 0, none⟩)), (29, .agg (wGe bv wv nv lw (.pointer (some ⟨y.2.1, 0, none⟩)) y.2.2 zI zI (.slice none 0 0)).toArray)]) (fun y => y.1) (fun y => [(y.2.2, wDh []), (b1, .cells (poc bv wv nv lw gen root next (.slice da dead.length dc)).toArray TPo (0, 0))]) 2 #[true, true, true, true, true, true, true, false, false] ?_ (fun rest => ?_)
 ·rintro ⟨M1, pn, m5⟩ ⟨hM1, hbn1⟩
  try dsimp only at hM1 hbn1 ⊢
  refine wFo (i := 7) (by kernel_rfl) ?_
  refine wCs rfl rfl rfl (wBw (cs := wGe bv wv nv lw (.pointer (some ⟨pn, 0, none⟩)) m5 zI zI (.slice none 0 0)) rfl rfl rfl rfl) ?_; rintro _ _ _ ⟨cb, rfl, rfl, rfl⟩
  refine wAp (hM1) (by simp) ?_
  refine wFj (i := 8) rfl (by kernel_rfl) (by kernel_rfl) rfl ?_
  refine wHi (by kernel_rfl) ?_
  refine jPn (jT (wAb (wAa (jp rfl (sFL rfl rfl ?_)))))
  refine wAv rfl rfl (wAt rfl rfl rfl rfl rfl (by kernel_rfl) (learn_spec s hst cb m5 bv wv nv lw (.pointer (some ⟨pn, 0, none⟩)) (wAw zI ++ (wAw zI ++ [.slice none 0 0])) (-1) root M1 [] ⟨h3.mono hM1, hbn1⟩ MapI.nil)) ?_; rintro _ M2 _ ⟨hM2, _, rfl, ⟨l2, rfl, hmi1, hext1, hlr⟩⟩
  obtain ⟨xl, xa, xn, xc, p, rfl, hlr2⟩ := hlr.form
  simp only [List.cons_append, List.nil_append]
  refine sAl rfl fun b4 => ?_
  refine sSt rfl ?_
  refine wAc (jT (wAb (wAb (wAa (sFa rfl ?_)))))
  refine wDf rfl rfl (qLd rfl rfl rfl rfl (CJ.loc rfl)) (fun h36 => ?_) (fun h36 => ?_)
  ·refine jp rfl (jp rfl (jp rfl (sLL rfl ?_)))
   refine sFa rfl ?_
   refine sLL rfl ?_
   obtain ⟨_, hpn⟩ | ⟨ys, hlrn, rfl, hys, hpe, hky⟩ := hlr2
   ·rw [hpn] at h36; cases h36
   obtain ⟨hr8, hr256, hnd, _⟩ := lrn_is hlrn
   have hyo := wBy hnd
   have hroot : wGx s root = true := by rw [rtOk_is hlrn, ← hpe]; exact h36
   have hall : wDr s ∧ dead.length ≤ 40 ∧ wGx s root = true := ⟨hst, by omega, hroot⟩
   have hg0 : Good s l2 root := ⟨hr8, hr256, hky, xl, ys, hnd, by rw [← hpe]; exact h36⟩
   have hxl0 := hyo.lev
   obtain ⟨xln, rfl⟩ : ∃ n : Nat, xl = (n : Int) := ⟨xl.toNat, by omega⟩
   have hkids : 0 < xln → ∀ x ∈ ys, Good s l2 x.ref ∧ ∃ zs, wCu s x.ref.toNat = some ((xln : Int) - 1, zs) := fun h0 x hx => ⟨hg0.kid hmi1 hnd (by omega) hx, by obtain ⟨_, zs, h1, _⟩ := rd_kid hyo (by rw [← hpe]; exact h36) (by omega) hx; exact ⟨zs, h1⟩⟩
   refine wAv rfl rfl (wAt rfl rfl rfl rfl rfl (by kernel_rfl) (vols_spec s cb m5 bv wv nv lw (.pointer (some ⟨pn, 0, none⟩)) zI zI wJa wJa l2 bv wv nv lw gen root next (.slice da dead.length dc) xln ys _ [] (.slice none 0 0) [] M2 hmi1 hys hyo hkids (Own.nil _ _) (by simp))) ?_; rintro _ M3 _ ⟨hM3, Rvp, rfl, hvp⟩
   obtain ⟨e, rfl, hvp2⟩ := hvp.form
   refine js rfl (fun h44 => ?_) (fun h44 => ?_)
   ·refine jp rfl (wAc (jT (wAg rfl (wAb (wAa (jp rfl (jp rfl (wAc (jT (wAf (jTr (wAu (L' := []) (List.nil_sublist _) ?_))))))))))))
    refine jr2 rfl rfl rfl ?_
    obtain ⟨_, hvr, _⟩ | ⟨he, _⟩ := hvp2
    ·refine ⟨?_, rfl⟩
     unfold TakeP; rw [cens_vols hall hlrn (by rw [Int.toNat_natCast]; exact hvr)]; try rfl
    omega
   refine jp rfl (wAc (jT (wAk rfl (wAd (jT (wAb (wAa ?_)))))))
   obtain ⟨he, _⟩ | ⟨_, acc, vsv, Rv, hvr, rfl, hown⟩ := hvp2
   ·omega
   simp only [List.append_assoc, List.cons_append, List.nil_append]
   refine wDw hown (by simp) ?_
   intro Mv vsa vsc hMv ev hvc hvs; subst ev
   have hacc16 := volsL_le _ _ _ _ hvr (by simp)
   refine sFL rfl rfl ?_
   refine wAv rfl rfl (wAr (cs := [_]) rfl rfl rfl (by rfl) (by rfl) (by rfl)) ?_; rintro _ _ _ ⟨b48, rfl, rfl, rfl⟩
   refine sFL rfl rfl ?_
   refine wAv rfl rfl (wBk (R := [(b48, .cells [Value.int .i64 root].toArray 3 (0, 0))]) (xs := [.int .i64 root]) (news := wAw dead) (n := 1) rfl rfl rfl rfl ⟨rfl, .inr ⟨b48, 1, _, rfl, rfl, Nat.le_refl _, by decide, rfl, rfl⟩⟩ (by rw [wBc, Nat.mul_one]) (hds.mono (hM1.trans (hM2.trans (hM3.trans hMv)))) (by rfl) (wHu _) (by omega) (by omega)) ?_; rintro rv0 _ _ ⟨rfl, Rr0, rfl, hownr⟩
   obtain ⟨ra0, rc0, rfl⟩ := hownr.form
   refine jp rfl (wAc (jT (wAb (wAb (wAa (jp rfl (wAi rfl rfl (wAx rfl rfl rfl) ?_)))))))
   refine sFa rfl ?_
   refine wAi rfl rfl (qLd rfl rfl rfl rfl (CJ.loc (cen_vol wJa wJa))) ?_
   refine wAi rfl rfl (wBe rfl rfl rfl) ?_
   refine jp rfl (wAc (jT (wAh ?_)))
   refine wAo (α := Nat × Lc × Value) (fun x => [(1, .pointer (some ⟨b1, 0, none⟩)), (2, .pointer (some ⟨cb, 0, none⟩)), (5, x.2.2), (55, (.slice vsa acc.length vsc)), (56, .int .i64 acc.length), (57, .int .i64 x.1)]) (fun _ => Mv) (fun x => (x.2.1 ++ [(cb, .cells (wGe bv wv nv lw (.pointer (some ⟨pn, 0, none⟩)) m5 zI zI (.slice vsa acc.length vsc)).toArray TCn (0, 0)), (m5, wDh l2), (b4, .cells (snc (xln : Int) (.slice xa ys.length xc) p).toArray TSp (0, 0)), (b1, .cells (poc bv wv nv lw gen root next (.slice da dead.length dc)).toArray TPo (0, 0))])) (fun x => x.1 ≤ acc.length ∧ Own x.2.2 x.2.1 3 1 ((root :: dead) ++ (acc.take x.1).map (·.root)).length (wAw ((root :: dead) ++ (acc.take x.1).map (·.root)))) (fun x => acc.length - x.1)
    (0, Rr0, .slice ra0 (1 + dead.length) rc0) (.cons (t := 1) rfl (.cons (t := 2) rfl (.cons (t := 5) rfl (.cons (t := 55) rfl (.cons (t := 56) rfl (.cons (t := 57) rfl .nil)))))) ⟨Nat.zero_le _, hownr.cast (by simp; omega) (by simp [wAw])⟩ (fun _ h => h) ?_
   rintro ⟨i, R, rv⟩ ⟨hi, hownr⟩
   try dsimp only at hi hownr ⊢
   refine wAb (wAa (js rfl (fun h58 => ?_) (fun h58 => ?_)))
   ·refine wAc (jT (wAb (wAg rfl (wAd (jT (wAb (wAh (wAb (wAa ?_)))))))))
    have hi1 : i < acc.length := by omega
    obtain ⟨sb, so, e0, hx⟩ := hvs.open (by intro e; have := congrArg List.length e; rw [wBm voc 4 (fun _ => rfl), List.length_nil] at this; omega)
    subst e0
    refine wAi rfl rfl (wBb rfl rfl rfl rfl (by omega)) ?_
    refine wAi rfl rfl (wGp (cs := voc acc[i]) rfl rfl rfl rfl rfl (fun j v hv => (flat_cm voc 4 (fun _ => rfl) hx (show acc[i]? = some acc[i] by simp [hi1]) j v hv).cj _)) ?_
    refine sAl rfl fun b7 => ?_
    refine sSt rfl ?_
    refine wAc (jT (wAa (jp rfl (sFL rfl rfl ?_))))
    refine wAv rfl rfl (wAr (cs := [_]) rfl rfl rfl (by rfl) (by rfl) (by rfl)) ?_; rintro _ _ _ ⟨b64, rfl, rfl, rfl⟩
    refine wAv rfl rfl (wCr (R := R) (m := 1) rfl rfl rfl rfl hownr rfl (fun i v hv => CJ.loc (by simpa using hv)) rfl (by rfl) (by simp [Value.oneCell']) (by simp only [List.length_append, List.length_cons, List.length_map, List.length_take]; omega) (by omega)) ?_; rintro rv2 _ _ ⟨rfl, R2, rfl, hownr2, _⟩
    obtain ⟨ra2, rc2, rfl⟩ := hownr2.form
    refine jp rfl (wAc (jB (jT (wAa (ja rfl (by omega) ?_)))))
    refine jp rfl (wAc ?_)
    refine wAn (i + 1, R2, .slice ra2 _ rc2) (.cons (t := 1) rfl (.cons (t := 2) rfl (.cons (t := 5) rfl (.cons (t := 55) rfl (.cons (t := 56) rfl (.cons (t := 57) rfl .nil)))))) ⟨by show i + 1 ≤ acc.length; omega, ?_⟩ (by show acc.length - (i + 1) < acc.length - i; omega) (fun w h => (h.perm (List.perm_append_comm_assoc R2 [_, _] [_, _, _, _])).fewer (.cons _ (.cons _ (.refl _))))
    show Own _ _ _ _ ((root :: dead) ++ (acc.take (i + 1)).map (·.root)).length (wAw ((root :: dead) ++ (acc.take (i + 1)).map (·.root)))
    rw [List.take_succ_eq_append_getElem hi1, List.map_append, ← List.append_assoc]
    exact hownr2.cast (by simp only [List.length_append, List.length_map, List.length_cons, List.length_nil]; try omega) (by simp [wAw])
   refine wAc (jT (wAb (wAk rfl (wAs (jTx (jTx (jBx (jT (wAb (wAb (wAa (jp rfl ?_))))))))))))
   obtain rfl : i = acc.length := by omega
   rw [List.take_length] at hownr
   obtain ⟨rs, hrse⟩ : ∃ rs, rs = wEk root dead acc := ⟨_, rfl⟩
   have hrl : rs.length = 1 + dead.length + acc.length := by rw [hrse]; unfold wEk; simp; omega
   replace hownr := hownr.cast (n' := rs.length) (xs' := wAw rs) (by rw [hrse]; rfl) (by rw [hrse]; rfl)
   refine wDw hownr (by simp) ?_
   intro Mr ra rc hMr er hrc hrs; subst er
   have hM0 := hM1.trans (hM2.trans (hM3.trans (hMv.trans hMr)))
   have hM20 := hM2.trans (hM3.trans (hMv.trans hMr))
   refine wAi rfl rfl (wBe rfl rfl rfl) ?_
   refine jp rfl (wAc (jT (wAh ?_)))
   refine wAo (α := Nat × Mem × List Int × List Int × List (Int × Value)) (fun x => [(1, .pointer (some ⟨b1, 0, none⟩)), (2, .pointer (some ⟨cb, 0, none⟩)), (67, .slice ra rs.length rc), (68, .int .i64 rs.length), (69, .int .i64 x.1)]) (fun x => x.2.1) (fun x => [(cb, .cells (wGe bv wv nv lw (.pointer (some ⟨pn, 0, none⟩)) m5 x.2.2.1 x.2.2.2.1 (.slice vsa acc.length vsc)).toArray TCn (0, 0)), (m5, wDh x.2.2.2.2), (b4, .cells (snc (xln : Int) (.slice xa ys.length xc) p).toArray TSp (0, 0)), (b1, .cells (poc bv wv nv lw gen root next (.slice da dead.length dc)).toArray TPo (0, 0))]) (fun x => x.1 ≤ rs.length ∧ MLe Mr x.2.1 ∧ wDc s rs zI zI = wDc s (rs.drop x.1) x.2.2.1 x.2.2.2.1 ∧ x.2.2.1.length = 256 ∧ Few (F0 * (rs.length - x.1)) x.2.2.2.1 ∧ MapI x.2.1 s x.2.2.2.2) (fun x => rs.length - x.1)
    (0, Mr, zI, zI, l2) (.cons (t := 1) rfl (.cons (t := 2) rfl (.cons (t := 67) rfl (.cons (t := 68) rfl (.cons (t := 69) rfl .nil))))) ⟨Nat.zero_le _, MLe.refl _, rfl, wJa, zI_few _ (by have hf : F0 = 1600 := rfl; rw [hf, hrl]; simp only [Nat.sub_zero]; omega), hmi1.mono (hM3.trans (hMv.trans hMr))⟩ (fun _ h => h) ?_
   rintro ⟨i, Mk, refs, nodes, lk⟩ ⟨hi, hMk, hI, hr1, hfew, hmik⟩
   try dsimp only at hi hMk hI hr1 hfew hmik ⊢
   refine wAb (wAa (js rfl (fun h70 => ?_) (fun h70 => ?_)))
   ·refine wAc (jT (wAb (wAg rfl (wAd (jT (wAb (wAh (wAb (wAa ?_)))))))))
    have hi1 : i < rs.length := by omega
    obtain ⟨qb, qo, e0, hqx⟩ := hrs.open (by intro e; have := congrArg List.length e; rw [wBc, List.length_nil] at this; omega)
    subst e0
    refine wAi rfl rfl (wBb rfl rfl rfl rfl (by omega)) ?_
    refine wAi rfl rfl (qLd rfl rfl rfl rfl (((hqx _ (.int .i64 rs[i]) (by rw [Nat.mul_one]; simp [wAw, hi1])).mono hMk).cj _)) ?_
    refine jp rfl (wAc (jT (wAb (wAa (jp rfl (jp rfl ?_))))))
    refine wAv rfl rfl (wAt rfl rfl rfl rfl rfl (by kernel_rfl) (tree_walk s hst cb m5 bv wv nv lw (.pointer (some ⟨pn, 0, none⟩)) (.slice vsa acc.length vsc) refs nodes hr1 (hfew.less (by have : F0 * 1 ≤ F0 * (rs.length - i) := Nat.mul_le_mul_left _ (by omega); omega)) rs[i] Mk lk (⟨h3.mono (hM0.trans hMk), hbn1.mono (hM20.trans hMk)⟩) hmik)) ?_; rintro _ Mn _ ⟨hMn, Rt, rfl, htp⟩
    obtain ⟨e2, rfl, htp2⟩ := htp.form
    refine jp rfl (wAc (jT (wAb (wAa (jp rfl (js rfl (fun h77 => ?_) (fun h77 => ?_)))))))
    ·refine wAc (jT (wAg rfl (wAb (wAa (jp rfl (jp rfl (jp rfl (wAc (jT (wAf (jBr (jTr (jTr (jBr (jTr (wAu (L' := []) (List.nil_sublist _) ?_))))))))))))))))
     refine jr2 rfl rfl rfl ?_
     obtain ⟨rfl, hrt, _⟩ | ⟨he2, _⟩ := htp2
     ·refine ⟨?_, rfl⟩
      unfold TakeP; rw [cens_trees hall hlrn (by rw [Int.toNat_natCast]; exact hvr) (by rw [← hrse, hI]; exact treesF_off hi1 hrt)]; try rfl
     omega
    refine wAc (jT (wAk rfl (wAd (jB (jT (wAa (ja rfl (by omega) ?_)))))))
    refine jp rfl (wAc ?_)
    obtain ⟨he2, _⟩ | ⟨_, hrt, l3, rfl, hmi3⟩ := htp2
    ·omega
    obtain ⟨hl1, hl2⟩ := wJp (s := s) F0 [rs[i]] (inc refs rs[i].toNat) nodes
    have hri := rtOk_in hrt
    refine wAn (i + 1, Mn, _, _, l3) (.cons (t := 1) rfl (.cons (t := 2) rfl (.cons (t := 67) rfl (.cons (t := 68) rfl (.cons (t := 69) rfl .nil))))) ⟨by show i + 1 ≤ rs.length; omega, hMk.trans hMn, ?_, ?_, ?_, hmi3⟩ (by show rs.length - (i + 1) < rs.length - i; omega) (fun _ h => h)
    ·show wDc s rs zI zI = wDc s (rs.drop (i + 1)) _ _
     rw [hI]; exact treesF_on hi1 hrt
    ·show (wDt s F0 _ _ _).1.length = 256; rw [hl1, wEn]; exact hr1
    show Few (F0 * (rs.length - (i + 1))) _
    refine wJq F0 _ _ _ (fun k hk => by rw [List.mem_singleton.1 hk]; exact ⟨hri.1, hri.2.1⟩) (hfew.less ?_)
    rw [show rs.length - i = (rs.length - (i + 1)) + 1 by omega, Nat.mul_succ]; exact Nat.le_refl _
   refine wAc (jT (wAb (wAk rfl (wAs (jTx (jTx (jBx (jT (wAb (wAb (wAa (jp rfl (wAi rfl rfl (wAx rfl rfl rfl) ?_)))))))))))))
   refine sFa rfl ?_
   refine wAi rfl rfl (wGp (cs := wAw refs) rfl rfl rfl rfl (by rw [wBc]; exact hr1) (fun j v hv => CJ.loc (by rw [six_get (i := j) (by omega), List.getElem?_append_left (List.getElem?_eq_some_iff.1 hv).1]; exact hv))) ?_
   refine jp rfl (wAc (jT (wAh ?_)))
   obtain rfl : i = rs.length := by omega
   rw [List.drop_length] at hI
   refine wAo (α := Nat) (fun i => [(1, .pointer (some ⟨b1, 0, none⟩)), (2, .pointer (some ⟨cb, 0, none⟩)), (83, .agg (wAw refs).toArray), (84, .int .i64 i)]) (fun _ => Mk) (fun _ => [(cb, .cells (wGe bv wv nv lw (.pointer (some ⟨pn, 0, none⟩)) m5 refs nodes (.slice vsa acc.length vsc)).toArray TCn (0, 0)), (m5, wDh lk), (b4, .cells (snc (xln : Int) (.slice xa ys.length xc) p).toArray TSp (0, 0)), (b1, .cells (poc bv wv nv lw gen root next (.slice da dead.length dc)).toArray TPo (0, 0))]) (fun i => i ≤ 256 ∧ ∀ j, j < i → refs.getD j 0 ≤ ((s.now.getD j 0).toNat : Int)) (fun i => 256 - i)
    0 (.cons (t := 1) rfl (.cons (t := 2) rfl (.cons (t := 83) rfl (.cons (t := 84) rfl .nil)))) ⟨Nat.zero_le _, fun j h => absurd h (by omega)⟩ (fun _ h => h) ?_
   rintro i ⟨hi, hJ⟩
   try dsimp only at hi hJ ⊢
   have hMall := hM0.trans hMk
   refine wAb (wAa (js rfl (fun h85 => ?_) (fun h85 => ?_)))
   ·refine wAc (jT (wAb (wAg rfl (wAd (jT (wAb (wAh (wAb (wAa (jp rfl ?_))))))))))
    have hi1 : i < 256 := by omega
    refine wAi rfl rfl (qIndex (v := .int .i64 (refs.getD i 0)) rfl rfl rfl rfl rfl (by omega) (by rw [Nat.mul_one, Int.toNat_natCast]; simp [wAw, List.getD, hr1, hi1])) ?_
    refine jp rfl (jp rfl (wAc (jT (wAb (wAa (jp rfl (sFa rfl ?_)))))))
    refine sFL rfl rfl ?_
    refine jp rfl ?_
    obtain ⟨na, nc, rfl, hnc, hns⟩ := id h3
    obtain ⟨nb, no, e0, hnx⟩ := hns.open (by intro e; have := congrArg List.length e; rw [wAm, List.length_nil] at this; omega)
    subst e0
    refine wAi rfl rfl (wBb rfl rfl rfl rfl (by omega)) ?_
    refine wAi rfl rfl (qLd rfl rfl rfl rfl (((hnx _ _ (by rw [Nat.mul_one]; exact wKh (j := i) (by omega))).mono hMall).cj _)) ?_
    refine wAi rfl rfl (wCg rfl rfl rfl (by have := (s.now.getD i 0).toNat_lt; omega)) ?_
    refine js rfl (fun h96 => ?_) (fun h96 => ?_)
    ·refine wAc (jT (wAg rfl (wAb (wAa (jp rfl (jp rfl (wAc (jT (wAf (jBr (jTr (jTr (jBr (jTr (wAu (L' := []) (List.nil_sublist _) ?_)))))))))))))))
     refine jr2 rfl rfl rfl ?_
     refine ⟨?_, rfl⟩
     unfold TakeP
     rw [cens_end hall hlrn (by rw [Int.toNat_natCast]; exact hvr) (by rw [← hrse, hI]; rfl), if_neg (fun h => by have := h i (by omega); omega)]
     try rfl
    refine wAc (jT (wAk rfl (wAd (jB (jT (wAa (ja rfl (by omega) ?_)))))))
    refine jp rfl (wAc (wAn (i + 1) (.cons (t := 1) rfl (.cons (t := 2) rfl (.cons (t := 83) rfl (.cons (t := 84) rfl .nil)))) ⟨by omega, fun j hj => ?_⟩ (by omega) (fun _ h => h)))
    rcases Nat.lt_or_ge j i with h | h
    ·exact hJ j h
    rw [show j = i by omega]; omega
   refine wAc (jT (wAb (wAk rfl (wAs (jTx (jTx (jBx (jT (wAb (wAa (jp rfl (jp rfl (jp rfl (wAc (jT (wAf (wCa cb (by simp) ?_)))))))))))))))))
   intro Mf hMf ecb
   refine wAu (L' := []) (List.nil_sublist _) ?_
   refine jr2 rfl rfl rfl ?_
   refine ⟨?_, rfl⟩
   unfold TakeP
   rw [cens_end hall hlrn (by rw [Int.toNat_natCast]; exact hvr) (by rw [← hrse, hI]; rfl), if_pos (show enough s refs from fun j hj => hJ j (by omega))]
   exact ⟨cb, bv, wv, nv, lw, _, m5, vsa, vsc, rfl, ecb, hvc, hvs.mono (hMr.trans (hMk.trans hMf)), hr1, hfew.1⟩
  iterate 9 refine jp rfl ?_
  refine wAc (jT (wAg rfl (wAb (wAa (jp rfl (jp rfl (wAc (jT (wAf (jTr (wAu (L' := []) (List.nil_sublist _) ?_)))))))))))
  refine jr2 rfl rfl rfl ?_
  have hno : ¬ wGx s root = true := by
   rcases hlr2 with ⟨h1, _⟩ | ⟨ys, h1, _, _, h2, _⟩
   ·rw [rtOk_no h1]; decide
   rw [rtOk_is h1, ← h2, h36]; decide
  refine ⟨?_, rfl⟩
  unfold TakeP
  rw [cens_no (fun h => hno h.2.2)]
  try rfl
 refine wBa [4, 5] (by kernel_rfl) rfl ⟨?_, ?_, trivial⟩
 ·refine wCs rfl rfl rfl (wAt rfl rfl rfl rfl rfl (by kernel_rfl) (on_spec s _ M hST (by omega) (by omega))) ?_; rintro v4 M4 _ ⟨hM4, R4, rfl, hbn4, rfl⟩
  refine wAp (hM4) (by simp) ?_
  simp only [nA]
  obtain ⟨pn, _, _, _, _, rfl, _⟩ := id (hbn4 M4 (MLe.refl _) hM4).ex
  refine wBa [5] (by kernel_rfl) rfl ⟨?_, trivial⟩
  refine wCs rfl rfl rfl (hMakeMapV rfl rfl) ?_; rintro _ _ _ ⟨m5, rfl, rfl, rfl⟩
  refine wAp (hM4) (by simp) ?_
  refine wDg (i := 6) rfl (by kernel_rfl) (by kernel_rfl) rfl rfl (wAq (cs := wGe bv wv nv lw (.pointer (some ⟨pn, 0, none⟩)) m5 zI zI (.slice none 0 0)) rfl rfl rfl cen_fill) ?_
  refine wBq (listed' := #[true, true, true, true, true, true, true, false, false]) (by kernel_rfl) (wBp (.cons (t := 1) rfl (.cons (t := 29) rfl .nil)) ?_)
  exact rest (_, _, _) ⟨hM4, hbn4 _ (MLe.refl _) hM4⟩
 refine wCs rfl rfl rfl (hMakeMapV rfl rfl) ?_; rintro _ _ _ ⟨m5, rfl, rfl, rfl⟩
 refine wAp (MLe.refl _) (by simp) ?_
 refine wBa [4] (by kernel_rfl) rfl ⟨?_, trivial⟩
 refine wCs rfl rfl rfl (wAt rfl rfl rfl rfl rfl (by kernel_rfl) (on_spec s _ M hST (by omega) (by omega))) ?_; rintro v4 M4 _ ⟨hM4, R4, rfl, hbn4, rfl⟩
 refine wAp (hM4) (by simp) ?_
 simp only [nA]
 obtain ⟨pn, _, _, _, _, rfl, _⟩ := id (hbn4 M4 (MLe.refl _) hM4).ex
 refine wDg (i := 6) rfl (by kernel_rfl) (by kernel_rfl) rfl rfl (wAq (cs := wGe bv wv nv lw (.pointer (some ⟨pn, 0, none⟩)) m5 zI zI (.slice none 0 0)) rfl rfl rfl cen_fill) ?_
 refine wBq (listed' := #[true, true, true, true, true, true, true, false, false]) (by kernel_rfl) (wBp (.cons (t := 1) rfl (.cons (t := 29) rfl .nil)) ?_)
 exact rest (_, _, _) ⟨hM4, hbn4 _ (MLe.refl _) hM4⟩
structure Po where
 st : Sto
 gen : Int
 root : Int
 next : Int
 dead : List Int
def PT (M : Mem) (v : Value) (p : Po) : Prop := ∃ bv wv nv lw dv, v = .agg (poc bv wv nv lw p.gen p.root p.next dv).toArray ∧ LS M bv p.st.blocks ∧ WS M wv p.st.waits ∧ BS M nv p.st.now ∧ BS M lw p.st.last ∧ NI M dv p.dead
theorem PT.mono {M M' : Mem} {v : Value} {p : Po} (h : PT M v p) (hM : MLe M M') : PT M' v p := by
 obtain ⟨a, b, c, d, e, h0, h1, h2, h3, h4, h5⟩ := h; exact ⟨a, b, c, d, e, h0, h1.mono hM, h2.mono hM, h3.mono hM, h4.mono hM, h5.mono hM⟩
def wFc (p : Po) : Int := match cens p.st p.root p.next p.dead with
 | none => 8
 | some _ => 0
theorem take_spec (p : Po) (v : Value) (M : Mem) (h : PT M v p) (hd : p.dead.length ≤ 1000000) : SpecL Tryz.prog 47 #[v] M [] fun u M' L' => TakeP p.st p.root p.next p.dead u M' ∧ L' = [] := by
 obtain ⟨bv, wv, nv, lw, dv, rfl, h1, h2, h3, h4, da, dc, rfl, h5, h6⟩ := h
 exact take_walk p.st bv wv nv lw p.gen p.root p.next da dc p.dead M h1 h2 h3 h4 h5 h6 hd
theorem TakeP.form {p : Po} {u : Value} {M' : Mem} (h : TakeP p.st p.root p.next p.dead u M') : ∃ a, u = .tuple #[.pointer a, .int .i64 (wFc p)] := by
 unfold TakeP at h
 unfold wFc
 split at h
 ·rename_i hc; rw [hc]; exact ⟨_, h⟩
 rename_i hc
 obtain ⟨cb, _, _, _, _, _, _, _, _, h, _⟩ := h
 rw [hc]; exact ⟨_, h⟩
theorem fochk_spec (p : Po) (v : Value) (M : Mem) (h : PT M v p) (hd : p.dead.length ≤ 1000000) :
  SpecL Tryz.prog 29 #[v] M [] fun u M' L' => u = .int .i64 (wFc p) ∧ L' = [] := by
 have hv := h
 obtain ⟨_, _, _, _, _, rfl, _⟩ := hv
 refine wAe (vs := [_]) 11 _ Tryz.func29 rfl Tryz.ntmps29 rfl rfl ?_; intro W
 refine wAb (wAa (wAv rfl rfl (wBw (cs := [_, _, _, _, _, _, _, _]) rfl rfl rfl rfl) ?_)); rintro _ _ _ ⟨b1, rfl, rfl, rfl⟩
 refine jp rfl (wAc (jT (wAb (wAa (sLL rfl ?_)))))
 refine wAv rfl rfl (wAt rfl rfl rfl rfl rfl (by kernel_rfl) (take_spec p _ M h hd)) ?_; rintro _ M1 _ ⟨hM1, _, rfl, ⟨htp, rfl⟩⟩
 obtain ⟨a, rfl⟩ := htp.form
 refine jp rfl (jp rfl (jp rfl (jp rfl (jp rfl (wAc (jT (wAb (wAa (jp rfl (jp rfl (wAc (jT (wAf (wAu (L' := []) (List.nil_sublist _) ?_))))))))))))))
 refine jr1 rfl rfl ?_
 exact ⟨rfl, rfl⟩
end Go.Proofs.YtbhkdjheooknfaaGreat
