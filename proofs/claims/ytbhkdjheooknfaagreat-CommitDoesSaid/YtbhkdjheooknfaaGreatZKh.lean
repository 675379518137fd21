/- Walks: the document's marks of a pool's trees. -/
import Derived.Test.YtbhkdjheooknfaaGreatZKe
namespace Go.Proofs.YtbhkdjheooknfaaGreat
set_option linter.unusedSimpArgs false
set_option linter.unusedVariables false
set_option linter.unusedSectionVars false
open Go.RowKit
theorem wHb {ss : List Spn} {k : Int} {x : Spn} (h : ss[k.toNat]? = some x) : ∀ i v, (wCj x)[i]? = some v → (ss.flatMap wCj)[0 + k.toNat * 10 + i]? = some v := fun i v hv => by
 have hi : i < 10 := (List.getElem?_eq_some_iff.1 hv).1
 rw [Nat.zero_add, flat_get wCj 10 spnc_len ss k.toNat i hi, h]; exact hv
theorem spn_set {ss : List Spn} {k : Int} {x : Spn} (h : k.toNat < ss.length) : (ss.flatMap wCj).take (0 + k.toNat * 10) ++ wCj x ++ (ss.flatMap wCj).drop (0 + k.toNat * 10 + (wCj x).length) = (ss.set k.toNat x).flatMap wCj := by
 have ht : ∀ (n : Nat) (l : List Spn), (l.flatMap wCj).take (n * 10) = (l.take n).flatMap wCj ∧ (l.flatMap wCj).drop (n * 10) = (l.drop n).flatMap wCj := by
  intro n
  induction n with
  | zero => intro l; simp
  | succ n ih =>
   intro l
   cases l with
   | nil => simp
   | cons y ys =>
    rw [List.flatMap_cons, Nat.add_mul, Nat.one_mul, Nat.add_comm]
    have e : 10 = (wCj y).length := rfl
    constructor
    ·rw [List.take_succ_cons, List.flatMap_cons, ← (ih ys).1]
     conv => lhs; rw [e]
     rw [List.take_length_add_append]
     rfl
    rw [List.drop_succ_cons, ← (ih ys).2]
    conv => lhs; rw [e]
    rw [List.drop_length_add_append]
    rfl
 rw [Nat.zero_add, spnc_len, show k.toNat * 10 + 10 = (k.toNat + 1) * 10 by omega, (ht _ _).1, (ht _ _).2, List.set_eq_take_append_cons_drop, if_pos h, List.flatMap_append, List.flatMap_cons, List.append_assoc]
theorem lrq_no {s : Sto} {k level lv : Int} {xs : List It} {ss : List Spn} (hn : wCu s k.toNat = some (lv, xs)) (h : (wEb s lv xs).is = false) : LrQ s k level ⟨0, .slice none 0 0, wGb, false⟩ ss := by
 unfold LrQ
 cases hl : lrn s k level with
 | none => rfl
 | some q =>
  obtain ⟨lv', xs'⟩ := q
  have h2 := (lrn_is hl).2.2.1
  rw [hn] at h2
  have h3 : lv = lv' ∧ xs = xs' := by simpa using h2
  obtain ⟨rfl, rfl⟩ := h3
  exact ⟨h.symm, fun e => by cases e⟩
theorem lrq_yes {s : Sto} {k level lv : Int} {xs : List It} {ss : List Spn} {x : Spn} (hk : 8 ≤ k ∧ k < 256) (hn : wCu s k.toNat = some (lv, xs)) (hl : ¬ (0 ≤ level ∧ (lv ≠ level ∨ xs = []))) (h1 : x.sp.is = (wEb s lv xs).is) (h2 : x.sp.is = true → x.sp.first = (wEb s lv xs).first ∧ x.sp.last = (wEb s lv xs).last ∧ dnIs ss k) : LrQ s k level x ss := by
 unfold LrQ; rw [wHt hk hn hl]; exact ⟨h1, h2⟩
theorem spn_fit {ss : List Spn} {k : Int} (h : k.toNat < ss.length) : 0 + k.toNat * 10 + 10 ≤ (ss.flatMap wCj).length := by
 rw [wBm wCj 10 spnc_len]; omega
set_option maxHeartbeats 2000000 in
theorem rlearn_out_in (s : Sto) (hst : wDr s) (kb g : Nat) (bv wv lw : Value) (na : Option Addr) (nc : Nat) (k : Int) (M : Mem) (ss : List Spn) (hS : ST M (.agg #[bv, wv, .slice na s.now.length nc, lw]) s) (hSI : SpI M s ss) (l : Nat) (h : k < 8 ∨ 256 ≤ k) :
  SpecL Tryz.prog 81 #[.pointer (some ⟨kb, 0, none⟩), .int .i64 k, .int .i64 (l : Int), .bool false] M [(kb, .cells [bv, wv, .slice na s.now.length nc, lw, .slice (some ⟨g, 0, none⟩) 256 256].toArray 134 (0, 0)), (g, .cells (List.flatMap wCj ss).toArray 136 (0, 0))] fun u M' L' => ∃ lv a n c p dn ss', L' = [(kb, .cells [bv, wv, .slice na s.now.length nc, lw, .slice (some ⟨g, 0, none⟩) 256 256].toArray 134 (0, 0)), (g, .cells (List.flatMap wCj ss').toArray 136 (0, 0))] ∧ SpI M' s ss' ∧ SExt ss ss' ∧ u = .agg (spnd lv (.slice a n c) p dn).toArray ∧ LrQ s k ((l : Int)) ⟨lv, .slice a n c, p, dn⟩ ss' := by
 refine wAe (vs := [_, _, _, _]) 82 _ Tryz.func81 rfl Tryz.ntmps81 rfl rfl ?_; intro W
 refine wAb (wAa (sAl rfl fun b8 => ?_))
 refine wAc (jT (wAb (wAb (wAa (jp rfl (js rfl (fun h13 => ?_) (fun h13 => ?_)))))))
 ·refine jp rfl (jp rfl (jp rfl (jp rfl (wAc (jT (wAg rfl (wAb (wAa (wAi rfl rfl (wAq (cs := [_, _, _, _, _, _, _, _, _, _]) rfl rfl rfl (by rfl)) ?_)))))))))
  refine sSt rfl ?_
  refine wAc (jT (wAf (jTr (wBr (rs := [_]) ([(kb, .cells [bv, wv, .slice na s.now.length nc, lw, .slice (some ⟨g, 0, none⟩) 256 256].toArray 134 (0, 0)), (g, .cells (List.flatMap wCj ss).toArray 136 (0, 0))]) (by first | exact .cons _ (.refl _) | exact .cons _ (.cons _ (.refl _)) | exact .cons _ (.cons _ (.cons _ (.refl _))) | simp) rfl (.cons (.agg rfl rfl rfl) .nil) ?_))))
  exact ⟨0, none, 0, 0, wGb, false, ss, rfl, hSI, SExt.refl _, rfl, by unfold LrQ; rw [lrn_out h]; rfl⟩
 refine jp rfl (jp rfl (jt rfl (decide_eq_true (by omega)) ?_))
 refine jp rfl (wAc (jT (wAg rfl (wAb (wAa (wAi rfl rfl (wAq (cs := [_, _, _, _, _, _, _, _, _, _]) rfl rfl rfl (by rfl)) ?_))))))
 refine sSt rfl ?_
 refine wAc (jT (wAf (jTr (wBr (rs := [_]) ([(kb, .cells [bv, wv, .slice na s.now.length nc, lw, .slice (some ⟨g, 0, none⟩) 256 256].toArray 134 (0, 0)), (g, .cells (List.flatMap wCj ss).toArray 136 (0, 0))]) (by first | exact .cons _ (.refl _) | exact .cons _ (.cons _ (.refl _)) | exact .cons _ (.cons _ (.cons _ (.refl _))) | simp) rfl (.cons (.agg rfl rfl rfl) .nil) ?_))))
 exact ⟨0, none, 0, 0, wGb, false, ss, rfl, hSI, SExt.refl _, rfl, by unfold LrQ; rw [lrn_out h]; rfl⟩
set_option maxHeartbeats 2000000 in
theorem rlearn_done_in (s : Sto) (hst : wDr s) (kb g : Nat) (bv wv lw : Value) (na : Option Addr) (nc : Nat) (k : Int) (M : Mem) (ss : List Spn) (hS : ST M (.agg #[bv, wv, .slice na s.now.length nc, lw]) s) (hSI : SpI M s ss) (l : Nat) (hk : 8 ≤ k ∧ k < 256) (lv0 : Int) (a : Option Addr) (c : Nat) (p0 : Sp) (xs : List It) (hx : ss[k.toNat]? = some ⟨lv0, .slice a xs.length c, p0, true⟩) (hok : SpOk M s ss k.toNat ⟨lv0, .slice a xs.length c, p0, true⟩ xs) :
  SpecL Tryz.prog 81 #[.pointer (some ⟨kb, 0, none⟩), .int .i64 k, .int .i64 (l : Int), .bool false] M [(kb, .cells [bv, wv, .slice na s.now.length nc, lw, .slice (some ⟨g, 0, none⟩) 256 256].toArray 134 (0, 0)), (g, .cells (List.flatMap wCj ss).toArray 136 (0, 0))] fun u M' L' => ∃ lv a n c p dn ss', L' = [(kb, .cells [bv, wv, .slice na s.now.length nc, lw, .slice (some ⟨g, 0, none⟩) 256 256].toArray 134 (0, 0)), (g, .cells (List.flatMap wCj ss').toArray 136 (0, 0))] ∧ SpI M' s ss' ∧ SExt ss ss' ∧ u = .agg (spnd lv (.slice a n c) p dn).toArray ∧ LrQ s k ((l : Int)) ⟨lv, .slice a n c, p, dn⟩ ss' := by
 have hno := wBy hok.nd
 have hlen := hno.len
 refine wAe (vs := [_, _, _, _]) 82 _ Tryz.func81 rfl Tryz.ntmps81 rfl rfl ?_; intro W
 refine wAb (wAa (sAl rfl fun b8 => ?_))
 refine wAc (jT (wAb (wAb (wAa (jp rfl (jf rfl (decide_eq_false (by omega)) ?_))))))
 refine jp rfl (jp rfl (jf rfl (decide_eq_false (by omega)) ?_))
 refine jp rfl (wAc (jT (wAk rfl (wAd (jT (wAb (wAa (jp rfl (wAi rfl rfl (wAx rfl rfl rfl) ?_)))))))))
 refine sFL rfl rfl ?_
 refine jp rfl ?_
 have hsl := hSI.len
 refine wAi rfl rfl (wBb rfl rfl rfl rfl (by omega)) ?_
 refine wAi rfl rfl (wGp (cs := wCj ⟨lv0, .slice a xs.length c, p0, true⟩) rfl rfl rfl rfl rfl (fun i v hv => CJ.loc (wHb hx i v hv))) ?_
 refine sAl rfl fun b9 => ?_
 refine sSt rfl ?_
 refine wAc (jT (wAb (wAb (wAa (sFa rfl ?_)))))
 refine wAi rfl rfl (qEq (qLd rfl rfl rfl rfl (CJ.loc rfl)) (v' := .bool true) (by rfl)) ?_
 refine jp rfl (wAc (jT (wAk rfl (wAd (jT (wAb (wAb (wAa (sFa rfl ?_)))))))))
 refine wDf rfl rfl (qLd rfl rfl rfl rfl (CJ.loc rfl)) (fun h42 => ?_) (fun h42 => ?_)
 ·refine jp rfl (jp rfl (jp rfl (jt rfl (decide_eq_true (by omega)) ?_)))
  refine jp rfl (sFa rfl ?_)
  refine sFL rfl rfl ?_
  refine jp rfl (js rfl (fun h52 => ?_) (fun h52 => ?_))
  ·iterate 13 refine jp rfl ?_
   refine wAc (jT (wAg rfl (wAb (wAa (wAi rfl rfl (wAq (cs := [_, _, _, _, _, _, _, _, _, _]) rfl rfl rfl (by rfl)) ?_)))))
   refine sSt rfl ?_
   refine wAc (jT (wAf (jTr (wBr (rs := [_]) ([(kb, .cells [bv, wv, .slice na s.now.length nc, lw, .slice (some ⟨g, 0, none⟩) 256 256].toArray 134 (0, 0)), (g, .cells (List.flatMap wCj ss).toArray 136 (0, 0))]) (by first | exact .cons _ (.refl _) | exact .cons _ (.cons _ (.refl _)) | exact .cons _ (.cons _ (.cons _ (.refl _))) | simp) rfl (.cons (.agg rfl rfl rfl) .nil) ?_))))
   exact ⟨0, none, 0, 0, wGb, false, ss, rfl, hSI, SExt.refl _, rfl, by unfold LrQ; rw [wGq hok.nd ⟨by omega, .inl h52⟩]; rfl⟩
  refine jp rfl (jp rfl (jp rfl (jp rfl (jp rfl (jp rfl (sFa rfl ?_))))))
  refine sFL rfl rfl ?_
  refine wAi rfl rfl (wBe rfl rfl rfl) ?_
  refine js rfl (fun h63 => ?_) (fun h63 => ?_)
  ·refine jp rfl (jp rfl (wAc (jT (wAg rfl (wAb (wAa (wAi rfl rfl (wAq (cs := [_, _, _, _, _, _, _, _, _, _]) rfl rfl rfl (by rfl)) ?_)))))))
   refine sSt rfl ?_
   refine wAc (jT (wAf (jTr (wBr (rs := [_]) ([(kb, .cells [bv, wv, .slice na s.now.length nc, lw, .slice (some ⟨g, 0, none⟩) 256 256].toArray 134 (0, 0)), (g, .cells (List.flatMap wCj ss).toArray 136 (0, 0))]) (by first | exact .cons _ (.refl _) | exact .cons _ (.cons _ (.refl _)) | exact .cons _ (.cons _ (.cons _ (.refl _))) | simp) rfl (.cons (.agg rfl rfl rfl) .nil) ?_))))
   exact ⟨0, none, 0, 0, wGb, false, ss, rfl, hSI, SExt.refl _, rfl, by unfold LrQ; rw [wGq hok.nd ⟨by omega, .inr (List.eq_nil_of_length_eq_zero (by omega))⟩]; rfl⟩
  refine jp rfl (jp rfl (wAc (jT (wAk rfl (wAd (jT (wAb (wAb (wAa (sFa rfl ?_))))))))))
  refine wAi rfl rfl (qEq (qLd rfl rfl rfl rfl (CJ.loc rfl)) (v' := .bool true) (by rfl)) ?_
  refine jp rfl (wAc (jT (wAk rfl (wAd (jT (wAb (wAa (sLL rfl ?_))))))))
  refine sSt rfl ?_
  refine wAc (jT (wAf (wBr (rs := [_]) ([(kb, .cells [bv, wv, .slice na s.now.length nc, lw, .slice (some ⟨g, 0, none⟩) 256 256].toArray 134 (0, 0)), (g, .cells (List.flatMap wCj ss).toArray 136 (0, 0))]) (by first | exact .cons _ (.refl _) | exact .cons _ (.cons _ (.refl _)) | exact .cons _ (.cons _ (.cons _ (.refl _))) | simp) rfl (.cons (.agg rfl rfl rfl) .nil) ?_)))
  exact ⟨lv0, a, _, c, p0, true, ss, rfl, hSI, SExt.refl _, rfl, lrq_yes hk hok.nd (fun h => h.2.elim (fun e => by omega) (fun e => by rw [e] at h63; exact h63 rfl)) hok.is fun hi => ⟨(hok.eq hi).1, (hok.eq hi).2.1, _, hx, rfl, hi⟩⟩
 iterate 23 refine jp rfl ?_
 refine wAc (jT (wAg rfl (wAb (wAa (wAi rfl rfl (wAq (cs := [_, _, _, _, _, _, _, _, _, _]) rfl rfl rfl (by rfl)) ?_)))))
 refine sSt rfl ?_
 refine wAc (jT (wAf (jTr (wBr (rs := [_]) ([(kb, .cells [bv, wv, .slice na s.now.length nc, lw, .slice (some ⟨g, 0, none⟩) 256 256].toArray 134 (0, 0)), (g, .cells (List.flatMap wCj ss).toArray 136 (0, 0))]) (by first | exact .cons _ (.refl _) | exact .cons _ (.cons _ (.refl _)) | exact .cons _ (.cons _ (.cons _ (.refl _))) | simp) rfl (.cons (.agg rfl rfl rfl) .nil) ?_))))
 exact ⟨0, none, 0, 0, wGb, false, ss, rfl, hSI, SExt.refl _, rfl, lrq_no hok.nd (by rw [← hok.is]; exact h42)⟩
set_option maxHeartbeats 2000000 in
theorem rlearn_none_in (s : Sto) (hst : wDr s) (kb g : Nat) (bv wv lw : Value) (na : Option Addr) (nc : Nat) (k : Int) (M : Mem) (ss : List Spn) (hS : ST M (.agg #[bv, wv, .slice na s.now.length nc, lw]) s) (hSI : SpI M s ss) (l : Nat) (hk : 8 ≤ k ∧ k < 256) (hx : ss[k.toNat]? = some ⟨0, .slice none 0 0, wGb, false⟩) (hnd : wCu s k.toNat = none) :
  SpecL Tryz.prog 81 #[.pointer (some ⟨kb, 0, none⟩), .int .i64 k, .int .i64 (l : Int), .bool false] M [(kb, .cells [bv, wv, .slice na s.now.length nc, lw, .slice (some ⟨g, 0, none⟩) 256 256].toArray 134 (0, 0)), (g, .cells (List.flatMap wCj ss).toArray 136 (0, 0))] fun u M' L' => ∃ lv a n c p dn ss', L' = [(kb, .cells [bv, wv, .slice na s.now.length nc, lw, .slice (some ⟨g, 0, none⟩) 256 256].toArray 134 (0, 0)), (g, .cells (List.flatMap wCj ss').toArray 136 (0, 0))] ∧ SpI M' s ss' ∧ SExt ss ss' ∧ u = .agg (spnd lv (.slice a n c) p dn).toArray ∧ LrQ s k ((l : Int)) ⟨lv, .slice a n c, p, dn⟩ ss' := by
 refine wAe (vs := [_, _, _, _]) 82 _ Tryz.func81 rfl Tryz.ntmps81 rfl rfl ?_; intro W
 refine wAb (wAa (sAl rfl fun b8 => ?_))
 refine wAc (jT (wAb (wAb (wAa (jp rfl (jf rfl (decide_eq_false (by omega)) ?_))))))
 refine jp rfl (jp rfl (jf rfl (decide_eq_false (by omega)) ?_))
 refine jp rfl (wAc (jT (wAk rfl (wAd (jT (wAb (wAa (jp rfl (wAi rfl rfl (wAx rfl rfl rfl) ?_)))))))))
 refine sFL rfl rfl ?_
 refine jp rfl ?_
 have hsl := hSI.len
 refine wAi rfl rfl (wBb rfl rfl rfl rfl (by omega)) ?_
 refine wAi rfl rfl (wGp (cs := wCj ⟨0, .slice none 0 0, wGb, false⟩) rfl rfl rfl rfl rfl (fun i v hv => CJ.loc (wHb hx i v hv))) ?_
 refine sAl rfl fun b9 => ?_
 refine sSt rfl ?_
 refine wAc (jT (wAb (wAb (wAa (sFa rfl ?_)))))
 refine wAi rfl rfl (qEq (qLd rfl rfl rfl rfl (CJ.loc rfl)) (v' := .bool false) (by rfl)) ?_
 refine jp rfl (wAc (jT (wAg rfl (wAb (wAa (jp rfl (wAi rfl rfl (wAx rfl rfl rfl) ?_)))))))
 refine sFa rfl ?_
 refine sLL rfl ?_
 refine jp rfl (wAv rfl rfl (wAt rfl rfl rfl rfl rfl (by kernel_rfl) (rread8_no s _ M hS hst k (by omega) hnd)) ?_); rintro _ M1 _ ⟨hM1, _, rfl, ⟨⟨nl, ra, rn, rc, rfl⟩, rfl⟩⟩
 refine jp rfl (jp rfl (jp rfl (sAl rfl fun b10 => ?_)))
 refine sSt rfl ?_
 refine jp rfl (wAc (jT (wAa (sLL rfl ?_))))
 refine jp rfl (wAi rfl rfl (wAq (cs := [_, _, _, _, _, _, _, _, _, _]) rfl rfl rfl (by rfl)) ?_)
 refine sSt rfl ?_
 refine wAc (jT (wAb (wAb (wAa (sFa rfl ?_)))))
 refine wAi rfl rfl (qEq (qLd rfl rfl rfl rfl (CJ.loc rfl)) (v' := .bool false) (by rfl)) ?_
 iterate 23 refine jp rfl ?_
 refine wAc (jT (wAg rfl (wAb (wAa (wAi rfl rfl (wAq (cs := [_, _, _, _, _, _, _, _, _, _]) rfl rfl rfl (by rfl)) ?_)))))
 refine sSt rfl ?_
 refine wAc (jT (wAf (jTr (wBr (rs := [_]) ([(kb, .cells [bv, wv, .slice na s.now.length nc, lw, .slice (some ⟨g, 0, none⟩) 256 256].toArray 134 (0, 0)), (g, .cells (List.flatMap wCj ss).toArray 136 (0, 0))]) (by first | exact .cons _ (.refl _) | exact .cons _ (.cons _ (.refl _)) | exact .cons _ (.cons _ (.cons _ (.refl _))) | simp) rfl (.cons (.agg rfl rfl rfl) .nil) ?_))))
 exact ⟨0, none, 0, 0, wGb, false, ss, rfl, hSI.mono hM1, SExt.refl _, rfl, by unfold LrQ; rw [lrn_none hnd]; rfl⟩
set_option maxHeartbeats 2000000 in
theorem rlearn_some_in (s : Sto) (hst : wDr s) (kb g : Nat) (bv wv lw : Value) (na : Option Addr) (nc : Nat) (k : Int) (M : Mem) (ss : List Spn) (hS : ST M (.agg #[bv, wv, .slice na s.now.length nc, lw]) s) (hSI : SpI M s ss) (l : Nat) (hk : 8 ≤ k ∧ k < 256) (hx : ss[k.toNat]? = some ⟨0, .slice none 0 0, wGb, false⟩) (l0 : Nat) (xs : List It) (hnd : wCu s k.toNat = some ((l0 : Int), xs)) (ih : GnS s kb g bv wv lw na nc l) :
  SpecL Tryz.prog 81 #[.pointer (some ⟨kb, 0, none⟩), .int .i64 k, .int .i64 (l : Int), .bool false] M [(kb, .cells [bv, wv, .slice na s.now.length nc, lw, .slice (some ⟨g, 0, none⟩) 256 256].toArray 134 (0, 0)), (g, .cells (List.flatMap wCj ss).toArray 136 (0, 0))] fun u M' L' => ∃ lv a n c p dn ss', L' = [(kb, .cells [bv, wv, .slice na s.now.length nc, lw, .slice (some ⟨g, 0, none⟩) 256 256].toArray 134 (0, 0)), (g, .cells (List.flatMap wCj ss').toArray 136 (0, 0))] ∧ SpI M' s ss' ∧ SExt ss ss' ∧ u = .agg (spnd lv (.slice a n c) p dn).toArray ∧ LrQ s k ((l : Int)) ⟨lv, .slice a n c, p, dn⟩ ss' := by
 have hno := wBy hnd
 have hlen := hno.len
 refine wAe (vs := [_, _, _, _]) 82 _ Tryz.func81 rfl Tryz.ntmps81 rfl rfl ?_; intro W
 refine wAb (wAa (sAl rfl fun b8 => ?_))
 refine wAc (jT (wAb (wAb (wAa (jp rfl (jf rfl (decide_eq_false (by omega)) ?_))))))
 refine jp rfl (jp rfl (jf rfl (decide_eq_false (by omega)) ?_))
 refine jp rfl (wAc (jT (wAk rfl (wAd (jT (wAb (wAa (jp rfl (wAi rfl rfl (wAx rfl rfl rfl) ?_)))))))))
 refine sFL rfl rfl ?_
 refine jp rfl ?_
 have hsl := hSI.len
 refine wAi rfl rfl (wBb rfl rfl rfl rfl (by omega)) ?_
 refine wAi rfl rfl (wGp (cs := wCj ⟨0, .slice none 0 0, wGb, false⟩) rfl rfl rfl rfl rfl (fun i v hv => CJ.loc (wHb hx i v hv))) ?_
 refine sAl rfl fun b9 => ?_
 refine sSt rfl ?_
 refine wAc (jT (wAb (wAb (wAa (sFa rfl ?_)))))
 refine wAi rfl rfl (qEq (qLd rfl rfl rfl rfl (CJ.loc rfl)) (v' := .bool false) (by rfl)) ?_
 refine jp rfl (wAc (jT (wAg rfl (wAb (wAa (jp rfl (wAi rfl rfl (wAx rfl rfl rfl) ?_)))))))
 refine sFa rfl ?_
 refine sLL rfl ?_
 refine jp rfl (wAv rfl rfl (wAt rfl rfl rfl rfl rfl (by kernel_rfl) (wHo s _ M hS hst k (by omega) hnd)) ?_); rintro _ M1 _ ⟨hM1, _, rfl, ⟨⟨a, c, ps, rfl, hc, hs, hp, hb⟩, rfl⟩⟩
 refine jp rfl (jp rfl (jp rfl (sAl rfl fun b10 => ?_)))
 refine sSt rfl ?_
 refine jp rfl (wAc (jT (wAa (sLL rfl ?_))))
 refine jp rfl (wAi rfl rfl (wAq (cs := [_, _, _, _, _, _, _, _, _, _]) rfl rfl rfl (by rfl)) ?_)
 refine sSt rfl ?_
 refine wAc (jT (wAb (wAb (wAa (sFa rfl ?_)))))
 refine wAi rfl rfl (qEq (qLd rfl rfl rfl rfl (CJ.loc rfl)) (v' := .bool true) (by rfl)) ?_
 refine jp rfl (jp rfl (jp rfl (jt rfl (decide_eq_true (by omega)) ?_)))
 refine jp rfl (sFa rfl ?_)
 refine sFL rfl rfl ?_
 refine jp rfl (js rfl (fun h52 => ?_) (fun h52 => ?_))
 ·iterate 13 refine jp rfl ?_
  refine wAc (jT (wAg rfl (wAb (wAa (wAi rfl rfl (wAq (cs := [_, _, _, _, _, _, _, _, _, _]) rfl rfl rfl (by rfl)) ?_)))))
  refine sSt rfl ?_
  refine wAc (jT (wAf (jTr (wBr (rs := [_]) ([(kb, .cells [bv, wv, .slice na s.now.length nc, lw, .slice (some ⟨g, 0, none⟩) 256 256].toArray 134 (0, 0)), (g, .cells (List.flatMap wCj ss).toArray 136 (0, 0))]) (by first | exact .cons _ (.refl _) | exact .cons _ (.cons _ (.refl _)) | exact .cons _ (.cons _ (.cons _ (.refl _))) | simp) rfl (.cons (.agg rfl rfl rfl) .nil) ?_))))
  exact ⟨0, none, 0, 0, wGb, false, ss, rfl, hSI.mono hM1, SExt.refl _, rfl, by unfold LrQ; rw [wGq hnd ⟨by omega, .inl h52⟩]; rfl⟩
 refine jp rfl (jp rfl (jp rfl (jp rfl (jp rfl (jp rfl (sFa rfl ?_))))))
 refine sFL rfl rfl ?_
 refine wAi rfl rfl (wBe rfl rfl rfl) ?_
 refine js rfl (fun h63 => ?_) (fun h63 => ?_)
 ·refine jp rfl (jp rfl (wAc (jT (wAg rfl (wAb (wAa (wAi rfl rfl (wAq (cs := [_, _, _, _, _, _, _, _, _, _]) rfl rfl rfl (by rfl)) ?_)))))))
  refine sSt rfl ?_
  refine wAc (jT (wAf (jTr (wBr (rs := [_]) ([(kb, .cells [bv, wv, .slice na s.now.length nc, lw, .slice (some ⟨g, 0, none⟩) 256 256].toArray 134 (0, 0)), (g, .cells (List.flatMap wCj ss).toArray 136 (0, 0))]) (by first | exact .cons _ (.refl _) | exact .cons _ (.cons _ (.refl _)) | exact .cons _ (.cons _ (.cons _ (.refl _))) | simp) rfl (.cons (.agg rfl rfl rfl) .nil) ?_))))
  exact ⟨0, none, 0, 0, wGb, false, ss, rfl, hSI.mono hM1, SExt.refl _, rfl, by unfold LrQ; rw [wGq hnd ⟨by omega, .inr (List.eq_nil_of_length_eq_zero (by omega))⟩]; rfl⟩
 refine jp rfl (jp rfl (wAc (jT (wAk rfl (wAd (jT (wAb (wAb (wAa (sFa rfl ?_))))))))))
 refine wAi rfl rfl (qEq (qLd rfl rfl rfl rfl (CJ.loc rfl)) (v' := .bool false) (by rfl)) ?_
 refine jp rfl (wAc (jT (wAg rfl (wAb (wAa (jp rfl (sFa rfl ?_)))))))
 refine sLL rfl ?_
 obtain rfl : l0 = l := by omega
 refine wAv rfl rfl (wAt rfl rfl rfl rfl rfl (by kernel_rfl) (ih xs a c M1 ss (hS.mono hM1) (hSI.mono hM1) ⟨a, c, ps, rfl, hc, hs, hp, hb⟩ hno)) ?_; rintro _ M2 _ ⟨hM2, _, rfl, ⟨pq, ss2, rfl, hSI2, hE2, rfl, hG⟩⟩
 simp only [List.cons_append, List.nil_append]
 refine sSt rfl ?_
 refine wAc (jT (wBj (p := { A := fun i => !([7].contains i), U := fun i => !([7].contains i) }) [(0, true), (1, true), (2, true), (3, true), (4, true), (5, true), (6, true), (7, false)] M2 (_) ([]) (by kernel_rfl) (by kernel_rfl) (by kernel_rfl) (by kernel_rfl) rfl (fun _ h => h) (MLe.refl _) (by simp) ?_))
 refine dp rfl rfl ?_
 refine wBh rfl rfl rfl (wAx rfl rfl rfl) ?_
 refine dFa rfl rfl ?_
 refine dLd rfl rfl ?_
 refine dp rfl rfl ?_
 refine dLL rfl rfl ?_
 have hsl2 := hSI2.len
 refine wBh rfl rfl rfl (wBb rfl rfl rfl rfl (by omega)) ?_
 refine jd_e rfl rfl (wBd (cs := wCj ⟨(l0 : Int), .slice a xs.length c, pq, true⟩) (l2 := (ss2.set k.toNat ⟨(l0 : Int), .slice a xs.length c, pq, true⟩).flatMap wCj) rfl rfl rfl rfl rfl rfl rfl (Nat.ble_eq_true_of_le (spn_fit (by omega))) (spn_set (by omega))) ?_; rintro _ _ _ ⟨rfl, rfl⟩
 refine ⟨MLe.refl _, by simp, ?_⟩
 refine wCn ?_
 refine jPn (jT (wAb (wAa (sLL rfl ?_))))
 refine sSt rfl ?_
 refine wAc (jT (wAf (wBr (rs := [_]) ([(kb, .cells [bv, wv, .slice na s.now.length nc, lw, .slice (some ⟨g, 0, none⟩) 256 256].toArray 134 (0, 0)), (g, .cells (List.flatMap wCj (ss2.set k.toNat ⟨(l0 : Int), .slice a xs.length c, pq, true⟩)).toArray 136 (0, 0))]) (by first | exact .cons _ (.refl _) | exact .cons _ (.cons _ (.refl _)) | exact .cons _ (.cons _ (.cons _ (.refl _))) | simp) rfl (.cons (.agg rfl rfl rfl) .nil) ?_)))
 have hP := hSI2.put (k := k.toNat) (x := ⟨(l0 : Int), .slice a xs.length c, pq, true⟩) (xs := xs) (by omega) rfl ⟨hnd, NS.mono ⟨a, c, ps, rfl, hc, hs, hp, hb⟩ hM2, hG.is, hG.eq⟩
 exact ⟨l0, a, _, c, pq, true, ss2.set k.toNat ⟨(l0 : Int), .slice a xs.length c, pq, true⟩, rfl, hP.1, hE2.trans hP.2, rfl, lrq_yes hk hnd (fun h => h.2.elim (fun e => by omega) (fun e => by rw [e] at h63; exact h63 rfl)) hG.is fun hi => ⟨(hG.eq hi).1, (hG.eq hi).2.1, _, List.getElem?_set_self (by rw [hSI2.len]; omega), rfl, hi⟩⟩
set_option maxHeartbeats 2000000 in
theorem rlearn_out_rt (s : Sto) (hst : wDr s) (kb g : Nat) (bv wv lw : Value) (na : Option Addr) (nc : Nat) (k : Int) (M : Mem) (ss : List Spn) (hS : ST M (.agg #[bv, wv, .slice na s.now.length nc, lw]) s) (hSI : SpI M s ss) (h : k < 8 ∨ 256 ≤ k) :
  SpecL Tryz.prog 81 #[.pointer (some ⟨kb, 0, none⟩), .int .i64 k, .int .i64 (-1), .bool true] M [(kb, .cells [bv, wv, .slice na s.now.length nc, lw, .slice (some ⟨g, 0, none⟩) 256 256].toArray 134 (0, 0)), (g, .cells (List.flatMap wCj ss).toArray 136 (0, 0))] fun u M' L' => ∃ lv a n c p dn ss', L' = [(kb, .cells [bv, wv, .slice na s.now.length nc, lw, .slice (some ⟨g, 0, none⟩) 256 256].toArray 134 (0, 0)), (g, .cells (List.flatMap wCj ss').toArray 136 (0, 0))] ∧ SpI M' s ss' ∧ SExt ss ss' ∧ u = .agg (spnd lv (.slice a n c) p dn).toArray ∧ LrQ s k (-1) ⟨lv, .slice a n c, p, dn⟩ ss' := by
 refine wAe (vs := [_, _, _, _]) 82 _ Tryz.func81 rfl Tryz.ntmps81 rfl rfl ?_; intro W
 refine wAb (wAa (sAl rfl fun b8 => ?_))
 refine wAc (jT (wAb (wAb (wAa (jp rfl (js rfl (fun h13 => ?_) (fun h13 => ?_)))))))
 ·refine jp rfl (jp rfl (jp rfl (jp rfl (wAc (jT (wAg rfl (wAb (wAa (wAi rfl rfl (wAq (cs := [_, _, _, _, _, _, _, _, _, _]) rfl rfl rfl (by rfl)) ?_)))))))))
  refine sSt rfl ?_
  refine wAc (jT (wAf (jTr (wBr (rs := [_]) ([(kb, .cells [bv, wv, .slice na s.now.length nc, lw, .slice (some ⟨g, 0, none⟩) 256 256].toArray 134 (0, 0)), (g, .cells (List.flatMap wCj ss).toArray 136 (0, 0))]) (by first | exact .cons _ (.refl _) | exact .cons _ (.cons _ (.refl _)) | exact .cons _ (.cons _ (.cons _ (.refl _))) | simp) rfl (.cons (.agg rfl rfl rfl) .nil) ?_))))
  exact ⟨0, none, 0, 0, wGb, false, ss, rfl, hSI, SExt.refl _, rfl, by unfold LrQ; rw [lrn_out h]; rfl⟩
 refine jp rfl (jp rfl (jt rfl (decide_eq_true (by omega)) ?_))
 refine jp rfl (wAc (jT (wAg rfl (wAb (wAa (wAi rfl rfl (wAq (cs := [_, _, _, _, _, _, _, _, _, _]) rfl rfl rfl (by rfl)) ?_))))))
 refine sSt rfl ?_
 refine wAc (jT (wAf (jTr (wBr (rs := [_]) ([(kb, .cells [bv, wv, .slice na s.now.length nc, lw, .slice (some ⟨g, 0, none⟩) 256 256].toArray 134 (0, 0)), (g, .cells (List.flatMap wCj ss).toArray 136 (0, 0))]) (by first | exact .cons _ (.refl _) | exact .cons _ (.cons _ (.refl _)) | exact .cons _ (.cons _ (.cons _ (.refl _))) | simp) rfl (.cons (.agg rfl rfl rfl) .nil) ?_))))
 exact ⟨0, none, 0, 0, wGb, false, ss, rfl, hSI, SExt.refl _, rfl, by unfold LrQ; rw [lrn_out h]; rfl⟩
set_option maxHeartbeats 2000000 in
theorem rlearn_done_rt (s : Sto) (hst : wDr s) (kb g : Nat) (bv wv lw : Value) (na : Option Addr) (nc : Nat) (k : Int) (M : Mem) (ss : List Spn) (hS : ST M (.agg #[bv, wv, .slice na s.now.length nc, lw]) s) (hSI : SpI M s ss) (hk : 8 ≤ k ∧ k < 256) (lv0 : Int) (a : Option Addr) (c : Nat) (p0 : Sp) (xs : List It) (hx : ss[k.toNat]? = some ⟨lv0, .slice a xs.length c, p0, true⟩) (hok : SpOk M s ss k.toNat ⟨lv0, .slice a xs.length c, p0, true⟩ xs) :
  SpecL Tryz.prog 81 #[.pointer (some ⟨kb, 0, none⟩), .int .i64 k, .int .i64 (-1), .bool true] M [(kb, .cells [bv, wv, .slice na s.now.length nc, lw, .slice (some ⟨g, 0, none⟩) 256 256].toArray 134 (0, 0)), (g, .cells (List.flatMap wCj ss).toArray 136 (0, 0))] fun u M' L' => ∃ lv a n c p dn ss', L' = [(kb, .cells [bv, wv, .slice na s.now.length nc, lw, .slice (some ⟨g, 0, none⟩) 256 256].toArray 134 (0, 0)), (g, .cells (List.flatMap wCj ss').toArray 136 (0, 0))] ∧ SpI M' s ss' ∧ SExt ss ss' ∧ u = .agg (spnd lv (.slice a n c) p dn).toArray ∧ LrQ s k (-1) ⟨lv, .slice a n c, p, dn⟩ ss' := by
 have hno := wBy hok.nd
 have hlen := hno.len
 refine wAe (vs := [_, _, _, _]) 82 _ Tryz.func81 rfl Tryz.ntmps81 rfl rfl ?_; intro W
 refine wAb (wAa (sAl rfl fun b8 => ?_))
 refine wAc (jT (wAb (wAb (wAa (jp rfl (jf rfl (decide_eq_false (by omega)) ?_))))))
 refine jp rfl (jp rfl (jf rfl (decide_eq_false (by omega)) ?_))
 refine jp rfl (wAc (jT (wAk rfl (wAd (jT (wAb (wAa (jp rfl (wAi rfl rfl (wAx rfl rfl rfl) ?_)))))))))
 refine sFL rfl rfl ?_
 refine jp rfl ?_
 have hsl := hSI.len
 refine wAi rfl rfl (wBb rfl rfl rfl rfl (by omega)) ?_
 refine wAi rfl rfl (wGp (cs := wCj ⟨lv0, .slice a xs.length c, p0, true⟩) rfl rfl rfl rfl rfl (fun i v hv => CJ.loc (wHb hx i v hv))) ?_
 refine sAl rfl fun b9 => ?_
 refine sSt rfl ?_
 refine wAc (jT (wAb (wAb (wAa (sFa rfl ?_)))))
 refine wAi rfl rfl (qEq (qLd rfl rfl rfl rfl (CJ.loc rfl)) (v' := .bool true) (by rfl)) ?_
 refine jp rfl (wAc (jT (wAk rfl (wAd (jT (wAb (wAb (wAa (sFa rfl ?_)))))))))
 refine wDf rfl rfl (qLd rfl rfl rfl rfl (CJ.loc rfl)) (fun h42 => ?_) (fun h42 => ?_)
 ·refine jp rfl (jp rfl (jp rfl (jf rfl (decide_eq_false (by omega)) ?_)))
  iterate 19 refine jp rfl ?_
  refine wAc (jT (wAk rfl (wAd (jT (wAb (wAb (wAa (sFa rfl ?_))))))))
  refine wAi rfl rfl (qEq (qLd rfl rfl rfl rfl (CJ.loc rfl)) (v' := .bool true) (by rfl)) ?_
  refine jp rfl (wAc (jT (wAk rfl (wAd (jT (wAb (wAa (sLL rfl ?_))))))))
  refine sSt rfl ?_
  refine wAc (jT (wAf (wBr (rs := [_]) ([(kb, .cells [bv, wv, .slice na s.now.length nc, lw, .slice (some ⟨g, 0, none⟩) 256 256].toArray 134 (0, 0)), (g, .cells (List.flatMap wCj ss).toArray 136 (0, 0))]) (by first | exact .cons _ (.refl _) | exact .cons _ (.cons _ (.refl _)) | exact .cons _ (.cons _ (.cons _ (.refl _))) | simp) rfl (.cons (.agg rfl rfl rfl) .nil) ?_)))
  exact ⟨lv0, a, _, c, p0, true, ss, rfl, hSI, SExt.refl _, rfl, lrq_yes hk hok.nd (fun h => by omega) hok.is fun hi => ⟨(hok.eq hi).1, (hok.eq hi).2.1, _, hx, rfl, hi⟩⟩
 iterate 23 refine jp rfl ?_
 refine wAc (jT (wAg rfl (wAb (wAa (wAi rfl rfl (wAq (cs := [_, _, _, _, _, _, _, _, _, _]) rfl rfl rfl (by rfl)) ?_)))))
 refine sSt rfl ?_
 refine wAc (jT (wAf (jTr (wBr (rs := [_]) ([(kb, .cells [bv, wv, .slice na s.now.length nc, lw, .slice (some ⟨g, 0, none⟩) 256 256].toArray 134 (0, 0)), (g, .cells (List.flatMap wCj ss).toArray 136 (0, 0))]) (by first | exact .cons _ (.refl _) | exact .cons _ (.cons _ (.refl _)) | exact .cons _ (.cons _ (.cons _ (.refl _))) | simp) rfl (.cons (.agg rfl rfl rfl) .nil) ?_))))
 exact ⟨0, none, 0, 0, wGb, false, ss, rfl, hSI, SExt.refl _, rfl, lrq_no hok.nd (by rw [← hok.is]; exact h42)⟩
set_option maxHeartbeats 2000000 in
theorem rlearn_none_rt (s : Sto) (hst : wDr s) (kb g : Nat) (bv wv lw : Value) (na : Option Addr) (nc : Nat) (k : Int) (M : Mem) (ss : List Spn) (hS : ST M (.agg #[bv, wv, .slice na s.now.length nc, lw]) s) (hSI : SpI M s ss) (hk : 8 ≤ k ∧ k < 256) (hx : ss[k.toNat]? = some ⟨0, .slice none 0 0, wGb, false⟩) (hnd : wCu s k.toNat = none) :
  SpecL Tryz.prog 81 #[.pointer (some ⟨kb, 0, none⟩), .int .i64 k, .int .i64 (-1), .bool true] M [(kb, .cells [bv, wv, .slice na s.now.length nc, lw, .slice (some ⟨g, 0, none⟩) 256 256].toArray 134 (0, 0)), (g, .cells (List.flatMap wCj ss).toArray 136 (0, 0))] fun u M' L' => ∃ lv a n c p dn ss', L' = [(kb, .cells [bv, wv, .slice na s.now.length nc, lw, .slice (some ⟨g, 0, none⟩) 256 256].toArray 134 (0, 0)), (g, .cells (List.flatMap wCj ss').toArray 136 (0, 0))] ∧ SpI M' s ss' ∧ SExt ss ss' ∧ u = .agg (spnd lv (.slice a n c) p dn).toArray ∧ LrQ s k (-1) ⟨lv, .slice a n c, p, dn⟩ ss' := by
 refine wAe (vs := [_, _, _, _]) 82 _ Tryz.func81 rfl Tryz.ntmps81 rfl rfl ?_; intro W
 refine wAb (wAa (sAl rfl fun b8 => ?_))
 refine wAc (jT (wAb (wAb (wAa (jp rfl (jf rfl (decide_eq_false (by omega)) ?_))))))
 refine jp rfl (jp rfl (jf rfl (decide_eq_false (by omega)) ?_))
 refine jp rfl (wAc (jT (wAk rfl (wAd (jT (wAb (wAa (jp rfl (wAi rfl rfl (wAx rfl rfl rfl) ?_)))))))))
 refine sFL rfl rfl ?_
 refine jp rfl ?_
 have hsl := hSI.len
 refine wAi rfl rfl (wBb rfl rfl rfl rfl (by omega)) ?_
 refine wAi rfl rfl (wGp (cs := wCj ⟨0, .slice none 0 0, wGb, false⟩) rfl rfl rfl rfl rfl (fun i v hv => CJ.loc (wHb hx i v hv))) ?_
 refine sAl rfl fun b9 => ?_
 refine sSt rfl ?_
 refine wAc (jT (wAb (wAb (wAa (sFa rfl ?_)))))
 refine wAi rfl rfl (qEq (qLd rfl rfl rfl rfl (CJ.loc rfl)) (v' := .bool false) (by rfl)) ?_
 refine jp rfl (wAc (jT (wAg rfl (wAb (wAa (jp rfl (wAi rfl rfl (wAx rfl rfl rfl) ?_)))))))
 refine sFa rfl ?_
 refine sLL rfl ?_
 refine jp rfl (wAv rfl rfl (wAt rfl rfl rfl rfl rfl (by kernel_rfl) (rread8_no s _ M hS hst k (by omega) hnd)) ?_); rintro _ M1 _ ⟨hM1, _, rfl, ⟨⟨nl, ra, rn, rc, rfl⟩, rfl⟩⟩
 refine jp rfl (jp rfl (jp rfl (sAl rfl fun b10 => ?_)))
 refine sSt rfl ?_
 refine jp rfl (wAc (jT (wAa (sLL rfl ?_))))
 refine jp rfl (wAi rfl rfl (wAq (cs := [_, _, _, _, _, _, _, _, _, _]) rfl rfl rfl (by rfl)) ?_)
 refine sSt rfl ?_
 refine wAc (jT (wAb (wAb (wAa (sFa rfl ?_)))))
 refine wAi rfl rfl (qEq (qLd rfl rfl rfl rfl (CJ.loc rfl)) (v' := .bool false) (by rfl)) ?_
 iterate 23 refine jp rfl ?_
 refine wAc (jT (wAg rfl (wAb (wAa (wAi rfl rfl (wAq (cs := [_, _, _, _, _, _, _, _, _, _]) rfl rfl rfl (by rfl)) ?_)))))
 refine sSt rfl ?_
 refine wAc (jT (wAf (jTr (wBr (rs := [_]) ([(kb, .cells [bv, wv, .slice na s.now.length nc, lw, .slice (some ⟨g, 0, none⟩) 256 256].toArray 134 (0, 0)), (g, .cells (List.flatMap wCj ss).toArray 136 (0, 0))]) (by first | exact .cons _ (.refl _) | exact .cons _ (.cons _ (.refl _)) | exact .cons _ (.cons _ (.cons _ (.refl _))) | simp) rfl (.cons (.agg rfl rfl rfl) .nil) ?_))))
 exact ⟨0, none, 0, 0, wGb, false, ss, rfl, hSI.mono hM1, SExt.refl _, rfl, by unfold LrQ; rw [lrn_none hnd]; rfl⟩
set_option maxHeartbeats 2000000 in
theorem rlearn_some_rt (s : Sto) (hst : wDr s) (kb g : Nat) (bv wv lw : Value) (na : Option Addr) (nc : Nat) (k : Int) (M : Mem) (ss : List Spn) (hS : ST M (.agg #[bv, wv, .slice na s.now.length nc, lw]) s) (hSI : SpI M s ss) (hk : 8 ≤ k ∧ k < 256) (hx : ss[k.toNat]? = some ⟨0, .slice none 0 0, wGb, false⟩) (l0 : Nat) (xs : List It) (hnd : wCu s k.toNat = some ((l0 : Int), xs)) (ih : ∀ l, GnS s kb g bv wv lw na nc l) :
  SpecL Tryz.prog 81 #[.pointer (some ⟨kb, 0, none⟩), .int .i64 k, .int .i64 (-1), .bool true] M [(kb, .cells [bv, wv, .slice na s.now.length nc, lw, .slice (some ⟨g, 0, none⟩) 256 256].toArray 134 (0, 0)), (g, .cells (List.flatMap wCj ss).toArray 136 (0, 0))] fun u M' L' => ∃ lv a n c p dn ss', L' = [(kb, .cells [bv, wv, .slice na s.now.length nc, lw, .slice (some ⟨g, 0, none⟩) 256 256].toArray 134 (0, 0)), (g, .cells (List.flatMap wCj ss').toArray 136 (0, 0))] ∧ SpI M' s ss' ∧ SExt ss ss' ∧ u = .agg (spnd lv (.slice a n c) p dn).toArray ∧ LrQ s k (-1) ⟨lv, .slice a n c, p, dn⟩ ss' := by
 have hno := wBy hnd
 have hlen := hno.len
 refine wAe (vs := [_, _, _, _]) 82 _ Tryz.func81 rfl Tryz.ntmps81 rfl rfl ?_; intro W
 refine wAb (wAa (sAl rfl fun b8 => ?_))
 refine wAc (jT (wAb (wAb (wAa (jp rfl (jf rfl (decide_eq_false (by omega)) ?_))))))
 refine jp rfl (jp rfl (jf rfl (decide_eq_false (by omega)) ?_))
 refine jp rfl (wAc (jT (wAk rfl (wAd (jT (wAb (wAa (jp rfl (wAi rfl rfl (wAx rfl rfl rfl) ?_)))))))))
 refine sFL rfl rfl ?_
 refine jp rfl ?_
 have hsl := hSI.len
 refine wAi rfl rfl (wBb rfl rfl rfl rfl (by omega)) ?_
 refine wAi rfl rfl (wGp (cs := wCj ⟨0, .slice none 0 0, wGb, false⟩) rfl rfl rfl rfl rfl (fun i v hv => CJ.loc (wHb hx i v hv))) ?_
 refine sAl rfl fun b9 => ?_
 refine sSt rfl ?_
 refine wAc (jT (wAb (wAb (wAa (sFa rfl ?_)))))
 refine wAi rfl rfl (qEq (qLd rfl rfl rfl rfl (CJ.loc rfl)) (v' := .bool false) (by rfl)) ?_
 refine jp rfl (wAc (jT (wAg rfl (wAb (wAa (jp rfl (wAi rfl rfl (wAx rfl rfl rfl) ?_)))))))
 refine sFa rfl ?_
 refine sLL rfl ?_
 refine jp rfl (wAv rfl rfl (wAt rfl rfl rfl rfl rfl (by kernel_rfl) (wHo s _ M hS hst k (by omega) hnd)) ?_); rintro _ M1 _ ⟨hM1, _, rfl, ⟨⟨a, c, ps, rfl, hc, hs, hp, hb⟩, rfl⟩⟩
 refine jp rfl (jp rfl (jp rfl (sAl rfl fun b10 => ?_)))
 refine sSt rfl ?_
 refine jp rfl (wAc (jT (wAa (sLL rfl ?_))))
 refine jp rfl (wAi rfl rfl (wAq (cs := [_, _, _, _, _, _, _, _, _, _]) rfl rfl rfl (by rfl)) ?_)
 refine sSt rfl ?_
 refine wAc (jT (wAb (wAb (wAa (sFa rfl ?_)))))
 refine wAi rfl rfl (qEq (qLd rfl rfl rfl rfl (CJ.loc rfl)) (v' := .bool true) (by rfl)) ?_
 refine jp rfl (jp rfl (jp rfl (jf rfl (decide_eq_false (by omega)) ?_)))
 iterate 19 refine jp rfl ?_
 refine wAc (jT (wAk rfl (wAd (jT (wAb (wAb (wAa (sFa rfl ?_))))))))
 refine wAi rfl rfl (qEq (qLd rfl rfl rfl rfl (CJ.loc rfl)) (v' := .bool false) (by rfl)) ?_
 refine jp rfl (wAc (jT (wAg rfl (wAb (wAa (jp rfl (sFa rfl ?_)))))))
 refine sLL rfl ?_
 refine wAv rfl rfl (wAt rfl rfl rfl rfl rfl (by kernel_rfl) (ih l0 xs a c M1 ss (hS.mono hM1) (hSI.mono hM1) ⟨a, c, ps, rfl, hc, hs, hp, hb⟩ hno)) ?_; rintro _ M2 _ ⟨hM2, _, rfl, ⟨pq, ss2, rfl, hSI2, hE2, rfl, hG⟩⟩
 simp only [List.cons_append, List.nil_append]
 refine sSt rfl ?_
 refine wAc (jT (wBj (p := { A := fun i => !([7].contains i), U := fun i => !([7].contains i) }) [(0, true), (1, true), (2, true), (3, true), (4, true), (5, true), (6, true), (7, false)] M2 (_) ([]) (by kernel_rfl) (by kernel_rfl) (by kernel_rfl) (by kernel_rfl) rfl (fun _ h => h) (MLe.refl _) (by simp) ?_))
 refine dp rfl rfl ?_
 refine wBh rfl rfl rfl (wAx rfl rfl rfl) ?_
 refine dFa rfl rfl ?_
 refine dLd rfl rfl ?_
 refine dp rfl rfl ?_
 refine dLL rfl rfl ?_
 have hsl2 := hSI2.len
 refine wBh rfl rfl rfl (wBb rfl rfl rfl rfl (by omega)) ?_
 refine jd_e rfl rfl (wBd (cs := wCj ⟨(l0 : Int), .slice a xs.length c, pq, true⟩) (l2 := (ss2.set k.toNat ⟨(l0 : Int), .slice a xs.length c, pq, true⟩).flatMap wCj) rfl rfl rfl rfl rfl rfl rfl (Nat.ble_eq_true_of_le (spn_fit (by omega))) (spn_set (by omega))) ?_; rintro _ _ _ ⟨rfl, rfl⟩
 refine ⟨MLe.refl _, by simp, ?_⟩
 refine wCn ?_
 refine jPn (jT (wAb (wAa (sLL rfl ?_))))
 refine sSt rfl ?_
 refine wAc (jT (wAf (wBr (rs := [_]) ([(kb, .cells [bv, wv, .slice na s.now.length nc, lw, .slice (some ⟨g, 0, none⟩) 256 256].toArray 134 (0, 0)), (g, .cells (List.flatMap wCj (ss2.set k.toNat ⟨(l0 : Int), .slice a xs.length c, pq, true⟩)).toArray 136 (0, 0))]) (by first | exact .cons _ (.refl _) | exact .cons _ (.cons _ (.refl _)) | exact .cons _ (.cons _ (.cons _ (.refl _))) | simp) rfl (.cons (.agg rfl rfl rfl) .nil) ?_)))
 have hP := hSI2.put (k := k.toNat) (x := ⟨(l0 : Int), .slice a xs.length c, pq, true⟩) (xs := xs) (by omega) rfl ⟨hnd, NS.mono ⟨a, c, ps, rfl, hc, hs, hp, hb⟩ hM2, hG.is, hG.eq⟩
 exact ⟨l0, a, _, c, pq, true, ss2.set k.toNat ⟨(l0 : Int), .slice a xs.length c, pq, true⟩, rfl, hP.1, hE2.trans hP.2, rfl, lrq_yes hk hnd (fun h => by omega) hG.is fun hi => ⟨(hG.eq hi).1, (hG.eq hi).2.1, _, List.getElem?_set_self (by rw [hSI2.len]; omega), rfl, hi⟩⟩
theorem gns_zero {s : Sto} (hst : wDr s) {kb g : Nat} {bv wv lw : Value} {na : Option Addr} {nc : Nat} : GnS s kb g bv wv lw na nc 0 := by
 intro xs a c M ss hS hSI hns hno
 obtain ⟨a', c', ps, e, hc, hs, hp, hb⟩ := hns
 cases e
 obtain ⟨_, _, _, _, e, _, _, ⟨na', nc', e3, _, h3⟩, _⟩ := hS.ex
 cases e
 cases e3
 exact rgone_leaf s hst kb g bv wv lw na nc xs a c ps M hc hs hp hb h3 hno ss hSI
theorem gns_succ {s : Sto} (hst : wDr s) {kb g : Nat} {bv wv lw : Value} {na : Option Addr} {nc : Nat} {l : Nat} (ih : LnS s kb g bv wv lw na nc (l : Int) false) : GnS s kb g bv wv lw na nc (l + 1) := by
 intro xs a c M ss hS hSI hns hno
 obtain ⟨a', c', ps, e, hc, hs, hp, hb⟩ := hns
 cases e
 exact rgone_up s hst kb g bv wv lw na nc xs a c ps M hc hs hp hb hS l hno ss hSI ih
theorem spn_form {M : Mem} {s : Sto} {ss : List Spn} (h : SpI M s ss) {k : Int} (hk : 8 ≤ k ∧ k < 256) : ss[k.toNat]? = some ⟨0, .slice none 0 0, wGb, false⟩ ∨ ∃ lv a c p xs, ss[k.toNat]? = some ⟨lv, .slice a (List.length xs) c, p, true⟩ ∧ SpOk M s ss k.toNat ⟨lv, .slice a (List.length xs) c, p, true⟩ xs := by
 have hl := h.len
 have e : ss[k.toNat]? = some (ss[k.toNat]'(by omega)) := List.getElem?_eq_getElem (by omega)
 rcases h.ok k.toNat _ e with h1 | ⟨h1, xs, h2⟩
 ·left; rw [e, h1]; rfl
 right
 obtain ⟨x, hx⟩ : ∃ x, x = ss[k.toNat]'(by omega) := ⟨_, rfl⟩
 rw [← hx] at e h1 h2
 obtain ⟨lv, sl, p, dn⟩ := x
 obtain ⟨a, c, ps, e2, _⟩ := id h2.ns
 dsimp only at h1 e2
 subst h1; subst e2
 exact ⟨lv, a, c, p, xs, e, h2⟩
theorem lns_in {s : Sto} (hst : wDr s) {kb g : Nat} {bv wv lw : Value} {na : Option Addr} {nc : Nat} {l : Nat} (ih : GnS s kb g bv wv lw na nc l) : LnS s kb g bv wv lw na nc (l : Int) false := by
 intro k M ss hS hSI hk
 by_cases h : k < 8 ∨ 256 ≤ k
 ·exact rlearn_out_in s hst kb g bv wv lw na nc k M ss hS hSI l h
 rcases spn_form hSI (k := k) (by omega) with h1 | ⟨lv, a, c, p, xs, h1, h2⟩
 ·cases hnd : wCu s k.toNat with
  | none => exact rlearn_none_in s hst kb g bv wv lw na nc k M ss hS hSI l (by omega) h1 hnd
  | some q =>
   obtain ⟨lv, xs⟩ := q
   obtain ⟨l0, rfl⟩ := Int.eq_ofNat_of_zero_le (wBy hnd).lev.1
   exact rlearn_some_in s hst kb g bv wv lw na nc k M ss hS hSI l (by omega) h1 l0 xs hnd ih
 exact rlearn_done_in s hst kb g bv wv lw na nc k M ss hS hSI l (by omega) lv a c p xs h1 h2
theorem lns_rt {s : Sto} (hst : wDr s) {kb g : Nat} {bv wv lw : Value} {na : Option Addr} {nc : Nat} (ih : ∀ l, GnS s kb g bv wv lw na nc l) : LnS s kb g bv wv lw na nc (-1) true := by
 intro k M ss hS hSI hk
 by_cases h : k < 8 ∨ 256 ≤ k
 ·exact rlearn_out_rt s hst kb g bv wv lw na nc k M ss hS hSI h
 rcases spn_form hSI (k := k) (by omega) with h1 | ⟨lv, a, c, p, xs, h1, h2⟩
 ·cases hnd : wCu s k.toNat with
  | none => exact rlearn_none_rt s hst kb g bv wv lw na nc k M ss hS hSI (by omega) h1 hnd
  | some q =>
   obtain ⟨lv, xs⟩ := q
   obtain ⟨l0, rfl⟩ := Int.eq_ofNat_of_zero_le (wBy hnd).lev.1
   exact rlearn_some_rt s hst kb g bv wv lw na nc k M ss hS hSI (by omega) h1 l0 xs hnd ih
 exact rlearn_done_rt s hst kb g bv wv lw na nc k M ss hS hSI (by omega) lv a c p xs h1 h2
theorem gns_all {s : Sto} (hst : wDr s) {kb g : Nat} {bv wv lw : Value} {na : Option Addr} {nc : Nat} : ∀ l, GnS s kb g bv wv lw na nc l
 | 0 => gns_zero hst
 | l + 1 => gns_succ hst (lns_in hst (gns_all hst l))
theorem learn_rt {s : Sto} (hst : wDr s) {kb g : Nat} {bv wv lw : Value} {na : Option Addr} {nc : Nat} : LnS s kb g bv wv lw na nc (-1) true := lns_rt hst (gns_all hst)
def onK (N : List Int) (j : Nat) : Prop := 0 < N.getD j 0
theorem zgetK {N : List Int} {i : Int} (h : i.toNat < N.length) : (N.map (Value.int .i64))[0 + i.toNat * 1]? = some (.int .i64 (N.getD i.toNat 0)) := by
 rw [Nat.zero_add, Nat.mul_one, List.getElem?_map, List.getElem?_eq_getElem h]; simp [List.getD, h]
theorem zfitK {N : List Int} {i : Int} (h : i.toNat < N.length) : Nat.ble (0 + i.toNat * 1 + 1) (N.map (Value.int .i64)).length = true := by
 rw [List.length_map]; exact Nat.ble_eq_true_of_le (by omega)
theorem zsetK {N : List Int} {i v : Int} (h : i.toNat < N.length) : (N.map (Value.int .i64)).take (0 + i.toNat * 1) ++ [Value.int .i64 v] ++ (N.map (Value.int .i64)).drop (0 + i.toNat * 1 + [Value.int .i64 v].length) = (N.set i.toNat v).map (Value.int .i64) := by
 rw [Nat.zero_add, Nat.mul_one, List.map_set, List.set_eq_take_append_cons_drop, if_pos (by rw [List.length_map]; exact h)]
 simp
theorem set_get {N : List Int} {k : Nat} {v : Int} (h : k < N.length) (j : Nat) : (N.set k v).getD j 0 = if j = k then v else N.getD j 0 := by
 by_cases e : j = k
 ·subst e; rw [if_pos rfl]; simp [List.getD, h]
 rw [if_neg e]; simp [List.getD, List.getElem?_set_ne (fun h => e h.symm)]
structure MrP (s : Sto) (rs : List Int) (k : Nat) (R N R' N' : List Int) (T' : Nat) : Prop where
 rl : R'.length = 256
 nl : N'.length = 256
 rb : ∀ j, 0 ≤ R'.getD j 0 ∧ R'.getD j 0 ≤ T'
 sub : ∀ j, onK N j → onK N' j
 me : onK N' k
 new : ∀ j, onK N' j → onK N j ∨ (Rcs s rs j ∧ ∀ lv ys, wCu s j = some (lv, ys) → 0 < lv → ∀ y ∈ ys, onK N' y.ref.toNat)
 eq : ∀ j, j < 256 → R'.getD j 0 - sg s N' j = R.getD j 0 - sg s N j
structure MrI (s : Sto) (rs : List Int) (k : Nat) (lv : Int) (xs : List It) (R0 N0 : List Int) (i : Nat) (R N : List Int) (T' : Nat) : Prop where
 rl : R.length = 256
 nl : N.length = 256
 rb : ∀ j, 0 ≤ R.getD j 0 ∧ R.getD j 0 ≤ T'
 sub : ∀ j, onK N0 j → onK N j
 me : onK N k
 new : ∀ j, onK N j → onK N0 j ∨ j = k ∨ (Rcs s rs j ∧ ∀ lv ys, wCu s j = some (lv, ys) → 0 < lv → ∀ y ∈ ys, onK N y.ref.toNat)
 eq : ∀ j, j < 256 → R.getD j 0 - sg s N j = R0.getD j 0 - sg s N0 j - wHw xs j + wHw (xs.take i) j
 cl : 0 < lv → ∀ y ∈ xs.take i, onK N y.ref.toNat
theorem MrI.start {s : Sto} {rs : List Int} {k T : Nat} {lv : Int} {xs : List It} {R N : List Int} (hR : R.length = 256) (hN : N.length = 256) (hb : ∀ j, 0 ≤ R.getD j 0 ∧ R.getD j 0 ≤ T) (hk : k < 256) (h0 : ¬ 0 < N.getD k 0) (hnd : wCu s k = some (lv, xs)) : MrI s rs k lv xs R N 0 R (N.set k 1) T := by
 have hg := fun j => set_get (N := N) (k := k) (v := 1) (by omega) j
 have hon : ∀ j, onK (N.set k 1) j ↔ j = k ∨ onK N j := fun j => by
  unfold onK; rw [hg j]
  split
  ·rename_i e; exact ⟨fun _ => .inl e, fun _ => by omega⟩
  rename_i e; exact ⟨.inr, fun h => h.resolve_left e⟩
 refine ⟨hR, by rw [List.length_set]; exact hN, hb, fun j h => (hon j).2 (.inr h), (hon k).2 (.inl rfl), fun j h => ((hon j).1 h).elim (fun e => .inr (.inl e)) .inl, fun j hj => ?_, fun _ y hy => by simp at hy⟩
 have h1 := sg_new (s := s) (p := N) (q := N.set k 1) (n := k) hk h0 (by rw [hg k, if_pos rfl]; omega) (fun i hi => by rw [hg i, if_neg hi]) j
 have h2 : cnt s k j = wHw xs j := by unfold cnt; rw [hnd]
 have h3 : wHw (xs.take 0) j = 0 := by simp [wHw]
 rw [h1, h2, h3]; omega
theorem cnt_skip {xs : List It} {i : Nat} (hi : i < xs.length) (h : xs[i].ref = 0) (j : Nat) : wHw (xs.take (i + 1)) j = wHw (xs.take i) j := by
 rw [List.take_succ_eq_append_getElem hi, cntL_app]
 have : wHw [xs[i]] j = 0 := by unfold wHw; rw [List.filter_cons_of_neg (by simp [h])]; rfl
 omega
theorem cnt_on {xs : List It} {i : Nat} (hi : i < xs.length) (h : xs[i].ref ≠ 0) (hr : 0 ≤ xs[i].ref) (j : Nat) : wHw (xs.take (i + 1)) j = wHw (xs.take i) j + if j = xs[i].ref.toNat then 1 else 0 := by
 rw [List.take_succ_eq_append_getElem hi, cntL_app]
 have : wHw [xs[i]] j = if j = xs[i].ref.toNat then 1 else 0 := by
  unfold wHw
  by_cases e : j = xs[i].ref.toNat
  ·rw [if_pos e, List.filter_cons_of_pos (by simp [h]; omega)]; rfl
  rw [if_neg e, List.filter_cons_of_neg (by simp; omega)]; rfl
 omega
theorem MrI.skip {s : Sto} {rs : List Int} {k i T' : Nat} {lv : Int} {xs : List It} {R0 N0 R N : List Int} (h : MrI s rs k lv xs R0 N0 i R N T') {T2 : Nat} (hT : T' ≤ T2) (hi : i < xs.length) (hx : xs[i].ref = 0) (hl : ¬ 0 < lv) : MrI s rs k lv xs R0 N0 (i + 1) R N T2 :=
 ⟨h.rl, h.nl, fun j => by have := h.rb j; omega, h.sub, h.me, h.new, fun j hj => by rw [cnt_skip hi hx, h.eq j hj], fun a => absurd a hl⟩
theorem MrI.refd {s : Sto} {rs : List Int} {k i T' : Nat} {lv : Int} {xs : List It} {R0 N0 R N : List Int} (h : MrI s rs k lv xs R0 N0 i R N T') {T2 : Nat} (hT : T' + 1 ≤ T2) (hi : i < xs.length) (hx : xs[i].ref ≠ 0) (hr : 0 ≤ xs[i].ref ∧ xs[i].ref < 256) (hl : ¬ 0 < lv) : MrI s rs k lv xs R0 N0 (i + 1) (R.set xs[i].ref.toNat (R.getD xs[i].ref.toNat 0 + 1)) N T2 := by
 have hg := fun j => set_get (N := R) (k := xs[i].ref.toNat) (v := R.getD xs[i].ref.toNat 0 + 1) (by rw [h.rl]; omega) j
 refine ⟨by rw [List.length_set]; exact h.rl, h.nl, fun j => ?_, h.sub, h.me, h.new, fun j hj => ?_, fun a => absurd a hl⟩
 ·rw [hg j]; have h1 := h.rb j; have h2 := h.rb xs[i].ref.toNat; split <;> omega
 rw [hg j, cnt_on hi hx hr.1]; have h1 := h.eq j hj
 split
 ·rename_i e; subst e; omega
 omega
theorem MrI.kid {s : Sto} {rs : List Int} {k i T' : Nat} {lv : Int} {xs : List It} {R0 N0 R N R' N' : List Int} {T2 : Nat} (h : MrI s rs k lv xs R0 N0 i R N T') (hi : i < xs.length) (hx : xs[i].ref ≠ 0) (hr : 0 ≤ xs[i].ref ∧ xs[i].ref < 256) (hp : MrP s rs xs[i].ref.toNat (R.set xs[i].ref.toNat (R.getD xs[i].ref.toNat 0 + 1)) N R' N' T2) : MrI s rs k lv xs R0 N0 (i + 1) R' N' T2 := by
 have hg := fun j => set_get (N := R) (k := xs[i].ref.toNat) (v := R.getD xs[i].ref.toNat 0 + 1) (by rw [h.rl]; omega) j
 refine ⟨hp.rl, hp.nl, hp.rb, fun j hj => hp.sub j (h.sub j hj), hp.sub _ h.me, fun j hj => ?_, fun j hj => ?_, fun hl => wEy hi (fun y hy => hp.sub _ (h.cl hl y hy)) hp.me⟩
 ·rcases hp.new j hj with h1 | h1
  ·exact (h.new j h1).imp id fun h2 => h2.imp id fun h3 => ⟨h3.1, fun lv ys a b y hy => hp.sub _ (h3.2 lv ys a b y hy)⟩
  exact .inr (.inr h1)
 have h1 := hp.eq j hj
 have h2 := h.eq j hj
 rw [hg j] at h1
 rw [h1, cnt_on hi hx hr.1]
 split at h1 <;> rename_i e
 ·subst e; rw [if_pos rfl, if_pos rfl]; omega
 rw [if_neg e, if_neg e]; omega
theorem MrI.done {s : Sto} {rs : List Int} {k i T' T2 : Nat} {lv : Int} {xs : List It} {R0 N0 R N : List Int} (h : MrI s rs k lv xs R0 N0 i R N T') (hi : i = xs.length) (hr : Rcs s rs k) (hnd : wCu s k = some (lv, xs)) (hT : T' ≤ T2) : MrP s rs k R0 N0 R N T2 := by
 refine ⟨h.rl, h.nl, fun j => by have := h.rb j; omega, h.sub, h.me, fun j hj => (h.new j hj).elim .inl fun h1 => .inr (h1.elim (fun e => ?_) id), fun j hj => ?_⟩
 ·subst e
  refine ⟨hr, fun lv2 ys h2 hl y hy => ?_⟩
  rw [hnd] at h2; cases h2
  exact h.cl hl y (by rw [hi, List.take_length]; exact hy)
 have := h.eq j hj
 rw [hi, List.take_length] at this; omega
theorem MrP.early {s : Sto} {rs : List Int} {k T T' : Nat} {R N : List Int} (hR : R.length = 256) (hN : N.length = 256) (hb : ∀ j, 0 ≤ R.getD j 0 ∧ R.getD j 0 ≤ T) (h0 : 0 < N.getD k 0) (hT : T ≤ T') : MrP s rs k R N R N T' :=
 ⟨hR, hN, fun j => by have := hb j; omega, fun _ h => h, h0, fun j hj => .inl hj, fun _ _ => rfl⟩
def vsk : Nat → Nat
 | 0 => 5
 | l + 1 => 5 * (1 + vsk l)
def MrS (s : Sto) (kb g : Nat) (bv wv lw : Value) (na : Option Addr) (nc : Nat) (rs : List Int) (l : Nat) : Prop := ∀ (k : Int) (xs : List It) (R N : List Int) (T gR gN : Nat) (M : Mem) (ss : List Spn), SpI M s ss → dnIs ss k → 8 ≤ k ∧ k < 256 → wCu s k.toNat = some ((l : Int), xs) → Rcs s rs k.toNat → R.length = 256 → N.length = 256 → (∀ j, 0 ≤ R.getD j 0 ∧ R.getD j 0 ≤ T) → T + vsk l ≤ 100000000 →
 SpecL Tryz.prog 83 #[.pointer (some ⟨kb, 0, none⟩), .int .i64 k, .slice (some ⟨gR, 0, none⟩) 256 256, .slice (some ⟨gN, 0, none⟩) 256 256] M [(kb, .cells [bv, wv, .slice na s.now.length nc, lw, .slice (some ⟨g, 0, none⟩) 256 256].toArray 134 (0, 0)), (g, .cells (List.flatMap wCj ss).toArray 136 (0, 0)), (gR, .cells (List.map (Value.int .i64) R).toArray 3 (0, 0)), (gN, .cells (List.map (Value.int .i64) N).toArray 3 (0, 0))] fun _ M' L' => M = M' ∧ ∃ R' N', L' = [(kb, .cells [bv, wv, .slice na s.now.length nc, lw, .slice (some ⟨g, 0, none⟩) 256 256].toArray 134 (0, 0)), (g, .cells (List.flatMap wCj ss).toArray 136 (0, 0)), (gR, .cells (List.map (Value.int .i64) R').toArray 3 (0, 0)), (gN, .cells (List.map (Value.int .i64) N').toArray 3 (0, 0))] ∧ MrP s rs k.toNat R N R' N' (T + vsk l)
set_option maxHeartbeats 2000000 in
theorem rmark_leaf (s : Sto) (hst : wDr s) (kb g : Nat) (bv wv lw : Value) (na : Option Addr) (nc : Nat) (rs : List Int) (k : Int) (hk : 8 ≤ k ∧ k < 256) (xs : List It) (R N : List Int) (T gR gN : Nat) (M : Mem) (ss : List Spn) (hSI : SpI M s ss) (a : Option Addr) (c : Nat) (p0 : Sp) (ps : List (It × Value)) (hs : SM M a (ps.flatMap wCp)) (hp : ps.map (·.1) = xs) (hb : ∀ p ∈ ps, BS M p.2 p.1.val) (hr : Rcs s rs k.toNat) (hR : R.length = 256) (hN : N.length = 256) (hRb : ∀ j, 0 ≤ R.getD j 0 ∧ R.getD j 0 ≤ T) (hx : ss[k.toNat]? = some ⟨0, .slice a xs.length c, p0, true⟩) (hnd : wCu s k.toNat = some (0, xs)) (hT : T + vsk (0) ≤ 100000000) :
  SpecL Tryz.prog 83 #[.pointer (some ⟨kb, 0, none⟩), .int .i64 k, .slice (some ⟨gR, 0, none⟩) 256 256, .slice (some ⟨gN, 0, none⟩) 256 256] M [(kb, .cells [bv, wv, .slice na s.now.length nc, lw, .slice (some ⟨g, 0, none⟩) 256 256].toArray 134 (0, 0)), (g, .cells (List.flatMap wCj ss).toArray 136 (0, 0)), (gR, .cells (List.map (Value.int .i64) R).toArray 3 (0, 0)), (gN, .cells (List.map (Value.int .i64) N).toArray 3 (0, 0))] fun _ M' L' => M = M' ∧ ∃ R' N', L' = [(kb, .cells [bv, wv, .slice na s.now.length nc, lw, .slice (some ⟨g, 0, none⟩) 256 256].toArray 134 (0, 0)), (g, .cells (List.flatMap wCj ss).toArray 136 (0, 0)), (gR, .cells (List.map (Value.int .i64) R').toArray 3 (0, 0)), (gN, .cells (List.map (Value.int .i64) N').toArray 3 (0, 0))] ∧ MrP s rs k.toNat R N R' N' (T + vsk (0)) := by
 have hno := wBy hnd
 have hx5 := hno.len
 have hlv := hno.lev
 have hvis : vsk (0) = 5 := rfl
 refine wAe (vs := [_, _, _, _]) 64 _ Tryz.func83 rfl Tryz.ntmps83 rfl rfl ?_; intro W
 refine wAb (wAb (wAa (jp rfl (jp rfl ?_))))
 have hsl := hSI.len
 refine wAi rfl rfl (wBb rfl rfl rfl rfl (by omega)) ?_
 refine wAi rfl rfl (qLd rfl rfl rfl rfl (CJ.loc (zgetK (N := N) (by omega)))) ?_
 refine js rfl (fun h14 => ?_) (fun h14 => ?_)
 ·refine wAc (jT (wAg rfl (wAf (jTr ?_))))
  refine wJj (L' := [(kb, .cells [bv, wv, .slice na s.now.length nc, lw, .slice (some ⟨g, 0, none⟩) 256 256].toArray 134 (0, 0)), (g, .cells (List.flatMap wCj ss).toArray 136 (0, 0)), (gR, .cells (List.map (Value.int .i64) R).toArray 3 (0, 0)), (gN, .cells (List.map (Value.int .i64) N).toArray 3 (0, 0))]) (fun _ h => h.subC fun f => by simp only [List.map_append, List.map_cons, List.map_nil, List.sum_append, List.sum_cons, List.sum_nil]; omega) ?_
  refine jrs (rs := []) rfl .nil ?_
  exact ⟨rfl, _, _, rfl, MrP.early hR hN hRb (by omega) (by omega)⟩
 refine wAc (jT (wAk rfl (wAd (jT (wAb (wAa (jp rfl (jp rfl (wAi rfl rfl (wBb rfl rfl rfl rfl (by omega)) ?_)))))))))
 refine jl_s rfl (wBd (l2 := (N.set k.toNat 1).map (Value.int .i64)) rfl rfl rfl rfl rfl rfl rfl (zfitK (N := N) (i := k) (by omega)) (zsetK (N := N) (i := k) (by omega))) ?_; rintro _ _ _ ⟨rfl, rfl⟩
 refine wAc (jT (wAb (wAa (jp rfl (wAi rfl rfl (wAx rfl rfl rfl) ?_)))))
 refine sFL rfl rfl ?_
 refine jp rfl (wAi rfl rfl (wBb rfl rfl rfl rfl (by omega)) ?_)
 refine sFa rfl ?_
 refine wAi rfl rfl (wGp (cs := [Value.int .i64 (0), .slice a xs.length c]) rfl rfl rfl rfl rfl (fun i v hv => CJ.loc (wHb hx i v (by match i, hv with | 0, hv => exact hv | 1, hv => exact hv)))) ?_
 refine sAl rfl fun b8 => ?_
 refine sSt rfl ?_
 refine wAc (jT (wAb (wAa (jp rfl (wAc (jT (wAh ?_)))))))
 refine wAo (α := Nat × List Int × List Int) (fun z => [(0, .pointer (some ⟨kb, 0, none⟩)), (2, .slice (some ⟨gR, 0, none⟩) 256 256), (3, .slice (some ⟨gN, 0, none⟩) 256 256), (8, .pointer (some ⟨b8, 0, none⟩)), (9, .int .i64 z.1)]) (fun z => M) (fun z => [(b8, .cells [Value.int .i64 (0), .slice a xs.length c].toArray 111 (0, 0)), (kb, .cells [bv, wv, .slice na s.now.length nc, lw, .slice (some ⟨g, 0, none⟩) 256 256].toArray 134 (0, 0)), (g, .cells (List.flatMap wCj ss).toArray 136 (0, 0)), (gR, .cells (List.map (Value.int .i64) z.2.1).toArray 3 (0, 0)), (gN, .cells (List.map (Value.int .i64) z.2.2).toArray 3 (0, 0))]) (fun z => z.1 ≤ xs.length ∧ MrI s rs k.toNat (0) xs R N z.1 z.2.1 z.2.2 (T + z.1 * 1)) (fun z => xs.length - z.1)
  (0, R, N.set k.toNat 1) (.cons (t := 0) rfl (.cons (t := 2) rfl (.cons (t := 3) rfl (.cons (t := 8) rfl (.cons (t := 9) rfl .nil))))) ⟨Nat.zero_le _, by show MrI _ _ _ _ _ _ _ 0 _ _ (T + 0 * _); rw [Nat.zero_mul]; exact MrI.start hR hN hRb (by omega) (by omega) hnd⟩ (fun _ h => h.subC fun f => by simp only [List.map_append, List.map_cons, List.map_nil, List.sum_append, List.sum_cons, List.sum_nil]; omega) ?_
 rintro ⟨i, R2, N2⟩ ⟨hi, hI⟩
 try dsimp only at hi hI ⊢
 refine wAb (wAb (wAa (jp rfl (sFL rfl rfl ?_))))
 refine wAi rfl rfl (wBe rfl rfl rfl) ?_
 refine js rfl (fun h30 => ?_) (fun h30 => ?_)
 ·refine wAc (jT (wAg rfl (wAd (jT (wAb (wAh (wAb (wAb (wAa (sFL rfl rfl ?_))))))))))
  refine jp rfl ?_
  have hi1 : i < xs.length := by omega
  obtain ⟨sb, so, va, vc, e0, hcl, hvc, hvs⟩ := it_get hs hp hb hi1 (i := (i : Int)) rfl
  have hrf := hno.ref _ (List.getElem_mem hi1)
  refine wAi rfl rfl (wCf rfl rfl rfl rfl e0 (by omega)) ?_
  refine sFa rfl ?_
  refine wAi rfl rfl (qLd rfl rfl rfl rfl ((hcl 3 _ rfl).cj _)) ?_
  refine js rfl (fun h39 => ?_) (fun h39 => ?_)
  ·refine wAc (jT (wAg rfl (wAs (jTx (jBx (jT (wAa (jp rfl (ja rfl (by omega) ?_)))))))))
   refine jp rfl (wAc ?_)
   refine wAn (i + 1, R2, N2) (.cons (t := 0) rfl (.cons (t := 2) rfl (.cons (t := 3) rfl (.cons (t := 8) rfl (.cons (t := 9) rfl .nil))))) ⟨by show i + 1 ≤ xs.length; omega, ?_⟩ (by show xs.length - (i + 1) < xs.length - i; omega) (fun _ h => h.subC fun f => by simp only [List.map_append, List.map_cons, List.map_nil, List.sum_append, List.sum_cons, List.sum_nil]; omega)
   show MrI s rs k.toNat (0) xs R N (i + 1) R2 N2 (T + (i + 1) * 1)
   rw [show T + (i + 1) * 1 = T + i * 1 + 1 by rw [Nat.add_mul, Nat.one_mul]; omega]
   exact hI.skip (Nat.le_succ _) hi1 (by omega) (by decide)
  refine wAc (jT (wAk rfl (wAd (jT (wAb (wAa (jp rfl (sFL rfl rfl ?_))))))))
  refine jp rfl (wAi rfl rfl (wCf rfl rfl rfl rfl e0 (by omega)) ?_)
  refine sFa rfl ?_
  refine wAi rfl rfl (qLd rfl rfl rfl rfl ((hcl 3 _ rfl).cj _)) ?_
  have hRl2 := hI.rl
  have hb3 := hI.rb xs[i].ref.toNat
  refine wAi rfl rfl (wBb rfl rfl rfl rfl (by omega)) ?_
  refine wAi rfl rfl (qLd rfl rfl rfl rfl (CJ.loc (zgetK (N := R2) (by omega)))) ?_
  refine ja rfl (by omega) ?_
  refine wAi rfl rfl (wBb rfl rfl rfl rfl (by omega)) ?_
  refine jl_s rfl (wBd (l2 := (R2.set xs[i].ref.toNat (R2.getD xs[i].ref.toNat 0 + 1)).map (Value.int .i64)) rfl rfl rfl rfl rfl rfl rfl (zfitK (N := R2) (i := xs[i].ref) (by omega)) (zsetK (N := R2) (i := xs[i].ref) (by omega))) ?_; rintro _ _ _ ⟨rfl, rfl⟩
  refine wAc (jT (wAb (wAa (sFL rfl rfl ?_))))
  refine jf rfl (decide_eq_false (by omega)) ?_
  refine wAc (jT (wAk rfl (wAd (jB (jT (wAa (jp rfl (ja rfl (by omega) ?_))))))))
  refine jp rfl (wAc ?_)
  refine wAn (i + 1, (R2.set xs[i].ref.toNat (R2.getD xs[i].ref.toNat 0 + 1)), N2) (.cons (t := 0) rfl (.cons (t := 2) rfl (.cons (t := 3) rfl (.cons (t := 8) rfl (.cons (t := 9) rfl .nil))))) ⟨by show i + 1 ≤ xs.length; omega, ?_⟩ (by show xs.length - (i + 1) < xs.length - i; omega) (fun _ h => h.subC fun f => by simp only [List.map_append, List.map_cons, List.map_nil, List.sum_append, List.sum_cons, List.sum_nil]; omega)
  show MrI s rs k.toNat (0) xs R N (i + 1) (R2.set xs[i].ref.toNat (R2.getD xs[i].ref.toNat 0 + 1)) N2 (T + (i + 1) * 1)
  rw [show T + (i + 1) * 1 = T + i * 1 + 1 by rw [Nat.add_mul, Nat.one_mul]; omega]
  exact hI.refd (Nat.le_refl _) hi1 h39 (by omega) (by decide)
 refine wAc (jT (wAk rfl (wAs (jTx (jTx (jBx (jrn ?_)))))))
 refine wJj (L' := [(kb, .cells [bv, wv, .slice na s.now.length nc, lw, .slice (some ⟨g, 0, none⟩) 256 256].toArray 134 (0, 0)), (g, .cells (List.flatMap wCj ss).toArray 136 (0, 0)), (gR, .cells (List.map (Value.int .i64) R2).toArray 3 (0, 0)), (gN, .cells (List.map (Value.int .i64) N2).toArray 3 (0, 0))]) (fun _ h => h.subC fun f => by simp only [List.map_append, List.map_cons, List.map_nil, List.sum_append, List.sum_cons, List.sum_nil]; omega) ?_
 refine jrs (rs := []) rfl .nil ?_
 have hvm : i * 1 ≤ 5 * 1 := Nat.mul_le_mul_right _ (by omega)
 exact ⟨rfl, _, _, rfl, hI.done (by omega) hr hnd (by omega)⟩
set_option maxHeartbeats 2000000 in
theorem rmark_up (s : Sto) (hst : wDr s) (kb g : Nat) (bv wv lw : Value) (na : Option Addr) (nc : Nat) (rs : List Int) (k : Int) (hk : 8 ≤ k ∧ k < 256) (xs : List It) (R N : List Int) (T gR gN : Nat) (M : Mem) (ss : List Spn) (hSI : SpI M s ss) (a : Option Addr) (c : Nat) (p0 : Sp) (ps : List (It × Value)) (hs : SM M a (ps.flatMap wCp)) (hp : ps.map (·.1) = xs) (hb : ∀ p ∈ ps, BS M p.2 p.1.val) (hr : Rcs s rs k.toNat) (hR : R.length = 256) (hN : N.length = 256) (hRb : ∀ j, 0 ≤ R.getD j 0 ∧ R.getD j 0 ≤ T) (l : Nat) (hx : ss[k.toNat]? = some ⟨((l + 1 : Nat) : Int), .slice a xs.length c, p0, true⟩) (hnd : wCu s k.toNat = some (((l + 1 : Nat) : Int), xs)) (hkd : ∀ y ∈ xs, dnIs ss y.ref) (htr : ∀ y ∈ xs, ∃ ys, wCu s y.ref.toNat = some ((l : Int), ys)) (ih : MrS s kb g bv wv lw na nc rs l) (hT : T + vsk (l + 1) ≤ 100000000) :
  SpecL Tryz.prog 83 #[.pointer (some ⟨kb, 0, none⟩), .int .i64 k, .slice (some ⟨gR, 0, none⟩) 256 256, .slice (some ⟨gN, 0, none⟩) 256 256] M [(kb, .cells [bv, wv, .slice na s.now.length nc, lw, .slice (some ⟨g, 0, none⟩) 256 256].toArray 134 (0, 0)), (g, .cells (List.flatMap wCj ss).toArray 136 (0, 0)), (gR, .cells (List.map (Value.int .i64) R).toArray 3 (0, 0)), (gN, .cells (List.map (Value.int .i64) N).toArray 3 (0, 0))] fun _ M' L' => M = M' ∧ ∃ R' N', L' = [(kb, .cells [bv, wv, .slice na s.now.length nc, lw, .slice (some ⟨g, 0, none⟩) 256 256].toArray 134 (0, 0)), (g, .cells (List.flatMap wCj ss).toArray 136 (0, 0)), (gR, .cells (List.map (Value.int .i64) R').toArray 3 (0, 0)), (gN, .cells (List.map (Value.int .i64) N').toArray 3 (0, 0))] ∧ MrP s rs k.toNat R N R' N' (T + vsk (l + 1)) := by
 have hno := wBy hnd
 have hx5 := hno.len
 have hlv := hno.lev
 have hvis : vsk (l + 1) = 5 * (1 + vsk l) := rfl
 refine wAe (vs := [_, _, _, _]) 64 _ Tryz.func83 rfl Tryz.ntmps83 rfl rfl ?_; intro W
 refine wAb (wAb (wAa (jp rfl (jp rfl ?_))))
 have hsl := hSI.len
 refine wAi rfl rfl (wBb rfl rfl rfl rfl (by omega)) ?_
 refine wAi rfl rfl (qLd rfl rfl rfl rfl (CJ.loc (zgetK (N := N) (by omega)))) ?_
 refine js rfl (fun h14 => ?_) (fun h14 => ?_)
 ·refine wAc (jT (wAg rfl (wAf (jTr ?_))))
  refine wJj (L' := [(kb, .cells [bv, wv, .slice na s.now.length nc, lw, .slice (some ⟨g, 0, none⟩) 256 256].toArray 134 (0, 0)), (g, .cells (List.flatMap wCj ss).toArray 136 (0, 0)), (gR, .cells (List.map (Value.int .i64) R).toArray 3 (0, 0)), (gN, .cells (List.map (Value.int .i64) N).toArray 3 (0, 0))]) (fun _ h => h.subC fun f => by simp only [List.map_append, List.map_cons, List.map_nil, List.sum_append, List.sum_cons, List.sum_nil]; omega) ?_
  refine jrs (rs := []) rfl .nil ?_
  exact ⟨rfl, _, _, rfl, MrP.early hR hN hRb (by omega) (by omega)⟩
 refine wAc (jT (wAk rfl (wAd (jT (wAb (wAa (jp rfl (jp rfl (wAi rfl rfl (wBb rfl rfl rfl rfl (by omega)) ?_)))))))))
 refine jl_s rfl (wBd (l2 := (N.set k.toNat 1).map (Value.int .i64)) rfl rfl rfl rfl rfl rfl rfl (zfitK (N := N) (i := k) (by omega)) (zsetK (N := N) (i := k) (by omega))) ?_; rintro _ _ _ ⟨rfl, rfl⟩
 refine wAc (jT (wAb (wAa (jp rfl (wAi rfl rfl (wAx rfl rfl rfl) ?_)))))
 refine sFL rfl rfl ?_
 refine jp rfl (wAi rfl rfl (wBb rfl rfl rfl rfl (by omega)) ?_)
 refine sFa rfl ?_
 refine wAi rfl rfl (wGp (cs := [Value.int .i64 (((l + 1 : Nat) : Int)), .slice a xs.length c]) rfl rfl rfl rfl rfl (fun i v hv => CJ.loc (wHb hx i v (by match i, hv with | 0, hv => exact hv | 1, hv => exact hv)))) ?_
 refine sAl rfl fun b8 => ?_
 refine sSt rfl ?_
 refine wAc (jT (wAb (wAa (jp rfl (wAc (jT (wAh ?_)))))))
 refine wAo (α := Nat × List Int × List Int) (fun z => [(0, .pointer (some ⟨kb, 0, none⟩)), (2, .slice (some ⟨gR, 0, none⟩) 256 256), (3, .slice (some ⟨gN, 0, none⟩) 256 256), (8, .pointer (some ⟨b8, 0, none⟩)), (9, .int .i64 z.1)]) (fun z => M) (fun z => [(b8, .cells [Value.int .i64 (((l + 1 : Nat) : Int)), .slice a xs.length c].toArray 111 (0, 0)), (kb, .cells [bv, wv, .slice na s.now.length nc, lw, .slice (some ⟨g, 0, none⟩) 256 256].toArray 134 (0, 0)), (g, .cells (List.flatMap wCj ss).toArray 136 (0, 0)), (gR, .cells (List.map (Value.int .i64) z.2.1).toArray 3 (0, 0)), (gN, .cells (List.map (Value.int .i64) z.2.2).toArray 3 (0, 0))]) (fun z => z.1 ≤ xs.length ∧ MrI s rs k.toNat (((l + 1 : Nat) : Int)) xs R N z.1 z.2.1 z.2.2 (T + z.1 * (1 + vsk l))) (fun z => xs.length - z.1)
  (0, R, N.set k.toNat 1) (.cons (t := 0) rfl (.cons (t := 2) rfl (.cons (t := 3) rfl (.cons (t := 8) rfl (.cons (t := 9) rfl .nil))))) ⟨Nat.zero_le _, by show MrI _ _ _ _ _ _ _ 0 _ _ (T + 0 * _); rw [Nat.zero_mul]; exact MrI.start hR hN hRb (by omega) (by omega) hnd⟩ (fun _ h => h.subC fun f => by simp only [List.map_append, List.map_cons, List.map_nil, List.sum_append, List.sum_cons, List.sum_nil]; omega) ?_
 rintro ⟨i, R2, N2⟩ ⟨hi, hI⟩
 try dsimp only at hi hI ⊢
 refine wAb (wAb (wAa (jp rfl (sFL rfl rfl ?_))))
 refine wAi rfl rfl (wBe rfl rfl rfl) ?_
 refine js rfl (fun h30 => ?_) (fun h30 => ?_)
 ·refine wAc (jT (wAg rfl (wAd (jT (wAb (wAh (wAb (wAb (wAa (sFL rfl rfl ?_))))))))))
  refine jp rfl ?_
  have hi1 : i < xs.length := by omega
  obtain ⟨sb, so, va, vc, e0, hcl, hvc, hvs⟩ := it_get hs hp hb hi1 (i := (i : Int)) rfl
  have hrf := hno.ref _ (List.getElem_mem hi1)
  refine wAi rfl rfl (wCf rfl rfl rfl rfl e0 (by omega)) ?_
  refine sFa rfl ?_
  refine wAi rfl rfl (qLd rfl rfl rfl rfl ((hcl 3 _ rfl).cj _)) ?_
  refine js rfl (fun h39 => ?_) (fun h39 => ?_)
  ·exact absurd (by omega) (hno.up (by omega) _ (List.getElem_mem hi1))
  refine wAc (jT (wAk rfl (wAd (jT (wAb (wAa (jp rfl (sFL rfl rfl ?_))))))))
  refine jp rfl (wAi rfl rfl (wCf rfl rfl rfl rfl e0 (by omega)) ?_)
  refine sFa rfl ?_
  refine wAi rfl rfl (qLd rfl rfl rfl rfl ((hcl 3 _ rfl).cj _)) ?_
  have hRl2 := hI.rl
  have hb3 := hI.rb xs[i].ref.toNat
  have hvm : i * (1 + vsk l) ≤ 4 * (1 + vsk l) := Nat.mul_le_mul_right _ (by omega)
  refine wAi rfl rfl (wBb rfl rfl rfl rfl (by omega)) ?_
  refine wAi rfl rfl (qLd rfl rfl rfl rfl (CJ.loc (zgetK (N := R2) (by omega)))) ?_
  refine ja rfl (by omega) ?_
  refine wAi rfl rfl (wBb rfl rfl rfl rfl (by omega)) ?_
  refine jl_s rfl (wBd (l2 := (R2.set xs[i].ref.toNat (R2.getD xs[i].ref.toNat 0 + 1)).map (Value.int .i64)) rfl rfl rfl rfl rfl rfl rfl (zfitK (N := R2) (i := xs[i].ref) (by omega)) (zsetK (N := R2) (i := xs[i].ref) (by omega))) ?_; rintro _ _ _ ⟨rfl, rfl⟩
  refine wAc (jT (wAb (wAa (sFL rfl rfl ?_))))
  refine jt rfl (decide_eq_true (by omega)) ?_
  refine wAc (jT (wAg rfl (wAa (jp rfl (sFL rfl rfl ?_)))))
  refine jp rfl (wAi rfl rfl (wCf rfl rfl rfl rfl e0 (by omega)) ?_)
  refine sFa rfl ?_
  refine wAi rfl rfl (qLd rfl rfl rfl rfl ((hcl 3 _ rfl).cj _)) ?_
  refine jp rfl (jp rfl ?_)
  have hup := hno.up (by omega) _ (List.getElem_mem hi1)
  obtain ⟨ys, hyn⟩ := htr _ (List.getElem_mem hi1)
  refine wAv rfl rfl (wAt rfl rfl rfl rfl rfl (by kernel_rfl) (ih xs[i].ref ys (R2.set xs[i].ref.toNat (R2.getD xs[i].ref.toNat 0 + 1)) N2 (T + i * (1 + vsk l) + 1) gR gN M ss hSI (hkd _ (List.getElem_mem hi1)) (by omega) hyn (.kid hr hnd (by omega) (List.getElem_mem hi1)) (by rw [List.length_set]; exact hRl2) hI.nl (fun j => by rw [set_get (by omega)]; have := hI.rb j; split <;> omega) (by omega))) ?_; rintro _ M2 _ ⟨hM2, _, rfl, ⟨rfl, R3, N3, rfl, hP⟩⟩
  rw [Nat.add_assoc (T + i * (1 + vsk l))] at hP
  refine wAc (jB (jT (wAa (jp rfl (ja rfl (by omega) ?_)))))
  refine jp rfl (wAc ?_)
  refine wAn (i + 1, R3, N3) (.cons (t := 0) rfl (.cons (t := 2) rfl (.cons (t := 3) rfl (.cons (t := 8) rfl (.cons (t := 9) rfl .nil))))) ⟨by show i + 1 ≤ xs.length; omega, ?_⟩ (by show xs.length - (i + 1) < xs.length - i; omega) (fun _ h => h.subC fun f => by simp only [List.map_append, List.map_cons, List.map_nil, List.sum_append, List.sum_cons, List.sum_nil]; omega)
  show MrI s rs k.toNat (((l + 1 : Nat) : Int)) xs R N (i + 1) R3 N3 (T + (i + 1) * (1 + vsk l))
  rw [show T + (i + 1) * (1 + vsk l) = T + i * (1 + vsk l) + (1 + vsk l) by rw [Nat.add_mul, Nat.one_mul]; omega]
  exact hI.kid hi1 h39 (by omega) hP
 refine wAc (jT (wAk rfl (wAs (jTx (jTx (jBx (jrn ?_)))))))
 refine wJj (L' := [(kb, .cells [bv, wv, .slice na s.now.length nc, lw, .slice (some ⟨g, 0, none⟩) 256 256].toArray 134 (0, 0)), (g, .cells (List.flatMap wCj ss).toArray 136 (0, 0)), (gR, .cells (List.map (Value.int .i64) R2).toArray 3 (0, 0)), (gN, .cells (List.map (Value.int .i64) N2).toArray 3 (0, 0))]) (fun _ h => h.subC fun f => by simp only [List.map_append, List.map_cons, List.map_nil, List.sum_append, List.sum_cons, List.sum_nil]; omega) ?_
 refine jrs (rs := []) rfl .nil ?_
 have hvm : i * (1 + vsk l) ≤ 5 * (1 + vsk l) := Nat.mul_le_mul_right _ (by omega)
 exact ⟨rfl, _, _, rfl, hI.done (by omega) hr hnd (by omega)⟩
end Go.Proofs.YtbhkdjheooknfaaGreat
