/- Walks: the document's spans: a node gone through. -/
import Derived.Test.YtbhkdjheooknfaaGreatZKc
namespace Go.Proofs.YtbhkdjheooknfaaGreat
set_option linter.unusedSimpArgs false
set_option linter.unusedVariables false
set_option linter.unusedSectionVars false
open Go.RowKit
structure Spn where
 lv : Int
 sl : Value
 sp : Sp
 dn : Bool
abbrev spnd (lv : Int) (sl : Value) (p : Sp) (dn : Bool) : List Value := [.int .i64 lv, sl, .int .u8 p.first.kind, .int .u32 p.first.id, .int .u32 p.first.off, .int .u8 p.last.kind, .int .u32 p.last.id, .int .u32 p.last.off, .bool dn, .bool p.is]
abbrev wCj (x : Spn) : List Value := spnd x.lv x.sl x.sp x.dn
def spn0 : Spn := ⟨0, .slice none 0 0, wGb, false⟩
theorem spnc_len (x : Spn) : (wCj x).length = 10 := rfl
def dnIs (ss : List Spn) (k : Int) : Prop := ∃ x, ss[k.toNat]? = some x ∧ x.dn = true ∧ x.sp.is = true
structure SpOk (M : Mem) (s : Sto) (ss : List Spn) (k : Nat) (x : Spn) (xs : List It) : Prop where
 nd : wCu s k = some (x.lv, xs)
 ns : NS M x.sl xs
 is : x.sp.is = (wEb s x.lv xs).is
 eq : x.sp.is = true → x.sp.first = (wEb s x.lv xs).first ∧ x.sp.last = (wEb s x.lv xs).last ∧ (0 < x.lv → ∀ y ∈ xs, dnIs ss y.ref)
structure SpI (M : Mem) (s : Sto) (ss : List Spn) : Prop where
 len : ss.length = 256
 ok : ∀ (k : Nat) (x : Spn), ss[k]? = some x → x = spn0 ∨ (x.dn = true ∧ ∃ xs, SpOk M s ss k x xs)
def SExt (ss ss' : List Spn) : Prop := ∀ (k : Nat) (x : Spn), ss[k]? = some x → x.dn = true → ∃ x', ss'[k]? = some x' ∧ x'.dn = true ∧ x'.sp.is = x.sp.is
theorem SExt.refl (ss : List Spn) : SExt ss ss := fun _ x h h2 => ⟨x, h, h2, rfl⟩
theorem SExt.trans {a b c : List Spn} (h : SExt a b) (k : SExt b c) : SExt a c := fun i x h1 h2 => by
 obtain ⟨y, h3, h4, h5⟩ := h i x h1 h2
 obtain ⟨z, h6, h7, h8⟩ := k i y h3 h4
 exact ⟨z, h6, h7, h8.trans h5⟩
theorem SExt.dn {a b : List Spn} (h : SExt a b) {k : Int} (hd : dnIs a k) : dnIs b k := by
 obtain ⟨x, h1, h2, h3⟩ := hd
 obtain ⟨y, h4, h5, h6⟩ := h _ _ h1 h2
 exact ⟨y, h4, h5, h6.trans h3⟩
theorem SpI.mono {M M' : Mem} {s : Sto} {ss : List Spn} (h : SpI M s ss) (hM : MLe M M') : SpI M' s ss :=
 ⟨h.len, fun k x hx => (h.ok k x hx).imp id fun ⟨h1, xs, h2⟩ => ⟨h1, xs, h2.nd, h2.ns.mono hM, h2.is, h2.eq⟩⟩
theorem SpI.put {M : Mem} {s : Sto} {ss : List Spn} (h : SpI M s ss) {k : Nat} (hk : k < 256) {x : Spn} {xs : List It} (hd : x.dn = true) (hx : SpOk M s ss k x xs) : SpI M s (ss.set k x) ∧ SExt ss (ss.set k x) := by
 have hE : SExt ss (ss.set k x) := fun i y hy hyd => by
  by_cases e : k = i
  ·subst e
   refine ⟨x, List.getElem?_set_self (by rw [h.len]; exact hk), hd, ?_⟩
   rcases h.ok k y hy with rfl | ⟨_, ys, hys⟩
   ·cases hyd
   have h1 := hys.nd
   rw [hx.nd] at h1
   have h2 : x.lv = y.lv ∧ xs = ys := by simpa using h1
   rw [hx.is, hys.is, h2.1, h2.2]
  rw [List.getElem?_set_ne e]; exact ⟨y, hy, hyd, rfl⟩
 refine ⟨⟨by rw [List.length_set]; exact h.len, fun i y hy => ?_⟩, hE⟩
 by_cases e : k = i
 ·subst e
  rw [List.getElem?_set_self (by rw [h.len]; exact hk)] at hy
  cases hy
  exact .inr ⟨hd, xs, hx.nd, hx.ns, hx.is, fun hi => ⟨(hx.eq hi).1, (hx.eq hi).2.1, fun hl y hy => hE.dn ((hx.eq hi).2.2 hl y hy)⟩⟩
 rw [List.getElem?_set_ne e] at hy
 exact (h.ok i y hy).imp id fun ⟨h1, ys, h2⟩ => ⟨h1, ys, h2.nd, h2.ns, h2.is, fun hi => ⟨(h2.eq hi).1, (h2.eq hi).2.1, fun hl z hz => hE.dn ((h2.eq hi).2.2 hl z hz)⟩⟩
theorem SpI.zero (M : Mem) (s : Sto) : SpI M s (List.replicate 256 spn0) := by
 refine ⟨List.length_replicate, fun k x hx => .inl ?_⟩
 rw [List.getElem?_replicate] at hx
 split at hx
 ·cases hx; rfl
 cases hx
def LrQ (s : Sto) (k level : Int) (x : Spn) (ss' : List Spn) : Prop := match lrn s k level with
 | none => x.sp.is = false
 | some (lv, xs) => x.sp.is = (wEb s lv xs).is ∧ (x.sp.is = true → x.sp.first = (wEb s lv xs).first ∧ x.sp.last = (wEb s lv xs).last ∧ dnIs ss' k)
structure GnQ (s : Sto) (lv : Int) (sl : Value) (xs : List It) (x : Spn) (ss' : List Spn) : Prop where
 hlv : x.lv = lv
 hsl : x.sl = sl
 dn : x.dn = true
 is : x.sp.is = (wEb s lv xs).is
 eq : x.sp.is = true → x.sp.first = (wEb s lv xs).first ∧ x.sp.last = (wEb s lv xs).last ∧ (0 < lv → ∀ y ∈ xs, dnIs ss' y.ref)
structure GnI (s : Sto) (lv : Int) (xs : List It) (i : Nat) (p : Sp) (ss : List Spn) : Prop where
 no : p.is = false → (wEb s lv xs).is = false
 go : p.is = true → ∃ o, wGd (wBo s lv.toNat) none xs = wGd (wBo s lv.toNat) o (xs.drop i) ∧ (o = none ↔ i = 0) ∧ spOf o = p
 dn : p.is = true → 0 < lv → ∀ y ∈ xs.take i, dnIs ss y.ref
theorem GnI.start {s : Sto} {lv : Int} {xs : List It} {ss : List Spn} : GnI s lv xs 0 ⟨⟨0, 0, 0⟩, ⟨0, 0, 0⟩, true⟩ ss :=
 ⟨fun h => (by cases h), fun _ => ⟨none, rfl, by simp, rfl⟩, fun _ _ y hy => by simp at hy⟩
theorem GnI.done {s : Sto} {lv : Int} {xs : List It} {i : Nat} {p : Sp} {ss : List Spn} {sl : Value} (h : GnI s lv xs i p ss) (hi : i = xs.length ∨ p.is = false) : GnQ s lv sl xs ⟨lv, sl, p, true⟩ ss := by
 cases hp : p.is with
 | false => exact ⟨rfl, rfl, rfl, by show p.is = _; rw [hp, h.no hp], fun e => by rw [show p.is = true from e] at hp; cases hp⟩
 | true =>
  have hi' : i = xs.length := hi.resolve_right (by rw [hp]; simp)
  obtain ⟨o, h1, h2, h3⟩ := h.go hp
  have h4 := rd_end (s := s) (lv := lv) rfl hi' h2 h1
  rw [h3] at h4
  refine ⟨rfl, rfl, rfl, by rw [h4], fun _ => ⟨by rw [h4], by rw [h4], fun hl y hy => h.dn hp hl y (by rw [hi', List.take_length]; exact hy)⟩⟩
theorem GnI.step {s : Sto} {lv : Int} {xs : List It} {i : Nat} {p q : Sp} {ss ss' : List Spn} (h : GnI s lv xs i p ss) (hp : p.is = true) (hi : i < xs.length) (hE : SExt ss ss') (b : Bool) (hb : b = true ↔ (wBo s lv.toNat xs[i]).is = true ∧ (wBo s lv.toNat xs[i]).first = xs[i].key) (hl : b = true → q.last = (wBo s lv.toNat xs[i]).last ∧ (0 < lv → dnIs ss' xs[i].ref))
  (hf : q.first = if i = 0 then xs[i].key else p.first) (hq : q.is = (b && (decide (i = 0) || wCt p.last xs[i].key))) : GnI s lv xs (i + 1) q ss' := by
 obtain ⟨o, h1, h2, h3⟩ := h.go hp
 have hst : wBv (wBo s lv.toNat xs[i]) o xs[i] = q.is := by
  rw [hq]
  unfold wBv
  cases hbb : b with
  | false =>
   rw [Bool.false_and]
   by_cases h4 : (wBo s lv.toNat xs[i]).is = true
   ·have h5 : ¬ (wBo s lv.toNat xs[i]).first = xs[i].key := fun e => by rw [hb.2 ⟨h4, e⟩] at hbb; cases hbb
    rw [decide_eq_false h5, Bool.and_false, Bool.false_and]
   rw [Bool.eq_false_iff.2 h4, Bool.false_and, Bool.false_and]
  | true =>
   have h4 := hb.1 hbb
   rw [h4.1, decide_eq_true h4.2, Bool.true_and, Bool.true_and, Bool.true_and]
   cases ho : o with
   | none => rw [decide_eq_true (h2.1 ho)]; rfl
   | some r =>
    have h5 : ¬ i = 0 := fun e => by rw [h2.2 e] at ho; cases ho
    rw [decide_eq_false h5, Bool.false_or, h4.2]
    rw [ho] at h3
    rw [← h3]; rfl
 cases hqi : q.is with
 | false =>
  rw [hqi] at hst
  refine ⟨fun _ => ?_, fun e => (by rw [e] at hqi; cases hqi), fun e => (by rw [e] at hqi; cases hqi)⟩
  rw [wJc (s := s) (lv := lv) rfl hi h1 hst]; rfl
 | true =>
  rw [hqi] at hst
  have hbt : b = true := by cases hbb : b with | true => rfl | false => rw [hbb, hqi] at hq; cases hq
  have h4 := hb.1 hbt
  refine ⟨fun e => (by rw [e] at hqi; cases hqi), fun _ => ⟨some (wEt (wBo s lv.toNat xs[i]) o), go_on hi h1 hst, by simp, ?_⟩, fun _ hl0 => wEy hi (fun y hy => hE.dn (h.dn hp hl0 y hy)) ((hl hbt).2 hl0)⟩
  show wEt _ o = q
  obtain ⟨qf, ql, qi⟩ := q
  have e1 : ql = (wBo s lv.toNat xs[i]).last := (hl hbt).1
  have e2 : qi = true := hqi
  have e3 : qf = if i = 0 then xs[i].key else p.first := hf
  subst e1; subst e2
  unfold wEt
  cases ho : o with
  | none => rw [e3, if_pos (h2.1 ho), h4.2]
  | some r =>
   have h5 : ¬ i = 0 := fun e => by rw [h2.2 e] at ho; cases ho
   rw [e3, if_neg h5]
   rw [ho] at h3
   rw [← h3]; rfl
set_option maxHeartbeats 4000000 in
theorem rgone_leaf (s : Sto) (hst : wDr s) (kb g : Nat) (bv wv lw : Value) (na : Option Addr) (nc : Nat) (xs : List It) (a : Option Addr) (c : Nat) (ps : List (It × Value)) (M : Mem) (hc : xs.length ≤ c) (hs : SM M a (ps.flatMap wCp)) (hp : ps.map (·.1) = xs) (hb : ∀ p ∈ ps, BS M p.2 p.1.val) (h3 : SM M na (wAj s.now)) (hno : NdOk (0) xs) (ss : List Spn) (hSI : SpI M s ss) :
  SpecL Tryz.prog 98 #[.pointer (some ⟨kb, 0, none⟩), .agg #[.int .i64 (0), .slice a xs.length c]] M [(kb, .cells [bv, wv, .slice na s.now.length nc, lw, .slice (some ⟨g, 0, none⟩) 256 256].toArray 134 (0, 0)), (g, .cells (List.flatMap wCj ss).toArray 136 (0, 0))] fun u M' L' => ∃ p ss', L' = [(kb, .cells [bv, wv, .slice na s.now.length nc, lw, .slice (some ⟨g, 0, none⟩) 256 256].toArray 134 (0, 0)), (g, .cells (List.flatMap wCj ss').toArray 136 (0, 0))] ∧ SpI M' s ss' ∧ SExt ss ss' ∧ u = .agg (spnd (0) (.slice a xs.length c) p true).toArray ∧ GnQ s (0) (.slice a xs.length c) xs ⟨0, .slice a xs.length c, p, true⟩ ss' := by
 have hn1 := hst.2.1.1
 have hx5 := hno.len
 refine wAe (vs := [_, _]) 87 _ Tryz.func98 rfl Tryz.ntmps98 rfl rfl ?_; intro W
 refine wAb (wAa (wAv rfl rfl (wBw (cs := [_, _]) rfl rfl rfl rfl) ?_)); rintro _ _ _ ⟨b3, rfl, rfl, rfl⟩
 refine sAl rfl fun b4 => ?_
 refine wAc (jT (wAb (wAa (sLL rfl ?_))))
 refine wAi rfl rfl (wAq (cs := [_, _, _, _, _, _, _, _, _, _]) rfl rfl rfl (by rfl)) ?_
 refine sAl rfl fun b5 => ?_
 refine sSt rfl ?_
 refine wAc (jT (wAb (wAb (wAa (jp rfl (wAc (jT (wAh ?_))))))))
 refine wAo (α := Nat × Sp) (fun z => [(0, .pointer (some ⟨kb, 0, none⟩)), (3, .pointer (some ⟨b3, 0, none⟩)), (4, .pointer (some ⟨b4, 0, none⟩)), (5, .pointer (some ⟨b5, 0, none⟩)), (6, .int .i64 z.1)]) (fun z => M) (fun z => [(b5, .cells [Value.int .i64 (0), .slice a xs.length c, .int .u8 z.2.first.kind, .int .u32 z.2.first.id, .int .u32 z.2.first.off, .int .u8 z.2.last.kind, .int .u32 z.2.last.id, .int .u32 z.2.last.off, .bool true, .bool z.2.is].toArray 136 (0, 0)), (b4, .cells [Value.int .i64 0, .slice none 0 0, .int .u8 0, .int .u32 0, .int .u32 0, .int .u8 0, .int .u32 0, .int .u32 0, .bool false, .bool false].toArray 136 (0, 0)), (b3, .cells [Value.int .i64 (0), .slice a xs.length c].toArray 111 (0, 0)), (kb, .cells [bv, wv, .slice na s.now.length nc, lw, .slice (some ⟨g, 0, none⟩) 256 256].toArray 134 (0, 0)), (g, .cells (List.flatMap wCj ss).toArray 136 (0, 0))]) (fun z => z.1 ≤ xs.length ∧ GnI s (0) xs z.1 z.2 ss) (fun z => xs.length - z.1)
  (0, ⟨⟨0, 0, 0⟩, ⟨0, 0, 0⟩, true⟩) (.cons (t := 0) rfl (.cons (t := 3) rfl (.cons (t := 4) rfl (.cons (t := 5) rfl (.cons (t := 6) rfl .nil))))) ⟨Nat.zero_le _, GnI.start⟩ (fun _ h => h) ?_
 rintro ⟨i, p⟩ ⟨hi, hI⟩
 try dsimp only at hi hI ⊢
 refine wAb (wAb (wAa (jp rfl (sFL rfl rfl ?_))))
 refine wAi rfl rfl (wBe rfl rfl rfl) ?_
 refine js rfl (fun h16 => ?_) (fun h16 => ?_)
 ·refine jp rfl (sFa rfl ?_)
  refine wDf rfl rfl (qLd rfl rfl rfl rfl (CJ.loc rfl)) (fun h19 => ?_) (fun h19 => ?_)
  ·refine jp rfl (wAc (jT (wAg rfl (wAd (jT (wAb (wAh (wAb (wAa (sFL rfl rfl ?_))))))))))
   refine jp rfl ?_
   have hi1 : i < xs.length := by omega
   obtain ⟨sb, so, va, vc, e0, hcl, hvc, hvs⟩ := it_get hs hp hb hi1 (i := (i : Int)) rfl
   have hrf := hno.ref _ (List.getElem_mem hi1)
   refine wAi rfl rfl (wCf rfl rfl rfl rfl e0 (by omega)) ?_
   refine wAi rfl rfl (wGp (cs := itc xs[i] va vc) rfl rfl rfl rfl rfl (fun i v hv => (hcl i v hv).cj _)) ?_
   refine sAl rfl fun b7 => ?_
   refine sSt rfl ?_
   refine wAc (jT (wAb (wAa (sFa rfl ?_))))
   refine sLL rfl ?_
   refine sAl rfl fun b8 => ?_
   refine sSt rfl ?_
   refine wAc (jT (wAb (wAb (wAa (sFL rfl rfl ?_)))))
   refine jf rfl (decide_eq_false (by omega)) ?_
   refine wAc (jT (wAk rfl (wBj (p := { A := fun i => !([16].contains i), U := fun i => !([16].contains i) }) [(0, true), (1, true), (2, true), (3, true), (4, true), (5, true), (6, true), (7, true), (8, true), (9, true), (10, true), (11, true), (12, true), (13, true), (14, true), (15, true), (16, false)] M (_) ([]) (by kernel_rfl) (by kernel_rfl) (by kernel_rfl) (by kernel_rfl) rfl (fun _ h => h) (MLe.refl _) (by simp) ?_)))
   refine dFa rfl rfl ?_
   refine dLd rfl rfl ?_
   refine ds rfl rfl (fun h54 => ?_) (fun h54 => ?_)
   ·iterate 12 refine dp rfl rfl ?_
    refine dFa rfl rfl ?_
    refine jd_e rfl rfl (wBd rfl rfl rfl rfl rfl rfl rfl rfl) ?_; rintro _ _ _ ⟨rfl, rfl⟩
    refine ⟨MLe.refl _, by simp, ?_⟩
    refine wCn ?_
    refine jPn (jT (wAb (wAb (wAa (jp rfl (js rfl (fun h69 => ?_) (fun h69 => ?_)))))))
    ·refine wAc (jT (wAg rfl (wAa (sFa rfl ?_))))
     refine sLL rfl ?_
     refine sFa rfl ?_
     refine sSt rfl ?_
     refine wAc (jT (wAb (wAb (wAa (jp rfl (jf rfl (decide_eq_false (by omega)) ?_))))))
     iterate 8 refine jp rfl ?_
     refine wAc (jT (wAk rfl (wAd (jT (wAa (sLL rfl ?_))))))
     refine sFa rfl ?_
     refine sSt rfl ?_
     refine wAc (jB (jT (wAa (jp rfl (ja rfl (by omega) ?_)))))
     refine jp rfl (wAc ?_)
     have hon : (wBo s 0 xs[i]).is = true := by simp only [wBo]; rw [decide_eq_true (by omega : xs[i].ref = 0), Bool.true_or]
     refine wAn (i + 1, ⟨xs[i].key, xs[i].key, true⟩) (.cons (t := 0) rfl (.cons (t := 3) rfl (.cons (t := 4) rfl (.cons (t := 5) rfl (.cons (t := 6) rfl .nil))))) ⟨by show i + 1 ≤ xs.length; omega, ?_⟩ (by show xs.length - (i + 1) < xs.length - i; omega) (fun _ h => h.fewer (.cons _ (.cons _ (.refl _))))
     refine hI.step h19 hi1 (SExt.refl _) true (by show _ ↔ (wBo s 0 xs[i]).is = true ∧ xs[i].key = xs[i].key; rw [hon]; simp) (fun _ => ⟨rfl, fun h => absurd h (by decide)⟩) (by rw [if_pos (by omega)]) (by rw [decide_eq_true (by omega : i = 0)]; simp)
    refine wAc (jT (wAk rfl (wAd (jT (wAb (wAb (wAa (jp rfl (jt rfl (decide_eq_true (by omega)) ?_)))))))))
    refine jp rfl (sFa rfl ?_)
    refine sLL rfl ?_
    refine sFa rfl ?_
    refine sLL rfl ?_
    refine wDf rfl rfl (wAy rfl rfl rfl rfl rfl (by kernel_rfl) (wFi p.last xs[i].key M)) (fun h80 => ?_) (fun h80 => ?_)
    ·refine jp rfl (jp rfl (wAc (jT (wAk rfl (wAd (jT (wAa (sLL rfl ?_))))))))
     refine sFa rfl ?_
     refine sSt rfl ?_
     refine wAc (jB (jT (wAa (jp rfl (ja rfl (by omega) ?_)))))
     refine jp rfl (wAc ?_)
     have hon : (wBo s 0 xs[i]).is = true := by simp only [wBo]; rw [decide_eq_true (by omega : xs[i].ref = 0), Bool.true_or]
     refine wAn (i + 1, ⟨p.first, xs[i].key, true⟩) (.cons (t := 0) rfl (.cons (t := 3) rfl (.cons (t := 4) rfl (.cons (t := 5) rfl (.cons (t := 6) rfl .nil))))) ⟨by show i + 1 ≤ xs.length; omega, ?_⟩ (by show xs.length - (i + 1) < xs.length - i; omega) (fun _ h => h.fewer (.cons _ (.cons _ (.refl _))))
     refine hI.step h19 hi1 (SExt.refl _) true (by show _ ↔ (wBo s 0 xs[i]).is = true ∧ xs[i].key = xs[i].key; rw [hon]; simp) (fun _ => ⟨rfl, fun h => absurd h (by decide)⟩) (by rw [if_neg (by omega)]) (by rw [decide_eq_false (by omega : ¬ i = 0), h80]; simp)
    refine jp rfl (jp rfl (wAc (jT (wAg rfl (wAa (sFa rfl ?_))))))
    refine sSt rfl ?_
    refine wAc (jT (wAa (sLL rfl ?_)))
    refine sFa rfl ?_
    refine sSt rfl ?_
    refine wAc (jB (jT (wAa (jp rfl (ja rfl (by omega) ?_)))))
    refine jp rfl (wAc ?_)
    have hon : (wBo s 0 xs[i]).is = true := by simp only [wBo]; rw [decide_eq_true (by omega : xs[i].ref = 0), Bool.true_or]
    refine wAn (i + 1, ⟨p.first, xs[i].key, false⟩) (.cons (t := 0) rfl (.cons (t := 3) rfl (.cons (t := 4) rfl (.cons (t := 5) rfl (.cons (t := 6) rfl .nil))))) ⟨by show i + 1 ≤ xs.length; omega, ?_⟩ (by show xs.length - (i + 1) < xs.length - i; omega) (fun _ h => h.fewer (.cons _ (.cons _ (.refl _))))
    refine hI.step h19 hi1 (SExt.refl _) true (by show _ ↔ (wBo s 0 xs[i]).is = true ∧ xs[i].key = xs[i].key; rw [hon]; simp) (fun _ => ⟨rfl, fun h => absurd h (by decide)⟩) (by rw [if_neg (by omega)]) (by rw [decide_eq_false (by omega : ¬ i = 0), h80]; simp)
   iterate 2 refine dp rfl rfl ?_
   refine wBh rfl rfl rfl (wAx rfl rfl rfl) ?_
   refine dFa rfl rfl ?_
   refine dFa rfl rfl ?_
   refine dLd rfl rfl ?_
   refine dFa rfl rfl ?_
   refine dLd rfl rfl ?_
   have hkn : xs[i].ref.toNat < s.now.length := by omega
   obtain ⟨tb, to, g0, gcl⟩ := wEv h3 hkn
   rw [show ((xs[i].ref.toNat : Nat) : Int) = xs[i].ref by omega] at gcl
   refine wBh rfl rfl rfl (wCf rfl rfl rfl rfl g0 (by omega)) ?_
   refine wBh rfl rfl rfl (qLd rfl rfl rfl rfl (gcl.cj _)) ?_
   iterate 2 refine dp rfl rfl ?_
   refine dFa rfl rfl ?_
   refine jd_e rfl rfl (wBd rfl rfl rfl rfl rfl rfl rfl rfl) ?_; rintro _ _ _ ⟨rfl, rfl⟩
   refine ⟨MLe.refl _, by simp, ?_⟩
   refine wCn ?_
   refine jPn (jT (wAb (wAb (wAa (jp rfl (js rfl (fun h69 => ?_) (fun h69 => ?_)))))))
   ·refine wAc (jT (wAg rfl (wAa (sFa rfl ?_))))
    refine sLL rfl ?_
    refine sFa rfl ?_
    refine sSt rfl ?_
    refine wAc (jT (wAb (wAb (wAa (jp rfl (jf rfl (decide_eq_false (by omega)) ?_))))))
    iterate 8 refine jp rfl ?_
    refine wAc (jT (wAk rfl (wAd (jT (wAa (sLL rfl ?_))))))
    refine sFa rfl ?_
    refine sSt rfl ?_
    refine wAc (jB (jT (wAa (jp rfl (ja rfl (by omega) ?_)))))
    refine jp rfl (wAc ?_)
    have hon : (wBo s 0 xs[i]).is = (decide (0 < (s.now[xs[i].ref.toNat].toNat : Int))) := by simp only [wBo]; rw [decide_eq_false (by omega : ¬ xs[i].ref = 0), Bool.false_or, wDb hkn]
    refine wAn (i + 1, ⟨xs[i].key, xs[i].key, (decide (0 < (s.now[xs[i].ref.toNat].toNat : Int)))⟩) (.cons (t := 0) rfl (.cons (t := 3) rfl (.cons (t := 4) rfl (.cons (t := 5) rfl (.cons (t := 6) rfl .nil))))) ⟨by show i + 1 ≤ xs.length; omega, ?_⟩ (by show xs.length - (i + 1) < xs.length - i; omega) (fun _ h => h.fewer (.cons _ (.cons _ (.refl _))))
    refine hI.step h19 hi1 (SExt.refl _) (decide (0 < (s.now[xs[i].ref.toNat].toNat : Int))) (by show _ ↔ (wBo s 0 xs[i]).is = true ∧ xs[i].key = xs[i].key; rw [hon]; simp) (fun _ => ⟨rfl, fun h => absurd h (by decide)⟩) (by rw [if_pos (by omega)]) (by rw [decide_eq_true (by omega : i = 0)]; simp)
   refine wAc (jT (wAk rfl (wAd (jT (wAb (wAb (wAa (jp rfl (jt rfl (decide_eq_true (by omega)) ?_)))))))))
   refine jp rfl (sFa rfl ?_)
   refine sLL rfl ?_
   refine sFa rfl ?_
   refine sLL rfl ?_
   refine wDf rfl rfl (wAy rfl rfl rfl rfl rfl (by kernel_rfl) (wFi p.last xs[i].key M)) (fun h80 => ?_) (fun h80 => ?_)
   ·refine jp rfl (jp rfl (wAc (jT (wAk rfl (wAd (jT (wAa (sLL rfl ?_))))))))
    refine sFa rfl ?_
    refine sSt rfl ?_
    refine wAc (jB (jT (wAa (jp rfl (ja rfl (by omega) ?_)))))
    refine jp rfl (wAc ?_)
    have hon : (wBo s 0 xs[i]).is = (decide (0 < (s.now[xs[i].ref.toNat].toNat : Int))) := by simp only [wBo]; rw [decide_eq_false (by omega : ¬ xs[i].ref = 0), Bool.false_or, wDb hkn]
    refine wAn (i + 1, ⟨p.first, xs[i].key, (decide (0 < (s.now[xs[i].ref.toNat].toNat : Int)))⟩) (.cons (t := 0) rfl (.cons (t := 3) rfl (.cons (t := 4) rfl (.cons (t := 5) rfl (.cons (t := 6) rfl .nil))))) ⟨by show i + 1 ≤ xs.length; omega, ?_⟩ (by show xs.length - (i + 1) < xs.length - i; omega) (fun _ h => h.fewer (.cons _ (.cons _ (.refl _))))
    refine hI.step h19 hi1 (SExt.refl _) (decide (0 < (s.now[xs[i].ref.toNat].toNat : Int))) (by show _ ↔ (wBo s 0 xs[i]).is = true ∧ xs[i].key = xs[i].key; rw [hon]; simp) (fun _ => ⟨rfl, fun h => absurd h (by decide)⟩) (by rw [if_neg (by omega)]) (by rw [decide_eq_false (by omega : ¬ i = 0), h80]; simp)
   refine jp rfl (jp rfl (wAc (jT (wAg rfl (wAa (sFa rfl ?_))))))
   refine sSt rfl ?_
   refine wAc (jT (wAa (sLL rfl ?_)))
   refine sFa rfl ?_
   refine sSt rfl ?_
   refine wAc (jB (jT (wAa (jp rfl (ja rfl (by omega) ?_)))))
   refine jp rfl (wAc ?_)
   have hon : (wBo s 0 xs[i]).is = (decide (0 < (s.now[xs[i].ref.toNat].toNat : Int))) := by simp only [wBo]; rw [decide_eq_false (by omega : ¬ xs[i].ref = 0), Bool.false_or, wDb hkn]
   refine wAn (i + 1, ⟨p.first, xs[i].key, false⟩) (.cons (t := 0) rfl (.cons (t := 3) rfl (.cons (t := 4) rfl (.cons (t := 5) rfl (.cons (t := 6) rfl .nil))))) ⟨by show i + 1 ≤ xs.length; omega, ?_⟩ (by show xs.length - (i + 1) < xs.length - i; omega) (fun _ h => h.fewer (.cons _ (.cons _ (.refl _))))
   refine hI.step h19 hi1 (SExt.refl _) (decide (0 < (s.now[xs[i].ref.toNat].toNat : Int))) (by show _ ↔ (wBo s 0 xs[i]).is = true ∧ xs[i].key = xs[i].key; rw [hon]; simp) (fun _ => ⟨rfl, fun h => absurd h (by decide)⟩) (by rw [if_neg (by omega)]) (by rw [decide_eq_false (by omega : ¬ i = 0), h80]; simp)
  refine jp rfl (wAc (jT (wAk rfl (wAs (jTx (jTx (jBx (jT (wAb (wAa (sLL rfl ?_)))))))))))
  refine sSt rfl ?_
  refine wAc (jT (wAf (wBr (rs := [_]) ([(kb, .cells [bv, wv, .slice na s.now.length nc, lw, .slice (some ⟨g, 0, none⟩) 256 256].toArray 134 (0, 0)), (g, .cells (List.flatMap wCj ss).toArray 136 (0, 0))]) (by first | exact .cons _ (.cons _ (.cons _ (.refl _))) | simp) rfl (.cons (.agg rfl rfl rfl) .nil) ?_)))
  refine ⟨p, ss, rfl, hSI, SExt.refl _, rfl, hI.done ?_⟩
  first | exact .inl (by omega) | exact .inr h19
 refine jp rfl (jp rfl (jp rfl (jp rfl (wAc (jT (wAk rfl (wAs (jTx (jTx (jBx (jT (wAb (wAa (sLL rfl ?_))))))))))))))
 refine sSt rfl ?_
 refine wAc (jT (wAf (wBr (rs := [_]) ([(kb, .cells [bv, wv, .slice na s.now.length nc, lw, .slice (some ⟨g, 0, none⟩) 256 256].toArray 134 (0, 0)), (g, .cells (List.flatMap wCj ss).toArray 136 (0, 0))]) (by first | exact .cons _ (.cons _ (.cons _ (.refl _))) | simp) rfl (.cons (.agg rfl rfl rfl) .nil) ?_)))
 refine ⟨p, ss, rfl, hSI, SExt.refl _, rfl, hI.done ?_⟩
 first | exact .inl (by omega) | exact .inr h19
def LnS (s : Sto) (kb g : Nat) (bv wv lw : Value) (na : Option Addr) (nc : Nat) (level : Int) (rt : Bool) : Prop := ∀ (k : Int) (M : Mem) (ss : List Spn), ST M (.agg #[bv, wv, .slice na s.now.length nc, lw]) s → SpI M s ss → -9223372036854775808 ≤ k ∧ k ≤ 9223372036854775807 →
 SpecL Tryz.prog 81 #[.pointer (some ⟨kb, 0, none⟩), .int .i64 k, .int .i64 level, .bool rt] M [(kb, .cells [bv, wv, .slice na s.now.length nc, lw, .slice (some ⟨g, 0, none⟩) 256 256].toArray 134 (0, 0)), (g, .cells (List.flatMap wCj ss).toArray 136 (0, 0))] fun u M' L' => ∃ lv a n c p dn ss', L' = [(kb, .cells [bv, wv, .slice na s.now.length nc, lw, .slice (some ⟨g, 0, none⟩) 256 256].toArray 134 (0, 0)), (g, .cells (List.flatMap wCj ss').toArray 136 (0, 0))] ∧ SpI M' s ss' ∧ SExt ss ss' ∧ u = .agg (spnd lv (.slice a n c) p dn).toArray ∧ LrQ s k level ⟨lv, .slice a n c, p, dn⟩ ss'
def GnS (s : Sto) (kb g : Nat) (bv wv lw : Value) (na : Option Addr) (nc : Nat) (l : Nat) : Prop := ∀ (xs : List It) (a : Option Addr) (c : Nat) (M : Mem) (ss : List Spn), ST M (.agg #[bv, wv, .slice na s.now.length nc, lw]) s → SpI M s ss → NS M (.slice a xs.length c) xs → NdOk (l : Int) xs →
 SpecL Tryz.prog 98 #[.pointer (some ⟨kb, 0, none⟩), .agg #[.int .i64 l, .slice a xs.length c]] M [(kb, .cells [bv, wv, .slice na s.now.length nc, lw, .slice (some ⟨g, 0, none⟩) 256 256].toArray 134 (0, 0)), (g, .cells (List.flatMap wCj ss).toArray 136 (0, 0))] fun u M' L' => ∃ p ss', L' = [(kb, .cells [bv, wv, .slice na s.now.length nc, lw, .slice (some ⟨g, 0, none⟩) 256 256].toArray 134 (0, 0)), (g, .cells (List.flatMap wCj ss').toArray 136 (0, 0))] ∧ SpI M' s ss' ∧ SExt ss ss' ∧ u = .agg (spnd l (.slice a xs.length c) p true).toArray ∧ GnQ s l (.slice a xs.length c) xs ⟨l, .slice a xs.length c, p, true⟩ ss'
theorem lrq_one {s : Sto} {l : Nat} {x : It} {q : Spn} {ss' : List Spn} (h : LrQ s x.ref (l : Int) q ss') (hr : 8 ≤ x.ref ∧ x.ref < 256) : q.sp.is = (wBo s (l + 1) x).is ∧ (q.sp.is = true → q.sp.first = (wBo s (l + 1) x).first ∧ q.sp.last = (wBo s (l + 1) x).last ∧ dnIs ss' x.ref) := by
 rw [one_lrn hr]
 unfold LrQ at h
 split at h
 ·rename_i e; rw [e]; exact ⟨h, fun h2 => by rw [h] at h2; cases h2⟩
 rename_i lv ys e; rw [e]; exact h
set_option maxHeartbeats 4000000 in
theorem rgone_up (s : Sto) (hst : wDr s) (kb g : Nat) (bv wv lw : Value) (na : Option Addr) (nc : Nat) (xs : List It) (a : Option Addr) (c : Nat) (ps : List (It × Value)) (M : Mem) (hc : xs.length ≤ c) (hs : SM M a (ps.flatMap wCp)) (hp : ps.map (·.1) = xs) (hb : ∀ p ∈ ps, BS M p.2 p.1.val) (hS : ST M (.agg #[bv, wv, .slice na s.now.length nc, lw]) s) (l : Nat) (hno : NdOk ((l + 1 : Nat) : Int) xs) (ss : List Spn) (hSI : SpI M s ss) (ih : LnS s kb g bv wv lw na nc (l : Int) false) :
  SpecL Tryz.prog 98 #[.pointer (some ⟨kb, 0, none⟩), .agg #[.int .i64 ((l + 1 : Nat) : Int), .slice a xs.length c]] M [(kb, .cells [bv, wv, .slice na s.now.length nc, lw, .slice (some ⟨g, 0, none⟩) 256 256].toArray 134 (0, 0)), (g, .cells (List.flatMap wCj ss).toArray 136 (0, 0))] fun u M' L' => ∃ p ss', L' = [(kb, .cells [bv, wv, .slice na s.now.length nc, lw, .slice (some ⟨g, 0, none⟩) 256 256].toArray 134 (0, 0)), (g, .cells (List.flatMap wCj ss').toArray 136 (0, 0))] ∧ SpI M' s ss' ∧ SExt ss ss' ∧ u = .agg (spnd ((l + 1 : Nat) : Int) (.slice a xs.length c) p true).toArray ∧ GnQ s ((l + 1 : Nat) : Int) (.slice a xs.length c) xs ⟨((l + 1 : Nat) : Int), .slice a xs.length c, p, true⟩ ss' := by
 have hx5 := hno.len
 have hlv := hno.lev
 refine wAe (vs := [_, _]) 87 _ Tryz.func98 rfl Tryz.ntmps98 rfl rfl ?_; intro W
 refine wAb (wAa (wAv rfl rfl (wBw (cs := [_, _]) rfl rfl rfl rfl) ?_)); rintro _ _ _ ⟨b3, rfl, rfl, rfl⟩
 refine sAl rfl fun b4 => ?_
 refine wAc (jT (wAb (wAa (sLL rfl ?_))))
 refine wAi rfl rfl (wAq (cs := [_, _, _, _, _, _, _, _, _, _]) rfl rfl rfl (by rfl)) ?_
 refine sAl rfl fun b5 => ?_
 refine sSt rfl ?_
 refine wAc (jT (wAb (wAb (wAa (jp rfl (wAc (jT (wAh ?_))))))))
 refine wAo (α := Nat × Sp × Mem × List Spn) (fun z => [(0, .pointer (some ⟨kb, 0, none⟩)), (3, .pointer (some ⟨b3, 0, none⟩)), (4, .pointer (some ⟨b4, 0, none⟩)), (5, .pointer (some ⟨b5, 0, none⟩)), (6, .int .i64 z.1)]) (fun z => z.2.2.1) (fun z => [(b5, .cells [Value.int .i64 (((l + 1 : Nat) : Int)), .slice a xs.length c, .int .u8 z.2.1.first.kind, .int .u32 z.2.1.first.id, .int .u32 z.2.1.first.off, .int .u8 z.2.1.last.kind, .int .u32 z.2.1.last.id, .int .u32 z.2.1.last.off, .bool true, .bool z.2.1.is].toArray 136 (0, 0)), (b4, .cells [Value.int .i64 0, .slice none 0 0, .int .u8 0, .int .u32 0, .int .u32 0, .int .u8 0, .int .u32 0, .int .u32 0, .bool false, .bool false].toArray 136 (0, 0)), (b3, .cells [Value.int .i64 (((l + 1 : Nat) : Int)), .slice a xs.length c].toArray 111 (0, 0)), (kb, .cells [bv, wv, .slice na s.now.length nc, lw, .slice (some ⟨g, 0, none⟩) 256 256].toArray 134 (0, 0)), (g, .cells (List.flatMap wCj z.2.2.2).toArray 136 (0, 0))]) (fun z => z.1 ≤ xs.length ∧ GnI s (((l + 1 : Nat) : Int)) xs z.1 z.2.1 z.2.2.2 ∧ MLe M z.2.2.1 ∧ SpI z.2.2.1 s z.2.2.2 ∧ SExt ss z.2.2.2) (fun z => xs.length - z.1)
  (0, ⟨⟨0, 0, 0⟩, ⟨0, 0, 0⟩, true⟩, M, ss) (.cons (t := 0) rfl (.cons (t := 3) rfl (.cons (t := 4) rfl (.cons (t := 5) rfl (.cons (t := 6) rfl .nil))))) ⟨Nat.zero_le _, GnI.start, MLe.refl _, hSI, SExt.refl _⟩ (fun _ h => h) ?_
 rintro ⟨i, p, Mk, ssk⟩ ⟨hi, hI, hMk, hSk, hE⟩
 try dsimp only at hi hI hMk hSk hE ⊢
 refine wAb (wAb (wAa (jp rfl (sFL rfl rfl ?_))))
 refine wAi rfl rfl (wBe rfl rfl rfl) ?_
 refine js rfl (fun h16 => ?_) (fun h16 => ?_)
 ·refine jp rfl (sFa rfl ?_)
  refine wDf rfl rfl (qLd rfl rfl rfl rfl (CJ.loc rfl)) (fun h19 => ?_) (fun h19 => ?_)
  ·refine jp rfl (wAc (jT (wAg rfl (wAd (jT (wAb (wAh (wAb (wAa (sFL rfl rfl ?_))))))))))
   refine jp rfl ?_
   have hi1 : i < xs.length := by omega
   obtain ⟨sb, so, va, vc, e0, hcl, hvc, hvs⟩ := it_get hs hp hb hi1 (i := (i : Int)) rfl
   have hrf := hno.ref _ (List.getElem_mem hi1)
   have hup := hno.up (by omega) _ (List.getElem_mem hi1)
   refine wAi rfl rfl (wCf rfl rfl rfl rfl e0 (by omega)) ?_
   refine wAi rfl rfl (wGp (cs := itc xs[i] va vc) rfl rfl rfl rfl rfl (fun i v hv => ((hcl i v hv).mono hMk).cj _)) ?_
   refine sAl rfl fun b7 => ?_
   refine sSt rfl ?_
   refine wAc (jT (wAb (wAa (sFa rfl ?_))))
   refine sLL rfl ?_
   refine sAl rfl fun b8 => ?_
   refine sSt rfl ?_
   refine wAc (jT (wAb (wAb (wAa (sFL rfl rfl ?_)))))
   refine jt rfl (decide_eq_true (by omega)) ?_
   refine wAc (jT (wAg rfl (wAb (wAa (jp rfl (sFL rfl rfl ?_))))))
   refine sFL rfl rfl ?_
   refine wAi rfl rfl (qEq (qA rfl rfl rfl rfl rfl (by omega)) (v' := .int .i64 (l : Int)) (by congr 1; omega)) ?_
   refine wAv rfl rfl (wAt rfl rfl rfl rfl rfl (by kernel_rfl) (ih xs[i].ref Mk ssk (hS.mono hMk) hSk (by omega))) ?_; rintro _ M2 _ ⟨hM2, _, rfl, ⟨qlv, qa, qn, qc, qp, qd, ss2, rfl, hSI2, hE2, rfl, hlr⟩⟩
   simp only [List.cons_append, List.nil_append]
   refine sAl rfl fun b9 => ?_
   refine sSt rfl ?_
   refine wAc (jT (wAb (wAa (sFa rfl ?_))))
   refine wDf rfl rfl (qLd rfl rfl rfl rfl (CJ.loc rfl)) (fun h41 => ?_) (fun h41 => ?_)
   ·refine jp rfl (sFa rfl ?_)
    refine sLL rfl ?_
    refine sFa rfl ?_
    refine sLL rfl ?_
    refine wAi rfl rfl (qEqI (ns := [qp.first.kind, qp.first.id, qp.first.off]) (ms := [xs[i].key.kind, xs[i].key.id, xs[i].key.off]) rfl rfl rfl rfl rfl rfl ⟨rfl, rfl⟩) ?_
    refine jp rfl (sFa rfl ?_)
    refine sSt rfl ?_
    refine wAc (jT (wAa (sFa rfl ?_)))
    refine sLL rfl ?_
    refine sSt rfl ?_
    refine wAc (jT (wAb (wAb (wAa (jp rfl (js rfl (fun h69 => ?_) (fun h69 => ?_)))))))
    ·refine wAc (jT (wAg rfl (wAa (sFa rfl ?_))))
     refine sLL rfl ?_
     refine sFa rfl ?_
     refine sSt rfl ?_
     refine wAc (jT (wAb (wAb (wAa (jp rfl (jf rfl (decide_eq_false (by omega)) ?_))))))
     iterate 8 refine jp rfl ?_
     refine wAc (jT (wAk rfl (wAd (jT (wAa (sLL rfl ?_))))))
     refine sFa rfl ?_
     refine sSt rfl ?_
     refine wAc (jB (jT (wAa (jp rfl (ja rfl (by omega) ?_)))))
     refine jp rfl (wAc ?_)
     have hq1 := lrq_one hlr (by omega)
     dsimp only at hq1
     refine wAn (i + 1, ⟨xs[i].key, qp.last, (decide ([qp.first.kind, qp.first.id, qp.first.off] = [xs[i].key.kind, xs[i].key.id, xs[i].key.off]))⟩, M2, ss2) (.cons (t := 0) rfl (.cons (t := 3) rfl (.cons (t := 4) rfl (.cons (t := 5) rfl (.cons (t := 6) rfl .nil))))) ⟨by show i + 1 ≤ xs.length; omega, ?_, hMk.trans hM2, hSI2, hE.trans hE2⟩ (by show xs.length - (i + 1) < xs.length - i; omega) (fun _ h => h.subC fun f => by simp only [List.map_append, List.map_cons, List.map_nil, List.sum_append, List.sum_cons, List.sum_nil]; omega)
     refine hI.step h19 hi1 hE2 (decide ([qp.first.kind, qp.first.id, qp.first.off] = [xs[i].key.kind, xs[i].key.id, xs[i].key.off])) ?_ ?_ (by rw [if_pos (by omega)]) (by rw [decide_eq_true (by omega : i = 0)]; simp)
     ·show _ ↔ (wBo s (l + 1) xs[i]).is = true ∧ (wBo s (l + 1) xs[i]).first = xs[i].key
      rw [decide_eq_true_eq, ← hq1.1, ← (hq1.2 h41).1, ← ky_ext]; exact ⟨fun h => ⟨h41, h⟩, fun h => h.2⟩
     exact fun _ => ⟨(hq1.2 h41).2.1, fun _ => (hq1.2 h41).2.2⟩
    refine wAc (jT (wAk rfl (wAd (jT (wAb (wAb (wAa (jp rfl (jt rfl (decide_eq_true (by omega)) ?_)))))))))
    refine jp rfl (sFa rfl ?_)
    refine sLL rfl ?_
    refine sFa rfl ?_
    refine sLL rfl ?_
    refine wDf rfl rfl (wAy rfl rfl rfl rfl rfl (by kernel_rfl) (wFi p.last xs[i].key M2)) (fun h80 => ?_) (fun h80 => ?_)
    ·refine jp rfl (jp rfl (wAc (jT (wAk rfl (wAd (jT (wAa (sLL rfl ?_))))))))
     refine sFa rfl ?_
     refine sSt rfl ?_
     refine wAc (jB (jT (wAa (jp rfl (ja rfl (by omega) ?_)))))
     refine jp rfl (wAc ?_)
     have hq1 := lrq_one hlr (by omega)
     dsimp only at hq1
     refine wAn (i + 1, ⟨p.first, qp.last, (decide ([qp.first.kind, qp.first.id, qp.first.off] = [xs[i].key.kind, xs[i].key.id, xs[i].key.off]))⟩, M2, ss2) (.cons (t := 0) rfl (.cons (t := 3) rfl (.cons (t := 4) rfl (.cons (t := 5) rfl (.cons (t := 6) rfl .nil))))) ⟨by show i + 1 ≤ xs.length; omega, ?_, hMk.trans hM2, hSI2, hE.trans hE2⟩ (by show xs.length - (i + 1) < xs.length - i; omega) (fun _ h => h.subC fun f => by simp only [List.map_append, List.map_cons, List.map_nil, List.sum_append, List.sum_cons, List.sum_nil]; omega)
     refine hI.step h19 hi1 hE2 (decide ([qp.first.kind, qp.first.id, qp.first.off] = [xs[i].key.kind, xs[i].key.id, xs[i].key.off])) ?_ ?_ (by rw [if_neg (by omega)]) (by rw [decide_eq_false (by omega : ¬ i = 0), h80]; simp)
     ·show _ ↔ (wBo s (l + 1) xs[i]).is = true ∧ (wBo s (l + 1) xs[i]).first = xs[i].key
      rw [decide_eq_true_eq, ← hq1.1, ← (hq1.2 h41).1, ← ky_ext]; exact ⟨fun h => ⟨h41, h⟩, fun h => h.2⟩
     exact fun _ => ⟨(hq1.2 h41).2.1, fun _ => (hq1.2 h41).2.2⟩
    refine jp rfl (jp rfl (wAc (jT (wAg rfl (wAa (sFa rfl ?_))))))
    refine sSt rfl ?_
    refine wAc (jT (wAa (sLL rfl ?_)))
    refine sFa rfl ?_
    refine sSt rfl ?_
    refine wAc (jB (jT (wAa (jp rfl (ja rfl (by omega) ?_)))))
    refine jp rfl (wAc ?_)
    have hq1 := lrq_one hlr (by omega)
    dsimp only at hq1
    refine wAn (i + 1, ⟨p.first, qp.last, false⟩, M2, ss2) (.cons (t := 0) rfl (.cons (t := 3) rfl (.cons (t := 4) rfl (.cons (t := 5) rfl (.cons (t := 6) rfl .nil))))) ⟨by show i + 1 ≤ xs.length; omega, ?_, hMk.trans hM2, hSI2, hE.trans hE2⟩ (by show xs.length - (i + 1) < xs.length - i; omega) (fun _ h => h.subC fun f => by simp only [List.map_append, List.map_cons, List.map_nil, List.sum_append, List.sum_cons, List.sum_nil]; omega)
    refine hI.step h19 hi1 hE2 (decide ([qp.first.kind, qp.first.id, qp.first.off] = [xs[i].key.kind, xs[i].key.id, xs[i].key.off])) ?_ ?_ (by rw [if_neg (by omega)]) (by rw [decide_eq_false (by omega : ¬ i = 0), h80]; simp)
    ·show _ ↔ (wBo s (l + 1) xs[i]).is = true ∧ (wBo s (l + 1) xs[i]).first = xs[i].key
     rw [decide_eq_true_eq, ← hq1.1, ← (hq1.2 h41).1, ← ky_ext]; exact ⟨fun h => ⟨h41, h⟩, fun h => h.2⟩
    exact fun _ => ⟨(hq1.2 h41).2.1, fun _ => (hq1.2 h41).2.2⟩
   iterate 7 refine jp rfl ?_
   refine sFa rfl ?_
   refine sSt rfl ?_
   refine wAc (jT (wAa (sFa rfl ?_)))
   refine sLL rfl ?_
   refine sSt rfl ?_
   refine wAc (jT (wAb (wAb (wAa (jp rfl (js rfl (fun h69 => ?_) (fun h69 => ?_)))))))
   ·refine wAc (jT (wAg rfl (wAa (sFa rfl ?_))))
    refine sLL rfl ?_
    refine sFa rfl ?_
    refine sSt rfl ?_
    refine wAc (jT (wAb (wAb (wAa (jp rfl (jf rfl (decide_eq_false (by omega)) ?_))))))
    iterate 8 refine jp rfl ?_
    refine wAc (jT (wAk rfl (wAd (jT (wAa (sLL rfl ?_))))))
    refine sFa rfl ?_
    refine sSt rfl ?_
    refine wAc (jB (jT (wAa (jp rfl (ja rfl (by omega) ?_)))))
    refine jp rfl (wAc ?_)
    have hq1 := lrq_one hlr (by omega)
    dsimp only at hq1
    refine wAn (i + 1, ⟨xs[i].key, qp.last, false⟩, M2, ss2) (.cons (t := 0) rfl (.cons (t := 3) rfl (.cons (t := 4) rfl (.cons (t := 5) rfl (.cons (t := 6) rfl .nil))))) ⟨by show i + 1 ≤ xs.length; omega, ?_, hMk.trans hM2, hSI2, hE.trans hE2⟩ (by show xs.length - (i + 1) < xs.length - i; omega) (fun _ h => h.subC fun f => by simp only [List.map_append, List.map_cons, List.map_nil, List.sum_append, List.sum_cons, List.sum_nil]; omega)
    refine hI.step h19 hi1 hE2 false ?_ ?_ (by rw [if_pos (by omega)]) (by rw [decide_eq_true (by omega : i = 0)]; simp)
    ·show _ ↔ (wBo s (l + 1) xs[i]).is = true ∧ (wBo s (l + 1) xs[i]).first = xs[i].key
     rw [← hq1.1, h41]; simp
    intro h; cases h
   refine wAc (jT (wAk rfl (wAd (jT (wAb (wAb (wAa (jp rfl (jt rfl (decide_eq_true (by omega)) ?_)))))))))
   refine jp rfl (sFa rfl ?_)
   refine sLL rfl ?_
   refine sFa rfl ?_
   refine sLL rfl ?_
   refine wDf rfl rfl (wAy rfl rfl rfl rfl rfl (by kernel_rfl) (wFi p.last xs[i].key M2)) (fun h80 => ?_) (fun h80 => ?_)
   ·refine jp rfl (jp rfl (wAc (jT (wAk rfl (wAd (jT (wAa (sLL rfl ?_))))))))
    refine sFa rfl ?_
    refine sSt rfl ?_
    refine wAc (jB (jT (wAa (jp rfl (ja rfl (by omega) ?_)))))
    refine jp rfl (wAc ?_)
    have hq1 := lrq_one hlr (by omega)
    dsimp only at hq1
    refine wAn (i + 1, ⟨p.first, qp.last, false⟩, M2, ss2) (.cons (t := 0) rfl (.cons (t := 3) rfl (.cons (t := 4) rfl (.cons (t := 5) rfl (.cons (t := 6) rfl .nil))))) ⟨by show i + 1 ≤ xs.length; omega, ?_, hMk.trans hM2, hSI2, hE.trans hE2⟩ (by show xs.length - (i + 1) < xs.length - i; omega) (fun _ h => h.subC fun f => by simp only [List.map_append, List.map_cons, List.map_nil, List.sum_append, List.sum_cons, List.sum_nil]; omega)
    refine hI.step h19 hi1 hE2 false ?_ ?_ (by rw [if_neg (by omega)]) (by rw [decide_eq_false (by omega : ¬ i = 0), h80]; simp)
    ·show _ ↔ (wBo s (l + 1) xs[i]).is = true ∧ (wBo s (l + 1) xs[i]).first = xs[i].key
     rw [← hq1.1, h41]; simp
    intro h; cases h
   refine jp rfl (jp rfl (wAc (jT (wAg rfl (wAa (sFa rfl ?_))))))
   refine sSt rfl ?_
   refine wAc (jT (wAa (sLL rfl ?_)))
   refine sFa rfl ?_
   refine sSt rfl ?_
   refine wAc (jB (jT (wAa (jp rfl (ja rfl (by omega) ?_)))))
   refine jp rfl (wAc ?_)
   have hq1 := lrq_one hlr (by omega)
   dsimp only at hq1
   refine wAn (i + 1, ⟨p.first, qp.last, false⟩, M2, ss2) (.cons (t := 0) rfl (.cons (t := 3) rfl (.cons (t := 4) rfl (.cons (t := 5) rfl (.cons (t := 6) rfl .nil))))) ⟨by show i + 1 ≤ xs.length; omega, ?_, hMk.trans hM2, hSI2, hE.trans hE2⟩ (by show xs.length - (i + 1) < xs.length - i; omega) (fun _ h => h.subC fun f => by simp only [List.map_append, List.map_cons, List.map_nil, List.sum_append, List.sum_cons, List.sum_nil]; omega)
   refine hI.step h19 hi1 hE2 false ?_ ?_ (by rw [if_neg (by omega)]) (by rw [decide_eq_false (by omega : ¬ i = 0), h80]; simp)
   ·show _ ↔ (wBo s (l + 1) xs[i]).is = true ∧ (wBo s (l + 1) xs[i]).first = xs[i].key
    rw [← hq1.1, h41]; simp
   intro h; cases h
  refine jp rfl (wAc (jT (wAk rfl (wAs (jTx (jTx (jBx (jT (wAb (wAa (sLL rfl ?_)))))))))))
  refine sSt rfl ?_
  refine wAc (jT (wAf (wBr (rs := [_]) ([(kb, .cells [bv, wv, .slice na s.now.length nc, lw, .slice (some ⟨g, 0, none⟩) 256 256].toArray 134 (0, 0)), (g, .cells (List.flatMap wCj ssk).toArray 136 (0, 0))]) (by first | exact .cons _ (.cons _ (.cons _ (.refl _))) | simp) rfl (.cons (.agg rfl rfl rfl) .nil) ?_)))
  refine ⟨p, ssk, rfl, hSk, hE, rfl, hI.done ?_⟩
  first | exact .inl (by omega) | exact .inr h19
 refine jp rfl (jp rfl (jp rfl (jp rfl (wAc (jT (wAk rfl (wAs (jTx (jTx (jBx (jT (wAb (wAa (sLL rfl ?_))))))))))))))
 refine sSt rfl ?_
 refine wAc (jT (wAf (wBr (rs := [_]) ([(kb, .cells [bv, wv, .slice na s.now.length nc, lw, .slice (some ⟨g, 0, none⟩) 256 256].toArray 134 (0, 0)), (g, .cells (List.flatMap wCj ssk).toArray 136 (0, 0))]) (by first | exact .cons _ (.cons _ (.cons _ (.refl _))) | simp) rfl (.cons (.agg rfl rfl rfl) .nil) ?_)))
 refine ⟨p, ssk, rfl, hSk, hE, rfl, hI.done ?_⟩
 first | exact .inl (by omega) | exact .inr h19
end Go.Proofs.YtbhkdjheooknfaaGreat
