/- Walks: an item taken out. No statement of the seat is proved here. -/
import Derived.Test.YtckdncmjkloebaaZDway
import Derived.Test.YtckdncmjkloebaaZPut
namespace Go.Proofs.Ytckdncmjkloebaa
set_option linter.unusedVariables false
set_option linter.unusedSimpArgs false
open Go.RowKit
theorem bw_idx {α : Type} {ps : List α} {pre : List (α × Nat)} {y : α × Nat} (h : pre ++ [y] <+: bw ps 0) : y.2 = ps.length - 1 - pre.length := by
 obtain ⟨r, hr⟩ := h
 have hl := congrArg List.length hr
 rw [wFf, List.length_append, List.length_append, List.length_singleton] at hl
 have e := congrArg (fun l => l[pre.length]?) hr
 simp only [bw, List.drop_zero] at e
 rw [List.append_assoc, List.getElem?_append_right (by omega), List.getElem?_reverse (by rw [List.length_zipIdx]; omega)] at e
 simp only [List.length_zipIdx, Nat.sub_self] at e
 have e2 : some y = (ps.zipIdx)[ps.length - 1 - pre.length]? := e
 rw [List.getElem?_eq_getElem (by rw [List.length_zipIdx]; omega)] at e2
 have := Option.some.inj e2
 rw [this]; simp
theorem way_lv {s : Sto} {q : Ky} : ∀ {l : Nat} {xs : List It} {i : Nat} (h : i < (wCm s q l xs).length), (wCm s q l xs)[i].lv = (l : Int) - i
 | 0, xs, i, h => by
  have : i = 0 := by rw [way_len] at h; omega
  subst this; rfl
 | l + 1, xs, 0, h => by show ((l + 1 : Nat) : Int) = _; omega
 | l + 1, xs, i + 1, h => by
  have h2 : i < (wCm s q l (match xs[wAt xs q]? with | some x => kid s x | none => [])).length := by rw [way_len] at h ⊢; omega
  have := way_lv h2
  show (wCm s q l (match xs[wAt xs q]? with | some x => kid s x | none => []))[i].lv = _
  rw [this]; omega
theorem way_leaf {s : Sto} {q : Ky} : ∀ {l : Nat} {xs : List It} {k : Nat}, wBs s k = some ((l : Int), xs) → wCd s l xs → (∃ y, wCn s q l xs = some y) → ∃ w, (wCm s q l xs).getLast? = some w ∧ w.at_ < w.xs.length
 | 0, xs, k, hnd, ht, ⟨y, hy⟩ => by
  refine ⟨_, rfl, ?_⟩
  rw [wCn] at hy
  by_cases h : isAt xs q = true
  ·exact wJr h
  ·rw [if_neg h] at hy; cases hy
 | l + 1, xs, k, hnd, ht, ⟨y, hy⟩ => by
  have hne := wJm hnd (by omega)
  have hw2 := wAt_lt (q := q) hne
  obtain ⟨ys, h1, _, h3⟩ := wCu ht (List.getElem_mem hw2)
  have hkid : kid s xs[wAt xs q] = ys := by unfold kid; rw [h1]
  have h4 := (find_way hy hw2).1
  rw [hkid] at h4
  obtain ⟨w, h5, h6⟩ := way_leaf h1 h3 ⟨y, h4⟩
  refine ⟨w, ?_, h6⟩
  rw [wCm, List.getElem?_eq_getElem hw2]
  show (_ :: wCm s q l (kid s xs[wAt xs q])).getLast? = _
  rw [hkid]
  obtain ⟨a, b, e⟩ := List.exists_cons_of_ne_nil (way_ne s q l ys)
  rw [e] at h5 ⊢
  rw [List.getLast?_cons_cons]; exact h5
def KyL (l : List It) : Prop := ∀ y ∈ l, wEv y.key
theorem kid_key (s : Sto) (y : It) : KyL (kid s y) := fun x hx => by
 unfold kid at hx
 split at hx
 ·rename_i lv ys h; exact wGy h x hx
 ·cases hx
theorem joinF_all {s : Sto} {w : Stp} {l : List It} (hat : w.at_ < w.xs.length) (hk : KyL l) (hl : l ≠ []) (h5 : l.length ≤ 5) : KyL (wBt s w l).1 ∧ (wBt s w l).1 ≠ [] ∧ (wBt s w l).1.length ≤ 5 ∧ ((wBt s w l).2.2 = 1 ∨ (wBt s w l).2.2 = 2) ∧ (wBt s w l).2.1 + (wBt s w l).2.2 ≤ w.xs.length := by
 have hno : ∀ j, j = (l, w.at_, 1) → KyL j.1 ∧ j.1 ≠ [] ∧ j.1.length ≤ 5 ∧ (j.2.2 = 1 ∨ j.2.2 = 2) ∧ j.2.1 + j.2.2 ≤ w.xs.length := by
  rintro j rfl; exact ⟨hk, hl, h5, .inl rfl, by show w.at_ + 1 ≤ _; omega⟩
 cases hn : nxt w with
 | none => exact hno _ (join_no hn)
 | some i =>
  have hi : i < w.xs.length ∧ (i = w.at_ + 1 ∨ i + 1 = w.at_) := by
   unfold nxt at hn
   split at hn
   ·split at hn
    ·cases hn
    ·cases hn; omega
   ·cases hn; omega
  have hj := join_yes (s := s) (l := l) hn hi.1
  by_cases h1 : 5 < (kid s w.xs[i]).length + l.length
  ·rw [if_pos h1] at hj; exact hno _ hj
  ·rw [if_neg h1] at hj
   have happ : ∀ {a b : List It}, KyL a → KyL b → KyL (a ++ b) := fun ha hb y hy => (List.mem_append.1 hy).elim (ha y) (hb y)
   by_cases h2 : i < w.at_
   ·rw [if_pos h2] at hj
    rw [hj]
    exact ⟨happ (kid_key s _) hk, fun e => hl (List.append_eq_nil_iff.1 e).2, by simp only [List.length_append]; omega, .inr rfl, by show i + 2 ≤ _; omega⟩
   ·rw [if_neg h2] at hj
    rw [hj]
    exact ⟨happ hk (kid_key s _), fun e => hl (List.append_eq_nil_iff.1 e).1, by simp only [List.length_append]; omega, .inr rfl, by show w.at_ + 2 ≤ _; omega⟩
theorem cutF_all {w : Stp} (hat : w.at_ < w.xs.length) (hk : KyL w.xs) (h5 : w.xs.length ≤ 5) : KyL (cutF w) ∧ (cutF w).length ≤ 5 ∧ (cutF w).length = w.xs.length - 1 := by
 unfold cutF
 refine ⟨fun y hy => hk y ((List.mem_append.1 hy).elim List.mem_of_mem_take List.mem_of_mem_drop), ?_, ?_⟩ <;> simp only [List.length_append, List.length_take, List.length_drop] <;> omega
theorem setF_all {w : Stp} {j : List It × Nat × Nat} {a : Int} (hk : KyL w.xs) (hj : KyL j.1) (hne : j.1 ≠ []) (h5 : w.xs.length ≤ 5) (hm : j.2.2 = 1 ∨ j.2.2 = 2) (hp : j.2.1 + j.2.2 ≤ w.xs.length) : KyL (setF w j a) ∧ (setF w j a).length ≤ 5 ∧ (setF w j a).length = w.xs.length - j.2.2 + 1 := by
 unfold setF
 refine ⟨fun y hy => ?_, ?_, ?_⟩
 ·rcases List.mem_append.1 hy with hy | hy
  ·rcases List.mem_append.1 hy with hy | hy
   ·exact hk y (List.mem_of_mem_take hy)
   ·rw [List.mem_singleton.1 hy]
    obtain ⟨z, zs, e⟩ := List.exists_cons_of_ne_nil hne
    rw [e]; exact hj z (by rw [e]; simp)
  ·exact hk y (List.mem_of_mem_drop hy)
 ·simp only [List.length_append, List.length_take, List.length_drop, List.length_singleton]; omega
 ·simp only [List.length_append, List.length_take, List.length_drop, List.length_singleton]; omega
theorem dn_err {s : Sto} {l0 : List It} {e : Int} : ∀ {ws : List Stp} (k : Nat), dn s l0 (ws.drop k) = .error e → dn s l0 ws = .error e
 | ws, 0, h => by simpa using h
 | [], k + 1, h => by simpa using h
 | w :: ws, k + 1, h => by
  rw [List.drop_succ_cons] at h
  rw [dn, dn_err k h]
theorem single_rng {s t : Sto} {lv a held : Int} {l : List It} (hst : wCr s) (h : wFc s lv l held = .ok (t, a)) : 8 ≤ a ∧ a < 256 := by
 unfold wFc at h
 by_cases h1 : mkE s lv l = 0
 ·have hmo := wKo h1 hst.1.2.1
  have h8 : 8 ≤ wGg (wBb s l) := frAt_ge _ _ _
  rw [if_pos h1] at h
  split at h
  ·split at h
   ·cases h; omega
   ·cases h
  ·cases h; omega
 ·rw [if_neg h1] at h; cases h
theorem dfForm {s : Sto} {root : Int} {q : Ky} {u : Value} {M' : Mem} (h : FdPost s root q u M') : ∃ (y : It) (ya : Option Addr) (yn yc : Nat) (code : Int), u = .tuple #[.agg #[.int .u8 y.key.kind, .int .u32 y.key.id, .int .u32 y.key.off, .int .i64 y.ref, .slice ya yn yc], .int .i64 code] ∧
  ((code ≠ 0 ∧ delF s root q = .error code) ∨ (code = 0 ∧ (wDm s root).2 = 0 ∧ ∃ y, fnd s root q = some y)) := by
 by_cases h0 : (wDm s root).2 = 0
 ·obtain ⟨y, yv, code, h1, ⟨ya, yc, rfl, _⟩, h3⟩ := fdForm h
  refine ⟨y, ya, _, yc, code, h1, ?_⟩
  rcases h3 h0 with ⟨k1, k2⟩ | ⟨k1, k2, _⟩
  ·exact .inr ⟨k2, h0, y, k1⟩
  ·exact .inl ⟨by rw [k2]; decide, by rw [k2]; exact delF_no h0 k1⟩
 ·unfold FdPost at h
  rw [if_neg h0] at h
  exact ⟨zeroI, none, 0, 0, _, h, .inl ⟨h0, delF_bad h0⟩⟩
theorem SM.pre {M : Mem} {a : Option Addr} {xs ys : List Value} (h : SM M a (xs ++ ys)) : SM M a xs := by
 rcases h with h | ⟨b, off, h1, h2⟩
 ·exact .inl (List.append_eq_nil_iff.1 h).1
 ·exact .inr ⟨b, off, h1, fun i u hu => h2 i u (by rw [List.getElem?_append_left (List.getElem?_eq_some_iff.1 hu).1]; exact hu)⟩
theorem rep_any (ps : List Ir) (x : Ir) (i m : Nat) (hm : m = 1 ∨ m = 2) (hi : i + m ≤ ps.length) (sa : Option Addr) (sc : Nat) (R : Lc) (hown : Own (.slice sa ps.length sc) R IT 5 ps.length (ps.flatMap wAs)) (hpo : ∀ x ∈ ps, x.2.oneCell' = true) (vb : Nat) (ve : TypeId) (M : Mem) (hvb : M vb = some (.cells (wAs x).toArray ve (0, 0))) (hvo : x.2.oneCell' = true) (hbig : ps.length ≤ 1000) :
  SpecL Try.prog 24 #[.slice sa ps.length sc, .int .i64 i, .int .i64 ((i + m : Nat) : Int), .slice (some ⟨vb, 0, none⟩) 1 1] M R fun u _ L' => Own u L' IT 5 (ps.length - m + 1) ((ps.take i ++ [x] ++ ps.drop (i + m)).flatMap wAs) := by
 rcases hm with rfl | rfl
 ·exact rep_spec ps [x] i (by omega) sa sc R hown hpo vb 1 [] ve M (by rw [hvb]; simp) (fun z hz => by rw [List.mem_singleton.1 hz]; exact hvo) (by simp) (by simp; omega)
 ·have := rep2_spec ps x i (by omega) sa sc R hown hpo vb 1 [] ve M (by rw [hvb]; simp) hvo (by omega)
  rwa [show ps.length - 1 = ps.length - 2 + 1 by omega] at this
theorem iclone_ips (a : Option Addr) (c : Nat) (xs : List It) (ps : List Ir) (hl : ps.length = xs.length) (M : Mem) (hs : SM M a (ps.flatMap wAs)) (hb : ∀ p ∈ ps, BS M p.2 p.1.val) (hn : ps.length ≤ 1000000) :
  SpecL Try.prog 25 #[.slice a xs.length c] M [] fun v _ L' => Own v L' IT 5 xs.length (ps.flatMap wAs) := by
 rw [← hl]; exact wFw a c ps M hs (wFn hb) hn
theorem headI {l : List It} (h : 0 < l.length) : wDg l = l[0].key := by
 obtain ⟨x, xs, rfl⟩ := List.exists_cons_of_length_pos h; rfl
set_option maxHeartbeats 8000000 in
theorem del_walk (s : Sto) (root : Int) (q : Ky) (bv nv lw : Value) (wa : Option Addr) (wc : Nat) (wps0 : List (Wt × Value)) (M : Mem) (h1 : LS M bv s.blocks) (hwc : s.waits.length ≤ wc) (hws : SM M wa (wps0.flatMap wDh)) (hwp0 : wps0.map (·.1) = s.waits) (hwb0 : ∀ p ∈ wps0, BS M p.2 p.1.2) (h3 : BS M nv s.now) (h4 : BS M lw s.last) :
  SpecL Try.prog 13 #[.agg #[bv, .slice wa s.waits.length wc, nv, lw], .int .i64 root, .agg (wBo q).toArray] M [] fun u M' L' => PtPost (delF s root q) u M' ∧ L' = [] := by
 have h2 : WS M (.slice wa s.waits.length wc) s.waits := ⟨wa, wc, wps0, rfl, hwc, hws, hwp0, hwb0⟩
 have hST : ST M (.agg #[bv, .slice wa s.waits.length wc, nv, lw]) s := ⟨_, _, _, _, rfl, h1, h2, h3, h4⟩
 refine wAi (vs := [_, _, _]) 161 _ Try.func13 rfl Try.ntmps13 rfl rfl ?_; intro W
 refine wAb (wAa ?_)
 refine wAu rfl rfl (wEq (cs := [bv, .slice wa s.waits.length wc, nv, lw]) rfl rfl rfl rfl) ?_; rintro _ _ _ ⟨b3, rfl, rfl, rfl⟩
 refine wAu rfl rfl (wEq (cs := [.int .u8 q.kind, .int .u32 q.id, .int .u32 q.off]) rfl rfl rfl rfl) ?_; rintro _ _ _ ⟨b5, rfl, rfl, rfl⟩
 refine wAu rfl rfl (wAr rfl rfl) ?_; rintro _ _ _ ⟨b6, rfl, rfl, rfl⟩
 refine wAu rfl rfl (wAr rfl rfl) ?_; rintro _ _ _ ⟨b7, rfl, rfl, rfl⟩
 refine wAu rfl rfl (wAr rfl rfl) ?_; rintro _ _ _ ⟨b8, rfl, rfl, rfl⟩
 refine wAc (jT ?_)
 refine jc_scope ?_
 refine wAb (wAb (wAa ?_))
 refine wAe rfl rfl (wCb rfl rfl rfl rfl rfl) ?_
 refine jp rfl ?_
 refine wAe rfl rfl (wCb rfl rfl rfl rfl rfl) ?_
 refine wAu rfl rfl (wAv rfl rfl rfl rfl rfl (by kernel_rfl) (find_spec s _ root q M hST)) ?_; rintro _ M1 _ ⟨hM1, _, rfl, ⟨hfd, rfl⟩⟩
 simp only [List.nil_append]
 obtain ⟨y0, ya, yn, yc, code, rfl, hcode⟩ := dfForm hfd
 iterate 3 refine jp rfl ?_
 refine wAu rfl rfl (wAr rfl rfl) ?_; rintro _ _ _ ⟨b9, rfl, rfl, rfl⟩
 refine wBg rfl (wAf rfl rfl rfl rfl rfl rfl rfl rfl) ?_; rintro _ _ _ ⟨rfl, rfl⟩
 refine jp rfl ?_
 refine wAc (jT (wAb (wAa ?_)))
 refine jp rfl ?_
 refine js rfl (fun h33 => ?_) (fun h33 => ?_)
 ·refine wAc (jT (wAj rfl (wAb (wAa ?_))))
  refine wAe rfl rfl (wAy (cs := [_, _, _, _]) rfl rfl rfl (by rfl)) ?_
  refine jp rfl ?_
  refine wBg rfl (wAf rfl rfl rfl rfl rfl rfl rfl rfl) ?_; rintro _ _ _ ⟨rfl, rfl⟩
  refine wBg rfl (wAf rfl rfl rfl rfl rfl rfl rfl rfl) ?_; rintro _ _ _ ⟨rfl, rfl⟩
  refine wBg rfl (wAf rfl rfl rfl rfl rfl rfl rfl rfl) ?_; rintro _ _ _ ⟨rfl, rfl⟩
  refine wAc (jT (wAh (jTr ?_)))
  refine jN (fun _ h => by cases h) ?_
  refine wEm (rs := [_, _, _]) ([]) (by exact List.nil_sublist _) rfl (.cons (.agg rfl rfl rfl) (.cons (.one rfl rfl rfl) (.cons (.one rfl rfl rfl) .nil))) ?_
  refine ⟨?_, rfl⟩
  obtain ⟨hc0, hde⟩ | ⟨hc0, _⟩ := hcode
  rotate_left
  ·exact absurd hc0 h33
  rw [hde]; exact ⟨hc0, rfl⟩
 ·refine wAc (jT (wAm rfl (wAg (jT (wAb (wAa ?_))))))
  refine wAe rfl rfl (wCb rfl rfl rfl rfl rfl) ?_
  refine jp rfl ?_
  refine wAe rfl rfl (wCb rfl rfl rfl rfl rfl) ?_
  obtain ⟨hc0, _⟩ | ⟨_, hf0, y1, hfy⟩ := hcode
  ·exfalso; exact hc0 (Classical.not_not.1 h33)
  obtain ⟨hst, hr8, hr256, hnz, lev, xs0, hnd0, ht0, _⟩ := wHd hf0
  obtain ⟨hdk, ⟨hn256, _⟩, ⟨hl256, _⟩⟩ := id hst
  have hw4 : s.waits.length ≤ 4096 := hdk.2.1
  have hlv0 := (wBu hnd0).lev
  have hwl0 := way_len (s := s) (q := q) lev xs0
  have hfd0 : ∃ y, wCn s q lev xs0 = some y := ⟨y1, by unfold fnd at hfy; rw [hnd0] at hfy; exact hfy⟩
  have hdel := delF_in hf0 hfy hnd0
  refine wAu rfl rfl (wAv rfl rfl rfl rfl rfl (by kernel_rfl) (dway_walk s root q bv _ nv lw lev xs0 M1 (hST.mono hM1) ⟨hr8, hr256⟩ hst hnd0 ht0 hfd0)) ?_; rintro _ Mw _ ⟨hMw9, _, rfl, ⟨hss, rfl⟩⟩
  have hMw := hM1.trans hMw9
  obtain ⟨wa2, wc2, wps, rfl, hwc2, hws2, hwp, hwb⟩ := id hss
  have hwpl : wps.length = (wCm s q lev xs0).length := by rw [← hwp, List.length_map]
  simp only [List.nil_append]
  refine wAu rfl rfl (wAr rfl rfl) ?_; rintro _ _ _ ⟨b11, rfl, rfl, rfl⟩
  refine wBg rfl (wAf rfl rfl rfl rfl rfl rfl rfl rfl) ?_; rintro _ _ _ ⟨rfl, rfl⟩
  refine wAc (jT (wAb (wAa ?_)))
  refine wAe rfl rfl (qLd rfl rfl rfl rfl (CJ.loc rfl)) ?_
  refine wAe rfl rfl (qLd rfl rfl rfl rfl (CJ.loc rfl)) ?_
  refine wAe rfl rfl (wBy rfl rfl rfl) ?_
  refine wAe rfl rfl (qEq (qA rfl rfl rfl rfl rfl (by omega)) (v' := .int .i64 (((wCm s q lev xs0).length - 1 : Nat) : Int)) (congrArg _ (by omega))) ?_
  have hk1 : (wCm s q lev xs0).length - 1 < (wCm s q lev xs0).length := by omega
  obtain ⟨sb, so, e0, hx⟩ := hws2.open (by intro e; have := congrArg List.length e; rw [wBd wCi 3 wEd, List.length_nil] at this; have h2 := congrArg List.length hwp; rw [List.length_map] at h2; omega)
  cases e0
  obtain ⟨ea, ec, hcl, hvn⟩ := wKe hx hwp hwb hk1
  obtain ⟨w0, hw0, hw0l⟩ := way_leaf hnd0 ht0 hfd0
  have hw0e : (wCm s q lev xs0)[(wCm s q lev xs0).length - 1] = w0 := by rw [List.getLast?_eq_getElem?, List.getElem?_eq_getElem hk1] at hw0; exact Option.some.inj hw0
  rw [hw0e] at hcl hvn
  have hw0m : w0 ∈ wCm s q lev xs0 := by rw [← hw0e]; exact List.getElem_mem _
  obtain ⟨ea2, ec2, eps, ev, hec, hes, hep, heb⟩ := id hvn
  cases ev
  obtain ⟨⟨j0, hnd9⟩, _⟩ := wHi hnd0 ht0 w0 hw0m
  have hno0 := wBu hnd9
  have hx05 := hno0.len
  have hky0 : KyL w0.xs := wGy hnd9
  have hl0e : wKq (wCm s q lev xs0) = cutF w0 := by unfold wKq; rw [hw0]
  obtain ⟨hcu1, hcu2, hcu3⟩ := cutF_all hw0l hky0 hx05
  have hepl : eps.length = w0.xs.length := by rw [← hep, List.length_map]
  refine wAe rfl rfl (wBh rfl rfl rfl rfl (by omega)) ?_
  refine wAe rfl rfl (wGu (cs := [.int .i64 w0.lv, .slice ea w0.xs.length ec, .int .i64 w0.at_]) rfl rfl rfl rfl rfl (fun i v hv => (hcl i v hv).cj _)) ?_
  refine wAu rfl rfl (wAr rfl rfl) ?_; rintro _ _ _ ⟨b12, rfl, rfl, rfl⟩
  refine wBg rfl (wAf rfl rfl rfl rfl rfl rfl rfl rfl) ?_; rintro _ _ _ ⟨rfl, rfl⟩
  refine wAc (jT (wAb ?_))
  refine wEn ([(b12, .cells [.int .i64 w0.lv, .slice ea w0.xs.length ec, .int .i64 w0.at_].toArray 79 (0, 0))]) (by kernel_rfl) (by simp) ?_
  refine wDo (i := 0) rfl (by kernel_rfl) (by kernel_rfl) rfl rfl (wAd rfl rfl rfl rfl rfl) ?_
  refine wDo (i := 1) rfl (by kernel_rfl) (by kernel_rfl) rfl rfl (wAd rfl rfl rfl rfl rfl) ?_
  refine wDo (i := 2) rfl (by kernel_rfl) (by kernel_rfl) rfl rfl (qLd rfl rfl rfl rfl (CJ.loc rfl)) ?_
  refine wDo (i := 4) rfl (by kernel_rfl) (by kernel_rfl) rfl rfl (wAd rfl rfl rfl rfl rfl) ?_
  refine wDo (i := 5) rfl (by kernel_rfl) (by kernel_rfl) rfl rfl (qLd rfl rfl rfl rfl (CJ.loc rfl)) ?_
  refine wDo (i := 6) rfl (by kernel_rfl) (by kernel_rfl) rfl rfl (wAd rfl rfl rfl rfl rfl) ?_
  refine wDo (i := 7) rfl (by kernel_rfl) (by kernel_rfl) rfl rfl (qLd rfl rfl rfl rfl (CJ.loc rfl)) ?_
  refine wDo (i := 8) rfl (by kernel_rfl) (by kernel_rfl) rfl rfl (qEq (qA rfl rfl rfl rfl rfl (by omega)) (v' := .int .i64 ((w0.at_ + 1 : Nat) : Int)) (congrArg _ (by omega))) ?_
  refine wEo (α := Mem × Option Addr × Nat × Lc × Nat) (fun y => MLe Mw y.1 ∧ Own (.slice y.2.1 (w0.xs.length - 1) y.2.2.1) y.2.2.2.1 IT 5 (w0.xs.length - 1) ((eps.take w0.at_ ++ eps.drop (w0.at_ + 1)).flatMap wAs)) (fun y => [(1, .int .i64 root), (3, .pointer (some ⟨b3, 0, none⟩)), (6, .pointer (some ⟨b6, 0, none⟩)), (7, .pointer (some ⟨b7, 0, none⟩)), (8, .pointer (some ⟨b8, 0, none⟩)), (11, .pointer (some ⟨b11, 0, none⟩)), (13, .pointer (some ⟨y.2.2.2.2, 0, none⟩)), (55, .slice y.2.1 (w0.xs.length - 1) y.2.2.1)]) (fun y => y.1) (fun y => (y.2.2.2.2, .cells [Value.slice none 0 0].toArray 43 (0, 0)) :: (y.2.2.2.1 ++ (b12, .cells [.int .i64 w0.lv, .slice ea w0.xs.length ec, .int .i64 w0.at_].toArray 79 (0, 0)) :: (b11, .cells [.slice (some ⟨sb, so, none⟩) (wCm s q lev xs0).length wc2].toArray 76 (0, 0)) :: (b9, .cells [.int .u8 y0.key.kind, .int .u32 y0.key.id, .int .u32 y0.key.off, .int .i64 y0.ref, .slice ya yn yc].toArray 40 (0, 0)) :: (b8, .cells [Value.int .i64 0].toArray 33 (0, 0)) :: (b7, .cells [Value.int .i64 0].toArray 3 (0, 0)) :: (b6, .cells [Value.slice none 0 0, Value.slice none 0 0, Value.slice none 0 0, Value.slice none 0 0].toArray 29 (0, 0)) :: (b5, .cells [.int .u8 q.kind, .int .u32 q.id, .int .u32 q.off].toArray 37 (0, 0)) :: (b3, .cells [bv, .slice wa s.waits.length wc, nv, lw].toArray 29 (0, 0)) :: [])) 1 #[true, true, true, true, true, true, true, true, true, true, true, false] ?_ (fun rest => ?_)
  ·rintro ⟨Mf, da, dc, Rd, b13⟩ ⟨hMf, hownd⟩
   try dsimp only at hMf hownd ⊢
   refine wGd (i := 11) (by kernel_rfl) ?_
   refine js_s rfl rfl (wAf rfl rfl rfl rfl rfl rfl rfl rfl) ?_; rintro _ _ _ ⟨rfl, rfl⟩
   refine wAo (hMf) (by simp) ?_
   refine wHp (by kernel_rfl) ?_
   refine jPn (jT (wAb ?_))
   refine jc_own hownd (by simp) ?_
   intro Ml la2 lc2 hMl el hlc0 hls0
   cases el
   have hMwl := hMf.trans hMl
   have hnl0 : NS Ml (.slice da (cutF w0).length dc) (cutF w0) := by
    refine ⟨da, dc, (eps.take w0.at_ ++ eps.drop (w0.at_ + 1)), rfl, by rw [hcu3]; exact hlc0, hls0, ?_, fun p hp => ?_⟩
    ·rw [List.map_append, List.map_take, List.map_drop, hep]; rfl
    ·exact (heb p ((List.mem_append.1 hp).elim List.mem_of_mem_take List.mem_of_mem_drop)).mono hMwl
   rw [← hcu3]
   refine wAa ?_
   refine wAu rfl rfl (wAr rfl rfl) ?_; rintro _ _ _ ⟨b14, rfl, rfl, rfl⟩
   refine wBg rfl (wAf rfl rfl rfl rfl rfl rfl rfl rfl) ?_; rintro _ _ _ ⟨rfl, rfl⟩
   refine wAc (jT (wAb (wAa ?_)))
   refine wAe rfl rfl (wCb rfl rfl rfl rfl rfl) ?_
   refine wAu rfl rfl (wAv rfl rfl rfl rfl rfl (by kernel_rfl) (on_own s bv nv lw wa wc Ml hwc (by omega) (h3.mono (hMw.trans hMwl)) (by omega))) ?_; rintro _ Mb _ ⟨hMb, _, rfl, ⟨bb, Rn, na, nc, rfl, rfl, hown⟩⟩
   have hMwb := hMw.trans (hMwl.trans hMb)
   have hB0 : BOwn Mb bb ((bb, .cells [bv, .slice wa s.waits.length s.waits.length, .slice na s.now.length nc, lw].toArray TBn (0, 0)) :: Rn) s := by
    refine ⟨bv, _, na, nc, lw, [], Rn, rfl, h1.mono hMwb, h4.mono hMwb, hown, wps0, hwp0, fun p hp => (hwb0 p hp).mono hMwb, ?_⟩
    have hfl : (wps0.flatMap wDh).length = s.waits.length * 2 := by rw [wBd wDh 2 wDt, ← hwp0, List.length_map]
    rcases hws with h0 | ⟨wb, wo, rfl, hwx⟩
    ·have hz : s.waits.length = 0 := by rw [h0, List.length_nil] at hfl; omega
     rw [h0, hz]
     cases wa with
     | none => exact .inl (Own.nil _ _)
     | some ba => exact .inr ⟨rfl, rfl, ba, rfl, .inl rfl, fun i u hu => by cases hu⟩
    ·exact .inr ⟨rfl, hfl, _, rfl, .inr rfl, fun i u hu => (hwx i u hu).mono hMwb⟩
   refine wAu rfl rfl (wAr rfl rfl) ?_; rintro _ _ _ ⟨b15, rfl, rfl, rfl⟩
   refine wBg rfl (wAf rfl rfl rfl rfl rfl rfl rfl rfl) ?_; rintro _ _ _ ⟨rfl, rfl⟩
   refine wAc (jT (wAb ?_))
   refine jc_label ?_
   refine jT (wAb (wAb ?_))
   refine wDv b15 (by simp) ?_
   intro Ma hMa e15
   refine wDv b11 (by simp) ?_
   intro Me hMe0 e11
   have hMf0 := hMa.trans hMe0
   replace e15 := hMe0 _ _ e15
   refine wHo (M' := Me) (L' := (b13, .cells [.slice da (cutF w0).length dc].toArray 43 (0, 0)) :: (b14, .cells [.int .i64 (0)].toArray 3 (0, 0)) :: (b8, .cells [Value.int .i64 (0)].toArray 33 (0, 0)) :: (b7, .cells [Value.int .i64 0].toArray 3 (0, 0)) :: (b6, .cells [Value.slice none 0 0, Value.slice none 0 0, Value.slice none 0 0, Value.slice none 0 0].toArray 29 (0, 0)) :: ((bb, .cells [bv, .slice wa s.waits.length s.waits.length, .slice na s.now.length nc, lw].toArray TBn (0, 0)) :: Rn)) (fun w h => ((((h.perm (L' := (b12, .cells [.int .i64 w0.lv, .slice ea w0.xs.length ec, .int .i64 w0.at_].toArray 79 (0, 0)) :: (b9, .cells [.int .u8 y0.key.kind, .int .u32 y0.key.id, .int .u32 y0.key.off, .int .i64 y0.ref, .slice ya yn yc].toArray 40 (0, 0)) :: (b5, .cells [.int .u8 q.kind, .int .u32 q.id, .int .u32 q.off].toArray 37 (0, 0)) :: (b3, .cells [bv, .slice wa s.waits.length wc, nv, lw].toArray 29 (0, 0)) :: (b13, .cells [.slice da (cutF w0).length dc].toArray 43 (0, 0)) :: (b14, .cells [.int .i64 (0)].toArray 3 (0, 0)) :: (b8, .cells [Value.int .i64 (0)].toArray 33 (0, 0)) :: (b7, .cells [Value.int .i64 0].toArray 3 (0, 0)) :: (b6, .cells [Value.slice none 0 0, Value.slice none 0 0, Value.slice none 0 0, Value.slice none 0 0].toArray 29 (0, 0)) :: ((bb, .cells [bv, .slice wa s.waits.length s.waits.length, .slice na s.now.length nc, lw].toArray TBn (0, 0)) :: Rn)) (wDu fun f => by simp only [mks, List.getElem_toArray, List.getElem_cons_zero, List.getElem_cons_succ, List.map_append, List.map_cons, List.map_nil, List.sum_append, List.sum_cons, List.sum_nil] <;> omega)).tl).tl).tl).tl) ?_
   have hWSl : ((wCm s q lev xs0).dropLast).length = lev := by rw [List.length_dropLast]; omega
   have hwl9 : (wps.take lev).length = lev := by rw [List.length_take]; omega
   have hwp9 : (wps.take lev).map (·.1) = (wCm s q lev xs0).dropLast := by rw [List.map_take, hwp, List.dropLast_eq_take]; congr 1; omega
   refine wAa ?_
   refine wAe rfl rfl (qLd rfl rfl rfl rfl (CM.cj ⟨_, _, _, e11, rfl⟩ _)) ?_
   refine wAe rfl rfl (qLd rfl rfl rfl rfl (CM.cj ⟨_, _, _, e11, rfl⟩ _)) ?_
   refine wAe rfl rfl (wBy rfl rfl rfl) ?_
   refine ja rfl (by omega) ?_
   refine wAe rfl rfl (qEq (qSl rfl rfl rfl (.no _) (.of (v := lev) rfl (by omega) (by omega)) (.no _) (by omega) (by simp)) (v' := .slice (some ⟨sb, so, none⟩) lev wc2) (by rw [wCg]; exact wHy rfl (by omega) (by omega))) ?_
   refine wAu rfl rfl (wAv rfl rfl rfl rfl rfl (by kernel_rfl) (bwd _ _ _ Me)) ?_; rintro _ Mg _ ⟨hMg0, _, rfl, ⟨b63, rfl, e63, rfl⟩⟩
   rw [← hwl9] at e63
   simp only [List.nil_append]
   have hMg : MLe Mw Mg := hMwl.trans (hMb.trans (hMf0.trans hMg0))
   have hs63 : SM Mg (some ⟨sb, so, none⟩) ((wps.take lev).flatMap wCi) := by
    have := hws2.mono hMg
    rw [← List.take_append_drop lev wps, List.flatMap_append] at this
    exact this.pre
   refine wAc (jT (wAk ?_))
   refine jc_rangeN (R := (b13, .cells [.slice da (cutF w0).length dc].toArray 43 (0, 0)) :: (b14, .cells [.int .i64 (0)].toArray 3 (0, 0)) :: (b8, .cells [Value.int .i64 (0)].toArray 33 (0, 0)) :: (b7, .cells [Value.int .i64 0].toArray 3 (0, 0)) :: (b6, .cells [Value.slice none 0 0, Value.slice none 0 0, Value.slice none 0 0, Value.slice none 0 0].toArray 29 (0, 0)) :: ((bb, .cells [bv, .slice wa s.waits.length s.waits.length, .slice na s.now.length nc, lw].toArray TBn (0, 0)) :: Rn)) (xs := bw (wps.take lev) 0) (enc := (fun p : (Stp × Value) × Nat => [.int .i64 p.2, .agg (wCi p.1).toArray])) (ps := [64, 65]) rfl (by kernel_rfl) (bwd_iter b63 (some ⟨sb, so, none⟩) wc2 (wps.take lev) Mg e63 hs63 (by omega))
    (fun pre M' R => ∃ t l la lc held Lb, R = (b13, .cells [.slice la l.length lc].toArray 43 (0, 0)) :: (b14, .cells [.int .i64 (held)].toArray 3 (0, 0)) :: (b8, .cells [Value.int .i64 (0)].toArray 33 (0, 0)) :: (b7, .cells [Value.int .i64 0].toArray 3 (0, 0)) :: (b6, .cells [Value.slice none 0 0, Value.slice none 0 0, Value.slice none 0 0, Value.slice none 0 0].toArray 29 (0, 0)) :: Lb ∧ dn s (wKq (wCm s q lev xs0)) (((wCm s q lev xs0).dropLast).drop (lev - pre.length)) = .ok (t, l, held) ∧ BOwn M' bb Lb t ∧ wCr t ∧ NS M' (.slice la l.length lc) l ∧ KyL l ∧ l.length ≤ 5 ∧ (held = 0 ∨ 8 ≤ held ∧ held < 256))
    (fun c pre M' R => ∃ (e held : Int) (lv : Value) (Lb : Lc), c = .ret ∧ e ≠ 0 ∧ R = (b13, .cells [lv].toArray 43 (0, 0)) :: (b14, .cells [.int .i64 (held)].toArray 3 (0, 0)) :: (b8, .cells [Value.int .i64 (e)].toArray 33 (0, 0)) :: (b7, .cells [Value.int .i64 0].toArray 3 (0, 0)) :: (b6, .cells [Value.slice none 0 0, Value.slice none 0 0, Value.slice none 0 0, Value.slice none 0 0].toArray 29 (0, 0)) :: Lb ∧ dn s (wKq (wCm s q lev xs0)) ((wCm s q lev xs0).dropLast) = .error e)
    (fun _ => rfl) (by decide) ⟨s, cutF w0, da, dc, 0, ((bb, .cells [bv, .slice wa s.waits.length s.waits.length, .slice na s.now.length nc, lw].toArray TBn (0, 0)) :: Rn), rfl, (by rw [List.length_nil, Nat.sub_zero, List.drop_eq_nil_of_le (by omega), hl0e]; rfl), hB0.mono (hMf0.trans hMg0), hst, hnl0.mono (hMb.trans (hMf0.trans hMg0)), hcu1, hcu2, .inl rfl⟩ ?_ ?_ ?_
   ·intro l2 W2 pre y M2 R2 hXW hM2 hI2 hpre
    obtain ⟨t, l, la, lc, held, Lb2, rfl, hdn, hB2, ht2, hnl, hkl, hll, hhd⟩ := hI2
    obtain ⟨hlt, hy⟩ := bw_at hpre
    have hyi := bw_idx hpre
    rw [hwl9] at hlt hyi
    obtain ⟨⟨w, wv⟩, yi⟩ := y
    dsimp only at hy hyi
    subst hyi
    have hn9 : lev - 1 - pre.length < (wCm s q lev xs0).length := by omega
    have hwe : w = (wCm s q lev xs0)[lev - 1 - pre.length] := by
     have e1 : w = (wps.take lev)[(wps.take lev).length - 1 - pre.length].1 := by rw [← hy]
     rw [e1]; simp only [List.getElem_take, ← hwp, List.getElem_map, hwl9]
    have hwm : (w, wv) ∈ wps := by rw [hy]; exact List.mem_of_mem_take (List.getElem_mem _)
    have hww : w ∈ wCm s q lev xs0 := by rw [hwe]; exact List.getElem_mem _
    have hwn := (hwb _ hwm).mono (hMg.trans hM2)
    dsimp only at hwn
    obtain ⟨ia, ic, ips, hwv, hic, his, hip, hib⟩ := id hwn
    subst hwv
    obtain ⟨⟨jw, hnw⟩, hwl, hwl2⟩ := wHi hnd0 ht0 w hww
    have hnow := wBu hnw
    have hwx := hnow.len
    have hwlv := hnow.lev
    have hkw : KyL w.xs := wGy hnw
    have hlvw : w.lv = (pre.length : Int) + 1 := by rw [hwe, way_lv hn9]; omega
    have hat := hwl2 (by omega)
    have hxr9 : ∀ x ∈ w.xs, 8 ≤ x.ref ∧ x.ref < 256 := fun x hx => by have := hnow.ref x hx; have := hnow.up (by omega) x hx; omega
    have hdrop : ((wCm s q lev xs0).dropLast).drop (lev - (pre.length + 1)) = w :: ((wCm s q lev xs0).dropLast).drop (lev - pre.length) := by
     have hk9 : lev - (pre.length + 1) < ((wCm s q lev xs0).dropLast).length := by omega
     rw [List.drop_eq_getElem_cons hk9]
     congr 1
     ·rw [hwe, List.getElem_dropLast]; congr 1; omega
     ·congr 1; omega
    have hipl : ips.length = w.xs.length := by rw [← hip, List.length_map]
    simp only [wCi]
    refine wAb (wAa ?_)
    refine jp rfl ?_
    refine wAc (jT (wAa ?_))
    refine wAu rfl rfl (wAr rfl rfl) ?_; rintro _ _ _ ⟨b17, rfl, rfl, rfl⟩
    refine wBg rfl (wAf rfl rfl rfl rfl rfl rfl rfl rfl) ?_; rintro _ _ _ ⟨rfl, rfl⟩
    refine wAc ?_
    refine jKN fun W' hW' => ?_
    refine wAk (wAb (wAb ?_))
    have hX9 : ∀ x ∈ ((b13, .cells [.slice la l.length lc].toArray 43 (0, 0)) :: (b14, .cells [.int .i64 (held)].toArray 3 (0, 0)) :: (b8, .cells [Value.int .i64 (0)].toArray 33 (0, 0)) :: (b7, .cells [Value.int .i64 0].toArray 3 (0, 0)) :: (b6, .cells [Value.slice none 0 0, Value.slice none 0 0, Value.slice none 0 0, Value.slice none 0 0].toArray 29 (0, 0)) :: Lb2 : Lc).map (·.1), x < W'.heap.size := by rw [hW']; exact hXW
    refine wAa ?_
    refine wAe rfl rfl (qLd rfl rfl rfl rfl (CJ.loc rfl)) ?_
    refine wAe rfl rfl (wBy rfl rfl rfl) ?_
    refine js rfl (fun h68 => ?_) (fun h68 => ?_)
    ·refine wAc (jT (wAj rfl (wAb ?_)))
     refine wBv [(0, true), (1, true), (2, true), (4, true), (5, true), (6, true), (7, true), (8, true), (3, false), (9, false), (10, false), (11, false)] [(b17, .cells [.int .i64 w.lv, .slice ia w.xs.length ic, .int .i64 w.at_].toArray 79 (0, 0))] (by kernel_rfl) (by kernel_rfl) (by kernel_rfl) rfl (by simp) ?_
     refine wAw rfl rfl rfl (wAd rfl rfl rfl rfl rfl) ?_
     refine wAw rfl rfl rfl (wAd rfl rfl rfl rfl rfl) ?_
     refine wAw rfl rfl rfl (qLd rfl rfl rfl rfl (CJ.loc rfl)) ?_
     refine wAw rfl rfl rfl (wAd rfl rfl rfl rfl rfl) ?_
     refine wAw rfl rfl rfl (qLd rfl rfl rfl rfl (CJ.loc rfl)) ?_
     refine wAw rfl rfl rfl (wAd rfl rfl rfl rfl rfl) ?_
     refine wAw rfl rfl rfl (qLd rfl rfl rfl rfl (CJ.loc rfl)) ?_
     refine wAw rfl rfl rfl (qEq (qA rfl rfl rfl rfl rfl (by omega)) (v' := .int .i64 ((w.at_ + 1 : Nat) : Int)) (congrArg _ (by omega))) ?_
     refine wJa rfl rfl rfl (wJb rfl rfl rfl rfl rfl (by kernel_rfl) (by have := wFw ia ic ips M2 his (wFn hib) (by omega); rwa [hipl] at this)) ?_; rintro _ Mc _ ⟨hMc, Rc, rfl, hownc, hnw1⟩
     refine ⟨_, _, MLe.refl _, hMc, fun _ h => h, by simp, ?_⟩
     obtain ⟨ca, cc, hcv⟩ := hownc.form
     subst hcv
     refine wJa rfl rfl rfl (wJb rfl rfl rfl rfl rfl (by kernel_rfl) (by have := del_spec ips w.at_ (by omega) ca cc Rc (by rw [hipl]; exact hownc) (wFn hib) Mc (by omega); rwa [hipl] at this)) ?_; rintro _ Md _ ⟨hMd, Rd, rfl, hownd, hnw2⟩
     refine ⟨_, _, MLe.refl _, (hMc.trans hMd), fun _ h => h, by simp, ?_⟩
     obtain ⟨da9, dc9, hdv⟩ := hownd.form
     subst hdv
     refine jd_s rfl rfl (wAf rfl rfl rfl rfl rfl rfl rfl rfl) ?_; rintro _ _ _ ⟨rfl, rfl⟩
     refine ⟨_, _, MLe.refl _, (by first | exact MLe.refl _ | assumption | exact hMc.trans hMd | exact hMc.trans (hMu.trans hMp)), fun _ h => h, by simp, ?_⟩
     refine jd_s rfl rfl (wAf rfl rfl rfl rfl rfl rfl rfl rfl) ?_; rintro _ _ _ ⟨rfl, rfl⟩
     refine ⟨_, _, MLe.refl _, (by first | exact MLe.refl _ | assumption | exact hMc.trans hMd | exact hMc.trans (hMu.trans hMp)), fun _ h => h, by simp, ?_⟩
     refine wBn (jPn (jT (wBe (jTx (jBx ?_)))))
     have hnl9 : ∀ p ∈ Rd, W'.heap.size ≤ p.1 := fun p hp => (hnw2 p hp).elim (fun h => by obtain ⟨q, hq, e⟩ := List.mem_map.1 h; rw [← e]; exact (hnw1 q hq).elim (fun h => by cases h) id) id
     refine jq_ownN hownd (not_in hX9 hnl9) ?_
     intro Mr ra2 rc2 hMr er hrc hrs; cases er
     replace hrs := hrs.mono (wGc _ _)
     refine wDk (M' := Mr) (L' := (b13, .cells [.slice da9 (w.xs.length - 1) dc9].toArray 43 (0, 0)) :: (b14, .cells [.int .i64 (0)].toArray 3 (0, 0)) :: (b8, .cells [Value.int .i64 (0)].toArray 33 (0, 0)) :: (b7, .cells [Value.int .i64 0].toArray 3 (0, 0)) :: (b6, .cells [Value.slice none 0 0, Value.slice none 0 0, Value.slice none 0 0, Value.slice none 0 0].toArray 29 (0, 0)) :: Lb2) (fun w9 h => (h.perm (L' := (b17, .cells [.int .i64 w.lv, .slice ia w.xs.length ic, .int .i64 w.at_].toArray 79 (0, 0)) :: (b13, .cells [.slice da9 (w.xs.length - 1) dc9].toArray 43 (0, 0)) :: (b14, .cells [.int .i64 (0)].toArray 3 (0, 0)) :: (b8, .cells [Value.int .i64 (0)].toArray 33 (0, 0)) :: (b7, .cells [Value.int .i64 0].toArray 3 (0, 0)) :: (b6, .cells [Value.slice none 0 0, Value.slice none 0 0, Value.slice none 0 0, Value.slice none 0 0].toArray 29 (0, 0)) :: Lb2) (wDu fun f => by simp only [mks, List.getElem_toArray, List.getElem_cons_zero, List.getElem_cons_succ, List.map_append, List.map_cons, List.map_nil, List.sum_append, List.sum_cons, List.sum_nil] <;> omega)).tl) ?_
     refine jQn ?_
     obtain ⟨hcw1, hcw2, hcw3⟩ := cutF_all hat hkw hwx
     refine ⟨t, cutF w, da9, dc9, 0, Lb2, by rw [hcw3], ?_, hB2.mono (hMc.trans (hMd.trans hMr)), ht2, ⟨da9, dc9, ips.take w.at_ ++ ips.drop (w.at_ + 1), rfl, by rw [hcw3]; exact hrc, hrs, by rw [List.map_append, List.map_take, List.map_drop, hip]; rfl, fun p hp => (hib p ((List.mem_append.1 hp).elim List.mem_of_mem_take List.mem_of_mem_drop)).mono (hMc.trans (hMd.trans hMr))⟩, hcw1, hcw2, .inl rfl⟩
     rw [List.length_append, List.length_singleton, hdrop, dn, hdn]
     show upD t w l held = _
     unfold upD; rw [if_pos (List.eq_nil_of_length_eq_zero (by omega))]
    ·refine wAc (jT (wAm rfl (wAg (jT (wAb (wAa ?_))))))
     refine wAe rfl rfl (qLd rfl rfl rfl rfl (CM.cj ⟨_, _, _, (hMg0.trans hM2) _ _ e15, rfl⟩ _)) ?_
     refine wAe rfl rfl (wCb rfl rfl rfl rfl rfl) ?_
     refine wAe rfl rfl (qLd rfl rfl rfl rfl (CJ.loc rfl)) ?_
     have hl0 : l ≠ [] := fun e => h68 (by rw [e]; rfl)
     refine wAu rfl rfl (wAv rfl rfl rfl rfl rfl (by kernel_rfl) (join_spec t w l ia ic la lc bb M2 Lb2 hB2 ht2 hwn hnl hat hwx (by omega) hxr9)) ?_; rintro _ Mj _ ⟨hMj, Rj, rfl, ⟨jva, jvc, rfl, hnj, hLj⟩⟩
     rw [hLj]
     obtain ⟨hj1, hj2, hj3, hj4, hj5⟩ := joinF_all (s := t) hat hkl hl0 hll
     iterate 3 refine jp rfl ?_
     refine wAu rfl rfl (wAr rfl rfl) ?_; rintro _ _ _ ⟨b19, rfl, rfl, rfl⟩
     refine jp rfl ?_
     refine wBg rfl (wAf rfl rfl rfl rfl rfl rfl rfl rfl) ?_; rintro _ _ _ ⟨rfl, rfl⟩
     refine wAc (jT (wAb (wAa ?_)))
     refine wAe rfl rfl (qLd rfl rfl rfl rfl (CM.cj ⟨_, _, _, (hMg0.trans (hM2.trans hMj)) _ _ e15, rfl⟩ _)) ?_
     refine wAe rfl rfl (qLd rfl rfl rfl rfl (CM.cj ⟨_, _, _, (hMg0.trans (hM2.trans hMj)) _ _ e11, rfl⟩ _)) ?_
     refine wAe rfl rfl (wBy rfl rfl rfl) ?_
     refine ja rfl (by omega) ?_
     refine jp rfl ?_
     refine wAe rfl rfl (qEq (qA rfl rfl rfl rfl rfl (by omega)) (v' := .int .i64 (pre.length : Int)) (congrArg _ (by omega))) ?_
     refine jp rfl ?_
     refine wAe rfl rfl (qLd rfl rfl rfl rfl (CJ.loc rfl)) ?_
     refine wAu rfl rfl (wJb rfl rfl rfl rfl rfl (by kernel_rfl) (single_spec t (pre.length : Int) (wBt t w l).1 held jva jvc bb Mj Lb2 (hB2.mono hMj) ht2 hnj (fun y hy => (hj1 y hy).1) hhd)) ?_; rintro _ Ms _ ⟨hMs, Rs, rfl, hsg, hnw3⟩
     obtain ⟨a9, e, rfl, hsg2⟩ := hsg
     iterate 5 refine jp rfl ?_
     refine wAc (jT (wAb (wAb (wAa ?_))))
     refine jp rfl ?_
     refine js rfl (fun h99 => ?_) (fun h99 => ?_)
     ·refine wAc (jT (wAj rfl (wAb (wAa ?_))))
      refine wAe rfl rfl (wAy (cs := [_, _, _, _]) rfl rfl rfl (by rfl)) ?_
      refine jp rfl ?_
      refine wBg rfl (wAf rfl rfl rfl rfl rfl rfl rfl rfl) ?_; rintro _ _ _ ⟨rfl, rfl⟩
      refine wBg rfl (wAf rfl rfl rfl rfl rfl rfl rfl rfl) ?_; rintro _ _ _ ⟨rfl, rfl⟩
      refine wBg rfl (wAf rfl rfl rfl rfl rfl rfl rfl rfl) ?_; rintro _ _ _ ⟨rfl, rfl⟩
      refine wAc (jT (wAh (jTr (jBr ?_))))
      obtain ⟨he9, hbe⟩ | ⟨rfl, _⟩ := hsg2
      rotate_left
      ·exact absurd rfl h99
      refine wDk (M' := Ms) (L' := (b13, .cells [.slice la l.length lc].toArray 43 (0, 0)) :: (b14, .cells [.int .i64 (held)].toArray 3 (0, 0)) :: (b8, .cells [Value.int .i64 (e)].toArray 33 (0, 0)) :: (b7, .cells [Value.int .i64 0].toArray 3 (0, 0)) :: (b6, .cells [Value.slice none 0 0, Value.slice none 0 0, Value.slice none 0 0, Value.slice none 0 0].toArray 29 (0, 0)) :: Rs) (fun w9 h => ((h.perm (L' := (b19, .cells [.int .i64 ((wBt t w l).2.1 : Int), .int .i64 ((wBt t w l).2.2 : Int)].toArray 85 (0, 0)) :: (b17, .cells [.int .i64 w.lv, .slice ia w.xs.length ic, .int .i64 w.at_].toArray 79 (0, 0)) :: (b13, .cells [.slice la l.length lc].toArray 43 (0, 0)) :: (b14, .cells [.int .i64 (held)].toArray 3 (0, 0)) :: (b8, .cells [Value.int .i64 (e)].toArray 33 (0, 0)) :: (b7, .cells [Value.int .i64 0].toArray 3 (0, 0)) :: (b6, .cells [Value.slice none 0 0, Value.slice none 0 0, Value.slice none 0 0, Value.slice none 0 0].toArray 29 (0, 0)) :: Rs) (wDu fun f => by simp only [mks, List.getElem_toArray, List.getElem_cons_zero, List.getElem_cons_succ, List.map_append, List.map_cons, List.map_nil, List.sum_append, List.sum_cons, List.sum_nil] <;> omega)).tl).tl) ?_
      refine jQr ?_
      refine ⟨e, held, _, Rs, rfl, he9, rfl, ?_⟩
      refine dn_err (lev - (pre.length + 1)) ?_
      rw [hdrop, dn, hdn]
      show upD t w l held = _
      unfold upD; rw [if_neg hl0, show w.lv - 1 = (pre.length : Int) by omega, hbe]
     ·refine wAc (jT (wAm rfl (wAg (jT (wAb ?_)))))
      obtain ⟨he9, _⟩ | ⟨rfl, t9, hsok, hts, hBs⟩ := hsg2
      ·exact absurd (Classical.not_not.1 h99) he9
      have hr9 := single_rng ht2 hsok
      refine wAa ?_
      refine jp rfl ?_
      obtain ⟨_, _, jps, ej, hjc, hjs, hjp, hjb⟩ := id (hnj.mono hMs)
      cases ej
      have hj0 : 0 < (wBt t w l).1.length := List.length_pos_iff.2 hj2
      obtain ⟨jb, jo, e0, hjx⟩ := hjs.open (by intro e; have := congrArg List.length e; rw [wBd wAs 5 wAp, List.length_nil] at this; have h2 := congrArg List.length hjp; rw [List.length_map] at h2; omega)
      cases e0
      obtain ⟨va, vc, hcl9, hvc, hvs⟩ := wBi hjx hjp hjb hj0
      refine wAe rfl rfl (wBh rfl rfl rfl rfl (by omega)) ?_
      refine wAe rfl rfl (wAd rfl rfl rfl rfl rfl) ?_
      refine wAe rfl rfl (wGu (cs := wBo (wBt t w l).1[0].key) rfl rfl rfl rfl rfl (fun i v hv => (hcl9 i v (key_itc hv)).cj _)) ?_
      refine jp rfl ?_
      refine wAe rfl rfl (qEq (wAy (cs := [_, _, _, _, _]) rfl rfl rfl (by rfl)) (v' := .agg #[.int .u8 (wDg (wBt t w l).1).kind, .int .u32 (wDg (wBt t w l).1).id, .int .u32 (wDg (wBt t w l).1).off, .int .i64 a9, .slice none 0 0]) (by rw [headI hj0]; rfl)) ?_
      refine wAu rfl rfl (wAr rfl rfl) ?_; rintro _ _ _ ⟨b22, rfl, rfl, rfl⟩
      refine wBg rfl (wAf rfl rfl rfl rfl rfl rfl rfl rfl) ?_; rintro _ _ _ ⟨rfl, rfl⟩
      refine wAc (jT ?_)
      have hib2 := fun p hp => (hib p hp).mono (hMj.trans hMs)
      refine wEn ([(b17, .cells [.int .i64 w.lv, .slice ia w.xs.length ic, .int .i64 w.at_].toArray 79 (0, 0)), (b19, .cells [.int .i64 ((wBt t w l).2.1 : Int), .int .i64 ((wBt t w l).2.2 : Int)].toArray 85 (0, 0)), (b22, .cells [.int .u8 (wDg (wBt t w l).1).kind, .int .u32 (wDg (wBt t w l).1).id, .int .u32 (wDg (wBt t w l).1).off, .int .i64 a9, .slice none 0 0].toArray 40 (0, 0))]) (by kernel_rfl) (by simp) ?_
      refine wDo (i := 0) rfl (by kernel_rfl) (by kernel_rfl) rfl rfl (wAd rfl rfl rfl rfl rfl) ?_
      refine wDo (i := 1) rfl (by kernel_rfl) (by kernel_rfl) rfl rfl (wAd rfl rfl rfl rfl rfl) ?_
      refine wDo (i := 2) rfl (by kernel_rfl) (by kernel_rfl) rfl rfl (qLd rfl rfl rfl rfl (CJ.loc rfl)) ?_
      refine wDo (i := 4) rfl (by kernel_rfl) (by kernel_rfl) rfl rfl (wAd rfl rfl rfl rfl rfl) ?_
      refine wDo (i := 5) rfl (by kernel_rfl) (by kernel_rfl) rfl rfl (qLd rfl rfl rfl rfl (CJ.loc rfl)) ?_
      refine wDo (i := 6) rfl (by kernel_rfl) (by kernel_rfl) rfl rfl (wAd rfl rfl rfl rfl rfl) ?_
      refine wDo (i := 7) rfl (by kernel_rfl) (by kernel_rfl) rfl rfl (qLd rfl rfl rfl rfl (CJ.loc rfl)) ?_
      refine wDo (i := 8) rfl (by kernel_rfl) (by kernel_rfl) rfl rfl (wAd rfl rfl rfl rfl rfl) ?_
      refine wDo (i := 9) rfl (by kernel_rfl) (by kernel_rfl) rfl rfl (qLd rfl rfl rfl rfl (CJ.loc rfl)) ?_
      refine wDo (i := 10) rfl (by kernel_rfl) (by kernel_rfl) rfl rfl (qEq (qA rfl rfl rfl rfl rfl (by omega)) (v' := .int .i64 (((wBt t w l).2.1 + (wBt t w l).2.2 : Nat) : Int)) (congrArg _ (by omega))) ?_
      refine wDo (i := 11) rfl (by kernel_rfl) (by kernel_rfl) rfl rfl (wCb rfl rfl rfl rfl rfl) ?_
      refine wDi (i := 14) rfl (by kernel_rfl) (by kernel_rfl) rfl ?_
      refine wEo (α := Mem × Option Addr × Nat × Lc × Nat) (fun y => MLe Ms y.1 ∧ Own (.slice y.2.1 w.xs.length y.2.2.1) y.2.2.2.1 IT 5 w.xs.length (ips.flatMap wAs) ∧ (∀ p ∈ y.2.2.2.1, p.1 ∈ ([] : Lc).map (·.1) ∨ W'.heap.size ≤ p.1) ∧ y.1 y.2.2.2.2 = some (.cells [.int .u8 (wDg (wBt t w l).1).kind, .int .u32 (wDg (wBt t w l).1).id, .int .u32 (wDg (wBt t w l).1).off, .int .i64 a9, .slice none 0 0].toArray IT (0, 0))) (fun y => [(13, .pointer (some ⟨b13, 0, none⟩)), (14, .pointer (some ⟨b14, 0, none⟩)), (20, .int .i64 a9), (111, .slice y.2.1 w.xs.length y.2.2.1), (113, .int .i64 ((wBt t w l).2.1 : Int)), (118, .int .i64 (((wBt t w l).2.1 + (wBt t w l).2.2 : Nat) : Int)), (120, .slice (some ⟨y.2.2.2.2, 0, none⟩) 1 1), (122, .int .i64 a9)]) (fun y => y.1) (fun y => y.2.2.2.1 ++ (b22, .cells [.int .u8 (wDg (wBt t w l).1).kind, .int .u32 (wDg (wBt t w l).1).id, .int .u32 (wDg (wBt t w l).1).off, .int .i64 a9, .slice none 0 0].toArray 40 (0, 0)) :: (b19, .cells [.int .i64 ((wBt t w l).2.1 : Int), .int .i64 ((wBt t w l).2.2 : Int)].toArray 85 (0, 0)) :: (b17, .cells [.int .i64 w.lv, .slice ia w.xs.length ic, .int .i64 w.at_].toArray 79 (0, 0)) :: (b13, .cells [.slice la l.length lc].toArray 43 (0, 0)) :: (b14, .cells [.int .i64 (held)].toArray 3 (0, 0)) :: (b8, .cells [Value.int .i64 (0)].toArray 33 (0, 0)) :: (b7, .cells [Value.int .i64 0].toArray 3 (0, 0)) :: (b6, .cells [Value.slice none 0 0, Value.slice none 0 0, Value.slice none 0 0, Value.slice none 0 0].toArray 29 (0, 0)) :: Rs) 3 #[true, true, true, true, true, true, true, true, true, true, true, true, true, false, true, false, false] ?_ (fun rest => ?_)
      ·rintro ⟨Mf, ca, cc, Rc, b120⟩ ⟨hMf, hownc, hnw1, e120⟩
       try dsimp only at hMf hownc hnw1 e120 ⊢
       refine wGd (i := 13) (by kernel_rfl) ?_
       refine wCp rfl rfl rfl (wJb rfl rfl rfl rfl rfl (by kernel_rfl) (by have := rep_any ips (⟨wDg (wBt t w l).1, a9, []⟩, .slice none 0 0) (wBt t w l).2.1 (wBt t w l).2.2 hj4 (by omega) ca cc Rc (by rw [hipl]; exact hownc) (wFn hib) b120 _ Mf e120 rfl (by omega); rwa [hipl] at this)) ?_; rintro _ Mp _ ⟨hMp, Rd, rfl, hownd, hnw2⟩
       refine wAo (hMf.trans hMp) (by simp) ?_
       obtain ⟨da9, dc9, hdv⟩ := hownd.form
       subst hdv
       refine wGd (i := 15) (by kernel_rfl) ?_
       refine js_s rfl rfl (wAf rfl rfl rfl rfl rfl rfl rfl rfl) ?_; rintro _ _ _ ⟨rfl, rfl⟩
       refine wAo (hMf.trans hMp) (by simp) ?_
       refine wGd (i := 16) (by kernel_rfl) ?_
       refine js_s rfl rfl (wAf rfl rfl rfl rfl rfl rfl rfl rfl) ?_; rintro _ _ _ ⟨rfl, rfl⟩
       refine wAo (hMf.trans hMp) (by simp) ?_
       refine wHp (by kernel_rfl) ?_
       refine jPn (jB ?_)
       have hnl9 : ∀ p ∈ Rd, W'.heap.size ≤ p.1 := fun p hp => (hnw2 p hp).elim (fun h => by obtain ⟨q, hq, e⟩ := List.mem_map.1 h; rw [← e]; exact (hnw1 q hq).elim (fun h => by cases h) id) id
       refine jq_ownN hownd (not_in hX9 hnl9) ?_
       intro Mr ra2 rc2 hMr er hrc hrs; cases er
       replace hrs := hrs.mono (wGc _ _)
       refine wDk (M' := Mr) (L' := (b13, .cells [.slice da9 (w.xs.length - (wBt t w l).2.2 + 1) dc9].toArray 43 (0, 0)) :: (b14, .cells [.int .i64 (a9)].toArray 3 (0, 0)) :: (b8, .cells [Value.int .i64 (0)].toArray 33 (0, 0)) :: (b7, .cells [Value.int .i64 0].toArray 3 (0, 0)) :: (b6, .cells [Value.slice none 0 0, Value.slice none 0 0, Value.slice none 0 0, Value.slice none 0 0].toArray 29 (0, 0)) :: Rs) (fun w9 h => (((h.perm (L' := (b22, .cells [.int .u8 (wDg (wBt t w l).1).kind, .int .u32 (wDg (wBt t w l).1).id, .int .u32 (wDg (wBt t w l).1).off, .int .i64 a9, .slice none 0 0].toArray 40 (0, 0)) :: (b19, .cells [.int .i64 ((wBt t w l).2.1 : Int), .int .i64 ((wBt t w l).2.2 : Int)].toArray 85 (0, 0)) :: (b17, .cells [.int .i64 w.lv, .slice ia w.xs.length ic, .int .i64 w.at_].toArray 79 (0, 0)) :: (b13, .cells [.slice da9 (w.xs.length - (wBt t w l).2.2 + 1) dc9].toArray 43 (0, 0)) :: (b14, .cells [.int .i64 (a9)].toArray 3 (0, 0)) :: (b8, .cells [Value.int .i64 (0)].toArray 33 (0, 0)) :: (b7, .cells [Value.int .i64 0].toArray 3 (0, 0)) :: (b6, .cells [Value.slice none 0 0, Value.slice none 0 0, Value.slice none 0 0, Value.slice none 0 0].toArray 29 (0, 0)) :: Rs) (wDu fun f => by simp only [mks, List.getElem_toArray, List.getElem_cons_zero, List.getElem_cons_succ, List.map_append, List.map_cons, List.map_nil, List.sum_append, List.sum_cons, List.sum_nil] <;> omega)).tl).tl).tl) ?_
       refine jQn ?_
       obtain ⟨hsf1, hsf2, hsf3⟩ := setF_all (a := a9) hkw hj1 hj2 hwx hj4 hj5
       refine ⟨t9, setF w (wBt t w l) a9, da9, dc9, a9, Rs, by rw [hsf3], ?_, hBs.mono (hMf.trans (hMp.trans hMr)), hts, ⟨da9, dc9, ips.take (wBt t w l).2.1 ++ [(⟨wDg (wBt t w l).1, a9, []⟩, .slice none 0 0)] ++ ips.drop ((wBt t w l).2.1 + (wBt t w l).2.2), rfl, by rw [hsf3]; exact hrc, hrs, by rw [List.map_append, List.map_append, List.map_take, List.map_drop, hip]; rfl, fun p hp => ?_⟩, hsf1, hsf2, .inr hr9⟩
       ·rw [List.length_append, List.length_singleton, hdrop, dn, hdn]
        show upD t w l held = _
        unfold upD; rw [if_neg hl0, show w.lv - 1 = (pre.length : Int) by omega, hsok]
       ·rcases List.mem_append.1 hp with hp | hp
        ·rcases List.mem_append.1 hp with hp | hp
         ·exact (hib2 p (List.mem_of_mem_take hp)).mono (hMf.trans (hMp.trans hMr))
         ·rw [List.mem_singleton.1 hp]; exact BS.nil
        ·exact (hib2 p (List.mem_of_mem_drop hp)).mono (hMf.trans (hMp.trans hMr))
      refine wBa [3, 12] (by kernel_rfl) rfl ⟨?_, ?_, trivial⟩
      ·refine wCp rfl rfl rfl (wJb rfl rfl rfl rfl rfl (by kernel_rfl) (iclone_ips ia ic w.xs ips hipl _ (by first | exact his.mono (hMj.trans hMs) | exact his.mono (hMj.trans (hMs.trans hM12))) (by first | exact hib2 | exact fun p hp => (hib2 p hp).mono hM12) (by omega))) ?_; rintro _ M3 _ ⟨hM3, Rc, rfl, hownc, hnw1⟩
       refine wAo (hM3) (by simp) ?_
       obtain ⟨ca, cc, hcv⟩ := hownc.form
       subst hcv
       refine wBa [12] (by kernel_rfl) rfl ⟨?_, trivial⟩
       ·refine wCp rfl rfl rfl (wKx hX9 rfl rfl rfl (by rfl) (by rfl) (by rfl)) ?_; rintro _ M12 _ ⟨b120, rfl, rfl, hM12, e120⟩
        refine wAo ((hM3).trans hM12) (by simp) ?_
        refine wBr (listed' := #[true, true, true, true, true, true, true, true, true, true, true, true, true, false, true, false, false]) (by kernel_rfl) (wBq (Keep.cons (t := 13) rfl (Keep.cons (t := 14) rfl (Keep.cons (t := 20) rfl (Keep.cons (t := 111) rfl (Keep.cons (t := 113) rfl (Keep.cons (t := 118) rfl (Keep.cons (t := 120) rfl (Keep.cons (t := 122) rfl Keep.nil)))))))) ?_)
        refine wFv (M2 := _) (L2 := Rc ++ (b22, .cells [.int .u8 (wDg (wBt t w l).1).kind, .int .u32 (wDg (wBt t w l).1).id, .int .u32 (wDg (wBt t w l).1).off, .int .i64 a9, .slice none 0 0].toArray 40 (0, 0)) :: (b19, .cells [.int .i64 ((wBt t w l).2.1 : Int), .int .i64 ((wBt t w l).2.2 : Int)].toArray 85 (0, 0)) :: (b17, .cells [.int .i64 w.lv, .slice ia w.xs.length ic, .int .i64 w.at_].toArray 79 (0, 0)) :: (b13, .cells [.slice la l.length lc].toArray 43 (0, 0)) :: (b14, .cells [.int .i64 (held)].toArray 3 (0, 0)) :: (b8, .cells [Value.int .i64 (0)].toArray 33 (0, 0)) :: (b7, .cells [Value.int .i64 0].toArray 3 (0, 0)) :: (b6, .cells [Value.slice none 0 0, Value.slice none 0 0, Value.slice none 0 0, Value.slice none 0 0].toArray 29 (0, 0)) :: Rs) (fun w h => h.perm (wDu fun f => by simp only [mks, List.getElem_toArray, List.getElem_cons_zero, List.getElem_cons_succ, List.map_append, List.map_cons, List.map_nil, List.sum_append, List.sum_cons, List.sum_nil] <;> omega)) (by first | exact hM3.trans hM12 | exact hM12.trans hM3) (by simp) ?_
        exact rest (_, ca, cc, Rc, b120) ⟨by first | exact hM3.trans hM12 | exact hM12.trans hM3, hownc, hnw1, by first | exact e120 | exact hM3 _ _ e120⟩
      ·refine wCp rfl rfl rfl (wKx hX9 rfl rfl rfl (by rfl) (by rfl) (by rfl)) ?_; rintro _ M12 _ ⟨b120, rfl, rfl, hM12, e120⟩
       refine wAo (hM12) (by simp) ?_
       refine wBa [3] (by kernel_rfl) rfl ⟨?_, trivial⟩
       ·refine wCp rfl rfl rfl (wJb rfl rfl rfl rfl rfl (by kernel_rfl) (iclone_ips ia ic w.xs ips hipl _ (by first | exact his.mono (hMj.trans hMs) | exact his.mono (hMj.trans (hMs.trans hM12))) (by first | exact hib2 | exact fun p hp => (hib2 p hp).mono hM12) (by omega))) ?_; rintro _ M3 _ ⟨hM3, Rc, rfl, hownc, hnw1⟩
        refine wAo ((hM12).trans hM3) (by simp) ?_
        obtain ⟨ca, cc, hcv⟩ := hownc.form
        subst hcv
        refine wBr (listed' := #[true, true, true, true, true, true, true, true, true, true, true, true, true, false, true, false, false]) (by kernel_rfl) (wBq (Keep.cons (t := 13) rfl (Keep.cons (t := 14) rfl (Keep.cons (t := 20) rfl (Keep.cons (t := 111) rfl (Keep.cons (t := 113) rfl (Keep.cons (t := 118) rfl (Keep.cons (t := 120) rfl (Keep.cons (t := 122) rfl Keep.nil)))))))) ?_)
        refine wFv (M2 := _) (L2 := Rc ++ (b22, .cells [.int .u8 (wDg (wBt t w l).1).kind, .int .u32 (wDg (wBt t w l).1).id, .int .u32 (wDg (wBt t w l).1).off, .int .i64 a9, .slice none 0 0].toArray 40 (0, 0)) :: (b19, .cells [.int .i64 ((wBt t w l).2.1 : Int), .int .i64 ((wBt t w l).2.2 : Int)].toArray 85 (0, 0)) :: (b17, .cells [.int .i64 w.lv, .slice ia w.xs.length ic, .int .i64 w.at_].toArray 79 (0, 0)) :: (b13, .cells [.slice la l.length lc].toArray 43 (0, 0)) :: (b14, .cells [.int .i64 (held)].toArray 3 (0, 0)) :: (b8, .cells [Value.int .i64 (0)].toArray 33 (0, 0)) :: (b7, .cells [Value.int .i64 0].toArray 3 (0, 0)) :: (b6, .cells [Value.slice none 0 0, Value.slice none 0 0, Value.slice none 0 0, Value.slice none 0 0].toArray 29 (0, 0)) :: Rs) (fun w h => h.perm (wDu fun f => by simp only [mks, List.getElem_toArray, List.getElem_cons_zero, List.getElem_cons_succ, List.map_append, List.map_cons, List.map_nil, List.sum_append, List.sum_cons, List.sum_nil] <;> omega)) (by first | exact hM3.trans hM12 | exact hM12.trans hM3) (by simp) ?_
        exact rest (_, ca, cc, Rc, b120) ⟨by first | exact hM3.trans hM12 | exact hM12.trans hM3, hownc, hnw1, by first | exact e120 | exact hM3 _ _ e120⟩
   ·intro d M3 R3 hM3 hI3
    obtain ⟨t3, l3, la3, lc3, held3, Lb3, rfl, hdn3, hB3, ht3, hnl3, hkl3, hll3, hhd3⟩ := hI3
    rw [wFf, hwl9, Nat.sub_self, List.drop_zero] at hdn3
    refine wDk (M' := M3) (L' := (d, .deferred (some [])) :: (b13, .cells [.slice la3 l3.length lc3].toArray 43 (0, 0)) :: (b14, .cells [.int .i64 (held3)].toArray 3 (0, 0)) :: (b8, .cells [Value.int .i64 (0)].toArray 33 (0, 0)) :: (b7, .cells [Value.int .i64 0].toArray 3 (0, 0)) :: (b6, .cells [Value.slice none 0 0, Value.slice none 0 0, Value.slice none 0 0, Value.slice none 0 0].toArray 29 (0, 0)) :: Lb3) (fun w9 h => by rw [List.append_nil] at h; exact h) ?_
    refine jB (jT (wAb (wAa ?_)))
    refine wAe rfl rfl (qLd rfl rfl rfl rfl (CM.cj ⟨_, _, _, (hMg0.trans hM3) _ _ e11, rfl⟩ _)) ?_
    refine wAe rfl rfl (wBy rfl rfl rfl) ?_
    refine ja rfl (by omega) ?_
    refine jp rfl ?_
    refine wAc (jT ?_)
    refine wKu (α := Int) (fun z => [(1, .int .i64 root), (6, .pointer (some ⟨b6, 0, none⟩)), (7, .pointer (some ⟨b7, 0, none⟩)), (8, .pointer (some ⟨b8, 0, none⟩)), (13, .pointer (some ⟨b13, 0, none⟩)), (14, .pointer (some ⟨b14, 0, none⟩)), (15, .pointer (some ⟨b15, 0, none⟩)), (23, .int .i64 z)]) (fun _ => M3) (fun _ => (d, .deferred (some [])) :: (b13, .cells [.slice la3 l3.length lc3].toArray 43 (0, 0)) :: (b14, .cells [.int .i64 (held3)].toArray 3 (0, 0)) :: (b8, .cells [Value.int .i64 (0)].toArray 33 (0, 0)) :: (b7, .cells [Value.int .i64 0].toArray 3 (0, 0)) :: (b6, .cells [Value.slice none 0 0, Value.slice none 0 0, Value.slice none 0 0, Value.slice none 0 0].toArray 29 (0, 0)) :: Lb3) (fun z => z = if l3 = [] then 0 else ((wCm s q lev xs0).length : Int) - 1) ?_ ?_
    ·rintro z hz
     try dsimp only at hz ⊢
     refine wAb (wAb (wAa ?_))
     refine wAe rfl rfl (qLd rfl rfl rfl rfl (CM.cj ⟨_, _, _, (hMg0.trans hM3) _ _ e15, rfl⟩ _)) ?_
     refine jp rfl ?_
     refine wAe rfl rfl (qLd rfl rfl rfl rfl (CJ.loc rfl)) ?_
     refine wAe rfl rfl (qLd rfl rfl rfl rfl (CJ.loc rfl)) ?_
     refine wAu rfl rfl (wAv rfl rfl rfl rfl rfl (by kernel_rfl) (single_spec t3 z l3 held3 la3 lc3 bb M3 Lb3 hB3 ht3 hnl3 (fun y hy => (hkl3 y hy).1) hhd3)) ?_; rintro _ Mt _ ⟨hMt, Rs, rfl, hsg⟩
     obtain ⟨a9, e, rfl, hsg2⟩ := hsg
     iterate 3 refine jp rfl ?_
     refine wBg rfl (wAf rfl rfl rfl rfl rfl rfl rfl rfl) ?_; rintro _ _ _ ⟨rfl, rfl⟩
     refine wBg rfl (wAf rfl rfl rfl rfl rfl rfl rfl rfl) ?_; rintro _ _ _ ⟨rfl, rfl⟩
     refine wAc (jT (wAb (wAa ?_)))
     refine wAe rfl rfl (qLd rfl rfl rfl rfl (CJ.loc rfl)) ?_
     refine js rfl (fun h138 => ?_) (fun h138 => ?_)
     ·refine wAc (jT (wAj rfl (wAb ?_)))
      refine wEy (p := { A := fun i => !([4].contains i), U := fun i => !([4].contains i) }) [(0, true), (1, true), (2, false), (3, false), (4, false)] _ ([(b8, .cells [Value.int .i64 e].toArray 33 (0, 0))]) ([]) (by kernel_rfl) (by kernel_rfl) (by kernel_rfl) (by kernel_rfl) rfl (by simp) (MLe.refl _) (by simp) ?_
      refine wAw rfl rfl rfl (wAy (cs := [_, _, _, _]) rfl rfl rfl (by rfl)) ?_
      refine wAw rfl rfl rfl (qLd rfl rfl rfl rfl (CJ.loc rfl)) ?_
      refine jd_s rfl rfl (wAf rfl rfl rfl rfl rfl rfl rfl rfl) ?_; rintro _ _ _ ⟨rfl, rfl⟩
      refine ⟨_, _, MLe.refl _, (by first | exact MLe.refl _ | assumption | exact hMc.trans hMd | exact hMc.trans (hMu.trans hMp)), fun _ h => h, by simp, ?_⟩
      refine jd_s rfl rfl (wAf rfl rfl rfl rfl rfl rfl rfl rfl) ?_; rintro _ _ _ ⟨rfl, rfl⟩
      refine ⟨_, _, MLe.refl _, (by first | exact MLe.refl _ | assumption | exact hMc.trans hMd | exact hMc.trans (hMu.trans hMp)), fun _ h => h, by simp, ?_⟩
      refine jd_e rfl rfl (wAf rfl rfl rfl rfl rfl rfl rfl rfl) ?_; rintro _ _ _ ⟨rfl, rfl⟩
      refine ⟨MLe.refl _, by simp, ?_⟩
      refine wKs ?_
      refine jPn (jT (wAh (jTr ?_)))
      refine jN (fun _ h => by cases h) ?_
      refine wDf (L2 := _) Rm.perm ?_
      refine wEm (rs := [_, _, _]) ([]) (by exact List.nil_sublist _) rfl (.cons (.agg rfl rfl rfl) (.cons (.one rfl rfl rfl) (.cons (.one rfl rfl rfl) .nil))) ?_
      refine ⟨?_, rfl⟩
      obtain ⟨he9, hbe⟩ | ⟨rfl, _⟩ := hsg2
      rotate_left
      ·exact absurd rfl h138
      rw [hdel]; unfold delIn; rw [hdn3]; show PtPost (delEnd root (delLow (wFc t3 (if l3 = [] then 0 else ((wCm s q lev xs0).length : Int) - 1) l3 held3))) _ _; rw [← hz, hbe]; exact ⟨he9, rfl⟩
     ·refine wAc (jT (wAm rfl (wAg (jT (wAb (wAb ?_))))))
      obtain ⟨he9, _⟩ | ⟨rfl, t4, hsok, ht4, hB4⟩ := hsg2
      ·exact absurd (Classical.not_not.1 h138) he9
      have hdt : delTop (((wCm s q lev xs0).length : Int) - 1) (dn s (wKq (wCm s q lev xs0)) ((wCm s q lev xs0).dropLast)) = .ok (t4, a9) := by rw [hdn3]; show wFc t3 (if l3 = [] then 0 else ((wCm s q lev xs0).length : Int) - 1) l3 held3 = _; rw [← hz]; exact hsok
      obtain ⟨y2, hy2⟩ := hfd0
      obtain ⟨L9, l9, htop⟩ : ∃ L9 l9, TopOk s t4 q lev xs0 root.toNat a9 L9 l9 := by
       have hback := find_back hy2
       rcases top_law (q := q) hst hnd0 (shp_of ht0) (tree_srt ht0) ⟨y2, hback.1, hback.2⟩ with ⟨e, k1, _⟩ | ⟨u, a, L, l, k1, k2⟩
       ·rw [hdt] at k1; cases k1
       ·rw [hdt] at k1; cases k1; exact ⟨L, l, k2⟩
      refine wAa ?_
      refine wAe rfl rfl (qLd rfl rfl rfl rfl (CM.cj ⟨_, _, _, (hMg0.trans (hM3.trans hMt)) _ _ e15, rfl⟩ _)) ?_
      refine wAe rfl rfl (qLd rfl rfl rfl rfl (CJ.loc rfl)) ?_
      refine wAu rfl rfl (wAv rfl rfl rfl rfl rfl (by kernel_rfl) (lower_spec t4 a9 L9 7 l9 bb Mt Rs hB4 ht4 htop.rng htop.nd (lev_of htop.shp) (by have := htop.le; omega))) ?_; rintro _ Mlo _ ⟨hMlo, Rlo, rfl, hsg⟩
      obtain ⟨r5, e5, rfl, hsg3⟩ := hsg
      iterate 3 refine jp rfl ?_
      refine wBg rfl (wAf rfl rfl rfl rfl rfl rfl rfl rfl) ?_; rintro _ _ _ ⟨rfl, rfl⟩
      refine wBg rfl (wAf rfl rfl rfl rfl rfl rfl rfl rfl) ?_; rintro _ _ _ ⟨rfl, rfl⟩
      refine wAc (jT (wAb (wAa ?_)))
      refine wAe rfl rfl (qLd rfl rfl rfl rfl (CJ.loc rfl)) ?_
      refine js rfl (fun h148 => ?_) (fun h148 => ?_)
      ·refine wAc (jT (wAj rfl (wAb ?_)))
       refine wEy (p := { A := fun i => !([4].contains i), U := fun i => !([4].contains i) }) [(0, true), (1, true), (2, false), (3, false), (4, false)] _ ([(b8, .cells [Value.int .i64 e5].toArray 33 (0, 0))]) ([]) (by kernel_rfl) (by kernel_rfl) (by kernel_rfl) (by kernel_rfl) rfl (by simp) (MLe.refl _) (by simp) ?_
       refine wAw rfl rfl rfl (wAy (cs := [_, _, _, _]) rfl rfl rfl (by rfl)) ?_
       refine wAw rfl rfl rfl (qLd rfl rfl rfl rfl (CJ.loc rfl)) ?_
       refine jd_s rfl rfl (wAf rfl rfl rfl rfl rfl rfl rfl rfl) ?_; rintro _ _ _ ⟨rfl, rfl⟩
       refine ⟨_, _, MLe.refl _, (by first | exact MLe.refl _ | assumption | exact hMc.trans hMd | exact hMc.trans (hMu.trans hMp)), fun _ h => h, by simp, ?_⟩
       refine jd_s rfl rfl (wAf rfl rfl rfl rfl rfl rfl rfl rfl) ?_; rintro _ _ _ ⟨rfl, rfl⟩
       refine ⟨_, _, MLe.refl _, (by first | exact MLe.refl _ | assumption | exact hMc.trans hMd | exact hMc.trans (hMu.trans hMp)), fun _ h => h, by simp, ?_⟩
       refine jd_e rfl rfl (wAf rfl rfl rfl rfl rfl rfl rfl rfl) ?_; rintro _ _ _ ⟨rfl, rfl⟩
       refine ⟨MLe.refl _, by simp, ?_⟩
       refine wKs ?_
       refine jPn (jT (wAh (jTr ?_)))
       refine jN (fun _ h => by cases h) ?_
       refine wDf (L2 := _) Rm.perm ?_
       refine wEm (rs := [_, _, _]) ([]) (by exact List.nil_sublist _) rfl (.cons (.agg rfl rfl rfl) (.cons (.one rfl rfl rfl) (.cons (.one rfl rfl rfl) .nil))) ?_
       refine ⟨?_, rfl⟩
       obtain ⟨he9, hbe⟩ | ⟨rfl, _⟩ := hsg3
       rotate_left
       ·exact absurd rfl h148
       rw [hdel]; unfold delIn; rw [hdt]; show PtPost (delEnd root (lowF 7 t4 a9)) _ _; rw [hbe]; exact ⟨he9, rfl⟩
      ·refine wAc (jT (wAm rfl (wAg (jT (wAb (wAb ?_))))))
       obtain ⟨he9, _⟩ | ⟨rfl, t5, hlow, ht5, hB5⟩ := hsg3
       ·exact absurd (Classical.not_not.1 h148) he9
       refine wAa ?_
       refine wAe rfl rfl (qLd rfl rfl rfl rfl (CM.cj ⟨_, _, _, (hMg0.trans (hM3.trans (hMt.trans hMlo))) _ _ e15, rfl⟩ _)) ?_
       refine jp rfl ?_
       refine wAu rfl rfl (wAv rfl rfl rfl rfl rfl (by kernel_rfl) (leave_spec t5 root ⟨hr8, hr256⟩ ht5 bb Mlo Rlo hB5)) ?_; rintro _ Mv _ ⟨hMv, Rv, rfl, hlp⟩
       obtain ⟨e, rfl, hlp2⟩ := LvPost.form hlp
       refine jp rfl ?_
       refine wAc (jT (wAb (wAa ?_)))
       refine jp rfl ?_
       refine js rfl (fun h155 => ?_) (fun h155 => ?_)
       ·refine wAc (jT (wAj rfl (wAb (wAa ?_))))
        refine wAe rfl rfl (wAy (cs := [_, _, _, _]) rfl rfl rfl (by rfl)) ?_
        refine jp rfl ?_
        refine wBg rfl (wAf rfl rfl rfl rfl rfl rfl rfl rfl) ?_; rintro _ _ _ ⟨rfl, rfl⟩
        refine wBg rfl (wAf rfl rfl rfl rfl rfl rfl rfl rfl) ?_; rintro _ _ _ ⟨rfl, rfl⟩
        refine wBg rfl (wAf rfl rfl rfl rfl rfl rfl rfl rfl) ?_; rintro _ _ _ ⟨rfl, rfl⟩
        refine wAc (jT (wAh (jTr ?_)))
        refine jN (fun _ h => by cases h) ?_
        refine wDf (L2 := _) Rm.perm ?_
        refine wEm (rs := [_, _, _]) ([]) (by exact List.nil_sublist _) rfl (.cons (.agg rfl rfl rfl) (.cons (.one rfl rfl rfl) (.cons (.one rfl rfl rfl) .nil))) ?_
        refine ⟨?_, rfl⟩
        obtain ⟨rfl, hlv⟩ | ⟨rfl, _⟩ := hlp2
        rotate_left
        ·exact absurd rfl h155
        rw [hdel]; unfold delIn; rw [hdt]; show PtPost (delEnd root (lowF 7 t4 a9)) _ _; rw [hlow]; show PtPost (match wHh t5 root with | none => .error 8 | some u => .ok (u, r5)) _ _; rw [hlv]; exact ⟨by decide, rfl⟩
       ·refine wAc (jT (wAm rfl (wAg (jT (wAb ?_)))))
        obtain ⟨_, _⟩ | ⟨_, tv, hlv, hokv, hbov⟩ := hlp2
        ·exfalso; omega
        obtain ⟨hdk9, ⟨hn9, _⟩, ⟨hl9, _⟩⟩ := id hokv
        refine jc_bench (s := tv) hbov (by simp) ?_
        intro M9 pbv pwv pnv plv hM9 e9 k1 k2 k3 k4
        refine wBv [(0, true), (2, true), (1, false), (3, false), (4, false), (5, false)] [(b7, .cells [Value.int .i64 r5].toArray 3 (0, 0))] (by kernel_rfl) (by kernel_rfl) (by kernel_rfl) rfl (by simp) ?_
        refine wAw rfl rfl rfl (qLd rfl rfl rfl rfl (CM.cj ⟨_, _, _, (hMg0.trans (hM3.trans (hMt.trans (hMlo.trans (hMv.trans hM9))))) _ _ e15, rfl⟩ _)) ?_
        refine wAw rfl rfl rfl (qLd rfl rfl rfl rfl (CJ.loc rfl)) ?_
        refine wJa rfl rfl rfl (wAv rfl rfl rfl rfl rfl (by kernel_rfl) (wJx tv bb pbv pwv pnv plv M9 e9 k1 k2 k3 k4 hdk9 (by omega) (by omega))) ?_; rintro _ Ms _ ⟨hMs, _, rfl, ⟨hst4, rfl⟩⟩
        refine ⟨_, _, MLe.refl _, hMs, fun _ h => h, by simp, ?_⟩
        obtain ⟨q1, q2, q3, q4, rfl, f1, f2, f3, f4⟩ := hst4.ex
        obtain ⟨ba5, bc5, bps5, rfl, _⟩ := id f1
        obtain ⟨wa5, wc5, wps5, rfl, _⟩ := id f2
        obtain ⟨na5, nc5, rfl, _⟩ := id f3
        obtain ⟨la5, lc5, rfl, _⟩ := id f4
        refine jd_s rfl rfl (wAf rfl rfl rfl rfl rfl rfl rfl rfl) ?_; rintro _ _ _ ⟨rfl, rfl⟩
        refine ⟨_, _, MLe.refl _, (by first | exact MLe.refl _ | assumption | exact hMc.trans hMd | exact hMc.trans (hMu.trans hMp)), fun _ h => h, by simp, ?_⟩
        refine jd_s rfl rfl (wAf rfl rfl rfl rfl rfl rfl rfl rfl) ?_; rintro _ _ _ ⟨rfl, rfl⟩
        refine ⟨_, _, MLe.refl _, (by first | exact MLe.refl _ | assumption | exact hMc.trans hMd | exact hMc.trans (hMu.trans hMp)), fun _ h => h, by simp, ?_⟩
        refine jd_s rfl rfl (wAf rfl rfl rfl rfl rfl rfl rfl rfl) ?_; rintro _ _ _ ⟨rfl, rfl⟩
        refine ⟨_, _, MLe.refl _, (by first | exact MLe.refl _ | assumption | exact hMc.trans hMd | exact hMc.trans (hMu.trans hMp)), fun _ h => h, by simp, ?_⟩
        refine wBn (jPn (jT (wAh ?_)))
        refine jN (fun _ h => by cases h) ?_
        refine wDf (L2 := _) Rm.perm ?_
        refine wEm (rs := [_, _, _]) ([]) (by exact List.nil_sublist _) rfl (.cons (.agg rfl rfl rfl) (.cons (.one rfl rfl rfl) (.cons (.one rfl rfl rfl) .nil))) ?_
        refine ⟨?_, rfl⟩
        rw [hdel]; unfold delIn; rw [hdt]; show PtPost (delEnd root (lowF 7 t4 a9)) _ _; rw [hlow]; show PtPost (match wHh t5 root with | none => .error 8 | some u => .ok (u, r5)) _ _; rw [hlv]
        exact ⟨_, rfl, hst4, hokv⟩
    ·refine wAb (wAa ?_)
     refine wAe rfl rfl (qLd rfl rfl rfl rfl (CJ.loc rfl)) ?_
     refine wAe rfl rfl (wBy rfl rfl rfl) ?_
     refine js rfl (fun h128 => ?_) (fun h128 => ?_)
     ·refine wAc (jT (wAj rfl (wAa ?_)))
      refine jp rfl ?_
      refine wAc ?_
      exact wFm 0 (Keep.cons (t := 1) rfl (Keep.cons (t := 6) rfl (Keep.cons (t := 7) rfl (Keep.cons (t := 8) rfl (Keep.cons (t := 13) rfl (Keep.cons (t := 14) rfl (Keep.cons (t := 15) rfl (Keep.cons (t := 23) rfl Keep.nil)))))))) (by show 0 = if l3 = [] then 0 else _; rw [if_pos (List.eq_nil_of_length_eq_zero (by omega))]) (fun w h => h)
     ·refine wAc (jT (wAm rfl (wAg ?_)))
      exact wFm (((wCm s q lev xs0).length : Int) - 1) (Keep.cons (t := 1) rfl (Keep.cons (t := 6) rfl (Keep.cons (t := 7) rfl (Keep.cons (t := 8) rfl (Keep.cons (t := 13) rfl (Keep.cons (t := 14) rfl (Keep.cons (t := 15) rfl (Keep.cons (t := 23) rfl Keep.nil)))))))) (by show _ = if l3 = [] then 0 else _; rw [if_neg (fun e => h128 (by rw [e]; rfl))]) (fun w h => h)
   ·intro d c pre M2 R2 hM2 hpre hI
    obtain ⟨e, held3, lv3, Lb3, rfl, he0, rfl, hdn3⟩ := hI
    refine wAh (jBr (jTr ?_))
    refine jN (fun _ h => by cases h) ?_
    refine wDf (L2 := _) Rm.perm ?_
    refine wEm (rs := [_, _, _]) ([]) (by exact List.nil_sublist _) rfl (.cons (.agg rfl rfl rfl) (.cons (.one rfl rfl rfl) (.cons (.one rfl rfl rfl) .nil))) ?_
    refine ⟨?_, rfl⟩
    rw [hdel]; unfold delIn; rw [hdn3]; exact ⟨he0, rfl⟩
  refine wBa [3, 10] (by kernel_rfl) rfl ⟨?_, ?_, trivial⟩
  ·refine wCp rfl rfl rfl (wAv rfl rfl rfl rfl rfl (by kernel_rfl) (by have := wFw ea ec eps Mw hes (wFn heb) (by omega); rwa [hepl] at this)) ?_; rintro _ Mc _ ⟨hMc, Rc, rfl, hownc⟩
   refine wAo hMc (by simp) ?_
   obtain ⟨ca, cc, hcv⟩ := hownc.form
   subst hcv
   refine wBa [9, 10] (by kernel_rfl) rfl ⟨?_, ?_, trivial⟩
   ·refine wCp rfl rfl rfl (wAv rfl rfl rfl rfl rfl (by kernel_rfl) (by have := del_spec eps w0.at_ (by omega) ca cc Rc (by rw [hepl]; exact hownc) (wFn heb) Mc (by omega); rwa [hepl] at this)) ?_; rintro _ Md _ ⟨hMd, Rd, rfl, hownd⟩
    refine wAo (hMc.trans hMd) (by simp) ?_
    obtain ⟨da, dc, hdv⟩ := hownd.form
    subst hdv
    refine wBa [10] (by kernel_rfl) rfl ⟨?_, trivial⟩
    ·refine wCp rfl rfl rfl (wAr rfl rfl) ?_; rintro _ _ _ ⟨b13, rfl, rfl, rfl⟩
     refine wAo (by first | exact MLe.refl _ | exact hMc | exact hMc.trans hMd) (by simp) ?_
     refine wBr (listed' := #[true, true, true, true, true, true, true, true, true, true, true, false]) (by kernel_rfl) (wBq (Keep.cons (t := 1) rfl (Keep.cons (t := 3) rfl (Keep.cons (t := 6) rfl (Keep.cons (t := 7) rfl (Keep.cons (t := 8) rfl (Keep.cons (t := 11) rfl (Keep.cons (t := 13) rfl (Keep.cons (t := 55) rfl Keep.nil)))))))) ?_)
     refine wFv (M2 := Md) (L2 := (b13, .cells [Value.slice none 0 0].toArray 43 (0, 0)) :: (Rd ++ (b12, .cells [.int .i64 w0.lv, .slice ea w0.xs.length ec, .int .i64 w0.at_].toArray 79 (0, 0)) :: (b11, .cells [.slice (some ⟨sb, so, none⟩) (wCm s q lev xs0).length wc2].toArray 76 (0, 0)) :: (b9, .cells [.int .u8 y0.key.kind, .int .u32 y0.key.id, .int .u32 y0.key.off, .int .i64 y0.ref, .slice ya yn yc].toArray 40 (0, 0)) :: (b8, .cells [Value.int .i64 0].toArray 33 (0, 0)) :: (b7, .cells [Value.int .i64 0].toArray 3 (0, 0)) :: (b6, .cells [Value.slice none 0 0, Value.slice none 0 0, Value.slice none 0 0, Value.slice none 0 0].toArray 29 (0, 0)) :: (b5, .cells [.int .u8 q.kind, .int .u32 q.id, .int .u32 q.off].toArray 37 (0, 0)) :: (b3, .cells [bv, .slice wa s.waits.length wc, nv, lw].toArray 29 (0, 0)) :: [])) (fun w h => h.perm (wDu fun f => by simp only [mks, List.getElem_toArray, List.getElem_cons_zero, List.getElem_cons_succ, List.map_append, List.map_cons, List.map_nil, List.sum_append, List.sum_cons, List.sum_nil] <;> omega)) (hMc.trans hMd) (by simp) ?_
     exact rest (Md, da, dc, Rd, b13) ⟨hMc.trans hMd, hownd⟩
   ·refine wCp rfl rfl rfl (wAr rfl rfl) ?_; rintro _ _ _ ⟨b13, rfl, rfl, rfl⟩
    refine wAo (by first | exact MLe.refl _ | exact hMc | exact hMc.trans hMd) (by simp) ?_
    refine wBa [9] (by kernel_rfl) rfl ⟨?_, trivial⟩
    ·refine wCp rfl rfl rfl (wAv rfl rfl rfl rfl rfl (by kernel_rfl) (by have := del_spec eps w0.at_ (by omega) ca cc Rc (by rw [hepl]; exact hownc) (wFn heb) Mc (by omega); rwa [hepl] at this)) ?_; rintro _ Md _ ⟨hMd, Rd, rfl, hownd⟩
     refine wAo (hMc.trans hMd) (by simp) ?_
     obtain ⟨da, dc, hdv⟩ := hownd.form
     subst hdv
     refine wBr (listed' := #[true, true, true, true, true, true, true, true, true, true, true, false]) (by kernel_rfl) (wBq (Keep.cons (t := 1) rfl (Keep.cons (t := 3) rfl (Keep.cons (t := 6) rfl (Keep.cons (t := 7) rfl (Keep.cons (t := 8) rfl (Keep.cons (t := 11) rfl (Keep.cons (t := 13) rfl (Keep.cons (t := 55) rfl Keep.nil)))))))) ?_)
     refine wFv (M2 := Md) (L2 := (b13, .cells [Value.slice none 0 0].toArray 43 (0, 0)) :: (Rd ++ (b12, .cells [.int .i64 w0.lv, .slice ea w0.xs.length ec, .int .i64 w0.at_].toArray 79 (0, 0)) :: (b11, .cells [.slice (some ⟨sb, so, none⟩) (wCm s q lev xs0).length wc2].toArray 76 (0, 0)) :: (b9, .cells [.int .u8 y0.key.kind, .int .u32 y0.key.id, .int .u32 y0.key.off, .int .i64 y0.ref, .slice ya yn yc].toArray 40 (0, 0)) :: (b8, .cells [Value.int .i64 0].toArray 33 (0, 0)) :: (b7, .cells [Value.int .i64 0].toArray 3 (0, 0)) :: (b6, .cells [Value.slice none 0 0, Value.slice none 0 0, Value.slice none 0 0, Value.slice none 0 0].toArray 29 (0, 0)) :: (b5, .cells [.int .u8 q.kind, .int .u32 q.id, .int .u32 q.off].toArray 37 (0, 0)) :: (b3, .cells [bv, .slice wa s.waits.length wc, nv, lw].toArray 29 (0, 0)) :: [])) (fun w h => h.perm (wDu fun f => by simp only [mks, List.getElem_toArray, List.getElem_cons_zero, List.getElem_cons_succ, List.map_append, List.map_cons, List.map_nil, List.sum_append, List.sum_cons, List.sum_nil] <;> omega)) (hMc.trans hMd) (by simp) ?_
     exact rest (Md, da, dc, Rd, b13) ⟨hMc.trans hMd, hownd⟩
  ·refine wCp rfl rfl rfl (wAr rfl rfl) ?_; rintro _ _ _ ⟨b13, rfl, rfl, rfl⟩
   refine wAo (by first | exact MLe.refl _ | exact hMc | exact hMc.trans hMd) (by simp) ?_
   refine wBa [3] (by kernel_rfl) rfl ⟨?_, trivial⟩
   ·refine wCp rfl rfl rfl (wAv rfl rfl rfl rfl rfl (by kernel_rfl) (by have := wFw ea ec eps Mw hes (wFn heb) (by omega); rwa [hepl] at this)) ?_; rintro _ Mc _ ⟨hMc, Rc, rfl, hownc⟩
    refine wAo hMc (by simp) ?_
    obtain ⟨ca, cc, hcv⟩ := hownc.form
    subst hcv
    refine wBa [9] (by kernel_rfl) rfl ⟨?_, trivial⟩
    ·refine wCp rfl rfl rfl (wAv rfl rfl rfl rfl rfl (by kernel_rfl) (by have := del_spec eps w0.at_ (by omega) ca cc Rc (by rw [hepl]; exact hownc) (wFn heb) Mc (by omega); rwa [hepl] at this)) ?_; rintro _ Md _ ⟨hMd, Rd, rfl, hownd⟩
     refine wAo (hMc.trans hMd) (by simp) ?_
     obtain ⟨da, dc, hdv⟩ := hownd.form
     subst hdv
     refine wBr (listed' := #[true, true, true, true, true, true, true, true, true, true, true, false]) (by kernel_rfl) (wBq (Keep.cons (t := 1) rfl (Keep.cons (t := 3) rfl (Keep.cons (t := 6) rfl (Keep.cons (t := 7) rfl (Keep.cons (t := 8) rfl (Keep.cons (t := 11) rfl (Keep.cons (t := 13) rfl (Keep.cons (t := 55) rfl Keep.nil)))))))) ?_)
     refine wFv (M2 := Md) (L2 := (b13, .cells [Value.slice none 0 0].toArray 43 (0, 0)) :: (Rd ++ (b12, .cells [.int .i64 w0.lv, .slice ea w0.xs.length ec, .int .i64 w0.at_].toArray 79 (0, 0)) :: (b11, .cells [.slice (some ⟨sb, so, none⟩) (wCm s q lev xs0).length wc2].toArray 76 (0, 0)) :: (b9, .cells [.int .u8 y0.key.kind, .int .u32 y0.key.id, .int .u32 y0.key.off, .int .i64 y0.ref, .slice ya yn yc].toArray 40 (0, 0)) :: (b8, .cells [Value.int .i64 0].toArray 33 (0, 0)) :: (b7, .cells [Value.int .i64 0].toArray 3 (0, 0)) :: (b6, .cells [Value.slice none 0 0, Value.slice none 0 0, Value.slice none 0 0, Value.slice none 0 0].toArray 29 (0, 0)) :: (b5, .cells [.int .u8 q.kind, .int .u32 q.id, .int .u32 q.off].toArray 37 (0, 0)) :: (b3, .cells [bv, .slice wa s.waits.length wc, nv, lw].toArray 29 (0, 0)) :: [])) (fun w h => h.perm (wDu fun f => by simp only [mks, List.getElem_toArray, List.getElem_cons_zero, List.getElem_cons_succ, List.map_append, List.map_cons, List.map_nil, List.sum_append, List.sum_cons, List.sum_nil] <;> omega)) (hMc.trans hMd) (by simp) ?_
     exact rest (Md, da, dc, Rd, b13) ⟨hMc.trans hMd, hownd⟩
end Go.Proofs.Ytckdncmjkloebaa
