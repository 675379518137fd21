/- Walks: volumes told; pools crashed; the chapter's pools. -/
import Derived.Test.YtoincdcejjdgkaaGreatZRfind
import Derived.Test.YtoincdcejjdgkaaGreatZSame
import Derived.Test.YtoincdcejjdgkaaGreatZSet
namespace Go.Proofs.YtoincdcejjdgkaaGreat
set_option linter.unusedSimpArgs false
set_option linter.unusedVariables false
open Go.RowKit
theorem wJf (bs : List (List By)) (k : Nat) (ws : List Wt) : (∀ w ∈ ws, 0 ≤ w.1 ∧ w.1 ≠ (k : Int)) → (wFn bs ws).getD k [] = bs.getD k [] := by
 refine list_snoc (p := fun ws => (∀ w ∈ ws, 0 ≤ w.1 ∧ w.1 ≠ (k : Int)) → (wFn bs ws).getD k [] = bs.getD k []) (fun _ => rfl) (fun ws w ih h => ?_) ws
 have h0 := h w (by simp)
 rw [setB_snoc, ← ih fun v hv => h v (by simp [hv])]; simp [List.getD, List.getElem?_set_ne (show w.1.toNat ≠ k by omega)]
theorem LS.at_ {M : Mem} {s : Sl} {bs : List (List By)} (h : LS M s.v bs) {k : Nat} (hk : k < bs.length) : ∃ b o, ∃ t : Sl, s.a = some ⟨b, o, none⟩ ∧ CM M b (o + k * 1) t.v ∧ BS M t.v bs[k] := by
 obtain ⟨a, c, ps, e, _, hs, hp, hb⟩ := h
 obtain ⟨b, o, rfl, hx⟩ := hs.open (by intro e; have := congrArg List.length e; rw [List.length_map, List.length_nil] at this; have h2 := congrArg List.length hp; rw [List.length_map] at h2; omega)
 obtain ⟨va, vc, h1, h2, h3⟩ := wCn hx hp hb hk
 exact ⟨b, o, ⟨va, _, vc⟩, congrArg (fun v => match v with | Value.slice a _ _ => a | _ => none) e, h1, _, _, rfl, h2, h3⟩
theorem cmt_slot {p : Po} (h : PoOk p) (hn : PoN p) : wCo (cmt p).st ((p.gen + 1) % 4).toNat = suB (sup p) := by
 have hg := hn.gen
 show (wFn (dsk p 3).1 [((p.gen + 1) % 4, suB (sup p))]).getD ((p.gen + 1) % 4).toNat [] = _
 have hl : (dsk p 3).1.length = 256 := (dsk_ok h hn 3).1
 show ((dsk p 3).1.set ((p.gen + 1) % 4).toNat (suB (sup p))).getD ((p.gen + 1) % 4).toNat [] = _
 have hlt : ((p.gen + 1) % 4).toNat < (dsk p 3).1.length := by omega
 rw [List.getD, List.getElem?_set_self hlt]; rfl
theorem cmt_other {p : Po} (hn : PoN p) {k : Nat} (hk : k < 4) (h1 : (k : Int) ≠ (p.gen + 1) % 4) (hw : ∀ w ∈ p.st.waits, 0 ≤ w.1 ∧ w.1 ≠ (k : Int)) : wCo (cmt p).st k = p.st.blocks.getD k [] := by
 have hg := hn.gen
 show (wFn (wFn (wFn p.st.blocks p.st.waits) (wFh p 1)) (wFh p 2)).getD k [] = _
 rw [wJf _ k _ fun w hm => ?_, wJf _ k _ fun w hm => ?_, wJf _ k _ hw]
 ·simp only [wFh, wts, List.mem_cons, List.not_mem_nil, or_false] at hm
  rcases hm with rfl | rfl
  ·exact ⟨by show 0 ≤ 4 + 2 * ((p.gen + 1) % 2); omega, by show 4 + 2 * ((p.gen + 1) % 2) ≠ _; omega⟩
  ·exact ⟨by show 0 ≤ 4 + 2 * ((p.gen + 1) % 2) + 1; omega, by show 4 + 2 * ((p.gen + 1) % 2) + 1 ≠ _; omega⟩
 ·simp only [wFh, List.mem_cons, List.not_mem_nil, or_false] at hm
  subst hm
  exact ⟨by show 0 ≤ (p.gen + 1) % 4; omega, fun e => h1 e.symm⟩
theorem sup_is {p : Po} (hn : PoN p) (hg : p.gen ≠ 4294967295) : (0 ≤ (sup p).gen ∧ (sup p).gen < 4294967296) ∧ (0 ≤ (sup p).next ∧ (sup p).next < 4294967296) ∧ (0 ≤ (sup p).table ∧ (sup p).table < 4294967296) := by
 have := hn.gen
 exact ⟨⟨by show 0 ≤ p.gen + 1; omega, by show p.gen + 1 < _; omega⟩, hn.next, sumOf_range _⟩
theorem fnd_new {p : Po} (h : PoOk p) (hn : PoN p) (hg : p.gen ≠ 4294967295) : sup p ∈ wJs (cmt p).st 4 := by
 obtain ⟨h1, h2, h3⟩ := sup_is hn hg
 exact fndL_mem (sup_ok h) h1 h2 h3 (cmt_slot h hn)
theorem halves {t : List By} (h : t.length = 256) : half t 0 ++ half t 1 = t := by
 unfold half
 rw [show 128 * 0 = 0 from rfl, List.drop_zero, List.take_of_length_le (l := t.drop (128 * 1)) (by rw [List.length_drop]; omega)]
 exact List.take_append_drop 128 t
theorem cmt_table {p : Po} (h : PoOk p) (hn : PoN p) {k : Nat} (hk : (k : Int) = 4 + 2 * ((p.gen + 1) % 2)) : wCo (cmt p).st k ++ wCo (cmt p).st (k + 1) = p.st.now := by
 have hg := hn.gen
 have hw : ∀ j : Nat, 4 ≤ j → ∀ w ∈ wFh p 2, 0 ≤ w.1 ∧ w.1 ≠ (j : Int) := fun j hj w hm => by
  simp only [wFh, List.mem_cons, List.not_mem_nil, or_false] at hm
  subst hm
  exact ⟨by show 0 ≤ (p.gen + 1) % 4; omega, by show (p.gen + 1) % 4 ≠ _; omega⟩
 have hl : (wFn p.st.blocks p.st.waits).length = 256 := by rw [wKb]; exact h.st.1.1
 have e : ∀ j : Nat, 4 ≤ j → wCo (cmt p).st j = (((wFn p.st.blocks p.st.waits).set k (half p.st.now 0)).set (k + 1) (half p.st.now 1)).getD j [] := fun j hj => by
  show (wFn (wFn (wFn p.st.blocks p.st.waits) (wFh p 1)) (wFh p 2)).getD j [] = _
  rw [wJf _ j _ (hw j hj)]
  show (((wFn p.st.blocks p.st.waits).set (4 + 2 * ((p.gen + 1) % 2)).toNat (half p.st.now 0)).set (4 + 2 * ((p.gen + 1) % 2) + 1).toNat (half p.st.now 1)).getD j [] = _
  rw [← hk, show ((k : Int) + 1).toNat = k + 1 by omega, Int.toNat_natCast]
 rw [e k (by omega), e (k + 1) (by omega)]
 have e1 : (((wFn p.st.blocks p.st.waits).set k (half p.st.now 0)).set (k + 1) (half p.st.now 1)).getD k [] = half p.st.now 0 := by
  rw [List.getD, List.getElem?_set_ne (by omega), List.getElem?_set_self (by omega)]; rfl
 have e2 : (((wFn p.st.blocks p.st.waits).set k (half p.st.now 0)).set (k + 1) (half p.st.now 1)).getD (k + 1) [] = half p.st.now 1 := by
  rw [List.getD, List.getElem?_set_self (by rw [List.length_set]; omega)]; rfl
 rw [e1, e2]; exact halves h.st.2.1.1
theorem cmt_tab {p : Po} (h : PoOk p) (hn : PoN p) : wCw (cmt p).st (p.gen + 1) = p.st.now := by
 have hg := hn.gen
 exact cmt_table h hn (k := (4 + 2 * ((p.gen + 1) % 2)).toNat) (by omega)
theorem cmt_po {p : Po} (h : PoOk p) (hn : PoN p) : wEq (cmt p).st (sup p) = cmt p := by
 unfold wEq
 rw [show (sup p).gen = p.gen + 1 from rfl, cmt_tab h hn]
 rfl
theorem cmt_try {p : Po} (h : askC p = 0) (hn : PoN p) : TryOk (cmt p).st (sup p) := by
 have hok := (wJy h).1
 refine ⟨?_, ?_, ?_⟩
 ·rw [show (sup p).gen = p.gen + 1 from rfl, cmt_tab hok hn]; exact hok.st.2.1
 ·rw [show (sup p).gen = p.gen + 1 from rfl, cmt_tab hok hn]; rfl
 ·rw [cmt_po hok hn]; exact cmt_chk h hn
theorem tabOf_q {s t : Sto} (h : ∀ k, 4 ≤ k → k < 8 → wCo s k = wCo t k) (g : Int) : wCw s g = wCw t g := by
 unfold wCw; rw [h _ (by omega) (by omega), h _ (by omega) (by omega)]
theorem fndL_q {s t : Sto} (h : ∀ k, k < 4 → wCo s k = wCo t k) : wJs s 4 = wJs t 4 := by
 have e : ∀ k, k < 4 → wKx s k = wKx t k := fun k hk => by unfold wKx; rw [h k hk]
 show ([0, 1, 2, 3] : List Nat).filterMap (wKx s) = ([0, 1, 2, 3] : List Nat).filterMap (wKx t)
 simp only [List.filterMap_cons, e 0 (by decide), e 1 (by decide), e 2 (by decide), e 3 (by decide), List.filterMap_nil]
structure Oth (s t : Sto) (now : List By) : Prop where
 low : ∀ k, k < 8 → wCo s k = wCo t k
 up : ∀ k, k < 256 → now.getD k 0 ≠ 0 → wCo s k = wCo t k
theorem Oth.eqv {s t : Sto} {x : Su} (h : Oth s t (wCw s x.gen)) (hc : ctOk (wCw s x.gen)) : Eqv (wEq s x).st (wEq t x).st := by
 have et : wCw s x.gen = wCw t x.gen := tabOf_q (fun k _ hk => h.low k hk) _
 refine ⟨et, fun k => ?_⟩
 by_cases hk : k < 256
 ·unfold wCa
  rw [show (wEq t x).st.now = wCw s x.gen from et.symm, show (wEq s x).st.now = wCw s x.gen from rfl]
  split
  ·rfl
  ·rename_i hz
   rw [show wCo (wEq s x).st k = wCo s k from rfl, show wCo (wEq t x).st k = wCo t k from rfl, h.up k hk hz]
 ·have hc2 : ctOk (wCw t x.gen) := by rw [← et]; exact hc
  rw [nd_low (s := (wEq s x).st) hc (.inr (by omega)), nd_low (s := (wEq t x).st) hc2 (.inr (by omega))]
theorem Oth.tryOk {s t : Sto} {x : Su} (h : Oth s t (wCw s x.gen)) (hd : dkOk t.blocks t.waits) (ht : TryOk s x) : TryOk t x := by
 have et : wCw s x.gen = wCw t x.gen := tabOf_q (fun k _ hk => h.low k hk) _
 refine ⟨by rw [← et]; exact ht.ct, by rw [← et]; exact ht.sum, ?_⟩
 obtain ⟨c, hc⟩ := poChk_is.1 ht.chk
 refine poChk_is.2 ⟨c, ?_⟩
 rw [← hc]
 have hst : wCp (wEq t x).st := ⟨hd, by show ctOk (wCw t x.gen); rw [← et]; exact ht.ct, by show ctOk (wCw t x.gen); rw [← et]; exact ht.ct⟩
 exact ((h.eqv ht.ct).cens ht.st hst _ _ _).symm
def VS (M : Mem) (s : Sl) (vs : List Vo) : Prop := s.n = vs.length ∧ vs.length ≤ s.c ∧ SM M s.a (vs.flatMap voc)
def VlP (p : Po) (u : Value) (M' : Mem) : Prop := ∃ (s : Sl), u = .tuple #[s.v, .int .i64 (wHc p)] ∧ ∀ vs refs nodes, cens p.st p.root p.next p.dead = some (vs, refs, nodes) → VS M' s vs
theorem fvols_no (p : Po) (x : V5) (M : Mem) (h : PT5 M x p) (hd : p.dead.length ≤ 1000000) (hc : cens p.st p.root p.next p.dead = none) :
  SpecL Tryz.prog 16 #[.agg (pcl x p.gen p.root p.next).toArray] M [] fun u M' L' => VlP p u M' ∧ L' = [] := by
 refine wAf (vs := [_]) 18 _ Tryz.func16 rfl Tryz.ntmps16 rfl rfl ?_; intro W
 refine wAb (wAa (wAw rfl rfl (wCb (cs := [_, _, _, _, _, _, _, _]) rfl rfl rfl rfl) ?_)); rintro _ _ _ ⟨b1, rfl, rfl, rfl⟩
 refine jp rfl (jp rfl (wAc (jT (wAb (wAa (sLL rfl ?_))))))
 refine wAw rfl rfl (wAn rfl rfl rfl rfl rfl (by kernel_rfl) (wLh p _ M h.pt hd)) ?_; rintro _ M1 _ ⟨hM1, _, rfl, ⟨htk, rfl⟩⟩
 simp only [nA]
 unfold TakeP at htk
 rw [hc] at htk
 subst htk
 refine jp rfl (jp rfl (jp rfl (jp rfl (jp rfl (wAc (jT (wAb (wAb (wAa (jp rfl (jt rfl (decide_eq_true (by omega)) ?_)))))))))))
 refine wAc (jT (wAg rfl (wAb (wAa (jp rfl (jp rfl (jp rfl (wAc (jT (wAe (jTr (wAv (L' := []) (List.nil_sublist _) ?_))))))))))))
 refine jr2 rfl rfl rfl ?_
 exact ⟨⟨⟨none, 0, 0⟩, by unfold wHc; rw [hc]; rfl, fun vs refs nodes h => by rw [hc] at h; cases h⟩, rfl⟩
theorem fvols_yes (p : Po) (x : V5) (M : Mem) (h : PT5 M x p) (hd : p.dead.length ≤ 1000000) (vs : List Vo) (refs nodes : List Int) (hc : cens p.st p.root p.next p.dead = some (vs, refs, nodes)) :
  SpecL Tryz.prog 16 #[.agg (pcl x p.gen p.root p.next).toArray] M [] fun u M' L' => VlP p u M' ∧ L' = [] := by
 refine wAf (vs := [_]) 18 _ Tryz.func16 rfl Tryz.ntmps16 rfl rfl ?_; intro W
 refine wAb (wAa (wAw rfl rfl (wCb (cs := [_, _, _, _, _, _, _, _]) rfl rfl rfl rfl) ?_)); rintro _ _ _ ⟨b1, rfl, rfl, rfl⟩
 refine jp rfl (jp rfl (wAc (jT (wAb (wAa (sLL rfl ?_))))))
 refine wAw rfl rfl (wAn rfl rfl rfl rfl rfl (by kernel_rfl) (wLh p _ M h.pt hd)) ?_; rintro _ M1 _ ⟨hM1, _, rfl, ⟨htk, rfl⟩⟩
 simp only [nA]
 unfold TakeP at htk
 rw [hc] at htk
 obtain ⟨cb, kb, kw, kn, kl, kp, km, ka, kc, rfl, hcb, hkc, hks, hrl, hnl2⟩ := htk
 refine jp rfl (jp rfl (jp rfl (jp rfl (jp rfl (wAc (jT (wAb (wAb (wAa (jp rfl (jf rfl (decide_eq_false (by omega)) ?_)))))))))))
 refine wAc (jT (wAj rfl (wAd (jT (wAb (wAa (jp rfl (wAi rfl rfl (wAx rfl rfl rfl) ?_))))))))
 refine sFa rfl ?_
 refine wAi rfl rfl (qLd rfl rfl rfl rfl ((cm_list hcb (cen_vol hrl hnl2)).cj _)) ?_
 refine jp rfl (jp rfl (wAc (jT (wAe (wAv (L' := []) (List.nil_sublist _) ?_)))))
 refine jr2 rfl rfl rfl ?_
 exact ⟨⟨⟨ka, vs.length, kc⟩, by unfold wHc; rw [hc], fun vs' refs' nodes' h => by rw [hc] at h; cases h; exact ⟨rfl, hkc, hks⟩⟩, rfl⟩
theorem fvols_spec (p : Po) (x : V5) (M : Mem) (h : PT5 M x p) (hd : p.dead.length ≤ 1000000) : SpecL Tryz.prog 16 #[.agg (pcl x p.gen p.root p.next).toArray] M [] fun u M' L' => VlP p u M' ∧ L' = [] := by
 cases hc : cens p.st p.root p.next p.dead with
 | none => exact fvols_no p x M h hd hc
 | some c => obtain ⟨vs, refs, nodes⟩ := c; exact fvols_yes p x M h hd vs refs nodes hc
def CrP (p : Po) (keep : List Bool) (u : Value) (M' : Mem) : Prop := if keep.length = p.st.waits.length then OpnP ⟨wFn p.st.blocks (wLc keep p.st.waits), [], p.st.now, p.st.last⟩ u M' else u = .tuple #[.agg (pcl v5Z 0 0 0).toArray, .int .i64 2]
theorem crash_form {bs : List (List By)} {c : Prop} [Decidable c] {u : Value} {M' : Mem} (h : if c then ∃ d, u = .tuple #[d, .int .i64 0] ∧ DK M' d bs [] else u = .tuple #[.agg #[.slice none 0 0, .slice none 0 0], .int .i64 2]) : ∃ (a b : Sl) (e : Int), u = .tuple #[.agg #[a.v, b.v], .int .i64 e] ∧ ((e = 0 ∧ c ∧ LS M' a.v bs ∧ WS M' b.v []) ∨ (e = 2 ∧ ¬ c)) := by
 split at h
 ·rename_i hc
  obtain ⟨d, rfl, bv, wv, rfl, h1, h2⟩ := h
  obtain ⟨a, rfl⟩ := h1.sl
  obtain ⟨b, rfl⟩ := h2.sl
  exact ⟨a, b, 0, rfl, .inl ⟨rfl, hc, h1, h2⟩⟩
 ·rename_i hc
  exact ⟨⟨none, 0, 0⟩, ⟨none, 0, 0⟩, 2, h, .inr ⟨rfl, hc⟩⟩
theorem mcrash_spec (p : Po) (x : V5) (M : Mem) (h : PT5 M x p) (hdk : dkOk p.st.blocks p.st.waits) (keep : List Bool) (ka : Option Addr) (kc : Nat) (hks : SM M ka (wJw keep)) (hkl : keep.length ≤ 1000000) :
  SpecL Tryz.prog 21 #[.agg (pcl x p.gen p.root p.next).toArray, .slice ka keep.length kc] M [] fun u M' L' => CrP p keep u M' ∧ L' = [] := by
 refine wAf (vs := [_, _]) 24 _ Tryz.func21 rfl Tryz.ntmps21 rfl rfl ?_; intro W
 refine wAb (wAa (wAw rfl rfl (wCb (cs := [_, _, _, _, _, _, _, _]) rfl rfl rfl rfl) ?_)); rintro _ _ _ ⟨b2, rfl, rfl, rfl⟩
 refine sAl rfl fun b4 => ?_
 refine jp rfl (wAc (jT (wAb (wAa (sFF rfl rfl ?_)))))
 refine sLL rfl ?_
 refine jp rfl (wAw rfl rfl (wAn rfl rfl rfl rfl rfl (by kernel_rfl) (crash_spec p.st.blocks p.st.waits x.b.v x.w.v M h.b h.w hdk keep ka kc hks hkl)) ?_); rintro _ M1 _ ⟨hM1, _, rfl, ⟨hcr, rfl⟩⟩
 simp only [nA]
 obtain ⟨a, b, e, rfl, hcc⟩ := crash_form hcr
 refine jp rfl (jp rfl (jp rfl (sAl rfl fun b6 => ?_)))
 refine sSt rfl ?_
 refine jp rfl (wAc (jT (wAb (wAb (wAa (jp rfl (js rfl (fun h17 => ?_) (fun h17 => ?_))))))))
 ·refine wAc (jT (wAg rfl (wAb (wAa (wAi rfl rfl (wAq (cs := [_, _, _, _, _, _, _, _]) rfl rfl rfl (by rfl)) ?_)))))
  refine jp rfl (sSt rfl ?_)
  refine jp rfl (wAc (jT (wAe (jTr (wCd (rs := [_, _]) ([]) (by exact List.nil_sublist _) rfl (.cons (.agg rfl rfl rfl) (.cons (.tmp rfl) .nil)) ?_)))))
  obtain ⟨he, _⟩ | ⟨rfl, hne⟩ := hcc
  ·exact absurd he h17
  ·exact ⟨by unfold CrP; rw [if_neg hne]; rfl, rfl⟩
 ·refine wAc (jT (wAj rfl (wAd (jT (wAb (wAa (sLL rfl ?_)))))))
  obtain ⟨_, hkk, g1, g2⟩ | ⟨he, _⟩ := hcc
  rotate_left
  ·omega
  refine wAw rfl rfl (wAn rfl rfl rfl rfl rfl (by kernel_rfl) (mopen_spec ⟨wFn p.st.blocks (wLc keep p.st.waits), [], p.st.now, p.st.last⟩ M1 _ ⟨_, _, rfl, g1, g2⟩)) ?_; rintro _ M2 _ ⟨hM2, _, rfl, ⟨hop, rfl⟩⟩
  simp only [nA]
  obtain ⟨y, og, orr, on, oe, rfl, hoc⟩ := hop
  refine jp rfl (jp rfl (sSt rfl ?_))
  refine jp rfl (wAc (jT (wAe (wCd (rs := [_, _]) ([]) (by exact List.nil_sublist _) rfl (.cons (.agg rfl rfl rfl) (.cons (.tmp rfl) .nil)) ?_))))
  exact ⟨by unfold CrP; rw [if_pos hkk]; exact ⟨y, og, orr, on, oe, rfl, hoc⟩, rfl⟩
def w1S : Sto := mkS (cmt po0).st 0 []
def w1P : Po := ⟨w1S, 1, 8, 2, []⟩
def wVo : Vo := ⟨1, 9, false, 0⟩
def wFact : Bool := decide (dmE (cmt po0).st 0 [] = 0) && decide (wGh (wBb (cmt po0).st []) = 9) && decide (w1S.now.length = 256) && decide ((wGo w1S 9).2 = 0) &&
 (match cens w1S 8 2 [] with | some ([], refs, _) => decide (refs.getD 9 0 < ((w1S.now.getD 9 0).toNat : Int)) | _ => false) &&
 (match putF w1S 8 (wKr wVo) with | .ok (t, n) => decide (wHc ⟨t, 1, n, 2, []⟩ = 0) && decide (t.blocks = (cmt po0).st.blocks) | .error _ => false)
set_option maxRecDepth 100000 in
theorem wFact_yes : wFact = true := by decide +kernel
structure WF (t : Sto) (n : Int) (refs nodes : List Int) : Prop where
 e : dmE (cmt po0).st 0 [] = 0
 at_ : wGh (wBb (cmt po0).st []) = 9
 set : SetOk w1P wVo t n refs nodes
 bl : t.blocks = (cmt po0).st.blocks
theorem wF : ∃ t n refs nodes, WF t n refs nodes := by
 have h := wFact_yes
 unfold wFact at h
 rw [Bool.and_eq_true, Bool.and_eq_true, Bool.and_eq_true, Bool.and_eq_true, Bool.and_eq_true] at h
 obtain ⟨⟨⟨⟨⟨h1, h2⟩, h3⟩, h4⟩, h5⟩, h6⟩ := h
 split at h5
 ·rename_i refs nodes hc
  split at h6
  ·rename_i t n hp
   rw [Bool.and_eq_true] at h6
   exact ⟨t, n, refs, nodes, of_decide_eq_true h1, of_decide_eq_true h2, ⟨hc, by decide, by decide, of_decide_eq_true h3, of_decide_eq_true h5, of_decide_eq_true h4, ⟨by decide, by decide, by decide⟩, hp, of_decide_eq_true h6.1⟩, of_decide_eq_true h6.2⟩
  ·cases h6
 ·cases h5
theorem po0_fnd {s : Sto} (hs : ∀ k, k < 4 → wCo s k = wCo (cmt po0).st k) {x : Su} (hx : x ∈ wJs s 4) : x = sup po0 := by
 rw [fndL_q hs] at hx
 obtain ⟨hok, hgm⟩ := wJy wKq
 have hs := fnd_new hok po0_n hgm
 obtain ⟨k, hk, hxk⟩ := fndL_is.1 hx
 obtain ⟨j, hj, hsj⟩ := fndL_is.1 hs
 have h1 := wHm hxk
 have h2 := wHm hsj
 by_cases e : k = 1
 ·have hj1 : j = 1 := by have := h2.2.1; rw [show (sup po0).gen = 1 from rfl] at this; omega
  rw [e] at hxk; rw [hj1] at hsj; rw [hxk] at hsj; cases hsj; rfl
 ·exfalso
  have ho := h1.2.2.1
  have h8 : po0.st.waits.map (·.1) = [8] := by decide +kernel
  have hw8 : ∀ w ∈ po0.st.waits, 0 ≤ w.1 ∧ w.1 ≠ (k : Int) := fun w hw => by
   have h9 := List.mem_map_of_mem (f := (·.1)) hw
   rw [h8] at h9
   have h10 : w.1 = 8 := List.mem_singleton.1 h9
   omega
  rw [cmt_other po0_n hk (by show (k : Int) ≠ (0 + 1) % 4; omega) hw8] at ho
  have : k = 0 ∨ k = 2 ∨ k = 3 := by omega
  rcases this with rfl | rfl | rfl <;> exact absurd ho (by decide +kernel)
set_option maxRecDepth 100000 in
set_option maxHeartbeats 2000000 in
theorem with_spec (t : Sto) (n : Int) (refs nodes : List Int) (hw : WF t n refs nodes) (M : Mem) :
  SpecL Tryz.prog 20 #[] M [] fun u M' L' => (∃ x y, u = .tuple #[.agg (pcl x (cmt po0).gen (cmt po0).root (cmt po0).next).toArray, .agg (pcl y w1P.gen n w1P.next).toArray, .bool true] ∧ PT5 M' x (cmt po0) ∧ PT5 M' y ⟨t, w1P.gen, n, w1P.next, w1P.dead⟩) ∧ L' = [] := by
 refine wAf (vs := []) 45 _ Tryz.func20 rfl Tryz.ntmps20 rfl rfl ?_; intro W
 refine wAb (wAa (sAl rfl fun b0 => ?_))
 refine sAl rfl fun b1 => ?_
 refine jp rfl (wAc (jT (wAb (wAa (wAw rfl rfl (wAn rfl rfl rfl rfl rfl (by kernel_rfl) (fnew_spec M)) ?_))))); rintro _ M1 _ ⟨hM1, _, rfl, ⟨hp0, rfl⟩⟩
 simp only [nA]
 refine wAw rfl rfl (wAn rfl rfl rfl rfl rfl (by kernel_rfl) (commit_spec po0 _ M1 hp0 po0_n)) ?_; rintro _ M2 _ ⟨hM2, _, rfl, ⟨hc, rfl⟩⟩
 simp only [nA]
 unfold ComP at hc
 rw [if_pos wKq] at hc
 obtain ⟨cv, rfl, hcv⟩ := hc
 obtain ⟨y, rfl, hy⟩ := hcv.five
 refine jp rfl (jp rfl (jp rfl (sAl rfl fun b3 => ?_)))
 refine sSt rfl ?_
 refine jp rfl (wAc (jT (wAb (wAa (sFa rfl ?_)))))
 refine sLL rfl ?_
 refine wAw rfl rfl (wAn rfl rfl rfl rfl rfl (by kernel_rfl) (pnew_walk (cmt po0).st y.b.v y.w.v y.n.v y.l.v M2 hy.st)) ?_; rintro _ M3 _ ⟨hM3, _, rfl, ⟨hdm, rfl⟩⟩
 simp only [nA]
 obtain ⟨hne, _⟩ | ⟨_, sv, rfl, hsv, _⟩ := hdm
 ·exact absurd hw.e hne
 rw [hw.at_]
 obtain ⟨sa, sb, sc, sd, rfl, f1, f2, f3, f4⟩ := hsv.four
 refine jp rfl (jp rfl (jp rfl (jp rfl (sAl rfl fun b5 => ?_))))
 refine sSt rfl ?_
 refine jp rfl (jp rfl (wAc (jT (wAb (wAa (sLL rfl ?_))))))
 refine sAl rfl fun b8 => ?_
 refine sSt rfl ?_
 refine wAc (jT (wAb (wAa (sLL rfl ?_))))
 refine sFa rfl ?_
 refine sSt rfl ?_
 refine wAc (jT (wAb (wAa (sFa rfl ?_))))
 refine sSt rfl ?_
 refine wAc (jT (wAb (wAa (sLL rfl ?_))))
 refine jp rfl (wAi rfl rfl (wAq (cs := [_, _, _, _]) rfl rfl rfl (by rfl)) ?_)
 have hp1 : PT5 M3 ⟨sa, sb, sc, sd, y.d⟩ w1P := ⟨f1, f2, f3, f4, hy.d.mono hM3⟩
 refine wAw rfl rfl (wAn rfl rfl rfl rfl rfl (by kernel_rfl) (fset_spec ⟨sa, sb, sc, sd, y.d⟩ w1P wVo M3 hp1 (by decide) t n refs nodes hw.set)) ?_; rintro _ M4 _ ⟨hM4, _, rfl, ⟨⟨z, rfl, hz⟩, rfl⟩⟩
 simp only [nA]
 refine jp rfl (jp rfl (jp rfl (sSt rfl ?_)))
 refine jp rfl (wAc (jT (wAb (wCh (p := { A := fun i => !([12, 13].contains i), U := fun i => !([1, 9, 10, 11, 12, 13, 14].contains i) }) [(0, true), (1, true), (2, true), (3, true), (4, true), (5, true), (6, true), (7, true), (8, true), (9, true), (10, true), (11, true), (12, false), (13, false), (14, true)] M4 ([(b8, .cells (pcl z w1P.gen n w1P.next).toArray 32 (0, 0)), (b3, .cells (pcl y (cmt po0).gen (cmt po0).root (cmt po0).next).toArray 32 (0, 0))]) ([(b8, .cells (pcl z w1P.gen n w1P.next).toArray 32 (0, 0)), (b3, .cells (pcl y (cmt po0).gen (cmt po0).root (cmt po0).next).toArray 32 (0, 0))]) (by kernel_rfl) (by kernel_rfl) (by kernel_rfl) (by kernel_rfl) rfl (by simp) (MLe.refl _) (by simp) ?_))))
 refine dLL rfl rfl ?_
 refine jd_u rfl rfl rfl (qLdL rfl rfl rfl rfl rfl) ?_
 refine dp rfl rfl ?_
 refine dt rfl rfl (decide_eq_true (by omega)) ?_
 iterate 2 refine dp rfl rfl ?_
 refine dt rfl rfl (decide_eq_true (by omega)) ?_
 iterate 5 refine dp rfl rfl ?_
 refine jd_e rfl rfl (wBs rfl rfl rfl rfl rfl rfl rfl rfl) ?_; rintro _ _ _ ⟨rfl, rfl⟩
 refine ⟨MLe.refl _, by simp, ?_⟩
 refine je_s rfl rfl (wBs rfl rfl rfl rfl rfl rfl rfl rfl) ?_; rintro _ _ _ ⟨rfl, rfl⟩
 refine ⟨MLe.refl _, by simp, ?_⟩
 refine ep rfl rfl ?_
 refine wEv ?_
 refine jPn (jT (wAe (wCd (rs := [_, _, _]) ([]) (by exact List.nil_sublist _) rfl (.cons (.agg rfl rfl rfl) (.cons (.agg rfl rfl rfl) (.cons (.tmp rfl) .nil))) ?_)))
 exact ⟨⟨_, _, rfl, hy.mono (hM3.trans hM4), hz⟩, rfl⟩
theorem malive_gen (t : Sto) (n : Int) (refs nodes : List Int) (hw : WF t n refs nodes) (M : Mem) :
  SpecL Tryz.prog 8 #[] M [] fun u M' L' => u = .bool true ∧ L' = [] := by
 refine wAf (vs := []) 28 _ Tryz.func8 rfl Tryz.ntmps8 rfl rfl ?_; intro W
 refine wAb (wAa (jp rfl (wAc (jT (wAb (wAa (wAw rfl rfl (wAn rfl rfl rfl rfl rfl (by kernel_rfl) (with_spec t n refs nodes hw M)) ?_))))))); rintro _ M1 _ ⟨hM1, _, rfl, ⟨⟨x, y, rfl, hx, hy⟩, rfl⟩⟩
 simp only [nA]
 refine jp rfl (jp rfl (jp rfl (jp rfl (sAl rfl fun b1 => ?_))))
 refine sAl rfl fun b2 => ?_
 refine sSt rfl ?_
 refine sSt rfl ?_
 refine jp rfl (wAc (jT (wAb (wAa (sFF rfl rfl ?_)))))
 refine sLL rfl ?_
 refine wAw rfl rfl (wAn rfl rfl rfl rfl rfl (by kernel_rfl) (mopen_spec (cmt po0).st M1 _ ⟨_, _, rfl, hx.b, hx.w⟩)) ?_; rintro _ M2 _ ⟨hM2, _, rfl, ⟨hop, rfl⟩⟩
 simp only [nA]
 obtain ⟨z, og, orr, on, oe, rfl, hoc⟩ := hop
 obtain ⟨hne, _, hno⟩ | ⟨rfl, hdk, xx, hxx, _, _, hz, rfl, rfl, rfl⟩ := hoc
 ·exact absurd (cmt_try wKq po0_n) ((hno (cmt_st (wJy wKq).1 po0_n).1).2 _ (fnd_new (wJy wKq).1 po0_n (wJy wKq).2))
 obtain rfl := po0_fnd (fun _ _ => rfl) hxx
 rw [cmt_po (wJy wKq).1 po0_n] at hz
 refine jp rfl (jp rfl (jp rfl (sAl rfl fun b4 => ?_)))
 refine sSt rfl ?_
 refine jp rfl (wAc (jT (wAb (wAa (jp rfl (jp rfl (jp rfl (jt rfl (decide_eq_true (by omega)) ?_))))))))
 refine jp rfl (jp rfl (sLL rfl ?_))
 refine sLL rfl ?_
 refine wAw rfl rfl (wAn rfl rfl rfl rfl rfl (by kernel_rfl) (fsame_spec x z (cmt po0) M2 (hx.mono hM2) hz hdk (by decide))) ?_; rintro _ M3 _ ⟨hM3, _, rfl, ⟨rfl, rfl⟩⟩
 simp only [nA]
 refine jp rfl (jp rfl (wAc (jT (wAe (wAv (L' := []) (List.nil_sublist _) ?_)))))
 refine jr1 rfl rfl ?_
 exact ⟨rfl, rfl⟩
theorem malive_spec (M : Mem) : SpecL Tryz.prog 8 #[] M [] fun u M' L' => u = .bool true ∧ L' = [] := by
 obtain ⟨t, n, refs, nodes, hw⟩ := wF
 exact malive_gen t n refs nodes hw M
end Go.Proofs.YtoincdcejjdgkaaGreat
