/- Walks: pools that are the same are told to be. -/
import Derived.Test.YtoincdcejjdgkaaGreatZCom
import Derived.Test.YtoincdcejjdgkaaGreatZGreat
import Derived.Test.YtoincdcejjdgkaaGreatZRfind
namespace Go.Proofs.YtoincdcejjdgkaaGreat
set_option linter.unusedSimpArgs false
set_option linter.unusedVariables false
open Go.RowKit
structure Eqv (s t : Sto) : Prop where
 now : s.now = t.now
 nd : ∀ k, wCa s k = wCa t k
section
variable {s t : Sto}
theorem Eqv.one (h : Eqv s t) : ∀ (l : Nat), wCj s l = wCj t l
 | 0 => by funext x; simp only [wCj, h.now]
 | l + 1 => by funext x; simp only [wCj, h.nd, h.one l]
theorem Eqv.rd (h : Eqv s t) (lv : Int) (xs : List It) : wGb s lv xs = wGb t lv xs := by unfold wGb; rw [h.one]
theorem Eqv.lrn (h : Eqv s t) (k level : Int) : lrn s k level = Go.Proofs.YtoincdcejjdgkaaGreat.lrn t k level := by unfold Go.Proofs.YtoincdcejjdgkaaGreat.lrn; rw [h.nd]
theorem Eqv.rt (h : Eqv s t) (k : Int) : rtOk s k = rtOk t k := by
 unfold rtOk; rw [h.lrn]
 split
 ·rfl
 ·exact congrArg Sp.is (h.rd _ _)
theorem Eqv.kid (h : Eqv s t) : kid s = Go.Proofs.YtoincdcejjdgkaaGreat.kid t := by funext x; unfold Go.Proofs.YtoincdcejjdgkaaGreat.kid; rw [h.nd]
theorem Eqv.vols (h : Eqv s t) (next : Int) : ∀ l, wEr s next l = wEr t next l
 | 0 => rfl
 | l + 1 => by funext xs; simp only [wEr, h.vols next l, h.kid]
theorem Eqv.tree (h : Eqv s t) : ∀ (f : Nat) (st refs nodes : List Int), wEg s f st refs nodes = wEg t f st refs nodes
 | 0, _, _, _ => rfl
 | f + 1, st, refs, nodes => by simp only [wEg, h.nd, h.tree f]
theorem Eqv.trees (h : Eqv s t) : ∀ (rs refs nodes : List Int), wFb s rs refs nodes = wFb t rs refs nodes
 | [], _, _ => rfl
 | r :: rs, refs, nodes => by simp only [wFb, h.rt, h.tree, h.trees rs]
theorem Eqv.cens (h : Eqv s t) (hs : wCp s) (ht : wCp t) (root next : Int) (dead : List Int) : cens s root next dead = Go.Proofs.YtoincdcejjdgkaaGreat.cens t root next dead := by
 have he : ∀ r, enough s r = enough t r := fun r => by unfold enough; rw [h.now]
 unfold Go.Proofs.YtoincdcejjdgkaaGreat.cens
 simp only [h.rt, h.lrn, h.vols, h.trees, he, hs, ht]
end
theorem seenW (bs : List (List By)) (ws : List Wt) (n l : List By) (k : Nat) (w : Wt) : wCo ⟨bs, ws ++ [w], n, l⟩ k = if w.1 = (k : Int) then w.2 else wCo ⟨bs, ws, n, l⟩ k := by
 unfold wCo
 rw [List.reverse_append, List.reverse_singleton, List.singleton_append, List.find?_cons]
 by_cases h : w.1 = (k : Int)
 ·simp [h]
 ·have h2 : (w.1 == (k : Int)) = false := by simpa using h
  rw [h2, if_neg h]
theorem setB_snoc (bs : List (List By)) (ws : List Wt) (w : Wt) : wFn bs (ws ++ [w]) = (wFn bs ws).set w.1.toNat w.2 := by unfold wFn; rw [List.foldl_append]; rfl
theorem list_snoc {α : Type} {p : List α → Prop} (h0 : p []) (h1 : ∀ xs x, p xs → p (xs ++ [x])) (xs : List α) : p xs := by
 have : ∀ ys : List α, p ys.reverse := fun ys => by
  induction ys with
  | nil => exact h0
  | cons y ys ih => rw [List.reverse_cons]; exact h1 _ _ ih
 have := this xs.reverse
 rwa [List.reverse_reverse] at this
theorem setB_get (bs : List (List By)) (n l : List By) (k : Nat) (hk : k < bs.length) (ws : List Wt) : (∀ w ∈ ws, 0 ≤ w.1) → (wFn bs ws).getD k [] = wCo ⟨bs, ws, n, l⟩ k := by
 refine list_snoc (p := fun ws => (∀ w ∈ ws, 0 ≤ w.1) → (wFn bs ws).getD k [] = wCo ⟨bs, ws, n, l⟩ k) (fun _ => by unfold wCo wFn; rfl) (fun ws w ih h => ?_) ws
 rw [setB_snoc, seenW]
 have h0 := h w (by simp)
 have ih := ih fun v hv => h v (by simp [hv])
 by_cases e : w.1 = (k : Int)
 ·rw [if_pos e, e, Int.toNat_natCast]; simp [List.getD, wKb, hk]
 ·rw [if_neg e, ← ih]; simp [List.getD, List.getElem?_set_ne (show w.1.toNat ≠ k by omega)]
theorem setB_low (bs : List (List By)) (k : Nat) (hk : 8 ≤ k) (ws : List Wt) : (∀ w ∈ ws, 0 ≤ w.1 ∧ w.1 < 8) → (wFn bs ws).getD k [] = bs.getD k [] := by
 refine list_snoc (p := fun ws => (∀ w ∈ ws, 0 ≤ w.1 ∧ w.1 < 8) → (wFn bs ws).getD k [] = bs.getD k []) (fun _ => rfl) (fun ws w ih h => ?_) ws
 have h0 := h w (by simp)
 rw [setB_snoc, ← ih fun v hv => h v (by simp [hv])]; simp [List.getD, List.getElem?_set_ne (show w.1.toNat ≠ k by omega)]
theorem cmt_low {p : Po} (h : PoOk p) (hn : PoN p) {k : Nat} (hk : 8 ≤ k) (hk2 : k < 256) : (wFn (dsk p 3).1 (dsk p 3).2).getD k [] = wCo p.st k := by
 have h3 := cmAdd_ok h hn 2
 have h2 := cmAdd_ok h hn 1
 show (wFn (wFn (wFn p.st.blocks p.st.waits) (wFh p 1)) (wFh p 2)).getD k [] = _
 rw [setB_low _ k hk _ fun w hw => ⟨(h3.2 w hw).1, (h3.2 w hw).2.1⟩, setB_low _ k hk _ fun w hw => ⟨(h2.2 w hw).1, (h2.2 w hw).2.1⟩]
 exact setB_get p.st.blocks p.st.now p.st.last k (by rw [h.st.1.1]; exact hk2) p.st.waits fun w hw => (h.st.1.w w hw).1
theorem now_low {xs : List By} (h : ctOk xs) {k : Nat} (hk : k < 8 ∨ 256 ≤ k) : xs.getD k 0 = 0 := by
 rcases hk with hk | hk
 ·have h1 := List.all_eq_true.1 h.2 (xs.getD k 0) (by rw [wDv (by rw [h.1]; omega)]; exact List.mem_iff_getElem.2 ⟨k, by rw [List.length_take, h.1]; omega, by rw [List.getElem_take]⟩)
  simpa using h1
 ·simp [List.getD, List.getElem?_eq_none (show xs.length ≤ k by rw [h.1]; exact hk)]
theorem nd_low {s : Sto} (h : ctOk s.now) {k : Nat} (hk : k < 8 ∨ 256 ≤ k) : wCa s k = none := by unfold wCa; rw [if_pos (now_low h hk)]
theorem cmt_eqv {p : Po} (h : PoOk p) (hn : PoN p) : Eqv (cmt p).st p.st := ⟨rfl, fun k => by
 by_cases hk : k < 8 ∨ 256 ≤ k
 ·rw [nd_low h.st.2.1 hk, nd_low (s := (cmt p).st) h.st.2.1 hk]
 ·unfold wCa
  show (if p.st.now.getD k 0 = 0 then none else wFc (wCo (cmt p).st k)) = _
  rw [show wCo (cmt p).st k = wCo p.st k from cmt_low h hn (by omega) (by omega)]⟩
theorem cmt_st {p : Po} (h : PoOk p) (hn : PoN p) : wCp (cmt p).st := ⟨setB_ok (dsk_ok h hn 3) fun w hw => ((dsk_ok h hn 3).w w hw).2.2, h.st.2.1, h.st.2.1⟩
theorem cmt_chk {p : Po} (h : askC p = 0) (hn : PoN p) : wHc (cmt p) = 0 := by
 have hp := (wJy h).1
 have hc : wHc p = 0 := by
  rcases poChk_cases p with h0 | h0
  ·exact h0
  ·unfold askC at h; rw [if_pos (by omega)] at h; omega
 obtain ⟨x, hx⟩ := poChk_is.1 hc
 refine poChk_is.2 ⟨x, ?_⟩
 rw [← hx]; exact (cmt_eqv hp hn).cens (cmt_st hp hn) hp.st _ _ _
def po0 : Po := ⟨mkS st0 0 [], 0, 8, 1, []⟩
theorem wKq : askC po0 = 0 := by decide +kernel
theorem po0_n : PoN po0 := ⟨by decide, by decide, by decide⟩
structure Sl where
 a : Option Addr
 n : Nat
 c : Nat
abbrev Sl.v (s : Sl) : Value := .slice s.a s.n s.c
structure V5 where
 b : Sl
 w : Sl
 n : Sl
 l : Sl
 d : Sl
abbrev pcl (x : V5) (g r n : Int) : List Value := poc x.b.v x.w.v x.n.v x.l.v g r n x.d.v
structure PT5 (M : Mem) (x : V5) (p : Po) : Prop where
 b : LS M x.b.v p.st.blocks
 w : WS M x.w.v p.st.waits
 n : BS M x.n.v p.st.now
 l : BS M x.l.v p.st.last
 d : NI M x.d.v p.dead
theorem PT5.mono {M M' : Mem} {x : V5} {p : Po} (h : PT5 M x p) (hM : MLe M M') : PT5 M' x p := ⟨h.b.mono hM, h.w.mono hM, h.n.mono hM, h.l.mono hM, h.d.mono hM⟩
theorem LS.len {M : Mem} {s : Sl} {bs : List (List By)} (h : LS M s.v bs) : s.n = bs.length := by obtain ⟨a, c, ps, e, _⟩ := h; exact congrArg (fun v => match v with | Value.slice _ n _ => n | _ => 0) e
theorem WS.len {M : Mem} {s : Sl} {ws : List Wt} (h : WS M s.v ws) : s.n = ws.length := by obtain ⟨a, c, ps, e, _⟩ := h; exact congrArg (fun v => match v with | Value.slice _ n _ => n | _ => 0) e
theorem BS.len {M : Mem} {s : Sl} {bs : List By} (h : BS M s.v bs) : s.n = bs.length := by obtain ⟨a, c, e, _⟩ := h; exact congrArg (fun v => match v with | Value.slice _ n _ => n | _ => 0) e
theorem NI.len {M : Mem} {s : Sl} {bs : List Int} (h : NI M s.v bs) : s.n = bs.length := by obtain ⟨a, c, e, _⟩ := h; exact congrArg (fun v => match v with | Value.slice _ n _ => n | _ => 0) e
theorem BS.sm {M : Mem} {s : Sl} {bs : List By} (h : BS M s.v bs) : SM M s.a (wAk bs) := by
 obtain ⟨a, c, e, _, h⟩ := h
 have : s.a = a := congrArg (fun v => match v with | Value.slice a _ _ => a | _ => none) e
 rw [this]; exact h
theorem NI.sm {M : Mem} {s : Sl} {bs : List Int} (h : NI M s.v bs) : SM M s.a (wBj bs) := by
 obtain ⟨a, c, e, _, h⟩ := h
 have : s.a = a := congrArg (fun v => match v with | Value.slice a _ _ => a | _ => none) e
 rw [this]; exact h
theorem LS.sl {M : Mem} {v : Value} {bs : List (List By)} (h : LS M v bs) : ∃ s : Sl, v = s.v := by obtain ⟨a, c, ps, e, _⟩ := h; exact ⟨⟨a, _, c⟩, e⟩
theorem WS.sl {M : Mem} {v : Value} {bs : List Wt} (h : WS M v bs) : ∃ s : Sl, v = s.v := by obtain ⟨a, c, ps, e, _⟩ := h; exact ⟨⟨a, _, c⟩, e⟩
theorem BS.sl {M : Mem} {v : Value} {bs : List By} (h : BS M v bs) : ∃ s : Sl, v = s.v := by obtain ⟨a, c, e, _⟩ := h; exact ⟨⟨a, _, c⟩, e⟩
theorem NI.sl {M : Mem} {v : Value} {bs : List Int} (h : NI M v bs) : ∃ s : Sl, v = s.v := by obtain ⟨a, c, e, _⟩ := h; exact ⟨⟨a, _, c⟩, e⟩
theorem PT.five {M : Mem} {v : Value} {p : Po} (h : PT M v p) : ∃ x : V5, v = .agg (pcl x p.gen p.root p.next).toArray ∧ PT5 M x p := by
 obtain ⟨pv, pw, pn, pl, dv, rfl, h1, h2, h3, h4, h5⟩ := h
 obtain ⟨a, rfl⟩ := h1.sl
 obtain ⟨b, rfl⟩ := h2.sl
 obtain ⟨c, rfl⟩ := h3.sl
 obtain ⟨d, rfl⟩ := h4.sl
 obtain ⟨e, rfl⟩ := h5.sl
 exact ⟨⟨a, b, c, d, e⟩, rfl, h1, h2, h3, h4, h5⟩
theorem PT5.pt {M : Mem} {x : V5} {p : Po} (h : PT5 M x p) : PT M (.agg (pcl x p.gen p.root p.next).toArray) p := ⟨_, _, _, _, _, rfl, h.b, h.w, h.n, h.l, h.d⟩
def v5Z : V5 := ⟨⟨none, 0, 0⟩, ⟨none, 0, 0⟩, ⟨none, 0, 0⟩, ⟨none, 0, 0⟩, ⟨none, 0, 0⟩⟩
theorem ComP.form {p : Po} {u : Value} {M' : Mem} (h : ComP p u M') : ∃ x g r n e, u = .tuple #[.agg (pcl x g r n).toArray, .int .i64 e] ∧ ((e = 0 ∧ askC p = 0 ∧ PT5 M' x (cmt p) ∧ g = p.gen + 1 ∧ r = p.root ∧ n = p.next) ∨ (e = askC p ∧ askC p ≠ 0 ∧ x = v5Z)) := by
 unfold ComP at h
 split at h
 ·rename_i ha
  obtain ⟨v, rfl, h⟩ := h
  obtain ⟨x, rfl, hx⟩ := h.five
  exact ⟨x, _, _, _, 0, rfl, .inl ⟨rfl, ha, hx, rfl, rfl, rfl⟩⟩
 ·rename_i ha
  exact ⟨v5Z, 0, 0, 0, _, h, .inr ⟨rfl, ha, rfl⟩⟩
theorem dmake_spec (s : Sto) (v sl : Value) (lv : Int) (xs : List It) (M : Mem) (hv : ST M v s) (hn : NS M sl xs) (hkd : ∀ x ∈ xs, 0 ≤ x.key.kind ∧ x.key.kind < 256) (hst : wCp s) (hok : wHx lv xs = true) (hsh : shOk s xs) (hat : wGh (wBb s xs) < 256) (hwl : s.waits.length < 4096) :
  SpecL Tryz.prog 75 #[v, .agg #[.int .i64 lv, sl]] M [] fun u M' L' => (∃ v, u = .tuple #[v, .int .i64 (wGh (wBb s xs)), .int .i64 0] ∧ ST M' v (mkS s lv xs)) ∧ L' = [] := by
 obtain ⟨b, w, n, l, rfl, h1, ⟨wa, wc, wps, rfl, hwc, hws, hwp, hwb⟩, h3, h4⟩ := hv.ex
 obtain ⟨a, c, ps, rfl, hc, hs, hp, hb⟩ := hn
 exact dmake_walk s b n l wa wc lv xs a c ps M h1 wps hwc hws hwp hwb h3 h4 hc hs hp hb hkd hst hok hsh hat hwl
theorem st0_ok : wCp st0 := by decide +kernel
theorem st0_at : wGh (wBb st0 []) = 8 := by decide +kernel
theorem putnew_spec (v : Value) (M : Mem) (hv : ST M v st0) :
  SpecL Tryz.prog 45 #[v] M [] fun u M' L' => (∃ v, u = .tuple #[v, .int .i64 8, .int .i64 0] ∧ ST M' v (mkS st0 0 [])) ∧ L' = [] := by
 obtain ⟨a0, b0, c0, d0, rfl, h1, h2, h3, h4⟩ := id hv.ex
 refine wAf (vs := [_]) 11 _ Tryz.func45 rfl Tryz.ntmps45 rfl rfl ?_; intro W
 refine wAb (wAa (wAw rfl rfl (wCb (cs := [_, _, _, _]) rfl rfl rfl rfl) ?_)); rintro _ _ _ ⟨b1, rfl, rfl, rfl⟩
 refine sAl rfl fun b2 => ?_
 refine jp rfl (jp rfl (wAc (jT (wAb (wAa (sLL rfl ?_))))))
 refine wAi rfl rfl (wAq (cs := [_, _]) rfl rfl rfl (by rfl)) ?_
 refine wAw rfl rfl (wAn rfl rfl rfl rfl rfl (by kernel_rfl) (dmake_spec st0 _ _ 0 [] M hv NS.nil (fun _ h => by cases h) st0_ok (by decide) (fun k h => by cases h) (by rw [st0_at]; decide) (by decide))) ?_; rintro _ M1 _ ⟨hM1, _, rfl, ⟨⟨v1, rfl, hst⟩, rfl⟩⟩
 rw [st0_at]
 obtain ⟨q1, q2, q3, q4, rfl, g1, g2, g3, g4⟩ := hst.ex
 obtain ⟨s1, rfl⟩ := g1.sl
 obtain ⟨s2, rfl⟩ := g2.sl
 obtain ⟨s3, rfl⟩ := g3.sl
 obtain ⟨s4, rfl⟩ := g4.sl
 refine jp rfl (jp rfl (jp rfl (sSt rfl ?_)))
 refine jp rfl (jp rfl (wAc (jT (wAe (wCd (rs := [_, _, _]) ([]) (by exact List.nil_sublist _) rfl (.cons (.agg rfl rfl rfl) (.cons (.tmp rfl) (.cons (.tmp rfl) .nil))) ?_)))))
 exact ⟨⟨_, rfl, _, _, _, _, rfl, g1, g2, g3, g4⟩, rfl⟩
theorem fnew_spec (M : Mem) :
  SpecL Tryz.prog 22 #[] M [] fun u M' L' => PT M' u po0 ∧ L' = [] := by
 refine wAf (vs := []) 13 _ Tryz.func22 rfl Tryz.ntmps22 rfl rfl ?_; intro W
 refine wAb (wAa (sAl rfl fun b0 => ?_))
 refine wAc (jT (wAb (wAa (wAw rfl rfl (wAn rfl rfl rfl rfl rfl (by kernel_rfl) (rnew_spec M)) ?_)))); rintro _ M0 _ ⟨hM0, _, rfl, ⟨hst0, rfl⟩⟩
 simp only [nA]
 obtain ⟨a0, b0, c0, d0, rfl, _⟩ := id hst0.ex
 refine wAw rfl rfl (wAn rfl rfl rfl rfl rfl (by kernel_rfl) (putnew_spec _ M0 hst0)) ?_; rintro _ M1 _ ⟨hM1, _, rfl, ⟨⟨v1, rfl, hst⟩, rfl⟩⟩
 obtain ⟨q1, q2, q3, q4, rfl, g1, g2, g3, g4⟩ := hst.ex
 obtain ⟨s1, rfl⟩ := g1.sl
 obtain ⟨s2, rfl⟩ := g2.sl
 obtain ⟨s3, rfl⟩ := g3.sl
 obtain ⟨s4, rfl⟩ := g4.sl
 refine jp rfl (jp rfl (jp rfl (jp rfl (sAl rfl fun b1 => ?_))))
 refine sSt rfl ?_
 refine jp rfl (jp rfl (wAc (jT (wAb (wAa (sLL rfl ?_))))))
 refine jp rfl (wAi rfl rfl (wAq (cs := [_, _, _, _, _, _, _, _]) rfl rfl rfl (by rfl)) ?_)
 refine sSt rfl ?_
 refine wAc (jT (wAe (wCd (rs := [_]) ([]) (by exact List.nil_sublist _) rfl (.cons (.agg rfl rfl rfl) .nil) ?_)))
 exact ⟨⟨_, _, _, _, _, rfl, g1, g2, g3, g4, none, 0, rfl, Nat.le_refl _, SM.nil⟩, rfl⟩
theorem fgreat_spec (x : V5) (g r n : Int) (p : Po) (M : Mem) (h : PT5 M x p) :
  SpecL Tryz.prog 9 #[.agg (pcl x g r n).toArray] M [] fun u M' L' => (∃ b, u = .bool b ∧ (b = false → p.dead.length ≤ 1000)) ∧ L' = [] := by
 refine wAf (vs := [_]) 12 _ Tryz.func9 rfl Tryz.ntmps9 rfl rfl ?_; intro W
 refine wAb (wAa (wAw rfl rfl (wCb (cs := [_, _, _, _, _, _, _, _]) rfl rfl rfl rfl) ?_)); rintro _ _ _ ⟨b1, rfl, rfl, rfl⟩
 refine jp rfl (wAc (jT (wAb (wAa (sFa rfl ?_)))))
 refine sLL rfl ?_
 refine wAw rfl rfl (wAn rfl rfl rfl rfl rfl (by kernel_rfl) (great_spec p.st _ M ⟨_, _, _, _, rfl, h.b, h.w, h.n, h.l⟩)) ?_; rintro _ M1 _ ⟨hM1, _, rfl, ⟨⟨b, rfl⟩, rfl⟩⟩
 simp only [nA]
 refine jsb rfl (fun h6 => ?_) (fun h6 => ?_)
 ·refine jp rfl (jp rfl (jp rfl (jp rfl (jp rfl (jp rfl (wAc (jT (wAe (wAv (L' := []) (List.nil_sublist _) ?_)))))))))
  refine jr1 rfl rfl ?_
  exact ⟨⟨_, rfl, fun h => by cases h⟩, rfl⟩
 ·refine sFL rfl rfl ?_
  refine wAi rfl rfl (wBq rfl rfl rfl) ?_
  refine jp rfl (jp rfl (jp rfl (wAc (jT (wAe (wAv (L' := []) (List.nil_sublist _) ?_))))))
  refine jr1 rfl rfl ?_
  exact ⟨⟨_, rfl, fun hb => by have h1 := h.d.len; have := of_decide_eq_false hb; omega⟩, rfl⟩
def RcP (t : List By) (u : Value) (M' : Mem) : Prop := ∃ (s : Sl) (e : Int), u = .tuple #[s.v, .int .i64 e] ∧ ((e = 0 ∧ ctOk t ∧ BS M' s.v t) ∨ (e ≠ 0 ∧ ¬ ctOk t))
theorem ctChk_ok {t : List By} (h : ctChk t = 0) : ctOk t := by
 unfold ctChk at h
 split at h
 ·assumption
 ·omega
theorem rctab_spec (s : Sto) (bv wv : Value) (M : Mem) (h1 : LS M bv s.blocks) (h2 : WS M wv s.waits) (hdk : dkOk s.blocks s.waits) (side : Int) (hs : side = 0 ∨ side = 1) (k : Nat) (hk : (k : Int) = 4 + 2 * side) (t : List By) (ht : wCo s k ++ wCo s (k + 1) = t) (htl : t.length = 256) :
  SpecL Tryz.prog 67 #[.agg #[bv, wv], .int .i64 side] M [] fun u M' L' => RcP t u M' ∧ L' = [] := by
 refine wAf (vs := [_, _]) 46 _ Tryz.func67 rfl Tryz.ntmps67 rfl rfl ?_; intro W
 refine wAb (wAa (wAw rfl rfl (wCb (cs := [_, _]) rfl rfl rfl rfl) ?_)); rintro _ _ _ ⟨b2, rfl, rfl, rfl⟩
 refine jp rfl (jp rfl (wAc (jT (wAb (wAa (sLL rfl ?_))))))
 refine jp rfl ?_
 refine wAi rfl rfl (wBf rfl rfl rfl rfl rfl (by kernel_rfl) (by have hp := place_spec s.blocks s.waits bv wv M h1 h2 hdk side hs; rw [← hk] at hp; exact hp)) ?_
 refine jp rfl (jp rfl (jp rfl (jp rfl (jp rfl (wAc (jT (wAb (wAb (wAa (jp rfl (jf rfl (decide_eq_false (by omega)) ?_)))))))))))
 refine wAc (jT (wAj rfl (wAd (jT (wAb (wAa (sLL rfl ?_)))))))
 refine jp rfl (wAw rfl rfl (wAn rfl rfl rfl rfl rfl (by kernel_rfl) (dread_spec s k bv wv M h1 h2 hdk (by omega))) ?_); rintro _ M1 _ ⟨hM1, _, rfl, ⟨⟨v1, rfl, hv1⟩, rfl⟩⟩
 simp only [nA]
 obtain ⟨va1, vc1, rfl, hvc1, hvs1⟩ := id hv1
 refine jp rfl (jp rfl (jp rfl (jp rfl (jp rfl (wAc (jT (wAb (wAa (sLL rfl ?_)))))))))
 refine jp rfl (ja rfl (by omega) ?_)
 refine wAw rfl rfl (wAn rfl rfl rfl rfl rfl (by kernel_rfl) (by have hp := dread_spec s (k + 1) bv wv M1 (h1.mono hM1) (h2.mono hM1) hdk (by omega); rw [show ((k + 1 : Nat) : Int) = (k : Int) + 1 from by omega] at hp; exact hp)) ?_; rintro _ M2 _ ⟨hM2, _, rfl, ⟨⟨v2, rfl, hv2⟩, rfl⟩⟩
 simp only [nA]
 obtain ⟨va2, vc2, rfl, hvc2, hvs2⟩ := id hv2
 refine jp rfl (jp rfl (jp rfl (jp rfl (jp rfl (wAc (jT (wAb (wAa (jp rfl (jp rfl (wAw rfl rfl (wAm (cs := [_, _]) rfl rfl rfl (by rfl) (by rfl) (by rfl)) ?_))))))))))); rintro _ _ _ ⟨b38, rfl, rfl, rfl⟩
 refine wGe b38 (by simp) ?_
 intro M4 hM4 e4
 have hls := LS.two e4 ((hv1.mono hM2).mono hM4) (hv2.mono hM4)
 have hft : [wCo s k, wCo s (k + 1)].flatten = t := by simp [← ht]
 refine wAw rfl rfl (wAn rfl rfl rfl rfl rfl (by kernel_rfl) (wFg _ _ M4 hls (by simp) (by rw [hft]; omega))) ?_; rintro _ M5 _ ⟨hM5, R5, rfl, hown⟩
 rw [hft] at hown
 refine wHv hown (by simp) ?_
 intro M6 ca cc hM6 ec hcc hcs; cases ec
 have hbt : BS M6 (.slice ca t.length cc) t := ⟨ca, cc, rfl, hcc, hcs⟩
 refine jp rfl (wAc (jT (wAb (wAb (wAa (jp rfl (wAi rfl rfl (wBf rfl rfl rfl rfl rfl (by kernel_rfl) (wGg t _ M6 hbt)) ?_)))))))
 refine jp rfl (wAc (jT (wAb (wAa (jp rfl (js rfl (fun h43 => ?_) (fun h43 => ?_)))))))
 ·refine wAc (jT (wAg rfl (wAb (wAa (jp rfl (jp rfl (jp rfl (wAc (jT (wAe (jTr (wAv (L' := []) (List.nil_sublist _) ?_))))))))))))
  refine jr2 rfl rfl rfl ?_
  exact ⟨⟨⟨none, 0, 0⟩, _, rfl, .inr ⟨h43, fun hc => h43 (if_pos hc)⟩⟩, rfl⟩
 ·refine wAc (jT (wAj rfl (wAd (jT (wAb (wAa (jp rfl (jp rfl (jp rfl (wAc (jT (wAe (wAv (L' := []) (List.nil_sublist _) ?_)))))))))))))
  refine jr2 rfl rfl rfl ?_
  exact ⟨⟨⟨_, _, _⟩, 0, rfl, .inl ⟨rfl, ctChk_ok (by omega), hbt⟩⟩, rfl⟩
def wCw (s : Sto) (g : Int) : List By := wCo s (4 + 2 * (g % 2)).toNat ++ wCo s ((4 + 2 * (g % 2)).toNat + 1)
def wEq (s : Sto) (x : Su) : Po := ⟨⟨s.blocks, s.waits, wCw s x.gen, wCw s x.gen⟩, x.gen, x.root, x.next, x.dead⟩
structure TryOk (s : Sto) (x : Su) : Prop where
  ct : ctOk (wCw s x.gen)
  sum : sumOf (wCw s x.gen) = x.table
  chk : wHc (wEq s x) = 0
def TryP (s : Sto) (x : Su) (u : Value) (M' : Mem) : Prop := ∃ (y : V5) (g r n : Int) (b : Bool), u = .tuple #[.agg (pcl y g r n).toArray, .bool b] ∧ ((b = true ∧ TryOk s x ∧ PT5 M' y (wEq s x) ∧ g = x.gen ∧ r = x.root ∧ n = x.next) ∨ (b = false ∧ ¬ TryOk s x))
theorem tab_len {s : Sto} (h : dkOk s.blocks s.waits) (g : Int) : (wCw s g).length = 256 := by
  unfold wCw; rw [List.length_append, seen_128 h (by omega), seen_128 h (by omega)]
set_option maxHeartbeats 2000000 in
theorem try_spec (s : Sto) (x : Su) (M : Mem) (b w d : Sl) (h1 : LS M b.v s.blocks) (h2 : WS M w.v s.waits) (h3 : NI M d.v x.dead) (hdk : dkOk s.blocks s.waits) (hg : 0 ≤ x.gen ∧ x.gen < 4294967296) (hdl : x.dead.length ≤ 1000000) :
    SpecL Tryz.prog 34 #[.agg #[b.v, w.v], .agg (suc x d.v).toArray] M [] fun u M' L' => TryP s x u M' ∧ L' = [] := by
  refine wAf (vs := [_, _]) 54 _ Tryz.func34 rfl Tryz.ntmps34 rfl rfl ?_; intro W
  refine wAb (wAa (wAw rfl rfl (wCb (cs := [_, _]) rfl rfl rfl rfl) ?_)); rintro _ _ _ ⟨b2, rfl, rfl, rfl⟩
  refine wAw rfl rfl (wCb (cs := [_, _, _, _, _]) rfl rfl rfl rfl) ?_; rintro _ _ _ ⟨b3, rfl, rfl, rfl⟩
  refine sAl rfl fun b4 => ?_
  refine jp rfl (wAc (jT (wAb (wAa (sLL rfl ?_)))))
  refine sFL rfl rfl ?_
  refine wAi rfl rfl (wEj rfl rfl rfl (by omega)) ?_
  refine wAi rfl rfl (qEq (qBits rfl rfl rfl rfl rfl) (v' := .int .i64 (x.gen % 2)) (by rw [bAnd_1 (by omega)])) ?_
  refine wAw rfl rfl (wAn rfl rfl rfl rfl rfl (by kernel_rfl) (rctab_spec s b.v w.v M h1 h2 hdk (x.gen % 2) (by omega) (4 + 2 * (x.gen % 2)).toNat (by omega) (wCw s x.gen) rfl (tab_len hdk _))) ?_; rintro _ M1 _ ⟨hM1, _, rfl, ⟨⟨t, e, rfl, hrc⟩, rfl⟩⟩
  simp only [nA]
  refine jp rfl (jp rfl (jp rfl (jp rfl (jp rfl (wAc (jT (wAb (wAb (wAa (jp rfl (js rfl (fun h20 => ?_) (fun h20 => ?_))))))))))))
  · refine wAc ?_
    refine jT (wAg rfl (wAb (wAa (wAi rfl rfl (wAq (cs := [_, _, _, _, _, _, _, _]) rfl rfl rfl (by rfl)) ?_))))
    refine sSt rfl ?_
    refine jp rfl (wAc (jT (wAe (jTr (wCd (rs := [_, _]) ([]) (by exact List.nil_sublist _) rfl (.cons (.agg rfl rfl rfl) (.cons (.tmp rfl) .nil)) ?_)))))
    exact ⟨⟨v5Z, 0, 0, 0, false, rfl, .inr ⟨rfl, fun ht => by obtain ⟨h0, _⟩ | ⟨_, hc⟩ := hrc; exact h20 h0; exact hc ht.ct⟩⟩, rfl⟩
  · refine wAc ?_
    refine jT (wAj rfl (wAd (jT (wAb (wAb (wAa (jp rfl ?_)))))))
    obtain ⟨_, hct, hbt⟩ | ⟨hne, _⟩ := hrc
    rotate_left
    · exact absurd (Classical.not_not.1 h20) hne
    refine wAi rfl rfl (wBf rfl rfl rfl rfl rfl (by kernel_rfl) (csum_spec (wCw s x.gen) t.v M1 hbt hct)) ?_
    refine jp rfl (jp rfl (jp rfl (jp rfl (jp rfl (wAc (jT (wAb (wAa (jp rfl (jf rfl (decide_eq_false (by omega)) ?_))))))))))
    refine jp rfl (jp rfl (sFL rfl rfl ?_))
    refine js rfl (fun h33 => ?_) (fun h33 => ?_)
    · refine jp rfl ?_
      refine wAc (jT (wAg rfl (wAb (wAa (wAi rfl rfl (wAq (cs := [_, _, _, _, _, _, _, _]) rfl rfl rfl (by rfl)) ?_)))))
      refine sSt rfl ?_
      refine jp rfl (wAc (jT (wAe (jTr (wCd (rs := [_, _]) ([]) (by exact List.nil_sublist _) rfl (.cons (.agg rfl rfl rfl) (.cons (.tmp rfl) .nil)) ?_)))))
      exact ⟨⟨v5Z, 0, 0, 0, false, rfl, .inr ⟨rfl, fun ht => h33 ht.sum⟩⟩, rfl⟩
    · refine jp rfl ?_
      refine wAc (jT (wAj rfl (wAd (jT (wAb (wBn [(0, true), (1, true), (2, true), (5, true), (6, true), (7, true), (8, true), (9, true), (10, true), (11, true), (12, true), (3, false), (4, true), (13, true), (14, false)] [(b3, .cells (suc x d.v).toArray 80 (0, 0)), (b2, .cells [b.v, w.v].toArray 25 (0, 0))] (by kernel_rfl) (by kernel_rfl) (by kernel_rfl) rfl (by simp) ?_))))))
      refine dLL rfl rfl ?_
      iterate 2 refine dp rfl rfl ?_
      refine dFa rfl rfl ?_
      refine dLd rfl rfl ?_
      refine dFa rfl rfl ?_
      refine dLd rfl rfl ?_
      refine dFa rfl rfl ?_
      refine dLd rfl rfl ?_
      refine dFa rfl rfl ?_
      refine dLd rfl rfl ?_
      have htl := tab_len hdk x.gen
      refine wHh rfl rfl rfl (wAn rfl rfl rfl rfl rfl (by kernel_rfl) (wCt t.v (wCw s x.gen) M1 hbt (by omega))) ?_; rintro _ M3 _ ⟨hM3, R3, rfl, hown⟩
      refine ⟨_, _, MLe.refl _, hM3, fun _ h => h, by simp, ?_⟩
      obtain ⟨ca0, cc0, rfl⟩ := hown.form
      refine wBi rfl rfl rfl (wAq (cs := [_, _, _, _]) rfl rfl rfl (by rfl)) ?_
      refine wBi rfl rfl rfl (wAq (cs := [_, _, _, _, _, _, _, _]) rfl rfl rfl (by rfl)) ?_
      refine jd_s rfl rfl (wBs rfl rfl rfl rfl rfl rfl rfl rfl) ?_; rintro _ _ _ ⟨rfl, rfl⟩
      refine ⟨_, _, MLe.refl _, (by first | exact hM3 | exact hM4), fun _ h => h, by simp, ?_⟩
      refine wBg (jPn (jT (wAb (jc_own hown (by simp) ?_))))
      intro M5 ca1 cc1 hM5 ec hcc hcs; cases ec
      have hL := hM1.trans (hM3.trans hM5)
      have hbt3 : BS M5 (.slice ca0 (wCw s x.gen).length cc0) (wCw s x.gen) := ⟨ca0, cc0, rfl, hcc, hcs⟩
      have hp5 : PT5 M5 ⟨b, w, t, ⟨ca0, (wCw s x.gen).length, cc0⟩, d⟩ (wEq s x) := ⟨h1.mono hL, h2.mono hL, hbt.mono (hM3.trans hM5), hbt3, h3.mono hL⟩
      refine wCh (p := { A := fun i => !([4].contains i), U := fun i => !([3, 4, 5].contains i) }) [(0, true), (1, true), (2, false), (3, true), (4, false), (5, true)] M5 ([(b4, .cells (poc b.v w.v t.v (.slice ca0 (wCw s x.gen).length cc0) x.gen x.root x.next d.v).toArray 32 (0, 0))]) ([]) (by kernel_rfl) (by kernel_rfl) (by kernel_rfl) (by kernel_rfl) rfl (by simp) (MLe.refl _) (by simp) ?_
      refine dLL rfl rfl ?_
      refine dLL rfl rfl ?_
      refine wHh rfl rfl rfl (wAn rfl rfl rfl rfl rfl (by kernel_rfl) (fochk_spec (wEq s x) _ M5 hp5.pt hdl)) ?_; rintro _ M4 _ ⟨hM4, _, rfl, ⟨rfl, rfl⟩⟩
      refine ⟨_, _, MLe.refl _, hM4, fun _ h => h, by simp, ?_⟩
      simp only [nA]
      refine dp rfl rfl ?_
      refine jd_e rfl rfl (wBs rfl rfl rfl rfl rfl rfl rfl rfl) ?_; rintro _ _ _ ⟨rfl, rfl⟩
      refine ⟨hM4, by simp, ?_⟩
      refine ep rfl rfl ?_
      refine wEv ?_
      refine jPn (jT (wAe (wCd (rs := [_, _]) ([]) (by exact List.nil_sublist _) rfl (.cons (.agg rfl rfl rfl) (.cons (.tmp rfl) .nil)) ?_)))
      refine ⟨⟨⟨b, w, t, ⟨ca0, (wCw s x.gen).length, cc0⟩, d⟩, x.gen, x.root, x.next, _, rfl, ?_⟩, rfl⟩
      by_cases hc : wHc (wEq s x) = 0
      · exact .inl ⟨decide_eq_true hc, ⟨hct, Classical.not_not.1 h33, hc⟩, hp5.mono hM4, rfl, rfl, rfl⟩
      · exact .inr ⟨decide_eq_false hc, fun ht => hc ht.chk⟩
theorem ftwin_spec (p : Po) (v : Value) (M : Mem) (h : PT M v p) (hst : wCp p.st) (hdl : p.dead.length ≤ 1000000) : SpecL Tryz.prog 31 #[v] M [] fun u M' L' => PT M' u p ∧ L' = [] := by
  obtain ⟨pv, pw, pn, pl, dv, rfl, h1, h2, h3, h4, da, dc, rfl, h5, h6⟩ := h
  exact ftwin_walk p pv pw pn pl da dc M h1 h2 h3 h4 h5 h6 hst hdl
def OpnP (s : Sto) (u : Value) (M' : Mem) : Prop := ∃ (y : V5) (g r n e : Int), u = .tuple #[.agg (pcl y g r n).toArray, .int .i64 e] ∧
  ((e ≠ 0 ∧ y = v5Z ∧ (dkOk s.blocks s.waits → e = 40 ∧ ∀ x ∈ wJs s 4, ¬ TryOk s x)) ∨
   (e = 0 ∧ dkOk s.blocks s.waits ∧ ∃ x, x ∈ wJs s 4 ∧ TryOk s x ∧ (∀ z ∈ wJs s 4, x.gen < z.gen → ¬ TryOk s z) ∧ PT5 M' y (wEq s x) ∧ g = x.gen ∧ r = x.root ∧ n = x.next))
theorem TryOk.st {s : Sto} {x : Su} (h : TryOk s x) : wCp (wEq s x).st := (PoOk.of h.chk).st
theorem mopen_bad (s : Sto) (M : Mem) (b w : Sl) (h1 : LS M b.v s.blocks) (h2 : WS M w.v s.waits) (hdk : ¬ dkOk s.blocks s.waits) :
    SpecL Tryz.prog 11 #[.agg #[b.v, w.v]] M [] fun u M' L' => OpnP s u M' ∧ L' = [] := by
  refine wAf (vs := [_]) 36 _ Tryz.func11 rfl Tryz.ntmps11 rfl rfl ?_; intro W
  refine wAb (wAa (wAw rfl rfl (wCb (cs := [_, _]) rfl rfl rfl rfl) ?_)); rintro _ _ _ ⟨b1, rfl, rfl, rfl⟩
  refine sAl rfl fun b2 => ?_
  refine jp rfl (wAc (jT (wAb (wAa (sLL rfl ?_)))))
  refine wAw rfl rfl (wAn rfl rfl rfl rfl rfl (by kernel_rfl) (rfind_bad s.blocks s.waits b.v w.v M h1 h2 hdk)) ?_; rintro _ M1 _ ⟨hM1, _, rfl, ⟨rfl, rfl⟩⟩
  simp only [nA]
  refine jp rfl (jp rfl (jp rfl (jp rfl (jp rfl (wAc (jT (wAb (wAb (wAa (jp rfl (jt rfl (decide_eq_true (by omega)) ?_)))))))))))
  refine wAc (jT (wAg rfl (wAb (wAa (wAi rfl rfl (wAq (cs := [_, _, _, _, _, _, _, _]) rfl rfl rfl (by rfl)) ?_)))))
  refine jp rfl (sSt rfl ?_)
  refine jp rfl (wAc (jT (wAe (jTr (wCd (rs := [_, _]) ([]) (by exact List.nil_sublist _) rfl (.cons (.agg rfl rfl rfl) (.cons (.tmp rfl) .nil)) ?_)))))
  exact ⟨⟨v5Z, 0, 0, 0, 8, rfl, .inl ⟨by decide, rfl, fun h => absurd h hdk⟩⟩, rfl⟩
set_option maxHeartbeats 2000000 in
theorem mopen_walk (s : Sto) (M : Mem) (b w : Sl) (h1 : LS M b.v s.blocks) (h2 : WS M w.v s.waits) (hdk : dkOk s.blocks s.waits) :
    SpecL Tryz.prog 11 #[.agg #[b.v, w.v]] M [] fun u M' L' => OpnP s u M' ∧ L' = [] := by
  refine wAf (vs := [_]) 36 _ Tryz.func11 rfl Tryz.ntmps11 rfl rfl ?_; intro W
  refine wAb (wAa (wAw rfl rfl (wCb (cs := [_, _]) rfl rfl rfl rfl) ?_)); rintro _ _ _ ⟨b1, rfl, rfl, rfl⟩
  refine sAl rfl fun b2 => ?_
  refine jp rfl (wAc (jT (wAb (wAa (sLL rfl ?_)))))
  refine wAw rfl rfl (wAn rfl rfl rfl rfl rfl (by kernel_rfl) (rfind_spec s b.v w.v M h1 h2 hdk)) ?_; rintro _ M1 _ ⟨hM1, _, rfl, ⟨hfi, rfl⟩⟩
  simp only [nA]
  obtain ⟨v, e, rfl, hfc⟩ := hfi
  refine jp rfl (jp rfl (jp rfl (jp rfl (jp rfl (wAc (jT (wAb (wAb (wAa (jp rfl (js rfl (fun h16 => ?_) (fun h16 => ?_))))))))))))
  · refine wAc ?_
    refine jT (wAg rfl (wAb (wAa (wAi rfl rfl (wAq (cs := [_, _, _, _, _, _, _, _]) rfl rfl rfl (by rfl)) ?_))))
    refine jp rfl (sSt rfl ?_)
    refine jp rfl (wAc (jT (wAe (jTr (wCd (rs := [_, _]) ([]) (by exact List.nil_sublist _) rfl (.cons (.agg rfl rfl rfl) (.cons (.tmp rfl) .nil)) ?_)))))
    obtain ⟨rfl, hf, _⟩ | ⟨h0, _⟩ := hfc
    · exact ⟨⟨v5Z, 0, 0, 0, 40, rfl, .inl ⟨by decide, rfl, fun _ => ⟨rfl, fun x hx => by rw [hf] at hx; cases hx⟩⟩⟩, rfl⟩
    · exact absurd h0 h16
  · refine wAc ?_
    refine jT (wAj rfl (wAd (jT (wAb (wAb ?_)))))
    obtain ⟨rfl, _⟩ | ⟨_, ys, hperm, hdsc, hrs, hni⟩ := hfc
    · exact absurd h16 (by decide)
    have hyl : ys.length ≤ 4 := by rw [← List.length_map (f := (·.1)), hperm.length_eq]; exact fndL_len _ 4
    obtain ⟨ra, rc, rfl, hsm⟩ := hrs
    refine wAa (jp rfl (wAi rfl rfl (wBq rfl rfl rfl) ?_))
    refine jp rfl (wAc (jT (wAh ?_)))
    refine wAr (α := Nat × Mem) (fun y => [(1, .pointer (some ⟨b1, 0, none⟩)), (2, .pointer (some ⟨b2, 0, none⟩)), (19, .slice ra ys.length rc), (20, .int .i64 ys.length), (21, .int .i64 (y.1 : Int))]) (fun y => y.2) (fun _ => [(b2, .cells poZ.toArray 32 (0, 0)), (b1, .cells [b.v, w.v].toArray 25 (0, 0))]) (fun y => y.1 ≤ ys.length ∧ MLe M1 y.2 ∧ ∀ j (hj : j < ys.length), j < y.1 → ¬ TryOk s ys[j].1) (fun y => ys.length - y.1)
      (0, M1) (.cons (t := 1) rfl (.cons (t := 2) rfl (.cons (t := 19) rfl (.cons (t := 20) rfl (.cons (t := 21) rfl .nil))))) ⟨Nat.zero_le _, MLe.refl _, fun j _ h => absurd h (Nat.not_lt_zero _)⟩ (fun _ h => h) ?_
    rintro ⟨k, Mk⟩ ⟨hk, hMk, hno⟩
    try dsimp only at hk hMk hno ⊢
    refine wAb (wAa (js rfl (fun h22 => ?_) (fun h22 => ?_)))
    · refine wAc ?_
      refine jT (wAb (wAg rfl (wAd (jT (wAb (wAh (wAb (wAa ?_))))))))
      have hk1 : k < ys.length := by omega
      obtain ⟨yd, eyd⟩ := (hni ys[k] (List.getElem_mem hk1)).sl
      obtain ⟨rb, ro, e0, hx⟩ := hsm.open (by intro e; have := congrArg List.length e; rw [wAy wDx 5 wFj, List.length_nil] at this; omega)
      subst e0
      refine wAi rfl rfl (wBa rfl rfl rfl rfl (by omega)) ?_
      refine wAi rfl rfl (wEy (cs := suc ys[k].1 yd.v) rfl rfl rfl rfl rfl (fun i v hv => ((wFf wDx 5 wFj hx (List.getElem?_eq_getElem hk1) i v (by rw [← eyd] at hv; exact hv)).mono hMk).cj _)) ?_
      refine sAl rfl fun b7 => ?_
      refine sSt rfl ?_
      refine wAc (jT (wAb (wAa (sLL rfl ?_))))
      refine sLL rfl ?_
      have hmk : ys[k].1 ∈ wJs s 4 := hperm.mem_iff.1 (List.mem_map_of_mem (List.getElem_mem hk1))
      have hrk := fndL_rng hmk
      refine wAw rfl rfl (wAn rfl rfl rfl rfl rfl (by kernel_rfl) (by have ht := try_spec s ys[k].1 Mk b w yd (h1.mono (hM1.trans hMk)) (h2.mono (hM1.trans hMk)) (by rw [← eyd]; exact (hni ys[k] (List.getElem_mem hk1)).mono hMk) hdk hrk.1 (by have := hrk.2.2.2.2.2; omega); exact ht)) ?_; rintro _ M2 _ ⟨hM2, _, rfl, ⟨htp, rfl⟩⟩
      simp only [nA]
      obtain ⟨z, tg, tr, tn, tb, rfl, htc⟩ := htp
      refine jp rfl (jp rfl (jsb rfl (fun h30 => ?_) (fun h30 => ?_)))
      · refine sAl rfl fun b8 => ?_
        refine sSt rfl ?_
        refine jp rfl (wAc (jT (wAb (wAa (jp rfl (wAc (jT (wAg rfl (wAb (wAa (sLL rfl ?_)))))))))))
        obtain ⟨_, hto, hz, rfl, rfl, rfl⟩ | ⟨hb, _⟩ := htc
        rotate_left
        · rw [h30] at hb; cases hb
        refine wAw rfl rfl (wAn rfl rfl rfl rfl rfl (by kernel_rfl) (ftwin_spec (wEq s ys[k].1) _ M2 hz.pt hto.st (by have := hrk.2.2.2.2.2; show ys[k].1.dead.length ≤ 1000000; omega))) ?_; rintro _ M3 _ ⟨hM3, _, rfl, ⟨hpt, rfl⟩⟩
        simp only [nA]
        obtain ⟨q, rfl, hq5⟩ := hpt.five
        refine sSt rfl ?_
        refine jp rfl (wAc (jT (wAe (jBr (jTr (jTr (jBr (jTr (wCd (rs := [_, _]) ([]) (by exact List.nil_sublist _) rfl (.cons (.agg rfl rfl rfl) (.cons (.tmp rfl) .nil)) ?_)))))))))
        refine ⟨⟨q, _, _, _, 0, rfl, .inr ⟨rfl, hdk, ys[k].1, hmk, hto, fun z hz hzg => ?_, hq5, rfl, rfl, rfl⟩⟩, rfl⟩
        obtain ⟨p, hp, rfl⟩ := List.mem_map.1 (hperm.mem_iff.2 hz)
        obtain ⟨j, hj, rfl⟩ := List.mem_iff_getElem.1 hp
        by_cases hjk : j < k
        · exact hno j hj hjk
        · by_cases hje : j = k
          · subst hje; omega
          · have := hdsc k j (by omega) hj hj; omega
      · refine sAl rfl fun b8 => ?_
        refine sSt rfl ?_
        refine jp rfl (wAc (jT (wAb (wAa (jp rfl (wAc (jT (wAj rfl (wAd (jB (jT (wAa (ja rfl (by omega) ?_)))))))))))))
        refine jp rfl (wAc ?_)
        obtain ⟨hb, _⟩ | ⟨_, hto⟩ := htc
        · rw [h30] at hb; cases hb
        refine wAp (k + 1, M2) (.cons (t := 1) rfl (.cons (t := 2) rfl (.cons (t := 19) rfl (.cons (t := 20) rfl (.cons (t := 21) rfl .nil))))) ⟨by show k + 1 ≤ _; omega, hMk.trans hM2, fun j hj hjk => by
          by_cases hjk2 : j = k
          · subst hjk2; exact hto
          · exact hno j hj (by omega)⟩ (by show ys.length - (k + 1) < ys.length - k; omega) (fun w h => h.fewer (.cons _ (.cons _ (.refl _))))
    · refine wAc ?_
      refine jT (wAb (wAj rfl (wAs (jTx (jTx (jBx (jT (wAb (wAa (wAi rfl rfl (wAq (cs := [_, _, _, _, _, _, _, _]) rfl rfl rfl (by rfl)) ?_))))))))))
      refine sSt rfl ?_
      refine jp rfl (wAc (jT (wAe (wCd (rs := [_, _]) ([]) (by exact List.nil_sublist _) rfl (.cons (.agg rfl rfl rfl) (.cons (.tmp rfl) .nil)) ?_))))
      exact ⟨⟨v5Z, 0, 0, 0, 40, rfl, .inl ⟨by decide, rfl, fun _ => ⟨rfl, fun x hx => by
        obtain ⟨p, hp, rfl⟩ := List.mem_map.1 (hperm.mem_iff.2 hx)
        obtain ⟨j, hj, rfl⟩ := List.mem_iff_getElem.1 hp
        exact hno j hj (by omega)⟩⟩⟩, rfl⟩
theorem mopen_spec (s : Sto) (M : Mem) (v : Value) (h : DK M v s.blocks s.waits) : SpecL Tryz.prog 11 #[v] M [] fun u M' L' => OpnP s u M' ∧ L' = [] := by
  obtain ⟨bv, wv, rfl, h1, h2⟩ := h
  obtain ⟨b, rfl⟩ := h1.sl
  obtain ⟨w, rfl⟩ := h2.sl
  by_cases hdk : dkOk s.blocks s.waits
  · exact mopen_walk s M b w h1 h2 hdk
  · exact mopen_bad s M b w h1 h2 hdk
theorem icells_at {M : Mem} {b o : Nat} {xs : List Int} (hx : ∀ i u, (wBj xs)[i]? = some u → CM M b (o + i) u) {k : Nat} (h : k < xs.length) : CM M b (o + k * 1) (.int .i64 xs[k]) := by
 rw [Nat.mul_one]; exact hx k _ (by simp [wBj, h])
theorem wKi (u v : Value) (xs : List By) (M : Mem) (h1 : BS M u xs) (h2 : BS M v xs) : SpecL Tryz.prog 42 #[u, v] M [] fun r _ _ => r = .bool true := (equal_spec u v xs xs M h1 h2).mono fun _ _ _ h => by rw [h]; simp
theorem ieq_spec (u v : Value) (xs : List Int) (M : Mem) (h1 : NI M u xs) (h2 : NI M v xs) (hn : xs.length ≤ 1000000) :
  SpecL Tryz.prog 36 #[u, v] M [] fun r _ _ => r = .bool true := by
 obtain ⟨a1, c1, rfl, _, s1⟩ := h1
 obtain ⟨a2, c2, rfl, _, s2⟩ := h2
 refine wAf (vs := [_, _]) 26 _ Tryz.func36 rfl Tryz.ntmps36 rfl rfl ?_; intro W
 refine wAb (wAa (jp rfl (wAc (jT (wAb (wAb (wAa (jp rfl (wAi rfl rfl (wBq rfl rfl rfl) ?_)))))))))
 refine jp rfl (wAi rfl rfl (wBq rfl rfl rfl) ?_)
 refine jf rfl (decide_eq_false (by omega)) ?_
 refine wAc (jT (wAj rfl (wAd (jT (wAb (wAb (wAa (jp rfl (wAi rfl rfl (wBq rfl rfl rfl) ?_)))))))))
 refine jp rfl (wAc (jT (wAh ?_)))
 refine wAr (α := Nat) (fun k => [(0, .slice a1 xs.length c1), (1, .slice a2 xs.length c2), (11, .slice a1 xs.length c1), (12, .int .i64 xs.length), (13, .int .i64 (k : Int))]) (fun _ => M) (fun _ => []) (fun k => k ≤ xs.length) (fun k => xs.length - k)
  0 (.cons (t := 0) rfl (.cons (t := 1) rfl (.cons (t := 11) rfl (.cons (t := 12) rfl (.cons (t := 13) rfl .nil))))) (Nat.zero_le _) (fun _ h => h) ?_
 rintro k hk
 try dsimp only at hk ⊢
 refine wAb (wAa (js rfl (fun h14 => ?_) (fun h14 => ?_)))
 ·refine wAc (jT (wAb (wAg rfl (wAd (jT (wAb (wAh (wAb (wAa (jp rfl (jp rfl (wAc (jT (wAb (wBn [(0, true), (1, true), (2, true), (3, true), (4, true), (5, true), (6, true), (7, true), (8, true)] _ (by kernel_rfl) (by kernel_rfl) (by kernel_rfl) rfl (fun _ h => h) ?_)))))))))))))))
  iterate 2 refine dp rfl rfl ?_
  have hk1 : k < xs.length := by omega
  obtain ⟨pb, po, e0p, px⟩ := s1.open (by intro e; have := congrArg List.length e; rw [wBm, List.length_nil] at this; omega)
  subst e0p
  refine wBi rfl rfl rfl (wBa rfl rfl rfl rfl (by omega)) ?_
  refine wBi rfl rfl rfl (qLd (v := .int .i64 xs[k]) rfl rfl rfl rfl ((icells_at px hk1).cj _)) ?_
  iterate 2 refine dp rfl rfl ?_
  obtain ⟨qb, qo, e0q, qx⟩ := s2.open (by intro e; have := congrArg List.length e; rw [wBm, List.length_nil] at this; omega)
  subst e0q
  refine wBi rfl rfl rfl (wBa rfl rfl rfl rfl (by omega)) ?_
  refine wBi rfl rfl rfl (qLd (v := .int .i64 xs[k]) rfl rfl rfl rfl ((icells_at qx hk1).cj _)) ?_
  refine df rfl rfl (decide_eq_false (by omega)) ?_
  refine wBg (jPn (jT (wAj rfl (wAd (jB (jT (wAa (ja rfl (by omega) ?_))))))))
  refine jp rfl (wAc ?_)
  refine wAp (k + 1) (.cons (t := 0) rfl (.cons (t := 1) rfl (.cons (t := 11) rfl (.cons (t := 12) rfl (.cons (t := 13) rfl .nil))))) (by omega) (by omega) (fun _ h => h)
 ·refine wAc (jT (wAb (wAj rfl (wAs (jTx (jTx (jBx (jT (wAb (wAa (jp rfl (wAc (jT (wAe (jr1 rfl rfl ?_)))))))))))))))
  rfl
theorem beq_spec (u v : Value) (xs : List (List By)) (M : Mem) (h1 : LS M u xs) (h2 : LS M v xs) (hn : xs.length ≤ 1000000) :
  SpecL Tryz.prog 41 #[u, v, .func (.func 42) #[] #[]] M [] fun r _ _ => r = .bool true := by
 obtain ⟨a1, c1, ps1, rfl, _, s1, p1, q1⟩ := h1
 obtain ⟨a2, c2, ps2, rfl, _, s2, p2, q2⟩ := h2
 refine wAf (vs := [_, _, _]) 32 _ Tryz.func41 rfl Tryz.ntmps41 rfl rfl ?_; intro W
 refine wAb (wAa (jp rfl (wAc (jT (wAb (wAb (wAa (jp rfl (wAi rfl rfl (wBq rfl rfl rfl) ?_)))))))))
 refine jp rfl (wAi rfl rfl (wBq rfl rfl rfl) ?_)
 refine jf rfl (decide_eq_false (by omega)) ?_
 refine wAc (jT (wAj rfl (wAd (jT (wAb (wAb (wAa (jp rfl (wAi rfl rfl (wBq rfl rfl rfl) ?_)))))))))
 refine jp rfl (wAc (jT (wAh ?_)))
 refine wAr (α := Nat) (fun k => [(0, .slice a1 xs.length c1), (1, .slice a2 xs.length c2), (2, .func (.func 42) #[] #[]), (15, .slice a1 xs.length c1), (16, .int .i64 xs.length), (17, .int .i64 (k : Int))]) (fun _ => M) (fun _ => []) (fun k => k ≤ xs.length) (fun k => xs.length - k)
  0 (.cons (t := 0) rfl (.cons (t := 1) rfl (.cons (t := 2) rfl (.cons (t := 15) rfl (.cons (t := 16) rfl (.cons (t := 17) rfl .nil)))))) (Nat.zero_le _) (fun _ h => h) ?_
 rintro k hk
 try dsimp only at hk ⊢
 refine wAb (wAa (js rfl (fun h18 => ?_) (fun h18 => ?_)))
 ·refine wAc (jT (wAb (wAg rfl (wAd (jT (wAb (wAh (wAb (wAa (jp rfl ?_))))))))))
  have hk1 : k < xs.length := by omega
  obtain ⟨pb, po, e0p, px⟩ := s1.open (by intro e; have := congrArg List.length e; rw [List.length_map, List.length_nil] at this; have h2 := congrArg List.length p1; rw [List.length_map] at h2; omega)
  subst e0p
  obtain ⟨pa, pc, pp1, pp2, pp3⟩ := wCn px p1 q1 hk1
  refine wAi rfl rfl (wBa rfl rfl rfl rfl (by omega)) ?_
  refine wAi rfl rfl (qLd rfl rfl rfl rfl (pp1.cj _)) ?_
  refine jp rfl (jp rfl (wAc (jT (wAb (wAa (jp rfl (jp rfl ?_)))))))
  obtain ⟨qb, qo, e0q, qx⟩ := s2.open (by intro e; have := congrArg List.length e; rw [List.length_map, List.length_nil] at this; have h2 := congrArg List.length p2; rw [List.length_map] at h2; omega)
  subst e0q
  obtain ⟨qa, qc, qq1, qq2, qq3⟩ := wCn qx p2 q2 hk1
  refine wAi rfl rfl (wBa rfl rfl rfl rfl (by omega)) ?_
  refine wAi rfl rfl (qLd rfl rfl rfl rfl (qq1.cj _)) ?_
  refine jp rfl (wAc (jT (wAb (wAa (jp rfl (jp rfl (jp rfl (wAi rfl rfl (wBf rfl rfl rfl rfl rfl (by kernel_rfl) (wKi _ _ xs[k] M ⟨_, _, rfl, pp2, pp3⟩ ⟨_, _, rfl, qq2, qq3⟩)) ?_))))))))
  refine jp rfl (wAc (jT (wAj rfl (wAd (jB (jT (wAa (ja rfl (by omega) ?_))))))))
  refine jp rfl (wAc ?_)
  refine wAp (k + 1) (.cons (t := 0) rfl (.cons (t := 1) rfl (.cons (t := 2) rfl (.cons (t := 15) rfl (.cons (t := 16) rfl (.cons (t := 17) rfl .nil)))))) (by omega) (by omega) (fun _ h => h)
 ·refine wAc (jT (wAb (wAj rfl (wAs (jTx (jTx (jBx (jT (wAb (wAa (jp rfl (wAc (jT (wAe (jr1 rfl rfl ?_)))))))))))))))
  rfl
theorem weq1_spec (w : Wt) (a1 a2 : Option Addr) (c1 c2 : Nat) (M : Mem) (h1 : BS M (.slice a1 w.2.length c1) w.2) (h2 : BS M (.slice a2 w.2.length c2) w.2) :
  SpecL Tryz.prog 44 #[.agg (wtc w a1 c1).toArray, .agg (wtc w a2 c2).toArray] M [] fun r M' L' => r = .bool true ∧ L' = [] := by
 refine wAf (vs := [_, _]) 17 _ Tryz.func44 rfl Tryz.ntmps44 rfl rfl ?_; intro W
 refine wAb (wAa (wAw rfl rfl (wCb (cs := wtc w a1 c1) rfl rfl rfl rfl) ?_)); rintro _ _ _ ⟨b2, rfl, rfl, rfl⟩
 refine wAw rfl rfl (wCb (cs := wtc w a2 c2) rfl rfl rfl rfl) ?_; rintro _ _ _ ⟨b3, rfl, rfl, rfl⟩
 refine jp rfl (wAc (jT (wAb (wAa (sFL rfl rfl ?_)))))
 refine sFL rfl rfl ?_
 refine jt rfl (decide_eq_true (by omega)) ?_
 refine jp rfl (sFL rfl rfl ?_)
 refine sFL rfl rfl ?_
 refine wAi rfl rfl (wBf rfl rfl rfl rfl rfl (by kernel_rfl) (wKi _ _ w.2 M h1 h2)) ?_
 refine jp rfl (jp rfl (wAc (jT (wAe (wAv (L' := []) (List.nil_sublist _) ?_)))))
 refine jr1 rfl rfl ?_
 exact ⟨rfl, rfl⟩
theorem weq_spec (u v : Value) (xs : List Wt) (M : Mem) (h1 : WS M u xs) (h2 : WS M v xs) (hn : xs.length ≤ 1000000) :
  SpecL Tryz.prog 43 #[u, v, .func (.func 44) #[] #[]] M [] fun r M' L' => r = .bool true ∧ L' = [] := by
 obtain ⟨a1, c1, ps1, rfl, _, s1, p1, q1⟩ := h1
 obtain ⟨a2, c2, ps2, rfl, _, s2, p2, q2⟩ := h2
 refine wAf (vs := [_, _, _]) 32 _ Tryz.func43 rfl Tryz.ntmps43 rfl rfl ?_; intro W
 refine wAb (wAa (jp rfl (wAc (jT (wAb (wAb (wAa (jp rfl (wAi rfl rfl (wBq rfl rfl rfl) ?_)))))))))
 refine jp rfl (wAi rfl rfl (wBq rfl rfl rfl) ?_)
 refine jf rfl (decide_eq_false (by omega)) ?_
 refine wAc (jT (wAj rfl (wAd (jT (wAb (wAb (wAa (jp rfl (wAi rfl rfl (wBq rfl rfl rfl) ?_)))))))))
 refine jp rfl (wAc (jT (wAh ?_)))
 refine wAr (α := Nat × Mem) (fun y => [(0, .slice a1 xs.length c1), (1, .slice a2 xs.length c2), (2, .func (.func 44) #[] #[]), (15, .slice a1 xs.length c1), (16, .int .i64 xs.length), (17, .int .i64 (y.1 : Int))]) (fun y => y.2) (fun _ => []) (fun y => y.1 ≤ xs.length ∧ MLe M y.2) (fun y => xs.length - y.1)
  (0, M) (.cons (t := 0) rfl (.cons (t := 1) rfl (.cons (t := 2) rfl (.cons (t := 15) rfl (.cons (t := 16) rfl (.cons (t := 17) rfl .nil)))))) ⟨Nat.zero_le _, MLe.refl _⟩ (fun _ h => h) ?_
 rintro ⟨k, Mk⟩ ⟨hk, hMk⟩
 try dsimp only at hk hMk ⊢
 refine wAb (wAa (js rfl (fun h18 => ?_) (fun h18 => ?_)))
 ·refine wAc (jT (wAb (wAg rfl (wAd (jT (wAb (wAh (wAb (wAa (jp rfl ?_))))))))))
  have hk1 : k < xs.length := by omega
  obtain ⟨pb, po, e0p, px⟩ := s1.open (by intro e; have := congrArg List.length e; rw [wAy wCf 2 wCc, List.length_nil] at this; have h2 := congrArg List.length p1; rw [List.length_map] at h2; omega)
  subst e0p
  obtain ⟨pa, pc, pp1, pp2, pp3⟩ := wDw px p1 q1 hk1
  refine wAi rfl rfl (wBa rfl rfl rfl rfl (by omega)) ?_
  refine wAi rfl rfl (wEy (cs := wtc xs[k] pa pc) rfl rfl rfl rfl rfl (fun i v hv => ((pp1 i v hv).mono hMk).cj _)) ?_
  refine sAl rfl fun b8 => ?_
  refine jp rfl (sSt rfl ?_)
  refine wAc (jT (wAb (wAa (jp rfl (jp rfl ?_)))))
  obtain ⟨qb, qo, e0q, qx⟩ := s2.open (by intro e; have := congrArg List.length e; rw [wAy wCf 2 wCc, List.length_nil] at this; have h2 := congrArg List.length p2; rw [List.length_map] at h2; omega)
  subst e0q
  obtain ⟨qa, qc, qq1, qq2, qq3⟩ := wDw qx p2 q2 hk1
  refine wAi rfl rfl (wBa rfl rfl rfl rfl (by omega)) ?_
  refine wAi rfl rfl (wEy (cs := wtc xs[k] qa qc) rfl rfl rfl rfl rfl (fun i v hv => ((qq1 i v hv).mono hMk).cj _)) ?_
  refine sAl rfl fun b9 => ?_
  refine sSt rfl ?_
  refine wAc (jT (wAb (wAa (jp rfl (sLL rfl ?_)))))
  refine sLL rfl ?_
  refine wAw rfl rfl (wAn rfl rfl rfl rfl rfl (by kernel_rfl) (weq1_spec xs[k] _ _ _ _ Mk ⟨_, _, rfl, pp2, pp3.mono hMk⟩ ⟨_, _, rfl, qq2, qq3.mono hMk⟩)) ?_; rintro _ M2 _ ⟨hM2, _, rfl, ⟨rfl, rfl⟩⟩
  simp only [nA]
  refine jp rfl (wAc (jT (wAj rfl (wAd (jB (jT (wAa (ja rfl (by omega) ?_))))))))
  refine jp rfl (wAc ?_)
  refine wAp (k + 1, M2) (.cons (t := 0) rfl (.cons (t := 1) rfl (.cons (t := 2) rfl (.cons (t := 15) rfl (.cons (t := 16) rfl (.cons (t := 17) rfl .nil)))))) ⟨by show k + 1 ≤ _; omega, hMk.trans hM2⟩ (by show xs.length - (k + 1) < xs.length - k; omega) (fun w h => h.fewer (.cons _ (.cons _ (.refl _))))
 ·refine wAc (jT (wAb (wAj rfl (wAs (jTx (jTx (jBx (jT (wAb (wAa (jp rfl (wAc (jT (wAe (wAv (L' := []) (List.nil_sublist _) ?_)))))))))))))))
  refine jr1 rfl rfl ?_
  exact ⟨rfl, rfl⟩
theorem dsame_spec (b w e f : Sl) (bs : List (List By)) (ws : List Wt) (M : Mem) (h1 : LS M b.v bs) (h2 : WS M w.v ws) (h3 : LS M e.v bs) (h4 : WS M f.v ws) (hdk : dkOk bs ws) :
  SpecL Tryz.prog 18 #[.agg #[b.v, w.v], .agg #[e.v, f.v]] M [] fun r M' L' => r = .bool true ∧ L' = [] := by
 refine wAf (vs := [_, _]) 17 _ Tryz.func18 rfl Tryz.ntmps18 rfl rfl ?_; intro W
 refine wAb (wAa (wAw rfl rfl (wCb (cs := [_, _]) rfl rfl rfl rfl) ?_)); rintro _ _ _ ⟨b2, rfl, rfl, rfl⟩
 refine wAw rfl rfl (wCb (cs := [_, _]) rfl rfl rfl rfl) ?_; rintro _ _ _ ⟨b3, rfl, rfl, rfl⟩
 refine jp rfl (wAc (jT (wAb (wAa (sFL rfl rfl ?_)))))
 refine sFL rfl rfl ?_
 refine wAi rfl rfl (wBf rfl rfl rfl rfl rfl (by kernel_rfl) (beq_spec b.v e.v bs M h1 h3 (by have := hdk.1; omega))) ?_
 refine jp rfl (sFL rfl rfl ?_)
 refine sFL rfl rfl ?_
 refine wAw rfl rfl (wAn rfl rfl rfl rfl rfl (by kernel_rfl) (weq_spec w.v f.v ws M h2 h4 (by have := hdk.2.1; omega))) ?_; rintro _ M2 _ ⟨hM2, _, rfl, ⟨rfl, rfl⟩⟩
 simp only [nA]
 refine jp rfl (jp rfl (wAc (jT (wAe (wAv (L' := []) (List.nil_sublist _) ?_)))))
 refine jr1 rfl rfl ?_
 exact ⟨rfl, rfl⟩
theorem rsame_spec (b w n l e f g h : Sl) (s : Sto) (M : Mem) (h1 : LS M b.v s.blocks) (h2 : WS M w.v s.waits) (hn : BS M n.v s.now) (hl : BS M l.v s.last) (h3 : LS M e.v s.blocks) (h4 : WS M f.v s.waits) (hn2 : BS M g.v s.now) (hl2 : BS M h.v s.last) (hdk : dkOk s.blocks s.waits) :
  SpecL Tryz.prog 35 #[.agg #[b.v, w.v, n.v, l.v], .agg #[e.v, f.v, g.v, h.v]] M [] fun r M' L' => r = .bool true ∧ L' = [] := by
 refine wAf (vs := [_, _]) 24 _ Tryz.func35 rfl Tryz.ntmps35 rfl rfl ?_; intro W
 refine wAb (wAa (wAw rfl rfl (wCb (cs := [_, _, _, _]) rfl rfl rfl rfl) ?_)); rintro _ _ _ ⟨b2, rfl, rfl, rfl⟩
 refine wAw rfl rfl (wCb (cs := [_, _, _, _]) rfl rfl rfl rfl) ?_; rintro _ _ _ ⟨b3, rfl, rfl, rfl⟩
 refine jp rfl (wAc (jT (wAb (wAa (sFa rfl ?_)))))
 refine sLL rfl ?_
 refine sFa rfl ?_
 refine sLL rfl ?_
 refine wAw rfl rfl (wAn rfl rfl rfl rfl rfl (by kernel_rfl) (dsame_spec b w e f s.blocks s.waits M h1 h2 h3 h4 hdk)) ?_; rintro _ M2 _ ⟨hM2, _, rfl, ⟨rfl, rfl⟩⟩
 simp only [nA]
 refine jp rfl (sFL rfl rfl ?_)
 refine sFL rfl rfl ?_
 refine wAi rfl rfl (wBf rfl rfl rfl rfl rfl (by kernel_rfl) (wKi n.v g.v s.now M2 (hn.mono hM2) (hn2.mono hM2))) ?_
 refine jp rfl (jp rfl (sFL rfl rfl ?_))
 refine sFL rfl rfl ?_
 refine wAi rfl rfl (wBf rfl rfl rfl rfl rfl (by kernel_rfl) (wKi l.v h.v s.last M2 (hl.mono hM2) (hl2.mono hM2))) ?_
 refine jp rfl (jp rfl (wAc (jT (wAe (wAv (L' := []) (List.nil_sublist _) ?_)))))
 refine jr1 rfl rfl ?_
 exact ⟨rfl, rfl⟩
theorem fsame_spec (x y : V5) (p : Po) (M : Mem) (h1 : PT5 M x p) (h2 : PT5 M y p) (hdk : dkOk p.st.blocks p.st.waits) (hdl : p.dead.length ≤ 1000000) :
  SpecL Tryz.prog 12 #[.agg (pcl x p.gen p.root p.next).toArray, .agg (pcl y p.gen p.root p.next).toArray] M [] fun r M' L' => r = .bool true ∧ L' = [] := by
 refine wAf (vs := [_, _]) 38 _ Tryz.func12 rfl Tryz.ntmps12 rfl rfl ?_; intro W
 refine wAb (wAa (wAw rfl rfl (wCb (cs := [_, _, _, _, _, _, _, _]) rfl rfl rfl rfl) ?_)); rintro _ _ _ ⟨b2, rfl, rfl, rfl⟩
 refine wAw rfl rfl (wCb (cs := [_, _, _, _, _, _, _, _]) rfl rfl rfl rfl) ?_; rintro _ _ _ ⟨b3, rfl, rfl, rfl⟩
 refine jp rfl (wAc (jT (wAb (wAa (sFa rfl ?_)))))
 refine sLL rfl ?_
 refine sFa rfl ?_
 refine sLL rfl ?_
 refine wAw rfl rfl (wAn rfl rfl rfl rfl rfl (by kernel_rfl) (rsame_spec x.b x.w x.n x.l y.b y.w y.n y.l p.st M h1.b h1.w h1.n h1.l h2.b h2.w h2.n h2.l hdk)) ?_; rintro _ M2 _ ⟨hM2, _, rfl, ⟨rfl, rfl⟩⟩
 simp only [nA]
 refine jp rfl (sFL rfl rfl ?_)
 refine sFL rfl rfl ?_
 refine jt rfl (decide_eq_true (by omega)) ?_
 refine jp rfl (jp rfl (sFL rfl rfl ?_))
 refine sFL rfl rfl ?_
 refine jt rfl (decide_eq_true (by omega)) ?_
 refine jp rfl (jp rfl (sFL rfl rfl ?_))
 refine sFL rfl rfl ?_
 refine jt rfl (decide_eq_true (by omega)) ?_
 refine jp rfl (jp rfl (sFL rfl rfl ?_))
 refine sFL rfl rfl ?_
 refine wAi rfl rfl (wBf rfl rfl rfl rfl rfl (by kernel_rfl) (ieq_spec x.d.v y.d.v p.dead M2 (h1.d.mono hM2) (h2.d.mono hM2) hdl)) ?_
 refine jp rfl (jp rfl (wAc (jT (wAe (wAv (L' := []) (List.nil_sublist _) ?_)))))
 refine jr1 rfl rfl ?_
 exact ⟨rfl, rfl⟩
end Go.Proofs.YtoincdcejjdgkaaGreat
