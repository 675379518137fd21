/- Walks: an item put in. No statement of the seat is proved here. -/
import Derived.Test.YtoincdcejjdgkaaGreatZAsk
import Derived.Test.YtoincdcejjdgkaaGreatZNdr
namespace Go.Proofs.YtoincdcejjdgkaaGreat
set_option linter.unusedVariables false
set_option linter.unusedSimpArgs false
open Go.RowKit
theorem getN_range (xs : List By) (a n : Nat) : 0 ≤ wHi xs a n ∧ wHi xs a n < 4294967296 := wFw _
theorem rdX_key (xs : List By) : wJn (rdX xs).key := by
 have := (xs.getD 0 0).toNat_lt
 exact ⟨⟨by show (0 : Int) ≤ ((xs.getD 0 0).toNat : Int); omega, by show ((xs.getD 0 0).toNat : Int) < 256; omega⟩, getN_range _ _ _, getN_range _ _ _⟩
theorem rdItems_key : ∀ {n : Nat} {r : List By} {acc : List It} {out : List It × List By}, wDg n r acc = some out → (∀ x ∈ acc, wJn x.key) → ∀ x ∈ out.1, wJn x.key
 | 0, r, acc, out, h, ha => by rw [wDg] at h; cases h; exact ha
 | n + 1, r, acc, out, h, ha => by
  rw [wDg] at h
  split at h
  ·refine rdItems_key h fun x hx => ?_
   rcases List.mem_append.1 hx with hx | hx
   ·exact ha x hx
   ·rw [List.mem_singleton.1 hx]; exact rdX_key _
  ·cases h
theorem ndAt_key {s : Sto} {k : Nat} {lv : Int} {xs : List It} (h : wCa s k = some (lv, xs)) : ∀ x ∈ xs, wJn x.key := by
 unfold wCa at h
 split at h
 ·cases h
 ·unfold wFc at h
  split at h
  ·split at h
   ·split at h
    ·rename_i ys r hr
     split at h
     ·cases h; exact rdItems_key hr (fun _ h => by cases h)
     ·cases h
    ·cases h
   ·cases h
  ·cases h
theorem way_facts {s : Sto} {q : Ky} : ∀ {l : Nat} {xs : List It} {k : Nat}, wCa s k = some ((l : Int), xs) → wCx s l xs → ∀ w ∈ wJa s q l xs, (∃ j, wCa s j = some (w.lv, w.xs)) ∧ w.at_ ≤ w.xs.length ∧ (w.lv ≠ 0 → w.at_ < w.xs.length)
 | 0, xs, k, hnd, ht, w, hw => by
  rw [wJa] at hw
  rw [List.mem_singleton.1 hw]
  exact ⟨⟨k, hnd⟩, place_le _ _, fun h => absurd rfl h⟩
 | l + 1, xs, k, hnd, ht, w, hw => by
  have hne := ndAt_ne hnd (by omega)
  have hw2 := wAt_lt (q := q) hne
  rw [wJa, List.getElem?_eq_getElem hw2] at hw
  rcases List.mem_cons.1 hw with rfl | hw
  ·exact ⟨⟨k, hnd⟩, by show wAt xs q ≤ xs.length; omega, fun _ => hw2⟩
  ·obtain ⟨ys, h1, _, h3⟩ := wGv ht (List.getElem_mem hw2)
   have hkid : kid s xs[wAt xs q] = ys := by unfold kid; rw [h1]
   change w ∈ wJa s q l (kid s xs[wAt xs q]) at hw
   rw [hkid] at hw
   exact way_facts h1 h3 w hw
theorem way_len {s : Sto} {q : Ky} : ∀ (l : Nat) (xs : List It), (wJa s q l xs).length = l + 1
 | 0, _ => rfl
 | l + 1, xs => by rw [wJa, List.length_cons, way_len l]
theorem bw_at {α : Type} {ps : List α} {pre : List (α × Nat)} {y : α × Nat} (h : pre ++ [y] <+: bw ps 0) : ∃ h : pre.length < ps.length, y.1 = ps[ps.length - 1 - pre.length] := by
 obtain ⟨r, hr⟩ := h
 have hl := congrArg List.length hr
 rw [wHn, List.length_append, List.length_append, List.length_singleton] at hl
 have hlt : pre.length < ps.length := by omega
 refine ⟨hlt, ?_⟩
 have e := congrArg (fun l => (l.map (·.1))[pre.length]?) hr
 simp only [bw_fst, List.map_append, List.map_cons, List.map_nil] at e
 rw [List.append_assoc, List.getElem?_append_right (by simp), List.getElem?_reverse (by omega)] at e
 simp only [List.length_map, Nat.sub_self] at e
 have e2 : some y.1 = ps[ps.length - 1 - pre.length]? := e
 rw [List.getElem?_eq_getElem (by omega)] at e2
 exact Option.some.inj e2
def UpOk (up : List It) : Prop := ∀ y ∈ up, (0 ≤ y.ref ∧ (y.ref = 0 ∨ 8 ≤ y.ref) ∧ y.ref < 256) ∧ wJn y.key
theorem mkP_up {lv : Int} : ∀ {ps : List (List It)} {s t : Sto} {up0 up : List It}, wCp s → mkP lv ps s up0 = .ok (t, up) → (∀ p ∈ ps, p ≠ [] ∧ ∀ x ∈ p, wJn x.key) → UpOk up0 → wCp t ∧ up.length = up0.length + ps.length ∧ UpOk up
 | [], s, t, up0, up, hst, h, _, h0 => by rw [mkP] at h; cases h; exact ⟨hst, rfl, h0⟩
 | p :: ps, s, t, up0, up, hst, h, hk, h0 => by
  rw [mkP] at h
  split at h
  ·rename_i he
   have hmo := mkE_ok he hst.1.2.1
   obtain ⟨h1, h2, h3⟩ := mkP_up (mkS_ok hst hmo.1 hmo.2.2.1 hmo.2.2.2) h (fun p hp => hk p (by simp [hp])) (fun y hy => by
    rcases List.mem_append.1 hy with hy | hy
    ·exact h0 y hy
    ·rw [List.mem_singleton.1 hy]
     have h8 : 8 ≤ wGh (wBb s p) := frAt_ge _ _ _
     obtain ⟨hne, hkp⟩ := hk p (by simp)
     obtain ⟨z, zs, rfl⟩ := List.exists_cons_of_ne_nil hne
     refine ⟨⟨?_, .inr ?_, ?_⟩, hkp z (by simp)⟩
     ·show (0 : Int) ≤ (wGh (wBb s (z :: zs)) : Int); omega
     ·show (8 : Int) ≤ (wGh (wBb s (z :: zs)) : Int); omega
     ·show (wGh (wBb s (z :: zs)) : Int) < 256; omega)
   refine ⟨h1, ?_, h3⟩
   rw [h2, List.length_append, List.length_singleton, List.length_cons]; omega
  ·cases h
theorem build_up {s t : Sto} {lv : Int} {l held up : List It} (hst : wCp s) (h : build s lv l held = .ok (t, up)) (hl : l ≠ []) (hk : ∀ x ∈ l, wJn x.key) : up.length = (if 5 < l.length then 2 else 1) ∧ UpOk up := by
 unfold build at h
 split at h
 ·cases h
 ·rename_i t1 up1 h1
  split at h
  ·cases h
  ·cases h
   obtain ⟨_, h2, h3⟩ := mkP_up hst h1 (fun p hp => ⟨(parts_mem hp).2 hl, fun x hx => hk x ((parts_mem hp).1 x hx)⟩) (fun _ h => by cases h)
   exact ⟨by rw [h2, parts_len, List.length_nil, Nat.zero_add], h3⟩
theorem grw_err {s : Sto} {x : It} {e : Int} : ∀ {ws : List Stp} (k : Nat), grw s x (ws.drop k) = .error e → grw s x ws = .error e
 | ws, 0, h => by simpa using h
 | [], k + 1, h => by simpa using h
 | w :: ws, k + 1, h => by
  rw [List.drop_succ_cons] at h
  rw [grw, grw_err k h]
theorem repF_ne {w : Stp} {q : Ky} {up : List It} (h : up ≠ []) : repF w q up ≠ [] := fun e => by
 unfold repF at e
 have := List.append_eq_nil_iff.1 e
 exact h (List.append_eq_nil_iff.1 this.1).2
theorem repF_mem {w : Stp} {q : Ky} {up : List It} {y : It} (h : y ∈ repF w q up) : y ∈ w.xs ∨ y ∈ up := by
 unfold repF at h
 rcases List.mem_append.1 h with h | h
 ·rcases List.mem_append.1 h with h | h
  ·exact .inl (List.mem_of_mem_take h)
  ·exact .inr h
 ·exact .inl (List.mem_of_mem_drop h)
theorem repF_len (w : Stp) (q : Ky) (up : List It) : (repF w q up).length ≤ w.xs.length + up.length := by
 unfold repF; simp only [List.length_append, List.length_take, List.length_drop]; omega
def UF (M : Mem) (v : Value) (up : List It) : Prop := ∃ b c, ∃ ps : List Ir, ∃ vl e, v = .slice (some ⟨b, 0, none⟩) up.length c ∧ up.length ≤ c ∧ M b = some (.cells (ps.flatMap wBc ++ vl).toArray e (0, 0)) ∧ ps.map (·.1) = up ∧ ∀ p ∈ ps, BS M p.2 p.1.val
theorem UF.mono {M M' : Mem} {v : Value} {up : List It} (h : UF M v up) (hM : MLe M M') : UF M' v up := by
 obtain ⟨b, c, ps, vl, e, h1, h2, h3, h4, h5⟩ := h; exact ⟨b, c, ps, vl, e, h1, h2, hM _ _ h3, h4, fun p hp => (h5 p hp).mono hM⟩
theorem UF.ns {M : Mem} {v : Value} {up : List It} (h : UF M v up) : NS M v up := by
 obtain ⟨b, c, ps, vl, e, h1, h2, h3, h4, h5⟩ := h
 exact ⟨_, c, ps, h1, h2, .inr ⟨b, 0, rfl, fun i u hu => ⟨_, _, _, h3, by
  have hi := (List.getElem?_eq_some_iff.1 hu).1
  rw [Nat.zero_add, List.getElem?_toArray, List.getElem?_append_left hi]; exact hu⟩⟩, h4, h5⟩
theorem up_uf {M : Mem} {g cap : Nat} {cur : Array Value} {up : List It} (hM : M g = some (.cells cur IT (0, 0))) (hc : up.length ≤ cap) (ht : cur.toList.take (up.length * 5) = up.flatMap ucell) (hv : ∀ x ∈ up, x.val = []) : UF M (.slice (some ⟨g, 0, none⟩) up.length cap) up := by
 refine ⟨g, cap, up.map (fun x => (x, .slice none 0 0)), cur.toList.drop (up.length * 5), IT, rfl, hc, ?_, by rw [List.map_map]; exact List.map_id _, fun p hp => ?_⟩
 ·rw [hM, List.flatMap_map, show (up.flatMap fun x => wBc (x, .slice none 0 0)) = up.flatMap ucell from rfl, ← ht, List.take_append_drop]
 ·obtain ⟨x, hx, rfl⟩ := List.mem_map.1 hp
  exact ⟨none, 0, by rw [hv x hx]; rfl, by rw [hv x hx]; exact Nat.le_refl _, by rw [hv x hx]; exact .inl rfl⟩
theorem BdPost.form {r : Except Int (Sto × List It)} {bb : Nat} {Lb : Lc} {u : Value} {M' : Mem} {L' : Lc} (h : BdPost r bb Lb u M' L') : ∃ a n c e, u = .tuple #[.slice a n c, .int .i64 e] ∧ ((e ≠ 0 ∧ r = .error e) ∨ (e = 0 ∧ ∃ t up Ru Lb', r = .ok (t, up) ∧ n = up.length ∧ L' = Ru ++ Lb' ∧ wCp t ∧ BOwn M' bb Lb' t ∧ Own (.slice a up.length c) Ru IT 5 up.length (up.flatMap ucell) ∧ (∀ x ∈ up, x.val = []) ∧ ∀ p ∈ Ru, p.1 ∉ Lb.map (·.1))) := by
 unfold BdPost at h
 split at h
 ·exact ⟨none, 0, 0, _, h.2, .inl ⟨h.1, rfl⟩⟩
 ·obtain ⟨a, c, Ru, Lb', h1, h2, h3, h4, h5, h6, h7⟩ := h
  exact ⟨a, _, c, 0, h1, .inr ⟨rfl, _, _, Ru, Lb', rfl, rfl, h2, h3, h4, h5, h6, h7⟩⟩
theorem LvPost.form {s : Sto} {root : Int} {bb : Nat} {u : Value} {M' : Mem} {L' : Lc} (h : LvPost s root bb u M' L') : ∃ e : Int, u = .int .i64 e ∧ ((e = 8 ∧ leave s root = none) ∨ (e = 0 ∧ ∃ t, leave s root = some t ∧ wCp t ∧ BOwn M' bb L' t)) := by
 rcases h with ⟨h1, h2⟩ | ⟨t, h1, h2, h3, h4⟩
 ·exact ⟨8, h2, .inl ⟨rfl, h1⟩⟩
 ·exact ⟨0, h2, .inr ⟨rfl, t, h1, h3, h4⟩⟩
def zeroSt : List Value := [.slice none 0 0, .slice none 0 0, .slice none 0 0, .slice none 0 0]
theorem putAsk_ok {s : Sto} {root : Int} {x : It} (h : wHa s root x = 0) : (wGo s root).2 = 0 ∧ wEw x = 0 ∧ (x.ref ≠ 0 → ¬ s.now.getD x.ref.toNat 0 = 0) := by
 unfold wHa at h
 by_cases h1 : (wGo s root).2 = 0
 ·rw [if_pos h1] at h
  by_cases h2 : wEw x = 0
  ·rw [if_pos h2] at h
   refine ⟨h1, h2, fun h3 h4 => ?_⟩
   rw [if_pos ⟨h3, h4⟩] at h; cases h
  ·rw [if_neg h2] at h; cases h
 ·rw [if_neg h1] at h; exact absurd h h1
theorem key_ne {a b : Ky} (h : decide (¬ [a.kind, a.id, a.off] = [b.kind, b.id, b.off]) = true) : a ≠ b := fun e => by rw [e] at h; exact of_decide_eq_true h rfl
theorem key_same {a b : Ky} (h : decide (¬ [a.kind, a.id, a.off] = [b.kind, b.id, b.off]) = false) (hn : a ≠ b) : False := by
 have := Classical.not_not.1 (of_decide_eq_false h)
 simp only [List.cons.injEq, and_true] at this
 obtain ⟨a1, a2, a3⟩ := a
 obtain ⟨b1, b2, b3⟩ := b
 simp only at this
 obtain ⟨rfl, rfl, rfl⟩ := this
 exact hn rfl
theorem rep_both (ps vs : List Ir) (i m : Nat) (hi : i + m ≤ ps.length) (hm1 : m ≤ 1) (sa : Option Addr) (sc : Nat) (R : Lc) (hown : Own (.slice sa ps.length sc) R IT 5 ps.length (ps.flatMap wBc)) (hpo : ∀ x ∈ ps, x.2.oneCell' = true) (vb vc : Nat) (vl : List Value) (ve : TypeId) (M : Mem) (hvb : M vb = some (.cells (vs.flatMap wBc ++ vl).toArray ve (0, 0))) (hvo : ∀ x ∈ vs, x.2.oneCell' = true) (hm : 0 < vs.length) (hbig : ps.length + vs.length ≤ 100000) :
  SpecL Tryz.prog 111 #[.slice sa ps.length sc, .int .i64 i, .int .i64 ((i + m : Nat) : Int), .slice (some ⟨vb, 0, none⟩) vs.length vc] M R fun u _ L' => Own u L' IT 5 (ps.length - m + vs.length) ((ps.take i ++ vs ++ ps.drop (i + m)).flatMap wBc) := by
 have hpc : ps.length ≤ sc := by
  rcases hown.2 with ⟨e, h, _⟩ | ⟨_, _, _, e, _, h, _⟩
  ·omega
  ·simp only [Value.slice.injEq] at e; omega
 rcases Nat.lt_or_ge 0 m with h | h
 ·obtain rfl : m = 1 := by omega
  exact rep_spec ps vs i (by omega) sa sc R hown hpo vb vc vl ve M hvb hvo hm hbig
 ·obtain rfl : m = 0 := by omega
  exact rep_none ps vs i (by omega) sa sc R hown hpo hpc vb vc vl ve M hvb hvo hm hbig
theorem jc_bench {P : Program} {N : Fs} {c : Code} {F : Fr} {W : World} {X : List Nat} {M0 M : Mem} {L L2 Lb : Lc} {Q : Exit → Act → World → Prop} {bb : Nat} {s : Sto} (hB : BOwn M bb Lb s) [hp : Pick Lb L L2] (hg : ∀ p ∈ Lb, p.1 ∉ X)
  (h : ∀ M' bv wv nv lv, MLe M M' → M' bb = some (.cells [bv, wv, nv, lv].toArray TBn (0, 0)) → LS M' bv s.blocks → WS M' wv s.waits → BS M' nv s.now → BS M' lv s.last → JC P N c F ⟨W, X, M0⟩ M' L2 Q) : JC P N c F ⟨W, X, M0⟩ M L Q := by
 obtain ⟨bv, wv, na, nc, lv, Rw, Rn, rfl, g2, g3, g4, wps, hw1, hw2, hw3⟩ := hB
 refine wJo (M' := M) (L' := (bb, .cells [bv, wv, .slice na s.now.length nc, lv].toArray TBn (0, 0)) :: (Rw ++ (Rn ++ L2))) (fun w hw => by have := hw.perm hp.perm; rwa [List.cons_append, List.append_assoc] at this) ?_
 have fin : ∀ (M1 : Mem) (wv' : Value), MLe M M1 → wv' = wv → WS M1 wv' s.waits → JC P N c F ⟨W, X, M0⟩ M1 ((bb, .cells [bv, wv, .slice na s.now.length nc, lv].toArray TBn (0, 0)) :: (Rn ++ L2)) Q := fun M1 wv' hM1 e hW => by
  subst e
  refine jc_own g4 (fun p hp => hg p (by simp [hp])) ?_
  intro M2 a2 c2 hM2 e2 hc2 hs2
  refine wEc bb (hg _ (List.mem_cons_self (a := (bb, _)))) ?_
  intro M3 hM3 e3
  rw [e2] at e3
  exact h M3 _ _ _ _ (hM1.trans (hM2.trans hM3)) e3 (g2.mono (hM1.trans (hM2.trans hM3))) (hW.mono (hM2.trans hM3)) ⟨_, _, rfl, hc2, hs2.mono hM3⟩ (g3.mono (hM1.trans (hM2.trans hM3)))
 rcases hw3 with hw3 | ⟨rfl, hfl, ba, rfl, hbs, hold⟩
 ·refine jc_own hw3 (fun p hp => hg p (by simp [hp])) ?_
  intro M1 a1 c1 hM1 e1 hc1 hs1
  exact fin M1 _ hM1 e1.symm ⟨a1, c1, wps, rfl, hc1, hs1, hw1, fun p hp => (hw2 p hp).mono hM1⟩
 ·refine fin M _ (MLe.refl _) rfl ⟨_, _, wps, rfl, Nat.le_refl _, ?_, hw1, hw2⟩
  rcases hbs with h0 | hbs
  ·exact .inl h0
  ·obtain ⟨b, of, sp⟩ := ba
   simp only at hbs
   subst hbs
   exact .inr ⟨b, of, rfl, hold⟩
structure PtZ where
 t : Sto
 up : List It
 M : Mem
 L : Lc
 v : Value
structure PtZI (r : Except Int (Sto × List It)) (bb : Nat) (M0 : Mem) (z : PtZ) : Prop where
 eq : r = .ok (z.t, z.up)
 bo : BOwn z.M bb z.L z.t
 ok : wCp z.t
 uf : UF z.M z.v z.up
 pos : 0 < z.up.length
 mle : MLe M0 z.M
theorem putF_in {s : Sto} {root : Int} {x : It} {lev : Nat} {xs : List It} (h : wHa s root x = 0) (hnd : wCa s root.toNat = some ((lev : Int), xs)) : putF s root x = putIn s root x (wJa s x.key lev xs) := by
 unfold putF; rw [if_neg (by rw [h]; decide), hnd]; rfl
theorem putIn_tall {s : Sto} {root : Int} {x : It} {ws : List Stp} (h : wKn ws x.key = true) : putIn s root x ws = .error 120 := by unfold putIn; rw [if_pos h]
theorem putIn_grw {s : Sto} {root : Int} {x : It} {ws : List Stp} {e : Int} (h : ¬ wKn ws x.key = true) (hg : grw s x ws = .error e) : putIn s root x ws = .error e := by unfold putIn; rw [if_neg h, hg]; rfl
theorem putIn_top {s : Sto} {root : Int} {x : It} {ws : List Stp} {e : Int} (h : ¬ wKn ws x.key = true) (hg : putTop x ws.length (grw s x ws) = .error e) : putIn s root x ws = .error e := by unfold putIn; rw [if_neg h, hg]
theorem putIn_no {s t : Sto} {root : Int} {x : It} {ws : List Stp} {up : List It} (h : ¬ wKn ws x.key = true) (hg : putTop x ws.length (grw s x ws) = .ok (t, up)) (hl : leave t root = none) : putIn s root x ws = .error 8 := by
 unfold putIn; rw [if_neg h, hg]; show (match leave t root with | none => _ | some t2 => _) = _; rw [hl]
theorem putIn_ok {s t t2 : Sto} {root : Int} {x y : It} {ws : List Stp} {up : List It} (h : ¬ wKn ws x.key = true) (hg : putTop x ws.length (grw s x ws) = .ok (t, y :: up)) (hl : leave t root = some t2) : putIn s root x ws = .ok (t2, y.ref) := by
 unfold putIn; rw [if_neg h, hg]; show (match leave t root with | none => _ | some t2 => _) = _; rw [hl]
def PtPost (r : Except Int (Sto × Int)) (u : Value) (M' : Mem) : Prop := match r with
 | .error e => e ≠ 0 ∧ u = .tuple #[.agg zeroSt.toArray, .int .i64 0, .int .i64 e]
 | .ok (t, now) => ∃ v, u = .tuple #[v, .int .i64 now, .int .i64 0] ∧ ST M' v t ∧ wCp t
set_option maxHeartbeats 8000000 in
theorem put_walk (s : Sto) (root : Int) (x : It) (xv bv nv lw : Value) (wa : Option Addr) (wc : Nat) (wps0 : List (Wt × Value)) (M : Mem) (h1 : LS M bv s.blocks) (hwc : s.waits.length ≤ wc) (hws : SM M wa (wps0.flatMap wCf)) (hwp0 : wps0.map (·.1) = s.waits) (hwb0 : ∀ p ∈ wps0, BS M p.2 p.1.2) (h3 : BS M nv s.now) (h4 : BS M lw s.last) (hx : BS M xv x.val) (hkx : wJn x.key) :
  SpecL Tryz.prog 77 #[.agg #[bv, .slice wa s.waits.length wc, nv, lw], .int .i64 root, .agg #[.int .u8 x.key.kind, .int .u32 x.key.id, .int .u32 x.key.off, .int .i64 x.ref, xv]] M [] fun u M' L' => PtPost (putF s root x) u M' ∧ L' = [] := by
 have h2 : WS M (.slice wa s.waits.length wc) s.waits := ⟨wa, wc, wps0, rfl, hwc, hws, hwp0, hwb0⟩
 have hST : ST M (.agg #[bv, .slice wa s.waits.length wc, nv, lw]) s := ⟨_, _, _, _, rfl, h1, h2, h3, h4⟩
 obtain ⟨xa, xc, rfl, hxc, hxs⟩ := id hx
 refine wAf (vs := [_, _, _]) 125 _ Tryz.func77 rfl Tryz.ntmps77 rfl rfl ?_; intro W
 refine wAb (wAa (wAw rfl rfl (wCb (cs := [bv, .slice wa s.waits.length wc, nv, lw]) rfl rfl rfl rfl) ?_)); rintro _ _ _ ⟨b3, rfl, rfl, rfl⟩
 refine wAw rfl rfl (wCb (cs := itc x xa xc) rfl rfl rfl rfl) ?_; rintro _ _ _ ⟨b5, rfl, rfl, rfl⟩
 refine sAl rfl fun b6 => ?_
 refine sAl rfl fun b7 => ?_
 refine sAl rfl fun b8 => ?_
 refine wAc (jT (wAb (wAb (wAa (sLL rfl ?_)))))
 refine jp rfl (sLL rfl ?_)
 refine wAi rfl rfl (wBf rfl rfl rfl rfl rfl (by kernel_rfl) (asked_put s root x _ _ _ _ _ M h1 h2 h3 h4 hx)) ?_
 refine jp rfl (wAc (jT (wAb (wAa (jp rfl (js rfl (fun h23 => ?_) (fun h23 => ?_)))))))
 ·refine wAc (jT (wAg rfl (wAb (wAa (wAi rfl rfl (wAq (cs := [_, _, _, _]) rfl rfl rfl (by rfl)) ?_)))))
  refine jp rfl (sSt rfl ?_)
  refine sSt rfl ?_
  refine sSt rfl ?_
  refine wAc (jT (wAe (jTr (wCd (rs := [_, _, _]) ([]) (by exact List.nil_sublist _) rfl (.cons (.agg rfl rfl rfl) (.cons (.one rfl rfl rfl) (.cons (.one rfl rfl rfl) .nil))) ?_))))
  refine ⟨?_, rfl⟩
  have : putF s root x = .error (wHa s root x) := by unfold putF; rw [if_pos h23]
  rw [this]; exact ⟨h23, rfl⟩
 ·refine wAc (jT (wAj rfl (wAd (jT (wAb (wAa (sLL rfl ?_)))))))
  refine jp rfl (sFa rfl ?_)
  refine sLL rfl ?_
  have hask : wHa s root x = 0 := Classical.not_not.1 h23
  have hask2 := putAsk_ok hask
  obtain ⟨hst, hr8, hr256, hnz, lev, xs0, hnd0, ht0, _⟩ := fchk_ok hask2.1
  obtain ⟨hdk, ⟨hn256, _⟩, ⟨hl256, _⟩⟩ := id hst
  have hw4 : s.waits.length ≤ 4096 := hdk.2.1
  have hlv0 := (wCe hnd0).lev
  have hwl0 := way_len (s := s) (q := x.key) lev xs0
  refine wAw rfl rfl (wAn rfl rfl rfl rfl rfl (by kernel_rfl) (way_walk s root x.key bv _ nv lw lev xs0 M hST ⟨hr8, hr256⟩ hst hnd0 ht0)) ?_; rintro _ Mw _ ⟨hMw, _, rfl, ⟨hss, rfl⟩⟩
  obtain ⟨wa2, wc2, wps, rfl, hwc2, hws2, hwp, hwb⟩ := id hss
  have hwpl : wps.length = (wJa s x.key lev xs0).length := by rw [← hwp, List.length_map]
  simp only [nA]
  refine jp rfl (wAc (jT (wAb (wAb (wAa (jp rfl (sFa rfl ?_)))))))
  refine sLL rfl ?_
  refine wDp rfl rfl (wBf rfl rfl rfl rfl rfl (by kernel_rfl) (tall_spec (wJa s x.key lev xs0) wa2 wc2 wps Mw hwc2 hws2 hwp hwb (by omega) x.key (by omega) (fun w hw => by obtain ⟨⟨j, h⟩, _⟩ := way_facts hnd0 ht0 w hw; have := (wCe h).len; omega))) (fun h34 => ?_) (fun h34 => ?_)
  ·refine wAc (jT (wAg rfl (wAb (wAa (wAi rfl rfl (wAq (cs := [_, _, _, _]) rfl rfl rfl (by rfl)) ?_)))))
   refine sSt rfl ?_
   refine sSt rfl ?_
   refine sSt rfl ?_
   refine wAc (jT (wAe (jTr (wCd (rs := [_, _, _]) ([]) (by exact List.nil_sublist _) rfl (.cons (.agg rfl rfl rfl) (.cons (.one rfl rfl rfl) (.cons (.one rfl rfl rfl) .nil))) ?_))))
   refine ⟨?_, rfl⟩
   rw [putF_in hask hnd0, putIn_tall h34]; exact ⟨by decide, rfl⟩
  ·refine wAc (jT (wAj rfl (wAd (jT (wAb (wAa (sLL rfl ?_)))))))
   refine wAw rfl rfl (wAm (cs := [_, _, _, _, _]) rfl rfl rfl (by rfl) (by rfl) (by rfl)) ?_; rintro _ _ _ ⟨b37, rfl, rfl, rfl⟩
   refine sAl rfl fun b11 => ?_
   refine sSt rfl ?_
   refine wAc (jT (wAb (wAa (sLL rfl ?_))))
   refine wAw rfl rfl (wAn rfl rfl rfl rfl rfl (by kernel_rfl) (on_own s bv nv lw wa wc Mw hwc (by omega) (h3.mono hMw) (by omega))) ?_; rintro _ Mb _ ⟨hMb, _, rfl, ⟨bb, Rn, na, nc, rfl, rfl, hown⟩⟩
   have hMwb := hMw.trans hMb
   have hB0 : BOwn Mb bb ((bb, .cells [bv, .slice wa s.waits.length s.waits.length, .slice na s.now.length nc, lw].toArray TBn (0, 0)) :: Rn) s := by
    refine ⟨bv, _, na, nc, lw, [], Rn, rfl, h1.mono hMwb, h4.mono hMwb, hown, wps0, hwp0, fun p hp => (hwb0 p hp).mono hMwb, ?_⟩
    have hfl : (wps0.flatMap wCf).length = s.waits.length * 2 := by rw [wAy wCf 2 wCc, ← hwp0, List.length_map]
    rcases hws with h0 | ⟨wb, wo, rfl, hwx⟩
    ·have hz : s.waits.length = 0 := by rw [h0, List.length_nil] at hfl; omega
     rw [h0, hz]
     cases wa with
     | none => exact .inl (Own.nil _ _)
     | some ba => exact .inr ⟨rfl, rfl, ba, rfl, .inl rfl, fun i u hu => by cases hu⟩
    ·exact .inr ⟨rfl, hfl, _, rfl, .inr rfl, fun i u hu => (hwx i u hu).mono hMwb⟩
   refine sAl rfl fun b12 => ?_
   refine sSt rfl ?_
   refine wAc (jT (wAb (wAb (wEc b12 (by simp) ?_))))
   intro Ma hMa e12
   refine wEc b37 (by simp) ?_
   intro Mq hMq e37
   refine wEc b5 (by simp) ?_
   intro Me hMe0 e5
   have hMf0 := hMa.trans (hMq.trans hMe0)
   replace e37 := hMe0 _ _ e37
   replace e12 := hMe0 _ _ (hMq _ _ e12)
   refine wJo (M' := Me) (L' := (b11, .cells [.slice (some ⟨b37, 0, none⟩) 1 1].toArray 59 (0, 0)) :: (b8, .cells [Value.int .i64 (0)].toArray 35 (0, 0)) :: (b6, .cells [Value.slice none 0 0, Value.slice none 0 0, Value.slice none 0 0, Value.slice none 0 0].toArray 28 (0, 0)) :: (b7, .cells [Value.int .i64 0].toArray 3 (0, 0)) :: ((bb, .cells [bv, .slice wa s.waits.length s.waits.length, .slice na s.now.length nc, lw].toArray TBn (0, 0)) :: Rn)) (fun w h => (h.perm (L' := (b3, .cells [bv, .slice wa s.waits.length wc, nv, lw].toArray 28 (0, 0)) :: (b11, .cells [.slice (some ⟨b37, 0, none⟩) 1 1].toArray 59 (0, 0)) :: (b8, .cells [Value.int .i64 (0)].toArray 35 (0, 0)) :: (b6, .cells [Value.slice none 0 0, Value.slice none 0 0, Value.slice none 0 0, Value.slice none 0 0].toArray 28 (0, 0)) :: (b7, .cells [Value.int .i64 0].toArray 3 (0, 0)) :: ((bb, .cells [bv, .slice wa s.waits.length s.waits.length, .slice na s.now.length nc, lw].toArray TBn (0, 0)) :: Rn)) (wHd fun f => by simp only [mks, List.getElem_toArray, List.getElem_cons_zero, List.getElem_cons_succ, List.map_append, List.map_cons, List.map_nil, List.sum_append, List.sum_cons, List.sum_nil] <;> omega)).tl) ?_
   have huf0 : UF Me (.slice (some ⟨b37, 0, none⟩) 1 1) [x] := ⟨b37, 1, [(x, .slice xa x.val.length xc)], [], _, rfl, Nat.le_refl _, (by rw [e37]; rfl), rfl, fun p hp => by rw [List.mem_singleton.1 hp]; exact hx.mono (hMwb.trans hMf0)⟩
   refine wAa (jp rfl (wAw rfl rfl (wAn rfl rfl rfl rfl rfl (by kernel_rfl) (bws _ _ _ Me)) ?_)); rintro _ Mg _ ⟨hMg0, _, rfl, ⟨b41, rfl, e41, rfl⟩⟩
   rw [← hwpl] at e41
   simp only [nA]
   have hMg : MLe Mw Mg := hMb.trans (hMf0.trans hMg0)
   refine wAc (jT (wAh ?_))
   have hxok : UpOk [x] := fun y hy => by
    rw [List.mem_singleton.1 hy]
    have := of_decide_eq_false (show decide _ = false from wEn hask2.2.1)
    exact ⟨by omega, hkx⟩
   refine jc_rangeN (R := (b11, .cells [.slice (some ⟨b37, 0, none⟩) 1 1].toArray 59 (0, 0)) :: (b8, .cells [Value.int .i64 (0)].toArray 35 (0, 0)) :: (b6, .cells [Value.slice none 0 0, Value.slice none 0 0, Value.slice none 0 0, Value.slice none 0 0].toArray 28 (0, 0)) :: (b7, .cells [Value.int .i64 0].toArray 3 (0, 0)) :: ((bb, .cells [bv, .slice wa s.waits.length s.waits.length, .slice na s.now.length nc, lw].toArray TBn (0, 0)) :: Rn)) (xs := bw wps 0) (enc := (fun p : (Stp × Value) × Nat => [.int .i64 p.2, .agg (wEi p.1).toArray])) (ps := [42, 43]) rfl (by kernel_rfl) (bws_iter b41 wa2 wc2 wps Mg e41 (hws2.mono hMg) (by omega))
    (fun pre M' R => ∃ t up upv Lb, R = (b11, .cells [upv].toArray 59 (0, 0)) :: (b8, .cells [Value.int .i64 (0)].toArray 35 (0, 0)) :: (b6, .cells [Value.slice none 0 0, Value.slice none 0 0, Value.slice none 0 0, Value.slice none 0 0].toArray 28 (0, 0)) :: (b7, .cells [Value.int .i64 0].toArray 3 (0, 0)) :: Lb ∧ grw s x ((wJa s x.key lev xs0).drop ((wJa s x.key lev xs0).length - pre.length)) = .ok (t, up) ∧ BOwn M' bb Lb t ∧ wCp t ∧ UF M' upv up ∧ UpOk up ∧ 0 < up.length ∧ up.length ≤ 2)
    (fun c pre M' R => ∃ (e : Int) (upv : Value) (Lb : Lc), c = .ret ∧ e ≠ 0 ∧ R = (b11, .cells [upv].toArray 59 (0, 0)) :: (b8, .cells [Value.int .i64 (e)].toArray 35 (0, 0)) :: (b6, .cells [Value.slice none 0 0, Value.slice none 0 0, Value.slice none 0 0, Value.slice none 0 0].toArray 28 (0, 0)) :: (b7, .cells [Value.int .i64 0].toArray 3 (0, 0)) :: Lb ∧ grw s x (wJa s x.key lev xs0) = .error e)
    (fun _ => rfl) (by decide) ⟨s, [x], _, ((bb, .cells [bv, .slice wa s.waits.length s.waits.length, .slice na s.now.length nc, lw].toArray TBn (0, 0)) :: Rn), rfl, (by rw [List.length_nil, Nat.sub_zero, List.drop_length]; rfl), hB0.mono (hMf0.trans hMg0), hst, huf0.mono hMg0, hxok, Nat.le_refl _, (by show 1 ≤ 2; omega)⟩ ?_ ?_ ?_
   ·intro l2 W2 pre y M2 R2 hXW hM2 hI2 hpre
    obtain ⟨t, up, upv, Lb2, rfl, hgr, hB2, ht2, huf, huo, hu0, hul⟩ := hI2
    obtain ⟨hlt, hy⟩ := bw_at hpre
    obtain ⟨⟨w, wv⟩, yi⟩ := y
    dsimp only at hy
    have hwm : (w, wv) ∈ wps := by rw [hy]; exact List.getElem_mem _
    have hww : w ∈ wJa s x.key lev xs0 := by rw [← hwp]; exact List.mem_map_of_mem hwm
    have hwn := (hwb _ hwm).mono (hMg.trans hM2)
    dsimp only at hwn
    obtain ⟨ia, ic, ips, hwv, hic, his, hip, hib⟩ := id hwn
    subst hwv
    obtain ⟨⟨jw, hnw⟩, hwl, hwl2⟩ := way_facts hnd0 ht0 w hww
    have hnow := wCe hnw
    have hwx := hnow.len
    have hwlv := hnow.lev
    have hkw := ndAt_key hnw
    have hdrop : (wJa s x.key lev xs0).drop ((wJa s x.key lev xs0).length - (pre.length + 1)) = w :: (wJa s x.key lev xs0).drop ((wJa s x.key lev xs0).length - pre.length) := by
     have hwl9 : (wJa s x.key lev xs0).length = wps.length := by rw [← hwp, List.length_map]
     have hk9 : (wJa s x.key lev xs0).length - (pre.length + 1) < (wJa s x.key lev xs0).length := by omega
     rw [List.drop_eq_getElem_cons hk9]
     congr 1
     ·have : w = (wps[wps.length - 1 - pre.length]).1 := by rw [← hy]
      rw [this]; simp only [← hwp, List.getElem_map, List.length_map]; congr 2; omega
     ·congr 1; omega
    obtain ⟨ub, uc, ups, uvl, ute, rfl, huc, hub, hup, hups⟩ := id huf
    have hipl : ips.length = w.xs.length := by rw [← hip, List.length_map]
    have hupl : ups.length = up.length := by rw [← hup, List.length_map]
    simp only [wEi]
    refine wAa (sAl rfl fun b14 => ?_)
    refine sSt rfl ?_
    refine wAc (jKN fun W' hW' => ?_)
    refine wAh (wAb (wAa (jp rfl (wAc (jT (jc_merge (α := Nat) (fun m => [(5, .pointer (some ⟨b5, 0, none⟩)), (6, .pointer (some ⟨b6, 0, none⟩)), (7, .pointer (some ⟨b7, 0, none⟩)), (8, .pointer (some ⟨b8, 0, none⟩)), (11, .pointer (some ⟨b11, 0, none⟩)), (12, .pointer (some ⟨b12, 0, none⟩)), (14, .pointer (some ⟨b14, 0, none⟩)), (15, .int .i64 (m : Int))]) (fun _ => M2) (fun _ => (b14, .cells [.int .i64 w.lv, .slice ia w.xs.length ic, .int .i64 w.at_].toArray 190 (0, 0)) :: (b11, .cells [.slice (some ⟨ub, 0, none⟩) up.length uc].toArray 59 (0, 0)) :: (b8, .cells [Value.int .i64 (0)].toArray 35 (0, 0)) :: (b6, .cells [Value.slice none 0 0, Value.slice none 0 0, Value.slice none 0 0, Value.slice none 0 0].toArray 28 (0, 0)) :: (b7, .cells [Value.int .i64 0].toArray 3 (0, 0)) :: Lb2) (fun m => m = manyF w x.key) ?_ ?_))))))
    ·rintro m hm
     have hm1 : m ≤ 1 ∧ w.at_ + m ≤ w.xs.length := by
      rw [hm]; unfold manyF; split
      ·omega
      ·rename_i y hy9
       have := (List.getElem?_eq_some_iff.1 hy9).1
       split <;> omega
     have hX9 : ∀ x ∈ ((b11, .cells [.slice (some ⟨ub, 0, none⟩) up.length uc].toArray 59 (0, 0)) :: (b8, .cells [Value.int .i64 (0)].toArray 35 (0, 0)) :: (b6, .cells [Value.slice none 0 0, Value.slice none 0 0, Value.slice none 0 0, Value.slice none 0 0].toArray 28 (0, 0)) :: (b7, .cells [Value.int .i64 0].toArray 3 (0, 0)) :: Lb2 : Lc).map (·.1), x < W'.heap.size := by rw [hW']; exact hXW
     have hrle : ips.length - m + ups.length = (repF w x.key up).length := by unfold repF; rw [← hm]; simp only [List.length_append, List.length_take, List.length_drop]; omega
     refine wAb (wBn [(0, true), (1, true), (2, true), (4, true), (5, true), (6, true), (7, true), (8, true), (9, true), (10, true), (3, false), (11, false), (12, true)] _ (by kernel_rfl) (by kernel_rfl) (by kernel_rfl) rfl (fun _ h => h) ?_)
     refine dFa rfl rfl ?_
     refine dFa rfl rfl ?_
     refine dLd rfl rfl ?_
     refine dFa rfl rfl ?_
     refine dLd rfl rfl ?_
     refine dFa rfl rfl ?_
     refine dLd rfl rfl ?_
     refine dp rfl rfl ?_
     refine wBi rfl rfl rfl (qEq (qA rfl rfl rfl rfl rfl (by omega)) (v' := .int .i64 ((w.at_ + m : Nat) : Int)) (congrArg _ (by omega))) ?_
     refine dLd rfl rfl ?_
     rw [← hipl]
     refine wHh rfl rfl rfl (hCallN rfl rfl rfl rfl rfl (by kernel_rfl) (iclone_spec ia ic ips M2 his (ns_one hib) (by omega))) ?_; rintro _ Mc _ ⟨hMc, Rc, rfl, hownc, hnw1⟩
     refine ⟨_, _, MLe.refl _, hMc, fun _ h => h, fun p hp => List.mem_append_right _ hp, ?_⟩
     obtain ⟨ca, cc, hcv⟩ := hownc.form
     subst hcv
     rw [← hupl]
     refine wHh rfl rfl rfl (hCallN rfl rfl rfl rfl rfl (by kernel_rfl) (rep_both ips ups w.at_ m (by omega) (by omega) ca cc Rc hownc (ns_one hib) ub uc uvl ute Mc (hMc _ _ hub) (ns_one hups) (by omega) (by omega))) ?_; rintro _ Mp _ ⟨hMp, Rr, rfl, hownl, hnw2⟩
     refine ⟨_, _, MLe.refl _, (hMc.trans hMp), fun _ h => h, fun p hp => List.mem_append_right _ hp, ?_⟩
     rw [hupl]
     rw [hipl]
     refine dp rfl rfl ?_
     refine wBg (jPn (jT (wAb (wAa (wAi rfl rfl (qLd rfl rfl rfl rfl (CM.cj ⟨_, _, _, (hMg0.trans (hM2.trans (hMc.trans hMp))) _ _ e12, rfl⟩ _)) ?_)))))
     refine sFa rfl ?_
     refine sFL rfl rfl ?_
     refine jp rfl (sLd rfl ?_)
     have hnl : ∀ p ∈ Rr, W'.heap.size ≤ p.1 := fun p hp => (hnw2 p hp).elim (fun h => by obtain ⟨q, hq, e⟩ := List.mem_map.1 h; rw [← e]; exact (hnw1 q hq).elim (fun h => by cases h) id) id
     obtain ⟨ra, rc, hrv⟩ := hownl.form
     subst hrv
     refine jl_ownN hownl (not_in hX9 hnl) ?_
     intro Mr ra2 rc2 hMr er hrc hrs; cases er
     replace hrs := hrs.mono (wKd _ _)
     have hls : NS Mr (.slice ra (repF w x.key up).length rc) (repF w x.key up) := by
      refine ⟨ra, rc, ips.take w.at_ ++ ups ++ ips.drop (w.at_ + m), rfl, by rw [← hrle]; exact hrc, hrs, ?_, fun p hp => ?_⟩
      ·unfold repF; rw [List.map_append, List.map_append, List.map_take, List.map_drop, hip, hup, hm]
      ·rcases List.mem_append.1 hp with hp | hp
       ·rcases List.mem_append.1 hp with hp | hp
        ·exact (hib p (List.mem_of_mem_take hp)).mono (hMc.trans (hMp.trans hMr))
        ·exact (hups p hp).mono (hMc.trans (hMp.trans hMr))
       ·exact (hib p (List.mem_of_mem_drop hp)).mono (hMc.trans (hMp.trans hMr))
     have hMall := hMc.trans (hMp.trans hMr)
     have hrne : repF w x.key up ≠ [] := repF_ne (fun e => by rw [e] at hu0; exact absurd hu0 (by decide))
     have hrk : ∀ y ∈ repF w x.key up, wJn y.key := fun y hy => (repF_mem hy).elim (hkw y) (fun h => (huo y h).2)
     have hrl9 := repF_len w x.key up
     rw [hrle]
     refine wAw rfl rfl (hCallN rfl rfl rfl rfl rfl (by kernel_rfl) (by have := build_spec t w.lv (repF w x.key up) up ra rc (.slice (some ⟨ub, 0, none⟩) up.length uc) bb Mr Lb2 (hB2.mono hMall) ht2 hls (huf.ns.mono hMall) hrne (fun y hy => (hrk y hy).1) (fun y hy => (huo y hy).1) (by omega) (by omega); exact this)) ?_; rintro _ Md _ ⟨hMd, Rd, rfl, hbd, hnw3⟩
     obtain ⟨da, dn, dc, e, rfl, hbd2⟩ := BdPost.form hbd
     refine jp rfl (jp rfl (jp rfl (sSt rfl ?_)))
     refine sSt rfl ?_
     refine wAc (jT (wAb (wAa (sLd rfl ?_))))
     refine js rfl (fun h93 => ?_) (fun h93 => ?_)
     ·refine wAc (jT (wAg rfl (wAb (wCh (p := { A := fun i => !([4].contains i), U := fun i => !([4].contains i) }) [(0, true), (1, true), (2, false), (3, false), (4, false)] _ ([(b8, .cells [Value.int .i64 e].toArray 35 (0, 0))]) ([]) (by kernel_rfl) (by kernel_rfl) (by kernel_rfl) (by kernel_rfl) rfl (by simp) (MLe.refl _) (by simp) ?_))))
      refine wBi rfl rfl rfl (wAq (cs := [_, _, _, _]) rfl rfl rfl (by rfl)) ?_
      refine dLd rfl rfl ?_
      refine jd_s rfl rfl (wBs rfl rfl rfl rfl rfl rfl rfl rfl) ?_; rintro _ _ _ ⟨rfl, rfl⟩
      refine ⟨_, _, MLe.refl _, (by first | exact MLe.refl _ | assumption), fun _ h => h, by simp, ?_⟩
      refine jd_s rfl rfl (wBs rfl rfl rfl rfl rfl rfl rfl rfl) ?_; rintro _ _ _ ⟨rfl, rfl⟩
      refine ⟨_, _, MLe.refl _, (by first | exact MLe.refl _ | assumption), fun _ h => h, by simp, ?_⟩
      refine jd_e rfl rfl (wBs rfl rfl rfl rfl rfl rfl rfl rfl) ?_; rintro _ _ _ ⟨rfl, rfl⟩
      refine ⟨MLe.refl _, by simp, ?_⟩
      refine wEv ?_
      refine jPn (jT (wAe (jBr ?_)))
      obtain ⟨he9, hbe⟩ | ⟨rfl, _⟩ := hbd2
      rotate_left
      ·exact absurd rfl h93
      refine wDh (M' := Md) (L' := (b11, .cells [.slice da dn dc].toArray 59 (0, 0)) :: (b8, .cells [Value.int .i64 (e)].toArray 35 (0, 0)) :: (b6, .cells [Value.slice none 0 0, Value.slice none 0 0, Value.slice none 0 0, Value.slice none 0 0].toArray 28 (0, 0)) :: (b7, .cells [Value.int .i64 0].toArray 3 (0, 0)) :: Rd) (fun w9 h => (h.perm (L' := (b14, .cells [.int .i64 w.lv, .slice ia w.xs.length ic, .int .i64 w.at_].toArray 190 (0, 0)) :: (b11, .cells [.slice da dn dc].toArray 59 (0, 0)) :: (b8, .cells [Value.int .i64 (e)].toArray 35 (0, 0)) :: (b6, .cells [Value.slice none 0 0, Value.slice none 0 0, Value.slice none 0 0, Value.slice none 0 0].toArray 28 (0, 0)) :: (b7, .cells [Value.int .i64 0].toArray 3 (0, 0)) :: Rd) (wHd fun f => by simp only [mks, List.getElem_toArray, List.getElem_cons_zero, List.getElem_cons_succ, List.map_append, List.map_cons, List.map_nil, List.sum_append, List.sum_cons, List.sum_nil] <;> omega)).tl) ?_
      refine jQr ?_
      refine ⟨e, _, Rd, rfl, he9, rfl, ?_⟩
      refine grw_err ((wJa s x.key lev xs0).length - (pre.length + 1)) ?_
      rw [hdrop, grw, hgr]; exact hbe
     ·refine wAc (jT (wAj rfl (wAd (jB ?_))))
      obtain ⟨he9, _⟩ | ⟨rfl, t9, up9, Ru, Lb9, hbe, rfl, rfl, ht9, hB9, hou, huv9, hnx⟩ := hbd2
      ·exact absurd (Classical.not_not.1 h93) he9
      have hbu := build_up ht2 hbe hrne hrk
      have hup9 : 0 < up9.length ∧ up9.length ≤ 2 := by rw [hbu.1]; split <;> omega
      obtain ⟨g9, cap9, cur9, e9, rfl, hc9, _, _, htk9⟩ := hou.open (by omega)
      cases e9
      refine wDh (M' := Md) (L' := (g9, .cells cur9 IT (0, 0)) :: (b11, .cells [.slice (some ⟨g9, 0, none⟩) up9.length dc].toArray 59 (0, 0)) :: (b8, .cells [Value.int .i64 (0)].toArray 35 (0, 0)) :: (b6, .cells [Value.slice none 0 0, Value.slice none 0 0, Value.slice none 0 0, Value.slice none 0 0].toArray 28 (0, 0)) :: (b7, .cells [Value.int .i64 0].toArray 3 (0, 0)) :: Lb9) (fun w9 h => (h.perm (L' := (b14, .cells [.int .i64 w.lv, .slice ia w.xs.length ic, .int .i64 w.at_].toArray 190 (0, 0)) :: (g9, .cells cur9 IT (0, 0)) :: (b11, .cells [.slice (some ⟨g9, 0, none⟩) up9.length dc].toArray 59 (0, 0)) :: (b8, .cells [Value.int .i64 (0)].toArray 35 (0, 0)) :: (b6, .cells [Value.slice none 0 0, Value.slice none 0 0, Value.slice none 0 0, Value.slice none 0 0].toArray 28 (0, 0)) :: (b7, .cells [Value.int .i64 0].toArray 3 (0, 0)) :: Lb9) (wHd fun f => by simp only [mks, List.getElem_toArray, List.getElem_cons_zero, List.getElem_cons_succ, List.map_append, List.map_cons, List.map_nil, List.sum_append, List.sum_cons, List.sum_nil] <;> omega)).tl) ?_
      refine wBv g9 (not_in hX9 (R := [(g9, .cells cur9 IT (0, 0))]) (fun p hp => (hnw3 p (List.mem_append_left _ hp)).elim (fun h => absurd h (hnx p hp)) id) (g9, .cells cur9 IT (0, 0)) (List.mem_singleton.2 rfl)) ?_
      intro Mz hMz eg9
      refine jQn ?_
      refine ⟨t9, up9, _, Lb9, rfl, ?_, hB9.mono hMz, ht9, up_uf eg9 hc9 htk9 huv9, hbu.2, hup9.1, hup9.2⟩
      rw [List.length_append, List.length_singleton, hdrop, grw, hgr]; exact hbe
    ·refine wAb (wBn [(0, true), (1, true), (2, true), (3, true), (4, true), (5, true), (6, true), (7, true), (8, true), (9, true), (10, true), (11, true), (12, true), (13, true), (14, true), (15, true), (16, true), (17, true), (18, true), (19, true), (20, true), (21, true), (22, true), (23, true), (24, true), (25, true)] _ (by kernel_rfl) (by kernel_rfl) (by kernel_rfl) rfl (fun _ h => h) ?_)
     refine dFa rfl rfl ?_
     refine dLd rfl rfl ?_
     refine dFa rfl rfl ?_
     refine dFa rfl rfl ?_
     refine dLd rfl rfl ?_
     refine wBi rfl rfl rfl (wBq rfl rfl rfl) ?_
     refine ds rfl rfl (fun h50 => ?_) (fun h50 => ?_)
     ·iterate 19 refine dp rfl rfl ?_
      refine wBg (jPn (jT (wAg rfl (wAa (jp rfl (wAc ?_))))))
      refine wJp 0 (.cons (t := 5) rfl (.cons (t := 6) rfl (.cons (t := 7) rfl (.cons (t := 8) rfl (.cons (t := 11) rfl (.cons (t := 12) rfl (.cons (t := 14) rfl (.cons (t := 15) rfl .nil)))))))) (by show 0 = manyF w x.key; unfold manyF; rw [List.getElem?_eq_none (by omega)]) (fun w h => h)
     ·refine dp rfl rfl ?_
      refine dFa rfl rfl ?_
      refine dFa rfl rfl ?_
      refine dLd rfl rfl ?_
      refine ds rfl rfl (fun h55 => ?_) (fun h55 => ?_)
      ·refine dp rfl rfl ?_
       refine dFa rfl rfl ?_
       refine dFa rfl rfl ?_
       refine dLd rfl rfl ?_
       refine dFa rfl rfl ?_
       refine dLd rfl rfl ?_
       have hk1 : w.at_ < w.xs.length := by omega
       obtain ⟨sb, so, e0, hx9⟩ := his.open (by intro e; have := congrArg List.length e; rw [wAy wBc 5 wBe, List.length_nil] at this; omega)
       cases e0
       obtain ⟨va, vc, hcl, hvc, hvs⟩ := wBr hx9 hip hib hk1
       refine wBi rfl rfl rfl (wBa rfl rfl rfl rfl (by omega)) ?_
       refine dFa rfl rfl ?_
       refine wBi rfl rfl rfl (wEy (cs := wBu w.xs[w.at_].key) rfl rfl rfl rfl rfl (fun i v hv => (hcl i v (key_itc hv)).cj _)) ?_
       refine dFa rfl rfl ?_
       refine wBi rfl rfl rfl (wEy (cs := wBu x.key) rfl rfl rfl rfl rfl (fun i v hv => CM.cj ⟨_, _, _, (hMg0.trans hM2) _ _ e5, by rw [List.getElem?_toArray, Nat.zero_add]; exact key_itc hv⟩ _)) ?_
       refine jd_qb rfl rfl rfl (qNeI (ns := [w.xs[w.at_].key.kind, w.xs[w.at_].key.id, w.xs[w.at_].key.off]) (ms := [x.key.kind, x.key.id, x.key.off]) rfl rfl rfl rfl rfl rfl ⟨rfl, rfl⟩) (fun h67 => ?_) (fun h67 => ?_)
       ·iterate 2 refine dp rfl rfl ?_
        refine wBg (jPn (jT (wAg rfl (wAa (jp rfl (wAc ?_))))))
        refine wJp 0 (.cons (t := 5) rfl (.cons (t := 6) rfl (.cons (t := 7) rfl (.cons (t := 8) rfl (.cons (t := 11) rfl (.cons (t := 12) rfl (.cons (t := 14) rfl (.cons (t := 15) rfl .nil)))))))) (by show 0 = manyF w x.key; unfold manyF; rw [List.getElem?_eq_getElem hk1]; show 0 = if w.lv = 0 ∧ _ then 0 else 1; rw [if_pos ⟨h55, key_ne h67⟩]) (fun w h => h)
       ·iterate 2 refine dp rfl rfl ?_
        refine wBg (jPn (jT (wAj rfl (wAd ?_))))
        refine wJp 1 (.cons (t := 5) rfl (.cons (t := 6) rfl (.cons (t := 7) rfl (.cons (t := 8) rfl (.cons (t := 11) rfl (.cons (t := 12) rfl (.cons (t := 14) rfl (.cons (t := 15) rfl .nil)))))))) (by show 1 = manyF w x.key; unfold manyF; rw [List.getElem?_eq_getElem hk1]; show 1 = if w.lv = 0 ∧ _ then 0 else 1; rw [if_neg (fun h => key_same h67 h.2)]) (fun w h => h)
      ·iterate 14 refine dp rfl rfl ?_
       refine wBg (jPn (jT (wAj rfl (wAd ?_))))
       refine wJp 1 (.cons (t := 5) rfl (.cons (t := 6) rfl (.cons (t := 7) rfl (.cons (t := 8) rfl (.cons (t := 11) rfl (.cons (t := 12) rfl (.cons (t := 14) rfl (.cons (t := 15) rfl .nil)))))))) (by show 1 = manyF w x.key; unfold manyF; rw [List.getElem?_eq_getElem (by omega)]; show 1 = if w.lv = 0 ∧ _ then 0 else 1; rw [if_neg (fun h => h55 h.1)]) (fun w h => h)
   ·intro d M3 R3 hM3 hI3
    obtain ⟨t3, up3, upv3, Lb3, rfl, hgr, hB3, ht3, huf3, huo3, hu03, hul3⟩ := hI3
    rw [wHn, hwpl, Nat.sub_self, List.drop_zero] at hgr
    obtain ⟨ua3, uc3, huv3⟩ : ∃ a c, upv3 = .slice a up3.length c := by obtain ⟨b, c, _, _, _, h, _⟩ := id huf3; exact ⟨_, c, h⟩
    subst huv3
    refine wDh (M' := M3) (L' := (d, .deferred (some [])) :: (b11, .cells [.slice ua3 up3.length uc3].toArray 59 (0, 0)) :: (b8, .cells [Value.int .i64 (0)].toArray 35 (0, 0)) :: (b6, .cells [Value.slice none 0 0, Value.slice none 0 0, Value.slice none 0 0, Value.slice none 0 0].toArray 28 (0, 0)) :: (b7, .cells [Value.int .i64 0].toArray 3 (0, 0)) :: Lb3) (fun w9 h => by rw [List.append_nil] at h; exact h) ?_
    refine jB (jT (jc_merge (α := PtZ) (fun z => [(1, .int .i64 root), (6, .pointer (some ⟨b6, 0, none⟩)), (7, .pointer (some ⟨b7, 0, none⟩)), (8, .pointer (some ⟨b8, 0, none⟩)), (11, .pointer (some ⟨b11, 0, none⟩)), (12, .pointer (some ⟨b12, 0, none⟩))]) (fun z => z.M) (fun z => (d, .deferred (some [])) :: (b11, .cells [z.v].toArray 59 (0, 0)) :: (b8, .cells [Value.int .i64 (0)].toArray 35 (0, 0)) :: (b6, .cells [Value.slice none 0 0, Value.slice none 0 0, Value.slice none 0 0, Value.slice none 0 0].toArray 28 (0, 0)) :: (b7, .cells [Value.int .i64 0].toArray 3 (0, 0)) :: z.L) (fun z => PtZI (putTop x ((wJa s x.key lev xs0).length : Int) (grw s x (wJa s x.key lev xs0))) bb M3 z) ?_ ?_))
    ·rintro ⟨tz, upz, Mz, Lz, vz⟩ ⟨heqz, hboz, hokz, hufz, hposz, hmlez⟩
     dsimp only at heqz hboz hokz hufz hposz hmlez ⊢
     obtain ⟨ua9, uc9, huv9⟩ : ∃ a c, vz = .slice a upz.length c := by obtain ⟨b, c, _, _, _, h, _⟩ := id hufz; exact ⟨_, c, h⟩
     subst huv9
     refine wAb (wAb (wAa (wAi rfl rfl (qLd rfl rfl rfl rfl (CM.cj ⟨_, _, _, (hMg0.trans (hM3.trans hmlez)) _ _ e12, rfl⟩ _)) ?_)))
     refine jp rfl (wAw rfl rfl (wAn rfl rfl rfl rfl rfl (by kernel_rfl) (leave_spec tz root ⟨hr8, hr256⟩ hokz bb Mz Lz hboz)) ?_); rintro _ Mv _ ⟨hMv, Rv, rfl, hlp⟩
     obtain ⟨e, rfl, hlp2⟩ := LvPost.form hlp
     refine jp rfl (wAc (jT (wAb (wAa (jp rfl (js rfl (fun h116 => ?_) (fun h116 => ?_)))))))
     ·refine wAc (jT (wAg rfl (wAb (wAa (wAi rfl rfl (wAq (cs := [_, _, _, _]) rfl rfl rfl (by rfl)) ?_)))))
      refine jp rfl (sSt rfl ?_)
      refine sSt rfl ?_
      refine sSt rfl ?_
      refine wAc (jT (wAe (jTr (wDo (L2 := _) Rm.perm ?_))))
      refine wCd (rs := [_, _, _]) ([]) (by exact List.nil_sublist _) rfl (.cons (.agg rfl rfl rfl) (.cons (.one rfl rfl rfl) (.cons (.one rfl rfl rfl) .nil))) ?_
      refine ⟨?_, rfl⟩
      obtain ⟨rfl, hlv⟩ | ⟨rfl, _⟩ := hlp2
      rotate_left
      ·exact absurd rfl h116
      rw [putF_in hask hnd0, putIn_no (by rw [h34]; decide) heqz hlv]; exact ⟨by decide, rfl⟩
     ·refine wAc (jT (wAj rfl (wAd (jT (wAb ?_)))))
      obtain ⟨_, _⟩ | ⟨_, tv, hlv, hokv, hbov⟩ := hlp2
      ·exfalso; omega
      obtain ⟨hdk9, ⟨hn9, _⟩, ⟨hl9, _⟩⟩ := id hokv
      obtain ⟨ub, uc, ups, uvl, ute, eu, huc, hub, hup, hups⟩ := id hufz
      cases eu
      refine jc_bench (s := tv) hbov (by simp) ?_
      intro M9 pbv pwv pnv plv hM9 e9 k1 k2 k3 k4
      have hns9 := (hufz.mono (hMv.trans hM9)).ns
      obtain ⟨ia, ic, ips, ei, hic, his, hip, hib⟩ := id hns9
      cases ei
      obtain ⟨sb, so, e0, hx9⟩ := his.open (by intro e; have := congrArg List.length e; rw [wAy wBc 5 wBe, List.length_nil] at this; have h9 := congrArg List.length hip; rw [List.length_map] at h9; omega)
      cases e0
      obtain ⟨va, vc, hcl, hvc, hvs⟩ := wBr hx9 hip hib hposz
      refine wBn [(0, true), (2, true), (3, true), (4, true), (5, true), (1, false), (6, false), (7, false), (8, false)] [(b11, .cells [.slice (some ⟨ub, 0, none⟩) upz.length uc9].toArray 59 (0, 0))] (by kernel_rfl) (by kernel_rfl) (by kernel_rfl) rfl (by simp) ?_
      refine wBi rfl rfl rfl (qLd rfl rfl rfl rfl (CM.cj ⟨_, _, _, (hMg0.trans (hM3.trans (hmlez.trans (hMv.trans hM9)))) _ _ e12, rfl⟩ _)) ?_
      refine dLd rfl rfl ?_
      refine wBi rfl rfl rfl (wBa rfl rfl rfl rfl (by omega)) ?_
      refine dFa rfl rfl ?_
      refine wBi rfl rfl rfl (qLd rfl rfl rfl rfl (((hcl 3 _ rfl).mono (by first | exact MLe.refl _ | assumption)).cj _)) ?_
      refine wHh rfl rfl rfl (wAn rfl rfl rfl rfl rfl (by kernel_rfl) (wLb tv bb pbv pwv pnv plv M9 e9 k1 k2 k3 k4 hdk9 (by omega) (by omega))) ?_; rintro _ Ms _ ⟨hMs, _, rfl, ⟨hst4, rfl⟩⟩
      refine ⟨_, _, MLe.refl _, hMs, fun _ h => h, by simp, ?_⟩
      obtain ⟨q1, q2, q3, q4, rfl, f1, f2, f3, f4⟩ := hst4.ex
      obtain ⟨ba5, bc5, bps5, rfl, _⟩ := id f1
      obtain ⟨wa5, wc5, wps5, rfl, _⟩ := id f2
      obtain ⟨na5, nc5, rfl, _⟩ := id f3
      obtain ⟨la5, lc5, rfl, _⟩ := id f4
      refine jd_s rfl rfl (wBs rfl rfl rfl rfl rfl rfl rfl rfl) ?_; rintro _ _ _ ⟨rfl, rfl⟩
      refine ⟨_, _, MLe.refl _, (by first | exact MLe.refl _ | assumption), fun _ h => h, by simp, ?_⟩
      refine jd_s rfl rfl (wBs rfl rfl rfl rfl rfl rfl rfl rfl) ?_; rintro _ _ _ ⟨rfl, rfl⟩
      refine ⟨_, _, MLe.refl _, (by first | exact MLe.refl _ | assumption), fun _ h => h, by simp, ?_⟩
      refine jd_s rfl rfl (wBs rfl rfl rfl rfl rfl rfl rfl rfl) ?_; rintro _ _ _ ⟨rfl, rfl⟩
      refine ⟨_, _, MLe.refl _, (by first | exact MLe.refl _ | assumption), fun _ h => h, by simp, ?_⟩
      refine wBg (jPn (jT (wAe (wDo (L2 := _) Rm.perm ?_))))
      refine wCd (rs := [_, _, _]) ([]) (by exact List.nil_sublist _) rfl (.cons (.agg rfl rfl rfl) (.cons (.one rfl rfl rfl) (.cons (.one rfl rfl rfl) .nil))) ?_
      refine ⟨?_, rfl⟩
      obtain ⟨y, ys, rfl⟩ := List.exists_cons_of_length_pos hposz
      rw [putF_in hask hnd0, putIn_ok (by rw [h34]; decide) heqz hlv]
      exact ⟨_, rfl, hst4, hokv⟩
    ·refine wAb (wAa (sLd rfl ?_))
     refine wAi rfl rfl (wBq rfl rfl rfl) ?_
     refine js rfl (fun h98 => ?_) (fun h98 => ?_)
     ·refine wAc (jT (wAg rfl (wAb (wAa (wAi rfl rfl (qLd rfl rfl rfl rfl (CM.cj ⟨_, _, _, (hMg0.trans hM3) _ _ e12, rfl⟩ _)) ?_)))))
      refine jp rfl (wAi rfl rfl (wBq rfl rfl rfl) ?_)
      refine sLd rfl ?_
      refine sLd rfl ?_
      obtain ⟨ub, uc, ups, uvl, ute, eu, huc, hub, hup, hups⟩ := id huf3
      cases eu
      have hune : up3 ≠ [] := fun e => by rw [e] at hu03; exact absurd hu03 (by decide)
      refine wAw rfl rfl (wAn rfl rfl rfl rfl rfl (by kernel_rfl) (build_spec t3 ((wJa s x.key lev xs0).length : Int) up3 up3 (some ⟨ub, 0, none⟩) uc3 (.slice (some ⟨ub, 0, none⟩) up3.length uc3) bb M3 Lb3 hB3 ht3 huf3.ns huf3.ns hune (fun y hy => (huo3 y hy).2.1) (fun y hy => (huo3 y hy).1) (by omega) (by omega))) ?_; rintro _ Md _ ⟨hMd, Rd, rfl, hbd⟩
      obtain ⟨da, dn, dc, e, rfl, hbd2⟩ := BdPost.form hbd
      refine jp rfl (jp rfl (jp rfl (sSt rfl ?_)))
      refine sSt rfl ?_
      refine wAc (jT (wAb (wAa (sLd rfl ?_))))
      refine js rfl (fun h109 => ?_) (fun h109 => ?_)
      ·refine wAc (jT (wAg rfl (wAb (wCh (p := { A := fun i => !([4].contains i), U := fun i => !([4].contains i) }) [(0, true), (1, true), (2, false), (3, false), (4, false)] _ ([(b8, .cells [Value.int .i64 e].toArray 35 (0, 0))]) ([]) (by kernel_rfl) (by kernel_rfl) (by kernel_rfl) (by kernel_rfl) rfl (by simp) (MLe.refl _) (by simp) ?_))))
       refine wBi rfl rfl rfl (wAq (cs := [_, _, _, _]) rfl rfl rfl (by rfl)) ?_
       refine dLd rfl rfl ?_
       refine jd_s rfl rfl (wBs rfl rfl rfl rfl rfl rfl rfl rfl) ?_; rintro _ _ _ ⟨rfl, rfl⟩
       refine ⟨_, _, MLe.refl _, (by first | exact MLe.refl _ | assumption), fun _ h => h, by simp, ?_⟩
       refine jd_s rfl rfl (wBs rfl rfl rfl rfl rfl rfl rfl rfl) ?_; rintro _ _ _ ⟨rfl, rfl⟩
       refine ⟨_, _, MLe.refl _, (by first | exact MLe.refl _ | assumption), fun _ h => h, by simp, ?_⟩
       refine jd_e rfl rfl (wBs rfl rfl rfl rfl rfl rfl rfl rfl) ?_; rintro _ _ _ ⟨rfl, rfl⟩
       refine ⟨MLe.refl _, by simp, ?_⟩
       refine wEv ?_
       refine jPn (jT (wAe (wDo (L2 := _) Rm.perm ?_)))
       refine wCd (rs := [_, _, _]) ([]) (by exact List.nil_sublist _) rfl (.cons (.agg rfl rfl rfl) (.cons (.one rfl rfl rfl) (.cons (.one rfl rfl rfl) .nil))) ?_
       refine ⟨?_, rfl⟩
       obtain ⟨he9, hbe⟩ | ⟨rfl, _⟩ := hbd2
       rotate_left
       ·exact absurd rfl h109
       rw [putF_in hask hnd0, putIn_top (e := e) (by rw [h34]; decide) (by rw [hgr]; show (if 1 < up3.length then _ else _) = _; rw [if_pos (by omega)]; exact hbe)]; exact ⟨he9, rfl⟩
      ·refine wAc (jT (wAj rfl (wAd ?_)))
       obtain ⟨he9, _⟩ | ⟨rfl, t9, up9, Ru, Lb9, hbe, rfl, rfl, ht9, hB9, hou, huv9, hnx⟩ := hbd2
       ·exact absurd (Classical.not_not.1 h109) he9
       have hbu := build_up ht3 hbe hune (fun y hy => (huo3 y hy).2)
       have hup9 : 0 < up9.length ∧ up9.length ≤ 2 := by rw [hbu.1]; split <;> omega
       obtain ⟨g9, cap9, cur9, e9, rfl, hc9, _, _, htk9⟩ := hou.open (by omega)
       cases e9
       refine wDh (M' := Md) (L' := (g9, .cells cur9 IT (0, 0)) :: (d, .deferred (some [])) :: (b11, .cells [.slice (some ⟨g9, 0, none⟩) up9.length dc].toArray 59 (0, 0)) :: (b8, .cells [Value.int .i64 (0)].toArray 35 (0, 0)) :: (b6, .cells [Value.slice none 0 0, Value.slice none 0 0, Value.slice none 0 0, Value.slice none 0 0].toArray 28 (0, 0)) :: (b7, .cells [Value.int .i64 0].toArray 3 (0, 0)) :: Lb9) (fun w h => h.perm (wHd fun f => by simp only [mks, List.getElem_toArray, List.getElem_cons_zero, List.getElem_cons_succ, List.map_append, List.map_cons, List.map_nil, List.sum_append, List.sum_cons, List.sum_nil] <;> omega)) ?_
       refine wBv g9 (by simp) ?_
       intro Mz hMz eg9
       refine wJp ⟨t9, up9, Mz, Lb9, _⟩ (.cons (t := 1) rfl (.cons (t := 6) rfl (.cons (t := 7) rfl (.cons (t := 8) rfl (.cons (t := 11) rfl (.cons (t := 12) rfl .nil)))))) ⟨?_, hB9.mono hMz, ht9, up_uf eg9 hc9 htk9 huv9, hup9.1, hMd.trans hMz⟩ (fun w h => h)
       rw [hgr]; show (if 1 < up3.length then _ else _) = _; rw [if_pos (by omega)]; exact hbe
     ·refine wAc (jT (wAj rfl (wAd (wJp ⟨t3, up3, M3, Lb3, _⟩ (.cons (t := 1) rfl (.cons (t := 6) rfl (.cons (t := 7) rfl (.cons (t := 8) rfl (.cons (t := 11) rfl (.cons (t := 12) rfl .nil)))))) ⟨?_, hB3, ht3, huf3, hu03, MLe.refl _⟩ (fun w h => h)))))
      rw [hgr]; show (if 1 < up3.length then _ else _) = _; rw [if_neg (by omega)]
   ·intro d c pre M2 R2 hM2 hpre hI
    obtain ⟨e, upv, Lb3, rfl, he0, rfl, hgr⟩ := hI
    refine wAe (jBr (jTr (wDo (L2 := _) Rm.perm ?_)))
    refine wCd (rs := [_, _, _]) ([]) (by exact List.nil_sublist _) rfl (.cons (.agg rfl rfl rfl) (.cons (.one rfl rfl rfl) (.cons (.one rfl rfl rfl) .nil))) ?_
    refine ⟨?_, rfl⟩
    rw [putF_in hask hnd0, putIn_grw (by rw [h34]; decide) hgr]; exact ⟨he0, rfl⟩
end Go.Proofs.YtoincdcejjdgkaaGreat
