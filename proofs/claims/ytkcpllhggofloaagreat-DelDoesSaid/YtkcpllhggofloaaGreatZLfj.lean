/- Walks: the document's nodes shrunk, above a leaf. -/
import Derived.Test.YtkcpllhggofloaaGreatZLfi
namespace Go.Proofs.YtkcpllhggofloaaGreat
set_option linter.unusedVariables false
set_option linter.unusedSectionVars false
set_option linter.unusedSimpArgs false
open Go.RowKit
structure UpK (s : Sto) (q : Ky) (l : Nat) (xs : List It) (p : Nat) (hp : p < xs.length) (ys : List It) : Prop where
 nd : wBk s xs[p].ref.toNat = some ((l : Int), ys)
 rng : 8 ≤ xs[p].ref ∧ xs[p].ref < 256
 shp : Shp s l ys
 srt : Srt (wCh s l ys)
 has : ∃ y ∈ wCh s l ys, y.key = q
 eq : dnR s q (l + 1) xs = match dnR s q l ys with | .error e => .error e | .ok (t, l1, h) => upD t ⟨((l + 1 : Nat) : Int), xs, p⟩ l1 h
 cases : (∃ e, dnR s q l ys = .error e ∧ (e = 9 ∨ e = 70)) ∨ ∃ t l1 h, dnR s q l ys = .ok (t, l1, h) ∧ DnOk s t q l ys xs[p].ref.toNat l1 h
theorem up_known {s : Sto} {q : Ky} (hst : wCc s) {l : Nat} {xs : List It} {k : Nat} (hnd : wBk s k = some (((l + 1 : Nat) : Int), xs)) (hshp : Shp s (l + 1) xs) (hsrt : Srt (wCh s (l + 1) xs)) (hf : ∃ y ∈ wCh s (l + 1) xs, y.key = q) : ∃ hp : wAt xs q < xs.length, ∃ ys, UpK s q l xs (wAt xs q) hp ys := by
 have hno := wBo hnd
 have hne := wKf hnd (by omega)
 have hp := wAt_lt (q := q) hne
 obtain ⟨ys, hy1, hy2, hy3, hy4⟩ := hshp _ (List.getElem_mem hp)
 have hkid : kid s xs[wAt xs q] = ys := by unfold kid; rw [hy1]
 have hway : wDf s q (l + 1) xs = ⟨((l + 1 : Nat) : Int), xs, wAt xs q⟩ :: wDf s q l ys := by
  rw [wDf, List.getElem?_eq_getElem hp]; show _ :: wDf s q l (kid s xs[wAt xs q]) = _; rw [hkid]
 obtain ⟨w1, w2, w3⟩ := wKu hshp hsrt hp
 have hmid : ∃ y ∈ wCh s l ys, y.key = q := by
  obtain ⟨y, hy, hyq⟩ := hf
  rw [w1] at hy
  rcases List.mem_append.1 hy with hy | hy
  ·rcases List.mem_append.1 hy with hy | hy
   ·exact absurd hyq (kl_ne (w2 y hy))
   exact ⟨y, by rw [← wCf hy1]; exact hy, hyq⟩
  exact absurd hyq.symm (kl_ne (w3 y hy))
 have hsy : Srt (wCh s l ys) := by
  have h5 := hsrt
  rw [w1] at h5
  have := (List.pairwise_append.1 (List.pairwise_append.1 h5).1).2.1
  rwa [wCf hy1] at this
 have hdl : (wDf s q (l + 1) xs).dropLast = ⟨((l + 1 : Nat) : Int), xs, wAt xs q⟩ :: (wDf s q l ys).dropLast := by
  rw [hway, List.dropLast_cons_of_ne_nil (way_ne s q l ys)]
 have hrf := hno.ref _ (List.getElem_mem hp)
 have hup := hno.up (by omega) _ (List.getElem_mem hp)
 refine ⟨hp, ys, hy1, by omega, hy4, hsy, hmid, ?_, dn_law hst l ys _ hy1 hy4 hsy hmid⟩
 unfold dnR
 rw [hdl, hway, leafF_cons (way_ne s q l ys), dn]
 rfl
structure MkK (s t : Sto) (l : Nat) (xs : List It) (p : Nat) (J : List It) (f m : Nat) (held : Int) : Prop where
 ok : wEv (l : Int) J = true
 key : ∀ x ∈ J, wFp x.key
 fit : f + m ≤ xs.length
 hel : held = 0 ∨ (8 ≤ held ∧ held < 256 ∧ (mkE t (l : Int) J = 0 → wDo (mkS t (l : Int) J) held.toNat = 0))
theorem mk_known {s t : Sto} {q : Ky} (hst : wCc s) {l : Nat} {xs ys : List It} {k : Nat} (hnd : wBk s k = some (((l + 1 : Nat) : Int), xs)) (hshp : Shp s (l + 1) xs) (hsrt : Srt (wCh s (l + 1) xs)) {p : Nat} (hp : p < xs.length) (hU : UpK s q l xs p hp ys) {l1 : List It} {held : Int} (h2 : DnOk s t q l ys xs[p].ref.toNat l1 held) (hl1 : l1 ≠ []) :
  MkK s t l xs p (wBh t ⟨((l + 1 : Nat) : Int), xs, p⟩ l1).1 (wBh t ⟨((l + 1 : Nat) : Int), xs, p⟩ l1).2.1 (wBh t ⟨((l + 1 : Nat) : Int), xs, p⟩ l1).2.2 held := by
 have hno := wBo hnd
 have hy1 := hU.nd
 obtain ⟨A, B, X, Z, hJ⟩ := join_parts (t := t) hp l1 ((l + 1 : Nat) : Int) hshp h2.ext
 obtain ⟨a1, a2⟩ := h2.ext.shp (nb_shp hJ.nbA)
 obtain ⟨b1, b2⟩ := h2.ext.shp (nb_shp hJ.nbB)
 have hshp2 : Shp t l (A ++ l1 ++ B) := (a1.app h2.shp).app b1
 have hall2 : wCh t l (A ++ l1 ++ B) = wCh s l A ++ (wCh s l ys).filter (wJw q) ++ wCh s l B := by rw [wDi, wDi, a2, b2, h2.all]
 have hsrt2 : Srt (wCh t l (A ++ l1 ++ B)) := by
  rw [hall2]
  have h5 := hsrt
  rw [hJ.all, wCf hy1] at h5
  have h6 := (List.pairwise_append.1 (List.pairwise_append.1 h5).1).2.1
  exact List.Pairwise.sublist (((List.Sublist.refl _).append List.filter_sublist).append (List.Sublist.refl _)) h6
 have hitl : ItL l (A ++ l1 ++ B) := ((nb_itl hJ.nbA).app h2.itl).app (nb_itl hJ.nbB)
 have hys5 : ys.length ≤ 5 := (wBo hy1).len
 have hne2 : A ++ l1 ++ B ≠ [] := fun e => hl1 (List.append_eq_nil_iff.1 (List.append_eq_nil_iff.1 e).1).2
 have hok := fit_ok (t := t) (l := l) (by have := hno.lev; omega) (fun _ => hne2) (hJ.len (by have := h2.len; omega)) hitl (wJb hshp2 hsrt2)
 have hlive := shp_live hshp2
 refine ⟨by rw [hJ.eq]; exact hok, by rw [hJ.eq]; exact hitl.key, ?_, ?_⟩
 ·unfold wBh
  cases hn : nxt ⟨((l + 1 : Nat) : Int), xs, p⟩ with
  | none => show p + 1 ≤ _; omega
  | some i =>
   have hi : i < xs.length ∧ (i = p + 1 ∨ i + 1 = p) := by
    unfold nxt at hn
    dsimp only at hn
    split at hn
    ·split at hn
     ·cases hn
     cases hn; omega
    cases hn; omega
   show (match xs[i]? with | none => (l1, p, 1) | some y => _).2.1 + _ ≤ _
   dsimp only
   rw [List.getElem?_eq_getElem hi.1]
   dsimp only
   split
   ·show p + 1 ≤ _; omega
   split
   ·show i + 2 ≤ _; omega
   show p + 2 ≤ _; omega
 rw [hJ.eq]
 rcases h2.hel with h | ⟨c1, c2, x, hx, c3⟩
 ·exact .inl h
 refine .inr ⟨c1, c2, fun e => ?_⟩
 obtain ⟨hr, hz, hc0, _, hcnt⟩ := mk_nd h2.ok hok hitl.key hlive e
 have hxm : x ∈ A ++ l1 ++ B := by simp [hx]
 have hne : held.toNat ≠ wEt (wAx t (A ++ l1 ++ B)) := fun e2 => by
  have := hlive x hxm (by omega)
  rw [c3, e2] at this; exact this hz
 have h5 := hcnt held.toNat (by omega) hne
 have h3 : 0 < ((A ++ l1 ++ B).map (·.ref)).count ((held.toNat : Nat) : Int) := List.count_pos_iff.2 (List.mem_map.2 ⟨x, hxm, by omega⟩)
 exact if_neg (nz_of (by omega))
theorem nxt_none {lv : Int} {xs : List It} {p : Nat} (h1 : p + 1 = xs.length) (h0 : p = 0) : nxt ⟨lv, xs, p⟩ = none := by unfold nxt; dsimp only; rw [if_pos h1, if_pos h0]
theorem nxt_up {lv : Int} {xs : List It} {p : Nat} (h1 : p + 1 < xs.length) : nxt ⟨lv, xs, p⟩ = some (p + 1) := by unfold nxt; dsimp only; rw [if_neg (by omega)]
theorem nxt_dn {lv : Int} {xs : List It} {p : Nat} (h1 : p + 1 = xs.length) (h0 : ¬ p = 0) : nxt ⟨lv, xs, p⟩ = some (p - 1) := by unfold nxt; dsimp only; rw [if_pos h1, if_neg h0]
theorem joinF_no {t : Sto} {w : Stp} {l : List It} (h : nxt w = none) : wBh t w l = (l, w.at_, 1) := by unfold wBh; rw [h]
theorem joinF_at {t : Sto} {w : Stp} {l zs : List It} {i : Nat} (h : nxt w = some i) (hi : i < w.xs.length) (hz : kid t w.xs[i] = zs) : wBh t w l = if 5 < zs.length + l.length then (l, w.at_, 1) else if i < w.at_ then (zs ++ l, i, 2) else (l ++ zs, w.at_, 2) := by
 unfold wBh; rw [h]; dsimp only; rw [List.getElem?_eq_getElem hi]; dsimp only; rw [hz]
theorem ShP.form {r : Except Int (Sto × List It × Int)} {u : Value} {M' : Mem} (h : ShP r u M') (hc : (∃ e, r = .error e ∧ (e = 9 ∨ e = 70)) ∨ ∃ t l h, r = .ok (t, l, h)) : ∃ x a n c hd e, u = .tuple #[.agg (sv4 x).toArray, .slice a n c, .int .i64 hd, .int .i64 e] ∧ ((e ≠ 0 ∧ r = .error e) ∨ (e = 0 ∧ ∃ t l, r = .ok (t, l, hd) ∧ n = l.length ∧ ST M' (.agg (sv4 x).toArray) t ∧ NS M' (.slice a l.length c) l)) := by
 rcases hc with ⟨e, rfl, he⟩ | ⟨t, l, hd, rfl⟩
 ·exact ⟨(sk0, sk0, sk0, sk0), none, 0, 0, 0, e, h, .inl ⟨by rcases he with rfl | rfl <;> decide, rfl⟩⟩
 obtain ⟨x, a, c, e, h1, h2⟩ := h
 exact ⟨x, a, _, c, hd, 0, e, .inr ⟨rfl, t, l, rfl, rfl, h1, h2⟩⟩
theorem upD_nil {t : Sto} {w : Stp} {held : Int} : upD t w [] held = .ok (t, cutF w, 0) := if_pos rfl
theorem single_err {t : Sto} {lv : Int} {l : List It} {held : Int} (h : mkE t lv l ≠ 0) : wEb t lv l held = .error (mkE t lv l) := if_neg h
theorem wLa {t : Sto} {lv : Int} {l : List It} {held : Int} (h : mkE t lv l = 0) (hh : held = 0 ∨ (8 ≤ held ∧ held < 256 ∧ (mkE t lv l = 0 → wDo (mkS t lv l) held.toNat = 0))) : wEb t lv l held = .ok ((if held = 0 then mkS t lv l else wBx (mkS t lv l) held.toNat), (wEt (wAx t l) : Int)) := by
 unfold wEb
 rw [if_pos h]
 rcases hh with rfl | ⟨h8, _, hz⟩
 ·rfl
 rw [if_pos (by omega), if_pos (hz h), if_neg (by omega)]
theorem upD_some {t : Sto} {w : Stp} {l : List It} {held : Int} (hl : l ≠ []) : upD t w l held = match wEb t (w.lv - 1) (wBh t w l).1 held with | .error e => .error e | .ok (u, a) => .ok (u, setF w (wBh t w l) a, a) := if_neg hl
theorem wHr (s : Sto) (u : Value) (M : Mem) (h : ST M u s) (hst : wCc s) (k : Int) (hk : k = 0 ∨ (0 ≤ k ∧ k < 256 ∧ wDo s k.toNat = 0)) : SpecL Tryz.prog 52 #[u, .int .i64 k] M [] fun u M' L' => (∃ x, u = .agg (sv4 x).toArray ∧ ST M' (.agg (sv4 x).toArray) (if k = 0 then s else wBx s k.toNat)) ∧ L' = [] := by
 obtain ⟨q1, q2, q3, q4, rfl, h1, h2, h3, h4⟩ := h.ex
 exact (rfreed_walk s _ _ _ _ M h1 h2 h3 h4 hst k hk).mono fun u M' L' ⟨hS, hL⟩ => ⟨by obtain ⟨x, rfl⟩ := hS.form; exact ⟨x, rfl, hS⟩, hL⟩
set_option maxHeartbeats 8000000 in
theorem rshrunk_up (s : Sto) (x0 : Sk × Sk × Sk × Sk) (M : Mem) (hS : ST M (.agg (sv4 x0).toArray) s) (hst : wCc s) (k : Int) (hk : 0 ≤ k ∧ k < 256) (q : Ky) (l : Nat) (xs : List It) (hnd : wBk s k.toNat = some (((l + 1 : Nat) : Int), xs)) (hshp : Shp s (l + 1) xs) (hsrt : Srt (wCh s (l + 1) xs)) (hf : ∃ y ∈ wCh s (l + 1) xs, y.key = q) (ih : ShS s q l) :
  SpecL Tryz.prog 49 #[.agg (sv4 x0).toArray, .int .i64 k, .agg (wBb q).toArray] M [] fun u M' L' => ShP (dnR s q (l + 1) xs) u M' ∧ L' = [] := by
 have hno := wBo hnd
 have hx5 := hno.len
 have hlv := hno.lev
 obtain ⟨hp9, ys, hU⟩ := up_known hst hnd hshp hsrt hf
 have hsx := wJb hshp hsrt
 obtain ⟨p, hpe⟩ : ∃ p, p = wAt xs q := ⟨_, rfl⟩
 have hp0 : p < xs.length := by rw [hpe]; exact hp9
 replace hU : UpK s q l xs p hp0 ys := by subst hpe; exact hU
 refine wAf (vs := [_, _, _]) 157 _ Tryz.func49 rfl Tryz.ntmps49 rfl rfl ?_; intro W
 refine wAb (wAa (wAy rfl rfl (wCm (cs := [_, _, _, _]) rfl rfl rfl rfl) ?_)); rintro _ _ _ ⟨b3, rfl, rfl, rfl⟩
 refine wAy rfl rfl (wCm (cs := [_, _, _]) rfl rfl rfl rfl) ?_; rintro _ _ _ ⟨b5, rfl, rfl, rfl⟩
 refine sAl rfl fun b6 => ?_
 refine jp rfl (jp rfl (jp rfl (wAc (jT (wAb (wAa (sLL rfl ?_)))))))
 refine jp rfl (wAy rfl rfl (wAu rfl rfl rfl rfl rfl (by kernel_rfl) (wDk s _ M hS hst k (by omega) hnd)) ?_); rintro _ M1 _ ⟨hM1, _, rfl, ⟨⟨a, c, ps, rfl, hc, hs, hp, hb⟩, rfl⟩⟩
 simp only [nA]
 refine jp rfl (jp rfl (jp rfl (sAl rfl fun b10 => ?_)))
 refine sSt rfl ?_
 refine jp rfl (wAc (jT (wAb (wAb (wAa (sFL rfl rfl ?_))))))
 refine jf rfl (decide_eq_false (by omega)) ?_
 refine wAc (jT (wAk rfl (wAd (jT (wAb ?_)))))
 have hNS : NS M1 (.slice a xs.length c) xs := ⟨a, c, ps, rfl, hc, hs, hp, hb⟩
 refine wAa (sLL rfl ?_)
 refine sLL rfl ?_
 refine wAi rfl rfl (wBr rfl rfl rfl rfl rfl (by kernel_rfl) (by have h1 := rway_walk ((l + 1 : Nat) : Int) xs a c ps M1 hc hs hp hb hx5 (by omega) hsx q; rw [← hpe] at h1; exact h1)) ?_
 refine jp rfl (wAc (jT (wAb (wFr ([(b10, .cells [Value.int .i64 ((l + 1 : Nat) : Int), .slice a xs.length c].toArray 53 (0, 0)), (b6, .cells [Value.slice none 0 0, .slice none 0 0, .slice none 0 0, .slice none 0 0].toArray 28 (0, 0)), (b5, .cells (wBb q).toArray 31 (0, 0)), (b3, .cells (sv4 x0).toArray 28 (0, 0))]) (by kernel_rfl) ((fun _ h => h)) ?_))))
 refine wDx (i := 0) rfl (by kernel_rfl) (by kernel_rfl) rfl rfl (qLdL rfl rfl rfl rfl rfl) ?_
 refine wDx (i := 1) rfl (by kernel_rfl) (by kernel_rfl) rfl rfl (wBg rfl rfl rfl rfl rfl) ?_
 refine wDx (i := 2) rfl (by kernel_rfl) (by kernel_rfl) rfl rfl (qLd rfl rfl rfl rfl (CJ.loc rfl)) ?_
 refine wEg (i := 3) rfl (by kernel_rfl) (by kernel_rfl) rfl ?_
 obtain ⟨sb1, so1, va1, vc1, e1, hcl1, hvc1, hvs1⟩ := wFg hs hp hb hp0 (i := ((p : Nat) : Int)) rfl
 refine wDx (i := 4) rfl (by kernel_rfl) (by kernel_rfl) rfl rfl (wCe rfl rfl rfl rfl e1 (by omega)) ?_
 refine wDx (i := 5) rfl (by kernel_rfl) (by kernel_rfl) rfl rfl (wBg rfl rfl rfl rfl rfl) ?_
 refine wDx (i := 6) rfl (by kernel_rfl) (by kernel_rfl) rfl rfl (qLd rfl rfl rfl rfl ((hcl1 3 _ rfl).cj _)) ?_
 refine wDx (i := 7) rfl (by kernel_rfl) (by kernel_rfl) rfl rfl (qLdL rfl rfl rfl rfl rfl) ?_
 refine wFs (α := Mem × (Sk × Sk × Sk × Sk) × (Option Addr × Nat × Nat) × Int × Int × Nat) (fun y => MLe M1 y.1 ∧ ((y.2.2.2.2.1 ≠ 0 ∧ dnR s q l ys = .error y.2.2.2.2.1) ∨ (y.2.2.2.2.1 = 0 ∧ ∃ t l1, dnR s q l ys = .ok (t, l1, y.2.2.2.1) ∧ y.2.2.1.2.1 = l1.length ∧ ST y.1 (.agg (sv4 y.2.1).toArray) t ∧ NS y.1 (.slice y.2.2.1.1 l1.length y.2.2.1.2.2) l1))) (fun y => [(3, .pointer (some ⟨b3, 0, none⟩)), (6, .pointer (some ⟨b6, 0, none⟩)), (10, .pointer (some ⟨b10, 0, none⟩)), (14, .int .i64 ((p : Nat) : Int)), (15, .pointer (some ⟨y.2.2.2.2.2, 0, none⟩)), (74, .agg (sv4 y.2.1).toArray), (75, .slice y.2.2.1.1 y.2.2.1.2.1 y.2.2.1.2.2), (76, .int .i64 y.2.2.2.1), (77, .int .i64 y.2.2.2.2.1)]) (fun y => y.1) (fun y => [(y.2.2.2.2.2, .cells [Value.slice none 0 0, .slice none 0 0, .slice none 0 0, .slice none 0 0].toArray 28 (0, 0)), (b10, .cells [Value.int .i64 ((l + 1 : Nat) : Int), .slice a xs.length c].toArray 53 (0, 0)), (b6, .cells [Value.slice none 0 0, .slice none 0 0, .slice none 0 0, .slice none 0 0].toArray 28 (0, 0)), (b5, .cells (wBb q).toArray 31 (0, 0)), (b3, .cells (sv4 x0).toArray 28 (0, 0))]) 4 #[true, true, true, true, true, true, true, true, true, true, true, true, true, true, true, false, false, false, false] ?_ (fun rest => ?_)
 ·rintro ⟨M2, x15, ⟨a16, n16, c16⟩, hd17, e18, b15⟩ ⟨hM2, hsh2⟩
  try dsimp only at hM2 hsh2 ⊢
  refine wHa (i := 15) (by kernel_rfl) ?_
  refine js_s rfl rfl (wBm rfl rfl rfl rfl rfl rfl rfl rfl) ?_; rintro _ _ _ ⟨rfl, rfl⟩
  refine wAo hM2 (by first | exact fun _ h => h | exact fun _ h => List.mem_cons_of_mem _ h) ?_
  refine wEg (i := 16) rfl (by kernel_rfl) (by kernel_rfl) rfl ?_
  refine wEg (i := 17) rfl (by kernel_rfl) (by kernel_rfl) rfl ?_
  refine wEg (i := 18) rfl (by kernel_rfl) (by kernel_rfl) rfl ?_
  refine wJy (by kernel_rfl) ?_
  refine jPn (jT (wAb (wAb (wAa (jp rfl (js rfl (fun h79 => ?_) (fun h79 => ?_)))))))
  ·refine wAc (jT (wAg rfl (wAb (wAa (wAi rfl rfl (wBa (cs := [_, _, _, _]) rfl rfl rfl (by rfl)) ?_)))))
   refine jp rfl (sSt rfl ?_)
   refine jp rfl (jp rfl (jp rfl (wAc (jT (wAe (jTr (wDa (rs := [_, _, _, _]) ([]) (by exact List.nil_sublist _) rfl (.cons (.agg rfl rfl rfl) (.cons (.tmp rfl) (.cons (.tmp rfl) (.cons (.tmp rfl) .nil)))) ?_)))))))
   rcases hsh2 with ⟨_, hdn⟩ | ⟨h0, _⟩
   ·exact ⟨by rw [hU.eq, hdn]; rfl, rfl⟩
   exact absurd h0 h79
  refine wAc (jT (wAk rfl (wAd (jT (wAb (wAb ?_))))))
  obtain ⟨rfl, t, l1, hdn, rfl, hS15, hN16⟩ := hsh2.resolve_left (fun h => h.1 (by omega))
  obtain ⟨t2, l2, hd2, hdn2, hok2⟩ := hU.cases.resolve_left (fun ⟨e, h, _⟩ => by rw [hdn] at h; cases h)
  rw [hdn] at hdn2
  cases hdn2
  have hl15 := hok2.len
  have hy5 := (wBo hU.nd).len
  refine wAa (jp rfl (wAi rfl rfl (wBj rfl rfl rfl) ?_))
  refine js rfl (fun h84 => ?_) (fun h84 => ?_)
  ·refine wAc (jT (wAg rfl (wAb (wDb (p := { A := fun i => !([5].contains i), U := fun i => !([5, 6, 7, 8].contains i) }) [(0, true), (1, true), (2, true), (3, true), (4, false), (5, false), (6, true), (7, true), (8, true)] M2 ([(b15, .cells (sv4 x15).toArray 28 (0, 0)), (b10, .cells [Value.int .i64 ((l + 1 : Nat) : Int), .slice a xs.length c].toArray 53 (0, 0)), (b6, .cells [Value.slice none 0 0, .slice none 0 0, .slice none 0 0, .slice none 0 0].toArray 28 (0, 0)), (b5, .cells (wBb q).toArray 31 (0, 0)), (b3, .cells (sv4 x0).toArray 28 (0, 0))]) ([]) (by kernel_rfl) (by kernel_rfl) (by kernel_rfl) (by kernel_rfl) rfl ((fun _ h => h)) (MLe.refl _) (by simp) ?_))))
   refine dLL rfl rfl ?_
   refine dFa rfl rfl ?_
   refine dLd rfl rfl ?_
   refine dp rfl rfl ?_
   refine wHc rfl rfl rfl (wAu rfl rfl rfl rfl rfl (by kernel_rfl) (wGd xs [] _ _ M2 (hNS.mono hM2) ⟨none, 0, [], rfl, Nat.le_refl _, SM.nil, rfl, fun _ h => by cases h⟩ p 1 (by omega) (by omega) (by omega) (by simp))) ?_; rintro _ M3 _ ⟨hM3, _, rfl, ⟨⟨ia, ic, ips, rfl, hic, his, hip, hib⟩, rfl⟩⟩
   refine ⟨_, _, MLe.refl _, hM3, fun _ h => h, by simp, ?_⟩
   simp only [nA]
   refine jd_e rfl rfl (wBm rfl rfl rfl rfl rfl rfl rfl rfl) ?_; rintro _ _ _ ⟨rfl, rfl⟩
   refine ⟨hM3, by simp, ?_⟩
   refine ep rfl rfl ?_
   refine ep rfl rfl ?_
   refine ep rfl rfl ?_
   refine wFf ?_
   refine jPn (jT (wAe (jTr (wDa (rs := [_, _, _, _]) ([]) (by exact List.nil_sublist _) rfl (.cons (.agg rfl rfl rfl) (.cons (.tmp rfl) (.cons (.tmp rfl) (.cons (.tmp rfl) .nil)))) ?_))))
   have hl1 : l1 = [] := List.eq_nil_of_length_eq_zero (by omega)
   subst hl1
   refine ⟨?_, rfl⟩
   rw [hU.eq, hdn]; show ShP (upD t _ [] hd17) _ _; rw [upD_nil]
   have hcut : cutF ⟨((l + 1 : Nat) : Int), xs, p⟩ = xs.take p ++ [] ++ xs.drop (p + 1) := by unfold cutF; rw [List.append_nil]
   exact ⟨x15, ia, ic, by rw [hcut]; rfl, hS15.mono hM3, by rw [hcut]; exact ⟨ia, ic, ips, rfl, hic, his, hip, hib⟩⟩
  refine wAc (jT (wAk rfl (wAd (jT (wAb (wAa (jp rfl (jp rfl (jp rfl (wAc (jT (wAb (wAa (sLL rfl ?_))))))))))))))
  refine jp rfl (wAi rfl rfl (wBr rfl rfl rfl rfl rfl (by kernel_rfl) (rneigh_walk ((l + 1 : Nat) : Int) xs.length a c M2 p hp0 (by omega))) ?_)
  refine jp rfl (wAc (jT (jc_merge (α := Mem × Option Addr × Nat) (fun z => [(3, .pointer (some ⟨b3, 0, none⟩)), (6, .pointer (some ⟨b6, 0, none⟩)), (10, .pointer (some ⟨b10, 0, none⟩)), (15, .pointer (some ⟨b15, 0, none⟩)), (16, .slice z.2.1 (wBh t ⟨((l + 1 : Nat) : Int), xs, p⟩ l1).1.length z.2.2), (17, .int .i64 hd17), (19, .int .i64 (((wBh t ⟨((l + 1 : Nat) : Int), xs, p⟩ l1).2.1 : Nat) : Int)), (20, .int .i64 (((wBh t ⟨((l + 1 : Nat) : Int), xs, p⟩ l1).2.2 : Nat) : Int))]) (fun z => z.1) (fun _ => [(b15, .cells (sv4 x15).toArray 28 (0, 0)), (b10, .cells [Value.int .i64 ((l + 1 : Nat) : Int), .slice a xs.length c].toArray 53 (0, 0)), (b6, .cells [Value.slice none 0 0, .slice none 0 0, .slice none 0 0, .slice none 0 0].toArray 28 (0, 0)), (b5, .cells (wBb q).toArray 31 (0, 0)), (b3, .cells (sv4 x0).toArray 28 (0, 0))]) (fun z => MLe M2 z.1 ∧ NS z.1 (.slice z.2.1 (wBh t ⟨((l + 1 : Nat) : Int), xs, p⟩ l1).1.length z.2.2) (wBh t ⟨((l + 1 : Nat) : Int), xs, p⟩ l1).1) ?_ ?_)))
  ·rintro ⟨M3, a16b, c16b⟩ ⟨hM3, hN3⟩
   try dsimp only at hM3 hN3 ⊢
   refine wAb (wAa (sLL rfl ?_))
   refine sFL rfl rfl ?_
   refine wAi rfl rfl (qEq (qA rfl rfl rfl rfl rfl (by omega)) (v' := .int .i64 (l : Int)) (by congr 1; omega)) ?_
   refine jp rfl ?_
   have hl1n : l1 ≠ [] := fun e => h84 (by rw [e]; rfl)
   have hmk := mk_known hst hnd hshp hsrt hp0 hU hok2 hl1n
   refine wAy rfl rfl (wAu rfl rfl rfl rfl rfl (by kernel_rfl) (rmade13_spec t _ M3 (hS15.mono hM3) hok2.ok (l : Int) (wBh t ⟨((l + 1 : Nat) : Int), xs, p⟩ l1).1 _ hN3 hmk.ok hmk.key)) ?_; rintro _ M6 _ ⟨hM6, _, rfl, ⟨⟨x24, ky, rr, rfl, hma⟩, rfl⟩⟩
   simp only [nA]
   refine jp rfl (jp rfl (jp rfl (jp rfl (sAl rfl fun b24 => ?_))))
   refine sAl rfl fun b25 => ?_
   refine sSt rfl ?_
   refine sSt rfl ?_
   refine jp rfl (wAc (jT (wAb (wAb (wAa (jp rfl (js rfl (fun h142 => ?_) (fun h142 => ?_))))))))
   ·refine wAc (jT (wAg rfl (wAb (wAa (wAi rfl rfl (wBa (cs := [_, _, _, _]) rfl rfl rfl (by rfl)) ?_)))))
    refine jp rfl (sSt rfl ?_)
    refine jp rfl (jp rfl (jp rfl (wAc (jT (wAe (jTr (wDa (rs := [_, _, _, _]) ([]) (by exact List.nil_sublist _) rfl (.cons (.agg rfl rfl rfl) (.cons (.tmp rfl) (.cons (.tmp rfl) (.cons (.tmp rfl) .nil)))) ?_)))))))
    refine ⟨?_, rfl⟩
    rw [hU.eq, hdn]; show ShP (upD t _ l1 hd17) _ _; rw [upD_some hl1n]
    have hlv1 : (((l + 1 : Nat) : Int) : Int) - 1 = (l : Int) := by omega
    show ShP (match wEb t (((l + 1 : Nat) : Int) - 1) _ _ with | .error e => _ | .ok (u, a) => _) _ _
    rw [hlv1, single_err h142]; rfl
   refine wAc (jT (wAk rfl (wAd (jT (wAb ?_)))))
   have hm0 : mkE t (l : Int) (wBh t ⟨((l + 1 : Nat) : Int), xs, p⟩ l1).1 = 0 := Classical.not_not.1 h142
   obtain ⟨hS24, hky, hrr⟩ := hma hm0
   have hmo := mkE_ok hm0 hok2.ok.1.2.1
   have hokS := mkS_ok hok2.ok hmk.ok hmo.2.2.1 hmo.2.2.2
   refine wFr ([(b25, .cells (it0 ky rr).toArray 46 (0, 0)), (b24, .cells (sv4 x24).toArray 28 (0, 0)), (b10, .cells [Value.int .i64 ((l + 1 : Nat) : Int), .slice a xs.length c].toArray 53 (0, 0))]) (by kernel_rfl) (by simp) ?_
   refine wDx (i := 0) rfl (by kernel_rfl) (by kernel_rfl) rfl rfl (qLdL rfl rfl rfl rfl rfl) ?_
   refine wEg (i := 1) rfl (by kernel_rfl) (by kernel_rfl) rfl ?_
   refine wDx (i := 3) rfl (by kernel_rfl) (by kernel_rfl) rfl rfl (wBg rfl rfl rfl rfl rfl) ?_
   refine wDx (i := 4) rfl (by kernel_rfl) (by kernel_rfl) rfl rfl (qLd rfl rfl rfl rfl (CJ.loc rfl)) ?_
   refine wEg (i := 5) rfl (by kernel_rfl) (by kernel_rfl) rfl ?_
   refine wEg (i := 6) rfl (by kernel_rfl) (by kernel_rfl) rfl ?_
   refine wDx (i := 7) rfl (by kernel_rfl) (by kernel_rfl) rfl rfl (qLdL rfl rfl rfl rfl rfl) ?_
   refine wDx (i := 10) rfl (by kernel_rfl) (by kernel_rfl) rfl rfl (wBg rfl rfl rfl rfl rfl) ?_
   refine wDx (i := 11) rfl (by kernel_rfl) (by kernel_rfl) rfl rfl (qLd rfl rfl rfl rfl (CJ.loc rfl)) ?_
   refine wFs (α := Mem × (Sk × Sk × Sk × Sk) × Nat) (fun y => MLe M6 y.1 ∧ ST y.1 (.agg (sv4 y.2.1).toArray) (if hd17 = 0 then (mkS t (l : Int) (wBh t ⟨((l + 1 : Nat) : Int), xs, p⟩ l1).1) else wBx (mkS t (l : Int) (wBh t ⟨((l + 1 : Nat) : Int), xs, p⟩ l1).1) hd17.toNat) ∧ y.1 y.2.2 = some (.cells (it0 ky rr).toArray 46 (0, 0))) (fun y => [(6, .pointer (some ⟨b6, 0, none⟩)), (147, .agg (sv4 y.2.1).toArray), (149, .slice a xs.length c), (150, .int .i64 (((wBh t ⟨((l + 1 : Nat) : Int), xs, p⟩ l1).2.1 : Nat) : Int)), (151, .int .i64 (((wBh t ⟨((l + 1 : Nat) : Int), xs, p⟩ l1).2.2 : Nat) : Int)), (153, .slice (some ⟨y.2.2, 0, none⟩) 1 1), (156, .int .i64 rr)]) (fun y => y.1) (fun y => [(b25, .cells (it0 ky rr).toArray 46 (0, 0)), (b24, .cells (sv4 x24).toArray 28 (0, 0)), (b15, .cells (sv4 x15).toArray 28 (0, 0)), (b10, .cells [Value.int .i64 ((l + 1 : Nat) : Int), .slice a xs.length c].toArray 53 (0, 0)), (b6, .cells [Value.slice none 0 0, .slice none 0 0, .slice none 0 0, .slice none 0 0].toArray 28 (0, 0)), (b5, .cells (wBb q).toArray 31 (0, 0)), (b3, .cells (sv4 x0).toArray 28 (0, 0))]) 5 #[true, true, true, true, true, true, true, true, true, false, true, true, false, false, false, false] ?_ (fun rest => ?_)
   ·rintro ⟨Mr, x29, b153⟩ ⟨hMr, hS29, e153⟩
    try dsimp only at hMr hS29 e153 ⊢
    refine wHa (i := 9) (by kernel_rfl) ?_
    refine wDe rfl rfl rfl (wAu rfl rfl rfl rfl rfl (by kernel_rfl) (wGd xs [(⟨ky, rr, []⟩ : It)] _ _ Mr (hNS.mono ((hM2.trans hM3).trans (hM6.trans hMr))) ⟨_, 1, [((⟨ky, rr, []⟩ : It), .slice none 0 0)], rfl, Nat.le_refl _, SM.of_block (l := it0 ky rr) e153, rfl, fun p hp => by rw [List.mem_singleton.1 hp]; exact BS.nil⟩ (((wBh t ⟨((l + 1 : Nat) : Int), xs, p⟩ l1).2.1 : Nat) : Int) (((wBh t ⟨((l + 1 : Nat) : Int), xs, p⟩ l1).2.2 : Nat) : Int) (by omega) (by have := hmk.fit; omega) (by omega) (by simp))) ?_; rintro _ M9 _ ⟨hM9, _, rfl, ⟨⟨fa, fc, fps, rfl, hfc, hfs, hfp, hfb⟩, rfl⟩⟩
    refine wAo (hMr.trans hM9) (by simp) ?_
    simp only [nA]
    refine wHa (i := 12) (by kernel_rfl) ?_
    refine js_s rfl rfl (wBm rfl rfl rfl rfl rfl rfl rfl rfl) ?_; rintro _ _ _ ⟨rfl, rfl⟩
    refine wAo (hMr.trans hM9) (by simp) ?_
    refine wEg (i := 13) rfl (by kernel_rfl) (by kernel_rfl) rfl ?_
    refine wEg (i := 14) rfl (by kernel_rfl) (by kernel_rfl) rfl ?_
    refine wEg (i := 15) rfl (by kernel_rfl) (by kernel_rfl) rfl ?_
    refine wJy (by kernel_rfl) ?_
    refine jPn (jT (wAe (wDa (rs := [_, _, _, _]) ([]) (by exact List.nil_sublist _) rfl (.cons (.agg rfl rfl rfl) (.cons (.tmp rfl) (.cons (.tmp rfl) (.cons (.tmp rfl) .nil)))) ?_)))
    subst hky hrr
    refine ⟨?_, rfl⟩
    rw [hU.eq, hdn]; show ShP (upD t _ l1 hd17) _ _; rw [upD_some hl1n]
    have hlv1 : (((l + 1 : Nat) : Int) : Int) - 1 = (l : Int) := by omega
    show ShP (match wEb t (((l + 1 : Nat) : Int) - 1) _ _ with | .error e => _ | .ok (u, a) => _) _ _
    rw [hlv1, wLa hm0 hmk.hel]
    exact ⟨x29, fa, fc, rfl, hS29.mono hM9, fa, fc, fps, rfl, hfc, hfs, hfp, hfb⟩
   refine wBc [2, 8] (by kernel_rfl) rfl ⟨?_, ?_, trivial⟩
   ·refine wDe rfl rfl rfl (wAu rfl rfl rfl rfl rfl (by kernel_rfl) (wHr (mkS t (l : Int) (wBh t ⟨((l + 1 : Nat) : Int), xs, p⟩ l1).1) _ _ (by first | exact hS24 | exact hS24.mono hM8) hokS hd17 (hmk.hel.imp id fun h => ⟨by omega, h.2.1, h.2.2 hm0⟩))) ?_; rintro _ M29 _ ⟨hM2, _, rfl, ⟨⟨x29, rfl, hS29⟩, rfl⟩⟩
    refine wAo (hM2) (by simp) ?_
    simp only [nA]
    refine wBc [8] (by kernel_rfl) rfl ⟨?_, trivial⟩
    refine wDe rfl rfl rfl (wAn (cs := [_, _, _, _, _]) rfl rfl rfl (by rfl) (by rfl) (by rfl)) ?_; rintro _ _ _ ⟨b153, rfl, rfl, rfl⟩
    refine wAo (by first | exact MLe.refl _ | exact hM2) (by simp) ?_
    refine wCd b153 (by simp) (by simp) ?_
    intro M8 hM8 e153
    refine wCa (listed' := #[true, true, true, true, true, true, true, true, true, false, true, true, false, false, false, false]) (by kernel_rfl) (wBy (.cons (t := 6) rfl (.cons (t := 147) rfl (.cons (t := 149) rfl (.cons (t := 150) rfl (.cons (t := 151) rfl (.cons (t := 153) rfl (.cons (t := 156) rfl .nil))))))) ?_)
    exact rest (_, x29, b153) ⟨(hM2.trans hM8), hS29.mono hM8, e153⟩
   refine wDe rfl rfl rfl (wAn (cs := [_, _, _, _, _]) rfl rfl rfl (by rfl) (by rfl) (by rfl)) ?_; rintro _ _ _ ⟨b153, rfl, rfl, rfl⟩
   refine wAo (by first | exact MLe.refl _ | exact hM2) (by simp) ?_
   refine wCd b153 (by simp) (by simp) ?_
   intro M8 hM8 e153
   refine wBc [2] (by kernel_rfl) rfl ⟨?_, trivial⟩
   refine wDe rfl rfl rfl (wAu rfl rfl rfl rfl rfl (by kernel_rfl) (wHr (mkS t (l : Int) (wBh t ⟨((l + 1 : Nat) : Int), xs, p⟩ l1).1) _ _ (by first | exact hS24 | exact hS24.mono hM8) hokS hd17 (hmk.hel.imp id fun h => ⟨by omega, h.2.1, h.2.2 hm0⟩))) ?_; rintro _ M29 _ ⟨hM2, _, rfl, ⟨⟨x29, rfl, hS29⟩, rfl⟩⟩
   refine wAo ((hM8).trans hM2) (by simp) ?_
   simp only [nA]
   refine wCa (listed' := #[true, true, true, true, true, true, true, true, true, false, true, true, false, false, false, false]) (by kernel_rfl) (wBy (.cons (t := 6) rfl (.cons (t := 147) rfl (.cons (t := 149) rfl (.cons (t := 150) rfl (.cons (t := 151) rfl (.cons (t := 153) rfl (.cons (t := 156) rfl .nil))))))) ?_)
   exact rest (_, x29, b153) ⟨(hM8.trans hM2), hS29, hM2 _ _ e153⟩
  refine wAb (wAa (jp rfl (js rfl (fun h95 => ?_) (fun h95 => ?_))))
  ·refine wAc (jT (wAg rfl (wAb ?_)))
   obtain ⟨i, hi0, hin, hiv⟩ : ∃ i, ∃ hi : i < xs.length, nxt ⟨((l + 1 : Nat) : Int), xs, p⟩ = some i ∧ (if p + 1 < xs.length then (p : Int) + 1 else (p : Int) - 1) = (i : Int) := by
    by_cases h : p + 1 < xs.length
    ·exact ⟨p + 1, h, nxt_up h, by rw [if_pos h]; omega⟩
    rw [if_neg h] at h95; exact ⟨p - 1, by omega, nxt_dn (by omega) (by omega), by rw [if_neg h]; omega⟩
   rw [hiv]
   obtain ⟨zs, hz1, hz2, hz3, hz4⟩ := hshp _ (List.getElem_mem hi0)
   have hkd : kid t xs[i] = zs := (kid_nd hok2.ext hz1).1
   have hz5 := (wBo hz1).len
   obtain ⟨sb2, so2, va2, vc2, e2, hcl2, hvc2, hvs2⟩ := wFg hs hp hb hi0 (i := ((i : Nat) : Int)) rfl
   have hxr : 0 ≤ xs[i].ref ∧ xs[i].ref ≤ 100000 := by have := hno.ref _ (List.getElem_mem hi0); have := hno.up (by omega) _ (List.getElem_mem hi0); omega
   refine wFr ([(b15, .cells (sv4 x15).toArray 28 (0, 0)), (b10, .cells [Value.int .i64 ((l + 1 : Nat) : Int), .slice a xs.length c].toArray 53 (0, 0)), (b6, .cells [Value.slice none 0 0, .slice none 0 0, .slice none 0 0, .slice none 0 0].toArray 28 (0, 0)), (b5, .cells (wBb q).toArray 31 (0, 0)), (b3, .cells (sv4 x0).toArray 28 (0, 0))]) (by kernel_rfl) ((fun _ h => h)) ?_
   refine wDx (i := 0) rfl (by kernel_rfl) (by kernel_rfl) rfl rfl (qLdL rfl rfl rfl rfl rfl) ?_
   refine wDx (i := 1) rfl (by kernel_rfl) (by kernel_rfl) rfl rfl (wBg rfl rfl rfl rfl rfl) ?_
   refine wDx (i := 2) rfl (by kernel_rfl) (by kernel_rfl) rfl rfl (qLd rfl rfl rfl rfl (CJ.loc rfl)) ?_
   refine wEg (i := 3) rfl (by kernel_rfl) (by kernel_rfl) rfl ?_
   refine wDx (i := 4) rfl (by kernel_rfl) (by kernel_rfl) rfl rfl (wCe rfl rfl rfl rfl e2 (by omega)) ?_
   refine wDx (i := 5) rfl (by kernel_rfl) (by kernel_rfl) rfl rfl (wBg rfl rfl rfl rfl rfl) ?_
   refine wDx (i := 6) rfl (by kernel_rfl) (by kernel_rfl) rfl rfl (qLd rfl rfl rfl rfl (((hcl2 3 _ rfl).mono hM2).cj _)) ?_
   refine wFs (α := Mem × Option Addr × Nat × Nat) (fun y => MLe M2 y.1 ∧ NS y.1 (.slice y.2.1 zs.length y.2.2.1) zs) (fun y => [(3, .pointer (some ⟨b3, 0, none⟩)), (6, .pointer (some ⟨b6, 0, none⟩)), (10, .pointer (some ⟨b10, 0, none⟩)), (14, .int .i64 ((p : Nat) : Int)), (15, .pointer (some ⟨b15, 0, none⟩)), (16, .slice a16 l1.length c16), (17, .int .i64 hd17), (19, .int .i64 ((p : Nat) : Int)), (20, .int .i64 1), (21, .int .i64 ((i : Nat) : Int)), (22, .pointer (some ⟨y.2.2.2, 0, none⟩)), (105, .agg #[.int .i64 (l : Int), .slice y.2.1 zs.length y.2.2.1]), (106, .bool true)]) (fun y => y.1) (fun y => [(y.2.2.2, .cells [Value.int .i64 0, .slice none 0 0].toArray 53 (0, 0)), (b15, .cells (sv4 x15).toArray 28 (0, 0)), (b10, .cells [Value.int .i64 ((l + 1 : Nat) : Int), .slice a xs.length c].toArray 53 (0, 0)), (b6, .cells [Value.slice none 0 0, .slice none 0 0, .slice none 0 0, .slice none 0 0].toArray 28 (0, 0)), (b5, .cells (wBb q).toArray 31 (0, 0)), (b3, .cells (sv4 x0).toArray 28 (0, 0))]) 2 #[true, true, true, true, true, true, true, true, true, true, true, true, false, false] ?_ (fun rest => ?_)
   ·rintro ⟨M4, za, zc, b22⟩ ⟨hM4, hNz⟩
    try dsimp only at hM4 hNz ⊢
    refine wHa (i := 12) (by kernel_rfl) ?_
    refine js_s rfl rfl (wBm rfl rfl rfl rfl rfl rfl rfl rfl) ?_; rintro _ _ _ ⟨rfl, rfl⟩
    refine wAo hM4 (by first | exact fun _ h => h | exact fun _ h => List.mem_cons_of_mem _ h) ?_
    refine wEg (i := 13) rfl (by kernel_rfl) (by kernel_rfl) rfl ?_
    refine wJy (by kernel_rfl) ?_
    refine jPn (jT (wAb (wAa (sFL rfl rfl ?_))))
    refine wAi rfl rfl (wBj rfl rfl rfl) ?_
    refine jp rfl (wAi rfl rfl (wBj rfl rfl rfl) ?_)
    refine ja rfl (by omega) ?_
    refine js rfl (fun h113 => ?_) (fun h113 => ?_)
    ·refine wAc (jT (wAg rfl (wAb (wAa (jp rfl (wAc (jT (wAb (wAa (jp rfl (jp rfl (js rfl (fun h116 => ?_) (fun h116 => ?_)))))))))))))
     ·refine wAc (jT (wAg rfl (wAb (wAa (jp rfl (jp rfl (wAc (jT (wAa (sFL rfl rfl ?_))))))))))
      refine sFL rfl rfl ?_
      refine wAi rfl rfl (wBj rfl rfl rfl) ?_
      refine jp rfl ?_
      refine wAy rfl rfl (wAu rfl rfl rfl rfl rfl (by kernel_rfl) (wGd zs l1 _ _ M4 hNz (hN16.mono hM4) zs.length 0 (by omega) (by omega) (by omega) (by have := hok2.len; have := (wBo hU.nd).len; omega))) ?_; rintro _ M5 _ ⟨hM5, _, rfl, ⟨⟨ja, jc, jps, rfl, hjc, hjs, hjp, hjb⟩, rfl⟩⟩
      simp only [nA]
      refine jp rfl (wAc ?_)
      have hJ : (wBh t ⟨((l + 1 : Nat) : Int), xs, p⟩ l1) = (zs ++ l1, i, 2) := by rw [joinF_at hin hi0 hkd, if_neg (by omega), if_pos (by show i < p; omega)]
      have hjl : zs.take ((zs.length : Nat) : Int).toNat ++ l1 ++ zs.drop (((zs.length : Nat) : Int).toNat + (0 : Int).toNat) = zs ++ l1 := by simp
      have hNj : NS M5 (.slice ja (zs.take ((zs.length : Nat) : Int).toNat ++ l1 ++ zs.drop (((zs.length : Nat) : Int).toNat + (0 : Int).toNat)).length jc) (zs.take ((zs.length : Nat) : Int).toNat ++ l1 ++ zs.drop (((zs.length : Nat) : Int).toNat + (0 : Int).toNat)) := ⟨ja, jc, jps, rfl, hjc, hjs, hjp, hjb⟩
      rw [hjl] at hNj ⊢
      rw [hJ]
      exact wHb (M5, ja, jc) (.cons (t := 3) rfl (.cons (t := 6) rfl (.cons (t := 10) rfl (.cons (t := 15) rfl (.cons (t := 16) rfl (.cons (t := 17) rfl (.cons (t := 19) rfl (.cons (t := 20) rfl .nil)))))))) ⟨hM4.trans hM5, hNj⟩ (fun _ h => h.fewer (.cons _ (.refl _)))
     refine wAc (jT (wAk rfl (wAa (jp rfl (jp rfl (wAi rfl rfl (wBj rfl rfl rfl) ?_))))))
     refine sFL rfl rfl ?_
     refine wAy rfl rfl (wAu rfl rfl rfl rfl rfl (by kernel_rfl) (wGd l1 zs _ _ M4 (hN16.mono hM4) hNz l1.length 0 (by omega) (by omega) (by have := hok2.len; have := (wBo hU.nd).len; omega) (by omega))) ?_; rintro _ M5 _ ⟨hM5, _, rfl, ⟨⟨ja, jc, jps, rfl, hjc, hjs, hjp, hjb⟩, rfl⟩⟩
     simp only [nA]
     refine jp rfl (wAc ?_)
     have hJ : (wBh t ⟨((l + 1 : Nat) : Int), xs, p⟩ l1) = (l1 ++ zs, p, 2) := by rw [joinF_at hin hi0 hkd, if_neg (by omega), if_neg (by show ¬ i < p; omega)]
     have hjl : l1.take ((l1.length : Nat) : Int).toNat ++ zs ++ l1.drop (((l1.length : Nat) : Int).toNat + (0 : Int).toNat) = l1 ++ zs := by simp
     have hNj : NS M5 (.slice ja (l1.take ((l1.length : Nat) : Int).toNat ++ zs ++ l1.drop (((l1.length : Nat) : Int).toNat + (0 : Int).toNat)).length jc) (l1.take ((l1.length : Nat) : Int).toNat ++ zs ++ l1.drop (((l1.length : Nat) : Int).toNat + (0 : Int).toNat)) := ⟨ja, jc, jps, rfl, hjc, hjs, hjp, hjb⟩
     rw [hjl] at hNj ⊢
     rw [hJ]
     exact wHb (M5, ja, jc) (.cons (t := 3) rfl (.cons (t := 6) rfl (.cons (t := 10) rfl (.cons (t := 15) rfl (.cons (t := 16) rfl (.cons (t := 17) rfl (.cons (t := 19) rfl (.cons (t := 20) rfl .nil)))))))) ⟨hM4.trans hM5, hNj⟩ (fun _ h => h.fewer (.cons _ (.refl _)))
    refine wAc (jT (wAk rfl (wAd ?_)))
    have hJ : (wBh t ⟨((l + 1 : Nat) : Int), xs, p⟩ l1) = (l1, p, 1) := by rw [joinF_at hin hi0 hkd, if_pos (by omega)]
    rw [hJ]
    exact wHb (M4, a16, c16) (.cons (t := 3) rfl (.cons (t := 6) rfl (.cons (t := 10) rfl (.cons (t := 15) rfl (.cons (t := 16) rfl (.cons (t := 17) rfl (.cons (t := 19) rfl (.cons (t := 20) rfl .nil)))))))) ⟨hM4, hN16.mono hM4⟩ (fun _ h => h.fewer (.cons _ (.refl _)))
   refine wBc [7, 11] (by kernel_rfl) rfl ⟨?_, ?_, trivial⟩
   ·refine wDe rfl rfl rfl (wAu rfl rfl rfl rfl rfl (by kernel_rfl) (wDk s _ M2 (hS.mono (hM1.trans hM2)) hst xs[i].ref hxr hz1)) ?_; rintro _ M4 _ ⟨hM7, _, rfl, ⟨⟨za, zc, zps, rfl, hzc, hzs, hzp, hzb⟩, rfl⟩⟩
    refine wAo hM7 (by first | exact fun _ h => h | exact fun _ h => List.mem_cons_of_mem _ h) ?_
    simp only [nA]
    refine wEg (i := 8) rfl (by kernel_rfl) (by kernel_rfl) rfl ?_
    refine wEg (i := 9) rfl (by kernel_rfl) (by kernel_rfl) rfl ?_
    refine wEg (i := 10) rfl (by kernel_rfl) (by kernel_rfl) rfl ?_
    refine wBc [11] (by kernel_rfl) rfl ⟨?_, trivial⟩
    refine wDe rfl rfl rfl (wDy rfl rfl) ?_; rintro _ _ _ ⟨b22, rfl, rfl, rfl⟩
    refine wAo (by first | exact MLe.refl _ | exact hM7) (by first | exact fun _ h => h | exact fun _ h => List.mem_cons_of_mem _ h) ?_
    refine wCa (listed' := #[true, true, true, true, true, true, true, true, true, true, true, true, false, false]) (by kernel_rfl) (wBy (.cons (t := 3) rfl (.cons (t := 6) rfl (.cons (t := 10) rfl (.cons (t := 14) rfl (.cons (t := 15) rfl (.cons (t := 16) rfl (.cons (t := 17) rfl (.cons (t := 19) rfl (.cons (t := 20) rfl (.cons (t := 21) rfl (.cons (t := 22) rfl (.cons (t := 105) rfl (.cons (t := 106) rfl .nil))))))))))))) ?_)
    exact rest (M4, za, zc, b22) ⟨hM7, za, zc, zps, rfl, hzc, hzs, hzp, hzb⟩
   refine wDe rfl rfl rfl (wDy rfl rfl) ?_; rintro _ _ _ ⟨b22, rfl, rfl, rfl⟩
   refine wAo (by first | exact MLe.refl _ | exact hM7) (by first | exact fun _ h => h | exact fun _ h => List.mem_cons_of_mem _ h) ?_
   refine wBc [7] (by kernel_rfl) rfl ⟨?_, trivial⟩
   refine wDe rfl rfl rfl (wAu rfl rfl rfl rfl rfl (by kernel_rfl) (wDk s _ M2 (hS.mono (hM1.trans hM2)) hst xs[i].ref hxr hz1)) ?_; rintro _ M4 _ ⟨hM7, _, rfl, ⟨⟨za, zc, zps, rfl, hzc, hzs, hzp, hzb⟩, rfl⟩⟩
   refine wAo hM7 (by first | exact fun _ h => h | exact fun _ h => List.mem_cons_of_mem _ h) ?_
   simp only [nA]
   refine wEg (i := 8) rfl (by kernel_rfl) (by kernel_rfl) rfl ?_
   refine wEg (i := 9) rfl (by kernel_rfl) (by kernel_rfl) rfl ?_
   refine wEg (i := 10) rfl (by kernel_rfl) (by kernel_rfl) rfl ?_
   refine wCa (listed' := #[true, true, true, true, true, true, true, true, true, true, true, true, false, false]) (by kernel_rfl) (wBy (.cons (t := 3) rfl (.cons (t := 6) rfl (.cons (t := 10) rfl (.cons (t := 14) rfl (.cons (t := 15) rfl (.cons (t := 16) rfl (.cons (t := 17) rfl (.cons (t := 19) rfl (.cons (t := 20) rfl (.cons (t := 21) rfl (.cons (t := 22) rfl (.cons (t := 105) rfl (.cons (t := 106) rfl .nil))))))))))))) ?_)
   exact rest (M4, za, zc, b22) ⟨hM7, za, zc, zps, rfl, hzc, hzs, hzp, hzb⟩
  refine wAc (jT (wAk rfl (wAd ?_)))
  have hJ : (wBh t ⟨((l + 1 : Nat) : Int), xs, p⟩ l1) = (l1, p, 1) := by exact joinF_no (by
    by_cases h : p + 1 < xs.length
    ·rw [if_pos h] at h95; omega
    rw [if_neg h] at h95; exact nxt_none (by omega) (by omega))
  rw [hJ]
  exact wHb (M2, a16, c16) (.cons (t := 3) rfl (.cons (t := 6) rfl (.cons (t := 10) rfl (.cons (t := 15) rfl (.cons (t := 16) rfl (.cons (t := 17) rfl (.cons (t := 19) rfl (.cons (t := 20) rfl .nil)))))))) ⟨MLe.refl _, hN16⟩ (fun _ h => h)
 refine wBc [8, 14] (by kernel_rfl) rfl ⟨?_, ?_, trivial⟩
 ·refine wDe rfl rfl rfl (wAu rfl rfl rfl rfl rfl (by kernel_rfl) (ih xs[p].ref ys _ M1 (hS.mono hM1) (by have := hU.rng; omega) hU.nd hU.shp hU.srt hU.has)) ?_; rintro _ M2 _ ⟨hM8, _, rfl, ⟨hsh, rfl⟩⟩
  refine wAo hM8 (by first | exact fun _ h => h | exact fun _ h => List.mem_cons_of_mem _ h) ?_
  simp only [nA]
  obtain ⟨x15, a16, n16, c16, hd17, e18, rfl, hsh2⟩ := hsh.form (hU.cases.imp id fun ⟨t, l1, h, e, _⟩ => ⟨t, l1, h, e⟩)
  refine wEg (i := 9) rfl (by kernel_rfl) (by kernel_rfl) rfl ?_
  refine wEg (i := 10) rfl (by kernel_rfl) (by kernel_rfl) rfl ?_
  refine wEg (i := 11) rfl (by kernel_rfl) (by kernel_rfl) rfl ?_
  refine wEg (i := 12) rfl (by kernel_rfl) (by kernel_rfl) rfl ?_
  refine wEg (i := 13) rfl (by kernel_rfl) (by kernel_rfl) rfl ?_
  refine wBc [14] (by kernel_rfl) rfl ⟨?_, trivial⟩
  refine wDe rfl rfl rfl (wDy rfl rfl) ?_; rintro _ _ _ ⟨b15, rfl, rfl, rfl⟩
  refine wAo (by first | exact MLe.refl _ | exact hM8) (by first | exact fun _ h => h | exact fun _ h => List.mem_cons_of_mem _ h) ?_
  refine wCa (listed' := #[true, true, true, true, true, true, true, true, true, true, true, true, true, true, true, false, false, false, false]) (by kernel_rfl) (wBy (.cons (t := 3) rfl (.cons (t := 6) rfl (.cons (t := 10) rfl (.cons (t := 14) rfl (.cons (t := 15) rfl (.cons (t := 74) rfl (.cons (t := 75) rfl (.cons (t := 76) rfl (.cons (t := 77) rfl .nil))))))))) ?_)
  exact rest (M2, x15, (a16, n16, c16), hd17, e18, b15) ⟨hM8, hsh2⟩
 refine wDe rfl rfl rfl (wDy rfl rfl) ?_; rintro _ _ _ ⟨b15, rfl, rfl, rfl⟩
 refine wAo (by first | exact MLe.refl _ | exact hM8) (by first | exact fun _ h => h | exact fun _ h => List.mem_cons_of_mem _ h) ?_
 refine wBc [8] (by kernel_rfl) rfl ⟨?_, trivial⟩
 refine wDe rfl rfl rfl (wAu rfl rfl rfl rfl rfl (by kernel_rfl) (ih xs[p].ref ys _ M1 (hS.mono hM1) (by have := hU.rng; omega) hU.nd hU.shp hU.srt hU.has)) ?_; rintro _ M2 _ ⟨hM8, _, rfl, ⟨hsh, rfl⟩⟩
 refine wAo hM8 (by first | exact fun _ h => h | exact fun _ h => List.mem_cons_of_mem _ h) ?_
 simp only [nA]
 obtain ⟨x15, a16, n16, c16, hd17, e18, rfl, hsh2⟩ := hsh.form (hU.cases.imp id fun ⟨t, l1, h, e, _⟩ => ⟨t, l1, h, e⟩)
 refine wEg (i := 9) rfl (by kernel_rfl) (by kernel_rfl) rfl ?_
 refine wEg (i := 10) rfl (by kernel_rfl) (by kernel_rfl) rfl ?_
 refine wEg (i := 11) rfl (by kernel_rfl) (by kernel_rfl) rfl ?_
 refine wEg (i := 12) rfl (by kernel_rfl) (by kernel_rfl) rfl ?_
 refine wEg (i := 13) rfl (by kernel_rfl) (by kernel_rfl) rfl ?_
 refine wCa (listed' := #[true, true, true, true, true, true, true, true, true, true, true, true, true, true, true, false, false, false, false]) (by kernel_rfl) (wBy (.cons (t := 3) rfl (.cons (t := 6) rfl (.cons (t := 10) rfl (.cons (t := 14) rfl (.cons (t := 15) rfl (.cons (t := 74) rfl (.cons (t := 75) rfl (.cons (t := 76) rfl (.cons (t := 77) rfl .nil))))))))) ?_)
 exact rest (M2, x15, (a16, n16, c16), hd17, e18, b15) ⟨hM8, hsh2⟩
end Go.Proofs.YtkcpllhggofloaaGreat
