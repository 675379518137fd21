/- Walks: stores made, whatever they are; trees grown. No statement of the seat is proved here. -/
import Derived.Test.YtoincdcejjdgkaaGreatZPutl
import Derived.Test.YtoincdcejjdgkaaGreatZGreat
namespace Go.Proofs.YtoincdcejjdgkaaGreat
set_option linter.unusedVariables false
set_option linter.unusedSimpArgs false
open Go.RowKit
def dmE (s : Sto) (lv : Int) (xs : List It) : Int := if wCp s then mkE s lv xs else 8
def DmPost (s : Sto) (lv : Int) (xs : List It) (u : Value) (M' : Mem) : Prop := (dmE s lv xs ≠ 0 ∧ u = .tuple #[.agg zeroSt.toArray, .int .i64 0, .int .i64 (dmE s lv xs)]) ∨ (dmE s lv xs = 0 ∧ ∃ v, u = .tuple #[v, .int .i64 (wGh (wBb s xs)), .int .i64 0] ∧ ST M' v (mkS s lv xs) ∧ wCp (mkS s lv xs))
set_option maxHeartbeats 2000000 in
theorem dmake_any (s : Sto) (bv nv lw : Value) (wa : Option Addr) (wc : Nat) (lv : Int) (xs : List It) (a : Option Addr) (c : Nat) (ps : List (It × Value)) (M : Mem) (h1 : LS M bv s.blocks) (wps0 : List (Wt × Value)) (hwc : s.waits.length ≤ wc) (hws : SM M wa (wps0.flatMap wCf)) (hwp : wps0.map (·.1) = s.waits) (hwb : ∀ p ∈ wps0, BS M p.2 p.1.2) (h3 : BS M nv s.now) (h4 : BS M lw s.last) (hc : xs.length ≤ c) (hs : SM M a (ps.flatMap wBc)) (hp : ps.map (·.1) = xs) (hb : ∀ p ∈ ps, BS M p.2 p.1.val) (hkd : ∀ x ∈ xs, 0 ≤ x.key.kind ∧ x.key.kind < 256) :
  SpecL Tryz.prog 75 #[.agg #[bv, .slice wa s.waits.length wc, nv, lw], .agg #[.int .i64 lv, .slice a xs.length c]] M [] fun u M' L' => DmPost s lv xs u M' ∧ L' = [] := by
 have hWS : WS M (.slice wa s.waits.length wc) s.waits := ⟨wa, wc, wps0, rfl, hwc, hws, hwp, hwb⟩
 have hST : ST M (.agg #[bv, .slice wa s.waits.length wc, nv, lw]) s := ⟨_, _, _, _, rfl, h1, hWS, h3, h4⟩
 have hns : NS M (.slice a xs.length c) xs := ⟨a, c, ps, rfl, hc, hs, hp, hb⟩
 refine wAf (vs := [_, _]) 37 _ Tryz.func75 rfl Tryz.ntmps75 rfl rfl ?_; intro W
 refine wAb (wAa (wAw rfl rfl (wCb (cs := [_, _, _, _]) rfl rfl rfl rfl) ?_)); rintro _ _ _ ⟨b2, rfl, rfl, rfl⟩
 refine wAw rfl rfl (wCb (cs := [_, _]) rfl rfl rfl rfl) ?_; rintro _ _ _ ⟨b3, rfl, rfl, rfl⟩
 refine sAl rfl fun b4 => ?_
 refine jp rfl (jp rfl (wAc (jT (wAb (wAb (wAa (sLL rfl ?_)))))))
 refine wAi rfl rfl (wBf rfl rfl rfl rfl rfl (by kernel_rfl) (wGc s _ M hST)) ?_
 refine jp rfl (wAc (jT (wAb (wAa (jp rfl (js rfl (fun h13 => ?_) (fun h13 => ?_)))))))
 ·refine wAc (jT (wAg rfl (wAb (wAa (wAi rfl rfl (wAq (cs := [_, _, _, _]) rfl rfl rfl (by rfl)) ?_)))))
  refine jp rfl (sSt rfl ?_)
  refine jp rfl (jp rfl (wAc (jT (wAe (jTr (wCd (rs := [_, _, _]) ([]) (by exact List.nil_sublist _) rfl (.cons (.agg rfl rfl rfl) (.cons (.tmp rfl) (.cons (.tmp rfl) .nil))) ?_))))))
  have hE : dmE s lv xs = 8 := if_neg fun k => h13 (by unfold wJe; rw [if_pos k])
  have hk : wJe s = 8 := by unfold wJe; rw [if_neg fun k => h13 (by unfold wJe; rw [if_pos k])]
  refine ⟨.inl ⟨by rw [hE]; decide, ?_⟩, rfl⟩
  rw [hE, ← hk]; rfl
 ·refine wAc (jT (wAj rfl (wAd (jT (wAb (wAb (wAa (sLL rfl ?_))))))))
  refine wAi rfl rfl (wBf rfl rfl rfl rfl rfl (by kernel_rfl) (wHp lv xs _ M hns)) ?_
  refine jp rfl (wAc (jT (wAb (wAa (jp rfl (js rfl (fun h19 => ?_) (fun h19 => ?_)))))))
  ·refine wAc (jT (wAg rfl (wAb (wAa (wAi rfl rfl (wAq (cs := [_, _, _, _]) rfl rfl rfl (by rfl)) ?_)))))
   refine jp rfl (sSt rfl ?_)
   refine jp rfl (jp rfl (wAc (jT (wAe (jTr (wCd (rs := [_, _, _]) ([]) (by exact List.nil_sublist _) rfl (.cons (.agg rfl rfl rfl) (.cons (.tmp rfl) (.cons (.tmp rfl) .nil))) ?_))))))
   have hst : wCp s := Classical.byContradiction fun k => h13 (by unfold wJe; rw [if_neg k]; decide)
   have hno : ¬ wHx lv xs = true := fun k => h19 (if_pos k)
   have hE : dmE s lv xs = 8 := by unfold dmE; rw [if_pos hst]; unfold mkE; rw [if_neg hno]
   have hk : wFa lv xs = 8 := if_neg hno
   refine ⟨.inl ⟨by rw [hE]; decide, ?_⟩, rfl⟩
   rw [hE, ← hk]; rfl
  ·refine wAc (jT (wAj rfl (wAd (jT (wAb (wAa (sLL rfl ?_)))))))
   have hst : wCp s := Classical.byContradiction fun k => h13 (by unfold wJe; rw [if_neg k]; decide)
   obtain ⟨hdk, ⟨hn256, _⟩, ⟨hl256, _⟩⟩ := id hst
   have hw4 : s.waits.length ≤ 4096 := hdk.2.1
   refine wAw rfl rfl (wAn rfl rfl rfl rfl rfl (by kernel_rfl) (on_own s bv nv lw wa wc M hwc (by omega) h3 (by omega))) ?_; rintro _ M1 _ ⟨hM1, _, rfl, ⟨bb, Rn, na, nc, rfl, rfl, hown⟩⟩
   have hB0 : BOwn M1 bb ((bb, .cells [bv, .slice wa s.waits.length s.waits.length, .slice na s.now.length nc, lw].toArray TBn (0, 0)) :: Rn) s := by
    refine ⟨bv, _, na, nc, lw, [], Rn, rfl, h1.mono hM1, h4.mono hM1, hown, wps0, hwp, fun p hp => (hwb p hp).mono hM1, ?_⟩
    have hfl : (wps0.flatMap wCf).length = s.waits.length * 2 := by rw [wAy wCf 2 wCc, ← hwp, List.length_map]
    rcases hws with h0 | ⟨wb, wo, rfl, hwx⟩
    ·have hz : s.waits.length = 0 := by rw [h0, List.length_nil] at hfl; omega
     rw [h0, hz]
     cases wa with
     | none => exact .inl (Own.nil _ _)
     | some ba => exact .inr ⟨rfl, rfl, ba, rfl, .inl rfl, fun i u hu => by cases hu⟩
    ·exact .inr ⟨rfl, hfl, _, rfl, .inr rfl, fun i u hu => (hwx i u hu).mono hM1⟩
   refine jp rfl (wAc (jT (wAb (wAb (wAa (jp rfl (sLL rfl ?_)))))))
   refine wAw rfl rfl (wAn rfl rfl rfl rfl rfl (by kernel_rfl) (bmake_any s lv xs a c ps M1 hc (hs.mono hM1) hp (fun p hp => (hb p hp).mono hM1) hkd bb _ hB0 hn256 hl256 hw4)) ?_; rintro _ M2 _ ⟨hM2, R2, rfl, ⟨at_, e, rfl, he, hB3⟩⟩
   refine jp rfl (jp rfl (jp rfl (jp rfl (jp rfl (wAc (jT (wAb (wAa (jp rfl (js rfl (fun h31 => ?_) (fun h31 => ?_)))))))))))
   ·refine wAc (jT (wAg rfl (wAb (wAa (wAi rfl rfl (wAq (cs := [_, _, _, _]) rfl rfl rfl (by rfl)) ?_)))))
    refine jp rfl (sSt rfl ?_)
    refine jp rfl (jp rfl (wAc (jT (wAe (jTr (wCd (rs := [_, _, _]) ([]) (by exact List.nil_sublist _) rfl (.cons (.agg rfl rfl rfl) (.cons (.tmp rfl) (.cons (.tmp rfl) .nil))) ?_))))))
    have hE : dmE s lv xs = e := by unfold dmE; rw [if_pos hst]; exact he.symm
    exact ⟨.inl ⟨by rw [hE]; exact h31, by rw [hE]; rfl⟩, rfl⟩
   ·refine wAc (jT (wAj rfl (wAd (jT (wAb (wAa (jp rfl ?_)))))))
    have he0 : e = 0 := Classical.not_not.1 h31
    have hmk0 : mkE s lv xs = 0 := he.symm.trans he0
    have hmo := mkE_ok hmk0 hw4
    have hmk := mkS_ok hst hmo.1 hmo.2.2.1 hmo.2.2.2
    obtain ⟨hdk3, ⟨hn3, _⟩, ⟨hl3, _⟩⟩ := id hmk
    refine jl_bench (hB3 he0).2 (by simp) ?_
    intro M3 pbv pwv pnv plv hM3 e3 k1 k2 k3 k4
    refine wAw rfl rfl (wAn rfl rfl rfl rfl rfl (by kernel_rfl) (wLb (mkS s lv xs) bb pbv pwv pnv plv M3 e3 k1 k2 k3 k4 hdk3 (by omega) (by omega))) ?_; rintro _ M4 _ ⟨hM4, _, rfl, ⟨hst4, rfl⟩⟩
    obtain ⟨q1, q2, q3, q4, rfl, f1, f2, f3, f4⟩ := hst4.ex
    obtain ⟨ba5, bc5, bps5, rfl, _⟩ := id f1
    obtain ⟨wa5, wc5, wps5, rfl, _⟩ := id f2
    obtain ⟨na5, nc5, rfl, _⟩ := id f3
    obtain ⟨la5, lc5, rfl, _⟩ := id f4
    refine jp rfl (sSt rfl ?_)
    refine jp rfl (jp rfl (wAc (jT (wAe (wCd (rs := [_, _, _]) ([]) (by exact List.nil_sublist _) rfl (.cons (.agg rfl rfl rfl) (.cons (.tmp rfl) (.cons (.tmp rfl) .nil))) ?_)))))
    have hE : dmE s lv xs = 0 := by unfold dmE; rw [if_pos hst]; exact hmk0
    exact ⟨.inr ⟨hE, _, by rw [← (hB3 he0).1]; rfl, hst4, hmk⟩, rfl⟩
theorem DmPost.form {s : Sto} {lv : Int} {xs : List It} {u : Value} {M' : Mem} (h : DmPost s lv xs u M') : ∃ ba bn bc wa wn wc na nn nc la ln lc at_ e, u = .tuple #[.agg #[.slice ba bn bc, .slice wa wn wc, .slice na nn nc, .slice la ln lc], .int .i64 at_, .int .i64 e] ∧
  ((e ≠ 0 ∧ e = dmE s lv xs ∧ at_ = 0 ∧ nn = 0) ∨ (e = 0 ∧ dmE s lv xs = 0 ∧ at_ = (wGh (wBb s xs) : Int) ∧ nn = (mkS s lv xs).now.length ∧ ST M' (.agg #[.slice ba bn bc, .slice wa wn wc, .slice na nn nc, .slice la ln lc]) (mkS s lv xs) ∧ wCp (mkS s lv xs))) := by
 rcases h with ⟨h1, h2⟩ | ⟨h1, v, h2, h3, h4⟩
 ·exact ⟨none, 0, 0, none, 0, 0, none, 0, 0, none, 0, 0, 0, _, h2, .inl ⟨h1, rfl, rfl, rfl⟩⟩
 ·obtain ⟨q1, q2, q3, q4, rfl, f1, f2, f3, f4⟩ := h3.ex
  obtain ⟨ba5, bc5, bps5, rfl, _⟩ := id f1
  obtain ⟨wa5, wc5, wps5, rfl, _⟩ := id f2
  obtain ⟨na5, nc5, rfl, _⟩ := id f3
  obtain ⟨la5, lc5, rfl, _⟩ := id f4
  exact ⟨_, _, _, _, _, _, _, _, _, _, _, _, _, 0, h2, .inr ⟨rfl, h1, rfl, rfl, h3, h4⟩⟩
theorem PtPost.form {r : Except Int (Sto × Int)} {u : Value} {M' : Mem} (h : PtPost r u M') : ∃ ba bn bc wa wn wc na nn nc la ln lc at_ e, u = .tuple #[.agg #[.slice ba bn bc, .slice wa wn wc, .slice na nn nc, .slice la ln lc], .int .i64 at_, .int .i64 e] ∧
  ((e ≠ 0 ∧ r = .error e ∧ at_ = 0 ∧ nn = 0) ∨ (e = 0 ∧ ∃ t, r = .ok (t, at_) ∧ nn = t.now.length ∧ wn = t.waits.length ∧ ST M' (.agg #[.slice ba bn bc, .slice wa wn wc, .slice na nn nc, .slice la ln lc]) t ∧ wCp t)) := by
 unfold PtPost at h
 split at h
 ·exact ⟨none, 0, 0, none, 0, 0, none, 0, 0, none, 0, 0, 0, _, h.2, .inl ⟨h.1, rfl, rfl, rfl⟩⟩
 ·obtain ⟨v, h2, h3, h4⟩ := h
  obtain ⟨q1, q2, q3, q4, rfl, f1, f2, f3, f4⟩ := h3.ex
  obtain ⟨ba5, bc5, bps5, rfl, _⟩ := id f1
  obtain ⟨wa5, wc5, wps5, rfl, _⟩ := id f2
  obtain ⟨na5, nc5, rfl, _⟩ := id f3
  obtain ⟨la5, lc5, rfl, _⟩ := id f4
  exact ⟨_, _, _, _, _, _, _, _, _, _, _, _, _, 0, h2, .inr ⟨rfl, _, rfl, rfl, rfl, h3, h4⟩⟩
theorem dmake_any_spec (s : Sto) (v sl : Value) (lv : Int) (xs : List It) (M : Mem) (hv : ST M v s) (hn : NS M sl xs) (hkd : ∀ x ∈ xs, 0 ≤ x.key.kind ∧ x.key.kind < 256) :
  SpecL Tryz.prog 75 #[v, .agg #[.int .i64 lv, sl]] M [] fun u M' L' => DmPost s lv xs u M' ∧ L' = [] := by
 obtain ⟨b, w, n, l, rfl, h1, ⟨wa, wc, wps, rfl, hwc, hws, hwp, hwb⟩, h3, h4⟩ := hv.ex
 obtain ⟨a, c, ps, rfl, hc, hs, hp, hb⟩ := hn
 exact dmake_any s b n l wa wc lv xs a c ps M h1 wps hwc hws hwp hwb h3 h4 hc hs hp hb hkd
theorem put_spec (s : Sto) (v xv : Value) (root : Int) (x : It) (M : Mem) (hv : ST M v s) (hx : BS M xv x.val) (hk : wJn x.key) :
  SpecL Tryz.prog 77 #[v, .int .i64 root, .agg #[.int .u8 x.key.kind, .int .u32 x.key.id, .int .u32 x.key.off, .int .i64 x.ref, xv]] M [] fun u M' L' => PtPost (putF s root x) u M' ∧ L' = [] := by
 obtain ⟨b, w, n, l, rfl, h1, ⟨wa, wc, wps, rfl, hwc, hws, hwp, hwb⟩, h3, h4⟩ := hv.ex
 exact put_walk s root x xv b n l wa wc wps M h1 hwc hws hwp hwb h3 h4 hx hk
theorem pnew_walk (s : Sto) (bv wv nv lw : Value) (M : Mem) (hST : ST M (.agg #[bv, wv, nv, lw]) s) :
  SpecL Tryz.prog 45 #[.agg #[bv, wv, nv, lw]] M [] fun u M' L' => DmPost s 0 [] u M' ∧ L' = [] := by
 refine wAf (vs := [_]) 11 _ Tryz.func45 rfl Tryz.ntmps45 rfl rfl ?_; intro W
 refine wAb (wAa (wAw rfl rfl (wCb (cs := [bv, wv, nv, lw]) rfl rfl rfl rfl) ?_)); rintro _ _ _ ⟨b1, rfl, rfl, rfl⟩
 refine sAl rfl fun b2 => ?_
 refine jp rfl (jp rfl (wAc (jT (wAb (wAa (sLL rfl ?_))))))
 refine wAi rfl rfl (qEq (wAq (cs := [_, _]) rfl rfl rfl (by rfl)) (v' := .agg #[.int .i64 0, .slice none 0 0]) rfl) ?_
 refine wAw rfl rfl (wAn rfl rfl rfl rfl rfl (by kernel_rfl) (dmake_any_spec s _ _ 0 [] M hST NS.nil (fun x h => by cases h))) ?_; rintro _ M1 _ ⟨hM1, _, rfl, ⟨hdm, rfl⟩⟩
 obtain ⟨ba, bn, bc, wa, wn, wc, na, nn, nc, la, ln, lc, at_, e, rfl, hdm2⟩ := hdm.form
 refine jp rfl (jp rfl (jp rfl (sSt rfl ?_)))
 refine jp rfl (jp rfl (wAc (jT (wAe (wCd (rs := [_, _, _]) ([]) (by exact List.nil_sublist _) rfl (.cons (.agg rfl rfl rfl) (.cons (.tmp rfl) (.cons (.tmp rfl) .nil))) ?_)))))
 exact ⟨hdm, rfl⟩
end Go.Proofs.YtoincdcejjdgkaaGreat
