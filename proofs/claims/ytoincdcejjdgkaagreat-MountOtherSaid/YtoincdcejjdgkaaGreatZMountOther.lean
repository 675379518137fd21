/- MountOther: what stands in a block that is not counted changes nothing of what is opened, but itself, unless more than one superblock stands. Any pool, block's number and bytes. -/
import Derived.Test.YtoincdcejjdgkaaGreatZWith
import Derived.Test.YtoincdcejjdgkaaGreatZOpenp
import Derived.Test.YtoincdcejjdgkaaGreatRows
import Derived.Lib.SmallJoins
namespace Go.Proofs.YtoincdcejjdgkaaGreat
set_option linter.unusedVariables false
set_option linter.unusedSimpArgs false
open Go.RowKit
theorem lsnil {M : Mem} : LS M (.slice none 0 0) [] := ⟨none, 0, [], rfl, Nat.le_refl _, SM.nil, rfl, fun _ h => by cases h⟩
theorem LS.two_sl {M : Mem} {d : Value} {bs : List (List By)} {ws : List Wt} (h : DK M d bs ws) : ∃ a b : Sl, d = .agg #[a.v, b.v] ∧ LS M a.v bs ∧ WS M b.v ws := by
 obtain ⟨bv, wv, rfl, h1, h2⟩ := h
 obtain ⟨a, rfl⟩ := h1.sl
 obtain ⟨b, rfl⟩ := h2.sl
 exact ⟨a, b, rfl, h1, h2⟩
def WrP (bs : List (List By)) (ws : List Wt) (k : Int) (data : List By) (u : Value) (M' : Mem) : Prop := ∃ (a b : Sl) (e : Int) (bs' : List (List By)) (ws' : List Wt), u = .tuple #[.agg #[a.v, b.v], .int .i64 e] ∧ LS M' a.v bs' ∧ WS M' b.v ws' ∧ ((e = 0 ∧ data.length = 128 ∧ bs' = bs ∧ ws' = ws ++ [(k, data)]) ∨ e ≠ 0)
def BaP (bs : List (List By)) (ws : List Wt) (u : Value) (M' : Mem) : Prop := ∃ (a b : Sl) (e : Int) (bs' : List (List By)), u = .tuple #[.agg #[a.v, b.v], .int .i64 e] ∧ LS M' a.v bs' ∧ WS M' b.v [] ∧ ((e = 0 ∧ bs' = wEj bs ws) ∨ e ≠ 0)
theorem dwrite_text (bs : List (List By)) (ws : List Wt) (bv wv : Value) (M : Mem) (h1 : LS M bv bs) (h2 : WS M wv ws) (hdk : dkOk bs ws) (k : Int) (hk : 0 ≤ k ∧ k < 256) (data : List By) (dv : Value) (hd : BS M dv data) (hdl : data.length ≠ 128) :
  SpecL Tryz.prog 13 #[.agg #[bv, wv], .int .i64 k, dv] M [] fun u M' L' => u = .tuple #[.agg #[.slice none 0 0, .slice none 0 0], .int .i64 3] ∧ L' = [] := by
 obtain ⟨ba, bc, bps, rfl, _⟩ := id h1
 obtain ⟨wa, wc, wps, rfl, _⟩ := id h2
 obtain ⟨da, dc, rfl, hdc, hds⟩ := id hd
 refine wAg (vs := [_, _, _]) 38 _ Tryz.func13 rfl Tryz.ntmps13 rfl rfl ?_; intro W
 refine wAb (wAa ?_)
 refine wAp rfl rfl (wCa (cs := [_, _]) rfl rfl rfl rfl) ?_; rintro _ _ _ ⟨b3, rfl, rfl, rfl⟩
 refine wAp rfl rfl (wAo rfl rfl) ?_; rintro _ _ _ ⟨b6, rfl, rfl, rfl⟩
 refine jp rfl ?_
 refine wAc (jT (wAb (wAb (wAa ?_))))
 refine sLL rfl ?_
 refine jp rfl ?_
 refine wAj rfl rfl (wBi rfl rfl rfl rfl rfl (by kernel_rfl) (wKr bs ws _ _ M h1 h2 hdk k hk)) ?_
 refine jp rfl ?_
 refine wAc (jT (wAb (wAa ?_)))
 refine jp rfl ?_
 refine jf rfl (decide_eq_false (by omega)) ?_
 refine wAc (jT (wAk rfl (wAd (jT (wAb (wAb (wAa ?_)))))))
 refine jp rfl ?_
 refine wAj rfl rfl (wBr rfl rfl rfl) ?_
 refine jt rfl (decide_eq_true (by omega)) ?_
 refine wAc (jT (wAh rfl (wAb (wAa ?_))))
 refine wAj rfl rfl (wAx (cs := [_, _]) rfl rfl rfl (by rfl)) ?_
 refine sSt rfl ?_
 refine jp rfl ?_
 refine wAc (jT (wAf (jTr ?_)))
 refine wCf (rs := [_, _]) ([]) (by exact List.nil_sublist _) rfl (.cons (.agg rfl rfl rfl) (.cons (.tmp rfl) .nil)) ?_
 exact ⟨rfl, rfl⟩
theorem barrier_bad (bs : List (List By)) (ws : List Wt) (bv wv : Value) (M : Mem) (h1 : LS M bv bs) (h2 : WS M wv ws) (hdk : ¬ dkOk bs ws) :
  SpecL Tryz.prog 14 #[.agg #[bv, wv]] M [] fun u M' L' => u = .tuple #[.agg #[.slice none 0 0, .slice none 0 0], .int .i64 8] ∧ L' = [] := by
 obtain ⟨ba, bc, bps, rfl, _⟩ := id h1
 obtain ⟨wa, wc, wps, rfl, _⟩ := id h2
 have hck : dkChk bs ws = 8 := if_neg hdk
 refine wAg (vs := [_]) 15 _ Tryz.func14 rfl Tryz.ntmps14 rfl rfl ?_; intro W
 refine wAb (wAa ?_)
 refine wAp rfl rfl (wCa (cs := [_, _]) rfl rfl rfl rfl) ?_; rintro _ _ _ ⟨b1, rfl, rfl, rfl⟩
 refine wAp rfl rfl (wAo rfl rfl) ?_; rintro _ _ _ ⟨b2, rfl, rfl, rfl⟩
 refine jp rfl ?_
 refine wAc (jT (wAb (wAb (wAa ?_))))
 refine sLL rfl ?_
 refine wAj rfl rfl (wBi rfl rfl rfl rfl rfl (by kernel_rfl) (wDd bs ws _ _ M h1 h2)) ?_
 refine jp rfl ?_
 refine wAc (jT (wAb (wAa ?_)))
 refine jp rfl ?_
 refine jt rfl (decide_eq_true (by first | omega | (rw [hck]; decide))) ?_
 refine wAc (jT (wAh rfl (wAb (wAa ?_))))
 refine wAj rfl rfl (wAx (cs := [_, _]) rfl rfl rfl (by rfl)) ?_
 refine jp rfl ?_
 refine sSt rfl ?_
 refine jp rfl ?_
 refine wAc (jT (wAf (jTr ?_)))
 refine wCf (rs := [_, _]) ([]) (by exact List.nil_sublist _) rfl (.cons (.agg rfl rfl rfl) (.cons (.tmp rfl) .nil)) ?_
 rw [hck]; exact ⟨rfl, rfl⟩
theorem dwrite_any (bs : List (List By)) (ws : List Wt) (bv wv : Value) (M : Mem) (h1 : LS M bv bs) (h2 : WS M wv ws) (hdk : dkOk bs ws) (k : Int) (hk : 0 ≤ k ∧ k < 256) (data : List By) (dv : Value) (hd : BS M dv data) (hwl : ws.length < 4096) :
  SpecL Tryz.prog 13 #[.agg #[bv, wv], .int .i64 k, dv] M [] fun u M' L' => WrP bs ws k data u M' ∧ L' = [] := by
 by_cases hl : data.length = 128
 ·refine (wKq bs ws bv wv M h1 h2 hdk k hk data dv hd hl hwl).mono fun u M' L' hh => ?_
  obtain ⟨⟨d, rfl, hd⟩, hL⟩ := hh
  obtain ⟨a, b, rfl, g1, g2⟩ := LS.two_sl hd
  exact ⟨⟨a, b, 0, _, _, rfl, g1, g2, .inl ⟨rfl, hl, rfl, rfl⟩⟩, hL⟩
 ·refine (dwrite_text bs ws bv wv M h1 h2 hdk k hk data dv hd hl).mono fun u M' L' hh => ?_
  exact ⟨⟨⟨none, 0, 0⟩, ⟨none, 0, 0⟩, 3, [], [], hh.1, lsnil, WS.nil, .inr (by decide)⟩, hh.2⟩
theorem barrier_any (bs : List (List By)) (ws : List Wt) (bv wv : Value) (M : Mem) (h1 : LS M bv bs) (h2 : WS M wv ws) :
  SpecL Tryz.prog 14 #[.agg #[bv, wv]] M [] fun u M' L' => BaP bs ws u M' ∧ L' = [] := by
 by_cases hdk : dkOk bs ws
 ·refine (wJu bs ws bv wv M h1 h2 hdk).mono fun u M' L' hh => ?_
  obtain ⟨⟨d, rfl, hd⟩, hL⟩ := hh
  obtain ⟨a, b, rfl, g1, g2⟩ := LS.two_sl hd
  exact ⟨⟨a, b, 0, _, rfl, g1, g2, .inl ⟨rfl, rfl⟩⟩, hL⟩
 ·refine (barrier_bad bs ws bv wv M h1 h2 hdk).mono fun u M' L' hh => ?_
  exact ⟨⟨⟨none, 0, 0⟩, ⟨none, 0, 0⟩, 8, [], hh.1, lsnil, WS.nil, .inr (by decide)⟩, hh.2⟩
theorem set_oth {s : Sto} (hw : s.waits = []) {k : Int} {data : List By} (h8 : 8 ≤ k) {now : List By} (h0 : ((now.getD k.toNat 0).toNat : Int) = 0) : Oth s ⟨wEj s.blocks (s.waits ++ [(k, data)]), [], [], []⟩ now := by
 have e : ∀ j : Nat, (j : Int) ≠ k → wCw s j = wCw ⟨wEj s.blocks (s.waits ++ [(k, data)]), [], [], []⟩ j := fun j hj => by
  show wCw s j = (wEj s.blocks (s.waits ++ [(k, data)])).getD j []
  rw [hw, List.nil_append, wJc _ j _ fun w hm => by rw [List.mem_singleton.1 hm]; exact ⟨by show 0 ≤ k; omega, fun e => hj e.symm⟩]
  unfold wCw; rw [hw]; rfl
 refine ⟨fun j hj => e j (by omega), fun j _ hn => e j fun hjk => hn ?_⟩
 rw [show j = k.toNat by omega]
 exact UInt8.toNat_inj.1 (by show (now.getD k.toNat 0).toNat = 0; omega)
theorem one_only {α : Type} {l : List α} {x : α} (hx : x ∈ l) (hl : ¬ 1 < l.length) {y : α} (hy : y ∈ l) : y = x := by
 match l, hx, hy, hl with
 | [a], hx, hy, _ => rw [List.mem_singleton.1 hx, List.mem_singleton.1 hy]
 | a :: b :: r, _, _, hl => exact absurd (by simp : 1 < (a :: b :: r).length) hl
theorem wLb (s : Sto) (b w : Sl) (M : Mem) (h1 : LS M b.v s.blocks) (h2 : WS M w.v s.waits) (hdk : dkOk s.blocks s.waits) :
  SpecL Tryz.prog 15 #[.agg #[b.v, w.v]] M [] fun u M' L' => u = .int .i64 ((wHg s 4).length : Int) ∧ L' = [] := by
 refine wAg (vs := [_]) 14 _ Tryz.func15 rfl Tryz.ntmps15 rfl rfl ?_; intro W
 refine wAb (wAa ?_)
 refine wAp rfl rfl (wCa (cs := [_, _]) rfl rfl rfl rfl) ?_; rintro _ _ _ ⟨b1, rfl, rfl, rfl⟩
 refine jp rfl ?_
 refine wAc (jT (wAb (wAa ?_)))
 refine sLL rfl ?_
 refine wAp rfl rfl (wAr rfl rfl rfl rfl rfl (by kernel_rfl) (rfind_spec s b.v w.v M h1 h2 hdk)) ?_; rintro _ M1 _ ⟨hM1, _, rfl, ⟨hfi, rfl⟩⟩
 simp only [List.nil_append]
 obtain ⟨v, e, rfl, hfc⟩ := hfi
 iterate 5 refine jp rfl ?_
 refine wAc (jT (wAb (wAb (wAa ?_))))
 refine jp rfl ?_
 refine js rfl (fun h11 => ?_) (fun h11 => ?_)
 ·refine wAc (jT (wAh rfl (wAb (wAa ?_))))
  refine jp rfl ?_
  refine wAc (jT (wAf (jTr ?_)))
  refine wAu (L' := []) (List.nil_sublist _) ?_
  refine jr1 rfl rfl ?_
  obtain ⟨rfl, hf, _⟩ | ⟨h0, _⟩ := hfc
  ·rw [hf]; exact ⟨rfl, rfl⟩
  ·exact absurd h0 h11
 ·refine wAc (jT (wAk rfl (wAd (jT (wAb ?_)))))
  obtain ⟨rfl, _⟩ | ⟨_, ys, hperm, _, ⟨ra, rc, rfl, _⟩, _⟩ := hfc
  ·exact absurd h11 (by decide)
  refine wAa ?_
  refine jp rfl ?_
  refine wAj rfl rfl (wBr rfl rfl rfl) ?_
  refine jp rfl ?_
  refine wAc (jT (wAf ?_))
  refine wAu (L' := []) (List.nil_sublist _) ?_
  refine jr1 rfl rfl ?_
  exact ⟨by rw [← hperm.length_eq, List.length_map], rfl⟩
set_option maxHeartbeats 4000000 in
theorem mother_walk (p : Po) (x0 : V5) (M : Mem) (h : PT5 M x0 p) (hgen : 0 ≤ p.gen ∧ p.gen < 4294967296) (hnxt : 0 ≤ p.next ∧ p.next < 4294967296) (at_ : Int) (block : List By) (ka : Option Addr) (kc : Nat) (hkb : BS M (.slice ka block.length kc) block) :
  SpecL Tryz.prog 4 #[.agg (pcl x0 p.gen p.root p.next).toArray, .int .i64 at_, .slice ka block.length kc] M [] fun u M' L' => u = .bool true ∧ L' = [] := by
 refine wAg (vs := [_, _, _]) 124 _ Tryz.func4 rfl Tryz.ntmps4 rfl rfl ?_; intro W
 refine wAb (wAa ?_)
 refine wAp rfl rfl (wCa (cs := [_, _, _, _, _, _, _, _]) rfl rfl rfl rfl) ?_; rintro _ _ _ ⟨b3, rfl, rfl, rfl⟩
 refine jp rfl ?_
 refine wAc (jT (wAb (wAa ?_)))
 refine wAp rfl rfl (wAr rfl rfl rfl rfl rfl (by kernel_rfl) (malive_spec M)) ?_; rintro _ M1 _ ⟨hM1, _, rfl, ⟨rfl, rfl⟩⟩
 simp only [List.nil_append]
 refine jp rfl ?_
 refine wAc (jT (wAb (wAb (wAa ?_))))
 refine sLL rfl ?_
 refine wAp rfl rfl (wAr rfl rfl rfl rfl rfl (by kernel_rfl) (fgreat_spec x0 p.gen p.root p.next p M1 (h.mono hM1))) ?_; rintro _ M2 _ ⟨hM2, _, rfl, ⟨⟨b, rfl, hgd⟩, rfl⟩⟩
 simp only [List.nil_append]
 have hwn : x0.w.n = p.st.waits.length := h.w.len
 have h2 := h.mono (hM1.trans hM2)
 refine jsb rfl (fun h18 => ?_) (fun h18 => ?_)
 ·iterate 16 refine jp rfl ?_
  refine wAc (jT (wAh rfl (wAb (wAa ?_))))
  iterate 2 refine jp rfl ?_
  refine wAc (jT (wAf (jTr ?_)))
  refine wAu (L' := []) (List.nil_sublist _) ?_
  refine jr1 rfl rfl ?_
  first | exact ⟨rfl, rfl⟩ | exact ⟨congrArg Value.bool (decide_eq_true (by omega)), rfl⟩
 ·iterate 5 refine jp rfl ?_
  refine wAj rfl rfl (wBr rfl rfl rfl) ?_
  refine js rfl (fun h25 => ?_) (fun h25 => ?_)
  ·iterate 9 refine jp rfl ?_
   refine wAc (jT (wAh rfl (wAb (wAa ?_))))
   iterate 2 refine jp rfl ?_
   refine wAc (jT (wAf (jTr ?_)))
   refine wAu (L' := []) (List.nil_sublist _) ?_
   refine jr1 rfl rfl ?_
   first | exact ⟨rfl, rfl⟩ | exact ⟨congrArg Value.bool (decide_eq_true (by omega)), rfl⟩
  ·iterate 2 refine jp rfl ?_
   refine sFa rfl ?_
   refine sFa rfl ?_
   refine sFa rfl ?_
   refine sLd rfl ?_
   refine wAj rfl rfl (wBr rfl rfl rfl) ?_
   refine js rfl (fun h33 => ?_) (fun h33 => ?_)
   ·refine jp rfl ?_
    refine wAc (jT (wAh rfl (wAb (wAa ?_))))
    iterate 2 refine jp rfl ?_
    refine wAc (jT (wAf (jTr ?_)))
    refine wAu (L' := []) (List.nil_sublist _) ?_
    refine jr1 rfl rfl ?_
    first | exact ⟨rfl, rfl⟩ | exact ⟨congrArg Value.bool (decide_eq_true (by omega)), rfl⟩
   ·refine jp rfl ?_
    refine wAc (jT (wAk rfl (wAd (jT (wAb (wAa ?_))))))
    refine sFa rfl ?_
    refine sFa rfl ?_
    refine sLL rfl ?_
    refine wAp rfl rfl (wAr rfl rfl rfl rfl rfl (by kernel_rfl) (wHb p.st M2 _ ⟨_, _, rfl, h2.b, h2.w⟩)) ?_; rintro _ M3 _ ⟨hM3, _, rfl, ⟨hop, rfl⟩⟩
    simp only [List.nil_append]
    obtain ⟨z, og, orr, on, oe, rfl, hoc⟩ := hop
    iterate 3 refine jp rfl ?_
    refine wAp rfl rfl (wAo rfl rfl) ?_; rintro _ _ _ ⟨b8, rfl, rfl, rfl⟩
    refine sSt rfl ?_
    refine jp rfl ?_
    refine wAc (jT (wAb (wAb (wAa ?_))))
    refine jp rfl ?_
    refine js rfl (fun h44 => ?_) (fun h44 => ?_)
    ·iterate 24 refine jp rfl ?_
     refine wAc (jT (wAh rfl (wAb (wAa ?_))))
     iterate 2 refine jp rfl ?_
     refine wAc (jT (wAf (jTr ?_)))
     refine wAu (L' := []) (List.nil_sublist _) ?_
     refine jr1 rfl rfl ?_
     first | exact ⟨rfl, rfl⟩ | exact ⟨congrArg Value.bool (decide_eq_true (by omega)), rfl⟩
    ·iterate 2 refine jp rfl ?_
     refine js rfl (fun h47 => ?_) (fun h47 => ?_)
     ·iterate 21 refine jp rfl ?_
      refine wAc (jT (wAh rfl (wAb (wAa ?_))))
      iterate 2 refine jp rfl ?_
      refine wAc (jT (wAf (jTr ?_)))
      refine wAu (L' := []) (List.nil_sublist _) ?_
      refine jr1 rfl rfl ?_
      first | exact ⟨rfl, rfl⟩ | exact ⟨congrArg Value.bool (decide_eq_true (by omega)), rfl⟩
     ·iterate 3 refine jp rfl ?_
      refine js rfl (fun h51 => ?_) (fun h51 => ?_)
      ·iterate 17 refine jp rfl ?_
       refine wAc (jT (wAh rfl (wAb (wAa ?_))))
       iterate 2 refine jp rfl ?_
       refine wAc (jT (wAf (jTr ?_)))
       refine wAu (L' := []) (List.nil_sublist _) ?_
       refine jr1 rfl rfl ?_
       first | exact ⟨rfl, rfl⟩ | exact ⟨congrArg Value.bool (decide_eq_true (by omega)), rfl⟩
      ·iterate 2 refine jp rfl ?_
       refine sFa rfl ?_
       refine sFa rfl ?_
       refine sLd rfl ?_
       refine wAj rfl rfl (wBr rfl rfl rfl) ?_
       refine js rfl (fun h58 => ?_) (fun h58 => ?_)
       ·iterate 10 refine jp rfl ?_
        refine wAc (jT (wAh rfl (wAb (wAa ?_))))
        iterate 2 refine jp rfl ?_
        refine wAc (jT (wAf (jTr ?_)))
        refine wAu (L' := []) (List.nil_sublist _) ?_
        refine jr1 rfl rfl ?_
        first | exact ⟨rfl, rfl⟩ | exact ⟨congrArg Value.bool (decide_eq_true (by omega)), rfl⟩
       ·iterate 2 refine jp rfl ?_
        refine sFa rfl ?_
        refine sFa rfl ?_
        refine sLd rfl ?_
        refine jp rfl ?_
        obtain ⟨hne, _⟩ | ⟨rfl, hdk, xx, hxx, hto, hmax, hz, rfl, rfl, rfl⟩ := hoc
        ·exact absurd (Classical.not_not.1 h44) hne
        have hnl : (wCx p.st xx.gen).length = 256 := tab_len hdk _
        obtain ⟨nb, no, e0n, nx⟩ := hz.n.sm.open (by intro e; have := congrArg List.length e; rw [wAw, List.length_nil] at this; change (wCx p.st xx.gen).length = 0 at this; omega)
        have hby := ((wCx p.st xx.gen).getD at_.toNat 0).toNat_lt
        refine wAj rfl rfl (wBg (b := nb) (off := no) rfl rfl (by show some (Value.slice _ _ _) = _; rw [e0n]) rfl (by omega)) ?_
        refine wAj rfl rfl (qLd (v := .int .u8 (((wCx p.st xx.gen).getD at_.toNat 0).toNat : Int)) rfl rfl rfl rfl ((nx _ _ (by rw [Nat.mul_one]; exact wHs (xs := wCx p.st xx.gen) (j := at_.toNat) (by omega))).cj _)) ?_
        refine js rfl (fun h67 => ?_) (fun h67 => ?_)
        ·refine jp rfl ?_
         refine wAc (jT (wAh rfl (wAb (wAa ?_))))
         iterate 2 refine jp rfl ?_
         refine wAc (jT (wAf (jTr ?_)))
         refine wAu (L' := []) (List.nil_sublist _) ?_
         refine jr1 rfl rfl ?_
         first | exact ⟨rfl, rfl⟩ | exact ⟨congrArg Value.bool (decide_eq_true (by omega)), rfl⟩
        ·refine jp rfl ?_
         refine wAc (jT (wAk rfl (wAd (jT (wAb (wAa ?_))))))
         refine sFa rfl ?_
         refine sFa rfl ?_
         refine sLL rfl ?_
         iterate 2 refine jp rfl ?_
         have h3 := h2.mono hM3
         refine wAp rfl rfl (wAr rfl rfl rfl rfl rfl (by kernel_rfl) (dwrite_any p.st.blocks p.st.waits x0.b.v x0.w.v M3 h3.b h3.w hdk at_ (by omega) block _ (hkb.mono (hM1.trans (hM2.trans hM3))) (by omega))) ?_; rintro _ M4 _ ⟨hM4, _, rfl, ⟨hwr, rfl⟩⟩
         simp only [List.nil_append]
         obtain ⟨wa, wb, we, wbs, wws, rfl, g1, g2, hwc⟩ := hwr
         iterate 3 refine jp rfl ?_
         refine wAp rfl rfl (wAo rfl rfl) ?_; rintro _ _ _ ⟨b10, rfl, rfl, rfl⟩
         refine sSt rfl ?_
         refine jp rfl ?_
         refine wAc (jT (wAb (wAa ?_)))
         refine sLL rfl ?_
         refine wAp rfl rfl (wAr rfl rfl rfl rfl rfl (by kernel_rfl) (barrier_any wbs wws wa.v wb.v M4 g1 g2)) ?_; rintro _ M5 _ ⟨hM5, _, rfl, ⟨hba, rfl⟩⟩
         simp only [List.nil_append]
         obtain ⟨ba, bb, be, bbs, rfl, f1, f2, hbc⟩ := hba
         iterate 3 refine jp rfl ?_
         refine sSt rfl ?_
         refine jp rfl ?_
         refine wAc (jT (wAb (wAb (wAa ?_))))
         refine jp rfl ?_
         refine js rfl (fun h85 => ?_) (fun h85 => ?_)
         ·iterate 4 refine jp rfl ?_
          refine wAc (jT (wAh rfl (wAb (wAa ?_))))
          iterate 2 refine jp rfl ?_
          refine wAc (jT (wAf (jTr ?_)))
          refine wAu (L' := []) (List.nil_sublist _) ?_
          refine jr1 rfl rfl ?_
          first | exact ⟨rfl, rfl⟩ | exact ⟨congrArg Value.bool (decide_eq_true (by omega)), rfl⟩
         ·iterate 2 refine jp rfl ?_
          refine js rfl (fun h88 => ?_) (fun h88 => ?_)
          ·refine jp rfl ?_
           refine wAc (jT (wAh rfl (wAb (wAa ?_))))
           iterate 2 refine jp rfl ?_
           refine wAc (jT (wAf (jTr ?_)))
           refine wAu (L' := []) (List.nil_sublist _) ?_
           refine jr1 rfl rfl ?_
           first | exact ⟨rfl, rfl⟩ | exact ⟨congrArg Value.bool (decide_eq_true (by omega)), rfl⟩
          ·refine jp rfl ?_
           refine wAc (jT (wAk rfl (wAd (jT (wAb (wAa ?_))))))
           refine sLL rfl ?_
           obtain ⟨_, hbl, rfl, rfl⟩ | hne := hwc
           rotate_left
           ·exact absurd (Classical.not_not.1 h85) hne
           obtain ⟨_, rfl⟩ | hne := hbc
           rotate_left
           ·exact absurd (Classical.not_not.1 h88) hne
           have hws : p.st.waits = [] := List.length_eq_zero_iff.1 (by omega)
           have hoth : Oth p.st (⟨wEj p.st.blocks (p.st.waits ++ [(at_, block)]), [], [], []⟩ : Sto) (wCx p.st xx.gen) := set_oth hws (by omega) (by omega)
           have hdk2 : dkOk (⟨wEj p.st.blocks (p.st.waits ++ [(at_, block)]), [], [], []⟩ : Sto).blocks (⟨wEj p.st.blocks (p.st.waits ++ [(at_, block)]), [], [], []⟩ : Sto).waits := setB_ok hdk fun w hw => by
            rw [hws, List.nil_append] at hw
            rw [List.mem_singleton.1 hw]; exact hbl
           have hfq : wHg p.st 4 = wHg (⟨wEj p.st.blocks (p.st.waits ++ [(at_, block)]), [], [], []⟩ : Sto) 4 := fndL_q fun k hk => hoth.low k (by omega)
           have hto2 := hoth.tryOk hdk2 hto
           refine wAp rfl rfl (wAr rfl rfl rfl rfl rfl (by kernel_rfl) (wHb (⟨wEj p.st.blocks (p.st.waits ++ [(at_, block)]), [], [], []⟩ : Sto) M5 _ ⟨_, _, rfl, f1, f2⟩)) ?_; rintro _ M6 _ ⟨hM6, _, rfl, ⟨hop2, rfl⟩⟩
           simp only [List.nil_append]
           obtain ⟨z2, og2, orr2, on2, oe2, rfl, hoc2⟩ := hop2
           iterate 3 refine jp rfl ?_
           refine wAp rfl rfl (wAo rfl rfl) ?_; rintro _ _ _ ⟨b13, rfl, rfl, rfl⟩
           refine sSt rfl ?_
           refine jp rfl ?_
           refine wAc (jT (wAb (wAb (wAa ?_))))
           refine jp rfl ?_
           refine js rfl (fun h97 => ?_) (fun h97 => ?_)
           ·iterate 7 refine jp rfl ?_
            refine wAc (jT (wAh rfl (wAb (wAa ?_))))
            iterate 2 refine jp rfl ?_
            refine sFa rfl ?_
            refine sFa rfl ?_
            refine sLL rfl ?_
            have h6 := h3.mono (hM4.trans (hM5.trans hM6))
            have hst : 1 < (wHg p.st 4).length := Classical.byContradiction fun hlt => by
             obtain ⟨hne, _, hno⟩ | ⟨he0, _, x2, hx2, _, _, _, rfl, _, _⟩ := hoc2
             ·exact (hno hdk2).2 _ (by rw [← hfq]; exact hxx) hto2
             ·have hxe : x2 = xx := one_only hxx hlt (by rw [hfq]; exact hx2)
              first | exact h97 he0 | exact h103 (by rw [hxe])
            refine wAp rfl rfl (wAr rfl rfl rfl rfl rfl (by kernel_rfl) (wLb p.st x0.b x0.w M6 h6.b h6.w hdk)) ?_; rintro _ M7 _ ⟨hM7, _, rfl, ⟨rfl, rfl⟩⟩
            simp only [List.nil_append]
            iterate 3 refine jp rfl ?_
            refine wAc (jT (wAf (jTr ?_)))
            refine wAu (L' := []) (List.nil_sublist _) ?_
            refine jr1 rfl rfl ?_
            first | exact ⟨rfl, rfl⟩ | exact ⟨congrArg Value.bool (decide_eq_true (by omega)), rfl⟩
           ·refine jp rfl ?_
            refine sFa rfl ?_
            refine sLd rfl ?_
            refine sFa rfl ?_
            refine sLd rfl ?_
            refine js rfl (fun h103 => ?_) (fun h103 => ?_)
            ·refine jp rfl ?_
             refine wAc (jT (wAh rfl (wAb (wAa ?_))))
             iterate 2 refine jp rfl ?_
             refine sFa rfl ?_
             refine sFa rfl ?_
             refine sLL rfl ?_
             have h6 := h3.mono (hM4.trans (hM5.trans hM6))
             have hst : 1 < (wHg p.st 4).length := Classical.byContradiction fun hlt => by
              obtain ⟨hne, _, hno⟩ | ⟨he0, _, x2, hx2, _, _, _, rfl, _, _⟩ := hoc2
              ·exact (hno hdk2).2 _ (by rw [← hfq]; exact hxx) hto2
              ·have hxe : x2 = xx := one_only hxx hlt (by rw [hfq]; exact hx2)
               first | exact h97 he0 | exact h103 (by rw [hxe])
             refine wAp rfl rfl (wAr rfl rfl rfl rfl rfl (by kernel_rfl) (wLb p.st x0.b x0.w M6 h6.b h6.w hdk)) ?_; rintro _ M7 _ ⟨hM7, _, rfl, ⟨rfl, rfl⟩⟩
             simp only [List.nil_append]
             iterate 3 refine jp rfl ?_
             refine wAc (jT (wAf (jTr ?_)))
             refine wAu (L' := []) (List.nil_sublist _) ?_
             refine jr1 rfl rfl ?_
             first | exact ⟨rfl, rfl⟩ | exact ⟨congrArg Value.bool (decide_eq_true (by omega)), rfl⟩
            ·refine jp rfl ?_
             refine wAc (jT (wAk rfl (wAd (jT (wAb (wAa ?_))))))
             refine sFa rfl ?_
             refine sFa rfl ?_
             refine sLL rfl ?_
             refine sFa rfl ?_
             refine sFa rfl ?_
             refine sSt rfl ?_
             refine wAc (jT (wAb (wAa ?_)))
             iterate 2 refine jp rfl ?_
             refine sLL rfl ?_
             refine sLL rfl ?_
             obtain ⟨hne, _⟩ | ⟨rfl, _, x2, hx2, _, _, hz2, rfl, rfl, rfl⟩ := hoc2
             ·exact absurd (Classical.not_not.1 h97) hne
             obtain rfl : x2 = xx := fndL_gen (s := p.st) (by rw [hfq]; exact hx2) hxx (Classical.not_not.1 h103)
             have et : wCx p.st x2.gen = wCx (⟨wEj p.st.blocks (p.st.waits ++ [(at_, block)]), [], [], []⟩ : Sto) x2.gen := tabOf_q (fun k _ hk => hoth.low k hk) _
             have hL := hM4.trans (hM5.trans hM6)
             have hr : PT5 M6 ⟨z.b, z.w, z2.n, z2.l, z2.d⟩ (poOf p.st x2) := ⟨(hz.mono hL).b, (hz.mono hL).w, by show BS M6 z2.n.v (wCx p.st x2.gen); rw [et]; exact hz2.n, by show BS M6 z2.l.v (wCx p.st x2.gen); rw [et]; exact hz2.l, hz2.d⟩
             refine wAp rfl rfl (wAr rfl rfl rfl rfl rfl (by kernel_rfl) (fsame_spec z ⟨z.b, z.w, z2.n, z2.l, z2.d⟩ (poOf p.st x2) M6 (hz.mono hL) hr hdk (by have := (PoOk.of hto.chk).len; omega))) ?_; rintro _ M7 _ ⟨hM7, _, rfl, ⟨rfl, rfl⟩⟩
             simp only [List.nil_append]
             iterate 2 refine jp rfl ?_
             refine wAc (jT (wAf ?_))
             refine wAu (L' := []) (List.nil_sublist _) ?_
             refine jr1 rfl rfl ?_
             first | exact ⟨rfl, rfl⟩ | exact ⟨congrArg Value.bool (decide_eq_true (by omega)), rfl⟩
end Go.Proofs.YtoincdcejjdgkaaGreat
namespace Go.Proofs.YtoincdcejjdgkaaGreat
set_option linter.unusedVariables false
set_option linter.unusedSimpArgs false
open Go.ChangeShapes Go.WideShapes Go.ChangeAt Go.RowKit Go.Joins
set_option maxRecDepth 100000 in
theorem mountOther_lifted (os : Os) (started : os.Started) (H : Type) (enc : TypeId × Value → H) :
  ReturnsInHanded {} Tryz.checked os 4 .any (Rows.mountOtherSpec.pre6 enc Tryz.prog Tryz.f4 Rows.mountOtherRow.domain false) (Rows.mountOtherSpec.post enc Tryz.prog Tryz.f4 false true false false) := by
 refine returnsInHanded_of_change (C := Tryz.checked) A.own started (by kernel_rfl) Tryz.func4
  (ChangeSpec.witness6 (enc := enc) (C := Tryz.checked) false ⟨#[], #[.agg #[.slice none 0 0, .slice none 0 0, .slice none 0 0, .slice none 0 0, .int .u32 0, .int .i64 0, .int .u32 0, .slice none 0 0], .int .i64 0, .slice none 0 0], []⟩ 8 (by kernel_rfl) (by kernel_rfl) (by kernel_rfl) (by kernel_rfl)) ?_
 intro W base args ds gs before hval0 hW hcnd _
 have hval : ∀ (j : Nat) t v, Tryz.f4.params[j]? = some t → args[j]? = some v → Value.okWide Tryz.prog W .any base t v := hval0
 have hW' := hW
 obtain ⟨p, q, hA0, hV, rfl, hfz, hnd⟩ := hW
 have hA : DataW.TrodAll enc Tryz.prog W 0 (fun _ => true) true Tryz.f4.params.toList args.toList ds p := hA0
 rw [Tryz.params4] at hA hval
 obtain ⟨v0, v1, v2, d0, d1, d2, p0, p1, p2, rfl, rfl, rfl, h0, h1, h2⟩ := trodAll_three hA
 obtain ⟨rfl, rfl⟩ := trodVars_none hV
 obtain ⟨q, hPT, hgen, hnxt⟩ := open_pool (hval 0 32 v0 rfl rfl) h0
 obtain ⟨x, e0, h5⟩ := hPT.five
 subst e0
 obtain ⟨at_, rfl, rfl, rfl, w1⟩ := open_int Tryz.underlying3 (hval 1 3 v1 rfl rfl) h1
 obtain ⟨va2, vl2, vc2, rfl⟩ := okWide_slice Tryz.underlying26 (hval 2 26 v2 rfl rfl)
 obtain ⟨_, hbf2⟩ := h2
 obtain ⟨block, hvblock⟩ := open_bs hbf2
 obtain ⟨_, _, eb, _, _⟩ := id hvblock
 cases eb
 refine (mother_walk q x (wJh W) h5 hgen hnxt at_ block _ _ hvblock |>.mono fun _ _ _ h => h.1).run.mono fun e W' ⟨he, hb⟩ => ?_
 subst he
 exact ⟨_, rfl, law_post hW' (by kernel_rfl) rfl rfl rfl hb⟩
theorem mountOther_holds : Rows.MountOtherSaid :=
 OpenClaim.holds_of_wide 4 Tryz.f4 rfl rfl rfl rfl rfl rfl rfl ⟨rfl, rfl, rfl, rfl, rfl⟩ rfl rfl rfl rfl rfl (by kernel_rfl) Tryz.func4 (by kernel_rfl)
  (of_decide_eq_true (by kernel_rfl)) (by unfold Func.isWrapper; first | (rw [if_pos (by decide +kernel)]; kernel_rfl) | (rw [if_neg (by decide +kernel)]; exact ⟨rfl, rfl⟩))
  (fun os started H enc _ => mountOther_lifted os started H enc)
end Go.Proofs.YtoincdcejjdgkaaGreat
