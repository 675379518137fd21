/- Walks: commits. -/
import Derived.Test.YtoincdcejjdgkaaGreatZRing
namespace Go.Proofs.YtoincdcejjdgkaaGreat
set_option linter.unusedVariables false
set_option linter.unusedSimpArgs false
open Go.RowKit
structure PoN (p : Po) : Prop where
 gen : 0 ≤ p.gen ∧ p.gen < 4294967296
 next : 0 ≤ p.next ∧ p.next < 4294967296
 dead : p.dead.length ≤ 1000000
def askC (p : Po) : Int := if wHc p ≠ 0 then wHc p else if p.gen = 4294967295 then 9 else 0
theorem poChk_cases (p : Po) : wHc p = 0 ∨ wHc p = 8 := by unfold wHc; split <;> simp
theorem poChk_is {p : Po} : wHc p = 0 ↔ ∃ x, cens p.st p.root p.next p.dead = some x := by
 unfold wHc
 split
 ·rename_i h; simp [h]
 ·rename_i h; simp [h]
theorem treesF_all {s : Sto} : ∀ {rs refs nodes : List Int} {x : List Int × List Int}, wFb s rs refs nodes = some x → ∀ r ∈ rs, rtOk s r = true
 | [], _, _, _, _, r, hr => by cases hr
 | y :: rs, refs, nodes, x, h, r, hr => by
  rw [wFb] at h
  split at h
  ·rename_i hy
   rcases List.mem_cons.1 hr with rfl | hr
   ·exact hy
   ·exact treesF_all h r hr
  ·cases h
structure PoOk (p : Po) : Prop where
 st : wCp p.st
 len : p.dead.length ≤ 40
 dead : ∀ d ∈ p.dead, tk d
 root : tk p.root
theorem PoOk.of {p : Po} (h : wHc p = 0) : PoOk p := by
 obtain ⟨x, hx⟩ := poChk_is.1 h
 unfold cens at hx
 split at hx
 ·rename_i hc
  refine ⟨hc.1, hc.2.1, ?_, by have := rtOk_in hc.2.2; exact ⟨this.1, this.2.1⟩⟩
  split at hx
  ·cases hx
  ·split at hx
   ·cases hx
   ·split at hx
    ·cases hx
    ·rename_i ht
     intro d hd
     have := rtOk_in (treesF_all ht d (by unfold wKo; simp [hd]))
     exact ⟨this.1, this.2.1⟩
 ·cases hx
def sup (p : Po) : Su := ⟨p.gen + 1, p.root, p.next, sumOf p.st.now, p.dead⟩
theorem sup_ok {p : Po} (h : PoOk p) : suOk (sup p) := ⟨h.dead, h.root, h.len⟩
def wFh (p : Po) : Nat → List Wt
 | 0 => []
 | 1 => wts (4 + 2 * ((p.gen + 1) % 2)) p.st.now
 | _ => [((p.gen + 1) % 4, suB (sup p))]
def dsk (p : Po) : Nat → List (List By) × List Wt
 | 0 => (p.st.blocks, p.st.waits)
 | 1 => (p.st.blocks, p.st.waits)
 | k + 2 => (wFn (dsk p (k + 1)).1 (dsk p (k + 1)).2, wFh p (k + 1))
theorem half_len {t : List By} (h : t.length = 256) {i : Nat} (hi : i < 2) : (half t i).length = 128 := by unfold half; rw [List.length_take, List.length_drop]; omega
theorem cmAdd_ok {p : Po} (h : PoOk p) (hn : PoN p) (k : Nat) : (wFh p k).length ≤ 2 ∧ ∀ w ∈ wFh p k, 0 ≤ w.1 ∧ w.1 < 8 ∧ w.2.length = 128 := by
 have hl : p.st.now.length = 256 := h.st.2.1.1
 have hg := hn.gen
 match k with
 | 0 => exact ⟨by simp [wFh], fun w hw => by simp [wFh] at hw⟩
 | 1 =>
  refine ⟨by simp [wFh, wts], fun w hw => ?_⟩
  simp only [wFh, wts, List.mem_cons, List.not_mem_nil, or_false] at hw
  rcases hw with rfl | rfl
  ·exact ⟨by show 0 ≤ 4 + 2 * ((p.gen + 1) % 2); omega, by show 4 + 2 * ((p.gen + 1) % 2) < 8; omega, half_len hl (by decide)⟩
  ·exact ⟨by show 0 ≤ 4 + 2 * ((p.gen + 1) % 2) + 1; omega, by show 4 + 2 * ((p.gen + 1) % 2) + 1 < 8; omega, half_len hl (by decide)⟩
 | k + 2 =>
  refine ⟨by simp [wFh], fun w hw => ?_⟩
  simp only [wFh, List.mem_cons, List.not_mem_nil, or_false] at hw
  subst hw
  exact ⟨by show 0 ≤ (p.gen + 1) % 4; omega, by show (p.gen + 1) % 4 < 8; omega, suB_len (sup_ok h)⟩
theorem cmAdd_dk {p : Po} (h : PoOk p) (hn : PoN p) {k : Nat} {bs : List (List By)} {ws : List Wt} (hd : dkOk bs ws) (hw : ws = []) : dkOk bs (ws ++ wFh p k) := by
 obtain ⟨h1, h2⟩ := cmAdd_ok h hn k
 subst hw
 exact ⟨hd.1, by rw [List.nil_append]; omega, hd.2.2.1, fun w hw => by have := h2 w (by simpa using hw); exact ⟨this.1, by omega, this.2.2⟩⟩
theorem dsk_ok {p : Po} (h : PoOk p) (hn : PoN p) : ∀ k, dkOk (dsk p k).1 (dsk p k).2
 | 0 => h.st.1
 | 1 => h.st.1
 | k + 2 => by
  have h1 := dsk_ok h hn (k + 1)
  have := cmAdd_dk h hn (k := k + 1) (setB_ok h1 fun w hw => (h1.w w hw).2.2) rfl
  rw [List.nil_append] at this; exact this
theorem bAnd_1 {n : Int} (h : 0 ≤ n ∧ n < 4294967296) : bAnd .i64 n 1 = n % 2 := by
 unfold bAnd
 have h1 : (BitVec.ofInt IntKind.i64.bits n &&& BitVec.ofInt IntKind.i64.bits 1).toNat = n.toNat % 2 := by
  rw [BitVec.toNat_and, BitVec.toNat_ofInt, BitVec.toNat_ofInt, show ((1 : Int) % ((2 ^ IntKind.i64.bits : Nat) : Int)).toNat = 2 ^ 1 - 1 by decide, Nat.and_two_pow_sub_one_eq_mod]
  show (n % 18446744073709551616).toNat % 2 = n.toNat % 2
  rw [Int.emod_eq_of_lt (by omega) (by omega)]
 rw [h1, IntWalk.i64_in _ (by omega)]; omega
def cmt (p : Po) : Po := { p with st := ⟨wFn (dsk p 3).1 (dsk p 3).2, [], p.st.now, p.st.now⟩, gen := p.gen + 1 }
abbrev ffs : Nat → FuncId
 | 0 => 53
 | 1 => 54
 | _ => 56
abbrev cps (b1 : Nat) : Nat → List Value
 | 0 => []
 | _ => [.pointer (some ⟨b1, 0, none⟩)]
abbrev stepV (b1 i : Nat) : Value := .func (.func (ffs i)) #[] (cps b1 i).toArray
theorem ffs_go (i : Nat) : isGo Tryz.prog (ffs i) = true := by
 match i with
 | 0 => show isGo Tryz.prog 53 = true; kernel_rfl
 | 1 => show isGo Tryz.prog 54 = true; kernel_rfl
 | i + 2 => show isGo Tryz.prog 56 = true; kernel_rfl
theorem step1_spec (p : Po) (M : Mem) (bs : List (List By)) (ws : List Wt) (bv wv : Value) (h1 : LS M bv bs) (h2 : WS M wv ws) (hdk : dkOk bs ws) :
  SpecL Tryz.prog 53 #[.agg #[bv, wv]] M [] fun u M' L' => (∃ d, u = .tuple #[d, .int .i64 0] ∧ DK M' d bs (ws ++ wFh p 0)) ∧ L' = [] := by
 obtain ⟨ba, bc, bps, rfl, _⟩ := id h1
 obtain ⟨wa, wc, wps, rfl, _⟩ := id h2
 refine wAf (vs := [_]) 5 _ Tryz.func53 rfl Tryz.ntmps53 rfl rfl ?_; intro W
 refine wAb (wAa (wAw rfl rfl (wCb (cs := [_, _]) rfl rfl rfl rfl) ?_)); rintro _ _ _ ⟨b1, rfl, rfl, rfl⟩
 refine sAl rfl fun b2 => ?_
 refine jp rfl (wAc (jT (wAb (wAa (sLL rfl ?_)))))
 refine sSt rfl ?_
 refine jp rfl (wAc (jT (wAe (wCd (rs := [_, _]) ([]) (by exact List.nil_sublist _) rfl (.cons (.agg rfl rfl rfl) (.cons (.tmp rfl) .nil)) ?_))))
 exact ⟨⟨_, rfl, _, _, rfl, h1, by rw [show ws ++ wFh p 0 = ws from List.append_nil _]; exact h2⟩, rfl⟩
theorem step2_spec (p : Po) (hok : PoOk p) (hn : PoN p) (hg : p.gen ≠ 4294967295) (pv pw pn pl : Value) (da : Option Addr) (dc : Nat) (M : Mem) (h3 : BS M pn p.st.now) (hdc : p.dead.length ≤ dc) (hds : SM M da (wBj p.dead)) (b1 : Nat) (hb1 : M b1 = some (.cells (poc pv pw pn pl p.gen p.root p.next (.slice da p.dead.length dc)).toArray TPo (0, 0))) (bs : List (List By)) (ws : List Wt) (bv wv : Value) (h1 : LS M bv bs) (h2 : WS M wv ws) (hdk : dkOk bs ws) (hwl : ws.length ≤ 4000) :
  SpecL Tryz.prog 54 #[.agg #[bv, wv], .pointer (some ⟨b1, 0, none⟩)] M [] fun u M' L' => (∃ d, u = .tuple #[d, .int .i64 0] ∧ DK M' d bs (ws ++ wFh p 1)) ∧ L' = [] := by
 have hgg := hn.gen
 refine wAf (vs := [_, _]) 17 _ Tryz.func54 rfl Tryz.ntmps54 rfl rfl ?_; intro W
 refine wAb (wAa (wAw rfl rfl (wCb (cs := [_, _]) rfl rfl rfl rfl) ?_)); rintro _ _ _ ⟨b2, rfl, rfl, rfl⟩
 refine sAl rfl fun b3 => ?_
 refine jp rfl (wAc (jT (wAb (wAa (sLL rfl ?_)))))
 refine sFa rfl ?_
 refine wAi rfl rfl (qLd rfl rfl rfl rfl (CM.cj ⟨_, _, _, hb1, rfl⟩ _)) ?_
 refine wAi rfl rfl (qEq (qP rfl rfl) (v' := .int .u32 (p.gen + 1)) (by congr 1; rw [IntKind.wrap_u32]; omega)) ?_
 refine wAi rfl rfl (wEj rfl rfl rfl (by omega)) ?_
 refine wAi rfl rfl (qEq (qBits rfl rfl rfl rfl rfl) (v' := .int .i64 ((p.gen + 1) % 2)) (by rw [bAnd_1 (by omega)])) ?_
 refine sFF rfl rfl ?_
 refine wAi rfl rfl (qLd rfl rfl rfl rfl (CM.cj ⟨_, _, _, hb1, rfl⟩ _)) ?_
 refine wAw rfl rfl (wAn rfl rfl rfl rfl rfl (by kernel_rfl) (cwrite_spec bs ws bv wv M h1 h2 hdk ((p.gen + 1) % 2) (by omega) p.st.now pn h3 hok.st.2.1 hwl)) ?_; rintro _ M1 _ ⟨hM1, _, rfl, ⟨⟨d, rfl, bv2, wv2, rfl, hB, hW⟩, rfl⟩⟩
 obtain ⟨ba, bc, bps, rfl, _⟩ := id hB
 obtain ⟨wa, wc, wps, rfl, _⟩ := id hW
 refine jp rfl (jp rfl (sSt rfl ?_))
 refine jp rfl (wAc (jT (wAe (wCd (rs := [_, _]) ([]) (by exact List.nil_sublist _) rfl (.cons (.agg rfl rfl rfl) (.cons (.tmp rfl) .nil)) ?_))))
 exact ⟨⟨_, rfl, _, _, rfl, hB, hW⟩, rfl⟩
set_option maxHeartbeats 1000000 in
theorem step3_spec (p : Po) (hok : PoOk p) (hn : PoN p) (hg : p.gen ≠ 4294967295) (pv pw pn pl : Value) (da : Option Addr) (dc : Nat) (M : Mem) (h3 : BS M pn p.st.now) (hdc : p.dead.length ≤ dc) (hds : SM M da (wBj p.dead)) (b1 : Nat) (hb1 : M b1 = some (.cells (poc pv pw pn pl p.gen p.root p.next (.slice da p.dead.length dc)).toArray TPo (0, 0))) (bs : List (List By)) (ws : List Wt) (bv wv : Value) (h1 : LS M bv bs) (h2 : WS M wv ws) (hdk : dkOk bs ws) (hwl : ws.length ≤ 4000) :
  SpecL Tryz.prog 56 #[.agg #[bv, wv], .pointer (some ⟨b1, 0, none⟩)] M [] fun u M' L' => (∃ d, u = .tuple #[d, .int .i64 0] ∧ DK M' d bs (ws ++ wFh p 2)) ∧ L' = [] := by
 have hgg := hn.gen
 have hdl := hn.dead
 refine wAf (vs := [_, _]) 33 _ Tryz.func56 rfl Tryz.ntmps56 rfl rfl ?_; intro W
 refine wAb (wAa (wAw rfl rfl (wCb (cs := [_, _]) rfl rfl rfl rfl) ?_)); rintro _ _ _ ⟨b2, rfl, rfl, rfl⟩
 refine sAl rfl fun b3 => ?_
 refine jp rfl (wAc (jT (wAb (wAa (sFF rfl rfl ?_)))))
 refine wAi rfl rfl (qLd rfl rfl rfl rfl (CM.cj ⟨_, _, _, hb1, rfl⟩ _)) ?_
 refine wAi rfl rfl (wBf rfl rfl rfl rfl rfl (by kernel_rfl) (csum_spec p.st.now pn M h3 hok.st.2.1)) ?_
 refine jp rfl (jp rfl (jp rfl (jp rfl (jp rfl (wAc (jT (wAb (wAb (wAa (jp rfl (jf rfl (decide_eq_false (by omega)) ?_)))))))))))
 refine wAc (jT (wAj rfl (wAd (jT (wAb (wAa (sLL rfl ?_)))))))
 refine sFa rfl ?_
 refine wAi rfl rfl (qLd rfl rfl rfl rfl (CM.cj ⟨_, _, _, hb1, rfl⟩ _)) ?_
 refine wAi rfl rfl (qEq (qP rfl rfl) (v' := .int .u32 (p.gen + 1)) (by congr 1; rw [IntKind.wrap_u32]; omega)) ?_
 refine sFa rfl ?_
 refine wAi rfl rfl (qLd rfl rfl rfl rfl (CM.cj ⟨_, _, _, hb1, rfl⟩ _)) ?_
 refine sFa rfl ?_
 refine wAi rfl rfl (qLd rfl rfl rfl rfl (CM.cj ⟨_, _, _, hb1, rfl⟩ _)) ?_
 refine jp rfl (sFa rfl ?_)
 refine wAi rfl rfl (qLd rfl rfl rfl rfl (CM.cj ⟨_, _, _, hb1, rfl⟩ _)) ?_
 refine wAi rfl rfl (wAq (cs := [_, _, _, _, _]) rfl rfl rfl (by rfl)) ?_
 refine wAw rfl rfl (wAn rfl rfl rfl rfl rfl (by kernel_rfl) (rput_spec bs ws bv wv M h1 h2 hdk (sup p) da dc hdc hds hdl (sup_ok hok) (by show 0 ≤ p.gen + 1 ∧ p.gen + 1 < 4294967296; omega) (by omega))) ?_; rintro _ M1 _ ⟨hM1, _, rfl, ⟨⟨d, rfl, bv2, wv2, rfl, hB, hW⟩, rfl⟩⟩
 obtain ⟨ba, bc, bps, rfl, _⟩ := id hB
 obtain ⟨wa, wc, wps, rfl, _⟩ := id hW
 refine jp rfl (jp rfl (sSt rfl ?_))
 refine jp rfl (wAc (jT (wAe (wCd (rs := [_, _]) ([]) (by exact List.nil_sublist _) rfl (.cons (.agg rfl rfl rfl) (.cons (.tmp rfl) .nil)) ?_))))
 exact ⟨⟨_, rfl, _, _, rfl, hB, hW⟩, rfl⟩
theorem stepk_spec (p : Po) (hok : PoOk p) (hn : PoN p) (hg : p.gen ≠ 4294967295) (pv pw pn pl : Value) (da : Option Addr) (dc : Nat) (k : Nat) (hk : k < 3) (M : Mem) (h3 : BS M pn p.st.now) (hdc : p.dead.length ≤ dc) (hds : SM M da (wBj p.dead)) (b1 : Nat) (hb1 : M b1 = some (.cells (poc pv pw pn pl p.gen p.root p.next (.slice da p.dead.length dc)).toArray TPo (0, 0))) (bs : List (List By)) (ws : List Wt) (bv wv : Value) (h1 : LS M bv bs) (h2 : WS M wv ws) (hdk : dkOk bs ws) (hwl : 0 < k → ws.length ≤ 4000) : SpecL Tryz.prog (ffs k) (.agg #[bv, wv] :: cps b1 k).toArray M [] fun u M' L' => (∃ d, u = .tuple #[d, .int .i64 0] ∧ DK M' d bs (ws ++ wFh p k)) ∧ L' = [] := by
 match k, hk with
 | 0, _ => exact step1_spec p M bs ws bv wv h1 h2 hdk
 | 1, _ => exact step2_spec p hok hn hg pv pw pn pl da dc M h3 hdc hds b1 hb1 bs ws bv wv h1 h2 hdk (hwl (by decide))
 | 2, _ => exact step3_spec p hok hn hg pv pw pn pl da dc M h3 hdc hds b1 hb1 bs ws bv wv h1 h2 hdk (hwl (by decide))
theorem steps_spec (p : Po) (pv pw pn pl : Value) (da : Option Addr) (dc : Nat) (M : Mem) :
  SpecL Tryz.prog 30 #[.agg (poc pv pw pn pl p.gen p.root p.next (.slice da p.dead.length dc)).toArray] M [] fun u M' L' => ∃ b b1, u = .slice (some ⟨b, 0, none⟩) 3 3 ∧ M' b = some (.cells [stepV b1 0, stepV b1 1, stepV b1 2].toArray 113 (0, 0)) ∧ M' b1 = some (.cells (poc pv pw pn pl p.gen p.root p.next (.slice da p.dead.length dc)).toArray TPo (0, 0)) ∧ L' = [] := by
 refine wAf (vs := [_]) 6 _ Tryz.func30 rfl Tryz.ntmps30 rfl rfl ?_; intro W
 refine wAb (wAa (wAw rfl rfl (wCb (cs := [_, _, _, _, _, _, _, _]) rfl rfl rfl rfl) ?_)); rintro _ _ _ ⟨b1, rfl, rfl, rfl⟩
 refine jp rfl (wAc (jT (wAb (wAa (jp rfl (jp rfl (wAw rfl rfl (wAm (cs := [_, _, _]) rfl rfl rfl (by rfl) (by rfl) (by rfl)) ?_))))))); rintro _ _ _ ⟨b5, rfl, rfl, rfl⟩
 refine jp rfl (wAc (jT (wAe (wBv b1 (by simp) ?_))))
 intro M1 hM1 e1
 refine wBv b5 (by simp) ?_
 intro M2 hM2 e5
 refine jr1 rfl rfl ?_
 exact ⟨b5, b1, rfl, e5, hM2 _ _ e1, rfl⟩
set_option maxHeartbeats 2000000 in
theorem ahead_spec (p : Po) (hok : PoOk p) (hn : PoN p) (hg : p.gen ≠ 4294967295) (pv pw pn pl : Value) (da : Option Addr) (dc : Nat) (M : Mem) (h3 : BS M pn p.st.now) (hdc : p.dead.length ≤ dc) (hds : SM M da (wBj p.dead)) (h1 : LS M pv p.st.blocks) (h2 : WS M pw p.st.waits) (n : Nat) (hn3 : n ≤ 3) (c b b1 : Nat) (hb : M b = some (.cells [stepV b1 0, stepV b1 1, stepV b1 2].toArray 113 (0, 0))) (hb1 : M b1 = some (.cells (poc pv pw pn pl p.gen p.root p.next (.slice da p.dead.length dc)).toArray TPo (0, 0))) :
  SpecL Tryz.prog 29 #[.agg (poc pv pw pn pl p.gen p.root p.next (.slice da p.dead.length dc)).toArray, .slice (some ⟨b, 0, none⟩) n c] M [] fun u M' L' => (∃ d, u = .tuple #[d, .int .i64 0] ∧ DK M' d (dsk p n).1 (dsk p n).2) ∧ L' = [] := by
 obtain ⟨ba0, bc0, bps0, rfl, _⟩ := id h1
 obtain ⟨wa0, wc0, wps0, rfl, _⟩ := id h2
 refine wAf (vs := [_, _]) 41 _ Tryz.func29 rfl Tryz.ntmps29 rfl rfl ?_; intro W
 refine wAb (wAa (wAw rfl rfl (wCb (cs := [_, _, _, _, _, _, _, _]) rfl rfl rfl rfl) ?_)); rintro _ _ _ ⟨b2, rfl, rfl, rfl⟩
 refine sAl rfl fun b4 => ?_
 refine jp rfl (wAc (jT (wAb (wAa (sFF rfl rfl ?_)))))
 refine sLL rfl ?_
 refine sSt rfl ?_
 refine wAc (jT (wAb (wAb (wAa (jp rfl (wAi rfl rfl (wBq rfl rfl rfl) ?_))))))
 refine jp rfl (wAc (jT (wAh ?_)))
 refine wAr (α := Nat × Mem × Value × Value) (fun x => [(2, .pointer (some ⟨b2, 0, none⟩)), (4, .pointer (some ⟨b4, 0, none⟩)), (11, .slice (some ⟨b, 0, none⟩) n c), (12, .int .i64 n), (13, .int .i64 x.1)]) (fun x => x.2.1) (fun x => [(b4, .cells [x.2.2.1, x.2.2.2].toArray TDk (0, 0)), (b2, .cells (poc (.slice ba0 p.st.blocks.length bc0) (.slice wa0 p.st.waits.length wc0) pn pl p.gen p.root p.next (.slice da p.dead.length dc)).toArray TPo (0, 0))]) (fun x => x.1 ≤ n ∧ MLe M x.2.1 ∧ LS x.2.1 x.2.2.1 (dsk p x.1).1 ∧ WS x.2.1 x.2.2.2 (dsk p x.1).2) (fun x => n - x.1)
  (0, M, _, _) (.cons (t := 2) rfl (.cons (t := 4) rfl (.cons (t := 11) rfl (.cons (t := 12) rfl (.cons (t := 13) rfl .nil))))) ⟨Nat.zero_le _, MLe.refl _, h1, h2⟩ (fun _ h => h) ?_
 rintro ⟨k, Mk, bvk, wvk⟩ ⟨hk, hMk, hB, hW⟩
 try dsimp only at hk hMk hB hW ⊢
 obtain ⟨ka, kc, kps, rfl, _⟩ := id hB
 obtain ⟨kwa, kwc, kwps, rfl, _⟩ := id hW
 refine wAb (wAa (js rfl (fun h14 => ?_) (fun h14 => ?_)))
 ·refine wAc (jT (wAb (wAg rfl (wAd (jT (wAb (wAh (wAb (wAa (jp rfl ?_))))))))))
  have hk3 : k < 3 := by omega
  refine wAi rfl rfl (wBa rfl rfl rfl rfl (by omega)) ?_
  refine wAi rfl rfl (qLd (v := stepV b1 k) rfl rfl rfl rfl (CM.cj ⟨_, _, _, hMk _ _ hb, by rw [Nat.zero_add, Nat.mul_one]; match k, hk3 with | 0, _ => rfl | 1, _ => rfl | 2, _ => rfl⟩ _)) ?_
  refine jp rfl (jp rfl (wAc (jT (wAb (wAb (wAa (jp rfl (js rfl (fun h19 => ?_) (fun h19 => ?_)))))))))
  ·refine wAc (jT (wAg rfl (wAb (wAa (sLL rfl ?_)))))
   have hdkk := dsk_ok hok hn k
   refine wAw rfl rfl (wAn rfl rfl rfl rfl rfl (by kernel_rfl) (barrier_spec (dsk p k).1 (dsk p k).2 _ _ Mk hB hW hdkk)) ?_; rintro _ Mb _ ⟨hMb, _, rfl, ⟨⟨d, rfl, bv2, wv2, rfl, hB2, hW2⟩, rfl⟩⟩
   simp only [nA]
   obtain ⟨ba, bc, bps, rfl, _⟩ := id hB2
   obtain ⟨wa, wc, wps, rfl, _⟩ := id hW2
   refine jp rfl (jp rfl (jp rfl (sSt rfl ?_)))
   refine jp rfl (wAc (jT (wAb (wAa (jp rfl (jf rfl (decide_eq_false (by omega)) ?_))))))
   refine wAc (jT (wAj rfl (wAd (jT (wAb (wAa (jp rfl (sLL rfl ?_))))))))
   refine wAw rfl rfl (wAn rfl rfl rfl rfl rfl (ffs_go k) (stepk_spec p hok hn hg _ _ pn pl da dc k hk3 Mb ((h3.mono (hMk.trans hMb))) hdc (hds.mono (hMk.trans hMb)) b1 ((hMk.trans hMb) _ _ hb1) (wFn (dsk p k).1 (dsk p k).2) [] _ _ hB2 hW2 (setB_ok hdkk fun w hw => (hdkk.w w hw).2.2) (fun _ => by simp))) ?_; rintro _ Mc _ ⟨hMc, _, rfl, ⟨⟨d3, rfl, bv3, wv3, rfl, hB3, hW3⟩, rfl⟩⟩
   simp only [nA]
   obtain ⟨ca, cc, cps_, rfl, _⟩ := id hB3
   obtain ⟨va, vc, vps, rfl, _⟩ := id hW3
   refine jp rfl (jp rfl (jp rfl (sSt rfl ?_)))
   refine jp rfl (wAc (jT (wAb (wAa (jp rfl (jf rfl (decide_eq_false (by omega)) ?_))))))
   refine wAc (jT (wAj rfl (wAd (jB (jT (wAa (ja rfl (by omega) ?_)))))))
   refine jp rfl (wAc ?_)
   obtain ⟨j, rfl⟩ : ∃ j, k = j + 1 := ⟨k - 1, by omega⟩
   refine wAp (j + 1 + 1, Mc, .slice ca _ cc, .slice va _ vc) (.cons (t := 2) rfl (.cons (t := 4) rfl (.cons (t := 11) rfl (.cons (t := 12) rfl (.cons (t := 13) rfl .nil))))) ⟨by show j + 1 + 1 ≤ n; omega, (hMk.trans hMb).trans hMc, hB3, hW3⟩ (by show n - (j + 1 + 1) < n - (j + 1); omega) (fun _ h => h)
  ·refine wAc (jT (wAj rfl (wAd (jT (wAb (wAa (jp rfl (sLL rfl ?_))))))))
   refine wAw rfl rfl (wAn rfl rfl rfl rfl rfl (ffs_go k) (stepk_spec p hok hn hg _ _ pn pl da dc k hk3 Mk (h3.mono hMk) hdc (hds.mono hMk) b1 (hMk _ _ hb1) (dsk p k).1 (dsk p k).2 _ _ hB hW (dsk_ok hok hn k) (fun h => by omega))) ?_; rintro _ Mc _ ⟨hMc, _, rfl, ⟨⟨d3, rfl, bv3, wv3, rfl, hB3, hW3⟩, rfl⟩⟩
   simp only [nA]
   obtain ⟨ca, cc, cps_, rfl, _⟩ := id hB3
   obtain ⟨va, vc, vps, rfl, _⟩ := id hW3
   refine jp rfl (jp rfl (jp rfl (sSt rfl ?_)))
   refine jp rfl (wAc (jT (wAb (wAa (jp rfl (jf rfl (decide_eq_false (by omega)) ?_))))))
   refine wAc (jT (wAj rfl (wAd (jB (jT (wAa (ja rfl (by omega) ?_)))))))
   refine jp rfl (wAc ?_)
   obtain rfl : k = 0 := by omega
   refine wAp (1, Mc, .slice ca _ cc, .slice va _ vc) (.cons (t := 2) rfl (.cons (t := 4) rfl (.cons (t := 11) rfl (.cons (t := 12) rfl (.cons (t := 13) rfl .nil))))) ⟨by show 1 ≤ n; omega, hMk.trans hMc, hB3, by
    have hz : (dsk p 0).2 ++ wFh p 0 = (dsk p 1).2 := List.append_nil _
    have := hW3
    rw [hz] at this
    show WS Mc (.slice va ((dsk p 0).2 ++ wFh p 0).length vc) (dsk p 1).2
    rw [hz]; exact this⟩ (by show n - 1 < n - 0; omega) (fun _ h => h)
 ·refine wAc (jT (wAb (wAj rfl (wAs (jTx (jTx (jBx (jT (wAb (wAa (sLL rfl ?_)))))))))))
  refine sSt rfl ?_
  refine jp rfl (wAc (jT (wAe (wCd (rs := [_, _]) ([]) (by exact List.nil_sublist _) rfl (.cons (.agg rfl rfl rfl) (.cons (.tmp rfl) .nil)) ?_))))
  obtain rfl : k = n := by omega
  exact ⟨⟨_, rfl, _, _, rfl, hB, hW⟩, rfl⟩
theorem casked_spec (p : Po) (v : Value) (M : Mem) (h : PT M v p) (hn : PoN p) :
  SpecL Tryz.prog 28 #[v] M [] fun u M' L' => u = .int .i64 (askC p) ∧ L' = [] := by
 have hpt := h
 obtain ⟨pv, pw, pn, pl, dv, rfl, h1, h2, h3, h4, da, dc, rfl, hdc, hds⟩ := h
 refine wAf (vs := [_]) 12 _ Tryz.func28 rfl Tryz.ntmps28 rfl rfl ?_; intro W
 refine wAb (wAa (wAw rfl rfl (wCb (cs := [_, _, _, _, _, _, _, _]) rfl rfl rfl rfl) ?_)); rintro _ _ _ ⟨b1, rfl, rfl, rfl⟩
 refine jp rfl (wAc (jT (wAb (wAb (wAa (sLL rfl ?_))))))
 refine wAw rfl rfl (wAn rfl rfl rfl rfl rfl (by kernel_rfl) (fochk_spec p _ M hpt hn.dead)) ?_; rintro _ M1 _ ⟨hM1, _, rfl, ⟨rfl, rfl⟩⟩
 simp only [nA]
 refine jp rfl (wAc (jT (wAb (wAa (jp rfl (js rfl (fun h7 => ?_) (fun h7 => ?_)))))))
 ·refine wAc (jT (wAg rfl (wAb (wAa (jp rfl (jp rfl (wAc (jT (wAe (jTr (wAv (L' := []) (List.nil_sublist _) ?_)))))))))))
  refine jr1 rfl rfl ?_
  exact ⟨by unfold askC; rw [if_pos h7]; try rfl, rfl⟩
 ·refine wAc (jT (wAj rfl (wAd (jT (wAb (wAb (wAa (sFL rfl rfl ?_))))))))
  refine js rfl (fun h11 => ?_) (fun h11 => ?_)
  ·refine wAc (jT (wAg rfl (wAb (wAa (jp rfl (wAc (jT (wAe (jTr (wAv (L' := []) (List.nil_sublist _) ?_))))))))))
   refine jr1 rfl rfl ?_
   exact ⟨by unfold askC; rw [if_neg h7, if_pos h11]; try rfl, rfl⟩
  ·refine wAc (jT (wAj rfl (wAd (jT (wAb (wAa (jp rfl (wAc (jT (wAe (wAv (L' := []) (List.nil_sublist _) ?_)))))))))))
   refine jr1 rfl rfl ?_
   exact ⟨by unfold askC; rw [if_neg h7, if_neg h11]; try rfl, rfl⟩
theorem PT.none {M : Mem} {v : Value} {p : Po} (h : PT M v p) : True := trivial
theorem niclone_nil (c : Nat) (M : Mem) :
  SpecL Tryz.prog 60 #[.slice none 0 c] M [] fun v _ L' => Own v L' 3 1 0 [] := by
 refine wAf (vs := [_]) 8 _ Tryz.func60 rfl Tryz.ntmps60 rfl rfl ?_; intro W
 refine wAb (wAa (jp rfl (wAc (jT (wAb (wAb (wAa (jp rfl (wAi rfl rfl (qEq (qNil rfl rfl rfl rfl) (v' := .bool true) (by simp)) ?_)))))))))
 refine wAc (jT (wAg rfl (wAb (wAa (jp rfl (wAc (jT (wAe (jTr (jr1 rfl rfl ?_))))))))))
 exact Own.nil _ _
theorem niclone_some (b : Addr) (n c : Nat) (vals : List Value) (M : Mem) (hs : SM M (some b) vals) (hl : vals.length = n) (h1 : ∀ v ∈ vals, v.oneCell' = true) (hn : n ≤ 1000000) :
  SpecL Tryz.prog 60 #[.slice (some b) n c] M [] fun v _ L' => Own v L' 3 1 n vals := by
 refine wAf (vs := [_]) 8 _ Tryz.func60 rfl Tryz.ntmps60 rfl rfl ?_; intro W
 refine wAb (wAa (jp rfl (wAc (jT (wAb (wAb (wAa (jp rfl (wAi rfl rfl (qEq (qNil rfl rfl rfl rfl) (v' := .bool false) (by simp)) ?_)))))))))
 refine wAc (jT (wAj rfl (wAd (jT (wAb (wAa (wAw rfl rfl (wAm (z := [.int .i64 0]) (cs := []) rfl rfl rfl (by rfl) (by rfl) (by rfl)) ?_))))))); rintro _ _ _ ⟨b5, rfl, rfl, rfl⟩
 refine jp rfl (wAw rfl rfl (wFv (n := 0) (xs := []) (news := vals) rfl rfl rfl rfl (Own.empty b5 _ _) (by omega) hs rfl h1 (by omega) (by decide)) ?_); rintro v7 _ _ ⟨rfl, R7, rfl, hown⟩
 refine jp rfl (wAc (jT (wAe (jr1 rfl rfl ?_))))
 simpa using hown
theorem niclone_spec (a : Option Addr) (n c : Nat) (vals : List Value) (M : Mem) (hs : SM M a vals) (hl : vals.length = n) (h1 : ∀ v ∈ vals, v.oneCell' = true) (hn : n ≤ 1000000) : SpecL Tryz.prog 60 #[.slice a n c] M [] fun v _ L' => Own v L' 3 1 n vals := by
 cases a with
 | none =>
  have h0 : vals = [] := hs.elim id (fun ⟨_, _, h, _⟩ => by cases h)
  subst h0
  have : n = 0 := by simpa using hl.symm
  subst this
  exact niclone_nil c M
 | some b => exact niclone_some b n c vals M hs hl h1 hn
set_option maxHeartbeats 1000000 in
theorem ftwin_walk (p : Po) (pv pw pn pl : Value) (da : Option Addr) (dc : Nat) (M : Mem) (h1 : LS M pv p.st.blocks) (h2 : WS M pw p.st.waits) (h3 : BS M pn p.st.now) (h4 : BS M pl p.st.last) (hdc : p.dead.length ≤ dc) (hds : SM M da (wBj p.dead)) (hst0 : wCp p.st) (hdl : p.dead.length ≤ 1000000) :
  SpecL Tryz.prog 31 #[.agg (poc pv pw pn pl p.gen p.root p.next (.slice da p.dead.length dc)).toArray] M [] fun u M' L' => PT M' u p ∧ L' = [] := by
 have hdk := hst0.1
 have hnl : p.st.now.length = 256 := hst0.2.1.1
 have hll : p.st.last.length = 256 := hst0.2.2.1
 refine wAf (vs := [_]) 12 _ Tryz.func31 rfl Tryz.ntmps31 rfl rfl ?_; intro W
 refine wAb (wAa (wAw rfl rfl (wCb (cs := [_, _, _, _, _, _, _, _]) rfl rfl rfl rfl) ?_)); rintro _ _ _ ⟨b1, rfl, rfl, rfl⟩
 refine sAl rfl fun b2 => ?_
 refine wAc (jT (wAb (wCh (p := { A := fun i => !([7, 9].contains i), U := fun i => !([7, 8, 9].contains i) }) [(0, true), (1, true), (3, true), (4, true), (2, false), (6, true), (5, false), (7, false), (8, true), (9, false)] M ([(b1, .cells (poc pv pw pn pl p.gen p.root p.next (.slice da p.dead.length dc)).toArray TPo (0, 0))]) ([]) (by kernel_rfl) (by kernel_rfl) (by kernel_rfl) (by kernel_rfl) rfl (by simp) (MLe.refl _) (by simp) ?_)))
 refine dFa rfl rfl ?_
 refine dLL rfl rfl ?_
 refine dFa rfl rfl ?_
 refine dLd rfl rfl ?_
 refine wHh rfl rfl rfl (wAn rfl rfl rfl rfl rfl (by kernel_rfl) (rtwin_walk p.st pv pw pn pl M h1 h2 h3 h4 hdk (by omega) (by omega))) ?_; rintro _ M1 _ ⟨hM1, _, rfl, ⟨hst, rfl⟩⟩
 refine ⟨_, _, MLe.refl _, hM1, fun _ h => h, by simp, ?_⟩
 obtain ⟨q1, q2, q3, q4, rfl, g1, g2, g3, g4⟩ := hst.ex
 obtain ⟨ba, bc, bps, rfl, _⟩ := id g1
 obtain ⟨wa, wc, wps, rfl, _⟩ := id g2
 obtain ⟨na, nc, rfl, _⟩ := id g3
 obtain ⟨la, lc, rfl, _⟩ := id g4
 refine dFa rfl rfl ?_
 refine wHh rfl rfl rfl (wAn rfl rfl rfl rfl rfl (by kernel_rfl) (niclone_spec da _ dc (wBj p.dead) M1 (hds.mono hM1) (wBm _) (icells_one _) hdl)) ?_; rintro _ M2 _ ⟨hM2, R2, rfl, hown⟩
 refine ⟨_, _, MLe.refl _, (hM1.trans hM2), fun _ h => h, by simp, ?_⟩
 obtain ⟨ea, ec, rfl⟩ := hown.form
 refine jd_e rfl rfl (wBs rfl rfl rfl rfl rfl rfl rfl rfl) ?_; rintro _ _ _ ⟨rfl, rfl⟩
 refine ⟨hM1.trans hM2, by simp, ?_⟩
 refine je_q rfl rfl rfl (wBk rfl rfl rfl rfl rfl) ?_
 refine je_s rfl rfl (wBs rfl rfl rfl rfl rfl rfl rfl rfl) ?_; rintro _ _ _ ⟨rfl, rfl⟩
 refine ⟨hM1.trans hM2, by simp, ?_⟩
 refine wEv ?_
 refine jPn (jT (wAb (wAa (sLL rfl ?_))))
 refine sSt rfl ?_
 refine wAc (jT (wAe (wHg hown (by simp) ?_)))
 intro M4 a4 c4 hM4 e4 hc4 hs4; cases e4
 refine wCd (rs := [_]) ([]) (by exact List.nil_sublist _) rfl (.cons (.agg rfl rfl rfl) .nil) ?_
 have hMM := hM2.trans hM4
 exact ⟨⟨_, _, _, _, _, rfl, g1.mono hMM, g2.mono hMM, g3.mono hMM, g4.mono hMM, _, _, rfl, hc4, hs4⟩, rfl⟩
theorem wJy {p : Po} (h : askC p = 0) : PoOk p ∧ p.gen ≠ 4294967295 := by
 unfold askC at h
 split at h
 ·rename_i h1; exact absurd h h1
 ·rename_i h1
  split at h
  ·cases h
  ·rename_i h2; exact ⟨PoOk.of (Classical.not_not.1 h1), h2⟩
abbrev poZ : List Value := [.slice none 0 0, .slice none 0 0, .slice none 0 0, .slice none 0 0, .int .u32 0, .int .i64 0, .int .u32 0, .slice none 0 0]
def ComP (p : Po) (u : Value) (M' : Mem) : Prop := if askC p = 0 then ∃ v, u = .tuple #[v, .int .i64 0] ∧ PT M' v (cmt p) else u = .tuple #[.agg poZ.toArray, .int .i64 (askC p)]
def dskZ : Value := .agg #[.slice none 0 0, .slice none 0 0]
set_option maxHeartbeats 2000000 in
theorem commit_walk (p : Po) (pv pw pn pl : Value) (da : Option Addr) (dc : Nat) (M : Mem) (h1 : LS M pv p.st.blocks) (h2 : WS M pw p.st.waits) (h3 : BS M pn p.st.now) (h4 : BS M pl p.st.last) (hdc : p.dead.length ≤ dc) (hds : SM M da (wBj p.dead)) (hn : PoN p) :
  SpecL Tryz.prog 10 #[.agg (poc pv pw pn pl p.gen p.root p.next (.slice da p.dead.length dc)).toArray] M [] fun u M' L' => ComP p u M' ∧ L' = [] := by
 have hPT : PT M (.agg (poc pv pw pn pl p.gen p.root p.next (.slice da p.dead.length dc)).toArray) p := ⟨pv, pw, pn, pl, _, rfl, h1, h2, h3, h4, da, dc, rfl, hdc, hds⟩
 have hgg := hn.gen
 refine wAf (vs := [_]) 47 _ Tryz.func10 rfl Tryz.ntmps10 rfl rfl ?_; intro W
 refine wAb (wAa (wAw rfl rfl (wCb (cs := [_, _, _, _, _, _, _, _]) rfl rfl rfl rfl) ?_)); rintro _ _ _ ⟨b1, rfl, rfl, rfl⟩
 refine sAl rfl fun b2 => ?_
 refine jp rfl (wAc (jT (wAb (wAb (wAa (sLL rfl ?_))))))
 refine wAw rfl rfl (wAn rfl rfl rfl rfl rfl (by kernel_rfl) (casked_spec p _ M hPT hn)) ?_; rintro _ M0 _ ⟨hM0, _, rfl, ⟨rfl, rfl⟩⟩
 simp only [nA]
 refine jp rfl (wAc (jT (wAb (wAa (jp rfl (js rfl (fun h10 => ?_) (fun h10 => ?_)))))))
 ·refine wAc (jT (wAg rfl (wAb (wAa (wAi rfl rfl (wAq (cs := [_, _, _, _, _, _, _, _]) rfl rfl rfl (by rfl)) ?_)))))
  refine jp rfl (sSt rfl ?_)
  refine jp rfl (wAc (jT (wAe (jTr (wCd (rs := [_, _]) ([]) (by exact List.nil_sublist _) rfl (.cons (.agg rfl rfl rfl) (.cons (.tmp rfl) .nil)) ?_)))))
  exact ⟨by unfold ComP; rw [if_neg h10]; rfl, rfl⟩
 ·refine wAc (jT (wAj rfl (wAd (jT (wAb ?_)))))
  have hak : askC p = 0 := Classical.not_not.1 h10
  obtain ⟨hok, hg⟩ := wJy hak
  replace h1 := h1.mono hM0
  replace h2 := h2.mono hM0
  replace h3 := h3.mono hM0
  replace h4 := h4.mono hM0
  replace hds := hds.mono hM0
  refine wGk ([(b2, .cells poZ.toArray TPo (0, 0)), (b1, .cells (poc pv pw pn pl p.gen p.root p.next (.slice da p.dead.length dc)).toArray TPo (0, 0))]) (by kernel_rfl) (by simp) ?_
  refine wDu (i := 0) rfl (by kernel_rfl) (by kernel_rfl) rfl rfl (qLdL rfl rfl rfl rfl rfl) ?_
  refine wDu (i := 1) rfl (by kernel_rfl) (by kernel_rfl) rfl rfl (qLdL rfl rfl rfl rfl rfl) ?_
  refine wGn (α := Mem × Value × Value × Nat) (fun y => MLe M0 y.1 ∧ LS y.1 y.2.1 (dsk p 3).1 ∧ WS y.1 y.2.2.1 (dsk p 3).2) (fun y => [(1, .pointer (some ⟨b1, 0, none⟩)), (2, .pointer (some ⟨b2, 0, none⟩)), (5, .pointer (some ⟨y.2.2.2, 0, none⟩)), (18, .agg [y.2.1, y.2.2.1].toArray), (19, .int .i64 0)]) (fun y => y.1) (fun y => [(y.2.2.2, .cells [.slice none 0 0, .slice none 0 0].toArray TDk (0, 0)), (b2, .cells poZ.toArray TPo (0, 0)), (b1, .cells (poc pv pw pn pl p.gen p.root p.next (.slice da p.dead.length dc)).toArray TPo (0, 0))]) 2 #[true, true, true, true, true, true, true, true, false, false] ?_ (fun rest => ?_)
  ·rintro ⟨Mr, bvd, wvd, b5⟩ ⟨hMr, hBd, hWd⟩
   try dsimp only at hMr hBd hWd ⊢
   obtain ⟨xa, xc, xps, rfl, _⟩ := id hBd
   obtain ⟨ya, yc, yps, rfl, _⟩ := id hWd
   refine wGm (i := 8) (by kernel_rfl) ?_
   refine js_s rfl rfl (wBs rfl rfl rfl rfl rfl rfl rfl rfl) ?_; rintro _ _ _ ⟨rfl, rfl⟩
   refine wAo (hMr) (by simp) ?_
   refine wKf (i := 9) rfl (by kernel_rfl) (by kernel_rfl) rfl ?_
   refine ja_end (by kernel_rfl) ?_
   refine jPn (jT (wAb (wAb (wAa (jp rfl (jt rfl (decide_eq_true (by omega)) ?_))))))
   refine wAc (jT (wAg rfl (wAa (sLL rfl ?_))))
   refine wAw rfl rfl (wAn rfl rfl rfl rfl rfl (by kernel_rfl) (barrier_spec (dsk p 3).1 (dsk p 3).2 _ _ Mr hBd hWd (dsk_ok hok hn 3))) ?_; rintro _ Mb _ ⟨hMb, _, rfl, ⟨⟨d, rfl, bvb, wvb, rfl, hBb, hWb⟩, rfl⟩⟩
   simp only [nA]
   obtain ⟨za, zc, zps, rfl, _⟩ := id hBb
   obtain ⟨zwa, zwc, zwps, rfl, _⟩ := id hWb
   refine jp rfl (jp rfl (jp rfl (sSt rfl ?_)))
   refine jp rfl (wAc (jT (wAb (wAb (wAa (jp rfl (jf rfl (decide_eq_false (by omega)) ?_)))))))
   refine wAc (jT (wAj rfl (wAd (jT (wAb (wAa (sLL rfl ?_)))))))
   have hMM := hMr.trans hMb
   refine wAw rfl rfl (wAn rfl rfl rfl rfl rfl (by kernel_rfl) (ftwin_walk p pv pw pn pl da dc Mb (h1.mono hMM) (h2.mono hMM) (h3.mono hMM) (h4.mono hMM) hdc (hds.mono hMM) hok.st hn.dead)) ?_; rintro _ Mt _ ⟨hMt, _, rfl, ⟨hpt, rfl⟩⟩
   simp only [nA]
   obtain ⟨q1, q2, q3, q4, q5, rfl, g1, g2, g3, g4, ga, gc, rfl, hgc, hgs⟩ := hpt
   obtain ⟨ba, bc, bps, rfl, _⟩ := id g1
   obtain ⟨wa, wc, wps, rfl, _⟩ := id g2
   obtain ⟨na, nc, rfl, _⟩ := id g3
   obtain ⟨la, lc, rfl, _⟩ := id g4
   refine sSt rfl ?_
   refine wAc (jT (wAb (wCh (p := { A := fun i => !([7, 10].contains i), U := fun i => !([7, 8, 9, 10].contains i) }) [(0, true), (1, true), (2, true), (3, true), (5, true), (6, true), (4, false), (7, false), (8, true), (9, true), (10, false)] Mt ([(b5, .cells [.slice za (wFn (dsk p 3).1 (dsk p 3).2).length zc, .slice zwa ([] : List Wt).length zwc].toArray TDk (0, 0)), (b1, .cells (poc (.slice ba p.st.blocks.length bc) (.slice wa p.st.waits.length wc) (.slice na p.st.now.length nc) (.slice la p.st.last.length lc) p.gen p.root p.next (.slice ga p.dead.length gc)).toArray TPo (0, 0))]) ([]) (by kernel_rfl) (by kernel_rfl) (by kernel_rfl) (by kernel_rfl) rfl (by simp) (MLe.refl _) (by simp) ?_)))
   refine dLL rfl rfl ?_
   refine dFa rfl rfl ?_
   refine dFa rfl rfl ?_
   refine dLd rfl rfl ?_
   refine dFa rfl rfl ?_
   refine dFa rfl rfl ?_
   have hnl : p.st.now.length = 256 := hok.st.2.1.1
   refine wHh rfl rfl rfl (wAn rfl rfl rfl rfl rfl (by kernel_rfl) (wCt _ p.st.now Mt g3 (by omega))) ?_; rintro _ Mc _ ⟨hMc, Rc, rfl, hownc⟩
   refine ⟨_, _, MLe.refl _, hMc, fun _ h => h, by simp, ?_⟩
   obtain ⟨ca, cc, rfl⟩ := hownc.form
   refine jd_e rfl rfl (wBs rfl rfl rfl rfl rfl rfl rfl rfl) ?_; rintro _ _ _ ⟨rfl, rfl⟩
   refine ⟨hMc, by simp, ?_⟩
   refine je_q rfl rfl rfl (wBk rfl rfl rfl rfl rfl) ?_
   refine je_q rfl rfl rfl (wBk rfl rfl rfl rfl rfl) ?_
   refine je_s rfl rfl (wBs rfl rfl rfl rfl rfl rfl rfl rfl) ?_; rintro _ _ _ ⟨rfl, rfl⟩
   refine ⟨hMc, by simp, ?_⟩
   refine wEv ?_
   refine jPn (jT (wAb (wAa (sFL rfl rfl ?_))))
   refine wAi rfl rfl (qEq (qP rfl rfl) (v' := .int .u32 (p.gen + 1)) (by congr 1; rw [IntKind.wrap_u32]; omega)) ?_
   refine sFa rfl ?_
   refine sSt rfl ?_
   refine wAc (jT (wAb (wAa (sLL rfl ?_))))
   refine sSt rfl ?_
   refine jp rfl (wAc (jT (wAe (wHg hownc (by simp) ?_))))
   intro M4 a4 c4 hM4 e4 hc4 hs4; cases e4
   refine wCd (rs := [_, _]) ([]) (by exact List.nil_sublist _) rfl (.cons (.agg rfl rfl rfl) (.cons (.tmp rfl) .nil)) ?_
   have hm := hMc.trans hM4
   exact ⟨by unfold ComP; rw [if_pos hak]; exact ⟨_, rfl, _, _, _, _, _, rfl, hBb.mono (hMt.trans hm), hWb.mono (hMt.trans hm), g3.mono hm, ⟨_, _, rfl, hc4, hs4⟩, _, _, rfl, hgc, hgs.mono hm⟩, rfl⟩
  refine wBd [2, 7] (by kernel_rfl) rfl ⟨?_, ?_, trivial⟩
  ·refine wCk rfl rfl rfl (wAn rfl rfl rfl rfl rfl (by kernel_rfl) (steps_spec p pv pw pn pl da dc _)) ?_; rintro _ M2 _ ⟨hM2, R2, rfl, sb, sb1, rfl, esb, esb1, rfl⟩
   refine wAo (hM2) (by simp) ?_
   simp only [nA]
   refine wBd [3, 7] (by kernel_rfl) rfl ⟨?_, ?_, trivial⟩
   ·refine wCk rfl rfl rfl (wAn rfl rfl rfl rfl rfl (by kernel_rfl) (ahead_spec p hok hn hg pv pw pn pl da dc M2 (h3.mono hM2) hdc (hds.mono hM2) (h1.mono hM2) (h2.mono hM2) 3 (by decide) 3 sb sb1 esb esb1)) ?_; rintro _ M3 _ ⟨hM3, R3, rfl, ⟨d, rfl, bvd, wvd, rfl, hBd, hWd⟩, rfl⟩
    refine wAo ((hM2).trans hM3) (by simp) ?_
    simp only [nA]
    refine wKf (i := 4) rfl (by kernel_rfl) (by kernel_rfl) rfl ?_
    refine wKf (i := 5) rfl (by kernel_rfl) (by kernel_rfl) rfl ?_
    refine wKf (i := 6) rfl (by kernel_rfl) (by kernel_rfl) rfl ?_
    refine wBd [7] (by kernel_rfl) rfl ⟨?_, trivial⟩
    ·refine wCk rfl rfl rfl (wEx rfl rfl) ?_; rintro _ _ _ ⟨b5, rfl, rfl, rfl⟩
     refine wAo ((hM2.trans hM3)) (by simp) ?_
     refine wBx (listed' := #[true, true, true, true, true, true, true, true, false, false]) (by kernel_rfl) (wBw (.cons (t := 1) rfl (.cons (t := 2) rfl (.cons (t := 5) rfl (.cons (t := 18) rfl (.cons (t := 19) rfl .nil))))) ?_)
     exact rest (_, _, _, _) ⟨(hM2.trans hM3), hBd, hWd⟩
   ·refine wCk rfl rfl rfl (wEx rfl rfl) ?_; rintro _ _ _ ⟨b5, rfl, rfl, rfl⟩
    refine wAo (hM2) (by simp) ?_
    refine wBd [3] (by kernel_rfl) rfl ⟨?_, trivial⟩
    ·refine wCk rfl rfl rfl (wAn rfl rfl rfl rfl rfl (by kernel_rfl) (ahead_spec p hok hn hg pv pw pn pl da dc M2 (h3.mono hM2) hdc (hds.mono hM2) (h1.mono hM2) (h2.mono hM2) 3 (by decide) 3 sb sb1 esb esb1)) ?_; rintro _ M3 _ ⟨hM3, R3, rfl, ⟨d, rfl, bvd, wvd, rfl, hBd, hWd⟩, rfl⟩
     refine wAo ((hM2).trans hM3) (by simp) ?_
     simp only [nA]
     refine wKf (i := 4) rfl (by kernel_rfl) (by kernel_rfl) rfl ?_
     refine wKf (i := 5) rfl (by kernel_rfl) (by kernel_rfl) rfl ?_
     refine wKf (i := 6) rfl (by kernel_rfl) (by kernel_rfl) rfl ?_
     refine wBx (listed' := #[true, true, true, true, true, true, true, true, false, false]) (by kernel_rfl) (wBw (.cons (t := 1) rfl (.cons (t := 2) rfl (.cons (t := 5) rfl (.cons (t := 18) rfl (.cons (t := 19) rfl .nil))))) ?_)
     exact rest (_, _, _, _) ⟨(hM2.trans hM3), hBd, hWd⟩
  ·refine wCk rfl rfl rfl (wEx rfl rfl) ?_; rintro _ _ _ ⟨b5, rfl, rfl, rfl⟩
   refine wAo (MLe.refl _) (by simp) ?_
   refine wBd [2] (by kernel_rfl) rfl ⟨?_, trivial⟩
   ·refine wCk rfl rfl rfl (wAn rfl rfl rfl rfl rfl (by kernel_rfl) (steps_spec p pv pw pn pl da dc _)) ?_; rintro _ M2 _ ⟨hM2, R2, rfl, sb, sb1, rfl, esb, esb1, rfl⟩
    refine wAo (hM2) (by simp) ?_
    simp only [nA]
    refine wBd [3] (by kernel_rfl) rfl ⟨?_, trivial⟩
    ·refine wCk rfl rfl rfl (wAn rfl rfl rfl rfl rfl (by kernel_rfl) (ahead_spec p hok hn hg pv pw pn pl da dc M2 (h3.mono hM2) hdc (hds.mono hM2) (h1.mono hM2) (h2.mono hM2) 3 (by decide) 3 sb sb1 esb esb1)) ?_; rintro _ M3 _ ⟨hM3, R3, rfl, ⟨d, rfl, bvd, wvd, rfl, hBd, hWd⟩, rfl⟩
     refine wAo ((hM2).trans hM3) (by simp) ?_
     simp only [nA]
     refine wKf (i := 4) rfl (by kernel_rfl) (by kernel_rfl) rfl ?_
     refine wKf (i := 5) rfl (by kernel_rfl) (by kernel_rfl) rfl ?_
     refine wKf (i := 6) rfl (by kernel_rfl) (by kernel_rfl) rfl ?_
     refine wBx (listed' := #[true, true, true, true, true, true, true, true, false, false]) (by kernel_rfl) (wBw (.cons (t := 1) rfl (.cons (t := 2) rfl (.cons (t := 5) rfl (.cons (t := 18) rfl (.cons (t := 19) rfl .nil))))) ?_)
     exact rest (_, _, _, _) ⟨(hM2.trans hM3), hBd, hWd⟩
theorem CrP.form {bs : List (List By)} {ws : List Wt} {keep : List Bool} {u : Value} {M' : Mem} (h : if keep.length = ws.length then ∃ d, u = .tuple #[d, .int .i64 0] ∧ DK M' d (wFn bs (wLc keep ws)) [] else u = .tuple #[.agg #[.slice none 0 0, .slice none 0 0], .int .i64 2]) :
  ∃ va vn vc wa wn wc e, u = .tuple #[.agg #[.slice va vn vc, .slice wa wn wc], .int .i64 e] ∧ (if keep.length = ws.length then e = 0 ∧ DK M' (.agg #[.slice va vn vc, .slice wa wn wc]) (wFn bs (wLc keep ws)) [] else e = 2 ∧ (.agg #[.slice va vn vc, .slice wa wn wc] : Value) = dskZ) := by
 by_cases hl : keep.length = ws.length
 ·rw [if_pos hl] at h
  obtain ⟨d, rfl, bv, wv, rfl, h1, h2⟩ := h
  obtain ⟨a, c, _, rfl, _⟩ := id h1
  obtain ⟨b, e, _, rfl, _⟩ := id h2
  exact ⟨a, _, c, b, _, e, 0, rfl, by rw [if_pos hl]; exact ⟨rfl, _, _, rfl, h1, h2⟩⟩
 ·rw [if_neg hl] at h
  exact ⟨none, 0, 0, none, 0, 0, 2, h, by rw [if_neg hl]; exact ⟨rfl, rfl⟩⟩
theorem commit_spec (p : Po) (v : Value) (M : Mem) (h : PT M v p) (hn : PoN p) : SpecL Tryz.prog 10 #[v] M [] fun u M' L' => ComP p u M' ∧ L' = [] := by
 obtain ⟨pv, pw, pn, pl, dv, rfl, h1, h2, h3, h4, da, dc, rfl, hdc, hds⟩ := h
 exact commit_walk p pv pw pn pl da dc M h1 h2 h3 h4 hdc hds hn
end Go.Proofs.YtoincdcejjdgkaaGreat
