/- Walks: commits. -/
import Derived.Test.YtbhkdjheooknfaaGreatZRing
namespace Go.Proofs.YtbhkdjheooknfaaGreat
set_option linter.unusedVariables false
set_option linter.unusedSectionVars false
set_option linter.unusedSimpArgs false
open Go.RowKit
structure PoN (p : Po) : Prop where
 gen : 0 ≤ p.gen ∧ p.gen < 4294967296
 next : 0 ≤ p.next ∧ p.next < 4294967296
 dead : p.dead.length ≤ 1000000
def wHm (p : Po) : Int := if wFc p ≠ 0 then wFc p else if p.gen = 4294967295 then 9 else 0
theorem wJg (p : Po) : wFc p = 0 ∨ wFc p = 8 := by unfold wFc; split <;> simp
theorem poChk_is {p : Po} : wFc p = 0 ↔ ∃ x, cens p.st p.root p.next p.dead = some x := by
 unfold wFc
 split
 ·rename_i h; simp [h]
 rename_i h; simp [h]
theorem treesF_all {s : Sto} : ∀ {rs refs nodes : List Int} {x : List Int × List Int}, wDc s rs refs nodes = some x → ∀ r ∈ rs, wGx s r = true
 | [], _, _, _, _, r, hr => by cases hr
 | y :: rs, refs, nodes, x, h, r, hr => by
  rw [wDc] at h
  split at h
  ·rename_i hy
   rcases List.mem_cons.1 hr with rfl | hr
   ·exact hy
   exact treesF_all h r hr
  cases h
structure PoOk (p : Po) : Prop where
 st : wDr p.st
 len : p.dead.length ≤ 40
 dead : ∀ d ∈ p.dead, tk d
 root : tk p.root
theorem PoOk.of {p : Po} (h : wFc p = 0) : PoOk p := by
 obtain ⟨x, hx⟩ := poChk_is.1 h
 unfold cens at hx
 split at hx
 ·rename_i hc
  refine ⟨hc.1, hc.2.1, ?_, by have := rtOk_in hc.2.2; exact ⟨this.1, this.2.1⟩⟩
  split at hx
  ·cases hx
  split at hx
  ·cases hx
  split at hx
  ·cases hx
  rename_i ht
  intro d hd
  have := rtOk_in (treesF_all ht d (by unfold wEk; simp [hd]))
  exact ⟨this.1, this.2.1⟩
 cases hx
def sup (p : Po) : Su := ⟨p.gen + 1, p.root, p.next, wJe p.st.now, p.dead⟩
theorem sup_ok {p : Po} (h : PoOk p) : suOk (sup p) := ⟨h.dead, h.root, h.len⟩
def wHk (p : Po) : Nat → List Wt
 | 0 => []
 | 1 => wts (4 + 2 * ((p.gen + 1) % 2)) p.st.now
 | _ => [((p.gen + 1) % 4, suB (sup p))]
def dsk (p : Po) : Nat → List (List By) × List Wt
 | 0 => (p.st.blocks, p.st.waits)
 | 1 => (p.st.blocks, p.st.waits)
 | k + 2 => (wFs (dsk p (k + 1)).1 (dsk p (k + 1)).2, wHk p (k + 1))
theorem wCb {t : List By} (h : t.length = 256) {i : Nat} (hi : i < 2) : (wGj t i).length = 128 := by unfold wGj; rw [List.length_take, List.length_drop]; omega
theorem cmAdd_ok {p : Po} (h : PoOk p) (hn : PoN p) (k : Nat) : (wHk p k).length ≤ 2 ∧ ∀ w ∈ wHk p k, 0 ≤ w.1 ∧ w.1 < 8 ∧ w.2.length = 128 := by
 have hl : p.st.now.length = 256 := h.st.2.1.1
 have hg := hn.gen
 match k with
 | 0 => exact ⟨by simp [wHk], fun w hw => by simp [wHk] at hw⟩
 | 1 =>
  refine ⟨by simp [wHk, wts], fun w hw => ?_⟩
  simp only [wHk, wts, List.mem_cons, List.not_mem_nil, or_false] at hw
  rcases hw with rfl | rfl
  ·exact ⟨by show 0 ≤ 4 + 2 * ((p.gen + 1) % 2); omega, by show 4 + 2 * ((p.gen + 1) % 2) < 8; omega, wCb hl (by decide)⟩
  exact ⟨by show 0 ≤ 4 + 2 * ((p.gen + 1) % 2) + 1; omega, by show 4 + 2 * ((p.gen + 1) % 2) + 1 < 8; omega, wCb hl (by decide)⟩
 | k + 2 =>
  refine ⟨by simp [wHk], fun w hw => ?_⟩
  simp only [wHk, List.mem_cons, List.not_mem_nil, or_false] at hw
  subst hw
  exact ⟨by show 0 ≤ (p.gen + 1) % 4; omega, by show (p.gen + 1) % 4 < 8; omega, suB_len (sup_ok h)⟩
theorem cmAdd_dk {p : Po} (h : PoOk p) (hn : PoN p) {k : Nat} {bs : List (List By)} {ws : List Wt} (hd : dkOk bs ws) (hw : ws = []) : dkOk bs (ws ++ wHk p k) := by
 obtain ⟨h1, h2⟩ := cmAdd_ok h hn k
 subst hw
 exact ⟨hd.1, by rw [List.nil_append]; omega, hd.2.2.1, fun w hw => by have := h2 w (by simpa using hw); exact ⟨this.1, by omega, this.2.2⟩⟩
theorem wFw {p : Po} (h : PoOk p) (hn : PoN p) : ∀ k, dkOk (dsk p k).1 (dsk p k).2
 | 0 => h.st.1
 | 1 => h.st.1
 | k + 2 => by
  have h1 := wFw h hn (k + 1)
  have := cmAdd_dk h hn (k := k + 1) (wGo h1 fun w hw => (h1.w w hw).2.2) rfl
  rw [List.nil_append] at this; exact this
theorem bAnd_1 {n : Int} (h : 0 ≤ n ∧ n < 4294967296) : bAnd .i64 n 1 = n % 2 := by
 unfold bAnd
 have h1 : (BitVec.ofInt IntKind.i64.bits n &&& BitVec.ofInt IntKind.i64.bits 1).toNat = n.toNat % 2 := by
  rw [BitVec.toNat_and, BitVec.toNat_ofInt, BitVec.toNat_ofInt, show ((1 : Int) % ((2 ^ IntKind.i64.bits : Nat) : Int)).toNat = 2 ^ 1 - 1 by decide, Nat.and_two_pow_sub_one_eq_mod]
  show (n % 18446744073709551616).toNat % 2 = n.toNat % 2
  rw [Int.emod_eq_of_lt (by omega) (by omega)]
 rw [h1, IntWalk.i64_in _ (by omega)]; omega
def cmt (p : Po) : Po := { p with st := ⟨wFs (dsk p 3).1 (dsk p 3).2, [], p.st.now, p.st.now⟩, gen := p.gen + 1 }
abbrev ffs : Nat → FuncId
 | 0 => 30
 | 1 => 31
 | _ => 33
abbrev cps (b1 : Nat) : Nat → List Value
 | 0 => []
 | _ => [.pointer (some ⟨b1, 0, none⟩)]
abbrev stepV (b1 i : Nat) : Value := .func (.func (ffs i)) #[] (cps b1 i).toArray
theorem ffs_go (i : Nat) : isGo Tryz.prog (ffs i) = true := by
 match i with
 | 0 => show isGo Tryz.prog 30 = true; kernel_rfl
 | 1 => show isGo Tryz.prog 31 = true; kernel_rfl
 | i + 2 => show isGo Tryz.prog 33 = true; kernel_rfl
theorem step1_spec (p : Po) (M : Mem) (bs : List (List By)) (ws : List Wt) (bv wv : Value) (h1 : LS M bv bs) (h2 : WS M wv ws) (hdk : dkOk bs ws) :
  SpecL Tryz.prog 30 #[.agg #[bv, wv]] M [] fun u M' L' => (∃ d, u = .tuple #[d, .int .i64 0] ∧ DK M' d bs (ws ++ wHk p 0)) ∧ L' = [] := by
 obtain ⟨ba, bc, bps, rfl, _⟩ := id h1
 obtain ⟨wa, wc, wps, rfl, _⟩ := id h2
 refine wAe (vs := [_]) 5 _ Tryz.func30 rfl Tryz.ntmps30 rfl rfl ?_; intro W
 refine wAb (wAa (wAv rfl rfl (wBw (cs := [_, _]) rfl rfl rfl rfl) ?_)); rintro _ _ _ ⟨b1, rfl, rfl, rfl⟩
 refine sAl rfl fun b2 => ?_
 refine jp rfl (wAc (jT (wAb (wAa (sLL rfl ?_)))))
 refine sSt rfl ?_
 refine jp rfl (wAc (jT (wAf (wBr (rs := [_, _]) ([]) (by exact List.nil_sublist _) rfl (.cons (.agg rfl rfl rfl) (.cons (.tmp rfl) .nil)) ?_))))
 exact ⟨⟨_, rfl, _, _, rfl, h1, by rw [show ws ++ wHk p 0 = ws from List.append_nil _]; exact h2⟩, rfl⟩
theorem step2_spec (p : Po) (hok : PoOk p) (hn : PoN p) (hg : p.gen ≠ 4294967295) (pv pw pn pl : Value) (da : Option Addr) (dc : Nat) (M : Mem) (h3 : BS M pn p.st.now) (hdc : p.dead.length ≤ dc) (hds : SM M da (wAw p.dead)) (b1 : Nat) (hb1 : M b1 = some (.cells (poc pv pw pn pl p.gen p.root p.next (.slice da p.dead.length dc)).toArray TPo (0, 0))) (bs : List (List By)) (ws : List Wt) (bv wv : Value) (h1 : LS M bv bs) (h2 : WS M wv ws) (hdk : dkOk bs ws) (hwl : ws.length ≤ 4000) :
  SpecL Tryz.prog 31 #[.agg #[bv, wv], .pointer (some ⟨b1, 0, none⟩)] M [] fun u M' L' => (∃ d, u = .tuple #[d, .int .i64 0] ∧ DK M' d bs (ws ++ wHk p 1)) ∧ L' = [] := by
 have hgg := hn.gen
 refine wAe (vs := [_, _]) 17 _ Tryz.func31 rfl Tryz.ntmps31 rfl rfl ?_; intro W
 refine wAb (wAa (wAv rfl rfl (wBw (cs := [_, _]) rfl rfl rfl rfl) ?_)); rintro _ _ _ ⟨b2, rfl, rfl, rfl⟩
 refine sAl rfl fun b3 => ?_
 refine jp rfl (wAc (jT (wAb (wAa (sLL rfl ?_)))))
 refine sFa rfl ?_
 refine wAi rfl rfl (qLd rfl rfl rfl rfl (CM.cj ⟨_, _, _, hb1, rfl⟩ _)) ?_
 refine wAi rfl rfl (qEq (qP rfl rfl) (v' := .int .u32 (p.gen + 1)) (by congr 1; rw [IntKind.wrap_u32]; omega)) ?_
 refine wAi rfl rfl (wCg rfl rfl rfl (by omega)) ?_
 refine wAi rfl rfl (qEq (wJx rfl rfl rfl rfl rfl) (v' := .int .i64 ((p.gen + 1) % 2)) (by rw [bAnd_1 (by omega)])) ?_
 refine sFF rfl rfl ?_
 refine wAi rfl rfl (qLd rfl rfl rfl rfl (CM.cj ⟨_, _, _, hb1, rfl⟩ _)) ?_
 refine wAv rfl rfl (wAt rfl rfl rfl rfl rfl (by kernel_rfl) (cwrite_spec bs ws bv wv M h1 h2 hdk ((p.gen + 1) % 2) (by omega) p.st.now pn h3 hok.st.2.1 hwl)) ?_; rintro _ M1 _ ⟨hM1, _, rfl, ⟨⟨d, rfl, bv2, wv2, rfl, hB, hW⟩, rfl⟩⟩
 obtain ⟨ba, bc, bps, rfl, _⟩ := id hB
 obtain ⟨wa, wc, wps, rfl, _⟩ := id hW
 refine jp rfl (jp rfl (sSt rfl ?_))
 refine jp rfl (wAc (jT (wAf (wBr (rs := [_, _]) ([]) (by exact List.nil_sublist _) rfl (.cons (.agg rfl rfl rfl) (.cons (.tmp rfl) .nil)) ?_))))
 exact ⟨⟨_, rfl, _, _, rfl, hB, hW⟩, rfl⟩
set_option maxHeartbeats 1000000 in
theorem step3_spec (p : Po) (hok : PoOk p) (hn : PoN p) (hg : p.gen ≠ 4294967295) (pv pw pn pl : Value) (da : Option Addr) (dc : Nat) (M : Mem) (h3 : BS M pn p.st.now) (hdc : p.dead.length ≤ dc) (hds : SM M da (wAw p.dead)) (b1 : Nat) (hb1 : M b1 = some (.cells (poc pv pw pn pl p.gen p.root p.next (.slice da p.dead.length dc)).toArray TPo (0, 0))) (bs : List (List By)) (ws : List Wt) (bv wv : Value) (h1 : LS M bv bs) (h2 : WS M wv ws) (hdk : dkOk bs ws) (hwl : ws.length ≤ 4000) :
  SpecL Tryz.prog 33 #[.agg #[bv, wv], .pointer (some ⟨b1, 0, none⟩)] M [] fun u M' L' => (∃ d, u = .tuple #[d, .int .i64 0] ∧ DK M' d bs (ws ++ wHk p 2)) ∧ L' = [] := by
 have hgg := hn.gen
 have hdl := hn.dead
 refine wAe (vs := [_, _]) 33 _ Tryz.func33 rfl Tryz.ntmps33 rfl rfl ?_; intro W
 refine wAb (wAa (wAv rfl rfl (wBw (cs := [_, _]) rfl rfl rfl rfl) ?_)); rintro _ _ _ ⟨b2, rfl, rfl, rfl⟩
 refine sAl rfl fun b3 => ?_
 refine jp rfl (wAc (jT (wAb (wAa (sFF rfl rfl ?_)))))
 refine wAi rfl rfl (qLd rfl rfl rfl rfl (CM.cj ⟨_, _, _, hb1, rfl⟩ _)) ?_
 refine wAi rfl rfl (wAy rfl rfl rfl rfl rfl (by kernel_rfl) (csum_spec p.st.now pn M h3 hok.st.2.1)) ?_
 refine jp rfl (jp rfl (jp rfl (jp rfl (jp rfl (wAc (jT (wAb (wAb (wAa (jp rfl (jf rfl (decide_eq_false (by omega)) ?_)))))))))))
 refine wAc (jT (wAk rfl (wAd (jT (wAb (wAa (sLL rfl ?_)))))))
 refine sFa rfl ?_
 refine wAi rfl rfl (qLd rfl rfl rfl rfl (CM.cj ⟨_, _, _, hb1, rfl⟩ _)) ?_
 refine wAi rfl rfl (qEq (qP rfl rfl) (v' := .int .u32 (p.gen + 1)) (by congr 1; rw [IntKind.wrap_u32]; omega)) ?_
 refine sFa rfl ?_
 refine wAi rfl rfl (qLd rfl rfl rfl rfl (CM.cj ⟨_, _, _, hb1, rfl⟩ _)) ?_
 refine sFa rfl ?_
 refine wAi rfl rfl (qLd rfl rfl rfl rfl (CM.cj ⟨_, _, _, hb1, rfl⟩ _)) ?_
 refine jp rfl (sFa rfl ?_)
 refine wAi rfl rfl (qLd rfl rfl rfl rfl (CM.cj ⟨_, _, _, hb1, rfl⟩ _)) ?_
 refine wAi rfl rfl (wAq (cs := [_, _, _, _, _]) rfl rfl rfl (by rfl)) ?_
 refine wAv rfl rfl (wAt rfl rfl rfl rfl rfl (by kernel_rfl) (rput_spec bs ws bv wv M h1 h2 hdk (sup p) da dc hdc hds hdl (sup_ok hok) (by show 0 ≤ p.gen + 1 ∧ p.gen + 1 < 4294967296; omega) (by omega))) ?_; rintro _ M1 _ ⟨hM1, _, rfl, ⟨⟨d, rfl, bv2, wv2, rfl, hB, hW⟩, rfl⟩⟩
 obtain ⟨ba, bc, bps, rfl, _⟩ := id hB
 obtain ⟨wa, wc, wps, rfl, _⟩ := id hW
 refine jp rfl (jp rfl (sSt rfl ?_))
 refine jp rfl (wAc (jT (wAf (wBr (rs := [_, _]) ([]) (by exact List.nil_sublist _) rfl (.cons (.agg rfl rfl rfl) (.cons (.tmp rfl) .nil)) ?_))))
 exact ⟨⟨_, rfl, _, _, rfl, hB, hW⟩, rfl⟩
theorem stepk_spec (p : Po) (hok : PoOk p) (hn : PoN p) (hg : p.gen ≠ 4294967295) (pv pw pn pl : Value) (da : Option Addr) (dc : Nat) (k : Nat) (hk : k < 3) (M : Mem) (h3 : BS M pn p.st.now) (hdc : p.dead.length ≤ dc) (hds : SM M da (wAw p.dead)) (b1 : Nat) (hb1 : M b1 = some (.cells (poc pv pw pn pl p.gen p.root p.next (.slice da p.dead.length dc)).toArray TPo (0, 0))) (bs : List (List By)) (ws : List Wt) (bv wv : Value) (h1 : LS M bv bs) (h2 : WS M wv ws) (hdk : dkOk bs ws) (hwl : 0 < k → ws.length ≤ 4000) : SpecL Tryz.prog (ffs k) (.agg #[bv, wv] :: cps b1 k).toArray M [] fun u M' L' => (∃ d, u = .tuple #[d, .int .i64 0] ∧ DK M' d bs (ws ++ wHk p k)) ∧ L' = [] := by
 match k, hk with
 | 0, _ => exact step1_spec p M bs ws bv wv h1 h2 hdk
 | 1, _ => exact step2_spec p hok hn hg pv pw pn pl da dc M h3 hdc hds b1 hb1 bs ws bv wv h1 h2 hdk (hwl (by decide))
 | 2, _ => exact step3_spec p hok hn hg pv pw pn pl da dc M h3 hdc hds b1 hb1 bs ws bv wv h1 h2 hdk (hwl (by decide))
theorem steps_spec (p : Po) (pv pw pn pl : Value) (da : Option Addr) (dc : Nat) (M : Mem) :
  SpecL Tryz.prog 16 #[.agg (poc pv pw pn pl p.gen p.root p.next (.slice da p.dead.length dc)).toArray] M [] fun u M' L' => ∃ b b1, u = .slice (some ⟨b, 0, none⟩) 3 3 ∧ M' b = some (.cells [stepV b1 0, stepV b1 1, stepV b1 2].toArray 66 (0, 0)) ∧ M' b1 = some (.cells (poc pv pw pn pl p.gen p.root p.next (.slice da p.dead.length dc)).toArray TPo (0, 0)) ∧ L' = [] := by
 refine wAe (vs := [_]) 6 _ Tryz.func16 rfl Tryz.ntmps16 rfl rfl ?_; intro W
 refine wAb (wAa (wAv rfl rfl (wBw (cs := [_, _, _, _, _, _, _, _]) rfl rfl rfl rfl) ?_)); rintro _ _ _ ⟨b1, rfl, rfl, rfl⟩
 refine jp rfl (wAc (jT (wAb (wAa (jp rfl (jp rfl (wAv rfl rfl (wAr (cs := [_, _, _]) rfl rfl rfl (by rfl) (by rfl) (by rfl)) ?_))))))); rintro _ _ _ ⟨b5, rfl, rfl, rfl⟩
 refine jp rfl (wAc (jT (wAf (wCa b1 (by simp) ?_))))
 intro M1 hM1 e1
 refine wCa b5 (by simp) ?_
 intro M2 hM2 e5
 refine jr1 rfl rfl ?_
 exact ⟨b5, b1, rfl, e5, hM2 _ _ e1, rfl⟩
set_option maxHeartbeats 2000000 in
theorem wGk (p : Po) (hok : PoOk p) (hn : PoN p) (hg : p.gen ≠ 4294967295) (pv pw pn pl : Value) (da : Option Addr) (dc : Nat) (M : Mem) (h3 : BS M pn p.st.now) (hdc : p.dead.length ≤ dc) (hds : SM M da (wAw p.dead)) (h1 : LS M pv p.st.blocks) (h2 : WS M pw p.st.waits) (n : Nat) (hn3 : n ≤ 3) (c b b1 : Nat) (hb : M b = some (.cells [stepV b1 0, stepV b1 1, stepV b1 2].toArray 66 (0, 0))) (hb1 : M b1 = some (.cells (poc pv pw pn pl p.gen p.root p.next (.slice da p.dead.length dc)).toArray TPo (0, 0))) :
  SpecL Tryz.prog 15 #[.agg (poc pv pw pn pl p.gen p.root p.next (.slice da p.dead.length dc)).toArray, .slice (some ⟨b, 0, none⟩) n c] M [] fun u M' L' => (∃ d, u = .tuple #[d, .int .i64 0] ∧ DK M' d (dsk p n).1 (dsk p n).2) ∧ L' = [] := by
 obtain ⟨ba0, bc0, bps0, rfl, _⟩ := id h1
 obtain ⟨wa0, wc0, wps0, rfl, _⟩ := id h2
 refine wAe (vs := [_, _]) 41 _ Tryz.func15 rfl Tryz.ntmps15 rfl rfl ?_; intro W
 refine wAb (wAa (wAv rfl rfl (wBw (cs := [_, _, _, _, _, _, _, _]) rfl rfl rfl rfl) ?_)); rintro _ _ _ ⟨b2, rfl, rfl, rfl⟩
 refine sAl rfl fun b4 => ?_
 refine jp rfl (wAc (jT (wAb (wAa (sFF rfl rfl ?_)))))
 refine sLL rfl ?_
 refine sSt rfl ?_
 refine wAc (jT (wAb (wAb (wAa (jp rfl (wAi rfl rfl (wBe rfl rfl rfl) ?_))))))
 refine jp rfl (wAc (jT (wAh ?_)))
 refine wAo (α := Nat × Mem × Value × Value) (fun x => [(2, .pointer (some ⟨b2, 0, none⟩)), (4, .pointer (some ⟨b4, 0, none⟩)), (11, .slice (some ⟨b, 0, none⟩) n c), (12, .int .i64 n), (13, .int .i64 x.1)]) (fun x => x.2.1) (fun x => [(b4, .cells [x.2.2.1, x.2.2.2].toArray TDk (0, 0)), (b2, .cells (poc (.slice ba0 p.st.blocks.length bc0) (.slice wa0 p.st.waits.length wc0) pn pl p.gen p.root p.next (.slice da p.dead.length dc)).toArray TPo (0, 0))]) (fun x => x.1 ≤ n ∧ MLe M x.2.1 ∧ LS x.2.1 x.2.2.1 (dsk p x.1).1 ∧ WS x.2.1 x.2.2.2 (dsk p x.1).2) (fun x => n - x.1)
  (0, M, _, _) (.cons (t := 2) rfl (.cons (t := 4) rfl (.cons (t := 11) rfl (.cons (t := 12) rfl (.cons (t := 13) rfl .nil))))) ⟨Nat.zero_le _, MLe.refl _, h1, h2⟩ (fun _ h => h) ?_
 rintro ⟨k, Mk, bvk, wvk⟩ ⟨hk, hMk, hB, hW⟩
 try dsimp only at hk hMk hB hW ⊢
 obtain ⟨ka, kc, kps, rfl, _⟩ := id hB
 obtain ⟨kwa, kwc, kwps, rfl, _⟩ := id hW
 refine wAb (wAa (js rfl (fun h14 => ?_) (fun h14 => ?_)))
 ·refine wAc (jT (wAb (wAg rfl (wAd (jT (wAb (wAh (wAb (wAa (jp rfl ?_))))))))))
  have hk3 : k < 3 := by omega
  refine wAi rfl rfl (wBb rfl rfl rfl rfl (by omega)) ?_
  refine wAi rfl rfl (qLd (v := stepV b1 k) rfl rfl rfl rfl (CM.cj ⟨_, _, _, hMk _ _ hb, by rw [Nat.zero_add, Nat.mul_one]; match k, hk3 with | 0, _ => rfl | 1, _ => rfl | 2, _ => rfl⟩ _)) ?_
  refine jp rfl (jp rfl (wAc (jT (wAb (wAb (wAa (jp rfl (js rfl (fun h19 => ?_) (fun h19 => ?_)))))))))
  ·refine wAc (jT (wAg rfl (wAb (wAa (sLL rfl ?_)))))
   have hdkk := wFw hok hn k
   refine wAv rfl rfl (wAt rfl rfl rfl rfl rfl (by kernel_rfl) (barrier_spec (dsk p k).1 (dsk p k).2 _ _ Mk hB hW hdkk)) ?_; rintro _ Mb _ ⟨hMb, _, rfl, ⟨⟨d, rfl, bv2, wv2, rfl, hB2, hW2⟩, rfl⟩⟩
   simp only [nA]
   obtain ⟨ba, bc, bps, rfl, _⟩ := id hB2
   obtain ⟨wa, wc, wps, rfl, _⟩ := id hW2
   refine jp rfl (jp rfl (jp rfl (sSt rfl ?_)))
   refine jp rfl (wAc (jT (wAb (wAa (jp rfl (jf rfl (decide_eq_false (by omega)) ?_))))))
   refine wAc (jT (wAk rfl (wAd (jT (wAb (wAa (jp rfl (sLL rfl ?_))))))))
   refine wAv rfl rfl (wAt rfl rfl rfl rfl rfl (ffs_go k) (stepk_spec p hok hn hg _ _ pn pl da dc k hk3 Mb ((h3.mono (hMk.trans hMb))) hdc (hds.mono (hMk.trans hMb)) b1 ((hMk.trans hMb) _ _ hb1) (wFs (dsk p k).1 (dsk p k).2) [] _ _ hB2 hW2 (wGo hdkk fun w hw => (hdkk.w w hw).2.2) (fun _ => by simp))) ?_; rintro _ Mc _ ⟨hMc, _, rfl, ⟨⟨d3, rfl, bv3, wv3, rfl, hB3, hW3⟩, rfl⟩⟩
   simp only [nA]
   obtain ⟨ca, cc, cps_, rfl, _⟩ := id hB3
   obtain ⟨va, vc, vps, rfl, _⟩ := id hW3
   refine jp rfl (jp rfl (jp rfl (sSt rfl ?_)))
   refine jp rfl (wAc (jT (wAb (wAa (jp rfl (jf rfl (decide_eq_false (by omega)) ?_))))))
   refine wAc (jT (wAk rfl (wAd (jB (jT (wAa (ja rfl (by omega) ?_)))))))
   refine jp rfl (wAc ?_)
   obtain ⟨j, rfl⟩ : ∃ j, k = j + 1 := ⟨k - 1, by omega⟩
   refine wAn (j + 1 + 1, Mc, .slice ca _ cc, .slice va _ vc) (.cons (t := 2) rfl (.cons (t := 4) rfl (.cons (t := 11) rfl (.cons (t := 12) rfl (.cons (t := 13) rfl .nil))))) ⟨by show j + 1 + 1 ≤ n; omega, (hMk.trans hMb).trans hMc, hB3, hW3⟩ (by show n - (j + 1 + 1) < n - (j + 1); omega) (fun _ h => h)
  refine wAc (jT (wAk rfl (wAd (jT (wAb (wAa (jp rfl (sLL rfl ?_))))))))
  refine wAv rfl rfl (wAt rfl rfl rfl rfl rfl (ffs_go k) (stepk_spec p hok hn hg _ _ pn pl da dc k hk3 Mk (h3.mono hMk) hdc (hds.mono hMk) b1 (hMk _ _ hb1) (dsk p k).1 (dsk p k).2 _ _ hB hW (wFw hok hn k) (fun h => by omega))) ?_; rintro _ Mc _ ⟨hMc, _, rfl, ⟨⟨d3, rfl, bv3, wv3, rfl, hB3, hW3⟩, rfl⟩⟩
  simp only [nA]
  obtain ⟨ca, cc, cps_, rfl, _⟩ := id hB3
  obtain ⟨va, vc, vps, rfl, _⟩ := id hW3
  refine jp rfl (jp rfl (jp rfl (sSt rfl ?_)))
  refine jp rfl (wAc (jT (wAb (wAa (jp rfl (jf rfl (decide_eq_false (by omega)) ?_))))))
  refine wAc (jT (wAk rfl (wAd (jB (jT (wAa (ja rfl (by omega) ?_)))))))
  refine jp rfl (wAc ?_)
  obtain rfl : k = 0 := by omega
  refine wAn (1, Mc, .slice ca _ cc, .slice va _ vc) (.cons (t := 2) rfl (.cons (t := 4) rfl (.cons (t := 11) rfl (.cons (t := 12) rfl (.cons (t := 13) rfl .nil))))) ⟨by show 1 ≤ n; omega, hMk.trans hMc, hB3, by
   have hz : (dsk p 0).2 ++ wHk p 0 = (dsk p 1).2 := List.append_nil _
   have := hW3
   rw [hz] at this
   show WS Mc (.slice va ((dsk p 0).2 ++ wHk p 0).length vc) (dsk p 1).2
   rw [hz]; exact this⟩ (by show n - 1 < n - 0; omega) (fun _ h => h)
 refine wAc (jT (wAb (wAk rfl (wAs (jTx (jTx (jBx (jT (wAb (wAa (sLL rfl ?_)))))))))))
 refine sSt rfl ?_
 refine jp rfl (wAc (jT (wAf (wBr (rs := [_, _]) ([]) (by exact List.nil_sublist _) rfl (.cons (.agg rfl rfl rfl) (.cons (.tmp rfl) .nil)) ?_))))
 obtain rfl : k = n := by omega
 exact ⟨⟨_, rfl, _, _, rfl, hB, hW⟩, rfl⟩
theorem casked_spec (p : Po) (v : Value) (M : Mem) (h : PT M v p) (hn : PoN p) :
  SpecL Tryz.prog 14 #[v] M [] fun u M' L' => u = .int .i64 (wHm p) ∧ L' = [] := by
 have hpt := h
 obtain ⟨pv, pw, pn, pl, dv, rfl, h1, h2, h3, h4, da, dc, rfl, hdc, hds⟩ := h
 refine wAe (vs := [_]) 12 _ Tryz.func14 rfl Tryz.ntmps14 rfl rfl ?_; intro W
 refine wAb (wAa (wAv rfl rfl (wBw (cs := [_, _, _, _, _, _, _, _]) rfl rfl rfl rfl) ?_)); rintro _ _ _ ⟨b1, rfl, rfl, rfl⟩
 refine jp rfl (wAc (jT (wAb (wAb (wAa (sLL rfl ?_))))))
 refine wAv rfl rfl (wAt rfl rfl rfl rfl rfl (by kernel_rfl) (fochk_spec p _ M hpt hn.dead)) ?_; rintro _ M1 _ ⟨hM1, _, rfl, ⟨rfl, rfl⟩⟩
 simp only [nA]
 refine jp rfl (wAc (jT (wAb (wAa (jp rfl (js rfl (fun h7 => ?_) (fun h7 => ?_)))))))
 ·refine wAc (jT (wAg rfl (wAb (wAa (jp rfl (jp rfl (wAc (jT (wAf (jTr (wAu (L' := []) (List.nil_sublist _) ?_)))))))))))
  refine jr1 rfl rfl ?_
  exact ⟨by unfold wHm; rw [if_pos h7]; try rfl, rfl⟩
 refine wAc (jT (wAk rfl (wAd (jT (wAb (wAb (wAa (sFL rfl rfl ?_))))))))
 refine js rfl (fun h11 => ?_) (fun h11 => ?_)
 ·refine wAc (jT (wAg rfl (wAb (wAa (jp rfl (wAc (jT (wAf (jTr (wAu (L' := []) (List.nil_sublist _) ?_))))))))))
  refine jr1 rfl rfl ?_
  exact ⟨by unfold wHm; rw [if_neg h7, if_pos h11]; try rfl, rfl⟩
 refine wAc (jT (wAk rfl (wAd (jT (wAb (wAa (jp rfl (wAc (jT (wAf (wAu (L' := []) (List.nil_sublist _) ?_)))))))))))
 refine jr1 rfl rfl ?_
 exact ⟨by unfold wHm; rw [if_neg h7, if_neg h11]; try rfl, rfl⟩
theorem PT.none {M : Mem} {v : Value} {p : Po} (h : PT M v p) : True := trivial
theorem niclone_nil (c : Nat) (M : Mem) :
  SpecL Tryz.prog 39 #[.slice none 0 c] M [] fun v _ L' => Own v L' 3 1 0 [] := by
 refine wAe (vs := [_]) 8 _ Tryz.func39 rfl Tryz.ntmps39 rfl rfl ?_; intro W
 refine wAb (wAa (jp rfl (wAc (jT (wAb (wAb (wAa (jp rfl (wAi rfl rfl (qEq (qNil rfl rfl rfl rfl) (v' := .bool true) (by simp)) ?_)))))))))
 refine wAc (jT (wAg rfl (wAb (wAa (jp rfl (wAc (jT (wAf (jTr (jr1 rfl rfl ?_))))))))))
 exact Own.nil _ _
theorem niclone_some (b : Addr) (n c : Nat) (vals : List Value) (M : Mem) (hs : SM M (some b) vals) (hl : vals.length = n) (h1 : ∀ v ∈ vals, v.oneCell' = true) (hn : n ≤ 1000000) :
  SpecL Tryz.prog 39 #[.slice (some b) n c] M [] fun v _ L' => Own v L' 3 1 n vals := by
 refine wAe (vs := [_]) 8 _ Tryz.func39 rfl Tryz.ntmps39 rfl rfl ?_; intro W
 refine wAb (wAa (jp rfl (wAc (jT (wAb (wAb (wAa (jp rfl (wAi rfl rfl (qEq (qNil rfl rfl rfl rfl) (v' := .bool false) (by simp)) ?_)))))))))
 refine wAc (jT (wAk rfl (wAd (jT (wAb (wAa (wAv rfl rfl (wAr (z := [.int .i64 0]) (cs := []) rfl rfl rfl (by rfl) (by rfl) (by rfl)) ?_))))))); rintro _ _ _ ⟨b5, rfl, rfl, rfl⟩
 refine jp rfl (wAv rfl rfl (wBk (n := 0) (xs := []) (news := vals) rfl rfl rfl rfl (Own.empty b5 _ _) (by omega) hs rfl h1 (by omega) (by decide)) ?_); rintro v7 _ _ ⟨rfl, R7, rfl, hown⟩
 refine jp rfl (wAc (jT (wAf (jr1 rfl rfl ?_))))
 simpa using hown
theorem niclone_spec (a : Option Addr) (n c : Nat) (vals : List Value) (M : Mem) (hs : SM M a vals) (hl : vals.length = n) (h1 : ∀ v ∈ vals, v.oneCell' = true) (hn : n ≤ 1000000) : SpecL Tryz.prog 39 #[.slice a n c] M [] fun v _ L' => Own v L' 3 1 n vals := by
 cases a with
 | none =>
  have h0 : vals = [] := hs.elim id (fun ⟨_, _, h, _⟩ => by cases h)
  subst h0
  have : n = 0 := by simpa using hl.symm
  subst this
  exact niclone_nil c M
 | some b => exact niclone_some b n c vals M hs hl h1 hn
theorem askC_ok {p : Po} (h : wHm p = 0) : PoOk p ∧ p.gen ≠ 4294967295 := by
 unfold wHm at h
 split at h
 ·rename_i h1; exact absurd h h1
 rename_i h1
 split at h
 ·cases h
 rename_i h2; exact ⟨PoOk.of (Classical.not_not.1 h1), h2⟩
abbrev poZ : List Value := [.slice none 0 0, .slice none 0 0, .slice none 0 0, .slice none 0 0, .int .u32 0, .int .i64 0, .int .u32 0, .slice none 0 0]
def dskZ : Value := .agg #[.slice none 0 0, .slice none 0 0]
def CutP (p : Po) (phase : Int) (keep : List Bool) (u : Value) (M' : Mem) : Prop :=
 if wHm p = 0 then if phase < 1 ∨ 3 < phase then u = .tuple #[dskZ, .int .i64 2]
  else if keep.length = (dsk p phase.toNat).2.length then ∃ d, u = .tuple #[d, .int .i64 0] ∧ DK M' d (wFs (dsk p phase.toNat).1 (wGc keep (dsk p phase.toNat).2)) [] else u = .tuple #[dskZ, .int .i64 2]
 else u = .tuple #[dskZ, .int .i64 (wHm p)]
theorem CrP.form {bs : List (List By)} {ws : List Wt} {keep : List Bool} {u : Value} {M' : Mem} (h : if keep.length = ws.length then ∃ d, u = .tuple #[d, .int .i64 0] ∧ DK M' d (wFs bs (wGc keep ws)) [] else u = .tuple #[.agg #[.slice none 0 0, .slice none 0 0], .int .i64 2]) :
  ∃ va vn vc wa wn wc e, u = .tuple #[.agg #[.slice va vn vc, .slice wa wn wc], .int .i64 e] ∧ (if keep.length = ws.length then e = 0 ∧ DK M' (.agg #[.slice va vn vc, .slice wa wn wc]) (wFs bs (wGc keep ws)) [] else e = 2 ∧ (.agg #[.slice va vn vc, .slice wa wn wc] : Value) = dskZ) := by
 by_cases hl : keep.length = ws.length
 ·rw [if_pos hl] at h
  obtain ⟨d, rfl, bv, wv, rfl, h1, h2⟩ := h
  obtain ⟨a, c, _, rfl, _⟩ := id h1
  obtain ⟨b, e, _, rfl, _⟩ := id h2
  exact ⟨a, _, c, b, _, e, 0, rfl, by rw [if_pos hl]; exact ⟨rfl, _, _, rfl, h1, h2⟩⟩
 rw [if_neg hl] at h
 exact ⟨none, 0, 0, none, 0, 0, 2, h, by rw [if_neg hl]; exact ⟨rfl, rfl⟩⟩
end Go.Proofs.YtbhkdjheooknfaaGreat
