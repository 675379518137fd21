/- Walks: calls are played. -/
import Derived.Test.YtokljhkplbkggaaGreatDoorZDo
namespace Go.Proofs.YtokljhkplbkggaaGreatDoor
set_option linter.unusedSimpArgs false
set_option linter.unusedVariables false
set_option linter.unusedSectionVars false
open Go.RowKit Go.MapKept
theorem flat_at {α : Type} (f : α → List Value) (m : Nat) (hf : ∀ x, (f x).length = m) : ∀ (qs : List α) (i : Nat) (h : i < qs.length) (j : Nat), j < m → (qs.flatMap f)[i * m + j]? = (f qs[i])[j]?
 | q :: qs, 0, h, j, hj => by
  rw [List.flatMap_cons, Nat.zero_mul, Nat.zero_add, List.getElem?_append_left (by rw [hf]; exact hj)]; rfl
 | q :: qs, i + 1, h, j, hj => by
  rw [List.flatMap_cons, List.getElem?_append_right (by rw [hf, Nat.add_mul]; omega), hf, show (i + 1) * m + j - m = i * m + j by rw [Nat.add_mul]; omega, flat_at f m hf qs i (by simpa using h) j hj]; rfl
theorem wDr {α : Type} (f : α → List Value) (m : Nat) (hf : ∀ x, (f x).length = m) : ∀ (qs : List α), (qs.flatMap f).length = qs.length * m
 | [] => by simp
 | q :: qs => by rw [List.flatMap_cons, List.length_append, hf, wDr f m hf qs, List.length_cons, Nat.add_mul]; omega
abbrev QC := CL × Option Addr × Nat
def cF (q : QC) : List Value := wDa q.1 q.2.1 q.2.2
theorem cF_len (q : QC) : (cF q).length = 7 := rfl
def CsP (M : Mem) (a : Option Addr) (qs : List QC) : Prop := SM M a (qs.flatMap cF) ∧ ∀ q ∈ qs, CallOk M q.1 q.2.1 q.2.2 ∧ q.1.path.size ≤ 100000 ∧ q.1.other.size ≤ 100000
theorem CsP.mono {M M' : Mem} {a : Option Addr} {qs : List QC} (h : CsP M a qs) (hM : MLe M M') : CsP M' a qs := ⟨h.1.mono hM, fun q hq => ⟨(h.2 q hq).1.mono hM, (h.2 q hq).2⟩⟩
theorem wJd {α : Type} {f : α → List Value} {m : Nat} (hf : ∀ x, (f x).length = m) {M : Mem} {a : Option Addr} {qs : List α} (h : SM M a (qs.flatMap f)) {i : Nat} (hi : i < qs.length) (hm : 0 < m) : ∃ b off, a = some ⟨b, off, none⟩ ∧ ∀ j v, (f qs[i])[j]? = some v → CM M b (off + i * m + j) v := by
 obtain ⟨b, off, e, hx⟩ := h.open (fun e => by
  have := wDr f m hf qs
  rw [e, List.length_nil] at this
  have h2 : 0 < qs.length * m := Nat.mul_pos (by omega) hm
  omega)
 refine ⟨b, off, e, fun j v hv => ?_⟩
 have hj : j < m := by
  have := (List.getElem?_eq_some_iff.1 hv).1
  rw [hf] at this; exact this
 have := hx (i * m + j) v (by rw [flat_at f m hf qs i hi j hj]; exact hv)
 rw [Nat.add_assoc]; exact this
def BsP (M : Mem) (v : Value) (xs : List By) : Prop := ∃ a c, v = .slice a xs.length c ∧ xs.length ≤ c ∧ c ≤ maxLen ∧ SM M a (wAn xs)
def NsP (M : Mem) (v : Value) (l : List Str) : Prop := ∃ a c, v = .slice a l.length c ∧ l.length ≤ c ∧ c ≤ maxLen ∧ SM M a (l.map Value.string)
theorem BsP.mono {M M' : Mem} {v : Value} {xs : List By} (h : BsP M v xs) (hM : MLe M M') : BsP M' v xs := by obtain ⟨a, c, h1, h2, h3, h4⟩ := h; exact ⟨a, c, h1, h2, h3, h4.mono hM⟩
theorem NsP.mono {M M' : Mem} {v : Value} {l : List Str} (h : NsP M v l) (hM : MLe M M') : NsP M' v l := by obtain ⟨a, c, h1, h2, h3, h4⟩ := h; exact ⟨a, c, h1, h2, h3, h4.mono hM⟩
abbrev QR := RP × Value × Value
def rF (q : QR) : List Value := rpc q.1 q.2.1 q.2.2
theorem rF_len (q : QR) : (rF q).length = 8 := rfl
def RsP (M : Mem) (a : Option Addr) (ps : List QR) : Prop := SM M a (ps.flatMap rF) ∧ ∀ p ∈ ps, BsP M p.2.1 p.1.data ∧ NsP M p.2.2 p.1.names
theorem RsP.mono {M M' : Mem} {a : Option Addr} {qs : List QR} (h : RsP M a qs) (hM : MLe M M') : RsP M' a qs := ⟨h.1.mono hM, fun q hq => ⟨(h.2 q hq).1.mono hM, (h.2 q hq).2.mono hM⟩⟩
theorem runI_snoc {ins : PS → Int → Int → Int → Bool} {part : Str → Option Wy} : ∀ {l : List CL} {S : PS} {c : CL}, wKj ins part S (l ++ [c]) = ((doI ins part (wKj ins part S l).1 c).1, (wKj ins part S l).2 ++ [(doI ins part (wKj ins part S l).1 c).2])
 | [], S, c => rfl
 | d :: l, S, c => by rw [List.cons_append, wKj, runI_snoc, wKj]; rfl
theorem wLe {ins : PS → Int → Int → Int → Bool} {part : Str → Option Wy} : ∀ {l : List CL} {S : PS}, (wKj ins part S l).2.length = l.length
 | [], S => rfl
 | d :: l, S => by rw [wKj, List.length_cons, wLe, List.length_cons]
theorem runI_take {ins : PS → Int → Int → Int → Bool} {part : Str → Option Wy} {l : List CL} {S : PS} {i : Nat} (h : i < l.length) : wKj ins part S (l.take (i + 1)) = ((doI ins part (wKj ins part S (l.take i)).1 l[i]).1, (wKj ins part S (l.take i)).2 ++ [(doI ins part (wKj ins part S (l.take i)).1 l[i]).2]) := by
 rw [List.take_succ_eq_append_getElem h, runI_snoc]
section
variable {P : Program} {ops : Array Oper} {N : Fs} {Q : Exit → Act → World → Prop} {F : Fr} {E : Ent} {M M0 : Mem} {L : Lc} {W : World} {X : List Nat} {rest : List Oper}
theorem Byt.freeze {v : Value} {R : Lc} {xs : List By} (ho : Byt v R xs) (hg : ∀ p ∈ R, p.1 ∉ X) {w : World} (h : St ⟨W, X, M0⟩ M (R ++ L) w) : ∃ M', MLe M M' ∧ BsP M' v xs ∧ St ⟨W, X, M0⟩ M' L w := by
 rcases ho with ⟨rfl, rfl, rfl⟩ | ⟨g, cap, cur, rfl, rfl, h2, h3, h4, h5⟩
 ·exact ⟨M, MLe.refl _, ⟨none, 0, rfl, Nat.le_refl _, Nat.zero_le _, .inl rfl⟩, h⟩
 obtain ⟨k1, k2, k3⟩ := St.freeze' (hg (g, .cells cur 5 (0, 0)) (by simp)) h
 refine ⟨_, k2, ⟨_, cap, rfl, h2, h4, .inr ⟨g, 0, rfl, fun i u hu => ⟨cur, _, (0, 0), k3, ?_⟩⟩⟩, k1⟩
 rw [← h5, List.getElem?_take] at hu
 split at hu
 ·simpa using hu
 cases hu
theorem jl_byt {v : Value} {R L2 : Lc} {xs : List By} (ho : Byt v R xs) [hp : Pick R L L2] (hg : ∀ p ∈ R, p.1 ∉ X)
  (h : ∀ M', MLe M M' → BsP M' v xs → JL P ops N Q rest F ⟨W, X, M0⟩ M' L2) : JL P ops N Q rest F ⟨W, X, M0⟩ M L := by
 intro a w ha hw
 obtain ⟨M', k1, k2, k5⟩ := ho.freeze hg (hw.perm hp.perm)
 exact h M' k1 k2 a w ha k5
end
theorem Nms.cap {v : Value} {R : Lc} {l : List Str} (h : Nms v R l) : ∃ a c, v = .slice a l.length c ∧ c ≤ maxLen := by
 rcases h.2 with ⟨rfl, h0, _⟩ | ⟨g, cap, cur, rfl, _, _, h4, _⟩
 ·exact ⟨none, 0, by rw [h0], Nat.zero_le _⟩
 exact ⟨_, cap, rfl, h4⟩
theorem Own.capLe {a : Option Addr} {c : Nat} {R : Lc} {e : TypeId} {sz n : Nat} {xs : List Value} (h : Own (.slice a n c) R e sz n xs) : c ≤ maxLen := by
 rcases h.2 with ⟨h1, _, _⟩ | ⟨g, cap, cur, h1, _, _, h4, _⟩
 ·simp only [Value.slice.injEq] at h1; obtain ⟨_, _, rfl⟩ := h1; exact Nat.zero_le _
 simp only [Value.slice.injEq] at h1; obtain ⟨_, _, rfl⟩ := h1; exact h4
def PlayP (qs : List QC) (u : Value) (M' : Mem) (L' : Lc) : Prop := (∃ a c ps, u = .tuple #[.slice a qs.length c, .int .i64 0] ∧ qs.length ≤ c ∧ c ≤ maxLen ∧ ps.map (·.1) = (wKj insB wAy PS0 (qs.map (·.1))).2 ∧ RsP M' a ps) ∧ L' = []
structure PlI (qs : List QC) (b13 : Nat) (M : Mem) (z : Nat × Mem × CS × Value × Lc × List QR) : Prop where
 le : z.1 ≤ qs.length
 mem : MLe M z.2.1
 ok : z.2.2.1.Ok
 blk : z.2.2.1.b = b13
 st : z.2.2.1.abs = (wKj insB wAy PS0 ((qs.map (·.1)).take z.1)).1
 own : Own z.2.2.2.1 z.2.2.2.2.1 30 8 z.1 (z.2.2.2.2.2.flatMap rF)
 rp : z.2.2.2.2.2.map (·.1) = (wKj insB wAy PS0 ((qs.map (·.1)).take z.1)).2
 rs : ∀ p ∈ z.2.2.2.2.2, BsP z.2.1 p.2.1 p.1.data ∧ NsP z.2.1 p.2.2 p.1.names
set_option maxHeartbeats 4000000 in
theorem play_few (qs : List QC) (la : Option Addr) (lc : Nat) (M : Mem) (hT : Tabs M) (hL : CsP M la qs) (h : qs.length ≤ 64) (hwf : ∀ k, k ≤ qs.length → WFS k (wKj insB wAy PS0 ((qs.map (·.1)).take k)).1) :
  SpecL Tryz.prog 5 #[.slice la qs.length lc] M [] (PlayP qs) := by
 refine wAe (vs := [_]) 28 _ Tryz.func5 rfl Tryz.ntmps5 rfl rfl ?_; intro W
 refine wAb (wAa (jp rfl (jp rfl (wAc (jT (wAb (wAb (wAa (jp rfl (lq (wCd rfl rfl rfl) ?_))))))))))
 refine jf rfl (decide_eq_false (by omega)) ?_
 refine wAc (jT (wAh rfl (wAd (jT (wAb (wAa (wCe rfl rfl (wHp rfl rfl) ?_))))))); rintro _ _ _ ⟨b11, rfl, rfl, rfl⟩
 refine lq (wBe (cs := [_, _]) rfl rfl rfl (by rfl)) ?_
 refine sBx [_, _] rfl fun b13 => ?_
 refine jp rfl (wAc (jT (wAb (wAa (jp rfl (wAc (jT (wAb (wAb (wAa (jp rfl (lq (wCd rfl rfl rfl) ?_))))))))))))
 refine jp rfl (wAc (jT (wAk ?_)))
 refine wBr (α := Nat × Mem × CS × Value × Lc × List QR) (fun z => [(4, pt b13), (5, z.2.2.2.1), (14, .slice la qs.length lc), (15, .int .i64 qs.length), (16, .int .i64 z.1)]) (fun z => z.2.1) (fun z => z.2.2.1.own ++ z.2.2.2.2.1) (fun z => PlI qs b13 M z) (fun z => qs.length - z.1)
  (0, M, ({ next := 0, b := b13, mb := b11, mo := .map #[] 0, vols := [] } : CS), .slice none 0 0, [], []) (.cons (t := 4) rfl (.cons (t := 5) rfl (.cons (t := 14) rfl (.cons (t := 15) rfl (.cons (t := 16) rfl .nil))))) ⟨Nat.zero_le _, MLe.refl _, ⟨MapOf.empty, fun _ h => by cases h⟩, rfl, rfl, Own.nil _ _, rfl, fun _ h => by cases h⟩ (fun _ h => h) ?_
 rintro ⟨k, Mk, Sk, out, R, ps⟩ hI
 have hb13 := hI.blk
 dsimp only at hb13 ⊢
 subst hb13
 refine wAb (wAa (js rfl (fun h17 => ?_) (fun h17 => ?_)))
 ·refine wAc (jT (wAb (wAf rfl (wAd (jT (wAb (wAk (wAb (wAa ?_)))))))))
  have hk1 : k < qs.length := by omega
  have hkl : k < (qs.map (·.1)).length := by rw [List.length_map]; exact hk1
  obtain ⟨qb, qo, e0, hx⟩ := wJd cF_len (hL.1.mono hI.mem) hk1 (by omega)
  subst e0
  obtain ⟨hC, hz1, hz2⟩ := hL.2 qs[k] (List.getElem_mem hk1)
  have hcl : (qs.map (·.1))[k] = qs[k].1 := by rw [List.getElem_map]
  have hwk : WFS k Sk.abs := by have := hI.st; simp only at this; rw [this]; exact hwf k (by omega)
  refine lq (wEn rfl rfl rfl rfl (by omega)) ?_
  refine lq (wFt (cs := wDa qs[k].1 qs[k].2.1 qs[k].2.2) rfl rfl rfl rfl rfl (fun j v hv => by rw [Int.toNat_natCast]; exact (hx j v hv).cj _)) ?_
  refine sAl rfl fun b7 => ?_
  refine sSt rfl ?_
  refine wAc (jT (wAa (jp rfl (jp rfl (sLL rfl ?_)))))
  refine wCe rfl rfl (hCl (do_spec Sk hI.ok k hwk (by omega) Mk (hT.mono hI.mem) qs[k].1 qs[k].2.1 qs[k].2.2 (hC.mono hI.mem) ⟨hz1, hz2⟩)) ?_; rintro _ M2 _ ⟨hM2, R9, rfl, ⟨S2, dv2, nv2, R1, R2, ⟨e1, eb⟩, e2, rfl, e3, e4, rfl⟩⟩
  obtain ⟨r, hr⟩ : ∃ r, (doI insB wAy Sk.abs qs[k].1).2 = r := ⟨_, rfl⟩
  rw [hr] at e3 e4 ⊢
  obtain ⟨da2, dc2, rfl⟩ := e3.form
  obtain ⟨na2, nc2, rfl, hnc2⟩ := Nms.cap e4
  simp only [List.append_assoc]
  refine jl_byt e3 (by simp) ?_
  intro M3 hM3 hbs
  refine jl_own e4 (by simp) ?_
  intro M4 na3 nc3 hM4 e5 hc5 hs5
  cases e5
  refine wCe rfl rfl (wBt (cs := [_, _, _, _, _, _, _, _]) rfl rfl rfl (by rfl) (by rfl) (by rfl)) ?_; rintro _ _ _ ⟨b24, rfl, rfl, rfl⟩
  refine wCe rfl rfl (wDt (R := R) (news := rF ((r, .slice da2 r.data.length dc2, .slice na2 r.names.length nc2) : QR)) rfl rfl rfl rfl hI.own rfl (fun j v hv => CJ.loc (by rw [Nat.zero_add]; unfold rF at hv; simpa using hv)) rfl rfl (fun u hu => List.all_eq_true.1 (rfl : ((rF ((r, .slice da2 r.data.length dc2, .slice na2 r.names.length nc2) : QR)).all fun v => v.oneCell') = true) u hu) (by omega) (by omega)) ?_; rintro out2 _ _ ⟨rfl, R3, rfl, hown2, _⟩
  refine jp rfl (wAc (jB (jT (wAa (ja rfl (by omega) ?_)))))
  refine jp rfl (wAc ?_)
  have hst : (wKj insB wAy PS0 ((qs.map (·.1)).take k)).1 = Sk.abs := hI.st.symm
  have hrt := runI_take (ins := insB) (part := wAy) (S := PS0) hkl
  rw [hcl, hst] at hrt
  refine wBu (k + 1, M4, S2, out2, R3, ps ++ [((r, .slice da2 r.data.length dc2, .slice na2 r.names.length nc2) : QR)]) (.cons (t := 4) rfl (.cons (t := 5) rfl (.cons (t := 14) rfl (.cons (t := 15) rfl (.cons (t := 16) rfl .nil))))) ⟨by show k + 1 ≤ qs.length; omega, ((hI.mem.trans hM2).trans hM3).trans hM4, e1, eb, ?_, ?_, ?_, ?_⟩ (by show qs.length - (k + 1) < qs.length - k; omega) (fun _ h => h.subC fun f => by simp only [List.map_append, List.map_cons, List.map_nil, List.sum_append, List.sum_cons, List.sum_nil]; omega)
  ·show S2.abs = _; rw [hrt, e2]
  ·show Own out2 R3 _ 8 (k + 1) ((ps ++ [((r, .slice da2 r.data.length dc2, .slice na2 r.names.length nc2) : QR)]).flatMap rF); rw [List.flatMap_append, List.flatMap_cons, List.flatMap_nil, List.append_nil]; exact hown2
  ·show (ps ++ [((r, .slice da2 r.data.length dc2, .slice na2 r.names.length nc2) : QR)]).map (·.1) = _; rw [hrt, List.map_append, hI.rp, hr]; rfl
  intro p hp
  rcases List.mem_append.1 hp with hp | hp
  ·have := hI.rs p hp; exact ⟨this.1.mono ((hM2.trans hM3).trans hM4), this.2.mono ((hM2.trans hM3).trans hM4)⟩
  rw [List.mem_singleton.1 hp]; exact ⟨hbs.mono hM4, ⟨_, _, rfl, hc5, hnc2, hs5⟩⟩
 refine wAc (jT (wAb (wAh rfl (wBx (jTx (jTx (jBx (jT (wAb ?_)))))))))
 obtain rfl : k = qs.length := by have := hI.le; simp only at this; omega
 refine jc_own hI.own (by simp) ?_
 intro M9 a9 c9 hM9 e9 hc9 hs9
 dsimp only at e9; subst e9
 have hcm9 : c9 ≤ maxLen := by have := hI.own.capLe; simpa using this
 refine wAa (jp rfl (jp rfl (jp rfl (wAc (jT (wAg (wCv (L' := []) (List.nil_sublist _) ?_)))))))
 refine jr2 rfl rfl rfl ?_
 have hrp := hI.rp
 dsimp only at hrp
 rw [show (qs.map (·.1)).take qs.length = qs.map (·.1) from List.take_of_length_le (by rw [List.length_map]; exact Nat.le_refl _)] at hrp
 exact ⟨⟨_, _, ps, rfl, hc9, hcm9, hrp, hs9, fun p hp => ⟨(hI.rs p hp).1.mono hM9, (hI.rs p hp).2.mono hM9⟩⟩, rfl⟩
end Go.Proofs.YtokljhkplbkggaaGreatDoor
