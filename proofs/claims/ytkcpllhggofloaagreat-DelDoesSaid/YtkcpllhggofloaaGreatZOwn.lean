/- Walks: a bench that is written: blocks shared, nodes made. -/
import Derived.Test.YtkcpllhggofloaaGreatZCat
namespace Go.Proofs.YtkcpllhggofloaaGreat
set_option linter.unusedVariables false
set_option linter.unusedSectionVars false
set_option linter.unusedSimpArgs false
open Go.RowKit
abbrev WT : TypeId := 41
def WOwn (M : Mem) (wv : Value) (Rw : Lc) (ws : List Wt) : Prop := ∃ ps : List (Wt × Value), ps.map (·.1) = ws ∧ (∀ p ∈ ps, BS M p.2 p.1.2) ∧
 (Own wv Rw WT 2 ws.length (ps.flatMap wCv) ∨ (Rw = [] ∧ (ps.flatMap wCv).length = ws.length * 2 ∧ ∃ ba, wv = .slice (some ba) ws.length ws.length ∧ (ps.flatMap wCv = [] ∨ ba.spot = none) ∧ ∀ i u, (ps.flatMap wCv)[i]? = some u → CM M ba.block (ba.off + i) u))
def BOwn (M : Mem) (bb : Nat) (Lb : Lc) (s : Sto) : Prop := ∃ bv wv na nc lv Rw Rn, Lb = (bb, .cells [bv, wv, .slice na s.now.length nc, lv].toArray TBn (0, 0)) :: (Rw ++ Rn) ∧ LS M bv s.blocks ∧ BS M lv s.last ∧ Own (.slice na s.now.length nc) Rn 5 1 s.now.length (wAj s.now) ∧ WOwn M wv Rw s.waits
theorem WOwn.mono {M M' : Mem} {wv : Value} {Rw : Lc} {ws : List Wt} (h : WOwn M wv Rw ws) (hM : MLe M M') : WOwn M' wv Rw ws := by
 obtain ⟨ps, h1, h2, h3⟩ := h
 refine ⟨ps, h1, fun p hp => (h2 p hp).mono hM, h3.imp id ?_⟩
 rintro ⟨a, b, ba, c, d, e⟩
 exact ⟨a, b, ba, c, d, fun i u hu => (e i u hu).mono hM⟩
theorem BOwn.mono {M M' : Mem} {bb : Nat} {Lb : Lc} {s : Sto} (h : BOwn M bb Lb s) (hM : MLe M M') : BOwn M' bb Lb s := by
 obtain ⟨bv, wv, na, nc, lv, Rw, Rn, h1, h2, h3, h4, h5⟩ := h
 exact ⟨bv, wv, na, nc, lv, Rw, Rn, h1, h2.mono hM, h3.mono hM, h4, h5.mono hM⟩
def wCk (s : Sto) (k : Nat) : Int := if s.now.getD k 0 = 0 then 6 else if s.now.getD k 0 = 255 then 70 else 0
def wCs (s : Sto) (k : Nat) : Sto := { s with now := s.now.set k (s.now.getD k 0 + 1) }
theorem inc_u8 {b : By} (h : b ≠ 255) : ((b + 1).toNat : Int) = (b.toNat : Int) + 1 ∧ (b.toNat : Int) + 1 < 256 := by
 have h1 := b.toNat_lt
 have h2 : b.toNat ≠ 255 := fun e => h (UInt8.toNat.inj e)
 rw [UInt8.toNat_add]
 have : (1 : By).toNat = 1 := rfl
 omega
theorem shareE_is {s : Sto} {k : Nat} (h : wCk s k = 0) : s.now.getD k 0 ≠ 0 ∧ s.now.getD k 0 ≠ 255 := by
 unfold wCk at h
 by_cases h1 : s.now.getD k 0 = 0
 ·rw [if_pos h1] at h; cases h
 by_cases h2 : s.now.getD k 0 = 255
 ·rw [if_neg h1, if_pos h2] at h; cases h
 exact ⟨h1, h2⟩
theorem nz_u8 {b : By} (h : b ≠ 0) : ¬ ((b.toNat : Int) = 0) := fun e => h (UInt8.toNat.inj (by simpa using e))
theorem n255_u8 {b : By} (h : b ≠ 255) : ¬ ((b.toNat : Int) = 255) := fun e => h (UInt8.toNat.inj (by have : (255 : By).toNat = 255 := rfl; omega))
theorem share_walk (s : Sto) (k bb : Nat) (hk : k < s.now.length) (he : wCk s k = 0) (bv wv lv : Value) (na : Option Addr) (nc : Nat) (Rw Rn : Lc) (M : Mem) (hnow : Own (.slice na s.now.length nc) Rn 5 1 s.now.length (wAj s.now)) :
  SpecL Tryz.prog 41 #[.pointer (some ⟨bb, 0, none⟩), .int .i64 k] M ((bb, .cells [bv, wv, .slice na s.now.length nc, lv].toArray TBn (0, 0)) :: (Rw ++ Rn)) fun u M' L' => u = .int .i64 0 ∧ M' = M ∧ ∃ Rn', L' = (bb, .cells [bv, wv, .slice na s.now.length nc, lv].toArray TBn (0, 0)) :: (Rw ++ Rn') ∧ Own (.slice na s.now.length nc) Rn' 5 1 s.now.length (wAj (wCs s k).now) := by
 have hgn : (wAj s.now)[k]? = some (.int .u8 ((s.now.getD k 0).toNat : Int)) := wHy hk
 obtain ⟨h0, h255⟩ := shareE_is he
 have hn0 := nz_u8 h0
 have hn255 := n255_u8 h255
 obtain ⟨hi1, hi2⟩ := inc_u8 h255
 obtain ⟨ng, ncap, ncur, e0, e1, _⟩ := hnow.open (by omega)
 cases e0; cases e1
 refine wAf (vs := [_, _]) 27 _ Tryz.func41 rfl Tryz.ntmps41 rfl rfl ?_; intro W
 refine wAb (wAa (jp rfl (wAc (jT (wAb (wAb (wAa (jp rfl (wAi rfl rfl (wBw rfl rfl rfl) ?_)))))))))
 refine sFa rfl ?_
 refine sFL rfl rfl ?_
 refine jp rfl (wAi rfl rfl (wBe rfl rfl rfl rfl (by omega)) ?_)
 refine wAi rfl rfl (qLd rfl rfl rfl rfl (by rw [Nat.mul_one, Nat.zero_add]; exact hnow.cj (by simp) hgn)) ?_
 refine wAc (jT (wAh (wAb (wAa (jf rfl (decide_eq_false (by omega)) ?_)))))
 refine jp rfl (wAc (jT (wAk rfl (wAb (wAa (jf rfl (decide_eq_false (by omega)) ?_))))))
 refine jp rfl (wAc (jT (wAk rfl (wAd (jB (jT (wAb (wAa (jp rfl (wAi rfl rfl (wBw rfl rfl rfl) ?_))))))))))
 refine sFa rfl ?_
 refine sFL rfl rfl ?_
 refine jp rfl (wAi rfl rfl (wBe rfl rfl rfl rfl (by omega)) ?_)
 refine wAi rfl rfl (qLd rfl rfl rfl rfl (by rw [Nat.mul_one, Nat.zero_add]; exact hnow.cj (by simp) hgn)) ?_
 refine wAi rfl rfl (qAk rfl rfl rfl rfl rfl (by rw [IntKind.wrap_u8]; omega)) ?_
 refine wAi rfl rfl (wBe rfl rfl rfl rfl (by omega)) ?_
 refine jl_s rfl (wGp rfl rfl rfl rfl rfl rfl hnow rfl (by omega)) ?_; rintro _ _ _ ⟨rfl, Rn', rfl, hnow'⟩
 refine wAc (jT (wAb (wAa (jp rfl (wAc (jT (wAe (wGb (L' := (bb, .cells [bv, wv, .slice (some ⟨ng, 0, none⟩) s.now.length nc, lv].toArray TBn (0, 0)) :: (Rw ++ Rn')) (fun w h => h.perm ?_) ?_))))))))
 ·simpa using (List.perm_append_comm (l₁ := Rn') (l₂ := (bb, _) :: Rw))
 refine jr1 rfl rfl ?_
 refine ⟨rfl, rfl, Rn', rfl, ?_⟩
 have e : wAj (wCs s k).now = (wAj s.now).set k (.int .u8 (((s.now.getD k 0).toNat : Int) + 1)) := by unfold wCs wAj; rw [List.map_set, hi1]
 rw [e]; have := hnow'; rw [Nat.mul_one, Nat.zero_add] at this; exact this
theorem shareS_len (s : Sto) (k : Nat) : (wCs s k).now.length = s.now.length := by unfold wCs; simp
theorem share_spec (s : Sto) (k bb : Nat) (hk : k < s.now.length) (he : wCk s k = 0) (M : Mem) (Lb : Lc) (h : BOwn M bb Lb s) : SpecL Tryz.prog 41 #[.pointer (some ⟨bb, 0, none⟩), .int .i64 k] M Lb fun u M' L' => u = .int .i64 0 ∧ BOwn M' bb L' (wCs s k) := by
 obtain ⟨bv, wv, na, nc, lv, Rw, Rn, rfl, h2, h3, h4, h5⟩ := h
 refine (share_walk s k bb hk he bv wv lv na nc Rw Rn M h4).mono fun u M' L' ⟨e1, e2, Rn', e3, e4⟩ => ?_
 subst e2
 have hl := shareS_len s k
 exact ⟨e1, bv, wv, na, nc, lv, Rw, Rn', by rw [hl]; exact e3, h2, h3, by rw [hl]; exact e4, h5⟩
def freeB (s : Sto) (k : Nat) : Prop := s.now.getD k 0 = 0 ∧ s.last.getD k 0 = 0
instance (s : Sto) (k : Nat) : Decidable (freeB s k) := by unfold freeB; exact inferInstance
def frAt (s : Sto) : Nat → Nat → Nat
 | 0, k => k
 | f + 1, k => if freeB s k then k else frAt s f (k + 1)
def wEt (s : Sto) : Nat := frAt s 248 8
def wAx (s : Sto) (xs : List It) : Sto := xs.foldl (fun t x => if x.ref = 0 then t else wCs t x.ref.toNat) s
def addS (s : Sto) (k : Nat) (b : List By) : Sto := { s with waits := s.waits ++ [((k : Int), b)], now := s.now.set k 1 }
def mkS (s : Sto) (lv : Int) (xs : List It) : Sto := addS (wAx s xs) (wEt (wAx s xs)) (ndB lv xs)
theorem wGi {s : Sto} {xs : List It} {k : Nat} (h : k < xs.length) : wAx s (xs.take (k + 1)) = if xs[k].ref = 0 then wAx s (xs.take k) else wCs (wAx s (xs.take k)) xs[k].ref.toNat := by
 rw [List.take_succ_eq_append_getElem h]; unfold wAx; rw [List.foldl_append]; rfl
theorem wDp (s : Sto) (xs : List It) : (wAx s xs).now.length = s.now.length ∧ (wAx s xs).waits = s.waits ∧ (wAx s xs).last = s.last ∧ (wAx s xs).blocks = s.blocks := by
 unfold wAx
 induction xs generalizing s with
 | nil => exact ⟨rfl, rfl, rfl, rfl⟩
 | cons x xs ih =>
  rw [List.foldl_cons]
  obtain ⟨h1, h2, h3, h4⟩ := ih (if x.ref = 0 then s else wCs s x.ref.toNat)
  rw [h1, h2, h3, h4]
  split
  ·exact ⟨rfl, rfl, rfl, rfl⟩
  exact ⟨shareS_len _ _, rfl, rfl, rfl⟩
theorem bor_u8 (a b : By) : bOr .u8 (a.toNat : Int) (b.toNat : Int) = ((a ||| b).toNat : Int) := by
 have ha := a.toNat_lt
 have hb := b.toNat_lt
 have hab := (a ||| b).toNat_lt
 unfold bOr
 rw [IntKind.wrap_u8]
 have e : (BitVec.ofInt IntKind.u8.bits (a.toNat : Int) ||| BitVec.ofInt IntKind.u8.bits (b.toNat : Int)).toNat = (a ||| b).toNat := by
  rw [BitVec.toNat_or, UInt8.toNat_or, BitVec.ofInt_natCast, BitVec.ofInt_natCast, BitVec.toNat_ofNat, BitVec.toNat_ofNat]
  rw [Nat.mod_eq_of_lt (by simpa [IntKind.bits] using ha), Nat.mod_eq_of_lt (by simpa [IntKind.bits] using hb)]
 rw [e]
 omega
theorem or_zero (a b : By) : (a ||| b) = 0 ↔ a = 0 ∧ b = 0 := by
 constructor
 ·intro h
  have := congrArg UInt8.toBitVec h
  rw [UInt8.toBitVec_or] at this
  have h2 := BitVec.or_eq_zero_iff.1 this
  exact ⟨UInt8.toBitVec_inj.1 h2.1, UInt8.toBitVec_inj.1 h2.2⟩
 rintro ⟨rfl, rfl⟩; rfl
theorem perm3 {A B C : Lc} : (A ++ (B ++ C)).Perm (C ++ (B ++ A)) := by
 refine List.perm_append_comm.trans ?_
 rw [← List.append_assoc C B A]
 exact (List.perm_append_comm (l₁ := B) (l₂ := C)).append_right A
theorem WOwn.form {M : Mem} {wv : Value} {Rw : Lc} {ws : List Wt} (h : WOwn M wv Rw ws) : ∃ wa wc, wv = .slice wa ws.length wc := by
 obtain ⟨ps, h1, h2, h3 | ⟨_, _, ba, rfl, _⟩⟩ := h
 ·obtain ⟨a, c, e⟩ := h3.form; exact ⟨a, c, e⟩
 exact ⟨_, _, rfl⟩
theorem frAt_on {s : Sto} {k : Nat} (hk : k < 256) (h : ¬ freeB s k) : frAt s (256 - k) k = frAt s (256 - (k + 1)) (k + 1) := by
 rw [show 256 - k = (256 - (k + 1)) + 1 by omega, frAt, if_neg h]
theorem frAt_is {s : Sto} {k : Nat} (hk : k < 256) (h : freeB s k) : frAt s (256 - k) k = k := by
 rw [show 256 - k = (256 - (k + 1)) + 1 by omega, frAt, if_pos h]
end Go.Proofs.YtkcpllhggofloaaGreat
