/- Walks: a bench that is written: blocks shared, nodes made. -/
import Derived.Test.YtckdncmjkloebaaGreatZCat
namespace Go.Proofs.YtckdncmjkloebaaGreat
set_option linter.unusedVariables false
set_option linter.unusedSimpArgs false
open Go.RowKit

abbrev WT : TypeId := 41
def WOwn (M : Mem) (wv : Value) (Rw : Lc) (ws : List Wt) : Prop := ∃ ps : List (Wt × Value), ps.map (·.1) = ws ∧ (∀ p ∈ ps, BS M p.2 p.1.2) ∧
 (Own wv Rw WT 2 ws.length (ps.flatMap wcell) ∨ (Rw = [] ∧ (ps.flatMap wcell).length = ws.length * 2 ∧ ∃ ba, wv = .slice (some ba) ws.length ws.length ∧ (ps.flatMap wcell = [] ∨ ba.spot = none) ∧ ∀ i u, (ps.flatMap wcell)[i]? = some u → CM M ba.block (ba.off + i) u))
/-- a bench that is written -/
def BOwn (M : Mem) (bb : Nat) (Lb : Lc) (s : Sto) : Prop := ∃ bv wv na nc lv Rw Rn, Lb = (bb, .cells [bv, wv, .slice na s.now.length nc, lv].toArray TBn (0, 0)) :: (Rw ++ Rn) ∧ LS M bv s.blocks ∧ BS M lv s.last ∧ Own (.slice na s.now.length nc) Rn 5 1 s.now.length (bcells s.now) ∧ WOwn M wv Rw s.waits
theorem WOwn.mono {M M' : Mem} {wv : Value} {Rw : Lc} {ws : List Wt} (h : WOwn M wv Rw ws) (hM : MLe M M') : WOwn M' wv Rw ws := by
 obtain ⟨ps, h1, h2, h3⟩ := h
 refine ⟨ps, h1, fun p hp => (h2 p hp).mono hM, h3.imp id ?_⟩
 rintro ⟨a, b, ba, c, d, e⟩
 exact ⟨a, b, ba, c, d, fun i u hu => (e i u hu).mono hM⟩
theorem BOwn.mono {M M' : Mem} {bb : Nat} {Lb : Lc} {s : Sto} (h : BOwn M bb Lb s) (hM : MLe M M') : BOwn M' bb Lb s := by
 obtain ⟨bv, wv, na, nc, lv, Rw, Rn, h1, h2, h3, h4, h5⟩ := h
 exact ⟨bv, wv, na, nc, lv, Rw, Rn, h1, h2.mono hM, h3.mono hM, h4, h5.mono hM⟩

def shareE (s : Sto) (k : Nat) : Int := if s.now.getD k 0 = 0 then 6 else if s.now.getD k 0 = 255 then 70 else 0
def shareS (s : Sto) (k : Nat) : Sto := { s with now := s.now.set k (s.now.getD k 0 + 1) }
theorem inc_u8 {b : By} (h : b ≠ 255) : ((b + 1).toNat : Int) = (b.toNat : Int) + 1 ∧ (b.toNat : Int) + 1 < 256 := by
 have h1 := b.toNat_lt
 have h2 : b.toNat ≠ 255 := fun e => h (UInt8.toNat.inj e)
 rw [UInt8.toNat_add]
 have : (1 : By).toNat = 1 := rfl
 omega
theorem shareE_is {s : Sto} {k : Nat} (h : shareE s k = 0) : s.now.getD k 0 ≠ 0 ∧ s.now.getD k 0 ≠ 255 := by
 unfold shareE at h
 by_cases h1 : s.now.getD k 0 = 0
 ·rw [if_pos h1] at h; cases h
 ·by_cases h2 : s.now.getD k 0 = 255
  ·rw [if_neg h1, if_pos h2] at h; cases h
  ·exact ⟨h1, h2⟩
theorem nz_u8 {b : By} (h : b ≠ 0) : ¬ ((b.toNat : Int) = 0) := fun e => h (UInt8.toNat.inj (by simpa using e))
theorem n255_u8 {b : By} (h : b ≠ 255) : ¬ ((b.toNat : Int) = 255) := fun e => h (UInt8.toNat.inj (by have : (255 : By).toNat = 255 := rfl; omega))

theorem share_walk (s : Sto) (k bb : Nat) (hk : k < s.now.length) (he : shareE s k = 0) (bv wv lv : Value) (na : Option Addr) (nc : Nat) (Rw Rn : Lc) (M : Mem) (hnow : Own (.slice na s.now.length nc) Rn 5 1 s.now.length (bcells s.now)) :
  SpecL Tryz.prog 79 #[.pointer (some ⟨bb, 0, none⟩), .int .i64 k] M ((bb, .cells [bv, wv, .slice na s.now.length nc, lv].toArray TBn (0, 0)) :: (Rw ++ Rn)) fun u M' L' => u = .int .i64 0 ∧ M' = M ∧ ∃ Rn', L' = (bb, .cells [bv, wv, .slice na s.now.length nc, lv].toArray TBn (0, 0)) :: (Rw ++ Rn') ∧ Own (.slice na s.now.length nc) Rn' 5 1 s.now.length (bcells (shareS s k).now) := by
 have hgn : (bcells s.now)[k]? = some (.int .u8 ((s.now.getD k 0).toNat : Int)) := bget hk
 obtain ⟨h0, h255⟩ := shareE_is he
 have hn0 := nz_u8 h0
 have hn255 := n255_u8 h255
 obtain ⟨hi1, hi2⟩ := inc_u8 h255
 obtain ⟨ng, ncap, ncur, e0, e1, _⟩ := hnow.open (by omega)
 cases e0; cases e1
 refine spec_body (vs := [_, _]) 27 _ Tryz.func79 rfl Tryz.ntmps79 rfl rfl ?_; intro W
 refine jc_seq ?_
 refine jc_region ?_
 refine jp rfl ?_
 refine jl_nil ?_
 refine jT ?_
 refine jc_seq ?_
 refine jc_seq ?_
 refine jc_region ?_
 refine jp rfl ?_
 refine jl_q rfl rfl (qNilCheck rfl rfl rfl) ?_
 refine jl_q rfl rfl (qFieldAddr rfl rfl rfl rfl rfl) ?_
 refine jl_q rfl rfl (qFieldAddr rfl rfl rfl rfl rfl) ?_
 refine jl_q rfl rfl (qLd rfl rfl rfl rfl (CJ.loc rfl)) ?_
 refine jp rfl ?_
 refine jl_q rfl rfl (qIdxS rfl rfl rfl rfl (by omega)) ?_
 refine jl_q rfl rfl (qLd rfl rfl rfl rfl (by rw [Nat.mul_one, Nat.zero_add]; exact hnow.cj (by simp) hgn)) ?_
 refine jl_nil ?_
 refine jT ?_
 refine jc_block ?_
 refine jc_seq ?_
 refine jc_region ?_
 refine jf rfl (decide_eq_false (by omega)) ?_
 refine jp rfl ?_
 refine jl_nil ?_
 refine jT ?_
 refine jc_no rfl ?_
 refine jc_seq ?_
 refine jc_region ?_
 refine jf rfl (decide_eq_false (by omega)) ?_
 refine jp rfl ?_
 refine jl_nil ?_
 refine jT ?_
 refine jc_no rfl ?_
 refine jc_skip ?_
 refine jB ?_
 refine jT ?_
 refine jc_seq ?_
 refine jc_region ?_
 refine jp rfl ?_
 refine jl_q rfl rfl (qNilCheck rfl rfl rfl) ?_
 refine jl_q rfl rfl (qFieldAddr rfl rfl rfl rfl rfl) ?_
 refine jl_q rfl rfl (qFieldAddr rfl rfl rfl rfl rfl) ?_
 refine jl_q rfl rfl (qLd rfl rfl rfl rfl (CJ.loc rfl)) ?_
 refine jp rfl ?_
 refine jl_q rfl rfl (qIdxS rfl rfl rfl rfl (by omega)) ?_
 refine jl_q rfl rfl (qLd rfl rfl rfl rfl (by rw [Nat.mul_one, Nat.zero_add]; exact hnow.cj (by simp) hgn)) ?_
 refine jl_q rfl rfl (qAk rfl rfl rfl rfl rfl (by rw [IntKind.wrap_u8]; omega)) ?_
 refine jl_q rfl rfl (qIdxS rfl rfl rfl rfl (by omega)) ?_
 refine jl_s rfl (hStoreOwn rfl rfl rfl rfl rfl rfl hnow rfl (by omega)) ?_; rintro _ _ _ ⟨rfl, Rn', rfl, hnow'⟩
 refine jl_nil ?_
 refine jT ?_
 refine jc_seq ?_
 refine jc_region ?_
 refine jp rfl ?_
 refine jl_nil ?_
 refine jT ?_
 refine jc_ret ?_
 refine jq_weak (L' := (bb, .cells [bv, wv, .slice (some ⟨ng, 0, none⟩) s.now.length nc, lv].toArray TBn (0, 0)) :: (Rw ++ Rn')) (fun w h => h.perm ?_) ?_
 ·simpa using (List.perm_append_comm (l₁ := Rn') (l₂ := (bb, _) :: Rw))
 refine jr1 rfl rfl ?_
 refine ⟨rfl, rfl, Rn', rfl, ?_⟩
 have e : bcells (shareS s k).now = (bcells s.now).set k (.int .u8 (((s.now.getD k 0).toNat : Int) + 1)) := by unfold shareS bcells; rw [List.map_set, hi1]
 rw [e]; have := hnow'; rw [Nat.mul_one, Nat.zero_add] at this; exact this


theorem shareS_len (s : Sto) (k : Nat) : (shareS s k).now.length = s.now.length := by unfold shareS; simp
/-- bench.Share, where it may be -/
theorem share_spec (s : Sto) (k bb : Nat) (hk : k < s.now.length) (he : shareE s k = 0) (M : Mem) (Lb : Lc) (h : BOwn M bb Lb s) : SpecL Tryz.prog 79 #[.pointer (some ⟨bb, 0, none⟩), .int .i64 k] M Lb fun u M' L' => u = .int .i64 0 ∧ BOwn M' bb L' (shareS s k) := by
 obtain ⟨bv, wv, na, nc, lv, Rw, Rn, rfl, h2, h3, h4, h5⟩ := h
 refine (share_walk s k bb hk he bv wv lv na nc Rw Rn M h4).mono fun u M' L' ⟨e1, e2, Rn', e3, e4⟩ => ?_
 subst e2
 have hl := shareS_len s k
 exact ⟨e1, bv, wv, na, nc, lv, Rw, Rn', by rw [hl]; exact e3, h2, h3, by rw [hl]; exact e4, h5⟩

/-! ### bench.Make -/
def freeB (s : Sto) (k : Nat) : Prop := s.now.getD k 0 = 0 ∧ s.last.getD k 0 = 0
instance (s : Sto) (k : Nat) : Decidable (freeB s k) := by unfold freeB; exact inferInstance
def frAt (s : Sto) : Nat → Nat → Nat
 | 0, k => k
 | f + 1, k => if freeB s k then k else frAt s f (k + 1)
/-- the first block that is free, or 256 -/
def mkAt (s : Sto) : Nat := frAt s 248 8
def shareL (s : Sto) (xs : List It) : Sto := xs.foldl (fun t x => if x.ref = 0 then t else shareS t x.ref.toNat) s
def shOk (s : Sto) (xs : List It) : Prop := ∀ k (h : k < xs.length), xs[k].ref ≠ 0 → shareE (shareL s (xs.take k)) xs[k].ref.toNat = 0
/-- a node more -/
def addS (s : Sto) (k : Nat) (b : List By) : Sto := { s with waits := s.waits ++ [((k : Int), b)], now := s.now.set k 1 }
def mkS (s : Sto) (lv : Int) (xs : List It) : Sto := addS (shareL s xs) (mkAt (shareL s xs)) (ndB lv xs)
theorem shareL_step {s : Sto} {xs : List It} {k : Nat} (h : k < xs.length) : shareL s (xs.take (k + 1)) = if xs[k].ref = 0 then shareL s (xs.take k) else shareS (shareL s (xs.take k)) xs[k].ref.toNat := by
 rw [List.take_succ_eq_append_getElem h]; unfold shareL; rw [List.foldl_append]; rfl
theorem shareL_same (s : Sto) (xs : List It) : (shareL s xs).now.length = s.now.length ∧ (shareL s xs).waits = s.waits ∧ (shareL s xs).last = s.last ∧ (shareL s xs).blocks = s.blocks := by
 unfold shareL
 induction xs generalizing s with
 | nil => exact ⟨rfl, rfl, rfl, rfl⟩
 | cons x xs ih =>
  rw [List.foldl_cons]
  obtain ⟨h1, h2, h3, h4⟩ := ih (if x.ref = 0 then s else shareS s x.ref.toNat)
  rw [h1, h2, h3, h4]
  split
  ·exact ⟨rfl, rfl, rfl, rfl⟩
  ·exact ⟨shareS_len _ _, rfl, rfl, rfl⟩
theorem bor_u8 (a b : By) : bOr .u8 (a.toNat : Int) (b.toNat : Int) = ((a ||| b).toNat : Int) := by
 have ha := a.toNat_lt
 have hb := b.toNat_lt
 have hab := (a ||| b).toNat_lt
 unfold bOr
 rw [IntKind.wrap_u8]
 have e : (BitVec.ofInt IntKind.u8.bits (a.toNat : Int) ||| BitVec.ofInt IntKind.u8.bits (b.toNat : Int)).toNat = (a ||| b).toNat := by
  rw [BitVec.toNat_or, UInt8.toNat_or, BitVec.ofInt_natCast, BitVec.ofInt_natCast, BitVec.toNat_ofNat, BitVec.toNat_ofNat]
  rw [Nat.mod_eq_of_lt (by simpa [IntKind.bits] using ha), Nat.mod_eq_of_lt (by simpa [IntKind.bits] using hb)]
 rw [e]
 omega
theorem or_zero (a b : By) : (a ||| b) = 0 ↔ a = 0 ∧ b = 0 := by
 constructor
 ·intro h
  have := congrArg UInt8.toBitVec h
  rw [UInt8.toBitVec_or] at this
  have h2 := BitVec.or_eq_zero_iff.1 this
  exact ⟨UInt8.toBitVec_inj.1 h2.1, UInt8.toBitVec_inj.1 h2.2⟩
 ·rintro ⟨rfl, rfl⟩; rfl


theorem perm3 {A B C : Lc} : (A ++ (B ++ C)).Perm (C ++ (B ++ A)) := by
 refine List.perm_append_comm.trans ?_
 rw [← List.append_assoc C B A]
 exact (List.perm_append_comm (l₁ := B) (l₂ := C)).append_right A
theorem WOwn.form {M : Mem} {wv : Value} {Rw : Lc} {ws : List Wt} (h : WOwn M wv Rw ws) : ∃ wa wc, wv = .slice wa ws.length wc := by
 obtain ⟨ps, h1, h2, h3 | ⟨_, _, ba, rfl, _⟩⟩ := h
 ·obtain ⟨a, c, e⟩ := h3.form; exact ⟨a, c, e⟩
 ·exact ⟨_, _, rfl⟩
theorem frAt_on {s : Sto} {k : Nat} (hk : k < 256) (h : ¬ freeB s k) : frAt s (256 - k) k = frAt s (256 - (k + 1)) (k + 1) := by
 rw [show 256 - k = (256 - (k + 1)) + 1 by omega, frAt, if_neg h]
theorem frAt_is {s : Sto} {k : Nat} (hk : k < 256) (h : freeB s k) : frAt s (256 - k) k = k := by
 rw [show 256 - k = (256 - (k + 1)) + 1 by omega, frAt, if_pos h]

set_option maxHeartbeats 4000000 in
theorem bmake_walk (s : Sto) (lv : Int) (xs : List It) (a : Option Addr) (c : Nat) (ps : List (It × Value)) (M : Mem) (hc : xs.length ≤ c) (hs : SM M a (ps.flatMap icell)) (hp : ps.map (·.1) = xs) (hb : ∀ p ∈ ps, BS M p.2 p.1.val) (hkd : ∀ x ∈ xs, 0 ≤ x.key.kind ∧ x.key.kind < 256) (bb : Nat) (Lb : Lc) (hB0 : BOwn M bb Lb s) (hok : ndOk lv xs = true) (hn256 : s.now.length = 256) (hl256 : s.last.length = 256) (hsh : shOk s xs) (hat : mkAt (shareL s xs) < 256) (hwl : s.waits.length < 4096) :
  SpecL Tryz.prog 73 #[.pointer (some ⟨bb, 0, none⟩), .agg #[.int .i64 lv, .slice a xs.length c]] M Lb fun u M' L' => u = .tuple #[.int .i64 (mkAt (shareL s xs)), .int .i64 0] ∧ BOwn M' bb L' (mkS s lv xs) := by
 have hns : NS M (.slice a xs.length c) xs := ⟨a, c, ps, rfl, hc, hs, hp, hb⟩
 have hno := NdOk.of hok
 have hlen := hno.len
 have hbl : (ndB lv xs).length = 128 := by
  refine sealB_len ?_
  have := itBs_len (fun x hx => (itemsOk_bad hno.ok x hx).1)
  unfold ndRaw; rw [List.length_append]; show 3 + _ ≤ 124; omega
 refine spec_body (vs := [_, _]) 96 _ Tryz.func73 rfl Tryz.ntmps73 rfl rfl ?_; intro W
 refine jc_seq ?_
 refine jc_region ?_
 refine jl_h rfl rfl (hBox (cs := [_, _]) rfl rfl rfl rfl) ?_; rintro _ _ _ ⟨b3, rfl, rfl, rfl⟩
 iterate 2 refine jp rfl ?_
 refine jl_nil ?_
 refine jT ?_
 refine jc_seq ?_
 refine jc_region ?_
 refine jl_q rfl rfl (qLdL rfl rfl rfl rfl rfl) ?_
 refine jl_h rfl rfl (hCall rfl rfl rfl rfl rfl (by kernel_rfl) (nwrite_walk lv xs a c ps M hc hs hp hb hkd)) ?_; rintro _ M1 _ ⟨hM1, _, rfl, ⟨hnw, rfl⟩⟩
 rw [if_pos hok] at hnw
 obtain ⟨s6, rfl, hs6⟩ := hnw
 obtain ⟨sa6, sc6, rfl, hsc6, hss6⟩ := id hs6
 simp only [List.nil_append]
 iterate 5 refine jp rfl ?_
 refine jl_nil ?_
 refine jT ?_
 refine jc_seq ?_
 refine jc_seq ?_
 refine jc_region ?_
 refine jp rfl ?_
 refine jf rfl (decide_eq_false (by omega)) ?_
 refine jl_nil ?_
 refine jT ?_
 refine jc_no rfl ?_
 refine jc_skip ?_
 refine jT ?_
 refine jc_seq ?_
 refine jc_seq ?_
 refine jc_region ?_
 refine jl_q rfl rfl (qFieldAddr rfl rfl rfl rfl rfl) ?_
 refine jl_q rfl rfl (qLd rfl rfl rfl rfl (CJ.loc rfl)) ?_
 refine jl_q rfl rfl (qLen rfl rfl rfl) ?_
 refine jp rfl ?_
 refine jl_nil ?_
 refine jT ?_
 refine jc_block ?_
 refine jc_loopK (α := Nat × Mem × Lc) (fun x => [(0, .pointer (some ⟨bb, 0, none⟩)), (3, .pointer (some ⟨b3, 0, none⟩)), (6, .slice sa6 (ndB lv xs).length sc6), (19, .slice a xs.length c), (20, .int .i64 xs.length), (21, .int .i64 x.1)]) (fun x => x.2.1) (fun x => (b3, .cells [.int .i64 lv, .slice a xs.length c].toArray 73 (0, 0)) :: x.2.2) (fun x => x.1 ≤ xs.length ∧ MLe M1 x.2.1 ∧ BOwn x.2.1 bb x.2.2 (shareL s (xs.take x.1))) (fun x => xs.length - x.1)
  (0, M1, Lb) (Keep.cons (t := 0) rfl (Keep.cons (t := 3) rfl (Keep.cons (t := 6) rfl (Keep.cons (t := 19) rfl (Keep.cons (t := 20) rfl (Keep.cons (t := 21) rfl Keep.nil)))))) ⟨Nat.zero_le _, MLe.refl _, hB0.mono hM1⟩ (fun _ h => h) ?_
 rintro ⟨k, Mk, Lk⟩ ⟨hk, hMk, hB⟩
 try dsimp only at hk hMk hB ⊢
 refine jc_seq ?_
 refine jc_region ?_
 refine js rfl (fun h22 => ?_) (fun h22 => ?_)
 ·refine jl_nil ?_
  refine jT ?_
  refine jc_seq ?_
  refine jc_yes rfl ?_
  refine jc_skip ?_
  refine jT ?_
  refine jc_seq ?_
  refine jc_block ?_
  refine jc_seq ?_
  refine jc_region ?_
  have hk1 : k < xs.length := by omega
  have hsk := hs.mono (hM1.trans hMk)
  have hbk := fun p hp => (hb p hp).mono (hM1.trans hMk)
  obtain ⟨sb, so, e0, hx⟩ := hsk.open (by intro e; have := congrArg List.length e; rw [flat_len icell 5 icell_len, List.length_nil] at this; have h2 := congrArg List.length hp; rw [List.length_map] at h2; omega)
  subst e0
  obtain ⟨va, vc, hcl, hvc, hvs⟩ := items_get hx hp hbk hk1
  have hxr := hno.ref xs[k] (List.getElem_mem hk1)
  have hnl := (shareL_same s (xs.take k)).1
  refine jl_q rfl rfl (qIdxS rfl rfl rfl rfl (by omega)) ?_
  refine jl_q rfl rfl (qLdA (cs := itc xs[k] va vc) rfl rfl rfl rfl rfl (fun i v hv => (hcl i v hv).cj _)) ?_
  refine jl_h rfl rfl (hAlloc rfl rfl) ?_; rintro _ _ _ ⟨b8, rfl, rfl, rfl⟩
  refine jl_s rfl (hStoreL rfl rfl rfl rfl rfl rfl rfl rfl) ?_; rintro _ _ _ ⟨rfl, rfl⟩
  refine jl_nil ?_
  refine jT ?_
  refine jc_seq ?_
  refine jc_seq ?_
  refine jc_region ?_
  refine jl_q rfl rfl (qFieldAddr rfl rfl rfl rfl rfl) ?_
  refine jl_q rfl rfl (qLd rfl rfl rfl rfl (CJ.loc rfl)) ?_
  refine js rfl (fun h27 => ?_) (fun h27 => ?_)
  ·refine jl_nil ?_
   refine jT ?_
   refine jc_yes rfl ?_
   refine jc_exit ?_
   refine jTx ?_
   refine jBx ?_
   refine jT ?_
   refine jc_region ?_
   refine ja rfl (by omega) ?_
   refine jp rfl ?_
   refine jl_nil ?_
   refine j_again (k + 1, Mk, Lk) (Keep.cons (t := 0) rfl (Keep.cons (t := 3) rfl (Keep.cons (t := 6) rfl (Keep.cons (t := 19) rfl (Keep.cons (t := 20) rfl (Keep.cons (t := 21) rfl Keep.nil)))))) ⟨by show k + 1 ≤ xs.length; omega, hMk, by show BOwn _ _ _ (shareL s (xs.take (k + 1))); rw [shareL_step hk1, if_pos h27]; exact hB⟩ (by show xs.length - (k + 1) < xs.length - k; omega) (fun _ h => h.fewer (by simp))
  ·refine jl_nil ?_
   refine jT ?_
   refine jc_no rfl ?_
   refine jc_skip ?_
   refine jT ?_
   refine jc_seq ?_
   refine jc_region ?_
   refine jp rfl ?_
   refine jl_q rfl rfl (qFieldAddr rfl rfl rfl rfl rfl) ?_
   refine jl_q rfl rfl (qLd rfl rfl rfl rfl (CJ.loc rfl)) ?_
   have hkr : ((xs[k].ref.toNat : Nat) : Int) = xs[k].ref := Int.toNat_of_nonneg (by omega)
   refine jl_h rfl rfl (hCall rfl rfl rfl rfl rfl (by kernel_rfl) (by have := share_spec (shareL s (xs.take k)) xs[k].ref.toNat bb (by omega) (hsh k hk1 h27) Mk Lk hB; rwa [hkr] at this)) ?_; rintro _ Mn _ ⟨hMn, R', rfl, ⟨rfl, hB2⟩⟩
   refine jp rfl ?_
   refine jl_nil ?_
   refine jT ?_
   refine jc_seq ?_
   refine jc_region ?_
   refine jp rfl ?_
   refine jf rfl (decide_eq_false (by omega)) ?_
   refine jl_nil ?_
   refine jT ?_
   refine jc_no rfl ?_
   refine jc_skip ?_
   refine jB ?_
   refine jT ?_
   refine jc_region ?_
   refine ja rfl (by omega) ?_
   refine jp rfl ?_
   refine jl_nil ?_
   refine j_again (k + 1, Mn, R') (Keep.cons (t := 0) rfl (Keep.cons (t := 3) rfl (Keep.cons (t := 6) rfl (Keep.cons (t := 19) rfl (Keep.cons (t := 20) rfl (Keep.cons (t := 21) rfl Keep.nil)))))) ⟨by show k + 1 ≤ xs.length; omega, hMk.trans hMn, by show BOwn _ _ _ (shareL s (xs.take (k + 1))); rw [shareL_step hk1, if_neg h27]; exact hB2⟩ (by show xs.length - (k + 1) < xs.length - k; omega) (fun w h => (h.perm List.perm_append_comm).fewer (by simp))
 ·refine jl_nil ?_
  refine jT ?_
  refine jc_seq ?_
  refine jc_no rfl ?_
  refine jc_exit ?_
  refine jTx ?_
  refine jTx ?_
  refine jBx ?_
  refine jT ?_
  refine jc_seq ?_
  refine jc_region ?_
  refine jp rfl ?_
  refine jl_nil ?_
  refine jT ?_
  refine jc_seq ?_
  refine jc_block ?_
  obtain rfl : k = xs.length := by omega
  rw [List.take_length] at hB
  obtain ⟨t, ht⟩ : ∃ t, t = shareL s xs := ⟨_, rfl⟩
  obtain ⟨hq1, hq2, hq3, hq4⟩ := shareL_same s xs
  rw [← ht] at hB hat hq1 hq2 hq3 hq4
  obtain ⟨bv, wv, na, nc, lw, Rw, Rn, rfl, g2, g3, g4, g5⟩ := hB
  obtain ⟨wa, wc, rfl⟩ := g5.form
  have htn : t.now.length = 256 := by rw [hq1]; exact hn256
  have htl : t.last.length = 256 := by rw [hq3]; exact hl256
  have htw : t.waits.length < 4096 := by rw [hq2]; exact hwl
  obtain ⟨ng, ncap, ncur, e0, e1, _⟩ := g4.open (by omega)
  cases e0; cases e1
  obtain ⟨la, lc, rfl, hlc, hls⟩ := id g3
  obtain ⟨lb, lo, e0, hlx⟩ := hls.open (by intro e; have := congrArg List.length e; rw [bcells_len, List.length_nil] at this; omega)
  subst e0
  refine jc_loopK (α := Nat) (fun j => [(0, .pointer (some ⟨bb, 0, none⟩)), (4, .int .i64 (j : Int)), (6, .slice sa6 (ndB lv xs).length sc6)]) (fun _ => Mk) (fun _ => (b3, .cells [.int .i64 lv, .slice a xs.length c].toArray 73 (0, 0)) :: (bb, .cells [bv, .slice wa t.waits.length wc, .slice (some ⟨ng, 0, none⟩) t.now.length nc, .slice (some ⟨lb, lo, none⟩) t.last.length lc].toArray TBn (0, 0)) :: (Rw ++ [(ng, .cells ncur 5 (0, 0))])) (fun j => j ≤ 256 ∧ frAt t (256 - j) j = mkAt t) (fun j => 256 - j)
   8 (Keep.cons (t := 0) rfl (Keep.cons (t := 4) rfl (Keep.cons (t := 6) rfl Keep.nil))) ⟨by omega, rfl⟩ (fun _ h => h) ?_
  rintro j ⟨hj, hI⟩
  try dsimp only at hj hI ⊢
  have hor : bOr .u8 ((t.now.getD j 0).toNat : Int) ((t.last.getD j 0).toNat : Int) = ((t.now.getD j 0 ||| t.last.getD j 0).toNat : Int) := bor_u8 _ _
  refine jc_seq ?_
  refine jc_seq ?_
  refine jc_draw [(0, true), (1, true), (2, true), (3, true), (4, true), (5, true), (6, true), (7, true), (8, true), (9, true), (10, true), (11, true), (12, true), (13, true), (14, true), (15, true), (16, true), (17, true), (18, true), (19, true), (20, true), (21, true)] _ (by kernel_rfl) (by kernel_rfl) (by kernel_rfl) rfl (fun _ h => h) ?_
  refine dp rfl rfl ?_
  refine ds rfl rfl (fun h37 => ?_) (fun h37 => ?_)
  ·iterate 2 refine dp rfl rfl ?_
   refine jd_q rfl rfl rfl (qNilCheck rfl rfl rfl) ?_
   refine jd_q rfl rfl rfl (qFieldAddr rfl rfl rfl rfl rfl) ?_
   refine jd_q rfl rfl rfl (qFieldAddr rfl rfl rfl rfl rfl) ?_
   refine jd_q rfl rfl rfl (qLd rfl rfl rfl rfl (CJ.loc rfl)) ?_
   refine dp rfl rfl ?_
   refine jd_q rfl rfl rfl (qIdxS rfl rfl rfl rfl (by omega)) ?_
   have hjn : (bcells t.now)[j]? = some (.int .u8 ((t.now.getD j 0).toNat : Int)) := bget (by omega)
   have hjl : (bcells t.last)[j]? = some (.int .u8 ((t.last.getD j 0).toNat : Int)) := bget (by omega)
   refine jd_q rfl rfl rfl (qLd rfl rfl rfl rfl (by rw [Nat.mul_one, Nat.zero_add]; exact g4.cj (by simp) hjn)) ?_
   refine dp rfl rfl ?_
   refine jd_q rfl rfl rfl (qNilCheck rfl rfl rfl) ?_
   refine jd_q rfl rfl rfl (qFieldAddr rfl rfl rfl rfl rfl) ?_
   refine jd_q rfl rfl rfl (qFieldAddr rfl rfl rfl rfl rfl) ?_
   refine jd_q rfl rfl rfl (qLd rfl rfl rfl rfl (CJ.loc rfl)) ?_
   refine dp rfl rfl ?_
   refine jd_q rfl rfl rfl (qIdxS rfl rfl rfl rfl (by omega)) ?_
   refine jd_q rfl rfl rfl (qLd rfl rfl rfl rfl ((hlx _ _ (by rw [Nat.mul_one]; exact hjl)).cj _)) ?_
   refine jd_q rfl rfl rfl (qBits rfl rfl rfl rfl rfl) ?_
   refine ds rfl rfl (fun h56 => ?_) (fun h56 => ?_)
   ·refine dp rfl rfl ?_
    refine jd_nil ?_
    refine jPn ?_
    refine jT ?_
    refine jc_yes rfl ?_
    refine jc_skip ?_
    refine jT ?_
    refine jc_block ?_
    refine jc_region ?_
    refine jp rfl ?_
    refine ja rfl (by omega) ?_
    refine jp rfl ?_
    refine jl_nil ?_
    refine jB ?_
    have hnf : ¬ freeB t j := fun hf => h56 (by rw [hor, (or_zero _ _).2 hf]; rfl)
    refine j_again (j + 1) (Keep.cons (t := 0) rfl (Keep.cons (t := 4) rfl (Keep.cons (t := 6) rfl Keep.nil))) ⟨by omega, by rw [← frAt_on (by omega) hnf]; exact hI⟩ (by omega) (fun _ h => h)
   ·refine dp rfl rfl ?_
    refine jd_nil ?_
    refine jPn ?_
    refine jT ?_
    refine jc_no rfl ?_
    refine jc_exit ?_
    refine jTx ?_
    refine jTx ?_
    refine jBx ?_
    refine jT ?_
    refine jc_seq ?_
    refine jc_seq ?_
    refine jc_region ?_
    refine jp rfl ?_
    refine jf rfl (decide_eq_false (by omega)) ?_
    iterate 2 refine jp rfl ?_
    refine jl_q rfl rfl (qNilCheck rfl rfl rfl) ?_
    refine jl_q rfl rfl (qFieldAddr rfl rfl rfl rfl rfl) ?_
    refine jl_q rfl rfl (qFieldAddr rfl rfl rfl rfl rfl) ?_
    refine jl_q rfl rfl (qFieldAddr rfl rfl rfl rfl rfl) ?_
    refine jl_q rfl rfl (qLd rfl rfl rfl rfl (CJ.loc rfl)) ?_
    refine jl_q rfl rfl (qLen rfl rfl rfl) ?_
    refine jf rfl (decide_eq_false (by omega)) ?_
    refine jp rfl ?_
    refine jl_nil ?_
    refine jT ?_
    refine jc_no rfl ?_
    refine jc_skip ?_
    refine jT ?_
    refine jc_seq ?_
    refine jc_region ?_
    iterate 2 refine jp rfl ?_
    refine jl_q rfl rfl (qNilCheck rfl rfl rfl) ?_
    refine jl_q rfl rfl (qFieldAddr rfl rfl rfl rfl rfl) ?_
    refine jl_q rfl rfl (qFieldAddr rfl rfl rfl rfl rfl) ?_
    refine jl_q rfl rfl (qFieldAddr rfl rfl rfl rfl rfl) ?_
    refine jl_q rfl rfl (qLd rfl rfl rfl rfl (CJ.loc rfl)) ?_
    iterate 2 refine jp rfl ?_
    refine jl_q rfl rfl (qBuild (cs := [_, _]) rfl rfl rfl (by rfl)) ?_
    refine jl_h rfl rfl (hBuildSlice (cs := [_, _]) rfl rfl rfl (by rfl) (by rfl) (by rfl)) ?_; rintro _ _ _ ⟨b82, rfl, rfl, rfl⟩
    obtain ⟨wps, hw1, hw2, hw3⟩ := id g5
    have hfr : freeB t j := (or_zero _ _).1 (UInt8.toNat.inj (by have := Classical.not_not.1 h56; rw [hor] at this; simpa using this))
    have hje : mkAt t = j := by rw [← hI, frAt_is (by omega) hfr]
    refine jl_h rfl rfl (hAppendE (R := Rw) (m := 1) (news := [.int .i64 (j : Int), .slice sa6 (ndB lv xs).length sc6]) rfl rfl rfl rfl hw3 rfl (fun i v hv => CJ.loc (by simpa using hv)) rfl (by rfl) (by simp [Value.oneCell']) (by omega) (by omega) (by omega)) ?_; rintro _ _ _ ⟨rfl, Rw', rfl, hown'⟩
    obtain ⟨wa2, wc2, rfl⟩ := hown'.form
    refine jl_q rfl rfl (qNilCheck rfl rfl rfl) ?_
    refine jl_q rfl rfl (qFieldAddr rfl rfl rfl rfl rfl) ?_
    refine jl_q rfl rfl (qFieldAddr rfl rfl rfl rfl rfl) ?_
    refine jl_q rfl rfl (qFieldAddr rfl rfl rfl rfl rfl) ?_
    refine jl_s rfl (hStoreL rfl rfl rfl rfl rfl rfl rfl rfl) ?_; rintro _ _ _ ⟨rfl, rfl⟩
    refine jl_nil ?_
    refine jT ?_
    refine jc_seq ?_
    refine jc_region ?_
    refine jp rfl ?_
    refine jl_q rfl rfl (qNilCheck rfl rfl rfl) ?_
    refine jl_q rfl rfl (qFieldAddr rfl rfl rfl rfl rfl) ?_
    refine jl_q rfl rfl (qFieldAddr rfl rfl rfl rfl rfl) ?_
    refine jl_q rfl rfl (qLd rfl rfl rfl rfl (CJ.loc rfl)) ?_
    refine jp rfl ?_
    refine jl_q rfl rfl (qIdxS rfl rfl rfl rfl (by omega)) ?_
    refine jl_s rfl (hStoreOwn (u := .int .u8 1) rfl rfl rfl rfl rfl rfl g4 rfl (by omega)) ?_; rintro _ _ _ ⟨rfl, Rn', rfl, hnow'⟩
    refine jl_nil ?_
    refine jT ?_
    refine jc_seq ?_
    refine jc_region ?_
    iterate 3 refine jp rfl ?_
    refine jl_nil ?_
    refine jT ?_
    refine jc_ret ?_
    refine jq_weak (M' := Mk) (L' := (bb, .cells [bv, .slice wa2 (t.waits.length + 1) wc2, .slice (some ⟨ng, 0, none⟩) t.now.length nc, .slice (some ⟨lb, lo, none⟩) t.last.length lc].toArray TBn (0, 0)) :: (Rw' ++ Rn')) (fun w h => ?_) ?_
    ·have h2 := h.perm perm3
     exact h2.fewer (.cons _ (.cons _ (.refl _)))
    refine jr2 rfl rfl rfl ?_
    have hT : mkS s lv xs = addS t j (ndB lv xs) := by unfold mkS; rw [← ht, hje]
    refine ⟨by rw [← ht, hje], ?_⟩
    rw [hT]
    have hnl : (addS t j (ndB lv xs)).now.length = t.now.length := by unfold addS; simp
    have hwn : (addS t j (ndB lv xs)).waits.length = t.waits.length + 1 := by unfold addS; simp
    refine ⟨bv, _, _, nc, _, Rw', Rn', by rw [hnl], g2, g3, ?_, wps ++ [(((j : Int), ndB lv xs), .slice sa6 (ndB lv xs).length sc6)], ?_, ?_, .inl ?_⟩
    ·rw [hnl]
     have e : bcells (addS t j (ndB lv xs)).now = (bcells t.now).set j (.int .u8 1) := by unfold addS bcells; rw [List.map_set]; rfl
     rw [e]; have := hnow'; rw [Nat.mul_one, Nat.zero_add] at this; exact this
    ·rw [List.map_append, hw1]; rfl
    ·intro p hp; rcases List.mem_append.1 hp with hp | hp
     ·exact hw2 p hp
     ·rw [List.mem_singleton.1 hp]; exact hs6.mono hMk
    ·rw [hwn, List.flatMap_append]; exact hown'
  ·exfalso; obtain rfl : j = 256 := by omega
   have : mkAt t = 256 := hI.symm
   omega

end Go.Proofs.YtckdncmjkloebaaGreat
