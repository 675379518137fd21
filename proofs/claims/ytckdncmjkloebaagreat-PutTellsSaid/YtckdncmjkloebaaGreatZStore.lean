/- Walks: what a store is; whether one may be. -/
import Derived.Test.YtckdncmjkloebaaGreatZRead
namespace Go.Proofs.YtckdncmjkloebaaGreat
set_option linter.unusedVariables false
set_option linter.unusedSimpArgs false
open Go.RowKit

/-- node.Read, whatever the bytes -/
theorem nread_new (v : Value) (blk : List By) (M : Mem) (hv : BS M v blk) (hn : blk.length ≤ 100000) : SpecL Tryz.prog 97 #[v] M [] fun u M' L' => NdPost blk u (newOf M M') ∧ L' = [] := by
 by_cases h : openE blk = 0
 ·by_cases hm : ((blk.drop 4).getD 0 0).toNat = 78
  ·by_cases hm2 : ((blk.drop 4).getD 2 0).toNat ≤ 5
   ·exact nread_main v blk M hv hn h hm hm2
   ·exact nread_mark2 v blk M hv hn h hm (by omega)
  ·exact nread_mark1 v blk M hv hn h hm
 ·exact nread_open v blk M hv hn h
theorem NdPost.mono {blk : List By} {u : Value} {M M' : Mem} (h : NdPost blk u M) (hM : MLe M M') : NdPost blk u M' := by
 unfold NdPost at *
 split at h
 ·obtain ⟨s, e, h2⟩ := h; exact ⟨s, e, h2.mono hM⟩
 ·exact h
theorem nread_spec (v : Value) (blk : List By) (M : Mem) (hv : BS M v blk) (hn : blk.length ≤ 100000) : SpecL Tryz.prog 97 #[v] M [] fun u M' L' => NdPost blk u M' ∧ L' = [] :=
 (nread_new v blk M hv hn).mono fun _ _ _ ⟨h1, h2⟩ => ⟨h1.mono (newOf_le _ _), h2⟩

abbrev Wt := Int × List By
structure Sto where
 blocks : List (List By)
 waits : List Wt
 now : List By
 last : List By
def wcell (p : Wt × Value) : List Value := [.int .i64 p.1.1, p.2]
theorem wcell_len (p : Wt × Value) : (wcell p).length = 2 := rfl
abbrev wtc (w : Wt) (va : Option Addr) (vc : Nat) : List Value := [.int .i64 w.1, .slice va w.2.length vc]
/-- a slice of bytes' slices, read-only -/
def LS (M : Mem) (v : Value) (bs : List (List By)) : Prop := ∃ a c, ∃ ps : List (List By × Value), v = .slice a bs.length c ∧ bs.length ≤ c ∧ SM M a (ps.map (·.2)) ∧ ps.map (·.1) = bs ∧ ∀ p ∈ ps, BS M p.2 p.1
/-- a slice of writes -/
def WS (M : Mem) (v : Value) (ws : List Wt) : Prop := ∃ a c, ∃ ps : List (Wt × Value), v = .slice a ws.length c ∧ ws.length ≤ c ∧ SM M a (ps.flatMap wcell) ∧ ps.map (·.1) = ws ∧ ∀ p ∈ ps, BS M p.2 p.1.2
theorem LS.mono {M M' : Mem} {v : Value} {xs : List (List By)} (h : LS M v xs) (hM : MLe M M') : LS M' v xs := by
 obtain ⟨a, c, ps, h1, h2, h3, h4, h5⟩ := h; exact ⟨a, c, ps, h1, h2, h3.mono hM, h4, fun p hp => (h5 p hp).mono hM⟩
theorem WS.mono {M M' : Mem} {v : Value} {xs : List Wt} (h : WS M v xs) (hM : MLe M M') : WS M' v xs := by
 obtain ⟨a, c, ps, h1, h2, h3, h4, h5⟩ := h; exact ⟨a, c, ps, h1, h2, h3.mono hM, h4, fun p hp => (h5 p hp).mono hM⟩
theorem blocks_get {M : Mem} {sb so : Nat} {bs : List (List By)} {ps : List (List By × Value)} (hx : ∀ i u, (ps.map (·.2))[i]? = some u → CM M sb (so + i) u) (hp : ps.map (·.1) = bs) (hb : ∀ p ∈ ps, BS M p.2 p.1) {k : Nat} (hk : k < bs.length) :
  ∃ va vc, CM M sb (so + k * 1) (.slice va bs[k].length vc) ∧ bs[k].length ≤ vc ∧ SM M va (bcells bs[k]) := by
 have hk2 : k < ps.length := by rw [← hp, List.length_map] at hk; exact hk
 have hxk : bs[k] = ps[k].1 := by simp [← hp]
 obtain ⟨va, vc, hv, hc, hs⟩ := hb ps[k] (List.getElem_mem hk2)
 rw [← hxk] at hv hc hs
 refine ⟨va, vc, ?_, hc, hs⟩
 rw [Nat.mul_one]
 exact hx k _ (by rw [List.getElem?_map, List.getElem?_eq_getElem hk2, Option.map_some, hv])
theorem waits_get {M : Mem} {sb so : Nat} {ws : List Wt} {ps : List (Wt × Value)} (hx : ∀ i u, (ps.flatMap wcell)[i]? = some u → CM M sb (so + i) u) (hp : ps.map (·.1) = ws) (hb : ∀ p ∈ ps, BS M p.2 p.1.2) {k : Nat} (hk : k < ws.length) :
  ∃ va vc, (∀ i v, (wtc ws[k] va vc)[i]? = some v → CM M sb (so + k * 2 + i) v) ∧ ws[k].2.length ≤ vc ∧ SM M va (bcells ws[k].2) := by
 have hk2 : k < ps.length := by rw [← hp, List.length_map] at hk; exact hk
 have hxk : ws[k] = ps[k].1 := by simp [← hp]
 obtain ⟨va, vc, hv, hc, hs⟩ := hb ps[k] (List.getElem_mem hk2)
 rw [← hxk] at hv hc hs
 refine ⟨va, vc, fun i v hv' => flat_cm wcell 2 wcell_len hx (show ps[k]? = some ps[k] by simp [hk2]) i v ?_, hc, hs⟩
 rw [← hv']
 unfold wcell wtc
 rw [← hxk, hv]

/-! ### may it be? -/
def dkOk (bs : List (List By)) (ws : List Wt) : Prop := bs.length = 256 ∧ ws.length ≤ 4096 ∧ (∀ b ∈ bs, b.length = 128) ∧ ∀ w ∈ ws, 0 ≤ w.1 ∧ w.1 < 256 ∧ w.2.length = 128
instance (bs : List (List By)) (ws : List Wt) : Decidable (dkOk bs ws) := by unfold dkOk; exact inferInstance
def dkChk (bs : List (List By)) (ws : List Wt) : Int := if dkOk bs ws then 0 else 8
theorem all_on {α : Type} {p : α → Prop} {xs : List α} {k : Nat} (hk : k < xs.length) (h : ∀ x ∈ xs.take k, p x) (h1 : p xs[k]) : ∀ x ∈ xs.take (k + 1), p x := by
 rw [List.take_succ_eq_append_getElem hk]
 intro x hx
 rcases List.mem_append.1 hx with hx | hx
 ·exact h x hx
 ·rw [List.mem_singleton.1 hx]; exact h1

set_option maxHeartbeats 1000000 in
theorem dcheck_walk (bs : List (List By)) (ws : List Wt) (a1 : Option Addr) (c1 : Nat) (ps1 : List (List By × Value)) (a2 : Option Addr) (c2 : Nat) (ps2 : List (Wt × Value)) (M : Mem) (hc1 : bs.length ≤ c1) (hs1 : SM M a1 (ps1.map (·.2))) (hp1 : ps1.map (·.1) = bs) (hb1 : ∀ p ∈ ps1, BS M p.2 p.1) (hc2 : ws.length ≤ c2) (hs2 : SM M a2 (ps2.flatMap wcell)) (hp2 : ps2.map (·.1) = ws) (hb2 : ∀ p ∈ ps2, BS M p.2 p.1.2) :
  SpecL Tryz.prog 94 #[.agg #[.slice a1 bs.length c1, .slice a2 ws.length c2]] M [] fun v _ _ => v = .int .i64 (dkChk bs ws) := by
 refine spec_body (vs := [_]) 50 _ Tryz.func94 rfl Tryz.ntmps94 rfl rfl ?_; intro W
 refine jc_seq ?_
 refine jc_region ?_
 refine jl_h rfl rfl (hBox (cs := [_, _]) rfl rfl rfl rfl) ?_; rintro _ _ _ ⟨b1, rfl, rfl, rfl⟩
 refine jp rfl ?_
 refine jl_nil ?_
 refine jT ?_
 refine jc_seq ?_
 refine jc_seq ?_
 refine jc_region ?_
 refine jl_q rfl rfl (qFieldAddr rfl rfl rfl rfl rfl) ?_
 refine jl_q rfl rfl (qLd rfl rfl rfl rfl (CJ.loc rfl)) ?_
 refine jl_q rfl rfl (qLen rfl rfl rfl) ?_
 refine js rfl (fun h10 => ?_) (fun h10 => ?_)
 ·iterate 6 refine jp rfl ?_
  refine jl_nil ?_
  refine jT ?_
  refine jc_yes rfl ?_
  refine jc_seq ?_
  refine jc_region ?_
  refine jp rfl ?_
  refine jl_nil ?_
  refine jT ?_
  refine jc_ret ?_
  refine jTr ?_
  refine jr1 rfl rfl ?_
  exact congrArg _ (Eq.symm (if_neg (fun ⟨q1, q2, q3, q4⟩ => by omega)))
 ·refine jp rfl ?_
  refine jl_q rfl rfl (qFieldAddr rfl rfl rfl rfl rfl) ?_
  refine jl_q rfl rfl (qLd rfl rfl rfl rfl (CJ.loc rfl)) ?_
  refine jl_q rfl rfl (qLen rfl rfl rfl) ?_
  refine js rfl (fun h15 => ?_) (fun h15 => ?_)
  ·refine jp rfl ?_
   refine jl_nil ?_
   refine jT ?_
   refine jc_yes rfl ?_
   refine jc_seq ?_
   refine jc_region ?_
   refine jp rfl ?_
   refine jl_nil ?_
   refine jT ?_
   refine jc_ret ?_
   refine jTr ?_
   refine jr1 rfl rfl ?_
   exact congrArg _ (Eq.symm (if_neg (fun ⟨q1, q2, q3, q4⟩ => by omega)))
  ·refine jp rfl ?_
   refine jl_nil ?_
   refine jT ?_
   refine jc_no rfl ?_
   refine jc_skip ?_
   refine jT ?_
   refine jc_seq ?_
   refine jc_seq ?_
   refine jc_region ?_
   refine jl_q rfl rfl (qFieldAddr rfl rfl rfl rfl rfl) ?_
   refine jl_q rfl rfl (qLd rfl rfl rfl rfl (CJ.loc rfl)) ?_
   refine jl_q rfl rfl (qLen rfl rfl rfl) ?_
   refine jp rfl ?_
   refine jl_nil ?_
   refine jT ?_
   refine jc_block ?_
   refine jc_loopK (α := Nat) (fun k => [(1, .pointer (some ⟨b1, 0, none⟩)), (18, .slice a1 bs.length c1), (19, .int .i64 bs.length), (20, .int .i64 k)]) (fun _ => M) (fun _ => [(b1, .cells [.slice a1 bs.length c1, .slice a2 ws.length c2].toArray 25 (0, 0))]) (fun k => k ≤ bs.length ∧ ∀ b ∈ bs.take k, b.length = 128) (fun k => bs.length - k)
    0 (Keep.cons (t := 1) rfl (Keep.cons (t := 18) rfl (Keep.cons (t := 19) rfl (Keep.cons (t := 20) rfl Keep.nil)))) ⟨Nat.zero_le _, fun _ h => by cases h⟩ (fun _ h => h) ?_
   rintro k ⟨hk, hI⟩
   try dsimp only at hk hI ⊢
   refine jc_seq ?_
   refine jc_region ?_
   refine js rfl (fun h21 => ?_) (fun h21 => ?_)
   ·refine jl_nil ?_
    refine jT ?_
    refine jc_seq ?_
    refine jc_yes rfl ?_
    refine jc_skip ?_
    refine jT ?_
    refine jc_seq ?_
    refine jc_block ?_
    refine jc_seq ?_
    refine jc_region ?_
    have hk1 : k < bs.length := by omega
    obtain ⟨sb, so, e0, hx⟩ := hs1.open (by intro e; have := congrArg List.length e; rw [List.length_map, List.length_nil] at this; have h2 := congrArg List.length hp1; rw [List.length_map] at h2; omega)
    subst e0
    obtain ⟨va, vc, hcl, hvc, hvs⟩ := blocks_get hx hp1 hb1 hk1
    refine jl_q rfl rfl (qIdxS rfl rfl rfl rfl (by omega)) ?_
    refine jl_q rfl rfl (qLd rfl rfl rfl rfl (hcl.cj _)) ?_
    refine jp rfl ?_
    refine jl_nil ?_
    refine jT ?_
    refine jc_seq ?_
    refine jc_region ?_
    refine jp rfl ?_
    refine jl_q rfl rfl (qLen rfl rfl rfl) ?_
    refine js rfl (fun h26 => ?_) (fun h26 => ?_)
    ·refine jl_nil ?_
     refine jT ?_
     refine jc_yes rfl ?_
     refine jc_seq ?_
     refine jc_region ?_
     refine jp rfl ?_
     refine jl_nil ?_
     refine jT ?_
     refine jc_ret ?_
     refine jBr ?_
     refine jTr ?_
     refine jTr ?_
     refine jBr ?_
     refine jTr ?_
     refine jr1 rfl rfl ?_
     exact congrArg _ (Eq.symm (if_neg (fun ⟨q1, q2, q3, q4⟩ => by have := q3 bs[k] (List.getElem_mem _); omega)))
    ·refine jl_nil ?_
     refine jT ?_
     refine jc_no rfl ?_
     refine jc_skip ?_
     refine jB ?_
     refine jT ?_
     refine jc_region ?_
     refine ja rfl (by omega) ?_
     refine jp rfl ?_
     refine jl_nil ?_
     refine j_again (k + 1) (Keep.cons (t := 1) rfl (Keep.cons (t := 18) rfl (Keep.cons (t := 19) rfl (Keep.cons (t := 20) rfl Keep.nil)))) ⟨by omega, all_on hk1 hI (by omega)⟩ (by omega) (fun _ h => h.fewer (by simp))
   ·refine jl_nil ?_
    refine jT ?_
    refine jc_seq ?_
    refine jc_no rfl ?_
    refine jc_exit ?_
    refine jTx ?_
    refine jTx ?_
    refine jBx ?_
    refine jT ?_
    refine jc_seq ?_
    refine jc_seq ?_
    refine jc_region ?_
    refine jl_q rfl rfl (qFieldAddr rfl rfl rfl rfl rfl) ?_
    refine jl_q rfl rfl (qLd rfl rfl rfl rfl (CJ.loc rfl)) ?_
    refine jl_q rfl rfl (qLen rfl rfl rfl) ?_
    refine jp rfl ?_
    refine jl_nil ?_
    refine jT ?_
    refine jc_block ?_
    obtain rfl : k = bs.length := by omega
    rw [List.take_length] at hI
    have hB := hI; clear hI
    refine jc_loopK (α := Nat) (fun k => [(1, .pointer (some ⟨b1, 0, none⟩)), (29, .slice a2 ws.length c2), (30, .int .i64 ws.length), (31, .int .i64 k)]) (fun _ => M) (fun _ => [(b1, .cells [.slice a1 bs.length c1, .slice a2 ws.length c2].toArray 25 (0, 0))]) (fun k => k ≤ ws.length ∧ ∀ w ∈ ws.take k, 0 ≤ w.1 ∧ w.1 < 256 ∧ w.2.length = 128) (fun k => ws.length - k)
     0 (Keep.cons (t := 1) rfl (Keep.cons (t := 29) rfl (Keep.cons (t := 30) rfl (Keep.cons (t := 31) rfl Keep.nil)))) ⟨Nat.zero_le _, fun _ h => by cases h⟩ (fun _ h => h) ?_
    rintro k ⟨hk, hI⟩
    try dsimp only at hk hI ⊢
    refine jc_seq ?_
    refine jc_region ?_
    refine js rfl (fun h32 => ?_) (fun h32 => ?_)
    ·refine jl_nil ?_
     refine jT ?_
     refine jc_seq ?_
     refine jc_yes rfl ?_
     refine jc_skip ?_
     refine jT ?_
     refine jc_seq ?_
     refine jc_block ?_
     refine jc_seq ?_
     refine jc_region ?_
     have hk1 : k < ws.length := by omega
     obtain ⟨sb, so, e0, hx⟩ := hs2.open (by intro e; have := congrArg List.length e; rw [flat_len wcell 2 wcell_len, List.length_nil] at this; have h2 := congrArg List.length hp2; rw [List.length_map] at h2; omega)
     subst e0
     obtain ⟨va, vc, hcl, hvc, hvs⟩ := waits_get hx hp2 hb2 hk1
     refine jl_q rfl rfl (qIdxS rfl rfl rfl rfl (by omega)) ?_
     refine jl_q rfl rfl (qLdA (cs := wtc ws[k] va vc) rfl rfl rfl rfl rfl (fun i v hv => (hcl i v hv).cj _)) ?_
     refine jl_h rfl rfl (hAlloc rfl rfl) ?_; rintro _ _ _ ⟨b6, rfl, rfl, rfl⟩
     refine jl_s rfl (hStoreL rfl rfl rfl rfl rfl rfl rfl rfl) ?_; rintro _ _ _ ⟨rfl, rfl⟩
     refine jl_nil ?_
     refine jT ?_
     refine jc_seq ?_
     refine jc_region ?_
     refine jl_q rfl rfl (qFieldAddr rfl rfl rfl rfl rfl) ?_
     refine jl_q rfl rfl (qLd rfl rfl rfl rfl (CJ.loc rfl)) ?_
     refine js rfl (fun h37 => ?_) (fun h37 => ?_)
     ·iterate 11 refine jp rfl ?_
      refine jl_nil ?_
      refine jT ?_
      refine jc_yes rfl ?_
      refine jc_seq ?_
      refine jc_region ?_
      refine jp rfl ?_
      refine jl_nil ?_
      refine jT ?_
      refine jc_ret ?_
      refine jBr ?_
      refine jTr ?_
      refine jTr ?_
      refine jBr ?_
      refine jTr ?_
      refine jr1 rfl rfl ?_
      exact congrArg _ (Eq.symm (if_neg (fun ⟨q1, q2, q3, q4⟩ => by have := q4 ws[k] (List.getElem_mem _); omega)))
     ·refine jp rfl ?_
      refine jl_q rfl rfl (qFieldAddr rfl rfl rfl rfl rfl) ?_
      refine jl_q rfl rfl (qLd rfl rfl rfl rfl (CJ.loc rfl)) ?_
      refine js rfl (fun h41 => ?_) (fun h41 => ?_)
      ·iterate 7 refine jp rfl ?_
       refine jl_nil ?_
       refine jT ?_
       refine jc_yes rfl ?_
       refine jc_seq ?_
       refine jc_region ?_
       refine jp rfl ?_
       refine jl_nil ?_
       refine jT ?_
       refine jc_ret ?_
       refine jBr ?_
       refine jTr ?_
       refine jTr ?_
       refine jBr ?_
       refine jTr ?_
       refine jr1 rfl rfl ?_
       exact congrArg _ (Eq.symm (if_neg (fun ⟨q1, q2, q3, q4⟩ => by have := q4 ws[k] (List.getElem_mem _); omega)))
      ·iterate 2 refine jp rfl ?_
       refine jl_q rfl rfl (qFieldAddr rfl rfl rfl rfl rfl) ?_
       refine jl_q rfl rfl (qLd rfl rfl rfl rfl (CJ.loc rfl)) ?_
       refine jl_q rfl rfl (qLen rfl rfl rfl) ?_
       refine js rfl (fun h47 => ?_) (fun h47 => ?_)
       ·refine jp rfl ?_
        refine jl_nil ?_
        refine jT ?_
        refine jc_yes rfl ?_
        refine jc_seq ?_
        refine jc_region ?_
        refine jp rfl ?_
        refine jl_nil ?_
        refine jT ?_
        refine jc_ret ?_
        refine jBr ?_
        refine jTr ?_
        refine jTr ?_
        refine jBr ?_
        refine jTr ?_
        refine jr1 rfl rfl ?_
        exact congrArg _ (Eq.symm (if_neg (fun ⟨q1, q2, q3, q4⟩ => by have := q4 ws[k] (List.getElem_mem _); omega)))
       ·refine jp rfl ?_
        refine jl_nil ?_
        refine jT ?_
        refine jc_no rfl ?_
        refine jc_skip ?_
        refine jB ?_
        refine jT ?_
        refine jc_region ?_
        refine ja rfl (by omega) ?_
        refine jp rfl ?_
        refine jl_nil ?_
        refine j_again (k + 1) (Keep.cons (t := 1) rfl (Keep.cons (t := 29) rfl (Keep.cons (t := 30) rfl (Keep.cons (t := 31) rfl Keep.nil)))) ⟨by omega, all_on hk1 hI ⟨by omega, by omega, by omega⟩⟩ (by omega) (fun _ h => h.fewer (by simp))
    ·refine jl_nil ?_
     refine jT ?_
     refine jc_seq ?_
     refine jc_no rfl ?_
     refine jc_exit ?_
     refine jTx ?_
     refine jTx ?_
     refine jBx ?_
     refine jT ?_
     refine jc_seq ?_
     refine jc_region ?_
     refine jp rfl ?_
     refine jl_nil ?_
     refine jT ?_
     refine jc_ret ?_
     refine jr1 rfl rfl ?_
     obtain rfl : k = ws.length := by omega
     rw [List.take_length] at hI
     exact congrArg _ (Eq.symm (if_pos ⟨by omega, by omega, hB, hI⟩))


theorem dcheck_spec (bs : List (List By)) (ws : List Wt) (u v : Value) (M : Mem) (h1 : LS M u bs) (h2 : WS M v ws) : SpecL Tryz.prog 94 #[.agg #[u, v]] M [] fun v _ _ => v = .int .i64 (dkChk bs ws) := by
 obtain ⟨a1, c1, ps1, rfl, hc1, hs1, hp1, hb1⟩ := h1
 obtain ⟨a2, c2, ps2, rfl, hc2, hs2, hp2, hb2⟩ := h2
 exact dcheck_walk bs ws a1 c1 ps1 a2 c2 ps2 M hc1 hs1 hp1 hb1 hc2 hs2 hp2 hb2

def ctOk (xs : List By) : Prop := xs.length = 256 ∧ noughts (xs.take 8) = true
instance (xs : List By) : Decidable (ctOk xs) := by unfold ctOk; exact inferInstance
def ctChk (xs : List By) : Int := if ctOk xs then 0 else 8

theorem ccheck_walk (xs : List By) (a : Option Addr) (c : Nat) (M : Mem) (hc : xs.length ≤ c) (hs : SM M a (bcells xs)) :
  SpecL Tryz.prog 95 #[.slice a xs.length c] M [] fun v _ _ => v = .int .i64 (ctChk xs) := by
 refine spec_body (vs := [_]) 12 _ Tryz.func95 rfl Tryz.ntmps95 rfl rfl ?_; intro W
 refine jc_seq ?_
 refine jc_region ?_
 refine jp rfl ?_
 refine jl_nil ?_
 refine jT ?_
 refine jc_seq ?_
 refine jc_seq ?_
 refine jc_region ?_
 refine jp rfl ?_
 refine jl_q rfl rfl (qLen rfl rfl rfl) ?_
 refine js rfl (fun h5 => ?_) (fun h5 => ?_)
 ·iterate 6 refine jp rfl ?_
  refine jl_nil ?_
  refine jT ?_
  refine jc_yes rfl ?_
  refine jc_seq ?_
  refine jc_region ?_
  refine jp rfl ?_
  refine jl_nil ?_
  refine jT ?_
  refine jc_ret ?_
  refine jTr ?_
  refine jr1 rfl rfl ?_
  exact congrArg _ (Eq.symm (if_neg (fun ⟨q1, q2⟩ => by omega)))
 ·iterate 2 refine jp rfl ?_
  have hl8 : (xs.take 8).length = 8 := by rw [List.length_take]; omega
  refine jl_q rfl rfl (qEq (qSl rfl rfl rfl (.no _) (.of (v := 8) rfl (by omega) rfl) (.no _) (by omega) (by simp)) (v' := .slice a (xs.take 8).length c) (by rw [hl8, slA_zero]; rfl)) ?_
  refine jl_q rfl rfl (qCall rfl rfl rfl rfl rfl (by kernel_rfl) (max_spec a c (xs.take 8) M (by have := hs.part (l := 0) (m := c) (s := 1) (by omega) 8; rw [slA_zero] at this; simpa [bcells, List.map_take] using this) (by omega) (by omega))) ?_
  refine js rfl (fun h10 => ?_) (fun h10 => ?_)
  ·refine jp rfl ?_
   refine jl_nil ?_
   refine jT ?_
   refine jc_yes rfl ?_
   refine jc_seq ?_
   refine jc_region ?_
   refine jp rfl ?_
   refine jl_nil ?_
   refine jT ?_
   refine jc_ret ?_
   refine jTr ?_
   refine jr1 rfl rfl ?_
   exact congrArg _ (Eq.symm (if_neg (fun ⟨q1, q2⟩ => by have := mxB_pos (xs := xs.take 8) (by omega); rw [q2, decide_eq_true h10] at this; cases this)))
  ·refine jp rfl ?_
   refine jl_nil ?_
   refine jT ?_
   refine jc_no rfl ?_
   refine jc_skip ?_
   refine jT ?_
   refine jc_seq ?_
   refine jc_region ?_
   refine jp rfl ?_
   refine jl_nil ?_
   refine jT ?_
   refine jc_ret ?_
   refine jr1 rfl rfl ?_
   exact congrArg _ (Eq.symm (if_pos ⟨by omega, by have := mxB_pos (xs := xs.take 8) (by omega); rw [decide_eq_false h10] at this; cases hn : noughts (xs.take 8) <;> simp_all⟩))


theorem ccheck_spec (xs : List By) (v : Value) (M : Mem) (h : BS M v xs) : SpecL Tryz.prog 95 #[v] M [] fun v _ _ => v = .int .i64 (ctChk xs) := by
 obtain ⟨a, c, rfl, hc, hs⟩ := h
 exact ccheck_walk xs a c M hc hs

/-- a store, read-only -/
structure ST (M : Mem) (v : Value) (s : Sto) : Prop where
 ex : ∃ b w n l, v = .agg #[b, w, n, l] ∧ LS M b s.blocks ∧ WS M w s.waits ∧ BS M n s.now ∧ BS M l s.last
theorem ST.mono {M M' : Mem} {v : Value} {s : Sto} (h : ST M v s) (hM : MLe M M') : ST M' v s := by
 obtain ⟨b, w, n, l, h1, h2, h3, h4, h5⟩ := h.ex; exact ⟨b, w, n, l, h1, h2.mono hM, h3.mono hM, h4.mono hM, h5.mono hM⟩
def stOk (s : Sto) : Prop := dkOk s.blocks s.waits ∧ ctOk s.now ∧ ctOk s.last
instance (s : Sto) : Decidable (stOk s) := by unfold stOk; exact inferInstance
def stChk (s : Sto) : Int := if stOk s then 0 else 8
theorem dk_not {bs : List (List By)} {ws : List Wt} (h : dkChk bs ws ≠ 0) : ¬ dkOk bs ws := fun k => h (if_pos k)
theorem ct_not {xs : List By} (h : ctChk xs ≠ 0) : ¬ ctOk xs := fun k => h (if_pos k)
theorem dk_is {bs : List (List By)} {ws : List Wt} (h : ¬ dkChk bs ws ≠ 0) : dkOk bs ws := Classical.byContradiction fun k => h (by unfold dkChk; rw [if_neg k]; decide)
theorem ct_is {xs : List By} (h : ¬ ctChk xs ≠ 0) : ctOk xs := Classical.byContradiction fun k => h (by unfold ctChk; rw [if_neg k]; decide)

theorem rcheck_walk (s : Sto) (b w n l : Value) (M : Mem) (h1 : LS M b s.blocks) (h2 : WS M w s.waits) (h3 : BS M n s.now) (h4 : BS M l s.last) :
  SpecL Tryz.prog 50 #[.agg #[b, w, n, l]] M [] fun v _ _ => v = .int .i64 (stChk s) := by
 refine spec_body (vs := [_]) 19 _ Tryz.func50 rfl Tryz.ntmps50 rfl rfl ?_; intro W
 refine jc_seq ?_
 refine jc_region ?_
 refine jl_h rfl rfl (hBox (cs := [_, _, _, _]) rfl rfl rfl rfl) ?_; rintro _ _ _ ⟨b1, rfl, rfl, rfl⟩
 refine jp rfl ?_
 refine jl_nil ?_
 refine jT ?_
 refine jc_seq ?_
 refine jc_seq ?_
 refine jc_region ?_
 refine jl_q rfl rfl (qFieldAddr rfl rfl rfl rfl rfl) ?_
 refine jl_q rfl rfl (qLdL rfl rfl rfl rfl rfl) ?_
 refine jl_q rfl rfl (qCall rfl rfl rfl rfl rfl (by kernel_rfl) (dcheck_spec s.blocks s.waits b w M h1 h2)) ?_
 refine js rfl (fun h6 => ?_) (fun h6 => ?_)
 ·iterate 12 refine jp rfl ?_
  refine jl_nil ?_
  refine jT ?_
  refine jc_yes rfl ?_
  refine jc_seq ?_
  refine jc_region ?_
  refine jp rfl ?_
  refine jl_nil ?_
  refine jT ?_
  refine jc_ret ?_
  refine jTr ?_
  refine jr1 rfl rfl ?_
  exact congrArg _ (Eq.symm (if_neg (fun q => dk_not h6 q.1)))
 ·refine jp rfl ?_
  refine jl_q rfl rfl (qFieldAddr rfl rfl rfl rfl rfl) ?_
  refine jl_q rfl rfl (qLd rfl rfl rfl rfl (CJ.loc rfl)) ?_
  refine jl_q rfl rfl (qCall rfl rfl rfl rfl rfl (by kernel_rfl) (ccheck_spec s.now n M h3)) ?_
  refine js rfl (fun h11 => ?_) (fun h11 => ?_)
  ·iterate 7 refine jp rfl ?_
   refine jl_nil ?_
   refine jT ?_
   refine jc_yes rfl ?_
   refine jc_seq ?_
   refine jc_region ?_
   refine jp rfl ?_
   refine jl_nil ?_
   refine jT ?_
   refine jc_ret ?_
   refine jTr ?_
   refine jr1 rfl rfl ?_
   exact congrArg _ (Eq.symm (if_neg (fun q => ct_not h11 q.2.1)))
  ·iterate 2 refine jp rfl ?_
   refine jl_q rfl rfl (qFieldAddr rfl rfl rfl rfl rfl) ?_
   refine jl_q rfl rfl (qLd rfl rfl rfl rfl (CJ.loc rfl)) ?_
   refine jl_q rfl rfl (qCall rfl rfl rfl rfl rfl (by kernel_rfl) (ccheck_spec s.last l M h4)) ?_
   refine js rfl (fun h17 => ?_) (fun h17 => ?_)
   ·refine jp rfl ?_
    refine jl_nil ?_
    refine jT ?_
    refine jc_yes rfl ?_
    refine jc_seq ?_
    refine jc_region ?_
    refine jp rfl ?_
    refine jl_nil ?_
    refine jT ?_
    refine jc_ret ?_
    refine jTr ?_
    refine jr1 rfl rfl ?_
    exact congrArg _ (Eq.symm (if_neg (fun q => ct_not h17 q.2.2)))
   ·refine jp rfl ?_
    refine jl_nil ?_
    refine jT ?_
    refine jc_no rfl ?_
    refine jc_skip ?_
    refine jT ?_
    refine jc_seq ?_
    refine jc_region ?_
    refine jp rfl ?_
    refine jl_nil ?_
    refine jT ?_
    refine jc_ret ?_
    refine jr1 rfl rfl ?_
    exact congrArg _ (Eq.symm (if_pos ⟨dk_is h6, ct_is h11, ct_is h17⟩))


theorem rcheck_spec (s : Sto) (v : Value) (M : Mem) (h : ST M v s) : SpecL Tryz.prog 50 #[v] M [] fun v _ _ => v = .int .i64 (stChk s) := by
 obtain ⟨b, w, n, l, rfl, h1, h2, h3, h4⟩ := h.ex
 exact rcheck_walk s b w n l M h1 h2 h3 h4

end Go.Proofs.YtckdncmjkloebaaGreat
