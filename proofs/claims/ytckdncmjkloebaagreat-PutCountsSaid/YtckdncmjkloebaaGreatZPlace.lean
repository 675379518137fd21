/- Walks: where a key stands in a node. -/
import Derived.Test.YtckdncmjkloebaaGreatZNode
namespace Go.Proofs.YtckdncmjkloebaaGreat
set_option linter.unusedVariables false
set_option linter.unusedSimpArgs false
open Go.RowKit

def place (xs : List It) (k : Ky) : Nat := (xs.filter fun x => kless x.key k).length
def isAt (xs : List It) (k : Ky) : Bool := decide ((xs[place xs k]?).map (·.key) = some k)
theorem place_step {xs : List It} {k : Ky} {j : Nat} (h : j < xs.length) : place (xs.take (j + 1)) k = place (xs.take j) k + (if kless xs[j].key k then 1 else 0) := by
 unfold place
 rw [List.take_succ_eq_append_getElem h, List.filter_append, List.length_append]
 cases hk : kless xs[j].key k <;> simp [List.filter, hk]
theorem place_le (xs : List It) (k : Ky) : place xs k ≤ xs.length := List.length_filter_le _ _

set_option maxHeartbeats 1000000 in
theorem place_walk (lv : Int) (xs : List It) (q : Ky) (a : Option Addr) (c : Nat) (ps : List (It × Value)) (M : Mem) (hc : xs.length ≤ c) (hs : SM M a (ps.flatMap icell)) (hp : ps.map (·.1) = xs) (hb : ∀ p ∈ ps, BS M p.2 p.1.val) (hn : xs.length ≤ 100) :
  SpecL Tryz.prog 64 #[.agg #[.int .i64 lv, .slice a xs.length c], .agg (kcells q).toArray] M [] fun v _ _ => v = .tuple #[.int .i64 (place xs q), .bool (isAt xs q)] := by
 refine spec_body (vs := [_, _]) 38 _ Tryz.func64 rfl Tryz.ntmps64 rfl rfl ?_; intro W
 refine jc_seq ?_
 refine jc_region ?_
 refine jl_h rfl rfl (hBox (cs := [_, _]) rfl rfl rfl rfl) ?_; rintro _ _ _ ⟨b2, rfl, rfl, rfl⟩
 refine jl_h rfl rfl (hBox (cs := [_, _, _]) rfl rfl rfl rfl) ?_; rintro _ _ _ ⟨b3, rfl, rfl, rfl⟩
 iterate 2 refine jp rfl ?_
 refine jl_nil ?_
 refine jT ?_
 refine jc_seq ?_
 refine jc_seq ?_
 refine jc_region ?_
 refine jl_q rfl rfl (qFieldAddr rfl rfl rfl rfl rfl) ?_
 refine jl_q rfl rfl (qLd rfl rfl rfl rfl (CJ.loc rfl)) ?_
 refine jl_q rfl rfl (qLen rfl rfl rfl) ?_
 refine jp rfl ?_
 refine jl_nil ?_
 refine jT ?_
 refine jc_block ?_
 refine jc_loopK (α := Nat) (fun k => [(2, .pointer (some ⟨b2, 0, none⟩)), (3, .pointer (some ⟨b3, 0, none⟩)), (4, .int .i64 (place (xs.take k) q)), (9, .slice a xs.length c), (10, .int .i64 xs.length), (11, .int .i64 k)]) (fun _ => M) (fun _ => [(b3, .cells [.int .u8 q.kind, .int .u32 q.id, .int .u32 q.off].toArray 31 (0, 0)), (b2, .cells [.int .i64 lv, .slice a xs.length c].toArray 73 (0, 0))]) (fun k => k ≤ xs.length) (fun k => xs.length - k)
  0 (Keep.cons (t := 2) rfl (Keep.cons (t := 3) rfl (Keep.cons (t := 4) rfl (Keep.cons (t := 9) rfl (Keep.cons (t := 10) rfl (Keep.cons (t := 11) rfl Keep.nil)))))) (Nat.zero_le _) (fun _ h => h) ?_
 rintro k hk
 try dsimp only at hk ⊢
 have hple := place_le (xs.take k) q
 rw [List.length_take] at hple
 refine jc_seq ?_
 refine jc_region ?_
 refine js rfl (fun hlt => ?_) (fun hlt => ?_)
 ·refine jl_nil ?_
  refine jT ?_
  refine jc_seq ?_
  refine jc_yes rfl ?_
  refine jc_skip ?_
  refine jT ?_
  refine jc_seq ?_
  refine jc_block ?_
  refine jc_seq ?_
  refine jc_region ?_
  have hk1 : k < xs.length := by omega
  obtain ⟨sb, so, e0, hx⟩ := hs.open (by intro e; have := congrArg List.length e; rw [flat_len icell 5 icell_len, List.length_nil] at this; have h2 := congrArg List.length hp; rw [List.length_map] at h2; omega)
  subst e0
  obtain ⟨va, vc, hcl, hvc, hvs⟩ := items_get hx hp hb hk1
  refine jl_q rfl rfl (qIdxS rfl rfl rfl rfl (by omega)) ?_
  refine jl_q rfl rfl (qLdA (cs := itc xs[k] va vc) rfl rfl rfl rfl rfl (fun i v hv => (hcl i v hv).cj _)) ?_
  refine jl_h rfl rfl (hAlloc rfl rfl) ?_; rintro _ _ _ ⟨b7, rfl, rfl, rfl⟩
  refine jl_s rfl (hStoreL rfl rfl rfl rfl rfl rfl rfl rfl) ?_; rintro _ _ _ ⟨rfl, rfl⟩
  refine jl_nil ?_
  refine jT ?_
  refine jc_seq ?_
  refine jc_region ?_
  refine jl_q rfl rfl (qFieldAddr rfl rfl rfl rfl rfl) ?_
  refine jl_q rfl rfl (qLdL rfl rfl rfl rfl rfl) ?_
  refine jl_q rfl rfl (qLdL rfl rfl rfl rfl rfl) ?_
  refine jl_qb rfl rfl (qCall rfl rfl rfl rfl rfl (by kernel_rfl) (less_spec xs[k].key q M)) (fun h18 => ?_) (fun h18 => ?_)
  ·refine jl_nil ?_
   refine jT ?_
   refine jc_yes rfl ?_
   refine jc_region ?_
   refine jp rfl ?_
   refine ja rfl (by omega) ?_
   refine jp rfl ?_
   refine jl_nil ?_
   refine jB ?_
   refine jT ?_
   refine jc_region ?_
   refine ja rfl (by omega) ?_
   refine jp rfl ?_
   refine jl_nil ?_
   refine j_again (k + 1) (Keep.cons (t := 2) rfl (Keep.cons (t := 3) rfl (Keep.ceq (t := 4) rfl (by first | (rw [place_step hk1, if_pos h18]; rfl) | (rw [place_step hk1, if_neg (by simp [h18])]; rfl)) (Keep.cons (t := 9) rfl (Keep.cons (t := 10) rfl (Keep.cons (t := 11) rfl Keep.nil)))))) (by omega) (by omega) (fun _ h => h.fewer (by simp))
  ·refine jl_nil ?_
   refine jT ?_
   refine jc_no rfl ?_
   refine jc_skip ?_
   refine jB ?_
   refine jT ?_
   refine jc_region ?_
   refine ja rfl (by omega) ?_
   refine jp rfl ?_
   refine jl_nil ?_
   refine j_again (k + 1) (Keep.cons (t := 2) rfl (Keep.cons (t := 3) rfl (Keep.ceq (t := 4) rfl (by first | (rw [place_step hk1, if_pos h18]; rfl) | (rw [place_step hk1, if_neg (by simp [h18])]; rfl)) (Keep.cons (t := 9) rfl (Keep.cons (t := 10) rfl (Keep.cons (t := 11) rfl Keep.nil)))))) (by omega) (by omega) (fun _ h => h.fewer (by simp))
 ·refine jl_nil ?_
  refine jT ?_
  refine jc_seq ?_
  refine jc_no rfl ?_
  refine jc_exit ?_
  refine jTx ?_
  refine jTx ?_
  refine jBx ?_
  refine jT ?_
  refine jc_seq ?_
  refine jc_draw [(0, true), (1, true), (2, true), (3, true), (4, true), (5, true), (6, true), (7, true), (8, true), (9, true), (10, true), (11, true), (12, true), (13, true), (14, true), (15, true), (16, true), (17, true)] _ (by kernel_rfl) (by kernel_rfl) (by kernel_rfl) rfl (fun _ h => h) ?_
  iterate 2 refine dp rfl rfl ?_
  obtain rfl : k = xs.length := by omega
  rw [List.take_length]
  rw [List.take_length] at hple
  refine jd_q rfl rfl rfl (qFieldAddr rfl rfl rfl rfl rfl) ?_
  refine jd_q rfl rfl rfl (qLd rfl rfl rfl rfl (CJ.loc rfl)) ?_
  refine jd_q rfl rfl rfl (qLen rfl rfl rfl) ?_
  refine ds rfl rfl (fun h27 => ?_) (fun h27 => ?_)
  ·refine dp rfl rfl ?_
   refine jd_q rfl rfl rfl (qFieldAddr rfl rfl rfl rfl rfl) ?_
   refine jd_q rfl rfl rfl (qLd rfl rfl rfl rfl (CJ.loc rfl)) ?_
   refine dp rfl rfl ?_
   have hpk : place xs q < xs.length := by omega
   obtain ⟨sb, so, e0, hx⟩ := hs.open (by intro e; have := congrArg List.length e; rw [flat_len icell 5 icell_len, List.length_nil] at this; have h2 := congrArg List.length hp; rw [List.length_map] at h2; omega)
   subst e0
   obtain ⟨va, vc, hcl, hvc, hvs⟩ := items_get hx hp hb hpk
   refine jd_q rfl rfl rfl (qIdxS rfl rfl rfl rfl (by omega)) ?_
   refine jd_q rfl rfl rfl (qFieldAddr rfl rfl rfl rfl rfl) ?_
   refine jd_q rfl rfl rfl (qLdA (cs := kcells xs[place xs q].key) rfl rfl rfl rfl rfl (fun i v hv => (hcl i v (by match i, hv with | 0, hv => simpa [kcells] using hv | 1, hv => simpa [kcells] using hv | 2, hv => simpa [kcells] using hv | n + 3, hv => simp [kcells] at hv)).cj _)) ?_
   refine jd_q rfl rfl rfl (qLdL rfl rfl rfl rfl rfl) ?_
   refine jd_q rfl rfl rfl (qEqI (ns := [xs[place xs q].key.kind, xs[place xs q].key.id, xs[place xs q].key.off]) (ms := [q.kind, q.id, q.off]) rfl rfl rfl rfl rfl rfl ⟨rfl, rfl⟩) ?_
   iterate 3 refine dp rfl rfl ?_
   refine jd_nil ?_
   refine jPn ?_
   refine jT ?_
   refine jc_ret ?_
   refine jr2 rfl rfl rfl ?_
   refine congrArg (fun b => Value.tuple #[_, Value.bool b]) ?_
   unfold isAt; rw [key_eq, List.getElem?_eq_getElem hpk]; simp
  ·iterate 12 refine dp rfl rfl ?_
   refine jd_nil ?_
   refine jPn ?_
   refine jT ?_
   refine jc_ret ?_
   refine jr2 rfl rfl rfl ?_
   refine congrArg (fun b => Value.tuple #[_, Value.bool b]) ?_
   unfold isAt; rw [List.getElem?_eq_none (by omega)]; rfl

end Go.Proofs.YtckdncmjkloebaaGreat
