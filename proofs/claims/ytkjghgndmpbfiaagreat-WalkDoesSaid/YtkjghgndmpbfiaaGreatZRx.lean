/- Walks: the law WalkDoes. -/
import Derived.Test.YtkjghgndmpbfiaaGreatZRn
import Derived.Test.YtkjghgndmpbfiaaGreatZRw
import Derived.Test.YtkjghgndmpbfiaaGreatZThaw
namespace Go.Proofs.YtkjghgndmpbfiaaGreat
set_option linter.unusedVariables false
set_option linter.unusedSectionVars false
set_option linter.unusedSimpArgs false
open Go.RowKit

section
variable {P : Program} {ops : Array Oper} {N : Fs} {F : Fr} {E : Ent} {M : Mem} {L : Lc} {o : Oper}
theorem qAw {op : BinOp} {xT yT : TypeId} {x y : Operand} {k : IntKind} {a b r : Int} (hg : gd ops F o = some true) (ho : o.op = .binOp op xT x y yT) (hx : ev F x = some (.int k a)) (hy : ev F y = some (.int k b))
  (hr : ar op a b = some r) : QF P ops N F M L o (.int k (k.wrap r)) := qf_of hg fun ac ha w _ => by
 simp only [execOp, ho, ha.ev hx, ha.ev hy]
 unfold ar at hr
 split at hr <;> first | cases hr | skip
 all_goals simp [eqGuard, binOp, Op.intArith]
end
theorem rgreat8_or (s : Sto) (u : Value) (M : Mem) (h : ST M u s) : SpecL Tryz.prog 4 #[u] M [] fun u _ L' => (u = .bool true ∧ L' = []) ∨ (u = .bool false ∧ L' = [] ∧ fewS s) :=
 (rgreat8_spec s u M h).mono fun _ _ _ ⟨⟨b, e, hb⟩, hL⟩ => by
  cases b with
  | true => exact .inl ⟨e, hL⟩
  | false => exact .inr ⟨e, hL, hb rfl⟩
/-! ### values that are written -/
def mid (Mt Mi Mk : Mem) : Mem := fun b => if (Mt b).isNone && (Mi b).isSome then newOf (fun _ => none) Mk b else none
theorem mid_iff {Mt Mi Mk : Mem} {b : Nat} {o : Obj} : mid Mt Mi Mk b = some o ↔ Mt b = none ∧ (∃ x, Mi b = some x) ∧ Mk b = some o ∧ plain o = true := by
 unfold mid
 constructor
 ·intro h
  split at h
  ·rename_i hc
   rw [Bool.and_eq_true, Option.isNone_iff_eq_none, Option.isSome_iff_exists] at hc
   have h2 := newOf_iff.1 h
   exact ⟨hc.1, hc.2, h2.2.1, h2.2.2⟩
  ·cases h
 ·rintro ⟨h1, h2, h3, h4⟩
  rw [if_pos (by rw [Bool.and_eq_true, Option.isNone_iff_eq_none, Option.isSome_iff_exists]; exact ⟨h1, h2⟩)]
  exact newOf_iff.2 ⟨rfl, h3, h4⟩
theorem mid_new {Mt Mi Mk : Mem} (h : MLe Mi Mk) : MLe (newOf Mt Mi) (mid Mt Mi Mk) := fun b o hb => by
 obtain ⟨h1, h2, h3⟩ := newOf_iff.1 hb
 exact mid_iff.2 ⟨h1, ⟨o, h2⟩, h b o h2, h3⟩
structure VI (Mt Mi Mk : Mem) (a : Option Addr) (ls : List Nat) (ps : List (It × Value)) : Prop where
 len : ps.map (fun p => p.1.val.length) = ls
 mt : MLe Mt Mk
 it : SM (newOf Mi Mk) a (ps.flatMap icell)
 bs : ∀ p ∈ ps, BS (mid Mt Mi Mk) p.2 p.1.val
theorem VI.n {Mt Mi Mk : Mem} {a : Option Addr} {ls : List Nat} {ps : List (It × Value)} (h : VI Mt Mi Mk a ls ps) : ps.length = ls.length := by rw [← h.len, List.length_map]
theorem VI.at {Mt Mi Mk : Mem} {a : Option Addr} {ls : List Nat} {ps : List (It × Value)} (h : VI Mt Mi Mk a ls ps) {i : Nat} (hi : i < ps.length) (hi2 : i < ls.length) : ps[i].1.val.length = ls[i] := by
 have e := h.len
 subst e
 rw [List.getElem_map]
theorem VI.get {Mt Mi Mk : Mem} {a : Option Addr} {ls : List Nat} {ps : List (It × Value)} (h : VI Mt Mi Mk a ls ps) {i : Nat} (hi : i < ps.length) : ∃ sb so va vc, a = some ⟨sb, so, none⟩ ∧ (∀ j v, (itc ps[i].1 va vc)[j]? = some v → CM (newOf Mi Mk) sb (so + ((i : Nat) : Int).toNat * 5 + j) v) ∧ ps[i].1.val.length ≤ vc ∧ SM (mid Mt Mi Mk) va (bcells ps[i].1.val) := by
 obtain ⟨sb, so, e0, hx⟩ := h.it.open (by intro e; have := congrArg List.length e; rw [flat_len icell 5 icell_len, List.length_nil] at this; omega)
 obtain ⟨va, vc, hcl, hvc, hvs⟩ := items_get2 (xs := ps.map (·.1)) (k := i) hx rfl h.bs (by rw [List.length_map]; exact hi)
 rw [List.getElem_map] at hcl hvc hvs
 exact ⟨sb, so, va, vc, e0, fun j v hj => by rw [Int.toNat_natCast]; exact hcl j v hj, hvc, hvs⟩
theorem vopen {Mt Mi Mk : Mem} {va : Option Addr} {xs : List By} (h : SM (mid Mt Mi Mk) va (bcells xs)) {k : Nat} (hk : k < xs.length) : ∃ g off l e, va = some ⟨g, off, none⟩ ∧ Mk g = some (.cells (List.toArray l) e (0, 0)) ∧ Mt g = none ∧ (∃ x, Mi g = some x) ∧ l[off + ((k : Nat) : Int).toNat * 1]? = some (.int .u8 (xs[k].toNat : Int)) := by
 obtain ⟨g, off, e0, hx⟩ := h.open (by intro e; have := congrArg List.length e; rw [bcells_len, List.length_nil] at this; omega)
 obtain ⟨c, e, fz, h1, h2⟩ := hx k _ (show (bcells xs)[k]? = some (.int .u8 (xs[k].toNat : Int)) by simp [bcells, hk])
 obtain ⟨k1, k2, k3, k4⟩ := mid_iff.1 h1
 have k5 : fz = (0, 0) := of_decide_eq_true k4
 subst k5
 exact ⟨g, off, c.toList, e, e0, by rw [Array.toArray_toList]; exact k3, k1, k2, by rw [Int.toNat_natCast, Nat.mul_one]; simpa using h2⟩
theorem new_del {Mi Mk : Mem} {g : Nat} (h : ∃ x, Mi g = some x) : MLe (newOf Mi Mk) (Mk.del g) := fun b o hb => by
 obtain ⟨h1, h2, _⟩ := newOf_iff.1 hb
 have : b ≠ g := fun e => by subst e; obtain ⟨x, hx⟩ := h; rw [hx] at h1; cases h1
 rw [Mem.del_other this]; exact h2
theorem bs_put {Mt Mi Mk M5 : Mem} {g off k : Nat} {l : List Value} {e : TypeId} {m : Int} (hm : 0 ≤ m ∧ m < 256) (hg : Mk g = some (.cells l.toArray e (0, 0))) (hM5 : MLe (Mk.del g) M5) (e5 : M5 g = some (.cells (l.take (off + k) ++ [Value.int .u8 m] ++ l.drop (off + k + [Value.int .u8 m].length)).toArray e (0, 0))) (hk : off + k < l.length) {v : Value} {xs : List By} (h : BS (mid Mt Mi Mk) v xs) : ∃ ys : List By, ys.length = xs.length ∧ BS (mid Mt Mi M5) v ys := by
 obtain ⟨a, c, rfl, hc, hs⟩ := h
 rcases Nat.eq_zero_or_pos xs.length with h0 | h0
 ·exact ⟨xs, rfl, a, c, rfl, hc, .inl (by rw [List.eq_nil_of_length_eq_zero h0]; rfl)⟩
 obtain ⟨b, o2, rfl, hx⟩ := hs.open (by intro e; have := congrArg List.length e; rw [bcells_len, List.length_nil] at this; omega)
 by_cases hb : b = g
 ·subst hb
  refine ⟨if o2 ≤ off + k then xs.set (off + k - o2) (UInt8.ofNat m.toNat) else xs, by split <;> simp, some ⟨b, o2, none⟩, c, by split <;> simp, by split <;> simp [hc], .inr ⟨b, o2, rfl, fun i u hu => ?_⟩⟩
  have hm8 : ((UInt8.ofNat m.toNat).toNat : Int) = m := by rw [UInt8.toNat_ofNat_of_lt' (by show m.toNat < 256; omega)]; omega
  have hil : i < xs.length := by
   have := (List.getElem?_eq_some_iff.1 hu).1
   rw [bcells_len] at this
   split at this <;> simpa using this
  obtain ⟨c0, e0, fz, h1, h2⟩ := hx i _ (show (bcells xs)[i]? = some (.int .u8 (xs[i].toNat : Int)) by simp [bcells, hil])
  obtain ⟨k1, k2, k3, k4⟩ := mid_iff.1 h1
  rw [hg] at k3
  cases k3
  refine ⟨_, e, (0, 0), mid_iff.2 ⟨k1, k2, e5, rfl⟩, ?_⟩
  have h2' : l[o2 + i]? = some (.int .u8 (xs[i].toNat : Int)) := by simpa using h2
  rw [List.getElem?_toArray]
  by_cases hj : o2 + i = off + k
  ·have hu2 : u = .int .u8 m := by
    rw [if_pos (by omega)] at hu
    rw [show off + k - o2 = i by omega] at hu
    simp only [bcells, List.map_set, List.getElem?_set, List.length_map, hil, if_true] at hu
    have := Option.some.inj hu
    rw [← this, hm8]
   rw [hu2, hj, List.append_assoc, List.getElem?_append_right (by rw [List.length_take]; omega), List.length_take, show off + k - min (off + k) l.length = 0 by omega]; rfl
  ·have hu2 : u = .int .u8 (xs[i].toNat : Int) := by
    split at hu
    ·simp only [bcells, List.map_set] at hu
     rw [List.getElem?_set_ne (by omega)] at hu
     simpa [hil] using hu.symm
    ·simpa [bcells, hil] using hu.symm
   rw [hu2, ← h2']
   rcases Nat.lt_or_ge (o2 + i) (off + k) with h3 | h3
   ·rw [List.append_assoc, List.getElem?_append_left (by rw [List.length_take]; omega), List.getElem?_take, if_pos h3]
   ·rw [List.getElem?_append_right (by rw [List.length_append, List.length_take]; simp; omega), List.getElem?_drop, List.length_append, List.length_take]
    congr 1
    simp only [List.length_singleton]; omega
 ·refine ⟨xs, rfl, _, c, rfl, hc, .inr ⟨b, o2, rfl, fun i u hu => ?_⟩⟩
  obtain ⟨c0, e0, fz, h1, h2⟩ := hx i u hu
  obtain ⟨k1, k2, k3, k4⟩ := mid_iff.1 h1
  exact ⟨c0, e0, fz, mid_iff.2 ⟨k1, k2, hM5 _ _ (by rw [Mem.del_other hb]; exact k3), k4⟩, h2⟩
theorem ps_put {D D' : Mem} : ∀ {ps : List (It × Value)}, (∀ p ∈ ps, ∃ ys : List By, ys.length = p.1.val.length ∧ BS D' p.2 ys) → ∃ qs : List (It × Value), qs.flatMap icell = ps.flatMap icell ∧ qs.map (fun p => p.1.val.length) = ps.map (fun p => p.1.val.length) ∧ ∀ p ∈ qs, BS D' p.2 p.1.val
 | [], _ => ⟨[], rfl, rfl, fun _ h => by cases h⟩
 | p :: ps, h => by
  obtain ⟨ys, h1, h2⟩ := h p (by simp)
  obtain ⟨qs, h3, h4, h5⟩ := ps_put (D := D) (ps := ps) (fun q hq => h q (by simp [hq]))
  refine ⟨(⟨p.1.key, p.1.ref, ys⟩, p.2) :: qs, by rw [List.flatMap_cons, List.flatMap_cons, h3]; rfl, by rw [List.map_cons, List.map_cons, h4, h1], fun q hq => ?_⟩
  rcases List.mem_cons.1 hq with rfl | hq
  ·exact h2
  ·exact h5 q hq
theorem VI.put {Mt Mi Mk M5 : Mem} {a : Option Addr} {ls : List Nat} {ps : List (It × Value)} (h : VI Mt Mi Mk a ls ps) {g off k : Nat} {l : List Value} {e : TypeId} {m : Int} (hm : 0 ≤ m ∧ m < 256) (hg : Mk g = some (.cells l.toArray e (0, 0))) (hMt : Mt g = none) (hMi : ∃ x, Mi g = some x) (hM5 : MLe (Mk.del g) M5) (e5 : M5 g = some (.cells (l.take (off + k) ++ [Value.int .u8 m] ++ l.drop (off + k + [Value.int .u8 m].length)).toArray e (0, 0))) (hk : off + k < l.length) : ∃ qs, VI Mt Mi M5 a ls qs := by
 obtain ⟨qs, h1, h2, h3⟩ := ps_put (D := Mk) (D' := mid Mt Mi M5) (ps := ps) fun p hp => bs_put hm hg hM5 e5 hk (h.bs p hp)
 refine ⟨qs, by rw [h2]; exact h.len, fun b o hb => ?_, ?_, h3⟩
 ·have : b ≠ g := fun e => by subst e; rw [hMt] at hb; cases hb
  exact hM5 _ _ (by rw [Mem.del_other this]; exact h.mt b o hb)
 ·rw [h1]
  refine h.it.mono fun b o hb => ?_
  obtain ⟨k1, k2, k3⟩ := newOf_iff.1 hb
  exact newOf_iff.2 ⟨k1, hM5 _ _ (new_del hMi _ _ hb), k3⟩
/-! ### what is compared -/
theorem itb_val {x : It} (h : itBad x = false) : x.val.length ≤ 12 := by unfold itBad at h; have := of_decide_eq_false h; omega
theorem kid_ok {s : Sto} {x z : It} (h : z ∈ kid s x) : itBad z = false := by
 unfold kid at h
 split at h
 ·rename_i hnd; exact (itemsOk_bad (ndAt_ok hnd).ok z h).1
 ·cases h
theorem allOne_val (s : Sto) : ∀ (l : Nat) (x : It), itBad x = false → ∀ y ∈ allOne s l x, y.val.length ≤ 12
 | 0, x, h, y, hy => by rw [allOne, List.mem_singleton] at hy; subst hy; exact itb_val h
 | l + 1, x, h, y, hy => by
  rw [allOne] at hy
  obtain ⟨z, hz, hy2⟩ := List.mem_flatMap.1 hy
  exact allOne_val s l z (kid_ok hz) y hy2
theorem rng_val {s : Sto} {root : Int} {a b : Ky} (h : (fchk s root).2 = 0) : ∀ y ∈ rng s root a b, y.val.length ≤ 12 := by
 intro y hy
 rw [rng_is h] at hy
 have hy2 := (List.mem_filter.1 hy).1
 unfold allT at hy2
 split at hy2
 ·rename_i hnd
  obtain ⟨x, hx, h3⟩ := List.mem_flatMap.1 hy2
  exact allOne_val s _ x ((itemsOk_bad (ndAt_ok hnd).ok x hx).1) y h3
 ·cases hy2
theorem samei_is {a1 a2 : Option Addr} {c1 c2 : Nat} {xs : List It} {ps1 ps2 : List (It × Value)} {M : Mem} (s1 : SM M a1 (ps1.flatMap icell)) (p1 : ps1.map (·.1) = xs) (b1 : ∀ p ∈ ps1, BS M p.2 p.1.val) (s2 : SM M a2 (ps2.flatMap icell)) (p2 : ps2.map (·.1) = xs) (b2 : ∀ p ∈ ps2, BS M p.2 p.1.val) (hn : xs.length ≤ 1000000) : SpecL Tryz.prog 10 #[.slice a1 xs.length c1, .slice a2 xs.length c2] M [] fun u _ _ => u = .bool true := by
 have h := rsameits_walk a1 a2 c1 c2 xs xs ps1 ps2 M s1 p1 b1 s2 p2 b2 hn hn
 rw [decide_eq_true (rfl : xs = xs)] at h; exact h
theorem samen_is {a1 a2 : Option Addr} {c1 c2 : Nat} {xs : List Int} {M : Mem} (s1 : SM M a1 (xs.map encZ)) (s2 : SM M a2 (xs.map encZ)) (hn : xs.length ≤ 1000000) : SpecL Tryz.prog 11 #[.slice a1 xs.length c1, .slice a2 xs.length c2] M [] fun u _ _ => u = .bool true := by
 have h := rsamenums_spec a1 a2 c1 c2 xs xs M s1 s2 hn hn
 rw [decide_eq_true (rfl : xs = xs)] at h; exact h
structure NdsIs (s : Sto) (root : Int) (ns rs : List Int) : Prop where
 ok : (fchk s root).2 = 0 → NdsOk s root.toNat ns rs
 no : (fchk s root).2 ≠ 0 → ns = [] ∧ rs = []
theorem nds_open {s : Sto} {root : Int} {u : Value} {M' : Mem} (h : NdsPost s root u M') : ∃ ns rs a1 c1 a2 c2, u = .tuple #[.slice a1 (List.length ns) c1, .slice a2 (List.length rs) c2, .int .i64 (fchk s root).2] ∧ SM M' a1 (ns.map encZ) ∧ SM M' a2 (rs.map encZ) ∧ NdsIs s root ns rs := by
 by_cases h0 : (fchk s root).2 = 0
 ·obtain ⟨v1, v2, ns, rs, rfl, ⟨a1, c1, rfl, k1, k2⟩, ⟨a2, c2, rfl, k3, k4⟩, hn⟩ := h.ok h0
  exact ⟨ns, rs, a1, c1, a2, c2, by rw [h0], k2, k4, fun _ => hn, fun h => absurd h0 h⟩
 ·exact ⟨[], [], none, 0, none, 0, h.bad h0, SM.nil, SM.nil, fun h => absurd h h0, fun _ => ⟨rfl, rfl⟩⟩
theorem nds_eq {s : Sto} {root : Int} {ns rs ns2 rs2 : List Int} (h1 : NdsIs s root ns rs) (h2 : NdsIs s root ns2 rs2) : ns2 = ns ∧ rs2 = rs := by
 by_cases h0 : (fchk s root).2 = 0
 ·have := nds_same (h1.ok h0) (h2.ok h0); exact ⟨this.1.symm, this.2.symm⟩
 ·obtain ⟨rfl, rfl⟩ := h1.no h0; obtain ⟨rfl, rfl⟩ := h2.no h0; exact ⟨rfl, rfl⟩
theorem nds_len {s : Sto} {root : Int} {ns rs : List Int} (h : NdsIs s root ns rs) : ns.length ≤ 256 ∧ rs.length ≤ 256 := by
 by_cases h0 : (fchk s root).2 = 0
 ·obtain ⟨hst, hr8, hr256, hnz, lev, xs, hnd, htr, hfl⟩ := fchk_ok h0
  have hn := h.ok h0
  refine ⟨small_len (hn.up.imp fun h => by omega) fun k hk => ?_, small_len (hn.rup.imp fun h => by omega) fun k hk => ?_⟩
  ·obtain ⟨n, rfl, hr⟩ := (hn.is k).1 hk
   have := (hr.tree (by omega) hnd htr).1; omega
  ·have := ((hn.ris k).1 hk).now (by omega) hnd htr; exact ⟨this.1, this.2.1⟩
 ·obtain ⟨rfl, rfl⟩ := h.no h0; exact ⟨Nat.zero_le _, Nat.zero_le _⟩

set_option maxHeartbeats 4000000 in
theorem walkdoes_walk (s : Sto) (bv wv nv lv : Value) (M : Mem) (hS : ST M (.agg #[bv, wv, nv, lv]) s) (root : Int) (hr : -9223372036854775808 ≤ root ∧ root ≤ 9223372036854775807) (ka kb : Ky) :
  SpecL Tryz.prog 3 #[.agg #[bv, wv, nv, lv], .int .i64 root, .agg (kcells ka).toArray, .agg (kcells kb).toArray] M [] fun u _ _ => u = .bool true := by
 refine spec_body (vs := [_, _, _, _]) 117 _ Tryz.func3 rfl Tryz.ntmps3 rfl rfl ?_; intro W
 refine jc_seq ?_
 refine jc_region ?_
 refine jl_h rfl rfl (hBox (cs := [_, _, _, _]) rfl rfl rfl rfl) ?_; rintro _ _ _ ⟨b4, rfl, rfl, rfl⟩
 refine jl_h rfl rfl (hBox (cs := [_, _, _]) rfl rfl rfl rfl) ?_; rintro _ _ _ ⟨b6, rfl, rfl, rfl⟩
 refine jl_h rfl rfl (hBox (cs := [_, _, _]) rfl rfl rfl rfl) ?_; rintro _ _ _ ⟨b7, rfl, rfl, rfl⟩
 refine jp rfl ?_
 refine jl_nil ?_
 refine jT ?_
 refine jc_seq ?_
 refine jc_seq ?_
 refine jc_region ?_
 refine jl_q rfl rfl (qLdL rfl rfl rfl rfl rfl) ?_
 refine jl_h rfl rfl (hCall rfl rfl rfl rfl rfl (by kernel_rfl) (rgreat8_or s _ M hS)) ?_; rintro _ M1 _ ⟨hM1, Rg, rfl, hy⟩
 rcases hy with ⟨rfl, hy⟩ | ⟨rfl, hy⟩
 ·refine jl_nil ?_
  refine jT ?_
  refine jc_yes rfl ?_
  refine jc_seq ?_
  refine jc_region ?_
  refine jp rfl ?_
  refine jl_nil ?_
  refine jT ?_
  refine jc_ret ?_
  refine jTr ?_
  refine jr1 rfl rfl ?_
  rfl
 ·refine jl_nil ?_
  refine jT ?_
  refine jc_no rfl ?_
  refine jc_skip ?_
  refine jT ?_
  refine jc_seq ?_
  obtain ⟨rfl, hf⟩ := hy
  simp only [List.nil_append]
  refine jc_region ?_
  refine jl_q rfl rfl (qLdL rfl rfl rfl rfl rfl) ?_
  have hS1 := hS.mono hM1
  refine jl_h rfl rfl (hCall rfl rfl rfl rfl rfl (by kernel_rfl) (rtwin8_spec s _ M1 hS1 hf)) ?_; rintro _ Mt _ ⟨hMt, _, rfl, ⟨hT, rfl⟩⟩
  obtain ⟨bv2, wv2, nv2, lv2, rfl, hTb, hTw, hTn, hTl⟩ := id hT.ex
  obtain ⟨t1, k1, _, rfl, _⟩ := id hTb
  obtain ⟨t2, k2, _, rfl, _⟩ := id hTw
  obtain ⟨t3, k3, rfl, _⟩ := id hTn
  obtain ⟨t4, k4, rfl, _⟩ := id hTl
  clear hTb hTw hTn hTl
  refine jl_h rfl rfl (hAlloc rfl rfl) ?_; rintro _ _ _ ⟨b9, rfl, rfl, rfl⟩
  refine jl_s rfl (hStoreL rfl rfl rfl rfl rfl rfl rfl rfl) ?_; rintro _ _ _ ⟨rfl, rfl⟩
  refine jl_nil ?_
  refine jT ?_
  refine jc_seq ?_
  refine jc_region ?_
  refine jl_q rfl rfl (qLdL rfl rfl rfl rfl rfl) ?_
  refine jp rfl ?_
  refine jl_q rfl rfl (qLdL rfl rfl rfl rfl rfl) ?_
  refine jl_q rfl rfl (qLdL rfl rfl rfl rfl rfl) ?_
  refine jl_h rfl rfl (hCall rfl rfl rfl rfl rfl (by kernel_rfl) (range_new s _ root ka kb Mt hT)) ?_; rintro _ M2 _ ⟨hM2, _, rfl, ⟨⟨rv, rfl, hrn⟩, rfl⟩⟩
  obtain ⟨xs, hxs⟩ : ∃ xs, xs = (if (fchk s root).2 = 0 then rng s root ka kb else []) := ⟨_, rfl⟩
  rw [← hxs] at hrn
  obtain ⟨a, c, ps0, Mi, rfl, hac, hMti, hMi2, hri, hrp, hrb⟩ := hrn
  iterate 5 refine jp rfl ?_
  refine jl_nil ?_
  refine jT ?_
  refine jc_seq ?_
  refine jc_region ?_
  refine jl_q rfl rfl (qLdL rfl rfl rfl rfl rfl) ?_
  refine jp rfl ?_
  refine jl_q rfl rfl (qLdL rfl rfl rfl rfl rfl) ?_
  refine jl_q rfl rfl (qLdL rfl rfl rfl rfl rfl) ?_
  refine jl_h rfl rfl (hCall rfl rfl rfl rfl rfl (by kernel_rfl) (rrange_spec s _ M2 ((hS1.mono hMt).mono hM2) root ka kb hf hr)) ?_; rintro _ M3 _ ⟨hM3, _, rfl, ⟨⟨rv2, rfl, hrn2⟩, rfl⟩⟩
  rw [← hxs] at hrn2
  obtain ⟨a2, c2, ps2, rfl, hac2, hri2, hrp2, hrb2⟩ := hrn2
  iterate 5 refine jp rfl ?_
  refine jl_nil ?_
  refine jT ?_
  refine jc_seq ?_
  refine jc_region ?_
  refine jl_q rfl rfl (qLdL rfl rfl rfl rfl rfl) ?_
  refine jp rfl ?_
  refine jl_h rfl rfl (hCall rfl rfl rfl rfl rfl (by kernel_rfl) (nodes_spec s _ root M3 ((hT.mono hM2).mono hM3))) ?_; rintro _ M4 _ ⟨hM4, _, rfl, ⟨hnd1, rfl⟩⟩
  obtain ⟨ns, rs, na1, nc1, na2, nc2, rfl, hns1, hrs1, hnk⟩ := nds_open hnd1
  have hnl := nds_len hnk
  iterate 7 refine jp rfl ?_
  refine jl_nil ?_
  refine jT ?_
  refine jc_seq ?_
  refine jc_region ?_
  refine jl_q rfl rfl (qLdL rfl rfl rfl rfl rfl) ?_
  refine jp rfl ?_
  refine jl_h rfl rfl (hCall rfl rfl rfl rfl rfl (by kernel_rfl) (rnodes_spec s _ M4 ((((hS1.mono hMt).mono hM2).mono hM3).mono hM4) root hf hr)) ?_; rintro _ M5 _ ⟨hM5, _, rfl, ⟨hnd2, rfl⟩⟩
  obtain ⟨ns2, rs2, na3, nc3, na4, nc4, rfl, hns2, hrs2, hnk2⟩ := nds_open hnd2
  obtain ⟨rfl, rfl⟩ := nds_eq hnk hnk2
  have hM25 := hM3.trans (hM4.trans hM5)
  have hxl : xs.length ≤ 15625 := by rw [hxs]; split; exact rng_len (by assumption) ka kb; exact Nat.zero_le _
  iterate 7 refine jp rfl ?_
  refine jl_nil ?_
  refine jT ?_
  refine jc_seq ?_
  refine jc_seq ?_
  refine jc_region ?_
  iterate 2 refine jp rfl ?_
  refine jl_q rfl rfl (qCall rfl rfl rfl rfl rfl (by kernel_rfl) (samei_is (hri.mono ((newOf_le _ _).trans hM25)) hrp (fun p hp => (hrb p hp).mono ((newOf_le _ _).trans (hMi2.trans hM25))) (hri2.mono (hM4.trans hM5)) hrp2 (fun p hp => (hrb2 p hp).mono (hM4.trans hM5)) (by omega))) ?_
  iterate 4 refine jp rfl ?_
  refine jf rfl (decide_eq_false (by omega)) ?_
  iterate 4 refine jp rfl ?_
  refine jl_q rfl rfl (qCall rfl rfl rfl rfl rfl (by kernel_rfl) (samen_is (hns1.mono hM5) hns2 (by omega))) ?_
  iterate 5 refine jp rfl ?_
  refine jl_q rfl rfl (qCall rfl rfl rfl rfl rfl (by kernel_rfl) (samen_is (hrs1.mono hM5) hrs2 (by omega))) ?_
  iterate 5 refine jp rfl ?_
  refine jf rfl (decide_eq_false (by omega)) ?_
  refine jp rfl ?_
  refine jl_nil ?_
  refine jT ?_
  refine jc_no rfl ?_
  refine jc_skip ?_
  refine jT ?_
  refine jc_seq ?_
  refine jc_seq ?_
  refine jc_region ?_
  refine jp rfl ?_
  refine jl_nil ?_
  refine jT ?_
  refine jc_block ?_
  have hls : ∀ x ∈ xs.map (fun x => x.val.length), x ≤ 12 := fun x hx => by
   obtain ⟨y, hy, rfl⟩ := List.mem_map.1 hx
   rw [hxs] at hy
   split at hy
   ·exact rng_val (by assumption) y hy
   ·cases hy
  have hll0 : (xs.map (fun x => x.val.length)).length = xs.length := List.length_map _
  obtain ⟨ls, hlse⟩ : ∃ ls, ls = xs.map (fun x => x.val.length) := ⟨_, rfl⟩
  rw [← hlse] at hls hll0
  refine jc_loopK (α := Nat × Mem × List (It × Value)) (fun z => [(4, .pointer (some ⟨b4, 0, none⟩)), (9, .pointer (some ⟨b9, 0, none⟩)), (10, .slice a xs.length c), (20, .int .i64 z.1)]) (fun z => z.2.1) (fun _ => [(b9, .cells [.slice t1 s.blocks.length k1, .slice t2 s.waits.length k2, .slice t3 s.now.length k3, .slice t4 s.last.length k4].toArray 28 (0, 0)), (b7, .cells (kcells kb).toArray 31 (0, 0)), (b6, .cells (kcells ka).toArray 31 (0, 0)), (b4, .cells [bv, wv, nv, lv].toArray 28 (0, 0))]) (fun z => z.1 ≤ xs.length ∧ VI Mt Mi z.2.1 a ls z.2.2) (fun z => xs.length - z.1)
   (0, M5, ps0) (Keep.cons (t := 4) rfl (Keep.cons (t := 9) rfl (Keep.cons (t := 10) rfl (Keep.cons (t := 20) rfl Keep.nil)))) ⟨Nat.zero_le _, by rw [hlse, ← hrp, List.map_map]; rfl, hM2.trans hM25, hri.mono (newOf_mono hM25), fun p hp => (hrb p hp).mono (mid_new (hMi2.trans hM25))⟩ (fun _ h => h) ?_
  rintro ⟨i, Mk, ps⟩ ⟨hi, hV⟩
  try dsimp only at hi hV ⊢
  refine jc_seq ?_
  refine jc_seq ?_
  refine jc_region ?_
  iterate 2 refine jp rfl ?_
  refine jl_q rfl rfl (qLen rfl rfl rfl) ?_
  refine js rfl (fun h85 => ?_) (fun h85 => ?_)
  ·refine jl_nil ?_
   refine jT ?_
   refine jc_yes rfl ?_
   refine jc_skip ?_
   refine jT ?_
   refine jc_seq ?_
   refine jc_block ?_
   refine jc_seq ?_
   refine jc_region ?_
   refine jp rfl ?_
   refine jl_nil ?_
   refine jT ?_
   refine jc_block ?_
   have hi0 : i < xs.length := by omega
   refine jc_loopK (α := Nat × Mem × List (It × Value)) (fun z => [(4, .pointer (some ⟨b4, 0, none⟩)), (9, .pointer (some ⟨b9, 0, none⟩)), (10, .slice a xs.length c), (20, .int .i64 i), (21, .int .i64 z.1)]) (fun z => z.2.1) (fun _ => [(b9, .cells [.slice t1 s.blocks.length k1, .slice t2 s.waits.length k2, .slice t3 s.now.length k3, .slice t4 s.last.length k4].toArray 28 (0, 0)), (b7, .cells (kcells kb).toArray 31 (0, 0)), (b6, .cells (kcells ka).toArray 31 (0, 0)), (b4, .cells [bv, wv, nv, lv].toArray 28 (0, 0))]) (fun z => z.1 ≤ 12 ∧ VI Mt Mi z.2.1 a ls z.2.2) (fun z => 12 - z.1)
    (0, Mk, ps) (Keep.cons (t := 4) rfl (Keep.cons (t := 9) rfl (Keep.cons (t := 10) rfl (Keep.cons (t := 20) rfl (Keep.cons (t := 21) rfl Keep.nil))))) ⟨Nat.zero_le _, hV⟩ (fun _ h => h) ?_
   clear hV
   rintro ⟨k, Mk, ps⟩ ⟨hk, hV⟩
   try dsimp only at hk hV ⊢
   refine jc_seq ?_
   refine jc_seq ?_
   refine jc_region ?_
   iterate 3 refine jp rfl ?_
   have hn := hV.n
   have hi1 : i < ps.length := by omega
   obtain ⟨sb, so, va, vc, e0, hcl, hvc, hvs⟩ := hV.get hi1
   have hle : ps[i].1.val.length ≤ 12 := by rw [hV.at hi1 (by omega)]; exact hls _ (List.getElem_mem _)
   refine jl_q rfl rfl (qIdxE rfl rfl rfl rfl e0 (by omega)) ?_
   refine jl_q rfl rfl (qFieldAddr rfl rfl rfl rfl rfl) ?_
   refine jl_q rfl rfl (qLd rfl rfl rfl rfl (((hcl 4 _ rfl).mono (newOf_le _ _)).cj _)) ?_
   refine jl_q rfl rfl (qLen rfl rfl rfl) ?_
   refine js rfl (fun h95 => ?_) (fun h95 => ?_)
   ·refine jl_nil ?_
    refine jT ?_
    refine jc_yes rfl ?_
    refine jc_skip ?_
    refine jT ?_
    refine jc_seq ?_
    refine jc_block ?_
    have hk1 : k < ps[i].1.val.length := by omega
    obtain ⟨g, off, l, e, rfl, hMg, hMtg, hMig, hl⟩ := vopen hvs hk1
    have hll := (List.getElem?_eq_some_iff.1 hl).1
    have hfit : Nat.ble (off + ((k : Nat) : Int).toNat * 1 + 1) l.length = true := Nat.ble_eq_true_of_le hll
    have hM0g : M g = none := by
     cases h0 : M g with
     | none => rfl
     | some x => rw [(hM1.trans hMt) _ _ h0] at hMtg; cases hMtg
    have hdel := new_del (Mk := Mk) hMig
    refine jc_thaw hMg hM0g ?_
    refine jc_drawP (p := { A := fun i => !([16].contains i), U := fun i => !([16].contains i) }) [(0, true), (1, true), (2, true), (3, true), (4, true), (5, true), (6, true), (7, true), (8, true), (9, true), (10, true), (11, true), (12, true), (13, true), (14, true), (15, true), (16, false)] (Mk.del g) ([(g, .cells l.toArray e (0, 0)), (b9, .cells [.slice t1 s.blocks.length k1, .slice t2 s.waits.length k2, .slice t3 s.now.length k3, .slice t4 s.last.length k4].toArray 28 (0, 0)), (b7, .cells (kcells kb).toArray 31 (0, 0)), (b6, .cells (kcells ka).toArray 31 (0, 0)), (b4, .cells [bv, wv, nv, lv].toArray 28 (0, 0))]) ([]) (by kernel_rfl) (by kernel_rfl) (by kernel_rfl) (by kernel_rfl) rfl (fun _ h => h) (MLe.refl _) (by simp) ?_
    iterate 2 refine dp rfl rfl ?_
    refine jd_q rfl rfl rfl (qIdxE rfl rfl rfl rfl e0 (by omega)) ?_
    refine jd_q rfl rfl rfl (qFieldAddr rfl rfl rfl rfl rfl) ?_
    refine jd_q rfl rfl rfl (qLd rfl rfl rfl rfl (((hcl 4 _ rfl).mono hdel).cj _)) ?_
    iterate 3 refine dp rfl rfl ?_
    refine jd_q rfl rfl rfl (qIdxE rfl rfl rfl rfl e0 (by omega)) ?_
    refine jd_q rfl rfl rfl (qFieldAddr rfl rfl rfl rfl rfl) ?_
    refine jd_q rfl rfl rfl (qLd rfl rfl rfl rfl (((hcl 4 _ rfl).mono hdel).cj _)) ?_
    refine dp rfl rfl ?_
    refine jd_q rfl rfl rfl (qIdxS rfl rfl rfl rfl (by omega)) ?_
    refine jd_q rfl rfl rfl (qLd rfl rfl rfl rfl (CJ.loc hl)) ?_
    refine jd_q rfl rfl rfl (qAw rfl rfl rfl rfl rfl) ?_
    refine jd_q rfl rfl rfl (qIdxS rfl rfl rfl rfl (by omega)) ?_
    refine jd_e rfl rfl (hStoreL (l2 := l.take (off + ((k : Nat) : Int).toNat * 1) ++ [Value.int .u8 (IntKind.u8.wrap ((ps[i].1.val[k].toNat : Int) + 1))] ++ l.drop (off + ((k : Nat) : Int).toNat * 1 + [Value.int .u8 (IntKind.u8.wrap ((ps[i].1.val[k].toNat : Int) + 1))].length)) rfl rfl rfl rfl rfl rfl rfl hfit rfl) ?_; rintro _ _ _ ⟨rfl, rfl⟩
    refine ⟨MLe.refl _, by simp, ?_⟩
    refine je_nil ?_
    refine jPn ?_
    refine jB ?_
    refine jT ?_
    refine jc_region ?_
    refine jp rfl ?_
    refine ja rfl (by omega) ?_
    refine jp rfl ?_
    refine jl_nil ?_
    refine jq_freeze g (by simp) ?_
    intro M7 hM7 e7
    obtain ⟨qs, hV2⟩ := hV.put (by rw [IntKind.wrap_u8]; omega) hMg hMtg hMig hM7 e7 hll
    refine j_again (k + 1, M7, qs) (Keep.cons (t := 4) rfl (Keep.cons (t := 9) rfl (Keep.cons (t := 10) rfl (Keep.cons (t := 20) rfl (Keep.cons (t := 21) rfl Keep.nil))))) ⟨by show k + 1 ≤ 12; omega, hV2⟩ (by show 12 - (k + 1) < 12 - k; omega) (fun _ h => h.subC fun f => by simp only [List.map_append, List.map_cons, List.map_nil, List.sum_append, List.sum_cons, List.sum_nil]; omega)
   ·refine jl_nil ?_
    refine jT ?_
    refine jc_no rfl ?_
    refine jc_exit ?_
    refine jTx ?_
    refine jTx ?_
    refine jBx ?_
    refine jB ?_
    refine jT ?_
    refine jc_region ?_
    refine jp rfl ?_
    refine ja rfl (by omega) ?_
    refine jp rfl ?_
    refine jl_nil ?_
    refine j_again (i + 1, Mk, ps) (Keep.cons (t := 4) rfl (Keep.cons (t := 9) rfl (Keep.cons (t := 10) rfl (Keep.cons (t := 20) rfl Keep.nil)))) ⟨by show i + 1 ≤ xs.length; omega, hV⟩ (by show xs.length - (i + 1) < xs.length - i; omega) (fun _ h => h)
  ·refine jl_nil ?_
   refine jT ?_
   refine jc_no rfl ?_
   refine jc_exit ?_
   refine jTx ?_
   refine jTx ?_
   refine jBx ?_
   refine jT ?_
   refine jc_seq ?_
   refine jc_region ?_
   refine jl_q rfl rfl (qLdL rfl rfl rfl rfl rfl) ?_
   refine jl_q rfl rfl (qLdL rfl rfl rfl rfl rfl) ?_
   refine jl_h rfl rfl (hCall rfl rfl rfl rfl rfl (by kernel_rfl) (rsame8_spec s _ _ Mk (hT.mono hV.mt) ((hS1.mono hMt).mono hV.mt) hf)) ?_; rintro _ M6 _ ⟨hM6, _, rfl, ⟨rfl, rfl⟩⟩
   refine jp rfl ?_
   refine jl_nil ?_
   refine jT ?_
   refine jc_ret ?_
   refine jr1 rfl rfl ?_
   rfl

end Go.Proofs.YtkjghgndmpbfiaaGreat
