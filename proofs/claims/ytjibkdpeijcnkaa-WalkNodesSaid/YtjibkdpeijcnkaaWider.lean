/- WalkWider's function is walked. -/
import Derived.Test.YtjibkdpeijcnkaaAlive
import Derived.Test.YtjibkdpeijcnkaaGreat
import Derived.Test.YtjibkdpeijcnkaaTree
import Derived.Test.YtjibkdpeijcnkaaNodes
namespace Go.Proofs.Ytjibkdpeijcnkaa
set_option linter.unusedVariables false
set_option linter.unusedSimpArgs false
open Go.RowKit

structure NdAll (s : Sto) (root : Int) (ns rs : List Int) : Prop where
  node : ∀ i (h : i < ns.length), 8 ≤ ns[i] ∧ ns[i] < 256 ∧ ((s.now.getD ns[i].toNat 0).toNat : Int) ≠ 0
  ref : ∀ i (h : i < rs.length), 8 ≤ rs[i] ∧ rs[i] < 256 ∧ ((s.now.getD rs[i].toNat 0).toNat : Int) ≠ 0
  nup : ∀ i (h : i + 1 < ns.length), ns[i] < ns[i + 1]
  rup : ∀ i (h : i + 1 < rs.length), rs[i] < rs[i + 1]
  root : root ∈ ns
  nlen : ns.length ≤ 256
  rlen : rs.length ≤ 256
theorem now_ne {s : Sto} {k : Nat} (h : ¬ s.now.getD k 0 = 0) : ((s.now.getD k 0).toNat : Int) ≠ 0 := fun e => h (by
  have h0 : (s.now.getD k 0).toNat = 0 := by omega
  exact UInt8.toNat_inj.1 h0)
theorem NdsOk.all {s : Sto} {root : Int} {ns rs : List Int} (h : NdsOk s root.toNat ns rs) (hok : (fchk s root).2 = 0) : NdAll s root ns rs := by
  obtain ⟨hst, h8, h256, hnz, lev, xs, hnd, htr, _⟩ := fchk_ok hok
  have h0 : 8 ≤ root.toNat ∧ root.toNat < 256 := by omega
  have nd : ∀ {m : List Int}, m.Pairwise (· < ·) → m.Nodup := fun hm => hm.imp fun {a b} h e => by omega
  have hA : ∀ x ∈ ns, 8 ≤ x ∧ x < 256 := fun x hx => by
    obtain ⟨n, rfl, hr⟩ := (h.is x).1 hx
    have := (Rch.tree h0 hnd htr hr).1
    omega
  have hB : ∀ x ∈ rs, 8 ≤ x ∧ x < 256 := fun x hx => by
    have := LRef.now h0 hnd htr ((h.ris x).1 hx)
    omega
  refine ⟨fun i hi => ?_, fun i hi => ?_, fun i hi => List.pairwise_iff_getElem.1 h.up i (i + 1) (by omega) hi (by omega), fun i hi => List.pairwise_iff_getElem.1 h.rup i (i + 1) (by omega) hi (by omega), (h.is root).2 ⟨root.toNat, by omega, .root⟩, small_len (nd h.up) hA, small_len (nd h.rup) hB⟩
  · obtain ⟨n, e, hr⟩ := (h.is _).1 (List.getElem_mem hi)
    have h1 := (Rch.tree h0 hnd htr hr).1
    have h2 := Rch.now h0 hnd htr hr
    rw [e]
    exact ⟨by omega, by omega, by rw [Int.toNat_natCast]; exact now_ne h2⟩
  · have h1 := LRef.now h0 hnd htr ((h.ris _).1 (List.getElem_mem hi))
    exact ⟨h1.1, h1.2.1, now_ne h1.2.2⟩
theorem wid_step {m l : List It} {p : It → Bool} {k : Nat} (hl : l = m.filter p) (hk : k < m.length) : ((m.take (k + 1)).filter p).length = ((m.take k).filter p).length + (if p m[k] then 1 else 0) ∧ (p m[k] = true → l[((m.take k).filter p).length]? = some m[k]) := by
  refine ⟨?_, fun hp => ?_⟩
  · rw [List.take_succ_eq_append_getElem hk, List.filter_append, List.length_append]
    cases h : p m[k] <;> simp [List.filter, h]
  · rw [hl]
    conv => lhs; rw [← List.take_append_drop k m]
    rw [List.filter_append, List.getElem?_append_right (by simp), List.drop_eq_getElem_cons hk]
    simp [List.filter, hp]
theorem wid_sub {s : Sto} {root : Int} (h : (fchk s root).2 = 0) {a b c d : Ky} (hab : kless b a = false) (hcd : kless d c = false) : rng s root b c = (rng s root a d).filter (btw b c) := by
  rw [rng_is h, rng_is h, List.filter_filter]
  congr 1; funext x
  unfold btw
  cases h1 : kless x.key b <;> cases h2 : kless c x.key <;> simp
  have h3 : kle a x.key := kle_trans hab h1
  have h4 : kle x.key d := kle_trans h2 hcd
  unfold kle at h3 h4
  simp [h3, h4]
theorem idx_of3 {k : Nat} {n : Nat} (h : (k : Int) < (n : Int)) : k < n := by omega

set_option maxHeartbeats 8000000 in
theorem wwider_walk (s : Sto) (root : Int) (a b c d : Ky) (bv wv nv lw : Value) (M : Mem) (hST : ST M (.agg #[bv, wv, nv, lw]) s) :
    SpecL Try.prog 6 #[.agg #[bv, wv, nv, lw], .int .i64 root, .agg (kcells a).toArray, .agg (kcells b).toArray, .agg (kcells c).toArray, .agg (kcells d).toArray] M [] fun u _ _ => u = .bool true := by
  obtain ⟨bv2, wv2, nv2, lw2, e0, g1, g2, g3, g4⟩ := hST.ex
  simp only [Value.agg.injEq, Array.mk.injEq, List.cons.injEq, and_true] at e0
  obtain ⟨rfl, rfl, rfl, rfl⟩ := e0
  obtain ⟨na, nc, rfl, hnc, hns⟩ := g3
  refine spec_body (vs := [_, _, _, _, _, _]) 226 _ Try.func6 rfl Try.ntmps6 rfl rfl ?_; intro W
  refine jc_seq ?_
  refine jc_region ?_
  refine jl_h rfl rfl (hBox (cs := [_, _, _, _]) rfl rfl rfl rfl) ?_; rintro _ _ _ ⟨b6, rfl, rfl, rfl⟩
  refine jl_h rfl rfl (hBox (cs := [_, _, _]) rfl rfl rfl rfl) ?_; rintro _ _ _ ⟨b8, rfl, rfl, rfl⟩
  refine jl_h rfl rfl (hBox (cs := [_, _, _]) rfl rfl rfl rfl) ?_; rintro _ _ _ ⟨b9, rfl, rfl, rfl⟩
  refine jl_h rfl rfl (hBox (cs := [_, _, _]) rfl rfl rfl rfl) ?_; rintro _ _ _ ⟨b10, rfl, rfl, rfl⟩
  refine jl_h rfl rfl (hBox (cs := [_, _, _]) rfl rfl rfl rfl) ?_; rintro _ _ _ ⟨b11, rfl, rfl, rfl⟩
  refine jp rfl ?_
  refine jl_nil ?_
  refine jT ?_
  refine jc_seq ?_
  refine jc_region ?_
  refine jl_h rfl rfl (hCall rfl rfl rfl rfl rfl (by kernel_rfl) (alive_spec M)) ?_; rintro _ M1 _ ⟨hLM1, _, rfl, ⟨rfl, rfl⟩⟩
  simp only [List.nil_append]
  refine jp rfl ?_
  refine jl_nil ?_
  refine jT ?_
  refine jc_seq ?_
  refine jc_seq ?_
  refine jc_region ?_
  refine jl_q rfl rfl (qLdL rfl rfl rfl rfl rfl (by first | (simp only [Nat.reduceAdd, Nat.zero_add, Nat.add_zero, List.drop_succ_cons, List.drop_zero, List.drop_nil, List.take_succ_cons, List.take_zero, List.take_nil, List.cons_append, List.nil_append, List.append_nil, List.length_cons, List.length_nil]; done) | (simp only [Nat.reduceAdd, Nat.zero_add, Nat.add_zero, List.drop_succ_cons, List.drop_zero, List.drop_nil, List.take_succ_cons, List.take_zero, List.take_nil, List.cons_append, List.nil_append, List.append_nil, List.length_cons, List.length_nil]; rfl) | rfl)) ?_
  refine jl_h rfl rfl (hCall rfl rfl rfl rfl rfl (by kernel_rfl) (great_spec s _ M1 (hST.mono hLM1))) ?_; rintro _ M2 _ ⟨hM2, _, rfl, ⟨⟨bg, rfl⟩, rfl⟩⟩
  simp only [List.nil_append]
  have hLM2 := hLM1.trans hM2
  refine jsb rfl (fun h29 => ?_) (fun h29 => ?_)
  · iterate 13 refine jp rfl ?_
    refine jl_nil ?_
    refine jT ?_
    refine jc_yes rfl ?_
    refine jc_seq ?_
    refine jc_region ?_
    iterate 2 refine jp rfl ?_
    refine jl_nil ?_
    refine jT ?_
    refine jc_ret ?_
    refine jTr ?_
    refine jr1 rfl rfl ?_
    first | rfl | exact congrArg Value.bool (decide_eq_true rfl)
  · iterate 4 refine jp rfl ?_
    refine jl_q rfl rfl (qLdL rfl rfl rfl rfl rfl (by first | (simp only [Nat.reduceAdd, Nat.zero_add, Nat.add_zero, List.drop_succ_cons, List.drop_zero, List.drop_nil, List.take_succ_cons, List.take_zero, List.take_nil, List.cons_append, List.nil_append, List.append_nil, List.length_cons, List.length_nil]; done) | (simp only [Nat.reduceAdd, Nat.zero_add, Nat.add_zero, List.drop_succ_cons, List.drop_zero, List.drop_nil, List.take_succ_cons, List.take_zero, List.take_nil, List.cons_append, List.nil_append, List.append_nil, List.length_cons, List.length_nil]; rfl) | rfl)) ?_
    refine jl_q rfl rfl (qLdL rfl rfl rfl rfl rfl (by first | (simp only [Nat.reduceAdd, Nat.zero_add, Nat.add_zero, List.drop_succ_cons, List.drop_zero, List.drop_nil, List.take_succ_cons, List.take_zero, List.take_nil, List.cons_append, List.nil_append, List.append_nil, List.length_cons, List.length_nil]; done) | (simp only [Nat.reduceAdd, Nat.zero_add, Nat.add_zero, List.drop_succ_cons, List.drop_zero, List.drop_nil, List.take_succ_cons, List.take_zero, List.take_nil, List.cons_append, List.nil_append, List.append_nil, List.length_cons, List.length_nil]; rfl) | rfl)) ?_
    refine jl_qb rfl rfl (qCall rfl rfl rfl rfl rfl (by kernel_rfl) (less_spec b a _)) (fun h36 => ?_) (fun h36 => ?_)
    · iterate 6 refine jp rfl ?_
      refine jl_nil ?_
      refine jT ?_
      refine jc_yes rfl ?_
      refine jc_seq ?_
      refine jc_region ?_
      iterate 2 refine jp rfl ?_
      refine jl_nil ?_
      refine jT ?_
      refine jc_ret ?_
      refine jTr ?_
      refine jr1 rfl rfl ?_
      first | rfl | exact congrArg Value.bool (decide_eq_true rfl)
    · iterate 2 refine jp rfl ?_
      refine jl_q rfl rfl (qLdL rfl rfl rfl rfl rfl (by first | (simp only [Nat.reduceAdd, Nat.zero_add, Nat.add_zero, List.drop_succ_cons, List.drop_zero, List.drop_nil, List.take_succ_cons, List.take_zero, List.take_nil, List.cons_append, List.nil_append, List.append_nil, List.length_cons, List.length_nil]; done) | (simp only [Nat.reduceAdd, Nat.zero_add, Nat.add_zero, List.drop_succ_cons, List.drop_zero, List.drop_nil, List.take_succ_cons, List.take_zero, List.take_nil, List.cons_append, List.nil_append, List.append_nil, List.length_cons, List.length_nil]; rfl) | rfl)) ?_
      refine jl_q rfl rfl (qLdL rfl rfl rfl rfl rfl (by first | (simp only [Nat.reduceAdd, Nat.zero_add, Nat.add_zero, List.drop_succ_cons, List.drop_zero, List.drop_nil, List.take_succ_cons, List.take_zero, List.take_nil, List.cons_append, List.nil_append, List.append_nil, List.length_cons, List.length_nil]; done) | (simp only [Nat.reduceAdd, Nat.zero_add, Nat.add_zero, List.drop_succ_cons, List.drop_zero, List.drop_nil, List.take_succ_cons, List.take_zero, List.take_nil, List.cons_append, List.nil_append, List.append_nil, List.length_cons, List.length_nil]; rfl) | rfl)) ?_
      refine jl_qb rfl rfl (qCall rfl rfl rfl rfl rfl (by kernel_rfl) (less_spec d c _)) (fun h41 => ?_) (fun h41 => ?_)
      · refine jp rfl ?_
        refine jl_nil ?_
        refine jT ?_
        refine jc_yes rfl ?_
        refine jc_seq ?_
        refine jc_region ?_
        iterate 2 refine jp rfl ?_
        refine jl_nil ?_
        refine jT ?_
        refine jc_ret ?_
        refine jTr ?_
        refine jr1 rfl rfl ?_
        first | rfl | exact congrArg Value.bool (decide_eq_true rfl)
      · refine jp rfl ?_
        refine jl_nil ?_
        refine jT ?_
        refine jc_no rfl ?_
        refine jc_skip ?_
        refine jT ?_
        refine jc_seq ?_
        refine jc_region ?_
        refine jl_q rfl rfl (qLdL rfl rfl rfl rfl rfl (by first | (simp only [Nat.reduceAdd, Nat.zero_add, Nat.add_zero, List.drop_succ_cons, List.drop_zero, List.drop_nil, List.take_succ_cons, List.take_zero, List.take_nil, List.cons_append, List.nil_append, List.append_nil, List.length_cons, List.length_nil]; done) | (simp only [Nat.reduceAdd, Nat.zero_add, Nat.add_zero, List.drop_succ_cons, List.drop_zero, List.drop_nil, List.take_succ_cons, List.take_zero, List.take_nil, List.cons_append, List.nil_append, List.append_nil, List.length_cons, List.length_nil]; rfl) | rfl)) ?_
        refine jp rfl ?_
        refine jl_q rfl rfl (qLdL rfl rfl rfl rfl rfl (by first | (simp only [Nat.reduceAdd, Nat.zero_add, Nat.add_zero, List.drop_succ_cons, List.drop_zero, List.drop_nil, List.take_succ_cons, List.take_zero, List.take_nil, List.cons_append, List.nil_append, List.append_nil, List.length_cons, List.length_nil]; done) | (simp only [Nat.reduceAdd, Nat.zero_add, Nat.add_zero, List.drop_succ_cons, List.drop_zero, List.drop_nil, List.take_succ_cons, List.take_zero, List.take_nil, List.cons_append, List.nil_append, List.append_nil, List.length_cons, List.length_nil]; rfl) | rfl)) ?_
        refine jl_q rfl rfl (qLdL rfl rfl rfl rfl rfl (by first | (simp only [Nat.reduceAdd, Nat.zero_add, Nat.add_zero, List.drop_succ_cons, List.drop_zero, List.drop_nil, List.take_succ_cons, List.take_zero, List.take_nil, List.cons_append, List.nil_append, List.append_nil, List.length_cons, List.length_nil]; done) | (simp only [Nat.reduceAdd, Nat.zero_add, Nat.add_zero, List.drop_succ_cons, List.drop_zero, List.drop_nil, List.take_succ_cons, List.take_zero, List.take_nil, List.cons_append, List.nil_append, List.append_nil, List.length_cons, List.length_nil]; rfl) | rfl)) ?_
        refine jl_h rfl rfl (hCall rfl rfl rfl rfl rfl (by kernel_rfl) (range_spec s _ root b c M2 (hST.mono hLM2))) ?_; rintro _ M3 _ ⟨hMM3, _, rfl, ⟨⟨v49, rfl, hns49⟩, rfl⟩⟩
        simp only [List.nil_append]
        have hLM3 := hLM2.trans hMM3
        obtain ⟨l, hl⟩ : ∃ l, l = (if (fchk s root).2 = 0 then rng s root b c else []) := ⟨_, rfl⟩
        rw [← hl] at hns49
        obtain ⟨la, lc, lp, rfl, lc1, ls, lp1, lb⟩ := hns49
        iterate 5 refine jp rfl ?_
        refine jl_nil ?_
        refine jT ?_
        refine jc_seq ?_
        refine jc_region ?_
        refine jl_q rfl rfl (qLdL rfl rfl rfl rfl rfl (by first | (simp only [Nat.reduceAdd, Nat.zero_add, Nat.add_zero, List.drop_succ_cons, List.drop_zero, List.drop_nil, List.take_succ_cons, List.take_zero, List.take_nil, List.cons_append, List.nil_append, List.append_nil, List.length_cons, List.length_nil]; done) | (simp only [Nat.reduceAdd, Nat.zero_add, Nat.add_zero, List.drop_succ_cons, List.drop_zero, List.drop_nil, List.take_succ_cons, List.take_zero, List.take_nil, List.cons_append, List.nil_append, List.append_nil, List.length_cons, List.length_nil]; rfl) | rfl)) ?_
        refine jp rfl ?_
        refine jl_q rfl rfl (qLdL rfl rfl rfl rfl rfl (by first | (simp only [Nat.reduceAdd, Nat.zero_add, Nat.add_zero, List.drop_succ_cons, List.drop_zero, List.drop_nil, List.take_succ_cons, List.take_zero, List.take_nil, List.cons_append, List.nil_append, List.append_nil, List.length_cons, List.length_nil]; done) | (simp only [Nat.reduceAdd, Nat.zero_add, Nat.add_zero, List.drop_succ_cons, List.drop_zero, List.drop_nil, List.take_succ_cons, List.take_zero, List.take_nil, List.cons_append, List.nil_append, List.append_nil, List.length_cons, List.length_nil]; rfl) | rfl)) ?_
        refine jl_q rfl rfl (qLdL rfl rfl rfl rfl rfl (by first | (simp only [Nat.reduceAdd, Nat.zero_add, Nat.add_zero, List.drop_succ_cons, List.drop_zero, List.drop_nil, List.take_succ_cons, List.take_zero, List.take_nil, List.cons_append, List.nil_append, List.append_nil, List.length_cons, List.length_nil]; done) | (simp only [Nat.reduceAdd, Nat.zero_add, Nat.add_zero, List.drop_succ_cons, List.drop_zero, List.drop_nil, List.take_succ_cons, List.take_zero, List.take_nil, List.cons_append, List.nil_append, List.append_nil, List.length_cons, List.length_nil]; rfl) | rfl)) ?_
        refine jl_h rfl rfl (hCall rfl rfl rfl rfl rfl (by kernel_rfl) (range_spec s _ root a d M3 (hST.mono hLM3))) ?_; rintro _ M4 _ ⟨hMM4, _, rfl, ⟨⟨v57, rfl, hns57⟩, rfl⟩⟩
        simp only [List.nil_append]
        have hLM4 := hLM3.trans hMM4
        obtain ⟨m, hm⟩ : ∃ l, l = (if (fchk s root).2 = 0 then rng s root a d else []) := ⟨_, rfl⟩
        rw [← hm] at hns57
        obtain ⟨ma, mc, mp, rfl, mc1, ms, mp1, mb⟩ := hns57
        iterate 5 refine jp rfl ?_
        refine jl_nil ?_
        refine jT ?_
        refine jc_seq ?_
        refine jc_region ?_
        refine jl_q rfl rfl (qLdL rfl rfl rfl rfl rfl (by first | (simp only [Nat.reduceAdd, Nat.zero_add, Nat.add_zero, List.drop_succ_cons, List.drop_zero, List.drop_nil, List.take_succ_cons, List.take_zero, List.take_nil, List.cons_append, List.nil_append, List.append_nil, List.length_cons, List.length_nil]; done) | (simp only [Nat.reduceAdd, Nat.zero_add, Nat.add_zero, List.drop_succ_cons, List.drop_zero, List.drop_nil, List.take_succ_cons, List.take_zero, List.take_nil, List.cons_append, List.nil_append, List.append_nil, List.length_cons, List.length_nil]; rfl) | rfl)) ?_
        refine jp rfl ?_
        refine jl_h rfl rfl (hCall rfl rfl rfl rfl rfl (by kernel_rfl) (nodes_spec s _ root M4 (hST.mono hLM4))) ?_; rintro _ M5 _ ⟨hMM5, _, rfl, ⟨hnp, rfl⟩⟩
        simp only [List.nil_append]
        have hLM5 := hLM4.trans hMM5
        obtain ⟨a1, n1, c1, a2, n2, c2, rfl, hn1, hn2, hyes, hno⟩ := hnp.form
        iterate 7 refine jp rfl ?_
        refine jl_nil ?_
        refine jT ?_
        refine jc_seq ?_
        refine jc_seq ?_
        refine jc_region ?_
        refine jp rfl ?_
        refine js rfl (fun h68 => ?_) (fun h68 => ?_)
        · refine jl_nil ?_
          refine jT ?_
          refine jc_yes rfl ?_
          refine jc_seq ?_
          refine jc_region ?_
          iterate 4 refine jp rfl ?_
          refine jt rfl (decide_eq_true (by omega)) ?_
          iterate 7 refine jp rfl ?_
          refine jl_nil ?_
          refine jT ?_
          refine jc_ret ?_
          refine jTr ?_
          refine jr1 rfl rfl ?_
          first | rfl | exact congrArg Value.bool (decide_eq_true rfl)
        · refine jl_nil ?_
          refine jT ?_
          refine jc_no rfl ?_
          refine jc_skip ?_
          refine jT ?_
          refine jc_seq ?_
          refine jc_region ?_
          refine jp rfl ?_
          refine jl_nil ?_
          refine jT ?_
          refine jc_seq ?_
          refine jc_seq ?_
          refine jc_region ?_
          refine jp rfl ?_
          refine jl_nil ?_
          refine jT ?_
          refine jc_block ?_
          have hok := Classical.not_not.1 h68
          obtain ⟨ns, rs, rfl, rfl, hs1, hs2, hnd⟩ := hyes hok
          have hna := hnd.all hok
          have hnl := hna.nlen
          have hrl := hna.rlen
          rw [if_pos hok] at hl hm
          have hsub : l = m.filter (btw b c) := by rw [hl, hm]; exact wid_sub hok (by simpa using h36) (by simpa using h41)
          have hLe : MLe M3 M5 := hMM4.trans hMM5
          have hMe : MLe M4 M5 := hMM5
          have hml : m.length ≤ 15625 := by rw [hm]; exact rng_len hok a d
          have hll : l.length ≤ 15625 := by rw [hl]; exact rng_len hok b c
          refine jc_loopK (α := Nat × Nat) (fun x => [(1, .int .i64 root), (6, .pointer (some ⟨b6, 0, none⟩)), (13, .bool true), (14, .slice la l.length lc), (16, .slice ma m.length mc), (17, .int .i64 (fchk s root).2), (18, .slice a1 ns.length c1), (19, .slice a2 rs.length c2), (20, .int .i64 (fchk s root).2), (21, .int .i64 (x.1 : Int)), (22, .int .i64 (x.2 : Int))]) (fun _ => M5) (fun _ => [(b6, .cells [bv, wv, .slice na s.now.length nc, lw].toArray TSt (0, 0))]) (fun x => x.2 ≤ m.length ∧ x.1 = ((m.take x.2).filter (btw b c)).length) (fun x => m.length - x.2)
            (0, 0) (Keep.cons (t := 1) rfl (Keep.cons (t := 6) rfl (Keep.cons (t := 13) rfl (Keep.cons (t := 14) rfl (Keep.cons (t := 16) rfl (Keep.cons (t := 17) rfl (Keep.cons (t := 18) rfl (Keep.cons (t := 19) rfl (Keep.cons (t := 20) rfl (Keep.cons (t := 21) rfl (Keep.cons (t := 22) rfl Keep.nil))))))))))) ⟨Nat.zero_le _, rfl⟩ (fun _ h => h.fewer (by first | exact .refl _ | exact .cons _ (.refl _) | exact .cons _ (.cons _ (.refl _)) | exact .cons _ (.cons _ (.cons _ (.refl _))) | simp)) ?_
          rintro ⟨j, k⟩ ⟨hk, hj⟩
          try dsimp only at hk hj ⊢
          have hend : k = m.length → j = l.length := fun e => by rw [hj, e, List.take_length, ← hsub]
          have hjl : j ≤ m.length := by rw [hj]; exact Nat.le_trans (List.length_filter_le _ _) (by rw [List.length_take]; omega)
          refine jc_seq ?_
          refine jc_seq ?_
          refine jc_region ?_
          iterate 2 refine jp rfl ?_
          refine jl_q rfl rfl (qLen rfl rfl rfl) ?_
          refine js rfl (fun h83 => ?_) (fun h83 => ?_)
          · refine jl_nil ?_
            refine jT ?_
            refine jc_yes rfl ?_
            refine jc_skip ?_
            refine jT ?_
            refine jc_seq ?_
            refine jc_block ?_
            refine jc_seq ?_
            refine jc_draw [(0, true), (1, true), (2, true), (3, true), (4, true), (5, true), (6, true), (7, true), (8, true), (9, true), (10, true), (11, true), (12, true), (13, true), (14, true)] _ (by kernel_rfl) (by kernel_rfl) (by kernel_rfl) rfl (fun _ h => h) ?_
            iterate 2 refine dp rfl rfl ?_
            refine jd_q rfl rfl rfl (qLen rfl rfl rfl) ?_
            refine ds rfl rfl (fun h89 => ?_) (fun h89 => ?_)
            · iterate 3 refine dp rfl rfl ?_
              have hk1 : k < m.length := idx_of3 h83
              obtain ⟨tb, to_, e0, hy⟩ := (SM.mono ms hMe).open (by intro e; have := congrArg List.length e; rw [flat_len icell 5 icell_len, List.length_nil] at this; have h2 := congrArg List.length mp1; rw [List.length_map] at h2; omega)
              subst e0
              obtain ⟨xa, xc, hdl, hxc, hxs⟩ := items_get hy mp1 (fun p hp => (mb p hp).mono hMe) hk1
              have hj1 : j < l.length := idx_of3 h89
              obtain ⟨sb, so, e0, hx⟩ := (SM.mono ls hLe).open (by intro e; have := congrArg List.length e; rw [flat_len icell 5 icell_len, List.length_nil] at this; have h2 := congrArg List.length lp1; rw [List.length_map] at h2; omega)
              subst e0
              obtain ⟨va, vc, hcl, hvc, hvs⟩ := items_get hx lp1 (fun p hp => (lb p hp).mono hLe) hj1
              refine jd_q rfl rfl rfl (qIdxS rfl rfl rfl rfl (by omega)) ?_
              refine jd_q rfl rfl rfl (qLdA (cs := itc l[j] va vc) rfl rfl rfl rfl rfl (fun i v hv => (hcl i v hv).cj _)) ?_
              iterate 2 refine dp rfl rfl ?_
              refine jd_q rfl rfl rfl (qIdxS rfl rfl rfl rfl (by omega)) ?_
              refine jd_q rfl rfl rfl (qLdA (cs := itc m[k] xa xc) rfl rfl rfl rfl rfl (fun i v hv => (hdl i v hv).cj _)) ?_
              refine jd_qb rfl rfl rfl (qCall rfl rfl rfl rfl rfl (by kernel_rfl) (itsame_spec l[j] m[k] _ _ M5 ⟨va, vc, rfl, hvc, hvs⟩ ⟨xa, xc, rfl, hxc, hxs⟩)) (fun h99 => ?_) (fun h99 => ?_)
              · refine dp rfl rfl ?_
                refine jd_nil ?_
                refine jPn ?_
                refine jT ?_
                refine jc_yes rfl ?_
                refine jc_region ?_
                refine jp rfl ?_
                refine ja rfl (by omega) ?_
                refine jp rfl ?_
                refine jl_nil ?_
                refine jB ?_
                refine jT ?_
                refine jc_region ?_
                refine jp rfl ?_
                refine ja rfl (by omega) ?_
                refine jp rfl ?_
                refine jl_nil ?_
                have hws := wid_step hsub (idx_of3 h83)
                refine j_again (j + 1, k + 1) (Keep.cons (t := 1) rfl (Keep.cons (t := 6) rfl (Keep.cons (t := 13) rfl (Keep.cons (t := 14) rfl (Keep.cons (t := 16) rfl (Keep.cons (t := 17) rfl (Keep.cons (t := 18) rfl (Keep.cons (t := 19) rfl (Keep.cons (t := 20) rfl (Keep.cons (t := 21) rfl (Keep.cons (t := 22) rfl Keep.nil))))))))))) ⟨by show k + 1 ≤ m.length; omega, ?_⟩ (by show m.length - (k + 1) < m.length - k; omega) (fun _ h => h.fewer (by simp))
                show j + 1 = _
                rw [hws.1, ← hj]
                have hlm : l[j] = m[k] := by simpa using h99
                have hpl : btw b c m[k] = true := by rw [← hlm]; exact (List.mem_filter.1 (by rw [← hsub]; exact List.getElem_mem (idx_of3 h89))).2
                rw [if_pos hpl]
              · refine dp rfl rfl ?_
                refine jd_nil ?_
                refine jPn ?_
                refine jT ?_
                refine jc_no rfl ?_
                refine jc_skip ?_
                refine jB ?_
                refine jT ?_
                refine jc_region ?_
                refine jp rfl ?_
                refine ja rfl (by omega) ?_
                refine jp rfl ?_
                refine jl_nil ?_
                have hws := wid_step hsub (idx_of3 h83)
                refine j_again (j, k + 1) (Keep.cons (t := 1) rfl (Keep.cons (t := 6) rfl (Keep.cons (t := 13) rfl (Keep.cons (t := 14) rfl (Keep.cons (t := 16) rfl (Keep.cons (t := 17) rfl (Keep.cons (t := 18) rfl (Keep.cons (t := 19) rfl (Keep.cons (t := 20) rfl (Keep.cons (t := 21) rfl (Keep.cons (t := 22) rfl Keep.nil))))))))))) ⟨by show k + 1 ≤ m.length; omega, ?_⟩ (by show m.length - (k + 1) < m.length - k; omega) (fun _ h => h.fewer (by simp))
                show j = _
                rw [hws.1, ← hj]
                have hlm : ¬ l[j] = m[k] := by simpa using h99
                have hnp : btw b c m[k] = false := by
                  cases hp : btw b c m[k] with
                  | false => rfl
                  | true => exact absurd (hws.2 hp) (by rw [← hj, List.getElem?_eq_getElem (idx_of3 h89)]; simpa using hlm)
                rw [hnp]; rfl
            · iterate 11 refine dp rfl rfl ?_
              refine jd_nil ?_
              refine jPn ?_
              refine jT ?_
              refine jc_no rfl ?_
              refine jc_skip ?_
              refine jB ?_
              refine jT ?_
              refine jc_region ?_
              refine jp rfl ?_
              refine ja rfl (by omega) ?_
              refine jp rfl ?_
              refine jl_nil ?_
              have hws := wid_step hsub (idx_of3 h83)
              refine j_again (j, k + 1) (Keep.cons (t := 1) rfl (Keep.cons (t := 6) rfl (Keep.cons (t := 13) rfl (Keep.cons (t := 14) rfl (Keep.cons (t := 16) rfl (Keep.cons (t := 17) rfl (Keep.cons (t := 18) rfl (Keep.cons (t := 19) rfl (Keep.cons (t := 20) rfl (Keep.cons (t := 21) rfl (Keep.cons (t := 22) rfl Keep.nil))))))))))) ⟨by show k + 1 ≤ m.length; omega, ?_⟩ (by show m.length - (k + 1) < m.length - k; omega) (fun _ h => h.fewer (by simp))
              show j = _
              rw [hws.1, ← hj]
              have hnp : btw b c m[k] = false := by
                cases hp : btw b c m[k] with
                | false => rfl
                | true => exact absurd (hws.2 hp) (by rw [← hj, List.getElem?_eq_none (by omega)]; simp)
              rw [hnp]; rfl
          · refine jl_nil ?_
            refine jT ?_
            refine jc_no rfl ?_
            refine jc_exit ?_
            refine jTx ?_
            refine jTx ?_
            refine jBx ?_
            refine jT ?_
            refine jc_seq ?_
            refine jc_seq ?_
            refine jc_region ?_
            refine jp rfl ?_
            refine jf rfl (decide_eq_false (by omega)) ?_
            iterate 2 refine jp rfl ?_
            refine jf rfl (decide_eq_false (by omega)) ?_
            iterate 4 refine jp rfl ?_
            refine jl_q rfl rfl (qLen rfl rfl rfl) ?_
            refine jf rfl (decide_eq_false (by omega)) ?_
            refine jp rfl ?_
            refine jl_nil ?_
            refine jT ?_
            refine jc_no rfl ?_
            refine jc_skip ?_
            refine jT ?_
            refine jc_seq ?_
            refine jc_region ?_
            refine jp rfl ?_
            refine jl_nil ?_
            refine jT ?_
            refine jc_seq ?_
            refine jc_seq ?_
            refine jc_region ?_
            refine jp rfl ?_
            refine jl_nil ?_
            refine jT ?_
            refine jc_block ?_
            have hn256 : s.now.length = 256 := (fchk_ok hok).1.2.1.1
            obtain ⟨nb, no, e0, hnx⟩ := (SM.mono hns hLM5).open (by intro e; have := congrArg List.length e; rw [bcells_len, List.length_nil] at this; omega)
            subst e0
            obtain ⟨sb, so, e0, hx⟩ := hs1.open (by intro e; have := congrArg List.length e; rw [List.length_map, List.length_nil] at this; have h2 := List.length_pos_of_mem hna.root; omega)
            subst e0
            refine jc_loopK (α := Nat × Bool) (fun x => [(1, .int .i64 root), (6, .pointer (some ⟨b6, 0, none⟩)), (13, .bool true), (18, .slice (some ⟨sb, so, none⟩) ns.length c1), (19, .slice a2 rs.length c2), (23, .bool x.2), (24, .int .i64 (x.1 : Int))]) (fun _ => M5) (fun _ => [(b6, .cells [bv, wv, .slice (some ⟨nb, no, none⟩) s.now.length nc, lw].toArray TSt (0, 0))]) (fun x => x.1 ≤ ns.length ∧ (root ∈ ns.take x.1 → x.2 = true)) (fun x => ns.length - x.1)
              (0, false) (Keep.cons (t := 1) rfl (Keep.cons (t := 6) rfl (Keep.cons (t := 13) rfl (Keep.cons (t := 18) rfl (Keep.cons (t := 19) rfl (Keep.cons (t := 23) rfl (Keep.cons (t := 24) rfl Keep.nil))))))) ⟨Nat.zero_le _, fun h => by simp at h⟩ (fun _ h => h) ?_
            rintro ⟨i, bq⟩ ⟨hi, hbq⟩
            try dsimp only at hi hbq ⊢
            refine jc_seq ?_
            refine jc_seq ?_
            refine jc_region ?_
            iterate 2 refine jp rfl ?_
            refine jl_q rfl rfl (qLen rfl rfl rfl) ?_
            refine js rfl (fun h118 => ?_) (fun h118 => ?_)
            · refine jl_nil ?_
              refine jT ?_
              refine jc_yes rfl ?_
              refine jc_skip ?_
              refine jT ?_
              refine jc_seq ?_
              refine jc_block ?_
              refine jc_seq ?_
              refine jc_region ?_
              refine jp rfl ?_
              refine jsb rfl (fun h122 => ?_) (fun h122 => ?_)
              · iterate 8 refine jp rfl ?_
                refine jl_nil ?_
                refine jT ?_
                refine jc_seq ?_
                refine jc_draw [(0, true), (1, true), (2, true), (3, true), (4, true), (5, true), (6, true), (7, true), (8, true), (9, true), (10, true), (11, true), (12, true), (13, true), (14, true), (15, true), (16, true), (17, true), (18, true), (19, true), (20, true), (21, true), (22, true), (23, true), (24, true), (25, true), (26, true), (27, true), (28, true), (29, true), (30, true), (31, true), (32, true), (33, true), (34, true), (35, true), (36, true), (37, true), (38, true), (39, true), (40, true), (41, true), (42, true), (43, true), (44, true), (45, true), (46, true)] _ (by kernel_rfl) (by kernel_rfl) (by kernel_rfl) rfl (fun _ h => h) ?_
                iterate 2 refine dp rfl rfl ?_
                have hi1 : i < ns.length := idx_of3 h118
                have hin := hna.node i hi1
                refine jd_q rfl rfl rfl (qEq (qIdxS rfl rfl rfl rfl (by omega)) (v' := .pointer (some ⟨sb, so + i, none⟩)) (by congr 3; omega)) ?_
                refine jd_q rfl rfl rfl (qLd (v := .int .i64 ns[i]) rfl rfl rfl rfl ((hx i _ (by simp [encZ])).cj _)) ?_
                refine df rfl rfl (decide_eq_false (by omega)) ?_
                iterate 3 refine dp rfl rfl ?_
                refine jd_q rfl rfl rfl (qEq (qIdxS rfl rfl rfl rfl (by omega)) (v' := .pointer (some ⟨sb, so + i, none⟩)) (by congr 3; omega)) ?_
                refine jd_q rfl rfl rfl (qLd (v := .int .i64 ns[i]) rfl rfl rfl rfl ((hx i _ (by simp [encZ])).cj _)) ?_
                refine df rfl rfl (decide_eq_false (by omega)) ?_
                iterate 3 refine dp rfl rfl ?_
                refine ds rfl rfl (fun h144 => ?_) (fun h144 => ?_)
                · iterate 3 refine dp rfl rfl ?_
                  refine da rfl rfl (by omega) ?_
                  obtain ⟨j, hj⟩ : ∃ j, i = j + 1 := ⟨i - 1, by omega⟩
                  have hup : ns[j] < ns[i] := by subst hj; exact hna.nup j hi1
                  refine jd_q rfl rfl rfl (qEq (qIdxS rfl rfl rfl rfl (by omega)) (v' := .pointer (some ⟨sb, so + j, none⟩)) (by congr 3; omega)) ?_
                  refine jd_q rfl rfl rfl (qLd (v := .int .i64 ns[j]) rfl rfl rfl rfl ((hx j _ (by simp [encZ])).cj _)) ?_
                  iterate 2 refine dp rfl rfl ?_
                  refine jd_q rfl rfl rfl (qEq (qIdxS rfl rfl rfl rfl (by omega)) (v' := .pointer (some ⟨sb, so + i, none⟩)) (by congr 3; omega)) ?_
                  refine jd_q rfl rfl rfl (qLd (v := .int .i64 ns[i]) rfl rfl rfl rfl ((hx i _ (by simp [encZ])).cj _)) ?_
                  refine df rfl rfl (decide_eq_false (by omega)) ?_
                  iterate 3 refine dp rfl rfl ?_
                  refine jd_q rfl rfl rfl (qFieldAddr rfl rfl rfl rfl rfl) ?_
                  refine jd_q rfl rfl rfl (qLd rfl rfl rfl rfl (CJ.loc rfl)) ?_
                  iterate 2 refine dp rfl rfl ?_
                  refine jd_q rfl rfl rfl (qEq (qIdxS rfl rfl rfl rfl (by omega)) (v' := .pointer (some ⟨sb, so + i, none⟩)) (by congr 3; omega)) ?_
                  refine jd_q rfl rfl rfl (qLd (v := .int .i64 ns[i]) rfl rfl rfl rfl ((hx i _ (by simp [encZ])).cj _)) ?_
                  refine jd_q rfl rfl rfl (qIdxS rfl rfl rfl rfl (by omega)) ?_
                  refine jd_q rfl rfl rfl (qLd rfl rfl rfl rfl ((hnx _ _ (by rw [Nat.mul_one]; exact bget (j := ns[i].toNat) (by omega))).cj _)) ?_
                  refine df rfl rfl (decide_eq_false (by omega)) ?_
                  iterate 9 refine dp rfl rfl ?_
                  refine jd_nil ?_
                  refine jPn ?_
                  refine jT ?_
                  refine jc_no rfl ?_
                  refine jc_skip ?_
                  refine jB ?_
                  refine jT ?_
                  refine jc_region ?_
                  refine jp rfl ?_
                  refine ja rfl (by omega) ?_
                  refine jp rfl ?_
                  refine jl_nil ?_
                  refine j_again (i + 1, true) (Keep.cons (t := 1) rfl (Keep.cons (t := 6) rfl (Keep.cons (t := 13) rfl (Keep.cons (t := 18) rfl (Keep.cons (t := 19) rfl (Keep.cons (t := 23) rfl (Keep.cons (t := 24) rfl Keep.nil))))))) ⟨by show i + 1 ≤ ns.length; omega, fun h => ?_⟩ (by show ns.length - (i + 1) < ns.length - i; omega) (fun _ h => h)
                  rfl
                · iterate 14 refine dp rfl rfl ?_
                  refine jd_q rfl rfl rfl (qFieldAddr rfl rfl rfl rfl rfl) ?_
                  refine jd_q rfl rfl rfl (qLd rfl rfl rfl rfl (CJ.loc rfl)) ?_
                  iterate 2 refine dp rfl rfl ?_
                  refine jd_q rfl rfl rfl (qEq (qIdxS rfl rfl rfl rfl (by omega)) (v' := .pointer (some ⟨sb, so + i, none⟩)) (by congr 3; omega)) ?_
                  refine jd_q rfl rfl rfl (qLd (v := .int .i64 ns[i]) rfl rfl rfl rfl ((hx i _ (by simp [encZ])).cj _)) ?_
                  refine jd_q rfl rfl rfl (qIdxS rfl rfl rfl rfl (by omega)) ?_
                  refine jd_q rfl rfl rfl (qLd rfl rfl rfl rfl ((hnx _ _ (by rw [Nat.mul_one]; exact bget (j := ns[i].toNat) (by omega))).cj _)) ?_
                  refine df rfl rfl (decide_eq_false (by omega)) ?_
                  iterate 9 refine dp rfl rfl ?_
                  refine jd_nil ?_
                  refine jPn ?_
                  refine jT ?_
                  refine jc_no rfl ?_
                  refine jc_skip ?_
                  refine jB ?_
                  refine jT ?_
                  refine jc_region ?_
                  refine jp rfl ?_
                  refine ja rfl (by omega) ?_
                  refine jp rfl ?_
                  refine jl_nil ?_
                  refine j_again (i + 1, true) (Keep.cons (t := 1) rfl (Keep.cons (t := 6) rfl (Keep.cons (t := 13) rfl (Keep.cons (t := 18) rfl (Keep.cons (t := 19) rfl (Keep.cons (t := 23) rfl (Keep.cons (t := 24) rfl Keep.nil))))))) ⟨by show i + 1 ≤ ns.length; omega, fun h => ?_⟩ (by show ns.length - (i + 1) < ns.length - i; omega) (fun _ h => h)
                  rfl
              · iterate 2 refine jp rfl ?_
                have hi1 : i < ns.length := idx_of3 h118
                have hin := hna.node i hi1
                refine jl_q rfl rfl (qEq (qIdxS rfl rfl rfl rfl (by omega)) (v' := .pointer (some ⟨sb, so + i, none⟩)) (by congr 3; omega)) ?_
                refine jl_q rfl rfl (qLd (v := .int .i64 ns[i]) rfl rfl rfl rfl ((hx i _ (by simp [encZ])).cj _)) ?_
                refine jp rfl ?_
                refine js rfl (fun h128 => ?_) (fun h128 => ?_)
                · iterate 2 refine jp rfl ?_
                  refine jl_nil ?_
                  refine jT ?_
                  refine jc_seq ?_
                  refine jc_draw [(0, true), (1, true), (2, true), (3, true), (4, true), (5, true), (6, true), (7, true), (8, true), (9, true), (10, true), (11, true), (12, true), (13, true), (14, true), (15, true), (16, true), (17, true), (18, true), (19, true), (20, true), (21, true), (22, true), (23, true), (24, true), (25, true), (26, true), (27, true), (28, true), (29, true), (30, true), (31, true), (32, true), (33, true), (34, true), (35, true), (36, true), (37, true), (38, true), (39, true), (40, true), (41, true), (42, true), (43, true), (44, true), (45, true), (46, true)] _ (by kernel_rfl) (by kernel_rfl) (by kernel_rfl) rfl (fun _ h => h) ?_
                  iterate 2 refine dp rfl rfl ?_
                  have hi1 : i < ns.length := idx_of3 h118
                  have hin := hna.node i hi1
                  refine jd_q rfl rfl rfl (qEq (qIdxS rfl rfl rfl rfl (by omega)) (v' := .pointer (some ⟨sb, so + i, none⟩)) (by congr 3; omega)) ?_
                  refine jd_q rfl rfl rfl (qLd (v := .int .i64 ns[i]) rfl rfl rfl rfl ((hx i _ (by simp [encZ])).cj _)) ?_
                  refine df rfl rfl (decide_eq_false (by omega)) ?_
                  iterate 3 refine dp rfl rfl ?_
                  refine jd_q rfl rfl rfl (qEq (qIdxS rfl rfl rfl rfl (by omega)) (v' := .pointer (some ⟨sb, so + i, none⟩)) (by congr 3; omega)) ?_
                  refine jd_q rfl rfl rfl (qLd (v := .int .i64 ns[i]) rfl rfl rfl rfl ((hx i _ (by simp [encZ])).cj _)) ?_
                  refine df rfl rfl (decide_eq_false (by omega)) ?_
                  iterate 3 refine dp rfl rfl ?_
                  refine ds rfl rfl (fun h144 => ?_) (fun h144 => ?_)
                  · iterate 3 refine dp rfl rfl ?_
                    refine da rfl rfl (by omega) ?_
                    obtain ⟨j, hj⟩ : ∃ j, i = j + 1 := ⟨i - 1, by omega⟩
                    have hup : ns[j] < ns[i] := by subst hj; exact hna.nup j hi1
                    refine jd_q rfl rfl rfl (qEq (qIdxS rfl rfl rfl rfl (by omega)) (v' := .pointer (some ⟨sb, so + j, none⟩)) (by congr 3; omega)) ?_
                    refine jd_q rfl rfl rfl (qLd (v := .int .i64 ns[j]) rfl rfl rfl rfl ((hx j _ (by simp [encZ])).cj _)) ?_
                    iterate 2 refine dp rfl rfl ?_
                    refine jd_q rfl rfl rfl (qEq (qIdxS rfl rfl rfl rfl (by omega)) (v' := .pointer (some ⟨sb, so + i, none⟩)) (by congr 3; omega)) ?_
                    refine jd_q rfl rfl rfl (qLd (v := .int .i64 ns[i]) rfl rfl rfl rfl ((hx i _ (by simp [encZ])).cj _)) ?_
                    refine df rfl rfl (decide_eq_false (by omega)) ?_
                    iterate 3 refine dp rfl rfl ?_
                    refine jd_q rfl rfl rfl (qFieldAddr rfl rfl rfl rfl rfl) ?_
                    refine jd_q rfl rfl rfl (qLd rfl rfl rfl rfl (CJ.loc rfl)) ?_
                    iterate 2 refine dp rfl rfl ?_
                    refine jd_q rfl rfl rfl (qEq (qIdxS rfl rfl rfl rfl (by omega)) (v' := .pointer (some ⟨sb, so + i, none⟩)) (by congr 3; omega)) ?_
                    refine jd_q rfl rfl rfl (qLd (v := .int .i64 ns[i]) rfl rfl rfl rfl ((hx i _ (by simp [encZ])).cj _)) ?_
                    refine jd_q rfl rfl rfl (qIdxS rfl rfl rfl rfl (by omega)) ?_
                    refine jd_q rfl rfl rfl (qLd rfl rfl rfl rfl ((hnx _ _ (by rw [Nat.mul_one]; exact bget (j := ns[i].toNat) (by omega))).cj _)) ?_
                    refine df rfl rfl (decide_eq_false (by omega)) ?_
                    iterate 9 refine dp rfl rfl ?_
                    refine jd_nil ?_
                    refine jPn ?_
                    refine jT ?_
                    refine jc_no rfl ?_
                    refine jc_skip ?_
                    refine jB ?_
                    refine jT ?_
                    refine jc_region ?_
                    refine jp rfl ?_
                    refine ja rfl (by omega) ?_
                    refine jp rfl ?_
                    refine jl_nil ?_
                    refine j_again (i + 1, true) (Keep.cons (t := 1) rfl (Keep.cons (t := 6) rfl (Keep.cons (t := 13) rfl (Keep.cons (t := 18) rfl (Keep.cons (t := 19) rfl (Keep.cons (t := 23) rfl (Keep.cons (t := 24) rfl Keep.nil))))))) ⟨by show i + 1 ≤ ns.length; omega, fun h => ?_⟩ (by show ns.length - (i + 1) < ns.length - i; omega) (fun _ h => h)
                    rfl
                  · iterate 14 refine dp rfl rfl ?_
                    refine jd_q rfl rfl rfl (qFieldAddr rfl rfl rfl rfl rfl) ?_
                    refine jd_q rfl rfl rfl (qLd rfl rfl rfl rfl (CJ.loc rfl)) ?_
                    iterate 2 refine dp rfl rfl ?_
                    refine jd_q rfl rfl rfl (qEq (qIdxS rfl rfl rfl rfl (by omega)) (v' := .pointer (some ⟨sb, so + i, none⟩)) (by congr 3; omega)) ?_
                    refine jd_q rfl rfl rfl (qLd (v := .int .i64 ns[i]) rfl rfl rfl rfl ((hx i _ (by simp [encZ])).cj _)) ?_
                    refine jd_q rfl rfl rfl (qIdxS rfl rfl rfl rfl (by omega)) ?_
                    refine jd_q rfl rfl rfl (qLd rfl rfl rfl rfl ((hnx _ _ (by rw [Nat.mul_one]; exact bget (j := ns[i].toNat) (by omega))).cj _)) ?_
                    refine df rfl rfl (decide_eq_false (by omega)) ?_
                    iterate 9 refine dp rfl rfl ?_
                    refine jd_nil ?_
                    refine jPn ?_
                    refine jT ?_
                    refine jc_no rfl ?_
                    refine jc_skip ?_
                    refine jB ?_
                    refine jT ?_
                    refine jc_region ?_
                    refine jp rfl ?_
                    refine ja rfl (by omega) ?_
                    refine jp rfl ?_
                    refine jl_nil ?_
                    refine j_again (i + 1, true) (Keep.cons (t := 1) rfl (Keep.cons (t := 6) rfl (Keep.cons (t := 13) rfl (Keep.cons (t := 18) rfl (Keep.cons (t := 19) rfl (Keep.cons (t := 23) rfl (Keep.cons (t := 24) rfl Keep.nil))))))) ⟨by show i + 1 ≤ ns.length; omega, fun h => ?_⟩ (by show ns.length - (i + 1) < ns.length - i; omega) (fun _ h => h)
                    rfl
                · iterate 2 refine jp rfl ?_
                  refine jl_nil ?_
                  refine jT ?_
                  refine jc_seq ?_
                  refine jc_draw [(0, true), (1, true), (2, true), (3, true), (4, true), (5, true), (6, true), (7, true), (8, true), (9, true), (10, true), (11, true), (12, true), (13, true), (14, true), (15, true), (16, true), (17, true), (18, true), (19, true), (20, true), (21, true), (22, true), (23, true), (24, true), (25, true), (26, true), (27, true), (28, true), (29, true), (30, true), (31, true), (32, true), (33, true), (34, true), (35, true), (36, true), (37, true), (38, true), (39, true), (40, true), (41, true), (42, true), (43, true), (44, true), (45, true), (46, true)] _ (by kernel_rfl) (by kernel_rfl) (by kernel_rfl) rfl (fun _ h => h) ?_
                  iterate 2 refine dp rfl rfl ?_
                  have hi1 : i < ns.length := idx_of3 h118
                  have hin := hna.node i hi1
                  refine jd_q rfl rfl rfl (qEq (qIdxS rfl rfl rfl rfl (by omega)) (v' := .pointer (some ⟨sb, so + i, none⟩)) (by congr 3; omega)) ?_
                  refine jd_q rfl rfl rfl (qLd (v := .int .i64 ns[i]) rfl rfl rfl rfl ((hx i _ (by simp [encZ])).cj _)) ?_
                  refine df rfl rfl (decide_eq_false (by omega)) ?_
                  iterate 3 refine dp rfl rfl ?_
                  refine jd_q rfl rfl rfl (qEq (qIdxS rfl rfl rfl rfl (by omega)) (v' := .pointer (some ⟨sb, so + i, none⟩)) (by congr 3; omega)) ?_
                  refine jd_q rfl rfl rfl (qLd (v := .int .i64 ns[i]) rfl rfl rfl rfl ((hx i _ (by simp [encZ])).cj _)) ?_
                  refine df rfl rfl (decide_eq_false (by omega)) ?_
                  iterate 3 refine dp rfl rfl ?_
                  refine ds rfl rfl (fun h144 => ?_) (fun h144 => ?_)
                  · iterate 3 refine dp rfl rfl ?_
                    refine da rfl rfl (by omega) ?_
                    obtain ⟨j, hj⟩ : ∃ j, i = j + 1 := ⟨i - 1, by omega⟩
                    have hup : ns[j] < ns[i] := by subst hj; exact hna.nup j hi1
                    refine jd_q rfl rfl rfl (qEq (qIdxS rfl rfl rfl rfl (by omega)) (v' := .pointer (some ⟨sb, so + j, none⟩)) (by congr 3; omega)) ?_
                    refine jd_q rfl rfl rfl (qLd (v := .int .i64 ns[j]) rfl rfl rfl rfl ((hx j _ (by simp [encZ])).cj _)) ?_
                    iterate 2 refine dp rfl rfl ?_
                    refine jd_q rfl rfl rfl (qEq (qIdxS rfl rfl rfl rfl (by omega)) (v' := .pointer (some ⟨sb, so + i, none⟩)) (by congr 3; omega)) ?_
                    refine jd_q rfl rfl rfl (qLd (v := .int .i64 ns[i]) rfl rfl rfl rfl ((hx i _ (by simp [encZ])).cj _)) ?_
                    refine df rfl rfl (decide_eq_false (by omega)) ?_
                    iterate 3 refine dp rfl rfl ?_
                    refine jd_q rfl rfl rfl (qFieldAddr rfl rfl rfl rfl rfl) ?_
                    refine jd_q rfl rfl rfl (qLd rfl rfl rfl rfl (CJ.loc rfl)) ?_
                    iterate 2 refine dp rfl rfl ?_
                    refine jd_q rfl rfl rfl (qEq (qIdxS rfl rfl rfl rfl (by omega)) (v' := .pointer (some ⟨sb, so + i, none⟩)) (by congr 3; omega)) ?_
                    refine jd_q rfl rfl rfl (qLd (v := .int .i64 ns[i]) rfl rfl rfl rfl ((hx i _ (by simp [encZ])).cj _)) ?_
                    refine jd_q rfl rfl rfl (qIdxS rfl rfl rfl rfl (by omega)) ?_
                    refine jd_q rfl rfl rfl (qLd rfl rfl rfl rfl ((hnx _ _ (by rw [Nat.mul_one]; exact bget (j := ns[i].toNat) (by omega))).cj _)) ?_
                    refine df rfl rfl (decide_eq_false (by omega)) ?_
                    iterate 9 refine dp rfl rfl ?_
                    refine jd_nil ?_
                    refine jPn ?_
                    refine jT ?_
                    refine jc_no rfl ?_
                    refine jc_skip ?_
                    refine jB ?_
                    refine jT ?_
                    refine jc_region ?_
                    refine jp rfl ?_
                    refine ja rfl (by omega) ?_
                    refine jp rfl ?_
                    refine jl_nil ?_
                    refine j_again (i + 1, false) (Keep.cons (t := 1) rfl (Keep.cons (t := 6) rfl (Keep.cons (t := 13) rfl (Keep.cons (t := 18) rfl (Keep.cons (t := 19) rfl (Keep.cons (t := 23) rfl (Keep.cons (t := 24) rfl Keep.nil))))))) ⟨by show i + 1 ≤ ns.length; omega, fun h => ?_⟩ (by show ns.length - (i + 1) < ns.length - i; omega) (fun _ h => h)
                    rw [show ns.take (i + 1) = ns.take i ++ [ns[i]] from List.take_succ_eq_append_getElem hi1] at h
                    rcases List.mem_append.1 h with h | h
                    · exact absurd (hbq h) (by rw [h122]; decide)
                    · exact absurd (List.mem_singleton.1 h).symm h128
                  · iterate 14 refine dp rfl rfl ?_
                    refine jd_q rfl rfl rfl (qFieldAddr rfl rfl rfl rfl rfl) ?_
                    refine jd_q rfl rfl rfl (qLd rfl rfl rfl rfl (CJ.loc rfl)) ?_
                    iterate 2 refine dp rfl rfl ?_
                    refine jd_q rfl rfl rfl (qEq (qIdxS rfl rfl rfl rfl (by omega)) (v' := .pointer (some ⟨sb, so + i, none⟩)) (by congr 3; omega)) ?_
                    refine jd_q rfl rfl rfl (qLd (v := .int .i64 ns[i]) rfl rfl rfl rfl ((hx i _ (by simp [encZ])).cj _)) ?_
                    refine jd_q rfl rfl rfl (qIdxS rfl rfl rfl rfl (by omega)) ?_
                    refine jd_q rfl rfl rfl (qLd rfl rfl rfl rfl ((hnx _ _ (by rw [Nat.mul_one]; exact bget (j := ns[i].toNat) (by omega))).cj _)) ?_
                    refine df rfl rfl (decide_eq_false (by omega)) ?_
                    iterate 9 refine dp rfl rfl ?_
                    refine jd_nil ?_
                    refine jPn ?_
                    refine jT ?_
                    refine jc_no rfl ?_
                    refine jc_skip ?_
                    refine jB ?_
                    refine jT ?_
                    refine jc_region ?_
                    refine jp rfl ?_
                    refine ja rfl (by omega) ?_
                    refine jp rfl ?_
                    refine jl_nil ?_
                    refine j_again (i + 1, false) (Keep.cons (t := 1) rfl (Keep.cons (t := 6) rfl (Keep.cons (t := 13) rfl (Keep.cons (t := 18) rfl (Keep.cons (t := 19) rfl (Keep.cons (t := 23) rfl (Keep.cons (t := 24) rfl Keep.nil))))))) ⟨by show i + 1 ≤ ns.length; omega, fun h => ?_⟩ (by show ns.length - (i + 1) < ns.length - i; omega) (fun _ h => h)
                    rw [show ns.take (i + 1) = ns.take i ++ [ns[i]] from List.take_succ_eq_append_getElem hi1] at h
                    rcases List.mem_append.1 h with h | h
                    · exact absurd (hbq h) (by rw [h122]; decide)
                    · exact absurd (List.mem_singleton.1 h).symm h128
            · refine jl_nil ?_
              refine jT ?_
              refine jc_no rfl ?_
              refine jc_exit ?_
              refine jTx ?_
              refine jTx ?_
              refine jBx ?_
              refine jT ?_
              refine jc_seq ?_
              refine jc_seq ?_
              refine jc_region ?_
              refine jp rfl ?_
              refine jl_nil ?_
              refine jT ?_
              refine jc_block ?_
              obtain rfl : bq = true := hbq (by rw [List.take_of_length_le (by omega)]; exact hna.root)
              refine jc_loopK (α := Nat) (fun x => [(1, .int .i64 root), (6, .pointer (some ⟨b6, 0, none⟩)), (13, .bool true), (19, .slice a2 rs.length c2), (23, .bool true), (25, .int .i64 (x : Int))]) (fun _ => M5) (fun _ => [(b6, .cells [bv, wv, .slice (some ⟨nb, no, none⟩) s.now.length nc, lw].toArray TSt (0, 0))]) (fun x => x ≤ rs.length) (fun x => rs.length - x)
                0 (Keep.cons (t := 1) rfl (Keep.cons (t := 6) rfl (Keep.cons (t := 13) rfl (Keep.cons (t := 19) rfl (Keep.cons (t := 23) rfl (Keep.cons (t := 25) rfl Keep.nil)))))) (Nat.zero_le _) (fun _ h => h) ?_
              rintro i hi
              try dsimp only at hi ⊢
              refine jc_seq ?_
              refine jc_seq ?_
              refine jc_region ?_
              iterate 2 refine jp rfl ?_
              refine jl_q rfl rfl (qLen rfl rfl rfl) ?_
              refine js rfl (fun h180 => ?_) (fun h180 => ?_)
              · refine jl_nil ?_
                refine jT ?_
                refine jc_yes rfl ?_
                refine jc_skip ?_
                refine jT ?_
                refine jc_seq ?_
                refine jc_block ?_
                refine jc_seq ?_
                refine jc_draw [(0, true), (1, true), (2, true), (3, true), (4, true), (5, true), (6, true), (7, true), (8, true), (9, true), (10, true), (11, true), (12, true), (13, true), (14, true), (15, true), (16, true), (17, true), (18, true), (19, true), (20, true), (21, true), (22, true), (23, true), (24, true), (25, true), (26, true), (27, true), (28, true), (29, true), (30, true), (31, true), (32, true), (33, true), (34, true), (35, true), (36, true), (37, true), (38, true)] _ (by kernel_rfl) (by kernel_rfl) (by kernel_rfl) rfl (fun _ h => h) ?_
                iterate 2 refine dp rfl rfl ?_
                have hi1 : i < rs.length := idx_of3 h180
                have hin := hna.ref i hi1
                obtain ⟨sb, so, e0, hx⟩ := hs2.open (by intro e; have := congrArg List.length e; rw [List.length_map, List.length_nil] at this; omega)
                subst e0
                refine jd_q rfl rfl rfl (qEq (qIdxS rfl rfl rfl rfl (by omega)) (v' := .pointer (some ⟨sb, so + i, none⟩)) (by congr 3; omega)) ?_
                refine jd_q rfl rfl rfl (qLd (v := .int .i64 rs[i]) rfl rfl rfl rfl ((hx i _ (by simp [encZ])).cj _)) ?_
                refine df rfl rfl (decide_eq_false (by omega)) ?_
                iterate 3 refine dp rfl rfl ?_
                refine jd_q rfl rfl rfl (qEq (qIdxS rfl rfl rfl rfl (by omega)) (v' := .pointer (some ⟨sb, so + i, none⟩)) (by congr 3; omega)) ?_
                refine jd_q rfl rfl rfl (qLd (v := .int .i64 rs[i]) rfl rfl rfl rfl ((hx i _ (by simp [encZ])).cj _)) ?_
                refine df rfl rfl (decide_eq_false (by omega)) ?_
                iterate 3 refine dp rfl rfl ?_
                refine ds rfl rfl (fun h197 => ?_) (fun h197 => ?_)
                · iterate 3 refine dp rfl rfl ?_
                  refine da rfl rfl (by omega) ?_
                  obtain ⟨j, hj⟩ : ∃ j, i = j + 1 := ⟨i - 1, by omega⟩
                  have hup : rs[j] < rs[i] := by subst hj; exact hna.rup j hi1
                  refine jd_q rfl rfl rfl (qEq (qIdxS rfl rfl rfl rfl (by omega)) (v' := .pointer (some ⟨sb, so + j, none⟩)) (by congr 3; omega)) ?_
                  refine jd_q rfl rfl rfl (qLd (v := .int .i64 rs[j]) rfl rfl rfl rfl ((hx j _ (by simp [encZ])).cj _)) ?_
                  iterate 2 refine dp rfl rfl ?_
                  refine jd_q rfl rfl rfl (qEq (qIdxS rfl rfl rfl rfl (by omega)) (v' := .pointer (some ⟨sb, so + i, none⟩)) (by congr 3; omega)) ?_
                  refine jd_q rfl rfl rfl (qLd (v := .int .i64 rs[i]) rfl rfl rfl rfl ((hx i _ (by simp [encZ])).cj _)) ?_
                  refine df rfl rfl (decide_eq_false (by omega)) ?_
                  iterate 3 refine dp rfl rfl ?_
                  refine jd_q rfl rfl rfl (qFieldAddr rfl rfl rfl rfl rfl) ?_
                  refine jd_q rfl rfl rfl (qLd rfl rfl rfl rfl (CJ.loc rfl)) ?_
                  iterate 2 refine dp rfl rfl ?_
                  refine jd_q rfl rfl rfl (qEq (qIdxS rfl rfl rfl rfl (by omega)) (v' := .pointer (some ⟨sb, so + i, none⟩)) (by congr 3; omega)) ?_
                  refine jd_q rfl rfl rfl (qLd (v := .int .i64 rs[i]) rfl rfl rfl rfl ((hx i _ (by simp [encZ])).cj _)) ?_
                  refine jd_q rfl rfl rfl (qIdxS rfl rfl rfl rfl (by omega)) ?_
                  refine jd_q rfl rfl rfl (qLd rfl rfl rfl rfl ((hnx _ _ (by rw [Nat.mul_one]; exact bget (j := rs[i].toNat) (by omega))).cj _)) ?_
                  refine df rfl rfl (decide_eq_false (by omega)) ?_
                  refine dp rfl rfl ?_
                  refine jd_nil ?_
                  refine jPn ?_
                  refine jT ?_
                  refine jc_no rfl ?_
                  refine jc_skip ?_
                  refine jB ?_
                  refine jT ?_
                  refine jc_region ?_
                  refine jp rfl ?_
                  refine ja rfl (by omega) ?_
                  refine jp rfl ?_
                  refine jl_nil ?_
                  refine j_again (i + 1) (Keep.cons (t := 1) rfl (Keep.cons (t := 6) rfl (Keep.cons (t := 13) rfl (Keep.cons (t := 19) rfl (Keep.cons (t := 23) rfl (Keep.cons (t := 25) rfl Keep.nil)))))) (by show i + 1 ≤ rs.length; omega) (by show rs.length - (i + 1) < rs.length - i; omega) (fun _ h => h)
                · iterate 14 refine dp rfl rfl ?_
                  refine jd_q rfl rfl rfl (qFieldAddr rfl rfl rfl rfl rfl) ?_
                  refine jd_q rfl rfl rfl (qLd rfl rfl rfl rfl (CJ.loc rfl)) ?_
                  iterate 2 refine dp rfl rfl ?_
                  refine jd_q rfl rfl rfl (qEq (qIdxS rfl rfl rfl rfl (by omega)) (v' := .pointer (some ⟨sb, so + i, none⟩)) (by congr 3; omega)) ?_
                  refine jd_q rfl rfl rfl (qLd (v := .int .i64 rs[i]) rfl rfl rfl rfl ((hx i _ (by simp [encZ])).cj _)) ?_
                  refine jd_q rfl rfl rfl (qIdxS rfl rfl rfl rfl (by omega)) ?_
                  refine jd_q rfl rfl rfl (qLd rfl rfl rfl rfl ((hnx _ _ (by rw [Nat.mul_one]; exact bget (j := rs[i].toNat) (by omega))).cj _)) ?_
                  refine df rfl rfl (decide_eq_false (by omega)) ?_
                  refine dp rfl rfl ?_
                  refine jd_nil ?_
                  refine jPn ?_
                  refine jT ?_
                  refine jc_no rfl ?_
                  refine jc_skip ?_
                  refine jB ?_
                  refine jT ?_
                  refine jc_region ?_
                  refine jp rfl ?_
                  refine ja rfl (by omega) ?_
                  refine jp rfl ?_
                  refine jl_nil ?_
                  refine j_again (i + 1) (Keep.cons (t := 1) rfl (Keep.cons (t := 6) rfl (Keep.cons (t := 13) rfl (Keep.cons (t := 19) rfl (Keep.cons (t := 23) rfl (Keep.cons (t := 25) rfl Keep.nil)))))) (by show i + 1 ≤ rs.length; omega) (by show rs.length - (i + 1) < rs.length - i; omega) (fun _ h => h)
              · refine jl_nil ?_
                refine jT ?_
                refine jc_no rfl ?_
                refine jc_exit ?_
                refine jTx ?_
                refine jTx ?_
                refine jBx ?_
                refine jT ?_
                refine jc_seq ?_
                refine jc_region ?_
                iterate 5 refine jp rfl ?_
                refine jl_nil ?_
                refine jT ?_
                refine jc_ret ?_
                refine jr1 rfl rfl ?_
                first | rfl | exact congrArg Value.bool (decide_eq_true rfl)

end Go.Proofs.Ytjibkdpeijcnkaa
