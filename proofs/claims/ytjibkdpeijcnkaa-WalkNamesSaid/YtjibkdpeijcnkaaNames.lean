/- WalkNames' function is walked. -/
import Derived.Test.YtjibkdpeijcnkaaAlive
import Derived.Test.YtjibkdpeijcnkaaNodes
namespace Go.Proofs.Ytjibkdpeijcnkaa
set_option linter.unusedVariables false
set_option linter.unusedSimpArgs false
open Go.RowKit

theorem up_eq {l l' : List Int} (h : l.Pairwise (· < ·)) (h' : l'.Pairwise (· < ·)) (hm : ∀ x, x ∈ l ↔ x ∈ l') : l = l' := by
  have nd : ∀ {m : List Int}, m.Pairwise (· < ·) → m.Nodup := fun hm => hm.imp fun {a b} h e => by omega
  exact ((List.perm_ext_iff_of_nodup (nd h) (nd h')).2 hm).eq_of_pairwise (le := (· < ·)) (fun a b _ _ h1 h2 => by omega) h h'
theorem al_rch {n : Nat} (h : Rch as2 9 n) : n = 9 ∨ n = 8 := by
  induction h with
  | root => exact .inl rfl
  | kid h hnd hl hx ih =>
    rename_i m lv ys x
    rcases ih with rfl | rfl
    · rw [al_rd9] at hnd
      obtain ⟨rfl, rfl⟩ : (1 : Int) = lv ∧ al2 = ys := by simpa using hnd
      rw [List.mem_singleton.1 hx]; exact .inr rfl
    · rw [al_rd8] at hnd
      obtain ⟨rfl, rfl⟩ : (0 : Int) = lv ∧ al1 = ys := by simpa using hnd
      omega
theorem al_nodes {ns rs : List Int} (h : NdsOk as2 9 ns rs) : ns = [8, 9] ∧ rs = [] := by
  refine ⟨up_eq h.up (by decide) fun x => (h.is x).trans ?_, ?_⟩
  · constructor
    · rintro ⟨n, rfl, hr⟩
      rcases al_rch hr with rfl | rfl <;> simp
    · intro hx
      simp only [List.mem_cons, List.not_mem_nil, or_false] at hx
      rcases hx with rfl | rfl
      · exact ⟨8, rfl, .kid (x := ⟨kyOf 2, 8, []⟩) .root al_rd9 (by decide) (by simp [al2])⟩
      · exact ⟨9, rfl, .root⟩
  · cases rs with
    | nil => rfl
    | cons x xs =>
      exfalso
      obtain ⟨hk, n, ys, y, hr, hnd, hy, rfl⟩ := (h.ris x).1 (by simp)
      rcases al_rch hr with rfl | rfl
      · rw [al_rd9] at hnd
        have : (1 : Int) = 0 := (Prod.mk.inj (Option.some.inj hnd)).1
        omega
      · rw [al_rd8] at hnd
        obtain rfl : al1 = ys := (Prod.mk.inj (Option.some.inj hnd)).2
        simp only [al1, List.mem_cons, List.not_mem_nil, or_false] at hy
        rcases hy with rfl | rfl <;> exact hk rfl
theorem nds_is (s : Sto) (root : Int) (ns rs : List Int) (hok : (fchk s root).2 = 0) (hu : ∀ ns' rs', NdsOk s root.toNat ns' rs' → ns' = ns ∧ rs' = rs) (M : Mem) (v : Value) (h : ST M v s) : SpecL Try.prog 16 #[v, .int .i64 root] M [] fun u M' L' => (∃ v1 v2, u = .tuple #[v1, v2, .int .i64 0] ∧ IS M' v1 ns ∧ IS M' v2 rs) ∧ L' = [] := by
  refine (nodes_spec s v root M h).mono ?_
  intro u M' L' hh
  obtain ⟨v1, v2, ns', rs', h1, h2, h3, h4⟩ := hh.1.ok hok
  obtain ⟨rfl, rfl⟩ := hu _ _ h4
  exact ⟨⟨v1, v2, h1, h2, h3⟩, hh.2⟩
theorem al_nds (M : Mem) (v : Value) (h : ST M v as2) : SpecL Try.prog 16 #[v, .int .i64 9] M [] fun u M' L' => (∃ v1 v2, u = .tuple #[v1, v2, .int .i64 0] ∧ IS M' v1 [8, 9] ∧ IS M' v2 []) ∧ L' = [] :=
  nds_is as2 9 [8, 9] [] al_chk (fun _ _ h => al_nodes h) M v h
theorem al_r24 : (rng as2 9 (kyOf 2) (kyOf 4)).length = 2 := by decide +kernel
theorem al_r42 : (rng as2 9 (kyOf 4) (kyOf 2)).length = 0 := by decide +kernel
theorem al_chk10 : fchk as2 10 = (0, 6) := by
  unfold fchk; rw [if_pos as2_ok, if_neg (by decide), if_pos (by decide +kernel)]

set_option maxRecDepth 100000 in
set_option maxHeartbeats 8000000 in
theorem wnames_walk (M : Mem) :
    SpecL Try.prog 5 #[] M [] fun u _ _ => u = .bool true := by
  have hck := al_chk
  have hck10 := congrArg Prod.snd al_chk10
  have hl24 := al_r24
  have hl42 := al_r42
  have hla : ([8, 9] : List Int).length = 2 := rfl
  have hlb : ([] : List Int).length = 0 := rfl
  simp only at hck10
  refine spec_body (vs := []) 93 _ Try.func5 rfl Try.ntmps5 rfl rfl ?_; intro W
  refine jc_seq ?_
  refine jc_region ?_
  refine jp rfl ?_
  refine jl_nil ?_
  refine jT ?_
  refine jc_seq ?_
  refine jc_seq ?_
  refine jc_region ?_
  refine jl_h rfl rfl (hCall rfl rfl rfl rfl rfl (by kernel_rfl) (alive_spec M)) ?_; rintro _ M1 _ ⟨hM1, _, rfl, ⟨rfl, rfl⟩⟩
  simp only [List.nil_append]
  refine jp rfl ?_
  refine jl_nil ?_
  refine jT ?_
  refine jc_no rfl ?_
  refine jc_skip ?_
  refine jT ?_
  refine jc_seq ?_
  refine jc_region ?_
  refine jl_h rfl rfl (hCall rfl rfl rfl rfl rfl (by kernel_rfl) (made_spec M1)) ?_; rintro _ M2 _ ⟨hM2, _, rfl, ⟨⟨v15, rfl, hs2⟩, rfl⟩⟩
  simp only [List.nil_append]
  obtain ⟨bv2, wv2, nv2, lv2, rfl, f1, f2, f3, f4⟩ := hs2.ex
  obtain ⟨ba2, bc2, bps2, rfl, _⟩ := id f1
  obtain ⟨wa2, wc2, wps2, rfl, _⟩ := id f2
  obtain ⟨na2, nc2, rfl, _⟩ := id f3
  obtain ⟨la2, lc2, rfl, _⟩ := id f4
  iterate 3 refine jp rfl ?_
  refine jl_h rfl rfl (hAlloc rfl rfl) ?_; rintro _ _ _ ⟨b1, rfl, rfl, rfl⟩
  refine jl_s rfl (hStoreL rfl rfl rfl rfl rfl rfl rfl rfl (by first | (simp only [Nat.reduceAdd, Nat.zero_add, Nat.add_zero, List.drop_succ_cons, List.drop_zero, List.drop_nil, List.take_succ_cons, List.take_zero, List.take_nil, List.cons_append, List.nil_append, List.append_nil, List.length_cons, List.length_nil]; done) | (simp only [Nat.reduceAdd, Nat.zero_add, Nat.add_zero, List.drop_succ_cons, List.drop_zero, List.drop_nil, List.take_succ_cons, List.take_zero, List.take_nil, List.cons_append, List.nil_append, List.append_nil, List.length_cons, List.length_nil]; rfl) | rfl)) ?_; rintro _ _ _ ⟨rfl, rfl⟩
  refine jp rfl ?_
  refine jl_nil ?_
  refine jT ?_
  refine jc_seq ?_
  refine jc_draw [(0, true), (1, true), (2, true), (3, false), (4, true), (5, true), (6, true), (7, true), (8, true)] _ (by kernel_rfl) (by kernel_rfl) (by kernel_rfl) rfl (fun _ h => h) ?_
  refine jd_q rfl rfl rfl (qLdL rfl rfl rfl rfl rfl (by first | (simp only [Nat.reduceAdd, Nat.zero_add, Nat.add_zero, List.drop_succ_cons, List.drop_zero, List.drop_nil, List.take_succ_cons, List.take_zero, List.take_nil, List.cons_append, List.nil_append, List.append_nil, List.length_cons, List.length_nil]; done) | (simp only [Nat.reduceAdd, Nat.zero_add, Nat.add_zero, List.drop_succ_cons, List.drop_zero, List.drop_nil, List.take_succ_cons, List.take_zero, List.take_nil, List.cons_append, List.nil_append, List.append_nil, List.length_cons, List.length_nil]; rfl) | rfl)) ?_
  refine jd_q rfl rfl rfl (qCall rfl rfl rfl rfl rfl (by kernel_rfl) (key_spec 2 _)) ?_
  refine jd_q rfl rfl rfl (qCall rfl rfl rfl rfl rfl (by kernel_rfl) (key_spec 4 _)) ?_
  refine jd_h rfl rfl rfl (hCall rfl rfl rfl rfl rfl (by kernel_rfl) (range_spec as2 _ 9 (kyOf 2) (kyOf 4) M2 hs2)) ?_; rintro _ M3 _ ⟨hMM3, _, rfl, ⟨⟨v22, rfl, hns22⟩, rfl⟩⟩
  refine ⟨_, _, MLe.refl _, hMM3, fun _ h => h, by simp, ?_⟩
  simp only [List.nil_append]
  have hLM3 : MLe M2 M3 := hMM3
  rw [al_chk, if_pos rfl] at hns22
  obtain ⟨ra22, rc22, rp22, rfl, _⟩ := hns22
  iterate 5 refine dp rfl rfl ?_
  refine jd_nil ?_
  refine jPn ?_
  refine jT ?_
  refine jc_seq ?_
  refine jc_draw [(0, true), (1, true), (2, true), (3, false), (4, true), (5, true), (6, true), (7, true), (8, true)] _ (by kernel_rfl) (by kernel_rfl) (by kernel_rfl) rfl (fun _ h => h) ?_
  refine jd_q rfl rfl rfl (qLdL rfl rfl rfl rfl rfl (by first | (simp only [Nat.reduceAdd, Nat.zero_add, Nat.add_zero, List.drop_succ_cons, List.drop_zero, List.drop_nil, List.take_succ_cons, List.take_zero, List.take_nil, List.cons_append, List.nil_append, List.append_nil, List.length_cons, List.length_nil]; done) | (simp only [Nat.reduceAdd, Nat.zero_add, Nat.add_zero, List.drop_succ_cons, List.drop_zero, List.drop_nil, List.take_succ_cons, List.take_zero, List.take_nil, List.cons_append, List.nil_append, List.append_nil, List.length_cons, List.length_nil]; rfl) | rfl)) ?_
  refine jd_q rfl rfl rfl (qCall rfl rfl rfl rfl rfl (by kernel_rfl) (key_spec 4 _)) ?_
  refine jd_q rfl rfl rfl (qCall rfl rfl rfl rfl rfl (by kernel_rfl) (key_spec 2 _)) ?_
  refine jd_h rfl rfl rfl (hCall rfl rfl rfl rfl rfl (by kernel_rfl) (range_spec as2 _ 9 (kyOf 4) (kyOf 2) M3 (hs2.mono hLM3))) ?_; rintro _ M4 _ ⟨hMM4, _, rfl, ⟨⟨v29, rfl, hns29⟩, rfl⟩⟩
  refine ⟨_, _, MLe.refl _, hMM4, fun _ h => h, by simp, ?_⟩
  simp only [List.nil_append]
  have hLM4 : MLe M2 M4 := hLM3.trans hMM4
  rw [al_chk, if_pos rfl] at hns29
  obtain ⟨ra29, rc29, rp29, rfl, _⟩ := hns29
  iterate 5 refine dp rfl rfl ?_
  refine jd_nil ?_
  refine jPn ?_
  refine jT ?_
  refine jc_seq ?_
  refine jc_region ?_
  refine jl_q rfl rfl (qLdL rfl rfl rfl rfl rfl (by first | (simp only [Nat.reduceAdd, Nat.zero_add, Nat.add_zero, List.drop_succ_cons, List.drop_zero, List.drop_nil, List.take_succ_cons, List.take_zero, List.take_nil, List.cons_append, List.nil_append, List.append_nil, List.length_cons, List.length_nil]; done) | (simp only [Nat.reduceAdd, Nat.zero_add, Nat.add_zero, List.drop_succ_cons, List.drop_zero, List.drop_nil, List.take_succ_cons, List.take_zero, List.take_nil, List.cons_append, List.nil_append, List.append_nil, List.length_cons, List.length_nil]; rfl) | rfl)) ?_
  refine jl_h rfl rfl (hCall rfl rfl rfl rfl rfl (by kernel_rfl) (al_nds M4 _ (hs2.mono hLM4))) ?_; rintro _ M5 _ ⟨hMM5, _, rfl, ⟨⟨v1, v2, rfl, his1, his2⟩, rfl⟩⟩
  simp only [List.nil_append]
  have hLM5 : MLe M2 M5 := hLM4.trans hMM5
  obtain ⟨na1, nc1, rfl, hnc1, hns1⟩ := his1
  obtain ⟨na3, nc3, rfl, _, _⟩ := his2
  obtain ⟨sb, so, e0, hx⟩ := hns1.open (by simp)
  subst e0
  iterate 7 refine jp rfl ?_
  refine jl_nil ?_
  refine jT ?_
  refine jc_seq ?_
  refine jc_region ?_
  refine jl_q rfl rfl (qLdL rfl rfl rfl rfl rfl (by first | (simp only [Nat.reduceAdd, Nat.zero_add, Nat.add_zero, List.drop_succ_cons, List.drop_zero, List.drop_nil, List.take_succ_cons, List.take_zero, List.take_nil, List.cons_append, List.nil_append, List.append_nil, List.length_cons, List.length_nil]; done) | (simp only [Nat.reduceAdd, Nat.zero_add, Nat.add_zero, List.drop_succ_cons, List.drop_zero, List.drop_nil, List.take_succ_cons, List.take_zero, List.take_nil, List.cons_append, List.nil_append, List.append_nil, List.length_cons, List.length_nil]; rfl) | rfl)) ?_
  refine jl_q rfl rfl (qBuild (cs := [_, _, _]) rfl rfl rfl (by rfl)) ?_
  refine jl_q rfl rfl (qBuild (cs := [_, _, _]) rfl rfl rfl (by rfl)) ?_
  refine jl_h rfl rfl (hCall rfl rfl rfl rfl rfl (by kernel_rfl) (range_spec as2 _ 10 ⟨0, 0, 0⟩ ⟨0, 0, 0⟩ M5 (hs2.mono hLM5))) ?_; rintro _ M6 _ ⟨hMM6, _, rfl, ⟨⟨v42, rfl, hns42⟩, rfl⟩⟩
  simp only [List.nil_append]
  have hLM6 : MLe M2 M6 := hLM5.trans hMM6
  obtain ⟨ra42, rc42, rp42, rfl, _⟩ := hns42
  iterate 5 refine jp rfl ?_
  refine jl_nil ?_
  refine jT ?_
  refine jc_seq ?_
  refine jc_region ?_
  refine jp rfl ?_
  refine jl_q rfl rfl (qLen rfl rfl rfl) ?_
  refine jt rfl (decide_eq_true (by omega)) ?_
  iterate 2 refine jp rfl ?_
  refine jt rfl (decide_eq_true (by omega)) ?_
  iterate 3 refine jp rfl ?_
  refine jl_q rfl rfl (qLen rfl rfl rfl) ?_
  refine jt rfl (decide_eq_true (by omega)) ?_
  iterate 3 refine jp rfl ?_
  refine jt rfl (decide_eq_true (by omega)) ?_
  iterate 3 refine jp rfl ?_
  refine jl_q rfl rfl (qLen rfl rfl rfl) ?_
  refine jt rfl (decide_eq_true (by omega)) ?_
  iterate 3 refine jp rfl ?_
  refine jl_q rfl rfl (qIdxS rfl rfl rfl rfl (by decide)) ?_
  refine jl_q rfl rfl (qLd (v := .int .i64 8) rfl rfl rfl rfl (((hx 0 _ rfl).mono hMM6).cj _)) ?_
  refine jt rfl (decide_eq_true (by omega)) ?_
  iterate 3 refine jp rfl ?_
  refine jl_q rfl rfl (qIdxS rfl rfl rfl rfl (by decide)) ?_
  refine jl_q rfl rfl (qLd (v := .int .i64 9) rfl rfl rfl rfl (((hx 1 _ rfl).mono hMM6).cj _)) ?_
  refine jt rfl (decide_eq_true (by omega)) ?_
  iterate 3 refine jp rfl ?_
  refine jl_q rfl rfl (qLen rfl rfl rfl) ?_
  refine jt rfl (decide_eq_true (by omega)) ?_
  iterate 3 refine jp rfl ?_
  refine jt rfl (decide_eq_true (by omega)) ?_
  iterate 3 refine jp rfl ?_
  refine jt rfl (decide_eq_true (by omega)) ?_
  iterate 4 refine jp rfl ?_
  refine jl_nil ?_
  refine jT ?_
  refine jc_ret ?_
  refine jr1 rfl rfl ?_
  rfl

end Go.Proofs.Ytjibkdpeijcnkaa
