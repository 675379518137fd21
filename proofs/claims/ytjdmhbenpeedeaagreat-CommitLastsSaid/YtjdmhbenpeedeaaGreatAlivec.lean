/- Walks: a new pool is committed; whether a pool is great. -/
import Derived.Test.YtjdmhbenpeedeaaGreatCext
import Derived.Test.YtjdmhbenpeedeaaGreatGreat
namespace Go.Proofs.YtjdmhbenpeedeaaGreat
set_option linter.unusedVariables false
set_option linter.unusedSimpArgs false
open Go.RowKit

structure Sl where
  a : Option Addr
  n : Nat
  c : Nat
abbrev Sl.v (s : Sl) : Value := .slice s.a s.n s.c
/-- a pool's slices -/
structure V5 where
  b : Sl
  w : Sl
  n : Sl
  l : Sl
  d : Sl
abbrev pcl (x : V5) (g r n : Int) : List Value := poc x.b.v x.w.v x.n.v x.l.v g r n x.d.v
structure PT5 (M : Mem) (x : V5) (p : Po) : Prop where
  b : LS M x.b.v p.st.blocks
  w : WS M x.w.v p.st.waits
  n : BS M x.n.v p.st.now
  l : BS M x.l.v p.st.last
  d : NI M x.d.v p.dead
theorem PT5.mono {M M' : Mem} {x : V5} {p : Po} (h : PT5 M x p) (hM : MLe M M') : PT5 M' x p := ⟨h.b.mono hM, h.w.mono hM, h.n.mono hM, h.l.mono hM, h.d.mono hM⟩
theorem LS.len {M : Mem} {s : Sl} {bs : List (List By)} (h : LS M s.v bs) : s.n = bs.length := by obtain ⟨a, c, ps, e, _⟩ := h; exact congrArg (fun v => match v with | Value.slice _ n _ => n | _ => 0) e
theorem WS.len {M : Mem} {s : Sl} {ws : List Wt} (h : WS M s.v ws) : s.n = ws.length := by obtain ⟨a, c, ps, e, _⟩ := h; exact congrArg (fun v => match v with | Value.slice _ n _ => n | _ => 0) e
theorem BS.len {M : Mem} {s : Sl} {bs : List By} (h : BS M s.v bs) : s.n = bs.length := by obtain ⟨a, c, e, _⟩ := h; exact congrArg (fun v => match v with | Value.slice _ n _ => n | _ => 0) e
theorem NI.len {M : Mem} {s : Sl} {bs : List Int} (h : NI M s.v bs) : s.n = bs.length := by obtain ⟨a, c, e, _⟩ := h; exact congrArg (fun v => match v with | Value.slice _ n _ => n | _ => 0) e
theorem BS.sm {M : Mem} {s : Sl} {bs : List By} (h : BS M s.v bs) : SM M s.a (bcells bs) := by
  obtain ⟨a, c, e, _, h⟩ := h
  have : s.a = a := congrArg (fun v => match v with | Value.slice a _ _ => a | _ => none) e
  rw [this]; exact h
theorem NI.sm {M : Mem} {s : Sl} {bs : List Int} (h : NI M s.v bs) : SM M s.a (icells bs) := by
  obtain ⟨a, c, e, _, h⟩ := h
  have : s.a = a := congrArg (fun v => match v with | Value.slice a _ _ => a | _ => none) e
  rw [this]; exact h
theorem LS.sl {M : Mem} {v : Value} {bs : List (List By)} (h : LS M v bs) : ∃ s : Sl, v = s.v := by obtain ⟨a, c, ps, e, _⟩ := h; exact ⟨⟨a, _, c⟩, e⟩
theorem WS.sl {M : Mem} {v : Value} {bs : List Wt} (h : WS M v bs) : ∃ s : Sl, v = s.v := by obtain ⟨a, c, ps, e, _⟩ := h; exact ⟨⟨a, _, c⟩, e⟩
theorem BS.sl {M : Mem} {v : Value} {bs : List By} (h : BS M v bs) : ∃ s : Sl, v = s.v := by obtain ⟨a, c, e, _⟩ := h; exact ⟨⟨a, _, c⟩, e⟩
theorem NI.sl {M : Mem} {v : Value} {bs : List Int} (h : NI M v bs) : ∃ s : Sl, v = s.v := by obtain ⟨a, c, e, _⟩ := h; exact ⟨⟨a, _, c⟩, e⟩
theorem PT.five {M : Mem} {v : Value} {p : Po} (h : PT M v p) : ∃ x : V5, v = .agg (pcl x p.gen p.root p.next).toArray ∧ PT5 M x p := by
  obtain ⟨pv, pw, pn, pl, dv, rfl, h1, h2, h3, h4, h5⟩ := h
  obtain ⟨a, rfl⟩ := h1.sl
  obtain ⟨b, rfl⟩ := h2.sl
  obtain ⟨c, rfl⟩ := h3.sl
  obtain ⟨d, rfl⟩ := h4.sl
  obtain ⟨e, rfl⟩ := h5.sl
  exact ⟨⟨a, b, c, d, e⟩, rfl, h1, h2, h3, h4, h5⟩
theorem PT5.pt {M : Mem} {x : V5} {p : Po} (h : PT5 M x p) : PT M (.agg (pcl x p.gen p.root p.next).toArray) p := ⟨_, _, _, _, _, rfl, h.b, h.w, h.n, h.l, h.d⟩
def v5Z : V5 := ⟨⟨none, 0, 0⟩, ⟨none, 0, 0⟩, ⟨none, 0, 0⟩, ⟨none, 0, 0⟩, ⟨none, 0, 0⟩⟩
theorem ComP.form {p : Po} {u : Value} {M' : Mem} (h : ComP p u M') : ∃ x g r n e, u = .tuple #[.agg (pcl x g r n).toArray, .int .i64 e] ∧ ((e = 0 ∧ askC p = 0 ∧ PT5 M' x (cmt p) ∧ g = p.gen + 1 ∧ r = p.root ∧ n = p.next) ∨ (e = askC p ∧ askC p ≠ 0 ∧ x = v5Z)) := by
  unfold ComP at h
  split at h
  · rename_i ha
    obtain ⟨v, rfl, h⟩ := h
    obtain ⟨x, rfl, hx⟩ := h.five
    exact ⟨x, _, _, _, 0, rfl, .inl ⟨rfl, ha, hx, rfl, rfl, rfl⟩⟩
  · rename_i ha
    exact ⟨v5Z, 0, 0, 0, _, h, .inr ⟨rfl, ha, rfl⟩⟩
theorem dmake_spec (s : Sto) (v sl : Value) (lv : Int) (xs : List It) (M : Mem) (hv : ST M v s) (hn : NS M sl xs) (hkd : ∀ x ∈ xs, 0 ≤ x.key.kind ∧ x.key.kind < 256) (hst : stOk s) (hok : ndOk lv xs = true) (hsh : shOk s xs) (hat : mkAt (shareL s xs) < 256) (hwl : s.waits.length < 4096) :
    SpecL Tryz.prog 102 #[v, .agg #[.int .i64 lv, sl]] M [] fun u M' L' => (∃ v, u = .tuple #[v, .int .i64 (mkAt (shareL s xs)), .int .i64 0] ∧ ST M' v (mkS s lv xs)) ∧ L' = [] := by
  obtain ⟨b, w, n, l, rfl, h1, ⟨wa, wc, wps, rfl, hwc, hws, hwp, hwb⟩, h3, h4⟩ := hv.ex
  obtain ⟨a, c, ps, rfl, hc, hs, hp, hb⟩ := hn
  exact dmake_walk s b n l wa wc lv xs a c ps M h1 wps hwc hws hwp hwb h3 h4 hc hs hp hb hkd hst hok hsh hat hwl
theorem st0_ok : stOk st0 := by decide +kernel
theorem st0_at : mkAt (shareL st0 []) = 8 := by decide +kernel

theorem putnew_spec (v : Value) (M : Mem) (hv : ST M v st0) :
    SpecL Tryz.prog 70 #[v] M [] fun u M' L' => (∃ v, u = .tuple #[v, .int .i64 8, .int .i64 0] ∧ ST M' v (mkS st0 0 [])) ∧ L' = [] := by
  obtain ⟨a0, b0, c0, d0, rfl, h1, h2, h3, h4⟩ := id hv.ex
  refine spec_body (vs := [_]) 11 _ Tryz.func70 rfl Tryz.ntmps70 rfl rfl ?_; intro W
  refine jc_seq ?_
  refine jc_region ?_
  refine jl_h rfl rfl (hBox (cs := [_, _, _, _]) rfl rfl rfl rfl) ?_; rintro _ _ _ ⟨b1, rfl, rfl, rfl⟩
  refine jl_h rfl rfl (hAlloc rfl rfl) ?_; rintro _ _ _ ⟨b2, rfl, rfl, rfl⟩
  iterate 2 refine jp rfl ?_
  refine jl_nil ?_
  refine jT ?_
  refine jc_seq ?_
  refine jc_region ?_
  refine jl_q rfl rfl (qLdL rfl rfl rfl rfl rfl (by first | (simp only [Nat.reduceAdd, Nat.zero_add, Nat.add_zero, List.drop_succ_cons, List.drop_zero, List.drop_nil, List.take_succ_cons, List.take_zero, List.take_nil, List.cons_append, List.nil_append, List.append_nil, List.length_cons, List.length_nil]; try rfl) | rfl)) ?_
  refine jl_q rfl rfl (qBuild (cs := [_, _]) rfl rfl rfl (by rfl)) ?_
  refine jl_h rfl rfl (hCall rfl rfl rfl rfl rfl (by kernel_rfl) (dmake_spec st0 _ _ 0 [] M hv NS.nil (fun _ h => by cases h) st0_ok (by decide) (fun k h => by cases h) (by rw [st0_at]; decide) (by decide))) ?_; rintro _ M1 _ ⟨hM1, _, rfl, ⟨⟨v1, rfl, hst⟩, rfl⟩⟩
  rw [st0_at]
  obtain ⟨q1, q2, q3, q4, rfl, g1, g2, g3, g4⟩ := hst.ex
  obtain ⟨s1, rfl⟩ := g1.sl
  obtain ⟨s2, rfl⟩ := g2.sl
  obtain ⟨s3, rfl⟩ := g3.sl
  obtain ⟨s4, rfl⟩ := g4.sl
  iterate 3 refine jp rfl ?_
  refine jl_s rfl (hStoreL rfl rfl rfl rfl rfl rfl rfl rfl (by first | (simp only [Nat.reduceAdd, Nat.zero_add, Nat.add_zero, List.drop_succ_cons, List.drop_zero, List.drop_nil, List.take_succ_cons, List.take_zero, List.take_nil, List.cons_append, List.nil_append, List.append_nil, List.length_cons, List.length_nil]; try rfl) | rfl)) ?_; rintro _ _ _ ⟨rfl, rfl⟩
  iterate 2 refine jp rfl ?_
  refine jl_nil ?_
  refine jT ?_
  refine jc_ret ?_
  refine jrsd (rs := [_, _, _]) ([]) (by exact List.nil_sublist _) rfl (.cons (.agg rfl rfl rfl) (.cons (.tmp rfl) (.cons (.tmp rfl) .nil))) ?_
  exact ⟨⟨_, rfl, _, _, _, _, rfl, g1, g2, g3, g4⟩, rfl⟩

theorem fnew_spec (M : Mem) :
    SpecL Tryz.prog 36 #[] M [] fun u M' L' => PT M' u po0 ∧ L' = [] := by
  refine spec_body (vs := []) 13 _ Tryz.func36 rfl Tryz.ntmps36 rfl rfl ?_; intro W
  refine jc_seq ?_
  refine jc_region ?_
  refine jl_h rfl rfl (hAlloc rfl rfl) ?_; rintro _ _ _ ⟨b0, rfl, rfl, rfl⟩
  refine jl_nil ?_
  refine jT ?_
  refine jc_seq ?_
  refine jc_region ?_
  refine jl_h rfl rfl (hCall rfl rfl rfl rfl rfl (by kernel_rfl) (rnew_spec M)) ?_; rintro _ M0 _ ⟨hM0, _, rfl, ⟨hst0, rfl⟩⟩
  simp only [List.nil_append]
  obtain ⟨a0, b0, c0, d0, rfl, _⟩ := id hst0.ex
  refine jl_h rfl rfl (hCall rfl rfl rfl rfl rfl (by kernel_rfl) (putnew_spec _ M0 hst0)) ?_; rintro _ M1 _ ⟨hM1, _, rfl, ⟨⟨v1, rfl, hst⟩, rfl⟩⟩
  obtain ⟨q1, q2, q3, q4, rfl, g1, g2, g3, g4⟩ := hst.ex
  obtain ⟨s1, rfl⟩ := g1.sl
  obtain ⟨s2, rfl⟩ := g2.sl
  obtain ⟨s3, rfl⟩ := g3.sl
  obtain ⟨s4, rfl⟩ := g4.sl
  iterate 4 refine jp rfl ?_
  refine jl_h rfl rfl (hAlloc rfl rfl) ?_; rintro _ _ _ ⟨b1, rfl, rfl, rfl⟩
  refine jl_s rfl (hStoreL rfl rfl rfl rfl rfl rfl rfl rfl (by first | (simp only [Nat.reduceAdd, Nat.zero_add, Nat.add_zero, List.drop_succ_cons, List.drop_zero, List.drop_nil, List.take_succ_cons, List.take_zero, List.take_nil, List.cons_append, List.nil_append, List.append_nil, List.length_cons, List.length_nil]; try rfl) | rfl)) ?_; rintro _ _ _ ⟨rfl, rfl⟩
  iterate 2 refine jp rfl ?_
  refine jl_nil ?_
  refine jT ?_
  refine jc_seq ?_
  refine jc_region ?_
  refine jl_q rfl rfl (qLdL rfl rfl rfl rfl rfl (by first | (simp only [Nat.reduceAdd, Nat.zero_add, Nat.add_zero, List.drop_succ_cons, List.drop_zero, List.drop_nil, List.take_succ_cons, List.take_zero, List.take_nil, List.cons_append, List.nil_append, List.append_nil, List.length_cons, List.length_nil]; try rfl) | rfl)) ?_
  refine jp rfl ?_
  refine jl_q rfl rfl (qBuild (cs := [_, _, _, _, _, _, _, _]) rfl rfl rfl (by rfl)) ?_
  refine jl_s rfl (hStoreL rfl rfl rfl rfl rfl rfl rfl rfl (by first | (simp only [Nat.reduceAdd, Nat.zero_add, Nat.add_zero, List.drop_succ_cons, List.drop_zero, List.drop_nil, List.take_succ_cons, List.take_zero, List.take_nil, List.cons_append, List.nil_append, List.append_nil, List.length_cons, List.length_nil]; try rfl) | rfl)) ?_; rintro _ _ _ ⟨rfl, rfl⟩
  refine jl_nil ?_
  refine jT ?_
  refine jc_ret ?_
  refine jrsd (rs := [_]) ([]) (by exact List.nil_sublist _) rfl (.cons (.agg rfl rfl rfl) .nil) ?_
  exact ⟨⟨_, _, _, _, _, rfl, g1, g2, g3, g4, none, 0, rfl, Nat.le_refl _, SM.nil⟩, rfl⟩

theorem alive_gen (p0 : Po) (hnew : ∀ M, SpecL Tryz.prog 36 #[] M [] fun u M' L' => PT M' u p0 ∧ L' = []) (ha : askC p0 = 0) (hn0 : PoN p0) (hg0 : p0.gen = 0) (M : Mem) :
    SpecL Tryz.prog 14 #[] M [] fun u M' L' => u = .bool true ∧ L' = [] := by
  refine spec_body (vs := []) 34 _ Tryz.func14 rfl Tryz.ntmps14 rfl rfl ?_; intro W
  refine jc_seq ?_
  refine jc_region ?_
  refine jp rfl ?_
  refine jl_nil ?_
  refine jT ?_
  refine jc_seq ?_
  refine jc_region ?_
  refine jl_h rfl rfl (hCall rfl rfl rfl rfl rfl (by kernel_rfl) (hnew M)) ?_; rintro _ M1 _ ⟨hM1, _, rfl, ⟨hpt, rfl⟩⟩
  simp only [List.nil_append]
  refine jl_h rfl rfl (hCall rfl rfl rfl rfl rfl (by kernel_rfl) (commit_spec p0 _ M1 hpt hn0)) ?_; rintro _ M2 _ ⟨hM2, _, rfl, ⟨hc, rfl⟩⟩
  simp only [List.nil_append]
  obtain ⟨x, g, r, n, e, rfl, ⟨rfl, _, hx, rfl, rfl, rfl⟩ | ⟨_, hne, _⟩⟩ := hc.form
  rotate_left
  · exact absurd ha hne
  iterate 3 refine jp rfl ?_
  refine jl_h rfl rfl (hAlloc rfl rfl) ?_; rintro _ _ _ ⟨b1, rfl, rfl, rfl⟩
  refine jl_s rfl (hStoreL rfl rfl rfl rfl rfl rfl rfl rfl (by first | (simp only [Nat.reduceAdd, Nat.zero_add, Nat.add_zero, List.drop_succ_cons, List.drop_zero, List.drop_nil, List.take_succ_cons, List.take_zero, List.take_nil, List.cons_append, List.nil_append, List.append_nil, List.length_cons, List.length_nil]; try rfl) | rfl)) ?_; rintro _ _ _ ⟨rfl, rfl⟩
  refine jp rfl ?_
  refine jl_nil ?_
  refine jT ?_
  refine jc_seq ?_
  refine jc_region ?_
  refine jp rfl ?_
  refine jt rfl (decide_eq_true (by first | omega | (have h := hx.w.len; rw [h]; rfl) | decide)) ?_
  refine jp rfl ?_
  refine jl_q rfl rfl (qFieldAddr rfl rfl rfl rfl rfl) ?_
  refine jl_q rfl rfl (qLd rfl rfl rfl rfl (CJ.loc rfl)) ?_
  refine jt rfl (decide_eq_true (by first | omega | (have h := hx.w.len; rw [h]; rfl) | decide)) ?_
  iterate 2 refine jp rfl ?_
  refine jl_q rfl rfl (qFieldAddr rfl rfl rfl rfl rfl) ?_
  refine jl_q rfl rfl (qFieldAddr rfl rfl rfl rfl rfl) ?_
  refine jl_q rfl rfl (qFieldAddr rfl rfl rfl rfl rfl) ?_
  refine jl_q rfl rfl (qLd rfl rfl rfl rfl (CJ.loc rfl)) ?_
  refine jl_q rfl rfl (qLen rfl rfl rfl) ?_
  refine jt rfl (decide_eq_true (by first | omega | (have h := hx.w.len; rw [h]; rfl) | decide)) ?_
  iterate 2 refine jp rfl ?_
  refine jl_q rfl rfl (qFieldAddr rfl rfl rfl rfl rfl) ?_
  refine jl_q rfl rfl (qFieldAddr rfl rfl rfl rfl rfl) ?_
  refine jl_q rfl rfl (qLd rfl rfl rfl rfl (CJ.loc rfl)) ?_
  refine jl_q rfl rfl (qEq (qStr (xs := (cmt p0).st.last.map fun b => (b.toNat : Int)) rfl rfl rfl (by rw [List.length_map, hx.l.len]) (by simpa [bcells, List.map_map, Function.comp_def] using hx.l.sm.sj _)) (v' := .string (strB (cmt p0).st.last)) (by rw [strOfNums_b])) ?_
  refine jl_q rfl rfl (qFieldAddr rfl rfl rfl rfl rfl) ?_
  refine jl_q rfl rfl (qFieldAddr rfl rfl rfl rfl rfl) ?_
  refine jl_q rfl rfl (qLd rfl rfl rfl rfl (CJ.loc rfl)) ?_
  refine jl_q rfl rfl (qEq (qStr (xs := (cmt p0).st.now.map fun b => (b.toNat : Int)) rfl rfl rfl (by rw [List.length_map, hx.n.len]) (by simpa [bcells, List.map_map, Function.comp_def] using hx.n.sm.sj _)) (v' := .string (strB (cmt p0).st.now)) (by rw [strOfNums_b])) ?_
  refine jl_q rfl rfl (qP rfl rfl) ?_
  iterate 2 refine jp rfl ?_
  refine jl_nil ?_
  refine jT ?_
  refine jc_ret ?_
  refine jq_drop (L' := []) (List.nil_sublist _) ?_
  refine jr1 rfl rfl ?_
  exact ⟨congrArg Value.bool ((strB_eq _ _).trans (decide_eq_true rfl)), rfl⟩


theorem alive_spec (M : Mem) : SpecL Tryz.prog 14 #[] M [] fun u M' L' => u = .bool true ∧ L' = [] := alive_gen po0 fnew_spec po0_ask po0_n rfl M

theorem fgreat_spec (x : V5) (g r n : Int) (p : Po) (M : Mem) (h : PT5 M x p) :
    SpecL Tryz.prog 6 #[.agg (pcl x g r n).toArray] M [] fun u M' L' => (∃ b, u = .bool b ∧ (b = false → p.dead.length ≤ 1000)) ∧ L' = [] := by
  refine spec_body (vs := [_]) 12 _ Tryz.func6 rfl Tryz.ntmps6 rfl rfl ?_; intro W
  refine jc_seq ?_
  refine jc_region ?_
  refine jl_h rfl rfl (hBox (cs := [_, _, _, _, _, _, _, _]) rfl rfl rfl rfl) ?_; rintro _ _ _ ⟨b1, rfl, rfl, rfl⟩
  refine jp rfl ?_
  refine jl_nil ?_
  refine jT ?_
  refine jc_seq ?_
  refine jc_region ?_
  refine jl_q rfl rfl (qFieldAddr rfl rfl rfl rfl rfl) ?_
  refine jl_q rfl rfl (qLdL rfl rfl rfl rfl rfl (by first | (simp only [Nat.reduceAdd, Nat.zero_add, Nat.add_zero, List.drop_succ_cons, List.drop_zero, List.drop_nil, List.take_succ_cons, List.take_zero, List.take_nil, List.cons_append, List.nil_append, List.append_nil, List.length_cons, List.length_nil]; try rfl) | rfl)) ?_
  refine jl_h rfl rfl (hCall rfl rfl rfl rfl rfl (by kernel_rfl) (great_spec p.st _ M ⟨_, _, _, _, rfl, h.b, h.w, h.n, h.l⟩)) ?_; rintro _ M1 _ ⟨hM1, _, rfl, ⟨⟨b, rfl⟩, rfl⟩⟩
  simp only [List.nil_append]
  refine jsb rfl (fun h6 => ?_) (fun h6 => ?_)
  · iterate 6 refine jp rfl ?_
    refine jl_nil ?_
    refine jT ?_
    refine jc_ret ?_
    refine jq_drop (L' := []) (List.nil_sublist _) ?_
    refine jr1 rfl rfl ?_
    exact ⟨⟨_, rfl, fun h => by cases h⟩, rfl⟩
  · refine jl_q rfl rfl (qFieldAddr rfl rfl rfl rfl rfl) ?_
    refine jl_q rfl rfl (qLd rfl rfl rfl rfl (CJ.loc rfl)) ?_
    refine jl_q rfl rfl (qLen rfl rfl rfl) ?_
    iterate 3 refine jp rfl ?_
    refine jl_nil ?_
    refine jT ?_
    refine jc_ret ?_
    refine jq_drop (L' := []) (List.nil_sublist _) ?_
    refine jr1 rfl rfl ?_
    exact ⟨⟨_, rfl, fun hb => by have h1 := h.d.len; have := of_decide_eq_false hb; omega⟩, rfl⟩

end Go.Proofs.YtjdmhbenpeedeaaGreat
