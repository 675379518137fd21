/- CommitCuts' function is walked. -/
import Derived.Test.YtjdmhbenpeedeaaCnames
namespace Go.Proofs.Ytjdmhbenpeedeaa
set_option linter.unusedVariables false
set_option linter.unusedSimpArgs false
open Go.RowKit

theorem setB_same (bs : List (List By)) (k : Nat) (ws : List Wt) : (∀ w ∈ ws, 0 ≤ w.1 ∧ w.1 ≠ (k : Int)) → (setB bs ws).getD k [] = bs.getD k [] := by
  refine list_snoc (p := fun ws => (∀ w ∈ ws, 0 ≤ w.1 ∧ w.1 ≠ (k : Int)) → (setB bs ws).getD k [] = bs.getD k []) (fun _ => rfl) (fun ws w ih h => ?_) ws
  have h0 := h w (by simp)
  rw [setB_snoc, ← ih fun v hv => h v (by simp [hv])]; simp [List.getD, List.getElem?_set_ne (show w.1.toNat ≠ k by omega)]
def fixedAt (p : Po) (i : Int) : Prop := i < 4 ∨ i = 4 + 2 * (p.gen % 2) ∨ i = 5 + 2 * (p.gen % 2)
theorem cut_same {p : Po} (h : PoOk p) (hn : PoN p) (keep : List Bool) {ph i : Nat} (hp : ph = 1 ∨ ph = 2) (hi : fixedAt p i) (hw : ∀ w ∈ p.st.waits, w.1 ≠ (i : Int)) : (setB (dsk p ph).1 (kept keep (dsk p ph).2)).getD i [] = p.st.blocks.getD i [] := by
  have hg := hn.gen
  have h0 : ∀ w ∈ p.st.waits, 0 ≤ w.1 ∧ w.1 ≠ (i : Int) := fun w hm => ⟨(h.st.1.w w hm).1, hw w hm⟩
  rcases hp with rfl | rfl
  · exact setB_same _ _ _ fun w hm => h0 w (kept_mem hm)
  · rw [setB_same _ _ _ fun w hm => ?_]
    · exact setB_same _ _ _ h0
    · have hm := kept_mem hm
      simp only [dsk, cmAdd, wts, List.mem_cons, List.not_mem_nil, or_false] at hm
      unfold fixedAt at hi
      rcases hm with rfl | rfl
      · exact ⟨by show 0 ≤ 4 + 2 * ((p.gen + 1) % 2); omega, by show 4 + 2 * ((p.gen + 1) % 2) ≠ _; omega⟩
      · exact ⟨by show 0 ≤ 4 + 2 * ((p.gen + 1) % 2) + 1; omega, by show 4 + 2 * ((p.gen + 1) % 2) + 1 ≠ _; omega⟩
theorem cut_last {p : Po} (hn : PoN p) {keep : List Bool} {k0 : Bool} (hk : keep = [k0]) {i : Nat} (h : (setB (dsk p 3).1 (kept keep (dsk p 3).2)).getD i [] ≠ (setB (dsk p 3).1 (dsk p 3).2).getD i []) : k0 = false ∧ (i : Int) = (p.gen + 1) % 4 := by
  have hg := hn.gen
  subst hk
  cases k0 with
  | true => exact absurd rfl h
  | false =>
    refine ⟨rfl, Classical.byContradiction fun hi => h ?_⟩
    have e : (setB (dsk p 3).1 (dsk p 3).2).getD i [] = (dsk p 3).1.getD i [] := setB_same _ _ _ fun w hw => by
      simp only [dsk, cmAdd, List.mem_cons, List.not_mem_nil, or_false] at hw
      subst hw
      exact ⟨by show 0 ≤ (p.gen + 1) % 4; omega, by show (p.gen + 1) % 4 ≠ _; omega⟩
    rw [e]; rfl
theorem LS.at_ {M : Mem} {s : Sl} {bs : List (List By)} (h : LS M s.v bs) {k : Nat} (hk : k < bs.length) : ∃ b o, ∃ t : Sl, s.a = some ⟨b, o, none⟩ ∧ CM M b (o + k * 1) t.v ∧ BS M t.v bs[k] := by
  obtain ⟨a, c, ps, e, _, hs, hp, hb⟩ := h
  obtain ⟨b, o, rfl, hx⟩ := hs.open (by intro e; have := congrArg List.length e; rw [List.length_map, List.length_nil] at this; have h2 := congrArg List.length hp; rw [List.length_map] at h2; omega)
  obtain ⟨va, vc, h1, h2, h3⟩ := blocks_get hx hp hb hk
  exact ⟨b, o, ⟨va, _, vc⟩, congrArg (fun v => match v with | Value.slice a _ _ => a | _ => none) e, h1, _, _, rfl, h2, h3⟩
theorem WS.at_ {M : Mem} {s : Sl} {ws : List Wt} (h : WS M s.v ws) {k : Nat} (hk : k < ws.length) : ∃ b o, s.a = some ⟨b, o, none⟩ ∧ CM M b (o + k * 2) (.int .i64 ws[k].1) := by
  obtain ⟨a, c, ps, e, _, hs, hp, hb⟩ := h
  obtain ⟨b, o, rfl, hx⟩ := hs.open (by intro e; have := congrArg List.length e; rw [flat_len wcell 2 wcell_len, List.length_nil] at this; have h2 := congrArg List.length hp; rw [List.length_map] at h2; omega)
  obtain ⟨va, vc, h1, h2, h3⟩ := waits_get hx hp hb hk
  exact ⟨b, o, congrArg (fun v => match v with | Value.slice a _ _ => a | _ => none) e, h1 0 _ rfl⟩
theorem any_on {ws : List Wt} {k : Nat} {i : Int} (hk : k < ws.length) : (∃ w ∈ ws.take (k + 1), w.1 = i) ↔ (∃ w ∈ ws.take k, w.1 = i) ∨ ws[k].1 = i := by
  rw [List.take_succ_eq_append_getElem hk]
  constructor
  · rintro ⟨w, hw, e⟩
    rcases List.mem_append.1 hw with hw | hw
    · exact .inl ⟨w, hw, e⟩
    · rw [List.mem_singleton.1 hw] at e; exact .inr e
  · rintro (⟨w, hw, e⟩ | e)
    · exact ⟨w, List.mem_append_left _ hw, e⟩
    · exact ⟨_, List.mem_append_right _ (by simp), e⟩

set_option maxHeartbeats 4000000 in
theorem ccuts_walk (p : Po) (x0 : V5) (M : Mem) (h : PT5 M x0 p) (hgen : 0 ≤ p.gen ∧ p.gen < 4294967296) (hnxt : 0 ≤ p.next ∧ p.next < 4294967296) (phase : Int) (keep : List Bool) (ka : Option Addr) (kc : Nat) (hks : SM M ka (bocells keep)) :
    SpecL Try.prog 5 #[.agg (pcl x0 p.gen p.root p.next).toArray, .int .i64 phase, .slice ka keep.length kc] M [] fun u M' L' => u = .bool true ∧ L' = [] := by
  refine spec_body (vs := [_, _, _]) 190 _ Try.func5 rfl Try.ntmps5 rfl rfl ?_; intro W
  refine jc_seq ?_
  refine jc_region ?_
  refine jl_h rfl rfl (hBox (cs := [_, _, _, _, _, _, _, _]) rfl rfl rfl rfl) ?_; rintro _ _ _ ⟨b3, rfl, rfl, rfl⟩
  refine jp rfl ?_
  refine jl_nil ?_
  refine jT ?_
  refine jc_seq ?_
  refine jc_region ?_
  refine jl_h rfl rfl (hCall rfl rfl rfl rfl rfl (by kernel_rfl) (alive_spec M)) ?_; rintro _ M1 _ ⟨hM1, _, rfl, ⟨rfl, rfl⟩⟩
  simp only [List.nil_append]
  refine jp rfl ?_
  refine jl_nil ?_
  refine jT ?_
  refine jc_seq ?_
  refine jc_seq ?_
  refine jc_region ?_
  iterate 2 refine jp rfl ?_
  refine jl_nil ?_
  refine jT ?_
  refine jc_no rfl ?_
  refine jc_skip ?_
  refine jT ?_
  refine jc_seq ?_
  refine jc_seq ?_
  refine jc_region ?_
  refine jl_q rfl rfl (qLdL rfl rfl rfl rfl rfl (by first | (simp only [Nat.reduceAdd, Nat.zero_add, Nat.add_zero, List.drop_succ_cons, List.drop_zero, List.drop_nil, List.take_succ_cons, List.take_zero, List.take_nil, List.cons_append, List.nil_append, List.append_nil, List.length_cons, List.length_nil]; try rfl) | rfl)) ?_
  refine jl_h rfl rfl (hCall rfl rfl rfl rfl rfl (by kernel_rfl) (fgreat_spec x0 p.gen p.root p.next p M1 (h.mono hM1))) ?_; rintro _ M2 _ ⟨hM2, _, rfl, ⟨⟨b, rfl, hgd⟩, rfl⟩⟩
  simp only [List.nil_append]
  refine jsb rfl (fun h24 => ?_) (fun h24 => ?_)
  · iterate 4 refine jp rfl ?_
    refine jl_nil ?_
    refine jT ?_
    refine jc_yes rfl ?_
    refine jc_seq ?_
    refine jc_region ?_
    iterate 2 refine jp rfl ?_
    refine jl_nil ?_
    refine jT ?_
    refine jc_ret ?_
    refine jTr ?_
    refine jq_drop (L' := []) (List.nil_sublist _) ?_
    refine jr1 rfl rfl ?_
    first | exact ⟨rfl, rfl⟩ | exact ⟨congrArg Value.bool (decide_eq_true (by omega)), rfl⟩
  · refine jp rfl ?_
    refine jl_q rfl rfl (qLen rfl rfl rfl) ?_
    refine js rfl (fun h27 => ?_) (fun h27 => ?_)
    · refine jp rfl ?_
      refine jl_nil ?_
      refine jT ?_
      refine jc_yes rfl ?_
      refine jc_seq ?_
      refine jc_region ?_
      iterate 2 refine jp rfl ?_
      refine jl_nil ?_
      refine jT ?_
      refine jc_ret ?_
      refine jTr ?_
      refine jq_drop (L' := []) (List.nil_sublist _) ?_
      refine jr1 rfl rfl ?_
      first | exact ⟨rfl, rfl⟩ | exact ⟨congrArg Value.bool (decide_eq_true (by omega)), rfl⟩
    · refine jp rfl ?_
      refine jl_nil ?_
      refine jT ?_
      refine jc_no rfl ?_
      refine jc_skip ?_
      refine jT ?_
      refine jc_seq ?_
      refine jc_region ?_
      refine jl_q rfl rfl (qLdL rfl rfl rfl rfl rfl (by first | (simp only [Nat.reduceAdd, Nat.zero_add, Nat.add_zero, List.drop_succ_cons, List.drop_zero, List.drop_nil, List.take_succ_cons, List.take_zero, List.take_nil, List.cons_append, List.nil_append, List.append_nil, List.length_cons, List.length_nil]; try rfl) | rfl)) ?_
      have hn : PoN p := ⟨hgen, hnxt, by have := hgd h24; omega⟩
      refine jl_h rfl rfl (hCall rfl rfl rfl rfl rfl (by kernel_rfl) (commit_spec p _ M2 (h.mono (hM1.trans hM2)).pt hn)) ?_; rintro _ M3 _ ⟨hM3, _, rfl, ⟨hc, rfl⟩⟩
      simp only [List.nil_append]
      obtain ⟨y, g, r, n, e, rfl, hcc⟩ := hc.form
      iterate 3 refine jp rfl ?_
      refine jl_h rfl rfl (hAlloc rfl rfl) ?_; rintro _ _ _ ⟨b8, rfl, rfl, rfl⟩
      refine jl_s rfl (hStoreL rfl rfl rfl rfl rfl rfl rfl rfl (by first | (simp only [Nat.reduceAdd, Nat.zero_add, Nat.add_zero, List.drop_succ_cons, List.drop_zero, List.drop_nil, List.take_succ_cons, List.take_zero, List.take_nil, List.cons_append, List.nil_append, List.append_nil, List.length_cons, List.length_nil]; try rfl) | rfl)) ?_; rintro _ _ _ ⟨rfl, rfl⟩
      refine jp rfl ?_
      refine jl_nil ?_
      refine jT ?_
      refine jc_seq ?_
      refine jc_region ?_
      refine jl_q rfl rfl (qLdL rfl rfl rfl rfl rfl (by first | (simp only [Nat.reduceAdd, Nat.zero_add, Nat.add_zero, List.drop_succ_cons, List.drop_zero, List.drop_nil, List.take_succ_cons, List.take_zero, List.take_nil, List.cons_append, List.nil_append, List.append_nil, List.length_cons, List.length_nil]; try rfl) | rfl)) ?_
      iterate 2 refine jp rfl ?_
      have hMM := (hM1.trans hM2).trans hM3
      refine jl_h rfl rfl (hCall rfl rfl rfl rfl rfl (by kernel_rfl) (cut_spec p _ M3 (h.mono hMM).pt hn phase keep ka kc (hks.mono hMM) (by omega))) ?_; rintro _ M4 _ ⟨hM4, _, rfl, ⟨hd, rfl⟩⟩
      simp only [List.nil_append]
      obtain ⟨xd, yd, f, rfl, hf⟩ := hd.form
      have hfe : ¬ e = 0 → f = e := by
        intro he
        obtain ⟨h1, _⟩ | ⟨h1, h2, _⟩ := hcc
        · exact absurd h1 he
        · obtain ⟨_, h3, _⟩ | ⟨_, h3, _⟩ | ⟨h3, _⟩ := hf
          · exact absurd h3 h2
          · exact absurd h3 h2
          · rw [h3, h1]
      iterate 3 refine jp rfl ?_
      refine jl_h rfl rfl (hAlloc rfl rfl) ?_; rintro _ _ _ ⟨b10, rfl, rfl, rfl⟩
      refine jl_s rfl (hStoreL rfl rfl rfl rfl rfl rfl rfl rfl (by first | (simp only [Nat.reduceAdd, Nat.zero_add, Nat.add_zero, List.drop_succ_cons, List.drop_zero, List.drop_nil, List.take_succ_cons, List.take_zero, List.take_nil, List.cons_append, List.nil_append, List.append_nil, List.length_cons, List.length_nil]; try rfl) | rfl)) ?_; rintro _ _ _ ⟨rfl, rfl⟩
      refine jp rfl ?_
      refine jl_nil ?_
      refine jT ?_
      refine jc_seq ?_
      refine jc_seq ?_
      refine jc_region ?_
      refine jp rfl ?_
      refine js rfl (fun h43 => ?_) (fun h43 => ?_)
      · iterate 4 refine jp rfl ?_
        refine jl_nil ?_
        refine jT ?_
        refine jc_yes rfl ?_
        refine jc_seq ?_
        refine jc_region ?_
        iterate 4 refine jp rfl ?_
        refine jt rfl (decide_eq_true (by first | omega | exact hfe h43 | (have := hk2 (by omega); omega) | (have := hk3 (by omega); omega) | (have := hcl.2; omega))) ?_
        iterate 6 refine jp rfl ?_
        refine jl_nil ?_
        refine jT ?_
        refine jc_ret ?_
        refine jTr ?_
        refine jq_drop (L' := []) (List.nil_sublist _) ?_
        refine jr1 rfl rfl ?_
        first | exact ⟨rfl, rfl⟩ | exact ⟨congrArg Value.bool (decide_eq_true (by omega)), rfl⟩
      · iterate 2 refine jp rfl ?_
        refine js rfl (fun h46 => ?_) (fun h46 => ?_)
        · refine jp rfl ?_
          refine jl_nil ?_
          refine jT ?_
          refine jc_yes rfl ?_
          refine jc_seq ?_
          refine jc_region ?_
          iterate 4 refine jp rfl ?_
          refine jf rfl (decide_eq_false (by first | omega | exact hfe h43 | (have := hk2 (by omega); omega) | (have := hk3 (by omega); omega) | (have := hcl.2; omega))) ?_
          iterate 6 refine jp rfl ?_
          refine jl_nil ?_
          refine jT ?_
          refine jc_ret ?_
          refine jTr ?_
          refine jq_drop (L' := []) (List.nil_sublist _) ?_
          refine jr1 rfl rfl ?_
          first | exact ⟨rfl, rfl⟩ | exact ⟨congrArg Value.bool (decide_eq_true (by omega)), rfl⟩
        · refine jp rfl ?_
          refine jl_nil ?_
          refine jT ?_
          refine jc_no rfl ?_
          refine jc_skip ?_
          refine jT ?_
          refine jc_seq ?_
          obtain ⟨_, hask, hy, rfl, rfl, rfl⟩ | ⟨rfl, hne, _⟩ := hcc
          rotate_left
          · exact absurd (Classical.not_not.1 h43) hne
          obtain ⟨_, _, hpr, hkl, hB, hW⟩ | ⟨h1, _⟩ | ⟨h1, h2⟩ := hf
          rotate_left
          · exact absurd (Classical.not_not.1 h46) (by omega)
          · exact absurd hask h2
          obtain ⟨hok, hgm⟩ := askC_ok hask
          have hdl := dsk_ok hok hn
          have hBn : xd.n = 256 := by
            rw [hB.len, setB_len]; exact (hdl phase.toNat).1
          have hWn : yd.n = 0 := hW.len
          have hk2 : phase = 2 → keep.length = 2 := fun e => by rw [hkl, e]; rfl
          have hk3 : phase = 3 → keep.length = 1 := fun e => by rw [hkl, e]; rfl
          have hx := h.mono (hMM.trans hM4)
          have hgg := hn.gen
          replace hy := hy.mono hM4
          have hxBn : x0.b.n = 256 := hx.b.len.trans hok.st.1.1
          have hyBn : y.b.n = 256 := by
            rw [hy.b.len]; show (setB (dsk p 3).1 (dsk p 3).2).length = 256; rw [setB_len]; exact (hdl 3).1
          refine jc_merge (α := Unit) (fun _ => [(1, .int .i64 phase), (2, .slice ka keep.length kc), (3, .pointer (some ⟨b3, 0, none⟩)), (7, .bool true), (8, .pointer (some ⟨b8, 0, none⟩)), (10, .pointer (some ⟨b10, 0, none⟩)), (85, .bool false)]) (fun _ => M4) (fun _ => [(b10, .cells [xd.v, yd.v].toArray TDk (0, 0)), (b8, .cells (pcl y (p.gen + 1) p.root p.next).toArray TPo (0, 0)), (b3, .cells (pcl x0 p.gen p.root p.next).toArray TPo (0, 0))]) (fun _ => True) ?_ ?_
          · rintro _ _
            refine jc_no rfl ?_
            refine jc_skip ?_
            refine jT ?_
            refine jc_seq ?_
            refine jc_region ?_
            refine jl_q rfl rfl (qFieldAddr rfl rfl rfl rfl rfl) ?_
            refine jl_q rfl rfl (qFieldAddr rfl rfl rfl rfl rfl) ?_
            refine jl_q rfl rfl (qLdL rfl rfl rfl rfl rfl (by first | (simp only [Nat.reduceAdd, Nat.zero_add, Nat.add_zero, List.drop_succ_cons, List.drop_zero, List.drop_nil, List.take_succ_cons, List.take_zero, List.take_nil, List.cons_append, List.nil_append, List.append_nil, List.length_cons, List.length_nil]; try rfl) | rfl)) ?_
            refine jl_h rfl rfl (hAlloc rfl rfl) ?_; rintro _ _ _ ⟨b12, rfl, rfl, rfl⟩
            refine jl_s rfl (hStoreL rfl rfl rfl rfl rfl rfl rfl rfl (by first | (simp only [Nat.reduceAdd, Nat.zero_add, Nat.add_zero, List.drop_succ_cons, List.drop_zero, List.drop_nil, List.take_succ_cons, List.take_zero, List.take_nil, List.cons_append, List.nil_append, List.append_nil, List.length_cons, List.length_nil]; try rfl) | rfl)) ?_; rintro _ _ _ ⟨rfl, rfl⟩
            refine jl_nil ?_
            refine jT ?_
            refine jc_seq ?_
            refine jc_region ?_
            refine jl_q rfl rfl (qFieldAddr rfl rfl rfl rfl rfl) ?_
            refine jl_q rfl rfl (qLd rfl rfl rfl rfl (CJ.loc rfl)) ?_
            refine jl_q rfl rfl (qRem rfl rfl rfl rfl (by omega) (by omega)) ?_
            refine jl_q rfl rfl (qConv64 rfl rfl rfl (by first | omega | exact hfe h43 | (have := hk2 (by omega); omega) | (have := hk3 (by omega); omega) | (have := hcl.2; omega))) ?_
            refine jp rfl ?_
            refine jl_nil ?_
            refine jT ?_
            refine jc_seq ?_
            refine jc_seq ?_
            refine jc_region ?_
            refine jp rfl ?_
            refine jl_nil ?_
            refine jT ?_
            refine jc_block ?_
            refine jc_loopK (α := Nat) (fun i => [(1, .int .i64 phase), (2, .slice ka keep.length kc), (3, .pointer (some ⟨b3, 0, none⟩)), (7, .bool true), (8, .pointer (some ⟨b8, 0, none⟩)), (10, .pointer (some ⟨b10, 0, none⟩)), (12, .pointer (some ⟨b12, 0, none⟩)), (13, .int .i64 (p.gen % 2)), (14, .int .i64 (i : Int))]) (fun _ => M4) (fun _ => ((b12, .cells [x0.b.v, x0.w.v].toArray TDk (0, 0)) :: [(b10, .cells [xd.v, yd.v].toArray TDk (0, 0)), (b8, .cells (pcl y (p.gen + 1) p.root p.next).toArray TPo (0, 0)), (b3, .cells (pcl x0 p.gen p.root p.next).toArray TPo (0, 0))])) (fun i => i ≤ 8) (fun i => 8 - i)
              0 (Keep.cons (t := 1) rfl (Keep.cons (t := 2) rfl (Keep.cons (t := 3) rfl (Keep.cons (t := 7) rfl (Keep.cons (t := 8) rfl (Keep.cons (t := 10) rfl (Keep.cons (t := 12) rfl (Keep.cons (t := 13) rfl (Keep.cons (t := 14) rfl Keep.nil))))))))) (Nat.zero_le _) (fun _ h => h) ?_
            rintro i hi
            try dsimp only at hi ⊢
            refine jc_seq ?_
            refine jc_seq ?_
            refine jc_region ?_
            refine jp rfl ?_
            refine js rfl (fun h94 => ?_) (fun h94 => ?_)
            · refine jl_nil ?_
              refine jT ?_
              refine jc_yes rfl ?_
              refine jc_skip ?_
              refine jT ?_
              refine jc_seq ?_
              refine jc_block ?_
              refine jc_merge (α := Bool) (fun fx => [(1, .int .i64 phase), (2, .slice ka keep.length kc), (3, .pointer (some ⟨b3, 0, none⟩)), (7, .bool true), (8, .pointer (some ⟨b8, 0, none⟩)), (10, .pointer (some ⟨b10, 0, none⟩)), (12, .pointer (some ⟨b12, 0, none⟩)), (13, .int .i64 (p.gen % 2)), (14, .int .i64 (i : Int)), (15, .bool fx)]) (fun _ => M4) (fun _ => ((b12, .cells [x0.b.v, x0.w.v].toArray TDk (0, 0)) :: [(b10, .cells [xd.v, yd.v].toArray TDk (0, 0)), (b8, .cells (pcl y (p.gen + 1) p.root p.next).toArray TPo (0, 0)), (b3, .cells (pcl x0 p.gen p.root p.next).toArray TPo (0, 0))])) (fun fx => fx = true ↔ fixedAt p i) ?_ ?_
              · rintro fx hfx
                refine jc_seq ?_
                refine jc_region ?_
                refine jp rfl ?_
                refine jl_nil ?_
                refine jT ?_
                refine jc_seq ?_
                refine jc_seq ?_
                refine jc_region ?_
                refine jp rfl ?_
                refine jl_nil ?_
                refine jT ?_
                refine jc_block ?_
                have hwn : x0.w.n = p.st.waits.length := hx.w.len
                have hw4 := hok.st.1.2.1
                refine jc_loopK (α := Nat × Bool) (fun x => [(1, .int .i64 phase), (2, .slice ka keep.length kc), (3, .pointer (some ⟨b3, 0, none⟩)), (7, .bool true), (8, .pointer (some ⟨b8, 0, none⟩)), (10, .pointer (some ⟨b10, 0, none⟩)), (12, .pointer (some ⟨b12, 0, none⟩)), (13, .int .i64 (p.gen % 2)), (14, .int .i64 (i : Int)), (15, .bool fx), (16, .bool x.2), (17, .int .i64 (x.1 : Int))]) (fun _ => M4) (fun _ => ((b12, .cells [x0.b.v, x0.w.v].toArray TDk (0, 0)) :: [(b10, .cells [xd.v, yd.v].toArray TDk (0, 0)), (b8, .cells (pcl y (p.gen + 1) p.root p.next).toArray TPo (0, 0)), (b3, .cells (pcl x0 p.gen p.root p.next).toArray TPo (0, 0))])) (fun x => x.1 ≤ p.st.waits.length ∧ (x.2 = true ↔ ∃ w ∈ p.st.waits.take x.1, w.1 = (i : Int))) (fun x => p.st.waits.length - x.1)
                  (0, false) (Keep.cons (t := 1) rfl (Keep.cons (t := 2) rfl (Keep.cons (t := 3) rfl (Keep.cons (t := 7) rfl (Keep.cons (t := 8) rfl (Keep.cons (t := 10) rfl (Keep.cons (t := 12) rfl (Keep.cons (t := 13) rfl (Keep.cons (t := 14) rfl (Keep.cons (t := 15) rfl (Keep.cons (t := 16) rfl (Keep.cons (t := 17) rfl Keep.nil)))))))))))) ⟨Nat.zero_le _, by simp⟩ (fun _ h => h) ?_
                rintro ⟨k, ow⟩ ⟨hk, hfo⟩
                try dsimp only at hk hfo ⊢
                refine jc_seq ?_
                refine jc_seq ?_
                refine jc_region ?_
                refine jp rfl ?_
                refine jl_q rfl rfl (qFieldAddr rfl rfl rfl rfl rfl) ?_
                refine jl_q rfl rfl (qLd rfl rfl rfl rfl (CJ.loc rfl)) ?_
                refine jl_q rfl rfl (qLen rfl rfl rfl) ?_
                refine js rfl (fun h117 => ?_) (fun h117 => ?_)
                · refine jl_nil ?_
                  refine jT ?_
                  refine jc_yes rfl ?_
                  refine jc_skip ?_
                  refine jT ?_
                  refine jc_seq ?_
                  refine jc_block ?_
                  refine jc_region ?_
                  refine jp rfl ?_
                  refine jsb rfl (fun h121 => ?_) (fun h121 => ?_)
                  · iterate 10 refine jp rfl ?_
                    refine jl_nil ?_
                    refine jB ?_
                    refine jT ?_
                    refine jc_region ?_
                    refine jp rfl ?_
                    refine ja rfl (by first | omega | exact hfe h43 | (have := hk2 (by omega); omega) | (have := hk3 (by omega); omega) | (have := hcl.2; omega)) ?_
                    refine jp rfl ?_
                    refine jl_nil ?_
                    have hk1 : k < p.st.waits.length := by omega
                    refine j_again (k + 1, true) (Keep.cons (t := 1) rfl (Keep.cons (t := 2) rfl (Keep.cons (t := 3) rfl (Keep.cons (t := 7) rfl (Keep.cons (t := 8) rfl (Keep.cons (t := 10) rfl (Keep.cons (t := 12) rfl (Keep.cons (t := 13) rfl (Keep.cons (t := 14) rfl (Keep.cons (t := 15) rfl (Keep.cons (t := 16) rfl (Keep.cons (t := 17) rfl Keep.nil)))))))))))) ⟨by show k + 1 ≤ p.st.waits.length; omega, ?_⟩ (by show p.st.waits.length - (k + 1) < p.st.waits.length - k; omega) (fun _ h => h)
                    show true = true ↔ _; rw [any_on hk1]; simp only [true_iff]; exact .inl (hfo.1 h121)
                  · refine jl_q rfl rfl (qFieldAddr rfl rfl rfl rfl rfl) ?_
                    refine jl_q rfl rfl (qLd rfl rfl rfl rfl (CJ.loc rfl)) ?_
                    refine jp rfl ?_
                    have hk1 : k < p.st.waits.length := by omega
                    obtain ⟨wb, wo, we, wc⟩ := hx.w.at_ hk1
                    refine jl_q rfl rfl (qIdxS (b := wb) (off := wo) rfl rfl (by show some (Value.slice _ _ _) = _; rw [we]) rfl (by omega)) ?_
                    refine jl_q rfl rfl (qFieldAddr rfl rfl rfl rfl rfl) ?_
                    refine jl_q rfl rfl (qLd rfl rfl rfl rfl (wc.cj _)) ?_
                    refine jp rfl ?_
                    refine js rfl (fun h129 => ?_) (fun h129 => ?_)
                    · iterate 2 refine jp rfl ?_
                      refine jl_nil ?_
                      refine jB ?_
                      refine jT ?_
                      refine jc_region ?_
                      refine jp rfl ?_
                      refine ja rfl (by first | omega | exact hfe h43 | (have := hk2 (by omega); omega) | (have := hk3 (by omega); omega) | (have := hcl.2; omega)) ?_
                      refine jp rfl ?_
                      refine jl_nil ?_
                      have hk1 : k < p.st.waits.length := by omega
                      refine j_again (k + 1, true) (Keep.cons (t := 1) rfl (Keep.cons (t := 2) rfl (Keep.cons (t := 3) rfl (Keep.cons (t := 7) rfl (Keep.cons (t := 8) rfl (Keep.cons (t := 10) rfl (Keep.cons (t := 12) rfl (Keep.cons (t := 13) rfl (Keep.cons (t := 14) rfl (Keep.cons (t := 15) rfl (Keep.cons (t := 16) rfl (Keep.cons (t := 17) rfl Keep.nil)))))))))))) ⟨by show k + 1 ≤ p.st.waits.length; omega, ?_⟩ (by show p.st.waits.length - (k + 1) < p.st.waits.length - k; omega) (fun _ h => h)
                      show true = true ↔ _; rw [any_on hk1]; simp only [true_iff]; exact .inr h129
                    · iterate 2 refine jp rfl ?_
                      refine jl_nil ?_
                      refine jB ?_
                      refine jT ?_
                      refine jc_region ?_
                      refine jp rfl ?_
                      refine ja rfl (by first | omega | exact hfe h43 | (have := hk2 (by omega); omega) | (have := hk3 (by omega); omega) | (have := hcl.2; omega)) ?_
                      refine jp rfl ?_
                      refine jl_nil ?_
                      have hk1 : k < p.st.waits.length := by omega
                      refine j_again (k + 1, false) (Keep.cons (t := 1) rfl (Keep.cons (t := 2) rfl (Keep.cons (t := 3) rfl (Keep.cons (t := 7) rfl (Keep.cons (t := 8) rfl (Keep.cons (t := 10) rfl (Keep.cons (t := 12) rfl (Keep.cons (t := 13) rfl (Keep.cons (t := 14) rfl (Keep.cons (t := 15) rfl (Keep.cons (t := 16) rfl (Keep.cons (t := 17) rfl Keep.nil)))))))))))) ⟨by show k + 1 ≤ p.st.waits.length; omega, ?_⟩ (by show p.st.waits.length - (k + 1) < p.st.waits.length - k; omega) (fun _ h => h)
                      show false = true ↔ _; rw [any_on hk1]; simp only [Bool.false_eq_true, false_iff]
                      rintro (hh | hh)
                      · have := hfo.2 hh; rw [h121] at this; cases this
                      · exact h129 hh
                · refine jl_nil ?_
                  refine jT ?_
                  refine jc_no rfl ?_
                  refine jc_exit ?_
                  refine jTx ?_
                  refine jTx ?_
                  refine jBx ?_
                  refine jT ?_
                  refine jc_seq ?_
                  refine jc_draw [(0, true), (1, true), (2, true), (3, true), (4, true), (5, true), (6, true), (7, true), (8, true), (9, true), (10, true), (11, true), (12, true), (13, true), (14, true), (15, true), (16, true), (17, true), (18, true), (19, true), (20, true), (21, true), (22, true), (23, true)] _ (by kernel_rfl) (by kernel_rfl) (by kernel_rfl) rfl (fun _ h => h) ?_
                  refine dp rfl rfl ?_
                  refine ds rfl rfl (fun h132 => ?_) (fun h132 => ?_)
                  · refine dp rfl rfl ?_
                    refine jd_qb rfl rfl rfl (qP rfl rfl) (fun h134 => ?_) (fun h134 => ?_)
                    · iterate 2 refine dp rfl rfl ?_
                      refine jd_qb rfl rfl rfl (qP rfl rfl) (fun h137 => ?_) (fun h137 => ?_)
                      · iterate 17 refine dp rfl rfl ?_
                        refine jd_nil ?_
                        refine jPn ?_
                        refine jT ?_
                        refine jc_no rfl ?_
                        refine jc_skip ?_
                        refine jB ?_
                        refine jT ?_
                        refine jc_region ?_
                        refine jp rfl ?_
                        refine ja rfl (by first | omega | exact hfe h43 | (have := hk2 (by omega); omega) | (have := hk3 (by omega); omega) | (have := hcl.2; omega)) ?_
                        refine jp rfl ?_
                        refine jl_nil ?_
                        refine j_again (i + 1) (Keep.cons (t := 1) rfl (Keep.cons (t := 2) rfl (Keep.cons (t := 3) rfl (Keep.cons (t := 7) rfl (Keep.cons (t := 8) rfl (Keep.cons (t := 10) rfl (Keep.cons (t := 12) rfl (Keep.cons (t := 13) rfl (Keep.cons (t := 14) rfl Keep.nil))))))))) (by omega) (by omega) (fun _ h => h)
                      · iterate 3 refine dp rfl rfl ?_
                        refine jd_q rfl rfl rfl (qFieldAddr rfl rfl rfl rfl rfl) ?_
                        refine jd_q rfl rfl rfl (qLd rfl rfl rfl rfl (CJ.loc rfl)) ?_
                        refine dp rfl rfl ?_
                        obtain rfl : k = p.st.waits.length := by omega
                        rw [List.take_length] at hfo
                        obtain ⟨dbb, dbo, dbt, dbe, dbc, dbs⟩ := LS.at_ hB (k := i) (by show _ < (setB (dsk p phase.toNat).1 (kept keep (dsk p phase.toNat).2)).length; rw [setB_len, (hdl _).1]; omega)
                        refine jd_q rfl rfl rfl (qIdxS (b := dbb) (off := dbo) rfl rfl (by show some (Value.slice _ _ _) = _; rw [dbe]) rfl (by omega)) ?_
                        refine jd_q rfl rfl rfl (qLd rfl rfl rfl rfl (dbc.cj _)) ?_
                        refine jd_q rfl rfl rfl (qEq (qStr (xs := ((setB (dsk p phase.toNat).1 (kept keep (dsk p phase.toNat).2))[i]'(by show _ < (setB (dsk p phase.toNat).1 (kept keep (dsk p phase.toNat).2)).length; rw [setB_len, (hdl _).1]; omega)).map fun b => (b.toNat : Int)) rfl rfl rfl (by rw [List.length_map, dbs.len]) (by simpa [bcells, List.map_map, Function.comp_def] using dbs.sm.sj _)) (v' := .string (strB ((setB (dsk p phase.toNat).1 (kept keep (dsk p phase.toNat).2))[i]'(by show _ < (setB (dsk p phase.toNat).1 (kept keep (dsk p phase.toNat).2)).length; rw [setB_len, (hdl _).1]; omega)))) (by rw [strOfNums_b])) ?_
                        refine jd_q rfl rfl rfl (qFieldAddr rfl rfl rfl rfl rfl) ?_
                        refine jd_q rfl rfl rfl (qLd rfl rfl rfl rfl (CJ.loc rfl)) ?_
                        refine dp rfl rfl ?_
                        obtain ⟨fbb, fbo, fbt, fbe, fbc, fbs⟩ := LS.at_ hx.b (k := i) (by rw [hok.st.1.1]; omega)
                        refine jd_q rfl rfl rfl (qIdxS (b := fbb) (off := fbo) rfl rfl (by show some (Value.slice _ _ _) = _; rw [fbe]) rfl (by omega)) ?_
                        refine jd_q rfl rfl rfl (qLd rfl rfl rfl rfl (fbc.cj _)) ?_
                        refine jd_q rfl rfl rfl (qEq (qStr (xs := (p.st.blocks[i]'(by rw [hok.st.1.1]; omega)).map fun b => (b.toNat : Int)) rfl rfl rfl (by rw [List.length_map, fbs.len]) (by simpa [bcells, List.map_map, Function.comp_def] using fbs.sm.sj _)) (v' := .string (strB (p.st.blocks[i]'(by rw [hok.st.1.1]; omega)))) (by rw [strOfNums_b])) ?_
                        refine jd_q rfl rfl rfl (qEq (qP rfl rfl) (v' := .bool false) (by rw [strB_eq]; simp only [Bool.not_eq_false', decide_eq_true_eq, Value.bool.injEq, Bool.not_eq_eq_eq_not, Bool.not_false]; have hs := cut_same hok hn keep (ph := phase.toNat) (i := i) (by omega) (hfx.1 h134) (fun w hw e => by rw [hfo.2 ⟨w, hw, e⟩] at h137; cases h137); rwa [getD_at (by show _ < (setB (dsk p phase.toNat).1 (kept keep (dsk p phase.toNat).2)).length; rw [setB_len, (hdl _).1]; omega), getD_at (by rw [hok.st.1.1]; omega)] at hs)) ?_
                        refine dp rfl rfl ?_
                        refine jd_nil ?_
                        refine jPn ?_
                        refine jT ?_
                        refine jc_no rfl ?_
                        refine jc_skip ?_
                        refine jB ?_
                        refine jT ?_
                        refine jc_region ?_
                        refine jp rfl ?_
                        refine ja rfl (by first | omega | exact hfe h43 | (have := hk2 (by omega); omega) | (have := hk3 (by omega); omega) | (have := hcl.2; omega)) ?_
                        refine jp rfl ?_
                        refine jl_nil ?_
                        refine j_again (i + 1) (Keep.cons (t := 1) rfl (Keep.cons (t := 2) rfl (Keep.cons (t := 3) rfl (Keep.cons (t := 7) rfl (Keep.cons (t := 8) rfl (Keep.cons (t := 10) rfl (Keep.cons (t := 12) rfl (Keep.cons (t := 13) rfl (Keep.cons (t := 14) rfl Keep.nil))))))))) (by omega) (by omega) (fun _ h => h)
                    · iterate 20 refine dp rfl rfl ?_
                      refine jd_nil ?_
                      refine jPn ?_
                      refine jT ?_
                      refine jc_no rfl ?_
                      refine jc_skip ?_
                      refine jB ?_
                      refine jT ?_
                      refine jc_region ?_
                      refine jp rfl ?_
                      refine ja rfl (by first | omega | exact hfe h43 | (have := hk2 (by omega); omega) | (have := hk3 (by omega); omega) | (have := hcl.2; omega)) ?_
                      refine jp rfl ?_
                      refine jl_nil ?_
                      refine j_again (i + 1) (Keep.cons (t := 1) rfl (Keep.cons (t := 2) rfl (Keep.cons (t := 3) rfl (Keep.cons (t := 7) rfl (Keep.cons (t := 8) rfl (Keep.cons (t := 10) rfl (Keep.cons (t := 12) rfl (Keep.cons (t := 13) rfl (Keep.cons (t := 14) rfl Keep.nil))))))))) (by omega) (by omega) (fun _ h => h)
                  · iterate 22 refine dp rfl rfl ?_
                    refine jd_nil ?_
                    refine jPn ?_
                    refine jT ?_
                    refine jc_no rfl ?_
                    refine jc_skip ?_
                    refine jB ?_
                    refine jT ?_
                    refine jc_region ?_
                    refine jp rfl ?_
                    refine ja rfl (by first | omega | exact hfe h43 | (have := hk2 (by omega); omega) | (have := hk3 (by omega); omega) | (have := hcl.2; omega)) ?_
                    refine jp rfl ?_
                    refine jl_nil ?_
                    refine j_again (i + 1) (Keep.cons (t := 1) rfl (Keep.cons (t := 2) rfl (Keep.cons (t := 3) rfl (Keep.cons (t := 7) rfl (Keep.cons (t := 8) rfl (Keep.cons (t := 10) rfl (Keep.cons (t := 12) rfl (Keep.cons (t := 13) rfl (Keep.cons (t := 14) rfl Keep.nil))))))))) (by omega) (by omega) (fun _ h => h)
              · refine jc_region ?_
                refine jp rfl ?_
                refine js rfl (fun h98 => ?_) (fun h98 => ?_)
                · iterate 15 refine jp rfl ?_
                  refine jl_nil ?_
                  exact j_merge true (Keep.cons (t := 1) rfl (Keep.cons (t := 2) rfl (Keep.cons (t := 3) rfl (Keep.cons (t := 7) rfl (Keep.cons (t := 8) rfl (Keep.cons (t := 10) rfl (Keep.cons (t := 12) rfl (Keep.cons (t := 13) rfl (Keep.cons (t := 14) rfl (Keep.cons (t := 15) rfl Keep.nil)))))))))) (by unfold fixedAt; simp only [true_iff]; omega) (fun _ h => h)
                · iterate 3 refine jp rfl ?_
                  refine ja rfl (by first | omega | exact hfe h43 | (have := hk2 (by omega); omega) | (have := hk3 (by omega); omega) | (have := hcl.2; omega)) ?_
                  refine ja rfl (by first | omega | exact hfe h43 | (have := hk2 (by omega); omega) | (have := hk3 (by omega); omega) | (have := hcl.2; omega)) ?_
                  refine js rfl (fun h104 => ?_) (fun h104 => ?_)
                  · iterate 9 refine jp rfl ?_
                    refine jl_nil ?_
                    exact j_merge true (Keep.cons (t := 1) rfl (Keep.cons (t := 2) rfl (Keep.cons (t := 3) rfl (Keep.cons (t := 7) rfl (Keep.cons (t := 8) rfl (Keep.cons (t := 10) rfl (Keep.cons (t := 12) rfl (Keep.cons (t := 13) rfl (Keep.cons (t := 14) rfl (Keep.cons (t := 15) rfl Keep.nil)))))))))) (by unfold fixedAt; simp only [true_iff]; omega) (fun _ h => h)
                  · iterate 4 refine jp rfl ?_
                    refine ja rfl (by first | omega | exact hfe h43 | (have := hk2 (by omega); omega) | (have := hk3 (by omega); omega) | (have := hcl.2; omega)) ?_
                    refine ja rfl (by first | omega | exact hfe h43 | (have := hk2 (by omega); omega) | (have := hk3 (by omega); omega) | (have := hcl.2; omega)) ?_
                    refine js rfl (fun h111 => ?_) (fun h111 => ?_)
                    · iterate 2 refine jp rfl ?_
                      refine jl_nil ?_
                      exact j_merge true (Keep.cons (t := 1) rfl (Keep.cons (t := 2) rfl (Keep.cons (t := 3) rfl (Keep.cons (t := 7) rfl (Keep.cons (t := 8) rfl (Keep.cons (t := 10) rfl (Keep.cons (t := 12) rfl (Keep.cons (t := 13) rfl (Keep.cons (t := 14) rfl (Keep.cons (t := 15) rfl Keep.nil)))))))))) (by unfold fixedAt; simp only [true_iff]; omega) (fun _ h => h)
                    · iterate 2 refine jp rfl ?_
                      refine jl_nil ?_
                      exact j_merge false (Keep.cons (t := 1) rfl (Keep.cons (t := 2) rfl (Keep.cons (t := 3) rfl (Keep.cons (t := 7) rfl (Keep.cons (t := 8) rfl (Keep.cons (t := 10) rfl (Keep.cons (t := 12) rfl (Keep.cons (t := 13) rfl (Keep.cons (t := 14) rfl (Keep.cons (t := 15) rfl Keep.nil)))))))))) (by unfold fixedAt; simp only [Bool.false_eq_true, false_iff]; omega) (fun _ h => h)
            · refine jl_nil ?_
              refine jT ?_
              refine jc_no rfl ?_
              refine jc_exit ?_
              refine jTx ?_
              refine jTx ?_
              refine jBx ?_
              refine jT ?_
              refine jc_seq ?_
              refine jc_seq ?_
              refine jc_region ?_
              refine jp rfl ?_
              refine js rfl (fun h156 => ?_) (fun h156 => ?_)
              · refine jl_nil ?_
                refine jT ?_
                refine jc_yes rfl ?_
                refine jc_seq ?_
                refine jc_region ?_
                iterate 2 refine jp rfl ?_
                refine jl_nil ?_
                refine jT ?_
                refine jc_ret ?_
                refine jTr ?_
                refine jq_drop (L' := []) (List.nil_sublist _) ?_
                refine jr1 rfl rfl ?_
                first | exact ⟨rfl, rfl⟩ | exact ⟨congrArg Value.bool (decide_eq_true (by omega)), rfl⟩
              · refine jl_nil ?_
                refine jT ?_
                refine jc_no rfl ?_
                refine jc_skip ?_
                refine jT ?_
                refine jc_seq ?_
                refine jc_seq ?_
                refine jc_region ?_
                refine jp rfl ?_
                refine jl_nil ?_
                refine jT ?_
                refine jc_block ?_
                refine jc_loopK (α := Nat) (fun i => [(1, .int .i64 phase), (2, .slice ka keep.length kc), (3, .pointer (some ⟨b3, 0, none⟩)), (7, .bool true), (8, .pointer (some ⟨b8, 0, none⟩)), (10, .pointer (some ⟨b10, 0, none⟩)), (12, .pointer (some ⟨b12, 0, none⟩)), (13, .int .i64 (p.gen % 2)), (18, .int .i64 (i : Int))]) (fun _ => M4) (fun _ => ((b12, .cells [x0.b.v, x0.w.v].toArray TDk (0, 0)) :: [(b10, .cells [xd.v, yd.v].toArray TDk (0, 0)), (b8, .cells (pcl y (p.gen + 1) p.root p.next).toArray TPo (0, 0)), (b3, .cells (pcl x0 p.gen p.root p.next).toArray TPo (0, 0))])) (fun i => i ≤ 256) (fun i => 256 - i)
                  0 (Keep.cons (t := 1) rfl (Keep.cons (t := 2) rfl (Keep.cons (t := 3) rfl (Keep.cons (t := 7) rfl (Keep.cons (t := 8) rfl (Keep.cons (t := 10) rfl (Keep.cons (t := 12) rfl (Keep.cons (t := 13) rfl (Keep.cons (t := 18) rfl Keep.nil))))))))) (Nat.zero_le _) (fun _ h => h) ?_
                rintro i hi
                try dsimp only at hi ⊢
                refine jc_seq ?_
                refine jc_seq ?_
                refine jc_region ?_
                refine jp rfl ?_
                refine js rfl (fun h159 => ?_) (fun h159 => ?_)
                · refine jl_nil ?_
                  refine jT ?_
                  refine jc_yes rfl ?_
                  refine jc_skip ?_
                  refine jT ?_
                  refine jc_seq ?_
                  refine jc_block ?_
                  refine jc_seq ?_
                  refine jc_draw [(0, true), (1, true), (2, true), (3, true), (4, true), (5, true), (6, true), (7, true), (8, true), (9, true), (10, true), (11, true), (12, true), (13, true), (14, true), (15, true), (16, true), (17, true), (18, true), (19, true), (20, true), (21, true), (22, true), (23, true), (24, true), (25, true), (26, true)] _ (by kernel_rfl) (by kernel_rfl) (by kernel_rfl) rfl (fun _ h => h) ?_
                  refine jd_q rfl rfl rfl (qFieldAddr rfl rfl rfl rfl rfl) ?_
                  refine jd_q rfl rfl rfl (qLd rfl rfl rfl rfl (CJ.loc rfl)) ?_
                  refine dp rfl rfl ?_
                  obtain ⟨dbb, dbo, dbt, dbe, dbc, dbs⟩ := LS.at_ hB (k := i) (by show _ < (setB (dsk p phase.toNat).1 (kept keep (dsk p phase.toNat).2)).length; rw [setB_len, (hdl _).1]; omega)
                  refine jd_q rfl rfl rfl (qIdxS (b := dbb) (off := dbo) rfl rfl (by show some (Value.slice _ _ _) = _; rw [dbe]) rfl (by omega)) ?_
                  refine jd_q rfl rfl rfl (qLd rfl rfl rfl rfl (dbc.cj _)) ?_
                  refine jd_q rfl rfl rfl (qEq (qStr (xs := ((setB (dsk p phase.toNat).1 (kept keep (dsk p phase.toNat).2))[i]'(by show _ < (setB (dsk p phase.toNat).1 (kept keep (dsk p phase.toNat).2)).length; rw [setB_len, (hdl _).1]; omega)).map fun b => (b.toNat : Int)) rfl rfl rfl (by rw [List.length_map, dbs.len]) (by simpa [bcells, List.map_map, Function.comp_def] using dbs.sm.sj _)) (v' := .string (strB ((setB (dsk p phase.toNat).1 (kept keep (dsk p phase.toNat).2))[i]'(by show _ < (setB (dsk p phase.toNat).1 (kept keep (dsk p phase.toNat).2)).length; rw [setB_len, (hdl _).1]; omega)))) (by rw [strOfNums_b])) ?_
                  refine jd_q rfl rfl rfl (qFieldAddr rfl rfl rfl rfl rfl) ?_
                  refine jd_q rfl rfl rfl (qFieldAddr rfl rfl rfl rfl rfl) ?_
                  refine jd_q rfl rfl rfl (qFieldAddr rfl rfl rfl rfl rfl) ?_
                  refine jd_q rfl rfl rfl (qLd rfl rfl rfl rfl (CJ.loc rfl)) ?_
                  refine dp rfl rfl ?_
                  obtain ⟨qbb, qbo, qbt, qbe, qbc, qbs⟩ := LS.at_ hy.b (k := i) (by show _ < (setB (dsk p 3).1 (dsk p 3).2).length; rw [setB_len, (hdl _).1]; omega)
                  replace qbs : BS M4 qbt.v ((setB (dsk p 3).1 (dsk p 3).2)[i]'(by show _ < (setB (dsk p 3).1 (dsk p 3).2).length; rw [setB_len, (hdl _).1]; omega)) := qbs
                  refine jd_q rfl rfl rfl (qIdxS (b := qbb) (off := qbo) rfl rfl (by show some (Value.slice _ _ _) = _; rw [qbe]) rfl (by omega)) ?_
                  refine jd_q rfl rfl rfl (qLd rfl rfl rfl rfl (qbc.cj _)) ?_
                  refine jd_q rfl rfl rfl (qEq (qStr (xs := ((setB (dsk p 3).1 (dsk p 3).2)[i]'(by show _ < (setB (dsk p 3).1 (dsk p 3).2).length; rw [setB_len, (hdl _).1]; omega)).map fun b => (b.toNat : Int)) rfl rfl rfl (by rw [List.length_map, qbs.len]) (by simpa [bcells, List.map_map, Function.comp_def] using qbs.sm.sj _)) (v' := .string (strB ((setB (dsk p 3).1 (dsk p 3).2)[i]'(by show _ < (setB (dsk p 3).1 (dsk p 3).2).length; rw [setB_len, (hdl _).1]; omega)))) (by rw [strOfNums_b])) ?_
                  refine jd_qb rfl rfl rfl (qP rfl rfl) (fun h176 => ?_) (fun h176 => ?_)
                  · iterate 2 refine dp rfl rfl ?_
                    have hph : phase = 3 := by omega
                    have hkl1 := hk3 hph
                    obtain ⟨k0, hk0⟩ : ∃ k0, keep = [k0] := by
                      match keep, hkl1 with
                      | [k0], _ => exact ⟨k0, rfl⟩
                    have hcl := cut_last hn hk0 (i := i) (by subst hph; rw [getD_at (by show _ < (setB (dsk p (3 : Int).toNat).1 (kept keep (dsk p (3 : Int).toNat).2)).length; rw [setB_len, (hdl _).1]; omega), getD_at (by show _ < (setB (dsk p 3).1 (dsk p 3).2).length; rw [setB_len, (hdl _).1]; omega)]; rw [strB_eq] at h176; simpa using h176)
                    obtain ⟨kb, ko, e0, hkx⟩ := (hks.mono (hMM.trans hM4)).open (by intro e; have := congrArg List.length e; simp only [bocells, List.length_map, List.length_nil] at this; omega)
                    subst e0
                    refine jd_q rfl rfl rfl (qIdxS rfl rfl rfl rfl (by omega)) ?_
                    refine jd_q rfl rfl rfl (qEq (qLd (v := .bool k0) rfl rfl rfl rfl ((hkx _ _ (by rw [hk0]; rfl)).cj _)) (v' := .bool false) (by rw [hcl.1])) ?_
                    iterate 2 refine dp rfl rfl ?_
                    refine jd_q rfl rfl rfl (qFieldAddr rfl rfl rfl rfl rfl) ?_
                    refine jd_q rfl rfl rfl (qLd rfl rfl rfl rfl (CJ.loc rfl)) ?_
                    refine jd_q rfl rfl rfl (qCall rfl rfl rfl rfl rfl (by kernel_rfl) (slot_spec (p.gen + 1) M4 (by omega))) ?_
                    refine df rfl rfl (decide_eq_false (by first | omega | exact hfe h43 | (have := hk2 (by omega); omega) | (have := hk3 (by omega); omega) | (have := hcl.2; omega))) ?_
                    iterate 2 refine dp rfl rfl ?_
                    refine jd_nil ?_
                    refine jPn ?_
                    refine jT ?_
                    refine jc_no rfl ?_
                    refine jc_skip ?_
                    refine jB ?_
                    refine jT ?_
                    refine jc_region ?_
                    refine jp rfl ?_
                    refine ja rfl (by first | omega | exact hfe h43 | (have := hk2 (by omega); omega) | (have := hk3 (by omega); omega) | (have := hcl.2; omega)) ?_
                    refine jp rfl ?_
                    refine jl_nil ?_
                    refine j_again (i + 1) (Keep.cons (t := 1) rfl (Keep.cons (t := 2) rfl (Keep.cons (t := 3) rfl (Keep.cons (t := 7) rfl (Keep.cons (t := 8) rfl (Keep.cons (t := 10) rfl (Keep.cons (t := 12) rfl (Keep.cons (t := 13) rfl (Keep.cons (t := 18) rfl Keep.nil))))))))) (by omega) (by omega) (fun _ h => h)
                  · iterate 12 refine dp rfl rfl ?_
                    refine jd_nil ?_
                    refine jPn ?_
                    refine jT ?_
                    refine jc_no rfl ?_
                    refine jc_skip ?_
                    refine jB ?_
                    refine jT ?_
                    refine jc_region ?_
                    refine jp rfl ?_
                    refine ja rfl (by first | omega | exact hfe h43 | (have := hk2 (by omega); omega) | (have := hk3 (by omega); omega) | (have := hcl.2; omega)) ?_
                    refine jp rfl ?_
                    refine jl_nil ?_
                    refine j_again (i + 1) (Keep.cons (t := 1) rfl (Keep.cons (t := 2) rfl (Keep.cons (t := 3) rfl (Keep.cons (t := 7) rfl (Keep.cons (t := 8) rfl (Keep.cons (t := 10) rfl (Keep.cons (t := 12) rfl (Keep.cons (t := 13) rfl (Keep.cons (t := 18) rfl Keep.nil))))))))) (by omega) (by omega) (fun _ h => h)
                · refine jl_nil ?_
                  refine jT ?_
                  refine jc_no rfl ?_
                  refine jc_exit ?_
                  refine jTx ?_
                  refine jTx ?_
                  refine jBx ?_
                  refine jT ?_
                  refine jc_seq ?_
                  refine jc_region ?_
                  iterate 2 refine jp rfl ?_
                  refine jl_nil ?_
                  refine jT ?_
                  refine jc_ret ?_
                  refine jq_drop (L' := []) (List.nil_sublist _) ?_
                  refine jr1 rfl rfl ?_
                  first | exact ⟨rfl, rfl⟩ | exact ⟨congrArg Value.bool (decide_eq_true (by omega)), rfl⟩
          · refine jc_region ?_
            refine jl_q rfl rfl (qFieldAddr rfl rfl rfl rfl rfl) ?_
            refine jl_q rfl rfl (qLd rfl rfl rfl rfl (CJ.loc rfl)) ?_
            refine jl_q rfl rfl (qLen rfl rfl rfl) ?_
            refine jf rfl (decide_eq_false (by first | omega | exact hfe h43 | (have := hk2 (by omega); omega) | (have := hk3 (by omega); omega) | (have := hcl.2; omega))) ?_
            refine jp rfl ?_
            refine jl_q rfl rfl (qFieldAddr rfl rfl rfl rfl rfl) ?_
            refine jl_q rfl rfl (qLd rfl rfl rfl rfl (CJ.loc rfl)) ?_
            refine jl_q rfl rfl (qLen rfl rfl rfl) ?_
            refine jf rfl (decide_eq_false (by first | omega | exact hfe h43 | (have := hk2 (by omega); omega) | (have := hk3 (by omega); omega) | (have := hcl.2; omega))) ?_
            iterate 3 refine jp rfl ?_
            refine js rfl (fun h70 => ?_) (fun h70 => ?_)
            · iterate 2 refine jp rfl ?_
              refine jl_q rfl rfl (qLen rfl rfl rfl) ?_
              refine jf rfl (decide_eq_false (by first | omega | exact hfe h43 | (have := hk2 (by omega); omega) | (have := hk3 (by omega); omega) | (have := hcl.2; omega))) ?_
              iterate 4 refine jp rfl ?_
              refine js rfl (fun h79 => ?_) (fun h79 => ?_)
              · iterate 2 refine jp rfl ?_
                refine jl_q rfl rfl (qLen rfl rfl rfl) ?_
                refine jf rfl (decide_eq_false (by first | omega | exact hfe h43 | (have := hk2 (by omega); omega) | (have := hk3 (by omega); omega) | (have := hcl.2; omega))) ?_
                iterate 2 refine jp rfl ?_
                refine jl_nil ?_
                exact j_merge () (Keep.cons (t := 1) rfl (Keep.cons (t := 2) rfl (Keep.cons (t := 3) rfl (Keep.cons (t := 7) rfl (Keep.cons (t := 8) rfl (Keep.cons (t := 10) rfl (Keep.cons (t := 85) rfl Keep.nil))))))) trivial (fun _ h => h)
              · iterate 6 refine jp rfl ?_
                refine jl_nil ?_
                exact j_merge () (Keep.cons (t := 1) rfl (Keep.cons (t := 2) rfl (Keep.cons (t := 3) rfl (Keep.cons (t := 7) rfl (Keep.cons (t := 8) rfl (Keep.cons (t := 10) rfl (Keep.cons (t := 85) rfl Keep.nil))))))) trivial (fun _ h => h)
            · iterate 8 refine jp rfl ?_
              refine js rfl (fun h79 => ?_) (fun h79 => ?_)
              · iterate 2 refine jp rfl ?_
                refine jl_q rfl rfl (qLen rfl rfl rfl) ?_
                refine jf rfl (decide_eq_false (by first | omega | exact hfe h43 | (have := hk2 (by omega); omega) | (have := hk3 (by omega); omega) | (have := hcl.2; omega))) ?_
                iterate 2 refine jp rfl ?_
                refine jl_nil ?_
                exact j_merge () (Keep.cons (t := 1) rfl (Keep.cons (t := 2) rfl (Keep.cons (t := 3) rfl (Keep.cons (t := 7) rfl (Keep.cons (t := 8) rfl (Keep.cons (t := 10) rfl (Keep.cons (t := 85) rfl Keep.nil))))))) trivial (fun _ h => h)
              · iterate 6 refine jp rfl ?_
                refine jl_nil ?_
                exact j_merge () (Keep.cons (t := 1) rfl (Keep.cons (t := 2) rfl (Keep.cons (t := 3) rfl (Keep.cons (t := 7) rfl (Keep.cons (t := 8) rfl (Keep.cons (t := 10) rfl (Keep.cons (t := 85) rfl Keep.nil))))))) trivial (fun _ h => h)


theorem ccuts_spec (p : Po) (x0 : V5) (M : Mem) (h : PT5 M x0 p) (hgen : 0 ≤ p.gen ∧ p.gen < 4294967296) (hnxt : 0 ≤ p.next ∧ p.next < 4294967296) (phase : Int) (keep : List Bool) (ka : Option Addr) (kc : Nat) (hks : SM M ka (bocells keep)) : SpecL Try.prog 5 #[.agg (pcl x0 p.gen p.root p.next).toArray, .int .i64 phase, .slice ka keep.length kc] M [] fun u _ _ => u = .bool true := (ccuts_walk p x0 M h hgen hnxt phase keep ka kc hks).mono fun _ _ _ h => h.1

end Go.Proofs.Ytjdmhbenpeedeaa
