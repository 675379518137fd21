/- Walks: bytes copied, clipped, made longer; what calls do to a file's bytes. -/
import Derived.Test.YtdjaehgadehnfaaGreatDoorBy
namespace Go.Proofs.YtdjaehgadehnfaaGreatDoor
set_option linter.unusedVariables false
set_option linter.unusedSimpArgs false
open Go.RowKit Go.MapKept

theorem clone_spec (a : Option Addr) (c : Nat) (xs : List By) (M : Mem) (hs : SM M a (bcells xs)) (hl : xs.length ≤ 1000000) :
    SpecL Tryz.prog 95 #[.slice a xs.length c] M [] fun u M' L' => M' = M ∧ Byt u L' xs := by
  refine spec_body (vs := [_]) 8 _ Tryz.func95 rfl Tryz.ntmps95 rfl rfl ?_; intro W
  refine jc_seq ?_
  refine jc_region ?_
  refine jp rfl ?_
  refine jl_nil ?_
  refine jT ?_
  refine jc_seq ?_
  refine jc_seq ?_
  refine jc_region ?_
  refine jp rfl ?_
  refine jl_qb rfl rfl (qNil rfl rfl rfl rfl) (fun h4 => ?_) (fun h4 => ?_)
  · refine jl_nil ?_
    refine jT ?_
    refine jc_yes rfl ?_
    refine jc_seq ?_
    refine jc_region ?_
    refine jp rfl ?_
    refine jl_nil ?_
    refine jT ?_
    refine jc_ret ?_
    refine jTr ?_
    refine jr1 rfl rfl ?_
    refine ⟨rfl, ?_⟩
    have : xs = [] := by
      cases a with
      | none => rcases hs with h | ⟨b, off, h, _⟩
                · unfold bcells at h; simpa using h
                · cases h
      | some ad => cases h4
    subst this; exact Byt.nil
  · refine jl_nil ?_
    refine jT ?_
    refine jc_no rfl ?_
    refine jc_skip ?_
    refine jT ?_
    refine jc_seq ?_
    refine jc_region ?_
    refine jl_h rfl rfl (hBuildSlice (cs := []) rfl rfl rfl (by rfl) (by rfl) (by rfl)) ?_; rintro _ _ _ ⟨b5, rfl, rfl, rfl⟩
    refine jp rfl ?_
    have hown0 : Own (.slice (some ⟨b5, 0, none⟩) 0 0) [(b5, .cells [].toArray 5 (0, 0))] 5 1 0 [] := ⟨rfl, .inr ⟨b5, 0, #[], rfl, rfl, Nat.le_refl _, Nat.zero_le _, rfl, rfl⟩⟩
    refine jl_h rfl rfl (hAppendM rfl rfl rfl rfl hown0 (news := bcells xs) (by rw [bcells_len, Nat.mul_one]) hs rfl (bcells_one xs) (by omega) (by omega)) ?_; rintro _ _ _ ⟨rfl, R2, rfl, hown⟩
    refine jp rfl ?_
    refine jl_nil ?_
    refine jT ?_
    refine jc_ret ?_
    refine jr1 rfl rfl ?_
    exact ⟨rfl, Byt.of_own (n := 0 + xs.length) (by simpa using hown)⟩

theorem clip_spec (a : Option Addr) (n c : Nat) (M : Mem) (h : n ≤ c) :
    SpecL Tryz.prog 97 #[.slice a n c] M [] fun u _ _ => u = .slice a n n := by
  refine spec_body (vs := [_]) 9 _ Tryz.func97 rfl Tryz.ntmps97 rfl rfl ?_; intro W
  refine jc_seq ?_
  refine jc_region ?_
  refine jp rfl ?_
  refine jl_nil ?_
  refine jT ?_
  refine jc_seq ?_
  refine jc_region ?_
  iterate 2 refine jp rfl ?_
  refine jl_q rfl rfl (qLen rfl rfl rfl) ?_
  refine jp rfl ?_
  refine jl_q rfl rfl (qLen rfl rfl rfl) ?_
  refine jl_q rfl rfl (qEq (v' := .slice a n n) (qSl rfl rfl rfl (.of rfl (by omega) (Int.toNat_natCast _)) (.of rfl (by omega) (Int.toNat_natCast _)) (.no _) (by omega) (.inr (by simp))) (by rw [slA_zero]; rfl)) ?_
  refine jp rfl ?_
  refine jl_nil ?_
  refine jT ?_
  refine jc_ret ?_
  refine jr1 rfl rfl ?_
  rfl


theorem Byt.cap {a : Option Addr} {n c : Nat} {R : Lc} {xs : List By} (h : Byt (.slice a n c) R xs) : n = xs.length ∧ xs.length ≤ c ∧ c ≤ maxLen := by
  rcases h with ⟨h1, rfl, rfl⟩ | ⟨g, cap, cur, h1, rfl, h2, h3, h4, h5⟩
  · simp only [Value.slice.injEq] at h1; obtain ⟨_, rfl, rfl⟩ := h1; exact ⟨rfl, Nat.le_refl _, Nat.zero_le _⟩
  · simp only [Value.slice.injEq] at h1; obtain ⟨_, rfl, rfl⟩ := h1; exact ⟨rfl, h2, h4⟩

theorem sized_spec (a : Option Addr) (c : Nat) (R : Lc) (xs : List By) (n : Int) (M : Mem) (hB : Byt (.slice a xs.length c) R xs) (hn : 0 ≤ n) (hn2 : n ≤ 4096) (hx : xs.length ≤ 4096) :
    SpecL Tryz.prog 93 #[.slice a xs.length c, .int .i64 n] M R fun u M' L' => M' = M ∧ Byt u L' (sizedB xs n.toNat) := by
  have hcap := hB.cap.2.1
  refine spec_body (vs := [_, _]) 18 _ Tryz.func93 rfl Tryz.ntmps93 rfl rfl ?_; intro W
  refine jc_seq ?_
  refine jc_region ?_
  refine jp rfl ?_
  refine jl_nil ?_
  refine jT ?_
  refine jc_seq ?_
  refine jc_seq ?_
  refine jc_region ?_
  iterate 2 refine jp rfl ?_
  refine jl_q rfl rfl (qLen rfl rfl rfl) ?_
  refine js rfl (fun h8 => ?_) (fun h8 => ?_)
  · refine jl_nil ?_
    refine jT ?_
    refine jc_yes rfl ?_
    refine jc_seq ?_
    refine jc_region ?_
    iterate 2 refine jp rfl ?_
    refine jl_q rfl rfl (qEq (v' := .slice a n.toNat c) (qSl rfl rfl rfl (.no _) (.of rfl (by omega) rfl) (.no _) (by omega) (by simp)) (by rw [slA_zero]; rfl)) ?_
    refine jp rfl ?_
    refine jl_nil ?_
    refine jT ?_
    refine jc_ret ?_
    refine jTr ?_
    refine jr1 rfl rfl ?_
    refine ⟨rfl, ?_⟩; unfold sizedB; rw [if_pos (by omega)]; exact hB.take (by omega)
  · refine jl_nil ?_
    refine jT ?_
    refine jc_no rfl ?_
    refine jc_skip ?_
    refine jT ?_
    refine jc_seq ?_
    refine jc_region ?_
    iterate 3 refine jp rfl ?_
    refine jl_q rfl rfl (qLen rfl rfl rfl) ?_
    refine ja rfl (by omega) ?_
    refine jl_h rfl rfl (hByZeros rfl rfl rfl rfl (by kernel_rfl) hB (by omega) (by omega)) ?_; rintro _ _ _ ⟨rfl, R2, rfl, hB2⟩
    refine jp rfl ?_
    refine jl_nil ?_
    refine jT ?_
    refine jc_ret ?_
    refine jr1 rfl rfl ?_
    refine ⟨rfl, ?_⟩; unfold sizedB; rw [if_neg (by omega), show n.toNat - xs.length = (n - (xs.length : Int)).toNat by omega, List.append_nil]; exact hB2


/-- how long bytes are that are written over -/
def wlen (n k d : Nat) : Nat := max n (k + d)
theorem wlen_is (n k d : Nat) : n ≤ wlen n k d ∧ k + d ≤ wlen n k d ∧ (wlen n k d = n ∨ wlen n k d = k + d) := by unfold wlen; omega
theorem writeB_is {k : Nat} {d b : List By} (h : d ≠ []) : writeB k d b = overB (sizedB b (wlen b.length k d.length)) k d := by unfold writeB wlen; rw [if_neg h]
theorem wlen_int {n k d : Nat} {a b : Int} (ha : a = n) (hb : b = k + d) : max a b = (wlen n k d : Nat) := by unfold wlen; omega
attribute [irreducible] wlen
/-- what a closure does to a file -/
def ClP (x : CF) (f : List By → List By) (L' : Lc) : Prop := ∃ x' : CF, x'.Ok ∧ x'.b = x.b ∧ x'.pf = { x.pf with data := f x.pf.data } ∧ L' = x'.own
abbrev clCells (c : CL) (a : Option Addr) (k : Nat) : List Value := [.int .u8 c.kind, .string c.path, .string c.other, .int .i64 c.a, .int .i64 c.b, .int .i64 c.c, .slice a c.data.length k]
abbrev clO (c : CL) (a : Option Addr) (k : Nat) : Obj := .cells (clCells c a k).toArray 28 (0, 0)
theorem NmOk.data {x : CF} (h : NmOk x) (d : List By) (u : Value) (R : Lc) : NmOk { x with dv := u, dR := R, pf := { x.pf with data := d } } := h
theorem Byt.block {v : Value} {R : Lc} {xs : List By} (h : Byt v R xs) (hne : xs ≠ []) : ∃ g cap cur, v = .slice (some ⟨g, 0, none⟩) xs.length cap ∧ R = [(g, .cells cur 5 (0, 0))] ∧ xs.length ≤ cap ∧ cap ≤ cur.size ∧ cap ≤ maxLen ∧ cur.toList.take xs.length = bcells xs := h.resolve_left fun h => hne h.2.2
theorem take_over {cur : List Value} {xs d : List By} {k : Nat} (h : cur.take xs.length = bcells xs) (hk : k + d.length ≤ xs.length) (hx : xs.length ≤ cur.length) : (cur.take k ++ bcells d ++ cur.drop (k + (bcells d).length)).take (overB xs k d).length = bcells (overB xs k d) := by
  rw [overB_len hk, bcells_len]
  have h1 : cur = bcells xs ++ cur.drop xs.length := by rw [← h, List.take_append_drop]
  generalize cur.drop xs.length = t at h1
  subst h1
  have e1 : (bcells xs ++ t).take k = (bcells xs).take k := List.take_append_of_le_length (by rw [bcells_len]; omega)
  have e2 : (bcells xs ++ t).drop (k + d.length) = (bcells xs).drop (k + d.length) ++ t := List.drop_append_of_le_length (by rw [bcells_len]; omega)
  rw [e1, e2, ← List.append_assoc]
  have e3 : bcells (overB xs k d) = (bcells xs).take k ++ bcells d ++ (bcells xs).drop (k + d.length) := by unfold overB bcells; simp only [List.map_append, List.map_take, List.map_drop]
  rw [e3]
  refine List.take_left' ?_
  rw [← e3, bcells_len, overB_len hk]

set_option maxHeartbeats 1000000 in
theorem write1_spec (x : CF) (hx : x.Ok) (hlen : x.pf.data.length ≤ 4096) (c : CL) (ca : Option Addr) (ck : Nat) (M : Mem) (hC : CallOk M c ca ck) (cb : Nat) (hcb : M cb = some (clO c ca ck)) (h1 : 0 ≤ c.a) (h2 : c.a ≤ 4096) (h3 : (c.data.length : Int) ≤ 4096 - c.a) :
    SpecL Tryz.prog 92 #[pt x.b, pt cb] M x.own fun _ _ L' => ClP x (writeB c.a.toNat c.data) L' := by
  obtain ⟨dad, dc, hdv⟩ := hx.byt.form
  have hB : Byt (.slice dad x.pf.data.length dc) x.dR x.pf.data := hdv ▸ hx.byt
  have hcap := hB.cap.2.1
  unfold CF.own fObj
  have hwl := wlen_is x.pf.data.length c.a.toNat c.data.length
  refine spec_body (vs := [_, _]) 37 _ Tryz.func92 rfl Tryz.ntmps92 rfl rfl ?_; intro W
  refine jc_seq ?_
  refine jc_region ?_
  refine jl_q rfl rfl (qFieldAddr rfl rfl rfl rfl rfl) ?_
  refine jl_q rfl rfl (qLd rfl rfl rfl rfl (CM.cj ⟨_, _, _, hcb, rfl⟩ _)) ?_
  refine jl_q rfl rfl (qLen rfl rfl rfl) ?_
  refine js rfl (fun h6 => ?_) (fun h6 => ?_)
  · refine jl_nil ?_
    refine jT ?_
    refine jc_yes rfl ?_
    refine jc_seq ?_
    refine jc_drawP (p := { A := fun i => !([20].contains i), U := fun i => !([20].contains i) }) [(0, true), (1, true), (2, true), (3, true), (4, true), (5, true), (6, true), (7, true), (8, true), (9, true), (10, true), (11, true), (12, true), (13, true), (14, true), (15, true), (16, true), (17, false), (18, true), (19, true), (20, false)] M ([(x.b, .cells [.bool x.pf.dir, .int .i64 x.pf.links, x.dv, x.nm].toArray 135 (0, 0))]) ([]) (by kernel_rfl) (by kernel_rfl) (by kernel_rfl) (by kernel_rfl) rfl (by simp) (MLe.refl _) (by simp) ?_
    iterate 2 refine dp rfl rfl ?_
    refine jd_q rfl rfl rfl (qNilCheck rfl rfl rfl) ?_
    refine jd_q rfl rfl rfl (qFieldAddr rfl rfl rfl rfl rfl) ?_
    refine jd_q rfl rfl rfl (qEq (qLd rfl rfl rfl rfl (CJ.loc rfl)) hdv) ?_
    refine dp rfl rfl ?_
    refine jd_q rfl rfl rfl (qNilCheck rfl rfl rfl) ?_
    refine jd_q rfl rfl rfl (qFieldAddr rfl rfl rfl rfl rfl) ?_
    refine jd_q rfl rfl rfl (qEq (qLd rfl rfl rfl rfl (CJ.loc rfl)) hdv) ?_
    refine jd_q rfl rfl rfl (qLen rfl rfl rfl) ?_
    refine jd_q rfl rfl rfl (qFieldAddr rfl rfl rfl rfl rfl) ?_
    refine jd_q rfl rfl rfl (qLd rfl rfl rfl rfl (CM.cj ⟨_, _, _, hcb, rfl⟩ _)) ?_
    refine jd_q rfl rfl rfl (qFieldAddr rfl rfl rfl rfl rfl) ?_
    refine jd_q rfl rfl rfl (qLd rfl rfl rfl rfl (CM.cj ⟨_, _, _, hcb, rfl⟩ _)) ?_
    refine jd_q rfl rfl rfl (qLen rfl rfl rfl) ?_
    refine da rfl rfl (by omega) ?_
    refine jd_q rfl rfl rfl (qEq (v' := .int .i64 ((wlen x.pf.data.length c.a.toNat c.data.length) : Nat)) (qMax rfl rfl rfl rfl) (congrArg (Value.int .i64) (wlen_int rfl (by omega)))) ?_
    refine jd_h rfl rfl rfl (hCall rfl rfl rfl rfl rfl (by kernel_rfl) (sized_spec dad dc x.dR x.pf.data (((wlen x.pf.data.length c.a.toNat c.data.length) : Nat)) M hB (by omega) (by omega) hlen)) ?_; rintro _ _ _ ⟨hM2, R2, rfl, ⟨rfl, hB2⟩⟩
    refine ⟨_, _, MLe.refl _, hM2, fun _ h => h, by simp, ?_⟩
    obtain ⟨dad2, dc2, rfl⟩ := hB2.form
    rw [sizedB_len] at hB2
    simp only [sizedB_len]
    refine jd_q rfl rfl rfl (qNilCheck rfl rfl rfl) ?_
    refine jd_q rfl rfl rfl (qFieldAddr rfl rfl rfl rfl rfl) ?_
    refine jd_e rfl rfl (hStoreL rfl rfl rfl rfl rfl rfl rfl rfl (by first | (simp only [Nat.reduceAdd, Nat.zero_add, Nat.add_zero, List.drop_succ_cons, List.drop_zero, List.drop_nil, List.take_succ_cons, List.take_zero, List.take_nil, List.cons_append, List.nil_append, List.append_nil, List.length_cons, List.length_nil]; try rfl) | rfl)) ?_; rintro _ _ _ ⟨rfl, rfl⟩
    refine ⟨MLe.refl _, by simp, ?_⟩
    refine je_nil ?_
    refine jPn ?_
    refine jT ?_
    have hne2 : sizedB x.pf.data (wlen x.pf.data.length c.a.toNat c.data.length) ≠ [] := by intro e; have := congrArg List.length e; rw [sizedB_len, List.length_nil] at this; omega
    obtain ⟨gb, cap, cur, e1, rfl, k1, k2, k3, k4⟩ := hB2.block hne2
    simp only [Value.slice.injEq, sizedB_len] at e1
    obtain ⟨rfl, _, rfl⟩ := e1
    rw [sizedB_len] at k1 k4
    refine jc_draw [(0, true), (1, true), (2, true), (3, true), (4, true), (5, true), (6, true), (7, true), (8, true), (9, false)] [(x.b, .cells [.bool x.pf.dir, .int .i64 x.pf.links, .slice (some ⟨gb, 0, none⟩) (wlen x.pf.data.length c.a.toNat c.data.length) dc2, x.nm].toArray 135 (0, 0))] (by kernel_rfl) (by kernel_rfl) (by kernel_rfl) rfl (by simp) ?_
    refine dp rfl rfl ?_
    refine jd_q rfl rfl rfl (qNilCheck rfl rfl rfl) ?_
    refine jd_q rfl rfl rfl (qFieldAddr rfl rfl rfl rfl rfl) ?_
    refine jd_q rfl rfl rfl (qLd rfl rfl rfl rfl (CJ.loc rfl)) ?_
    refine jd_q rfl rfl rfl (qFieldAddr rfl rfl rfl rfl rfl) ?_
    refine jd_q rfl rfl rfl (qLd rfl rfl rfl rfl (CM.cj ⟨_, _, _, hcb, rfl⟩ _)) ?_
    refine jd_q rfl rfl rfl (qEq (v' := .slice (some ⟨gb, c.a.toNat, none⟩) ((wlen x.pf.data.length c.a.toNat c.data.length) - c.a.toNat) (dc2 - c.a.toNat)) (qSl rfl rfl rfl (.no _) (.no _) (.of rfl (by omega) rfl) (by omega) (by simp)) (by rw [slA_some (by omega)]; simp)) ?_
    refine jd_q rfl rfl rfl (qFieldAddr rfl rfl rfl rfl rfl) ?_
    refine jd_q rfl rfl rfl (qLd rfl rfl rfl rfl (CM.cj ⟨_, _, _, hcb, rfl⟩ _)) ?_
    refine jd_h rfl rfl rfl (hCopyB (cs := bcells c.data) rfl rfl rfl rfl (bcells_len _) (by omega) hC.sm (bcells_one _) (by omega)) ?_; rintro _ _ _ ⟨rfl, rfl⟩
    refine ⟨_, _, MLe.refl _, MLe.refl _, fun _ h => h, by simp, ?_⟩
    refine jd_nil ?_
    refine jPn ?_
    refine jrn ?_
    refine jq_weak (fun _ h => h.perm (List.Perm.swap _ _ _)) ?_
    refine jrs (rs := []) rfl .nil ?_
    have hcl : cur.toList.length = cur.size := rfl
    have hov : (overB (sizedB x.pf.data (wlen x.pf.data.length c.a.toNat c.data.length)) c.a.toNat c.data).length = (wlen x.pf.data.length c.a.toNat c.data.length) := by rw [overB_len (by rw [sizedB_len]; omega), sizedB_len]
    refine ⟨{ x with dv := .slice (some ⟨gb, 0, none⟩) (overB (sizedB x.pf.data (wlen x.pf.data.length c.a.toNat c.data.length)) c.a.toNat c.data).length dc2, dR := [(gb, .cells (cur.toList.take c.a.toNat ++ bcells c.data ++ cur.toList.drop (c.a.toNat + (bcells c.data).length)).toArray 5 (0, 0))], pf := { x.pf with data := overB (sizedB x.pf.data (wlen x.pf.data.length c.a.toNat c.data.length)) c.a.toNat c.data } }, ⟨.inr ⟨gb, dc2, _, rfl, rfl, by rw [hov]; exact k1, ?_, k3, ?_⟩, hx.nmo.data _ _ _⟩, rfl, ?_, ?_⟩
    · simp only [List.size_toArray, List.length_append, List.length_take, List.length_drop, bcells_len]; omega
    · exact take_over (xs := sizedB x.pf.data (wlen x.pf.data.length c.a.toNat c.data.length)) (by rw [sizedB_len]; exact k4) (by rw [sizedB_len]; omega) (by rw [sizedB_len]; omega)
    · show _ = { x.pf with data := writeB c.a.toNat c.data x.pf.data }; rw [writeB_is (by intro e; rw [e] at h6; simp at h6)]
    · unfold CF.own fObj; rw [hov]; rfl
  · refine jl_nil ?_
    refine jT ?_
    refine jc_no rfl ?_
    refine jc_skip ?_
    refine jrn ?_
    refine jrs (rs := []) rfl .nil ?_
    refine ⟨x, hx, rfl, ?_, rfl⟩
    show x.pf = { x.pf with data := writeB c.a.toNat c.data x.pf.data }
    have : c.data = [] := List.eq_nil_of_length_eq_zero (by omega)
    unfold writeB; rw [if_pos this]

theorem size1_spec (x : CF) (hx : x.Ok) (hlen : x.pf.data.length ≤ 4096) (c : CL) (ca : Option Addr) (ck : Nat) (M : Mem) (hC : CallOk M c ca ck) (cb : Nat) (hcb : M cb = some (clO c ca ck)) (h1 : 0 ≤ c.a) (h2 : c.a ≤ 4096) :
    SpecL Tryz.prog 96 #[pt x.b, pt cb] M x.own fun _ _ L' => ClP x (fun b => sizedB b c.a.toNat) L' := by
  obtain ⟨dad, dc, hdv⟩ := hx.byt.form
  have hB : Byt (.slice dad x.pf.data.length dc) x.dR x.pf.data := hdv ▸ hx.byt
  have hcap := hB.cap.2.1
  unfold CF.own fObj
  refine spec_body (vs := [_, _]) 14 _ Tryz.func96 rfl Tryz.ntmps96 rfl rfl ?_; intro W
  refine jc_drawP (p := { A := fun i => !([11].contains i), U := fun i => !([11].contains i) }) [(0, true), (1, true), (2, true), (3, true), (4, true), (5, true), (6, true), (7, true), (8, false), (9, true), (10, true), (11, false)] M ([(x.b, .cells [.bool x.pf.dir, .int .i64 x.pf.links, x.dv, x.nm].toArray 135 (0, 0))]) ([]) (by kernel_rfl) (by kernel_rfl) (by kernel_rfl) (by kernel_rfl) rfl (by simp) (MLe.refl _) (by simp) ?_
  iterate 2 refine dp rfl rfl ?_
  refine jd_q rfl rfl rfl (qNilCheck rfl rfl rfl) ?_
  refine jd_q rfl rfl rfl (qFieldAddr rfl rfl rfl rfl rfl) ?_
  refine jd_q rfl rfl rfl (qEq (qLd rfl rfl rfl rfl (CJ.loc rfl)) hdv) ?_
  refine jd_q rfl rfl rfl (qCall rfl rfl rfl rfl rfl (by kernel_rfl) (clip_spec dad x.pf.data.length dc M hcap)) ?_
  refine jd_q rfl rfl rfl (qFieldAddr rfl rfl rfl rfl rfl) ?_
  refine jd_q rfl rfl rfl (qLd rfl rfl rfl rfl (CM.cj ⟨_, _, _, hcb, rfl⟩ _)) ?_
  refine jd_h rfl rfl rfl (hCall rfl rfl rfl rfl rfl (by kernel_rfl) (sized_spec dad x.pf.data.length x.dR x.pf.data c.a M hB.clip h1 h2 hlen)) ?_; rintro _ _ _ ⟨hM2, R2, rfl, ⟨rfl, hB2⟩⟩
  refine ⟨_, _, MLe.refl _, hM2, fun _ h => h, by simp, ?_⟩
  obtain ⟨dad2, dc2, rfl⟩ := hB2.form
  refine jd_q rfl rfl rfl (qNilCheck rfl rfl rfl) ?_
  refine jd_q rfl rfl rfl (qFieldAddr rfl rfl rfl rfl rfl) ?_
  refine jd_e rfl rfl (hStoreL rfl rfl rfl rfl rfl rfl rfl rfl (by first | (simp only [Nat.reduceAdd, Nat.zero_add, Nat.add_zero, List.drop_succ_cons, List.drop_zero, List.drop_nil, List.take_succ_cons, List.take_zero, List.take_nil, List.cons_append, List.nil_append, List.append_nil, List.length_cons, List.length_nil]; try rfl) | rfl)) ?_; rintro _ _ _ ⟨rfl, rfl⟩
  refine ⟨MLe.refl _, by simp, ?_⟩
  refine je_nil ?_
  refine jPn ?_
  refine jrn ?_
  refine jq_weak (fun _ h => h.perm List.perm_middle) ?_
  refine jrs (rs := []) rfl .nil ?_
  exact ⟨{ x with dv := _, dR := R2, pf := { x.pf with data := sizedB x.pf.data c.a.toNat } }, ⟨hB2, hx.nmo.data _ _ _⟩, rfl, rfl, rfl⟩


def pfrom (k n : Nat) : Nat := min k n
def pto (k e n : Nat) : Nat := max (min k n) (min e n)
theorem pf_is (k e n : Nat) : pfrom k n ≤ n ∧ pfrom k n ≤ pto k e n ∧ pto k e n ≤ n := by unfold pfrom pto; omega
theorem pf_int {k n : Nat} {a b : Int} (ha : a = k) (hb : b = n) : min a b = (pfrom k n : Nat) := by unfold pfrom; omega
theorem pt_int {k e n : Nat} {a b c : Int} (ha : a = (pfrom k n : Nat)) (hb : b = e) (hc : c = n) : max a (min b c) = (pto k e n : Nat) := by unfold pfrom at ha; unfold pto; omega
theorem punchB_is {k e : Nat} {b : List By} : punchB k e b = b.take (pfrom k b.length) ++ List.replicate (pto k e b.length - pfrom k b.length) 0 ++ b.drop (pto k e b.length) := rfl
attribute [irreducible] pfrom pto
theorem punch_len {k e : Nat} {b : List By} : (punchB k e b).length = b.length := by
  have := pf_is k e b.length
  rw [punchB_is]; simp only [List.length_append, List.length_take, List.length_replicate, List.length_drop]; omega
theorem punch_none {k e : Nat} {b : List By} (h : pto k e b.length = pfrom k b.length) : punchB k e b = b := by
  rw [punchB_is, h]; simp
theorem take_punch {cur : List Value} {xs : List By} {k e : Nat} (h : cur.take xs.length = bcells xs) (hx : xs.length ≤ cur.length) : (cur.take (pfrom k xs.length) ++ List.replicate (pto k e xs.length - pfrom k xs.length) (Value.int .u8 0) ++ cur.drop (pfrom k xs.length + (pto k e xs.length - pfrom k xs.length))).take (punchB k e xs).length = bcells (punchB k e xs) := by
  obtain ⟨p1, p2, p3⟩ := pf_is k e xs.length
  have h1 : cur = bcells xs ++ cur.drop xs.length := by rw [← h, List.take_append_drop]
  generalize cur.drop xs.length = t at h1
  subst h1
  rw [show pfrom k xs.length + (pto k e xs.length - pfrom k xs.length) = pto k e xs.length by omega]
  have e1 : (bcells xs ++ t).take (pfrom k xs.length) = (bcells xs).take (pfrom k xs.length) := List.take_append_of_le_length (by rw [bcells_len]; omega)
  have e2 : (bcells xs ++ t).drop (pto k e xs.length) = (bcells xs).drop (pto k e xs.length) ++ t := List.drop_append_of_le_length (by rw [bcells_len]; omega)
  rw [e1, e2, ← List.append_assoc]
  have e3 : bcells (punchB k e xs) = (bcells xs).take (pfrom k xs.length) ++ List.replicate (pto k e xs.length - pfrom k xs.length) (Value.int .u8 0) ++ (bcells xs).drop (pto k e xs.length) := by rw [punchB_is]; unfold bcells; simp only [List.map_append, List.map_take, List.map_drop, List.map_replicate]; rfl
  rw [e3]
  refine List.take_left' ?_
  rw [← e3, bcells_len]

theorem punch1_none (x : CF) (hx : x.Ok) (hlen : x.pf.data.length ≤ 4096) (c : CL) (ca : Option Addr) (ck : Nat) (M : Mem) (hC : CallOk M c ca ck) (cb : Nat) (hcb : M cb = some (clO c ca ck)) (h1 : 0 ≤ c.a) (h2 : c.a ≤ c.b) (h3 : c.b ≤ 4096) (he : (pto c.a.toNat c.b.toNat x.pf.data.length) = (pfrom c.a.toNat x.pf.data.length)) :
    SpecL Tryz.prog 98 #[pt x.b, pt cb] M x.own fun _ _ L' => ClP x (punchB c.a.toNat c.b.toNat) L' := by
  obtain ⟨dad, dc, hdv⟩ := hx.byt.form
  have hB : Byt (.slice dad x.pf.data.length dc) x.dR x.pf.data := hdv ▸ hx.byt
  have hcap := hB.cap.2.1
  unfold CF.own fObj
  have hpf := pf_is c.a.toNat c.b.toNat x.pf.data.length
  refine spec_body (vs := [_, _]) 28 _ Tryz.func98 rfl Tryz.ntmps98 rfl rfl ?_; intro W
  refine jc_seq ?_
  refine jc_draw [(0, true), (1, true), (2, true), (3, true), (4, true), (5, true), (6, true), (7, true), (8, true)] [(x.b, .cells [.bool x.pf.dir, .int .i64 x.pf.links, x.dv, x.nm].toArray 135 (0, 0))] (by kernel_rfl) (by kernel_rfl) (by kernel_rfl) rfl (by simp) ?_
  refine jd_q rfl rfl rfl (qFieldAddr rfl rfl rfl rfl rfl) ?_
  refine jd_q rfl rfl rfl (qLd rfl rfl rfl rfl (CM.cj ⟨_, _, _, hcb, rfl⟩ _)) ?_
  refine dp rfl rfl ?_
  refine jd_q rfl rfl rfl (qNilCheck rfl rfl rfl) ?_
  refine jd_q rfl rfl rfl (qFieldAddr rfl rfl rfl rfl rfl) ?_
  refine jd_q rfl rfl rfl (qEq (qLd rfl rfl rfl rfl (CJ.loc rfl)) hdv) ?_
  refine jd_q rfl rfl rfl (qLen rfl rfl rfl) ?_
  refine jd_q rfl rfl rfl (qEq (v' := .int .i64 ((pfrom c.a.toNat x.pf.data.length) : Nat)) (qMin rfl rfl rfl rfl) (congrArg (Value.int .i64) (pf_int (by omega) rfl))) ?_
  refine dp rfl rfl ?_
  refine jd_nil ?_
  refine jPn ?_
  refine jT ?_
  refine jc_drawP (p := { A := fun i => !([16].contains i), U := fun i => !([16].contains i) }) [(0, true), (1, true), (2, true), (3, true), (4, true), (5, true), (6, true), (7, true), (8, true), (9, true), (10, true), (11, true), (12, true), (13, true), (14, true), (15, true), (16, false)] M ([(x.b, .cells [.bool x.pf.dir, .int .i64 x.pf.links, x.dv, x.nm].toArray 135 (0, 0))]) ([]) (by kernel_rfl) (by kernel_rfl) (by kernel_rfl) (by kernel_rfl) rfl (by simp) (MLe.refl _) (by simp) ?_
  refine dp rfl rfl ?_
  refine jd_q rfl rfl rfl (qNilCheck rfl rfl rfl) ?_
  refine jd_q rfl rfl rfl (qFieldAddr rfl rfl rfl rfl rfl) ?_
  refine jd_q rfl rfl rfl (qEq (qLd rfl rfl rfl rfl (CJ.loc rfl)) hdv) ?_
  iterate 2 refine dp rfl rfl ?_
  refine jd_q rfl rfl rfl (qFieldAddr rfl rfl rfl rfl rfl) ?_
  refine jd_q rfl rfl rfl (qLd rfl rfl rfl rfl (CM.cj ⟨_, _, _, hcb, rfl⟩ _)) ?_
  refine dp rfl rfl ?_
  refine jd_q rfl rfl rfl (qNilCheck rfl rfl rfl) ?_
  refine jd_q rfl rfl rfl (qFieldAddr rfl rfl rfl rfl rfl) ?_
  refine jd_q rfl rfl rfl (qEq (qLd rfl rfl rfl rfl (CJ.loc rfl)) hdv) ?_
  refine jd_q rfl rfl rfl (qLen rfl rfl rfl) ?_
  refine jd_q rfl rfl rfl (qMin rfl rfl rfl rfl) ?_
  refine jd_q rfl rfl rfl (qEq (v' := .int .i64 ((pto c.a.toNat c.b.toNat x.pf.data.length) : Nat)) (qMax rfl rfl rfl rfl) (congrArg (Value.int .i64) (pt_int rfl (by omega) rfl))) ?_
  refine jd_q rfl rfl rfl (qEq (v' := .slice (slA dad (pfrom c.a.toNat x.pf.data.length) dc 1) 0 (dc - (pfrom c.a.toNat x.pf.data.length))) (qSl rfl rfl rfl (.no _) (.of rfl (by omega) (Int.toNat_natCast _)) (.of rfl (by omega) (Int.toNat_natCast _)) (by omega) (by simp)) (by rw [he, Nat.sub_self])) ?_
  refine jd_e rfl rfl (hClear0 rfl rfl rfl) ?_; rintro _ _ _ ⟨rfl, rfl⟩
  refine ⟨MLe.refl _, by simp, ?_⟩
  refine je_nil ?_
  refine jPn ?_
  refine jrn ?_
  refine jrs (rs := []) rfl .nil ?_
  refine ⟨x, hx, rfl, ?_, rfl⟩
  show x.pf = { x.pf with data := punchB c.a.toNat c.b.toNat x.pf.data }; rw [punch_none he]

theorem punch1_some (x : CF) (hx : x.Ok) (hlen : x.pf.data.length ≤ 4096) (c : CL) (ca : Option Addr) (ck : Nat) (M : Mem) (hC : CallOk M c ca ck) (cb : Nat) (hcb : M cb = some (clO c ca ck)) (h1 : 0 ≤ c.a) (h2 : c.a ≤ c.b) (h3 : c.b ≤ 4096) (he : (pfrom c.a.toNat x.pf.data.length) < (pto c.a.toNat c.b.toNat x.pf.data.length)) :
    SpecL Tryz.prog 98 #[pt x.b, pt cb] M x.own fun _ _ L' => ClP x (punchB c.a.toNat c.b.toNat) L' := by
  obtain ⟨dad, dc, hdv⟩ := hx.byt.form
  have hB : Byt (.slice dad x.pf.data.length dc) x.dR x.pf.data := hdv ▸ hx.byt
  have hcap := hB.cap.2.1
  have hpf := pf_is c.a.toNat c.b.toNat x.pf.data.length
  obtain ⟨gb, cap, cur, e1, e2, k1, k2, k3, k4⟩ := hB.block (fun e => absurd (congrArg List.length e) (by rw [List.length_nil]; omega))
  simp only [Value.slice.injEq, true_and] at e1
  obtain ⟨rfl, rfl⟩ := e1
  unfold CF.own fObj; rw [e2]
  refine spec_body (vs := [_, _]) 28 _ Tryz.func98 rfl Tryz.ntmps98 rfl rfl ?_; intro W
  refine jc_seq ?_
  refine jc_draw [(0, true), (1, true), (2, true), (3, true), (4, true), (5, true), (6, true), (7, true), (8, true)] [(x.b, .cells [.bool x.pf.dir, .int .i64 x.pf.links, x.dv, x.nm].toArray 135 (0, 0))] (by kernel_rfl) (by kernel_rfl) (by kernel_rfl) rfl (by simp) ?_
  refine jd_q rfl rfl rfl (qFieldAddr rfl rfl rfl rfl rfl) ?_
  refine jd_q rfl rfl rfl (qLd rfl rfl rfl rfl (CM.cj ⟨_, _, _, hcb, rfl⟩ _)) ?_
  refine dp rfl rfl ?_
  refine jd_q rfl rfl rfl (qNilCheck rfl rfl rfl) ?_
  refine jd_q rfl rfl rfl (qFieldAddr rfl rfl rfl rfl rfl) ?_
  refine jd_q rfl rfl rfl (qEq (qLd rfl rfl rfl rfl (CJ.loc rfl)) hdv) ?_
  refine jd_q rfl rfl rfl (qLen rfl rfl rfl) ?_
  refine jd_q rfl rfl rfl (qEq (v' := .int .i64 ((pfrom c.a.toNat x.pf.data.length) : Nat)) (qMin rfl rfl rfl rfl) (congrArg (Value.int .i64) (pf_int (by omega) rfl))) ?_
  refine dp rfl rfl ?_
  refine jd_nil ?_
  refine jPn ?_
  refine jT ?_
  refine jc_drawP (p := { A := fun i => !([16].contains i), U := fun i => !([16].contains i) }) [(0, true), (1, true), (2, true), (3, true), (4, true), (5, true), (6, true), (7, true), (8, true), (9, true), (10, true), (11, true), (12, true), (13, true), (14, true), (15, true), (16, false)] M ([(x.b, .cells [.bool x.pf.dir, .int .i64 x.pf.links, x.dv, x.nm].toArray 135 (0, 0))]) ([]) (by kernel_rfl) (by kernel_rfl) (by kernel_rfl) (by kernel_rfl) rfl (by simp) (MLe.refl _) (by simp) ?_
  refine dp rfl rfl ?_
  refine jd_q rfl rfl rfl (qNilCheck rfl rfl rfl) ?_
  refine jd_q rfl rfl rfl (qFieldAddr rfl rfl rfl rfl rfl) ?_
  refine jd_q rfl rfl rfl (qEq (qLd rfl rfl rfl rfl (CJ.loc rfl)) hdv) ?_
  iterate 2 refine dp rfl rfl ?_
  refine jd_q rfl rfl rfl (qFieldAddr rfl rfl rfl rfl rfl) ?_
  refine jd_q rfl rfl rfl (qLd rfl rfl rfl rfl (CM.cj ⟨_, _, _, hcb, rfl⟩ _)) ?_
  refine dp rfl rfl ?_
  refine jd_q rfl rfl rfl (qNilCheck rfl rfl rfl) ?_
  refine jd_q rfl rfl rfl (qFieldAddr rfl rfl rfl rfl rfl) ?_
  refine jd_q rfl rfl rfl (qEq (qLd rfl rfl rfl rfl (CJ.loc rfl)) hdv) ?_
  refine jd_q rfl rfl rfl (qLen rfl rfl rfl) ?_
  refine jd_q rfl rfl rfl (qMin rfl rfl rfl rfl) ?_
  refine jd_q rfl rfl rfl (qEq (v' := .int .i64 ((pto c.a.toNat c.b.toNat x.pf.data.length) : Nat)) (qMax rfl rfl rfl rfl) (congrArg (Value.int .i64) (pt_int rfl (by omega) rfl))) ?_
  refine jd_q rfl rfl rfl (qEq (v' := .slice (some ⟨gb, (pfrom c.a.toNat x.pf.data.length), none⟩) ((pto c.a.toNat c.b.toNat x.pf.data.length) - (pfrom c.a.toNat x.pf.data.length)) (dc - (pfrom c.a.toNat x.pf.data.length))) (qSl rfl rfl rfl (.no _) (.of rfl (by omega) (Int.toNat_natCast _)) (.of rfl (by omega) (Int.toNat_natCast _)) (by omega) (by simp)) (by rw [slA_some (by omega)]; simp)) ?_
  refine jd_e rfl rfl (hClearB rfl rfl rfl (by kernel_rfl) (by omega) (by omega)) ?_; rintro _ _ _ ⟨rfl, rfl⟩
  refine ⟨MLe.refl _, by simp, ?_⟩
  refine je_nil ?_
  refine jPn ?_
  refine jrn ?_
  refine jq_weak (fun _ h => h.perm (List.Perm.swap _ _ _)) ?_
  refine jrs (rs := []) rfl .nil ?_
  have hcl : cur.toList.length = cur.size := rfl
  refine ⟨{ x with dR := [(gb, .cells (cur.toList.take (pfrom c.a.toNat x.pf.data.length) ++ List.replicate ((pto c.a.toNat c.b.toNat x.pf.data.length) - (pfrom c.a.toNat x.pf.data.length)) (Value.int .u8 0) ++ cur.toList.drop ((pfrom c.a.toNat x.pf.data.length) + ((pto c.a.toNat c.b.toNat x.pf.data.length) - (pfrom c.a.toNat x.pf.data.length)))).toArray 5 (0, 0))], pf := { x.pf with data := punchB c.a.toNat c.b.toNat x.pf.data } }, ⟨.inr ⟨gb, dc, _, ?_, rfl, by rw [punch_len]; exact k1, ?_, k3, ?_⟩, hx.nmo.data _ _ _⟩, rfl, rfl, ?_⟩
  · rw [punch_len]; exact hdv
  · simp only [List.size_toArray, List.length_append, List.length_take, List.length_drop, List.length_replicate]; omega
  · exact take_punch k4 (by omega)
  · unfold CF.own fObj; rfl


theorem punch1_spec (x : CF) (hx : x.Ok) (hlen : x.pf.data.length ≤ 4096) (c : CL) (ca : Option Addr) (ck : Nat) (M : Mem) (hC : CallOk M c ca ck) (cb : Nat) (hcb : M cb = some (clO c ca ck)) (h1 : 0 ≤ c.a) (h2 : c.a ≤ c.b) (h3 : c.b ≤ 4096) : SpecL Tryz.prog 98 #[pt x.b, pt cb] M x.own fun _ _ L' => ClP x (punchB c.a.toNat c.b.toNat) L' := by
  have hpf := pf_is c.a.toNat c.b.toNat x.pf.data.length
  by_cases he : (pto c.a.toNat c.b.toNat x.pf.data.length) = (pfrom c.a.toNat x.pf.data.length)
  · exact punch1_none x hx hlen c ca ck M hC cb hcb h1 h2 h3 he
  · exact punch1_some x hx hlen c ca ck M hC cb hcb h1 h2 h3 (by omega)

set_option maxHeartbeats 1000000 in
theorem share1_spec (x : CF) (hx : x.Ok) (hlen : x.pf.data.length ≤ 4096) (c : CL) (ca : Option Addr) (ck : Nat) (M : Mem) (hC : CallOk M c ca ck) (cb : Nat) (hcb : M cb = some (clO c ca ck)) (d : List By) (sa : Option Addr) (sc : Nat) (hsd : SM M sa (bcells d)) (db : Nat) (hdb : M db = some (.cells [.slice sa d.length sc].toArray 26 (0, 0))) (hd : (d.length : Int) = c.c) (h1 : 0 ≤ c.b) (h2 : c.c ≤ 4096) (h3 : c.b ≤ 4096 - c.c) :
    SpecL Tryz.prog 99 #[pt x.b, pt cb, pt db] M x.own fun _ _ L' => ClP x (writeB c.b.toNat d) L' := by
  obtain ⟨dad, dc, hdv⟩ := hx.byt.form
  have hB : Byt (.slice dad x.pf.data.length dc) x.dR x.pf.data := hdv ▸ hx.byt
  have hcap := hB.cap.2.1
  unfold CF.own fObj
  have hwl := wlen_is x.pf.data.length c.b.toNat d.length
  refine spec_body (vs := [_, _, _]) 35 _ Tryz.func99 rfl Tryz.ntmps99 rfl rfl ?_; intro W
  refine jc_seq ?_
  refine jc_region ?_
  refine jl_q rfl rfl (qFieldAddr rfl rfl rfl rfl rfl) ?_
  refine jl_q rfl rfl (qLd rfl rfl rfl rfl (CM.cj ⟨_, _, _, hcb, rfl⟩ _)) ?_
  refine js rfl (fun h6 => ?_) (fun h6 => ?_)
  · refine jl_nil ?_
    refine jT ?_
    refine jc_yes rfl ?_
    refine jc_seq ?_
    refine jc_drawP (p := { A := fun i => !([19].contains i), U := fun i => !([19].contains i) }) [(0, true), (1, true), (2, true), (3, true), (4, true), (5, true), (6, true), (7, true), (8, true), (9, true), (10, true), (11, true), (12, true), (13, true), (14, true), (15, true), (16, false), (17, true), (18, true), (19, false)] M ([(x.b, .cells [.bool x.pf.dir, .int .i64 x.pf.links, x.dv, x.nm].toArray 135 (0, 0))]) ([]) (by kernel_rfl) (by kernel_rfl) (by kernel_rfl) (by kernel_rfl) rfl (by simp) (MLe.refl _) (by simp) ?_
    iterate 2 refine dp rfl rfl ?_
    refine jd_q rfl rfl rfl (qNilCheck rfl rfl rfl) ?_
    refine jd_q rfl rfl rfl (qFieldAddr rfl rfl rfl rfl rfl) ?_
    refine jd_q rfl rfl rfl (qEq (qLd rfl rfl rfl rfl (CJ.loc rfl)) hdv) ?_
    refine dp rfl rfl ?_
    refine jd_q rfl rfl rfl (qNilCheck rfl rfl rfl) ?_
    refine jd_q rfl rfl rfl (qFieldAddr rfl rfl rfl rfl rfl) ?_
    refine jd_q rfl rfl rfl (qEq (qLd rfl rfl rfl rfl (CJ.loc rfl)) hdv) ?_
    refine jd_q rfl rfl rfl (qLen rfl rfl rfl) ?_
    refine jd_q rfl rfl rfl (qFieldAddr rfl rfl rfl rfl rfl) ?_
    refine jd_q rfl rfl rfl (qLd rfl rfl rfl rfl (CM.cj ⟨_, _, _, hcb, rfl⟩ _)) ?_
    refine jd_q rfl rfl rfl (qFieldAddr rfl rfl rfl rfl rfl) ?_
    refine jd_q rfl rfl rfl (qLd rfl rfl rfl rfl (CM.cj ⟨_, _, _, hcb, rfl⟩ _)) ?_
    refine da rfl rfl (by omega) ?_
    refine jd_q rfl rfl rfl (qEq (v' := .int .i64 ((wlen x.pf.data.length c.b.toNat d.length) : Nat)) (qMax rfl rfl rfl rfl) (congrArg (Value.int .i64) (wlen_int rfl (by omega)))) ?_
    refine jd_h rfl rfl rfl (hCall rfl rfl rfl rfl rfl (by kernel_rfl) (sized_spec dad dc x.dR x.pf.data (((wlen x.pf.data.length c.b.toNat d.length) : Nat)) M hB (by omega) (by omega) hlen)) ?_; rintro _ _ _ ⟨hM2, R2, rfl, ⟨rfl, hB2⟩⟩
    refine ⟨_, _, MLe.refl _, hM2, fun _ h => h, by simp, ?_⟩
    obtain ⟨dad2, dc2, rfl⟩ := hB2.form
    rw [sizedB_len] at hB2
    simp only [sizedB_len]
    refine jd_q rfl rfl rfl (qNilCheck rfl rfl rfl) ?_
    refine jd_q rfl rfl rfl (qFieldAddr rfl rfl rfl rfl rfl) ?_
    refine jd_e rfl rfl (hStoreL rfl rfl rfl rfl rfl rfl rfl rfl (by first | (simp only [Nat.reduceAdd, Nat.zero_add, Nat.add_zero, List.drop_succ_cons, List.drop_zero, List.drop_nil, List.take_succ_cons, List.take_zero, List.take_nil, List.cons_append, List.nil_append, List.append_nil, List.length_cons, List.length_nil]; try rfl) | rfl)) ?_; rintro _ _ _ ⟨rfl, rfl⟩
    refine ⟨MLe.refl _, by simp, ?_⟩
    refine je_nil ?_
    refine jPn ?_
    refine jT ?_
    have hne2 : sizedB x.pf.data (wlen x.pf.data.length c.b.toNat d.length) ≠ [] := by intro e; have := congrArg List.length e; rw [sizedB_len, List.length_nil] at this; omega
    obtain ⟨gb, cap, cur, e1, rfl, k1, k2, k3, k4⟩ := hB2.block hne2
    simp only [Value.slice.injEq, sizedB_len] at e1
    obtain ⟨rfl, _, rfl⟩ := e1
    rw [sizedB_len] at k1 k4
    refine jc_draw [(0, true), (1, true), (2, true), (3, true), (4, true), (5, true), (6, true), (7, true), (8, false)] [(x.b, .cells [.bool x.pf.dir, .int .i64 x.pf.links, .slice (some ⟨gb, 0, none⟩) (wlen x.pf.data.length c.b.toNat d.length) dc2, x.nm].toArray 135 (0, 0))] (by kernel_rfl) (by kernel_rfl) (by kernel_rfl) rfl (by simp) ?_
    refine dp rfl rfl ?_
    refine jd_q rfl rfl rfl (qNilCheck rfl rfl rfl) ?_
    refine jd_q rfl rfl rfl (qFieldAddr rfl rfl rfl rfl rfl) ?_
    refine jd_q rfl rfl rfl (qLd rfl rfl rfl rfl (CJ.loc rfl)) ?_
    refine jd_q rfl rfl rfl (qFieldAddr rfl rfl rfl rfl rfl) ?_
    refine jd_q rfl rfl rfl (qLd rfl rfl rfl rfl (CM.cj ⟨_, _, _, hcb, rfl⟩ _)) ?_
    refine jd_q rfl rfl rfl (qEq (v' := .slice (some ⟨gb, c.b.toNat, none⟩) ((wlen x.pf.data.length c.b.toNat d.length) - c.b.toNat) (dc2 - c.b.toNat)) (qSl rfl rfl rfl (.no _) (.no _) (.of rfl (by omega) rfl) (by omega) (by simp)) (by rw [slA_some (by omega)]; simp)) ?_
    refine jd_q rfl rfl rfl (qLd rfl rfl rfl rfl (CM.cj ⟨_, _, _, hdb, rfl⟩ _)) ?_
    refine jd_h rfl rfl rfl (hCopyB (cs := bcells d) rfl rfl rfl rfl (bcells_len _) (by omega) hsd (bcells_one _) (by omega)) ?_; rintro _ _ _ ⟨rfl, rfl⟩
    refine ⟨_, _, MLe.refl _, MLe.refl _, fun _ h => h, by simp, ?_⟩
    refine jd_nil ?_
    refine jPn ?_
    refine jrn ?_
    refine jq_weak (fun _ h => h.perm (List.Perm.swap _ _ _)) ?_
    refine jrs (rs := []) rfl .nil ?_
    have hcl : cur.toList.length = cur.size := rfl
    have hov : (overB (sizedB x.pf.data (wlen x.pf.data.length c.b.toNat d.length)) c.b.toNat d).length = (wlen x.pf.data.length c.b.toNat d.length) := by rw [overB_len (by rw [sizedB_len]; omega), sizedB_len]
    refine ⟨{ x with dv := .slice (some ⟨gb, 0, none⟩) (overB (sizedB x.pf.data (wlen x.pf.data.length c.b.toNat d.length)) c.b.toNat d).length dc2, dR := [(gb, .cells (cur.toList.take c.b.toNat ++ bcells d ++ cur.toList.drop (c.b.toNat + (bcells d).length)).toArray 5 (0, 0))], pf := { x.pf with data := overB (sizedB x.pf.data (wlen x.pf.data.length c.b.toNat d.length)) c.b.toNat d } }, ⟨.inr ⟨gb, dc2, _, rfl, rfl, by rw [hov]; exact k1, ?_, k3, ?_⟩, hx.nmo.data _ _ _⟩, rfl, ?_, ?_⟩
    · simp only [List.size_toArray, List.length_append, List.length_take, List.length_drop, bcells_len]; omega
    · exact take_over (xs := sizedB x.pf.data (wlen x.pf.data.length c.b.toNat d.length)) (by rw [sizedB_len]; exact k4) (by rw [sizedB_len]; omega) (by rw [sizedB_len]; omega)
    · show _ = { x.pf with data := writeB c.b.toNat d x.pf.data }; rw [writeB_is (by intro e; rw [e] at hd; simp at hd; omega)]
    · unfold CF.own fObj; rw [hov]; rfl
  · refine jl_nil ?_
    refine jT ?_
    refine jc_no rfl ?_
    refine jc_skip ?_
    refine jrn ?_
    refine jrs (rs := []) rfl .nil ?_
    refine ⟨x, hx, rfl, ?_, rfl⟩
    show x.pf = { x.pf with data := writeB c.b.toNat d x.pf.data }
    have : d = [] := List.eq_nil_of_length_eq_zero (by omega)
    unfold writeB; rw [if_pos this]


end Go.Proofs.YtdjaehgadehnfaaGreatDoor
