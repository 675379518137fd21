/- The laws SpanSame, SpanBack, SpanNames, walked. -/
import Derived.Test.YtjmkgfamonallaaSpanF
namespace Go.Proofs.Ytjmkgfamonallaa
open Go.RowKit

theorem get_err (sa : Option Addr) (c : Nat) (xs : List Int) (p : Pc) (M : Mem) (hs : SM M sa (bcells xs)) (ha : askE xs p ≠ 0) : SpecL Try.prog 18 #[.slice sa xs.length c, .agg (pcells p).toArray] M [] fun v _ _ => v = .tuple #[.slice none 0 0, .int .i64 (askE xs p)] := by
  unfold askE at ha ⊢
  by_cases h : wholeOk xs
  · rw [if_pos h] at ha ⊢; exact get_bad sa c xs p M hs h ha
  · rw [if_neg h]; exact get_no sa c xs p M hs h
theorem put_err (sa : Option Addr) (c : Nat) (xs : List Int) (p : Pc) (M : Mem) (hs : SM M sa (bcells xs)) (sd : Option Addr) (dc : Nat) (ds : List Int) (hd : SM M sd (bcells ds)) (he : putE xs p ds ≠ 0) : SpecL Try.prog 20 #[.slice sa xs.length c, .agg (pcells p).toArray, .slice sd ds.length dc] M [] fun v _ _ => v = .tuple #[.slice none 0 0, .int .i64 (putE xs p ds)] := by
  unfold putE askE at he ⊢
  by_cases h : wholeOk xs
  · simp only [if_pos h] at he ⊢
    by_cases h1 : chk p = 0
    · rw [if_pos h1] at he ⊢
      by_cases h2 : (ds.length : Int) = p.2.2 - p.2.1
      · rw [if_pos h2] at he; exact absurd rfl he
      · rw [if_neg h2]; exact put_len sa c xs p M hs sd dc ds hd h h1 h2
    · rw [if_neg h1]; exact put_bad sa c xs p M hs sd dc ds hd h h1
  · simp only [if_neg h]; exact put_no sa c xs p M hs sd dc ds hd h
theorem rput_err (sa : Option Addr) (c : Nat) (xs : List Int) (p : Pc) (M : Mem) (hs : SM M sa (bcells xs)) (sd : Option Addr) (dc : Nat) (ds : List Int) (hd : SM M sd (bcells ds)) (he : putE xs p ds ≠ 0) : SpecL Try.prog 21 #[.slice sa xs.length c, .agg (pcells p).toArray, .slice sd ds.length dc] M [] fun v _ _ => v = .tuple #[.slice none 0 0, .int .i64 (putE xs p ds)] := by
  unfold putE at he ⊢
  by_cases h : askE xs p = 0
  · rw [if_pos h] at he ⊢
    have h' := h
    unfold askE at h'
    split at h'
    · rename_i hw
      by_cases h2 : (ds.length : Int) = p.2.2 - p.2.1
      · rw [if_pos h2] at he; exact absurd rfl he
      · rw [if_neg h2]; exact rput_len sa c xs p M hs sd dc ds hd hw h' h2
    · simp at h'
  · rw [if_neg h]; exact rput_no sa c xs p M hs sd dc ds hd h
theorem ask_zero {xs : List Int} {p : Pc} (h : askE xs p = 0) : wholeOk xs ∧ chk p = 0 := by
  unfold askE at h; split at h
  · exact ⟨by assumption, h⟩
  · simp at h
theorem put_zero {xs ds : List Int} {p : Pc} (h : putE xs p ds = 0) : wholeOk xs ∧ chk p = 0 ∧ (ds.length : Int) = p.2.2 - p.2.1 := by
  unfold putE at h; split at h
  · rename_i ha
    split at h
    · exact ⟨(ask_zero ha).1, (ask_zero ha).2, by assumption⟩
    · simp at h
  · exact absurd h (by assumption)
theorem full_at {xs : List Int} (h : xs.length ≤ 128) {k : Nat} (hk : k < 128) : (bcells (full xs))[k]? = some (.int .u8 (xs.getD k 0)) := by
  simp only [bcells, full, List.getElem?_map]
  by_cases h1 : k < xs.length
  · rw [List.getElem?_append_left h1]; simp [List.getD, h1]
  · rw [List.getElem?_append_right (by omega)]; simp [List.getD, List.getElem?_eq_none (by omega : xs.length ≤ k), List.getElem?_replicate]; omega
theorem putIn_part {xs : List Int} {p : Pc} (h : wholeOk xs) (hp : chk p = 0) : putIn xs (part xs p) p.2.1.toNat = full xs := by
  have h1 := part_len h hp
  have h2 := chk_fine hp
  unfold putIn
  rw [h1, show p.2.1.toNat + (p.2.2.toNat - p.2.1.toNat) = p.2.2.toNat by omega]
  unfold part
  rw [show List.drop p.2.2.toNat (full xs) = ((full xs).drop p.2.1.toNat).drop (p.2.2.toNat - p.2.1.toNat) by rw [List.drop_drop]; congr 1; omega]
  rw [List.append_assoc, List.take_append_drop, List.take_append_drop]
theorem full_self {xs : List Int} (h : xs.length = 128) : full xs = xs := by simp [full, h]
theorem part_putIn {xs ds : List Int} {p : Pc} (h : wholeOk xs) (hp : chk p = 0) (hl : (ds.length : Int) = p.2.2 - p.2.1) : part (putIn xs ds p.2.1.toNat) p = ds := by
  have h2 := chk_fine hp
  have h3 := h.full_len
  have hp1 := putIn_len (xs := xs) (ds := ds) (f := p.2.1.toNat) h (by omega)
  unfold part
  rw [full_self hp1]
  unfold putIn
  have hl1 : ((full xs).take p.2.1.toNat).length = p.2.1.toNat := by rw [List.length_take]; omega
  rw [List.append_assoc, List.drop_left' hl1, List.take_left' (by omega)]
theorem part_else {xs ds : List Int} {f r : Nat} (h : wholeOk xs) (hl : f + ds.length ≤ 128) (hr : r < 128) (ho : r < f ∨ f + ds.length ≤ r) : part (putIn xs ds f) (0, r, r + 1) = part xs (0, r, r + 1) := by
  have h3 := h.full_len
  have hp1 := putIn_len (xs := xs) (ds := ds) (f := f) h hl
  unfold part
  rw [full_self hp1]
  dsimp only
  rw [show ((r : Int) + 1).toNat - (r : Int).toNat = 1 by omega, show (r : Int).toNat = r by omega]
  apply List.ext_getElem?
  intro i
  rw [List.getElem?_take, List.getElem?_take]
  split
  · rw [List.getElem?_drop, List.getElem?_drop, show r + i = r by omega]
    have hl1 : ((full xs).take f).length = f := by rw [List.length_take]; omega
    unfold putIn
    rcases ho with ho | ho
    · rw [List.getElem?_append_left (by simp only [List.length_append]; omega), List.getElem?_append_left (by omega), List.getElem?_take, if_pos ho]
    · rw [List.getElem?_append_right (by simp only [List.length_append]; omega), List.getElem?_drop]
      congr 1; simp only [List.length_append]; omega
  · rfl

theorem same_long (sa : Option Addr) (c : Nat) (xs : List Int) (p : Pc) (M : Mem) (hs : SM M sa (bcells xs)) (h : 1000 < xs.length) :
    SpecL Try.prog 9 #[.slice sa xs.length c, .agg (pcells p).toArray] M [] fun v _ _ => v = .bool true := by
  refine spec_body (vs := [_, _]) 64 _ Try.func9 rfl Try.ntmps9 rfl rfl ?_; intro W
  refine jc_seq ?_
  refine jc_region ?_
  refine jl_h rfl rfl (hBox rfl rfl rfl rfl) ?_; rintro _ _ _ ⟨b3, rfl, rfl, rfl⟩
  refine jp rfl ?_
  refine jl_nil ?_
  refine jT ?_
  refine jc_seq ?_
  refine jc_region ?_
  refine jl_q rfl rfl (qCall rfl rfl rfl rfl rfl (by kernel_rfl) (alive_spec _)) ?_
  refine jp rfl ?_
  refine jl_nil ?_
  refine jT ?_
  refine jc_seq ?_
  refine jc_seq ?_
  refine jc_region ?_
  refine jp rfl ?_
  refine jl_q rfl rfl (qLen rfl rfl rfl) ?_
  refine jt rfl (decide_eq_true (by omega)) ?_
  iterate 4 refine jp rfl ?_
  refine jl_nil ?_
  refine jT ?_
  refine jc_yes rfl ?_
  refine jc_seq ?_
  refine jc_region ?_
  iterate 2 refine jp rfl ?_
  refine jl_nil ?_
  refine jT ?_
  refine jc_ret ?_
  refine jTr ?_
  refine jr1 rfl rfl ?_
  rfl

theorem same_err (sa : Option Addr) (c : Nat) (xs : List Int) (p : Pc) (M : Mem) (hs : SM M sa (bcells xs)) (h : ¬ 1000 < xs.length) (he : askE xs p ≠ 0) :
    SpecL Try.prog 9 #[.slice sa xs.length c, .agg (pcells p).toArray] M [] fun v _ _ => v = .bool true := by
  refine spec_body (vs := [_, _]) 64 _ Try.func9 rfl Try.ntmps9 rfl rfl ?_; intro W
  refine jc_seq ?_
  refine jc_region ?_
  refine jl_h rfl rfl (hBox rfl rfl rfl rfl) ?_; rintro _ _ _ ⟨b3, rfl, rfl, rfl⟩
  refine jp rfl ?_
  refine jl_nil ?_
  refine jT ?_
  refine jc_seq ?_
  refine jc_region ?_
  refine jl_q rfl rfl (qCall rfl rfl rfl rfl rfl (by kernel_rfl) (alive_spec _)) ?_
  refine jp rfl ?_
  refine jl_nil ?_
  refine jT ?_
  refine jc_seq ?_
  refine jc_seq ?_
  refine jc_region ?_
  refine jp rfl ?_
  refine jl_q rfl rfl (qLen rfl rfl rfl) ?_
  refine jf rfl (decide_eq_false (by omega)) ?_
  iterate 4 refine jp rfl ?_
  refine jl_nil ?_
  refine jT ?_
  refine jc_no rfl ?_
  refine jc_skip ?_
  refine jT ?_
  refine jc_seq ?_
  refine jc_region ?_
  refine jp rfl ?_
  refine jl_q rfl rfl (qLdA (cs := pcells p) rfl rfl rfl rfl rfl (fun i v hv => CJ.loc (by simpa [pcells] using hv))) ?_
  refine jl_q rfl rfl (qCall rfl rfl rfl rfl rfl (by kernel_rfl) (get_err sa c xs p M hs he)) ?_
  iterate 5 refine jp rfl ?_
  refine jl_nil ?_
  refine jT ?_
  refine jc_seq ?_
  refine jc_seq ?_
  refine jc_region ?_
  refine jp rfl ?_
  refine jt rfl (decide_eq_true (by omega)) ?_
  refine jl_nil ?_
  refine jT ?_
  refine jc_yes rfl ?_
  refine jc_seq ?_
  refine jc_region ?_
  refine jp rfl ?_
  refine jl_q rfl rfl (qLen rfl rfl rfl) ?_
  iterate 2 refine jp rfl ?_
  refine jl_nil ?_
  refine jT ?_
  refine jc_ret ?_
  refine jTr ?_
  refine jr1 rfl rfl ?_
  rfl

theorem same_ok (sa : Option Addr) (c : Nat) (xs : List Int) (p : Pc) (M : Mem) (hs : SM M sa (bcells xs)) (h : wholeOk xs) (hp : chk p = 0) :
    SpecL Try.prog 9 #[.slice sa xs.length c, .agg (pcells p).toArray] M [] fun v _ _ => v = .bool true := by
  have h' := h
  unfold wholeOk at h'
  have hfl := h.full_len
  have h2 := chk_fine hp
  have hpl := part_len h hp
  refine spec_body (vs := [_, _]) 64 _ Try.func9 rfl Try.ntmps9 rfl rfl ?_; intro W
  refine jc_seq ?_
  refine jc_region ?_
  refine jl_h rfl rfl (hBox rfl rfl rfl rfl) ?_; rintro _ _ _ ⟨b3, rfl, rfl, rfl⟩
  refine jp rfl ?_
  refine jl_nil ?_
  refine jT ?_
  refine jc_seq ?_
  refine jc_region ?_
  refine jl_q rfl rfl (qCall rfl rfl rfl rfl rfl (by kernel_rfl) (alive_spec _)) ?_
  refine jp rfl ?_
  refine jl_nil ?_
  refine jT ?_
  refine jc_seq ?_
  refine jc_seq ?_
  refine jc_region ?_
  refine jp rfl ?_
  refine jl_q rfl rfl (qLen rfl rfl rfl) ?_
  refine jf rfl (decide_eq_false (by omega)) ?_
  iterate 4 refine jp rfl ?_
  refine jl_nil ?_
  refine jT ?_
  refine jc_no rfl ?_
  refine jc_skip ?_
  refine jT ?_
  refine jc_seq ?_
  refine jc_region ?_
  refine jp rfl ?_
  refine jl_q rfl rfl (qLdA (cs := pcells p) rfl rfl rfl rfl rfl (fun i v hv => CJ.loc (by simpa [pcells] using hv))) ?_
  refine jl_h rfl rfl (hCall rfl rfl rfl rfl rfl (by kernel_rfl) (get_ok sa c xs p M hs h hp)) ?_; rintro _ Ma _ ⟨hMa, _, rfl, ⟨s, rfl, hown⟩⟩
  refine jl_own hown (by simp) ?_
  intro M1 a1 c1 hM1' e1 hc1 hs1; subst e1
  have hM1 := hMa.trans hM1'
  iterate 5 refine jp rfl ?_
  refine jl_nil ?_
  refine jT ?_
  refine jc_seq ?_
  refine jc_seq ?_
  refine jc_region ?_
  refine jp rfl ?_
  refine jf rfl (decide_eq_false (by omega)) ?_
  refine jl_nil ?_
  refine jT ?_
  refine jc_no rfl ?_
  refine jc_skip ?_
  refine jT ?_
  refine jc_seq ?_
  refine jc_region ?_
  refine jp rfl ?_
  refine jl_q rfl rfl (qLdA (cs := pcells p) rfl rfl rfl rfl rfl (fun i v hv => CJ.loc (by simpa [pcells] using hv))) ?_
  refine jp rfl ?_
  refine jl_h rfl rfl (hCall rfl rfl rfl rfl rfl (by kernel_rfl) (put_ok sa c xs p M1 (hs.mono hM1) a1 c1 (part xs p) hs1 h hp (by omega))) ?_; rintro _ M1b _ ⟨hM1b, _, rfl, ⟨s2, rfl, hown2⟩⟩
  rw [putIn_part h hp] at hown2
  refine jl_own hown2 (by simp) ?_
  intro M2 a2 c2 hM2' e2 hc2 hs2; subst e2
  have hM2 := hM1b.trans hM2'
  obtain ⟨b2, o2, e2, g2⟩ := hs2.open (by intro e; have := congrArg List.length e; rw [bcells_len, List.length_nil] at this; omega)
  subst e2
  iterate 5 refine jp rfl ?_
  refine jl_nil ?_
  refine jT ?_
  refine jc_seq ?_
  refine jc_seq ?_
  refine jc_region ?_
  refine jp rfl ?_
  refine jf rfl (decide_eq_false (by omega)) ?_
  iterate 2 refine jp rfl ?_
  refine jl_q rfl rfl (qLen rfl rfl rfl) ?_
  refine jf rfl (decide_eq_false (by omega)) ?_
  refine jp rfl ?_
  refine jl_nil ?_
  refine jT ?_
  refine jc_no rfl ?_
  refine jc_skip ?_
  refine jT ?_
  refine jc_seq ?_
  refine jc_seq ?_
  refine jc_region ?_
  refine jp rfl ?_
  refine jl_nil ?_
  refine jT ?_
  refine jc_block ?_
  refine jc_loopK (α := Nat) (fun k => [(0, .slice sa xs.length c), (8, .slice (some ⟨b2, o2, none⟩) (full xs).length c2), (10, .int .i64 k)]) (fun _ => M2) (fun _ => []) (fun k => k ≤ 128) (fun k => 128 - k)
    0 (Keep.cons (t := 0) rfl (Keep.cons (t := 8) rfl (Keep.cons (t := 10) rfl Keep.nil))) (Nat.zero_le _) (fun _ h => h.fewer (by simp)) ?_
  rintro k hk
  try dsimp only at hk ⊢
  refine jc_seq ?_
  refine jc_seq ?_
  refine jc_region ?_
  refine jp rfl ?_
  refine js rfl (fun h47 => ?_) (fun h47 => ?_)
  · refine jl_nil ?_
    refine jT ?_
    refine jc_yes rfl ?_
    refine jc_skip ?_
    refine jT ?_
    refine jc_seq ?_
    refine jc_block ?_
    refine jc_seq ?_
    refine jc_region ?_
    refine jp rfl ?_
    refine jl_nil ?_
    refine jT ?_
    refine jc_seq ?_
    refine jc_seq ?_
    refine jc_region ?_
    iterate 2 refine jp rfl ?_
    refine jl_q rfl rfl (qLen rfl rfl rfl) ?_
    refine js rfl (fun h53 => ?_) (fun h53 => ?_)
    · refine jl_nil ?_
      refine jT ?_
      refine jc_yes rfl ?_
      refine jc_region ?_
      iterate 2 refine jp rfl ?_
      obtain ⟨b1, o1, e1, g1⟩ := hs.open (by intro e; have := congrArg List.length e; rw [bcells_len, List.length_nil] at this; omega)
      subst e1
      have hk1 : k < xs.length := by omega
      refine jl_q rfl rfl (qIdxS rfl rfl rfl rfl (by omega)) ?_
      refine jl_q rfl rfl (qLd rfl rfl rfl rfl ((((g1 (((k : Nat) : Int).toNat * 1) (.int .u8 (xs.getD k 0)) (by simp [bcells, List.getD, hk1])).mono hM1).mono hM2).cj _)) ?_
      refine jp rfl ?_
      refine jl_nil ?_
      refine jT ?_
      refine jc_seq ?_
      refine jc_region ?_
      iterate 2 refine jp rfl ?_
      have hz : ¬ k < xs.length → xs.getD k 0 = 0 := fun h => by simp [List.getD, List.getElem?_eq_none (by omega : xs.length ≤ k)]
      refine jl_q rfl rfl (qIdxS rfl rfl rfl rfl (by omega)) ?_
      refine jl_q rfl rfl (qLd rfl rfl rfl rfl ((g2 (((k : Nat) : Int).toNat * 1) (.int .u8 (xs.getD k 0)) (by rw [show ((k : Nat) : Int).toNat * 1 = k by omega]; exact full_at (by omega) (by omega))).cj _)) ?_
      refine jp rfl ?_
      refine jf rfl (decide_eq_false (by omega)) ?_
      refine jl_nil ?_
      refine jT ?_
      refine jc_no rfl ?_
      refine jc_skip ?_
      refine jB ?_
      refine jT ?_
      refine jc_region ?_
      refine jp rfl ?_
      refine ja rfl (by omega) ?_
      refine jp rfl ?_
      refine jl_nil ?_
      refine j_again (k + 1) (Keep.cons (t := 0) rfl (Keep.cons (t := 8) rfl (Keep.cons (t := 10) rfl Keep.nil))) (by omega) (by omega) (fun _ h => h)
    · refine jl_nil ?_
      refine jT ?_
      refine jc_no rfl ?_
      refine jc_skip ?_
      refine jT ?_
      refine jc_seq ?_
      refine jc_region ?_
      iterate 2 refine jp rfl ?_
      have hz : ¬ k < xs.length → xs.getD k 0 = 0 := fun h => by simp [List.getD, List.getElem?_eq_none (by omega : xs.length ≤ k)]
      refine jl_q rfl rfl (qIdxS rfl rfl rfl rfl (by omega)) ?_
      refine jl_q rfl rfl (qLd rfl rfl rfl rfl ((g2 (((k : Nat) : Int).toNat * 1) (.int .u8 (xs.getD k 0)) (by rw [show ((k : Nat) : Int).toNat * 1 = k by omega]; exact full_at (by omega) (by omega))).cj _)) ?_
      refine jp rfl ?_
      refine jf rfl (decide_eq_false (by omega)) ?_
      refine jl_nil ?_
      refine jT ?_
      refine jc_no rfl ?_
      refine jc_skip ?_
      refine jB ?_
      refine jT ?_
      refine jc_region ?_
      refine jp rfl ?_
      refine ja rfl (by omega) ?_
      refine jp rfl ?_
      refine jl_nil ?_
      refine j_again (k + 1) (Keep.cons (t := 0) rfl (Keep.cons (t := 8) rfl (Keep.cons (t := 10) rfl Keep.nil))) (by omega) (by omega) (fun _ h => h)
  · refine jl_nil ?_
    refine jT ?_
    refine jc_no rfl ?_
    refine jc_exit ?_
    refine jTx ?_
    refine jTx ?_
    refine jBx ?_
    refine jT ?_
    refine jc_seq ?_
    refine jc_region ?_
    refine jp rfl ?_
    refine jl_nil ?_
    refine jT ?_
    refine jc_ret ?_
    refine jr1 rfl rfl ?_
    rfl


theorem spanSame_spec (sa : Option Addr) (c : Nat) (xs : List Int) (p : Pc) (M : Mem) (hs : SM M sa (bcells xs)) : SpecL Try.prog 9 #[.slice sa xs.length c, .agg (pcells p).toArray] M [] fun v _ _ => v = .bool true := by
  by_cases h1 : 1000 < xs.length
  · exact same_long sa c xs p M hs h1
  by_cases he : askE xs p = 0
  · exact same_ok sa c xs p M hs (ask_zero he).1 (ask_zero he).2
  · exact same_err sa c xs p M hs h1 he

theorem back_long1 (sa : Option Addr) (c : Nat) (xs : List Int) (p : Pc) (M : Mem) (hs : SM M sa (bcells xs)) (sd : Option Addr) (dc : Nat) (ds : List Int) (hd : SM M sd (bcells ds)) (r : Nat) (hr : r < 256) (h : 1000 < xs.length) :
    SpecL Try.prog 8 #[.slice sa xs.length c, .agg (pcells p).toArray, .slice sd ds.length dc, .int .u8 r] M [] fun v _ _ => v = .bool true := by
  refine spec_body (vs := [_, _, _, _]) 116 _ Try.func8 rfl Try.ntmps8 rfl rfl ?_; intro W
  refine jc_seq ?_
  refine jc_region ?_
  refine jl_h rfl rfl (hBox rfl rfl rfl rfl) ?_; rintro _ _ _ ⟨b5, rfl, rfl, rfl⟩
  refine jp rfl ?_
  refine jl_nil ?_
  refine jT ?_
  refine jc_seq ?_
  refine jc_region ?_
  refine jl_q rfl rfl (qCall rfl rfl rfl rfl rfl (by kernel_rfl) (alive_spec _)) ?_
  refine jp rfl ?_
  refine jl_nil ?_
  refine jT ?_
  refine jc_seq ?_
  refine jc_seq ?_
  refine jc_region ?_
  refine jp rfl ?_
  refine jl_q rfl rfl (qLen rfl rfl rfl) ?_
  refine jt rfl (decide_eq_true (by omega)) ?_
  iterate 9 refine jp rfl ?_
  refine jl_nil ?_
  refine jT ?_
  refine jc_yes rfl ?_
  refine jc_seq ?_
  refine jc_region ?_
  iterate 2 refine jp rfl ?_
  refine jl_nil ?_
  refine jT ?_
  refine jc_ret ?_
  refine jTr ?_
  refine jr1 rfl rfl ?_
  rfl

theorem back_long2 (sa : Option Addr) (c : Nat) (xs : List Int) (p : Pc) (M : Mem) (hs : SM M sa (bcells xs)) (sd : Option Addr) (dc : Nat) (ds : List Int) (hd : SM M sd (bcells ds)) (r : Nat) (hr : r < 256) (h : ¬ 1000 < xs.length) (h2 : 1000 < ds.length) :
    SpecL Try.prog 8 #[.slice sa xs.length c, .agg (pcells p).toArray, .slice sd ds.length dc, .int .u8 r] M [] fun v _ _ => v = .bool true := by
  refine spec_body (vs := [_, _, _, _]) 116 _ Try.func8 rfl Try.ntmps8 rfl rfl ?_; intro W
  refine jc_seq ?_
  refine jc_region ?_
  refine jl_h rfl rfl (hBox rfl rfl rfl rfl) ?_; rintro _ _ _ ⟨b5, rfl, rfl, rfl⟩
  refine jp rfl ?_
  refine jl_nil ?_
  refine jT ?_
  refine jc_seq ?_
  refine jc_region ?_
  refine jl_q rfl rfl (qCall rfl rfl rfl rfl rfl (by kernel_rfl) (alive_spec _)) ?_
  refine jp rfl ?_
  refine jl_nil ?_
  refine jT ?_
  refine jc_seq ?_
  refine jc_seq ?_
  refine jc_region ?_
  refine jp rfl ?_
  refine jl_q rfl rfl (qLen rfl rfl rfl) ?_
  refine jf rfl (decide_eq_false (by omega)) ?_
  iterate 2 refine jp rfl ?_
  refine jl_q rfl rfl (qLen rfl rfl rfl) ?_
  refine jt rfl (decide_eq_true (by omega)) ?_
  iterate 5 refine jp rfl ?_
  refine jl_nil ?_
  refine jT ?_
  refine jc_yes rfl ?_
  refine jc_seq ?_
  refine jc_region ?_
  iterate 2 refine jp rfl ?_
  refine jl_nil ?_
  refine jT ?_
  refine jc_ret ?_
  refine jTr ?_
  refine jr1 rfl rfl ?_
  rfl

theorem back_err (sa : Option Addr) (c : Nat) (xs : List Int) (p : Pc) (M : Mem) (hs : SM M sa (bcells xs)) (sd : Option Addr) (dc : Nat) (ds : List Int) (hd : SM M sd (bcells ds)) (r : Nat) (hr : r < 256) (h : ¬ 1000 < xs.length) (h2 : ¬ 1000 < ds.length) (he : putE xs p ds ≠ 0) :
    SpecL Try.prog 8 #[.slice sa xs.length c, .agg (pcells p).toArray, .slice sd ds.length dc, .int .u8 r] M [] fun v _ _ => v = .bool true := by
  refine spec_body (vs := [_, _, _, _]) 116 _ Try.func8 rfl Try.ntmps8 rfl rfl ?_; intro W
  refine jc_seq ?_
  refine jc_region ?_
  refine jl_h rfl rfl (hBox rfl rfl rfl rfl) ?_; rintro _ _ _ ⟨b5, rfl, rfl, rfl⟩
  refine jp rfl ?_
  refine jl_nil ?_
  refine jT ?_
  refine jc_seq ?_
  refine jc_region ?_
  refine jl_q rfl rfl (qCall rfl rfl rfl rfl rfl (by kernel_rfl) (alive_spec _)) ?_
  refine jp rfl ?_
  refine jl_nil ?_
  refine jT ?_
  refine jc_seq ?_
  refine jc_seq ?_
  refine jc_region ?_
  refine jp rfl ?_
  refine jl_q rfl rfl (qLen rfl rfl rfl) ?_
  refine jf rfl (decide_eq_false (by omega)) ?_
  iterate 2 refine jp rfl ?_
  refine jl_q rfl rfl (qLen rfl rfl rfl) ?_
  refine jf rfl (decide_eq_false (by omega)) ?_
  iterate 5 refine jp rfl ?_
  refine jl_nil ?_
  refine jT ?_
  refine jc_no rfl ?_
  refine jc_skip ?_
  refine jT ?_
  refine jc_seq ?_
  refine jc_region ?_
  refine jp rfl ?_
  refine jl_q rfl rfl (qLdA (cs := pcells p) rfl rfl rfl rfl rfl (fun i v hv => CJ.loc (by simpa [pcells] using hv))) ?_
  refine jp rfl ?_
  refine jl_q rfl rfl (qCall rfl rfl rfl rfl rfl (by kernel_rfl) (put_err sa c xs p M hs sd dc ds hd he)) ?_
  iterate 5 refine jp rfl ?_
  refine jl_nil ?_
  refine jT ?_
  refine jc_seq ?_
  refine jc_seq ?_
  refine jc_region ?_
  refine jp rfl ?_
  refine jt rfl (decide_eq_true (by omega)) ?_
  refine jl_nil ?_
  refine jT ?_
  refine jc_yes rfl ?_
  refine jc_seq ?_
  refine jc_region ?_
  refine jp rfl ?_
  refine jl_q rfl rfl (qLen rfl rfl rfl) ?_
  iterate 2 refine jp rfl ?_
  refine jl_nil ?_
  refine jT ?_
  refine jc_ret ?_
  refine jTr ?_
  refine jr1 rfl rfl ?_
  rfl

set_option maxHeartbeats 1000000 in
theorem back_ok (sa : Option Addr) (c : Nat) (xs : List Int) (p : Pc) (M : Mem) (hs : SM M sa (bcells xs)) (sd : Option Addr) (dc : Nat) (ds : List Int) (hd : SM M sd (bcells ds)) (r : Nat) (hr : r < 256) (h : wholeOk xs) (hp : chk p = 0) (hl : (ds.length : Int) = p.2.2 - p.2.1) :
    SpecL Try.prog 8 #[.slice sa xs.length c, .agg (pcells p).toArray, .slice sd ds.length dc, .int .u8 r] M [] fun v _ _ => v = .bool true := by
  have h' := h
  unfold wholeOk at h'
  have h2 := chk_fine hp
  have hfl := putIn_len (xs := xs) (ds := ds) (f := p.2.1.toNat) h (by omega)
  have hwy : wholeOk (putIn xs ds p.2.1.toNat) := .inr hfl
  have hpo : chk (0, ((r % 128 : Nat) : Int), ((r % 128 : Nat) : Int) + 1) = 0 := by symm; apply chk_ok; dsimp only; omega
  have hx := part_putIn h hp hl
  generalize hY : putIn xs ds p.2.1.toNat = Y at *
  refine spec_body (vs := [_, _, _, _]) 116 _ Try.func8 rfl Try.ntmps8 rfl rfl ?_; intro W
  refine jc_seq ?_
  refine jc_region ?_
  refine jl_h rfl rfl (hBox rfl rfl rfl rfl) ?_; rintro _ _ _ ⟨b5, rfl, rfl, rfl⟩
  refine jp rfl ?_
  refine jl_nil ?_
  refine jT ?_
  refine jc_seq ?_
  refine jc_region ?_
  refine jl_q rfl rfl (qCall rfl rfl rfl rfl rfl (by kernel_rfl) (alive_spec _)) ?_
  refine jp rfl ?_
  refine jl_nil ?_
  refine jT ?_
  refine jc_seq ?_
  refine jc_seq ?_
  refine jc_region ?_
  refine jp rfl ?_
  refine jl_q rfl rfl (qLen rfl rfl rfl) ?_
  refine jf rfl (decide_eq_false (by omega)) ?_
  iterate 2 refine jp rfl ?_
  refine jl_q rfl rfl (qLen rfl rfl rfl) ?_
  refine jf rfl (decide_eq_false (by omega)) ?_
  iterate 5 refine jp rfl ?_
  refine jl_nil ?_
  refine jT ?_
  refine jc_no rfl ?_
  refine jc_skip ?_
  refine jT ?_
  refine jc_seq ?_
  refine jc_region ?_
  refine jp rfl ?_
  refine jl_q rfl rfl (qLdA (cs := pcells p) rfl rfl rfl rfl rfl (fun i v hv => CJ.loc (by simpa [pcells] using hv))) ?_
  refine jp rfl ?_
  refine jl_h rfl rfl (hCall rfl rfl rfl rfl rfl (by kernel_rfl) (put_ok sa c xs p M hs sd dc ds hd h hp hl)) ?_; rintro _ Ma _ ⟨hMa, _, rfl, ⟨s, rfl, hown⟩⟩
  rw [hY] at hown
  refine jl_own hown (by simp) ?_
  intro M1 a1 c1 hM1' e1 hc1 hs1; subst e1
  have hM1 := hMa.trans hM1'
  iterate 5 refine jp rfl ?_
  refine jl_nil ?_
  refine jT ?_
  refine jc_seq ?_
  refine jc_seq ?_
  refine jc_region ?_
  refine jp rfl ?_
  refine jf rfl (decide_eq_false (by omega)) ?_
  refine jl_nil ?_
  refine jT ?_
  refine jc_no rfl ?_
  refine jc_skip ?_
  refine jT ?_
  refine jc_seq ?_
  refine jc_region ?_
  refine jp rfl ?_
  refine jl_q rfl rfl (qLdA (cs := pcells p) rfl rfl rfl rfl rfl (fun i v hv => CJ.loc (by simpa [pcells] using hv))) ?_
  refine jl_h rfl rfl (hCall rfl rfl rfl rfl rfl (by kernel_rfl) (get_ok a1 c1 Y p M1 hs1 hwy hp)) ?_; rintro _ Mb _ ⟨hMb, _, rfl, ⟨s2, rfl, hown2⟩⟩
  rw [hx] at hown2
  refine jl_own hown2 (by simp) ?_
  intro M2 a2 c2 hM2' e2 hc2 hs2; subst e2
  have hM2 := hMb.trans hM2'
  iterate 5 refine jp rfl ?_
  refine jl_nil ?_
  refine jT ?_
  refine jc_seq ?_
  refine jc_region ?_
  refine jp rfl ?_
  refine jl_q rfl rfl (qConv64 rfl rfl rfl (by omega)) ?_
  refine jl_q rfl rfl (qEq (qRem rfl rfl rfl rfl (by omega) (by omega)) (v' := .int .i64 ((r % 128 : Nat) : Int)) (congrArg _ (by omega))) ?_
  refine jp rfl ?_
  refine jl_q rfl rfl (qConv64 rfl rfl rfl (by omega)) ?_
  refine jl_q rfl rfl (qEq (qRem rfl rfl rfl rfl (by omega) (by omega)) (v' := .int .i64 ((r % 128 : Nat) : Int)) (congrArg _ (by omega))) ?_
  refine ja rfl (by omega) ?_
  refine jl_q rfl rfl (qBuild (cs := [_, _, _]) rfl rfl rfl (by rfl)) ?_
  refine jl_h rfl rfl (hAlloc rfl rfl) ?_; rintro _ _ _ ⟨b14, rfl, rfl, rfl⟩
  refine jl_s rfl (hStore rfl rfl rfl rfl rfl rfl (by simp [Value.oneCell']) (by simp)) ?_; rintro _ _ _ ⟨rfl, rfl⟩
  refine jl_nil ?_
  refine jT ?_
  refine jc_seq ?_
  refine jc_region ?_
  refine jp rfl ?_
  refine jl_q rfl rfl (qLdA (cs := pcells (0, ((r % 128 : Nat) : Int), ((r % 128 : Nat) : Int) + 1)) rfl rfl rfl rfl rfl (fun i v hv => CJ.loc (by simpa [pcells] using hv))) ?_
  refine jl_h rfl rfl (hCall rfl rfl rfl rfl rfl (by kernel_rfl) (get_ok a1 c1 Y (0, ((r % 128 : Nat) : Int), ((r % 128 : Nat) : Int) + 1) M2 (hs1.mono hM2) hwy hpo)) ?_; rintro _ Mc _ ⟨hMc, _, rfl, ⟨s3, rfl, hown3⟩⟩
  refine jl_own hown3 (by simp) ?_
  intro M3 a3 c3 hM3' e3 hc3 hs3; subst e3
  have hM3 := hMc.trans hM3'
  iterate 5 refine jp rfl ?_
  refine jl_nil ?_
  refine jT ?_
  refine jc_seq ?_
  refine jc_region ?_
  refine jp rfl ?_
  refine jl_q rfl rfl (qLdA (cs := pcells (0, ((r % 128 : Nat) : Int), ((r % 128 : Nat) : Int) + 1)) rfl rfl rfl rfl rfl (fun i v hv => CJ.loc (by simpa [pcells] using hv))) ?_
  refine jl_h rfl rfl (hCall rfl rfl rfl rfl rfl (by kernel_rfl) (get_ok sa c xs (0, ((r % 128 : Nat) : Int), ((r % 128 : Nat) : Int) + 1) M3 (((hs.mono hM1).mono hM2).mono hM3) h hpo)) ?_; rintro _ Md _ ⟨hMd, _, rfl, ⟨s4, rfl, hown4⟩⟩
  refine jl_own hown4 (by simp) ?_
  intro M4 a4 c4 hM4' e4 hc4 hs4; subst e4
  have hM4 := hMd.trans hM4'
  iterate 5 refine jp rfl ?_
  refine jl_nil ?_
  refine jT ?_
  refine jc_seq ?_
  refine jc_region ?_
  refine jl_q rfl rfl (qFieldAddr rfl rfl rfl rfl rfl) ?_
  refine jl_q rfl rfl (qLd rfl rfl rfl rfl (CJ.loc rfl)) ?_
  refine jl_q rfl rfl (qFieldAddr rfl rfl rfl rfl rfl) ?_
  refine jl_q rfl rfl (qLd rfl rfl rfl rfl (CJ.loc rfl)) ?_
  refine js rfl (fun h76 => ?_) (fun h76 => ?_)
  · refine jp rfl ?_
    refine jl_q rfl rfl (qFieldAddr rfl rfl rfl rfl rfl) ?_
    refine jl_q rfl rfl (qLd rfl rfl rfl rfl (CJ.loc rfl)) ?_
    refine jl_q rfl rfl (qFieldAddr rfl rfl rfl rfl rfl) ?_
    refine jl_q rfl rfl (qLd rfl rfl rfl rfl (CJ.loc rfl)) ?_
    refine js rfl (fun h82 => ?_) (fun h82 => ?_)
    · iterate 2 refine jp rfl ?_
      refine jl_nil ?_
      refine jT ?_
      refine jc_seq ?_
      refine jc_region ?_
      refine jp rfl ?_
      refine jt rfl (decide_eq_true (by omega)) ?_
      iterate 2 refine jp rfl ?_
      refine jt rfl (decide_eq_true (by omega)) ?_
      iterate 3 refine jp rfl ?_
      refine jt rfl (decide_eq_true (by omega)) ?_
      iterate 3 refine jp rfl ?_
      refine jl_q rfl rfl (qStr (xs := ds) rfl rfl rfl rfl (((hs2.mono hM3).mono hM4).sj _)) ?_
      refine jp rfl ?_
      refine jl_q rfl rfl (qStr (xs := ds) rfl rfl rfl rfl (((((hd.mono hM1).mono hM2).mono hM3).mono hM4).sj _)) ?_
      refine jl_q rfl rfl (qEq (qP rfl rfl) (v' := .bool true) (by simp)) ?_
      iterate 3 refine jp rfl ?_
      refine jl_q rfl rfl (qLen rfl rfl rfl) ?_
      refine jt rfl (decide_eq_true (by omega)) ?_
      iterate 12 refine jp rfl ?_
      refine jl_nil ?_
      refine jT ?_
      refine jc_ret ?_
      refine jr1 rfl rfl ?_
      first | rfl | (simp; done) | (rw [hpe]; simp; done)
    · iterate 2 refine jp rfl ?_
      refine jl_nil ?_
      refine jT ?_
      refine jc_seq ?_
      refine jc_region ?_
      refine jp rfl ?_
      refine jt rfl (decide_eq_true (by omega)) ?_
      iterate 2 refine jp rfl ?_
      refine jt rfl (decide_eq_true (by omega)) ?_
      iterate 3 refine jp rfl ?_
      refine jt rfl (decide_eq_true (by omega)) ?_
      iterate 3 refine jp rfl ?_
      refine jl_q rfl rfl (qStr (xs := ds) rfl rfl rfl rfl (((hs2.mono hM3).mono hM4).sj _)) ?_
      refine jp rfl ?_
      refine jl_q rfl rfl (qStr (xs := ds) rfl rfl rfl rfl (((((hd.mono hM1).mono hM2).mono hM3).mono hM4).sj _)) ?_
      refine jl_q rfl rfl (qEq (qP rfl rfl) (v' := .bool true) (by simp)) ?_
      iterate 3 refine jp rfl ?_
      refine jl_q rfl rfl (qLen rfl rfl rfl) ?_
      refine jt rfl (decide_eq_true (by omega)) ?_
      iterate 5 refine jp rfl ?_
      have hpe : part Y (0, ((r % 128 : Nat) : Int), ((r % 128 : Nat) : Int) + 1) = part xs (0, ((r % 128 : Nat) : Int), ((r % 128 : Nat) : Int) + 1) := by rw [← hY]; exact part_else h (by omega) (by omega) (by omega)
      have hqy := part_len hwy hpo
      have hqx := part_len h hpo
      refine jl_q rfl rfl (qStr (xs := part Y (0, ((r % 128 : Nat) : Int), ((r % 128 : Nat) : Int) + 1)) rfl rfl rfl rfl ((hs3.mono hM4).sj _)) ?_
      refine jp rfl ?_
      refine jl_q rfl rfl (qStr (xs := part xs (0, ((r % 128 : Nat) : Int), ((r % 128 : Nat) : Int) + 1)) rfl rfl rfl rfl (hs4.sj _)) ?_
      refine jl_q rfl rfl (qP rfl rfl) ?_
      iterate 3 refine jp rfl ?_
      refine jl_nil ?_
      refine jT ?_
      refine jc_ret ?_
      refine jr1 rfl rfl ?_
      first | rfl | (simp; done) | (rw [hpe]; simp; done)
  · iterate 8 refine jp rfl ?_
    refine jl_nil ?_
    refine jT ?_
    refine jc_seq ?_
    refine jc_region ?_
    refine jp rfl ?_
    refine jt rfl (decide_eq_true (by omega)) ?_
    iterate 2 refine jp rfl ?_
    refine jt rfl (decide_eq_true (by omega)) ?_
    iterate 3 refine jp rfl ?_
    refine jt rfl (decide_eq_true (by omega)) ?_
    iterate 3 refine jp rfl ?_
    refine jl_q rfl rfl (qStr (xs := ds) rfl rfl rfl rfl (((hs2.mono hM3).mono hM4).sj _)) ?_
    refine jp rfl ?_
    refine jl_q rfl rfl (qStr (xs := ds) rfl rfl rfl rfl (((((hd.mono hM1).mono hM2).mono hM3).mono hM4).sj _)) ?_
    refine jl_q rfl rfl (qEq (qP rfl rfl) (v' := .bool true) (by simp)) ?_
    iterate 3 refine jp rfl ?_
    refine jl_q rfl rfl (qLen rfl rfl rfl) ?_
    refine jt rfl (decide_eq_true (by omega)) ?_
    iterate 5 refine jp rfl ?_
    have hpe : part Y (0, ((r % 128 : Nat) : Int), ((r % 128 : Nat) : Int) + 1) = part xs (0, ((r % 128 : Nat) : Int), ((r % 128 : Nat) : Int) + 1) := by rw [← hY]; exact part_else h (by omega) (by omega) (by omega)
    have hqy := part_len hwy hpo
    have hqx := part_len h hpo
    refine jl_q rfl rfl (qStr (xs := part Y (0, ((r % 128 : Nat) : Int), ((r % 128 : Nat) : Int) + 1)) rfl rfl rfl rfl ((hs3.mono hM4).sj _)) ?_
    refine jp rfl ?_
    refine jl_q rfl rfl (qStr (xs := part xs (0, ((r % 128 : Nat) : Int), ((r % 128 : Nat) : Int) + 1)) rfl rfl rfl rfl (hs4.sj _)) ?_
    refine jl_q rfl rfl (qP rfl rfl) ?_
    iterate 3 refine jp rfl ?_
    refine jl_nil ?_
    refine jT ?_
    refine jc_ret ?_
    refine jr1 rfl rfl ?_
    first | rfl | (simp; done) | (rw [hpe]; simp; done)


theorem spanBack_spec (sa : Option Addr) (c : Nat) (xs : List Int) (p : Pc) (M : Mem) (hs : SM M sa (bcells xs)) (sd : Option Addr) (dc : Nat) (ds : List Int) (hd : SM M sd (bcells ds)) (r : Nat) (hr : r < 256) : SpecL Try.prog 8 #[.slice sa xs.length c, .agg (pcells p).toArray, .slice sd ds.length dc, .int .u8 r] M [] fun v _ _ => v = .bool true := by
  by_cases h1 : 1000 < xs.length
  · exact back_long1 sa c xs p M hs sd dc ds hd r hr h1
  by_cases h2 : 1000 < ds.length
  · exact back_long2 sa c xs p M hs sd dc ds hd r hr h1 h2
  by_cases he : putE xs p ds = 0
  · obtain ⟨h3, h4, h5⟩ := put_zero he
    exact back_ok sa c xs p M hs sd dc ds hd r hr h3 h4 h5
  · exact back_err sa c xs p M hs sd dc ds hd r hr h1 h2 he

theorem names_spec (M : Mem) :
    SpecL Try.prog 7 #[] M [] fun v _ _ => v = .bool true := by
  refine spec_body (vs := []) 76 _ Try.func7 rfl Try.ntmps7 rfl rfl ?_; intro W
  refine jc_seq ?_
  refine jc_region ?_
  refine jp rfl ?_
  refine jl_nil ?_
  refine jT ?_
  refine jc_seq ?_
  refine jc_region ?_
  refine jl_h rfl rfl (hCall rfl rfl rfl rfl rfl (by kernel_rfl) (cut_ok 128 0 M (by omega) (by omega) (by omega) (by omega))) ?_; rintro _ Ma _ ⟨hMa, _, rfl, ⟨s, rfl, hown⟩⟩
  rw [show (cutTo 128 0 32).length = 0 by decide +kernel] at hown
  obtain ⟨sa, sc, rfl⟩ := hown.form
  iterate 5 refine jp rfl ?_
  refine jl_nil ?_
  refine jT ?_
  refine jc_seq ?_
  refine jc_region ?_
  refine jl_q rfl rfl (qCall rfl rfl rfl rfl rfl (by kernel_rfl) (cut_no3 4096 1 _ (by omega))) ?_
  iterate 5 refine jp rfl ?_
  refine jl_nil ?_
  refine jT ?_
  refine jc_seq ?_
  refine jc_region ?_
  refine jl_q rfl rfl (qCall rfl rfl rfl rfl rfl (by kernel_rfl) (many_ok 129 _ (by omega) (by omega))) ?_
  iterate 5 refine jp rfl ?_
  refine jl_nil ?_
  refine jT ?_
  refine jc_seq ?_
  refine jc_region ?_
  refine jl_q rfl rfl (qBuild (cs := [_, _, _]) rfl rfl rfl (by rfl)) ?_
  refine jl_h rfl rfl (hCall rfl rfl rfl rfl rfl (by kernel_rfl) (get_ok none 0 [] (0, 1, 3) Ma SM.nil (.inl rfl) (by decide +kernel))) ?_; rintro _ Mb _ ⟨hMb, _, rfl, ⟨s2, rfl, hown2⟩⟩
  rw [show part [] (0, 1, 3) = [0, 0] by decide +kernel] at hown2
  refine jl_own hown2 (by simp) ?_
  intro M2 a2 c2 hM2 e2 hc2 hs2; subst e2
  iterate 5 refine jp rfl ?_
  refine jl_nil ?_
  refine jT ?_
  refine jc_seq ?_
  refine jc_region ?_
  refine jl_h rfl rfl (hMake rfl rfl rfl rfl (by omega) (by rfl)) ?_; rintro _ _ _ ⟨b29, rfl, rfl, rfl⟩
  refine jl_q rfl rfl (qBuild (cs := [_, _, _]) rfl rfl rfl (by rfl)) ?_
  refine jl_freeze b29 (by simp) ?_
  intro M3 hM3 e3
  refine jl_q rfl rfl (qCall rfl rfl rfl rfl rfl (by kernel_rfl) (get_no (some ⟨b29, 0, none⟩) 5 (List.replicate 5 (0 : Int)) (0, 1, 3) M3 (SM.of_block (l := bcells (List.replicate 5 (0 : Int))) e3) (by decide +kernel))) ?_
  iterate 5 refine jp rfl ?_
  refine jl_nil ?_
  refine jT ?_
  refine jc_seq ?_
  refine jc_region ?_
  refine jp rfl ?_
  refine jl_q rfl rfl (qCall rfl rfl rfl rfl rfl (by kernel_rfl) (alive_spec _)) ?_
  iterate 3 refine jp rfl ?_
  refine jl_q rfl rfl (qLen rfl rfl rfl) ?_
  refine jt rfl (decide_eq_true (by omega)) ?_
  iterate 3 refine jp rfl ?_
  refine jt rfl (decide_eq_true (by omega)) ?_
  iterate 3 refine jp rfl ?_
  refine jt rfl (decide_eq_true (by omega)) ?_
  iterate 3 refine jp rfl ?_
  refine jt rfl (decide_eq_true (by omega)) ?_
  iterate 3 refine jp rfl ?_
  refine jt rfl (decide_eq_true (by omega)) ?_
  iterate 3 refine jp rfl ?_
  refine jl_q rfl rfl (qStr (xs := [0, 0]) rfl rfl rfl rfl ((hs2.mono hM3).sj _)) ?_
  refine jl_q rfl rfl (qEq (qP rfl rfl) (v' := .bool true) (by exact congrArg Value.bool (by decide +kernel))) ?_
  iterate 3 refine jp rfl ?_
  refine jt rfl (decide_eq_true (by omega)) ?_
  iterate 3 refine jp rfl ?_
  refine jt rfl (decide_eq_true (by omega)) ?_
  iterate 2 refine jp rfl ?_
  refine jl_q rfl rfl (qBuild (cs := [_, _, _]) rfl rfl rfl (by rfl)) ?_
  refine jl_q rfl rfl (qCall rfl rfl rfl rfl rfl (by kernel_rfl) (by have := check_spec (0, 3, 3) M3; rwa [show chk (0, 3, 3) = 8 by decide +kernel] at this)) ?_
  iterate 3 refine jp rfl ?_
  refine jl_nil ?_
  refine jT ?_
  refine jc_ret ?_
  refine jr1 rfl rfl ?_
  first | rfl | simp


/-! SpanPuts: what is answered is one's own -/
theorem Own.sj {M : Mem} {L : Lc} {a : Option Addr} {R : Lc} {e : TypeId} {size n cap : Nat} {xs : List Value} (ho : Own (.slice a n cap) R e size n xs) (hR : ∀ p ∈ R, p ∈ L) : SJ M L a xs := by
  obtain ⟨h1, h | ⟨g, c2, cur, h2, h3, h4, h5, h6, h7⟩⟩ := ho
  · left; obtain ⟨_, rfl, _⟩ := h; simpa using h1
  · right
    cases h2
    refine ⟨g, 0, rfl, fun i v hv => ⟨cur, e, (0, 0), .inr (hR _ (by rw [h3]; simp)), ?_⟩⟩
    rw [← h7, List.getElem?_take] at hv
    split at hv
    · simpa using hv
    · cases hv
theorem getL_len (xs : List Int) (p : Pc) : (getL xs p).length ≤ 128 := by
  unfold getL; split
  · rename_i h; have := chk_fine (ask_zero h).2; rw [part_len (ask_zero h).1 (ask_zero h).2]; omega
  · simp
theorem putL_len (xs : List Int) (p : Pc) (ds : List Int) : (putL xs p ds).length ≤ 128 := by
  unfold putL; split
  · rename_i h; obtain ⟨h1, h2, h3⟩ := put_zero h; have := chk_fine h2; rw [putIn_len h1 (by omega)]; omega
  · simp
theorem get_any (sa : Option Addr) (c : Nat) (xs : List Int) (p : Pc) (M : Mem) (hs : SM M sa (bcells xs)) : SpecL Try.prog 18 #[.slice sa xs.length c, .agg (pcells p).toArray] M [] fun v _ L' => ∃ a n, v = .tuple #[.slice a (getL xs p).length n, .int .i64 (askE xs p)] ∧ Own (.slice a (getL xs p).length n) L' BT 1 (getL xs p).length (bcells (getL xs p)) := by
  unfold getL
  by_cases he : askE xs p = 0
  · rw [if_pos he, he]
    refine (get_ok sa c xs p M hs (ask_zero he).1 (ask_zero he).2).mono fun v M' L' h => ?_
    obtain ⟨s, h1, h2⟩ := h
    obtain ⟨a, n, rfl⟩ := h2.form
    exact ⟨a, n, h1, h2⟩
  · rw [if_neg he]
    intro w hw
    refine (get_err sa c xs p M hs he w hw).mono fun e w' hh => ?_
    obtain ⟨v, M', L', h1, h2, h3⟩ := hh
    exact ⟨v, M', [], h1, ⟨none, 0, h2, Own.nil _ _⟩, h3.fewer (by simp)⟩
theorem rget_any (sa : Option Addr) (c : Nat) (xs : List Int) (p : Pc) (M : Mem) (hs : SM M sa (bcells xs)) : SpecL Try.prog 19 #[.slice sa xs.length c, .agg (pcells p).toArray] M [] fun v _ L' => ∃ a n, v = .tuple #[.slice a (getL xs p).length n, .int .i64 (askE xs p)] ∧ Own (.slice a (getL xs p).length n) L' BT 1 (getL xs p).length (bcells (getL xs p)) := by
  unfold getL
  by_cases he : askE xs p = 0
  · rw [if_pos he, he]
    refine (rget_ok sa c xs p M hs (ask_zero he).1 (ask_zero he).2).mono fun v M' L' h => ?_
    obtain ⟨s, h1, h2⟩ := h
    obtain ⟨a, n, rfl⟩ := h2.form
    exact ⟨a, n, h1, h2⟩
  · rw [if_neg he]
    intro w hw
    refine (rget_no sa c xs p M hs he w hw).mono fun e w' hh => ?_
    obtain ⟨v, M', L', h1, h2, h3⟩ := hh
    exact ⟨v, M', [], h1, ⟨none, 0, h2, Own.nil _ _⟩, h3.fewer (by simp)⟩
theorem put_any (sa : Option Addr) (c : Nat) (xs : List Int) (p : Pc) (M : Mem) (hs : SM M sa (bcells xs)) (sd : Option Addr) (dc : Nat) (ds : List Int) (hd : SM M sd (bcells ds)) : SpecL Try.prog 20 #[.slice sa xs.length c, .agg (pcells p).toArray, .slice sd ds.length dc] M [] fun v _ L' => ∃ a n, v = .tuple #[.slice a (putL xs p ds).length n, .int .i64 (putE xs p ds)] ∧ Own (.slice a (putL xs p ds).length n) L' BT 1 (putL xs p ds).length (bcells (putL xs p ds)) := by
  unfold putL
  by_cases he : putE xs p ds = 0
  · rw [if_pos he, he]
    obtain ⟨k1, k2, k3⟩ := put_zero he
    refine (put_ok sa c xs p M hs sd dc ds hd k1 k2 k3).mono fun v M' L' h => ?_
    obtain ⟨s, h1, h2⟩ := h
    obtain ⟨a, n, rfl⟩ := h2.form
    exact ⟨a, n, h1, h2⟩
  · rw [if_neg he]
    intro w hw
    refine (put_err sa c xs p M hs sd dc ds hd he w hw).mono fun e w' hh => ?_
    obtain ⟨v, M', L', h1, h2, h3⟩ := hh
    exact ⟨v, M', [], h1, ⟨none, 0, h2, Own.nil _ _⟩, h3.fewer (by simp)⟩
theorem rput_any (sa : Option Addr) (c : Nat) (xs : List Int) (p : Pc) (M : Mem) (hs : SM M sa (bcells xs)) (sd : Option Addr) (dc : Nat) (ds : List Int) (hd : SM M sd (bcells ds)) : SpecL Try.prog 21 #[.slice sa xs.length c, .agg (pcells p).toArray, .slice sd ds.length dc] M [] fun v _ L' => ∃ a n, v = .tuple #[.slice a (putL xs p ds).length n, .int .i64 (putE xs p ds)] ∧ Own (.slice a (putL xs p ds).length n) L' BT 1 (putL xs p ds).length (bcells (putL xs p ds)) := by
  unfold putL
  by_cases he : putE xs p ds = 0
  · rw [if_pos he, he]
    obtain ⟨k1, k2, k3⟩ := put_zero he
    refine (rput_ok sa c xs p M hs sd dc ds hd k1 k2 k3).mono fun v M' L' h => ?_
    obtain ⟨s, h1, h2⟩ := h
    obtain ⟨a, n, rfl⟩ := h2.form
    exact ⟨a, n, h1, h2⟩
  · rw [if_neg he]
    intro w hw
    refine (rput_err sa c xs p M hs sd dc ds hd he w hw).mono fun e w' hh => ?_
    obtain ⟨v, M', L', h1, h2, h3⟩ := hh
    exact ⟨v, M', [], h1, ⟨none, 0, h2, Own.nil _ _⟩, h3.fewer (by simp)⟩

theorem puts_long1 (sa : Option Addr) (c : Nat) (xs : List Int) (p : Pc) (M : Mem) (hs : SM M sa (bcells xs)) (sd : Option Addr) (dc : Nat) (ds : List Int) (hd : SM M sd (bcells ds)) (h : 1000 < xs.length) :
    SpecL Try.prog 6 #[.slice sa xs.length c, .agg (pcells p).toArray, .slice sd ds.length dc] M [] fun v _ _ => v = .bool true := by
  refine spec_body (vs := [_, _, _]) 117 _ Try.func6 rfl Try.ntmps6 rfl rfl ?_; intro W
  refine jc_seq ?_
  refine jc_region ?_
  refine jl_h rfl rfl (hBox rfl rfl rfl rfl) ?_; rintro _ _ _ ⟨b4, rfl, rfl, rfl⟩
  refine jp rfl ?_
  refine jl_nil ?_
  refine jT ?_
  refine jc_seq ?_
  refine jc_seq ?_
  refine jc_region ?_
  refine jp rfl ?_
  refine jl_q rfl rfl (qLen rfl rfl rfl) ?_
  refine jt rfl (decide_eq_true (by omega)) ?_
  iterate 5 refine jp rfl ?_
  refine jl_nil ?_
  refine jT ?_
  refine jc_yes rfl ?_
  refine jc_seq ?_
  refine jc_region ?_
  refine jp rfl ?_
  refine jl_nil ?_
  refine jT ?_
  refine jc_ret ?_
  refine jTr ?_
  refine jr1 rfl rfl ?_
  rfl

theorem puts_long2 (sa : Option Addr) (c : Nat) (xs : List Int) (p : Pc) (M : Mem) (hs : SM M sa (bcells xs)) (sd : Option Addr) (dc : Nat) (ds : List Int) (hd : SM M sd (bcells ds)) (h : ¬ 1000 < xs.length) (h2 : 1000 < ds.length) :
    SpecL Try.prog 6 #[.slice sa xs.length c, .agg (pcells p).toArray, .slice sd ds.length dc] M [] fun v _ _ => v = .bool true := by
  refine spec_body (vs := [_, _, _]) 117 _ Try.func6 rfl Try.ntmps6 rfl rfl ?_; intro W
  refine jc_seq ?_
  refine jc_region ?_
  refine jl_h rfl rfl (hBox rfl rfl rfl rfl) ?_; rintro _ _ _ ⟨b4, rfl, rfl, rfl⟩
  refine jp rfl ?_
  refine jl_nil ?_
  refine jT ?_
  refine jc_seq ?_
  refine jc_seq ?_
  refine jc_region ?_
  refine jp rfl ?_
  refine jl_q rfl rfl (qLen rfl rfl rfl) ?_
  refine jf rfl (decide_eq_false (by omega)) ?_
  iterate 2 refine jp rfl ?_
  refine jl_q rfl rfl (qLen rfl rfl rfl) ?_
  refine jt rfl (decide_eq_true (by omega)) ?_
  refine jp rfl ?_
  refine jl_nil ?_
  refine jT ?_
  refine jc_yes rfl ?_
  refine jc_seq ?_
  refine jc_region ?_
  refine jp rfl ?_
  refine jl_nil ?_
  refine jT ?_
  refine jc_ret ?_
  refine jTr ?_
  refine jr1 rfl rfl ?_
  rfl

set_option maxHeartbeats 1000000 in
theorem puts_ok (sa : Option Addr) (c : Nat) (xs : List Int) (p : Pc) (M : Mem) (hs : SM M sa (bcells xs)) (sd : Option Addr) (dc : Nat) (ds : List Int) (hd : SM M sd (bcells ds)) (h : ¬ 1000 < xs.length) (h2 : ¬ 1000 < ds.length) :
    SpecL Try.prog 6 #[.slice sa xs.length c, .agg (pcells p).toArray, .slice sd ds.length dc] M [] fun v _ _ => v = .bool true := by
  have hn1 := getL_len xs p
  have hn2 := putL_len xs p ds
  generalize hG : getL xs p = G at *
  generalize hY : putL xs p ds = Y at *
  refine spec_body (vs := [_, _, _]) 117 _ Try.func6 rfl Try.ntmps6 rfl rfl ?_; intro W
  refine jc_seq ?_
  refine jc_region ?_
  refine jl_h rfl rfl (hBox rfl rfl rfl rfl) ?_; rintro _ _ _ ⟨b4, rfl, rfl, rfl⟩
  refine jp rfl ?_
  refine jl_nil ?_
  refine jT ?_
  refine jc_seq ?_
  refine jc_seq ?_
  refine jc_region ?_
  refine jp rfl ?_
  refine jl_q rfl rfl (qLen rfl rfl rfl) ?_
  refine jf rfl (decide_eq_false (by omega)) ?_
  iterate 2 refine jp rfl ?_
  refine jl_q rfl rfl (qLen rfl rfl rfl) ?_
  refine jf rfl (decide_eq_false (by omega)) ?_
  refine jp rfl ?_
  refine jl_nil ?_
  refine jT ?_
  refine jc_no rfl ?_
  refine jc_skip ?_
  refine jT ?_
  refine jc_seq ?_
  refine jc_region ?_
  refine jp rfl ?_
  refine jl_q rfl rfl (qStr (xs := xs) rfl rfl rfl rfl (hs.sj _)) ?_
  refine jp rfl ?_
  refine jl_nil ?_
  refine jT ?_
  refine jc_seq ?_
  refine jc_region ?_
  refine jp rfl ?_
  refine jl_q rfl rfl (qStr (xs := ds) rfl rfl rfl rfl (hd.sj _)) ?_
  refine jp rfl ?_
  refine jl_nil ?_
  refine jT ?_
  refine jc_seq ?_
  refine jc_region ?_
  refine jp rfl ?_
  refine jl_q rfl rfl (qLdA (cs := pcells p) rfl rfl rfl rfl rfl (fun i v hv => CJ.loc (by simpa [pcells] using hv))) ?_
  refine jl_h rfl rfl (hCall rfl rfl rfl rfl rfl (by kernel_rfl) (get_any sa c xs p M hs)) ?_; rintro _ M1 _ ⟨hM1, R1, rfl, ⟨a1, c1, rfl, hown1⟩⟩
  simp only [hG] at hown1 ⊢
  iterate 5 refine jp rfl ?_
  refine jl_nil ?_
  refine jT ?_
  refine jc_seq ?_
  refine jc_region ?_
  refine jp rfl ?_
  refine jl_q rfl rfl (qLdA (cs := pcells p) rfl rfl rfl rfl rfl (fun i v hv => CJ.loc (by simpa [pcells] using hv))) ?_
  refine jl_h rfl rfl (hCall rfl rfl rfl rfl rfl (by kernel_rfl) (rget_any sa c xs p M1 (hs.mono hM1))) ?_; rintro _ M2 _ ⟨hM2, R2, rfl, ⟨a2, c2, rfl, hown2⟩⟩
  simp only [hG] at hown2 ⊢
  iterate 5 refine jp rfl ?_
  refine jl_nil ?_
  refine jT ?_
  refine jc_seq ?_
  refine jc_region ?_
  refine jp rfl ?_
  refine jl_q rfl rfl (qLdA (cs := pcells p) rfl rfl rfl rfl rfl (fun i v hv => CJ.loc (by simpa [pcells] using hv))) ?_
  refine jp rfl ?_
  refine jl_h rfl rfl (hCall rfl rfl rfl rfl rfl (by kernel_rfl) (put_any sa c xs p M2 ((hs.mono hM1).mono hM2) sd dc ds ((hd.mono hM1).mono hM2))) ?_; rintro _ M3 _ ⟨hM3, R3, rfl, ⟨a3, c3, rfl, hown3⟩⟩
  simp only [hY] at hown3 ⊢
  iterate 5 refine jp rfl ?_
  refine jl_nil ?_
  refine jT ?_
  refine jc_seq ?_
  refine jc_region ?_
  refine jp rfl ?_
  refine jl_q rfl rfl (qLdA (cs := pcells p) rfl rfl rfl rfl rfl (fun i v hv => CJ.loc (by simpa [pcells] using hv))) ?_
  refine jp rfl ?_
  refine jl_h rfl rfl (hCall rfl rfl rfl rfl rfl (by kernel_rfl) (rput_any sa c xs p M3 (((hs.mono hM1).mono hM2).mono hM3) sd dc ds (((hd.mono hM1).mono hM2).mono hM3))) ?_; rintro _ M4 _ ⟨hM4, R4, rfl, ⟨a4, c4, rfl, hown4⟩⟩
  simp only [hY] at hown4 ⊢
  iterate 5 refine jp rfl ?_
  refine jl_nil ?_
  refine jT ?_
  refine jc_seq ?_
  refine jc_region ?_
  refine jp rfl ?_
  refine jl_q rfl rfl (qStr (xs := G) rfl rfl rfl rfl (hown1.sj (fun p hp => by simp [hp]))) ?_
  refine jp rfl ?_
  refine jl_q rfl rfl (qStr (xs := G) rfl rfl rfl rfl (hown2.sj (fun p hp => by simp [hp]))) ?_
  refine jl_q rfl rfl (qEq (qP rfl rfl) (v' := .bool true) (by simp)) ?_
  iterate 3 refine jp rfl ?_
  refine jt rfl (decide_eq_true (by omega)) ?_
  iterate 3 refine jp rfl ?_
  refine jl_q rfl rfl (qStr (xs := Y) rfl rfl rfl rfl (hown3.sj (fun p hp => by simp [hp]))) ?_
  refine jp rfl ?_
  refine jl_q rfl rfl (qStr (xs := Y) rfl rfl rfl rfl (hown4.sj (fun p hp => by simp [hp]))) ?_
  refine jl_q rfl rfl (qEq (qP rfl rfl) (v' := .bool true) (by simp)) ?_
  iterate 4 refine jp rfl ?_
  refine jt rfl (decide_eq_true (by omega)) ?_
  iterate 2 refine jp rfl ?_
  refine jl_nil ?_
  refine jT ?_
  refine jc_seq ?_
  refine jc_seq ?_
  refine jc_region ?_
  refine jp rfl ?_
  refine jl_nil ?_
  refine jT ?_
  refine jc_block ?_
  refine jc_loopK (α := Nat × Lc × List Value) (fun x => [(0, .slice sa xs.length c), (2, .slice sd ds.length dc), (7, .string (strOfNums xs)), (8, .string (strOfNums ds)), (9, .slice a1 G.length c1), (13, .slice a3 Y.length c3), (17, .bool true), (18, .int .i64 x.1)]) (fun _ => M4) (fun x => R3 ++ x.2.1) (fun x => x.1 ≤ G.length ∧ Own (.slice a1 G.length c1) x.2.1 BT 1 G.length x.2.2 ∧ ∀ v ∈ x.2.2, ∃ n, v = .int .u8 n) (fun x => G.length - x.1)
    (0, R1, bcells G) (Keep.cons (t := 0) rfl (Keep.cons (t := 2) rfl (Keep.cons (t := 7) rfl (Keep.cons (t := 8) rfl (Keep.cons (t := 9) rfl (Keep.cons (t := 13) rfl (Keep.cons (t := 17) rfl (Keep.cons (t := 18) rfl Keep.nil)))))))) ⟨Nat.zero_le _, hown1, by intro v hv; obtain ⟨n, _, rfl⟩ := List.mem_map.1 hv; exact ⟨n, rfl⟩⟩ (fun w h => h.fewer ((List.Sublist.append (List.Sublist.refl R3) ((List.sublist_append_left R1 _).trans (List.sublist_append_right R2 _))).trans (List.sublist_append_right R4 _))) ?_
  rintro ⟨k, R, cs⟩ ⟨hk, ho, hcs⟩
  try dsimp only at hk ho hcs ⊢
  refine jc_seq ?_
  refine jc_seq ?_
  refine jc_region ?_
  iterate 2 refine jp rfl ?_
  refine jl_q rfl rfl (qLen rfl rfl rfl) ?_
  refine js rfl (fun h83 => ?_) (fun h83 => ?_)
  · refine jl_nil ?_
    refine jT ?_
    refine jc_yes rfl ?_
    refine jc_skip ?_
    refine jT ?_
    refine jc_seq ?_
    refine jc_block ?_
    refine jc_region ?_
    iterate 2 refine jp rfl ?_
    have hk1 : k < G.length := by omega
    obtain ⟨g, cap, cur, hv, hR, -, -, -, -⟩ := ho.open (by omega)
    cases hv
    have hlen := ho.1
    obtain ⟨n, hn⟩ : ∃ n, cs[k]? = some (.int .u8 n) := by obtain ⟨n, hn⟩ := hcs _ (List.getElem_mem (show k < cs.length by omega)); exact ⟨n, by rw [List.getElem?_eq_getElem (by omega), hn]⟩
    refine jl_q rfl rfl (qIdxS rfl rfl rfl rfl (by omega)) ?_
    refine jl_q rfl rfl (qLd rfl rfl rfl rfl (by rw [show 0 + ((k : Nat) : Int).toNat * 1 = k by omega]; exact ho.cj (fun p hp => by simp [hp]) hn)) ?_
    refine jl_q rfl rfl (qP rfl rfl) ?_
    refine jl_q rfl rfl (qIdxS rfl rfl rfl rfl (by omega)) ?_
    refine jl_s rfl (hStoreOwn rfl rfl rfl rfl rfl (by simp [Value.oneCell']) ho rfl (by omega)) ?_; rintro _ _ _ ⟨rfl, R'', rfl, ho'⟩
    refine jl_nil ?_
    refine jB ?_
    refine jT ?_
    refine jc_region ?_
    refine jp rfl ?_
    refine ja rfl (by omega) ?_
    refine jp rfl ?_
    refine jl_nil ?_
    refine j_again (k + 1, R'', _) (Keep.cons (t := 0) rfl (Keep.cons (t := 2) rfl (Keep.cons (t := 7) rfl (Keep.cons (t := 8) rfl (Keep.cons (t := 9) rfl (Keep.cons (t := 13) rfl (Keep.cons (t := 17) rfl (Keep.cons (t := 18) rfl Keep.nil)))))))) ⟨hk1, ho', fun v hv => ?_⟩ (show G.length - (k + 1) < G.length - k by omega) (fun w h => h.perm (by simpa using List.perm_append_comm))
    rcases List.mem_or_eq_of_mem_set hv with h | rfl
    · exact hcs v h
    · exact ⟨_, rfl⟩
  · refine jl_nil ?_
    refine jT ?_
    refine jc_no rfl ?_
    refine jc_exit ?_
    refine jTx ?_
    refine jTx ?_
    refine jBx ?_
    refine jT ?_
    refine jc_seq ?_
    refine jc_seq ?_
    refine jc_region ?_
    refine jp rfl ?_
    refine jl_nil ?_
    refine jT ?_
    refine jc_block ?_
    refine jc_loopK (α := Nat × Lc × List Value) (fun x => [(0, .slice sa xs.length c), (2, .slice sd ds.length dc), (7, .string (strOfNums xs)), (8, .string (strOfNums ds)), (13, .slice a3 Y.length c3), (17, .bool true), (19, .int .i64 x.1)]) (fun _ => M4) (fun x => x.2.1) (fun x => x.1 ≤ Y.length ∧ Own (.slice a3 Y.length c3) x.2.1 BT 1 Y.length x.2.2 ∧ ∀ v ∈ x.2.2, ∃ n, v = .int .u8 n) (fun x => Y.length - x.1)
      (0, R3, bcells Y) (Keep.cons (t := 0) rfl (Keep.cons (t := 2) rfl (Keep.cons (t := 7) rfl (Keep.cons (t := 8) rfl (Keep.cons (t := 13) rfl (Keep.cons (t := 17) rfl (Keep.cons (t := 19) rfl Keep.nil))))))) ⟨Nat.zero_le _, hown3, by intro v hv; obtain ⟨n, _, rfl⟩ := List.mem_map.1 hv; exact ⟨n, rfl⟩⟩ (fun w h => h.fewer (List.sublist_append_left _ _)) ?_
    rintro ⟨k, R, cs⟩ ⟨hk, ho, hcs⟩
    try dsimp only at hk ho hcs ⊢
    refine jc_seq ?_
    refine jc_seq ?_
    refine jc_region ?_
    iterate 2 refine jp rfl ?_
    refine jl_q rfl rfl (qLen rfl rfl rfl) ?_
    refine js rfl (fun h95 => ?_) (fun h95 => ?_)
    · refine jl_nil ?_
      refine jT ?_
      refine jc_yes rfl ?_
      refine jc_skip ?_
      refine jT ?_
      refine jc_seq ?_
      refine jc_block ?_
      refine jc_region ?_
      iterate 2 refine jp rfl ?_
      have hk1 : k < Y.length := by omega
      obtain ⟨g, cap, cur, hv, hR, -, -, -, -⟩ := ho.open (by omega)
      cases hv
      have hlen := ho.1
      obtain ⟨n, hn⟩ : ∃ n, cs[k]? = some (.int .u8 n) := by obtain ⟨n, hn⟩ := hcs _ (List.getElem_mem (show k < cs.length by omega)); exact ⟨n, by rw [List.getElem?_eq_getElem (by omega), hn]⟩
      refine jl_q rfl rfl (qIdxS rfl rfl rfl rfl (by omega)) ?_
      refine jl_q rfl rfl (qLd rfl rfl rfl rfl (by rw [show 0 + ((k : Nat) : Int).toNat * 1 = k by omega]; exact ho.cj (fun p hp => by simp [hp]) hn)) ?_
      refine jl_q rfl rfl (qP rfl rfl) ?_
      refine jl_q rfl rfl (qIdxS rfl rfl rfl rfl (by omega)) ?_
      refine jl_s rfl (hStoreOwn rfl rfl rfl rfl rfl (by simp [Value.oneCell']) ho rfl (by omega)) ?_; rintro _ _ _ ⟨rfl, R'', rfl, ho'⟩
      refine jl_nil ?_
      refine jB ?_
      refine jT ?_
      refine jc_region ?_
      refine jp rfl ?_
      refine ja rfl (by omega) ?_
      refine jp rfl ?_
      refine jl_nil ?_
      refine j_again (k + 1, R'', _) (Keep.cons (t := 0) rfl (Keep.cons (t := 2) rfl (Keep.cons (t := 7) rfl (Keep.cons (t := 8) rfl (Keep.cons (t := 13) rfl (Keep.cons (t := 17) rfl (Keep.cons (t := 19) rfl Keep.nil))))))) ⟨hk1, ho', fun v hv => ?_⟩ (show Y.length - (k + 1) < Y.length - k by omega) (fun w h => h.fewer (by simp))
      rcases List.mem_or_eq_of_mem_set hv with h | rfl
      · exact hcs v h
      · exact ⟨_, rfl⟩
    · refine jl_nil ?_
      refine jT ?_
      refine jc_no rfl ?_
      refine jc_exit ?_
      refine jTx ?_
      refine jTx ?_
      refine jBx ?_
      refine jT ?_
      refine jc_seq ?_
      refine jc_region ?_
      iterate 3 refine jp rfl ?_
      refine jl_q rfl rfl (qStr (xs := xs) rfl rfl rfl rfl (((((hs.mono hM1).mono hM2).mono hM3).mono hM4).sj _)) ?_
      refine jp rfl ?_
      refine jl_q rfl rfl (qEq (qP rfl rfl) (v' := .bool true) (by simp)) ?_
      iterate 3 refine jp rfl ?_
      refine jl_q rfl rfl (qStr (xs := ds) rfl rfl rfl rfl (((((hd.mono hM1).mono hM2).mono hM3).mono hM4).sj _)) ?_
      refine jp rfl ?_
      refine jl_q rfl rfl (qP rfl rfl) ?_
      iterate 2 refine jp rfl ?_
      refine jl_nil ?_
      refine jT ?_
      refine jc_ret ?_
      refine jr1 rfl rfl ?_
      first | rfl | simp


theorem spanPuts_spec (sa : Option Addr) (c : Nat) (xs : List Int) (p : Pc) (M : Mem) (hs : SM M sa (bcells xs)) (sd : Option Addr) (dc : Nat) (ds : List Int) (hd : SM M sd (bcells ds)) : SpecL Try.prog 6 #[.slice sa xs.length c, .agg (pcells p).toArray, .slice sd ds.length dc] M [] fun v _ _ => v = .bool true := by
  by_cases h1 : 1000 < xs.length
  · exact puts_long1 sa c xs p M hs sd dc ds hd h1
  by_cases h2 : 1000 < ds.length
  · exact puts_long2 sa c xs p M hs sd dc ds hd h1 h2
  · exact puts_ok sa c xs p M hs sd dc ds hd h1 h2

end Go.Proofs.Ytjmkgfamonallaa
