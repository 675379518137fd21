/- Walks: whole, Clone, Get, Put, and the document's answers. -/
import Derived.Test.YtjmkgfamonallaaSpanC
import Derived.Test.YtjmkgfamonallaaHg
namespace Go.Proofs.Ytjmkgfamonallaa
open Go.RowKit

abbrev BT : TypeId := 5
abbrev AT : TypeId := 53
def bcells (xs : List Int) : List Value := xs.map (Value.int .u8)
theorem bcells_len (xs : List Int) : (bcells xs).length = xs.length := by simp [bcells]
theorem bcells_one (xs : List Int) : ∀ v ∈ bcells xs, v.oneCell' = true := by
  intro v hv; obtain ⟨n, _, rfl⟩ := List.mem_map.1 hv; rfl
def full (xs : List Int) : List Int := xs ++ List.replicate (128 - xs.length) 0
theorem full_len {xs : List Int} (h : xs.length ≤ 128) : (full xs).length = 128 := by simp [full]; omega
theorem zeros_eq' (n : Nat) : List.replicate n (Value.int .u8 0) = ([] ++ List.replicate (n - 0) (0 : Int)).map (Value.int .u8) := by simp
theorem zeros_eq : (List.replicate 128 (Value.int .u8 0)) = bcells (full []) := zeros_eq' 128
theorem copy_full' (n : Nat) (xs : List Int) : (List.replicate n (Value.int .u8 0)).take 0 ++ bcells xs ++ (List.replicate n (Value.int .u8 0)).drop (0 + (bcells xs).length) = bcells (xs ++ List.replicate (n - xs.length) 0) := by
  simp [bcells]
theorem copy_full (xs : List Int) : (List.replicate 128 (Value.int .u8 0)).take 0 ++ bcells xs ++ (List.replicate 128 (Value.int .u8 0)).drop (0 + (bcells xs).length) = bcells (full xs) := copy_full' 128 xs

theorem whole_nil (sa : Option Addr) (c : Nat) (xs : List Int) (M : Mem) (hs : SM M sa (bcells xs)) (h : xs.length = 0) :
    SpecL Try.prog 24 #[.slice sa xs.length c] M [] fun v _ _ => v = .tuple #[.agg (bcells (full xs)).toArray, .int .i64 0] := by
  have hfl := full_len (xs := xs) (by omega)
  refine spec_body (vs := [_]) 17 _ Try.func24 rfl Try.ntmps24 rfl rfl ?_; intro W
  refine jc_seq ?_
  refine jc_region ?_
  refine jl_h rfl rfl (hAlloc rfl rfl) ?_; rintro _ _ _ ⟨b2, rfl, rfl, rfl⟩
  refine jp rfl ?_
  refine jl_nil ?_
  refine jT ?_
  refine jc_seq ?_
  refine jc_seq ?_
  refine jc_region ?_
  refine jp rfl ?_
  refine jl_q rfl rfl (qLen rfl rfl rfl) ?_
  refine jf rfl (decide_eq_false (by omega)) ?_
  iterate 5 refine jp rfl ?_
  refine jl_nil ?_
  refine jT ?_
  refine jc_no rfl ?_
  refine jc_skip ?_
  refine jT ?_
  refine jc_seq ?_
  refine jc_region ?_
  refine jl_q rfl rfl (qSlAll rfl rfl rfl) ?_
  refine jp rfl ?_
  refine jl_h rfl rfl (hCopy rfl rfl rfl rfl (cs := bcells xs) (by simp [bcells_len]; omega) (hs.sj _) (bcells_one xs) (by simp [bcells_len]; omega)) ?_; rintro _ _ _ ⟨rfl, rfl, rfl⟩
  rw [copy_full xs]
  refine jl_nil ?_
  refine jT ?_
  refine jc_seq ?_
  refine jc_region ?_
  refine jl_q rfl rfl (qLdA (cs := bcells (full xs)) rfl rfl rfl rfl (by rw [bcells_len]; exact hfl) (fun i v hv => CJ.loc (by simpa using hv))) ?_
  refine jl_s rfl (hStoreA rfl rfl rfl rfl (by rw [bcells_len]; exact hfl) (bcells_one _) (by first | (rw [bcells_len]; exact hfl) | exact List.length_replicate .. | (simp only [bcells_len]; omega))) ?_; rintro _ _ _ ⟨rfl, rfl⟩
  refine jp rfl ?_
  refine jl_nil ?_
  refine jT ?_
  refine jc_ret ?_
  refine jrc rfl rfl rfl rfl (by rw [bcells_len]; exact hfl) rfl

theorem whole_one (sa : Option Addr) (c : Nat) (xs : List Int) (M : Mem) (hs : SM M sa (bcells xs)) (h : xs.length = 128) :
    SpecL Try.prog 24 #[.slice sa xs.length c] M [] fun v _ _ => v = .tuple #[.agg (bcells (full xs)).toArray, .int .i64 0] := by
  have hfl := full_len (xs := xs) (by omega)
  refine spec_body (vs := [_]) 17 _ Try.func24 rfl Try.ntmps24 rfl rfl ?_; intro W
  refine jc_seq ?_
  refine jc_region ?_
  refine jl_h rfl rfl (hAlloc rfl rfl) ?_; rintro _ _ _ ⟨b2, rfl, rfl, rfl⟩
  refine jp rfl ?_
  refine jl_nil ?_
  refine jT ?_
  refine jc_seq ?_
  refine jc_seq ?_
  refine jc_region ?_
  refine jp rfl ?_
  refine jl_q rfl rfl (qLen rfl rfl rfl) ?_
  refine jt rfl (decide_eq_true (by omega)) ?_
  iterate 2 refine jp rfl ?_
  refine jl_q rfl rfl (qLen rfl rfl rfl) ?_
  refine jf rfl (decide_eq_false (by omega)) ?_
  refine jp rfl ?_
  refine jl_nil ?_
  refine jT ?_
  refine jc_no rfl ?_
  refine jc_skip ?_
  refine jT ?_
  refine jc_seq ?_
  refine jc_region ?_
  refine jl_q rfl rfl (qSlAll rfl rfl rfl) ?_
  refine jp rfl ?_
  refine jl_h rfl rfl (hCopy rfl rfl rfl rfl (cs := bcells xs) (by simp [bcells_len]; omega) (hs.sj _) (bcells_one xs) (by simp [bcells_len]; omega)) ?_; rintro _ _ _ ⟨rfl, rfl, rfl⟩
  rw [copy_full xs]
  refine jl_nil ?_
  refine jT ?_
  refine jc_seq ?_
  refine jc_region ?_
  refine jl_q rfl rfl (qLdA (cs := bcells (full xs)) rfl rfl rfl rfl (by rw [bcells_len]; exact hfl) (fun i v hv => CJ.loc (by simpa using hv))) ?_
  refine jl_s rfl (hStoreA rfl rfl rfl rfl (by rw [bcells_len]; exact hfl) (bcells_one _) (by first | (rw [bcells_len]; exact hfl) | exact List.length_replicate .. | (simp only [bcells_len]; omega))) ?_; rintro _ _ _ ⟨rfl, rfl⟩
  refine jp rfl ?_
  refine jl_nil ?_
  refine jT ?_
  refine jc_ret ?_
  refine jrc rfl rfl rfl rfl (by rw [bcells_len]; exact hfl) rfl

theorem whole_no (sa : Option Addr) (c : Nat) (xs : List Int) (M : Mem) (hs : SM M sa (bcells xs)) (h : xs.length ≠ 0 ∧ xs.length ≠ 128) :
    SpecL Try.prog 24 #[.slice sa xs.length c] M [] fun v _ _ => v = .tuple #[.agg (bcells (full [])).toArray, .int .i64 3] := by
  refine spec_body (vs := [_]) 17 _ Try.func24 rfl Try.ntmps24 rfl rfl ?_; intro W
  refine jc_seq ?_
  refine jc_region ?_
  refine jl_h rfl rfl (hAlloc rfl rfl) ?_; rintro _ _ _ ⟨b2, rfl, rfl, rfl⟩
  rw [zeros_eq]
  refine jp rfl ?_
  refine jl_nil ?_
  refine jT ?_
  refine jc_seq ?_
  refine jc_seq ?_
  refine jc_region ?_
  refine jp rfl ?_
  refine jl_q rfl rfl (qLen rfl rfl rfl) ?_
  refine jt rfl (decide_eq_true (by omega)) ?_
  iterate 2 refine jp rfl ?_
  refine jl_q rfl rfl (qLen rfl rfl rfl) ?_
  refine jt rfl (decide_eq_true (by omega)) ?_
  refine jp rfl ?_
  refine jl_nil ?_
  refine jT ?_
  refine jc_yes rfl ?_
  refine jc_seq ?_
  refine jc_region ?_
  refine jl_q rfl rfl (qLdA (cs := bcells (full [])) rfl rfl rfl rfl (by rw [bcells_len]; exact full_len (by simp)) (fun i v hv => CJ.loc (by simpa using hv))) ?_
  refine jl_s rfl (hStoreA rfl rfl rfl rfl (by rw [bcells_len]; exact full_len (by simp)) (bcells_one _) (by first | (rw [bcells_len]; exact full_len (by simp)) | exact List.length_replicate .. | (simp only [bcells_len]; omega))) ?_; rintro _ _ _ ⟨rfl, rfl⟩
  refine jp rfl ?_
  refine jl_nil ?_
  refine jT ?_
  refine jc_ret ?_
  refine jTr ?_
  refine jrc rfl rfl rfl rfl (by rw [bcells_len]; exact full_len (by simp)) rfl

theorem clone_spec (b off c : Nat) (xs : List Int) (M : Mem) (hx : ∀ i v, (bcells xs)[i]? = some v → CM M b (off + i) v) (hn : xs.length ≤ 1000) :
    SpecL Try.prog 25 #[.slice (some ⟨b, off, none⟩) xs.length c] M [] fun v _ L' => Own v L' BT 1 xs.length (bcells xs) := by
  refine spec_body (vs := [_]) 8 _ Try.func25 rfl Try.ntmps25 rfl rfl ?_; intro W
  refine jc_seq ?_
  refine jc_region ?_
  refine jp rfl ?_
  refine jl_nil ?_
  refine jT ?_
  refine jc_seq ?_
  refine jc_seq ?_
  refine jc_region ?_
  refine jp rfl ?_
  refine jl_q rfl rfl (qEq (qNil rfl rfl rfl rfl) (v' := .bool false) (by simp)) ?_
  refine jl_nil ?_
  refine jT ?_
  refine jc_no rfl ?_
  refine jc_skip ?_
  refine jT ?_
  refine jc_seq ?_
  refine jc_region ?_
  refine jl_h rfl rfl (hBuildSlice (z := [.int .u8 0]) (cs := []) rfl rfl rfl (by rfl) (by rfl) (by rfl)) ?_; rintro _ _ _ ⟨b5, rfl, rfl, rfl⟩
  refine jp rfl ?_
  refine jl_h rfl rfl (hAppend (n := 0) (xs := []) (news := bcells xs) rfl rfl rfl rfl ⟨rfl, .inr ⟨b5, 0, #[], rfl, rfl, by omega, by decide, rfl, rfl⟩⟩ (by rw [bcells_len]; omega) (fun i v hv => (hx i v hv).cj _) rfl rfl (bcells_one xs) (by omega) (by decide)) ?_; rintro v7 _ _ ⟨rfl, R7, rfl, hown, _⟩
  refine jp rfl ?_
  refine jl_nil ?_
  refine jT ?_
  refine jc_ret ?_
  refine jr1 rfl rfl ?_
  simpa using hown


def wholeOk (xs : List Int) : Prop := xs.length = 0 ∨ xs.length = 128
instance (xs : List Int) : Decidable (wholeOk xs) := inferInstanceAs (Decidable (_ ∨ _))
theorem whole_ok (sa : Option Addr) (c : Nat) (xs : List Int) (M : Mem) (hs : SM M sa (bcells xs)) (h : wholeOk xs) : SpecL Try.prog 24 #[.slice sa xs.length c] M [] fun v _ _ => v = .tuple #[.agg (bcells (full xs)).toArray, .int .i64 0] :=
  h.elim (whole_nil sa c xs M hs) (whole_one sa c xs M hs)
def askE (xs : List Int) (p : Pc) : Int := if wholeOk xs then chk p else 3
def part (xs : List Int) (p : Pc) : List Int := ((full xs).drop p.2.1.toNat).take (p.2.2.toNat - p.2.1.toNat)
def getL (xs : List Int) (p : Pc) : List Int := if askE xs p = 0 then part xs p else []
def putIn (xs ds : List Int) (f : Nat) : List Int := (full xs).take f ++ ds ++ (full xs).drop (f + ds.length)
def putE (xs : List Int) (p : Pc) (ds : List Int) : Int := if askE xs p = 0 then (if (ds.length : Int) = p.2.2 - p.2.1 then 0 else 3) else askE xs p
def putL (xs : List Int) (p : Pc) (ds : List Int) : List Int := if putE xs p ds = 0 then putIn xs ds p.2.1.toNat else []
theorem chk_fine {p : Pc} (h : chk p = 0) : 0 ≤ p.1 ∧ p.1 < 32 ∧ 0 ≤ p.2.1 ∧ p.2.1 < p.2.2 ∧ p.2.2 ≤ 128 := by
  unfold chk at h; split at h <;> omega
theorem wholeOk.full_len {xs : List Int} (h : wholeOk xs) : (full xs).length = 128 := Go.Proofs.Ytjmkgfamonallaa.full_len (by unfold wholeOk at h; omega)
theorem part_len {xs : List Int} {p : Pc} (h : wholeOk xs) (hp : chk p = 0) : (part xs p).length = p.2.2.toNat - p.2.1.toNat := by
  have h1 := h.full_len
  have h2 := chk_fine hp
  simp only [part, List.length_take, List.length_drop]; omega
theorem putIn_len {xs ds : List Int} {f : Nat} (h : wholeOk xs) (hf : f + ds.length ≤ 128) : (putIn xs ds f).length = 128 := by
  have h1 := h.full_len
  simp only [putIn, List.length_append, List.length_take, List.length_drop]; omega
theorem bsub {xs : List Int} {l k i : Nat} {v : Value} (h : (bcells ((xs.drop l).take k))[i]? = some v) : (bcells xs)[l + i]? = some v := by
  simp only [bcells, List.getElem?_map, List.getElem?_take, List.getElem?_drop] at h ⊢
  split at h
  · exact h
  · simp at h
theorem cm_block {M : Mem} {b : Nat} {e : TypeId} {fz : Nat × Nat} {xs : List Int} {o : Nat} (ho : o = 0) (e1 : M b = some (.cells (bcells xs).toArray e fz)) : ∀ i v, (bcells xs)[i]? = some v → CM M b (o + i) v := fun i v h => ⟨_, _, _, e1, by subst ho; simpa using h⟩
theorem cm_sub {M : Mem} {b : Nat} {e : TypeId} {fz : Nat × Nat} {xs : List Int} {l k : Nat} (e1 : M b = some (.cells (bcells xs).toArray e fz)) : ∀ i v, (bcells ((xs.drop l).take k))[i]? = some v → CM M b (0 + l * 1 + i) v := fun i v h => ⟨_, _, _, e1, by have := bsub h; simpa using this⟩
theorem put_cells (xs ds : List Int) (f : Nat) : (bcells (full xs)).take (0 + f * 1) ++ bcells ds ++ (bcells (full xs)).drop (0 + f * 1 + (bcells ds).length) = bcells (putIn xs ds f) := by
  simp [bcells, putIn, List.map_take, List.map_drop]

theorem get_no (sa : Option Addr) (c : Nat) (xs : List Int) (p : Pc) (M : Mem) (hs : SM M sa (bcells xs))(h : ¬ wholeOk xs) :
    SpecL Try.prog 18 #[.slice sa xs.length c, .agg (pcells p).toArray] M [] fun v _ _ => v = .tuple #[.slice none 0 0, .int .i64 (3)] := by
  refine spec_body (vs := [_, _]) 26 _ Try.func18 rfl Try.ntmps18 rfl rfl ?_; intro W
  refine jc_seq ?_
  refine jc_region ?_
  refine jl_h rfl rfl (hBox rfl rfl rfl rfl) ?_; rintro _ _ _ ⟨b3, rfl, rfl, rfl⟩
  iterate 2 refine jp rfl ?_
  refine jl_nil ?_
  refine jT ?_
  refine jc_seq ?_
  refine jc_region ?_
  refine jp rfl ?_
  refine jl_q rfl rfl (qCall rfl rfl rfl rfl rfl (by kernel_rfl) (whole_no sa c xs M hs (by unfold wholeOk at h; omega))) ?_
  iterate 3 refine jp rfl ?_
  refine jl_h rfl rfl (hAlloc rfl rfl) ?_; rintro _ _ _ ⟨b6, rfl, rfl, rfl⟩
  refine jl_s rfl (hStoreA rfl rfl rfl rfl (by rw [bcells_len]; exact full_len (by simp)) (bcells_one _) (by first | (rw [bcells_len]; exact full_len (by simp)) | exact List.length_replicate .. | (simp only [bcells_len]; omega))) ?_; rintro _ _ _ ⟨rfl, rfl⟩
  refine jp rfl ?_
  refine jl_nil ?_
  refine jT ?_
  refine jc_seq ?_
  refine jc_seq ?_
  refine jc_region ?_
  refine jp rfl ?_
  refine jf rfl (decide_eq_false (by omega)) ?_
  refine jl_nil ?_
  refine jT ?_
  refine jc_no rfl ?_
  refine jc_skip ?_
  refine jT ?_
  refine jc_seq ?_
  refine jc_seq ?_
  refine jc_region ?_
  refine jp rfl ?_
  refine jt rfl (decide_eq_true (by omega)) ?_
  refine jl_nil ?_
  refine jT ?_
  refine jc_yes rfl ?_
  refine jc_seq ?_
  refine jc_region ?_
  iterate 3 refine jp rfl ?_
  refine jl_nil ?_
  refine jT ?_
  refine jc_ret ?_
  refine jTr ?_
  refine jr2 rfl rfl rfl ?_
  rfl

theorem get_bad (sa : Option Addr) (c : Nat) (xs : List Int) (p : Pc) (M : Mem) (hs : SM M sa (bcells xs))(h : wholeOk xs) (hp : chk p ≠ 0) :
    SpecL Try.prog 18 #[.slice sa xs.length c, .agg (pcells p).toArray] M [] fun v _ _ => v = .tuple #[.slice none 0 0, .int .i64 (chk p)] := by
  refine spec_body (vs := [_, _]) 26 _ Try.func18 rfl Try.ntmps18 rfl rfl ?_; intro W
  refine jc_seq ?_
  refine jc_region ?_
  refine jl_h rfl rfl (hBox rfl rfl rfl rfl) ?_; rintro _ _ _ ⟨b3, rfl, rfl, rfl⟩
  iterate 2 refine jp rfl ?_
  refine jl_nil ?_
  refine jT ?_
  refine jc_seq ?_
  refine jc_region ?_
  refine jp rfl ?_
  refine jl_q rfl rfl (qCall rfl rfl rfl rfl rfl (by kernel_rfl) (whole_ok sa c xs M hs h)) ?_
  iterate 3 refine jp rfl ?_
  refine jl_h rfl rfl (hAlloc rfl rfl) ?_; rintro _ _ _ ⟨b6, rfl, rfl, rfl⟩
  refine jl_s rfl (hStoreA rfl rfl rfl rfl (by rw [bcells_len]; exact h.full_len) (bcells_one _) (by first | (rw [bcells_len]; exact h.full_len) | exact List.length_replicate .. | (simp only [bcells_len]; omega))) ?_; rintro _ _ _ ⟨rfl, rfl⟩
  refine jp rfl ?_
  refine jl_nil ?_
  refine jT ?_
  refine jc_seq ?_
  refine jc_seq ?_
  refine jc_region ?_
  refine jp rfl ?_
  refine jt rfl (decide_eq_true (by omega)) ?_
  refine jl_nil ?_
  refine jT ?_
  refine jc_yes rfl ?_
  refine jc_region ?_
  refine jl_q rfl rfl (qLdA (cs := pcells p) rfl rfl rfl rfl rfl (fun i v hv => CJ.loc (by simpa [pcells] using hv))) ?_
  refine jl_q rfl rfl (qCall rfl rfl rfl rfl rfl (by kernel_rfl) (check_spec p M)) ?_
  refine jp rfl ?_
  refine jl_nil ?_
  refine jT ?_
  refine jc_seq ?_
  refine jc_seq ?_
  refine jc_region ?_
  refine jp rfl ?_
  refine jt rfl (decide_eq_true (by omega)) ?_
  refine jl_nil ?_
  refine jT ?_
  refine jc_yes rfl ?_
  refine jc_seq ?_
  refine jc_region ?_
  iterate 3 refine jp rfl ?_
  refine jl_nil ?_
  refine jT ?_
  refine jc_ret ?_
  refine jTr ?_
  refine jr2 rfl rfl rfl ?_
  rfl

theorem get_ok (sa : Option Addr) (c : Nat) (xs : List Int) (p : Pc) (M : Mem) (hs : SM M sa (bcells xs))(h : wholeOk xs) (hp : chk p = 0) :
    SpecL Try.prog 18 #[.slice sa xs.length c, .agg (pcells p).toArray] M [] fun v _ L' => ∃ s, v = .tuple #[s, .int .i64 0] ∧ Own s L' BT 1 (part xs p).length (bcells (part xs p)) := by
  refine spec_body (vs := [_, _]) 26 _ Try.func18 rfl Try.ntmps18 rfl rfl ?_; intro W
  refine jc_seq ?_
  refine jc_region ?_
  refine jl_h rfl rfl (hBox rfl rfl rfl rfl) ?_; rintro _ _ _ ⟨b3, rfl, rfl, rfl⟩
  iterate 2 refine jp rfl ?_
  refine jl_nil ?_
  refine jT ?_
  refine jc_seq ?_
  refine jc_region ?_
  refine jp rfl ?_
  refine jl_q rfl rfl (qCall rfl rfl rfl rfl rfl (by kernel_rfl) (whole_ok sa c xs M hs h)) ?_
  iterate 3 refine jp rfl ?_
  refine jl_h rfl rfl (hAlloc rfl rfl) ?_; rintro _ _ _ ⟨b6, rfl, rfl, rfl⟩
  refine jl_s rfl (hStoreA rfl rfl rfl rfl (by rw [bcells_len]; exact h.full_len) (bcells_one _) (by first | (rw [bcells_len]; exact h.full_len) | exact List.length_replicate .. | (simp only [bcells_len]; omega))) ?_; rintro _ _ _ ⟨rfl, rfl⟩
  refine jp rfl ?_
  refine jl_nil ?_
  refine jT ?_
  refine jc_seq ?_
  refine jc_seq ?_
  refine jc_region ?_
  refine jp rfl ?_
  refine jt rfl (decide_eq_true (by omega)) ?_
  refine jl_nil ?_
  refine jT ?_
  refine jc_yes rfl ?_
  refine jc_region ?_
  refine jl_q rfl rfl (qLdA (cs := pcells p) rfl rfl rfl rfl rfl (fun i v hv => CJ.loc (by simpa [pcells] using hv))) ?_
  refine jl_q rfl rfl (qCall rfl rfl rfl rfl rfl (by kernel_rfl) (check_spec p M)) ?_
  refine jp rfl ?_
  refine jl_nil ?_
  refine jT ?_
  refine jc_seq ?_
  refine jc_seq ?_
  refine jc_region ?_
  refine jp rfl ?_
  refine jf rfl (decide_eq_false (by omega)) ?_
  refine jl_nil ?_
  refine jT ?_
  refine jc_no rfl ?_
  refine jc_skip ?_
  refine jT ?_
  refine jc_seq ?_
  refine jc_region ?_
  refine jl_q rfl rfl (qFieldAddr rfl rfl rfl rfl rfl) ?_
  refine jl_q rfl rfl (qLd rfl rfl rfl rfl (CJ.loc rfl)) ?_
  refine jl_q rfl rfl (qFieldAddr rfl rfl rfl rfl rfl) ?_
  refine jl_q rfl rfl (qLd rfl rfl rfl rfl (CJ.loc rfl)) ?_
  have h2 := chk_fine hp
  have hpl := part_len h hp
  refine jl_q rfl rfl (qEq (qSlA rfl rfl rfl (.no _) (.of rfl (by omega) rfl) (.of rfl (by omega) rfl) (by omega) (by simp)) (v' := .slice (some ⟨b6, 0 + p.2.1.toNat * 1, none⟩) (part xs p).length (128 - p.2.1.toNat)) (by rw [slA_some (by omega), hpl])) ?_
  refine jl_freeze b6 (by simp) ?_
  intro M1 hM1 e1
  refine jl_h rfl rfl (hCall rfl rfl rfl rfl rfl (by kernel_rfl) (clone_spec b6 _ _ (part xs p) M1 (cm_sub e1) (by omega))) ?_; rintro _ _ _ ⟨_, R9, rfl, hown⟩
  refine jl_drop (L' := R9) (by simp) ?_
  iterate 2 refine jp rfl ?_
  refine jl_nil ?_
  refine jT ?_
  refine jc_ret ?_
  refine jr2 rfl rfl rfl ?_
  exact ⟨_, rfl, hown⟩

theorem put_no (sa : Option Addr) (c : Nat) (xs : List Int) (p : Pc) (M : Mem) (hs : SM M sa (bcells xs)) (sd : Option Addr) (dc : Nat) (ds : List Int) (hd : SM M sd (bcells ds))(h : ¬ wholeOk xs) :
    SpecL Try.prog 20 #[.slice sa xs.length c, .agg (pcells p).toArray, .slice sd ds.length dc] M [] fun v _ _ => v = .tuple #[.slice none 0 0, .int .i64 (3)] := by
  refine spec_body (vs := [_, _, _]) 39 _ Try.func20 rfl Try.ntmps20 rfl rfl ?_; intro W
  refine jc_seq ?_
  refine jc_region ?_
  refine jl_h rfl rfl (hBox rfl rfl rfl rfl) ?_; rintro _ _ _ ⟨b4, rfl, rfl, rfl⟩
  iterate 2 refine jp rfl ?_
  refine jl_nil ?_
  refine jT ?_
  refine jc_seq ?_
  refine jc_region ?_
  refine jp rfl ?_
  refine jl_q rfl rfl (qCall rfl rfl rfl rfl rfl (by kernel_rfl) (whole_no sa c xs M hs (by unfold wholeOk at h; omega))) ?_
  iterate 3 refine jp rfl ?_
  refine jl_h rfl rfl (hAlloc rfl rfl) ?_; rintro _ _ _ ⟨b8, rfl, rfl, rfl⟩
  refine jl_s rfl (hStoreA rfl rfl rfl rfl (by rw [bcells_len]; exact full_len (by simp)) (bcells_one _) (by first | (rw [bcells_len]; exact full_len (by simp)) | exact List.length_replicate .. | (simp only [bcells_len]; omega))) ?_; rintro _ _ _ ⟨rfl, rfl⟩
  refine jp rfl ?_
  refine jl_nil ?_
  refine jT ?_
  refine jc_seq ?_
  refine jc_seq ?_
  refine jc_region ?_
  refine jp rfl ?_
  refine jf rfl (decide_eq_false (by omega)) ?_
  refine jl_nil ?_
  refine jT ?_
  refine jc_no rfl ?_
  refine jc_skip ?_
  refine jT ?_
  refine jc_seq ?_
  refine jc_seq ?_
  refine jc_region ?_
  refine jp rfl ?_
  refine jt rfl (decide_eq_true (by omega)) ?_
  refine jl_nil ?_
  refine jT ?_
  refine jc_yes rfl ?_
  refine jc_seq ?_
  refine jc_region ?_
  iterate 3 refine jp rfl ?_
  refine jl_nil ?_
  refine jT ?_
  refine jc_ret ?_
  refine jTr ?_
  refine jr2 rfl rfl rfl ?_
  rfl

theorem put_bad (sa : Option Addr) (c : Nat) (xs : List Int) (p : Pc) (M : Mem) (hs : SM M sa (bcells xs)) (sd : Option Addr) (dc : Nat) (ds : List Int) (hd : SM M sd (bcells ds))(h : wholeOk xs) (hp : chk p ≠ 0) :
    SpecL Try.prog 20 #[.slice sa xs.length c, .agg (pcells p).toArray, .slice sd ds.length dc] M [] fun v _ _ => v = .tuple #[.slice none 0 0, .int .i64 (chk p)] := by
  refine spec_body (vs := [_, _, _]) 39 _ Try.func20 rfl Try.ntmps20 rfl rfl ?_; intro W
  refine jc_seq ?_
  refine jc_region ?_
  refine jl_h rfl rfl (hBox rfl rfl rfl rfl) ?_; rintro _ _ _ ⟨b4, rfl, rfl, rfl⟩
  iterate 2 refine jp rfl ?_
  refine jl_nil ?_
  refine jT ?_
  refine jc_seq ?_
  refine jc_region ?_
  refine jp rfl ?_
  refine jl_q rfl rfl (qCall rfl rfl rfl rfl rfl (by kernel_rfl) (whole_ok sa c xs M hs h)) ?_
  iterate 3 refine jp rfl ?_
  refine jl_h rfl rfl (hAlloc rfl rfl) ?_; rintro _ _ _ ⟨b8, rfl, rfl, rfl⟩
  refine jl_s rfl (hStoreA rfl rfl rfl rfl (by rw [bcells_len]; exact h.full_len) (bcells_one _) (by first | (rw [bcells_len]; exact h.full_len) | exact List.length_replicate .. | (simp only [bcells_len]; omega))) ?_; rintro _ _ _ ⟨rfl, rfl⟩
  refine jp rfl ?_
  refine jl_nil ?_
  refine jT ?_
  refine jc_seq ?_
  refine jc_seq ?_
  refine jc_region ?_
  refine jp rfl ?_
  refine jt rfl (decide_eq_true (by omega)) ?_
  refine jl_nil ?_
  refine jT ?_
  refine jc_yes rfl ?_
  refine jc_region ?_
  refine jl_q rfl rfl (qLdA (cs := pcells p) rfl rfl rfl rfl rfl (fun i v hv => CJ.loc (by simpa [pcells] using hv))) ?_
  refine jl_q rfl rfl (qCall rfl rfl rfl rfl rfl (by kernel_rfl) (check_spec p M)) ?_
  refine jp rfl ?_
  refine jl_nil ?_
  refine jT ?_
  refine jc_seq ?_
  refine jc_seq ?_
  refine jc_region ?_
  refine jp rfl ?_
  refine jt rfl (decide_eq_true (by omega)) ?_
  refine jl_nil ?_
  refine jT ?_
  refine jc_yes rfl ?_
  refine jc_seq ?_
  refine jc_region ?_
  iterate 3 refine jp rfl ?_
  refine jl_nil ?_
  refine jT ?_
  refine jc_ret ?_
  refine jTr ?_
  refine jr2 rfl rfl rfl ?_
  rfl

theorem put_len (sa : Option Addr) (c : Nat) (xs : List Int) (p : Pc) (M : Mem) (hs : SM M sa (bcells xs)) (sd : Option Addr) (dc : Nat) (ds : List Int) (hd : SM M sd (bcells ds))(h : wholeOk xs) (hp : chk p = 0) (hl : (ds.length : Int) ≠ p.2.2 - p.2.1) :
    SpecL Try.prog 20 #[.slice sa xs.length c, .agg (pcells p).toArray, .slice sd ds.length dc] M [] fun v _ _ => v = .tuple #[.slice none 0 0, .int .i64 (3)] := by
  have h2 := chk_fine hp
  refine spec_body (vs := [_, _, _]) 39 _ Try.func20 rfl Try.ntmps20 rfl rfl ?_; intro W
  refine jc_seq ?_
  refine jc_region ?_
  refine jl_h rfl rfl (hBox rfl rfl rfl rfl) ?_; rintro _ _ _ ⟨b4, rfl, rfl, rfl⟩
  iterate 2 refine jp rfl ?_
  refine jl_nil ?_
  refine jT ?_
  refine jc_seq ?_
  refine jc_region ?_
  refine jp rfl ?_
  refine jl_q rfl rfl (qCall rfl rfl rfl rfl rfl (by kernel_rfl) (whole_ok sa c xs M hs h)) ?_
  iterate 3 refine jp rfl ?_
  refine jl_h rfl rfl (hAlloc rfl rfl) ?_; rintro _ _ _ ⟨b8, rfl, rfl, rfl⟩
  refine jl_s rfl (hStoreA rfl rfl rfl rfl (by rw [bcells_len]; exact h.full_len) (bcells_one _) (by first | (rw [bcells_len]; exact h.full_len) | exact List.length_replicate .. | (simp only [bcells_len]; omega))) ?_; rintro _ _ _ ⟨rfl, rfl⟩
  refine jp rfl ?_
  refine jl_nil ?_
  refine jT ?_
  refine jc_seq ?_
  refine jc_seq ?_
  refine jc_region ?_
  refine jp rfl ?_
  refine jt rfl (decide_eq_true (by omega)) ?_
  refine jl_nil ?_
  refine jT ?_
  refine jc_yes rfl ?_
  refine jc_region ?_
  refine jl_q rfl rfl (qLdA (cs := pcells p) rfl rfl rfl rfl rfl (fun i v hv => CJ.loc (by simpa [pcells] using hv))) ?_
  refine jl_q rfl rfl (qCall rfl rfl rfl rfl rfl (by kernel_rfl) (check_spec p M)) ?_
  refine jp rfl ?_
  refine jl_nil ?_
  refine jT ?_
  refine jc_seq ?_
  refine jc_seq ?_
  refine jc_region ?_
  refine jp rfl ?_
  refine jf rfl (decide_eq_false (by omega)) ?_
  refine jl_nil ?_
  refine jT ?_
  refine jc_no rfl ?_
  refine jc_skip ?_
  refine jT ?_
  refine jc_seq ?_
  refine jc_seq ?_
  refine jc_region ?_
  refine jp rfl ?_
  refine jl_q rfl rfl (qLen rfl rfl rfl) ?_
  refine jl_q rfl rfl (qFieldAddr rfl rfl rfl rfl rfl) ?_
  refine jl_q rfl rfl (qLd rfl rfl rfl rfl (CJ.loc rfl)) ?_
  refine jl_q rfl rfl (qFieldAddr rfl rfl rfl rfl rfl) ?_
  refine jl_q rfl rfl (qLd rfl rfl rfl rfl (CJ.loc rfl)) ?_
  refine ja rfl (by omega) ?_
  refine jt rfl (decide_eq_true (by omega)) ?_
  refine jl_nil ?_
  refine jT ?_
  refine jc_yes rfl ?_
  refine jc_seq ?_
  refine jc_region ?_
  iterate 2 refine jp rfl ?_
  refine jl_nil ?_
  refine jT ?_
  refine jc_ret ?_
  refine jTr ?_
  refine jr2 rfl rfl rfl ?_
  rfl

theorem put_ok (sa : Option Addr) (c : Nat) (xs : List Int) (p : Pc) (M : Mem) (hs : SM M sa (bcells xs)) (sd : Option Addr) (dc : Nat) (ds : List Int) (hd : SM M sd (bcells ds))(h : wholeOk xs) (hp : chk p = 0) (hl : (ds.length : Int) = p.2.2 - p.2.1) :
    SpecL Try.prog 20 #[.slice sa xs.length c, .agg (pcells p).toArray, .slice sd ds.length dc] M [] fun v _ L' => ∃ s, v = .tuple #[s, .int .i64 0] ∧ Own s L' BT 1 (putIn xs ds p.2.1.toNat).length (bcells (putIn xs ds p.2.1.toNat)) := by
  have h2 := chk_fine hp
  have hpt := putIn_len (xs := xs) (ds := ds) (f := p.2.1.toNat) h (by omega)
  have hfl := h.full_len
  refine spec_body (vs := [_, _, _]) 39 _ Try.func20 rfl Try.ntmps20 rfl rfl ?_; intro W
  refine jc_seq ?_
  refine jc_region ?_
  refine jl_h rfl rfl (hBox rfl rfl rfl rfl) ?_; rintro _ _ _ ⟨b4, rfl, rfl, rfl⟩
  iterate 2 refine jp rfl ?_
  refine jl_nil ?_
  refine jT ?_
  refine jc_seq ?_
  refine jc_region ?_
  refine jp rfl ?_
  refine jl_q rfl rfl (qCall rfl rfl rfl rfl rfl (by kernel_rfl) (whole_ok sa c xs M hs h)) ?_
  iterate 3 refine jp rfl ?_
  refine jl_h rfl rfl (hAlloc rfl rfl) ?_; rintro _ _ _ ⟨b8, rfl, rfl, rfl⟩
  refine jl_s rfl (hStoreA rfl rfl rfl rfl (by rw [bcells_len]; exact hfl) (bcells_one _) (by first | (rw [bcells_len]; exact hfl) | exact List.length_replicate .. | (simp only [bcells_len]; omega))) ?_; rintro _ _ _ ⟨rfl, rfl⟩
  refine jp rfl ?_
  refine jl_nil ?_
  refine jT ?_
  refine jc_seq ?_
  refine jc_seq ?_
  refine jc_region ?_
  refine jp rfl ?_
  refine jt rfl (decide_eq_true (by omega)) ?_
  refine jl_nil ?_
  refine jT ?_
  refine jc_yes rfl ?_
  refine jc_region ?_
  refine jl_q rfl rfl (qLdA (cs := pcells p) rfl rfl rfl rfl rfl (fun i v hv => CJ.loc (by simpa [pcells] using hv))) ?_
  refine jl_q rfl rfl (qCall rfl rfl rfl rfl rfl (by kernel_rfl) (check_spec p M)) ?_
  refine jp rfl ?_
  refine jl_nil ?_
  refine jT ?_
  refine jc_seq ?_
  refine jc_seq ?_
  refine jc_region ?_
  refine jp rfl ?_
  refine jf rfl (decide_eq_false (by omega)) ?_
  refine jl_nil ?_
  refine jT ?_
  refine jc_no rfl ?_
  refine jc_skip ?_
  refine jT ?_
  refine jc_seq ?_
  refine jc_seq ?_
  refine jc_region ?_
  refine jp rfl ?_
  refine jl_q rfl rfl (qLen rfl rfl rfl) ?_
  refine jl_q rfl rfl (qFieldAddr rfl rfl rfl rfl rfl) ?_
  refine jl_q rfl rfl (qLd rfl rfl rfl rfl (CJ.loc rfl)) ?_
  refine jl_q rfl rfl (qFieldAddr rfl rfl rfl rfl rfl) ?_
  refine jl_q rfl rfl (qLd rfl rfl rfl rfl (CJ.loc rfl)) ?_
  refine ja rfl (by omega) ?_
  refine jf rfl (decide_eq_false (by omega)) ?_
  refine jl_nil ?_
  refine jT ?_
  refine jc_no rfl ?_
  refine jc_skip ?_
  refine jT ?_
  refine jc_seq ?_
  refine jc_region ?_
  refine jl_q rfl rfl (qFieldAddr rfl rfl rfl rfl rfl) ?_
  refine jl_q rfl rfl (qLd rfl rfl rfl rfl (CJ.loc rfl)) ?_
  refine jl_q rfl rfl (qFieldAddr rfl rfl rfl rfl rfl) ?_
  refine jl_q rfl rfl (qLd rfl rfl rfl rfl (CJ.loc rfl)) ?_
  have hpl := part_len h hp
  refine jl_q rfl rfl (qEq (qSlA rfl rfl rfl (.no _) (.of rfl (by omega) rfl) (.of rfl (by omega) rfl) (by omega) (by simp)) (v' := .slice (some ⟨b8, 0 + p.2.1.toNat * 1, none⟩) (part xs p).length (128 - p.2.1.toNat)) (by rw [slA_some (by omega), hpl])) ?_
  refine jp rfl ?_
  refine jl_h rfl rfl (hCopy rfl rfl rfl rfl (cs := bcells ds) (by simp only [bcells_len]; omega) (hd.sj _) (bcells_one ds) (by simp only [bcells_len]; omega)) ?_; rintro _ _ _ ⟨rfl, rfl, rfl⟩
  rw [put_cells]
  refine jl_nil ?_
  refine jT ?_
  refine jc_seq ?_
  refine jc_region ?_
  refine jl_q rfl rfl (qEq (qSlAll rfl rfl rfl) (v' := .slice (some ⟨b8, 0, none⟩) (putIn xs ds p.2.1.toNat).length 128) (by rw [hpt])) ?_
  refine jl_freeze b8 (by simp) ?_
  intro M1 hM1 e1
  refine jl_h rfl rfl (hCall rfl rfl rfl rfl rfl (by kernel_rfl) (clone_spec b8 _ _ (putIn xs ds p.2.1.toNat) M1 (cm_block rfl e1) (by omega))) ?_; rintro _ _ _ ⟨_, R9, rfl, hown⟩
  refine jl_drop (L' := R9) (by simp) ?_
  iterate 2 refine jp rfl ?_
  refine jl_nil ?_
  refine jT ?_
  refine jc_ret ?_
  refine jr2 rfl rfl rfl ?_
  exact ⟨_, rfl, hown⟩


/-! the document's answers -/
def fillk (xs : List Int) (k : Nat) : List Int := xs.take k ++ List.replicate (128 - k) 0
theorem fill_zero' (n : Nat) : (List.replicate n [Value.int .u8 0]).flatten = (([] : List Int) ++ List.replicate n (0 : Int)).map (Value.int .u8) := by simp
theorem fill_zero (xs : List Int) : (List.replicate (Int.toNat 128) [Value.int .u8 0]).flatten = bcells (fillk xs 0) := by
  have := fill_zero' 128
  unfold bcells fillk
  rw [List.take_zero]; exact this
theorem fillk_len {xs : List Int} {k : Nat} (h : k ≤ xs.length) (h2 : xs.length ≤ 128) : (fillk xs k).length = 128 := by simp [fillk]; omega
theorem fill_step {xs : List Int} {k : Nat} (h : k < xs.length) (h2 : xs.length ≤ 128) : (bcells (fillk xs k)).take (0 + (k : Int).toNat * 1) ++ [Value.int .u8 xs[k]] ++ (bcells (fillk xs k)).drop (0 + (k : Int).toNat * 1 + [Value.int .u8 xs[k]].length) = bcells (fillk xs (k + 1)) := by
  have e : 0 + (k : Int).toNat * 1 = k := by omega
  rw [e]
  simp only [bcells, fillk, List.map_append, List.map_take, List.map_replicate, List.length_singleton]
  have hl : ((xs.map (Value.int .u8)).take k).length = k := by simp; omega
  have hk : k < (xs.map (Value.int .u8)).length := by simpa using h
  rw [List.take_left' hl, List.drop_append, List.take_add_one, List.getElem?_eq_getElem hk]
  have h3 : (List.take k (xs.map (Value.int .u8))).drop (k + 1) = [] := List.drop_eq_nil_of_le (by omega)
  rw [h3, hl]
  simp
  omega
theorem fill_all {xs : List Int} : fillk xs xs.length = full xs := by simp [fillk, full]

theorem full_spec (sa : Option Addr) (c : Nat) (xs : List Int) (M : Mem) (hs : SM M sa (bcells xs)) (h2 : xs.length ≤ 128) :
    SpecL Try.prog 27 #[.slice sa xs.length c] M [] fun v _ L' => ∃ b, v = .slice (some ⟨b, 0, none⟩) 128 128 ∧ L' = [(b, .cells (bcells (full xs)).toArray BT (0, 0))] := by
  refine spec_body (vs := [_]) 24 _ Try.func27 rfl Try.ntmps27 rfl rfl ?_; intro W
  refine jc_seq ?_
  refine jc_region ?_
  refine jp rfl ?_
  refine jl_nil ?_
  refine jT ?_
  refine jc_seq ?_
  refine jc_region ?_
  refine jl_h rfl rfl (hMake rfl rfl rfl rfl (by omega) (by rfl)) ?_; rintro _ _ _ ⟨b5, rfl, rfl, rfl⟩
  rw [fill_zero xs]
  refine jp rfl ?_
  refine jl_nil ?_
  refine jT ?_
  refine jc_seq ?_
  refine jc_seq ?_
  refine jc_region ?_
  refine jp rfl ?_
  refine jl_nil ?_
  refine jT ?_
  refine jc_block ?_
  refine jc_loopK (α := Nat) (fun k => [(0, .slice sa xs.length c), (3, .slice (some ⟨b5, 0, none⟩) 128 128), (4, .int .i64 k)]) (fun _ => M) (fun k => [(b5, .cells (bcells (fillk xs k)).toArray BT (0, 0))]) (fun k => k ≤ xs.length) (fun k => xs.length - k)
    0 (Keep.cons (t := 0) rfl (Keep.cons (t := 3) rfl (Keep.cons (t := 4) rfl Keep.nil))) (Nat.zero_le _) (fun _ h => h) ?_
  rintro k hk
  try dsimp only at hk ⊢
  refine jc_seq ?_
  refine jc_seq ?_
  refine jc_region ?_
  iterate 2 refine jp rfl ?_
  refine jl_q rfl rfl (qLen rfl rfl rfl) ?_
  refine js rfl (fun h9 => ?_) (fun h9 => ?_)
  · iterate 2 refine jp rfl ?_
    refine js rfl (fun h12 => ?_) (fun h12 => ?_)
    · refine jp rfl ?_
      refine jl_nil ?_
      refine jT ?_
      refine jc_yes rfl ?_
      refine jc_skip ?_
      refine jT ?_
      refine jc_seq ?_
      refine jc_block ?_
      refine jc_region ?_
      iterate 4 refine jp rfl ?_
      obtain ⟨b1, o1, e1, g1⟩ := hs.open (by intro e; have := congrArg List.length e; rw [bcells_len, List.length_nil] at this; omega)
      subst e1
      have hk1 : k < xs.length := by omega
      refine jl_q rfl rfl (qIdxS rfl rfl rfl rfl (by omega)) ?_
      refine jl_q rfl rfl (qLd rfl rfl rfl rfl ((g1 (((k : Nat) : Int).toNat * 1) (.int .u8 xs[k]) (by simp [bcells, hk1])).cj _)) ?_
      refine jl_q rfl rfl (qIdxS rfl rfl rfl rfl (by omega)) ?_
      have hfk := fillk_len (xs := xs) (k := k) (by omega) h2
      refine jl_s rfl (hStore rfl rfl rfl rfl rfl rfl (by simp [Value.oneCell']) (by simp only [bcells_len, List.length_cons, List.length_nil]; omega)) ?_; rintro _ _ _ ⟨rfl, rfl⟩
      rw [fill_step hk1 h2]
      refine jl_nil ?_
      refine jB ?_
      refine jT ?_
      refine jc_region ?_
      refine jp rfl ?_
      refine ja rfl (by omega) ?_
      refine jp rfl ?_
      refine jl_nil ?_
      refine j_again (k + 1) (Keep.cons (t := 0) rfl (Keep.cons (t := 3) rfl (Keep.cons (t := 4) rfl Keep.nil))) (by omega) (by omega) (fun _ h => h)
    · refine jp rfl ?_
      refine jl_nil ?_
      refine jT ?_
      refine jc_no rfl ?_
      refine jc_exit ?_
      refine jTx ?_
      refine jTx ?_
      refine jBx ?_
      refine jT ?_
      refine jc_seq ?_
      refine jc_region ?_
      iterate 2 refine jp rfl ?_
      refine jl_nil ?_
      refine jT ?_
      refine jc_ret ?_
      refine jr1 rfl rfl ?_
      exact ⟨b5, rfl, by rw [show k = xs.length by omega, fill_all]⟩
  · iterate 4 refine jp rfl ?_
    refine jl_nil ?_
    refine jT ?_
    refine jc_no rfl ?_
    refine jc_exit ?_
    refine jTx ?_
    refine jTx ?_
    refine jBx ?_
    refine jT ?_
    refine jc_seq ?_
    refine jc_region ?_
    iterate 2 refine jp rfl ?_
    refine jl_nil ?_
    refine jT ?_
    refine jc_ret ?_
    refine jr1 rfl rfl ?_
    exact ⟨b5, rfl, by rw [show k = xs.length by omega, fill_all]⟩

theorem asked_no (sa : Option Addr) (c : Nat) (xs : List Int) (p : Pc) (M : Mem) (hs : SM M sa (bcells xs))(h : ¬ wholeOk xs) :
    SpecL Try.prog 26 #[.slice sa xs.length c, .agg (pcells p).toArray] M [] fun v _ _ => v = .int .i64 3 := by
  unfold wholeOk at h
  refine spec_body (vs := [_, _]) 15 _ Try.func26 rfl Try.ntmps26 rfl rfl ?_; intro W
  refine jc_seq ?_
  refine jc_region ?_
  refine jl_h rfl rfl (hBox rfl rfl rfl rfl) ?_; rintro _ _ _ ⟨b3, rfl, rfl, rfl⟩
  refine jp rfl ?_
  refine jl_nil ?_
  refine jT ?_
  refine jc_seq ?_
  refine jc_seq ?_
  refine jc_region ?_
  refine jp rfl ?_
  refine jl_q rfl rfl (qLen rfl rfl rfl) ?_
  refine jt rfl (decide_eq_true (by omega)) ?_
  iterate 2 refine jp rfl ?_
  refine jl_q rfl rfl (qLen rfl rfl rfl) ?_
  refine jt rfl (decide_eq_true (by omega)) ?_
  refine jp rfl ?_
  refine jl_nil ?_
  refine jT ?_
  refine jc_yes rfl ?_
  refine jc_seq ?_
  refine jc_region ?_
  refine jp rfl ?_
  refine jl_nil ?_
  refine jT ?_
  refine jc_ret ?_
  refine jTr ?_
  refine jr1 rfl rfl ?_
  rfl

theorem asked_nil (sa : Option Addr) (c : Nat) (xs : List Int) (p : Pc) (M : Mem) (hs : SM M sa (bcells xs))(h : xs.length = 0) :
    SpecL Try.prog 26 #[.slice sa xs.length c, .agg (pcells p).toArray] M [] fun v _ _ => v = .int .i64 (chk p) := by
  refine spec_body (vs := [_, _]) 15 _ Try.func26 rfl Try.ntmps26 rfl rfl ?_; intro W
  refine jc_seq ?_
  refine jc_region ?_
  refine jl_h rfl rfl (hBox rfl rfl rfl rfl) ?_; rintro _ _ _ ⟨b3, rfl, rfl, rfl⟩
  refine jp rfl ?_
  refine jl_nil ?_
  refine jT ?_
  refine jc_seq ?_
  refine jc_seq ?_
  refine jc_region ?_
  refine jp rfl ?_
  refine jl_q rfl rfl (qLen rfl rfl rfl) ?_
  refine jf rfl (decide_eq_false (by omega)) ?_
  iterate 5 refine jp rfl ?_
  refine jl_nil ?_
  refine jT ?_
  refine jc_no rfl ?_
  refine jc_skip ?_
  refine jT ?_
  refine jc_seq ?_
  refine jc_region ?_
  refine jl_q rfl rfl (qLdA (cs := pcells p) rfl rfl rfl rfl rfl (fun i v hv => CJ.loc (by simpa [pcells] using hv))) ?_
  refine jl_q rfl rfl (qCall rfl rfl rfl rfl rfl (by kernel_rfl) (rcheck_spec p M)) ?_
  refine jp rfl ?_
  refine jl_nil ?_
  refine jT ?_
  refine jc_ret ?_
  refine jr1 rfl rfl ?_
  rfl

theorem asked_one (sa : Option Addr) (c : Nat) (xs : List Int) (p : Pc) (M : Mem) (hs : SM M sa (bcells xs))(h : xs.length = 128) :
    SpecL Try.prog 26 #[.slice sa xs.length c, .agg (pcells p).toArray] M [] fun v _ _ => v = .int .i64 (chk p) := by
  refine spec_body (vs := [_, _]) 15 _ Try.func26 rfl Try.ntmps26 rfl rfl ?_; intro W
  refine jc_seq ?_
  refine jc_region ?_
  refine jl_h rfl rfl (hBox rfl rfl rfl rfl) ?_; rintro _ _ _ ⟨b3, rfl, rfl, rfl⟩
  refine jp rfl ?_
  refine jl_nil ?_
  refine jT ?_
  refine jc_seq ?_
  refine jc_seq ?_
  refine jc_region ?_
  refine jp rfl ?_
  refine jl_q rfl rfl (qLen rfl rfl rfl) ?_
  refine jt rfl (decide_eq_true (by omega)) ?_
  iterate 2 refine jp rfl ?_
  refine jl_q rfl rfl (qLen rfl rfl rfl) ?_
  refine jf rfl (decide_eq_false (by omega)) ?_
  refine jp rfl ?_
  refine jl_nil ?_
  refine jT ?_
  refine jc_no rfl ?_
  refine jc_skip ?_
  refine jT ?_
  refine jc_seq ?_
  refine jc_region ?_
  refine jl_q rfl rfl (qLdA (cs := pcells p) rfl rfl rfl rfl rfl (fun i v hv => CJ.loc (by simpa [pcells] using hv))) ?_
  refine jl_q rfl rfl (qCall rfl rfl rfl rfl rfl (by kernel_rfl) (rcheck_spec p M)) ?_
  refine jp rfl ?_
  refine jl_nil ?_
  refine jT ?_
  refine jc_ret ?_
  refine jr1 rfl rfl ?_
  rfl


theorem asked_spec (sa : Option Addr) (c : Nat) (xs : List Int) (p : Pc) (M : Mem) (hs : SM M sa (bcells xs)) : SpecL Try.prog 26 #[.slice sa xs.length c, .agg (pcells p).toArray] M [] fun v _ _ => v = .int .i64 (askE xs p) := by
  unfold askE
  by_cases h : wholeOk xs
  · rw [if_pos h]; exact h.elim (asked_nil sa c xs p M hs) (asked_one sa c xs p M hs)
  · rw [if_neg h]; exact asked_no sa c xs p M hs h

theorem rget_no (sa : Option Addr) (c : Nat) (xs : List Int) (p : Pc) (M : Mem) (hs : SM M sa (bcells xs))(ha : askE xs p ≠ 0) :
    SpecL Try.prog 19 #[.slice sa xs.length c, .agg (pcells p).toArray] M [] fun v _ _ => v = .tuple #[.slice none 0 0, .int .i64 (askE xs p)] := by
  refine spec_body (vs := [_, _]) 23 _ Try.func19 rfl Try.ntmps19 rfl rfl ?_; intro W
  refine jc_seq ?_
  refine jc_region ?_
  refine jl_h rfl rfl (hBox rfl rfl rfl rfl) ?_; rintro _ _ _ ⟨b3, rfl, rfl, rfl⟩
  iterate 2 refine jp rfl ?_
  refine jl_nil ?_
  refine jT ?_
  refine jc_seq ?_
  refine jc_region ?_
  refine jp rfl ?_
  refine jl_q rfl rfl (qLdA (cs := pcells p) rfl rfl rfl rfl rfl (fun i v hv => CJ.loc (by simpa [pcells] using hv))) ?_
  refine jl_q rfl rfl (qCall rfl rfl rfl rfl rfl (by kernel_rfl) (asked_spec sa c xs p M hs)) ?_
  refine jp rfl ?_
  refine jl_nil ?_
  refine jT ?_
  refine jc_seq ?_
  refine jc_seq ?_
  refine jc_region ?_
  refine jp rfl ?_
  refine jt rfl (decide_eq_true (by omega)) ?_
  refine jl_nil ?_
  refine jT ?_
  refine jc_yes rfl ?_
  refine jc_seq ?_
  refine jc_region ?_
  iterate 3 refine jp rfl ?_
  refine jl_nil ?_
  refine jT ?_
  refine jc_ret ?_
  refine jTr ?_
  refine jr2 rfl rfl rfl ?_
  rfl

theorem rget_ok (sa : Option Addr) (c : Nat) (xs : List Int) (p : Pc) (M : Mem) (hs : SM M sa (bcells xs))(h : wholeOk xs) (hp : chk p = 0) :
    SpecL Try.prog 19 #[.slice sa xs.length c, .agg (pcells p).toArray] M [] fun v _ L' => ∃ s, v = .tuple #[s, .int .i64 0] ∧ Own s L' BT 1 (part xs p).length (bcells (part xs p)) := by
  have ha : askE xs p = 0 := by unfold askE; rw [if_pos h]; exact hp
  refine spec_body (vs := [_, _]) 23 _ Try.func19 rfl Try.ntmps19 rfl rfl ?_; intro W
  refine jc_seq ?_
  refine jc_region ?_
  refine jl_h rfl rfl (hBox rfl rfl rfl rfl) ?_; rintro _ _ _ ⟨b3, rfl, rfl, rfl⟩
  iterate 2 refine jp rfl ?_
  refine jl_nil ?_
  refine jT ?_
  refine jc_seq ?_
  refine jc_region ?_
  refine jp rfl ?_
  refine jl_q rfl rfl (qLdA (cs := pcells p) rfl rfl rfl rfl rfl (fun i v hv => CJ.loc (by simpa [pcells] using hv))) ?_
  refine jl_q rfl rfl (qCall rfl rfl rfl rfl rfl (by kernel_rfl) (asked_spec sa c xs p M hs)) ?_
  refine jp rfl ?_
  refine jl_nil ?_
  refine jT ?_
  refine jc_seq ?_
  refine jc_seq ?_
  refine jc_region ?_
  refine jp rfl ?_
  refine jf rfl (decide_eq_false (by omega)) ?_
  refine jl_nil ?_
  refine jT ?_
  refine jc_no rfl ?_
  refine jc_skip ?_
  refine jT ?_
  refine jc_seq ?_
  refine jc_region ?_
  refine jp rfl ?_
  refine jl_nil ?_
  refine jT ?_
  refine jc_seq ?_
  refine jc_draw [(0, true), (1, true), (3, true), (4, true), (5, true), (6, true), (2, false), (7, true), (8, false), (9, true), (10, true)] _ (by kernel_rfl) (by kernel_rfl) (by kernel_rfl) rfl (fun _ h => h) ?_
  iterate 2 refine dp rfl rfl ?_
  refine jd_q rfl rfl rfl (qFieldAddr rfl rfl rfl rfl rfl) ?_
  refine jd_q rfl rfl rfl (qLd rfl rfl rfl rfl (CJ.loc rfl)) ?_
  refine jd_q rfl rfl rfl (qFieldAddr rfl rfl rfl rfl rfl) ?_
  refine jd_q rfl rfl rfl (qLd rfl rfl rfl rfl (CJ.loc rfl)) ?_
  refine jd_h rfl rfl rfl (hCall rfl rfl rfl rfl rfl (by kernel_rfl) (full_spec sa c xs M hs (by unfold wholeOk at h; omega))) ?_; rintro _ M1 _ ⟨hM1, _, rfl, ⟨bf, rfl, rfl⟩⟩
  refine jd_grow hM1 (fun _ h => List.mem_append_right _ h) (MLe.refl _) (fun _ h => h) ?_
  have h2 := chk_fine hp
  have hpl := part_len h hp
  refine jd_q rfl rfl rfl (qEq (qSl rfl rfl rfl (.no _) (.of rfl (by omega) rfl) (.of rfl (by omega) rfl) (by omega) (by simp)) (v' := .slice (some ⟨bf, 0 + p.2.1.toNat * 1, none⟩) (part xs p).length (128 - p.2.1.toNat)) (by rw [slA_some (by omega), hpl])) ?_
  refine jd_h rfl rfl rfl (hAppend (v := .slice none 0 0) (R := []) (n := 0) (xs := []) (news := bcells (part xs p)) rfl rfl rfl rfl (Own.nil _ _) (by rw [bcells_len]; omega) (fun i v hv => @CJ.loc _ _ bf (0 + p.2.1.toNat * 1 + i) v (bcells (full xs)) BT (0, 0) _ (by have := bsub hv; simpa using this)) rfl rfl (bcells_one _) (by omega) (by decide)) ?_; rintro v7 _ _ ⟨rfl, R7, rfl, hown, _⟩
  refine jd_grow (MLe.refl _) (fun _ h => List.mem_append_right _ h) hM1 (fun _ h => List.mem_append_right _ h) ?_
  iterate 2 refine dp rfl rfl ?_
  refine jd_nil ?_
  refine jPn ?_
  refine jT ?_
  refine jc_ret ?_
  refine jq_drop (L' := R7) (by simp) ?_
  refine jr2 rfl rfl rfl ?_
  exact ⟨_, rfl, by simpa using hown⟩


def putk (xs ds : List Int) (f k : Nat) : List Int := (full xs).take f ++ ds.take k ++ (full xs).drop (f + k)
theorem putk_zero (xs ds : List Int) (f : Nat) : full xs = putk xs ds f 0 := by simp [putk]
theorem putk_len {xs ds : List Int} {f k : Nat} (h : (full xs).length = 128) (hk : k ≤ ds.length) (hf : f + ds.length ≤ 128) : (putk xs ds f k).length = 128 := by
  simp only [putk, List.length_append, List.length_take, List.length_drop]; omega
theorem putk_step {xs ds : List Int} {f k : Nat} {m : Nat} (hm : m = f + k) (h : (full xs).length = 128) (hk : k < ds.length) (hf : f + ds.length ≤ 128) :
    (bcells (putk xs ds f k)).take m ++ [Value.int .u8 ds[k]] ++ (bcells (putk xs ds f k)).drop (m + [Value.int .u8 ds[k]].length) = bcells (putk xs ds f (k + 1)) := by
  subst hm
  have hl : ((full xs).take f ++ ds.take k).length = f + k := by simp only [List.length_append, List.length_take]; omega
  have e1 : (putk xs ds f k).take (f + k) = (full xs).take f ++ ds.take k := by unfold putk; exact List.take_left' hl
  have e2 : (putk xs ds f k).drop (f + k + 1) = (full xs).drop (f + (k + 1)) := by
    unfold putk
    rw [List.drop_append, List.drop_eq_nil_of_le (by omega), hl, List.nil_append, List.drop_drop]
    congr 1; omega
  simp only [bcells, ← List.map_take, ← List.map_drop, List.length_singleton, e1, e2]
  rw [show [Value.int .u8 ds[k]] = [ds[k]].map (Value.int .u8) from rfl, ← List.map_append, ← List.map_append]
  congr 1
  unfold putk
  rw [List.take_add_one, List.getElem?_eq_getElem hk]
  simp
theorem putk_all (xs ds : List Int) (f : Nat) : putk xs ds f ds.length = putIn xs ds f := by simp [putk, putIn]

theorem rput_no (sa : Option Addr) (c : Nat) (xs : List Int) (p : Pc) (M : Mem) (hs : SM M sa (bcells xs)) (sd : Option Addr) (dc : Nat) (ds : List Int) (hd : SM M sd (bcells ds))(ha : askE xs p ≠ 0) :
    SpecL Try.prog 21 #[.slice sa xs.length c, .agg (pcells p).toArray, .slice sd ds.length dc] M [] fun v _ _ => v = .tuple #[.slice none 0 0, .int .i64 (askE xs p)] := by
  refine spec_body (vs := [_, _, _]) 44 _ Try.func21 rfl Try.ntmps21 rfl rfl ?_; intro W
  refine jc_seq ?_
  refine jc_region ?_
  refine jl_h rfl rfl (hBox rfl rfl rfl rfl) ?_; rintro _ _ _ ⟨b4, rfl, rfl, rfl⟩
  iterate 2 refine jp rfl ?_
  refine jl_nil ?_
  refine jT ?_
  refine jc_seq ?_
  refine jc_region ?_
  refine jp rfl ?_
  refine jl_q rfl rfl (qLdA (cs := pcells p) rfl rfl rfl rfl rfl (fun i v hv => CJ.loc (by simpa [pcells] using hv))) ?_
  refine jl_q rfl rfl (qCall rfl rfl rfl rfl rfl (by kernel_rfl) (asked_spec sa c xs p M hs)) ?_
  refine jp rfl ?_
  refine jl_nil ?_
  refine jT ?_
  refine jc_seq ?_
  refine jc_seq ?_
  refine jc_region ?_
  refine jp rfl ?_
  refine jt rfl (decide_eq_true (by omega)) ?_
  refine jl_nil ?_
  refine jT ?_
  refine jc_yes rfl ?_
  refine jc_seq ?_
  refine jc_region ?_
  iterate 3 refine jp rfl ?_
  refine jl_nil ?_
  refine jT ?_
  refine jc_ret ?_
  refine jTr ?_
  refine jr2 rfl rfl rfl ?_
  rfl

theorem rput_len (sa : Option Addr) (c : Nat) (xs : List Int) (p : Pc) (M : Mem) (hs : SM M sa (bcells xs)) (sd : Option Addr) (dc : Nat) (ds : List Int) (hd : SM M sd (bcells ds))(h : wholeOk xs) (hp : chk p = 0) (hl : (ds.length : Int) ≠ p.2.2 - p.2.1) :
    SpecL Try.prog 21 #[.slice sa xs.length c, .agg (pcells p).toArray, .slice sd ds.length dc] M [] fun v _ _ => v = .tuple #[.slice none 0 0, .int .i64 (3)] := by
  have ha : askE xs p = 0 := by unfold askE; rw [if_pos h]; exact hp
  have h2 := chk_fine hp
  refine spec_body (vs := [_, _, _]) 44 _ Try.func21 rfl Try.ntmps21 rfl rfl ?_; intro W
  refine jc_seq ?_
  refine jc_region ?_
  refine jl_h rfl rfl (hBox rfl rfl rfl rfl) ?_; rintro _ _ _ ⟨b4, rfl, rfl, rfl⟩
  iterate 2 refine jp rfl ?_
  refine jl_nil ?_
  refine jT ?_
  refine jc_seq ?_
  refine jc_region ?_
  refine jp rfl ?_
  refine jl_q rfl rfl (qLdA (cs := pcells p) rfl rfl rfl rfl rfl (fun i v hv => CJ.loc (by simpa [pcells] using hv))) ?_
  refine jl_q rfl rfl (qCall rfl rfl rfl rfl rfl (by kernel_rfl) (asked_spec sa c xs p M hs)) ?_
  refine jp rfl ?_
  refine jl_nil ?_
  refine jT ?_
  refine jc_seq ?_
  refine jc_seq ?_
  refine jc_region ?_
  refine jp rfl ?_
  refine jf rfl (decide_eq_false (by omega)) ?_
  refine jl_nil ?_
  refine jT ?_
  refine jc_no rfl ?_
  refine jc_skip ?_
  refine jT ?_
  refine jc_seq ?_
  refine jc_seq ?_
  refine jc_region ?_
  refine jp rfl ?_
  refine jl_q rfl rfl (qLen rfl rfl rfl) ?_
  refine jl_q rfl rfl (qFieldAddr rfl rfl rfl rfl rfl) ?_
  refine jl_q rfl rfl (qLd rfl rfl rfl rfl (CJ.loc rfl)) ?_
  refine jl_q rfl rfl (qFieldAddr rfl rfl rfl rfl rfl) ?_
  refine jl_q rfl rfl (qLd rfl rfl rfl rfl (CJ.loc rfl)) ?_
  refine ja rfl (by omega) ?_
  refine jt rfl (decide_eq_true (by omega)) ?_
  refine jl_nil ?_
  refine jT ?_
  refine jc_yes rfl ?_
  refine jc_seq ?_
  refine jc_region ?_
  iterate 2 refine jp rfl ?_
  refine jl_nil ?_
  refine jT ?_
  refine jc_ret ?_
  refine jTr ?_
  refine jr2 rfl rfl rfl ?_
  rfl

theorem rput_ok (sa : Option Addr) (c : Nat) (xs : List Int) (p : Pc) (M : Mem) (hs : SM M sa (bcells xs)) (sd : Option Addr) (dc : Nat) (ds : List Int) (hd : SM M sd (bcells ds))(h : wholeOk xs) (hp : chk p = 0) (hl : (ds.length : Int) = p.2.2 - p.2.1) :
    SpecL Try.prog 21 #[.slice sa xs.length c, .agg (pcells p).toArray, .slice sd ds.length dc] M [] fun v _ L' => ∃ s, v = .tuple #[s, .int .i64 0] ∧ Own s L' BT 1 (putIn xs ds p.2.1.toNat).length (bcells (putIn xs ds p.2.1.toNat)) := by
  have ha : askE xs p = 0 := by unfold askE; rw [if_pos h]; exact hp
  have h2 := chk_fine hp
  have hfl := h.full_len
  have hpt := putIn_len (xs := xs) (ds := ds) (f := p.2.1.toNat) h (by omega)
  refine spec_body (vs := [_, _, _]) 44 _ Try.func21 rfl Try.ntmps21 rfl rfl ?_; intro W
  refine jc_seq ?_
  refine jc_region ?_
  refine jl_h rfl rfl (hBox rfl rfl rfl rfl) ?_; rintro _ _ _ ⟨b4, rfl, rfl, rfl⟩
  iterate 2 refine jp rfl ?_
  refine jl_nil ?_
  refine jT ?_
  refine jc_seq ?_
  refine jc_region ?_
  refine jp rfl ?_
  refine jl_q rfl rfl (qLdA (cs := pcells p) rfl rfl rfl rfl rfl (fun i v hv => CJ.loc (by simpa [pcells] using hv))) ?_
  refine jl_q rfl rfl (qCall rfl rfl rfl rfl rfl (by kernel_rfl) (asked_spec sa c xs p M hs)) ?_
  refine jp rfl ?_
  refine jl_nil ?_
  refine jT ?_
  refine jc_seq ?_
  refine jc_seq ?_
  refine jc_region ?_
  refine jp rfl ?_
  refine jf rfl (decide_eq_false (by omega)) ?_
  refine jl_nil ?_
  refine jT ?_
  refine jc_no rfl ?_
  refine jc_skip ?_
  refine jT ?_
  refine jc_seq ?_
  refine jc_seq ?_
  refine jc_region ?_
  refine jp rfl ?_
  refine jl_q rfl rfl (qLen rfl rfl rfl) ?_
  refine jl_q rfl rfl (qFieldAddr rfl rfl rfl rfl rfl) ?_
  refine jl_q rfl rfl (qLd rfl rfl rfl rfl (CJ.loc rfl)) ?_
  refine jl_q rfl rfl (qFieldAddr rfl rfl rfl rfl rfl) ?_
  refine jl_q rfl rfl (qLd rfl rfl rfl rfl (CJ.loc rfl)) ?_
  refine ja rfl (by omega) ?_
  refine jf rfl (decide_eq_false (by omega)) ?_
  refine jl_nil ?_
  refine jT ?_
  refine jc_no rfl ?_
  refine jc_skip ?_
  refine jT ?_
  refine jc_seq ?_
  refine jc_region ?_
  refine jp rfl ?_
  refine jl_h rfl rfl (hCall rfl rfl rfl rfl rfl (by kernel_rfl) (full_spec sa c xs M hs (by unfold wholeOk at h; omega))) ?_; rintro _ M1 _ ⟨hM1, _, rfl, ⟨bf, rfl, rfl⟩⟩
  rw [putk_zero xs ds p.2.1.toNat]
  replace hd := hd.mono hM1
  refine jp rfl ?_
  refine jl_nil ?_
  refine jT ?_
  refine jc_seq ?_
  refine jc_seq ?_
  refine jc_region ?_
  refine jp rfl ?_
  refine jl_nil ?_
  refine jT ?_
  refine jc_block ?_
  refine jc_loopK (α := Nat) (fun k => [(2, .slice sd ds.length dc), (4, .pointer (some ⟨b4, 0, none⟩)), (9, .slice (some ⟨bf, 0, none⟩) 128 128), (10, .int .i64 k)]) (fun _ => M1) (fun k => [(bf, .cells (bcells (putk xs ds p.2.1.toNat k)).toArray BT (0, 0)), (b4, .cells (pcells p).toArray 31 (0, 0))]) (fun k => k ≤ ds.length) (fun k => ds.length - k)
    0 (Keep.cons (t := 2) rfl (Keep.cons (t := 4) rfl (Keep.cons (t := 9) rfl (Keep.cons (t := 10) rfl Keep.nil)))) (Nat.zero_le _) (fun _ h => h) ?_
  rintro k hk
  try dsimp only at hk ⊢
  refine jc_seq ?_
  refine jc_seq ?_
  refine jc_region ?_
  iterate 2 refine jp rfl ?_
  refine jl_q rfl rfl (qLen rfl rfl rfl) ?_
  refine js rfl (fun h30 => ?_) (fun h30 => ?_)
  · refine jl_nil ?_
    refine jT ?_
    refine jc_yes rfl ?_
    refine jc_skip ?_
    refine jT ?_
    refine jc_seq ?_
    refine jc_block ?_
    refine jc_draw [(0, true), (1, true), (2, true), (3, true), (4, true), (5, true), (6, true), (7, true), (8, true), (9, true), (10, false)] [(b4, .cells (pcells p).toArray 31 (0, 0))] (by kernel_rfl) (by kernel_rfl) (by kernel_rfl) rfl (fun _ h => List.mem_cons_of_mem _ h) ?_
    refine dp rfl rfl ?_
    refine jd_q rfl rfl rfl (qFieldAddr rfl rfl rfl rfl rfl) ?_
    refine jd_q rfl rfl rfl (qLd rfl rfl rfl rfl (CJ.loc rfl)) ?_
    refine dp rfl rfl ?_
    refine da rfl rfl (by omega) ?_
    iterate 2 refine dp rfl rfl ?_
    obtain ⟨b1, o1, e1, g1⟩ := hd.open (by intro e; have := congrArg List.length e; rw [bcells_len, List.length_nil] at this; omega)
    subst e1
    have hk1 : k < ds.length := by omega
    have hfk := putk_len (xs := xs) (ds := ds) (f := p.2.1.toNat) (k := k) hfl (by omega) (by omega)
    refine jd_q rfl rfl rfl (qIdxS rfl rfl rfl rfl (by omega)) ?_
    refine jd_q rfl rfl rfl (qLd rfl rfl rfl rfl ((g1 (((k : Nat) : Int).toNat * 1) (.int .u8 ds[k]) (by simp [bcells, hk1])).cj _)) ?_
    refine jd_q rfl rfl rfl (qIdxS rfl rfl rfl rfl (by omega)) ?_
    refine jd_s rfl rfl (hStore rfl rfl rfl rfl rfl rfl (by simp [Value.oneCell']) (by simp only [bcells_len, List.length_cons, List.length_nil]; omega)) ?_; rintro _ _ _ ⟨rfl, rfl⟩
    refine jd_grow (MLe.refl _) (by simp) (MLe.refl _) (fun _ h => h) ?_
    refine jd_nil ?_
    refine jPn ?_
    refine jB ?_
    refine jT ?_
    refine jc_region ?_
    refine jp rfl ?_
    refine ja rfl (by omega) ?_
    refine jp rfl ?_
    refine jl_nil ?_
    refine j_again (k + 1) (Keep.cons (t := 2) rfl (Keep.cons (t := 4) rfl (Keep.cons (t := 9) rfl (Keep.cons (t := 10) rfl Keep.nil)))) (by omega) (by omega) (fun w h => by rw [putk_step (by omega) hfl hk1 (by omega)] at h; exact h)
  · refine jl_nil ?_
    refine jT ?_
    refine jc_no rfl ?_
    refine jc_exit ?_
    refine jTx ?_
    refine jTx ?_
    refine jBx ?_
    refine jT ?_
    refine jc_seq ?_
    refine jc_region ?_
    iterate 3 refine jp rfl ?_
    refine jl_nil ?_
    refine jT ?_
    refine jc_ret ?_
    refine jq_drop (L' := [(bf, .cells (bcells (putIn xs ds p.2.1.toNat)).toArray BT (0, 0))]) (by rw [show k = ds.length by omega, putk_all]; simp) ?_
    refine jr2 rfl rfl rfl ?_
    exact ⟨_, rfl, by rw [bcells_len]; omega, .inr ⟨bf, 128, _, by rw [hpt], rfl, by omega, by decide, by rw [← hpt]; simp [bcells], by rw [Nat.mul_one]; exact List.take_of_length_le (by rw [bcells_len]; omega)⟩⟩

end Go.Proofs.Ytjmkgfamonallaa
