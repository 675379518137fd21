/- Walks: the volumes of a pool. -/
import Derived.Test.YtjdmhbenpeedeaaGreatCen
namespace Go.Proofs.YtjdmhbenpeedeaaGreat
set_option linter.unusedVariables false
set_option linter.unusedSimpArgs false
open Go.RowKit

instance (priority := low) Pick.both {R S L L1 L2 : Lc} [h : Pick R L L1] [h2 : Pick S L1 L2] : Pick (R ++ S) L L2 := ⟨h.perm.trans ((List.Perm.append_left R h2.perm).trans (by rw [List.append_assoc]))⟩
abbrev TV : TypeId := 141
/-! ### the census's cells -/
abbrev cenL (bv wv nv lw pb : Value) (m : Nat) (refs nodes : List Int) (vs : Value) : List Value := cenA bv wv nv lw pb m (icells refs ++ (icells nodes ++ [vs]))
theorem icells_len (xs : List Int) : (icells xs).length = xs.length := by simp [icells]
section
variable {bv wv nv lw pb vs : Value} {m : Nat} {refs nodes : List Int}
theorem cen_len (h1 : refs.length = 256) (h2 : nodes.length = 256) : (cenL bv wv nv lw pb m refs nodes vs).length = 519 := by simp [icells_len, h1, h2]
theorem six_get {a b c d e f : Value} {r : List Value} {i j : Nat} (h : j = 6 + i) : (a :: b :: c :: d :: e :: f :: r)[j]? = r[i]? := by subst h; rw [show 6 + i = i + 6 by omega]; rfl
theorem cen_ref (h1 : refs.length = 256) {i j : Nat} (hi : i < 256) (hj : j = 6 + i) : (cenL bv wv nv lw pb m refs nodes vs)[j]? = some (.int .i64 (refs.getD i 0)) := by
  rw [six_get hj, List.getElem?_append_left (by rw [icells_len]; omega)]; simp [icells, List.getD, h1, hi]
theorem cen_nod (h1 : refs.length = 256) (h2 : nodes.length = 256) {i j : Nat} (hi : i < 256) (hj : j = 262 + i) : (cenL bv wv nv lw pb m refs nodes vs)[j]? = some (.int .i64 (nodes.getD i 0)) := by
  rw [six_get (show j = 6 + (256 + i) by omega), List.getElem?_append_right (by rw [icells_len]; omega), icells_len, show 256 + i - refs.length = i by omega, List.getElem?_append_left (by rw [icells_len]; omega)]; simp [icells, List.getD, h2, hi]
theorem cen_vol (h1 : refs.length = 256) (h2 : nodes.length = 256) : (cenL bv wv nv lw pb m refs nodes vs)[518]? = some vs := by
  rw [six_get (show 518 = 6 + 512 by omega), List.getElem?_append_right (by rw [icells_len]; omega), icells_len, List.getElem?_append_right (by rw [icells_len]; omega), icells_len, h1, h2]; rfl
theorem take_set {xs : List Value} {i : Nat} {v : Value} (h : i < xs.length) : xs.take i ++ [v] ++ xs.drop (i + 1) = xs.set i v := by
  rw [List.set_eq_take_append_cons_drop, if_pos h]; simp
theorem six_set {a b c d e f v : Value} {r : List Value} {i j : Nat} (h : j = 6 + i) : (a :: b :: c :: d :: e :: f :: r).set j v = a :: b :: c :: d :: e :: f :: r.set i v := by subst h; rw [show 6 + i = i + 6 by omega]; rfl
theorem cen_setr (h1 : refs.length = 256) (h2 : nodes.length = 256) {i j : Nat} {v : Int} (hi : i < 256) (hj : j = 6 + i) : (cenL bv wv nv lw pb m refs nodes vs).take j ++ [.int .i64 v] ++ (cenL bv wv nv lw pb m refs nodes vs).drop (j + 1) = cenL bv wv nv lw pb m (refs.set i v) nodes vs := by
  rw [take_set (by rw [cen_len h1 h2]; omega), six_set hj, List.set_append_left _ _ (by rw [icells_len]; omega)]; simp [icells, List.map_set]
theorem cen_setn (h1 : refs.length = 256) (h2 : nodes.length = 256) {i j : Nat} {v : Int} (hi : i < 256) (hj : j = 262 + i) : (cenL bv wv nv lw pb m refs nodes vs).take j ++ [.int .i64 v] ++ (cenL bv wv nv lw pb m refs nodes vs).drop (j + 1) = cenL bv wv nv lw pb m refs (nodes.set i v) vs := by
  rw [take_set (by rw [cen_len h1 h2]; omega), six_set (show j = 6 + (256 + i) by omega), List.set_append_right _ _ (by rw [icells_len]; omega), icells_len, show 256 + i - refs.length = i by omega, List.set_append_left _ _ (by rw [icells_len]; omega)]; simp [icells, List.map_set]
theorem cen_setv (h1 : refs.length = 256) (h2 : nodes.length = 256) {v : Value} : (cenL bv wv nv lw pb m refs nodes vs).take 518 ++ [v] ++ (cenL bv wv nv lw pb m refs nodes vs).drop (518 + 1) = cenL bv wv nv lw pb m refs nodes v := by
  rw [take_set (by rw [cen_len h1 h2]; omega), six_set (show 518 = 6 + 512 by omega), List.set_append_right _ _ (by rw [icells_len]; omega), icells_len, List.set_append_right _ _ (by rw [icells_len]; omega), icells_len, h1, h2]; rfl
end
section
variable {P : Program} {ops : Array Oper} {N : Fs} {F : Fr} {E : Ent} {M : Mem} {L : Lc} {o : Oper}
/-- one cell of a block -/
theorem hSt1 {t e : TypeId} {x y : Operand} {b off by_ : Nat} {u : Value} {l l2 : List Value} {L' : Lc} {z : List Value} (hg : gd ops F o = some true) (ho : o.op = .store t x y) (hx : ev F x = some (.pointer (some ⟨b, off, none⟩))) (hy : ev F y = some u)
    [hl : Lay P t 1 by_ z] (hc : u.cells = #[u]) (h1 : u.oneCell' = true) [at_ : At b (.cells l.toArray e (0, 0)) L] (hfit : off < l.length) (h2 : l.take off ++ [u] ++ l.drop (off + 1) = l2)
    [hp : PutAt b (.cells l.toArray e (0, 0)) (.cells l2.toArray e (0, 0)) L L'] : HF P ops N F E M L o (fun _ M' L'' => M = M' ∧ L'' = L') := by
  subst h2
  exact hStore (hp := hp) hg ho hx hy hc rfl (fun v hv => by rw [List.mem_singleton.1 hv]; exact h1) (by show off + 1 ≤ _; omega)
end
/-! ### what is gathered -/
def okV (x : It) (next : Int) (n : Nat) : Prop := volIs x ∧ x.key.id ≠ 0 ∧ x.key.id < next ∧ n ≠ 16
instance (x : It) (next : Int) (n : Nat) : Decidable (okV x next n) := by unfold okV; exact inferInstance
def volsGo (f : It → List Vo → Option (List Vo)) : List It → List Vo → Option (List Vo)
  | [], acc => some acc
  | x :: xs, acc => match f x acc with
    | some acc' => volsGo f xs acc'
    | none => none
def vol1 (next : Int) (x : It) (acc : List Vo) : Option (List Vo) := if okV x next acc.length then some (acc ++ [volOf x]) else none
def volsL (s : Sto) (next : Int) : Nat → List It → List Vo → Option (List Vo)
  | 0 => volsGo (vol1 next)
  | l + 1 => volsGo (fun x acc => volsL s next l (kid s x) acc)
theorem volsGo_on {f : It → List Vo → Option (List Vo)} {xs : List It} {k : Nat} {acc acc' : List Vo} (hk : k < xs.length) (h : f xs[k] acc = some acc') : volsGo f (xs.drop k) acc = volsGo f (xs.drop (k + 1)) acc' := by
  rw [List.drop_eq_getElem_cons hk, volsGo, h]
theorem volsGo_off {f : It → List Vo → Option (List Vo)} {xs : List It} {k : Nat} {acc : List Vo} (hk : k < xs.length) (h : f xs[k] acc = none) : volsGo f (xs.drop k) acc = none := by
  rw [List.drop_eq_getElem_cons hk, volsGo, h]
theorem volsGo_end {f : It → List Vo → Option (List Vo)} {xs : List It} {k : Nat} {acc : List Vo} (hk : k = xs.length) : volsGo f (xs.drop k) acc = some acc := by
  rw [List.drop_eq_nil_of_le (by omega), volsGo]
abbrev poc (bv wv nv lw : Value) (gen root next : Int) (dv : Value) : List Value := [bv, wv, nv, lw, .int .u32 gen, .int .i64 root, .int .u32 next, dv]
theorem voc_one (xs : List Vo) : ∀ v ∈ xs.flatMap voc, v.oneCell' = true := by
  intro v hv
  obtain ⟨x, _, hx⟩ := List.mem_flatMap.1 hv
  simp only [List.mem_cons, List.not_mem_nil, or_false] at hx
  rcases hx with rfl | rfl | rfl | rfl <;> rfl
/-- a node that is known, with all below it -/
def Good (s : Sto) (l : List (Int × Value)) (k : Int) : Prop := 8 ≤ k ∧ k < 256 ∧ (getV k l).isSome = true ∧ ∃ lv xs, ndAt s k.toNat = some (lv, xs) ∧ (rdSp s lv xs).is = true
theorem Good.get {M : Mem} {s : Sto} {l : List (Int × Value)} {k : Int} (h : Good s l k) (hm : MapI M s l) : ∃ lv xs a c p, ndAt s k.toNat = some (lv, xs) ∧ (rdSp s lv xs).is = true ∧ NS M (.slice a xs.length c) xs ∧ getV k l = some (.agg (snc lv (.slice a xs.length c) p).toArray) := by
  obtain ⟨h1, h2, h3, lv, xs, h4, h5⟩ := h
  obtain ⟨v, hv⟩ := Option.isSome_iff_exists.1 h3
  obtain ⟨_, _, lv2, xs2, sl, h6, h7, rfl⟩ := hm.ent k v hv
  rw [h4] at h6; cases h6
  obtain ⟨a, c, ps, rfl, _⟩ := id h7
  exact ⟨lv, xs, a, c, _, h4, h5, h7, hv⟩
theorem rd_kid {s : Sto} {lv : Int} {xs : List It} (hno : NdOk lv xs) (h : (rdSp s lv xs).is = true) (h0 : 0 < lv) {x : It} (hx : x ∈ xs) : (8 ≤ x.ref ∧ x.ref < 256) ∧ ∃ ys, ndAt s x.ref.toNat = some (lv - 1, ys) ∧ ys ≠ [] ∧ (rdSp s (lv - 1) ys).is = true := by
  have hne : xs ≠ [] := List.ne_nil_of_mem hx
  unfold rdSp at h
  rw [if_neg hne] at h
  obtain ⟨n, rfl⟩ : ∃ n : Nat, lv = ((n + 1 : Nat) : Int) := ⟨(lv - 1).toNat, by omega⟩
  rw [Int.toNat_natCast] at h
  have h1 := (goSp_all h x hx).1
  obtain ⟨ys, h2, h3, h4⟩ := one_up h1
  have hr := hno.ref x hx
  have hu := hno.up h0 x hx
  refine ⟨by omega, ys, by rw [h2]; congr 2; omega, h3, ?_⟩
  unfold rdSp
  rw [if_neg h3, show (((n + 1 : Nat) : Int) - 1).toNat = n by omega, ← h4]; exact h1
theorem Good.kid {M : Mem} {s : Sto} {l : List (Int × Value)} {k lv : Int} {xs : List It} (h : Good s l k) (hm : MapI M s l) (hnd : ndAt s k.toNat = some (lv, xs)) (h0 : 0 < lv) {x : It} (hx : x ∈ xs) : Good s l x.ref := by
  obtain ⟨h1, h2, h3, lv2, xs2, h4, h5⟩ := h
  rw [hnd] at h4; cases h4
  obtain ⟨h6, ys, h7, _, h8⟩ := rd_kid (ndAt_ok hnd) h5 h0 hx
  exact ⟨h6.1, h6.2, hm.kid k lv xs h3 hnd h5 h0 x hx, _, ys, h7, h8⟩
def VolsP (s : Sto) (cb m : Nat) (bv wv nv lw pb : Value) (refs nodes : List Int) (l : List (Int × Value)) (r : Option (List Vo)) (u : Value) (L' : Lc) : Prop := match r with
  | none => u = .int .i64 8 ∧ L' = []
  | some acc => u = .int .i64 0 ∧ ∃ vs Rv, L' = Rv ++ [(cb, .cells (cenL bv wv nv lw pb m refs nodes vs).toArray TCn (0, 0)), (m, vObj l)] ∧ Own vs Rv TV 4 acc.length (acc.flatMap voc)
def CenVols (s : Sto) (cb m : Nat) (bv wv nv lw pb : Value) (refs nodes : List Int) (l : List (Int × Value)) (pv : List Value) (next : Int) (lv : Nat) : Prop := ∀ (xs : List It) (sl : Value) (acc : List Vo) (vs : Value) (Rv : Lc) (M : Mem), MapI M s l → NS M sl xs → NdOk (lv : Int) xs → (0 < lv → ∀ x ∈ xs, Good s l x.ref ∧ ∃ ys, ndAt s x.ref.toNat = some ((lv : Int) - 1, ys)) → Own vs Rv TV 4 acc.length (acc.flatMap voc) → acc.length ≤ 16 →
  SpecL Tryz.prog 83 #[.pointer (some ⟨cb, 0, none⟩), .agg pv.toArray, .agg #[.int .i64 lv, sl]] M (Rv ++ [(cb, .cells (cenL bv wv nv lw pb m refs nodes vs).toArray TCn (0, 0)), (m, vObj l)])
    fun u M' L' => VolsP s cb m bv wv nv lw pb refs nodes l (volsL s next lv xs acc) u L'
theorem VolsP.form {s : Sto} {cb m : Nat} {bv wv nv lw pb : Value} {refs nodes : List Int} {l : List (Int × Value)} {r : Option (List Vo)} {u : Value} {L' : Lc} (h : VolsP s cb m bv wv nv lw pb refs nodes l r u L') : ∃ e, u = .int .i64 e ∧ ((e = 8 ∧ r = none ∧ L' = []) ∨ (e = 0 ∧ ∃ acc vs Rv, r = some acc ∧ L' = Rv ++ [(cb, .cells (cenL bv wv nv lw pb m refs nodes vs).toArray TCn (0, 0)), (m, vObj l)] ∧ Own vs Rv TV 4 acc.length (acc.flatMap voc))) := by
  unfold VolsP at h
  split at h
  · exact ⟨8, h.1, .inl ⟨rfl, rfl, h.2⟩⟩
  · rename_i acc
    obtain ⟨h1, vs, Rv, h2, h3⟩ := h
    exact ⟨0, h1, .inr ⟨rfl, acc, vs, Rv, rfl, h2, h3⟩⟩
theorem kid_eq {s : Sto} {x : It} {lv : Int} {ys : List It} (h : ndAt s x.ref.toNat = some (lv, ys)) : kid s x = ys := by unfold kid; rw [h]
theorem volsGo_le {f : It → List Vo → Option (List Vo)} (hf : ∀ x acc acc', f x acc = some acc' → acc.length ≤ 16 → acc'.length ≤ 16) : ∀ (xs : List It) (acc acc' : List Vo), volsGo f xs acc = some acc' → acc.length ≤ 16 → acc'.length ≤ 16
  | [], acc, acc', h, hl => by cases h; exact hl
  | x :: xs, acc, acc', h, hl => by
    unfold volsGo at h
    split at h
    · rename_i b hb; exact volsGo_le hf xs b acc' h (hf x acc b hb hl)
    · cases h
theorem volsL_le {s : Sto} {next : Int} : ∀ (l : Nat) (xs : List It) (acc acc' : List Vo), volsL s next l xs acc = some acc' → acc.length ≤ 16 → acc'.length ≤ 16
  | 0 => volsGo_le fun x acc acc' h hl => by
    unfold vol1 at h
    split at h
    · rename_i hk; cases h; have := hk.2.2.2; rw [List.length_append, List.length_cons, List.length_nil]; omega
    · cases h
  | l + 1 => volsGo_le fun x acc acc' h hl => volsL_le l _ acc acc' h hl

set_option maxHeartbeats 4000000 in
theorem vols_leaf (s : Sto) (cb m : Nat) (bv wv nv lw pb : Value) (refs nodes : List Int) (hr1 : refs.length = 256) (hn1 : nodes.length = 256) (l : List (Int × Value)) (pb0 pw0 pn0 pl0 : Value) (gen root next : Int) (dv : Value) (xs : List It) (a : Option Addr) (c : Nat) (ps : List (It × Value)) (acc0 : List Vo) (vs0 : Value) (Rv0 : Lc) (M : Mem) (hmi : MapI M s l) (hc : xs.length ≤ c) (hs : SM M a (ps.flatMap icell)) (hp : ps.map (·.1) = xs) (hb : ∀ p ∈ ps, BS M p.2 p.1.val) (hno : NdOk ((0 : Nat) : Int) xs) (hown0 : Own vs0 Rv0 TV 4 acc0.length (acc0.flatMap voc)) (hacc0 : acc0.length ≤ 16) :
    SpecL Tryz.prog 83 #[.pointer (some ⟨cb, 0, none⟩), .agg (poc pb0 pw0 pn0 pl0 gen root next dv).toArray, .agg #[.int .i64 ((0 : Nat) : Int), .slice a xs.length c]] M (Rv0 ++ [(cb, .cells (cenL bv wv nv lw pb m refs nodes vs0).toArray TCn (0, 0)), (m, vObj l)]) fun u M' L' => VolsP s cb m bv wv nv lw pb refs nodes l (volsL s next 0 xs acc0) u L' := by
  have hlv := hno.lev
  have hlen := hno.len
  refine spec_body (vs := [_, _, _]) 74 _ Tryz.func83 rfl Tryz.ntmps83 rfl rfl ?_; intro W
  refine jc_seq ?_
  refine jc_region ?_
  refine jl_h rfl rfl (hBox (cs := [_, _, _, _, _, _, _, _]) rfl rfl rfl rfl) ?_; rintro _ _ _ ⟨b4, rfl, rfl, rfl⟩
  refine jl_h rfl rfl (hBox (cs := [_, _]) rfl rfl rfl rfl) ?_; rintro _ _ _ ⟨b5, rfl, rfl, rfl⟩
  refine jp rfl ?_
  refine jl_nil ?_
  refine jT ?_
  refine jc_seq ?_
  refine jc_seq ?_
  refine jc_region ?_
  refine jl_q rfl rfl (qFieldAddr rfl rfl rfl rfl rfl) ?_
  refine jl_q rfl rfl (qLd rfl rfl rfl rfl (CJ.loc rfl)) ?_
  refine jl_q rfl rfl (qLen rfl rfl rfl) ?_
  refine jp rfl ?_
  refine jl_nil ?_
  refine jT ?_
  refine jc_block ?_
  refine jc_loopK (α := Nat × Mem × List Vo × Value × Lc) (fun x => [(0, .pointer (some ⟨cb, 0, none⟩)), (4, .pointer (some ⟨b4, 0, none⟩)), (5, .pointer (some ⟨b5, 0, none⟩)), (13, .slice a xs.length c), (14, .int .i64 xs.length), (15, .int .i64 x.1)]) (fun x => x.2.1) (fun x => ([(b5, .cells [.int .i64 ((0 : Nat) : Int), .slice a xs.length c].toArray TNd (0, 0)), (b4, .cells (poc pb0 pw0 pn0 pl0 gen root next dv).toArray 32 (0, 0))] ++ (x.2.2.2.2 ++ [(cb, .cells (cenL bv wv nv lw pb m refs nodes x.2.2.2.1).toArray TCn (0, 0)), (m, vObj l)]))) (fun x => x.1 ≤ xs.length ∧ MLe M x.2.1 ∧ volsGo (vol1 next) xs acc0 = volsGo (vol1 next) (xs.drop x.1) x.2.2.1 ∧ Own x.2.2.2.1 x.2.2.2.2 TV 4 x.2.2.1.length (x.2.2.1.flatMap voc) ∧ x.2.2.1.length ≤ 16) (fun x => xs.length - x.1)
    (0, M, acc0, vs0, Rv0) (Keep.cons (t := 0) rfl (Keep.cons (t := 4) rfl (Keep.cons (t := 5) rfl (Keep.cons (t := 13) rfl (Keep.cons (t := 14) rfl (Keep.cons (t := 15) rfl Keep.nil)))))) ⟨Nat.zero_le _, MLe.refl _, rfl, hown0, hacc0⟩ (fun _ h => h) ?_
  rintro ⟨k, Mk, acc, vs, Rv⟩ ⟨hk, hMk, hI, hown, hacc⟩
  try dsimp only at hk hMk hI hown hacc ⊢
  simp only [List.cons_append, List.nil_append]
  have hsk := hs.mono hMk
  have hbk := fun p hp => (hb p hp).mono hMk
  refine jc_seq ?_
  refine jc_region ?_
  refine js rfl (fun h16 => ?_) (fun h16 => ?_)
  · refine jl_nil ?_
    refine jT ?_
    refine jc_seq ?_
    refine jc_yes rfl ?_
    refine jc_skip ?_
    refine jT ?_
    refine jc_seq ?_
    refine jc_block ?_
    refine jc_seq ?_
    refine jc_region ?_
    have hk1 : k < xs.length := by omega
    obtain ⟨sb, so, e0, hx⟩ := hsk.open (by intro e; have := congrArg List.length e; rw [flat_len icell 5 icell_len, List.length_nil] at this; have h2 := congrArg List.length hp; rw [List.length_map] at h2; omega)
    subst e0
    obtain ⟨va, vc, hcl, hvc, hvs⟩ := items_get hx hp hbk hk1
    refine jl_q rfl rfl (qIdxS rfl rfl rfl rfl (by omega)) ?_
    refine jl_q rfl rfl (qLdA (cs := itc xs[k] va vc) rfl rfl rfl rfl rfl (fun i v hv => (hcl i v hv).cj _)) ?_
    refine jl_h rfl rfl (hAlloc rfl rfl) ?_; rintro _ _ _ ⟨b8, rfl, rfl, rfl⟩
    refine jl_s rfl (hStoreL rfl rfl rfl rfl rfl rfl rfl rfl (by first | (simp only [Nat.reduceAdd, Nat.zero_add, Nat.add_zero, List.drop_succ_cons, List.drop_zero, List.drop_nil, List.take_succ_cons, List.take_zero, List.take_nil, List.cons_append, List.nil_append, List.append_nil, List.length_cons, List.length_nil]; try rfl) | rfl)) ?_; rintro _ _ _ ⟨rfl, rfl⟩
    refine jl_nil ?_
    refine jT ?_
    refine jc_seq ?_
    refine jc_seq ?_
    refine jc_region ?_
    refine jl_q rfl rfl (qFieldAddr rfl rfl rfl rfl rfl) ?_
    refine jl_q rfl rfl (qLd rfl rfl rfl rfl (CJ.loc rfl)) ?_
    refine jf rfl (decide_eq_false (by omega)) ?_
    refine jl_nil ?_
    refine jT ?_
    refine jc_no rfl ?_
    refine jc_skip ?_
    refine jT ?_
    refine jc_seq ?_
    refine jc_region ?_
    refine jl_q rfl rfl (qLdL rfl rfl rfl rfl rfl (by first | (simp only [Nat.reduceAdd, Nat.zero_add, Nat.add_zero, List.drop_succ_cons, List.drop_zero, List.drop_nil, List.take_succ_cons, List.take_zero, List.take_nil, List.cons_append, List.nil_append, List.append_nil, List.length_cons, List.length_nil]; try rfl) | rfl)) ?_
    have hvl : xs[k].val.length ≤ 1000000 := by
      have h1 := (itemsOk_bad hno.ok xs[k] (List.getElem_mem hk1)).1
      unfold itBad at h1
      have := of_decide_eq_false h1; omega
    refine jl_h rfl rfl (hCall rfl rfl rfl rfl rfl (by kernel_rfl) (volume_spec xs[k] va vc Mk hvc hvs hvl)) ?_; rintro _ Mn _ ⟨hMn, _, rfl, ⟨⟨v, rfl, hvo⟩, rfl⟩⟩
    simp only [List.nil_append]
    iterate 2 refine jp rfl ?_
    refine jsb rfl (fun h40 => ?_) (fun h40 => ?_)
    · refine jl_h rfl rfl (hAlloc rfl rfl) ?_; rintro _ _ _ ⟨b10, rfl, rfl, rfl⟩
      refine jl_s rfl (hStoreL rfl rfl rfl rfl rfl rfl rfl rfl (by first | (simp only [Nat.reduceAdd, Nat.zero_add, Nat.add_zero, List.drop_succ_cons, List.drop_zero, List.drop_nil, List.take_succ_cons, List.take_zero, List.take_nil, List.cons_append, List.nil_append, List.append_nil, List.length_cons, List.length_nil]; try rfl) | rfl)) ?_; rintro _ _ _ ⟨rfl, rfl⟩
      refine jp rfl ?_
      refine jl_nil ?_
      refine jT ?_
      refine jc_seq ?_
      refine jc_seq ?_
      refine jc_region ?_
      iterate 3 refine jp rfl ?_
      refine jl_q rfl rfl (qFieldAddr rfl rfl rfl rfl rfl) ?_
      refine jl_q rfl rfl (qLd rfl rfl rfl rfl (CJ.loc rfl)) ?_
      refine js rfl (fun h46 => ?_) (fun h46 => ?_)
      · iterate 16 refine jp rfl ?_
        refine jl_nil ?_
        refine jT ?_
        refine jc_yes rfl ?_
        refine jc_seq ?_
        refine jc_region ?_
        refine jp rfl ?_
        refine jl_nil ?_
        refine jT ?_
        refine jc_ret ?_
        refine jTr ?_
        refine jBr ?_
        refine jTr ?_
        refine jTr ?_
        refine jBr ?_
        refine jTr ?_
        refine jq_drop (L' := []) (List.nil_sublist _) ?_
        refine jr1 rfl rfl ?_
        have hno : ¬ okV xs[k] next acc.length := by intro hh; rw [hvo (of_decide_eq_true h40)] at h46; exact hh.2.1 h46
        unfold VolsP
        rw [show volsL s next 0 xs acc0 = none by rw [show volsL s next 0 xs acc0 = volsGo (vol1 next) (xs.drop k) acc from hI]; exact volsGo_off hk1 (by unfold vol1; rw [if_neg hno])]
        exact ⟨rfl, rfl⟩
      · iterate 2 refine jp rfl ?_
        refine jl_q rfl rfl (qFieldAddr rfl rfl rfl rfl rfl) ?_
        refine jl_q rfl rfl (qLd rfl rfl rfl rfl (CJ.loc rfl)) ?_
        refine jl_q rfl rfl (qFieldAddr rfl rfl rfl rfl rfl) ?_
        refine jl_q rfl rfl (qLd rfl rfl rfl rfl (CJ.loc rfl)) ?_
        refine js rfl (fun h53 => ?_) (fun h53 => ?_)
        · iterate 9 refine jp rfl ?_
          refine jl_nil ?_
          refine jT ?_
          refine jc_yes rfl ?_
          refine jc_seq ?_
          refine jc_region ?_
          refine jp rfl ?_
          refine jl_nil ?_
          refine jT ?_
          refine jc_ret ?_
          refine jTr ?_
          refine jBr ?_
          refine jTr ?_
          refine jTr ?_
          refine jBr ?_
          refine jTr ?_
          refine jq_drop (L' := []) (List.nil_sublist _) ?_
          refine jr1 rfl rfl ?_
          have hno : ¬ okV xs[k] next acc.length := by intro hh; rw [hvo (of_decide_eq_true h40)] at h53; have h1 : (volOf xs[k]).id = xs[k].key.id := rfl; have := hh.2.2.1; omega
          unfold VolsP
          rw [show volsL s next 0 xs acc0 = none by rw [show volsL s next 0 xs acc0 = volsGo (vol1 next) (xs.drop k) acc from hI]; exact volsGo_off hk1 (by unfold vol1; rw [if_neg hno])]
          exact ⟨rfl, rfl⟩
        · iterate 3 refine jp rfl ?_
          refine jl_q rfl rfl (qNilCheck rfl rfl rfl) ?_
          refine jl_q rfl rfl (qFieldAddr rfl rfl rfl rfl rfl) ?_
          obtain ⟨va1, vc1, rfl⟩ := hown.form
          refine jl_q rfl rfl (qLd rfl rfl rfl rfl (CJ.loc (cen_vol hr1 hn1))) ?_
          refine jl_q rfl rfl (qLen rfl rfl rfl) ?_
          refine js rfl (fun h61 => ?_) (fun h61 => ?_)
          · refine jp rfl ?_
            refine jl_nil ?_
            refine jT ?_
            refine jc_yes rfl ?_
            refine jc_seq ?_
            refine jc_region ?_
            refine jp rfl ?_
            refine jl_nil ?_
            refine jT ?_
            refine jc_ret ?_
            refine jTr ?_
            refine jBr ?_
            refine jTr ?_
            refine jTr ?_
            refine jBr ?_
            refine jTr ?_
            refine jq_drop (L' := []) (List.nil_sublist _) ?_
            refine jr1 rfl rfl ?_
            have hno : ¬ okV xs[k] next acc.length := by intro hh; exact hh.2.2.2 (by omega)
            unfold VolsP
            rw [show volsL s next 0 xs acc0 = none by rw [show volsL s next 0 xs acc0 = volsGo (vol1 next) (xs.drop k) acc from hI]; exact volsGo_off hk1 (by unfold vol1; rw [if_neg hno])]
            exact ⟨rfl, rfl⟩
          · refine jp rfl ?_
            refine jl_nil ?_
            refine jT ?_
            refine jc_no rfl ?_
            refine jc_skip ?_
            refine jT ?_
            refine jc_drawP (p := { A := fun i => !([10].contains i), U := fun i => !([10].contains i) }) [(0, true), (1, true), (2, true), (3, true), (4, true), (5, true), (6, false), (7, false), (8, true), (9, true), (10, false)] Mn ([(b10, .cells (voc v).toArray TV (0, 0)), (cb, .cells (cenL bv wv nv lw pb m refs nodes (.slice va1 acc.length vc1)).toArray TCn (0, 0))]) ([]) (by kernel_rfl) (by kernel_rfl) (by kernel_rfl) (by kernel_rfl) rfl (by simp) (MLe.refl _) (by simp) ?_
            iterate 2 refine dp rfl rfl ?_
            refine jd_q rfl rfl rfl (qNilCheck rfl rfl rfl) ?_
            refine jd_q rfl rfl rfl (qFieldAddr rfl rfl rfl rfl rfl) ?_
            refine jd_q rfl rfl rfl (qLd rfl rfl rfl rfl (CJ.loc (cen_vol hr1 hn1))) ?_
            refine jd_q rfl rfl rfl (qLdL rfl rfl rfl rfl rfl (by first | (simp only [Nat.reduceAdd, Nat.zero_add, Nat.add_zero, List.drop_succ_cons, List.drop_zero, List.drop_nil, List.take_succ_cons, List.take_zero, List.take_nil, List.cons_append, List.nil_append, List.append_nil, List.length_cons, List.length_nil]; try rfl) | rfl)) ?_
            refine jd_h rfl rfl rfl (hBuildSlice (cs := [_, _, _, _]) rfl rfl rfl (by rfl) (by rfl) (by rfl)) ?_; rintro _ _ _ ⟨b69, rfl, rfl, rfl⟩
            refine jd_grow (MLe.refl _) (fun _ h => List.mem_cons_of_mem _ h) (by first | exact MLe.refl _ | assumption) (by simp) ?_
            refine jd_h rfl rfl rfl (hAppend (R := Rv) (m := 1) rfl rfl rfl rfl hown rfl (fun i v hv => CJ.loc (by simpa using hv)) rfl (by rfl) (by simp [Value.oneCell']) (by omega) (by omega)) ?_; rintro vs2 _ _ ⟨rfl, Rv2, rfl, hown2, _⟩
            refine ⟨_, _, MLe.refl _, MLe.refl _, fun _ h => h, by simp, ?_⟩
            obtain ⟨va2, vc2, rfl⟩ := hown2.form
            refine jd_q rfl rfl rfl (qNilCheck rfl rfl rfl) ?_
            refine jd_q rfl rfl rfl (qFieldAddr rfl rfl rfl rfl rfl) ?_
            refine jd_e rfl rfl (hSt1 rfl rfl rfl rfl rfl rfl (by rw [cen_len hr1 hn1]; decide) (cen_setv hr1 hn1)) ?_; rintro _ _ _ ⟨rfl, rfl⟩
            refine ⟨MLe.refl _, by simp, ?_⟩
            refine je_nil ?_
            refine jPn ?_
            refine jB ?_
            refine jT ?_
            refine jc_region ?_
            refine ja rfl (by omega) ?_
            refine jp rfl ?_
            refine jl_nil ?_
            have hok : okV xs[k] next acc.length := ⟨of_decide_eq_true h40, fun e => h46 (by rw [hvo (of_decide_eq_true h40)]; exact e), by have := hvo (of_decide_eq_true h40); rw [this] at h53; show xs[k].key.id < next; have : (volOf xs[k]).id = xs[k].key.id := rfl; omega, fun e => h61 (by omega)⟩
            have hv := hvo (of_decide_eq_true h40)
            subst hv
            refine j_again (k + 1, Mn, acc ++ [volOf xs[k]], .slice va2 (acc.length + 1) vc2, Rv2) (Keep.cons (t := 0) rfl (Keep.cons (t := 4) rfl (Keep.cons (t := 5) rfl (Keep.cons (t := 13) rfl (Keep.cons (t := 14) rfl (Keep.cons (t := 15) rfl Keep.nil)))))) ⟨by show k + 1 ≤ xs.length; omega, hMk.trans hMn, ?_, ?_, ?_⟩ (by show xs.length - (k + 1) < xs.length - k; omega) (fun w h => (h.perm (List.perm_append_comm_assoc Rv2 [_, _, _, _, _] [_, _])).fewer (.cons _ (.cons _ (.cons _ (.refl _)))))
            · show volsGo _ _ _ = volsGo _ _ (acc ++ [volOf xs[k]])
              rw [hI]; exact volsGo_on hk1 (by unfold vol1; rw [if_pos hok])
            · show Own _ _ _ _ (acc ++ [volOf xs[k]]).length ((acc ++ [volOf xs[k]]).flatMap voc)
              rw [List.length_append, List.flatMap_append]; simpa using hown2
            · show (acc ++ [volOf xs[k]]).length ≤ 16
              rw [List.length_append, List.length_cons, List.length_nil]; have := hok.2.2.2; omega
    · refine jl_h rfl rfl (hAlloc rfl rfl) ?_; rintro _ _ _ ⟨b10, rfl, rfl, rfl⟩
      refine jl_s rfl (hStoreL rfl rfl rfl rfl rfl rfl rfl rfl (by first | (simp only [Nat.reduceAdd, Nat.zero_add, Nat.add_zero, List.drop_succ_cons, List.drop_zero, List.drop_nil, List.take_succ_cons, List.take_zero, List.take_nil, List.cons_append, List.nil_append, List.append_nil, List.length_cons, List.length_nil]; try rfl) | rfl)) ?_; rintro _ _ _ ⟨rfl, rfl⟩
      refine jp rfl ?_
      refine jl_nil ?_
      refine jT ?_
      refine jc_seq ?_
      refine jc_seq ?_
      refine jc_region ?_
      iterate 22 refine jp rfl ?_
      refine jl_nil ?_
      refine jT ?_
      refine jc_yes rfl ?_
      refine jc_seq ?_
      refine jc_region ?_
      refine jp rfl ?_
      refine jl_nil ?_
      refine jT ?_
      refine jc_ret ?_
      refine jTr ?_
      refine jBr ?_
      refine jTr ?_
      refine jTr ?_
      refine jBr ?_
      refine jTr ?_
      refine jq_drop (L' := []) (List.nil_sublist _) ?_
      refine jr1 rfl rfl ?_
      have hno : ¬ okV xs[k] next acc.length := by intro hh; have h := hh.1; rw [decide_eq_true h] at h40; cases h40
      unfold VolsP
      rw [show volsL s next 0 xs acc0 = none by rw [show volsL s next 0 xs acc0 = volsGo (vol1 next) (xs.drop k) acc from hI]; exact volsGo_off hk1 (by unfold vol1; rw [if_neg hno])]
      exact ⟨rfl, rfl⟩
  · refine jl_nil ?_
    refine jT ?_
    refine jc_seq ?_
    refine jc_no rfl ?_
    refine jc_exit ?_
    refine jTx ?_
    refine jTx ?_
    refine jBx ?_
    refine jT ?_
    refine jc_seq ?_
    refine jc_region ?_
    refine jp rfl ?_
    refine jl_nil ?_
    refine jT ?_
    refine jc_ret ?_
    refine jq_weak (L' := Rv ++ [(cb, .cells (cenL bv wv nv lw pb m refs nodes vs).toArray TCn (0, 0)), (m, vObj l)]) (fun w h => h.fewer (.cons _ (.cons _ (.refl _)))) ?_
    refine jr1 rfl rfl ?_
    unfold VolsP
    rw [show volsL s next 0 xs acc0 = some acc by rw [show volsL s next 0 xs acc0 = volsGo _ (xs.drop k) acc from hI]; exact volsGo_end (by omega)]
    exact ⟨rfl, vs, Rv, rfl, hown⟩

set_option maxHeartbeats 4000000 in
theorem vols_node (s : Sto) (cb m : Nat) (bv wv nv lw pb : Value) (refs nodes : List Int) (hr1 : refs.length = 256) (hn1 : nodes.length = 256) (l : List (Int × Value)) (pb0 pw0 pn0 pl0 : Value) (gen root next : Int) (dv : Value) (lv : Nat) (ih : CenVols s cb m bv wv nv lw pb refs nodes l (poc pb0 pw0 pn0 pl0 gen root next dv) next lv) (xs : List It) (a : Option Addr) (c : Nat) (ps : List (It × Value)) (acc0 : List Vo) (vs0 : Value) (Rv0 : Lc) (M : Mem) (hmi : MapI M s l) (hc : xs.length ≤ c) (hs : SM M a (ps.flatMap icell)) (hp : ps.map (·.1) = xs) (hb : ∀ p ∈ ps, BS M p.2 p.1.val) (hno : NdOk ((lv + 1 : Nat) : Int) xs) (hown0 : Own vs0 Rv0 TV 4 acc0.length (acc0.flatMap voc)) (hacc0 : acc0.length ≤ 16) (hkid : ∀ x ∈ xs, Good s l x.ref ∧ ∃ ys, ndAt s x.ref.toNat = some ((lv : Int), ys)) :
    SpecL Tryz.prog 83 #[.pointer (some ⟨cb, 0, none⟩), .agg (poc pb0 pw0 pn0 pl0 gen root next dv).toArray, .agg #[.int .i64 ((lv + 1 : Nat) : Int), .slice a xs.length c]] M (Rv0 ++ [(cb, .cells (cenL bv wv nv lw pb m refs nodes vs0).toArray TCn (0, 0)), (m, vObj l)]) fun u M' L' => VolsP s cb m bv wv nv lw pb refs nodes l (volsL s next (lv + 1) xs acc0) u L' := by
  have hlv := hno.lev
  have hlen := hno.len
  refine spec_body (vs := [_, _, _]) 74 _ Tryz.func83 rfl Tryz.ntmps83 rfl rfl ?_; intro W
  refine jc_seq ?_
  refine jc_region ?_
  refine jl_h rfl rfl (hBox (cs := [_, _, _, _, _, _, _, _]) rfl rfl rfl rfl) ?_; rintro _ _ _ ⟨b4, rfl, rfl, rfl⟩
  refine jl_h rfl rfl (hBox (cs := [_, _]) rfl rfl rfl rfl) ?_; rintro _ _ _ ⟨b5, rfl, rfl, rfl⟩
  refine jp rfl ?_
  refine jl_nil ?_
  refine jT ?_
  refine jc_seq ?_
  refine jc_seq ?_
  refine jc_region ?_
  refine jl_q rfl rfl (qFieldAddr rfl rfl rfl rfl rfl) ?_
  refine jl_q rfl rfl (qLd rfl rfl rfl rfl (CJ.loc rfl)) ?_
  refine jl_q rfl rfl (qLen rfl rfl rfl) ?_
  refine jp rfl ?_
  refine jl_nil ?_
  refine jT ?_
  refine jc_block ?_
  refine jc_loopK (α := Nat × Mem × List Vo × Value × Lc) (fun x => [(0, .pointer (some ⟨cb, 0, none⟩)), (4, .pointer (some ⟨b4, 0, none⟩)), (5, .pointer (some ⟨b5, 0, none⟩)), (13, .slice a xs.length c), (14, .int .i64 xs.length), (15, .int .i64 x.1)]) (fun x => x.2.1) (fun x => ([(b5, .cells [.int .i64 ((lv + 1 : Nat) : Int), .slice a xs.length c].toArray TNd (0, 0)), (b4, .cells (poc pb0 pw0 pn0 pl0 gen root next dv).toArray 32 (0, 0))] ++ (x.2.2.2.2 ++ [(cb, .cells (cenL bv wv nv lw pb m refs nodes x.2.2.2.1).toArray TCn (0, 0)), (m, vObj l)]))) (fun x => x.1 ≤ xs.length ∧ MLe M x.2.1 ∧ volsGo (fun x acc => volsL s next lv (kid s x) acc) xs acc0 = volsGo (fun x acc => volsL s next lv (kid s x) acc) (xs.drop x.1) x.2.2.1 ∧ Own x.2.2.2.1 x.2.2.2.2 TV 4 x.2.2.1.length (x.2.2.1.flatMap voc) ∧ x.2.2.1.length ≤ 16) (fun x => xs.length - x.1)
    (0, M, acc0, vs0, Rv0) (Keep.cons (t := 0) rfl (Keep.cons (t := 4) rfl (Keep.cons (t := 5) rfl (Keep.cons (t := 13) rfl (Keep.cons (t := 14) rfl (Keep.cons (t := 15) rfl Keep.nil)))))) ⟨Nat.zero_le _, MLe.refl _, rfl, hown0, hacc0⟩ (fun _ h => h) ?_
  rintro ⟨k, Mk, acc, vs, Rv⟩ ⟨hk, hMk, hI, hown, hacc⟩
  try dsimp only at hk hMk hI hown hacc ⊢
  simp only [List.cons_append, List.nil_append]
  have hsk := hs.mono hMk
  have hbk := fun p hp => (hb p hp).mono hMk
  refine jc_seq ?_
  refine jc_region ?_
  refine js rfl (fun h16 => ?_) (fun h16 => ?_)
  · refine jl_nil ?_
    refine jT ?_
    refine jc_seq ?_
    refine jc_yes rfl ?_
    refine jc_skip ?_
    refine jT ?_
    refine jc_seq ?_
    refine jc_block ?_
    refine jc_seq ?_
    refine jc_region ?_
    have hk1 : k < xs.length := by omega
    obtain ⟨sb, so, e0, hx⟩ := hsk.open (by intro e; have := congrArg List.length e; rw [flat_len icell 5 icell_len, List.length_nil] at this; have h2 := congrArg List.length hp; rw [List.length_map] at h2; omega)
    subst e0
    obtain ⟨va, vc, hcl, hvc, hvs⟩ := items_get hx hp hbk hk1
    refine jl_q rfl rfl (qIdxS rfl rfl rfl rfl (by omega)) ?_
    refine jl_q rfl rfl (qLdA (cs := itc xs[k] va vc) rfl rfl rfl rfl rfl (fun i v hv => (hcl i v hv).cj _)) ?_
    refine jl_h rfl rfl (hAlloc rfl rfl) ?_; rintro _ _ _ ⟨b8, rfl, rfl, rfl⟩
    refine jl_s rfl (hStoreL rfl rfl rfl rfl rfl rfl rfl rfl (by first | (simp only [Nat.reduceAdd, Nat.zero_add, Nat.add_zero, List.drop_succ_cons, List.drop_zero, List.drop_nil, List.take_succ_cons, List.take_zero, List.take_nil, List.cons_append, List.nil_append, List.append_nil, List.length_cons, List.length_nil]; try rfl) | rfl)) ?_; rintro _ _ _ ⟨rfl, rfl⟩
    refine jl_nil ?_
    refine jT ?_
    refine jc_seq ?_
    refine jc_seq ?_
    refine jc_region ?_
    refine jl_q rfl rfl (qFieldAddr rfl rfl rfl rfl rfl) ?_
    refine jl_q rfl rfl (qLd rfl rfl rfl rfl (CJ.loc rfl)) ?_
    refine jt rfl (decide_eq_true (by omega)) ?_
    refine jl_nil ?_
    refine jT ?_
    refine jc_yes rfl ?_
    refine jc_seq ?_
    refine jc_seq ?_
    refine jc_drawP (p := { A := fun i => !([10].contains i), U := fun i => !([10, 11].contains i) }) [(0, true), (1, true), (2, true), (3, true), (4, true), (5, true), (6, true), (7, true), (8, true), (9, true), (10, false), (11, true)] Mk ([(b8, .cells (itc xs[k] va vc).toArray IT (0, 0)), (b4, .cells (poc pb0 pw0 pn0 pl0 gen root next dv).toArray 32 (0, 0)), (cb, .cells (cenL bv wv nv lw pb m refs nodes vs).toArray TCn (0, 0)), (m, vObj l)]) ([]) (by kernel_rfl) (by kernel_rfl) (by kernel_rfl) (by kernel_rfl) rfl (by simp) (MLe.refl _) (by simp) ?_
    refine dp rfl rfl ?_
    refine jd_q rfl rfl rfl (qLdL rfl rfl rfl rfl rfl (by first | (simp only [Nat.reduceAdd, Nat.zero_add, Nat.add_zero, List.drop_succ_cons, List.drop_zero, List.drop_nil, List.take_succ_cons, List.take_zero, List.take_nil, List.cons_append, List.nil_append, List.append_nil, List.length_cons, List.length_nil]; try rfl) | rfl)) ?_
    refine dp rfl rfl ?_
    refine jd_q rfl rfl rfl (qNilCheck rfl rfl rfl) ?_
    refine jd_q rfl rfl rfl (qFieldAddr rfl rfl rfl rfl rfl) ?_
    refine jd_q rfl rfl rfl (qLd rfl rfl rfl rfl (CJ.loc rfl)) ?_
    refine jd_q rfl rfl rfl (qFieldAddr rfl rfl rfl rfl rfl) ?_
    refine jd_q rfl rfl rfl (qLd rfl rfl rfl rfl (CJ.loc rfl)) ?_
    obtain ⟨hgood, ys0, hkn⟩ := hkid xs[k] (List.getElem_mem hk1)
    obtain ⟨zl, zs, za, zc, zp, hz1, hz2, hz3, hz4⟩ := hgood.get (hmi.mono hMk)
    rw [hkn] at hz1; cases hz1
    refine jd_q rfl rfl rfl (qEq (qLookupV (z := .agg spnZ.toArray) rfl rfl rfl rfl (by kernel_rfl)) (v' := .agg (snc (lv : Int) (.slice za ys0.length zc) zp).toArray) (by rw [hz4]; rfl)) ?_
    refine jd_q rfl rfl rfl (qEq (qFieldA rfl rfl rfl rfl) (v' := .agg #[.int .i64 (lv : Int), .slice za ys0.length zc]) rfl) ?_
    have hzno := ndAt_ok hkn
    have hzkid : 0 < lv → ∀ x ∈ ys0, Good s l x.ref ∧ ∃ ys, ndAt s x.ref.toNat = some ((lv : Int) - 1, ys) := fun h0 x hx => ⟨hgood.kid (hmi.mono hMk) hkn (by omega) hx, by obtain ⟨_, ys, h1, _⟩ := rd_kid hzno hz2 (by omega) hx; exact ⟨ys, h1⟩⟩
    refine jd_eh rfl rfl rfl (hCall rfl rfl rfl rfl rfl (by kernel_rfl) (ih ys0 _ acc vs Rv Mk (hmi.mono hMk) hz3 hzno hzkid hown hacc)) ?_; rintro _ Mn _ ⟨hMn, Rn, rfl, hvp⟩
    refine ⟨hMn, by simp, ?_⟩
    obtain ⟨e, rfl, hvp2⟩ := hvp.form
    refine ep rfl rfl ?_
    refine je_nil ?_
    refine jPn ?_
    refine jT ?_
    refine jc_seq ?_
    refine jc_region ?_
    refine jp rfl ?_
    refine js rfl (fun h34 => ?_) (fun h34 => ?_)
    · refine jl_nil ?_
      refine jT ?_
      refine jc_yes rfl ?_
      refine jc_seq ?_
      refine jc_region ?_
      iterate 2 refine jp rfl ?_
      refine jl_nil ?_
      refine jT ?_
      refine jc_ret ?_
      refine jTr ?_
      refine jTr ?_
      refine jBr ?_
      refine jTr ?_
      refine jTr ?_
      refine jBr ?_
      refine jTr ?_
      refine jq_drop (L' := []) (List.nil_sublist _) ?_
      refine jr1 rfl rfl ?_
      obtain ⟨rfl, hr, _⟩ | ⟨he, _⟩ := hvp2
      · unfold VolsP
        rw [show volsL s next (lv + 1) xs acc0 = none by rw [show volsL s next (lv + 1) xs acc0 = volsGo (fun x acc => volsL s next lv (kid s x) acc) (xs.drop k) acc from hI]; exact volsGo_off hk1 (by rw [kid_eq hkn]; exact hr)]
        exact ⟨rfl, rfl⟩
      · omega
    · refine jl_nil ?_
      refine jT ?_
      refine jc_no rfl ?_
      refine jc_skip ?_
      refine jT ?_
      refine jc_exit ?_
      refine jTx ?_
      refine jBx ?_
      refine jT ?_
      refine jc_region ?_
      refine ja rfl (by omega) ?_
      refine jp rfl ?_
      refine jl_nil ?_
      obtain ⟨he, _⟩ | ⟨_, acc2, vs2, Rv2, hr, rfl, hown2⟩ := hvp2
      · omega
      refine j_again (k + 1, Mn, acc2, vs2, Rv2) (Keep.cons (t := 0) rfl (Keep.cons (t := 4) rfl (Keep.cons (t := 5) rfl (Keep.cons (t := 13) rfl (Keep.cons (t := 14) rfl (Keep.cons (t := 15) rfl Keep.nil)))))) ⟨by show k + 1 ≤ xs.length; omega, hMk.trans hMn, ?_, hown2, volsL_le lv _ _ _ hr hacc⟩ (by show xs.length - (k + 1) < xs.length - k; omega) (fun w h => (h.perm List.perm_append_comm).fewer (.cons _ (.refl _)))
      · show volsGo _ _ _ = volsGo _ _ acc2
        rw [hI]; exact volsGo_on hk1 (by rw [kid_eq hkn]; exact hr)
  · refine jl_nil ?_
    refine jT ?_
    refine jc_seq ?_
    refine jc_no rfl ?_
    refine jc_exit ?_
    refine jTx ?_
    refine jTx ?_
    refine jBx ?_
    refine jT ?_
    refine jc_seq ?_
    refine jc_region ?_
    refine jp rfl ?_
    refine jl_nil ?_
    refine jT ?_
    refine jc_ret ?_
    refine jq_weak (L' := Rv ++ [(cb, .cells (cenL bv wv nv lw pb m refs nodes vs).toArray TCn (0, 0)), (m, vObj l)]) (fun w h => h.fewer (.cons _ (.cons _ (.refl _)))) ?_
    refine jr1 rfl rfl ?_
    unfold VolsP
    rw [show volsL s next (lv + 1) xs acc0 = some acc by rw [show volsL s next (lv + 1) xs acc0 = volsGo _ (xs.drop k) acc from hI]; exact volsGo_end (by omega)]
    exact ⟨rfl, vs, Rv, rfl, hown⟩


theorem vols_spec (s : Sto) (cb m : Nat) (bv wv nv lw pb : Value) (refs nodes : List Int) (hr1 : refs.length = 256) (hn1 : nodes.length = 256) (l : List (Int × Value)) (pb0 pw0 pn0 pl0 : Value) (gen root next : Int) (dv : Value) : ∀ lv : Nat, CenVols s cb m bv wv nv lw pb refs nodes l (poc pb0 pw0 pn0 pl0 gen root next dv) next lv
  | 0 => fun xs sl acc vs Rv M hmi hsl hno _ hown hacc => by
    obtain ⟨a, c, ps, rfl, hc, hs, hp, hb⟩ := hsl
    exact vols_leaf s cb m bv wv nv lw pb refs nodes hr1 hn1 l pb0 pw0 pn0 pl0 gen root next dv xs a c ps acc vs Rv M hmi hc hs hp hb hno hown hacc
  | lv + 1 => fun xs sl acc vs Rv M hmi hsl hno hkid hown hacc => by
    obtain ⟨a, c, ps, rfl, hc, hs, hp, hb⟩ := hsl
    exact vols_node s cb m bv wv nv lw pb refs nodes hr1 hn1 l pb0 pw0 pn0 pl0 gen root next dv lv (vols_spec s cb m bv wv nv lw pb refs nodes hr1 hn1 l pb0 pw0 pn0 pl0 gen root next dv lv) xs a c ps acc vs Rv M hmi hc hs hp hb hno hown hacc
      (fun x hx => by obtain ⟨h1, ys, h2⟩ := hkid (by omega) x hx; exact ⟨h1, ys, by rw [h2]; congr 2; omega⟩)

end Go.Proofs.YtjdmhbenpeedeaaGreat
