/- Walks: the volumes of a pool. -/
import Derived.Test.YtbhkdjheooknfaaGreatZCen
namespace Go.Proofs.YtbhkdjheooknfaaGreat
set_option linter.unusedVariables false
set_option linter.unusedSectionVars false
set_option linter.unusedSimpArgs false
open Go.RowKit
instance (priority := low) Pick.both {R S L L1 L2 : Lc} [h : Pick R L L1] [h2 : Pick S L1 L2] : Pick (R ++ S) L L2 := ⟨h.perm.trans ((List.Perm.append_left R h2.perm).trans (by rw [List.append_assoc]))⟩
abbrev TV : TypeId := 119
abbrev wGe (bv wv nv lw pb : Value) (m : Nat) (refs nodes : List Int) (vs : Value) : List Value := wGy bv wv nv lw pb m (wAw refs ++ (wAw nodes ++ [vs]))
theorem wBc (xs : List Int) : (wAw xs).length = xs.length := by simp [wAw]
section
variable {bv wv nv lw pb vs : Value} {m : Nat} {refs nodes : List Int}
theorem wJk (h1 : refs.length = 256) (h2 : nodes.length = 256) : (wGe bv wv nv lw pb m refs nodes vs).length = 519 := by simp [wBc, h1, h2]
theorem six_get {a b c d e f : Value} {r : List Value} {i j : Nat} (h : j = 6 + i) : (a :: b :: c :: d :: e :: f :: r)[j]? = r[i]? := by subst h; rw [show 6 + i = i + 6 by omega]; rfl
theorem cen_ref (h1 : refs.length = 256) {i j : Nat} (hi : i < 256) (hj : j = 6 + i) : (wGe bv wv nv lw pb m refs nodes vs)[j]? = some (.int .i64 (refs.getD i 0)) := by
 rw [six_get hj, List.getElem?_append_left (by rw [wBc]; omega)]; simp [wAw, List.getD, h1, hi]
theorem cen_nod (h1 : refs.length = 256) (h2 : nodes.length = 256) {i j : Nat} (hi : i < 256) (hj : j = 262 + i) : (wGe bv wv nv lw pb m refs nodes vs)[j]? = some (.int .i64 (nodes.getD i 0)) := by
 rw [six_get (show j = 6 + (256 + i) by omega), List.getElem?_append_right (by rw [wBc]; omega), wBc, show 256 + i - refs.length = i by omega, List.getElem?_append_left (by rw [wBc]; omega)]; simp [wAw, List.getD, h2, hi]
theorem cen_vol (h1 : refs.length = 256) (h2 : nodes.length = 256) : (wGe bv wv nv lw pb m refs nodes vs)[518]? = some vs := by
 rw [six_get (show 518 = 6 + 512 by omega), List.getElem?_append_right (by rw [wBc]; omega), wBc, List.getElem?_append_right (by rw [wBc]; omega), wBc, h1, h2]; rfl
theorem take_set {xs : List Value} {i : Nat} {v : Value} (h : i < xs.length) : xs.take i ++ [v] ++ xs.drop (i + 1) = xs.set i v := by
 rw [List.set_eq_take_append_cons_drop, if_pos h]; simp
theorem six_set {a b c d e f v : Value} {r : List Value} {i j : Nat} (h : j = 6 + i) : (a :: b :: c :: d :: e :: f :: r).set j v = a :: b :: c :: d :: e :: f :: r.set i v := by subst h; rw [show 6 + i = i + 6 by omega]; rfl
theorem cen_setr (h1 : refs.length = 256) (h2 : nodes.length = 256) {i j : Nat} {v : Int} (hi : i < 256) (hj : j = 6 + i) : (wGe bv wv nv lw pb m refs nodes vs).take j ++ [.int .i64 v] ++ (wGe bv wv nv lw pb m refs nodes vs).drop (j + 1) = wGe bv wv nv lw pb m (refs.set i v) nodes vs := by
 rw [take_set (by rw [wJk h1 h2]; omega), six_set hj, List.set_append_left _ _ (by rw [wBc]; omega)]; simp [wAw, List.map_set]
theorem cen_setn (h1 : refs.length = 256) (h2 : nodes.length = 256) {i j : Nat} {v : Int} (hi : i < 256) (hj : j = 262 + i) : (wGe bv wv nv lw pb m refs nodes vs).take j ++ [.int .i64 v] ++ (wGe bv wv nv lw pb m refs nodes vs).drop (j + 1) = wGe bv wv nv lw pb m refs (nodes.set i v) vs := by
 rw [take_set (by rw [wJk h1 h2]; omega), six_set (show j = 6 + (256 + i) by omega), List.set_append_right _ _ (by rw [wBc]; omega), wBc, show 256 + i - refs.length = i by omega, List.set_append_left _ _ (by rw [wBc]; omega)]; simp [wAw, List.map_set]
theorem cen_setv (h1 : refs.length = 256) (h2 : nodes.length = 256) {v : Value} : (wGe bv wv nv lw pb m refs nodes vs).take 518 ++ [v] ++ (wGe bv wv nv lw pb m refs nodes vs).drop (518 + 1) = wGe bv wv nv lw pb m refs nodes v := by
 rw [take_set (by rw [wJk h1 h2]; omega), six_set (show 518 = 6 + 512 by omega), List.set_append_right _ _ (by rw [wBc]; omega), wBc, List.set_append_right _ _ (by rw [wBc]; omega), wBc, h1, h2]; rfl
end
section
variable {P : Program} {ops : Array Oper} {N : Fs} {F : Fr} {E : Ent} {M : Mem} {L : Lc} {o : Oper}
theorem hSt1 {t e : TypeId} {x y : Operand} {b off by_ : Nat} {u : Value} {l l2 : List Value} {L' : Lc} {z : List Value} (hg : gd ops F o = some true) (ho : o.op = .store t x y) (hx : ev F x = some (.pointer (some ⟨b, off, none⟩))) (hy : ev F y = some u)
  [hl : Lay P t 1 by_ z] (hc : u.cells = #[u]) (h1 : u.oneCell' = true) [at_ : At b (.cells l.toArray e (0, 0)) L] (hfit : off < l.length) (h2 : l.take off ++ [u] ++ l.drop (off + 1) = l2)
  [hp : PutAt b (.cells l.toArray e (0, 0)) (.cells l2.toArray e (0, 0)) L L'] : HF P ops N F E M L o (fun _ M' L'' => M = M' ∧ L'' = L') := by
 subst h2
 exact hStore (hp := hp) hg ho hx hy hc rfl (fun v hv => by rw [List.mem_singleton.1 hv]; exact h1) (by show off + 1 ≤ _; omega)
end
def okV (x : It) (next : Int) (n : Nat) : Prop := wCy x ∧ x.key.id ≠ 0 ∧ x.key.id < next ∧ n ≠ 16
instance (x : It) (next : Int) (n : Nat) : Decidable (okV x next n) := by unfold okV; exact inferInstance
def wBt (f : It → List Vo → Option (List Vo)) : List It → List Vo → Option (List Vo)
 | [], acc => some acc
 | x :: xs, acc => match f x acc with
  | some acc' => wBt f xs acc'
  | none => none
def vol1 (next : Int) (x : It) (acc : List Vo) : Option (List Vo) := if okV x next acc.length then some (acc ++ [wCm x]) else none
def wDx (s : Sto) (next : Int) : Nat → List It → List Vo → Option (List Vo)
 | 0 => wBt (vol1 next)
 | l + 1 => wBt (fun x acc => wDx s next l (kid s x) acc)
theorem volsGo_on {f : It → List Vo → Option (List Vo)} {xs : List It} {k : Nat} {acc acc' : List Vo} (hk : k < xs.length) (h : f xs[k] acc = some acc') : wBt f (xs.drop k) acc = wBt f (xs.drop (k + 1)) acc' := by
 rw [List.drop_eq_getElem_cons hk, wBt, h]
theorem wGf {f : It → List Vo → Option (List Vo)} {xs : List It} {k : Nat} {acc : List Vo} (hk : k < xs.length) (h : f xs[k] acc = none) : wBt f (xs.drop k) acc = none := by
 rw [List.drop_eq_getElem_cons hk, wBt, h]
theorem volsGo_end {f : It → List Vo → Option (List Vo)} {xs : List It} {k : Nat} {acc : List Vo} (hk : k = xs.length) : wBt f (xs.drop k) acc = some acc := by
 rw [List.drop_eq_nil_of_le (by omega), wBt]
abbrev poc (bv wv nv lw : Value) (gen root next : Int) (dv : Value) : List Value := [bv, wv, nv, lw, .int .u32 gen, .int .i64 root, .int .u32 next, dv]
def Good (s : Sto) (l : List (Int × Value)) (k : Int) : Prop := 8 ≤ k ∧ k < 256 ∧ (wGr k l).isSome = true ∧ ∃ lv xs, wCu s k.toNat = some (lv, xs) ∧ (wEb s lv xs).is = true
theorem Good.get {M : Mem} {s : Sto} {l : List (Int × Value)} {k : Int} (h : Good s l k) (hm : MapI M s l) : ∃ lv xs a c p, wCu s k.toNat = some (lv, xs) ∧ (wEb s lv xs).is = true ∧ NS M (.slice a xs.length c) xs ∧ wGr k l = some (.agg (snc lv (.slice a xs.length c) p).toArray) := by
 obtain ⟨h1, h2, h3, lv, xs, h4, h5⟩ := h
 obtain ⟨v, hv⟩ := Option.isSome_iff_exists.1 h3
 obtain ⟨_, _, lv2, xs2, sl, h6, h7, rfl⟩ := hm.ent k v hv
 rw [h4] at h6; cases h6
 obtain ⟨a, c, ps, rfl, _⟩ := id h7
 exact ⟨lv, xs, a, c, _, h4, h5, h7, hv⟩
theorem rd_kid {s : Sto} {lv : Int} {xs : List It} (hno : NdOk lv xs) (h : (wEb s lv xs).is = true) (h0 : 0 < lv) {x : It} (hx : x ∈ xs) : (8 ≤ x.ref ∧ x.ref < 256) ∧ ∃ ys, wCu s x.ref.toNat = some (lv - 1, ys) ∧ ys ≠ [] ∧ (wEb s (lv - 1) ys).is = true := by
 have hne : xs ≠ [] := List.ne_nil_of_mem hx
 unfold wEb at h
 rw [if_neg hne] at h
 obtain ⟨n, rfl⟩ : ∃ n : Nat, lv = ((n + 1 : Nat) : Int) := ⟨(lv - 1).toNat, by omega⟩
 rw [Int.toNat_natCast] at h
 have h1 := (goSp_all h x hx).1
 obtain ⟨ys, h2, h3, h4⟩ := one_up h1
 have hr := hno.ref x hx
 have hu := hno.up h0 x hx
 refine ⟨by omega, ys, by rw [h2]; congr 2; omega, h3, ?_⟩
 unfold wEb
 rw [if_neg h3, show (((n + 1 : Nat) : Int) - 1).toNat = n by omega, ← h4]; exact h1
theorem Good.kid {M : Mem} {s : Sto} {l : List (Int × Value)} {k lv : Int} {xs : List It} (h : Good s l k) (hm : MapI M s l) (hnd : wCu s k.toNat = some (lv, xs)) (h0 : 0 < lv) {x : It} (hx : x ∈ xs) : Good s l x.ref := by
 obtain ⟨h1, h2, h3, lv2, xs2, h4, h5⟩ := h
 rw [hnd] at h4; cases h4
 obtain ⟨h6, ys, h7, _, h8⟩ := rd_kid (wBy hnd) h5 h0 hx
 exact ⟨h6.1, h6.2, hm.kid k lv xs h3 hnd h5 h0 x hx, _, ys, h7, h8⟩
def VolsP (s : Sto) (cb m : Nat) (bv wv nv lw pb : Value) (refs nodes : List Int) (l : List (Int × Value)) (r : Option (List Vo)) (u : Value) (L' : Lc) : Prop := match r with
 | none => u = .int .i64 8 ∧ L' = []
 | some acc => u = .int .i64 0 ∧ ∃ vs Rv, L' = Rv ++ [(cb, .cells (wGe bv wv nv lw pb m refs nodes vs).toArray TCn (0, 0)), (m, wDh l)] ∧ Own vs Rv TV 4 acc.length (acc.flatMap voc)
def CenVols (s : Sto) (cb m : Nat) (bv wv nv lw pb : Value) (refs nodes : List Int) (l : List (Int × Value)) (pv : List Value) (next : Int) (lv : Nat) : Prop := ∀ (xs : List It) (sl : Value) (acc : List Vo) (vs : Value) (Rv : Lc) (M : Mem), MapI M s l → NS M sl xs → NdOk (lv : Int) xs → (0 < lv → ∀ x ∈ xs, Good s l x.ref ∧ ∃ ys, wCu s x.ref.toNat = some ((lv : Int) - 1, ys)) → Own vs Rv TV 4 acc.length (acc.flatMap voc) → acc.length ≤ 16 →
 SpecL Tryz.prog 68 #[.pointer (some ⟨cb, 0, none⟩), .agg pv.toArray, .agg #[.int .i64 lv, sl]] M (Rv ++ [(cb, .cells (wGe bv wv nv lw pb m refs nodes vs).toArray TCn (0, 0)), (m, wDh l)])
  fun u M' L' => VolsP s cb m bv wv nv lw pb refs nodes l (wDx s next lv xs acc) u L'
theorem VolsP.form {s : Sto} {cb m : Nat} {bv wv nv lw pb : Value} {refs nodes : List Int} {l : List (Int × Value)} {r : Option (List Vo)} {u : Value} {L' : Lc} (h : VolsP s cb m bv wv nv lw pb refs nodes l r u L') : ∃ e, u = .int .i64 e ∧ ((e = 8 ∧ r = none ∧ L' = []) ∨ (e = 0 ∧ ∃ acc vs Rv, r = some acc ∧ L' = Rv ++ [(cb, .cells (wGe bv wv nv lw pb m refs nodes vs).toArray TCn (0, 0)), (m, wDh l)] ∧ Own vs Rv TV 4 acc.length (acc.flatMap voc))) := by
 unfold VolsP at h
 split at h
 ·exact ⟨8, h.1, .inl ⟨rfl, rfl, h.2⟩⟩
 rename_i acc
 obtain ⟨h1, vs, Rv, h2, h3⟩ := h
 exact ⟨0, h1, .inr ⟨rfl, acc, vs, Rv, rfl, h2, h3⟩⟩
theorem kid_eq {s : Sto} {x : It} {lv : Int} {ys : List It} (h : wCu s x.ref.toNat = some (lv, ys)) : kid s x = ys := by unfold kid; rw [h]
theorem volsGo_le {f : It → List Vo → Option (List Vo)} (hf : ∀ x acc acc', f x acc = some acc' → acc.length ≤ 16 → acc'.length ≤ 16) : ∀ (xs : List It) (acc acc' : List Vo), wBt f xs acc = some acc' → acc.length ≤ 16 → acc'.length ≤ 16
 | [], acc, acc', h, hl => by cases h; exact hl
 | x :: xs, acc, acc', h, hl => by
  unfold wBt at h
  split at h
  ·rename_i b hb; exact volsGo_le hf xs b acc' h (hf x acc b hb hl)
  cases h
theorem volsL_le {s : Sto} {next : Int} : ∀ (l : Nat) (xs : List It) (acc acc' : List Vo), wDx s next l xs acc = some acc' → acc.length ≤ 16 → acc'.length ≤ 16
 | 0 => volsGo_le fun x acc acc' h hl => by
  unfold vol1 at h
  split at h
  ·rename_i hk; cases h; have := hk.2.2.2; rw [List.length_append, List.length_cons, List.length_nil]; omega
  cases h
 | l + 1 => volsGo_le fun x acc acc' h hl => volsL_le l _ acc acc' h hl
set_option maxHeartbeats 4000000 in
theorem vols_leaf (s : Sto) (cb m : Nat) (bv wv nv lw pb : Value) (refs nodes : List Int) (hr1 : refs.length = 256) (hn1 : nodes.length = 256) (l : List (Int × Value)) (pb0 pw0 pn0 pl0 : Value) (gen root next : Int) (dv : Value) (xs : List It) (a : Option Addr) (c : Nat) (ps : List (It × Value)) (acc0 : List Vo) (vs0 : Value) (Rv0 : Lc) (M : Mem) (hmi : MapI M s l) (hc : xs.length ≤ c) (hs : SM M a (ps.flatMap wCp)) (hp : ps.map (·.1) = xs) (hb : ∀ p ∈ ps, BS M p.2 p.1.val) (hno : NdOk ((0 : Nat) : Int) xs) (hown0 : Own vs0 Rv0 TV 4 acc0.length (acc0.flatMap voc)) (hacc0 : acc0.length ≤ 16) :
  SpecL Tryz.prog 68 #[.pointer (some ⟨cb, 0, none⟩), .agg (poc pb0 pw0 pn0 pl0 gen root next dv).toArray, .agg #[.int .i64 ((0 : Nat) : Int), .slice a xs.length c]] M (Rv0 ++ [(cb, .cells (wGe bv wv nv lw pb m refs nodes vs0).toArray TCn (0, 0)), (m, wDh l)]) fun u M' L' => VolsP s cb m bv wv nv lw pb refs nodes l (wDx s next 0 xs acc0) u L' := by
 have hlv := hno.lev
 have hlen := hno.len
 refine wAe (vs := [_, _, _]) 74 _ Tryz.func68 rfl Tryz.ntmps68 rfl rfl ?_; intro W
 refine wAb (wAa (wAv rfl rfl (wBw (cs := [_, _, _, _, _, _, _, _]) rfl rfl rfl rfl) ?_)); rintro _ _ _ ⟨b4, rfl, rfl, rfl⟩
 refine wAv rfl rfl (wBw (cs := [_, _]) rfl rfl rfl rfl) ?_; rintro _ _ _ ⟨b5, rfl, rfl, rfl⟩
 refine jp rfl (wAc (jT (wAb (wAb (wAa (sFL rfl rfl ?_))))))
 refine wAi rfl rfl (wBe rfl rfl rfl) ?_
 refine jp rfl (wAc (jT (wAh ?_)))
 refine wAo (α := Nat × Mem × List Vo × Value × Lc) (fun x => [(0, .pointer (some ⟨cb, 0, none⟩)), (4, .pointer (some ⟨b4, 0, none⟩)), (5, .pointer (some ⟨b5, 0, none⟩)), (13, .slice a xs.length c), (14, .int .i64 xs.length), (15, .int .i64 x.1)]) (fun x => x.2.1) (fun x => ([(b5, .cells [.int .i64 ((0 : Nat) : Int), .slice a xs.length c].toArray TNd (0, 0)), (b4, .cells (poc pb0 pw0 pn0 pl0 gen root next dv).toArray 32 (0, 0))] ++ (x.2.2.2.2 ++ [(cb, .cells (wGe bv wv nv lw pb m refs nodes x.2.2.2.1).toArray TCn (0, 0)), (m, wDh l)]))) (fun x => x.1 ≤ xs.length ∧ MLe M x.2.1 ∧ wBt (vol1 next) xs acc0 = wBt (vol1 next) (xs.drop x.1) x.2.2.1 ∧ Own x.2.2.2.1 x.2.2.2.2 TV 4 x.2.2.1.length (x.2.2.1.flatMap voc) ∧ x.2.2.1.length ≤ 16) (fun x => xs.length - x.1)
  (0, M, acc0, vs0, Rv0) (.cons (t := 0) rfl (.cons (t := 4) rfl (.cons (t := 5) rfl (.cons (t := 13) rfl (.cons (t := 14) rfl (.cons (t := 15) rfl .nil)))))) ⟨Nat.zero_le _, MLe.refl _, rfl, hown0, hacc0⟩ (fun _ h => h) ?_
 rintro ⟨k, Mk, acc, vs, Rv⟩ ⟨hk, hMk, hI, hown, hacc⟩
 try dsimp only at hk hMk hI hown hacc ⊢
 simp only [List.cons_append, List.nil_append]
 have hsk := hs.mono hMk
 have hbk := fun p hp => (hb p hp).mono hMk
 refine wAb (wAa (js rfl (fun h16 => ?_) (fun h16 => ?_)))
 ·refine wAc (jT (wAb (wAg rfl (wAd (jT (wAb (wAh (wAb (wAa ?_)))))))))
  have hk1 : k < xs.length := by omega
  obtain ⟨sb, so, e0, hx⟩ := hsk.open (by intro e; have := congrArg List.length e; rw [wBm wCp 5 wCw, List.length_nil] at this; have h2 := congrArg List.length hp; rw [List.length_map] at h2; omega)
  subst e0
  obtain ⟨va, vc, hcl, hvc, hvs⟩ := wCh hx hp hbk hk1
  refine wAi rfl rfl (wBb rfl rfl rfl rfl (by omega)) ?_
  refine wAi rfl rfl (wGp (cs := itc xs[k] va vc) rfl rfl rfl rfl rfl (fun i v hv => (hcl i v hv).cj _)) ?_
  refine sAl rfl fun b8 => ?_
  refine sSt rfl ?_
  refine wAc (jT (wAb (wAb (wAa (sFL rfl rfl ?_)))))
  refine jf rfl (decide_eq_false (by omega)) ?_
  refine wAc (jT (wAk rfl (wAd (jT (wAb (wAa (sLL rfl ?_)))))))
  have hvl : xs[k].val.length ≤ 1000000 := by
   have h1 := (wEm hno.ok xs[k] (List.getElem_mem hk1)).1
   unfold wDq at h1
   have := of_decide_eq_false h1; omega
  refine wAv rfl rfl (wAt rfl rfl rfl rfl rfl (by kernel_rfl) (volume_spec xs[k] va vc Mk hvc hvs hvl)) ?_; rintro _ Mn _ ⟨hMn, _, rfl, ⟨⟨v, rfl, hvo⟩, rfl⟩⟩
  simp only [nA]
  refine jp rfl (jp rfl (jsb rfl (fun h40 => ?_) (fun h40 => ?_)))
  ·refine sAl rfl fun b10 => ?_
   refine sSt rfl ?_
   refine jp rfl (wAc (jT (wAb (wAb (wAa (jp rfl (jp rfl (jp rfl (sFL rfl rfl ?_)))))))))
   refine js rfl (fun h46 => ?_) (fun h46 => ?_)
   ·iterate 16 refine jp rfl ?_
    refine wAc (jT (wAg rfl (wAb (wAa (jp rfl (wAc (jT (wAf (jTr (jBr (jTr (jTr (jBr (jTr (wAu (L' := []) (List.nil_sublist _) ?_)))))))))))))))
    refine jr1 rfl rfl ?_
    have hno : ¬ okV xs[k] next acc.length := by intro hh; rw [hvo (of_decide_eq_true h40)] at h46; exact hh.2.1 h46
    unfold VolsP
    rw [show wDx s next 0 xs acc0 = none by rw [show wDx s next 0 xs acc0 = wBt (vol1 next) (xs.drop k) acc from hI]; exact wGf hk1 (by unfold vol1; rw [if_neg hno])]
    exact ⟨rfl, rfl⟩
   refine jp rfl (jp rfl (sFL rfl rfl ?_))
   refine sFL rfl rfl ?_
   refine js rfl (fun h53 => ?_) (fun h53 => ?_)
   ·iterate 9 refine jp rfl ?_
    refine wAc (jT (wAg rfl (wAb (wAa (jp rfl (wAc (jT (wAf (jTr (jBr (jTr (jTr (jBr (jTr (wAu (L' := []) (List.nil_sublist _) ?_)))))))))))))))
    refine jr1 rfl rfl ?_
    have hno : ¬ okV xs[k] next acc.length := by intro hh; rw [hvo (of_decide_eq_true h40)] at h53; have h1 : (wCm xs[k]).id = xs[k].key.id := rfl; have := hh.2.2.1; omega
    unfold VolsP
    rw [show wDx s next 0 xs acc0 = none by rw [show wDx s next 0 xs acc0 = wBt (vol1 next) (xs.drop k) acc from hI]; exact wGf hk1 (by unfold vol1; rw [if_neg hno])]
    exact ⟨rfl, rfl⟩
   refine jp rfl (jp rfl (jp rfl (wAi rfl rfl (wAx rfl rfl rfl) ?_)))
   refine sFa rfl ?_
   obtain ⟨va1, vc1, rfl⟩ := hown.form
   refine wAi rfl rfl (qLd rfl rfl rfl rfl (CJ.loc (cen_vol hr1 hn1))) ?_
   refine wAi rfl rfl (wBe rfl rfl rfl) ?_
   refine js rfl (fun h61 => ?_) (fun h61 => ?_)
   ·refine jp rfl (wAc (jT (wAg rfl (wAb (wAa (jp rfl (wAc (jT (wAf (jTr (jBr (jTr (jTr (jBr (jTr (wAu (L' := []) (List.nil_sublist _) ?_))))))))))))))))
    refine jr1 rfl rfl ?_
    have hno : ¬ okV xs[k] next acc.length := by intro hh; exact hh.2.2.2 (by omega)
    unfold VolsP
    rw [show wDx s next 0 xs acc0 = none by rw [show wDx s next 0 xs acc0 = wBt (vol1 next) (xs.drop k) acc from hI]; exact wGf hk1 (by unfold vol1; rw [if_neg hno])]
    exact ⟨rfl, rfl⟩
   refine jp rfl (wAc (jT (wAk rfl (wAd (jT (wBj (p := { A := fun i => !([10].contains i), U := fun i => !([10].contains i) }) [(0, true), (1, true), (2, true), (3, true), (4, true), (5, true), (6, false), (7, false), (8, true), (9, true), (10, false)] Mn ([(b10, .cells (voc v).toArray TV (0, 0)), (cb, .cells (wGe bv wv nv lw pb m refs nodes (.slice va1 acc.length vc1)).toArray TCn (0, 0))]) ([]) (by kernel_rfl) (by kernel_rfl) (by kernel_rfl) (by kernel_rfl) rfl (by simp) (MLe.refl _) (by simp) ?_))))))
   iterate 2 refine dp rfl rfl ?_
   refine wBh rfl rfl rfl (wAx rfl rfl rfl) ?_
   refine dFa rfl rfl ?_
   refine wBh rfl rfl rfl (qLd rfl rfl rfl rfl (CJ.loc (cen_vol hr1 hn1))) ?_
   refine dLL rfl rfl ?_
   refine wDy rfl rfl rfl (wAr (cs := [_, _, _, _]) rfl rfl rfl (by rfl) (by rfl) (by rfl)) ?_; rintro _ _ _ ⟨b69, rfl, rfl, rfl⟩
   refine wGa (MLe.refl _) (fun _ h => List.mem_cons_of_mem _ h) (by first | exact MLe.refl _ | assumption) (by simp) ?_
   refine wDy rfl rfl rfl (wCr (R := Rv) (m := 1) rfl rfl rfl rfl hown rfl (fun i v hv => CJ.loc (by simpa using hv)) rfl (by rfl) (by simp [Value.oneCell']) (by omega) (by omega)) ?_; rintro vs2 _ _ ⟨rfl, Rv2, rfl, hown2, _⟩
   refine ⟨_, _, MLe.refl _, MLe.refl _, fun _ h => h, by simp, ?_⟩
   obtain ⟨va2, vc2, rfl⟩ := hown2.form
   refine wBh rfl rfl rfl (wAx rfl rfl rfl) ?_
   refine dFa rfl rfl ?_
   refine jd_e rfl rfl (hSt1 rfl rfl rfl rfl rfl rfl (by rw [wJk hr1 hn1]; decide) (cen_setv hr1 hn1)) ?_; rintro _ _ _ ⟨rfl, rfl⟩
   refine ⟨MLe.refl _, by simp, ?_⟩
   refine wCn ?_
   refine jPn (jB (jT (wAa (ja rfl (by omega) ?_))))
   refine jp rfl (wAc ?_)
   have hok : okV xs[k] next acc.length := ⟨of_decide_eq_true h40, fun e => h46 (by rw [hvo (of_decide_eq_true h40)]; exact e), by have := hvo (of_decide_eq_true h40); rw [this] at h53; show xs[k].key.id < next; have : (wCm xs[k]).id = xs[k].key.id := rfl; omega, fun e => h61 (by omega)⟩
   have hv := hvo (of_decide_eq_true h40)
   subst hv
   refine wAn (k + 1, Mn, acc ++ [wCm xs[k]], .slice va2 (acc.length + 1) vc2, Rv2) (.cons (t := 0) rfl (.cons (t := 4) rfl (.cons (t := 5) rfl (.cons (t := 13) rfl (.cons (t := 14) rfl (.cons (t := 15) rfl .nil)))))) ⟨by show k + 1 ≤ xs.length; omega, hMk.trans hMn, ?_, ?_, ?_⟩ (by show xs.length - (k + 1) < xs.length - k; omega) (fun w h => (h.perm (List.perm_append_comm_assoc Rv2 [_, _, _, _, _] [_, _])).fewer (.cons _ (.cons _ (.cons _ (.refl _)))))
   ·show wBt _ _ _ = wBt _ _ (acc ++ [wCm xs[k]])
    rw [hI]; exact volsGo_on hk1 (by unfold vol1; rw [if_pos hok])
   ·show Own _ _ _ _ (acc ++ [wCm xs[k]]).length ((acc ++ [wCm xs[k]]).flatMap voc)
    rw [List.length_append, List.flatMap_append]; simpa using hown2
   show (acc ++ [wCm xs[k]]).length ≤ 16
   rw [List.length_append, List.length_cons, List.length_nil]; have := hok.2.2.2; omega
  refine sAl rfl fun b10 => ?_
  refine sSt rfl ?_
  refine jp rfl (wAc (jT (wAb (wAb (wAa ?_)))))
  iterate 22 refine jp rfl ?_
  refine wAc (jT (wAg rfl (wAb (wAa (jp rfl (wAc (jT (wAf (jTr (jBr (jTr (jTr (jBr (jTr (wAu (L' := []) (List.nil_sublist _) ?_)))))))))))))))
  refine jr1 rfl rfl ?_
  have hno : ¬ okV xs[k] next acc.length := by intro hh; have h := hh.1; rw [decide_eq_true h] at h40; cases h40
  unfold VolsP
  rw [show wDx s next 0 xs acc0 = none by rw [show wDx s next 0 xs acc0 = wBt (vol1 next) (xs.drop k) acc from hI]; exact wGf hk1 (by unfold vol1; rw [if_neg hno])]
  exact ⟨rfl, rfl⟩
 refine wAc (jT (wAb (wAk rfl (wAs (jTx (jTx (jBx (jT (wAb (wAa (jp rfl (wAc (jT (wAf (wJj (L' := Rv ++ [(cb, .cells (wGe bv wv nv lw pb m refs nodes vs).toArray TCn (0, 0)), (m, wDh l)]) (fun w h => h.fewer (.cons _ (.cons _ (.refl _)))) ?_)))))))))))))))
 refine jr1 rfl rfl ?_
 unfold VolsP
 rw [show wDx s next 0 xs acc0 = some acc by rw [show wDx s next 0 xs acc0 = wBt _ (xs.drop k) acc from hI]; exact volsGo_end (by omega)]
 exact ⟨rfl, vs, Rv, rfl, hown⟩
set_option maxHeartbeats 4000000 in
theorem vols_node (s : Sto) (cb m : Nat) (bv wv nv lw pb : Value) (refs nodes : List Int) (hr1 : refs.length = 256) (hn1 : nodes.length = 256) (l : List (Int × Value)) (pb0 pw0 pn0 pl0 : Value) (gen root next : Int) (dv : Value) (lv : Nat) (ih : CenVols s cb m bv wv nv lw pb refs nodes l (poc pb0 pw0 pn0 pl0 gen root next dv) next lv) (xs : List It) (a : Option Addr) (c : Nat) (ps : List (It × Value)) (acc0 : List Vo) (vs0 : Value) (Rv0 : Lc) (M : Mem) (hmi : MapI M s l) (hc : xs.length ≤ c) (hs : SM M a (ps.flatMap wCp)) (hp : ps.map (·.1) = xs) (hb : ∀ p ∈ ps, BS M p.2 p.1.val) (hno : NdOk ((lv + 1 : Nat) : Int) xs) (hown0 : Own vs0 Rv0 TV 4 acc0.length (acc0.flatMap voc)) (hacc0 : acc0.length ≤ 16) (hkid : ∀ x ∈ xs, Good s l x.ref ∧ ∃ ys, wCu s x.ref.toNat = some ((lv : Int), ys)) :
  SpecL Tryz.prog 68 #[.pointer (some ⟨cb, 0, none⟩), .agg (poc pb0 pw0 pn0 pl0 gen root next dv).toArray, .agg #[.int .i64 ((lv + 1 : Nat) : Int), .slice a xs.length c]] M (Rv0 ++ [(cb, .cells (wGe bv wv nv lw pb m refs nodes vs0).toArray TCn (0, 0)), (m, wDh l)]) fun u M' L' => VolsP s cb m bv wv nv lw pb refs nodes l (wDx s next (lv + 1) xs acc0) u L' := by
 have hlv := hno.lev
 have hlen := hno.len
 refine wAe (vs := [_, _, _]) 74 _ Tryz.func68 rfl Tryz.ntmps68 rfl rfl ?_; intro W
 refine wAb (wAa (wAv rfl rfl (wBw (cs := [_, _, _, _, _, _, _, _]) rfl rfl rfl rfl) ?_)); rintro _ _ _ ⟨b4, rfl, rfl, rfl⟩
 refine wAv rfl rfl (wBw (cs := [_, _]) rfl rfl rfl rfl) ?_; rintro _ _ _ ⟨b5, rfl, rfl, rfl⟩
 refine jp rfl (wAc (jT (wAb (wAb (wAa (sFL rfl rfl ?_))))))
 refine wAi rfl rfl (wBe rfl rfl rfl) ?_
 refine jp rfl (wAc (jT (wAh ?_)))
 refine wAo (α := Nat × Mem × List Vo × Value × Lc) (fun x => [(0, .pointer (some ⟨cb, 0, none⟩)), (4, .pointer (some ⟨b4, 0, none⟩)), (5, .pointer (some ⟨b5, 0, none⟩)), (13, .slice a xs.length c), (14, .int .i64 xs.length), (15, .int .i64 x.1)]) (fun x => x.2.1) (fun x => ([(b5, .cells [.int .i64 ((lv + 1 : Nat) : Int), .slice a xs.length c].toArray TNd (0, 0)), (b4, .cells (poc pb0 pw0 pn0 pl0 gen root next dv).toArray 32 (0, 0))] ++ (x.2.2.2.2 ++ [(cb, .cells (wGe bv wv nv lw pb m refs nodes x.2.2.2.1).toArray TCn (0, 0)), (m, wDh l)]))) (fun x => x.1 ≤ xs.length ∧ MLe M x.2.1 ∧ wBt (fun x acc => wDx s next lv (kid s x) acc) xs acc0 = wBt (fun x acc => wDx s next lv (kid s x) acc) (xs.drop x.1) x.2.2.1 ∧ Own x.2.2.2.1 x.2.2.2.2 TV 4 x.2.2.1.length (x.2.2.1.flatMap voc) ∧ x.2.2.1.length ≤ 16) (fun x => xs.length - x.1)
  (0, M, acc0, vs0, Rv0) (.cons (t := 0) rfl (.cons (t := 4) rfl (.cons (t := 5) rfl (.cons (t := 13) rfl (.cons (t := 14) rfl (.cons (t := 15) rfl .nil)))))) ⟨Nat.zero_le _, MLe.refl _, rfl, hown0, hacc0⟩ (fun _ h => h) ?_
 rintro ⟨k, Mk, acc, vs, Rv⟩ ⟨hk, hMk, hI, hown, hacc⟩
 try dsimp only at hk hMk hI hown hacc ⊢
 simp only [List.cons_append, List.nil_append]
 have hsk := hs.mono hMk
 have hbk := fun p hp => (hb p hp).mono hMk
 refine wAb (wAa (js rfl (fun h16 => ?_) (fun h16 => ?_)))
 ·refine wAc (jT (wAb (wAg rfl (wAd (jT (wAb (wAh (wAb (wAa ?_)))))))))
  have hk1 : k < xs.length := by omega
  obtain ⟨sb, so, e0, hx⟩ := hsk.open (by intro e; have := congrArg List.length e; rw [wBm wCp 5 wCw, List.length_nil] at this; have h2 := congrArg List.length hp; rw [List.length_map] at h2; omega)
  subst e0
  obtain ⟨va, vc, hcl, hvc, hvs⟩ := wCh hx hp hbk hk1
  refine wAi rfl rfl (wBb rfl rfl rfl rfl (by omega)) ?_
  refine wAi rfl rfl (wGp (cs := itc xs[k] va vc) rfl rfl rfl rfl rfl (fun i v hv => (hcl i v hv).cj _)) ?_
  refine sAl rfl fun b8 => ?_
  refine sSt rfl ?_
  refine wAc (jT (wAb (wAb (wAa (sFL rfl rfl ?_)))))
  refine jt rfl (decide_eq_true (by omega)) ?_
  refine wAc (jT (wAg rfl (wAb (wAb (wBj (p := { A := fun i => !([10].contains i), U := fun i => !([10, 11].contains i) }) [(0, true), (1, true), (2, true), (3, true), (4, true), (5, true), (6, true), (7, true), (8, true), (9, true), (10, false), (11, true)] Mk ([(b8, .cells (itc xs[k] va vc).toArray IT (0, 0)), (b4, .cells (poc pb0 pw0 pn0 pl0 gen root next dv).toArray 32 (0, 0)), (cb, .cells (wGe bv wv nv lw pb m refs nodes vs).toArray TCn (0, 0)), (m, wDh l)]) ([]) (by kernel_rfl) (by kernel_rfl) (by kernel_rfl) (by kernel_rfl) rfl (by simp) (MLe.refl _) (by simp) ?_)))))
  refine dp rfl rfl ?_
  refine dLL rfl rfl ?_
  refine dp rfl rfl ?_
  refine wBh rfl rfl rfl (wAx rfl rfl rfl) ?_
  refine dFa rfl rfl ?_
  refine dLd rfl rfl ?_
  refine dFa rfl rfl ?_
  refine dLd rfl rfl ?_
  obtain ⟨hgood, ys0, hkn⟩ := hkid xs[k] (List.getElem_mem hk1)
  obtain ⟨zl, zs, za, zc, zp, hz1, hz2, hz3, hz4⟩ := hgood.get (hmi.mono hMk)
  rw [hkn] at hz1; cases hz1
  refine wBh rfl rfl rfl (qEq (qLookupV (z := .agg spnZ.toArray) rfl rfl rfl rfl (by kernel_rfl)) (v' := .agg (snc (lv : Int) (.slice za ys0.length zc) zp).toArray) (by rw [hz4]; rfl)) ?_
  refine wBh rfl rfl rfl (qEq (qFieldA rfl rfl rfl rfl) (v' := .agg #[.int .i64 (lv : Int), .slice za ys0.length zc]) rfl) ?_
  have hzno := wBy hkn
  have hzkid : 0 < lv → ∀ x ∈ ys0, Good s l x.ref ∧ ∃ ys, wCu s x.ref.toNat = some ((lv : Int) - 1, ys) := fun h0 x hx => ⟨hgood.kid (hmi.mono hMk) hkn (by omega) hx, by obtain ⟨_, ys, h1, _⟩ := rd_kid hzno hz2 (by omega) hx; exact ⟨ys, h1⟩⟩
  refine jd_eh rfl rfl rfl (wAt rfl rfl rfl rfl rfl (by kernel_rfl) (ih ys0 _ acc vs Rv Mk (hmi.mono hMk) hz3 hzno hzkid hown hacc)) ?_; rintro _ Mn _ ⟨hMn, Rn, rfl, hvp⟩
  refine ⟨hMn, by simp, ?_⟩
  obtain ⟨e, rfl, hvp2⟩ := hvp.form
  refine ep rfl rfl ?_
  refine wCn ?_
  refine jPn (jT (wAb (wAa (jp rfl (js rfl (fun h34 => ?_) (fun h34 => ?_))))))
  ·refine wAc (jT (wAg rfl (wAb (wAa (jp rfl (jp rfl (wAc (jT (wAf (jTr (jTr (jBr (jTr (jTr (jBr (jTr (wAu (L' := []) (List.nil_sublist _) ?_)))))))))))))))))
   refine jr1 rfl rfl ?_
   obtain ⟨rfl, hr, _⟩ | ⟨he, _⟩ := hvp2
   ·unfold VolsP
    rw [show wDx s next (lv + 1) xs acc0 = none by rw [show wDx s next (lv + 1) xs acc0 = wBt (fun x acc => wDx s next lv (kid s x) acc) (xs.drop k) acc from hI]; exact wGf hk1 (by rw [kid_eq hkn]; exact hr)]
    exact ⟨rfl, rfl⟩
   omega
  refine wAc (jT (wAk rfl (wAd (jT (wAs (jTx (jBx (jT (wAa (ja rfl (by omega) ?_))))))))))
  refine jp rfl (wAc ?_)
  obtain ⟨he, _⟩ | ⟨_, acc2, vs2, Rv2, hr, rfl, hown2⟩ := hvp2
  ·omega
  refine wAn (k + 1, Mn, acc2, vs2, Rv2) (.cons (t := 0) rfl (.cons (t := 4) rfl (.cons (t := 5) rfl (.cons (t := 13) rfl (.cons (t := 14) rfl (.cons (t := 15) rfl .nil)))))) ⟨by show k + 1 ≤ xs.length; omega, hMk.trans hMn, ?_, hown2, volsL_le lv _ _ _ hr hacc⟩ (by show xs.length - (k + 1) < xs.length - k; omega) (fun w h => (h.perm List.perm_append_comm).fewer (.cons _ (.refl _)))
  show wBt _ _ _ = wBt _ _ acc2
  rw [hI]; exact volsGo_on hk1 (by rw [kid_eq hkn]; exact hr)
 refine wAc (jT (wAb (wAk rfl (wAs (jTx (jTx (jBx (jT (wAb (wAa (jp rfl (wAc (jT (wAf (wJj (L' := Rv ++ [(cb, .cells (wGe bv wv nv lw pb m refs nodes vs).toArray TCn (0, 0)), (m, wDh l)]) (fun w h => h.fewer (.cons _ (.cons _ (.refl _)))) ?_)))))))))))))))
 refine jr1 rfl rfl ?_
 unfold VolsP
 rw [show wDx s next (lv + 1) xs acc0 = some acc by rw [show wDx s next (lv + 1) xs acc0 = wBt _ (xs.drop k) acc from hI]; exact volsGo_end (by omega)]
 exact ⟨rfl, vs, Rv, rfl, hown⟩
theorem vols_spec (s : Sto) (cb m : Nat) (bv wv nv lw pb : Value) (refs nodes : List Int) (hr1 : refs.length = 256) (hn1 : nodes.length = 256) (l : List (Int × Value)) (pb0 pw0 pn0 pl0 : Value) (gen root next : Int) (dv : Value) : ∀ lv : Nat, CenVols s cb m bv wv nv lw pb refs nodes l (poc pb0 pw0 pn0 pl0 gen root next dv) next lv
 | 0 => fun xs sl acc vs Rv M hmi hsl hno _ hown hacc => by
  obtain ⟨a, c, ps, rfl, hc, hs, hp, hb⟩ := hsl
  exact vols_leaf s cb m bv wv nv lw pb refs nodes hr1 hn1 l pb0 pw0 pn0 pl0 gen root next dv xs a c ps acc vs Rv M hmi hc hs hp hb hno hown hacc
 | lv + 1 => fun xs sl acc vs Rv M hmi hsl hno hkid hown hacc => by
  obtain ⟨a, c, ps, rfl, hc, hs, hp, hb⟩ := hsl
  exact vols_node s cb m bv wv nv lw pb refs nodes hr1 hn1 l pb0 pw0 pn0 pl0 gen root next dv lv (vols_spec s cb m bv wv nv lw pb refs nodes hr1 hn1 l pb0 pw0 pn0 pl0 gen root next dv lv) xs a c ps acc vs Rv M hmi hc hs hp hb hno hown hacc
   (fun x hx => by obtain ⟨h1, ys, h2⟩ := hkid (by omega) x hx; exact ⟨h1, ys, by rw [h2]; congr 2; omega⟩)
end Go.Proofs.YtbhkdjheooknfaaGreat
