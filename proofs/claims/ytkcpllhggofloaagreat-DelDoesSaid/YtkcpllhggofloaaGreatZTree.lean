/- Trees, without a program in sight: what is between two keys rises, and is found. No statement of the seat is proved here. -/
import Derived.Test.YtkcpllhggofloaaGreatZFind
import Derived.Test.YtkcpllhggofloaaGreatZNode
namespace Go.Proofs.YtkcpllhggofloaaGreat
set_option linter.unusedSimpArgs false
set_option linter.unusedVariables false
set_option linter.unusedSectionVars false
open Go.RowKit
def goDown (f : It → List It) (q : Ky) : List It → List It
 | [] => []
 | x :: xs => (match xs with | [] => f x | y :: _ => if wBf q y.key then f x else []) ++ goDown f q xs
def downL (s : Sto) (q : Ky) : Nat → List It → List It
 | 0, xs => xs.filter fun x => !wBf x.key q
 | l + 1, xs => goDown (fun x => downL s q l (kid s x)) q xs
def place (xs : List It) (k : Ky) : Nat := (xs.filter fun x => wBf x.key k).length
def isAt (xs : List It) (k : Ky) : Bool := decide ((xs[place xs k]?).map (·.key) = some k)
theorem wJs {xs : List It} {k : Ky} {j : Nat} (h : j < xs.length) : place (xs.take (j + 1)) k = place (xs.take j) k + (if wBf xs[j].key k then 1 else 0) := by
 unfold place
 rw [List.take_succ_eq_append_getElem h, List.filter_append, List.length_append]
 cases hk : wBf xs[j].key k <;> simp [List.filter, hk]
theorem wLh (xs : List It) (k : Ky) : place xs k ≤ xs.length := List.length_filter_le _ _
set_option maxHeartbeats 1000000 in
theorem place_walk (lv : Int) (xs : List It) (q : Ky) (a : Option Addr) (c : Nat) (ps : List (It × Value)) (M : Mem) (hc : xs.length ≤ c) (hs : SM M a (ps.flatMap wAs)) (hp : ps.map (·.1) = xs) (hb : ∀ p ∈ ps, BS M p.2 p.1.val) (hn : xs.length ≤ 100) :
  SpecL Tryz.prog 29 #[.agg #[.int .i64 lv, .slice a xs.length c], .agg (wBb q).toArray] M [] fun v _ _ => v = .tuple #[.int .i64 (place xs q), .bool (isAt xs q)] := by
 refine wAf (vs := [_, _]) 38 _ Tryz.func29 rfl Tryz.ntmps29 rfl rfl ?_; intro W
 refine wAb (wAa (wAy rfl rfl (wCm (cs := [_, _]) rfl rfl rfl rfl) ?_)); rintro _ _ _ ⟨b2, rfl, rfl, rfl⟩
 refine wAy rfl rfl (wCm (cs := [_, _, _]) rfl rfl rfl rfl) ?_; rintro _ _ _ ⟨b3, rfl, rfl, rfl⟩
 refine jp rfl (jp rfl (wAc (jT (wAb (wAb (wAa (sFL rfl rfl ?_)))))))
 refine wAi rfl rfl (wBj rfl rfl rfl) ?_
 refine jp rfl (wAc (jT (wAh ?_)))
 refine wAv (α := Nat) (fun k => [(2, .pointer (some ⟨b2, 0, none⟩)), (3, .pointer (some ⟨b3, 0, none⟩)), (4, .int .i64 (place (xs.take k) q)), (9, .slice a xs.length c), (10, .int .i64 xs.length), (11, .int .i64 k)]) (fun _ => M) (fun _ => [(b3, .cells [.int .u8 q.kind, .int .u32 q.id, .int .u32 q.off].toArray 31 (0, 0)), (b2, .cells [.int .i64 lv, .slice a xs.length c].toArray 53 (0, 0))]) (fun k => k ≤ xs.length) (fun k => xs.length - k)
  0 (.cons (t := 2) rfl (.cons (t := 3) rfl (.cons (t := 4) rfl (.cons (t := 9) rfl (.cons (t := 10) rfl (.cons (t := 11) rfl .nil)))))) (Nat.zero_le _) (fun _ h => h) ?_
 rintro k hk
 try dsimp only at hk ⊢
 have hple := wLh (xs.take k) q
 rw [List.length_take] at hple
 refine wAb (wAa (js rfl (fun hlt => ?_) (fun hlt => ?_)))
 ·refine wAc (jT (wAb (wAg rfl (wAd (jT (wAb (wAh (wAb (wAa ?_)))))))))
  have hk1 : k < xs.length := by omega
  obtain ⟨sb, so, e0, hx⟩ := hs.open (by intro e; have := congrArg List.length e; rw [wBi wAs 5 wAq, List.length_nil] at this; have h2 := congrArg List.length hp; rw [List.length_map] at h2; omega)
  subst e0
  obtain ⟨va, vc, hcl, hvc, hvs⟩ := wBt hx hp hb hk1
  refine wAi rfl rfl (wBe rfl rfl rfl rfl (by omega)) ?_
  refine wAi rfl rfl (wGx (cs := itc xs[k] va vc) rfl rfl rfl rfl rfl (fun i v hv => (hcl i v hv).cj _)) ?_
  refine sAl rfl fun b7 => ?_
  refine sSt rfl ?_
  refine wAc (jT (wAb (wAa (sFa rfl ?_))))
  refine sLL rfl ?_
  refine sLL rfl ?_
  refine wJj rfl rfl (wBr rfl rfl rfl rfl rfl (by kernel_rfl) (wHj xs[k].key q M)) (fun h18 => ?_) (fun h18 => ?_)
  ·refine wAc (jT (wAg rfl (wAa (jp rfl (ja rfl (by omega) ?_)))))
   refine jp rfl (wAc (jB (jT (wAa (ja rfl (by omega) ?_)))))
   refine jp rfl (wAc ?_)
   refine wAp (k + 1) (.cons (t := 2) rfl (.cons (t := 3) rfl (Keep.ceq (t := 4) rfl (by first | (rw [wJs hk1, if_pos h18]; rfl) | (rw [wJs hk1, if_neg (by simp [h18])]; rfl)) (.cons (t := 9) rfl (.cons (t := 10) rfl (.cons (t := 11) rfl .nil)))))) (by omega) (by omega) (fun _ h => h.fewer (by simp))
  refine wAc (jT (wAk rfl (wAd (jB (jT (wAa (ja rfl (by omega) ?_)))))))
  refine jp rfl (wAc ?_)
  refine wAp (k + 1) (.cons (t := 2) rfl (.cons (t := 3) rfl (Keep.ceq (t := 4) rfl (by first | (rw [wJs hk1, if_pos h18]; rfl) | (rw [wJs hk1, if_neg (by simp [h18])]; rfl)) (.cons (t := 9) rfl (.cons (t := 10) rfl (.cons (t := 11) rfl .nil)))))) (by omega) (by omega) (fun _ h => h.fewer (by simp))
 refine wAc (jT (wAb (wAk rfl (wAw (jTx (jTx (jBx (jT (wAb (wBp [(0, true), (1, true), (2, true), (3, true), (4, true), (5, true), (6, true), (7, true), (8, true), (9, true), (10, true), (11, true), (12, true), (13, true), (14, true), (15, true), (16, true), (17, true)] _ (by kernel_rfl) (by kernel_rfl) (by kernel_rfl) rfl (fun _ h => h) ?_))))))))))
 iterate 2 refine dp rfl rfl ?_
 obtain rfl : k = xs.length := by omega
 rw [List.take_length]
 rw [List.take_length] at hple
 refine dFa rfl rfl ?_
 refine dLd rfl rfl ?_
 refine wBq rfl rfl rfl (wBj rfl rfl rfl) ?_
 refine ds rfl rfl (fun h27 => ?_) (fun h27 => ?_)
 ·refine dp rfl rfl ?_
  refine dFa rfl rfl ?_
  refine dLd rfl rfl ?_
  refine dp rfl rfl ?_
  have hpk : place xs q < xs.length := by omega
  obtain ⟨sb, so, e0, hx⟩ := hs.open (by intro e; have := congrArg List.length e; rw [wBi wAs 5 wAq, List.length_nil] at this; have h2 := congrArg List.length hp; rw [List.length_map] at h2; omega)
  subst e0
  obtain ⟨va, vc, hcl, hvc, hvs⟩ := wBt hx hp hb hpk
  refine wBq rfl rfl rfl (wBe rfl rfl rfl rfl (by omega)) ?_
  refine dFa rfl rfl ?_
  refine wBq rfl rfl rfl (wGx (cs := wBb xs[place xs q].key) rfl rfl rfl rfl rfl (fun i v hv => (hcl i v (by match i, hv with | 0, hv => simpa [wBb] using hv | 1, hv => simpa [wBb] using hv | 2, hv => simpa [wBb] using hv | n + 3, hv => simp [wBb] at hv)).cj _)) ?_
  refine dLL rfl rfl ?_
  refine wBq rfl rfl rfl (qEqI (ns := [xs[place xs q].key.kind, xs[place xs q].key.id, xs[place xs q].key.off]) (ms := [q.kind, q.id, q.off]) rfl rfl rfl rfl rfl rfl ⟨rfl, rfl⟩) ?_
  iterate 3 refine dp rfl rfl ?_
  refine wBd (jPn (jT (wAe (jr2 rfl rfl rfl ?_))))
  refine congrArg (fun b => Value.tuple #[_, Value.bool b]) ?_
  unfold isAt; rw [key_eq, List.getElem?_eq_getElem hpk]; simp
 iterate 12 refine dp rfl rfl ?_
 refine wBd (jPn (jT (wAe (jr2 rfl rfl rfl ?_))))
 refine congrArg (fun b => Value.tuple #[_, Value.bool b]) ?_
 unfold isAt; rw [List.getElem?_eq_none (by omega)]; rfl
theorem fchk_ok {s : Sto} {root : Int} (h : (wFh s root).2 = 0) : wCc s ∧ 8 ≤ root ∧ root < 256 ∧ ¬ s.now.getD root.toNat 0 = 0 ∧ ∃ (lev : Nat) (xs : List It), wBk s root.toNat = some ((lev : Int), xs) ∧ wCq s lev xs ∧ (wFh s root).1 = lev + 1 := by
 by_cases h1 : wCc s
 ·by_cases h2 : root < 8 ∨ 256 ≤ root
  ·exfalso; unfold wFh at h; rw [if_pos h1, if_pos h2] at h; cases h
  by_cases h3 : s.now.getD root.toNat 0 = 0
  ·exfalso; unfold wFh at h; rw [if_pos h1, if_neg h2, if_pos h3] at h; cases h
  rw [wKq h1 h2 h3] at h
  split at h
  ·cases h
  rename_i lv xs hnd
  have hlv := (wBo hnd).lev
  split at h
  ·rename_i ht
   refine ⟨h1, by omega, by omega, h3, lv.toNat, xs, by rw [hnd, Int.toNat_of_nonneg hlv.1], ht, ?_⟩
   rw [wKq h1 h2 h3, hnd]
   show (if wCq s lv.toNat xs then (lv + 1, 0) else (0, 8) : Int × Int).1 = _
   rw [if_pos ht, Int.toNat_of_nonneg hlv.1]
  cases h
 exfalso; unfold wFh at h; rw [if_neg h1] at h; cases h
def rng (s : Sto) (root : Int) (a b : Ky) : List It := match wBk s root.toNat with
 | some (lv, xs) => (downL s a lv.toNat xs).takeWhile fun x => !wBf b x.key
 | none => []
def wGk (xs : List It) (q : Ky) : Option It := if isAt xs q then xs[place xs q]? else if place xs q = 0 then none else xs[place xs q - 1]?
def wCn (s : Sto) (q : Ky) : Nat → List It → Option It
 | 0, xs => if isAt xs q then xs[place xs q]? else none
 | l + 1, xs => match wGk xs q with | some x => wCn s q l (kid s x) | none => none
def fnd (s : Sto) (root : Int) (q : Ky) : Option It := match wBk s root.toNat with | some (lv, xs) => wCn s q lv.toNat xs | none => none
def FdPost (s : Sto) (root : Int) (q : Ky) (u : Value) (M' : Mem) : Prop := if (wFh s root).2 = 0 then
  match fnd s root q with
  | some x => ∃ va vc, u = .tuple #[.agg (itc x va vc).toArray, .int .i64 0] ∧ x.val.length ≤ vc ∧ SM M' va (wAj x.val)
  | none => u = .tuple #[.agg zeroIt.toArray, .int .i64 6]
 else u = .tuple #[.agg zeroIt.toArray, .int .i64 (wFh s root).2]
theorem FdPost.none {s : Sto} {root : Int} {q : Ky} {M' : Mem} (h : (wFh s root).2 = 0) (hf : fnd s root q = .none) : FdPost s root q (.tuple #[.agg zeroIt.toArray, .int .i64 6]) M' := by
 unfold FdPost; rw [if_pos h, hf]
theorem FdPost.some {s : Sto} {root : Int} {q : Ky} {M' : Mem} {x : It} {va : Option Addr} {vc : Nat} (h : (wFh s root).2 = 0) (hf : fnd s root q = .some x) (h1 : x.val.length ≤ vc) (h2 : SM M' va (wAj x.val)) : FdPost s root q (.tuple #[.agg (itc x va vc).toArray, .int .i64 0]) M' := by
 unfold FdPost; rw [if_pos h, hf]; exact ⟨va, vc, rfl, h1, h2⟩
theorem wKk {xs : List It} {q : Ky} (h : isAt xs q = true) : place xs q < xs.length := by
 unfold isAt at h
 rcases Nat.lt_or_ge (place xs q) xs.length with h' | h'
 ·exact h'
 rw [List.getElem?_eq_none h'] at h; cases of_decide_eq_true h
set_option maxHeartbeats 2000000 in
theorem find_walk (s : Sto) (root : Int) (q : Ky) (bv wv nv lv : Value) (M : Mem) (h1 : LS M bv s.blocks) (h2 : WS M wv s.waits) (h3 : BS M nv s.now) (h4 : BS M lv s.last) :
  SpecL Tryz.prog 11 #[.agg #[bv, wv, nv, lv], .int .i64 root, .agg (wBb q).toArray] M [] fun u M' L' => FdPost s root q u M' ∧ L' = [] := by
 have hST : ST M (.agg #[bv, wv, nv, lv]) s := ⟨_, _, _, _, rfl, h1, h2, h3, h4⟩
 refine wAf (vs := [_, _, _]) 79 _ Tryz.func11 rfl Tryz.ntmps11 rfl rfl ?_; intro W
 refine wAb (wAa (wAy rfl rfl (wCm (cs := [_, _, _, _]) rfl rfl rfl rfl) ?_)); rintro _ _ _ ⟨b3, rfl, rfl, rfl⟩
 refine wAy rfl rfl (wCm (cs := [_, _, _]) rfl rfl rfl rfl) ?_; rintro _ _ _ ⟨b5, rfl, rfl, rfl⟩
 refine sAl rfl fun b6 => ?_
 refine jp rfl (wAc (jT (jc_scope ?_)))
 refine wAb (wAb (wAa (sLL rfl ?_)))
 refine jp rfl (wAi rfl rfl (wBr rfl rfl rfl rfl rfl (by kernel_rfl) (fcheck_walk s root bv wv nv lv M h1 h2 h3 h4)) ?_)
 refine jp rfl (jp rfl (jp rfl (jp rfl (jp rfl (wAc (jT (wAb (wAa (jp rfl (js rfl (fun h23 => ?_) (fun h23 => ?_)))))))))))
 ·refine wAc (jT (wAg rfl (wAb (wAa (wAi rfl rfl (wBa (cs := [_, _, _, _, _]) rfl rfl rfl (by rfl)) ?_)))))
  refine jp rfl (sSt rfl ?_)
  refine jp rfl (wAc (jT (wAe (jTr (jN (fun _ h => by cases h) ?_)))))
  refine wDa (rs := [_, _]) ([]) (by simp) rfl (.cons (.agg rfl rfl rfl) (.cons (.tmp rfl) .nil)) ?_
  exact ⟨by unfold FdPost; rw [if_neg h23]; rfl, rfl⟩
 refine wAc (jT (wAk rfl (wAd (jT (wAb (wAa (jp rfl (sLL rfl ?_))))))))
 have hok := Classical.not_not.1 h23
 obtain ⟨hst, hr8, hr256, hnz, lev0, xs0, hnd0, htr0, hfl⟩ := fchk_ok hok
 obtain ⟨⟨_, hw4, _, _⟩, ⟨hn256, _⟩, _⟩ := id hst
 refine wAy rfl rfl (wAu rfl rfl rfl rfl rfl (by kernel_rfl) (on_spec s _ M hST (by omega) (by omega))) ?_; rintro _ M1 _ ⟨hM1, _, rfl, ⟨hbn0, rfl⟩⟩
 have hbn1 := hbn0 M1 (MLe.refl _) hM1
 obtain ⟨pb, _, _, _, _, rfl, _⟩ := id hbn1.ex
 simp only [nA]
 refine jp rfl (jp rfl (wAc (jT (wAb (jc_label ?_)))))
 refine jT (wAb (wAh ?_))
 refine wAv (α := Nat × Nat × List It × Mem) (fun x => [(5, .pointer (some ⟨b5, 0, none⟩)), (6, .pointer (some ⟨b6, 0, none⟩)), (10, .int .i64 (x.1 : Int)), (11, .pointer (some ⟨pb, 0, none⟩))]) (fun x => x.2.2.2) (fun x => [(b6, .cells [.int .u8 0, .int .u32 0, .int .u32 0, .int .i64 0, .slice none 0 0].toArray IT (0, 0)), (b5, .cells [.int .u8 q.kind, .int .u32 q.id, .int .u32 q.off].toArray 31 (0, 0)), (b3, .cells [bv, wv, nv, lv].toArray 28 (0, 0))]) (fun x => x.1 < 256 ∧ wBk s x.1 = some ((x.2.1 : Int), x.2.2.1) ∧ wCq s x.2.1 x.2.2.1 ∧ MLe M1 x.2.2.2 ∧ fnd s root q = wCn s q x.2.1 x.2.2.1) (fun x => x.2.1)
  (root.toNat, lev0, xs0, M1) (.cons (t := 5) rfl (.cons (t := 6) rfl (Keep.ceq (t := 10) rfl (by rw [show ((root.toNat : Nat) : Int) = root from Int.toNat_of_nonneg (by omega)]) (.cons (t := 11) rfl .nil)))) ⟨by show root.toNat < 256; omega, hnd0, htr0, MLe.refl _, by show fnd s root q = wCn s q lev0 xs0; unfold fnd; rw [hnd0]; rfl⟩ (fun _ h => h) ?_
 rintro ⟨k, lev, xs, Mk⟩ ⟨hk256, hnd, htr, hMk, hfi⟩
 try dsimp only at hk256 hnd htr hMk hfi ⊢
 refine wAh (wAb (wAa (jp rfl (jp rfl (wAy rfl rfl (wAu rfl rfl rfl rfl rfl (by kernel_rfl) (bnode_spec s k _ Mk hst hk256 (hbn1.mono hMk))) ?_))))); rintro _ Mn _ ⟨hMn, _, rfl, ⟨hbn, rfl⟩⟩
 obtain ⟨sl, rfl, hns⟩ := (by unfold BnPost at hbn; rw [hnd] at hbn; exact hbn : ∃ sl, _ ∧ NS Mn sl xs)
 obtain ⟨a, c, ps, rfl, hc, hs, hp, hb⟩ := hns
 simp only [nA]
 have hno := wBo hnd
 have hlen := hno.len
 have hlv := hno.lev
 have hple := wLh xs q
 refine jp rfl (jp rfl (jp rfl (sAl rfl fun b12 => ?_)))
 refine sSt rfl ?_
 refine jp rfl (wAc (jT (wAb (wAa (sLL rfl ?_)))))
 refine sLL rfl ?_
 refine wAi rfl rfl (wBr rfl rfl rfl rfl rfl (by kernel_rfl) (place_walk _ xs q a c ps Mn hc hs hp hb (by omega))) ?_
 refine jp rfl (jp rfl (jsb rfl (fun h40 => ?_) (fun h40 => ?_)))
 ·refine jp rfl (jp rfl (wAc (jT (wAh (wAb (wAa (sFL rfl rfl ?_)))))))
  refine js rfl (fun h51 => ?_) (fun h51 => ?_)
  ·refine jp rfl (jp rfl (jp rfl (jp rfl (wAc (jT (wAg rfl (wAb (wAa (sFL rfl rfl ?_)))))))))
   refine jp rfl ?_
   have hlt := wKk h40
   obtain ⟨sb, so, e0, hx⟩ := hs.open (by intro e; have := congrArg List.length e; rw [wBi wAs 5 wAq, List.length_nil] at this; have h2 := congrArg List.length hp; rw [List.length_map] at h2; omega)
   subst e0
   obtain ⟨va, vc, hcl, hvc, hvs⟩ := wBt hx hp hb (k := place xs q) (by omega)
   refine wAi rfl rfl (wBe rfl rfl rfl rfl (by omega)) ?_
   refine wAi rfl rfl (wGx (cs := itc xs[place xs q] va vc) rfl rfl rfl rfl rfl (fun i v hv => (hcl i v hv).cj _)) ?_
   refine sSt rfl ?_
   refine jp rfl (wAc (jT (wAe (jBr (jBr (jTr (jBr (jTr (jN (fun _ h => by cases h) ?_)))))))))
   refine wDa (rs := [_, _]) ([]) (by simp) rfl (.cons (.agg rfl rfl rfl) (.cons (.tmp rfl) .nil)) ?_
   refine ⟨FdPost.some hok ?_ hvc hvs, rfl⟩
   obtain rfl : lev = 0 := by omega
   rw [hfi, wCn, if_pos h40, List.getElem?_eq_getElem hlt]
  refine jp rfl (jp rfl (jp rfl (jp rfl (wAc (jT (wAk rfl (wAb (wAb (wAa (sFL rfl rfl ?_))))))))))
  refine js rfl (fun h63 => ?_) (fun h63 => ?_)
  ·exfalso; omega
  refine jp rfl (wAc (jT (wAk rfl (wAa (jp rfl (js rfl (fun h65 => ?_) (fun h65 => ?_)))))))
  ·refine jp rfl (jp rfl (jp rfl (jp rfl (jp rfl (wAc (jT (wAk rfl (wAb (wAa (jp rfl (jp rfl (wAc (jT (wAg rfl (wAa (sFL rfl rfl ?_))))))))))))))))
   refine jp rfl ?_
   have hlt := wKk h40
   obtain ⟨sb, so, e0, hx⟩ := hs.open (by intro e; have := congrArg List.length e; rw [wBi wAs 5 wAq, List.length_nil] at this; have h2 := congrArg List.length hp; rw [List.length_map] at h2; omega)
   subst e0
   obtain ⟨va, vc, hcl, hvc, hvs⟩ := wBt hx hp hb (k := place xs q) (by omega)
   refine wAi rfl rfl (wBe rfl rfl rfl rfl (by omega)) ?_
   refine sFa rfl ?_
   refine wAi rfl rfl (qLd rfl rfl rfl rfl ((hcl 3 _ rfl).cj _)) ?_
   refine jp rfl (wAc (jB (jB ?_)))
   obtain ⟨l, rfl⟩ : ∃ l, lev = l + 1 := ⟨lev - 1, by omega⟩
   obtain ⟨ys, hyn, hys0, hyt⟩ := wEu htr (List.getElem_mem (show place xs q < xs.length by omega))
   have hxr := hno.ref xs[place xs q] (List.getElem_mem _)
   have hup := hno.up (by omega) xs[place xs q] (List.getElem_mem _)
   have hkr : ((xs[place xs q].ref.toNat : Nat) : Int) = xs[place xs q].ref := Int.toNat_of_nonneg (by omega)
   have hkid : kid s xs[place xs q] = ys := by unfold kid; rw [hyn]
   refine wAp (xs[place xs q].ref.toNat, l, ys, Mn) (.cons (t := 5) rfl (.cons (t := 6) rfl (Keep.ceq (t := 10) rfl (by rw [hkr]) (.cons (t := 11) rfl .nil)))) ⟨by show xs[place xs q].ref.toNat < 256; omega, hyn, hyt, hMk.trans hMn, ?_⟩ (by show l < l + 1; omega) (fun w h => h.fewer (by simp))
   show fnd s root q = wCn s q l ys
   rw [hfi, wCn, show wGk xs q = some xs[place xs q] by unfold wGk; rw [if_pos h40, List.getElem?_eq_getElem hlt]]
   show wCn s q l (kid s _) = _
   rw [hkid]
  refine jp rfl (jp rfl (jp rfl (jp rfl (jp rfl (wAc (jT (wAk rfl (wAb (wAa (jp rfl (jp rfl (wAc (jT (wAg rfl (wAa (sFL rfl rfl ?_))))))))))))))))
  refine jp rfl ?_
  have hlt := wKk h40
  obtain ⟨sb, so, e0, hx⟩ := hs.open (by intro e; have := congrArg List.length e; rw [wBi wAs 5 wAq, List.length_nil] at this; have h2 := congrArg List.length hp; rw [List.length_map] at h2; omega)
  subst e0
  obtain ⟨va, vc, hcl, hvc, hvs⟩ := wBt hx hp hb (k := place xs q) (by omega)
  refine wAi rfl rfl (wBe rfl rfl rfl rfl (by omega)) ?_
  refine sFa rfl ?_
  refine wAi rfl rfl (qLd rfl rfl rfl rfl ((hcl 3 _ rfl).cj _)) ?_
  refine jp rfl (wAc (jB (jB ?_)))
  obtain ⟨l, rfl⟩ : ∃ l, lev = l + 1 := ⟨lev - 1, by omega⟩
  obtain ⟨ys, hyn, hys0, hyt⟩ := wEu htr (List.getElem_mem (show place xs q < xs.length by omega))
  have hxr := hno.ref xs[place xs q] (List.getElem_mem _)
  have hup := hno.up (by omega) xs[place xs q] (List.getElem_mem _)
  have hkr : ((xs[place xs q].ref.toNat : Nat) : Int) = xs[place xs q].ref := Int.toNat_of_nonneg (by omega)
  have hkid : kid s xs[place xs q] = ys := by unfold kid; rw [hyn]
  refine wAp (xs[place xs q].ref.toNat, l, ys, Mn) (.cons (t := 5) rfl (.cons (t := 6) rfl (Keep.ceq (t := 10) rfl (by rw [hkr]) (.cons (t := 11) rfl .nil)))) ⟨by show xs[place xs q].ref.toNat < 256; omega, hyn, hyt, hMk.trans hMn, ?_⟩ (by show l < l + 1; omega) (fun w h => h.fewer (by simp))
  show fnd s root q = wCn s q l ys
  rw [hfi, wCn, show wGk xs q = some xs[place xs q] by unfold wGk; rw [if_pos h40, List.getElem?_eq_getElem hlt]]
  show wCn s q l (kid s _) = _
  rw [hkid]
 refine jp rfl (jp rfl (wAc (jT (wAh (wAb (wAa (sFL rfl rfl ?_)))))))
 refine js rfl (fun h51 => ?_) (fun h51 => ?_)
 ·refine jp rfl (jp rfl (jp rfl (jp rfl (wAc (jT (wAk rfl (wAb (wAb (wAa (sFL rfl rfl ?_))))))))))
  refine js rfl (fun h63 => ?_) (fun h63 => ?_)
  ·refine jp rfl (wAc (jT (wAg rfl (wAd (jT (wAg rfl (wAw (jBo rfl ?_))))))))
   refine jBo rfl ?_
   refine jTx (jBx (jT (wAb (wAa (wAi rfl rfl (wBa (cs := [_, _, _, _, _]) rfl rfl rfl (by rfl)) ?_)))))
   refine sSt rfl ?_
   refine jp rfl (wAc (jT (wAe (jN (fun _ h => by cases h) ?_))))
   refine wDa (rs := [_, _]) ([]) (by simp) rfl (.cons (.agg rfl rfl rfl) (.cons (.tmp rfl) .nil)) ?_
   refine ⟨FdPost.none hok ?_, rfl⟩
   obtain rfl : lev = 0 := by omega
   rw [hfi, wCn, if_neg (by rw [h40]; decide)]
  exfalso; omega
 refine jp rfl (jp rfl (jp rfl (jp rfl (wAc (jT (wAk rfl (wAb (wAb (wAa (sFL rfl rfl ?_))))))))))
 refine js rfl (fun h63 => ?_) (fun h63 => ?_)
 ·exfalso; omega
 refine jp rfl (wAc (jT (wAk rfl (wAa (jp rfl (js rfl (fun h65 => ?_) (fun h65 => ?_)))))))
 ·refine jp rfl (jp rfl (jp rfl (jp rfl (jp rfl (wAc (jT (wAg rfl (wAw (jBo rfl ?_)))))))))
  refine jBo rfl ?_
  refine jTx (jBx (jT (wAb (wAa (wAi rfl rfl (wBa (cs := [_, _, _, _, _]) rfl rfl rfl (by rfl)) ?_)))))
  refine sSt rfl ?_
  refine jp rfl (wAc (jT (wAe (jN (fun _ h => by cases h) ?_))))
  refine wDa (rs := [_, _]) ([]) (by simp) rfl (.cons (.agg rfl rfl rfl) (.cons (.tmp rfl) .nil)) ?_
  refine ⟨FdPost.none hok ?_, rfl⟩
  obtain ⟨l, rfl⟩ : ∃ l, lev = l + 1 := ⟨lev - 1, by omega⟩
  rw [hfi, wCn, show wGk xs q = none by unfold wGk; rw [if_neg (by rw [h40]; decide), if_pos (by omega)]]
 refine jp rfl (jp rfl (jp rfl (jp rfl (jp rfl (wAc (jT (wAk rfl (wAb (wAa (jp rfl (jp rfl (wAc (jT (wAk rfl (wAa (sFL rfl rfl ?_))))))))))))))))
 refine jp rfl (ja rfl (by omega) ?_)
 have hp0 : 0 < place xs q := by omega
 obtain ⟨sb, so, e0, hx⟩ := hs.open (by intro e; have := congrArg List.length e; rw [wBi wAs 5 wAq, List.length_nil] at this; have h2 := congrArg List.length hp; rw [List.length_map] at h2; omega)
 subst e0
 obtain ⟨va, vc, hcl, hvc, hvs⟩ := wBt hx hp hb (k := place xs q - 1) (by omega)
 refine wAi rfl rfl (qEq (wBe rfl rfl rfl rfl (by omega)) (v' := .pointer (some ⟨sb, so + (place xs q - 1) * 5, none⟩)) (by congr 3; omega)) ?_
 refine sFa rfl ?_
 refine wAi rfl rfl (qLd rfl rfl rfl rfl ((hcl 3 _ rfl).cj _)) ?_
 refine jp rfl (wAc (jB (jB ?_)))
 obtain ⟨l, rfl⟩ : ∃ l, lev = l + 1 := ⟨lev - 1, by omega⟩
 obtain ⟨ys, hyn, hys0, hyt⟩ := wEu htr (List.getElem_mem (show place xs q - 1 < xs.length by omega))
 have hxr := hno.ref xs[place xs q - 1] (List.getElem_mem _)
 have hup := hno.up (by omega) xs[place xs q - 1] (List.getElem_mem _)
 have hkr : ((xs[place xs q - 1].ref.toNat : Nat) : Int) = xs[place xs q - 1].ref := Int.toNat_of_nonneg (by omega)
 have hkid : kid s xs[place xs q - 1] = ys := by unfold kid; rw [hyn]
 refine wAp (xs[place xs q - 1].ref.toNat, l, ys, Mn) (.cons (t := 5) rfl (.cons (t := 6) rfl (Keep.ceq (t := 10) rfl (by rw [hkr]) (.cons (t := 11) rfl .nil)))) ⟨by show xs[place xs q - 1].ref.toNat < 256; omega, hyn, hyt, hMk.trans hMn, ?_⟩ (by show l < l + 1; omega) (fun w h => h.fewer (by simp))
 show fnd s root q = wCn s q l ys
 rw [hfi, wCn, show wGk xs q = some xs[place xs q - 1] by unfold wGk; rw [if_neg (by rw [h40]; decide), if_neg (by omega), List.getElem?_eq_getElem (by omega)]]
 show wCn s q l (kid s _) = _
 rw [hkid]
theorem find_spec (s : Sto) (v : Value) (root : Int) (q : Ky) (M : Mem) (h : ST M v s) : SpecL Tryz.prog 11 #[v, .int .i64 root, .agg (wBb q).toArray] M [] fun u M' L' => FdPost s root q u M' ∧ L' = [] := by
 obtain ⟨bv, wv, nv, lv, rfl, h1, h2, h3, h4⟩ := h.ex
 exact find_walk s root q bv wv nv lv M h1 h2 h3 h4
def kle (a b : Ky) : Prop := wBf b a = false
theorem kl_iff {a b : Ky} : wBf a b = true ↔ (a.kind < b.kind ∨ a.kind = b.kind ∧ (a.id < b.id ∨ a.id = b.id ∧ a.off < b.off)) := by unfold wBf; exact decide_eq_true_iff
theorem kle_iff {a b : Ky} : kle a b ↔ ¬ (b.kind < a.kind ∨ b.kind = a.kind ∧ (b.id < a.id ∨ b.id = a.id ∧ b.off < a.off)) := by unfold kle wBf; exact decide_eq_false_iff_not
theorem wHt (a : Ky) : kle a a := by rw [kle_iff]; omega
theorem kl_trans {a b c : Ky} (h : wBf a b = true) (k : wBf b c = true) : wBf a c = true := by rw [kl_iff] at *; omega
theorem wLo {a b c : Ky} (h : kle a b) (k : kle b c) : kle a c := by rw [kle_iff] at *; omega
theorem kl_le {a b c : Ky} (h : wBf a b = true) (k : kle b c) : wBf a c = true := by rw [kl_iff, kle_iff] at *; omega
theorem kle_lt {a b c : Ky} (h : kle a b) (k : wBf b c = true) : wBf a c = true := by rw [kl_iff, kle_iff] at *; omega
theorem kl_kle {a b : Ky} (h : wBf a b = true) : kle a b := by rw [kl_iff] at h; rw [kle_iff]; omega
theorem kl_irr {a : Ky} : wBf a a = false := wHt a
theorem kle_eq_or {a b : Ky} (h : kle a b) : a = b ∨ wBf a b = true := by
 rw [kle_iff] at h; rw [kl_iff]
 by_cases e : a.kind = b.kind ∧ a.id = b.id ∧ a.off = b.off
 ·left; obtain ⟨a1, a2, a3⟩ := a; obtain ⟨b1, b2, b3⟩ := b; simp_all
 right; omega
def Srt (ys : List It) : Prop := ys.Pairwise fun x y => wBf x.key y.key = true
def wCu (s : Sto) : Nat → It → List It
 | 0, x => [x]
 | l + 1, x => (kid s x).flatMap (wCu s l)
def wCh (s : Sto) (l : Nat) (xs : List It) : List It := xs.flatMap (wCu s l)
structure InSp (p : Sp) (ys : List It) : Prop where
 srt : Srt ys
 btw : ∀ y ∈ ys, kle p.first y.key ∧ kle y.key p.last
 le : kle p.first p.last
structure TreeL (g : It → List It) (xs : List It) : Prop where
 pw : xs.Pairwise fun z w => (∀ y ∈ g z, wBf y.key w.key = true) ∧ wBf z.key w.key = true
 each : ∀ z ∈ xs, Srt (g z) ∧ ∀ y ∈ g z, kle z.key y.key
def wDc : List It → Ky
 | [] => ⟨0, 0, 0⟩
 | x :: _ => x.key
theorem go_in {f : It → Sp} {g : It → List It} : ∀ {xs : List It} {o : Option Sp}, (∀ x ∈ xs, (f x).is = true → (f x).first = x.key → InSp (f x) (g x)) → (wEf f o xs).is = true → xs ≠ [] →
  TreeL g xs ∧ (∀ z ∈ xs, ∀ y ∈ g z, kle y.key (wEf f o xs).last) ∧ (∀ z ∈ xs, kle z.key (wEf f o xs).last) ∧ (∀ q, o = some q → ∀ z ∈ xs, wBf q.last z.key = true) ∧ (wEf f o xs).first = (match o with | none => wDc xs | some q => q.first)
 | [], _, _, _, h => absurd rfl h
 | x :: xs, o, hg, his, _ => by
  rw [wEf] at his ⊢
  split at his
  case isFalse => cases his
  rename_i hs
  rw [if_pos hs]
  unfold wBs at hs
  rw [Bool.and_eq_true, Bool.and_eq_true, decide_eq_true_eq] at hs
  obtain ⟨⟨h1, h2⟩, h3⟩ := hs
  have hx := hg x (by simp) h1 h2
  have hxl : kle x.key (f x).last := by rw [← h2]; exact hx.le
  have hxy : ∀ y ∈ g x, kle x.key y.key := fun y hy => by rw [← h2]; exact (hx.btw y hy).1
  have ho : ∀ q, o = some q → wBf q.last x.key = true := fun q e => by subst e; rw [← h2]; exact h3
  have hf0 : o = none → (wEd (f x) o).first = x.key := fun e => by subst e; exact h2
  have hf1 : ∀ q, o = some q → (wEd (f x) o).first = q.first := fun q e => by subst e; rfl
  cases xs with
  | nil =>
   refine ⟨⟨List.pairwise_singleton _ _, fun z hz => ?_⟩, fun z hz => ?_, fun z hz => ?_, fun q e z hz => ?_, ?_⟩
   ·rw [List.mem_singleton.1 hz]; exact ⟨hx.srt, hxy⟩
   ·rw [List.mem_singleton.1 hz]; exact fun y hy => (hx.btw y hy).2
   ·rw [List.mem_singleton.1 hz]; exact hxl
   ·rw [List.mem_singleton.1 hz]; exact ho q e
   show (wEd (f x) o).first = _
   cases o with
   | none => exact hf0 rfl
   | some q => exact hf1 q rfl
  | cons y ys =>
   obtain ⟨i1, i2, i3, i4, i5⟩ := go_in (f := f) (g := g) (xs := y :: ys) (o := some (wEd (f x) o)) (fun z hz => hg z (by simp [hz])) his (by simp)
   have hlt : ∀ z ∈ y :: ys, wBf (f x).last z.key = true := fun z hz => i4 _ rfl z hz
   have hll : kle (f x).last (wEf f (some (wEd (f x) o)) (y :: ys)).last := kl_kle (kl_le (hlt y (by simp)) (i3 y (by simp)))
   refine ⟨⟨List.pairwise_cons.2 ⟨fun w hw => ⟨fun z hz => kle_lt (hx.btw z hz).2 (hlt w hw), kle_lt hxl (hlt w hw)⟩, i1.pw⟩, fun z hz => ?_⟩, fun z hz => ?_, fun z hz => ?_, fun q e z hz => ?_, ?_⟩
   ·rcases List.mem_cons.1 hz with rfl | hz
    ·exact ⟨hx.srt, hxy⟩
    exact i1.each z hz
   ·rcases List.mem_cons.1 hz with rfl | hz
    ·exact fun u hu => wLo (hx.btw u hu).2 hll
    exact i2 z hz
   ·rcases List.mem_cons.1 hz with rfl | hz
    ·exact wLo hxl hll
    exact i3 z hz
   ·rcases List.mem_cons.1 hz with rfl | hz
    ·exact ho q e
    exact kl_trans (ho q e) (kle_lt hxl (hlt z hz))
   rw [i5]
   show (wEd (f x) o).first = _
   cases o with
   | none => exact hf0 rfl
   | some q => exact hf1 q rfl
theorem TreeL.srt {g : It → List It} {xs : List It} (h : TreeL g xs) : Srt (xs.flatMap g) := by
 refine List.pairwise_flatMap.2 ⟨fun z hz => (h.each z hz).1, ?_⟩
 refine h.pw.imp_of_mem fun {z w} hz hw hr x hx y hy => ?_
 exact kl_le (hr.1 x hx) ((h.each w hw).2 y hy)
theorem one_in (s : Sto) : ∀ (l : Nat) (x : It), (wBu s l x).is = true → (wBu s l x).first = x.key → InSp (wBu s l x) (wCu s l x)
 | 0, x, _, _ => ⟨List.pairwise_singleton _ _, fun y hy => by rw [List.mem_singleton.1 hy]; exact ⟨wHt _, wHt _⟩, wHt _⟩
 | l + 1, x, h, hf => by
  obtain ⟨ys, hnd, hys, he⟩ := one_up h
  have hk : kid s x = ys := by unfold kid; rw [hnd]
  rw [he] at h hf ⊢
  obtain ⟨i1, i2, i3, _, i5⟩ := go_in (g := wCu s l) (fun z _ a b => one_in s l z a b) h hys
  have hA : wCu s (l + 1) x = ys.flatMap (wCu s l) := by rw [wCu, hk]
  rw [hA]
  obtain ⟨y0, yr, rfl⟩ := List.exists_cons_of_ne_nil hys
  have hh : ∀ z ∈ y0 :: yr, kle y0.key z.key := fun z hz => by
   rcases List.mem_cons.1 hz with rfl | hz
   ·exact wHt _
   exact kl_kle ((List.pairwise_cons.1 i1.pw).1 z hz).2
  refine ⟨i1.srt, fun y hy => ?_, ?_⟩
  ·obtain ⟨z, hz, hyz⟩ := List.mem_flatMap.1 hy
   refine ⟨?_, i2 z hz y hyz⟩
   rw [i5]; exact wLo (hh z hz) ((i1.each z hz).2 y hyz)
  rw [i5]; exact i3 y0 (by simp)
theorem tree_l {s : Sto} {l : Nat} {xs : List It} (h : wCq s l xs) : TreeL (wCu s l) xs := by
 by_cases hx : xs = []
 ·subst hx; exact ⟨List.Pairwise.nil, fun z hz => by cases hz⟩
 exact (go_in (fun z _ a b => one_in s l z a b) (h hx) hx).1
theorem kid_of {s : Sto} {l : Nat} {xs : List It} (h : wCq s (l + 1) xs) {x : It} (hx : x ∈ xs) : wCq s l (kid s x) := by
 obtain ⟨ys, h1, _, h3⟩ := wEu h hx
 have hk : kid s x = ys := by unfold kid; rw [h1]
 rw [hk]; exact h3
theorem place_app (A B : List It) (q : Ky) : place (A ++ B) q = place A q + place B q := by unfold place; rw [List.filter_append, List.length_append]
theorem place_all {A : List It} {q : Ky} (h : ∀ w ∈ A, wBf w.key q = true) : place A q = A.length := by
 unfold place; rw [List.filter_eq_self.2 (fun w hw => by simpa using h w hw)]
theorem place_none {A : List It} {q : Ky} (h : ∀ w ∈ A, wBf w.key q = false) : place A q = 0 := by
 unfold place; rw [List.filter_eq_nil_iff.2 (fun w hw => by simp [h w hw])]; rfl
theorem find_in {s : Sto} : ∀ {l : Nat} {xs : List It}, wCq s l xs → ∀ x ∈ wCh s l xs, wCn s x.key l xs = some x
 | l, xs, h, x, hx => by
  have hT := tree_l h
  obtain ⟨z, hz, hxz⟩ := List.mem_flatMap.1 hx
  obtain ⟨A, B, rfl⟩ := List.append_of_mem hz
  have hp := List.pairwise_append.1 hT.pw
  have hpB := List.pairwise_cons.1 hp.2.1
  have hzx : kle z.key x.key := (hT.each z hz).2 x hxz
  have hA : ∀ w ∈ A, wBf w.key x.key = true := fun w hw => kl_le (hp.2.2 w hw z (by simp)).2 hzx
  have hB : ∀ w ∈ B, wBf x.key w.key = true := fun w hw => (hpB.1 w hw).1 x hxz
  have hB' : ∀ w ∈ B, wBf w.key x.key = false := fun w hw => kl_kle (hB w hw)
  have hpl : place (A ++ z :: B) x.key = A.length + (if wBf z.key x.key then 1 else 0) := by
   rw [place_app, place_all hA, show z :: B = [z] ++ B from rfl, place_app, place_none hB']
   unfold place
   cases hk : wBf z.key x.key <;> simp [hk]
  have hg : (A ++ z :: B)[A.length]? = some z := by rw [List.getElem?_append_right (Nat.le_refl _)]; simp
  rcases kle_eq_or hzx with he | hlt
  ·have hpl2 : place (A ++ z :: B) x.key = A.length := by rw [hpl, ← he, kl_irr]; rfl
   have hat : isAt (A ++ z :: B) x.key = true := by unfold isAt; rw [hpl2, hg]; simp [he]
   cases l with
   | zero =>
    rw [wCn, if_pos hat, hpl2, hg]
    rw [wCu] at hxz
    rw [List.mem_singleton.1 hxz]
   | succ l =>
    rw [wCn, show wGk (A ++ z :: B) x.key = some z by unfold wGk; rw [if_pos hat, hpl2, hg]]
    exact find_in (kid_of h hz) x hxz
  have hpl2 : place (A ++ z :: B) x.key = A.length + 1 := by rw [hpl, hlt]; rfl
  cases l with
  | zero =>
   rw [wCu] at hxz
   rw [List.mem_singleton.1 hxz, kl_irr] at hlt
   cases hlt
  | succ l =>
   have hnat : isAt (A ++ z :: B) x.key = false := by
    unfold isAt
    rw [hpl2, List.getElem?_append_right (by omega), show A.length + 1 - A.length = 0 + 1 by omega, List.getElem?_cons_succ]
    cases B with
    | nil => rfl
    | cons b bs =>
     have := hB b (by simp)
     simp only [List.getElem?_cons_zero, Option.map_some, decide_eq_false_iff_not]
     intro e
     rw [Option.some.injEq] at e
     rw [e, kl_irr] at this; cases this
   rw [wCn, show wGk (A ++ z :: B) x.key = some z by unfold wGk; rw [if_neg (by rw [hnat]; decide), if_neg (by omega), hpl2, Nat.add_sub_cancel, hg]]
   exact find_in (kid_of h hz) x hxz
theorem find_back {s : Sto} {q : Ky} : ∀ {l : Nat} {xs : List It} {x : It}, wCn s q l xs = some x → x ∈ wCh s l xs ∧ x.key = q
 | 0, xs, x, h => by
  rw [wCn] at h
  split at h
  ·rename_i hat
   unfold isAt at hat
   rw [h] at hat
   have := of_decide_eq_true hat
   refine ⟨?_, by simpa using this⟩
   rw [wCh]; simp only [wCu]
   exact List.mem_flatMap.2 ⟨x, List.mem_of_getElem? h, by simp⟩
  cases h
 | l + 1, xs, x, h => by
  rw [wCn] at h
  split at h
  ·rename_i z hz
   obtain ⟨h1, h2⟩ := find_back h
   refine ⟨List.mem_flatMap.2 ⟨z, ?_, h1⟩, h2⟩
   unfold wGk at hz
   split at hz
   ·exact List.mem_of_getElem? hz
   split at hz
   ·cases hz
   exact List.mem_of_getElem? hz
  cases h
def allT (s : Sto) (root : Int) : List It := match wBk s root.toNat with | some (lv, xs) => wCh s lv.toNat xs | none => []
def btw (a b : Ky) (x : It) : Bool := !wBf x.key a && !wBf b x.key
theorem Srt.filter {ys : List It} (h : Srt ys) (p : It → Bool) : Srt (ys.filter p) := List.Pairwise.filter p h
structure RFacts (s : Sto) (root : Int) (a b : Ky) (l : List It) : Prop where
 lo : ∀ k (h : k < l.length), wBf l[k].key a = false
 hi : ∀ k (h : k < l.length), wBf b l[k].key = false
 up : ∀ k (h : k + 1 < l.length), wBf l[k].key l[k + 1].key = true
 fd : ∀ k (h : k < l.length), fnd s root l[k].key = some l[k]
 no : wBf b a = true → l = []
structure PFacts (s : Sto) (root : Int) (b : Ky) (l m n one : List It) : Prop where
 eq : l = m ++ n.drop one.length
 len : m.length + n.length = l.length + one.length
 le1 : one.length ≤ 1
 on : one.length ≤ n.length
 fd : (∃ x, fnd s root b = some x) ↔ one.length = 1
theorem kl_neg {a b : Ky} (h : ¬ wBf a b = true) : kle b a := by unfold kle; simpa using h
end Go.Proofs.YtkcpllhggofloaaGreat
