/- Walks: superblocks found. -/
import Derived.Test.YtoincdcejjdgkaaGreatZRing
import Derived.Test.YtoincdcejjdgkaaGreatZNdr
import Derived.Test.YtoincdcejjdgkaaGreatZCnt
namespace Go.Proofs.YtoincdcejjdgkaaGreat
set_option linter.unusedSimpArgs false
set_option linter.unusedVariables false
open Go.RowKit
/- a superblock's numbers in a block -/
def suNo (xs : List By) : Nat := (xs.getD 18 0).toNat
def rsu (xs : List By) : Su := ⟨wHi (xs.drop 4) 0 4, wHi (xs.drop 4) 4 2, wHi (xs.drop 4) 6 4, wHi (xs.drop 4) 10 4, (List.range (suNo xs)).map fun i => wHi (xs.drop 4) (15 + 2 * i) 2⟩
def suIs (xs : List By) : Prop := wEk xs = 0 ∧ 15 + 2 * suNo xs ≤ 124 ∧ suOk (rsu xs) ∧ suB (rsu xs) = xs
instance (xs : List By) : Decidable (suIs xs) := by unfold suIs; exact inferInstance
theorem twos_at (xs : List Int) (k : Nat) (h : k < xs.length) : ∃ pre post, xs.flatMap wGu = pre ++ (wGu xs[k] ++ post) ∧ pre.length = 2 * k := by
 refine ⟨(xs.take k).flatMap wGu, (xs.drop (k + 1)).flatMap wGu, ?_, ?_⟩
 ·rw [← List.append_assoc, ← twos_step h, ← List.flatMap_append, List.take_append_drop]
 ·rw [twos_len, List.length_take, Nat.min_eq_left (by omega)]
theorem su_back {x : Su} (h : suOk x) (hg : 0 ≤ x.gen ∧ x.gen < 4294967296) (hn : 0 ≤ x.next ∧ x.next < 4294967296) (ht : 0 ≤ x.table ∧ x.table < 4294967296) : suNo (suB x) = x.dead.length ∧ rsu (suB x) = x := by
 obtain ⟨hd, hr, hl⟩ := h
 unfold tk at hr
 have e4 : (suB x).drop 4 = wLm (wJd x) := rfl
 have ep : wLm (wJd x) = wCr x.gen ++ (wGu x.root ++ (wCr x.next ++ (wCr x.table ++ ([bU x.dead.length] ++ (x.dead.flatMap wGu ++ List.replicate (124 - (wJd x).length) 0))))) := by
  unfold wLm wJd suHead
  simp only [List.flatten_cons, List.flatten_nil, List.append_assoc, List.append_nil]
 have hno : suNo (suB x) = x.dead.length := by
  have e : (suB x).getD 18 0 = bU x.dead.length := rfl
  unfold suNo
  rw [e]
  have := wJx x.dead.length
  omega
 refine ⟨hno, ?_⟩
 unfold rsu
 rw [hno, e4]
 rw [wHs (xs := wLm (wJd x)) (a := 0) (n := 4) [] (wCr x.gen) _ (by rw [ep]; rfl) rfl rfl, wHk hg]
 rw [wHs (xs := wLm (wJd x)) (a := 4) (n := 2) (wCr x.gen) (wGu x.root) _ (by rw [ep]) rfl rfl, two_back (by omega)]
 rw [wHs (xs := wLm (wJd x)) (a := 6) (n := 4) (wCr x.gen ++ wGu x.root) (wCr x.next) _ (by rw [ep, List.append_assoc]) rfl rfl, wHk hn]
 rw [wHs (xs := wLm (wJd x)) (a := 10) (n := 4) (wCr x.gen ++ (wGu x.root ++ wCr x.next)) (wCr x.table) ([bU x.dead.length] ++ (x.dead.flatMap wGu ++ List.replicate (124 - (wJd x).length) 0)) (by rw [ep]; simp only [List.append_assoc]) rfl rfl, wHk ht]
 have hdead : ((List.range x.dead.length).map fun i => wHi (wLm (wJd x)) (15 + 2 * i) 2) = x.dead := by
  refine List.ext_getElem (by simp) fun i h1 h2 => ?_
  rw [List.getElem_map, List.getElem_range]
  obtain ⟨pre, post, e, hp⟩ := twos_at x.dead i h2
  have ht := hd _ (List.getElem_mem h2)
  unfold tk at ht
  rw [wHs (xs := wLm (wJd x)) (a := 15 + 2 * i) (n := 2) (wCr x.gen ++ (wGu x.root ++ (wCr x.next ++ (wCr x.table ++ ([bU x.dead.length] ++ pre))))) (wGu x.dead[i]) (post ++ List.replicate (124 - (wJd x).length) 0) (by rw [ep, e]; simp only [List.append_assoc]) (by simp only [List.length_append, hp]; show _ = 4 + (2 + (4 + (4 + (1 + 2 * i)))); omega) rfl, two_back (by omega)]
 rw [hdead]
theorem su_is {x : Su} (h : suOk x) (hg : 0 ≤ x.gen ∧ x.gen < 4294967296) (hn : 0 ≤ x.next ∧ x.next < 4294967296) (ht : 0 ≤ x.table ∧ x.table < 4294967296) : suIs (suB x) ∧ rsu (suB x) = x := by
 obtain ⟨h1, h2⟩ := su_back h hg hn ht
 refine ⟨⟨open_seal (by rw [suRaw_len]; have := h.2.2; omega), by rw [h1]; have := h.2.2; omega, by rw [h2]; exact h, by rw [h2]⟩, h2⟩
/- the superblocks that are found -/
def wKx (s : Sto) (k : Nat) : Option Su := if suIs (wCo s k) ∧ (rsu (wCo s k)).gen % 4 = (k : Int) then some (rsu (wCo s k)) else none
def wJs (s : Sto) (n : Nat) : List Su := (List.range n).filterMap (wKx s)
theorem fndL_step (s : Sto) (n : Nat) : wJs s (n + 1) = wJs s n ++ (wKx s n).toList := by
 unfold wJs
 rw [List.range_succ, List.filterMap_append]
 cases h : wKx s n <;> simp [h]
theorem fndL_len (s : Sto) : ∀ n, (wJs s n).length ≤ n
 | 0 => Nat.le_refl _
 | n + 1 => by
  rw [fndL_step, List.length_append]
  have := fndL_len s n
  cases wKx s n <;> simp <;> omega
theorem fndL_mem {s : Sto} {x : Su} (h : suOk x) (hg : 0 ≤ x.gen ∧ x.gen < 4294967296) (hn : 0 ≤ x.next ∧ x.next < 4294967296) (ht : 0 ≤ x.table ∧ x.table < 4294967296) (hs : wCo s (x.gen % 4).toNat = suB x) : x ∈ wJs s 4 := by
 obtain ⟨h1, h2⟩ := su_is h hg hn ht
 unfold wJs
 rw [List.mem_filterMap]
 refine ⟨(x.gen % 4).toNat, by rw [List.mem_range]; omega, ?_⟩
 unfold wKx
 rw [hs, if_pos ⟨h1, by rw [h2]; omega⟩, h2]
abbrev Sr := Su × Value
def wDx (p : Sr) : List Value := suc p.1 p.2
theorem wFj (p : Sr) : (wDx p).length = 5 := rfl
theorem set_row (p : Sr) (sp : List Value) : ∀ (ys : List Sr) (k : Nat), k < ys.length → (ys.flatMap wDx ++ sp).take (k * 5) ++ wDx p ++ (ys.flatMap wDx ++ sp).drop (k * 5 + (wDx p).length) = (ys.set k p).flatMap wDx ++ sp
 | [], k, h => by cases h
 | y :: ys, 0, _ => by
  have e : ∀ (z : Sr), (z :: ys).flatMap wDx ++ sp = wDx z ++ (ys.flatMap wDx ++ sp) := fun z => by rw [List.flatMap_cons, List.append_assoc]
  rw [e y, List.set_cons_zero, e p]
  rfl
 | y :: ys, k + 1, h => by
  have ih := set_row p sp ys k (by simpa using h)
  have e : (y :: ys).flatMap wDx ++ sp = wDx y ++ (ys.flatMap wDx ++ sp) := by rw [List.flatMap_cons, List.append_assoc]
  have e1 : (wDx y ++ (ys.flatMap wDx ++ sp)).take ((k + 1) * 5) = wDx y ++ (ys.flatMap wDx ++ sp).take (k * 5) := by
   rw [show (k + 1) * 5 = k * 5 + 5 by omega]; rfl
  have e2 : (wDx y ++ (ys.flatMap wDx ++ sp)).drop ((k + 1) * 5 + (wDx p).length) = (ys.flatMap wDx ++ sp).drop (k * 5 + (wDx p).length) := by
   rw [wFj, show (k + 1) * 5 + 5 = (k * 5 + 5) + 5 by omega]; rfl
  rw [e, e1, e2, List.set_cons_succ, List.flatMap_cons, List.append_assoc (wDx y) _ sp, ← ih, List.append_assoc, List.append_assoc, List.append_assoc]
section
variable {P : Program} {ops : Array Oper} {N : Fs} {F : Fr} {E : Ent} {M : Mem} {L : Lc} {o : Oper}
theorem hSetS {t e : TypeId} {x y : Operand} {b off by_ : Nat} (k : Nat) {ys : List Sr} {sp : List Value} {p : Sr} {L' : Lc} {z : List Value} (hg : gd ops F o = some true) (ho : o.op = .store t x y) (hx : ev F x = some (.pointer (some ⟨b, off, none⟩))) (hy : ev F y = some (.agg (wDx p).toArray))
  [hl : Lay P t 5 by_ z] (hoff : off = k * 5) (hp1 : p.2.oneCell' = true) (hk : k < ys.length) [at_ : At b (.cells (ys.flatMap wDx ++ sp).toArray e (0, 0)) L]
  [hp : PutAt b (.cells (ys.flatMap wDx ++ sp).toArray e (0, 0)) (.cells ((ys.set k p).flatMap wDx ++ sp).toArray e (0, 0)) L L'] :
  HF P ops N F E M L o (fun _ M' L'' => M = M' ∧ L'' = L') := by
 subst hoff
 have hp' : PutAt b (.cells (ys.flatMap wDx ++ sp).toArray e (0, 0)) (.cells ((ys.flatMap wDx ++ sp).take (k * 5) ++ wDx p ++ (ys.flatMap wDx ++ sp).drop (k * 5 + (wDx p).length)).toArray e (0, 0)) L L' := by
  rw [set_row p sp ys k hk]; exact hp
 refine hStore (hp := hp') hg ho hx hy rfl rfl (fun u hu => ?_) ?_
 ·simp only [wDx, suc, List.mem_cons, List.not_mem_nil, or_false] at hu
  rcases hu with rfl | rfl | rfl | rfl | rfl
  ·rfl
  ·rfl
  ·rfl
  ·rfl
  ·exact hp1
 ·rw [List.length_append, wAy wDx 5 wFj]; have := wFj p; omega
theorem qIdxStr {x ix : Operand} {t : TypeId} {k : IntKind} {i : Int} {s : ByteArray} {b : UInt8} (hg : gd ops F o = some true) (ho : o.op = .index t x ix) (hx : ev F x = some (.string s)) (hi : ev F ix = some (.int k i)) [ht : Und P t .string] (h : 0 ≤ i) (hb : s[i.toNat]? = some b) : QF P ops N F M L o (.int .u8 b.toNat) :=
 wDr hg fun ac hac w hw => by
  simp [execOp, ho, hac.ev hx, hac.ev hi, Instr.index, asIntOf, run_underlying ht.h, h, hb]
end
theorem rowcj {M : Mem} {L : Lc} {b : Nat} {ys : List Sr} {sp : List Value} {e : TypeId} {k off : Nat} (hm : (b, Obj.cells (ys.flatMap wDx ++ sp).toArray e (0, 0)) ∈ L) (hk : k < ys.length) (hoff : off = k * 5) : ∀ i v, (wDx ys[k])[i]? = some v → CJ M L b (off + i) v := fun i v hv => by
 subst hoff
 have hi : i < 5 := by rw [← wFj ys[k]]; exact (List.getElem?_eq_some_iff.1 hv).1
 refine ⟨_, _, _, .inr hm, ?_⟩
 rw [List.getElem?_toArray, List.getElem?_append_left (by rw [wAy wDx 5 wFj]; omega), flat_get wDx 5 wFj ys k i hi, List.getElem?_eq_getElem hk]
 exact hv
def cmpV (a b : Int) : Int := if a < b then -1 else if a > b then 1 else 0
def tb (i : Int) : By := UInt8.ofNat (if i = 0 then 0 else if i = 1 then 1 else if i ≤ 3 then 2 else 3)
def Dsc (ys : List Sr) (n : Nat) : Prop := ∀ a b, (h1 : a < b) → (h2 : b < n) → (h3 : b < ys.length) → (ys[b]).1.gen ≤ (ys[a]'(by omega)).1.gen
structure DscX (ys : List Sr) (n j : Nat) : Prop where
 off : ∀ a b, (h1 : a < b) → (h2 : b < n) → (h3 : b < ys.length) → a ≠ j → b ≠ j → (ys[b]).1.gen ≤ (ys[a]'(by omega)).1.gen
 up : ∀ b, (h1 : j < b) → (h2 : b < n) → (h3 : b < ys.length) → (ys[b]).1.gen ≤ (ys[j]'(by omega)).1.gen
theorem Dsc.start (ys : List Sr) : Dsc ys 1 := fun a b h1 h2 _ => by omega
theorem Dsc.x {ys : List Sr} {i : Nat} (h : Dsc ys i) : DscX ys (i + 1) i := ⟨fun a b h1 h2 h3 ha hb => h a b h1 (by omega) h3, fun b h1 h2 _ => by omega⟩
theorem DscX.end0 {ys : List Sr} {n : Nat} (h : DscX ys n 0) : Dsc ys n := fun a b h1 h2 h3 => by
 by_cases ha : a = 0
 ·subst ha; exact h.up b (by omega) h2 h3
 ·exact h.off a b h1 h2 h3 ha (by omega)
theorem DscX.stop {ys : List Sr} {n j : Nat} (h : DscX ys n j) (hj : j < ys.length) (h0 : 0 < j) (hc : (ys[j]).1.gen ≤ (ys[j - 1]'(by omega)).1.gen) : Dsc ys n := fun a b h1 h2 h3 => by
 by_cases ha : a = j
 ·subst ha; exact h.up b (by omega) h2 h3
 ·by_cases hb : b = j
  ·subst hb
   by_cases ha2 : a = b - 1
   ·subst ha2; exact hc
   ·have := h.off a (b - 1) (by omega) (by omega) (by omega) (by omega) (by omega); omega
  ·exact h.off a b h1 h2 h3 ha hb
theorem DscX.swap {ys : List Sr} {n j : Nat} (h : DscX ys n j) (hj : j < ys.length) (h0 : 0 < j) (hc : (ys[j - 1]'(by omega)).1.gen < (ys[j]).1.gen) (hjn : j < n) : DscX ((ys.set j (ys[j - 1]'(by omega))).set (j - 1) ys[j]) n (j - 1) := by
 have hl : ((ys.set j (ys[j - 1]'(by omega))).set (j - 1) ys[j]).length = ys.length := by simp
 have g : ∀ k (hk : k < ys.length), (((ys.set j (ys[j - 1]'(by omega))).set (j - 1) ys[j])[k]'(by omega)) = if k = j - 1 then ys[j] else if k = j then (ys[j - 1]'(by omega)) else ys[k] := fun k hk => by
  rw [List.getElem_set]
  by_cases e1 : j - 1 = k
  ·rw [if_pos e1, if_pos e1.symm]
  ·rw [if_neg e1, if_neg (Ne.symm e1), List.getElem_set]
   by_cases e2 : j = k
   ·rw [if_pos e2, if_pos e2.symm]
   ·rw [if_neg e2, if_neg (Ne.symm e2)]
 refine ⟨fun a b h1 h2 h3 ha hb => ?_, fun b h1 h2 h3 => ?_⟩
 ·rw [hl] at h3
  rw [g b h3, g a (by omega), if_neg ha, if_neg hb]
  by_cases ea : a = j
  ·rw [if_pos ea, if_neg (show ¬ b = j by omega)]
   exact h.off (j - 1) b (by omega) h2 h3 (by omega) (by omega)
  ·rw [if_neg ea]
   by_cases eb : b = j
   ·rw [if_pos eb]; exact h.off a (j - 1) (by omega) (by omega) (by omega) ea (by omega)
   ·rw [if_neg eb]; exact h.off a b h1 h2 h3 ea eb
 ·rw [hl] at h3
  rw [g b h3, g (j - 1) (by omega), if_pos rfl, if_neg (show ¬ b = j - 1 by omega)]
  by_cases eb : b = j
  ·rw [if_pos eb]; omega
  ·rw [if_neg eb]; exact h.up b (by omega) h2 h3
theorem cmpV_neg {a b : Int} (h : cmpV a b < 0) : a < b := by
 unfold cmpV at h
 split at h
 ·assumption
 ·split at h <;> omega
theorem cmpV_pos {a b : Int} (h : ¬ cmpV a b < 0) : b ≤ a := by
 unfold cmpV at h
 split at h
 ·omega
 ·omega
theorem swap_perm {ys : List Sr} {j : Nat} (h : j < ys.length) (h0 : 0 < j) : ((ys.set j (ys[j - 1]'(by omega))).set (j - 1) ys[j]).Perm ys := by
 exact List.set_set_perm (i := j) (j := j - 1) h (by omega)
theorem nan_spec (a : Int) (M : Mem) :
  SpecL Tryz.prog 97 #[.int .u32 a] M [] fun u _ _ => u = .bool false := by
 refine wAf (vs := [_]) 6 _ Tryz.func97 rfl Tryz.ntmps97 rfl rfl ?_; intro W
 refine wAb (wAa (jp rfl (wAc (jT (wAb (wAa (jp rfl (jp rfl (jp rfl (jp rfl (wAc (jT (wAe (jr1 rfl rfl ?_))))))))))))))
 simp
theorem cmp_spec (a b : Int) (M : Mem) :
  SpecL Tryz.prog 66 #[.int .u32 a, .int .u32 b] M [] fun u _ _ => u = .int .i64 (cmpV a b) := by
 refine wAf (vs := [_, _]) 20 _ Tryz.func66 rfl Tryz.ntmps66 rfl rfl ?_; intro W
 refine wAb (wAa (jp rfl (wAc (jT (wAb (wAa (jp rfl (wAi rfl rfl (wBf rfl rfl rfl rfl rfl (by kernel_rfl) (nan_spec a M)) ?_))))))))
 refine jp rfl (wAc (jT (wAb (wAa (jp rfl (wAi rfl rfl (wBf rfl rfl rfl rfl rfl (by kernel_rfl) (nan_spec b M)) ?_))))))
 refine jp rfl (wAc (jT (wAb (wAb (wAa (jp rfl (wAc (jT (wAj rfl (wAd (jT (wAb (wAb (wAa (jp rfl (wAc (jT (wAj rfl (wAd (jT (wAb (wAb (wAa (jp rfl (jp rfl (js rfl (fun h16 => ?_) (fun h16 => ?_)))))))))))))))))))))))))))
 ·refine wAc (jT (wAg rfl (wAb (wAa (jp rfl (wAc (jT (wAe (jTr (jr1 rfl rfl ?_))))))))))
  unfold cmpV
  first | (rw [if_pos (by omega)]; done) | (rw [if_neg (by omega), if_pos (by omega)]; done) | (rw [if_neg (by omega), if_neg (by omega)]; done)
 ·refine wAc (jT (wAj rfl (wAd (jT (wAb (wAb (wAa (jp rfl (jp rfl (js rfl (fun h19 => ?_) (fun h19 => ?_)))))))))))
  ·refine wAc (jT (wAg rfl (wAb (wAa (jp rfl (wAc (jT (wAe (jTr (jr1 rfl rfl ?_))))))))))
   unfold cmpV
   first | (rw [if_pos (by omega)]; done) | (rw [if_neg (by omega), if_pos (by omega)]; done) | (rw [if_neg (by omega), if_neg (by omega)]; done)
  ·refine wAc (jT (wAj rfl (wAd (jT (wAb (wAa (jp rfl (wAc (jT (wAe (jr1 rfl rfl ?_)))))))))))
   unfold cmpV
   first | (rw [if_pos (by omega)]; done) | (rw [if_neg (by omega), if_pos (by omega)]; done) | (rw [if_neg (by omega), if_neg (by omega)]; done)
theorem find1_spec (p q : Sr) (M : Mem) :
  SpecL Tryz.prog 65 #[.agg (wDx p).toArray, .agg (wDx q).toArray] M [] fun u _ _ => u = .int .i64 (cmpV q.1.gen p.1.gen) := by
 refine wAf (vs := [_, _]) 10 _ Tryz.func65 rfl Tryz.ntmps65 rfl rfl ?_; intro W
 refine wAb (wAa (wAw rfl rfl (wCb (cs := wDx p) rfl rfl rfl rfl) ?_)); rintro _ _ _ ⟨b2, rfl, rfl, rfl⟩
 refine wAw rfl rfl (wCb (cs := wDx q) rfl rfl rfl rfl) ?_; rintro _ _ _ ⟨b3, rfl, rfl, rfl⟩
 refine jp rfl (wAc (jT (wAb (wAa (sFL rfl rfl ?_)))))
 refine sFL rfl rfl ?_
 refine wAi rfl rfl (wBf rfl rfl rfl rfl rfl (by kernel_rfl) (cmp_spec q.1.gen p.1.gen M)) ?_
 refine jp rfl (wAc (jT (wAe (jr1 rfl rfl ?_))))
 rfl
set_option maxHeartbeats 2000000 in
theorem isort_spec (g : Nat) (e : TypeId) (sp : List Value) (xs : List Sr) (c : Nat) (M : Mem) (h1 : ∀ p ∈ xs, p.2.oneCell' = true) (hn : xs.length ≤ 1000000) :
  SpecL Tryz.prog 127 #[.slice (some ⟨g, 0, none⟩) xs.length c, .int .i64 0, .int .i64 xs.length, .func (.func 65) #[] #[]] M [(g, .cells (xs.flatMap wDx ++ sp).toArray e (0, 0))] fun _ M' L' => ∃ ys : List Sr, ys.Perm xs ∧ Dsc ys xs.length ∧ L' = [(g, .cells (ys.flatMap wDx ++ sp).toArray e (0, 0))] := by
 refine wAf (vs := [_, _, _, _]) 53 _ Tryz.func127 rfl Tryz.ntmps127 rfl rfl ?_; intro W
 refine wAb (wAa (jp rfl (ja rfl (by omega) ?_)))
 refine jp rfl (wAc (jT (wAh ?_)))
 refine wAr (α := Nat × List Sr) (fun y => [(0, .slice (some ⟨g, 0, none⟩) xs.length c), (1, .int .i64 0), (2, .int .i64 xs.length), (3, .func (.func 65) #[] #[]), (8, .int .i64 y.1)]) (fun _ => M) (fun y => [(g, .cells (y.2.flatMap wDx ++ sp).toArray e (0, 0))]) (fun y => 1 ≤ y.1 ∧ y.2.Perm xs ∧ Dsc y.2 y.1) (fun y => xs.length - y.1)
  (1, xs) (.cons (t := 0) rfl (.cons (t := 1) rfl (.cons (t := 2) rfl (.cons (t := 3) rfl (.cons (t := 8) rfl .nil))))) ⟨Nat.le_refl _, List.Perm.refl _, Dsc.start _⟩ (fun _ h => h) ?_
 rintro ⟨i, ys0⟩ ⟨hi, hp0, hd0⟩
 try dsimp only at hi hp0 hd0 ⊢
 refine wAb (wAb (wAa (jp rfl (jp rfl (js rfl (fun h14 => ?_) (fun h14 => ?_))))))
 ·refine wAc (jT (wAg rfl (wAd (jT (wAb (wAh (wAb (wAa (jp rfl (jp rfl (wAc (jT (wAh ?_)))))))))))))
  refine wAr (α := Nat × List Sr) (fun y => [(0, .slice (some ⟨g, 0, none⟩) xs.length c), (1, .int .i64 0), (2, .int .i64 xs.length), (3, .func (.func 65) #[] #[]), (8, .int .i64 i), (9, .int .i64 y.1)]) (fun _ => M) (fun y => [(g, .cells (y.2.flatMap wDx ++ sp).toArray e (0, 0))]) (fun y => y.1 ≤ i ∧ y.2.Perm xs ∧ DscX y.2 (i + 1) y.1) (fun y => y.1)
   (i, ys0) (.cons (t := 0) rfl (.cons (t := 1) rfl (.cons (t := 2) rfl (.cons (t := 3) rfl (.cons (t := 8) rfl (.cons (t := 9) rfl .nil)))))) ⟨Nat.le_refl _, hp0, hd0.x⟩ (fun _ h => h) ?_
  rintro ⟨j, ys⟩ ⟨hj, hp, hd⟩
  try dsimp only at hj hp hd ⊢
  refine wAb (wAb (wBn [(0, true), (1, true), (2, true), (3, true), (4, true), (5, true), (6, true), (7, true), (8, true), (9, true), (10, true), (11, true), (12, true), (13, true), (14, true), (15, true), (16, true)] [(g, .cells (ys.flatMap wDx ++ sp).toArray e (0, 0))] (by kernel_rfl) (by kernel_rfl) (by kernel_rfl) rfl (fun _ h => h) ?_))
  iterate 2 refine dp rfl rfl ?_
  refine ds rfl rfl (fun h20 => ?_) (fun h20 => ?_)
  ·iterate 4 refine dp rfl rfl ?_
   have hyl := hp.length_eq
   have hj1 : j < ys.length := by omega
   have hj2 : j - 1 < ys.length := by omega
   refine wBi rfl rfl rfl (wBa rfl rfl rfl rfl (by omega)) ?_
   refine wBi rfl rfl rfl (wEy (cs := wDx ys[j]) rfl rfl rfl rfl rfl (rowcj (List.Mem.head _) hj1 (by simp))) ?_
   iterate 2 refine dp rfl rfl ?_
   refine da rfl rfl (by omega) ?_
   refine wBi rfl rfl rfl (wBa rfl rfl rfl rfl (by omega)) ?_
   refine wBi rfl rfl rfl (wEy (cs := wDx ys[j - 1]) rfl rfl rfl rfl rfl (rowcj (List.Mem.head _) hj2 (by simp))) ?_
   refine wBi rfl rfl rfl (wBf rfl rfl rfl rfl rfl (by kernel_rfl) (find1_spec ys[j] ys[j - 1] M)) ?_
   refine ds rfl rfl (fun h33 => ?_) (fun h33 => ?_)
   ·refine dp rfl rfl ?_
    refine wBg (jPn (jT (wAg rfl (wAd (jT (wAb (wAh (wCh (p := { A := fun i => !([15, 17].contains i), U := fun i => !([2, 3, 4, 15, 16, 17].contains i) }) [(0, true), (1, true), (2, true), (3, true), (4, true), (5, true), (6, true), (7, true), (8, true), (9, true), (10, true), (11, true), (12, true), (13, true), (14, true), (15, false), (16, true), (17, false)] M ([(g, .cells (ys.flatMap wDx ++ sp).toArray e (0, 0))]) ([]) (by kernel_rfl) (by kernel_rfl) (by kernel_rfl) (by kernel_rfl) rfl (by simp) (MLe.refl _) (by simp) ?_))))))))
    iterate 4 refine dp rfl rfl ?_
    refine jd_u rfl rfl rfl (qAk rfl rfl rfl rfl rfl (by rw [IntKind.wrap_i64]; omega)) ?_
    iterate 2 refine dp rfl rfl ?_
    refine da rfl rfl (by omega) ?_
    refine wBi rfl rfl rfl (wBa rfl rfl rfl rfl (by omega)) ?_
    refine wBi rfl rfl rfl (wEy (cs := wDx ys[j - 1]) rfl rfl rfl rfl rfl (rowcj (List.Mem.head _) hj2 (by simp))) ?_
    iterate 2 refine dp rfl rfl ?_
    refine wBi rfl rfl rfl (wBa rfl rfl rfl rfl (by omega)) ?_
    refine wBi rfl rfl rfl (wEy (cs := wDx ys[j]) rfl rfl rfl rfl rfl (rowcj (List.Mem.head _) hj1 (by simp))) ?_
    refine wBi rfl rfl rfl (wBa rfl rfl rfl rfl (by omega)) ?_
    refine jd_e rfl rfl (hSetS j rfl rfl rfl rfl (by simp) (h1 _ (hp.subset (List.getElem_mem hj2))) hj1) ?_; rintro _ _ _ ⟨rfl, rfl⟩
    refine ⟨MLe.refl _, by simp, ?_⟩
    refine je_q rfl rfl rfl (wBa rfl rfl rfl rfl (by omega)) ?_
    refine je_s rfl rfl (hSetS (j - 1) rfl rfl rfl rfl (by simp) (h1 _ (hp.subset (List.getElem_mem hj1))) (by rw [List.length_set]; exact hj2)) ?_; rintro _ _ _ ⟨rfl, rfl⟩
    refine ⟨MLe.refl _, by simp, ?_⟩
    refine wEv ?_
    refine jPn (jB (jT (wAa (jp rfl (ja rfl (by omega) ?_)))))
    refine jp rfl (wAc ?_)
    refine wAp (j - 1, _) (.cons (t := 0) rfl (.cons (t := 1) rfl (.cons (t := 2) rfl (.cons (t := 3) rfl (.cons (t := 8) rfl (Keep.ceq (t := 9) rfl (congrArg (Value.int .i64) (by show (j : Int) - 1 = ((j - 1 : Nat) : Int); omega)) Keep.nil)))))) ⟨by show j - 1 ≤ i; omega, (swap_perm hj1 (by omega)).trans hp, hd.swap hj1 (by omega) (cmpV_neg (by omega)) (by omega)⟩ (by show j - 1 < j; omega) (fun _ h => h)
   ·refine dp rfl rfl ?_
    refine wBg (jPn (jT (wAj rfl (wAs (jTx (jTx (jBx (jB (jT (wAa (jp rfl (ja rfl (by omega) ?_))))))))))))
    refine jp rfl (wAc ?_)
    have hdn : Dsc ys (i + 1) := hd.stop hj1 (by omega) (cmpV_pos (by omega))
    refine wAp (i + 1, ys) (.cons (t := 0) rfl (.cons (t := 1) rfl (.cons (t := 2) rfl (.cons (t := 3) rfl (.cons (t := 8) rfl .nil))))) ⟨by show 1 ≤ i + 1; omega, hp, hdn⟩ (by show xs.length - (i + 1) < xs.length - i; omega) (fun _ h => h)
  ·iterate 14 refine dp rfl rfl ?_
   refine wBg (jPn (jT (wAj rfl (wAs (jTx (jTx (jBx (jB (jT (wAa (jp rfl (ja rfl (by omega) ?_))))))))))))
   refine jp rfl (wAc ?_)
   have hdn : Dsc ys (i + 1) := by
    have hj0 : j = 0 := by omega
    subst hj0; exact hd.end0
   refine wAp (i + 1, ys) (.cons (t := 0) rfl (.cons (t := 1) rfl (.cons (t := 2) rfl (.cons (t := 3) rfl (.cons (t := 8) rfl .nil))))) ⟨by show 1 ≤ i + 1; omega, hp, hdn⟩ (by show xs.length - (i + 1) < xs.length - i; omega) (fun _ h => h)
 ·refine wAc (jT (wAj rfl (wAs (jTx (jTx (jBx (jrn ?_)))))))
  refine jrs (rs := []) rfl .nil ?_
  refine ⟨_, hp0, fun a b h1 h2 h3 => hd0 a b h1 (by have := hp0.length_eq; omega) h3, rfl⟩
theorem pdq_spec (g : Nat) (e : TypeId) (sp : List Value) (xs : List Sr) (c : Nat) (M : Mem) (h1 : ∀ p ∈ xs, p.2.oneCell' = true) (hn : xs.length ≤ 12) (lim : Int) :
  SpecL Tryz.prog 95 #[.slice (some ⟨g, 0, none⟩) xs.length c, .int .i64 0, .int .i64 xs.length, .int .i64 lim, .func (.func 65) #[] #[]] M [(g, .cells (xs.flatMap wDx ++ sp).toArray e (0, 0))] fun _ M' L' => ∃ ys : List Sr, ys.Perm xs ∧ Dsc ys xs.length ∧ L' = [(g, .cells (ys.flatMap wDx ++ sp).toArray e (0, 0))] := by
 refine wAf (vs := [_, _, _, _, _]) 148 _ Tryz.func95 rfl Tryz.ntmps95 rfl rfl ?_; intro W
 refine wAb (wAa (jp rfl (wAc (jT (wAb (wAa (jp rfl (wAc (jT (wAh ?_))))))))))
 refine wAr (α := Unit) (fun _ => [(0, .slice (some ⟨g, 0, none⟩) xs.length c), (1, .int .i64 0), (2, .int .i64 xs.length), (3, .int .i64 lim), (4, .func (.func 65) #[] #[])]) (fun _ => M) (fun _ => [(g, .cells (xs.flatMap wDx ++ sp).toArray e (0, 0))]) (fun _ => True) (fun _ => 0)
  () (.cons (t := 0) rfl (.cons (t := 1) rfl (.cons (t := 2) rfl (.cons (t := 3) rfl (.cons (t := 4) rfl .nil))))) trivial (fun _ h => h) ?_
 rintro _ _
 refine wAh (wAb (wAa (jp rfl (jp rfl (ja rfl (by omega) ?_)))))
 refine jp rfl (wAc (jT (wAb (wAb (wAa (jp rfl (jt rfl (decide_eq_true (by omega)) ?_)))))))
 refine wAc (jT (wAg rfl (wAb (wAa (jp rfl (jp rfl (jp rfl (jp rfl (wAw rfl rfl (wAn rfl rfl rfl rfl rfl (by kernel_rfl) (isort_spec g e sp xs c M h1 (by omega))) ?_))))))))); rintro _ M1 _ ⟨hM1, _, rfl, ys, hp, hd, rfl⟩
 refine wAc (jT (wAe (jTr (jBr (jTr (jBr (jrs (rs := []) rfl .nil ?_)))))))
 exact ⟨ys, hp, hd, rfl⟩
theorem len64_spec (n : Int) (M : Mem) (h : 0 ≤ n ∧ n < 5) :
  SpecL Tryz.prog 136 #[.int .u64 n] M [] fun u M' L' => u = .int .i64 (0 + ((tb n).toNat : Int)) := by
 refine wAf (vs := [_]) 25 _ Tryz.func136 rfl Tryz.ntmps136 rfl rfl ?_; intro W
 refine wAb (wAa (jp rfl (wAc (jT (wAb (wAb (wAa (jp rfl (jf rfl (decide_eq_false (by omega)) ?_)))))))))
 refine wAc (jT (wAj rfl (wAd (jT (wAb (wAb (wAa (jp rfl (jf rfl (decide_eq_false (by omega)) ?_)))))))))
 refine wAc (jT (wAj rfl (wAd (jT (wAb (wAb (wAa (jp rfl (jf rfl (decide_eq_false (by omega)) ?_)))))))))
 refine wAc (jT (wAj rfl (wAd (jT (wAb (wAa (jp rfl (jp rfl ?_))))))))
 have htb := (tb n).toNat_lt
 refine wAi rfl rfl (qConvK rfl rfl rfl (by rw [IntKind.wrap_u8]; omega)) ?_
 refine wAi rfl rfl (qIdxStr (b := tb n) rfl rfl rfl rfl (by omega) (by have h5 : n = 0 ∨ n = 1 ∨ n = 2 ∨ n = 3 ∨ n = 4 := (by omega); rcases h5 with rfl | rfl | rfl | rfl | rfl <;> decide +kernel)) ?_
 refine wAi rfl rfl (wEj rfl rfl rfl (by omega)) ?_
 refine ja rfl (by omega) ?_
 refine jp rfl (wAc (jT (wAe (jr1 rfl rfl ?_))))
 rfl
theorem len_spec (n : Int) (M : Mem) (h : 0 ≤ n ∧ n < 5) :
  SpecL Tryz.prog 96 #[.int .u64 n] M [] fun u M' L' => u = .int .i64 (0 + ((tb n).toNat : Int)) := by
 refine wAf (vs := [_]) 8 _ Tryz.func96 rfl Tryz.ntmps96 rfl rfl ?_; intro W
 refine wAb (wAa (jp rfl (wAc (jT (wAb (wAj rfl (wAd (jT (wAb (wAa (jp rfl (wAi rfl rfl (wBf rfl rfl rfl rfl rfl (by kernel_rfl) (len64_spec n M h)) ?_))))))))))))
 refine jp rfl (wAc (jT (wAe (jr1 rfl rfl ?_))))
 rfl
theorem sortf_spec (g : Nat) (e : TypeId) (sp : List Value) (xs : List Sr) (c : Nat) (M : Mem) (h1 : ∀ p ∈ xs, p.2.oneCell' = true) (hn : xs.length ≤ 4) :
  SpecL Tryz.prog 64 #[.slice (some ⟨g, 0, none⟩) xs.length c, .func (.func 65) #[] #[]] M [(g, .cells (xs.flatMap wDx ++ sp).toArray e (0, 0))] fun _ M' L' => ∃ ys : List Sr, ys.Perm xs ∧ Dsc ys xs.length ∧ L' = [(g, .cells (ys.flatMap wDx ++ sp).toArray e (0, 0))] := by
 refine wAf (vs := [_, _]) 14 _ Tryz.func64 rfl Tryz.ntmps64 rfl rfl ?_; intro W
 refine wAb (wAa (jp rfl (wAi rfl rfl (wBq rfl rfl rfl) ?_)))
 refine jp rfl (wAc (jT (wAa (jp rfl (jp rfl (jp rfl ?_))))))
 refine wAi rfl rfl (qConvK rfl rfl rfl (by rw [IntKind.wrap_u64]; omega)) ?_
 refine wAi rfl rfl (wBf rfl rfl rfl rfl rfl (by kernel_rfl) (len_spec xs.length M (by omega))) ?_
 refine jp rfl (wAw rfl rfl (wAn rfl rfl rfl rfl rfl (by kernel_rfl) (pdq_spec g e sp xs c M h1 (by omega) _)) ?_); rintro _ M1 _ ⟨hM1, _, rfl, ys, hp, hd, rfl⟩
 refine wAc (jrn ?_)
 refine jrs (rs := []) rfl .nil ?_
 exact ⟨ys, hp, hd, rfl⟩
def gt2 (xs : List By) (a : Nat) : Int := if a + 2 ≤ xs.length then wHi xs a 2 else 0
def ge2 (xs : List By) (a : Nat) : Int := if a + 2 ≤ xs.length then 0 else 8
theorem wJr (xs : List By) (a : Nat) : (ge2 xs a = 0 ∧ a + 2 ≤ xs.length ∧ gt2 xs a = wHi xs a 2) ∨ (ge2 xs a = 8 ∧ ¬ a + 2 ≤ xs.length) := by
 unfold ge2 gt2
 by_cases h : a + 2 ≤ xs.length
 ·rw [if_pos h, if_pos h]; exact .inl ⟨rfl, h, rfl⟩
 ·rw [if_neg h]; exact .inr ⟨rfl, h⟩
theorem gtwo_any (sa : Option Addr) (c : Nat) (xs : List By) (a : Nat) (M : Mem) (hs : SM M sa (wAk xs)) (hc : xs.length ≤ c) (ha : a ≤ 1000) (hn : xs.length ≤ 1000000) (ai : Int) (hai : ai = (a : Int)) :
  SpecL Tryz.prog 94 #[.slice sa xs.length c, .int .i64 ai] M [] fun v _ _ => v = .tuple #[.int .i64 (gt2 xs a), .int .i64 (ge2 xs a)] := by
 subst hai
 unfold gt2 ge2
 by_cases h : a + 2 ≤ xs.length
 ·rw [if_pos h, if_pos h]; exact wFe sa c xs a M hs hc h hn
 ·rw [if_neg h, if_neg h]; exact getTwo_bad sa c xs a M hn h ha
def dsu (xs : List By) (k : Nat) : List Int := (List.range k).map fun i => wHi (xs.drop 4) (15 + 2 * i) 2
theorem dsu_step (xs : List By) (k : Nat) : dsu xs (k + 1) = dsu xs k ++ [wHi (xs.drop 4) (15 + 2 * k) 2] := by
 unfold dsu; rw [List.range_succ, List.map_append]; rfl
theorem rsu_dead (xs : List By) : (rsu xs).dead = dsu xs (suNo xs) := rfl
theorem dsu_len (xs : List By) (k : Nat) : (dsu xs k).length = k := by simp [dsu]
theorem wGa (xs : List By) : (rsu xs).dead.length = suNo xs := dsu_len _ _
def RdP (xs : List By) (u : Value) (M' : Mem) : Prop := ∃ x dv e, u = .tuple #[.agg (suc x dv).toArray, .int .i64 e] ∧ ((e = 0 ∧ suIs xs ∧ x = rsu xs ∧ NI M' dv x.dead) ∨ (e ≠ 0 ∧ ¬ suIs xs ∧ dv = .slice none 0 0))
theorem RwP.form {x : Su} {u : Value} {M' : Mem} (h : if suOk x then ∃ s, u = .tuple #[s, .int .i64 0] ∧ BS M' s (suB x) else u = .tuple #[.slice none 0 0, .int .i64 8]) :
  ∃ a n c e, u = .tuple #[.slice a n c, .int .i64 e] ∧ ((e = 0 ∧ suOk x ∧ BS M' (.slice a n c) (suB x)) ∨ (e ≠ 0 ∧ ¬ suOk x)) := by
 split at h
 ·rename_i hok
  obtain ⟨s, rfl, a, c, rfl, h1, h2⟩ := h
  exact ⟨a, _, c, 0, rfl, .inl ⟨rfl, hok, a, c, rfl, h1, h2⟩⟩
 ·rename_i hno
  exact ⟨none, 0, 0, 8, h, .inr ⟨by decide, hno⟩⟩
theorem suIs_no {xs : List By} (h : wEk xs ≠ 0) : ¬ suIs xs := fun k => h k.1
theorem openE_len {xs : List By} (h : wEk xs = 0) : xs.length = 128 := by
 unfold wEk at h
 split at h
 ·cases h
 ·omega
set_option maxHeartbeats 2000000 in
theorem rread_walk (xs : List By) (xa : Option Addr) (xc : Nat) (M : Mem) (hv : BS M (.slice xa xs.length xc) xs) :
  SpecL Tryz.prog 62 #[.slice xa xs.length xc] M [] fun u M' L' => RdP xs u M' ∧ L' = [] := by
 refine wAf (vs := [_]) 83 _ Tryz.func62 rfl Tryz.ntmps62 rfl rfl ?_; intro W
 refine wAb (wAa (sAl rfl fun b2 => ?_))
 refine jp rfl (wAc (jT (wAb (wAa (jp rfl (wAw rfl rfl (wAn rfl rfl rfl rfl rfl (by kernel_rfl) (wJi _ xs M hv)) ?_)))))); rintro _ M1 _ ⟨hM1, _, rfl, ⟨s, rfl, hs, rfl⟩⟩
 simp only [nA]
 refine jp rfl (jp rfl (jp rfl (jp rfl (jp rfl (wAc (jT (wAb (wAb (wAa (jp rfl (js rfl (fun h16 => ?_) (fun h16 => ?_))))))))))))
 ·refine wAc (jT (wAg rfl (wAb (wAa (wAi rfl rfl (wAq (cs := [_, _, _, _, _]) rfl rfl rfl (by rfl)) ?_)))))
  refine jp rfl (sSt rfl ?_)
  refine jp rfl (wAc (jT (wAe (jTr (wCd (rs := [_, _]) ([]) (by exact List.nil_sublist _) rfl (.cons (.agg rfl rfl rfl) (.cons (.tmp rfl) .nil)) ?_)))))
  exact ⟨⟨⟨0, 0, 0, 0, []⟩, _, wEk xs, rfl, .inr ⟨h16, suIs_no h16, rfl⟩⟩, rfl⟩
 ·refine wAc (jT (wAj rfl (wAd (jT (wAb (wAa (jp rfl ?_)))))))
  have hoe : wEk xs = 0 := Classical.not_not.1 h16
  have hxl : xs.length = 128 := openE_len hoe
  obtain ⟨sa, sc, rfl, hsc, hss⟩ := hs hoe
  have hbl : (xs.drop 4).length = 124 := by rw [List.length_drop]; omega
  obtain ⟨sb, so, e0, hx⟩ := hss.open (by intro e; have := congrArg List.length e; rw [wAu, List.length_nil] at this; omega)
  subst e0
  have hno : ((xs.drop 4).getD 14 0).toNat = suNo xs := by unfold suNo; simp [List.getD, List.getElem?_drop]
  have hlt := ((xs.drop 4).getD 14 0).toNat_lt
  refine wAi rfl rfl (wBf rfl rfl rfl rfl rfl (by kernel_rfl) (wCm _ sc (xs.drop 4) 0 M1 hss hsc (by omega) (by omega))) ?_
  refine jp rfl (jp rfl (jp rfl (sFa rfl ?_)))
  refine sSt rfl ?_
  refine wAc (jT (wAb (wAa (jp rfl (wAi rfl rfl (wBf rfl rfl rfl rfl rfl (by kernel_rfl) (wFe _ sc (xs.drop 4) 4 M1 hss hsc (by omega) (by omega))) ?_)))))
  refine jp rfl (jp rfl (jp rfl (sFa rfl ?_)))
  refine sSt rfl ?_
  refine wAc (jT (wAb (wAa (jp rfl (wAi rfl rfl (wBf rfl rfl rfl rfl rfl (by kernel_rfl) (wCm _ sc (xs.drop 4) 6 M1 hss hsc (by omega) (by omega))) ?_)))))
  refine jp rfl (jp rfl (jp rfl (sFa rfl ?_)))
  refine sSt rfl ?_
  refine wAc (jT (wAb (wAa (jp rfl (wAi rfl rfl (wBf rfl rfl rfl rfl rfl (by kernel_rfl) (wCm _ sc (xs.drop 4) 10 M1 hss hsc (by omega) (by omega))) ?_)))))
  refine jp rfl (jp rfl (jp rfl (sFa rfl ?_)))
  refine sSt rfl ?_
  refine wAc (jT (wAb (wAb (wAa (jp rfl (wAi rfl rfl (wBa rfl rfl rfl rfl (by omega)) ?_))))))
  refine wAi rfl rfl (qLd rfl rfl rfl rfl ((hx ((14 : Int).toNat * 1) _ (wHu (j := 14) (by omega))).cj _)) ?_
  refine wAi rfl rfl (qEq (wEj rfl rfl rfl (by omega)) (v' := .int .i64 (suNo xs)) (by rw [hno])) ?_
  refine jp rfl (wAc (jT (wAh ?_)))
  refine wAr (α := Nat × Lc × Value) (fun y => [(0, .slice xa xs.length xc), (2, .pointer (some ⟨b2, 0, none⟩)), (4, .slice (some ⟨sb, so, none⟩) (xs.drop 4).length sc), (46, .int .i64 (suNo xs)), (47, .int .i64 y.1)]) (fun _ => M1) (fun y => y.2.1 ++ [(b2, .cells (suc ⟨wHi (xs.drop 4) 0 4, wHi (xs.drop 4) 4 2, wHi (xs.drop 4) 6 4, wHi (xs.drop 4) 10 4, []⟩ y.2.2).toArray TSu (0, 0))]) (fun y => y.1 ≤ suNo xs ∧ 15 + 2 * y.1 ≤ 124 ∧ Own y.2.2 y.2.1 3 1 y.1 (wBj (dsu xs y.1))) (fun y => suNo xs - y.1)
   (0, [], .slice none 0 0) (.cons (t := 0) rfl (.cons (t := 2) rfl (.cons (t := 4) rfl (.cons (t := 46) rfl (.cons (t := 47) rfl .nil))))) ⟨Nat.zero_le _, by decide, Own.nil _ _⟩ (fun _ h => h) ?_
  rintro ⟨k, R, s⟩ ⟨hk, hk2, hown⟩
  try dsimp only at hk hk2 hown ⊢
  obtain ⟨a1, c1, rfl⟩ := hown.form
  refine wAb (wAa (js rfl (fun h48 => ?_) (fun h48 => ?_)))
  ·refine wAc (jT (wAb (wAg rfl (wAd (jT (wAb (wAh (wAb (wAa (jp rfl (jp rfl (wAc (jT (wAb (wAa (jp rfl (jp rfl (ja rfl (by omega) ?_))))))))))))))))))
   refine ja rfl (by omega) ?_
   refine wAi rfl rfl (wBf rfl rfl rfl rfl rfl (by kernel_rfl) (gtwo_any _ sc (xs.drop 4) (15 + 2 * k) M1 hss hsc (by omega) (by omega) _ (by omega))) ?_
   refine jp rfl (jp rfl (jp rfl (jp rfl (jp rfl (wAc (jT (wAb (wAb (wAa (jp rfl (js rfl (fun h59 => ?_) (fun h59 => ?_))))))))))))
   ·refine wAc (jT (wAg rfl (wAb (wAa (wAi rfl rfl (wAq (cs := [_, _, _, _, _]) rfl rfl rfl (by rfl)) ?_)))))
    refine sSt rfl ?_
    refine jp rfl (wAc (jT (wAe (jTr (jBr (jTr (jTr (jBr (jTr (wCd (rs := [_, _]) ([]) (by exact List.nil_sublist _) rfl (.cons (.agg rfl rfl rfl) (.cons (.tmp rfl) .nil)) ?_))))))))))
    first | (refine ⟨⟨⟨0, 0, 0, 0, []⟩, .slice none 0 0, 8, rfl, .inr ⟨by decide, fun h => (by have h1 := h.2.1; have hg := wJr (xs.drop 4) (15 + 2 * k); omega), rfl⟩⟩, rfl⟩; done) | (refine ⟨⟨⟨0, 0, 0, 0, []⟩, .slice none 0 0, 8, rfl, .inr ⟨by decide, fun h => (by rcases hwf with ⟨h1, _⟩ | ⟨_, h1⟩; exact h74 h1; exact h1 h.2.2.1), rfl⟩⟩, rfl⟩; done) | (refine ⟨⟨⟨0, 0, 0, 0, []⟩, .slice none 0 0, 8, rfl, .inr ⟨by decide, fun h => (by exact (of_decide_eq_false h78) h.2.2.2), rfl⟩⟩, rfl⟩; done) | (refine ⟨⟨rsu xs, .slice a1 (suNo xs) c1, 0, rfl, .inl ⟨rfl, ⟨hoe, hk2, hok, of_decide_eq_true h78⟩, rfl, a1, c1, by rw [wGa], by rw [wGa]; exact hdc, hds.mono hM3⟩⟩, rfl⟩; done)
   ·refine wAc (jT (wAj rfl (wAd (jT (wAa (sFL rfl rfl ?_))))))
    refine jp rfl (wAw rfl rfl (wAm (cs := [_]) rfl rfl rfl (by rfl) (by rfl) (by rfl)) ?_); rintro _ _ _ ⟨b64, rfl, rfl, rfl⟩
    refine wAw rfl rfl (wDd (R := R) (m := 1) rfl rfl rfl rfl hown rfl (fun i v hv => CJ.loc (by simpa using hv)) rfl (by rfl) (by simp [Value.oneCell']) (by omega) (by omega)) ?_; rintro s2 _ _ ⟨rfl, R2, rfl, hown2, _⟩
    obtain ⟨a2, c2, rfl⟩ := hown2.form
    refine sFa rfl ?_
    refine sSt rfl ?_
    refine wAc (jB (jT (wAa (ja rfl (by omega) ?_))))
    refine jp rfl (wAc ?_)
    have hg := wJr (xs.drop 4) (15 + 2 * k)
    have hg2 : 15 + 2 * k + 2 ≤ (xs.drop 4).length ∧ gt2 (xs.drop 4) (15 + 2 * k) = wHi (xs.drop 4) (15 + 2 * k) 2 := by
     rcases hg with ⟨_, h1, h2⟩ | ⟨h1, _⟩
     ·exact ⟨h1, h2⟩
     ·exact absurd h1 (by omega)
    refine wAp (k + 1, R2, .slice a2 (k + 1) c2) (.cons (t := 0) rfl (.cons (t := 2) rfl (.cons (t := 4) rfl (.cons (t := 46) rfl (.cons (t := 47) rfl .nil))))) ⟨by show k + 1 ≤ suNo xs; omega, by show 15 + 2 * (k + 1) ≤ 124; omega, by show Own _ _ _ _ _ (wBj (dsu xs (k + 1))); rw [dsu_step, ← hg2.2]; simpa [wBj] using hown2⟩ (by show suNo xs - (k + 1) < suNo xs - k; omega) (fun _ h => h.fewer (.append (List.Sublist.refl _) (.cons _ (List.Sublist.refl _))))
  ·refine wAc (jT (wAb (wAj rfl (wAs (jTx (jTx (jBx (jT (wAb (wAb (wAa (sLL rfl ?_))))))))))))
   obtain rfl : k = suNo xs := by omega
   refine wHv hown (by simp) ?_
   intro M2 da dc hM2 ed hdc hds; cases ed
   refine wAw rfl rfl (wAn rfl rfl rfl rfl rfl (by kernel_rfl) (by have h1 := rwrite_spec (rsu xs) a1 c1 M2 (by rw [wGa]; exact hdc) (by rw [rsu_dead]; exact hds) (by rw [wGa]; omega); rw [wGa] at h1; exact h1)) ?_; rintro _ M3 _ ⟨hM3, _, rfl, ⟨hw, rfl⟩⟩
   simp only [nA]
   obtain ⟨wa, wn, wc, we, rfl, hwf⟩ := RwP.form hw
   refine jp rfl (jp rfl (jp rfl (jp rfl (jp rfl (wAc (jT (wAb (wAa (jp rfl (js rfl (fun h74 => ?_) (fun h74 => ?_)))))))))))
   ·refine jp rfl (jp rfl (jp rfl (jp rfl (jp rfl (jp rfl (wAc (jT (wAg rfl (wAb (wAa (wAi rfl rfl (wAq (cs := [_, _, _, _, _]) rfl rfl rfl (by rfl)) ?_)))))))))))
    refine sSt rfl ?_
    refine jp rfl (wAc (jT (wAe (jTr (wCd (rs := [_, _]) ([]) (by exact List.nil_sublist _) rfl (.cons (.agg rfl rfl rfl) (.cons (.tmp rfl) .nil)) ?_)))))
    first | (refine ⟨⟨⟨0, 0, 0, 0, []⟩, .slice none 0 0, 8, rfl, .inr ⟨by decide, fun h => (by have h1 := h.2.1; have hg := wJr (xs.drop 4) (15 + 2 * k); omega), rfl⟩⟩, rfl⟩; done) | (refine ⟨⟨⟨0, 0, 0, 0, []⟩, .slice none 0 0, 8, rfl, .inr ⟨by decide, fun h => (by rcases hwf with ⟨h1, _⟩ | ⟨_, h1⟩; exact h74 h1; exact h1 h.2.2.1), rfl⟩⟩, rfl⟩; done) | (refine ⟨⟨⟨0, 0, 0, 0, []⟩, .slice none 0 0, 8, rfl, .inr ⟨by decide, fun h => (by exact (of_decide_eq_false h78) h.2.2.2), rfl⟩⟩, rfl⟩; done) | (refine ⟨⟨rsu xs, .slice a1 (suNo xs) c1, 0, rfl, .inl ⟨rfl, ⟨hoe, hk2, hok, of_decide_eq_true h78⟩, rfl, a1, c1, by rw [wGa], by rw [wGa]; exact hdc, hds.mono hM3⟩⟩, rfl⟩; done)
   ·refine jp rfl (jp rfl (jp rfl ?_))
    obtain ⟨_, hok, hwb⟩ | ⟨h1, _⟩ := hwf
    rotate_left
    ·exact absurd (Classical.not_not.1 h74) h1
    refine wDp rfl rfl (wBf rfl rfl rfl rfl rfl (by kernel_rfl) (equal_spec _ _ (suB (rsu xs)) xs M3 hwb (hv.mono ((hM1.trans hM2).trans hM3)))) (fun h78 => ?_) (fun h78 => ?_)
    ·refine jp rfl (jp rfl (wAc (jT (wAj rfl (wAd (jT (wAb (wAa (sLL rfl ?_)))))))))
     refine sSt rfl ?_
     refine jp rfl (wAc (jT (wAe (wCd (rs := [_, _]) ([]) (by exact List.nil_sublist _) rfl (.cons (.agg rfl rfl rfl) (.cons (.tmp rfl) .nil)) ?_))))
     first | (refine ⟨⟨⟨0, 0, 0, 0, []⟩, .slice none 0 0, 8, rfl, .inr ⟨by decide, fun h => (by have h1 := h.2.1; have hg := wJr (xs.drop 4) (15 + 2 * k); omega), rfl⟩⟩, rfl⟩; done) | (refine ⟨⟨⟨0, 0, 0, 0, []⟩, .slice none 0 0, 8, rfl, .inr ⟨by decide, fun h => (by rcases hwf with ⟨h1, _⟩ | ⟨_, h1⟩; exact h74 h1; exact h1 h.2.2.1), rfl⟩⟩, rfl⟩; done) | (refine ⟨⟨⟨0, 0, 0, 0, []⟩, .slice none 0 0, 8, rfl, .inr ⟨by decide, fun h => (by exact (of_decide_eq_false h78) h.2.2.2), rfl⟩⟩, rfl⟩; done) | (refine ⟨⟨rsu xs, .slice a1 (suNo xs) c1, 0, rfl, .inl ⟨rfl, ⟨hoe, hk2, hok, of_decide_eq_true h78⟩, rfl, a1, c1, by rw [wGa], by rw [wGa]; exact hdc, hds.mono hM3⟩⟩, rfl⟩; done)
    ·refine jp rfl (jp rfl (wAc (jT (wAg rfl (wAb (wAa (wAi rfl rfl (wAq (cs := [_, _, _, _, _]) rfl rfl rfl (by rfl)) ?_)))))))
     refine sSt rfl ?_
     refine jp rfl (wAc (jT (wAe (jTr (wCd (rs := [_, _]) ([]) (by exact List.nil_sublist _) rfl (.cons (.agg rfl rfl rfl) (.cons (.tmp rfl) .nil)) ?_)))))
     first | (refine ⟨⟨⟨0, 0, 0, 0, []⟩, .slice none 0 0, 8, rfl, .inr ⟨by decide, fun h => (by have h1 := h.2.1; have hg := wJr (xs.drop 4) (15 + 2 * k); omega), rfl⟩⟩, rfl⟩; done) | (refine ⟨⟨⟨0, 0, 0, 0, []⟩, .slice none 0 0, 8, rfl, .inr ⟨by decide, fun h => (by rcases hwf with ⟨h1, _⟩ | ⟨_, h1⟩; exact h74 h1; exact h1 h.2.2.1), rfl⟩⟩, rfl⟩; done) | (refine ⟨⟨⟨0, 0, 0, 0, []⟩, .slice none 0 0, 8, rfl, .inr ⟨by decide, fun h => (by exact (of_decide_eq_false h78) h.2.2.2), rfl⟩⟩, rfl⟩; done) | (refine ⟨⟨rsu xs, .slice a1 (suNo xs) c1, 0, rfl, .inl ⟨rfl, ⟨hoe, hk2, hok, of_decide_eq_true h78⟩, rfl, a1, c1, by rw [wGa], by rw [wGa]; exact hdc, hds.mono hM3⟩⟩, rfl⟩; done)
theorem rread_spec (xs : List By) (v : Value) (M : Mem) (h : BS M v xs) : SpecL Tryz.prog 62 #[v] M [] fun u M' L' => RdP xs u M' ∧ L' = [] := by
 obtain ⟨a, c, rfl, _⟩ := id h
 exact rread_walk xs a c M h
theorem RdP.form {xs : List By} {u : Value} {M' : Mem} (h : RdP xs u M') : ∃ x da dn dc e, u = .tuple #[.agg (suc x (.slice da dn dc)).toArray, .int .i64 e] ∧ ((e = 0 ∧ suIs xs ∧ x = rsu xs ∧ NI M' (.slice da dn dc) x.dead) ∨ (e ≠ 0 ∧ ¬ suIs xs)) := by
 obtain ⟨x, dv, e, rfl, ⟨h1, h2, h3, h4⟩ | ⟨h1, h2, rfl⟩⟩ := h
 ·obtain ⟨a, c, rfl, _⟩ := id h4
  exact ⟨x, a, _, c, e, rfl, .inl ⟨h1, h2, h3, h4⟩⟩
 ·exact ⟨x, none, 0, 0, e, rfl, .inr ⟨h1, h2⟩⟩
section
variable {P : Program} {ops : Array Oper} {N : Fs} {F : Fr} {W : World} {X : List Nat} {M0 M : Mem} {L : Lc} {Q : Exit → Act → World → Prop} {rest : List Oper}
theorem jl_ownX {v : Value} {R L2 : Lc} {e : TypeId} {size n : Nat} {xs : List Value} (ho : Own v R e size n xs) [hp : Pick R L L2] (hg : ∀ x ∈ X, x ∈ L2.map (·.1))
  (h : ∀ M' a cap, MLe M M' → v = .slice a n cap → n ≤ cap → SM M' a xs → JL P ops N Q rest F ⟨W, X, M0⟩ M' L2) : JL P ops N Q rest F ⟨W, X, M0⟩ M L := by
 intro a w ha hw
 have hw' := hw.perm hp.perm
 have hn := hw'.nodup
 rw [List.map_append] at hn
 have hd := (List.nodup_append.1 hn).2.2
 obtain ⟨M', ad, cap, k1, k2, k3, k4, k5⟩ := ho.freeze (fun p hpR hpX => hd _ (List.mem_map_of_mem hpR) _ (hg _ hpX) rfl) hw'
 exact h M' ad cap k1 k2 k3 k4 a w ha k5
end
theorem seen_128 {s : Sto} (h : dkOk s.blocks s.waits) {k : Nat} (hk : k < 256) : (wCo s k).length = 128 := by
 obtain ⟨h1, h2, h3, h4⟩ := h
 unfold wCo
 split
 ·rename_i w hw
  exact (h4 w (List.mem_reverse.1 (List.mem_of_find?_eq_some hw))).2.2
 ·rw [wDv (by omega)]; exact h3 _ (List.getElem_mem _)
set_option maxHeartbeats 2000000 in
theorem dread_walk (s : Sto) (k : Nat) (hk : k < 256) (hdk : dkOk s.blocks s.waits) (bv : Value) (wa : Option Addr) (wc : Nat) (ps : List (Wt × Value)) (M : Mem) (h1 : LS M bv s.blocks) (hwc : s.waits.length ≤ wc) (hws : SM M wa (ps.flatMap wCf)) (hp : ps.map (·.1) = s.waits) (hb : ∀ q ∈ ps, BS M q.2 q.1.2) :
  SpecL Tryz.prog 61 #[.agg #[bv, .slice wa s.waits.length wc], .int .i64 k] M [] fun u M' L' => (∃ v, u = .tuple #[v, .int .i64 0] ∧ BS M' v (wCo s k)) ∧ L' = [] := by
 obtain ⟨hq1, hq2, hq3, hq4⟩ := id hdk
 have h1c := h1
 obtain ⟨ba, bc, ps1, rfl, hbc, hbs, hbp, hbb⟩ := h1
 obtain ⟨bb, bo, e0, hbx⟩ := hbs.open (by intro e; have := congrArg List.length e; rw [List.length_map, List.length_nil] at this; have h2 := congrArg List.length hbp; rw [List.length_map] at h2; omega)
 subst e0
 obtain ⟨va, vc, hcl, hvc, hvs⟩ := wCn hbx hbp hbb (k := k) (by omega)
 have hwsw : WS M (.slice wa s.waits.length wc) s.waits := ⟨wa, wc, ps, rfl, hwc, hws, hp, hb⟩
 have hlk : s.blocks[k].length = 128 := hq3 _ (List.getElem_mem _)
 refine wAf (vs := [_, _]) 33 _ Tryz.func61 rfl Tryz.ntmps61 rfl rfl ?_; intro W
 refine wAb (wAa (wAw rfl rfl (wCb (cs := [_, _]) rfl rfl rfl rfl) ?_)); rintro _ _ _ ⟨b2, rfl, rfl, rfl⟩
 refine wAw rfl rfl (wCb (cs := [.int .i64 k]) rfl rfl rfl rfl) ?_; rintro _ _ _ ⟨b3, rfl, rfl, rfl⟩
 refine sAl rfl fun b4 => ?_
 refine sAl rfl fun b5 => ?_
 refine wAc (jT (wAb (wAb (wAa (sLL rfl ?_)))))
 refine sLd rfl ?_
 refine wAi rfl rfl (wBf rfl rfl rfl rfl rfl (by kernel_rfl) (dasked_spec s.blocks s.waits _ _ M h1c hwsw hdk k (by omega))) ?_
 refine jp rfl (wAc (jT (wAb (wAa (jp rfl (jf rfl (decide_eq_false (by omega)) ?_))))))
 refine wAc (jT (wAj rfl (wAd (jT (wAb (wAb (wAa (sFL rfl rfl ?_))))))))
 refine wAw rfl rfl (wAn rfl rfl rfl rfl rfl (by kernel_rfl) (bww _ _ _ M)) ?_; rintro _ M1 _ ⟨hM1, _, rfl, ⟨b36, rfl, e36, rfl⟩⟩
 have hpl : ps.length = s.waits.length := by rw [← hp, List.length_map]
 rw [← hpl] at e36
 refine wAc (jT (wAh (wEc b2 (by simp) ?_)))
 intro M2f hM2f e2
 refine wEc b3 (by simp) ?_
 intro M1f hM1f e3
 replace e2 := hM1f _ _ e2
 replace e36 := hM1f _ _ (hM2f _ _ e36)
 replace hM1 := hM1.trans (hM2f.trans hM1f)
 refine wHq (R := [(b5, .cells [.int .i64 0].toArray 35 (0, 0)), (b4, .cells [.slice none 0 0].toArray 26 (0, 0))]) (xs := bw ps 0) (enc := (fun p : (Wt × Value) × Nat => [.int .i64 p.2, .agg (wCf p.1).toArray])) (ps := [18, 19]) rfl (by kernel_rfl) (bww_iter b36 wa wc ps M1f e36 (hws.mono hM1) (by omega))
  (fun pre _ R => R = [(b5, .cells [.int .i64 0].toArray 35 (0, 0)), (b4, .cells [.slice none 0 0].toArray 26 (0, 0))] ∧ ∀ q ∈ pre, q.1.1.1 ≠ (k : Int))
  (fun c _ M' R => c = .ret ∧ ∃ v, R = [(b5, .cells [.int .i64 0].toArray 35 (0, 0)), (b4, .cells [v].toArray 26 (0, 0))] ∧ BS M' v (wCo s k))
  (fun _ => rfl) (by decide) ⟨rfl, fun _ h => by cases h⟩ ?_ ?_ ?_
 ·intro l W2 pre y M2 R2 hM2 hI hpre
  obtain ⟨rfl, hI⟩ := hI
  have hym : y.1 ∈ ps := bw_mem (hpre.subset (by simp))
  obtain ⟨⟨yw, yv⟩, yi⟩ := y
  have hyb := hb _ hym
  obtain ⟨ya, yc, hyv, hyc, hys⟩ := id hyb
  change yv = Value.slice ya yw.2.length yc at hyv; subst hyv
  refine wAa (sAl rfl fun b8 => ?_)
  refine sSt rfl ?_
  refine wAc (jK fun W' => ?_)
  refine wAh (wAb (wAa (sFL rfl rfl ?_)))
  refine wAi rfl rfl (qLd rfl rfl rfl rfl (CM.cj ⟨_, _, _, hM2 _ _ e3, rfl⟩ _)) ?_
  refine js rfl (fun h23 => ?_) (fun h23 => ?_)
  ·refine wAc (jT (wAg rfl (wAb (wAa (sFL rfl rfl ?_)))))
   refine wAw rfl rfl (wAn rfl rfl rfl rfl rfl (by kernel_rfl) (wCt _ yw.2 M2 (hyb.mono (hM1.trans hM2)) (by have := (hq4 yw (by rw [← hp]; exact List.mem_map_of_mem hym)).2.2; omega))) ?_; rintro _ M3 _ ⟨hM3, Rc, rfl, hownc⟩
   refine jl_ownX hownc (by simp) ?_
   intro M4 ca cc hM4 ec hcc hcs; cases ec
   refine sSt rfl ?_
   refine sSt rfl ?_
   refine wAc (jT (wAe (jBr (wAv (L' := [(b5, .cells [.int .i64 0].toArray 35 (0, 0)), (b4, .cells [.slice ca yw.2.length cc].toArray 26 (0, 0))]) (by simp) ?_))))
   refine jQr ?_
   refine ⟨rfl, _, rfl, ?_⟩
   rw [seen_some hp hpre hI h23]
   exact ⟨ca, cc, rfl, hcc, hcs⟩
  ·refine wAc (jT (wAj rfl (wAd (jB (wAv (L' := [(b5, .cells [.int .i64 0].toArray 35 (0, 0)), (b4, .cells [.slice none 0 0].toArray 26 (0, 0))]) (by simp) ?_)))))
   refine jQn ?_
   refine ⟨rfl, fun q hq => ?_⟩
   rcases List.mem_append.1 hq with hq | hq
   ·exact hI q hq
   ·rw [List.mem_singleton.1 hq]; exact h23
 ·intro d M2 R2 hM2 hI
  obtain ⟨rfl, hI⟩ := hI
  have hsn := seen_none hp hI
  rw [wDv (by omega)] at hsn
  refine jB (jT (wAb (wAa (sFa rfl ?_))))
  refine wAi rfl rfl (qLd rfl rfl rfl rfl (CM.cj ⟨_, _, _, hM2 _ _ e2, rfl⟩ _)) ?_
  refine wAi rfl rfl (qLd rfl rfl rfl rfl (CM.cj ⟨_, _, _, hM2 _ _ e3, rfl⟩ _)) ?_
  refine wAi rfl rfl (wBa rfl rfl rfl rfl (by omega)) ?_
  refine wAi rfl rfl (qLd rfl rfl rfl rfl ((hcl.mono (hM1.trans hM2)).cj _)) ?_
  refine wAw rfl rfl (wAn rfl rfl rfl rfl rfl (by kernel_rfl) (wCt _ s.blocks[k] M2 ⟨va, vc, rfl, hvc, hvs.mono (hM1.trans hM2)⟩ (by omega))) ?_; rintro _ M3 _ ⟨hM3, Rc, rfl, hownc⟩
  refine wHv hownc (by simp) ?_
  intro M4 ca cc hM4 ec hcc hcs; cases ec
  refine sSt rfl ?_
  refine sSt rfl ?_
  refine wAc (jT (wAe (wDo (L2 := _) Rm.perm ?_)))
  refine wCd (rs := [_, _]) ([]) (by simp) rfl (.cons (.one rfl rfl rfl) (.cons (.one rfl rfl rfl) .nil)) ?_
  exact ⟨⟨_, rfl, by rw [hsn]; exact ⟨ca, cc, rfl, hcc, hcs⟩⟩, rfl⟩
 ·intro d c pre M2 R2 hM2 hpre hI
  obtain ⟨rfl, v6, rfl, a6, c6, rfl, hc6, hs6⟩ := hI
  refine wAe (jBr (jTr (wDo (L2 := _) Rm.perm ?_)))
  refine wCd (rs := [_, _]) ([]) (by simp) rfl (.cons (.one rfl rfl rfl) (.cons (.one rfl rfl rfl) .nil)) ?_
  exact ⟨⟨_, rfl, a6, c6, rfl, hc6, hs6⟩, rfl⟩
theorem dread_spec (s : Sto) (k : Nat) (bv wv : Value) (M : Mem) (h1 : LS M bv s.blocks) (h2 : WS M wv s.waits) (hdk : dkOk s.blocks s.waits) (hk : k < 256) : SpecL Tryz.prog 61 #[.agg #[bv, wv], .int .i64 k] M [] fun u M' L' => (∃ v, u = .tuple #[v, .int .i64 0] ∧ BS M' v (wCo s k)) ∧ L' = [] := by
 obtain ⟨wa, wc, ps, rfl, hwc, hws, hp, hb⟩ := h2
 exact dread_walk s k hk hdk bv wa wc ps M h1 hwc hws hp hb
theorem SM.pre {M : Mem} {a : Option Addr} {xs ys : List Value} (h : SM M a (xs ++ ys)) : SM M a xs := by
 rcases h with h | ⟨b, off, h1, h2⟩
 ·exact .inl (List.append_eq_nil_iff.1 h).1
 ·exact .inr ⟨b, off, h1, fun i u hu => h2 i u (by rw [List.getElem?_append_left (List.getElem?_eq_some_iff.1 hu).1]; exact hu)⟩
theorem own_nil {n c : Nat} {R : Lc} {e : TypeId} {size : Nat} {xs : List Value} (h : Own (.slice none n c) R e size n xs) (hn : n = 0) : (.slice none n c : Value) = .slice none 0 0 := by
 rcases h.2 with ⟨h, _⟩ | ⟨_, _, _, h, _⟩
 ·exact h
 ·cases h
def RS (M : Mem) (v : Value) (ys : List Sr) : Prop := ∃ a c, v = .slice a ys.length c ∧ SM M a (ys.flatMap wDx)
def FiP (s : Sto) (u : Value) (M' : Mem) : Prop := ∃ v e, u = .tuple #[v, .int .i64 e] ∧ ((e = 40 ∧ wJs s 4 = [] ∧ v = .slice none 0 0) ∨ (e = 0 ∧ ∃ ys : List Sr, (ys.map (·.1)).Perm (wJs s 4) ∧ Dsc ys ys.length ∧ RS M' v ys ∧ ∀ p ∈ ys, NI M' p.2 p.1.dead))
theorem rsu_gen (xs : List By) : 0 ≤ (rsu xs).gen ∧ (rsu xs).gen < 4294967296 := wFw _
theorem fndL_yes {s : Sto} {k : Nat} (h : suIs (wCo s k)) (h2 : (rsu (wCo s k)).gen % 4 = (k : Int)) : wJs s (k + 1) = wJs s k ++ [rsu (wCo s k)] := by
 rw [fndL_step]; unfold wKx; rw [if_pos ⟨h, h2⟩]; rfl
theorem fndL_no {s : Sto} {k : Nat} (h : ¬ (suIs (wCo s k) ∧ (rsu (wCo s k)).gen % 4 = (k : Int))) : wJs s (k + 1) = wJs s k := by
 rw [fndL_step]; unfold wKx; rw [if_neg h]; simp
set_option maxHeartbeats 2000000 in
theorem rfind_spec (s : Sto) (bv wv : Value) (M : Mem) (h1 : LS M bv s.blocks) (h2 : WS M wv s.waits) (hdk : dkOk s.blocks s.waits) :
  SpecL Tryz.prog 33 #[.agg #[bv, wv]] M [] fun u M' L' => FiP s u M' ∧ L' = [] := by
 have hck : wLs s.blocks s.waits = 0 := if_pos hdk
 refine wAf (vs := [_]) 48 _ Tryz.func33 rfl Tryz.ntmps33 rfl rfl ?_; intro W
 refine wAb (wAa (wAw rfl rfl (wCb (cs := [_, _]) rfl rfl rfl rfl) ?_)); rintro _ _ _ ⟨b1, rfl, rfl, rfl⟩
 refine jp rfl (jp rfl (wAc (jT (wAb (wAb (wAa (sLL rfl ?_)))))))
 refine wAi rfl rfl (wBf rfl rfl rfl rfl rfl (by kernel_rfl) (wDe s.blocks s.waits bv wv M h1 h2)) ?_
 refine jp rfl (wAc (jT (wAb (wAa (jp rfl ?_)))))
 refine jf rfl (decide_eq_false (by first | omega | (rw [hck]; decide))) ?_
 refine wAc (jT (wAj rfl (wAd (jT (wAb (wAb (wAa (jp rfl (wAc (jT (wAh ?_)))))))))))
 refine wAr (α := Nat × Mem × Lc × Value × List Sr) (fun y => [(1, .pointer (some ⟨b1, 0, none⟩)), (2, y.2.2.2.1), (15, .int .i64 y.1)]) (fun y => y.2.1) (fun y => y.2.2.1 ++ [(b1, .cells [bv, wv].toArray TDk (0, 0))]) (fun y => y.1 ≤ 4 ∧ MLe M y.2.1 ∧ Own y.2.2.2.1 y.2.2.1 TSu 5 y.2.2.2.2.length (y.2.2.2.2.flatMap wDx) ∧ y.2.2.2.2.map (·.1) = wJs s y.1 ∧ (∀ p ∈ y.2.2.2.2, p.2.oneCell' = true) ∧ (y.2.2.2.2 = [] → y.2.2.2.1 = .slice none 0 0) ∧ (∀ p ∈ y.2.2.2.2, NI y.2.1 p.2 p.1.dead)) (fun y => 4 - y.1)
  (0, M, [], .slice none 0 0, []) (.cons (t := 1) rfl (.cons (t := 2) rfl (.cons (t := 15) rfl .nil))) ⟨Nat.zero_le _, MLe.refl _, Own.nil _ _, rfl, (fun _ h => by cases h), (fun _ => rfl), (fun _ h => by cases h)⟩ (fun _ h => h) ?_
 rintro ⟨k, Mk, R, sv, ys⟩ ⟨hk, hMk, hown, hys, hone, hnil, hni⟩
 try dsimp only at hk hMk hown hys hone hnil hni ⊢
 obtain ⟨sa, sc, rfl⟩ := hown.form
 replace hnil : ys = [] → sa = none := fun h => congrArg (fun v => match v with | Value.slice a _ _ => a | _ => none) (hnil h)
 refine wAb (wAa (js rfl (fun h16 => ?_) (fun h16 => ?_)))
 ·refine wAc (jT (wAb (wAg rfl (wAd (jT (wAb (wAh (wAb (wAa (jp rfl (jp rfl (wAc (jT (wAb (wAa (sLL rfl ?_))))))))))))))))
  refine jp rfl (wAw rfl rfl (wAn rfl rfl rfl rfl rfl (by kernel_rfl) (dread_spec s k bv wv Mk (h1.mono hMk) (h2.mono hMk) hdk (by omega))) ?_); rintro _ M2 _ ⟨hM2, _, rfl, ⟨⟨v, rfl, hv⟩, rfl⟩⟩
  simp only [nA]
  refine jp rfl (jp rfl (jp rfl (jp rfl (jp rfl (wAc (jT (wAb (wAa (jp rfl (wAw rfl rfl (wAn rfl rfl rfl rfl rfl (by kernel_rfl) (rread_spec (wCo s k) _ M2 hv)) ?_)))))))))); rintro _ M3 _ ⟨hM3, _, rfl, ⟨hrd, rfl⟩⟩
  simp only [nA]
  obtain ⟨x, da, dn, dc, e, rfl, hrf⟩ := RdP.form hrd
  refine jp rfl (jp rfl (jp rfl (sAl rfl fun b8 => ?_)))
  refine sSt rfl ?_
  refine jp rfl (wAc (jT (wAb (wAa (jp rfl (js rfl (fun h30 => ?_) (fun h30 => ?_)))))))
  ·refine jp rfl (sFL rfl rfl ?_)
   obtain ⟨_, hsu, rfl, hnd⟩ | ⟨hne, _⟩ := hrf
   rotate_left
   ·exact absurd h30 hne
   refine wAi rfl rfl (wBf rfl rfl rfl rfl rfl (by kernel_rfl) (slot_spec (rsu (wCo s k)).gen M3 (rsu_gen _))) ?_
   refine jp rfl (js rfl (fun h36 => ?_) (fun h36 => ?_))
   ·refine jp rfl (wAc (jT (wAg rfl (wAa (jp rfl (sLL rfl ?_))))))
    refine wAw rfl rfl (wAm (cs := [_, _, _, _, _]) rfl rfl rfl (by rfl) (by rfl) (by rfl)) ?_; rintro _ _ _ ⟨b40, rfl, rfl, rfl⟩
    refine wAw rfl rfl (wDd (R := R) (m := 1) rfl rfl rfl rfl hown rfl (fun i v hv => CJ.loc (by simpa using hv)) rfl (by rfl) (by simp [Value.oneCell']) (by have := fndL_len s k; rw [← hys, List.length_map] at this; omega) (by omega)) ?_; rintro rv2 _ _ ⟨rfl, R2, rfl, hown2, _⟩
    obtain ⟨ra2, rc2, rfl⟩ := hown2.form
    refine jp rfl (wAc (jB (jT (wAa ?_))))
    refine ja rfl (by first | omega | (rw [hck]; decide)) ?_
    refine jp rfl (wAc ?_)
    refine wAp (k + 1, M3, R2, .slice ra2 (ys.length + 1) rc2, ys ++ [(rsu (wCo s k), .slice da dn dc)]) (.cons (t := 1) rfl (.cons (t := 2) rfl (.cons (t := 15) rfl .nil))) ⟨by show k + 1 ≤ 4; omega, hMk.trans (hM2.trans hM3), ?_, ?_, ?_, ?_, ?_⟩ (by show 4 - (k + 1) < 4 - k; omega) (fun w h => h.fewer (.append (List.Sublist.refl _) (.cons _ (.cons _ (List.Sublist.refl _)))))
    ·show Own _ _ _ _ (ys ++ [_]).length ((ys ++ [_]).flatMap wDx); rw [List.length_append, List.flatMap_append]; exact hown2
    ·show _ = wJs s (k + 1); rw [fndL_yes hsu h36, List.map_append, hys]; rfl
    ·intro p hp; rcases List.mem_append.1 hp with hp | hp
     ·exact hone p hp
     ·rw [List.mem_singleton.1 hp]; rfl
    ·intro h; simp at h
    ·intro p hp; rcases List.mem_append.1 hp with hp | hp
     ·exact (hni p hp).mono (hM2.trans hM3)
     ·rw [List.mem_singleton.1 hp]; exact hnd
   ·refine jp rfl (wAc (jT (wAj rfl (wAd (jB (jT (wAa ?_)))))))
    refine ja rfl (by first | omega | (rw [hck]; decide)) ?_
    refine jp rfl (wAc ?_)
    refine wAp (k + 1, M3, R, .slice sa ys.length sc, ys) (.cons (t := 1) rfl (.cons (t := 2) rfl (.cons (t := 15) rfl .nil))) ⟨by show k + 1 ≤ 4; omega, hMk.trans (hM2.trans hM3), ?_, ?_, ?_, ?_, ?_⟩ (by show 4 - (k + 1) < 4 - k; omega) (fun w h => h.fewer (.cons _ (List.Sublist.refl _)))
    ·exact hown
    ·show _ = wJs s (k + 1); rw [fndL_no (fun hh => (by exact h36 hh.2))]; exact hys
    ·exact hone
    ·intro h; rw [hnil h] at hown ⊢; exact own_nil hown (congrArg List.length h)
    ·exact fun p hp => (hni p hp).mono (hM2.trans hM3)
  ·iterate 7 refine jp rfl ?_
   refine wAc (jT (wAj rfl (wAd (jB (jT (wAa ?_))))))
   refine ja rfl (by first | omega | (rw [hck]; decide)) ?_
   refine jp rfl (wAc ?_)
   refine wAp (k + 1, M3, R, .slice sa ys.length sc, ys) (.cons (t := 1) rfl (.cons (t := 2) rfl (.cons (t := 15) rfl .nil))) ⟨by show k + 1 ≤ 4; omega, hMk.trans (hM2.trans hM3), ?_, ?_, ?_, ?_, ?_⟩ (by show 4 - (k + 1) < 4 - k; omega) (fun w h => h.fewer (.cons _ (List.Sublist.refl _)))
   ·exact hown
   ·show _ = wJs s (k + 1); rw [fndL_no (fun hh => (by rcases hrf with ⟨h0, _⟩ | ⟨_, h0⟩; exact h30 h0; exact h0 hh.1))]; exact hys
   ·exact hone
   ·intro h; rw [hnil h] at hown ⊢; exact own_nil hown (congrArg List.length h)
   ·exact fun p hp => (hni p hp).mono (hM2.trans hM3)
 ·refine wAc (jT (wAb (wAj rfl (wAs (jTx (jTx (jBx (jT (wAb (wAb (wAa (jp rfl (wDp rfl rfl (qNil rfl rfl rfl rfl) (fun h44 => ?_) (fun h44 => ?_))))))))))))))
  ·refine wAc (jT (wAg rfl (wAb (wAa (jp rfl (jp rfl (wAc (jT (wAe (jTr (wAv (L' := []) (List.nil_sublist _) ?_)))))))))))
   refine jr2 rfl rfl rfl ?_
   refine ⟨⟨_, 40, rfl, .inl ⟨rfl, ?_, rfl⟩⟩, rfl⟩
   obtain rfl : k = 4 := by omega
   rcases hown.2 with ⟨_, h0, _⟩ | ⟨g, cap, cur, ev, _⟩
   ·rw [← hys, List.length_eq_zero_iff.1 h0]; rfl
   ·cases ev; cases h44
  ·refine wAc (jT (wAj rfl (wAd (jT (wAb (wAa (jp rfl ?_)))))))
   obtain rfl : k = 4 := by omega
   have hyl := fndL_len s 4
   rw [← hys, List.length_map] at hyl
   have hy0 : 0 < ys.length := Nat.pos_of_ne_zero fun h0 => by
    rw [hnil (List.length_eq_zero_iff.1 h0)] at h44; cases h44
   obtain ⟨g, cap, cur, ev, rfl, hc1, hc2, hc3, hc4⟩ := hown.open hy0
   cases ev
   obtain ⟨sp, rfl⟩ : ∃ sp, cur = (ys.flatMap wDx ++ sp).toArray := ⟨cur.toList.drop (ys.length * 5), by rw [← hc4, List.take_append_drop]⟩
   refine wAw rfl rfl (wAn rfl rfl rfl rfl rfl (by kernel_rfl) (sortf_spec g TSu sp ys _ Mk hone hyl)) ?_; rintro _ M3 _ ⟨hM3, _, rfl, zs, hzs, hzd, rfl⟩
   refine wAc (jT (wAb (wAa (jp rfl (jp rfl (jp rfl (wAc (jT (wAe (wBv g (by simp) ?_))))))))))
   intro M4 hM4 e4
   refine wAv (L' := []) (List.nil_sublist _) ?_
   refine jr2 rfl rfl rfl ?_
   refine ⟨⟨_, 0, rfl, .inr ⟨rfl, zs, ?_, ?_, ?_, ?_⟩⟩, rfl⟩
   ·rw [← hys]; exact hzs.map _
   ·exact fun a b h1 h2 h3 => hzd a b h1 (by have := hzs.length_eq; omega) h3
   ·exact ⟨_, _, by rw [hzs.length_eq], SM.pre (SM.of_block e4)⟩
   ·exact fun p hp => (hni p (hzs.subset hp)).mono (hM3.trans hM4)
theorem rfind_bad (bs : List (List By)) (ws : List Wt) (bv wv : Value) (M : Mem) (h1 : LS M bv bs) (h2 : WS M wv ws) (hdk : ¬ dkOk bs ws) :
  SpecL Tryz.prog 33 #[.agg #[bv, wv]] M [] fun u M' L' => u = .tuple #[.slice none 0 0, .int .i64 8] ∧ L' = [] := by
 have hck : wLs bs ws = 8 := if_neg hdk
 refine wAf (vs := [_]) 48 _ Tryz.func33 rfl Tryz.ntmps33 rfl rfl ?_; intro W
 refine wAb (wAa (wAw rfl rfl (wCb (cs := [_, _]) rfl rfl rfl rfl) ?_)); rintro _ _ _ ⟨b1, rfl, rfl, rfl⟩
 refine jp rfl (jp rfl (wAc (jT (wAb (wAb (wAa (sLL rfl ?_)))))))
 refine wAi rfl rfl (wBf rfl rfl rfl rfl rfl (by kernel_rfl) (wDe bs ws bv wv M h1 h2)) ?_
 refine jp rfl (wAc (jT (wAb (wAa (jp rfl ?_)))))
 refine jt rfl (decide_eq_true (by first | omega | (rw [hck]; decide))) ?_
 refine wAc (jT (wAg rfl (wAb (wAa (jp rfl (jp rfl (jp rfl (wAc (jT (wAe (jTr (wAv (L' := []) (List.nil_sublist _) ?_))))))))))))
 refine jr2 rfl rfl rfl ?_
 rw [hck]; exact ⟨rfl, rfl⟩
theorem wHm {s : Sto} {k : Nat} {x : Su} (h : wKx s k = some x) : x = rsu (wCo s k) ∧ x.gen % 4 = (k : Int) ∧ suIs (wCo s k) := by
 unfold wKx at h
 split at h
 ·rename_i hc; cases h; exact ⟨rfl, hc.2, hc.1⟩
 ·cases h
theorem fndL_is {s : Sto} {n : Nat} {x : Su} : x ∈ wJs s n ↔ ∃ k, k < n ∧ wKx s k = some x := by simp [wJs, List.mem_filterMap]
theorem fndL_gen {s : Sto} {x y : Su} (hx : x ∈ wJs s 4) (hy : y ∈ wJs s 4) (h : x.gen = y.gen) : x = y := by
 obtain ⟨k, _, hk⟩ := fndL_is.1 hx
 obtain ⟨j, _, hj⟩ := fndL_is.1 hy
 have h1 := wHm hk
 have h2 := wHm hj
 have : k = j := by omega
 subst this
 rw [hk] at hj; cases hj; rfl
theorem fndL_rng {s : Sto} {x : Su} (hx : x ∈ wJs s 4) : (0 ≤ x.gen ∧ x.gen < 4294967296) ∧ (0 ≤ x.next ∧ x.next < 4294967296) ∧ (0 ≤ x.table ∧ x.table < 4294967296) ∧ suOk x := by
 obtain ⟨k, _, hk⟩ := fndL_is.1 hx
 have h1 := wHm hk
 rw [h1.1]
 exact ⟨wFw _, wFw _, wFw _, h1.2.2.2.2.1⟩
end Go.Proofs.YtoincdcejjdgkaaGreat
