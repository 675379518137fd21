/- THE WALKING LAYER: loops in which ranges over functions wGv marks. No statement of the seat is proved here. -/
import Derived.Test.YtkcpllhggofloaaGreatZLent
import Derived.Test.YtkcpllhggofloaaGreatZTree
import Derived.Test.YtkcpllhggofloaaGreatZSp
import Derived.Test.YtkcpllhggofloaaGreatZHn
namespace Go.Proofs.YtkcpllhggofloaaGreat
set_option linter.unusedSimpArgs false
set_option linter.unusedVariables false
set_option linter.unusedSectionVars false
open Go.RowKit
def wGu (lv : Int) (xs : List It) : List (Int × Int) := xs.map fun x => (x.ref, lv - 1)
def wEj : List It → Sto → Option Sto
 | [], s => some s
 | x :: xs, s => if x.ref = 0 then wEj xs s else if wDo s x.ref.toNat = 0 then wEj xs (wBx s x.ref.toNat) else none
def wCo (s : Sto) (k : Nat) : Sto := { s with now := s.now.set k 0 }
def lvF (first : List By) : Nat → Sto → List (Int × Int) → Option Sto
 | _, s, [] => some s
 | 0, _, _ :: _ => none
 | n + 1, s, (k, l) :: st =>
  if s.now.getD k.toNat 0 = 0 then none
  else if s.now.getD k.toNat 0 ≠ 1 then lvF first n (wBx s k.toNat) st
  else match wBk s k.toNat with
   | none => none
   | some (lv, xs) => if first.getD k.toNat 0 = 0 ∨ (0 ≤ l ∧ lv ≠ l) then none
    else if 0 < lv then lvF first n (wCo s k.toNat) (wGu lv xs ++ st)
    else match wEj xs (wCo s k.toNat) with
     | none => none
     | some t => lvF first n t st
def wEr (bs : List By) : Nat := (bs.map UInt8.toNat).sum
def wGv (s : Sto) (root : Int) : Option Sto := lvF s.now (wEr s.now) s [(root, -1)]
def parts (l : List It) : List (List It) := if 5 < l.length then [l.take 3, l.drop 3] else [l]
def upIt (s : Sto) (p : List It) : It := ⟨wDc p, (wEt (wAx s p) : Int), []⟩
def mkP (lv : Int) : List (List It) → Sto → List It → Except Int (Sto × List It)
 | [], s, up => .ok (s, up)
 | p :: ps, s, up => if mkE s lv p = 0 then mkP lv ps (mkS s lv p) (up ++ [upIt s p]) else .error (mkE s lv p)
def looL : List It → Sto → Except Int Sto
 | [], s => .ok s
 | x :: xs, s => if x.ref = 0 then looL xs s else if wDo s x.ref.toNat = 0 then looL xs (wBx s x.ref.toNat) else .error (wDo s x.ref.toNat)
def build (s : Sto) (lv : Int) (l held : List It) : Except Int (Sto × List It) := match mkP lv (parts l) s [] with
 | .error e => .error e
 | .ok (t, up) => match looL held t with
  | .error e => .error e
  | .ok t2 => .ok (t2, up)
structure Stp where
 lv : Int
 xs : List It
 at_ : Nat
def wAt (xs : List It) (q : Ky) : Nat := if isAt xs q then place xs q else place xs q - 1
def wDf (s : Sto) (q : Ky) : Nat → List It → List Stp
 | 0, xs => [⟨0, xs, place xs q⟩]
 | l + 1, xs => ⟨((l + 1 : Nat) : Int), xs, wAt xs q⟩ :: wDf s q l (match xs[wAt xs q]? with | some x => kid s x | none => [])
def Shp (s : Sto) : Nat → List It → Prop
 | 0, xs => ∀ x ∈ xs, x.ref = 0 ∨ ¬ s.now.getD x.ref.toNat 0 = 0
 | l + 1, xs => ∀ x ∈ xs, ∃ ys, wBk s x.ref.toNat = some ((l : Int), ys) ∧ ys ≠ [] ∧ wDc ys = x.key ∧ Shp s l ys
theorem Shp.sub {s : Sto} {l : Nat} {xs ys : List It} (h : Shp s l xs) (hs : ∀ y ∈ ys, y ∈ xs) : Shp s l ys := by
 cases l with
 | zero => exact fun x hx => h x (hs x hx)
 | succ l => exact fun x hx => h x (hs x hx)
theorem Shp.app {s : Sto} {l : Nat} {xs ys : List It} (h : Shp s l xs) (k : Shp s l ys) : Shp s l (xs ++ ys) := by
 cases l with
 | zero => exact fun x hx => (List.mem_append.1 hx).elim (h x) (k x)
 | succ l => exact fun x hx => (List.mem_append.1 hx).elim (h x) (k x)
theorem Shp.one {s : Sto} {l : Nat} {xs : List It} (h : Shp s l xs) {x : It} (hx : x ∈ xs) : Shp s l [x] := h.sub fun y hy => by rw [List.mem_singleton.1 hy]; exact hx
theorem wDi (s : Sto) (l : Nat) (xs ys : List It) : wCh s l (xs ++ ys) = wCh s l xs ++ wCh s l ys := List.flatMap_append
theorem wHn (s : Sto) (l : Nat) (x : It) (xs : List It) : wCh s l (x :: xs) = wCu s l x ++ wCh s l xs := List.flatMap_cons
theorem wHx (s : Sto) (l : Nat) (x : It) : wCh s l [x] = wCu s l x := by rw [wHn]; show _ ++ [] = _; rw [List.append_nil]
theorem wEq (s : Sto) (xs : List It) : wCh s 0 xs = xs := by
 unfold wCh
 induction xs with
 | nil => rfl
 | cons x xs ih => rw [List.flatMap_cons, ih]; rfl
theorem wCf {s : Sto} {l : Nat} {x : It} {lv : Int} {ys : List It} (h : wBk s x.ref.toNat = some (lv, ys)) : wCu s (l + 1) x = wCh s l ys := by
 have : kid s x = ys := by unfold kid; rw [h]
 rw [wCu, this]; rfl
theorem one_head {s : Sto} : ∀ {l : Nat} {x : It}, Shp s l [x] → ∃ y r, wCu s l x = y :: r ∧ y.key = x.key
 | 0, x, _ => ⟨x, [], rfl, rfl⟩
 | l + 1, x, h => by
  obtain ⟨ys, h1, h2, h3, h4⟩ := h x (by simp)
  obtain ⟨z, zs, rfl⟩ := List.exists_cons_of_ne_nil h2
  obtain ⟨y, r, e1, e2⟩ := one_head (h4.one (x := z) (by simp))
  exact ⟨y, r ++ wCh s l zs, by rw [wCf h1, wHn, e1]; rfl, by rw [e2]; exact h3⟩
theorem one_mem {s : Sto} {l : Nat} {x : It} (h : Shp s l [x]) : ∃ y ∈ wCu s l x, y.key = x.key := by
 obtain ⟨y, r, e1, e2⟩ := one_head h
 exact ⟨y, by rw [e1]; simp, e2⟩
theorem wJb {s : Sto} {l : Nat} : ∀ {xs : List It}, Shp s l xs → Srt (wCh s l xs) → Srt xs
 | [], _, _ => List.Pairwise.nil
 | x :: xs, h, hs => by
  rw [wHn] at hs
  have h2 := List.pairwise_append.1 hs
  refine List.pairwise_cons.2 ⟨fun z hz => ?_, wJb (h.sub fun y hy => List.mem_cons_of_mem _ hy) h2.2.1⟩
  obtain ⟨a, ha, e1⟩ := one_mem (h.one (x := x) (by simp))
  obtain ⟨b, hb, e2⟩ := one_mem (h.one (x := z) (by simp [hz]))
  have := h2.2.2 a ha b (List.mem_flatMap.2 ⟨z, hz, hb⟩)
  rwa [e1, e2] at this
theorem go_ok {s : Sto} {l : Nat} (h1 : ∀ x, Shp s l [x] → Srt (wCu s l x) → (wBu s l x).is = true ∧ (wBu s l x).first = x.key ∧ ∃ y ∈ wCu s l x, (wBu s l x).last = y.key) :
  ∀ (xs : List It) (o : Option Sp), Shp s l xs → Srt (wCh s l xs) → (∀ p, o = some p → p.is = true ∧ ∀ y ∈ wCh s l xs, wBf p.last y.key = true) → (o = none → xs ≠ []) →
   (wEf (wBu s l) o xs).is = true ∧ (wEf (wBu s l) o xs).first = (match o with | none => wDc xs | some p => p.first) ∧ (xs ≠ [] → ∃ y ∈ wCh s l xs, (wEf (wBu s l) o xs).last = y.key)
 | [], o, _, _, ho, hn => by
  cases o with
  | none => exact absurd rfl (hn rfl)
  | some p => exact ⟨(ho p rfl).1, rfl, fun h => absurd rfl h⟩
 | x :: xs, o, hp, hs, ho, _ => by
  rw [wHn] at hs ho
  have h2 := List.pairwise_append.1 hs
  have hx := hp.one (x := x) (by simp)
  obtain ⟨k1, k2, y, hy, k3⟩ := h1 x hx h2.1
  obtain ⟨z, hz, e1⟩ := one_mem hx
  have hstep : wBs (wBu s l x) o x = true := by
   unfold wBs
   rw [k1, k2]
   cases o with
   | none => simp
   | some p =>
    have := (ho p rfl).2 z (List.mem_append_left _ hz)
    rw [e1] at this
    simp [this]
  rw [wEf, if_pos hstep]
  obtain ⟨i1, i2, i3⟩ := go_ok h1 xs (some (wEd (wBu s l x) o)) (hp.sub fun y hy => List.mem_cons_of_mem _ hy) h2.2.1 (fun p e => by
   cases e
   exact ⟨rfl, fun w hw => by show wBf (wBu s l x).last w.key = true; rw [k3]; exact h2.2.2 y hy w hw⟩) (fun e => by cases e)
  refine ⟨i1, ?_, fun _ => ?_⟩
  ·rw [i2]
   cases o with
   | none => exact k2
   | some p => rfl
  rw [wHn]
  cases xs with
  | nil => exact ⟨y, List.mem_append_left _ hy, k3⟩
  | cons w ws =>
   obtain ⟨v, hv, e⟩ := i3 (by simp)
   exact ⟨v, List.mem_append_right _ hv, e⟩
theorem one_ok {s : Sto} : ∀ (l : Nat) (x : It), Shp s l [x] → Srt (wCu s l x) → (wBu s l x).is = true ∧ (wBu s l x).first = x.key ∧ ∃ y ∈ wCu s l x, (wBu s l x).last = y.key
 | 0, x, h, _ => by
  refine ⟨?_, rfl, x, by simp [wCu], rfl⟩
  show (decide (x.ref = 0) || decide (0 < ((s.now.getD x.ref.toNat 0).toNat : Int))) = true
  rcases h x (by simp) with h | h
  ·simp [h]
  have : (s.now.getD x.ref.toNat 0).toNat ≠ 0 := fun e => h (UInt8.toNat.inj e)
  rw [Bool.or_eq_true]; exact .inr (decide_eq_true (by omega))
 | l + 1, x, h, hs => by
  obtain ⟨ys, h1, h2, h3, h4⟩ := h x (by simp)
  rw [wCf h1] at hs ⊢
  have e : wBu s (l + 1) x = wEf (wBu s l) none ys := by simp only [wBu, h1]; exact if_pos ⟨trivial, h2⟩
  rw [e]
  obtain ⟨i1, i2, i3⟩ := go_ok (fun x => one_ok l x) ys none h4 hs (fun p e => by cases e) (fun _ => h2)
  exact ⟨i1, by rw [i2]; exact h3, i3 h2⟩
theorem tree_of {s : Sto} {l : Nat} {xs : List It} (h : Shp s l xs) (hs : Srt (wCh s l xs)) : wCq s l xs := fun hx =>
 (go_ok (fun x => one_ok l x) xs none h hs (fun p e => by cases e) (fun _ => hx)).1
theorem step_first {one : Sp} {k : Ky} (h : one.first = k) : ∀ (o : Option Sp), (wEd one o).first = (match o with | none => k | some p => p.first)
 | none => h
 | some p => rfl
theorem go_first {f : It → Sp} : ∀ {xs : List It} {o : Option Sp}, (wEf f o xs).is = true → xs ≠ [] → (∀ x ∈ xs, (f x).is = true ∧ (f x).first = x.key) → (wEf f o xs).first = (match o with | none => wDc xs | some p => p.first)
 | x :: xs, o, h, _, ha => by
  have e := step_first (ha x (by simp)).2 o
  rw [wEf] at h ⊢
  split at h
  ·rename_i hs
   rw [if_pos hs]
   cases xs with
   | nil => exact e
   | cons y ys => exact (go_first h (by simp) (fun z hz => ha z (List.mem_cons_of_mem _ hz))).trans e
  cases h
theorem shp_of {s : Sto} : ∀ {l : Nat} {xs : List It}, wCq s l xs → Shp s l xs
 | 0, xs, h => fun x hx => by
  have h1 := (wLu (h (List.ne_nil_of_mem hx)) x hx).1
  change (decide (x.ref = 0) || decide (0 < ((s.now.getD x.ref.toNat 0).toNat : Int))) = true at h1
  rw [Bool.or_eq_true] at h1
  rcases h1 with h1 | h1
  ·exact .inl (of_decide_eq_true h1)
  exact .inr fun e => by rw [e] at h1; exact absurd (of_decide_eq_true h1) (by decide)
 | l + 1, xs, h => fun x hx => by
  have h1 := wLu (h (List.ne_nil_of_mem hx)) x hx
  obtain ⟨ys, h2, h3, h4⟩ := one_up h1.1
  have h5 : wCq s l ys := fun _ => by rw [← h4]; exact h1.1
  refine ⟨ys, h2, h3, ?_, shp_of h5⟩
  have h6 := go_first (h5 h3) h3 (wLu (h5 h3))
  have h7 := h1.2
  rw [h4, h6] at h7
  exact h7
def insL (x : It) (l : List It) : List It := (l.filter fun y => wBf y.key x.key) ++ x :: (l.filter fun y => wBf x.key y.key)
theorem wEs {q : Ky} : ∀ {xs : List It}, Srt xs → (∀ z ∈ xs.take (place xs q), wBf z.key q = true) ∧ ∀ z ∈ xs.drop (place xs q), wBf z.key q = false
 | [], _ => ⟨fun z hz => (by simp at hz), fun z hz => (by simp at hz)⟩
 | x :: xs, h => by
  have h2 := List.pairwise_cons.1 h
  obtain ⟨i1, i2⟩ := wEs (q := q) h2.2
  by_cases hx : wBf x.key q = true
  ·have hp : place (x :: xs) q = place xs q + 1 := by unfold place; rw [List.filter_cons_of_pos (by simpa using hx), List.length_cons]
   rw [hp, List.take_succ_cons, List.drop_succ_cons]
   refine ⟨fun z hz => ?_, i2⟩
   rcases List.mem_cons.1 hz with rfl | hz
   ·exact hx
   exact i1 z hz
  have hall : ∀ z ∈ x :: xs, wBf z.key q = false := fun z hz => by
   rcases List.mem_cons.1 hz with rfl | hz
   ·simpa using hx
   exact wLo (kl_neg hx) (kl_kle (h2.1 z hz))
  have hp : place (x :: xs) q = 0 := place_none hall
  rw [hp]
  exact ⟨fun z hz => (by simp at hz), fun z hz => hall z (by simpa using hz)⟩
theorem bwi (a : Option Addr) (n c : Nat) (M : Mem) :
  SpecL Tryz.prog 43 #[.slice a n c] M [] fun u M' L' => ∃ b, u = .func (.func 64) #[] #[.pointer (some ⟨b, 0, none⟩)] ∧ M' b = some (.cells #[.slice a n c] 51 (0, 0)) ∧ L' = [] := by
 refine wAf (vs := [_]) 4 _ Tryz.func43 rfl Tryz.ntmps43 rfl rfl ?_; intro W
 refine wAb (wAa (wAy rfl rfl (wCm (cs := [.slice a n c]) rfl rfl rfl rfl) ?_)); rintro _ _ _ ⟨b1, rfl, rfl, rfl⟩
 refine jp rfl (wAc (jT (wAb (wAa (jp rfl (jp rfl (wAc (jT (wAe (wEe b1 (by simp) ?_))))))))))
 intro M1 hM1 e1
 refine jr1 rfl rfl ?_
 exact ⟨b1, rfl, e1, rfl⟩
theorem bwi_body (b : Nat) (a : Option Addr) (c : Nat) (xs : List (It × Value)) (M : Mem) (hb : M b = some (.cells #[.slice a xs.length c] 51 (0, 0))) (hs : SM M a (xs.flatMap wAs)) (hn : xs.length ≤ 1000000) (l : Nat) (J Jx : List ((It × Value) × Nat) → Mem → Lc → Prop) (M1 : Mem) (L0 : Lc) (hM : MLe M M1) (hJ : ∀ pre y M2 L2, MLe M1 M2 → J pre M2 L2 → pre ++ [y] <+: bw xs 0 → RoundL Tryz.prog l ((fun p : (It × Value) × Nat => [.int .i64 p.2, .agg (wAs p.1).toArray]) y).toArray M2 L2 fun v M' L' => (v = .bool true ∧ J (pre ++ [y]) M' L') ∨ (v = .bool false ∧ Jx (pre ++ [y]) M' L')) (h0 : J [] M1 L0) :
  SpecL Tryz.prog 64 #[.func (.yield l) #[] #[], .pointer (some ⟨b, 0, none⟩)] M1 L0 fun _ M' L' => J (bw xs 0) M' L' ∨ ∃ pre, pre <+: bw xs 0 ∧ Jx pre M' L' := by
 have hbc : ∀ {M2 : Mem} (L : Lc), MLe M1 M2 → CJ M2 L b 0 (.slice a xs.length c) := fun L h => (CM.cj ⟨_, _, _, h _ _ (hM _ _ hb), rfl⟩ L)
 refine wAf (vs := [_, _]) 19 _ Tryz.func64 rfl Tryz.ntmps64 rfl rfl ?_; intro W
 refine wAb (wAa (wAi rfl rfl (qLd rfl rfl rfl rfl (hbc _ (MLe.refl _))) ?_))
 refine wAi rfl rfl (wBj rfl rfl rfl) ?_
 refine ja rfl (by omega) ?_
 refine jp rfl (wAc (jT (wAh ?_)))
 refine wAv (α := Int × Mem × Lc) (fun x => [(0, .func (.yield l) #[] #[]), (1, .pointer (some ⟨b, 0, none⟩)), (3, .int .i64 x.1)]) (fun x => x.2.1) (fun x => x.2.2) (fun x => -1 ≤ x.1 ∧ x.1 < xs.length ∧ MLe M1 x.2.1 ∧ J (bw xs (x.1 + 1).toNat) x.2.1 x.2.2) (fun x => (x.1 + 1).toNat)
  ((xs.length : Int) - 1, M1, L0) (.cons (t := 0) rfl (.cons (t := 1) rfl (.cons (t := 3) rfl .nil))) ⟨by show -1 ≤ (xs.length : Int) - 1; omega, by show (xs.length : Int) - 1 < xs.length; omega, MLe.refl _, by show J (bw xs ((xs.length : Int) - 1 + 1).toNat) _ _; rw [show ((xs.length : Int) - 1 + 1).toNat = xs.length by omega, bw_len]; exact h0⟩ (fun _ h => h) ?_
 rintro ⟨i, Mk, Lk⟩ ⟨hk0, hk, hMk, hJk⟩
 try dsimp only at hk0 hk hMk hJk ⊢
 refine wAb (wAb (wAa (jp rfl (js rfl (fun hge => ?_) (fun hge => ?_)))))
 ·refine wAc (jT (wAg rfl (wAd (jT (wAb (wAh (wAb (wAa (jp rfl (jp rfl ?_))))))))))
  obtain ⟨k, rfl⟩ : ∃ k : Nat, i = k := ⟨i.toNat, by omega⟩
  have hk1 : k < xs.length := by omega
  obtain ⟨sb, so, e0, hx⟩ := hs.open (by intro e; have := congrArg List.length e; rw [wBi wAs 5 wAq, List.length_nil] at this; omega)
  subst e0
  refine wAi rfl rfl (qLd rfl rfl rfl rfl (hbc _ hMk)) ?_
  refine jp rfl (wAi rfl rfl (wBe rfl rfl rfl rfl (by omega)) ?_)
  refine wAi rfl rfl (wGx (cs := wAs xs[k]) rfl rfl rfl rfl rfl (fun i v hv => ((wKo wAs 5 wAq hx (show xs[k]? = some xs[k] by simp [hk1]) i v hv).mono (hM.trans hMk)).cj _)) ?_
  refine wAy rfl rfl (hYield rfl rfl rfl rfl (hJ (bw xs (k + 1)) (xs[k], k) Mk Lk hMk (by rwa [show ((k : Int) + 1).toNat = k + 1 by omega] at hJk) (by rw [← wJo xs hk1]; exact wFx xs k))) ?_; rintro _ M' _ ⟨hM', R', rfl, hy⟩
  rw [← wJo xs hk1] at hy
  rcases hy with ⟨rfl, hy⟩ | ⟨rfl, hy⟩
  ·refine jp rfl (wAc (jT (wAk rfl (wAd (jB (jT (wAa (jp rfl (ja rfl (by omega) ?_)))))))))
   refine jp rfl (wAc ?_)
   refine wAp ((k : Int) - 1, M', R') (.cons (t := 0) rfl (.cons (t := 1) rfl (.cons (t := 3) rfl .nil))) ⟨by show -1 ≤ (k : Int) - 1; omega, by show (k : Int) - 1 < xs.length; omega, hMk.trans hM', by show J (bw xs ((k : Int) - 1 + 1).toNat) _ _; rw [show ((k : Int) - 1 + 1).toNat = k by omega]; exact hy⟩ (by show ((k : Int) - 1 + 1).toNat < ((k : Int) + 1).toNat; omega) (fun _ h => h.fewer (by simp))
  refine jp rfl (wAc (jT (wAg rfl (wAe (jBr (jTr (jTr (jBr (wAr (L' := R') (by simp) ?_)))))))))
  refine jrs (rs := []) rfl .nil ?_
  exact .inr ⟨_, wFx xs k, hy⟩
 refine wAc (jT (wAk rfl (wAw (jTx (jTx (jBx (jrn ?_)))))))
 refine jrs (rs := []) rfl .nil ?_
 obtain rfl : i = -1 := by omega
 exact .inl hJk
theorem bwi_iter (b : Nat) (a : Option Addr) (c : Nat) (xs : List (It × Value)) (M : Mem) (hb : M b = some (.cells #[.slice a xs.length c] 51 (0, 0))) (hs : SM M a (xs.flatMap wAs)) (hn : xs.length ≤ 1000000) : Iter Tryz.prog 64 [.pointer (some ⟨b, 0, none⟩)] M (fun p : (It × Value) × Nat => [.int .i64 p.2, .agg (wAs p.1).toArray]) (bw xs 0) :=
 fun l J Jx M1 L0 hM hJ h0 => bwi_body b a c xs M hb hs hn l J Jx M1 L0 hM hJ h0
section
variable {P : Program} {Q : Exit → Act → World → Prop}
def AgainD {α : Type} (n : Nat) (r : Option Nat) (E : Ent) (Di : α → List Nat) (Fi : α → Fr) (Mi : α → Mem) (Li : α → Lc) (φ : α → Prop) (μ : α → Nat) (x : α) (a : Act) (w : World) : Prop :=
 ∃ y, φ y ∧ μ y < μ x ∧ Has ⟨n, Di y, r⟩ (Fi y) a ∧ St E (Mi y) (Li y) w
theorem jc_loopD {α : Type} {n : Nat} {r : Option Nat} {E : Ent} {c : Code} (Di : α → List Nat) (Fi : α → Fr) (Mi : α → Mem) (Li : α → Lc) (φ : α → Prop) (μ : α → Nat)
  (h : ∀ x, φ x → JC P ⟨n, Di x, r⟩ c (Fi x) E (Mi x) (Li x) (Exit.then (AgainD n r E Di Fi Mi Li φ μ x) Q)) (x : α) (hx : φ x) : JC P ⟨n, Di x, r⟩ (.loop c) (Fi x) E (Mi x) (Li x) Q := by
 classical
 intro a w ha hw
 let I : Act → World → Nat → Prop := fun a w m => ∃ x, φ x ∧ Has ⟨n, Di x, r⟩ (Fi x) a ∧ St E (Mi x) (Li x) w ∧ μ x = m
 let m : Act → World → Nat := fun a w => if h : ∃ n, I a w n then Classical.choose (least h) else 0
 have hm : ∀ a w n, I a w n → m a w ≤ n := fun a w n hi => by
  have he : ∃ n, I a w n := ⟨n, hi⟩
  simp only [m, dif_pos he]; exact (Classical.choose_spec (least he)).2 _ hi
 refine wpIn_loop (fun a w => ∃ n, I a w n) m ⟨_, x, hx, ha, hw, rfl⟩ fun a w he => ?_
 have hmin : I a w (m a w) := by simp only [m, dif_pos he]; exact (Classical.choose_spec (least he)).1
 obtain ⟨y, hy, hya, hyw, hyn⟩ := hmin
 refine wpIn_mono (h y hy a w hya hyw) fun e a' w' hq => ?_
 cases e with
 | normal =>
  obtain ⟨z, hz, hlt, hza, hzw⟩ := hq
  have h1 : I a' w' (μ z) := ⟨z, hz, hza, hzw, rfl⟩
  exact ⟨⟨_, h1⟩, by have := hm a' w' _ h1; omega⟩
 | exit id => exact hq
 | goto l => exact hq
 | ret => exact hq
 | panic ch => exact hq
 | outgrown => exact hq
theorem jc_loopDK {α : Type} {n : Nat} {D : List Nat} {r : Option Nat} {E : Ent} {c : Code} {F : Fr} {M : Mem} {L : Lc} (Di : α → List Nat) (Fi : α → Fr) (Mi : α → Mem) (Li : α → Lc) (φ : α → Prop) (μ : α → Nat) (x : α) (hD : D = Di x) (hk : Keep F (Fi x)) (hx : φ x) (hs : ∀ w, St E M L w → St E (Mi x) (Li x) w)
  (h : ∀ x, φ x → JC P ⟨n, Di x, r⟩ c (Fi x) E (Mi x) (Li x) (Exit.then (AgainD n r E Di Fi Mi Li φ μ x) Q)) : JC P ⟨n, D, r⟩ (.loop c) F E M L Q := fun a w ha hw =>
 jc_loopD Di Fi Mi Li φ μ h x hx a w (by rw [← hD]; exact ha.keep hk) (hs w hw)
theorem wLr {α : Type} {n : Nat} {D : List Nat} {r : Option Nat} {E : Ent} {F : Fr} {M : Mem} {L : Lc} {Di : α → List Nat} {Fi : α → Fr} {Mi : α → Mem} {Li : α → Lc} {φ : α → Prop} {μ : α → Nat} {x : α} (y : α) (hD : D = Di y) (hk : Keep F (Fi y)) (hφ : φ y) (hμ : μ y < μ x)
  (hs : ∀ w, St E M L w → St E (Mi y) (Li y) w) : JQ ⟨n, D, r⟩ .normal F E M L (Exit.then (AgainD n r E Di Fi Mi Li φ μ x) Q) := fun _ w ha hw => ⟨y, hφ, hμ, by rw [← hD]; exact ha.keep hk, hs w hw⟩
end
def mks (D : List Nat) : Lc := D.map fun d => (d, .deferred (some []))
theorem jr_marks {P : Program} {fn : Func} {n : Nat} {F : Fr} {E : Ent} {M : Mem} {post : Value → Mem → Lc → Prop} {L2 : Lc} : ∀ {D : List Nat} {L : Lc}, L.Perm (mks D ++ L2) → JQ ⟨n, [], none⟩ .ret F E M L2 (wFk P fn E post) → JQ ⟨n, D, none⟩ .ret F E M L (wFk P fn E post)
 | [], L, hp, h => wGb (fun w hw => hw.perm hp) h
 | d :: D, L, hp, h => wFq (L2 := mks D ++ L2) hp (jr_marks (List.Perm.refl _) h)
theorem wGm {P : Program} {fn : Func} {n : Nat} {F : Fr} {E : Ent} {M : Mem} {post : Value → Mem → Lc → Prop} {L2 : Lc} {D : List Nat} {L : Lc} (hs : ∀ w, St E M L w → St E M (mks D ++ L2) w) (h : JQ ⟨n, [], none⟩ .ret F E M L2 (wFk P fn E post)) : JQ ⟨n, D, none⟩ .ret F E M L (wFk P fn E post) :=
 wGb hs (jr_marks (List.Perm.refl _) h)
theorem wGe {α : Type} {A B : List α} (h : ∀ f : α → Nat, (A.map f).sum = (B.map f).sum) : A.Perm B := by
 classical
 have e : ∀ (a : α) (l : List α), (l.map fun x => if x = a then 1 else 0).sum = l.count a := fun a l => by
  induction l with
  | nil => rfl
  | cons x l ih =>
   rw [List.map_cons, List.sum_cons, ih, List.count_cons, Nat.add_comm]
   congr 1
   by_cases hx : x = a <;> simp [hx]
 exact List.perm_iff_count.2 fun a => by rw [← e a A, ← e a B]; exact h _
theorem St.dropAt {E : Ent} {M : Mem} {A B : Lc} {p : Nat × Obj} {w : World} (h : St E M (A ++ (p :: B)) w) : St E M (A ++ B) w := h.fewer (List.Sublist.append_left (List.sublist_cons_self _ _) _)
theorem St.tl {E : Ent} {M : Mem} {B : Lc} {p : Nat × Obj} {w : World} (h : St E M (p :: B) w) : St E M B w := h.fewer (List.sublist_cons_self _ _)
theorem Own.pop {g m cap size : Nat} {R : Lc} {e : TypeId} {A B : List Value} (h : Own (.slice (some ⟨g, 0, none⟩) (m + 1) cap) R e size (m + 1) (A ++ B)) (hA : A.length = m * size) : Own (.slice (some ⟨g, 0, none⟩) m cap) R e size m A := by
 obtain ⟨g', c, cur, e1, rfl, h1, h2, h3, h4⟩ := h.open (by omega)
 cases e1
 refine ⟨hA, .inr ⟨g, cap, cur, rfl, rfl, by omega, h2, h3, ?_⟩⟩
 have : cur.toList.take (m * size) = (cur.toList.take ((m + 1) * size)).take (m * size) := by
  rw [List.take_take]; congr 1; rw [Nat.min_eq_left]; exact Nat.mul_le_mul_right _ (by omega)
 rw [this, h4, ← hA, List.take_left]
section
variable {P : Program} {N : Fs} {F : Fr} {W : World} {X : List Nat} {M0 M : Mem} {L : Lc} {Q : Exit → Act → World → Prop}
end
theorem not_in {W : World} {X : List Nat} {R : Lc} (hX : ∀ x ∈ X, x < W.heap.size) (h : ∀ p ∈ R, W.heap.size ≤ p.1) : ∀ p ∈ R, p.1 ∉ X := fun p hp hx => by
 have := hX _ hx; have := h p hp; omega
section
variable {P : Program} {ops : Array Oper} {N : Fs} {F : Fr} {W : World} {X : List Nat} {M0 M : Mem} {L : Lc} {Q : Exit → Act → World → Prop} {rest : List Oper}
theorem Own.freezeY {v : Value} {R L2 : Lc} {e : TypeId} {size n : Nat} {xs : List Value} (ho : Own v R e size n xs) (hg : ∀ x ∈ X, x ∈ L2.map (·.1)) {w : World} (hw' : St ⟨W, X, M0⟩ M (R ++ L2) w) : ∃ M' a cap, MLe M M' ∧ v = .slice a n cap ∧ n ≤ cap ∧ SM (wEn M M') a xs ∧ St ⟨W, X, M0⟩ M' L2 w := by
 have hn := hw'.nodup
 rw [List.map_append] at hn
 have hd := (List.nodup_append.1 hn).2.2
 exact ho.freezeN (fun p hpR hpX => hd _ (List.mem_map_of_mem hpR) _ (hg _ hpX) rfl) hw'
theorem jl_ownY {v : Value} {R L2 : Lc} {e : TypeId} {size n : Nat} {xs : List Value} (ho : Own v R e size n xs) [hp : Pick R L L2] (hg : ∀ x ∈ X, x ∈ L2.map (·.1))
  (h : ∀ M' a cap, MLe M M' → v = .slice a n cap → n ≤ cap → SM (wEn M M') a xs → JL P ops N Q rest F ⟨W, X, M0⟩ M' L2) : JL P ops N Q rest F ⟨W, X, M0⟩ M L := by
 intro a w ha hw
 obtain ⟨M', ad, cap, k1, k2, k3, k4, k5⟩ := ho.freezeY hg (hw.perm hp.perm)
 exact h M' ad cap k1 k2 k3 k4 a w ha k5
end
end Go.Proofs.YtkcpllhggofloaaGreat
