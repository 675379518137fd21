/- An item taken out, without a program in sight: what becomes of the trees. No statement of the seat is proved here. -/
import Derived.Test.YtkcpllhggofloaaGreatZPlw
namespace Go.Proofs.YtkcpllhggofloaaGreat
set_option linter.unusedSimpArgs false
set_option linter.unusedVariables false
set_option linter.unusedSectionVars false
open Go.RowKit
theorem Thin.tree {u t : Sto} {S : List Nat} {R : List Int} (h : Thin u t) (he : En t S R) {r : Int} (hr : r ∈ R) (hb : 8 ≤ r ∧ r < 256) (hS : r.toNat ∈ S) {l : Nat} {xs : List It} (hnd : wBk u r.toNat = some ((l : Int), xs)) (hs : Shp u l xs) :
  wBk t r.toNat = some ((l : Int), xs) ∧ Shp t l xs ∧ wCh t l xs = wCh u l xs := by
 have hc : 0 < R.count r := List.count_pos_iff.2 hr
 have hlive := he.live (k := r) (by omega) hb.2 (by omega)
 have hnd2 : wBk t r.toNat = some ((l : Int), xs) := by rw [h.nd hlive]; exact hnd
 have hno := wBo hnd2
 refine ⟨hnd2, h.shp he hs fun x hx => ⟨fun hl => ?_, fun hl h0 => ?_⟩⟩
 ·obtain ⟨a, zs, b⟩ := he.closed _ hS _ _ hnd2 (by omega) x hx
  exact ⟨a, by rw [b]; simp⟩
 have := hno.ref x hx
 exact he.live (by omega) (by omega) (by have := wS_pos hS hnd2 hx; omega)
theorem fchk_of {t : Sto} {r : Int} {l : Nat} {xs : List It} (hst : wCc t) (hb : 8 ≤ r ∧ r < 256) (hnd : wBk t r.toNat = some ((l : Int), xs)) (ht : wCq t l xs) : wFh t r = ((l : Int) + 1, 0) ∧ allT t r = wCh t l xs := by
 refine ⟨?_, by unfold allT; rw [hnd]; rfl⟩
 rw [wKq hst (by omega) (wFu hnd), hnd]
 show (if wCq t ((l : Int)).toNat xs then (((l : Int) + 1), (0 : Int)) else (0, 8)) = _
 rw [Int.toNat_natCast, if_pos ht]
theorem tree_srt {s : Sto} {l : Nat} {xs : List It} (h : wCq s l xs) : Srt (wCh s l xs) := (tree_l h).srt
structure PutOk (s t : Sto) (root now : Int) (x : It) (R : List Int) (S S' : List Nat) : Prop where
 en : En t S' (now :: R)
 inS : now.toNat ∈ S'
 rng : 8 ≤ now ∧ now < 256
 chk : (wFh t now).2 = 0
 high : (wFh t now).1 = (wFh s root).1 ∨ (wFh t now).1 = (wFh s root).1 + 1
 all : allT t now = insL x (allT s root)
 other : ∀ r ∈ R, r.toNat ∈ S → (wFh s r).2 = 0 → wFh t r = wFh s r ∧ allT t r = allT s r ∧ r.toNat ∈ S'
 waits : (t.waits.length : Int) ≤ s.waits.length + 2 * (wFh s root).1 + 1
def nxt (w : Stp) : Option Nat := if w.at_ + 1 = w.xs.length then (if w.at_ = 0 then none else some (w.at_ - 1)) else some (w.at_ + 1)
def wBh (t : Sto) (w : Stp) (l : List It) : List It × Nat × Nat := match nxt w with
  | none => (l, w.at_, 1)
  | some p => match w.xs[p]? with
    | none => (l, w.at_, 1)
    | some y => if 5 < (kid t y).length + l.length then (l, w.at_, 1) else if p < w.at_ then (kid t y ++ l, p, 2) else (l ++ kid t y, w.at_, 2)
def wEb (t : Sto) (lv : Int) (l : List It) (held : Int) : Except Int (Sto × Int) :=
  if mkE t lv l = 0 then
    (if 0 < held then (if wDo (mkS t lv l) held.toNat = 0 then .ok (wBx (mkS t lv l) held.toNat, (wEt (wAx t l) : Int)) else .error (wDo (mkS t lv l) held.toNat))
     else .ok (mkS t lv l, (wEt (wAx t l) : Int)))
  else .error (mkE t lv l)
def cutF (w : Stp) : List It := w.xs.take w.at_ ++ w.xs.drop (w.at_ + 1)
def setF (w : Stp) (j : List It × Nat × Nat) (a : Int) : List It := w.xs.take j.2.1 ++ [⟨wDc j.1, a, []⟩] ++ w.xs.drop (j.2.1 + j.2.2)
def upD (t : Sto) (w : Stp) (l : List It) (held : Int) : Except Int (Sto × List It × Int) :=
  if l = [] then .ok (t, cutF w, 0)
  else match wEb t (w.lv - 1) (wBh t w l).1 held with
    | .error e => .error e
    | .ok (u, a) => .ok (u, setF w (wBh t w l) a, a)
def dn (s : Sto) (l0 : List It) : List Stp → Except Int (Sto × List It × Int)
  | [] => .ok (s, l0, 0)
  | w :: ws => match dn s l0 ws with
    | .error e => .error e
    | .ok (t, l, held) => upD t w l held
def lowF : Nat → Sto → Int → Except Int (Sto × Int)
  | 0, t, r => .ok (t, r)
  | n + 1, t, r => match wBk t r.toNat with
    | none => .error 8
    | some (lv, xs) => if lv = 0 then .ok (t, r) else match xs with
      | [x] => if wCk t x.ref.toNat = 0 then (match wGv (wCs t x.ref.toNat) r with
          | none => .error 8
          | some u => lowF n u x.ref) else .error (wCk t x.ref.toNat)
      | _ => .ok (t, r)
def delTop (n : Int) : Except Int (Sto × List It × Int) → Except Int (Sto × Int)
  | .error e => .error e
  | .ok (t, l, held) => wEb t (if l = [] then 0 else n) l held
def delLow : Except Int (Sto × Int) → Except Int (Sto × Int)
  | .error e => .error e
  | .ok (t, a) => lowF 7 t a
def wLy (root : Int) : Except Int (Sto × Int) → Except Int (Sto × Int)
  | .error e => .error e
  | .ok (t, r) => match wGv t root with
    | none => .error 8
    | some u => .ok (u, r)
def wJi (ws : List Stp) : List It := match ws.getLast? with | some w => cutF w | none => []
def delIn (s : Sto) (root : Int) (ws : List Stp) : Except Int (Sto × Int) := wLy root (delLow (delTop ((ws.length : Int) - 1) (dn s (wJi ws) ws.dropLast)))
def delF (s : Sto) (root : Int) (q : Ky) : Except Int (Sto × Int) :=
  if (wFh s root).2 = 0 then
    match wBk s root.toNat with
    | none => .error 8
    | some (lv, xs) => match wCn s q lv.toNat xs with
      | none => .error 6
      | some _ => delIn s root (wDf s q lv.toNat xs)
  else .error (wFh s root).2
theorem wKh {s : Sto} {k : Nat} (hk : k < s.now.length) (h2 : 2 ≤ (s.now.getD k 0).toNat) : Ext s (wBx s k) ∧ ∀ n, wBk (wBx s k) n = wBk s n := by
  have hz : ¬ s.now.getD k 0 = 0 := nz_of (by omega)
  have hs1 := sub_one hz
  have hlive : ∀ n, (wBx s k).now.getD n 0 = 0 ↔ s.now.getD n 0 = 0 := fun n => by
    show (s.now.set k _).getD n 0 = 0 ↔ _
    by_cases e : n = k
    · subst e; rw [wCr hk]
      exact ⟨fun h => by rw [h] at hs1; have h0 : (0 : By).toNat = 0 := rfl; omega, fun h => absurd h hz⟩
    rw [wCb e]
  have hnd : ∀ n, wBk (wBx s k) n = wBk s n := fun n => by
    have hs : seen (wBx s k) n = seen s n := rfl
    unfold wBk
    rw [hs]
    by_cases h : s.now.getD n 0 = 0
    · rw [if_pos h, if_pos ((hlive n).2 h)]
    rw [if_neg h, if_neg fun e => h ((hlive n).1 e)]
  exact ⟨⟨fun n r h => by rw [hnd]; exact h, fun n h e => h ((hlive n).1 e)⟩, hnd⟩
theorem shareS_ndAt {s : Sto} {k : Nat} (hk : k < s.now.length) (h : wCk s k = 0) : Ext s (wCs s k) ∧ ∀ n, wBk (wCs s k) n = wBk s n := by
  obtain ⟨h0, h255⟩ := shareE_is h
  have hn := shareS_now hk h255
  have hlive : ∀ n, (wCs s k).now.getD n 0 = 0 ↔ s.now.getD n 0 = 0 := fun n => by
    have h00 : (0 : By).toNat = 0 := rfl
    by_cases e : n = k
    · subst e
      have := hn n
      rw [if_pos rfl] at this
      exact ⟨fun h => by rw [h] at this; omega, fun h => absurd h h0⟩
    show (s.now.set k _).getD n 0 = 0 ↔ _
    rw [wCb e]
  have hnd : ∀ n, wBk (wCs s k) n = wBk s n := fun n => by
    have hs : seen (wCs s k) n = seen s n := rfl
    unfold wBk
    rw [hs]
    by_cases h : s.now.getD n 0 = 0
    · rw [if_pos h, if_pos ((hlive n).2 h)]
    rw [if_neg h, if_neg fun e => h ((hlive n).1 e)]
  exact ⟨⟨fun n r h => by rw [hnd]; exact h, fun n h e => h ((hlive n).1 e)⟩, hnd⟩
theorem shareS_ok {s : Sto} {k : Nat} (h : wCc s) (hk : 8 ≤ k) : wCc (wCs s k) := ⟨h.1, wMa hk h.2.1, h.2.2⟩
def hlR (held : Int) : List Int := if held = 0 then [] else [held]
theorem mk_ext {s : Sto} {lv : Int} {xs : List It} (hst : wCc s) (hok : wEv lv xs = true) (hk : ∀ x ∈ xs, wFp x.key) (hlive : ∀ x ∈ xs, x.ref ≠ 0 → ¬ s.now.getD x.ref.toNat 0 = 0) (he : mkE s lv xs = 0) : Ext s (mkS s lv xs) := by
 obtain ⟨hr, hz, hc0, hnd, hcnt⟩ := mk_nd hst hok hk hlive he
 generalize ha : wEt (wAx s xs) = a at *
 have hl : s.now.length = 256 := hst.2.1.1
 have hdead : wBk s a = none := by unfold wBk; rw [if_pos hz]
 refine ⟨fun n r hn => ?_, fun k hk2 => ?_⟩
 ·rw [hnd n, if_neg (fun e => by rw [e, hdead] at hn; cases hn)]; exact hn
 have hka : k ≠ a := fun e => by rw [e] at hk2; exact hk2 hz
 by_cases hk0 : k = 0
 ·subst hk0
  have h9 := hst.2.1.2
  have := List.all_eq_true.1 h9 (s.now.getD 0 0) (by
   rw [show s.now.getD 0 0 = (s.now.take 8)[0]'(by rw [List.length_take]; omega) by rw [List.getElem_take, wCp (by omega)]]
   exact List.getElem_mem _)
  exact absurd (by simpa using this) hk2
 have := hcnt k (by omega) hka
 have : (s.now.getD k 0).toNat ≠ 0 := fun e => hk2 (UInt8.toNat.inj e)
 exact nz_of (by omega)
theorem single_law {t : Sto} {lv : Int} {l : List It} {held : Int} (hst : wCc t) (hok : wEv lv l = true) (hk : ∀ x ∈ l, wFp x.key) (hlive : ∀ x ∈ l, x.ref ≠ 0 → ¬ t.now.getD x.ref.toNat 0 = 0) (hh : held = 0 ∨ (8 ≤ held ∧ held < 256 ∧ ∃ x ∈ l, x.ref = held)) :
  (∃ e, wEb t lv l held = .error e ∧ (e = 9 ∨ e = 70)) ∨ ∃ u a, wEb t lv l held = .ok (u, a) ∧ wCc u ∧ Ext t u ∧ wBk u a.toNat = some (lv, l) ∧ (8 ≤ a ∧ a < 256) ∧ u.waits.length = t.waits.length + 1 ∧
   ∀ S R, En t S (hlR held ++ R) → (0 < lv → ∀ x ∈ l, x.ref.toNat ∈ S ∧ ∃ zs, wBk t x.ref.toNat = some (lv - 1, zs)) → ∃ S', En u S' (a :: R) ∧ a.toNat ∈ S' ∧ Sub t S S' := by
 unfold wEb
 rcases mkE_err hst hok hlive with e | e
 ·rw [if_pos e]
  have hext := mk_ext hst hok hk hlive e
  obtain ⟨hr, hz, hc0, hnd, hcnt⟩ := mk_nd hst hok hk hlive e
  have hmo := mkE_ok e hst.1.2.1
  have hmk := mkS_ok hst hok hmo.2.2.1 hmo.2.2.2
  have haS : wBk (mkS t lv l) (wEt (wAx t l)) = some (lv, l) := by rw [hnd, if_pos rfl]
  rcases hh with rfl | ⟨h8, h256, x, hx, hxr⟩
  ·rw [if_neg (by omega)]
   refine .inr ⟨_, _, rfl, hmk, hext, by rw [Int.toNat_natCast]; exact haS, by omega, mkS_wl _ _ _, fun S R he hup => ?_⟩
   obtain ⟨S', k1, k2, k3, _⟩ := En.make (R := R) he hok hk hup hlive e
   exact ⟨S', k1, by rw [Int.toNat_natCast]; exact k2, k3⟩
  have hl : (mkS t lv l).now.length = 256 := hmk.2.1.1
  have hne : held.toNat ≠ wEt (wAx t l) := fun e2 => by
   have := hlive x hx (by omega)
   rw [hxr, e2] at this; exact this hz
  have h2 : 2 ≤ ((mkS t lv l).now.getD held.toNat 0).toNat := by
   rw [hcnt held.toNat (by omega) hne]
   have h3 : 0 < (l.map (·.ref)).count ((held.toNat : Nat) : Int) := List.count_pos_iff.2 (List.mem_map.2 ⟨x, hx, by omega⟩)
   have h4 : (t.now.getD held.toNat 0).toNat ≠ 0 := fun e2 => hlive x hx (by omega) (by rw [hxr]; exact UInt8.toNat.inj e2)
   omega
  obtain ⟨hx2, hnd2⟩ := wKh (s := mkS t lv l) (k := held.toNat) (by omega) h2
  have hlz : wDo (mkS t lv l) held.toNat = 0 := if_neg (nz_of (by omega))
  rw [if_pos (by omega), if_pos hlz]
  refine .inr ⟨_, _, rfl, wFv hmk (by omega), hext.trans hx2, by rw [Int.toNat_natCast]; exact hx2.nd _ _ haS, by omega, by show (mkS t lv l).waits.length = _; exact mkS_wl _ _ _, fun S R he hup => ?_⟩
  have hhl : hlR held ++ R = held :: R := by unfold hlR; rw [if_neg (by omega)]; rfl
  rw [hhl] at he
  obtain ⟨S', k1, k2, k3, _⟩ := En.make (R := held :: R) he hok hk hup hlive e
  obtain ⟨_, _, m3⟩ := En.loose (k := held) (k1.perm (List.Perm.swap _ _ _)) ⟨h8, h256⟩
  exact ⟨S', m3, by rw [Int.toNat_natCast]; exact k2, k3⟩
 rw [if_neg (by rcases e with e | e <;> rw [e] <;> decide)]
 exact .inl ⟨_, rfl, e⟩
def wJw (q : Ky) (x : It) : Bool := decide (x.key ≠ q)
theorem wHh {q : Ky} {l : List It} (h : ∀ y ∈ l, y.key ≠ q) : l.filter (wJw q) = l := List.filter_eq_self.2 fun y hy => decide_eq_true (h y hy)
theorem kl_ne {a b : Ky} (h : wBf a b = true) : a ≠ b := fun e => by rw [e, kl_irr] at h; cases h
theorem filter_mid {P M Q : List It} {q : Ky} (h : Srt (P ++ M ++ Q)) (hm : ∃ y ∈ M, y.key = q) : (P ++ M ++ Q).filter (wJw q) = P ++ M.filter (wJw q) ++ Q := by
 obtain ⟨y, hy, e⟩ := hm
 have h1 := List.pairwise_append.1 h
 have h2 := List.pairwise_append.1 h1.1
 rw [List.filter_append, List.filter_append, wHh (l := P) fun z hz => kl_ne (by have := h2.2.2 z hz y hy; rwa [e] at this), wHh (l := Q) fun z hz => (kl_ne (by have := h1.2.2 y (List.mem_append_right _ hy) z hz; rwa [e] at this)).symm]
theorem wKu {s : Sto} {l : Nat} {xs : List It} {q : Ky} (hshp : Shp s l xs) (hsrt : Srt (wCh s l xs)) (hp : wAt xs q < xs.length) :
  wCh s l xs = wCh s l (xs.take (wAt xs q)) ++ wCu s l xs[wAt xs q] ++ wCh s l (xs.drop (wAt xs q + 1)) ∧ (∀ y ∈ wCh s l (xs.take (wAt xs q)), wBf y.key q = true) ∧ ∀ y ∈ wCh s l (xs.drop (wAt xs q + 1)), wBf q y.key = true := by
 have hs := wJb hshp hsrt
 have e := wKy hp
 have e2 : wCh s l xs = wCh s l (xs.take (wAt xs q)) ++ wCu s l xs[wAt xs q] ++ wCh s l (xs.drop (wAt xs q + 1)) := by
  conv => lhs; rw [e]
  rw [wDi, wDi, wHx]
 refine ⟨e2, ?_⟩
 rw [e2] at hsrt
 have h1 := List.pairwise_append.1 hsrt
 have h2 := List.pairwise_append.1 h1.1
 refine ⟨fun y hy => ?_, fun y hy => ?_⟩
 ·have h0 : 0 < wAt xs q := Nat.pos_of_ne_zero fun e0 => by rw [e0] at hy; simp [wCh] at hy
  obtain ⟨a, ha, e3⟩ := one_mem (hshp.one (x := xs[wAt xs q]) (List.getElem_mem hp))
  have h3 := h2.2.2 y hy a ha
  rw [e3] at h3
  exact kl_le h3 (way_lo hs hp h0)
 obtain ⟨z, hz, hyz⟩ := List.mem_flatMap.1 hy
 have hzx : z ∈ xs := List.mem_of_mem_drop hz
 have hsz : Srt (wCu s l z) := by
  obtain ⟨A, B, hAB⟩ := List.append_of_mem hz
  have h5 := h1.2.1
  rw [hAB, wDi, wHn] at h5
  exact (List.pairwise_append.1 (List.pairwise_append.1 h5).2.1).1
 exact kl_le (way_hi hs z hz) (one_lo (hshp.one hzx) hsz y hyz)
theorem leaf_at {xs : List It} {q : Ky} (hs : Srt xs) (hf : ∃ y ∈ xs, y.key = q) : ∃ hp : place xs q < xs.length, xs[place xs q].key = q := by
 obtain ⟨y, hy, hyq⟩ := hf
 obtain ⟨hA, hD⟩ := wEs (q := q) hs
 rw [← List.take_append_drop (place xs q) xs] at hy
 rcases List.mem_append.1 hy with hy | hy
 ·exact absurd hyq (kl_ne (hA y hy))
 obtain ⟨j, hj, hjk, rfl⟩ := wKg hy
 have hp : place xs q < xs.length := by omega
 refine ⟨hp, ?_⟩
 rcases Nat.lt_or_ge (place xs q) j with h | h
 ·have h1 := srt_at hs hp hj h
  rw [hyq] at h1
  have h2 := hD _ (drop_at hp (Nat.le_refl _))
  rw [h1] at h2; cases h2
 have : j = place xs q := by omega
 subst this; exact hyq
theorem leaf_cut {xs : List It} {q : Ky} (hs : Srt xs) (hf : ∃ y ∈ xs, y.key = q) : cutF ⟨0, xs, place xs q⟩ = xs.filter (wJw q) ∧ (xs.filter (wJw q)).length + 1 = xs.length := by
 obtain ⟨hp, he⟩ := leaf_at hs hf
 obtain ⟨hA, hD⟩ := wEs (q := q) hs
 have e1 : (xs.take (place xs q)).filter (wJw q) = xs.take (place xs q) := wHh fun y hy => kl_ne (hA y hy)
 have e2 : (xs.drop (place xs q + 1)).filter (wJw q) = xs.drop (place xs q + 1) := wHh fun y hy => by
  obtain ⟨j, hj, hjk, rfl⟩ := wKg hy
  have := srt_at hs hp hj (by omega)
  rw [he] at this
  exact (kl_ne this).symm
 have e3 : xs.filter (wJw q) = xs.take (place xs q) ++ xs.drop (place xs q + 1) := by
  have hone : [xs[place xs q]].filter (wJw q) = [] := by
   rw [List.filter_cons_of_neg (by unfold wJw; rw [decide_eq_false (fun h => h he)]; decide)]; rfl
  conv => lhs; rw [wKy hp]
  rw [List.filter_append, List.filter_append, e1, e2, hone, List.append_nil]
 refine ⟨e3.symm, ?_⟩
 rw [e3, List.length_append, List.length_take, List.length_drop]; omega
theorem kid_nd {s t : Sto} {l : Nat} {y : It} {ys : List It} (he : Ext s t) (h : wBk s y.ref.toNat = some ((l : Int), ys)) : kid t y = ys ∧ kid s y = ys := by
 unfold kid; rw [h, he.nd _ _ h]; exact ⟨rfl, rfl⟩
def Nb (s : Sto) (l : Nat) (xs A : List It) : Prop := A = [] ∨ ∃ y ∈ xs, wBk s y.ref.toNat = some ((l : Int), A) ∧ Shp s l A
structure Joins (s t : Sto) (l : Nat) (xs : List It) (p : Nat) (hp : p < xs.length) (l1 : List It) (lv : Int) (A B X Z : List It) : Prop where
 eq : (wBh t ⟨lv, xs, p⟩ l1).1 = A ++ l1 ++ B
 set : ∀ a, setF ⟨lv, xs, p⟩ (wBh t ⟨lv, xs, p⟩ l1) a = X ++ [⟨wDc (A ++ l1 ++ B), a, []⟩] ++ Z
 subX : ∀ y ∈ X, y ∈ xs
 subZ : ∀ y ∈ Z, y ∈ xs
 all : wCh s (l + 1) xs = wCh s (l + 1) X ++ (wCh s l A ++ wCu s (l + 1) xs[p] ++ wCh s l B) ++ wCh s (l + 1) Z
 nbA : Nb s l xs A
 nbB : Nb s l xs B
 len : l1.length ≤ 5 → (A ++ l1 ++ B).length ≤ 5
 many : X.length + 1 + Z.length ≤ xs.length
theorem join_none {t : Sto} {w : Stp} {l1 : List It} (h : wBh t w l1 = (l1, w.at_, 1)) {s : Sto} {l : Nat} {xs : List It} {p : Nat} {lv : Int} (hp : p < xs.length) (hw : w = ⟨lv, xs, p⟩) : Joins s t l xs p hp l1 lv [] [] (xs.take p) (xs.drop (p + 1)) := by
 subst hw
 refine ⟨by rw [h]; simp, fun a => by unfold setF; rw [h]; simp, fun y hy => List.mem_of_mem_take hy, fun y hy => List.mem_of_mem_drop hy, ?_, .inl rfl, .inl rfl, fun h => by simpa using h, ?_⟩
 ·have e := wKy hp
  conv => lhs; rw [e]
  rw [wDi, wDi, wHx]; simp [wCh]
 rw [List.length_take, List.length_drop]; omega
theorem join_parts {s t : Sto} {l : Nat} {xs : List It} {p : Nat} (hp : p < xs.length) (l1 : List It) (lv : Int) (hshp : Shp s (l + 1) xs) (he : Ext s t) : ∃ A B X Z, Joins s t l xs p hp l1 lv A B X Z := by
 cases hn : nxt ⟨lv, xs, p⟩ with
 | none => exact ⟨_, _, _, _, join_none (by unfold wBh; rw [hn]) hp rfl⟩
 | some i =>
  have hi : i < xs.length ∧ (i = p + 1 ∨ i + 1 = p) := by
   unfold nxt at hn
   simp only at hn
   split at hn
   ·split at hn
    ·cases hn
    cases hn; omega
   cases hn; omega
  obtain ⟨hil, hic⟩ := hi
  have hget : xs[i]? = some xs[i] := List.getElem?_eq_getElem hil
  obtain ⟨ys, h1, h2, h3, h4⟩ := hshp _ (List.getElem_mem hil)
  obtain ⟨hk, _⟩ := kid_nd he h1
  have hj : wBh t ⟨lv, xs, p⟩ l1 = if 5 < ys.length + l1.length then (l1, p, 1) else if i < p then (ys ++ l1, i, 2) else (l1 ++ ys, p, 2) := by
   unfold wBh; rw [hn]; simp only [hget, hk]
  by_cases hlen : 5 < ys.length + l1.length
  ·exact ⟨_, _, _, _, join_none (by rw [hj, if_pos hlen]) hp rfl⟩
  rw [if_neg hlen] at hj
  rcases hic with rfl | rfl
  ·rw [if_neg (by omega)] at hj
   refine ⟨[], ys, xs.take p, xs.drop (p + 2), by rw [hj]; simp, fun a => by unfold setF; rw [hj]; simp, fun y hy => List.mem_of_mem_take hy, fun y hy => List.mem_of_mem_drop hy, ?_, .inl rfl, .inr ⟨_, List.getElem_mem hil, h1, h4⟩, fun _ => by simp; omega, ?_⟩
   ·have e : xs = xs.take p ++ [xs[p]] ++ ([xs[p + 1]] ++ xs.drop (p + 2)) := by
     conv => lhs; rw [wKy hp]
     rw [List.drop_eq_getElem_cons hil]; rfl
    conv => lhs; rw [e]
    rw [wDi, wDi, wDi, wHx, wHx, wCf h1]
    simp [wCh]
   rw [List.length_take, List.length_drop]; omega
  rw [if_pos (by omega)] at hj
  refine ⟨ys, [], xs.take i, xs.drop (i + 2), by rw [hj]; simp, fun a => by unfold setF; rw [hj]; simp, fun y hy => List.mem_of_mem_take hy, fun y hy => List.mem_of_mem_drop hy, ?_, .inr ⟨_, List.getElem_mem hil, h1, h4⟩, .inl rfl, fun _ => by simp; omega, ?_⟩
  ·have e : xs = xs.take i ++ [xs[i]] ++ ([xs[i + 1]] ++ xs.drop (i + 2)) := by
    conv => lhs; rw [wKy hil]
    rw [List.drop_eq_getElem_cons hp]; rfl
   conv => lhs; rw [e]
   rw [wDi, wDi, wDi, wHx, wHx, wCf h1]
   simp [wCh]
  rw [List.length_take, List.length_drop]; omega
theorem leafF_cons {w : Stp} {ws : List Stp} (h : ws ≠ []) : wJi (w :: ws) = wJi ws := by
 obtain ⟨a, b, rfl⟩ := List.exists_cons_of_ne_nil h
 unfold wJi; rw [List.getLast?_cons_cons]
theorem way_ne (s : Sto) (q : Ky) : ∀ (l : Nat) (xs : List It), wDf s q l xs ≠ []
 | 0, _ => by rw [wDf]; exact fun h => by cases h
 | l + 1, _ => by rw [wDf]; exact fun h => by cases h
structure ItL (l : Nat) (ys : List It) : Prop where
 bad : ∀ y ∈ ys, wDu y = false
 key : ∀ y ∈ ys, wFp y.key
 up : 0 < l → ∀ y ∈ ys, y.ref ≠ 0 ∧ y.val = []
theorem ItL.app {l : Nat} {xs ys : List It} (h : ItL l xs) (k : ItL l ys) : ItL l (xs ++ ys) :=
 ⟨fun y hy => (List.mem_append.1 hy).elim (h.bad y) (k.bad y), fun y hy => (List.mem_append.1 hy).elim (h.key y) (k.key y), fun hl y hy => (List.mem_append.1 hy).elim (h.up hl y) (k.up hl y)⟩
theorem ItL.sub {l : Nat} {xs ys : List It} (h : ItL l xs) (hs : ∀ y ∈ ys, y ∈ xs) : ItL l ys := ⟨fun y hy => h.bad y (hs y hy), fun y hy => h.key y (hs y hy), fun hl y hy => h.up hl y (hs y hy)⟩
theorem ItL.of {s : Sto} {k : Nat} {l : Nat} {xs : List It} (h : wBk s k = some ((l : Int), xs)) : ItL l xs := by
 have hi := ndOk_items h
 exact ⟨fun y hy => (hi y hy).1, fun y hy => (hi y hy).2.1, fun hl y hy => (hi y hy).2.2 (by omega)⟩
theorem ItL.nil {l : Nat} : ItL l [] := ⟨fun _ h => (List.not_mem_nil h).elim, fun _ h => (List.not_mem_nil h).elim, fun _ _ h => (List.not_mem_nil h).elim⟩
theorem nb_itl {s : Sto} {l : Nat} {xs A : List It} (h : Nb s l xs A) : ItL l A := by
 rcases h with rfl | ⟨y, _, h, _⟩
 ·exact ItL.nil
 exact ItL.of h
theorem nb_shp {s : Sto} {l : Nat} {xs A : List It} (h : Nb s l xs A) : Shp s l A := by
 rcases h with rfl | ⟨y, _, _, h⟩
 ·cases l <;> exact fun x hx => by cases hx
 exact h
theorem nb_in {s : Sto} {l : Nat} {xs A : List It} {S : List Nat} {R : List Int} {k : Nat} (h : Nb s l xs A) (he : En s S R) (hk : k ∈ S) (hnd : wBk s k = some (((l + 1 : Nat) : Int), xs)) (hl : 0 < l) : ∀ x ∈ A, x.ref.toNat ∈ S ∧ ∃ zs, wBk s x.ref.toNat = some ((l : Int) - 1, zs) := fun x hx => by
 rcases h with rfl | ⟨y, hy, h, _⟩
 ·cases hx
 obtain ⟨a, _⟩ := he.closed k hk _ _ hnd (by omega) y hy
 exact he.closed _ a _ _ h (by omega) x hx
theorem fit_ok {t : Sto} {l : Nat} {ys : List It} (hl : l < 6) (hne : l ≠ 0 → ys ≠ []) (hlen : ys.length ≤ 5) (hi : ItL l ys) (hs : Srt ys) : wEv (l : Int) ys = true := by
 unfold wEv
 rw [Bool.and_eq_true]
 refine ⟨decide_eq_true ⟨by omega, by omega, hlen, fun h e => hne (by omega) (List.eq_nil_of_length_eq_zero e)⟩, items_ok (fun x hx => ⟨hi.bad x hx, fun e => hi.up (by have := of_decide_eq_true e; omega) x hx⟩) hs (fun q e => by cases e)⟩
theorem shp_live {t : Sto} {l : Nat} {ys : List It} (h : Shp t l ys) : ∀ x ∈ ys, x.ref ≠ 0 → ¬ t.now.getD x.ref.toNat 0 = 0 := fun x hx h0 => by
 cases l with
 | zero => exact (h x hx).resolve_left h0
 | succ l => obtain ⟨ys, e1, _⟩ := h x hx; exact wFu e1
structure DnOk (s t : Sto) (q : Ky) (l : Nat) (xs : List It) (k : Nat) (l1 : List It) (held : Int) : Prop where
 ok : wCc t
 ext : Ext s t
 shp : Shp t l l1
 all : wCh t l l1 = (wCh s l xs).filter (wJw q)
 len : l1.length ≤ xs.length
 itl : ItL l l1
 hel : held = 0 ∨ (8 ≤ held ∧ held < 256 ∧ ∃ x ∈ l1, x.ref = held)
 waits : t.waits.length ≤ s.waits.length + l
 en : ∀ S R, En s S R → k ∈ S → ∃ S', En t S' (hlR held ++ R) ∧ Sub s S S' ∧ (0 < l → ∀ x ∈ l1, x.ref.toNat ∈ S')
theorem dn_law {s : Sto} {q : Ky} (hst : wCc s) : ∀ (l : Nat) (xs : List It) (k : Nat), wBk s k = some ((l : Int), xs) → Shp s l xs → Srt (wCh s l xs) → (∃ y ∈ wCh s l xs, y.key = q) →
  (∃ e, dn s (wJi (wDf s q l xs)) (wDf s q l xs).dropLast = .error e ∧ (e = 9 ∨ e = 70)) ∨ ∃ t l1 held, dn s (wJi (wDf s q l xs)) (wDf s q l xs).dropLast = .ok (t, l1, held) ∧ DnOk s t q l xs k l1 held
 | 0, xs, k, hnd, hshp, hsrt, hf => by
  rw [wEq] at hsrt hf
  obtain ⟨h1, h2⟩ := leaf_cut hsrt hf
  have hsub : ∀ y ∈ xs.filter (wJw q), y ∈ xs := fun y hy => (List.mem_filter.1 hy).1
  refine .inr ⟨s, xs.filter (wJw q), 0, ?_, hst, Ext.refl s, hshp.sub hsub, by rw [wEq, wEq], by omega, (ItL.of hnd).sub hsub, .inl rfl, Nat.le_refl _, fun S R he hk => ⟨S, he, fun n hn _ => hn, fun h => by omega⟩⟩
  show dn s (cutF ⟨0, xs, place xs q⟩) [] = _
  rw [h1]; rfl
 | l + 1, xs, k, hnd, hshp, hsrt, hf => by
  have hno := wBo hnd
  have hne := wKf hnd (by omega)
  have hp := wAt_lt (q := q) hne
  obtain ⟨ys, hy1, hy2, hy3, hy4⟩ := hshp _ (List.getElem_mem hp)
  have hkid : kid s xs[wAt xs q] = ys := by unfold kid; rw [hy1]
  have hway : wDf s q (l + 1) xs = ⟨((l + 1 : Nat) : Int), xs, wAt xs q⟩ :: wDf s q l ys := by
   rw [wDf, List.getElem?_eq_getElem hp]; show _ :: wDf s q l (kid s xs[wAt xs q]) = _; rw [hkid]
  obtain ⟨w1, w2, w3⟩ := wKu hshp hsrt hp
  have hmid : ∃ y ∈ wCh s l ys, y.key = q := by
   obtain ⟨y, hy, hyq⟩ := hf
   rw [w1] at hy
   rcases List.mem_append.1 hy with hy | hy
   ·rcases List.mem_append.1 hy with hy | hy
    ·exact absurd hyq (kl_ne (w2 y hy))
    exact ⟨y, by rw [← wCf hy1]; exact hy, hyq⟩
   exact absurd hyq.symm (kl_ne (w3 y hy))
  have hsy : Srt (wCh s l ys) := by
   rw [w1] at hsrt
   have := (List.pairwise_append.1 (List.pairwise_append.1 hsrt).1).2.1
   rwa [wCf hy1] at this
  have hfil : (wCh s (l + 1) xs).filter (wJw q) = wCh s (l + 1) (xs.take (wAt xs q)) ++ (wCh s l ys).filter (wJw q) ++ wCh s (l + 1) (xs.drop (wAt xs q + 1)) := by
   rw [w1, List.filter_append, List.filter_append, wHh fun y hy => kl_ne (w2 y hy), wHh fun y hy => (kl_ne (w3 y hy)).symm, wCf hy1]
  have hdl : (wDf s q (l + 1) xs).dropLast = ⟨((l + 1 : Nat) : Int), xs, wAt xs q⟩ :: (wDf s q l ys).dropLast := by
   rw [hway, List.dropLast_cons_of_ne_nil (way_ne s q l ys)]
  rw [hdl, hway, leafF_cons (way_ne s q l ys)]
  rcases dn_law hst l ys _ hy1 hy4 hsy hmid with ⟨e, h1, h2⟩ | ⟨t, l1, held, h1, h2⟩
  ·exact .inl ⟨e, by rw [dn, h1], h2⟩
  have hdn : dn s (wJi (wDf s q l ys)) (⟨((l + 1 : Nat) : Int), xs, wAt xs q⟩ :: (wDf s q l ys).dropLast) = upD t ⟨((l + 1 : Nat) : Int), xs, wAt xs q⟩ l1 held := by rw [dn, h1]
  rw [hdn]
  unfold upD
  have hl5 := hno.len
  by_cases hl1 : l1 = []
  ·subst hl1
   rw [if_pos rfl]
   have h0 : held = 0 := h2.hel.resolve_right fun ⟨_, _, x, hx, _⟩ => by cases hx
   subst h0
   have hsub : ∀ y ∈ cutF ⟨((l + 1 : Nat) : Int), xs, wAt xs q⟩, y ∈ xs := fun y hy => by
    unfold cutF at hy
    exact (List.mem_append.1 hy).elim List.mem_of_mem_take List.mem_of_mem_drop
   obtain ⟨e1, e2⟩ := h2.ext.shp (hshp.sub hsub)
   have hnil : (wCh s l ys).filter (wJw q) = [] := by rw [← h2.all]; rfl
   refine .inr ⟨t, _, 0, rfl, h2.ok, h2.ext, e1, ?_, ?_, (ItL.of hnd).sub hsub, .inl rfl, by have := h2.waits; omega, fun S R he hk => ?_⟩
   ·rw [e2, hfil, hnil, List.append_nil]
    unfold cutF; rw [wDi]
   ·unfold cutF; show (xs.take _ ++ xs.drop _).length ≤ _; rw [List.length_append, List.length_take, List.length_drop]; omega
   obtain ⟨hcS, _⟩ := he.closed k hk _ _ hnd (by omega) _ (List.getElem_mem hp)
   obtain ⟨S', k1, k2, k3⟩ := h2.en S R he hcS
   refine ⟨S', k1, k2, fun _ x hx => ?_⟩
   obtain ⟨a, zs, b⟩ := he.closed k hk _ _ hnd (by omega) x (hsub x hx)
   exact k2 _ a (by rw [b]; simp)
  rw [if_neg hl1]
  obtain ⟨A, B, X, Z, hJ⟩ := join_parts (t := t) hp l1 ((l + 1 : Nat) : Int) hshp h2.ext
  rw [hJ.eq]
  obtain ⟨a1, a2⟩ := h2.ext.shp (nb_shp hJ.nbA)
  obtain ⟨b1, b2⟩ := h2.ext.shp (nb_shp hJ.nbB)
  have hshp2 : Shp t l (A ++ l1 ++ B) := (a1.app h2.shp).app b1
  have hall2 : wCh t l (A ++ l1 ++ B) = wCh s l A ++ (wCh s l ys).filter (wJw q) ++ wCh s l B := by rw [wDi, wDi, a2, b2, h2.all]
  have hsrt2 : Srt (wCh t l (A ++ l1 ++ B)) := by
   rw [hall2]
   have h5 := hsrt
   rw [hJ.all, wCf hy1] at h5
   have h6 := (List.pairwise_append.1 (List.pairwise_append.1 h5).1).2.1
   exact List.Pairwise.sublist (((List.Sublist.refl _).append List.filter_sublist).append (List.Sublist.refl _)) h6
  have hitl : ItL l (A ++ l1 ++ B) := ((nb_itl hJ.nbA).app h2.itl).app (nb_itl hJ.nbB)
  have hys5 : ys.length ≤ 5 := (wBo hy1).len
  have hne2 : A ++ l1 ++ B ≠ [] := fun e => hl1 (List.append_eq_nil_iff.1 (List.append_eq_nil_iff.1 e).1).2
  have hok := fit_ok (t := t) (l := l) (by have := hno.lev; omega) (fun _ => hne2) (hJ.len (by have := h2.len; omega)) hitl (wJb hshp2 hsrt2)
  have hlv : ((l + 1 : Nat) : Int) - 1 = (l : Int) := by omega
  dsimp only
  rw [hlv]
  rcases single_law (held := held) h2.ok hok hitl.key (shp_live hshp2) (h2.hel.imp id fun ⟨c1, c2, x, hx, c3⟩ => ⟨c1, c2, x, by simp [hx], c3⟩) with ⟨e, m1, m2⟩ | ⟨u, a, m1, m2, m3, m4, m5, m6, m7⟩
  ·exact .inl ⟨e, by rw [m1], m2⟩
  rw [m1]; dsimp only; rw [hJ.set]
  have hx2 := h2.ext.trans m3
  obtain ⟨x1, x2⟩ := hx2.shp (hshp.sub hJ.subX)
  obtain ⟨z1, z2⟩ := hx2.shp (hshp.sub hJ.subZ)
  obtain ⟨j1, j2⟩ := m3.shp hshp2
  have hone : Shp u (l + 1) [⟨wDc (A ++ l1 ++ B), a, []⟩] := fun x hx => by
   rw [List.mem_singleton.1 hx]
   exact ⟨_, m4, hne2, rfl, j1⟩
  have hkey : wFp (wDc (A ++ l1 ++ B)) := by
   obtain ⟨z, zs, e⟩ := List.exists_cons_of_ne_nil hne2
   rw [e]; exact hitl.key z (by rw [e]; simp)
  have hionew : ItL (l + 1) [⟨wDc (A ++ l1 ++ B), a, []⟩] := ⟨fun y hy => by rw [List.mem_singleton.1 hy]; exact up_bad ⟨rfl, m5⟩, fun y hy => by rw [List.mem_singleton.1 hy]; exact hkey, fun _ y hy => by rw [List.mem_singleton.1 hy]; exact ⟨by show a ≠ 0; omega, rfl⟩⟩
  refine .inr ⟨u, _, a, rfl, m2, hx2, (x1.app hone).app z1, ?_, ?_, (((ItL.of hnd).sub hJ.subX).app hionew).app ((ItL.of hnd).sub hJ.subZ), .inr ⟨m5.1, m5.2, ⟨wDc (A ++ l1 ++ B), a, []⟩, by simp, rfl⟩, by have := h2.waits; omega, fun S R he hk => ?_⟩
  ·rw [wDi, wDi, x2, z2, wHx, wCf (x := ⟨wDc (A ++ l1 ++ B), a, []⟩) m4, j2, hall2]
   have e3 : (wCh s (l + 1) xs).filter (wJw q) = wCh s (l + 1) X ++ (wCh s l A ++ (wCh s l ys).filter (wJw q) ++ wCh s l B) ++ wCh s (l + 1) Z := by
    have h5 := hsrt
    rw [hJ.all, wCf hy1] at h5 ⊢
    have e : wCh s (l + 1) X ++ (wCh s l A ++ wCh s l ys ++ wCh s l B) ++ wCh s (l + 1) Z = (wCh s (l + 1) X ++ wCh s l A) ++ wCh s l ys ++ (wCh s l B ++ wCh s (l + 1) Z) := by simp only [List.append_assoc]
    rw [e] at h5 ⊢
    rw [filter_mid h5 hmid]; simp only [List.append_assoc]
   rw [e3]
  ·have := hJ.many; simp only [List.length_append, List.length_singleton]; omega
  obtain ⟨hcS, _⟩ := he.closed k hk _ _ hnd (by omega) _ (List.getElem_mem hp)
  obtain ⟨S1, k1, k2, k3⟩ := h2.en S R he hcS
  obtain ⟨S2, n1, n2, n3⟩ := m7 S1 R k1 fun hl x hx => by
   have hl0 : 0 < l := by omega
   rcases List.mem_append.1 hx with hx | hx
   ·rcases List.mem_append.1 hx with hx | hx
    ·obtain ⟨c1, zs, c2⟩ := nb_in hJ.nbA he hk hnd hl0 x hx
     exact ⟨k2 _ c1 (by rw [c2]; simp), zs, h2.ext.nd _ _ c2⟩
    obtain ⟨l0, rfl⟩ : ∃ l0, l = l0 + 1 := ⟨l - 1, by omega⟩
    obtain ⟨zs, e1, _⟩ := h2.shp x hx
    exact ⟨k3 hl0 x hx, zs, by rw [e1]; congr 2; omega⟩
   obtain ⟨c1, zs, c2⟩ := nb_in hJ.nbB he hk hnd hl0 x hx
   exact ⟨k2 _ c1 (by rw [c2]; simp), zs, h2.ext.nd _ _ c2⟩
  have hh : hlR a ++ R = a :: R := by unfold hlR; rw [if_neg (by omega)]; rfl
  refine ⟨S2, by rw [hh]; exact n1, k2.trans h2.ext n3, fun _ x hx => ?_⟩
  have hold : ∀ y ∈ xs, y.ref.toNat ∈ S2 := fun y hy => by
   obtain ⟨c1, zs, c2⟩ := he.closed k hk _ _ hnd (by omega) y hy
   exact n3 _ (k2 _ c1 (by rw [c2]; simp)) (by rw [h2.ext.nd _ _ c2]; simp)
  rcases List.mem_append.1 hx with hx | hx
  ·rcases List.mem_append.1 hx with hx | hx
   ·exact hold x (hJ.subX x hx)
   rw [List.mem_singleton.1 hx]; exact n2
  exact hold x (hJ.subZ x hx)
def Lev (s : Sto) : Nat → List It → Prop
 | 0, _ => True
 | l + 1, xs => ∀ x ∈ xs, ∃ ys, wBk s x.ref.toNat = some ((l : Int), ys) ∧ Lev s l ys
theorem lev_of {s : Sto} : ∀ {l : Nat} {xs : List It}, Shp s l xs → Lev s l xs
 | 0, _, _ => trivial
 | l + 1, xs, h => fun x hx => by obtain ⟨ys, h1, _, _, h4⟩ := h x hx; exact ⟨ys, h1, lev_of h4⟩
theorem lev_off {s t : Sto} {r : Nat} {lv : Int} {zs : List It} (hr : wBk s r = some (lv, zs)) (h : ∀ n, n ≠ r → wBk t n = wBk s n) : ∀ {l : Nat} {xs : List It}, (l : Int) ≤ lv → Lev s l xs → Lev t l xs
 | 0, _, _, _ => trivial
 | l + 1, xs, hl, hL => fun x hx => by
  obtain ⟨ys, h1, h2⟩ := hL x hx
  refine ⟨ys, ?_, lev_off hr h (by omega) h2⟩
  rw [h _ (fun e => by rw [e, hr] at h1; cases h1; omega)]; exact h1
theorem clearS_nd {s : Sto} {k n : Nat} (h : n ≠ k) : wBk (wCo s k) n = wBk s n := by
 have hs : seen (wCo s k) n = seen s n := rfl
 unfold wBk
 rw [hs]
 show (if (s.now.set k 0).getD n 0 = 0 then none else _) = _
 rw [wCb h]
theorem sumN_ge {xs : List By} {k : Nat} (hk : k < xs.length) : (xs.getD k 0).toNat ≤ wEr xs := by
 have := sumN_set (v := 0) hk
 have h0 : (0 : By).toNat = 0 := rfl
 omega
theorem low_leave {t : Sto} {r : Int} {l : Nat} {x : It} {ys : List It} (hst : wCc t) (hr : 8 ≤ r ∧ r < 256) (hb : 8 ≤ x.ref ∧ x.ref < 256) (hnd : wBk t r.toNat = some (((l + 1 : Nat) : Int), [x])) (hnb : wBk t x.ref.toNat = some ((l : Int), ys)) (he : wCk t x.ref.toNat = 0) :
  ∃ u, wGv (wCs t x.ref.toNat) r = some u ∧ wCc u ∧ (∀ n, n ≠ r.toNat → wBk u n = wBk t n) ∧ u.waits = t.waits := by
 have hl : t.now.length = 256 := hst.2.1.1
 obtain ⟨h0, h255⟩ := shareE_is he
 obtain ⟨hx, hnds⟩ := shareS_ndAt (s := t) (k := x.ref.toNat) (by omega) he
 have hn := shareS_now (s := t) (k := x.ref.toNat) (by omega) h255
 have hne : x.ref.toNat ≠ r.toNat := fun e => by rw [e, hnd] at hnb; cases hnb
 have hsok := shareS_ok (s := t) (k := x.ref.toNat) hst (by omega)
 have hz0 : (t.now.getD x.ref.toNat 0).toNat ≠ 0 := fun e => h0 (UInt8.toNat.inj e)
 have hb2 := hn x.ref.toNat
 rw [if_pos rfl] at hb2
 have hsl : (wCs t x.ref.toNat).now.length = 256 := hsok.2.1.1
 have hsum := sumN_ge (xs := (wCs t x.ref.toNat).now) (k := x.ref.toNat) (by omega)
 have hndr : wBk (wCs t x.ref.toNat) r.toNat = some (((l + 1 : Nat) : Int), [x]) := by rw [hnds]; exact hnd
 have hrz := wFu hndr
 obtain ⟨f, hf⟩ : ∃ f, wEr (wCs t x.ref.toNat).now = f + 2 := ⟨wEr (wCs t x.ref.toNat).now - 2, by omega⟩
 unfold wGv
 rw [hf]
 have hw : (wCs t x.ref.toNat).waits = t.waits := rfl
 generalize wCs t x.ref.toNat = u0 at *
 by_cases h1 : u0.now.getD r.toNat 0 = 1
 ·have hno : ¬ (u0.now.getD r.toNat 0 = 0 ∨ ((0 : Int) ≤ -1 ∧ ((l + 1 : Nat) : Int) ≠ -1)) := by
   rintro (e | ⟨a, _⟩)
   ·rw [h1] at e; cases e
   omega
  rw [wFm hrz h1 hndr, if_neg hno, if_pos (by omega)]
  show ∃ u, lvF u0.now (f + 1) (wCo u0 r.toNat) ((x.ref, ((l + 1 : Nat) : Int) - 1) :: []) = some u ∧ _
  have hcb : (wCo u0 r.toNat).now.getD x.ref.toNat 0 = u0.now.getD x.ref.toNat 0 := by
   show (u0.now.set r.toNat 0).getD _ 0 = _; exact wCb hne
  have hcl : (wCo u0 r.toNat).now.length = 256 := by show (u0.now.set _ _).length = _; rw [List.length_set]; exact hsl
  obtain ⟨k1, k2⟩ := wKh (s := wCo u0 r.toNat) (k := x.ref.toNat) (by omega) (by rw [hcb]; omega)
  rw [lv_more (by rw [hcb]; exact nz_of (by omega)) (by rw [hcb]; intro e; rw [e] at hb2; have : (1 : By).toNat = 1 := rfl; omega)]
  refine ⟨_, by rw [show lvF u0.now f (wBx (wCo u0 r.toNat) x.ref.toNat) [] = some (wBx (wCo u0 r.toNat) x.ref.toNat) by cases f <;> rfl], wFv (wHm hsok (by omega)) (by omega), fun n hn2 => ?_, ?_⟩
  ·rw [k2, clearS_nd hn2, hnds]
  exact hw
 rw [lv_more hrz h1]
 have hrz2 : (u0.now.getD r.toNat 0).toNat ≠ 0 := fun e => hrz (UInt8.toNat.inj e)
 have hr1 : (u0.now.getD r.toNat 0).toNat ≠ 1 := fun e => h1 (UInt8.toNat.inj (by rw [e]; rfl))
 obtain ⟨k1, k2⟩ := wKh (s := u0) (k := r.toNat) (by omega) (by omega)
 refine ⟨_, by rw [show lvF u0.now (f + 1) (wBx u0 r.toNat) [] = some (wBx u0 r.toNat) from rfl], wFv hsok (by omega), fun n _ => by rw [k2, hnds], ?_⟩
 exact hw
def Kp (s : Sto) (S : List Nat) (t : Sto) (S' : List Nat) (R : List Int) : Prop := ∀ r ∈ R, 8 ≤ r ∧ r < 256 → r.toNat ∈ S → ∀ (l : Nat) xs, wBk s r.toNat = some ((l : Int), xs) → Shp s l xs → r.toNat ∈ S' ∧ wBk t r.toNat = some ((l : Int), xs) ∧ Shp t l xs ∧ wCh t l xs = wCh s l xs
theorem Kp.refl (s : Sto) (S : List Nat) (R : List Int) : Kp s S s S R := fun r _ _ hS l xs h1 h2 => ⟨hS, h1, h2, rfl⟩
theorem Kp.trans {s t u : Sto} {S S' S'' : List Nat} {R : List Int} (h : Kp s S t S' R) (k : Kp t S' u S'' R) : Kp s S u S'' R := fun r hr hb hS l xs h1 h2 => by
 obtain ⟨a, b, c, d⟩ := h r hr hb hS l xs h1 h2
 obtain ⟨a2, b2, c2, d2⟩ := k r hr hb a l xs b c
 exact ⟨a2, b2, c2, d2.trans d⟩
theorem Kp.ext {s t : Sto} {S S' : List Nat} {R : List Int} (h : Ext s t) (hs : Sub s S S') : Kp s S t S' R := fun r hr hb hS l xs h1 h2 => by
 obtain ⟨e1, e2⟩ := h.shp h2
 exact ⟨hs _ hS (by rw [h1]; simp), h.nd _ _ h1, e1, e2⟩
theorem Kp.sub {s t : Sto} {S S' : List Nat} {R R' : List Int} (h : Kp s S t S' R) (hs : ∀ r ∈ R', r ∈ R) : Kp s S t S' R' := fun r hr => h r (hs r hr)
structure DelOk (s t : Sto) (root now : Int) (q : Ky) (R : List Int) (S S' : List Nat) : Prop where
 en : En t S' (now :: R)
 inS : now.toNat ∈ S'
 rng : 8 ≤ now ∧ now < 256
 chk : (wFh t now).2 = 0
 high : (wFh t now).1 ≤ (wFh s root).1
 all : allT t now = (allT s root).filter (wJw q)
 other : ∀ r ∈ R, r.toNat ∈ S → (wFh s r).2 = 0 → wFh t r = wFh s r ∧ allT t r = allT s r ∧ r.toNat ∈ S'
 waits : (t.waits.length : Int) ≤ s.waits.length + (wFh s root).1
theorem Kp.tree {s t : Sto} {S S' : List Nat} {R : List Int} (h : Kp s S t S' R) (hst : wCc t) {r : Int} (hr : r ∈ R) (hS : r.toNat ∈ S) (hf : (wFh s r).2 = 0) : wFh t r = wFh s r ∧ allT t r = allT s r ∧ r.toNat ∈ S' := by
 obtain ⟨_, h8, h256, _, lev, xs, hnd, ht, h1⟩ := fchk_ok hf
 obtain ⟨a, b, c, d⟩ := h r hr ⟨h8, h256⟩ hS lev xs hnd (shp_of ht)
 have hsrt : Srt (wCh t lev xs) := by rw [d]; exact tree_srt ht
 obtain ⟨f1, f2⟩ := fchk_of hst ⟨h8, h256⟩ b (tree_of c hsrt)
 refine ⟨?_, ?_, a⟩
 ·rw [f1, ← h1]; exact Prod.ext rfl hf.symm
 rw [f2, d]; unfold allT; rw [hnd]; rfl
theorem delF_in {s : Sto} {root : Int} {q : Ky} {y : It} {lev : Nat} {xs : List It} (hf : (wFh s root).2 = 0) (hfd : fnd s root q = some y) (hnd : wBk s root.toNat = some ((lev : Int), xs)) : delF s root q = delIn s root (wDf s q lev xs) := by
 unfold fnd at hfd
 rw [hnd] at hfd
 change wCn s q lev xs = some y at hfd
 unfold delF
 rw [if_pos hf, hnd]
 show (match wCn s q ((lev : Int)).toNat xs with | none => _ | some _ => delIn s root (wDf s q ((lev : Int)).toNat xs)) = _
 rw [Int.toNat_natCast, hfd]
theorem delF_no {s : Sto} {root : Int} {q : Ky} (hf : (wFh s root).2 = 0) (hfd : fnd s root q = none) : delF s root q = .error 6 := by
 obtain ⟨_, _, _, _, lev, xs, hnd, _, _⟩ := fchk_ok hf
 unfold fnd at hfd
 rw [hnd] at hfd
 unfold delF
 rw [if_pos hf, hnd]
 change wCn s q lev xs = none at hfd
 show (match wCn s q ((lev : Int)).toNat xs with | none => _ | some _ => _) = _
 rw [Int.toNat_natCast, hfd]
theorem delF_bad {s : Sto} {root : Int} {q : Ky} (hf : ¬ (wFh s root).2 = 0) : delF s root q = .error (wFh s root).2 := by unfold delF; rw [if_neg hf]
structure TopOk (s u : Sto) (q : Ky) (lev : Nat) (xs : List It) (k : Nat) (a : Int) (L : Nat) (l1 : List It) : Prop where
 ok : wCc u
 ext : Ext s u
 nd : wBk u a.toNat = some ((L : Int), l1)
 rng : 8 ≤ a ∧ a < 256
 shp : Shp u L l1
 le : L ≤ lev
 all : wCh u L l1 = (wCh s lev xs).filter (wJw q)
 waits : u.waits.length ≤ s.waits.length + lev + 1
 en : ∀ S R, En s S R → k ∈ S → ∃ S', En u S' (a :: R) ∧ a.toNat ∈ S' ∧ Sub s S S'
theorem top_law {s : Sto} {q : Ky} {lev : Nat} {xs : List It} {k : Nat} (hst : wCc s) (hnd : wBk s k = some ((lev : Int), xs)) (hshp : Shp s lev xs) (hsrt : Srt (wCh s lev xs)) (hf : ∃ y ∈ wCh s lev xs, y.key = q) :
  (∃ e, delTop (((wDf s q lev xs).length : Int) - 1) (dn s (wJi (wDf s q lev xs)) (wDf s q lev xs).dropLast) = .error e ∧ (e = 9 ∨ e = 70)) ∨ ∃ u a L l1, delTop (((wDf s q lev xs).length : Int) - 1) (dn s (wJi (wDf s q lev xs)) (wDf s q lev xs).dropLast) = .ok (u, a) ∧ TopOk s u q lev xs k a L l1 := by
 have hlv := (wBo hnd).lev
 have hl5 := (wBo hnd).len
 rcases dn_law (q := q) hst lev xs k hnd hshp hsrt hf with ⟨e, h1, h2⟩ | ⟨t, l1, held, h1, h2⟩
 ·exact .inl ⟨e, by rw [h1]; rfl, h2⟩
 rw [h1, way_len]
 obtain ⟨L, hL, hLn, hLl⟩ : ∃ L : Nat, (if l1 = [] then (0 : Int) else ((lev + 1 : Nat) : Int) - 1) = (L : Int) ∧ (L ≠ 0 → l1 ≠ []) ∧ (L = lev ∨ (L = 0 ∧ l1 = [])) := by
  by_cases h : l1 = []
  ·exact ⟨0, if_pos h, fun h0 => absurd rfl h0, .inr ⟨rfl, h⟩⟩
  exact ⟨lev, by rw [if_neg h]; omega, fun _ => h, .inl rfl⟩
 have hshp2 : Shp t L l1 ∧ wCh t L l1 = wCh t lev l1 ∧ ItL L l1 := by
  rcases hLl with rfl | ⟨rfl, rfl⟩
  ·exact ⟨h2.shp, rfl, h2.itl⟩
  exact ⟨fun x hx => (List.not_mem_nil hx).elim, rfl, ItL.nil⟩
 obtain ⟨c1, c2, c3⟩ := hshp2
 have hs2 : Srt (wCh t L l1) := by rw [c2, h2.all]; exact hsrt.filter _
 have hok := fit_ok (t := t) (l := L) (by rcases hLl with rfl | ⟨rfl, _⟩ <;> omega) hLn (by have := h2.len; omega) c3 (wJb c1 hs2)
 show (∃ e, wEb t (if l1 = [] then 0 else ((lev + 1 : Nat) : Int) - 1) l1 held = .error e ∧ _) ∨ ∃ u a L l2, wEb t (if l1 = [] then 0 else ((lev + 1 : Nat) : Int) - 1) l1 held = .ok (u, a) ∧ _
 rw [hL]
 rcases single_law (held := held) h2.ok hok c3.key (shp_live c1) h2.hel with ⟨e, m1, m2⟩ | ⟨u, a, m1, m2, m3, m4, m5, m6, m7⟩
 ·exact .inl ⟨e, m1, m2⟩
 obtain ⟨x1, x2⟩ := m3.shp c1
 refine .inr ⟨u, a, L, l1, m1, m2, h2.ext.trans m3, m4, m5, x1, by rcases hLl with rfl | ⟨rfl, _⟩ <;> omega, by rw [x2, c2, h2.all], by have := h2.waits; omega, fun S R he hk => ?_⟩
 obtain ⟨S1, k1, k2, k3⟩ := h2.en S R he hk
 obtain ⟨S2, n1, n2, n3⟩ := m7 S1 R k1 fun hl x hx => by
  rcases hLl with rfl | ⟨rfl, rfl⟩
  ·have hl0 : 0 < L := by omega
   obtain ⟨l0, rfl⟩ : ∃ l0, L = l0 + 1 := ⟨L - 1, by omega⟩
   obtain ⟨zs, e1, _⟩ := h2.shp x hx
   exact ⟨k3 hl0 x hx, zs, by rw [e1]; congr 2; omega⟩
  cases hx
 exact ⟨S2, n1, n2, k2.trans h2.ext n3⟩
end Go.Proofs.YtkcpllhggofloaaGreat
