/- An item taken out, without a program in sight: what becomes of the trees. No statement of the seat is proved here. -/
import Derived.Test.YtckdncmjkloebaaGreatZPutl
namespace Go.Proofs.YtckdncmjkloebaaGreat
set_option linter.unusedSimpArgs false
set_option linter.unusedVariables false
open Go.RowKit
def nxt (w : Stp) : Option Nat := if w.at_ + 1 = w.xs.length then (if w.at_ = 0 then none else some (w.at_ - 1)) else some (w.at_ + 1)
def wBx (t : Sto) (w : Stp) (l : List It) : List It × Nat × Nat := match nxt w with
  | none => (l, w.at_, 1)
  | some p => match w.xs[p]? with
    | none => (l, w.at_, 1)
    | some y => if 5 < (kid t y).length + l.length then (l, w.at_, 1) else if p < w.at_ then (kid t y ++ l, p, 2) else (l ++ kid t y, w.at_, 2)
def wFr (t : Sto) (lv : Int) (l : List It) (held : Int) : Except Int (Sto × Int) :=
  if mkE t lv l = 0 then
    (if 0 < held then (if wFa (mkS t lv l) held.toNat = 0 then .ok (wCf (mkS t lv l) held.toNat, (wGq (wBb t l) : Int)) else .error (wFa (mkS t lv l) held.toNat))
     else .ok (mkS t lv l, (wGq (wBb t l) : Int)))
  else .error (mkE t lv l)
def cutF (w : Stp) : List It := w.xs.take w.at_ ++ w.xs.drop (w.at_ + 1)
def setF (w : Stp) (j : List It × Nat × Nat) (a : Int) : List It := w.xs.take j.2.1 ++ [⟨wDn j.1, a, []⟩] ++ w.xs.drop (j.2.1 + j.2.2)
def upD (t : Sto) (w : Stp) (l : List It) (held : Int) : Except Int (Sto × List It × Int) :=
  if l = [] then .ok (t, cutF w, 0)
  else match wFr t (w.lv - 1) (wBx t w l).1 held with
    | .error e => .error e
    | .ok (u, a) => .ok (u, setF w (wBx t w l) a, a)
def dn (s : Sto) (l0 : List It) : List Stp → Except Int (Sto × List It × Int)
  | [] => .ok (s, l0, 0)
  | w :: ws => match dn s l0 ws with
    | .error e => .error e
    | .ok (t, l, held) => upD t w l held
def lowF : Nat → Sto → Int → Except Int (Sto × Int)
  | 0, t, r => .ok (t, r)
  | n + 1, t, r => match wBs t r.toNat with
    | none => .error 8
    | some (lv, xs) => if lv = 0 then .ok (t, r) else match xs with
      | [x] => if wDa t x.ref.toNat = 0 then (match wGt (wCv t x.ref.toNat) r with
          | none => .error 8
          | some u => lowF n u x.ref) else .error (wDa t x.ref.toNat)
      | _ => .ok (t, r)
def delTop (n : Int) : Except Int (Sto × List It × Int) → Except Int (Sto × Int)
  | .error e => .error e
  | .ok (t, l, held) => wFr t (if l = [] then 0 else n) l held
def delLow : Except Int (Sto × Int) → Except Int (Sto × Int)
  | .error e => .error e
  | .ok (t, a) => lowF 7 t a
def delEnd (root : Int) : Except Int (Sto × Int) → Except Int (Sto × Int)
  | .error e => .error e
  | .ok (t, r) => match wGt t root with
    | none => .error 8
    | some u => .ok (u, r)
def wMd (ws : List Stp) : List It := match ws.getLast? with | some w => cutF w | none => []
def delIn (s : Sto) (root : Int) (ws : List Stp) : Except Int (Sto × Int) := delEnd root (delLow (delTop ((ws.length : Int) - 1) (dn s (wMd ws) ws.dropLast)))
def delF (s : Sto) (root : Int) (q : Ky) : Except Int (Sto × Int) :=
  if (wCj s root).2 = 0 then
    match wBs s root.toNat with
    | none => .error 8
    | some (lv, xs) => match wCp s q lv.toNat xs with
      | none => .error 6
      | some _ => delIn s root (wCe s q lv.toNat xs)
  else .error (wCj s root).2
theorem wLa {s : Sto} {k : Nat} (hk : k < s.now.length) (h2 : 2 ≤ (s.now.getD k 0).toNat) : Ext s (wCf s k) ∧ ∀ n, wBs (wCf s k) n = wBs s n := by
  have hz : ¬ s.now.getD k 0 = 0 := nz_of (by omega)
  have hs1 := sub_one hz
  have hlive : ∀ n, (wCf s k).now.getD n 0 = 0 ↔ s.now.getD n 0 = 0 := fun n => by
    show (s.now.set k _).getD n 0 = 0 ↔ _
    by_cases e : n = k
    · subst e; rw [wCh hk]
      exact ⟨fun h => by rw [h] at hs1; have h0 : (0 : By).toNat = 0 := rfl; omega, fun h => absurd h hz⟩
    · rw [wBw e]
  have hnd : ∀ n, wBs (wCf s k) n = wBs s n := fun n => by
    have hs : wLr (wCf s k) n = wLr s n := rfl
    unfold wBs
    rw [hs]
    by_cases h : s.now.getD n 0 = 0
    · rw [if_pos h, if_pos ((hlive n).2 h)]
    · rw [if_neg h, if_neg fun e => h ((hlive n).1 e)]
  exact ⟨⟨fun n r h => by rw [hnd]; exact h, fun n h e => h ((hlive n).1 e)⟩, hnd⟩
theorem wKs {s : Sto} {k : Nat} (hk : k < s.now.length) (h : wDa s k = 0) : Ext s (wCv s k) ∧ ∀ n, wBs (wCv s k) n = wBs s n := by
  obtain ⟨h0, h255⟩ := wLp h
  have hn := wJx hk h255
  have hlive : ∀ n, (wCv s k).now.getD n 0 = 0 ↔ s.now.getD n 0 = 0 := fun n => by
    have h00 : (0 : By).toNat = 0 := rfl
    by_cases e : n = k
    · subst e
      have := hn n
      rw [if_pos rfl] at this
      exact ⟨fun h => by rw [h] at this; omega, fun h => absurd h h0⟩
    · show (s.now.set k _).getD n 0 = 0 ↔ _
      rw [wBw e]
  have hnd : ∀ n, wBs (wCv s k) n = wBs s n := fun n => by
    have hs : wLr (wCv s k) n = wLr s n := rfl
    unfold wBs
    rw [hs]
    by_cases h : s.now.getD n 0 = 0
    · rw [if_pos h, if_pos ((hlive n).2 h)]
    · rw [if_neg h, if_neg fun e => h ((hlive n).1 e)]
  exact ⟨⟨fun n r h => by rw [hnd]; exact h, fun n h e => h ((hlive n).1 e)⟩, hnd⟩
theorem shareS_ok {s : Sto} {k : Nat} (h : wCx s) (hk : 8 ≤ k) : wCx (wCv s k) := ⟨h.1, wMo hk h.2.1, h.2.2⟩
theorem En.share {s : Sto} {S : List Nat} {R : List Int} {k : Int} (h : En s S R) (hk : 8 ≤ k ∧ k < 256) (he : wDa s k.toNat = 0) : En (wCv s k.toNat) S (k :: R) := by
  have hl : s.now.length = 256 := h.ok.2.1.1
  obtain ⟨h0, h255⟩ := wLp he
  obtain ⟨hx, hnd⟩ := wKs (by omega) he
  have hn := wJx (s := s) (k := k.toNat) (by omega) h255
  have hw : ∀ j, wS (wCv s k.toNat) S j = wS s S j := fun j => by
    unfold wS; refine congrArg List.sum (List.map_congr_left fun n _ => ?_); unfold wEb; rw [hnd]
  refine ⟨shareS_ok h.ok (by omega), fun j h0 h1 => ?_, fun n hnS lv ys hy hlv x hx => ?_⟩
  · have := h.enough j h0 h1
    rw [hw, hn]
    by_cases e : j = k
    · subst e; rw [List.count_cons_self, if_pos rfl]; omega
    · rw [List.count_cons_of_ne (Ne.symm e), if_neg (by omega)]; omega
  · rw [hnd] at hy
    obtain ⟨a, zs, b⟩ := h.closed n hnS lv ys hy hlv x hx
    exact ⟨a, zs, by rw [hnd]; exact b⟩
def hlR (held : Int) : List Int := if held = 0 then [] else [held]
theorem mk_ext {s : Sto} {lv : Int} {xs : List It} (hst : wCx s) (hok : wHn lv xs = true) (hk : ∀ x ∈ xs, wDk x.key) (hlive : ∀ x ∈ xs, x.ref ≠ 0 → ¬ s.now.getD x.ref.toNat 0 = 0) (he : mkE s lv xs = 0) : Ext s (mkS s lv xs) := by
 obtain ⟨hr, hz, hc0, hnd, hcnt⟩ := mk_nd hst hok hk hlive he
 generalize ha : wGq (wBb s xs) = a at *
 have hl : s.now.length = 256 := hst.2.1.1
 have hdead : wBs s a = none := by unfold wBs; rw [if_pos hz]
 refine ⟨fun n r hn => ?_, fun k hk2 => ?_⟩
 ·rw [hnd n, if_neg (fun e => by rw [e, hdead] at hn; cases hn)]; exact hn
 ·have hka : k ≠ a := fun e => by rw [e] at hk2; exact hk2 hz
  by_cases hk0 : k = 0
  ·subst hk0
   have h9 := hst.2.1.2
   have := List.all_eq_true.1 h9 (s.now.getD 0 0) (by
    rw [show s.now.getD 0 0 = (s.now.take 8)[0]'(by rw [List.length_take]; omega) by rw [List.getElem_take, wHa (by omega)]]
    exact List.getElem_mem _)
   exact absurd (by simpa using this) hk2
  ·have := hcnt k (by omega) hka
   have : (s.now.getD k 0).toNat ≠ 0 := fun e => hk2 (UInt8.toNat.inj e)
   exact nz_of (by omega)
theorem single_law {t : Sto} {lv : Int} {l : List It} {held : Int} (hst : wCx t) (hok : wHn lv l = true) (hk : ∀ x ∈ l, wDk x.key) (hlive : ∀ x ∈ l, x.ref ≠ 0 → ¬ t.now.getD x.ref.toNat 0 = 0) (hh : held = 0 ∨ (8 ≤ held ∧ held < 256 ∧ ∃ x ∈ l, x.ref = held)) :
  (∃ e, wFr t lv l held = .error e ∧ (e = 9 ∨ e = 70)) ∨ ∃ u a, wFr t lv l held = .ok (u, a) ∧ wCx u ∧ Ext t u ∧ wBs u a.toNat = some (lv, l) ∧ (8 ≤ a ∧ a < 256) ∧ u.waits.length = t.waits.length + 1 ∧
   ∀ S R, En t S (hlR held ++ R) → (0 < lv → ∀ x ∈ l, x.ref.toNat ∈ S ∧ ∃ zs, wBs t x.ref.toNat = some (lv - 1, zs)) → ∃ S', En u S' (a :: R) ∧ a.toNat ∈ S' ∧ Sub t S S' := by
 unfold wFr
 rcases mkE_err hst hok hlive with e | e
 ·rw [if_pos e]
  have hext := mk_ext hst hok hk hlive e
  obtain ⟨hr, hz, hc0, hnd, hcnt⟩ := mk_nd hst hok hk hlive e
  have hmo := wLy e hst.1.2.1
  have hmk := mkS_ok hst hok hmo.2.2.1 hmo.2.2.2
  have haS : wBs (mkS t lv l) (wGq (wBb t l)) = some (lv, l) := by rw [hnd, if_pos rfl]
  rcases hh with rfl | ⟨h8, h256, x, hx, hxr⟩
  ·rw [if_neg (by omega)]
   refine .inr ⟨_, _, rfl, hmk, hext, by rw [Int.toNat_natCast]; exact haS, by omega, mkS_wl _ _ _, fun S R he hup => ?_⟩
   obtain ⟨S', k1, k2, k3, _⟩ := En.make (R := R) he hok hk hup hlive e
   exact ⟨S', k1, by rw [Int.toNat_natCast]; exact k2, k3⟩
  ·have hl : (mkS t lv l).now.length = 256 := hmk.2.1.1
   have hne : held.toNat ≠ wGq (wBb t l) := fun e2 => by
    have := hlive x hx (by omega)
    rw [hxr, e2] at this; exact this hz
   have h2 : 2 ≤ ((mkS t lv l).now.getD held.toNat 0).toNat := by
    rw [hcnt held.toNat (by omega) hne]
    have h3 : 0 < (l.map (·.ref)).count ((held.toNat : Nat) : Int) := List.count_pos_iff.2 (List.mem_map.2 ⟨x, hx, by omega⟩)
    have h4 : (t.now.getD held.toNat 0).toNat ≠ 0 := fun e2 => hlive x hx (by omega) (by rw [hxr]; exact UInt8.toNat.inj e2)
    omega
   obtain ⟨hx2, hnd2⟩ := wLa (s := mkS t lv l) (k := held.toNat) (by omega) h2
   have hlz : wFa (mkS t lv l) held.toNat = 0 := if_neg (nz_of (by omega))
   rw [if_pos (by omega), if_pos hlz]
   refine .inr ⟨_, _, rfl, wEy hmk (by omega), hext.trans hx2, by rw [Int.toNat_natCast]; exact hx2.nd _ _ haS, by omega, by show (mkS t lv l).waits.length = _; exact mkS_wl _ _ _, fun S R he hup => ?_⟩
   have hhl : hlR held ++ R = held :: R := by unfold hlR; rw [if_neg (by omega)]; rfl
   rw [hhl] at he
   obtain ⟨S', k1, k2, k3, _⟩ := En.make (R := held :: R) he hok hk hup hlive e
   obtain ⟨_, _, m3⟩ := En.loose (k := held) (k1.perm (List.Perm.swap _ _ _)) ⟨h8, h256⟩
   exact ⟨S', m3, by rw [Int.toNat_natCast]; exact k2, k3⟩
 ·rw [if_neg (by rcases e with e | e <;> rw [e] <;> decide)]
  exact .inl ⟨_, rfl, e⟩
def wEt (q : Ky) (x : It) : Bool := decide (x.key ≠ q)
theorem wDp {q : Ky} {l : List It} (h : ∀ y ∈ l, y.key ≠ q) : l.filter (wEt q) = l := List.filter_eq_self.2 fun y hy => decide_eq_true (h y hy)
theorem kl_ne {a b : Ky} (h : wBe a b = true) : a ≠ b := fun e => by rw [e, wJm] at h; cases h
theorem filter_mid {P M Q : List It} {q : Ky} (h : Srt (P ++ M ++ Q)) (hm : ∃ y ∈ M, y.key = q) : (P ++ M ++ Q).filter (wEt q) = P ++ M.filter (wEt q) ++ Q := by
 obtain ⟨y, hy, e⟩ := hm
 have h1 := List.pairwise_append.1 h
 have h2 := List.pairwise_append.1 h1.1
 rw [List.filter_append, List.filter_append, wDp (l := P) fun z hz => kl_ne (by have := h2.2.2 z hz y hy; rwa [e] at this), wDp (l := Q) fun z hz => (kl_ne (by have := h1.2.2 y (List.mem_append_right _ hy) z hz; rwa [e] at this)).symm]
theorem way_parts {s : Sto} {l : Nat} {xs : List It} {q : Ky} (hshp : Shp s l xs) (hsrt : Srt (wCc s l xs)) (hp : wAt xs q < xs.length) :
  wCc s l xs = wCc s l (xs.take (wAt xs q)) ++ wCm s l xs[wAt xs q] ++ wCc s l (xs.drop (wAt xs q + 1)) ∧ (∀ y ∈ wCc s l (xs.take (wAt xs q)), wBe y.key q = true) ∧ ∀ y ∈ wCc s l (xs.drop (wAt xs q + 1)), wBe q y.key = true := by
 have hs := shp_srt hshp hsrt
 have e := wGv hp
 have e2 : wCc s l xs = wCc s l (xs.take (wAt xs q)) ++ wCm s l xs[wAt xs q] ++ wCc s l (xs.drop (wAt xs q + 1)) := by
  conv => lhs; rw [e]
  rw [wCd, wCd, wFc]
 refine ⟨e2, ?_⟩
 rw [e2] at hsrt
 have h1 := List.pairwise_append.1 hsrt
 have h2 := List.pairwise_append.1 h1.1
 refine ⟨fun y hy => ?_, fun y hy => ?_⟩
 ·have h0 : 0 < wAt xs q := Nat.pos_of_ne_zero fun e0 => by rw [e0] at hy; simp [wCc] at hy
  obtain ⟨a, ha, e3⟩ := one_mem (hshp.one (x := xs[wAt xs q]) (List.getElem_mem hp))
  have h3 := h2.2.2 y hy a ha
  rw [e3] at h3
  exact kl_le h3 (way_lo hs hp h0)
 ·obtain ⟨z, hz, hyz⟩ := List.mem_flatMap.1 hy
  have hzx : z ∈ xs := List.mem_of_mem_drop hz
  have hsz : Srt (wCm s l z) := by
   obtain ⟨A, B, hAB⟩ := List.append_of_mem hz
   have h5 := h1.2.1
   rw [hAB, wCd, wFv] at h5
   exact (List.pairwise_append.1 (List.pairwise_append.1 h5).2.1).1
  exact kl_le (way_hi hs z hz) (one_lo (hshp.one hzx) hsz y hyz)
theorem leaf_at {xs : List It} {q : Ky} (hs : Srt xs) (hf : ∃ y ∈ xs, y.key = q) : ∃ hp : place xs q < xs.length, xs[place xs q].key = q := by
 obtain ⟨y, hy, hyq⟩ := hf
 obtain ⟨hA, hD⟩ := wEo (q := q) hs
 rw [← List.take_append_drop (place xs q) xs] at hy
 rcases List.mem_append.1 hy with hy | hy
 ·exact absurd hyq (kl_ne (hA y hy))
 ·obtain ⟨j, hj, hjk, rfl⟩ := wHr hy
  have hp : place xs q < xs.length := by omega
  refine ⟨hp, ?_⟩
  rcases Nat.lt_or_ge (place xs q) j with h | h
  ·have h1 := srt_at hs hp hj h
   rw [hyq] at h1
   have h2 := hD _ (drop_at hp (Nat.le_refl _))
   rw [h1] at h2; cases h2
  ·have : j = place xs q := by omega
   subst this; exact hyq
theorem leaf_cut {xs : List It} {q : Ky} (hs : Srt xs) (hf : ∃ y ∈ xs, y.key = q) : cutF ⟨0, xs, place xs q⟩ = xs.filter (wEt q) ∧ (xs.filter (wEt q)).length + 1 = xs.length := by
 obtain ⟨hp, he⟩ := leaf_at hs hf
 obtain ⟨hA, hD⟩ := wEo (q := q) hs
 have e1 : (xs.take (place xs q)).filter (wEt q) = xs.take (place xs q) := wDp fun y hy => kl_ne (hA y hy)
 have e2 : (xs.drop (place xs q + 1)).filter (wEt q) = xs.drop (place xs q + 1) := wDp fun y hy => by
  obtain ⟨j, hj, hjk, rfl⟩ := wHr hy
  have := srt_at hs hp hj (by omega)
  rw [he] at this
  exact (kl_ne this).symm
 have e3 : xs.filter (wEt q) = xs.take (place xs q) ++ xs.drop (place xs q + 1) := by
  have hone : [xs[place xs q]].filter (wEt q) = [] := by
   rw [List.filter_cons_of_neg (by unfold wEt; rw [decide_eq_false (fun h => h he)]; decide)]; rfl
  conv => lhs; rw [wGv hp]
  rw [List.filter_append, List.filter_append, e1, e2, hone, List.append_nil]
 refine ⟨e3.symm, ?_⟩
 rw [e3, List.length_append, List.length_take, List.length_drop]; omega
theorem kid_nd {s t : Sto} {l : Nat} {y : It} {ys : List It} (he : Ext s t) (h : wBs s y.ref.toNat = some ((l : Int), ys)) : kid t y = ys ∧ kid s y = ys := by
 unfold kid; rw [h, he.nd _ _ h]; exact ⟨rfl, rfl⟩
def Nb (s : Sto) (l : Nat) (xs A : List It) : Prop := A = [] ∨ ∃ y ∈ xs, wBs s y.ref.toNat = some ((l : Int), A) ∧ Shp s l A
structure Joins (s t : Sto) (l : Nat) (xs : List It) (p : Nat) (hp : p < xs.length) (l1 : List It) (lv : Int) (A B X Z : List It) : Prop where
 eq : (wBx t ⟨lv, xs, p⟩ l1).1 = A ++ l1 ++ B
 set : ∀ a, setF ⟨lv, xs, p⟩ (wBx t ⟨lv, xs, p⟩ l1) a = X ++ [⟨wDn (A ++ l1 ++ B), a, []⟩] ++ Z
 subX : ∀ y ∈ X, y ∈ xs
 subZ : ∀ y ∈ Z, y ∈ xs
 all : wCc s (l + 1) xs = wCc s (l + 1) X ++ (wCc s l A ++ wCm s (l + 1) xs[p] ++ wCc s l B) ++ wCc s (l + 1) Z
 nbA : Nb s l xs A
 nbB : Nb s l xs B
 len : l1.length ≤ 5 → (A ++ l1 ++ B).length ≤ 5
 many : X.length + 1 + Z.length ≤ xs.length
theorem join_none {t : Sto} {w : Stp} {l1 : List It} (h : wBx t w l1 = (l1, w.at_, 1)) {s : Sto} {l : Nat} {xs : List It} {p : Nat} {lv : Int} (hp : p < xs.length) (hw : w = ⟨lv, xs, p⟩) : Joins s t l xs p hp l1 lv [] [] (xs.take p) (xs.drop (p + 1)) := by
 subst hw
 refine ⟨by rw [h]; simp, fun a => by unfold setF; rw [h]; simp, fun y hy => List.mem_of_mem_take hy, fun y hy => List.mem_of_mem_drop hy, ?_, .inl rfl, .inl rfl, fun h => by simpa using h, ?_⟩
 ·have e := wGv hp
  conv => lhs; rw [e]
  rw [wCd, wCd, wFc]; simp [wCc]
 ·rw [List.length_take, List.length_drop]; omega
theorem join_parts {s t : Sto} {l : Nat} {xs : List It} {p : Nat} (hp : p < xs.length) (l1 : List It) (lv : Int) (hshp : Shp s (l + 1) xs) (he : Ext s t) : ∃ A B X Z, Joins s t l xs p hp l1 lv A B X Z := by
 cases hn : nxt ⟨lv, xs, p⟩ with
 | none => exact ⟨_, _, _, _, join_none (by unfold wBx; rw [hn]) hp rfl⟩
 | some i =>
  have hi : i < xs.length ∧ (i = p + 1 ∨ i + 1 = p) := by
   unfold nxt at hn
   simp only at hn
   split at hn
   ·split at hn
    ·cases hn
    ·cases hn; omega
   ·cases hn; omega
  obtain ⟨hil, hic⟩ := hi
  have hget : xs[i]? = some xs[i] := List.getElem?_eq_getElem hil
  obtain ⟨ys, h1, h2, h3, h4⟩ := hshp _ (List.getElem_mem hil)
  obtain ⟨hk, _⟩ := kid_nd he h1
  have hj : wBx t ⟨lv, xs, p⟩ l1 = if 5 < ys.length + l1.length then (l1, p, 1) else if i < p then (ys ++ l1, i, 2) else (l1 ++ ys, p, 2) := by
   unfold wBx; rw [hn]; simp only [hget, hk]
  by_cases hlen : 5 < ys.length + l1.length
  ·exact ⟨_, _, _, _, join_none (by rw [hj, if_pos hlen]) hp rfl⟩
  ·rw [if_neg hlen] at hj
   rcases hic with rfl | rfl
   ·rw [if_neg (by omega)] at hj
    refine ⟨[], ys, xs.take p, xs.drop (p + 2), by rw [hj]; simp, fun a => by unfold setF; rw [hj]; simp, fun y hy => List.mem_of_mem_take hy, fun y hy => List.mem_of_mem_drop hy, ?_, .inl rfl, .inr ⟨_, List.getElem_mem hil, h1, h4⟩, fun _ => by simp; omega, ?_⟩
    ·have e : xs = xs.take p ++ [xs[p]] ++ ([xs[p + 1]] ++ xs.drop (p + 2)) := by
      conv => lhs; rw [wGv hp]
      rw [List.drop_eq_getElem_cons hil]; rfl
     conv => lhs; rw [e]
     rw [wCd, wCd, wCd, wFc, wFc, wCi h1]
     simp [wCc]
    ·rw [List.length_take, List.length_drop]; omega
   ·rw [if_pos (by omega)] at hj
    refine ⟨ys, [], xs.take i, xs.drop (i + 2), by rw [hj]; simp, fun a => by unfold setF; rw [hj]; simp, fun y hy => List.mem_of_mem_take hy, fun y hy => List.mem_of_mem_drop hy, ?_, .inr ⟨_, List.getElem_mem hil, h1, h4⟩, .inl rfl, fun _ => by simp; omega, ?_⟩
    ·have e : xs = xs.take i ++ [xs[i]] ++ ([xs[i + 1]] ++ xs.drop (i + 2)) := by
      conv => lhs; rw [wGv hil]
      rw [List.drop_eq_getElem_cons hp]; rfl
     conv => lhs; rw [e]
     rw [wCd, wCd, wCd, wFc, wFc, wCi h1]
     simp [wCc]
    ·rw [List.length_take, List.length_drop]; omega
theorem leafF_cons {w : Stp} {ws : List Stp} (h : ws ≠ []) : wMd (w :: ws) = wMd ws := by
 obtain ⟨a, b, rfl⟩ := List.exists_cons_of_ne_nil h
 unfold wMd; rw [List.getLast?_cons_cons]
theorem way_ne (s : Sto) (q : Ky) : ∀ (l : Nat) (xs : List It), wCe s q l xs ≠ []
 | 0, _ => by rw [wCe]; exact fun h => by cases h
 | l + 1, _ => by rw [wCe]; exact fun h => by cases h
structure ItL (l : Nat) (ys : List It) : Prop where
 bad : ∀ y ∈ ys, wEd y = false
 key : ∀ y ∈ ys, wDk y.key
 up : 0 < l → ∀ y ∈ ys, y.ref ≠ 0 ∧ y.val = []
theorem ItL.app {l : Nat} {xs ys : List It} (h : ItL l xs) (k : ItL l ys) : ItL l (xs ++ ys) :=
 ⟨fun y hy => (List.mem_append.1 hy).elim (h.bad y) (k.bad y), fun y hy => (List.mem_append.1 hy).elim (h.key y) (k.key y), fun hl y hy => (List.mem_append.1 hy).elim (h.up hl y) (k.up hl y)⟩
theorem ItL.sub {l : Nat} {xs ys : List It} (h : ItL l xs) (hs : ∀ y ∈ ys, y ∈ xs) : ItL l ys := ⟨fun y hy => h.bad y (hs y hy), fun y hy => h.key y (hs y hy), fun hl y hy => h.up hl y (hs y hy)⟩
theorem ItL.of {s : Sto} {k : Nat} {l : Nat} {xs : List It} (h : wBs s k = some ((l : Int), xs)) : ItL l xs := by
 have hi := ndOk_items h
 exact ⟨fun y hy => (hi y hy).1, fun y hy => (hi y hy).2.1, fun hl y hy => (hi y hy).2.2 (by omega)⟩
theorem ItL.nil {l : Nat} : ItL l [] := ⟨fun _ h => (List.not_mem_nil h).elim, fun _ h => (List.not_mem_nil h).elim, fun _ _ h => (List.not_mem_nil h).elim⟩
theorem nb_itl {s : Sto} {l : Nat} {xs A : List It} (h : Nb s l xs A) : ItL l A := by
 rcases h with rfl | ⟨y, _, h, _⟩
 ·exact ItL.nil
 ·exact ItL.of h
theorem nb_shp {s : Sto} {l : Nat} {xs A : List It} (h : Nb s l xs A) : Shp s l A := by
 rcases h with rfl | ⟨y, _, _, h⟩
 ·cases l <;> exact fun x hx => by cases hx
 ·exact h
theorem nb_in {s : Sto} {l : Nat} {xs A : List It} {S : List Nat} {R : List Int} {k : Nat} (h : Nb s l xs A) (he : En s S R) (hk : k ∈ S) (hnd : wBs s k = some (((l + 1 : Nat) : Int), xs)) (hl : 0 < l) : ∀ x ∈ A, x.ref.toNat ∈ S ∧ ∃ zs, wBs s x.ref.toNat = some ((l : Int) - 1, zs) := fun x hx => by
 rcases h with rfl | ⟨y, hy, h, _⟩
 ·cases hx
 ·obtain ⟨a, _⟩ := he.closed k hk _ _ hnd (by omega) y hy
  exact he.closed _ a _ _ h (by omega) x hx
theorem fit_ok {t : Sto} {l : Nat} {ys : List It} (hl : l < 6) (hne : l ≠ 0 → ys ≠ []) (hlen : ys.length ≤ 5) (hi : ItL l ys) (hs : Srt ys) : wHn (l : Int) ys = true := by
 unfold wHn
 rw [Bool.and_eq_true]
 refine ⟨decide_eq_true ⟨by omega, by omega, hlen, fun h e => hne (by omega) (List.eq_nil_of_length_eq_zero e)⟩, items_ok (fun x hx => ⟨hi.bad x hx, fun e => hi.up (by have := of_decide_eq_true e; omega) x hx⟩) hs (fun q e => by cases e)⟩
theorem shp_live {t : Sto} {l : Nat} {ys : List It} (h : Shp t l ys) : ∀ x ∈ ys, x.ref ≠ 0 → ¬ t.now.getD x.ref.toNat 0 = 0 := fun x hx h0 => by
 cases l with
 | zero => exact (h x hx).resolve_left h0
 | succ l => obtain ⟨ys, e1, _⟩ := h x hx; exact wEf e1
structure DnOk (s t : Sto) (q : Ky) (l : Nat) (xs : List It) (k : Nat) (l1 : List It) (held : Int) : Prop where
 ok : wCx t
 ext : Ext s t
 shp : Shp t l l1
 all : wCc t l l1 = (wCc s l xs).filter (wEt q)
 len : l1.length ≤ xs.length
 itl : ItL l l1
 hel : held = 0 ∨ (8 ≤ held ∧ held < 256 ∧ ∃ x ∈ l1, x.ref = held)
 waits : t.waits.length ≤ s.waits.length + l
 en : ∀ S R, En s S R → k ∈ S → ∃ S', En t S' (hlR held ++ R) ∧ Sub s S S' ∧ (0 < l → ∀ x ∈ l1, x.ref.toNat ∈ S')
theorem dn_law {s : Sto} {q : Ky} (hst : wCx s) : ∀ (l : Nat) (xs : List It) (k : Nat), wBs s k = some ((l : Int), xs) → Shp s l xs → Srt (wCc s l xs) → (∃ y ∈ wCc s l xs, y.key = q) →
  (∃ e, dn s (wMd (wCe s q l xs)) (wCe s q l xs).dropLast = .error e ∧ (e = 9 ∨ e = 70)) ∨ ∃ t l1 held, dn s (wMd (wCe s q l xs)) (wCe s q l xs).dropLast = .ok (t, l1, held) ∧ DnOk s t q l xs k l1 held
 | 0, xs, k, hnd, hshp, hsrt, hf => by
  rw [wDq] at hsrt hf
  obtain ⟨h1, h2⟩ := leaf_cut hsrt hf
  have hsub : ∀ y ∈ xs.filter (wEt q), y ∈ xs := fun y hy => (List.mem_filter.1 hy).1
  refine .inr ⟨s, xs.filter (wEt q), 0, ?_, hst, Ext.refl s, hshp.sub hsub, by rw [wDq, wDq], by omega, (ItL.of hnd).sub hsub, .inl rfl, Nat.le_refl _, fun S R he hk => ⟨S, he, fun n hn _ => hn, fun h => by omega⟩⟩
  show dn s (cutF ⟨0, xs, place xs q⟩) [] = _
  rw [h1]; rfl
 | l + 1, xs, k, hnd, hshp, hsrt, hf => by
  have hno := wBm hnd
  have hne := wJk hnd (by omega)
  have hp := wAt_lt (q := q) hne
  obtain ⟨ys, hy1, hy2, hy3, hy4⟩ := hshp _ (List.getElem_mem hp)
  have hkid : kid s xs[wAt xs q] = ys := by unfold kid; rw [hy1]
  have hway : wCe s q (l + 1) xs = ⟨((l + 1 : Nat) : Int), xs, wAt xs q⟩ :: wCe s q l ys := by
   rw [wCe, List.getElem?_eq_getElem hp]; show _ :: wCe s q l (kid s xs[wAt xs q]) = _; rw [hkid]
  obtain ⟨w1, w2, w3⟩ := way_parts hshp hsrt hp
  have hmid : ∃ y ∈ wCc s l ys, y.key = q := by
   obtain ⟨y, hy, hyq⟩ := hf
   rw [w1] at hy
   rcases List.mem_append.1 hy with hy | hy
   ·rcases List.mem_append.1 hy with hy | hy
    ·exact absurd hyq (kl_ne (w2 y hy))
    ·exact ⟨y, by rw [← wCi hy1]; exact hy, hyq⟩
   ·exact absurd hyq.symm (kl_ne (w3 y hy))
  have hsy : Srt (wCc s l ys) := by
   rw [w1] at hsrt
   have := (List.pairwise_append.1 (List.pairwise_append.1 hsrt).1).2.1
   rwa [wCi hy1] at this
  have hfil : (wCc s (l + 1) xs).filter (wEt q) = wCc s (l + 1) (xs.take (wAt xs q)) ++ (wCc s l ys).filter (wEt q) ++ wCc s (l + 1) (xs.drop (wAt xs q + 1)) := by
   rw [w1, List.filter_append, List.filter_append, wDp fun y hy => kl_ne (w2 y hy), wDp fun y hy => (kl_ne (w3 y hy)).symm, wCi hy1]
  have hdl : (wCe s q (l + 1) xs).dropLast = ⟨((l + 1 : Nat) : Int), xs, wAt xs q⟩ :: (wCe s q l ys).dropLast := by
   rw [hway, List.dropLast_cons_of_ne_nil (way_ne s q l ys)]
  rw [hdl, hway, leafF_cons (way_ne s q l ys)]
  rcases dn_law hst l ys _ hy1 hy4 hsy hmid with ⟨e, h1, h2⟩ | ⟨t, l1, held, h1, h2⟩
  ·exact .inl ⟨e, by rw [dn, h1], h2⟩
  ·have hdn : dn s (wMd (wCe s q l ys)) (⟨((l + 1 : Nat) : Int), xs, wAt xs q⟩ :: (wCe s q l ys).dropLast) = upD t ⟨((l + 1 : Nat) : Int), xs, wAt xs q⟩ l1 held := by rw [dn, h1]
   rw [hdn]
   unfold upD
   have hl5 := hno.len
   by_cases hl1 : l1 = []
   ·subst hl1
    rw [if_pos rfl]
    have h0 : held = 0 := h2.hel.resolve_right fun ⟨_, _, x, hx, _⟩ => by cases hx
    subst h0
    have hsub : ∀ y ∈ cutF ⟨((l + 1 : Nat) : Int), xs, wAt xs q⟩, y ∈ xs := fun y hy => by
     unfold cutF at hy
     exact (List.mem_append.1 hy).elim List.mem_of_mem_take List.mem_of_mem_drop
    obtain ⟨e1, e2⟩ := h2.ext.shp (hshp.sub hsub)
    have hnil : (wCc s l ys).filter (wEt q) = [] := by rw [← h2.all]; rfl
    refine .inr ⟨t, _, 0, rfl, h2.ok, h2.ext, e1, ?_, ?_, (ItL.of hnd).sub hsub, .inl rfl, by have := h2.waits; omega, fun S R he hk => ?_⟩
    ·rw [e2, hfil, hnil, List.append_nil]
     unfold cutF; rw [wCd]
    ·unfold cutF; show (xs.take _ ++ xs.drop _).length ≤ _; rw [List.length_append, List.length_take, List.length_drop]; omega
    ·obtain ⟨hcS, _⟩ := he.closed k hk _ _ hnd (by omega) _ (List.getElem_mem hp)
     obtain ⟨S', k1, k2, k3⟩ := h2.en S R he hcS
     refine ⟨S', k1, k2, fun _ x hx => ?_⟩
     obtain ⟨a, zs, b⟩ := he.closed k hk _ _ hnd (by omega) x (hsub x hx)
     exact k2 _ a (by rw [b]; simp)
   ·rw [if_neg hl1]
    obtain ⟨A, B, X, Z, hJ⟩ := join_parts (t := t) hp l1 ((l + 1 : Nat) : Int) hshp h2.ext
    rw [hJ.eq]
    obtain ⟨a1, a2⟩ := h2.ext.shp (nb_shp hJ.nbA)
    obtain ⟨b1, b2⟩ := h2.ext.shp (nb_shp hJ.nbB)
    have hshp2 : Shp t l (A ++ l1 ++ B) := (a1.app h2.shp).app b1
    have hall2 : wCc t l (A ++ l1 ++ B) = wCc s l A ++ (wCc s l ys).filter (wEt q) ++ wCc s l B := by rw [wCd, wCd, a2, b2, h2.all]
    have hsrt2 : Srt (wCc t l (A ++ l1 ++ B)) := by
     rw [hall2]
     have h5 := hsrt
     rw [hJ.all, wCi hy1] at h5
     have h6 := (List.pairwise_append.1 (List.pairwise_append.1 h5).1).2.1
     exact List.Pairwise.sublist (((List.Sublist.refl _).append List.filter_sublist).append (List.Sublist.refl _)) h6
    have hitl : ItL l (A ++ l1 ++ B) := ((nb_itl hJ.nbA).app h2.itl).app (nb_itl hJ.nbB)
    have hys5 : ys.length ≤ 5 := (wBm hy1).len
    have hne2 : A ++ l1 ++ B ≠ [] := fun e => hl1 (List.append_eq_nil_iff.1 (List.append_eq_nil_iff.1 e).1).2
    have hok := fit_ok (t := t) (l := l) (by have := hno.lev; omega) (fun _ => hne2) (hJ.len (by have := h2.len; omega)) hitl (shp_srt hshp2 hsrt2)
    have hlv : ((l + 1 : Nat) : Int) - 1 = (l : Int) := by omega
    dsimp only
    rw [hlv]
    rcases single_law (held := held) h2.ok hok hitl.key (shp_live hshp2) (h2.hel.imp id fun ⟨c1, c2, x, hx, c3⟩ => ⟨c1, c2, x, by simp [hx], c3⟩) with ⟨e, m1, m2⟩ | ⟨u, a, m1, m2, m3, m4, m5, m6, m7⟩
    ·exact .inl ⟨e, by rw [m1], m2⟩
    ·rw [m1]; dsimp only; rw [hJ.set]
     have hx2 := h2.ext.trans m3
     obtain ⟨x1, x2⟩ := hx2.shp (hshp.sub hJ.subX)
     obtain ⟨z1, z2⟩ := hx2.shp (hshp.sub hJ.subZ)
     obtain ⟨j1, j2⟩ := m3.shp hshp2
     have hone : Shp u (l + 1) [⟨wDn (A ++ l1 ++ B), a, []⟩] := fun x hx => by
      rw [List.mem_singleton.1 hx]
      exact ⟨_, m4, hne2, rfl, j1⟩
     have hkey : wDk (wDn (A ++ l1 ++ B)) := by
      obtain ⟨z, zs, e⟩ := List.exists_cons_of_ne_nil hne2
      rw [e]; exact hitl.key z (by rw [e]; simp)
     have hionew : ItL (l + 1) [⟨wDn (A ++ l1 ++ B), a, []⟩] := ⟨fun y hy => by rw [List.mem_singleton.1 hy]; exact up_bad ⟨rfl, m5⟩, fun y hy => by rw [List.mem_singleton.1 hy]; exact hkey, fun _ y hy => by rw [List.mem_singleton.1 hy]; exact ⟨by show a ≠ 0; omega, rfl⟩⟩
     refine .inr ⟨u, _, a, rfl, m2, hx2, (x1.app hone).app z1, ?_, ?_, (((ItL.of hnd).sub hJ.subX).app hionew).app ((ItL.of hnd).sub hJ.subZ), .inr ⟨m5.1, m5.2, ⟨wDn (A ++ l1 ++ B), a, []⟩, by simp, rfl⟩, by have := h2.waits; omega, fun S R he hk => ?_⟩
     ·rw [wCd, wCd, x2, z2, wFc, wCi (x := ⟨wDn (A ++ l1 ++ B), a, []⟩) m4, j2, hall2]
      have e3 : (wCc s (l + 1) xs).filter (wEt q) = wCc s (l + 1) X ++ (wCc s l A ++ (wCc s l ys).filter (wEt q) ++ wCc s l B) ++ wCc s (l + 1) Z := by
       have h5 := hsrt
       rw [hJ.all, wCi hy1] at h5 ⊢
       have e : wCc s (l + 1) X ++ (wCc s l A ++ wCc s l ys ++ wCc s l B) ++ wCc s (l + 1) Z = (wCc s (l + 1) X ++ wCc s l A) ++ wCc s l ys ++ (wCc s l B ++ wCc s (l + 1) Z) := by simp only [List.append_assoc]
       rw [e] at h5 ⊢
       rw [filter_mid h5 hmid]; simp only [List.append_assoc]
      rw [e3]
     ·have := hJ.many; simp only [List.length_append, List.length_singleton]; omega
     ·obtain ⟨hcS, _⟩ := he.closed k hk _ _ hnd (by omega) _ (List.getElem_mem hp)
      obtain ⟨S1, k1, k2, k3⟩ := h2.en S R he hcS
      obtain ⟨S2, n1, n2, n3⟩ := m7 S1 R k1 fun hl x hx => by
       have hl0 : 0 < l := by omega
       rcases List.mem_append.1 hx with hx | hx
       ·rcases List.mem_append.1 hx with hx | hx
        ·obtain ⟨c1, zs, c2⟩ := nb_in hJ.nbA he hk hnd hl0 x hx
         exact ⟨k2 _ c1 (by rw [c2]; simp), zs, h2.ext.nd _ _ c2⟩
        ·obtain ⟨l0, rfl⟩ : ∃ l0, l = l0 + 1 := ⟨l - 1, by omega⟩
         obtain ⟨zs, e1, _⟩ := h2.shp x hx
         exact ⟨k3 hl0 x hx, zs, by rw [e1]; congr 2; omega⟩
       ·obtain ⟨c1, zs, c2⟩ := nb_in hJ.nbB he hk hnd hl0 x hx
        exact ⟨k2 _ c1 (by rw [c2]; simp), zs, h2.ext.nd _ _ c2⟩
      have hh : hlR a ++ R = a :: R := by unfold hlR; rw [if_neg (by omega)]; rfl
      refine ⟨S2, by rw [hh]; exact n1, k2.trans h2.ext n3, fun _ x hx => ?_⟩
      have hold : ∀ y ∈ xs, y.ref.toNat ∈ S2 := fun y hy => by
       obtain ⟨c1, zs, c2⟩ := he.closed k hk _ _ hnd (by omega) y hy
       exact n3 _ (k2 _ c1 (by rw [c2]; simp)) (by rw [h2.ext.nd _ _ c2]; simp)
      rcases List.mem_append.1 hx with hx | hx
      ·rcases List.mem_append.1 hx with hx | hx
       ·exact hold x (hJ.subX x hx)
       ·rw [List.mem_singleton.1 hx]; exact n2
      ·exact hold x (hJ.subZ x hx)
def Lev (s : Sto) : Nat → List It → Prop
 | 0, _ => True
 | l + 1, xs => ∀ x ∈ xs, ∃ ys, wBs s x.ref.toNat = some ((l : Int), ys) ∧ Lev s l ys
theorem lev_of {s : Sto} : ∀ {l : Nat} {xs : List It}, Shp s l xs → Lev s l xs
 | 0, _, _ => trivial
 | l + 1, xs, h => fun x hx => by obtain ⟨ys, h1, _, _, h4⟩ := h x hx; exact ⟨ys, h1, lev_of h4⟩
theorem lev_off {s t : Sto} {r : Nat} {lv : Int} {zs : List It} (hr : wBs s r = some (lv, zs)) (h : ∀ n, n ≠ r → wBs t n = wBs s n) : ∀ {l : Nat} {xs : List It}, (l : Int) ≤ lv → Lev s l xs → Lev t l xs
 | 0, _, _, _ => trivial
 | l + 1, xs, hl, hL => fun x hx => by
  obtain ⟨ys, h1, h2⟩ := hL x hx
  refine ⟨ys, ?_, lev_off hr h (by omega) h2⟩
  rw [h _ (fun e => by rw [e, hr] at h1; cases h1; omega)]; exact h1
theorem clearS_nd {s : Sto} {k n : Nat} (h : n ≠ k) : wBs (wCq s k) n = wBs s n := by
 have hs : wLr (wCq s k) n = wLr s n := rfl
 unfold wBs
 rw [hs]
 show (if (s.now.set k 0).getD n 0 = 0 then none else _) = _
 rw [wBw h]
theorem sumN_ge {xs : List By} {k : Nat} (hk : k < xs.length) : (xs.getD k 0).toNat ≤ wKm xs := by
 have := sumN_set (v := 0) hk
 have h0 : (0 : By).toNat = 0 := rfl
 omega
theorem low_leave {t : Sto} {r : Int} {l : Nat} {x : It} {ys : List It} (hst : wCx t) (hr : 8 ≤ r ∧ r < 256) (hb : 8 ≤ x.ref ∧ x.ref < 256) (hnd : wBs t r.toNat = some (((l + 1 : Nat) : Int), [x])) (hnb : wBs t x.ref.toNat = some ((l : Int), ys)) (he : wDa t x.ref.toNat = 0) :
  ∃ u, wGt (wCv t x.ref.toNat) r = some u ∧ wCx u ∧ (∀ n, n ≠ r.toNat → wBs u n = wBs t n) ∧ u.waits = t.waits := by
 have hl : t.now.length = 256 := hst.2.1.1
 obtain ⟨h0, h255⟩ := wLp he
 obtain ⟨hx, hnds⟩ := wKs (s := t) (k := x.ref.toNat) (by omega) he
 have hn := wJx (s := t) (k := x.ref.toNat) (by omega) h255
 have hne : x.ref.toNat ≠ r.toNat := fun e => by rw [e, hnd] at hnb; cases hnb
 have hsok := shareS_ok (s := t) (k := x.ref.toNat) hst (by omega)
 have hz0 : (t.now.getD x.ref.toNat 0).toNat ≠ 0 := fun e => h0 (UInt8.toNat.inj e)
 have hb2 := hn x.ref.toNat
 rw [if_pos rfl] at hb2
 have hsl : (wCv t x.ref.toNat).now.length = 256 := hsok.2.1.1
 have hsum := sumN_ge (xs := (wCv t x.ref.toNat).now) (k := x.ref.toNat) (by omega)
 have hndr : wBs (wCv t x.ref.toNat) r.toNat = some (((l + 1 : Nat) : Int), [x]) := by rw [hnds]; exact hnd
 have hrz := wEf hndr
 obtain ⟨f, hf⟩ : ∃ f, wKm (wCv t x.ref.toNat).now = f + 2 := ⟨wKm (wCv t x.ref.toNat).now - 2, by omega⟩
 unfold wGt
 rw [hf]
 have hw : (wCv t x.ref.toNat).waits = t.waits := rfl
 generalize wCv t x.ref.toNat = u0 at *
 by_cases h1 : u0.now.getD r.toNat 0 = 1
 ·have hno : ¬ (u0.now.getD r.toNat 0 = 0 ∨ ((0 : Int) ≤ -1 ∧ ((l + 1 : Nat) : Int) ≠ -1)) := by
   rintro (e | ⟨a, _⟩)
   ·rw [h1] at e; cases e
   ·omega
  rw [wGy hrz h1 hndr, if_neg hno, if_pos (by omega)]
  show ∃ u, lvF u0.now (f + 1) (wCq u0 r.toNat) ((x.ref, ((l + 1 : Nat) : Int) - 1) :: []) = some u ∧ _
  have hcb : (wCq u0 r.toNat).now.getD x.ref.toNat 0 = u0.now.getD x.ref.toNat 0 := by
   show (u0.now.set r.toNat 0).getD _ 0 = _; exact wBw hne
  have hcl : (wCq u0 r.toNat).now.length = 256 := by show (u0.now.set _ _).length = _; rw [List.length_set]; exact hsl
  obtain ⟨k1, k2⟩ := wLa (s := wCq u0 r.toNat) (k := x.ref.toNat) (by omega) (by rw [hcb]; omega)
  rw [lv_more (by rw [hcb]; exact nz_of (by omega)) (by rw [hcb]; intro e; rw [e] at hb2; have : (1 : By).toNat = 1 := rfl; omega)]
  refine ⟨_, by rw [show lvF u0.now f (wCf (wCq u0 r.toNat) x.ref.toNat) [] = some (wCf (wCq u0 r.toNat) x.ref.toNat) by cases f <;> rfl], wEy (wHm hsok (by omega)) (by omega), fun n hn2 => ?_, ?_⟩
  ·rw [k2, clearS_nd hn2, hnds]
  ·exact hw
 ·rw [lv_more hrz h1]
  have hrz2 : (u0.now.getD r.toNat 0).toNat ≠ 0 := fun e => hrz (UInt8.toNat.inj e)
  have hr1 : (u0.now.getD r.toNat 0).toNat ≠ 1 := fun e => h1 (UInt8.toNat.inj (by rw [e]; rfl))
  obtain ⟨k1, k2⟩ := wLa (s := u0) (k := r.toNat) (by omega) (by omega)
  refine ⟨_, by rw [show lvF u0.now (f + 1) (wCf u0 r.toNat) [] = some (wCf u0 r.toNat) from rfl], wEy hsok (by omega), fun n _ => by rw [k2, hnds], ?_⟩
  exact hw
def Kp (s : Sto) (S : List Nat) (t : Sto) (S' : List Nat) (R : List Int) : Prop := ∀ r ∈ R, 8 ≤ r ∧ r < 256 → r.toNat ∈ S → ∀ (l : Nat) xs, wBs s r.toNat = some ((l : Int), xs) → Shp s l xs → r.toNat ∈ S' ∧ wBs t r.toNat = some ((l : Int), xs) ∧ Shp t l xs ∧ wCc t l xs = wCc s l xs
theorem Kp.refl (s : Sto) (S : List Nat) (R : List Int) : Kp s S s S R := fun r _ _ hS l xs h1 h2 => ⟨hS, h1, h2, rfl⟩
theorem Kp.trans {s t u : Sto} {S S' S'' : List Nat} {R : List Int} (h : Kp s S t S' R) (k : Kp t S' u S'' R) : Kp s S u S'' R := fun r hr hb hS l xs h1 h2 => by
 obtain ⟨a, b, c, d⟩ := h r hr hb hS l xs h1 h2
 obtain ⟨a2, b2, c2, d2⟩ := k r hr hb a l xs b c
 exact ⟨a2, b2, c2, d2.trans d⟩
theorem Kp.ext {s t : Sto} {S S' : List Nat} {R : List Int} (h : Ext s t) (hs : Sub s S S') : Kp s S t S' R := fun r hr hb hS l xs h1 h2 => by
 obtain ⟨e1, e2⟩ := h.shp h2
 exact ⟨hs _ hS (by rw [h1]; simp), h.nd _ _ h1, e1, e2⟩
theorem Kp.thin {s t : Sto} {S : List Nat} {R : List Int} (h : Thin s t) (he : En t S R) : Kp s S t S R := fun r hr hb hS l xs h1 h2 => by
 obtain ⟨a, b, c⟩ := h.tree he hr hb hS h1 h2
 exact ⟨hS, a, b, c⟩
theorem Kp.sub {s t : Sto} {S S' : List Nat} {R R' : List Int} (h : Kp s S t S' R) (hs : ∀ r ∈ R', r ∈ R) : Kp s S t S' R' := fun r hr => h r (hs r hr)
theorem low_law {R : List Int} {S : List Nat} : ∀ (n : Nat) {t : Sto} {r : Int} {l : Nat} {xs : List It}, En t S (r :: R) → r.toNat ∈ S → (8 ≤ r ∧ r < 256) → wBs t r.toNat = some ((l : Int), xs) → Shp t l xs → l < n →
  lowF n t r = .error 70 ∨ ∃ u r' l' xs', lowF n t r = .ok (u, r') ∧ En u S (r' :: R) ∧ r'.toNat ∈ S ∧ (8 ≤ r' ∧ r' < 256) ∧ wBs u r'.toNat = some (((l' : Nat) : Int), xs') ∧ Shp u l' xs' ∧ wCc u l' xs' = wCc t l xs ∧ l' ≤ l ∧ u.waits = t.waits ∧ Kp t S u S R
 | 0, t, r, l, xs, _, _, _, _, _, hl => by omega
 | n + 1, t, r, l, xs, he, hS, hr, hnd, hshp, hl => by
  have hend : lowF (n + 1) t r = .ok (t, r) → lowF (n + 1) t r = .error 70 ∨ ∃ u r' l' xs', lowF (n + 1) t r = .ok (u, r') ∧ En u S (r' :: R) ∧ r'.toNat ∈ S ∧ (8 ≤ r' ∧ r' < 256) ∧ wBs u r'.toNat = some (((l' : Nat) : Int), xs') ∧ Shp u l' xs' ∧ wCc u l' xs' = wCc t l xs ∧ l' ≤ l ∧ u.waits = t.waits ∧ Kp t S u S R :=
   fun h => .inr ⟨t, r, l, xs, h, he, hS, hr, hnd, hshp, rfl, Nat.le_refl _, rfl, Kp.refl _ _ _⟩
  cases l with
  | zero => exact hend (by rw [lowF, hnd]; exact if_pos rfl)
  | succ l =>
   match xs, hnd, hshp with
   | [], hnd, _ => exact hend (by rw [lowF, hnd]; exact if_neg (by omega))
   | y :: z :: zs, hnd, _ => exact hend (by rw [lowF, hnd]; exact if_neg (by omega))
   | [x], hnd, hshp =>
    obtain ⟨ys, h1, h2, h3, h4⟩ := hshp x (by simp)
    have hno := wBm hnd
    have hb : 8 ≤ x.ref ∧ x.ref < 256 := by have := hno.ref x (by simp); have := hno.up (by omega) x (by simp); omega
    have hlow : lowF (n + 1) t r = if wDa t x.ref.toNat = 0 then (match wGt (wCv t x.ref.toNat) r with
     | none => .error 8
     | some u => lowF n u x.ref) else .error (wDa t x.ref.toNat) := by rw [lowF, hnd]; exact if_neg (by omega)
    rw [hlow]
    rcases shareE_cases (wEf h1) with ⟨e0, _⟩ | e70
    ·rw [if_pos e0]
     have hl2 : t.now.length = 256 := he.ok.2.1.1
     obtain ⟨hx, hnds⟩ := wKs (s := t) (k := x.ref.toNat) (by omega) e0
     have hsh := he.share hb e0
     obtain ⟨u, k1, k2, k3⟩ := leave_tree (hsh.perm (List.Perm.swap _ _ _)) hr hS (by rw [hnds]; exact hnd)
     rw [k1]
     obtain ⟨hbS, _⟩ := he.closed _ hS _ _ hnd (by omega) x (by simp)
     obtain ⟨x1, x2⟩ := hx.shp h4
     obtain ⟨m1, m2, m3⟩ := k3.tree k2 (r := x.ref) (by simp) hb hbS (hx.nd _ _ h1) x1
     have hkp : Kp t S u S R := (Kp.ext hx fun n hn _ => hn).trans ((Kp.thin k3 k2).sub fun r hr => by simp [hr])
     rcases low_law n k2 hbS hb m1 m2 (by omega) with h | ⟨v, r', l', xs', n1, n2, n3, n4, n5, n6, n7, n8, n9, n10⟩
     ·exact .inl h
     ·refine .inr ⟨v, r', l', xs', n1, n2, n3, n4, n5, n6, ?_, by omega, ?_, hkp.trans n10⟩
      ·rw [n7, m3, x2, wFc, wCi h1]
      ·rw [n9, k3.waits]; rfl
    ·rw [if_neg (by rw [e70]; decide), e70]; exact .inl rfl
structure DelOk (s t : Sto) (root now : Int) (q : Ky) (R : List Int) (S S' : List Nat) : Prop where
 en : En t S' (now :: R)
 inS : now.toNat ∈ S'
 rng : 8 ≤ now ∧ now < 256
 chk : (wCj t now).2 = 0
 high : (wCj t now).1 ≤ (wCj s root).1
 all : wKk t now = (wKk s root).filter (wEt q)
 other : ∀ r ∈ R, r.toNat ∈ S → (wCj s r).2 = 0 → wCj t r = wCj s r ∧ wKk t r = wKk s r ∧ r.toNat ∈ S'
 waits : (t.waits.length : Int) ≤ s.waits.length + (wCj s root).1
theorem Kp.tree {s t : Sto} {S S' : List Nat} {R : List Int} (h : Kp s S t S' R) (hst : wCx t) {r : Int} (hr : r ∈ R) (hS : r.toNat ∈ S) (hf : (wCj s r).2 = 0) : wCj t r = wCj s r ∧ wKk t r = wKk s r ∧ r.toNat ∈ S' := by
 obtain ⟨_, h8, h256, _, lev, xs, hnd, ht, h1⟩ := wCb hf
 obtain ⟨a, b, c, d⟩ := h r hr ⟨h8, h256⟩ hS lev xs hnd (shp_of ht)
 have hsrt : Srt (wCc t lev xs) := by rw [d]; exact wJw ht
 obtain ⟨f1, f2⟩ := fchk_of hst ⟨h8, h256⟩ b (tree_of c hsrt)
 refine ⟨?_, ?_, a⟩
 ·rw [f1, ← h1]; exact Prod.ext rfl hf.symm
 ·rw [f2, d]; unfold wKk; rw [hnd]; rfl
theorem delF_in {s : Sto} {root : Int} {q : Ky} {y : It} {lev : Nat} {xs : List It} (hf : (wCj s root).2 = 0) (hfd : fnd s root q = some y) (hnd : wBs s root.toNat = some ((lev : Int), xs)) : delF s root q = delIn s root (wCe s q lev xs) := by
 unfold fnd at hfd
 rw [hnd] at hfd
 change wCp s q lev xs = some y at hfd
 unfold delF
 rw [if_pos hf, hnd]
 show (match wCp s q ((lev : Int)).toNat xs with | none => _ | some _ => delIn s root (wCe s q ((lev : Int)).toNat xs)) = _
 rw [Int.toNat_natCast, hfd]
theorem delF_no {s : Sto} {root : Int} {q : Ky} (hf : (wCj s root).2 = 0) (hfd : fnd s root q = none) : delF s root q = .error 6 := by
 obtain ⟨_, _, _, _, lev, xs, hnd, _, _⟩ := wCb hf
 unfold fnd at hfd
 rw [hnd] at hfd
 unfold delF
 rw [if_pos hf, hnd]
 change wCp s q lev xs = none at hfd
 show (match wCp s q ((lev : Int)).toNat xs with | none => _ | some _ => _) = _
 rw [Int.toNat_natCast, hfd]
theorem delF_bad {s : Sto} {root : Int} {q : Ky} (hf : ¬ (wCj s root).2 = 0) : delF s root q = .error (wCj s root).2 := by unfold delF; rw [if_neg hf]
structure TopOk (s u : Sto) (q : Ky) (lev : Nat) (xs : List It) (k : Nat) (a : Int) (L : Nat) (l1 : List It) : Prop where
 ok : wCx u
 ext : Ext s u
 nd : wBs u a.toNat = some ((L : Int), l1)
 rng : 8 ≤ a ∧ a < 256
 shp : Shp u L l1
 le : L ≤ lev
 all : wCc u L l1 = (wCc s lev xs).filter (wEt q)
 waits : u.waits.length ≤ s.waits.length + lev + 1
 en : ∀ S R, En s S R → k ∈ S → ∃ S', En u S' (a :: R) ∧ a.toNat ∈ S' ∧ Sub s S S'
theorem top_law {s : Sto} {q : Ky} {lev : Nat} {xs : List It} {k : Nat} (hst : wCx s) (hnd : wBs s k = some ((lev : Int), xs)) (hshp : Shp s lev xs) (hsrt : Srt (wCc s lev xs)) (hf : ∃ y ∈ wCc s lev xs, y.key = q) :
  (∃ e, delTop (((wCe s q lev xs).length : Int) - 1) (dn s (wMd (wCe s q lev xs)) (wCe s q lev xs).dropLast) = .error e ∧ (e = 9 ∨ e = 70)) ∨ ∃ u a L l1, delTop (((wCe s q lev xs).length : Int) - 1) (dn s (wMd (wCe s q lev xs)) (wCe s q lev xs).dropLast) = .ok (u, a) ∧ TopOk s u q lev xs k a L l1 := by
 have hlv := (wBm hnd).lev
 have hl5 := (wBm hnd).len
 rcases dn_law (q := q) hst lev xs k hnd hshp hsrt hf with ⟨e, h1, h2⟩ | ⟨t, l1, held, h1, h2⟩
 ·exact .inl ⟨e, by rw [h1]; rfl, h2⟩
 ·rw [h1, wHo]
  obtain ⟨L, hL, hLn, hLl⟩ : ∃ L : Nat, (if l1 = [] then (0 : Int) else ((lev + 1 : Nat) : Int) - 1) = (L : Int) ∧ (L ≠ 0 → l1 ≠ []) ∧ (L = lev ∨ (L = 0 ∧ l1 = [])) := by
   by_cases h : l1 = []
   ·exact ⟨0, if_pos h, fun h0 => absurd rfl h0, .inr ⟨rfl, h⟩⟩
   ·exact ⟨lev, by rw [if_neg h]; omega, fun _ => h, .inl rfl⟩
  have hshp2 : Shp t L l1 ∧ wCc t L l1 = wCc t lev l1 ∧ ItL L l1 := by
   rcases hLl with rfl | ⟨rfl, rfl⟩
   ·exact ⟨h2.shp, rfl, h2.itl⟩
   ·exact ⟨fun x hx => (List.not_mem_nil hx).elim, rfl, ItL.nil⟩
  obtain ⟨c1, c2, c3⟩ := hshp2
  have hs2 : Srt (wCc t L l1) := by rw [c2, h2.all]; exact hsrt.filter _
  have hok := fit_ok (t := t) (l := L) (by rcases hLl with rfl | ⟨rfl, _⟩ <;> omega) hLn (by have := h2.len; omega) c3 (shp_srt c1 hs2)
  show (∃ e, wFr t (if l1 = [] then 0 else ((lev + 1 : Nat) : Int) - 1) l1 held = .error e ∧ _) ∨ ∃ u a L l2, wFr t (if l1 = [] then 0 else ((lev + 1 : Nat) : Int) - 1) l1 held = .ok (u, a) ∧ _
  rw [hL]
  rcases single_law (held := held) h2.ok hok c3.key (shp_live c1) h2.hel with ⟨e, m1, m2⟩ | ⟨u, a, m1, m2, m3, m4, m5, m6, m7⟩
  ·exact .inl ⟨e, m1, m2⟩
  ·obtain ⟨x1, x2⟩ := m3.shp c1
   refine .inr ⟨u, a, L, l1, m1, m2, h2.ext.trans m3, m4, m5, x1, by rcases hLl with rfl | ⟨rfl, _⟩ <;> omega, by rw [x2, c2, h2.all], by have := h2.waits; omega, fun S R he hk => ?_⟩
   obtain ⟨S1, k1, k2, k3⟩ := h2.en S R he hk
   obtain ⟨S2, n1, n2, n3⟩ := m7 S1 R k1 fun hl x hx => by
    rcases hLl with rfl | ⟨rfl, rfl⟩
    ·have hl0 : 0 < L := by omega
     obtain ⟨l0, rfl⟩ : ∃ l0, L = l0 + 1 := ⟨L - 1, by omega⟩
     obtain ⟨zs, e1, _⟩ := h2.shp x hx
     exact ⟨k3 hl0 x hx, zs, by rw [e1]; congr 2; omega⟩
    ·cases hx
   exact ⟨S2, n1, n2, k2.trans h2.ext n3⟩
theorem del_law {s : Sto} {S : List Nat} {R : List Int} {root : Int} {q : Ky} {y : It} (hf : (wCj s root).2 = 0) (hfd : fnd s root q = some y) (he : En s S (root :: R)) (hS : root.toNat ∈ S) :
  (∃ e, delF s root q = .error e ∧ (e = 9 ∨ e = 70)) ∨ ∃ t now S', delF s root q = .ok (t, now) ∧ DelOk s t root now q R S S' := by
 obtain ⟨hst, h8, h256, _, lev, xs0, hnd0, ht0, h1⟩ := wCb hf
 have hshp := shp_of ht0
 have hsrt := wJw ht0
 obtain ⟨hy1, hy2⟩ := fnd_back hf hfd
 have hat : wKk s root = wCc s lev xs0 := by unfold wKk; rw [hnd0]; rfl
 rw [hat] at hy1
 rw [delF_in hf hfd hnd0]
 unfold delIn
 have hlv := (wBm hnd0).lev
 rcases top_law (q := q) hst hnd0 hshp hsrt ⟨y, hy1, hy2⟩ with ⟨e, k1, k2⟩ | ⟨u, a, L, l1, k1, k2⟩
 ·exact .inl ⟨e, by rw [k1]; rfl, k2⟩
 ·rw [k1]
  obtain ⟨S1, n1, n2, n3⟩ := k2.en S (root :: R) he hS
  show (∃ e, delEnd root (lowF 7 u a) = .error e ∧ _) ∨ _
  rcases low_law 7 n1 n2 k2.rng k2.nd k2.shp (by have := k2.le; omega) with h | ⟨v, r', l', xs', m1, m2, m3, m4, m5, m6, m7, m8, m9, m10⟩
  ·exact .inl ⟨70, by rw [h]; rfl, .inr rfl⟩
  ·have hkp := (Kp.ext (R := root :: R) k2.ext n3).trans m10
   obtain ⟨r1, r2, r3, r4⟩ := hkp root (by simp) ⟨h8, h256⟩ hS lev xs0 hnd0 hshp
   obtain ⟨w, o1, o2, o3⟩ := leave_tree (m2.perm (List.Perm.swap _ _ _)) ⟨h8, h256⟩ r1 r2
   obtain ⟨p1, p2, p3⟩ := o3.tree o2 (r := r') (by simp) m4 m3 m5 m6
   have hall : wCc w l' xs' = (wCc s lev xs0).filter (wEt q) := by rw [p3, m7, k2.all]
   obtain ⟨f1, f2⟩ := fchk_of o2.ok m4 p1 (tree_of p2 (by rw [hall]; exact hsrt.filter _))
   refine .inr ⟨w, r', S1, ?_, o2, m3, m4, by rw [f1], by rw [f1, h1]; have := k2.le; show (l' : Int) + 1 ≤ _; omega, by rw [f2, hall, hat], fun r hr hrS hrf => ?_, ?_⟩
   ·show delEnd root (lowF 7 u a) = _; rw [m1]; show (match wGt v root with | none => _ | some u => _) = _; rw [o1]
   ·exact ((hkp.sub (R' := R) fun r hr => by simp [hr]).trans ((Kp.thin o3 o2).sub fun r hr => by simp [hr])).tree o2.ok hr hrS hrf
   ·rw [o3.waits, m9, h1]; have := k2.waits; omega
end Go.Proofs.YtckdncmjkloebaaGreat
