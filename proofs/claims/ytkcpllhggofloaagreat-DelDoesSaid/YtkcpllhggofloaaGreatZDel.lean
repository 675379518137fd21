/- Walks: an item taken out. No statement of the seat is proved here. -/
import Derived.Test.YtkcpllhggofloaaGreatZDway
import Derived.Test.YtkcpllhggofloaaGreatZPut
namespace Go.Proofs.YtkcpllhggofloaaGreat
set_option linter.unusedVariables false
set_option linter.unusedSectionVars false
set_option linter.unusedSimpArgs false
open Go.RowKit
theorem bw_idx {α : Type} {ps : List α} {pre : List (α × Nat)} {y : α × Nat} (h : pre ++ [y] <+: bw ps 0) : y.2 = ps.length - 1 - pre.length := by
 obtain ⟨r, hr⟩ := h
 have hl := congrArg List.length hr
 rw [wGs, List.length_append, List.length_append, List.length_singleton] at hl
 have e := congrArg (fun l => l[pre.length]?) hr
 simp only [bw, List.drop_zero] at e
 rw [List.append_assoc, List.getElem?_append_right (by omega), List.getElem?_reverse (by rw [List.length_zipIdx]; omega)] at e
 simp only [List.length_zipIdx, Nat.sub_self] at e
 have e2 : some y = (ps.zipIdx)[ps.length - 1 - pre.length]? := e
 rw [List.getElem?_eq_getElem (by rw [List.length_zipIdx]; omega)] at e2
 have := Option.some.inj e2
 rw [this]; simp
theorem way_lv {s : Sto} {q : Ky} : ∀ {l : Nat} {xs : List It} {i : Nat} (h : i < (wDf s q l xs).length), (wDf s q l xs)[i].lv = (l : Int) - i
 | 0, xs, i, h => by
  have : i = 0 := by rw [way_len] at h; omega
  subst this; rfl
 | l + 1, xs, 0, h => by show ((l + 1 : Nat) : Int) = _; omega
 | l + 1, xs, i + 1, h => by
  have h2 : i < (wDf s q l (match xs[wAt xs q]? with | some x => kid s x | none => [])).length := by rw [way_len] at h ⊢; omega
  have := way_lv h2
  show (wDf s q l (match xs[wAt xs q]? with | some x => kid s x | none => []))[i].lv = _
  rw [this]; omega
theorem way_leaf {s : Sto} {q : Ky} : ∀ {l : Nat} {xs : List It} {k : Nat}, wBk s k = some ((l : Int), xs) → wCq s l xs → (∃ y, wCn s q l xs = some y) → ∃ w, (wDf s q l xs).getLast? = some w ∧ w.at_ < w.xs.length
 | 0, xs, k, hnd, ht, ⟨y, hy⟩ => by
  refine ⟨_, rfl, ?_⟩
  rw [wCn] at hy
  by_cases h : isAt xs q = true
  ·exact wKk h
  rw [if_neg h] at hy; cases hy
 | l + 1, xs, k, hnd, ht, ⟨y, hy⟩ => by
  have hne := wKf hnd (by omega)
  have hw2 := wAt_lt (q := q) hne
  obtain ⟨ys, h1, _, h3⟩ := wEu ht (List.getElem_mem hw2)
  have hkid : kid s xs[wAt xs q] = ys := by unfold kid; rw [h1]
  have h4 := (find_way hy hw2).1
  rw [hkid] at h4
  obtain ⟨w, h5, h6⟩ := way_leaf h1 h3 ⟨y, h4⟩
  refine ⟨w, ?_, h6⟩
  rw [wDf, List.getElem?_eq_getElem hw2]
  show (_ :: wDf s q l (kid s xs[wAt xs q])).getLast? = _
  rw [hkid]
  obtain ⟨a, b, e⟩ := List.exists_cons_of_ne_nil (way_ne s q l ys)
  rw [e] at h5 ⊢
  rw [List.getLast?_cons_cons]; exact h5
def KyL (l : List It) : Prop := ∀ y ∈ l, wFp y.key
theorem kid_key (s : Sto) (y : It) : KyL (kid s y) := fun x hx => by
 unfold kid at hx
 split at hx
 ·rename_i lv ys h; exact ndAt_key h x hx
 cases hx
theorem joinF_all {s : Sto} {w : Stp} {l : List It} (hat : w.at_ < w.xs.length) (hk : KyL l) (hl : l ≠ []) (h5 : l.length ≤ 5) : KyL (wBh s w l).1 ∧ (wBh s w l).1 ≠ [] ∧ (wBh s w l).1.length ≤ 5 ∧ ((wBh s w l).2.2 = 1 ∨ (wBh s w l).2.2 = 2) ∧ (wBh s w l).2.1 + (wBh s w l).2.2 ≤ w.xs.length := by
 have hno : ∀ j, j = (l, w.at_, 1) → KyL j.1 ∧ j.1 ≠ [] ∧ j.1.length ≤ 5 ∧ (j.2.2 = 1 ∨ j.2.2 = 2) ∧ j.2.1 + j.2.2 ≤ w.xs.length := by
  rintro j rfl; exact ⟨hk, hl, h5, .inl rfl, by show w.at_ + 1 ≤ _; omega⟩
 cases hn : nxt w with
 | none => exact hno _ (join_no hn)
 | some i =>
  have hi : i < w.xs.length ∧ (i = w.at_ + 1 ∨ i + 1 = w.at_) := by
   unfold nxt at hn
   split at hn
   ·split at hn
    ·cases hn
    cases hn; omega
   cases hn; omega
  have hj := join_yes (s := s) (l := l) hn hi.1
  by_cases h1 : 5 < (kid s w.xs[i]).length + l.length
  ·rw [if_pos h1] at hj; exact hno _ hj
  rw [if_neg h1] at hj
  have happ : ∀ {a b : List It}, KyL a → KyL b → KyL (a ++ b) := fun ha hb y hy => (List.mem_append.1 hy).elim (ha y) (hb y)
  by_cases h2 : i < w.at_
  ·rw [if_pos h2] at hj
   rw [hj]
   exact ⟨happ (kid_key s _) hk, fun e => hl (List.append_eq_nil_iff.1 e).2, by simp only [List.length_append]; omega, .inr rfl, by show i + 2 ≤ _; omega⟩
  rw [if_neg h2] at hj
  rw [hj]
  exact ⟨happ hk (kid_key s _), fun e => hl (List.append_eq_nil_iff.1 e).1, by simp only [List.length_append]; omega, .inr rfl, by show w.at_ + 2 ≤ _; omega⟩
theorem cutF_all {w : Stp} (hat : w.at_ < w.xs.length) (hk : KyL w.xs) (h5 : w.xs.length ≤ 5) : KyL (cutF w) ∧ (cutF w).length ≤ 5 ∧ (cutF w).length = w.xs.length - 1 := by
 unfold cutF
 refine ⟨fun y hy => hk y ((List.mem_append.1 hy).elim List.mem_of_mem_take List.mem_of_mem_drop), ?_, ?_⟩ <;> simp only [List.length_append, List.length_take, List.length_drop] <;> omega
theorem setF_all {w : Stp} {j : List It × Nat × Nat} {a : Int} (hk : KyL w.xs) (hj : KyL j.1) (hne : j.1 ≠ []) (h5 : w.xs.length ≤ 5) (hm : j.2.2 = 1 ∨ j.2.2 = 2) (hp : j.2.1 + j.2.2 ≤ w.xs.length) : KyL (setF w j a) ∧ (setF w j a).length ≤ 5 ∧ (setF w j a).length = w.xs.length - j.2.2 + 1 := by
 unfold setF
 refine ⟨fun y hy => ?_, ?_, ?_⟩
 ·rcases List.mem_append.1 hy with hy | hy
  ·rcases List.mem_append.1 hy with hy | hy
   ·exact hk y (List.mem_of_mem_take hy)
   rw [List.mem_singleton.1 hy]
   obtain ⟨z, zs, e⟩ := List.exists_cons_of_ne_nil hne
   rw [e]; exact hj z (by rw [e]; simp)
  exact hk y (List.mem_of_mem_drop hy)
 ·simp only [List.length_append, List.length_take, List.length_drop, List.length_singleton]; omega
 simp only [List.length_append, List.length_take, List.length_drop, List.length_singleton]; omega
theorem dn_err {s : Sto} {l0 : List It} {e : Int} : ∀ {ws : List Stp} (k : Nat), dn s l0 (ws.drop k) = .error e → dn s l0 ws = .error e
 | ws, 0, h => by simpa using h
 | [], k + 1, h => by simpa using h
 | w :: ws, k + 1, h => by
  rw [List.drop_succ_cons] at h
  rw [dn, dn_err k h]
theorem single_rng {s t : Sto} {lv a held : Int} {l : List It} (hst : wCc s) (h : wEb s lv l held = .ok (t, a)) : 8 ≤ a ∧ a < 256 := by
 unfold wEb at h
 by_cases h1 : mkE s lv l = 0
 ·have hmo := mkE_ok h1 hst.1.2.1
  have h8 : 8 ≤ wEt (wAx s l) := frAt_ge _ _ _
  rw [if_pos h1] at h
  split at h
  ·split at h
   ·cases h; omega
   cases h
  cases h; omega
 rw [if_neg h1] at h; cases h
theorem dfForm {s : Sto} {root : Int} {q : Ky} {u : Value} {M' : Mem} (h : FdPost s root q u M') : ∃ (y : It) (ya : Option Addr) (yn yc : Nat) (code : Int), u = .tuple #[.agg #[.int .u8 y.key.kind, .int .u32 y.key.id, .int .u32 y.key.off, .int .i64 y.ref, .slice ya yn yc], .int .i64 code] ∧
  ((code ≠ 0 ∧ delF s root q = .error code) ∨ (code = 0 ∧ (wFh s root).2 = 0 ∧ ∃ y, fnd s root q = some y)) := by
 by_cases h0 : (wFh s root).2 = 0
 ·obtain ⟨y, yv, code, h1, ⟨ya, yc, rfl, _⟩, h3⟩ := fdForm h
  refine ⟨y, ya, _, yc, code, h1, ?_⟩
  rcases h3 h0 with ⟨k1, k2⟩ | ⟨k1, k2, _⟩
  ·exact .inr ⟨k2, h0, y, k1⟩
  exact .inl ⟨by rw [k2]; decide, by rw [k2]; exact delF_no h0 k1⟩
 unfold FdPost at h
 rw [if_neg h0] at h
 exact ⟨zeroI, none, 0, 0, _, h, .inl ⟨h0, delF_bad h0⟩⟩
theorem SM.pre {M : Mem} {a : Option Addr} {xs ys : List Value} (h : SM M a (xs ++ ys)) : SM M a xs := by
 rcases h with h | ⟨b, off, h1, h2⟩
 ·exact .inl (List.append_eq_nil_iff.1 h).1
 exact .inr ⟨b, off, h1, fun i u hu => h2 i u (by rw [List.getElem?_append_left (List.getElem?_eq_some_iff.1 hu).1]; exact hu)⟩
theorem rep_any (ps : List Ir) (x : Ir) (i m : Nat) (hm : m = 1 ∨ m = 2) (hi : i + m ≤ ps.length) (sa : Option Addr) (sc : Nat) (R : Lc) (hown : Own (.slice sa ps.length sc) R IT 5 ps.length (ps.flatMap wAs)) (hpo : ∀ x ∈ ps, x.2.oneCell' = true) (vb : Nat) (ve : TypeId) (M : Mem) (hvb : M vb = some (.cells (wAs x).toArray ve (0, 0))) (hvo : x.2.oneCell' = true) (hbig : ps.length ≤ 1000) :
  SpecL Tryz.prog 19 #[.slice sa ps.length sc, .int .i64 i, .int .i64 ((i + m : Nat) : Int), .slice (some ⟨vb, 0, none⟩) 1 1] M R fun u _ L' => Own u L' IT 5 (ps.length - m + 1) ((ps.take i ++ [x] ++ ps.drop (i + m)).flatMap wAs) := by
 rcases hm with rfl | rfl
 ·exact rep_spec ps [x] i (by omega) sa sc R hown hpo vb 1 [] ve M (by rw [hvb]; simp) (fun z hz => by rw [List.mem_singleton.1 hz]; exact hvo) (by simp) (by simp; omega)
 have := rep2_spec ps x i (by omega) sa sc R hown hpo vb 1 [] ve M (by rw [hvb]; simp) hvo (by omega)
 rwa [show ps.length - 1 = ps.length - 2 + 1 by omega] at this
theorem iclone_ips (a : Option Addr) (c : Nat) (xs : List It) (ps : List Ir) (hl : ps.length = xs.length) (M : Mem) (hs : SM M a (ps.flatMap wAs)) (hb : ∀ p ∈ ps, BS M p.2 p.1.val) (hn : ps.length ≤ 1000000) :
  SpecL Tryz.prog 14 #[.slice a xs.length c] M [] fun v _ L' => Own v L' IT 5 xs.length (ps.flatMap wAs) := by
 rw [← hl]; exact wHv a c ps M hs (wHg hb) hn
theorem headI {l : List It} (h : 0 < l.length) : wDc l = l[0].key := by
 obtain ⟨x, xs, rfl⟩ := List.exists_cons_of_length_pos h; rfl
end Go.Proofs.YtkcpllhggofloaaGreat
