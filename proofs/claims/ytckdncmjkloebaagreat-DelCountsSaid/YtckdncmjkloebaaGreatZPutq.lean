/- What the statements on putting need of the law, without a program. No statement of the seat is proved here. -/
import Derived.Test.YtckdncmjkloebaaGreatZEnw
import Derived.Test.YtckdncmjkloebaaGreatZHbm
namespace Go.Proofs.YtckdncmjkloebaaGreat
set_option linter.unusedSimpArgs false
set_option linter.unusedVariables false
open Go.RowKit
def heldF (r : Int) : List Int := if 0 < r then [r] else []
theorem ref_of_chk {x : It} (h : wEh x = 0) : x.ref = 0 ∨ (8 ≤ x.ref ∧ x.ref < 256) := by
 have := wDo h
 unfold wEh wEd at h
 split at h
 ·cases h
 ·rename_i hb
  simp at hb
  omega
theorem put_out {s : Sto} {root : Int} {R : List Int} {x : It} (hst : wCx s) (hf : (wCj s root).2 = 0) (hic : wEh x = 0) (hkx : wDk x.key) (he : EnP s (root :: R) (heldF x.ref)) (hr : ∀ r ∈ R, (wCj s r).2 = 0) :
  (∃ e, putF s root x = .error e ∧ (e = 9 ∨ e = 70 ∨ e = 120)) ∨ ∃ t now S S', putF s root x = .ok (t, now) ∧ PutOk s t root now x R S S' ∧ ∀ r ∈ R, r.toNat ∈ S := by
 obtain ⟨S, h1, h2⟩ := he.en hst fun r hrr => by
  rcases List.mem_cons.1 hrr with rfl | h
  ·exact hf
  ·exact hr r h
 have hx0 := ref_of_chk hic
 have he2 : En s S (x.ref :: root :: R) := h1.less fun k hk => by
  rw [List.count_append]
  unfold heldF
  by_cases h : 0 < x.ref
  ·rw [if_pos h, List.count_cons, List.count_singleton]; omega
  ·rw [if_neg h, List.count_cons]
   have : (x.ref == k) = false := by rw [beq_eq_false_iff_ne]; omega
   rw [this]
   exact Nat.le_refl _
 have hask : wFt s root x = 0 := by
  unfold wFt
  rw [if_pos hf, if_pos hic, if_neg]
  rintro ⟨k1, k2⟩
  exact he2.live (k := x.ref) (by omega) (by omega) (by rw [List.count_cons_self]; omega) k2
 rcases put_law hask hkx he2 (h2 root (by simp)) with h | ⟨t, now, S', k1, k2⟩
 ·exact .inl h
 ·exact .inr ⟨t, now, S, S', k1, k2, fun r hrr => h2 r (by simp [hrr])⟩
theorem PutOk.enp {s t : Sto} {root now : Int} {x : It} {R : List Int} {S S' : List Nat} (h : PutOk s t root now x R S S') (hR : ∀ r ∈ R, r.toNat ∈ S) (hr : ∀ r ∈ R, (wCj s r).2 = 0) : EnP t (now :: R) [] :=
 h.en.enp fun r hrr => by
  rcases List.mem_cons.1 hrr with rfl | hm
  ·exact ⟨h.inS, h.chk⟩
  ·obtain ⟨k1, _, k3⟩ := h.other r hm (hR r hm) (hr r hm)
   exact ⟨k3, by rw [k1]; exact hr r hm⟩
theorem wEm {s : Sto} {r : Int} (h : (wCj s r).2 = 0) : wJc s r = wKk s r := if_pos h
def Wnt (x : It) (l : List It) (i : Nat) (p : Bool) (acc : List It) : Prop :=
 (p = false → (∀ z ∈ l.take i, wBe z.key x.key = true) ∧ acc = l.take i) ∧ (p = true → (∃ z ∈ l.take i, wBe z.key x.key = false) ∧ acc = wGr x (l.take i))
theorem Wnt.start (x : It) (l : List It) : Wnt x l 0 false [] := ⟨fun _ => ⟨fun z hz => (by simp at hz), by simp⟩, fun h => (by cases h)⟩
theorem insL_less {x : It} {A : List It} (h : ∀ z ∈ A, wBe z.key x.key = true) : wGr x A = A ++ [x] := by
 have := wKf (x := x) (A := A) (B := []) (C := []) h (fun _ h => by cases h)
 simpa [wGr] using this
theorem insL_snoc {x y : It} {A : List It} (h : wBe x.key y.key = true) : wGr x (A ++ [y]) = wGr x A ++ [y] := by
 have h2 : wBe y.key x.key = false := wKo h
 unfold wGr
 rw [List.filter_append, List.filter_append, List.filter_cons_of_neg (by rw [h2]; decide), List.filter_cons_of_pos (p := fun (z : It) => wBe x.key z.key) (a := y) h]
 simp
theorem mem_take {l : List It} {i : Nat} (hi : i < l.length) : l[i] ∈ l.take (i + 1) := by
 rw [List.take_succ_eq_append_getElem hi]; exact List.mem_append.2 (.inr (List.mem_singleton.2 rfl))
theorem kl_of {a b : Ky} (h : wBe a b = false) (hn : a ≠ b) : wBe b a = true := by
 rw [kl_iff]
 have h2 : ¬ (a.kind < b.kind ∨ a.kind = b.kind ∧ (a.id < b.id ∨ a.id = b.id ∧ a.off < b.off)) := fun e => by rw [kl_iff.2 e] at h; cases h
 have h3 : ¬ (a.kind = b.kind ∧ a.id = b.id ∧ a.off = b.off) := fun ⟨e1, e2, e3⟩ => hn (by cases a; cases b; simp at e1 e2 e3; rw [e1, e2, e3])
 omega
theorem Wnt.less {x : It} {l : List It} {i : Nat} {acc : List It} (h : Wnt x l i false acc) (hi : i < l.length) (hk : wBe l[i].key x.key = true) : l[i].key ≠ x.key ∧ Wnt x l (i + 1) false (acc ++ [l[i]]) := by
 obtain ⟨h1, rfl⟩ := h.1 rfl
 refine ⟨fun e => (by rw [e, wJm] at hk; cases hk), fun _ => ⟨fun z hz => ?_, List.take_succ_eq_append_getElem hi |>.symm⟩, fun h => (by cases h)⟩
 rw [List.take_succ_eq_append_getElem hi] at hz
 rcases List.mem_append.1 hz with hz | hz
 ·exact h1 z hz
 ·rw [List.mem_singleton.1 hz]; exact hk
theorem Wnt.same {x : It} {l : List It} {i : Nat} {acc : List It} (h : Wnt x l i false acc) (hi : i < l.length) (hk : wBe l[i].key x.key = false) (e : l[i].key = x.key) : Wnt x l (i + 1) true (acc ++ [x]) := by
 obtain ⟨h1, rfl⟩ := h.1 rfl
 refine ⟨fun h => (by cases h), fun _ => ⟨⟨l[i], mem_take hi, hk⟩, ?_⟩⟩
 rw [List.take_succ_eq_append_getElem hi, ← insL_less h1]
 have hf : wBe x.key l[i].key = false := by rw [e]; exact wJm
 unfold wGr
 rw [List.filter_append, List.filter_append, List.filter_cons_of_neg (by rw [hk]; decide), List.filter_cons_of_neg (by rw [hf]; decide)]
 simp
theorem Wnt.more {x : It} {l : List It} {i : Nat} {acc : List It} (h : Wnt x l i false acc) (hi : i < l.length) (hk : wBe l[i].key x.key = false) (e : l[i].key ≠ x.key) : Wnt x l (i + 1) true (acc ++ [x] ++ [l[i]]) := by
 obtain ⟨h1, rfl⟩ := h.1 rfl
 refine ⟨fun h => (by cases h), fun _ => ⟨⟨l[i], mem_take hi, hk⟩, ?_⟩⟩
 rw [List.take_succ_eq_append_getElem hi, ← insL_less h1, insL_snoc (kl_of hk e)]
theorem Wnt.put {x : It} {l : List It} {i : Nat} {acc : List It} (h : Wnt x l i true acc) (hs : Srt l) (hi : i < l.length) : l[i].key ≠ x.key ∧ Wnt x l (i + 1) true (acc ++ [l[i]]) := by
 obtain ⟨⟨z, hz, hzx⟩, rfl⟩ := h.2 rfl
 have hzl : wBe z.key l[i].key = true := by
  have e : l = l.take i ++ l.drop i := (List.take_append_drop i l).symm
  rw [e] at hs
  refine (List.pairwise_append.1 hs).2.2 z hz l[i] ?_
  rw [List.drop_eq_getElem_cons hi]; exact List.mem_cons_self
 have hxl : wBe x.key l[i].key = true := by
  rw [kl_iff] at hzl ⊢
  have h2 : ¬ (z.key.kind < x.key.kind ∨ z.key.kind = x.key.kind ∧ (z.key.id < x.key.id ∨ z.key.id = x.key.id ∧ z.key.off < x.key.off)) := fun e => by rw [kl_iff.2 e] at hzx; cases hzx
  omega
 refine ⟨fun e => (by rw [e, wJm] at hxl; cases hxl), fun h => (by cases h), fun _ => ⟨⟨z, List.take_subset_take_left _ (Nat.le_succ i) hz, hzx⟩, ?_⟩⟩
 rw [List.take_succ_eq_append_getElem hi, insL_snoc hxl]
theorem Wnt.done {x : It} {l : List It} {i : Nat} {p : Bool} {acc : List It} (h : Wnt x l i p acc) (hi : l.length ≤ i) : (p = true → acc = wGr x l) ∧ (p = false → acc ++ [x] = wGr x l) := by
 rw [Wnt, List.take_of_length_le hi] at h
 exact ⟨fun e => (h.2 e).2, fun e => by rw [insL_less (h.1 e).1, (h.1 e).2]⟩
theorem keyD_ne {a b : Ky} (h : decide (¬ [a.kind, a.id, a.off] = [b.kind, b.id, b.off]) = true) : a ≠ b := fun e => by subst e; exact (of_decide_eq_true h) rfl
theorem keyD_eq {a b : Ky} (h : decide (¬ [a.kind, a.id, a.off] = [b.kind, b.id, b.off]) = false) : a = b := by
 have := Classical.not_not.1 (of_decide_eq_false h)
 simp only [List.cons.injEq, and_true] at this
 obtain ⟨e1, e2, e3⟩ := this
 cases a; cases b; simp only at e1 e2 e3; rw [e1, e2, e3]
theorem IS.nil {M : Mem} : IS M (.slice none 0 0) [] := ⟨none, 0, rfl, Nat.le_refl _, .inl rfl⟩
theorem two_all {p : Int → Prop} {a b : Int} (ha : p a) (hb : p b) : ∀ r ∈ [a, b], p r := fun r hr => by
 rcases List.mem_cons.1 hr with rfl | hr
 ·exact ha
 ·rw [List.mem_singleton.1 hr]; exact hb
theorem allR_srt {s : Sto} {r : Int} (h : (wCj s r).2 = 0) : Srt (wJc s r) := by
 obtain ⟨_, _, _, _, lev, xs, hnd, ht, _⟩ := wCb h
 rw [wEm h]
 unfold wKk
 rw [hnd]
 exact wJw ht
end Go.Proofs.YtckdncmjkloebaaGreat
