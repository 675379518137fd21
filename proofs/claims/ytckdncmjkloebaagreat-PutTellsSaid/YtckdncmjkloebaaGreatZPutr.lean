/- Insertions into a list; what a call of Find gives; puts, one after the other. No statement of the seat is proved here. -/
import Derived.Test.YtckdncmjkloebaaGreatZPutq
namespace Go.Proofs.YtckdncmjkloebaaGreat
set_option linter.unusedVariables false
set_option linter.unusedSimpArgs false
open Go.RowKit

/-! ### what a call of Find gives -/
def zeroI : It := ⟨⟨0, 0, 0⟩, 0, []⟩
theorem fdForm {s : Sto} {root : Int} {q : Ky} {u : Value} {M' : Mem} (h : FdPost s root q u M') : ∃ (y : It) (yv : Value) (code : Int), u = .tuple #[.agg #[.int .u8 y.key.kind, .int .u32 y.key.id, .int .u32 y.key.off, .int .i64 y.ref, yv], .int .i64 code] ∧ BS M' yv y.val ∧
  ((fchk s root).2 = 0 → (fnd s root q = some y ∧ code = 0) ∨ (fnd s root q = none ∧ code = 6 ∧ y = zeroI)) := by
 unfold FdPost at h
 by_cases h0 : (fchk s root).2 = 0
 ·rw [if_pos h0] at h
  revert h
  cases hf : fnd s root q with
  | none => exact fun h => ⟨zeroI, .slice none 0 0, 6, h, BS.nil, fun _ => .inr ⟨rfl, rfl, rfl⟩⟩
  | some y => exact fun ⟨va, vc, h1, h2, h3⟩ => ⟨y, .slice va y.val.length vc, 0, h1, ⟨va, vc, rfl, h2, h3⟩, fun _ => .inl ⟨rfl, rfl⟩⟩
 ·rw [if_neg h0] at h
  exact ⟨zeroI, .slice none 0 0, _, h, BS.nil, fun h => absurd h h0⟩
theorem put_ok_ask {s t : Sto} {root now : Int} {x : It} (h : putF s root x = .ok (t, now)) : putAsk s root x = 0 := by
 unfold putF at h
 split at h
 ·cases h
 ·rename_i hn; exact Classical.not_not.1 hn

/-! ### insertions -/
theorem fil_lt_lt {x : It} {l : List It} : (l.filter fun y => kless y.key x.key).filter (fun y => kless y.key x.key) = l.filter fun y => kless y.key x.key :=
 List.filter_eq_self.2 fun y hy => (List.mem_filter.1 hy).2
theorem kl_asym {a b : Ky} (h : kless a b = true) : kless b a = false := kl_kle h
theorem insL_over {a b : It} (e : a.key = b.key) (l : List It) : insL b (insL a l) = insL b l := by
 unfold insL
 rw [e]
 have h0 : kless a.key b.key = false := by rw [e]; exact kl_irr
 have h1 : kless b.key a.key = false := by rw [e]; exact kl_irr
 have e1 : ((l.filter fun y => kless b.key y.key).filter fun y => kless y.key b.key) = [] := List.filter_eq_nil_iff.2 fun y hy => by
  rw [kl_asym (List.mem_filter.1 hy).2]; decide
 have e2 : ((l.filter fun y => kless y.key b.key).filter fun y => kless b.key y.key) = [] := List.filter_eq_nil_iff.2 fun y hy => by
  rw [kl_asym (List.mem_filter.1 hy).2]; decide
 have e3 : ((l.filter fun y => kless b.key y.key).filter fun y => kless b.key y.key) = l.filter fun y => kless b.key y.key := List.filter_eq_self.2 fun y hy => (List.mem_filter.1 hy).2
 rw [List.filter_append, List.filter_append, List.filter_cons_of_neg (by rw [h0]; decide), List.filter_cons_of_neg (p := fun (z : It) => kless b.key z.key) (by rw [h1]; decide), fil_lt_lt, e1, e2, e3]
 simp
theorem insL_two {a b : It} (h : kless a.key b.key = true) (l : List It) : insL b (insL a l) = insL a (insL b l) := by
 have hba := kl_asym h
 have f1 : ((l.filter fun y => kless y.key a.key).filter fun y => kless y.key b.key) = l.filter fun y => kless y.key a.key := List.filter_eq_self.2 fun y hy => kl_trans (List.mem_filter.1 hy).2 h
 have f2 : ((l.filter fun y => kless y.key a.key).filter fun y => kless b.key y.key) = [] := List.filter_eq_nil_iff.2 fun y hy => by
  rw [kl_asym (kl_trans (List.mem_filter.1 hy).2 h)]; decide
 have f3 : ((l.filter fun y => kless a.key y.key).filter fun y => kless b.key y.key) = l.filter fun y => kless b.key y.key := by
  rw [List.filter_filter]
  refine List.filter_congr fun y _ => ?_
  cases hb : kless b.key y.key
  ·simp
  ·rw [kl_trans h hb]; rfl
 have g1 : ((l.filter fun y => kless y.key b.key).filter fun y => kless y.key a.key) = l.filter fun y => kless y.key a.key := by
  rw [List.filter_filter]
  refine List.filter_congr fun y _ => ?_
  cases hb : kless y.key a.key
  ·simp
  ·rw [kl_trans hb h]; rfl
 have g2 : ((l.filter fun y => kless b.key y.key).filter fun y => kless y.key a.key) = [] := List.filter_eq_nil_iff.2 fun y hy => by
  rw [kl_asym (kl_trans h (List.mem_filter.1 hy).2)]; decide
 have g3 : ((l.filter fun y => kless b.key y.key).filter fun y => kless a.key y.key) = l.filter fun y => kless b.key y.key := List.filter_eq_self.2 fun y hy => kl_trans h (List.mem_filter.1 hy).2
 have m : ((l.filter fun y => kless y.key b.key).filter fun y => kless a.key y.key) = (l.filter fun y => kless a.key y.key).filter fun y => kless y.key b.key := by
  rw [List.filter_filter, List.filter_filter]
  exact List.filter_congr fun y _ => Bool.and_comm _ _
 unfold insL
 simp only [List.filter_append, List.filter_cons, h, hba, if_true, f1, f2, f3, g1, g2, g3, m]
 simp
theorem insL_comm {a b : It} (h : a.key ≠ b.key) (l : List It) : insL b (insL a l) = insL a (insL b l) := by
 cases hk : kless a.key b.key
 ·exact (insL_two (kl_of hk h) l).symm
 ·exact insL_two hk l
theorem insL_mem {x y : It} {l : List It} : y ∈ insL x l ↔ y = x ∨ (y ∈ l ∧ y.key ≠ x.key) := by
 unfold insL
 rw [List.mem_append, List.mem_cons, List.mem_filter, List.mem_filter]
 constructor
 ·rintro (⟨h1, h2⟩ | rfl | ⟨h1, h2⟩)
  ·exact .inr ⟨h1, fun e => by rw [e, kl_irr] at h2; cases h2⟩
  ·exact .inl rfl
  ·exact .inr ⟨h1, fun e => by rw [e, kl_irr] at h2; cases h2⟩
 ·rintro (rfl | ⟨h1, h2⟩)
  ·exact .inr (.inl rfl)
  ·cases hk : kless y.key x.key
   ·exact .inr (.inr ⟨h1, kl_of hk h2⟩)
   ·exact .inl ⟨h1, rfl⟩
theorem insL_len {x : It} : ∀ {l : List It}, Srt l → ((∃ y ∈ l, y.key = x.key) → (insL x l).length = l.length) ∧ ((∀ y ∈ l, y.key ≠ x.key) → (insL x l).length = l.length + 1)
 | [], _ => ⟨fun ⟨_, h, _⟩ => (by cases h), fun _ => rfl⟩
 | a :: l, h => by
  obtain ⟨h1, h2⟩ := List.pairwise_cons.1 h
  have ih := insL_len (x := x) h2
  cases hk : kless a.key x.key
  ·have hn : (l.filter fun y => kless y.key x.key) = [] := List.filter_eq_nil_iff.2 fun y hy hyx => by
    have := kl_trans (h1 y hy) hyx; rw [hk] at this; cases this
   by_cases e : a.key = x.key
   ·have hg : (l.filter fun y => kless x.key y.key) = l := List.filter_eq_self.2 fun y hy => by rw [← e]; exact h1 y hy
    have hl : (insL x (a :: l)).length = l.length + 1 := by
     unfold insL
     rw [List.filter_cons_of_neg (by rw [hk]; decide), List.filter_cons_of_neg (p := fun (z : It) => kless x.key z.key) (by rw [e, kl_irr]; decide), hn, hg]; rfl
    exact ⟨fun _ => hl, fun hh => absurd e (hh a (by simp))⟩
   ·have hx := kl_of hk e
    have hg : (l.filter fun y => kless x.key y.key) = l := List.filter_eq_self.2 fun y hy => kl_trans hx (h1 y hy)
    have hl : (insL x (a :: l)).length = l.length + 2 := by
     unfold insL
     rw [List.filter_cons_of_neg (by rw [hk]; decide), List.filter_cons_of_pos (p := fun (z : It) => kless x.key z.key) hx, hn, hg]; rfl
    refine ⟨fun ⟨y, hy, ey⟩ => ?_, fun _ => hl⟩
    rcases List.mem_cons.1 hy with rfl | hy
    ·exact absurd ey e
    ·have := kl_trans hx (h1 y hy); rw [ey, kl_irr] at this; cases this
  ·have hxa := kl_asym hk
   have hl : insL x (a :: l) = a :: insL x l := by
    unfold insL
    rw [List.filter_cons_of_pos (p := fun (z : It) => kless z.key x.key) hk, List.filter_cons_of_neg (p := fun (z : It) => kless x.key z.key) (by rw [hxa]; decide)]; rfl
   have hne : a.key ≠ x.key := fun e => by rw [e, kl_irr] at hk; cases hk
   rw [hl]
   refine ⟨fun ⟨y, hy, ey⟩ => ?_, fun hh => ?_⟩
   ·rcases List.mem_cons.1 hy with rfl | hy
    ·exact absurd ey hne
    ·rw [List.length_cons, ih.1 ⟨y, hy, ey⟩]; rfl
   ·rw [List.length_cons, ih.2 fun y hy => hh y (by simp [hy])]; rfl

/-! ### puts -/
/-- a tree that is well, and counted often enough -/
def Good (s : Sto) (root : Int) : Prop := (fchk s root).2 = 0 ∧ EnP s [root] []
theorem put_good {s t : Sto} {root now : Int} {x : It} (h : Good s root) (hk : keyOk x.key) (hr : x.ref = 0) (hp : putF s root x = .ok (t, now)) : Good t now ∧ allR t now = insL x (allR s root) := by
 have hask := put_ok_ask hp
 obtain ⟨hf, hic, _⟩ := putAsk_ok hask
 have he : heldF x.ref = [] := if_neg (by omega)
 rcases put_out (R := []) (fchk_ok hf).1 hf hic hk (by rw [he]; exact h.2) (fun _ h => by cases h) with ⟨e, k1, _⟩ | ⟨t', now', S, S', k1, k2, k3⟩
 ·rw [hp] at k1; cases k1
 ·rw [hp] at k1
  cases k1
  exact ⟨⟨k2.chk, k2.enp k3 (fun _ h => by cases h)⟩, by rw [allR_pos k2.chk, allR_pos hf, k2.all]⟩
/-- how many items there are -/
theorem put_len {s t : Sto} {root now : Int} {x : It} {R : List Int} {S S' : List Nat} (h : PutOk s t root now x R S S') (hf : (fchk s root).2 = 0) : (allR t now).length = (allR s root).length + (if fnd s root x.key = none then 1 else 0) := by
 rw [allR_pos h.chk, h.all, ← allR_pos hf]
 obtain ⟨h1, h2⟩ := insL_len (x := x) (allR_srt hf)
 split
 ·rename_i hn
  rw [h2]
  intro y hy e
  rw [allR_pos hf] at hy
  have := fnd_is hf hy
  rw [e, hn] at this; cases this
 ·rename_i hn
  rw [h1, Nat.add_zero]
  cases hf2 : fnd s root x.key with
  | none => exact absurd hf2 hn
  | some y =>
   obtain ⟨h3, h4⟩ := fnd_back hf hf2
   exact ⟨y, by rw [allR_pos hf]; exact h3, h4⟩
theorem put_found {s t : Sto} {root now : Int} {x : It} {R : List Int} {S S' : List Nat} (h : PutOk s t root now x R S S') (hf : (fchk s root).2 = 0) : fnd t now x.key = some x := by
 refine fnd_is h.chk ?_
 rw [h.all]; exact insL_mem.2 (.inl rfl)
theorem put_others {s t : Sto} {root now : Int} {x : It} {R : List Int} {S S' : List Nat} (h : PutOk s t root now x R S S') (hf : (fchk s root).2 = 0) {q : Ky} (hq : q ≠ x.key) : fnd t now q = fnd s root q := by
 cases h1 : fnd s root q with
 | some y =>
  obtain ⟨h2, h3⟩ := fnd_back hf h1
  have := fnd_is h.chk (x := y) (by rw [h.all]; exact insL_mem.2 (.inr ⟨h2, by rw [h3]; exact hq⟩))
  rw [h3] at this; exact this
 | none =>
  cases h2 : fnd t now q with
  | none => rfl
  | some y =>
   obtain ⟨h3, h4⟩ := fnd_back h.chk h2
   rw [h.all] at h3
   rcases insL_mem.1 h3 with rfl | ⟨h5, _⟩
   ·exact absurd h4.symm hq
   ·have := fnd_is hf h5
    rw [h4, h1] at this; cases this
end Go.Proofs.YtckdncmjkloebaaGreat
