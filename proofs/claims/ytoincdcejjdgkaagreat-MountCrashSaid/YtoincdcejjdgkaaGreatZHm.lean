/- THE WALKING LAYER: maps from int to int; a queue of ints. No statement of the seat is proved here. -/
import Derived.Test.YtoincdcejjdgkaaGreatZHk
import Derived.MapKept
import Derived.ArgAppend
namespace Go.Proofs.YtoincdcejjdgkaaGreat
set_option linter.unusedVariables false
set_option linter.unusedSimpArgs false
open Go.RowKit
theorem St.setObj {E : Ent} {M : Mem} {w w' : World} {b : Nat} {o o' : Obj} {A B : Lc} (h : St E M (A ++ (b, o) :: B) w) (hos : w'.os = w.os) (ht : w'.tape = w.tape) (ho : w'.output = w.output) (hs : w'.heap.size = w.heap.size)
  (hb' : w'.heap[b]? = some o') (hr : ∀ k, k ≠ b → w'.heap[k]? = w.heap[k]?) : St E M (A ++ (b, o') :: B) w' := by
 have hb := h.locs (b, o) (by simp)
 have hne : ∀ p ∈ A ++ B, p.1 ≠ b := by
  intro p hp he
  have hn := h.nodup
  rw [List.map_append, List.map_cons] at hn
  have := (List.nodup_append.1 hn)
  rcases List.mem_append.1 hp with hp | hp
  ·exact this.2.2 p.1 (List.mem_map.2 ⟨p, hp, rfl⟩) b (by simp) he
  ·exact (List.nodup_cons.1 this.2.1).1 (List.mem_map.2 ⟨p, hp, he⟩)
 exact
  {os := hos.trans h.os, tape := ht.trans h.tape, output := ho.trans h.output, size := by rw [hs]; exact h.size
   same := fun k hk hx => by
    have : k ≠ b := fun e => by subst e; exact hb.2.1.elim (fun h => by omega) hx
    rw [hr k this]; exact h.same k hk hx
   fresh := h.fresh
   agree := fun k x hx => by
    have : k ≠ b := fun e => by subst e; rw [hb.2.2] at hx; cases hx
    rw [hr k this]; exact h.agree k x hx
   locs := fun p hp => by
    rcases List.mem_append.1 hp with hp | hp
    ·have hp' := h.locs p (by simp [hp])
     exact ⟨by rw [hr _ (hne p (by simp [hp]))]; exact hp'.1, hp'.2⟩
    ·rcases List.mem_cons.1 hp with rfl | hp
     ·exact ⟨hb', hb.2⟩
     ·have hp' := h.locs p (by simp [hp])
      exact ⟨by rw [hr _ (hne p (by simp [hp]))]; exact hp'.1, hp'.2⟩
   nodup := by have := h.nodup; simpa [List.map_append] using this }
section
variable {P : Program} {ops : Array Oper} {N : Fs} {F : Fr} {E : Ent} {M : Mem} {L : Lc} {o : Oper}
def Que (v : Value) (R : Lc) (t : TypeId) (xs : List Value) : Prop := ∃ g off cap cur, v = .slice (some ⟨g, off, none⟩) xs.length cap ∧ R = [(g, .cells cur t (0, 0))] ∧ off + cap ≤ cur.size ∧ xs.length ≤ cap ∧ cap ≤ maxLen ∧ (cur.toList.drop off).take xs.length = xs
theorem Que.one {g : Nat} {t : TypeId} {v : Value} : Que (.slice (some ⟨g, 0, none⟩) 1 1) [(g, .cells [v].toArray t (0, 0))] t [v] := ⟨g, 0, 1, [v].toArray, rfl, rfl, by simp, by simp, by decide, by simp⟩
theorem Que.tail {g off cap : Nat} {R : Lc} {t : TypeId} {x : Value} {xs : List Value} {n : Nat} (h : Que (.slice (some ⟨g, off, none⟩) n cap) R t (x :: xs)) : Que (.slice (slA (some ⟨g, off, none⟩) 1 cap 1) (n - 1) (cap - 1)) R t xs := by
 obtain ⟨g', off', cap', cur, e, rfl, h1, h2, h3, h4⟩ := h
 simp only [Value.slice.injEq, Option.some.injEq, Addr.mk.injEq, true_and, and_true] at e
 obtain ⟨⟨rfl, rfl⟩, rfl, rfl⟩ := e
 simp only [List.length_cons] at h2 h4 ⊢
 by_cases hc : cap = 1
 ·subst hc
  obtain rfl : xs = [] := List.eq_nil_of_length_eq_zero (by omega)
  exact ⟨g, off, 0, cur, rfl, rfl, by omega, by simp, by decide, by simp⟩
 ·have hx : (cur.toList.drop (off + 1)).take xs.length = xs := by
   have h5 : (cur.toList.drop off).drop 1 = cur.toList.drop (off + 1) := by rw [List.drop_drop]
   rw [← h5]
   generalize cur.toList.drop off = d at h4
   cases d with
   | nil => simp at h4
   | cons y ys => simp only [List.take_succ_cons, List.cons.injEq] at h4; simpa using h4.2
  exact ⟨g, off + 1, cap - 1, cur, by rw [wBt (by omega)]; simp, rfl, by omega, by omega, by omega, hx⟩
theorem Que.cj {g off n cap : Nat} {R : Lc} {t : TypeId} {xs : List Value} (h : Que (.slice (some ⟨g, off, none⟩) n cap) R t xs) {L : Lc} (hR : ∀ p ∈ R, p ∈ L) {M : Mem} {i : Nat} {x : Value} (hx : xs[i]? = some x) : CJ M L g (off + i) x := by
 obtain ⟨g', off', cap', cur, e, rfl, h1, h2, h3, h4⟩ := h
 simp only [Value.slice.injEq, Option.some.injEq, Addr.mk.injEq, true_and, and_true] at e
 obtain ⟨⟨rfl, rfl⟩, rfl, rfl⟩ := e
 refine ⟨cur, t, (0, 0), .inr (hR _ (by simp)), ?_⟩
 have hi : i < xs.length := (List.getElem?_eq_some_iff.1 hx).1
 rw [← h4, List.getElem?_take_of_lt hi, List.getElem?_drop] at hx
 simpa using hx
end
end Go.Proofs.YtoincdcejjdgkaaGreat
