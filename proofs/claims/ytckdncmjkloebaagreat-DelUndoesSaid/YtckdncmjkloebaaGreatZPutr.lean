/- Insertions into a list; what a call of Find gives; puts, one after the other. No statement of the seat is proved here. -/
import Derived.Test.YtckdncmjkloebaaGreatZPutq
namespace Go.Proofs.YtckdncmjkloebaaGreat
set_option linter.unusedVariables false
set_option linter.unusedSimpArgs false
open Go.RowKit
theorem put_ok_ask {s t : Sto} {root now : Int} {x : It} (h : putF s root x = .ok (t, now)) : wFt s root x = 0 := by
 unfold putF at h
 split at h
 ·cases h
 ·rename_i hn; exact Classical.not_not.1 hn
theorem insL_mem {x y : It} {l : List It} : y ∈ wGr x l ↔ y = x ∨ (y ∈ l ∧ y.key ≠ x.key) := by
 unfold wGr
 rw [List.mem_append, List.mem_cons, List.mem_filter, List.mem_filter]
 constructor
 ·rintro (⟨h1, h2⟩ | rfl | ⟨h1, h2⟩)
  ·exact .inr ⟨h1, fun e => by rw [e, wJm] at h2; cases h2⟩
  ·exact .inl rfl
  ·exact .inr ⟨h1, fun e => by rw [e, wJm] at h2; cases h2⟩
 ·rintro (rfl | ⟨h1, h2⟩)
  ·exact .inr (.inl rfl)
  ·cases hk : wBe y.key x.key
   ·exact .inr (.inr ⟨h1, kl_of hk h2⟩)
   ·exact .inl ⟨h1, rfl⟩
def Good (s : Sto) (root : Int) : Prop := (wCj s root).2 = 0 ∧ EnP s [root] []
theorem put_good {s t : Sto} {root now : Int} {x : It} (h : Good s root) (hk : wDk x.key) (hr : x.ref = 0) (hp : putF s root x = .ok (t, now)) : Good t now ∧ wJc t now = wGr x (wJc s root) := by
 have hask := put_ok_ask hp
 obtain ⟨hf, hic, _⟩ := putAsk_ok hask
 have he : heldF x.ref = [] := if_neg (by omega)
 rcases put_out (R := []) (wCb hf).1 hf hic hk (by rw [he]; exact h.2) (fun _ h => by cases h) with ⟨e, k1, _⟩ | ⟨t', now', S, S', k1, k2, k3⟩
 ·rw [hp] at k1; cases k1
 ·rw [hp] at k1
  cases k1
  exact ⟨⟨k2.chk, k2.enp k3 (fun _ h => by cases h)⟩, by rw [wEm k2.chk, wEm hf, k2.all]⟩
end Go.Proofs.YtckdncmjkloebaaGreat
