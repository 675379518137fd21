/- What the statements on taking out need of the law, without a program. No statement of the seat is proved here. -/
import Derived.Test.YtckdncmjkloebaaGreatZAlived
import Derived.Test.YtckdncmjkloebaaGreatZDenough
import Derived.Test.YtckdncmjkloebaaGreatZPutr
namespace Go.Proofs.YtckdncmjkloebaaGreat
set_option linter.unusedVariables false
set_option linter.unusedSimpArgs false
open Go.RowKit
theorem wGn (s : Sto) (roots : List Int) (v w : Value) (M : Mem) (h : ST M v s) (hst : wCx s) (h1 : IS M w roots) (hn1 : roots.length ≤ 100000) (hroots : ∀ r ∈ roots, (wCj s r).2 = 0) :
  SpecL Tryz.prog 29 #[v, w] M [] fun u M' L' => L' = [] ∧ ((u = .bool true ∧ EnP s roots []) ∨ (u = .bool false ∧ ¬ EnP s roots [])) :=
 (denough s roots v w M h hst h1 hn1 hroots).mono fun u M' L' ⟨⟨b, e, hb⟩, hl⟩ => by
  refine ⟨hl, ?_⟩
  cases b
  ·exact .inr ⟨e, fun he => by have := hb.2 he; cases this⟩
  ·exact .inl ⟨e, hb.1 rfl⟩
theorem denough_yes (s : Sto) (roots : List Int) (v w : Value) (M : Mem) (h : ST M v s) (hst : wCx s) (h1 : IS M w roots) (hn1 : roots.length ≤ 100000) (hroots : ∀ r ∈ roots, (wCj s r).2 = 0) (he : EnP s roots []) :
  SpecL Tryz.prog 29 #[v, w] M [] fun u M' L' => u = .bool true ∧ L' = [] :=
 (wGn s roots v w M h hst h1 hn1 hroots).mono fun u M' L' ⟨hl, h⟩ => ⟨h.elim (fun h => h.1) fun h => absurd he h.2, hl⟩
theorem delF_fnd {s t : Sto} {root now : Int} {q : Ky} (h : delF s root q = .ok (t, now)) : (wCj s root).2 = 0 ∧ ∃ y, fnd s root q = some y := by
 by_cases hf : (wCj s root).2 = 0
 ·refine ⟨hf, ?_⟩
  cases hfd : fnd s root q with
  | none => rw [delF_no hf hfd] at h; cases h
  | some y => exact ⟨y, rfl⟩
 ·rw [delF_bad hf] at h; cases h
theorem del_out {s : Sto} {root : Int} {R : List Int} {q : Ky} {y : It} (hf : (wCj s root).2 = 0) (hfd : fnd s root q = some y) (he : EnP s (root :: R) []) (hr : ∀ r ∈ R, (wCj s r).2 = 0) :
  (∃ e, delF s root q = .error e ∧ (e = 9 ∨ e = 70)) ∨ ∃ t now S S', delF s root q = .ok (t, now) ∧ DelOk s t root now q R S S' ∧ ∀ r ∈ R, r.toNat ∈ S := by
 obtain ⟨S, h1, h2⟩ := he.en (wCb hf).1 fun r hrr => by
  rcases List.mem_cons.1 hrr with rfl | h
  ·exact hf
  ·exact hr r h
 rw [List.append_nil] at h1
 rcases del_law hf hfd h1 (h2 root (by simp)) with h | ⟨t, now, S', k1, k2⟩
 ·exact .inl h
 ·exact .inr ⟨t, now, S, S', k1, k2, fun r hrr => h2 r (by simp [hrr])⟩
theorem del_err {s : Sto} {root e : Int} {R : List Int} {q : Ky} (hf : (wCj s root).2 = 0) (he : EnP s (root :: R) []) (hr : ∀ r ∈ R, (wCj s r).2 = 0) (h : delF s root q = .error e) : (e = 6 ∧ fnd s root q = none) ∨ ((e = 9 ∨ e = 70) ∧ ∃ y, fnd s root q = some y) := by
 cases hfd : fnd s root q with
 | none => rw [delF_no hf hfd] at h; cases h; exact .inl ⟨rfl, rfl⟩
 | some y =>
  rcases del_out hf hfd he hr with ⟨e', k1, k2⟩ | ⟨t, now, S, S', k1, _⟩
  ·rw [h] at k1; cases k1; exact .inr ⟨k2, y, rfl⟩
  ·rw [h] at k1; cases k1
theorem del_ok {s t : Sto} {root now : Int} {R : List Int} {q : Ky} (he : EnP s (root :: R) []) (hr : ∀ r ∈ R, (wCj s r).2 = 0) (h : delF s root q = .ok (t, now)) : ∃ S S', DelOk s t root now q R S S' ∧ (∀ r ∈ R, r.toNat ∈ S) ∧ EnP t (now :: R) [] := by
 obtain ⟨hf, y, hfd⟩ := delF_fnd h
 rcases del_out hf hfd he hr with ⟨e', k1, _⟩ | ⟨t', now', S, S', k1, k2, k3⟩
 ·rw [h] at k1; cases k1
 ·rw [h] at k1; cases k1
  refine ⟨S, S', k2, k3, k2.en.enp fun r hrr => ?_⟩
  rcases List.mem_cons.1 hrr with rfl | hm
  ·exact ⟨k2.inS, k2.chk⟩
  ·obtain ⟨m1, _, m3⟩ := k2.other r hm (k3 r hm) (hr r hm)
   exact ⟨m3, by rw [m1]; exact hr r hm⟩
theorem wKj {s t : Sto} {root now : Int} {q : Ky} (h : Good s root) (hp : delF s root q = .ok (t, now)) : Good t now ∧ wJc t now = (wJc s root).filter (wEt q) := by
 obtain ⟨S, S', h1, _, h3⟩ := del_ok h.2 (fun _ h => by cases h) hp
 exact ⟨⟨h1.chk, h3⟩, by rw [wEm h1.chk, wEm h.1, h1.all]⟩
theorem filter_len {q : Ky} : ∀ {l : List It}, Srt l → (∃ y ∈ l, y.key = q) → (l.filter (wEt q)).length + 1 = l.length := fun {l} hs ⟨y, hy, e⟩ => by
 obtain ⟨A, B, rfl⟩ := List.append_of_mem hy
 have h1 := List.pairwise_append.1 hs
 have h2 := List.pairwise_cons.1 h1.2.1
 have hy0 : wEt q y = false := by unfold wEt; rw [decide_eq_false]; exact fun h => h e
 rw [List.filter_append, List.filter_cons_of_neg (by rw [hy0]; decide), wDp fun z hz => kl_ne (by have := h1.2.2 z hz y (by simp); rwa [e] at this), wDp fun z hz => (kl_ne (by have := h2.1 z hz; rwa [e] at this)).symm]
 simp only [List.length_append, List.length_cons]; omega
theorem del_len {s t : Sto} {root now : Int} {q : Ky} (h : Good s root) (hp : delF s root q = .ok (t, now)) : (wJc t now).length + 1 = (wJc s root).length := by
 obtain ⟨hf, y, hfd⟩ := delF_fnd hp
 rw [(wKj h hp).2]
 obtain ⟨h1, h2⟩ := fnd_back hf hfd
 exact filter_len (allR_srt hf) ⟨y, by rw [wEm hf]; exact h1, h2⟩
theorem fnd_none {s : Sto} {root : Int} {q : Ky} (hf : (wCj s root).2 = 0) (h : ∀ y ∈ wJc s root, y.key ≠ q) : fnd s root q = none := by
 cases hfd : fnd s root q with
 | none => rfl
 | some y =>
  obtain ⟨h1, h2⟩ := fnd_back hf hfd
  exact absurd h2 (h y (by rw [wEm hf]; exact h1))
theorem notK_comm {p q : Ky} (l : List It) : (l.filter (wEt p)).filter (wEt q) = (l.filter (wEt q)).filter (wEt p) := by
 rw [List.filter_filter, List.filter_filter]; congr 1; funext x; exact Bool.and_comm _ _
theorem notK_ins {x : It} {l : List It} (h : ∀ y ∈ l, y.key ≠ x.key) (hs : Srt l) : (wGr x l).filter (wEt x.key) = l := by
 unfold wGr
 have e0 : wEt x.key x = false := by unfold wEt; rw [decide_eq_false]; exact fun h => h rfl
 rw [List.filter_append, List.filter_cons_of_neg (by rw [e0]; decide), wDp (l := l.filter _) fun z hz => h z (List.mem_filter.1 hz).1, wDp (l := l.filter _) fun z hz => h z (List.mem_filter.1 hz).1]
 have h2 := srt_split (b := x.key) hs
 conv => rhs; rw [h2]
 congr 1
 refine List.filter_congr fun z hz => ?_
 cases h1 : wBe z.key x.key with
 | true => rw [wKo h1]; rfl
 | false =>
  have := kl_of h1 (h z hz)
  rw [this]; rfl
theorem ins_notK {x : It} {l : List It} (hs : Srt l) (hx : x ∈ l) : wGr x (l.filter (wEt x.key)) = l := by
 obtain ⟨A, B, rfl⟩ := List.append_of_mem hx
 have h1 := List.pairwise_append.1 hs
 have h2 := List.pairwise_cons.1 h1.2.1
 have hA : ∀ z ∈ A, wBe z.key x.key = true := fun z hz => h1.2.2 z hz x (by simp)
 have hB : ∀ z ∈ B, wBe x.key z.key = true := fun z hz => h2.1 z hz
 have e0 : wEt x.key x = false := by unfold wEt; rw [decide_eq_false]; exact fun h => h rfl
 rw [List.filter_append, List.filter_cons_of_neg (by rw [e0]; decide), wDp (l := A) fun z hz => kl_ne (hA z hz), wDp (l := B) fun z hz => (kl_ne (hB z hz)).symm]
 have := wKf (x := x) (A := A) (B := []) (C := B) hA hB
 rw [List.append_nil] at this
 rw [this]; simp [wGr]
theorem key_not {q : Ky} {l : List It} : ∀ y ∈ l.filter (wEt q), y.key ≠ q := fun y hy => of_decide_eq_true (List.mem_filter.1 hy).2
end Go.Proofs.YtckdncmjkloebaaGreat
