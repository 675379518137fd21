/- Lists of calls and of replies in memory. No statement of the seat is proved here. -/
import Derived.Test.YtdjaehgadehnfaaGreatDoorDo
namespace Go.Proofs.YtdjaehgadehnfaaGreatDoor
set_option linter.unusedVariables false
set_option linter.unusedSimpArgs false
open Go.RowKit Go.MapKept

theorem flat_at {α : Type} (f : α → List Value) (m : Nat) (hf : ∀ x, (f x).length = m) : ∀ (qs : List α) (i : Nat) (h : i < qs.length) (j : Nat), j < m → (qs.flatMap f)[i * m + j]? = (f qs[i])[j]?
  | q :: qs, 0, h, j, hj => by
    rw [List.flatMap_cons, Nat.zero_mul, Nat.zero_add, List.getElem?_append_left (by rw [hf]; exact hj)]; rfl
  | q :: qs, i + 1, h, j, hj => by
    rw [List.flatMap_cons, List.getElem?_append_right (by rw [hf, Nat.add_mul]; omega), hf, show (i + 1) * m + j - m = i * m + j by rw [Nat.add_mul]; omega, flat_at f m hf qs i (by simpa using h) j hj]; rfl
theorem flatm_len {α : Type} (f : α → List Value) (m : Nat) (hf : ∀ x, (f x).length = m) : ∀ (qs : List α), (qs.flatMap f).length = qs.length * m
  | [] => by simp
  | q :: qs => by rw [List.flatMap_cons, List.length_append, hf, flatm_len f m hf qs, List.length_cons, Nat.add_mul]; omega
/-! calls -/
abbrev QC := CL × Option Addr × Nat
def cF (q : QC) : List Value := clCells q.1 q.2.1 q.2.2
theorem cF_len (q : QC) : (cF q).length = 7 := rfl
def CsP (M : Mem) (a : Option Addr) (qs : List QC) : Prop := SM M a (qs.flatMap cF) ∧ ∀ q ∈ qs, CallOk M q.1 q.2.1 q.2.2 ∧ q.1.path.size ≤ 100000 ∧ q.1.other.size ≤ 100000
theorem CsP.mono {M M' : Mem} {a : Option Addr} {qs : List QC} (h : CsP M a qs) (hM : MLe M M') : CsP M' a qs := ⟨h.1.mono hM, fun q hq => ⟨(h.2 q hq).1.mono hM, (h.2 q hq).2⟩⟩
theorem flat_sm {α : Type} {f : α → List Value} {m : Nat} (hf : ∀ x, (f x).length = m) {M : Mem} {a : Option Addr} {qs : List α} (h : SM M a (qs.flatMap f)) {i : Nat} (hi : i < qs.length) (hm : 0 < m) : ∃ b off, a = some ⟨b, off, none⟩ ∧ ∀ j v, (f qs[i])[j]? = some v → CM M b (off + i * m + j) v := by
  obtain ⟨b, off, e, hx⟩ := h.open (fun e => by
    have := flatm_len f m hf qs
    rw [e, List.length_nil] at this
    have h2 : 0 < qs.length * m := Nat.mul_pos (by omega) hm
    omega)
  refine ⟨b, off, e, fun j v hv => ?_⟩
  have hj : j < m := by
    have := (List.getElem?_eq_some_iff.1 hv).1
    rw [hf] at this; exact this
  have := hx (i * m + j) v (by rw [flat_at f m hf qs i hi j hj]; exact hv)
  rw [Nat.add_assoc]; exact this
/-! replies -/
def BsP (M : Mem) (v : Value) (xs : List By) : Prop := ∃ a c, v = .slice a xs.length c ∧ xs.length ≤ c ∧ c ≤ maxLen ∧ SM M a (bcells xs)
def NsP (M : Mem) (v : Value) (l : List Str) : Prop := ∃ a c, v = .slice a l.length c ∧ l.length ≤ c ∧ c ≤ maxLen ∧ SM M a (l.map Value.string)
theorem BsP.mono {M M' : Mem} {v : Value} {xs : List By} (h : BsP M v xs) (hM : MLe M M') : BsP M' v xs := by obtain ⟨a, c, h1, h2, h3, h4⟩ := h; exact ⟨a, c, h1, h2, h3, h4.mono hM⟩
theorem NsP.mono {M M' : Mem} {v : Value} {l : List Str} (h : NsP M v l) (hM : MLe M M') : NsP M' v l := by obtain ⟨a, c, h1, h2, h3, h4⟩ := h; exact ⟨a, c, h1, h2, h3, h4.mono hM⟩
abbrev QR := RP × Value × Value
def rF (q : QR) : List Value := rpc q.1 q.2.1 q.2.2
theorem rF_len (q : QR) : (rF q).length = 8 := rfl
def RsP (M : Mem) (a : Option Addr) (ps : List QR) : Prop := SM M a (ps.flatMap rF) ∧ ∀ p ∈ ps, BsP M p.2.1 p.1.data ∧ NsP M p.2.2 p.1.names
theorem RsP.mono {M M' : Mem} {a : Option Addr} {qs : List QR} (h : RsP M a qs) (hM : MLe M M') : RsP M' a qs := ⟨h.1.mono hM, fun q hq => ⟨(h.2 q hq).1.mono hM, (h.2 q hq).2.mono hM⟩⟩
theorem runI_snoc {ins : PS → Int → Int → Int → Bool} {part : Str → Option Wy} : ∀ {l : List CL} {S : PS} {c : CL}, runI ins part S (l ++ [c]) = ((doI ins part (runI ins part S l).1 c).1, (runI ins part S l).2 ++ [(doI ins part (runI ins part S l).1 c).2])
  | [], S, c => rfl
  | d :: l, S, c => by rw [List.cons_append, runI, runI_snoc, runI]; rfl
theorem runI_append {ins : PS → Int → Int → Int → Bool} {part : Str → Option Wy} : ∀ {l m : List CL} {S : PS}, runI ins part S (l ++ m) = ((runI ins part (runI ins part S l).1 m).1, (runI ins part S l).2 ++ (runI ins part (runI ins part S l).1 m).2)
  | [], m, S => rfl
  | d :: l, m, S => by rw [List.cons_append, runI, runI_append, runI]; rfl
theorem runI_len {ins : PS → Int → Int → Int → Bool} {part : Str → Option Wy} : ∀ {l : List CL} {S : PS}, (runI ins part S l).2.length = l.length
  | [], S => rfl
  | d :: l, S => by rw [runI, List.length_cons, runI_len, List.length_cons]
theorem runI_take {ins : PS → Int → Int → Int → Bool} {part : Str → Option Wy} {l : List CL} {S : PS} {i : Nat} (h : i < l.length) : runI ins part S (l.take (i + 1)) = ((doI ins part (runI ins part S (l.take i)).1 l[i]).1, (runI ins part S (l.take i)).2 ++ [(doI ins part (runI ins part S (l.take i)).1 l[i]).2]) := by
  rw [List.take_succ_eq_append_getElem h, runI_snoc]
section
variable {P : Program} {ops : Array Oper} {N : Fs} {Q : Exit → Act → World → Prop} {F : Fr} {E : Ent} {M M0 : Mem} {L : Lc} {W : World} {X : List Nat} {rest : List Oper}
theorem Byt.freeze {v : Value} {R : Lc} {xs : List By} (ho : Byt v R xs) (hg : ∀ p ∈ R, p.1 ∉ X) {w : World} (h : St ⟨W, X, M0⟩ M (R ++ L) w) : ∃ M', MLe M M' ∧ BsP M' v xs ∧ St ⟨W, X, M0⟩ M' L w := by
  rcases ho with ⟨rfl, rfl, rfl⟩ | ⟨g, cap, cur, rfl, rfl, h2, h3, h4, h5⟩
  · exact ⟨M, MLe.refl _, ⟨none, 0, rfl, Nat.le_refl _, Nat.zero_le _, .inl rfl⟩, h⟩
  · obtain ⟨k1, k2, k3⟩ := St.freeze' (hg (g, .cells cur 5 (0, 0)) (by simp)) h
    refine ⟨_, k2, ⟨_, cap, rfl, h2, h4, .inr ⟨g, 0, rfl, fun i u hu => ⟨cur, _, (0, 0), k3, ?_⟩⟩⟩, k1⟩
    rw [← h5, List.getElem?_take] at hu
    split at hu
    · simpa using hu
    · cases hu
theorem jl_byt {v : Value} {R L2 : Lc} {xs : List By} (ho : Byt v R xs) [hp : Pick R L L2] (hg : ∀ p ∈ R, p.1 ∉ X)
    (h : ∀ M', MLe M M' → BsP M' v xs → JL P ops N Q rest F ⟨W, X, M0⟩ M' L2) : JL P ops N Q rest F ⟨W, X, M0⟩ M L := by
  intro a w ha hw
  obtain ⟨M', k1, k2, k5⟩ := ho.freeze hg (hw.perm hp.perm)
  exact h M' k1 k2 a w ha k5
end
theorem Nms.cap {v : Value} {R : Lc} {l : List Str} (h : Nms v R l) : ∃ a c, v = .slice a l.length c ∧ c ≤ maxLen := by
  rcases h.2 with ⟨rfl, h0, _⟩ | ⟨g, cap, cur, rfl, _, _, h4, _⟩
  · exact ⟨none, 0, by rw [h0], Nat.zero_le _⟩
  · exact ⟨_, cap, rfl, h4⟩
theorem Own.capLe {a : Option Addr} {c : Nat} {R : Lc} {e : TypeId} {sz n : Nat} {xs : List Value} (h : Own (.slice a n c) R e sz n xs) : c ≤ maxLen := by
  rcases h.2 with ⟨h1, _, _⟩ | ⟨g, cap, cur, h1, _, _, h4, _⟩
  · simp only [Value.slice.injEq] at h1; obtain ⟨_, _, rfl⟩ := h1; exact Nat.zero_le _
  · simp only [Value.slice.injEq] at h1; obtain ⟨_, _, rfl⟩ := h1; exact h4
end Go.Proofs.YtdjaehgadehnfaaGreatDoor
