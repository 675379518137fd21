/- THE WALKING LAYER, one part more: a made slice that is read from then on. No statement of the seat is proved here. -/
import Derived.Test.YtckdncmjkloebaaZAsk
import Derived.Test.YtckdncmjkloebaaZRange
namespace Go.Proofs.Ytckdncmjkloebaa
set_option linter.unusedVariables false
set_option linter.unusedSimpArgs false
open Go.RowKit
section
variable {P : Program} {ops : Array Oper} {N : Fs} {F : Fr} {M : Mem} {L : Lc} {o : Oper}
theorem HF.monoM {E : Ent} {K K' : Value → Mem → Lc → Prop} (h : HF P ops N F E M L o K) (hk : ∀ w v M' L', K v M' L' → St E M' L' w → ∃ M2 L2, St E M2 L2 w ∧ K' v M2 L2) : HF P ops N F E M L o K' := fun a w ha hw =>
 ⟨(h a w ha hw).1, fun Q => Oper.wpIn_mono (fun a' w' ⟨v, M', L', e, hs, hK⟩ => by
  obtain ⟨M2, L2, h1, h2⟩ := hk w' v M' L' hK hs
  exact ⟨v, M2, L2, e, h1, h2⟩) ((h a w ha hw).2 Q)⟩
theorem hBuildSliceM {W : World} {M0 : Mem} {t e : TypeId} {n : Nat} {ps : List (Nat × Operand)} {vs : List (Nat × Value)} {sz by_ : Nat} {z cs : List Value} (hg : gd ops F o = some true) (ho : o.op = .buildSlice t n ps.toArray) (hv : evp F ps = some vs) [ht : Und P t (.slice e)] [hl : Lay P e sz by_ z]
  (hc : fillL (fun i => some (i * sz, sz)) (List.replicate n z).flatten vs = some cs) (hsmall : Nat.ble (n * sz) 16777216 = true) (hpos : Nat.blt 0 sz = true) :
  HF P ops N F ⟨W, [], M0⟩ M L o (fun v M' L' => ∃ b, v = .slice (some ⟨b, 0, none⟩) n n ∧ L' = L ∧ MLe M M' ∧ M' b = some (.cells cs.toArray e (0, 0))) :=
 (wAq (E := ⟨W, [], M0⟩) hg ho hv hc hsmall hpos).monoM fun w v M' L' ⟨b, e1, e2, e3⟩ hs => by
  subst e2; subst e3
  obtain ⟨h1, h2, h3⟩ := St.freeze' (List.not_mem_nil) hs
  exact ⟨_, _, h1, b, e1, rfl, h2, h3⟩
end
def zeroI : It := ⟨⟨0, 0, 0⟩, 0, []⟩
theorem fdForm {s : Sto} {root : Int} {q : Ky} {u : Value} {M' : Mem} (h : FdPost s root q u M') : ∃ (y : It) (yv : Value) (code : Int), u = .tuple #[.agg #[.int .u8 y.key.kind, .int .u32 y.key.id, .int .u32 y.key.off, .int .i64 y.ref, yv], .int .i64 code] ∧ BS M' yv y.val ∧
  ((wDm s root).2 = 0 → (fnd s root q = some y ∧ code = 0) ∨ (fnd s root q = none ∧ code = 6 ∧ y = zeroI)) := by
 unfold FdPost at h
 by_cases h0 : (wDm s root).2 = 0
 ·rw [if_pos h0] at h
  revert h
  cases hf : fnd s root q with
  | none => exact fun h => ⟨zeroI, .slice none 0 0, 6, h, BS.nil, fun _ => .inr ⟨rfl, rfl, rfl⟩⟩
  | some y => exact fun ⟨va, vc, h1, h2, h3⟩ => ⟨y, .slice va y.val.length vc, 0, h1, ⟨va, vc, rfl, h2, h3⟩, fun _ => .inl ⟨rfl, rfl⟩⟩
 ·rw [if_neg h0] at h
  exact ⟨zeroI, .slice none 0 0, _, h, BS.nil, fun h => absurd h h0⟩
end Go.Proofs.Ytckdncmjkloebaa
