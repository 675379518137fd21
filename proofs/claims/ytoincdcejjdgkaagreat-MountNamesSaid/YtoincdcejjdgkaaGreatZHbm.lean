/- THE WALKING LAYER, one part more: a made slice that is read from then on. No statement of the seat is proved here. -/
import Derived.Test.YtoincdcejjdgkaaGreatZAsk
import Derived.Test.YtoincdcejjdgkaaGreatZTree
namespace Go.Proofs.YtoincdcejjdgkaaGreat
set_option linter.unusedVariables false
set_option linter.unusedSimpArgs false
open Go.RowKit
section
variable {P : Program} {ops : Array Oper} {N : Fs} {F : Fr} {M : Mem} {L : Lc} {o : Oper}
theorem HF.monoM {E : Ent} {K K' : Value → Mem → Lc → Prop} (h : HF P ops N F E M L o K) (hk : ∀ w v M' L', K v M' L' → St E M' L' w → ∃ M2 L2, St E M2 L2 w ∧ K' v M2 L2) : HF P ops N F E M L o K' := fun a w ha hw =>
 ⟨(h a w ha hw).1, fun Q => Oper.wpIn_mono (fun a' w' ⟨v, M', L', e, hs, hK⟩ => by
  obtain ⟨M2, L2, h1, h2⟩ := hk w' v M' L' hK hs
  exact ⟨v, M2, L2, e, h1, h2⟩) ((h a w ha hw).2 Q)⟩
end
end Go.Proofs.YtoincdcejjdgkaaGreat
