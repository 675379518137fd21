/- Walks: stores made. -/
import Derived.Test.YtbhkdjheooknfaaGreatZTwin
namespace Go.Proofs.YtbhkdjheooknfaaGreat
set_option linter.unusedVariables false
set_option linter.unusedSectionVars false
set_option linter.unusedSimpArgs false
open Go.RowKit
theorem dtwin_spec (bs : List (List By)) (ws : List Wt) (u v : Value) (M : Mem) (h1 : LS M u bs) (h2 : WS M v ws) (h : dkOk bs ws) : SpecL Tryz.prog 56 #[.agg #[u, v]] M [] fun u M' L' => (∃ bv' wv', u = .agg #[bv', wv'] ∧ LS M' bv' bs ∧ WS M' wv' ws) ∧ L' = [] := by
 obtain ⟨a1, c1, ps1, rfl, hc1, hs1, hp1, hb1⟩ := h1
 obtain ⟨a2, c2, ps2, rfl, hc2, hs2, hp2, hb2⟩ := h2
 exact dtwin_walk bs ws a1 c1 ps1 a2 c2 ps2 M hc1 hs1 hp1 hb1 hc2 hs2 hp2 hb2 h
abbrev TSt : TypeId := 28
def Z128 : List By := List.replicate 128 0
def Z256 : List By := List.replicate 256 0
def st0 : Sto := ⟨List.replicate 256 Z128, [], Z256, Z256⟩
end Go.Proofs.YtbhkdjheooknfaaGreat
