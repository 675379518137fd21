/- Walks: a bench that is written: blocks shared, nodes made. -/
import Derived.Test.YtbhkdjheooknfaaGreatZCat
namespace Go.Proofs.YtbhkdjheooknfaaGreat
set_option linter.unusedVariables false
set_option linter.unusedSectionVars false
set_option linter.unusedSimpArgs false
open Go.RowKit
abbrev WT : TypeId := 63
def WOwn (M : Mem) (wv : Value) (Rw : Lc) (ws : List Wt) : Prop := ∃ ps : List (Wt × Value), ps.map (·.1) = ws ∧ (∀ p ∈ ps, BS M p.2 p.1.2) ∧
 (Own wv Rw WT 2 ws.length (ps.flatMap wBs) ∨ (Rw = [] ∧ (ps.flatMap wBs).length = ws.length * 2 ∧ ∃ ba, wv = .slice (some ba) ws.length ws.length ∧ (ps.flatMap wBs = [] ∨ ba.spot = none) ∧ ∀ i u, (ps.flatMap wBs)[i]? = some u → CM M ba.block (ba.off + i) u))
def BOwn (M : Mem) (bb : Nat) (Lb : Lc) (s : Sto) : Prop := ∃ bv wv na nc lv Rw Rn, Lb = (bb, .cells [bv, wv, .slice na s.now.length nc, lv].toArray TBn (0, 0)) :: (Rw ++ Rn) ∧ LS M bv s.blocks ∧ BS M lv s.last ∧ Own (.slice na s.now.length nc) Rn 5 1 s.now.length (wAj s.now) ∧ WOwn M wv Rw s.waits
theorem WOwn.mono {M M' : Mem} {wv : Value} {Rw : Lc} {ws : List Wt} (h : WOwn M wv Rw ws) (hM : MLe M M') : WOwn M' wv Rw ws := by
 obtain ⟨ps, h1, h2, h3⟩ := h
 refine ⟨ps, h1, fun p hp => (h2 p hp).mono hM, h3.imp id ?_⟩
 rintro ⟨a, b, ba, c, d, e⟩
 exact ⟨a, b, ba, c, d, fun i u hu => (e i u hu).mono hM⟩
theorem BOwn.mono {M M' : Mem} {bb : Nat} {Lb : Lc} {s : Sto} (h : BOwn M bb Lb s) (hM : MLe M M') : BOwn M' bb Lb s := by
 obtain ⟨bv, wv, na, nc, lv, Rw, Rn, h1, h2, h3, h4, h5⟩ := h
 exact ⟨bv, wv, na, nc, lv, Rw, Rn, h1, h2.mono hM, h3.mono hM, h4, h5.mono hM⟩
def freeB (s : Sto) (k : Nat) : Prop := s.now.getD k 0 = 0 ∧ s.last.getD k 0 = 0
instance (s : Sto) (k : Nat) : Decidable (freeB s k) := by unfold freeB; exact inferInstance
theorem WOwn.form {M : Mem} {wv : Value} {Rw : Lc} {ws : List Wt} (h : WOwn M wv Rw ws) : ∃ wa wc, wv = .slice wa ws.length wc := by
 obtain ⟨ps, h1, h2, h3 | ⟨_, _, ba, rfl, _⟩⟩ := h
 ·obtain ⟨a, c, e⟩ := h3.form; exact ⟨a, c, e⟩
 exact ⟨_, _, rfl⟩
end Go.Proofs.YtbhkdjheooknfaaGreat
