/- The document's trees, without a program in sight: its check is the check of find. -/
import Derived.Test.YtbhkdjheooknfaaGreatZRh
import Derived.Test.YtbhkdjheooknfaaGreatZTree
namespace Go.Proofs.YtbhkdjheooknfaaGreat
set_option linter.unusedSimpArgs false
set_option linter.unusedVariables false
set_option linter.unusedSectionVars false
open Go.RowKit
theorem it_get {M : Mem} {a : Option Addr} {xs : List It} {ps : List (It × Value)} (hs : SM M a (ps.flatMap wCp)) (hp : ps.map (·.1) = xs) (hb : ∀ p ∈ ps, BS M p.2 p.1.val) {k : Nat} (hk : k < xs.length) {i : Int} (hi : i = (k : Int)) : ∃ sb so va vc, a = some ⟨sb, so, none⟩ ∧ (∀ j v, (itc xs[k] va vc)[j]? = some v → CM M sb (so + i.toNat * 5 + j) v) ∧ xs[k].val.length ≤ vc ∧ SM M va (wAj xs[k].val) := by
 obtain ⟨sb, so, e0, hx⟩ := hs.open (by intro e; have := congrArg List.length e; rw [wBm wCp 5 wCw, List.length_nil] at this; have h2 := congrArg List.length hp; rw [List.length_map] at h2; omega)
 obtain ⟨va, vc, hcl, hvc, hvs⟩ := wCh hx hp hb hk
 exact ⟨sb, so, va, vc, e0, fun j v h => by rw [hi, Int.toNat_natCast]; exact hcl j v h, hvc, hvs⟩
theorem ky_ext {a b : Ky} : a = b ↔ [a.kind, a.id, a.off] = [b.kind, b.id, b.off] := by
 obtain ⟨a1, a2, a3⟩ := a; obtain ⟨b1, b2, b3⟩ := b; simp
theorem rread8_no (s : Sto) (u : Value) (M : Mem) (h : ST M u s) (hst : wDr s) (k : Int) (hk : 0 ≤ k ∧ k ≤ 100000) (hn : wCu s k.toNat = none) : SpecL Tryz.prog 97 #[u, .int .i64 k] M [] fun u _ L' => (∃ lv a n c, u = .tuple #[.agg #[.int .i64 lv, .slice a n c], .bool false]) ∧ L' = [] := by
 have h1 := rread8_spec s u M h hst k.toNat (by omega)
 rw [show ((k.toNat : Nat) : Int) = k by omega] at h1
 exact h1.mono fun _ _ _ ⟨h2, h3⟩ => ⟨by unfold RdPost at h2; rw [hn] at h2; exact h2, h3⟩
theorem wHo (s : Sto) (u : Value) (M : Mem) (h : ST M u s) (hst : wDr s) (k : Int) (hk : 0 ≤ k ∧ k ≤ 100000) {lv : Int} {ys : List It} (hn : wCu s k.toNat = some (lv, ys)) : SpecL Tryz.prog 97 #[u, .int .i64 k] M [] fun u M' L' => (∃ a c, ∃ ps : List (It × Value), u = .tuple #[.agg #[.int .i64 lv, .slice a ys.length c], .bool true] ∧ ys.length ≤ c ∧ SM M' a (ps.flatMap wCp) ∧ ps.map (·.1) = ys ∧ ∀ p ∈ ps, BS M' p.2 p.1.val) ∧ L' = [] := by
 have h1 := rread8_spec s u M h hst k.toNat (by omega)
 rw [show ((k.toNat : Nat) : Int) = k by omega] at h1
 refine h1.mono fun _ _ _ ⟨h2, h3⟩ => ⟨?_, h3⟩
 unfold RdPost at h2; rw [hn] at h2
 obtain ⟨sl, e, a, c, ps, rfl, h4, h5, h6, h7⟩ := h2
 exact ⟨a, c, ps, e, h4, h5, h6, h7⟩
end Go.Proofs.YtbhkdjheooknfaaGreat
