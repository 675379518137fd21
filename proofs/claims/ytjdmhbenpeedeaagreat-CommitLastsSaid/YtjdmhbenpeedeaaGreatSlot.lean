/- Superblocks behind commits (plain laws). -/
import Derived.Test.YtjdmhbenpeedeaaGreatRnd
import Derived.Test.YtjdmhbenpeedeaaGreatAlivec
namespace Go.Proofs.YtjdmhbenpeedeaaGreat
set_option linter.unusedVariables false
set_option linter.unusedSimpArgs false
open Go.RowKit

theorem setB_same (bs : List (List By)) (k : Nat) (ws : List Wt) : (∀ w ∈ ws, 0 ≤ w.1 ∧ w.1 ≠ (k : Int)) → (setB bs ws).getD k [] = bs.getD k [] := by
  refine list_snoc (p := fun ws => (∀ w ∈ ws, 0 ≤ w.1 ∧ w.1 ≠ (k : Int)) → (setB bs ws).getD k [] = bs.getD k []) (fun _ => rfl) (fun ws w ih h => ?_) ws
  have h0 := h w (by simp)
  rw [setB_snoc, ← ih fun v hv => h v (by simp [hv])]; simp [List.getD, List.getElem?_set_ne (show w.1.toNat ≠ k by omega)]
theorem LS.at_ {M : Mem} {s : Sl} {bs : List (List By)} (h : LS M s.v bs) {k : Nat} (hk : k < bs.length) : ∃ b o, ∃ t : Sl, s.a = some ⟨b, o, none⟩ ∧ CM M b (o + k * 1) t.v ∧ BS M t.v bs[k] := by
  obtain ⟨a, c, ps, e, _, hs, hp, hb⟩ := h
  obtain ⟨b, o, rfl, hx⟩ := hs.open (by intro e; have := congrArg List.length e; rw [List.length_map, List.length_nil] at this; have h2 := congrArg List.length hp; rw [List.length_map] at h2; omega)
  obtain ⟨va, vc, h1, h2, h3⟩ := blocks_get hx hp hb hk
  exact ⟨b, o, ⟨va, _, vc⟩, congrArg (fun v => match v with | Value.slice a _ _ => a | _ => none) e, h1, _, _, rfl, h2, h3⟩
/-- the slot of a commit -/
theorem cmt_slot {p : Po} (h : PoOk p) (hn : PoN p) : seen (cmt p).st ((p.gen + 1) % 4).toNat = suB (sup p) := by
  have hg := hn.gen
  show (setB (dsk p 3).1 [((p.gen + 1) % 4, suB (sup p))]).getD ((p.gen + 1) % 4).toNat [] = _
  have hl : (dsk p 3).1.length = 256 := (dsk_ok h hn 3).1
  show ((dsk p 3).1.set ((p.gen + 1) % 4).toNat (suB (sup p))).getD ((p.gen + 1) % 4).toNat [] = _
  have hlt : ((p.gen + 1) % 4).toNat < (dsk p 3).1.length := by omega
  rw [List.getD, List.getElem?_set_self hlt]; rfl
/-- another slot -/
theorem cmt_other {p : Po} (hn : PoN p) {k : Nat} (hk : k < 4) (h1 : (k : Int) ≠ (p.gen + 1) % 4) (hw : ∀ w ∈ p.st.waits, 0 ≤ w.1 ∧ w.1 ≠ (k : Int)) : seen (cmt p).st k = p.st.blocks.getD k [] := by
  have hg := hn.gen
  show (setB (setB (setB p.st.blocks p.st.waits) (cmAdd p 1)) (cmAdd p 2)).getD k [] = _
  rw [setB_same _ k _ fun w hm => ?_, setB_same _ k _ fun w hm => ?_, setB_same _ k _ hw]
  · simp only [cmAdd, wts, List.mem_cons, List.not_mem_nil, or_false] at hm
    rcases hm with rfl | rfl
    · exact ⟨by show 0 ≤ 4 + 2 * ((p.gen + 1) % 2); omega, by show 4 + 2 * ((p.gen + 1) % 2) ≠ _; omega⟩
    · exact ⟨by show 0 ≤ 4 + 2 * ((p.gen + 1) % 2) + 1; omega, by show 4 + 2 * ((p.gen + 1) % 2) + 1 ≠ _; omega⟩
  · simp only [cmAdd, List.mem_cons, List.not_mem_nil, or_false] at hm
    subst hm
    exact ⟨by show 0 ≤ (p.gen + 1) % 4; omega, fun e => h1 e.symm⟩
theorem sup_is {p : Po} (hn : PoN p) (hg : p.gen ≠ 4294967295) : (0 ≤ (sup p).gen ∧ (sup p).gen < 4294967296) ∧ (0 ≤ (sup p).next ∧ (sup p).next < 4294967296) ∧ (0 ≤ (sup p).table ∧ (sup p).table < 4294967296) := by
  have := hn.gen
  exact ⟨⟨by show 0 ≤ p.gen + 1; omega, by show p.gen + 1 < _; omega⟩, hn.next, sumOf_range _⟩
theorem fnd_new {p : Po} (h : PoOk p) (hn : PoN p) (hg : p.gen ≠ 4294967295) : sup p ∈ fndL (cmt p).st 4 := by
  obtain ⟨h1, h2, h3⟩ := sup_is hn hg
  exact fndL_mem (sup_ok h) h1 h2 h3 (cmt_slot h hn)
theorem fnd_old {p : Po} (h : PoOk p) (hn : PoN p) (hg : p.gen ≠ 4294967295) (hn2 : PoN (cmt p)) : sup p ∈ fndL (cmt (cmt p)).st 4 := by
  have hgg := hn.gen
  obtain ⟨h1, h2, h3⟩ := sup_is hn hg
  refine fndL_mem (sup_ok h) h1 h2 h3 ?_
  rw [← cmt_slot h hn]
  show seen (cmt (cmt p)).st ((p.gen + 1) % 4).toNat = _
  rw [cmt_other hn2 (by omega) (by show ((((p.gen + 1) % 4).toNat : Nat) : Int) ≠ (p.gen + 1 + 1) % 4; omega) (fun _ h => by cases h)]
  rfl
end Go.Proofs.YtjdmhbenpeedeaaGreat
