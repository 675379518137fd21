/- Opening arguments that hold bytes. No statement of the seat is proved here. -/
import Derived.Test.YtjmkgfamonallaaLaw
import Derived.Test.YtjmkgfamonallaaHg
namespace Go.Proofs.Ytjmkgfamonallaa
open Go.ChangeShapes Go.WideShapes Go.ChangeAt Go.RowKit

theorem cell_spot {W : World} {a : Addr} {v : Value} (h : W.cell? a = some v) : ∃ c e fz, W.heap[a.block]? = some (.cells c e fz) ∧ a.spot = none ∧ c[a.off]? = some v := by
  unfold World.cell? at h
  split at h
  · rename_i c e fz hh
    split at h
    · cases h
    · rename_i hs; exact ⟨c, e, fz, hh, by simpa using hs, h⟩
  · cases h
theorem open_bytes {H : Type} {enc : TypeId × Value → H} {P : Program} {W : World} {base : Nat} {t e : TypeId} {v : Value} {d : DataW H} {p : List MemPlace} (ht : P.underlying t = some (.slice e)) (he : P.underlying e = some (.int .u8)) (hc : P.cellsOf e = 1)
    (hval : Value.okWide P W .any base t v) (h : DataW.Trod enc P W 0 (fun _ => true) true t v d p) : ∃ (a : Option Addr) (c : Nat) (xs : List Int), v = .slice a xs.length c ∧ SM (memOf W) a (xs.map (Value.int .u8)) := by
  obtain ⟨a0, len, cap, rfl⟩ := okWide_slice ht hval
  obtain ⟨fuel, hf⟩ := h
  rcases open_ints ht he hc hf with ⟨h0, _⟩ | ⟨a, len', cap', zs, h0, _, hle, _, hall, _, hcell, _⟩
  · simp [Value.cells] at h0
    obtain ⟨rfl, rfl, rfl⟩ := h0
    exact ⟨none, 0, [], rfl, SM.nil⟩
  · simp [Value.cells] at h0
    obtain ⟨rfl, rfl, rfl⟩ := h0
    simp only [if_true] at hall
    refine ⟨some a, cap, zs.take len, by rw [List.length_take]; congr 1; omega, ?_⟩
    by_cases hz : len = 0
    · subst hz; exact .inl (by simp)
    · obtain ⟨c0, e0, fz0, hb, hs, _⟩ := cell_spot (hcell 0 (by omega))
      obtain ⟨b, off, spot⟩ := a
      simp [Addr.add] at hs hb
      subst hs
      refine .inr ⟨b, off, rfl, fun i u hu => ?_⟩
      simp only [List.getElem?_map, List.getElem?_take] at hu
      split at hu
      · rename_i hi
        obtain ⟨c1, e1, fz1, hb1, _, hg⟩ := cell_spot (hcell i (by omega))
        have hadd : (⟨b, off, none⟩ : Addr).add i = ⟨b, off + i, none⟩ := by unfold Addr.add; split <;> simp_all
        rw [hadd] at hb1 hg
        refine ⟨c1, e1, fz1, hb1, ?_⟩
        rw [hg, ← hu]
        simp [List.getD, List.getElem?_eq_getElem (by omega : i < zs.length)]
      · cases hu
end Go.Proofs.Ytjmkgfamonallaa
