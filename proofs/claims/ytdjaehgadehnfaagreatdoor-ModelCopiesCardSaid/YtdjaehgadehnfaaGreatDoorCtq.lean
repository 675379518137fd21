/- The library's contracts, in my layer's words: strings split, numbers read and told; the reader of paths in plain words. No statement of the seat is proved here. -/
import Derived.Test.YtdjaehgadehnfaaGreatDoorCtr
namespace Go.Proofs.YtdjaehgadehnfaaGreatDoor
set_option linter.unusedVariables false
set_option linter.unusedSimpArgs false
open Go.RowKit Go.Maps Go.Sort Go.Shelf Go.MapKept

/-- what the library's tables must be -/
structure TabsW (w : World) : Prop where
  mx : ∃ m, w.cell? ⟨splitA_ren.g 1, 0, none⟩ = some (.int .i64 m)
  e1 : ∃ ev, w.cell? ⟨atoiA_ren.g 15, 0, none⟩ = some ev ∧ (ev = .nilIface ∨ ∃ te pe, ev = .iface te pe)
  e2 : ∃ ev, w.cell? ⟨atoiA_ren.g 16, 0, none⟩ = some ev ∧ (ev = .nilIface ∨ ∃ te pe, ev = .iface te pe)
  p10 : Lib.TabIs Tryz.prog w "internal/strconv.uint64pow10" .u64 Lib.pow10Tab
def Tabs (M : Mem) : Prop := ∀ w : World, (∀ b o, M b = some o → w.heap[b]? = some o) → TabsW w
theorem Tabs.mono {M M' : Mem} (h : Tabs M) (hM : MLe M M') : Tabs M' := fun w hw => h w fun b o hb => hw b o (hM b o hb)
abbrev strokeS : Str := ⟨#[47]⟩
def splitS (s : Str) : List Str := Lib.splitB strokeS 0 (Lib.countB s strokeS) s
theorem splitS_len (s : Str) : (splitS s).length = Lib.countB s strokeS + 1 := Lib.splitB_all strokeS (by decide) 0 _ s rfl
theorem splitS_le (s : Str) : (splitS s).length ≤ s.size + 1 := by have := Lib.countB_le strokeS (by decide) s.size s (Nat.le_refl _); rw [splitS_len]; omega
theorem split_spec (s : Str) (M : Mem) (hT : Tabs M) (hs : s.size ≤ 1000000) :
    SpecL Tryz.prog 23 #[.string s, .string strokeS] M [] fun u M' L' => M' = M ∧ ∃ g, u = .slice (some ⟨g, 0, none⟩) (splitS s).length (splitS s).length ∧ L' = [(g, .cells ((splitS s).map Value.string).toArray 9 (0, 0))] := by
  intro w hw
  obtain ⟨m, hm⟩ := (hT w hw.agree).mx
  have h := Any.strings_Split { splitA with } splitA.i9 s strokeS m w (by omega) hm (by decide)
  change Calls Tryz.prog 23 _ _ _ at h
  rw [← splitS_len] at h
  refine h.mono ?_
  rintro e w' ⟨rfl, rfl⟩
  exact ⟨_, M, _, rfl, ⟨rfl, _, rfl, rfl⟩, hw.alloc (.cells ((splitS s).map Value.string).toArray 9 (0, 0))⟩
theorem itoa_spec (n : Int) (M : Mem) (hT : Tabs M) (h0 : InI64 n) :
    SpecL Tryz.prog 25 #[.int .i64 n] M [] fun u _ _ => u = .string ⟨(Lib.itoa n).toArray⟩ := by
  intro w hw
  have h := Any.strconv_Itoa itoaA n h0.1 h0.2 w (hT w hw.agree).p10
  change Calls Tryz.prog 25 _ _ _ at h
  refine h.mono ?_
  rintro e w' ⟨rfl, k, os, rfl⟩
  have hb : Below w.heap.size w (grow (w.drewN k) os) := ⟨rfl, rfl, rfl, by simp [grow, World.drewN], fun j hj => by simp [grow, World.drewN, Array.getElem?_append_left hj]⟩
  exact ⟨_, M, [], rfl, rfl, St.closed _ _ _ _ _ hw hb⟩
/-- how reading a number ends -/
def numS (s : Str) : Option Int := match Lib.atoiAll s.data.toList with
  | .ok v => some v
  | _ => none
theorem atoi_spec (s : Str) (M : Mem) (hT : Tabs M) (hs : s.size ≤ 1000000) :
    SpecL Tryz.prog 24 #[.string s] M [] fun u M' L' => M' = M ∧ L' = [] ∧ ((∃ v, numS s = some v ∧ u = .tuple #[.int .i64 v, .nilIface]) ∨ (numS s = none ∧ ∃ v N, u = .tuple #[.int .i64 v, .iface (atoiA_ren.t 168) (.pointer (some ⟨N, 0, none⟩))])) := by
  intro w hw
  rcases hn : Lib.atoiAll s.data.toList with v | _ | _
  · have h := Any.strconv_Atoi_ok atoiA s (by omega) v hn w
    change Calls Tryz.prog 24 _ _ _ at h
    refine h.mono ?_
    rintro e w' ⟨rfl, hw'⟩
    refine ⟨_, M, [], rfl, ⟨rfl, rfl, .inl ⟨v, by unfold numS; rw [hn], rfl⟩⟩, ?_⟩
    rcases hw' with rfl | ⟨t, rfl⟩
    · exact hw
    · exact St.closed _ _ _ _ _ hw (Lib.bytesWorld_below w _ t)
  · obtain ⟨ev, h1, h2⟩ := (hT w hw.agree).e1
    have h := Any.strconv_Atoi_syntax atoiA s (by omega) hn ev w h1 h2
    change Calls Tryz.prog 24 _ _ _ at h
    refine h.mono ?_
    rintro e w' ⟨N, rfl, _, _, hb⟩
    exact ⟨_, M, [], rfl, ⟨rfl, rfl, .inr ⟨by unfold numS; rw [hn], _, N, rfl⟩⟩, St.closed _ _ _ _ _ hw hb⟩
  · obtain ⟨ev, h1, h2⟩ := (hT w hw.agree).e2
    have h := Any.strconv_Atoi_range atoiA s (by omega) hn ev w h1 h2
    change Calls Tryz.prog 24 _ _ _ at h
    refine h.mono ?_
    rintro e w' ⟨N, rfl, _, _, hb⟩
    exact ⟨_, M, [], rfl, ⟨rfl, rfl, .inr ⟨by unfold numS; rw [hn], _, N, rfl⟩⟩, St.closed _ _ _ _ _ hw hb⟩

/-! ### the reader of paths -/
def badB (b : UInt8) : Bool := decide (b.toNat < 33) || decide (126 < b.toNat)
def okName (s : Str) : Bool := decide (1 ≤ s.size) && decide (s.size ≤ 8) && !(s.data.toList.any badB)
def partL : List Str → Option Wy
  | a :: b :: l => if a = ⟨#[]⟩ then (match numS b with
    | none => none
    | some v => if b.size ≤ 9 ∧ (⟨(Lib.itoa v).toArray⟩ : Str) = b ∧ 0 ≤ v ∧ l.all okName = true then some (v, l) else none) else none
  | _ => none
def partF (s : Str) : Option Wy := if s.size ≤ 64 then partL (splitS s) else none
end Go.Proofs.YtdjaehgadehnfaaGreatDoor
