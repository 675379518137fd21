/- A map's keys, told in order: the kit's contracts, in my layer's words. No statement of the seat is proved here. -/
import Derived.Test.YtkjghgndmpbfiaaGreatZTab
import Derived.Test.YtkjghgndmpbfiaaGreatZHm
import Derived.Test.YtkjghgndmpbfiaaGreatZShelf
namespace Go.Proofs.YtkjghgndmpbfiaaGreat
set_option linter.unusedVariables false
set_option linter.unusedSectionVars false
set_option linter.unusedSimpArgs false
open Go.RowKit Go.Maps Go.Sort Go.Shelf

theorem sortsA (m : Nat) : AnyZI.SortsIn Tryz.prog sortedA_ren Fence.wide m :=
  ⟨fun blk off cap ss W hH hblk hsz => callsIn_wide.2 (AnyM.slices_Sort_int sortA blk off cap ss W hH hblk hsz),
   fun p cap W => callsIn_wide.2 (AnyM.slices_Sort_int_none sortA p cap W)⟩

theorem und_int : Tryz.prog.underlying 3 = some (.int .i64) := by kernel_rfl
abbrev Rnil : Value → Option (DataW Unit × List MemPlace) := fun _ => some (.nil, [])
theorem ents_mem : ∀ {l : List (Int × Int)} {j : Nat} {e : MapEntry}, e ∈ ents j l → (∃ p ∈ l, e.key = .int .i64 p.1) ∧ j ≤ e.born ∧ e.born < j + l.length
  | [], _, _, h => by cases h
  | p :: l, j, e, h => by
    rw [ents] at h
    rcases List.mem_cons.1 h with rfl | h
    · exact ⟨⟨p, by simp, rfl⟩, by simp, by simp⟩
    · obtain ⟨⟨q, h1, h2⟩, h3, h4⟩ := ents_mem h
      exact ⟨⟨q, by simp [h1], h2⟩, by omega, by simp; omega⟩
theorem ents_born : ∀ (l : List (Int × Int)) (j : Nat), ((ents j l).map (·.born)).Nodup
  | [], _ => by simp [ents]
  | p :: l, j => by
    rw [ents, List.map_cons, List.nodup_cons]
    refine ⟨fun h => ?_, ents_born l (j + 1)⟩
    obtain ⟨e, he, hb⟩ := List.mem_map.1 h
    have := (ents_mem he).2.1
    simp only at hb; omega
theorem ents_keys : ∀ {l : List (Int × Int)} (j : Nat), (keysL l).Nodup → (ents j l).Pairwise (fun x y => x.key ≠ y.key)
  | [], _, _ => by simp [ents]
  | p :: l, j, h => by
    rw [keysL, List.map_cons, List.nodup_cons] at h
    rw [ents, List.pairwise_cons]
    refine ⟨fun e he hk => ?_, ents_keys (j + 1) h.2⟩
    obtain ⟨q, hq, hqk⟩ := (ents_mem he).1
    rw [hqk] at hk
    simp only [Value.int.injEq, true_and] at hk
    exact h.1 (List.mem_map.2 ⟨q, hq, hk.symm⟩)
def InI (x : Int) : Prop := -9223372036854775808 ≤ x ∧ x ≤ 9223372036854775807
theorem wf_i64 {x : Int} (h : InI x) : (Lit.int .i64 x).wf = true := by
  unfold InI at h
  simp [Lit.wf, IntKind.min, IntKind.max, IntKind.signed, IntKind.bits]; omega
theorem ents_rg : ∀ {l : List (Int × Int)} (j : Nat), (∀ p ∈ l, InI p.1) → (ents j l).map (Go.WideElems.rg Tryz.prog 3 Rnil) = l.map fun p => (Lit.int .i64 p.1, (DataW.nil : DataW Unit))
  | [], _, _ => rfl
  | p :: l, j, h => by
    have e : Go.WideElems.rg Tryz.prog 3 Rnil { key := .int .i64 p.1, val := .int .i64 p.2, born := j } = (Lit.int .i64 p.1, (DataW.nil : DataW Unit)) := by
      simp [Go.WideElems.rg, Go.WideElems.rd, keyOf_int_mk und_int (wf_i64 (h p (by simp)))]
    rw [ents, List.map_cons, List.map_cons, ents_rg (j + 1) (fun q hq => h q (by simp [hq])), e]
theorem owns_of {w : World} {b : Nat} {l : List (Int × Int)} (hb : w.heap[b]? = some (mObj l)) (hw : ∀ p ∈ l, InI p.1) (hn : (keysL l).Nodup) (hlen : l.length ≤ 1000000) :
    ∃ D0 : DataW Unit, w.ownsMap Tryz.prog 3 Rnil b l.length D0 ∧ (intKeys D0).Perm (keysL l) ∧ Maps.size D0 = l.length := by
  refine ⟨_, ⟨(ents 0 l).toArray, l.length, hb, ⟨?_, ?_, ?_⟩, ?_, rfl⟩, ?_, ?_⟩
  · simp [ents_len]; unfold maxLen; omega
  · rw [MapKept.stamped_iff]
    exact ⟨fun x hx => by have := (ents_mem (by simpa using hx)).2.2; omega, by simpa using ents_born l 0, by simpa using ents_keys 0 hn⟩
  · intro x hx
    obtain ⟨p, hp, hk⟩ := (ents_mem (l := l) (j := 0) (by simpa using hx)).1
    exact ⟨(.int .i64 p.1, .nil), by simp [Go.WideElems.rd, hk, keyOf_int_mk und_int (wf_i64 (hw p hp))]⟩
  · simp [ents_len]
  · show (List.map _ _).Perm _
    rw [show (ents 0 l).toArray.toList = ents 0 l from rfl, ents_rg 0 hw]
    refine ((WideShapes.sorted_perm _).map _).trans ?_
    simp only [List.map_map, Function.comp_def, keysL]
    exact List.Perm.refl _
  · show List.length _ = _
    rw [length_sorted]; simp [ents_len]

theorem sorted_spec (M : Mem) (b c : Nat) (l : List (Int × Int)) (hb : M b = some (mObj l)) (hc : M c = some (.cells [.map (some b)].toArray 64 (0, 0))) (hw : ∀ p ∈ l, InI p.1) (hn : (keysL l).Nodup) (hlen : l.length ≤ 1000000) :
    SpecL Tryz.prog 22 #[.func (.func 45) #[] #[.pointer (some ⟨c, 0, none⟩)]] M [] fun v M' L' => ∃ ss : List Int, M' = M ∧ ss.Perm (keysL l) ∧ Own v L' 3 1 ss.length ((ss.mergeSort leI).map encZ) := by
  intro w hst
  have hbw := hst.agree _ _ hb
  have hcw := hst.agree _ _ hc
  obtain ⟨D0, hown, hperm, hsize⟩ := owns_of hbw hw hn hlen
  have hseq : SeqGives Fence.wide 2 Tryz.prog 45 #[.pointer (some ⟨c, 0, none⟩)] encZ (fun ss => ss.Perm (intKeys D0)) (Maps.size D0) w :=
    AnyZI.keys_gives (ρ := keysA_ren) { keysA with } Fence.wide _ trivial rfl (by omega) c b _ D0 w (heap_lt hcw) (by simp [World.cell?, hcw]) hown
  have cS := AnyZI.sorted_in sortedA Fence.wide 5 trivial trivial trivial trivial rfl (by omega) (sortsA _) (enters_of Tryz.func44 (by kernel_rfl) rfl) 45 #[.pointer (some ⟨c, 0, none⟩)] trivial (enters_of Tryz.func45 (by kernel_rfl) rfl) _ _ (by rw [hsize]; unfold maxLen; omega) (by rw [hsize]; omega) _ hseq
  change CallsIn _ _ Tryz.prog 22 _ _ _ at cS
  refine ((callsIn_wide (n := 5)).1 cS).mono ?_
  rintro e w' ⟨v, ss, rfl, hS, hrow, hnil, hbel⟩
  have hst' := St.closed _ _ _ _ _ hst hbel
  have hlen2 := hrow.1
  rcases hrow.2 with ⟨rfl, hz⟩ | ⟨g, cap, cur, rfl, hbase, hg, r1, r2, r3, r4⟩
  · exact ⟨_, M, [], rfl, ⟨ss, rfl, hS.trans hperm, hlen2, .inl ⟨rfl, hz, rfl⟩⟩, hst'⟩
  · refine ⟨_, M, [(g, .cells cur 3 (0, 0))], rfl, ⟨ss, rfl, hS.trans hperm, hlen2, .inr ⟨g, cap, cur, rfl, rfl, r1, r2, r3, r4⟩⟩, ?_⟩
    refine { hst' with locs := fun p hp => ?_, nodup := by simp }
    rw [List.mem_singleton.1 hp]
    refine ⟨hg, .inl hbase, ?_⟩
    cases hm : M g with
    | none => rfl
    | some x => exact absurd (heap_lt (hst.agree _ _ hm)) (by have : w.heap.size ≤ g := hbase; omega)
end Go.Proofs.YtkjghgndmpbfiaaGreat
