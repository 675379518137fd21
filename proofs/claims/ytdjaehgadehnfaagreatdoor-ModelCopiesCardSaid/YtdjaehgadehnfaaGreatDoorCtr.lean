/- The library's contracts, in my layer's words: a map cloned, a map's keys told in order. No statement of the seat is proved here. -/
import Derived.Test.YtdjaehgadehnfaaGreatDoorHo
import Derived.Test.YtdjaehgadehnfaaGreatDoorHm
import Derived.Test.YtdjaehgadehnfaaGreatDoorShelf
import Derived.StringKeys
namespace Go.Proofs.YtdjaehgadehnfaaGreatDoor
set_option linter.unusedVariables false
set_option linter.unusedSimpArgs false
open Go.RowKit Go.Maps Go.Sort Go.Shelf Go.MapKept

/-- a map is cloned -/
theorem clonemap_spec (M : Mem) (mb : Nat) (mo : Obj) (l : List (Str × Value)) (hb : M mb = some mo) (hm : MapOf kS mo l) :
    SpecL Tryz.prog 118 #[.map (some mb)] M [] fun u M' L' => M' = M ∧ ∃ b, u = .map (some b) ∧ L' = [(b, mo)] := by
  intro w hw
  obtain ⟨es, clock, rfl, _⟩ := hm
  have h := AnyW.maps_Clone cloneA mb es clock w (hw.agree _ _ hb)
  change Calls Tryz.prog 118 _ _ _ at h
  refine h.mono ?_
  rintro e w' ⟨rfl, rfl⟩
  exact ⟨_, M, _, rfl, ⟨rfl, _, rfl, rfl⟩, hw.alloc (.map es clock)⟩
theorem clonenil_spec (M : Mem) : SpecL Tryz.prog 118 #[.map none] M [] fun u M' L' => M' = M ∧ u = .map none ∧ L' = [] := by
  intro w hw
  have h := AnyW.maps_Clone_nil cloneA w
  change Calls Tryz.prog 118 _ _ _ at h
  refine h.mono ?_
  rintro e w' ⟨rfl, rfl⟩
  exact ⟨_, M, [], rfl, ⟨rfl, rfl, rfl⟩, hw⟩
/-- a file's names, cloned -/
theorem clonenm_spec (M : Mem) (x : CF) (hx : x.Ok) (hV : ∀ p ∈ x.nR, M p.1 = some p.2) :
    SpecL Tryz.prog 118 #[x.nm] M [] fun u M' L' => M' = M ∧ ∃ o, u = .map o ∧ ∀ b dv dR, NmOk { x with b := b, dv := dv, dR := dR, nm := .map o, nR := L' } := by
  rcases hx.nmo with ⟨h1, mb, mo, h2, h3, h4⟩ | ⟨h1, h2, h3, h4⟩
  · rw [h2]
    refine (clonemap_spec M mb mo _ (hV (mb, mo) (by rw [h3]; simp)) h4).mono ?_
    rintro u M' L' ⟨rfl, b, rfl, rfl⟩
    exact ⟨rfl, _, rfl, fun b dv dR => .inl ⟨h1, _, mo, rfl, rfl, h4⟩⟩
  · rw [h2]
    refine (clonenil_spec M).mono ?_
    rintro u M' L' ⟨rfl, rfl, rfl⟩
    exact ⟨rfl, _, rfl, fun b dv dR => .inr ⟨h1, rfl, rfl, h4⟩⟩

/-! ### keys -/
theorem sortsA (m : Nat) : AnyZ.SortsIn Tryz.prog sortedA_ren Fence.wide m :=
  ⟨fun blk off cap ss W hH hblk hsz => callsIn_wide.2 (AnyM.slices_Sort_string sortA blk off cap ss W hH hblk hsz),
   fun p cap W => callsIn_wide.2 (AnyM.slices_Sort_string_none sortA p cap W)⟩
theorem und_str : Tryz.prog.underlying 9 = some .string := by kernel_rfl
abbrev Rnil : Value → Option (DataW Unit × List MemPlace) := fun _ => some (.nil, [])
theorem encStr_of (s : Str) : encStr s.data.toList = .string s := by simp [encStr]
theorem leStr_is (x y : Str) : leStr x y = decide (x.data.toList ≤ y.data.toList) := by
  have h : ∀ z : Str, z.toList = z.data.toList := fun z => by
    show ByteArray.toList z = _
    simp [ByteArray.toList_eq]
  unfold leStr; rw [h, h]
def keyStr (e : MapEntry) : Str := match e.key with
  | .string s => s
  | _ => .empty
theorem owns_of {w : World} {b : Nat} {mo : Obj} {l : List (Str × Value)} (hb : w.heap[b]? = some mo) (hm : MapOf kS mo l) (hw : ∀ p ∈ l, p.1.size ≤ 64) (hlen : l.length ≤ 1000000) :
    ∃ D0 : DataW Unit, w.ownsMap Tryz.prog 9 Rnil b l.length D0 ∧ (strKeys D0).Perm (l.map fun p => p.1.data.toList) ∧ Maps.size D0 = l.length := by
  obtain ⟨es, clock, rfl, h1, h2, h3⟩ := hm
  have hmem : ∀ e ∈ es.toList, e.key = .string (keyStr e) ∧ (keyStr e).size ≤ 64 := fun e he => by
    have := h3.mem_iff.1 (List.mem_map_of_mem he)
    obtain ⟨q, hq, hqe⟩ := List.mem_map.1 this
    have hk : e.key = .string q.1 := (congrArg Prod.fst hqe).symm
    have : keyStr e = q.1 := by unfold keyStr; rw [hk]
    exact ⟨by rw [this]; exact hk, by rw [this]; exact hw q hq⟩
  have hl : es.size = l.length := by have := h3.length_eq; simpa [encK] using this
  have hrd : ∀ e ∈ es.toList, keyOf Tryz.prog 9 e.key = some (.string (keyStr e).data.toList) := fun e he => by
    rw [(hmem e he).1]; exact Go.WideMaps.keyOf_string_mk und_str (by have := (hmem e he).2; unfold maxLen; omega)
  have hrg : es.toList.map (Go.WideElems.rg Tryz.prog 9 Rnil) = es.toList.map fun e => (Lit.string (keyStr e).data.toList, (DataW.nil : DataW Unit)) := by
    refine List.map_congr_left fun e he => ?_
    simp [Go.WideElems.rg, Go.WideElems.rd, hrd e he]
  refine ⟨_, ⟨es, clock, hb, ⟨?_, h1, ?_⟩, by omega, rfl⟩, ?_, ?_⟩
  · rw [hl]; unfold maxLen; omega
  · intro x hx
    exact ⟨(.string (keyStr x).data.toList, .nil), by simp [Go.WideElems.rd, hrd x hx]⟩
  · show (List.map _ _).Perm _
    rw [hrg]
    refine ((WideShapes.sorted_perm _).map _).trans ?_
    simp only [List.map_map, Function.comp_def, strOf]
    have h4 : (es.toList.map (fun e => (keyStr e).data.toList)) = ((es.toList.map kv).map fun q => (match q.1 with | .string s => s | _ => ByteArray.empty).data.toList) := by
      rw [List.map_map]; rfl
    rw [h4]
    refine (h3.map _).trans ?_
    unfold encK
    rw [List.map_map]
    exact List.Perm.refl _
  · show List.length _ = _
    rw [length_sorted]; simp [hl]
theorem sortedS_spec (M : Mem) (b c : Nat) (mo : Obj) (l : List (Str × Value)) (hb : M b = some mo) (hc : M c = some (.cells [.map (some b)].toArray 133 (0, 0))) (hm : MapOf kS mo l) (hw : ∀ p ∈ l, p.1.size ≤ 64) (hlen : l.length ≤ 1000000) :
    SpecL Tryz.prog 103 #[.func (.func 121) #[] #[.pointer (some ⟨c, 0, none⟩)]] M [] fun v M' L' => M' = M ∧ Nms v L' ((l.map (·.1)).mergeSort leStr) := by
  intro w hst
  have hbw := hst.agree _ _ hb
  have hcw := hst.agree _ _ hc
  obtain ⟨D0, hown, hperm, hsize⟩ := owns_of hbw hm hw hlen
  have hseq : SeqGives Fence.wide 2 Tryz.prog 121 #[.pointer (some ⟨c, 0, none⟩)] encStr (fun ss => ss.Perm (strKeys D0)) (Maps.size D0) w :=
    AnyZ.keys_gives (ρ := mkeysA_ren) { mkeysA with } Fence.wide _ trivial rfl (by omega) c b _ D0 w (heap_lt hcw) (by simp [World.cell?, hcw]) hown
  have cS := AnyZ.sorted_in sortedA Fence.wide 5 trivial trivial trivial trivial rfl (by omega) (sortsA _) (enters_of Tryz.func120 (by kernel_rfl) rfl) 121 #[.pointer (some ⟨c, 0, none⟩)] trivial (enters_of Tryz.func121 (by kernel_rfl) rfl) (fun ss => ss.Perm (strKeys D0)) (Maps.size D0) (by rw [hsize]; unfold maxLen; omega) (by rw [hsize]; omega) w hseq
  change CallsIn _ _ Tryz.prog 103 _ _ _ at cS
  refine ((callsIn_wide (n := 5)).1 cS).mono ?_
  rintro e w' ⟨v, ss, rfl, hS, hrow, hnil, hbel⟩
  have hst' := St.closed _ _ _ _ _ hst hbel
  have hsort : (ss.mergeSort fun x y => decide (x ≤ y)).map encStr = ((l.map (·.1)).mergeSort leStr).map Value.string := by
    have h1 : (ss.mergeSort fun x y => decide (x ≤ y)) = (l.map fun p => p.1.data.toList).mergeSort leB := mergeSort_of_perm (hS.trans hperm)
    have h2 : ((l.map (·.1)).mergeSort leStr).map (fun s : Str => s.data.toList) = (l.map fun p => p.1.data.toList).mergeSort leB := by
      rw [List.map_mergeSort (s := leB) (fun a _ b _ => leStr_is a b), List.map_map]; rfl
    rw [h1, ← h2, List.map_map]
    refine List.map_congr_left fun s _ => encStr_of s
  have hlss : ss.length = ((l.map (·.1)).mergeSort leStr).length := by
    have := (hS.trans hperm).length_eq
    rw [List.length_mergeSort]; simpa using this
  rw [hsort, hlss] at hrow
  have hlen2 := hrow.1
  rcases hrow.2 with ⟨rfl, hz⟩ | ⟨g, cap, cur, rfl, hbase, hg, r1, r2, r3, r4⟩
  · exact ⟨_, M, [], rfl, ⟨rfl, hlen2, .inl ⟨rfl, hz, rfl⟩⟩, hst'⟩
  · refine ⟨_, M, [(g, .cells cur 9 (0, 0))], rfl, ⟨rfl, hlen2, .inr ⟨g, cap, cur, rfl, rfl, r1, r2, r3, r4⟩⟩, ?_⟩
    refine { hst' with locs := fun p hp => ?_, nodup := by simp }
    rw [List.mem_singleton.1 hp]
    refine ⟨hg, .inl hbase, ?_⟩
    cases hm : M g with
    | none => rfl
    | some x => exact absurd (heap_lt (hst.agree _ _ hm)) (by have : w.heap.size ≤ g := hbase; omega)
end Go.Proofs.YtdjaehgadehnfaaGreatDoor
