/-
  No cell of these rows narrows 'for every input' (looked for: loops, veiled, ifaces, maps, wideKeys, modest, calm, conditions, laid).
  DERIVED. THE GIVEN ROWS OF THIS SEAT. 7 by the template 'for every input the law returns true; each argument reads behind the call as it read before'; 0 by the template 'total and deterministic' (their statements: YtjmkgfamonallaaTotals.lean).
  GIVEN WITH THE SEED: the statements are not yours to turn. If you find one false, say at which input.
  Laid BY PROGRAM, IN A SANDBOX (cutbox-rows.mjs): the forced cells as the released guide's own fill.sh prints them over the translation 387990ad2fbd1c44… (all of the seat's roots in one cut). By AI agents, Wed Nov 11 2026. No macro, syntax, notation, axiom, sorry.
-/
import Derived.Test.YtjmkgfamonallaaChecked
import GoSem.Claim
import GoSem.ClaimJoined
import GoSem.ClaimMapViews
import Derived.JoinedTies
import Derived.KernelRfl
namespace Go.Proofs.Ytjmkgfamonallaa
/- THE CELL 'sum', in the pinned program and in every row, IS THE sha256 OF THE DUMP (.gsa) THAT YtjmkgfamonallaaProg.lean LOADS. Nothing in Lean hashes anything: it is a label: what it is worth is what the hold of that sum in a sandbox is worth. -/
noncomputable def Try.pinned : Pinned := { name := "ytjmkgfamonallaa", sum := "387990ad2fbd1c44dfd3fec59370909d8e999d252e95c4c0ccea806d7da906d1", checked := Try.checked }
namespace Rows
def none {H : Type} : Left H := { results := [], args := [] }

/-- 'scionrylaw20.SpanMany': WHATEVER THE INPUT: true; the input reads as it did. -/
def spanManySpec : ChangeSpec := { name := "spanMany", fn := fun _ => fun
  | [d] => { results := [.lit (.bool true)], args := [d] }
  | _ => none }
def spanManyRow : OpenClaim := { program := "ytjmkgfamonallaa", sum := "387990ad2fbd1c44dfd3fec59370909d8e999d252e95c4c0ccea806d7da906d1", func := "scionry/scionrylaw20.SpanMany", spec := "spanMany", apart := false }
def SpanManySaid : Prop := spanManyRow.holds Try.pinned (OpenSpec.ofChange spanManySpec)

/-- ITS FALSE NEIGHBOUR: 'it returns false'. Refute it at one input. -/
def spanManyWrong : ChangeSpec := { name := "spanMany", fn := fun _ => fun
  | [d] => { results := [.lit (.bool false)], args := [d] }
  | _ => none }
def SpanManyWrongFalsely : Prop := spanManyRow.holds Try.pinned (OpenSpec.ofChange spanManyWrong)

/-- 'scionrylaw20.SpanCuts': WHATEVER THE INPUT: true; the input reads as it did. -/
def spanCutsSpec : ChangeSpec := { name := "spanCuts", fn := fun _ => fun
  | [d1, d2, d3] => { results := [.lit (.bool true)], args := [d1, d2, d3] }
  | _ => none }
def spanCutsRow : OpenClaim := { program := "ytjmkgfamonallaa", sum := "387990ad2fbd1c44dfd3fec59370909d8e999d252e95c4c0ccea806d7da906d1", func := "scionry/scionrylaw20.SpanCuts", spec := "spanCuts", apart := false }
def SpanCutsSaid : Prop := spanCutsRow.holds Try.pinned (OpenSpec.ofChange spanCutsSpec)

/-- ITS FALSE NEIGHBOUR: 'it returns false'. Refute it at one input. -/
def spanCutsWrong : ChangeSpec := { name := "spanCuts", fn := fun _ => fun
  | [d1, d2, d3] => { results := [.lit (.bool false)], args := [d1, d2, d3] }
  | _ => none }
def SpanCutsWrongFalsely : Prop := spanCutsRow.holds Try.pinned (OpenSpec.ofChange spanCutsWrong)

/-- 'scionrylaw20.SpanAll': WHATEVER THE INPUT: true; the input reads as it did. -/
def spanAllSpec : ChangeSpec := { name := "spanAll", fn := fun _ => fun
  | [d1, d2] => { results := [.lit (.bool true)], args := [d1, d2] }
  | _ => none }
def spanAllRow : OpenClaim := { program := "ytjmkgfamonallaa", sum := "387990ad2fbd1c44dfd3fec59370909d8e999d252e95c4c0ccea806d7da906d1", func := "scionry/scionrylaw20.SpanAll", spec := "spanAll", apart := false }
def SpanAllSaid : Prop := spanAllRow.holds Try.pinned (OpenSpec.ofChange spanAllSpec)

/-- ITS FALSE NEIGHBOUR: 'it returns false'. Refute it at one input. -/
def spanAllWrong : ChangeSpec := { name := "spanAll", fn := fun _ => fun
  | [d1, d2] => { results := [.lit (.bool false)], args := [d1, d2] }
  | _ => none }
def SpanAllWrongFalsely : Prop := spanAllRow.holds Try.pinned (OpenSpec.ofChange spanAllWrong)

/-- 'scionrylaw20.SpanPuts': WHATEVER THE INPUT: true; the input reads as it did. -/
def spanPutsSpec : ChangeSpec := { name := "spanPuts", fn := fun _ => fun
  | [d1, d2, d3] => { results := [.lit (.bool true)], args := [d1, d2, d3] }
  | _ => none }
def spanPutsRow : OpenClaim := { program := "ytjmkgfamonallaa", sum := "387990ad2fbd1c44dfd3fec59370909d8e999d252e95c4c0ccea806d7da906d1", func := "scionry/scionrylaw20.SpanPuts", spec := "spanPuts", apart := false }
def SpanPutsSaid : Prop := spanPutsRow.holds Try.pinned (OpenSpec.ofChange spanPutsSpec)

/-- ITS FALSE NEIGHBOUR: 'it returns false'. Refute it at one input. -/
def spanPutsWrong : ChangeSpec := { name := "spanPuts", fn := fun _ => fun
  | [d1, d2, d3] => { results := [.lit (.bool false)], args := [d1, d2, d3] }
  | _ => none }
def SpanPutsWrongFalsely : Prop := spanPutsRow.holds Try.pinned (OpenSpec.ofChange spanPutsWrong)

/-- 'scionrylaw20.SpanNames': WHATEVER THE INPUT: true; the input reads as it did. -/
def spanNamesSpec : ChangeSpec := { name := "spanNames", fn := fun _ => fun
  | [] => { results := [.lit (.bool true)], args := [] }
  | _ => none }
def spanNamesRow : OpenClaim := { program := "ytjmkgfamonallaa", sum := "387990ad2fbd1c44dfd3fec59370909d8e999d252e95c4c0ccea806d7da906d1", func := "scionry/scionrylaw20.SpanNames", spec := "spanNames", apart := false }
def SpanNamesSaid : Prop := spanNamesRow.holds Try.pinned (OpenSpec.ofChange spanNamesSpec)

/-- ITS FALSE NEIGHBOUR: 'it returns false'. Refute it at one input. -/
def spanNamesWrong : ChangeSpec := { name := "spanNames", fn := fun _ => fun
  | [] => { results := [.lit (.bool false)], args := [] }
  | _ => none }
def SpanNamesWrongFalsely : Prop := spanNamesRow.holds Try.pinned (OpenSpec.ofChange spanNamesWrong)

/-- 'scionrylaw20.SpanBack': WHATEVER THE INPUT: true; the input reads as it did. -/
def spanBackSpec : ChangeSpec := { name := "spanBack", fn := fun _ => fun
  | [d1, d2, d3, d4] => { results := [.lit (.bool true)], args := [d1, d2, d3, d4] }
  | _ => none }
def spanBackRow : OpenClaim := { program := "ytjmkgfamonallaa", sum := "387990ad2fbd1c44dfd3fec59370909d8e999d252e95c4c0ccea806d7da906d1", func := "scionry/scionrylaw20.SpanBack", spec := "spanBack", apart := false }
def SpanBackSaid : Prop := spanBackRow.holds Try.pinned (OpenSpec.ofChange spanBackSpec)

/-- ITS FALSE NEIGHBOUR: 'it returns false'. Refute it at one input. -/
def spanBackWrong : ChangeSpec := { name := "spanBack", fn := fun _ => fun
  | [d1, d2, d3, d4] => { results := [.lit (.bool false)], args := [d1, d2, d3, d4] }
  | _ => none }
def SpanBackWrongFalsely : Prop := spanBackRow.holds Try.pinned (OpenSpec.ofChange spanBackWrong)

/-- 'scionrylaw20.SpanSame': WHATEVER THE INPUT: true; the input reads as it did. -/
def spanSameSpec : ChangeSpec := { name := "spanSame", fn := fun _ => fun
  | [d1, d2] => { results := [.lit (.bool true)], args := [d1, d2] }
  | _ => none }
def spanSameRow : OpenClaim := { program := "ytjmkgfamonallaa", sum := "387990ad2fbd1c44dfd3fec59370909d8e999d252e95c4c0ccea806d7da906d1", func := "scionry/scionrylaw20.SpanSame", spec := "spanSame", apart := false }
def SpanSameSaid : Prop := spanSameRow.holds Try.pinned (OpenSpec.ofChange spanSameSpec)

/-- ITS FALSE NEIGHBOUR: 'it returns false'. Refute it at one input. -/
def spanSameWrong : ChangeSpec := { name := "spanSame", fn := fun _ => fun
  | [d1, d2] => { results := [.lit (.bool false)], args := [d1, d2] }
  | _ => none }
def SpanSameWrongFalsely : Prop := spanSameRow.holds Try.pinned (OpenSpec.ofChange spanSameWrong)

/- THE SECOND FORM. 'bulk': how many values and letters a reading holds, each counted each time it is reached (what is shared counts as often as it is met; a slice's spare places count too). A statement '..UptoSaid' is the law's where the arguments, and the package variables that the reading takes, are together of bulk at most 1048576: NARROWER than '..Said'. Prove '..Said' where nothing that the law and all that it calls make is longer than what came in: it says more and counts as full. Else prove '..UptoSaid'. A law counts once. -/
mutual
def uptoBulk {H : Type} : DataW H → Nat
  | .lit (.string bytes) => bytes.length + 1
  | .lit _ => 1
  | .nil => 1
  | .ptr d => uptoBulk d + 1
  | .slice elems spare => uptoBulkAll elems + uptoBulkAll spare + 1
  | .agg parts => uptoBulkAll parts + 1
  | .iface _ d => uptoBulk d + 1
  | .map entries => uptoBulkEntries entries + 1
  | .held _ => 1
def uptoBulkAll {H : Type} : List (DataW H) → Nat
  | [] => 0
  | d :: r => uptoBulk d + uptoBulkAll r
def uptoBulkEntries {H : Type} : List (Lit × DataW H) → Nat
  | [] => 0
  | x :: r => uptoBulkEntry x + uptoBulkEntries r
def uptoBulkEntry {H : Type} : Lit × DataW H → Nat
  | (.string bytes, d) => bytes.length + uptoBulk d + 1
  | (_, d) => uptoBulk d + 1
 end
def uptoSmall : (H : Type) → List (DataW H) → Bool := fun _ ds => decide (uptoBulkAll ds ≤ 1048576)
def OpenSpec.upto (s : _root_.Go.ChangeSpec) : _root_.Go.OpenSpec := { _root_.Go.OpenSpec.ofChange s with cond := some uptoSmall }

/-- 'scionrylaw20.SpanMany', WHERE WHAT IT READS IS OF BULK AT MOST 1048576: true; the input reads as it did. -/
def spanManyUptoRow : OpenClaim := { program := "ytjmkgfamonallaa", sum := "387990ad2fbd1c44dfd3fec59370909d8e999d252e95c4c0ccea806d7da906d1", func := "scionry/scionrylaw20.SpanMany", spec := "spanMany", apart := false, narrowed := true }
def SpanManyUptoSaid : Prop := spanManyUptoRow.holds Try.pinned (OpenSpec.upto spanManySpec)

/-- 'scionrylaw20.SpanCuts', WHERE WHAT IT READS IS OF BULK AT MOST 1048576: true; the input reads as it did. -/
def spanCutsUptoRow : OpenClaim := { program := "ytjmkgfamonallaa", sum := "387990ad2fbd1c44dfd3fec59370909d8e999d252e95c4c0ccea806d7da906d1", func := "scionry/scionrylaw20.SpanCuts", spec := "spanCuts", apart := false, narrowed := true }
def SpanCutsUptoSaid : Prop := spanCutsUptoRow.holds Try.pinned (OpenSpec.upto spanCutsSpec)

/-- 'scionrylaw20.SpanAll', WHERE WHAT IT READS IS OF BULK AT MOST 1048576: true; the input reads as it did. -/
def spanAllUptoRow : OpenClaim := { program := "ytjmkgfamonallaa", sum := "387990ad2fbd1c44dfd3fec59370909d8e999d252e95c4c0ccea806d7da906d1", func := "scionry/scionrylaw20.SpanAll", spec := "spanAll", apart := false, narrowed := true }
def SpanAllUptoSaid : Prop := spanAllUptoRow.holds Try.pinned (OpenSpec.upto spanAllSpec)

/-- 'scionrylaw20.SpanPuts', WHERE WHAT IT READS IS OF BULK AT MOST 1048576: true; the input reads as it did. -/
def spanPutsUptoRow : OpenClaim := { program := "ytjmkgfamonallaa", sum := "387990ad2fbd1c44dfd3fec59370909d8e999d252e95c4c0ccea806d7da906d1", func := "scionry/scionrylaw20.SpanPuts", spec := "spanPuts", apart := false, narrowed := true }
def SpanPutsUptoSaid : Prop := spanPutsUptoRow.holds Try.pinned (OpenSpec.upto spanPutsSpec)

/-- 'scionrylaw20.SpanNames', WHERE WHAT IT READS IS OF BULK AT MOST 1048576: true; the input reads as it did. -/
def spanNamesUptoRow : OpenClaim := { program := "ytjmkgfamonallaa", sum := "387990ad2fbd1c44dfd3fec59370909d8e999d252e95c4c0ccea806d7da906d1", func := "scionry/scionrylaw20.SpanNames", spec := "spanNames", apart := false, narrowed := true }
def SpanNamesUptoSaid : Prop := spanNamesUptoRow.holds Try.pinned (OpenSpec.upto spanNamesSpec)

/-- 'scionrylaw20.SpanBack', WHERE WHAT IT READS IS OF BULK AT MOST 1048576: true; the input reads as it did. -/
def spanBackUptoRow : OpenClaim := { program := "ytjmkgfamonallaa", sum := "387990ad2fbd1c44dfd3fec59370909d8e999d252e95c4c0ccea806d7da906d1", func := "scionry/scionrylaw20.SpanBack", spec := "spanBack", apart := false, narrowed := true }
def SpanBackUptoSaid : Prop := spanBackUptoRow.holds Try.pinned (OpenSpec.upto spanBackSpec)

/-- 'scionrylaw20.SpanSame', WHERE WHAT IT READS IS OF BULK AT MOST 1048576: true; the input reads as it did. -/
def spanSameUptoRow : OpenClaim := { program := "ytjmkgfamonallaa", sum := "387990ad2fbd1c44dfd3fec59370909d8e999d252e95c4c0ccea806d7da906d1", func := "scionry/scionrylaw20.SpanSame", spec := "spanSame", apart := false, narrowed := true }
def SpanSameUptoSaid : Prop := spanSameUptoRow.holds Try.pinned (OpenSpec.upto spanSameSpec)

end Rows
end Go.Proofs.Ytjmkgfamonallaa
