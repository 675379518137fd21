/-
  No cell of these rows narrows 'for every input' (looked for: loops, veiled, ifaces, maps, wideKeys, modest, calm, conditions, laid).
  DERIVED. THE GIVEN ROWS OF THIS SEAT. 3 by the template 'for every input the law returns true; each argument reads behind the call as it read before'; 0 by the template 'total and deterministic' (their statements: YtjdmhbenpeedeaaTotals.lean).
  GIVEN WITH THE SEED: the statements are not yours to turn. If you find one false, say at which input.
  Laid BY PROGRAM, IN A SANDBOX (cutbox-rows.mjs): the forced cells as the released guide's own fill.sh prints them over the translation 693f7adabfe15d57… (all of the seat's roots in one cut). By AI agents, Wed Nov 11 2026. No macro, syntax, notation, axiom, sorry.
-/
import Derived.Test.YtjdmhbenpeedeaaChecked
import GoSem.Claim
import GoSem.ClaimJoined
import GoSem.ClaimMapViews
import Derived.JoinedTies
import Derived.KernelRfl
namespace Go.Proofs.Ytjdmhbenpeedeaa
/- THE CELL 'sum', in the pinned program and in every row, IS THE sha256 OF THE DUMP (.gsa) THAT YtjdmhbenpeedeaaProg.lean LOADS. Nothing in Lean hashes anything: it is a label: what it is worth is what the hold of that sum in a sandbox is worth. -/
noncomputable def Try.pinned : Pinned := { name := "ytjdmhbenpeedeaa", sum := "693f7adabfe15d570359ccf8bcacfcf112fa624c9883b10614268af495b7cabd", checked := Try.checked }
namespace Rows
def none {H : Type} : Left H := { results := [], args := [] }

/-- 'scionrylaw15.CommitTwice': WHATEVER THE INPUT: true; the input reads as it did. -/
def commitTwiceSpec : ChangeSpec := { name := "commitTwice", fn := fun _ => fun
  | [d] => { results := [.lit (.bool true)], args := [d] }
  | _ => none }
def commitTwiceRow : OpenClaim := { program := "ytjdmhbenpeedeaa", sum := "693f7adabfe15d570359ccf8bcacfcf112fa624c9883b10614268af495b7cabd", func := "scionry/scionrylaw15.CommitTwice", spec := "commitTwice", unfollowed := true, recurses := true, apart := false }
def CommitTwiceSaid : Prop := commitTwiceRow.holds Try.pinned (OpenSpec.ofChange commitTwiceSpec)

/-- ITS FALSE NEIGHBOUR: 'it returns false'. Refute it at one input. -/
def commitTwiceWrong : ChangeSpec := { name := "commitTwice", fn := fun _ => fun
  | [d] => { results := [.lit (.bool false)], args := [d] }
  | _ => none }
def CommitTwiceWrongFalsely : Prop := commitTwiceRow.holds Try.pinned (OpenSpec.ofChange commitTwiceWrong)

/-- 'scionrylaw15.CommitNames': WHATEVER THE INPUT: true; the input reads as it did. -/
def commitNamesSpec : ChangeSpec := { name := "commitNames", fn := fun _ => fun
  | [] => { results := [.lit (.bool true)], args := [] }
  | _ => none }
def commitNamesRow : OpenClaim := { program := "ytjdmhbenpeedeaa", sum := "693f7adabfe15d570359ccf8bcacfcf112fa624c9883b10614268af495b7cabd", func := "scionry/scionrylaw15.CommitNames", spec := "commitNames", unfollowed := true, recurses := true, apart := false }
def CommitNamesSaid : Prop := commitNamesRow.holds Try.pinned (OpenSpec.ofChange commitNamesSpec)

/-- ITS FALSE NEIGHBOUR: 'it returns false'. Refute it at one input. -/
def commitNamesWrong : ChangeSpec := { name := "commitNames", fn := fun _ => fun
  | [] => { results := [.lit (.bool false)], args := [] }
  | _ => none }
def CommitNamesWrongFalsely : Prop := commitNamesRow.holds Try.pinned (OpenSpec.ofChange commitNamesWrong)

/-- 'scionrylaw15.CommitCuts': WHATEVER THE INPUT: true; the input reads as it did. -/
def commitCutsSpec : ChangeSpec := { name := "commitCuts", fn := fun _ => fun
  | [d1, d2, d3] => { results := [.lit (.bool true)], args := [d1, d2, d3] }
  | _ => none }
def commitCutsRow : OpenClaim := { program := "ytjdmhbenpeedeaa", sum := "693f7adabfe15d570359ccf8bcacfcf112fa624c9883b10614268af495b7cabd", func := "scionry/scionrylaw15.CommitCuts", spec := "commitCuts", unfollowed := true, recurses := true, apart := false }
def CommitCutsSaid : Prop := commitCutsRow.holds Try.pinned (OpenSpec.ofChange commitCutsSpec)

/-- ITS FALSE NEIGHBOUR: 'it returns false'. Refute it at one input. -/
def commitCutsWrong : ChangeSpec := { name := "commitCuts", fn := fun _ => fun
  | [d1, d2, d3] => { results := [.lit (.bool false)], args := [d1, d2, d3] }
  | _ => none }
def CommitCutsWrongFalsely : Prop := commitCutsRow.holds Try.pinned (OpenSpec.ofChange commitCutsWrong)

/- THE SECOND FORM. 'bulk': how many values and letters a reading holds, each counted each time it is reached (what is shared counts as often as it is met; a slice's spare places count too). A statement '..UptoSaid' is the law's where the arguments, and the package variables that the reading takes, are together of bulk at most 1048576: NARROWER than '..Said'. Prove '..Said' where nothing that the law and all that it calls make is longer than what came in: it says more and counts as full. Else prove '..UptoSaid'. A law counts once. -/
mutual
def uptoBulk {H : Type} : DataW H → Nat
  | .lit (.string bytes) => bytes.length + 1
  | .lit _ => 1
  | .nil => 1
  | .ptr d => uptoBulk d + 1
  | .slice elems spare => uptoBulkAll elems + uptoBulkAll spare + 1
  | .agg parts => uptoBulkAll parts + 1
  | .iface _ d => uptoBulk d + 1
  | .map entries => uptoBulkEntries entries + 1
  | .held _ => 1
def uptoBulkAll {H : Type} : List (DataW H) → Nat
  | [] => 0
  | d :: r => uptoBulk d + uptoBulkAll r
def uptoBulkEntries {H : Type} : List (Lit × DataW H) → Nat
  | [] => 0
  | x :: r => uptoBulkEntry x + uptoBulkEntries r
def uptoBulkEntry {H : Type} : Lit × DataW H → Nat
  | (.string bytes, d) => bytes.length + uptoBulk d + 1
  | (_, d) => uptoBulk d + 1
 end
def uptoSmall : (H : Type) → List (DataW H) → Bool := fun _ ds => decide (uptoBulkAll ds ≤ 1048576)
def OpenSpec.upto (s : _root_.Go.ChangeSpec) : _root_.Go.OpenSpec := { _root_.Go.OpenSpec.ofChange s with cond := some uptoSmall }

/-- 'scionrylaw15.CommitTwice', WHERE WHAT IT READS IS OF BULK AT MOST 1048576: true; the input reads as it did. -/
def commitTwiceUptoRow : OpenClaim := { program := "ytjdmhbenpeedeaa", sum := "693f7adabfe15d570359ccf8bcacfcf112fa624c9883b10614268af495b7cabd", func := "scionry/scionrylaw15.CommitTwice", spec := "commitTwice", unfollowed := true, recurses := true, apart := false, narrowed := true }
def CommitTwiceUptoSaid : Prop := commitTwiceUptoRow.holds Try.pinned (OpenSpec.upto commitTwiceSpec)

/-- 'scionrylaw15.CommitNames', WHERE WHAT IT READS IS OF BULK AT MOST 1048576: true; the input reads as it did. -/
def commitNamesUptoRow : OpenClaim := { program := "ytjdmhbenpeedeaa", sum := "693f7adabfe15d570359ccf8bcacfcf112fa624c9883b10614268af495b7cabd", func := "scionry/scionrylaw15.CommitNames", spec := "commitNames", unfollowed := true, recurses := true, apart := false, narrowed := true }
def CommitNamesUptoSaid : Prop := commitNamesUptoRow.holds Try.pinned (OpenSpec.upto commitNamesSpec)

/-- 'scionrylaw15.CommitCuts', WHERE WHAT IT READS IS OF BULK AT MOST 1048576: true; the input reads as it did. -/
def commitCutsUptoRow : OpenClaim := { program := "ytjdmhbenpeedeaa", sum := "693f7adabfe15d570359ccf8bcacfcf112fa624c9883b10614268af495b7cabd", func := "scionry/scionrylaw15.CommitCuts", spec := "commitCuts", unfollowed := true, recurses := true, apart := false, narrowed := true }
def CommitCutsUptoSaid : Prop := commitCutsUptoRow.holds Try.pinned (OpenSpec.upto commitCutsSpec)

end Rows
end Go.Proofs.Ytjdmhbenpeedeaa
