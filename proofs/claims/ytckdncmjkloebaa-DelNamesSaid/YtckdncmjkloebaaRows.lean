/-
  No cell of these rows narrows 'for every input' (looked for: loops, veiled, ifaces, maps, wideKeys, modest, calm, conditions, laid).
  DERIVED. THE GIVEN ROWS OF THIS SEAT. 2 by the template 'for every input the law returns true; each argument reads behind the call as it read before'; 0 by the template 'total and deterministic' (their statements: YtckdncmjkloebaaTotals.lean).
  GIVEN WITH THE SEED: the statements are not yours to turn. If you find one false, say at which input.
  Laid BY PROGRAM, IN A SANDBOX (cutbox-rows.mjs): the forced cells as the released guide's own fill.sh prints them over the translation a76831facab18c1d… (all of the seat's roots in one cut). By AI agents, Wed Nov 11 2026. No macro, syntax, notation, axiom, sorry.
-/
import Derived.Test.YtckdncmjkloebaaChecked
import GoSem.Claim
import GoSem.ClaimJoined
import GoSem.ClaimMapViews
import Derived.JoinedTies
import Derived.KernelRfl
namespace Go.Proofs.Ytckdncmjkloebaa
/- THE CELL 'sum', in the pinned program and in every row, IS THE sha256 OF THE DUMP (.gsa) THAT YtckdncmjkloebaaProg.lean LOADS. Nothing in Lean hashes anything: it is a label: what it is worth is what the hold of that sum in a sandbox is worth. -/
noncomputable def Try.pinned : Pinned := { name := "ytckdncmjkloebaa", sum := "a76831facab18c1de4e640c37c720a0c4ae4a9a61ae67e0caec0b352dee47791", checked := Try.checked }
namespace Rows
def none {H : Type} : Left H := { results := [], args := [] }

/-- 'scionrylaw12.PutNames': WHATEVER THE INPUT: true; the input reads as it did. -/
def putNamesSpec : ChangeSpec := { name := "putNames", fn := fun _ => fun
  | [] => { results := [.lit (.bool true)], args := [] }
  | _ => none }
def putNamesRow : OpenClaim := { program := "ytckdncmjkloebaa", sum := "a76831facab18c1de4e640c37c720a0c4ae4a9a61ae67e0caec0b352dee47791", func := "scionry/scionrylaw12.PutNames", spec := "putNames", inPlace := ["slices.overlaps[scionry/api.Item]"], unfollowed := true, recurses := true, apart := false }
def PutNamesSaid : Prop := putNamesRow.holds Try.pinned (OpenSpec.ofChange putNamesSpec)

/-- ITS FALSE NEIGHBOUR: 'it returns false'. Refute it at one input. -/
def putNamesWrong : ChangeSpec := { name := "putNames", fn := fun _ => fun
  | [] => { results := [.lit (.bool false)], args := [] }
  | _ => none }
def PutNamesWrongFalsely : Prop := putNamesRow.holds Try.pinned (OpenSpec.ofChange putNamesWrong)

/-- 'scionrylaw13.DelNames': WHATEVER THE INPUT: true; the input reads as it did. -/
def delNamesSpec : ChangeSpec := { name := "delNames", fn := fun _ => fun
  | [] => { results := [.lit (.bool true)], args := [] }
  | _ => none }
def delNamesRow : OpenClaim := { program := "ytckdncmjkloebaa", sum := "a76831facab18c1de4e640c37c720a0c4ae4a9a61ae67e0caec0b352dee47791", func := "scionry/scionrylaw13.DelNames", spec := "delNames", inPlace := ["slices.overlaps[scionry/api.Item]"], unfollowed := true, recurses := true, apart := false }
def DelNamesSaid : Prop := delNamesRow.holds Try.pinned (OpenSpec.ofChange delNamesSpec)

/-- ITS FALSE NEIGHBOUR: 'it returns false'. Refute it at one input. -/
def delNamesWrong : ChangeSpec := { name := "delNames", fn := fun _ => fun
  | [] => { results := [.lit (.bool false)], args := [] }
  | _ => none }
def DelNamesWrongFalsely : Prop := delNamesRow.holds Try.pinned (OpenSpec.ofChange delNamesWrong)

/- THE SECOND FORM. 'bulk': how many values and letters a reading holds, each counted each time it is reached (what is shared counts as often as it is met; a slice's spare places count too). A statement '..UptoSaid' is the law's where the arguments, and the package variables that the reading takes, are together of bulk at most 1048576: NARROWER than '..Said'. Prove '..Said' where nothing that the law and all that it calls make is longer than what came in: it says more and counts as full. Else prove '..UptoSaid'. A law counts once. -/
mutual
def uptoBulk {H : Type} : DataW H → Nat
  | .lit (.string bytes) => bytes.length + 1
  | .lit _ => 1
  | .nil => 1
  | .ptr d => uptoBulk d + 1
  | .slice elems spare => uptoBulkAll elems + uptoBulkAll spare + 1
  | .agg parts => uptoBulkAll parts + 1
  | .iface _ d => uptoBulk d + 1
  | .map entries => uptoBulkEntries entries + 1
  | .held _ => 1
def uptoBulkAll {H : Type} : List (DataW H) → Nat
  | [] => 0
  | d :: r => uptoBulk d + uptoBulkAll r
def uptoBulkEntries {H : Type} : List (Lit × DataW H) → Nat
  | [] => 0
  | x :: r => uptoBulkEntry x + uptoBulkEntries r
def uptoBulkEntry {H : Type} : Lit × DataW H → Nat
  | (.string bytes, d) => bytes.length + uptoBulk d + 1
  | (_, d) => uptoBulk d + 1
 end
def uptoSmall : (H : Type) → List (DataW H) → Bool := fun _ ds => decide (uptoBulkAll ds ≤ 1048576)
def OpenSpec.upto (s : _root_.Go.ChangeSpec) : _root_.Go.OpenSpec := { _root_.Go.OpenSpec.ofChange s with cond := some uptoSmall }

/-- 'scionrylaw12.PutNames', WHERE WHAT IT READS IS OF BULK AT MOST 1048576: true; the input reads as it did. -/
def putNamesUptoRow : OpenClaim := { program := "ytckdncmjkloebaa", sum := "a76831facab18c1de4e640c37c720a0c4ae4a9a61ae67e0caec0b352dee47791", func := "scionry/scionrylaw12.PutNames", spec := "putNames", inPlace := ["slices.overlaps[scionry/api.Item]"], unfollowed := true, recurses := true, apart := false, narrowed := true }
def PutNamesUptoSaid : Prop := putNamesUptoRow.holds Try.pinned (OpenSpec.upto putNamesSpec)

/-- 'scionrylaw13.DelNames', WHERE WHAT IT READS IS OF BULK AT MOST 1048576: true; the input reads as it did. -/
def delNamesUptoRow : OpenClaim := { program := "ytckdncmjkloebaa", sum := "a76831facab18c1de4e640c37c720a0c4ae4a9a61ae67e0caec0b352dee47791", func := "scionry/scionrylaw13.DelNames", spec := "delNames", inPlace := ["slices.overlaps[scionry/api.Item]"], unfollowed := true, recurses := true, apart := false, narrowed := true }
def DelNamesUptoSaid : Prop := delNamesUptoRow.holds Try.pinned (OpenSpec.upto delNamesSpec)

end Rows
end Go.Proofs.Ytckdncmjkloebaa
