/-
  No cell of these rows narrows 'for every input' (looked for: loops, veiled, ifaces, maps, wideKeys, modest, calm, conditions, laid).
  DERIVED. THE GIVEN ROWS OF THIS SEAT. 5 by the template 'for every input the law returns true; each argument reads behind the call as it read before'; 0 by the template 'total and deterministic' (their statements: YtoincdcejjdgkaaGreatTotals.lean).
  GIVEN WITH THE SEED: the statements are not yours to turn. If you find one false, say at which input.
  Laid BY PROGRAM, IN A SANDBOX (cutbox-rows.mjs): the forced cells as the released guide's own fill.sh prints them over the translation 033a15df486192c1… (all of the seat's roots in one cut). By AI agents, Wed Nov 11 2026. No macro, syntax, notation, axiom, sorry.
-/
import Derived.Test.YtoincdcejjdgkaaGreatChecked
import GoSem.Claim
import GoSem.ClaimJoined
import GoSem.ClaimMapViews
import Derived.JoinedTies
import Derived.KernelRfl
namespace Go.Proofs.YtoincdcejjdgkaaGreat
/- THE CELL 'sum', in the pinned program and in every row, IS THE sha256 OF THE DUMP (.gsa) THAT YtoincdcejjdgkaaGreatProg.lean LOADS. Nothing in Lean hashes anything: it is a label: what it is worth is what the hold of that sum in a sandbox is worth. -/
noncomputable def Tryz.pinned : Pinned := { name := "ytoincdcejjdgkaagreat", sum := "033a15df486192c117ccd0647afe574f0eaef04e5a97c4a3cab3c2706e60f63f", checked := Tryz.checked }
namespace Rows
def none {H : Type} : Left H := { results := [], args := [] }

/-- 'scionrylaw16.MountCommits': WHATEVER THE INPUT: true; the input reads as it did. -/
def mountCommitsSpec : ChangeSpec := { name := "mountCommits", fn := fun _ => fun
  | [d] => { results := [.lit (.bool true)], args := [d] }
  | _ => none }
def mountCommitsRow : OpenClaim := { program := "ytoincdcejjdgkaagreat", sum := "033a15df486192c117ccd0647afe574f0eaef04e5a97c4a3cab3c2706e60f63f", func := "scionry/scionrylaw16.MountCommits", spec := "mountCommits", inPlace := ["slices.overlaps[scionry/api.Item]"], unfollowed := true, recurses := true, apart := false }
def MountCommitsSaid : Prop := mountCommitsRow.holds Tryz.pinned (OpenSpec.ofChange mountCommitsSpec)

/-- ITS FALSE NEIGHBOUR: 'it returns false'. Refute it at one input. -/
def mountCommitsWrong : ChangeSpec := { name := "mountCommits", fn := fun _ => fun
  | [d] => { results := [.lit (.bool false)], args := [d] }
  | _ => none }
def MountCommitsWrongFalsely : Prop := mountCommitsRow.holds Tryz.pinned (OpenSpec.ofChange mountCommitsWrong)

/-- 'scionrylaw16.MountOther': WHATEVER THE INPUT: true; the input reads as it did. -/
def mountOtherSpec : ChangeSpec := { name := "mountOther", fn := fun _ => fun
  | [d1, d2, d3] => { results := [.lit (.bool true)], args := [d1, d2, d3] }
  | _ => none }
def mountOtherRow : OpenClaim := { program := "ytoincdcejjdgkaagreat", sum := "033a15df486192c117ccd0647afe574f0eaef04e5a97c4a3cab3c2706e60f63f", func := "scionry/scionrylaw16.MountOther", spec := "mountOther", inPlace := ["slices.overlaps[scionry/api.Item]"], unfollowed := true, recurses := true, apart := false }
def MountOtherSaid : Prop := mountOtherRow.holds Tryz.pinned (OpenSpec.ofChange mountOtherSpec)

/-- ITS FALSE NEIGHBOUR: 'it returns false'. Refute it at one input. -/
def mountOtherWrong : ChangeSpec := { name := "mountOther", fn := fun _ => fun
  | [d1, d2, d3] => { results := [.lit (.bool false)], args := [d1, d2, d3] }
  | _ => none }
def MountOtherWrongFalsely : Prop := mountOtherRow.holds Tryz.pinned (OpenSpec.ofChange mountOtherWrong)

/-- 'scionrylaw16.MountTwice': WHATEVER THE INPUT: true; the input reads as it did. -/
def mountTwiceSpec : ChangeSpec := { name := "mountTwice", fn := fun _ => fun
  | [d] => { results := [.lit (.bool true)], args := [d] }
  | _ => none }
def mountTwiceRow : OpenClaim := { program := "ytoincdcejjdgkaagreat", sum := "033a15df486192c117ccd0647afe574f0eaef04e5a97c4a3cab3c2706e60f63f", func := "scionry/scionrylaw16.MountTwice", spec := "mountTwice", inPlace := ["slices.overlaps[scionry/api.Item]"], unfollowed := true, recurses := true, apart := false }
def MountTwiceSaid : Prop := mountTwiceRow.holds Tryz.pinned (OpenSpec.ofChange mountTwiceSpec)

/-- ITS FALSE NEIGHBOUR: 'it returns false'. Refute it at one input. -/
def mountTwiceWrong : ChangeSpec := { name := "mountTwice", fn := fun _ => fun
  | [d] => { results := [.lit (.bool false)], args := [d] }
  | _ => none }
def MountTwiceWrongFalsely : Prop := mountTwiceRow.holds Tryz.pinned (OpenSpec.ofChange mountTwiceWrong)

/-- 'scionrylaw16.MountNames': WHATEVER THE INPUT: true; the input reads as it did. -/
def mountNamesSpec : ChangeSpec := { name := "mountNames", fn := fun _ => fun
  | [] => { results := [.lit (.bool true)], args := [] }
  | _ => none }
def mountNamesRow : OpenClaim := { program := "ytoincdcejjdgkaagreat", sum := "033a15df486192c117ccd0647afe574f0eaef04e5a97c4a3cab3c2706e60f63f", func := "scionry/scionrylaw16.MountNames", spec := "mountNames", inPlace := ["slices.overlaps[scionry/api.Item]"], unfollowed := true, recurses := true, apart := false }
def MountNamesSaid : Prop := mountNamesRow.holds Tryz.pinned (OpenSpec.ofChange mountNamesSpec)

/-- ITS FALSE NEIGHBOUR: 'it returns false'. Refute it at one input. -/
def mountNamesWrong : ChangeSpec := { name := "mountNames", fn := fun _ => fun
  | [] => { results := [.lit (.bool false)], args := [] }
  | _ => none }
def MountNamesWrongFalsely : Prop := mountNamesRow.holds Tryz.pinned (OpenSpec.ofChange mountNamesWrong)

/-- 'scionrylaw16.MountCrash': WHATEVER THE INPUT: true; the input reads as it did. -/
def mountCrashSpec : ChangeSpec := { name := "mountCrash", fn := fun _ => fun
  | [d1, d2] => { results := [.lit (.bool true)], args := [d1, d2] }
  | _ => none }
def mountCrashRow : OpenClaim := { program := "ytoincdcejjdgkaagreat", sum := "033a15df486192c117ccd0647afe574f0eaef04e5a97c4a3cab3c2706e60f63f", func := "scionry/scionrylaw16.MountCrash", spec := "mountCrash", inPlace := ["slices.overlaps[scionry/api.Item]"], unfollowed := true, recurses := true, apart := false }
def MountCrashSaid : Prop := mountCrashRow.holds Tryz.pinned (OpenSpec.ofChange mountCrashSpec)

/-- ITS FALSE NEIGHBOUR: 'it returns false'. Refute it at one input. -/
def mountCrashWrong : ChangeSpec := { name := "mountCrash", fn := fun _ => fun
  | [d1, d2] => { results := [.lit (.bool false)], args := [d1, d2] }
  | _ => none }
def MountCrashWrongFalsely : Prop := mountCrashRow.holds Tryz.pinned (OpenSpec.ofChange mountCrashWrong)

/- THE SECOND FORM. 'bulk': how many values and letters a reading holds, each counted each time it is reached (what is shared counts as often as it is met; a slice's spare places count too). A statement '..UptoSaid' is the law's where the arguments, and the package variables that the reading takes, are together of bulk at most 1048576: NARROWER than '..Said'. Prove '..Said' where nothing that the law and all that it calls make is longer than what came in: it says more and counts as full. Else prove '..UptoSaid'. A law counts once. -/
mutual
def uptoBulk {H : Type} : DataW H → Nat
  | .lit (.string bytes) => bytes.length + 1
  | .lit _ => 1
  | .nil => 1
  | .ptr d => uptoBulk d + 1
  | .slice elems spare => uptoBulkAll elems + uptoBulkAll spare + 1
  | .agg parts => uptoBulkAll parts + 1
  | .iface _ d => uptoBulk d + 1
  | .map entries => uptoBulkEntries entries + 1
  | .held _ => 1
def uptoBulkAll {H : Type} : List (DataW H) → Nat
  | [] => 0
  | d :: r => uptoBulk d + uptoBulkAll r
def uptoBulkEntries {H : Type} : List (Lit × DataW H) → Nat
  | [] => 0
  | x :: r => uptoBulkEntry x + uptoBulkEntries r
def uptoBulkEntry {H : Type} : Lit × DataW H → Nat
  | (.string bytes, d) => bytes.length + uptoBulk d + 1
  | (_, d) => uptoBulk d + 1
 end
def uptoSmall : (H : Type) → List (DataW H) → Bool := fun _ ds => decide (uptoBulkAll ds ≤ 1048576)
def OpenSpec.upto (s : _root_.Go.ChangeSpec) : _root_.Go.OpenSpec := { _root_.Go.OpenSpec.ofChange s with cond := some uptoSmall }

/-- 'scionrylaw16.MountCommits', WHERE WHAT IT READS IS OF BULK AT MOST 1048576: true; the input reads as it did. -/
def mountCommitsUptoRow : OpenClaim := { program := "ytoincdcejjdgkaagreat", sum := "033a15df486192c117ccd0647afe574f0eaef04e5a97c4a3cab3c2706e60f63f", func := "scionry/scionrylaw16.MountCommits", spec := "mountCommits", inPlace := ["slices.overlaps[scionry/api.Item]"], unfollowed := true, recurses := true, apart := false, narrowed := true }
def MountCommitsUptoSaid : Prop := mountCommitsUptoRow.holds Tryz.pinned (OpenSpec.upto mountCommitsSpec)

/-- 'scionrylaw16.MountOther', WHERE WHAT IT READS IS OF BULK AT MOST 1048576: true; the input reads as it did. -/
def mountOtherUptoRow : OpenClaim := { program := "ytoincdcejjdgkaagreat", sum := "033a15df486192c117ccd0647afe574f0eaef04e5a97c4a3cab3c2706e60f63f", func := "scionry/scionrylaw16.MountOther", spec := "mountOther", inPlace := ["slices.overlaps[scionry/api.Item]"], unfollowed := true, recurses := true, apart := false, narrowed := true }
def MountOtherUptoSaid : Prop := mountOtherUptoRow.holds Tryz.pinned (OpenSpec.upto mountOtherSpec)

/-- 'scionrylaw16.MountTwice', WHERE WHAT IT READS IS OF BULK AT MOST 1048576: true; the input reads as it did. -/
def mountTwiceUptoRow : OpenClaim := { program := "ytoincdcejjdgkaagreat", sum := "033a15df486192c117ccd0647afe574f0eaef04e5a97c4a3cab3c2706e60f63f", func := "scionry/scionrylaw16.MountTwice", spec := "mountTwice", inPlace := ["slices.overlaps[scionry/api.Item]"], unfollowed := true, recurses := true, apart := false, narrowed := true }
def MountTwiceUptoSaid : Prop := mountTwiceUptoRow.holds Tryz.pinned (OpenSpec.upto mountTwiceSpec)

/-- 'scionrylaw16.MountNames', WHERE WHAT IT READS IS OF BULK AT MOST 1048576: true; the input reads as it did. -/
def mountNamesUptoRow : OpenClaim := { program := "ytoincdcejjdgkaagreat", sum := "033a15df486192c117ccd0647afe574f0eaef04e5a97c4a3cab3c2706e60f63f", func := "scionry/scionrylaw16.MountNames", spec := "mountNames", inPlace := ["slices.overlaps[scionry/api.Item]"], unfollowed := true, recurses := true, apart := false, narrowed := true }
def MountNamesUptoSaid : Prop := mountNamesUptoRow.holds Tryz.pinned (OpenSpec.upto mountNamesSpec)

/-- 'scionrylaw16.MountCrash', WHERE WHAT IT READS IS OF BULK AT MOST 1048576: true; the input reads as it did. -/
def mountCrashUptoRow : OpenClaim := { program := "ytoincdcejjdgkaagreat", sum := "033a15df486192c117ccd0647afe574f0eaef04e5a97c4a3cab3c2706e60f63f", func := "scionry/scionrylaw16.MountCrash", spec := "mountCrash", inPlace := ["slices.overlaps[scionry/api.Item]"], unfollowed := true, recurses := true, apart := false, narrowed := true }
def MountCrashUptoSaid : Prop := mountCrashUptoRow.holds Tryz.pinned (OpenSpec.upto mountCrashSpec)

end Rows
end Go.Proofs.YtoincdcejjdgkaaGreat
