/-
  No cell of these rows narrows 'for every input' (looked for: loops, veiled, ifaces, maps, wideKeys, modest, calm, conditions, laid).
  DERIVED. THE GIVEN ROWS OF THIS SEAT. 6 by the template 'for every input the law returns true; each argument reads behind the call as it read before'; 0 by the template 'total and deterministic' (their statements: YtgkhjpfnmbdchaaTotals.lean).
  GIVEN WITH THE SEED: the statements are not yours to turn. If you find one false, say at which input.
  Laid BY PROGRAM, IN A SANDBOX (cutbox-rows.mjs): the forced cells as the released guide's own fill.sh prints them over the translation 29189fac60e1728c… (all of the seat's roots in one cut). By AI agents, Wed Nov 11 2026. No macro, syntax, notation, axiom, sorry.
-/
import Derived.Test.YtgkhjpfnmbdchaaChecked
import GoSem.Claim
import GoSem.ClaimJoined
import GoSem.ClaimMapViews
import Derived.JoinedTies
import Derived.KernelRfl
namespace Go.Proofs.Ytgkhjpfnmbdchaa
/- THE CELL 'sum', in the pinned program and in every row, IS THE sha256 OF THE DUMP (.gsa) THAT YtgkhjpfnmbdchaaProg.lean LOADS. Nothing in Lean hashes anything: it is a label: what it is worth is what the hold of that sum in a sandbox is worth. -/
noncomputable def Try.pinned : Pinned := { name := "ytgkhjpfnmbdchaa", sum := "29189fac60e1728c2ff248bc6ec1b33d601e0577cb78b9aba6324b56ef520491", checked := Try.checked }
namespace Rows
def none {H : Type} : Left H := { results := [], args := [] }

/-- 'freeboardlaw05.ActsCrash': WHATEVER THE INPUT: true; the input reads as it did. -/
def actsCrashSpec : ChangeSpec := { name := "actsCrash", fn := fun _ => fun
  | [d1, d2] => { results := [.lit (.bool true)], args := [d1, d2] }
  | _ => none }
def actsCrashRow : OpenClaim := { program := "ytgkhjpfnmbdchaa", sum := "29189fac60e1728c2ff248bc6ec1b33d601e0577cb78b9aba6324b56ef520491", func := "freeboard/freeboardlaw05.ActsCrash", spec := "actsCrash", unfollowed := true, recurses := true, apart := false }
def ActsCrashSaid : Prop := actsCrashRow.holds Try.pinned (OpenSpec.ofChange actsCrashSpec)

/-- ITS FALSE NEIGHBOUR: 'it returns false'. Refute it at one input. -/
def actsCrashWrong : ChangeSpec := { name := "actsCrash", fn := fun _ => fun
  | [d1, d2] => { results := [.lit (.bool false)], args := [d1, d2] }
  | _ => none }
def ActsCrashWrongFalsely : Prop := actsCrashRow.holds Try.pinned (OpenSpec.ofChange actsCrashWrong)

/-- 'freeboardlaw05.ActsRuns': WHATEVER THE INPUT: true; the input reads as it did. -/
def actsRunsSpec : ChangeSpec := { name := "actsRuns", fn := fun _ => fun
  | [d1, d2, d3, d4] => { results := [.lit (.bool true)], args := [d1, d2, d3, d4] }
  | _ => none }
def actsRunsRow : OpenClaim := { program := "ytgkhjpfnmbdchaa", sum := "29189fac60e1728c2ff248bc6ec1b33d601e0577cb78b9aba6324b56ef520491", func := "freeboard/freeboardlaw05.ActsRuns", spec := "actsRuns", unfollowed := true, recurses := true, apart := false }
def ActsRunsSaid : Prop := actsRunsRow.holds Try.pinned (OpenSpec.ofChange actsRunsSpec)

/-- ITS FALSE NEIGHBOUR: 'it returns false'. Refute it at one input. -/
def actsRunsWrong : ChangeSpec := { name := "actsRuns", fn := fun _ => fun
  | [d1, d2, d3, d4] => { results := [.lit (.bool false)], args := [d1, d2, d3, d4] }
  | _ => none }
def ActsRunsWrongFalsely : Prop := actsRunsRow.holds Try.pinned (OpenSpec.ofChange actsRunsWrong)

/-- 'freeboardlaw05.ActsParts': WHATEVER THE INPUT: true; the input reads as it did. -/
def actsPartsSpec : ChangeSpec := { name := "actsParts", fn := fun _ => fun
  | [d1, d2, d3] => { results := [.lit (.bool true)], args := [d1, d2, d3] }
  | _ => none }
def actsPartsRow : OpenClaim := { program := "ytgkhjpfnmbdchaa", sum := "29189fac60e1728c2ff248bc6ec1b33d601e0577cb78b9aba6324b56ef520491", func := "freeboard/freeboardlaw05.ActsParts", spec := "actsParts", unfollowed := true, recurses := true, apart := false }
def ActsPartsSaid : Prop := actsPartsRow.holds Try.pinned (OpenSpec.ofChange actsPartsSpec)

/-- ITS FALSE NEIGHBOUR: 'it returns false'. Refute it at one input. -/
def actsPartsWrong : ChangeSpec := { name := "actsParts", fn := fun _ => fun
  | [d1, d2, d3] => { results := [.lit (.bool false)], args := [d1, d2, d3] }
  | _ => none }
def ActsPartsWrongFalsely : Prop := actsPartsRow.holds Try.pinned (OpenSpec.ofChange actsPartsWrong)

/-- 'freeboardlaw05.ActsKept': WHATEVER THE INPUT: true; the input reads as it did. -/
def actsKeptSpec : ChangeSpec := { name := "actsKept", fn := fun _ => fun
  | [d1, d2, d3, d4] => { results := [.lit (.bool true)], args := [d1, d2, d3, d4] }
  | _ => none }
def actsKeptRow : OpenClaim := { program := "ytgkhjpfnmbdchaa", sum := "29189fac60e1728c2ff248bc6ec1b33d601e0577cb78b9aba6324b56ef520491", func := "freeboard/freeboardlaw05.ActsKept", spec := "actsKept", unfollowed := true, recurses := true, apart := false }
def ActsKeptSaid : Prop := actsKeptRow.holds Try.pinned (OpenSpec.ofChange actsKeptSpec)

/-- ITS FALSE NEIGHBOUR: 'it returns false'. Refute it at one input. -/
def actsKeptWrong : ChangeSpec := { name := "actsKept", fn := fun _ => fun
  | [d1, d2, d3, d4] => { results := [.lit (.bool false)], args := [d1, d2, d3, d4] }
  | _ => none }
def ActsKeptWrongFalsely : Prop := actsKeptRow.holds Try.pinned (OpenSpec.ofChange actsKeptWrong)

/-- 'freeboardlaw05.ActsNames': WHATEVER THE INPUT: true; the input reads as it did. -/
def actsNamesSpec : ChangeSpec := { name := "actsNames", fn := fun _ => fun
  | [] => { results := [.lit (.bool true)], args := [] }
  | _ => none }
def actsNamesRow : OpenClaim := { program := "ytgkhjpfnmbdchaa", sum := "29189fac60e1728c2ff248bc6ec1b33d601e0577cb78b9aba6324b56ef520491", func := "freeboard/freeboardlaw05.ActsNames", spec := "actsNames", unfollowed := true, recurses := true, apart := false }
def ActsNamesSaid : Prop := actsNamesRow.holds Try.pinned (OpenSpec.ofChange actsNamesSpec)

/-- ITS FALSE NEIGHBOUR: 'it returns false'. Refute it at one input. -/
def actsNamesWrong : ChangeSpec := { name := "actsNames", fn := fun _ => fun
  | [] => { results := [.lit (.bool false)], args := [] }
  | _ => none }
def ActsNamesWrongFalsely : Prop := actsNamesRow.holds Try.pinned (OpenSpec.ofChange actsNamesWrong)

/-- 'freeboardlaw05.ActsAll': WHATEVER THE INPUT: true; the input reads as it did. -/
def actsAllSpec : ChangeSpec := { name := "actsAll", fn := fun _ => fun
  | [d1, d2, d3] => { results := [.lit (.bool true)], args := [d1, d2, d3] }
  | _ => none }
def actsAllRow : OpenClaim := { program := "ytgkhjpfnmbdchaa", sum := "29189fac60e1728c2ff248bc6ec1b33d601e0577cb78b9aba6324b56ef520491", func := "freeboard/freeboardlaw05.ActsAll", spec := "actsAll", unfollowed := true, recurses := true, apart := false }
def ActsAllSaid : Prop := actsAllRow.holds Try.pinned (OpenSpec.ofChange actsAllSpec)

/-- ITS FALSE NEIGHBOUR: 'it returns false'. Refute it at one input. -/
def actsAllWrong : ChangeSpec := { name := "actsAll", fn := fun _ => fun
  | [d1, d2, d3] => { results := [.lit (.bool false)], args := [d1, d2, d3] }
  | _ => none }
def ActsAllWrongFalsely : Prop := actsAllRow.holds Try.pinned (OpenSpec.ofChange actsAllWrong)

/- THE SECOND FORM. 'bulk': how many values and letters a reading holds, each counted each time it is reached (what is shared counts as often as it is met; a slice's spare places count too). A statement '..UptoSaid' is the law's where the arguments, and the package variables that the reading takes, are together of bulk at most 1048576: NARROWER than '..Said'. Prove '..Said' where nothing that the law and all that it calls make is longer than what came in: it says more and counts as full. Else prove '..UptoSaid'. A law counts once. -/
mutual
def uptoBulk {H : Type} : DataW H → Nat
  | .lit (.string bytes) => bytes.length + 1
  | .lit _ => 1
  | .nil => 1
  | .ptr d => uptoBulk d + 1
  | .slice elems spare => uptoBulkAll elems + uptoBulkAll spare + 1
  | .agg parts => uptoBulkAll parts + 1
  | .iface _ d => uptoBulk d + 1
  | .map entries => uptoBulkEntries entries + 1
  | .held _ => 1
def uptoBulkAll {H : Type} : List (DataW H) → Nat
  | [] => 0
  | d :: r => uptoBulk d + uptoBulkAll r
def uptoBulkEntries {H : Type} : List (Lit × DataW H) → Nat
  | [] => 0
  | x :: r => uptoBulkEntry x + uptoBulkEntries r
def uptoBulkEntry {H : Type} : Lit × DataW H → Nat
  | (.string bytes, d) => bytes.length + uptoBulk d + 1
  | (_, d) => uptoBulk d + 1
 end
def uptoSmall : (H : Type) → List (DataW H) → Bool := fun _ ds => decide (uptoBulkAll ds ≤ 1048576)
def OpenSpec.upto (s : _root_.Go.ChangeSpec) : _root_.Go.OpenSpec := { _root_.Go.OpenSpec.ofChange s with cond := some uptoSmall }

/-- 'freeboardlaw05.ActsCrash', WHERE WHAT IT READS IS OF BULK AT MOST 1048576: true; the input reads as it did. -/
def actsCrashUptoRow : OpenClaim := { program := "ytgkhjpfnmbdchaa", sum := "29189fac60e1728c2ff248bc6ec1b33d601e0577cb78b9aba6324b56ef520491", func := "freeboard/freeboardlaw05.ActsCrash", spec := "actsCrash", unfollowed := true, recurses := true, apart := false, narrowed := true }
def ActsCrashUptoSaid : Prop := actsCrashUptoRow.holds Try.pinned (OpenSpec.upto actsCrashSpec)

/-- 'freeboardlaw05.ActsRuns', WHERE WHAT IT READS IS OF BULK AT MOST 1048576: true; the input reads as it did. -/
def actsRunsUptoRow : OpenClaim := { program := "ytgkhjpfnmbdchaa", sum := "29189fac60e1728c2ff248bc6ec1b33d601e0577cb78b9aba6324b56ef520491", func := "freeboard/freeboardlaw05.ActsRuns", spec := "actsRuns", unfollowed := true, recurses := true, apart := false, narrowed := true }
def ActsRunsUptoSaid : Prop := actsRunsUptoRow.holds Try.pinned (OpenSpec.upto actsRunsSpec)

/-- 'freeboardlaw05.ActsParts', WHERE WHAT IT READS IS OF BULK AT MOST 1048576: true; the input reads as it did. -/
def actsPartsUptoRow : OpenClaim := { program := "ytgkhjpfnmbdchaa", sum := "29189fac60e1728c2ff248bc6ec1b33d601e0577cb78b9aba6324b56ef520491", func := "freeboard/freeboardlaw05.ActsParts", spec := "actsParts", unfollowed := true, recurses := true, apart := false, narrowed := true }
def ActsPartsUptoSaid : Prop := actsPartsUptoRow.holds Try.pinned (OpenSpec.upto actsPartsSpec)

/-- 'freeboardlaw05.ActsKept', WHERE WHAT IT READS IS OF BULK AT MOST 1048576: true; the input reads as it did. -/
def actsKeptUptoRow : OpenClaim := { program := "ytgkhjpfnmbdchaa", sum := "29189fac60e1728c2ff248bc6ec1b33d601e0577cb78b9aba6324b56ef520491", func := "freeboard/freeboardlaw05.ActsKept", spec := "actsKept", unfollowed := true, recurses := true, apart := false, narrowed := true }
def ActsKeptUptoSaid : Prop := actsKeptUptoRow.holds Try.pinned (OpenSpec.upto actsKeptSpec)

/-- 'freeboardlaw05.ActsNames', WHERE WHAT IT READS IS OF BULK AT MOST 1048576: true; the input reads as it did. -/
def actsNamesUptoRow : OpenClaim := { program := "ytgkhjpfnmbdchaa", sum := "29189fac60e1728c2ff248bc6ec1b33d601e0577cb78b9aba6324b56ef520491", func := "freeboard/freeboardlaw05.ActsNames", spec := "actsNames", unfollowed := true, recurses := true, apart := false, narrowed := true }
def ActsNamesUptoSaid : Prop := actsNamesUptoRow.holds Try.pinned (OpenSpec.upto actsNamesSpec)

/-- 'freeboardlaw05.ActsAll', WHERE WHAT IT READS IS OF BULK AT MOST 1048576: true; the input reads as it did. -/
def actsAllUptoRow : OpenClaim := { program := "ytgkhjpfnmbdchaa", sum := "29189fac60e1728c2ff248bc6ec1b33d601e0577cb78b9aba6324b56ef520491", func := "freeboard/freeboardlaw05.ActsAll", spec := "actsAll", unfollowed := true, recurses := true, apart := false, narrowed := true }
def ActsAllUptoSaid : Prop := actsAllUptoRow.holds Try.pinned (OpenSpec.upto actsAllSpec)

end Rows
end Go.Proofs.Ytgkhjpfnmbdchaa
