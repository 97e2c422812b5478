/-
  No cell of these rows narrows 'for every input' (looked for: loops, veiled, ifaces, maps, wideKeys, modest, calm, conditions, laid).
  DERIVED. THE GIVEN ROWS OF THIS SEAT. 4 by the template 'for every input the law returns true; each argument reads behind the call as it read before'; 0 by the template 'total and deterministic' (their statements: YtmlmlfghogoadaaTotals.lean).
  GIVEN WITH THE SEED: the statements are not yours to turn. If you find one false, say at which input.
  Laid BY PROGRAM, IN A SANDBOX (cutbox-rows.mjs): the forced cells as the released guide's own fill.sh prints them over the translation 3946b9e04c15643a… (all of the seat's roots in one cut). By AI agents, Wed Nov 11 2026. No macro, syntax, notation, axiom, sorry.
-/
import Derived.Test.YtmlmlfghogoadaaChecked
import GoSem.Claim
import GoSem.ClaimJoined
import GoSem.ClaimMapViews
import Derived.JoinedTies
import Derived.KernelRfl
namespace Go.Proofs.Ytmlmlfghogoadaa
/- THE CELL 'sum', in the pinned program and in every row, IS THE sha256 OF THE DUMP (.gsa) THAT YtmlmlfghogoadaaProg.lean LOADS. Nothing in Lean hashes anything: it is a label: what it is worth is what the hold of that sum in a sandbox is worth. -/
noncomputable def Try.pinned : Pinned := { name := "ytmlmlfghogoadaa", sum := "3946b9e04c15643a54d9d105b4c16fecf0ae5cfc1f0d77189848fbd002a97638", checked := Try.checked }
namespace Rows
def none {H : Type} : Left H := { results := [], args := [] }

/-- 'freeboardlaw27.RedoNames': WHATEVER THE INPUT: true; the input reads as it did. -/
def redoNamesSpec : ChangeSpec := { name := "redoNames", fn := fun _ => fun
  | [] => { results := [.lit (.bool true)], args := [] }
  | _ => none }
def redoNamesRow : OpenClaim := { program := "ytmlmlfghogoadaa", sum := "3946b9e04c15643a54d9d105b4c16fecf0ae5cfc1f0d77189848fbd002a97638", func := "freeboard/freeboardlaw27.RedoNames", spec := "redoNames", inPlace := ["slices.overlaps[int]", "slices.overlaps[[]byte]"], unfollowed := true, recurses := true, apart := false }
def RedoNamesSaid : Prop := redoNamesRow.holds Try.pinned (OpenSpec.ofChange redoNamesSpec)

/-- ITS FALSE NEIGHBOUR: 'it returns false'. Refute it at one input. -/
def redoNamesWrong : ChangeSpec := { name := "redoNames", fn := fun _ => fun
  | [] => { results := [.lit (.bool false)], args := [] }
  | _ => none }
def RedoNamesWrongFalsely : Prop := redoNamesRow.holds Try.pinned (OpenSpec.ofChange redoNamesWrong)

/-- 'freeboardlaw27.RedoBegins': WHATEVER THE INPUT: true; the input reads as it did. -/
def redoBeginsSpec : ChangeSpec := { name := "redoBegins", fn := fun _ => fun
  | [d1, d2, d3, d4] => { results := [.lit (.bool true)], args := [d1, d2, d3, d4] }
  | _ => none }
def redoBeginsRow : OpenClaim := { program := "ytmlmlfghogoadaa", sum := "3946b9e04c15643a54d9d105b4c16fecf0ae5cfc1f0d77189848fbd002a97638", func := "freeboard/freeboardlaw27.RedoBegins", spec := "redoBegins", inPlace := ["slices.overlaps[int]", "slices.overlaps[[]byte]"], unfollowed := true, recurses := true, apart := false }
def RedoBeginsSaid : Prop := redoBeginsRow.holds Try.pinned (OpenSpec.ofChange redoBeginsSpec)

/-- ITS FALSE NEIGHBOUR: 'it returns false'. Refute it at one input. -/
def redoBeginsWrong : ChangeSpec := { name := "redoBegins", fn := fun _ => fun
  | [d1, d2, d3, d4] => { results := [.lit (.bool false)], args := [d1, d2, d3, d4] }
  | _ => none }
def RedoBeginsWrongFalsely : Prop := redoBeginsRow.holds Try.pinned (OpenSpec.ofChange redoBeginsWrong)

/-- 'freeboardlaw27.RedoLast': WHATEVER THE INPUT: true; the input reads as it did. -/
def redoLastSpec : ChangeSpec := { name := "redoLast", fn := fun _ => fun
  | [d1, d2, d3, d4, d5, d6] => { results := [.lit (.bool true)], args := [d1, d2, d3, d4, d5, d6] }
  | _ => none }
def redoLastRow : OpenClaim := { program := "ytmlmlfghogoadaa", sum := "3946b9e04c15643a54d9d105b4c16fecf0ae5cfc1f0d77189848fbd002a97638", func := "freeboard/freeboardlaw27.RedoLast", spec := "redoLast", inPlace := ["slices.overlaps[int]", "slices.overlaps[[]byte]"], unfollowed := true, recurses := true, apart := false }
def RedoLastSaid : Prop := redoLastRow.holds Try.pinned (OpenSpec.ofChange redoLastSpec)

/-- ITS FALSE NEIGHBOUR: 'it returns false'. Refute it at one input. -/
def redoLastWrong : ChangeSpec := { name := "redoLast", fn := fun _ => fun
  | [d1, d2, d3, d4, d5, d6] => { results := [.lit (.bool false)], args := [d1, d2, d3, d4, d5, d6] }
  | _ => none }
def RedoLastWrongFalsely : Prop := redoLastRow.holds Try.pinned (OpenSpec.ofChange redoLastWrong)

/-- 'freeboardlaw27.RedoTwice': WHATEVER THE INPUT: true; the input reads as it did. -/
def redoTwiceSpec : ChangeSpec := { name := "redoTwice", fn := fun _ => fun
  | [d1, d2, d3, d4, d5, d6] => { results := [.lit (.bool true)], args := [d1, d2, d3, d4, d5, d6] }
  | _ => none }
def redoTwiceRow : OpenClaim := { program := "ytmlmlfghogoadaa", sum := "3946b9e04c15643a54d9d105b4c16fecf0ae5cfc1f0d77189848fbd002a97638", func := "freeboard/freeboardlaw27.RedoTwice", spec := "redoTwice", inPlace := ["slices.overlaps[int]", "slices.overlaps[[]byte]"], unfollowed := true, recurses := true, apart := false }
def RedoTwiceSaid : Prop := redoTwiceRow.holds Try.pinned (OpenSpec.ofChange redoTwiceSpec)

/-- ITS FALSE NEIGHBOUR: 'it returns false'. Refute it at one input. -/
def redoTwiceWrong : ChangeSpec := { name := "redoTwice", fn := fun _ => fun
  | [d1, d2, d3, d4, d5, d6] => { results := [.lit (.bool false)], args := [d1, d2, d3, d4, d5, d6] }
  | _ => none }
def RedoTwiceWrongFalsely : Prop := redoTwiceRow.holds Try.pinned (OpenSpec.ofChange redoTwiceWrong)

/- THE SECOND FORM. 'bulk': how many values and letters a reading holds, each counted each time it is reached (what is shared counts as often as it is met; a slice's spare places count too). A statement '..UptoSaid' is the law's where the arguments, and the package variables that the reading takes, are together of bulk at most 1048576: NARROWER than '..Said'. Prove '..Said' where nothing that the law and all that it calls make is longer than what came in: it says more and counts as full. Else prove '..UptoSaid'. A law counts once. -/
mutual
def uptoBulk {H : Type} : DataW H → Nat
  | .lit (.string bytes) => bytes.length + 1
  | .lit _ => 1
  | .nil => 1
  | .ptr d => uptoBulk d + 1
  | .slice elems spare => uptoBulkAll elems + uptoBulkAll spare + 1
  | .agg parts => uptoBulkAll parts + 1
  | .iface _ d => uptoBulk d + 1
  | .map entries => uptoBulkEntries entries + 1
  | .held _ => 1
def uptoBulkAll {H : Type} : List (DataW H) → Nat
  | [] => 0
  | d :: r => uptoBulk d + uptoBulkAll r
def uptoBulkEntries {H : Type} : List (Lit × DataW H) → Nat
  | [] => 0
  | x :: r => uptoBulkEntry x + uptoBulkEntries r
def uptoBulkEntry {H : Type} : Lit × DataW H → Nat
  | (.string bytes, d) => bytes.length + uptoBulk d + 1
  | (_, d) => uptoBulk d + 1
 end
def uptoSmall : (H : Type) → List (DataW H) → Bool := fun _ ds => decide (uptoBulkAll ds ≤ 1048576)
def OpenSpec.upto (s : _root_.Go.ChangeSpec) : _root_.Go.OpenSpec := { _root_.Go.OpenSpec.ofChange s with cond := some uptoSmall }

/-- 'freeboardlaw27.RedoNames', WHERE WHAT IT READS IS OF BULK AT MOST 1048576: true; the input reads as it did. -/
def redoNamesUptoRow : OpenClaim := { program := "ytmlmlfghogoadaa", sum := "3946b9e04c15643a54d9d105b4c16fecf0ae5cfc1f0d77189848fbd002a97638", func := "freeboard/freeboardlaw27.RedoNames", spec := "redoNames", inPlace := ["slices.overlaps[int]", "slices.overlaps[[]byte]"], unfollowed := true, recurses := true, apart := false, narrowed := true }
def RedoNamesUptoSaid : Prop := redoNamesUptoRow.holds Try.pinned (OpenSpec.upto redoNamesSpec)

/-- 'freeboardlaw27.RedoBegins', WHERE WHAT IT READS IS OF BULK AT MOST 1048576: true; the input reads as it did. -/
def redoBeginsUptoRow : OpenClaim := { program := "ytmlmlfghogoadaa", sum := "3946b9e04c15643a54d9d105b4c16fecf0ae5cfc1f0d77189848fbd002a97638", func := "freeboard/freeboardlaw27.RedoBegins", spec := "redoBegins", inPlace := ["slices.overlaps[int]", "slices.overlaps[[]byte]"], unfollowed := true, recurses := true, apart := false, narrowed := true }
def RedoBeginsUptoSaid : Prop := redoBeginsUptoRow.holds Try.pinned (OpenSpec.upto redoBeginsSpec)

/-- 'freeboardlaw27.RedoLast', WHERE WHAT IT READS IS OF BULK AT MOST 1048576: true; the input reads as it did. -/
def redoLastUptoRow : OpenClaim := { program := "ytmlmlfghogoadaa", sum := "3946b9e04c15643a54d9d105b4c16fecf0ae5cfc1f0d77189848fbd002a97638", func := "freeboard/freeboardlaw27.RedoLast", spec := "redoLast", inPlace := ["slices.overlaps[int]", "slices.overlaps[[]byte]"], unfollowed := true, recurses := true, apart := false, narrowed := true }
def RedoLastUptoSaid : Prop := redoLastUptoRow.holds Try.pinned (OpenSpec.upto redoLastSpec)

/-- 'freeboardlaw27.RedoTwice', WHERE WHAT IT READS IS OF BULK AT MOST 1048576: true; the input reads as it did. -/
def redoTwiceUptoRow : OpenClaim := { program := "ytmlmlfghogoadaa", sum := "3946b9e04c15643a54d9d105b4c16fecf0ae5cfc1f0d77189848fbd002a97638", func := "freeboard/freeboardlaw27.RedoTwice", spec := "redoTwice", inPlace := ["slices.overlaps[int]", "slices.overlaps[[]byte]"], unfollowed := true, recurses := true, apart := false, narrowed := true }
def RedoTwiceUptoSaid : Prop := redoTwiceUptoRow.holds Try.pinned (OpenSpec.upto redoTwiceSpec)

end Rows
end Go.Proofs.Ytmlmlfghogoadaa
