/-
  No cell of these rows narrows 'for every input' (looked for: loops, veiled, ifaces, maps, wideKeys, modest, calm, conditions, laid).
  DERIVED. THE GIVEN ROWS OF THIS SEAT. 6 by the template 'for every input the law returns true; each argument reads behind the call as it read before'; 0 by the template 'total and deterministic' (their statements: YtjefieckineneaaTotals.lean).
  GIVEN WITH THE SEED: the statements are not yours to turn. If you find one false, say at which input.
  Laid BY PROGRAM, IN A SANDBOX (cutbox-rows.mjs): the forced cells as the released guide's own fill.sh prints them over the translation 6cf404c39d31689b… (all of the seat's roots in one cut). By AI agents, Wed Nov 11 2026. No macro, syntax, notation, axiom, sorry.
-/
import Derived.Test.YtjefieckineneaaChecked
import GoSem.Claim
import GoSem.ClaimJoined
import GoSem.ClaimMapViews
import Derived.JoinedTies
import Derived.KernelRfl
namespace Go.Proofs.Ytjefieckineneaa
/- THE CELL 'sum', in the pinned program and in every row, IS THE sha256 OF THE DUMP (.gsa) THAT YtjefieckineneaaProg.lean LOADS. Nothing in Lean hashes anything: it is a label: what it is worth is what the hold of that sum in a sandbox is worth. -/
noncomputable def Try.pinned : Pinned := { name := "ytjefieckineneaa", sum := "6cf404c39d31689bc03f04cbeeb94e9b4ee36114fdbbac9dcff55314ccba4a24", checked := Try.checked }
namespace Rows
def none {H : Type} : Left H := { results := [], args := [] }

/-- 'freeboardlaw16.HeadTells': WHATEVER THE INPUT: true; the input reads as it did. -/
def headTellsSpec : ChangeSpec := { name := "headTells", fn := fun _ => fun
  | [d1, d2, d3] => { results := [.lit (.bool true)], args := [d1, d2, d3] }
  | _ => none }
def headTellsRow : OpenClaim := { program := "ytjefieckineneaa", sum := "6cf404c39d31689bc03f04cbeeb94e9b4ee36114fdbbac9dcff55314ccba4a24", func := "freeboard/freeboardlaw16.HeadTells", spec := "headTells", unfollowed := true, recurses := true, apart := false }
def HeadTellsSaid : Prop := headTellsRow.holds Try.pinned (OpenSpec.ofChange headTellsSpec)

/-- ITS FALSE NEIGHBOUR: 'it returns false'. Refute it at one input. -/
def headTellsWrong : ChangeSpec := { name := "headTells", fn := fun _ => fun
  | [d1, d2, d3] => { results := [.lit (.bool false)], args := [d1, d2, d3] }
  | _ => none }
def HeadTellsWrongFalsely : Prop := headTellsRow.holds Try.pinned (OpenSpec.ofChange headTellsWrong)

/-- 'freeboardlaw16.HeadTurns': WHATEVER THE INPUT: true; the input reads as it did. -/
def headTurnsSpec : ChangeSpec := { name := "headTurns", fn := fun _ => fun
  | [d1, d2, d3, d4, d5] => { results := [.lit (.bool true)], args := [d1, d2, d3, d4, d5] }
  | _ => none }
def headTurnsRow : OpenClaim := { program := "ytjefieckineneaa", sum := "6cf404c39d31689bc03f04cbeeb94e9b4ee36114fdbbac9dcff55314ccba4a24", func := "freeboard/freeboardlaw16.HeadTurns", spec := "headTurns", unfollowed := true, recurses := true, apart := false }
def HeadTurnsSaid : Prop := headTurnsRow.holds Try.pinned (OpenSpec.ofChange headTurnsSpec)

/-- ITS FALSE NEIGHBOUR: 'it returns false'. Refute it at one input. -/
def headTurnsWrong : ChangeSpec := { name := "headTurns", fn := fun _ => fun
  | [d1, d2, d3, d4, d5] => { results := [.lit (.bool false)], args := [d1, d2, d3, d4, d5] }
  | _ => none }
def HeadTurnsWrongFalsely : Prop := headTurnsRow.holds Try.pinned (OpenSpec.ofChange headTurnsWrong)

/-- 'freeboardlaw16.HeadMoves': WHATEVER THE INPUT: true; the input reads as it did. -/
def headMovesSpec : ChangeSpec := { name := "headMoves", fn := fun _ => fun
  | [d1, d2, d3, d4] => { results := [.lit (.bool true)], args := [d1, d2, d3, d4] }
  | _ => none }
def headMovesRow : OpenClaim := { program := "ytjefieckineneaa", sum := "6cf404c39d31689bc03f04cbeeb94e9b4ee36114fdbbac9dcff55314ccba4a24", func := "freeboard/freeboardlaw16.HeadMoves", spec := "headMoves", unfollowed := true, recurses := true, apart := false }
def HeadMovesSaid : Prop := headMovesRow.holds Try.pinned (OpenSpec.ofChange headMovesSpec)

/-- ITS FALSE NEIGHBOUR: 'it returns false'. Refute it at one input. -/
def headMovesWrong : ChangeSpec := { name := "headMoves", fn := fun _ => fun
  | [d1, d2, d3, d4] => { results := [.lit (.bool false)], args := [d1, d2, d3, d4] }
  | _ => none }
def HeadMovesWrongFalsely : Prop := headMovesRow.holds Try.pinned (OpenSpec.ofChange headMovesWrong)

/-- 'freeboardlaw16.HeadApart': WHATEVER THE INPUT: true; the input reads as it did. -/
def headApartSpec : ChangeSpec := { name := "headApart", fn := fun _ => fun
  | [d1, d2, d3, d4, d5] => { results := [.lit (.bool true)], args := [d1, d2, d3, d4, d5] }
  | _ => none }
def headApartRow : OpenClaim := { program := "ytjefieckineneaa", sum := "6cf404c39d31689bc03f04cbeeb94e9b4ee36114fdbbac9dcff55314ccba4a24", func := "freeboard/freeboardlaw16.HeadApart", spec := "headApart", unfollowed := true, recurses := true, apart := false }
def HeadApartSaid : Prop := headApartRow.holds Try.pinned (OpenSpec.ofChange headApartSpec)

/-- ITS FALSE NEIGHBOUR: 'it returns false'. Refute it at one input. -/
def headApartWrong : ChangeSpec := { name := "headApart", fn := fun _ => fun
  | [d1, d2, d3, d4, d5] => { results := [.lit (.bool false)], args := [d1, d2, d3, d4, d5] }
  | _ => none }
def HeadApartWrongFalsely : Prop := headApartRow.holds Try.pinned (OpenSpec.ofChange headApartWrong)

/-- 'freeboardlaw16.HeadKeeps': WHATEVER THE INPUT: true; the input reads as it did. -/
def headKeepsSpec : ChangeSpec := { name := "headKeeps", fn := fun _ => fun
  | [d] => { results := [.lit (.bool true)], args := [d] }
  | _ => none }
def headKeepsRow : OpenClaim := { program := "ytjefieckineneaa", sum := "6cf404c39d31689bc03f04cbeeb94e9b4ee36114fdbbac9dcff55314ccba4a24", func := "freeboard/freeboardlaw16.HeadKeeps", spec := "headKeeps", unfollowed := true, recurses := true, apart := false }
def HeadKeepsSaid : Prop := headKeepsRow.holds Try.pinned (OpenSpec.ofChange headKeepsSpec)

/-- ITS FALSE NEIGHBOUR: 'it returns false'. Refute it at one input. -/
def headKeepsWrong : ChangeSpec := { name := "headKeeps", fn := fun _ => fun
  | [d] => { results := [.lit (.bool false)], args := [d] }
  | _ => none }
def HeadKeepsWrongFalsely : Prop := headKeepsRow.holds Try.pinned (OpenSpec.ofChange headKeepsWrong)

/-- 'freeboardlaw16.HeadNames': WHATEVER THE INPUT: true; the input reads as it did. -/
def headNamesSpec : ChangeSpec := { name := "headNames", fn := fun _ => fun
  | [] => { results := [.lit (.bool true)], args := [] }
  | _ => none }
def headNamesRow : OpenClaim := { program := "ytjefieckineneaa", sum := "6cf404c39d31689bc03f04cbeeb94e9b4ee36114fdbbac9dcff55314ccba4a24", func := "freeboard/freeboardlaw16.HeadNames", spec := "headNames", unfollowed := true, recurses := true, apart := false }
def HeadNamesSaid : Prop := headNamesRow.holds Try.pinned (OpenSpec.ofChange headNamesSpec)

/-- ITS FALSE NEIGHBOUR: 'it returns false'. Refute it at one input. -/
def headNamesWrong : ChangeSpec := { name := "headNames", fn := fun _ => fun
  | [] => { results := [.lit (.bool false)], args := [] }
  | _ => none }
def HeadNamesWrongFalsely : Prop := headNamesRow.holds Try.pinned (OpenSpec.ofChange headNamesWrong)

/- THE SECOND FORM. 'bulk': how many values and letters a reading holds, each counted each time it is reached (what is shared counts as often as it is met; a slice's spare places count too). A statement '..UptoSaid' is the law's where the arguments, and the package variables that the reading takes, are together of bulk at most 1048576: NARROWER than '..Said'. Prove '..Said' where nothing that the law and all that it calls make is longer than what came in: it says more and counts as full. Else prove '..UptoSaid'. A law counts once. -/
mutual
def uptoBulk {H : Type} : DataW H → Nat
  | .lit (.string bytes) => bytes.length + 1
  | .lit _ => 1
  | .nil => 1
  | .ptr d => uptoBulk d + 1
  | .slice elems spare => uptoBulkAll elems + uptoBulkAll spare + 1
  | .agg parts => uptoBulkAll parts + 1
  | .iface _ d => uptoBulk d + 1
  | .map entries => uptoBulkEntries entries + 1
  | .held _ => 1
def uptoBulkAll {H : Type} : List (DataW H) → Nat
  | [] => 0
  | d :: r => uptoBulk d + uptoBulkAll r
def uptoBulkEntries {H : Type} : List (Lit × DataW H) → Nat
  | [] => 0
  | x :: r => uptoBulkEntry x + uptoBulkEntries r
def uptoBulkEntry {H : Type} : Lit × DataW H → Nat
  | (.string bytes, d) => bytes.length + uptoBulk d + 1
  | (_, d) => uptoBulk d + 1
 end
def uptoSmall : (H : Type) → List (DataW H) → Bool := fun _ ds => decide (uptoBulkAll ds ≤ 1048576)
def OpenSpec.upto (s : _root_.Go.ChangeSpec) : _root_.Go.OpenSpec := { _root_.Go.OpenSpec.ofChange s with cond := some uptoSmall }

/-- 'freeboardlaw16.HeadTells', WHERE WHAT IT READS IS OF BULK AT MOST 1048576: true; the input reads as it did. -/
def headTellsUptoRow : OpenClaim := { program := "ytjefieckineneaa", sum := "6cf404c39d31689bc03f04cbeeb94e9b4ee36114fdbbac9dcff55314ccba4a24", func := "freeboard/freeboardlaw16.HeadTells", spec := "headTells", unfollowed := true, recurses := true, apart := false, narrowed := true }
def HeadTellsUptoSaid : Prop := headTellsUptoRow.holds Try.pinned (OpenSpec.upto headTellsSpec)

/-- 'freeboardlaw16.HeadTurns', WHERE WHAT IT READS IS OF BULK AT MOST 1048576: true; the input reads as it did. -/
def headTurnsUptoRow : OpenClaim := { program := "ytjefieckineneaa", sum := "6cf404c39d31689bc03f04cbeeb94e9b4ee36114fdbbac9dcff55314ccba4a24", func := "freeboard/freeboardlaw16.HeadTurns", spec := "headTurns", unfollowed := true, recurses := true, apart := false, narrowed := true }
def HeadTurnsUptoSaid : Prop := headTurnsUptoRow.holds Try.pinned (OpenSpec.upto headTurnsSpec)

/-- 'freeboardlaw16.HeadMoves', WHERE WHAT IT READS IS OF BULK AT MOST 1048576: true; the input reads as it did. -/
def headMovesUptoRow : OpenClaim := { program := "ytjefieckineneaa", sum := "6cf404c39d31689bc03f04cbeeb94e9b4ee36114fdbbac9dcff55314ccba4a24", func := "freeboard/freeboardlaw16.HeadMoves", spec := "headMoves", unfollowed := true, recurses := true, apart := false, narrowed := true }
def HeadMovesUptoSaid : Prop := headMovesUptoRow.holds Try.pinned (OpenSpec.upto headMovesSpec)

/-- 'freeboardlaw16.HeadApart', WHERE WHAT IT READS IS OF BULK AT MOST 1048576: true; the input reads as it did. -/
def headApartUptoRow : OpenClaim := { program := "ytjefieckineneaa", sum := "6cf404c39d31689bc03f04cbeeb94e9b4ee36114fdbbac9dcff55314ccba4a24", func := "freeboard/freeboardlaw16.HeadApart", spec := "headApart", unfollowed := true, recurses := true, apart := false, narrowed := true }
def HeadApartUptoSaid : Prop := headApartUptoRow.holds Try.pinned (OpenSpec.upto headApartSpec)

/-- 'freeboardlaw16.HeadKeeps', WHERE WHAT IT READS IS OF BULK AT MOST 1048576: true; the input reads as it did. -/
def headKeepsUptoRow : OpenClaim := { program := "ytjefieckineneaa", sum := "6cf404c39d31689bc03f04cbeeb94e9b4ee36114fdbbac9dcff55314ccba4a24", func := "freeboard/freeboardlaw16.HeadKeeps", spec := "headKeeps", unfollowed := true, recurses := true, apart := false, narrowed := true }
def HeadKeepsUptoSaid : Prop := headKeepsUptoRow.holds Try.pinned (OpenSpec.upto headKeepsSpec)

/-- 'freeboardlaw16.HeadNames', WHERE WHAT IT READS IS OF BULK AT MOST 1048576: true; the input reads as it did. -/
def headNamesUptoRow : OpenClaim := { program := "ytjefieckineneaa", sum := "6cf404c39d31689bc03f04cbeeb94e9b4ee36114fdbbac9dcff55314ccba4a24", func := "freeboard/freeboardlaw16.HeadNames", spec := "headNames", unfollowed := true, recurses := true, apart := false, narrowed := true }
def HeadNamesUptoSaid : Prop := headNamesUptoRow.holds Try.pinned (OpenSpec.upto headNamesSpec)

end Rows
end Go.Proofs.Ytjefieckineneaa
