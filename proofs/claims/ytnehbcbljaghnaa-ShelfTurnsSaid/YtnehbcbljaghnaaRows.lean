/-
  No cell of these rows narrows 'for every input' (looked for: loops, veiled, ifaces, maps, wideKeys, modest, calm, conditions, laid).
  DERIVED. THE GIVEN ROWS OF THIS SEAT. 5 by the template 'for every input the law returns true; each argument reads behind the call as it read before'; 0 by the template 'total and deterministic' (their statements: YtnehbcbljaghnaaTotals.lean).
  GIVEN WITH THE SEED: the statements are not yours to turn. If you find one false, say at which input.
  Laid BY PROGRAM, IN A SANDBOX (cutbox-rows.mjs): the forced cells as the released guide's own fill.sh prints them over the translation 38d6c0afcdd99495… (all of the seat's roots in one cut). By AI agents, Wed Nov 11 2026. No macro, syntax, notation, axiom, sorry.
-/
import Derived.Test.YtnehbcbljaghnaaChecked
import GoSem.Claim
import GoSem.ClaimJoined
import GoSem.ClaimMapViews
import Derived.JoinedTies
import Derived.KernelRfl
namespace Go.Proofs.Ytnehbcbljaghnaa
/- THE CELL 'sum', in the pinned program and in every row, IS THE sha256 OF THE DUMP (.gsa) THAT YtnehbcbljaghnaaProg.lean LOADS. Nothing in Lean hashes anything: it is a label: what it is worth is what the hold of that sum in a sandbox is worth. -/
noncomputable def Try.pinned : Pinned := { name := "ytnehbcbljaghnaa", sum := "38d6c0afcdd99495127d37351213f7e9099bba8d757de4c59febeb33f40114df", checked := Try.checked }
namespace Rows
def none {H : Type} : Left H := { results := [], args := [] }

/-- 'freeboardlaw19.ShelfTells': WHATEVER THE INPUT: true; the input reads as it did. -/
def shelfTellsSpec : ChangeSpec := { name := "shelfTells", fn := fun _ => fun
  | [d1, d2, d3, d4] => { results := [.lit (.bool true)], args := [d1, d2, d3, d4] }
  | _ => none }
def shelfTellsRow : OpenClaim := { program := "ytnehbcbljaghnaa", sum := "38d6c0afcdd99495127d37351213f7e9099bba8d757de4c59febeb33f40114df", func := "freeboard/freeboardlaw19.ShelfTells", spec := "shelfTells", unfollowed := true, recurses := true, apart := false }
def ShelfTellsSaid : Prop := shelfTellsRow.holds Try.pinned (OpenSpec.ofChange shelfTellsSpec)

/-- ITS FALSE NEIGHBOUR: 'it returns false'. Refute it at one input. -/
def shelfTellsWrong : ChangeSpec := { name := "shelfTells", fn := fun _ => fun
  | [d1, d2, d3, d4] => { results := [.lit (.bool false)], args := [d1, d2, d3, d4] }
  | _ => none }
def ShelfTellsWrongFalsely : Prop := shelfTellsRow.holds Try.pinned (OpenSpec.ofChange shelfTellsWrong)

/-- 'freeboardlaw19.ShelfTurns': WHATEVER THE INPUT: true; the input reads as it did. -/
def shelfTurnsSpec : ChangeSpec := { name := "shelfTurns", fn := fun _ => fun
  | [d1, d2, d3, d4] => { results := [.lit (.bool true)], args := [d1, d2, d3, d4] }
  | _ => none }
def shelfTurnsRow : OpenClaim := { program := "ytnehbcbljaghnaa", sum := "38d6c0afcdd99495127d37351213f7e9099bba8d757de4c59febeb33f40114df", func := "freeboard/freeboardlaw19.ShelfTurns", spec := "shelfTurns", inPlace := ["slices.overlaps[freeboard/api.Head]"], unfollowed := true, recurses := true, apart := false }
def ShelfTurnsSaid : Prop := shelfTurnsRow.holds Try.pinned (OpenSpec.ofChange shelfTurnsSpec)

/-- ITS FALSE NEIGHBOUR: 'it returns false'. Refute it at one input. -/
def shelfTurnsWrong : ChangeSpec := { name := "shelfTurns", fn := fun _ => fun
  | [d1, d2, d3, d4] => { results := [.lit (.bool false)], args := [d1, d2, d3, d4] }
  | _ => none }
def ShelfTurnsWrongFalsely : Prop := shelfTurnsRow.holds Try.pinned (OpenSpec.ofChange shelfTurnsWrong)

/-- 'freeboardlaw19.ShelfUses': WHATEVER THE INPUT: true; the input reads as it did. -/
def shelfUsesSpec : ChangeSpec := { name := "shelfUses", fn := fun _ => fun
  | [d1, d2, d3] => { results := [.lit (.bool true)], args := [d1, d2, d3] }
  | _ => none }
def shelfUsesRow : OpenClaim := { program := "ytnehbcbljaghnaa", sum := "38d6c0afcdd99495127d37351213f7e9099bba8d757de4c59febeb33f40114df", func := "freeboard/freeboardlaw19.ShelfUses", spec := "shelfUses", inPlace := ["slices.overlaps[freeboard/api.Head]"], unfollowed := true, recurses := true, apart := false }
def ShelfUsesSaid : Prop := shelfUsesRow.holds Try.pinned (OpenSpec.ofChange shelfUsesSpec)

/-- ITS FALSE NEIGHBOUR: 'it returns false'. Refute it at one input. -/
def shelfUsesWrong : ChangeSpec := { name := "shelfUses", fn := fun _ => fun
  | [d1, d2, d3] => { results := [.lit (.bool false)], args := [d1, d2, d3] }
  | _ => none }
def ShelfUsesWrongFalsely : Prop := shelfUsesRow.holds Try.pinned (OpenSpec.ofChange shelfUsesWrong)

/-- 'freeboardlaw19.ShelfPins': WHATEVER THE INPUT: true; the input reads as it did. -/
def shelfPinsSpec : ChangeSpec := { name := "shelfPins", fn := fun _ => fun
  | [d1, d2, d3] => { results := [.lit (.bool true)], args := [d1, d2, d3] }
  | _ => none }
def shelfPinsRow : OpenClaim := { program := "ytnehbcbljaghnaa", sum := "38d6c0afcdd99495127d37351213f7e9099bba8d757de4c59febeb33f40114df", func := "freeboard/freeboardlaw19.ShelfPins", spec := "shelfPins", inPlace := ["slices.overlaps[freeboard/api.Head]"], unfollowed := true, recurses := true, apart := false }
def ShelfPinsSaid : Prop := shelfPinsRow.holds Try.pinned (OpenSpec.ofChange shelfPinsSpec)

/-- ITS FALSE NEIGHBOUR: 'it returns false'. Refute it at one input. -/
def shelfPinsWrong : ChangeSpec := { name := "shelfPins", fn := fun _ => fun
  | [d1, d2, d3] => { results := [.lit (.bool false)], args := [d1, d2, d3] }
  | _ => none }
def ShelfPinsWrongFalsely : Prop := shelfPinsRow.holds Try.pinned (OpenSpec.ofChange shelfPinsWrong)

/-- 'freeboardlaw19.ShelfNames': WHATEVER THE INPUT: true; the input reads as it did. -/
def shelfNamesSpec : ChangeSpec := { name := "shelfNames", fn := fun _ => fun
  | [] => { results := [.lit (.bool true)], args := [] }
  | _ => none }
def shelfNamesRow : OpenClaim := { program := "ytnehbcbljaghnaa", sum := "38d6c0afcdd99495127d37351213f7e9099bba8d757de4c59febeb33f40114df", func := "freeboard/freeboardlaw19.ShelfNames", spec := "shelfNames", inPlace := ["slices.overlaps[freeboard/api.Head]"], unfollowed := true, recurses := true, apart := false }
def ShelfNamesSaid : Prop := shelfNamesRow.holds Try.pinned (OpenSpec.ofChange shelfNamesSpec)

/-- ITS FALSE NEIGHBOUR: 'it returns false'. Refute it at one input. -/
def shelfNamesWrong : ChangeSpec := { name := "shelfNames", fn := fun _ => fun
  | [] => { results := [.lit (.bool false)], args := [] }
  | _ => none }
def ShelfNamesWrongFalsely : Prop := shelfNamesRow.holds Try.pinned (OpenSpec.ofChange shelfNamesWrong)

/- THE SECOND FORM. 'bulk': how many values and letters a reading holds, each counted each time it is reached (what is shared counts as often as it is met; a slice's spare places count too). A statement '..UptoSaid' is the law's where the arguments, and the package variables that the reading takes, are together of bulk at most 1048576: NARROWER than '..Said'. Prove '..Said' where nothing that the law and all that it calls make is longer than what came in: it says more and counts as full. Else prove '..UptoSaid'. A law counts once. -/
mutual
def uptoBulk {H : Type} : DataW H → Nat
  | .lit (.string bytes) => bytes.length + 1
  | .lit _ => 1
  | .nil => 1
  | .ptr d => uptoBulk d + 1
  | .slice elems spare => uptoBulkAll elems + uptoBulkAll spare + 1
  | .agg parts => uptoBulkAll parts + 1
  | .iface _ d => uptoBulk d + 1
  | .map entries => uptoBulkEntries entries + 1
  | .held _ => 1
def uptoBulkAll {H : Type} : List (DataW H) → Nat
  | [] => 0
  | d :: r => uptoBulk d + uptoBulkAll r
def uptoBulkEntries {H : Type} : List (Lit × DataW H) → Nat
  | [] => 0
  | x :: r => uptoBulkEntry x + uptoBulkEntries r
def uptoBulkEntry {H : Type} : Lit × DataW H → Nat
  | (.string bytes, d) => bytes.length + uptoBulk d + 1
  | (_, d) => uptoBulk d + 1
 end
def uptoSmall : (H : Type) → List (DataW H) → Bool := fun _ ds => decide (uptoBulkAll ds ≤ 1048576)
def OpenSpec.upto (s : _root_.Go.ChangeSpec) : _root_.Go.OpenSpec := { _root_.Go.OpenSpec.ofChange s with cond := some uptoSmall }

/-- 'freeboardlaw19.ShelfTells', WHERE WHAT IT READS IS OF BULK AT MOST 1048576: true; the input reads as it did. -/
def shelfTellsUptoRow : OpenClaim := { program := "ytnehbcbljaghnaa", sum := "38d6c0afcdd99495127d37351213f7e9099bba8d757de4c59febeb33f40114df", func := "freeboard/freeboardlaw19.ShelfTells", spec := "shelfTells", unfollowed := true, recurses := true, apart := false, narrowed := true }
def ShelfTellsUptoSaid : Prop := shelfTellsUptoRow.holds Try.pinned (OpenSpec.upto shelfTellsSpec)

/-- 'freeboardlaw19.ShelfTurns', WHERE WHAT IT READS IS OF BULK AT MOST 1048576: true; the input reads as it did. -/
def shelfTurnsUptoRow : OpenClaim := { program := "ytnehbcbljaghnaa", sum := "38d6c0afcdd99495127d37351213f7e9099bba8d757de4c59febeb33f40114df", func := "freeboard/freeboardlaw19.ShelfTurns", spec := "shelfTurns", inPlace := ["slices.overlaps[freeboard/api.Head]"], unfollowed := true, recurses := true, apart := false, narrowed := true }
def ShelfTurnsUptoSaid : Prop := shelfTurnsUptoRow.holds Try.pinned (OpenSpec.upto shelfTurnsSpec)

/-- 'freeboardlaw19.ShelfUses', WHERE WHAT IT READS IS OF BULK AT MOST 1048576: true; the input reads as it did. -/
def shelfUsesUptoRow : OpenClaim := { program := "ytnehbcbljaghnaa", sum := "38d6c0afcdd99495127d37351213f7e9099bba8d757de4c59febeb33f40114df", func := "freeboard/freeboardlaw19.ShelfUses", spec := "shelfUses", inPlace := ["slices.overlaps[freeboard/api.Head]"], unfollowed := true, recurses := true, apart := false, narrowed := true }
def ShelfUsesUptoSaid : Prop := shelfUsesUptoRow.holds Try.pinned (OpenSpec.upto shelfUsesSpec)

/-- 'freeboardlaw19.ShelfPins', WHERE WHAT IT READS IS OF BULK AT MOST 1048576: true; the input reads as it did. -/
def shelfPinsUptoRow : OpenClaim := { program := "ytnehbcbljaghnaa", sum := "38d6c0afcdd99495127d37351213f7e9099bba8d757de4c59febeb33f40114df", func := "freeboard/freeboardlaw19.ShelfPins", spec := "shelfPins", inPlace := ["slices.overlaps[freeboard/api.Head]"], unfollowed := true, recurses := true, apart := false, narrowed := true }
def ShelfPinsUptoSaid : Prop := shelfPinsUptoRow.holds Try.pinned (OpenSpec.upto shelfPinsSpec)

/-- 'freeboardlaw19.ShelfNames', WHERE WHAT IT READS IS OF BULK AT MOST 1048576: true; the input reads as it did. -/
def shelfNamesUptoRow : OpenClaim := { program := "ytnehbcbljaghnaa", sum := "38d6c0afcdd99495127d37351213f7e9099bba8d757de4c59febeb33f40114df", func := "freeboard/freeboardlaw19.ShelfNames", spec := "shelfNames", inPlace := ["slices.overlaps[freeboard/api.Head]"], unfollowed := true, recurses := true, apart := false, narrowed := true }
def ShelfNamesUptoSaid : Prop := shelfNamesUptoRow.holds Try.pinned (OpenSpec.upto shelfNamesSpec)

end Rows
end Go.Proofs.Ytnehbcbljaghnaa
