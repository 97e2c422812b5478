/-
  No cell of these rows narrows 'for every input' (looked for: loops, veiled, ifaces, maps, wideKeys, modest, calm, conditions, laid).
  DERIVED. THE GIVEN ROWS OF THIS SEAT. 4 by the template 'for every input the law returns true; each argument reads behind the call as it read before'; 0 by the template 'total and deterministic' (their statements: YtfilegnndamngaaTotals.lean).
  GIVEN WITH THE SEED: the statements are not yours to turn. If you find one false, say at which input.
  Laid BY PROGRAM, IN A SANDBOX (cutbox-rows.mjs): the forced cells as the released guide's own fill.sh prints them over the translation 294f03349613561b… (all of the seat's roots in one cut). By AI agents, Wed Nov 11 2026. No macro, syntax, notation, axiom, sorry.
-/
import Derived.Test.YtfilegnndamngaaChecked
import GoSem.Claim
import GoSem.ClaimJoined
import GoSem.ClaimMapViews
import Derived.JoinedTies
import Derived.KernelRfl
namespace Go.Proofs.Ytfilegnndamngaa
/- THE CELL 'sum', in the pinned program and in every row, IS THE sha256 OF THE DUMP (.gsa) THAT YtfilegnndamngaaProg.lean LOADS. Nothing in Lean hashes anything: it is a label: what it is worth is what the hold of that sum in a sandbox is worth. -/
noncomputable def Try.pinned : Pinned := { name := "ytfilegnndamngaa", sum := "294f03349613561b6f0b606dab4f77cdcdb1c6b628e0c6ae44d796cf95c552cf", checked := Try.checked }
namespace Rows
def none {H : Type} : Left H := { results := [], args := [] }

/-- 'freeboardlaw20.FetchTells': WHATEVER THE INPUT: true; the input reads as it did. -/
def fetchTellsSpec : ChangeSpec := { name := "fetchTells", fn := fun _ => fun
  | [d1, d2, d3, d4, d5] => { results := [.lit (.bool true)], args := [d1, d2, d3, d4, d5] }
  | _ => none }
def fetchTellsRow : OpenClaim := { program := "ytfilegnndamngaa", sum := "294f03349613561b6f0b606dab4f77cdcdb1c6b628e0c6ae44d796cf95c552cf", func := "freeboard/freeboardlaw20.FetchTells", spec := "fetchTells", unfollowed := true, recurses := true, apart := false }
def FetchTellsSaid : Prop := fetchTellsRow.holds Try.pinned (OpenSpec.ofChange fetchTellsSpec)

/-- ITS FALSE NEIGHBOUR: 'it returns false'. Refute it at one input. -/
def fetchTellsWrong : ChangeSpec := { name := "fetchTells", fn := fun _ => fun
  | [d1, d2, d3, d4, d5] => { results := [.lit (.bool false)], args := [d1, d2, d3, d4, d5] }
  | _ => none }
def FetchTellsWrongFalsely : Prop := fetchTellsRow.holds Try.pinned (OpenSpec.ofChange fetchTellsWrong)

/-- 'freeboardlaw20.FetchNames': WHATEVER THE INPUT: true; the input reads as it did. -/
def fetchNamesSpec : ChangeSpec := { name := "fetchNames", fn := fun _ => fun
  | [] => { results := [.lit (.bool true)], args := [] }
  | _ => none }
def fetchNamesRow : OpenClaim := { program := "ytfilegnndamngaa", sum := "294f03349613561b6f0b606dab4f77cdcdb1c6b628e0c6ae44d796cf95c552cf", func := "freeboard/freeboardlaw20.FetchNames", spec := "fetchNames", unfollowed := true, recurses := true, apart := false }
def FetchNamesSaid : Prop := fetchNamesRow.holds Try.pinned (OpenSpec.ofChange fetchNamesSpec)

/-- ITS FALSE NEIGHBOUR: 'it returns false'. Refute it at one input. -/
def fetchNamesWrong : ChangeSpec := { name := "fetchNames", fn := fun _ => fun
  | [] => { results := [.lit (.bool false)], args := [] }
  | _ => none }
def FetchNamesWrongFalsely : Prop := fetchNamesRow.holds Try.pinned (OpenSpec.ofChange fetchNamesWrong)

/-- 'freeboardlaw20.FetchLost': WHATEVER THE INPUT: true; the input reads as it did. -/
def fetchLostSpec : ChangeSpec := { name := "fetchLost", fn := fun _ => fun
  | [d1, d2, d3, d4, d5] => { results := [.lit (.bool true)], args := [d1, d2, d3, d4, d5] }
  | _ => none }
def fetchLostRow : OpenClaim := { program := "ytfilegnndamngaa", sum := "294f03349613561b6f0b606dab4f77cdcdb1c6b628e0c6ae44d796cf95c552cf", func := "freeboard/freeboardlaw20.FetchLost", spec := "fetchLost", unfollowed := true, recurses := true, apart := false }
def FetchLostSaid : Prop := fetchLostRow.holds Try.pinned (OpenSpec.ofChange fetchLostSpec)

/-- ITS FALSE NEIGHBOUR: 'it returns false'. Refute it at one input. -/
def fetchLostWrong : ChangeSpec := { name := "fetchLost", fn := fun _ => fun
  | [d1, d2, d3, d4, d5] => { results := [.lit (.bool false)], args := [d1, d2, d3, d4, d5] }
  | _ => none }
def FetchLostWrongFalsely : Prop := fetchLostRow.holds Try.pinned (OpenSpec.ofChange fetchLostWrong)

/-- 'freeboardlaw20.FetchAlone': WHATEVER THE INPUT: true; the input reads as it did. -/
def fetchAloneSpec : ChangeSpec := { name := "fetchAlone", fn := fun _ => fun
  | [d1, d2, d3, d4, d5] => { results := [.lit (.bool true)], args := [d1, d2, d3, d4, d5] }
  | _ => none }
def fetchAloneRow : OpenClaim := { program := "ytfilegnndamngaa", sum := "294f03349613561b6f0b606dab4f77cdcdb1c6b628e0c6ae44d796cf95c552cf", func := "freeboard/freeboardlaw20.FetchAlone", spec := "fetchAlone", unfollowed := true, recurses := true, apart := false }
def FetchAloneSaid : Prop := fetchAloneRow.holds Try.pinned (OpenSpec.ofChange fetchAloneSpec)

/-- ITS FALSE NEIGHBOUR: 'it returns false'. Refute it at one input. -/
def fetchAloneWrong : ChangeSpec := { name := "fetchAlone", fn := fun _ => fun
  | [d1, d2, d3, d4, d5] => { results := [.lit (.bool false)], args := [d1, d2, d3, d4, d5] }
  | _ => none }
def FetchAloneWrongFalsely : Prop := fetchAloneRow.holds Try.pinned (OpenSpec.ofChange fetchAloneWrong)

/- THE SECOND FORM. 'bulk': how many values and letters a reading holds, each counted each time it is reached (what is shared counts as often as it is met; a slice's spare places count too). A statement '..UptoSaid' is the law's where the arguments, and the package variables that the reading takes, are together of bulk at most 1048576: NARROWER than '..Said'. Prove '..Said' where nothing that the law and all that it calls make is longer than what came in: it says more and counts as full. Else prove '..UptoSaid'. A law counts once. -/
mutual
def uptoBulk {H : Type} : DataW H → Nat
  | .lit (.string bytes) => bytes.length + 1
  | .lit _ => 1
  | .nil => 1
  | .ptr d => uptoBulk d + 1
  | .slice elems spare => uptoBulkAll elems + uptoBulkAll spare + 1
  | .agg parts => uptoBulkAll parts + 1
  | .iface _ d => uptoBulk d + 1
  | .map entries => uptoBulkEntries entries + 1
  | .held _ => 1
def uptoBulkAll {H : Type} : List (DataW H) → Nat
  | [] => 0
  | d :: r => uptoBulk d + uptoBulkAll r
def uptoBulkEntries {H : Type} : List (Lit × DataW H) → Nat
  | [] => 0
  | x :: r => uptoBulkEntry x + uptoBulkEntries r
def uptoBulkEntry {H : Type} : Lit × DataW H → Nat
  | (.string bytes, d) => bytes.length + uptoBulk d + 1
  | (_, d) => uptoBulk d + 1
 end
def uptoSmall : (H : Type) → List (DataW H) → Bool := fun _ ds => decide (uptoBulkAll ds ≤ 1048576)
def OpenSpec.upto (s : _root_.Go.ChangeSpec) : _root_.Go.OpenSpec := { _root_.Go.OpenSpec.ofChange s with cond := some uptoSmall }

/-- 'freeboardlaw20.FetchTells', WHERE WHAT IT READS IS OF BULK AT MOST 1048576: true; the input reads as it did. -/
def fetchTellsUptoRow : OpenClaim := { program := "ytfilegnndamngaa", sum := "294f03349613561b6f0b606dab4f77cdcdb1c6b628e0c6ae44d796cf95c552cf", func := "freeboard/freeboardlaw20.FetchTells", spec := "fetchTells", unfollowed := true, recurses := true, apart := false, narrowed := true }
def FetchTellsUptoSaid : Prop := fetchTellsUptoRow.holds Try.pinned (OpenSpec.upto fetchTellsSpec)

/-- 'freeboardlaw20.FetchNames', WHERE WHAT IT READS IS OF BULK AT MOST 1048576: true; the input reads as it did. -/
def fetchNamesUptoRow : OpenClaim := { program := "ytfilegnndamngaa", sum := "294f03349613561b6f0b606dab4f77cdcdb1c6b628e0c6ae44d796cf95c552cf", func := "freeboard/freeboardlaw20.FetchNames", spec := "fetchNames", unfollowed := true, recurses := true, apart := false, narrowed := true }
def FetchNamesUptoSaid : Prop := fetchNamesUptoRow.holds Try.pinned (OpenSpec.upto fetchNamesSpec)

/-- 'freeboardlaw20.FetchLost', WHERE WHAT IT READS IS OF BULK AT MOST 1048576: true; the input reads as it did. -/
def fetchLostUptoRow : OpenClaim := { program := "ytfilegnndamngaa", sum := "294f03349613561b6f0b606dab4f77cdcdb1c6b628e0c6ae44d796cf95c552cf", func := "freeboard/freeboardlaw20.FetchLost", spec := "fetchLost", unfollowed := true, recurses := true, apart := false, narrowed := true }
def FetchLostUptoSaid : Prop := fetchLostUptoRow.holds Try.pinned (OpenSpec.upto fetchLostSpec)

/-- 'freeboardlaw20.FetchAlone', WHERE WHAT IT READS IS OF BULK AT MOST 1048576: true; the input reads as it did. -/
def fetchAloneUptoRow : OpenClaim := { program := "ytfilegnndamngaa", sum := "294f03349613561b6f0b606dab4f77cdcdb1c6b628e0c6ae44d796cf95c552cf", func := "freeboard/freeboardlaw20.FetchAlone", spec := "fetchAlone", unfollowed := true, recurses := true, apart := false, narrowed := true }
def FetchAloneUptoSaid : Prop := fetchAloneUptoRow.holds Try.pinned (OpenSpec.upto fetchAloneSpec)

end Rows
end Go.Proofs.Ytfilegnndamngaa
