/-
  No cell of these rows narrows 'for every input' (looked for: loops, veiled, ifaces, maps, wideKeys, modest, calm, conditions, laid).
  DERIVED. THE GIVEN ROWS OF THIS SEAT. 4 by the template 'for every input the law returns true; each argument reads behind the call as it read before'; 0 by the template 'total and deterministic' (their statements: YthdeieeckjhfpaaTotals.lean).
  GIVEN WITH THE SEED: the statements are not yours to turn. If you find one false, say at which input.
  Laid BY PROGRAM, IN A SANDBOX (cutbox-rows.mjs): the forced cells as the released guide's own fill.sh prints them over the translation 56ddb8476d91ad08… (all of the seat's roots in one cut). By AI agents, Wed Nov 11 2026. No macro, syntax, notation, axiom, sorry.
-/
import Derived.Test.YthdeieeckjhfpaaChecked
import GoSem.Claim
import GoSem.ClaimJoined
import GoSem.ClaimMapViews
import Derived.JoinedTies
import Derived.KernelRfl
namespace Go.Proofs.Ythdeieeckjhfpaa
/- THE CELL 'sum', in the pinned program and in every row, IS THE sha256 OF THE DUMP (.gsa) THAT YthdeieeckjhfpaaProg.lean LOADS. Nothing in Lean hashes anything: it is a label: what it is worth is what the hold of that sum in a sandbox is worth. -/
noncomputable def Try.pinned : Pinned := { name := "ythdeieeckjhfpaa", sum := "56ddb8476d91ad08daf075273bad0c4ee5231fe10188c64446424ba0092e5cd3", checked := Try.checked }
namespace Rows
def none {H : Type} : Left H := { results := [], args := [] }

/-- 'freeboardlaw17.PlanTells': WHATEVER THE INPUT: true; the input reads as it did. -/
def planTellsSpec : ChangeSpec := { name := "planTells", fn := fun _ => fun
  | [d1, d2, d3] => { results := [.lit (.bool true)], args := [d1, d2, d3] }
  | _ => none }
def planTellsRow : OpenClaim := { program := "ythdeieeckjhfpaa", sum := "56ddb8476d91ad08daf075273bad0c4ee5231fe10188c64446424ba0092e5cd3", func := "freeboard/freeboardlaw17.PlanTells", spec := "planTells", unfollowed := true, recurses := true, apart := false }
def PlanTellsSaid : Prop := planTellsRow.holds Try.pinned (OpenSpec.ofChange planTellsSpec)

/-- ITS FALSE NEIGHBOUR: 'it returns false'. Refute it at one input. -/
def planTellsWrong : ChangeSpec := { name := "planTells", fn := fun _ => fun
  | [d1, d2, d3] => { results := [.lit (.bool false)], args := [d1, d2, d3] }
  | _ => none }
def PlanTellsWrongFalsely : Prop := planTellsRow.holds Try.pinned (OpenSpec.ofChange planTellsWrong)

/-- 'freeboardlaw17.PlanNames': WHATEVER THE INPUT: true; the input reads as it did. -/
def planNamesSpec : ChangeSpec := { name := "planNames", fn := fun _ => fun
  | [] => { results := [.lit (.bool true)], args := [] }
  | _ => none }
def planNamesRow : OpenClaim := { program := "ythdeieeckjhfpaa", sum := "56ddb8476d91ad08daf075273bad0c4ee5231fe10188c64446424ba0092e5cd3", func := "freeboard/freeboardlaw17.PlanNames", spec := "planNames", unfollowed := true, recurses := true, apart := false }
def PlanNamesSaid : Prop := planNamesRow.holds Try.pinned (OpenSpec.ofChange planNamesSpec)

/-- ITS FALSE NEIGHBOUR: 'it returns false'. Refute it at one input. -/
def planNamesWrong : ChangeSpec := { name := "planNames", fn := fun _ => fun
  | [] => { results := [.lit (.bool false)], args := [] }
  | _ => none }
def PlanNamesWrongFalsely : Prop := planNamesRow.holds Try.pinned (OpenSpec.ofChange planNamesWrong)

/-- 'freeboardlaw17.PlanFewest': WHATEVER THE INPUT: true; the input reads as it did. -/
def planFewestSpec : ChangeSpec := { name := "planFewest", fn := fun _ => fun
  | [d1, d2, d3] => { results := [.lit (.bool true)], args := [d1, d2, d3] }
  | _ => none }
def planFewestRow : OpenClaim := { program := "ythdeieeckjhfpaa", sum := "56ddb8476d91ad08daf075273bad0c4ee5231fe10188c64446424ba0092e5cd3", func := "freeboard/freeboardlaw17.PlanFewest", spec := "planFewest", unfollowed := true, recurses := true, apart := false }
def PlanFewestSaid : Prop := planFewestRow.holds Try.pinned (OpenSpec.ofChange planFewestSpec)

/-- ITS FALSE NEIGHBOUR: 'it returns false'. Refute it at one input. -/
def planFewestWrong : ChangeSpec := { name := "planFewest", fn := fun _ => fun
  | [d1, d2, d3] => { results := [.lit (.bool false)], args := [d1, d2, d3] }
  | _ => none }
def PlanFewestWrongFalsely : Prop := planFewestRow.holds Try.pinned (OpenSpec.ofChange planFewestWrong)

/-- 'freeboardlaw17.PlanThere': WHATEVER THE INPUT: true; the input reads as it did. -/
def planThereSpec : ChangeSpec := { name := "planThere", fn := fun _ => fun
  | [d1, d2, d3] => { results := [.lit (.bool true)], args := [d1, d2, d3] }
  | _ => none }
def planThereRow : OpenClaim := { program := "ythdeieeckjhfpaa", sum := "56ddb8476d91ad08daf075273bad0c4ee5231fe10188c64446424ba0092e5cd3", func := "freeboard/freeboardlaw17.PlanThere", spec := "planThere", unfollowed := true, recurses := true, apart := false }
def PlanThereSaid : Prop := planThereRow.holds Try.pinned (OpenSpec.ofChange planThereSpec)

/-- ITS FALSE NEIGHBOUR: 'it returns false'. Refute it at one input. -/
def planThereWrong : ChangeSpec := { name := "planThere", fn := fun _ => fun
  | [d1, d2, d3] => { results := [.lit (.bool false)], args := [d1, d2, d3] }
  | _ => none }
def PlanThereWrongFalsely : Prop := planThereRow.holds Try.pinned (OpenSpec.ofChange planThereWrong)

/- THE SECOND FORM. 'bulk': how many values and letters a reading holds, each counted each time it is reached (what is shared counts as often as it is met; a slice's spare places count too). A statement '..UptoSaid' is the law's where the arguments, and the package variables that the reading takes, are together of bulk at most 1048576: NARROWER than '..Said'. Prove '..Said' where nothing that the law and all that it calls make is longer than what came in: it says more and counts as full. Else prove '..UptoSaid'. A law counts once. -/
mutual
def uptoBulk {H : Type} : DataW H → Nat
  | .lit (.string bytes) => bytes.length + 1
  | .lit _ => 1
  | .nil => 1
  | .ptr d => uptoBulk d + 1
  | .slice elems spare => uptoBulkAll elems + uptoBulkAll spare + 1
  | .agg parts => uptoBulkAll parts + 1
  | .iface _ d => uptoBulk d + 1
  | .map entries => uptoBulkEntries entries + 1
  | .held _ => 1
def uptoBulkAll {H : Type} : List (DataW H) → Nat
  | [] => 0
  | d :: r => uptoBulk d + uptoBulkAll r
def uptoBulkEntries {H : Type} : List (Lit × DataW H) → Nat
  | [] => 0
  | x :: r => uptoBulkEntry x + uptoBulkEntries r
def uptoBulkEntry {H : Type} : Lit × DataW H → Nat
  | (.string bytes, d) => bytes.length + uptoBulk d + 1
  | (_, d) => uptoBulk d + 1
 end
def uptoSmall : (H : Type) → List (DataW H) → Bool := fun _ ds => decide (uptoBulkAll ds ≤ 1048576)
def OpenSpec.upto (s : _root_.Go.ChangeSpec) : _root_.Go.OpenSpec := { _root_.Go.OpenSpec.ofChange s with cond := some uptoSmall }

/-- 'freeboardlaw17.PlanTells', WHERE WHAT IT READS IS OF BULK AT MOST 1048576: true; the input reads as it did. -/
def planTellsUptoRow : OpenClaim := { program := "ythdeieeckjhfpaa", sum := "56ddb8476d91ad08daf075273bad0c4ee5231fe10188c64446424ba0092e5cd3", func := "freeboard/freeboardlaw17.PlanTells", spec := "planTells", unfollowed := true, recurses := true, apart := false, narrowed := true }
def PlanTellsUptoSaid : Prop := planTellsUptoRow.holds Try.pinned (OpenSpec.upto planTellsSpec)

/-- 'freeboardlaw17.PlanNames', WHERE WHAT IT READS IS OF BULK AT MOST 1048576: true; the input reads as it did. -/
def planNamesUptoRow : OpenClaim := { program := "ythdeieeckjhfpaa", sum := "56ddb8476d91ad08daf075273bad0c4ee5231fe10188c64446424ba0092e5cd3", func := "freeboard/freeboardlaw17.PlanNames", spec := "planNames", unfollowed := true, recurses := true, apart := false, narrowed := true }
def PlanNamesUptoSaid : Prop := planNamesUptoRow.holds Try.pinned (OpenSpec.upto planNamesSpec)

/-- 'freeboardlaw17.PlanFewest', WHERE WHAT IT READS IS OF BULK AT MOST 1048576: true; the input reads as it did. -/
def planFewestUptoRow : OpenClaim := { program := "ythdeieeckjhfpaa", sum := "56ddb8476d91ad08daf075273bad0c4ee5231fe10188c64446424ba0092e5cd3", func := "freeboard/freeboardlaw17.PlanFewest", spec := "planFewest", unfollowed := true, recurses := true, apart := false, narrowed := true }
def PlanFewestUptoSaid : Prop := planFewestUptoRow.holds Try.pinned (OpenSpec.upto planFewestSpec)

/-- 'freeboardlaw17.PlanThere', WHERE WHAT IT READS IS OF BULK AT MOST 1048576: true; the input reads as it did. -/
def planThereUptoRow : OpenClaim := { program := "ythdeieeckjhfpaa", sum := "56ddb8476d91ad08daf075273bad0c4ee5231fe10188c64446424ba0092e5cd3", func := "freeboard/freeboardlaw17.PlanThere", spec := "planThere", unfollowed := true, recurses := true, apart := false, narrowed := true }
def PlanThereUptoSaid : Prop := planThereUptoRow.holds Try.pinned (OpenSpec.upto planThereSpec)

end Rows
end Go.Proofs.Ythdeieeckjhfpaa
