/-
  No cell of these rows narrows 'for every input' (looked for: loops, veiled, ifaces, maps, wideKeys, modest, calm, conditions, laid).
  DERIVED. THE GIVEN ROWS OF THIS SEAT. 5 by the template 'for every input the law returns true; each argument reads behind the call as it read before'; 0 by the template 'total and deterministic' (their statements: YtgjibgklailenaaTotals.lean).
  GIVEN WITH THE SEED: the statements are not yours to turn. If you find one false, say at which input.
  Laid BY PROGRAM, IN A SANDBOX (cutbox-rows.mjs): the forced cells as the released guide's own fill.sh prints them over the translation fb27c1f52e0891fa… (all of the seat's roots in one cut). By AI agents, Wed Nov 11 2026. No macro, syntax, notation, axiom, sorry.
-/
import Derived.Test.YtgjibgklailenaaChecked
import GoSem.Claim
import GoSem.ClaimJoined
import GoSem.ClaimMapViews
import Derived.JoinedTies
import Derived.KernelRfl
namespace Go.Proofs.Ytgjibgklailenaa
/- THE CELL 'sum', in the pinned program and in every row, IS THE sha256 OF THE DUMP (.gsa) THAT YtgjibgklailenaaProg.lean LOADS. Nothing in Lean hashes anything: it is a label: what it is worth is what the hold of that sum in a sandbox is worth. -/
noncomputable def Try.pinned : Pinned := { name := "ytgjibgklailenaa", sum := "fb27c1f52e0891fa1bf740c74d69fbd49b037292b20735a5e4519c23cf4adbe8", checked := Try.checked }
namespace Rows
def none {H : Type} : Left H := { results := [], args := [] }

/-- 'freeboardlaw23.LossTurns': WHATEVER THE INPUT: true; the input reads as it did. -/
def lossTurnsSpec : ChangeSpec := { name := "lossTurns", fn := fun _ => fun
  | [d1, d2, d3, d4, d5] => { results := [.lit (.bool true)], args := [d1, d2, d3, d4, d5] }
  | _ => none }
def lossTurnsRow : OpenClaim := { program := "ytgjibgklailenaa", sum := "fb27c1f52e0891fa1bf740c74d69fbd49b037292b20735a5e4519c23cf4adbe8", func := "freeboard/freeboardlaw23.LossTurns", spec := "lossTurns", apart := false }
def LossTurnsSaid : Prop := lossTurnsRow.holds Try.pinned (OpenSpec.ofChange lossTurnsSpec)

/-- ITS FALSE NEIGHBOUR: 'it returns false'. Refute it at one input. -/
def lossTurnsWrong : ChangeSpec := { name := "lossTurns", fn := fun _ => fun
  | [d1, d2, d3, d4, d5] => { results := [.lit (.bool false)], args := [d1, d2, d3, d4, d5] }
  | _ => none }
def LossTurnsWrongFalsely : Prop := lossTurnsRow.holds Try.pinned (OpenSpec.ofChange lossTurnsWrong)

/-- 'freeboardlaw23.LossOne': WHATEVER THE INPUT: true; the input reads as it did. -/
def lossOneSpec : ChangeSpec := { name := "lossOne", fn := fun _ => fun
  | [d] => { results := [.lit (.bool true)], args := [d] }
  | _ => none }
def lossOneRow : OpenClaim := { program := "ytgjibgklailenaa", sum := "fb27c1f52e0891fa1bf740c74d69fbd49b037292b20735a5e4519c23cf4adbe8", func := "freeboard/freeboardlaw23.LossOne", spec := "lossOne", apart := false }
def LossOneSaid : Prop := lossOneRow.holds Try.pinned (OpenSpec.ofChange lossOneSpec)

/-- ITS FALSE NEIGHBOUR: 'it returns false'. Refute it at one input. -/
def lossOneWrong : ChangeSpec := { name := "lossOne", fn := fun _ => fun
  | [d] => { results := [.lit (.bool false)], args := [d] }
  | _ => none }
def LossOneWrongFalsely : Prop := lossOneRow.holds Try.pinned (OpenSpec.ofChange lossOneWrong)

/-- 'freeboardlaw23.LossLabels': WHATEVER THE INPUT: true; the input reads as it did. -/
def lossLabelsSpec : ChangeSpec := { name := "lossLabels", fn := fun _ => fun
  | [d1, d2, d3] => { results := [.lit (.bool true)], args := [d1, d2, d3] }
  | _ => none }
def lossLabelsRow : OpenClaim := { program := "ytgjibgklailenaa", sum := "fb27c1f52e0891fa1bf740c74d69fbd49b037292b20735a5e4519c23cf4adbe8", func := "freeboard/freeboardlaw23.LossLabels", spec := "lossLabels", unfollowed := true, recurses := true, apart := false }
def LossLabelsSaid : Prop := lossLabelsRow.holds Try.pinned (OpenSpec.ofChange lossLabelsSpec)

/-- ITS FALSE NEIGHBOUR: 'it returns false'. Refute it at one input. -/
def lossLabelsWrong : ChangeSpec := { name := "lossLabels", fn := fun _ => fun
  | [d1, d2, d3] => { results := [.lit (.bool false)], args := [d1, d2, d3] }
  | _ => none }
def LossLabelsWrongFalsely : Prop := lossLabelsRow.holds Try.pinned (OpenSpec.ofChange lossLabelsWrong)

/-- 'freeboardlaw23.LossNames': WHATEVER THE INPUT: true; the input reads as it did. -/
def lossNamesSpec : ChangeSpec := { name := "lossNames", fn := fun _ => fun
  | [] => { results := [.lit (.bool true)], args := [] }
  | _ => none }
def lossNamesRow : OpenClaim := { program := "ytgjibgklailenaa", sum := "fb27c1f52e0891fa1bf740c74d69fbd49b037292b20735a5e4519c23cf4adbe8", func := "freeboard/freeboardlaw23.LossNames", spec := "lossNames", unfollowed := true, recurses := true, apart := false }
def LossNamesSaid : Prop := lossNamesRow.holds Try.pinned (OpenSpec.ofChange lossNamesSpec)

/-- ITS FALSE NEIGHBOUR: 'it returns false'. Refute it at one input. -/
def lossNamesWrong : ChangeSpec := { name := "lossNames", fn := fun _ => fun
  | [] => { results := [.lit (.bool false)], args := [] }
  | _ => none }
def LossNamesWrongFalsely : Prop := lossNamesRow.holds Try.pinned (OpenSpec.ofChange lossNamesWrong)

/-- 'freeboardlaw23.LossTold': WHATEVER THE INPUT: true; the input reads as it did. -/
def lossToldSpec : ChangeSpec := { name := "lossTold", fn := fun _ => fun
  | [d1, d2, d3, d4, d5] => { results := [.lit (.bool true)], args := [d1, d2, d3, d4, d5] }
  | _ => none }
def lossToldRow : OpenClaim := { program := "ytgjibgklailenaa", sum := "fb27c1f52e0891fa1bf740c74d69fbd49b037292b20735a5e4519c23cf4adbe8", func := "freeboard/freeboardlaw23.LossTold", spec := "lossTold", unfollowed := true, recurses := true, apart := false }
def LossToldSaid : Prop := lossToldRow.holds Try.pinned (OpenSpec.ofChange lossToldSpec)

/-- ITS FALSE NEIGHBOUR: 'it returns false'. Refute it at one input. -/
def lossToldWrong : ChangeSpec := { name := "lossTold", fn := fun _ => fun
  | [d1, d2, d3, d4, d5] => { results := [.lit (.bool false)], args := [d1, d2, d3, d4, d5] }
  | _ => none }
def LossToldWrongFalsely : Prop := lossToldRow.holds Try.pinned (OpenSpec.ofChange lossToldWrong)

/- THE SECOND FORM. 'bulk': how many values and letters a reading holds, each counted each time it is reached (what is shared counts as often as it is met; a slice's spare places count too). A statement '..UptoSaid' is the law's where the arguments, and the package variables that the reading takes, are together of bulk at most 1048576: NARROWER than '..Said'. Prove '..Said' where nothing that the law and all that it calls make is longer than what came in: it says more and counts as full. Else prove '..UptoSaid'. A law counts once. -/
mutual
def uptoBulk {H : Type} : DataW H → Nat
  | .lit (.string bytes) => bytes.length + 1
  | .lit _ => 1
  | .nil => 1
  | .ptr d => uptoBulk d + 1
  | .slice elems spare => uptoBulkAll elems + uptoBulkAll spare + 1
  | .agg parts => uptoBulkAll parts + 1
  | .iface _ d => uptoBulk d + 1
  | .map entries => uptoBulkEntries entries + 1
  | .held _ => 1
def uptoBulkAll {H : Type} : List (DataW H) → Nat
  | [] => 0
  | d :: r => uptoBulk d + uptoBulkAll r
def uptoBulkEntries {H : Type} : List (Lit × DataW H) → Nat
  | [] => 0
  | x :: r => uptoBulkEntry x + uptoBulkEntries r
def uptoBulkEntry {H : Type} : Lit × DataW H → Nat
  | (.string bytes, d) => bytes.length + uptoBulk d + 1
  | (_, d) => uptoBulk d + 1
 end
def uptoSmall : (H : Type) → List (DataW H) → Bool := fun _ ds => decide (uptoBulkAll ds ≤ 1048576)
def OpenSpec.upto (s : _root_.Go.ChangeSpec) : _root_.Go.OpenSpec := { _root_.Go.OpenSpec.ofChange s with cond := some uptoSmall }

/-- 'freeboardlaw23.LossTurns', WHERE WHAT IT READS IS OF BULK AT MOST 1048576: true; the input reads as it did. -/
def lossTurnsUptoRow : OpenClaim := { program := "ytgjibgklailenaa", sum := "fb27c1f52e0891fa1bf740c74d69fbd49b037292b20735a5e4519c23cf4adbe8", func := "freeboard/freeboardlaw23.LossTurns", spec := "lossTurns", apart := false, narrowed := true }
def LossTurnsUptoSaid : Prop := lossTurnsUptoRow.holds Try.pinned (OpenSpec.upto lossTurnsSpec)

/-- 'freeboardlaw23.LossOne', WHERE WHAT IT READS IS OF BULK AT MOST 1048576: true; the input reads as it did. -/
def lossOneUptoRow : OpenClaim := { program := "ytgjibgklailenaa", sum := "fb27c1f52e0891fa1bf740c74d69fbd49b037292b20735a5e4519c23cf4adbe8", func := "freeboard/freeboardlaw23.LossOne", spec := "lossOne", apart := false, narrowed := true }
def LossOneUptoSaid : Prop := lossOneUptoRow.holds Try.pinned (OpenSpec.upto lossOneSpec)

/-- 'freeboardlaw23.LossLabels', WHERE WHAT IT READS IS OF BULK AT MOST 1048576: true; the input reads as it did. -/
def lossLabelsUptoRow : OpenClaim := { program := "ytgjibgklailenaa", sum := "fb27c1f52e0891fa1bf740c74d69fbd49b037292b20735a5e4519c23cf4adbe8", func := "freeboard/freeboardlaw23.LossLabels", spec := "lossLabels", unfollowed := true, recurses := true, apart := false, narrowed := true }
def LossLabelsUptoSaid : Prop := lossLabelsUptoRow.holds Try.pinned (OpenSpec.upto lossLabelsSpec)

/-- 'freeboardlaw23.LossNames', WHERE WHAT IT READS IS OF BULK AT MOST 1048576: true; the input reads as it did. -/
def lossNamesUptoRow : OpenClaim := { program := "ytgjibgklailenaa", sum := "fb27c1f52e0891fa1bf740c74d69fbd49b037292b20735a5e4519c23cf4adbe8", func := "freeboard/freeboardlaw23.LossNames", spec := "lossNames", unfollowed := true, recurses := true, apart := false, narrowed := true }
def LossNamesUptoSaid : Prop := lossNamesUptoRow.holds Try.pinned (OpenSpec.upto lossNamesSpec)

/-- 'freeboardlaw23.LossTold', WHERE WHAT IT READS IS OF BULK AT MOST 1048576: true; the input reads as it did. -/
def lossToldUptoRow : OpenClaim := { program := "ytgjibgklailenaa", sum := "fb27c1f52e0891fa1bf740c74d69fbd49b037292b20735a5e4519c23cf4adbe8", func := "freeboard/freeboardlaw23.LossTold", spec := "lossTold", unfollowed := true, recurses := true, apart := false, narrowed := true }
def LossToldUptoSaid : Prop := lossToldUptoRow.holds Try.pinned (OpenSpec.upto lossToldSpec)

end Rows
end Go.Proofs.Ytgjibgklailenaa
