/-
  No cell of these rows narrows 'for every input' (looked for: loops, veiled, ifaces, maps, wideKeys, modest, calm, conditions, laid).
  DERIVED. THE GIVEN ROWS OF THIS SEAT. 4 by the template 'for every input the law returns true; each argument reads behind the call as it read before'; 0 by the template 'total and deterministic' (their statements: YtcnmlbgcnkfnhaaTotals.lean).
  GIVEN WITH THE SEED: the statements are not yours to turn. If you find one false, say at which input.
  Laid BY PROGRAM, IN A SANDBOX (cutbox-rows.mjs): the forced cells as the released guide's own fill.sh prints them over the translation 35da8978d4a2accf… (all of the seat's roots in one cut). By AI agents, Wed Nov 11 2026. No macro, syntax, notation, axiom, sorry.
-/
import Derived.Test.YtcnmlbgcnkfnhaaChecked
import GoSem.Claim
import GoSem.ClaimJoined
import GoSem.ClaimMapViews
import Derived.JoinedTies
import Derived.KernelRfl
namespace Go.Proofs.Ytcnmlbgcnkfnhaa
/- THE CELL 'sum', in the pinned program and in every row, IS THE sha256 OF THE DUMP (.gsa) THAT YtcnmlbgcnkfnhaaProg.lean LOADS. Nothing in Lean hashes anything: it is a label: what it is worth is what the hold of that sum in a sandbox is worth. -/
noncomputable def Try.pinned : Pinned := { name := "ytcnmlbgcnkfnhaa", sum := "35da8978d4a2accfd0cb62b11073a07ad5172e25e6d53d83f7a5d2c2714e86cf", checked := Try.checked }
namespace Rows
def none {H : Type} : Left H := { results := [], args := [] }

/-- 'freeboardlaw21.HomeApart': WHATEVER THE INPUT: true; the input reads as it did. -/
def homeApartSpec : ChangeSpec := { name := "homeApart", fn := fun _ => fun
  | [d1, d2, d3] => { results := [.lit (.bool true)], args := [d1, d2, d3] }
  | _ => none }
def homeApartRow : OpenClaim := { program := "ytcnmlbgcnkfnhaa", sum := "35da8978d4a2accfd0cb62b11073a07ad5172e25e6d53d83f7a5d2c2714e86cf", func := "freeboard/freeboardlaw21.HomeApart", spec := "homeApart", unfollowed := true, recurses := true, apart := false }
def HomeApartSaid : Prop := homeApartRow.holds Try.pinned (OpenSpec.ofChange homeApartSpec)

/-- ITS FALSE NEIGHBOUR: 'it returns false'. Refute it at one input. -/
def homeApartWrong : ChangeSpec := { name := "homeApart", fn := fun _ => fun
  | [d1, d2, d3] => { results := [.lit (.bool false)], args := [d1, d2, d3] }
  | _ => none }
def HomeApartWrongFalsely : Prop := homeApartRow.holds Try.pinned (OpenSpec.ofChange homeApartWrong)

/-- 'freeboardlaw21.HomeNames': WHATEVER THE INPUT: true; the input reads as it did. -/
def homeNamesSpec : ChangeSpec := { name := "homeNames", fn := fun _ => fun
  | [] => { results := [.lit (.bool true)], args := [] }
  | _ => none }
def homeNamesRow : OpenClaim := { program := "ytcnmlbgcnkfnhaa", sum := "35da8978d4a2accfd0cb62b11073a07ad5172e25e6d53d83f7a5d2c2714e86cf", func := "freeboard/freeboardlaw21.HomeNames", spec := "homeNames", unfollowed := true, recurses := true, apart := false }
def HomeNamesSaid : Prop := homeNamesRow.holds Try.pinned (OpenSpec.ofChange homeNamesSpec)

/-- ITS FALSE NEIGHBOUR: 'it returns false'. Refute it at one input. -/
def homeNamesWrong : ChangeSpec := { name := "homeNames", fn := fun _ => fun
  | [] => { results := [.lit (.bool false)], args := [] }
  | _ => none }
def HomeNamesWrongFalsely : Prop := homeNamesRow.holds Try.pinned (OpenSpec.ofChange homeNamesWrong)

/-- 'freeboardlaw21.HomeEven': WHATEVER THE INPUT: true; the input reads as it did. -/
def homeEvenSpec : ChangeSpec := { name := "homeEven", fn := fun _ => fun
  | [d1, d2, d3, d4] => { results := [.lit (.bool true)], args := [d1, d2, d3, d4] }
  | _ => none }
def homeEvenRow : OpenClaim := { program := "ytcnmlbgcnkfnhaa", sum := "35da8978d4a2accfd0cb62b11073a07ad5172e25e6d53d83f7a5d2c2714e86cf", func := "freeboard/freeboardlaw21.HomeEven", spec := "homeEven", unfollowed := true, recurses := true, apart := false }
def HomeEvenSaid : Prop := homeEvenRow.holds Try.pinned (OpenSpec.ofChange homeEvenSpec)

/-- ITS FALSE NEIGHBOUR: 'it returns false'. Refute it at one input. -/
def homeEvenWrong : ChangeSpec := { name := "homeEven", fn := fun _ => fun
  | [d1, d2, d3, d4] => { results := [.lit (.bool false)], args := [d1, d2, d3, d4] }
  | _ => none }
def HomeEvenWrongFalsely : Prop := homeEvenRow.holds Try.pinned (OpenSpec.ofChange homeEvenWrong)

/-- 'freeboardlaw21.HomeAgain': WHATEVER THE INPUT: true; the input reads as it did. -/
def homeAgainSpec : ChangeSpec := { name := "homeAgain", fn := fun _ => fun
  | [d1, d2, d3, d4, d5, d6] => { results := [.lit (.bool true)], args := [d1, d2, d3, d4, d5, d6] }
  | _ => none }
def homeAgainRow : OpenClaim := { program := "ytcnmlbgcnkfnhaa", sum := "35da8978d4a2accfd0cb62b11073a07ad5172e25e6d53d83f7a5d2c2714e86cf", func := "freeboard/freeboardlaw21.HomeAgain", spec := "homeAgain", unfollowed := true, recurses := true, apart := false }
def HomeAgainSaid : Prop := homeAgainRow.holds Try.pinned (OpenSpec.ofChange homeAgainSpec)

/-- ITS FALSE NEIGHBOUR: 'it returns false'. Refute it at one input. -/
def homeAgainWrong : ChangeSpec := { name := "homeAgain", fn := fun _ => fun
  | [d1, d2, d3, d4, d5, d6] => { results := [.lit (.bool false)], args := [d1, d2, d3, d4, d5, d6] }
  | _ => none }
def HomeAgainWrongFalsely : Prop := homeAgainRow.holds Try.pinned (OpenSpec.ofChange homeAgainWrong)

/- THE SECOND FORM. 'bulk': how many values and letters a reading holds, each counted each time it is reached (what is shared counts as often as it is met; a slice's spare places count too). A statement '..UptoSaid' is the law's where the arguments, and the package variables that the reading takes, are together of bulk at most 1048576: NARROWER than '..Said'. Prove '..Said' where nothing that the law and all that it calls make is longer than what came in: it says more and counts as full. Else prove '..UptoSaid'. A law counts once. -/
mutual
def uptoBulk {H : Type} : DataW H → Nat
  | .lit (.string bytes) => bytes.length + 1
  | .lit _ => 1
  | .nil => 1
  | .ptr d => uptoBulk d + 1
  | .slice elems spare => uptoBulkAll elems + uptoBulkAll spare + 1
  | .agg parts => uptoBulkAll parts + 1
  | .iface _ d => uptoBulk d + 1
  | .map entries => uptoBulkEntries entries + 1
  | .held _ => 1
def uptoBulkAll {H : Type} : List (DataW H) → Nat
  | [] => 0
  | d :: r => uptoBulk d + uptoBulkAll r
def uptoBulkEntries {H : Type} : List (Lit × DataW H) → Nat
  | [] => 0
  | x :: r => uptoBulkEntry x + uptoBulkEntries r
def uptoBulkEntry {H : Type} : Lit × DataW H → Nat
  | (.string bytes, d) => bytes.length + uptoBulk d + 1
  | (_, d) => uptoBulk d + 1
 end
def uptoSmall : (H : Type) → List (DataW H) → Bool := fun _ ds => decide (uptoBulkAll ds ≤ 1048576)
def OpenSpec.upto (s : _root_.Go.ChangeSpec) : _root_.Go.OpenSpec := { _root_.Go.OpenSpec.ofChange s with cond := some uptoSmall }

/-- 'freeboardlaw21.HomeApart', WHERE WHAT IT READS IS OF BULK AT MOST 1048576: true; the input reads as it did. -/
def homeApartUptoRow : OpenClaim := { program := "ytcnmlbgcnkfnhaa", sum := "35da8978d4a2accfd0cb62b11073a07ad5172e25e6d53d83f7a5d2c2714e86cf", func := "freeboard/freeboardlaw21.HomeApart", spec := "homeApart", unfollowed := true, recurses := true, apart := false, narrowed := true }
def HomeApartUptoSaid : Prop := homeApartUptoRow.holds Try.pinned (OpenSpec.upto homeApartSpec)

/-- 'freeboardlaw21.HomeNames', WHERE WHAT IT READS IS OF BULK AT MOST 1048576: true; the input reads as it did. -/
def homeNamesUptoRow : OpenClaim := { program := "ytcnmlbgcnkfnhaa", sum := "35da8978d4a2accfd0cb62b11073a07ad5172e25e6d53d83f7a5d2c2714e86cf", func := "freeboard/freeboardlaw21.HomeNames", spec := "homeNames", unfollowed := true, recurses := true, apart := false, narrowed := true }
def HomeNamesUptoSaid : Prop := homeNamesUptoRow.holds Try.pinned (OpenSpec.upto homeNamesSpec)

/-- 'freeboardlaw21.HomeEven', WHERE WHAT IT READS IS OF BULK AT MOST 1048576: true; the input reads as it did. -/
def homeEvenUptoRow : OpenClaim := { program := "ytcnmlbgcnkfnhaa", sum := "35da8978d4a2accfd0cb62b11073a07ad5172e25e6d53d83f7a5d2c2714e86cf", func := "freeboard/freeboardlaw21.HomeEven", spec := "homeEven", unfollowed := true, recurses := true, apart := false, narrowed := true }
def HomeEvenUptoSaid : Prop := homeEvenUptoRow.holds Try.pinned (OpenSpec.upto homeEvenSpec)

/-- 'freeboardlaw21.HomeAgain', WHERE WHAT IT READS IS OF BULK AT MOST 1048576: true; the input reads as it did. -/
def homeAgainUptoRow : OpenClaim := { program := "ytcnmlbgcnkfnhaa", sum := "35da8978d4a2accfd0cb62b11073a07ad5172e25e6d53d83f7a5d2c2714e86cf", func := "freeboard/freeboardlaw21.HomeAgain", spec := "homeAgain", unfollowed := true, recurses := true, apart := false, narrowed := true }
def HomeAgainUptoSaid : Prop := homeAgainUptoRow.holds Try.pinned (OpenSpec.upto homeAgainSpec)

end Rows
end Go.Proofs.Ytcnmlbgcnkfnhaa
