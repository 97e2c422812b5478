/-
  No cell of these rows narrows 'for every input' (looked for: loops, veiled, ifaces, maps, wideKeys, modest, calm, conditions, laid).
  DERIVED. THE GIVEN ROWS OF THIS SEAT. 4 by the template 'for every input the law returns true; each argument reads behind the call as it read before'; 0 by the template 'total and deterministic' (their statements: YtbedfodlofannaaTotals.lean).
  GIVEN WITH THE SEED: the statements are not yours to turn. If you find one false, say at which input.
  Laid BY PROGRAM, IN A SANDBOX (cutbox-rows.mjs): the forced cells as the released guide's own fill.sh prints them over the translation cdcfa3b9571e03fa… (all of the seat's roots in one cut). By AI agents, Wed Nov 11 2026. No macro, syntax, notation, axiom, sorry.
-/
import Derived.Test.YtbedfodlofannaaChecked
import GoSem.Claim
import GoSem.ClaimJoined
import GoSem.ClaimMapViews
import Derived.JoinedTies
import Derived.KernelRfl
namespace Go.Proofs.Ytbedfodlofannaa
/- THE CELL 'sum', in the pinned program and in every row, IS THE sha256 OF THE DUMP (.gsa) THAT YtbedfodlofannaaProg.lean LOADS. Nothing in Lean hashes anything: it is a label: what it is worth is what the hold of that sum in a sandbox is worth. -/
noncomputable def Try.pinned : Pinned := { name := "ytbedfodlofannaa", sum := "cdcfa3b9571e03faca6f5d9c5883a48fae2b5a6b75455ba357174a1301a75a68", checked := Try.checked }
namespace Rows
def none {H : Type} : Left H := { results := [], args := [] }

/-- 'freeboardlaw18.EvenTells': WHATEVER THE INPUT: true; the input reads as it did. -/
def evenTellsSpec : ChangeSpec := { name := "evenTells", fn := fun _ => fun
  | [d1, d2, d3, d4] => { results := [.lit (.bool true)], args := [d1, d2, d3, d4] }
  | _ => none }
def evenTellsRow : OpenClaim := { program := "ytbedfodlofannaa", sum := "cdcfa3b9571e03faca6f5d9c5883a48fae2b5a6b75455ba357174a1301a75a68", func := "freeboard/freeboardlaw18.EvenTells", spec := "evenTells", unfollowed := true, recurses := true, apart := false }
def EvenTellsSaid : Prop := evenTellsRow.holds Try.pinned (OpenSpec.ofChange evenTellsSpec)

/-- ITS FALSE NEIGHBOUR: 'it returns false'. Refute it at one input. -/
def evenTellsWrong : ChangeSpec := { name := "evenTells", fn := fun _ => fun
  | [d1, d2, d3, d4] => { results := [.lit (.bool false)], args := [d1, d2, d3, d4] }
  | _ => none }
def EvenTellsWrongFalsely : Prop := evenTellsRow.holds Try.pinned (OpenSpec.ofChange evenTellsWrong)

/-- 'freeboardlaw18.EvenNames': WHATEVER THE INPUT: true; the input reads as it did. -/
def evenNamesSpec : ChangeSpec := { name := "evenNames", fn := fun _ => fun
  | [] => { results := [.lit (.bool true)], args := [] }
  | _ => none }
def evenNamesRow : OpenClaim := { program := "ytbedfodlofannaa", sum := "cdcfa3b9571e03faca6f5d9c5883a48fae2b5a6b75455ba357174a1301a75a68", func := "freeboard/freeboardlaw18.EvenNames", spec := "evenNames", unfollowed := true, recurses := true, apart := false }
def EvenNamesSaid : Prop := evenNamesRow.holds Try.pinned (OpenSpec.ofChange evenNamesSpec)

/-- ITS FALSE NEIGHBOUR: 'it returns false'. Refute it at one input. -/
def evenNamesWrong : ChangeSpec := { name := "evenNames", fn := fun _ => fun
  | [] => { results := [.lit (.bool false)], args := [] }
  | _ => none }
def EvenNamesWrongFalsely : Prop := evenNamesRow.holds Try.pinned (OpenSpec.ofChange evenNamesWrong)

/-- 'freeboardlaw18.EvenLost': WHATEVER THE INPUT: true; the input reads as it did. -/
def evenLostSpec : ChangeSpec := { name := "evenLost", fn := fun _ => fun
  | [d1, d2, d3] => { results := [.lit (.bool true)], args := [d1, d2, d3] }
  | _ => none }
def evenLostRow : OpenClaim := { program := "ytbedfodlofannaa", sum := "cdcfa3b9571e03faca6f5d9c5883a48fae2b5a6b75455ba357174a1301a75a68", func := "freeboard/freeboardlaw18.EvenLost", spec := "evenLost", unfollowed := true, recurses := true, apart := false }
def EvenLostSaid : Prop := evenLostRow.holds Try.pinned (OpenSpec.ofChange evenLostSpec)

/-- ITS FALSE NEIGHBOUR: 'it returns false'. Refute it at one input. -/
def evenLostWrong : ChangeSpec := { name := "evenLost", fn := fun _ => fun
  | [d1, d2, d3] => { results := [.lit (.bool false)], args := [d1, d2, d3] }
  | _ => none }
def EvenLostWrongFalsely : Prop := evenLostRow.holds Try.pinned (OpenSpec.ofChange evenLostWrong)

/-- 'freeboardlaw18.EvenOnce': WHATEVER THE INPUT: true; the input reads as it did. -/
def evenOnceSpec : ChangeSpec := { name := "evenOnce", fn := fun _ => fun
  | [d1, d2, d3, d4, d5] => { results := [.lit (.bool true)], args := [d1, d2, d3, d4, d5] }
  | _ => none }
def evenOnceRow : OpenClaim := { program := "ytbedfodlofannaa", sum := "cdcfa3b9571e03faca6f5d9c5883a48fae2b5a6b75455ba357174a1301a75a68", func := "freeboard/freeboardlaw18.EvenOnce", spec := "evenOnce", unfollowed := true, recurses := true, apart := false }
def EvenOnceSaid : Prop := evenOnceRow.holds Try.pinned (OpenSpec.ofChange evenOnceSpec)

/-- ITS FALSE NEIGHBOUR: 'it returns false'. Refute it at one input. -/
def evenOnceWrong : ChangeSpec := { name := "evenOnce", fn := fun _ => fun
  | [d1, d2, d3, d4, d5] => { results := [.lit (.bool false)], args := [d1, d2, d3, d4, d5] }
  | _ => none }
def EvenOnceWrongFalsely : Prop := evenOnceRow.holds Try.pinned (OpenSpec.ofChange evenOnceWrong)

/- THE SECOND FORM. 'bulk': how many values and letters a reading holds, each counted each time it is reached (what is shared counts as often as it is met; a slice's spare places count too). A statement '..UptoSaid' is the law's where the arguments, and the package variables that the reading takes, are together of bulk at most 1048576: NARROWER than '..Said'. Prove '..Said' where nothing that the law and all that it calls make is longer than what came in: it says more and counts as full. Else prove '..UptoSaid'. A law counts once. -/
mutual
def uptoBulk {H : Type} : DataW H → Nat
  | .lit (.string bytes) => bytes.length + 1
  | .lit _ => 1
  | .nil => 1
  | .ptr d => uptoBulk d + 1
  | .slice elems spare => uptoBulkAll elems + uptoBulkAll spare + 1
  | .agg parts => uptoBulkAll parts + 1
  | .iface _ d => uptoBulk d + 1
  | .map entries => uptoBulkEntries entries + 1
  | .held _ => 1
def uptoBulkAll {H : Type} : List (DataW H) → Nat
  | [] => 0
  | d :: r => uptoBulk d + uptoBulkAll r
def uptoBulkEntries {H : Type} : List (Lit × DataW H) → Nat
  | [] => 0
  | x :: r => uptoBulkEntry x + uptoBulkEntries r
def uptoBulkEntry {H : Type} : Lit × DataW H → Nat
  | (.string bytes, d) => bytes.length + uptoBulk d + 1
  | (_, d) => uptoBulk d + 1
 end
def uptoSmall : (H : Type) → List (DataW H) → Bool := fun _ ds => decide (uptoBulkAll ds ≤ 1048576)
def OpenSpec.upto (s : _root_.Go.ChangeSpec) : _root_.Go.OpenSpec := { _root_.Go.OpenSpec.ofChange s with cond := some uptoSmall }

/-- 'freeboardlaw18.EvenTells', WHERE WHAT IT READS IS OF BULK AT MOST 1048576: true; the input reads as it did. -/
def evenTellsUptoRow : OpenClaim := { program := "ytbedfodlofannaa", sum := "cdcfa3b9571e03faca6f5d9c5883a48fae2b5a6b75455ba357174a1301a75a68", func := "freeboard/freeboardlaw18.EvenTells", spec := "evenTells", unfollowed := true, recurses := true, apart := false, narrowed := true }
def EvenTellsUptoSaid : Prop := evenTellsUptoRow.holds Try.pinned (OpenSpec.upto evenTellsSpec)

/-- 'freeboardlaw18.EvenNames', WHERE WHAT IT READS IS OF BULK AT MOST 1048576: true; the input reads as it did. -/
def evenNamesUptoRow : OpenClaim := { program := "ytbedfodlofannaa", sum := "cdcfa3b9571e03faca6f5d9c5883a48fae2b5a6b75455ba357174a1301a75a68", func := "freeboard/freeboardlaw18.EvenNames", spec := "evenNames", unfollowed := true, recurses := true, apart := false, narrowed := true }
def EvenNamesUptoSaid : Prop := evenNamesUptoRow.holds Try.pinned (OpenSpec.upto evenNamesSpec)

/-- 'freeboardlaw18.EvenLost', WHERE WHAT IT READS IS OF BULK AT MOST 1048576: true; the input reads as it did. -/
def evenLostUptoRow : OpenClaim := { program := "ytbedfodlofannaa", sum := "cdcfa3b9571e03faca6f5d9c5883a48fae2b5a6b75455ba357174a1301a75a68", func := "freeboard/freeboardlaw18.EvenLost", spec := "evenLost", unfollowed := true, recurses := true, apart := false, narrowed := true }
def EvenLostUptoSaid : Prop := evenLostUptoRow.holds Try.pinned (OpenSpec.upto evenLostSpec)

/-- 'freeboardlaw18.EvenOnce', WHERE WHAT IT READS IS OF BULK AT MOST 1048576: true; the input reads as it did. -/
def evenOnceUptoRow : OpenClaim := { program := "ytbedfodlofannaa", sum := "cdcfa3b9571e03faca6f5d9c5883a48fae2b5a6b75455ba357174a1301a75a68", func := "freeboard/freeboardlaw18.EvenOnce", spec := "evenOnce", unfollowed := true, recurses := true, apart := false, narrowed := true }
def EvenOnceUptoSaid : Prop := evenOnceUptoRow.holds Try.pinned (OpenSpec.upto evenOnceSpec)

end Rows
end Go.Proofs.Ytbedfodlofannaa
