/-
  No cell of these rows narrows 'for every input' (looked for: loops, veiled, ifaces, maps, wideKeys, modest, calm, conditions, laid).
  DERIVED. THE GIVEN ROWS OF THIS SEAT. 5 by the template 'for every input the law returns true; each argument reads behind the call as it read before'; 0 by the template 'total and deterministic' (their statements: YtdlmgdfeeofmbaaTotals.lean).
  GIVEN WITH THE SEED: the statements are not yours to turn. If you find one false, say at which input.
  Laid BY PROGRAM, IN A SANDBOX (cutbox-rows.mjs): the forced cells as the released guide's own fill.sh prints them over the translation 9aea97d8a7cdf7fb… (all of the seat's roots in one cut). By AI agents, Wed Nov 11 2026. No macro, syntax, notation, axiom, sorry.
-/
import Derived.Test.YtdlmgdfeeofmbaaChecked
import GoSem.Claim
import GoSem.ClaimJoined
import GoSem.ClaimMapViews
import Derived.JoinedTies
import Derived.KernelRfl
namespace Go.Proofs.Ytdlmgdfeeofmbaa
/- THE CELL 'sum', in the pinned program and in every row, IS THE sha256 OF THE DUMP (.gsa) THAT YtdlmgdfeeofmbaaProg.lean LOADS. Nothing in Lean hashes anything: it is a label: what it is worth is what the hold of that sum in a sandbox is worth. -/
noncomputable def Try.pinned : Pinned := { name := "ytdlmgdfeeofmbaa", sum := "9aea97d8a7cdf7fb641f1c44906b6c11a5026bff792c635894aa75f7150c9247", checked := Try.checked }
namespace Rows
def none {H : Type} : Left H := { results := [], args := [] }

/-- 'freeboardlaw22.EyeTells': WHATEVER THE INPUT: true; the input reads as it did. -/
def eyeTellsSpec : ChangeSpec := { name := "eyeTells", fn := fun _ => fun
  | [d1, d2, d3] => { results := [.lit (.bool true)], args := [d1, d2, d3] }
  | _ => none }
def eyeTellsRow : OpenClaim := { program := "ytdlmgdfeeofmbaa", sum := "9aea97d8a7cdf7fb641f1c44906b6c11a5026bff792c635894aa75f7150c9247", func := "freeboard/freeboardlaw22.EyeTells", spec := "eyeTells", unfollowed := true, recurses := true, apart := false }
def EyeTellsSaid : Prop := eyeTellsRow.holds Try.pinned (OpenSpec.ofChange eyeTellsSpec)

/-- ITS FALSE NEIGHBOUR: 'it returns false'. Refute it at one input. -/
def eyeTellsWrong : ChangeSpec := { name := "eyeTells", fn := fun _ => fun
  | [d1, d2, d3] => { results := [.lit (.bool false)], args := [d1, d2, d3] }
  | _ => none }
def EyeTellsWrongFalsely : Prop := eyeTellsRow.holds Try.pinned (OpenSpec.ofChange eyeTellsWrong)

/-- 'freeboardlaw22.EyeEach': WHATEVER THE INPUT: true; the input reads as it did. -/
def eyeEachSpec : ChangeSpec := { name := "eyeEach", fn := fun _ => fun
  | [d1, d2, d3, d4] => { results := [.lit (.bool true)], args := [d1, d2, d3, d4] }
  | _ => none }
def eyeEachRow : OpenClaim := { program := "ytdlmgdfeeofmbaa", sum := "9aea97d8a7cdf7fb641f1c44906b6c11a5026bff792c635894aa75f7150c9247", func := "freeboard/freeboardlaw22.EyeEach", spec := "eyeEach", unfollowed := true, recurses := true, apart := false }
def EyeEachSaid : Prop := eyeEachRow.holds Try.pinned (OpenSpec.ofChange eyeEachSpec)

/-- ITS FALSE NEIGHBOUR: 'it returns false'. Refute it at one input. -/
def eyeEachWrong : ChangeSpec := { name := "eyeEach", fn := fun _ => fun
  | [d1, d2, d3, d4] => { results := [.lit (.bool false)], args := [d1, d2, d3, d4] }
  | _ => none }
def EyeEachWrongFalsely : Prop := eyeEachRow.holds Try.pinned (OpenSpec.ofChange eyeEachWrong)

/-- 'freeboardlaw22.EyeAll': WHATEVER THE INPUT: true; the input reads as it did. -/
def eyeAllSpec : ChangeSpec := { name := "eyeAll", fn := fun _ => fun
  | [d1, d2] => { results := [.lit (.bool true)], args := [d1, d2] }
  | _ => none }
def eyeAllRow : OpenClaim := { program := "ytdlmgdfeeofmbaa", sum := "9aea97d8a7cdf7fb641f1c44906b6c11a5026bff792c635894aa75f7150c9247", func := "freeboard/freeboardlaw22.EyeAll", spec := "eyeAll", unfollowed := true, recurses := true, apart := false }
def EyeAllSaid : Prop := eyeAllRow.holds Try.pinned (OpenSpec.ofChange eyeAllSpec)

/-- ITS FALSE NEIGHBOUR: 'it returns false'. Refute it at one input. -/
def eyeAllWrong : ChangeSpec := { name := "eyeAll", fn := fun _ => fun
  | [d1, d2] => { results := [.lit (.bool false)], args := [d1, d2] }
  | _ => none }
def EyeAllWrongFalsely : Prop := eyeAllRow.holds Try.pinned (OpenSpec.ofChange eyeAllWrong)

/-- 'freeboardlaw22.EyeNames': WHATEVER THE INPUT: true; the input reads as it did. -/
def eyeNamesSpec : ChangeSpec := { name := "eyeNames", fn := fun _ => fun
  | [] => { results := [.lit (.bool true)], args := [] }
  | _ => none }
def eyeNamesRow : OpenClaim := { program := "ytdlmgdfeeofmbaa", sum := "9aea97d8a7cdf7fb641f1c44906b6c11a5026bff792c635894aa75f7150c9247", func := "freeboard/freeboardlaw22.EyeNames", spec := "eyeNames", unfollowed := true, recurses := true, apart := false }
def EyeNamesSaid : Prop := eyeNamesRow.holds Try.pinned (OpenSpec.ofChange eyeNamesSpec)

/-- ITS FALSE NEIGHBOUR: 'it returns false'. Refute it at one input. -/
def eyeNamesWrong : ChangeSpec := { name := "eyeNames", fn := fun _ => fun
  | [] => { results := [.lit (.bool false)], args := [] }
  | _ => none }
def EyeNamesWrongFalsely : Prop := eyeNamesRow.holds Try.pinned (OpenSpec.ofChange eyeNamesWrong)

/-- 'freeboardlaw22.EyeTurns': WHATEVER THE INPUT: true; the input reads as it did. -/
def eyeTurnsSpec : ChangeSpec := { name := "eyeTurns", fn := fun _ => fun
  | [d1, d2, d3, d4, d5, d6] => { results := [.lit (.bool true)], args := [d1, d2, d3, d4, d5, d6] }
  | _ => none }
def eyeTurnsRow : OpenClaim := { program := "ytdlmgdfeeofmbaa", sum := "9aea97d8a7cdf7fb641f1c44906b6c11a5026bff792c635894aa75f7150c9247", func := "freeboard/freeboardlaw22.EyeTurns", spec := "eyeTurns", unfollowed := true, recurses := true, apart := false }
def EyeTurnsSaid : Prop := eyeTurnsRow.holds Try.pinned (OpenSpec.ofChange eyeTurnsSpec)

/-- ITS FALSE NEIGHBOUR: 'it returns false'. Refute it at one input. -/
def eyeTurnsWrong : ChangeSpec := { name := "eyeTurns", fn := fun _ => fun
  | [d1, d2, d3, d4, d5, d6] => { results := [.lit (.bool false)], args := [d1, d2, d3, d4, d5, d6] }
  | _ => none }
def EyeTurnsWrongFalsely : Prop := eyeTurnsRow.holds Try.pinned (OpenSpec.ofChange eyeTurnsWrong)

/- THE SECOND FORM. 'bulk': how many values and letters a reading holds, each counted each time it is reached (what is shared counts as often as it is met; a slice's spare places count too). A statement '..UptoSaid' is the law's where the arguments, and the package variables that the reading takes, are together of bulk at most 1048576: NARROWER than '..Said'. Prove '..Said' where nothing that the law and all that it calls make is longer than what came in: it says more and counts as full. Else prove '..UptoSaid'. A law counts once. -/
mutual
def uptoBulk {H : Type} : DataW H → Nat
  | .lit (.string bytes) => bytes.length + 1
  | .lit _ => 1
  | .nil => 1
  | .ptr d => uptoBulk d + 1
  | .slice elems spare => uptoBulkAll elems + uptoBulkAll spare + 1
  | .agg parts => uptoBulkAll parts + 1
  | .iface _ d => uptoBulk d + 1
  | .map entries => uptoBulkEntries entries + 1
  | .held _ => 1
def uptoBulkAll {H : Type} : List (DataW H) → Nat
  | [] => 0
  | d :: r => uptoBulk d + uptoBulkAll r
def uptoBulkEntries {H : Type} : List (Lit × DataW H) → Nat
  | [] => 0
  | x :: r => uptoBulkEntry x + uptoBulkEntries r
def uptoBulkEntry {H : Type} : Lit × DataW H → Nat
  | (.string bytes, d) => bytes.length + uptoBulk d + 1
  | (_, d) => uptoBulk d + 1
 end
def uptoSmall : (H : Type) → List (DataW H) → Bool := fun _ ds => decide (uptoBulkAll ds ≤ 1048576)
def OpenSpec.upto (s : _root_.Go.ChangeSpec) : _root_.Go.OpenSpec := { _root_.Go.OpenSpec.ofChange s with cond := some uptoSmall }

/-- 'freeboardlaw22.EyeTells', WHERE WHAT IT READS IS OF BULK AT MOST 1048576: true; the input reads as it did. -/
def eyeTellsUptoRow : OpenClaim := { program := "ytdlmgdfeeofmbaa", sum := "9aea97d8a7cdf7fb641f1c44906b6c11a5026bff792c635894aa75f7150c9247", func := "freeboard/freeboardlaw22.EyeTells", spec := "eyeTells", unfollowed := true, recurses := true, apart := false, narrowed := true }
def EyeTellsUptoSaid : Prop := eyeTellsUptoRow.holds Try.pinned (OpenSpec.upto eyeTellsSpec)

/-- 'freeboardlaw22.EyeEach', WHERE WHAT IT READS IS OF BULK AT MOST 1048576: true; the input reads as it did. -/
def eyeEachUptoRow : OpenClaim := { program := "ytdlmgdfeeofmbaa", sum := "9aea97d8a7cdf7fb641f1c44906b6c11a5026bff792c635894aa75f7150c9247", func := "freeboard/freeboardlaw22.EyeEach", spec := "eyeEach", unfollowed := true, recurses := true, apart := false, narrowed := true }
def EyeEachUptoSaid : Prop := eyeEachUptoRow.holds Try.pinned (OpenSpec.upto eyeEachSpec)

/-- 'freeboardlaw22.EyeAll', WHERE WHAT IT READS IS OF BULK AT MOST 1048576: true; the input reads as it did. -/
def eyeAllUptoRow : OpenClaim := { program := "ytdlmgdfeeofmbaa", sum := "9aea97d8a7cdf7fb641f1c44906b6c11a5026bff792c635894aa75f7150c9247", func := "freeboard/freeboardlaw22.EyeAll", spec := "eyeAll", unfollowed := true, recurses := true, apart := false, narrowed := true }
def EyeAllUptoSaid : Prop := eyeAllUptoRow.holds Try.pinned (OpenSpec.upto eyeAllSpec)

/-- 'freeboardlaw22.EyeNames', WHERE WHAT IT READS IS OF BULK AT MOST 1048576: true; the input reads as it did. -/
def eyeNamesUptoRow : OpenClaim := { program := "ytdlmgdfeeofmbaa", sum := "9aea97d8a7cdf7fb641f1c44906b6c11a5026bff792c635894aa75f7150c9247", func := "freeboard/freeboardlaw22.EyeNames", spec := "eyeNames", unfollowed := true, recurses := true, apart := false, narrowed := true }
def EyeNamesUptoSaid : Prop := eyeNamesUptoRow.holds Try.pinned (OpenSpec.upto eyeNamesSpec)

/-- 'freeboardlaw22.EyeTurns', WHERE WHAT IT READS IS OF BULK AT MOST 1048576: true; the input reads as it did. -/
def eyeTurnsUptoRow : OpenClaim := { program := "ytdlmgdfeeofmbaa", sum := "9aea97d8a7cdf7fb641f1c44906b6c11a5026bff792c635894aa75f7150c9247", func := "freeboard/freeboardlaw22.EyeTurns", spec := "eyeTurns", unfollowed := true, recurses := true, apart := false, narrowed := true }
def EyeTurnsUptoSaid : Prop := eyeTurnsUptoRow.holds Try.pinned (OpenSpec.upto eyeTurnsSpec)

end Rows
end Go.Proofs.Ytdlmgdfeeofmbaa
