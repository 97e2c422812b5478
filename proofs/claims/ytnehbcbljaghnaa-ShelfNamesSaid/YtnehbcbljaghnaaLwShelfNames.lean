/- Plain law: the chapter's examples, by running the models. -/
import Derived.Test.YtnehbcbljaghnaaGsn1
namespace Go.Proofs.Ytnehbcbljaghnaa
open Go GL
theorem names_true : law19_ShelfNames = some true := by kernel_rfl
end Go.Proofs.Ytnehbcbljaghnaa
