/- Plain law: the chapter's examples, by running the models. -/
import Derived.Test.YtcnmlbgcnkfnhaaGh2
namespace Go.Proofs.Ytcnmlbgcnkfnhaa
open Go GL
theorem names_true : law21_HomeNames = some true := by kernel_rfl
end Go.Proofs.Ytcnmlbgcnkfnhaa
