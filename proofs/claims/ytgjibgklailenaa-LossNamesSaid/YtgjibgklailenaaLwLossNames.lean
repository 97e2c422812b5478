/- Plain law: the chapter's examples, by running the models. -/
import Derived.Test.YtgjibgklailenaaGln2
namespace Go.Proofs.Ytgjibgklailenaa
open Go GL
theorem names_true : law23_LossNames = some true := by kernel_rfl
end Go.Proofs.Ytgjibgklailenaa
