/- Plain law: the chapter's examples, by running the models. -/
import Derived.Test.YtbedfodlofannaaGvn2
namespace Go.Proofs.Ytbedfodlofannaa
open Go GL
theorem names_true : law18_EvenNames = some true := by kernel_rfl
end Go.Proofs.Ytbedfodlofannaa
