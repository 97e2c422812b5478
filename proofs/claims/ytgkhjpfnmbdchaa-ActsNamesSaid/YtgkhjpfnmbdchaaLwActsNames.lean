/- Plain law: the chapter's examples, by running the models. -/
import Derived.Test.YtgkhjpfnmbdchaaGan2
namespace Go.Proofs.Ytgkhjpfnmbdchaa
open Go GL
theorem names_true : law05_ActsNames = some true := by kernel_rfl
end Go.Proofs.Ytgkhjpfnmbdchaa
