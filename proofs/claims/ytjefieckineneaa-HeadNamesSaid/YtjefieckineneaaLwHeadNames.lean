/- Plain law: the chapter's examples, by running the models. -/
import Derived.Test.YtjefieckineneaaGn2
namespace Go.Proofs.Ytjefieckineneaa
open Go GL
theorem names_true : law16_HeadNames = some true := by kernel_rfl
end Go.Proofs.Ytjefieckineneaa
