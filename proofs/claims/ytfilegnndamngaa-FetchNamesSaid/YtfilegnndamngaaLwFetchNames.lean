/- Plain law: the chapter's examples, by running the models. -/
import Derived.Test.YtfilegnndamngaaGfn2
namespace Go.Proofs.Ytfilegnndamngaa
open Go GL
theorem names_true : law20_FetchNames = some true := by kernel_rfl
end Go.Proofs.Ytfilegnndamngaa
