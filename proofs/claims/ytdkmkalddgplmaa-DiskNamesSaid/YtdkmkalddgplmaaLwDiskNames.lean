/- Plain law: the chapter's examples, by running the models. -/
import Derived.Test.YtdkmkalddgplmaaGdn1
namespace Go.Proofs.Ytdkmkalddgplmaa
open Go GL
theorem names_true : law04_DiskNames = some true := by kernel_rfl
end Go.Proofs.Ytdkmkalddgplmaa
