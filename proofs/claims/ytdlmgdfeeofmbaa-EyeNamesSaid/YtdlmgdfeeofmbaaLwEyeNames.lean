/- Plain law: the chapter's examples, by running the models. -/
import Derived.Test.YtdlmgdfeeofmbaaGen1
namespace Go.Proofs.Ytdlmgdfeeofmbaa
open Go GL
theorem names_true : law22_EyeNames = some true := by kernel_rfl
end Go.Proofs.Ytdlmgdfeeofmbaa
