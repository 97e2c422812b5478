/- Plain law: the chapter's examples, by running the models. -/
import Derived.Test.YtmlmlfghogoadaaGrn2
set_option linter.unusedVariables false
set_option linter.unusedSimpArgs false
set_option linter.unnecessarySimpa false
namespace Go.Proofs.Ytmlmlfghogoadaa
open Go GL
theorem names_true : law27_RedoNames = some true := by kernel_rfl
end Go.Proofs.Ytmlmlfghogoadaa
