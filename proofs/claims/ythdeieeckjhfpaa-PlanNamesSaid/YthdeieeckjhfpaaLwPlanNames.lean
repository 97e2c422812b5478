/- Plain law: the chapter's examples, by running the models. -/
import Derived.Test.YthdeieeckjhfpaaGp2
namespace Go.Proofs.Ythdeieeckjhfpaa
open Go GL
theorem names_true : law17_PlanNames = some true := by kernel_rfl
end Go.Proofs.Ythdeieeckjhfpaa
