/- Closed facts of the row. -/
import Derived.Test.YtnblehjhpjfilaaGreatDoorRows
import Derived.JoinedOf
set_option linter.all false
set_option linter.unusedSimpArgs false
set_option linter.unusedVariables false
set_option linter.unnecessarySimpa false
set_option linter.deprecated false
namespace Go.Proofs.YtnblehjhpjfilaaGreatDoor.originRules
set_option maxRecDepth 100000
theorem k12 : ((Rows.originRulesUptoRow.named == Tryz.prog.varsNamed 4)) = true := by kernel_rfl
end Go.Proofs.YtnblehjhpjfilaaGreatDoor.originRules
