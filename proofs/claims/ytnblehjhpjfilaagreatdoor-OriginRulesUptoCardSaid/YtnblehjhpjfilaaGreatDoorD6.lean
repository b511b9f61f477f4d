/- A closed fact of the card. -/
import Derived.Test.YtnblehjhpjfilaaGreatDoorCards
import Derived.SevenTiedAt
set_option linter.all false
set_option linter.unusedSimpArgs false
set_option linter.unusedVariables false
set_option linter.unnecessarySimpa false
set_option linter.deprecated false
namespace Go.Proofs.YtnblehjhpjfilaaGreatDoor.originRules
set_option maxRecDepth 100000
theorem goes : false = Rows.originRulesUptoRow.goesBy Tryz.pinned.checked.prog := by kernel_rfl
end Go.Proofs.YtnblehjhpjfilaaGreatDoor.originRules
