/- The example that the law runs first answers true. -/
import Derived.Test.YtnblehjhpjfilaaGreatDoorB4
import Derived.KernelRfl
set_option linter.all false
set_option linter.unusedSimpArgs false
set_option linter.unusedVariables false
set_option linter.unnecessarySimpa false
set_option linter.deprecated false
namespace Go.AE.Fns
open Go Go.AE
set_option maxRecDepth 100000
theorem r : isT (run 100000 47 []) = true := by kernel_rfl
end Go.AE.Fns
