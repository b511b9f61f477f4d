/- Closed facts of the row. -/
import Derived.Test.YtnblehjhpjfilaaGreatDoorRows
import Derived.JoinedOf
namespace Go.Proofs.YtnblehjhpjfilaaGreatDoor.originAlike
set_option maxRecDepth 100000
theorem k12 : ((Rows.originAlikeUptoRow.named == Tryz.prog.varsNamed 5)) = true := by kernel_rfl
end Go.Proofs.YtnblehjhpjfilaaGreatDoor.originAlike
