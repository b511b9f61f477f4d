/- Closed facts of the row. -/
import Derived.Test.YtnblehjhpjfilaaGreatDoorRows
import Derived.JoinedOf
namespace Go.Proofs.YtnblehjhpjfilaaGreatDoor.originAlike
set_option maxRecDepth 100000
theorem k9 : ((Rows.originAlikeUptoRow.inPlace == Tryz.prog.inPlace 5)) = true := by kernel_rfl
end Go.Proofs.YtnblehjhpjfilaaGreatDoor.originAlike
