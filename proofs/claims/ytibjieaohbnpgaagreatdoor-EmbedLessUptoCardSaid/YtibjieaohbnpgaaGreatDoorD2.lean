/- Closed facts of the row. -/
import Derived.Test.YtibjieaohbnpgaaGreatDoorRows
import Derived.JoinedOf
namespace Go.Proofs.YtibjieaohbnpgaaGreatDoor.embedLess
set_option maxRecDepth 100000
theorem k10 : ((Rows.embedLessUptoRow.unfollowed == Tryz.prog.unfollowed 6)) = true := by kernel_rfl
end Go.Proofs.YtibjieaohbnpgaaGreatDoor.embedLess
