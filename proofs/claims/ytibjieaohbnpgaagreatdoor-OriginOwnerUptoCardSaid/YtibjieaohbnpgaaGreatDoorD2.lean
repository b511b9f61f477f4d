/- Closed facts of the row. -/
import Derived.Test.YtibjieaohbnpgaaGreatDoorRows
import Derived.JoinedOf
namespace Go.Proofs.YtibjieaohbnpgaaGreatDoor.originOwner
set_option maxRecDepth 100000
theorem k10 : ((Rows.originOwnerUptoRow.unfollowed == Tryz.prog.unfollowed 3)) = true := by kernel_rfl
end Go.Proofs.YtibjieaohbnpgaaGreatDoor.originOwner
