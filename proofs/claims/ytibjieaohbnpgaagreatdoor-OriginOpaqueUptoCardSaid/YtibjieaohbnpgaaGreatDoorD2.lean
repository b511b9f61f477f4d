/- Closed facts of the row. -/
import Derived.Test.YtibjieaohbnpgaaGreatDoorRows
import Derived.JoinedOf
namespace Go.Proofs.YtibjieaohbnpgaaGreatDoor.originOpaque
set_option maxRecDepth 100000
theorem k10 : ((Rows.originOpaqueUptoRow.unfollowed == Tryz.prog.unfollowed 4)) = true := by kernel_rfl
end Go.Proofs.YtibjieaohbnpgaaGreatDoor.originOpaque
