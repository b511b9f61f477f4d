/- Closed facts of the row. -/
import Derived.Test.YtibjieaohbnpgaaGreatDoorRows
import Derived.JoinedOf
namespace Go.Proofs.YtibjieaohbnpgaaGreatDoor.originOpaque
set_option maxRecDepth 100000
theorem k11 : ((Rows.originOpaqueUptoRow.recurses == Tryz.prog.recurses 4)) = true := by kernel_rfl
end Go.Proofs.YtibjieaohbnpgaaGreatDoor.originOpaque
