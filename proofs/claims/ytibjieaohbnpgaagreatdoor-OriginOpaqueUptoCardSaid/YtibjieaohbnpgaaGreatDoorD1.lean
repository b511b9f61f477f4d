/- Closed facts of the row. -/
import Derived.Test.YtibjieaohbnpgaaGreatDoorRows
import Derived.JoinedOf
namespace Go.Proofs.YtibjieaohbnpgaaGreatDoor.originOpaque
set_option maxRecDepth 100000
theorem k9 : ((Rows.originOpaqueUptoRow.inPlace == Tryz.prog.inPlace 4)) = true := by kernel_rfl
end Go.Proofs.YtibjieaohbnpgaaGreatDoor.originOpaque
