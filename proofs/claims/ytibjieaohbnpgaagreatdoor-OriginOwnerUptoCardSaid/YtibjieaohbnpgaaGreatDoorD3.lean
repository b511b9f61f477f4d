/- Closed facts of the row. -/
import Derived.Test.YtibjieaohbnpgaaGreatDoorRows
import Derived.JoinedOf
namespace Go.Proofs.YtibjieaohbnpgaaGreatDoor.originOwner
set_option maxRecDepth 100000
theorem k11 : ((Rows.originOwnerUptoRow.recurses == Tryz.prog.recurses 3)) = true := by kernel_rfl
end Go.Proofs.YtibjieaohbnpgaaGreatDoor.originOwner
