/- Closed facts of the row. -/
import Derived.Test.YtibjieaohbnpgaaGreatDoorRows
import Derived.JoinedOf
namespace Go.Proofs.YtibjieaohbnpgaaGreatDoor.embedOrigins
set_option maxRecDepth 100000
theorem k9 : ((Rows.embedOriginsUptoRow.inPlace == Tryz.prog.inPlace 5)) = true := by kernel_rfl
end Go.Proofs.YtibjieaohbnpgaaGreatDoor.embedOrigins
