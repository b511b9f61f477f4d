/- Closed facts of the row. -/
import Derived.Test.YtibjieaohbnpgaaGreatDoorRows
import Derived.JoinedOf
namespace Go.Proofs.YtibjieaohbnpgaaGreatDoor.embedSwaps
set_option maxRecDepth 100000
theorem k9 : ((Rows.embedSwapsUptoRow.inPlace == Tryz.prog.inPlace 7)) = true := by kernel_rfl
end Go.Proofs.YtibjieaohbnpgaaGreatDoor.embedSwaps
