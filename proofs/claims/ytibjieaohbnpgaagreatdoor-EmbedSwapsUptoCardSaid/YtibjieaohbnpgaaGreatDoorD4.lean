/- Closed facts of the row. -/
import Derived.Test.YtibjieaohbnpgaaGreatDoorRows
import Derived.JoinedOf
namespace Go.Proofs.YtibjieaohbnpgaaGreatDoor.embedSwaps
set_option maxRecDepth 100000
theorem k12 : ((Rows.embedSwapsUptoRow.named == Tryz.prog.varsNamed 7)) = true := by kernel_rfl
end Go.Proofs.YtibjieaohbnpgaaGreatDoor.embedSwaps
