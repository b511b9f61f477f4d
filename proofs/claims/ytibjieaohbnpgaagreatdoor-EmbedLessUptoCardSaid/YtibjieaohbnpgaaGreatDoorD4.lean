/- Closed facts of the row. -/
import Derived.Test.YtibjieaohbnpgaaGreatDoorRows
import Derived.JoinedOf
namespace Go.Proofs.YtibjieaohbnpgaaGreatDoor.embedLess
set_option maxRecDepth 100000
theorem k12 : ((Rows.embedLessUptoRow.named == Tryz.prog.varsNamed 6)) = true := by kernel_rfl
end Go.Proofs.YtibjieaohbnpgaaGreatDoor.embedLess
