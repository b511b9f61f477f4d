/- A closed fact of the card. -/
import Derived.Test.YtnblehjhpjfilaaGreatDoorCards
import Derived.SevenTiedAt
namespace Go.Proofs.YtnblehjhpjfilaaGreatDoor.originAlike
set_option maxRecDepth 100000
theorem goes : false = Rows.originAlikeUptoRow.goesBy Tryz.pinned.checked.prog := by kernel_rfl
end Go.Proofs.YtnblehjhpjfilaaGreatDoor.originAlike
