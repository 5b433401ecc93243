/- A closed fact of the program, for the card. -/
import Derived.Test.YtciabmckldfofaaGreatDoorRows
import Derived.Test.YtciabmckldfofaaGreatDoorCards
import Derived.WalkKit
import Derived.SevenTiedAt
set_option linter.unusedSimpArgs false
set_option linter.unusedVariables false
namespace Go.Proofs.YtciabmckldfofaaGreatDoor.filterExamples
open Go Go.RowKit
theorem ca1 : false = Rows.filterExamplesRow.goesBy Tryz.prog := by kernel_rfl
end Go.Proofs.YtciabmckldfofaaGreatDoor.filterExamples
