/- Closed facts of the program, for the card. -/
import Derived.Test.YtciabmckldfofaaGreatDoorRows
import Derived.Test.YtciabmckldfofaaGreatDoorCards
import Derived.WalkKit
import Derived.SevenTiedAt
set_option linter.unusedSimpArgs false
set_option linter.unusedVariables false
namespace Go.Proofs.YtciabmckldfofaaGreatDoor.filterExamples
open Go Go.RowKit
theorem ca2 : false = Tryz.prog.looks [] := by kernel_rfl
theorem ca3 : Tryz.prog.funcNamed "torus/toruslaw09.FilterExamples" = some 4 := by kernel_rfl
end Go.Proofs.YtciabmckldfofaaGreatDoor.filterExamples
