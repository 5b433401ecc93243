/- Closed facts of the program, for the row. -/
import Derived.Test.YtciabmckldfofaaGreatDoorRows
import Derived.WalkKit
import Derived.JoinedOf
set_option linter.unusedSimpArgs false
set_option linter.unusedVariables false
namespace Go.Proofs.YtciabmckldfofaaGreatDoor.filterExamples
open Go Go.RowKit
theorem jf3 : (Rows.filterExamplesRow.inPlace == Tryz.prog.inPlace 4) = true := by kernel_rfl
theorem jf4 : (Rows.filterExamplesRow.unfollowed == Tryz.prog.unfollowed 4) = true := by kernel_rfl
end Go.Proofs.YtciabmckldfofaaGreatDoor.filterExamples
