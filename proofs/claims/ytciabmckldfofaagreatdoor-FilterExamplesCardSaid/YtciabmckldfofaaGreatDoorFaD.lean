/- Closed facts of the program, for the row. -/
import Derived.Test.YtciabmckldfofaaGreatDoorRows
import Derived.WalkKit
import Derived.JoinedOf
set_option linter.unusedSimpArgs false
set_option linter.unusedVariables false
namespace Go.Proofs.YtciabmckldfofaaGreatDoor.filterExamples
open Go Go.RowKit
theorem jf7 : Tryz.prog.mayEnter = true := by kernel_rfl
theorem jf8 : Tryz.prog.stopsHeard = true := by kernel_rfl
theorem jf9 : (Rows.filterExamplesRow.lifted == Tryz.prog.liftsFinal) = true := by kernel_rfl
end Go.Proofs.YtciabmckldfofaaGreatDoor.filterExamples
