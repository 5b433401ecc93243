/- Closed facts of the program, for the row. -/
import Derived.Test.YtciabmckldfofaaGreatDoorRows
import Derived.WalkKit
import Derived.JoinedOf
set_option linter.unusedSimpArgs false
set_option linter.unusedVariables false
namespace Go.Proofs.YtciabmckldfofaaGreatDoor.filterExamples
open Go Go.RowKit
theorem jf5 : (Rows.filterExamplesRow.recurses == Tryz.prog.recurses 4) = true := by kernel_rfl
theorem jf6 : (Rows.filterExamplesRow.named == Tryz.prog.varsNamed 4) = true := by kernel_rfl
end Go.Proofs.YtciabmckldfofaaGreatDoor.filterExamples
