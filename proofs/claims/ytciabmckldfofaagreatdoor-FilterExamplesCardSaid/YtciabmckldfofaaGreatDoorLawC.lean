/- The law's row, with no condition but the listed variables. -/
import Derived.Test.YtciabmckldfofaaGreatDoorLawB
import Derived.Test.YtciabmckldfofaaGreatDoorFaA
import Derived.Test.YtciabmckldfofaaGreatDoorFaB
import Derived.Test.YtciabmckldfofaaGreatDoorFaC
import Derived.Test.YtciabmckldfofaaGreatDoorFaD
set_option linter.unusedSimpArgs false
set_option linter.unusedVariables false
namespace Go.Proofs.YtciabmckldfofaaGreatDoor.filterExamples
open Go.ChangeShapes Go.WideShapes Go.ChangeAt Go.RowKit
theorem jf : joinedFacts Tryz.prog 4 Tryz.f4 Rows.filterExamplesSpec Rows.filterExamplesRow = true := by
  unfold joinedFacts
  rw [jf1, jf2, jf3, jf4, jf5, jf6, jf7, jf8, jf9]
  kernel_rfl
theorem over : Rows.filterExamplesRow.holds Tryz.pinned (OpenSpec.ofChange Rows.filterExamplesSpec) :=
  OpenClaim.holds_of_wide 4 Tryz.f4 rfl rfl rfl rfl rfl rfl rfl ⟨rfl, rfl, rfl, rfl, rfl⟩ rfl rfl rfl rfl rfl (by kernel_rfl) Tryz.func4 jf
    (of_decide_eq_true (by kernel_rfl)) (by unfold Func.isWrapper; first | (rw [if_pos (by decide +kernel)]; kernel_rfl) | (rw [if_neg (by decide +kernel)]; exact ⟨rfl, rfl⟩))
    (fun os started H enc _ => lifted os started H enc)
end Go.Proofs.YtciabmckldfofaaGreatDoor.filterExamples
