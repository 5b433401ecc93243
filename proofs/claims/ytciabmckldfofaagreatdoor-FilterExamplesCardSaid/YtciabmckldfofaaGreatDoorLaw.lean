/- The law's tied card: the statement FilterExamplesCardSaid, with no condition. -/
import Derived.Test.YtciabmckldfofaaGreatDoorLawC
import Derived.Test.YtciabmckldfofaaGreatDoorFaE
import Derived.Test.YtciabmckldfofaaGreatDoorFaF
set_option linter.unusedSimpArgs false
set_option linter.unusedVariables false
namespace Go.Proofs.YtciabmckldfofaaGreatDoor.filterExamples
open Go.ChangeShapes Go.WideShapes Go.ChangeAt Go.RowKit
theorem card : Rows.FilterExamplesCardSaid :=
  Claim7.holds_tied_plain_at .later [] [.data, .data, .data] true Rows.filterExamplesCard.stood.harness false
    over (fun _ h => by cases h) (by kernel_rfl) (fun _ h => by cases h) filterExamples_row_tie rfl ⟨rfl, rfl⟩ (by kernel_rfl) rfl
    (fun f fn hf hfn => by
      obtain rfl : f = 4 := Option.some.inj (ca3.symm.trans hf) |>.symm
      obtain rfl : fn = Tryz.f4 := (Option.some.inj (Tryz.func4.symm.trans hfn)).symm
      exact ⟨ca2, fun j t ht => by
        rw [Tryz.params4] at ht
        simp at ht⟩)
    ca1
#print axioms card
end Go.Proofs.YtciabmckldfofaaGreatDoor.filterExamples
namespace Go.Proofs.YtciabmckldfofaaGreatDoor
/-- The card, under a short name, for the claim. -/
theorem filterExamples_holds : Rows.FilterExamplesCardSaid := filterExamples.card
end Go.Proofs.YtciabmckldfofaaGreatDoor
