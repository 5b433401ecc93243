/- The function awake returns true, by evaluation. -/
import Derived.Test.YtjdmodeenbdfpaaGreatEvA
set_option linter.unusedSimpArgs false
set_option linter.unusedVariables false
namespace Go.Proofs.YtjdmodeenbdfpaaGreat
open Go Go.Ab
theorem aw_ev : yes (Ab.runT CE 100 12 [] .lf 0) = true := by kernel_rfl
theorem aw_spec : Ab.Spec base.P 12 (memoF []) := memo_spec ceOk aw_ev
end Go.Proofs.YtjdmodeenbdfpaaGreat
