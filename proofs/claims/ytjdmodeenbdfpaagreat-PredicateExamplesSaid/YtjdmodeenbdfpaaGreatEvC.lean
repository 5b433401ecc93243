/- Four calls that are worked out by themselves, by evaluation. -/
import Derived.Test.YtjdmodeenbdfpaaGreatEvA
set_option linter.unusedSimpArgs false
set_option linter.unusedVariables false
namespace Go.Proofs.YtjdmodeenbdfpaaGreat
open Go Go.Ab
theorem me0_ev : yes (Ab.runT CE 100 36 memoA0 .lf 0) = true := by kernel_rfl
theorem me0_spec : Ab.Spec base.P 36 (memoF memoA0) := memo_spec ceOk me0_ev
theorem me1_ev : yes (Ab.runT CE 100 35 memoA1 .lf 0) = true := by kernel_rfl
theorem me1_spec : Ab.Spec base.P 35 (memoF memoA1) := memo_spec ceOk me1_ev
theorem me2_ev : yes (Ab.runT CE 100 35 memoA2 .lf 0) = true := by kernel_rfl
theorem me2_spec : Ab.Spec base.P 35 (memoF memoA2) := memo_spec ceOk me2_ev
theorem me3_ev : yes (Ab.runT CE 100 35 memoA3 .lf 0) = true := by kernel_rfl
theorem me3_spec : Ab.Spec base.P 35 (memoF memoA3) := memo_spec ceOk me3_ev
def detM : List PV → Option (List PV) := memoF memoA0
theorem detM_spec : Ab.Spec base.P 36 detM := me0_spec
def sphM : List PV → Option (List PV) := orF (memoF memoA1) (orF (memoF memoA2) (memoF memoA3))
theorem sphM_spec : Ab.Spec base.P 35 sphM := Ab.Spec.or me1_spec (Ab.Spec.or me2_spec (me3_spec))
end Go.Proofs.YtjdmodeenbdfpaaGreat
