/- The function awake returns true, by evaluation, part 46 of the proof; each lemma states its own conditions. -/
import Derived.Test.YtjdmodeenbdfpaaGreatQ45
set_option linter.unusedSimpArgs false
set_option linter.unusedVariables false
namespace Go.Proofs.YtjdmodeenbdfpaaGreat
open Go Go.Ab
theorem afH:yes (Ab.runT CE 100 12 [] .lf 0)=true:=by kernel_rfl
theorem Z8:Ab.Spec base.P 12 (Jx []):=MW agn afH
end Go.Proofs.YtjdmodeenbdfpaaGreat
