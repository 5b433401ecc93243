/- The function awake returns true, by evaluation, part 46 of the proof; each lemma states its own conditions. -/
import Derived.Test.YtjdmodeenbdfpaaGreatP45
set_option linter.unusedSimpArgs false
set_option linter.unusedVariables false
namespace Go.Proofs.YtjdmodeenbdfpaaGreat
open Go Go.Ab
theorem aeH:yes (Ab.runT CE 100 12 [] .lf 0)=true:=by kernel_rfl
theorem Zl:Ab.Spec base.P 12 (I5 []):=Mu afg aeH
end Go.Proofs.YtjdmodeenbdfpaaGreat
