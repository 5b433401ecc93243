/- The function awake returns true, by evaluation, part 43 of the proof; each lemma states its own conditions. -/
import Derived.Test.YtjdmodeenbdfpaaGreatT42
set_option linter.unusedSimpArgs false
set_option linter.unusedVariables false
namespace Go.Proofs.YtjdmodeenbdfpaaGreat
open Go Go.Ab
def mdA (c:List (List (List UInt8)))(w:List UInt8)(s:Int)(l:List Int):List PV:=[mcl c,.sc (.string (mkStr w)),.sc (.int .i64 s),mil l]
def mdT:List (List (List UInt8)):=[[[48],[48]],[[49],[48]],[[48],[49]]]
def mdD:List (List (List UInt8)):=[[[48],[48]],[[49],[49]],[[50],[50]]]
def mrA:List PV:=[mcl mdD,.sc (.int .i64 1),mil [0,1,2]]
theorem afH:Ab.Spec base.P 36 (iJ (mdA mdT [49] 1 [0,1,2])):=rl (C:=CC LE0) (k:=100) (cP oG) (by kernel_rfl)
theorem afG:Ab.Spec base.P 36 (iJ (mdA mdT [45,49] (-1) [0,2,1])):=rl (C:=CC LE0) (k:=100) (cP oG) (by kernel_rfl)
theorem afF:Ab.Spec base.P 36 (iJ (mdA mdD [48] 0 [0,1,2])):=rl (C:=CC LE0) (k:=100) (cP oG) (by kernel_rfl)
def mdF:List PV→Option (List PV):=orF (iJ (mdA mdT [49] 1 [0,1,2])) (orF (iJ (mdA mdT [45,49] (-1) [0,2,1])) (iJ (mdA mdD [48] 0 [0,1,2])))
theorem afI:Ab.Spec base.P 36 mdF:=Ab.Spec.or afH (Ab.Spec.or afG afF)
theorem ail:Ab.Spec base.P 37 (iJ mrA):=rl (C:=CC LE0) (k:=100) (cP oG) (by kernel_rfl)
end Go.Proofs.YtjdmodeenbdfpaaGreat
