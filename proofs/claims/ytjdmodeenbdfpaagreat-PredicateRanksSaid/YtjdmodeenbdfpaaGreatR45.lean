/- The function awake returns true, by evaluation, part 45 of the proof; each lemma states its own conditions. -/
import Derived.Test.YtjdmodeenbdfpaaGreatR44
set_option linter.unusedSimpArgs false
set_option linter.unusedVariables false
namespace Go.Proofs.YtjdmodeenbdfpaaGreat
open Go Go.Ab
def mdA (c:List (List (List UInt8)))(w:List UInt8)(s:Int)(l:List Int):List PV:=[mcl c,.sc (.string (mkStr w)),.sc (.int .i64 s),mil l]
def mdT:List (List (List UInt8)):=[[[48],[48]],[[49],[48]],[[48],[49]]]
def mdD:List (List (List UInt8)):=[[[48],[48]],[[49],[49]],[[50],[50]]]
def mrA:List PV:=[mcl mdD,.sc (.int .i64 1),mil [0,1,2]]
theorem acA:Ab.Spec base.P 36 (ib (mdA mdT [49] 1 [0,1,2])):=pV (C:=CC LE0) (k:=100) (cV nI) (by kernel_rfl)
theorem acz:Ab.Spec base.P 36 (ib (mdA mdT [45,49] (-1) [0,2,1])):=pV (C:=CC LE0) (k:=100) (cV nI) (by kernel_rfl)
theorem acy:Ab.Spec base.P 36 (ib (mdA mdD [48] 0 [0,1,2])):=pV (C:=CC LE0) (k:=100) (cV nI) (by kernel_rfl)
def mdF:List PV→Option (List PV):=orF (ib (mdA mdT [49] 1 [0,1,2])) (orF (ib (mdA mdT [45,49] (-1) [0,2,1])) (ib (mdA mdD [48] 0 [0,1,2])))
theorem acB:Ab.Spec base.P 36 mdF:=Ab.Spec.or acA (Ab.Spec.or acz acy)
theorem aeV:Ab.Spec base.P 37 (ib mrA):=pV (C:=CC LE0) (k:=100) (cV nI) (by kernel_rfl)
end Go.Proofs.YtjdmodeenbdfpaaGreat
