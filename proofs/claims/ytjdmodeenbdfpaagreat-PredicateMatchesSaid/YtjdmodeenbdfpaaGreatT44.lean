/- The function awake returns true, by evaluation, part 44 of the proof; each lemma states its own conditions. -/
import Derived.Test.YtjdmodeenbdfpaaGreatT43
set_option linter.unusedSimpArgs false
set_option linter.unusedVariables false
namespace Go.Proofs.YtjdmodeenbdfpaaGreat
open Go Go.Ab
noncomputable def LE1:Lst:=[(39,iJ mhA),(35,msF),(36,mdF),(37,iJ mrA),(167,jB),(152,fJ),(97,ofF),(101,jE),(149,s9),(96,rP),(139,tw),(168,Gj),(105,yS),(150,xX),(104,pz),(95,yX),(87,jb),(55,nJ),(56,kS),(106,kr),(129,Ky),(49,iA),(108,rrF),(145,lj),(94,xP),(43,mv)]
theorem ag7:dw base.P LE1:=⟨aim,afD,afI,ail,jf,jD,mI,ki,nY,oy,oC,wc,rj,rC,oZ,rM,oV,oS,oU,oT,zM,jj,vw,ow,ta,mr,trivial⟩
theorem acS:Ab.Spec base.P 12 (iJ []):=rl (C:=CC LE1) (k:=100) (cP ag7) (by kernel_rfl)
end Go.Proofs.YtjdmodeenbdfpaaGreat
