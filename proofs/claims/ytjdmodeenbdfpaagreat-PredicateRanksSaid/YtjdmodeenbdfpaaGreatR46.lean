/- The function awake returns true, by evaluation, part 46 of the proof; each lemma states its own conditions. -/
import Derived.Test.YtjdmodeenbdfpaaGreatR45
set_option linter.unusedSimpArgs false
set_option linter.unusedVariables false
namespace Go.Proofs.YtjdmodeenbdfpaaGreat
open Go Go.Ab
noncomputable def LE1:Lst:=[(39,ib mhA),(35,msF),(36,mdF),(37,ib mrA),(167,jc),(152,fv),(97,ofF),(101,jf),(149,rC),(96,qo),(139,rT),(168,Ez),(105,xr),(150,wo),(104,oB),(95,xx),(87,iG),(55,mM),(56,j8),(106,jI),(129,Iv),(49,iq),(108,rrF),(145,kn),(94,vZ),(43,lL)]
theorem ad7:dL base.P LE1:=⟨aeW,acw,acB,aeV,iK,je,lV,jD,mX,nB,nG,uq,pU,pW,n6,qk,nW,nT,nV,nU,ya,jH,tK,nA,rE,lK,trivial⟩
theorem Z7:Ab.Spec base.P 12 (ib []):=pV (C:=CC LE1) (k:=100) (cV ad7) (by kernel_rfl)
end Go.Proofs.YtjdmodeenbdfpaaGreat
