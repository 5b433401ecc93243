/- The function awake returns true, by evaluation, part 44 of the proof; each lemma states its own conditions. -/
import Derived.Test.YtjdmodeenbdfpaaGreatR26
import Derived.Test.YtjdmodeenbdfpaaGreatR43
set_option linter.unusedSimpArgs false
set_option linter.unusedVariables false
namespace Go.Proofs.YtjdmodeenbdfpaaGreat
open Go Go.Ab
noncomputable def LE0:Lst:=[(167,jc),(152,fv),(97,ofF),(101,jf),(149,rC),(96,qo),(139,rT),(168,Ez),(105,xr),(150,wo),(104,oB),(95,xx),(87,iG),(55,mM),(56,j8),(106,jI),(129,Iv),(49,iq),(108,rrF),(145,kn),(94,vZ),(43,lL)]
theorem nI:dL base.P LE0:=⟨iK,je,lV,jD,mX,nB,nG,uq,pU,pW,n6,qk,nW,nT,nV,nU,ya,jH,tK,nA,rE,lK,trivial⟩
def aen (o:Option (List PV × List Blk × List Nat)):Bool:=match o with
 | some ([.sc (.bool b)],_,_)=>b
 | _=>false
theorem pV {C:Cfg}(hC:tr C){k:Nat}{g:FuncId}{args:List PV}(h:aen (Ab.runK C k g args [])=true):Ab.Spec C.P g (ib args):=by
 unfold aen at h
 split at h
 ·rename_i b hp w e
  subst h
  have h1:Ab.Spec C.P g fun a=>bif qa (eqP 8) a args then some [.sc (.bool true)] else .none :=
   Ab.Spec.abM hC (fun a ha=>pZ (GW 8) ha) ⟨k,_,_,_,[.sc (.bool true)],[],e,rfl,Wk.refl rfl,trivial⟩
  exact h1.canon
 ·cases h
def mcl (l:List (List (List UInt8))):PV:=.imm l.length false (l.map fun p=>.imm p.length false (p.map fun s=>.sc (.string (mkStr s))))
def mil (l:List Int):PV:=.imm l.length false (l.map fun i=>.sc (.int .i64 i))
def mhA:List PV:=[mcl [[[48],[48]],[[50],[48]],[[49],[48]],[[50],[50]],[[48],[50]],[[48],[48]]],mil [0,1,3,4]]
def msS:List (List (List UInt8)):=[[[48],[48]],[[50],[48]],[[48],[50]],[[50],[50]],[[49],[49]],[[53],[53]]]
def msA (q w:Int):List PV:=[mcl msS,.sc (.int .i64 q),.sc (.int .i64 w),.sc (.int .i64 0),mil [0,1,2]]
theorem aeW:Ab.Spec base.P 39 (ib mhA):=pV (C:=CC LE0) (k:=100) (cV nI) (by kernel_rfl)
theorem acv:Ab.Spec base.P 35 (ib (msA 3 0)):=pV (C:=CC LE0) (k:=100) (cV nI) (by kernel_rfl)
theorem acu:Ab.Spec base.P 35 (ib (msA 4 1)):=pV (C:=CC LE0) (k:=100) (cV nI) (by kernel_rfl)
theorem acs:Ab.Spec base.P 35 (ib (msA 5 (-1))):=pV (C:=CC LE0) (k:=100) (cV nI) (by kernel_rfl)
def msF:List PV→Option (List PV):=orF (ib (msA 3 0)) (orF (ib (msA 4 1)) (ib (msA 5 (-1))))
theorem acw:Ab.Spec base.P 35 msF:=Ab.Spec.or acv (Ab.Spec.or acu acs)
end Go.Proofs.YtjdmodeenbdfpaaGreat
