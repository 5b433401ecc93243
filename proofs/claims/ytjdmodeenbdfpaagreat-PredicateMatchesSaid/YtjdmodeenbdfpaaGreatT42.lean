/- The function awake returns true, by evaluation, part 42 of the proof; each lemma states its own conditions. -/
import Derived.Test.YtjdmodeenbdfpaaGreatT24
import Derived.Test.YtjdmodeenbdfpaaGreatT41
set_option linter.unusedSimpArgs false
set_option linter.unusedVariables false
namespace Go.Proofs.YtjdmodeenbdfpaaGreat
open Go Go.Ab
noncomputable def LE0:Lst:=[(167,jB),(152,fJ),(97,ofF),(101,jE),(149,s9),(96,rP),(139,tw),(168,Gj),(105,yS),(150,xX),(104,pz),(95,yX),(87,jb),(55,nJ),(56,kS),(106,kr),(129,Ky),(49,iA),(108,rrF),(145,lj),(94,xP),(43,mv)]
theorem oG:dw base.P LE0:=⟨jf,jD,mI,ki,nY,oy,oC,wc,rj,rC,oZ,rM,oV,oS,oU,oT,zM,jj,vw,ow,ta,mr,trivial⟩
def ahs (o:Option (List PV × List Blk × List Nat)):Bool:=match o with
 | some ([.sc (.bool b)],_,_)=>b
 | _=>false
theorem rl {C:Cfg}(hC:uX C){k:Nat}{g:FuncId}{args:List PV}(h:ahs (Ab.runK C k g args [])=true):Ab.Spec C.P g (iJ args):=by
 unfold ahs at h
 split at h
 ·rename_i b hp w e
  subst h
  have h1:Ab.Spec C.P g fun a=>bif rF (eqP 8) a args then some [.sc (.bool true)] else .none :=
   Ab.Spec.aeN hC (fun a ha=>rE (Iz 8) ha) ⟨k,_,_,_,[.sc (.bool true)],[],e,rfl,Wk.refl rfl,trivial⟩
  exact h1.canon
 ·cases h
def mcl (l:List (List (List UInt8))):PV:=.imm l.length false (l.map fun p=>.imm p.length false (p.map fun s=>.sc (.string (mkStr s))))
def mil (l:List Int):PV:=.imm l.length false (l.map fun i=>.sc (.int .i64 i))
def mhA:List PV:=[mcl [[[48],[48]],[[50],[48]],[[49],[48]],[[50],[50]],[[48],[50]],[[48],[48]]],mil [0,1,3,4]]
def msS:List (List (List UInt8)):=[[[48],[48]],[[50],[48]],[[48],[50]],[[50],[50]],[[49],[49]],[[53],[53]]]
def msA (q w:Int):List PV:=[mcl msS,.sc (.int .i64 q),.sc (.int .i64 w),.sc (.int .i64 0),mil [0,1,2]]
theorem aim:Ab.Spec base.P 39 (iJ mhA):=rl (C:=CC LE0) (k:=100) (cP oG) (by kernel_rfl)
theorem afC:Ab.Spec base.P 35 (iJ (msA 3 0)):=rl (C:=CC LE0) (k:=100) (cP oG) (by kernel_rfl)
theorem afB:Ab.Spec base.P 35 (iJ (msA 4 1)):=rl (C:=CC LE0) (k:=100) (cP oG) (by kernel_rfl)
theorem afA:Ab.Spec base.P 35 (iJ (msA 5 (-1))):=rl (C:=CC LE0) (k:=100) (cP oG) (by kernel_rfl)
def msF:List PV→Option (List PV):=orF (iJ (msA 3 0)) (orF (iJ (msA 4 1)) (iJ (msA 5 (-1))))
theorem afD:Ab.Spec base.P 35 msF:=Ab.Spec.or afC (Ab.Spec.or afB afA)
end Go.Proofs.YtjdmodeenbdfpaaGreat
