/- Contracts of the law and of what it calls, and facts about determinants, part 44 of the proof; each lemma states its own conditions. -/
import Derived.Test.YtjdmodeenbdfpaaGreatQ43
set_option linter.unusedSimpArgs false
set_option linter.unusedVariables false
namespace Go.Proofs.YtjdmodeenbdfpaaGreat
open Go Go.Ab
def RowsIn (hp:List Blk)(id:Nat):List PV→List (List Rat)→Prop
 | [],[]=>True
 | v::vs,R::Rs=>(∃ j,v = .own j 4 0 R.length false∧j≠id∧aZ hp j=some ⟨.live,R.flatMap rcs⟩)∧RowsIn hp id vs Rs
 | _,_=>False
theorem RowsIn.len {hp:List Blk}{id:Nat} : ∀ {vs:List PV} {Rs:List (List Rat)},RowsIn hp id vs Rs→vs.length=Rs.length
 | [],[],_=>rfl
 | v::vs,R::Rs,h=>by rw[List.length_cons,List.length_cons,RowsIn.len h.2]
 | [],_::_,h=>h.elim
 | _::_,[],h=>h.elim
theorem RowsIn.mono {hp hp':List Blk}{id id':Nat}(h1:∀ j,j≠id→j<hp.length→aZ hp' j=aZ hp j∧j≠id'):∀ {vs:List PV} {Rs:List (List Rat)},RowsIn hp id vs Rs→RowsIn hp' id' vs Rs
 | [],[],_=>trivial
 | v::vs,R::Rs,⟨⟨j,e1,e2,e3⟩,h⟩=>by
  have hj:j<hp.length:=by
   rw[ct] at e3
   exact (List.getElem?_eq_some_iff.1 e3).1
  obtain⟨m1,m2⟩:=h1 j e2 hj
  exact⟨⟨j,e1,m2,by rw[m1,e3]⟩,RowsIn.mono h1 h⟩
 | [],_::_,h=>h.elim
 | _::_,[],h=>h.elim
theorem RowsIn.snoc {hp:List Blk}{id j:Nat}{R:List Rat}(hj:j≠id)(hb:aZ hp j=some ⟨.live,R.flatMap rcs⟩):∀ {vs:List PV} {Rs:List (List Rat)},RowsIn hp id vs Rs→RowsIn hp id (vs++[.own j 4 0 R.length false]) (Rs++[R])
 | [],[],_=>⟨⟨j,rfl,hj,hb⟩,trivial⟩
 | v::vs,S::Rs,h=>⟨h.1,RowsIn.snoc hj hb h.2⟩
 | [],_::_,h=>h.elim
 | _::_,[],h=>h.elim
theorem RowsIn.snap {hp:List Blk}{id:Nat} : ∀ {vs:List PV} {Rs:List (List Rat)},RowsIn hp id vs Rs→∃ ids,bq (Ab.snap hp 11) vs=some (Rs.flatMap eV,ids)
 | [],[],_=>⟨[],rfl⟩
 | v::vs,R::Rs,⟨⟨j,e1,_,e3⟩,h⟩=>by
  obtain⟨ids,hi⟩:=RowsIn.snap h
  have ht:bE (br (R.flatMap rcs) 0) (R.length*4)=some (R.flatMap rcs):=by
   have:=qJ cO.toEl R []
   rw[List.append_nil] at this
   rw[cM,List.drop_zero,this]
  have h1:Ab.snap hp (10+1) v=some (vR R,[j]):=by
   rw[e1,Ab.snap]
   simp only[e3]
   rw[if_neg (by simp),ht]
   simp only[cO.sns hp 9 R]
   rfl
  refine⟨[j]++ids,?_⟩
  simp only[bq,h1,hi]
  rfl
 | [],_::_,h=>h.elim
 | _::_,[],h=>h.elim
theorem RowsIn.okc {hp:List Blk}{id:Nat} : ∀ {vs:List PV} {Rs:List (List Rat)},RowsIn hp id vs Rs→bc vs=true
 | [],[],_=>rfl
 | v::vs,R::Rs,⟨⟨j,e1,_,_⟩,h⟩=>by rw[bc,RowsIn.okc h,e1];rfl
 | [],_::_,h=>h.elim
 | _::_,[],h=>h.elim
def xV (hp:List Blk)(Rs:List (List Rat))(p:PV):Prop:=(Rs=[]∧p = .sc (.slice none 0 0))∨∃ id vs,p = .own id 1 0 Rs.length false∧aZ hp id=some ⟨.live,vs⟩∧RowsIn hp id vs Rs
theorem xV.app {hp:List Blk}{Rs:List (List Rat)}{p:PV}(h:xV hp Rs p)(R:List Rat)(h9:Rs.length≤1000) :
  ∃ p' hp' fp,cV (aP (aP hp (R.flatMap rcs)) [.own hp.length 4 0 R.length false]) 1 p 1 [.own hp.length 4 0 R.length false]=some (p',hp',fp)∧xV hp' (Rs++[R]) p':=by
 have n1:∀ cs:List PV,(aP hp cs).length=hp.length+1:=fun cs=>by simp[aP]
 have n2:(aP (aP hp (R.flatMap rcs)) [.own hp.length 4 0 R.length false]).length=hp.length+2:=by simp[aP]
 have hl:∀ j,j<hp.length→aZ (aP (aP hp (R.flatMap rcs)) [.own hp.length 4 0 R.length false]) j=aZ hp j:=fun j hj=>by
  rw[bO,if_neg (by rw[n1];omega),bO,if_neg (by omega)]
 have hr:aZ (aP (aP hp (R.flatMap rcs)) [.own hp.length 4 0 R.length false]) hp.length=some ⟨.live,R.flatMap rcs⟩:=by
  rw[bO,if_neg (by rw[n1];omega),al1]
 rcases h with ⟨rfl,rfl⟩| ⟨id,vs,rfl,hb,hR⟩
 ·refine⟨_,_,_,rfl,.inr ⟨_,[.own hp.length 4 0 R.length false],rfl,al1 _ _,⟨⟨hp.length,rfl,by rw[n2];omega,?_⟩,trivial⟩⟩⟩
  rw[bO,if_neg (by rw[n2];omega),hr]
 ·have hid:id<hp.length:=by
   rw[ct] at hb
   exact (List.getElem?_eq_some_iff.1 hb).1
  have hb':=(hl id hid).trans hb
  have ht:bE (br vs 0) (Rs.length*1)=some vs:=by
   rw[cM,List.drop_zero,Nat.mul_one,dS (by rw[hR.len];exact Nat.le_refl _),← hR.len,List.take_length]
  have hm:Rs.length+1≤cL:=Nat.le_trans (show Rs.length+1≤1001 by omega) (by decide)
  have ha:cV (aP (aP hp (R.flatMap rcs)) [.own hp.length 4 0 R.length false]) 1 (.own id 1 0 Rs.length false) 1 [.own hp.length 4 0 R.length false]=some (.own (hp.length+2) 1 0 (Rs.length+1) false,aP (cf (aP (aP hp (R.flatMap rcs)) [.own hp.length 4 0 R.length false]) id ⟨.dead,[]⟩) (vs++[.own hp.length 4 0 R.length false]),⟨[],[id,hp.length+2],true,false⟩):=by
   simp only[cV,hb',ht,n2]
   rw[if_neg (by simp),if_pos hm]
  refine⟨_,_,_,ha,.inr ⟨hp.length+2,vs++[.own hp.length 4 0 R.length false],by simp,?_,?_⟩⟩
  ·rw[bO,bG,n2,if_pos rfl]
  ·refine RowsIn.snoc (by omega) ?_ (RowsIn.mono (fun j hj hj2=>⟨?_,by omega⟩) hR)
   ·rw[bO,bG,n2,if_neg (by omega),cJ hb',if_neg (by omega),hr]
   ·rw[bO,bG,n2,if_neg (by omega),cJ hb',if_neg (by omega),hl j hj2]
theorem xV.snap {hp:List Blk}{Rs:List (List Rat)}{p:PV}(h:xV hp Rs p):∃ q ids,bq (Ab.snap hp bj) [p]=some ([q],ids)∧canon q=mC Rs:=by
 rcases h with ⟨rfl,rfl⟩| ⟨id,vs,rfl,hb,hR⟩
 ·exact⟨.sc (.slice none 0 0),[],rfl,rfl⟩
 ·obtain⟨ids,hi⟩:=hR.snap
  have ht:bE (br vs 0) (Rs.length*1)=some vs:=by
   rw[cM,List.drop_zero,Nat.mul_one,dS (by rw[hR.len];exact Nat.le_refl _),← hR.len,List.take_length]
  have h1:Ab.snap hp (11+1) (.own id 1 0 Rs.length false)=some (mC Rs,id::ids):=by
   rw[Ab.snap]
   simp only[hb]
   rw[if_neg (by simp),ht]
   simp only[hi]
   rfl
  refine⟨mC Rs,(id::ids)++[],?_,afv.HL Rs⟩
  show bq (Ab.snap hp 12) _=_
  simp only[bq,h1]
theorem ael {L:Lst}(hL:bu L 62=fun a=>rp (aJ a))(run:aq)(dr:Bool){hp:List Blk}{M:List (List Rat)}{p:PV}(h:xV hp M p){n k:Nat}(hn:n≤4)(hk:k≤1000)(hM:M.length=n)(hR:∀ R ∈ M,R.length=n∧RbL k R):∃ hp' fp,cb (CC L) run dr hp 62 [p]=some (rv (mX M),hp',fp):=by
 obtain⟨q,ids,h1,h2⟩:=h.snap
 have h3:(CC L).orc 62 [q]=some [rv (mX M)]:=by
  show bu L 62 [q]=_
  rw[hL]
  show rp (aJ [q])=_
  rw[show aJ [q]=[mC M] by simp only[aJ,h2]]
  exact mZ (e:=fun M:List (List Rat)=>[mC M]) (x:=M) (fun x y hx hy h=>by
   obtain⟨_,_,_,h1⟩:=hx
   obtain⟨_,_,_,h2⟩:=hy
   rw[SC (fun R hR=>(h1 R hR).2) (fun R hR=>(h2 R hR).2) (by omega) (by simpa using h)]) ⟨n,hn,hM,fun R hRm=>⟨(hR R hRm).1,fun x hx=>((hR R hRm).2 x hx).mono hk⟩⟩
 by_cases hs:[rv (mX M)].all dA=true
 ·exact⟨_,_,jD uP h1 h3 hs⟩
 ·exact⟨_,_,ee uP h1 h3 (by simpa using hs)⟩
def lift (X:List (List Rat))(q i:Nat):List Rat:=eu (X.getD i []) (X.getD q [])++[dot (eu (X.getD i []) (X.getD q [])) (eu (X.getD i []) (X.getD q []))]
theorem jA:base.F.get 19=some Tryz.f19:=by kernel_rfl
theorem FH:base.shared 19=false:=by kernel_rfl
noncomputable def spC:Code:=Tryz.f19.body.getD .skip
noncomputable def spB:Code:=(aF spC).getD .skip
def SpF (fr:List PV)(X:List (List Rat))(l:List Nat)(V:List Rat)(s:Int)(i:Nat):Prop:=fr.length=73∧nth fr 0=qC X∧nth fr 8 = .sc (.int .i64 s)∧nth fr 10=dh true V∧nth fr 39=aN l∧nth fr 40=iv l.length∧nth fr 41=iv i
theorem abi (L:Lst)(run:aq)(k:Nat)(fr:List PV)(hp:List Blk)(wr:List Nat)(X:List (List Rat))(l:List Nat)(V:List Rat)(s:Int)(h:SpF fr X l V s l.length) :
  ∃ fr',af (CC L) run k spB ⟨fr,hp,wr⟩=some (.exit 0,⟨fr',hp,wr⟩)∧SpF fr' X l V s l.length∧nth fr' 11=nth fr 11:=by
 obtain⟨h0,h1,h8,h10,h39,h40,h41⟩:=h
 simp only[iv] at h40 h41
 simp[SpF,iv,spB,spC,Tryz.f19,aF,af,aH,an,ao,aG,ag,ai,aj,ak,aC,az,FP.none,aY,au,bf,aa,ae,ab,and_assoc,h0,h1,h8,h10,h39,h40,h41]
set_option maxHeartbeats 1000000 in
theorem OW (L:Lst)(run:aq)(k:Nat)(fr:List PV)(hp:List Blk)(wr:List Nat)(X:List (List Rat))(l:List Nat)(V W:List Rat)(d:Rat)(s:Int)(i:Nat)(Rs:List (List Rat))(hi:i<l.length)(h9:l.length≤1000)(ho9:Rs.length≤1000)(hW9:W.length≤1000)(hX:l[i]<X.length)(g1:ar L run 59 [qL X[l[i]]] (dh true X[l[i]]))(g2:ar L run 60 [dh true X[l[i]],dh true V] (dh true W))(g3:ar L run 61 [dh true W,dh true W] (rv (some d)))(hO:xV hp Rs (nth fr 11))(h:SpF fr X l V s i) :
  ∃ fr' hp' wr',af (CC L) run k spB ⟨fr,hp,wr⟩=some (.normal,⟨fr',hp',wr'⟩)∧SpF fr' X l V s (i+1)∧xV hp' (Rs++[W++[d]]) (nth fr' 11):=by
 obtain⟨h0,h1,h8,h10,h39,h40,h41⟩:=h
 have hi':i<(l.map Int.ofNat).length:=by simpa using hi
 obtain⟨r,x1,x2⟩:=JB (l.map Int.ofNat) i hi'
 have hX':l[i]<(X.map fun P=>P.map qb).length:=by simpa using hX
 obtain⟨r',y1,y2⟩:=iu uCl (X.map fun P=>P.map qb) l[i] hX'
 have e1:pE (X.map fun P=>P.map qb)[l[i]]=qL X[l[i]]:=by rw[List.getElem_map];rfl
 rw[e1] at y2
 rw[List.getElem_map] at x2
 rw[show aE (l.map Int.ofNat)=aN l from rfl] at x1
 rw[show cE (X.map fun P=>P.map qb)=qC X from rfl] at y1
 obtain⟨p',hp',fp,a1,a2⟩:=hO.app (W++[d]) ho9
 have hw:=bJ i (by omega)
 have hlv:=aaG (.own hp.length 4 0 (W.length+1) false) rfl
 have hid:(PV.own hp.length 4 0 (W.length+1) false).cC=false:=rfl
 have e2:(W++[d]).length=W.length+1:=by simp
 have e3:(W++[d]).flatMap rcs=W.flatMap rcs++rcs d:=by simp
 rw[e2,e3] at a1
 have hlr:eY TT 84 1 [(0,rv (some d))]=some (4,rcs d):=by
  have h1:=eE rz (rcs d) (by rw[cO.len];rfl)
  have h2:(rep 1 rz)=rz:=by simp[rep]
  have h3:=cO.len d
  have h4:rz.length=4:=rfl
  simp[eY,xB,sR,zRz,h2,dn,oy,bm,h3,h4,h1]
 have hidr:=cO.idf d
 have hrr:∀ hp,fi hp 4 (.imm 1 true (rcs d))=some (1,rcs d,[]):=fun hp=>by simp[fi,cO.len]
 have hokr:=cO.okc d
 have hm9:W.length+1≤cL:=Nat.le_trans (show W.length+1≤1001 by omega) (by decide)
 have har:cV hp 4 (dh true W) 1 (rcs d)=some (.own hp.length 4 0 (W.length+1) false,aP hp (W.flatMap rcs++rcs d),⟨[],[hp.length],true,false⟩):=by
  unfold dh
  simp only[cV]
  rw[if_neg (by omega),if_pos ⟨hm9,iA W⟩]
 have hzl:rz.length=4:=rfl
 have hrd:fi (aP (aP hp (W.flatMap rcs++rcs d)) [.own hp.length 4 0 (W.length+1) false]) 1 (.own (aP hp (W.flatMap rcs++rcs d)).length 1 0 1 true)=some (1,[.own hp.length 4 0 (W.length+1) false],[(aP hp (W.flatMap rcs++rcs d)).length]):=by
  have:=al1 (aP hp (W.flatMap rcs++rcs d)) [.own hp.length 4 0 (W.length+1) false]
  simp[fi,this,br,bE]
 unfold ar at g1 g2 g3
 generalize rcs d=cd at *
 generalize dh true W=w at *
 generalize dh true X[l[i]]=u at *
 generalize qL X[l[i]]=q at *
 generalize l[i]=j at *
 generalize W.flatMap rcs++cd=rw' at *
 rw[show Int.ofNat j=(j:Int) from rfl] at x2
 simp only[iv] at h40 h41
 simp[SpF,iv,spB,spC,Tryz.f19,aF,af,aH,an,ao,aG,ag,ai,aO,aj,ak,aC,az,FP.none,aY,au,bf,av,partOf,aa,ae,ab,bh,and_assoc,vZ,bc,h0,h1,h8,h10,h39,h40,h41,hi,x1,x2,y1,y2,g1,g2,g3,hlv,hlr,hid,hidr,hrr,hrd,hokr,har,hw,aI,sI,aPt,sPt,aU,bM,ur,xB,PA,afF,aaT,sR,bR,zRz,hzl,bZ,a1,a2]
theorem IV (L:Lst)(run:aq)(k:Nat)(X:List (List Rat))(l:List Nat)(q:Nat)(V:List Rat)(hV:X.getD q []=V)(s:Int)(h9:l.length≤1000)(hl:∀ i ∈ l,∃ h:i<X.length,(eu X[i] V).length≤1000∧ar L run 59 [qL X[i]] (dh true X[i])∧ar L run 60 [dh true X[i],dh true V] (dh true (eu X[i] V))∧ar L run 61 [dh true (eu X[i] V),dh true (eu X[i] V)] (rv (some (dot (eu X[i] V) (eu X[i] V))))):∀ (n i:Nat) (fr:List PV) (hp:List Blk) (wr:List Nat) (out:List (List Rat)),i+n=l.length→out=(l.take i).map (lift X q)→xV hp out (nth fr 11)→SpF fr X l V s i →
  ∃ fr' hp' wr',ca (af (CC L) run k spB) (n+1) ⟨fr,hp,wr⟩=some (.exit 0,⟨fr',hp',wr'⟩)∧SpF fr' X l V s l.length∧xV hp' (l.map (lift X q)) (nth fr' 11)
 | 0,i,fr,hp,wr,out,hin,ho,hO,h=>by
  have e:i=l.length:=by omega
  subst e
  obtain⟨fr',q1,q2,q3⟩:=abi L run k fr hp wr X l V s h
  refine⟨fr',hp,wr,bz q1,q2,?_⟩
  rw[List.take_length] at ho
  rw[q3,← ho]
  exact hO
 | n+1,i,fr,hp,wr,out,hin,ho,hO,h=>by
  have hi:i<l.length:=by omega
  obtain⟨hX,hw9,g1,g2,g3⟩:=hl l[i] (List.getElem_mem hi)
  obtain⟨fr1,hp1,wr1,q1,q2,q3⟩:=OW L run k fr hp wr X l V _ _ s i out hi h9 (by rw[ho];simp;omega) hw9 hX g1 g2 g3 hO h
  obtain⟨fr',hp',wr',s1,s2⟩:=IV L run k X l q V hV s h9 hl n (i+1) fr1 hp1 wr1 _ (by omega) (by
   rw[ho,List.take_succ_eq_append_getElem hi,List.map_append,List.map_cons,List.map_nil]
   congr 1
   unfold lift
   rw[hV,List.getD_eq_getElem?_getD,List.getElem?_eq_getElem hX];rfl) q3 q2
  exact⟨fr',hp',wr',by rw[bU q1];exact s1,s2⟩
noncomputable def IW:Code:=seq1 (seq1 (ah 7 spC))
theorem abh:ah 7 spC = .seq (.seq IW (.block 0 (.loop spB))) (ah 8 spC):=rfl
theorem aez (L:Lst)(run:aq)(k:Nat)(c:List (List ByteArray))(l:List Int)(z:Int)(s:Int)(e:Nat)(he:e≠0)(g:ar L run 15 [cE c,aE l] (.tup [Ab.bC s,iv e])) :
  ∃ st,af (CC L) run k spC ⟨entry 73 [cE c,aE l,.sc (.int .i64 z)],[],[]⟩=some (.ret,st)∧aV TT st.fr st.hp Tryz.f19.results.toList=some [Ab.bC 0,iv e]:=by
 obtain⟨e0,e1,e2,e3⟩:=wQ 70 (cE c) (aE l) (.sc (.int .i64 z))
 generalize entry 73 [cE c,aE l,.sc (.int .i64 z)]=fr0 at *
 have hb:((e:Int) != 0)=true:=by simp;omega
 unfold ar at g
 simp only[iv,Ab.bC] at g ⊢
 simp[spC,Tryz.f19,af,aH,an,ao,aG,ag,ai,aO,aj,ak,aC,az,FP.none,aY,au,bf,av,aa,ae,ab,e0,e1,e2,g,hb,aV]
theorem af0 (L:Lst)(run:aq)(k:Nat)(c:List (List ByteArray))(l:List Int)(z:Int)(s:Int)(g:ar L run 15 [cE c,aE l] (.tup [Ab.bC s,iv 0])) :
  ∃ fr,aX (CC L) run k 3 spC ⟨entry 73 [cE c,aE l,.sc (.int .i64 z)],[],[]⟩=some ⟨fr,[],[]⟩∧fr.length=73∧nth fr 0=cE c∧nth fr 1=aE l∧nth fr 2 = .sc (.int .i64 z)∧nth fr 8 = .sc (.int .i64 s):=by
 obtain⟨e0,e1,e2,e3⟩:=wQ 70 (cE c) (aE l) (.sc (.int .i64 z))
 generalize entry 73 [cE c,aE l,.sc (.int .i64 z)]=fr0 at *
 unfold ar at g
 simp only[iv,Ab.bC,Int.cast_ofNat_Int] at g
 simp[spC,Tryz.f19,aX,af,aH,an,ao,aG,ag,ai,aO,aj,ak,aC,az,FP.none,aY,au,bf,av,aa,ae,ab,e0,e1,e2,e3,g]
theorem aey (L:Lst)(run:aq)(k:Nat)(fr:List PV)(c:List (List ByteArray))(z:Int)(hz:z<0∨(c.length:Int)≤z)(h0:fr.length=73)(h1:nth fr 0=cE c)(h2:nth fr 2 = .sc (.int .i64 z)) :
  ∃ st,af (CC L) run k (ah 3 spC) ⟨fr,[],[]⟩=some (.ret,st)∧aV TT st.fr st.hp Tryz.f19.results.toList=some [Ab.bC 0,iv 4]:=by
 have hl:=fV c
 by_cases hn:z<0
 ·simp[Ab.bC,iv,spC,ah,Tryz.f19,af,aH,an,ao,aG,ag,ai,aj,ak,aC,az,FP.none,aY,au,bf,av,aa,ae,ab,h0,h2,hn,undef,aV]
 ·have hc:(c.length:Int)≤z:=by omega
  simp[Ab.bC,iv,spC,ah,Tryz.f19,af,aH,an,ao,aG,ag,ai,aj,ak,aC,az,FP.none,aY,au,bf,av,bK,aa,ae,ab,bh,h0,h1,h2,hn,hc,hl,uCl,aV]
theorem afZ (L:Lst)(run:aq)(k:Nat)(fr:List PV)(c:List (List ByteArray))(l:List Int)(z s:Int)(hz : ¬ (z<0∨(c.length:Int)≤z))(h0:fr.length=73)(h1:nth fr 0=cE c)(h1':nth fr 1=aE l)(h2:nth fr 2 = .sc (.int .i64 z))(h8:nth fr 8 = .sc (.int .i64 s)) :
  ∃ fr',aX (CC L) run k 1 (ah 3 spC) ⟨fr,[],[]⟩=some ⟨fr',[],[]⟩∧fr'.length=73∧nth fr' 0=cE c∧nth fr' 1=aE l∧nth fr' 2 = .sc (.int .i64 z)∧nth fr' 8 = .sc (.int .i64 s):=by
 have hl:=fV c
 have hn : ¬ z<0:=fun e=>hz (.inl e)
 have hc : ¬ (c.length:Int)≤z:=fun e=>hz (.inr e)
 simp[spC,ah,aX,Tryz.f19,af,aH,an,ao,aG,ag,ai,aj,ak,aC,az,FP.none,aY,au,bf,av,bK,aa,ae,ab,bh,h0,h1,h1',h2,h8,hn,hc,hl,uCl]
theorem aex (L:Lst)(run:aq)(k:Nat)(fr:List PV)(h0:fr.length=73)(h8:nth fr 8 = .sc (.int .i64 0)) :
  ∃ st,af (CC L) run k (ah 4 spC) ⟨fr,[],[]⟩=some (.ret,st)∧aV TT st.fr st.hp Tryz.f19.results.toList=some [Ab.bC 0,iv 12]:=by
 simp[Ab.bC,iv,spC,ah,Tryz.f19,af,aH,an,ao,aG,ag,ai,aj,ak,aC,az,FP.none,aY,au,bf,av,aa,ae,ab,h0,h8,aV]
theorem afY (L:Lst)(run:aq)(k:Nat)(fr:List PV)(X:List (List Rat))(l:List Nat)(q:Nat)(s:Int)(hs:s≠0)(hq:q<X.length)(g:ar L run 59 [qL X[q]] (dh true X[q]))(h0:fr.length=73)(h1:nth fr 0=qC X)(h1':nth fr 1=aN l)(h2:nth fr 2 = .sc (.int .i64 (q:Int)))(h8:nth fr 8 = .sc (.int .i64 s)) :
  ∃ fr1 fr',aX (CC L) run k 3 (ah 4 spC) ⟨fr,[],[]⟩=some ⟨fr1,[],[]⟩∧af (CC L) run k IW ⟨fr1,[],[]⟩=some (.normal,⟨fr',[],[]⟩)∧SpF fr' X l X[q] s 0∧nth fr' 11 = .sc (.slice none 0 0):=by
 have hX':q<(X.map fun P=>P.map qb).length:=by simpa using hq
 obtain⟨r',y1,y2⟩:=iu uCl (X.map fun P=>P.map qb) q hX'
 have e4:pE (X.map fun P=>P.map qb)[q]=qL X[q]:=by rw[List.getElem_map];rfl
 rw[e4] at y2
 rw[show cE (X.map fun P=>P.map qb)=qC X from rfl] at y1
 have hsb:(s == 0)=false:=by rw[beq_eq_false_iff_ne];exact hs
 have hl:dQ (aN l)=some l.length:=by simp[aN,aE,fJ,dQ]
 unfold ar at g
 obtain⟨fr1,a1,a2,a3,a4,a5,a6,a7⟩:∃ fr1,aX (CC L) run k 3 (ah 4 spC) ⟨fr,[],[]⟩=some ⟨fr1,[],[]⟩∧fr1.length=73∧nth fr1 0=qC X∧nth fr1 1=aN l∧nth fr1 8 = .sc (.int .i64 s)∧nth fr1 10=dh true X[q]∧nth fr1 11 = .sc (.slice none 0 0):=by
  simp[spC,ah,aX,Tryz.f19,af,aH,an,ao,aG,ag,ai,aO,aj,ak,aC,az,FP.none,aY,au,bf,av,partOf,aa,ae,ab,bh,h0,h1,h1',h2,h8,hsb,y1,y2,g,aPt,sPt,aU]
 refine⟨fr1,?_⟩
 rw[a1]
 simp[SpF,iv,IW,seq1,ah,spC,Tryz.f19,a2,a3,a4,a5,a6,a7,af,aH,an,ao,aG,ag,ai,aj,ak,aC,az,FP.none,av,bK,aa,ae,ab,bh,and_assoc,hl,n8]
def MJ (m:Nat)(s:Int):Int:=if m % 2=1 then -s else s
theorem V5 (L:Lst)(run:aq)(k:Nat)(fr:List PV)(hp hp':List Blk)(wr:List Nat)(fp:FP)(X:List (List Rat))(l:List Nat)(V:List Rat)(s t:Int)(u:Option Rat)(hV:V.length<1000)(hs:s = -1∨s=0∨s=1)(ht:t = -1∨t=0∨t=1)(g1:cb (CC L) run false hp 62 [nth fr 11]=some (rv u,hp',fp))(g2:ar L run 49 [rv u] (Ab.bC t))(h:SpF fr X l V s l.length) :
  ∃ st,af (CC L) run k (ah 8 spC) ⟨fr,hp,wr⟩=some (.ret,st)∧aV TT st.fr st.hp Tryz.f19.results.toList=some [Ab.bC (MJ V.length s*t),iv 0]:=by
 obtain⟨h0,h1,h8,h10,h39,h40,h41⟩:=h
 have hl:dQ (dh true V)=some V.length:=rfl
 have hm:(V.length:Int).tmod 2=((V.length % 2:Nat):Int):=rfl
 have hm2:V.length % 2<2:=Nat.mod_lt _ (by decide)
 unfold MJ
 unfold ar at g2
 generalize rv u=ru at *
 obtain⟨p11,h11⟩:∃ p,nth fr 11=p:=⟨_,rfl⟩
 rw[h11] at g1
 generalize hmm:V.length % 2=mm at *
 have hss:(-s) = -1∨(-s)=0∨(-s)=1:=by omega
 have hw:∀ a b:Int,(a = -1∨a=0∨a=1)→(b = -1∨b=0∨b=1)→bA .i64 (a*b)=a*b:=by
  intro a b ha hb
  rcases ha with rfl | rfl | rfl <;> rcases hb with rfl | rfl | rfl <;> decide
 have hwn:bA .i64 (-s) = -s:=by rcases hs with rfl | rfl | rfl <;> decide
 simp only[Ab.bC,iv] at g2 ⊢
 by_cases ho:mm=1
 ·subst ho
  have h2:=hw (-s) t hss ht
  simp[spC,ah,Tryz.f19,af,aH,an,ao,aG,ag,ai,aO,aj,ak,aC,az,FP.none,aY,au,bf,av,bK,unP,aa,ae,ab,bh,h0,h8,h10,h11,hl,hm,xB,g1,g2,hwn,h2,aV]
 ·have hme:mm=0:=by omega
  subst hme
  have h2:=hw s t hs ht
  simp[spC,ah,Tryz.f19,af,aH,an,ao,aG,ag,ai,aO,aj,ak,aC,az,FP.none,aY,au,bf,av,bK,aa,ae,ab,bh,h0,h8,h10,h11,hl,hm,xB,g1,g2,h2,aV]
noncomputable def nZ (c:List (List ByteArray))(l:List Int)(z:Int):Int × Nat :=
 if (jl c l).2≠0 then (0,(jl c l).2) else if z<0∨(c.length:Int)≤z then (0,4) else if xK c l=0 then (0,12) else
  (MJ (hdL c) (xK c l)*eN (vv (mX ((l.map Int.toNat).map (lift (toX c) z.toNat)))),0)
noncomputable def LV3:Lst:=[(15,vT),(59,A0),(60,Jf),(61,Jk),(62,rp),(49,jj)]
theorem adT:dM base.P LV3:=⟨A2,vJ,yY,y6,vM,lv,trivial⟩
noncomputable def vS:List PV→Option (List PV):=ctr eCL (fun p=>qz p.1∧p.2.1.length≤1000) fun p=>[Ab.bC (nZ p.1 p.2.1 p.2.2).1,iv (nZ p.1 p.2.1 p.2.2).2]
theorem PM (x:Rat):eN x = -1∨eN x=0∨eN x=1:=by
 unfold eN
 rcases Int.lt_trichotomy x.num 0 with h | h | h
 ·exact .inl (Int.sign_eq_neg_one_of_neg h)
 ·exact .inr (.inl (by rw[h];rfl))
 ·exact .inr (.inr (Int.sign_eq_one_of_pos h))
theorem adq {k:Nat}{X Y:List Rat}(hX:RbL k X)(hY:RbL k Y)(hl:X.length=Y.length):Rb (X.length*(2*k+1)+1) (dot X Y):=Bf hX hY hl X.length (Nat.le_refl _)
theorem ZC {m k:Nat}{X Y:List Rat}(hX:RbL k X)(hY:RbL k Y)(hl:X.length=Y.length)(hm:X.length=m)(h3:m≤3):Rb (6*k+4) (dot X Y):=by
 refine (adq hX hY hl).mono ?_
 rw[hm]
 have:m*(2*k+1)≤3*(2*k+1):=Nat.mul_le_mul_right _ h3
 omega
theorem Jz {m:Nat}{X:List (List Rat)}{q i:Nat}(hE:xZ m 61 X)(hm:m≤3)(hq:q<X.length)(hi:i<X.length):(lift X q i).length=m+1∧RbL 742 (lift X q i)∧(eu X[i] X[q]).length=m∧RbL 123 (eu X[i] X[q]):=by
 have e1:=hE _ (List.getElem_mem hi)
 have e2:=hE _ (List.getElem_mem hq)
 have hl:=BM (show X[i].length=X[q].length by omega)
 have hb:RbL 123 (eu X[i] X[q]):=fun z hz=>(IK e1.2 e2.2 z hz).mono (by omega)
 unfold lift
 simp only[List.getD_eq_getElem?_getD,List.getElem?_eq_getElem hi,List.getElem?_eq_getElem hq,Option.getD_some]
 refine⟨by rw[List.length_append,hl,e1.1];rfl,?_,by rw[hl,e1.1],hb⟩
 intro z hz
 rcases List.mem_append.1 hz with hz | hz
 ·exact (hb z hz).mono (by omega)
 ·rw[List.mem_singleton] at hz
  subst hz
  exact (ZC (k:=123) hb hb rfl (hl.trans e1.1) hm).mono (by omega)
theorem A1:Ab.Spec base.P 19 vS:=Ab.Spec.bN (C:=CC LV3) (cU adT) fun args rs h=>by
 obtain⟨⟨c,l,z⟩,⟨hF,h9⟩,rfl,rfl⟩:=db h
 dsimp only at hF h9
 have g:=N7 (L:=LV3) rfl (runK (CC LV3) (l.length+2)) c l hF h9
 show ∃ k rs1 hp1 wr rs2 ids,runK (CC LV3) k 19 [cE c,aE l,.sc (.int .i64 z)] []=_∧_∧WkL rs2 [Ab.bC (nZ c l z).1,iv (nZ c l z).2]
 unfold nZ
 by_cases h1:(jl c l).2≠0
 ·rw[if_pos h1]
  obtain⟨st,x1,x2⟩:=aez LV3 (runK (CC LV3) (l.length+2)) (l.length+2) c l z _ _ h1 g
  exact⟨_,_,_,_,_,_,aQ jA rfl x1 x2,rfl,Wk.refl rfl,Wk.refl rfl,trivial⟩
 ·rw[if_neg h1]
  have h1':(jl c l).2=0:=Classical.byContradiction h1
  rw[h1'] at g
  obtain⟨fr,a1,a2,a3,a4,a5,a6⟩:=af0 LV3 (runK (CC LV3) (l.length+2)) (l.length+2) c l z _ g
  by_cases h2:z<0∨(c.length:Int)≤z
  ·rw[if_pos h2]
   obtain⟨st,x1,x2⟩:=aey LV3 (runK (CC LV3) (l.length+2)) (l.length+2) fr c z h2 a2 a3 a5
   rw[← aM 3 a1] at x1
   exact⟨_,_,_,_,_,_,aQ jA rfl x1 x2,rfl,Wk.refl rfl,Wk.refl rfl,trivial⟩
  ·rw[if_neg h2]
   obtain⟨fr1,b1,b2,b3,b4,b5,b6⟩:=afZ LV3 (runK (CC LV3) (l.length+2)) (l.length+2) fr c l z _ h2 a2 a3 a4 a5 a6
   have hsp:ah 1 (ah 3 spC)=ah 4 spC:=rfl
   by_cases h3:xK c l=0
   ·rw[if_pos h3]
    rw[h3] at b6
    obtain⟨st,x1,x2⟩:=aex LV3 (runK (CC LV3) (l.length+2)) (l.length+2) fr1 b2 b6
    rw[← hsp,← aM 1 b1,← aM 3 a1] at x1
    exact⟨_,_,_,_,_,_,aQ jA rfl x1 x2,rfl,Wk.refl rfl,Wk.refl rfl,trivial⟩
   ·rw[if_neg h3]
    have h0:oQ c l ((kD c+1:Nat):Int)=0:=by
     unfold jl at h1'
     by_cases h0:oQ c l ((kD c+1:Nat):Int)=0
     ·exact h0
     ·rw[if_neg h0] at h1';exact absurd h1' h0
    obtain⟨c1,c2,c3⟩:=Bm h0
    obtain⟨q1,q2,q3,q4,q5⟩:=Bk c1 hF
    have hax:=tZ c1
    obtain⟨q,rfl⟩:=Int.eq_ofNat_of_zero_le (show 0≤z by omega)
    have hq:q<(toX c).length:=by rw[q5];omega
    have hcne:c≠[]:=by
     intro e
     rw[e] at h2
     simp at h2
    have q3':=q3 hcne
    have hal:=aaN fun z hz=>(c3 z hz).1
    rw[q1] at b3
    rw[hal] at b4
    have hin:∀ i ∈ l.map Int.toNat,i<(toX c).length:=fun i hi=>by
     obtain⟨z,hz,rfl⟩:=List.mem_map.1 hi
     have:=c3 z hz
     rw[q5];omega
    have hEq:=q2 _ (List.getElem_mem hq)
    obtain⟨fr2,fr3,d1,d2,d3,d4⟩:=afY LV3 (runK (CC LV3) (l.length+2)) (l.length+2) fr1 (toX c) (l.map Int.toNat) q _ h3 hq (ud rfl _ _ (fun x hx=>(hEq.2 x hx).mono (by omega)) (by omega)) b2 b3 b4 b5 b6
    have hgets:∀ i ∈ l.map Int.toNat,∃ h:i<(toX c).length,(eu (toX c)[i] (toX c)[q]).length≤1000∧ar LV3 (runK (CC LV3) (l.length+2)) 59 [qL (toX c)[i]] (dh true (toX c)[i])∧ar LV3 (runK (CC LV3) (l.length+2)) 60 [dh true (toX c)[i],dh true (toX c)[q]] (dh true (eu (toX c)[i] (toX c)[q]))∧ar LV3 (runK (CC LV3) (l.length+2)) 61 [dh true (eu (toX c)[i] (toX c)[q]),dh true (eu (toX c)[i] (toX c)[q])] (rv (some (dot (eu (toX c)[i] (toX c)[q]) (eu (toX c)[i] (toX c)[q])))):=by
     intro i hi
     have h1:=hin i hi
     have hEi:=q2 _ (List.getElem_mem h1)
     obtain⟨-,-,v1,v2⟩:=Jz q2 q3'.2 hq h1
     exact⟨h1,by omega,ud rfl _ _ (fun x hx=>(hEi.2 x hx).mono (by omega)) (by omega),Vy rfl _ true true _ _ hEi.2 hEq.2 (by omega) (by omega) (by omega) (by omega),aef rfl _ true true _ _ v2 v2 (by omega) (by omega) rfl (by omega) (by omega)⟩
    have hVq:(toX c).getD q []=(toX c)[q]:=by rw[List.getD_eq_getElem?_getD,List.getElem?_eq_getElem hq];rfl
    obtain⟨fr4,hp4,wr4,e1,e2,e3⟩:=IV LV3 (runK (CC LV3) (l.length+2)) (l.length+2) (toX c) (l.map Int.toNat) q (toX c)[q] hVq (xK c l) (by simpa using h9) hgets (l.map Int.toNat).length 0 fr3 [] [] [] (by omega) rfl (.inl ⟨rfl,d4⟩) d3
    have hlen:((l.map Int.toNat).map (lift (toX c) q)).length=hdL c+1:=by rw[List.length_map,List.length_map,c2,hax]
    have hrows:∀ R ∈ (l.map Int.toNat).map (lift (toX c) q),R.length=hdL c+1∧RbL 742 R:=by
     intro R hR
     obtain⟨i,hi,rfl⟩:=List.mem_map.1 hR
     obtain⟨v1,v2,-⟩:=Jz q2 q3'.2 hq (hin i hi)
     exact⟨v1,v2⟩
    obtain⟨hp5,fp5,f1⟩:=ael (L:=LV3) rfl (runK (CC LV3) (l.length+2)) false e3 (n:=hdL c+1) (k:=742) (by omega) (by omega) hlen hrows
    have hb:Rb 1000000 (vv (mX ((l.map Int.toNat).map (lift (toX c) q)))):=by
     unfold mX
     refine (Bc (k:=742) (by omega) _ _ fun R hR=>(hrows R hR).2).mono ?_
     rw[hlen]
     have:hdL c=1∨hdL c=2∨hdL c=3:=by omega
     rcases this with h | h | h <;> rw[h] <;> decide
    obtain⟨st,x1,x2⟩:=V5 LV3 (runK (CC LV3) (l.length+2)) (l.length+2) fr4 hp4 hp5 wr4 fp5 (toX c) (l.map Int.toNat) (toX c)[q] (xK c l) _ _ (by omega) (PM _) (PM _) f1 (Kz rfl _ hb (by omega)) e2
    have hloop:af (CC LV3) (runK (CC LV3) (l.length+2)) (l.length+2) (.seq IW (.block 0 (.loop spB))) ⟨fr2,[],[]⟩=some (.normal,⟨fr4,hp4,wr4⟩):=by
     rw[aw d2];exact bF (bT e1 (by rw[List.length_map];omega))
    have hsp2:ah 3 (ah 4 spC)=ah 7 spC:=rfl
    rw[← aw hloop,← abh,← hsp2,← aM 3 d1,← hsp,← aM 1 b1,← aM 3 a1] at x1
    rw[hEq.1] at x2
    exact⟨_,_,_,_,_,_,aQ jA rfl x1 x2,rfl,Wk.refl rfl,Wk.refl rfl,trivial⟩
end Go.Proofs.YtjdmodeenbdfpaaGreat
