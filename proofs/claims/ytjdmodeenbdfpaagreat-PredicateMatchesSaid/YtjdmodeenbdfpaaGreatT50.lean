/- Contracts of the reference and of the law, part 50 of the proof; each lemma states its own conditions. -/
import Derived.Test.YtjdmodeenbdfpaaGreatT49
import Derived.Test.YtjdmodeenbdfpaaGreatT46
set_option linter.unusedSimpArgs false
set_option linter.unusedVariables false
noncomputable section
namespace Go.Proofs.YtjdmodeenbdfpaaGreat
open Go Go.Ab List Tryz
attribute [local simp] FzZ aA aF aG aH aL aU aa ab ae af ag ai aj an ao aq aw az bc bj
variable(L:Lst)(run:ar)(k:Nat)(fr:List PV)(hp:List Blk)(wr:List Nat)
theorem FT:base.F.get 47=some f47:=by kernel_rfl
theorem Mz:base.shared 47=false:=by kernel_rfl
theorem FX:base.F.get 14=some f14:=by kernel_rfl
theorem Jt:base.F.get 16=some f16:=by kernel_rfl
theorem Da:base.shared 16=false:=by kernel_rfl
def vaC:Code:=f47.body.getD .skip
def vaB:Code:=(aC vaC).getD .skip
theorem ajd:ah 2 vaC = .seq (.seq (seq1 (seq1 (ah 2 vaC))) (.block 0 (.loop vaB))) (ah 3 vaC):=rfl
def eQ (R:List Rat):List PV:=[qL R]
theorem VU:Ec 1 eQ where
 len:=fun _=>rfl
 okc:=fun _=>rfl
 can:=fun R=>by simp only[eQ,aJ,qL,pE,IA.B8]
 idf:=fun R=>by simp only[eQ,uu,bU,PV.cO,Bool.and_self]
 sn:=fun _ _ _=>rfl
theorem VS (M:List (List Rat)):fg eQ M=qC M:=by
 have e:∀ M:List (List Rat),M.flatMap eQ=M.map qL:=fun M=>by
  induction M with
  | nil=>rfl
  | cons a M ih=>rw[flatMap_cons,ih];rfl
 rw[adg];unfold fg;rw[e]
theorem U1 {t:TypeId}(hu:und TT t=some (.slice 38))(v:PV)(hv:v.cells?=some [v]):eL TT t 1 [(0,v)]=some (1,[v]):=by simp[eL,hu,sRs,zRs,rep,dA,hv,cq]
theorem Kw(v:PV):ew hp 1 (.imm 1 true [v])=some (1,[v],[]):=by simp[ew]
theorem QA(X out:List (List Rat))(l:List Nat)(i:Nat)(W:List Rat)(hi:i<l.length)(ho9:out.length≤1000)(hX:l[i]<X.length)(hX0:l[0]'(by omega)<X.length)(g:au L run 57 [qL X[l[i]],qL (X[l[0]'(by omega)]'hX0)] (qL W))(hO:fe 1 eQ 0 hp out (nth fr 5))(h0:fr.length=32)(h00:nth fr 0=qC X)(h1:nth fr 1=aN l)(h6:nth fr 6=iv i) :
  ∃ fr' hp' wr',af (CC L) run k (.block 1 (db vaB)) ⟨fr,hp,wr⟩=some (.normal,⟨fr',hp',wr'⟩)∧fe 1 eQ 0 hp' (out++[W]) (nth fr' 5):=by
 obtain⟨r,x1,x2⟩:=nm (l.map Int.ofNat) i (by simpa using hi)
 obtain⟨r0,z1,z2⟩:=nm (l.map Int.ofNat) 0 (by simp;omega)
 obtain⟨r',y1,y2⟩:=gi uCl (X.map fun P=>P.map qb) l[i] (by simpa using hX)
 obtain⟨r2,w1,w2⟩:=gi uCl (X.map fun P=>P.map qb) (l[0]'(by omega)) (by simpa using hX0)
 rw[getElem_map] at y2 w2 x2 z2
 rw[show pE (X[l[i]].map qb)=qL X[l[i]] from rfl] at y2
 rw[show pE ((X[l[0]'(by omega)]'hX0).map qb)=qL (X[l[0]'(by omega)]'hX0) from rfl] at w2
 rw[show aE (l.map Int.ofNat)=aN l from rfl] at x1 z1
 rw[show cE (X.map fun P=>P.map qb)=qC X from rfl] at y1 w1
 obtain⟨p',hp',fp,a1,a2,-,-⟩:=hO.app VU.toEl [W] (by simp) (by simp;omega)
 rw[show [W].flatMap eQ=[qL W] from rfl,show [W].length=1 from rfl] at a1
 unfold au at g
 have hid:bU [qL W]=true:=by simp only[uu,bU,PV.cO,Bool.and_self]
 have hlit:=U1 uZ (qL W) rfl
 have hrd:=fun hp=>Kw hp (qL W)
 have hok:dk (qL W)=true:=rfl
 have fr0':=fr0
 generalize qL W=v at *
 generalize qL X[l[i]]=u at *
 generalize qL (X[l[0]'(by omega)]'hX0)=u0 at *
 generalize hj0:l[0]'(by omega)=j0 at *
 generalize l[i]=j at *
 rw[show Int.ofNat j=(j:Int) from rfl] at x2
 rw[show Int.ofNat j0=(j0:Int) from rfl] at z2
 rw[show (((0:Nat):Int))=(0:Int) from rfl] at z1
 simp only[iv] at h6
 cases hfp:FP.free ⟨fp.rd,fp.wr,fp.al,false⟩ <;> simp[db,vaB,vaC,f47,aC,partOf,bd,and_assoc,bh,h0,h00,h1,h6,x1,x2,y1,y2,z1,z2,w1,w2,g,hid,hlit,hrd,hok,a1,a2,uZ,sRs,bRs,zRs,aI,sI,aPt,sPt,cg,aV,number,fr0',hfp]
theorem adW (L:Lst)(run:ar)(k:Nat)(p q:PV):∃ fr wr,aX (CC L) run k 2 vaC ⟨entry 32 [p,q],[],[]⟩=some ⟨fr,[],wr⟩∧fr.length=32∧nth fr 0=p∧nth fr 1=q∧nth fr 5 = .sc (.slice none 0 0):=by
 obtain⟨e1,e2,e3⟩:=cn 30 p q
 generalize entry 32 [p,q]=fr0 at *
 simp[vaC,f47,aX,and_assoc,e1,e2,e3]
theorem ahD(h0:fr.length=32):∃ fr',af (CC L) run k (seq1 (seq1 (ah 2 vaC))) ⟨fr,hp,wr⟩=some (.normal,⟨fr',hp,wr⟩)∧nth fr' 6=iv 1:=by
 simp[iv,seq1,ah,vaC,f47,h0]
theorem Yz(p:PV)(t:ByteArray)(fp:FP)(h0:fr.length=32)(h5:nth fr 5=p)(hc:bX (CC L) run false hp 99 [p]=some (.sc (.string t),hp,fp)):∃ st,af (CC L) run k (ah 3 vaC) ⟨fr,hp,wr⟩=some (.ret,st)∧aU TT st.fr st.hp f47.results.toList=some [.sc (.string t)]:=by
 simp[vaC,ah,f47,h0,h5,hc]
def LVa:Lst:=[(57,suF),(99,xK 4)]
theorem agQ:dw base.P LVa:=⟨Be,rm 4 (by omega),trivial⟩
def TH (p:XN):Prop:=p.2≠[]∧p.2.length≤5∧(∀ i ∈ p.2,i<p.1.length)∧vj (p.2.length - 1) 61 p.1
def vaF:List PV→Option (List PV):=ctr (fun p:XN=>[qC p.1,aN p.2]) TH fun p=>[qt (dMv (p.2.length - 1) (dj p.1 p.2))]
theorem W0 {L:Lst}(hL:bu L 99=fun a=>xK 4 (aJ a)){hp:List Blk}{M:List (List Rat)}{p:PV}(hO:fe 1 eQ 0 hp M p){n:Nat}(hn:n≤4)(hS:SqM n M)(run:ar)(dr:Bool):∃ fp,bX (CC L) run dr hp 99 [p]=some (qt (dMv n M),hp,fp):=by
 obtain⟨q,ids,h1,-,h3,-⟩:=hO.snap VU
 have s1:bq (Ab.snap hp bn) [p]=some ([q],ids++[]):=by
  show bq (Ab.snap hp 12) _=_
  simp only[bq,h1 10]
 have s2:aJ [q]=[qC M]:=by simp only[aJ,h3,VS]
 have hF:=BQ (n:=4) (M:=M) ⟨by omega,by rw[hS.1];exact hn,by rw[hS.1];exact hS⟩
 rw[hS.1] at hF
 exact⟨_,fC (L:=L) sv hL run dr hp [p] _ _ _ _ s1 s2 hF rfl⟩
theorem JQ:Ab.Spec base.P 47 vaF:=Ab.Spec.bM (C:=CC LVa) (cP agQ) fun args rs h=>by
 obtain⟨⟨X,l⟩,⟨hne,h5,hin,hE⟩,rfl,rfl⟩:=cN h
 dsimp only at hne h5 hin hE
 have hl0:0<l.length:=length_pos_iff.2 hne
 obtain⟨fr1,wr1,a1,a2,a3,a4,a5⟩:=adW LVa (runK (CC LVa) 20) 20 (qC X) (aN l)
 obtain⟨fr2,b1,b2⟩:=ahD LVa (runK (CC LVa) 20) 20 fr1 [] wr1 a2
 have K2:=bJ _ b1
 have l2:=K2.len a2
 have i0:nth fr2 0=qC X:=K2.at a3 (by kernel_rfl)
 have i1:nth fr2 1=aN l:=K2.at a4 (by kernel_rfl)
 have i5:nth fr2 5 = .sc (.slice none 0 0):=K2.at a5 (by kernel_rfl)
 have hX0:=hin _ (getElem_mem hl0)
 have hd:dj X l=(l.drop 1).map fun i=>dy (X.getD i []) (X[l[0]]'hX0):=by
  unfold dj
  have e:l.headD 0=l[0]:=by cases l with | nil=>exact absurd rfl hne | cons=>rfl
  rw[e,← drop_one,show X.getD l[0] []=X[l[0]]'hX0 from by rw[getD_eq_getElem?_getD,getElem?_eq_getElem hX0];rfl]
 obtain⟨fr3,hp3,wr3,c1,c2,c3⟩:=Lp.go (C:=CC LVa) (run:=runK (CC LVa) 20) (k:=20) (l:=xL vaB) (body:=db vaB) (m:=32) (B:=vaB) rfl (by kernel_rfl) (by kernel_rfl) (by kernel_rfl) vY (n:=l.length) (j0:=1) (by omega) (by omega) hl0
  (J:=fun j f hp=>fe 1 eQ 0 hp ((dj X l).take (j - 1)) (f 5)) (fr0:=fr2) (hp0:=[]) (wr0:=wr1) (p:=aN l) l2 i1 (by simp[aN,aE,fg,dn]) b2
  (fun j f g hp h hJ=>by rw[← h 5 (by kernel_rfl)];exact hJ)
  (fun j fr hp wr hj1 hj hK hij hJ=>by
   have hXj:=hin _ (getElem_mem hj)
   have ej:=hE _ (getElem_mem hXj)
   have e0:=hE _ (getElem_mem hX0)
   obtain⟨fr',hp',wr',x1,x2⟩:=QA LVa (runK (CC LVa) 20) 20 fr hp wr X _ l j (dy X[l[j]] (X[l[0]]'hX0)) hj (by rw[length_take];have:=fW X l;omega) hXj hX0 (ahe rfl _ _ _ ej.2 e0.2 (by omega) (by omega) (by omega) (by omega)) hJ (hK.len l2) (hK.at i0 (by kernel_rfl)) (hK.at i1 (by kernel_rfl)) hij
   refine⟨fr',hp',wr',x1,?_⟩
   have hdl:j - 1<(dj X l).length:=by rw[fW];omega
   rw[show j+1 - 1=(j - 1)+1 by omega,take_succ_eq_append_getElem hdl]
   have eg:(dj X l)[j - 1]=dy X[l[j]] (X[l[0]]'hX0):=by
    simp only[hd,getElem_map,getElem_drop,show 1+(j - 1)=j by omega]
    rw[getD_eq_getElem?_getD,getElem?_eq_getElem hXj];rfl
   rw[eg]
   exact x2)
  (by rw[i5];exact fe.nil (Nat.le_refl _))
 rw[take_of_length_le (by rw[fW];omega)] at c3
 have hdo:=kG hE hin
 have hS:SqM (l.length - 1) (dj X l):=⟨fW X l,fun R hR=>⟨(hdo R hR).1,fun x hx=>((hdo R hR).2 x hx).mono (by omega)⟩⟩
 obtain⟨fp,u1⟩:=W0 (L:=LVa) rfl c3 (by omega) hS (runK (CC LVa) 20) false
 obtain⟨st,d1,d2⟩:=Yz LVa (runK (CC LVa) 20) 20 fr3 hp3 wr3 _ _ fp (c2.len l2) rfl u1
 have hx:af (CC LVa) (runK (CC LVa) 20) 20 vaC ⟨entry 32 [qC X,aN l],[],[]⟩=some (.ret,st):=by
  have hs:af (CC LVa) (runK (CC LVa) 20) 20 (.seq (seq1 (seq1 (ah 2 vaC))) (.block 0 (.loop vaB))) ⟨fr1,[],wr1⟩=some (.normal,⟨fr3,hp3,wr3⟩):=by rw[av b1];exact c1
  rw[aO 2 a1,ajd,av hs];exact d1
 exact⟨_,_,_,_,[qt (dMv (l.length - 1) (dj X l))],[],aP FT rfl hx d2,rfl,Wk.refl rfl,trivial⟩
theorem adF {p q:XN}(h:[qC p.1,aN p.2]=[qC q.1,aN q.2]):p=q:=by
 simp only[List.cons.injEq,and_true] at h
 exact Prod.ext (xn h.1) (I9 h.2)
theorem ai5 {L:Lst}(hL:bu L 47=fun a=>vaF (aJ a))(run:ar)(X:List (List Rat))(l:List Nat)(h:TH (X,l)):au L run 47 [qC X,aN l] (qt (dMv (l.length - 1) (dj X l))) :=
 fH Mz (e:=fun p:XN=>[qC p.1,aN p.2]) (f:=fun p=>[qt (dMv (p.2.length - 1) (dj p.1 p.2))]) hL (fun x y _ _ h=>by rw[adF h]) run (X,l) h (fun _=>rfl) (by simp only[aJ,qC,aN,fV,ja])
theorem lnn {α:Type} : ∀ (n:Nat) {R:List α},R.length=n+1→∃ a S,R=a::S∧S.length=n
 | _,a::S,h=>⟨a,S,rfl,by simpa using h⟩
theorem adv (a0 a1 b0 b1:Rat):dMv 2 [[a0,a1],[b0,b1]]=rL [[a0,a1],[b0,b1]]:=by
 rw[adr]
 simp[dMv,dMs,jU]
 grind
theorem adu (a0 a1 a2 b0 b1 b2 c0 c1 c2:Rat):dMv 3 [[a0,a1,a2],[b0,b1,b2],[c0,c1,c2]]=rL [[a0,a1,a2],[b0,b1,b2],[c0,c1,c2]]:=by
 rw[adq]
 simp[dMv,dMs,jU]
 grind
theorem adt (a0 a1 a2 a3 b0 b1 b2 b3 c0 c1 c2 c3 d0 d1 d2 d3:Rat):dMv 4 [[a0,a1,a2,a3],[b0,b1,b2,b3],[c0,c1,c2,c3],[d0,d1,d2,d3]]=rL [[a0,a1,a2,a3],[b0,b1,b2,b3],[c0,c1,c2,c3],[d0,d1,d2,d3]]:=by
 rw[adp]
 simp[dMv,dMs,jU]
 grind
theorem adw (a:Rat):dMv 1 [[a]]=rL [[a]]:=by
 rw[ads]
 simp[dMv,dMs]
 try grind
theorem Fh {n:Nat}{M:List (List Rat)}(h:SqM n M)(h1:1≤n)(h4:n≤4):dMv n M=rL M:=by
 obtain⟨hl,hR⟩:=h
 have hn:n=1∨n=2∨n=3∨n=4:=by omega
 rcases hn with rfl | rfl | rfl | rfl
 ·obtain⟨a,pS0,rfl,ph0⟩:=lnn 0 hl
  obtain rfl:=eq_nil_of_length_eq_zero ph0
  have g:∀ R:List Rat,R ∈ [a]→∃ x,R=[x]:=fun R hm=>by
   obtain⟨x,qS0,rfl,qh0⟩:=lnn 0 (hR R hm).1
   obtain rfl:=eq_nil_of_length_eq_zero qh0
   exact⟨x,rfl⟩
  obtain⟨_,rfl⟩:=g a (by simp)
  exact adw ..
 ·obtain⟨a,pS0,rfl,ph0⟩:=lnn 1 hl
  obtain⟨b,pS1,rfl,ph1⟩:=lnn 0 ph0
  obtain rfl:=eq_nil_of_length_eq_zero ph1
  have g:∀ R:List Rat,R ∈ [a,b]→∃ x y,R=[x,y]:=fun R hm=>by
   obtain⟨x,qS0,rfl,qh0⟩:=lnn 1 (hR R hm).1
   obtain⟨y,qS1,rfl,qh1⟩:=lnn 0 qh0
   obtain rfl:=eq_nil_of_length_eq_zero qh1
   exact⟨x,y,rfl⟩
  obtain⟨_,_,rfl⟩:=g a (by simp)
  obtain⟨_,_,rfl⟩:=g b (by simp)
  exact adv ..
 ·obtain⟨a,pS0,rfl,ph0⟩:=lnn 2 hl
  obtain⟨b,pS1,rfl,ph1⟩:=lnn 1 ph0
  obtain⟨c,pS2,rfl,ph2⟩:=lnn 0 ph1
  obtain rfl:=eq_nil_of_length_eq_zero ph2
  have g:∀ R:List Rat,R ∈ [a,b,c]→∃ x y z,R=[x,y,z]:=fun R hm=>by
   obtain⟨x,qS0,rfl,qh0⟩:=lnn 2 (hR R hm).1
   obtain⟨y,qS1,rfl,qh1⟩:=lnn 1 qh0
   obtain⟨z,qS2,rfl,qh2⟩:=lnn 0 qh1
   obtain rfl:=eq_nil_of_length_eq_zero qh2
   exact⟨x,y,z,rfl⟩
  obtain⟨_,_,_,rfl⟩:=g a (by simp)
  obtain⟨_,_,_,rfl⟩:=g b (by simp)
  obtain⟨_,_,_,rfl⟩:=g c (by simp)
  exact adu ..
 ·obtain⟨a,pS0,rfl,ph0⟩:=lnn 3 hl
  obtain⟨b,pS1,rfl,ph1⟩:=lnn 2 ph0
  obtain⟨c,pS2,rfl,ph2⟩:=lnn 1 ph1
  obtain⟨d,pS3,rfl,ph3⟩:=lnn 0 ph2
  obtain rfl:=eq_nil_of_length_eq_zero ph3
  have g:∀ R:List Rat,R ∈ [a,b,c,d]→∃ x y z w,R=[x,y,z,w]:=fun R hm=>by
   obtain⟨x,qS0,rfl,qh0⟩:=lnn 3 (hR R hm).1
   obtain⟨y,qS1,rfl,qh1⟩:=lnn 2 qh0
   obtain⟨z,qS2,rfl,qh2⟩:=lnn 1 qh1
   obtain⟨w,qS3,rfl,qh3⟩:=lnn 0 qh2
   obtain rfl:=eq_nil_of_length_eq_zero qh3
   exact⟨x,y,z,w,rfl⟩
  obtain⟨_,_,_,_,rfl⟩:=g a (by simp)
  obtain⟨_,_,_,_,rfl⟩:=g b (by simp)
  obtain⟨_,_,_,_,rfl⟩:=g c (by simp)
  obtain⟨_,_,_,_,rfl⟩:=g d (by simp)
  exact adt ..
theorem CJ {c:List (List ByteArray)}{l:List Int}(hF:me c)(h0:gw c l ((iE c+1:Nat):Int)=0):cE c=qC (toX c)∧aE l=aN (l.map Int.toNat)∧TH (toX c,l.map Int.toNat)∧dMv ((l.map Int.toNat).length - 1) (dj (toX c) (l.map Int.toNat))=vv (ef c l).1∧(ef c l).2=0∧(l.map Int.toNat).length=hdL c+1∧1≤hdL c∧hdL c≤3∧vj (hdL c) 61 (toX c):=by
 obtain⟨h1,h2,h3⟩:=vL h0
 obtain⟨q1,q2,q3,q4,q5⟩:=tn h1 hF
 have hax:=vM h1
 have hlne:l≠[]:=by intro e;rw[e] at h2;simp at h2
 have hcne:c≠[]:=by
  intro e
  cases l with
  | nil=>exact hlne rfl
  | cons z l =>
   have:=h3 z mem_cons_self
   rw[e] at this
   simp at this
   omega
 obtain⟨m1,m3⟩:=q3 hcne
 have hin:∀ i ∈ l.map Int.toNat,i<(toX c).length:=fun i hi=>by
  obtain⟨z,hz,rfl⟩:=mem_map.1 hi
  have:=h3 z hz
  rw[q5];omega
 have hlen:(l.map Int.toNat).length=hdL c+1:=by rw[length_map,h2,hax]
 have hdo:=kG q2 hin
 have hdl:(dj (toX c) (l.map Int.toNat)).length=hdL c:=by rw[fW,hlen];omega
 have e1:(l.map Int.toNat).length - 1=hdL c:=by omega
 refine⟨q1,FG fun z hz=>(h3 z hz).1,⟨by simpa using hlne,by show (l.map Int.toNat).length≤5;omega,hin,by show vj ((l.map Int.toNat).length - 1) 61 _;rw[e1];exact q2⟩,?_,?_,hlen,m1,m3,q2⟩
 ·rw[e1,Fh ⟨hdl,fun R hR=>⟨(hdo R hR).1,fun x hx=>((hdo R hR).2 x hx).mono (by omega)⟩⟩ m1 (by omega),← Fg]
  unfold ef
  rw[if_pos h0]
 ·unfold ef
  rw[if_pos h0]
theorem Ff {c:List (List ByteArray)}{l:List Int}(h0:gw c l ((iE c+1:Nat):Int)≠0):ef c l=(none,gw c l ((iE c+1:Nat):Int)):=by
 unfold ef;rw[if_neg h0]
def LDe:Lst:=[(46,A4),(45,uv),(47,vaF),(48,j7),(26,cmF)]
theorem XK:dw base.P LDe:=⟨He,KS,JQ,nO,Lu,trivial⟩
theorem Zv(c:List (List ByteArray))(l:List Int)(m e:Nat)(hm:m<1000)(he:e≠0)(g1:au L run 46 [cE c] (iv m))(g2:au L run 45 [cE c,aE l,.sc (.int .i64 ((m:Int)+1))] (iv e)) :
  (∃ st,af (CC L) run k (f14.body.getD .skip) ⟨entry 23 [cE c,aE l],[],[]⟩=some (.ret,st)∧aU TT st.fr st.hp f14.results.toList=some [tj,iv e])∧∃ st,af (CC L) run k (f16.body.getD .skip) ⟨entry 20 [cE c,aE l],[],[]⟩=some (.ret,st)∧aU TT st.fr st.hp f16.results.toList=some [iv 0,iv e]:=by
 have hw:=bH m (by omega)
 have hb:((e:Int) != 0)=true:=by simp;omega
 unfold au at g1 g2
 simp only[iv] at g1 g2 ⊢
 constructor
 ·obtain⟨e1,e2,e3⟩:=cn 21 (cE c) (aE l)
  generalize entry 23 [cE c,aE l]=fr0 at *
  simp[f14,tj,e1,e2,e3,g1,g2,hw,hb]
 ·obtain⟨e1,e2,e3⟩:=cn 18 (cE c) (aE l)
  generalize entry 20 [cE c,aE l]=fr0 at *
  simp[f16,e1,e2,e3,g1,g2,hw,hb]
theorem Sh(c:List (List ByteArray))(l:List Int)(m:Nat)(t:ByteArray)(lg:Bool)(s:Int)(hm:m<1000)(g1:au L run 46 [cE c] (iv m))(g2:au L run 45 [cE c,aE l,.sc (.int .i64 ((m:Int)+1))] (iv 0))(g3:au L run 47 [cE c,aE l] (.sc (.string t)))(g4:au L run 48 [.sc (.string t)] (.sc (.bool lg)))(g5:au L run 26 [.sc (.string t),.sc (.string ⟨#[48]⟩)] (Ab.bz s)) :
  (∃ st,af (CC L) run k (f14.body.getD .skip) ⟨entry 23 [cE c,aE l],[],[]⟩=some (.ret,st)∧aU TT st.fr st.hp f14.results.toList=some (bif lg then [tj,iv 3] else [.sc (.string t),iv 0]))∧∃ st,af (CC L) run k (f16.body.getD .skip) ⟨entry 20 [cE c,aE l],[],[]⟩=some (.ret,st)∧aU TT st.fr st.hp f16.results.toList=some [Ab.bz s,iv 0]:=by
 have hw:=bH m (by omega)
 unfold au at g1 g2 g3 g4 g5
 simp only[iv,Ab.bz,Int.cast_ofNat_Int] at g1 g2 g5 ⊢
 constructor
 ·obtain⟨e1,e2,e3⟩:=cn 21 (cE c) (aE l)
  generalize entry 23 [cE c,aE l]=fr0 at *
  cases lg <;> simp[f14,tj,e1,e2,e3,g1,g2,g3,g4,hw]
 ·obtain⟨e1,e2,e3⟩:=cn 18 (cE c) (aE l)
  generalize entry 20 [cE c,aE l]=fr0 at *
  simp[f16,e1,e2,e3,g1,g2,g3,g5,hw]
theorem Sj (x:Rat):Hd x 0=gp x:=by rw[Si];congr 1;grind
theorem Lt (c:List (List ByteArray))(l:List Int)(hF:me c)(h9:l.length≤1000) :
  (∃ st,af (CC LDe) (runK (CC LDe) 1) 1 (f14.body.getD .skip) ⟨entry 23 [cE c,aE l],[],[]⟩=some (.ret,st)∧aU TT st.fr st.hp f14.results.toList=some (jm (vv (ef c l).1) (ef c l).2))∧∃ st,af (CC LDe) (runK (CC LDe) 1) 1 (f16.body.getD .skip) ⟨entry 20 [cE c,aE l],[],[]⟩=some (.ret,st)∧aU TT st.fr st.hp f16.results.toList=some [Ab.bz (nV c l),iv (ef c l).2]:=by
 have g1:=acY (L:=LDe) rfl (runK (CC LDe) 1) c hF.fit
 have g2:=ahm (L:=LDe) rfl (runK (CC LDe) 1) c l ((iE c+1:Nat):Int) hF.fit h9
 have hax:=Cb hF.fit
 by_cases h0:gw c l ((iE c+1:Nat):Int)=0
 ·obtain⟨q1,q2,q3,q4,q5,-⟩:=CJ hF h0
  rw[h0] at g2
  have g3:=ai5 (L:=LDe) rfl (runK (CC LDe) 1) (toX c) (l.map Int.toNat) q3
  rw[q4,← q1,← q2] at g3
  have hb:=B6 (l:=l) hF
  have hl:=Tm hb
  have g4:au LDe (runK (CC LDe) 1) 48 [qt (vv (ef c l).1)] (.sc (.bool (uC (bys (qb (vv (ef c l).1)))))):=fun dr hp =>
   bw (L:=LDe) (f:=j7) zC rfl _ dr hp _ [.sc (.bool (uC (bys (qb (vv (ef c l).1)))))] rfl rfl (by
    have:(bys (qb (vv (ef c l).1))).length.blt 20000000=true:=by rw[Nat.blt_eq];omega
    simp only[qt,j7,this,cond_true])
  rw[ED] at g4
  have g5:=ahp (L:=LDe) rfl (runK (CC LDe) 1) hb (Rb.zero 0) (by omega) (by omega)
  rw[Sj,aev] at g5
  obtain⟨x1,x2⟩:=Sh LDe (runK (CC LDe) 1) 1 c l (iE c) _ _ _ hax g1 g2 g3 g4 g5
  rw[q5]
  unfold jm
  rw[if_pos rfl]
  refine⟨?_,x2⟩
  cases hp:pB (Rb 1000 (vv (ef c l).1)) <;> rw[hp] at x1 <;> exact x1
 ·obtain⟨x1,x2⟩:=Zv LDe (runK (CC LDe) 1) 1 c l (iE c) _ hax h0 g1 g2
  unfold nV jm
  rw[Ff h0]
  dsimp only
  rw[if_neg h0]
  exact⟨x1,x2⟩
theorem Nn:Ab.Spec base.P 14 DZ:=Ab.Spec.bM (C:=CC LDe) (cP XK) fun args rs h=>by
 obtain⟨⟨c,l⟩,⟨hF,h9⟩,rfl,rfl⟩:=cN h
 obtain⟨st,x1,x2⟩:=(Lt c l hF h9).1
 refine⟨2,_,_,_,jm (vv (ef c l).1) (ef c l).2,[],aP FX rfl x1 x2,?_,?_⟩
 ·unfold jm
  split
  ·cases pB (Rb 1000 (vv (ef c l).1)) <;> rfl
  ·rfl
 ·unfold jm
  split
  ·cases pB (Rb 1000 (vv (ef c l).1)) <;> exact⟨Wk.refl rfl,Wk.refl rfl,trivial⟩
  ·exact⟨Wk.refl rfl,Wk.refl rfl,trivial⟩
theorem Dw:Ab.Spec base.P 16 iX:=Ab.Spec.bM (C:=CC LDe) (cP XK) fun args rs h=>by
 obtain⟨⟨c,l⟩,⟨hF,h9⟩,rfl,rfl⟩:=cN h
 obtain⟨st,x1,x2⟩:=(Lt c l hF h9).2
 exact⟨2,_,_,_,_,_,aP Jt rfl x1 x2,rfl,Wk.refl rfl,Wk.refl rfl,trivial⟩
theorem Co:base.F.get 63=some f63:=by kernel_rfl
theorem GH:base.shared 63=false:=by kernel_rfl
def siC:Code:=f63.body.getD .skip
def siB:Code:=(aC siC).getD .skip
def ad7:Code:=seq1 (db siB)
def ad6:Code:=cw (db siB)
theorem ajj:ah 2 siC = .seq (.seq (seq1 (seq1 (ah 2 siC))) (.block 0 (.loop siB))) (.seq (seq1 (ah 3 siC)) (.seq (seq1 (ah 4 siC)) (ah 5 siC))):=rfl
theorem QY:db siB = .seq ad7 ad6:=rfl
theorem ahR(X:List (List Rat))(l:List Nat)(i q:Nat)(W:List Rat)(hi:i<l.length)(hX:l[i]<X.length)(hq:q<X.length)(g:au L run 57 [qL X[l[i]],qL X[q]] (qL W))(h0:fr.length=58)(h00:nth fr 0=qC X)(h1:nth fr 1=aN l)(h2:nth fr 2=iv q)(h8:nth fr 8=iv i) :
  ∃ fr' wr',af (CC L) run k ad7 ⟨fr,hp,wr⟩=some (.normal,⟨fr',hp,wr'⟩)∧nth fr' 9=qL W:=by
 obtain⟨r,x1,x2⟩:=nm (l.map Int.ofNat) i (by simpa using hi)
 obtain⟨r',y1,y2⟩:=gi uCl (X.map fun P=>P.map qb) l[i] (by simpa using hX)
 obtain⟨r2,w1,w2⟩:=gi uCl (X.map fun P=>P.map qb) q (by simpa using hq)
 rw[getElem_map] at y2 w2 x2
 rw[show pE (X[l[i]].map qb)=qL X[l[i]] from rfl] at y2
 rw[show pE (X[q].map qb)=qL X[q] from rfl] at w2
 rw[show aE (l.map Int.ofNat)=aN l from rfl] at x1
 rw[show cE (X.map fun P=>P.map qb)=qC X from rfl] at y1 w1
 unfold au at g
 generalize qL W=v at *
 generalize qL X[l[i]]=u at *
 generalize qL X[q]=u0 at *
 generalize l[i]=j at *
 rw[show Int.ofNat j=(j:Int) from rfl] at x2
 simp only[iv] at h2 h8
 simp[ad7,siB,siC,db,seq1,f63,aC,partOf,bd,and_assoc,h0,h00,h1,h2,h8,x1,x2,y1,y2,w1,w2,g,aI,sI,aPt,sPt,aV,number,FP.free]
set_option maxHeartbeats 2000000 in
theorem ahQ(rows:List (List Rat))(p:PV)(W:List Rat)(d:Rat)(hW9:W.length≤100)(hr9:rows.length≤100)(hR:Rst hp rows p)(g:au L run 107 [qL W,qL W] (qt d))(h0:fr.length=58)(h7:nth fr 7=p)(h9:nth fr 9=qL W) :
  ∃ fr' hp' wr',af (CC L) run k ad6 ⟨fr,hp,wr⟩=some (.normal,⟨fr',hp',wr'⟩)∧Rst hp' (rows++[W++[d]]) (nth fr' 7):=by
 obtain⟨p1,hp1,fp1,q,hp2,fp2,a1,a2,a3,a4,a5,a6⟩:=ap2 hp (W.map qt) [qt d] (by simp) (by simp;omega)
 rw[length_map] at a1 a2
 rw[show [qt d].length=1 from rfl,show W.length+1=(W++[d]).length by simp] at a2
 rw[show W.map qt++[qt d]=(W++[d]).map qt by simp] at a6
 have a6':aY (aM hp2 [.own q 1 0 (W++[d]).length false]) q=some ⟨.live,(W++[d]).map qt⟩:=by rw[bK,if_neg (by omega)];exact a6
 obtain⟨p',hp4,fp4,b1,b2⟩:=hR.app (a3.trans (Hgr.new hp2 [.own q 1 0 (W++[d]).length false])) a4 a6' (by omega)
 have hs:Sc1 qt:=fun x=>.inr (.inl ⟨_,rfl⟩)
 have d1:∀ hp,ew hp 1 (.imm W.length false (W.map qt))=some (W.length,W.map qt,[]):=fun hp=>by simp only[ew,length_map,Nat.mul_one,if_true]
 have d2:∀ hp,ew hp 1 (.imm 1 true [qt d])=some (1,[qt d],[]):=fun hp=>Kw hp _
 have ok1:bh (W.map qt)=true:=hs.yR _
 have lt0:eL TT 38 0 []=some (1,[]):=by simp[eL,uRs,iQ,qw,rep,dA]
 have ltd:eL TT 38 1 [(0,qt d)]=some (1,[qt d]):=by simp[eL,uRs,iQ,qw,rep,dA,cq,PV.cells?,qt]
 have lt1:=U1 uZ (.own q 1 0 (W++[d]).length false) rfl
 have id0:bU []=true:=rfl
 have idd:bU [qt d]=true:=rfl
 have id1:bU [PV.own q 1 0 (W++[d]).length false]=false:=rfl
 have rd3:ew (aM hp2 [PV.own q 1 0 (W++[d]).length false]) 1 (.own hp2.length 1 0 1 true)=some (1,[PV.own q 1 0 (W++[d]).length false],[hp2.length]):=by
  simp[ew,al1,br,bF]
 have okd:dk (qt d)=true:=rfl
 unfold au at g
 rw[uu] at h9 g
 generalize qt d=D at *
 generalize (W++[d]).length=w at *
 generalize W.map qt=A at *
 generalize W.length=n at *
 simp[ad6,siB,siC,db,cw,f63,aC,bd,and_assoc,kC,bh,h0,h7,h9,g,d1,d2,ok1,okd,lt0,ltd,lt1,id0,idd,id1,rd3,a1,a2,b1,b2,uZ,uRs,uPt,sRs,bRs,zRs,iQ,Lx,qw,cg]
theorem ad5 (L:Lst)(run:ar)(k:Nat)(p q r:PV):∃ fr wr,aX (CC L) run k 2 siC ⟨entry 58 [p,q,r],[],[]⟩=some ⟨fr,[],wr⟩∧fr.length=58∧nth fr 0=p∧nth fr 1=q∧nth fr 2=r∧nth fr 7 = .sc (.slice none 0 0):=by
 obtain⟨e0,e1,e2,e3⟩:=jY 55 p q r
 generalize entry 58 [p,q,r]=fr0 at *
 simp[siC,f63,aX,and_assoc,e0,e1,e2,e3]
theorem ahS(h0:fr.length=58):∃ fr',af (CC L) run k (seq1 (seq1 (ah 2 siC))) ⟨fr,hp,wr⟩=some (.normal,⟨fr',hp,wr⟩)∧nth fr' 8=iv 0:=by
 simp[iv,seq1,ah,siC,f63,h0]
theorem ahP(X A p:PV)(t v:ByteArray)(s1 s2:Int)(fp:FP)(hs1:s1 = -1∨s1=0∨s1=1)(hs2:s2 = -1∨s2=0∨s2=1)(h0:fr.length=58)(h00:nth fr 0=X)(h1:nth fr 1=A)(h7:nth fr 7=p)(hc:bX (CC L) run false hp 99 [p]=some (.sc (.string t),hp,fp))(g1:au L run 26 [.sc (.string t),.sc (.string ⟨#[48]⟩)] (Ab.bz s1))(g2:au L run 47 [X,A] (.sc (.string v)))(g3:au L run 26 [.sc (.string v),.sc (.string ⟨#[48]⟩)] (Ab.bz s2)):∃ fr' wr',af (CC L) run k (seq1 (ah 3 siC)) ⟨fr,hp,wr⟩=some (.normal,⟨fr',hp,wr'⟩)∧nth fr' 10=Ab.bz (s1*s2):=by
 have hw:bE .i64 (s1*s2)=s1*s2:=by rcases hs1 with rfl | rfl | rfl <;> rcases hs2 with rfl | rfl | rfl <;> rfl
 unfold au at g1 g2 g3
 simp only[Ab.bz] at g1 g3 ⊢
 simp[seq1,ah,siC,f63,and_assoc,h0,h00,h1,h7,hc,g1,g2,g3,hw]
theorem ahO(X:List (List Rat))(q:Nat)(s:Int)(hq:q<X.length)(hm:X[q].length<1000)(hs:s = -1∨s=0∨s=1)(h0:fr.length=58)(h00:nth fr 0=qC X)(h2:nth fr 2=iv q)(h10:nth fr 10=Ab.bz s):∃ fr' wr',af (CC L) run k (seq1 (ah 4 siC)) ⟨fr,hp,wr⟩=some (.normal,⟨fr',hp,wr'⟩)∧nth fr' 10=Ab.bz (ve X[q].length s):=by
 obtain⟨r2,w1,w2⟩:=gi uCl (X.map fun P=>P.map qb) q (by simpa using hq)
 rw[getElem_map] at w2
 rw[show pE (X[q].map qb)=qL X[q] from rfl] at w2
 rw[show cE (X.map fun P=>P.map qb)=qC X from rfl] at w1
 have hl:=Io X[q]
 generalize qL X[q]=u at *
 generalize X[q].length=m at *
 have hw:bE .i64 (0 - s) = -s:=by rcases hs with rfl | rfl | rfl <;> rfl
 have hw0:bE .i64 (-s) = -s:=by rcases hs with rfl | rfl | rfl <;> rfl
 unfold ve
 simp only[iv,Ab.bz] at h2 h10 ⊢
 by_cases hp:m % 2=1
 ·have htm:=wa m 2 1 hp.symm
  rw[show (((2:Nat):Int))=(2:Int) from rfl,show (((1:Nat):Int))=(1:Int) from rfl] at htm
  simp[seq1,ah,siC,f63,bO,partOf,unP,bd,and_assoc,h0,h00,h2,h10,w1,w2,hl,htm,hp,hw0,aPt,sPt,uPt,aV,unP]
 ·have htm:=wa m 2 0 (by omega)
  rw[show (((2:Nat):Int))=(2:Int) from rfl,show (((0:Nat):Int))=(0:Int) from rfl] at htm
  simp[seq1,ah,siC,f63,bO,partOf,bd,and_assoc,h0,h00,h2,h10,w1,w2,hl,htm,hp,aPt,sPt,uPt,aV]
theorem YN(p:PV)(h0:fr.length=58)(h10:nth fr 10=p):∃ st,af (CC L) run k (ah 5 siC) ⟨fr,hp,wr⟩=some (.ret,st)∧aU TT st.fr st.hp f63.results.toList=some [p]:=by
 simp[siC,ah,f63,h0,h10]
def LSi:Lst:=[(57,suF),(107,doF),(99,xK 4),(47,vaF),(26,cmF)]
theorem agY:dw base.P LSi:=⟨Be,Lo,rm 4 (by omega),JQ,Lu,trivial⟩
abbrev XNq:=List (List Rat) × List Nat × Nat
def ah5 (p:XNq):Prop:=∃ m,1≤m∧m≤3∧p.2.1.length=m+1∧(∀ i ∈ p.2.1,i<p.1.length)∧vj m 61 p.1∧p.2.2<p.1.length
def eSi (p:XNq):List PV:=[qC p.1,aN p.2.1,iv p.2.2]
def siF:List PV→Option (List PV):=ctr eSi ah5 fun p=>[Ab.bz (ve (p.2.1.length - 1) (gp (dMv p.2.1.length (p.2.1.map (lift p.1 p.2.2)))*gp (dMv (p.2.1.length - 1) (dj p.1 p.2.1))))]
theorem aih {a b:Int}(ha:a = -1∨a=0∨a=1)(hb:b = -1∨b=0∨b=1):a*b = -1∨a*b=0∨a*b=1:=by
 rcases ha with rfl | rfl | rfl <;> rcases hb with rfl | rfl | rfl <;> decide
theorem A1 {L:Lst}(hL:bu L 99=fun a=>xK 4 (aJ a)){hp:List Blk}{M:List (List Rat)}{p:PV}(hO:Rst hp M p){n:Nat}(hn:n≤4)(hS:SqM n M)(run:ar)(dr:Bool):∃ fp,bX (CC L) run dr hp 99 [p]=some (qt (dMv n M),hp,fp):=by
 obtain⟨q,ids,s1,s2⟩:=hO.snap
 have hF:=BQ (n:=4) (M:=M) ⟨by omega,by rw[hS.1];exact hn,by rw[hS.1];exact hS⟩
 rw[hS.1] at hF
 exact⟨_,fC (L:=L) sv hL run dr hp [p] _ _ _ _ s1 s2 hF rfl⟩
theorem Wx {t:Nat}(h:t≤4):dB t≤100000:=by
 have:t=0∨t=1∨t=2∨t=3∨t=4:=by omega
 rcases this with rfl | rfl | rfl | rfl | rfl <;> decide
theorem YM:Ab.Spec base.P 63 siF:=Ab.Spec.bM (C:=CC LSi) (cP agY) fun args rs h=>by
 obtain⟨⟨X,l,q⟩,⟨m,m1,m3,hl,hin,hE,hq⟩,rfl,rfl⟩:=cN h
 dsimp only at hl hin hE hq
 obtain⟨fr1,wr1,a1,a2,a3,a4,a4',a5⟩:=ad5 LSi (runK (CC LSi) 20) 20 (qC X) (aN l) (iv q)
 obtain⟨fr2,b1,b2⟩:=ahS LSi (runK (CC LSi) 20) 20 fr1 [] wr1 a2
 have K2:=bJ _ b1
 have l2:=K2.len a2
 have i0:nth fr2 0=qC X:=K2.at a3 (by kernel_rfl)
 have i1:nth fr2 1=aN l:=K2.at a4 (by kernel_rfl)
 have i2:nth fr2 2=iv q:=K2.at a4' (by kernel_rfl)
 have i7:nth fr2 7 = .sc (.slice none 0 0):=K2.at a5 (by kernel_rfl)
 have eq':=hE _ (getElem_mem hq)
 have hVq:X.getD q []=X[q]:=by rw[getD_eq_getElem?_getD,getElem?_eq_getElem hq];rfl
 obtain⟨fr3,hp3,wr3,c1,c2,c3⟩:=Lp.go (C:=CC LSi) (run:=runK (CC LSi) 20) (k:=20) (l:=xL siB) (body:=db siB) (m:=58) (B:=siB) rfl (by kernel_rfl) (by kernel_rfl) (by kernel_rfl) vY (n:=l.length) (j0:=0) (by omega) (by omega) (by omega)
  (J:=fun j f hp=>Rst hp ((l.take j).map (lift X q)) (f 7)) (fr0:=fr2) (hp0:=[]) (wr0:=wr1) (p:=aN l) l2 i1 (by simp[aN,aE,fg,dn]) b2
  (fun j f g hp h hJ=>by rw[← h 7 (by kernel_rfl)];exact hJ)
  (fun j fr hp wr _ hj hK hij hJ=>by
   have hXj:=hin _ (getElem_mem hj)
   have ej:=hE _ (getElem_mem hXj)
   obtain⟨-,-,v1,v2⟩:=rA hE m3 hq hXj
   obtain⟨fr',wr',x1,x2⟩:=ahR LSi (runK (CC LSi) 20) 20 fr hp wr X l j q (dy X[l[j]] X[q]) hj hXj hq (ahe rfl _ _ _ ej.2 eq'.2 (by omega) (by omega) (by omega) (by omega)) (hK.len l2) (hK.at i0 (by kernel_rfl)) (hK.at i1 (by kernel_rfl)) (hK.at i2 (by kernel_rfl)) hij
   have K3:=bJ _ x1
   obtain⟨fr'',hp'',wr'',y1,y2⟩:=ahQ LSi (runK (CC LSi) 20) 20 fr' hp wr' _ _ (dy X[l[j]] X[q]) (dot (dy X[l[j]] X[q]) (dy X[l[j]] X[q])) (by omega) (by rw[length_map,length_take];omega) hJ (ajb rfl _ _ _ v2 v2 (by omega) rfl (by omega)) (K3.len (hK.len l2)) (K3.at rfl (by kernel_rfl)) x2
   refine⟨fr'',hp'',wr'',?_,?_⟩
   ·refine dH ?_
    rw[QY,av x1];exact y1
   ·rw[take_succ_eq_append_getElem hj,map_append]
    have e:lift X q l[j]=dy X[l[j]] X[q]++[dot (dy X[l[j]] X[q]) (dy X[l[j]] X[q])]:=by
     unfold lift
     rw[hVq,show X.getD l[j] []=X[l[j]] from by rw[getD_eq_getElem?_getD,getElem?_eq_getElem hXj];rfl]
    rw[← e] at y2
    exact y2)
  (by rw[i7];exact .inl ⟨rfl,rfl⟩)
 rw[take_length] at c3
 have hrows:SqM l.length (l.map (lift X q)):=by
  refine⟨length_map _,fun R hR => ?_⟩
  obtain⟨i,hi,rfl⟩:=mem_map.1 hR
  obtain⟨v1,v2,-⟩:=rA hE m3 hq (hin i hi)
  exact⟨by omega,fun x hx=>(v2 x hx).mono (by omega)⟩
 have hdo:=kG hE hin
 have hS:SqM (l.length - 1) (dj X l):=⟨fW X l,fun R hR=>⟨by rw[(hdo R hR).1];omega,fun x hx=>((hdo R hR).2 x hx).mono (by omega)⟩⟩
 have B1:=(yk _ hrows).mono (Wx (show l.length≤4 by omega))
 have B2:=(yk _ hS).mono (Wx (show l.length - 1≤4 by omega))
 obtain⟨fp,u1⟩:=A1 (L:=LSi) rfl c3 (by omega) hrows (runK (CC LSi) 20) false
 have g1:=ahp (L:=LSi) rfl (runK (CC LSi) 20) B1 (Rb.zero 0) (by omega) (by omega)
 have g3:=ahp (L:=LSi) rfl (runK (CC LSi) 20) B2 (Rb.zero 0) (by omega) (by omega)
 rw[Sj,aev] at g1 g3
 have g2:=ai5 (L:=LSi) rfl (runK (CC LSi) 20) X l ⟨by intro e;dsimp only at e;rw[e] at hl;simp at hl,by show l.length≤5;omega,hin,by show vj (l.length - 1) 61 X;rw[show l.length - 1=m by omega];exact hE⟩
 have l3:=c2.len l2
 obtain⟨fr4,wr4,d1,d2⟩:=ahP LSi (runK (CC LSi) 20) 20 fr3 hp3 wr3 _ _ _ _ _ _ _ fp (sA _) (sA _) l3 (c2.at i0 (by kernel_rfl)) (c2.at i1 (by kernel_rfl)) rfl u1 g1 g2 g3
 have K4:=bJ _ d1
 have l4:=K4.len l3
 obtain⟨fr5,wr5,e1,e2⟩:=ahO LSi (runK (CC LSi) 20) 20 fr4 hp3 wr4 X q _ hq (by omega) (aih (sA _) (sA _)) l4 (K4.at (c2.at i0 (by kernel_rfl)) (by kernel_rfl)) (K4.at (c2.at i2 (by kernel_rfl)) (by kernel_rfl)) d2
 have K5:=bJ _ e1
 obtain⟨st,f1,f2⟩:=YN LSi (runK (CC LSi) 20) 20 fr5 hp3 wr5 _ (K5.len l4) e2
 have hx:af (CC LSi) (runK (CC LSi) 20) 20 siC ⟨entry 58 [qC X,aN l,iv q],[],[]⟩=some (.ret,st):=by
  have hs:af (CC LSi) (runK (CC LSi) 20) 20 (.seq (seq1 (seq1 (ah 2 siC))) (.block 0 (.loop siB))) ⟨fr1,[],wr1⟩=some (.normal,⟨fr3,hp3,wr3⟩):=by rw[av b1];exact c1
  rw[aO 2 a1,ajj,av hs,av d1,av e1];exact f1
 rw[show X[q].length=l.length - 1 by omega] at f2
 exact⟨_,_,_,_,[Ab.bz _],[],aP Co rfl hx f2,rfl,Wk.refl rfl,trivial⟩
theorem aco {p q:XNq}(h:eSi p=eSi q):p=q:=by
 simp only[eSi,iv,List.cons.injEq,and_true,PV.sc.injEq,Value.int.injEq,true_and] at h
 exact Prod.ext (xn h.1) (Prod.ext (I9 h.2.1) (by omega))
theorem ajR {L:Lst}(hL:bu L 63=fun a=>siF (aJ a))(run:ar)(X:List (List Rat))(l:List Nat)(q:Nat)(h:ah5 (X,l,q)):au L run 63 [qC X,aN l,iv q] (Ab.bz (ve (l.length - 1) (gp (dMv l.length (l.map (lift X q)))*gp (dMv (l.length - 1) (dj X l))))) :=
 fH GH (e:=eSi) (f:=fun p=>[Ab.bz (ve (p.2.1.length - 1) (gp (dMv p.2.1.length (p.2.1.map (lift p.1 p.2.2)))*gp (dMv (p.2.1.length - 1) (dj p.1 p.2.1))))]) hL (fun x y _ _ h=>by rw[aco h]) run (X,l,q) h (fun _=>rfl) (by simp only[eSi,aJ,qC,aN,fV,ja];rfl)
theorem FV:base.F.get 20=some f20:=by kernel_rfl
theorem MB:base.shared 20=false:=by kernel_rfl
def LSp:Lst:=[(16,iX),(63,siF)]
theorem agX:dw base.P LSp:=⟨Dw,YM,trivial⟩
theorem ai9 {L:Lst}(hL:bu L 16=fun a=>iX (aJ a))(run:ar)(c:List (List ByteArray))(l:List Int)(hF:me c)(h9:l.length≤1000):au L run 16 [cE c,aE l] (.tup [Ab.bz (nV c l),iv (ef c l).2]) :=
 fH Da (e:=eCA) (f:=fun p=>[Ab.bz (nV p.1 p.2),iv (ef p.1 p.2).2]) hL (fun x y _ _ h=>by rw[pc h]) run (c,l) ⟨hF,h9⟩ (wj · _) (tr _)
theorem RT(c:List (List ByteArray))(l:List Int)(z s t:Int)(e:Nat)(g1:au L run 16 [cE c,aE l] (.tup [Ab.bz s,iv e]))(g2:e=0 → ¬ (z<0∨(c.length:Int)≤z)→s≠0→au L run 63 [cE c,aE l,.sc (.int .i64 z)] (Ab.bz t)) :
  ∃ st,af (CC L) run k (f20.body.getD .skip) ⟨entry 33 [cE c,aE l,.sc (.int .i64 z)],[],[]⟩=some (.ret,st)∧aU TT st.fr st.hp f20.results.toList=some (if e≠0 then [Ab.bz 0,iv e] else if z<0∨(c.length:Int)≤z then [Ab.bz 0,iv 4] else if s=0 then [Ab.bz 0,iv 12] else [Ab.bz t,iv 0]):=by
 obtain⟨e0,e1,e2,e3⟩:=jY 30 (cE c) (aE l) (.sc (.int .i64 z))
 generalize entry 33 [cE c,aE l,.sc (.int .i64 z)]=fr0 at *
 have hl:=gD c
 unfold au at g1 g2
 simp only[iv,Ab.bz] at g1 g2 ⊢
 by_cases h0:e=0
 ·subst h0
  rw[if_neg (by simp)]
  by_cases h1:z<0
  ·rw[if_pos (.inl h1)]
   simp[f20,e0,e1,e2,e3,g1,h1,undef]
  ·by_cases h2:(c.length:Int)≤z
   ·rw[if_pos (.inr h2)]
    simp[f20,bO,bd,e0,e1,e2,e3,g1,h1,h2,hl,uCl]
   ·have hn : ¬ (z<0∨(c.length:Int)≤z):=by omega
    rw[if_neg hn]
    by_cases h3:s=0
    ·subst h3
     simp[f20,bO,bd,e0,e1,e2,e3,g1,h1,h2,hl,uCl]
    ·have g2':=g2 rfl hn h3
     have hb:(s == 0)=false:=by simpa using h3
     rw[if_neg h3]
     simp[f20,bO,bd,e0,e1,e2,e3,g1,g2',h1,h2,hb,hl,uCl]
 ·have hb:((e:Int) != 0)=true:=by simp;omega
  rw[if_pos h0]
  simp[f20,e0,e1,e2,g1,hb]
theorem Nl:Ab.Spec base.P 20 nT:=Ab.Spec.bM (C:=CC LSp) (cP agX) fun args rs h=>by
 obtain⟨⟨c,l,z⟩,⟨hF,h9⟩,rfl,rfl⟩:=cN h
 dsimp only at hF h9
 have g1:=ai9 (L:=LSp) rfl (runK (CC LSp) 1) c l hF h9
 obtain⟨st,x1,x2⟩:=RT LSp (runK (CC LSp) 1) 1 c l z _ (ve (hdL c) (nV c l)*gp (vv (mW ((l.map Int.toNat).map (lift (toX c) z.toNat))))) _ g1 (fun h0 hz hs=>by
  have hc0:gw c l ((iE c+1:Nat):Int)=0:=by
   by_cases e:gw c l ((iE c+1:Nat):Int)=0
   ·exact e
   ·rw[Ff e] at h0;exact absurd h0 e
  obtain⟨q1,q2,q3,q4,q5,q6,m1,m3,qE⟩:=CJ hF hc0
  obtain⟨q,rfl⟩:=Int.eq_ofNat_of_zero_le (show 0≤z by omega)
  have hXl:(toX c).length=c.length:=by simp[toX]
  have g:=ajR (L:=LSp) rfl (runK (CC LSp) 1) (toX c) (l.map Int.toNat) q ⟨hdL c,m1,m3,q6,q3.2.2.1,qE,by show q<(toX c).length;omega⟩
  rw[q4,← q1,← q2,q6] at g
  have hS:SqM (hdL c+1) ((l.map Int.toNat).map (lift (toX c) q)):=by
   refine⟨by rw[length_map,q6],fun R hR => ?_⟩
   obtain⟨i,hi,rfl⟩:=mem_map.1 hR
   obtain⟨v1,v2,-⟩:=rA (q:=q) qE m3 (show q<(toX c).length by omega) (q3.2.2.1 i hi)
   exact⟨v1,fun x hx=>(v2 x hx).mono (by omega)⟩
  rw[Fh hS (by omega) (by omega),← Fg] at g
  have e:ve (hdL c+1 - 1) (gp (vv (mW ((l.map Int.toNat).map (lift (toX c) q))))*gp (vv (ef c l).1))=ve (hdL c) (nV c l)*gp (vv (mW ((l.map Int.toNat).map (lift (toX c) ((q:Int)).toNat)))):=by
   rw[show hdL c+1 - 1=hdL c by omega,Int.toNat_natCast]
   unfold nV ve
   split
   ·rw[Int.mul_comm,Int.neg_mul]
   ·rw[Int.mul_comm]
  rw[e] at g
  exact g)
 refine⟨2,_,_,_,[Ab.bz (vd c l z).1,iv (vd c l z).2],[],aP FV rfl x1 x2,?_,Wk.refl rfl,Wk.refl rfl,trivial⟩
 unfold vd
 split
 ·rfl
 ·split
  ·rfl
  ·split <;> rfl
end Go.Proofs.YtjdmodeenbdfpaaGreat
end
