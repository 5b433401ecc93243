/- Contracts of fractions, clouds and predicates, part 40 of the proof; each lemma states its own conditions. -/
import Derived.Test.YtjdmodeenbdfpaaGreatP39
set_option linter.unusedSimpArgs false
set_option linter.unusedVariables false
namespace Go.Proofs.YtjdmodeenbdfpaaGreat
open Go Go.Ab
theorem xF:base.F.get 22=some Tryz.f22:=by kernel_rfl
theorem BU:base.shared 22=false:=by kernel_rfl
noncomputable def rkC:Code:=Tryz.f22.body.getD .skip
noncomputable def rkO:Code:=(aF rkC).getD .skip
noncomputable def rkI:Code:=(aF rkO).getD .skip
def RF (fr:List PV)(c:List (List ByteArray))(j:Nat):Prop:=fr.length=58∧nth fr 0=cE c∧nth fr 3=iv j
theorem Wc (L:Lst)(run:aq)(k:Nat)(fr:List PV)(c:List (List ByteArray))(j:Nat)(hj:j<c.length)(h:RF fr c j)(h4:nth fr 4=iv c[j].length) :
  ∃ fr',af (CC L) run k rkI ⟨fr,[],[]⟩=some (.exit 2,⟨fr',[],[]⟩)∧RF fr' c j:=by
 obtain⟨h0,h1,h3⟩:=h
 obtain⟨r,x1,x2⟩:=je uCl c j hj
 have hl:=gw c[j]
 generalize c[j]=p at *
 generalize p.length=m at *
 simp only[iv] at h3 h4
 simp[RF,iv,rkI,rkO,rkC,Tryz.f22,aF,af,aH,an,ao,aG,ag,ai,aj,ak,aC,az,FP.none,bc,ar,bd,bH,partOf,aa,ae,ab,bf,h0,h1,h3,h4,x1,x2,hl,uPt,aU,aPt,sPt]
theorem K4 (L:Lst)(run:aq)(k:Nat)(fr:List PV)(c:List (List ByteArray))(j:Nat)(hj:j<c.length)(i:Nat)(hi:i<c[j].length)(h9:c[j].length≤100)(v:Bool)(g:av L run 23 [.sc (.string c[j][i])] (.sc (.bool v)))(h:RF fr c j)(h4:nth fr 4=iv i) :
  ∃ fr',af (CC L) run k rkI ⟨fr,[],[]⟩=some (bif v then .normal else .ret,⟨fr',[],[]⟩)∧(v=true→RF fr' c j∧nth fr' 4=iv (i+1))∧(v=false→nth fr' 2=iv 1):=by
 obtain⟨h0,h1,h3⟩:=h
 obtain⟨r,x1,x2⟩:=je uCl c j hj
 obtain⟨r',y1,y2⟩:=I9 uPt c[j] i hi
 have hl:=gw c[j]
 have hw:=bF i (by omega)
 unfold av at g
 generalize c[j][i]=s at *
 generalize c[j]=p at *
 simp only[iv] at h3 h4
 cases v <;> simp[RF,iv,rkI,rkO,rkC,Tryz.f22,aF,af,aH,an,ao,aG,ag,ai,aP,aj,ak,aC,az,FP.none,bc,ar,bd,au,bH,partOf,unP,aa,ae,ab,bf,and_assoc,h0,h1,h3,h4,x1,x2,y1,y2,hl,hi,g,hw,uPt,aU,aPt,sPt,Ep,x8]
theorem Cf (L:Lst)(run:aq)(k:Nat)(c:List (List ByteArray))(j:Nat)(hj:j<c.length)(h9:c[j].length≤100)(g:∀ s ∈ c[j],av L run 23 [.sc (.string s)] (.sc (.bool (pB (IsV s))))):∀ (n i:Nat) (fr:List PV),i+n=c[j].length→RF fr c j→nth fr 4=iv i →
  ∃ fr',bX (af (CC L) run k rkI) (n+1) ⟨fr,[],[]⟩=some (bif (c[j].drop i).all (fun s=>pB (IsV s)) then .exit 2 else .ret,⟨fr',[],[]⟩)∧((c[j].drop i).all (fun s=>pB (IsV s))=true→RF fr' c j)∧((c[j].drop i).all (fun s=>pB (IsV s))=false→nth fr' 2=iv 1)
 | 0,i,fr,hin,h,h4=>by
  have e:i=c[j].length:=by omega
  subst e
  obtain⟨fr',q1,q2⟩:=Wc L run k fr c j hj h h4
  rw[List.drop_length]
  exact⟨fr',bw q1,fun _=>q2,nofun⟩
 | n+1,i,fr,hin,h,h4=>by
  have hi:i<c[j].length:=by omega
  obtain⟨fr1,q1,q2,q3⟩:=K4 L run k fr c j hj i hi h9 _ (g _ (List.getElem_mem hi)) h h4
  rw[List.drop_eq_getElem_cons hi,List.all_cons]
  cases hv:pB (IsV c[j][i]) with
  | false =>
   rw[hv] at q1 q3
   exact⟨fr1,eN q1,nofun,fun _=>q3 rfl⟩
  | true =>
   rw[hv] at q1 q2
   obtain⟨a1,a2⟩:=q2 rfl
   obtain⟨fr',s1,s2⟩:=Cf L run k c j hj h9 g n (i+1) fr1 (by omega) a1 a2
   rw[Bool.true_and]
   exact⟨fr',by rw[bV q1];exact s1,s2⟩
noncomputable def aaT:Code:=seq1 rkO
noncomputable def rkB:Code:=blk (seq1 (cu rkO))
noncomputable def xn:Code:=seq1 rkB
noncomputable def Po:Code:=seq1 (cu rkB)
noncomputable def aaS:Code:=cu (cu rkO)
theorem Pm:rkO = .seq aaT (.seq (.block 1 (.seq xn (.seq Po (.block 2 (.loop rkI))))) aaS):=rfl
theorem Wb (L:Lst)(run:aq)(k:Nat)(fr:List PV)(c:List (List ByteArray))(h:RF fr c c.length) :
  ∃ fr',af (CC L) run k rkO ⟨fr,[],[]⟩=some (.exit 0,⟨fr',[],[]⟩)∧fr'.length=58:=by
 obtain⟨h0,h1,h3⟩:=h
 simp only[iv] at h3
 simp[rkO,rkC,Tryz.f22,aF,af,aH,an,ao,aG,ag,ai,aj,ak,aC,az,FP.none,bc,ar,bd,bH,aa,ae,ab,bf,gx,h0,h1,h3,uCl]
theorem adP (L:Lst)(run:aq)(k:Nat)(fr:List PV)(c:List (List ByteArray))(j:Nat)(hj:j<c.length)(h:RF fr c j) :
  ∃ fr1,af (CC L) run k aaT ⟨fr,[],[]⟩=some (.normal,⟨fr1,[],[]⟩)∧RF fr1 c j:=by
 obtain⟨h0,h1,h3⟩:=h
 simp only[iv] at h3
 simp[RF,iv,aaT,seq1,rkO,rkC,Tryz.f22,aF,af,aH,an,ao,aG,ag,ai,aj,ak,aC,az,FP.none,bc,ar,bd,bH,aa,ae,ab,bf,gx,h0,h1,h3,uCl,hj]
theorem lt1 (m:Nat):((m:Int)<1)=(m=0):=by apply propext;omega
set_option maxHeartbeats 1000000 in
theorem Wd (L:Lst)(run:aq)(k:Nat)(fr:List PV)(c:List (List ByteArray))(j:Nat)(hj:j<c.length)(hc:0<c.length)(hb:c[j].length=0∨3<c[j].length∨c[j].length≠c[0].length)(h:RF fr c j) :
  ∃ fr',af (CC L) run k xn ⟨fr,[],[]⟩=some (.ret,⟨fr',[],[]⟩)∧nth fr' 2=iv 10:=by
 obtain⟨h0,h1,h3⟩:=h
 obtain⟨r,x1,x2⟩:=je uCl c 0 hc
 obtain⟨r',y1,y2⟩:=je uCl c j hj
 rw[show (((0:Nat):Int))=(0:Int) from rfl] at x1
 have hl:=gw c[j]
 have hl2:=gw c[0]
 generalize c[0]=q at *
 generalize c[j]=p at *
 generalize p.length=m at *
 generalize q.length=m0 at *
 simp only[iv] at h3
 by_cases b1:m=0
 ·subst b1
  simp[iv,xn,rkB,blk,seq1,cu,rkO,rkC,Tryz.f22,aF,af,aH,an,ao,aG,ag,ai,aj,ak,aC,az,FP.none,bc,ar,bd,au,bH,partOf,aa,ae,ab,bf,h0,h1,h3,hl,uPt,y1,y2,aU,aPt,sPt,undef,number,FP.free]
 ·by_cases b2:3<m
  ·simp[iv,xn,rkB,blk,seq1,cu,rkO,rkC,Tryz.f22,aF,af,aH,an,ao,aG,ag,ai,aj,ak,aC,az,FP.none,bc,ar,bd,au,bH,partOf,aa,ae,ab,bf,h0,h1,h3,hl,uPt,y1,y2,aU,aPt,sPt,undef,b1,b2,gt3,lt1,number,FP.free]
  ·have b3:m≠m0:=by rcases hb with hb | hb | hb <;> first | exact absurd hb b1 | exact absurd hb b2 | exact hb
   simp[iv,xn,rkB,blk,seq1,cu,rkO,rkC,Tryz.f22,aF,af,aH,an,ao,aG,ag,ai,aj,ak,aC,az,FP.none,bc,ar,bd,au,bH,partOf,aa,ae,ab,bf,Ek,h0,h1,h3,hl,hl2,uPt,x1,x2,y1,y2,aU,aPt,sPt,b1,b2,b3,gt3,lt1,number,FP.free]
set_option maxHeartbeats 1000000 in
theorem aaU (L:Lst)(run:aq)(k:Nat)(fr:List PV)(c:List (List ByteArray))(j:Nat)(hj:j<c.length)(hc:0<c.length)(b1:c[j].length≠0)(b2 : ¬ 3<c[j].length)(b3:c[j].length=c[0].length)(h:RF fr c j) :
  ∃ fr1 fr',af (CC L) run k xn ⟨fr,[],[]⟩=some (.normal,⟨fr1,[],[]⟩)∧af (CC L) run k Po ⟨fr1,[],[]⟩=some (.normal,⟨fr',[],[]⟩)∧RF fr' c j∧nth fr' 4=iv 0:=by
 obtain⟨h0,h1,h3⟩:=h
 obtain⟨r,x1,x2⟩:=je uCl c 0 hc
 obtain⟨r',y1,y2⟩:=je uCl c j hj
 rw[show (((0:Nat):Int))=(0:Int) from rfl] at x1
 have hl:=gw c[j]
 have hl2:=gw c[0]
 rw[← b3] at hl2
 clear b3
 generalize c[0]=q at *
 generalize c[j]=p at *
 generalize p.length=m at *
 simp only[iv] at h3
 obtain⟨fr1,g1,g2,g3,g4⟩:∃ fr1,af (CC L) run k xn ⟨fr,[],[]⟩=some (.normal,⟨fr1,[],[]⟩)∧fr1.length=58∧nth fr1 0=cE c∧nth fr1 3 = .sc (.int .i64 (j:Int)):=by
  simp[xn,rkB,blk,seq1,cu,rkO,rkC,Tryz.f22,aF,af,aH,an,ao,aG,ag,ai,aj,ak,aC,az,FP.none,bc,ar,bd,au,bH,partOf,aa,ae,ab,bf,h0,h1,h3,hl,hl2,uPt,x1,x2,y1,y2,aU,aPt,sPt,b1,b2,gt3,lt1,number,FP.free]
 refine⟨fr1,?_⟩
 rw[g1]
 simp[RF,iv,Po,rkB,blk,seq1,cu,rkO,rkC,Tryz.f22,aF,af,aH,an,ao,aG,ag,ai,aj,ak,aC,az,FP.none,au,aa,ae,ab,and_assoc,g2,g3,g4]
theorem adO (L:Lst)(run:aq)(k:Nat)(fr:List PV)(c:List (List ByteArray))(j:Nat)(hj:j<1000)(h:RF fr c j) :
  ∃ fr',af (CC L) run k aaS ⟨fr,[],[]⟩=some (.normal,⟨fr',[],[]⟩)∧RF fr' c (j+1):=by
 obtain⟨h0,h1,h3⟩:=h
 have hw:=bF j (by omega)
 simp only[iv] at h3
 simp[RF,iv,aaS,cu,rkO,rkC,Tryz.f22,aF,af,aH,an,ao,aG,ag,ai,aj,ak,aC,az,FP.none,bc,ar,bd,au,aa,ae,ab,h0,h1,h3,hw]
theorem Ce (L:Lst)(run:aq)(k:Nat)(hk:200≤k)(c:List (List ByteArray))(hF:Fit c)(g:∀ s:ByteArray,(bys s).length≤100000→av L run 23 [.sc (.string s)] (.sc (.bool (pB (IsV s))))):∀ (n j:Nat) (fr:List PV),j+n=c.length→RF fr c j →
  (∃ fr',jl (hdL c) (c.drop j)=0∧bX (af (CC L) run k rkO) (n+1) ⟨fr,[],[]⟩=some (.exit 0,⟨fr',[],[]⟩)∧fr'.length=58)∨∃ fr',jl (hdL c) (c.drop j)≠0∧bX (af (CC L) run k rkO) (n+1) ⟨fr,[],[]⟩=some (.ret,⟨fr',[],[]⟩)∧nth fr' 2=iv (jl (hdL c) (c.drop j))
 | 0,j,fr,hjn,h=>by
  have e:j=c.length:=by omega
  subst e
  obtain⟨fr',q1,q2⟩:=Wb L run k fr c h
  rw[List.drop_length]
  exact .inl ⟨fr',rfl,bw q1,q2⟩
 | n+1,j,fr,hjn,h=>by
  have hj:j<c.length:=by omega
  have hc:0<c.length:=by omega
  have hh:hdL c=c[0].length:=by
   cases c with
   | nil=>simp at hc
   | cons p r=>rfl
  obtain⟨fr1,a1,a4⟩:=adP L run k fr c j hj h
  have hFp:=hF.2 c[j] (List.getElem_mem hj)
  have hFc:=hF.1
  rw[List.drop_eq_getElem_cons hj]
  have run_ret:∀ {fr'},af (CC L) run k (.seq xn (.seq Po (.block 2 (.loop rkI)))) ⟨fr1,[],[]⟩=some (.ret,⟨fr',[],[]⟩)→bX (af (CC L) run k rkO) (n+1+1) ⟨fr,[],[]⟩=some (.ret,⟨fr',[],[]⟩):=by
   intro fr' hr
   refine eN ?_
   rw[Pm,aw a1]
   exact cg (jD hr)
  by_cases hb:c[j].length=0∨3<c[j].length∨c[j].length≠c[0].length
  ·obtain⟨fr',b1,b2⟩:=Wd L run k fr1 c j hj hc hb a4
   have hcp:pR (hdL c) c[j]=10:=by unfold pR;rw[hh,if_pos hb]
   refine .inr ⟨fr',?_,run_ret ?_,?_⟩
   ·rw[jl,hcp];simp
   ·rw[cg b1]
   ·rw[jl,hcp];exact b2
  ·have n1:c[j].length≠0:=fun e=>hb (.inl e)
   have n2 : ¬ 3<c[j].length:=fun e=>hb (.inr (.inl e))
   have n3:c[j].length=c[0].length:=Classical.byContradiction fun e=>hb (.inr (.inr e))
   obtain⟨fr3,fr4,b1,b2,b3,b6⟩:=aaU L run k fr1 c j hj hc n1 n2 n3 a4
   obtain⟨fr5,d1,d2,d3⟩:=Cf L run k c j hj hFp.1 (fun s hs=>g s (hFp.2 s hs)) c[j].length 0 fr4 (by omega) b3 b6
   rw[List.drop_zero] at d1 d2 d3
   have hcp:pR (hdL c) c[j]=bif c[j].all (fun s=>pB (IsV s)) then 0 else 1:=by unfold pR;rw[hh,if_neg hb]
   cases hv:c[j].all (fun s=>pB (IsV s)) with
   | false =>
    rw[hv] at d1 hcp
    have d4:=d3 hv
    refine .inr ⟨fr5,?_,run_ret ?_,?_⟩
    ·rw[jl,hcp];simp
    ·rw[aw b1,aw b2]
     exact cW (bQ d1 (by omega))
    ·rw[jl,hcp];exact d4
   | true =>
    rw[hv] at d1 hcp
    have d4:=d2 hv
    obtain⟨fr6,e1,e2⟩:=adO L run k fr5 c j (by omega) d4
    have hgo:af (CC L) run k rkO ⟨fr,[],[]⟩=some (.normal,⟨fr6,[],[]⟩):=by
     rw[Pm,aw a1]
     have:af (CC L) run k (.seq xn (.seq Po (.block 2 (.loop rkI)))) ⟨fr1,[],[]⟩=some (.normal,⟨fr5,[],[]⟩):=by
      rw[aw b1,aw b2]
      exact bE (bQ d1 (by omega))
     rw[aw (ft this)]
     exact e1
    have hce:jl (hdL c) (c[j]::c.drop (j+1))=jl (hdL c) (c.drop (j+1)):=by rw[jl,hcp];rfl
    rw[hce,bV hgo]
    exact Ce L run k hk c hF g n (j+1) fr6 (by omega) e2
noncomputable def Pl:Code:=seq1 (seq1 (ah 2 rkC))
theorem aaP:ah 2 rkC = .seq (.seq Pl (.block 0 (.loop rkO))) (ah 3 rkC):=rfl
theorem V9 (L:Lst)(run:aq)(k:Nat)(c:List (List ByteArray))(h:64<c.length):∃ st,af (CC L) run k rkC ⟨entry 58 [cE c],[],[]⟩=some (.ret,st)∧aZ TT st.fr st.hp Tryz.f22.results.toList=some [iv 3]:=by
 obtain⟨e1,e2⟩:=cP 57 (cE c)
 generalize entry 58 [cE c]=fr0 at *
 have hl:=gx c
 generalize c.length=m at *
 have h2:((m:Int) > 64)=True:=by simp;omega
 have h3:((64:Int)<m)=True:=by simp;omega
 simp[iv,rkC,Tryz.f22,e1,e2,af,aH,an,ao,aG,ag,ai,aj,ak,aC,az,FP.none,bc,ar,bd,au,bH,aa,ae,ab,bf,hl,uCl,h2,aZ]
theorem aaR (L:Lst)(run:aq)(k:Nat)(c:List (List ByteArray))(h : ¬ 64<c.length):∃ fr fr',aY (CC L) run k 2 rkC ⟨entry 58 [cE c],[],[]⟩=some ⟨fr,[],[]⟩∧af (CC L) run k Pl ⟨fr,[],[]⟩=some (.normal,⟨fr',[],[]⟩)∧RF fr' c 0:=by
 obtain⟨e1,e2⟩:=cP 57 (cE c)
 generalize entry 58 [cE c]=fr0 at *
 have hl:=gx c
 have h2:((c.length:Int) > 64)=False:=by simp;omega
 have h3:((64:Int)<c.length)=False:=by simp;omega
 obtain⟨fr,a1,a2,a3⟩:∃ fr,aY (CC L) run k 2 rkC ⟨fr0,[],[]⟩=some ⟨fr,[],[]⟩∧fr.length=58∧nth fr 0=cE c:=by
  simp[rkC,Tryz.f22,aY,e1,e2,af,aH,an,ao,aG,ag,ai,aj,ak,aC,az,FP.none,bc,ar,bd,au,bH,aa,ae,ab,bf,hl,uCl,h2]
 refine⟨fr,?_⟩
 rw[a1]
 simp[RF,iv,Pl,seq1,ah,rkC,Tryz.f22,a2,a3,af,aH,an,ao,aG,ag,ai,aj,ak,aC,az,FP.none,au,aa,ae,ab]
theorem V8 (L:Lst)(run:aq)(k:Nat)(fr:List PV)(h0:fr.length=58):∃ st,af (CC L) run k (ah 3 rkC) ⟨fr,[],[]⟩=some (.ret,st)∧aZ TT st.fr st.hp Tryz.f22.results.toList=some [iv 0]:=by
 simp[iv,rkC,ah,Tryz.f22,h0,af,aH,an,ao,aG,ag,ai,aj,ak,aC,az,FP.none,au,aa,aZ]
theorem aaQ (fr:List PV)(n:Nat)(h:nth fr 2=iv n):aZ TT fr [] Tryz.f22.results.toList=some [iv n]:=by
 simp[Tryz.f22,aZ,h]
theorem Wa (L:Lst)(run:aq)(k:Nat)(hk:200≤k)(c:List (List ByteArray))(hF:Fit c)(g:∀ s:ByteArray,(bys s).length≤100000→av L run 23 [.sc (.string s)] (.sc (.bool (pB (IsV s))))) :
  ∃ st,af (CC L) run k rkC ⟨entry 58 [cE c],[],[]⟩=some (.ret,st)∧aZ TT st.fr st.hp Tryz.f22.results.toList=some [iv (chk c)]:=by
 unfold chk
 by_cases h:64<c.length
 ·rw[if_pos h];exact V9 L run k c h
 ·rw[if_neg h]
  obtain⟨fr,fr1,a1,a2,a3⟩:=aaR L run k c h
  rw[aO 2 a1,aaP]
  have hl:=Ce L run k hk c hF g c.length 0 fr1 (by omega) a3
  rw[List.drop_zero] at hl
  rcases hl with ⟨fr2,h0,b1,b2⟩| ⟨fr3,b0,b1,b2⟩
  ·have:af (CC L) run k (.seq Pl (.block 0 (.loop rkO))) ⟨fr,[],[]⟩=some (.normal,⟨fr2,[],[]⟩):=by
    rw[aw a2];exact bE (bQ b1 (by have:=hF.1;omega))
   rw[aw this,h0]
   exact V8 L run k fr2 b2
  ·have:af (CC L) run k (.seq Pl (.block 0 (.loop rkO))) ⟨fr,[],[]⟩=some (.ret,⟨fr3,[],[]⟩):=by
    rw[aw a2];exact cW (bQ b1 (by have:=hF.1;omega))
   rw[cg this]
   exact⟨_,rfl,aaQ fr3 _ b2⟩
noncomputable def LQ5:Lst:=[(77,EO),(23,IG)]
theorem UE:dK base.P LQ5:=⟨EN,x9,trivial⟩
theorem tI {c d:List (List ByteArray)}(h:[cE c]=[cE d]):c=d:=A5 (by simpa using h)
theorem TX:Ab.Spec base.P 80 Hm:=Ab.Spec.bL (C:=CC LQ5) (cU UE) fun args rs h=>by
 obtain⟨c,hF,rfl,rfl⟩:=dj h
 obtain⟨st,x1,x2⟩:=Y5 LQ5 (runK (CC LQ5) 200) 200 (by omega) c hF (fun s h9=>Zs rfl _ s h9)
 exact⟨201,_,_,_,_,_,aQ EJ rfl x1 x2,rfl,Wk.refl rfl,trivial⟩
theorem yh:Ab.Spec base.P 22 Hm:=Ab.Spec.bL (C:=CC LQ5) (cU UE) fun args rs h=>by
 obtain⟨c,hF,rfl,rfl⟩:=dj h
 obtain⟨st,x1,x2⟩:=Wa LQ5 (runK (CC LQ5) 200) 200 (by omega) c hF (fun s h9=>UJ rfl _ s h9)
 exact⟨201,_,_,_,_,_,aQ xF rfl x1 x2,rfl,Wk.refl rfl,trivial⟩
theorem o0 (hp:List Blk)(c:List (List ByteArray)):bm (snap hp bh) [cE c]=some ([cE c],[]):=rfl
theorem nG (c:List (List ByteArray)):aJ [cE c]=[cE c]:=by simp only[aJ,mM]
theorem Z8 {L:Lst}(hL:bt L 80=fun a=>Hm (aJ a))(run:aq)(c:List (List ByteArray))(hF:Fit c):av L run 80 [cE c] (iv (chk c)) :=
 jf KQ (e:=fun c=>[cE c]) (f:=fun c=>[iv (chk c)]) hL (fun x y _ _ h=>by rw[tI h]) run c hF (o0 · c) (nG c)
theorem UK {L:Lst}(hL:bt L 22=fun a=>Hm (aJ a))(run:aq)(c:List (List ByteArray))(hF:Fit c):av L run 22 [cE c] (iv (chk c)) :=
 jf BU (e:=fun c=>[cE c]) (f:=fun c=>[iv (chk c)]) hL (fun x y _ _ h=>by rw[tI h]) run c hF (o0 · c) (nG c)
def rc:Option Rat→List PV
 | none=>[.sc (.bool (bq 0)),aL (aA (Int.natAbs 0)),.sc (.bool (bq 0)),aL (aA (Int.natAbs 0))]
 | some x=>[.sc (.bool (bq x.num)),aL (aA x.num.natAbs),.sc (.bool (bq x.den)),aL (aA (x.den:Int).natAbs)]
theorem uy (u:Option Rat):rv u = .agg (rc u):=by cases u <;> rfl
def rz:List PV:=[.sc (.bool false),.sc (.slice none 0 0),.sc (.bool false),.sc (.slice none 0 0)]
theorem uK (u:Option Rat):(rc u).length=4:=by cases u <;> rfl
theorem nW:Ec 4 rc where
 len:=uK
 okc:=fun u=>by cases u <;> rfl
 can:=fun u=>by
  have h:=pU u
  rw[uy,canon] at h
  simpa using h
 idf:=fun u=>by cases u <;> rfl
 sn:=fun hp d u=>by cases u <;> rfl
def rcs (x:Rat):List PV:=rc (some x)
theorem cM:Ec 4 rcs where
 len:=fun x=>nW.len _
 okc:=fun x=>nW.okc _
 can:=fun x=>nW.can _
 idf:=fun x=>nW.idf _
 sn:=fun hp d x=>nW.sn hp d _
theorem oc (x:Rat):rv (some x) = .agg (rcs x):=rfl
def Rp (p:PV)(u:Option Rat):Prop:=p=rv u∨(u=none∧p = .agg rz)
def Rc (cs:List PV)(u:Option Rat):Prop:=cs=rc u∨(u=none∧cs=rz)
theorem Rc.p {cs:List PV}{u:Option Rat}(h:Rc cs u):Rp (.agg cs) u:=by
 rcases h with rfl | ⟨rfl,rfl⟩
 ·exact .inl (uy u).symm
 ·exact .inr ⟨rfl,rfl⟩
theorem Rc.len {cs:List PV}{u:Option Rat}(h:Rc cs u):cs.length=4:=by
 rcases h with rfl | ⟨rfl,rfl⟩
 ·exact uK u
 ·rfl
theorem Rp.snap {p:PV}{u:Option Rat}(h:Rp p u)(hp:List Blk)(d:Nat):Ab.snap hp (d+2) p=some (p,[]):=by
 rcases h with rfl | ⟨rfl,rfl⟩
 ·exact VB hp d u
 ·rfl
theorem Rp.canon {p:PV}{u:Option Rat}(h:Rp p u):Ab.canon p=rv u:=by
 rcases h with rfl | ⟨rfl,rfl⟩
 ·exact pU u
 ·rfl
theorem Rp.wk {p:PV}{u:Option Rat}(h:Rp p u):Wk p (rv u):=by
 rcases h with rfl | ⟨rfl,rfl⟩
 ·exact Wk.refl (by cases u <;> rfl)
 ·exact Wk.agg ⟨Wk.refl rfl,Wk.nil false,Wk.refl rfl,Wk.nil false,trivial⟩
theorem Rp.Ir {p:PV}{u:Option Rat}(h:Rp p u)(hp:List Blk):bm (Ab.snap hp bh) [p]=some ([p],[]):=by
 have:=h.snap hp 10
 show bm (Ab.snap hp 12) [p]=_
 simp only[bm,this];rfl
theorem Rp.ZG {p q:PV}{u v:Option Rat}(h:Rp p u)(h':Rp q v)(hp:List Blk):bm (Ab.snap hp bh) [p,q]=some ([p,q],[]):=by
 have h1:=h.snap hp 10
 have h2:=h'.snap hp 10
 show bm (Ab.snap hp 12) [p,q]=_
 simp only[bm,h1,h2];rfl
theorem jI {L:Lst}{g:Nat}{f:List PV→Option (List PV)}(hs:base.shared g=false)(ho:bt L g=fun a=>f (aJ a))(run:aq)(dr:Bool)(hp:List Blk)(args args' rs:List PV)
  (h1:bm (snap hp bh) args=some (args,[])) (h2:aJ args=args') (h3:f args'=some rs):bU (CC L) run dr hp g args=some (gr rs,hp,⟨[],[],false,false⟩):=by
 have h4:(CC L).orc g args=some rs:=by
  show bt L g args=_
  rw[ho];show f (aJ args)=_;rw[h2,h3]
 by_cases h:rs.all du=true
 ·exact jv hs h1 h4 h
 ·exact dW hs h1 h4 (by simpa using h)
theorem UG {L:Lst}(hL:bt L 87=fun a=>iH (aJ a))(run:aq){p q:PV}{u v:Option Rat}(hp:Rp p u)(hq:Rp q v){j k:Nat}(hu:Rb j (vv u))(hv:Rb k (vv v))(h:j+k≤1000000):av L run 87 [p,q] (rv (some (vv u+vv v))):=fun dr hh =>
 jI Iy hL run dr hh _ _ [rv (some (vv u+vv v))] (hp.ZG hq hh) (by simp only[aJ,hp.canon,hq.canon]) (Cm hu hv h)
theorem UF {L:Lst}(hL:bt L 56=fun a=>me (aJ a))(run:aq){p q:PV}{u v:Option Rat}(hp:Rp p u)(hq:Rp q v){j k:Nat}(hu:Rb j (vv u))(hv:Rb k (vv v))(h:j+k≤1000000):av L run 56 [p,q] (rv (some (vv u*vv v))):=fun dr hh =>
 jI VS hL run dr hh _ _ [rv (some (vv u*vv v))] (hp.ZG hq hh) (by simp only[aJ,hp.canon,hq.canon]) (Pk hu hv h)
theorem ac9 {L:Lst}(hL:bt L 106=fun a=>jO (aJ a))(run:aq){p:PV}{u:Option Rat}(hp:Rp p u){j:Nat}(hu:Rb j (vv u))(h:j≤1000000):av L run 106 [p] (rv (Fy u)):=fun dr hh =>
 jI Ix hL run dr hh _ _ [rv (Fy u)] (hp.Ir hh) (by simp only[aJ,hp.canon]) (Cd hu h)
theorem Zr {L:Lst}(hL:bt L 49=fun a=>iY (aJ a))(run:aq){p:PV}{u:Option Rat}(hp:Rp p u){j:Nat}(hu:Rb j (vv u))(h:j≤1000000):av L run 49 [p] (Ab.bC (kB (vv u))):=fun dr hh =>
 jI BX hL run dr hh _ _ [Ab.bC (kB (vv u))] (hp.Ir hh) (by simp only[aJ,hp.canon]) (yb hu h)
def dc (x:Bool)(X:List Rat):PV:=.imm X.length x (X.flatMap rcs)
def vR (X:List Rat):PV:=dc false X
theorem zz (x:Bool)(X:List Rat):canon (dc x X)=vR X:=cM.acK _ x X rfl
theorem xi:und TT 84=some (.slice 72):=by kernel_rfl
theorem bR:gD TT 72=some 64:=by kernel_rfl
theorem zRz:dR TT 72=some rz:=by kernel_rfl
theorem O9:cQ TT 84=some 1:=by kernel_rfl
theorem afj:fN TT 84=some false:=by kernel_rfl
theorem GB (x:Bool)(X:List Rat):eC (dc x X)=true:=rfl
theorem SA (id n i:Nat)(x:Bool)(hi:i<n):ba TT 84 (.own id 4 0 n x) (.sc (.int .i64 (i:Int)))=some (.ptr id (i*4)):=by
 simp only[ba,xi,bj,sR,hi,and_self,if_true,Nat.zero_add]
theorem ZE (cs rest:List PV)(h:cs.length=4):bA (cs++rest) 4=some cs:=by
 rw[dL (by simp;omega),← h,List.take_left]
theorem vY (x:Bool)(X:List Rat)(i:Nat)(hi:i<X.length):∃ r,ba TT 84 (dc x X) (.sc (.int .i64 (i:Int)))=some (.iptr r)∧bA r 4=some (rcs X[i]):=by
 refine⟨bn (X.flatMap rcs) (i*4),?_,?_⟩
 ·unfold dc
  simp only[ba,xi,bj,sR,hi,if_true]
 ·rw[pK cM.toEl X i hi,ZE _ _ (cM.len _)]
theorem yP (A:List PV)(m:Nat)(cs:List PV)(h:cs.length=4)(i:Nat)(hi:A.length=i*4):bZ (A++rep (m+1) rz) (i*4) cs=some ((A++cs)++rep m rz):=by
 have:=yN A (rep (m+1) rz) cs (cs++rep m rz) 0 (vG rz cs (rep m rz) (by rw[h];rfl))
 rw[show A.length+0=i*4 by omega] at this
 rw[this,List.append_assoc]
theorem im (X:List Rat):(X.flatMap rcs).length=X.length*4:=cM.length X
theorem HT:base.F.get 59=some Tryz.f59:=by kernel_rfl
theorem OG:base.shared 59=false:=by kernel_rfl
noncomputable def prC:Code:=Tryz.f59.body.getD .skip
noncomputable def prB:Code:=(aF prC).getD .skip
def PF (fr:List PV)(P:List ByteArray)(i:Nat):Prop:=fr.length=26∧nth fr 3 = .own 0 4 0 P.length true∧nth fr 9=pE P∧nth fr 10=iv P.length∧nth fr 11=iv i
theorem aba (L:Lst)(run:aq)(k:Nat)(fr:List PV)(hp:List Blk)(wr:List Nat)(P:List ByteArray)(h:PF fr P P.length) :
  ∃ fr',af (CC L) run k prB ⟨fr,hp,wr⟩=some (.exit 0,⟨fr',hp,wr⟩)∧fr'.length=26∧nth fr' 3 = .own 0 4 0 P.length true:=by
 obtain⟨h0,h3,h9,h10,h11⟩:=h
 simp only[iv] at h10 h11
 simp[prB,prC,Tryz.f59,aF,af,aH,an,ao,aG,ag,ai,aj,ak,aC,az,FP.none,bc,ar,bd,aa,ae,ab,h0,h3,h10,h11]
set_option maxHeartbeats 1000000 in
theorem QW (L:Lst)(run:aq)(k:Nat)(fr:List PV)(wr:List Nat)(P:List ByteArray)(i m:Nat)(A:List PV)(x:Rat)(hi:i<P.length)(h9':P.length≤1000)(hA:A.length=i*4)(g:av L run 108 [.sc (.string P[i])] (.tup [rv (some x),.sc (.bool true)]))(h:PF fr P i) :
  ∃ fr' wr',af (CC L) run k prB ⟨fr,[⟨.live,A++rep (m+1) rz⟩],wr⟩=some (.normal,⟨fr',[⟨.live,(A++rcs x)++rep m rz⟩],wr'⟩)∧PF fr' P (i+1):=by
 obtain⟨h0,h3,h9,h10,h11⟩:=h
 obtain⟨r,x1,x2⟩:=I9 uPt P i hi
 have x3:=SA 0 P.length i true hi
 have ho:=yP A m (rcs x) (cM.len x) i hA
 have hw:=bF i (by omega)
 have hok:=cM.okc x
 have hlen:=cM.len x
 rw[oc] at g
 unfold av at g
 generalize P[i]=s at *
 generalize rcs x=cs at *
 generalize A++rep (m+1) rz=Z at *
 simp only[iv] at h10 h11
 simp[PF,iv,prB,prC,Tryz.f59,aF,af,aH,an,ao,aG,ag,ai,aP,aj,ak,aC,az,FP.none,bc,ar,bd,au,partOf,aa,ae,ab,bf,and_assoc,bg,h0,h3,h9,h10,h11,hi,x1,x2,x3,g,ho,hok,hlen,hw,aU,Ep,x8,sR,aV,bP,bg]
theorem IQ (L:Lst)(run:aq)(k:Nat)(X:List Rat)(h9:X.length≤1000)(g:∀ x ∈ X,av L run 108 [.sc (.string (qb x))] (.tup [rv (some x),.sc (.bool true)])):∀ (n i:Nat) (fr:List PV) (wr:List Nat),i+n=X.length→PF fr (X.map qb) i →
  ∃ fr' wr',bX (af (CC L) run k prB) (n+1) ⟨fr,[⟨.live,(X.take i).flatMap rcs++rep n rz⟩],wr⟩=some (.exit 0,⟨fr',[⟨.live,X.flatMap rcs⟩],wr'⟩)∧fr'.length=26∧nth fr' 3 = .own 0 4 0 X.length true
 | 0,i,fr,wr,hin,h=>by
  have e:i=(X.map qb).length:=by simpa using hin
  rw[e] at h
  obtain⟨fr',q1,q2,q3⟩:=aba L run k fr [⟨.live,(X.take i).flatMap rcs++rep 0 rz⟩] wr (X.map qb) h
  have e2:(X.take i).flatMap rcs++rep 0 rz=X.flatMap rcs:=by
   rw[List.take_of_length_le (by omega)];simp[rep]
  rw[e2] at q1 ⊢
  exact⟨fr',wr,bw q1,q2,by rw[q3];simp⟩
 | n+1,i,fr,wr,hin,h=>by
  have hi:i<X.length:=by omega
  have hi':i<(X.map qb).length:=by simpa using hi
  have hg:=g X[i] (List.getElem_mem hi)
  obtain⟨fr1,wr1,q1,q2⟩:=QW L run k fr wr (X.map qb) i n ((X.take i).flatMap rcs) X[i] hi' (by simpa using h9) (by rw[im,List.length_take,Nat.min_eq_left (by omega)]) (by rw[List.getElem_map];exact hg) h
  obtain⟨fr',wr',s1,s2⟩:=IQ L run k X h9 g n (i+1) fr1 wr1 (by omega) q2
  refine⟨fr',wr',?_,s2⟩
  rw[bV q1]
  have e:(X.take i).flatMap rcs++rcs X[i]=(X.take (i+1)).flatMap rcs:=by
   rw[List.take_succ_eq_append_getElem hi,List.flatMap_append];simp
  rw[e]
  exact s1
noncomputable def WS:Code:=seq1 (seq1 (ah 2 prC))
theorem aa8:ah 2 prC = .seq (.seq WS (.block 0 (.loop prB))) (ah 3 prC):=rfl
theorem aa9 (L:Lst)(run:aq)(k:Nat)(P:List ByteArray)(h9:P.length≤1000) :
  ∃ fr fr' wr,aY (CC L) run k 2 prC ⟨entry 26 [pE P],[],[]⟩=some ⟨fr,[⟨.live,rep P.length rz⟩],wr⟩∧af (CC L) run k WS ⟨fr,[⟨.live,rep P.length rz⟩],wr⟩=some (.normal,⟨fr',[⟨.live,rep P.length rz⟩],wr⟩)∧PF fr' P 0:=by
 obtain⟨e1,e2⟩:=cP 25 (pE P)
 generalize entry 26 [pE P]=fr0 at *
 have hm:P.length≤cI:=Nat.le_trans h9 (by decide)
 obtain⟨fr,wr,a1,a2,a3,a4⟩:∃ fr wr,aY (CC L) run k 2 prC ⟨fr0,[],[]⟩=some ⟨fr,[⟨.live,rep P.length rz⟩],wr⟩∧fr.length=26∧nth fr 0=pE P∧nth fr 3 = .own 0 4 0 P.length true:=by
  have hrz:rz.length=4:=rfl
  simp[prC,Tryz.f59,aY,e1,e2,af,aH,an,ao,aG,ag,ai,aj,ak,aC,az,FP.none,au,bH,bj,aa,ae,ab,bf,and_assoc,gw,uPt,xi,sR,bR,zRz,hm,hrz,bS,aM]
 refine⟨fr,?_⟩
 simp only[a1]
 simp[PF,iv,WS,seq1,ah,prC,Tryz.f59,a2,a3,a4,af,aH,an,ao,aG,ag,ai,aj,ak,aC,az,FP.none,au,bH,aa,ae,ab,bf,gw,uPt]
theorem WR (L:Lst)(run:aq)(k:Nat)(fr:List PV)(hp:List Blk)(wr:List Nat)(p:PV)(h0:fr.length=26)(h3:nth fr 3=p):∃ st,af (CC L) run k (ah 3 prC) ⟨fr,hp,wr⟩=some (.ret,st)∧st.hp=hp∧aZ TT st.fr st.hp Tryz.f59.results.toList=some [p]:=by
 simp[prC,ah,Tryz.f59,h0,h3,af,aH,an,ao,aG,ag,ai,aj,ak,aC,az,FP.none,aa,ab,aZ]
theorem Ih (hp:List Blk)(id:Nat)(x:Bool)(X:List Rat)(h:aV hp id=some ⟨.live,X.flatMap rcs⟩):bm (snap hp bh) [.own id 4 0 X.length x]=some ([dc x X],[id]):=by
 have ht:bA (bn (X.flatMap rcs) 0) (X.length*4)=some (X.flatMap rcs):=by
  have:=qm cM.toEl X []
  rw[List.append_nil] at this
  rw[cK,List.drop_zero,this]
 have h1:Ab.snap hp (11+1) (.own id 4 0 X.length x)=some (dc x X,[id]):=by
  rw[Ab.snap]
  simp only[h]
  rw[if_neg (by simp),ht]
  simp only[cM.sns hp 10 X]
  rfl
 show bm (snap hp 12) _=_
 simp only[bm,h1]
 rfl
noncomputable def LR1:Lst:=[(108,rrF),(55,uA),(56,me),(87,iH),(106,jO),(49,iY),(110,DE)]
theorem xc:dK base.P LR1:=⟨Af,ya,ye,qG,qA,k9,MU,trivial⟩
def RbL (k:Nat)(X:List Rat):Prop:=∀ x ∈ X,Rb k x
def qL (X:List Rat):PV:=pE (X.map qb)
theorem QS {X Y:List Rat}(h:qL X=qL Y):X=Y:=by
 have h1:=Gy h
 clear h
 induction X generalizing Y with
 | nil=>cases Y with
  | nil=>rfl
  | cons b Y=>simp at h1
 | cons a X ih=>cases Y with
  | nil=>simp at h1
  | cons b Y =>
   simp only[List.map_cons,List.cons.injEq] at h1
   rw[qQ h1.1,ih h1.2]
noncomputable def AF:List PV→Option (List PV):=ctr (fun X:List Rat=>[qL X]) (fun X=>RbL 1000 X∧X.length≤1000) fun X=>[dc true X]
theorem vr:Ab.Spec base.P 59 AF:=Ab.Spec.bL (C:=CC LR1) (cU xc) fun args rs h=>by
 obtain⟨X,⟨hb,h9⟩,rfl,rfl⟩:=dj h
 have hX:(X.map qb).length=X.length:=List.length_map _
 obtain⟨fr,fr1,wr,a1,a2,a3⟩:=aa9 LR1 (runK (CC LR1) (X.length+1)) (X.length+1) (X.map qb) (by omega)
 obtain⟨fr2,wr2,b1,b2,b3⟩:=IQ LR1 (runK (CC LR1) (X.length+1)) (X.length+1) X h9 (fun x hx=>aeR rfl _ (hb x hx) (by omega)) X.length 0 fr1 wr (by omega) a3
 rw[hX] at a1 a2
 have hl:af (CC LR1) (runK (CC LR1) (X.length+1)) (X.length+1) (.seq WS (.block 0 (.loop prB))) ⟨fr,[⟨.live,rep X.length rz⟩],wr⟩=some (.normal,⟨fr2,[⟨.live,X.flatMap rcs⟩],wr2⟩):=by
  rw[aw a2];exact bE b1
 obtain⟨st,c1,c2,c3⟩:=WR LR1 (runK (CC LR1) (X.length+1)) (X.length+1) fr2 [⟨.live,X.flatMap rcs⟩] wr2 _ b2 b3
 have hx:af (CC LR1) (runK (CC LR1) (X.length+1)) (X.length+1) prC ⟨entry 26 [pE (X.map qb)],[],[]⟩=some (.ret,st):=by
  rw[aO 2 a1,aa8,aw hl,c1]
 exact⟨_,_,_,_,[dc true X],[0],aQ HT rfl hx c3,by rw[c2];exact Ih _ 0 true X rfl,Wk.refl rfl,trivial⟩
theorem tM {L:Lst}(hL:bt L 59=fun a=>AF (aJ a))(run:aq)(X:List Rat)(hb:RbL 1000 X)(h9:X.length≤1000):av L run 59 [qL X] (dc true X) :=
 jf OG (e:=fun X=>[qL X]) (f:=fun X=>[dc true X]) hL (fun x y _ _ h=>by rw[QS (X:=x) (Y:=y) (by simpa using h)]) run X ⟨hb,h9⟩ (fun _=>rfl) (by simp only[aJ,qL,DY])
theorem al1 (hp:List Blk)(z:List PV):aV (aM hp z) hp.length=some ⟨.live,z⟩:=by rw[bJ,if_pos rfl]
theorem al2 (hp:List Blk)(z:List PV)(b:Blk):aV (bP (aM hp z) hp.length b) hp.length=some b:=by rw[cD (al1 hp z),if_pos rfl]
theorem al3 (hp:List Blk)(z:List PV)(b:Blk)(i:Nat)(h:i<hp.length):aV (bP (aM hp z) hp.length b) i=aV hp i:=by
 rw[cD (al1 hp z),if_neg (by omega),bJ,if_neg (by omega)]
theorem al4 (hp:List Blk)(z:List PV)(b:Blk):(bP (aM hp z) hp.length b).length=hp.length+1:=by rw[bz];simp[aM]
theorem dZ (z cs:List PV)(h:z.length=cs.length):bZ z 0 cs=some cs:=by
 have:=vG z cs [] h
 simpa using this
theorem dY (cs:List PV)(h:cs.length=4):bA cs 4=some cs:=by have:=ZE cs [] h;simpa using this
theorem NJ:base.F.get 60=some Tryz.f60:=by kernel_rfl
theorem VI:base.shared 60=false:=by kernel_rfl
noncomputable def psC:Code:=Tryz.f60.body.getD .skip
noncomputable def psB:Code:=(aF psC).getD .skip
def HG (fr:List PV)(X Y:List Rat)(i:Nat):Prop:=fr.length=29∧nth fr 1=vR Y∧nth fr 5 = .own 0 4 0 X.length true∧nth fr 11=vR X∧nth fr 12=iv X.length∧nth fr 13=iv i
theorem aa7 (L:Lst)(run:aq)(k:Nat)(fr:List PV)(hp:List Blk)(wr:List Nat)(X Y:List Rat)(h:HG fr X Y X.length) :
  ∃ fr',af (CC L) run k psB ⟨fr,hp,wr⟩=some (.exit 0,⟨fr',hp,wr⟩)∧fr'.length=29∧nth fr' 5 = .own 0 4 0 X.length true:=by
 obtain⟨h0,h1,h5,h11,h12,h13⟩:=h
 simp only[iv] at h12 h13
 simp[psB,psC,Tryz.f60,aF,af,aH,an,ao,aG,ag,ai,aj,ak,aC,az,FP.none,bc,ar,bd,aa,ae,ab,h0,h5,h12,h13]
theorem WO (L:Lst)(run:aq)(k:Nat)(fr:List PV)(hp:List Blk)(wr:List Nat)(X Y:List Rat)(i m:Nat)(A:List PV)(hi:i<X.length)(hy:i<Y.length)(h9':X.length≤1000)(hA:A.length=i*4)(g:av L run 55 [rv (some X[i]),rv (some Y[i])] (rv (some (X[i] - Y[i]))))(h:HG fr X Y i)(hb:aV hp 0=some ⟨.live,A++rep (m+1) rz⟩)(hn:0<hp.length) :
  ∃ fr' hp' wr',af (CC L) run k psB ⟨fr,hp,wr⟩=some (.normal,⟨fr',hp',wr'⟩)∧HG fr' X Y (i+1)∧aV hp' 0=some ⟨.live,(A++rcs (X[i] - Y[i]))++rep m rz⟩∧0<hp'.length:=by
 obtain⟨h0,h1,h5,h11,h12,h13⟩:=h
 obtain⟨r,x1,x2⟩:=vY false X i hi
 obtain⟨r',y1,y2⟩:=vY false Y i hy
 have x3:=SA 0 X.length i true hi
 have ho:=yP A m (rcs (X[i] - Y[i])) (cM.len _) i hA
 have hw:=bF i (by omega)
 have hx:=al1 hp rz
 have hx1:=dZ rz (rcs X[i]) (by rw[cM.len];rfl)
 have hx2:=al2 hp rz ⟨.live,rcs X[i]⟩
 have hx3:=(al3 hp rz ⟨.live,rcs X[i]⟩ 0 hn).trans hb
 have hx4:=dY (rcs X[i]) (cM.len _)
 have hx5:aV (bP (bP (aM hp rz) hp.length ⟨.live,rcs X[i]⟩) 0 ⟨.live,(A++rcs (X[i] - Y[i]))++rep m rz⟩) 0=some ⟨.live,(A++rcs (X[i] - Y[i]))++rep m rz⟩:=by rw[cD hx3,if_pos rfl]
 have hx6:0<(bP (bP (aM hp rz) hp.length ⟨.live,rcs X[i]⟩) 0 ⟨.live,(A++rcs (X[i] - Y[i]))++rep m rz⟩).length:=by rw[bz,al4];omega
 have hokx:=cM.okc X[i]
 have hlx:=cM.len X[i]
 have hokd:=cM.okc (X[i] - Y[i])
 have hld:=cM.len (X[i] - Y[i])
 have hn0:hp.length≠0:=by omega
 have hn1:(0=hp.length)=False:=by simp;omega
 rw[oc,oc,oc] at g
 unfold av at g
 generalize rcs (X[i] - Y[i])=cd at *
 generalize rcs X[i]=cx at *
 generalize rcs Y[i]=cy at *
 generalize A++rep (m+1) rz=Z at *
 generalize A++cd++rep m rz=Z' at *
 simp only[iv] at h12 h13
 have hv1:dc false X=vR X:=rfl
 have hv2:dc false Y=vR Y:=rfl
 rw[hv1] at x1
 rw[hv2] at y1
 have zR':=zRz
 simp[HG,iv,psB,psC,Tryz.f60,aF,af,aH,an,ao,aG,ag,ai,aP,aj,ak,aC,az,FP.none,bc,ar,bd,au,partOf,aa,ae,ab,bf,and_assoc,bg,h0,h1,h5,h11,h12,h13,hi,x1,x2,x3,y1,y2,g,ho,hx,hx1,hx2,hx3,hx4,hx5,hx6,hokx,hlx,hokd,hld,hn1,hw,aU,aR,sR,zR',bn,number,FP.free,cB,FP.apart]
theorem IP (L:Lst)(run:aq)(k:Nat)(X Y:List Rat)(h9:X.length≤1000)(hXY:X.length=Y.length)(g:∀ i (h1:i<X.length)(h2:i<Y.length),av L run 55 [rv (some X[i]),rv (some Y[i])] (rv (some (X[i] - Y[i])))):∀ (n i:Nat) (fr:List PV) (hp:List Blk) (wr:List Nat),i+n=X.length→HG fr X Y i→aV hp 0=some ⟨.live,((List.zipWith (· - ·) X Y).take i).flatMap rcs++rep n rz⟩→0<hp.length →
  ∃ fr' hp' wr',bX (af (CC L) run k psB) (n+1) ⟨fr,hp,wr⟩=some (.exit 0,⟨fr',hp',wr'⟩)∧fr'.length=29∧nth fr' 5 = .own 0 4 0 X.length true∧aV hp' 0=some ⟨.live,(List.zipWith (· - ·) X Y).flatMap rcs⟩
 | 0,i,fr,hp,wr,hin,h,hb,hn=>by
  have e:i=X.length:=by omega
  rw[e] at h
  obtain⟨fr',q1,q2,q3⟩:=aa7 L run k fr hp wr X Y h
  refine⟨fr',hp,wr,bw q1,q2,q3,?_⟩
  rw[hb,List.take_of_length_le (by rw[List.length_zipWith];omega)];simp[rep]
 | n+1,i,fr,hp,wr,hin,h,hb,hn=>by
  have hi:i<X.length:=by omega
  have hy:i<Y.length:=by omega
  have hz:i<(List.zipWith (· - ·) X Y).length:=by rw[List.length_zipWith];omega
  obtain⟨fr1,hp1,wr1,q1,q2,q3,q4⟩:=WO L run k fr hp wr X Y i n _ hi hy h9 (by rw[im,List.length_take,Nat.min_eq_left (by omega)]) (g i hi hy) h hb hn
  obtain⟨fr',hp',wr',s1,s2⟩:=IP L run k X Y h9 hXY g n (i+1) fr1 hp1 wr1 (by omega) q2 (by
   rw[q3,List.take_succ_eq_append_getElem hz,List.flatMap_append];simp) q4
  exact⟨fr',hp',wr',by rw[bV q1];exact s1,s2⟩
noncomputable def WQ:Code:=seq1 (seq1 (ah 2 psC))
theorem aa5:ah 2 psC = .seq (.seq WQ (.block 0 (.loop psB))) (ah 3 psC):=rfl
theorem aa6 (L:Lst)(run:aq)(k:Nat)(X Y:List Rat)(h9:X.length≤1000) :
  ∃ fr fr' wr,aY (CC L) run k 2 psC ⟨entry 29 [vR X,vR Y],[],[]⟩=some ⟨fr,[⟨.live,rep X.length rz⟩],wr⟩∧af (CC L) run k WQ ⟨fr,[⟨.live,rep X.length rz⟩],wr⟩=some (.normal,⟨fr',[⟨.live,rep X.length rz⟩],wr⟩)∧HG fr' X Y 0:=by
 obtain⟨e1,e2,e3⟩:=cA 27 (vR X) (vR Y)
 generalize entry 29 [vR X,vR Y]=fr0 at *
 have hm:X.length≤cI:=Nat.le_trans h9 (by decide)
 have hl:eM (vR X)=some X.length:=rfl
 obtain⟨fr,wr,a1,a2,a3,a4,a5⟩:∃ fr wr,aY (CC L) run k 2 psC ⟨fr0,[],[]⟩=some ⟨fr,[⟨.live,rep X.length rz⟩],wr⟩∧fr.length=29∧nth fr 0=vR X∧nth fr 5 = .own 0 4 0 X.length true∧nth fr 1=vR Y:=by
  have hrz:rz.length=4:=rfl
  simp[psC,Tryz.f60,aY,e1,e2,e3,af,aH,an,ao,aG,ag,ai,aj,ak,aC,az,FP.none,au,bH,bj,aa,ae,ab,bf,and_assoc,xi,hl,sR,bR,zRz,hm,hrz,bS,aM]
 refine⟨fr,?_⟩
 simp only[a1]
 simp[HG,iv,WQ,seq1,ah,psC,Tryz.f60,a2,a3,a4,a5,af,aH,an,ao,aG,ag,ai,aj,ak,aC,az,FP.none,au,bH,aa,ae,ab,bf,xi,hl]
theorem WN (L:Lst)(run:aq)(k:Nat)(fr:List PV)(hp:List Blk)(wr:List Nat)(p:PV)(h0:fr.length=29)(h3:nth fr 5=p):∃ st,af (CC L) run k (ah 3 psC) ⟨fr,hp,wr⟩=some (.ret,st)∧st.hp=hp∧aZ TT st.fr st.hp Tryz.f60.results.toList=some [p]:=by
 simp[psC,ah,Tryz.f60,h0,h3,af,aH,an,ao,aG,ag,ai,aj,ak,aC,az,FP.none,aa,ab,aZ]
theorem Wi {k:Nat}{x y:Rat}(hx:Rb k x)(hy:Rb k y)(h9:k≤2000000)(h:rcs x=rcs y):x=y:=by
 have h1:rv (some x)=rv (some y):=by rw[oc,oc,h]
 have:=Pf (u:=some x) (v:=some y) hx hy h9 h1
 simpa using this
theorem tW {k:Nat}{X Y:List Rat}(hX:RbL k X)(hY:RbL k Y)(h9:k≤2000000)(h:vR X=vR Y):X=Y:=by
 unfold vR dc at h
 simp only[PV.imm.injEq,true_and] at h
 obtain⟨h1,h2⟩:=h
 clear h1
 induction X generalizing Y with
 | nil=>cases Y with
  | nil=>rfl
  | cons b Y =>
   have:=congrArg List.length h2
   rw[im,im] at this
   simp at this
 | cons a X ih=>cases Y with
  | nil =>
   have:=congrArg List.length h2
   rw[im,im] at this
   simp at this
  | cons b Y =>
   rw[List.flatMap_cons,List.flatMap_cons] at h2
   have h3:=List.append_inj h2 (by rw[cM.len,cM.len])
   rw[Wi (hX a List.mem_cons_self) (hY b List.mem_cons_self) h9 h3.1,ih (fun x hx=>hX x (List.mem_cons_of_mem _ hx)) (fun x hx=>hY x (List.mem_cons_of_mem _ hx)) h3.2]
abbrev VV:=List Rat × List Rat
def eo (X Y:List Rat):List Rat:=List.zipWith (· - ·) X Y
def abj (p:VV):Prop:=RbL 100000 p.1∧RbL 100000 p.2∧p.1.length=p.2.length∧p.1.length≤1000
theorem YK {p q:VV}(hp:abj p)(hq:abj q)(h:[vR p.1,vR p.2]=[vR q.1,vR q.2]):p=q:=by
 simp only[List.cons.injEq,and_true] at h
 exact Prod.ext (tW hp.1 hq.1 (by omega) h.1) (tW hp.2.1 hq.2.1 (by omega) h.2)
noncomputable def IM:List PV→Option (List PV):=ctr (fun p:VV=>[vR p.1,vR p.2]) abj fun p=>[dc true (eo p.1 p.2)]
theorem yF:Ab.Spec base.P 60 IM:=Ab.Spec.bL (C:=CC LR1) (cU xc) fun args rs h=>by
 obtain⟨⟨X,Y⟩,⟨hX,hY,hl,h9⟩,rfl,rfl⟩:=dj h
 dsimp only at hX hY hl h9
 obtain⟨fr,fr1,wr,a1,a2,a3⟩:=aa6 LR1 (runK (CC LR1) (X.length+1)) (X.length+1) X Y h9
 obtain⟨fr2,hp2,wr2,b1,b2,b3,b4⟩:=IP LR1 (runK (CC LR1) (X.length+1)) (X.length+1) X Y h9 hl (fun i h1 h2=>ade rfl _ (u:=some X[i]) (v:=some Y[i]) (hX _ (List.getElem_mem h1)) (hY _ (List.getElem_mem h2)) (by omega)) X.length 0 fr1 [⟨.live,rep X.length rz⟩] wr (by omega) a3 (by simp[aV]) (by simp)
 have hL:af (CC LR1) (runK (CC LR1) (X.length+1)) (X.length+1) (.seq WQ (.block 0 (.loop psB))) ⟨fr,[⟨.live,rep X.length rz⟩],wr⟩=some (.normal,⟨fr2,hp2,wr2⟩):=by
  rw[aw a2];exact bE b1
 obtain⟨st,c1,c2,c3⟩:=WN LR1 (runK (CC LR1) (X.length+1)) (X.length+1) fr2 hp2 wr2 _ b2 b3
 have hx:af (CC LR1) (runK (CC LR1) (X.length+1)) (X.length+1) psC ⟨entry 29 [vR X,vR Y],[],[]⟩=some (.ret,st):=by
  rw[aO 2 a1,aa5,aw hL,c1]
 have hlz:(eo X Y).length=X.length:=by unfold eo;rw[List.length_zipWith];omega
 have ho:=Ih hp2 0 true (eo X Y) b4
 rw[hlz] at ho
 exact⟨_,_,_,_,[dc true (eo X Y)],[0],aQ NJ rfl hx c3,by rw[c2];exact ho,Wk.refl rfl,trivial⟩
theorem wQ (x y:Bool)(X Y:List Rat):aJ [dc x X,dc y Y]=[vR X,vR Y]:=by simp only[aJ,zz]
theorem UL {L:Lst}(hL:bt L 60=fun a=>IM (aJ a))(run:aq)(x y:Bool)(X Y:List Rat){j k:Nat}(hX:RbL j X)(hY:RbL k Y)(hj:j≤100000)(hk:k≤100000)(hl:X.length=Y.length)(h9:X.length≤1000):av L run 60 [dc x X,dc y Y] (dc true (eo X Y)):=fun dr hp =>
 jI VI hL run dr hp _ [vR X,vR Y] [dc true (eo X Y)] rfl (wQ x y X Y) (mK (x:=(X,Y)) (fun p q hp hq h=>by rw[YK hp hq h]) ⟨fun x hx=>(hX x hx).mono hj,fun x hx=>(hY x hx).mono hk,hl,h9⟩)
end Go.Proofs.YtjdmodeenbdfpaaGreat
