/- Contracts of fractions, clouds and predicates, part 40 of the proof; each lemma states its own conditions. -/
import Derived.Test.YtjdmodeenbdfpaaGreatQ39
set_option linter.unusedSimpArgs false
set_option linter.unusedVariables false
namespace Go.Proofs.YtjdmodeenbdfpaaGreat
open Go Go.Ab
theorem xY:base.F.get 22=some Tryz.f22:=by kernel_rfl
theorem Cj:base.shared 22=false:=by kernel_rfl
noncomputable def rkC:Code:=Tryz.f22.body.getD .skip
noncomputable def rkO:Code:=(aF rkC).getD .skip
noncomputable def rkI:Code:=(aF rkO).getD .skip
def RF (fr:List PV)(c:List (List ByteArray))(j:Nat):Prop:=fr.length=58∧nth fr 0=cE c∧nth fr 3=iv j
theorem WS (L:Lst)(run:aq)(k:Nat)(fr:List PV)(c:List (List ByteArray))(j:Nat)(hj:j<c.length)(h:RF fr c j)(h4:nth fr 4=iv c[j].length) :
  ∃ fr',af (CC L) run k rkI ⟨fr,[],[]⟩=some (.exit 2,⟨fr',[],[]⟩)∧RF fr' c j:=by
 obtain⟨h0,h1,h3⟩:=h
 obtain⟨r,x1,x2⟩:=iu uCl c j hj
 have hl:=fM c[j]
 generalize c[j]=p at *
 generalize p.length=m at *
 simp only[iv] at h3 h4
 simp[RF,iv,rkI,rkO,rkC,Tryz.f22,aF,af,aH,an,ao,aG,ag,ai,aj,ak,aC,az,FP.none,aY,au,bf,bK,partOf,aa,ae,ab,bh,h0,h1,h3,h4,x1,x2,hl,uPt,aU,aPt,sPt]
theorem Lu (L:Lst)(run:aq)(k:Nat)(fr:List PV)(c:List (List ByteArray))(j:Nat)(hj:j<c.length)(i:Nat)(hi:i<c[j].length)(h9:c[j].length≤100)(v:Bool)(g:ar L run 23 [.sc (.string c[j][i])] (.sc (.bool v)))(h:RF fr c j)(h4:nth fr 4=iv i) :
  ∃ fr',af (CC L) run k rkI ⟨fr,[],[]⟩=some (bif v then .normal else .ret,⟨fr',[],[]⟩)∧(v=true→RF fr' c j∧nth fr' 4=iv (i+1))∧(v=false→nth fr' 2=iv 1):=by
 obtain⟨h0,h1,h3⟩:=h
 obtain⟨r,x1,x2⟩:=iu uCl c j hj
 obtain⟨r',y1,y2⟩:=DH uPt c[j] i hi
 have hl:=fM c[j]
 have hw:=bJ i (by omega)
 unfold ar at g
 generalize c[j][i]=s at *
 generalize c[j]=p at *
 simp only[iv] at h3 h4
 cases v <;> simp[RF,iv,rkI,rkO,rkC,Tryz.f22,aF,af,aH,an,ao,aG,ag,ai,aO,aj,ak,aC,az,FP.none,aY,au,bf,av,bK,partOf,unP,aa,ae,ab,bh,and_assoc,h0,h1,h3,h4,x1,x2,y1,y2,hl,hi,g,hw,uPt,aU,aPt,sPt,qv,lZ]
theorem CB (L:Lst)(run:aq)(k:Nat)(c:List (List ByteArray))(j:Nat)(hj:j<c.length)(h9:c[j].length≤100)(g:∀ s ∈ c[j],ar L run 23 [.sc (.string s)] (.sc (.bool (pB (IsV s))))):∀ (n i:Nat) (fr:List PV),i+n=c[j].length→RF fr c j→nth fr 4=iv i →
  ∃ fr',ca (af (CC L) run k rkI) (n+1) ⟨fr,[],[]⟩=some (bif (c[j].drop i).all (fun s=>pB (IsV s)) then .exit 2 else .ret,⟨fr',[],[]⟩)∧((c[j].drop i).all (fun s=>pB (IsV s))=true→RF fr' c j)∧((c[j].drop i).all (fun s=>pB (IsV s))=false→nth fr' 2=iv 1)
 | 0,i,fr,hin,h,h4=>by
  have e:i=c[j].length:=by omega
  subst e
  obtain⟨fr',q1,q2⟩:=WS L run k fr c j hj h h4
  rw[List.drop_length]
  exact⟨fr',bz q1,fun _=>q2,nofun⟩
 | n+1,i,fr,hin,h,h4=>by
  have hi:i<c[j].length:=by omega
  obtain⟨fr1,q1,q2,q3⟩:=Lu L run k fr c j hj i hi h9 _ (g _ (List.getElem_mem hi)) h h4
  rw[List.drop_eq_getElem_cons hi,List.all_cons]
  cases hv:pB (IsV c[j][i]) with
  | false =>
   rw[hv] at q1 q3
   exact⟨fr1,eH q1,nofun,fun _=>q3 rfl⟩
  | true =>
   rw[hv] at q1 q2
   obtain⟨a1,a2⟩:=q2 rfl
   obtain⟨fr',s1,s2⟩:=CB L run k c j hj h9 g n (i+1) fr1 (by omega) a1 a2
   rw[Bool.true_and]
   exact⟨fr',by rw[bU q1];exact s1,s2⟩
noncomputable def abB:Code:=seq1 rkO
noncomputable def rkB:Code:=blk (seq1 (cB rkO))
noncomputable def xG:Code:=seq1 rkB
noncomputable def PR:Code:=seq1 (cB rkB)
noncomputable def abA:Code:=cB (cB rkO)
theorem PQ:rkO = .seq abB (.seq (.block 1 (.seq xG (.seq PR (.block 2 (.loop rkI))))) abA):=rfl
theorem WR (L:Lst)(run:aq)(k:Nat)(fr:List PV)(c:List (List ByteArray))(h:RF fr c c.length) :
  ∃ fr',af (CC L) run k rkO ⟨fr,[],[]⟩=some (.exit 0,⟨fr',[],[]⟩)∧fr'.length=58:=by
 obtain⟨h0,h1,h3⟩:=h
 simp only[iv] at h3
 simp[rkO,rkC,Tryz.f22,aF,af,aH,an,ao,aG,ag,ai,aj,ak,aC,az,FP.none,aY,au,bf,bK,aa,ae,ab,bh,fV,h0,h1,h3,uCl]
theorem aeI (L:Lst)(run:aq)(k:Nat)(fr:List PV)(c:List (List ByteArray))(j:Nat)(hj:j<c.length)(h:RF fr c j) :
  ∃ fr1,af (CC L) run k abB ⟨fr,[],[]⟩=some (.normal,⟨fr1,[],[]⟩)∧RF fr1 c j:=by
 obtain⟨h0,h1,h3⟩:=h
 simp only[iv] at h3
 simp[RF,iv,abB,seq1,rkO,rkC,Tryz.f22,aF,af,aH,an,ao,aG,ag,ai,aj,ak,aC,az,FP.none,aY,au,bf,bK,aa,ae,ab,bh,fV,h0,h1,h3,uCl,hj]
theorem lt1 (m:Nat):((m:Int)<1)=(m=0):=by apply propext;omega
set_option maxHeartbeats 1000000 in
theorem WT (L:Lst)(run:aq)(k:Nat)(fr:List PV)(c:List (List ByteArray))(j:Nat)(hj:j<c.length)(hc:0<c.length)(hb:c[j].length=0∨3<c[j].length∨c[j].length≠c[0].length)(h:RF fr c j) :
  ∃ fr',af (CC L) run k xG ⟨fr,[],[]⟩=some (.ret,⟨fr',[],[]⟩)∧nth fr' 2=iv 10:=by
 obtain⟨h0,h1,h3⟩:=h
 obtain⟨r,x1,x2⟩:=iu uCl c 0 hc
 obtain⟨r',y1,y2⟩:=iu uCl c j hj
 rw[show (((0:Nat):Int))=(0:Int) from rfl] at x1
 have hl:=fM c[j]
 have hl2:=fM c[0]
 generalize c[0]=q at *
 generalize c[j]=p at *
 generalize p.length=m at *
 generalize q.length=m0 at *
 simp only[iv] at h3
 by_cases b1:m=0
 ·subst b1
  simp[iv,xG,rkB,blk,seq1,cB,rkO,rkC,Tryz.f22,aF,af,aH,an,ao,aG,ag,ai,aj,ak,aC,az,FP.none,aY,au,bf,av,bK,partOf,aa,ae,ab,bh,h0,h1,h3,hl,uPt,y1,y2,aU,aPt,sPt,undef,number,FP.free]
 ·by_cases b2:3<m
  ·simp[iv,xG,rkB,blk,seq1,cB,rkO,rkC,Tryz.f22,aF,af,aH,an,ao,aG,ag,ai,aj,ak,aC,az,FP.none,aY,au,bf,av,bK,partOf,aa,ae,ab,bh,h0,h1,h3,hl,uPt,y1,y2,aU,aPt,sPt,undef,b1,b2,gt3,lt1,number,FP.free]
  ·have b3:m≠m0:=by rcases hb with hb | hb | hb <;> first | exact absurd hb b1 | exact absurd hb b2 | exact hb
   simp[iv,xG,rkB,blk,seq1,cB,rkO,rkC,Tryz.f22,aF,af,aH,an,ao,aG,ag,ai,aj,ak,aC,az,FP.none,aY,au,bf,av,bK,partOf,aa,ae,ab,bh,EI,h0,h1,h3,hl,hl2,uPt,x1,x2,y1,y2,aU,aPt,sPt,b1,b2,b3,gt3,lt1,number,FP.free]
set_option maxHeartbeats 1000000 in
theorem abC (L:Lst)(run:aq)(k:Nat)(fr:List PV)(c:List (List ByteArray))(j:Nat)(hj:j<c.length)(hc:0<c.length)(b1:c[j].length≠0)(b2 : ¬ 3<c[j].length)(b3:c[j].length=c[0].length)(h:RF fr c j) :
  ∃ fr1 fr',af (CC L) run k xG ⟨fr,[],[]⟩=some (.normal,⟨fr1,[],[]⟩)∧af (CC L) run k PR ⟨fr1,[],[]⟩=some (.normal,⟨fr',[],[]⟩)∧RF fr' c j∧nth fr' 4=iv 0:=by
 obtain⟨h0,h1,h3⟩:=h
 obtain⟨r,x1,x2⟩:=iu uCl c 0 hc
 obtain⟨r',y1,y2⟩:=iu uCl c j hj
 rw[show (((0:Nat):Int))=(0:Int) from rfl] at x1
 have hl:=fM c[j]
 have hl2:=fM c[0]
 rw[← b3] at hl2
 clear b3
 generalize c[0]=q at *
 generalize c[j]=p at *
 generalize p.length=m at *
 simp only[iv] at h3
 obtain⟨fr1,g1,g2,g3,g4⟩:∃ fr1,af (CC L) run k xG ⟨fr,[],[]⟩=some (.normal,⟨fr1,[],[]⟩)∧fr1.length=58∧nth fr1 0=cE c∧nth fr1 3 = .sc (.int .i64 (j:Int)):=by
  simp[xG,rkB,blk,seq1,cB,rkO,rkC,Tryz.f22,aF,af,aH,an,ao,aG,ag,ai,aj,ak,aC,az,FP.none,aY,au,bf,av,bK,partOf,aa,ae,ab,bh,h0,h1,h3,hl,hl2,uPt,x1,x2,y1,y2,aU,aPt,sPt,b1,b2,gt3,lt1,number,FP.free]
 refine⟨fr1,?_⟩
 rw[g1]
 simp[RF,iv,PR,rkB,blk,seq1,cB,rkO,rkC,Tryz.f22,aF,af,aH,an,ao,aG,ag,ai,aj,ak,aC,az,FP.none,av,aa,ae,ab,and_assoc,g2,g3,g4]
theorem aeH (L:Lst)(run:aq)(k:Nat)(fr:List PV)(c:List (List ByteArray))(j:Nat)(hj:j<1000)(h:RF fr c j) :
  ∃ fr',af (CC L) run k abA ⟨fr,[],[]⟩=some (.normal,⟨fr',[],[]⟩)∧RF fr' c (j+1):=by
 obtain⟨h0,h1,h3⟩:=h
 have hw:=bJ j (by omega)
 simp only[iv] at h3
 simp[RF,iv,abA,cB,rkO,rkC,Tryz.f22,aF,af,aH,an,ao,aG,ag,ai,aj,ak,aC,az,FP.none,aY,au,bf,av,aa,ae,ab,h0,h1,h3,hw]
theorem Cz (L:Lst)(run:aq)(k:Nat)(hk:200≤k)(c:List (List ByteArray))(hF:Fit c)(g:∀ s:ByteArray,(bys s).length≤100000→ar L run 23 [.sc (.string s)] (.sc (.bool (pB (IsV s))))):∀ (n j:Nat) (fr:List PV),j+n=c.length→RF fr c j →
  (∃ fr',je (hdL c) (c.drop j)=0∧ca (af (CC L) run k rkO) (n+1) ⟨fr,[],[]⟩=some (.exit 0,⟨fr',[],[]⟩)∧fr'.length=58)∨∃ fr',je (hdL c) (c.drop j)≠0∧ca (af (CC L) run k rkO) (n+1) ⟨fr,[],[]⟩=some (.ret,⟨fr',[],[]⟩)∧nth fr' 2=iv (je (hdL c) (c.drop j))
 | 0,j,fr,hjn,h=>by
  have e:j=c.length:=by omega
  subst e
  obtain⟨fr',q1,q2⟩:=WR L run k fr c h
  rw[List.drop_length]
  exact .inl ⟨fr',rfl,bz q1,q2⟩
 | n+1,j,fr,hjn,h=>by
  have hj:j<c.length:=by omega
  have hc:0<c.length:=by omega
  have hh:hdL c=c[0].length:=by
   cases c with
   | nil=>simp at hc
   | cons p r=>rfl
  obtain⟨fr1,a1,a4⟩:=aeI L run k fr c j hj h
  have hFp:=hF.2 c[j] (List.getElem_mem hj)
  have hFc:=hF.1
  rw[List.drop_eq_getElem_cons hj]
  have run_ret:∀ {fr'},af (CC L) run k (.seq xG (.seq PR (.block 2 (.loop rkI)))) ⟨fr1,[],[]⟩=some (.ret,⟨fr',[],[]⟩)→ca (af (CC L) run k rkO) (n+1+1) ⟨fr,[],[]⟩=some (.ret,⟨fr',[],[]⟩):=by
   intro fr' hr
   refine eH ?_
   rw[PQ,aw a1]
   exact cm (jM hr)
  by_cases hb:c[j].length=0∨3<c[j].length∨c[j].length≠c[0].length
  ·obtain⟨fr',b1,b2⟩:=WT L run k fr1 c j hj hc hb a4
   have hcp:n7 (hdL c) c[j]=10:=by unfold n7;rw[hh,if_pos hb]
   refine .inr ⟨fr',?_,run_ret ?_,?_⟩
   ·rw[je,hcp];simp
   ·rw[cm b1]
   ·rw[je,hcp];exact b2
  ·have n1:c[j].length≠0:=fun e=>hb (.inl e)
   have n2 : ¬ 3<c[j].length:=fun e=>hb (.inr (.inl e))
   have n3:c[j].length=c[0].length:=Classical.byContradiction fun e=>hb (.inr (.inr e))
   obtain⟨fr3,fr4,b1,b2,b3,b6⟩:=abC L run k fr1 c j hj hc n1 n2 n3 a4
   obtain⟨fr5,d1,d2,d3⟩:=CB L run k c j hj hFp.1 (fun s hs=>g s (hFp.2 s hs)) c[j].length 0 fr4 (by omega) b3 b6
   rw[List.drop_zero] at d1 d2 d3
   have hcp:n7 (hdL c) c[j]=bif c[j].all (fun s=>pB (IsV s)) then 0 else 1:=by unfold n7;rw[hh,if_neg hb]
   cases hv:c[j].all (fun s=>pB (IsV s)) with
   | false =>
    rw[hv] at d1 hcp
    have d4:=d3 hv
    refine .inr ⟨fr5,?_,run_ret ?_,?_⟩
    ·rw[je,hcp];simp
    ·rw[aw b1,aw b2]
     exact cW (bT d1 (by omega))
    ·rw[je,hcp];exact d4
   | true =>
    rw[hv] at d1 hcp
    have d4:=d2 hv
    obtain⟨fr6,e1,e2⟩:=aeH L run k fr5 c j (by omega) d4
    have hgo:af (CC L) run k rkO ⟨fr,[],[]⟩=some (.normal,⟨fr6,[],[]⟩):=by
     rw[PQ,aw a1]
     have:af (CC L) run k (.seq xG (.seq PR (.block 2 (.loop rkI)))) ⟨fr1,[],[]⟩=some (.normal,⟨fr5,[],[]⟩):=by
      rw[aw b1,aw b2]
      exact bF (bT d1 (by omega))
     rw[aw (fA this)]
     exact e1
    have hce:je (hdL c) (c[j]::c.drop (j+1))=je (hdL c) (c.drop (j+1)):=by rw[je,hcp];rfl
    rw[hce,bU hgo]
    exact Cz L run k hk c hF g n (j+1) fr6 (by omega) e2
noncomputable def PO:Code:=seq1 (seq1 (ah 2 rkC))
theorem abx:ah 2 rkC = .seq (.seq PO (.block 0 (.loop rkO))) (ah 3 rkC):=rfl
theorem WO (L:Lst)(run:aq)(k:Nat)(c:List (List ByteArray))(h:64<c.length):∃ st,af (CC L) run k rkC ⟨entry 58 [cE c],[],[]⟩=some (.ret,st)∧aV TT st.fr st.hp Tryz.f22.results.toList=some [iv 3]:=by
 obtain⟨e1,e2⟩:=cQ 57 (cE c)
 generalize entry 58 [cE c]=fr0 at *
 have hl:=fV c
 generalize c.length=m at *
 have h2:((m:Int) > 64)=True:=by simp;omega
 have h3:((64:Int)<m)=True:=by simp;omega
 simp[iv,rkC,Tryz.f22,e1,e2,af,aH,an,ao,aG,ag,ai,aj,ak,aC,az,FP.none,aY,au,bf,av,bK,aa,ae,ab,bh,hl,uCl,h2,aV]
theorem abz (L:Lst)(run:aq)(k:Nat)(c:List (List ByteArray))(h : ¬ 64<c.length):∃ fr fr',aX (CC L) run k 2 rkC ⟨entry 58 [cE c],[],[]⟩=some ⟨fr,[],[]⟩∧af (CC L) run k PO ⟨fr,[],[]⟩=some (.normal,⟨fr',[],[]⟩)∧RF fr' c 0:=by
 obtain⟨e1,e2⟩:=cQ 57 (cE c)
 generalize entry 58 [cE c]=fr0 at *
 have hl:=fV c
 have h2:((c.length:Int) > 64)=False:=by simp;omega
 have h3:((64:Int)<c.length)=False:=by simp;omega
 obtain⟨fr,a1,a2,a3⟩:∃ fr,aX (CC L) run k 2 rkC ⟨fr0,[],[]⟩=some ⟨fr,[],[]⟩∧fr.length=58∧nth fr 0=cE c:=by
  simp[rkC,Tryz.f22,aX,e1,e2,af,aH,an,ao,aG,ag,ai,aj,ak,aC,az,FP.none,aY,au,bf,av,bK,aa,ae,ab,bh,hl,uCl,h2]
 refine⟨fr,?_⟩
 rw[a1]
 simp[RF,iv,PO,seq1,ah,rkC,Tryz.f22,a2,a3,af,aH,an,ao,aG,ag,ai,aj,ak,aC,az,FP.none,av,aa,ae,ab]
theorem WN (L:Lst)(run:aq)(k:Nat)(fr:List PV)(h0:fr.length=58):∃ st,af (CC L) run k (ah 3 rkC) ⟨fr,[],[]⟩=some (.ret,st)∧aV TT st.fr st.hp Tryz.f22.results.toList=some [iv 0]:=by
 simp[iv,rkC,ah,Tryz.f22,h0,af,aH,an,ao,aG,ag,ai,aj,ak,aC,az,FP.none,av,aa,aV]
theorem aby (fr:List PV)(n:Nat)(h:nth fr 2=iv n):aV TT fr [] Tryz.f22.results.toList=some [iv n]:=by
 simp[Tryz.f22,aV,h]
theorem WQ (L:Lst)(run:aq)(k:Nat)(hk:200≤k)(c:List (List ByteArray))(hF:Fit c)(g:∀ s:ByteArray,(bys s).length≤100000→ar L run 23 [.sc (.string s)] (.sc (.bool (pB (IsV s))))) :
  ∃ st,af (CC L) run k rkC ⟨entry 58 [cE c],[],[]⟩=some (.ret,st)∧aV TT st.fr st.hp Tryz.f22.results.toList=some [iv (chk c)]:=by
 unfold chk
 by_cases h:64<c.length
 ·rw[if_pos h];exact WO L run k c h
 ·rw[if_neg h]
  obtain⟨fr,fr1,a1,a2,a3⟩:=abz L run k c h
  rw[aM 2 a1,abx]
  have hl:=Cz L run k hk c hF g c.length 0 fr1 (by omega) a3
  rw[List.drop_zero] at hl
  rcases hl with ⟨fr2,h0,b1,b2⟩| ⟨fr3,b0,b1,b2⟩
  ·have:af (CC L) run k (.seq PO (.block 0 (.loop rkO))) ⟨fr,[],[]⟩=some (.normal,⟨fr2,[],[]⟩):=by
    rw[aw a2];exact bF (bT b1 (by have:=hF.1;omega))
   rw[aw this,h0]
   exact WN L run k fr2 b2
  ·have:af (CC L) run k (.seq PO (.block 0 (.loop rkO))) ⟨fr,[],[]⟩=some (.ret,⟨fr3,[],[]⟩):=by
    rw[aw a2];exact cW (bT b1 (by have:=hF.1;omega))
   rw[cm this]
   exact⟨_,rfl,aby fr3 _ b2⟩
noncomputable def LQ5:Lst:=[(77,Ff),(23,PH)]
theorem Vq:dM base.P LQ5:=⟨Fe,Ll,trivial⟩
theorem tY {c d:List (List ByteArray)}(h:[cE c]=[cE d]):c=d:=xn (by simpa using h)
theorem UE:Ab.Spec base.P 80 HJ:=Ab.Spec.bN (C:=CC LQ5) (cU Vq) fun args rs h=>by
 obtain⟨c,hF,rfl,rfl⟩:=db h
 obtain⟨st,x1,x2⟩:=ZR LQ5 (runK (CC LQ5) 200) 200 (by omega) c hF (fun s h9=>aad rfl _ s h9)
 exact⟨201,_,_,_,_,_,aQ E9 rfl x1 x2,rfl,Wk.refl rfl,trivial⟩
theorem yC:Ab.Spec base.P 22 HJ:=Ab.Spec.bN (C:=CC LQ5) (cU Vq) fun args rs h=>by
 obtain⟨c,hF,rfl,rfl⟩:=db h
 obtain⟨st,x1,x2⟩:=WQ LQ5 (runK (CC LQ5) 200) 200 (by omega) c hF (fun s h9=>aeb rfl _ s h9)
 exact⟨201,_,_,_,_,_,aQ xY rfl x1 x2,rfl,Wk.refl rfl,trivial⟩
theorem pj (hp:List Blk)(c:List (List ByteArray)):bq (snap hp bj) [cE c]=some ([cE c],[]):=rfl
theorem nS (c:List (List ByteArray)):aJ [cE c]=[cE c]:=by simp only[aJ,qk]
theorem aaR {L:Lst}(hL:bu L 80=fun a=>HJ (aJ a))(run:aq)(c:List (List ByteArray))(hF:Fit c):ar L run 80 [cE c] (iv (chk c)) :=
 iw Li (e:=fun c=>[cE c]) (f:=fun c=>[iv (chk c)]) hL (fun x y _ _ h=>by rw[tY h]) run c hF (pj · c) (nS c)
theorem Vx {L:Lst}(hL:bu L 22=fun a=>HJ (aJ a))(run:aq)(c:List (List ByteArray))(hF:Fit c):ar L run 22 [cE c] (iv (chk c)) :=
 iw Cj (e:=fun c=>[cE c]) (f:=fun c=>[iv (chk c)]) hL (fun x y _ _ h=>by rw[tY h]) run c hF (pj · c) (nS c)
def rc:Option Rat→List PV
 | none=>[.sc (.bool (bt 0)),aL (aA (Int.natAbs 0)),.sc (.bool (bt 0)),aL (aA (Int.natAbs 0))]
 | some x=>[.sc (.bool (bt x.num)),aL (aA x.num.natAbs),.sc (.bool (bt x.den)),aL (aA (x.den:Int).natAbs)]
theorem yu (u:Option Rat):rv u = .agg (rc u):=by cases u <;> rfl
def rz:List PV:=[.sc (.bool false),.sc (.slice none 0 0),.sc (.bool false),.sc (.slice none 0 0)]
theorem AM (u:Option Rat):(rc u).length=4:=by cases u <;> rfl
theorem pW:Ec 4 rc where
 len:=AM
 okc:=fun u=>by cases u <;> rfl
 can:=fun u=>by
  have h:=qj u
  rw[yu,canon] at h
  simpa using h
 idf:=fun u=>by cases u <;> rfl
 sn:=fun hp d u=>by cases u <;> rfl
def rcs (x:Rat):List PV:=rc (some x)
theorem cO:Ec 4 rcs where
 len:=fun x=>pW.len _
 okc:=fun x=>pW.okc _
 can:=fun x=>pW.can _
 idf:=fun x=>pW.idf _
 sn:=fun hp d x=>pW.sn hp d _
theorem oy (x:Rat):rv (some x) = .agg (rcs x):=rfl
def Rp (p:PV)(u:Option Rat):Prop:=p=rv u∨(u=none∧p = .agg rz)
def Rc (cs:List PV)(u:Option Rat):Prop:=cs=rc u∨(u=none∧cs=rz)
theorem Rc.p {cs:List PV}{u:Option Rat}(h:Rc cs u):Rp (.agg cs) u:=by
 rcases h with rfl | ⟨rfl,rfl⟩
 ·exact .inl (yu u).symm
 ·exact .inr ⟨rfl,rfl⟩
theorem Rc.len {cs:List PV}{u:Option Rat}(h:Rc cs u):cs.length=4:=by
 rcases h with rfl | ⟨rfl,rfl⟩
 ·exact AM u
 ·rfl
theorem Rp.snap {p:PV}{u:Option Rat}(h:Rp p u)(hp:List Blk)(d:Nat):Ab.snap hp (d+2) p=some (p,[]):=by
 rcases h with rfl | ⟨rfl,rfl⟩
 ·exact V6 hp d u
 ·rfl
theorem Rp.canon {p:PV}{u:Option Rat}(h:Rp p u):Ab.canon p=rv u:=by
 rcases h with rfl | ⟨rfl,rfl⟩
 ·exact qj u
 ·rfl
theorem Rp.wk {p:PV}{u:Option Rat}(h:Rp p u):Wk p (rv u):=by
 rcases h with rfl | ⟨rfl,rfl⟩
 ·exact Wk.refl (by cases u <;> rfl)
 ·exact Wk.agg ⟨Wk.refl rfl,Wk.nil false,Wk.refl rfl,Wk.nil false,trivial⟩
theorem Rp.IZ {p:PV}{u:Option Rat}(h:Rp p u)(hp:List Blk):bq (Ab.snap hp bj) [p]=some ([p],[]):=by
 have:=h.snap hp 10
 show bq (Ab.snap hp 12) [p]=_
 simp only[bq,this];rfl
theorem Rp.aaq {p q:PV}{u v:Option Rat}(h:Rp p u)(h':Rp q v)(hp:List Blk):bq (Ab.snap hp bj) [p,q]=some ([p,q],[]):=by
 have h1:=h.snap hp 10
 have h2:=h'.snap hp 10
 show bq (Ab.snap hp 12) [p,q]=_
 simp only[bq,h1,h2];rfl
theorem jf {L:Lst}{g:Nat}{f:List PV→Option (List PV)}(hs:base.shared g=false)(ho:bu L g=fun a=>f (aJ a))(run:aq)(dr:Bool)(hp:List Blk)(args args' rs:List PV)
  (h1:bq (snap hp bj) args=some (args,[])) (h2:aJ args=args') (h3:f args'=some rs):cb (CC L) run dr hp g args=some (gN rs,hp,⟨[],[],false,false⟩):=by
 have h4:(CC L).orc g args=some rs:=by
  show bu L g args=_
  rw[ho];show f (aJ args)=_;rw[h2,h3]
 by_cases h:rs.all dA=true
 ·exact jD hs h1 h4 h
 ·exact ee hs h1 h4 (by simpa using h)
theorem Vt {L:Lst}(hL:bu L 87=fun a=>iT (aJ a))(run:aq){p q:PV}{u v:Option Rat}(hp:Rp p u)(hq:Rp q v){j k:Nat}(hu:Rb j (vv u))(hv:Rb k (vv v))(h:j+k≤1000000):ar L run 87 [p,q] (rv (some (vv u+vv v))):=fun dr hh =>
 jf I5 hL run dr hh _ _ [rv (some (vv u+vv v))] (hp.aaq hq hh) (by simp only[aJ,hp.canon,hq.canon]) (CM hu hv h)
theorem Vr {L:Lst}(hL:bu L 56=fun a=>mq (aJ a))(run:aq){p q:PV}{u v:Option Rat}(hp:Rp p u)(hq:Rp q v){j k:Nat}(hu:Rb j (vv u))(hv:Rb k (vv v))(h:j+k≤1000000):ar L run 56 [p,q] (rv (some (vv u*vv v))):=fun dr hh =>
 jf Wx hL run dr hh _ _ [rv (some (vv u*vv v))] (hp.aaq hq hh) (by simp only[aJ,hp.canon,hq.canon]) (PN hu hv h)
theorem ad8 {L:Lst}(hL:bu L 106=fun a=>j0 (aJ a))(run:aq){p:PV}{u:Option Rat}(hp:Rp p u){j:Nat}(hu:Rb j (vv u))(h:j≤1000000):ar L run 106 [p] (rv (FY u)):=fun dr hh =>
 jf I4 hL run dr hh _ _ [rv (FY u)] (hp.IZ hh) (by simp only[aJ,hp.canon]) (Cy hu h)
theorem aac {L:Lst}(hL:bu L 49=fun a=>jj (aJ a))(run:aq){p:PV}{u:Option Rat}(hp:Rp p u){j:Nat}(hu:Rb j (vv u))(h:j≤1000000):ar L run 49 [p] (Ab.bC (eN (vv u))):=fun dr hh =>
 jf Cm hL run dr hh _ _ [Ab.bC (eN (vv u))] (hp.IZ hh) (by simp only[aJ,hp.canon]) (yw hu h)
def dh (x:Bool)(X:List Rat):PV:=.imm X.length x (X.flatMap rcs)
def vR (X:List Rat):PV:=dh false X
theorem zX (x:Bool)(X:List Rat):canon (dh x X)=vR X:=cO.ZY _ x X rfl
theorem xB:und TT 84=some (.slice 72):=by kernel_rfl
theorem bR:gh TT 72=some 64:=by kernel_rfl
theorem zRz:dV TT 72=some rz:=by kernel_rfl
theorem PA:cR TT 84=some 1:=by kernel_rfl
theorem agq:fW TT 84=some false:=by kernel_rfl
theorem G4 (x:Bool)(X:List Rat):eG (dh x X)=true:=rfl
theorem Ti (id n i:Nat)(x:Bool)(hi:i<n):bg TT 84 (.own id 4 0 n x) (.sc (.int .i64 (i:Int)))=some (.ptr id (i*4)):=by
 simp only[bg,xB,bk,sR,hi,and_self,if_true,Nat.zero_add]
theorem aao (cs rest:List PV)(h:cs.length=4):bE (cs++rest) 4=some cs:=by
 rw[dS (by simp;omega),← h,List.take_left]
theorem wy (x:Bool)(X:List Rat)(i:Nat)(hi:i<X.length):∃ r,bg TT 84 (dh x X) (.sc (.int .i64 (i:Int)))=some (.iptr r)∧bE r 4=some (rcs X[i]):=by
 refine⟨br (X.flatMap rcs) (i*4),?_,?_⟩
 ·unfold dh
  simp only[bg,xB,bk,sR,hi,if_true]
 ·rw[pY cO.toEl X i hi,aao _ _ (cO.len _)]
theorem zc (A:List PV)(m:Nat)(cs:List PV)(h:cs.length=4)(i:Nat)(hi:A.length=i*4):bX (A++rep (m+1) rz) (i*4) cs=some ((A++cs)++rep m rz):=by
 have:=za A (rep (m+1) rz) cs (cs++rep m rz) 0 (vW rz cs (rep m rz) (by rw[h];rfl))
 rw[show A.length+0=i*4 by omega] at this
 rw[this,List.append_assoc]
theorem iA (X:List Rat):(X.flatMap rcs).length=X.length*4:=cO.length X
theorem Io:base.F.get 59=some Tryz.f59:=by kernel_rfl
theorem O8:base.shared 59=false:=by kernel_rfl
noncomputable def prC:Code:=Tryz.f59.body.getD .skip
noncomputable def prB:Code:=(aF prC).getD .skip
def PF (fr:List PV)(P:List ByteArray)(i:Nat):Prop:=fr.length=26∧nth fr 3 = .own 0 4 0 P.length true∧nth fr 9=pE P∧nth fr 10=iv P.length∧nth fr 11=iv i
theorem abU (L:Lst)(run:aq)(k:Nat)(fr:List PV)(hp:List Blk)(wr:List Nat)(P:List ByteArray)(h:PF fr P P.length) :
  ∃ fr',af (CC L) run k prB ⟨fr,hp,wr⟩=some (.exit 0,⟨fr',hp,wr⟩)∧fr'.length=26∧nth fr' 3 = .own 0 4 0 P.length true:=by
 obtain⟨h0,h3,h9,h10,h11⟩:=h
 simp only[iv] at h10 h11
 simp[prB,prC,Tryz.f59,aF,af,aH,an,ao,aG,ag,ai,aj,ak,aC,az,FP.none,aY,au,bf,aa,ae,ab,h0,h3,h10,h11]
set_option maxHeartbeats 1000000 in
theorem RE (L:Lst)(run:aq)(k:Nat)(fr:List PV)(wr:List Nat)(P:List ByteArray)(i m:Nat)(A:List PV)(x:Rat)(hi:i<P.length)(h9':P.length≤1000)(hA:A.length=i*4)(g:ar L run 108 [.sc (.string P[i])] (.tup [rv (some x),.sc (.bool true)]))(h:PF fr P i) :
  ∃ fr' wr',af (CC L) run k prB ⟨fr,[⟨.live,A++rep (m+1) rz⟩],wr⟩=some (.normal,⟨fr',[⟨.live,(A++rcs x)++rep m rz⟩],wr'⟩)∧PF fr' P (i+1):=by
 obtain⟨h0,h3,h9,h10,h11⟩:=h
 obtain⟨r,x1,x2⟩:=DH uPt P i hi
 have x3:=Ti 0 P.length i true hi
 have ho:=zc A m (rcs x) (cO.len x) i hA
 have hw:=bJ i (by omega)
 have hok:=cO.okc x
 have hlen:=cO.len x
 rw[oy] at g
 unfold ar at g
 generalize P[i]=s at *
 generalize rcs x=cs at *
 generalize A++rep (m+1) rz=Z at *
 simp only[iv] at h10 h11
 simp[PF,iv,prB,prC,Tryz.f59,aF,af,aH,an,ao,aG,ag,ai,aO,aj,ak,aC,az,FP.none,aY,au,bf,av,partOf,aa,ae,ab,bh,and_assoc,bm,h0,h3,h9,h10,h11,hi,x1,x2,x3,g,ho,hok,hlen,hw,aU,qv,lZ,sR,aZ,cf,bm]
theorem Jh (L:Lst)(run:aq)(k:Nat)(X:List Rat)(h9:X.length≤1000)(g:∀ x ∈ X,ar L run 108 [.sc (.string (qb x))] (.tup [rv (some x),.sc (.bool true)])):∀ (n i:Nat) (fr:List PV) (wr:List Nat),i+n=X.length→PF fr (X.map qb) i →
  ∃ fr' wr',ca (af (CC L) run k prB) (n+1) ⟨fr,[⟨.live,(X.take i).flatMap rcs++rep n rz⟩],wr⟩=some (.exit 0,⟨fr',[⟨.live,X.flatMap rcs⟩],wr'⟩)∧fr'.length=26∧nth fr' 3 = .own 0 4 0 X.length true
 | 0,i,fr,wr,hin,h=>by
  have e:i=(X.map qb).length:=by simpa using hin
  rw[e] at h
  obtain⟨fr',q1,q2,q3⟩:=abU L run k fr [⟨.live,(X.take i).flatMap rcs++rep 0 rz⟩] wr (X.map qb) h
  have e2:(X.take i).flatMap rcs++rep 0 rz=X.flatMap rcs:=by
   rw[List.take_of_length_le (by omega)];simp[rep]
  rw[e2] at q1 ⊢
  exact⟨fr',wr,bz q1,q2,by rw[q3];simp⟩
 | n+1,i,fr,wr,hin,h=>by
  have hi:i<X.length:=by omega
  have hi':i<(X.map qb).length:=by simpa using hi
  have hg:=g X[i] (List.getElem_mem hi)
  obtain⟨fr1,wr1,q1,q2⟩:=RE L run k fr wr (X.map qb) i n ((X.take i).flatMap rcs) X[i] hi' (by simpa using h9) (by rw[iA,List.length_take,Nat.min_eq_left (by omega)]) (by rw[List.getElem_map];exact hg) h
  obtain⟨fr',wr',s1,s2⟩:=Jh L run k X h9 g n (i+1) fr1 wr1 (by omega) q2
  refine⟨fr',wr',?_,s2⟩
  rw[bU q1]
  have e:(X.take i).flatMap rcs++rcs X[i]=(X.take (i+1)).flatMap rcs:=by
   rw[List.take_succ_eq_append_getElem hi,List.flatMap_append];simp
  rw[e]
  exact s1
noncomputable def Xu:Code:=seq1 (seq1 (ah 2 prC))
theorem abS:ah 2 prC = .seq (.seq Xu (.block 0 (.loop prB))) (ah 3 prC):=rfl
theorem abT (L:Lst)(run:aq)(k:Nat)(P:List ByteArray)(h9:P.length≤1000) :
  ∃ fr fr' wr,aX (CC L) run k 2 prC ⟨entry 26 [pE P],[],[]⟩=some ⟨fr,[⟨.live,rep P.length rz⟩],wr⟩∧af (CC L) run k Xu ⟨fr,[⟨.live,rep P.length rz⟩],wr⟩=some (.normal,⟨fr',[⟨.live,rep P.length rz⟩],wr⟩)∧PF fr' P 0:=by
 obtain⟨e1,e2⟩:=cQ 25 (pE P)
 generalize entry 26 [pE P]=fr0 at *
 have hm:P.length≤cL:=Nat.le_trans h9 (by decide)
 obtain⟨fr,wr,a1,a2,a3,a4⟩:∃ fr wr,aX (CC L) run k 2 prC ⟨fr0,[],[]⟩=some ⟨fr,[⟨.live,rep P.length rz⟩],wr⟩∧fr.length=26∧nth fr 0=pE P∧nth fr 3 = .own 0 4 0 P.length true:=by
  have hrz:rz.length=4:=rfl
  simp[prC,Tryz.f59,aX,e1,e2,af,aH,an,ao,aG,ag,ai,aj,ak,aC,az,FP.none,av,bK,bk,aa,ae,ab,bh,and_assoc,fM,uPt,xB,sR,bR,zRz,hm,hrz,bZ,aP]
 refine⟨fr,?_⟩
 simp only[a1]
 simp[PF,iv,Xu,seq1,ah,prC,Tryz.f59,a2,a3,a4,af,aH,an,ao,aG,ag,ai,aj,ak,aC,az,FP.none,av,bK,aa,ae,ab,bh,fM,uPt]
theorem Xt (L:Lst)(run:aq)(k:Nat)(fr:List PV)(hp:List Blk)(wr:List Nat)(p:PV)(h0:fr.length=26)(h3:nth fr 3=p):∃ st,af (CC L) run k (ah 3 prC) ⟨fr,hp,wr⟩=some (.ret,st)∧st.hp=hp∧aV TT st.fr st.hp Tryz.f59.results.toList=some [p]:=by
 simp[prC,ah,Tryz.f59,h0,h3,af,aH,an,ao,aG,ag,ai,aj,ak,aC,az,FP.none,aa,ab,aV]
theorem IL (hp:List Blk)(id:Nat)(x:Bool)(X:List Rat)(h:aZ hp id=some ⟨.live,X.flatMap rcs⟩):bq (snap hp bj) [.own id 4 0 X.length x]=some ([dh x X],[id]):=by
 have ht:bE (br (X.flatMap rcs) 0) (X.length*4)=some (X.flatMap rcs):=by
  have:=qJ cO.toEl X []
  rw[List.append_nil] at this
  rw[cM,List.drop_zero,this]
 have h1:Ab.snap hp (11+1) (.own id 4 0 X.length x)=some (dh x X,[id]):=by
  rw[Ab.snap]
  simp only[h]
  rw[if_neg (by simp),ht]
  simp only[cO.sns hp 10 X]
  rfl
 show bq (snap hp 12) _=_
 simp only[bq,h1]
 rfl
noncomputable def LR1:Lst:=[(108,rrF),(55,uV),(56,mq),(87,iT),(106,j0),(49,jj),(110,D0)]
theorem xu:dM base.P LR1:=⟨AD,yv,yz,qY,qU,lv,Nq,trivial⟩
def RbL (k:Nat)(X:List Rat):Prop:=∀ x ∈ X,Rb k x
def qL (X:List Rat):PV:=pE (X.map qb)
theorem AZ {X Y:List Rat}(h:qL X=qL Y):X=Y:=by
 have h1:=G1 h
 clear h
 induction X generalizing Y with
 | nil=>cases Y with
  | nil=>rfl
  | cons b Y=>simp at h1
 | cons a X ih=>cases Y with
  | nil=>simp at h1
  | cons b Y =>
   simp only[List.map_cons,List.cons.injEq] at h1
   rw[oG h1.1,ih h1.2]
noncomputable def A0:List PV→Option (List PV):=ctr (fun X:List Rat=>[qL X]) (fun X=>RbL 1000 X∧X.length≤1000) fun X=>[dh true X]
theorem vJ:Ab.Spec base.P 59 A0:=Ab.Spec.bN (C:=CC LR1) (cU xu) fun args rs h=>by
 obtain⟨X,⟨hb,h9⟩,rfl,rfl⟩:=db h
 have hX:(X.map qb).length=X.length:=List.length_map _
 obtain⟨fr,fr1,wr,a1,a2,a3⟩:=abT LR1 (runK (CC LR1) (X.length+1)) (X.length+1) (X.map qb) (by omega)
 obtain⟨fr2,wr2,b1,b2,b3⟩:=Jh LR1 (runK (CC LR1) (X.length+1)) (X.length+1) X h9 (fun x hx=>afS rfl _ (hb x hx) (by omega)) X.length 0 fr1 wr (by omega) a3
 rw[hX] at a1 a2
 have hl:af (CC LR1) (runK (CC LR1) (X.length+1)) (X.length+1) (.seq Xu (.block 0 (.loop prB))) ⟨fr,[⟨.live,rep X.length rz⟩],wr⟩=some (.normal,⟨fr2,[⟨.live,X.flatMap rcs⟩],wr2⟩):=by
  rw[aw a2];exact bF b1
 obtain⟨st,c1,c2,c3⟩:=Xt LR1 (runK (CC LR1) (X.length+1)) (X.length+1) fr2 [⟨.live,X.flatMap rcs⟩] wr2 _ b2 b3
 have hx:af (CC LR1) (runK (CC LR1) (X.length+1)) (X.length+1) prC ⟨entry 26 [pE (X.map qb)],[],[]⟩=some (.ret,st):=by
  rw[aM 2 a1,abS,aw hl,c1]
 exact⟨_,_,_,_,[dh true X],[0],aQ Io rfl hx c3,by rw[c2];exact IL _ 0 true X rfl,Wk.refl rfl,trivial⟩
theorem ud {L:Lst}(hL:bu L 59=fun a=>A0 (aJ a))(run:aq)(X:List Rat)(hb:RbL 1000 X)(h9:X.length≤1000):ar L run 59 [qL X] (dh true X) :=
 iw O8 (e:=fun X=>[qL X]) (f:=fun X=>[dh true X]) hL (fun x y _ _ h=>by rw[AZ (X:=x) (Y:=y) (by simpa using h)]) run X ⟨hb,h9⟩ (fun _=>rfl) (by simp only[aJ,qL,m4])
theorem al1 (hp:List Blk)(z:List PV):aZ (aP hp z) hp.length=some ⟨.live,z⟩:=by rw[bO,if_pos rfl]
theorem al2 (hp:List Blk)(z:List PV)(b:Blk):aZ (cf (aP hp z) hp.length b) hp.length=some b:=by rw[cJ (al1 hp z),if_pos rfl]
theorem al3 (hp:List Blk)(z:List PV)(b:Blk)(i:Nat)(h:i<hp.length):aZ (cf (aP hp z) hp.length b) i=aZ hp i:=by
 rw[cJ (al1 hp z),if_neg (by omega),bO,if_neg (by omega)]
theorem al4 (hp:List Blk)(z:List PV)(b:Blk):(cf (aP hp z) hp.length b).length=hp.length+1:=by rw[bG];simp[aP]
theorem eE (z cs:List PV)(h:z.length=cs.length):bX z 0 cs=some cs:=by
 have:=vW z cs [] h
 simpa using this
theorem eD (cs:List PV)(h:cs.length=4):bE cs 4=some cs:=by have:=aao cs [] h;simpa using this
theorem Oa:base.F.get 60=some Tryz.f60:=by kernel_rfl
theorem Wo:base.shared 60=false:=by kernel_rfl
noncomputable def psC:Code:=Tryz.f60.body.getD .skip
noncomputable def psB:Code:=(aF psC).getD .skip
def H7 (fr:List PV)(X Y:List Rat)(i:Nat):Prop:=fr.length=29∧nth fr 1=vR Y∧nth fr 5 = .own 0 4 0 X.length true∧nth fr 11=vR X∧nth fr 12=iv X.length∧nth fr 13=iv i
theorem abR (L:Lst)(run:aq)(k:Nat)(fr:List PV)(hp:List Blk)(wr:List Nat)(X Y:List Rat)(h:H7 fr X Y X.length) :
  ∃ fr',af (CC L) run k psB ⟨fr,hp,wr⟩=some (.exit 0,⟨fr',hp,wr⟩)∧fr'.length=29∧nth fr' 5 = .own 0 4 0 X.length true:=by
 obtain⟨h0,h1,h5,h11,h12,h13⟩:=h
 simp only[iv] at h12 h13
 simp[psB,psC,Tryz.f60,aF,af,aH,an,ao,aG,ag,ai,aj,ak,aC,az,FP.none,aY,au,bf,aa,ae,ab,h0,h5,h12,h13]
theorem Xr (L:Lst)(run:aq)(k:Nat)(fr:List PV)(hp:List Blk)(wr:List Nat)(X Y:List Rat)(i m:Nat)(A:List PV)(hi:i<X.length)(hy:i<Y.length)(h9':X.length≤1000)(hA:A.length=i*4)(g:ar L run 55 [rv (some X[i]),rv (some Y[i])] (rv (some (X[i] - Y[i]))))(h:H7 fr X Y i)(hb:aZ hp 0=some ⟨.live,A++rep (m+1) rz⟩)(hn:0<hp.length) :
  ∃ fr' hp' wr',af (CC L) run k psB ⟨fr,hp,wr⟩=some (.normal,⟨fr',hp',wr'⟩)∧H7 fr' X Y (i+1)∧aZ hp' 0=some ⟨.live,(A++rcs (X[i] - Y[i]))++rep m rz⟩∧0<hp'.length:=by
 obtain⟨h0,h1,h5,h11,h12,h13⟩:=h
 obtain⟨r,x1,x2⟩:=wy false X i hi
 obtain⟨r',y1,y2⟩:=wy false Y i hy
 have x3:=Ti 0 X.length i true hi
 have ho:=zc A m (rcs (X[i] - Y[i])) (cO.len _) i hA
 have hw:=bJ i (by omega)
 have hx:=al1 hp rz
 have hx1:=eE rz (rcs X[i]) (by rw[cO.len];rfl)
 have hx2:=al2 hp rz ⟨.live,rcs X[i]⟩
 have hx3:=(al3 hp rz ⟨.live,rcs X[i]⟩ 0 hn).trans hb
 have hx4:=eD (rcs X[i]) (cO.len _)
 have hx5:aZ (cf (cf (aP hp rz) hp.length ⟨.live,rcs X[i]⟩) 0 ⟨.live,(A++rcs (X[i] - Y[i]))++rep m rz⟩) 0=some ⟨.live,(A++rcs (X[i] - Y[i]))++rep m rz⟩:=by rw[cJ hx3,if_pos rfl]
 have hx6:0<(cf (cf (aP hp rz) hp.length ⟨.live,rcs X[i]⟩) 0 ⟨.live,(A++rcs (X[i] - Y[i]))++rep m rz⟩).length:=by rw[bG,al4];omega
 have hokx:=cO.okc X[i]
 have hlx:=cO.len X[i]
 have hokd:=cO.okc (X[i] - Y[i])
 have hld:=cO.len (X[i] - Y[i])
 have hn0:hp.length≠0:=by omega
 have hn1:(0=hp.length)=False:=by simp;omega
 rw[oy,oy,oy] at g
 unfold ar at g
 generalize rcs (X[i] - Y[i])=cd at *
 generalize rcs X[i]=cx at *
 generalize rcs Y[i]=cy at *
 generalize A++rep (m+1) rz=Z at *
 generalize A++cd++rep m rz=Z' at *
 simp only[iv] at h12 h13
 have hv1:dh false X=vR X:=rfl
 have hv2:dh false Y=vR Y:=rfl
 rw[hv1] at x1
 rw[hv2] at y1
 have zR':=zRz
 simp[H7,iv,psB,psC,Tryz.f60,aF,af,aH,an,ao,aG,ag,ai,aO,aj,ak,aC,az,FP.none,aY,au,bf,av,partOf,aa,ae,ab,bh,and_assoc,bm,h0,h1,h5,h11,h12,h13,hi,x1,x2,x3,y1,y2,g,ho,hx,hx1,hx2,hx3,hx4,hx5,hx6,hokx,hlx,hokd,hld,hn1,hw,aU,aR,sR,zR',br,number,FP.free,cH,FP.apart]
theorem Jg (L:Lst)(run:aq)(k:Nat)(X Y:List Rat)(h9:X.length≤1000)(hXY:X.length=Y.length)(g:∀ i (h1:i<X.length)(h2:i<Y.length),ar L run 55 [rv (some X[i]),rv (some Y[i])] (rv (some (X[i] - Y[i])))):∀ (n i:Nat) (fr:List PV) (hp:List Blk) (wr:List Nat),i+n=X.length→H7 fr X Y i→aZ hp 0=some ⟨.live,((List.zipWith (· - ·) X Y).take i).flatMap rcs++rep n rz⟩→0<hp.length →
  ∃ fr' hp' wr',ca (af (CC L) run k psB) (n+1) ⟨fr,hp,wr⟩=some (.exit 0,⟨fr',hp',wr'⟩)∧fr'.length=29∧nth fr' 5 = .own 0 4 0 X.length true∧aZ hp' 0=some ⟨.live,(List.zipWith (· - ·) X Y).flatMap rcs⟩
 | 0,i,fr,hp,wr,hin,h,hb,hn=>by
  have e:i=X.length:=by omega
  rw[e] at h
  obtain⟨fr',q1,q2,q3⟩:=abR L run k fr hp wr X Y h
  refine⟨fr',hp,wr,bz q1,q2,q3,?_⟩
  rw[hb,List.take_of_length_le (by rw[List.length_zipWith];omega)];simp[rep]
 | n+1,i,fr,hp,wr,hin,h,hb,hn=>by
  have hi:i<X.length:=by omega
  have hy:i<Y.length:=by omega
  have hz:i<(List.zipWith (· - ·) X Y).length:=by rw[List.length_zipWith];omega
  obtain⟨fr1,hp1,wr1,q1,q2,q3,q4⟩:=Xr L run k fr hp wr X Y i n _ hi hy h9 (by rw[iA,List.length_take,Nat.min_eq_left (by omega)]) (g i hi hy) h hb hn
  obtain⟨fr',hp',wr',s1,s2⟩:=Jg L run k X Y h9 hXY g n (i+1) fr1 hp1 wr1 (by omega) q2 (by
   rw[q3,List.take_succ_eq_append_getElem hz,List.flatMap_append];simp) q4
  exact⟨fr',hp',wr',by rw[bU q1];exact s1,s2⟩
noncomputable def Xs:Code:=seq1 (seq1 (ah 2 psC))
theorem abP:ah 2 psC = .seq (.seq Xs (.block 0 (.loop psB))) (ah 3 psC):=rfl
theorem abQ (L:Lst)(run:aq)(k:Nat)(X Y:List Rat)(h9:X.length≤1000) :
  ∃ fr fr' wr,aX (CC L) run k 2 psC ⟨entry 29 [vR X,vR Y],[],[]⟩=some ⟨fr,[⟨.live,rep X.length rz⟩],wr⟩∧af (CC L) run k Xs ⟨fr,[⟨.live,rep X.length rz⟩],wr⟩=some (.normal,⟨fr',[⟨.live,rep X.length rz⟩],wr⟩)∧H7 fr' X Y 0:=by
 obtain⟨e1,e2,e3⟩:=cn 27 (vR X) (vR Y)
 generalize entry 29 [vR X,vR Y]=fr0 at *
 have hm:X.length≤cL:=Nat.le_trans h9 (by decide)
 have hl:dQ (vR X)=some X.length:=rfl
 obtain⟨fr,wr,a1,a2,a3,a4,a5⟩:∃ fr wr,aX (CC L) run k 2 psC ⟨fr0,[],[]⟩=some ⟨fr,[⟨.live,rep X.length rz⟩],wr⟩∧fr.length=29∧nth fr 0=vR X∧nth fr 5 = .own 0 4 0 X.length true∧nth fr 1=vR Y:=by
  have hrz:rz.length=4:=rfl
  simp[psC,Tryz.f60,aX,e1,e2,e3,af,aH,an,ao,aG,ag,ai,aj,ak,aC,az,FP.none,av,bK,bk,aa,ae,ab,bh,and_assoc,xB,hl,sR,bR,zRz,hm,hrz,bZ,aP]
 refine⟨fr,?_⟩
 simp only[a1]
 simp[H7,iv,Xs,seq1,ah,psC,Tryz.f60,a2,a3,a4,a5,af,aH,an,ao,aG,ag,ai,aj,ak,aC,az,FP.none,av,bK,aa,ae,ab,bh,xB,hl]
theorem Xq (L:Lst)(run:aq)(k:Nat)(fr:List PV)(hp:List Blk)(wr:List Nat)(p:PV)(h0:fr.length=29)(h3:nth fr 5=p):∃ st,af (CC L) run k (ah 3 psC) ⟨fr,hp,wr⟩=some (.ret,st)∧st.hp=hp∧aV TT st.fr st.hp Tryz.f60.results.toList=some [p]:=by
 simp[psC,ah,Tryz.f60,h0,h3,af,aH,an,ao,aG,ag,ai,aj,ak,aC,az,FP.none,aa,ab,aV]
theorem WY {k:Nat}{x y:Rat}(hx:Rb k x)(hy:Rb k y)(h9:k≤2000000)(h:rcs x=rcs y):x=y:=by
 have h1:rv (some x)=rv (some y):=by rw[oy,oy,h]
 have:=abr (u:=some x) (v:=some y) hx hy h9 h1
 simpa using this
theorem uo {k:Nat}{X Y:List Rat}(hX:RbL k X)(hY:RbL k Y)(h9:k≤2000000)(h:vR X=vR Y):X=Y:=by
 unfold vR dh at h
 simp only[PV.imm.injEq,true_and] at h
 obtain⟨h1,h2⟩:=h
 clear h1
 induction X generalizing Y with
 | nil=>cases Y with
  | nil=>rfl
  | cons b Y =>
   have:=congrArg List.length h2
   rw[iA,iA] at this
   simp at this
 | cons a X ih=>cases Y with
  | nil =>
   have:=congrArg List.length h2
   rw[iA,iA] at this
   simp at this
  | cons b Y =>
   rw[List.flatMap_cons,List.flatMap_cons] at h2
   have h3:=List.append_inj h2 (by rw[cO.len,cO.len])
   rw[WY (hX a List.mem_cons_self) (hY b List.mem_cons_self) h9 h3.1,ih (fun x hx=>hX x (List.mem_cons_of_mem _ hx)) (fun x hx=>hY x (List.mem_cons_of_mem _ hx)) h3.2]
abbrev VV:=List Rat × List Rat
def eu (X Y:List Rat):List Rat:=List.zipWith (· - ·) X Y
def ace (p:VV):Prop:=RbL 100000 p.1∧RbL 100000 p.2∧p.1.length=p.2.length∧p.1.length≤1000
theorem Zw {p q:VV}(hp:ace p)(hq:ace q)(h:[vR p.1,vR p.2]=[vR q.1,vR q.2]):p=q:=by
 simp only[List.cons.injEq,and_true] at h
 exact Prod.ext (uo hp.1 hq.1 (by omega) h.1) (uo hp.2.1 hq.2.1 (by omega) h.2)
noncomputable def Jf:List PV→Option (List PV):=ctr (fun p:VV=>[vR p.1,vR p.2]) ace fun p=>[dh true (eu p.1 p.2)]
theorem yY:Ab.Spec base.P 60 Jf:=Ab.Spec.bN (C:=CC LR1) (cU xu) fun args rs h=>by
 obtain⟨⟨X,Y⟩,⟨hX,hY,hl,h9⟩,rfl,rfl⟩:=db h
 dsimp only at hX hY hl h9
 obtain⟨fr,fr1,wr,a1,a2,a3⟩:=abQ LR1 (runK (CC LR1) (X.length+1)) (X.length+1) X Y h9
 obtain⟨fr2,hp2,wr2,b1,b2,b3,b4⟩:=Jg LR1 (runK (CC LR1) (X.length+1)) (X.length+1) X Y h9 hl (fun i h1 h2=>aec rfl _ (u:=some X[i]) (v:=some Y[i]) (hX _ (List.getElem_mem h1)) (hY _ (List.getElem_mem h2)) (by omega)) X.length 0 fr1 [⟨.live,rep X.length rz⟩] wr (by omega) a3 (by simp[aZ]) (by simp)
 have hL:af (CC LR1) (runK (CC LR1) (X.length+1)) (X.length+1) (.seq Xs (.block 0 (.loop psB))) ⟨fr,[⟨.live,rep X.length rz⟩],wr⟩=some (.normal,⟨fr2,hp2,wr2⟩):=by
  rw[aw a2];exact bF b1
 obtain⟨st,c1,c2,c3⟩:=Xq LR1 (runK (CC LR1) (X.length+1)) (X.length+1) fr2 hp2 wr2 _ b2 b3
 have hx:af (CC LR1) (runK (CC LR1) (X.length+1)) (X.length+1) psC ⟨entry 29 [vR X,vR Y],[],[]⟩=some (.ret,st):=by
  rw[aM 2 a1,abP,aw hL,c1]
 have hlz:(eu X Y).length=X.length:=by unfold eu;rw[List.length_zipWith];omega
 have ho:=IL hp2 0 true (eu X Y) b4
 rw[hlz] at ho
 exact⟨_,_,_,_,[dh true (eu X Y)],[0],aQ Oa rfl hx c3,by rw[c2];exact ho,Wk.refl rfl,trivial⟩
theorem xg (x y:Bool)(X Y:List Rat):aJ [dh x X,dh y Y]=[vR X,vR Y]:=by simp only[aJ,zX]
theorem Vy {L:Lst}(hL:bu L 60=fun a=>Jf (aJ a))(run:aq)(x y:Bool)(X Y:List Rat){j k:Nat}(hX:RbL j X)(hY:RbL k Y)(hj:j≤100000)(hk:k≤100000)(hl:X.length=Y.length)(h9:X.length≤1000):ar L run 60 [dh x X,dh y Y] (dh true (eu X Y)):=fun dr hp =>
 jf Wo hL run dr hp _ [vR X,vR Y] [dh true (eu X Y)] rfl (xg x y X Y) (mZ (x:=(X,Y)) (fun p q hp hq h=>by rw[Zw hp hq h]) ⟨fun x hx=>(hX x hx).mono hj,fun x hx=>(hY x hx).mono hk,hl,h9⟩)
end Go.Proofs.YtjdmodeenbdfpaaGreat
