/- Contracts of fractions, clouds and predicates, part 38 of the proof; each lemma states its own conditions. -/
import Derived.Test.YtjdmodeenbdfpaaGreatR37
set_option linter.unusedSimpArgs false
set_option linter.unusedVariables false
namespace Go.Proofs.YtjdmodeenbdfpaaGreat
open Go Go.Ab
noncomputable def adI:Code:=seq1 ckO
noncomputable def adH:Code:=seq1 (cA ckO)
noncomputable def ckB:Code:=blk (seq1 (cA (cA ckO)))
noncomputable def Ug:Code:=seq1 ckB
noncomputable def xy:Code:=seq1 (cA ckB)
noncomputable def Uf:Code:=seq1 (cA (cA ckB))
noncomputable def Ue:Code:=cA (cA (cA ckO))
theorem Ud:ckO = .seq adI (.seq adH (.seq (.block 1 (.seq Ug (.seq xy (.seq Uf (.block 2 (.loop ckI)))))) Ue)):=rfl
theorem ZW (L:Lst)(run:ar)(k:Nat)(fr:List PV)(c:List (List ByteArray))(h:CF fr c c.length) :
  ∃ fr',af (CC L) run k ckO ⟨fr,[],[]⟩=some (.exit 0,⟨fr',[],[]⟩)∧fr'.length=44:=by
 obtain⟨h0,h1,h10,h11,h12⟩:=h
 simp only[iv] at h11 h12
 simp[ckO,ckC,Tryz.f80,az,af,aJ,ao,aq,aH,ag,ai,aj,an,aF,aC,FP.none,bd,au,bj,aa,ab,h0,h11,h12]
theorem afp (L:Lst)(run:ar)(k:Nat)(fr:List PV)(c:List (List ByteArray))(j:Nat)(hj:j<c.length)(h:CF fr c j) :
  ∃ fr1 fr2,af (CC L) run k adI ⟨fr,[],[]⟩=some (.normal,⟨fr1,[],[]⟩)∧af (CC L) run k adH ⟨fr1,[],[]⟩=some (.normal,⟨fr1,[],[]⟩)∧af (CC L) run k Ug ⟨fr1,[],[]⟩=some (.normal,⟨fr2,[],[]⟩)∧CF fr2 c j∧nth fr2 4=pE c[j]:=by
 obtain⟨h0,h1,h10,h11,h12⟩:=h
 obtain⟨r,x1,x2⟩:=jP uCl c j hj
 generalize c[j]=p at *
 simp only[iv] at h11 h12
 refine⟨fm fr 13 (.sc (.bool true)),?_⟩
 simp[CF,iv,adI,adH,Ug,ckB,blk,seq1,cA,ckO,ckC,Tryz.f80,az,af,aJ,ao,aq,aH,ag,ai,aj,an,aF,aC,FP.none,bd,au,bj,partOf,aa,ae,ab,bh,and_assoc,h0,h1,h10,h11,h12,hj,x1,x2,aU,aPt,sPt]
theorem adp (m:Nat):((m:Int) == 0)=decide (m=0):=by
 by_cases h:m=0
 ·subst h;rfl
 ·rw[decide_eq_false h,beq_eq_false_iff_ne];omega
theorem gt3 (m:Nat):((m:Int) > 3)=(3<m):=by apply propext;omega
set_option maxHeartbeats 1000000 in
theorem ZY (L:Lst)(run:ar)(k:Nat)(fr:List PV)(c:List (List ByteArray))(j:Nat)(p:List ByteArray)(hc:0<c.length)(hb:p.length=0∨3<p.length∨p.length≠c[0].length)(h:CF fr c j)(h4:nth fr 4=pE p) :
  ∃ fr',af (CC L) run k xy ⟨fr,[],[]⟩=some (.ret,⟨fr',[],[]⟩)∧nth fr' 2=iv 10:=by
 obtain⟨h0,h1,h10,h11,h12⟩:=h
 obtain⟨r,x1,x2⟩:=jP uCl c 0 hc
 rw[show (((0:Nat):Int))=(0:Int) from rfl] at x1
 generalize c[0]=q at *
 have hl:=fQ p
 have hl2:=fQ q
 generalize p.length=m at *
 generalize q.length=m0 at *
 by_cases b1:m=0
 ·subst b1
  simp[iv,xy,ckB,blk,seq1,cA,ckO,ckC,Tryz.f80,az,af,aJ,ao,aq,aH,ag,ai,aj,an,aF,aC,FP.none,bd,au,bj,aw,bM,aa,ae,ab,bh,h0,h4,hl,uPt,undef]
 ·by_cases b2:3<m
  ·simp[iv,xy,ckB,blk,seq1,cA,ckO,ckC,Tryz.f80,az,af,aJ,ao,aq,aH,ag,ai,aj,an,aF,aC,FP.none,bd,au,bj,aw,bM,aa,ae,ab,bh,h0,h4,hl,uPt,undef,b1,b2,adp,gt3]
  ·have b3:m≠m0:=by rcases hb with hb | hb | hb <;> first | exact absurd hb b1 | exact absurd hb b2 | exact hb
   simp[iv,xy,ckB,blk,seq1,cA,ckO,ckC,Tryz.f80,az,af,aJ,ao,aq,aH,ag,ai,aj,an,aF,aC,FP.none,bd,au,bj,aw,bM,partOf,aa,ae,ab,bh,DN,h0,h1,h4,hl,hl2,uPt,x1,x2,aU,aPt,sPt,b1,b2,b3,adp,gt3]
set_option maxHeartbeats 1000000 in
theorem adJ (L:Lst)(run:ar)(k:Nat)(fr:List PV)(c:List (List ByteArray))(j:Nat)(p:List ByteArray)(hc:0<c.length)(b1:p.length≠0)(b2 : ¬ 3<p.length)(b3:p.length=c[0].length)(h:CF fr c j)(h4:nth fr 4=pE p) :
  ∃ fr1 fr',af (CC L) run k xy ⟨fr,[],[]⟩=some (.normal,⟨fr1,[],[]⟩)∧af (CC L) run k Uf ⟨fr1,[],[]⟩=some (.normal,⟨fr',[],[]⟩)∧CF fr' c j∧nth fr' 33=pE p∧nth fr' 34=iv p.length∧nth fr' 35=iv 0:=by
 obtain⟨h0,h1,h10,h11,h12⟩:=h
 obtain⟨r,x1,x2⟩:=jP uCl c 0 hc
 rw[show (((0:Nat):Int))=(0:Int) from rfl] at x1
 generalize c[0]=q at *
 have hl:=fQ p
 have hl2:=fQ q
 rw[← b3] at hl2
 clear b3
 generalize p.length=m at *
 obtain⟨fr1,g1,g2,g3,g4⟩:∃ fr1,af (CC L) run k xy ⟨fr,[],[]⟩=some (.normal,⟨fr1,[],[]⟩)∧CF fr1 c j∧nth fr1 4=pE p∧True:=by
  simp only[CF]
  simp[h10,h11,h12,xy,ckB,blk,seq1,cA,ckO,ckC,Tryz.f80,az,af,aJ,ao,aq,aH,ag,ai,aj,an,aF,aC,FP.none,bd,au,bj,aw,bM,partOf,aa,ae,ab,bh,and_assoc,h0,h1,h4,hl,hl2,uPt,x1,x2,aU,aPt,sPt,b1,b2,adp,gt3]
 obtain⟨k0,k1,k10,k11,k12⟩:=g2
 refine⟨fr1,?_⟩
 rw[g1]
 simp[CF,iv,Uf,ckB,blk,seq1,cA,ckO,ckC,Tryz.f80,az,af,aJ,ao,aq,aH,ag,ai,aj,an,aF,aC,FP.none,aw,bM,aa,ae,ab,bh,and_assoc,k0,k1,k10,k11,k12,g3,hl,uPt]
theorem afo (L:Lst)(run:ar)(k:Nat)(fr:List PV)(c:List (List ByteArray))(j:Nat)(hj:j<1000)(h:CF fr c j) :
  ∃ fr',af (CC L) run k Ue ⟨fr,[],[]⟩=some (.normal,⟨fr',[],[]⟩)∧CF fr' c (j+1):=by
 obtain⟨h0,h1,h10,h11,h12⟩:=h
 have hw:=bE j (by omega)
 simp only[iv] at h11 h12
 simp[CF,iv,Ue,cA,ckO,ckC,Tryz.f80,az,af,aJ,ao,aq,aH,ag,ai,aj,an,aF,aC,FP.none,bd,au,bj,aw,aa,ae,ab,h0,h1,h10,h11,h12,hw]
theorem Dy (L:Lst)(run:ar)(k:Nat)(hk:200≤k)(c:List (List ByteArray))(hF:Fit c)(g:∀ s:ByteArray,(bys s).length≤100000→aA L run 77 [.sc (.string s)] (.sc (.bool (pB (IsV s))))):∀ (n j:Nat) (fr:List PV),j+n=c.length→CF fr c j →
  (∃ fr',jx (hdL c) (c.drop j)=0∧cl (af (CC L) run k ckO) (n+1) ⟨fr,[],[]⟩=some (.exit 0,⟨fr',[],[]⟩)∧fr'.length=44)∨∃ fr',jx (hdL c) (c.drop j)≠0∧cl (af (CC L) run k ckO) (n+1) ⟨fr,[],[]⟩=some (.ret,⟨fr',[],[]⟩)∧nth fr' 2=iv (jx (hdL c) (c.drop j))
 | 0,j,fr,hjn,h=>by
  have e:j=c.length:=by omega
  subst e
  obtain⟨fr',q1,q2⟩:=ZW L run k fr c h
  rw[List.drop_length]
  exact .inl ⟨fr',rfl,bD q1,q2⟩
 | n+1,j,fr,hjn,h=>by
  have hj:j<c.length:=by omega
  have hc:0<c.length:=by omega
  have hh:hdL c=c[0].length:=by
   cases c with
   | nil=>simp at hc
   | cons p r=>rfl
  obtain⟨fr1,fr2,a1,a2,a3,a4,a5⟩:=afp L run k fr c j hj h
  have hFp:=hF.2 c[j] (List.getElem_mem hj)
  have hFc:=hF.1
  rw[List.drop_eq_getElem_cons hj]
  have run_ret:∀ {fr'},af (CC L) run k (.seq Ug (.seq xy (.seq Uf (.block 2 (.loop ckI))))) ⟨fr1,[],[]⟩=some (.ret,⟨fr',[],[]⟩)→cl (af (CC L) run k ckO) (n+1+1) ⟨fr,[],[]⟩=some (.ret,⟨fr',[],[]⟩):=by
   intro fr' hr
   refine eF ?_
   rw[Ud,av a1,av a2]
   exact cB (jQ hr)
  by_cases hb:c[j].length=0∨3<c[j].length∨c[j].length≠c[0].length
  ·obtain⟨fr',b1,b2⟩:=ZY L run k fr2 c j c[j] hc hb a4 a5
   have hcp:qp (hdL c) c[j]=10:=by unfold qp;rw[hh,if_pos hb]
   refine .inr ⟨fr',?_,run_ret ?_,?_⟩
   ·rw[jx,hcp];simp
   ·rw[av a3,cB b1]
   ·rw[jx,hcp];exact b2
  ·have n1:c[j].length≠0:=fun e=>hb (.inl e)
   have n2 : ¬ 3<c[j].length:=fun e=>hb (.inr (.inl e))
   have n3:c[j].length=c[0].length:=Classical.byContradiction fun e=>hb (.inr (.inr e))
   obtain⟨fr3,fr4,b1,b2,b3,b4,b5,b6⟩:=adJ L run k fr2 c j c[j] hc n1 n2 n3 a4 a5
   obtain⟨fr5,d1,d2,d3⟩:=Dz L run k c j c[j] hFp.1 (fun s hs=>g s (hFp.2 s hs)) c[j].length 0 fr4 (by omega) b3 b4 b5 b6
   rw[List.drop_zero] at d1 d2 d3
   have hcp:qp (hdL c) c[j]=bif c[j].all (fun s=>pB (IsV s)) then 0 else 1:=by unfold qp;rw[hh,if_neg hb]
   cases hv:c[j].all (fun s=>pB (IsV s)) with
   | false =>
    rw[hv] at d1 hcp
    have d4:=d3 hv
    refine .inr ⟨fr5,?_,run_ret ?_,?_⟩
    ·rw[jx,hcp];simp
    ·rw[av a3,av b1,av b2]
     exact da (ca d1 (by omega))
    ·rw[jx,hcp];exact d4
   | true =>
    rw[hv] at d1 hcp
    have d4:=d2 hv
    obtain⟨fr6,e1,e2⟩:=afo L run k fr5 c j (by omega) d4
    have hgo:af (CC L) run k ckO ⟨fr,[],[]⟩=some (.normal,⟨fr6,[],[]⟩):=by
     rw[Ud,av a1,av a2]
     have:af (CC L) run k (.seq Ug (.seq xy (.seq Uf (.block 2 (.loop ckI))))) ⟨fr1,[],[]⟩=some (.normal,⟨fr5,[],[]⟩):=by
      rw[av a3,av b1,av b2]
      exact bH (ca d1 (by omega))
     rw[av (dW this)]
     exact e1
    have hce:jx (hdL c) (c[j]::c.drop (j+1))=jx (hdL c) (c.drop (j+1)):=by rw[jx,hcp];rfl
    rw[hce,ch hgo]
    exact Dy L run k hk c hF g n (j+1) fr6 (by omega) e2
noncomputable def Uc:Code:=seq1 (seq1 (ah 2 ckC))
theorem adE:ah 2 ckC = .seq (.seq Uc (.block 0 (.loop ckO))) (ah 3 ckC):=rfl
theorem ZU (L:Lst)(run:ar)(k:Nat)(c:List (List ByteArray))(h:64<c.length):∃ st,af (CC L) run k ckC ⟨entry 44 [cE c],[],[]⟩=some (.ret,st)∧aZ TT st.fr st.hp Tryz.f80.results.toList=some [iv 3]:=by
 obtain⟨e1,e2⟩:=cW 43 (cE c)
 generalize entry 44 [cE c]=fr0 at *
 have hl:=iz c
 generalize c.length=m at *
 have h2:((m:Int) > 64)=True:=by simp;omega
 have h3:((64:Int)<m)=True:=by simp;omega
 simp[iv,ckC,Tryz.f80,e1,e2,af,aJ,ao,aq,aH,ag,ai,aj,an,aF,aC,FP.none,bd,au,bj,aw,bM,aa,ae,ab,bh,hl,uCl,h2,aZ]
theorem adG (L:Lst)(run:ar)(k:Nat)(c:List (List ByteArray))(h : ¬ 64<c.length):∃ fr fr',aY (CC L) run k 2 ckC ⟨entry 44 [cE c],[],[]⟩=some ⟨fr,[],[]⟩∧af (CC L) run k Uc ⟨fr,[],[]⟩=some (.normal,⟨fr',[],[]⟩)∧CF fr' c 0:=by
 obtain⟨e1,e2⟩:=cW 43 (cE c)
 generalize entry 44 [cE c]=fr0 at *
 have hl:=iz c
 have h2:((c.length:Int) > 64)=False:=by simp;omega
 have h3:((64:Int)<c.length)=False:=by simp;omega
 obtain⟨fr,a1,a2,a3⟩:∃ fr,aY (CC L) run k 2 ckC ⟨fr0,[],[]⟩=some ⟨fr,[],[]⟩∧fr.length=44∧nth fr 0=cE c:=by
  simp[ckC,Tryz.f80,aY,e1,e2,af,aJ,ao,aq,aH,ag,ai,aj,an,aF,aC,FP.none,bd,au,bj,aw,bM,aa,ae,ab,bh,hl,uCl,h2]
 refine⟨fr,?_⟩
 rw[a1]
 simp[CF,iv,Uc,seq1,ah,ckC,Tryz.f80,a2,a3,af,aJ,ao,aq,aH,ag,ai,aj,an,aF,aC,FP.none,aw,bM,aa,ae,ab,bh,hl,uCl]
theorem ZT (L:Lst)(run:ar)(k:Nat)(fr:List PV)(h0:fr.length=44):∃ st,af (CC L) run k (ah 3 ckC) ⟨fr,[],[]⟩=some (.ret,st)∧aZ TT st.fr st.hp Tryz.f80.results.toList=some [iv 0]:=by
 simp[iv,ckC,ah,Tryz.f80,h0,af,aJ,ao,aq,aH,ag,ai,aj,an,aF,aC,FP.none,aw,aa,aZ]
theorem adF (fr:List PV)(n:Nat)(h:nth fr 2=iv n):aZ TT fr [] Tryz.f80.results.toList=some [iv n]:=by
 simp[Tryz.f80,aZ,h]
noncomputable def Hc:List PV→Option (List PV):=ctr (fun c=>[cE c]) Fit fun c=>[iv (chk c)]
theorem ZV (L:Lst)(run:ar)(k:Nat)(hk:200≤k)(c:List (List ByteArray))(hF:Fit c)(g:∀ s:ByteArray,(bys s).length≤100000→aA L run 77 [.sc (.string s)] (.sc (.bool (pB (IsV s))))) :
  ∃ st,af (CC L) run k ckC ⟨entry 44 [cE c],[],[]⟩=some (.ret,st)∧aZ TT st.fr st.hp Tryz.f80.results.toList=some [iv (chk c)]:=by
 unfold chk
 by_cases h:64<c.length
 ·rw[if_pos h];exact ZU L run k c h
 ·rw[if_neg h]
  obtain⟨fr,fr1,a1,a2,a3⟩:=adG L run k c h
  rw[aP 2 a1,adE]
  have hl:=Dy L run k hk c hF g c.length 0 fr1 (by omega) a3
  rw[List.drop_zero] at hl
  rcases hl with ⟨fr2,h0,b1,b2⟩| ⟨fr3,b0,b1,b2⟩
  ·have:af (CC L) run k (.seq Uc (.block 0 (.loop ckO))) ⟨fr,[],[]⟩=some (.normal,⟨fr2,[],[]⟩):=by
    rw[av a2];exact bH (ca b1 (by have:=hF.1;omega))
   rw[av this,h0]
   exact ZT L run k fr2 b2
  ·have:af (CC L) run k (.seq Uc (.block 0 (.loop ckO))) ⟨fr,[],[]⟩=some (.ret,⟨fr3,[],[]⟩):=by
    rw[av a2];exact da (ca b1 (by have:=hF.1;omega))
   rw[cB this]
   exact⟨_,rfl,adF fr3 _ b2⟩
theorem xD:base.F.get 22=some Tryz.f22:=by kernel_rfl
theorem BD:base.shared 22=false:=by kernel_rfl
noncomputable def rkC:Code:=Tryz.f22.body.getD .skip
noncomputable def rkO:Code:=(az rkC).getD .skip
noncomputable def rkI:Code:=(az rkO).getD .skip
def RF (fr:List PV)(c:List (List ByteArray))(j:Nat):Prop:=fr.length=58∧nth fr 0=cE c∧nth fr 3=iv j
theorem Wp (L:Lst)(run:ar)(k:Nat)(fr:List PV)(c:List (List ByteArray))(j:Nat)(hj:j<c.length)(h:RF fr c j)(h4:nth fr 4=iv c[j].length) :
  ∃ fr',af (CC L) run k rkI ⟨fr,[],[]⟩=some (.exit 2,⟨fr',[],[]⟩)∧RF fr' c j:=by
 obtain⟨h0,h1,h3⟩:=h
 obtain⟨r,x1,x2⟩:=jP uCl c j hj
 have hl:=fQ c[j]
 generalize c[j]=p at *
 generalize p.length=m at *
 simp only[iv] at h3 h4
 simp[RF,iv,rkI,rkO,rkC,Tryz.f22,az,af,aJ,ao,aq,aH,ag,ai,aj,an,aF,aC,FP.none,bd,au,bj,bM,partOf,aa,ae,ab,bh,h0,h1,h3,h4,x1,x2,hl,uPt,aU,aPt,sPt]
theorem KM (L:Lst)(run:ar)(k:Nat)(fr:List PV)(c:List (List ByteArray))(j:Nat)(hj:j<c.length)(i:Nat)(hi:i<c[j].length)(h9:c[j].length≤100)(v:Bool)(g:aA L run 23 [.sc (.string c[j][i])] (.sc (.bool v)))(h:RF fr c j)(h4:nth fr 4=iv i) :
  ∃ fr',af (CC L) run k rkI ⟨fr,[],[]⟩=some (bif v then .normal else .ret,⟨fr',[],[]⟩)∧(v=true→RF fr' c j∧nth fr' 4=iv (i+1))∧(v=false→nth fr' 2=iv 1):=by
 obtain⟨h0,h1,h3⟩:=h
 obtain⟨r,x1,x2⟩:=jP uCl c j hj
 obtain⟨r',y1,y2⟩:=IX uPt c[j] i hi
 have hl:=fQ c[j]
 have hw:=bE i (by omega)
 unfold aA at g
 generalize c[j][i]=s at *
 generalize c[j]=p at *
 simp only[iv] at h3 h4
 cases v <;> simp[RF,iv,rkI,rkO,rkC,Tryz.f22,az,af,aJ,ao,aq,aH,ag,ai,aQ,aj,an,aF,aC,FP.none,bd,au,bj,aw,bM,partOf,unP,aa,ae,ab,bh,and_assoc,h0,h1,h3,h4,x1,x2,y1,y2,hl,hi,g,hw,uPt,aU,aPt,sPt,DS,xZ]
theorem BR (L:Lst)(run:ar)(k:Nat)(c:List (List ByteArray))(j:Nat)(hj:j<c.length)(h9:c[j].length≤100)(g:∀ s ∈ c[j],aA L run 23 [.sc (.string s)] (.sc (.bool (pB (IsV s))))):∀ (n i:Nat) (fr:List PV),i+n=c[j].length→RF fr c j→nth fr 4=iv i →
  ∃ fr',cl (af (CC L) run k rkI) (n+1) ⟨fr,[],[]⟩=some (bif (c[j].drop i).all (fun s=>pB (IsV s)) then .exit 2 else .ret,⟨fr',[],[]⟩)∧((c[j].drop i).all (fun s=>pB (IsV s))=true→RF fr' c j)∧((c[j].drop i).all (fun s=>pB (IsV s))=false→nth fr' 2=iv 1)
 | 0,i,fr,hin,h,h4=>by
  have e:i=c[j].length:=by omega
  subst e
  obtain⟨fr',q1,q2⟩:=Wp L run k fr c j hj h h4
  rw[List.drop_length]
  exact⟨fr',bD q1,fun _=>q2,nofun⟩
 | n+1,i,fr,hin,h,h4=>by
  have hi:i<c[j].length:=by omega
  obtain⟨fr1,q1,q2,q3⟩:=KM L run k fr c j hj i hi h9 _ (g _ (List.getElem_mem hi)) h h4
  rw[List.drop_eq_getElem_cons hi,List.all_cons]
  cases hv:pB (IsV c[j][i]) with
  | false =>
   rw[hv] at q1 q3
   exact⟨fr1,eF q1,nofun,fun _=>q3 rfl⟩
  | true =>
   rw[hv] at q1 q2
   obtain⟨a1,a2⟩:=q2 rfl
   obtain⟨fr',s1,s2⟩:=BR L run k c j hj h9 g n (i+1) fr1 (by omega) a1 a2
   rw[Bool.true_and]
   exact⟨fr',by rw[ch q1];exact s1,s2⟩
noncomputable def abj:Code:=seq1 rkO
noncomputable def rkB:Code:=blk (seq1 (cA rkO))
noncomputable def xm:Code:=seq1 rkB
noncomputable def Pb:Code:=seq1 (cA rkB)
noncomputable def abi:Code:=cA (cA rkO)
theorem Pa:rkO = .seq abj (.seq (.block 1 (.seq xm (.seq Pb (.block 2 (.loop rkI))))) abi):=rfl
theorem Wo (L:Lst)(run:ar)(k:Nat)(fr:List PV)(c:List (List ByteArray))(h:RF fr c c.length) :
  ∃ fr',af (CC L) run k rkO ⟨fr,[],[]⟩=some (.exit 0,⟨fr',[],[]⟩)∧fr'.length=58:=by
 obtain⟨h0,h1,h3⟩:=h
 simp only[iv] at h3
 simp[rkO,rkC,Tryz.f22,az,af,aJ,ao,aq,aH,ag,ai,aj,an,aF,aC,FP.none,bd,au,bj,bM,aa,ae,ab,bh,iz,h0,h1,h3,uCl]
theorem aeG (L:Lst)(run:ar)(k:Nat)(fr:List PV)(c:List (List ByteArray))(j:Nat)(hj:j<c.length)(h:RF fr c j) :
  ∃ fr1,af (CC L) run k abj ⟨fr,[],[]⟩=some (.normal,⟨fr1,[],[]⟩)∧RF fr1 c j:=by
 obtain⟨h0,h1,h3⟩:=h
 simp only[iv] at h3
 simp[RF,iv,abj,seq1,rkO,rkC,Tryz.f22,az,af,aJ,ao,aq,aH,ag,ai,aj,an,aF,aC,FP.none,bd,au,bj,bM,aa,ae,ab,bh,iz,h0,h1,h3,uCl,hj]
theorem lt1 (m:Nat):((m:Int)<1)=(m=0):=by apply propext;omega
set_option maxHeartbeats 1000000 in
theorem Wq (L:Lst)(run:ar)(k:Nat)(fr:List PV)(c:List (List ByteArray))(j:Nat)(hj:j<c.length)(hc:0<c.length)(hb:c[j].length=0∨3<c[j].length∨c[j].length≠c[0].length)(h:RF fr c j) :
  ∃ fr',af (CC L) run k xm ⟨fr,[],[]⟩=some (.ret,⟨fr',[],[]⟩)∧nth fr' 2=iv 10:=by
 obtain⟨h0,h1,h3⟩:=h
 obtain⟨r,x1,x2⟩:=jP uCl c 0 hc
 obtain⟨r',y1,y2⟩:=jP uCl c j hj
 rw[show (((0:Nat):Int))=(0:Int) from rfl] at x1
 have hl:=fQ c[j]
 have hl2:=fQ c[0]
 generalize c[0]=q at *
 generalize c[j]=p at *
 generalize p.length=m at *
 generalize q.length=m0 at *
 simp only[iv] at h3
 by_cases b1:m=0
 ·subst b1
  simp[iv,xm,rkB,blk,seq1,cA,rkO,rkC,Tryz.f22,az,af,aJ,ao,aq,aH,ag,ai,aj,an,aF,aC,FP.none,bd,au,bj,aw,bM,partOf,aa,ae,ab,bh,h0,h1,h3,hl,uPt,y1,y2,aU,aPt,sPt,undef,number,FP.free]
 ·by_cases b2:3<m
  ·simp[iv,xm,rkB,blk,seq1,cA,rkO,rkC,Tryz.f22,az,af,aJ,ao,aq,aH,ag,ai,aj,an,aF,aC,FP.none,bd,au,bj,aw,bM,partOf,aa,ae,ab,bh,h0,h1,h3,hl,uPt,y1,y2,aU,aPt,sPt,undef,b1,b2,gt3,lt1,number,FP.free]
  ·have b3:m≠m0:=by rcases hb with hb | hb | hb <;> first | exact absurd hb b1 | exact absurd hb b2 | exact hb
   simp[iv,xm,rkB,blk,seq1,cA,rkO,rkC,Tryz.f22,az,af,aJ,ao,aq,aH,ag,ai,aj,an,aF,aC,FP.none,bd,au,bj,aw,bM,partOf,aa,ae,ab,bh,DN,h0,h1,h3,hl,hl2,uPt,x1,x2,y1,y2,aU,aPt,sPt,b1,b2,b3,gt3,lt1,number,FP.free]
set_option maxHeartbeats 1000000 in
theorem abk (L:Lst)(run:ar)(k:Nat)(fr:List PV)(c:List (List ByteArray))(j:Nat)(hj:j<c.length)(hc:0<c.length)(b1:c[j].length≠0)(b2 : ¬ 3<c[j].length)(b3:c[j].length=c[0].length)(h:RF fr c j) :
  ∃ fr1 fr',af (CC L) run k xm ⟨fr,[],[]⟩=some (.normal,⟨fr1,[],[]⟩)∧af (CC L) run k Pb ⟨fr1,[],[]⟩=some (.normal,⟨fr',[],[]⟩)∧RF fr' c j∧nth fr' 4=iv 0:=by
 obtain⟨h0,h1,h3⟩:=h
 obtain⟨r,x1,x2⟩:=jP uCl c 0 hc
 obtain⟨r',y1,y2⟩:=jP uCl c j hj
 rw[show (((0:Nat):Int))=(0:Int) from rfl] at x1
 have hl:=fQ c[j]
 have hl2:=fQ c[0]
 rw[← b3] at hl2
 clear b3
 generalize c[0]=q at *
 generalize c[j]=p at *
 generalize p.length=m at *
 simp only[iv] at h3
 obtain⟨fr1,g1,g2,g3,g4⟩:∃ fr1,af (CC L) run k xm ⟨fr,[],[]⟩=some (.normal,⟨fr1,[],[]⟩)∧fr1.length=58∧nth fr1 0=cE c∧nth fr1 3 = .sc (.int .i64 (j:Int)):=by
  simp[xm,rkB,blk,seq1,cA,rkO,rkC,Tryz.f22,az,af,aJ,ao,aq,aH,ag,ai,aj,an,aF,aC,FP.none,bd,au,bj,aw,bM,partOf,aa,ae,ab,bh,h0,h1,h3,hl,hl2,uPt,x1,x2,y1,y2,aU,aPt,sPt,b1,b2,gt3,lt1,number,FP.free]
 refine⟨fr1,?_⟩
 rw[g1]
 simp[RF,iv,Pb,rkB,blk,seq1,cA,rkO,rkC,Tryz.f22,az,af,aJ,ao,aq,aH,ag,ai,aj,an,aF,aC,FP.none,aw,aa,ae,ab,and_assoc,g2,g3,g4]
theorem aeF (L:Lst)(run:ar)(k:Nat)(fr:List PV)(c:List (List ByteArray))(j:Nat)(hj:j<1000)(h:RF fr c j) :
  ∃ fr',af (CC L) run k abi ⟨fr,[],[]⟩=some (.normal,⟨fr',[],[]⟩)∧RF fr' c (j+1):=by
 obtain⟨h0,h1,h3⟩:=h
 have hw:=bE j (by omega)
 simp only[iv] at h3
 simp[RF,iv,abi,cA,rkO,rkC,Tryz.f22,az,af,aJ,ao,aq,aH,ag,ai,aj,an,aF,aC,FP.none,bd,au,bj,aw,aa,ae,ab,h0,h1,h3,hw]
theorem BQ (L:Lst)(run:ar)(k:Nat)(hk:200≤k)(c:List (List ByteArray))(hF:Fit c)(g:∀ s:ByteArray,(bys s).length≤100000→aA L run 23 [.sc (.string s)] (.sc (.bool (pB (IsV s))))):∀ (n j:Nat) (fr:List PV),j+n=c.length→RF fr c j →
  (∃ fr',jx (hdL c) (c.drop j)=0∧cl (af (CC L) run k rkO) (n+1) ⟨fr,[],[]⟩=some (.exit 0,⟨fr',[],[]⟩)∧fr'.length=58)∨∃ fr',jx (hdL c) (c.drop j)≠0∧cl (af (CC L) run k rkO) (n+1) ⟨fr,[],[]⟩=some (.ret,⟨fr',[],[]⟩)∧nth fr' 2=iv (jx (hdL c) (c.drop j))
 | 0,j,fr,hjn,h=>by
  have e:j=c.length:=by omega
  subst e
  obtain⟨fr',q1,q2⟩:=Wo L run k fr c h
  rw[List.drop_length]
  exact .inl ⟨fr',rfl,bD q1,q2⟩
 | n+1,j,fr,hjn,h=>by
  have hj:j<c.length:=by omega
  have hc:0<c.length:=by omega
  have hh:hdL c=c[0].length:=by
   cases c with
   | nil=>simp at hc
   | cons p r=>rfl
  obtain⟨fr1,a1,a4⟩:=aeG L run k fr c j hj h
  have hFp:=hF.2 c[j] (List.getElem_mem hj)
  have hFc:=hF.1
  rw[List.drop_eq_getElem_cons hj]
  have run_ret:∀ {fr'},af (CC L) run k (.seq xm (.seq Pb (.block 2 (.loop rkI)))) ⟨fr1,[],[]⟩=some (.ret,⟨fr',[],[]⟩)→cl (af (CC L) run k rkO) (n+1+1) ⟨fr,[],[]⟩=some (.ret,⟨fr',[],[]⟩):=by
   intro fr' hr
   refine eF ?_
   rw[Pa,av a1]
   exact cB (jQ hr)
  by_cases hb:c[j].length=0∨3<c[j].length∨c[j].length≠c[0].length
  ·obtain⟨fr',b1,b2⟩:=Wq L run k fr1 c j hj hc hb a4
   have hcp:qp (hdL c) c[j]=10:=by unfold qp;rw[hh,if_pos hb]
   refine .inr ⟨fr',?_,run_ret ?_,?_⟩
   ·rw[jx,hcp];simp
   ·rw[cB b1]
   ·rw[jx,hcp];exact b2
  ·have n1:c[j].length≠0:=fun e=>hb (.inl e)
   have n2 : ¬ 3<c[j].length:=fun e=>hb (.inr (.inl e))
   have n3:c[j].length=c[0].length:=Classical.byContradiction fun e=>hb (.inr (.inr e))
   obtain⟨fr3,fr4,b1,b2,b3,b6⟩:=abk L run k fr1 c j hj hc n1 n2 n3 a4
   obtain⟨fr5,d1,d2,d3⟩:=BR L run k c j hj hFp.1 (fun s hs=>g s (hFp.2 s hs)) c[j].length 0 fr4 (by omega) b3 b6
   rw[List.drop_zero] at d1 d2 d3
   have hcp:qp (hdL c) c[j]=bif c[j].all (fun s=>pB (IsV s)) then 0 else 1:=by unfold qp;rw[hh,if_neg hb]
   cases hv:c[j].all (fun s=>pB (IsV s)) with
   | false =>
    rw[hv] at d1 hcp
    have d4:=d3 hv
    refine .inr ⟨fr5,?_,run_ret ?_,?_⟩
    ·rw[jx,hcp];simp
    ·rw[av b1,av b2]
     exact da (ca d1 (by omega))
    ·rw[jx,hcp];exact d4
   | true =>
    rw[hv] at d1 hcp
    have d4:=d2 hv
    obtain⟨fr6,e1,e2⟩:=aeF L run k fr5 c j (by omega) d4
    have hgo:af (CC L) run k rkO ⟨fr,[],[]⟩=some (.normal,⟨fr6,[],[]⟩):=by
     rw[Pa,av a1]
     have:af (CC L) run k (.seq xm (.seq Pb (.block 2 (.loop rkI)))) ⟨fr1,[],[]⟩=some (.normal,⟨fr5,[],[]⟩):=by
      rw[av b1,av b2]
      exact bH (ca d1 (by omega))
     rw[av (dW this)]
     exact e1
    have hce:jx (hdL c) (c[j]::c.drop (j+1))=jx (hdL c) (c.drop (j+1)):=by rw[jx,hcp];rfl
    rw[hce,ch hgo]
    exact BQ L run k hk c hF g n (j+1) fr6 (by omega) e2
noncomputable def O9:Code:=seq1 (seq1 (ah 2 rkC))
theorem abc:ah 2 rkC = .seq (.seq O9 (.block 0 (.loop rkO))) (ah 3 rkC):=rfl
theorem Wm (L:Lst)(run:ar)(k:Nat)(c:List (List ByteArray))(h:64<c.length):∃ st,af (CC L) run k rkC ⟨entry 58 [cE c],[],[]⟩=some (.ret,st)∧aZ TT st.fr st.hp Tryz.f22.results.toList=some [iv 3]:=by
 obtain⟨e1,e2⟩:=cW 57 (cE c)
 generalize entry 58 [cE c]=fr0 at *
 have hl:=iz c
 generalize c.length=m at *
 have h2:((m:Int) > 64)=True:=by simp;omega
 have h3:((64:Int)<m)=True:=by simp;omega
 simp[iv,rkC,Tryz.f22,e1,e2,af,aJ,ao,aq,aH,ag,ai,aj,an,aF,aC,FP.none,bd,au,bj,aw,bM,aa,ae,ab,bh,hl,uCl,h2,aZ]
theorem abe (L:Lst)(run:ar)(k:Nat)(c:List (List ByteArray))(h : ¬ 64<c.length):∃ fr fr',aY (CC L) run k 2 rkC ⟨entry 58 [cE c],[],[]⟩=some ⟨fr,[],[]⟩∧af (CC L) run k O9 ⟨fr,[],[]⟩=some (.normal,⟨fr',[],[]⟩)∧RF fr' c 0:=by
 obtain⟨e1,e2⟩:=cW 57 (cE c)
 generalize entry 58 [cE c]=fr0 at *
 have hl:=iz c
 have h2:((c.length:Int) > 64)=False:=by simp;omega
 have h3:((64:Int)<c.length)=False:=by simp;omega
 obtain⟨fr,a1,a2,a3⟩:∃ fr,aY (CC L) run k 2 rkC ⟨fr0,[],[]⟩=some ⟨fr,[],[]⟩∧fr.length=58∧nth fr 0=cE c:=by
  simp[rkC,Tryz.f22,aY,e1,e2,af,aJ,ao,aq,aH,ag,ai,aj,an,aF,aC,FP.none,bd,au,bj,aw,bM,aa,ae,ab,bh,hl,uCl,h2]
 refine⟨fr,?_⟩
 rw[a1]
 simp[RF,iv,O9,seq1,ah,rkC,Tryz.f22,a2,a3,af,aJ,ao,aq,aH,ag,ai,aj,an,aF,aC,FP.none,aw,aa,ae,ab]
theorem Wl (L:Lst)(run:ar)(k:Nat)(fr:List PV)(h0:fr.length=58):∃ st,af (CC L) run k (ah 3 rkC) ⟨fr,[],[]⟩=some (.ret,st)∧aZ TT st.fr st.hp Tryz.f22.results.toList=some [iv 0]:=by
 simp[iv,rkC,ah,Tryz.f22,h0,af,aJ,ao,aq,aH,ag,ai,aj,an,aF,aC,FP.none,aw,aa,aZ]
theorem abd (fr:List PV)(n:Nat)(h:nth fr 2=iv n):aZ TT fr [] Tryz.f22.results.toList=some [iv n]:=by
 simp[Tryz.f22,aZ,h]
theorem Wn (L:Lst)(run:ar)(k:Nat)(hk:200≤k)(c:List (List ByteArray))(hF:Fit c)(g:∀ s:ByteArray,(bys s).length≤100000→aA L run 23 [.sc (.string s)] (.sc (.bool (pB (IsV s))))) :
  ∃ st,af (CC L) run k rkC ⟨entry 58 [cE c],[],[]⟩=some (.ret,st)∧aZ TT st.fr st.hp Tryz.f22.results.toList=some [iv (chk c)]:=by
 unfold chk
 by_cases h:64<c.length
 ·rw[if_pos h];exact Wm L run k c h
 ·rw[if_neg h]
  obtain⟨fr,fr1,a1,a2,a3⟩:=abe L run k c h
  rw[aP 2 a1,abc]
  have hl:=BQ L run k hk c hF g c.length 0 fr1 (by omega) a3
  rw[List.drop_zero] at hl
  rcases hl with ⟨fr2,h0,b1,b2⟩| ⟨fr3,b0,b1,b2⟩
  ·have:af (CC L) run k (.seq O9 (.block 0 (.loop rkO))) ⟨fr,[],[]⟩=some (.normal,⟨fr2,[],[]⟩):=by
    rw[av a2];exact bH (ca b1 (by have:=hF.1;omega))
   rw[av this,h0]
   exact Wl L run k fr2 b2
  ·have:af (CC L) run k (.seq O9 (.block 0 (.loop rkO))) ⟨fr,[],[]⟩=some (.ret,⟨fr3,[],[]⟩):=by
    rw[av a2];exact da (ca b1 (by have:=hF.1;omega))
   rw[cB this]
   exact⟨_,rfl,abd fr3 _ b2⟩
noncomputable def LQ5:Lst:=[(77,Es),(23,O2)]
theorem UQ:dL base.P LQ5:=⟨Er,Ky,trivial⟩
theorem tY {c d:List (List ByteArray)}(h:[cE c]=[cE d]):c=d:=AM (by simpa using h)
theorem Uh:Ab.Spec base.P 80 Hc:=Ab.Spec.bQ (C:=CC LQ5) (cV UQ) fun args rs h=>by
 obtain⟨c,hF,rfl,rfl⟩:=dz h
 obtain⟨st,x1,x2⟩:=ZV LQ5 (runK (CC LQ5) 200) 200 (by omega) c hF (fun s h9=>aac rfl _ s h9)
 exact⟨201,_,_,_,_,_,aX Ek rfl x1 x2,rfl,Wk.refl rfl,trivial⟩
theorem yb:Ab.Spec base.P 22 Hc:=Ab.Spec.bQ (C:=CC LQ5) (cV UQ) fun args rs h=>by
 obtain⟨c,hF,rfl,rfl⟩:=dz h
 obtain⟨st,x1,x2⟩:=Wn LQ5 (runK (CC LQ5) 200) 200 (by omega) c hF (fun s h9=>aee rfl _ s h9)
 exact⟨201,_,_,_,_,_,aX xD rfl x1 x2,rfl,Wk.refl rfl,trivial⟩
theorem pw (hp:List Blk)(c:List (List ByteArray)):bt (snap hp bp) [cE c]=some ([cE c],[]):=rfl
theorem og (c:List (List ByteArray)):aK [cE c]=[cE c]:=by simp only[aK,nC]
theorem aaI {L:Lst}(hL:bw L 80=fun a=>Hc (aK a))(run:ar)(c:List (List ByteArray))(hF:Fit c):aA L run 80 [cE c] (iv (chk c)) :=
 jZ Kq (e:=fun c=>[cE c]) (f:=fun c=>[iv (chk c)]) hL (fun x y _ _ h=>by rw[tY h]) run c hF (pw · c) (og c)
theorem UX {L:Lst}(hL:bw L 22=fun a=>Hc (aK a))(run:ar)(c:List (List ByteArray))(hF:Fit c):aA L run 22 [cE c] (iv (chk c)) :=
 jZ BD (e:=fun c=>[cE c]) (f:=fun c=>[iv (chk c)]) hL (fun x y _ _ h=>by rw[tY h]) run c hF (pw · c) (og c)
def rc:Option Rat→List PV
 | none=>[.sc (.bool (bx 0)),aM (aG (Int.natAbs 0)),.sc (.bool (bx 0)),aM (aG (Int.natAbs 0))]
 | some x=>[.sc (.bool (bx x.num)),aM (aG x.num.natAbs),.sc (.bool (bx x.den)),aM (aG (x.den:Int).natAbs)]
theorem x0 (u:Option Rat):rv u = .agg (rc u):=by cases u <;> rfl
def rz:List PV:=[.sc (.bool false),.sc (.slice none 0 0),.sc (.bool false),.sc (.slice none 0 0)]
theorem Aa (u:Option Rat):(rc u).length=4:=by cases u <;> rfl
theorem qc:Ec 4 rc where
 len:=Aa
 okc:=fun u=>by cases u <;> rfl
 can:=fun u=>by
  have h:=qA u
  rw[x0,canon] at h
  simpa using h
 idf:=fun u=>by cases u <;> rfl
 sn:=fun hp d u=>by cases u <;> rfl
def rcs (x:Rat):List PV:=rc (some x)
theorem cG:Ec 4 rcs where
 len:=fun x=>qc.len _
 okc:=fun x=>qc.okc _
 can:=fun x=>qc.can _
 idf:=fun x=>qc.idf _
 sn:=fun hp d x=>qc.sn hp d _
theorem js (x:Rat):rv (some x) = .agg (rcs x):=rfl
def Rp (p:PV)(u:Option Rat):Prop:=p=rv u∨(u=none∧p = .agg rz)
def Rc (cs:List PV)(u:Option Rat):Prop:=cs=rc u∨(u=none∧cs=rz)
theorem Rc.p {cs:List PV}{u:Option Rat}(h:Rc cs u):Rp (.agg cs) u:=by
 rcases h with rfl | ⟨rfl,rfl⟩
 ·exact .inl (x0 u).symm
 ·exact .inr ⟨rfl,rfl⟩
theorem Rc.len {cs:List PV}{u:Option Rat}(h:Rc cs u):cs.length=4:=by
 rcases h with rfl | ⟨rfl,rfl⟩
 ·exact Aa u
 ·rfl
theorem Rp.snap {p:PV}{u:Option Rat}(h:Rp p u)(hp:List Blk)(d:Nat):Ab.snap hp (d+2) p=some (p,[]):=by
 rcases h with rfl | ⟨rfl,rfl⟩
 ·exact VH hp d u
 ·rfl
theorem Rp.canon {p:PV}{u:Option Rat}(h:Rp p u):Ab.canon p=rv u:=by
 rcases h with rfl | ⟨rfl,rfl⟩
 ·exact qA u
 ·rfl
theorem Rp.wk {p:PV}{u:Option Rat}(h:Rp p u):Wk p (rv u):=by
 rcases h with rfl | ⟨rfl,rfl⟩
 ·exact Wk.refl (by cases u <;> rfl)
 ·exact Wk.agg ⟨Wk.refl rfl,Wk.nil false,Wk.refl rfl,Wk.nil false,trivial⟩
theorem Rp.Ig {p:PV}{u:Option Rat}(h:Rp p u)(hp:List Blk):bt (Ab.snap hp bp) [p]=some ([p],[]):=by
 have:=h.snap hp 10
 show bt (Ab.snap hp 12) [p]=_
 simp only[bt,this];rfl
theorem Rp.aaq {p q:PV}{u v:Option Rat}(h:Rp p u)(h':Rp q v)(hp:List Blk):bt (Ab.snap hp bp) [p,q]=some ([p,q],[]):=by
 have h1:=h.snap hp 10
 have h2:=h'.snap hp 10
 show bt (Ab.snap hp 12) [p,q]=_
 simp only[bt,h1,h2];rfl
theorem jW {L:Lst}{g:Nat}{f:List PV→Option (List PV)}(hs:base.shared g=false)(ho:bw L g=fun a=>f (aK a))(run:ar)(dr:Bool)(hp:List Blk)(args args' rs:List PV)
  (h1:bt (snap hp bp) args=some (args,[])) (h2:aK args=args') (h3:f args'=some rs):cg (CC L) run dr hp g args=some (iO rs,hp,⟨[],[],false,false⟩):=by
 have h4:(CC L).orc g args=some rs:=by
  show bw L g args=_
  rw[ho];show f (aK args)=_;rw[h2,h3]
 by_cases h:rs.all eo=true
 ·exact lv hs h1 h4 h
 ·exact eI hs h1 h4 (by simpa using h)
theorem UR {L:Lst}(hL:bw L 87=fun a=>iG (aK a))(run:ar){p q:PV}{u v:Option Rat}(hp:Rp p u)(hq:Rp q v){j k:Nat}(hu:Rb j (vv u))(hv:Rb k (vv v))(h:j+k≤1000000):aA L run 87 [p,q] (rv (some (vv u+vv v))):=fun dr hh =>
 jW Io hL run dr hh _ _ [rv (some (vv u+vv v))] (hp.aaq hq hh) (by simp only[aK,hp.canon,hq.canon]) (B0 hu hv h)
theorem Hz {L:Lst}(hL:bw L 56=fun a=>j8 (aK a))(run:ar){p q:PV}{u v:Option Rat}(hp:Rp p u)(hq:Rp q v){j k:Nat}(hu:Rb j (vv u))(hv:Rb k (vv v))(h:j+k≤1000000):aA L run 56 [p,q] (rv (some (vv u*vv v))):=fun dr hh =>
 jW VX hL run dr hh _ _ [rv (some (vv u*vv v))] (hp.aaq hq hh) (by simp only[aK,hp.canon,hq.canon]) (O8 hu hv h)
theorem aeb {L:Lst}(hL:bw L 106=fun a=>jI (aK a))(run:ar){p:PV}{u:Option Rat}(hp:Rp p u){j:Nat}(hu:Rb j (vv u))(h:j≤1000000):aA L run 106 [p] (rv (Fa u)):=fun dr hh =>
 jW Im hL run dr hh _ _ [rv (Fa u)] (hp.Ig hh) (by simp only[aK,hp.canon]) (BP hu h)
theorem AU {L:Lst}(hL:bw L 49=fun a=>iq (aK a))(run:ar){p:PV}{u:Option Rat}(hp:Rp p u){j:Nat}(hu:Rb j (vv u))(h:j≤1000000):aA L run 49 [p] (Ab.bJ (kV (vv u))):=fun dr hh =>
 jW BH hL run dr hh _ _ [Ab.bJ (kV (vv u))] (hp.Ig hh) (by simp only[aK,hp.canon]) (x6 hu h)
def eu (x:Bool)(X:List Rat):PV:=.imm X.length x (X.flatMap rcs)
def vR (X:List Rat):PV:=eu false X
theorem zj (x:Bool)(X:List Rat):canon (eu x X)=vR X:=cG.adL _ x X rfl
theorem Bd:und TT 84=some (.slice 72):=by kernel_rfl
theorem bR:iT TT 72=some 64:=by kernel_rfl
theorem zRz:eK TT 72=some rz:=by kernel_rfl
theorem pA:dc TT 84=some 1:=by kernel_rfl
theorem UJ:fR TT 84=some false:=by kernel_rfl
theorem Gk (x:Bool)(X:List Rat):dw (eu x X)=true:=rfl
theorem rG (id n i:Nat)(x:Bool)(hi:i<n):bc TT 84 (.own id 4 0 n x) (.sc (.int .i64 (i:Int)))=some (.ptr id (i*4)):=by
 simp only[bc,Bd,bm,sR,hi,and_self,if_true,Nat.zero_add]
theorem aao (cs rest:List PV)(h:cs.length=4):bG (cs++rest) 4=some cs:=by
 rw[dM (by simp;omega),← h,List.take_left]
theorem m9 (x:Bool)(X:List Rat)(i:Nat)(hi:i<X.length):∃ r,bc TT 84 (eu x X) (.sc (.int .i64 (i:Int)))=some (.iptr r)∧bG r 4=some (rcs X[i]):=by
 refine⟨br (X.flatMap rcs) (i*4),?_,?_⟩
 ·unfold eu
  simp only[bc,Bd,bm,sR,hi,if_true]
 ·rw[oc cG.toEl X i hi,aao _ _ (cG.len _)]
theorem ru (A:List PV)(m:Nat)(cs:List PV)(h:cs.length=4)(i:Nat)(hi:A.length=i*4):cj (A++rep (m+1) rz) (i*4) cs=some ((A++cs)++rep m rz):=by
 have:=yE A (rep (m+1) rz) cs (cs++rep m rz) 0 (vM rz cs (rep m rz) (by rw[h];rfl))
 rw[show A.length+0=i*4 by omega] at this
 rw[this,List.append_assoc]
theorem iP (X:List Rat):(X.flatMap rcs).length=X.length*4:=cG.length X
theorem HK:base.F.get 59=some Tryz.f59:=by kernel_rfl
theorem Oy:base.shared 59=false:=by kernel_rfl
noncomputable def prC:Code:=Tryz.f59.body.getD .skip
noncomputable def prB:Code:=(az prC).getD .skip
def PF (fr:List PV)(P:List ByteArray)(i:Nat):Prop:=fr.length=26∧nth fr 3 = .own 0 4 0 P.length true∧nth fr 9=pE P∧nth fr 10=iv P.length∧nth fr 11=iv i
theorem abA (L:Lst)(run:ar)(k:Nat)(fr:List PV)(hp:List Blk)(wr:List Nat)(P:List ByteArray)(h:PF fr P P.length) :
  ∃ fr',af (CC L) run k prB ⟨fr,hp,wr⟩=some (.exit 0,⟨fr',hp,wr⟩)∧fr'.length=26∧nth fr' 3 = .own 0 4 0 P.length true:=by
 obtain⟨h0,h3,h9,h10,h11⟩:=h
 simp only[iv] at h10 h11
 simp[prB,prC,Tryz.f59,az,af,aJ,ao,aq,aH,ag,ai,aj,an,aF,aC,FP.none,bd,au,bj,aa,ae,ab,h0,h3,h10,h11]
set_option maxHeartbeats 1000000 in
theorem QQ (L:Lst)(run:ar)(k:Nat)(fr:List PV)(wr:List Nat)(P:List ByteArray)(i m:Nat)(A:List PV)(x:Rat)(hi:i<P.length)(h9':P.length≤1000)(hA:A.length=i*4)(g:aA L run 108 [.sc (.string P[i])] (.tup [rv (some x),.sc (.bool true)]))(h:PF fr P i) :
  ∃ fr' wr',af (CC L) run k prB ⟨fr,[⟨.live,A++rep (m+1) rz⟩],wr⟩=some (.normal,⟨fr',[⟨.live,(A++rcs x)++rep m rz⟩],wr'⟩)∧PF fr' P (i+1):=by
 obtain⟨h0,h3,h9,h10,h11⟩:=h
 obtain⟨r,x1,x2⟩:=IX uPt P i hi
 have x3:=rG 0 P.length i true hi
 have ho:=ru A m (rcs x) (cG.len x) i hA
 have hw:=bE i (by omega)
 have hok:=cG.okc x
 have hlen:=cG.len x
 rw[js] at g
 unfold aA at g
 generalize P[i]=s at *
 generalize rcs x=cs at *
 generalize A++rep (m+1) rz=Z at *
 simp only[iv] at h10 h11
 simp[PF,iv,prB,prC,Tryz.f59,az,af,aJ,ao,aq,aH,ag,ai,aQ,aj,an,aF,aC,FP.none,bd,au,bj,aw,partOf,aa,ae,ab,bh,and_assoc,bn,h0,h3,h9,h10,h11,hi,x1,x2,x3,g,ho,hok,hlen,hw,aU,DS,xZ,sR,aV,bO,bn]
theorem Iy (L:Lst)(run:ar)(k:Nat)(X:List Rat)(h9:X.length≤1000)(g:∀ x ∈ X,aA L run 108 [.sc (.string (qb x))] (.tup [rv (some x),.sc (.bool true)])):∀ (n i:Nat) (fr:List PV) (wr:List Nat),i+n=X.length→PF fr (X.map qb) i →
  ∃ fr' wr',cl (af (CC L) run k prB) (n+1) ⟨fr,[⟨.live,(X.take i).flatMap rcs++rep n rz⟩],wr⟩=some (.exit 0,⟨fr',[⟨.live,X.flatMap rcs⟩],wr'⟩)∧fr'.length=26∧nth fr' 3 = .own 0 4 0 X.length true
 | 0,i,fr,wr,hin,h=>by
  have e:i=(X.map qb).length:=by simpa using hin
  rw[e] at h
  obtain⟨fr',q1,q2,q3⟩:=abA L run k fr [⟨.live,(X.take i).flatMap rcs++rep 0 rz⟩] wr (X.map qb) h
  have e2:(X.take i).flatMap rcs++rep 0 rz=X.flatMap rcs:=by
   rw[List.take_of_length_le (by omega)];simp[rep]
  rw[e2] at q1 ⊢
  exact⟨fr',wr,bD q1,q2,by rw[q3];simp⟩
 | n+1,i,fr,wr,hin,h=>by
  have hi:i<X.length:=by omega
  have hi':i<(X.map qb).length:=by simpa using hi
  have hg:=g X[i] (List.getElem_mem hi)
  obtain⟨fr1,wr1,q1,q2⟩:=QQ L run k fr wr (X.map qb) i n ((X.take i).flatMap rcs) X[i] hi' (by simpa using h9) (by rw[iP,List.length_take,Nat.min_eq_left (by omega)]) (by rw[List.getElem_map];exact hg) h
  obtain⟨fr',wr',s1,s2⟩:=Iy L run k X h9 g n (i+1) fr1 wr1 (by omega) q2
  refine⟨fr',wr',?_,s2⟩
  rw[ch q1]
  have e:(X.take i).flatMap rcs++rcs X[i]=(X.take (i+1)).flatMap rcs:=by
   rw[List.take_succ_eq_append_getElem hi,List.flatMap_append];simp
  rw[e]
  exact s1
noncomputable def W6:Code:=seq1 (seq1 (ah 2 prC))
theorem aby:ah 2 prC = .seq (.seq W6 (.block 0 (.loop prB))) (ah 3 prC):=rfl
theorem abz (L:Lst)(run:ar)(k:Nat)(P:List ByteArray)(h9:P.length≤1000) :
  ∃ fr fr' wr,aY (CC L) run k 2 prC ⟨entry 26 [pE P],[],[]⟩=some ⟨fr,[⟨.live,rep P.length rz⟩],wr⟩∧af (CC L) run k W6 ⟨fr,[⟨.live,rep P.length rz⟩],wr⟩=some (.normal,⟨fr',[⟨.live,rep P.length rz⟩],wr⟩)∧PF fr' P 0:=by
 obtain⟨e1,e2⟩:=cW 25 (pE P)
 generalize entry 26 [pE P]=fr0 at *
 have hm:P.length≤cY:=Nat.le_trans h9 (by decide)
 obtain⟨fr,wr,a1,a2,a3,a4⟩:∃ fr wr,aY (CC L) run k 2 prC ⟨fr0,[],[]⟩=some ⟨fr,[⟨.live,rep P.length rz⟩],wr⟩∧fr.length=26∧nth fr 0=pE P∧nth fr 3 = .own 0 4 0 P.length true:=by
  have hrz:rz.length=4:=rfl
  simp[prC,Tryz.f59,aY,e1,e2,af,aJ,ao,aq,aH,ag,ai,aj,an,aF,aC,FP.none,aw,bM,bm,aa,ae,ab,bh,and_assoc,fQ,uPt,Bd,sR,bR,zRz,hm,hrz,cn,aO]
 refine⟨fr,?_⟩
 simp only[a1]
 simp[PF,iv,W6,seq1,ah,prC,Tryz.f59,a2,a3,a4,af,aJ,ao,aq,aH,ag,ai,aj,an,aF,aC,FP.none,aw,bM,aa,ae,ab,bh,fQ,uPt]
theorem W5 (L:Lst)(run:ar)(k:Nat)(fr:List PV)(hp:List Blk)(wr:List Nat)(p:PV)(h0:fr.length=26)(h3:nth fr 3=p):∃ st,af (CC L) run k (ah 3 prC) ⟨fr,hp,wr⟩=some (.ret,st)∧st.hp=hp∧aZ TT st.fr st.hp Tryz.f59.results.toList=some [p]:=by
 simp[prC,ah,Tryz.f59,h0,h3,af,aJ,ao,aq,aH,ag,ai,aj,an,aF,aC,FP.none,aa,ab,aZ]
theorem H5 (hp:List Blk)(id:Nat)(x:Bool)(X:List Rat)(h:aV hp id=some ⟨.live,X.flatMap rcs⟩):bt (snap hp bp) [.own id 4 0 X.length x]=some ([eu x X],[id]):=by
 have ht:bG (br (X.flatMap rcs) 0) (X.length*4)=some (X.flatMap rcs):=by
  have:=qK cG.toEl X []
  rw[List.append_nil] at this
  rw[cL,List.drop_zero,this]
 have h1:Ab.snap hp (11+1) (.own id 4 0 X.length x)=some (eu x X,[id]):=by
  rw[Ab.snap]
  simp only[h]
  rw[if_neg (by simp),ht]
  simp only[cG.sns hp 10 X]
  rfl
 show bt (snap hp 12) _=_
 simp only[bt,h1]
 rfl
noncomputable def LR1:Lst:=[(108,rrF),(55,mM),(56,j8),(87,iG),(106,jI),(49,iq),(110,Dh)]
theorem wZ:dL base.P LR1:=⟨tK,nT,nV,nW,nU,jH,MM,trivial⟩
def RbL (k:Nat)(X:List Rat):Prop:=∀ x ∈ X,Rb k x
def qL (X:List Rat):PV:=pE (X.map qb)
theorem QM {X Y:List Rat}(h:qL X=qL Y):X=Y:=by
 have h1:=Gh h
 clear h
 induction X generalizing Y with
 | nil=>cases Y with
  | nil=>rfl
  | cons b Y=>simp at h1
 | cons a X ih=>cases Y with
  | nil=>simp at h1
  | cons b Y =>
   simp only[List.map_cons,List.cons.injEq] at h1
   rw[vy h1.1,ih h1.2]
noncomputable def rm:List PV→Option (List PV):=ctr (fun X:List Rat=>[qL X]) (fun X=>RbL 1000 X∧X.length≤1000) fun X=>[eu true X]
theorem vA:Ab.Spec base.P 59 rm:=Ab.Spec.bQ (C:=CC LR1) (cV wZ) fun args rs h=>by
 obtain⟨X,⟨hb,h9⟩,rfl,rfl⟩:=dz h
 have hX:(X.map qb).length=X.length:=List.length_map _
 obtain⟨fr,fr1,wr,a1,a2,a3⟩:=abz LR1 (runK (CC LR1) (X.length+1)) (X.length+1) (X.map qb) (by omega)
 obtain⟨fr2,wr2,b1,b2,b3⟩:=Iy LR1 (runK (CC LR1) (X.length+1)) (X.length+1) X h9 (fun x hx=>afC rfl _ (hb x hx) (by omega)) X.length 0 fr1 wr (by omega) a3
 rw[hX] at a1 a2
 have hl:af (CC LR1) (runK (CC LR1) (X.length+1)) (X.length+1) (.seq W6 (.block 0 (.loop prB))) ⟨fr,[⟨.live,rep X.length rz⟩],wr⟩=some (.normal,⟨fr2,[⟨.live,X.flatMap rcs⟩],wr2⟩):=by
  rw[av a2];exact bH b1
 obtain⟨st,c1,c2,c3⟩:=W5 LR1 (runK (CC LR1) (X.length+1)) (X.length+1) fr2 [⟨.live,X.flatMap rcs⟩] wr2 _ b2 b3
 have hx:af (CC LR1) (runK (CC LR1) (X.length+1)) (X.length+1) prC ⟨entry 26 [pE (X.map qb)],[],[]⟩=some (.ret,st):=by
  rw[aP 2 a1,aby,av hl,c1]
 exact⟨_,_,_,_,[eu true X],[0],aX HK rfl hx c3,by rw[c2];exact H5 _ 0 true X rfl,Wk.refl rfl,trivial⟩
theorem ua {L:Lst}(hL:bw L 59=fun a=>rm (aK a))(run:ar)(X:List Rat)(hb:RbL 1000 X)(h9:X.length≤1000):aA L run 59 [qL X] (eu true X) :=
 jZ Oy (e:=fun X=>[qL X]) (f:=fun X=>[eu true X]) hL (fun x y _ _ h=>by rw[QM (X:=x) (Y:=y) (by simpa using h)]) run X ⟨hb,h9⟩ (fun _=>rfl) (by simp only[aK,qL,DC])
end Go.Proofs.YtjdmodeenbdfpaaGreat
